/- Raw blocks: two rows of blocks that grow side by side. Contract of bruitlaw23.blocks. ShowBlocks. -/
import Derived.Test.YtllcipobiengiaaGreatYWq
set_option linter.unusedVariables false
set_option linter.unusedSimpArgs false
namespace Go.Proofs.YtllcipobiengiaaGreat
open Go Go.RowKit

structure RawM where
 kind:Int
 num:Int
 subs:UInt8
def encRaw(r:RawM):List Value:=[.int .i64 r.kind,.int .i64 r.num,.int .u8 r.subs.toNat]
theorem encRaw_len(r:RawM):(encRaw r).length=3:=rfl
mutual
def nodB:BlkM→Nat
 | .mk _ _ s=>1+nodL s
def nodL:List BlkM→Nat
 | []=>0
 | b :: r=>nodB b+nodL r
end
theorem nodB_mk(k n:Int)(s:List BlkM):nodB (.mk k n s)=1+nodL s:=by rw [nodB]
theorem nodL_nil:nodL []=0:=by rw [nodL]
theorem nodL_cons(b:BlkM)(r:List BlkM):nodL (b :: r)=nodB b+nodL r:=by rw [nodL]
theorem nodL_append:∀ a b:List BlkM,nodL (a++b)=nodL a+nodL b
 | [],b=>by rw [List.nil_append,nodL_nil,Nat.zero_add]
 | x :: a,b=>by rw [List.cons_append,nodL_cons,nodL_cons,nodL_append a b];omega
theorem nodB_pos:∀ b:BlkM,1≤nodB b
 | .mk k n s=>by rw [nodB_mk];omega
theorem len_nodL:∀ bs:List BlkM,bs.length≤nodL bs
 | []=>Nat.zero_le _
 | b :: r=>by have h1:=len_nodL r;have h2:=nodB_pos b;rw [nodL_cons,List.length_cons];omega
mutual
theorem seen_nodB(l:List VertM):∀ b:BlkM,(seenOne l b).length+1≤4*nodB b
 | .mk k n s=>by
  obtain⟨h1,h2⟩:=seen_nodL l s
  rw [seenOne_mk,nodB_mk]
  split
  ·
   split <;> simp <;> omega
  ·
   split
   ·
    omega
   ·
    split
    ·
     have:=h2 markS true
     simp;omega
    ·
     split
     ·
      have:=h2 markT true
      simp;omega
     ·
      simp;omega
theorem seen_nodL(l:List VertM):∀ bs:List BlkM,(seenAll l bs).length≤4*nodL bs∧∀ m f,(seenJoin l m f bs).length≤4*nodL bs
 | []=>by rw [seenAll_nil];exact⟨Nat.zero_le _,fun m f=>by rw [seenJoin_nil];exact Nat.zero_le _⟩
 | b :: r=>by
  have h1:=seen_nodB l b
  obtain⟨h2,h3⟩:=seen_nodL l r
  rw [seenAll_cons,nodL_cons,List.length_append]
  refine⟨by omega,fun m f => ?_⟩
  have h4:=h3 m false
  rw [seenJoin_cons]
  cases f <;> simp <;> omega
end
def Apt(lo:Nat)(w:World)(ga gb:Option Nat)(b:Nat):Prop:=lo≤b∧b<w.heap.size∧some b≠ga∧some b≠gb
structure TwoB (w:World) (lo:Nat) (va:Value) (xs:List BlL) (vb:Value) (ys:List BlL):Prop where
 a:GOwn encBl 3 147 w lo va xs
 b:GOwn encBl 3 149 w lo vb ys
 ia:BIns (Apt lo w va.ownBlock vb.ownBlock) w xs
 ib:BIns (Apt lo w va.ownBlock vb.ownBlock) w ys
 ne:va.ownBlock=none∨va.ownBlock≠vb.ownBlock
theorem two_nil(w:World)(lo:Nat):TwoB w lo (.slice none 0 0) [] (.slice none 0 0) []:=⟨gown_nil _ _,gown_nil _ _,bins_nil,bins_nil,.inl rfl⟩
theorem TwoB.over{w w':World}{lo:Nat}{va vb:Value}{xs ys:List BlL}(h:TwoB w lo va xs vb ys)(hb:Below w.heap.size w w'):TwoB w' lo va xs vb ys:=by
 have ap:∀ b,Apt lo w va.ownBlock vb.ownBlock b→Apt lo w' va.ownBlock vb.ownBlock b:=fun b q=>⟨q.1,Nat.lt_of_lt_of_le q.2.1 hb.size,q.2.2⟩
 exact⟨h.a.over hb,h.b.over hb,BIns.mono ap (fun _ _ _ h=>h.over hb) xs h.ia,BIns.mono ap (fun _ _ _ h=>h.over hb) ys h.ib,h.ne⟩
section
variable {w w9 : World} {lo lo5 : Nat} {va vb v9 c d : Value} {xs ys cs ds : List BlL} {x y : BlL}
theorem apt_a(hg:w.grownBy w9 va.ownBlock)(hk:v9.ownBlock=va.ownBlock∨∃ k,v9.ownBlock=some k∧w.heap.size≤k)(b:Nat)(q:Apt lo w va.ownBlock vb.ownBlock b):Apt lo w9 v9.ownBlock vb.ownBlock b:=by
 refine⟨q.1,Nat.lt_of_lt_of_le q.2.1 hg.size,?_,q.2.2.2⟩
 rcases hk with h1|⟨k,h1,h2⟩
 ·
  rw [h1];exact q.2.2.1
 ·
  rw [h1];intro e;cases e;have:=q.2.1;omega
theorem apt_b(hg:w.grownBy w9 vb.ownBlock)(hk:v9.ownBlock=vb.ownBlock∨∃ k,v9.ownBlock=some k∧w.heap.size≤k)(b:Nat)(q:Apt lo w va.ownBlock vb.ownBlock b):Apt lo w9 va.ownBlock v9.ownBlock b:=by
 refine⟨q.1,Nat.lt_of_lt_of_le q.2.1 hg.size,q.2.2.1,?_⟩
 rcases hk with h1|⟨k,h1,h2⟩
 ·
  rw [h1];exact q.2.2.2
 ·
  rw [h1];intro e;cases e;have:=q.2.1;omega
theorem kept_a(hg:w.grownBy w9 va.ownBlock)(hk:v9.ownBlock=va.ownBlock∨∃ k,v9.ownBlock=some k∧w.heap.size≤k)(hy:BIn (Apt lo w va.ownBlock vb.ownBlock) w y):BIn (Apt lo w9 v9.ownBlock vb.ownBlock) w9 y:=
 BIn.mono (apt_a hg hk) (fun _ _ hu hr=>grow_keptB hg (fun b hb=>(hu b hb).2.2.1) hr) y hy
theorem TwoB.pushA(h:TwoB w lo va xs vb ys)(hx:BIn (Apt lo w va.ownBlock vb.ownBlock) w x)(ho:GOwn encBl 3 147 w9 lo v9 (xs++[x]))(hg:w.grownBy w9 va.ownBlock)(hk:v9.ownBlock=va.ownBlock∨∃ k,v9.ownBlock=some k∧w.heap.size≤k):TwoB w9 lo v9 (xs++[x]) vb ys:=by
 have kp:∀(u:Value) (us:List BlL),(∀ b,u.ownBlock=some b→Apt lo w va.ownBlock vb.ownBlock b)→GRow encBl 3 w u us→GRow encBl 3 w9 u us:=fun u us hu hr=>grow_keptB hg (fun b hb=>(hu b hb).2.2.1) hr
 refine⟨ho,own_grown h.b hg ?_,bins_append (BIns.mono (apt_a hg hk) kp xs h.ia) (bins_one (BIn.mono (apt_a hg hk) kp x hx)),BIns.mono (apt_a hg hk) kp ys h.ib,?_⟩
 ·
  rcases h.ne with h1|h1
  ·
   rw [h1]
   cases hb:vb.ownBlock with
   | none=>exact .inl rfl
   | some k=>exact .inr (by simp)
  ·
   exact .inr (Ne.symm h1)
 ·
  rcases hk with h1|⟨k,h1,h2⟩
  ·
   rw [h1];exact h.ne
  ·
   refine .inr fun e => ?_
   rw [h1] at e
   have:=gown_size h.b e.symm
   omega
theorem TwoB.pushB(h:TwoB w lo va xs vb ys)(hy:BIn (Apt lo w va.ownBlock vb.ownBlock) w y)(ho:GOwn encBl 3 149 w9 lo v9 (ys++[y]))(hg:w.grownBy w9 vb.ownBlock)(hk:v9.ownBlock=vb.ownBlock∨∃ k,v9.ownBlock=some k∧w.heap.size≤k):TwoB w9 lo va xs v9 (ys++[y]):=by
 have kp:∀(u:Value) (us:List BlL),(∀ b,u.ownBlock=some b→Apt lo w va.ownBlock vb.ownBlock b)→GRow encBl 3 w u us→GRow encBl 3 w9 u us:=fun u us hu hr=>grow_keptB hg (fun b hb=>(hu b hb).2.2.2) hr
 refine⟨own_grown h.a hg ?_,ho,BIns.mono (apt_b hg hk) kp xs h.ia,bins_append (BIns.mono (apt_b hg hk) kp ys h.ib) (bins_one (BIn.mono (apt_b hg hk) kp y hy)),?_⟩
 ·
  exact h.ne
 ·
  rcases hk with h1|⟨k,h1,h2⟩
  ·
   rw [h1];exact h.ne
  ·
   cases ha:va.ownBlock with
   | none=>exact .inl rfl
   | some g =>
    refine .inr fun e => ?_
    rw [h1] at e
    cases e
    have:=gown_size h.a ha
    omega
theorem own_one{E:TypeId}(h:GOwn encBl 3 E w lo va xs):va.oneCell'=true:=by
 rcases h.2 with⟨rfl,_⟩|⟨g,cap,cur,rfl,_⟩ <;> rfl
theorem TwoB.blockA(h:TwoB w lo5 c cs d ds)(hlo:lo≤lo5){ga gb:Option Nat}(ha:∀ b,ga=some b→b<lo5)(hb:∀ b,gb=some b→b<lo5)(k n:Int):BIn (Apt lo w ga gb) w (.mk k n c cs):=by
 have ap:∀ b,lo5≤b→b<w.heap.size→Apt lo w ga gb b:=fun b h1 h2=>⟨by omega,h2,fun e=>by have:=ha b e.symm;omega,fun e=>by have:=hb b e.symm;omega⟩
 exact bin_mk.2 ⟨h.a.row,own_one h.a,fun b q=>ap b (gown_low h.a q) (gown_size h.a q),BIns.mono (fun b q=>ap b q.1 q.2.1) (fun _ _ _ h=>h) cs h.ia⟩
theorem TwoB.blockB(h:TwoB w lo5 c cs d ds)(hlo:lo≤lo5){ga gb:Option Nat}(ha:∀ b,ga=some b→b<lo5)(hb:∀ b,gb=some b→b<lo5)(k n:Int):BIn (Apt lo w ga gb) w (.mk k n d ds):=by
 have ap:∀ b,lo5≤b→b<w.heap.size→Apt lo w ga gb b:=fun b h1 h2=>⟨by omega,h2,fun e=>by have:=ha b e.symm;omega,fun e=>by have:=hb b e.symm;omega⟩
 exact bin_mk.2 ⟨h.b.row,own_one h.b,fun b q=>ap b (gown_low h.b q) (gown_size h.b q),BIns.mono (fun b q=>ap b q.1 q.2.1) (fun _ _ _ h=>h) ds h.ib⟩
end
def RawRes(w0 w:World)(l:List RawM)(e:Ending)(w':World):Prop:=∃ va xs vb ys vr k,e=.returned (.tuple #[va,vb,vr])∧TwoB w' w.heap.size va xs vb ys∧bareL ys=bareL xs∧nodL (bareL xs)≤k∧k≤l.length∧GRow encRaw 3 w0 vr (l.drop k)∧Below w.heap.size w w'
end Go.Proofs.YtllcipobiengiaaGreat
namespace Go.Proofs.YtllcipobiengiaaGreat
open Go Go.RowKit

def RwRel(w0 w:World)(l:List RawM)(n:Nat)(v0 v7 v8 v9:Value)(wr:World):Prop:=∃(i k:Nat) (xs ys:List BlL),i≤n∧k≤l.length∧v9=.int .i64 i∧Hid (GRow encRaw 3 w0 v0 (l.drop k))∧Hid (TwoB wr w.heap.size v7 xs v8 ys)∧Hid (bareL ys=bareL xs)∧Hid (nodL (bareL xs)≤k)∧Below w.heap.size w wr
theorem raw_rest{w:World}{b off cap n:Nat}{x:RawM}{r l':List RawM}(h:GRow encRaw 3 w (.slice (some ⟨b,off,none⟩) n cap) l')(e:l'=x :: r):GRow encRaw 3 w (sliced (some ⟨b,off,none⟩) 1 n cap 3) r:=by
 subst e
 obtain⟨a,c2,e,z1,z2,hc⟩:=h.at encRaw_len
 obtain⟨_,rfl,_⟩:=Value.slice.inj e
 have h9:=slice_row (l:=1) (h:=(x :: r).length) h (by simp) (Nat.le_refl _)
 unfold GRow
 rw [show(x :: r).length - 1=r.length by simp] at h9
 have e2:(((x :: r).flatMap encRaw).drop (1*3)).take (r.length*3)=r.flatMap encRaw:=by
  rw [List.flatMap_cons]
  show(r.flatMap encRaw).take (r.length*3)=_
  refine List.take_of_length_le ?_
  have:∀ r:List RawM,(r.flatMap encRaw).length=r.length*3:=by
   intro r
   induction r with
   | nil=>rfl
   | cons y r ih=>rw [List.flatMap_cons,List.length_append,ih,encRaw_len,List.length_cons];omega
  rw [this];exact Nat.le_refl _
 rw [e2] at h9
 exact h9
set_option maxHeartbeats 16000000 in
set_option maxRecDepth 100000 in
theorem raws_any:∀(N:Nat) (l:List RawM) (n:Nat) (v:Value) (w0 w:World),l.length<N→l.length≤1000000→n≤1000→GRow encRaw 3 w0 v l→Below w0.heap.size w0 w→Calls Tryz.prog 31 #[v,.int .i64 n] w (RawRes w0 w l)
 | 0,l,n,v,w0,w,hN,_,_,_,_=>absurd hN (Nat.not_lt_zero _)
 | N+1,l,n,v,w0,w,hN,hl,hn,hv,h0=>by
  have HIH:Hid (∀(l':List RawM) (n':Nat) (v':Value) (W0 W:World),l'.length<N→l'.length≤1000000→n'≤1000→GRow encRaw 3 W0 v' l'→Below W0.heap.size W0 W→Calls Tryz.prog 31 #[v',.int .i64 n'] W (RawRes W0 W l')):=Lh (raws_any N)
  have HV:=Lh hv
  have HN:=Lh hN
  have H0:=Lh h0
  clear hv hN h0
  go_enter Tryz.func31,Tryz.ntmps31
  go_wp2_with fail
  go_loopw [0,7,8,9] (fun v0 v7 v8 v9 wr=>RwRel w0 w l n v0 v7 v8 v9 wr) (fun _ _ _ v9 _=>n - (intOf v9).toNat)
  case atStart=>exact⟨0,0,[],[],Nat.zero_le _,Nat.zero_le _,rfl,HV,Lh (two_nil _ _),Lh rfl,Lh (by rw [show bareL []=[] from bareL_map [],nodL_nil];exact Nat.le_refl _),Below.refl _ _⟩
  case round =>
   obtain⟨i,k,xs,ys,hi,hk,rfl,HR,HT,HE,HM,hbl⟩:=hrel
   rename World=>wr
   have HBr:=Lh hbl
   have HB0:=Lh (bov H0.out H0.out.size HBr.out)
   obtain⟨a0,c0,e0,z1,z2,hc0⟩:=HR.out.at encRaw_len
   subst e0
   unfold maxLen at z2
   have HC0:=Lh hc0
   have HXl:Hid (xs.length≤k):=Lh (Nat.le_trans (by have:=len_nodL (bareL xs);rw [bareL_map,List.length_map] at this;rw [bareL_map];exact this) HM.out)
   have HYl:Hid (ys.length=xs.length):=Lh (by have h:=congrArg List.length HE.out;rw [bareL_map,bareL_map,List.length_map,List.length_map] at h;exact h)
   obtain⟨m,hm⟩:∃ m,(l.drop k).length=m:=⟨_,rfl⟩
   have HMl:Hid (m=l.length - k):=Lh (by rw [← hm,List.length_drop])
   have hml:m≤1000000:=by have:=HMl.out;omega
   rw [hm] at z1 ⊢
   have HMm:=Lh hm
   clear hbl hc0
   by_cases hlt:i<n
   ·
    by_cases hle:k<l.length
    ·
     have hm0:0<m:=by have:=HMl.out;omega
     obtain⟨b,off,rfl,sb,hcb⟩:=HC0.out.resolve_left (by omega)
     obtain⟨⟨kd,nm,sb8⟩,hx⟩:=gol hle
     have hdr:l.drop k=⟨kd,nm,sb8⟩ :: l.drop (k+1):=by
      rw [List.drop_eq_getElem_cons hle]
      congr 1
      rw [List.getElem?_eq_getElem hle] at hx
      exact Option.some.inj hx
     have HDr:=Lh hdr
     have hx0:(l.drop k)[0]? = some ⟨kd,nm,sb8⟩:=by rw [hdr];rfl
     have hr:=hcb 0 _ hx0 wr HB0.out
     have sx:=hr.1
     have x0:wr.cell? ⟨b,off,none⟩=some (.int .i64 kd):=hr.2 0 _ rfl
     have x1:wr.cell? ⟨b,off+1,none⟩=some (.int .i64 nm):=hr.2 1 _ rfl
     have x2:wr.cell? ⟨b,off+2,none⟩=some (.int .u8 sb8.toNat):=hr.2 2 _ rfl
     by_cases hc1:c0=1
     ·
      subst hc1
      obtain rfl:m=1:=by omega
      have HRs:Hid (GRow encRaw 3 w0 (.slice (some ⟨b,off,none⟩) 0 0) (l.drop (k+1))):=Lh (by
       have h:=raw_rest HR.out HDr.out
       rw [hm] at h
       first|exact h|(unfold sliced at h;rw [if_neg hc1] at h;exact h))
      have hk1:k+1≤1000000:=by omega
      clear hcb hr hx hx0 hdr hm
      go_upto_region 7 with(fail)
      have HX:=Lh (arrT_new wr [.int .i64 kd,.int .i64 nm,.int .u8 sb8.toNat] 145)
      have HXa:=Lh HX.out.arr
      have HBz:=Lh (bnew (w:=wr) (.cells #[.int .i64 kd,.int .i64 nm,.int .u8 sb8.toNat] 145))
      have HBr1:=Lh (bov HBr.out HBr.out.size HBz.out)
      have HT1:=Lh (HT.out.over HBz.out)
      have HOa:Hid (∀ b,u7.ownBlock=some b→b<wr.heap.size):=Lh fun b q=>gown_size HT.out.a q
      have HOb:Hid (∀ b,u8.ownBlock=some b→b<wr.heap.size):=Lh fun b q=>gown_size HT.out.b q
      have hsz1:wr.heap.size<(wr.alloc (.cells #[.int .i64 kd,.int .i64 nm,.int .u8 sb8.toNat] 145)).heap.size:=by simp
      generalize hw1:wr.alloc (.cells #[.int .i64 kd,.int .i64 nm,.int .u8 sb8.toNat] 145)=w1 at *
      obtain⟨gx,hgx⟩:∃ gx,gx=wr.heap.size:=⟨_,rfl⟩
      rw [← hgx] at HX HXa HOa HOb hsz1 ⊢
      clear hw1 hgx x0 x1 x2 sx
      have HCl:Hid (∀ W,Below w1.heap.size w1 W→Calls Tryz.prog 31 #[.slice (some ⟨b,off,none⟩) 0 0,.int .i64 ((sb8.toNat:Int) % 4)] W (RawRes w0 W (l.drop (k+1)))):=Lh fun W hW=>by
       have h:=HIH.out _ (sb8.toNat % 4) _ w0 W (by rw [List.length_drop];have:=HN.out;omega) (by rw [List.length_drop];omega) (by omega) HRs.out (bov H0.out H0.out.size (bov HBr1.out HBr1.out.size hW))
       rw [show((sb8.toNat % 4:Nat):Int)=(sb8.toNat:Int) % 4 by omega] at h
       exact h
      have y0:=HXa.out.k 0 rfl
      have y1:=HXa.out.k 1 rfl
      have y2:=HXa.out.k 2 rfl
      have sy:=HXa.out.lt
      have hcur:Below w1.heap.size w1 w1.drew:=(Below.refl _ _).drew
      refine wlex (C:=IsOver w1) 14 [] (by kernel_rfl) (by kernel_rfl) (iov hcur) ?_
      simp only [Tsc,Tz,Dsc,Dz]
      repeat(first|(refine lxs rfl rfl ?_;simp only [Act.put,Sib,Scs,Scz])|(refine lxo rfl ?_;go_big_quiet_step (fail);refine wpQuiet_nil ?_)|(refine lxl rfl ?_;go_wp2_with (first|(go_at_call 31;(with_reducible refine(HCl.out _ hcur).mono ?_);rintro e w5 ⟨va5,cs5,vb5,ds5,vr5,k5,rfl,ht5,he5,hn5,hk5,hr5,hb5⟩;have HT5:=Lh ht5;have HE5:=Lh he5;have HN5:=Lh hn5;have HK5:=Lh hk5;have HR5:=Lh hr5;replace hcur:=bov hcur hcur.size hb5;clear ht5 he5 hn5 hk5 hr5 hb5;(obtain⟨pa5,ca5,ea5,_,_,_⟩:=HT5.out.a.row.at encBl_len);subst ea5;(obtain⟨pb5,cb5,eb5,_,_,_⟩:=HT5.out.b.row.at encBl_len);subst eb5));refine⟨iov hcur,?_⟩))
      refine lxe ?_
      have hgs:gx<w1.heap.size:=hsz1
      have hws:w.heap.size≤w1.heap.size:=HBr1.out.size
      have HT2:=Lh (HT1.out.over hcur)
      have HX2:=Lh (HX.out.over hcur)
      have HX2a:=Lh HX2.out.arr
      have HBr5:=Lh (bov HBr1.out HBr1.out.size hcur)
      have HTa:Hid (BIn (Apt w.heap.size w5 u7.ownBlock u8.ownBlock) w5 (.mk kd nm (.slice pa5 cs5.length ca5) cs5)):=Lh (HT5.out.blockA hws (fun b q=>Nat.lt_trans (HOa.out b q) hgs) (fun b q=>Nat.lt_trans (HOb.out b q) hgs) kd nm)
      have HTb:Hid (BIn (Apt w.heap.size w5 u7.ownBlock u8.ownBlock) w5 (.mk kd nm (.slice pb5 ds5.length cb5) ds5)):=Lh (HT5.out.blockB hws (fun b q=>Nat.lt_trans (HOa.out b q) hgs) (fun b q=>Nat.lt_trans (HOb.out b q) hgs) kd nm)
      have hB5:=HBr5.out.size
      have HOA:=Lh HT2.out.a
      have hNa:xs.length+1≤1099511627776:=by have:=HXl.out;omega
      have hNb:ys.length+1≤1099511627776:=by have:=HXl.out;have:=HYl.out;omega
      clear hcur y0 y1 y2 sy
      have k0:=HX2a.out.k 0 rfl
      have k1:=HX2a.out.k 1 rfl
      have k2:=HX2a.out.k 2 rfl
      have sk:=HX2a.out.lt
      go_upto_region 9 with(at_builtin;(first|refine wpList_append_newK slBlk rfl _ _ rfl w.heap.size #[.int .i64 kd,.int .i64 nm,.slice pa5 cs5.length ca5] 147 (drf _) 1 _ _ _ HOA.out rfl rfl rfl (by simp;exact⟨rfl,rfl,rfl⟩) hNa (by decide) hB5 ?_|refine wpList_append_newK slBlk rfl _ _ rfl w.heap.size #[.int .i64 kd,.int .i64 nm,.slice pa5 cs5.length ca5] 147 (ddw _) 1 _ _ _ HOA.out rfl rfl rfl (by simp;exact⟨rfl,rfl,rfl⟩) hNa (by decide) hB5 ?_);intro v6 w6 ho6 hg6 hv6;have HO6:Hid (GOwn encBl 3 147 w6 w.heap.size v6 (xs++[.mk kd nm (.slice pa5 cs5.length ca5) cs5])):=Lh (GOwn.snoc (x:=BlL.mk kd nm (.slice pa5 cs5.length ca5) cs5) ho6);have HT6:=Lh (HT2.out.pushA HTa.out HO6.out hg6 hv6);have HTb6:=Lh (kept_a hg6 hv6 HTb.out);have HX6:=Lh (HX2.out.grown HOA.out (by decide) hg6);have HBr6:=Lh (bgr HBr5.out hB5 HOA.out hg6);clear ho6 hg6 hv6)
      have HX6a:=Lh HX6.out.arr
      have hB6:=HBr6.out.size
      have HOB:=Lh HT6.out.b
      clear k0 k1 k2 sk
      have z0:=HX6a.out.k 0 rfl
      have z1:=HX6a.out.k 1 rfl
      have z2:=HX6a.out.k 2 rfl
      have sz:=HX6a.out.lt
      go_wp2_with (at_builtin;(first|refine wpList_append_newK slBlkR rfl _ _ rfl w.heap.size #[.int .i64 kd,.int .i64 nm,.slice pb5 ds5.length cb5] 149 (drf _) 1 _ _ _ HOB.out rfl rfl rfl (by simp;exact⟨rfl,rfl,rfl⟩) hNb (by decide) hB6 ?_|refine wpList_append_newK slBlkR rfl _ _ rfl w.heap.size #[.int .i64 kd,.int .i64 nm,.slice pb5 ds5.length cb5] 149 (ddw _) 1 _ _ _ HOB.out rfl rfl rfl (by simp;exact⟨rfl,rfl,rfl⟩) hNb (by decide) hB6 ?_);intro v9 w9 ho9 hg9 hv9;have HO9:Hid (GOwn encBl 3 149 w9 w.heap.size v9 (ys++[.mk kd nm (.slice pb5 ds5.length cb5) ds5])):=Lh (GOwn.snoc (x:=BlL.mk kd nm (.slice pb5 ds5.length cb5) ds5) ho9);have HT9:=Lh (HT6.out.pushB HTb6.out HO9.out hg9 hv9);have HBr9:=Lh (bgr HBr6.out hB6 HOB.out hg9);clear ho9 hg9 hv9)
      go_roundw
      case rel=>exact⟨i+1,k+1+k5,xs++[.mk kd nm (.slice pa5 cs5.length ca5) cs5],ys++[.mk kd nm (.slice pb5 ds5.length cb5) ds5],hlt,by have:=HK5.out;rw [List.length_drop] at this;omega,by go_num,Lh (by have h:=HR5.out;rw [List.drop_drop] at h;exact h),HT9,Lh (by rw [bareL_snoc,bareL_snoc,HE.out,bareB_mk,bareB_mk,HE5.out]),Lh (by rw [bareL_snoc,nodL_append,nodL_cons,nodL_nil,bareB_mk,nodB_mk];have:=HM.out;have:=HN5.out;omega),HBr9.out⟩
      case measure=>simp [intOf];omega
     ·
      skip
      have HRs:Hid (GRow encRaw 3 w0 (.slice (some ⟨b,off+3,none⟩) (m - 1) (c0 - 1)) (l.drop (k+1))):=Lh (by
       have h:=raw_rest HR.out HDr.out
       rw [hm] at h
       first|exact h|(unfold sliced at h;rw [if_neg hc1] at h;exact h))
      have hk1:k+1≤1000000:=by omega
      clear hcb hr hx hx0 hdr hm
      go_upto_region 7 with(fail)
      have HX:=Lh (arrT_new wr [.int .i64 kd,.int .i64 nm,.int .u8 sb8.toNat] 145)
      have HXa:=Lh HX.out.arr
      have HBz:=Lh (bnew (w:=wr) (.cells #[.int .i64 kd,.int .i64 nm,.int .u8 sb8.toNat] 145))
      have HBr1:=Lh (bov HBr.out HBr.out.size HBz.out)
      have HT1:=Lh (HT.out.over HBz.out)
      have HOa:Hid (∀ b,u7.ownBlock=some b→b<wr.heap.size):=Lh fun b q=>gown_size HT.out.a q
      have HOb:Hid (∀ b,u8.ownBlock=some b→b<wr.heap.size):=Lh fun b q=>gown_size HT.out.b q
      have hsz1:wr.heap.size<(wr.alloc (.cells #[.int .i64 kd,.int .i64 nm,.int .u8 sb8.toNat] 145)).heap.size:=by simp
      generalize hw1:wr.alloc (.cells #[.int .i64 kd,.int .i64 nm,.int .u8 sb8.toNat] 145)=w1 at *
      obtain⟨gx,hgx⟩:∃ gx,gx=wr.heap.size:=⟨_,rfl⟩
      rw [← hgx] at HX HXa HOa HOb hsz1 ⊢
      clear hw1 hgx x0 x1 x2 sx
      have HCl:Hid (∀ W,Below w1.heap.size w1 W→Calls Tryz.prog 31 #[.slice (some ⟨b,off+3,none⟩) (m - 1) (c0 - 1),.int .i64 ((sb8.toNat:Int) % 4)] W (RawRes w0 W (l.drop (k+1)))):=Lh fun W hW=>by
       have h:=HIH.out _ (sb8.toNat % 4) _ w0 W (by rw [List.length_drop];have:=HN.out;omega) (by rw [List.length_drop];omega) (by omega) HRs.out (bov H0.out H0.out.size (bov HBr1.out HBr1.out.size hW))
       rw [show((sb8.toNat % 4:Nat):Int)=(sb8.toNat:Int) % 4 by omega] at h
       exact h
      have y0:=HXa.out.k 0 rfl
      have y1:=HXa.out.k 1 rfl
      have y2:=HXa.out.k 2 rfl
      have sy:=HXa.out.lt
      have hcur:Below w1.heap.size w1 w1.drew:=(Below.refl _ _).drew
      refine wlex (C:=IsOver w1) 14 [] (by kernel_rfl) (by kernel_rfl) (iov hcur) ?_
      simp only [Tsc,Tz,Dsc,Dz]
      repeat(first|(refine lxs rfl rfl ?_;simp only [Act.put,Sib,Scs,Scz])|(refine lxo rfl ?_;go_big_quiet_step (fail);refine wpQuiet_nil ?_)|(refine lxl rfl ?_;go_wp2_with (first|(go_at_call 31;(with_reducible refine(HCl.out _ hcur).mono ?_);rintro e w5 ⟨va5,cs5,vb5,ds5,vr5,k5,rfl,ht5,he5,hn5,hk5,hr5,hb5⟩;have HT5:=Lh ht5;have HE5:=Lh he5;have HN5:=Lh hn5;have HK5:=Lh hk5;have HR5:=Lh hr5;replace hcur:=bov hcur hcur.size hb5;clear ht5 he5 hn5 hk5 hr5 hb5;(obtain⟨pa5,ca5,ea5,_,_,_⟩:=HT5.out.a.row.at encBl_len);subst ea5;(obtain⟨pb5,cb5,eb5,_,_,_⟩:=HT5.out.b.row.at encBl_len);subst eb5));refine⟨iov hcur,?_⟩))
      refine lxe ?_
      have hgs:gx<w1.heap.size:=hsz1
      have hws:w.heap.size≤w1.heap.size:=HBr1.out.size
      have HT2:=Lh (HT1.out.over hcur)
      have HX2:=Lh (HX.out.over hcur)
      have HX2a:=Lh HX2.out.arr
      have HBr5:=Lh (bov HBr1.out HBr1.out.size hcur)
      have HTa:Hid (BIn (Apt w.heap.size w5 u7.ownBlock u8.ownBlock) w5 (.mk kd nm (.slice pa5 cs5.length ca5) cs5)):=Lh (HT5.out.blockA hws (fun b q=>Nat.lt_trans (HOa.out b q) hgs) (fun b q=>Nat.lt_trans (HOb.out b q) hgs) kd nm)
      have HTb:Hid (BIn (Apt w.heap.size w5 u7.ownBlock u8.ownBlock) w5 (.mk kd nm (.slice pb5 ds5.length cb5) ds5)):=Lh (HT5.out.blockB hws (fun b q=>Nat.lt_trans (HOa.out b q) hgs) (fun b q=>Nat.lt_trans (HOb.out b q) hgs) kd nm)
      have hB5:=HBr5.out.size
      have HOA:=Lh HT2.out.a
      have hNa:xs.length+1≤1099511627776:=by have:=HXl.out;omega
      have hNb:ys.length+1≤1099511627776:=by have:=HXl.out;have:=HYl.out;omega
      clear hcur y0 y1 y2 sy
      have k0:=HX2a.out.k 0 rfl
      have k1:=HX2a.out.k 1 rfl
      have k2:=HX2a.out.k 2 rfl
      have sk:=HX2a.out.lt
      go_upto_region 9 with(at_builtin;(first|refine wpList_append_newK slBlk rfl _ _ rfl w.heap.size #[.int .i64 kd,.int .i64 nm,.slice pa5 cs5.length ca5] 147 (drf _) 1 _ _ _ HOA.out rfl rfl rfl (by simp;exact⟨rfl,rfl,rfl⟩) hNa (by decide) hB5 ?_|refine wpList_append_newK slBlk rfl _ _ rfl w.heap.size #[.int .i64 kd,.int .i64 nm,.slice pa5 cs5.length ca5] 147 (ddw _) 1 _ _ _ HOA.out rfl rfl rfl (by simp;exact⟨rfl,rfl,rfl⟩) hNa (by decide) hB5 ?_);intro v6 w6 ho6 hg6 hv6;have HO6:Hid (GOwn encBl 3 147 w6 w.heap.size v6 (xs++[.mk kd nm (.slice pa5 cs5.length ca5) cs5])):=Lh (GOwn.snoc (x:=BlL.mk kd nm (.slice pa5 cs5.length ca5) cs5) ho6);have HT6:=Lh (HT2.out.pushA HTa.out HO6.out hg6 hv6);have HTb6:=Lh (kept_a hg6 hv6 HTb.out);have HX6:=Lh (HX2.out.grown HOA.out (by decide) hg6);have HBr6:=Lh (bgr HBr5.out hB5 HOA.out hg6);clear ho6 hg6 hv6)
      have HX6a:=Lh HX6.out.arr
      have hB6:=HBr6.out.size
      have HOB:=Lh HT6.out.b
      clear k0 k1 k2 sk
      have z0:=HX6a.out.k 0 rfl
      have z1:=HX6a.out.k 1 rfl
      have z2:=HX6a.out.k 2 rfl
      have sz:=HX6a.out.lt
      go_wp2_with (at_builtin;(first|refine wpList_append_newK slBlkR rfl _ _ rfl w.heap.size #[.int .i64 kd,.int .i64 nm,.slice pb5 ds5.length cb5] 149 (drf _) 1 _ _ _ HOB.out rfl rfl rfl (by simp;exact⟨rfl,rfl,rfl⟩) hNb (by decide) hB6 ?_|refine wpList_append_newK slBlkR rfl _ _ rfl w.heap.size #[.int .i64 kd,.int .i64 nm,.slice pb5 ds5.length cb5] 149 (ddw _) 1 _ _ _ HOB.out rfl rfl rfl (by simp;exact⟨rfl,rfl,rfl⟩) hNb (by decide) hB6 ?_);intro v9 w9 ho9 hg9 hv9;have HO9:Hid (GOwn encBl 3 149 w9 w.heap.size v9 (ys++[.mk kd nm (.slice pb5 ds5.length cb5) ds5])):=Lh (GOwn.snoc (x:=BlL.mk kd nm (.slice pb5 ds5.length cb5) ds5) ho9);have HT9:=Lh (HT6.out.pushB HTb6.out HO9.out hg9 hv9);have HBr9:=Lh (bgr HBr6.out hB6 HOB.out hg9);clear ho9 hg9 hv9)
      go_roundw
      case rel=>exact⟨i+1,k+1+k5,xs++[.mk kd nm (.slice pa5 cs5.length ca5) cs5],ys++[.mk kd nm (.slice pb5 ds5.length cb5) ds5],hlt,by have:=HK5.out;rw [List.length_drop] at this;omega,by go_num,Lh (by have h:=HR5.out;rw [List.drop_drop] at h;exact h),HT9,Lh (by rw [bareL_snoc,bareL_snoc,HE.out,bareB_mk,bareB_mk,HE5.out]),Lh (by rw [bareL_snoc,nodL_append,nodL_cons,nodL_nil,bareB_mk,nodB_mk];have:=HM.out;have:=HN5.out;omega),HBr9.out⟩
      case measure=>simp [intOf];omega
    ·
     obtain rfl:m=0:=by have:=HMl.out;omega
     go_wp2_with fail
     refine bodyPost_ret (results_tmp3 rfl _ _ _) rfl ?_
     exact⟨_,xs,_,ys,_,k,rfl,HT.out,HE.out,HM.out,hk,HMm.out▸HR.out,HBr.out⟩
   ·
    obtain rfl:i=n:=by omega
    go_wp2_with fail
    refine bodyPost_ret (results_tmp3 rfl _ _ _) rfl ?_
    exact⟨_,xs,_,ys,_,k,rfl,HT.out,HE.out,HM.out,hk,HMm.out▸HR.out,HBr.out⟩
end Go.Proofs.YtllcipobiengiaaGreat
namespace Go.Proofs.YtllcipobiengiaaGreat
open Go Go.RowKit

attribute [local irreducible] idsM filesM linesM relM vertsM edgesM fewL modX seenAll bareL
set_option maxHeartbeats 40000000 in
set_option maxRecDepth 100000 in
theorem bks_any(v rv:Value)(ps:List LaidP)(raws:List RawM)(k8:UInt8)(w:World)(hv:Pats w v ps)(hz:∀ x∈ps,∀ o∈x.p.ops,o.text.size≤maxLen)(hr:GRow encRaw 3 w rv raws)
  (hwk:∀ W,Calls Tryz.prog 29 #[] W fun e w'=>e=.returned (.bool true)∧Below W.heap.size W w') :
  Calls Tryz.prog 7 #[v,rv,.int .u8 k8.toNat] w fun e w'=>e=.returned (.bool true)∧Below w.heap.size w w':=by
 have hfew:=Lh (few20_any v ps 8 (by omega) w hv hz)
 have HV:=Lh hv
 have HR:=Lh hr
 have HWk:=Lh hwk
 obtain⟨ra,rc,rfl,_,hrc,_⟩:=hr.at encRaw_len
 unfold maxLen at hrc
 clear hwk hr
 cases hf:fewL 8 (ps.map (·.p)) with
 | false =>
  rw [hf] at hfew
  clear hv hz hf
  go_enter Tryz.func7,Tryz.ntmps7
  go_wp2_with fail
  refine hfew.out.mono ?_
  rintro e w1 ⟨rfl,hb1⟩
  have HB1:=Lh hb1
  clear hb1 hfew
  unfold b01
  go_wp2_with fail
  refine(HWk.out _).mono ?_
  rintro e w2 ⟨rfl,hb2⟩
  have HB2:=Lh (bov HB1.out HB1.out.size hb2)
  clear hb2
  go_wp2_with fail
  go_ret
  exact⟨rfl,HB2.out⟩
 | true =>
  rw [hf] at hfew
  have HF:=Lh hf
  have HZ:=Lh hz
  have hpl:ps.length≤8:=by have:=fewL_len hf;simpa using this
  clear hv hz hf
  by_cases hrl:raws.length > 30
  ·
   go_enter Tryz.func7,Tryz.ntmps7
   go_wp2_with fail
   refine hfew.out.mono ?_
   rintro e w1 ⟨rfl,hb1⟩
   have HB1:=Lh hb1
   have d1:decide ((raws.length:Int) > 30)=true:=decide_eq_true (by omega)
   have d2:decide (30<raws.length)=true:=decide_eq_true hrl
   clear hb1 hfew
   unfold b01
   go_wp2_with fail
   refine(HWk.out _).mono ?_
   rintro e w2 ⟨rfl,hb2⟩
   have HB2:=Lh (bov HB1.out HB1.out.size hb2)
   clear hb2
   go_wp2_with fail
   go_ret
   exact⟨rfl,HB2.out⟩
  ·
   go_enter Tryz.func7,Tryz.ntmps7
   go_wp2_with fail
   refine hfew.out.mono ?_
   rintro e w2 ⟨rfl,hb1⟩
   have HB2:=Lh hb1
   have d1:decide ((raws.length:Int) > 30)=false:=decide_eq_false (by omega)
   have d2:decide (30<raws.length)=false:=decide_eq_false hrl
   clear hb1 hfew
   unfold b01
   go_wp2_with fail
   refine(build_any v ps 8 (by omega) _ (HV.out.over HB2.out) HF.out).mono ?_
   rintro e w3 ⟨b,bv,be,n,hn,rfl,hgr⟩
   have hwf:=wf_build (ps.map (·.p))
   have HMP:Hid (patsOf (modX ps)=buildM (ps.map (·.p))):=Lh (modX_pats ps)
   have HI1:=Lh (few_ids HF.out)
   have HE1:=Lh (few_edges HF.out)
   have HL1:=Lh (few_lines HF.out)
   rw [HMP.out] at HI1 HE1 HL1
   generalize buildM (ps.map (·.p))=LL at *
   obtain⟨_,_,_,hG,hb3⟩:=hgr
   have HGI:Hid (GrIs w3 b LL):=Lh ⟨bv,be,n,hG⟩
   have HW:=Lh hwf
   have HB3:=Lh (bov HB2.out HB2.out.size hb3)
   clear hG hb3 hn hwf
   go_wp2_with fail
   refine(rmodel_any v ps _ (HV.out.over HB3.out) (by omega) (fun y hy=>Nat.le_trans (fewL_ops HF.out (List.mem_map.2 ⟨y,hy,rfl⟩)).1 (by omega)) (fun y hy=>Nat.le_trans (fewL_deps23 HF.out (List.mem_map.2 ⟨y,hy,rfl⟩)) (by omega)) HZ.out).mono ?_
   rintro e w4 ⟨mv,rfl,hpm,hb4⟩
   obtain⟨a6,c6,hmv,h61,h62,h63⟩:=hpm.1.at encPat_len
   unfold maxLen at h62
   have hml:(modX ps).length≤300:=by have:=modX_few (xs:=ps);omega
   obtain⟨n6,hn6⟩:∃ n,(modX ps).length=n:=⟨_,rfl⟩
   rw [hn6] at hmv h61
   subst hmv
   have HPM:=Lh hpm
   have HML:=Lh hml
   have HB4:=Lh (bov HB3.out HB3.out.size hb4)
   have HGI4:=Lh (HGI.out.over hb4)
   clear hpm hb4 h63 hn6 hml
   go_upto_region 4 with(fail)
   have HX4:=Lh (anw w4 #[.slice a6 n6 c6] 35)
   have HBz:=Lh (bnew (w:=w4) (.cells #[.slice a6 n6 c6] 35))
   have HB4z:=Lh (HB4.out.alloc HB4.out.size (.cells #[.slice a6 n6 c6] 35))
   generalize hw4:w4.alloc (.cells #[.slice a6 n6 c6] 35)=wz at *
   clear hw4
   have HGIz:=Lh (HGI4.out.over HBz.out)
   have HPMz:=Lh (HPM.out.over HBz.out)
   clear HPM HGI4
   have HRl:Hid (raws.length≤30):=Lh (by omega)
   have HCr:=Lh (raws_any (raws.length+1) raws 30 _ w wz (Nat.lt_succ_self _) (by have:=HRl.out;omega) (by omega) HR.out HB4z.out)
   go_wp2_with fail
   refine HCr.out.mono ?_
   rintro e w5 ⟨va,xs,vb,ys,vr,kk,rfl,ht5,he5,hn5,hk5,_,hb5⟩
   have HT5:=Lh ht5
   have HE5:=Lh he5
   have HN5:Hid (nodL (bareL xs)≤30):=Lh (by have:=HRl.out;omega)
   have HX5:=Lh (HX4.out.over hb5)
   have HB5:=Lh (bov HB4z.out HB4z.out.size hb5)
   have HGI5:=Lh (HGIz.out.over hb5)
   have HPM5:=Lh (HPMz.out.over hb5)
   clear ht5 he5 hn5 hk5 hb5 HCr d1 d2
   have HWX:Hid (WfG (patsOf (modX ps))):=Lh (by rw [HMP.out];exact HW.out)
   have HOL:Hid (∀ x∈modX ps,x.p.ops.length≤200):=Lh fun x hx=>wf_len HWX.out x.p (List.mem_map.2 ⟨x,hx,rfl⟩)
   have HIX:Hid ((idsM (patsOf (modX ps))).length≤480):=Lh (by rw [HMP.out];exact HI1.out)
   have HEX:Hid ((edgesM (patsOf (modX ps))).length≤480):=Lh (by rw [HMP.out];exact HE1.out)
   have hfl:(filesM LL).length≤480:=Nat.le_trans (filesM_few _) HI1.out
   obtain⟨FL,hFL⟩:∃ FL,filesM LL=FL:=⟨_,rfl⟩
   have HFl:=Lh (rfiles20_own _ (modX ps) w5 HPM5.out HML.out (fun x hx=>Nat.le_trans (HOL.out x hx) (by omega)) (by have:=HIX.out;omega) (by unfold vertsM;rw [List.length_map];have:=HIX.out;omega))
   rw [flTo_all,HMP.out,hFL] at HFl
   rw [hFL] at hfl
   clear hFL
   have x0:=HX5.out.k 0 rfl
   have sx:=HX5.out.lt
   go_wp2_with fail
   refine HFl.out.mono ?_
   rintro e w6 ⟨v6,rfl,ho6,hb6⟩
   have HB56:=Lh hb6
   have HB6:=Lh (bov HB5.out HB5.out.size hb6)
   have hN2:FL.length+1≤1099511627776:=by omega
   have hB6s:=hb6.size
   clear hb6
   obtain⟨at9,hat9⟩:∃ z,z=FL++[noVid]:=⟨_,rfl⟩
   have HA9e:=Lh hat9
   have HO6:=Lh ho6
   have hal:at9.length=FL.length+1:=by rw [hat9];simp
   clear hat9 ho6 x0 sx
   go_upto_region 6 with((at_builtin;refine apD slVidE rfl _ _ rfl w5.heap.size _ _ (drf _) 1 _ _ _ HO6.out rfl rfl rfl rfl hN2 (by decide) hB6s ?_;intro v7 w7 ho7 hg7);(obtain⟨p7,c7,e7,hO7⟩:=vown_more (GOwn.snoc (x:=noVid) ho7) HA9e.out);subst e7;have HO7:=Lh hO7;have HB57:=Lh (bgr HB56.out HB56.out.size HO6.out hg7);clear ho7 hg7 hO7)
   obtain⟨a7',c7',he7,h71,h72,hc7⟩:=HO7.out.row.at encVid_len
   obtain⟨he7a,he7b,he7c⟩:=Value.slice.inj he7
   subst he7a
   subst he7c
   unfold maxLen at h72
   have HB7:=Lh (bov HB5.out HB5.out.size HB57.out)
   have HX7:=Lh (HX5.out.over HB57.out)
   have HGI7:=Lh (HGI5.out.over HB57.out)
   have HPM7:=Lh (HPM5.out.over HB57.out)
   have HT7:=Lh (HT5.out.over HB57.out)
   obtain⟨l7,hl7⟩:∃ k,FL.length+1=k:=⟨_,rfl⟩
   have hl7p:0<l7:=by omega
   rw [hal,hl7] at h71
   rw [hal,hl7] at hc7
   rw [hl7] at hal ⊢
   obtain⟨bf,of,rfl,sf,hcf⟩:=hc7.resolve_left (by omega)
   obtain⟨kx,hkx⟩:∃ kx,kx=k8.toNat % l7:=⟨_,rfl⟩
   have hkl:kx<l7:=by rw [hkx];exact Nat.mod_lt _ hl7p
   obtain⟨f,hff⟩:=gol (xs:=at9) (i:=kx) (by omega)
   have hwr:wrap64 (k8.toNat:Int)=(k8.toNat:Int):=by unfold wrap64;have:=k8.toNat_lt;omega
   have hmt:(wrap64 (k8.toNat:Int)).tmod (l7:Int)=(kx:Int):=by rw [hwr,hkx,Int.tmod_eq_emod_of_nonneg (by omega)];simp
   clear hwr
   have f0:w7.cell? ⟨bf,of+kx*3,none⟩=some (.int .u8 f.pid.author.toNat):=(hcf kx f hff w7 (Below.refl _ _)).2 0 _ rfl
   have f1:w7.cell? ⟨bf,of+kx*3+1,none⟩=some (.int .u16 f.pid.seq.toNat):=(hcf kx f hff w7 (Below.refl _ _)).2 1 _ rfl
   have f2:w7.cell? ⟨bf,of+kx*3+2,none⟩=some (.int .u8 f.n.toNat):=(hcf kx f hff w7 (Below.refl _ _)).2 2 _ rfl
   have sf2:=(hcf kx f hff w7 (Below.refl _ _)).1
   clear he7 he7b hc7 hl7 hal hcf hff hkx
   go_upto_region 7 with(fail)
   have HFb:=Lh (anw w7 #[.int .u8 f.pid.author.toNat,.int .u16 f.pid.seq.toNat,.int .u8 f.n.toNat] 40)
   have HB78:=Lh (bnew (w:=w7) (.cells #[.int .u8 f.pid.author.toNat,.int .u16 f.pid.seq.toNat,.int .u8 f.n.toNat] 40))
   have HX8:=Lh (HX7.out.alloc (.cells #[.int .u8 f.pid.author.toNat,.int .u16 f.pid.seq.toNat,.int .u8 f.n.toNat] 40))
   have HB8:=Lh (HB7.out.alloc HB7.out.size (.cells #[.int .u8 f.pid.author.toNat,.int .u16 f.pid.seq.toNat,.int .u8 f.n.toNat] 40))
   have HGI8:=Lh (HGI7.out.over HB78.out)
   have HPM8:=Lh (HPM7.out.over HB78.out)
   have HT8:=Lh (HT7.out.over HB78.out)
   generalize hw8:w7.alloc (.cells #[.int .u8 f.pid.author.toNat,.int .u16 f.pid.seq.toNat,.int .u8 f.n.toNat] 40)=w8 at *
   clear hw8 f0 f1 f2 sf2 hmt
   obtain⟨pa,ca,ea,_,_,_⟩:=HT8.out.a.row.at encBl_len
   subst ea
   obtain⟨pb,cb,eb,_,_,_⟩:=HT8.out.b.row.at encBl_len
   subst eb
   have hll:(linesM LL f).length≤1000:=by have:=HL1.out f;omega
   have HLO:Hid (∀ W,Below w8.heap.size w8 W→Calls Tryz.prog 17 #[.pointer (some ⟨b,0,none⟩),.agg #[.int .u8 f.pid.author.toNat,.int .u16 f.pid.seq.toNat,.int .u8 f.n.toNat]] W (LofRes W (linesM LL f) (relM LL f))):=Lh fun W hb=>lof_any b LL f W (HGI8.out.over hb) HW.out (by have:=HI1.out;omega) (by have:=HE1.out;omega)
   have HRO:Hid (∀ W,Below w8.heap.size w8 W→Calls Tryz.prog 19 #[.agg #[.slice a6 n6 c6],.agg #[.int .u8 f.pid.author.toNat,.int .u16 f.pid.seq.toNat,.int .u8 f.n.toNat]] W (R21Res W (linesM LL f) (relM LL f))):=Lh fun W hb=>by
    have:=r21of_any _ (modX ps) f W (HPM8.out.over hb) HML.out (fun x hx=>Nat.le_trans (HOL.out x hx) (by omega)) HWX.out (by have:=HIX.out;omega) (by have:=HEX.out;omega)
    rw [HMP.out] at this
    exact this
   have hlen:(seenAll (linesM LL f) (bareL xs)).length≤1000000:=by have:=(seen_nodL (linesM LL f) (bareL xs)).1;have:=HN5.out;omega
   have HSB:Hid (∀(s:Nat) (W:World),Below w8.heap.size w8 W→ShAt W s (linesM LL f) (relM LL f)→Calls Tryz.prog 32 #[.pointer (some ⟨s,0,none⟩),.slice pa xs.length ca] W (OwnRes encS1 1 9 W (seenAll (linesM LL f) (bareL xs)))):=Lh fun s W hb h1=>blocks_any _ (relM LL f) (some ⟨s,0,none⟩) (SizeOf.sizeOf xs+1) _ xs W (Nat.lt_succ_self _) (HT8.out.a.row.over hb) (bins_true (HT8.out.ia.over hb)) (.inl ⟨s,rfl,h1⟩) hlen
   have HRB:Hid (∀(lv sv:Value) (W:World),Below w8.heap.size w8 W→RSh W lv sv (linesM LL f) (relM LL f)→Calls Tryz.prog 33 #[rsV lv (linesM LL f).length sv,.slice pb ys.length cb] W (OwnRes encS1 1 9 W (seenAll (linesM LL f) (bareL xs)))):=Lh fun lv sv W hb h1=>by
    have h:=rblocks_any lv sv _ (relM LL f) (SizeOf.sizeOf ys+1) _ ys W (Nat.lt_succ_self _) (HT8.out.b.row.over hb) (bins_true (HT8.out.ib.over hb)) h1 (by rw [HE5.out];exact hlen)
    rw [HE5.out] at h
    exact h
   generalize seenAll (linesM LL f) (bareL xs)=TS at HSB HRB hlen
   clear hlen
   have x0:=HX8.out.k 0 rfl
   have sx:=HX8.out.lt
   have f0:=HFb.out.k 0 rfl
   have f1:=HFb.out.k 1 rfl
   have f2:=HFb.out.k 2 rfl
   have sf:=HFb.out.lt
   have hcur:Below w8.heap.size w8 w8.drew:=(Below.refl _ _).drew
   refine wlex (C:=IsOver w8) 15 [] (by kernel_rfl) (by kernel_rfl) (iov hcur) ?_
   simp only [Tsc,Tz,Dsc,Dz]
   repeat(first|(refine lxs rfl rfl ?_;simp only [Act.put,Sib,Scs,Scz])|(refine lxo rfl ?_;go_big_quiet_step (fail);refine wpQuiet_nil ?_)|(refine lxl rfl ?_;go_wp2_with (first|(go_at_call 17;(with_reducible refine(HLO.out _ hcur).mono ?_);rintro e wA ⟨sA,rfl,hsz,hsh,hb⟩;have HSA:=Lh hsh;clear hsh hsz;replace hcur:=bov hcur hcur.size hb;clear hb)|(go_at_call 32;(with_reducible refine(HSB.out _ _ hcur HSA.out).mono ?_);rintro e wB ⟨vB,rfl,hoB,hb⟩;have HOB:=Lh hoB.row;clear hoB;replace hcur:=bov hcur hcur.size hb;clear hb)|(go_at_call 19;(with_reducible refine(HRO.out _ hcur).mono ?_);rintro e wC ⟨lvC,svC,rfl,hrs,hb⟩;have HRC:=Lh hrs;have HOC:=Lh (HOB.out.over hb);clear hrs;replace hcur:=bov hcur hcur.size hb;clear hb)|(go_at_call 33;(with_reducible refine(HRB.out _ _ _ hcur HRC.out).mono ?_);rintro e wD ⟨vD,rfl,hoD,hb⟩;have HRD:=Lh hoD.row;have HOD:=Lh (HOC.out.over hb);clear hoD;replace hcur:=bov hcur hcur.size hb;clear hb)|(go_at_call 23;(with_reducible refine(rtexts_any _ _ TS TS _ (srow_of HOD.out) (srow_of HRD.out)).mono ?_);rw [sameS_self];rintro e wE ⟨rfl,hb⟩;replace hcur:=bov hcur hcur.size hb;clear hb)|(go_at_call 29;(with_reducible refine(HWk.out _).mono ?_);rintro e wF ⟨rfl,hb⟩;replace hcur:=bov hcur hcur.size hb;clear hb));refine⟨iov hcur,?_⟩))
   refine lxe ?_
   go_wp2_with fail
   go_ret
   exact⟨rfl,bov HB8.out HB8.out.size hcur⟩
end Go.Proofs.YtllcipobiengiaaGreat
