/- Contracts of bruitref10.Set and bruitref11.Set. Contract of bruitref10.Same. Contract of bruitref18.Deps. -/
import Derived.Test.YtllcipobiengiaaGreatYGRow
set_option linter.unusedVariables false
set_option linter.unusedSimpArgs false
namespace Go.Proofs.YtllcipobiengiaaGreat
open Go Go.RowKit

section
variable {α : Type} {key : α → Nat}
def restS(key:α→Nat)(x:α)(t:Bool)(r:List α):List α:=if t=true then r else putS key x r
theorem restS_t(x:α)(r:List α):restS key x true r=r:=rfl
theorem restS_f(x:α)(r:List α):restS key x false r=putS key x r:=rfl
theorem putS_lt{x y:α}{r:List α}(h:key x<key y):putS key x (y :: r)=x :: y :: r:=by rw [putS,if_pos h]
theorem putS_eq{x y:α}{r:List α}(h:key x=key y):putS key x (y :: r)=y :: r:=by rw [putS,if_neg (by omega),if_pos h]
theorem putS_gt{x y:α}{r:List α}(h:key y<key x):putS key x (y :: r)=y :: putS key x r:=by rw [putS,if_neg (by omega),if_neg (by omega)]
theorem putS_nil(x:α):putS key x []=[x]:=rfl
theorem foldl_take{l:List α}{i:Nat}{x:α}(h:l[i]? = some x):(l.take (i+1)).foldl (fun out x=>putS key x out) []=putS key x ((l.take i).foldl (fun out x=>putS key x out) []):=by
 rw [tsg h,List.foldl_append];rfl
theorem drop_at{xs:List α}{k:Nat}{y:α}(h:xs[k]? = some y):xs.drop k=y :: xs.drop (k+1):=by
 obtain⟨hk,rfl⟩:=List.getElem?_eq_some_iff.1 h
 exact List.drop_eq_getElem_cons hk
theorem putS_len(x:α):∀ r:List α,(putS key x r).length≤r.length+1
 | []=>by simp [putS]
 | y :: r=>by
  rw [putS]
  split
  ·
   simp
  ·
   split
   ·
    simp
   ·
    have:=putS_len x r;simp;omega
theorem foldl_len:∀(l out:List α),(l.foldl (fun out x=>putS key x out) out).length≤out.length+l.length
 | [],out=>by simp
 | x :: l,out=>by
  have h1:=foldl_len l (putS key x out)
  have h2:=putS_len (key:=key) x out
  simp at h1 ⊢;omega
end
theorem restS_start(key:PidM→Nat)(x:PidM)(out:List PidM):putS key x out=[]++restS key x false (out.drop 0):=by simp [restS]
theorem restS_startV(key:VidM→Nat)(x:VidM)(out:List VidM):putS key x out=[]++restS key x false (out.drop 0):=by simp [restS]
def SetRes{α:Type}(enc:α→List Value)(sz:Nat)(w:World)(xs:List α)(e:Ending)(w':World):Prop:=∃ u,e=.returned u∧GRow enc sz w' u xs∧Below w.heap.size w w'
theorem cmpPid_lt{x y:PidM}(h:packPid x<packPid y):cmpPid x y = -1:=cmpN_lt h
theorem cmpPid_eq{x y:PidM}(h:packPid x=packPid y):cmpPid x y=0:=cmpN_eq h
theorem cmpPid_gt{x y:PidM}(h:packPid y<packPid x):cmpPid x y=1:=cmpN_gt h
theorem cmpVid_lt{x y:VidM}(h:packVid x<packVid y):cmpVid x y = -1:=cmpN_lt h
theorem cmpVid_eq{x y:VidM}(h:packVid x=packVid y):cmpVid x y=0:=cmpN_eq h
theorem cmpVid_gt{x y:VidM}(h:packVid y<packVid x):cmpVid x y=1:=cmpN_gt h
attribute [local irreducible] packPid packVid cmpN putS restS cmpPid cmpVid
def SetPidOut(w:World)(l:List PidM)(v3 v4:Value)(wr:World):Prop:=
 ∃ i:Nat,i≤l.length∧v4=.int .i64 i∧Hid (GRow encPid 2 wr v3 ((l.take i).foldl (fun out x=>putS packPid x out) []))∧Below w.heap.size w wr
def SetPidIn(wo:World)(x:PidM)(out:List PidM)(v5 v6 v7:Value)(wr:World):Prop:=
 ∃(k:Nat) (M:List PidM) (t:Bool),k≤out.length∧v7=.int .i64 k∧v6=.bool t∧M.length≤k+t.toNat∧Hid (GOwn encPid 2 26 wr wo.heap.size v5 M)∧Hid (putS packPid x out=M++restS packPid x t (out.drop k))∧Below wo.heap.size wo wr
set_option maxHeartbeats 20000000 in
set_option maxRecDepth 100000 in
theorem rsetPid_any(v:Value)(l:List PidM)(w:World)(hv:GRow encPid 2 w v l)(hl:l.length≤100000) :
  Calls Tryz.prog 198 #[v] w (SetRes encPid 2 w (setS packPid l)):=by
 obtain⟨a,cap,rfl,h1,h2,hc⟩:=hv.at encPid_len
 unfold maxLen at h2
 have HC:=Lh hc
 clear hv hc
 go_enter Tryz.func198,Tryz.ntmps198
 go_wp2_with fail
 go_loopw [3,4] (fun v3 v4 wr=>SetPidOut w l v3 v4 wr) (fun _ v4 _=>l.length - (intOf v4).toNat)
 case atStart=>exact⟨0,by omega,rfl,grow_nil _,Below.refl _ _⟩
 case round =>
  rename World=>wo
  obtain⟨i,hi,rfl,HO,hbl⟩:=hrel
  by_cases hlt:i<l.length
  ·
   obtain⟨bl,ol,rfl,sl,hcl⟩:=HC.out.resolve_left (by omega)
   obtain⟨x,hx⟩:=gol hlt
   have HF:=Lh (foldl_take (key:=packPid) hx)
   have hlen:=foldl_len (key:=packPid) (l.take i) []
   generalize hout:(l.take i).foldl (fun out x=>putS packPid x out) []=out at *
   have hol:out.length≤i:=by rw [List.length_take] at hlen;simp at hlen;omega
   have HXa:Hid (∀ W,Below wo.heap.size wo W→bl<W.heap.size∧∀ j u,(encPid x)[j]? = some u→W.cell? ⟨bl,ol+i*2+j,none⟩=some u):=fun W hW=>hcl i x hx W (bov hbl hbl.size hW)
   obtain⟨ao,co,rfl,o1,o2,hco⟩:=HO.out.at encPid_len
   unfold maxLen at o2
   have HCo:=Lh hco
   have HBl:=Lh hbl
   clear hx hcl hlen hco hbl hout
   go_wp2_with fail
   go_hide hQ
   go_loopw [5,6,7] (fun v5 v6 v7 wi=>SetPidIn wo x out v5 v6 v7 wi) (fun _ _ v7 _=>out.length - (intOf v7).toNat)
   case atStart=>exact⟨0,[],false,by omega,rfl,rfl,by simp,gown_nil _ _,restS_start _ _ _,Below.refl _ _⟩
   case round =>
    obtain⟨k,M,t,hk,rfl,rfl,hM,HM,HR,hbi⟩:=hrel
    have htn:=Bool.toNat_le t
    have hN:M.length+1≤1099511627776:=by omega
    by_cases hk2:k<out.length
    ·
     obtain⟨bo,oo,rfl,so,hcw⟩:=HCo.out.resolve_left (by omega)
     obtain⟨y,hy⟩:=gol hk2
     have HYa:Hid (∀ W,Below wo.heap.size wo W→bo<W.heap.size∧∀ j u,(encPid y)[j]? = some u→W.cell? ⟨bo,oo+k*2+j,none⟩=some u):=fun W hW=>hcw k y hy W hW
     have HR1:Hid (putS packPid x out=M++restS packPid x t (y :: out.drop (k+1))):=by show _=_;rw [← drop_at hy];exact HR.out
     have HBi:=Lh hbi
     clear hy hcw hbi HR
     cases t with
     | true =>
      have hM1:M.length≤k+1:=hM
      have HN:Hid (putS packPid x out=(M++[y])++restS packPid x true (out.drop (k+1))):=by show _=_;rw [HR1.out,restS_t,restS_t];simp
      have HXw:=Lh (HXa.out wr (HBi.out))
      have HYw:=Lh (HYa.out wr (HBi.out))
      have x0:wr.cell? ⟨bl,ol+i*2,none⟩=some (.int .u8 x.author.toNat):=(HXw.out).2 0 _ rfl
      have x1:wr.cell? ⟨bl,ol+i*2+1,none⟩=some (.int .u16 x.seq.toNat):=(HXw.out).2 1 _ rfl
      have y0:wr.cell? ⟨bo,oo+k*2,none⟩=some (.int .u8 y.author.toNat):=(HYw.out).2 0 _ rfl
      have y1:wr.cell? ⟨bo,oo+k*2+1,none⟩=some (.int .u16 y.seq.toNat):=(HYw.out).2 1 _ rfl
      have sX:=HXw.out.1
      have sY:=HYw.out.1
      have hB:=HBi.out.size
      go_wp2_with fail
      have hcur:Below wr.heap.size wr wr.drew:=(Below.refl _ _).drew
      refine wlex (C:=IsOver wr) 14 [] (by kernel_rfl) (by kernel_rfl) (iov hcur) ?_
      simp only [Tsc,Tz,Dsc,Dz]
      repeat(first|(refine lxs rfl rfl ?_;simp only [Act.put,Sib,Scs,Scz])|(refine lxo rfl ?_;go_big_quiet_step (fail);refine wpQuiet_nil ?_))
      refine lxe ?_
      clear hcur
      go_wp2_with fail
      have hcur:Below wr.heap.size wr wr.drew.drew:=(Below.refl _ _).drew.drew
      refine wlex (C:=IsOver wr) 14 [] (by kernel_rfl) (by kernel_rfl) (iov (by repeat(first|exact Below.refl _ _|apply Below.drew|apply below_drewN|(refine Below.alloc ?_ (by simp) _)))) ?_
      simp only [Tsc,Tz,Dsc,Dz]
      repeat(first|(refine lxs rfl rfl ?_;simp only [Act.put,Sib,Scs,Scz])|(refine lxo rfl ?_;go_big_quiet_step (fail);refine wpQuiet_nil ?_))
      refine lxe ?_
      clear hcur
      go_wp2_with (at_builtin;(first|refine apD slPid rfl _ _ rfl wo.heap.size _ _ (dad _ _ _) 1 _ _ _ HM.out rfl rfl rfl rfl hN (by decide) hB ?_|refine apD slPid rfl _ _ rfl wo.heap.size _ _ (ddw _) 1 _ _ _ HM.out rfl rfl rfl rfl hN (by decide) hB ?_|refine apD slPid rfl _ _ rfl wo.heap.size _ _ (drf _) 1 _ _ _ HM.out rfl rfl rfl rfl hN (by decide) hB ?_);intro v2 w2 ho2 hg2)
      go_roundw
      case rel=>exact⟨k+1,M++[y],true,hk2,by go_num,rfl,by simp;omega,GOwn.snoc ho2,HN,bgr HBi.out HBi.out.size HM.out hg2⟩
      case measure=>simp [intOf];omega
     | false =>
      have hM0:M.length≤k:=hM
      by_cases hlt2:packPid x<packPid y
      ·
       have HK:Hid (cmpPid x y = -1):=cmpPid_lt hlt2
       have HN:Hid (putS packPid x out=(M++[x]++[y])++restS packPid x true (out.drop (k+1))):=by show _=_;rw [HR1.out,restS_f,restS_t,putS_lt hlt2];simp
       have hN2:(M++[x]).length+1≤1099511627776:=by simp;omega
       clear hlt2
       have HXw:=Lh (HXa.out wr (HBi.out))
       have HYw:=Lh (HYa.out wr (HBi.out))
       have x0:wr.cell? ⟨bl,ol+i*2,none⟩=some (.int .u8 x.author.toNat):=(HXw.out).2 0 _ rfl
       have x1:wr.cell? ⟨bl,ol+i*2+1,none⟩=some (.int .u16 x.seq.toNat):=(HXw.out).2 1 _ rfl
       have y0:wr.cell? ⟨bo,oo+k*2,none⟩=some (.int .u8 y.author.toNat):=(HYw.out).2 0 _ rfl
       have y1:wr.cell? ⟨bo,oo+k*2+1,none⟩=some (.int .u16 y.seq.toNat):=(HYw.out).2 1 _ rfl
       have sX:=HXw.out.1
       have sY:=HYw.out.1
       go_wp2_with fail
       have hcur:Below wr.heap.size wr wr.drew:=(Below.refl _ _).drew
       refine wlex (C:=IsOver wr) 14 [] (by kernel_rfl) (by kernel_rfl) (iov hcur) ?_
       simp only [Tsc,Tz,Dsc,Dz]
       repeat(first|(refine lxs rfl rfl ?_;simp only [Act.put,Sib,Scs,Scz])|(refine lxo rfl ?_;go_big_quiet_step (fail);refine wpQuiet_nil ?_)|(refine lxl rfl ?_;go_wp2_with (first|(go_at_call 201;(with_reducible refine(rcmpPid_any _ _ _).mono ?_);rintro e w5 ⟨rfl,hb⟩;rw [HK.out];replace hcur:=bov hcur hcur.size hb;clear hb));refine⟨iov hcur,?_⟩))
       refine lxe ?_
       have HB5:=Lh (bov HBi.out HBi.out.size hcur)
       have HM5:=Lh (HM.out.over hcur)
       have hB5:=HB5.out.size
       clear hcur x0 y0 x1 y1 sX sY
       have HXw:=Lh (HXa.out w5 (HB5.out))
       have HYw:=Lh (HYa.out w5 (HB5.out))
       have x0:w5.cell? ⟨bl,ol+i*2,none⟩=some (.int .u8 x.author.toNat):=(HXw.out).2 0 _ rfl
       have x1:w5.cell? ⟨bl,ol+i*2+1,none⟩=some (.int .u16 x.seq.toNat):=(HXw.out).2 1 _ rfl
       have y0:w5.cell? ⟨bo,oo+k*2,none⟩=some (.int .u8 y.author.toNat):=(HYw.out).2 0 _ rfl
       have y1:w5.cell? ⟨bo,oo+k*2+1,none⟩=some (.int .u16 y.seq.toNat):=(HYw.out).2 1 _ rfl
       have sX:=HXw.out.1
       have sY:=HYw.out.1
       go_wp2_with (at_builtin;(first|refine apD slPid rfl _ _ rfl wo.heap.size _ _ (dad _ _ _) 1 _ _ _ HM5.out rfl rfl rfl rfl hN (by decide) hB5 ?_|refine apD slPid rfl _ _ rfl wo.heap.size _ _ (ddw _) 1 _ _ _ HM5.out rfl rfl rfl rfl hN (by decide) hB5 ?_|refine apD slPid rfl _ _ rfl wo.heap.size _ _ (drf _) 1 _ _ _ HM5.out rfl rfl rfl rfl hN (by decide) hB5 ?_);intro v2 w2 ho2 hg2)
       have HB2:=Lh (bgr HB5.out hB5 HM5.out hg2)
       have HM2:Hid (GOwn encPid 2 26 w2 wo.heap.size v2 (M++[x])):=GOwn.snoc ho2
       have hB2:=HB2.out.size
       clear hg2 ho2 x0 y0 x1 y1 sX sY
       have HXw:=Lh (HXa.out w2 (HB2.out))
       have HYw:=Lh (HYa.out w2 (HB2.out))
       have x0:w2.cell? ⟨bl,ol+i*2,none⟩=some (.int .u8 x.author.toNat):=(HXw.out).2 0 _ rfl
       have x1:w2.cell? ⟨bl,ol+i*2+1,none⟩=some (.int .u16 x.seq.toNat):=(HXw.out).2 1 _ rfl
       have y0:w2.cell? ⟨bo,oo+k*2,none⟩=some (.int .u8 y.author.toNat):=(HYw.out).2 0 _ rfl
       have y1:w2.cell? ⟨bo,oo+k*2+1,none⟩=some (.int .u16 y.seq.toNat):=(HYw.out).2 1 _ rfl
       have sX:=HXw.out.1
       have sY:=HYw.out.1
       go_wp2_with fail
       have hcur:Below w2.heap.size w2 w2.drew:=(Below.refl _ _).drew
       refine wlex (C:=IsOver w2) 14 [] (by kernel_rfl) (by kernel_rfl) (iov hcur) ?_
       simp only [Tsc,Tz,Dsc,Dz]
       repeat(first|(refine lxs rfl rfl ?_;simp only [Act.put,Sib,Scs,Scz])|(refine lxo rfl ?_;go_big_quiet_step (fail);refine wpQuiet_nil ?_))
       refine lxe ?_
       clear hcur
       go_wp2_with (at_builtin;(first|refine apD slPid rfl _ _ rfl wo.heap.size _ _ (dad _ _ _) 1 _ _ _ HM2.out rfl rfl rfl rfl hN2 (by decide) hB2 ?_|refine apD slPid rfl _ _ rfl wo.heap.size _ _ (ddw _) 1 _ _ _ HM2.out rfl rfl rfl rfl hN2 (by decide) hB2 ?_|refine apD slPid rfl _ _ rfl wo.heap.size _ _ (drf _) 1 _ _ _ HM2.out rfl rfl rfl rfl hN2 (by decide) hB2 ?_);intro v3 w3 ho3 hg3)
       go_roundw
       case rel=>exact⟨k+1,M++[x]++[y],true,hk2,by go_num,rfl,by simp;omega,GOwn.snoc ho3,HN,bgr HB2.out HB2.out.size HM2.out hg3⟩
       case measure=>simp [intOf];omega
      ·
       by_cases heq:packPid x=packPid y
       ·
        have HK:Hid (cmpPid x y=0):=cmpPid_eq heq
        have HN:Hid (putS packPid x out=(M++[y])++restS packPid x true (out.drop (k+1))):=by show _=_;rw [HR1.out,restS_f,putS_eq heq,restS_t];simp
        clear hlt2 heq
        have HXw:=Lh (HXa.out wr (HBi.out))
        have HYw:=Lh (HYa.out wr (HBi.out))
        have x0:wr.cell? ⟨bl,ol+i*2,none⟩=some (.int .u8 x.author.toNat):=(HXw.out).2 0 _ rfl
        have x1:wr.cell? ⟨bl,ol+i*2+1,none⟩=some (.int .u16 x.seq.toNat):=(HXw.out).2 1 _ rfl
        have y0:wr.cell? ⟨bo,oo+k*2,none⟩=some (.int .u8 y.author.toNat):=(HYw.out).2 0 _ rfl
        have y1:wr.cell? ⟨bo,oo+k*2+1,none⟩=some (.int .u16 y.seq.toNat):=(HYw.out).2 1 _ rfl
        have sX:=HXw.out.1
        have sY:=HYw.out.1
        go_wp2_with fail
        have hcur:Below wr.heap.size wr wr.drew:=(Below.refl _ _).drew
        refine wlex (C:=IsOver wr) 14 [] (by kernel_rfl) (by kernel_rfl) (iov hcur) ?_
        simp only [Tsc,Tz,Dsc,Dz]
        repeat(first|(refine lxs rfl rfl ?_;simp only [Act.put,Sib,Scs,Scz])|(refine lxo rfl ?_;go_big_quiet_step (fail);refine wpQuiet_nil ?_)|(refine lxl rfl ?_;go_wp2_with (first|(go_at_call 201;(with_reducible refine(rcmpPid_any _ _ _).mono ?_);rintro e w5 ⟨rfl,hb⟩;rw [HK.out];replace hcur:=bov hcur hcur.size hb;clear hb));refine⟨iov hcur,?_⟩))
        refine lxe ?_
        have HB5:=Lh (bov HBi.out HBi.out.size hcur)
        have HM5:=Lh (HM.out.over hcur)
        clear hcur x0 y0 x1 y1 sX sY
        have HXw:=Lh (HXa.out w5 (HB5.out))
        have HYw:=Lh (HYa.out w5 (HB5.out))
        have x0:w5.cell? ⟨bl,ol+i*2,none⟩=some (.int .u8 x.author.toNat):=(HXw.out).2 0 _ rfl
        have x1:w5.cell? ⟨bl,ol+i*2+1,none⟩=some (.int .u16 x.seq.toNat):=(HXw.out).2 1 _ rfl
        have y0:w5.cell? ⟨bo,oo+k*2,none⟩=some (.int .u8 y.author.toNat):=(HYw.out).2 0 _ rfl
        have y1:w5.cell? ⟨bo,oo+k*2+1,none⟩=some (.int .u16 y.seq.toNat):=(HYw.out).2 1 _ rfl
        have sX:=HXw.out.1
        have sY:=HYw.out.1
        go_wp2_with fail
        have hcur:Below w5.heap.size w5 w5.drew:=(Below.refl _ _).drew
        refine wlex (C:=IsOver w5) 14 [] (by kernel_rfl) (by kernel_rfl) (iov hcur) ?_
        simp only [Tsc,Tz,Dsc,Dz]
        repeat(first|(refine lxs rfl rfl ?_;simp only [Act.put,Sib,Scs,Scz])|(refine lxo rfl ?_;go_big_quiet_step (fail);refine wpQuiet_nil ?_)|(refine lxl rfl ?_;go_wp2_with (first|(go_at_call 201;(with_reducible refine(rcmpPid_any _ _ _).mono ?_);rintro e w6 ⟨rfl,hb⟩;rw [HK.out];replace hcur:=bov hcur hcur.size hb;clear hb));refine⟨iov hcur,?_⟩))
        refine lxe ?_
        have HB6:=Lh (bov HB5.out HB5.out.size hcur)
        have HM6:=Lh (HM5.out.over hcur)
        have hB6:=HB6.out.size
        clear hcur x0 y0 x1 y1 sX sY
        have HXw:=Lh (HXa.out w6 (HB6.out))
        have HYw:=Lh (HYa.out w6 (HB6.out))
        have x0:w6.cell? ⟨bl,ol+i*2,none⟩=some (.int .u8 x.author.toNat):=(HXw.out).2 0 _ rfl
        have x1:w6.cell? ⟨bl,ol+i*2+1,none⟩=some (.int .u16 x.seq.toNat):=(HXw.out).2 1 _ rfl
        have y0:w6.cell? ⟨bo,oo+k*2,none⟩=some (.int .u8 y.author.toNat):=(HYw.out).2 0 _ rfl
        have y1:w6.cell? ⟨bo,oo+k*2+1,none⟩=some (.int .u16 y.seq.toNat):=(HYw.out).2 1 _ rfl
        have sX:=HXw.out.1
        have sY:=HYw.out.1
        go_wp2_with (at_builtin;(first|refine apD slPid rfl _ _ rfl wo.heap.size _ _ (dad _ _ _) 1 _ _ _ HM6.out rfl rfl rfl rfl hN (by decide) hB6 ?_|refine apD slPid rfl _ _ rfl wo.heap.size _ _ (ddw _) 1 _ _ _ HM6.out rfl rfl rfl rfl hN (by decide) hB6 ?_|refine apD slPid rfl _ _ rfl wo.heap.size _ _ (drf _) 1 _ _ _ HM6.out rfl rfl rfl rfl hN (by decide) hB6 ?_);intro v2 w2 ho2 hg2)
        go_roundw
        case rel=>exact⟨k+1,M++[y],true,hk2,by go_num,rfl,by simp;omega,GOwn.snoc ho2,HN,bgr HB6.out HB6.out.size HM6.out hg2⟩
        case measure=>simp [intOf];omega
       ·
        have hgt:packPid y<packPid x:=by omega
        clear heq
        have HK:Hid (cmpPid x y=1):=cmpPid_gt hgt
        have HN:Hid (putS packPid x out=(M++[y])++restS packPid x false (out.drop (k+1))):=by show _=_;rw [HR1.out,restS_f,putS_gt hgt,restS_f];simp
        clear hlt2 hgt
        have HXw:=Lh (HXa.out wr (HBi.out))
        have HYw:=Lh (HYa.out wr (HBi.out))
        have x0:wr.cell? ⟨bl,ol+i*2,none⟩=some (.int .u8 x.author.toNat):=(HXw.out).2 0 _ rfl
        have x1:wr.cell? ⟨bl,ol+i*2+1,none⟩=some (.int .u16 x.seq.toNat):=(HXw.out).2 1 _ rfl
        have y0:wr.cell? ⟨bo,oo+k*2,none⟩=some (.int .u8 y.author.toNat):=(HYw.out).2 0 _ rfl
        have y1:wr.cell? ⟨bo,oo+k*2+1,none⟩=some (.int .u16 y.seq.toNat):=(HYw.out).2 1 _ rfl
        have sX:=HXw.out.1
        have sY:=HYw.out.1
        go_wp2_with fail
        have hcur:Below wr.heap.size wr wr.drew:=(Below.refl _ _).drew
        refine wlex (C:=IsOver wr) 14 [] (by kernel_rfl) (by kernel_rfl) (iov hcur) ?_
        simp only [Tsc,Tz,Dsc,Dz]
        repeat(first|(refine lxs rfl rfl ?_;simp only [Act.put,Sib,Scs,Scz])|(refine lxo rfl ?_;go_big_quiet_step (fail);refine wpQuiet_nil ?_)|(refine lxl rfl ?_;go_wp2_with (first|(go_at_call 201;(with_reducible refine(rcmpPid_any _ _ _).mono ?_);rintro e w5 ⟨rfl,hb⟩;rw [HK.out];replace hcur:=bov hcur hcur.size hb;clear hb));refine⟨iov hcur,?_⟩))
        refine lxe ?_
        have HB5:=Lh (bov HBi.out HBi.out.size hcur)
        have HM5:=Lh (HM.out.over hcur)
        clear hcur x0 y0 x1 y1 sX sY
        have HXw:=Lh (HXa.out w5 (HB5.out))
        have HYw:=Lh (HYa.out w5 (HB5.out))
        have x0:w5.cell? ⟨bl,ol+i*2,none⟩=some (.int .u8 x.author.toNat):=(HXw.out).2 0 _ rfl
        have x1:w5.cell? ⟨bl,ol+i*2+1,none⟩=some (.int .u16 x.seq.toNat):=(HXw.out).2 1 _ rfl
        have y0:w5.cell? ⟨bo,oo+k*2,none⟩=some (.int .u8 y.author.toNat):=(HYw.out).2 0 _ rfl
        have y1:w5.cell? ⟨bo,oo+k*2+1,none⟩=some (.int .u16 y.seq.toNat):=(HYw.out).2 1 _ rfl
        have sX:=HXw.out.1
        have sY:=HYw.out.1
        go_wp2_with fail
        have hcur:Below w5.heap.size w5 w5.drew:=(Below.refl _ _).drew
        refine wlex (C:=IsOver w5) 14 [] (by kernel_rfl) (by kernel_rfl) (iov hcur) ?_
        simp only [Tsc,Tz,Dsc,Dz]
        repeat(first|(refine lxs rfl rfl ?_;simp only [Act.put,Sib,Scs,Scz])|(refine lxo rfl ?_;go_big_quiet_step (fail);refine wpQuiet_nil ?_)|(refine lxl rfl ?_;go_wp2_with (first|(go_at_call 201;(with_reducible refine(rcmpPid_any _ _ _).mono ?_);rintro e w6 ⟨rfl,hb⟩;rw [HK.out];replace hcur:=bov hcur hcur.size hb;clear hb));refine⟨iov hcur,?_⟩))
        refine lxe ?_
        have HB6:=Lh (bov HB5.out HB5.out.size hcur)
        have HM6:=Lh (HM5.out.over hcur)
        have hB6:=HB6.out.size
        clear hcur x0 y0 x1 y1 sX sY
        have HXw:=Lh (HXa.out w6 (HB6.out))
        have HYw:=Lh (HYa.out w6 (HB6.out))
        have x0:w6.cell? ⟨bl,ol+i*2,none⟩=some (.int .u8 x.author.toNat):=(HXw.out).2 0 _ rfl
        have x1:w6.cell? ⟨bl,ol+i*2+1,none⟩=some (.int .u16 x.seq.toNat):=(HXw.out).2 1 _ rfl
        have y0:w6.cell? ⟨bo,oo+k*2,none⟩=some (.int .u8 y.author.toNat):=(HYw.out).2 0 _ rfl
        have y1:w6.cell? ⟨bo,oo+k*2+1,none⟩=some (.int .u16 y.seq.toNat):=(HYw.out).2 1 _ rfl
        have sX:=HXw.out.1
        have sY:=HYw.out.1
        go_wp2_with (at_builtin;(first|refine apD slPid rfl _ _ rfl wo.heap.size _ _ (dad _ _ _) 1 _ _ _ HM6.out rfl rfl rfl rfl hN (by decide) hB6 ?_|refine apD slPid rfl _ _ rfl wo.heap.size _ _ (ddw _) 1 _ _ _ HM6.out rfl rfl rfl rfl hN (by decide) hB6 ?_|refine apD slPid rfl _ _ rfl wo.heap.size _ _ (drf _) 1 _ _ _ HM6.out rfl rfl rfl rfl hN (by decide) hB6 ?_);intro v2 w2 ho2 hg2)
        go_roundw
        case rel=>exact⟨k+1,M++[y],false,hk2,by go_num,rfl,by simp;omega,GOwn.snoc ho2,HN,bgr HB6.out HB6.out.size HM6.out hg2⟩
        case measure=>simp [intOf];omega
    ·
     have hke:k=out.length:=by omega
     subst hke
     rw [List.drop_length] at HR
     have HBi:=Lh hbi
     have hbw:=bov HBl.out HBl.out.size hbi
     cases t with
     | true =>
      have HE:Hid (putS packPid x out=M):=by show _=_;rw [HR.out,restS_t];simp
      go_wp2_with fail
      subst hQ
      go_wp2_with fail
      go_roundw
      case rel=>exact⟨i+1,hlt,by go_num,(by show GRow _ _ _ _ _;rw [HF.out,HE.out];exact HM.out.row),hbw⟩
      case measure=>simp [intOf];omega
     | false =>
      have HE:Hid (putS packPid x out=M++[x]):=by show _=_;rw [HR.out,restS_f,putS_nil]
      have HXw:=Lh (HXa.out wr HBi.out)
      have x0:wr.cell? ⟨bl,ol+i*2,none⟩=some (.int .u8 x.author.toNat):=(HXw.out).2 0 _ rfl
      have x1:wr.cell? ⟨bl,ol+i*2+1,none⟩=some (.int .u16 x.seq.toNat):=(HXw.out).2 1 _ rfl
      have sX:=HXw.out.1
      have hB:=HBi.out.size
      go_wp2_with fail
      subst hQ
      go_wp2_with (at_builtin;(first|refine apD slPid rfl _ _ rfl wo.heap.size _ _ (dad _ _ _) 1 _ _ _ HM.out rfl rfl rfl rfl hN (by decide) hB ?_|refine apD slPid rfl _ _ rfl wo.heap.size _ _ (ddw _) 1 _ _ _ HM.out rfl rfl rfl rfl hN (by decide) hB ?_|refine apD slPid rfl _ _ rfl wo.heap.size _ _ (drf _) 1 _ _ _ HM.out rfl rfl rfl rfl hN (by decide) hB ?_);intro v2 w2 ho2 hg2)
      go_roundw
      case rel=>exact⟨i+1,hlt,by go_num,(by show GRow _ _ _ _ _;rw [HF.out,HE.out];exact(GOwn.snoc ho2).row),bov HBl.out HBl.out.size (bgr HBi.out hB HM.out hg2)⟩
      case measure=>simp [intOf];omega
  ·
   obtain rfl:i=l.length:=by omega
   have HE:=HO.out
   rw [List.take_length] at HE
   go_wp2_with fail
   go_ret
   exact⟨_,rfl,HE,hbl⟩

def SetVidOut(w:World)(l:List VidM)(v3 v4:Value)(wr:World):Prop:=
 ∃ i:Nat,i≤l.length∧v4=.int .i64 i∧Hid (GRow encVid 3 wr v3 ((l.take i).foldl (fun out x=>putS packVid x out) []))∧Below w.heap.size w wr
def SetVidIn(wo:World)(x:VidM)(out:List VidM)(v5 v6 v7:Value)(wr:World):Prop:=
 ∃(k:Nat) (M:List VidM) (t:Bool),k≤out.length∧v7=.int .i64 k∧v6=.bool t∧M.length≤k+t.toNat∧Hid (GOwn encVid 3 40 wr wo.heap.size v5 M)∧Hid (putS packVid x out=M++restS packVid x t (out.drop k))∧Below wo.heap.size wo wr
set_option maxHeartbeats 20000000 in
set_option maxRecDepth 100000 in
theorem rsetVid_any(v:Value)(l:List VidM)(w:World)(hv:GRow encVid 3 w v l)(hl:l.length≤100000) :
  Calls Tryz.prog 131 #[v] w (SetRes encVid 3 w (setS packVid l)):=by
 obtain⟨a,cap,rfl,h1,h2,hc⟩:=hv.at encVid_len
 unfold maxLen at h2
 have HC:=Lh hc
 clear hv hc
 go_enter Tryz.func131,Tryz.ntmps131
 go_wp2_with fail
 go_loopw [3,4] (fun v3 v4 wr=>SetVidOut w l v3 v4 wr) (fun _ v4 _=>l.length - (intOf v4).toNat)
 case atStart=>exact⟨0,by omega,rfl,grow_nil _,Below.refl _ _⟩
 case round =>
  rename World=>wo
  obtain⟨i,hi,rfl,HO,hbl⟩:=hrel
  by_cases hlt:i<l.length
  ·
   obtain⟨bl,ol,rfl,sl,hcl⟩:=HC.out.resolve_left (by omega)
   obtain⟨x,hx⟩:=gol hlt
   have HF:=Lh (foldl_take (key:=packVid) hx)
   have hlen:=foldl_len (key:=packVid) (l.take i) []
   generalize hout:(l.take i).foldl (fun out x=>putS packVid x out) []=out at *
   have hol:out.length≤i:=by rw [List.length_take] at hlen;simp at hlen;omega
   have HXa:Hid (∀ W,Below wo.heap.size wo W→bl<W.heap.size∧∀ j u,(encVid x)[j]? = some u→W.cell? ⟨bl,ol+i*3+j,none⟩=some u):=fun W hW=>hcl i x hx W (bov hbl hbl.size hW)
   obtain⟨ao,co,rfl,o1,o2,hco⟩:=HO.out.at encVid_len
   unfold maxLen at o2
   have HCo:=Lh hco
   have HBl:=Lh hbl
   clear hx hcl hlen hco hbl hout
   go_wp2_with fail
   go_hide hQ
   go_loopw [5,6,7] (fun v5 v6 v7 wi=>SetVidIn wo x out v5 v6 v7 wi) (fun _ _ v7 _=>out.length - (intOf v7).toNat)
   case atStart=>exact⟨0,[],false,by omega,rfl,rfl,by simp,gown_nil _ _,restS_startV _ _ _,Below.refl _ _⟩
   case round =>
    obtain⟨k,M,t,hk,rfl,rfl,hM,HM,HR,hbi⟩:=hrel
    have htn:=Bool.toNat_le t
    have hN:M.length+1≤1099511627776:=by omega
    by_cases hk2:k<out.length
    ·
     obtain⟨bo,oo,rfl,so,hcw⟩:=HCo.out.resolve_left (by omega)
     obtain⟨y,hy⟩:=gol hk2
     have HYa:Hid (∀ W,Below wo.heap.size wo W→bo<W.heap.size∧∀ j u,(encVid y)[j]? = some u→W.cell? ⟨bo,oo+k*3+j,none⟩=some u):=fun W hW=>hcw k y hy W hW
     have HR1:Hid (putS packVid x out=M++restS packVid x t (y :: out.drop (k+1))):=by show _=_;rw [← drop_at hy];exact HR.out
     have HBi:=Lh hbi
     clear hy hcw hbi HR
     cases t with
     | true =>
      have hM1:M.length≤k+1:=hM
      have HN:Hid (putS packVid x out=(M++[y])++restS packVid x true (out.drop (k+1))):=by show _=_;rw [HR1.out,restS_t,restS_t];simp
      have HXw:=Lh (HXa.out wr (HBi.out))
      have HYw:=Lh (HYa.out wr (HBi.out))
      have x0:wr.cell? ⟨bl,ol+i*3,none⟩=some (.int .u8 x.pid.author.toNat):=(HXw.out).2 0 _ rfl
      have x1:wr.cell? ⟨bl,ol+i*3+1,none⟩=some (.int .u16 x.pid.seq.toNat):=(HXw.out).2 1 _ rfl
      have x2:wr.cell? ⟨bl,ol+i*3+2,none⟩=some (.int .u8 x.n.toNat):=(HXw.out).2 2 _ rfl
      have y0:wr.cell? ⟨bo,oo+k*3,none⟩=some (.int .u8 y.pid.author.toNat):=(HYw.out).2 0 _ rfl
      have y1:wr.cell? ⟨bo,oo+k*3+1,none⟩=some (.int .u16 y.pid.seq.toNat):=(HYw.out).2 1 _ rfl
      have y2:wr.cell? ⟨bo,oo+k*3+2,none⟩=some (.int .u8 y.n.toNat):=(HYw.out).2 2 _ rfl
      have sX:=HXw.out.1
      have sY:=HYw.out.1
      have hB:=HBi.out.size
      go_wp2_with fail
      have hcur:Below wr.heap.size wr wr.drew:=(Below.refl _ _).drew
      refine wlex (C:=IsOver wr) 14 [] (by kernel_rfl) (by kernel_rfl) (iov hcur) ?_
      simp only [Tsc,Tz,Dsc,Dz]
      repeat(first|(refine lxs rfl rfl ?_;simp only [Act.put,Sib,Scs,Scz])|(refine lxo rfl ?_;go_big_quiet_step (fail);refine wpQuiet_nil ?_))
      refine lxe ?_
      clear hcur
      go_wp2_with fail
      have hcur:Below wr.heap.size wr wr.drew.drew:=(Below.refl _ _).drew.drew
      refine wlex (C:=IsOver wr) 14 [] (by kernel_rfl) (by kernel_rfl) (iov (by repeat(first|exact Below.refl _ _|apply Below.drew|apply below_drewN|(refine Below.alloc ?_ (by simp) _)))) ?_
      simp only [Tsc,Tz,Dsc,Dz]
      repeat(first|(refine lxs rfl rfl ?_;simp only [Act.put,Sib,Scs,Scz])|(refine lxo rfl ?_;go_big_quiet_step (fail);refine wpQuiet_nil ?_))
      refine lxe ?_
      clear hcur
      go_wp2_with (at_builtin;(first|refine apD slVid rfl _ _ rfl wo.heap.size _ _ (dad _ _ _) 1 _ _ _ HM.out rfl rfl rfl rfl hN (by decide) hB ?_|refine apD slVid rfl _ _ rfl wo.heap.size _ _ (ddw _) 1 _ _ _ HM.out rfl rfl rfl rfl hN (by decide) hB ?_|refine apD slVid rfl _ _ rfl wo.heap.size _ _ (drf _) 1 _ _ _ HM.out rfl rfl rfl rfl hN (by decide) hB ?_);intro v2 w2 ho2 hg2)
      go_roundw
      case rel=>exact⟨k+1,M++[y],true,hk2,by go_num,rfl,by simp;omega,GOwn.snoc ho2,HN,bgr HBi.out HBi.out.size HM.out hg2⟩
      case measure=>simp [intOf];omega
     | false =>
      have hM0:M.length≤k:=hM
      by_cases hlt2:packVid x<packVid y
      ·
       have HK:Hid (cmpVid x y = -1):=cmpVid_lt hlt2
       have HN:Hid (putS packVid x out=(M++[x]++[y])++restS packVid x true (out.drop (k+1))):=by show _=_;rw [HR1.out,restS_f,restS_t,putS_lt hlt2];simp
       have hN2:(M++[x]).length+1≤1099511627776:=by simp;omega
       clear hlt2
       have HXw:=Lh (HXa.out wr (HBi.out))
       have HYw:=Lh (HYa.out wr (HBi.out))
       have x0:wr.cell? ⟨bl,ol+i*3,none⟩=some (.int .u8 x.pid.author.toNat):=(HXw.out).2 0 _ rfl
       have x1:wr.cell? ⟨bl,ol+i*3+1,none⟩=some (.int .u16 x.pid.seq.toNat):=(HXw.out).2 1 _ rfl
       have x2:wr.cell? ⟨bl,ol+i*3+2,none⟩=some (.int .u8 x.n.toNat):=(HXw.out).2 2 _ rfl
       have y0:wr.cell? ⟨bo,oo+k*3,none⟩=some (.int .u8 y.pid.author.toNat):=(HYw.out).2 0 _ rfl
       have y1:wr.cell? ⟨bo,oo+k*3+1,none⟩=some (.int .u16 y.pid.seq.toNat):=(HYw.out).2 1 _ rfl
       have y2:wr.cell? ⟨bo,oo+k*3+2,none⟩=some (.int .u8 y.n.toNat):=(HYw.out).2 2 _ rfl
       have sX:=HXw.out.1
       have sY:=HYw.out.1
       go_wp2_with fail
       have hcur:Below wr.heap.size wr wr.drew:=(Below.refl _ _).drew
       refine wlex (C:=IsOver wr) 14 [] (by kernel_rfl) (by kernel_rfl) (iov hcur) ?_
       simp only [Tsc,Tz,Dsc,Dz]
       repeat(first|(refine lxs rfl rfl ?_;simp only [Act.put,Sib,Scs,Scz])|(refine lxo rfl ?_;go_big_quiet_step (fail);refine wpQuiet_nil ?_)|(refine lxl rfl ?_;go_wp2_with (first|(go_at_call 170;(with_reducible refine(rcmpVid_any _ _ _).mono ?_);rintro e w5 ⟨rfl,hb⟩;rw [HK.out];replace hcur:=bov hcur hcur.size hb;clear hb));refine⟨iov hcur,?_⟩))
       refine lxe ?_
       have HB5:=Lh (bov HBi.out HBi.out.size hcur)
       have HM5:=Lh (HM.out.over hcur)
       have hB5:=HB5.out.size
       clear hcur x0 y0 x1 y1 x2 y2 sX sY
       have HXw:=Lh (HXa.out w5 (HB5.out))
       have HYw:=Lh (HYa.out w5 (HB5.out))
       have x0:w5.cell? ⟨bl,ol+i*3,none⟩=some (.int .u8 x.pid.author.toNat):=(HXw.out).2 0 _ rfl
       have x1:w5.cell? ⟨bl,ol+i*3+1,none⟩=some (.int .u16 x.pid.seq.toNat):=(HXw.out).2 1 _ rfl
       have x2:w5.cell? ⟨bl,ol+i*3+2,none⟩=some (.int .u8 x.n.toNat):=(HXw.out).2 2 _ rfl
       have y0:w5.cell? ⟨bo,oo+k*3,none⟩=some (.int .u8 y.pid.author.toNat):=(HYw.out).2 0 _ rfl
       have y1:w5.cell? ⟨bo,oo+k*3+1,none⟩=some (.int .u16 y.pid.seq.toNat):=(HYw.out).2 1 _ rfl
       have y2:w5.cell? ⟨bo,oo+k*3+2,none⟩=some (.int .u8 y.n.toNat):=(HYw.out).2 2 _ rfl
       have sX:=HXw.out.1
       have sY:=HYw.out.1
       go_wp2_with (at_builtin;(first|refine apD slVid rfl _ _ rfl wo.heap.size _ _ (dad _ _ _) 1 _ _ _ HM5.out rfl rfl rfl rfl hN (by decide) hB5 ?_|refine apD slVid rfl _ _ rfl wo.heap.size _ _ (ddw _) 1 _ _ _ HM5.out rfl rfl rfl rfl hN (by decide) hB5 ?_|refine apD slVid rfl _ _ rfl wo.heap.size _ _ (drf _) 1 _ _ _ HM5.out rfl rfl rfl rfl hN (by decide) hB5 ?_);intro v2 w2 ho2 hg2)
       have HB2:=Lh (bgr HB5.out hB5 HM5.out hg2)
       have HM2:Hid (GOwn encVid 3 40 w2 wo.heap.size v2 (M++[x])):=GOwn.snoc ho2
       have hB2:=HB2.out.size
       clear hg2 ho2 x0 y0 x1 y1 x2 y2 sX sY
       have HXw:=Lh (HXa.out w2 (HB2.out))
       have HYw:=Lh (HYa.out w2 (HB2.out))
       have x0:w2.cell? ⟨bl,ol+i*3,none⟩=some (.int .u8 x.pid.author.toNat):=(HXw.out).2 0 _ rfl
       have x1:w2.cell? ⟨bl,ol+i*3+1,none⟩=some (.int .u16 x.pid.seq.toNat):=(HXw.out).2 1 _ rfl
       have x2:w2.cell? ⟨bl,ol+i*3+2,none⟩=some (.int .u8 x.n.toNat):=(HXw.out).2 2 _ rfl
       have y0:w2.cell? ⟨bo,oo+k*3,none⟩=some (.int .u8 y.pid.author.toNat):=(HYw.out).2 0 _ rfl
       have y1:w2.cell? ⟨bo,oo+k*3+1,none⟩=some (.int .u16 y.pid.seq.toNat):=(HYw.out).2 1 _ rfl
       have y2:w2.cell? ⟨bo,oo+k*3+2,none⟩=some (.int .u8 y.n.toNat):=(HYw.out).2 2 _ rfl
       have sX:=HXw.out.1
       have sY:=HYw.out.1
       go_wp2_with fail
       have hcur:Below w2.heap.size w2 w2.drew:=(Below.refl _ _).drew
       refine wlex (C:=IsOver w2) 14 [] (by kernel_rfl) (by kernel_rfl) (iov hcur) ?_
       simp only [Tsc,Tz,Dsc,Dz]
       repeat(first|(refine lxs rfl rfl ?_;simp only [Act.put,Sib,Scs,Scz])|(refine lxo rfl ?_;go_big_quiet_step (fail);refine wpQuiet_nil ?_))
       refine lxe ?_
       clear hcur
       go_wp2_with (at_builtin;(first|refine apD slVid rfl _ _ rfl wo.heap.size _ _ (dad _ _ _) 1 _ _ _ HM2.out rfl rfl rfl rfl hN2 (by decide) hB2 ?_|refine apD slVid rfl _ _ rfl wo.heap.size _ _ (ddw _) 1 _ _ _ HM2.out rfl rfl rfl rfl hN2 (by decide) hB2 ?_|refine apD slVid rfl _ _ rfl wo.heap.size _ _ (drf _) 1 _ _ _ HM2.out rfl rfl rfl rfl hN2 (by decide) hB2 ?_);intro v3 w3 ho3 hg3)
       go_roundw
       case rel=>exact⟨k+1,M++[x]++[y],true,hk2,by go_num,rfl,by simp;omega,GOwn.snoc ho3,HN,bgr HB2.out HB2.out.size HM2.out hg3⟩
       case measure=>simp [intOf];omega
      ·
       by_cases heq:packVid x=packVid y
       ·
        have HK:Hid (cmpVid x y=0):=cmpVid_eq heq
        have HN:Hid (putS packVid x out=(M++[y])++restS packVid x true (out.drop (k+1))):=by show _=_;rw [HR1.out,restS_f,putS_eq heq,restS_t];simp
        clear hlt2 heq
        have HXw:=Lh (HXa.out wr (HBi.out))
        have HYw:=Lh (HYa.out wr (HBi.out))
        have x0:wr.cell? ⟨bl,ol+i*3,none⟩=some (.int .u8 x.pid.author.toNat):=(HXw.out).2 0 _ rfl
        have x1:wr.cell? ⟨bl,ol+i*3+1,none⟩=some (.int .u16 x.pid.seq.toNat):=(HXw.out).2 1 _ rfl
        have x2:wr.cell? ⟨bl,ol+i*3+2,none⟩=some (.int .u8 x.n.toNat):=(HXw.out).2 2 _ rfl
        have y0:wr.cell? ⟨bo,oo+k*3,none⟩=some (.int .u8 y.pid.author.toNat):=(HYw.out).2 0 _ rfl
        have y1:wr.cell? ⟨bo,oo+k*3+1,none⟩=some (.int .u16 y.pid.seq.toNat):=(HYw.out).2 1 _ rfl
        have y2:wr.cell? ⟨bo,oo+k*3+2,none⟩=some (.int .u8 y.n.toNat):=(HYw.out).2 2 _ rfl
        have sX:=HXw.out.1
        have sY:=HYw.out.1
        go_wp2_with fail
        have hcur:Below wr.heap.size wr wr.drew:=(Below.refl _ _).drew
        refine wlex (C:=IsOver wr) 14 [] (by kernel_rfl) (by kernel_rfl) (iov hcur) ?_
        simp only [Tsc,Tz,Dsc,Dz]
        repeat(first|(refine lxs rfl rfl ?_;simp only [Act.put,Sib,Scs,Scz])|(refine lxo rfl ?_;go_big_quiet_step (fail);refine wpQuiet_nil ?_)|(refine lxl rfl ?_;go_wp2_with (first|(go_at_call 170;(with_reducible refine(rcmpVid_any _ _ _).mono ?_);rintro e w5 ⟨rfl,hb⟩;rw [HK.out];replace hcur:=bov hcur hcur.size hb;clear hb));refine⟨iov hcur,?_⟩))
        refine lxe ?_
        have HB5:=Lh (bov HBi.out HBi.out.size hcur)
        have HM5:=Lh (HM.out.over hcur)
        clear hcur x0 y0 x1 y1 x2 y2 sX sY
        have HXw:=Lh (HXa.out w5 (HB5.out))
        have HYw:=Lh (HYa.out w5 (HB5.out))
        have x0:w5.cell? ⟨bl,ol+i*3,none⟩=some (.int .u8 x.pid.author.toNat):=(HXw.out).2 0 _ rfl
        have x1:w5.cell? ⟨bl,ol+i*3+1,none⟩=some (.int .u16 x.pid.seq.toNat):=(HXw.out).2 1 _ rfl
        have x2:w5.cell? ⟨bl,ol+i*3+2,none⟩=some (.int .u8 x.n.toNat):=(HXw.out).2 2 _ rfl
        have y0:w5.cell? ⟨bo,oo+k*3,none⟩=some (.int .u8 y.pid.author.toNat):=(HYw.out).2 0 _ rfl
        have y1:w5.cell? ⟨bo,oo+k*3+1,none⟩=some (.int .u16 y.pid.seq.toNat):=(HYw.out).2 1 _ rfl
        have y2:w5.cell? ⟨bo,oo+k*3+2,none⟩=some (.int .u8 y.n.toNat):=(HYw.out).2 2 _ rfl
        have sX:=HXw.out.1
        have sY:=HYw.out.1
        go_wp2_with fail
        have hcur:Below w5.heap.size w5 w5.drew:=(Below.refl _ _).drew
        refine wlex (C:=IsOver w5) 14 [] (by kernel_rfl) (by kernel_rfl) (iov hcur) ?_
        simp only [Tsc,Tz,Dsc,Dz]
        repeat(first|(refine lxs rfl rfl ?_;simp only [Act.put,Sib,Scs,Scz])|(refine lxo rfl ?_;go_big_quiet_step (fail);refine wpQuiet_nil ?_)|(refine lxl rfl ?_;go_wp2_with (first|(go_at_call 170;(with_reducible refine(rcmpVid_any _ _ _).mono ?_);rintro e w6 ⟨rfl,hb⟩;rw [HK.out];replace hcur:=bov hcur hcur.size hb;clear hb));refine⟨iov hcur,?_⟩))
        refine lxe ?_
        have HB6:=Lh (bov HB5.out HB5.out.size hcur)
        have HM6:=Lh (HM5.out.over hcur)
        have hB6:=HB6.out.size
        clear hcur x0 y0 x1 y1 x2 y2 sX sY
        have HXw:=Lh (HXa.out w6 (HB6.out))
        have HYw:=Lh (HYa.out w6 (HB6.out))
        have x0:w6.cell? ⟨bl,ol+i*3,none⟩=some (.int .u8 x.pid.author.toNat):=(HXw.out).2 0 _ rfl
        have x1:w6.cell? ⟨bl,ol+i*3+1,none⟩=some (.int .u16 x.pid.seq.toNat):=(HXw.out).2 1 _ rfl
        have x2:w6.cell? ⟨bl,ol+i*3+2,none⟩=some (.int .u8 x.n.toNat):=(HXw.out).2 2 _ rfl
        have y0:w6.cell? ⟨bo,oo+k*3,none⟩=some (.int .u8 y.pid.author.toNat):=(HYw.out).2 0 _ rfl
        have y1:w6.cell? ⟨bo,oo+k*3+1,none⟩=some (.int .u16 y.pid.seq.toNat):=(HYw.out).2 1 _ rfl
        have y2:w6.cell? ⟨bo,oo+k*3+2,none⟩=some (.int .u8 y.n.toNat):=(HYw.out).2 2 _ rfl
        have sX:=HXw.out.1
        have sY:=HYw.out.1
        go_wp2_with (at_builtin;(first|refine apD slVid rfl _ _ rfl wo.heap.size _ _ (dad _ _ _) 1 _ _ _ HM6.out rfl rfl rfl rfl hN (by decide) hB6 ?_|refine apD slVid rfl _ _ rfl wo.heap.size _ _ (ddw _) 1 _ _ _ HM6.out rfl rfl rfl rfl hN (by decide) hB6 ?_|refine apD slVid rfl _ _ rfl wo.heap.size _ _ (drf _) 1 _ _ _ HM6.out rfl rfl rfl rfl hN (by decide) hB6 ?_);intro v2 w2 ho2 hg2)
        go_roundw
        case rel=>exact⟨k+1,M++[y],true,hk2,by go_num,rfl,by simp;omega,GOwn.snoc ho2,HN,bgr HB6.out HB6.out.size HM6.out hg2⟩
        case measure=>simp [intOf];omega
       ·
        have hgt:packVid y<packVid x:=by omega
        clear heq
        have HK:Hid (cmpVid x y=1):=cmpVid_gt hgt
        have HN:Hid (putS packVid x out=(M++[y])++restS packVid x false (out.drop (k+1))):=by show _=_;rw [HR1.out,restS_f,putS_gt hgt,restS_f];simp
        clear hlt2 hgt
        have HXw:=Lh (HXa.out wr (HBi.out))
        have HYw:=Lh (HYa.out wr (HBi.out))
        have x0:wr.cell? ⟨bl,ol+i*3,none⟩=some (.int .u8 x.pid.author.toNat):=(HXw.out).2 0 _ rfl
        have x1:wr.cell? ⟨bl,ol+i*3+1,none⟩=some (.int .u16 x.pid.seq.toNat):=(HXw.out).2 1 _ rfl
        have x2:wr.cell? ⟨bl,ol+i*3+2,none⟩=some (.int .u8 x.n.toNat):=(HXw.out).2 2 _ rfl
        have y0:wr.cell? ⟨bo,oo+k*3,none⟩=some (.int .u8 y.pid.author.toNat):=(HYw.out).2 0 _ rfl
        have y1:wr.cell? ⟨bo,oo+k*3+1,none⟩=some (.int .u16 y.pid.seq.toNat):=(HYw.out).2 1 _ rfl
        have y2:wr.cell? ⟨bo,oo+k*3+2,none⟩=some (.int .u8 y.n.toNat):=(HYw.out).2 2 _ rfl
        have sX:=HXw.out.1
        have sY:=HYw.out.1
        go_wp2_with fail
        have hcur:Below wr.heap.size wr wr.drew:=(Below.refl _ _).drew
        refine wlex (C:=IsOver wr) 14 [] (by kernel_rfl) (by kernel_rfl) (iov hcur) ?_
        simp only [Tsc,Tz,Dsc,Dz]
        repeat(first|(refine lxs rfl rfl ?_;simp only [Act.put,Sib,Scs,Scz])|(refine lxo rfl ?_;go_big_quiet_step (fail);refine wpQuiet_nil ?_)|(refine lxl rfl ?_;go_wp2_with (first|(go_at_call 170;(with_reducible refine(rcmpVid_any _ _ _).mono ?_);rintro e w5 ⟨rfl,hb⟩;rw [HK.out];replace hcur:=bov hcur hcur.size hb;clear hb));refine⟨iov hcur,?_⟩))
        refine lxe ?_
        have HB5:=Lh (bov HBi.out HBi.out.size hcur)
        have HM5:=Lh (HM.out.over hcur)
        clear hcur x0 y0 x1 y1 x2 y2 sX sY
        have HXw:=Lh (HXa.out w5 (HB5.out))
        have HYw:=Lh (HYa.out w5 (HB5.out))
        have x0:w5.cell? ⟨bl,ol+i*3,none⟩=some (.int .u8 x.pid.author.toNat):=(HXw.out).2 0 _ rfl
        have x1:w5.cell? ⟨bl,ol+i*3+1,none⟩=some (.int .u16 x.pid.seq.toNat):=(HXw.out).2 1 _ rfl
        have x2:w5.cell? ⟨bl,ol+i*3+2,none⟩=some (.int .u8 x.n.toNat):=(HXw.out).2 2 _ rfl
        have y0:w5.cell? ⟨bo,oo+k*3,none⟩=some (.int .u8 y.pid.author.toNat):=(HYw.out).2 0 _ rfl
        have y1:w5.cell? ⟨bo,oo+k*3+1,none⟩=some (.int .u16 y.pid.seq.toNat):=(HYw.out).2 1 _ rfl
        have y2:w5.cell? ⟨bo,oo+k*3+2,none⟩=some (.int .u8 y.n.toNat):=(HYw.out).2 2 _ rfl
        have sX:=HXw.out.1
        have sY:=HYw.out.1
        go_wp2_with fail
        have hcur:Below w5.heap.size w5 w5.drew:=(Below.refl _ _).drew
        refine wlex (C:=IsOver w5) 14 [] (by kernel_rfl) (by kernel_rfl) (iov hcur) ?_
        simp only [Tsc,Tz,Dsc,Dz]
        repeat(first|(refine lxs rfl rfl ?_;simp only [Act.put,Sib,Scs,Scz])|(refine lxo rfl ?_;go_big_quiet_step (fail);refine wpQuiet_nil ?_)|(refine lxl rfl ?_;go_wp2_with (first|(go_at_call 170;(with_reducible refine(rcmpVid_any _ _ _).mono ?_);rintro e w6 ⟨rfl,hb⟩;rw [HK.out];replace hcur:=bov hcur hcur.size hb;clear hb));refine⟨iov hcur,?_⟩))
        refine lxe ?_
        have HB6:=Lh (bov HB5.out HB5.out.size hcur)
        have HM6:=Lh (HM5.out.over hcur)
        have hB6:=HB6.out.size
        clear hcur x0 y0 x1 y1 x2 y2 sX sY
        have HXw:=Lh (HXa.out w6 (HB6.out))
        have HYw:=Lh (HYa.out w6 (HB6.out))
        have x0:w6.cell? ⟨bl,ol+i*3,none⟩=some (.int .u8 x.pid.author.toNat):=(HXw.out).2 0 _ rfl
        have x1:w6.cell? ⟨bl,ol+i*3+1,none⟩=some (.int .u16 x.pid.seq.toNat):=(HXw.out).2 1 _ rfl
        have x2:w6.cell? ⟨bl,ol+i*3+2,none⟩=some (.int .u8 x.n.toNat):=(HXw.out).2 2 _ rfl
        have y0:w6.cell? ⟨bo,oo+k*3,none⟩=some (.int .u8 y.pid.author.toNat):=(HYw.out).2 0 _ rfl
        have y1:w6.cell? ⟨bo,oo+k*3+1,none⟩=some (.int .u16 y.pid.seq.toNat):=(HYw.out).2 1 _ rfl
        have y2:w6.cell? ⟨bo,oo+k*3+2,none⟩=some (.int .u8 y.n.toNat):=(HYw.out).2 2 _ rfl
        have sX:=HXw.out.1
        have sY:=HYw.out.1
        go_wp2_with (at_builtin;(first|refine apD slVid rfl _ _ rfl wo.heap.size _ _ (dad _ _ _) 1 _ _ _ HM6.out rfl rfl rfl rfl hN (by decide) hB6 ?_|refine apD slVid rfl _ _ rfl wo.heap.size _ _ (ddw _) 1 _ _ _ HM6.out rfl rfl rfl rfl hN (by decide) hB6 ?_|refine apD slVid rfl _ _ rfl wo.heap.size _ _ (drf _) 1 _ _ _ HM6.out rfl rfl rfl rfl hN (by decide) hB6 ?_);intro v2 w2 ho2 hg2)
        go_roundw
        case rel=>exact⟨k+1,M++[y],false,hk2,by go_num,rfl,by simp;omega,GOwn.snoc ho2,HN,bgr HB6.out HB6.out.size HM6.out hg2⟩
        case measure=>simp [intOf];omega
    ·
     have hke:k=out.length:=by omega
     subst hke
     rw [List.drop_length] at HR
     have HBi:=Lh hbi
     have hbw:=bov HBl.out HBl.out.size hbi
     cases t with
     | true =>
      have HE:Hid (putS packVid x out=M):=by show _=_;rw [HR.out,restS_t];simp
      go_wp2_with fail
      subst hQ
      go_wp2_with fail
      go_roundw
      case rel=>exact⟨i+1,hlt,by go_num,(by show GRow _ _ _ _ _;rw [HF.out,HE.out];exact HM.out.row),hbw⟩
      case measure=>simp [intOf];omega
     | false =>
      have HE:Hid (putS packVid x out=M++[x]):=by show _=_;rw [HR.out,restS_f,putS_nil]
      have HXw:=Lh (HXa.out wr HBi.out)
      have x0:wr.cell? ⟨bl,ol+i*3,none⟩=some (.int .u8 x.pid.author.toNat):=(HXw.out).2 0 _ rfl
      have x1:wr.cell? ⟨bl,ol+i*3+1,none⟩=some (.int .u16 x.pid.seq.toNat):=(HXw.out).2 1 _ rfl
      have x2:wr.cell? ⟨bl,ol+i*3+2,none⟩=some (.int .u8 x.n.toNat):=(HXw.out).2 2 _ rfl
      have sX:=HXw.out.1
      have hB:=HBi.out.size
      go_wp2_with fail
      subst hQ
      go_wp2_with (at_builtin;(first|refine apD slVid rfl _ _ rfl wo.heap.size _ _ (dad _ _ _) 1 _ _ _ HM.out rfl rfl rfl rfl hN (by decide) hB ?_|refine apD slVid rfl _ _ rfl wo.heap.size _ _ (ddw _) 1 _ _ _ HM.out rfl rfl rfl rfl hN (by decide) hB ?_|refine apD slVid rfl _ _ rfl wo.heap.size _ _ (drf _) 1 _ _ _ HM.out rfl rfl rfl rfl hN (by decide) hB ?_);intro v2 w2 ho2 hg2)
      go_roundw
      case rel=>exact⟨i+1,hlt,by go_num,(by show GRow _ _ _ _ _;rw [HF.out,HE.out];exact(GOwn.snoc ho2).row),bov HBl.out HBl.out.size (bgr HBi.out hB HM.out hg2)⟩
      case measure=>simp [intOf];omega
  ·
   obtain rfl:i=l.length:=by omega
   have HE:=HO.out
   rw [List.take_length] at HE
   go_wp2_with fail
   go_ret
   exact⟨_,rfl,HE,hbl⟩
end Go.Proofs.YtllcipobiengiaaGreat
namespace Go.Proofs.YtllcipobiengiaaGreat
open Go Go.RowKit

theorem take_all{α:Type}{l m:List α}(hl:l.length=m.length)(h:l.take l.length=m.take l.length):l=m:=by
 rw [List.take_length,hl,List.take_length] at h;exact h
theorem take_ne{α:Type}{l m:List α}{k:Nat}{x y:α}(hx:l[k]? = some x)(hy:m[k]? = some y)(h:¬ x=y):¬ l=m:=by
 rintro rfl
 rw [hx] at hy
 exact h (Option.some.inj hy)

set_option maxHeartbeats 4000000 in
set_option maxRecDepth 100000 in
theorem rsamePid_any(v u:Value)(l m:List PidM)(w:World)(hv:GRow encPid 2 w v l)(hu:GRow encPid 2 w u m) :
  Calls Tryz.prog 166 #[v,u] w fun e w'=>e=.returned (.bool (decide (l=m)))∧Below w.heap.size w w':=by
 obtain⟨a,cap,rfl,h1,h2,hc⟩:=hv.at encPid_len
 obtain⟨a',cap',rfl,h1',h2',hc'⟩:=hu.at encPid_len
 unfold maxLen at h2 h2'
 have HC:=Lh hc
 have HC':=Lh hc'
 clear hv hu hc hc'
 have gd:=fun p q xs ys w=>guard_pid .neq p q xs ys w
 by_cases hlen:l.length=m.length
 ·
  have HL:=Lh hlen
  have hq:((l.length:Int) != (m.length:Int))=false:=by simp [hlen]
  clear hlen
  go_enter Tryz.func166,Tryz.ntmps166
  go_wp2_with fail
  go_loopw [5] (fun i wr=>∃ k:Nat,k≤l.length∧i=.int .i64 k∧Hid (l.take k=m.take k)∧Below w.heap.size w wr) (fun i _=>l.length - (intOf i).toNat)
  case atStart=>exact⟨0,by omega,rfl,rfl,Below.refl _ _⟩
  case round =>
   obtain⟨k,hk,rfl,HK,hbl⟩:=hrel
   by_cases hlt:k<l.length
   ·
    obtain⟨bl,ol,rfl,sl,hcl⟩:=HC.out.resolve_left (by omega)
    obtain⟨bm,om,rfl,sm,hcm⟩:=HC'.out.resolve_left (by have:=HL.out;omega)
    obtain⟨x,hx⟩:=gol hlt
    obtain⟨y,hy⟩:=gol (xs:=m) (i:=k) (by have:=HL.out;omega)
    have hkm:k<m.length:=by have:=HL.out;omega
    have x0:wr.cell? ⟨bl,ol+k*2,none⟩=some (.int .u8 x.author.toNat):=((hcl k x hx wr hbl)).2 0 _ rfl
    have x1:wr.cell? ⟨bl,ol+k*2+1,none⟩=some (.int .u16 x.seq.toNat):=((hcl k x hx wr hbl)).2 1 _ rfl
    have y0:wr.cell? ⟨bm,om+k*2,none⟩=some (.int .u8 y.author.toNat):=((hcm k y hy wr hbl)).2 0 _ rfl
    have y1:wr.cell? ⟨bm,om+k*2+1,none⟩=some (.int .u16 y.seq.toNat):=((hcm k y hy wr hbl)).2 1 _ rfl
    have sX:=(hcl k x hx wr hbl).1
    have sY:=(hcm k y hy wr hbl).1
    have HX:=Lh hx
    have HY:=Lh hy
    clear hcl hcm hx hy
    by_cases hxy:x=y
    ·
     have hne:=neq_pid x y false (by simp [hxy])
     unfold pidV at hne
     have HK2:Hid (l.take (k+1)=m.take (k+1)):=by show _=_;rw [tsg HX.out,tsg HY.out,HK.out,hxy]
     clear hxy
     go_wp2_with fail
     have hcur:Below wr.heap.size wr wr.drew:=(Below.refl _ _).drew
     refine wlex (C:=IsOver wr) 9 [] (by kernel_rfl) (by kernel_rfl) (iov hcur) ?_
     simp only [Tsc,Tz,Dsc,Dz]
     repeat(first|(refine lxs rfl rfl ?_;simp only [Act.put,Sib,Scs,Scz])|(refine lxo rfl ?_;go_big_quiet_step (fail);refine wpQuiet_nil ?_))
     refine lxe ?_
     go_wp2_with fail
     go_roundw
     case rel=>exact⟨k+1,hlt,by go_num,HK2,hbl.drew⟩
     case measure=>simp [intOf];omega
    ·
     have hne:=neq_pid x y true (by simp [hxy])
     unfold pidV at hne
     have HN:Hid (decide (l=m)=false):=decide_eq_false (take_ne HX.out HY.out hxy)
     clear hxy
     go_wp2_with fail
     have hcur:Below wr.heap.size wr wr.drew:=(Below.refl _ _).drew
     refine wlex (C:=IsOver wr) 9 [] (by kernel_rfl) (by kernel_rfl) (iov hcur) ?_
     simp only [Tsc,Tz,Dsc,Dz]
     repeat(first|(refine lxs rfl rfl ?_;simp only [Act.put,Sib,Scs,Scz])|(refine lxo rfl ?_;go_big_quiet_step (fail);refine wpQuiet_nil ?_))
     refine lxe ?_
     go_wp2_with fail
     go_ret
     exact⟨rvl (congrArg Value.bool HN.out.symm),hbl.drew⟩
   ·
    obtain rfl:k=l.length:=by omega
    have HN:Hid (decide (l=m)=true):=decide_eq_true (take_all HL.out HK.out)
    go_wp2_with fail
    go_ret
    exact⟨rvl (congrArg Value.bool HN.out.symm),hbl⟩
 ·
  have HN:Hid (decide (l=m)=false):=decide_eq_false (fun h=>hlen (by rw [h]))
  have hq:((l.length:Int) != (m.length:Int))=true:=by simp;omega
  clear hlen
  go_enter Tryz.func166,Tryz.ntmps166
  go_wp2_with fail
  go_ret
  exact⟨rvl (congrArg Value.bool HN.out.symm),Below.refl _ _⟩
end Go.Proofs.YtllcipobiengiaaGreat
namespace Go.Proofs.YtllcipobiengiaaGreat
open Go Go.RowKit

def farPids(id:PidM)(vs:List VidM):List PidM:=(vs.filter fun v=>v.pid≠id).map (·.pid)
theorem farPids_yes{id:PidM}{vs:List VidM}{k:Nat}{v:VidM}(h:vs[k]? = some v)(hv:¬ v.pid=id):farPids id (vs.take (k+1))=farPids id (vs.take k)++[v.pid]:=by
 unfold farPids;rw [tsg h,List.filter_append,List.map_append];simp [hv]
theorem farPids_no{id:PidM}{vs:List VidM}{k:Nat}{v:VidM}(h:vs[k]? = some v)(hv:v.pid=id):farPids id (vs.take (k+1))=farPids id (vs.take k):=by
 unfold farPids;rw [tsg h,List.filter_append,List.map_append];simp [hv]
theorem farPids_len(id:PidM)(vs:List VidM):(farPids id vs).length≤vs.length:=by
 unfold farPids;rw [List.length_map];exact List.length_filter_le _ _
def preDep(id:PidM):List PidM:=if 1<id.seq.toNat then [⟨id.author,id.seq - 1⟩] else []
def depsTo(id:PidM)(ops:List OpM):List PidM:=preDep id++ops.flatMap fun o=>farPids id (refsM o)
theorem depsTo_all(id:PidM)(ops:List OpM):setS packPid (depsTo id ops)=depsM id ops:=rfl
theorem depsTo_succ{id:PidM}{ops:List OpM}{i:Nat}{o:OpM}(h:ops[i]? = some o):depsTo id (ops.take (i+1))=depsTo id (ops.take i)++farPids id (refsM o):=by
 unfold depsTo;rw [tsg h,List.flatMap_append];simp
theorem preDep_len(id:PidM):(preDep id).length≤1:=by unfold preDep;split <;> simp
theorem far_len(id:PidM):∀ ops:List OpM,(ops.flatMap fun o=>farPids id (refsM o)).length≤2*ops.length
 | []=>by simp
 | o :: ops=>by
  have h2:=farPids_len id (refsM o)
  have h3:=refs_len o
  have h4:=far_len id ops
  rw [List.flatMap_cons,List.length_append,List.length_cons];omega
theorem depsTo_len(id:PidM):∀ ops:List OpM,(depsTo id ops).length≤1+2*ops.length:=by
 intro ops
 have h1:=preDep_len id
 have h2:=far_len id ops
 unfold depsTo
 rw [List.length_append];omega
theorem sub_seq{s:UInt16}(h:1<s.toNat):((s - 1).toNat:Int)=(s.toNat:Int) - 1:=by
 have:(s - 1).toNat=s.toNat - 1:=by
  rw [UInt16.toNat_sub_of_le]
  ·
   rfl
  ·
   rw [UInt16.le_iff_toNat_le];show 1≤_;omega
 rw [this];omega
theorem refs_at{w:World}{a:Option Addr}{n c:Nat}{vs:List VidM}(h:RefsAt w (.slice a n c) vs)(hp:0<vs.length):∃ g,a=some ⟨g,0,none⟩∧ArrT w g 40 (vs.flatMap encVid):=by
 rcases h with⟨rfl,_⟩|⟨_,_,g,e,hA⟩
 ·
  simp at hp
 ·
  cases e;exact⟨g,rfl,hA⟩
theorem RefsAt.over{w w':World}{v:Value}{vs:List VidM}(h:RefsAt w v vs)(hb:Below w.heap.size w w'):RefsAt w' v vs:=by
 rcases h with h|⟨h1,h2,g,e,hA⟩
 ·
  exact .inl h
 ·
  exact .inr ⟨h1,h2,g,e,hA.over hb⟩
theorem RefsAt.grown{w w':World}{B sz n:Nat}{e:TypeId}{v u:Value}{xs:List Value}{vs:List VidM}(h:RefsAt w v vs)(ho:w.ownsRow B e sz u n xs)(hn:e≠40)(hg:w.grownBy w' u.ownBlock):RefsAt w' v vs:=by
 rcases h with h|⟨h1,h2,g,e,hA⟩
 ·
  exact .inl h
 ·
  exact .inr ⟨h1,h2,g,e,hA.grown ho hn hg⟩
def DpOut(w0:World)(id:PidM)(ops:List OpM)(v5 v6:Value)(wr:World):Prop:=
 ∃ i:Nat,i≤ops.length∧v6=.int .i64 i∧Hid (GOwn encPid 2 26 wr w0.heap.size v5 (depsTo id (ops.take i)))∧Below w0.heap.size w0 wr
def DpIn(w0:World)(id:PidM)(A:List PidM)(vs:List VidM)(vr:Value)(v5 v8:Value)(wr:World):Prop:=
 ∃ k:Nat,k≤vs.length∧v8=.int .i64 k∧Hid (GOwn encPid 2 26 wr w0.heap.size v5 (A++farPids id (vs.take k)))∧Hid (RefsAt wr vr vs)∧Below w0.heap.size w0 wr
theorem preDep_yes{id:PidM}(h:1<id.seq.toNat):preDep id=[⟨id.author,id.seq - 1⟩]:=by unfold preDep;rw [if_pos h]
theorem preDep_no{id:PidM}(h:¬ 1<id.seq.toNat):preDep id=[]:=by unfold preDep;rw [if_neg h]
theorem depsTo_nil(id:PidM):depsTo id []=preDep id:=by unfold depsTo;simp
theorem farPids_nil(id:PidM):farPids id []=[]:=rfl
attribute [local irreducible] refsM farPids preDep depsTo depsM
set_option maxHeartbeats 10000000 in
set_option maxRecDepth 100000 in
theorem rdeps_any(id:PidM)(v:Value)(ops:List OpM)(w:World)(hv:GRow encOp 8 w v ops)(hl:ops.length≤40000) :
  Calls Tryz.prog 167 #[pidV id,v] w (SetRes encPid 2 w (depsM id ops)):=by
 have HA:=Lh (anw w #[.int .u8 id.author.toNat,.int .u16 id.seq.toNat] 26)
 have HB:=Lh (bnew (w:=w) (.cells #[.int .u8 id.author.toNat,.int .u16 id.seq.toNat] 26))
 obtain⟨a,cap,rfl,h1,h2,hc⟩:=(hv.over HB.out).at encOp_len
 unfold maxLen at h2
 have HC:=Lh hc
 have hdl:=depsTo_len id ops
 have hpl:=preDep_len id
 have hsl:=id.seq.toNat_lt
 have hal:=id.author.toNat_lt
 have gd:=fun p q xs ys w=>guard_pid .neq p q xs ys w
 clear hv hc
 unfold pidV
 go_enter Tryz.func167,Tryz.ntmps167
 go_upto_if 11 with(fail)
 generalize hw0:w.alloc (.cells #[.int .u8 id.author.toNat,.int .u16 id.seq.toNat] 26)=w0 at *
 clear hw0
 go_cut [5] (fun s5 wx=>Hid (GOwn encPid 2 26 wx w0.heap.size s5 (preDep id))∧Below w0.heap.size w0 wx)
 case first =>
  by_cases g1:1<id.seq.toNat
  ·
   have d1:decide ((1:Int)<(id.seq.toNat:Int))=true:=by simp;omega
   have HP:Hid (preDep id=[⟨id.author,id.seq - 1⟩]):=preDep_yes g1
   have HS:=Lh (sub_seq g1)
   have i0:=HA.out.k 0 rfl
   have i1:=HA.out.k 1 rfl
   have si:=HA.out.lt
   have hN:0+1≤1099511627776:=by decide
   have hB0:w0.heap.size≤w0.heap.size:=Nat.le_refl _
   go_wp2_with (at_builtin;(first|refine apD slPid rfl _ _ rfl w0.heap.size _ _ (dad _ _ _) 1 _ _ _ (World.ownsRow_nil w0 w0.heap.size 26 2) rfl rfl rfl rfl hN (by decide) hB0 ?_|refine apD slPid rfl _ _ rfl w0.heap.size _ _ (drf _) 1 _ _ _ (World.ownsRow_nil w0 w0.heap.size 26 2) rfl rfl rfl rfl hN (by decide) hB0 ?_);intro v2 w2 ho2 hg2)
   go_meet
   refine⟨?_,grown_over' hg2 (fun g hg=>by simp [Value.ownBlock] at hg)⟩
   show GOwn _ _ _ _ _ _ _
   rw [HP.out]
   exact GOwn.snoc (enc:=encPid) (xs:=[]) (x:=(⟨id.author,id.seq - 1⟩:PidM)) (by unfold encPid;rw [HS.out];exact ho2)
  ·
   have d1:decide ((1:Int)<(id.seq.toNat:Int))=false:=by simp;omega
   have HP:Hid (preDep id=[]):=preDep_no g1
   go_wp2_with fail
   go_meet
   exact⟨(by show GOwn _ _ _ _ _ _ _;rw [HP.out];exact gown_nil _ _),Below.refl _ _⟩
 case rest =>
  obtain⟨HO,hbc⟩:=hcut
  go_wp2_with fail
  go_loopw [5,6] (fun v5 v6 wr=>DpOut w0 id ops v5 v6 wr) (fun _ v6 _=>ops.length - (intOf v6).toNat)
  case atStart=>exact⟨0,by omega,rfl,(by show GOwn _ _ _ _ _ _ _;rw [List.take_zero,depsTo_nil];exact HO.out),hbc⟩
  case round =>
   rename World=>wo
   obtain⟨i,hi,rfl,HM,hbl⟩:=hrel
   by_cases hlt:i<ops.length
   ·
    obtain⟨b,off,rfl,sb,hcb⟩:=HC.out.resolve_left (by omega)
    obtain⟨o,ho⟩:=gol hlt
    have HOp:=Lh (hcb i o ho wo hbl)
    have HSu:=Lh (depsTo_succ (id:=id) ho)
    have hdt:=depsTo_len id (ops.take i)
    rw [List.length_take] at hdt
    have o0:wo.cell? ⟨b,off+i*8,none⟩=some (.int .u8 o.kind.toNat):=(HOp.out).2 0 _ rfl
    have o1:wo.cell? ⟨b,off+i*8+1,none⟩=some (.int .u8 o.at'.pid.author.toNat):=(HOp.out).2 1 _ rfl
    have o2:wo.cell? ⟨b,off+i*8+2,none⟩=some (.int .u16 o.at'.pid.seq.toNat):=(HOp.out).2 2 _ rfl
    have o3:wo.cell? ⟨b,off+i*8+3,none⟩=some (.int .u8 o.at'.n.toNat):=(HOp.out).2 3 _ rfl
    have o4:wo.cell? ⟨b,off+i*8+4,none⟩=some (.int .u8 o.to.pid.author.toNat):=(HOp.out).2 4 _ rfl
    have o5:wo.cell? ⟨b,off+i*8+5,none⟩=some (.int .u16 o.to.pid.seq.toNat):=(HOp.out).2 5 _ rfl
    have o6:wo.cell? ⟨b,off+i*8+6,none⟩=some (.int .u8 o.to.n.toNat):=(HOp.out).2 6 _ rfl
    have o7:wo.cell? ⟨b,off+i*8+7,none⟩=some (.string o.text):=(HOp.out).2 7 _ rfl
    have so:=HOp.out.1
    clear hcb ho
    go_wp2_with fail
    refine(rrefs_any o _).mono ?_
    rintro e w1 ⟨vr,rfl,hvr,hb1⟩
    obtain⟨a2,cap2,e2,q1,q2,_⟩:=(RefsAt.vrow hvr).form
    subst e2
    unfold maxLen at q2
    have HVr:=Lh hvr
    have HB1:=Lh (bov hbl hbl.size hb1)
    have HM1:=Lh (HM.out.over hb1)
    have hrl:=refs_len o
    clear hvr hb1 o0 o1 o2 o3 o4 o5 o6 o7 so
    go_wp2_with fail
    go_hide hQ
    go_loopw [5,8] (fun v5 v8 wi=>DpIn w0 id (depsTo id (ops.take i)) (refsM o) (.slice a2 (refsM o).length cap2) v5 v8 wi) (fun _ v8 _=>(refsM o).length - (intOf v8).toNat)
    case atStart=>exact⟨0,by omega,rfl,(by show GOwn _ _ _ _ _ _ _;rw [List.take_zero,farPids_nil,List.append_nil];exact HM1.out),HVr,HB1.out⟩
    case round =>
     rename World=>wr
     obtain⟨k,hk,rfl,HM2,HR2,hbi⟩:=hrel
     have hfl:=farPids_len id ((refsM o).take k)
     rw [List.length_take] at hfl
     have hN:(depsTo id (ops.take i)++farPids id ((refsM o).take k)).length+1≤1099511627776:=by rw [List.length_append];omega
     by_cases hk2:k<(refsM o).length
     ·
      obtain⟨g,rfl,hAr⟩:=refs_at HR2.out (by omega)
      obtain⟨u,hu⟩:=gol hk2
      have HU:=Lh hu
      have HAv:=Lh hAr
      have HAi:=Lh (HA.out.over hbi)
      have i0:=HAi.out.k 0 rfl
      have i1:=HAi.out.k 1 rfl
      have si:=HAi.out.lt
      have u0:wr.cell? ⟨g,k*3,none⟩=some (.int .u8 u.pid.author.toNat):=hAr.arr.cell ((flat_get encVid_len _ k 0 u hu (by decide)).trans rfl)
      have u1:wr.cell? ⟨g,k*3+1,none⟩=some (.int .u16 u.pid.seq.toNat):=hAr.arr.cell ((flat_get encVid_len _ k 1 u hu (by decide)).trans rfl)
      have u2:wr.cell? ⟨g,k*3+2,none⟩=some (.int .u8 u.n.toNat):=hAr.arr.cell ((flat_get encVid_len _ k 2 u hu (by decide)).trans rfl)
      have su:=hAr.arr.lt
      have hB2:=hbi.size
      clear hu hAr
      by_cases hp:u.pid=id
      ·
       have e1:=neq_pid u.pid id false (by simp [hp])
       unfold pidV at e1
       have HN:=Lh (farPids_no HU.out hp)
       clear hp
       go_wp2_with fail
       have hcur:Below wr.heap.size wr wr.drew:=(Below.refl _ _).drew
       refine wlex (C:=IsOver wr) 7 [] (by kernel_rfl) (by kernel_rfl) (iov hcur) ?_
       simp only [Tsc,Tz,Dsc,Dz]
       repeat(first|(refine lxs rfl rfl ?_;simp only [Act.put,Sib,Scs,Scz])|(refine lxo rfl ?_;go_big_quiet_step (fail);refine wpQuiet_nil ?_))
       refine lxe ?_
       have HM3:=Lh (HM2.out.over hcur)
       have HR3:=Lh (HR2.out.over hcur)
       have HB3:=Lh (bov hbi hB2 hcur)
       clear hcur
       go_wp2_with fail
       go_roundw
       case rel=>exact⟨k+1,hk2,by go_num,(by show GOwn _ _ _ _ _ _ _;rw [HN.out];exact HM3.out),HR3,HB3.out⟩
       case measure=>simp [intOf];omega
      ·
       have e1:=neq_pid u.pid id true (by simp [hp])
       unfold pidV at e1
       have HN:=Lh (farPids_yes HU.out hp)
       clear hp
       go_wp2_with fail
       have hcur:Below wr.heap.size wr wr.drew:=(Below.refl _ _).drew
       refine wlex (C:=IsOver wr) 7 [] (by kernel_rfl) (by kernel_rfl) (iov hcur) ?_
       simp only [Tsc,Tz,Dsc,Dz]
       repeat(first|(refine lxs rfl rfl ?_;simp only [Act.put,Sib,Scs,Scz])|(refine lxo rfl ?_;go_big_quiet_step (fail);refine wpQuiet_nil ?_))
       refine lxe ?_
       clear hcur
       go_wp2_with (at_builtin;(first|refine apD slPid rfl _ _ rfl w0.heap.size _ _ (dad _ _ _) 1 _ _ _ HM2.out rfl rfl rfl rfl hN (by decide) hB2 ?_|refine apD slPid rfl _ _ rfl w0.heap.size _ _ (drf _) 1 _ _ _ HM2.out rfl rfl rfl rfl hN (by decide) hB2 ?_);intro v2 w2 ho2 hg2)
       go_roundw
       case rel=>exact⟨k+1,hk2,by go_num,(by show GOwn _ _ _ _ _ _ _;rw [HN.out,← List.append_assoc];exact GOwn.snoc ho2),HR2.out.grown HM2.out (by decide) hg2,bgr hbi hB2 HM2.out hg2⟩
       case measure=>simp [intOf];omega
     ·
      obtain rfl:k=(refsM o).length:=by omega
      rw [List.take_length] at HM2
      go_wp2_with fail
      subst hQ
      go_wp2_with fail
      go_roundw
      case rel=>exact⟨i+1,hlt,by go_num,(by show GOwn _ _ _ _ _ _ _;rw [HSu.out];exact HM2.out),hbi⟩
      case measure=>simp [intOf];omega
   ·
    obtain rfl:i=ops.length:=by omega
    have HE:=HM.out
    rw [List.take_length] at HE
    have HE2:=Lh HE.row
    clear HE
    go_wp2_with fail
    refine(rsetPid_any _ _ _ HE2.out (by omega)).mono ?_
    rintro e w2 ⟨u,rfl,hu,hb2⟩
    have HU:Hid (GRow encPid 2 w2 u (depsM id ops)):=by rw [← depsTo_all];exact hu
    clear hu
    go_wp2_with fail
    go_ret
    exact⟨_,rfl,HU.out,bov (bov HB.out HB.out.size hbl) (by have:=HB.out.size;have:=hbl.size;omega) hb2⟩
end Go.Proofs.YtllcipobiengiaaGreat
