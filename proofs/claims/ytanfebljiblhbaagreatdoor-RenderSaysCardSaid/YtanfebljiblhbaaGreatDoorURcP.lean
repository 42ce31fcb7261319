/- Part of the proof that any graph's tree, and what is at odds in it, are as the document says. No conditions. -/
import Derived.Test.YtanfebljiblhbaaGreatDoorUEdC
import Derived.Test.YtanfebljiblhbaaGreatDoorUNmB
set_option linter.unusedVariables false
set_option linter.unusedSimpArgs false
set_option maxRecDepth 100000
set_option maxHeartbeats 40000000
namespace Go.Proofs.YtanfebljiblhbaaGreatDoor
open Go Go.RowKit
def atL(at':List VidM)(j m:Nat):List VidM:=at'++List.replicate (m - j) noVid
section
variable {P : Program} {ty : TypeId} {size : Nat} {w : World} {ops : Array Oper} {rest : List Oper} {o : Oper} {a : Act} {Q : Exit → Act → World → Prop}
end
attribute [local irreducible] keptV1 textAt aliveX atL
end Go.Proofs.YtanfebljiblhbaaGreatDoor
namespace Go.Proofs.YtanfebljiblhbaaGreatDoor
open Go Go.RowKit
def ShV(w:World)(s:Option Addr)(l:List VertM)(R:List (Nat × Nat)):Prop:=(∃ b,s=some ⟨b,0,none⟩∧ShAt w b l R)∨(s=none∧l=[]∧R=[])
theorem ShV.over{w w':World}{s:Option Addr}{l:List VertM}{R:List (Nat × Nat)}(h:ShV w s l R)(hb:Be w w'):ShV w' s l R:=
 h.imp (fun⟨b,e,h⟩=>⟨b,e,h.over hb⟩) id
theorem svertV_any(s:Option Addr)(i:Nat)(x:VertM)(l:List VertM)(R:List (Nat × Nat))(w:World)(h:ShV w s l R)(hx:l[i]? = some x):Calls Tryz.prog 103 #[.pointer s,.int .i64 i] w (SvRes w x):=by
 rcases h with⟨b,rfl,h⟩|⟨rfl,rfl,rfl⟩
 · exact svert_any b i x l R w h hx
 simp at hx
end Go.Proofs.YtanfebljiblhbaaGreatDoor
set_option maxRecDepth 100000
set_option maxHeartbeats 40000000
namespace Go.Proofs.YtanfebljiblhbaaGreatDoor
open Go Go.RowKit
def markA:ByteArray:=⟨#[60,60,60,60,60,60,60]⟩
def markS:ByteArray:=⟨#[61,61,61,61,61,61,61]⟩
def markT:ByteArray:=⟨#[124,124,124,124,124,124,124]⟩
def markE:ByteArray:=⟨#[62,62,62,62,62,62,62]⟩
mutual
def seenOne(l:List VertM):BlkM→List ByteArray
 | .mk k n s=>if k=1 then(if 0≤n∧n<(l.length:Int) then [textAt l n.toNat] else []) else if k=4 then seenAll l s else if k=2 then markA :: (seenJoin l markS true s++[markE]) else if k=3 then markA :: (seenJoin l markT true s++[markE]) else []
def seenAll(l:List VertM):List BlkM→List ByteArray
 | []=>[]
 | b :: r=>seenOne l b++seenAll l r
def seenJoin(l:List VertM)(m:ByteArray)(first:Bool):List BlkM→List ByteArray
 | []=>[]
 | b :: r=>(if first then [] else [m])++(seenOne l b++seenJoin l m false r)
end
theorem seenOne_mk(l:List VertM)(k n:Int)(s:List BlkM):seenOne l (.mk k n s)=if k=1 then(if 0≤n∧n<(l.length:Int) then [textAt l n.toNat] else []) else if k=4 then seenAll l s else if k=2 then markA :: (seenJoin l markS true s++[markE]) else if k=3 then markA :: (seenJoin l markT true s++[markE]) else []:=by rw [seenOne]
theorem seenAll_nil(l:List VertM):seenAll l []=[]:=by rw [seenAll]
theorem seenAll_cons(l:List VertM)(b:BlkM)(r:List BlkM):seenAll l (b :: r)=seenOne l b++seenAll l r:=by rw [seenAll]
theorem seenAll_append(l:List VertM):∀ a b:List BlkM,seenAll l (a++b)=seenAll l a++seenAll l b
 | [],b=>by rw [List.nil_append,seenAll_nil,List.nil_append]
 | x :: a,b=>by rw [List.cons_append,seenAll_cons,seenAll_cons,seenAll_append l a b,List.append_assoc]
theorem seenAll_one(l:List VertM)(b:BlkM):seenAll l [b]=seenOne l b:=by rw [seenAll_cons,seenAll_nil,List.append_nil]
theorem seenJoin_nil(l:List VertM)(m:ByteArray)(f:Bool):seenJoin l m f []=[]:=by rw [seenJoin]
theorem seenJoin_cons(l:List VertM)(m:ByteArray)(f:Bool)(b:BlkM)(r:List BlkM):seenJoin l m f (b :: r)=(if f then [] else [m])++(seenOne l b++seenJoin l m false r):=by rw [seenJoin]
theorem seenJoin_snoc(l:List VertM)(m:ByteArray):∀(a:List BlkM) (f:Bool) (b:BlkM),seenJoin l m f (a++[b])=seenJoin l m f a++((if f && a.isEmpty then [] else [m])++seenOne l b)
 | [],f,b=>by rw [List.nil_append,seenJoin_cons,seenJoin_nil,seenJoin_nil];simp
 | x :: a,f,b=>by rw [List.cons_append,seenJoin_cons,seenJoin_cons,seenJoin_snoc l m a false b];simp
theorem slenV_any(s:Option Addr)(l:List VertM)(R:List (Nat × Nat))(w:World)(h:ShV w s l R):Calls Tryz.prog 163 #[.pointer s] w fun e w'=>e=.returned (.int .i64 l.length)∧w'=w:=by
 rcases h with⟨b,rfl,h⟩|⟨rfl,rfl,rfl⟩
 · exact slen_any b l R w h
 go_enter Tryz.func163,Tryz.ntmps163;go_wp2;go_ret;exact⟨rfl,rfl⟩
def SvNone(w:World)(e:Ending)(w':World):Prop:=e=.returned (.tuple #[vertV noVert,.bool false])∧Be w w'
theorem svnone_mk{w w':World}(h:Be w w'):SvNone w (.returned (.tuple #[vertV noVert,.bool false])) w':=⟨rfl,h⟩
theorem svertN_any(s:Option Addr)(i:Int)(l:List VertM)(R:List (Nat × Nat))(w:World)(h:ShV w s l R)(hi:¬ (0≤i∧i<(l.length:Int))):Calls Tryz.prog 103 #[.pointer s,.int .i64 i] w (SvNone w):=by
 have HH:=Lh (h.over (bnew (w:=w) (.cells #[.int .u8 0,.int .u16 0,.int .u8 0,.int .u8 0,.int .u8 0,.int .u16 0,.int .u8 0,.string ⟨#[]⟩,.bool false] 86)));have HR:=Lh (anw w #[.int .u8 0,.int .u16 0,.int .u8 0,.int .u8 0,.int .u8 0,.int .u16 0,.int .u8 0,.string ⟨#[]⟩,.bool false] 86);have HB:=Lh (bnew (w:=w) (.cells #[.int .u8 0,.int .u16 0,.int .u8 0,.int .u8 0,.int .u8 0,.int .u16 0,.int .u8 0,.string ⟨#[]⟩,.bool false] 86));clear h
 by_cases h0:i<0
 · have d1:decide (i<0)=true:=decide_eq_true h0;clear hi;go_enter Tryz.func103,Tryz.ntmps103;go_upto_region 1 with fail;generalize w.alloc (.cells #[.int .u8 0,.int .u16 0,.int .u8 0,.int .u8 0,.int .u8 0,.int .u16 0,.int .u8 0,.string ⟨#[]⟩,.bool false] 86)=w0 at *;go_wp2_with ((with_reducible show wpList _ _ _ ({dst:=_,op:=.store _ _ _,type:=_,pos:=_,after:=_,guard:=_} :: _) _ _);refine wpList_store_arr rowVert rfl _ _ rfl _ _ (encVert noVert) HR.o rfl rfl rfl rfl rfl ?_);exact bodyPost_ret (v:=.tuple #[vertV noVert,.bool false]) (rasl rowVert rfl (HR.o.row (encVert noVert)) rfl rfl rfl) rfl (svnone_mk (below_setRow HB.o (Nat.le_refl _) _))
 have d1:decide (i<0)=false:=decide_eq_false h0;have d2:decide ((l.length:Int)≤i)=true:=decide_eq_true (by omega);have d3:(l.length:Int)≤i:=by omega
 clear hi;go_enter Tryz.func103,Tryz.ntmps103;go_upto_region 1 with fail;generalize w.alloc (.cells #[.int .u8 0,.int .u16 0,.int .u8 0,.int .u8 0,.int .u8 0,.int .u16 0,.int .u8 0,.string ⟨#[]⟩,.bool false] 86)=w0 at *;go_wp2_with fail;refine(slenV_any s l R _ HH.o).mono ?_;rintro e w1 ⟨rfl,hw⟩;obtain rfl:=hw.symm;go_wp2_with ((with_reducible show wpList _ _ _ ({dst:=_,op:=.store _ _ _,type:=_,pos:=_,after:=_,guard:=_} :: _) _ _);refine wpList_store_arr rowVert rfl _ _ rfl _ _ (encVert noVert) HR.o rfl rfl rfl rfl rfl ?_);exact bodyPost_ret (v:=.tuple #[vertV noVert,.bool false]) (rasl rowVert rfl (HR.o.row (encVert noVert)) rfl rfl rfl) rfl (svnone_mk (below_setRow HB.o (Nat.le_refl _) _))
end Go.Proofs.YtanfebljiblhbaaGreatDoor
namespace Go.Proofs.YtanfebljiblhbaaGreatDoor
open Go Go.RowKit
section
variable{x:BlL}{sub:List BlL}{out:List ByteArray}{c go gs:Nat}{p s:Option Addr}{w0 wr:World}
structure OutAt (wr w0:World) (go gs:Nat) (s:Option Addr) (p:Option Addr) (c:Nat) (out:List ByteArray):Prop where
 box:ArrT wr go 64 [.slice p out.length c]
 own:GOwn encS1 1 9 wr w0.heap.size (.slice p out.length c) out
 sheet:ArrT wr gs 78 [.pointer s]
 world:Be w0 wr
theorem OutAt.over{w':World}(h:OutAt wr w0 go gs s p c out)(hb:Be wr w'):OutAt w' w0 go gs s p c out:=
 ⟨h.box.over hb,h.own.over hb,h.sheet.over hb,bvo h.world hb⟩
theorem OutAt.ne(h:OutAt wr w0 go gs s p c out):gs≠go:=h.sheet.ne_type h.box (by decide)
theorem OutAt.push{w6:World}{p6:Option Addr}{c6:Nat}{o1:List ByteArray}(h:OutAt wr w0 go gs s p c out)(hgo:w0.heap.size≤go)(_:w0.heap.size≤gs)
  (ho:GOwn encS1 1 9 w6 w0.heap.size (.slice p6 o1.length c6) o1) (hg:wr.grownBy w6 (Value.slice p out.length c).ownBlock):OutAt (w6.setCell ⟨go,0,none⟩ (.slice p6 o1.length c6)) w0 go gs s p6 c6 o1:=by have hb:=h.box.grown h.own (by decide) hg;refine⟨hb.set 0 _,own_set ho (fun q=>hb.ne ho (by decide) q.symm) _ _,(h.sheet.grown h.own (by decide) hg).set_other h.ne _,(bgr h.world h.world.size h.own hg).setCell hgo _⟩
theorem sown_moreS{w:World}{B:Nat}{v:Value}{more o1:List ByteArray}(ho:o1=out++more)(h:w.ownsRow B 9 1 v (out.length+more.length) (out.flatMap encS1++more.flatMap encS1)):∃(p:Option Addr) (c:Nat),v=.slice p o1.length c∧GOwn encS1 1 9 w B v o1:=by
 have h2:GOwn encS1 1 9 w B v o1:=by subst ho;unfold GOwn;rw [List.length_append,List.flatMap_append];exact h
 obtain⟨p,c,e,_⟩:=h2.row.at encS1_len;exact⟨p,c,e,h2⟩
theorem one_size(h:x∈sub):SizeOf.sizeOf [x]≤SizeOf.sizeOf sub:=by
 induction sub with
 | nil=>exact absurd h (List.not_mem_nil)
 | cons y r ih =>
  rcases List.mem_cons.1 h with rfl|h
  ·
   simp only [List.cons.sizeOf_spec,List.nil.sizeOf_spec];have:1≤SizeOf.sizeOf r:=by cases r <;> simp <;> omega
   omega
  · have:=ih h;simp only [List.cons.sizeOf_spec] at *;omega
theorem join_succ(l:List VertM)(m:ByteArray){j:Nat}(h:sub[j]? = some x):seenJoin l m true (bareL (sub.take (j+1)))=seenJoin l m true (bareL (sub.take j))++((if j=0 then [] else [m])++seenOne l (bareB x)):=by
 have hj:=(List.getElem?_eq_some_iff.1 h).1;rw [take_one h,bareL_snoc,seenJoin_snoc];congr 2;cases j with
 | zero=>rw [List.take_zero,bareL_nil];rfl
 | succ j =>
  have:(bareL (sub.take (j+1))).isEmpty=false:=by
   rw [bareL_map];cases sub with
   | nil=>simp at hj
   | cons y r=>rfl
  rw [this];simp
theorem below_new_over{w w' w5:World}{o:Obj}(h:Be w w')(h5:Below w'.heap.size (w'.alloc o) w5):Be w w5:=(h.alloc h.size o).trans (h5.mono h.size)
theorem onesS(xs:List ByteArray):∀ u∈xs.flatMap encS1,u.oneCell'=true:=fun u hu=>by
 obtain⟨x,_,h⟩:=List.mem_flatMap.1 hu;have:u=.string x:=by simpa [encS1] using h
 subst this;rfl
theorem join_le(l:List VertM)(m:ByteArray){j:Nat}(hj:j<sub.length)(h:sub[j]? = some x):(seenJoin l m true (bareL (sub.take j))).length+(seenOne l (bareB x)).length+(if j=0 then 0 else 1)≤(seenJoin l m true (bareL sub)).length:=by
 have key:∀ k,k≤sub.length→(seenJoin l m true (bareL (sub.take k))).length≤(seenJoin l m true (bareL sub)).length:=by
  intro k hk;induction hd:sub.length - k generalizing k with
  | zero=>rw [List.take_of_length_le (by omega)];exact Nat.le_refl _
  | succ d ih =>have hk2:k<sub.length:=(by omega);have h1:=join_succ l m (x:=sub[k]) (List.getElem?_eq_getElem hk2);have h2:=ih (k+1) (by omega) (by omega);rw [h1,List.length_append] at h2;omega
 have h1:=key (j+1) hj;rw [join_succ l m h,List.length_append,List.length_append] at h1
 by_cases h0:j=0
 · rw [if_pos h0] at h1 ⊢;simp at h1;omega
 rw [if_neg h0] at h1 ⊢;simp at h1;omega
def ClRes(w0:World)(go gs:Nat)(s:Option Addr)(out:List ByteArray)(e:Ending)(w':World):Prop:=e=.returned (.tuple #[])∧∃ p c,OutAt w' w0 go gs s p c out
def JnRel(w0:World)(go gs:Nat)(s:Option Addr)(l:List VertM)(m:ByteArray)(out:List ByteArray)(sub:List BlL)(w1:World)(v14:Value)(wr:World):Prop:=∃(j:Nat) (p:Option Addr) (c:Nat),j≤sub.length∧v14=.int .i64 j∧∃ oj:List ByteArray,oj=out++[markA]++seenJoin l m true (bareL (sub.take j))∧Hid (OutAt wr w0 go gs s p c oj)
attribute [local irreducible] seenJoin seenAll seenOne bareL bareB
theorem oddFn_any(N:Nat)(l:List VertM)(R:List (Nat × Nat))(w0:World)(go gs:Nat)(s:Option Addr)(kd nm:Int)(sv:Value)(sub:List BlL)(m:ByteArray)(p:Option Addr)(c:Nat)(out:List ByteArray)(w:World)
  (hIH:∀(v:Value) (xs:List BlL) (W:World),SizeOf.sizeOf xs<N→GRow encBl 3 W v xs→BIns (fun _=>True) W xs→ShV W s l R→(seenAll l (bareL xs)).length≤1000000→Calls Tryz.prog 79 #[.pointer s,v] W (OwnRes encS1 1 9 W (seenAll l (bareL xs))))
  (hN:SizeOf.sizeOf sub<N) (hgo:w0.heap.size≤go) (hgs:w0.heap.size≤gs) (h:OutAt w w0 go gs s p c out) (hS:ShV w0 s l R) (hsub:GRow encBl 3 w0 sv sub) (hin:BIns (fun _=>True) w0 sub) (hlen:out.length+(seenJoin l m true (bareL sub)).length+2≤1000000) :
  Calls Tryz.prog 137 #[.agg #[.int .i64 kd,.int .i64 nm,sv],.string m,.pointer (some ⟨go,0,none⟩),.pointer (some ⟨gs,0,none⟩)] w (ClRes w0 go gs s (out++(markA :: (seenJoin l m true (bareL sub)++[markE])))):=by
 obtain⟨a,cap,rfl,h1,h2,hc⟩:=hsub.at encBl_len;unfold maxLen at h2;have HC:=Lh hc;have HIH:=Lh hIH;have HIn:=Lh hin;have HSh:=Lh hS;have HL:=Lh hlen;have HNn:=Lh hN;have HB:=Lh (anw w #[.int .i64 kd,.int .i64 nm,.slice a sub.length cap] 183);have HBw:=Lh (bnew (w:=w) (.cells #[.int .i64 kd,.int .i64 nm,.slice a sub.length cap] 183));have HBT:=Lh (arrT_new w [.int .i64 kd,.int .i64 nm,.slice a sub.length cap] 183);have HO:=Lh (h.over HBw.o);clear hsub hc hIH hin hS hN h;go_enter Tryz.func137,Tryz.ntmps137;go_upto_region 1 with fail;generalize w.alloc (.cells #[.int .i64 kd,.int .i64 nm,.slice a sub.length cap] 183)=w1 at *;have q0:=HO.o.box.arr.k 0 rfl;have q1:=HO.o.box.arr.free 0;have sq:=HO.o.box.arr.lt;have hBq:=HO.o.world.size;have HOw:=Lh HO.o.own;have hNa:out.length+1≤1099511627776:=by omega
 obtain⟨o1,ho1⟩:∃ o1,o1=out++[markA]:=⟨_,rfl⟩;have HO1:=Lh ho1;clear ho1;go_upto_region 2 with((at_builtin;refine apD slStrE rfl _ _ rfl w0.heap.size _ _ (drf _) 1 _ _ _ HOw.o rfl rfl rfl rfl hNa (by decide) hBq ?_;intro va wa hoa hga);(obtain⟨pa,ca,ea,hOa⟩:=sown_moreS (more:=[markA]) HO1.o hoa);subst ea;have HPa:=Lh (HO.o.push hgo hgs hOa hga);have b0:=(HO.o.box.grown HO.o.own (by decide) hga).arr.k 0 rfl;have b1:=(HO.o.box.grown HO.o.own (by decide) hga).arr.free 0;have b2:=(HO.o.box.grown HO.o.own (by decide) hga).arr.lt;have HGa:=Lh hga;clear hoa hga hOa)
 have HBx:=Lh ((HBT.o.grown HO.o.own (by decide) HGa.o).set_other (a:=⟨go,0,none⟩) (HBT.o.ne_type HO.o.box (by decide)) (.slice pa o1.length ca));generalize wa.setCell ⟨go,0,none⟩ (.slice pa o1.length ca)=w2 at *;clear q0 q1 sq b0 b1 b2 hBq;have y2:=HBx.o.arr.k 2 rfl;have sy:=HBx.o.arr.lt;go_wp2;go_loopw [14] (fun v14 wr=>JnRel w0 go gs s l m out sub w2 v14 wr) (fun v14 _=>sub.length - (intOf v14).toNat)
 case atStart=>exact⟨0,pa,ca,Nat.zero_le _,rfl,o1,by rw [List.take_zero,bareL_nil,seenJoin_nil,List.append_nil];exact HO1.o,HPa⟩
 obtain⟨j,pj,cj,hj,rfl,oj,hoj,HJ⟩:=hrel;rename World=>wr;have HOj:=Lh hoj;clear hoj;have HBj:=Lh HJ.o.world
 by_cases hlt:j<sub.length
 rotate_left
 ·
  obtain rfl:j=sub.length:=by omega
  have q0:=HJ.o.box.arr.k 0 rfl;have q1:=HJ.o.box.arr.free 0;have sq:=HJ.o.box.arr.lt;have hB9:=HJ.o.world.size;have HOw9:=Lh HJ.o.own;have hol:=congrArg List.length HOj.o;rw [List.take_length,List.length_append,List.length_append] at hol;have hol1:([markA]:List ByteArray).length=1:=rfl;have hN9:oj.length+1≤1099511627776:=by omega
  obtain⟨o9,ho9⟩:∃ o9,o9=oj++[markE]:=⟨_,rfl⟩;have HO9:=Lh ho9;have HFin:Hid (out++(markA :: (seenJoin l m true (bareL sub)++[markE]))=o9):=Lh (by rw [HO9.o,HOj.o,List.take_length];simp);clear hol hol1 ho9;go_wp2_with ((at_builtin;refine apD slStrE rfl _ _ rfl w0.heap.size _ _ (drf _) 1 _ _ _ HOw9.o rfl rfl rfl rfl hN9 (by decide) hB9 ?_;intro v9 w9 ho9 hg9);(obtain⟨p9,c9,e9,hO9⟩:=sown_moreS (more:=[markE]) HO9.o ho9);subst e9;have HP9:=Lh (HJ.o.push hgo hgs hO9 hg9);have z0:=(HJ.o.box.grown HJ.o.own (by decide) hg9).arr.k 0 rfl;have z1:=(HJ.o.box.grown HJ.o.own (by decide) hg9).arr.free 0;have z2:=(HJ.o.box.grown HJ.o.own (by decide) hg9).arr.lt;clear ho9 hg9 hO9);refine bodyPost_end (results_none rfl _ _ _) rfl ?_;exact⟨rfl,p9,c9,by rw [HFin.o];exact HP9.o⟩
 obtain⟨bs,os,rfl,sbs,hcs⟩:=HC.o.resolve_left (by omega);obtain⟨⟨kx,nx,sx,ux⟩,hx⟩:=gol hlt;have hr:=hcs j _ hx wr HJ.o.world;have sxx:=hr.1;have hm:=List.mem_of_getElem? hx;have hxin:=bins_mem HIn.o hm;obtain⟨ax,cpx,esx,_,_,_⟩:=(bin_mk.1 hxin).1.at encBl_len;subst esx;have x0:wr.cell? ⟨bs,os+j*3,none⟩=some (.int .i64 kx):=hr.2 0 _ rfl;have x1:wr.cell? ⟨bs,os+j*3+1,none⟩=some (.int .i64 nx):=hr.2 1 _ rfl;have x2:wr.cell? ⟨bs,os+j*3+2,none⟩=some (.slice ax ux.length cpx):=hr.2 2 _ rfl;have HXi:=Lh hxin;have HX:=Lh hx;have HSz:Hid (SizeOf.sizeOf [BlL.mk kx nx (.slice ax ux.length cpx) ux]<N):=Lh (by have:=one_size hm;have:=HNn.o;omega);have HSu:=Lh (join_succ l m hx);clear hcs hx hr hm hxin;go_upto_region 5 with fail;have HTx:=Lh (arrT_new wr [.int .i64 kx,.int .i64 nx,.slice ax ux.length cpx] 183);have HNx:=Lh (bnew (w:=wr) (.cells #[.int .i64 kx,.int .i64 nx,.slice ax ux.length cpx] 183));have HJ1:=Lh (HJ.o.over HNx.o);generalize wr.alloc (.cells #[.int .i64 kx,.int .i64 nx,.slice ax ux.length cpx] 183)=w3 at *;clear x0 x1 x2 sxx;obtain⟨sn,hsn⟩:∃ sn,seenOne l (bareB (.mk kx nx (.slice ax ux.length cpx) ux))=sn:=⟨_,rfl⟩;have HSn:=Lh hsn;have hjl:=join_le l m hlt HX.o;rw [hsn] at hjl;have hol:=congrArg List.length HOj.o;rw [List.length_append,List.length_append] at hol;have hol1:([markA]:List ByteArray).length=1:=rfl;have hob:oj.length+sn.length+1≤1000000:=by omega
 clear hol hol1 hjl;have HCl:Hid (∀(W:World),Be w0 W→Calls Tryz.prog 79 #[.pointer s,.slice (some ⟨W.heap.size,0,none⟩) 1 1] (W.alloc (.cells #[.int .i64 kx,.int .i64 nx,.slice ax ux.length cpx] 183)) (OwnRes encS1 1 9 (W.alloc (.cells #[.int .i64 kx,.int .i64 nx,.slice ax ux.length cpx] 183)) sn)):=Lh fun W hW=>by have h9:=HIH.o (.slice (some ⟨W.heap.size,0,none⟩) 1 1) [.mk kx nx (.slice ax ux.length cpx) ux] (W.alloc (.cells #[.int .i64 kx,.int .i64 nx,.slice ax ux.length cpx] 183)) HSz.o (show GOwn encBl 3 183 (W.alloc (.cells #[.int .i64 kx,.int .i64 nx,.slice ax ux.length cpx] 183)) 0 (.slice (some ⟨W.heap.size,0,none⟩) 1 1) [.mk kx nx (.slice ax ux.length cpx) ux] from own_lit28s W 183 [BlL.mk kx nx (.slice ax ux.length cpx) ux] 0 rfl (by show 1≤maxLen;unfold maxLen;omega) (Nat.zero_le _)).row (bins_one ((HXi.o.over hW).over (bnew _))) ((HSh.o.over hW).over (bnew _)) (by rw [bareL_map,List.map_cons,List.map_nil,seenAll_one,HSn.o];omega);rw [bareL_map,List.map_cons,List.map_nil,seenAll_one,HSn.o] at h9;exact h9
 have HCd:Hid (∀(W:World),Be w0 W→Calls Tryz.prog 79 #[.pointer s,.slice (some ⟨W.heap.size,0,none⟩) 1 1] (W.alloc (.cells #[.int .i64 kx,.int .i64 nx,.slice ax ux.length cpx] 183)).drew (OwnRes encS1 1 9 (W.alloc (.cells #[.int .i64 kx,.int .i64 nx,.slice ax ux.length cpx] 183)).drew sn)):=Lh fun W hW=>HCl.o W.drew hW.drew;clear hsn
 by_cases hj0:j=0
 ·
  have g0:decide ((j:Int) > 0)=false:=decide_eq_false (by omega);have g1:¬ 0<j:=by omega
  have u0:=HJ1.o.box.arr.k 0 rfl;have u1:=HJ1.o.sheet.arr.k 0 rfl;have us:=HJ1.o.box.arr.lt;have ut:=HJ1.o.sheet.arr.lt;obtain⟨t0,t1,t2,tl⟩:=HTx.o.arr.c3;have HBW:=Lh HJ1.o.world;go_upto_region 7 with fail;refine wlo 5 fun hcur=>?_;repeat(first|refine lxq ?_|(refine lxl rfl ?_;go_wp2_with (first|(go_at_call 79;(with_reducible first|refine(HCl.o _ (bvo HBW.o hcur)).mono ?_|refine(HCd.o _ HBW.o).mono ?_);rintro e w5 ⟨v5,rfl,ho5,hb5⟩;have HO5:=Lh ho5;replace hcur:Be w3 w5:=below_new_over hcur (by first|exact hb5|exact hb5.mono (by simp));clear ho5 hb5));refine⟨iov (by first|exact hcur|exact hcur.alloc hcur.size _),?_⟩))
  refine lxe ?_;have H5:=Lh (HJ1.o.over hcur);clear hcur u0 u1 us ut t0 t1 t2 tl;obtain⟨o7,ho7⟩:∃ o7,o7=oj++sn:=⟨_,rfl⟩;have HO7:=Lh ho7;have HR5:=Lh HO5.o.row;have HOw5:=Lh H5.o.own;have hN5:oj.length+sn.length≤1099511627776:=by omega
  have hB5:=H5.o.world.size;clear ho7;go_wp2_with (at_builtin;refine wpList_append_old slStrE rfl _ _ rfl w0.heap.size _ _ _ HOw5.o rfl _ _ _ HR5.o rfl (onesS _) hN5 (by decide) hB5 ?_;intro v7 w7 ho7 hg7;(obtain⟨p7,c7,e7,hO7⟩:=sown_moreS (more:=sn) HO7.o ho7);subst e7;have HP7:=Lh (H5.o.push hgo hgs hO7 hg7);have z0:=(H5.o.box.grown H5.o.own (by decide) hg7).arr.k 0 rfl;have z1:=(H5.o.box.grown H5.o.own (by decide) hg7).arr.free 0;have z2:=(H5.o.box.grown H5.o.own (by decide) hg7).arr.lt;clear ho7 hg7 hO7);go_roundw
  case rel=>exact⟨j+1,p7,c7,hlt,by go_num,o7,by rw [HO7.o,HOj.o,HSu.o,HSn.o,if_pos hj0,List.nil_append,List.append_assoc],HP7⟩
  simp [intOf];omega
 have g0:decide ((j:Int) > 0)=true:=decide_eq_true (by omega);have g1:0<j:=by omega
 have q0:=HJ1.o.box.arr.k 0 rfl;have q1:=HJ1.o.box.arr.free 0;have sq:=HJ1.o.box.arr.lt;have hB3:=HJ1.o.world.size;have HOw3:=Lh HJ1.o.own;have hN3:oj.length+1≤1099511627776:=by omega
 obtain⟨o6,ho6⟩:∃ o6,o6=oj++[m]:=⟨_,rfl⟩;have hl6:=congrArg List.length ho6;rw [List.length_append] at hl6;have hl7:([m]:List ByteArray).length=1:=rfl;have hl8:o6.length+sn.length≤1000000:=by omega
 clear hl6 hl7;have HO6:=Lh ho6;clear ho6;go_upto_region 7 with((at_builtin;refine apD slStrE rfl _ _ rfl w0.heap.size _ _ (drf _) 1 _ _ _ HOw3.o rfl rfl rfl rfl hN3 (by decide) hB3 ?_;intro v6 w6 ho6 hg6);(obtain⟨p6,c6,e6,hO6⟩:=sown_moreS (more:=[m]) HO6.o ho6);subst e6;have HP6:=Lh (HJ1.o.push hgo hgs hO6 hg6);have HT6:=Lh (((HTx.o.grown HJ1.o.own (by decide) hg6).set_other (a:=⟨go,0,none⟩) (HTx.o.ne_type HJ1.o.box (by decide)) (.slice p6 o6.length c6)));have z0:=(HJ1.o.box.grown HJ1.o.own (by decide) hg6).arr.k 0 rfl;have z1:=(HJ1.o.box.grown HJ1.o.own (by decide) hg6).arr.free 0;have z2:=(HJ1.o.box.grown HJ1.o.own (by decide) hg6).arr.lt;clear ho6 hg6 hO6)
 generalize w6.setCell ⟨go,0,none⟩ (.slice p6 o6.length c6)=w4 at *;clear q0 q1 sq z0 z1 z2 hB3;have u0:=HP6.o.box.arr.k 0 rfl;have u1:=HP6.o.sheet.arr.k 0 rfl;have us:=HP6.o.box.arr.lt;have ut:=HP6.o.sheet.arr.lt;obtain⟨t0,t1,t2,tl⟩:=HT6.o.arr.c3;have HBW:=Lh HP6.o.world;go_upto_region 7 with fail;refine wlo 5 fun hcur=>?_;repeat(first|refine lxq ?_|(refine lxl rfl ?_;go_wp2_with (first|(go_at_call 79;(with_reducible first|refine(HCl.o _ (bvo HBW.o hcur)).mono ?_|refine(HCd.o _ HBW.o).mono ?_);rintro e w5 ⟨v5,rfl,ho5,hb5⟩;have HO5:=Lh ho5;replace hcur:Be w4 w5:=below_new_over hcur (by first|exact hb5|exact hb5.mono (by simp));clear ho5 hb5));refine⟨iov (by first|exact hcur|exact hcur.alloc hcur.size _),?_⟩))
 refine lxe ?_;have H5:=Lh (HP6.o.over hcur);clear hcur u0 u1 us ut t0 t1 t2 tl;obtain⟨o7,ho7⟩:∃ o7,o7=o6++sn:=⟨_,rfl⟩;have HO7:=Lh ho7;have HR5:=Lh HO5.o.row;have HOw5:=Lh H5.o.own;have hN5:o6.length+sn.length≤1099511627776:=by omega
 have hB5:=H5.o.world.size;clear ho7;go_wp2_with (at_builtin;refine wpList_append_old slStrE rfl _ _ rfl w0.heap.size _ _ _ HOw5.o rfl _ _ _ HR5.o rfl (onesS _) hN5 (by decide) hB5 ?_;intro v7 w7 ho7 hg7;(obtain⟨p7,c7,e7,hO7⟩:=sown_moreS (more:=sn) HO7.o ho7);subst e7;have HP7:=Lh (H5.o.push hgo hgs hO7 hg7);have z0:=(H5.o.box.grown H5.o.own (by decide) hg7).arr.k 0 rfl;have z1:=(H5.o.box.grown H5.o.own (by decide) hg7).arr.free 0;have z2:=(H5.o.box.grown H5.o.own (by decide) hg7).arr.lt;clear ho7 hg7 hO7);go_roundw
 case rel=>exact⟨j+1,p7,c7,hlt,by go_num,o7,by rw [HO7.o,HO6.o,HOj.o,HSu.o,HSn.o,if_neg hj0];simp only [List.append_assoc],HP7⟩
 simp [intOf];omega
end
section
theorem bareB_mk(k n:Int)(sv:Value)(s:List BlL):bareB (.mk k n sv s)=.mk k n (bareL s):=by unfold bareB;rfl
theorem seen_succ(l:List VertM){xs:List BlL}{j:Nat}{x:BlL}(h:xs[j]? = some x):seenAll l (bareL (xs.take (j+1)))=seenAll l (bareL (xs.take j))++seenOne l (bareB x):=by rw [take_one h,bareL_snoc,seenAll_append,seenAll_one]
theorem seen_le(l:List VertM){xs:List BlL}(j:Nat):(seenAll l (bareL (xs.take j))).length≤(seenAll l (bareL xs)).length:=by
 have h:bareL xs=bareL (xs.take j)++bareL (xs.drop j):=by rw [bareL_map,bareL_map,bareL_map,← List.map_append,List.take_append_drop]
 rw [h,seenAll_append,List.length_append];omega
def BkRel(w:World)(go gs:Nat)(s:Option Addr)(l:List VertM)(xs:List BlL)(v14:Value)(wr:World):Prop:=∃(j:Nat) (p:Option Addr) (c:Nat),j≤xs.length∧v14=.int .i64 j∧∃ oj:List ByteArray,oj=seenAll l (bareL (xs.take j))∧Hid (OutAt wr w go gs s p c oj)
attribute [local irreducible] seenJoin seenAll seenOne bareL bareB
theorem blocks_any(l:List VertM)(R:List (Nat × Nat))(s:Option Addr):∀(N:Nat) (v:Value) (xs:List BlL) (w:World),SizeOf.sizeOf xs<N→GRow encBl 3 w v xs→BIns (fun _=>True) w xs→ShV w s l R→(seenAll l (bareL xs)).length≤1000000 →
  Calls Tryz.prog 79 #[.pointer s,v] w (OwnRes encS1 1 9 w (seenAll l (bareL xs)))
 | 0,v,xs,w,hs,_,_,_,_=>absurd hs (Nat.not_lt_zero _)
 | N+1,v,xs,w,hs,hv,hi,hS,hlen=>by
  have HIH:=Lh (blocks_any l R s N);obtain⟨a,cap,rfl,h1,h2,hc⟩:=hv.at encBl_len;unfold maxLen at h2;have HC:=Lh hc;have HI:=Lh hi;have HSh:=Lh hS;have HS:=Lh hs;have HLn:=Lh hlen;have HSb:=Lh (arrT_new w [.pointer s] 78);have HN1:=Lh (bnew (w:=w) (.cells #[.pointer s] 78));clear hv hi hc hs hS hlen;go_enter Tryz.func79,Tryz.ntmps79;go_upto_region 2 with fail;have HOb:=Lh (arrT_new (w.alloc (.cells #[.pointer s] 78)) [.slice none 0 0] 64);have HN2:=Lh (bnew (w:=w.alloc (.cells #[.pointer s] 78)) (.cells #[.slice none 0 0] 64));have hgo:(w.alloc (.cells #[.pointer s] 78)).heap.size=w.heap.size+1:=by simp
  have H0:Hid (OutAt ((w.alloc (.cells #[.pointer s] 78)).alloc (.cells #[.slice none 0 0] 64)) w (w.heap.size+1) w.heap.size s none 0 []):=Lh ⟨by have:=HOb.o;rw [hgo] at this;exact this,gown_nil _ _,HSb.o.over HN2.o,bvo HN1.o HN2.o⟩;generalize (w.alloc (.cells #[.pointer s] 78)).alloc (.cells #[.slice none 0 0] 64)=w0 at *;clear hgo;go_wp2;go_loopw [14] (fun v14 wr=>BkRel w (w.heap.size+1) w.heap.size s l xs v14 wr) (fun v14 _=>xs.length - (intOf v14).toNat)
  case atStart=>exact⟨0,none,0,Nat.zero_le _,rfl,[],by rw [List.take_zero,bareL_nil,seenAll_nil],H0⟩
  obtain⟨j,pj,cj,hj,rfl,oj,hoj,HJ⟩:=hrel;rename World=>wr;have HOj:=Lh hoj
  by_cases hlt:j<xs.length
  rotate_left
  · obtain rfl:j=xs.length:=(by omega);obtain⟨r0,hgl⟩:=HJ.o.box.arr.c1;have HE:Hid (seenAll l (bareL xs)=oj):=Lh (by rw [hoj,List.take_length]);clear hoj;go_wp2;go_ret;exact⟨_,rfl,by rw [HE.o];exact HJ.o.own,HJ.o.world⟩
  obtain⟨b,off,rfl,sb,hcb⟩:=HC.o.resolve_left (by omega);obtain⟨⟨kd,nm,sv,sub⟩,hx⟩:=gol hlt;have hr:=hcb j _ hx wr HJ.o.world;have sx:=hr.1;have hm:=List.mem_of_getElem? hx;have hin:=bin_mk.1 (bins_mem HI.o hm);obtain⟨a',cap',esv,_,_,_⟩:=hin.1.at encBl_len;subst esv;have x0:wr.cell? ⟨b,off+j*3,none⟩=some (.int .i64 kd):=hr.2 0 _ rfl;have x1:wr.cell? ⟨b,off+j*3+1,none⟩=some (.int .i64 nm):=hr.2 1 _ rfl;have x2:wr.cell? ⟨b,off+j*3+2,none⟩=some (.slice a' sub.length cap'):=hr.2 2 _ rfl;have HSub:=Lh hin.1;have HSin:=Lh hin.2.2.2;have HSz:Hid (SizeOf.sizeOf sub<N):=Lh (by have:=size_sub hm;have:=HS.o;omega);have HSu:=Lh (seen_succ l hx);have hlj:oj.length+(seenOne l (bareB (.mk kd nm (.slice a' sub.length cap') sub))).length≤1000000:=by have h9:=seen_le l (xs:=xs) (j+1);rw [HSu.o,List.length_append,← hoj] at h9;have:=HLn.o;omega
  clear hcb hx hr hin hm hoj
  by_cases k2:kd=2
  ·
   subst k2;go_upto_region 6 with fail;have HK:=Lh (anw wr #[.int .i64 2,.int .i64 nm,.slice a' sub.length cap'] 183);have HNw:=Lh (bnew (w:=wr) (.cells #[.int .i64 2,.int .i64 nm,.slice a' sub.length cap'] 183));have HJ1:=Lh (HJ.o.over HNw.o);generalize wr.alloc (.cells #[.int .i64 2,.int .i64 nm,.slice a' sub.length cap'] 183)=w3 at *;clear x0 x1 x2 sx;have hgl:=HJ1.o.box.arr.lt;have hsl:=HJ1.o.sheet.arr.lt;have r0:=HJ1.o.box.arr.k 0 rfl;have r1:=HJ1.o.sheet.arr.k 0 rfl;obtain⟨y0,y1,y2,sy⟩:=HK.o.c3;have HMk:Hid (seenOne l (bareB (.mk 2 nm (.slice a' sub.length cap') sub))=markA :: (seenJoin l markS true (bareL sub)++[markE])):=Lh (by rw [bareB_mk,seenOne_mk];simp);have hlen2:oj.length+(seenJoin l markS true (bareL sub)).length+2≤1000000:=(by have h9:=hlj;rw [HMk.o] at h9;simp only [List.length_cons,List.length_append,List.length_nil] at h9;omega);go_wp2_with fail;refine(oddFn_any N l R w _ _ s 2 nm (.slice a' sub.length cap') sub markS pj cj oj _ HIH.o HSz.o (by omega) (by omega) HJ1.o HSh.o HSub.o HSin.o hlen2).mono ?_;rintro e w5 ⟨rfl,p5,c5,h5⟩;have H5:=Lh h5;clear h5;go_wp2;go_roundw
   case rel=>exact⟨j+1,p5,c5,hlt,by go_num,_,by rw [HSu.o,HOj.o,HMk.o],H5⟩
   simp [intOf];omega
  by_cases k3:kd=3
  ·
   subst k3;go_upto_region 6 with fail;have HK:=Lh (anw wr #[.int .i64 3,.int .i64 nm,.slice a' sub.length cap'] 183);have HNw:=Lh (bnew (w:=wr) (.cells #[.int .i64 3,.int .i64 nm,.slice a' sub.length cap'] 183));have HJ1:=Lh (HJ.o.over HNw.o);generalize wr.alloc (.cells #[.int .i64 3,.int .i64 nm,.slice a' sub.length cap'] 183)=w3 at *;clear x0 x1 x2 sx;have hgl:=HJ1.o.box.arr.lt;have hsl:=HJ1.o.sheet.arr.lt;have r0:=HJ1.o.box.arr.k 0 rfl;have r1:=HJ1.o.sheet.arr.k 0 rfl;obtain⟨y0,y1,y2,sy⟩:=HK.o.c3;have HMk:Hid (seenOne l (bareB (.mk 3 nm (.slice a' sub.length cap') sub))=markA :: (seenJoin l markT true (bareL sub)++[markE])):=Lh (by rw [bareB_mk,seenOne_mk];simp);have hlen2:oj.length+(seenJoin l markT true (bareL sub)).length+2≤1000000:=(by have h9:=hlj;rw [HMk.o] at h9;simp only [List.length_cons,List.length_append,List.length_nil] at h9;omega);go_wp2_with fail;refine(oddFn_any N l R w _ _ s 3 nm (.slice a' sub.length cap') sub markT pj cj oj _ HIH.o HSz.o (by omega) (by omega) HJ1.o HSh.o HSub.o HSin.o hlen2).mono ?_;rintro e w5 ⟨rfl,p5,c5,h5⟩;have H5:=Lh h5;clear h5;go_wp2;go_roundw
   case rel=>exact⟨j+1,p5,c5,hlt,by go_num,_,by rw [HSu.o,HOj.o,HMk.o],H5⟩
   simp [intOf];omega
  by_cases k4:kd=4
  ·
   subst k4;go_upto_region 6 with fail;have HK:=Lh (anw wr #[.int .i64 4,.int .i64 nm,.slice a' sub.length cap'] 183);have HNw:=Lh (bnew (w:=wr) (.cells #[.int .i64 4,.int .i64 nm,.slice a' sub.length cap'] 183));have HJ1:=Lh (HJ.o.over HNw.o);generalize wr.alloc (.cells #[.int .i64 4,.int .i64 nm,.slice a' sub.length cap'] 183)=w3 at *;clear x0 x1 x2 sx;have hgl:=HJ1.o.box.arr.lt;have hsl:=HJ1.o.sheet.arr.lt;have r0:=HJ1.o.box.arr.k 0 rfl;have r1:=HJ1.o.sheet.arr.k 0 rfl;obtain⟨y0,y1,y2,sy⟩:=HK.o.c3;have HM4:Hid (seenOne l (bareB (.mk 4 nm (.slice a' sub.length cap') sub))=seenAll l (bareL sub)):=Lh (by rw [bareB_mk,seenOne_mk];simp);rw [HM4.o] at hlj;have HCl:Hid (∀(W:World),Be w3 W→Calls Tryz.prog 79 #[.pointer s,.slice a' sub.length cap'] W (OwnRes encS1 1 9 W (seenAll l (bareL sub)))):=Lh fun W hW=>HIH.o _ sub W HSz.o (HSub.o.over (bvo HJ1.o.world hW)) (HSin.o.over (bvo HJ1.o.world hW)) (HSh.o.over (bvo HJ1.o.world hW)) (by omega);obtain⟨sn,hsn⟩:∃ sn,seenAll l (bareL sub)=sn:=⟨_,rfl⟩;rw [hsn] at HCl HM4 hlj;clear hsn;go_upto_region 12 with fail;refine wlo 5 fun hcur=>?_;(repeat(first|refine lxq ?_|(refine lxl rfl ?_;go_wp2_with (first|(go_at_call 79;(with_reducible refine(HCl.o _ hcur).mono ?_);rintro e w5 ⟨v5,rfl,ho5,hb5⟩;have HO5:=Lh ho5;replace hcur:=bvo hcur hb5;clear ho5 hb5));refine⟨iov (by first|exact hcur|exact hcur.alloc hcur.size _),?_⟩)));refine lxe ?_;have H5:=Lh (HJ1.o.over hcur);clear hcur r0 r1 hgl hsl y0 y1 y2 sy;obtain⟨o7,ho7⟩:∃ o7,o7=oj++sn:=⟨_,rfl⟩;have HO7:=Lh ho7;have HR5:=Lh HO5.o.row;have HOw5:=Lh H5.o.own;have hN5:oj.length+sn.length≤1099511627776:=(by omega);have hB5:=H5.o.world.size;clear ho7;go_wp2_with (at_builtin;refine wpList_append_old slStrE rfl _ _ rfl w.heap.size _ _ _ HOw5.o rfl _ _ _ HR5.o rfl (onesS _) hN5 (by decide) hB5 ?_;intro v7 w7 ho7 hg7;(obtain⟨p7,c7,e7,hO7⟩:=sown_moreS (more:=sn) HO7.o ho7);subst e7;have HP7:=Lh (H5.o.push (by omega) (by omega) hO7 hg7);have z0:=(H5.o.box.grown H5.o.own (by decide) hg7).arr.k 0 rfl;have z1:=(H5.o.box.grown H5.o.own (by decide) hg7).arr.free 0;have z2:=(H5.o.box.grown H5.o.own (by decide) hg7).arr.lt;clear ho7 hg7 hO7);go_roundw
   case rel=>exact⟨j+1,p7,c7,hlt,by go_num,o7,by rw [HSu.o,← HOj.o,HM4.o];exact HO7.o,HP7⟩
   simp [intOf];omega
  by_cases k1:kd=1
  rotate_left
  ·
   skip
   have HM0:Hid (seenOne l (bareB (.mk kd nm (.slice a' sub.length cap') sub))=[]):=Lh (by rw [bareB_mk,seenOne_mk,if_neg k1,if_neg k4,if_neg k2,if_neg k3]);have g1:(kd == 1)=false:=(by rw [beq_eq_false_iff_ne];exact k1);have g2:(kd == 2)=false:=(by rw [beq_eq_false_iff_ne];exact k2);have g3:(kd == 3)=false:=(by rw [beq_eq_false_iff_ne];exact k3);have g4:(kd == 4)=false:=(by rw [beq_eq_false_iff_ne];exact k4);go_upto_region 6 with fail;have HK:=Lh (anw wr #[.int .i64 kd,.int .i64 nm,.slice a' sub.length cap'] 183);have HNw:=Lh (bnew (w:=wr) (.cells #[.int .i64 kd,.int .i64 nm,.slice a' sub.length cap'] 183));have HJ1:=Lh (HJ.o.over HNw.o);generalize wr.alloc (.cells #[.int .i64 kd,.int .i64 nm,.slice a' sub.length cap'] 183)=w3 at *;clear x0 x1 x2 sx;have hgl:=HJ1.o.box.arr.lt;have hsl:=HJ1.o.sheet.arr.lt;have r0:=HJ1.o.box.arr.k 0 rfl;have r1:=HJ1.o.sheet.arr.k 0 rfl;obtain⟨y0,y1,y2,sy⟩:=HK.o.c3;go_wp2;go_roundw
   case rel=>exact⟨j+1,pj,cj,hlt,by go_num,oj,by rw [HSu.o,← HOj.o,HM0.o,List.append_nil],HJ1⟩
   simp [intOf];omega
  subst k1;go_upto_region 6 with fail;have HK:=Lh (anw wr #[.int .i64 1,.int .i64 nm,.slice a' sub.length cap'] 183);have HNw:=Lh (bnew (w:=wr) (.cells #[.int .i64 1,.int .i64 nm,.slice a' sub.length cap'] 183));have HJ1:=Lh (HJ.o.over HNw.o);generalize wr.alloc (.cells #[.int .i64 1,.int .i64 nm,.slice a' sub.length cap'] 183)=w3 at *;clear x0 x1 x2 sx;have hgl:=HJ1.o.box.arr.lt;have hsl:=HJ1.o.sheet.arr.lt;have r0:=HJ1.o.box.arr.k 0 rfl;have r1:=HJ1.o.sheet.arr.k 0 rfl;obtain⟨y0,y1,y2,sy⟩:=HK.o.c3
  by_cases hv1:0≤nm∧nm<(l.length:Int)
  rotate_left
  ·
   skip
   have HM1:Hid (seenOne l (bareB (.mk 1 nm (.slice a' sub.length cap') sub))=[]):=Lh (by rw [bareB_mk,seenOne_mk,if_pos rfl,if_neg hv1]);clear hlj;go_wp2_with fail;refine(svertN_any s nm l R _ (HSh.o.over HJ1.o.world) hv1).mono ?_;rintro e w4 ⟨rfl,hb4⟩;have HJ4:=Lh (HJ1.o.over hb4);clear hb4 r0 r1 hgl hsl y0 y1 y2 sy hv1;go_upto_region 9 with fail;have HJ5:=Lh (HJ4.o.over (bnew (w:=w4) (.cells (cX noVert) 86)));generalize w4.alloc (.cells (cX noVert) 86)=w5 at *;go_wp2;go_roundw
   case rel=>exact⟨j+1,pj,cj,hlt,by go_num,oj,by rw [HSu.o,← HOj.o,HM1.o,List.append_nil],HJ5⟩
   simp [intOf];omega
  skip
  obtain⟨i,rfl⟩:∃ i:Nat,nm=(i:Int):=⟨nm.toNat,by omega⟩;obtain⟨x,hx⟩:=gol (xs:=l) (i:=i) (by omega);have HM1:Hid (seenOne l (bareB (.mk 1 (i:Int) (.slice a' sub.length cap') sub))=[x.text]):=Lh (by rw [bareB_mk,seenOne_mk,if_pos rfl,if_pos hv1,Int.toNat_natCast,textAt_get hx]);rw [HM1.o] at hlj;have hl1:([x.text]:List ByteArray).length=1:=rfl;have hN5:oj.length+1≤1099511627776:=by omega
  have HX:=Lh hx;clear hl1 hlj hx hv1;go_wp2_with fail;refine(svertV_any s i x l R _ (HSh.o.over HJ1.o.world) HX.o).mono ?_;rintro e w4 ⟨rfl,hb4⟩;have HJ4:=Lh (HJ1.o.over hb4);clear hb4 r0 r1 hgl hsl y0 y1 y2 sy;go_upto_region 9 with fail;have HV:=Lh (anw w4 (cX x) 86);have HJ5:=Lh (HJ4.o.over (bnew (w:=w4) (.cells (cX x) 86)));generalize w4.alloc (.cells (cX x) 86)=w5 at *;have t7:=HV.o.k 7 rfl;have ts:=HV.o.lt;have r0:=HJ5.o.box.arr.k 0 rfl;have r2:=HJ5.o.box.arr.free 0;have hgl:=HJ5.o.box.arr.lt;have hB5:=HJ5.o.world.size;have HOw5:=Lh HJ5.o.own;obtain⟨o7,ho7⟩:∃ o7,o7=oj++[x.text]:=⟨_,rfl⟩;have HO7:=Lh ho7;clear ho7;go_wp2_with ((at_builtin;refine apD slStrE rfl _ _ rfl w.heap.size _ _ (drf _) 1 _ _ _ HOw5.o rfl rfl rfl rfl hN5 (by decide) hB5 ?_;intro v7 w7 ho7 hg7);(obtain⟨p7,c7,e7,hO7⟩:=sown_moreS (more:=[x.text]) HO7.o ho7);subst e7;have HP7:=Lh (HJ5.o.push (by omega) (by omega) hO7 hg7);have z0:=(HJ5.o.box.grown HJ5.o.own (by decide) hg7).arr.k 0 rfl;have z1:=(HJ5.o.box.grown HJ5.o.own (by decide) hg7).arr.free 0;have z2:=(HJ5.o.box.grown HJ5.o.own (by decide) hg7).arr.lt;clear ho7 hg7 hO7);go_roundw
  case rel=>exact⟨j+1,p7,c7,hlt,by go_num,o7,by rw [HSu.o,← HOj.o,HM1.o];exact HO7.o,HP7⟩
  simp [intOf];omega
end
section
variable{R:List (Nat × Nat)}{α:Type}
def sumN:List Nat→Nat
 | []=>0
 | x :: l=>x+sumN l
theorem sumN_append:∀ a b:List Nat,sumN (a++b)=sumN a+sumN b
 | [],b=>by simp [sumN]
 | x :: a,b=>by rw [List.cons_append,sumN,sumN,sumN_append a b];omega
theorem count_one{β:Type}(P:α→β→Bool)(x:β):∀ {hs:List α},hs.Pairwise (fun a b=>∀ x,¬ (P a x=true∧P b x=true))→hs.countP (fun h=>P h x)≤1
 | [],_=>by simp
 | h :: hs,hp=>by
  obtain⟨h1,h2⟩:=List.pairwise_cons.1 hp;have ih:=count_one P x h2;rw [List.countP_cons];cases hx:P h x with
  | false=>simp;exact ih
  | true =>have:hs.countP (fun h=>P h x)=0:=List.countP_eq_zero.2 fun g hg hgx=>h1 g hg x ⟨hx,hgx⟩;simp [this]
theorem sum_count{β:Type}(P:α→β→Bool){hs:List α}(hp:hs.Pairwise (fun a b=>∀ x,¬ (P a x=true∧P b x=true))):∀ xs:List β,sumN (hs.map fun h=>(xs.filter (P h)).length)≤xs.length
 | []=>by
  have:∀ hs:List α,sumN (hs.map fun h=>(([]:List β).filter (P h)).length)=0:=by
   intro hs;induction hs with
   | nil=>rfl
   | cons a hs ih=>rw [List.map_cons,sumN,ih];rfl
  rw [this];exact Nat.zero_le _
 | x :: xs=>by
  have ih:=sum_count P hp xs;have h1:=count_one P x hp;have:∀ hs:List α,sumN (hs.map fun h=>((x :: xs).filter (P h)).length)=sumN (hs.map fun h=>(xs.filter (P h)).length)+hs.countP (fun h=>P h x):=by
   intro hs;induction hs with
   | nil=>rfl
   | cons a hs ih2 =>rw [List.map_cons,List.map_cons,sumN,sumN,ih2,List.countP_cons,List.filter_cons];cases P a x <;> simp <;> omega
  rw [this,List.length_cons];omega
theorem sides_sum(R:List (Nat × Nat))(l:List Nat):sumN ((sidesM R l).map List.length)≤l.length:=by
 unfold sidesM;rw [List.map_map];have hp:(headsM R l l.length).Pairwise (fun a b=>∀ x,¬ (nearD R l a x=true∧nearD R l b x=true)):=by unfold headsM;refine((List.pairwise_lt_range (n:=l.length)).filter _).imp_of_mem ?_;intro a b _ hb hab x hx;have hb2:=headB_iff.1 (List.mem_filter.1 hb).2;exact hb2 a hab ((nearD_iff.1 hx.1).trans (nearD_iff.1 hx.2).symm)
 have:=sum_count (nearD R l) hp (List.range l.length);rw [List.length_range] at this;exact this
theorem sides_pos{l:List Nat}{s:List Nat}(hs:s∈sidesM R l):0<s.length:=by unfold sidesM at hs;obtain⟨i,hi,rfl⟩:=List.mem_map.1 hs;have hi2:=(mem_heads.1 hi).1;exact List.length_pos_of_mem (mem_sideM.2 (.self hi2))
theorem sides_some{l:List Nat}(h:0<l.length):0<(sidesM R l).length:=by unfold sidesM;rw [List.length_map];exact List.length_pos_of_mem (a:=0) (mem_heads.2 ⟨h,headB_iff.2 fun k hk=>absurd hk (by omega)⟩)
theorem pieces_sum(R:List (Nat × Nat))(l:List Nat):∀ k,k≤l.length→sumN ((piecesTo R l k).1.map List.length)=(piecesTo R l k).2∧∀ p∈(piecesTo R l k).1,0<p.length∧p.length≤k
 | 0,_=>⟨rfl,fun p hp=>absurd hp (List.not_mem_nil)⟩
 | k+1,hk=>by
  obtain⟨h1,h2⟩:=pieces_sum R l k (by omega);have h3:=pieces_at R l k
  by_cases h:k+1=l.length∨cutB R l (k+1)=true
  ·
   rw [pieces_yes h];have hl:((l.take (k+1)).drop (piecesTo R l k).2).length=k+1 - (piecesTo R l k).2:=(by rw [List.length_drop,List.length_take];omega);refine⟨?_,fun p hp => ?_⟩
   · show sumN (((piecesTo R l k).1++[(l.take (k+1)).drop (piecesTo R l k).2]).map List.length)=k+1;rw [List.map_append,sumN_append,h1,List.map_cons,List.map_nil,sumN,sumN,hl];omega
   rcases List.mem_append.1 hp with hp|hp
   · have:=h2 p hp;omega
   rw [List.mem_singleton.1 hp,hl];omega
  rw [pieces_no h];exact⟨h1,fun p hp=>by have:=h2 p hp;omega⟩
theorem seenAll_sum(l:List VertM):∀ bs:List BlkM,(seenAll l bs).length=sumN (bs.map fun b=>(seenOne l b).length)
 | []=>by rw [seenAll_nil];rfl
 | b :: bs=>by rw [seenAll_cons,List.length_append,seenAll_sum l bs];rfl
theorem seenJoin_sum(l:List VertM)(m:ByteArray):∀(bs:List BlkM) (f:Bool),(seenJoin l m f bs).length≤sumN (bs.map fun b=>(seenOne l b).length)+bs.length
 | [],f=>by rw [seenJoin_nil];exact Nat.zero_le _
 | b :: bs,f=>by have:=seenJoin_sum l m bs false;rw [seenJoin_cons,List.length_append,List.length_append,List.map_cons,sumN,List.length_cons];cases f <;> simp <;> omega
theorem seen_line(l:List VertM)(i:Nat):(seenOne l (lineB i)).length≤1:=by unfold lineB;rw [seenOne_mk,if_pos rfl];split <;> simp
theorem sum_lines(l:List VertM):∀ t:List Nat,sumN ((t.map lineB).map fun b=>(seenOne l b).length)≤t.length
 | []=>Nat.le_refl _
 | i :: t=>by have h1:=sum_lines l t;have h2:=seen_line l i;rw [List.map_cons,List.map_cons,sumN,List.length_cons];omega
theorem sum_le(f g:α→Nat):∀ xs:List α,(∀ x∈xs,f x+3≤4*g x)→sumN (xs.map f)+3*xs.length≤4*sumN (xs.map g)
 | [],_=>Nat.le_refl _
 | x :: xs,h=>by have h1:=h x (List.mem_cons_self ..);have h2:=sum_le f g xs fun y hy=>h y (List.mem_cons_of_mem _ hy);rw [List.map_cons,List.map_cons,sumN,sumN,List.length_cons];omega
theorem seenJoin_first(l:List VertM)(m:ByteArray){bs:List BlkM}(h:0<bs.length):(seenJoin l m true bs).length+1≤sumN (bs.map fun b=>(seenOne l b).length)+bs.length:=by
 cases bs with
 | nil=>exact absurd h (by simp)
 | cons b bs =>have:=seenJoin_sum l m bs false;rw [seenJoin_cons,List.length_append,List.length_append,List.map_cons,sumN,List.length_cons];simp;omega
theorem things_len(l s:List Nat):(thingsM l s).length=s.length:=by unfold thingsM;rw [List.length_map]
theorem piece_seen(l:List VertM)(R:List (Nat × Nat))(F:List Nat→List BlkM)(p:List Nat)(hp:0<p.length)(hF:∀ t:List Nat,t.length<p.length→0<t.length→(seenAll l (F t)).length+3≤4*t.length):(seenOne l (pieceM R F p)).length+3≤4*p.length:=by
 by_cases h1:p.length=1
 · unfold pieceM;rw [if_pos h1];have:=seen_line l (p.getD 0 0);omega
 by_cases h2:(sidesM R p).length=1
 · unfold pieceM;rw [if_neg h1,if_pos h2,seenOne_mk];rw [if_neg (by decide),if_neg (by decide),if_neg (by decide),if_pos rfl];have h3:=seenJoin_first l markT (bs:=p.map lineB) (by rw [List.length_map];exact hp);have h4:=sum_lines l p;rw [List.length_map] at h3;rw [List.length_cons,List.length_append,List.length_singleton];omega
 unfold pieceM;rw [if_neg h1,if_neg h2,seenOne_mk];rw [if_neg (by decide),if_neg (by decide),if_pos rfl];have h0:=sides_some (R:=R) hp;have h3:=seenJoin_first l markS (bs:=(sidesM R p).map fun s=>BlkM.mk 4 0 (F (thingsM p s))) (by rw [List.length_map];exact h0);rw [List.length_map,List.map_map] at h3;have h4:=sum_le (fun s=>(seenOne l (BlkM.mk 4 0 (F (thingsM p s)))).length) List.length (sidesM R p) fun s hs=>by rw [seenOne_mk,if_neg (by decide),if_pos rfl];have h6:=sides_less h2 hs;have h7:=sides_pos hs;have h8:=hF (thingsM p s) (by rw [things_len];exact h6) (by rw [things_len];exact h7);rw [things_len] at h8;exact h8
 have h5:=sides_sum R p;have h6:sumN ((sidesM R p).map ((fun b=>(seenOne l b).length) ∘ fun s=>BlkM.mk 4 0 (F (thingsM p s))))=sumN ((sidesM R p).map fun s=>(seenOne l (BlkM.mk 4 0 (F (thingsM p s)))).length):=rfl;rw [h6] at h3;rw [List.length_cons,List.length_append,List.length_singleton];omega
theorem pieces_end{t:List Nat}(h:0<t.length):(piecesM R t)≠[]∧sumN ((piecesM R t).map List.length)=t.length:=by
 obtain⟨k,hk⟩:∃ k,t.length=k+1:=⟨t.length - 1,by omega⟩;have h1:=pieces_yes (R:=R) (l:=t) (k:=k) (.inl hk.symm);have h2:=(pieces_sum R t t.length (Nat.le_refl _)).1;unfold piecesM;refine⟨?_,?_⟩
 · rw [hk,h1];simp
 rw [h2,hk,h1]
theorem seen_bound(l:List VertM)(R:List (Nat × Nat)):∀(f:Nat) (t:List Nat),t.length<f→0<t.length→(seenAll l (blkM R f t)).length+3≤4*t.length
 | 0,t,h,_=>absurd h (Nat.not_lt_zero _)
 | f+1,t,h,h0=>by
  obtain⟨h1,h2⟩:=pieces_end (R:=R) h0;rw [blkM,seenAll_sum,List.map_map];have h3:=sum_le (fun p=>(seenOne l (pieceM R (blkM R f) p)).length) List.length (piecesM R t) fun p hp=>by have h4:=(pieces_sum R t t.length (Nat.le_refl _)).2 p hp;exact piece_seen l R (blkM R f) p h4.1 fun u hu hu0=>seen_bound l R f u (by omega) hu0
  have h5:0<(piecesM R t).length:=List.length_pos_iff.2 h1;have h6:sumN ((piecesM R t).map ((fun b=>(seenOne l b).length) ∘ pieceM R (blkM R f)))=sumN ((piecesM R t).map fun p=>(seenOne l (pieceM R (blkM R f) p)).length):=rfl;rw [h6];omega
theorem oddL_sum:∀ bs:List BlkM,oddL bs=sumN (bs.map oddB)
 | []=>by rw [oddL_nil];rfl
 | b :: bs=>by rw [oddL_cons,oddL_sum bs];rfl
theorem odd_lines:∀ t:List Nat,oddL (t.map lineB)=0
 | []=>oddL_nil
 | i :: t=>by rw [List.map_cons,oddL_cons,odd_lines t];unfold lineB;rw [odd_1]
theorem sum_le1(f g:α→Nat):∀ xs:List α,(∀ x∈xs,f x+1≤g x)→sumN (xs.map f)+xs.length≤sumN (xs.map g)
 | [],_=>Nat.le_refl _
 | x :: xs,h=>by have h1:=h x (List.mem_cons_self ..);have h2:=sum_le1 f g xs fun y hy=>h y (List.mem_cons_of_mem _ hy);rw [List.map_cons,List.map_cons,sumN,sumN,List.length_cons];omega
theorem piece_odd(R:List (Nat × Nat))(F:List Nat→List BlkM)(p:List Nat)(hp:0<p.length)(hF:∀ t:List Nat,t.length<p.length→0<t.length→oddL (F t)+1≤t.length):oddB (pieceM R F p)+1≤p.length:=by
 by_cases h1:p.length=1
 · unfold pieceM;rw [if_pos h1];unfold lineB;rw [odd_1];omega
 by_cases h2:(sidesM R p).length=1
 · unfold pieceM;rw [if_neg h1,if_pos h2,odd_23 (.inr rfl),odd_lines];omega
 unfold pieceM;rw [if_neg h1,if_neg h2,odd_23 (.inl rfl),oddL_sum,List.map_map];have h0:=sides_some (R:=R) hp;have h4:=sum_le1 (fun s=>oddB (BlkM.mk 4 0 (F (thingsM p s)))) List.length (sidesM R p) fun s hs=>by rw [odd_0 (by decide) (by decide)];have h6:=sides_less h2 hs;have h7:=sides_pos hs;have h8:=hF (thingsM p s) (by rw [things_len];exact h6) (by rw [things_len];exact h7);rw [things_len] at h8;exact h8
 have h5:=sides_sum R p;have h6:sumN ((sidesM R p).map (oddB ∘ fun s=>BlkM.mk 4 0 (F (thingsM p s))))=sumN ((sidesM R p).map fun s=>oddB (BlkM.mk 4 0 (F (thingsM p s)))):=rfl;rw [h6];omega
theorem odd_bound(R:List (Nat × Nat)):∀(f:Nat) (t:List Nat),t.length<f→0<t.length→oddL (blkM R f t)+1≤t.length
 | 0,t,h,_=>absurd h (Nat.not_lt_zero _)
 | f+1,t,h,h0=>by
  obtain⟨h1,h2⟩:=pieces_end (R:=R) h0;rw [blkM,oddL_sum,List.map_map];have h3:=sum_le1 (fun p=>oddB (pieceM R (blkM R f) p)) List.length (piecesM R t) fun p hp=>by have h4:=(pieces_sum R t t.length (Nat.le_refl _)).2 p hp;exact piece_odd R (blkM R f) p h4.1 fun u hu hu0=>odd_bound R f u (by omega) hu0
  have h5:0<(piecesM R t).length:=List.length_pos_iff.2 h1;have h6:sumN ((piecesM R t).map (oddB ∘ pieceM R (blkM R f)))=sumN ((piecesM R t).map fun p=>oddB (pieceM R (blkM R f) p)):=rfl;rw [h6];omega
end
section
noncomputable def lnBlk(l:List VertM)(R:List (Nat × Nat)):List BlkM:=blkM R ((aliveX l R).length+1) (aliveX l R)
noncomputable def lnSeen(l:List VertM)(R:List (Nat × Nat)):List ByteArray:=seenAll l (lnBlk l R)
noncomputable def lnOdd(l:List VertM)(R:List (Nat × Nat)):Nat:=oddL (lnBlk l R)
theorem blk_nil(R:List (Nat × Nat))(f:Nat):blkM R (f+1) []=[]:=by rw [blkM];rfl
theorem ln_few(l:List VertM)(R:List (Nat × Nat)):(lnSeen l R).length≤4*l.length∧lnOdd l R≤l.length:=by
 have h1:=aliveX_len l R;unfold lnSeen lnOdd lnBlk;rcases Nat.eq_zero_or_pos (aliveX l R).length with h|h
 · rw [List.eq_nil_of_length_eq_zero h,show([]:List Nat).length+1=0+1 from rfl,blk_nil,seenAll_nil,oddL_nil];exact⟨Nat.zero_le _,Nat.zero_le _⟩
 have h2:=seen_bound l R ((aliveX l R).length+1) (aliveX l R) (by omega) h;have h3:=odd_bound R ((aliveX l R).length+1) (aliveX l R) (by omega) h;exact⟨by omega,by omega⟩
theorem bins_true{A:Nat→Prop}{w:World}{xs:List BlL}(h:BIns A w xs):BIns (fun _=>True) w xs:=BIns.mono (fun _ _=>trivial) (fun _ _ _ h=>h) xs h
def LnRes(w:World)(l:List VertM)(R:List (Nat × Nat))(e:Ending)(w':World):Prop:=∃ v,e=.returned (.tuple #[v,.int .i64 (lnOdd l R:Int)])∧GOwn encS1 1 9 w' w.heap.size v (lnSeen l R)∧Be w w'
theorem lnres_mk{w w':World}{l:List VertM}{R:List (Nat × Nat)}{v:Value}{o:Nat}(ho:o=lnOdd l R)(h1:GOwn encS1 1 9 w' w.heap.size v (lnSeen l R))(h2:Be w w'):LnRes w l R (.returned (.tuple #[v,.int .i64 o])) w':=by subst ho;exact⟨v,rfl,h1,h2⟩
attribute [local irreducible] lnSeen lnOdd aliveX seenAll oddL blkM bareL
theorem slines_any(s:Nat)(l:List VertM)(R:List (Nat × Nat))(w:World)(h:ShAt w s l R)(hl:l.length≤65536):Calls Tryz.prog 36 #[.pointer (some ⟨s,0,none⟩)] w (LnRes w l R):=by
 have HS:=Lh h;have HF:=Lh (ln_few l R);have HA:=Lh (aliveX_len l R);clear h;go_enter Tryz.func36,Tryz.ntmps36;go_wp2_with fail;refine(srel_any s l R _ HS.o).mono ?_;rintro e w1 ⟨⟨r,rfl,hr⟩,hw⟩;obtain rfl:=hw.symm;have HR:=Lh hr;clear hr;go_wp2_with fail;refine(salive_any s l R _ HS.o hl).mono ?_;rw [sares_is];rintro e w2 ⟨v2,rfl,ho2,hb2⟩;have HO2:=Lh ho2;have HB2:=Lh hb2;have HAl:Hid (∀ i∈aliveX l R,i≤1000000):=Lh fun i hi=>by have:=aliveX_lt hi;omega
 clear ho2 hb2;go_wp2_with fail;refine(bof_any r l.length R ((aliveX l R).length+1) (aliveX l R) v2 _ (Nat.lt_succ_self _) (by have:=HA.o;omega) HAl.o (HR.o.over HB2.o) HO2.o.row).mono ?_;rintro e w3 ⟨v3,xs,rfl,hx3,hr3,hb3⟩;obtain⟨p3,c3,e3,_,_,_⟩:=hx3.own.row.at encBl_len;subst e3;have HX3:=Lh hx3;have HR3:Hid (bareL xs=lnBlk l R):=Lh hr3;have HB3:=Lh (bvo HB2.o hb3);have HSe:Hid (seenAll l (bareL xs)=lnSeen l R):=Lh (by rw [HR3.o];unfold lnSeen;rfl);have HOd:Hid (oddL (bareL xs)=lnOdd l R):=Lh (by rw [HR3.o];unfold lnOdd;rfl);clear hx3 hr3 hb3;go_wp2_with fail;refine(blocks_any l R (some ⟨s,0,none⟩) (SizeOf.sizeOf xs+1) _ xs _ (Nat.lt_succ_self _) HX3.o.own.row (bins_true HX3.o.ins) (.inl ⟨s,rfl,HS.o.over HB3.o⟩) (by rw [HSe.o];have:=HF.o.1;omega)).mono ?_;rintro e w4 ⟨v4,rfl,ho4,hb4⟩;rw [HSe.o] at ho4;have HO4:=Lh ho4;have HB4:=Lh (bvo HB3.o hb4);have HX4:=Lh (HX3.o.over hb4);have hs4:=HB3.o.size;clear ho4 hb4;go_wp2_with fail;refine(bodd_any (fun _=>True) (SizeOf.sizeOf xs+1) _ xs _ (Nat.lt_succ_self _) HX4.o.own.row (bins_true HX4.o.ins) (by rw [HOd.o];have:=HF.o.2;omega)).mono ?_;rintro e w5 ⟨rfl,hb5⟩;have HO5:=Lh ((HO4.o.over hb5).base hs4);have HB5:=Lh (bvo HB4.o hb5);clear hb5;go_wp2_with fail;refine bodyPost_ret (results_tmp2 rfl _ _ _) rfl ?_;exact lnres_mk HOd.o HO5.o HB5.o
end
end Go.Proofs.YtanfebljiblhbaaGreatDoor
namespace Go.Proofs.YtanfebljiblhbaaGreatDoor
open Go
noncomputable def fileT(L:List PatchM)(n:NameM):FileM:=⟨n.name,n.also.map fun t=>⟨t.toArray⟩,lnSeen (linesM L n.file) (relM L n.file)⟩
noncomputable def oddN(L:List PatchM)(n:NameM):Nat:=lnOdd (linesM L n.file) (relM L n.file)
section
variable {L : List PatchM}
end
end Go.Proofs.YtanfebljiblhbaaGreatDoor
