/- Contract of edit.Ops. A sheet that may be nobody: nil, which has no lines. What is seen of blocks, plain; Sheet.Vert where there is no such line. The closure of show.Blocks that shows what is not in order; the contract of show.Blocks at less is taken as given. Contract of show.Blocks. How much is seen of the blocks of a list: plain. Contract of show.Lines. Nothing is hidden, plain: what is seen of the blocks of a list. No line is a mark. RenderClean, plain: what is at odds is seen. -/
import Derived.Test.YtanfebljiblhbaaGreatDoorZEdC
import Derived.Test.YtanfebljiblhbaaGreatDoorZNmB
set_option linter.unusedVariables false
set_option linter.unusedSimpArgs false
namespace Go.Proofs.YtanfebljiblhbaaGreatDoor
open Go Go.RowKit

/-! ### a row of names that is filled -/
def atL(at':List VidM)(j m:Nat):List VidM:=at'++List.replicate (m - j) noVid
theorem atL_set{at':List VidM}{j m:Nat}(ha:at'.length=j)(hj:j<m)(v:VidM):(atL at' j m).set j v=atL (at'++[v]) (j+1) m:=by
 unfold atL
 rw [List.set_append_right _ _ (by omega),ha,Nat.sub_self,show m - j=(m - (j+1))+1 by omega,List.replicate_succ,List.set_cons_zero,List.append_assoc]
 rfl
theorem atL_len{at':List VidM}{j m:Nat}(ha:at'.length=j)(hj:j≤m):(atL at' j m).length=m:=by unfold atL;rw [List.length_append,ha,List.length_replicate];omega
structure MidE (wr:World) (w0:World) (gK gA m j:Nat) (ks:List Int) (p:Option Addr) (c:Nat) (ops:List OpM) (at':List VidM):Prop where
 kept:ArrT wr gK 3 (keptV1 ks)
 names:ArrT wr gA 27 ((atL at' j m).flatMap encVid)
 own:GOwn encOp 8 96 wr w0.heap.size (.slice p ops.length c) ops
 below:Below w0.heap.size w0 wr
theorem MidE.over{wr w0 w2:World}{gK gA m j:Nat}{ks:List Int}{p:Option Addr}{c:Nat}{ops:List OpM}{at':List VidM}(h:MidE wr w0 gK gA m j ks p c ops at')(hb:Below wr.heap.size wr w2):MidE w2 w0 gK gA m j ks p c ops at':=
 ⟨h.kept.over hb,h.names.over hb,h.own.over hb,below_over h.below h.below.size hb⟩
section
variable {P : Program} {ty : TypeId} {size : Nat} {w : World} {ops : Array Oper} {rest : List Oper} {o : Oper} {a : Act} {Q : Exit → Act → World → Prop}
end
theorem vids_put{l:List VidM}{j:Nat}{v:VidM}(h:j<l.length):(l.flatMap encVid).take (j*3)++encVid v++(l.flatMap encVid).drop (j*3+(encVid v).length)=(l.set j v).flatMap encVid:=by
 rw [flat_set encVid_len l j v h,show(j+1)*3=j*3+(encVid v).length by rw [encVid_len];omega]
/-- a name more -/
theorem MidE.name{wr w' w0:World}{gK gA m j:Nat}{ks:List Int}{p:Option Addr}{c:Nat}{ops:List OpM}{at':List VidM}(h:MidE wr w0 gK gA m j ks p c ops at')(ha:at'.length=j)(hj:j<m)(hg:w0.heap.size≤gA)(hne:gK≠gA){v:VidM}
  (hA:ArrT w' gA 27 (((atL at' j m).flatMap encVid).take (j*3)++encVid v++((atL at' j m).flatMap encVid).drop (j*3+(encVid v).length))) (hgr:wr.grownBy w' (some gA)):MidE w' w0 gK gA m (j+1) ks p c ops (at'++[v]):=by
 rw [vids_put (by rw [atL_len ha (Nat.le_of_lt hj)];exact hj),atL_set ha hj] at hA
 exact⟨h.kept.kept hgr (fun e=>hne (Option.some.inj e)),hA,own_kept h.own hgr (h.names.ne h.own (by decide)),h.below.grown hgr h.below.size fun q hq=>by cases hq;exact hg⟩
/-- an operation more -/
theorem MidE.op{wr w0 w9:World}{gK gA m j:Nat}{ks:List Int}{p p9:Option Addr}{c c9:Nat}{ops ops9:List OpM}{at':List VidM}(h:MidE wr w0 gK gA m j ks p c ops at')(ho:GOwn encOp 8 96 w9 w0.heap.size (.slice p9 ops9.length c9) ops9)(hg:wr.grownBy w9 (Value.slice p ops.length c).ownBlock) :
  MidE w9 w0 gK gA m j ks p9 c9 ops9 at':=
 ⟨h.kept.kept hg (h.kept.ne h.own (by decide)),h.names.kept hg (h.names.ne h.own (by decide)),ho,below_grown h.below h.below.size h.own hg⟩
attribute [local irreducible] keptV1 textAt aliveX atL
end Go.Proofs.YtanfebljiblhbaaGreatDoor
namespace Go.Proofs.YtanfebljiblhbaaGreatDoor
open Go Go.RowKit

def ShV(w:World)(s:Option Addr)(l:List VertM)(R:List (Nat × Nat)):Prop:=(∃ b,s=some ⟨b,0,none⟩∧ShAt w b l R)∨(s=none∧l=[]∧R=[])
theorem ShV.over{w w':World}{s:Option Addr}{l:List VertM}{R:List (Nat × Nat)}(h:ShV w s l R)(hb:Below w.heap.size w w'):ShV w' s l R:=
 h.imp (fun⟨b,e,h⟩=>⟨b,e,h.over hb⟩) id
theorem svertV_any(s:Option Addr)(i:Nat)(x:VertM)(l:List VertM)(R:List (Nat × Nat))(w:World)(h:ShV w s l R)(hx:l[i]? = some x):Calls Tryz.prog 103 #[.pointer s,.int .i64 i] w (SvRes w x):=by
 rcases h with⟨b,rfl,h⟩|⟨rfl,rfl,rfl⟩
 ·
  exact svert_any b i x l R w h hx
 ·
  simp at hx
end Go.Proofs.YtanfebljiblhbaaGreatDoor
namespace Go.Proofs.YtanfebljiblhbaaGreatDoor
open Go Go.RowKit

def markA:ByteArray:=⟨#[60,60,60,60,60,60,60]⟩
def markS:ByteArray:=⟨#[61,61,61,61,61,61,61]⟩
def markT:ByteArray:=⟨#[124,124,124,124,124,124,124]⟩
def markE:ByteArray:=⟨#[62,62,62,62,62,62,62]⟩
mutual
/-- what is seen of a block -/
def seenOne(l:List VertM):BlkM→List ByteArray
 | .mk k n s=>if k=1 then(if 0≤n∧n<(l.length:Int) then [textAt l n.toNat] else []) else if k=4 then seenAll l s else if k=2 then markA :: (seenJoin l markS true s++[markE]) else if k=3 then markA :: (seenJoin l markT true s++[markE]) else []
def seenAll(l:List VertM):List BlkM→List ByteArray
 | []=>[]
 | b :: r=>seenOne l b++seenAll l r
def seenJoin(l:List VertM)(m:ByteArray)(first:Bool):List BlkM→List ByteArray
 | []=>[]
 | b :: r=>(if first then [] else [m])++(seenOne l b++seenJoin l m false r)
end
theorem seenOne_mk(l:List VertM)(k n:Int)(s:List BlkM):seenOne l (.mk k n s)=if k=1 then(if 0≤n∧n<(l.length:Int) then [textAt l n.toNat] else []) else if k=4 then seenAll l s else if k=2 then markA :: (seenJoin l markS true s++[markE]) else if k=3 then markA :: (seenJoin l markT true s++[markE]) else []:=by rw [seenOne]
theorem seenAll_nil(l:List VertM):seenAll l []=[]:=by rw [seenAll]
theorem seenAll_cons(l:List VertM)(b:BlkM)(r:List BlkM):seenAll l (b :: r)=seenOne l b++seenAll l r:=by rw [seenAll]
theorem seenAll_append(l:List VertM):∀ a b:List BlkM,seenAll l (a++b)=seenAll l a++seenAll l b
 | [],b=>by rw [List.nil_append,seenAll_nil,List.nil_append]
 | x :: a,b=>by rw [List.cons_append,seenAll_cons,seenAll_cons,seenAll_append l a b,List.append_assoc]
theorem seenAll_one(l:List VertM)(b:BlkM):seenAll l [b]=seenOne l b:=by rw [seenAll_cons,seenAll_nil,List.append_nil]
theorem seenJoin_nil(l:List VertM)(m:ByteArray)(f:Bool):seenJoin l m f []=[]:=by rw [seenJoin]
theorem seenJoin_cons(l:List VertM)(m:ByteArray)(f:Bool)(b:BlkM)(r:List BlkM):seenJoin l m f (b :: r)=(if f then [] else [m])++(seenOne l b++seenJoin l m false r):=by rw [seenJoin]
/-- one block more behind some -/
theorem seenJoin_snoc(l:List VertM)(m:ByteArray):∀(a:List BlkM) (f:Bool) (b:BlkM),seenJoin l m f (a++[b])=seenJoin l m f a++((if f && a.isEmpty then [] else [m])++seenOne l b)
 | [],f,b=>by rw [List.nil_append,seenJoin_cons,seenJoin_nil,seenJoin_nil];simp
 | x :: a,f,b=>by
  rw [List.cons_append,seenJoin_cons,seenJoin_cons,seenJoin_snoc l m a false b]
  simp
/-! ### Sheet.Vert -/
theorem slenV_any(s:Option Addr)(l:List VertM)(R:List (Nat × Nat))(w:World)(h:ShV w s l R):Calls Tryz.prog 163 #[.pointer s] w fun e w'=>e=.returned (.int .i64 l.length)∧w'=w:=by
 rcases h with⟨b,rfl,h⟩|⟨rfl,rfl,rfl⟩
 ·
  exact slen_any b l R w h
 ·
  go_enter Tryz.func163,Tryz.ntmps163
  go_wp2_with fail
  go_ret
  exact⟨rfl,rfl⟩
def SvNone(w:World)(e:Ending)(w':World):Prop:=e=.returned (.tuple #[vertV noVert,.bool false])∧Below w.heap.size w w'
theorem svnone_mk{w w':World}(h:Below w.heap.size w w'):SvNone w (.returned (.tuple #[vertV noVert,.bool false])) w':=⟨rfl,h⟩
set_option maxHeartbeats 8000000 in
set_option maxRecDepth 100000 in
theorem svertN_any(s:Option Addr)(i:Int)(l:List VertM)(R:List (Nat × Nat))(w:World)(h:ShV w s l R)(hi:¬ (0≤i∧i<(l.length:Int))):Calls Tryz.prog 103 #[.pointer s,.int .i64 i] w (SvNone w):=by
 have HH:=Lib.hid (h.over (below_new (w:=w) (.cells #[.int .u8 0,.int .u16 0,.int .u8 0,.int .u8 0,.int .u8 0,.int .u16 0,.int .u8 0,.string ⟨#[]⟩,.bool false] 86)))
 have HR:=Lib.hid (arr_new w #[.int .u8 0,.int .u16 0,.int .u8 0,.int .u8 0,.int .u8 0,.int .u16 0,.int .u8 0,.string ⟨#[]⟩,.bool false] 86)
 have HB:=Lib.hid (below_new (w:=w) (.cells #[.int .u8 0,.int .u16 0,.int .u8 0,.int .u8 0,.int .u8 0,.int .u16 0,.int .u8 0,.string ⟨#[]⟩,.bool false] 86))
 clear h
 by_cases h0:i<0
 ·
  have d1:decide (i<0)=true:=decide_eq_true h0
  clear hi
  go_enter Tryz.func103,Tryz.ntmps103
  go_upto_region 1 with(fail)
  generalize hw0:w.alloc (.cells #[.int .u8 0,.int .u16 0,.int .u8 0,.int .u8 0,.int .u8 0,.int .u16 0,.int .u8 0,.string ⟨#[]⟩,.bool false] 86)=w0 at *
  clear hw0
  go_wp2_with ((with_reducible show wpList _ _ _ ({dst:=_,op:=.store _ _ _,type:=_,pos:=_,after:=_,guard:=_} :: _) _ _);refine wpList_store_arr rowVert rfl _ _ rfl _ _ (encVert noVert) HR.out rfl rfl rfl rfl rfl ?_)
  exact bodyPost_ret (v:=.tuple #[vertV noVert,.bool false]) (results_arr_slot rowVert rfl (HR.out.row (encVert noVert)) rfl rfl rfl) rfl (svnone_mk (below_setRow HB.out (Nat.le_refl _) _))
 ·
  have d1:decide (i<0)=false:=decide_eq_false h0
  have d2:decide ((l.length:Int)≤i)=true:=decide_eq_true (by omega)
  have d3:(l.length:Int)≤i:=by omega
  clear hi
  go_enter Tryz.func103,Tryz.ntmps103
  go_upto_region 1 with(fail)
  generalize hw0:w.alloc (.cells #[.int .u8 0,.int .u16 0,.int .u8 0,.int .u8 0,.int .u8 0,.int .u16 0,.int .u8 0,.string ⟨#[]⟩,.bool false] 86)=w0 at *
  clear hw0
  go_wp2_with fail
  refine(slenV_any s l R _ HH.out).mono ?_
  rintro e w1 ⟨rfl,hw⟩
  obtain rfl:=hw.symm
  go_wp2_with ((with_reducible show wpList _ _ _ ({dst:=_,op:=.store _ _ _,type:=_,pos:=_,after:=_,guard:=_} :: _) _ _);refine wpList_store_arr rowVert rfl _ _ rfl _ _ (encVert noVert) HR.out rfl rfl rfl rfl rfl ?_)
  exact bodyPost_ret (v:=.tuple #[vertV noVert,.bool false]) (results_arr_slot rowVert rfl (HR.out.row (encVert noVert)) rfl rfl rfl) rfl (svnone_mk (below_setRow HB.out (Nat.le_refl _) _))
end Go.Proofs.YtanfebljiblhbaaGreatDoor
namespace Go.Proofs.YtanfebljiblhbaaGreatDoor
open Go Go.RowKit

/-- the texts seen so far, in their box; the sheet in its box -/
structure OutAt (wr w0:World) (go gs:Nat) (s:Option Addr) (p:Option Addr) (c:Nat) (out:List ByteArray):Prop where
 box:ArrT wr go 64 [.slice p out.length c]
 own:GOwn encS1 1 9 wr w0.heap.size (.slice p out.length c) out
 sheet:ArrT wr gs 78 [.pointer s]
 world:Below w0.heap.size w0 wr
theorem OutAt.over{wr w' w0:World}{go gs:Nat}{s p:Option Addr}{c:Nat}{out:List ByteArray}(h:OutAt wr w0 go gs s p c out)(hb:Below wr.heap.size wr w'):OutAt w' w0 go gs s p c out:=
 ⟨h.box.over hb,h.own.over hb,h.sheet.over hb,below_over h.world h.world.size hb⟩
theorem OutAt.ne{wr w0:World}{go gs:Nat}{s p:Option Addr}{c:Nat}{out:List ByteArray}(h:OutAt wr w0 go gs s p c out):gs≠go:=h.sheet.ne_type h.box (by decide)
/-- texts appended, and stored in the box -/
theorem OutAt.push{wr w6 w0:World}{go gs:Nat}{s p p6:Option Addr}{c c6:Nat}{out o1:List ByteArray}(h:OutAt wr w0 go gs s p c out)(hgo:w0.heap.size≤go)(_:w0.heap.size≤gs)
  (ho:GOwn encS1 1 9 w6 w0.heap.size (.slice p6 o1.length c6) o1) (hg:wr.grownBy w6 (Value.slice p out.length c).ownBlock):OutAt (w6.setCell ⟨go,0,none⟩ (.slice p6 o1.length c6)) w0 go gs s p6 c6 o1:=by
 have hb:=h.box.grown h.own (by decide) hg
 refine⟨hb.set 0 _,own_set ho (fun q=>hb.ne ho (by decide) q.symm) _ _,(h.sheet.grown h.own (by decide) hg).set_other h.ne _,(below_grown h.world h.world.size h.own hg).setCell hgo _⟩
theorem sown_moreS{w:World}{B:Nat}{v:Value}{out more o1:List ByteArray}(ho:o1=out++more)(h:w.ownsRow B 9 1 v (out.length+more.length) (out.flatMap encS1++more.flatMap encS1)):∃(p:Option Addr) (c:Nat),v=.slice p o1.length c∧GOwn encS1 1 9 w B v o1:=by
 have h2:GOwn encS1 1 9 w B v o1:=by
  subst ho;unfold GOwn;rw [List.length_append,List.flatMap_append];exact h
 obtain⟨p,c,e,_⟩:=h2.row.at encS1_len
 exact⟨p,c,e,h2⟩
theorem one_size{sub:List BlL}{x:BlL}(h:x∈sub):SizeOf.sizeOf [x]≤SizeOf.sizeOf sub:=by
 induction sub with
 | nil=>exact absurd h (List.not_mem_nil)
 | cons y r ih =>
  rcases List.mem_cons.1 h with rfl|h
  ·
   simp only [List.cons.sizeOf_spec,List.nil.sizeOf_spec]
   have:1≤SizeOf.sizeOf r:=by cases r <;> simp <;> omega
   omega
  ·
   have:=ih h
   simp only [List.cons.sizeOf_spec] at *
   omega
theorem join_succ(l:List VertM)(m:ByteArray){sub:List BlL}{j:Nat}{x:BlL}(h:sub[j]? = some x):seenJoin l m true (bareL (sub.take (j+1)))=seenJoin l m true (bareL (sub.take j))++((if j=0 then [] else [m])++seenOne l (bareB x)):=by
 have hj:=(List.getElem?_eq_some_iff.1 h).1
 rw [take_one h,bareL_snoc,seenJoin_snoc]
 congr 2
 cases j with
 | zero=>rw [List.take_zero,bareL_nil];rfl
 | succ j =>
  have:(bareL (sub.take (j+1))).isEmpty=false:=by
   rw [bareL_map];cases sub with
   | nil=>simp at hj
   | cons y r=>rfl
  rw [this];simp
theorem below_new_over{w w' w5:World}{o:Obj}(h:Below w.heap.size w w')(h5:Below w'.heap.size (w'.alloc o) w5):Below w.heap.size w w5:=(h.alloc h.size o).trans (h5.mono h.size)
theorem onesS(xs:List ByteArray):∀ u∈xs.flatMap encS1,u.oneCell'=true:=fun u hu=>by
 obtain⟨x,_,h⟩:=List.mem_flatMap.1 hu
 have:u=.string x:=by simpa [encS1] using h
 subst this;rfl
theorem join_le(l:List VertM)(m:ByteArray){sub:List BlL}{j:Nat}{x:BlL}(hj:j<sub.length)(h:sub[j]? = some x):(seenJoin l m true (bareL (sub.take j))).length+(seenOne l (bareB x)).length+(if j=0 then 0 else 1)≤(seenJoin l m true (bareL sub)).length:=by
 have key:∀ k,k≤sub.length→(seenJoin l m true (bareL (sub.take k))).length≤(seenJoin l m true (bareL sub)).length:=by
  intro k hk
  induction hd:sub.length - k generalizing k with
  | zero=>rw [List.take_of_length_le (by omega)];exact Nat.le_refl _
  | succ d ih =>
   have hk2:k<sub.length:=by omega
   have h1:=join_succ l m (x:=sub[k]) (List.getElem?_eq_getElem hk2)
   have h2:=ih (k+1) (by omega) (by omega)
   rw [h1,List.length_append] at h2;omega
 have h1:=key (j+1) hj
 rw [join_succ l m h,List.length_append,List.length_append] at h1
 by_cases h0:j=0
 ·
  rw [if_pos h0] at h1 ⊢;simp at h1;omega
 ·
  rw [if_neg h0] at h1 ⊢;simp at h1;omega
def ClRes(w0:World)(go gs:Nat)(s:Option Addr)(out:List ByteArray)(e:Ending)(w':World):Prop:=e=.returned (.tuple #[])∧∃ p c,OutAt w' w0 go gs s p c out
def JnRel(w0:World)(go gs:Nat)(s:Option Addr)(l:List VertM)(m:ByteArray)(out:List ByteArray)(sub:List BlL)(w1:World)(v14:Value)(wr:World):Prop:=∃(j:Nat) (p:Option Addr) (c:Nat),j≤sub.length∧v14=.int .i64 j∧∃ oj:List ByteArray,oj=out++[markA]++seenJoin l m true (bareL (sub.take j))∧Hid (OutAt wr w0 go gs s p c oj)
attribute [local irreducible] seenJoin seenAll seenOne bareL bareB
set_option maxHeartbeats 8000000 in
set_option maxRecDepth 100000 in
theorem oddFn_any(N:Nat)(l:List VertM)(R:List (Nat × Nat))(w0:World)(go gs:Nat)(s:Option Addr)(kd nm:Int)(sv:Value)(sub:List BlL)(m:ByteArray)(p:Option Addr)(c:Nat)(out:List ByteArray)(w:World)
  (hIH:∀(v:Value) (xs:List BlL) (W:World),SizeOf.sizeOf xs<N→GRow encBl 3 W v xs→BIns (fun _=>True) W xs→ShV W s l R→(seenAll l (bareL xs)).length≤1000000→Calls Tryz.prog 79 #[.pointer s,v] W (OwnRes encS1 1 9 W (seenAll l (bareL xs))))
  (hN:SizeOf.sizeOf sub<N) (hgo:w0.heap.size≤go) (hgs:w0.heap.size≤gs) (h:OutAt w w0 go gs s p c out) (hS:ShV w0 s l R) (hsub:GRow encBl 3 w0 sv sub) (hin:BIns (fun _=>True) w0 sub) (hlen:out.length+(seenJoin l m true (bareL sub)).length+2≤1000000) :
  Calls Tryz.prog 137 #[.agg #[.int .i64 kd,.int .i64 nm,sv],.string m,.pointer (some ⟨go,0,none⟩),.pointer (some ⟨gs,0,none⟩)] w (ClRes w0 go gs s (out++(markA :: (seenJoin l m true (bareL sub)++[markE])))):=by
 obtain⟨a,cap,rfl,h1,h2,hc⟩:=hsub.at encBl_len
 unfold maxLen at h2
 have HC:=Lib.hid hc
 have HIH:=Lib.hid hIH
 have HIn:=Lib.hid hin
 have HSh:=Lib.hid hS
 have HL:=Lib.hid hlen
 have HNn:=Lib.hid hN
 have HB:=Lib.hid (arr_new w #[.int .i64 kd,.int .i64 nm,.slice a sub.length cap] 183)
 have HBw:=Lib.hid (below_new (w:=w) (.cells #[.int .i64 kd,.int .i64 nm,.slice a sub.length cap] 183))
 have HBT:=Lib.hid (arrT_new w [.int .i64 kd,.int .i64 nm,.slice a sub.length cap] 183)
 have HO:=Lib.hid (h.over HBw.out)
 clear hsub hc hIH hin hS hN h
 go_enter Tryz.func137,Tryz.ntmps137
 go_upto_region 1 with(fail)
 generalize hw1:w.alloc (.cells #[.int .i64 kd,.int .i64 nm,.slice a sub.length cap] 183)=w1 at *
 clear hw1
 have q0:=HO.out.box.arr.cell (j:=0) rfl
 have q1:=HO.out.box.arr.free 0
 have sq:=HO.out.box.arr.lt
 have hBq:=HO.out.world.size
 have HOw:=Lib.hid HO.out.own
 have hNa:out.length+1≤1099511627776:=by omega
 obtain⟨o1,ho1⟩:∃ o1,o1=out++[markA]:=⟨_,rfl⟩
 have HO1:=Lib.hid ho1
 clear ho1
 go_upto_region 2 with((at_builtin;(first|refine wpList_append_newD slStrE rfl _ _ rfl w0.heap.size _ _ (drawn_alloc_drewN _ _ _) 1 _ _ _ HOw.out rfl rfl rfl rfl hNa (by decide) hBq ?_|refine wpList_append_newD slStrE rfl _ _ rfl w0.heap.size _ _ (drawn_drew _) 1 _ _ _ HOw.out rfl rfl rfl rfl hNa (by decide) hBq ?_|refine wpList_append_newD slStrE rfl _ _ rfl w0.heap.size _ _ (drawn_drewN _ _) 1 _ _ _ HOw.out rfl rfl rfl rfl hNa (by decide) hBq ?_|refine wpList_append_newD slStrE rfl _ _ rfl w0.heap.size _ _ (drawn_refl _) 1 _ _ _ HOw.out rfl rfl rfl rfl hNa (by decide) hBq ?_);intro va wa hoa hga);(obtain⟨pa,ca,ea,hOa⟩:=sown_moreS (more:=[markA]) HO1.out hoa);subst ea;have HPa:=Lib.hid (HO.out.push hgo hgs hOa hga);have b0:=(HO.out.box.grown HO.out.own (by decide) hga).arr.cell (j:=0) rfl;have b1:=(HO.out.box.grown HO.out.own (by decide) hga).arr.free 0;have b2:=(HO.out.box.grown HO.out.own (by decide) hga).arr.lt;have HGa:=Lib.hid hga;clear hoa hga hOa)
 have HBx:=Lib.hid ((HBT.out.grown HO.out.own (by decide) HGa.out).set_other (a:=⟨go,0,none⟩) (HBT.out.ne_type HO.out.box (by decide)) (.slice pa o1.length ca))
 generalize hw2:wa.setCell ⟨go,0,none⟩ (.slice pa o1.length ca)=w2 at *
 clear hw2 q0 q1 sq b0 b1 b2 hBq
 have y2:=HBx.out.arr.cell (j:=2) rfl
 have sy:=HBx.out.arr.lt
 go_wp2_with fail
 go_loopw [14] (fun v14 wr=>JnRel w0 go gs s l m out sub w2 v14 wr) (fun v14 _=>sub.length - (intOf v14).toNat)
 case atStart=>exact⟨0,pa,ca,Nat.zero_le _,rfl,o1,by rw [List.take_zero,bareL_nil,seenJoin_nil,List.append_nil];exact HO1.out,HPa⟩
 case round =>
  obtain⟨j,pj,cj,hj,rfl,oj,hoj,HJ⟩:=hrel
  rename World=>wr
  have HOj:=Lib.hid hoj
  clear hoj
  have HBj:=Lib.hid HJ.out.world
  by_cases hlt:j<sub.length
  ·
   obtain⟨bs,os,rfl,sbs,hcs⟩:=HC.out.resolve_left (by omega)
   obtain⟨⟨kx,nx,sx,ux⟩,hx⟩:=get_of_lt hlt
   have hr:=hcs j _ hx wr HJ.out.world
   have sxx:=hr.1
   have hm:=List.mem_of_getElem? hx
   have hxin:=bins_mem HIn.out hm
   obtain⟨ax,cpx,esx,_,_,_⟩:=(bin_mk.1 hxin).1.at encBl_len
   subst esx
   have x0:wr.cell? ⟨bs,os+j*3,none⟩=some (.int .i64 kx):=hr.2 0 _ rfl
   have x1:wr.cell? ⟨bs,os+j*3+1,none⟩=some (.int .i64 nx):=hr.2 1 _ rfl
   have x2:wr.cell? ⟨bs,os+j*3+2,none⟩=some (.slice ax ux.length cpx):=hr.2 2 _ rfl
   have HXi:=Lib.hid hxin
   have HX:=Lib.hid hx
   have HSz:Hid (SizeOf.sizeOf [BlL.mk kx nx (.slice ax ux.length cpx) ux]<N):=Lib.hid (by have:=one_size hm;have:=HNn.out;omega)
   have HSu:=Lib.hid (join_succ l m hx)
   clear hcs hx hr hm hxin
   go_upto_region 5 with(fail)
   have HTx:=Lib.hid (arrT_new wr [.int .i64 kx,.int .i64 nx,.slice ax ux.length cpx] 183)
   have HNx:=Lib.hid (below_new (w:=wr) (.cells #[.int .i64 kx,.int .i64 nx,.slice ax ux.length cpx] 183))
   have HJ1:=Lib.hid (HJ.out.over HNx.out)
   generalize hw3:wr.alloc (.cells #[.int .i64 kx,.int .i64 nx,.slice ax ux.length cpx] 183)=w3 at *
   clear hw3 x0 x1 x2 sxx
   obtain⟨sn,hsn⟩:∃ sn,seenOne l (bareB (.mk kx nx (.slice ax ux.length cpx) ux))=sn:=⟨_,rfl⟩
   have HSn:=Lib.hid hsn
   have hjl:=join_le l m hlt HX.out
   rw [hsn] at hjl
   have hol:=congrArg List.length HOj.out
   rw [List.length_append,List.length_append] at hol
   have hol1:([markA]:List ByteArray).length=1:=rfl
   have hob:oj.length+sn.length+1≤1000000:=by omega
   clear hol hol1 hjl
   have HCl:Hid (∀(W:World),Below w0.heap.size w0 W→Calls Tryz.prog 79 #[.pointer s,.slice (some ⟨W.heap.size,0,none⟩) 1 1] (W.alloc (.cells #[.int .i64 kx,.int .i64 nx,.slice ax ux.length cpx] 183)) (OwnRes encS1 1 9 (W.alloc (.cells #[.int .i64 kx,.int .i64 nx,.slice ax ux.length cpx] 183)) sn)):=Lib.hid fun W hW=>by
    have h9:=HIH.out (.slice (some ⟨W.heap.size,0,none⟩) 1 1) [.mk kx nx (.slice ax ux.length cpx) ux] (W.alloc (.cells #[.int .i64 kx,.int .i64 nx,.slice ax ux.length cpx] 183)) HSz.out (show GOwn encBl 3 183 (W.alloc (.cells #[.int .i64 kx,.int .i64 nx,.slice ax ux.length cpx] 183)) 0 (.slice (some ⟨W.heap.size,0,none⟩) 1 1) [.mk kx nx (.slice ax ux.length cpx) ux] from own_lit28s W 183 [BlL.mk kx nx (.slice ax ux.length cpx) ux] 0 rfl (by show 1≤maxLen;unfold maxLen;omega) (Nat.zero_le _)).row (bins_one ((HXi.out.over hW).over (below_new _))) ((HSh.out.over hW).over (below_new _)) (by rw [bareL_map,List.map_cons,List.map_nil,seenAll_one,HSn.out];omega)
    rw [bareL_map,List.map_cons,List.map_nil,seenAll_one,HSn.out] at h9
    exact h9
   have HCd:Hid (∀(W:World),Below w0.heap.size w0 W→Calls Tryz.prog 79 #[.pointer s,.slice (some ⟨W.heap.size,0,none⟩) 1 1] (W.alloc (.cells #[.int .i64 kx,.int .i64 nx,.slice ax ux.length cpx] 183)).drew (OwnRes encS1 1 9 (W.alloc (.cells #[.int .i64 kx,.int .i64 nx,.slice ax ux.length cpx] 183)).drew sn)):=Lib.hid fun W hW=>HCl.out W.drew hW.drew
   clear hsn
   by_cases hj0:j=0
   ·
    have g0:decide ((j:Int) > 0)=false:=decide_eq_false (by omega)
    have g1:¬ 0<j:=by omega
    have u0:=HJ1.out.box.arr.cell (j:=0) rfl
    have u1:=HJ1.out.sheet.arr.cell (j:=0) rfl
    have us:=HJ1.out.box.arr.lt
    have ut:=HJ1.out.sheet.arr.lt
    have t0:=HTx.out.arr.cell (j:=0) rfl
    have t1:=HTx.out.arr.cell (j:=1) rfl
    have t2:=HTx.out.arr.cell (j:=2) rfl
    have tl:=HTx.out.arr.lt
    have HBW:=Lib.hid HJ1.out.world
    go_upto_region 7 with(fail)
    have hcur:Below w3.heap.size w3 w3.drew:=(Below.refl _ _).drew
    refine wp_region_lex (C:=IsOver w3) 5 [] (by kernel_rfl) (by kernel_rfl) (isOver_of hcur) ?_
    simp only [List.take_succ_cons,List.take_zero,List.drop_succ_cons,List.drop_zero]
    repeat(first|(refine lex_skip rfl rfl ?_;simp only [Act.put,List.setIfInBounds_toArray,List.set_cons_succ,List.set_cons_zero])|(refine lex_one rfl ?_;go_big_quiet_step (fail);refine wpQuiet_nil ?_)|(refine lex_loud rfl ?_;go_wp2_with (first|(go_at_call 79;(with_reducible first|refine(HCl.out _ (below_over HBW.out HBW.out.size hcur)).mono ?_|refine(HCd.out _ HBW.out).mono ?_);rintro e w5 ⟨v5,rfl,ho5,hb5⟩;have HO5:=Lib.hid ho5;replace hcur:Below w3.heap.size w3 w5:=below_new_over hcur (by first|exact hb5|exact hb5.mono (by simp));clear ho5 hb5));refine⟨isOver_of (by first|exact hcur|exact hcur.alloc hcur.size _),?_⟩))
    refine lex_end ?_
    have H5:=Lib.hid (HJ1.out.over hcur)
    clear hcur u0 u1 us ut t0 t1 t2 tl
    obtain⟨o7,ho7⟩:∃ o7,o7=oj++sn:=⟨_,rfl⟩
    have HO7:=Lib.hid ho7
    have HR5:=Lib.hid HO5.out.row
    have HOw5:=Lib.hid H5.out.own
    have hN5:oj.length+sn.length≤1099511627776:=by omega
    have hB5:=H5.out.world.size
    clear ho7
    go_wp2_with (at_builtin;refine wpList_append_old slStrE rfl _ _ rfl w0.heap.size _ _ _ HOw5.out rfl _ _ _ HR5.out rfl (onesS _) hN5 (by decide) hB5 ?_;intro v7 w7 ho7 hg7;(obtain⟨p7,c7,e7,hO7⟩:=sown_moreS (more:=sn) HO7.out ho7);subst e7;have HP7:=Lib.hid (H5.out.push hgo hgs hO7 hg7);have z0:=(H5.out.box.grown H5.out.own (by decide) hg7).arr.cell (j:=0) rfl;have z1:=(H5.out.box.grown H5.out.own (by decide) hg7).arr.free 0;have z2:=(H5.out.box.grown H5.out.own (by decide) hg7).arr.lt;clear ho7 hg7 hO7)
    go_roundw
    case rel=>exact⟨j+1,p7,c7,hlt,by go_num,o7,by rw [HO7.out,HOj.out,HSu.out,HSn.out,if_pos hj0,List.nil_append,List.append_assoc],HP7⟩
    case measure=>simp [intOf];omega
   ·
    have g0:decide ((j:Int) > 0)=true:=decide_eq_true (by omega)
    have g1:0<j:=by omega
    have q0:=HJ1.out.box.arr.cell (j:=0) rfl
    have q1:=HJ1.out.box.arr.free 0
    have sq:=HJ1.out.box.arr.lt
    have hB3:=HJ1.out.world.size
    have HOw3:=Lib.hid HJ1.out.own
    have hN3:oj.length+1≤1099511627776:=by omega
    obtain⟨o6,ho6⟩:∃ o6,o6=oj++[m]:=⟨_,rfl⟩
    have hl6:=congrArg List.length ho6
    rw [List.length_append] at hl6
    have hl7:([m]:List ByteArray).length=1:=rfl
    have hl8:o6.length+sn.length≤1000000:=by omega
    clear hl6 hl7
    have HO6:=Lib.hid ho6
    clear ho6
    go_upto_region 7 with((at_builtin;(first|refine wpList_append_newD slStrE rfl _ _ rfl w0.heap.size _ _ (drawn_alloc_drewN _ _ _) 1 _ _ _ HOw3.out rfl rfl rfl rfl hN3 (by decide) hB3 ?_|refine wpList_append_newD slStrE rfl _ _ rfl w0.heap.size _ _ (drawn_drew _) 1 _ _ _ HOw3.out rfl rfl rfl rfl hN3 (by decide) hB3 ?_|refine wpList_append_newD slStrE rfl _ _ rfl w0.heap.size _ _ (drawn_drewN _ _) 1 _ _ _ HOw3.out rfl rfl rfl rfl hN3 (by decide) hB3 ?_|refine wpList_append_newD slStrE rfl _ _ rfl w0.heap.size _ _ (drawn_refl _) 1 _ _ _ HOw3.out rfl rfl rfl rfl hN3 (by decide) hB3 ?_);intro v6 w6 ho6 hg6);(obtain⟨p6,c6,e6,hO6⟩:=sown_moreS (more:=[m]) HO6.out ho6);subst e6;have HP6:=Lib.hid (HJ1.out.push hgo hgs hO6 hg6);have HT6:=Lib.hid (((HTx.out.grown HJ1.out.own (by decide) hg6).set_other (a:=⟨go,0,none⟩) (HTx.out.ne_type HJ1.out.box (by decide)) (.slice p6 o6.length c6)));have z0:=(HJ1.out.box.grown HJ1.out.own (by decide) hg6).arr.cell (j:=0) rfl;have z1:=(HJ1.out.box.grown HJ1.out.own (by decide) hg6).arr.free 0;have z2:=(HJ1.out.box.grown HJ1.out.own (by decide) hg6).arr.lt;clear ho6 hg6 hO6)
    generalize hw4:w6.setCell ⟨go,0,none⟩ (.slice p6 o6.length c6)=w4 at *
    clear hw4 q0 q1 sq z0 z1 z2 hB3
    have u0:=HP6.out.box.arr.cell (j:=0) rfl
    have u1:=HP6.out.sheet.arr.cell (j:=0) rfl
    have us:=HP6.out.box.arr.lt
    have ut:=HP6.out.sheet.arr.lt
    have t0:=HT6.out.arr.cell (j:=0) rfl
    have t1:=HT6.out.arr.cell (j:=1) rfl
    have t2:=HT6.out.arr.cell (j:=2) rfl
    have tl:=HT6.out.arr.lt
    have HBW:=Lib.hid HP6.out.world
    go_upto_region 7 with(fail)
    have hcur:Below w4.heap.size w4 w4.drew:=(Below.refl _ _).drew
    refine wp_region_lex (C:=IsOver w4) 5 [] (by kernel_rfl) (by kernel_rfl) (isOver_of hcur) ?_
    simp only [List.take_succ_cons,List.take_zero,List.drop_succ_cons,List.drop_zero]
    repeat(first|(refine lex_skip rfl rfl ?_;simp only [Act.put,List.setIfInBounds_toArray,List.set_cons_succ,List.set_cons_zero])|(refine lex_one rfl ?_;go_big_quiet_step (fail);refine wpQuiet_nil ?_)|(refine lex_loud rfl ?_;go_wp2_with (first|(go_at_call 79;(with_reducible first|refine(HCl.out _ (below_over HBW.out HBW.out.size hcur)).mono ?_|refine(HCd.out _ HBW.out).mono ?_);rintro e w5 ⟨v5,rfl,ho5,hb5⟩;have HO5:=Lib.hid ho5;replace hcur:Below w4.heap.size w4 w5:=below_new_over hcur (by first|exact hb5|exact hb5.mono (by simp));clear ho5 hb5));refine⟨isOver_of (by first|exact hcur|exact hcur.alloc hcur.size _),?_⟩))
    refine lex_end ?_
    have H5:=Lib.hid (HP6.out.over hcur)
    clear hcur u0 u1 us ut t0 t1 t2 tl
    obtain⟨o7,ho7⟩:∃ o7,o7=o6++sn:=⟨_,rfl⟩
    have HO7:=Lib.hid ho7
    have HR5:=Lib.hid HO5.out.row
    have HOw5:=Lib.hid H5.out.own
    have hN5:o6.length+sn.length≤1099511627776:=by omega
    have hB5:=H5.out.world.size
    clear ho7
    go_wp2_with (at_builtin;refine wpList_append_old slStrE rfl _ _ rfl w0.heap.size _ _ _ HOw5.out rfl _ _ _ HR5.out rfl (onesS _) hN5 (by decide) hB5 ?_;intro v7 w7 ho7 hg7;(obtain⟨p7,c7,e7,hO7⟩:=sown_moreS (more:=sn) HO7.out ho7);subst e7;have HP7:=Lib.hid (H5.out.push hgo hgs hO7 hg7);have z0:=(H5.out.box.grown H5.out.own (by decide) hg7).arr.cell (j:=0) rfl;have z1:=(H5.out.box.grown H5.out.own (by decide) hg7).arr.free 0;have z2:=(H5.out.box.grown H5.out.own (by decide) hg7).arr.lt;clear ho7 hg7 hO7)
    go_roundw
    case rel=>exact⟨j+1,p7,c7,hlt,by go_num,o7,by rw [HO7.out,HO6.out,HOj.out,HSu.out,HSn.out,if_neg hj0];simp only [List.append_assoc],HP7⟩
    case measure=>simp [intOf];omega
  ·
   obtain rfl:j=sub.length:=by omega
   have q0:=HJ.out.box.arr.cell (j:=0) rfl
   have q1:=HJ.out.box.arr.free 0
   have sq:=HJ.out.box.arr.lt
   have hB9:=HJ.out.world.size
   have HOw9:=Lib.hid HJ.out.own
   have hol:=congrArg List.length HOj.out
   rw [List.take_length,List.length_append,List.length_append] at hol
   have hol1:([markA]:List ByteArray).length=1:=rfl
   have hN9:oj.length+1≤1099511627776:=by omega
   obtain⟨o9,ho9⟩:∃ o9,o9=oj++[markE]:=⟨_,rfl⟩
   have HO9:=Lib.hid ho9
   have HFin:Hid (out++(markA :: (seenJoin l m true (bareL sub)++[markE]))=o9):=Lib.hid (by rw [HO9.out,HOj.out,List.take_length];simp)
   clear hol hol1 ho9
   go_wp2_with ((at_builtin;(first|refine wpList_append_newD slStrE rfl _ _ rfl w0.heap.size _ _ (drawn_alloc_drewN _ _ _) 1 _ _ _ HOw9.out rfl rfl rfl rfl hN9 (by decide) hB9 ?_|refine wpList_append_newD slStrE rfl _ _ rfl w0.heap.size _ _ (drawn_drew _) 1 _ _ _ HOw9.out rfl rfl rfl rfl hN9 (by decide) hB9 ?_|refine wpList_append_newD slStrE rfl _ _ rfl w0.heap.size _ _ (drawn_drewN _ _) 1 _ _ _ HOw9.out rfl rfl rfl rfl hN9 (by decide) hB9 ?_|refine wpList_append_newD slStrE rfl _ _ rfl w0.heap.size _ _ (drawn_refl _) 1 _ _ _ HOw9.out rfl rfl rfl rfl hN9 (by decide) hB9 ?_);intro v9 w9 ho9 hg9);(obtain⟨p9,c9,e9,hO9⟩:=sown_moreS (more:=[markE]) HO9.out ho9);subst e9;have HP9:=Lib.hid (HJ.out.push hgo hgs hO9 hg9);have z0:=(HJ.out.box.grown HJ.out.own (by decide) hg9).arr.cell (j:=0) rfl;have z1:=(HJ.out.box.grown HJ.out.own (by decide) hg9).arr.free 0;have z2:=(HJ.out.box.grown HJ.out.own (by decide) hg9).arr.lt;clear ho9 hg9 hO9)
   refine bodyPost_end (results_none rfl _ _ _) rfl ?_
   exact⟨rfl,p9,c9,by rw [HFin.out];exact HP9.out⟩
end Go.Proofs.YtanfebljiblhbaaGreatDoor
namespace Go.Proofs.YtanfebljiblhbaaGreatDoor
open Go Go.RowKit

theorem bareB_mk(k n:Int)(sv:Value)(s:List BlL):bareB (.mk k n sv s)=.mk k n (bareL s):=by unfold bareB;rfl
theorem seen_succ(l:List VertM){xs:List BlL}{j:Nat}{x:BlL}(h:xs[j]? = some x):seenAll l (bareL (xs.take (j+1)))=seenAll l (bareL (xs.take j))++seenOne l (bareB x):=by
 rw [take_one h,bareL_snoc,seenAll_append,seenAll_one]
theorem seen_le(l:List VertM){xs:List BlL}(j:Nat):(seenAll l (bareL (xs.take j))).length≤(seenAll l (bareL xs)).length:=by
 have h:bareL xs=bareL (xs.take j)++bareL (xs.drop j):=by rw [bareL_map,bareL_map,bareL_map,← List.map_append,List.take_append_drop]
 rw [h,seenAll_append,List.length_append];omega
def BkRel(w:World)(go gs:Nat)(s:Option Addr)(l:List VertM)(xs:List BlL)(v14:Value)(wr:World):Prop:=∃(j:Nat) (p:Option Addr) (c:Nat),j≤xs.length∧v14=.int .i64 j∧∃ oj:List ByteArray,oj=seenAll l (bareL (xs.take j))∧Hid (OutAt wr w go gs s p c oj)
attribute [local irreducible] seenJoin seenAll seenOne bareL bareB
set_option maxHeartbeats 16000000 in
set_option maxRecDepth 100000 in
theorem blocks_any(l:List VertM)(R:List (Nat × Nat))(s:Option Addr):∀(N:Nat) (v:Value) (xs:List BlL) (w:World),SizeOf.sizeOf xs<N→GRow encBl 3 w v xs→BIns (fun _=>True) w xs→ShV w s l R→(seenAll l (bareL xs)).length≤1000000 →
  Calls Tryz.prog 79 #[.pointer s,v] w (OwnRes encS1 1 9 w (seenAll l (bareL xs)))
 | 0,v,xs,w,hs,_,_,_,_=>absurd hs (Nat.not_lt_zero _)
 | N+1,v,xs,w,hs,hv,hi,hS,hlen=>by
  have HIH:=Lib.hid (blocks_any l R s N)
  obtain⟨a,cap,rfl,h1,h2,hc⟩:=hv.at encBl_len
  unfold maxLen at h2
  have HC:=Lib.hid hc
  have HI:=Lib.hid hi
  have HSh:=Lib.hid hS
  have HS:=Lib.hid hs
  have HLn:=Lib.hid hlen
  have HSb:=Lib.hid (arrT_new w [.pointer s] 78)
  have HN1:=Lib.hid (below_new (w:=w) (.cells #[.pointer s] 78))
  clear hv hi hc hs hS hlen
  go_enter Tryz.func79,Tryz.ntmps79
  go_upto_region 2 with(fail)
  have HOb:=Lib.hid (arrT_new (w.alloc (.cells #[.pointer s] 78)) [.slice none 0 0] 64)
  have HN2:=Lib.hid (below_new (w:=w.alloc (.cells #[.pointer s] 78)) (.cells #[.slice none 0 0] 64))
  have hgo:(w.alloc (.cells #[.pointer s] 78)).heap.size=w.heap.size+1:=by simp
  have H0:Hid (OutAt ((w.alloc (.cells #[.pointer s] 78)).alloc (.cells #[.slice none 0 0] 64)) w (w.heap.size+1) w.heap.size s none 0 []):=Lib.hid ⟨by have:=HOb.out;rw [hgo] at this;exact this,gown_nil _ _,HSb.out.over HN2.out,below_over HN1.out HN1.out.size HN2.out⟩
  generalize hw0:(w.alloc (.cells #[.pointer s] 78)).alloc (.cells #[.slice none 0 0] 64)=w0 at *
  clear hw0 hgo
  go_wp2_with fail
  go_loopw [14] (fun v14 wr=>BkRel w (w.heap.size+1) w.heap.size s l xs v14 wr) (fun v14 _=>xs.length - (intOf v14).toNat)
  case atStart=>exact⟨0,none,0,Nat.zero_le _,rfl,[],by rw [List.take_zero,bareL_nil,seenAll_nil],H0⟩
  case round =>
   obtain⟨j,pj,cj,hj,rfl,oj,hoj,HJ⟩:=hrel
   rename World=>wr
   have HOj:=Lib.hid hoj
   by_cases hlt:j<xs.length
   ·
    obtain⟨b,off,rfl,sb,hcb⟩:=HC.out.resolve_left (by omega)
    obtain⟨⟨kd,nm,sv,sub⟩,hx⟩:=get_of_lt hlt
    have hr:=hcb j _ hx wr HJ.out.world
    have sx:=hr.1
    have hm:=List.mem_of_getElem? hx
    have hin:=bin_mk.1 (bins_mem HI.out hm)
    obtain⟨a',cap',esv,_,_,_⟩:=hin.1.at encBl_len
    subst esv
    have x0:wr.cell? ⟨b,off+j*3,none⟩=some (.int .i64 kd):=hr.2 0 _ rfl
    have x1:wr.cell? ⟨b,off+j*3+1,none⟩=some (.int .i64 nm):=hr.2 1 _ rfl
    have x2:wr.cell? ⟨b,off+j*3+2,none⟩=some (.slice a' sub.length cap'):=hr.2 2 _ rfl
    have HSub:=Lib.hid hin.1
    have HSin:=Lib.hid hin.2.2.2
    have HSz:Hid (SizeOf.sizeOf sub<N):=Lib.hid (by have:=size_sub hm;have:=HS.out;omega)
    have HSu:=Lib.hid (seen_succ l hx)
    have hlj:oj.length+(seenOne l (bareB (.mk kd nm (.slice a' sub.length cap') sub))).length≤1000000:=by
     have h9:=seen_le l (xs:=xs) (j+1)
     rw [HSu.out,List.length_append,← hoj] at h9
     have:=HLn.out;omega
    clear hcb hx hr hin hm hoj
    by_cases k2:kd=2
    ·
     subst k2
     go_upto_region 6 with(fail)
     have HK:=Lib.hid (arr_new wr #[.int .i64 2,.int .i64 nm,.slice a' sub.length cap'] 183)
     have HNw:=Lib.hid (below_new (w:=wr) (.cells #[.int .i64 2,.int .i64 nm,.slice a' sub.length cap'] 183))
     have HJ1:=Lib.hid (HJ.out.over HNw.out)
     generalize hw3:wr.alloc (.cells #[.int .i64 2,.int .i64 nm,.slice a' sub.length cap'] 183)=w3 at *
     clear hw3 x0 x1 x2 sx
     have hgl:=HJ1.out.box.arr.lt
     have hsl:=HJ1.out.sheet.arr.lt
     have r0:=HJ1.out.box.arr.cell (j:=0) rfl
     have r1:=HJ1.out.sheet.arr.cell (j:=0) rfl
     have y0:=HK.out.cell (j:=0) rfl
     have y1:=HK.out.cell (j:=1) rfl
     have y2:=HK.out.cell (j:=2) rfl
     have sy:=HK.out.lt
     have HMk:Hid (seenOne l (bareB (.mk 2 nm (.slice a' sub.length cap') sub))=markA :: (seenJoin l markS true (bareL sub)++[markE])):=Lib.hid (by rw [bareB_mk,seenOne_mk];simp)
     have hlen2:oj.length+(seenJoin l markS true (bareL sub)).length+2≤1000000:=by
      have h9:=hlj
      rw [HMk.out] at h9
      simp only [List.length_cons,List.length_append,List.length_nil] at h9
      omega
     go_wp2_with fail
     refine(oddFn_any N l R w _ _ s 2 nm (.slice a' sub.length cap') sub markS pj cj oj _ HIH.out HSz.out (by omega) (by omega) HJ1.out HSh.out HSub.out HSin.out hlen2).mono ?_
     rintro e w5 ⟨rfl,p5,c5,h5⟩
     have H5:=Lib.hid h5
     clear h5
     go_wp2_with fail
     go_roundw
     case rel=>exact⟨j+1,p5,c5,hlt,by go_num,_,by rw [HSu.out,HOj.out,HMk.out],H5⟩
     case measure=>simp [intOf];omega
    ·
     by_cases k3:kd=3
     ·
      subst k3
      go_upto_region 6 with(fail)
      have HK:=Lib.hid (arr_new wr #[.int .i64 3,.int .i64 nm,.slice a' sub.length cap'] 183)
      have HNw:=Lib.hid (below_new (w:=wr) (.cells #[.int .i64 3,.int .i64 nm,.slice a' sub.length cap'] 183))
      have HJ1:=Lib.hid (HJ.out.over HNw.out)
      generalize hw3:wr.alloc (.cells #[.int .i64 3,.int .i64 nm,.slice a' sub.length cap'] 183)=w3 at *
      clear hw3 x0 x1 x2 sx
      have hgl:=HJ1.out.box.arr.lt
      have hsl:=HJ1.out.sheet.arr.lt
      have r0:=HJ1.out.box.arr.cell (j:=0) rfl
      have r1:=HJ1.out.sheet.arr.cell (j:=0) rfl
      have y0:=HK.out.cell (j:=0) rfl
      have y1:=HK.out.cell (j:=1) rfl
      have y2:=HK.out.cell (j:=2) rfl
      have sy:=HK.out.lt
      have HMk:Hid (seenOne l (bareB (.mk 3 nm (.slice a' sub.length cap') sub))=markA :: (seenJoin l markT true (bareL sub)++[markE])):=Lib.hid (by rw [bareB_mk,seenOne_mk];simp)
      have hlen2:oj.length+(seenJoin l markT true (bareL sub)).length+2≤1000000:=by
       have h9:=hlj
       rw [HMk.out] at h9
       simp only [List.length_cons,List.length_append,List.length_nil] at h9
       omega
      go_wp2_with fail
      refine(oddFn_any N l R w _ _ s 3 nm (.slice a' sub.length cap') sub markT pj cj oj _ HIH.out HSz.out (by omega) (by omega) HJ1.out HSh.out HSub.out HSin.out hlen2).mono ?_
      rintro e w5 ⟨rfl,p5,c5,h5⟩
      have H5:=Lib.hid h5
      clear h5
      go_wp2_with fail
      go_roundw
      case rel=>exact⟨j+1,p5,c5,hlt,by go_num,_,by rw [HSu.out,HOj.out,HMk.out],H5⟩
      case measure=>simp [intOf];omega
     ·
      by_cases k4:kd=4
      ·
       subst k4
       go_upto_region 6 with(fail)
       have HK:=Lib.hid (arr_new wr #[.int .i64 4,.int .i64 nm,.slice a' sub.length cap'] 183)
       have HNw:=Lib.hid (below_new (w:=wr) (.cells #[.int .i64 4,.int .i64 nm,.slice a' sub.length cap'] 183))
       have HJ1:=Lib.hid (HJ.out.over HNw.out)
       generalize hw3:wr.alloc (.cells #[.int .i64 4,.int .i64 nm,.slice a' sub.length cap'] 183)=w3 at *
       clear hw3 x0 x1 x2 sx
       have hgl:=HJ1.out.box.arr.lt
       have hsl:=HJ1.out.sheet.arr.lt
       have r0:=HJ1.out.box.arr.cell (j:=0) rfl
       have r1:=HJ1.out.sheet.arr.cell (j:=0) rfl
       have y0:=HK.out.cell (j:=0) rfl
       have y1:=HK.out.cell (j:=1) rfl
       have y2:=HK.out.cell (j:=2) rfl
       have sy:=HK.out.lt
       have HM4:Hid (seenOne l (bareB (.mk 4 nm (.slice a' sub.length cap') sub))=seenAll l (bareL sub)):=Lib.hid (by rw [bareB_mk,seenOne_mk];simp)
       rw [HM4.out] at hlj
       have HCl:Hid (∀(W:World),Below w3.heap.size w3 W→Calls Tryz.prog 79 #[.pointer s,.slice a' sub.length cap'] W (OwnRes encS1 1 9 W (seenAll l (bareL sub)))):=Lib.hid fun W hW=>HIH.out _ sub W HSz.out (HSub.out.over (below_over HJ1.out.world HJ1.out.world.size hW)) (HSin.out.over (below_over HJ1.out.world HJ1.out.world.size hW)) (HSh.out.over (below_over HJ1.out.world HJ1.out.world.size hW)) (by omega)
       obtain⟨sn,hsn⟩:∃ sn,seenAll l (bareL sub)=sn:=⟨_,rfl⟩
       rw [hsn] at HCl HM4 hlj
       clear hsn
       go_upto_region 12 with(fail)
       have hcur:Below w3.heap.size w3 w3.drew:=(Below.refl _ _).drew
       refine wp_region_lex (C:=IsOver w3) 5 [] (by kernel_rfl) (by kernel_rfl) (isOver_of hcur) ?_
       simp only [List.take_succ_cons,List.take_zero,List.drop_succ_cons,List.drop_zero]
       repeat(first|(refine lex_skip rfl rfl ?_;simp only [Act.put,List.setIfInBounds_toArray,List.set_cons_succ,List.set_cons_zero])|(refine lex_one rfl ?_;go_big_quiet_step (fail);refine wpQuiet_nil ?_)|(refine lex_loud rfl ?_;go_wp2_with (first|(go_at_call 79;(with_reducible refine(HCl.out _ hcur).mono ?_);rintro e w5 ⟨v5,rfl,ho5,hb5⟩;have HO5:=Lib.hid ho5;replace hcur:=below_over hcur hcur.size hb5;clear ho5 hb5));refine⟨isOver_of (by first|exact hcur|exact hcur.alloc hcur.size _),?_⟩))
       refine lex_end ?_
       have H5:=Lib.hid (HJ1.out.over hcur)
       clear hcur r0 r1 hgl hsl y0 y1 y2 sy
       obtain⟨o7,ho7⟩:∃ o7,o7=oj++sn:=⟨_,rfl⟩
       have HO7:=Lib.hid ho7
       have HR5:=Lib.hid HO5.out.row
       have HOw5:=Lib.hid H5.out.own
       have hN5:oj.length+sn.length≤1099511627776:=by omega
       have hB5:=H5.out.world.size
       clear ho7
       go_wp2_with (at_builtin;refine wpList_append_old slStrE rfl _ _ rfl w.heap.size _ _ _ HOw5.out rfl _ _ _ HR5.out rfl (onesS _) hN5 (by decide) hB5 ?_;intro v7 w7 ho7 hg7;(obtain⟨p7,c7,e7,hO7⟩:=sown_moreS (more:=sn) HO7.out ho7);subst e7;have HP7:=Lib.hid (H5.out.push (by omega) (by omega) hO7 hg7);have z0:=(H5.out.box.grown H5.out.own (by decide) hg7).arr.cell (j:=0) rfl;have z1:=(H5.out.box.grown H5.out.own (by decide) hg7).arr.free 0;have z2:=(H5.out.box.grown H5.out.own (by decide) hg7).arr.lt;clear ho7 hg7 hO7)
       go_roundw
       case rel=>exact⟨j+1,p7,c7,hlt,by go_num,o7,by rw [HSu.out,← HOj.out,HM4.out];exact HO7.out,HP7⟩
       case measure=>simp [intOf];omega
      ·
       by_cases k1:kd=1
       ·
        subst k1
        go_upto_region 6 with(fail)
        have HK:=Lib.hid (arr_new wr #[.int .i64 1,.int .i64 nm,.slice a' sub.length cap'] 183)
        have HNw:=Lib.hid (below_new (w:=wr) (.cells #[.int .i64 1,.int .i64 nm,.slice a' sub.length cap'] 183))
        have HJ1:=Lib.hid (HJ.out.over HNw.out)
        generalize hw3:wr.alloc (.cells #[.int .i64 1,.int .i64 nm,.slice a' sub.length cap'] 183)=w3 at *
        clear hw3 x0 x1 x2 sx
        have hgl:=HJ1.out.box.arr.lt
        have hsl:=HJ1.out.sheet.arr.lt
        have r0:=HJ1.out.box.arr.cell (j:=0) rfl
        have r1:=HJ1.out.sheet.arr.cell (j:=0) rfl
        have y0:=HK.out.cell (j:=0) rfl
        have y1:=HK.out.cell (j:=1) rfl
        have y2:=HK.out.cell (j:=2) rfl
        have sy:=HK.out.lt
        by_cases hv1:0≤nm∧nm<(l.length:Int)
        ·
         skip
         obtain⟨i,rfl⟩:∃ i:Nat,nm=(i:Int):=⟨nm.toNat,by omega⟩
         obtain⟨x,hx⟩:=get_of_lt (xs:=l) (i:=i) (by omega)
         have HM1:Hid (seenOne l (bareB (.mk 1 (i:Int) (.slice a' sub.length cap') sub))=[x.text]):=Lib.hid (by rw [bareB_mk,seenOne_mk,if_pos rfl,if_pos hv1,Int.toNat_natCast,textAt_get hx])
         rw [HM1.out] at hlj
         have hl1:([x.text]:List ByteArray).length=1:=rfl
         have hN5:oj.length+1≤1099511627776:=by omega
         have HX:=Lib.hid hx
         clear hl1 hlj hx hv1
         go_wp2_with fail
         refine(svertV_any s i x l R _ (HSh.out.over HJ1.out.world) HX.out).mono ?_
         rintro e w4 ⟨rfl,hb4⟩
         have HJ4:=Lib.hid (HJ1.out.over hb4)
         clear hb4 r0 r1 hgl hsl y0 y1 y2 sy
         go_upto_region 9 with(fail)
         have HV:=Lib.hid (arr_new w4 #[.int .u8 x.id.pid.author.toNat,.int .u16 x.id.pid.seq.toNat,.int .u8 x.id.n.toNat,.int .u8 x.kind.toNat,.int .u8 x.file.pid.author.toNat,.int .u16 x.file.pid.seq.toNat,.int .u8 x.file.n.toNat,.string x.text,.bool x.dead] 86)
         have HJ5:=Lib.hid (HJ4.out.over (below_new (w:=w4) (.cells #[.int .u8 x.id.pid.author.toNat,.int .u16 x.id.pid.seq.toNat,.int .u8 x.id.n.toNat,.int .u8 x.kind.toNat,.int .u8 x.file.pid.author.toNat,.int .u16 x.file.pid.seq.toNat,.int .u8 x.file.n.toNat,.string x.text,.bool x.dead] 86)))
         generalize hw5:w4.alloc (.cells #[.int .u8 x.id.pid.author.toNat,.int .u16 x.id.pid.seq.toNat,.int .u8 x.id.n.toNat,.int .u8 x.kind.toNat,.int .u8 x.file.pid.author.toNat,.int .u16 x.file.pid.seq.toNat,.int .u8 x.file.n.toNat,.string x.text,.bool x.dead] 86)=w5 at *
         clear hw5
         have t7:=HV.out.cell (j:=7) rfl
         have ts:=HV.out.lt
         have r0:=HJ5.out.box.arr.cell (j:=0) rfl
         have r2:=HJ5.out.box.arr.free 0
         have hgl:=HJ5.out.box.arr.lt
         have hB5:=HJ5.out.world.size
         have HOw5:=Lib.hid HJ5.out.own
         obtain⟨o7,ho7⟩:∃ o7,o7=oj++[x.text]:=⟨_,rfl⟩
         have HO7:=Lib.hid ho7
         clear ho7
         go_wp2_with ((at_builtin;(first|refine wpList_append_newD slStrE rfl _ _ rfl w.heap.size _ _ (drawn_alloc_drewN _ _ _) 1 _ _ _ HOw5.out rfl rfl rfl rfl hN5 (by decide) hB5 ?_|refine wpList_append_newD slStrE rfl _ _ rfl w.heap.size _ _ (drawn_drew _) 1 _ _ _ HOw5.out rfl rfl rfl rfl hN5 (by decide) hB5 ?_|refine wpList_append_newD slStrE rfl _ _ rfl w.heap.size _ _ (drawn_drewN _ _) 1 _ _ _ HOw5.out rfl rfl rfl rfl hN5 (by decide) hB5 ?_|refine wpList_append_newD slStrE rfl _ _ rfl w.heap.size _ _ (drawn_refl _) 1 _ _ _ HOw5.out rfl rfl rfl rfl hN5 (by decide) hB5 ?_);intro v7 w7 ho7 hg7);(obtain⟨p7,c7,e7,hO7⟩:=sown_moreS (more:=[x.text]) HO7.out ho7);subst e7;have HP7:=Lib.hid (HJ5.out.push (by omega) (by omega) hO7 hg7);have z0:=(HJ5.out.box.grown HJ5.out.own (by decide) hg7).arr.cell (j:=0) rfl;have z1:=(HJ5.out.box.grown HJ5.out.own (by decide) hg7).arr.free 0;have z2:=(HJ5.out.box.grown HJ5.out.own (by decide) hg7).arr.lt;clear ho7 hg7 hO7)
         go_roundw
         case rel=>exact⟨j+1,p7,c7,hlt,by go_num,o7,by rw [HSu.out,← HOj.out,HM1.out];exact HO7.out,HP7⟩
         case measure=>simp [intOf];omega
        ·
         skip
         have HM1:Hid (seenOne l (bareB (.mk 1 nm (.slice a' sub.length cap') sub))=[]):=Lib.hid (by rw [bareB_mk,seenOne_mk,if_pos rfl,if_neg hv1])
         clear hlj
         go_wp2_with fail
         refine(svertN_any s nm l R _ (HSh.out.over HJ1.out.world) hv1).mono ?_
         rintro e w4 ⟨rfl,hb4⟩
         have HJ4:=Lib.hid (HJ1.out.over hb4)
         clear hb4 r0 r1 hgl hsl y0 y1 y2 sy hv1
         go_upto_region 9 with(fail)
         have HJ5:=Lib.hid (HJ4.out.over (below_new (w:=w4) (.cells #[.int .u8 noVert.id.pid.author.toNat,.int .u16 noVert.id.pid.seq.toNat,.int .u8 noVert.id.n.toNat,.int .u8 noVert.kind.toNat,.int .u8 noVert.file.pid.author.toNat,.int .u16 noVert.file.pid.seq.toNat,.int .u8 noVert.file.n.toNat,.string noVert.text,.bool noVert.dead] 86)))
         generalize hw5:w4.alloc (.cells #[.int .u8 noVert.id.pid.author.toNat,.int .u16 noVert.id.pid.seq.toNat,.int .u8 noVert.id.n.toNat,.int .u8 noVert.kind.toNat,.int .u8 noVert.file.pid.author.toNat,.int .u16 noVert.file.pid.seq.toNat,.int .u8 noVert.file.n.toNat,.string noVert.text,.bool noVert.dead] 86)=w5 at *
         clear hw5
         go_wp2_with fail
         go_roundw
         case rel=>exact⟨j+1,pj,cj,hlt,by go_num,oj,by rw [HSu.out,← HOj.out,HM1.out,List.append_nil],HJ5⟩
         case measure=>simp [intOf];omega
       ·
        skip
        have HM0:Hid (seenOne l (bareB (.mk kd nm (.slice a' sub.length cap') sub))=[]):=Lib.hid (by rw [bareB_mk,seenOne_mk,if_neg k1,if_neg k4,if_neg k2,if_neg k3])
        have g1:(kd == 1)=false:=by rw [beq_eq_false_iff_ne];exact k1
        have g2:(kd == 2)=false:=by rw [beq_eq_false_iff_ne];exact k2
        have g3:(kd == 3)=false:=by rw [beq_eq_false_iff_ne];exact k3
        have g4:(kd == 4)=false:=by rw [beq_eq_false_iff_ne];exact k4
        go_upto_region 6 with(fail)
        have HK:=Lib.hid (arr_new wr #[.int .i64 kd,.int .i64 nm,.slice a' sub.length cap'] 183)
        have HNw:=Lib.hid (below_new (w:=wr) (.cells #[.int .i64 kd,.int .i64 nm,.slice a' sub.length cap'] 183))
        have HJ1:=Lib.hid (HJ.out.over HNw.out)
        generalize hw3:wr.alloc (.cells #[.int .i64 kd,.int .i64 nm,.slice a' sub.length cap'] 183)=w3 at *
        clear hw3 x0 x1 x2 sx
        have hgl:=HJ1.out.box.arr.lt
        have hsl:=HJ1.out.sheet.arr.lt
        have r0:=HJ1.out.box.arr.cell (j:=0) rfl
        have r1:=HJ1.out.sheet.arr.cell (j:=0) rfl
        have y0:=HK.out.cell (j:=0) rfl
        have y1:=HK.out.cell (j:=1) rfl
        have y2:=HK.out.cell (j:=2) rfl
        have sy:=HK.out.lt
        go_wp2_with fail
        go_roundw
        case rel=>exact⟨j+1,pj,cj,hlt,by go_num,oj,by rw [HSu.out,← HOj.out,HM0.out,List.append_nil],HJ1⟩
        case measure=>simp [intOf];omega
   ·
    obtain rfl:j=xs.length:=by omega
    have r0:=HJ.out.box.arr.cell (j:=0) rfl
    have hgl:=HJ.out.box.arr.lt
    have HE:Hid (seenAll l (bareL xs)=oj):=Lib.hid (by rw [hoj,List.take_length])
    clear hoj
    go_wp2_with fail
    go_ret
    exact⟨_,rfl,by rw [HE.out];exact HJ.out.own,HJ.out.world⟩
end Go.Proofs.YtanfebljiblhbaaGreatDoor
namespace Go.Proofs.YtanfebljiblhbaaGreatDoor
open Go Go.RowKit

def sumN:List Nat→Nat
 | []=>0
 | x :: l=>x+sumN l
theorem sumN_append:∀ a b:List Nat,sumN (a++b)=sumN a+sumN b
 | [],b=>by simp [sumN]
 | x :: a,b=>by rw [List.cons_append,sumN,sumN,sumN_append a b];omega
/-- of things that exclude one another, at most one holds of each -/
theorem count_one{α β:Type}(P:α→β→Bool)(x:β):∀ {hs:List α},hs.Pairwise (fun a b=>∀ x,¬ (P a x=true∧P b x=true))→hs.countP (fun h=>P h x)≤1
 | [],_=>by simp
 | h :: hs,hp=>by
  obtain⟨h1,h2⟩:=List.pairwise_cons.1 hp
  have ih:=count_one P x h2
  rw [List.countP_cons]
  cases hx:P h x with
  | false=>simp;exact ih
  | true =>
   have:hs.countP (fun h=>P h x)=0:=List.countP_eq_zero.2 fun g hg hgx=>h1 g hg x ⟨hx,hgx⟩
   simp [this]
theorem sum_count{α β:Type}(P:α→β→Bool){hs:List α}(hp:hs.Pairwise (fun a b=>∀ x,¬ (P a x=true∧P b x=true))):∀ xs:List β,sumN (hs.map fun h=>(xs.filter (P h)).length)≤xs.length
 | []=>by
  have:∀ hs:List α,sumN (hs.map fun h=>(([]:List β).filter (P h)).length)=0:=by
   intro hs
   induction hs with
   | nil=>rfl
   | cons a hs ih=>rw [List.map_cons,sumN,ih];rfl
  rw [this];exact Nat.zero_le _
 | x :: xs=>by
  have ih:=sum_count P hp xs
  have h1:=count_one P x hp
  have:∀ hs:List α,sumN (hs.map fun h=>((x :: xs).filter (P h)).length)=sumN (hs.map fun h=>(xs.filter (P h)).length)+hs.countP (fun h=>P h x):=by
   intro hs
   induction hs with
   | nil=>rfl
   | cons a hs ih2 =>
    rw [List.map_cons,List.map_cons,sumN,sumN,ih2,List.countP_cons,List.filter_cons]
    cases P a x <;> simp <;> omega
  rw [this,List.length_cons];omega
theorem sides_sum(R:List (Nat × Nat))(l:List Nat):sumN ((sidesM R l).map List.length)≤l.length:=by
 unfold sidesM
 rw [List.map_map]
 have hp:(headsM R l l.length).Pairwise (fun a b=>∀ x,¬ (nearD R l a x=true∧nearD R l b x=true)):=by
  unfold headsM
  refine((List.pairwise_lt_range (n:=l.length)).filter _).imp_of_mem ?_
  intro a b _ hb hab x hx
  have hb2:=headB_iff.1 (List.mem_filter.1 hb).2
  exact hb2 a hab ((nearD_iff.1 hx.1).trans (nearD_iff.1 hx.2).symm)
 have:=sum_count (nearD R l) hp (List.range l.length)
 rw [List.length_range] at this
 exact this
theorem sides_pos{R:List (Nat × Nat)}{l:List Nat}{s:List Nat}(hs:s∈sidesM R l):0<s.length:=by
 unfold sidesM at hs
 obtain⟨i,hi,rfl⟩:=List.mem_map.1 hs
 have hi2:=(mem_heads.1 hi).1
 exact List.length_pos_of_mem (mem_sideM.2 (.self hi2))
theorem sides_some{R:List (Nat × Nat)}{l:List Nat}(h:0<l.length):0<(sidesM R l).length:=by
 unfold sidesM
 rw [List.length_map]
 exact List.length_pos_of_mem (a:=0) (mem_heads.2 ⟨h,headB_iff.2 fun k hk=>absurd hk (by omega)⟩)
/-- the pieces: none is empty; together they are what was cut -/
theorem pieces_sum(R:List (Nat × Nat))(l:List Nat):∀ k,k≤l.length→sumN ((piecesTo R l k).1.map List.length)=(piecesTo R l k).2∧∀ p∈(piecesTo R l k).1,0<p.length∧p.length≤k
 | 0,_=>⟨rfl,fun p hp=>absurd hp (List.not_mem_nil)⟩
 | k+1,hk=>by
  obtain⟨h1,h2⟩:=pieces_sum R l k (by omega)
  have h3:=pieces_at R l k
  by_cases h:k+1=l.length∨cutB R l (k+1)=true
  ·
   rw [pieces_yes h]
   have hl:((l.take (k+1)).drop (piecesTo R l k).2).length=k+1 - (piecesTo R l k).2:=by rw [List.length_drop,List.length_take];omega
   refine⟨?_,fun p hp => ?_⟩
   ·
    show sumN (((piecesTo R l k).1++[(l.take (k+1)).drop (piecesTo R l k).2]).map List.length)=k+1
    rw [List.map_append,sumN_append,h1,List.map_cons,List.map_nil,sumN,sumN,hl];omega
   ·
    rcases List.mem_append.1 hp with hp|hp
    ·
     have:=h2 p hp;omega
    ·
     rw [List.mem_singleton.1 hp,hl];omega
  ·
   rw [pieces_no h]
   exact⟨h1,fun p hp=>by have:=h2 p hp;omega⟩
/-! ### how much is seen, how many are odd -/
theorem seenAll_sum(l:List VertM):∀ bs:List BlkM,(seenAll l bs).length=sumN (bs.map fun b=>(seenOne l b).length)
 | []=>by rw [seenAll_nil];rfl
 | b :: bs=>by rw [seenAll_cons,List.length_append,seenAll_sum l bs];rfl
theorem seenJoin_sum(l:List VertM)(m:ByteArray):∀(bs:List BlkM) (f:Bool),(seenJoin l m f bs).length≤sumN (bs.map fun b=>(seenOne l b).length)+bs.length
 | [],f=>by rw [seenJoin_nil];exact Nat.zero_le _
 | b :: bs,f=>by
  have:=seenJoin_sum l m bs false
  rw [seenJoin_cons,List.length_append,List.length_append,List.map_cons,sumN,List.length_cons]
  cases f <;> simp <;> omega
theorem seen_line(l:List VertM)(i:Nat):(seenOne l (lineB i)).length≤1:=by
 unfold lineB
 rw [seenOne_mk,if_pos rfl]
 split <;> simp
theorem sum_lines(l:List VertM):∀ t:List Nat,sumN ((t.map lineB).map fun b=>(seenOne l b).length)≤t.length
 | []=>Nat.le_refl _
 | i :: t=>by
  have h1:=sum_lines l t
  have h2:=seen_line l i
  rw [List.map_cons,List.map_cons,sumN,List.length_cons];omega
theorem sum_le{α:Type}(f g:α→Nat):∀ xs:List α,(∀ x∈xs,f x+3≤4*g x)→sumN (xs.map f)+3*xs.length≤4*sumN (xs.map g)
 | [],_=>Nat.le_refl _
 | x :: xs,h=>by
  have h1:=h x (List.mem_cons_self ..)
  have h2:=sum_le f g xs fun y hy=>h y (List.mem_cons_of_mem _ hy)
  rw [List.map_cons,List.map_cons,sumN,sumN,List.length_cons];omega
theorem seenJoin_first(l:List VertM)(m:ByteArray){bs:List BlkM}(h:0<bs.length):(seenJoin l m true bs).length+1≤sumN (bs.map fun b=>(seenOne l b).length)+bs.length:=by
 cases bs with
 | nil=>exact absurd h (by simp)
 | cons b bs =>
  have:=seenJoin_sum l m bs false
  rw [seenJoin_cons,List.length_append,List.length_append,List.map_cons,sumN,List.length_cons]
  simp;omega
theorem things_len(l s:List Nat):(thingsM l s).length=s.length:=by unfold thingsM;rw [List.length_map]
theorem piece_seen(l:List VertM)(R:List (Nat × Nat))(F:List Nat→List BlkM)(p:List Nat)(hp:0<p.length)(hF:∀ t:List Nat,t.length<p.length→0<t.length→(seenAll l (F t)).length+3≤4*t.length):(seenOne l (pieceM R F p)).length+3≤4*p.length:=by
 by_cases h1:p.length=1
 ·
  unfold pieceM
  rw [if_pos h1]
  have:=seen_line l (p.getD 0 0);omega
 ·
  by_cases h2:(sidesM R p).length=1
  ·
   unfold pieceM
   rw [if_neg h1,if_pos h2,seenOne_mk]
   rw [if_neg (by decide),if_neg (by decide),if_neg (by decide),if_pos rfl]
   have h3:=seenJoin_first l markT (bs:=p.map lineB) (by rw [List.length_map];exact hp)
   have h4:=sum_lines l p
   rw [List.length_map] at h3
   rw [List.length_cons,List.length_append,List.length_singleton];omega
  ·
   unfold pieceM
   rw [if_neg h1,if_neg h2,seenOne_mk]
   rw [if_neg (by decide),if_neg (by decide),if_pos rfl]
   have h0:=sides_some (R:=R) hp
   have h3:=seenJoin_first l markS (bs:=(sidesM R p).map fun s=>BlkM.mk 4 0 (F (thingsM p s))) (by rw [List.length_map];exact h0)
   rw [List.length_map,List.map_map] at h3
   have h4:=sum_le (fun s=>(seenOne l (BlkM.mk 4 0 (F (thingsM p s)))).length) List.length (sidesM R p) fun s hs=>by
    rw [seenOne_mk,if_neg (by decide),if_pos rfl]
    have h6:=sides_less h2 hs
    have h7:=sides_pos hs
    have h8:=hF (thingsM p s) (by rw [things_len];exact h6) (by rw [things_len];exact h7)
    rw [things_len] at h8
    exact h8
   have h5:=sides_sum R p
   have h6:sumN ((sidesM R p).map ((fun b=>(seenOne l b).length) ∘ fun s=>BlkM.mk 4 0 (F (thingsM p s))))=sumN ((sidesM R p).map fun s=>(seenOne l (BlkM.mk 4 0 (F (thingsM p s)))).length):=rfl
   rw [h6] at h3
   rw [List.length_cons,List.length_append,List.length_singleton];omega
theorem pieces_end{R:List (Nat × Nat)}{t:List Nat}(h:0<t.length):(piecesM R t)≠[]∧sumN ((piecesM R t).map List.length)=t.length:=by
 obtain⟨k,hk⟩:∃ k,t.length=k+1:=⟨t.length - 1,by omega⟩
 have h1:=pieces_yes (R:=R) (l:=t) (k:=k) (.inl hk.symm)
 have h2:=(pieces_sum R t t.length (Nat.le_refl _)).1
 unfold piecesM
 refine⟨?_,?_⟩
 ·
  rw [hk,h1];simp
 ·
  rw [h2,hk,h1]
theorem seen_bound(l:List VertM)(R:List (Nat × Nat)):∀(f:Nat) (t:List Nat),t.length<f→0<t.length→(seenAll l (blkM R f t)).length+3≤4*t.length
 | 0,t,h,_=>absurd h (Nat.not_lt_zero _)
 | f+1,t,h,h0=>by
  obtain⟨h1,h2⟩:=pieces_end (R:=R) h0
  rw [blkM,seenAll_sum,List.map_map]
  have h3:=sum_le (fun p=>(seenOne l (pieceM R (blkM R f) p)).length) List.length (piecesM R t) fun p hp=>by
   have h4:=(pieces_sum R t t.length (Nat.le_refl _)).2 p hp
   exact piece_seen l R (blkM R f) p h4.1 fun u hu hu0=>seen_bound l R f u (by omega) hu0
  have h5:0<(piecesM R t).length:=List.length_pos_iff.2 h1
  have h6:sumN ((piecesM R t).map ((fun b=>(seenOne l b).length) ∘ pieceM R (blkM R f)))=sumN ((piecesM R t).map fun p=>(seenOne l (pieceM R (blkM R f) p)).length):=rfl
  rw [h6];omega
theorem oddL_sum:∀ bs:List BlkM,oddL bs=sumN (bs.map oddB)
 | []=>by rw [oddL_nil];rfl
 | b :: bs=>by rw [oddL_cons,oddL_sum bs];rfl
theorem odd_lines:∀ t:List Nat,oddL (t.map lineB)=0
 | []=>oddL_nil
 | i :: t=>by rw [List.map_cons,oddL_cons,odd_lines t];unfold lineB;rw [odd_1]
theorem sum_le1{α:Type}(f g:α→Nat):∀ xs:List α,(∀ x∈xs,f x+1≤g x)→sumN (xs.map f)+xs.length≤sumN (xs.map g)
 | [],_=>Nat.le_refl _
 | x :: xs,h=>by
  have h1:=h x (List.mem_cons_self ..)
  have h2:=sum_le1 f g xs fun y hy=>h y (List.mem_cons_of_mem _ hy)
  rw [List.map_cons,List.map_cons,sumN,sumN,List.length_cons];omega
theorem piece_odd(R:List (Nat × Nat))(F:List Nat→List BlkM)(p:List Nat)(hp:0<p.length)(hF:∀ t:List Nat,t.length<p.length→0<t.length→oddL (F t)+1≤t.length):oddB (pieceM R F p)+1≤p.length:=by
 by_cases h1:p.length=1
 ·
  unfold pieceM
  rw [if_pos h1]
  unfold lineB
  rw [odd_1];omega
 ·
  by_cases h2:(sidesM R p).length=1
  ·
   unfold pieceM
   rw [if_neg h1,if_pos h2,odd_23 (.inr rfl),odd_lines];omega
  ·
   unfold pieceM
   rw [if_neg h1,if_neg h2,odd_23 (.inl rfl),oddL_sum,List.map_map]
   have h0:=sides_some (R:=R) hp
   have h4:=sum_le1 (fun s=>oddB (BlkM.mk 4 0 (F (thingsM p s)))) List.length (sidesM R p) fun s hs=>by
    rw [odd_0 (by decide) (by decide)]
    have h6:=sides_less h2 hs
    have h7:=sides_pos hs
    have h8:=hF (thingsM p s) (by rw [things_len];exact h6) (by rw [things_len];exact h7)
    rw [things_len] at h8
    exact h8
   have h5:=sides_sum R p
   have h6:sumN ((sidesM R p).map (oddB ∘ fun s=>BlkM.mk 4 0 (F (thingsM p s))))=sumN ((sidesM R p).map fun s=>oddB (BlkM.mk 4 0 (F (thingsM p s)))):=rfl
   rw [h6];omega
theorem odd_bound(R:List (Nat × Nat)):∀(f:Nat) (t:List Nat),t.length<f→0<t.length→oddL (blkM R f t)+1≤t.length
 | 0,t,h,_=>absurd h (Nat.not_lt_zero _)
 | f+1,t,h,h0=>by
  obtain⟨h1,h2⟩:=pieces_end (R:=R) h0
  rw [blkM,oddL_sum,List.map_map]
  have h3:=sum_le1 (fun p=>oddB (pieceM R (blkM R f) p)) List.length (piecesM R t) fun p hp=>by
   have h4:=(pieces_sum R t t.length (Nat.le_refl _)).2 p hp
   exact piece_odd R (blkM R f) p h4.1 fun u hu hu0=>odd_bound R f u (by omega) hu0
  have h5:0<(piecesM R t).length:=List.length_pos_iff.2 h1
  have h6:sumN ((piecesM R t).map (oddB ∘ pieceM R (blkM R f)))=sumN ((piecesM R t).map fun p=>oddB (pieceM R (blkM R f) p)):=rfl
  rw [h6];omega
end Go.Proofs.YtanfebljiblhbaaGreatDoor
namespace Go.Proofs.YtanfebljiblhbaaGreatDoor
open Go Go.RowKit

/-- what is seen of a file's lines, and how many are odd -/
noncomputable def lnBlk(l:List VertM)(R:List (Nat × Nat)):List BlkM:=blkM R ((aliveX l R).length+1) (aliveX l R)
noncomputable def lnSeen(l:List VertM)(R:List (Nat × Nat)):List ByteArray:=seenAll l (lnBlk l R)
noncomputable def lnOdd(l:List VertM)(R:List (Nat × Nat)):Nat:=oddL (lnBlk l R)
theorem blk_nil(R:List (Nat × Nat))(f:Nat):blkM R (f+1) []=[]:=by rw [blkM];rfl
theorem ln_few(l:List VertM)(R:List (Nat × Nat)):(lnSeen l R).length≤4*l.length∧lnOdd l R≤l.length:=by
 have h1:=aliveX_len l R
 unfold lnSeen lnOdd lnBlk
 rcases Nat.eq_zero_or_pos (aliveX l R).length with h|h
 ·
  rw [List.eq_nil_of_length_eq_zero h,show([]:List Nat).length+1=0+1 from rfl,blk_nil,seenAll_nil,oddL_nil]
  exact⟨Nat.zero_le _,Nat.zero_le _⟩
 ·
  have h2:=seen_bound l R ((aliveX l R).length+1) (aliveX l R) (by omega) h
  have h3:=odd_bound R ((aliveX l R).length+1) (aliveX l R) (by omega) h
  exact⟨by omega,by omega⟩
theorem bins_true{A:Nat→Prop}{w:World}{xs:List BlL}(h:BIns A w xs):BIns (fun _=>True) w xs:=BIns.mono (fun _ _=>trivial) (fun _ _ _ h=>h) xs h
def LnRes(w:World)(l:List VertM)(R:List (Nat × Nat))(e:Ending)(w':World):Prop:=∃ v,e=.returned (.tuple #[v,.int .i64 (lnOdd l R:Int)])∧GOwn encS1 1 9 w' w.heap.size v (lnSeen l R)∧Below w.heap.size w w'
theorem lnres_mk{w w':World}{l:List VertM}{R:List (Nat × Nat)}{v:Value}{o:Nat}(ho:o=lnOdd l R)(h1:GOwn encS1 1 9 w' w.heap.size v (lnSeen l R))(h2:Below w.heap.size w w'):LnRes w l R (.returned (.tuple #[v,.int .i64 o])) w':=by
 subst ho;exact⟨v,rfl,h1,h2⟩
attribute [local irreducible] lnSeen lnOdd aliveX seenAll oddL blkM bareL
set_option maxHeartbeats 8000000 in
set_option maxRecDepth 100000 in
theorem slines_any(s:Nat)(l:List VertM)(R:List (Nat × Nat))(w:World)(h:ShAt w s l R)(hl:l.length≤65536):Calls Tryz.prog 36 #[.pointer (some ⟨s,0,none⟩)] w (LnRes w l R):=by
 have HS:=Lib.hid h
 have HF:=Lib.hid (ln_few l R)
 have HA:=Lib.hid (aliveX_len l R)
 clear h
 go_enter Tryz.func36,Tryz.ntmps36
 go_wp2_with fail
 refine(srel_any s l R _ HS.out).mono ?_
 rintro e w1 ⟨⟨r,rfl,hr⟩,hw⟩
 obtain rfl:=hw.symm
 have HR:=Lib.hid hr
 clear hr
 go_wp2_with fail
 refine(salive_any s l R _ HS.out hl).mono ?_
 rw [sares_is]
 rintro e w2 ⟨v2,rfl,ho2,hb2⟩
 have HO2:=Lib.hid ho2
 have HB2:=Lib.hid hb2
 have HAl:Hid (∀ i∈aliveX l R,i≤1000000):=Lib.hid fun i hi=>by have:=aliveX_lt hi;omega
 clear ho2 hb2
 go_wp2_with fail
 refine(bof_any r l.length R ((aliveX l R).length+1) (aliveX l R) v2 _ (Nat.lt_succ_self _) (by have:=HA.out;omega) HAl.out (HR.out.over HB2.out) HO2.out.row).mono ?_
 rintro e w3 ⟨v3,xs,rfl,hx3,hr3,hb3⟩
 obtain⟨p3,c3,e3,_,_,_⟩:=hx3.own.row.at encBl_len
 subst e3
 have HX3:=Lib.hid hx3
 have HR3:Hid (bareL xs=lnBlk l R):=Lib.hid hr3
 have HB3:=Lib.hid (below_over HB2.out HB2.out.size hb3)
 have HSe:Hid (seenAll l (bareL xs)=lnSeen l R):=Lib.hid (by rw [HR3.out];unfold lnSeen;rfl)
 have HOd:Hid (oddL (bareL xs)=lnOdd l R):=Lib.hid (by rw [HR3.out];unfold lnOdd;rfl)
 clear hx3 hr3 hb3
 go_wp2_with fail
 refine(blocks_any l R (some ⟨s,0,none⟩) (SizeOf.sizeOf xs+1) _ xs _ (Nat.lt_succ_self _) HX3.out.own.row (bins_true HX3.out.ins) (.inl ⟨s,rfl,HS.out.over HB3.out⟩) (by rw [HSe.out];have:=HF.out.1;omega)).mono ?_
 rintro e w4 ⟨v4,rfl,ho4,hb4⟩
 rw [HSe.out] at ho4
 have HO4:=Lib.hid ho4
 have HB4:=Lib.hid (below_over HB3.out HB3.out.size hb4)
 have HX4:=Lib.hid (HX3.out.over hb4)
 have hs4:=HB3.out.size
 clear ho4 hb4
 go_wp2_with fail
 refine(bodd_any (fun _=>True) (SizeOf.sizeOf xs+1) _ xs _ (Nat.lt_succ_self _) HX4.out.own.row (bins_true HX4.out.ins) (by rw [HOd.out];have:=HF.out.2;omega)).mono ?_
 rintro e w5 ⟨rfl,hb5⟩
 have HO5:=Lib.hid ((HO4.out.over hb5).base hs4)
 have HB5:=Lib.hid (below_over HB4.out HB4.out.size hb5)
 clear hb5
 go_wp2_with fail
 refine bodyPost_ret (results_tmp2 rfl _ _ _) rfl ?_
 exact lnres_mk HOd.out HO5.out HB5.out
/-! ### nobody's sheet -/
end Go.Proofs.YtanfebljiblhbaaGreatDoor
namespace Go.Proofs.YtanfebljiblhbaaGreatDoor
open Go Go.RowKit

def cntM(xs:List ByteArray)(s:ByteArray):Nat:=(xs.filter fun x=>decide (x=s)).length
theorem cnt_append(a b:List ByteArray)(s:ByteArray):cntM (a++b) s=cntM a s+cntM b s:=by unfold cntM;rw [List.filter_append,List.length_append]
theorem cnt_nil(s:ByteArray):cntM [] s=0:=rfl
theorem cnt_cons(x:ByteArray)(a:List ByteArray)(s:ByteArray):cntM (x :: a) s=(if x=s then 1 else 0)+cntM a s:=by
 unfold cntM
 rw [List.filter_cons]
 by_cases h:x=s
 ·
  simp [h];omega
 ·
  simp [h]
theorem cnt_zero{a:List ByteArray}{s:ByteArray}(h:∀ x∈a,x≠s):cntM a s=0:=by
 unfold cntM
 rw [List.length_eq_zero_iff,List.filter_eq_nil_iff]
 intro x hx
 simp [h x hx]
def isMark(t:ByteArray):Bool:=decide (t=markA) || decide (t=markE) || decide (t=markS) || decide (t=markT)
theorem markAE:¬ markA=markE:=by decide +kernel
theorem markAS:¬ markA=markS:=by decide +kernel
theorem markAT:¬ markA=markT:=by decide +kernel
theorem markES:¬ markE=markS:=by decide +kernel
theorem markET:¬ markE=markT:=by decide +kernel
theorem markST:¬ markS=markT:=by decide +kernel
theorem isMark_A:isMark markA=true:=by decide +kernel
theorem isMark_E:isMark markE=true:=by decide +kernel
theorem isMark_S:isMark markS=true:=by decide +kernel
theorem isMark_T:isMark markT=true:=by decide +kernel
mutual
/-- the texts of the lines that are in a block -/
def txtOne(l:List VertM):BlkM→List ByteArray
 | .mk k n s=>if k=1 then(if 0≤n∧n<(l.length:Int) then [textAt l n.toNat] else []) else txtAll l s
def txtAll(l:List VertM):List BlkM→List ByteArray
 | []=>[]
 | b :: r=>txtOne l b++txtAll l r
end
theorem txtOne_mk(l:List VertM)(k n:Int)(s:List BlkM):txtOne l (.mk k n s)=if k=1 then(if 0≤n∧n<(l.length:Int) then [textAt l n.toNat] else []) else txtAll l s:=by rw [txtOne]
theorem txtAll_nil(l:List VertM):txtAll l []=[]:=by rw [txtAll]
theorem txtAll_cons(l:List VertM)(b:BlkM)(r:List BlkM):txtAll l (b :: r)=txtOne l b++txtAll l r:=by rw [txtAll]
theorem txtAll_flat(l:List VertM):∀ bs:List BlkM,txtAll l bs=bs.flatMap (txtOne l)
 | []=>by rw [txtAll_nil];rfl
 | b :: r=>by rw [txtAll_cons,txtAll_flat l r,List.flatMap_cons]
mutual
/-- blocks of the four kinds -/
def okB:BlkM→Prop
 | .mk k _ s=>(k=1∨k=2∨k=3∨k=4)∧okL s
def okL:List BlkM→Prop
 | []=>True
 | b :: r=>okB b∧okL r
end
theorem okB_mk{k n:Int}{s:List BlkM}:okB (.mk k n s)↔(k=1∨k=2∨k=3∨k=4)∧okL s:=by rw [okB]
theorem okL_all:∀ {bs:List BlkM},okL bs↔∀ b∈bs,okB b
 | []=>by rw [okL];simp
 | b :: r=>by rw [okL,okL_all];simp
theorem ok_line(i:Nat):okB (lineB i):=okB_mk.2 ⟨.inl rfl,by rw [okL];trivial⟩
/-- what is not a mark -/
def bareT(xs:List ByteArray):List ByteArray:=xs.filter fun t => !isMark t
theorem bareT_append(a b:List ByteArray):bareT (a++b)=bareT a++bareT b:=List.filter_append ..
theorem bareT_mark{m:ByteArray}(h:isMark m=true)(a:List ByteArray):bareT (m :: a)=bareT a:=by unfold bareT;rw [List.filter_cons,h];rfl
theorem bareT_id{a:List ByteArray}(h:∀ t∈a,isMark t=false):bareT a=a:=List.filter_eq_self.2 fun t ht=>by rw [h t ht];rfl
/-- what the three hold of blocks: lines without marks are the texts; the marks of beginning and end are as many as are odd -/
structure Told (l:List VertM) (seen txt:List ByteArray) (odd:Nat):Prop where
 bare:bareT seen=txt
 first:cntM seen markA=odd
 last:cntM seen markE=odd
theorem Told.append{l:List VertM}{s1 s2 t1 t2:List ByteArray}{o1 o2:Nat}(h1:Told l s1 t1 o1)(h2:Told l s2 t2 o2):Told l (s1++s2) (t1++t2) (o1+o2):=
 ⟨by rw [bareT_append,h1.bare,h2.bare],by rw [cnt_append,h1.first,h2.first],by rw [cnt_append,h1.last,h2.last]⟩
theorem told_nil(l:List VertM):Told l [] [] 0:=⟨rfl,rfl,rfl⟩
theorem told_between{l:List VertM}{m:ByteArray}(hm:m=markS∨m=markT):Told l [m] [] 0:=by
 rcases hm with rfl|rfl
 ·
  exact⟨by rw [bareT_mark isMark_S];rfl,by rw [cnt_cons,if_neg (Ne.symm markAS),cnt_nil],by rw [cnt_cons,if_neg (Ne.symm markES),cnt_nil]⟩
 ·
  exact⟨by rw [bareT_mark isMark_T];rfl,by rw [cnt_cons,if_neg (Ne.symm markAT),cnt_nil],by rw [cnt_cons,if_neg (Ne.symm markET),cnt_nil]⟩
theorem told_text{l:List VertM}{t:ByteArray}(h:isMark t=false):Told l [t] [t] 0:=by
 have h2:t≠markA:=fun e=>by rw [e,isMark_A] at h;cases h
 have h3:t≠markE:=fun e=>by rw [e,isMark_E] at h;cases h
 exact⟨bareT_id (by simpa using h),by rw [cnt_cons,if_neg h2,cnt_nil],by rw [cnt_cons,if_neg h3,cnt_nil]⟩
theorem told_odd{l:List VertM}{s t:List ByteArray}{o:Nat}(h:Told l s t o):Told l (markA :: (s++[markE])) t (1+o):=by
 refine⟨?_,?_,?_⟩
 ·
  rw [bareT_mark isMark_A,bareT_append,h.bare,bareT_mark isMark_E];exact List.append_nil t
 ·
  rw [cnt_cons,if_pos rfl,cnt_append,h.first,cnt_cons,if_neg (Ne.symm markAE),cnt_nil];omega
 ·
  rw [cnt_cons,if_neg markAE,cnt_append,h.last,cnt_cons,if_pos rfl,cnt_nil];omega
mutual
theorem told_one(l:List VertM)(hl:∀ i,i<l.length→isMark (textAt l i)=false):∀ b:BlkM,okB b→Told l (seenOne l b) (txtOne l b) (oddB b)
 | .mk k n s,h=>by
  obtain⟨hk,hs⟩:=okB_mk.1 h
  have ih:=told_all l hl s hs
  rcases hk with rfl|rfl|rfl|rfl
  ·
   rw [seenOne_mk,txtOne_mk,if_pos rfl,if_pos rfl,odd_1]
   by_cases hv:0≤n∧n<(l.length:Int)
   ·
    rw [if_pos hv]
    exact told_text (hl _ (by omega))
   ·
    rw [if_neg hv]
    exact told_nil l
  ·
   rw [seenOne_mk,txtOne_mk,if_neg (by decide),if_neg (by decide),if_pos rfl,if_neg (by decide),odd_23 (.inl rfl)]
   exact told_odd (ih.2 markS true (.inl rfl))
  ·
   rw [seenOne_mk,txtOne_mk,if_neg (by decide),if_neg (by decide),if_neg (by decide),if_pos rfl,if_neg (by decide),odd_23 (.inr rfl)]
   exact told_odd (ih.2 markT true (.inr rfl))
  ·
   rw [seenOne_mk,txtOne_mk,if_neg (by decide),if_pos rfl,if_neg (by decide),odd_0 (by decide) (by decide)]
   exact ih.1
theorem told_all(l:List VertM)(hl:∀ i,i<l.length→isMark (textAt l i)=false):∀ bs:List BlkM,okL bs→Told l (seenAll l bs) (txtAll l bs) (oddL bs)∧∀ m f,(m=markS∨m=markT)→Told l (seenJoin l m f bs) (txtAll l bs) (oddL bs)
 | [],_=>by
  rw [seenAll_nil,txtAll_nil,oddL_nil]
  exact⟨told_nil l,fun m f _=>by rw [seenJoin_nil];exact told_nil l⟩
 | b :: r,h=>by
  rw [okL] at h
  have h1:=told_one l hl b h.1
  have h2:=told_all l hl r h.2
  rw [seenAll_cons,txtAll_cons,oddL_cons]
  refine⟨h1.append h2.1,fun m f hm => ?_⟩
  rw [seenJoin_cons]
  have h3:=h1.append (h2.2 m false hm)
  cases f with
  | true=>exact h3
  | false =>
   have h4:=(told_between (l:=l) hm).append h3
   rw [Nat.zero_add] at h4
   exact h4
end
/-- the marks and the others are all -/
theorem wl_marks:∀ xs:List ByteArray,xs.length=(bareT xs).length+(cntM xs markA+cntM xs markE+cntM xs markS+cntM xs markT)
 | []=>rfl
 | x :: r=>by
  have ih:=wl_marks r
  rw [cnt_cons,cnt_cons,cnt_cons,cnt_cons,List.length_cons]
  by_cases h:isMark x=true
  ·
   rw [bareT_mark h]
   unfold isMark at h
   simp only [Bool.or_eq_true,decide_eq_true_eq] at h
   rcases h with((rfl|rfl)|rfl)|rfl
   ·
    rw [if_pos rfl,if_neg markAE,if_neg markAS,if_neg markAT];omega
   ·
    rw [if_neg (Ne.symm markAE),if_pos rfl,if_neg markES,if_neg markET];omega
   ·
    rw [if_neg (Ne.symm markAS),if_neg (Ne.symm markES),if_pos rfl,if_neg markST];omega
   ·
    rw [if_neg (Ne.symm markAT),if_neg (Ne.symm markET),if_neg (Ne.symm markST),if_pos rfl];omega
  ·
   have hb:bareT (x :: r)=x :: bareT r:=by unfold bareT;rw [List.filter_cons];simp [h]
   rw [hb,List.length_cons]
   have h':=h
   unfold isMark at h'
   simp only [Bool.or_eq_true,decide_eq_true_eq,not_or] at h'
   rw [if_neg h'.1.1.1,if_neg h'.1.1.2,if_neg h'.1.2,if_neg h'.2];omega
/-! ### the blocks of a list have its lines -/
theorem pieces_flat(R:List (Nat × Nat))(t:List Nat):∀ k,k≤t.length→(piecesTo R t k).1.flatten=t.take (piecesTo R t k).2
 | 0,_=>rfl
 | k+1,hk=>by
  have ih:=pieces_flat R t k (by omega)
  have h3:=pieces_at R t k
  by_cases h:k+1=t.length∨cutB R t (k+1)=true
  ·
   rw [pieces_yes h]
   show((piecesTo R t k).1++[(t.take (k+1)).drop (piecesTo R t k).2]).flatten=t.take (k+1)
   rw [List.flatten_append,ih,List.flatten_cons,List.flatten_nil,List.append_nil]
   have:t.take (piecesTo R t k).2=(t.take (k+1)).take (piecesTo R t k).2:=by rw [List.take_take,Nat.min_eq_left (by omega)]
   rw [this,List.take_append_drop]
  ·
   rw [pieces_no h]
   exact ih
theorem pieces_all(R:List (Nat × Nat))(t:List Nat):(piecesM R t).flatten=t:=by
 unfold piecesM
 rw [pieces_flat R t t.length (Nat.le_refl _)]
 rcases Nat.eq_zero_or_pos t.length with h|h
 ·
  rw [List.eq_nil_of_length_eq_zero h];rfl
 ·
  obtain⟨k,hk⟩:∃ k,t.length=k+1:=⟨t.length - 1,by omega⟩
  have h1:=pieces_yes (R:=R) (l:=t) (k:=k) (.inl hk.symm)
  rw [hk,h1]
  exact List.take_of_length_le (by omega)
theorem mem_pieces{R:List (Nat × Nat)}{t p:List Nat}(hp:p∈piecesM R t){i:Nat}(hi:i∈p):i∈t:=by
 rw [← pieces_all R t]
 exact List.mem_flatten.2 ⟨p,hp,hi⟩
/-- each place has the first one of its side -/
theorem head_of(R:List (Nat × Nat))(l:List Nat){k:Nat}(hk:k<l.length):∃ i,headB R l i=true∧Near R l i k:=by
 have:∀ n k,k<n→k<l.length→∃ i,headB R l i=true∧Near R l i k:=by
  intro n
  induction n with
  | zero=>intro k hk;exact absurd hk (Nat.not_lt_zero _)
  | succ n ih =>
   intro k hk hkl
   by_cases h:headB R l k=true
   ·
    exact⟨k,h,.self hkl⟩
   ·
    have h2:∃ j,j<k∧Near R l j k:=Classical.byContradiction fun q=>h (headB_iff.2 fun j hj hn=>q ⟨j,hj,hn⟩)
    obtain⟨j,hj,hn⟩:=h2
    obtain⟨i,h3,h4⟩:=ih j (by omega) (by omega)
    exact⟨i,h3,h4.trans hn⟩
 exact this (k+1) k (Nat.lt_succ_self _) hk
/-- the sides part the places -/
theorem sides_perm(R:List (Nat × Nat))(l:List Nat):(sidesM R l).flatten.Perm (List.range l.length):=by
 rw [List.perm_ext_iff_of_nodup]
 ·
  intro k
  rw [List.mem_flatten,List.mem_range]
  constructor
  ·
   rintro⟨s,hs,hk⟩
   unfold sidesM at hs
   obtain⟨i,hi,rfl⟩:=List.mem_map.1 hs
   exact(mem_sideM.1 hk).right
  ·
   intro hk
   obtain⟨i,h1,h2⟩:=head_of R l hk
   refine⟨sideM R l i,?_,mem_sideM.2 h2⟩
   unfold sidesM
   exact List.mem_map.2 ⟨i,mem_heads.2 ⟨h2.left,h1⟩,rfl⟩
 ·
  unfold List.Nodup
  rw [List.pairwise_flatten]
  refine⟨fun s hs => ?_,?_⟩
  ·
   unfold sidesM at hs
   obtain⟨i,hi,rfl⟩:=List.mem_map.1 hs
   unfold sideM
   exact List.nodup_range.filter _
  ·
   unfold sidesM
   rw [List.pairwise_map]
   unfold headsM
   refine((List.pairwise_lt_range (n:=l.length)).filter _).imp_of_mem ?_
   intro a b _ hb hab x hx y hy hxy
   subst hxy
   have hb2:=headB_iff.1 (List.mem_filter.1 hb).2
   exact hb2 a hab ((mem_sideM.1 hx).trans (mem_sideM.1 hy).symm)
 ·
  exact List.nodup_range
theorem range_getD(p:List Nat):((List.range p.length).map fun k=>p.getD k 0)=p:=by
 refine List.ext_getElem (by simp) fun i h1 h2 => ?_
 simp [List.getD_eq_getElem?_getD,List.getElem?_eq_getElem h2]
theorem txt_line(l:List VertM){i:Nat}(h:i<l.length):txtOne l (lineB i)=[textAt l i]:=by
 unfold lineB
 rw [txtOne_mk,if_pos rfl,if_pos ⟨by omega,by omega⟩,Int.toNat_natCast]
theorem txt_lines(l:List VertM):∀ t:List Nat,(∀ i∈t,i<l.length)→txtAll l (t.map lineB)=t.map (textAt l)
 | [],_=>by rw [List.map_nil,txtAll_nil];rfl
 | i :: t,h=>by rw [List.map_cons,txtAll_cons,txt_line l (h i (List.mem_cons_self ..)),txt_lines l t fun j hj=>h j (List.mem_cons_of_mem _ hj)];rfl
theorem flat_perm{α β:Type}(f g:α→List β):∀ xs:List α,(∀ x∈xs,(f x).Perm (g x))→(xs.flatMap f).Perm (xs.flatMap g)
 | [],_=>List.Perm.refl _
 | x :: xs,h=>by
  rw [List.flatMap_cons,List.flatMap_cons]
  exact(h x (List.mem_cons_self ..)).append (flat_perm f g xs fun y hy=>h y (List.mem_cons_of_mem _ hy))
theorem flat_flatten(l:List VertM)(xs:List (List Nat)):xs.flatMap (fun p=>p.map (textAt l))=xs.flatten.map (textAt l):=by
 rw [List.map_flatten,List.flatMap_def]
theorem mem_things{l s:List Nat}{i:Nat}(hs:∀ k∈s,k<l.length)(h:i∈thingsM l s):i∈l:=by
 unfold thingsM at h
 obtain⟨k,hk,rfl⟩:=List.mem_map.1 h
 have:=hs k hk
 rw [List.getD_eq_getElem?_getD,List.getElem?_eq_getElem this]
 exact List.getElem_mem this
theorem sides_in{R:List (Nat × Nat)}{l s:List Nat}(hs:s∈sidesM R l):∀ k∈s,k<l.length:=by
 intro k hk
 unfold sidesM at hs
 obtain⟨i,hi,rfl⟩:=List.mem_map.1 hs
 exact(mem_sideM.1 hk).right
theorem piece_perm(l:List VertM)(R:List (Nat × Nat))(F:List Nat→List BlkM)(p:List Nat)(hp:∀ i∈p,i<l.length)
  (hF:∀ t:List Nat,t.length<p.length→(∀ i∈t,i<l.length)→okL (F t)∧(txtAll l (F t)).Perm (t.map (textAt l))):okB (pieceM R F p)∧(txtOne l (pieceM R F p)).Perm (p.map (textAt l)):=by
 by_cases h1:p.length=1
 ·
  obtain⟨x,rfl⟩:=List.length_eq_one_iff.1 h1
  unfold pieceM
  rw [if_pos h1]
  refine⟨ok_line _,?_⟩
  rw [show([x]:List Nat).getD 0 0=x from rfl,txt_line l (hp x (List.mem_singleton.2 rfl))]
  exact List.Perm.refl _
 ·
  by_cases h2:(sidesM R p).length=1
  ·
   unfold pieceM
   rw [if_neg h1,if_pos h2]
   refine⟨okB_mk.2 ⟨.inr (.inr (.inl rfl)),okL_all.2 fun b hb => ?_⟩,?_⟩
   ·
    obtain⟨i,_,rfl⟩:=List.mem_map.1 hb
    exact ok_line i
   ·
    rw [txtOne_mk,if_neg (by decide),txt_lines l p hp]
  ·
   unfold pieceM
   rw [if_neg h1,if_neg h2]
   have hs:∀ s∈sidesM R p,okL (F (thingsM p s))∧(txtAll l (F (thingsM p s))).Perm ((thingsM p s).map (textAt l)):=fun s hs=>hF _ (by rw [things_len];exact sides_less h2 hs) fun i hi=>hp i (mem_things (sides_in hs) hi)
   refine⟨okB_mk.2 ⟨.inr (.inl rfl),okL_all.2 fun b hb => ?_⟩,?_⟩
   ·
    obtain⟨s,hm,rfl⟩:=List.mem_map.1 hb
    exact okB_mk.2 ⟨.inr (.inr (.inr rfl)),(hs s hm).1⟩
   ·
    rw [txtOne_mk,if_neg (by decide),txtAll_flat,List.flatMap_map]
    have h3:=flat_perm (fun s=>txtOne l (BlkM.mk 4 0 (F (thingsM p s)))) (fun s=>(thingsM p s).map (textAt l)) (sidesM R p) fun s hm=>by
     rw [txtOne_mk,if_neg (by decide)]
     exact(hs s hm).2
    refine h3.trans ?_
    have h4:(sidesM R p).flatMap (fun s=>(thingsM p s).map (textAt l))=((sidesM R p).flatten.map fun k=>p.getD k 0).map (textAt l):=by
     rw [List.map_flatten,List.map_flatten,List.flatMap_def,List.map_map]
     congr 1
    rw [h4]
    have h5:=(((sides_perm R p).map fun k=>p.getD k 0).map (textAt l))
    rw [range_getD] at h5
    exact h5
theorem blk_perm(l:List VertM)(R:List (Nat × Nat)):∀(f:Nat) (t:List Nat),t.length<f→(∀ i∈t,i<l.length)→okL (blkM R f t)∧(txtAll l (blkM R f t)).Perm (t.map (textAt l))
 | 0,t,h,_=>absurd h (Nat.not_lt_zero _)
 | f+1,t,h,hl=>by
  rw [blkM]
  have hp:∀ p∈piecesM R t,okB (pieceM R (blkM R f) p)∧(txtOne l (pieceM R (blkM R f) p)).Perm (p.map (textAt l)):=fun p hp=>by
   have h4:=(pieces_sum R t t.length (Nat.le_refl _)).2 p hp
   exact piece_perm l R (blkM R f) p (fun i hi=>hl i (mem_pieces hp hi)) fun u hu hul=>blk_perm l R f u (by omega) hul
  refine⟨okL_all.2 fun b hb => ?_,?_⟩
  ·
   obtain⟨p,hm,rfl⟩:=List.mem_map.1 hb
   exact(hp p hm).1
  ·
   rw [txtAll_flat,List.flatMap_map]
   have h3:=flat_perm (fun p=>txtOne l (pieceM R (blkM R f) p)) (fun p=>p.map (textAt l)) (piecesM R t) fun p hm=>(hp p hm).2
   rw [flat_flatten,pieces_all] at h3
   exact h3
/-- nothing odd: just the lines -/
theorem piece_calm{R:List (Nat × Nat)}{F:List Nat→List BlkM}{p:List Nat}(h:oddB (pieceM R F p)=0):p.length=1:=by
 refine Classical.byContradiction fun h1 => ?_
 by_cases h2:(sidesM R p).length=1
 ·
  unfold pieceM at h
  rw [if_neg h1,if_pos h2,odd_23 (.inr rfl)] at h
  omega
 ·
  unfold pieceM at h
  rw [if_neg h1,if_neg h2,odd_23 (.inl rfl)] at h
  omega
theorem calm_map{R:List (Nat × Nat)}{F:List Nat→List BlkM}:∀ {ps:List (List Nat)},oddL (ps.map (pieceM R F))=0→ps.map (pieceM R F)=ps.flatten.map lineB
 | [],_=>rfl
 | p :: ps,h=>by
  rw [List.map_cons,oddL_cons] at h
  have h1:oddB (pieceM R F p)=0:=by omega
  have h2:oddL (ps.map (pieceM R F))=0:=by omega
  have h3:=piece_calm h1
  obtain⟨x,rfl⟩:=List.length_eq_one_iff.1 h3
  rw [List.map_cons,calm_map h2,List.flatten_cons,List.map_append]
  unfold pieceM
  rw [if_pos h3]
  rfl
theorem seen_lines(l:List VertM):∀ t:List Nat,(∀ i∈t,i<l.length)→seenAll l (t.map lineB)=t.map (textAt l)
 | [],_=>by rw [List.map_nil,seenAll_nil];rfl
 | i :: t,h=>by
  rw [List.map_cons,seenAll_cons,seen_lines l t fun j hj=>h j (List.mem_cons_of_mem _ hj)]
  have hi:=h i (List.mem_cons_self ..)
  have:seenOne l (lineB i)=[textAt l i]:=by
   unfold lineB
   rw [seenOne_mk,if_pos rfl,if_pos ⟨by omega,by omega⟩,Int.toNat_natCast]
  rw [this];rfl
/-! ### what is seen of a sheet -/
noncomputable def alTx(l:List VertM)(R:List (Nat × Nat)):List ByteArray:=(aliveX l R).map (textAt l)
theorem whole_told{l:List VertM}{R:List (Nat × Nat)}(hl:∀ i,i<l.length→isMark (textAt l i)=false):Told l (lnSeen l R) (txtAll l (lnBlk l R)) (lnOdd l R)∧(txtAll l (lnBlk l R)).Perm (alTx l R):=by
 have h:=blk_perm l R ((aliveX l R).length+1) (aliveX l R) (Nat.lt_succ_self _) fun i hi=>aliveX_lt hi
 exact⟨(told_all l hl _ h.1).1,h.2⟩
theorem whole_marks{l:List VertM}{R:List (Nat × Nat)}(hl:∀ i,i<l.length→isMark (textAt l i)=false):cntM (lnSeen l R) markA=lnOdd l R∧cntM (lnSeen l R) markE=lnOdd l R∧(lnSeen l R).length=(alTx l R).length+(cntM (lnSeen l R) markA+cntM (lnSeen l R) markE+cntM (lnSeen l R) markS+cntM (lnSeen l R) markT):=by
 obtain⟨h1,h2⟩:=whole_told (R:=R) hl
 refine⟨h1.first,h1.last,?_⟩
 have h3:=wl_marks (lnSeen l R)
 rw [h1.bare,h2.length_eq] at h3
 exact h3
theorem whole_calm{l:List VertM}{R:List (Nat × Nat)}(h:lnOdd l R=0):lnSeen l R=alTx l R:=by
 unfold lnOdd lnBlk at h
 unfold lnSeen lnBlk alTx
 rw [blkM] at h ⊢
 rw [calm_map h,pieces_all]
 exact seen_lines l _ fun i hi=>aliveX_lt hi
end Go.Proofs.YtanfebljiblhbaaGreatDoor
namespace Go.Proofs.YtanfebljiblhbaaGreatDoor
open Go Go.RowKit

theorem mark_A:markOk markA=true:=by decide +kernel
theorem mark_E:markOk markE=true:=by decide +kernel
theorem mark_S:markOk markS=true:=by decide +kernel
theorem mark_T:markOk markT=true:=by decide +kernel
theorem line_bare{t:ByteArray}(h:lineOk t=true):isMark t=false:=by
 cases hm:isMark t with
 | false=>rfl
 | true =>
  have:markOk t=true:=by
   unfold isMark at hm
   simp only [Bool.or_eq_true,decide_eq_true_eq] at hm
   rcases hm with((rfl|rfl)|rfl)|rfl
   ·
    exact mark_A
   ·
    exact mark_E
   ·
    exact mark_S
   ·
    exact mark_T
  unfold lineOk at h
  rw [this] at h
  simp at h
theorem lines_ok{L:List PatchM}(hw:WfG L)(hl:∀ p∈L,p.ops.length≤200){f:VidM}{x:VertM}(hx:x∈linesM L f):lineOk x.text=true:=by
 unfold linesM ofM at hx
 obtain⟨h1,h2⟩:=List.mem_filter.1 hx
 simp only [Bool.and_eq_true,decide_eq_true_eq] at h2
 have h3:=(mem_vertsM hl x).1 h1
 unfold vertM at h3
 obtain⟨o,ho,hxo⟩:=Option.map_eq_some_iff.1 h3
 have hk:o.kind=3:=by rw [← h2.1,← hxo]
 have ht:x.text=o.text:=by rw [← hxo]
 rw [ht]
 unfold vertOp at ho
 obtain⟨p,hp,hm⟩:=List.exists_of_findSome?_eq_some ho
 unfold madeBy at hm
 split at hm
 ·
  obtain⟨hget,_⟩:=Option.filter_eq_some_iff.1 hm
  have hg:=hw.good p hp
  unfold goodP at hg
  simp only [Bool.and_eq_true] at hg
  have ha:=hg.2.2.2.2
  unfold allB at ha
  rw [List.all_eq_true] at ha
  have hlt:=(List.getElem?_eq_some_iff.1 hget).1
  have h9:=ha _ (List.mem_range.2 hlt)
  rw [hget] at h9
  unfold oneB opGood opTail at h9
  simp only [Bool.and_eq_true] at h9
  have h8:=h9.1.2
  rw [hk] at h8
  rw [if_neg (by decide),if_neg (by decide),if_pos rfl] at h8
  simp only [Bool.and_eq_true] at h8
  exact h8.2
 ·
  cases hm
theorem wl_lines_bare{L:List PatchM}(hw:WfG L)(hl:∀ p∈L,p.ops.length≤200)(f:VidM):∀ i,i<(linesM L f).length→isMark (textAt (linesM L f) i)=false:=by
 intro i hi
 have h:=List.getElem?_eq_getElem hi
 rw [textAt_get h]
 exact line_bare (lines_ok hw hl (List.getElem_mem hi))
end Go.Proofs.YtanfebljiblhbaaGreatDoor
namespace Go.Proofs.YtanfebljiblhbaaGreatDoor
open Go

/-- a file as it is shown -/
noncomputable def fileT(L:List PatchM)(n:NameM):FileM:=⟨n.name,n.also.map fun t=>⟨t.toArray⟩,lnSeen (linesM L n.file) (relM L n.file)⟩
noncomputable def oddN(L:List PatchM)(n:NameM):Nat:=lnOdd (linesM L n.file) (relM L n.file)
/-- nothing is at odds -/
noncomputable def cleanM(L:List PatchM):Bool:=(allM L).all fun n=>decide (oddN L n=0) && decide (n.flaws=[])
/-- nothing is seen to be at odds -/
def plainF(f:FileM):Bool:=nameOk f.name && (decide (f.also.length=0) && f.lines.all fun t => !markOk t)
noncomputable def plainM(L:List PatchM):Bool:=(allM L).all fun n=>plainF (fileT L n)
section
variable {L : List PatchM}
/-- what is seen of a file: lines that may be, and marks -/
theorem seen_each{l:List VertM}{R:List (Nat × Nat)}(hl:∀ i,i<l.length→isMark (textAt l i)=false):∀ t∈lnSeen l R,isMark t=true∨t∈alTx l R:=by
 intro t ht
 obtain⟨h1,h2⟩:=whole_told (R:=R) hl
 cases hm:isMark t with
 | true=>exact .inl rfl
 | false =>
  right
  have h3:t∈bareT (lnSeen l R):=by unfold bareT;exact List.mem_filter.2 ⟨ht,by rw [hm];rfl⟩
  rw [h1.bare] at h3
  exact h2.mem_iff.1 h3
theorem mark_is{t:ByteArray}(h:isMark t=true):markOk t=true:=by
 unfold isMark at h
 simp only [Bool.or_eq_true,decide_eq_true_eq] at h
 rcases h with((rfl|rfl)|rfl)|rfl
 ·
  exact mark_A
 ·
  exact mark_E
 ·
  exact mark_S
 ·
  exact mark_T
theorem alive_line(hw:WfG L){f:VidM}:∀ t∈alTx (linesM L f) (relM L f),lineOk t=true:=by
 intro t ht
 unfold alTx at ht
 obtain⟨i,hi,rfl⟩:=List.mem_map.1 ht
 have h:=List.getElem?_eq_getElem (aliveX_lt hi)
 rw [textAt_get h]
 exact lines_ok hw (wf_len hw) (List.getElem_mem _)
theorem line_nomark{t:ByteArray}(h:lineOk t=true):markOk t=false:=by
 unfold lineOk at h
 simp only [Bool.and_eq_true,Bool.not_eq_true'] at h
 exact h.2
/-- nothing odd: no mark is seen, and the other way round -/
theorem odd_marks(hw:WfG L)(f:VidM):(lnSeen (linesM L f) (relM L f)).all (fun t => !markOk t)=decide (lnOdd (linesM L f) (relM L f)=0):=by
 have hl:=wl_lines_bare hw (wf_len hw) f
 rw [Bool.eq_iff_iff,List.all_eq_true,decide_eq_true_eq]
 constructor
 ·
  intro h
  have h1:=(whole_marks (R:=relM L f) hl).1
  rw [← h1]
  refine cnt_zero fun x hx e => ?_
  have:=h x hx
  rw [e,mark_A] at this
  cases this
 ·
  intro h t ht
  rw [whole_calm h] at ht
  rw [line_nomark (alive_line hw t ht)]
  rfl
/-- lines without marks may be lines -/
theorem lines_all(hw:WfG L)(f:VidM):(lnSeen (linesM L f) (relM L f)).all lineOk=(lnSeen (linesM L f) (relM L f)).all (fun t => !markOk t):=by
 have hl:=wl_lines_bare hw (wf_len hw) f
 rw [Bool.eq_iff_iff,List.all_eq_true,List.all_eq_true]
 constructor
 ·
  intro h t ht
  rw [line_nomark (h t ht)];rfl
 ·
  intro h t ht
  rcases seen_each hl t ht with hm|hm
  ·
   have:=h t ht
   rw [mark_is hm] at this;cases this
  ·
   exact alive_line hw t hm
theorem tilde_bad{t:ByteArray}{f:VidM}:nameOk (t++(tilde++textB f))=false:=by
 cases h:nameOk (t++(tilde++textB f)) with
 | false=>rfl
 | true=>exact absurd rfl (bc_ne (t:=t++(tilde++textB f)) (u:=t) (f:=f) h)
theorem tilde_bad0{f:VidM}:nameOk (tilde++textB f)=false:=by
 cases h:nameOk (tilde++textB f) with
 | false=>rfl
 | true=>exact absurd rfl (ab_ne (t:=tilde++textB f) (f:=f) h)
/-- a file's name: nothing is at odds just if it is one that may be, and there is no other -/
theorem name_clean(hw:WfG L)(c:ByteArray→Nat)(f:VidM)(l:List VertM)(hl:∀ x∈l,nameOk x.text=true):decide ((nameOne L c f l).flaws=[])=(nameOk (nameOne L c f l).name && decide ((nameOne L c f l).also.length=0)):=by
 cases l with
 | nil =>
  show decide (([3]:List UInt8)=[])=(nameOk (tilde++textB f) && decide (([]:List (List UInt8)).length=0))
  rw [tilde_bad0]
  rfl
 | cons x l =>
  have hx:=hl x (List.mem_cons_self ..)
  show decide (((if(alsoM (x :: l) x.text).length=0 then [] else [2])++(if 1<c x.text+1 then [4] else []):List UInt8)=[])=(nameOk (if 1<c x.text+1 then x.text++(tilde++textB f) else x.text) && decide ((alsoM (x :: l) x.text).length=0))
  by_cases h1:1<c x.text+1
  ·
   rw [if_pos h1,if_pos h1,tilde_bad]
   by_cases h2:(alsoM (x :: l) x.text).length=0
   ·
    rw [if_pos h2];rfl
   ·
    rw [if_neg h2];rfl
  ·
   rw [if_neg h1,if_neg h1,hx]
   by_cases h2:(alsoM (x :: l) x.text).length=0
   ·
    rw [if_pos h2];simp [h2]
   ·
    rw [if_neg h2];simp [h2]
/-- each name that is told is one of these -/
theorem all_one(k:Nat):∀ n∈(allTo L k).1,∃ c f,n=nameOne L c f (namesM L f):=by
 induction k with
 | zero=>intro n hn;rw [allTo_zero] at hn;exact absurd hn List.not_mem_nil
 | succ k ih =>
  intro n hn
  cases hf:(filesM L)[k]? with
  | none =>
   have h1:allTo L (k+1)=allTo L k:=by
    have hk:(filesM L).length≤k:=by
     rcases Nat.lt_or_ge k (filesM L).length with q|q
     ·
      rw [List.getElem?_eq_getElem q] at hf;cases hf
     ·
      exact q
    unfold allTo
    rw [List.take_of_length_le (by omega),List.take_of_length_le hk]
   rw [h1] at hn
   exact ih n hn
  | some f =>
   rw [allTo_succ hf] at hn
   unfold stepN at hn
   split at hn
   ·
    exact ih n hn
   ·
    rcases List.mem_append.1 hn with hn|hn
    ·
     exact ih n hn
    ·
     exact⟨_,f,List.mem_singleton.1 hn⟩
theorem all_names:∀ n∈allM L,∃ c f,n=nameOne L c f (namesM L f):=all_one _
/-- WHAT IS AT ODDS IS SEEN -/
theorem clean_plain(hw:WfG L):cleanM L=plainM L:=by
 unfold cleanM plainM
 rw [Bool.eq_iff_iff,List.all_eq_true,List.all_eq_true]
 refine forall_congr' fun n=>forall_congr' fun hn => ?_
 rw [← Bool.eq_iff_iff]
 obtain⟨c,f,rfl⟩:=all_names n hn
 rw [name_clean hw c f _ (fun x hx=>name_ok hw hx)]
 unfold plainF
 show(decide (oddN L _=0) && (_ && _))=(nameOk (nameOne L c f (namesM L f)).name && (decide (((nameOne L c f (namesM L f)).also.map fun t=>(⟨t.toArray⟩:ByteArray)).length=0) && (lnSeen (linesM L _) (relM L _)).all fun t => !markOk t))
 rw [odd_marks hw,List.length_map]
 unfold oddN
 cases nameOk (nameOne L c f (namesM L f)).name <;> cases decide ((nameOne L c f (namesM L f)).also.length=0) <;> simp
end
end Go.Proofs.YtanfebljiblhbaaGreatDoor
