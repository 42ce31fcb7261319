/- What is proved: PlanSays, for every input; of the listed tables the walk needs the powers of ten. -/
import Derived.Test.YtjccmcgglfncdaaGreatDoorPEdC
import Derived.Test.YtjccmcgglfncdaaGreatDoorPNmB
set_option linter.unusedVariables false
set_option linter.unusedSimpArgs false
set_option maxRecDepth 100000
set_option maxHeartbeats 40000000
namespace Go.Proofs.YtjccmcgglfncdaaGreatDoor
open Go Go.RowKit
variable{want:List ByteArray}{ks:List Int}{kl ops:List OpM}{l:List VertM}{at':List VidM}{B c from' gA gK j m:Nat}{p:Option Addr}{id:PidM}{e:TypeId}{file:VidM}{w w0 wr:World}
theorem vids_cells(n:Nat):(madeCells #[.int .u8 0,.int .u16 0,.int .u8 0] (n*3)).toList=(List.replicate n noVid).flatMap encVid:=by
 refine List.ext_getElem? fun k => ?_
 by_cases hk:k<n*3
 ·
  have h2:=flat_get encVid_len (List.replicate n noVid) (k / 3) (k % 3) noVid (by rw [List.getElem?_replicate,if_pos (by omega)]) (by omega);rw [show k / 3*3+k % 3=k by omega] at h2;rw [h2];unfold madeCells;have h3:k % 3=0∨k % 3=1∨k % 3=2:=by omega
  rcases h3 with h3|h3|h3 <;> simp [h3,hk] <;> rfl
 rw [List.getElem?_eq_none (by simp [madeCells];omega),List.getElem?_eq_none (by rw [flat_len encVid_len];simp;omega)]
theorem own_fullN{g n sz:Nat}{xs:List Value}(h:w.ownsRow B e sz (.slice (some ⟨g,0,none⟩) n n) n xs):ArrT w g e xs∧B≤g:=by
 obtain⟨h1,h2⟩:=h;rcases h2 with⟨hv,_⟩|⟨g',cap,cur,hv,hb,hg,hnc,hm,hs,ht⟩
 · cases hv
 cases hv
 have:cur.toList=xs:=by rw [← ht,List.take_of_length_le (by simp;omega)]
 refine⟨?_,hb⟩;unfold ArrT;rw [hg,← this]
def atL(at':List VidM)(j m:Nat):List VidM:=at'++List.replicate (m - j) noVid
theorem atL_zero(m:Nat):atL [] 0 m=List.replicate m noVid:=rfl
theorem atL_set(ha:at'.length=j)(hj:j<m)(v:VidM):(atL at' j m).set j v=atL (at'++[v]) (j+1) m:=by unfold atL;rw [List.set_append_right _ _ (by omega),ha,Nat.sub_self,show m - j=(m - (j+1))+1 by omega,List.replicate_succ,List.set_cons_zero,List.append_assoc];rfl
theorem atL_len(ha:at'.length=j)(hj:j≤m):(atL at' j m).length=m:=by unfold atL;rw [List.length_append,ha,List.length_replicate];omega
theorem atL_all:atL at' m m=at':=by unfold atL;rw [Nat.sub_self];simp
theorem oown_form{v:Value}{xs:List OpM}(h:GOwn encOp 8 e w B v xs):∃ p c,v=.slice p xs.length c:=by obtain⟨a,cap,e1,_⟩:=h.row.at encOp_len;exact⟨a,cap,e1⟩
theorem oown_more{v:Value}{xs ys:List OpM}{o:OpM}(h:GOwn encOp 8 e w B v (xs++[o]))(hy:ys=xs++[o]):∃(p:Option Addr) (c:Nat),v=.slice p ys.length c∧GOwn encOp 8 e w B v ys:=by subst hy;obtain⟨p,c,e⟩:=oown_form h;exact⟨p,c,e,h⟩
structure MidE (wr:World) (w0:World) (gK gA m j:Nat) (ks:List Int) (p:Option Addr) (c:Nat) (ops:List OpM) (at':List VidM):Prop where
 kept:ArrT wr gK 3 (keptV1 ks)
 names:ArrT wr gA 74 ((atL at' j m).flatMap encVid)
 own:GOwn encOp 8 76 wr w0.heap.size (.slice p ops.length c) ops
 below:Be w0 wr
theorem MidE.over{w2:World}(h:MidE wr w0 gK gA m j ks p c ops at')(hb:Be wr w2):MidE w2 w0 gK gA m j ks p c ops at':=
 ⟨h.kept.over hb,h.names.over hb,h.own.over hb,bvo h.below hb⟩
section
variable {P : Program} {ty : TypeId} {size : Nat} {w : World} {ops : Array Oper} {rest : List Oper} {o : Oper} {a : Act} {Q : Exit → Act → World → Prop}
theorem wpList_store_arrN(T:RowT P ty size)(hgd:o.guard=none)(x y:Operand)(ho:o.op=.store ty x y){sz g n:Nat}{cs:List Value}(hA:ArrT w g e cs)(hl:cs.length=n*sz)(hm:n≤maxLen)(k:Nat)(new:List Value)
  (hx:a.eval x=.pointer (some ⟨g,k,none⟩)) (hy:a.eval y=.agg new.toArray) (hn:new.length=size) (hk:k+new.length≤n*sz) (h1:∀ u∈new,u.oneCell'=true)
  (h:∀ w',ArrT w' g e (cs.take k++new++cs.drop (k+new.length))→w.grownBy w' (some g)→wpList P ops Q rest (a.put o.dst undef) w'):wpList P ops Q (o :: rest) a w:=
 wpList_store_own T hgd x y ho (B:=g) (e:=e) (sz:=sz) (n:=n) (cap:=n) (xs:=cs) ⟨⟨[],by rw [List.append_nil];exact hA,by rw [List.append_nil];exact hl⟩,hl,Nat.le_refl _,Nat.le_refl _,hm⟩ k new hx hy hn hk h1 fun w' hO hg _=>h w' (own_fullN hO.own).1 hg
end
theorem vids_put{l:List VidM}{v:VidM}(h:j<l.length):(l.flatMap encVid).take (j*3)++encVid v++(l.flatMap encVid).drop (j*3+(encVid v).length)=(l.set j v).flatMap encVid:=by rw [flat_set encVid_len l j v h,show(j+1)*3=j*3+(encVid v).length by rw [encVid_len];omega]
theorem MidE.name{w':World}(h:MidE wr w0 gK gA m j ks p c ops at')(ha:at'.length=j)(hj:j<m)(hg:w0.heap.size≤gA)(hne:gK≠gA){v:VidM}
  (hA:ArrT w' gA 74 (((atL at' j m).flatMap encVid).take (j*3)++encVid v++((atL at' j m).flatMap encVid).drop (j*3+(encVid v).length))) (hgr:wr.grownBy w' (some gA)):MidE w' w0 gK gA m (j+1) ks p c ops (at'++[v]):=by rw [vids_put (by rw [atL_len ha (Nat.le_of_lt hj)];exact hj),atL_set ha hj] at hA;exact⟨h.kept.kept hgr (fun e=>hne (Option.some.inj e)),hA,own_kept h.own hgr (h.names.ne h.own (by decide)),h.below.grown hgr h.below.size fun q hq=>by cases hq;exact hg⟩
theorem atL_flat(ha:at'.length=j)(hj:j≤m):((atL at' j m).flatMap encVid).length=m*3:=by rw [flat_len encVid_len,atL_len ha hj]
theorem MidE.op{w9:World}{p9:Option Addr}{c9:Nat}{ops9:List OpM}(h:MidE wr w0 gK gA m j ks p c ops at')(ho:GOwn encOp 8 76 w9 w0.heap.size (.slice p9 ops9.length c9) ops9)(hg:wr.grownBy w9 (Value.slice p ops.length c).ownBlock) :
  MidE w9 w0 gK gA m j ks p9 c9 ops9 at':=
 ⟨h.kept.kept hg (h.kept.ne h.own (by decide)),h.names.kept hg (h.names.ne h.own (by decide)),ho,bgr h.below h.below.size h.own hg⟩
def A1Rel(w0:World)(l:List VertM)(file:VidM)(id:PidM)(from':Nat)(ks:List Int)(want:List ByteArray)(kl:List OpM)(gK gA m:Nat)(v12 v30:Value)(wr:World):Prop:=
 ∃(j:Nat) (ops:List OpM) (at':List VidM) (p:Option Addr) (c:Nat),j≤m∧v30=.int .i64 j∧v12=.slice p ops.length c∧Hid ((ops,at')=addsTo l file id from' ks want kl j)∧Hid (MidE wr w0 gK gA m j ks p c ops at')
def A2Rel(w0:World)(R:List (Nat × Nat))(ks:List Int)(at':List VidM)(ops0:List OpM)(gK gA m:Nat)(v12 v69:Value)(wr:World):Prop:=
 ∃(j:Nat) (ops:List OpM) (p:Option Addr) (c:Nat),j≤m∧v69=.int .i64 j∧v12=.slice p ops.length c∧Hid (ops=ops0++tiesTo R ks at' j)∧Hid (MidE wr w0 gK gA m m ks p c ops at')
theorem rowVidE:RowT Tryz.prog 74 3:=rowT_of Tryz.underlying74 rfl (by kernel_rfl)
theorem slVidE:SlT Tryz.prog 148 74 3 6:=slT_of Tryz.underlying148 (by kernel_rfl) (by decide)
attribute [local irreducible] keptV1 keptTo textAt firmX aliveX killsE addsTo tiesTo atL
theorem adds_both(hl:ks.length=want.length)(hj:j≤want.length)(h:(ops,at')=addsTo l file id from' ks want kl j):at'.length=j∧ops.length≤kl.length+j:=by have h1:=adds_len2 (l:=l) (file:=file) (id:=id) (from':=from') (ks:=kl) hl j hj;have h2:=adds_len1 (l:=l) (file:=file) (id:=id) (from':=from') (kept:=ks) (want:=want) (ks:=kl) j;rw [← h] at h1 h2;exact⟨h1,h2⟩
theorem adds_next1{i:Nat}{t:ByteArray}{x:VertM}(hk:ks[j]? = some (i:Int))(ht:want[j]? = some t)(hx:l[i]? = some x)(h:(ops,at')=addsTo l file id from' ks want kl j) :
  (ops,at'++[x.id])=addsTo l file id from' ks want kl (j+1):=by rw [adds_yes hk ht,← h,getD_of hx]
theorem adds_next2{t:ByteArray}(hk:ks[j]? = some (-1))(ht:want[j]? = some t)(h:(ops,at')=addsTo l file id from' ks want kl j) :
  (ops++[⟨3,file,noVid,t⟩],at'++[⟨id,UInt8.ofNat (from'+ops.length)⟩])=addsTo l file id from' ks want kl (j+1):=by rw [adds_no hk ht,← h]
end Go.Proofs.YtjccmcgglfncdaaGreatDoor
namespace Go.Proofs.YtjccmcgglfncdaaGreatDoor
open Go Go.RowKit
def one01(b:Bool):Value:=.int .i64 (if b then 1 else 0)
theorem lops_any(v u:Value)(l m:List OpM)(w:World)(hv:GRow encOp 8 w v l)(hu:GRow encOp 8 w u m) :
  Calls Tryz.prog 17 #[v,u] w fun e w'=>e=.returned (one01 (decide (l=m)))∧Be w w':=by
 obtain⟨a,cap,rfl,h1,h2,hc⟩:=hv.at encOp_len;obtain⟨a',cap',rfl,h1',h2',hc'⟩:=hu.at encOp_len;unfold maxLen at h2 h2';have HC:=Lh hc;have HC':=Lh hc';clear hv hu hc hc';have gd:=fun p q xs ys w=>guard_op .neq p q xs ys w
 by_cases hlen:l.length=m.length
 rotate_left
 ·
  have HN:Hid (decide (l=m)=false):=decide_eq_false (fun h=>hlen (by rw [h]));have hq:((l.length:Int) != (m.length:Int))=true:=by simp;omega
  clear hlen;go_enter Tryz.func17,Tryz.ntmps17;go_wp2;go_ret;exact⟨rvl (congrArg one01 HN.o.symm),Below.refl _ _⟩
 have HL:=Lh hlen;have hq:((l.length:Int) != (m.length:Int))=false:=by simp [hlen]
 clear hlen;go_enter Tryz.func17,Tryz.ntmps17;go_wp2;go_loopw [5] (fun i wr=>∃ k:Nat,k≤l.length∧i=.int .i64 k∧Hid (l.take k=m.take k)∧Be w wr) (fun i _=>l.length - (intOf i).toNat)
 case atStart=>exact⟨0,by omega,rfl,rfl,Below.refl _ _⟩
 obtain⟨k,hk,rfl,HK,hbl⟩:=hrel
 by_cases hlt:k<l.length
 rotate_left
 ·
  obtain rfl:k=l.length:=by omega
  have HN:Hid (decide (l=m)=true):=decide_eq_true (take_all HL.o HK.o);go_wp2;go_ret;exact⟨rvl (congrArg one01 HN.o.symm),hbl⟩
 obtain⟨bl,ol,rfl,sl,hcl⟩:=HC.o.resolve_left (by omega);obtain⟨bm,om,rfl,sm,hcm⟩:=HC'.out.resolve_left (by have:=HL.o;omega);obtain⟨x,hx⟩:=gol hlt;obtain⟨y,hy⟩:=gol (xs:=m) (i:=k) (by have:=HL.o;omega);have hkm:k<m.length:=by have:=HL.o;omega
 have x0:wr.cell? ⟨bl,ol+k*8,none⟩=some (.int .u8 x.kind.toNat):=((hcl k x hx wr hbl)).2 0 _ rfl;have x1:wr.cell? ⟨bl,ol+k*8+1,none⟩=some (.int .u8 x.at'.pid.author.toNat):=((hcl k x hx wr hbl)).2 1 _ rfl;have x2:wr.cell? ⟨bl,ol+k*8+2,none⟩=some (.int .u16 x.at'.pid.seq.toNat):=((hcl k x hx wr hbl)).2 2 _ rfl;have x3:wr.cell? ⟨bl,ol+k*8+3,none⟩=some (.int .u8 x.at'.n.toNat):=((hcl k x hx wr hbl)).2 3 _ rfl;have x4:wr.cell? ⟨bl,ol+k*8+4,none⟩=some (.int .u8 x.to.pid.author.toNat):=((hcl k x hx wr hbl)).2 4 _ rfl;have x5:wr.cell? ⟨bl,ol+k*8+5,none⟩=some (.int .u16 x.to.pid.seq.toNat):=((hcl k x hx wr hbl)).2 5 _ rfl;have x6:wr.cell? ⟨bl,ol+k*8+6,none⟩=some (.int .u8 x.to.n.toNat):=((hcl k x hx wr hbl)).2 6 _ rfl;have x7:wr.cell? ⟨bl,ol+k*8+7,none⟩=some (.string x.text):=((hcl k x hx wr hbl)).2 7 _ rfl;have y0:wr.cell? ⟨bm,om+k*8,none⟩=some (.int .u8 y.kind.toNat):=((hcm k y hy wr hbl)).2 0 _ rfl;have y1:wr.cell? ⟨bm,om+k*8+1,none⟩=some (.int .u8 y.at'.pid.author.toNat):=((hcm k y hy wr hbl)).2 1 _ rfl;have y2:wr.cell? ⟨bm,om+k*8+2,none⟩=some (.int .u16 y.at'.pid.seq.toNat):=((hcm k y hy wr hbl)).2 2 _ rfl;have y3:wr.cell? ⟨bm,om+k*8+3,none⟩=some (.int .u8 y.at'.n.toNat):=((hcm k y hy wr hbl)).2 3 _ rfl;have y4:wr.cell? ⟨bm,om+k*8+4,none⟩=some (.int .u8 y.to.pid.author.toNat):=((hcm k y hy wr hbl)).2 4 _ rfl;have y5:wr.cell? ⟨bm,om+k*8+5,none⟩=some (.int .u16 y.to.pid.seq.toNat):=((hcm k y hy wr hbl)).2 5 _ rfl;have y6:wr.cell? ⟨bm,om+k*8+6,none⟩=some (.int .u8 y.to.n.toNat):=((hcm k y hy wr hbl)).2 6 _ rfl;have y7:wr.cell? ⟨bm,om+k*8+7,none⟩=some (.string y.text):=((hcm k y hy wr hbl)).2 7 _ rfl;have sX:=(hcl k x hx wr hbl).1;have sY:=(hcm k y hy wr hbl).1;have HX:=Lh hx;have HY:=Lh hy;clear hcl hcm hx hy
 by_cases hxy:x=y
 ·
  have hne:=neq_op x y false (by simp [hxy]);unfold opV at hne;have HK2:Hid (l.take (k+1)=m.take (k+1)):=by show _=_;rw [tsg HX.o,tsg HY.o,HK.o,hxy]
  clear hxy;go_wp2_with fail;refine wlo 9 fun hcur=>?_;repeat refine lxq ?_
  refine lxe ?_;go_wp2;go_roundw
  case rel=>exact⟨k+1,hlt,by go_num,HK2,hbl.drew⟩
  simp [intOf];omega
 have hne:=neq_op x y true (by simp [hxy]);unfold opV at hne;have HN:Hid (decide (l=m)=false):=decide_eq_false (take_ne HX.o HY.o hxy);clear hxy;go_wp2_with fail;refine wlo 9 fun hcur=>?_;repeat refine lxq ?_
 refine lxe ?_;go_wp2;go_ret;exact⟨rvl (congrArg one01 HN.o.symm),hbl.drew⟩
section
variable{α:Type}
theorem putS_lenF{key:α→Nat}(x:α):∀ r:List α,(putS key x r).length≤r.length+1
 | []=>by simp [putS]
 | y :: r=>by
  have:=putS_lenF (key:=key) x r;rw [putS];split
  · simp
  split
  · simp
  simp only [List.length_cons];omega
theorem setS_few{key:α→Nat}(l:List α):(setS key l).length≤l.length:=by
 have:∀(l out:List α),(l.foldl (fun out x=>putS key x out) out).length≤out.length+l.length:=by
  intro l;induction l with
  | nil=>intro out;simp
  | cons x l ih =>intro out;have h1:=ih (putS key x out);have h2:=putS_lenF (key:=key) x out;rw [List.foldl_cons,List.length_cons];omega
 have:=this l [];simpa [setS] using this
theorem flat_few{β:Type}(f:α→List β)(b:Nat):∀ l:List α,(∀ x∈l,(f x).length≤b)→(l.flatMap f).length≤b*l.length
 | [],_=>by simp
 | x :: l,h=>by have h1:=h x (List.mem_cons_self ..);have h2:=flat_few f b l fun y hy=>h y (List.mem_cons_of_mem _ hy);rw [List.flatMap_cons,List.length_append,List.length_cons,Nat.mul_succ];omega
theorem idsOf_few(L:List PatchM)(b:Nat)(h:∀ p∈L,p.ops.length≤b):(idsOf L).length≤b*L.length:=by refine flat_few _ b L fun p hp=>Nat.le_trans (List.length_filterMap_le _ _) ?_;rw [List.length_range];exact h p hp
theorem edgesOf_few(L:List PatchM)(b:Nat)(h:∀ p∈L,p.ops.length≤b):(edgesOf L).length≤b*L.length:=
 flat_few _ b L fun p hp=>Nat.le_trans (List.length_filterMap_le _ _) (h p hp)
end
section
variable{t:List FileM}{L:List PatchM}{k m:Nat}
def killOp(v:VidM):OpM:=⟨5,v,noVid,⟨#[]⟩⟩
noncomputable def killsN(L:List PatchM)(t:List FileM)(n:NameM):List OpM:=
 if findT t n.name<0 then [killOp n.file] else((namesM L n.file).filter fun v=>decide (v.text≠n.name)).map fun v=>killOp v.id
noncomputable def killsTo(L:List PatchM)(t:List FileM)(k:Nat):List OpM:=((allM L).take k).flatMap (killsN L t)
noncomputable def linesOps(l:List VertM)(R:List (Nat × Nat))(file:VidM)(id:PidM)(c:Nat)(want:List ByteArray):List OpM:=
 editM l R (aliveX l R) (firmX l R) file id c want (pairs ((firmX l R).map (textAt l)) want)
def noFile:FileM:=⟨⟨#[]⟩,[],[]⟩
noncomputable def plEdStep(L:List PatchM)(t:List FileM)(id:PidM)(out:List OpM)(n:NameM):List OpM:=
 if findT t n.name<0 then out else out++linesOps (linesM L n.file) (relM L n.file) n.file id out.length (t.getD (findT t n.name).toNat noFile).lines
noncomputable def edTo(L:List PatchM)(t:List FileM)(id:PidM)(k:Nat):List OpM:=((allM L).take k).foldl (plEdStep L t id) (killsTo L t (allM L).length)
def isThere(ns:List NameM)(f:FileM):Bool:=ns.any fun n=>decide (n.name=f.name)
noncomputable def fileOps(id:PidM)(c:Nat)(f:FileM):List OpM:=
 ⟨1,noVid,noVid,⟨#[]⟩⟩ :: ⟨2,⟨id,UInt8.ofNat c⟩,noVid,f.name⟩ :: linesOps [] [] ⟨id,UInt8.ofNat c⟩ id (c+2) f.lines
noncomputable def newStep(ns:List NameM)(id:PidM)(out:List OpM)(f:FileM):List OpM:=if isThere ns f then out else out++fileOps id out.length f
noncomputable def newTo(L:List PatchM)(t:List FileM)(id:PidM)(k:Nat):List OpM:=(t.take k).foldl (newStep (allM L) id) (edTo L t id (allM L).length)
noncomputable def planM(L:List PatchM)(t:List FileM)(id:PidM):List OpM:=newTo L t id t.length
theorem killsTo_succ{n:NameM}(h:(allM L)[k]? = some n):killsTo L t (k+1)=killsTo L t k++killsN L t n:=by unfold killsTo;rw [take_one h,List.flatMap_append];simp
theorem edTo_succ{id:PidM}{n:NameM}(h:(allM L)[k]? = some n):edTo L t id (k+1)=plEdStep L t id (edTo L t id k) n:=by unfold edTo;rw [take_one h,List.foldl_append];rfl
theorem newTo_succ{id:PidM}{f:FileM}(h:t[k]? = some f):newTo L t id (k+1)=newStep (allM L) id (newTo L t id k) f:=by unfold newTo;rw [take_one h,List.foldl_append];rfl
theorem edTo_zero(L:List PatchM)(t:List FileM)(id:PidM):edTo L t id 0=killsTo L t (allM L).length:=rfl
theorem newTo_zero(L:List PatchM)(t:List FileM)(id:PidM):newTo L t id 0=edTo L t id (allM L).length:=rfl
theorem killsTo_zero(L:List PatchM)(t:List FileM):killsTo L t 0=[]:=rfl
theorem linesOps_len(l:List VertM)(R:List (Nat × Nat))(file:VidM)(id:PidM)(c:Nat)(want:List ByteArray):(linesOps l R file id c want).length≤l.length+2*want.length:=by unfold linesOps;rw [edit_eq,List.length_append];have h1:=adds_len1 (l:=l) (file:=file) (id:=id) (from':=c) (kept:=keptTo (firmX l R) (pairs ((firmX l R).map (textAt l)) want) want.length) (want:=want) (ks:=killsE l (aliveX l R) (keptTo (firmX l R) (pairs ((firmX l R).map (textAt l)) want) want.length)) want.length;have h2:=kills_len l (keptTo (firmX l R) (pairs ((firmX l R).map (textAt l)) want) want.length) (aliveX l R);have h3:=ties_len R (keptTo (firmX l R) (pairs ((firmX l R).map (textAt l)) want) want.length) (addsTo l file id c (keptTo (firmX l R) (pairs ((firmX l R).map (textAt l)) want) want.length) want (killsE l (aliveX l R) (keptTo (firmX l R) (pairs ((firmX l R).map (textAt l)) want) want.length)) want.length).2 want.length;have h4:=aliveX_len l R;omega
theorem namesM_few{f:VidM}(h:(idsM L).length≤m):(namesM L f).length≤m:=by unfold namesM;rw [List.length_map];refine Nat.le_trans (setS_few _) ?_;rw [List.length_map];unfold aliveM ofM;refine Nat.le_trans (List.length_filter_le _ _) (Nat.le_trans (List.length_filter_le _ _) ?_);unfold vertsM;rw [List.length_map];exact h
theorem killsTo_len(L:List PatchM)(t:List FileM)(hm:∀ n∈allM L,(namesM L n.file).length≤m)(h1:1≤m):∀ k,(killsTo L t k).length≤k*m
 | 0=>by simp [killsTo]
 | k+1=>by
  have ih:=killsTo_len L t hm h1 k;rcases Nat.lt_or_ge k (allM L).length with hk|hk
  ·
   obtain⟨n,hn⟩:=gol hk;rw [killsTo_succ hn,List.length_append];have h2:(killsN L t n).length≤m:=by
    unfold killsN;split
    · simpa using h1
    rw [List.length_map];exact Nat.le_trans (List.length_filter_le _ _) (hm n (List.mem_of_getElem? hn))
   have:(k+1)*m=k*m+m:=(by rw [Nat.add_mul,Nat.one_mul]);omega
  have h2:killsTo L t (k+1)=killsTo L t k:=by unfold killsTo;rw [List.take_of_length_le (by omega),List.take_of_length_le hk]
  rw [h2];exact Nat.le_trans ih (Nat.mul_le_mul_right _ (by omega))
theorem edTo_len(L:List PatchM)(t:List FileM)(id:PidM){p:Nat}(hm:∀ n∈allM L,(linesM L n.file).length≤m)(ht:∀ f∈t,f.lines.length≤p):∀ k,(edTo L t id k).length≤(killsTo L t (allM L).length).length+k*(m+2*p)
 | 0=>by rw [edTo_zero];omega
 | k+1=>by
  have ih:=edTo_len L t id hm ht k;have h0:(k+1)*(m+2*p)=k*(m+2*p)+(m+2*p):=by rw [Nat.add_mul,Nat.one_mul]
  rcases Nat.lt_or_ge k (allM L).length with hk|hk
  ·
   obtain⟨n,hn⟩:=gol hk;rw [edTo_succ hn];unfold plEdStep;split
   · omega
   rw [List.length_append];have h1:=linesOps_len (linesM L n.file) (relM L n.file) n.file id (edTo L t id k).length (t.getD (findT t n.name).toNat noFile).lines;have h2:=hm n (List.mem_of_getElem? hn);have h3:(t.getD (findT t n.name).toNat noFile).lines.length≤p:=by
    rw [List.getD_eq_getElem?_getD];cases hg:t[(findT t n.name).toNat]? with
    | none=>simp [noFile]
    | some f=>simpa using ht f (List.mem_of_getElem? hg)
   omega
  have h2:edTo L t id (k+1)=edTo L t id k:=by unfold edTo;rw [List.take_of_length_le (by omega),List.take_of_length_le hk]
  rw [h2];omega
theorem newTo_len(L:List PatchM)(t:List FileM)(id:PidM){p:Nat}(ht:∀ f∈t,f.lines.length≤p):∀ k,(newTo L t id k).length≤(edTo L t id (allM L).length).length+k*(2+2*p)
 | 0=>by rw [newTo_zero];omega
 | k+1=>by
  have ih:=newTo_len L t id ht k;have h0:(k+1)*(2+2*p)=k*(2+2*p)+(2+2*p):=by rw [Nat.add_mul,Nat.one_mul]
  rcases Nat.lt_or_ge k t.length with hk|hk
  ·
   obtain⟨f,hf⟩:=gol hk;rw [newTo_succ hf];unfold newStep;split
   · omega
   rw [List.length_append];unfold fileOps;have h1:=linesOps_len [] [] ⟨id,UInt8.ofNat (newTo L t id k).length⟩ id ((newTo L t id k).length+2) f.lines;have h2:=ht f (List.mem_of_getElem? hf);simp only [List.length_cons,List.length_nil] at h1 ⊢;omega
  have h2:newTo L t id (k+1)=newTo L t id k:=by unfold newTo;rw [List.take_of_length_le (by omega),List.take_of_length_le hk]
  rw [h2];omega
end
def ShV(w:World)(s:Option Addr)(l:List VertM)(R:List (Nat × Nat)):Prop:=(∃ b,s=some ⟨b,0,none⟩∧ShAt w b l R)∨(s=none∧l=[]∧R=[])
theorem ShV.over{w w':World}{s:Option Addr}{l:List VertM}{R:List (Nat × Nat)}(h:ShV w s l R)(hb:Be w w'):ShV w' s l R:=
 h.imp (fun⟨b,e,h⟩=>⟨b,e,h.over hb⟩) id
theorem orderN:orderM [] 0=[]:=up_order (L:=[]) (fun s h=>absurd h (List.not_mem_nil)) 0
theorem sorderN_any(w:World):Calls Tryz.prog 189 #[.pointer none] w fun e w'=>e=.returned (.slice none 0 0)∧w'=w:=by go_enter Tryz.func189,Tryz.ntmps189;go_wp2;go_ret;exact⟨rfl,rfl⟩
theorem idxN_any(f:Value)(w:World):Calls Tryz.prog 249 #[.slice none 0 0,f] w fun e w'=>e=.returned (.int .i64 (-1))∧w'=w:=by
 go_enter Tryz.func249,Tryz.ntmps249;go_wp2;go_loopw [8] (fun v8 wr=>v8=.int .i64 0∧wr=w) (fun v8 _=>0)
 case atStart=>exact⟨rfl,rfl⟩
 obtain⟨rfl,hw⟩:=hrel;obtain rfl:=hw;go_wp2;go_ret;exact⟨rfl,rfl⟩
theorem delN_any(f:Value)(w:World):Calls Tryz.prog 188 #[.slice none 0 0,f] w fun e w'=>e=.returned (.slice none 0 0)∧w'=w:=by go_enter Tryz.func188,Tryz.ntmps188;go_wp2_with fail;refine(idxN_any _ _).mono ?_;rintro e w1 ⟨rfl,hw⟩;obtain rfl:=hw.symm;go_wp2;go_ret;exact⟨rfl,rfl⟩
theorem saliveN_any(w:World):Calls Tryz.prog 118 #[.pointer none] w fun e w'=>e=.returned (.slice none 0 0)∧Be w w':=by have HC:=Lh (anw w #[.pointer none] 90);have HB:=Lh (bnew (w:=w) (.cells #[.pointer none] 90));go_enter Tryz.func118,Tryz.ntmps118;go_upto_region 1 with fail;generalize w.alloc (.cells #[.pointer none] 90)=w0 at *;obtain⟨c0,sc⟩:=HC.o.c1;go_wp2_with fail;refine(sorderN_any _).mono ?_;rintro e w1 ⟨rfl,hw⟩;obtain rfl:=hw.symm;go_wp2_with fail;refine(delN_any _ _).mono ?_;rintro e w1 ⟨rfl,hw⟩;obtain rfl:=hw.symm;go_wp2;go_ret;exact⟨rfl,HB.o⟩
theorem saliveV_any(s:Option Addr)(l:List VertM)(R:List (Nat × Nat))(w:World)(h:ShV w s l R)(hl:l.length≤65536):Calls Tryz.prog 118 #[.pointer s] w (SaRes w l R):=by
 rcases h with⟨b,rfl,h⟩|⟨rfl,rfl,rfl⟩
 · exact salive_any b l R w h hl
 refine(saliveN_any w).mono ?_;rintro e w' ⟨rfl,hb⟩;refine⟨_,rfl,?_,hb⟩;rw [show([]:List VertM).length=0 from rfl,orderN];exact gown_nil _ _
theorem sfirmV_any(s:Option Addr)(i:Nat)(l:List VertM)(R:List (Nat × Nat))(w:World)(h:ShV w s l R)(hi:i<l.length)(hl:l.length≤65536):Calls Tryz.prog 277 #[.pointer s,.int .i64 i] w (fun e w'=>e=.returned (.bool (firmB R l.length i))∧w'=w):=by
 rcases h with⟨b,rfl,h⟩|⟨rfl,rfl,rfl⟩
 · exact sfirm_any b i l R w h hi hl
 exact absurd hi (by simp)
theorem svertV_any(s:Option Addr)(i:Nat)(x:VertM)(l:List VertM)(R:List (Nat × Nat))(w:World)(h:ShV w s l R)(hx:l[i]? = some x):Calls Tryz.prog 149 #[.pointer s,.int .i64 i] w (SvRes w x):=by
 rcases h with⟨b,rfl,h⟩|⟨rfl,rfl,rfl⟩
 · exact svert_any b i x l R w h hx
 simp at hx
theorem srelV_any(s:Option Addr)(l:List VertM)(R:List (Nat × Nat))(w:World)(h:ShV w s l R)(hl:0<l.length):Calls Tryz.prog 117 #[.pointer s] w (fun e w'=>(∃ r,e=.returned (.pointer (some ⟨r,0,none⟩))∧RelAt w r l.length R)∧w'=w):=by
 rcases h with⟨b,rfl,h⟩|⟨rfl,rfl,rfl⟩
 · exact srel_any b l R w h
 exact absurd hl (by simp)
end Go.Proofs.YtjccmcgglfncdaaGreatDoor
set_option maxRecDepth 100000
set_option maxHeartbeats 40000000
namespace Go.Proofs.YtjccmcgglfncdaaGreatDoor
open Go Go.RowKit
section
attribute [local irreducible] aliveX firmX firmTo firmB
theorem efirmV_any(s:Option Addr)(l:List VertM)(R:List (Nat × Nat))(w:World)(h:ShV w s l R)(hl:l.length≤65536):Calls Tryz.prog 219 #[.pointer s] w (OwnRes encI 1 3 w (firmX l R)):=by
 have HS:=Lh h;have hal:=aliveX_len l R;clear h;go_enter Tryz.func219,Tryz.ntmps219;go_wp2_with fail;refine(saliveV_any s l R _ HS.o hl).mono ?_;rw [sares_is];rintro e w1 ⟨v,rfl,ho,hb⟩;obtain⟨a,cap,rfl,h1,h2,hc⟩:=irow_at ho.row;unfold maxLen at h2;have HC:=Lh hc;have HB:=Lh hb;clear ho hc hb;go_wp2;go_loopw [3,9] (fun v3 v9 wr=>FmRel w1 l R v3 v9 wr) (fun _ v9 _=>(aliveX l R).length - (intOf v9).toNat)
 case atStart=>exact⟨0,by omega,rfl,Lh (by rw [firmTo_zero];exact gown_nil _ _),Below.refl _ _⟩
 obtain⟨k,hk,rfl,HM,hbl⟩:=hrel;rename World=>wr
 by_cases hlt:k<(aliveX l R).length
 rotate_left
 ·
  obtain rfl:k=(aliveX l R).length:=by omega
  have HE:=HM.o;rw [firmTo_all] at HE;have HE2:=Lh (HE.base HB.o.size);clear HE;go_wp2;go_ret;exact⟨_,rfl,HE2.o,bvo HB.o hbl.o⟩
 obtain⟨b,off,rfl,sb,hcb⟩:=HC.o.resolve_left (by omega);obtain⟨i,hi⟩:=gol hlt;obtain⟨sx,x0⟩:=hcb k i hi _ hbl.o;have hil:=aliveX_lt (List.mem_of_getElem? hi);have HI:=Lh hi;have HSr:=Lh (HS.o.over (bvo HB.o hbl.o));have hfl:=firmTo_len l R k;clear hcb hi;cases hf:firmB R l.length i with
 | true =>
  have HV:=Lh hf;have HN:=Lh (firmTo_yes HI.o hf);have hN:(firmTo l R k).length+1≤1099511627776:=by omega
  have hB:=hbl.o.size;clear hf;go_wp2_with fail;refine(sfirmV_any s i l R _ HSr.o hil hl).mono ?_;rintro e w2 ⟨rfl,hw⟩;obtain rfl:=hw.symm;rw [HV.o];go_wp2_with (at_builtin;refine apD slIntI rfl _ _ rfl w1.heap.size _ _ (drf _) 1 _ _ _ HM.o rfl rfl rfl rfl hN (by decide) hB ?_;intro v9 w9 ho9 hg9);go_roundw
  case rel=>exact⟨k+1,hlt,by go_num,(by show GOwn _ _ _ _ _ _ _;rw [HN.o];exact GOwn.snoc ho9),bgr hbl.o hB HM.o hg9⟩
  simp [intOf];omega
 | false =>
  have HV:=Lh hf;have HN:=Lh (firmTo_no HI.o hf);clear hf;go_wp2_with fail;refine(sfirmV_any s i l R _ HSr.o hil hl).mono ?_;rintro e w2 ⟨rfl,hw⟩;obtain rfl:=hw.symm;rw [HV.o];go_wp2;go_roundw
  case rel=>exact⟨k+1,hlt,by go_num,(by show GOwn _ _ _ _ _ _ _;rw [HN.o];exact HM.o),hbl⟩
  simp [intOf];omega
end
section
attribute [local irreducible] textAt textsTo
theorem etextsV_any(s:Option Addr)(v:Value)(l:List VertM)(R:List (Nat × Nat))(is':List Nat)(w:World)(h:ShV w s l R)(hv:GRow encI 1 w v is')(hi:∀ i∈is',i<l.length)(hn:is'.length≤1000000) :
  Calls Tryz.prog 221 #[.pointer s,v] w (OwnRes encS1 1 9 w (is'.map (textAt l))):=by
 have HS:=Lh h;have HI:=Lh hi;obtain⟨a,cap,rfl,h1,h2,hc⟩:=irow_at hv;unfold maxLen at h2;have HC:=Lh hc;clear h hv hi hc;go_enter Tryz.func221,Tryz.ntmps221;go_wp2;go_loopw [5,12] (fun v5 v12 wr=>TxRel w l is' v5 v12 wr) (fun _ v12 _=>is'.length - (intOf v12).toNat)
 case atStart=>exact⟨0,by omega,rfl,Lh (by rw [textsTo_zero];exact gown_nil _ _),Below.refl _ _⟩
 obtain⟨k,hk,rfl,HM,hbl⟩:=hrel;rename World=>wr
 by_cases hlt:k<is'.length
 rotate_left
 ·
  obtain rfl:k=is'.length:=by omega
  have HE:=HM.o;rw [textsTo_all] at HE;have HE2:=Lh HE;clear HE;go_wp2;go_ret;exact⟨_,rfl,HE2.o,hbl.o⟩
 obtain⟨b,off,rfl,sb,hcb⟩:=HC.o.resolve_left (by omega);obtain⟨i,hiu⟩:=gol hlt;obtain⟨sx,x0⟩:=hcb k i hiu _ hbl.o;obtain⟨x,hx⟩:=gol (HI.o i (List.mem_of_getElem? hiu));have HX:=Lh hx;have HSu:=Lh (textsTo_succ (l:=l) hiu);rw [textAt_get hx] at HSu;have hfl:=textsTo_len l is' k;have hN:(textsTo l is' k).length+1≤1099511627776:=by omega
 clear hcb hiu hx;go_wp2_with fail;refine(svertV_any s i x l R _ (HS.o.over hbl.o) HX.o).mono ?_;rintro e w2 ⟨rfl,hb2⟩;have HB2:=Lh (bvo hbl.o hb2);have HM2:=Lh (HM.o.over hb2);clear hb2 x0 sx;go_upto_region 6 with fail;have HA3:=Lh (anw w2 (cX x) 101);have HB3a:=Lh (bnew (w:=w2) (.cells (cX x) 101));generalize w2.alloc (.cells (cX x) 101)=w3 at *;have HB3:=Lh (bvo HB2.o HB3a.o);have HM3:=Lh (HM2.o.over HB3a.o);have hB3:=HB3.o.size;obtain⟨y0,y1,y2,y3,y4,y5,y6,y7,y8,sy⟩:=HA3.o.c9;go_wp2_with (at_builtin;refine apD slStrE rfl _ _ rfl w.heap.size _ _ (drf _) 1 _ _ _ HM3.o rfl rfl rfl rfl hN (by decide) hB3 ?_;intro v9 w9 ho9 hg9);go_roundw
 case rel=>exact⟨k+1,hlt,by go_num,(by show GOwn _ _ _ _ _ _ _;rw [HSu.o];exact GOwn.snoc ho9),bgr HB3.o hB3 HM3.o hg9⟩
 simp [intOf];omega
end
section
attribute [local irreducible] keptV1 minus keptTo textAt firmX
theorem ekeepsV_any(s:Option Addr)(wv:Value)(l:List VertM)(R:List (Nat × Nat))(want:List ByteArray)(w:World)(h:ShV w s l R)(hl:l.length≤1000)(hw:SRow w wv want)(hm:want.length≤1000) :
  Calls Tryz.prog 147 #[.pointer s,wv] w (KpRes w (keptTo (firmX l R) (pairs ((firmX l R).map (textAt l)) want) want.length)):=by
 have HS:=Lh h;have HW:=Lh hw;obtain⟨m,hmm⟩:∃ m,m=want.length:=⟨_,rfl⟩;obtain⟨a,cap,rfl,h1,h2,_⟩:=SRow.form hw;unfold maxLen at h2;rw [← hmm] at HW h1 hm ⊢;have HM:=Lh hmm;have HZ:=Lh (minus_zero m);have hq:8*m≤281474976710656:=by omega
 have hmx:m≤maxLen:=by unfold maxLen;omega
 have hfl:=firmX_len l R;clear h hw hmm;go_enter Tryz.func147,Tryz.ntmps147;go_upto_region 2 with(at_make;refine wpList_make_zeros slzIntE rfl _ _ rfl w.heap.size m _ rfl rfl rfl hq hmx (Nat.le_refl _) ?_;intro w1 ho1 hg1)
 have HB1:=Lh (grown_over' hg1 (fun g hg=>by cases hg));obtain⟨hA,_⟩:=own_full ho1;obtain⟨g,hg⟩:∃ g,g=w.heap.size:=⟨_,rfl⟩;rw [← hg] at hA ⊢;rw [← HZ.o] at hA;have HA:=Lh hA;have hgl:w.heap.size≤g:=by omega
 clear hA ho1 hg1 hg;go_wp2;go_loopw [15] (fun v15 wr=>K1Rel w g m v15 wr) (fun v15 _=>m - (intOf v15).toNat)
 case atStart=>exact⟨0,by omega,rfl,HA,HB1⟩
 obtain⟨j,hj,rfl,HA2,HB2⟩:=hrel;rename World=>wr;have sg:=HA2.o.arr.lt;have HL2:=Lh (minus_len j m)
 by_cases hlt:j<m
 ·
  have c0:=HA2.o.arr.cell (keptV1_get (minus_get (j:=j) hlt));have f0:=HA2.o.arr.free j;have HA3:=Lh (HA2.o.set j (.int .i64 (-1)));rw [keptV1_set,minus_set hlt] at HA3;have HB3:=Lh (HB2.o.setCell (p:=⟨g,j,none⟩) hgl (.int .i64 (-1)));go_wp2;go_roundw
  case rel=>exact⟨j+1,hlt,by go_num,HA3,HB3⟩
  simp [intOf];omega
 obtain rfl:m=j:=by omega
 have HS3:=Lh (HS.o.over HB2.o);have sg0:=sg;clear sg;go_wp2_with fail;refine(efirmV_any s l R _ HS3.o (by omega)).mono ?_;rintro e w3 ⟨fv,rfl,ho3,hb3⟩;obtain⟨a3,c3,rfl,z1,z2,hcf⟩:=irow_at ho3.row;unfold maxLen at z2;have HFR:=Lh ho3.row;have HFO:=Lh ho3;have hgB:=sg0;have HCF:=Lh hcf;have HB3:=Lh (bvo HB2.o hb3);have HA3:=Lh (HA2.o.over hb3);clear ho3 hcf hb3;go_wp2_with fail;refine(etextsV_any s _ l R (firmX l R) _ (HS.o.over HB3.o) HFR.o (fun i hi=>firmX_lt hi) (by omega)).mono ?_;rintro e w4 ⟨tv,rfl,ho4,hb4⟩;have HT4:=Lh (srow_of ho4.row);have HB4:=Lh (bvo HB3.o hb4);have HA4:=Lh (HA3.o.over hb4);have HB34:=Lh hb4;clear ho4 hb4;go_wp2_with fail;refine(match_any _ _ ((firmX l R).map (textAt l)) want _ HT4.o (by(have:=(HW.o.over HB4.o);exact this)) (by rw [texts_len];omega) (by rw [← HM.o];exact hm)).mono ?_;rintro e w5 ⟨mv,Bm,rfl,ho5,hB1,hB2,hb5⟩;have HPI:Hid (∀ p∈pairs ((firmX l R).map (textAt l)) want,p.1<(firmX l R).length∧p.2<m):=fun p hp=>by obtain⟨q1,q2,_⟩:=ePairs_in hp;rw [texts_len] at q1;exact⟨q1,by rw [HM.o];exact q2⟩
 obtain⟨ps,hps⟩:∃ ps,ps=pairs ((firmX l R).map (textAt l)) want:=⟨_,rfl⟩;rw [← hps] at ho5 HPI ⊢;have HO5:=Lh (show GOwn encP 2 169 w5 Bm mv ps from ho5);have HB5:=Lh (bvo HB4.o hb5);have HA5:=Lh (HA4.o.over hb5);have HFO5:=Lh ((HFO.o.over HB34.o).over hb5);obtain⟨a5,c5,rfl,y1,y2,_⟩:=prow_at HO5.o.row;unfold maxLen at y2;have HPS:=Lh hps;clear ho5 hb5 hps hB1 hB2;go_wp2;go_loopw [30] (fun v30 wq=>K2Rel w w5 g m (firmX l R) ps v30 wq) (fun v30 _=>ps.length - (intOf v30).toNat)
 case atStart=>exact⟨0,by omega,rfl,Lh (by rw [← kp_zero];exact HA5.o),World.grownBy.refl _ _,HB5⟩
 obtain⟨k,hk,rfl,HA6,HG6,HB6⟩:=hrel;rename World=>wq;have HO6:=Lh (own_kept HO5.o HG6.o (HA5.o.ne HO5.o (by decide)));have HFO6:=Lh (own_kept HFO5.o HG6.o (fun e=>by have:=gown_low HFO5.o e.symm;omega))
 by_cases hlt:k<ps.length
 rotate_left
 ·
  obtain rfl:k=ps.length:=by omega
  have HE:=HA6.o;rw [List.take_length] at HE;have HE2:=Lh HE;have HKL:=Lh (kept_length (firmX l R) ps m);clear HE;go_wp2;go_ret;refine⟨g,?_,hgl,(by rw [← HPS.o];exact HE2.o),HB6.o⟩;rw [← HPS.o,HKL.o];rfl
 obtain⟨a7,c7,e7,_,_,hc7⟩:=prow_at HO6.o.row;cases e7
 obtain⟨b7,off7,rfl,sb7,hcb7⟩:=hc7.resolve_left (by omega);obtain⟨p,hp⟩:=gol hlt;obtain⟨hp1,hp2⟩:=HPI.o p (List.mem_of_getElem? hp);have HP:=Lh (kept_succ (firm:=firmX l R) (m:=m) hp);obtain⟨sx,x0,x1⟩:=hcb7 k p hp _ (Below.refl _ _);obtain⟨ip,jp⟩:=p;simp only at hp1 hp2 x0 x1;obtain⟨fi,hfi⟩:=gol hp1;have HFI:=Lh hfi;clear hcb7 hp;go_upto_region 11 with fail;have HA8:=Lh (anw wq #[.int .i64 ip,.int .i64 jp] 169);have HB8a:=Lh (bnew (w:=wq) (.cells #[.int .i64 ip,.int .i64 jp] 169));generalize wq.alloc (.cells #[.int .i64 ip,.int .i64 jp] 169)=w8 at *;clear x0 x1 sx;have HAg:=Lh (HA6.o.over HB8a.o);have HFO8:=Lh (HFO6.o.over HB8a.o);have HB8:=Lh (bvo HB6.o HB8a.o);have HG8:=Lh (gtr HG6.o (grown_of_below HB8a.o (row:=some g)));obtain⟨af,cf,ef,_,_,hcf2⟩:=irow_at HFO8.o.row;cases ef
 obtain⟨bf,offf,rfl,sbf,hcbf⟩:=hcf2.resolve_left (by omega);obtain⟨sf,f0⟩:=hcbf ip fi hfi _ (Below.refl _ _);obtain⟨p0,p1,sp⟩:=HA8.o.c2;have hkl:=kept_length (firmX l R) (ps.take k) m;obtain⟨y,hy⟩:=gol (xs:=keptTo (firmX l R) (ps.take k) m) (i:=jp) (by rw [hkl];exact hp2);have g0:=HAg.o.arr.cell (keptV1_get hy);have gf:=HAg.o.arr.free jp;have sg:=HAg.o.arr.lt;have HN:=Lh (HAg.o.set jp (.int .i64 fi));rw [keptV1_set,show((fi:Nat):Int)=(((firmX l R).getD (ip,jp).1 0:Nat):Int) by rw [getD_of hfi]] at HN;rw [← HP.o] at HN;have HBn:=Lh (HB8.o.setCell (p:=⟨g,jp,none⟩) hgl (.int .i64 fi));have HGn:=Lh (gtr HG8.o (gsc (g:=g) w8 jp (.int .i64 fi)));have HEq:Hid ((((firmX l R).getD (ip,jp).1 0:Nat):Int)=(fi:Int)):=by show _=_;rw [getD_of hfi]
 rw [HEq.o] at HN;clear hcbf hfi hy hkl hcf2;go_wp2_with fail;refine wlo 9 fun hcur=>?_;repeat refine lxq ?_
 refine lxe ?_;clear hcur;go_wp2;go_roundw
 case rel=>exact⟨k+1,hlt,by go_num,Lh (HN.o.over (Below.refl _ _).drew),Lh (gtr HGn.o (grown_of_below (Below.refl _ _).drew)),Lh HBn.o.drew⟩
 simp [intOf];omega
end
section
attribute [local irreducible] hereF killsE keptV1 aliveX killV5
theorem ekillsV_any(s:Option Addr)(g:Nat)(l:List VertM)(R:List (Nat × Nat))(ks:List Int)(w:World)(h:ShV w s l R)(hl:l.length≤1000)(hk:ArrT w g 3 (keptV1 ks))(hok:∀ x∈ks,okInt x)(hkl:ks.length≤1000) :
  Calls Tryz.prog 148 #[.pointer s,.slice (some ⟨g,0,none⟩) ks.length ks.length] w (OwnRes encOp 8 76 w (killsE l (aliveX l R) ks)):=by
 have hmm:=@run_makeMap Tryz.prog;have HS:=Lh h;have HK:=Lh hk;have HOK:=Lh hok;have hal:=aliveX_len l R;have HT0:=Lh (show TMap Tryz.prog 3 numV okInt numV (w.alloc (.map #[] 0)) w.heap.size 0 (hereF ks 0) by rw [hereF_zero];exact TMap.made w);have HB0:=Lh (bnew (w:=w) (.map #[] 0));clear h hk hok;go_enter Tryz.func148,Tryz.ntmps148;go_upto_region 2 with fail;clear hmm;obtain⟨m,hm⟩:∃ m,m=w.heap.size:=⟨_,rfl⟩;rw [← hm];have HT1:=HT0.o;have hml:w.heap.size≤m:=by omega
 rw [← hm] at HT1;have HT:=Lh HT1;generalize w.alloc (.map #[] 0)=w0 at *;clear hm HT1 HT0;go_wp2;go_loopw [16] (fun v16 wr=>I1Rel w m ks v16 wr) (fun v16 _=>ks.length - (intOf v16).toNat)
 case atStart=>exact⟨0,0,by omega,by omega,rfl,HT,HB0⟩
 obtain⟨k,N,hk,hN,rfl,HM,HB⟩:=hrel;rename World=>wr;have HKr:=Lh (HK.o.over HB.o);have sg:=HKr.o.arr.lt
 by_cases hlt:k<ks.length
 ·
  obtain⟨x,hx⟩:=gol hlt;have c0:=HKr.o.arr.cell (keptV1_get hx);have HO:=Lh (HOK.o x (List.mem_of_getElem? hx));have HSu:=Lh (hereF_succ hx);clear hx;go_wp2_with (refine wpList_tstore keysInt numV_inj rfl _ _ _ _ rfl Tryz.underlying279 m N (hereF ks k) rfl HM.o (by unfold maxLen;omega) x rfl HO.o 1 rfl ?_;intro w10 hm10 hg10 hs10;clear hs10);rw [HSu.o] at hm10;have HM2:=Lh hm10;have HBn:=Lh (HB.o.grown hg10 HB.o.size fun q hq=>by cases hq;exact hml);go_roundw
  case rel=>exact⟨k+1,N+1,hlt,by omega,by go_num,HM2,HBn⟩
  simp [intOf];omega
 obtain rfl:k=ks.length:=by omega
 clear sg;go_wp2_with fail;refine(saliveV_any s l R _ (HS.o.over HB.o) (by omega)).mono ?_;rw [sares_is];rintro e w1 ⟨v,rfl,ho,hb⟩;obtain⟨a,cap,rfl,h1,h2,hc⟩:=irow_at ho.row;unfold maxLen at h2;have HC:=Lh hc;have HB1:=Lh (bvo HB.o hb);have HM1:=Lh (HM.o.over hb);have HAL:Hid (∀ i∈aliveX l R,i<l.length):=fun i hi=>aliveX_lt hi;clear ho hc hb;generalize aliveX l R=al at *;go_wp2;go_loopw [8,26] (fun v8 v26 wq=>I2Rel w1 l al ks v8 v26 wq) (fun _ v26 _=>al.length - (intOf v26).toNat)
 case atStart=>exact⟨0,by omega,rfl,Lh (by rw [kills_zero];exact gown_nil _ _),Below.refl _ _⟩
 obtain⟨q,hq,rfl,HO,hbl⟩:=hrel;rename World=>wq;have hkl2:=kills_len l ks (al.take q);have hkl3:(al.take q).length≤al.length:=by rw [List.length_take];omega
 by_cases hlt:q<al.length
 rotate_left
 ·
  obtain rfl:q=al.length:=by omega
  have HE:=HO.o;rw [List.take_length] at HE;have HE2:=Lh (HE.base HB1.o.size);clear HE;go_wp2;go_ret;exact⟨_,rfl,HE2.o,bvo HB1.o hbl.o⟩
 obtain⟨b,off,rfl,sb,hcb⟩:=HC.o.resolve_left (by omega);obtain⟨i,hi⟩:=gol hlt;obtain⟨sx,x0⟩:=hcb q i hi _ hbl.o;obtain⟨x,hx⟩:=gol (HAL.o i (List.mem_of_getElem? hi));have HX:=Lh hx;have HI:=Lh hi;have HKV:=Lh (killV5_at hx);have hil:=(List.getElem?_eq_some_iff.1 hx).1;have HOi:=Lh (ok_int (i:=i) (by omega));clear hcb hi hx;go_wp2_with fail;refine(svertV_any s i x l R _ (HS.o.over (bvo HB1.o hbl.o)) HX.o).mono ?_;rintro e w2 ⟨rfl,hb2⟩;have HB2:=Lh (bvo hbl.o hb2);have HO2:=Lh (HO.o.over hb2);clear hb2 x0 sx;go_upto_region 12 with fail;have HA3:=Lh (anw w2 (cX x) 101);have HB3a:=Lh (bnew (w:=w2) (.cells (cX x) 101));generalize w2.alloc (.cells (cX x) 101)=w3 at *;have HB3:=Lh (bvo HB2.o HB3a.o);have HO3:=Lh (HO2.o.over HB3a.o);have HM3:=Lh (HM1.o.over HB3.o);have hB3:=HB3.o.size;obtain⟨y0,y1,y2,y3,y4,y5,y6,y7,y8,sy⟩:=HA3.o.c9;cases hcn:ks.contains (Int.ofNat i) with
 | true =>
  have HLK:=Lh (hereF_yes hcn);have HN:=Lh (kills_no (l:=l) HI.o hcn);clear hcn;go_wp2_with (refine wpList_tlookV keysInt numV_inj rfl _ _ _ rfl Tryz.underlying279 0 (zero_numV _) m N (hereF ks ks.length) rfl HM3.o (i:Int) rfl HOi.o _ HLK.o ?_);go_roundw
  case rel=>exact⟨q+1,hlt,by go_num,(by show GOwn _ _ _ _ _ _ _;rw [HN.o];exact HO3.o),HB3⟩
  simp [intOf];omega
 | false =>
  have HLK:=Lh (hereF_no hcn);have HN:=Lh (kills_yes (l:=l) HI.o hcn);have hN3:(killsE l (al.take q) ks).length+1≤1099511627776:=by omega
  clear hcn;go_wp2_with (first|(refine wpList_tlookV keysInt numV_inj rfl _ _ _ rfl Tryz.underlying279 0 (zero_numV _) m N (hereF ks ks.length) rfl HM3.o (i:Int) rfl HOi.o _ HLK.o ?_)|(at_builtin;refine apD slOp rfl _ _ rfl w1.heap.size _ _ (drf _) 1 _ _ _ HO3.o rfl rfl rfl rfl hN3 (by decide) hB3 ?_;intro v9 w9 ho9 hg9));go_roundw
  case rel=>exact⟨q+1,hlt,by go_num,(by show GOwn _ _ _ _ _ _ _;rw [HN.o,HKV.o];exact GOwn.snoc ho9),bgr HB3.o hB3 HO3.o hg9⟩
  simp [intOf];omega
end
section
attribute [local irreducible] keptV1 keptTo textAt firmX aliveX killsE addsTo tiesTo atL
theorem eopsV_any(s:Option Addr)(wv:Value)(l:List VertM)(R:List (Nat × Nat))(file:VidM)(id:PidM)(from':Nat)(want:List ByteArray)(w:World)(h:ShV w s l R)(hl:l.length≤1000)(hw:SRow w wv want)(hm:want.length≤1000)(hf:from'≤4000000) :
  Calls Tryz.prog 85 #[.pointer s,vidV file,pidV id,.int .i64 from',wv] w (OwnRes encOp 8 76 w (editM l R (aliveX l R) (firmX l R) file id from' want (pairs ((firmX l R).map (textAt l)) want))):=by
 rw [edit_eq];have HBX:=(bnew (w:=w) (.cells (cV file) 74)).alloc (by simp) (.cells (cP id) 25);have HS:=Lh (h.over HBX);have HW:=Lh (hw.over HBX);have HF:=Lh ((anw w (cV file) 74).alloc (.cells (cP id) 25));have HI:=Lh (an2 w (.cells (cV file) 74) (cP id) 25);have HB:=Lh HBX;obtain⟨wa,wc,rfl,z1,z2,_⟩:=SRow.form hw;unfold maxLen at z2;clear h hw HBX;unfold vidV pidV;go_enter Tryz.func85,Tryz.ntmps85;go_upto_region 1 with fail;generalize (w.alloc (.cells (cV file) 74)).alloc (.cells (cP id) 25)=w0 at *;go_wp2_with fail;refine(ekeepsV_any s _ l R want _ HS.o hl HW.o hm).mono ?_;generalize hks:keptTo (firmX l R) (pairs ((firmX l R).map (textAt l)) want) want.length=ks;have HKI:Hid (∀(j:Nat) (x:Int),ks[j]? = some x→x = -1∨∃ i:Nat,x=(i:Int)∧i<l.length):=fun j x hx=>by
  rw [← hks] at hx;refine kept_is (fun i hi=>firmX_lt hi) ?_ hx;rcases Nat.eq_zero_or_pos l.length with h0|h0
  · refine .inr (List.eq_nil_iff_forall_not_mem.2 fun p hp => ?_);have h1:=(ePairs_in hp).1;rw [texts_len] at h1;have:=firmX_len l R;omega
  exact .inl h0
 have hkl:ks.length=want.length:=by rw [← hks];exact kept_length _ _ _
 have HKL:=Lh hkl;have HKS:=Lh hks;clear hks;rintro e w1 ⟨gK,rfl,hgK,hA,hb1⟩;have HA1:=Lh hA;have HB1:=Lh hb1;have HOK:Hid (∀ x∈ks,okInt x):=fun x hx=>by
  obtain⟨j,hj⟩:=List.getElem?_of_mem hx;rcases HKI.o j x hj with rfl|⟨i,rfl,hi⟩
  · unfold okInt;omega
  exact ok_int (by omega)
 clear hA hb1;rw [hkl];go_wp2_with fail;refine(hkl▸ekillsV_any s gK l R ks _ (HS.o.over HB1.o) hl HA1.o HOK.o (by omega)).mono ?_;have hkil:=Nat.le_trans (kills_len l ks (aliveX l R)) (aliveX_len l R);generalize hkill:killsE l (aliveX l R) ks=kl at *;have HKLL:=Lh hkill;clear hkill;rintro e w2 ⟨v12,rfl,ho2,hb2⟩;have HO2:=Lh (ho2.base HB1.o.size);have HB2:=Lh (bvo HB1.o hb2);have HA2:=Lh (HA1.o.over hb2);clear ho2 hb2 hkl;obtain⟨m,hmm⟩:∃ m,m=want.length:=⟨_,rfl⟩;rw [← hmm] at hm ⊢;have HMM:=Lh hmm;have hmx:m≤maxLen:=by unfold maxLen;omega
 obtain⟨ti,tz,t1,t2,t3,t4,t5,t6,t7⟩:=slVidE.out;have hz:((Tryz.prog.info? 74).bind (·.zero))=some (.agg #[.int .u8 0,.int .u16 0,.int .u8 0]):=by kernel_rfl
 rw [t2] at hz;have hz2:tz=.agg #[.int .u8 0,.int .u16 0,.int .u8 0]:=by have:ti.zero=some (.agg #[.int .u8 0,.int .u16 0,.int .u8 0]):=hz;rw [t3] at this;exact Option.some.inj this
 subst hz2;have hbm:ti.bytes*m≤281474976710656:=by rw [t5];omega
 have HT:=Lh (And.intro t2 (And.intro t3 (And.intro t4 hbm)));clear hmm hz t1 t2 t3 t4 t5 t6 t7 hbm;go_upto_region 4 with(at_make;refine wpList_make_full _ rfl _ _ _ rfl w2.heap.size 74 ti _ 3 Tryz.underlying148 HT.o.1 HT.o.2.1 HT.o.2.2.1 .i64 .i64 _ _ m rfl rfl rfl rfl HT.o.2.2.2 hmx (Nat.le_refl _) ?_;intro w3 ho3 hg3)
 have HB3a:=Lh (grown_over' hg3 (fun g hg=>by cases hg));have hA3:=(own_fullN ho3).1;rw [show(Value.agg #[.int .u8 0,.int .u16 0,.int .u8 0]).cells=#[.int .u8 0,.int .u16 0,.int .u8 0] from rfl,vids_cells] at hA3;have hgl:w0.heap.size≤w2.heap.size:=HB2.o.size;have hne:gK≠w2.heap.size:=by have:=HA2.o.arr.lt;omega
 obtain⟨gA,hgA0⟩:∃ gA,gA=w2.heap.size:=⟨_,rfl⟩;rw [← hgA0] at hA3 hgl hne ⊢;obtain⟨p0,c0,rfl⟩:=oown_form HO2.o;have HMid0:Hid (MidE w3 w0 gK gA m 0 ks p0 c0 kl []):=⟨HA2.o.over HB3a.o,(by rw [atL_zero];exact hA3),HO2.o.over HB3a.o,bvo HB2.o HB3a.o⟩;clear hA3 ho3 hg3 hgA0 HB3a HT HA2 HO2 HA1;go_wp2;go_loopw [12,30] (fun v12 v30 wr=>A1Rel w0 l file id from' ks want kl gK gA m v12 v30 wr) (fun _ v30 _=>m - (intOf v30).toNat)
 case atStart=>exact⟨0,kl,[],p0,c0,by omega,rfl,rfl,Lh adds_zero.symm,HMid0⟩
 obtain⟨j,ops,at',p,c,hj,rfl,rfl,HAD,HMid⟩:=hrel;rename World=>wr;obtain⟨hal,hol⟩:=adds_both HKL.o (by rw [← HMM.o];exact hj) HAD.o;have HAL:=Lh hal;have sk:=HMid.o.kept.arr.lt;clear hal
 by_cases hlt:j<m
 ·
  obtain⟨x,hx⟩:=gol (xs:=ks) (i:=j) (by rw [HKL.o,← HMM.o];exact hlt);obtain⟨t,ht⟩:=gol (xs:=want) (i:=j) (by rw [← HMM.o];exact hlt);have k0:=HMid.o.kept.arr.cell (keptV1_get hx);obtain⟨y,hy⟩:=gol (xs:=atL at' j m) (i:=j) (by rw [atL_len HAL.o hj];exact hlt);have HY:=Lh hy;have HX:=Lh hx;have HTx:=Lh ht;have HBw:=Lh HMid.o.below;clear hy ht;rcases HKI.o j x hx with hx1|⟨i,hx1,hil⟩
  rotate_left
  ·
   subst hx1;obtain⟨x,hxv⟩:=gol hil;have HXv:=Lh hxv;have HAD2:=Lh (adds_next1 HX.o HTx.o hxv HAD.o);clear hx hxv;go_wp2_with fail;refine(svertV_any s i x l R _ (HS.o.over HBw.o) HXv.o).mono ?_;rintro e w4 ⟨rfl,hb4⟩;have HMid4:=Lh (HMid.o.over hb4);clear hb4 k0 sk;go_upto_region 9 with fail;have HA5:=Lh (anw w4 (cX x) 101);have HB5:=Lh (bnew (w:=w4) (.cells (cX x) 101));generalize w4.alloc (.cells (cX x) 101)=w5 at *;have HMid5:=Lh (HMid4.o.over HB5.o);obtain⟨y0,y1,y2,y3,y4,y5,y6,y7,y8,sy⟩:=HA5.o.c9;go_wp2_with ((with_reducible show wpList _ _ _ ({dst:=_,op:=.store _ _ _,type:=_,pos:=_,after:=_,guard:=_} :: _) _ _);refine wpList_store_arrN rowVidE rfl _ _ rfl HMid5.o.names (atL_flat HAL.o hj) hmx (j*3) (encVid x.id) rfl rfl rfl (by rw [encVid_len];omega) (oneVid x.id) ?_;intro w6 hA5 hg5);have HMid6:=Lh (HMid5.o.name HAL.o hlt hgl hne hA5 hg5);clear hA5 hg5;go_roundw
   case rel=>exact⟨j+1,ops,_,p,c,hlt,by go_num,rfl,HAD2,HMid6⟩
   simp [intOf];omega
  subst hx1;have HI4:=Lh (HI.o.over HBw.o);obtain⟨i0,i1,si⟩:=HI4.o.c2;obtain⟨N,hN⟩:∃ N,from'+ops.length=N:=⟨_,rfl⟩;have eN:((from':Int)+(ops.length:Int))=(N:Int):=by omega
  have hNl:N<4611686018427387904:=by omega
  have HN:=Lh hN;clear hx hN;go_wp2_with fail;refine(pvid_any id N _ hNl).mono ?_;rintro e w4 ⟨rfl,hb4⟩;have HMid4:=Lh (HMid.o.over hb4);clear hb4 k0 sk i0 i1 si eN;go_upto_region 11 with((with_reducible show wpList _ _ _ ({dst:=_,op:=.store _ _ _,type:=_,pos:=_,after:=_,guard:=_} :: _) _ _);refine wpList_store_arrN rowVidE rfl _ _ rfl HMid4.o.names (atL_flat HAL.o hj) hmx (j*3) (encVid ⟨id,UInt8.ofNat N⟩) rfl rfl rfl (by rw [encVid_len];omega) (oneVid ⟨id,UInt8.ofNat N⟩) ?_;intro w5 hA5 hg5)
  have HMid5:=Lh (HMid4.o.name HAL.o hlt hgl hne hA5 hg5);clear hA5 hg5;have HF5:=Lh (HF.o.over HMid5.o.below);obtain⟨f0,f1,f2,sf⟩:=HF5.o.c3;obtain⟨wa2,wc2,e2,_,_,_,hcw⟩:=SRow.form (HW.o.over HMid5.o.below);cases e2
  obtain⟨bw,offw,rfl,sbw,hcw2⟩:=hcw.resolve_left (by rw [← HMM.o];omega);have w0c:=hcw2 j t HTx.o;have hN5:ops.length+1≤1099511627776:=by omega
  have hB5:=HMid5.o.below.size;have HOw:=Lh HMid5.o.own;obtain⟨ops9,hops9⟩:∃ y,y=ops++[(⟨3,file,noVid,t⟩:OpM)]:=⟨_,rfl⟩;have HO9e:=Lh hops9;have HAD2:=Lh (adds_next2 HX.o HTx.o HAD.o);rw [HN.o,← hops9] at HAD2;clear hcw hcw2 hops9;go_simp;refine wlo 8 fun hcur=>?_;repeat(first|refine lxq ?_|(refine lxl rfl ?_;go_wp2_with (first|(fail));refine⟨iov (by first|exact hcur|exact hcur.alloc hcur.size _),?_⟩))
  refine lxe ?_;clear hcur;go_wp2_with ((at_builtin;refine apD slOp rfl _ _ rfl w0.heap.size _ _ (dad _ _ _) 1 _ _ _ HOw.o rfl rfl rfl rfl hN5 (by decide) hB5 ?_;intro v9 w9 ho9 hg9);(obtain⟨p9,c9,e9,hO9⟩:=oown_more (GOwn.snoc (x:=(⟨3,file,noVid,t⟩:OpM)) ho9) HO9e.o);subst e9;have HO9:=Lh hO9;have HG9:=Lh hg9;clear ho9 hg9 hO9);go_roundw
  case rel=>exact⟨j+1,ops9,_,p9,c9,hlt,by go_num,rfl,HAD2,HMid5.o.op HO9.o HG9.o⟩
  simp [intOf];omega
 obtain rfl:m=j:=by omega
 have hal2:=HAL.o;have HA2e:=HMid.o;obtain⟨at2,hat2⟩:∃ at2,at2=at':=⟨_,rfl⟩;rw [← hat2] at HAD HA2e hal2;have HAL2:=Lh hal2;have HMd:=Lh HA2e;have htl:=ties_len R ks at2;have HTL:=Lh htl;clear HA2e hal2 hat2 sk htl;go_wp2;go_loopw [12,69] (fun v12 v69 wq=>A2Rel w0 R ks at2 ops gK gA m v12 v69 wq) (fun _ v69 _=>m - (intOf v69).toNat)
 case atStart=>exact⟨0,ops,p,c,by omega,rfl,rfl,Lh (by rw [ties_zero,List.append_nil]),HMd⟩
 obtain⟨q,ops2,p2,c2,hq,rfl,rfl,HO2,HM2⟩:=hrel;rename World=>wq;have hol2:ops2.length≤ops.length+m:=by rw [HO2.o,List.length_append];have:=HTL.o q;omega
 have sk:=HM2.o.kept.arr.lt
 by_cases hlt:q<m
 rotate_left
 ·
  obtain rfl:m=q:=by omega
  have HE:=Lh (HM2.o.own.base HB.o.size);have HBe:=Lh (bvo HB.o HM2.o.below);go_wp2;go_ret;exact⟨_,rfl,(by rw [HKS.o,HKLL.o,← HMM.o,← HAD.o];show GOwn _ _ _ _ _ _ (ops++tiesTo R ks at2 m);rw [← HO2.o];exact HE.o),HBe.o⟩
 by_cases hq0:q=0
 ·
  subst hq0;have HN:Hid (ops2=ops++tiesTo R ks at2 1):=by show _=_;rw [HO2.o,ties_zero,ties_one]
  go_wp2_with fail;refine wlo 32 fun hcur=>?_;repeat refine lxq ?_
  refine lxe ?_;clear hcur;go_wp2;go_roundw
  case rel=>exact⟨1,ops2,p2,c2,hlt,by go_num,rfl,HN,HM2.o.over (Below.refl _ _).drew⟩
  simp [intOf];omega
 obtain⟨q,rfl⟩:∃ k,q=k+1:=⟨q - 1,by omega⟩;obtain⟨x,hx⟩:=gol (xs:=ks) (i:=q) (by rw [HKL.o,← HMM.o];omega);obtain⟨y,hy⟩:=gol (xs:=ks) (i:=q+1) (by rw [HKL.o,← HMM.o];exact hlt);obtain⟨u,hu⟩:=gol (xs:=at2) (i:=q) (by rw [HAL2.o];omega);obtain⟨v,hv⟩:=gol (xs:=at2) (i:=q+1) (by rw [HAL2.o];exact hlt);have k0:=HM2.o.kept.arr.cell (keptV1_get hx);have k1:=HM2.o.kept.arr.cell (keptV1_get hy);have HX:=Lh hx;have HYY:=Lh hy;have HU:=Lh hu;have HVV:=Lh hv;have HSq:=Lh (HS.o.over HM2.o.below);have HM3:=Lh (HM2.o.over (Below.refl wq.heap.size wq).drew);have hN5:ops2.length+1≤1099511627776:=by omega
 have dq:decide ((0:Int)<(q:Int)+1)=true:=decide_eq_true (by omega);clear hu hv hq0;rcases HKI.o q x hx with hx1|⟨i,hx1,hil⟩
 ·
  subst hx1;have HN:=Lh (ties_yes (R:=R) HX.o HYY.o HU.o HVV.o (.inl (by decide)));clear hx hy;go_wp2_with fail;refine wlo 32 fun hcur=>?_;repeat refine lxq ?_
  refine lxe ?_;clear hcur;generalize wq.drew=wd at *;clear k0 k1 sk;have HNm:=Lh (show ArrT wd gA 74 (at2.flatMap encVid) by(have hnm:=HM3.o.names;rw [atL_all] at hnm;exact hnm));have n0:wd.cell? ⟨gA,q*3,none⟩=some (.int .u8 u.pid.author.toNat):=HNm.o.arr.cell ((flat_get encVid_len _ q 0 u HU.o (by decide)).trans rfl);have n1:wd.cell? ⟨gA,q*3+1,none⟩=some (.int .u16 u.pid.seq.toNat):=HNm.o.arr.cell ((flat_get encVid_len _ q 1 u HU.o (by decide)).trans rfl);have n2:wd.cell? ⟨gA,q*3+2,none⟩=some (.int .u8 u.n.toNat):=HNm.o.arr.cell ((flat_get encVid_len _ q 2 u HU.o (by decide)).trans rfl);have n3:wd.cell? ⟨gA,(q+1)*3,none⟩=some (.int .u8 v.pid.author.toNat):=HNm.o.arr.cell ((flat_get encVid_len _ (q+1) 0 v HVV.o (by decide)).trans rfl);have n4:wd.cell? ⟨gA,(q+1)*3+1,none⟩=some (.int .u16 v.pid.seq.toNat):=HNm.o.arr.cell ((flat_get encVid_len _ (q+1) 1 v HVV.o (by decide)).trans rfl);have n5:wd.cell? ⟨gA,(q+1)*3+2,none⟩=some (.int .u8 v.n.toNat):=HNm.o.arr.cell ((flat_get encVid_len _ (q+1) 2 v HVV.o (by decide)).trans rfl);have sn:=HNm.o.arr.lt;have hB5:=HM3.o.below.size;have HOw:=Lh HM3.o.own;obtain⟨ops9,hops9⟩:∃ z,z=ops2++[(⟨4,u,v,⟨#[]⟩⟩:OpM)]:=⟨_,rfl⟩;have HO9e:=Lh hops9;have HN9:Hid (ops9=ops++tiesTo R ks at2 (q+1+1)):=by show _=_;rw [HN.o,← List.append_assoc,← HO2.o];exact hops9
  clear hops9;go_wp2_with fail;refine wlo 12 fun hcur=>?_;repeat(first|refine lxq ?_|(refine lxl rfl ?_;go_wp2_with (first|(fail));refine⟨iov (by first|exact hcur|exact hcur.alloc hcur.size _),?_⟩))
  refine lxe ?_;clear hcur;go_wp2_with ((at_builtin;refine apD slOp rfl _ _ rfl w0.heap.size _ _ (dad _ _ _) 1 _ _ _ HOw.o rfl rfl rfl rfl hN5 (by decide) hB5 ?_;intro v9 w9 ho9 hg9);(obtain⟨p9,c9,e9,hO9⟩:=oown_more (GOwn.snoc (x:=(⟨4,u,v,⟨#[]⟩⟩:OpM)) ho9) HO9e.o);subst e9;have HO9:=Lh hO9;have HG9:=Lh hg9;clear ho9 hg9 hO9);go_roundw
  case rel=>exact⟨q+1+1,ops9,p9,c9,hlt,by go_num,rfl,HN9,HM3.o.op HO9.o HG9.o⟩
  simp [intOf];omega
 subst hx1;have ei:decide ((i:Int)<0)=false:=decide_eq_false (by omega);rcases HKI.o (q+1) y hy with hy1|⟨i2,hy1,hil2⟩
 ·
  subst hy1;have HN:=Lh (ties_yes (R:=R) HX.o HYY.o HU.o HVV.o (.inr (.inl (by decide))));clear hx hy;go_wp2_with fail;refine wlo 32 fun hcur=>?_;repeat refine lxq ?_
  refine lxe ?_;clear hcur;generalize wq.drew=wd at *;clear k0 k1 sk;have HNm:=Lh (show ArrT wd gA 74 (at2.flatMap encVid) by(have hnm:=HM3.o.names;rw [atL_all] at hnm;exact hnm));have n0:wd.cell? ⟨gA,q*3,none⟩=some (.int .u8 u.pid.author.toNat):=HNm.o.arr.cell ((flat_get encVid_len _ q 0 u HU.o (by decide)).trans rfl);have n1:wd.cell? ⟨gA,q*3+1,none⟩=some (.int .u16 u.pid.seq.toNat):=HNm.o.arr.cell ((flat_get encVid_len _ q 1 u HU.o (by decide)).trans rfl);have n2:wd.cell? ⟨gA,q*3+2,none⟩=some (.int .u8 u.n.toNat):=HNm.o.arr.cell ((flat_get encVid_len _ q 2 u HU.o (by decide)).trans rfl);have n3:wd.cell? ⟨gA,(q+1)*3,none⟩=some (.int .u8 v.pid.author.toNat):=HNm.o.arr.cell ((flat_get encVid_len _ (q+1) 0 v HVV.o (by decide)).trans rfl);have n4:wd.cell? ⟨gA,(q+1)*3+1,none⟩=some (.int .u16 v.pid.seq.toNat):=HNm.o.arr.cell ((flat_get encVid_len _ (q+1) 1 v HVV.o (by decide)).trans rfl);have n5:wd.cell? ⟨gA,(q+1)*3+2,none⟩=some (.int .u8 v.n.toNat):=HNm.o.arr.cell ((flat_get encVid_len _ (q+1) 2 v HVV.o (by decide)).trans rfl);have sn:=HNm.o.arr.lt;have hB5:=HM3.o.below.size;have HOw:=Lh HM3.o.own;obtain⟨ops9,hops9⟩:∃ z,z=ops2++[(⟨4,u,v,⟨#[]⟩⟩:OpM)]:=⟨_,rfl⟩;have HO9e:=Lh hops9;have HN9:Hid (ops9=ops++tiesTo R ks at2 (q+1+1)):=by show _=_;rw [HN.o,← List.append_assoc,← HO2.o];exact hops9
  clear hops9;go_wp2_with fail;refine wlo 12 fun hcur=>?_;repeat(first|refine lxq ?_|(refine lxl rfl ?_;go_wp2_with (first|(fail));refine⟨iov (by first|exact hcur|exact hcur.alloc hcur.size _),?_⟩))
  refine lxe ?_;clear hcur;go_wp2_with ((at_builtin;refine apD slOp rfl _ _ rfl w0.heap.size _ _ (dad _ _ _) 1 _ _ _ HOw.o rfl rfl rfl rfl hN5 (by decide) hB5 ?_;intro v9 w9 ho9 hg9);(obtain⟨p9,c9,e9,hO9⟩:=oown_more (GOwn.snoc (x:=(⟨4,u,v,⟨#[]⟩⟩:OpM)) ho9) HO9e.o);subst e9;have HO9:=Lh hO9;have HG9:=Lh hg9;clear ho9 hg9 hO9);go_roundw
  case rel=>exact⟨q+1+1,ops9,p9,c9,hlt,by go_num,rfl,HN9,HM3.o.op HO9.o HG9.o⟩
  simp [intOf];omega
 subst hy1;have ei2:decide ((i2:Int)<0)=false:=decide_eq_false (by omega);clear hx hy;cases hb:befB R i i2 with
 | true =>
  have HBV:=Lh hb;have HN:=Lh (ties_no (R:=R) (at':=at2) HX.o HYY.o (Int.natCast_nonneg i) (Int.natCast_nonneg i2) hb);clear hb;go_wp2_with fail;refine wlo 32 fun hcur=>?_;repeat(first|refine lxq ?_|(refine lxl rfl ?_;go_wp2_with (first|(go_at_call 117;(with_reducible refine(srelV_any s l R _ (HSq.o.over hcur) (by omega)).mono ?_);rintro e w' ⟨⟨r,rfl,hr⟩,rfl⟩;have HRL:=Lh hr;clear hr)|(go_at_call 150;(with_reducible refine(rchBefore_any r l.length i i2 R _ HRL.o (by omega) (by omega)).mono ?_);rintro e w' ⟨rfl,rfl⟩;rw [HBV.o]));refine⟨iov hcur,?_⟩))
  refine lxe ?_;clear hcur;go_wp2;go_roundw
  case rel=>exact⟨q+1+1,ops2,p2,c2,hlt,by go_num,rfl,Lh (by rw [HN.o];exact HO2.o),HM3⟩
  simp [intOf];omega
 | false =>
  have HBV:=Lh hb;have HN:=Lh (ties_yes (R:=R) HX.o HYY.o HU.o HVV.o (.inr (.inr hb)));clear hb;go_wp2_with fail;refine wlo 32 fun hcur=>?_;repeat(first|refine lxq ?_|(refine lxl rfl ?_;go_wp2_with (first|(go_at_call 117;(with_reducible refine(srelV_any s l R _ (HSq.o.over hcur) (by omega)).mono ?_);rintro e w' ⟨⟨r,rfl,hr⟩,rfl⟩;have HRL:=Lh hr;clear hr)|(go_at_call 150;(with_reducible refine(rchBefore_any r l.length i i2 R _ HRL.o (by omega) (by omega)).mono ?_);rintro e w' ⟨rfl,rfl⟩;rw [HBV.o]));refine⟨iov hcur,?_⟩))
  refine lxe ?_;clear hcur;generalize wq.drew=wd at *;clear k0 k1 sk;have HNm:=Lh (show ArrT wd gA 74 (at2.flatMap encVid) by(have hnm:=HM3.o.names;rw [atL_all] at hnm;exact hnm));have n0:wd.cell? ⟨gA,q*3,none⟩=some (.int .u8 u.pid.author.toNat):=HNm.o.arr.cell ((flat_get encVid_len _ q 0 u HU.o (by decide)).trans rfl);have n1:wd.cell? ⟨gA,q*3+1,none⟩=some (.int .u16 u.pid.seq.toNat):=HNm.o.arr.cell ((flat_get encVid_len _ q 1 u HU.o (by decide)).trans rfl);have n2:wd.cell? ⟨gA,q*3+2,none⟩=some (.int .u8 u.n.toNat):=HNm.o.arr.cell ((flat_get encVid_len _ q 2 u HU.o (by decide)).trans rfl);have n3:wd.cell? ⟨gA,(q+1)*3,none⟩=some (.int .u8 v.pid.author.toNat):=HNm.o.arr.cell ((flat_get encVid_len _ (q+1) 0 v HVV.o (by decide)).trans rfl);have n4:wd.cell? ⟨gA,(q+1)*3+1,none⟩=some (.int .u16 v.pid.seq.toNat):=HNm.o.arr.cell ((flat_get encVid_len _ (q+1) 1 v HVV.o (by decide)).trans rfl);have n5:wd.cell? ⟨gA,(q+1)*3+2,none⟩=some (.int .u8 v.n.toNat):=HNm.o.arr.cell ((flat_get encVid_len _ (q+1) 2 v HVV.o (by decide)).trans rfl);have sn:=HNm.o.arr.lt;have hB5:=HM3.o.below.size;have HOw:=Lh HM3.o.own;obtain⟨ops9,hops9⟩:∃ z,z=ops2++[(⟨4,u,v,⟨#[]⟩⟩:OpM)]:=⟨_,rfl⟩;have HO9e:=Lh hops9;have HN9:Hid (ops9=ops++tiesTo R ks at2 (q+1+1)):=by show _=_;rw [HN.o,← List.append_assoc,← HO2.o];exact hops9
  clear hops9;go_wp2_with fail;refine wlo 12 fun hcur=>?_;repeat(first|refine lxq ?_|(refine lxl rfl ?_;go_wp2_with (first|(fail));refine⟨iov (by first|exact hcur|exact hcur.alloc hcur.size _),?_⟩))
  refine lxe ?_;clear hcur;go_wp2_with ((at_builtin;refine apD slOp rfl _ _ rfl w0.heap.size _ _ (dad _ _ _) 1 _ _ _ HOw.o rfl rfl rfl rfl hN5 (by decide) hB5 ?_;intro v9 w9 ho9 hg9);(obtain⟨p9,c9,e9,hO9⟩:=oown_more (GOwn.snoc (x:=(⟨4,u,v,⟨#[]⟩⟩:OpM)) ho9) HO9e.o);subst e9;have HO9:=Lh hO9;have HG9:=Lh hg9;clear ho9 hg9 hO9);go_roundw
  case rel=>exact⟨q+1+1,ops9,p9,c9,hlt,by go_num,rfl,HN9,HM3.o.op HO9.o HG9.o⟩
  simp [intOf];omega
end
end Go.Proofs.YtjccmcgglfncdaaGreatDoor
