/- Contract of edit.Ops. Contracts of law27.Ops, few. How much a few patches make: what EditKeeps wants, too. -/
import Derived.Test.YtllcipobiengiaaGreatYEdC
import Derived.Test.YtllcipobiengiaaGreatYNmB
namespace Go.Proofs.YtllcipobiengiaaGreat
open Go Go.RowKit

/-! ### a row of names that is filled -/
theorem vids_cells(n:Nat):(madeCells #[.int .u8 0,.int .u16 0,.int .u8 0] (n*3)).toList=(List.replicate n noVid).flatMap encVid:=by
 refine List.ext_getElem? fun k => ?_
 by_cases hk:k<n*3
 ·
  have h2:=flat_get encVid_len (List.replicate n noVid) (k / 3) (k % 3) noVid (by rw [List.getElem?_replicate,if_pos (by omega)]) (by omega)
  rw [show k / 3*3+k % 3=k by omega] at h2
  rw [h2]
  unfold madeCells
  have h3:k % 3=0∨k % 3=1∨k % 3=2:=by omega
  rcases h3 with h3|h3|h3 <;> simp [h3,hk] <;> rfl
 ·
  rw [List.getElem?_eq_none (by simp [madeCells];omega),List.getElem?_eq_none (by rw [flat_len encVid_len];simp;omega)]
theorem own_fullN{w:World}{B g n sz:Nat}{e:TypeId}{xs:List Value}(h:w.ownsRow B e sz (.slice (some ⟨g,0,none⟩) n n) n xs):ArrT w g e xs∧B≤g:=by
 obtain⟨h1,h2⟩:=h
 rcases h2 with⟨hv,_⟩|⟨g',cap,cur,hv,hb,hg,hnc,hm,hs,ht⟩
 ·
  cases hv
 ·
  cases hv
  have:cur.toList=xs:=by rw [← ht,List.take_of_length_le (by simp;omega)]
  refine⟨?_,hb⟩
  unfold ArrT
  rw [hg,← this]
def atL(at':List VidM)(j m:Nat):List VidM:=at'++List.replicate (m - j) noVid
theorem atL_zero(m:Nat):atL [] 0 m=List.replicate m noVid:=rfl
theorem atL_set{at':List VidM}{j m:Nat}(ha:at'.length=j)(hj:j<m)(v:VidM):(atL at' j m).set j v=atL (at'++[v]) (j+1) m:=by
 unfold atL
 rw [List.set_append_right _ _ (by omega),ha,Nat.sub_self,show m - j=(m - (j+1))+1 by omega,List.replicate_succ,List.set_cons_zero,List.append_assoc]
 rfl
theorem atL_len{at':List VidM}{j m:Nat}(ha:at'.length=j)(hj:j≤m):(atL at' j m).length=m:=by unfold atL;rw [List.length_append,ha,List.length_replicate];omega
theorem atL_all{at':List VidM}{m:Nat}:atL at' m m=at':=by unfold atL;rw [Nat.sub_self];simp
theorem oown_form{w:World}{B:Nat}{e:TypeId}{v:Value}{xs:List OpM}(h:GOwn encOp 8 e w B v xs):∃ p c,v=.slice p xs.length c:=by
 obtain⟨a,cap,e1,_⟩:=h.row.at encOp_len
 exact⟨a,cap,e1⟩
theorem oown_more{w:World}{B:Nat}{e:TypeId}{v:Value}{xs ys:List OpM}{o:OpM}(h:GOwn encOp 8 e w B v (xs++[o]))(hy:ys=xs++[o]):∃(p:Option Addr) (c:Nat),v=.slice p ys.length c∧GOwn encOp 8 e w B v ys:=by
 subst hy
 obtain⟨p,c,e⟩:=oown_form h
 exact⟨p,c,e,h⟩
structure MidE (wr:World) (w0:World) (gK gA m j:Nat) (ks:List Int) (p:Option Addr) (c:Nat) (ops:List OpM) (at':List VidM):Prop where
 kept:ArrT wr gK 3 (keptV1 ks)
 names:ArrT wr gA 40 ((atL at' j m).flatMap encVid)
 own:GOwn encOp 8 58 wr w0.heap.size (.slice p ops.length c) ops
 below:Below w0.heap.size w0 wr
theorem MidE.over{wr w0 w2:World}{gK gA m j:Nat}{ks:List Int}{p:Option Addr}{c:Nat}{ops:List OpM}{at':List VidM}(h:MidE wr w0 gK gA m j ks p c ops at')(hb:Below wr.heap.size wr w2):MidE w2 w0 gK gA m j ks p c ops at':=
 ⟨h.kept.over hb,h.names.over hb,h.own.over hb,bov h.below h.below.size hb⟩
section
variable {P : Program} {ty : TypeId} {size : Nat} {w : World} {ops : Array Oper} {rest : List Oper} {o : Oper} {a : Act} {Q : Exit → Act → World → Prop}
/-- a struct stored at a place of a whole row -/
theorem wpList_store_arrN(T:RowT P ty size)(hgd:o.guard=none)(x y:Operand)(ho:o.op=.store ty x y){e:TypeId}{sz g n:Nat}{cs:List Value}(hA:ArrT w g e cs)(hl:cs.length=n*sz)(hm:n≤maxLen)(k:Nat)(new:List Value)
  (hx:a.eval x=.pointer (some ⟨g,k,none⟩)) (hy:a.eval y=.agg new.toArray) (hn:new.length=size) (hk:k+new.length≤n*sz) (h1:∀ u∈new,u.oneCell'=true)
  (h:∀ w',ArrT w' g e (cs.take k++new++cs.drop (k+new.length))→w.grownBy w' (some g)→wpList P ops Q rest (a.put o.dst undef) w'):wpList P ops Q (o :: rest) a w:=
 wpList_store_own T hgd x y ho (B:=g) (e:=e) (sz:=sz) (n:=n) (cap:=n) (xs:=cs) ⟨⟨[],by rw [List.append_nil];exact hA,by rw [List.append_nil];exact hl⟩,hl,Nat.le_refl _,Nat.le_refl _,hm⟩ k new hx hy hn hk h1 fun w' hO hg _=>h w' (own_fullN hO.own).1 hg
end
theorem vids_put{l:List VidM}{j:Nat}{v:VidM}(h:j<l.length):(l.flatMap encVid).take (j*3)++encVid v++(l.flatMap encVid).drop (j*3+(encVid v).length)=(l.set j v).flatMap encVid:=by
 rw [flat_set encVid_len l j v h,show(j+1)*3=j*3+(encVid v).length by rw [encVid_len];omega]
/-- a name more -/
theorem MidE.name{wr w' w0:World}{gK gA m j:Nat}{ks:List Int}{p:Option Addr}{c:Nat}{ops:List OpM}{at':List VidM}(h:MidE wr w0 gK gA m j ks p c ops at')(ha:at'.length=j)(hj:j<m)(hg:w0.heap.size≤gA)(hne:gK≠gA){v:VidM}
  (hA:ArrT w' gA 40 (((atL at' j m).flatMap encVid).take (j*3)++encVid v++((atL at' j m).flatMap encVid).drop (j*3+(encVid v).length))) (hgr:wr.grownBy w' (some gA)):MidE w' w0 gK gA m (j+1) ks p c ops (at'++[v]):=by
 rw [vids_put (by rw [atL_len ha (Nat.le_of_lt hj)];exact hj),atL_set ha hj] at hA
 exact⟨h.kept.kept hgr (fun e=>hne (Option.some.inj e)),hA,own_kept h.own hgr (h.names.ne h.own (by decide)),h.below.grown hgr h.below.size fun q hq=>by cases hq;exact hg⟩
theorem atL_flat{at':List VidM}{j m:Nat}(ha:at'.length=j)(hj:j≤m):((atL at' j m).flatMap encVid).length=m*3:=by rw [flat_len encVid_len,atL_len ha hj]
/-- an operation more -/
theorem MidE.op{wr w0 w9:World}{gK gA m j:Nat}{ks:List Int}{p p9:Option Addr}{c c9:Nat}{ops ops9:List OpM}{at':List VidM}(h:MidE wr w0 gK gA m j ks p c ops at')(ho:GOwn encOp 8 58 w9 w0.heap.size (.slice p9 ops9.length c9) ops9)(hg:wr.grownBy w9 (Value.slice p ops.length c).ownBlock) :
  MidE w9 w0 gK gA m j ks p9 c9 ops9 at':=
 ⟨h.kept.kept hg (h.kept.ne h.own (by decide)),h.names.kept hg (h.names.ne h.own (by decide)),ho,bgr h.below h.below.size h.own hg⟩
def A1Rel(w0:World)(l:List VertM)(file:VidM)(id:PidM)(from':Nat)(ks:List Int)(want:List ByteArray)(kl:List OpM)(gK gA m:Nat)(v12 v30:Value)(wr:World):Prop:=
 ∃(j:Nat) (ops:List OpM) (at':List VidM) (p:Option Addr) (c:Nat),j≤m∧v30=.int .i64 j∧v12=.slice p ops.length c∧Hid ((ops,at')=addsTo l file id from' ks want kl j)∧Hid (MidE wr w0 gK gA m j ks p c ops at')
def A2Rel(w0:World)(R:List (Nat × Nat))(ks:List Int)(at':List VidM)(ops0:List OpM)(gK gA m:Nat)(v12 v69:Value)(wr:World):Prop:=
 ∃(j:Nat) (ops:List OpM) (p:Option Addr) (c:Nat),j≤m∧v69=.int .i64 j∧v12=.slice p ops.length c∧Hid (ops=ops0++tiesTo R ks at' j)∧Hid (MidE wr w0 gK gA m m ks p c ops at')
theorem rowVidE:RowT Tryz.prog 40 3:=rowT_of Tryz.underlying40 rfl (by kernel_rfl)
theorem slVidE:SlT Tryz.prog 37 40 3 6:=slT_of Tryz.underlying37 (by kernel_rfl) (by decide)
attribute [local irreducible] keptV1 keptTo textAt firmX aliveX killsE addsTo tiesTo atL
theorem adds_both{l:List VertM}{file:VidM}{id:PidM}{from':Nat}{ks:List Int}{want:List ByteArray}{kl ops:List OpM}{at':List VidM}{j:Nat}(hl:ks.length=want.length)(hj:j≤want.length)(h:(ops,at')=addsTo l file id from' ks want kl j):at'.length=j∧ops.length≤kl.length+j:=by
 have h1:=adds_len2 (l:=l) (file:=file) (id:=id) (from':=from') (ks:=kl) hl j hj
 have h2:=adds_len1 (l:=l) (file:=file) (id:=id) (from':=from') (kept:=ks) (want:=want) (ks:=kl) j
 rw [← h] at h1 h2
 exact⟨h1,h2⟩
theorem adds_next1{l:List VertM}{file:VidM}{id:PidM}{from':Nat}{ks:List Int}{want:List ByteArray}{kl ops:List OpM}{at':List VidM}{j i:Nat}{t:ByteArray}{x:VertM}(hk:ks[j]? = some (i:Int))(ht:want[j]? = some t)(hx:l[i]? = some x)(h:(ops,at')=addsTo l file id from' ks want kl j) :
  (ops,at'++[x.id])=addsTo l file id from' ks want kl (j+1):=by
 rw [adds_yes hk ht,← h,getD_of hx]
theorem adds_next2{l:List VertM}{file:VidM}{id:PidM}{from':Nat}{ks:List Int}{want:List ByteArray}{kl ops:List OpM}{at':List VidM}{j:Nat}{t:ByteArray}(hk:ks[j]? = some (-1))(ht:want[j]? = some t)(h:(ops,at')=addsTo l file id from' ks want kl j) :
  (ops++[⟨3,file,noVid,t⟩],at'++[⟨id,UInt8.ofNat (from'+ops.length)⟩])=addsTo l file id from' ks want kl (j+1):=by
 rw [adds_no hk ht,← h]
set_option maxHeartbeats 16000000 in
set_option maxRecDepth 100000 in
theorem eops_any(s:Nat)(wv:Value)(l:List VertM)(R:List (Nat × Nat))(file:VidM)(id:PidM)(from':Nat)(want:List ByteArray)(w:World)(h:ShAt w s l R)(hl:l.length≤1000)(hw:SRow w wv want)(hm:want.length≤1000)(hf:from'≤1000000) :
  Calls Tryz.prog 16 #[.pointer (some ⟨s,0,none⟩),vidV file,pidV id,.int .i64 from',wv] w (OwnRes encOp 8 58 w (editM l R (aliveX l R) (firmX l R) file id from' want (pairs ((firmX l R).map (textAt l)) want))):=by
 rw [edit_eq]
 have HBX:=(bnew (w:=w) (.cells #[.int .u8 file.pid.author.toNat,.int .u16 file.pid.seq.toNat,.int .u8 file.n.toNat] 40)).alloc (by simp) (.cells #[.int .u8 id.author.toNat,.int .u16 id.seq.toNat] 26)
 have HS:=Lib.hid (h.over HBX)
 have HW:=Lib.hid (hw.over HBX)
 have HF:=Lib.hid ((anw w #[.int .u8 file.pid.author.toNat,.int .u16 file.pid.seq.toNat,.int .u8 file.n.toNat] 40).alloc (.cells #[.int .u8 id.author.toNat,.int .u16 id.seq.toNat] 26))
 have HI:=Lib.hid (an2 w (.cells #[.int .u8 file.pid.author.toNat,.int .u16 file.pid.seq.toNat,.int .u8 file.n.toNat] 40) #[.int .u8 id.author.toNat,.int .u16 id.seq.toNat] 26)
 have HB:=Lib.hid HBX
 obtain⟨wa,wc,rfl,z1,z2,_⟩:=SRow.form hw
 unfold maxLen at z2
 clear h hw HBX
 unfold vidV pidV
 go_enter Tryz.func16,Tryz.ntmps16
 go_upto_region 1 with(fail)
 generalize hw0:(w.alloc (.cells #[.int .u8 file.pid.author.toNat,.int .u16 file.pid.seq.toNat,.int .u8 file.n.toNat] 40)).alloc (.cells #[.int .u8 id.author.toNat,.int .u16 id.seq.toNat] 26)=w0 at *
 clear hw0
 go_wp2_with fail
 refine(ekeeps_any s _ l R want _ HS.out hl HW.out hm).mono ?_
 generalize hks:keptTo (firmX l R) (pairs ((firmX l R).map (textAt l)) want) want.length=ks
 have HKI:Hid (∀(j:Nat) (x:Int),ks[j]? = some x→x = -1∨∃ i:Nat,x=(i:Int)∧i<l.length):=fun j x hx=>by
  rw [← hks] at hx
  refine kept_is (fun i hi=>firmX_lt hi) ?_ hx
  rcases Nat.eq_zero_or_pos l.length with h0|h0
  ·
   refine .inr (List.eq_nil_iff_forall_not_mem.2 fun p hp => ?_)
   have h1:=(ePairs_in hp).1
   rw [texts_len] at h1
   have:=firmX_len l R
   omega
  ·
   exact .inl h0
 have hkl:ks.length=want.length:=by rw [← hks];exact kept_length _ _ _
 have HKL:=Lib.hid hkl
 have HKS:=Lib.hid hks
 clear hks
 rintro e w1 ⟨gK,rfl,hgK,hA,hb1⟩
 have HA1:=Lib.hid hA
 have HB1:=Lib.hid hb1
 have HOK:Hid (∀ x∈ks,okInt x):=fun x hx=>by
  obtain⟨j,hj⟩:=List.getElem?_of_mem hx
  rcases HKI.out j x hj with rfl|⟨i,rfl,hi⟩
  ·
   unfold okInt;omega
  ·
   exact ok_int (by omega)
 clear hA hb1
 rw [hkl]
 go_wp2_with fail
 refine(hkl▸ekills_any s gK l R ks _ (HS.out.over HB1.out) hl HA1.out HOK.out (by omega)).mono ?_
 have hkil:=Nat.le_trans (kills_len l ks (aliveX l R)) (aliveX_len l R)
 generalize hkill:killsE l (aliveX l R) ks=kl at *
 have HKLL:=Lib.hid hkill
 clear hkill
 rintro e w2 ⟨v12,rfl,ho2,hb2⟩
 have HO2:=Lib.hid (ho2.base HB1.out.size)
 have HB2:=Lib.hid (bov HB1.out HB1.out.size hb2)
 have HA2:=Lib.hid (HA1.out.over hb2)
 clear ho2 hb2 hkl
 obtain⟨m,hmm⟩:∃ m,m=want.length:=⟨_,rfl⟩
 rw [← hmm] at hm ⊢
 have HMM:=Lib.hid hmm
 have hmx:m≤maxLen:=by unfold maxLen;omega
 obtain⟨ti,tz,t1,t2,t3,t4,t5,t6,t7⟩:=slVidE.out
 have hz:((Tryz.prog.info? 40).bind (·.zero))=some (.agg #[.int .u8 0,.int .u16 0,.int .u8 0]):=by kernel_rfl
 rw [t2] at hz
 have hz2:tz=.agg #[.int .u8 0,.int .u16 0,.int .u8 0]:=by
  have:ti.zero=some (.agg #[.int .u8 0,.int .u16 0,.int .u8 0]):=hz
  rw [t3] at this;exact Option.some.inj this
 subst hz2
 have hbm:ti.bytes*m≤281474976710656:=by rw [t5];omega
 have HT:=Lib.hid (And.intro t2 (And.intro t3 (And.intro t4 hbm)))
 clear hmm hz t1 t2 t3 t4 t5 t6 t7 hbm
 go_upto_region 4 with(at_make;refine wpList_make_full _ rfl _ _ _ rfl w2.heap.size 40 ti _ 3 Tryz.underlying37 HT.out.1 HT.out.2.1 HT.out.2.2.1 .i64 .i64 _ _ m rfl rfl rfl rfl HT.out.2.2.2 hmx (Nat.le_refl _) ?_;intro w3 ho3 hg3)
 have HB3a:=Lib.hid (grown_over' hg3 (fun g hg=>by cases hg))
 have hA3:=(own_fullN ho3).1
 rw [show(Value.agg #[.int .u8 0,.int .u16 0,.int .u8 0]).cells=#[.int .u8 0,.int .u16 0,.int .u8 0] from rfl,vids_cells] at hA3
 have hgl:w0.heap.size≤w2.heap.size:=HB2.out.size
 have hne:gK≠w2.heap.size:=by have:=HA2.out.arr.lt;omega
 obtain⟨gA,hgA0⟩:∃ gA,gA=w2.heap.size:=⟨_,rfl⟩
 rw [← hgA0] at hA3 hgl hne ⊢
 obtain⟨p0,c0,rfl⟩:=oown_form HO2.out
 have HMid0:Hid (MidE w3 w0 gK gA m 0 ks p0 c0 kl []):=⟨HA2.out.over HB3a.out,(by rw [atL_zero];exact hA3),HO2.out.over HB3a.out,bov HB2.out HB2.out.size HB3a.out⟩
 clear hA3 ho3 hg3 hgA0 HB3a HT HA2 HO2 HA1
 go_wp2_with fail
 go_loopw [12,30] (fun v12 v30 wr=>A1Rel w0 l file id from' ks want kl gK gA m v12 v30 wr) (fun _ v30 _=>m - (intOf v30).toNat)
 case atStart=>exact⟨0,kl,[],p0,c0,by omega,rfl,rfl,Lib.hid adds_zero.symm,HMid0⟩
 case round =>
  obtain⟨j,ops,at',p,c,hj,rfl,rfl,HAD,HMid⟩:=hrel
  rename World=>wr
  obtain⟨hal,hol⟩:=adds_both HKL.out (by rw [← HMM.out];exact hj) HAD.out
  have HAL:=Lib.hid hal
  have sk:=HMid.out.kept.arr.lt
  clear hal
  by_cases hlt:j<m
  ·
   obtain⟨x,hx⟩:=gol (xs:=ks) (i:=j) (by rw [HKL.out,← HMM.out];exact hlt)
   obtain⟨t,ht⟩:=gol (xs:=want) (i:=j) (by rw [← HMM.out];exact hlt)
   have k0:=HMid.out.kept.arr.cell (keptV1_get hx)
   obtain⟨y,hy⟩:=gol (xs:=atL at' j m) (i:=j) (by rw [atL_len HAL.out hj];exact hlt)
   have HY:=Lib.hid hy
   have HX:=Lib.hid hx
   have HTx:=Lib.hid ht
   have HBw:=Lib.hid HMid.out.below
   clear hy ht
   rcases HKI.out j x hx with hx1|⟨i,hx1,hil⟩
   ·
    subst hx1
    have HI4:=Lib.hid (HI.out.over HBw.out)
    have i0:=HI4.out.cell (j:=0) rfl
    have i1:=HI4.out.cell (j:=1) rfl
    have si:=HI4.out.lt
    obtain⟨N,hN⟩:∃ N,from'+ops.length=N:=⟨_,rfl⟩
    have eN:((from':Int)+(ops.length:Int))=(N:Int):=by omega
    have hNl:N<4611686018427387904:=by omega
    have HN:=Lib.hid hN
    clear hx hN
    go_wp2_with fail
    refine(pvid_any id N _ hNl).mono ?_
    rintro e w4 ⟨rfl,hb4⟩
    have HMid4:=Lib.hid (HMid.out.over hb4)
    clear hb4 k0 sk i0 i1 si eN
    go_upto_region 11 with((with_reducible show wpList _ _ _ ({dst:=_,op:=.store _ _ _,type:=_,pos:=_,after:=_,guard:=_} :: _) _ _);refine wpList_store_arrN rowVidE rfl _ _ rfl HMid4.out.names (atL_flat HAL.out hj) hmx (j*3) (encVid ⟨id,UInt8.ofNat N⟩) rfl rfl rfl (by rw [encVid_len];omega) (oneVid ⟨id,UInt8.ofNat N⟩) ?_;intro w5 hA5 hg5)
    have HMid5:=Lib.hid (HMid4.out.name HAL.out hlt hgl hne hA5 hg5)
    clear hA5 hg5
    have HF5:=Lib.hid (HF.out.over HMid5.out.below)
    have f0:=HF5.out.cell (j:=0) rfl
    have f1:=HF5.out.cell (j:=1) rfl
    have f2:=HF5.out.cell (j:=2) rfl
    have sf:=HF5.out.lt
    obtain⟨wa2,wc2,e2,_,_,_,hcw⟩:=SRow.form (HW.out.over HMid5.out.below)
    cases e2
    obtain⟨bw,offw,rfl,sbw,hcw2⟩:=hcw.resolve_left (by rw [← HMM.out];omega)
    have w0c:=hcw2 j t HTx.out
    have hN5:ops.length+1≤1099511627776:=by omega
    have hB5:=HMid5.out.below.size
    have HOw:=Lib.hid HMid5.out.own
    obtain⟨ops9,hops9⟩:∃ y,y=ops++[(⟨3,file,noVid,t⟩:OpM)]:=⟨_,rfl⟩
    have HO9e:=Lib.hid hops9
    have HAD2:=Lib.hid (adds_next2 HX.out HTx.out HAD.out)
    rw [HN.out,← hops9] at HAD2
    clear hcw hcw2 hops9
    go_simp
    have hcur:Below w5.heap.size w5 w5.drew:=(Below.refl _ _).drew
    refine wlex (C:=IsOver w5) 8 [] (by kernel_rfl) (by kernel_rfl) (iov hcur) ?_
    simp only [List.take_succ_cons,List.take_zero,List.drop_succ_cons,List.drop_zero]
    repeat(first|(refine lxs rfl rfl ?_;simp only [Act.put,List.setIfInBounds_toArray,List.set_cons_succ,List.set_cons_zero])|(refine lxo rfl ?_;go_big_quiet_step (fail);refine wpQuiet_nil ?_)|(refine lxl rfl ?_;go_wp2_with (first|(fail));refine⟨iov (by first|exact hcur|exact hcur.alloc hcur.size _),?_⟩))
    refine lxe ?_
    clear hcur
    go_wp2_with ((at_builtin;refine apD slOp rfl _ _ rfl w0.heap.size _ _ (dad _ _ _) 1 _ _ _ HOw.out rfl rfl rfl rfl hN5 (by decide) hB5 ?_;intro v9 w9 ho9 hg9);(obtain⟨p9,c9,e9,hO9⟩:=oown_more (GOwn.snoc (x:=(⟨3,file,noVid,t⟩:OpM)) ho9) HO9e.out);subst e9;have HO9:=Lib.hid hO9;have HG9:=Lib.hid hg9;clear ho9 hg9 hO9)
    go_roundw
    case rel=>exact⟨j+1,ops9,_,p9,c9,hlt,by go_num,rfl,HAD2,HMid5.out.op HO9.out HG9.out⟩
    case measure=>simp [intOf];omega
   ·
    subst hx1
    obtain⟨x,hxv⟩:=gol hil
    have HXv:=Lib.hid hxv
    have HAD2:=Lib.hid (adds_next1 HX.out HTx.out hxv HAD.out)
    clear hx hxv
    go_wp2_with fail
    refine(svert_any s i x l R _ (HS.out.over HBw.out) HXv.out).mono ?_
    rintro e w4 ⟨rfl,hb4⟩
    have HMid4:=Lib.hid (HMid.out.over hb4)
    clear hb4 k0 sk
    go_upto_region 9 with(fail)
    have HA5:=Lib.hid (anw w4 #[.int .u8 x.id.pid.author.toNat,.int .u16 x.id.pid.seq.toNat,.int .u8 x.id.n.toNat,.int .u8 x.kind.toNat,.int .u8 x.file.pid.author.toNat,.int .u16 x.file.pid.seq.toNat,.int .u8 x.file.n.toNat,.string x.text,.bool x.dead] 88)
    have HB5:=Lib.hid (bnew (w:=w4) (.cells #[.int .u8 x.id.pid.author.toNat,.int .u16 x.id.pid.seq.toNat,.int .u8 x.id.n.toNat,.int .u8 x.kind.toNat,.int .u8 x.file.pid.author.toNat,.int .u16 x.file.pid.seq.toNat,.int .u8 x.file.n.toNat,.string x.text,.bool x.dead] 88))
    generalize hw5:w4.alloc (.cells #[.int .u8 x.id.pid.author.toNat,.int .u16 x.id.pid.seq.toNat,.int .u8 x.id.n.toNat,.int .u8 x.kind.toNat,.int .u8 x.file.pid.author.toNat,.int .u16 x.file.pid.seq.toNat,.int .u8 x.file.n.toNat,.string x.text,.bool x.dead] 88)=w5 at *
    clear hw5
    have HMid5:=Lib.hid (HMid4.out.over HB5.out)
    have y0:=HA5.out.cell (j:=0) rfl
    have y1:=HA5.out.cell (j:=1) rfl
    have y2:=HA5.out.cell (j:=2) rfl
    have y3:=HA5.out.cell (j:=3) rfl
    have y4:=HA5.out.cell (j:=4) rfl
    have y5:=HA5.out.cell (j:=5) rfl
    have y6:=HA5.out.cell (j:=6) rfl
    have y7:=HA5.out.cell (j:=7) rfl
    have y8:=HA5.out.cell (j:=8) rfl
    have sy:=HA5.out.lt
    go_wp2_with ((with_reducible show wpList _ _ _ ({dst:=_,op:=.store _ _ _,type:=_,pos:=_,after:=_,guard:=_} :: _) _ _);refine wpList_store_arrN rowVidE rfl _ _ rfl HMid5.out.names (atL_flat HAL.out hj) hmx (j*3) (encVid x.id) rfl rfl rfl (by rw [encVid_len];omega) (oneVid x.id) ?_;intro w6 hA5 hg5)
    have HMid6:=Lib.hid (HMid5.out.name HAL.out hlt hgl hne hA5 hg5)
    clear hA5 hg5
    go_roundw
    case rel=>exact⟨j+1,ops,_,p,c,hlt,by go_num,rfl,HAD2,HMid6⟩
    case measure=>simp [intOf];omega
  ·
   obtain rfl:m=j:=by omega
   have hal2:=HAL.out
   have HA2e:=HMid.out
   obtain⟨at2,hat2⟩:∃ at2,at2=at':=⟨_,rfl⟩
   rw [← hat2] at HAD HA2e hal2
   have HAL2:=Lib.hid hal2
   have HMd:=Lib.hid HA2e
   have htl:=ties_len R ks at2
   have HTL:=Lib.hid htl
   clear HA2e hal2 hat2 sk htl
   go_wp2_with fail
   go_loopw [12,69] (fun v12 v69 wq=>A2Rel w0 R ks at2 ops gK gA m v12 v69 wq) (fun _ v69 _=>m - (intOf v69).toNat)
   case atStart=>exact⟨0,ops,p,c,by omega,rfl,rfl,Lib.hid (by rw [ties_zero,List.append_nil]),HMd⟩
   case round =>
    obtain⟨q,ops2,p2,c2,hq,rfl,rfl,HO2,HM2⟩:=hrel
    rename World=>wq
    have hol2:ops2.length≤ops.length+m:=by
     rw [HO2.out,List.length_append];have:=HTL.out q;omega
    have sk:=HM2.out.kept.arr.lt
    by_cases hlt:q<m
    ·
     by_cases hq0:q=0
     ·
      subst hq0
      have HN:Hid (ops2=ops++tiesTo R ks at2 1):=by show _=_;rw [HO2.out,ties_zero,ties_one]
      go_wp2_with fail
      have hcur:Below wq.heap.size wq wq.drew:=(Below.refl _ _).drew
      refine wlex (C:=IsOver wq) 32 [] (by kernel_rfl) (by kernel_rfl) (iov hcur) ?_
      simp only [List.take_succ_cons,List.take_zero,List.drop_succ_cons,List.drop_zero]
      repeat(first|(refine lxs rfl rfl ?_;simp only [Act.put,List.setIfInBounds_toArray,List.set_cons_succ,List.set_cons_zero])|(refine lxo rfl ?_;go_big_quiet_step (fail);refine wpQuiet_nil ?_)|(refine lxl rfl ?_;go_wp2_with (first|(fail));refine⟨iov hcur,?_⟩))
      refine lxe ?_
      clear hcur
      go_wp2_with fail
      go_roundw
      case rel=>exact⟨1,ops2,p2,c2,hlt,by go_num,rfl,HN,HM2.out.over (Below.refl _ _).drew⟩
      case measure=>simp [intOf];omega
     ·
      obtain⟨q,rfl⟩:∃ k,q=k+1:=⟨q - 1,by omega⟩
      obtain⟨x,hx⟩:=gol (xs:=ks) (i:=q) (by rw [HKL.out,← HMM.out];omega)
      obtain⟨y,hy⟩:=gol (xs:=ks) (i:=q+1) (by rw [HKL.out,← HMM.out];exact hlt)
      obtain⟨u,hu⟩:=gol (xs:=at2) (i:=q) (by rw [HAL2.out];omega)
      obtain⟨v,hv⟩:=gol (xs:=at2) (i:=q+1) (by rw [HAL2.out];exact hlt)
      have k0:=HM2.out.kept.arr.cell (keptV1_get hx)
      have k1:=HM2.out.kept.arr.cell (keptV1_get hy)
      have HX:=Lib.hid hx
      have HYY:=Lib.hid hy
      have HU:=Lib.hid hu
      have HVV:=Lib.hid hv
      have HSq:=Lib.hid (HS.out.over HM2.out.below)
      have HM3:=Lib.hid (HM2.out.over (Below.refl wq.heap.size wq).drew)
      have hN5:ops2.length+1≤1099511627776:=by omega
      have dq:decide ((0:Int)<(q:Int)+1)=true:=decide_eq_true (by omega)
      clear hu hv hq0
      rcases HKI.out q x hx with hx1|⟨i,hx1,hil⟩
      ·
       subst hx1
       have HN:=Lib.hid (ties_yes (R:=R) HX.out HYY.out HU.out HVV.out (.inl (by decide)))
       clear hx hy
       go_wp2_with fail
       have hcur:Below wq.heap.size wq wq.drew:=(Below.refl _ _).drew
       refine wlex (C:=IsOver wq) 32 [] (by kernel_rfl) (by kernel_rfl) (iov hcur) ?_
       simp only [List.take_succ_cons,List.take_zero,List.drop_succ_cons,List.drop_zero]
       repeat(first|(refine lxs rfl rfl ?_;simp only [Act.put,List.setIfInBounds_toArray,List.set_cons_succ,List.set_cons_zero])|(refine lxo rfl ?_;go_big_quiet_step (fail);refine wpQuiet_nil ?_)|(refine lxl rfl ?_;go_wp2_with (first|(fail));refine⟨iov hcur,?_⟩))
       refine lxe ?_
       clear hcur
       generalize hwd:wq.drew=wd at *
       clear hwd k0 k1 sk
       have HNm:=Lib.hid (show ArrT wd gA 40 (at2.flatMap encVid) by(have hnm:=HM3.out.names;rw [atL_all] at hnm;exact hnm))
       have n0:wd.cell? ⟨gA,q*3,none⟩=some (.int .u8 u.pid.author.toNat):=HNm.out.arr.cell ((flat_get encVid_len _ q 0 u HU.out (by decide)).trans rfl)
       have n1:wd.cell? ⟨gA,q*3+1,none⟩=some (.int .u16 u.pid.seq.toNat):=HNm.out.arr.cell ((flat_get encVid_len _ q 1 u HU.out (by decide)).trans rfl)
       have n2:wd.cell? ⟨gA,q*3+2,none⟩=some (.int .u8 u.n.toNat):=HNm.out.arr.cell ((flat_get encVid_len _ q 2 u HU.out (by decide)).trans rfl)
       have n3:wd.cell? ⟨gA,(q+1)*3,none⟩=some (.int .u8 v.pid.author.toNat):=HNm.out.arr.cell ((flat_get encVid_len _ (q+1) 0 v HVV.out (by decide)).trans rfl)
       have n4:wd.cell? ⟨gA,(q+1)*3+1,none⟩=some (.int .u16 v.pid.seq.toNat):=HNm.out.arr.cell ((flat_get encVid_len _ (q+1) 1 v HVV.out (by decide)).trans rfl)
       have n5:wd.cell? ⟨gA,(q+1)*3+2,none⟩=some (.int .u8 v.n.toNat):=HNm.out.arr.cell ((flat_get encVid_len _ (q+1) 2 v HVV.out (by decide)).trans rfl)
       have sn:=HNm.out.arr.lt
       have hB5:=HM3.out.below.size
       have HOw:=Lib.hid HM3.out.own
       obtain⟨ops9,hops9⟩:∃ z,z=ops2++[(⟨4,u,v,⟨#[]⟩⟩:OpM)]:=⟨_,rfl⟩
       have HO9e:=Lib.hid hops9
       have HN9:Hid (ops9=ops++tiesTo R ks at2 (q+1+1)):=by show _=_;rw [HN.out,← List.append_assoc,← HO2.out];exact hops9
       clear hops9
       go_wp2_with fail
       have hcur:Below wd.heap.size wd wd.drew:=(Below.refl _ _).drew
       refine wlex (C:=IsOver wd) 12 [] (by kernel_rfl) (by kernel_rfl) (iov hcur) ?_
       simp only [List.take_succ_cons,List.take_zero,List.drop_succ_cons,List.drop_zero]
       repeat(first|(refine lxs rfl rfl ?_;simp only [Act.put,List.setIfInBounds_toArray,List.set_cons_succ,List.set_cons_zero])|(refine lxo rfl ?_;go_big_quiet_step (fail);refine wpQuiet_nil ?_)|(refine lxl rfl ?_;go_wp2_with (first|(fail));refine⟨iov (by first|exact hcur|exact hcur.alloc hcur.size _),?_⟩))
       refine lxe ?_
       clear hcur
       go_wp2_with ((at_builtin;refine apD slOp rfl _ _ rfl w0.heap.size _ _ (dad _ _ _) 1 _ _ _ HOw.out rfl rfl rfl rfl hN5 (by decide) hB5 ?_;intro v9 w9 ho9 hg9);(obtain⟨p9,c9,e9,hO9⟩:=oown_more (GOwn.snoc (x:=(⟨4,u,v,⟨#[]⟩⟩:OpM)) ho9) HO9e.out);subst e9;have HO9:=Lib.hid hO9;have HG9:=Lib.hid hg9;clear ho9 hg9 hO9)
       go_roundw
       case rel=>exact⟨q+1+1,ops9,p9,c9,hlt,by go_num,rfl,HN9,HM3.out.op HO9.out HG9.out⟩
       case measure=>simp [intOf];omega
      ·
       subst hx1
       have ei:decide ((i:Int)<0)=false:=decide_eq_false (by omega)
       rcases HKI.out (q+1) y hy with hy1|⟨i2,hy1,hil2⟩
       ·
        subst hy1
        have HN:=Lib.hid (ties_yes (R:=R) HX.out HYY.out HU.out HVV.out (.inr (.inl (by decide))))
        clear hx hy
        go_wp2_with fail
        have hcur:Below wq.heap.size wq wq.drew:=(Below.refl _ _).drew
        refine wlex (C:=IsOver wq) 32 [] (by kernel_rfl) (by kernel_rfl) (iov hcur) ?_
        simp only [List.take_succ_cons,List.take_zero,List.drop_succ_cons,List.drop_zero]
        repeat(first|(refine lxs rfl rfl ?_;simp only [Act.put,List.setIfInBounds_toArray,List.set_cons_succ,List.set_cons_zero])|(refine lxo rfl ?_;go_big_quiet_step (fail);refine wpQuiet_nil ?_)|(refine lxl rfl ?_;go_wp2_with (first|(fail));refine⟨iov hcur,?_⟩))
        refine lxe ?_
        clear hcur
        generalize hwd:wq.drew=wd at *
        clear hwd k0 k1 sk
        have HNm:=Lib.hid (show ArrT wd gA 40 (at2.flatMap encVid) by(have hnm:=HM3.out.names;rw [atL_all] at hnm;exact hnm))
        have n0:wd.cell? ⟨gA,q*3,none⟩=some (.int .u8 u.pid.author.toNat):=HNm.out.arr.cell ((flat_get encVid_len _ q 0 u HU.out (by decide)).trans rfl)
        have n1:wd.cell? ⟨gA,q*3+1,none⟩=some (.int .u16 u.pid.seq.toNat):=HNm.out.arr.cell ((flat_get encVid_len _ q 1 u HU.out (by decide)).trans rfl)
        have n2:wd.cell? ⟨gA,q*3+2,none⟩=some (.int .u8 u.n.toNat):=HNm.out.arr.cell ((flat_get encVid_len _ q 2 u HU.out (by decide)).trans rfl)
        have n3:wd.cell? ⟨gA,(q+1)*3,none⟩=some (.int .u8 v.pid.author.toNat):=HNm.out.arr.cell ((flat_get encVid_len _ (q+1) 0 v HVV.out (by decide)).trans rfl)
        have n4:wd.cell? ⟨gA,(q+1)*3+1,none⟩=some (.int .u16 v.pid.seq.toNat):=HNm.out.arr.cell ((flat_get encVid_len _ (q+1) 1 v HVV.out (by decide)).trans rfl)
        have n5:wd.cell? ⟨gA,(q+1)*3+2,none⟩=some (.int .u8 v.n.toNat):=HNm.out.arr.cell ((flat_get encVid_len _ (q+1) 2 v HVV.out (by decide)).trans rfl)
        have sn:=HNm.out.arr.lt
        have hB5:=HM3.out.below.size
        have HOw:=Lib.hid HM3.out.own
        obtain⟨ops9,hops9⟩:∃ z,z=ops2++[(⟨4,u,v,⟨#[]⟩⟩:OpM)]:=⟨_,rfl⟩
        have HO9e:=Lib.hid hops9
        have HN9:Hid (ops9=ops++tiesTo R ks at2 (q+1+1)):=by show _=_;rw [HN.out,← List.append_assoc,← HO2.out];exact hops9
        clear hops9
        go_wp2_with fail
        have hcur:Below wd.heap.size wd wd.drew:=(Below.refl _ _).drew
        refine wlex (C:=IsOver wd) 12 [] (by kernel_rfl) (by kernel_rfl) (iov hcur) ?_
        simp only [List.take_succ_cons,List.take_zero,List.drop_succ_cons,List.drop_zero]
        repeat(first|(refine lxs rfl rfl ?_;simp only [Act.put,List.setIfInBounds_toArray,List.set_cons_succ,List.set_cons_zero])|(refine lxo rfl ?_;go_big_quiet_step (fail);refine wpQuiet_nil ?_)|(refine lxl rfl ?_;go_wp2_with (first|(fail));refine⟨iov (by first|exact hcur|exact hcur.alloc hcur.size _),?_⟩))
        refine lxe ?_
        clear hcur
        go_wp2_with ((at_builtin;refine apD slOp rfl _ _ rfl w0.heap.size _ _ (dad _ _ _) 1 _ _ _ HOw.out rfl rfl rfl rfl hN5 (by decide) hB5 ?_;intro v9 w9 ho9 hg9);(obtain⟨p9,c9,e9,hO9⟩:=oown_more (GOwn.snoc (x:=(⟨4,u,v,⟨#[]⟩⟩:OpM)) ho9) HO9e.out);subst e9;have HO9:=Lib.hid hO9;have HG9:=Lib.hid hg9;clear ho9 hg9 hO9)
        go_roundw
        case rel=>exact⟨q+1+1,ops9,p9,c9,hlt,by go_num,rfl,HN9,HM3.out.op HO9.out HG9.out⟩
        case measure=>simp [intOf];omega
       ·
        subst hy1
        have ei2:decide ((i2:Int)<0)=false:=decide_eq_false (by omega)
        clear hx hy
        cases hb:befB R i i2 with
        | true =>
         have HBV:=Lib.hid hb
         have HN:=Lib.hid (ties_no (R:=R) (at':=at2) HX.out HYY.out (Int.natCast_nonneg i) (Int.natCast_nonneg i2) hb)
         clear hb
         go_wp2_with fail
         have hcur:Below wq.heap.size wq wq.drew:=(Below.refl _ _).drew
         refine wlex (C:=IsOver wq) 32 [] (by kernel_rfl) (by kernel_rfl) (iov hcur) ?_
         simp only [List.take_succ_cons,List.take_zero,List.drop_succ_cons,List.drop_zero]
         repeat(first|(refine lxs rfl rfl ?_;simp only [Act.put,List.setIfInBounds_toArray,List.set_cons_succ,List.set_cons_zero])|(refine lxo rfl ?_;go_big_quiet_step (fail);refine wpQuiet_nil ?_)|(refine lxl rfl ?_;go_wp2_with (first|(go_at_call 43;(with_reducible refine(srel_any s l R _ (HSq.out.over hcur)).mono ?_);rintro e w' ⟨⟨r,rfl,hr⟩,rfl⟩;have HRL:=Lib.hid hr;clear hr)|(go_at_call 44;(with_reducible refine(rchBefore_any r l.length i i2 R _ HRL.out (by omega) (by omega)).mono ?_);rintro e w' ⟨rfl,rfl⟩;rw [HBV.out]));refine⟨iov hcur,?_⟩))
         refine lxe ?_
         clear hcur
         go_wp2_with fail
         go_roundw
         case rel=>exact⟨q+1+1,ops2,p2,c2,hlt,by go_num,rfl,Lib.hid (by rw [HN.out];exact HO2.out),HM3⟩
         case measure=>simp [intOf];omega
        | false =>
         have HBV:=Lib.hid hb
         have HN:=Lib.hid (ties_yes (R:=R) HX.out HYY.out HU.out HVV.out (.inr (.inr hb)))
         clear hb
         go_wp2_with fail
         have hcur:Below wq.heap.size wq wq.drew:=(Below.refl _ _).drew
         refine wlex (C:=IsOver wq) 32 [] (by kernel_rfl) (by kernel_rfl) (iov hcur) ?_
         simp only [List.take_succ_cons,List.take_zero,List.drop_succ_cons,List.drop_zero]
         repeat(first|(refine lxs rfl rfl ?_;simp only [Act.put,List.setIfInBounds_toArray,List.set_cons_succ,List.set_cons_zero])|(refine lxo rfl ?_;go_big_quiet_step (fail);refine wpQuiet_nil ?_)|(refine lxl rfl ?_;go_wp2_with (first|(go_at_call 43;(with_reducible refine(srel_any s l R _ (HSq.out.over hcur)).mono ?_);rintro e w' ⟨⟨r,rfl,hr⟩,rfl⟩;have HRL:=Lib.hid hr;clear hr)|(go_at_call 44;(with_reducible refine(rchBefore_any r l.length i i2 R _ HRL.out (by omega) (by omega)).mono ?_);rintro e w' ⟨rfl,rfl⟩;rw [HBV.out]));refine⟨iov hcur,?_⟩))
         refine lxe ?_
         clear hcur
         generalize hwd:wq.drew=wd at *
         clear hwd k0 k1 sk
         have HNm:=Lib.hid (show ArrT wd gA 40 (at2.flatMap encVid) by(have hnm:=HM3.out.names;rw [atL_all] at hnm;exact hnm))
         have n0:wd.cell? ⟨gA,q*3,none⟩=some (.int .u8 u.pid.author.toNat):=HNm.out.arr.cell ((flat_get encVid_len _ q 0 u HU.out (by decide)).trans rfl)
         have n1:wd.cell? ⟨gA,q*3+1,none⟩=some (.int .u16 u.pid.seq.toNat):=HNm.out.arr.cell ((flat_get encVid_len _ q 1 u HU.out (by decide)).trans rfl)
         have n2:wd.cell? ⟨gA,q*3+2,none⟩=some (.int .u8 u.n.toNat):=HNm.out.arr.cell ((flat_get encVid_len _ q 2 u HU.out (by decide)).trans rfl)
         have n3:wd.cell? ⟨gA,(q+1)*3,none⟩=some (.int .u8 v.pid.author.toNat):=HNm.out.arr.cell ((flat_get encVid_len _ (q+1) 0 v HVV.out (by decide)).trans rfl)
         have n4:wd.cell? ⟨gA,(q+1)*3+1,none⟩=some (.int .u16 v.pid.seq.toNat):=HNm.out.arr.cell ((flat_get encVid_len _ (q+1) 1 v HVV.out (by decide)).trans rfl)
         have n5:wd.cell? ⟨gA,(q+1)*3+2,none⟩=some (.int .u8 v.n.toNat):=HNm.out.arr.cell ((flat_get encVid_len _ (q+1) 2 v HVV.out (by decide)).trans rfl)
         have sn:=HNm.out.arr.lt
         have hB5:=HM3.out.below.size
         have HOw:=Lib.hid HM3.out.own
         obtain⟨ops9,hops9⟩:∃ z,z=ops2++[(⟨4,u,v,⟨#[]⟩⟩:OpM)]:=⟨_,rfl⟩
         have HO9e:=Lib.hid hops9
         have HN9:Hid (ops9=ops++tiesTo R ks at2 (q+1+1)):=by show _=_;rw [HN.out,← List.append_assoc,← HO2.out];exact hops9
         clear hops9
         go_wp2_with fail
         have hcur:Below wd.heap.size wd wd.drew:=(Below.refl _ _).drew
         refine wlex (C:=IsOver wd) 12 [] (by kernel_rfl) (by kernel_rfl) (iov hcur) ?_
         simp only [List.take_succ_cons,List.take_zero,List.drop_succ_cons,List.drop_zero]
         repeat(first|(refine lxs rfl rfl ?_;simp only [Act.put,List.setIfInBounds_toArray,List.set_cons_succ,List.set_cons_zero])|(refine lxo rfl ?_;go_big_quiet_step (fail);refine wpQuiet_nil ?_)|(refine lxl rfl ?_;go_wp2_with (first|(fail));refine⟨iov (by first|exact hcur|exact hcur.alloc hcur.size _),?_⟩))
         refine lxe ?_
         clear hcur
         go_wp2_with ((at_builtin;refine apD slOp rfl _ _ rfl w0.heap.size _ _ (dad _ _ _) 1 _ _ _ HOw.out rfl rfl rfl rfl hN5 (by decide) hB5 ?_;intro v9 w9 ho9 hg9);(obtain⟨p9,c9,e9,hO9⟩:=oown_more (GOwn.snoc (x:=(⟨4,u,v,⟨#[]⟩⟩:OpM)) ho9) HO9e.out);subst e9;have HO9:=Lib.hid hO9;have HG9:=Lib.hid hg9;clear ho9 hg9 hO9)
         go_roundw
         case rel=>exact⟨q+1+1,ops9,p9,c9,hlt,by go_num,rfl,HN9,HM3.out.op HO9.out HG9.out⟩
         case measure=>simp [intOf];omega
    ·
     obtain rfl:m=q:=by omega
     have HE:=Lib.hid (HM2.out.own.base HB.out.size)
     have HBe:=Lib.hid (bov HB.out HB.out.size HM2.out.below)
     go_wp2_with fail
     go_ret
     exact⟨_,rfl,(by rw [HKS.out,HKLL.out,← HMM.out,← HAD.out];show GOwn _ _ _ _ _ _ (ops++tiesTo R ks at2 m);rw [← HO2.out];exact HE.out),HBe.out⟩
end Go.Proofs.YtllcipobiengiaaGreat
namespace Go.Proofs.YtllcipobiengiaaGreat
open Go Go.RowKit

def one01(b:Bool):Value:=.int .i64 (if b then 1 else 0)
set_option maxHeartbeats 4000000 in
set_option maxRecDepth 100000 in
theorem lops_any(v u:Value)(l m:List OpM)(w:World)(hv:GRow encOp 8 w v l)(hu:GRow encOp 8 w u m) :
  Calls Tryz.prog 15 #[v,u] w fun e w'=>e=.returned (one01 (decide (l=m)))∧Below w.heap.size w w':=by
 obtain⟨a,cap,rfl,h1,h2,hc⟩:=hv.at encOp_len
 obtain⟨a',cap',rfl,h1',h2',hc'⟩:=hu.at encOp_len
 unfold maxLen at h2 h2'
 have HC:=Lib.hid hc
 have HC':=Lib.hid hc'
 clear hv hu hc hc'
 have gd:=fun p q xs ys w=>guard_op .neq p q xs ys w
 by_cases hlen:l.length=m.length
 ·
  have HL:=Lib.hid hlen
  have hq:((l.length:Int) != (m.length:Int))=false:=by simp [hlen]
  clear hlen
  go_enter Tryz.func15,Tryz.ntmps15
  go_wp2_with fail
  go_loopw [5] (fun i wr=>∃ k:Nat,k≤l.length∧i=.int .i64 k∧Hid (l.take k=m.take k)∧Below w.heap.size w wr) (fun i _=>l.length - (intOf i).toNat)
  case atStart=>exact⟨0,by omega,rfl,rfl,Below.refl _ _⟩
  case round =>
   obtain⟨k,hk,rfl,HK,hbl⟩:=hrel
   by_cases hlt:k<l.length
   ·
    obtain⟨bl,ol,rfl,sl,hcl⟩:=HC.out.resolve_left (by omega)
    obtain⟨bm,om,rfl,sm,hcm⟩:=HC'.out.resolve_left (by have:=HL.out;omega)
    obtain⟨x,hx⟩:=gol hlt
    obtain⟨y,hy⟩:=gol (xs:=m) (i:=k) (by have:=HL.out;omega)
    have hkm:k<m.length:=by have:=HL.out;omega
    have x0:wr.cell? ⟨bl,ol+k*8,none⟩=some (.int .u8 x.kind.toNat):=((hcl k x hx wr hbl)).2 0 _ rfl
    have x1:wr.cell? ⟨bl,ol+k*8+1,none⟩=some (.int .u8 x.at'.pid.author.toNat):=((hcl k x hx wr hbl)).2 1 _ rfl
    have x2:wr.cell? ⟨bl,ol+k*8+2,none⟩=some (.int .u16 x.at'.pid.seq.toNat):=((hcl k x hx wr hbl)).2 2 _ rfl
    have x3:wr.cell? ⟨bl,ol+k*8+3,none⟩=some (.int .u8 x.at'.n.toNat):=((hcl k x hx wr hbl)).2 3 _ rfl
    have x4:wr.cell? ⟨bl,ol+k*8+4,none⟩=some (.int .u8 x.to.pid.author.toNat):=((hcl k x hx wr hbl)).2 4 _ rfl
    have x5:wr.cell? ⟨bl,ol+k*8+5,none⟩=some (.int .u16 x.to.pid.seq.toNat):=((hcl k x hx wr hbl)).2 5 _ rfl
    have x6:wr.cell? ⟨bl,ol+k*8+6,none⟩=some (.int .u8 x.to.n.toNat):=((hcl k x hx wr hbl)).2 6 _ rfl
    have x7:wr.cell? ⟨bl,ol+k*8+7,none⟩=some (.string x.text):=((hcl k x hx wr hbl)).2 7 _ rfl
    have y0:wr.cell? ⟨bm,om+k*8,none⟩=some (.int .u8 y.kind.toNat):=((hcm k y hy wr hbl)).2 0 _ rfl
    have y1:wr.cell? ⟨bm,om+k*8+1,none⟩=some (.int .u8 y.at'.pid.author.toNat):=((hcm k y hy wr hbl)).2 1 _ rfl
    have y2:wr.cell? ⟨bm,om+k*8+2,none⟩=some (.int .u16 y.at'.pid.seq.toNat):=((hcm k y hy wr hbl)).2 2 _ rfl
    have y3:wr.cell? ⟨bm,om+k*8+3,none⟩=some (.int .u8 y.at'.n.toNat):=((hcm k y hy wr hbl)).2 3 _ rfl
    have y4:wr.cell? ⟨bm,om+k*8+4,none⟩=some (.int .u8 y.to.pid.author.toNat):=((hcm k y hy wr hbl)).2 4 _ rfl
    have y5:wr.cell? ⟨bm,om+k*8+5,none⟩=some (.int .u16 y.to.pid.seq.toNat):=((hcm k y hy wr hbl)).2 5 _ rfl
    have y6:wr.cell? ⟨bm,om+k*8+6,none⟩=some (.int .u8 y.to.n.toNat):=((hcm k y hy wr hbl)).2 6 _ rfl
    have y7:wr.cell? ⟨bm,om+k*8+7,none⟩=some (.string y.text):=((hcm k y hy wr hbl)).2 7 _ rfl
    have sX:=(hcl k x hx wr hbl).1
    have sY:=(hcm k y hy wr hbl).1
    have HX:=Lib.hid hx
    have HY:=Lib.hid hy
    clear hcl hcm hx hy
    by_cases hxy:x=y
    ·
     have hne:=neq_op x y false (by simp [hxy])
     unfold opV at hne
     have HK2:Hid (l.take (k+1)=m.take (k+1)):=by show _=_;rw [tsg HX.out,tsg HY.out,HK.out,hxy]
     clear hxy
     go_wp2_with fail
     have hcur:Below wr.heap.size wr wr.drew:=(Below.refl _ _).drew
     refine wlex (C:=IsOver wr) 9 [] (by kernel_rfl) (by kernel_rfl) (iov hcur) ?_
     simp only [List.take_succ_cons,List.take_zero,List.drop_succ_cons,List.drop_zero]
     repeat(first|(refine lxs rfl rfl ?_;simp only [Act.put,List.setIfInBounds_toArray,List.set_cons_succ,List.set_cons_zero])|(refine lxo rfl ?_;go_big_quiet_step (fail);refine wpQuiet_nil ?_))
     refine lxe ?_
     go_wp2_with fail
     go_roundw
     case rel=>exact⟨k+1,hlt,by go_num,HK2,hbl.drew⟩
     case measure=>simp [intOf];omega
    ·
     have hne:=neq_op x y true (by simp [hxy])
     unfold opV at hne
     have HN:Hid (decide (l=m)=false):=decide_eq_false (take_ne HX.out HY.out hxy)
     clear hxy
     go_wp2_with fail
     have hcur:Below wr.heap.size wr wr.drew:=(Below.refl _ _).drew
     refine wlex (C:=IsOver wr) 9 [] (by kernel_rfl) (by kernel_rfl) (iov hcur) ?_
     simp only [List.take_succ_cons,List.take_zero,List.drop_succ_cons,List.drop_zero]
     repeat(first|(refine lxs rfl rfl ?_;simp only [Act.put,List.setIfInBounds_toArray,List.set_cons_succ,List.set_cons_zero])|(refine lxo rfl ?_;go_big_quiet_step (fail);refine wpQuiet_nil ?_))
     refine lxe ?_
     go_wp2_with fail
     go_ret
     exact⟨rvl (congrArg one01 HN.out.symm),hbl.drew⟩
   ·
    obtain rfl:k=l.length:=by omega
    have HN:Hid (decide (l=m)=true):=decide_eq_true (take_all HL.out HK.out)
    go_wp2_with fail
    go_ret
    exact⟨rvl (congrArg one01 HN.out.symm),hbl⟩
 ·
  have HN:Hid (decide (l=m)=false):=decide_eq_false (fun h=>hlen (by rw [h]))
  have hq:((l.length:Int) != (m.length:Int))=true:=by simp;omega
  clear hlen
  go_enter Tryz.func15,Tryz.ntmps15
  go_wp2_with fail
  go_ret
  exact⟨rvl (congrArg one01 HN.out.symm),Below.refl _ _⟩

/-! ### few -/
def fewX(xs:List ByteArray):Bool:=decide (xs.length≤30) && xs.all fun x=>decide (x.size≤100)
set_option maxHeartbeats 4000000 in
set_option maxRecDepth 100000 in
theorem few27_any(v:Value)(l:List ByteArray)(w:World)(hv:SRow w v l) :
  Calls Tryz.prog 10 #[v] w fun e w'=>e=.returned (.bool (fewX l))∧Below w.heap.size w w':=by
 obtain⟨a,cap,rfl,h1,h2,h3,hc⟩:=SRow.form hv
 unfold maxLen at h2
 have HC:=Lib.hid hc
 clear hv hc
 by_cases hlen:l.length≤30
 ·
  go_enter Tryz.func10,Tryz.ntmps10
  have hg:decide ((l.length:Int) > 30)=false:=decide_eq_false (by omega)
  go_wp2_with fail
  go_loopw [3] (fun i wr=>∃ k:Nat,k≤l.length∧i=.int .i64 k∧Hid ((l.take k).all (fun x=>decide (x.size≤100))=true)∧Below w.heap.size w wr) (fun i _=>l.length - (intOf i).toNat)
  case atStart=>exact⟨0,by omega,rfl,rfl,Below.refl _ _⟩
  case round =>
   obtain⟨k,hk,rfl,HK,hbl⟩:=hrel
   by_cases hlt:k<l.length
   ·
    obtain⟨bl,ol,rfl,sl,hcl⟩:=HC.out.resolve_left (by omega)
    obtain⟨x,hx⟩:=gol hlt
    have x0:wr.cell? ⟨bl,ol+k,none⟩=some (.string x):=by rw [hbl.cell sl];exact hcl k x hx
    have HX:=Lib.hid hx
    clear hcl hx
    by_cases hxy:x.size≤100
    ·
     have hg2:decide ((x.size:Int) > 100)=false:=decide_eq_false (by omega)
     have HK2:Hid ((l.take (k+1)).all (fun x=>decide (x.size≤100))=true):=by show _=_;rw [tsg HX.out,List.all_append,HK.out];simp [hxy]
     go_wp2_with fail
     go_roundw
     case rel=>exact⟨k+1,hlt,by go_num,HK2,hbl⟩
     case measure=>simp [intOf];omega
    ·
     have hg2:decide ((x.size:Int) > 100)=true:=decide_eq_true (by omega)
     have HN:Hid (fewX l=false):=by
      show _=_;unfold fewX;rw [Bool.and_eq_false_iff];right
      rw [List.all_eq_false]
      exact⟨x,List.mem_of_getElem? HX.out,by simp [hxy]⟩
     go_wp2_with fail
     go_ret
     exact⟨rvl (congrArg Value.bool HN.out.symm),hbl⟩
   ·
    obtain rfl:k=l.length:=by omega
    have HN:Hid (fewX l=true):=by
     have:=HK.out
     rw [List.take_length] at this
     show _=_;unfold fewX;rw [this];simp [hlen]
    go_wp2_with fail
    go_ret
    exact⟨rvl (congrArg Value.bool HN.out.symm),hbl⟩
 ·
  have HN:Hid (fewX l=false):=by show _=_;unfold fewX;simp;omega
  have hg:decide ((l.length:Int) > 30)=true:=decide_eq_true (by omega)
  go_enter Tryz.func10,Tryz.ntmps10
  go_wp2_with fail
  go_ret
  exact⟨rvl (congrArg Value.bool HN.out.symm),Below.refl _ _⟩
end Go.Proofs.YtllcipobiengiaaGreat
namespace Go.Proofs.YtllcipobiengiaaGreat
open Go Go.RowKit

theorem putS_lenF{α:Type}{key:α→Nat}(x:α):∀ r:List α,(putS key x r).length≤r.length+1
 | []=>by simp [putS]
 | y :: r=>by
  have:=putS_lenF (key:=key) x r
  rw [putS]
  split
  ·
   simp
  ·
   split
   ·
    simp
   ·
    simp only [List.length_cons];omega
theorem setS_few{α:Type}{key:α→Nat}(l:List α):(setS key l).length≤l.length:=by
 have:∀(l out:List α),(l.foldl (fun out x=>putS key x out) out).length≤out.length+l.length:=by
  intro l
  induction l with
  | nil=>intro out;simp
  | cons x l ih =>
   intro out
   have h1:=ih (putS key x out)
   have h2:=putS_lenF (key:=key) x out
   rw [List.foldl_cons,List.length_cons];omega
 have:=this l []
 simpa [setS] using this
theorem flat_few{α β:Type}(f:α→List β)(b:Nat):∀ l:List α,(∀ x∈l,(f x).length≤b)→(l.flatMap f).length≤b*l.length
 | [],_=>by simp
 | x :: l,h=>by
  have h1:=h x (List.mem_cons_self ..)
  have h2:=flat_few f b l fun y hy=>h y (List.mem_cons_of_mem _ hy)
  rw [List.flatMap_cons,List.length_append,List.length_cons,Nat.mul_succ]
  omega
theorem idsOf_few(L:List PatchM)(b:Nat)(h:∀ p∈L,p.ops.length≤b):(idsOf L).length≤b*L.length:=by
 refine flat_few _ b L fun p hp=>Nat.le_trans (List.length_filterMap_le _ _) ?_
 rw [List.length_range];exact h p hp
theorem edgesOf_few(L:List PatchM)(b:Nat)(h:∀ p∈L,p.ops.length≤b):(edgesOf L).length≤b*L.length:=
 flat_few _ b L fun p hp=>Nat.le_trans (List.length_filterMap_le _ _) (h p hp)
theorem fewX_len{xs:List ByteArray}(h:fewX xs=true):xs.length≤30:=by
 unfold fewX at h
 simp only [Bool.and_eq_true,decide_eq_true_eq] at h
 exact h.1
end Go.Proofs.YtllcipobiengiaaGreat
