/- Blocks in memory: rows within rows. Contract of block.some. -/
import Derived.Test.YtllcipobiengiaaGreatYRBlkA
set_option linter.unusedVariables false
set_option linter.unusedSimpArgs false
namespace Go.Proofs.YtllcipobiengiaaGreat
open Go Go.RowKit

inductive BlL where
 | mk (kind num:Int) (sv:Value) (subs:List BlL)
def encBl:BlL→List Value
 | .mk k n sv _=>[.int .i64 k,.int .i64 n,sv]
theorem encBl_len(x:BlL):(encBl x).length=3:=by cases x;rfl
mutual
def bareB:BlL→BlkM
 | .mk k n _ s=>.mk k n (bareL s)
def bareL:List BlL→List BlkM
 | []=>[]
 | b :: l=>bareB b :: bareL l
end
theorem bareL_map:∀ l:List BlL,bareL l=l.map bareB
 | []=>by unfold bareL;rfl
 | b :: l=>by unfold bareL;rw [bareL_map l];rfl
mutual
def BIn(A:Nat→Prop)(w:World):BlL→Prop
 | .mk _ _ sv s=>GRow encBl 3 w sv s∧sv.oneCell'=true∧(∀ b,sv.ownBlock=some b→A b)∧BIns A w s
def BIns(A:Nat→Prop)(w:World):List BlL→Prop
 | []=>True
 | b :: l=>BIn A w b∧BIns A w l
end
theorem bin_mk{A:Nat→Prop}{w:World}{k n:Int}{sv:Value}{s:List BlL}:BIn A w (.mk k n sv s)↔(GRow encBl 3 w sv s∧sv.oneCell'=true∧(∀ b,sv.ownBlock=some b→A b)∧BIns A w s):=by unfold BIn;exact Iff.rfl
theorem bins_nil{A:Nat→Prop}{w:World}:BIns A w []:=by unfold BIns;trivial
mutual
theorem BIn.mono{A A':Nat→Prop}{w w':World}(hA:∀ b,A b→A' b)(hr:∀(v:Value) (xs:List BlL),(∀ b,v.ownBlock=some b→A b)→GRow encBl 3 w v xs→GRow encBl 3 w' v xs):∀ x:BlL,BIn A w x→BIn A' w' x
 | .mk k n sv s,h=>by
  unfold BIn at h ⊢
  exact⟨hr sv s h.2.2.1 h.1,h.2.1,fun b hb=>hA b (h.2.2.1 b hb),BIns.mono hA hr s h.2.2.2⟩
theorem BIns.mono{A A':Nat→Prop}{w w':World}(hA:∀ b,A b→A' b)(hr:∀(v:Value) (xs:List BlL),(∀ b,v.ownBlock=some b→A b)→GRow encBl 3 w v xs→GRow encBl 3 w' v xs):∀ l:List BlL,BIns A w l→BIns A' w' l
 | [],_=>by unfold BIns;trivial
 | b :: l,h=>by
  unfold BIns at h ⊢
  exact⟨BIn.mono hA hr b h.1,BIns.mono hA hr l h.2⟩
end
theorem BIns.over{A:Nat→Prop}{w w':World}{l:List BlL}(h:BIns A w l)(hb:Below w.heap.size w w'):BIns A w' l:=BIns.mono (fun _ h=>h) (fun _ _ _ h=>h.over hb) l h
theorem BIn.over{A:Nat→Prop}{w w':World}{x:BlL}(h:BIn A w x)(hb:Below w.heap.size w w'):BIn A w' x:=BIn.mono (fun _ h=>h) (fun _ _ _ h=>h.over hb) x h
theorem bins_append{A:Nat→Prop}{w:World}:∀ {l m:List BlL},BIns A w l→BIns A w m→BIns A w (l++m)
 | [],m,_,h=>h
 | b :: l,m,h,h'=>by
  rw [List.cons_append]
  unfold BIns at h ⊢
  exact⟨h.1,bins_append h.2 h'⟩
theorem bins_one{A:Nat→Prop}{w:World}{x:BlL}(h:BIn A w x):BIns A w [x]:=by
 unfold BIns
 exact⟨h,by unfold BIns;trivial⟩
def lineL(i:Nat):BlL:=.mk 1 i (.slice none 0 0) []
theorem lineL_bare(i:Nat):bareB (lineL i)=lineB i:=by unfold lineL lineB bareB bareL;rfl
theorem lineL_in(A:Nat→Prop)(w:World)(i:Nat):BIn A w (lineL i):=by
 exact bin_mk.2 ⟨grow_nil w,rfl,fun b hb=>(by cases hb),bins_nil⟩
theorem lines_in(A:Nat→Prop)(w:World):∀ l:List Nat,BIns A w (l.map lineL)
 | []=>by rw [List.map_nil];unfold BIns;trivial
 | i :: l=>by
  rw [List.map_cons];unfold BIns
  exact⟨lineL_in A w i,lines_in A w l⟩
theorem lines_bare(l:List Nat):bareL (l.map lineL)=l.map lineB:=by
 rw [bareL_map,List.map_map]
 exact List.map_congr_left fun i _=>lineL_bare i
theorem slBlk:SlT Tryz.prog 78 147 3 40:=slT_of Tryz.underlying78 (by kernel_rfl) (by decide)
def SmRel(w:World)(l:List Nat)(v3 v8:Value)(wr:World):Prop:=∃ k:Nat,k≤l.length∧v8=.int .i64 k∧Hid (GOwn encBl 3 147 wr w.heap.size v3 ((l.take k).map lineL))∧Hid (Below w.heap.size w wr)
theorem sm_succ{l:List Nat}{k i:Nat}(h:l[k]? = some i):(l.take (k+1)).map lineL=(l.take k).map lineL++[lineL i]:=by rw [take_one h,List.map_append];rfl
set_option maxHeartbeats 8000000 in
set_option maxRecDepth 100000 in
theorem bsome_any(v:Value)(l:List Nat)(w:World)(hv:GRow encI 1 w v l)(hn:l.length≤1000000):Calls Tryz.prog 163 #[v] w (OwnRes encBl 3 147 w (l.map lineL)):=by
 obtain⟨a,cap,rfl,h1,h2,hc⟩:=irow_at hv
 unfold maxLen at h2
 have HC:=Lh hc
 clear hv hc
 go_enter Tryz.func163,Tryz.ntmps163
 go_wp2_with fail
 go_loopw [3,8] (fun v3 v8 wr=>SmRel w l v3 v8 wr) (fun _ v8 _=>l.length - (intOf v8).toNat)
 case atStart=>exact⟨0,by omega,rfl,Lh (gown_nil _ _),Below.refl _ _⟩
 case round =>
  obtain⟨k,hk,rfl,HM,hbl⟩:=hrel
  rename World=>wr
  by_cases hlt:k<l.length
  ·
   obtain⟨b,off,rfl,sb,hcb⟩:=HC.out.resolve_left (by omega)
   obtain⟨i,hi⟩:=gol hlt
   obtain⟨sx,x0⟩:=hcb k i hi _ hbl.out
   have HSu:=Lh (sm_succ hi)
   have hN:((l.take k).map lineL).length+1≤1099511627776:=by rw [List.length_map,List.length_take];omega
   have hB3:=hbl.out.size
   clear hcb hi
   go_wp2_with (at_builtin;refine apD slBlk rfl _ _ rfl w.heap.size _ _ (drf _) 1 _ _ _ HM.out rfl rfl rfl rfl hN (by decide) hB3 ?_;intro v9 w9 ho9 hg9)
   go_roundw
   case rel=>exact⟨k+1,hlt,by go_num,(by show GOwn _ _ _ _ _ _ _;rw [HSu.out];exact GOwn.snoc ho9),bgr hbl.out hB3 HM.out hg9⟩
   case measure=>simp [intOf];omega
  ·
   obtain rfl:k=l.length:=by omega
   have HE:=HM.out
   rw [List.take_length] at HE
   have HE2:=Lh HE
   clear HE
   go_wp2_with fail
   go_ret
   exact⟨_,rfl,HE2.out,hbl.out⟩
end Go.Proofs.YtllcipobiengiaaGreat
