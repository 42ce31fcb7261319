/- Plain laws on graphs: what came of patches hangs together; a patch applied step by step; vertices, steps, files in order. Small lemmas on numbers as bits, on slices that are read, and on rows that a call owns. Maps as functions: a map's block read by typed keys and elements; look-up, store, ranging. -/
import Derived.Test.YtfciedmmgddgpaaGreatDoorZGrP
import Derived.Test.YtfciedmmgddgpaaGreatDoorRows
import Derived.WalkKit
import Derived.WalkLawsBesides
import Derived.WalkSpells
import Derived.Handy
import Derived.PlainAid
import Derived.Lib.Hide
import Derived.Deep.QuietTactic
import Derived.BigQuiet
import Derived.Deep.RegionWith
import Derived.Deep.RegionHeld3
import Derived.StillTailTactics
import Derived.Deep.DeepCutAuto
import Derived.Deep.DeepFit
import Derived.Maps.RangeWalk
import Derived.DeepKeys4
namespace Go.Proofs.YtfciedmmgddgpaaGreatDoor
open Go Go.RowKit

/-- graphs that came of patches -/
structure WfG (L : List PatchM) : Prop where
  good : ∀ p ∈ L, goodP p = true
  vec : ∀ a, vecM L a ≤ 60000
  none : ∀ a, authorOk a = false → vecM L a = 0
  has : ∀ q : PidM, hasM L q = true ↔ authorOk q.author = true ∧ 1 ≤ q.seq.toNat ∧ q.seq.toNat ≤ vecM L q.author
  refs : ∀ q ∈ L, ∀ o ∈ q.ops, ∀ v ∈ refsM o, hasM L v.pid = true
  kinds : ∀ q ∈ L, ∀ o ∈ q.ops, refMet L o = true
theorem hasM_snoc (L : List PatchM) (p : PatchM) (q : PidM) : hasM (L ++ [p]) q = (hasM L q || decide (p.id = q)) := by unfold hasM; simp
theorem vecM_snoc (L : List PatchM) (p : PatchM) (a : UInt8) : vecM (L ++ [p]) a = vecM L a + (if p.id.author = a then 1 else 0) := by
  unfold vecM
  rw [List.filter_append, List.length_append]
  by_cases h : p.id.author = a <;> simp [h]
structure CheckOk (L : List PatchM) (p : PatchM) : Prop where
  good : goodP p = true
  new : hasM L p.id = false
  next : nextM L p.id.author = p.id
  deps : ∀ d ∈ p.deps, hasM L d = true
  refs : ∀ o ∈ p.ops, refMet (L ++ [p]) o = true
theorem check_ok {L : List PatchM} {p : PatchM} (h : checkM L p = 0) : CheckOk L p := by
  unfold checkM at h
  split at h
  · simp at h
  · rename_i h1
    split at h
    · simp at h
    · rename_i h2
      split at h
      · simp at h
      · rename_i h3
        split at h
        · simp at h
        · rename_i h4
          split at h
          · simp at h
          · rename_i h5
            simp only [Bool.not_eq_false] at h1 h2 h3 h4 h5
            refine ⟨h1, by simpa using h2, Decidable.of_not_not h3, fun d hd => List.all_eq_true.1 h4 d hd, fun o ho => List.all_eq_true.1 h5 o ho⟩
theorem goodP_id {p : PatchM} (h : goodP p = true) : goodPid p.id = true := by unfold goodP at h; simp at h; exact h.1
theorem goodP_len {p : PatchM} (h : goodP p = true) : 1 ≤ p.ops.length ∧ p.ops.length ≤ 200 := by unfold goodP at h; simp at h; exact ⟨h.2.1, h.2.2.1⟩
theorem goodP_deps {p : PatchM} (h : goodP p = true) : p.deps = depsM p.id p.ops := by unfold goodP at h; simp at h; exact h.2.2.2.1
theorem goodP_one {p : PatchM} (h : goodP p = true) {i : Nat} {o : OpM} (ho : p.ops[i]? = some o) : oneB p i o = true := by
  unfold goodP at h
  simp only [Bool.and_eq_true] at h
  have := List.all_eq_true.1 h.2.2.2.2 i (List.mem_range.2 (List.getElem?_eq_some_iff.1 ho).1)
  rw [ho] at this
  exact this
theorem oneB_parts {p : PatchM} {i : Nat} {o : OpM} (h : oneB p i o = true) : opGood p.id i o = true ∧ laterB p.id o = false ∧ ¬ (4 ≤ o.kind.toNat ∧ o ∈ p.ops.take i) ∧ kindsB p o = true := by
  unfold oneB at h
  simp only [Bool.and_eq_true, Bool.not_eq_true'] at h
  refine ⟨h.1, h.2.1, ?_, h.2.2.2⟩
  have := h.2.2.1
  rintro ⟨h1, h2⟩
  simp [h1, h2] at this
theorem opGood_refs {id : PidM} {i : Nat} {o : OpM} (h : opGood id i o = true) {v : VidM} (hv : v ∈ refsM o) : goodVid v = true ∧ (v.pid = id → v.n.toNat < i) := by
  unfold opGood at h
  simp only [Bool.and_eq_true] at h
  have := List.all_eq_true.1 h.1 v hv
  unfold refOk at this
  simp at this
  exact ⟨this.1, fun e => (this.2).resolve_left (fun h => h e)⟩
theorem opGood_tail {id : PidM} {i : Nat} {o : OpM} (h : opGood id i o = true) : opTail id o = true := by unfold opGood at h; simp only [Bool.and_eq_true] at h; exact h.2
theorem opTail_kind {id : PidM} {o : OpM} (h : opTail id o = true) : o.kind = 1 ∨ o.kind = 2 ∨ o.kind = 3 ∨ o.kind = 4 ∨ (o.kind = 5 ∧ o.at'.pid ≠ id) := by
  unfold opTail at h
  split at h
  · left; assumption
  · split at h
    · right; left; assumption
    · split at h
      · right; right; left; assumption
      · split at h
        · right; right; right; left; assumption
        · split at h
          · rename_i h5
            simp at h
            exact .inr (.inr (.inr (.inr ⟨h5, h.1⟩)))
          · cases h
theorem refs_at_mem {o : OpM} (h : o.kind = 2 ∨ o.kind = 3 ∨ o.kind = 4 ∨ o.kind = 5) : o.at' ∈ refsM o := by
  unfold refsM
  rcases h with h | h | h | h <;> simp [h]
theorem refs_to_mem {o : OpM} (h : o.kind = 4) : o.to ∈ refsM o := by unfold refsM; simp [h]
theorem packPid_hi (a b : PidM) (h : packPid a = packPid b) : a = b := packPid_inj h
theorem mem_deps {id : PidM} {ops : List OpM} {o : OpM} (ho : o ∈ ops) {v : VidM} (hv : v ∈ refsM o) (hn : v.pid ≠ id) : v.pid ∈ depsM id ops := by
  unfold depsM
  rw [mem_setS packPid_hi]
  unfold depsOf
  refine List.mem_append.2 (.inr (List.mem_flatMap.2 ⟨o, ho, List.mem_map.2 ⟨v, List.mem_filter.2 ⟨hv, by simpa using hn⟩, rfl⟩⟩))
theorem next_parts {L : List PatchM} {p : PidM} (hg : goodPid p = true) (h : nextM L p.author = p) : authorOk p.author = true ∧ vecM L p.author < 60000 ∧ p.seq.toNat = vecM L p.author + 1 := by
  unfold nextM at h
  split at h
  · rename_i hc
    refine ⟨hc.1, hc.2, ?_⟩
    have : p.seq = UInt16.ofNat (vecM L p.author + 1) := by
      have := congrArg PidM.seq h
      exact this.symm
    rw [this]
    simp
    omega
  · rw [← h] at hg
    exact absurd hg (by decide)
theorem seq_pos_author {p : PidM} (hg : goodPid p = true) : authorOk p.author = true ∧ 1 ≤ p.seq.toNat := by
  unfold goodPid at hg; unfold authorOk; simp at hg ⊢; omega

/-! ### vertices -/
theorem vertOp_snoc (L : List PatchM) (p : PatchM) (v : VidM) : vertOp (L ++ [p]) v = (vertOp L v).or (madeBy p v) := by
  unfold vertOp
  rw [List.findSome?_append]; simp [List.findSome?]
  cases madeBy p v <;> rfl
theorem madeBy_far {p : PatchM} {v : VidM} (h : v.pid ≠ p.id) : madeBy p v = none := by unfold madeBy; rw [if_neg (fun e => h e.symm)]
theorem vertOp_none {L : List PatchM} {v : VidM} (h : hasM L v.pid = false) : vertOp L v = none := by
  unfold vertOp
  rw [List.findSome?_eq_none_iff]
  intro p hp
  refine madeBy_far fun e => ?_
  have : hasM L v.pid = true := List.any_eq_true.2 ⟨p, hp, by simp [e]⟩
  rw [h] at this; cases this
theorem vertM_isSome (L : List PatchM) (v : VidM) : (vertM L v).isSome = (vertOp L v).isSome := by unfold vertM; simp
theorem hasM_of_mem {L : List PatchM} {p : PatchM} (h : p ∈ L) : hasM L p.id = true := List.any_eq_true.2 ⟨p, h, by simp⟩

/-- what a patch itself makes, or the graph has -/
def lookM (L : List PatchM) (p : PatchM) (v : VidM) : Option VertM := if v.pid = p.id then (madeBy p v).map fun o => ⟨v, o.kind, fileOf v o, o.text, false⟩ else vertM L v
theorem look_op {L : List PatchM} {p : PatchM} (hn : hasM L p.id = false) (v : VidM) : vertOp (L ++ [p]) v = if v.pid = p.id then madeBy p v else vertOp L v := by
  rw [vertOp_snoc]
  split
  · rename_i h
    rw [vertOp_none (by rw [h]; exact hn)]; rfl
  · rename_i h
    rw [madeBy_far h]; cases vertOp L v <;> rfl
theorem look_kf {L : List PatchM} {p : PatchM} (hn : hasM L p.id = false) (v : VidM) :
    (lookM L p v).map (fun x => (x.kind, x.file)) = (vertM (L ++ [p]) v).map (fun x => (x.kind, x.file)) := by
  unfold vertM
  rw [look_op hn]
  unfold lookM
  split
  · cases madeBy p v <;> rfl
  · unfold vertM
    cases vertOp L v <;> rfl
def isK (x : Option VertM) (k : UInt8) : Bool := match x with | some x => x.kind == k | none => false
/-- whether the vertices that an operation names are there: as the program asks -/
def refsB (L : List PatchM) (p : PatchM) (o : OpM) : Bool :=
  if o.kind = 2 ∨ o.kind = 3 then isK (lookM L p o.at') 1
  else if o.kind = 5 then (lookM L p o.at').isSome
  else if o.kind = 4 then isK (lookM L p o.at') 3 && (isK (lookM L p o.to) 3 && decide ((lookM L p o.at').map (·.file) = (lookM L p o.to).map (·.file)))
  else true
theorem map_parts {x y : Option VertM} (h : x.map (fun x => (x.kind, x.file)) = y.map (fun x => (x.kind, x.file))) : (∀ k, isK x k = isK y k) ∧ x.map (·.file) = y.map (·.file) ∧ x.isSome = y.isSome := by
  cases x <;> cases y <;> simp_all [isK]
theorem refs_same {L : List PatchM} {p : PatchM} (hn : hasM L p.id = false) {o : OpM} (hk : o.kind = 1 ∨ o.kind = 2 ∨ o.kind = 3 ∨ o.kind = 4 ∨ o.kind = 5) : refsB L p o = refMet (L ++ [p]) o := by
  obtain ⟨a1, a2, a3⟩ := map_parts (look_kf hn o.at')
  obtain ⟨b1, b2, b3⟩ := map_parts (look_kf hn o.to)
  have hi : ∀ v k, isKind (L ++ [p]) v k = isK (vertM (L ++ [p]) v) k := fun v k => rfl
  unfold refsB refMet
  rw [hi, hi, hi]
  rw [a1, a2, a3, b2, a1, b1]
  rcases hk with h | h | h | h | h <;> simp [h]

theorem wf_nil : WfG [] := by
  refine ⟨fun p h => by simp at h, fun a => by simp [vecM], fun a _ => by simp [vecM], fun q => ?_, fun q h => by simp at h, fun q h => by simp at h⟩
  simp [hasM, vecM]; omega
theorem deadM_snoc (L : List PatchM) (p : PatchM) (v : VidM) : deadM (L ++ [p]) v = (deadM L v || p.ops.any fun o => decide (o.kind = 5) && decide (o.at' = v)) := by unfold deadM; simp
/-- a patch more turns no old vertex's kind or file -/
theorem old_kf {L : List PatchM} {p : PatchM} (hn : hasM L p.id = false) {v : VidM} (hv : hasM L v.pid = true) : (vertM (L ++ [p]) v).map (fun x => (x.kind, x.file)) = (vertM L v).map (fun x => (x.kind, x.file)) := by
  have : v.pid ≠ p.id := fun e => by rw [e, hn] at hv; cases hv
  unfold vertM
  rw [look_op hn, if_neg this]
  cases vertOp L v <;> rfl
theorem kind_of {p : PatchM} (hg : goodP p = true) {o : OpM} (ho : o ∈ p.ops) : o.kind = 1 ∨ o.kind = 2 ∨ o.kind = 3 ∨ o.kind = 4 ∨ (o.kind = 5 ∧ o.at'.pid ≠ p.id) := by
  obtain ⟨i, hi⟩ := List.mem_iff_getElem?.1 ho
  exact opTail_kind (opGood_tail (oneB_parts (goodP_one hg hi)).1)
theorem refMet_old {L : List PatchM} {p : PatchM} (hn : hasM L p.id = false) {o : OpM} (hv : ∀ v ∈ refsM o, hasM L v.pid = true) (h : refMet L o = true) : refMet (L ++ [p]) o = true := by
  have key : ∀ v ∈ refsM o, (∀ k, isKind (L ++ [p]) v k = isKind L v k) ∧ (vertM (L ++ [p]) v).map (·.file) = (vertM L v).map (·.file) ∧ (vertM (L ++ [p]) v).isSome = (vertM L v).isSome := fun v hm => map_parts (old_kf hn (hv v hm))
  unfold refMet at h ⊢
  split
  · rfl
  · rename_i h1
    rw [if_neg h1] at h
    split
    · rename_i h2
      rw [if_pos h2] at h
      obtain ⟨k1, _, _⟩ := key o.at' (refs_at_mem (by rcases h2 with h | h <;> simp [h]))
      rw [k1]; exact h
    · rename_i h2
      rw [if_neg h2] at h
      split
      · rename_i h4
        rw [if_pos h4] at h
        obtain ⟨k1, k2, _⟩ := key o.at' (refs_at_mem (by simp [h4]))
        obtain ⟨t1, t2, _⟩ := key o.to (refs_to_mem h4)
        rw [k1, t1, k2, t2]; exact h
      · rename_i h4
        rw [if_neg h4] at h
        by_cases h5 : o.kind = 5
        · obtain ⟨_, _, k3⟩ := key o.at' (refs_at_mem (by simp [h5]))
          rw [k3]; exact h
        · rw [vertM_isSome, vertOp_snoc]
          rw [vertM_isSome] at h
          cases hx : vertOp L o.at' with
          | none => rw [hx] at h; cases h
          | some y => rfl
theorem wf_snoc {L : List PatchM} (hw : WfG L) {p : PatchM} (hc : CheckOk L p) : WfG (L ++ [p]) := by
  obtain ⟨n1, n2, n3⟩ := next_parts (goodP_id hc.good) hc.next
  have hrefs : ∀ q ∈ L ++ [p], ∀ o ∈ q.ops, ∀ v ∈ refsM o, hasM (L ++ [p]) v.pid = true := by
    intro q hq o ho v hv
    rw [hasM_snoc, Bool.or_eq_true]
    rcases List.mem_append.1 hq with hq | hq
    · exact .inl (hw.refs q hq o ho v hv)
    · rw [List.mem_singleton] at hq
      subst hq
      by_cases he : v.pid = q.id
      · exact .inr (by simp [he])
      · exact .inl (hc.deps _ (by rw [goodP_deps hc.good]; exact mem_deps ho hv he))
  refine ⟨fun q hq => ?_, fun a => ?_, fun a ha => ?_, fun q => ?_, hrefs, fun q hq o ho => ?_⟩
  · rcases List.mem_append.1 hq with hq | hq
    · exact hw.good q hq
    · rw [List.mem_singleton] at hq; rw [hq]; exact hc.good
  · rw [vecM_snoc]
    have := hw.vec a
    split
    · rename_i h; rw [← h]; omega
    · omega
  · rw [vecM_snoc, hw.none a ha]
    split
    · rename_i h; rw [h] at n1; rw [n1] at ha; cases ha
    · rfl
  · rw [hasM_snoc, Bool.or_eq_true, hw.has, vecM_snoc, decide_eq_true_eq]
    constructor
    · rintro (⟨h1, h2, h3⟩ | h)
      · exact ⟨h1, h2, by omega⟩
      · subst h
        exact ⟨n1, by omega, by rw [if_pos rfl]; omega⟩
    · rintro ⟨h1, h2, h3⟩
      split at h3
      · rename_i h
        by_cases he : q.seq.toNat = vecM L q.author + 1
        · right
          have e2 : p.id.seq = q.seq := UInt16.toNat_inj.1 (by rw [n3, he, h])
          cases hp : p.id
          cases q
          rw [hp] at h e2
          simp only at h e2
          rw [h, e2]
        · exact .inl ⟨h1, h2, by omega⟩
      · exact .inl ⟨h1, h2, by omega⟩
  · rcases List.mem_append.1 hq with hq | hq
    · exact refMet_old hc.new (fun v hv => hw.refs q hq o ho v hv) (hw.kinds q hq o ho)
    · rw [List.mem_singleton] at hq; subst hq
      exact hc.refs o ho
theorem wf_apply {L : List PatchM} (hw : WfG L) (p : PatchM) : WfG (applyM L p) := by
  unfold applyM
  split
  · rename_i h; exact wf_snoc hw (check_ok h)
  · exact hw
theorem wf_foldl : ∀ (l : List PatchM) {L : List PatchM}, WfG L → WfG (l.foldl applyM L)
  | [], _, h => h
  | p :: l, _, h => wf_foldl l (wf_apply h p)
theorem wf_build (l : List PatchM) : WfG (buildM l) := wf_foldl l wf_nil
end Go.Proofs.YtfciedmmgddgpaaGreatDoor
namespace Go.Proofs.YtfciedmmgddgpaaGreatDoor
open Go.RowKit

theorem wraps_u32 (n : Int) (h₀ : 0 ≤ n) (h₁ : n < 2 ^ 32) : IntKind.u32.wrap n = n := by rw [IntKind.wrap_u32]; omega
theorem wraps_u64 (n : Int) (h₀ : 0 ≤ n) (h₁ : n < 2 ^ 64) : IntKind.u64.wrap n = n := by rw [IntWalk.u64_in n ⟨h₀, by omega⟩]
theorem or_u32 {a b : Nat} (ha : a < 4294967296) (hb : b < 4294967296) : bits .or .u32 (a : Int) (b : Int) = ((a ||| b : Nat) : Int) :=
  (bits_nat .u32 32 (by decide) wraps_u32 a b (by simpa using ha) (by simpa using hb)).2
theorem and_u32 {a b : Nat} (ha : a < 4294967296) (hb : b < 4294967296) : bits .and .u32 (a : Int) (b : Int) = ((a &&& b : Nat) : Int) :=
  (bits_nat .u32 32 (by decide) wraps_u32 a b (by simpa using ha) (by simpa using hb)).1
theorem xor_u32 {a b : Nat} (ha : a < 4294967296) (hb : b < 4294967296) : bits .xor .u32 (a : Int) (b : Int) = ((a ^^^ b : Nat) : Int) := by
  simp only [bits, BitVec.ofInt_natCast, BitVec.toNat_xor, BitVec.toNat_ofNat]
  have ha' : a % 2 ^ IntKind.u32.bits = a := Nat.mod_eq_of_lt (by simpa [IntKind.bits] using ha)
  have hb' : b % 2 ^ IntKind.u32.bits = b := Nat.mod_eq_of_lt (by simpa [IntKind.bits] using hb)
  rw [ha', hb']
  have := Nat.xor_lt_two_pow (n := 32) (by simpa using ha) (by simpa using hb)
  exact wraps_u32 _ (Int.natCast_nonneg _) (by exact_mod_cast this)
theorem not_u32 {a : Nat} (ha : a < 4294967296) : bits .xor .u32 (-1) (a : Int) = ((4294967295 - a : Nat) : Int) := by
  have h : (BitVec.ofInt 32 (-1) ^^^ BitVec.ofInt 32 (a : Int)).toNat = 4294967295 - a := by
    have h1 : BitVec.ofInt 32 (-1) = BitVec.allOnes 32 := by decide
    rw [h1, BitVec.allOnes_xor, BitVec.toNat_not, BitVec.ofInt_natCast, BitVec.toNat_ofNat, Nat.mod_eq_of_lt (by simpa using ha)]
  show IntKind.u32.wrap (((BitVec.ofInt 32 (-1) ^^^ BitVec.ofInt 32 (a : Int)).toNat : Nat) : Int) = _
  rw [h]
  exact wraps_u32 _ (Int.natCast_nonneg _) (by omega)
theorem ret_int {k : IntKind} {a b : Int} (h : a = b) : Ending.returned (.int k a) = .returned (.int k b) := by rw [h]
theorem ret_val {a b : Value} (h : a = b) : Ending.returned a = .returned b := by rw [h]
theorem bne_mod (a b : Nat) : ((a : Int) % (b : Int) != 0) = (a % b != 0) := by
  rw [← Int.natCast_emod, Bool.eq_iff_iff]
  simp only [bne_iff_ne, ne_eq]
  omega
theorem drewN_zero (w : World) : w.drewN 0 = w := rfl
end Go.Proofs.YtfciedmmgddgpaaGreatDoor
namespace Go.Proofs.YtfciedmmgddgpaaGreatDoor
open Go Go.RowKit Go.WideElems
open Go.Maps (Keyed)

section
variable {P : Program} {k : TypeId} {κ ν : Type} {kenc : κ → Value} {ok : κ → Prop} {venc : ν → Value}

/-- keys of one type -/
structure KeyEnc (P : Program) (k : TypeId) (kenc : κ → Value) (ok : κ → Prop) : Prop where
  keyed : Keyed P k
  reads : ∀ x, ok x → ∃ l, keyOf P k (kenc x) = some l
  inj : ∀ x y, kenc x = kenc y → x = y

open Classical in
/-- how an element reads -/
noncomputable def rdr (venc : ν → Value) (v : Value) : Option (DataW ν × List MemPlace) := if h : ∃ x, venc x = v then some (.held h.choose, []) else none
theorem rdr_mk (hv : ∀ x y, venc x = venc y → x = y) (x : ν) : rdr venc (venc x) = some (.held x, []) := by
  have h : ∃ y, venc y = venc x := ⟨x, rfl⟩
  unfold rdr
  rw [dif_pos h, hv _ _ h.choose_spec]
theorem rdr_inv {v : Value} {y : DataW ν × List MemPlace} (h : rdr venc v = some y) : ∃ x, v = venc x ∧ y.1 = .held x := by
  unfold rdr at h
  split at h
  · rename_i hx
    cases h
    exact ⟨hx.choose, hx.choose_spec.symm, rfl⟩
  · cases h

structure Holds (P : Program) (k : TypeId) (kenc : κ → Value) (ok : κ → Prop) (D : DataW ν) (f : κ → Option ν) : Prop where
  at' : ∀ x, ok x → ∀ l, keyOf P k (kenc x) = some l → Maps.has D l = (f x).isSome ∧ ∀ v, f x = some v → ∀ z, D.atKey l z = .held v
  from' : ∀ l, Maps.has D l = true → ∃ x, ok x ∧ keyOf P k (kenc x) = some l

/-- block b is a map of at most n entries that reads as f -/
def TMap (P : Program) (k : TypeId) (kenc : κ → Value) (ok : κ → Prop) (venc : ν → Value) (w : World) (b n : Nat) (f : κ → Option ν) : Prop :=
  ∃ D : DataW ν, w.ownsMap P k (rdr venc) b n D ∧ Holds P k kenc ok D f

theorem TMap.made (w : World) : TMap P k kenc ok venc (w.alloc (.map #[] 0)) w.heap.size 0 (fun _ => none) :=
  ⟨.map [], World.ownsMap_made w P k _, ⟨fun _ _ _ _ => ⟨rfl, fun _ h => by cases h⟩, fun _ h => by cases h⟩⟩
theorem TMap.lt {w : World} {b n : Nat} {f : κ → Option ν} (h : TMap P k kenc ok venc w b n f) : b < w.heap.size := by obtain ⟨D, h, _⟩ := h; exact h.lt
theorem TMap.kept {w w' : World} {b n : Nat} {f : κ → Option ν} {row : Option Nat} (h : TMap P k kenc ok venc w b n f) (hg : w.grownBy w' row) (hne : some b ≠ row) : TMap P k kenc ok venc w' b n f := by
  obtain ⟨D, h, hH⟩ := h; exact ⟨D, h.kept hg hne, hH⟩
theorem TMap.over {w w' : World} {b n : Nat} {f : κ → Option ν} (h : TMap P k kenc ok venc w b n f) (hb : Below w.heap.size w w') : TMap P k kenc ok venc w' b n f :=
  h.kept (row := none) ⟨hb.os, hb.tape, hb.output, hb.size, fun i hi _ => hb.block i hi⟩ (by simp)
theorem TMap.alloc {w : World} {b n : Nat} {f : κ → Option ν} (h : TMap P k kenc ok venc w b n f) (o : Obj) : TMap P k kenc ok venc (w.alloc o) b n f := by
  obtain ⟨D, h, hH⟩ := h; exact ⟨D, h.alloc o, hH⟩
theorem TMap.drew {w : World} {b n : Nat} {f : κ → Option ν} (h : TMap P k kenc ok venc w b n f) : TMap P k kenc ok venc w.drew b n f := h
theorem TMap.mono {w : World} {b n n' : Nat} {f : κ → Option ν} (h : TMap P k kenc ok venc w b n f) (hn : n ≤ n') : TMap P k kenc ok venc w b n' f := by
  obtain ⟨D, h, hH⟩ := h; exact ⟨D, h.mono hn, hH⟩
theorem TMap.setCell {w : World} {b n : Nat} {f : κ → Option ν} (h : TMap P k kenc ok venc w b n f) {a : Addr} (ha : b ≠ a.block) (u : Value) : TMap P k kenc ok venc (w.setCell a u) b n f := by
  obtain ⟨D, h, hH⟩ := h; exact ⟨D, h.setCell ha u, hH⟩
theorem TMap.congr {w : World} {b n : Nat} {f g : κ → Option ν} (h : TMap P k kenc ok venc w b n f) (hfg : ∀ x, ok x → f x = g x) : TMap P k kenc ok venc w b n g := by
  obtain ⟨D, h, hH⟩ := h
  exact ⟨D, h, ⟨fun x hx l hl => by rw [← hfg x hx]; exact hH.at' x hx l hl, hH.from'⟩⟩

theorem TMap.lookup (KE : KeyEnc P k kenc ok) (hv : ∀ x y, venc x = venc y → x = y) {w : World} {b n : Nat} {f : κ → Option ν} (h : TMap P k kenc ok venc w b n f) {t e : TypeId} (ht : P.underlying t = some (.map k e)) {zv : ν}
    (hz : (zeroValue e).run P w = .ok (venc zv) w) (x : κ) (hx : ok x) : (Instr.lookup t (.map (some b)) (kenc x) false).run P w = .ok (venc ((f x).getD zv)) w := by
  obtain ⟨D, h, hH⟩ := h
  obtain ⟨l, hl⟩ := KE.reads x hx
  obtain ⟨v, ps, h1, h2⟩ := h.lookup KE.keyed ht hz (rdr_mk hv zv) hl
  obtain ⟨u, rfl, h3⟩ := rdr_inv h2
  rw [h1]
  obtain ⟨h4, h5⟩ := hH.at' x hx l hl
  cases hf : f x with
  | none =>
    rw [hf] at h4
    rw [Maps.atKey_of_not_has h4] at h3
    cases h3; rfl
  | some y =>
    rw [h5 y hf] at h3
    cases h3; rfl
theorem TMap.look_ok (KE : KeyEnc P k kenc ok) (hv : ∀ x y, venc x = venc y → x = y) {w : World} {b n : Nat} {f : κ → Option ν} (h : TMap P k kenc ok venc w b n f) {t e : TypeId} (ht : P.underlying t = some (.map k e)) {zv : ν}
    (hz : (zeroValue e).run P w = .ok (venc zv) w) (x : κ) (hx : ok x) : (Instr.lookup t (.map (some b)) (kenc x) true).run P w = .ok (.tuple #[venc ((f x).getD zv), .bool (f x).isSome]) w := by
  obtain ⟨D, h, hH⟩ := h
  obtain ⟨l, hl⟩ := KE.reads x hx
  obtain ⟨v, ps, h1, h2⟩ := h.look_ok KE.keyed ht hz (rdr_mk hv zv) hl
  obtain ⟨u, rfl, h3⟩ := rdr_inv h2
  obtain ⟨h4, h5⟩ := hH.at' x hx l hl
  rw [h1, h4]
  cases hf : f x with
  | none =>
    rw [hf] at h4
    rw [Maps.atKey_of_not_has h4] at h3
    cases h3; rfl
  | some y =>
    rw [h5 y hf] at h3
    cases h3; rfl
def updM [DecidableEq κ] (f : κ → Option ν) (x : κ) (v : ν) : κ → Option ν := fun y => if y = x then some v else f y
theorem Holds.put [DecidableEq κ] (KE : KeyEnc P k kenc ok) {D : DataW ν} {f : κ → Option ν} (hD : Maps.IsMap D) (h : Holds P k kenc ok D f) {x : κ} (hx : ok x) {l : Lit} (hl : keyOf P k (kenc x) = some l) (v : ν) : Holds P k kenc ok (D.put l (.held v)) (updM f x v) := by
  have hk := KE.keyed.key hl
  refine ⟨fun y hy l' hl' => ?_, fun l' hl' => ?_⟩
  · unfold updM
    by_cases hxy : y = x
    · subst hxy
      have : l' = l := by rw [hl] at hl'; exact (Option.some.inj hl').symm
      subst this
      rw [if_pos rfl]
      exact ⟨by rw [Maps.has_put_same hD hk]; rfl, fun u hu z => by cases hu; exact Maps.atKey_put_same hD hk _ _⟩
    · have hne : l' ≠ l := fun e => hxy (KE.inj _ _ (KE.keyed.inj hl' (e ▸ hl)))
      rw [if_neg hxy]
      obtain ⟨h1, h2⟩ := h.at' y hy l' hl'
      exact ⟨by rw [Maps.has_put_other hne]; exact h1, fun u hu z => by rw [Maps.atKey_put_other hne]; exact h2 u hu z⟩
  · by_cases hne : l' = l
    · exact ⟨x, hx, hne ▸ hl⟩
    · rw [Maps.has_put_other hne] at hl'
      exact h.from' l' hl'
theorem TMap.store [DecidableEq κ] (KE : KeyEnc P k kenc ok) (hv : ∀ x y, venc x = venc y → x = y) {w : World} {b n : Nat} {f : κ → Option ν} (h : TMap P k kenc ok venc w b n f) {t e : TypeId} (ht : P.underlying t = some (.map k e)) (hn : n < maxLen) (x : κ) (hx : ok x) (v : ν) :
    ∃ w', (Instr.mapUpdate t (.map (some b)) (kenc x) (venc v)).run P w = .ok () w' ∧ TMap P k kenc ok venc w' b (n + 1) (updM f x v) ∧ w.mapTurned w' b := by
  obtain ⟨D, h, hH⟩ := h
  obtain ⟨l, hl⟩ := KE.reads x hx
  obtain ⟨w', h1, h2, h3⟩ := h.store KE.keyed ht hn hl (rdr_mk hv v)
  exact ⟨w', h1, ⟨_, h2, hH.put KE h.isMap hx hl v⟩, h3⟩

/-- 'for k, v := range m' under way -/
def TRanges (P : Program) (k : TypeId) (kenc : κ → Value) (ok : κ → Prop) (venc : ν → Value) (w : World) (b r n : Nat) (f : κ → Option ν) (left : κ → Bool) (cnt : Nat) : Prop :=
  ∃ (D : DataW ν) (lf : Lit → Bool), w.ranges P k (rdr venc) b r n D lf cnt ∧ Holds P k kenc ok D f ∧ (∀ x, ok x → ∀ l, keyOf P k (kenc x) = some l → lf l = left x) ∧ ∀ l, lf l = true → Maps.has D l = true
theorem TRanges.map {w : World} {b r n : Nat} {f : κ → Option ν} {left : κ → Bool} {cnt : Nat} (h : TRanges P k kenc ok venc w b r n f left cnt) : TMap P k kenc ok venc w b n f := by
  obtain ⟨D, lf, h, hH, _⟩ := h; exact ⟨D, h.owns, hH⟩
theorem TRanges.kept {w w' : World} {b r n : Nat} {f : κ → Option ν} {left : κ → Bool} {cnt : Nat} {row : Option Nat} (h : TRanges P k kenc ok venc w b r n f left cnt) (hg : w.grownBy w' row) (hb : some b ≠ row) (hr : some r ≠ row) : TRanges P k kenc ok venc w' b r n f left cnt := by
  obtain ⟨D, lf, h, hH, h1, h2⟩ := h; exact ⟨D, lf, h.kept hg hb hr, hH, h1, h2⟩
theorem TRanges.left_eq {w : World} {b r n : Nat} {f : κ → Option ν} {left : κ → Bool} {cnt : Nat} (h : TRanges P k kenc ok venc w b r n f left cnt) : w.rangeLeft b r = cnt := by
  obtain ⟨D, lf, h, _⟩ := h; exact h.left_eq
theorem TRanges.ne {w : World} {b r n : Nat} {f : κ → Option ν} {left : κ → Bool} {cnt : Nat} (h : TRanges P k kenc ok venc w b r n f left cnt) : r ≠ b := by
  obtain ⟨D, lf, h, _⟩ := h; exact h.ne
theorem TRanges.lt {w : World} {b r n : Nat} {f : κ → Option ν} {left : κ → Bool} {cnt : Nat} (h : TRanges P k kenc ok venc w b r n f left cnt) : r < w.heap.size := by
  obtain ⟨D, lf, h, _⟩ := h; exact h.lt
theorem TRanges.congr {w : World} {b r n : Nat} {f : κ → Option ν} {left left' : κ → Bool} {cnt : Nat} (h : TRanges P k kenc ok venc w b r n f left cnt) (hl : ∀ x, ok x → left x = left' x) : TRanges P k kenc ok venc w b r n f left' cnt := by
  obtain ⟨D, lf, h, hH, h1, h2⟩ := h
  exact ⟨D, lf, h, hH, fun x hx l hl' => (h1 x hx l hl').trans (hl x hx), h2⟩
theorem TMap.range {w : World} {b n : Nat} {f : κ → Option ν} (KE : KeyEnc P k kenc ok) (h : TMap P k kenc ok venc w b n f) {t e : TypeId} (ht : P.underlying t = some (.map k e)) :
    ∃ w' cnt, (Instr.range t (.map (some b))).run P w = .ok (.pointer (some ⟨w.heap.size, 0, none⟩)) w' ∧ TRanges P k kenc ok venc w' b w.heap.size n f (fun x => (f x).isSome) cnt ∧ w.grownBy w' none ∧ w'.heap.size = w.heap.size + 1 := by
  obtain ⟨D, h, hH⟩ := h
  obtain ⟨w', h1, h2, h3, h4⟩ := h.range KE.keyed ht
  exact ⟨w', _, h1, ⟨D, _, h2, hH, fun x hx l hl => (hH.at' x hx l hl).1, fun l hl => hl⟩, h3, h4⟩
theorem TRanges.next [DecidableEq κ] (KE : KeyEnc P k kenc ok) {w : World} {b r n : Nat} {f : κ → Option ν} {left : κ → Bool} {cnt : Nat} (h : TRanges P k kenc ok venc w b r n f left cnt) (ty : TypeId) :
    (cnt = 0 ∧ (∀ x, ok x → left x = false) ∧ (Instr.next (.pointer (some ⟨r, 0, none⟩)) false ty).run P w = .ok (.tuple #[.bool false]) w) ∨
    ∃ x v w' cnt', ok x ∧ left x = true ∧ f x = some v ∧ (Instr.next (.pointer (some ⟨r, 0, none⟩)) false ty).run P w = .ok (.tuple #[.bool true, kenc x, venc v]) w' ∧
      TRanges P k kenc ok venc w' b r n f (fun y => left y && !decide (y = x)) cnt' ∧ cnt' < cnt ∧ w.grownBy w' (some r) ∧ w'.heap.size = w.heap.size ∧ (Instr.entry (.pointer (some ⟨r, 0, none⟩))).run P w' = .ok (.tuple #[kenc x, venc v]) w' := by
  obtain ⟨D, lf, h, hH, hl1, hl2⟩ := h
  rcases h.next KE.keyed ty with ⟨h0, h1, h2⟩ | ⟨key, v, kl, y, w', cnt', hk, hlf, hRv, hat, hrun, hr', hlt, hg, hs, hen⟩
  · exact .inl ⟨h0, fun x hx => by obtain ⟨l, hl⟩ := KE.reads x hx; rw [← hl1 x hx l hl]; exact h1 l, h2⟩
  · obtain ⟨x, hx, hxl⟩ := hH.from' kl (hl2 kl hlf)
    obtain rfl := KE.keyed.inj hk hxl
    obtain ⟨u, rfl, hu⟩ := rdr_inv hRv
    obtain ⟨h4, h5⟩ := hH.at' x hx kl hxl
    have hfx : f x = some u := by
      cases hf : f x with
      | none =>
        rw [hf, hl2 kl hlf] at h4; simp at h4
      | some y' =>
        have := h5 y' hf .nil
        rw [hat, hu] at this
        cases this; rfl
    refine .inr ⟨x, u, w', cnt', hx, by rw [← hl1 x hx kl hxl]; exact hlf, hfx, hrun, ⟨D, _, hr', hH, fun z hz l hl => ?_, fun l hl => hl2 l (by simp at hl; exact hl.1)⟩, hlt, hg, hs, hen⟩
    simp only
    rw [hl1 z hz l hl]
    by_cases hzx : z = x
    · subst hzx
      have : l = kl := by rw [hxl] at hl; exact (Option.some.inj hl).symm
      subst this
      rw [WideAt.sameKey_self (KE.keyed.key hxl)]; simp
    · have : l ≠ kl := fun e => hzx (KE.inj _ _ (KE.keyed.inj hl (e ▸ hxl)))
      rw [Maps.sameKey_ne this]; simp [hzx]

variable {w : World} {ops : Array Oper} {rest : List Oper} {o : Oper} {a : Act} {Q : Exit → Act → World → Prop}
theorem wpList_tlook (KE : KeyEnc P k kenc ok) (hv : ∀ x y, venc x = venc y → x = y) (hgd : o.guard = none) (m x : Operand) (t : TypeId) (hop : o.op = Op.lookup t m x false) {e : TypeId} (ht : P.underlying t = some (.map k e)) (zv : ν)
    (hz : (zeroValue e).run P w = .ok (venc zv) w) (b n : Nat) (f : κ → Option ν) (hm : a.eval m = .map (some b)) (h : TMap P k kenc ok venc w b n f) (y : κ) (hx : a.eval x = kenc y) (hy : ok y)
    (hK : wpList P ops Q rest (a.put o.dst (venc ((f y).getD zv))) w) : wpList P ops Q (o :: rest) a w := by
  refine wpList_plain hgd fun K' hK' => ?_
  unfold Oper.wp
  simp [execOp, hop, hm, hx, h.lookup KE hv ht hz y hy, Result.andThen]
  exact hK' _ _ hK
theorem wpList_tlook_ok (KE : KeyEnc P k kenc ok) (hv : ∀ x y, venc x = venc y → x = y) (hgd : o.guard = none) (m x : Operand) (t : TypeId) (hop : o.op = Op.lookup t m x true) {e : TypeId} (ht : P.underlying t = some (.map k e)) (zv : ν)
    (hz : (zeroValue e).run P w = .ok (venc zv) w) (b n : Nat) (f : κ → Option ν) (hm : a.eval m = .map (some b)) (h : TMap P k kenc ok venc w b n f) (y : κ) (hx : a.eval x = kenc y) (hy : ok y)
    (hK : wpList P ops Q rest (a.put o.dst (.tuple #[venc ((f y).getD zv), .bool (f y).isSome])) w) : wpList P ops Q (o :: rest) a w := by
  refine wpList_plain hgd fun K' hK' => ?_
  unfold Oper.wp
  simp [execOp, hop, hm, hx, h.look_ok KE hv ht hz y hy, Result.andThen]
  exact hK' _ _ hK
theorem wpList_tstore [DecidableEq κ] (KE : KeyEnc P k kenc ok) (hv : ∀ x y, venc x = venc y → x = y) (hgd : o.guard = none) (m x u : Operand) (t : TypeId) (hop : o.op = Op.mapUpdate t m x u) {e : TypeId} (ht : P.underlying t = some (.map k e))
    (b n : Nat) (f : κ → Option ν) (hm : a.eval m = .map (some b)) (h : TMap P k kenc ok venc w b n f) (hn : n < maxLen) (y : κ) (hx : a.eval x = kenc y) (hy : ok y) (v : ν) (hu : a.eval u = venc v)
    (hK : ∀ w', TMap P k kenc ok venc w' b (n + 1) (updM f y v) → w.grownBy w' (some b) → w'.heap.size = w.heap.size → wpList P ops Q rest (a.put o.dst undef) w') : wpList P ops Q (o :: rest) a w := by
  refine wpList_plain hgd fun K' hK' => ?_
  obtain ⟨w', hrun, h1, h2⟩ := h.store KE hv ht hn y hy v
  unfold Oper.wp
  simp [execOp, hop, hm, hx, hu, hrun, Result.andThen]
  have hs : w'.heap.size = w.heap.size := by obtain ⟨es, clock, es', clock', _, rfl⟩ := h2; simp [Go.ChangeMaps.setBlock]
  exact hK' _ _ (hK w' h1 h2.grown hs)
theorem wpList_trange (KE : KeyEnc P k kenc ok) (hgd : o.guard = none) (m : Operand) (t : TypeId) (hop : o.op = Op.range t m) {e : TypeId} (ht : P.underlying t = some (.map k e))
    (b n : Nat) (f : κ → Option ν) (hm : a.eval m = .map (some b)) (h : TMap P k kenc ok venc w b n f)
    (hK : ∀ w' cnt, TRanges P k kenc ok venc w' b w.heap.size n f (fun x => (f x).isSome) cnt → w.grownBy w' none → w'.heap.size = w.heap.size + 1 → wpList P ops Q rest (a.put o.dst (.pointer (some ⟨w.heap.size, 0, none⟩))) w') : wpList P ops Q (o :: rest) a w := by
  refine wpList_plain hgd fun K' hK' => ?_
  obtain ⟨w', cnt, hrun, r1, r2, r3⟩ := h.range KE ht
  unfold Oper.wp
  simp [execOp, hop, hm, hrun, Result.andThen]
  exact hK' _ _ (hK w' cnt r1 r2 r3)
theorem wpList_tnext [DecidableEq κ] (KE : KeyEnc P k kenc ok) (hgd : o.guard = none) (it : Operand) (hop : o.op = Op.next it false) (b r n : Nat) (f : κ → Option ν) (left : κ → Bool) (cnt : Nat)
    (hit : a.eval it = .pointer (some ⟨r, 0, none⟩)) (h : TRanges P k kenc ok venc w b r n f left cnt)
    (hDone : (∀ x, ok x → left x = false) → wpList P ops Q rest (a.put o.dst (.tuple #[.bool false])) w)
    (hMore : ∀ (x : κ) (v : ν) (w' : World) (cnt' : Nat), ok x → left x = true → f x = some v → TRanges P k kenc ok venc w' b r n f (fun y => left y && !decide (y = x)) cnt' → cnt' < cnt → w.grownBy w' (some r) → w'.heap.size = w.heap.size →
      (Instr.entry (.pointer (some ⟨r, 0, none⟩))).run P w' = .ok (.tuple #[kenc x, venc v]) w' → wpList P ops Q rest (a.put o.dst (.tuple #[.bool true, kenc x, venc v])) w') : wpList P ops Q (o :: rest) a w := by
  refine wpList_plain hgd fun K' hK' => ?_
  unfold Oper.wp
  rcases h.next KE o.type with ⟨_, hl, hrun⟩ | ⟨x, v, w', cnt', hx, hlx, hfx, hrun, hr, hlt, hg, hs, hen⟩
  · simp [execOp, hop, hit, hrun, Result.andThen]
    exact hK' _ _ (hDone hl)
  · simp [execOp, hop, hit, hrun, Result.andThen]
    exact hK' _ _ (hMore x v w' cnt' hx hlx hfx hr hlt hg hs hen)
end
end Go.Proofs.YtfciedmmgddgpaaGreatDoor
