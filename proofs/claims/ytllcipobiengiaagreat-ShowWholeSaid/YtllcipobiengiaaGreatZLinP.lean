/- The lines of a file, plain: its steps lie among its lines; what makes a file have just some lines. -/
import Derived.Test.YtllcipobiengiaaGreatZGrR
import Derived.Test.YtllcipobiengiaaGreatZRelP
namespace Go.Proofs.YtllcipobiengiaaGreat

/-- where a line stands -/
def placeM (l : List VertM) (v : VidM) : Nat := (l.map (·.id)).idxOf v
theorem place_get {l : List VertM} {v : VidM} (h : v ∈ l.map (·.id)) : ∃ x, l[placeM l v]? = some x ∧ x.id = v := by
  have hlt : placeM l v < (l.map (·.id)).length := List.idxOf_lt_length_of_mem h
  have h1 : (l.map (·.id))[placeM l v]? = some v := by
    rw [List.getElem?_eq_getElem hlt]
    exact congrArg some (List.getElem_idxOf hlt)
  rw [List.getElem?_map] at h1
  cases hx : l[placeM l v]? with
  | none => rw [hx] at h1; cases h1
  | some x => rw [hx] at h1; exact ⟨x, rfl, Option.some.inj h1⟩
theorem place_lt {l : List VertM} {v : VidM} (h : v ∈ l.map (·.id)) : placeM l v < l.length := by
  obtain ⟨x, hx, _⟩ := place_get h
  exact (List.getElem?_eq_some_iff.1 hx).1
def linesM (L : List PatchM) (file : VidM) : List VertM := ofM L file 3
def relM (L : List PatchM) (file : VidM) : List (Nat × Nat) := (stepsM L file).map fun e => (placeM (linesM L file) e.1, placeM (linesM L file) e.2)
theorem step_ends {L : List PatchM} (hw : WfG L) (hl : ∀ p ∈ L, p.ops.length ≤ 200) {file : VidM} {e : EdgeM} (he : e ∈ stepsM L file) : e.1 ∈ (linesM L file).map (·.id) ∧ e.2 ∈ (linesM L file).map (·.id) := by
  unfold stepsM at he
  obtain ⟨he1, he2⟩ := List.mem_filter.1 he
  simp only [decide_eq_true_eq] at he2
  rw [mem_edgesM] at he1
  unfold hasE at he1
  obtain ⟨p, hp, h2⟩ := List.any_eq_true.1 he1
  obtain ⟨o, ho, h3⟩ := List.any_eq_true.1 h2
  simp only [Bool.and_eq_true, decide_eq_true_eq] at h3
  obtain ⟨h4, h5, h6⟩ := h3
  have hk := hw.kinds p hp o ho
  unfold refMet at hk
  rw [if_neg (by rw [h4]; decide), if_neg (by rw [h4]; decide), if_pos h4, h5, h6] at hk
  simp only [Bool.and_eq_true, decide_eq_true_eq] at hk
  obtain ⟨k1, k2, k3⟩ := hk
  have key : ∀ v, isKind L v 3 = true → fileAt L v = file → v ∈ (linesM L file).map (·.id) := by
    intro v hv hf
    unfold isKind at hv
    cases hx : vertM L v with
    | none => rw [hx] at hv; cases hv
    | some x =>
      rw [hx] at hv
      have hk3 : x.kind = 3 := by simpa using hv
      have hfx : x.file = file := by unfold fileAt at hf; rw [hx] at hf; exact hf
      have hid := vertM_id hx
      refine List.mem_map.2 ⟨x, ?_, hid⟩
      unfold linesM ofM vertsM
      refine List.mem_filter.2 ⟨List.mem_map.2 ⟨v, ?_, by rw [hx]; rfl⟩, by simp [hk3, hfx]⟩
      rw [mem_idsM hl, hx]; rfl
  refine ⟨key _ k1 he2, key _ k2 ?_⟩
  have h7 : fileAt L e.1 = fileAt L e.2 := by unfold fileAt; rw [k3]
  rw [← h7]; exact he2
theorem relM_lt {L : List PatchM} (hw : WfG L) (hl : ∀ p ∈ L, p.ops.length ≤ 200) (file : VidM) : ∀ s ∈ relM L file, s.1 < (linesM L file).length ∧ s.2 < (linesM L file).length := by
  intro s hs
  unfold relM at hs
  obtain ⟨e, he, rfl⟩ := List.mem_map.1 hs
  obtain ⟨h1, h2⟩ := step_ends hw hl he
  exact ⟨place_lt h1, place_lt h2⟩
/-! ### the sheet -/
def deadLine (l : List VertM) (i : Nat) : Bool := match l[i]? with | some x => x.dead | none => true
def FirmP (R : List (Nat × Nat)) (n i : Nat) : Prop := i < n ∧ ∀ j, j < n → j ≠ i → ¬ AlikeP R i j
/-! ### what makes a file have just some lines -/
end Go.Proofs.YtllcipobiengiaaGreat
