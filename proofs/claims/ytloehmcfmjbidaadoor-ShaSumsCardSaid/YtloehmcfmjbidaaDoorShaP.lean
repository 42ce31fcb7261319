/- More plain facts on the sum. -/
import Derived.Test.YtloehmcfmjbidaaDoorSha
namespace Go.Proofs.YtloehmcfmjbidaaDoor
namespace Sha
theorem bytes_append {xs ys : List Nat} (hx : Bytes xs) (hy : Bytes ys) : Bytes (xs ++ ys) := fun j => by
  rw [nth_append]; split
  · exact hx j
  · exact hy _
theorem bytes_of {xs : List Nat} (h : ∀ x ∈ xs, x < 256) : Bytes xs := fun j => by
  by_cases hj : j < xs.length
  · have : Proofs.YtloehmcfmjbidaaDoor.nth xs j = xs[j] := by simp [Proofs.YtloehmcfmjbidaaDoor.nth, hj]
    rw [this]; exact h _ (List.getElem_mem hj)
  · rw [nth_ge (by omega)]; decide
theorem bytes_mem {xs : List Nat} (h : Bytes xs) : ∀ x ∈ xs, x < 256 := fun x hx => by
  obtain ⟨j, hj, rfl⟩ := List.getElem_of_mem hx
  have := h j
  simpa [Proofs.YtloehmcfmjbidaaDoor.nth, hj] using this
theorem pad_bytes {b : List Nat} (h : Bytes b) : Bytes (pad b) := by
  refine bytes_of fun x hx => ?_
  simp only [pad, tail8, List.mem_append, List.mem_cons, List.mem_replicate, List.not_mem_nil, or_false] at hx
  rcases hx with hx | rfl | ⟨_, rfl⟩ | hx
  · exact bytes_mem h x hx
  · decide
  · decide
  · rcases hx with rfl | rfl | rfl | rfl | rfl | rfl | rfl | rfl <;> omega
theorem bytes_sub {l : List Nat} {i m : Nat} (h : Bytes l) : Bytes ((l.drop i).take m) :=
  bytes_of fun x hx => bytes_mem h x (List.mem_of_mem_drop (List.mem_of_mem_take hx))
theorem chain_ok {K l : List Nat} {h : St} (oh : Ok h) : ∀ k, Ok (chain K l h k)
  | 0 => by rw [chain_zero]; exact oh
  | k + 1 => by rw [chain_step]; exact block_ok _ _ _
theorem words_K0 : Words K0 := fun j => by
  by_cases h : j < 64
  · have : ∀ j, j < 64 → Proofs.YtloehmcfmjbidaaDoor.nth K0 j < 4294967296 := by decide +kernel
    exact this j h
  · rw [nth_ge (by show K0.length ≤ j; have : K0.length = 64 := rfl; omega)]; decide
theorem block_def (K b : List Nat) (h : St) : block K h b = blockOf h (rounds K (sched b 64) h 64) := by unfold block; rfl
/-- the first j are put together -/
def mixed (h s : St) (j : Nat) : List Nat := (blockOf h s).list.take j ++ h.list.drop j
theorem mixed_zero (h s : St) : mixed h s 0 = h.list := by simp [mixed]
theorem mixed_full (h s : St) : mixed h s 8 = (blockOf h s).list := by simp [mixed, St.list]
theorem mixed_len (h s : St) (j : Nat) : (mixed h s j).length = 8 := by
  simp [mixed, St.list]; omega
theorem mixed_nth (h s : St) {j : Nat} (hj : j < 8) : Proofs.YtloehmcfmjbidaaDoor.nth (mixed h s j) j = Proofs.YtloehmcfmjbidaaDoor.nth h.list j := by
  match j, hj with
  | 0, _ => rfl | 1, _ => rfl | 2, _ => rfl | 3, _ => rfl | 4, _ => rfl | 5, _ => rfl | 6, _ => rfl | 7, _ => rfl
theorem mixed_step (h s : St) {j : Nat} (hj : j < 8) : mixed h s (j + 1) = (mixed h s j).set j ((Proofs.YtloehmcfmjbidaaDoor.nth h.list j + Proofs.YtloehmcfmjbidaaDoor.nth s.list j) % 4294967296) := by
  match j, hj with
  | 0, _ => rfl | 1, _ => rfl | 2, _ => rfl | 3, _ => rfl | 4, _ => rfl | 5, _ => rfl | 6, _ => rfl | 7, _ => rfl
theorem hex_length (b : List Nat) : (hex b).length = 2 * b.length := by
  induction b with
  | nil => rfl
  | cons x r ih => simp only [hex, List.flatMap_cons, List.length_append] at ih ⊢; rw [ih]; simp; omega
theorem hex_len (b : List Nat) (j : Nat) : (hex (b.take j)).length ≤ 2 * j := by
  rw [hex_length]; simp; omega
attribute [irreducible] mixed
end Sha
end Go.Proofs.YtloehmcfmjbidaaDoor
