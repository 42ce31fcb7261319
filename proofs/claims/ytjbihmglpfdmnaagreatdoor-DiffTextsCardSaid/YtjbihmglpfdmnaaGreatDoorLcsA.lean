/- Contract of bruitref26.table. -/
import Derived.Test.YtjbihmglpfdmnaaGreatDoorGrid
import Derived.Test.YtjbihmglpfdmnaaGreatDoorLcsP
import Derived.Test.YtjbihmglpfdmnaaGreatDoorTreeC
namespace Go.Proofs.YtjbihmglpfdmnaaGreatDoor
open Go Go.RowKit

theorem slzInt : SlZ Tryz.prog 100 3 (.int .i64 0) 8 := slZ_of Tryz.underlying100 (by kernel_rfl) rfl
theorem slzRows : SlZ Tryz.prog 98 100 (.slice none 0 0) 24 := slZ_of Tryz.underlying98 (by kernel_rfl) rfl
def TabRes (w : World) (xs ys : List ByteArray) (e : Ending) (w' : World) : Prop := ∃ bo, e = .returned (.slice (some ⟨bo, 0, none⟩) (xs.length + 1) (xs.length + 1)) ∧ TabAt w' bo xs.length ys.length (lcsAt xs ys) ∧ w.heap.size ≤ bo ∧ Below w.heap.size w w'
/-- the table when row p - 1 is filled down to place q -/
def fillG (xs ys : List ByteArray) (p q r c : Nat) : Nat := if p ≤ r ∨ (r + 1 = p ∧ q ≤ c) then lcsAt xs ys r c else 0
theorem fillG_start {xs ys : List ByteArray} {r c : Nat} (hr : r ≤ xs.length) (hc : c ≤ ys.length) : fillG xs ys xs.length (ys.length + 1) r c = 0 := by
  unfold fillG
  split
  · rename_i h
    rw [show r = xs.length by omega, lcsAt_end_left]
  · rfl
theorem fillG_row {xs ys : List ByteArray} {p r c : Nat} (hc : c ≤ ys.length) : fillG xs ys p (ys.length + 1) r c = fillG xs ys p ys.length r c := by
  unfold fillG
  by_cases h : p ≤ r
  · simp [h]
  · by_cases h2 : r + 1 = p ∧ ys.length ≤ c
    · rw [if_neg (by omega), if_pos (.inr h2), show c = ys.length by omega, lcsAt_end_right]
    · rw [if_neg (by omega), if_neg (by omega)]
theorem fillG_next {xs ys : List ByteArray} {i r c : Nat} (hc : c ≤ ys.length) : fillG xs ys (i + 1) 0 r c = fillG xs ys i (ys.length + 1) r c := by
  unfold fillG
  by_cases h : i ≤ r
  · rw [if_pos (by omega), if_pos (by omega)]
  · rw [if_neg (by omega), if_neg (by omega)]
theorem fillG_set {xs ys : List ByteArray} {i j r c : Nat} : (if r = i ∧ c = j then lcsAt xs ys i j else fillG xs ys (i + 1) (j + 1) r c) = fillG xs ys (i + 1) j r c := by
  unfold fillG
  by_cases h : r = i ∧ c = j
  · obtain ⟨rfl, rfl⟩ := h
    simp
  · rw [if_neg h]
    by_cases h2 : i + 1 ≤ r ∨ (r + 1 = i + 1 ∧ j + 1 ≤ c)
    · rw [if_pos h2, if_pos (by omega)]
    · rw [if_neg h2, if_neg (by omega)]
theorem fillG_in {xs ys : List ByteArray} {p q r c : Nat} (h : p ≤ r ∨ (r + 1 = p ∧ q ≤ c)) : fillG xs ys p q r c = lcsAt xs ys r c := by
  unfold fillG; rw [if_pos h]
attribute [irreducible] fillG

end Go.Proofs.YtjbihmglpfdmnaaGreatDoor
