/- Contracts of bruitref50.without, with. -/
import Derived.Test.YtjbihmglpfdmnaaGreatDoorDiffG
import Derived.Test.YtjbihmglpfdmnaaGreatDoorDiffQ
namespace Go.Proofs.YtjbihmglpfdmnaaGreatDoor
open Go Go.RowKit

theorem slStr : SlT Tryz.prog 38 9 1 16 := slT_of Tryz.underlying38 (by kernel_rfl) (by decide)
theorem slTree : SlT Tryz.prog 42 40 3 64 := slT_of Tryz.underlying42 (by kernel_rfl) (by decide)
def SOwn (w : World) (B : Nat) (v : Value) (xs : List ByteArray) : Prop := w.ownsRow B 9 1 v xs.length (xs.map Value.string)
theorem SOwn.srow {w : World} {B : Nat} {v : Value} {xs : List ByteArray} (h : SOwn w B v xs) : SRow w v xs := own_srow h
theorem SOwn.app {w : World} {B : Nat} {v : Value} {xs ys : List ByteArray} {n m : Nat} (hn : n = xs.length) (hm : m = ys.length) (h : w.ownsRow B 9 1 v (n + m) (xs.map Value.string ++ ys.map Value.string)) : SOwn w B v (xs ++ ys) := by
  subst hn; subst hm
  unfold SOwn
  rw [List.length_append, List.map_append]; exact h
theorem string_one (xs : List ByteArray) : ∀ u ∈ xs.map Value.string, u.oneCell' = true := by
  intro u hu
  obtain ⟨x, _, rfl⟩ := List.mem_map.1 hu
  rfl
def WithRes (w : World) (ys : List ByteArray) (e : Ending) (w' : World) : Prop := ∃ v, e = .returned v ∧ SRow w' v ys ∧ Below w.heap.size w w'
theorem srow_take {xs : List ByteArray} {k : Nat} {v v' : Value} (h : k ≤ xs.length) (hv : ∀ w' : World, Row w' v xs.length 1 (xs.map Value.string) → Row w' v' k 1 ((xs.map Value.string).take (k * 1))) {w : World} (hr : SRow w v xs) : Row w v' k 1 ((xs.take k).map Value.string) := by
  have := hv w hr
  rwa [Nat.mul_one, ← List.map_take] at this
theorem srow_drop {xs : List ByteArray} {k : Nat} {v v' : Value} (hv : ∀ w' : World, Row w' v xs.length 1 (xs.map Value.string) → Row w' v' (xs.length - k) 1 ((xs.map Value.string).drop (k * 1))) {w : World} (hr : SRow w v xs) : Row w v' (xs.length - k) 1 ((xs.drop k).map Value.string) := by
  have := hv w hr
  rwa [Nat.mul_one, ← List.map_drop] at this

end Go.Proofs.YtjbihmglpfdmnaaGreatDoor
