/- Contracts of bruitref50.one: what makes a file. -/
import Derived.Test.YtjbihmglpfdmnaaGreatDoorDiffJ
namespace Go.Proofs.YtjbihmglpfdmnaaGreatDoor
open Go Go.RowKit

/-- the first j names are less than n -/
def LessTo (n : ByteArray) (hs : List FileH) (j : Nat) : Prop := ∀ (i : Nat) x, i < j → hs[i]? = some x → ltB x.1.name n = true
theorem LessTo.succ {n : ByteArray} {hs : List FileH} {j : Nat} {x : FileH} (h : LessTo n hs j) (hx : hs[j]? = some x) (hl : ltB x.1.name n = true) : LessTo n hs (j + 1) := by
  intro i y hi hy
  by_cases hij : i = j
  · subst hij; rw [hx] at hy; cases hy; exact hl
  · exact h i y (by omega) hy
theorem takeW_at {n : ByteArray} : ∀ {hs : List FileH} {j : Nat}, j ≤ hs.length → LessTo n hs j → (∀ x, hs[j]? = some x → ltB x.1.name n = false) → (hs.map (·.1)).takeWhile (fun f => ltB f.name n) = (hs.take j).map (·.1) ∧ (hs.map (·.1)).dropWhile (fun f => ltB f.name n) = (hs.drop j).map (·.1)
  | [], j, hj, _, _ => by simp at hj; subst hj; simp
  | x :: hs, 0, _, _, hx => by
    have := hx x rfl
    simp [List.takeWhile_cons, List.dropWhile_cons, this]
  | x :: hs, j + 1, hj, hl, hx => by
    have h0 := hl 0 x (by omega) rfl
    have ih := takeW_at (n := n) (hs := hs) (j := j) (by simpa using hj) (fun i y hi hy => hl (i + 1) y (by omega) (by simpa using hy)) (fun y hy => hx y (by simpa using hy))
    simp [List.takeWhile_cons, List.dropWhile_cons, h0, ih.1, ih.2]
theorem insT_at {n : ByteArray} {hs : List FileH} {j : Nat} (hj : j ≤ hs.length) (h : LessTo n hs j) (hx : ∀ x, hs[j]? = some x → ltB x.1.name n = false) : insT (hs.map (·.1)) n = (hs.take j ++ (⟨n, [], []⟩, .slice none 0 0, .slice none 0 0) :: hs.drop j).map (·.1) := by
  obtain ⟨h1, h2⟩ := takeW_at hj h hx
  unfold insT
  rw [h1, h2]; simp
theorem meas_lt {n j : Nat} (h : j < n) : n - (intOf (.int .i64 ((j : Int) + 1))).toNat < n - (intOf (.int .i64 (j : Int))).toNat := by simp [intOf]; omega
def MakeRel (w1 : World) (n : ByteArray) (hs : List FileH) (v iv : Value) (wr : World) : Prop := ∃ j : Nat, j ≤ hs.length ∧ iv = .int .i64 j ∧ Hid (LessTo n hs j) ∧ Hid (TOwn wr w1.heap.size v (hs.take j)) ∧ Below w1.heap.size w1 wr

end Go.Proofs.YtjbihmglpfdmnaaGreatDoor
