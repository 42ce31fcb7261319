/- A table of numbers that a call makes: rows of one length in blocks that lie one behind another. -/
import Derived.Test.YtjbihmglpfdmnaaGreatDoorGen
import Derived.Deep.OwnRows
namespace Go.Proofs.YtjbihmglpfdmnaaGreatDoor
open Go Go.RowKit

theorem wpList_make_arr {P : Program} {t e : TypeId} {z : Value} {bytes : Nat} {w : World} {ops : Array Oper} {rest : List Oper} {o : Oper} {a : Act} {Q : Exit → Act → World → Prop} (T : SlZ P t e z bytes) (hgd : o.guard = none) (l c : Operand) (hop : o.op = Op.makeSlice t l c)
    (n : Nat) (C : Int) (hl : a.eval l = .int .i64 C) (hc : a.eval c = .int .i64 C) (hC : C = (n : Int)) (b2 : bytes * n ≤ 281474976710656) (b3 : n ≤ maxLen)
    (hK : ∀ w', Arr w' w.heap.size (List.replicate n z) → Below w.heap.size w w' → w'.heap.size = w.heap.size + 1 → wpList P ops Q rest (a.put o.dst (.slice (some ⟨w.heap.size, 0, none⟩) n n)) w') :
    wpList P ops Q (o :: rest) a w := by
  obtain ⟨i, h1, h2, h3, h4, h5, h6⟩ := T.out
  subst h5
  subst hC
  refine wpList_make_row w hgd l c t hop e i z h1 h2 h3 h4 h6 .i64 .i64 n hl hc b2 (by unfold maxLen at b3; omega) (hK _ ?_ ((Below.refl _ _).alloc (Nat.le_refl _) _) (by simp))
  have := arr_new w (madeCells #[z] n) e
  rwa [toList_madeCells_one] at this

def natRow (g : Nat → Nat) (m : Nat) : List Value := (List.range (m + 1)).map fun c => .int .i64 (g c : Nat)
theorem natRow_get {g : Nat → Nat} {m c : Nat} (h : c ≤ m) : (natRow g m)[c]? = some (.int .i64 (g c : Nat)) := by
  simp [natRow, List.getElem?_range (show c < m + 1 by omega)]
theorem natRow_len (g : Nat → Nat) (m : Nat) : (natRow g m).length = m + 1 := by simp [natRow]
theorem natRow_zero (m : Nat) : natRow (fun _ => 0) m = List.replicate (m + 1) (.int .i64 0) := by
  apply List.ext_getElem?
  intro j
  by_cases h : j ≤ m
  · rw [natRow_get h, List.getElem?_replicate]; simp [show j < m + 1 by omega]
  · rw [List.getElem?_eq_none (by rw [natRow_len]; omega), List.getElem?_eq_none (by simp; omega)]
theorem natRow_set {g : Nat → Nat} {m c x : Nat} (_h : c ≤ m) : (natRow g m).set c (.int .i64 (x : Nat)) = natRow (fun c' => if c' = c then x else g c') m := by
  apply List.ext_getElem?
  intro j
  by_cases hj : j ≤ m
  · rw [natRow_get hj]
    by_cases hc : c = j
    · subst hc; rw [List.getElem?_set_self (by rw [natRow_len]; omega)]; simp
    · rw [List.getElem?_set_ne hc, natRow_get hj, if_neg (fun h => hc h.symm)]
  · rw [List.getElem?_eq_none (by simp [natRow_len]; omega), List.getElem?_eq_none (by rw [natRow_len]; omega)]
theorem natRow_ext {g g' : Nat → Nat} {m : Nat} (h : ∀ c, c ≤ m → g c = g' c) : natRow g m = natRow g' m := by
  unfold natRow
  refine List.map_congr_left fun c hc => ?_
  rw [h c (by simpa [Nat.lt_succ_iff] using hc)]

/-- the outer row: r rows are made -/
def outRow (bo m n i : Nat) : List Value := (List.range (n + 1)).map fun r => if r < i then .slice (some ⟨bo + 1 + r, 0, none⟩) (m + 1) (m + 1) else .slice none 0 0
theorem outRow_len (bo m n i : Nat) : (outRow bo m n i).length = n + 1 := by simp [outRow]
theorem outRow_get {bo m n i r : Nat} (h : r < i) (hn : r ≤ n) : (outRow bo m n i)[r]? = some (.slice (some ⟨bo + 1 + r, 0, none⟩) (m + 1) (m + 1)) := by
  simp [outRow, List.getElem?_range (show r < n + 1 by omega), h]
theorem outRow_get' {bo m n i r : Nat} (h : ¬ r < i) (hn : r ≤ n) : (outRow bo m n i)[r]? = some (.slice none 0 0) := by
  simp [outRow, List.getElem?_range (show r < n + 1 by omega), h]
theorem outRow_zero (bo m n : Nat) : outRow bo m n 0 = List.replicate (n + 1) (.slice none 0 0) := by
  apply List.ext_getElem?
  intro j
  by_cases h : j ≤ n
  · rw [outRow_get' (by omega) h, List.getElem?_replicate]; simp [show j < n + 1 by omega]
  · rw [List.getElem?_eq_none (by rw [outRow_len]; omega), List.getElem?_eq_none (by simp; omega)]
theorem outRow_set {bo m n i : Nat} (h : i ≤ n) : (outRow bo m n i).set i (.slice (some ⟨bo + 1 + i, 0, none⟩) (m + 1) (m + 1)) = outRow bo m n (i + 1) := by
  apply List.ext_getElem?
  intro j
  by_cases hj : j ≤ n
  · by_cases hc : i = j
    · subst hc; rw [List.getElem?_set_self (by rw [outRow_len]; omega), outRow_get (by omega) hj]
    · rw [List.getElem?_set_ne hc]
      by_cases hlt : j < i
      · rw [outRow_get hlt hj, outRow_get (by omega) hj]
      · rw [outRow_get' hlt hj, outRow_get' (by omega) hj]
  · rw [List.getElem?_eq_none (by simp [outRow_len]; omega), List.getElem?_eq_none (by rw [outRow_len]; omega)]

/-- a table: rows 0 to n, each of m + 1 numbers -/
structure TabAt (w : World) (bo n m : Nat) (G : Nat → Nat → Nat) : Prop where
  out : Arr w bo (outRow bo m n (n + 1))
  rows : ∀ r, r ≤ n → Arr w (bo + 1 + r) (natRow (G r) m)
theorem TabAt.row {w : World} {bo n m : Nat} {G : Nat → Nat → Nat} (h : TabAt w bo n m G) {r : Nat} (hr : r ≤ n) : w.cell? ⟨bo, r, none⟩ = some (.slice (some ⟨bo + 1 + r, 0, none⟩) (m + 1) (m + 1)) := h.out.cell (outRow_get (by omega) hr)
theorem TabAt.cell {w : World} {bo n m : Nat} {G : Nat → Nat → Nat} (h : TabAt w bo n m G) {r c : Nat} (hr : r ≤ n) (hc : c ≤ m) : w.cell? ⟨bo + 1 + r, c, none⟩ = some (.int .i64 (G r c : Nat)) := (h.rows r hr).cell (natRow_get hc)
theorem TabAt.free {w : World} {bo n m : Nat} {G : Nat → Nat → Nat} (h : TabAt w bo n m G) {r : Nat} (hr : r ≤ n) (c : Nat) : w.frozen? ⟨bo + 1 + r, c, none⟩ = false := (h.rows r hr).free c
theorem TabAt.lt {w : World} {bo n m : Nat} {G : Nat → Nat → Nat} (h : TabAt w bo n m G) {r : Nat} (hr : r ≤ n) : bo + 1 + r < w.heap.size := (h.rows r hr).lt
theorem TabAt.ext {w : World} {bo n m : Nat} {G G' : Nat → Nat → Nat} (h : TabAt w bo n m G) (he : ∀ r c, r ≤ n → c ≤ m → G r c = G' r c) : TabAt w bo n m G' :=
  ⟨h.out, fun r hr => by rw [← natRow_ext (fun c hc => he r c hr hc)]; exact h.rows r hr⟩
theorem TabAt.over {w w' : World} {bo n m : Nat} {G : Nat → Nat → Nat} (h : TabAt w bo n m G) (hb : Below w.heap.size w w') : TabAt w' bo n m G := ⟨h.out.over hb, fun r hr => (h.rows r hr).over hb⟩
theorem TabAt.set {w : World} {bo n m : Nat} {G : Nat → Nat → Nat} (h : TabAt w bo n m G) {r c : Nat} (hr : r ≤ n) (hc : c ≤ m) (x : Nat) :
    TabAt (w.setCell ⟨bo + 1 + r, c, none⟩ (.int .i64 (x : Nat))) bo n m (fun r' c' => if r' = r ∧ c' = c then x else G r' c') := by
  refine ⟨h.out.set_other (by show bo ≠ bo + 1 + r; omega) _, fun r' hr' => ?_⟩
  by_cases he : r' = r
  · subst he
    have := (h.rows r' hr).set c (.int .i64 (x : Nat))
    rw [natRow_set hc] at this
    simpa using this
  · have := (h.rows r' hr').set_other (a := ⟨bo + 1 + r, c, none⟩) (by show bo + 1 + r' ≠ bo + 1 + r; omega) (.int .i64 (x : Nat))
    simpa [he] using this
theorem TabAt.drew {w : World} {bo n m : Nat} {G : Nat → Nat → Nat} (h : TabAt w bo n m G) : TabAt w.drew bo n m G := ⟨h.out.drew, fun r hr => (h.rows r hr).drew⟩
end Go.Proofs.YtjbihmglpfdmnaaGreatDoor
