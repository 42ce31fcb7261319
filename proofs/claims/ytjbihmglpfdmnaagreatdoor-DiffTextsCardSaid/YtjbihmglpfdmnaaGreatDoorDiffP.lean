/- Plain words of layer 50: edits. -/
import Derived.Test.YtjbihmglpfdmnaaGreatDoorLcsP
namespace Go.Proofs.YtjbihmglpfdmnaaGreatDoor
open Go

structure EditM where
  kind : Nat
  name : ByteArray
  at' : Int
  text : ByteArray
deriving DecidableEq
def cutE (n : ByteArray) (j : Nat) : EditM := ⟨3, n, (j : Int), ByteArray.empty⟩
def putE (n : ByteArray) (b : List ByteArray) (j : Nat) : EditM := ⟨4, n, (j : Int), b.getD j ByteArray.empty⟩
def putsE (n : ByteArray) (b : List ByteArray) : Nat → Nat → List EditM
  | _, 0 => []
  | j, k + 1 => putE n b j :: putsE n b (j + 1) k
/-- what comes of the pairs from the places i and j on -/
def linesF (n : ByteArray) (b : List ByteArray) : List (Nat × Nat) → Nat → Nat → List EditM
  | [], _, _ => []
  | p :: r, i, j => List.replicate (p.1 - i) (cutE n j) ++ (putsE n b j (p.2 - j) ++ linesF n b r (max i p.1 + 1) (max j p.2 + 1))
def linesE (n : ByteArray) (a b : List ByteArray) : List EditM := linesF n b (pairs a b ++ [(a.length, b.length)]) 0 0
theorem putsE_len (n : ByteArray) (b : List ByteArray) : ∀ k j, (putsE n b j k).length = k
  | 0, _ => rfl
  | k + 1, j => by simp [putsE, putsE_len n b k (j + 1)]
theorem pairsF_in (a b : List ByteArray) : ∀ f i j p, p ∈ pairsF a b f i j → p.1 < a.length ∧ p.2 < b.length
  | 0, _, _, p, h => by simp [pairsF_end_zero] at h
  | f + 1, i, j, p, h => by
    by_cases hin : i < a.length ∧ j < b.length
    · obtain ⟨hi, hj⟩ := hin
      have hx := List.getElem?_eq_getElem hi
      have hy := List.getElem?_eq_getElem hj
      by_cases he : a[i] = b[j]
      · rw [pairsF_eq hx hy he] at h
        rcases List.mem_cons.1 h with rfl | h
        · exact ⟨hi, hj⟩
        · exact pairsF_in a b f _ _ p h
      · by_cases hl : lcsAt a b i (j + 1) ≤ lcsAt a b (i + 1) j
        · rw [pairsF_left hx hy he hl] at h; exact pairsF_in a b f _ _ p h
        · rw [pairsF_right hx hy he hl] at h; exact pairsF_in a b f _ _ p h
    · rw [pairsF_end hin] at h; simp at h
theorem pairs_len (xs ys : List ByteArray) : (pairs xs ys).length ≤ xs.length + ys.length := by unfold pairs; exact pairsF_len _ _ _ _ _
theorem pairs_in {xs ys : List ByteArray} {p : Nat × Nat} (h : p ∈ pairs xs ys) : p.1 < xs.length ∧ p.2 < ys.length := by unfold pairs at h; exact pairsF_in _ _ _ _ _ p h
theorem pairs_in' {xs ys : List ByteArray} : ∀ p ∈ pairs xs ys ++ [(xs.length, ys.length)], p.1 ≤ xs.length ∧ p.2 ≤ ys.length := by
  intro p hp
  rcases List.mem_append.1 hp with h | h
  · have := pairs_in h; omega
  · simp at h; subst h; simp
theorem linesF_len {n : ByteArray} {b : List ByteArray} {A B : Nat} : ∀ (pp : List (Nat × Nat)) (i j : Nat), (∀ p ∈ pp, p.1 ≤ A ∧ p.2 ≤ B) → (linesF n b pp i j).length ≤ (A - i) + (B - j)
  | [], _, _, _ => by simp [linesF]
  | p :: r, i, j, h => by
    have h1 := h p (by simp)
    have h2 := linesF_len r (max i p.1 + 1) (max j p.2 + 1) (fun q hq => h q (by simp [hq])) (n := n) (b := b)
    rw [linesF, List.length_append, List.length_append, List.length_replicate, putsE_len]
    omega
theorem linesE_len (n : ByteArray) (a b : List ByteArray) : (linesE n a b).length ≤ a.length + b.length := linesF_len _ 0 0 pairs_in'

def dropE (n : ByteArray) : EditM := ⟨1, n, 0, ByteArray.empty⟩
def makeE (n : ByteArray) : EditM := ⟨2, n, 0, ByteArray.empty⟩
/-- the lines of a name's file -/
def wasL (t : List FileM) (n : ByteArray) : List ByteArray := if findT t n < 0 then [] else (t.getD (findT t n).toNat default).lines
def ofTail (a : List FileM) (f : FileM) : List EditM := (if findT a f.name < 0 then [makeE f.name] else []) ++ linesE f.name (wasL a f.name) f.lines
def ofE1 (a b : List FileM) (k : Nat) : List EditM := (a.take k).flatMap fun f => if findT b f.name < 0 then [dropE f.name] else []
def ofE2 (a b : List FileM) (k : Nat) : List EditM := (b.take k).flatMap (ofTail a)
/-- what is unlike in two trees -/
def ofE (a b : List FileM) : List EditM := ofE1 a b a.length ++ ofE2 a b b.length
theorem ofE1_succ {a b : List FileM} {k : Nat} {f : FileM} (h : a[k]? = some f) : ofE1 a b (k + 1) = ofE1 a b k ++ if findT b f.name < 0 then [dropE f.name] else [] := by
  unfold ofE1
  obtain ⟨hi, rfl⟩ := List.getElem?_eq_some_iff.1 h
  rw [List.take_succ_eq_append_getElem hi, List.flatMap_append]; simp
theorem ofE2_succ {a b : List FileM} {k : Nat} {f : FileM} (h : b[k]? = some f) : ofE2 a b (k + 1) = ofE2 a b k ++ ofTail a f := by
  unfold ofE2
  obtain ⟨hi, rfl⟩ := List.getElem?_eq_some_iff.1 h
  rw [List.take_succ_eq_append_getElem hi, List.flatMap_append]; simp
theorem ofE1_len (a b : List FileM) (k : Nat) : (ofE1 a b k).length ≤ k := by
  unfold ofE1
  have : ∀ l : List FileM, (l.flatMap fun f => if findT b f.name < 0 then [dropE f.name] else []).length ≤ l.length := by
    intro l
    induction l with
    | nil => simp
    | cons x l ih => rw [List.flatMap_cons, List.length_append, List.length_cons]; split <;> simp only [List.length_cons, List.length_nil] <;> omega
  exact Nat.le_trans (this _) (by simp; omega)
/-- few files, few lines -/
def FewT (t : List FileM) : Prop := t.length ≤ 40 ∧ ∀ f ∈ t, f.lines.length ≤ 100
theorem FewT.at {t : List FileM} (h : FewT t) {k : Nat} {f : FileM} (hf : t[k]? = some f) : f.lines.length ≤ 100 := h.2 f (List.mem_of_getElem? hf)
theorem findFrom_ge : ∀ {t : List FileM} {n : ByteArray} {i : Nat}, findFrom n t i = -1 ∨ ∃ (k : Nat) (f : FileM), findFrom n t i = ((i + k : Nat) : Int) ∧ t[k]? = some f ∧ f.name = n
  | [], _, _ => .inl rfl
  | g :: t, n, i => by
    rw [findFrom]
    by_cases h : g.name = n
    · rw [if_pos h]; exact .inr ⟨0, g, by simp, rfl, h⟩
    · rw [if_neg h]
      rcases findFrom_ge (t := t) (n := n) (i := i + 1) with h1 | ⟨k, f, h1, h2, h3⟩
      · exact .inl h1
      · exact .inr ⟨k + 1, f, by rw [h1]; omega, by simpa using h2, h3⟩
theorem findT_ge (t : List FileM) (n : ByteArray) : findT t n = -1 ∨ ∃ (k : Nat) (f : FileM), findT t n = (k : Int) ∧ t[k]? = some f ∧ f.name = n := by
  rcases findFrom_ge (t := t) (n := n) (i := 0) with h | ⟨k, f, h1, h2, h3⟩
  · exact .inl h
  · exact .inr ⟨k, f, by rw [findT, h1]; simp, h2, h3⟩
theorem wasL_none {t : List FileM} {n : ByteArray} (h : findT t n = -1) : wasL t n = [] := by unfold wasL; rw [if_pos (by omega)]
theorem wasL_some {t : List FileM} {n : ByteArray} {k : Nat} {f : FileM} (h : findT t n = (k : Int)) (hf : t[k]? = some f) : wasL t n = f.lines := by
  unfold wasL; rw [if_neg (by omega), h, List.getD_eq_getElem?_getD, Int.toNat_natCast, hf]; rfl
theorem wasL_few {t : List FileM} {n : ByteArray} (h : FewT t) : (wasL t n).length ≤ 100 := by
  rcases findT_ge t n with h1 | ⟨k, f, h1, h2, _⟩
  · rw [wasL_none h1]; simp
  · rw [wasL_some h1 h2]; exact h.at h2
theorem ofTail_len {a b : List FileM} (ha : FewT a) (hb : FewT b) {k : Nat} {f : FileM} (hf : b[k]? = some f) : (ofTail a f).length ≤ 201 := by
  have h1 := linesE_len f.name (wasL a f.name) f.lines
  have h2 := wasL_few (n := f.name) ha
  have h3 := hb.at hf
  unfold ofTail
  rw [List.length_append]
  split <;> simp <;> omega
theorem ofE2_len {a b : List FileM} (ha : FewT a) (hb : FewT b) : ∀ (k : Nat), (ofE2 a b k).length ≤ k * 201
  | 0 => by simp [ofE2]
  | k + 1 => by
    have ih := ofE2_len ha hb k
    by_cases hk : k < b.length
    · rw [ofE2_succ (List.getElem?_eq_getElem hk), List.length_append]
      have := ofTail_len ha hb (List.getElem?_eq_getElem hk)
      omega
    · have : ofE2 a b (k + 1) = ofE2 a b k := by unfold ofE2; rw [List.take_of_length_le (by omega), List.take_of_length_le (by omega)]
      rw [this]; omega
theorem ofTail_none {a : List FileM} {f : FileM} (h : findT a f.name = -1) : ofTail a f = makeE f.name :: linesE f.name [] f.lines := by
  unfold ofTail; rw [if_pos (by omega), wasL_none h]; rfl
theorem ofTail_some {a : List FileM} {f g : FileM} {k : Nat} (h : findT a f.name = (k : Int)) (hg : a[k]? = some g) : ofTail a f = linesE f.name g.lines f.lines := by
  unfold ofTail; rw [if_neg (by omega), wasL_some h hg]; rfl
attribute [irreducible] linesE ofTail ofE1 ofE2 wasL
end Go.Proofs.YtjbihmglpfdmnaaGreatDoor
