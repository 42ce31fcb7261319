/- Contracts of the laws' own helpers: bruitlaw15.Few, bruitlaw50.few, model, same. -/
import Derived.Test.YtjbihmglpfdmnaaGreatDoorDiffD
namespace Go.Proofs.YtjbihmglpfdmnaaGreatDoor
open Go Go.RowKit

def shortB (x : ByteArray) : Bool := decide (x.size ≤ 200)
def fewFile (f : FileM) : Bool := decide (f.name.size ≤ 200) && (decide (f.also.length ≤ 40) && (decide (f.lines.length ≤ 100) && (f.also.all shortB && f.lines.all shortB)))
def few15 (t : List FileM) : Bool := decide (t.length ≤ 40) && t.all fewFile
def fewV (b : Bool) : Int := if b then 1 else 0
theorem few15_long {t : List FileM} (h : ¬ t.length ≤ 40) : few15 t = false := by simp [few15, h]
theorem few15_bad {t : List FileM} {k : Nat} {f : FileM} (hf : t[k]? = some f) (h : fewFile f = false) : few15 t = false := by
  unfold few15
  rw [Bool.and_eq_false_iff]; right
  rw [List.all_eq_false]
  exact ⟨f, List.mem_of_getElem? hf, by simp [h]⟩
theorem all_of {α : Type} {p : α → Bool} {l : List α} (h : ∀ (j : Nat) x, j < l.length → l[j]? = some x → p x = true) : l.all p = true :=
  List.all_eq_true.2 fun x hx => by obtain ⟨j, hj, rfl⟩ := List.getElem_of_mem hx; exact h j _ hj (List.getElem?_eq_getElem hj)
theorem not_all {α : Type} {p : α → Bool} {l : List α} {j : Nat} {x : α} (hx : l[j]? = some x) (h : p x = false) : l.all p = false := by
  rw [List.all_eq_false]; exact ⟨x, List.mem_of_getElem? hx, by simp [h]⟩
theorem few15_all {t : List FileM} (h : t.length ≤ 40) (ha : ∀ (j : Nat) g, j < t.length → t[j]? = some g → fewFile g = true) : few15 t = true := by
  unfold few15; rw [all_of ha]; simpa using h
theorem fewFile_name {f : FileM} (h : ¬ f.name.size ≤ 200) : fewFile f = false := by simp [fewFile, h]
theorem fewFile_also {f : FileM} (h : ¬ f.also.length ≤ 40) : fewFile f = false := by simp [fewFile, h]
theorem fewFile_lines {f : FileM} (h : ¬ f.lines.length ≤ 100) : fewFile f = false := by simp [fewFile, h]
theorem fewFile_alsoS {f : FileM} {j : Nat} {x : ByteArray} (hx : f.also[j]? = some x) (h : ¬ x.size ≤ 200) : fewFile f = false := by
  unfold fewFile; rw [not_all hx (by simp [shortB, h])]; simp
theorem fewFile_linesS {f : FileM} {j : Nat} {x : ByteArray} (hx : f.lines[j]? = some x) (h : ¬ x.size ≤ 200) : fewFile f = false := by
  unfold fewFile; rw [not_all (p := shortB) (l := f.lines) hx (by simp [shortB, h])]; simp
theorem fewFile_all {f : FileM} (h1 : f.name.size ≤ 200) (h2 : f.also.length ≤ 40) (h3 : f.lines.length ≤ 100) (h4 : ∀ (j : Nat) x, j < f.also.length → f.also[j]? = some x → shortB x = true) (h5 : ∀ (j : Nat) x, j < f.lines.length → f.lines[j]? = some x → shortB x = true) : fewFile f = true := by
  unfold fewFile; rw [all_of h4, all_of h5]; simp [h1, h2, h3]
theorem fewT_of {t : List FileM} (h : few15 t = true) : FewT t ∧ SzT t := by
  unfold few15 at h
  rw [Bool.and_eq_true, decide_eq_true_eq, List.all_eq_true] at h
  have h' : ∀ f ∈ t, f.name.size ≤ 200 ∧ f.lines.length ≤ 100 ∧ (∀ x ∈ f.also, x.size ≤ 200) ∧ ∀ x ∈ f.lines, x.size ≤ 200 := fun f hf => by
    have := h.2 f hf
    simp only [fewFile, Bool.and_eq_true, decide_eq_true_eq, List.all_eq_true, shortB] at this
    exact ⟨this.1, this.2.2.1, this.2.2.2.1, this.2.2.2.2⟩
  refine ⟨⟨h.1, fun f hf => (h' f hf).2.1⟩, fun f hf => ⟨?_, fun x hx => ?_, fun x hx => ?_⟩⟩
  · have := (h' f hf).1; unfold maxLen; omega
  · have := (h' f hf).2.2.1 x hx; unfold maxLen; omega
  · have := (h' f hf).2.2.2 x hx; unfold maxLen; omega
attribute [irreducible] few15 fewFile fewV
theorem fewV_f : fewV false = 0 := by unfold fewV; rfl
theorem fewV_t : fewV true = 1 := by unfold fewV; rfl
/-- the first k strings are short -/
def ShortTo (xs : List ByteArray) (k : Nat) : Prop := ∀ (j : Nat) x, j < k → xs[j]? = some x → shortB x = true
theorem ShortTo.succ {xs : List ByteArray} {k : Nat} {x : ByteArray} (h : ShortTo xs k) (hx : xs[k]? = some x) (hs : x.size ≤ 200) : ShortTo xs (k + 1) := by
  intro j y hj hy
  by_cases hjk : j = k
  · subst hjk; rw [hx] at hy; cases hy; simp [shortB, hs]
  · exact h j y (by omega) hy

end Go.Proofs.YtjbihmglpfdmnaaGreatDoor
