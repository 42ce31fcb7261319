/- The class of worlds in which nothing old has turned but one row. -/
import Derived.Test.YtjbihmglpfdmnaaGreatDoorMemB
namespace Go.Proofs.YtjbihmglpfdmnaaGreatDoor
open Go Go.RowKit

def Kept (w : World) (row : Option Nat) : Type := { w' : World // w.grownBy w' row }
instance (w : World) (row : Option Nat) : Nonempty (Kept w row) := ⟨⟨w, World.grownBy.refl _ _⟩⟩
def IsKept (w : World) (row : Option Nat) : World → Prop := fun w' => ∃ x : Kept w row, w' = x.1
theorem isKept_of {w w' : World} {row : Option Nat} (h : w.grownBy w' row) : IsKept w row w' := ⟨⟨w', h⟩, rfl⟩
theorem isKept_grown {w w' : World} {row : Option Nat} (h : IsKept w row w') : w.grownBy w' row := by obtain ⟨x, rfl⟩ := h; exact x.2
@[go_sem] theorem isKept_all {w : World} {row : Option Nat} {p : World → Prop} : (∀ w', IsKept w row w' → p w') ↔ ∀ x : Kept w row, p x.1 := ⟨fun h x => h _ ⟨x, rfl⟩, fun h w' ⟨x, hx⟩ => hx ▸ h x⟩
@[simp, go_sem] theorem kept_cell {w : World} {row : Option Nat} (x : Kept w row) {a : Addr} (h : a.block < w.heap.size) (hn : ¬ some a.block = row) : World.cell? x.1 a = w.cell? a := World.cell?_of_block (x.2.block _ h hn)
@[simp, go_sem] theorem kept_frozen {w : World} {row : Option Nat} (x : Kept w row) {a : Addr} (h : a.block < w.heap.size) (hn : ¬ some a.block = row) : World.frozen? x.1 a = w.frozen? a := by
  have := x.2.block _ h hn
  unfold World.frozen?
  rw [this]
theorem isKept_drew (w : World) (row : Option Nat) : IsKept w row w.drew := isKept_of ⟨rfl, rfl, rfl, Nat.le_refl _, fun _ _ _ => rfl⟩
theorem only_alloc {a w : World} {row : Option Nat} (h : a.grownBy w row) (o : Obj) : a.grownBy (w.alloc o) row :=
  ⟨h.os, h.tape, h.output, Nat.le_trans h.size (by simp), fun i hi hne => (Below.heap_alloc w o i (Nat.lt_of_lt_of_le hi h.size)).trans (h.block i hi hne)⟩
theorem grown_setCell (w : World) {g : Nat} (j : Nat) (u : Value) : w.grownBy (w.setCell ⟨g, j, none⟩ u) (some g) :=
  ⟨rfl, rfl, rfl, by simp [World.setCell], fun i _ hne => Below.heap_setCell w ⟨g, j, none⟩ u i (fun h => hne (by rw [h]))⟩
theorem own_grown {w w' : World} {B : Nat} {e : TypeId} {sz n : Nat} {v : Value} {xs : List Value} {row : Option Nat} (h : w.ownsRow B e sz v n xs) (hg : w.grownBy w' row) (hn : v.ownBlock = none ∨ v.ownBlock ≠ row) : w'.ownsRow B e sz v n xs := by
  obtain ⟨h1, h2⟩ := h
  rcases h2 with ⟨rfl, h0⟩ | ⟨g, cap, cur, rfl, hb, hgh, hnc, hm, hs, ht⟩
  · exact ⟨h1, .inl ⟨rfl, h0⟩⟩
  · have hne : some g ≠ row := by
      rcases hn with hn | hn
      · simp [Value.ownBlock] at hn
      · exact hn
    exact ⟨h1, .inr ⟨g, cap, cur, rfl, hb, by rw [hg.block g (Array.getElem?_eq_some_iff.1 hgh).1 hne]; exact hgh, hnc, hm, hs, ht⟩⟩
theorem OwnAt.grown {w w' : World} {B : Nat} {e : TypeId} {sz g n cap : Nat} {xs : List Value} {row : Option Nat} (h : OwnAt w B e sz g n cap xs) (hg : w.grownBy w' row) (hn : some g ≠ row) : OwnAt w' B e sz g n cap xs := by
  obtain ⟨junk, h1, h2⟩ := h.at'
  exact ⟨⟨junk, by rw [hg.block g h.lt hn]; exact h1, h2⟩, h.len, h.base, h.nc, h.cm⟩
theorem OwnAt.setCell {w : World} {B : Nat} {e : TypeId} {sz g n cap : Nat} {xs : List Value} (h : OwnAt w B e sz g n cap xs) (j : Nat) (hj : j < xs.length) (u : Value) : OwnAt (w.setCell ⟨g, j, none⟩ u) B e sz g n cap (xs.set j u) := by
  obtain ⟨junk, h1, h2⟩ := h.at'
  have hs := setCell_eq_setRow w g j (xs ++ junk).toArray e (0, 0) u h1
  refine ⟨⟨junk, ?_, by simpa using h2⟩, by simpa using h.len, h.base, h.nc, h.cm⟩
  rw [hs, setRow_heap w g _ _ e _ h1]
  simp only [Option.some.injEq, Obj.cells.injEq, and_true]
  apply Array.ext'
  simp [List.set_append_left _ _ hj]
theorem OwnAt.free {w : World} {B : Nat} {e : TypeId} {sz g n cap : Nat} {xs : List Value} (h : OwnAt w B e sz g n cap xs) (j : Nat) : w.frozen? ⟨g, j, none⟩ = false := by
  obtain ⟨junk, h1, _⟩ := h.at'
  exact Arr.free (w := w) (g := g) (cs := xs ++ junk) ⟨e, h1⟩ j
/-- two rows of unlike types lie in unlike blocks -/
theorem OwnAt.ne {w : World} {B B' : Nat} {e e' : TypeId} {sz sz' g n n' cap : Nat} {xs ys : List Value} {v : Value} (h : OwnAt w B e sz g n cap xs) (ho : w.ownsRow B' e' sz' v n' ys) (hn : e' ≠ e) : v.ownBlock ≠ some g := by
  obtain ⟨junk, h1, _⟩ := h.at'
  have := ArrT.ne (w := w) (g := g) (e := e) (cs := xs ++ junk) h1 ho hn
  exact fun h => this h.symm

/-- the worlds in which block b is as in w -/
def SameAt (w : World) (b : Nat) : Type := { w' : World // w'.heap[b]? = w.heap[b]? }
instance (w : World) (b : Nat) : Nonempty (SameAt w b) := ⟨⟨w, rfl⟩⟩
def IsSameAt (w : World) (b : Nat) : World → Prop := fun w' => ∃ x : SameAt w b, w' = x.1
theorem isSameAt_of {w w' : World} {b : Nat} (h : w'.heap[b]? = w.heap[b]?) : IsSameAt w b w' := ⟨⟨w', h⟩, rfl⟩
@[go_sem] theorem isSameAt_all {w : World} {b : Nat} {p : World → Prop} : (∀ w', IsSameAt w b w' → p w') ↔ ∀ x : SameAt w b, p x.1 := ⟨fun h x => h _ ⟨x, rfl⟩, fun h w' ⟨x, hx⟩ => hx ▸ h x⟩
@[simp, go_sem] theorem same_cell {w : World} {b : Nat} (x : SameAt w b) {a : Addr} (h : a.block = b) : World.cell? x.1 a = w.cell? a := World.cell?_of_block (by rw [h]; exact x.2)
@[simp, go_sem] theorem same_frozen {w : World} {b : Nat} (x : SameAt w b) {a : Addr} (h : a.block = b) : World.frozen? x.1 a = w.frozen? a := by
  have := x.2
  unfold World.frozen?
  rw [h, this]
end Go.Proofs.YtjbihmglpfdmnaaGreatDoor
