/- Rows of things that are several cells each: []api.Pid, []api.Vid, []api.Op, []api.Vert. -/
import Derived.Test.YtflnkmmimoninaaGreatDoorZOpR
namespace Go.Proofs.YtflnkmmimoninaaGreatDoor
open Go Go.RowKit

section
variable {α : Type} {enc : α → List Value} {sz : Nat} {e : TypeId}
def GRow (enc : α → List Value) (sz : Nat) (w : World) (v : Value) (xs : List α) : Prop := Row w v xs.length sz (xs.flatMap enc)
def GOwn (enc : α → List Value) (sz : Nat) (e : TypeId) (w : World) (B : Nat) (v : Value) (xs : List α) : Prop := w.ownsRow B e sz v xs.length (xs.flatMap enc)
theorem GOwn.row {w : World} {B : Nat} {v : Value} {xs : List α} (h : GOwn enc sz e w B v xs) : GRow enc sz w v xs := own_row h
theorem GRow.over {w w' : World} {v : Value} {xs : List α} (h : GRow enc sz w v xs) (hb : Below w.heap.size w w') : GRow enc sz w' v xs := Row.over h hb
theorem GOwn.over {w w' : World} {B : Nat} {v : Value} {xs : List α} (h : GOwn enc sz e w B v xs) (hb : Below w.heap.size w w') : GOwn enc sz e w' B v xs := own_over h hb
theorem grow_nil (w : World) : GRow enc sz w (.slice none 0 0) [] := row_nil w sz
theorem gown_nil (w : World) (B : Nat) : GOwn enc sz e w B (.slice none 0 0) [] := World.ownsRow_nil w B e sz
theorem GOwn.snoc {w : World} {B : Nat} {v : Value} {xs : List α} {x : α} (h : w.ownsRow B e sz v (xs.length + 1) (xs.flatMap enc ++ enc x)) : GOwn enc sz e w B v (xs ++ [x]) := by
  unfold GOwn
  rw [List.length_append, List.flatMap_append]; simpa using h
/-- what a row holds, at each place, in whatever world lies over -/
theorem GRow.at {w : World} {v : Value} {xs : List α} (hf : ∀ x, (enc x).length = sz) (h : GRow enc sz w v xs) : ∃ a cap, v = .slice a xs.length cap ∧ xs.length ≤ cap ∧ cap ≤ maxLen ∧ (xs.length = 0 ∨ ∃ b off, a = some ⟨b, off, none⟩ ∧ b < w.heap.size ∧
    ∀ i x, xs[i]? = some x → ∀ W, Below w.heap.size w W → b < W.heap.size ∧ ∀ j u, (enc x)[j]? = some u → W.cell? ⟨b, off + i * sz + j, none⟩ = some u) := by
  obtain ⟨a, cap, e1, e2, e3, _, e5⟩ := Row.form h
  refine ⟨a, cap, e1, e2, e3, e5.imp id ?_⟩
  rintro ⟨b, off, rfl, hb, hc⟩
  refine ⟨b, off, rfl, hb, fun i x hx W hW => ⟨Nat.lt_of_lt_of_le hb hW.size, fun j u hu => ?_⟩⟩
  rw [hW.cell (p := ⟨b, off + i * sz + j, none⟩) hb]
  exact Row.elem hf hc hx hu
end
theorem encPid_len (p : PidM) : (encPid p).length = 2 := rfl
theorem encVid_len (p : VidM) : (encVid p).length = 3 := rfl
theorem encOp_len (p : OpM) : (encOp p).length = 8 := rfl
theorem encVert_len (p : VertM) : (encVert p).length = 9 := rfl
theorem slPid : SlT Tryz.prog 58 25 2 4 := slT_of Tryz.underlying58 (by kernel_rfl) (by decide)
theorem slVid : SlT Tryz.prog 35 27 3 6 := slT_of Tryz.underlying35 (by kernel_rfl) (by decide)
end Go.Proofs.YtflnkmmimoninaaGreatDoor
