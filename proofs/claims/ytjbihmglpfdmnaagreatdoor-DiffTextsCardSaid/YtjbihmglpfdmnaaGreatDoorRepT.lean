/- Trees that lie in old memory. -/
import Derived.Test.YtjbihmglpfdmnaaGreatDoorGen
import Derived.Test.YtjbihmglpfdmnaaGreatDoorTreeP
namespace Go.Proofs.YtjbihmglpfdmnaaGreatDoor
open Go Go.RowKit

def encF (x : FileM × Value × Value) : List Value := [.string x.1.name, x.2.1, x.2.2]
theorem encF_len (x : FileM × Value × Value) : (encF x).length = 3 := rfl
def FRow (w : World) (v : Value) (t : List FileM) : Prop := ∃ hs : List (FileM × Value × Value), hs.map (·.1) = t ∧ Row w v t.length 3 (hs.flatMap encF) ∧ ∀ x ∈ hs, SRow w x.2.1 x.1.also ∧ SRow w x.2.2 x.1.lines
theorem FRow.over {w w' : World} {v : Value} {t : List FileM} (h : FRow w v t) (hb : Below w.heap.size w w') : FRow w' v t := by
  obtain ⟨hs, h1, h2, h3⟩ := h
  exact ⟨hs, h1, h2.over hb, fun x hx => ⟨(h3 x hx).1.over hb, (h3 x hx).2.over hb⟩⟩
theorem frow_nil (w : World) : FRow w (.slice none 0 0) [] := ⟨[], rfl, row_nil w 3, by simp⟩
/-- what lies at a file's place -/
structure FAt (w : World) (b o : Nat) (f : FileM) (av lv : Value) : Prop where
  c0 : w.cell? ⟨b, o, none⟩ = some (.string f.name)
  c1 : w.cell? ⟨b, o + 1, none⟩ = some av
  c2 : w.cell? ⟨b, o + 2, none⟩ = some lv
  also : SRow w av f.also
  lines : SRow w lv f.lines
theorem FAt.over {w w' : World} {b o : Nat} {f : FileM} {av lv : Value} (h : FAt w b o f av lv) (hb : Below w.heap.size w w') (hlt : b < w.heap.size) : FAt w' b o f av lv :=
  ⟨(hb.cell (p := ⟨b, _, none⟩) hlt).trans h.c0, (hb.cell (p := ⟨b, _, none⟩) hlt).trans h.c1, (hb.cell (p := ⟨b, _, none⟩) hlt).trans h.c2, h.also.over hb, h.lines.over hb⟩
theorem FRow.form {w : World} {v : Value} {t : List FileM} (h : FRow w v t) : ∃ a cap, v = .slice a t.length cap ∧ t.length ≤ cap ∧ cap ≤ maxLen ∧ (a = none → cap = 0) ∧
    (t.length = 0 ∨ ∃ b off, a = some ⟨b, off, none⟩ ∧ b < w.heap.size ∧ ∀ i f, t[i]? = some f → ∃ av lv, FAt w b (off + i * 3) f av lv) := by
  obtain ⟨hs, rfl, h2, h3⟩ := h
  obtain ⟨a, cap, e1, e2, e3, e4, e5⟩ := h2.form
  refine ⟨a, cap, e1, e2, e3, e4, e5.imp id ?_⟩
  rintro ⟨b, off, rfl, hb, hc⟩
  refine ⟨b, off, rfl, hb, fun i f hf => ?_⟩
  rw [List.getElem?_map, Option.map_eq_some_iff] at hf
  obtain ⟨x, hx, rfl⟩ := hf
  have hm := h3 x (List.mem_of_getElem? hx)
  exact ⟨x.2.1, x.2.2, Row.elem (j := 0) encF_len hc hx rfl, Row.elem (j := 1) encF_len hc hx rfl, Row.elem (j := 2) encF_len hc hx rfl, hm.1, hm.2⟩
end Go.Proofs.YtjbihmglpfdmnaaGreatDoor
