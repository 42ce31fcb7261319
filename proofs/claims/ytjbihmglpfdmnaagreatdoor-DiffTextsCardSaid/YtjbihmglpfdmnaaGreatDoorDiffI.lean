/- Contract of bruitref50.set. -/
import Derived.Test.YtjbihmglpfdmnaaGreatDoorDiffH
namespace Go.Proofs.YtjbihmglpfdmnaaGreatDoor
open Go Go.RowKit

theorem setL_set {t : List FileM} {k : Nat} {f : FileM} {l : List ByteArray} (h : t[k]? = some f) : setL t k l = t.set k ⟨f.name, [], l⟩ := by
  obtain ⟨hk, rfl⟩ := List.getElem?_eq_some_iff.1 h
  rw [List.set_eq_take_append_cons_drop, if_pos hk]
  unfold setL
  rw [getD_at (List.getElem?_eq_getElem hk)]
abbrev FileH : Type := FileM × Value × Value
def TOwn (w : World) (B : Nat) (v : Value) (hs : List FileH) : Prop := w.ownsRow B 40 3 v hs.length (hs.flatMap encF)
def Held (w : World) (hs : List FileH) : Prop := ∀ x ∈ hs, SRow w x.2.1 x.1.also ∧ SRow w x.2.2 x.1.lines
theorem Held.over {w w' : World} {hs : List FileH} (h : Held w hs) (hb : Below w.heap.size w w') : Held w' hs := fun x hx => ⟨(h x hx).1.over hb, (h x hx).2.over hb⟩
theorem TOwn.snoc {w : World} {B : Nat} {v : Value} {hs : List FileH} {x : FileH} (h : w.ownsRow B 40 3 v (hs.length + 1) (hs.flatMap encF ++ encF x)) : TOwn w B v (hs ++ [x]) := by
  unfold TOwn
  rw [List.length_append, List.flatMap_append]; simpa using h
theorem TOwn.app {w : World} {B : Nat} {v : Value} {xs ys : List FileH} {n m : Nat} (hn : n = xs.length) (hm : m = ys.length) (h : w.ownsRow B 40 3 v (n + m) (xs.flatMap encF ++ ys.flatMap encF)) : TOwn w B v (xs ++ ys) := by
  subst hn; subst hm
  unfold TOwn
  rw [List.length_append, List.flatMap_append]; exact h
theorem TOwn.frow {w : World} {B : Nat} {v : Value} {hs : List FileH} (h : TOwn w B v hs) (hh : Held w hs) : FRow w v (hs.map (·.1)) := by
  refine ⟨hs, rfl, ?_, hh⟩
  have := own_row h
  simpa using this
theorem srow_one {w : World} {v : Value} {xs : List ByteArray} (h : SRow w v xs) : v.oneCell' = true := by
  obtain ⟨a, cap, rfl, _⟩ := h.form
  rfl
theorem encF_one {w : World} {hs : List FileH} (h : Held w hs) : ∀ u ∈ hs.flatMap encF, u.oneCell' = true := by
  intro u hu
  obtain ⟨x, hx, he⟩ := List.mem_flatMap.1 hu
  have := h x hx
  simp only [encF, List.mem_cons, List.not_mem_nil, or_false] at he
  rcases he with rfl | rfl | rfl
  · rfl
  · exact srow_one this.1
  · exact srow_one this.2
/-- what lies at the places of files that are held -/
theorem held_form {w : World} {v : Value} {hs : List FileH} (h : Row w v hs.length 3 (hs.flatMap encF)) (hh : Held w hs) : ∃ a cap, v = .slice a hs.length cap ∧ hs.length ≤ cap ∧ cap ≤ maxLen ∧
    (hs.length = 0 ∨ ∃ b off, a = some ⟨b, off, none⟩ ∧ b < w.heap.size ∧ ∀ i x, hs[i]? = some x → FAt w b (off + i * 3) x.1 x.2.1 x.2.2) := by
  obtain ⟨a, cap, e1, e2, e3, e4, e5⟩ := h.form
  refine ⟨a, cap, e1, e2, e3, e5.imp id ?_⟩
  rintro ⟨b, off, rfl, hb, hc⟩
  refine ⟨b, off, rfl, hb, fun i x hx => ?_⟩
  have hm := hh x (List.mem_of_getElem? hx)
  exact ⟨Row.elem (j := 0) encF_len hc hx rfl, Row.elem (j := 1) encF_len hc hx rfl, Row.elem (j := 2) encF_len hc hx rfl, hm.1, hm.2⟩
def TreeRes (w : World) (t : List FileM) (e : Ending) (w' : World) : Prop := ∃ v, e = .returned v ∧ FRow w' v t ∧ Below w.heap.size w w'
def SetRel (w : World) (hs : List FileH) (v iv : Value) (wr : World) : Prop := ∃ i : Nat, i ≤ hs.length ∧ iv = .int .i64 i ∧ Hid (TOwn wr w.heap.size v (hs.take i)) ∧ Below w.heap.size w wr

end Go.Proofs.YtjbihmglpfdmnaaGreatDoor
