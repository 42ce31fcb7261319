/- A variable that is a whole row of cells (an array, a struct): reading and writing it. -/
import Derived.Test.YtjbihmglpfdmnaaGreatDoorRow
namespace Go.Proofs.YtjbihmglpfdmnaaGreatDoor
open Go Go.RowKit

/-- block g holds just the cells cs, and they may be written -/
def Arr (w : World) (g : Nat) (cs : List Value) : Prop := ∃ e, w.heap[g]? = some (.cells cs.toArray e (0, 0))
theorem Arr.lt {w : World} {g : Nat} {cs : List Value} (h : Arr w g cs) : g < w.heap.size := by obtain ⟨e, h⟩ := h; exact (Array.getElem?_eq_some_iff.1 h).1
theorem Arr.cell {w : World} {g : Nat} {cs : List Value} (h : Arr w g cs) {j : Nat} {u : Value} (hu : cs[j]? = some u) : w.cell? ⟨g, j, none⟩ = some u := by
  obtain ⟨e, h⟩ := h
  rw [cell_of_row w g j cs.toArray e (0, 0) h]; simpa using hu
theorem Arr.free {w : World} {g : Nat} {cs : List Value} (h : Arr w g cs) (j : Nat) : w.frozen? ⟨g, j, none⟩ = false := by
  obtain ⟨e, h⟩ := h; exact frozen_of_row w g j cs.toArray e h
theorem Arr.set {w : World} {g : Nat} {cs : List Value} (h : Arr w g cs) (j : Nat) (u : Value) : Arr (w.setCell ⟨g, j, none⟩ u) g (cs.set j u) := by
  obtain ⟨e, h⟩ := h
  refine ⟨e, ?_⟩
  rw [heap_setCell_same w g j cs.toArray e u h]
  simp
theorem Arr.set_other {w : World} {g : Nat} {cs : List Value} (h : Arr w g cs) {a : Addr} (hn : g ≠ a.block) (u : Value) : Arr (w.setCell a u) g cs := by
  obtain ⟨e, h⟩ := h
  exact ⟨e, by rw [heap_setCell_other w a g u hn]; exact h⟩
theorem Arr.over {w w' : World} {g : Nat} {cs : List Value} (h : Arr w g cs) (hb : Below w.heap.size w w') : Arr w' g cs := by
  have hl := h.lt
  obtain ⟨e, h⟩ := h
  exact ⟨e, by rw [hb.block g hl]; exact h⟩
theorem Arr.below {B : Nat} {w w' : World} {g : Nat} {cs : List Value} (h : Arr w g cs) (hb : Below B w w') (hg : g < B) : Arr w' g cs := by
  obtain ⟨e, h⟩ := h
  exact ⟨e, by rw [hb.block g hg]; exact h⟩
theorem Arr.drawn {w w' : World} {g : Nat} {cs : List Value} (h : Arr w g cs) (hd : Drawn w w') : Arr w' g cs := by
  obtain ⟨n, rfl⟩ := hd; exact h
theorem Arr.drewN {w : World} {g : Nat} {cs : List Value} (h : Arr w g cs) (n : Nat) : Arr (w.drewN n) g cs := h
theorem Arr.drew {w : World} {g : Nat} {cs : List Value} (h : Arr w g cs) : Arr w.drew g cs := h
theorem Arr.grown {w w' : World} {g : Nat} {cs : List Value} {row : Option Nat} (h : Arr w g cs) (hg : w.grownBy w' row) (hn : some g ≠ row) : Arr w' g cs := by
  have hl := h.lt
  obtain ⟨e, h⟩ := h
  exact ⟨e, by rw [hg.block g hl hn]; exact h⟩
theorem Arr.row {w : World} {g : Nat} {cs : List Value} (h : Arr w g cs) (cs' : List Value) : Arr (w.setRow g cs'.toArray) g cs' := by
  obtain ⟨e, h⟩ := h
  exact ⟨e, setRow_heap w g _ _ e _ h⟩
theorem Arr.row_other {w : World} {g g' : Nat} {cs : List Value} (h : Arr w g cs) (hn : g ≠ g') (c : Array Value) : Arr (w.setRow g' c) g cs := by
  obtain ⟨e, h⟩ := h
  exact ⟨e, by rw [setRow_other w g' g c hn]; exact h⟩
theorem arr_new (w : World) (cs : Array Value) (e : TypeId) : Arr (w.alloc (.cells cs e)) w.heap.size cs.toList := ⟨e, by rw [heap_alloc_new]⟩
theorem arr_new2 (w : World) (o : Obj) (cs : Array Value) (e : TypeId) : Arr ((w.alloc o).alloc (.cells cs e)) (w.heap.size + 1) cs.toList := by
  have := arr_new (w.alloc o) cs e
  simpa using this
theorem arr_new3 (w : World) (o o' : Obj) (cs : Array Value) (e : TypeId) : Arr (((w.alloc o).alloc o').alloc (.cells cs e)) (w.heap.size + 1 + 1) cs.toList := by
  have := arr_new2 (w.alloc o) o' cs e
  simpa using this
theorem Arr.alloc {w : World} {g : Nat} {cs : List Value} (h : Arr w g cs) (o : Obj) : Arr (w.alloc o) g cs := h.over ((Below.refl _ _).alloc (Nat.le_refl _) o)
theorem below_setRow {B : Nat} {w0 w : World} (h : Below B w0 w) {g : Nat} (hg : B ≤ g) (c : Array Value) : Below B w0 (w.setRow g c) :=
  h.trans ⟨rfl, rfl, rfl, by simp, fun k hk => setRow_other w g k c (by omega)⟩

def isRowD : TypeDesc → Bool
  | .struct _ | .array _ _ => true
  | _ => false
/-- what an array's, a struct's type says -/
structure RowT (P : Program) (ty : TypeId) (size : Nat) : Prop where
  out : ∃ d i, P.underlying ty = some d ∧ isRowD d = true ∧ P.info? ty = some i ∧ i.size = size
theorem rowT_of {P : Program} {ty : TypeId} {size : Nat} {d : TypeDesc} (h1 : P.underlying ty = some d) (h2 : isRowD d = true)
    (h3 : (P.info? ty).map (·.size) = some size) : RowT P ty size := by
  cases hi : P.info? ty with
  | none => simp [hi] at h3
  | some i => simp [hi] at h3; exact ⟨d, i, h1, h2, hi, h3⟩

section
variable {P : Program} {ty : TypeId} {size : Nat} {w : World} {ops : Array Oper} {rest : List Oper} {o : Oper} {a : Act} {Q : Exit → Act → World → Prop}
theorem wpList_load_arr (T : RowT P ty size) (hgd : o.guard = none) (x : Operand) (ho : o.op = .load ty x) (g : Nat) (cs : List Value) (hA : Arr w g cs) (hx : a.eval x = .pointer (some ⟨g, 0, none⟩)) (hl : cs.length = size)
    (h : wpList P ops Q rest (a.put o.dst (.agg cs.toArray)) w) : wpList P ops Q (o :: rest) a w := by
  obtain ⟨d, i, h1, h2, h3, h4⟩ := T.out
  obtain ⟨e, hg⟩ := hA
  exact wpList_load_row hgd ty x ho g hx e cs.toArray (0, 0) d hg h1 (by cases d <;> simp_all [isRowD]) (by rw [h3]; simp [h4, hl]) h
theorem run_store_arr (T : RowT P ty size) {g : Nat} {cs new : List Value} (hA : Arr w g cs) (hl : cs.length = size) (hn : new.length = size) (h1 : new.all (fun u => u.oneCell') = true) :
    (storeVar ty ⟨g, 0, none⟩ (.agg new.toArray)).run P w = .ok () (w.setRow g new.toArray) := by
  obtain ⟨d, i, _, _, h3, h4⟩ := T.out
  obtain ⟨e, hg⟩ := hA
  have hs := run_storeCells_at (P := P) g 0 e new 0 cs.toArray w hg (by simp; omega) (fun v hv => List.all_eq_true.1 h1 v hv)
  have ht : (cs.toArray.toList.take (0 + 0) ++ new ++ cs.toArray.toList.drop (0 + 0 + new.length)).toArray = new.toArray := by
    simp; omega
  rw [ht] at hs
  have hc : (Value.agg new.toArray).cells = new.toArray := rfl
  simp [storeVar, sizeOf, typeInfo, h3, h4, hc, hn, hs]
theorem wpList_store_arr (T : RowT P ty size) (hgd : o.guard = none) (x y : Operand) (ho : o.op = .store ty x y) (g : Nat) (cs new : List Value) (hA : Arr w g cs) (hx : a.eval x = .pointer (some ⟨g, 0, none⟩))
    (hy : a.eval y = .agg new.toArray) (hl : cs.length = size) (hn : new.length = size) (h1 : new.all (fun u => u.oneCell') = true)
    (h : wpList P ops Q rest (a.put o.dst undef) (w.setRow g new.toArray)) : wpList P ops Q (o :: rest) a w := by
  refine wpList_plain hgd fun K hK => ?_
  have hr := run_store_arr T hA hl hn h1
  unfold Oper.wp execOp
  simp only [ho, hx, hy, Instr.storeAt, Instr.sureAddr, Sem.run_bind, Sem.run_pure, Result.andThen_ok, hr]
  exact hK _ _ h
theorem wpList_put_arr (T : RowT P ty size) (hgd : o.guard = none) (x y : Operand) (ho : o.op = .store ty x y) (g : Nat) (cs new : List Value) (hA : Arr w g cs) (hx : a.eval x = .pointer (some ⟨g, 0, none⟩))
    (hy : a.eval y = .agg new.toArray) (hl : cs.length = size) (hn : new.length = size) (h1 : new.all (fun u => u.oneCell') = true)
    (h : ∀ w', Arr w' g new → (∀ g' cs', g' ≠ g → Arr w g' cs' → Arr w' g' cs') → (∀ B w0, B ≤ g → Below B w0 w → Below B w0 w') → w'.heap.size = w.heap.size → wpList P ops Q rest (a.put o.dst undef) w') : wpList P ops Q (o :: rest) a w :=
  wpList_store_arr T hgd x y ho g cs new hA hx hy hl hn h1 (h _ (hA.row new) (fun g' cs' hg' h' => h'.row_other hg' _) (fun B w0 hB hb => below_setRow hb hB _) (by simp))
theorem results_arr (T : RowT P ty size) {fn : Func} {p : Tmp} (h : fn.results = #[.cell p ty]) {tmps : Array Value} {g : Nat} {cs : List Value} (hA : Arr w g cs) (hp : tmps.getD p undef = .pointer (some ⟨g, 0, none⟩)) (hl : cs.length = size) :
    (results fn tmps).run P w = .ok (.agg cs.toArray) w := by
  obtain ⟨d, i, h1, h2, h3, h4⟩ := T.out
  obtain ⟨e, hg⟩ := hA
  exact results_cell_row h tmps w g e cs.toArray (0, 0) d hp hg h1 (by cases d <;> simp_all [isRowD]) (by rw [h3]; simp [h4, hl])
end

/-- block g holds just the cells cs of type e -/
def ArrT (w : World) (g : Nat) (e : TypeId) (cs : List Value) : Prop := w.heap[g]? = some (.cells cs.toArray e (0, 0))
theorem ArrT.arr {w : World} {g : Nat} {e : TypeId} {cs : List Value} (h : ArrT w g e cs) : Arr w g cs := ⟨e, h⟩
theorem arrT_new (w : World) (cs : List Value) (e : TypeId) : ArrT (w.alloc (.cells cs.toArray e)) w.heap.size e cs := by unfold ArrT; rw [heap_alloc_new]
theorem ArrT.over {w w' : World} {g : Nat} {e : TypeId} {cs : List Value} (h : ArrT w g e cs) (hb : Below w.heap.size w w') : ArrT w' g e cs := by
  unfold ArrT at *
  rw [hb.block g (Array.getElem?_eq_some_iff.1 h).1]; exact h
/-- a row of another type is another block -/
theorem ArrT.ne {w : World} {g B : Nat} {e e' : TypeId} {cs xs : List Value} {sz n : Nat} {v : Value} (h : ArrT w g e cs) (ho : w.ownsRow B e' sz v n xs) (hn : e' ≠ e) : some g ≠ v.ownBlock := by
  rcases ho.2 with ⟨rfl, _⟩ | ⟨g', cap, cur, rfl, _, hg, _⟩
  · simp [Value.ownBlock]
  · intro he
    simp only [Value.ownBlock, Option.some.injEq] at he
    subst he
    unfold ArrT at h
    rw [h] at hg
    simp only [Option.some.injEq, Obj.cells.injEq] at hg
    exact hn hg.2.1.symm
theorem ArrT.grown {w w' : World} {g B : Nat} {e e' : TypeId} {cs xs : List Value} {sz n : Nat} {v : Value} (h : ArrT w g e cs) (ho : w.ownsRow B e' sz v n xs) (hn : e' ≠ e) (hg : w.grownBy w' v.ownBlock) : ArrT w' g e cs := by
  have hne := h.ne ho hn
  unfold ArrT at *
  rw [hg.block g (Array.getElem?_eq_some_iff.1 h).1 hne]; exact h
end Go.Proofs.YtjbihmglpfdmnaaGreatDoor
