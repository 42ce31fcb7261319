/- A variable that is a whole row of cells (an array, a struct): reading and writing it. General words for slices, strings and structs that lie in old memory, and for what a call makes itself. -/
import Derived.Test.YtfciedmmgddgpaaGreatDoorZRow
import Derived.Lib.SlBytesConst
import Derived.Stop.BytesEq
namespace Go.Proofs.YtfciedmmgddgpaaGreatDoor
open Go Go.RowKit

/-- block g holds just the cells cs, and they may be written -/
def Arr (w : World) (g : Nat) (cs : List Value) : Prop := ∃ e, w.heap[g]? = some (.cells cs.toArray e (0, 0))
theorem Arr.lt {w : World} {g : Nat} {cs : List Value} (h : Arr w g cs) : g < w.heap.size := by obtain ⟨e, h⟩ := h; exact (Array.getElem?_eq_some_iff.1 h).1
theorem Arr.cell {w : World} {g : Nat} {cs : List Value} (h : Arr w g cs) {j : Nat} {u : Value} (hu : cs[j]? = some u) : w.cell? ⟨g, j, none⟩ = some u := by
  obtain ⟨e, h⟩ := h
  rw [cell_of_row w g j cs.toArray e (0, 0) h]; simpa using hu
theorem Arr.free {w : World} {g : Nat} {cs : List Value} (h : Arr w g cs) (j : Nat) : w.frozen? ⟨g, j, none⟩ = false := by
  obtain ⟨e, h⟩ := h; exact frozen_of_row w g j cs.toArray e h
theorem Arr.set {w : World} {g : Nat} {cs : List Value} (h : Arr w g cs) (j : Nat) (u : Value) : Arr (w.setCell ⟨g, j, none⟩ u) g (cs.set j u) := by
  obtain ⟨e, h⟩ := h
  refine ⟨e, ?_⟩
  rw [heap_setCell_same w g j cs.toArray e u h]
  simp
theorem Arr.set_other {w : World} {g : Nat} {cs : List Value} (h : Arr w g cs) {a : Addr} (hn : g ≠ a.block) (u : Value) : Arr (w.setCell a u) g cs := by
  obtain ⟨e, h⟩ := h
  exact ⟨e, by rw [heap_setCell_other w a g u hn]; exact h⟩
theorem Arr.over {w w' : World} {g : Nat} {cs : List Value} (h : Arr w g cs) (hb : Below w.heap.size w w') : Arr w' g cs := by
  have hl := h.lt
  obtain ⟨e, h⟩ := h
  exact ⟨e, by rw [hb.block g hl]; exact h⟩
theorem Arr.below {B : Nat} {w w' : World} {g : Nat} {cs : List Value} (h : Arr w g cs) (hb : Below B w w') (hg : g < B) : Arr w' g cs := by
  obtain ⟨e, h⟩ := h
  exact ⟨e, by rw [hb.block g hg]; exact h⟩
theorem Arr.drawn {w w' : World} {g : Nat} {cs : List Value} (h : Arr w g cs) (hd : Drawn w w') : Arr w' g cs := by
  obtain ⟨n, rfl⟩ := hd; exact h
theorem Arr.drewN {w : World} {g : Nat} {cs : List Value} (h : Arr w g cs) (n : Nat) : Arr (w.drewN n) g cs := h
theorem Arr.drew {w : World} {g : Nat} {cs : List Value} (h : Arr w g cs) : Arr w.drew g cs := h
theorem Arr.grown {w w' : World} {g : Nat} {cs : List Value} {row : Option Nat} (h : Arr w g cs) (hg : w.grownBy w' row) (hn : some g ≠ row) : Arr w' g cs := by
  have hl := h.lt
  obtain ⟨e, h⟩ := h
  exact ⟨e, by rw [hg.block g hl hn]; exact h⟩
theorem Arr.row {w : World} {g : Nat} {cs : List Value} (h : Arr w g cs) (cs' : List Value) : Arr (w.setRow g cs'.toArray) g cs' := by
  obtain ⟨e, h⟩ := h
  exact ⟨e, setRow_heap w g _ _ e _ h⟩
theorem Arr.row_other {w : World} {g g' : Nat} {cs : List Value} (h : Arr w g cs) (hn : g ≠ g') (c : Array Value) : Arr (w.setRow g' c) g cs := by
  obtain ⟨e, h⟩ := h
  exact ⟨e, by rw [setRow_other w g' g c hn]; exact h⟩
theorem arr_new (w : World) (cs : Array Value) (e : TypeId) : Arr (w.alloc (.cells cs e)) w.heap.size cs.toList := ⟨e, by rw [heap_alloc_new]⟩
theorem arr_new2 (w : World) (o : Obj) (cs : Array Value) (e : TypeId) : Arr ((w.alloc o).alloc (.cells cs e)) (w.heap.size + 1) cs.toList := by
  have := arr_new (w.alloc o) cs e
  simpa using this
theorem arr_new3 (w : World) (o o' : Obj) (cs : Array Value) (e : TypeId) : Arr (((w.alloc o).alloc o').alloc (.cells cs e)) (w.heap.size + 1 + 1) cs.toList := by
  have := arr_new2 (w.alloc o) o' cs e
  simpa using this
theorem Arr.alloc {w : World} {g : Nat} {cs : List Value} (h : Arr w g cs) (o : Obj) : Arr (w.alloc o) g cs := h.over ((Below.refl _ _).alloc (Nat.le_refl _) o)
theorem below_setRow {B : Nat} {w0 w : World} (h : Below B w0 w) {g : Nat} (hg : B ≤ g) (c : Array Value) : Below B w0 (w.setRow g c) :=
  h.trans ⟨rfl, rfl, rfl, by simp, fun k hk => setRow_other w g k c (by omega)⟩

def isRowD : TypeDesc → Bool
  | .struct _ | .array _ _ => true
  | _ => false
/-- what an array's, a struct's type says -/
structure RowT (P : Program) (ty : TypeId) (size : Nat) : Prop where
  out : ∃ d i, P.underlying ty = some d ∧ isRowD d = true ∧ P.info? ty = some i ∧ i.size = size
theorem rowT_of {P : Program} {ty : TypeId} {size : Nat} {d : TypeDesc} (h1 : P.underlying ty = some d) (h2 : isRowD d = true)
    (h3 : (P.info? ty).map (·.size) = some size) : RowT P ty size := by
  cases hi : P.info? ty with
  | none => simp [hi] at h3
  | some i => simp [hi] at h3; exact ⟨d, i, h1, h2, hi, h3⟩

section
variable {P : Program} {ty : TypeId} {size : Nat} {w : World} {ops : Array Oper} {rest : List Oper} {o : Oper} {a : Act} {Q : Exit → Act → World → Prop}
theorem wpList_load_arr (T : RowT P ty size) (hgd : o.guard = none) (x : Operand) (ho : o.op = .load ty x) (g : Nat) (cs : List Value) (hA : Arr w g cs) (hx : a.eval x = .pointer (some ⟨g, 0, none⟩)) (hl : cs.length = size)
    (h : wpList P ops Q rest (a.put o.dst (.agg cs.toArray)) w) : wpList P ops Q (o :: rest) a w := by
  obtain ⟨d, i, h1, h2, h3, h4⟩ := T.out
  obtain ⟨e, hg⟩ := hA
  exact wpList_load_row hgd ty x ho g hx e cs.toArray (0, 0) d hg h1 (by cases d <;> simp_all [isRowD]) (by rw [h3]; simp [h4, hl]) h
theorem run_store_arr (T : RowT P ty size) {g : Nat} {cs new : List Value} (hA : Arr w g cs) (hl : cs.length = size) (hn : new.length = size) (h1 : new.all (fun u => u.oneCell') = true) :
    (storeVar ty ⟨g, 0, none⟩ (.agg new.toArray)).run P w = .ok () (w.setRow g new.toArray) := by
  obtain ⟨d, i, _, _, h3, h4⟩ := T.out
  obtain ⟨e, hg⟩ := hA
  have hs := run_storeCells_at (P := P) g 0 e new 0 cs.toArray w hg (by simp; omega) (fun v hv => List.all_eq_true.1 h1 v hv)
  have ht : (cs.toArray.toList.take (0 + 0) ++ new ++ cs.toArray.toList.drop (0 + 0 + new.length)).toArray = new.toArray := by
    simp; omega
  rw [ht] at hs
  have hc : (Value.agg new.toArray).cells = new.toArray := rfl
  simp [storeVar, sizeOf, typeInfo, h3, h4, hc, hn, hs]
theorem wpList_store_arr (T : RowT P ty size) (hgd : o.guard = none) (x y : Operand) (ho : o.op = .store ty x y) (g : Nat) (cs new : List Value) (hA : Arr w g cs) (hx : a.eval x = .pointer (some ⟨g, 0, none⟩))
    (hy : a.eval y = .agg new.toArray) (hl : cs.length = size) (hn : new.length = size) (h1 : new.all (fun u => u.oneCell') = true)
    (h : wpList P ops Q rest (a.put o.dst undef) (w.setRow g new.toArray)) : wpList P ops Q (o :: rest) a w := by
  refine wpList_plain hgd fun K hK => ?_
  have hr := run_store_arr T hA hl hn h1
  unfold Oper.wp execOp
  simp only [ho, hx, hy, Instr.storeAt, Instr.sureAddr, Sem.run_bind, Sem.run_pure, Result.andThen_ok, hr]
  exact hK _ _ h
theorem wpList_put_arr (T : RowT P ty size) (hgd : o.guard = none) (x y : Operand) (ho : o.op = .store ty x y) (g : Nat) (cs new : List Value) (hA : Arr w g cs) (hx : a.eval x = .pointer (some ⟨g, 0, none⟩))
    (hy : a.eval y = .agg new.toArray) (hl : cs.length = size) (hn : new.length = size) (h1 : new.all (fun u => u.oneCell') = true)
    (h : ∀ w', Arr w' g new → (∀ g' cs', g' ≠ g → Arr w g' cs' → Arr w' g' cs') → (∀ B w0, B ≤ g → Below B w0 w → Below B w0 w') → w'.heap.size = w.heap.size → wpList P ops Q rest (a.put o.dst undef) w') : wpList P ops Q (o :: rest) a w :=
  wpList_store_arr T hgd x y ho g cs new hA hx hy hl hn h1 (h _ (hA.row new) (fun g' cs' hg' h' => h'.row_other hg' _) (fun B w0 hB hb => below_setRow hb hB _) (by simp))
theorem results_arr (T : RowT P ty size) {fn : Func} {p : Tmp} (h : fn.results = #[.cell p ty]) {tmps : Array Value} {g : Nat} {cs : List Value} (hA : Arr w g cs) (hp : tmps.getD p undef = .pointer (some ⟨g, 0, none⟩)) (hl : cs.length = size) :
    (results fn tmps).run P w = .ok (.agg cs.toArray) w := by
  obtain ⟨d, i, h1, h2, h3, h4⟩ := T.out
  obtain ⟨e, hg⟩ := hA
  exact results_cell_row h tmps w g e cs.toArray (0, 0) d hp hg h1 (by cases d <;> simp_all [isRowD]) (by rw [h3]; simp [h4, hl])
end

/-- block g holds just the cells cs of type e -/
def ArrT (w : World) (g : Nat) (e : TypeId) (cs : List Value) : Prop := w.heap[g]? = some (.cells cs.toArray e (0, 0))
theorem ArrT.arr {w : World} {g : Nat} {e : TypeId} {cs : List Value} (h : ArrT w g e cs) : Arr w g cs := ⟨e, h⟩
theorem arrT_new (w : World) (cs : List Value) (e : TypeId) : ArrT (w.alloc (.cells cs.toArray e)) w.heap.size e cs := by unfold ArrT; rw [heap_alloc_new]
theorem ArrT.over {w w' : World} {g : Nat} {e : TypeId} {cs : List Value} (h : ArrT w g e cs) (hb : Below w.heap.size w w') : ArrT w' g e cs := by
  unfold ArrT at *
  rw [hb.block g (Array.getElem?_eq_some_iff.1 h).1]; exact h
/-- a row of another type is another block -/
theorem ArrT.ne {w : World} {g B : Nat} {e e' : TypeId} {cs xs : List Value} {sz n : Nat} {v : Value} (h : ArrT w g e cs) (ho : w.ownsRow B e' sz v n xs) (hn : e' ≠ e) : some g ≠ v.ownBlock := by
  rcases ho.2 with ⟨rfl, _⟩ | ⟨g', cap, cur, rfl, _, hg, _⟩
  · simp [Value.ownBlock]
  · intro he
    simp only [Value.ownBlock, Option.some.injEq] at he
    subst he
    unfold ArrT at h
    rw [h] at hg
    simp only [Option.some.injEq, Obj.cells.injEq] at hg
    exact hn hg.2.1.symm
theorem ArrT.grown {w w' : World} {g B : Nat} {e e' : TypeId} {cs xs : List Value} {sz n : Nat} {v : Value} (h : ArrT w g e cs) (ho : w.ownsRow B e' sz v n xs) (hn : e' ≠ e) (hg : w.grownBy w' v.ownBlock) : ArrT w' g e cs := by
  have hne := h.ne ho hn
  unfold ArrT at *
  rw [hg.block g (Array.getElem?_eq_some_iff.1 h).1 hne]; exact h
end Go.Proofs.YtfciedmmgddgpaaGreatDoor
namespace Go.Proofs.YtfciedmmgddgpaaGreatDoor
open Go Go.RowKit

theorem run_eqguard_string {P : Program} (op : BinOp) (t : TypeId) (x y : Operand) (a b : ByteArray) (w : World) : (eqGuard op t x y (.string a) (.string b)).run P w = .ok () w := by
  cases op <;> simp [eqGuard]
theorem below_weak {B : Nat} {w0 w w' : World} (h : Below B w0 w) (hB : B ≤ w.heap.size) (h' : Below w.heap.size w w') : Below B w0 w' := h.trans (h'.mono hB)

/-! ### rows whose elements have sz cells -/
theorem flat_len {α : Type} {f : α → List Value} {sz : Nat} (hf : ∀ x, (f x).length = sz) : ∀ xs : List α, (xs.flatMap f).length = xs.length * sz
  | [] => by simp
  | x :: xs => by simp only [List.flatMap_cons, List.length_append, hf, flat_len hf xs, List.length_cons, Nat.add_mul]; omega
theorem flat_get {α : Type} {f : α → List Value} {sz : Nat} (hf : ∀ x, (f x).length = sz) : ∀ (xs : List α) (i j : Nat) (x : α), xs[i]? = some x → j < sz → (xs.flatMap f)[i * sz + j]? = (f x)[j]?
  | [], i, j, x, h, _ => by simp at h
  | y :: xs, 0, j, x, h, hj => by
    simp only [List.getElem?_cons_zero, Option.some.injEq] at h
    subst h
    rw [List.flatMap_cons, List.getElem?_append_left (by rw [hf]; omega)]; simp
  | y :: xs, i + 1, j, x, h, hj => by
    rw [List.flatMap_cons, List.getElem?_append_right (by rw [hf, Nat.add_mul]; omega), hf, show (i + 1) * sz + j - sz = i * sz + j by rw [Nat.add_mul]; omega]
    exact flat_get hf xs i j x (by simpa using h) hj
theorem Row.form {w : World} {v : Value} {n sz : Nat} {cs : List Value} (h : Row w v n sz cs) : ∃ a cap, v = .slice a n cap ∧ n ≤ cap ∧ cap ≤ maxLen ∧ (a = none → cap = 0) ∧
    (n = 0 ∨ ∃ b off, a = some ⟨b, off, none⟩ ∧ b < w.heap.size ∧ ∀ j u, cs[j]? = some u → w.cell? ⟨b, off + j, none⟩ = some u) := by
  obtain ⟨_, a, cap, rfl, h2, h3, h4, h5⟩ := h
  refine ⟨a, cap, rfl, h2, h3, h4, ?_⟩
  by_cases hn : n = 0
  · exact .inl hn
  · exact .inr (h5 hn)
/-- element i of the row -/
theorem Row.elem {α : Type} {f : α → List Value} {sz : Nat} (hf : ∀ x, (f x).length = sz) {w : World} {xs : List α} {b off : Nat} (hc : ∀ j u, (xs.flatMap f)[j]? = some u → w.cell? ⟨b, off + j, none⟩ = some u)
    {i : Nat} {x : α} (hx : xs[i]? = some x) {j : Nat} {u : Value} (hu : (f x)[j]? = some u) : w.cell? ⟨b, off + i * sz + j, none⟩ = some u := by
  rw [Nat.add_assoc]
  refine hc _ _ ?_
  have hj : j < sz := by rw [← hf x]; exact (List.getElem?_eq_some_iff.1 hu).1
  rw [flat_get hf xs i j x hx hj]; exact hu

theorem take_succ_get {α : Type} {xs : List α} {i : Nat} {x : α} (h : xs[i]? = some x) : xs.take (i + 1) = xs.take i ++ [x] := by
  obtain ⟨hi, rfl⟩ := List.getElem?_eq_some_iff.1 h
  exact List.take_succ_eq_append_getElem hi
theorem get_of_lt {α : Type} {xs : List α} {i : Nat} (h : i < xs.length) : ∃ x, xs[i]? = some x := ⟨xs[i], List.getElem?_eq_getElem h⟩

/-! ### strings -/
def SRow (w : World) (v : Value) (xs : List ByteArray) : Prop := Row w v xs.length 1 (xs.map Value.string)
theorem SRow.over {w w' : World} {v : Value} {xs : List ByteArray} (h : SRow w v xs) (hb : Below w.heap.size w w') : SRow w' v xs := Row.over h hb
theorem srow_nil (w : World) : SRow w (.slice none 0 0) [] := row_nil w 1
theorem SRow.form {w : World} {v : Value} {xs : List ByteArray} (h : SRow w v xs) : ∃ a cap, v = .slice a xs.length cap ∧ xs.length ≤ cap ∧ cap ≤ maxLen ∧ (a = none → cap = 0) ∧
    (xs.length = 0 ∨ ∃ b off, a = some ⟨b, off, none⟩ ∧ b < w.heap.size ∧ ∀ j x, xs[j]? = some x → w.cell? ⟨b, off + j, none⟩ = some (.string x)) := by
  obtain ⟨a, cap, h1, h2, h3, h4, h5⟩ := Row.form h
  refine ⟨a, cap, h1, h2, h3, h4, h5.imp id ?_⟩
  rintro ⟨b, off, e1, e2, hc⟩
  exact ⟨b, off, e1, e2, fun j x hx => hc j _ (by simp [hx])⟩
theorem own_srow {w : World} {base : Nat} {e : TypeId} {v : Value} {n : Nat} {xs : List ByteArray} (h : w.ownsRow base e 1 v n (xs.map Value.string)) : SRow w v xs := by
  have hl : n = xs.length := by have := h.1; simp at this; omega
  subst hl
  exact own_row h

section
variable {P : Program} {t e : TypeId} {size bytes : Nat} {w : World} {ops : Array Oper} {rest : List Oper} {o : Oper} {a : Act} {Q : Exit → Act → World → Prop}
theorem wpList_make_cap (T : SlT P t e size bytes) (hgd : o.guard = none) (l c : Operand) (hop : o.op = Op.makeSlice t l c)
    (base : Nat) (n : Nat) (C : Int) (hl : a.eval l = .int .i64 0) (hc : a.eval c = .int .i64 C) (hC : C = (n : Int)) (b2 : bytes * n ≤ 281474976710656) (b3 : n ≤ maxLen) (b4 : base ≤ w.heap.size)
    (hK : ∀ w', w'.ownsRow base e size (.slice (some ⟨w.heap.size, 0, none⟩) 0 n) 0 [] → w.grownBy w' none → wpList P ops Q rest (a.put o.dst (.slice (some ⟨w.heap.size, 0, none⟩) 0 n)) w') :
    wpList P ops Q (o :: rest) a w := by
  obtain ⟨i, z, h1, h2, h3, h4, h5, _, _⟩ := T.out
  subst h5
  exact wpList_make_own w hgd l c t hop base e i z size h1 h2 h3 h4 .i64 .i64 C n hl hc hC b2 b3 b4 hK
theorem wpList_eql_string (hgd : o.guard = none) (t t' : TypeId) (x y : Operand) (ho : o.op = .binOp .eql t x y t') (s1 s2 : ByteArray) (hx : a.eval x = .string s1) (hy : a.eval y = .string s2) (b : Bool) (hb : (s1.toList == s2.toList) = b)
    (h : wpList P ops Q rest (a.put o.dst (.bool b)) w) : wpList P ops Q (o :: rest) a w := by
  subst hb
  refine wpList_plain hgd fun K hK => ?_
  unfold Oper.wp execOp
  simp only [ho, hx, hy, Sem.run_bind, binOp_string_eql]
  simp [eqGuard]
  exact hK _ _ h
end

theorem slice_row {w : World} {a : Option Addr} {n cap sz l h : Nat} {cs : List Value} (hr : Row w (.slice a n cap) n sz cs) (h1 : l ≤ h) (h2 : h ≤ n) : Row w (sliced a l h cap sz) (h - l) sz ((cs.drop (l * sz)).take ((h - l) * sz)) := by
  obtain ⟨hl, a', cap', hv, hc, hm, hn, hcell⟩ := hr
  obtain ⟨rfl, _, rfl⟩ := Value.slice.inj hv
  have hmul : (h - l) * sz + l * sz ≤ n * sz := by rw [← Nat.add_mul]; exact Nat.mul_le_mul_right _ (by omega)
  refine ⟨by simp; omega, _, _, rfl, by omega, by omega, fun h0 => ?_, fun h0 => ?_⟩
  · by_cases hcl : cap = l
    · omega
    · rw [if_neg hcl] at h0
      cases a with
      | none => have := hn rfl; omega
      | some ad => cases h0
  · obtain ⟨b, off, rfl, hb, hcl⟩ := hcell (by omega)
    refine ⟨b, off + l * sz, ?_, hb, fun j u hu => ?_⟩
    · by_cases hcl' : cap = l
      · omega
      · rw [if_neg hcl']
        by_cases h0' : l * sz = 0
        · simp [Addr.add, h0']
        · simp [Addr.add, h0']
    · have hj : j < (h - l) * sz := by
        have := (List.getElem?_eq_some_iff.1 hu).1; simp at this; omega
      have := hcl (l * sz + j) u (by rw [List.getElem?_take, if_pos hj, List.getElem?_drop] at hu; exact hu)
      rw [← Nat.add_assoc] at this; exact this
section
variable {P : Program} {t e : TypeId} {size bytes : Nat} {w : World} {ops : Array Oper} {rest : List Oper} {o : Oper} {a : Act} {Q : Exit → Act → World → Prop}
theorem run_size (T : SlT P t e size bytes) : P.underlying t = some (.slice (P.elem t)) ∧ (sizeOf (P.elem t)).run P w = .ok size w := by
  obtain ⟨i, z, h1, h2, _, h4, _⟩ := T.out
  have he : P.elem t = e := by simp [Program.elem, h1]
  rw [he]
  exact ⟨h1, by simp [sizeOf, typeInfo, h2, h4]⟩
theorem wpList_slice_to (T : SlT P t e size bytes) (hgd : o.guard = none) (x y : Operand) (ho : o.op = .slice t x none (some y) none) (v : Value) (n : Nat) (cs : List Value) (hrow : Row w v n size cs) (hx : a.eval x = v) (C : Int) (h : Nat) (hy : a.eval y = .int .i64 C) (hC : C = (h : Int)) (hh : h ≤ n)
    (hK : ∀ v', (∀ w', Row w' v n size cs → Row w' v' h size (cs.take (h * size))) → wpList P ops Q rest (a.put o.dst v') w) : wpList P ops Q (o :: rest) a w := by
  obtain ⟨hr0, ad, cap, hv, hr1⟩ := id hrow
  subst hC; subst hv
  have hs := run_size (w := w) T
  have := fun w' (hrow : Row w' (.slice ad n cap) n size cs) => slice_row (l := 0) (h := h) hrow (Nat.zero_le _) hh
  simp only [Nat.sub_zero, Nat.zero_mul, List.drop_zero] at this
  refine wpList_plain hgd fun K hK' => ?_
  unfold Oper.wp execOp
  simp only [ho, hx, hy, Option.map, Sem.run_bind, Result.andThen_ok, run_sliceAt_slice _ _ _ _ _ _ hs.1, run_slice_h w t ad n cap hs.1 .i64 h (by omega) (by have := hr1.1; omega), hs.2, Int.toNat_natCast]
  exact hK' _ _ (hK _ this)
theorem wpList_slice_from (T : SlT P t e size bytes) (hgd : o.guard = none) (x y : Operand) (ho : o.op = .slice t x (some y) none none) (v : Value) (n : Nat) (cs : List Value) (hrow : Row w v n size cs) (hx : a.eval x = v) (C : Int) (l : Nat) (hy : a.eval y = .int .i64 C) (hC : C = (l : Int)) (hl : l ≤ n)
    (hK : ∀ v', (∀ w', Row w' v n size cs → Row w' v' (n - l) size (cs.drop (l * size))) → wpList P ops Q rest (a.put o.dst v') w) : wpList P ops Q (o :: rest) a w := by
  obtain ⟨hr0, ad, cap, hv, hr1⟩ := id hrow
  subst hC; subst hv
  have hs := run_size (w := w) T
  have := fun w' (hrow : Row w' (.slice ad n cap) n size cs) => slice_row (l := l) (h := n) hrow hl (Nat.le_refl _)
  rw [List.take_of_length_le (by rw [List.length_drop, hr0, ← Nat.sub_mul]; exact Nat.le_refl _)] at this
  refine wpList_plain hgd fun K hK' => ?_
  unfold Oper.wp execOp
  simp only [ho, hx, hy, Option.map, Sem.run_bind, Result.andThen_ok, run_sliceAt_slice _ _ _ _ _ _ hs.1, run_slice_l w t ad n cap hs.1 .i64 l (by omega) (by omega), hs.2, Int.toNat_natCast]
  exact hK' _ _ (hK _ this)

theorem run_load_arr {ty : TypeId} (T : RowT P ty size) {g : Nat} {cs : List Value} (hA : Arr w g cs) (hl : cs.length = size) : (loadVar ty ⟨g, 0, none⟩).run P w = .ok (.agg cs.toArray) w := by
  obtain ⟨d, i, h1, h2, h3, h4⟩ := T.out
  obtain ⟨e, hg⟩ := hA
  exact run_loadVar_row w g e ty cs.toArray (0, 0) d hg h1 (by cases d <;> simp_all [isRowD]) (by rw [h3]; simp [h4, hl])
theorem lex_load_arr {C : World → Prop} {loud : Nat → Bool} {Q : Act → World → Prop} {ty : TypeId} (T : RowT P ty size) {k : Nat} {o : Oper} {l : List Oper} {a : Act} {w : World} (hl : loud k = false) (x : Operand) (ho : o.op = .load ty x)
    (hw : Region.wanted o (yielded ops a.tmps) = true) {g : Nat} {cs : List Value} (hx : a.eval x = .pointer (some ⟨g, 0, none⟩)) (hA : ∀ w', C w' → Arr w' g cs) (hlen : cs.length = size)
    (h : wpLex P ops C loud Q (k + 1) l (a.put o.dst (.agg cs.toArray)) w) : wpLex P ops C loud Q k (o :: l) a w := by
  unfold wpLex
  rw [if_pos hw, hl]
  refine ⟨.agg cs.toArray, fun w' hw' => ?_, h⟩
  unfold Oper.quietAt execOp
  simp only [ho, hx, Instr.loadAt, Instr.sureAddr, Sem.run_bind, Sem.run_pure, Result.andThen_ok, run_load_arr T (hA w' hw') hlen]
  exact ⟨rfl, rfl⟩
/-- a guarded operation that is not wanted -/
theorem lex_skip {C : World → Prop} {loud : Nat → Bool} {Q : Act → World → Prop} {k : Nat} {o : Oper} {l : List Oper} {a : Act} {w : World} {g : Nat × Bool} (hg : o.guard = some g) (hw : Region.wanted o (yielded ops a.tmps) = false)
    (h : wpLex P ops C loud Q (k + 1) l (a.put o.dst undef) w) : wpLex P ops C loud Q k (o :: l) a w := by
  unfold wpLex
  rw [if_neg (by rw [hw]; decide)]; exact h
theorem lex_move {C : World → Prop} {loud : Nat → Bool} {Q : Act → World → Prop} {k : Nat} {o : Oper} {l : List Oper} {a : Act} {w : World} (hl : loud k = false) (hg : o.guard = none) (x : Operand) (ho : o.op = .move x) (v : Value) (hv : a.eval x = v)
    (h : wpLex P ops C loud Q (k + 1) l (a.put o.dst v) w) : wpLex P ops C loud Q k (o :: l) a w := by
  subst hv
  unfold wpLex
  rw [if_pos (by unfold Region.wanted; rw [hg]), hl]
  refine ⟨_, fun w' _ => ?_, h⟩
  unfold Oper.quietAt execOp
  simp only [ho, Sem.run_pure]
  exact ⟨rfl, rfl⟩
end

section
variable {P : Program} {t e : TypeId} {size bytes : Nat} {w : World} {ops : Array Oper} {rest : List Oper} {o : Oper} {a : Act} {Q : Exit → Act → World → Prop}
/-- 'append(s, x)' in a world of which the size is told -/
theorem wpList_append_newH (T : SlT P t e size bytes) (hgd : o.guard = none) (s x : Operand)
    (ho : o.op = .call { callee := .builtin .append, args := #[s, x], argTypes := #[t, t] })
    (base : Nat) (cs : Array Value) (e2 : TypeId) (H : Nat) (hH : w.heap.size = H) (m : Nat) (v : Value) (n : Nat) (xs : List Value) (hown : w.ownsRow base e size v n xs) (hs : a.eval s = v)
    (hx : a.eval x = .slice (some ⟨H, 0, none⟩) m m) (hcs : cs.size = m * size) (h1 : cs.toList.all (fun u => u.oneCell') = true)
    (hN : n + m ≤ 1099511627776) (hby : bytes ≤ 128) (hbase : base ≤ H)
    (h : ∀ v' w', w'.ownsRow base e size v' (n + m) (xs ++ cs.toList) → w.grownBy w' v.ownBlock → wpList P ops Q rest (a.put o.dst v') w') : wpList P ops Q (o :: rest) a (w.alloc (.cells cs e2)) := by
  subst hH
  exact wpList_append_new T hgd s x ho base cs e2 m v n xs hown hs hx hcs h1 hN hby hbase h
end
end Go.Proofs.YtfciedmmgddgpaaGreatDoor
