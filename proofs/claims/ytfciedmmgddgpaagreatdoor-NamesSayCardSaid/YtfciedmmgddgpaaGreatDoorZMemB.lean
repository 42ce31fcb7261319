/- Rows that a call owns, written out: block, capacity and cells; what append, copy and clear do in place. Rows that a call owns, written out: append. -/
import Derived.Test.YtfciedmmgddgpaaGreatDoorZGen
import Derived.Maps.AppendAt
import Derived.Lib.AppendZeros
import Derived.Laws.CopyRow
import Derived.OwnWalk
namespace Go.Proofs.YtfciedmmgddgpaaGreatDoor
open Go Go.RowKit

/-- the cells of block g: n elements xs, places for cap -/
structure OwnAt (w : World) (B : Nat) (e : TypeId) (sz g n cap : Nat) (xs : List Value) : Prop where
  at' : ∃ junk : List Value, w.heap[g]? = some (.cells (xs ++ junk).toArray e (0, 0)) ∧ (xs ++ junk).length = cap * sz
  len : xs.length = n * sz
  base : B ≤ g
  nc : n ≤ cap
  cm : cap ≤ maxLen
theorem OwnAt.own {w : World} {B : Nat} {e : TypeId} {sz g n cap : Nat} {xs : List Value} (h : OwnAt w B e sz g n cap xs) : w.ownsRow B e sz (.slice (some ⟨g, 0, none⟩) n cap) n xs := by
  obtain ⟨junk, h1, h2⟩ := h.at'
  exact ⟨h.len, .inr ⟨g, cap, (xs ++ junk).toArray, rfl, h.base, h1, h.nc, h.cm, by simpa using h2, by rw [← h.len]; simp⟩⟩
theorem own_at {w : World} {B : Nat} {e : TypeId} {sz n : Nat} {v : Value} {xs : List Value} (h : w.ownsRow B e sz v n xs) (hn : n ≠ 0) : ∃ g cap, v = .slice (some ⟨g, 0, none⟩) n cap ∧ OwnAt w B e sz g n cap xs := by
  obtain ⟨h1, h2⟩ := h
  rcases h2 with ⟨_, h0⟩ | ⟨g, cap, cur, hv, hb, hg, hnc, hm, hs, ht⟩
  · exact absurd h0 hn
  · refine ⟨g, cap, hv, ⟨cur.toList.drop (n * sz), ?_, ?_⟩, h1, hb, hnc, hm⟩
    · rw [← ht, List.take_append_drop]; exact hg
    · rw [← ht, List.take_append_drop]; simpa using hs
theorem OwnAt.lt {w : World} {B : Nat} {e : TypeId} {sz g n cap : Nat} {xs : List Value} (h : OwnAt w B e sz g n cap xs) : g < w.heap.size := by
  obtain ⟨junk, h1, _⟩ := h.at'
  exact (Array.getElem?_eq_some_iff.1 h1).1
theorem OwnAt.row {w : World} {B : Nat} {e : TypeId} {sz g n cap : Nat} {xs : List Value} (h : OwnAt w B e sz g n cap xs) : Row w (.slice (some ⟨g, 0, none⟩) n cap) n sz xs := own_row h.own
theorem OwnAt.take {w : World} {B : Nat} {e : TypeId} {sz g n cap : Nat} {xs : List Value} (h : OwnAt w B e sz g n cap xs) {k : Nat} (hk : k ≤ n) : OwnAt w B e sz g k cap (xs.take (k * sz)) := by
  obtain ⟨junk, h1, h2⟩ := h.at'
  have := h.nc
  have hl := h.len
  have hm : k * sz ≤ n * sz := Nat.mul_le_mul_right _ hk
  refine ⟨⟨xs.drop (k * sz) ++ junk, ?_, ?_⟩, by simp; omega, h.base, by omega, h.cm⟩
  · rw [← List.append_assoc, List.take_append_drop]; exact h1
  · rw [← List.append_assoc, List.take_append_drop]; exact h2
/-- one place more -/
theorem OwnAt.more {w : World} {B : Nat} {e : TypeId} {sz g n cap : Nat} {xs : List Value} (h : OwnAt w B e sz g n cap xs) (hn : n + 1 ≤ cap) : ∃ j : List Value, j.length = sz ∧ OwnAt w B e sz g (n + 1) cap (xs ++ j) := by
  obtain ⟨junk, h1, h2⟩ := h.at'
  have hl := h.len
  have hm : (n + 1) * sz ≤ cap * sz := Nat.mul_le_mul_right _ hn
  rw [Nat.add_mul, Nat.one_mul] at hm
  rw [List.length_append] at h2
  have hj : (junk.take sz).length = sz := by rw [List.length_take]; omega
  refine ⟨junk.take sz, hj, ⟨junk.drop sz, ?_, ?_⟩, by rw [List.length_append, hj, hl, Nat.add_mul]; omega, h.base, hn, h.cm⟩
  · rw [List.append_assoc, List.take_append_drop]; exact h1
  · rw [List.append_assoc, List.take_append_drop, List.length_append]; exact h2
theorem OwnAt.cell {w : World} {B : Nat} {e : TypeId} {sz g n cap : Nat} {xs : List Value} (h : OwnAt w B e sz g n cap xs) {j : Nat} {u : Value} (hu : xs[j]? = some u) : w.cell? ⟨g, j, none⟩ = some u := by
  obtain ⟨junk, h1, _⟩ := h.at'
  have := Arr.cell (w := w) (g := g) (cs := xs ++ junk) ⟨e, h1⟩ (j := j) (u := u) (by rw [List.getElem?_append_left (List.getElem?_eq_some_iff.1 hu).1]; exact hu)
  exact this
theorem OwnAt.over {w w' : World} {B : Nat} {e : TypeId} {sz g n cap : Nat} {xs : List Value} (h : OwnAt w B e sz g n cap xs) (hb : Below w.heap.size w w') : OwnAt w' B e sz g n cap xs := by
  obtain ⟨junk, h1, h2⟩ := h.at'
  exact ⟨⟨junk, by rw [hb.block g h.lt]; exact h1, h2⟩, h.len, h.base, h.nc, h.cm⟩
theorem OwnAt.drew {w : World} {B : Nat} {e : TypeId} {sz g n cap : Nat} {xs : List Value} (h : OwnAt w B e sz g n cap xs) : OwnAt w.drew B e sz g n cap xs := ⟨h.at', h.len, h.base, h.nc, h.cm⟩

theorem grown_row {w : World} {g : Nat} (c : Array Value) : w.grownBy (w.setRow g c) (some g) := ⟨rfl, rfl, rfl, by simp, fun k _ hk => setRow_other w g k _ (fun e => hk (by simp [e]))⟩
theorem grown_trans {w w1 w2 : World} {row : Option Nat} (h : w.grownBy w1 row) (h' : w1.grownBy w2 row) : w.grownBy w2 row :=
  ⟨h'.os.trans h.os, h'.tape.trans h.tape, h'.output.trans h.output, Nat.le_trans h.size h'.size, fun k hk hr => (h'.block k (Nat.lt_of_lt_of_le hk h.size) hr).trans (h.block k hk hr)⟩
theorem grown_none {w w1 : World} {row : Option Nat} (h : w.grownBy w1 none) : w.grownBy w1 row := ⟨h.os, h.tape, h.output, h.size, fun k hk _ => h.block k hk (by simp)⟩
theorem grown_drew {w w1 : World} {row : Option Nat} (h : w.grownBy w1 row) : w.grownBy w1.drew row := ⟨h.os, h.tape, h.output, h.size, h.block⟩
theorem grown_of_below {w w1 : World} (h : Below w.heap.size w w1) {row : Option Nat} : w.grownBy w1 row := ⟨h.os, h.tape, h.output, h.size, fun k hk _ => h.block k hk⟩
/-- what is written behind a new block is new -/
theorem grown_new {w w1 w2 : World} {g : Nat} {row : Option Nat} (h : w.grownBy w1 none) (hg : w.heap.size ≤ g) (h' : w1.grownBy w2 (some g)) : w.grownBy w2 row :=
  ⟨h'.os.trans h.os, h'.tape.trans h.tape, h'.output.trans h.output, Nat.le_trans h.size h'.size, fun k hk _ => (h'.block k (Nat.lt_of_lt_of_le hk h.size) (by simp; omega)).trans (h.block k hk (by simp))⟩

/-- writing cells at a place of the row -/
theorem OwnAt.put {w : World} {B : Nat} {e : TypeId} {sz g n cap : Nat} {xs : List Value} (h : OwnAt w B e sz g n cap xs) {P : Program} {o : Nat} {new : List Value} (h1 : ∀ u ∈ new, u.oneCell' = true) (ho : o + new.length ≤ n * sz) :
    ∃ w', (storeCells ⟨g, o, none⟩ new).run P w = .ok () w' ∧ OwnAt w' B e sz g n cap (xs.take o ++ new ++ xs.drop (o + new.length)) ∧ w.grownBy w' (some g) ∧ w'.heap.size = w.heap.size := by
  obtain ⟨junk, hg, hl⟩ := h.at'
  have hlen := h.len
  have hs := run_storeCells_at (P := P) g o e new 0 (xs ++ junk).toArray w hg (by simp; omega) h1
  refine ⟨_, hs, ⟨⟨junk, ?_, ?_⟩, ?_, h.base, h.nc, h.cm⟩, grown_row _, by simp⟩
  · rw [setRow_heap w g _ _ e _ hg]
    simp only [Nat.add_zero, Option.some.injEq, Obj.cells.injEq, and_true]
    congr 1
    rw [List.take_append_of_le_length (by omega), List.drop_append_of_le_length (by omega), List.append_assoc, List.append_assoc, List.append_assoc]
  · simp only [List.length_append, List.length_take, List.length_drop] at *; omega
  · simp only [List.length_append, List.length_take, List.length_drop] at *; omega
/-- writing cells behind the elements -/
theorem OwnAt.putBehind {w : World} {B : Nat} {e : TypeId} {sz g n cap : Nat} {xs : List Value} (h : OwnAt w B e sz g n cap xs) {P : Program} {o : Nat} {new : List Value} (h1 : ∀ u ∈ new, u.oneCell' = true) (ho : n * sz ≤ o) (ho' : o + new.length ≤ cap * sz) :
    ∃ w', (storeCells ⟨g, o, none⟩ new).run P w = .ok () w' ∧ OwnAt w' B e sz g n cap xs ∧ w.grownBy w' (some g) ∧ w'.heap.size = w.heap.size := by
  obtain ⟨junk, hg, hl⟩ := h.at'
  have hlen := h.len
  have hs := run_storeCells_at (P := P) g o e new 0 (xs ++ junk).toArray w hg (by simp only [List.size_toArray]; omega) h1
  refine ⟨_, hs, ⟨⟨(junk.take (o - n * sz)) ++ new ++ (xs ++ junk).drop (o + new.length), ?_, ?_⟩, hlen, h.base, h.nc, h.cm⟩, grown_row _, by simp⟩
  · rw [setRow_heap w g _ _ e _ hg]
    simp only [Nat.add_zero, Option.some.injEq, Obj.cells.injEq, and_true]
    congr 1
    rw [List.take_append, List.take_of_length_le (by omega), hlen]
    simp only [List.append_assoc]
  · simp only [List.length_append, List.length_take, List.length_drop] at *; omega

section
variable {P : Program} {t e : TypeId} {size bytes : Nat} {w : World} {ops : Array Oper} {rest : List Oper} {o : Oper} {a : Act} {Q : Exit → Act → World → Prop}
/-- 'copy(d, s)': d is part of the row -/
theorem wpList_copy_at (T : SlT P t e size bytes) (hgd : o.guard = none) (d s : Operand) (tx : TypeId) (ho : o.op = .call { callee := .builtin .copy, args := #[d, s], argTypes := #[t, tx] })
    (B g n cap : Nat) (xs : List Value) (hown : OwnAt w B e size g n cap xs) (p c1 dl dc : Nat) (hc1 : c1 = p * size) (hd : a.eval d = .slice (some ⟨g, c1, none⟩) dl dc)
    (vs : Value) (m sl : Nat) (news : List Value) (hrow : Row w vs sl size news) (hs : a.eval s = vs) (hm : m = Nat.min sl dl) (h1 : ∀ u ∈ news.take (m * size), u.oneCell' = true) (hp : p + m ≤ n)
    (h : ∀ w', OwnAt w' B e size g n cap (xs.take (p * size) ++ news.take (m * size) ++ xs.drop ((p + m) * size)) → w.grownBy w' (some g) → w'.heap.size = w.heap.size → wpList P ops Q rest (a.put o.dst (goInt m)) w') : wpList P ops Q (o :: rest) a w := by
  subst hc1
  obtain ⟨i, z, ht, hi, hz, hsize, hby, hzs, hsz⟩ := T.out
  obtain ⟨hl, ad, scap, rfl, hmc, _, hnil, hc⟩ := hrow
  have hml : m ≤ sl := by rw [hm]; exact Nat.min_le_left _ _
  have hml' : m * size ≤ sl * size := Nat.mul_le_mul_right _ hml
  have hnl : (news.take (m * size)).length = m * size := by rw [List.length_take]; omega
  have hps : (p + m) * size ≤ n * size := Nat.mul_le_mul_right _ hp
  rw [Nat.add_mul] at hps
  obtain ⟨w', hst, h2, h3, h4⟩ := hown.put (P := P) (o := p * size) (new := news.take (m * size)) h1 (by rw [hnl]; omega)
  have hf : (Builtin.firstCells size m (.slice ad sl scap)).run P w = .ok (news.take (m * size)).toArray w := by
    cases ad with
    | none =>
      have h0 := hnil rfl
      have : news.take (m * size) = [] := List.eq_nil_of_length_eq_zero (by rw [hnl, show m = 0 by omega]; simp)
      rw [this]
      exact run_firstCells_none w _ _ _ _
    | some ad =>
      refine run_firstCells_some w size m ad sl scap _ hnl fun j u hu => ?_
      have hj := (List.getElem?_eq_some_iff.1 hu).1
      rw [hnl] at hj
      obtain ⟨b, off, hb, _, hcell⟩ := hc (by rintro rfl; simp at hml'; omega)
      cases hb
      rw [Addr.add_lit]
      exact hcell j u (by rw [List.getElem?_take, if_pos hj] at hu; exact hu)
  refine wpList_plain hgd fun K hK => ?_
  have hr : (Builtin.copy_ #[t, tx] o.type #[.slice (some ⟨g, p * size, none⟩) dl dc, .slice ad sl scap]).run P w = .ok (goInt m) w' := by
    have hmin : (if sl ≤ dl then sl else dl) = m := by rw [hm]; simp only [Nat.min_def]
    simp [Builtin.copy_, run_underlying ht, Builtin.lenOf, sizeOf, typeInfo, hi, hsize, Nat.min_def, hmin, hf, hst]
  unfold Oper.wp execOp
  simp only [ho, resolve, invoke, builtin, Sem.run_bind, Sem.run_pure, Result.andThen_ok, List.map_toArray, List.map_cons, List.map_nil, hd, hs, hr]
  rw [hnl, ← Nat.add_mul] at h2
  exact hK _ _ (h w' h2 h3 h4)

/-- 'clear(s)': s lies behind the row's elements -/
theorem wpList_clear_at (T : SlT P t e size bytes) (z : Value) (hz0 : ((P.info? e).bind (·.zero)) = some z) (hz1 : ∀ k, ∀ u ∈ (Builtin.zeroCells z.cells k).toList, u.oneCell' = true) (hz2 : ∀ k, (Builtin.zeroCells z.cells k).size = k * size)
    (hgd : o.guard = none) (s : Operand) (ho : o.op = .call { callee := .builtin .clear, args := #[s], argTypes := #[t] })
    (B g n cap : Nat) (xs : List Value) (hown : OwnAt w B e size g n cap xs) (p c1 k c : Nat) (hc1 : c1 = p * size) (hs : a.eval s = .slice (some ⟨g, c1, none⟩) k c) (hp : n ≤ p) (hk : p + k ≤ cap)
    (h : ∀ w', OwnAt w' B e size g n cap xs → w.grownBy w' (some g) → w'.heap.size = w.heap.size → wpList P ops Q rest (a.put o.dst (.tuple #[])) w') : wpList P ops Q (o :: rest) a w := by
  subst hc1
  obtain ⟨i, z', ht, hi, hz', hsize, hby, hzs, hsz⟩ := T.out
  have hpk : (p + k) * size ≤ cap * size := Nat.mul_le_mul_right _ hk
  have hnp : n * size ≤ p * size := Nat.mul_le_mul_right _ hp
  rw [Nat.add_mul] at hpk
  have hzz : i.zero = some z := by rw [hi] at hz0; simpa using hz0
  refine wpList_plain hgd fun K hK => ?_
  cases k with
  | zero =>
    have hr : (Builtin.clear_ #[t] o.type #[.slice (some ⟨g, p * size, none⟩) 0 c]).run P w = .ok (.tuple #[]) w := by simp [Builtin.clear_, run_underlying ht]
    unfold Oper.wp execOp
    simp only [ho, resolve, invoke, builtin, Sem.run_bind, Sem.run_pure, Result.andThen_ok, List.map_toArray, List.map_cons, List.map_nil, hs, hr]
    exact hK _ _ (h w hown ⟨rfl, rfl, rfl, Nat.le_refl _, fun _ _ _ => rfl⟩ rfl)
  | succ k =>
    obtain ⟨w', hst, h2, h3, h4⟩ := hown.putBehind (P := P) (o := p * size) (new := (Builtin.zeroCells z.cells (k + 1)).toList) (hz1 _) hnp (by rw [Array.length_toList, hz2]; exact hpk)
    have hr : (Builtin.clear_ #[t] o.type #[.slice (some ⟨g, p * size, none⟩) (k + 1) c]).run P w = .ok (.tuple #[]) w' := by
      simp [Builtin.clear_, run_underlying ht, zeroValue, typeInfo, hi, hzz, hst]
    unfold Oper.wp execOp
    simp only [ho, resolve, invoke, builtin, Sem.run_bind, Sem.run_pure, Result.andThen_ok, List.map_toArray, List.map_cons, List.map_nil, hs, hr]
    exact hK _ _ (h w' h2 h3 h4)
end
end Go.Proofs.YtfciedmmgddgpaaGreatDoor
namespace Go.Proofs.YtfciedmmgddgpaaGreatDoor
open Go Go.RowKit

section
variable {P : Program} {t e : TypeId} {size bytes : Nat} {w : World} {ops : Array Oper} {rest : List Oper} {o : Oper} {a : Act} {Q : Exit → Act → World → Prop}
/-- 'append(s, x...)' where there is room -/
theorem wpList_append_at (T : SlT P t e size bytes) (hgd : o.guard = none) (s x : Operand) (ho : o.op = .call { callee := .builtin .append, args := #[s, x], argTypes := #[t, t] })
    (B g n cap : Nat) (xs : List Value) (hown : OwnAt w B e size g n cap xs) (hs : a.eval s = .slice (some ⟨g, 0, none⟩) n cap)
    (vx : Value) (m : Nat) (news : List Value) (hrow : Row w vx m size news) (hx : a.eval x = vx) (h1 : ∀ u ∈ news, u.oneCell' = true) (hroom : n + m ≤ cap)
    (h : ∀ w', OwnAt w' B e size g (n + m) cap (xs ++ news) → w.grownBy w' (some g) → wpList P ops Q rest (a.put o.dst (.slice (some ⟨g, 0, none⟩) (n + m) cap)) w') : wpList P ops Q (o :: rest) a w := by
  obtain ⟨i, z, ht, hi, hz, hsize, hby, hzs, hsz⟩ := T.out
  obtain ⟨hl, ad, scap, rfl, hmc, _, hnil, hc⟩ := hrow
  refine wpList_append_fits_any w hgd s x t ho B e i size ht hi hsize g n cap xs hs hown.own ad m scap news hx hl (fun h0 => ⟨by have := hnil h0; omega, hnil h0⟩) (fun ad' had j u hu => ?_) h1 hroom fun w' h2 h3 => ?_
  · have hm : m ≠ 0 := by
      rintro rfl
      rw [Nat.zero_mul] at hl
      rw [List.eq_nil_of_length_eq_zero hl] at hu
      cases hu
    obtain ⟨b, off, hb, _, hcell⟩ := hc hm
    rw [hb] at had
    cases had
    rw [Addr.add_lit]
    exact hcell j u hu
  · by_cases h0 : n + m = 0
    · have hn : n = 0 := by omega
      have hm : m = 0 := by omega
      subst hn; subst hm
      have hxs : xs = [] := List.eq_nil_of_length_eq_zero (by rw [hown.len]; simp)
      have hns : news = [] := List.eq_nil_of_length_eq_zero (by simpa using hl)
      subst hxs; subst hns
      rcases h2.2 with ⟨h0, _⟩ | ⟨g', cap', cur, hv, hb, hg, hnc, hm, hcs, _⟩
      · cases h0
      · cases hv
        exact h w' ⟨⟨cur.toList, by simpa using hg, by simpa using hcs⟩, by simp, hb, hnc, hm⟩ h3
    · obtain ⟨g', cap', hv, hA⟩ := own_at h2 h0
      cases hv
      exact h w' hA h3

/-- 'append(s, make([]T, k)...)' where there is no room -/
theorem wpList_append_zeros (T : SlT P t e size bytes) (hgd : o.guard = none) (s x : Operand) (ti : TypeId) (hti : P.underlying ti = some (.int .i64)) (ho : o.op = .call { callee := .builtin .append, args := #[s, x], argTypes := #[t, ti] })
    (B g n cap : Nat) (xs : List Value) (hown : OwnAt w B e size g n cap xs) (hs : a.eval s = .slice (some ⟨g, 0, none⟩) n cap)
    (C : Int) (k : Nat) (hx : a.eval x = .int .i64 C) (hC : C = (k : Int)) (hk : 0 < k) (hroom : cap < n + k) (hN : n + k ≤ 1099511627776) (hby0 : bytes ≤ 128) (hB : B ≤ w.heap.size)
    (h : ∀ cap' zs w', zs.length = k * size → OwnAt w' B e size w.heap.size (n + k) cap' (xs ++ zs) → w.grownBy w' none → wpList P ops Q rest (a.put o.dst (.slice (some ⟨w.heap.size, 0, none⟩) (n + k) cap')) w') : wpList P ops Q (o :: rest) a w := by
  subst hC
  obtain ⟨i, z, ht, hi, hz, hsize, hby, hzs, hsz⟩ := T.out
  subst hby
  have hb : (n + k) * i.bytes ≤ 1099511627776 * 128 := Nat.mul_le_mul hN hby0
  have hkb : k * i.bytes ≤ (n + k) * i.bytes := Nat.mul_le_mul_right _ (by omega)
  have hnc := hown.nc
  have hgf := growslice_fits (need := n + k) (old := cap) (bytes := i.bytes) (by omega) (by omega)
  have hw : IntKind.i64.wrap (k : Int) = k := by rw [IntKind.wrap_i64]; omega
  have h48i : ¬ (281474976710656 < (k : Int) * (i.bytes : Int)) := by rw [← Int.natCast_mul]; omega
  have hneg : ¬ ((k : Int) < 0) := by omega
  have hk0 : ¬ k = 0 := by omega
  have hs0 : ¬ i.size = 0 := by omega
  have hks : ¬ k * i.size = 0 := Nat.mul_ne_zero hk0 hs0
  have h63' : ¬ (9223372036854775807 < ((n : Int) + (k : Int))) := by omega
  have h48' : ¬ (281474976710656 < Builtin.nextslicecap (n + k) cap * i.bytes) := by omega
  have hnr : ¬ (n + k ≤ cap) := by omega
  have hf := run_firstCells_some (P := P) w.drew i.size n ⟨g, 0, none⟩ n cap xs (by rw [hsize]; exact hown.len) (fun j u hu => by rw [Addr.add_lit, Nat.zero_add]; exact hown.cell hu)
  have hr : (Builtin.append_ #[t, ti] o.type #[.slice (some ⟨g, 0, none⟩) n cap, .int .i64 (k : Int)]).run P w = .ok (.slice (some ⟨w.heap.size, 0, none⟩) (n + k) (grownCap w (n + k) cap e))
      (w.drew.alloc (.cells (xs.toArray ++ (Builtin.zeroCells z.cells k ++ Builtin.zeroCells z.cells (grownCap w (n + k) cap e - (n + k)))) e)) := by
    simp [Builtin.append_, run_underlying ht, run_underlying hti, sizeOf, typeInfo, zeroValue, hi, hz, asInt, asIntOf, hw, hneg, hks, hk0, hs0, h63', h48', h48i, hnr, Question.forced, hf, newRow, grownCap]
  have hge := grownCap_ge w (n + k) cap e
  have hcm : grownCap w (n + k) cap e ≤ maxLen := grownCap_le_maxLen w (n + k) cap e (by unfold maxLen; omega)
  refine wpList_plain hgd fun K hK => ?_
  unfold Oper.wp execOp
  simp only [ho, resolve, invoke, builtin, Sem.run_bind, Sem.run_pure, Result.andThen_ok, List.map_toArray, List.map_cons, List.map_nil, hs, hx, hr]
  refine hK _ _ (h _ (Builtin.zeroCells z.cells k).toList _ (by rw [Array.length_toList, size_zeroCells, hzs]) ⟨⟨(Builtin.zeroCells z.cells (grownCap w (n + k) cap e - (n + k))).toList, ?_, ?_⟩, ?_, hB, hge, hcm⟩ ⟨rfl, rfl, rfl, by simp, fun j hj _ => Below.heap_alloc w.drew _ j hj⟩)
  · have := heap_alloc_new w.drew (.cells (xs.toArray ++ (Builtin.zeroCells z.cells k ++ Builtin.zeroCells z.cells (grownCap w (n + k) cap e - (n + k)))) e)
    rw [show w.heap.size = w.drew.heap.size from rfl, this]
    simp only [Option.some.injEq, Obj.cells.injEq, and_true]
    apply Array.ext'
    simp [List.append_assoc]
  · simp only [List.length_append, Array.length_toList, size_zeroCells, hzs, hown.len, ← Nat.add_mul]
    congr 1; omega
  · have e1 : (Builtin.zeroCells z.cells k).toList.length = k * size := by rw [Array.length_toList, size_zeroCells, hzs]
    rw [List.length_append, e1, hown.len, ← Nat.add_mul]

theorem run_append_tx {tx e' : TypeId} (ht : P.underlying t = some (.slice e)) (htx : P.underlying tx = some (.slice e')) (ty : TypeId) (b : Option Addr) (l c : Nat) (v : Value) : (Builtin.append_ #[t, tx] ty #[.slice b l c, v]).run P w = (Builtin.append_ #[t, t] ty #[.slice b l c, v]).run P w := by
  simp [Builtin.append_, run_underlying ht, run_underlying htx]
theorem own_slice {w : World} {base : Nat} {e : TypeId} {sz n : Nat} {v : Value} {xs : List Value} (h : w.ownsRow base e sz v n xs) : ∃ b l c, v = .slice b l c := by
  rcases h.2 with ⟨rfl, _⟩ | ⟨g, cap, cur, rfl, _⟩
  · exact ⟨_, _, _, rfl⟩
  · exact ⟨_, _, _, rfl⟩
theorem run_append_rowAt (T : SlT P t e size bytes) (ty : TypeId) (base : Nat) (v : Value) (n : Nat) (xs : List Value) (hown : w.ownsRow base e size v n xs) (vx : Value) (m : Nat) (news : List Value) (hrow : Row w vx m size news)
    (h1 : ∀ u ∈ news, u.oneCell' = true) (hN : n + m ≤ 1099511627776) (hby : bytes ≤ 128) (hbase : base ≤ w.heap.size) :
    ∃ v' w', (Builtin.append_ #[t, t] ty #[v, vx]).run P w = .ok v' w' ∧ w'.ownsRow base e size v' (n + m) (xs ++ news) ∧ w.grownBy w' v.ownBlock ∧ (v'.ownBlock = v.ownBlock ∨ v'.ownBlock = some w.heap.size) := by
  obtain ⟨i, z, ht, hi, hz, hsize, hb2, hzs, hsz⟩ := T.out
  have hb : (n + m) * bytes ≤ 1099511627776 * 128 := Nat.mul_le_mul hN hby
  obtain ⟨hl, ad, cap, rfl, hmc, _, hnil, hc⟩ := hrow
  cases ad with
  | none =>
    have h0 := hnil rfl
    subst h0
    have hm : m = 0 := by omega
    subst hm
    have hn0 : news = [] := List.eq_nil_of_length_eq_zero (by simpa using hl)
    subst hn0
    have hr := run_append_owned_none (P := P) w base t ty e i size ht hi v n xs hown
    exact ⟨v, w, hr, by simpa using hown, ⟨rfl, rfl, rfl, Nat.le_refl _, fun _ _ _ => rfl⟩, .inl rfl⟩
  | some ad =>
    have hcells : ∀ j u, news[j]? = some u → w.cell? (ad.add j) = some u := fun j u hu => by
      have hm : m ≠ 0 := by
        rintro rfl
        rw [Nat.zero_mul] at hl
        rw [List.eq_nil_of_length_eq_zero hl] at hu
        cases hu
      obtain ⟨b, off, hb', _, hcell⟩ := hc hm
      cases hb'
      rw [Addr.add_lit]
      exact hcell j u hu
    obtain ⟨v', w', hr, h2, h3, _, h5⟩ := run_append_own_at (P := P) w base t ty e i z size bytes ht hi hz hsize hb2 hzs hsz v n xs hown ad m cap news hl hcells h1 (by unfold maxLen; omega) (by omega) hbase
    exact ⟨v', w', hr, h2, h3, h5⟩
/-- 'append(s, x...)', and where the new slice lies -/
theorem wpList_append_rowAt (T : SlT P t e size bytes) {tx e' : TypeId} (htx : P.underlying tx = some (.slice e')) (hgd : o.guard = none) (s x : Operand)
    (ho : o.op = .call { callee := .builtin .append, args := #[s, x], argTypes := #[t, tx] })
    (base : Nat) (v : Value) (n : Nat) (xs : List Value) (hown : w.ownsRow base e size v n xs) (hs : a.eval s = v)
    (vx : Value) (m : Nat) (news : List Value) (hrow : Row w vx m size news) (hx : a.eval x = vx) (h1 : ∀ u ∈ news, u.oneCell' = true)
    (hN : n + m ≤ 1099511627776) (hby : bytes ≤ 128) (hbase : base ≤ w.heap.size)
    (h : ∀ v' w', w'.ownsRow base e size v' (n + m) (xs ++ news) → w.grownBy w' v.ownBlock → (v'.ownBlock = v.ownBlock ∨ v'.ownBlock = some w.heap.size) → wpList P ops Q rest (a.put o.dst v') w') : wpList P ops Q (o :: rest) a w := by
  obtain ⟨v', w', hr, h2, h3, h4⟩ := run_append_rowAt T o.type base v n xs hown vx m news hrow h1 hN hby hbase
  obtain ⟨i, z, ht, _⟩ := T.out
  refine wpList_plain hgd fun K hK => ?_
  obtain ⟨b0, l0, c0, hv0⟩ := own_slice hown
  have hr' : (Builtin.append_ #[t, tx] o.type #[v, vx]).run P w = .ok v' w' := by rw [← hr, hv0]; exact run_append_tx (w := w) ht htx o.type b0 l0 c0 vx
  unfold Oper.wp execOp
  simp only [ho, resolve, invoke, builtin, Sem.run_bind, Sem.run_pure, Result.andThen_ok, List.map_toArray, List.map_cons, List.map_nil, hs, hx, hr']
  exact hK _ _ (h v' w' h2 h3 h4)
end
theorem zero_one {z : Array Value} (hz : ∀ u ∈ z.toList, u.oneCell' = true) (k : Nat) : ∀ u ∈ (Builtin.zeroCells z k).toList, u.oneCell' = true := by
  intro u hu
  simp only [Builtin.zeroCells, Array.toList_map, Array.toList_range, List.mem_map, List.mem_range] at hu
  obtain ⟨i, hi, rfl⟩ := hu
  have hs : 0 < z.size := by
    rcases Nat.eq_zero_or_pos z.size with h | h
    · rw [h, Nat.mul_zero] at hi; omega
    · exact h
  have := Nat.mod_lt i hs
  rw [getElem!_pos z (i % z.size) this]
  exact hz _ (by simp)
end Go.Proofs.YtfciedmmgddgpaaGreatDoor
