/- Slices that are read, rows that a call owns, and the laws of append and make in those words. -/
import Derived.Test.YtfciedmmgddgpaaGreatDoorZMap
import Derived.Test.YtfciedmmgddgpaaGreatDoorZLex
namespace Go.Proofs.YtfciedmmgddgpaaGreatDoor
open Go Go.RowKit

/-- the slice v has n elements of sz cells each; the cells hold cs -/
def Row (w : World) (v : Value) (n sz : Nat) (cs : List Value) : Prop :=
  cs.length = n * sz ∧ ∃ a cap, v = .slice a n cap ∧ n ≤ cap ∧ cap ≤ maxLen ∧ (a = none → cap = 0) ∧
    (n ≠ 0 → ∃ b off, a = some ⟨b, off, none⟩ ∧ b < w.heap.size ∧ ∀ j u, cs[j]? = some u → w.cell? ⟨b, off + j, none⟩ = some u)

theorem row_nil (w : World) (sz : Nat) : Row w (.slice none 0 0) 0 sz [] := ⟨by simp, none, 0, rfl, Nat.le_refl _, Nat.zero_le _, fun _ => rfl, fun h => absurd rfl h⟩
theorem Row.keep {w w' : World} {v : Value} {n sz : Nat} {cs : List Value} (h : Row w v n sz cs) (hs : w.heap.size ≤ w'.heap.size) (hb : ∀ b, v.ownBlock = some b → b < w.heap.size → w'.heap[b]? = w.heap[b]?) : Row w' v n sz cs := by
  obtain ⟨h1, a, cap, rfl, h2, h3, h4, h5⟩ := h
  refine ⟨h1, a, cap, rfl, h2, h3, h4, fun hn => ?_⟩
  obtain ⟨b, off, rfl, hlt, hc⟩ := h5 hn
  refine ⟨b, off, rfl, Nat.lt_of_lt_of_le hlt hs, fun j u hu => ?_⟩
  rw [World.cell?_of_block (w := w) (hb b rfl hlt)]
  exact hc j u hu
theorem Row.over {w w' : World} {v : Value} {n sz : Nat} {cs : List Value} (h : Row w v n sz cs) (hb : Below w.heap.size w w') : Row w' v n sz cs := h.keep hb.size fun b _ hlt => hb.block b hlt
theorem Row.below {B : Nat} {w0 w : World} {v : Value} {n sz : Nat} {cs : List Value} (h : Row w0 v n sz cs) (hB : w0.heap.size ≤ B) (hb : Below B w0 w) : Row w v n sz cs := h.over (hb.mono hB)
theorem Row.drew {w : World} {v : Value} {n sz : Nat} {cs : List Value} (h : Row w v n sz cs) : Row w.drew v n sz cs := h
theorem own_row {w : World} {base : Nat} {e : TypeId} {sz : Nat} {v : Value} {n : Nat} {cs : List Value} (h : w.ownsRow base e sz v n cs) : Row w v n sz cs := by
  obtain ⟨h1, h2⟩ := h
  rcases h2 with ⟨rfl, rfl⟩ | ⟨g, cap, cur, rfl, hb, hg, hn, hm, hs, ht⟩
  · exact ⟨h1, none, 0, rfl, Nat.le_refl _, Nat.zero_le _, fun _ => rfl, fun h => absurd rfl h⟩
  · refine ⟨h1, _, cap, rfl, hn, hm, (fun h => by cases h), fun _ => ⟨g, 0, rfl, (Array.getElem?_eq_some_iff.1 hg).1, fun j u hu => ?_⟩⟩
    have := World.ownsRow.cells (w := w) (base := base) (e := e) (size := sz) (v := .slice (some ⟨g, 0, none⟩) n cap) (n := n) (xs := cs) ⟨h1, .inr ⟨g, cap, cur, rfl, hb, hg, hn, hm, hs, ht⟩⟩ (g := g) rfl j u hu
    rw [Addr.add_lit] at this
    exact this

/-- what a slice's type says -/
structure SlT (P : Program) (t e : TypeId) (size bytes : Nat) : Prop where
  out : ∃ i z, P.underlying t = some (.slice e) ∧ P.info? e = some i ∧ i.zero = some z ∧ i.size = size ∧ i.bytes = bytes ∧ z.cells.size = size ∧ 0 < size
theorem slT_of {P : Program} {t e : TypeId} {size bytes : Nat} (h1 : P.underlying t = some (.slice e))
    (h2 : ((P.info? e).bind fun i => i.zero.map fun z => (i.size, i.bytes, z.cells.size)) = some (size, bytes, size)) (h3 : 0 < size) : SlT P t e size bytes := by
  cases hi : P.info? e with
  | none => simp [hi] at h2
  | some i =>
    cases hz : i.zero with
    | none => simp [hi, hz] at h2
    | some z =>
      simp [hi, hz] at h2
      exact ⟨i, z, h1, hi, hz, h2.1, h2.2.1, h2.2.2, h3⟩

/-- .. whose elements are one cell, z if nothing was stored -/
structure SlZ (P : Program) (t e : TypeId) (z : Value) (bytes : Nat) : Prop where
  out : ∃ i, P.underlying t = some (.slice e) ∧ P.info? e = some i ∧ i.zero = some z ∧ i.size = 1 ∧ i.bytes = bytes ∧ z.cells = #[z]
theorem slZ_of {P : Program} {t e : TypeId} {z : Value} {bytes : Nat} (h1 : P.underlying t = some (.slice e))
    (h2 : (P.info? e).map (fun i => (i.zero, i.size, i.bytes)) = some (some z, 1, bytes)) (h3 : z.cells = #[z]) : SlZ P t e z bytes := by
  cases hi : P.info? e with
  | none => simp [hi] at h2
  | some i => simp [hi] at h2; exact ⟨i, h1, hi, h2.1, h2.2.1, h2.2.2, h3⟩

section
variable {P : Program} {t e : TypeId} {size bytes : Nat} {w : World} {ops : Array Oper} {rest : List Oper} {o : Oper} {a : Act} {Q : Exit → Act → World → Prop}

theorem wpList_append_row (T : SlT P t e size bytes) (hgd : o.guard = none) (s x : Operand)
    (ho : o.op = .call { callee := .builtin .append, args := #[s, x], argTypes := #[t, t] })
    (base : Nat) (v : Value) (n : Nat) (xs : List Value) (hown : w.ownsRow base e size v n xs) (hs : a.eval s = v)
    (vx : Value) (m : Nat) (news : List Value) (hrow : Row w vx m size news) (hx : a.eval x = vx) (h1 : ∀ u ∈ news, u.oneCell' = true)
    (h63 : n + m ≤ maxLen) (hbytes : (n + m) * bytes ≤ 140737488355328) (hbase : base ≤ w.heap.size)
    (h : ∀ v' w', w'.ownsRow base e size v' (n + m) (xs ++ news) → w.grownBy w' v.ownBlock → wpList P ops Q rest (a.put o.dst v') w') : wpList P ops Q (o :: rest) a w := by
  obtain ⟨i, z, ht, hi, hz, hsize, hby, hzs, hsz⟩ := T.out
  obtain ⟨hl, ad, cap, rfl, hmc, _, hnil, hc⟩ := hrow
  cases ad with
  | none =>
    have h0 := hnil rfl
    subst h0
    have hm : m = 0 := by omega
    subst hm
    have hn0 : news = [] := List.eq_nil_of_length_eq_zero (by simpa using hl)
    subst hn0
    refine wpList_plain hgd fun K hK => ?_
    have hr := run_append_owned_none (P := P) w base t o.type e i size ht hi v n xs hown
    unfold Oper.wp execOp
    simp only [ho, resolve, invoke, builtin, Sem.run_bind, Sem.run_pure, Result.andThen_ok, List.map_toArray, List.map_cons, List.map_nil, hs, hx, hr]
    exact hK _ _ (h v w (by simpa using hown) ⟨rfl, rfl, rfl, Nat.le_refl _, fun _ _ _ => rfl⟩)
  | some ad =>
    refine wpList_append_own w hgd s x t ho base e i z size bytes ht hi hz hsize hby hzs hsz v n xs hs hown ad m cap news hx hl ?_ h1 h63 hbytes hbase fun v' w' h2 h3 _ => h v' w' h2 h3
    intro j u hu
    have hm : m ≠ 0 := by
      intro hm
      rw [hm, Nat.zero_mul] at hl
      rw [List.eq_nil_of_length_eq_zero hl] at hu
      cases hu
    obtain ⟨b, off, hb, _, hcell⟩ := hc hm
    cases hb
    rw [Addr.add_lit]
    exact hcell j u hu

theorem wpList_make_zeros {z : Value} (T : SlZ P t e z bytes) (hgd : o.guard = none) (l c : Operand) (hop : o.op = Op.makeSlice t l c)
    (base : Nat) (n : Nat) (C : Int) (hl : a.eval l = .int .i64 C) (hc : a.eval c = .int .i64 C) (hC : C = (n : Int)) (b2 : bytes * n ≤ 281474976710656) (b3 : n ≤ maxLen) (b4 : base ≤ w.heap.size)
    (hK : ∀ w', w'.ownsRow base e 1 (.slice (some ⟨w.heap.size, 0, none⟩) n n) n (List.replicate n z) → w.grownBy w' none → wpList P ops Q rest (a.put o.dst (.slice (some ⟨w.heap.size, 0, none⟩) n n)) w') :
    wpList P ops Q (o :: rest) a w := by
  obtain ⟨i, h1, h2, h3, h4, h5, h6⟩ := T.out
  subst h5
  refine wpList_make_full w hgd l c t hop base e i z 1 h1 h2 h3 h4 .i64 .i64 C C n hl hc hC hC b2 b3 b4 fun w' ho hg => hK w' ?_ hg
  rw [h6, Nat.mul_one, toList_madeCells_one] at ho
  exact ho

/-- what came from a place behind the row's head, in words of the world ahead of the new block -/
theorem grown_alloc {w w' : World} {o : Obj} {row : Option Nat} (h : (w.alloc o).grownBy w' row) : w.grownBy w' row :=
  ⟨h.os, h.tape, h.output, Nat.le_trans (by simp) h.size, fun k hk hr => (h.block k (by simp; omega) hr).trans (Below.heap_alloc _ _ _ hk)⟩

/-- 'append(s, x, ..)': the new elements lie in a block of their own -/
theorem wpList_append_new (T : SlT P t e size bytes) (hgd : o.guard = none) (s x : Operand)
    (ho : o.op = .call { callee := .builtin .append, args := #[s, x], argTypes := #[t, t] })
    (base : Nat) (cs : Array Value) (e2 : TypeId) (m : Nat) (v : Value) (n : Nat) (xs : List Value) (hown : w.ownsRow base e size v n xs) (hs : a.eval s = v)
    (hx : a.eval x = .slice (some ⟨w.heap.size, 0, none⟩) m m) (hcs : cs.size = m * size) (h1 : cs.toList.all (fun u => u.oneCell') = true)
    (hN : n + m ≤ 1099511627776) (hby : bytes ≤ 128) (hbase : base ≤ w.heap.size)
    (h : ∀ v' w', w'.ownsRow base e size v' (n + m) (xs ++ cs.toList) → w.grownBy w' v.ownBlock → wpList P ops Q rest (a.put o.dst v') w') : wpList P ops Q (o :: rest) a (w.alloc (.cells cs e2)) := by
  have hb : (n + m) * bytes ≤ 1099511627776 * 128 := Nat.mul_le_mul hN hby
  have hN' : n + m ≤ maxLen := by unfold maxLen; omega
  refine wpList_append_row T hgd s x ho base v n xs (hown.alloc _) hs _ m cs.toList (own_row (World.ownsRow_lit w cs m (Nat.zero_le _) (by omega) hcs)) hx ?_ hN' (by omega) (by simp; omega) fun v' w' h2 h3 => h v' w' h2 (grown_alloc h3)
  intro u hu
  exact List.all_eq_true.1 h1 u hu
/-- but for draws the same world -/
def Drawn (w w' : World) : Prop := ∃ n, w' = { w with drawn := n }
theorem drawn_refl (w : World) : Drawn w w := ⟨w.drawn, rfl⟩
theorem drawn_drew (w : World) : Drawn w w.drew := ⟨w.drawn + 1, rfl⟩
theorem drawn_drewN (w : World) (n : Nat) : Drawn w (w.drewN n) := ⟨w.drawn + n, rfl⟩
theorem drawn_alloc_drewN (w : World) (o : Obj) (n : Nat) : Drawn (w.alloc o) ((w.drewN n).alloc o) := ⟨w.drawn + n, rfl⟩
theorem drawn_alloc_drew (w : World) (o : Obj) : Drawn (w.alloc o) (w.drew.alloc o) := ⟨w.drawn + 1, rfl⟩
theorem Drawn.drew {w w' : World} (h : Drawn w w') : Drawn w w'.drew := by obtain ⟨n, rfl⟩ := h; exact ⟨n + 1, rfl⟩
theorem Drawn.drewN {w w' : World} (h : Drawn w w') (m : Nat) : Drawn w (w'.drewN m) := by obtain ⟨n, rfl⟩ := h; exact ⟨n + m, rfl⟩
theorem Drawn.below {w w' : World} (h : Drawn w w') {B : Nat} {w0 : World} (hb : Below B w0 w) : Below B w0 w' := by obtain ⟨n, rfl⟩ := h; exact ⟨hb.os, hb.tape, hb.output, hb.size, hb.block⟩
theorem Drawn.owns {w w' : World} (h : Drawn w w') {B : Nat} {e : TypeId} {sz : Nat} {v : Value} {n : Nat} {cs : List Value} (ho : w.ownsRow B e sz v n cs) : w'.ownsRow B e sz v n cs := by obtain ⟨n, rfl⟩ := h; exact ho
theorem Drawn.row {w w' : World} (h : Drawn w w') {v : Value} {n sz : Nat} {cs : List Value} (ho : Row w v n sz cs) : Row w' v n sz cs := by obtain ⟨n, rfl⟩ := h; exact ho
theorem wpList_append_newD (T : SlT P t e size bytes) (hgd : o.guard = none) (s x : Operand)
    (ho : o.op = .call { callee := .builtin .append, args := #[s, x], argTypes := #[t, t] })
    (base : Nat) (cs : Array Value) (e2 : TypeId) {wx : World} (hd : Drawn (w.alloc (.cells cs e2)) wx) (m : Nat) (v : Value) (n : Nat) (xs : List Value) (hown : w.ownsRow base e size v n xs) (hs : a.eval s = v)
    (hx : a.eval x = .slice (some ⟨w.heap.size, 0, none⟩) m m) (hcs : cs.size = m * size) (h1 : cs.toList.all (fun u => u.oneCell') = true)
    (hN : n + m ≤ 1099511627776) (hby : bytes ≤ 128) (hbase : base ≤ w.heap.size)
    (h : ∀ v' w', w'.ownsRow base e size v' (n + m) (xs ++ cs.toList) → w.grownBy w' v.ownBlock → wpList P ops Q rest (a.put o.dst v') w') : wpList P ops Q (o :: rest) a wx := by
  have hb : (n + m) * bytes ≤ 1099511627776 * 128 := Nat.mul_le_mul hN hby
  have hN' : n + m ≤ maxLen := by unfold maxLen; omega
  have hsz : wx.heap.size = w.heap.size + 1 := by obtain ⟨n, rfl⟩ := hd; simp
  refine wpList_append_row T hgd s x ho base v n xs (hd.owns (hown.alloc _)) hs _ m cs.toList (hd.row (own_row (World.ownsRow_lit w cs m (Nat.zero_le _) (by omega) hcs))) hx ?_ hN' (by omega) (by omega) fun v' w' h2 h3 => h v' w' h2 (grown_alloc (o := .cells cs e2) ?_)
  · intro u hu
    exact List.all_eq_true.1 h1 u hu
  · obtain ⟨n, rfl⟩ := hd
    exact ⟨h3.os, h3.tape, h3.output, h3.size, h3.block⟩
/-- 'append(s, t...)': the new elements lie somewhere -/
theorem wpList_append_old (T : SlT P t e size bytes) (hgd : o.guard = none) (s x : Operand)
    (ho : o.op = .call { callee := .builtin .append, args := #[s, x], argTypes := #[t, t] })
    (base : Nat) (v : Value) (n : Nat) (xs : List Value) (hown : w.ownsRow base e size v n xs) (hs : a.eval s = v)
    (vx : Value) (m : Nat) (news : List Value) (hrow : Row w vx m size news) (hx : a.eval x = vx) (h1 : ∀ u ∈ news, u.oneCell' = true)
    (hN : n + m ≤ 1099511627776) (hby : bytes ≤ 128) (hbase : base ≤ w.heap.size)
    (h : ∀ v' w', w'.ownsRow base e size v' (n + m) (xs ++ news) → w.grownBy w' v.ownBlock → wpList P ops Q rest (a.put o.dst v') w') : wpList P ops Q (o :: rest) a w := by
  have hb : (n + m) * bytes ≤ 1099511627776 * 128 := Nat.mul_le_mul hN hby
  exact wpList_append_row T hgd s x ho base v n xs hown hs vx m news hrow hx h1 (by unfold maxLen; omega) (by omega) hbase h
end
theorem own_over {w w' : World} {B : Nat} {e : TypeId} {sz : Nat} {v : Value} {n : Nat} {cs : List Value} (h : w.ownsRow B e sz v n cs) (hb : Below w.heap.size w w') : w'.ownsRow B e sz v n cs :=
  h.kept (row := none) ⟨hb.os, hb.tape, hb.output, hb.size, fun k hk _ => hb.block k hk⟩ (by cases h : v.ownBlock <;> simp)
theorem below_over {B : Nat} {w0 w w' : World} (h : Below B w0 w) (hB : B ≤ w.heap.size) (h' : Below w.heap.size w w') : Below B w0 w' := h.trans (h'.mono hB)
theorem grown_over {w w' : World} {o : Obj} {g : Nat} (h : (w.alloc o).grownBy w' (some g)) (hg : g = w.heap.size) : Below w.heap.size w w' :=
  ((Below.refl w.heap.size w).alloc (Nat.le_refl _) o).grown h (by simp) fun k hk => by cases hk; omega
theorem grown_over' {w w' : World} {row : Option Nat} (h : w.grownBy w' row) (hg : ∀ g, row = some g → w.heap.size ≤ g) : Below w.heap.size w w' :=
  (Below.refl w.heap.size w).grown h (Nat.le_refl _) hg
theorem below_grown {B : Nat} {w0 w w' : World} {e : TypeId} {sz : Nat} {v : Value} {n : Nat} {cs : List Value} (hb : Below B w0 w) (hB : B ≤ w.heap.size) (hown : w.ownsRow B e sz v n cs) (hg : w.grownBy w' v.ownBlock) : Below B w0 w' :=
  hb.grown hg hB fun k hk => (hown.lt k hk).1
/-- what lies below the rows' base is as it was -/
theorem Row.grown {B : Nat} {w w' : World} {e : TypeId} {sz sz' : Nat} {v v2 : Value} {n n' : Nat} {cs cs' : List Value} (h : Row w v2 n' sz' cs') (hown : w.ownsRow B e sz v n cs) (hg : w.grownBy w' v.ownBlock)
    (hne : ∀ b, v2.ownBlock = some b → b < B ∨ some b ≠ v.ownBlock) : Row w' v2 n' sz' cs' :=
  h.keep hg.size fun b hb hlt => hg.block b hlt fun he => by
    rcases hne b hb with h1 | h1
    · have := (hown.lt b he.symm).1; omega
    · exact h1 he
end Go.Proofs.YtfciedmmgddgpaaGreatDoor
