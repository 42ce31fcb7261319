/- Rows that a call owns, written out: append. -/
import Derived.Test.YtflnkmmimoninaaGreatDoorZMem
import Derived.OwnWalk
namespace Go.Proofs.YtflnkmmimoninaaGreatDoor
open Go Go.RowKit

section
variable {P : Program} {t e : TypeId} {size bytes : Nat} {w : World} {ops : Array Oper} {rest : List Oper} {o : Oper} {a : Act} {Q : Exit → Act → World → Prop}
/-- 'append(s, x...)' where there is room -/
theorem wpList_append_at (T : SlT P t e size bytes) (hgd : o.guard = none) (s x : Operand) (ho : o.op = .call { callee := .builtin .append, args := #[s, x], argTypes := #[t, t] })
    (B g n cap : Nat) (xs : List Value) (hown : OwnAt w B e size g n cap xs) (hs : a.eval s = .slice (some ⟨g, 0, none⟩) n cap)
    (vx : Value) (m : Nat) (news : List Value) (hrow : Row w vx m size news) (hx : a.eval x = vx) (h1 : ∀ u ∈ news, u.oneCell' = true) (hroom : n + m ≤ cap)
    (h : ∀ w', OwnAt w' B e size g (n + m) cap (xs ++ news) → w.grownBy w' (some g) → wpList P ops Q rest (a.put o.dst (.slice (some ⟨g, 0, none⟩) (n + m) cap)) w') : wpList P ops Q (o :: rest) a w := by
  obtain ⟨i, z, ht, hi, hz, hsize, hby, hzs, hsz⟩ := T.out
  obtain ⟨hl, ad, scap, rfl, hmc, _, hnil, hc⟩ := hrow
  refine wpList_append_fits_any w hgd s x t ho B e i size ht hi hsize g n cap xs hs hown.own ad m scap news hx hl (fun h0 => ⟨by have := hnil h0; omega, hnil h0⟩) (fun ad' had j u hu => ?_) h1 hroom fun w' h2 h3 => ?_
  · have hm : m ≠ 0 := by
      rintro rfl
      rw [Nat.zero_mul] at hl
      rw [List.eq_nil_of_length_eq_zero hl] at hu
      cases hu
    obtain ⟨b, off, hb, _, hcell⟩ := hc hm
    rw [hb] at had
    cases had
    rw [Addr.add_lit]
    exact hcell j u hu
  · by_cases h0 : n + m = 0
    · have hn : n = 0 := by omega
      have hm : m = 0 := by omega
      subst hn; subst hm
      have hxs : xs = [] := List.eq_nil_of_length_eq_zero (by rw [hown.len]; simp)
      have hns : news = [] := List.eq_nil_of_length_eq_zero (by simpa using hl)
      subst hxs; subst hns
      rcases h2.2 with ⟨h0, _⟩ | ⟨g', cap', cur, hv, hb, hg, hnc, hm, hcs, _⟩
      · cases h0
      · cases hv
        exact h w' ⟨⟨cur.toList, by simpa using hg, by simpa using hcs⟩, by simp, hb, hnc, hm⟩ h3
    · obtain ⟨g', cap', hv, hA⟩ := own_at h2 h0
      cases hv
      exact h w' hA h3

/-- 'append(s, make([]T, k)...)' where there is no room -/
theorem wpList_append_zeros (T : SlT P t e size bytes) (hgd : o.guard = none) (s x : Operand) (ti : TypeId) (hti : P.underlying ti = some (.int .i64)) (ho : o.op = .call { callee := .builtin .append, args := #[s, x], argTypes := #[t, ti] })
    (B g n cap : Nat) (xs : List Value) (hown : OwnAt w B e size g n cap xs) (hs : a.eval s = .slice (some ⟨g, 0, none⟩) n cap)
    (C : Int) (k : Nat) (hx : a.eval x = .int .i64 C) (hC : C = (k : Int)) (hk : 0 < k) (hroom : cap < n + k) (hN : n + k ≤ 1099511627776) (hby0 : bytes ≤ 128) (hB : B ≤ w.heap.size)
    (h : ∀ cap' zs w', zs.length = k * size → OwnAt w' B e size w.heap.size (n + k) cap' (xs ++ zs) → w.grownBy w' none → wpList P ops Q rest (a.put o.dst (.slice (some ⟨w.heap.size, 0, none⟩) (n + k) cap')) w') : wpList P ops Q (o :: rest) a w := by
  subst hC
  obtain ⟨i, z, ht, hi, hz, hsize, hby, hzs, hsz⟩ := T.out
  subst hby
  have hb : (n + k) * i.bytes ≤ 1099511627776 * 128 := Nat.mul_le_mul hN hby0
  have hkb : k * i.bytes ≤ (n + k) * i.bytes := Nat.mul_le_mul_right _ (by omega)
  have hnc := hown.nc
  have hgf := growslice_fits (need := n + k) (old := cap) (bytes := i.bytes) (by omega) (by omega)
  have hw : IntKind.i64.wrap (k : Int) = k := by rw [IntKind.wrap_i64]; omega
  have h48i : ¬ (281474976710656 < (k : Int) * (i.bytes : Int)) := by rw [← Int.natCast_mul]; omega
  have hneg : ¬ ((k : Int) < 0) := by omega
  have hk0 : ¬ k = 0 := by omega
  have hs0 : ¬ i.size = 0 := by omega
  have hks : ¬ k * i.size = 0 := Nat.mul_ne_zero hk0 hs0
  have h63' : ¬ (9223372036854775807 < ((n : Int) + (k : Int))) := by omega
  have h48' : ¬ (281474976710656 < Builtin.nextslicecap (n + k) cap * i.bytes) := by omega
  have hnr : ¬ (n + k ≤ cap) := by omega
  have hf := run_firstCells_some (P := P) w.drew i.size n ⟨g, 0, none⟩ n cap xs (by rw [hsize]; exact hown.len) (fun j u hu => by rw [Addr.add_lit, Nat.zero_add]; exact hown.cell hu)
  have hr : (Builtin.append_ #[t, ti] o.type #[.slice (some ⟨g, 0, none⟩) n cap, .int .i64 (k : Int)]).run P w = .ok (.slice (some ⟨w.heap.size, 0, none⟩) (n + k) (grownCap w (n + k) cap e))
      (w.drew.alloc (.cells (xs.toArray ++ (Builtin.zeroCells z.cells k ++ Builtin.zeroCells z.cells (grownCap w (n + k) cap e - (n + k)))) e)) := by
    simp [Builtin.append_, run_underlying ht, run_underlying hti, sizeOf, typeInfo, zeroValue, hi, hz, asInt, asIntOf, hw, hneg, hks, hk0, hs0, h63', h48', h48i, hnr, Question.forced, hf, newRow, grownCap]
  have hge := grownCap_ge w (n + k) cap e
  have hcm : grownCap w (n + k) cap e ≤ maxLen := grownCap_le_maxLen w (n + k) cap e (by unfold maxLen; omega)
  refine wpList_plain hgd fun K hK => ?_
  unfold Oper.wp execOp
  simp only [ho, resolve, invoke, builtin, Sem.run_bind, Sem.run_pure, Result.andThen_ok, List.map_toArray, List.map_cons, List.map_nil, hs, hx, hr]
  refine hK _ _ (h _ (Builtin.zeroCells z.cells k).toList _ (by rw [Array.length_toList, size_zeroCells, hzs]) ⟨⟨(Builtin.zeroCells z.cells (grownCap w (n + k) cap e - (n + k))).toList, ?_, ?_⟩, ?_, hB, hge, hcm⟩ ⟨rfl, rfl, rfl, by simp, fun j hj _ => Below.heap_alloc w.drew _ j hj⟩)
  · have := heap_alloc_new w.drew (.cells (xs.toArray ++ (Builtin.zeroCells z.cells k ++ Builtin.zeroCells z.cells (grownCap w (n + k) cap e - (n + k)))) e)
    rw [show w.heap.size = w.drew.heap.size from rfl, this]
    simp only [Option.some.injEq, Obj.cells.injEq, and_true]
    apply Array.ext'
    simp [List.append_assoc]
  · simp only [List.length_append, Array.length_toList, size_zeroCells, hzs, hown.len, ← Nat.add_mul]
    congr 1; omega
  · have e1 : (Builtin.zeroCells z.cells k).toList.length = k * size := by rw [Array.length_toList, size_zeroCells, hzs]
    rw [List.length_append, e1, hown.len, ← Nat.add_mul]

theorem run_append_tx {tx e' : TypeId} (ht : P.underlying t = some (.slice e)) (htx : P.underlying tx = some (.slice e')) (ty : TypeId) (b : Option Addr) (l c : Nat) (v : Value) : (Builtin.append_ #[t, tx] ty #[.slice b l c, v]).run P w = (Builtin.append_ #[t, t] ty #[.slice b l c, v]).run P w := by
  simp [Builtin.append_, run_underlying ht, run_underlying htx]
theorem own_slice {w : World} {base : Nat} {e : TypeId} {sz n : Nat} {v : Value} {xs : List Value} (h : w.ownsRow base e sz v n xs) : ∃ b l c, v = .slice b l c := by
  rcases h.2 with ⟨rfl, _⟩ | ⟨g, cap, cur, rfl, _⟩
  · exact ⟨_, _, _, rfl⟩
  · exact ⟨_, _, _, rfl⟩
theorem run_append_rowAt (T : SlT P t e size bytes) (ty : TypeId) (base : Nat) (v : Value) (n : Nat) (xs : List Value) (hown : w.ownsRow base e size v n xs) (vx : Value) (m : Nat) (news : List Value) (hrow : Row w vx m size news)
    (h1 : ∀ u ∈ news, u.oneCell' = true) (hN : n + m ≤ 1099511627776) (hby : bytes ≤ 128) (hbase : base ≤ w.heap.size) :
    ∃ v' w', (Builtin.append_ #[t, t] ty #[v, vx]).run P w = .ok v' w' ∧ w'.ownsRow base e size v' (n + m) (xs ++ news) ∧ w.grownBy w' v.ownBlock ∧ (v'.ownBlock = v.ownBlock ∨ v'.ownBlock = some w.heap.size) := by
  obtain ⟨i, z, ht, hi, hz, hsize, hb2, hzs, hsz⟩ := T.out
  have hb : (n + m) * bytes ≤ 1099511627776 * 128 := Nat.mul_le_mul hN hby
  obtain ⟨hl, ad, cap, rfl, hmc, _, hnil, hc⟩ := hrow
  cases ad with
  | none =>
    have h0 := hnil rfl
    subst h0
    have hm : m = 0 := by omega
    subst hm
    have hn0 : news = [] := List.eq_nil_of_length_eq_zero (by simpa using hl)
    subst hn0
    have hr := run_append_owned_none (P := P) w base t ty e i size ht hi v n xs hown
    exact ⟨v, w, hr, by simpa using hown, ⟨rfl, rfl, rfl, Nat.le_refl _, fun _ _ _ => rfl⟩, .inl rfl⟩
  | some ad =>
    have hcells : ∀ j u, news[j]? = some u → w.cell? (ad.add j) = some u := fun j u hu => by
      have hm : m ≠ 0 := by
        rintro rfl
        rw [Nat.zero_mul] at hl
        rw [List.eq_nil_of_length_eq_zero hl] at hu
        cases hu
      obtain ⟨b, off, hb', _, hcell⟩ := hc hm
      cases hb'
      rw [Addr.add_lit]
      exact hcell j u hu
    obtain ⟨v', w', hr, h2, h3, _, h5⟩ := run_append_own_at (P := P) w base t ty e i z size bytes ht hi hz hsize hb2 hzs hsz v n xs hown ad m cap news hl hcells h1 (by unfold maxLen; omega) (by omega) hbase
    exact ⟨v', w', hr, h2, h3, h5⟩
/-- 'append(s, x...)', and where the new slice lies -/
theorem wpList_append_rowAt (T : SlT P t e size bytes) {tx e' : TypeId} (htx : P.underlying tx = some (.slice e')) (hgd : o.guard = none) (s x : Operand)
    (ho : o.op = .call { callee := .builtin .append, args := #[s, x], argTypes := #[t, tx] })
    (base : Nat) (v : Value) (n : Nat) (xs : List Value) (hown : w.ownsRow base e size v n xs) (hs : a.eval s = v)
    (vx : Value) (m : Nat) (news : List Value) (hrow : Row w vx m size news) (hx : a.eval x = vx) (h1 : ∀ u ∈ news, u.oneCell' = true)
    (hN : n + m ≤ 1099511627776) (hby : bytes ≤ 128) (hbase : base ≤ w.heap.size)
    (h : ∀ v' w', w'.ownsRow base e size v' (n + m) (xs ++ news) → w.grownBy w' v.ownBlock → (v'.ownBlock = v.ownBlock ∨ v'.ownBlock = some w.heap.size) → wpList P ops Q rest (a.put o.dst v') w') : wpList P ops Q (o :: rest) a w := by
  obtain ⟨v', w', hr, h2, h3, h4⟩ := run_append_rowAt T o.type base v n xs hown vx m news hrow h1 hN hby hbase
  obtain ⟨i, z, ht, _⟩ := T.out
  refine wpList_plain hgd fun K hK => ?_
  obtain ⟨b0, l0, c0, hv0⟩ := own_slice hown
  have hr' : (Builtin.append_ #[t, tx] o.type #[v, vx]).run P w = .ok v' w' := by rw [← hr, hv0]; exact run_append_tx (w := w) ht htx o.type b0 l0 c0 vx
  unfold Oper.wp execOp
  simp only [ho, resolve, invoke, builtin, Sem.run_bind, Sem.run_pure, Result.andThen_ok, List.map_toArray, List.map_cons, List.map_nil, hs, hx, hr']
  exact hK _ _ (h v' w' h2 h3 h4)
end
theorem zero_one {z : Array Value} (hz : ∀ u ∈ z.toList, u.oneCell' = true) (k : Nat) : ∀ u ∈ (Builtin.zeroCells z k).toList, u.oneCell' = true := by
  intro u hu
  simp only [Builtin.zeroCells, Array.toList_map, Array.toList_range, List.mem_map, List.mem_range] at hu
  obtain ⟨i, hi, rfl⟩ := hu
  have hs : 0 < z.size := by
    rcases Nat.eq_zero_or_pos z.size with h | h
    · rw [h, Nat.mul_zero] at hi; omega
    · exact h
  have := Nat.mod_lt i hs
  rw [getElem!_pos z (i % z.size) this]
  exact hz _ (by simp)
end Go.Proofs.YtflnkmmimoninaaGreatDoor
