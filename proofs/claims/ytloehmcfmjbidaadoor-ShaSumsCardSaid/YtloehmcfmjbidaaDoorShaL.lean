/- The second statement's walk. -/
import Derived.Test.YtloehmcfmjbidaaDoorShaK
namespace Go.Proofs.YtloehmcfmjbidaaDoor
open Go Go.RowKit
attribute [local irreducible] Sha.pad

theorem slice_row {w : World} {a : Option Addr} {n cap sz l h : Nat} {cs : List Value} (hr : Row w (.slice a n cap) n sz cs) (h1 : l ≤ h) (h2 : h ≤ n) : Row w (sliced a l h cap sz) (h - l) sz ((cs.drop (l * sz)).take ((h - l) * sz)) := by
  obtain ⟨hl, a', cap', hv, hc, hm, hn, hcell⟩ := hr
  obtain ⟨rfl, _, rfl⟩ := Value.slice.inj hv
  have hmul : (h - l) * sz + l * sz ≤ n * sz := by rw [← Nat.add_mul]; exact Nat.mul_le_mul_right _ (by omega)
  refine ⟨by simp; omega, _, _, rfl, by omega, by omega, fun h0 => ?_, fun h0 => ?_⟩
  · by_cases hcl : cap = l
    · omega
    · rw [if_neg hcl] at h0
      cases a with
      | none => have := hn rfl; omega
      | some ad => cases h0
  · obtain ⟨b, off, rfl, hb, hcl⟩ := hcell (by omega)
    refine ⟨b, off + l * sz, ?_, hb, fun j u hu => ?_⟩
    · by_cases hcl' : cap = l
      · omega
      · rw [if_neg hcl']
        by_cases h0' : l * sz = 0
        · simp [Addr.add, h0']
        · simp [Addr.add, h0']
    · have hj : j < (h - l) * sz := by
        have := (List.getElem?_eq_some_iff.1 hu).1; simp at this; omega
      have := hcl (l * sz + j) u (by rw [List.getElem?_take, if_pos hj, List.getElem?_drop] at hu; exact hu)
      rw [← Nat.add_assoc] at this; exact this
section
variable {P : Program} {t e : TypeId} {size bytes : Nat} {w : World} {ops : Array Oper} {rest : List Oper} {o : Oper} {a : Act} {Q : Exit → Act → World → Prop}
theorem run_size (T : SlT P t e size bytes) : P.underlying t = some (.slice (P.elem t)) ∧ (sizeOf (P.elem t)).run P w = .ok size w := by
  obtain ⟨i, z, h1, h2, _, h4, _⟩ := T.out
  have he : P.elem t = e := by simp [Program.elem, h1]
  rw [he]
  exact ⟨h1, by simp [sizeOf, typeInfo, h2, h4]⟩
theorem wpList_slice_to (T : SlT P t e size bytes) (hgd : o.guard = none) (x y : Operand) (ho : o.op = .slice t x none (some y) none) (v : Value) (n : Nat) (cs : List Value) (hrow : Row w v n size cs) (hx : a.eval x = v) (C : Int) (h : Nat) (hy : a.eval y = .int .i64 C) (hC : C = (h : Int)) (hh : h ≤ n)
    (hK : ∀ v', (∀ w', Row w' v n size cs → Row w' v' h size (cs.take (h * size))) → wpList P ops Q rest (a.put o.dst v') w) : wpList P ops Q (o :: rest) a w := by
  obtain ⟨hr0, ad, cap, hv, hr1⟩ := id hrow
  subst hC; subst hv
  have hs := run_size (w := w) T
  have := fun w' (hrow : Row w' (.slice ad n cap) n size cs) => slice_row (l := 0) (h := h) hrow (Nat.zero_le _) hh
  simp only [Nat.sub_zero, Nat.zero_mul, List.drop_zero] at this
  refine wpList_plain hgd fun K hK' => ?_
  unfold Oper.wp execOp
  simp only [ho, hx, hy, Option.map, Sem.run_bind, Result.andThen_ok, run_sliceAt_slice _ _ _ _ _ _ hs.1, run_slice_h w t ad n cap hs.1 .i64 h (by omega) (by have := hr1.1; omega), hs.2, Int.toNat_natCast]
  exact hK' _ _ (hK _ this)
theorem wpList_slice_from (T : SlT P t e size bytes) (hgd : o.guard = none) (x y : Operand) (ho : o.op = .slice t x (some y) none none) (v : Value) (n : Nat) (cs : List Value) (hrow : Row w v n size cs) (hx : a.eval x = v) (C : Int) (l : Nat) (hy : a.eval y = .int .i64 C) (hC : C = (l : Int)) (hl : l ≤ n)
    (hK : ∀ v', (∀ w', Row w' v n size cs → Row w' v' (n - l) size (cs.drop (l * size))) → wpList P ops Q rest (a.put o.dst v') w) : wpList P ops Q (o :: rest) a w := by
  obtain ⟨hr0, ad, cap, hv, hr1⟩ := id hrow
  subst hC; subst hv
  have hs := run_size (w := w) T
  have := fun w' (hrow : Row w' (.slice ad n cap) n size cs) => slice_row (l := l) (h := n) hrow hl (Nat.le_refl _)
  rw [List.take_of_length_le (by rw [List.length_drop, hr0, ← Nat.sub_mul]; exact Nat.le_refl _)] at this
  refine wpList_plain hgd fun K hK' => ?_
  unfold Oper.wp execOp
  simp only [ho, hx, hy, Option.map, Sem.run_bind, Result.andThen_ok, run_sliceAt_slice _ _ _ _ _ _ hs.1, run_slice_l w t ad n cap hs.1 .i64 l (by omega) (by omega), hs.2, Int.toNat_natCast]
  exact hK' _ _ (hK _ this)
end
theorem slSl : SlT Tryd.prog 33 22 1 24 := slT_of Tryd.underlying33 (by kernel_rfl) (by decide)

set_option maxHeartbeats 1000000 in
theorem parts_long (bv : Value) (bs ats : List Nat) (w : World) (hL : Laid w) (hb : IRow w .u8 bv bs) (hl : 2000 < bs.length) :
    Calls Tryd.prog 4 #[bv, .agg (ints .u16 ats).toArray] w fun e w' => e = .returned (.bool true) ∧ Below w.heap.size w w' := by
  obtain ⟨a, cap, rfl, h1, h2, _⟩ := hb.form
  unfold maxLen at h2
  have HL := Lib.hid (fun o => hL.over ((Below.refl w.heap.size w).alloc (Nat.le_refl _) o))
  go_enter Tryd.func4, Tryd.ntmps4
  go_wp2_with (go_at_call 6; refine (works_any _ (HL.out _)).mono ?_; rintro e w1 ⟨rfl, hb1⟩)
  go_ret
  exact ⟨rfl, below_over ((Below.refl _ _).alloc (Nat.le_refl _) _) (by simp) hb1⟩

/-- the first parts and what is left -/
def Cutting (w wr : World) (v rv : Value) (k : Nat) (bs : List Nat) : Prop := ∃ (vs : List Value) (ls : List (List Nat)) (rs : List Nat), ls.length = k ∧ wr.ownsRow (w.heap.size + 1) 22 1 v k vs ∧
  (∀ i, i < k → ∃ u, vs[i]? = some u ∧ IRow w .u8 u (ls.getD i [])) ∧ IRow w .u8 rv rs ∧ ls.flatten ++ rs = bs

set_option maxHeartbeats 4000000 in
set_option maxRecDepth 100000 in
theorem parts_short (bv : Value) (bs ats : List Nat) (w : World) (hL : Laid w) (hb : IRow w .u8 bv bs) (sb : Sha.Bytes bs) (hl : bs.length ≤ 2000) (la : ats.length = 3) (sa : ∀ j, nth ats j < 65536) :
    Calls Tryd.prog 4 #[bv, .agg (ints .u16 ats).toArray] w fun e w' => e = .returned (.bool true) ∧ Below w.heap.size w w' := by
  obtain ⟨ab, cb, rfl, h1, h2, _⟩ := hb.form
  unfold maxLen at h2
  have HB := Lib.hid hb
  have hA : Arr (w.alloc (.cells (ints .u16 ats).toArray 32)) w.heap.size (ints .u16 ats) := arr_new w (ints .u16 ats).toArray _
  have HA := Lib.hid hA
  clear hb hA
  go_enter Tryd.func4, Tryd.ntmps4
  go_wp2_with fail
  go_loopw [5, 6, 7, 8] (fun v rv i _ wr => ∃ k : Nat, k ≤ 3 ∧ i = .int .i64 k ∧ Cutting w wr v rv k bs ∧ Below w.heap.size w wr ∧ Arr wr w.heap.size (ints .u16 ats)) (fun _ _ i _ _ => 3 - (intOf i).toNat)
  case atStart => exact ⟨0, by omega, rfl, ⟨[], [], bs, rfl, World.ownsRow_nil _ _ _ _, fun i hi => by omega, HB.out, rfl⟩, (Below.refl _ _).alloc (Nat.le_refl _) _, HA.out⟩
  case round =>
    obtain ⟨k, hk, rfl, ⟨vs, ls, rs, hlk, ho, hel, hrs, hfl⟩, hbl, hAr⟩ := hrel
    have hlr : rs.length ≤ bs.length := by rw [← hfl, List.length_append]; omega
    have hsz := hAr.lt
    obtain ⟨ar, cr, rfl, hr1, hr2, _⟩ := hrs.form
    by_cases hlt : k < 3
    · have hck := hAr.cell (ints_get (k := .u16) (j := k) (by omega))
      have hak := sa k
      have hN : k + 1 ≤ 1099511627776 := by omega
      have hbase : w.heap.size + 1 ≤ wr.heap.size := hAr.lt
      have hmod : nth ats k % (rs.length + 1) ≤ rs.length := by have := Nat.mod_lt (nth ats k) (show 0 < rs.length + 1 by omega); omega
      have hmc : (nth ats k : Int) % ((rs.length : Int) + 1) = ((nth ats k % (rs.length + 1) : Nat) : Int) := by simp
      have HM := Lib.hid hmc
      have HRs := Lib.hid (hrs.over hbl)
      have HO := Lib.hid ho
      have HEl := Lib.hid hel
      have HRw := Lib.hid hrs
      have HFl := Lib.hid hfl
      have HAr := Lib.hid hAr
      clear hrs ho hel hmc hfl hAr
      generalize nth ats k = x at *
      have hq : ∀ q, u5.ownBlock = some q → w.heap.size + 1 ≤ q := fun q hq => (HO.out.lt _ hq).1
      have HQ := Lib.hid hq
      clear hq
      go_wp2_with (first | (refine wpList_slice_from slU8 rfl _ _ rfl _ _ _ (HRw.out.over (hbl.grown hg2 (Nat.le_of_succ_le hbase) (fun q h => Nat.le_of_succ_le (HQ.out q h)))) rfl _ _ rfl HM.out hmod ?_; intro u2 hu2) | (refine wpList_slice_to slU8 rfl _ _ rfl _ _ _ HRs.out rfl _ _ rfl HM.out hmod ?_; intro u hu; obtain ⟨_, au, cu, rfl, _⟩ := hu w HRw.out; have HU := Lib.hid hu; clear hu) | (at_builtin; refine wpList_append_new slSl rfl _ _ rfl (w.heap.size + 1) _ _ 1 _ _ _ HO.out rfl rfl rfl rfl hN (by decide) hbase ?_; intro v2 w2 ho2 hg2))
      go_roundw
      case rel =>
        have hfl := HFl.out
        generalize x % (rs.length + 1) = m at *
        have e1 : ints .u8 (rs.take m) = (ints .u8 rs).take (m * 1) := by simp [ints, List.map_take]
        have e2 : ints .u8 (rs.drop m) = (ints .u8 rs).drop (m * 1) := by simp [ints, List.map_drop]
        have r1 : IRow w .u8 (.slice au m cu) (rs.take m) := by
          have := HU.out w HRw.out
          unfold IRow; rw [e1, List.length_take, Nat.min_eq_left hmod]; exact this
        have r2 : IRow w .u8 u2 (rs.drop m) := by
          have := hu2 w HRw.out
          unfold IRow; rw [e2, List.length_drop]; exact this
        have hvl : vs.length = k := by have := HO.out.1; omega
        refine ⟨k + 1, by omega, by go_num, ⟨vs ++ [.slice au m cu], ls ++ [rs.take m], rs.drop m, by simp [hlk], ho2, fun i hi => ?_, r2, ?_⟩, hbl.grown hg2 (by omega) (fun q h => Nat.le_of_succ_le (HQ.out q h)), HAr.out.grown hg2 fun he => by have := HQ.out _ he.symm; omega⟩
        · by_cases hik : i < k
          · obtain ⟨u, h1, h2⟩ := HEl.out i hik
            refine ⟨u, by rw [List.getElem?_append_left (by omega)]; exact h1, ?_⟩
            rwa [List.getD_eq_getElem?_getD, List.getElem?_append_left (by omega), ← List.getD_eq_getElem?_getD]
          · obtain rfl : i = k := by omega
            refine ⟨_, by rw [List.getElem?_append_right (by omega), hvl, Nat.sub_self]; rfl, ?_⟩
            rw [List.getD_eq_getElem?_getD, List.getElem?_append_right (by omega), hlk, Nat.sub_self]; exact r1
        · rw [List.flatten_append, ← hfl, List.append_assoc]; simp
      case measure => simp [intOf] <;> omega
    · obtain rfl : k = 3 := by omega
      have hN : 3 + 2 ≤ 1099511627776 := by decide
      have hbase : w.heap.size + 1 ≤ wr.heap.size := hAr.lt
      have hq : ∀ q, u5.ownBlock = some q → w.heap.size + 1 ≤ q := fun q hq => (ho.lt _ hq).1
      have HQ := Lib.hid hq
      have HO := Lib.hid ho
      have HF1 : Hid ((ls ++ [[], rs]).flatten = bs) := by unfold Hid; rw [← hfl]; simp
      have HF2 : Hid ([bs].flatten = bs) := by unfold Hid; simp
      have hn1 : (ls ++ [[], rs]).length ≤ 10 := by simp [hlk]
      have hn2 : [bs].length ≤ 10 := by simp
      have hn3 : bs.length ≤ 3000 := by omega
      have hsl : (Sha.sum Sha.K0 Sha.H0 bs).length = 32 := Sha.sum_len _ _ _
      have hsb : Sha.Bytes (Sha.sum Sha.K0 Sha.H0 bs) := Sha.sum_bytes _ _ _
      have e5 : ∀ w, (binOp .eql 27 (.agg (ints .u8 (Sha.sum Sha.K0 Sha.H0 bs)).toArray) (.agg (ints .u8 (Sha.sum Sha.K0 Sha.H0 bs)).toArray)).run Tryd.prog w = .ok (.bool true) w := fun w => by
        rw [ints_cell hsb]
        have := run_eql_bytes w 27 5 32 Tryd.underlying27 Tryd.underlying5 (fun _ => by kernel_rfl) ((Sha.sum Sha.K0 Sha.H0 bs).map UInt8.ofNat) ((Sha.sum Sha.K0 Sha.H0 bs).map UInt8.ofNat) (by simp [hsl]) (by simp [hsl])
        rwa [beq_self_eq_true] at this
      have e6 : ∀ x y w, (eqGuard .eql 27 x y (.agg (ints .u8 (Sha.sum Sha.K0 Sha.H0 bs)).toArray) (.agg (ints .u8 (Sha.sum Sha.K0 Sha.H0 bs)).toArray)).run Tryd.prog w = .ok () w := fun x y w => run_eqGuard_agg w .eql _ x y _ _ (by kernel_rfl)
      have HAll : Hid (∀ (w2 : World) (v2 : Value), w2.ownsRow (w.heap.size + 1) 22 1 v2 (3 + 2) (vs ++ [.slice none 0 0, .slice ar rs.length cr]) → Below w.heap.size w w2 → PRow w2 v2 (ls ++ [[], rs])) := by
        intro w2 v2 ho2 hb2
        have hvl : vs.length = 3 := by have := ho.1; omega
        refine ⟨_, by rw [List.length_append, hlk]; exact own_row ho2, fun i hi => ?_⟩
        have hi5 : i < 5 := by simpa [hlk] using hi
        by_cases hi3 : i < 3
        · obtain ⟨u, h1, h2⟩ := hel i hi3
          exact ⟨u, by rw [List.getElem?_append_left (by omega)]; exact h1, by rw [List.getD_eq_getElem?_getD, List.getElem?_append_left (by omega), ← List.getD_eq_getElem?_getD]; exact h2.over hb2⟩
        · refine ⟨_, by rw [List.getElem?_append_right (by omega), hvl]; exact (by (have : i = 3 ∨ i = 4 := by omega); rcases this with rfl | rfl; exact rfl; exact rfl : [Value.slice none 0 0, .slice ar rs.length cr][i - 3]? = some (if i = 3 then .slice none 0 0 else .slice ar rs.length cr)), ?_⟩
          rw [List.getD_eq_getElem?_getD, List.getElem?_append_right (by omega), hlk]
          have : i = 3 ∨ i = 4 := by omega
          rcases this with rfl | rfl
          · exact row_nil _ _
          · exact hrs.over hb2
      have HL2 := Lib.hid (fun (w2 : World) (hb : Below w.heap.size w w2) => hL.over hb)
      have HPB := Lib.hid (fun (w2 : World) (hb : Below w.heap.size w w2) (o : Obj) (ho : o = Obj.cells #[.slice ab bs.length cb] 22) => (by subst ho; exact prow_one (by simp) ((arr_new w2 _ _).cell (j := 0) rfl) ((HB.out.over hb).over ((Below.refl _ _).alloc (Nat.le_refl _) _)) : PRow (w2.alloc o) (.slice (some ⟨w2.heap.size, 0, none⟩) 1 1) [bs]))
      have hlt2 : ¬ ((3 : Nat) : Int) < 3 := by omega
      clear hq ho hel hrs hfl hsb hsl hL
      go_wp2_with (at_builtin; refine wpList_append_new slSl rfl _ _ rfl (w.heap.size + 1) _ _ 2 _ _ _ HO.out rfl rfl rfl rfl hN (by decide) hbase ?_; intro v2 w2 ho2 hg2)
      have hb2 : Below w.heap.size w w2 := hbl.grown hg2 (Nat.le_of_succ_le hbase) (fun q h => Nat.le_of_succ_le (HQ.out q h))
      have HP2 := Lib.hid (HAll.out w2 v2 ho2 hb2)
      refine (ssum_hid _ _ _ _ HF1 (HL2.out w2 hb2) HP2.out hn1 hn3 sb).mono ?_
      rintro e w3 ⟨rfl, hb3⟩
      have hb3' : Below w.heap.size w w3 := below_over hb2 hb2.size hb3
      have hb3o := fun o => hb3'.alloc hb3'.size o
      have HB3 := Lib.hid hb3o
      have HPB3 := Lib.hid (HPB.out w3 hb3')
      clear hb2 hb3 hb3' hb3o hg2 ho2
      go_wp2_with (go_at_call 8; refine (ssum_hid _ _ _ _ HF2 (HL2.out _ (HB3.out _)) (HPB3.out _ rfl) hn2 hn3 sb).mono ?_; rintro e w4 ⟨rfl, hb4⟩)
      have hb4' : Below w.heap.size w w4 := below_over (HB3.out _) (HB3.out _).size hb4
      go_wp2_with (go_at_call 6; refine (works_any _ (HL2.out _ hb4')).mono ?_; rintro e w5 ⟨rfl, hb5⟩)
      go_ret
      exact ⟨rfl, below_over hb4' hb4'.size hb5⟩
end Go.Proofs.YtloehmcfmjbidaaDoor
