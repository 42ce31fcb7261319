/- Contracts of slices.Clone, Delete at string and at a file. -/
import Derived.Test.YtjbihmglpfdmnaaGreatDoorDiffN
import Derived.Test.YtjbihmglpfdmnaaGreatDoorMemB
namespace Go.Proofs.YtjbihmglpfdmnaaGreatDoor
open Go Go.RowKit

def CloneRes (w : World) (E : TypeId) (sz n : Nat) (xs : List Value) (e : Ending) (w' : World) : Prop := ∃ v, e = .returned v ∧ w'.ownsRow w.heap.size E sz v n xs ∧ Below w.heap.size w w'
def DelRes (w : World) (B : Nat) (E : TypeId) (sz n : Nat) (v : Value) (xs : List Value) (e : Ending) (w' : World) : Prop := ∃ v', e = .returned v' ∧ w'.ownsRow B E sz v' n xs ∧ w.grownBy w' v.ownBlock ∧ v'.ownBlock = v.ownBlock
/-- the sliced value where it does not begin at the capacity's end -/
theorem row_mid {w : World} {g n cap sz l : Nat} {cs : List Value} (h : Row w (.slice (some ⟨g, 0, none⟩) n cap) n sz cs) (hl : l ≤ n) (hc : ¬ cap = l) : Row w (.slice (some ⟨g, l * sz, none⟩) (n - l) (cap - l)) (n - l) sz (cs.drop (l * sz)) := by
  have := slice_row h hl (Nat.le_refl n)
  unfold sliced at this
  rw [if_neg hc] at this
  rw [List.take_of_length_le (by rw [List.length_drop, h.1, ← Nat.sub_mul]; exact Nat.le_refl _)] at this
  simpa [Addr.add_lit] using this

theorem row_empty (w : World) (a : Option Addr) (sz : Nat) : Row w (.slice a 0 0) 0 sz [] := ⟨by simp, a, 0, rfl, Nat.le_refl _, Nat.zero_le _, fun _ => rfl, fun h => absurd rfl h⟩
set_option maxHeartbeats 4000000 in
set_option maxRecDepth 100000 in
theorem clone_str (v : Value) (n : Nat) (xs : List Value) (w : World) (hv : Row w v n 1 xs) (h1 : ∀ u ∈ xs, u.oneCell' = true) (hn : n ≤ 1000000) :
    Calls Tryz.prog 47 #[v] w (CloneRes w 9 1 n xs) := by
  have HV := Lib.hid hv
  have HB0 := Lib.hid (below_box (w := w) (.cells #[] 9))
  obtain ⟨hl, a, cap, rfl, hc1, hc2, hnil, _⟩ := hv
  cases a with
  | none =>
    have h0 := hnil rfl
    subst h0
    have hn0 : n = 0 := by omega
    subst hn0
    have hx : xs = [] := List.eq_nil_of_length_eq_zero (by simpa using hl)
    subst hx
    have hkn := fun w => Lib.run_eql_slice_nil (P := Tryz.prog) w 38 9 none 0 0 0 0 Tryz.underlying38
    clear hl hc1 hc2
    go_enter Tryz.func47, Tryz.ntmps47
    go_wp2_with fail
    go_ret
    exact ⟨_, rfl, World.ownsRow_nil _ _ _ _, Below.refl _ _⟩
  | some ad =>
    have hkn := fun w => Lib.run_eql_slice_nil (P := Tryz.prog) w 38 9 (some ad) n cap 0 0 Tryz.underlying38
    have hN : 0 + n ≤ 1099511627776 := by omega
    have hO : (w.alloc (.cells #[] 9)).ownsRow w.heap.size 9 1 (.slice (some ⟨w.heap.size, 0, none⟩) 0 0) 0 [] := ⟨by simp, .inr ⟨w.heap.size, 0, #[], rfl, Nat.le_refl _, by rw [heap_alloc_new], Nat.le_refl _, Nat.zero_le _, by simp, by simp⟩⟩
    have HO := Lib.hid hO
    clear hl hc1 hc2 hO
    go_enter Tryz.func47, Tryz.ntmps47
    go_wp2_with (at_builtin; refine wpList_append_rowAt slStr (Tryz.underlying38) rfl _ _ rfl w.heap.size _ _ _ HO.out rfl _ _ _ (HV.out.over HB0.out) rfl h1 hN (by decide) (by simp) ?_; intro v2 w2 ho2 hg2 hat2)
    go_ret
    exact ⟨_, rfl, by simpa using ho2, HB0.out.grown hg2 HB0.out.size fun k hk => by simp [Value.ownBlock] at hk; omega⟩

theorem oneZ_str : ∀ u ∈ ((.string ⟨#[]⟩ : Value).cells).toList, u.oneCell' = true := List.all_eq_true.1 rfl
theorem zero_str : ((Tryz.prog.info? 9).bind (·.zero)) = some (.string ⟨#[]⟩) := by kernel_rfl
set_option maxHeartbeats 4000000 in
set_option maxRecDepth 100000 in
theorem delete_str (v : Value) (k m : Nat) (xs : List Value) (w : World) (B : Nat) (ho : w.ownsRow B 9 1 v (k + 1 + m) xs) (h1 : ∀ u ∈ xs, u.oneCell' = true) (hn : k + 1 + m ≤ 1000000) :
    Calls Tryz.prog 68 #[v, .int .i64 (k : Int), .int .i64 ((k : Int) + 1)] w (DelRes w B 9 1 (k + m) v (xs.take (k * 1) ++ xs.drop ((k + 1) * 1))) := by
  obtain ⟨g, cap, rfl, hA⟩ := own_at ho (by omega)
  have hnc := hA.nc
  have hcm := hA.cm
  have hlt := hA.lt
  have HA := Lib.hid hA
  have HR := Lib.hid hA.row
  unfold maxLen at hcm
  have hne : ((k : Int) == (k : Int) + 1) = false := by simp; omega
  have hc2 : ¬ cap = k + m := by omega
  have h1d : ∀ u ∈ xs.drop ((k + 1) * 1), u.oneCell' = true := fun u hu => h1 u (List.mem_of_mem_drop hu)
  have hkm : k + m ≤ cap := by omega
  have HTk : Hid (OwnAt w B 9 1 g k cap (xs.take (k * 1))) := hA.take (by omega)
  clear hA ho
  by_cases hc : cap = k + 1
  · obtain rfl : m = 0 := by omega
    subst hc
    have hxd : xs.drop ((k + 1) * 1) = [] := List.drop_eq_nil_of_le (by rw [HA.out.len]; exact Nat.le_refl _)
    have HX := Lib.hid hxd
    have HRm : Hid (Row w (.slice (some ⟨g, 0, none⟩) 0 0) 0 1 []) := row_empty w _ 1
    clear hxd
    go_enter Tryz.func68, Tryz.ntmps68
    go_wp2_with fail
    refine wp_region_lex (C := IsOver w) 6 [] (by kernel_rfl) (by kernel_rfl) (isOver_of (by repeat (first | exact Below.refl _ _ | apply Below.drew | apply below_drewN | (refine Below.alloc ?_ (by simp) _)))) ?_
    simp only [List.take_succ_cons, List.take_zero, List.drop_succ_cons, List.drop_zero]
    repeat (first | (refine lex_skip rfl rfl ?_; simp only [Act.put, List.setIfInBounds_toArray, List.set_cons_succ, List.set_cons_zero]) | (refine lex_one rfl ?_; go_big_quiet_step (fail); refine wpQuiet_nil ?_))
    refine lex_end ?_
    go_wp2_with (first
      | (refine wpList_clear_at slStr _ zero_str (zero_one oneZ_str) (fun k => by rw [size_zeroCells]; rfl) rfl _ rfl B g k (k + 1) _ HA2.out k _ _ _ (by simp) rfl (Nat.le_refl _) (by omega) ?_; intro w3 hA3 hg3 hs3)
      | (at_builtin; refine wpList_append_at slStr rfl _ _ rfl B g k (k + 1) _ HTk.out.drew rfl _ 0 _ HRm.out rfl (fun u hu => by cases hu) (by omega) ?_; intro w2 hA2 hg2; have HA2 := Lib.hid hA2; have HG2 := Lib.hid hg2; clear hA2 hg2))
    go_ret
    refine ⟨_, rfl, ?_, grown_trans (grown_drew (w := w) (w1 := w) (World.grownBy.refl w _)) (grown_trans HG2.out hg3), rfl⟩
    rw [HX.out]
    exact hA3.own
  · have HRm : Hid (Row w (.slice (some ⟨g, k + 1, none⟩) m (cap - (k + 1))) m 1 (xs.drop ((k + 1) * 1))) := by
      show Row _ _ _ _ _
      have := row_mid HR.out (show k + 1 ≤ k + 1 + m by omega) hc
      rw [show k + 1 + m - (k + 1) = m by omega] at this
      simpa using this
    go_enter Tryz.func68, Tryz.ntmps68
    go_wp2_with fail
    refine wp_region_lex (C := IsOver w) 6 [] (by kernel_rfl) (by kernel_rfl) (isOver_of (by repeat (first | exact Below.refl _ _ | apply Below.drew | apply below_drewN | (refine Below.alloc ?_ (by simp) _)))) ?_
    simp only [List.take_succ_cons, List.take_zero, List.drop_succ_cons, List.drop_zero]
    repeat (first | (refine lex_skip rfl rfl ?_; simp only [Act.put, List.setIfInBounds_toArray, List.set_cons_succ, List.set_cons_zero]) | (refine lex_one rfl ?_; go_big_quiet_step (fail); refine wpQuiet_nil ?_))
    refine lex_end ?_
    go_wp2_with (first
      | (refine wpList_clear_at slStr _ zero_str (zero_one oneZ_str) (fun k => by rw [size_zeroCells]; rfl) rfl _ rfl B g (k + m) cap _ HA2.out (k + m) _ _ _ (by simp) rfl (Nat.le_refl _) (by omega) ?_; intro w3 hA3 hg3 hs3)
      | (at_builtin; refine wpList_append_at slStr rfl _ _ rfl B g k cap _ HTk.out.drew rfl _ m _ HRm.out rfl h1d hkm ?_; intro w2 hA2 hg2; have HA2 := Lib.hid hA2; have HG2 := Lib.hid hg2; clear hA2 hg2))
    go_ret
    exact ⟨_, rfl, hA3.own, grown_trans (grown_drew (w := w) (w1 := w) (World.grownBy.refl w _)) (grown_trans HG2.out hg3), rfl⟩

set_option maxHeartbeats 4000000 in
set_option maxRecDepth 100000 in
theorem clone_file (v : Value) (n : Nat) (xs : List Value) (w : World) (hv : Row w v n 3 xs) (h1 : ∀ u ∈ xs, u.oneCell' = true) (hn : n ≤ 1000000) :
    Calls Tryz.prog 46 #[v] w (CloneRes w 40 3 n xs) := by
  have HV := Lib.hid hv
  have HB0 := Lib.hid (below_box (w := w) (.cells #[] 40))
  obtain ⟨hl, a, cap, rfl, hc1, hc2, hnil, _⟩ := hv
  cases a with
  | none =>
    have h0 := hnil rfl
    subst h0
    have hn0 : n = 0 := by omega
    subst hn0
    have hx : xs = [] := List.eq_nil_of_length_eq_zero (by simpa using hl)
    subst hx
    have hkn := fun w => Lib.run_eql_slice_nil (P := Tryz.prog) w 42 40 none 0 0 0 0 Tryz.underlying42
    clear hl hc1 hc2
    go_enter Tryz.func46, Tryz.ntmps46
    go_wp2_with fail
    go_ret
    exact ⟨_, rfl, World.ownsRow_nil _ _ _ _, Below.refl _ _⟩
  | some ad =>
    have hkn := fun w => Lib.run_eql_slice_nil (P := Tryz.prog) w 42 40 (some ad) n cap 0 0 Tryz.underlying42
    have hN : 0 + n ≤ 1099511627776 := by omega
    have hO : (w.alloc (.cells #[] 40)).ownsRow w.heap.size 40 3 (.slice (some ⟨w.heap.size, 0, none⟩) 0 0) 0 [] := ⟨by simp, .inr ⟨w.heap.size, 0, #[], rfl, Nat.le_refl _, by rw [heap_alloc_new], Nat.le_refl _, Nat.zero_le _, by simp, by simp⟩⟩
    have HO := Lib.hid hO
    clear hl hc1 hc2 hO
    go_enter Tryz.func46, Tryz.ntmps46
    go_wp2_with (at_builtin; refine wpList_append_rowAt slTree (Tryz.underlying42) rfl _ _ rfl w.heap.size _ _ _ HO.out rfl _ _ _ (HV.out.over HB0.out) rfl h1 hN (by decide) (by simp) ?_; intro v2 w2 ho2 hg2 hat2)
    go_ret
    exact ⟨_, rfl, by simpa using ho2, HB0.out.grown hg2 HB0.out.size fun k hk => by simp [Value.ownBlock] at hk; omega⟩

theorem oneZ_file : ∀ u ∈ ((.agg #[.string ⟨#[]⟩, .slice none 0 0, .slice none 0 0] : Value).cells).toList, u.oneCell' = true := List.all_eq_true.1 rfl
theorem zero_file : ((Tryz.prog.info? 40).bind (·.zero)) = some (.agg #[.string ⟨#[]⟩, .slice none 0 0, .slice none 0 0]) := by kernel_rfl
set_option maxHeartbeats 4000000 in
set_option maxRecDepth 100000 in
theorem delete_file (v : Value) (k m : Nat) (xs : List Value) (w : World) (B : Nat) (ho : w.ownsRow B 40 3 v (k + 1 + m) xs) (h1 : ∀ u ∈ xs, u.oneCell' = true) (hn : k + 1 + m ≤ 1000000) :
    Calls Tryz.prog 49 #[v, .int .i64 (k : Int), .int .i64 ((k : Int) + 1)] w (DelRes w B 40 3 (k + m) v (xs.take (k * 3) ++ xs.drop ((k + 1) * 3))) := by
  obtain ⟨g, cap, rfl, hA⟩ := own_at ho (by omega)
  have hnc := hA.nc
  have hcm := hA.cm
  have hlt := hA.lt
  have HA := Lib.hid hA
  have HR := Lib.hid hA.row
  unfold maxLen at hcm
  have hne : ((k : Int) == (k : Int) + 1) = false := by simp; omega
  have hc2 : ¬ cap = k + m := by omega
  have h1d : ∀ u ∈ xs.drop ((k + 1) * 3), u.oneCell' = true := fun u hu => h1 u (List.mem_of_mem_drop hu)
  have hkm : k + m ≤ cap := by omega
  have HTk : Hid (OwnAt w B 40 3 g k cap (xs.take (k * 3))) := hA.take (by omega)
  clear hA ho
  by_cases hc : cap = k + 1
  · obtain rfl : m = 0 := by omega
    subst hc
    have hxd : xs.drop ((k + 1) * 3) = [] := List.drop_eq_nil_of_le (by rw [HA.out.len]; exact Nat.le_refl _)
    have HX := Lib.hid hxd
    have HRm : Hid (Row w (.slice (some ⟨g, 0, none⟩) 0 0) 0 3 []) := row_empty w _ 3
    clear hxd
    go_enter Tryz.func49, Tryz.ntmps49
    go_wp2_with fail
    refine wp_region_lex (C := IsOver w) 6 [] (by kernel_rfl) (by kernel_rfl) (isOver_of (by repeat (first | exact Below.refl _ _ | apply Below.drew | apply below_drewN | (refine Below.alloc ?_ (by simp) _)))) ?_
    simp only [List.take_succ_cons, List.take_zero, List.drop_succ_cons, List.drop_zero]
    repeat (first | (refine lex_skip rfl rfl ?_; simp only [Act.put, List.setIfInBounds_toArray, List.set_cons_succ, List.set_cons_zero]) | (refine lex_one rfl ?_; go_big_quiet_step (fail); refine wpQuiet_nil ?_))
    refine lex_end ?_
    go_wp2_with (first
      | (refine wpList_clear_at slTree _ zero_file (zero_one oneZ_file) (fun k => by rw [size_zeroCells]; rfl) rfl _ rfl B g k (k + 1) _ HA2.out k _ _ _ (by simp) rfl (Nat.le_refl _) (by omega) ?_; intro w3 hA3 hg3 hs3)
      | (at_builtin; refine wpList_append_at slTree rfl _ _ rfl B g k (k + 1) _ HTk.out.drew rfl _ 0 _ HRm.out rfl (fun u hu => by cases hu) (by omega) ?_; intro w2 hA2 hg2; have HA2 := Lib.hid hA2; have HG2 := Lib.hid hg2; clear hA2 hg2))
    go_ret
    refine ⟨_, rfl, ?_, grown_trans (grown_drew (w := w) (w1 := w) (World.grownBy.refl w _)) (grown_trans HG2.out hg3), rfl⟩
    rw [HX.out]
    exact hA3.own
  · have HRm : Hid (Row w (.slice (some ⟨g, (k + 1) * 3, none⟩) m (cap - (k + 1))) m 3 (xs.drop ((k + 1) * 3))) := by
      show Row _ _ _ _ _
      have := row_mid HR.out (show k + 1 ≤ k + 1 + m by omega) hc
      rw [show k + 1 + m - (k + 1) = m by omega] at this
      simpa using this
    go_enter Tryz.func49, Tryz.ntmps49
    go_wp2_with fail
    refine wp_region_lex (C := IsOver w) 6 [] (by kernel_rfl) (by kernel_rfl) (isOver_of (by repeat (first | exact Below.refl _ _ | apply Below.drew | apply below_drewN | (refine Below.alloc ?_ (by simp) _)))) ?_
    simp only [List.take_succ_cons, List.take_zero, List.drop_succ_cons, List.drop_zero]
    repeat (first | (refine lex_skip rfl rfl ?_; simp only [Act.put, List.setIfInBounds_toArray, List.set_cons_succ, List.set_cons_zero]) | (refine lex_one rfl ?_; go_big_quiet_step (fail); refine wpQuiet_nil ?_))
    refine lex_end ?_
    go_wp2_with (first
      | (refine wpList_clear_at slTree _ zero_file (zero_one oneZ_file) (fun k => by rw [size_zeroCells]; rfl) rfl _ rfl B g (k + m) cap _ HA2.out (k + m) _ _ _ (by simp) rfl (Nat.le_refl _) (by omega) ?_; intro w3 hA3 hg3 hs3)
      | (at_builtin; refine wpList_append_at slTree rfl _ _ rfl B g k cap _ HTk.out.drew rfl _ m _ HRm.out rfl h1d hkm ?_; intro w2 hA2 hg2; have HA2 := Lib.hid hA2; have HG2 := Lib.hid hg2; clear hA2 hg2))
    go_ret
    exact ⟨_, rfl, hA3.own, grown_trans (grown_drew (w := w) (w1 := w) (World.grownBy.refl w _)) (grown_trans HG2.out hg3), rfl⟩

end Go.Proofs.YtjbihmglpfdmnaaGreatDoor
