/- Contracts of bruitref50.one: what cuts a line, what puts one, what else there is. -/
import Derived.Test.YtipbknkjledebaaDoorDiffK
namespace Go.Proofs.YtipbknkjledebaaDoor
open Go Go.RowKit

theorem oneK3_none {t : List FileM} {e : EditM} (h : findT t e.name < 0) : oneK3 t e = ([], 6) := by unfold oneK3; rw [if_pos h]
theorem oneK3_bad {t : List FileM} {e : EditM} (h : ¬ findT t e.name < 0) (h' : e.at' < 0 ∨ ((wasL t e.name).length : Int) ≤ e.at') : oneK3 t e = ([], 6) := by unfold oneK3; rw [if_neg h, if_pos h']
theorem oneK3_ok {t : List FileM} {n s : ByteArray} {kd m k : Nat} {f : FileM} (h : findT t n = (k : Int)) (hf : t[k]? = some f) (hm : m < f.lines.length) : oneK3 t ⟨kd, n, (m : Int), s⟩ = (setL t k (f.lines.take m ++ f.lines.drop (m + 1)), 0) := by
  unfold oneK3; simp only; rw [if_neg (by omega), wasL_some h hf, if_neg (by omega), h]; simp
theorem oneK4_none {t : List FileM} {e : EditM} (h : findT t e.name < 0) : oneK4 t e = ([], 6) := by unfold oneK4; rw [if_pos h]
theorem oneK4_bad {t : List FileM} {e : EditM} (h : ¬ findT t e.name < 0) (h' : e.at' < 0 ∨ ((wasL t e.name).length : Int) < e.at') : oneK4 t e = ([], 1) := by unfold oneK4; rw [if_neg h, if_pos h']
theorem oneK4_form {t : List FileM} {n s : ByteArray} {kd m k : Nat} {f : FileM} (h : findT t n = (k : Int)) (hf : t[k]? = some f) (hm : m ≤ f.lines.length) (hl : lineOk s = false) : oneK4 t ⟨kd, n, (m : Int), s⟩ = ([], 4) := by
  unfold oneK4; simp only; rw [if_neg (by omega), wasL_some h hf, if_neg (by omega), if_pos hl]
theorem oneK4_full {t : List FileM} {n s : ByteArray} {kd m k : Nat} {f : FileM} (h : findT t n = (k : Int)) (hf : t[k]? = some f) (hm : m ≤ f.lines.length) (hl : lineOk s = true) (h60 : 60 ≤ f.lines.length) : oneK4 t ⟨kd, n, (m : Int), s⟩ = ([], 11) := by
  unfold oneK4; simp only; rw [if_neg (by omega), wasL_some h hf, if_neg (by omega), if_neg (by simp [hl]), if_pos h60]
theorem oneK4_ok {t : List FileM} {n s : ByteArray} {kd m k : Nat} {f : FileM} (h : findT t n = (k : Int)) (hf : t[k]? = some f) (hm : m ≤ f.lines.length) (hl : lineOk s = true) (h60 : ¬ 60 ≤ f.lines.length) : oneK4 t ⟨kd, n, (m : Int), s⟩ = (setL t k (f.lines.take m ++ s :: f.lines.drop m), 0) := by
  unfold oneK4; simp only; rw [if_neg (by omega), wasL_some h hf, if_neg (by omega), if_neg (by simp [hl]), if_neg h60, h]; simp

set_option maxHeartbeats 10000000 in
set_option maxRecDepth 100000 in
theorem rone_cut (v : Value) (t : List FileM) (n : ByteArray) (a : Int) (s : ByteArray) (w : World) (hv : FRow w v t) (ht : t.length ≤ 1000) (hl : ∀ f ∈ t, f.lines.length ≤ 1000) :
    Calls Tryd.prog 20 #[v, .agg #[.int .u8 3, .string n, .int .i64 a, .string s]] w (OneRes w (oneK3 t ⟨3, n, a, s⟩)) := by
  have HV := Lib.hid hv
  have HLn := Lib.hid hl
  have HA0 := Lib.hid (arrT_new w [.int .u8 3, .string n, .int .i64 a, .string s] 52)
  have HB0 := Lib.hid (below_box (w := w) (.cells #[.int .u8 3, .string n, .int .i64 a, .string s] 52))
  have HF := Lib.hid (findT_ge t n)
  obtain ⟨aa, cap, rfl, h1, h2, _, hc⟩ := hv.form
  unfold maxLen at h2
  have HC := Lib.hid hc
  clear hv hc hl
  rcases HF.out with hn | ⟨k, f, hq, hf, hfn⟩
  · have HR : Hid (oneK3 t ⟨3, n, a, s⟩ = ([], 6)) := oneK3_none (by show findT t n < 0; omega)
    have hd : decide (findT t n < 0) = true := by rw [hn]; rfl
    clear hn
    go_enter Tryd.func20, Tryd.ntmps20
    go_wp2_with fail
    refine (rfind_any _ t n _ (HV.out.over HB0.out)).mono ?_
    rintro e w1 ⟨rfl, hb1⟩
    have hA := HA0.out.over hb1
    have c0 := hA.arr.cell (j := 0) rfl
    have sA := hA.arr.lt
    have HBw := Lib.hid (below_over HB0.out HB0.out.size hb1)
    clear hA
    go_wp2_with fail
    refine wp_region_lex (C := IsOver w1) 18 [] (by kernel_rfl) (by kernel_rfl) (isOver_of (by repeat (first | exact Below.refl _ _ | apply Below.drew | apply below_drewN | (refine Below.alloc ?_ (by simp) _)))) ?_
    simp only [List.take_succ_cons, List.take_zero, List.drop_succ_cons, List.drop_zero]
    repeat (first | (refine lex_skip rfl rfl ?_; simp only [Act.put, List.setIfInBounds_toArray, List.set_cons_succ, List.set_cons_zero]) | (refine lex_one rfl ?_; go_big_quiet_step (fail); refine wpQuiet_nil ?_))
    refine lex_end ?_
    go_wp2_with fail
    go_ret2
    exact oneRes_bad HR.out rfl HBw.out.drew
  · have hk : k < t.length := (List.getElem?_eq_some_iff.1 hf).1
    have HQ := Lib.hid hq
    have HX := Lib.hid hf
    have hfl := HLn.out f (List.mem_of_getElem? hf)
    have hd : decide ((k : Int) < 0) = false := by simp
    obtain ⟨b, o, rfl, sb, hcf⟩ := HC.out.resolve_left (by omega)
    obtain ⟨av, lv, hat0⟩ := hcf k f hf
    obtain ⟨xl, xlc, el, l1, l2, _, _⟩ := hat0.lines.form
    unfold maxLen at l2
    subst el
    have HAt := Lib.hid hat0
    clear hq hf hfn hcf hat0
    by_cases h0 : a < 0
    · have HR : Hid (oneK3 t ⟨3, n, a, s⟩ = ([], 6)) := oneK3_bad (by show ¬ findT t n < 0; rw [HQ.out]; omega) (.inl h0)
      go_enter Tryd.func20, Tryd.ntmps20
      go_wp2_with fail
      refine (rfind_any _ t n _ (HV.out.over HB0.out)).mono ?_
      rintro e w1 ⟨rfl, hb1⟩
      rw [HQ.out]
      have hA := HA0.out.over hb1
      have c0 := hA.arr.cell (j := 0) rfl
      have c2 := hA.arr.cell (j := 2) rfl
      have sA := hA.arr.lt
      have HBw := Lib.hid (below_over HB0.out HB0.out.size hb1)
      clear hA
      go_wp2_with fail
      refine wp_region_lex (C := IsOver w1) 18 [] (by kernel_rfl) (by kernel_rfl) (isOver_of (by repeat (first | exact Below.refl _ _ | apply Below.drew | apply below_drewN | (refine Below.alloc ?_ (by simp) _)))) ?_
      simp only [List.take_succ_cons, List.take_zero, List.drop_succ_cons, List.drop_zero]
      repeat (first | (refine lex_skip rfl rfl ?_; simp only [Act.put, List.setIfInBounds_toArray, List.set_cons_succ, List.set_cons_zero]) | (refine lex_one rfl ?_; go_big_quiet_step (fail); refine wpQuiet_nil ?_))
      refine lex_end ?_
      go_wp2_with fail
      go_ret2
      exact oneRes_bad HR.out rfl HBw.out.drew
    · obtain ⟨m, rfl⟩ := Int.eq_ofNat_of_zero_le (show 0 ≤ a by omega)
      have hd0 : decide ((m : Int) < 0) = false := by simp
      by_cases hm : m < f.lines.length
      · have HR : Hid (oneK3 t ⟨3, n, (m : Int), s⟩ = (setL t k (f.lines.take m ++ f.lines.drop (m + 1)), 0)) := oneK3_ok HQ.out HX.out hm
        have hdm : decide ((f.lines.length : Int) ≤ (m : Int)) = false := by simp; omega
        clear h0
        go_enter Tryd.func20, Tryd.ntmps20
        go_wp2_with fail
        refine (rfind_any _ t n _ (HV.out.over HB0.out)).mono ?_
        rintro e w1 ⟨rfl, hb1⟩
        rw [HQ.out]
        have hA := HA0.out.over hb1
        have c0 := hA.arr.cell (j := 0) rfl
        have c2 := hA.arr.cell (j := 2) rfl
        have sA := hA.arr.lt
        have hbw := below_over HB0.out HB0.out.size hb1
        have k2 := (HAt.out.over hbw sb).c2
        have sb1 : b < w1.heap.size := Nat.lt_of_lt_of_le sb hbw.size
        have HBw := Lib.hid hbw
        clear hA
        go_wp2_with fail
        refine wp_region_lex (C := IsOver w1) 18 [] (by kernel_rfl) (by kernel_rfl) (isOver_of (by repeat (first | exact Below.refl _ _ | apply Below.drew | apply below_drewN | (refine Below.alloc ?_ (by simp) _)))) ?_
        simp only [List.take_succ_cons, List.take_zero, List.drop_succ_cons, List.drop_zero]
        repeat (first | (refine lex_skip rfl rfl ?_; simp only [Act.put, List.setIfInBounds_toArray, List.set_cons_succ, List.set_cons_zero]) | (refine lex_one rfl ?_; go_big_quiet_step (fail); refine wpQuiet_nil ?_))
        refine lex_end ?_
        go_wp2_with fail
        have hcur : Below w1.heap.size w1 w1.drew.drew := (Below.refl _ _).drew.drew
        refine wp_region_lex (C := IsOver w1) 11 [] (by kernel_rfl) (by kernel_rfl) (isOver_of (by repeat (first | exact Below.refl _ _ | apply Below.drew | apply below_drewN | (refine Below.alloc ?_ (by simp) _)))) ?_
        simp only [List.take_succ_cons, List.take_zero, List.drop_succ_cons, List.drop_zero]
        repeat (first | (refine lex_skip rfl rfl ?_; simp only [Act.put, List.setIfInBounds_toArray, List.set_cons_succ, List.set_cons_zero]) | (refine lex_one rfl ?_; go_big_quiet_step (fail); refine wpQuiet_nil ?_) | (refine lex_loud rfl ?_; go_wp2_with (first | (go_at_call 39; (with_reducible refine (without_any _ f.lines m _ (((HAt.out.lines.over HBw.out).over hcur)) hm hfl).mono ?_); rintro e w' ⟨vw, rfl, hvw, hb⟩; have HVw := Lib.hid hvw; replace hcur := below_over hcur hcur.size hb; clear hb hvw) | (go_at_call 38; (with_reducible refine (set_any _ _ t k _ _ ((HV.out.over HBw.out).over hcur) HVw.out hk ht).mono ?_); rintro e w' ⟨vs, rfl, hvs, hb⟩; have HVs := Lib.hid hvs; replace hcur := below_over hcur hcur.size hb; clear hb hvs)); refine ⟨isOver_of hcur, ?_⟩))
        refine lex_end ?_
        go_wp2_with fail
        go_ret2
        exact oneRes_ok HR.out HVs.out (below_over HBw.out HBw.out.size hcur)
      · have HR : Hid (oneK3 t ⟨3, n, (m : Int), s⟩ = ([], 6)) := oneK3_bad (by show ¬ findT t n < 0; rw [HQ.out]; omega) (.inr (by show ((wasL t n).length : Int) ≤ (m : Int); rw [wasL_some HQ.out HX.out]; omega))
        have hdm : decide ((f.lines.length : Int) ≤ (m : Int)) = true := by simp; omega
        clear h0
        go_enter Tryd.func20, Tryd.ntmps20
        go_wp2_with fail
        refine (rfind_any _ t n _ (HV.out.over HB0.out)).mono ?_
        rintro e w1 ⟨rfl, hb1⟩
        rw [HQ.out]
        have hA := HA0.out.over hb1
        have c0 := hA.arr.cell (j := 0) rfl
        have c2 := hA.arr.cell (j := 2) rfl
        have sA := hA.arr.lt
        have hbw := below_over HB0.out HB0.out.size hb1
        have k2 := (HAt.out.over hbw sb).c2
        have sb1 : b < w1.heap.size := Nat.lt_of_lt_of_le sb hbw.size
        have HBw := Lib.hid hbw
        clear hA
        go_wp2_with fail
        refine wp_region_lex (C := IsOver w1) 18 [] (by kernel_rfl) (by kernel_rfl) (isOver_of (by repeat (first | exact Below.refl _ _ | apply Below.drew | apply below_drewN | (refine Below.alloc ?_ (by simp) _)))) ?_
        simp only [List.take_succ_cons, List.take_zero, List.drop_succ_cons, List.drop_zero]
        repeat (first | (refine lex_skip rfl rfl ?_; simp only [Act.put, List.setIfInBounds_toArray, List.set_cons_succ, List.set_cons_zero]) | (refine lex_one rfl ?_; go_big_quiet_step (fail); refine wpQuiet_nil ?_))
        refine lex_end ?_
        go_wp2_with fail
        go_ret2
        exact oneRes_bad HR.out rfl HBw.out.drew
end Go.Proofs.YtipbknkjledebaaDoor
