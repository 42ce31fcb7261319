/- Contracts of bruitref50.one: what puts a line; all together. -/
import Derived.Test.YtipbknkjledebaaDoorDiffL
namespace Go.Proofs.YtipbknkjledebaaDoor
open Go Go.RowKit

set_option maxHeartbeats 10000000 in
set_option maxRecDepth 100000 in
theorem rone_put (v : Value) (t : List FileM) (n : ByteArray) (a : Int) (s : ByteArray) (w : World) (hv : FRow w v t) (ht : t.length ≤ 1000) (hl : ∀ f ∈ t, f.lines.length ≤ 1000) (hz : s.size ≤ maxLen) :
    Calls Tryd.prog 20 #[v, .agg #[.int .u8 4, .string n, .int .i64 a, .string s]] w (OneRes w (oneK4 t ⟨4, n, a, s⟩)) := by
  have HV := Lib.hid hv
  have HZ := Lib.hid hz
  have HLn := Lib.hid hl
  have HA0 := Lib.hid (arrT_new w [.int .u8 4, .string n, .int .i64 a, .string s] 52)
  have HB0 := Lib.hid (below_box (w := w) (.cells #[.int .u8 4, .string n, .int .i64 a, .string s] 52))
  have HF := Lib.hid (findT_ge t n)
  obtain ⟨aa, cap, rfl, h1, h2, _, hc⟩ := hv.form
  unfold maxLen at h2
  have HC := Lib.hid hc
  clear hv hc hl hz
  rcases HF.out with hn | ⟨k, f, hq, hf, hfn⟩
  · have HR : Hid (oneK4 t ⟨4, n, a, s⟩ = ([], 6)) := oneK4_none (by show findT t n < 0; omega)
    have hd : decide (findT t n < 0) = true := by rw [hn]; rfl
    clear hn
    go_enter Tryd.func20, Tryd.ntmps20
    go_wp2_with fail
    refine (rfind_any _ t n _ (HV.out.over HB0.out)).mono ?_
    rintro e w1 ⟨rfl, hb1⟩
    have hA := HA0.out.over hb1
    have c0 := hA.arr.cell (j := 0) rfl
    have c2 := hA.arr.cell (j := 2) rfl
    have c3 := hA.arr.cell (j := 3) rfl
    have sA := hA.arr.lt
    have HA1 := Lib.hid hA
    have hbw := below_over HB0.out HB0.out.size hb1
    have HBw := Lib.hid hbw
    clear hA
    go_wp2_with fail
    go_ret2
    exact oneRes_bad HR.out rfl HBw.out
  · have hk : k < t.length := (List.getElem?_eq_some_iff.1 hf).1
    have HQ := Lib.hid hq
    have HX := Lib.hid hf
    have hfl := HLn.out f (List.mem_of_getElem? hf)
    have hd : decide ((k : Int) < 0) = false := by simp
    obtain ⟨b, o, rfl, sb, hcf⟩ := HC.out.resolve_left (by omega)
    obtain ⟨av, lv, hat0⟩ := hcf k f hf
    obtain ⟨xl, xlc, el, l1, l2, _, _⟩ := hat0.lines.form
    unfold maxLen at l2
    subst el
    have HAt := Lib.hid hat0
    clear hq hf hfn hcf hat0
    by_cases h0 : a < 0
    · have HR : Hid (oneK4 t ⟨4, n, a, s⟩ = ([], 1)) := oneK4_bad (by show ¬ findT t n < 0; rw [HQ.out]; omega) (.inl h0)
      go_enter Tryd.func20, Tryd.ntmps20
      go_wp2_with fail
      refine (rfind_any _ t n _ (HV.out.over HB0.out)).mono ?_
      rintro e w1 ⟨rfl, hb1⟩
      rw [HQ.out]
      have hA := HA0.out.over hb1
      have c0 := hA.arr.cell (j := 0) rfl
      have c2 := hA.arr.cell (j := 2) rfl
      have c3 := hA.arr.cell (j := 3) rfl
      have sA := hA.arr.lt
      have HA1 := Lib.hid hA
      have hbw := below_over HB0.out HB0.out.size hb1
      have HBw := Lib.hid hbw
      clear hA
      go_wp2_with fail
      refine wp_region_lex (C := IsOver w1) 14 [] (by kernel_rfl) (by kernel_rfl) (isOver_of (by repeat (first | exact Below.refl _ _ | apply Below.drew | apply below_drewN | (refine Below.alloc ?_ (by simp) _)))) ?_
      simp only [List.take_succ_cons, List.take_zero, List.drop_succ_cons, List.drop_zero]
      repeat (first | (refine lex_skip rfl rfl ?_; simp only [Act.put, List.setIfInBounds_toArray, List.set_cons_succ, List.set_cons_zero]) | (refine lex_one rfl ?_; go_big_quiet_step (fail); refine wpQuiet_nil ?_))
      refine lex_end ?_
      go_wp2_with fail
      go_ret2
      exact oneRes_bad HR.out rfl HBw.out.drew
    · obtain ⟨m, rfl⟩ := Int.eq_ofNat_of_zero_le (show 0 ≤ a by omega)
      have hd0 : decide ((m : Int) < 0) = false := by simp
      by_cases hm : m ≤ f.lines.length
      · have hdm : decide ((f.lines.length : Int) < (m : Int)) = false := by simp; omega
        clear h0
        cases hok : lineOk s with
        | false =>
          have HR : Hid (oneK4 t ⟨4, n, (m : Int), s⟩ = ([], 4)) := oneK4_form HQ.out HX.out hm hok
          go_enter Tryd.func20, Tryd.ntmps20
          go_wp2_with fail
          refine (rfind_any _ t n _ (HV.out.over HB0.out)).mono ?_
          rintro e w1 ⟨rfl, hb1⟩
          rw [HQ.out]
          have hA := HA0.out.over hb1
          have c0 := hA.arr.cell (j := 0) rfl
          have c2 := hA.arr.cell (j := 2) rfl
          have c3 := hA.arr.cell (j := 3) rfl
          have sA := hA.arr.lt
          have HA1 := Lib.hid hA
          have hbw := below_over HB0.out HB0.out.size hb1
          have HBw := Lib.hid hbw
          have k2 := (HAt.out.over hbw sb).c2
          have sb1 : b < w1.heap.size := Nat.lt_of_lt_of_le sb hbw.size
          clear hA
          go_wp2_with fail
          refine wp_region_lex (C := IsOver w1) 14 [] (by kernel_rfl) (by kernel_rfl) (isOver_of (by repeat (first | exact Below.refl _ _ | apply Below.drew | apply below_drewN | (refine Below.alloc ?_ (by simp) _)))) ?_
          simp only [List.take_succ_cons, List.take_zero, List.drop_succ_cons, List.drop_zero]
          repeat (first | (refine lex_skip rfl rfl ?_; simp only [Act.put, List.setIfInBounds_toArray, List.set_cons_succ, List.set_cons_zero]) | (refine lex_one rfl ?_; go_big_quiet_step (fail); refine wpQuiet_nil ?_))
          refine lex_end ?_
          go_wp2_with fail
          refine (rline_any s _ HZ.out).mono ?_
          rintro e w2 ⟨rfl, hb2⟩
          have HBw2 := Lib.hid (below_over HBw.out.drew HBw.out.drew.size hb2)
          go_wp2_with fail
          go_ret2
          exact oneRes_bad HR.out rfl HBw2.out
        | true =>
          by_cases h60 : 60 ≤ f.lines.length
          · have HR : Hid (oneK4 t ⟨4, n, (m : Int), s⟩ = ([], 11)) := oneK4_full HQ.out HX.out hm hok h60
            go_enter Tryd.func20, Tryd.ntmps20
            go_wp2_with fail
            refine (rfind_any _ t n _ (HV.out.over HB0.out)).mono ?_
            rintro e w1 ⟨rfl, hb1⟩
            rw [HQ.out]
            have hA := HA0.out.over hb1
            have c0 := hA.arr.cell (j := 0) rfl
            have c2 := hA.arr.cell (j := 2) rfl
            have c3 := hA.arr.cell (j := 3) rfl
            have sA := hA.arr.lt
            have HA1 := Lib.hid hA
            have hbw := below_over HB0.out HB0.out.size hb1
            have HBw := Lib.hid hbw
            have k2 := (HAt.out.over hbw sb).c2
            have sb1 : b < w1.heap.size := Nat.lt_of_lt_of_le sb hbw.size
            clear hA
            go_wp2_with fail
            refine wp_region_lex (C := IsOver w1) 14 [] (by kernel_rfl) (by kernel_rfl) (isOver_of (by repeat (first | exact Below.refl _ _ | apply Below.drew | apply below_drewN | (refine Below.alloc ?_ (by simp) _)))) ?_
            simp only [List.take_succ_cons, List.take_zero, List.drop_succ_cons, List.drop_zero]
            repeat (first | (refine lex_skip rfl rfl ?_; simp only [Act.put, List.setIfInBounds_toArray, List.set_cons_succ, List.set_cons_zero]) | (refine lex_one rfl ?_; go_big_quiet_step (fail); refine wpQuiet_nil ?_))
            refine lex_end ?_
            go_wp2_with fail
            refine (rline_any s _ HZ.out).mono ?_
            rintro e w2 ⟨rfl, hb2⟩
            have HBw2 := Lib.hid (below_over HBw.out.drew HBw.out.drew.size hb2)
            have q2 := (HAt.out.over HBw2.out sb).c2
            have sb2 : b < w2.heap.size := Nat.lt_of_lt_of_le sb HBw2.out.size
            go_wp2_with fail
            go_ret2
            exact oneRes_bad HR.out rfl HBw2.out
          · have HR : Hid (oneK4 t ⟨4, n, (m : Int), s⟩ = (setL t k (f.lines.take m ++ s :: f.lines.drop m), 0)) := oneK4_ok HQ.out HX.out hm hok h60
            go_enter Tryd.func20, Tryd.ntmps20
            go_wp2_with fail
            refine (rfind_any _ t n _ (HV.out.over HB0.out)).mono ?_
            rintro e w1 ⟨rfl, hb1⟩
            rw [HQ.out]
            have hA := HA0.out.over hb1
            have c0 := hA.arr.cell (j := 0) rfl
            have c2 := hA.arr.cell (j := 2) rfl
            have c3 := hA.arr.cell (j := 3) rfl
            have sA := hA.arr.lt
            have HA1 := Lib.hid hA
            have hbw := below_over HB0.out HB0.out.size hb1
            have HBw := Lib.hid hbw
            have k2 := (HAt.out.over hbw sb).c2
            have sb1 : b < w1.heap.size := Nat.lt_of_lt_of_le sb hbw.size
            clear hA
            go_wp2_with fail
            refine wp_region_lex (C := IsOver w1) 14 [] (by kernel_rfl) (by kernel_rfl) (isOver_of (by repeat (first | exact Below.refl _ _ | apply Below.drew | apply below_drewN | (refine Below.alloc ?_ (by simp) _)))) ?_
            simp only [List.take_succ_cons, List.take_zero, List.drop_succ_cons, List.drop_zero]
            repeat (first | (refine lex_skip rfl rfl ?_; simp only [Act.put, List.setIfInBounds_toArray, List.set_cons_succ, List.set_cons_zero]) | (refine lex_one rfl ?_; go_big_quiet_step (fail); refine wpQuiet_nil ?_))
            refine lex_end ?_
            go_wp2_with fail
            refine (rline_any s _ HZ.out).mono ?_
            rintro e w2 ⟨rfl, hb2⟩
            have HBw2 := Lib.hid (below_over HBw.out.drew HBw.out.drew.size hb2)
            have q2 := (HAt.out.over HBw2.out sb).c2
            have sb2 : b < w2.heap.size := Nat.lt_of_lt_of_le sb HBw2.out.size
            have hA2 := (show ArrT w1.drew w.heap.size 52 _ from HA1.out).over hb2
            have e2 := hA2.arr.cell (j := 2) rfl
            have e3 := hA2.arr.cell (j := 3) rfl
            have sA2 := hA2.arr.lt
            clear hA2 k2 c2 c3 c0
            go_wp2_with fail
            have hcur : Below w2.heap.size w2 w2.drew := (Below.refl _ _).drew
            refine wp_region_lex (C := IsOver w2) 13 [] (by kernel_rfl) (by kernel_rfl) (isOver_of (by repeat (first | exact Below.refl _ _ | apply Below.drew | apply below_drewN | (refine Below.alloc ?_ (by simp) _)))) ?_
            simp only [List.take_succ_cons, List.take_zero, List.drop_succ_cons, List.drop_zero]
            repeat (first | (refine lex_skip rfl rfl ?_; simp only [Act.put, List.setIfInBounds_toArray, List.set_cons_succ, List.set_cons_zero]) | (refine lex_one rfl ?_; go_big_quiet_step (fail); refine wpQuiet_nil ?_) | (refine lex_loud rfl ?_; go_wp2_with (first | (go_at_call 40; (with_reducible refine (with_any _ f.lines m s _ (((HAt.out.lines.over HBw2.out).over hcur)) hm hfl).mono ?_); rintro e w' ⟨vw, rfl, hvw, hb⟩; have HVw := Lib.hid hvw; replace hcur := below_over hcur hcur.size hb; clear hb hvw) | (go_at_call 38; (with_reducible refine (set_any _ _ t k _ _ ((HV.out.over HBw2.out).over hcur) HVw.out hk ht).mono ?_); rintro e w' ⟨vs, rfl, hvs, hb⟩; have HVs := Lib.hid hvs; replace hcur := below_over hcur hcur.size hb; clear hb hvs)); refine ⟨isOver_of hcur, ?_⟩))
            refine lex_end ?_
            go_wp2_with fail
            go_ret2
            exact oneRes_ok HR.out HVs.out (below_over HBw2.out HBw2.out.size hcur)
      · have HR : Hid (oneK4 t ⟨4, n, (m : Int), s⟩ = ([], 1)) := oneK4_bad (by show ¬ findT t n < 0; rw [HQ.out]; omega) (.inr (by show ((wasL t n).length : Int) < (m : Int); rw [wasL_some HQ.out HX.out]; omega))
        have hdm : decide ((f.lines.length : Int) < (m : Int)) = true := by simp; omega
        clear h0
        go_enter Tryd.func20, Tryd.ntmps20
        go_wp2_with fail
        refine (rfind_any _ t n _ (HV.out.over HB0.out)).mono ?_
        rintro e w1 ⟨rfl, hb1⟩
        rw [HQ.out]
        have hA := HA0.out.over hb1
        have c0 := hA.arr.cell (j := 0) rfl
        have c2 := hA.arr.cell (j := 2) rfl
        have c3 := hA.arr.cell (j := 3) rfl
        have sA := hA.arr.lt
        have HA1 := Lib.hid hA
        have hbw := below_over HB0.out HB0.out.size hb1
        have HBw := Lib.hid hbw
        have k2 := (HAt.out.over hbw sb).c2
        have sb1 : b < w1.heap.size := Nat.lt_of_lt_of_le sb hbw.size
        clear hA
        go_wp2_with fail
        refine wp_region_lex (C := IsOver w1) 14 [] (by kernel_rfl) (by kernel_rfl) (isOver_of (by repeat (first | exact Below.refl _ _ | apply Below.drew | apply below_drewN | (refine Below.alloc ?_ (by simp) _)))) ?_
        simp only [List.take_succ_cons, List.take_zero, List.drop_succ_cons, List.drop_zero]
        repeat (first | (refine lex_skip rfl rfl ?_; simp only [Act.put, List.setIfInBounds_toArray, List.set_cons_succ, List.set_cons_zero]) | (refine lex_one rfl ?_; go_big_quiet_step (fail); refine wpQuiet_nil ?_))
        refine lex_end ?_
        go_wp2_with fail
        go_ret2
        exact oneRes_bad HR.out rfl HBw.out.drew

set_option maxHeartbeats 10000000 in
set_option maxRecDepth 100000 in
theorem rone_other (v : Value) (t : List FileM) (kd : Nat) (n : ByteArray) (a : Int) (s : ByteArray) (w : World) (hv : FRow w v t) (hk : kd ≠ 1 ∧ kd ≠ 2 ∧ kd ≠ 3 ∧ kd ≠ 4) :
    Calls Tryd.prog 20 #[v, .agg #[.int .u8 (kd : Int), .string n, .int .i64 a, .string s]] w (OneRes w ([], 1)) := by
  have HV := Lib.hid hv
  have HA0 := Lib.hid (arrT_new w [.int .u8 (kd : Int), .string n, .int .i64 a, .string s] 52)
  have HB0 := Lib.hid (below_box (w := w) (.cells #[.int .u8 (kd : Int), .string n, .int .i64 a, .string s] 52))
  have e1 : ((kd : Int) == 1) = false := by simp; omega
  have e2 : ((kd : Int) == 2) = false := by simp; omega
  have e3 : ((kd : Int) == 3) = false := by simp; omega
  have e4 : ((kd : Int) == 4) = false := by simp; omega
  clear hv hk
  go_enter Tryd.func20, Tryd.ntmps20
  go_wp2_with fail
  refine (rfind_any _ t n _ (HV.out.over HB0.out)).mono ?_
  rintro e w1 ⟨rfl, hb1⟩
  have hA := HA0.out.over hb1
  have c0 := hA.arr.cell (j := 0) rfl
  have c2 := hA.arr.cell (j := 2) rfl
  have c3 := hA.arr.cell (j := 3) rfl
  have sA := hA.arr.lt
  have HA1 := Lib.hid hA
  have hbw := below_over HB0.out HB0.out.size hb1
  have HBw := Lib.hid hbw
  clear hA
  go_wp2_with fail
  go_ret2
  exact oneRes_bad rfl rfl HBw.out

theorem oneE_def (t : List FileM) (e : EditM) : oneE t e = if e.kind = 1 then oneK1 t e.name else if e.kind = 2 then oneK2 t e.name else if e.kind = 3 then oneK3 t e else if e.kind = 4 then oneK4 t e else ([], 1) := by unfold oneE; rfl
theorem rone_any (v : Value) (t : List FileM) (e : EditM) (w : World) (hv : FRow w v t) (ht : t.length ≤ 1000) (hl : ∀ f ∈ t, f.lines.length ≤ 1000) (hn : e.name.size ≤ maxLen) (hz : e.text.size ≤ maxLen) :
    Calls Tryd.prog 20 #[v, .agg #[.int .u8 (e.kind : Int), .string e.name, .int .i64 e.at', .string e.text]] w (OneRes w (oneE t e)) := by
  obtain ⟨kd, n, a, s⟩ := e
  rw [oneE_def]
  by_cases h1 : kd = 1
  · subst h1; exact rone_drop v t n a s w hv ht
  · by_cases h2 : kd = 2
    · subst h2; exact rone_make v t n a s w hv ht hn
    · by_cases h3 : kd = 3
      · subst h3; exact rone_cut v t n a s w hv ht hl
      · by_cases h4 : kd = 4
        · subst h4; exact rone_put v t n a s w hv ht hl hz
        · simp only [if_neg h1, if_neg h2, if_neg h3, if_neg h4]
          exact rone_other v t kd n a s w hv ⟨h1, h2, h3, h4⟩
end Go.Proofs.YtipbknkjledebaaDoor
