/- Contracts of pid.Cmp, Good, vid.Cmp, Good, patch.Vid, op.Makes; of the references' sign, Cmp, Good, Vid, Makes. -/
import Derived.Test.YtfciedmmgddgpaaGreatDoorZEqs
namespace Go.Proofs.YtfciedmmgddgpaaGreatDoor
open Go Go.RowKit

attribute [local irreducible] packPid packVid cmpN
set_option maxHeartbeats 1000000 in
set_option maxRecDepth 100000 in
theorem pcmp_any (a b : PidM) (w : World) : Calls Tryz.prog 103 #[pidV a, pidV b] w fun e w' => e = .returned (.int .i64 (cmpPid a b)) ∧ Below w.heap.size w w' := by
  have HA := Lib.hid ((arr_new w #[.int .u8 (a.author.toNat : Int), .int .u16 (a.seq.toNat : Int)] 25).alloc (.cells #[.int .u8 (b.author.toNat : Int), .int .u16 (b.seq.toNat : Int)] 25))
  have HC := Lib.hid (arr_new2 w (.cells #[.int .u8 (a.author.toNat : Int), .int .u16 (a.seq.toNat : Int)] 25) #[.int .u8 (b.author.toNat : Int), .int .u16 (b.seq.toNat : Int)] 25)
  have HB := Lib.hid ((below_new (w := w) (.cells #[.int .u8 (a.author.toNat : Int), .int .u16 (a.seq.toNat : Int)] 25)).alloc (by simp) (.cells #[.int .u8 (b.author.toNat : Int), .int .u16 (b.seq.toNat : Int)] 25))
  unfold pidV
  go_enter Tryz.func103, Tryz.ntmps103
  go_wp2_with fail
  generalize hw0 : (w.alloc (.cells #[.int .u8 (a.author.toNat : Int), .int .u16 (a.seq.toNat : Int)] 25)).alloc (.cells #[.int .u8 (b.author.toNat : Int), .int .u16 (b.seq.toNat : Int)] 25) = w0 at *
  have c0 := HA.out.cell (j := 0) rfl
  have c1 := HA.out.cell (j := 1) rfl
  have sA := HA.out.lt
  have d0 := HC.out.cell (j := 0) rfl
  have d1 := HC.out.cell (j := 1) rfl
  have sC := HC.out.lt
  clear hw0
  have hcur : Below w0.heap.size w0 w0.drew := (Below.refl _ _).drew
  refine wp_region_lex (C := IsOver w0) 6 [] (by kernel_rfl) (by kernel_rfl) (isOver_of (by repeat (first | exact Below.refl _ _ | apply Below.drew | apply below_drewN | (refine Below.alloc ?_ (by simp) _)))) ?_
  simp only [List.take_succ_cons, List.take_zero, List.drop_succ_cons, List.drop_zero]
  repeat (first | (refine lex_skip rfl rfl ?_; simp only [Act.put, List.setIfInBounds_toArray, List.set_cons_succ, List.set_cons_zero]) | (refine lex_one rfl ?_; go_big_quiet_step (fail); refine wpQuiet_nil ?_) | (refine lex_loud rfl ?_; go_wp2_with (first | (go_at_call 137; (with_reducible refine (ppack_any _ _).mono ?_); rintro e w' ⟨rfl, hb⟩; replace hcur := below_over hcur hcur.size hb; clear hb) | (go_at_call 119; (with_reducible refine (compare_any _ _ _).mono ?_); rintro e w' ⟨rfl, rfl⟩)); refine ⟨isOver_of hcur, ?_⟩))
  refine lex_end ?_
  go_wp2_with fail
  go_ret
  exact ⟨rfl, below_over HB.out HB.out.size hcur⟩

set_option maxHeartbeats 1000000 in
set_option maxRecDepth 100000 in
theorem vcmp_any (a b : VidM) (w : World) : Calls Tryz.prog 85 #[vidV a, vidV b] w fun e w' => e = .returned (.int .i64 (cmpVid a b)) ∧ Below w.heap.size w w' := by
  have HA := Lib.hid ((arr_new w #[.int .u8 (a.pid.author.toNat : Int), .int .u16 (a.pid.seq.toNat : Int), .int .u8 (a.n.toNat : Int)] 27).alloc (.cells #[.int .u8 (b.pid.author.toNat : Int), .int .u16 (b.pid.seq.toNat : Int), .int .u8 (b.n.toNat : Int)] 27))
  have HC := Lib.hid (arr_new2 w (.cells #[.int .u8 (a.pid.author.toNat : Int), .int .u16 (a.pid.seq.toNat : Int), .int .u8 (a.n.toNat : Int)] 27) #[.int .u8 (b.pid.author.toNat : Int), .int .u16 (b.pid.seq.toNat : Int), .int .u8 (b.n.toNat : Int)] 27)
  have HB := Lib.hid ((below_new (w := w) (.cells #[.int .u8 (a.pid.author.toNat : Int), .int .u16 (a.pid.seq.toNat : Int), .int .u8 (a.n.toNat : Int)] 27)).alloc (by simp) (.cells #[.int .u8 (b.pid.author.toNat : Int), .int .u16 (b.pid.seq.toNat : Int), .int .u8 (b.n.toNat : Int)] 27))
  unfold vidV
  go_enter Tryz.func85, Tryz.ntmps85
  go_wp2_with fail
  generalize hw0 : (w.alloc (.cells #[.int .u8 (a.pid.author.toNat : Int), .int .u16 (a.pid.seq.toNat : Int), .int .u8 (a.n.toNat : Int)] 27)).alloc (.cells #[.int .u8 (b.pid.author.toNat : Int), .int .u16 (b.pid.seq.toNat : Int), .int .u8 (b.n.toNat : Int)] 27) = w0 at *
  have c0 := HA.out.cell (j := 0) rfl
  have c1 := HA.out.cell (j := 1) rfl
  have c2 := HA.out.cell (j := 2) rfl
  have sA := HA.out.lt
  have d0 := HC.out.cell (j := 0) rfl
  have d1 := HC.out.cell (j := 1) rfl
  have d2 := HC.out.cell (j := 2) rfl
  have sC := HC.out.lt
  clear hw0
  have hcur : Below w0.heap.size w0 w0.drew := (Below.refl _ _).drew
  refine wp_region_lex (C := IsOver w0) 6 [] (by kernel_rfl) (by kernel_rfl) (isOver_of (by repeat (first | exact Below.refl _ _ | apply Below.drew | apply below_drewN | (refine Below.alloc ?_ (by simp) _)))) ?_
  simp only [List.take_succ_cons, List.take_zero, List.drop_succ_cons, List.drop_zero]
  repeat (first | (refine lex_skip rfl rfl ?_; simp only [Act.put, List.setIfInBounds_toArray, List.set_cons_succ, List.set_cons_zero]) | (refine lex_one rfl ?_; go_big_quiet_step (fail); refine wpQuiet_nil ?_) | (refine lex_loud rfl ?_; go_wp2_with (first | (go_at_call 120; (with_reducible refine (vpack_any _ _).mono ?_); rintro e w' ⟨rfl, hb⟩; replace hcur := below_over hcur hcur.size hb; clear hb) | (go_at_call 119; (with_reducible refine (compare_any _ _ _).mono ?_); rintro e w' ⟨rfl, rfl⟩)); refine ⟨isOver_of hcur, ?_⟩))
  refine lex_end ?_
  go_wp2_with fail
  go_ret
  exact ⟨rfl, below_over HB.out HB.out.size hcur⟩

set_option maxHeartbeats 1000000 in
set_option maxRecDepth 100000 in
theorem pgoodPid_any (p : PidM) (w : World) : Calls Tryz.prog 67 #[pidV p] w fun e w' => e = .returned (.bool (goodPid p)) ∧ Below w.heap.size w w' := by
  have HB := Lib.hid (below_new (w := w) (.cells #[.int .u8 (p.author.toNat : Int), .int .u16 (p.seq.toNat : Int)] 25))
  have HG : Hid (goodPid p = (decide (1 ≤ p.author.toNat) && (decide (p.author.toNat ≤ 64) && (decide (1 ≤ p.seq.toNat) && decide (p.seq.toNat ≤ 60000))))) := rfl
  unfold pidV
  by_cases h1 : 1 ≤ p.author.toNat
  · have e1 : decide ((1 : Int) ≤ (p.author.toNat : Int)) = true := by simp; omega
    by_cases h2 : p.author.toNat ≤ 64
    · have e2 : decide ((p.author.toNat : Int) ≤ 64) = true := by simp; omega
      by_cases h3 : 1 ≤ p.seq.toNat
      · have e3 : decide ((1 : Int) ≤ (p.seq.toNat : Int)) = true := by simp; omega
        by_cases h4 : p.seq.toNat ≤ 60000
        · have e4 : decide ((p.seq.toNat : Int) ≤ 60000) = true := by simp; omega
          have HV : Hid (goodPid p = true) := by show _ = _; rw [HG.out]; simp [h1, h2, h3, h4]
          go_enter Tryz.func67, Tryz.ntmps67
          go_wp2_with fail
          go_ret
          exact ⟨ret_val (congrArg Value.bool HV.out.symm), HB.out⟩
        · have e4 : decide ((p.seq.toNat : Int) ≤ 60000) = false := by simp; omega
          have HV : Hid (goodPid p = false) := by show _ = _; rw [HG.out]; simp [h1, h2, h3]; omega
          go_enter Tryz.func67, Tryz.ntmps67
          go_wp2_with fail
          go_ret
          exact ⟨ret_val (congrArg Value.bool HV.out.symm), HB.out⟩
      · have e3 : decide ((1 : Int) ≤ (p.seq.toNat : Int)) = false := by simp; omega
        have HV : Hid (goodPid p = false) := by show _ = _; rw [HG.out]; simp [h1, h2]; omega
        go_enter Tryz.func67, Tryz.ntmps67
        go_wp2_with fail
        go_ret
        exact ⟨ret_val (congrArg Value.bool HV.out.symm), HB.out⟩
    · have e2 : decide ((p.author.toNat : Int) ≤ 64) = false := by simp; omega
      have HV : Hid (goodPid p = false) := by show _ = _; rw [HG.out]; simp [h1]; omega
      go_enter Tryz.func67, Tryz.ntmps67
      go_wp2_with fail
      go_ret
      exact ⟨ret_val (congrArg Value.bool HV.out.symm), HB.out⟩
  · have e1 : decide ((1 : Int) ≤ (p.author.toNat : Int)) = false := by simp; omega
    have HV : Hid (goodPid p = false) := by show _ = _; rw [HG.out]; simp; omega
    go_enter Tryz.func67, Tryz.ntmps67
    go_wp2_with fail
    go_ret
    exact ⟨ret_val (congrArg Value.bool HV.out.symm), HB.out⟩

set_option maxHeartbeats 1000000 in
set_option maxRecDepth 100000 in
theorem rgoodPid_any (p : PidM) (w : World) : Calls Tryz.prog 113 #[pidV p] w fun e w' => e = .returned (.bool (goodPid p)) ∧ Below w.heap.size w w' := by
  have HB := Lib.hid (below_new (w := w) (.cells #[.int .u8 (p.author.toNat : Int), .int .u16 (p.seq.toNat : Int)] 25))
  have HG : Hid (goodPid p = (decide (1 ≤ p.author.toNat) && (decide (p.author.toNat ≤ 64) && (decide (1 ≤ p.seq.toNat) && decide (p.seq.toNat ≤ 60000))))) := rfl
  unfold pidV
  by_cases h1 : 1 ≤ p.author.toNat
  · have e1 : decide ((1 : Int) ≤ (p.author.toNat : Int)) = true := by simp; omega
    by_cases h2 : p.author.toNat ≤ 64
    · have e2 : decide ((p.author.toNat : Int) ≤ 64) = true := by simp; omega
      by_cases h3 : 1 ≤ p.seq.toNat
      · have e3 : decide ((1 : Int) ≤ (p.seq.toNat : Int)) = true := by simp; omega
        by_cases h4 : p.seq.toNat ≤ 60000
        · have e4 : decide ((p.seq.toNat : Int) ≤ 60000) = true := by simp; omega
          have HV : Hid (goodPid p = true) := by show _ = _; rw [HG.out]; simp [h1, h2, h3, h4]
          go_enter Tryz.func113, Tryz.ntmps113
          go_wp2_with fail
          go_ret
          exact ⟨ret_val (congrArg Value.bool HV.out.symm), HB.out⟩
        · have e4 : decide ((p.seq.toNat : Int) ≤ 60000) = false := by simp; omega
          have HV : Hid (goodPid p = false) := by show _ = _; rw [HG.out]; simp [h1, h2, h3]; omega
          go_enter Tryz.func113, Tryz.ntmps113
          go_wp2_with fail
          go_ret
          exact ⟨ret_val (congrArg Value.bool HV.out.symm), HB.out⟩
      · have e3 : decide ((1 : Int) ≤ (p.seq.toNat : Int)) = false := by simp; omega
        have HV : Hid (goodPid p = false) := by show _ = _; rw [HG.out]; simp [h1, h2]; omega
        go_enter Tryz.func113, Tryz.ntmps113
        go_wp2_with fail
        go_ret
        exact ⟨ret_val (congrArg Value.bool HV.out.symm), HB.out⟩
    · have e2 : decide ((p.author.toNat : Int) ≤ 64) = false := by simp; omega
      have HV : Hid (goodPid p = false) := by show _ = _; rw [HG.out]; simp [h1]; omega
      go_enter Tryz.func113, Tryz.ntmps113
      go_wp2_with fail
      go_ret
      exact ⟨ret_val (congrArg Value.bool HV.out.symm), HB.out⟩
  · have e1 : decide ((1 : Int) ≤ (p.author.toNat : Int)) = false := by simp; omega
    have HV : Hid (goodPid p = false) := by show _ = _; rw [HG.out]; simp; omega
    go_enter Tryz.func113, Tryz.ntmps113
    go_wp2_with fail
    go_ret
    exact ⟨ret_val (congrArg Value.bool HV.out.symm), HB.out⟩

set_option maxHeartbeats 1000000 in
set_option maxRecDepth 100000 in
theorem pgoodVid_any (v : VidM) (w : World) : Calls Tryz.prog 105 #[vidV v] w fun e w' => e = .returned (.bool (goodVid v)) ∧ Below w.heap.size w w' := by
  have HB := Lib.hid (below_new (w := w) (.cells #[.int .u8 (v.pid.author.toNat : Int), .int .u16 (v.pid.seq.toNat : Int), .int .u8 (v.n.toNat : Int)] 27))
  have HA := Lib.hid (arrT_new w [.int .u8 (v.pid.author.toNat : Int), .int .u16 (v.pid.seq.toNat : Int), .int .u8 (v.n.toNat : Int)] 27)
  have HG : Hid (goodVid v = (goodPid v.pid && decide (v.n.toNat < 200))) := rfl
  unfold vidV
  cases hg : goodPid v.pid with
  | false =>
    have HV : Hid (goodVid v = false) := by show _ = _; rw [HG.out, hg]; rfl
    go_enter Tryz.func105, Tryz.ntmps105
    go_wp2_with fail
    generalize hw0 : w.alloc (.cells #[.int .u8 (v.pid.author.toNat : Int), .int .u16 (v.pid.seq.toNat : Int), .int .u8 (v.n.toNat : Int)] 27) = w0 at *
    have c0 := HA.out.arr.cell (j := 0) rfl
    have c1 := HA.out.arr.cell (j := 1) rfl
    have c2 := HA.out.arr.cell (j := 2) rfl
    have sA := HA.out.arr.lt
    refine (pgoodPid_any v.pid _).mono ?_
    rintro e w1 ⟨rfl, hb1⟩
    have HA1 := Lib.hid (HA.out.over hb1)
    have k0 := HA1.out.arr.cell (j := 0) rfl
    have k1 := HA1.out.arr.cell (j := 1) rfl
    have k2 := HA1.out.arr.cell (j := 2) rfl
    have sA1 := HA1.out.arr.lt
    clear hw0 c0 c1 c2 sA
    go_wp2_with fail
    go_ret
    exact ⟨ret_val (congrArg Value.bool HV.out.symm), below_over HB.out HB.out.size hb1⟩
  | true =>
    have e1 : decide ((v.n.toNat : Int) < 200) = decide (v.n.toNat < 200) := decide_eq_decide.2 (by omega)
    have HV : Hid (goodVid v = decide (v.n.toNat < 200)) := by show _ = _; rw [HG.out, hg]; rfl
    go_enter Tryz.func105, Tryz.ntmps105
    go_wp2_with fail
    generalize hw0 : w.alloc (.cells #[.int .u8 (v.pid.author.toNat : Int), .int .u16 (v.pid.seq.toNat : Int), .int .u8 (v.n.toNat : Int)] 27) = w0 at *
    have c0 := HA.out.arr.cell (j := 0) rfl
    have c1 := HA.out.arr.cell (j := 1) rfl
    have c2 := HA.out.arr.cell (j := 2) rfl
    have sA := HA.out.arr.lt
    refine (pgoodPid_any v.pid _).mono ?_
    rintro e w1 ⟨rfl, hb1⟩
    have HA1 := Lib.hid (HA.out.over hb1)
    have k0 := HA1.out.arr.cell (j := 0) rfl
    have k1 := HA1.out.arr.cell (j := 1) rfl
    have k2 := HA1.out.arr.cell (j := 2) rfl
    have sA1 := HA1.out.arr.lt
    clear hw0 c0 c1 c2 sA
    go_wp2_with fail
    go_ret
    exact ⟨ret_val (congrArg Value.bool HV.out.symm), below_over HB.out HB.out.size hb1⟩

set_option maxHeartbeats 1000000 in
set_option maxRecDepth 100000 in
theorem rgoodVid_any (v : VidM) (w : World) : Calls Tryz.prog 165 #[vidV v] w fun e w' => e = .returned (.bool (goodVid v)) ∧ Below w.heap.size w w' := by
  have HB := Lib.hid (below_new (w := w) (.cells #[.int .u8 (v.pid.author.toNat : Int), .int .u16 (v.pid.seq.toNat : Int), .int .u8 (v.n.toNat : Int)] 27))
  have HA := Lib.hid (arrT_new w [.int .u8 (v.pid.author.toNat : Int), .int .u16 (v.pid.seq.toNat : Int), .int .u8 (v.n.toNat : Int)] 27)
  have HG : Hid (goodVid v = (goodPid v.pid && decide (v.n.toNat < 200))) := rfl
  unfold vidV
  cases hg : goodPid v.pid with
  | false =>
    have HV : Hid (goodVid v = false) := by show _ = _; rw [HG.out, hg]; rfl
    go_enter Tryz.func165, Tryz.ntmps165
    go_wp2_with fail
    generalize hw0 : w.alloc (.cells #[.int .u8 (v.pid.author.toNat : Int), .int .u16 (v.pid.seq.toNat : Int), .int .u8 (v.n.toNat : Int)] 27) = w0 at *
    have c0 := HA.out.arr.cell (j := 0) rfl
    have c1 := HA.out.arr.cell (j := 1) rfl
    have c2 := HA.out.arr.cell (j := 2) rfl
    have sA := HA.out.arr.lt
    refine (rgoodPid_any v.pid _).mono ?_
    rintro e w1 ⟨rfl, hb1⟩
    have HA1 := Lib.hid (HA.out.over hb1)
    have k0 := HA1.out.arr.cell (j := 0) rfl
    have k1 := HA1.out.arr.cell (j := 1) rfl
    have k2 := HA1.out.arr.cell (j := 2) rfl
    have sA1 := HA1.out.arr.lt
    clear hw0 c0 c1 c2 sA
    go_wp2_with fail
    go_ret
    exact ⟨ret_val (congrArg Value.bool HV.out.symm), below_over HB.out HB.out.size hb1⟩
  | true =>
    have e1 : decide ((v.n.toNat : Int) < 200) = decide (v.n.toNat < 200) := decide_eq_decide.2 (by omega)
    have HV : Hid (goodVid v = decide (v.n.toNat < 200)) := by show _ = _; rw [HG.out, hg]; rfl
    go_enter Tryz.func165, Tryz.ntmps165
    go_wp2_with fail
    generalize hw0 : w.alloc (.cells #[.int .u8 (v.pid.author.toNat : Int), .int .u16 (v.pid.seq.toNat : Int), .int .u8 (v.n.toNat : Int)] 27) = w0 at *
    have c0 := HA.out.arr.cell (j := 0) rfl
    have c1 := HA.out.arr.cell (j := 1) rfl
    have c2 := HA.out.arr.cell (j := 2) rfl
    have sA := HA.out.arr.lt
    refine (rgoodPid_any v.pid _).mono ?_
    rintro e w1 ⟨rfl, hb1⟩
    have HA1 := Lib.hid (HA.out.over hb1)
    have k0 := HA1.out.arr.cell (j := 0) rfl
    have k1 := HA1.out.arr.cell (j := 1) rfl
    have k2 := HA1.out.arr.cell (j := 2) rfl
    have sA1 := HA1.out.arr.lt
    clear hw0 c0 c1 c2 sA
    go_wp2_with fail
    go_ret
    exact ⟨ret_val (congrArg Value.bool HV.out.symm), below_over HB.out HB.out.size hb1⟩

end Go.Proofs.YtfciedmmgddgpaaGreatDoor
