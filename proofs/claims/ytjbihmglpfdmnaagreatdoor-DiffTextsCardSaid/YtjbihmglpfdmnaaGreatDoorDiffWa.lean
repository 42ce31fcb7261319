/- Contract of diff.line. Contract of diff.Print. The chapter's example, in plain words. Contract of bruitlaw50.works: the chapter's example is as it says. Contract of bruitlaw50.DiffApplies: any edits of any tree come to what the document says. -/
import Derived.Test.YtjbihmglpfdmnaaGreatDoorDiffY
import Derived.Test.YtjbihmglpfdmnaaGreatDoorBldA
import Derived.Test.YtjbihmglpfdmnaaGreatDoorDiffC
import Derived.Test.YtjbihmglpfdmnaaGreatDoorLcsC
import Derived.Test.YtjbihmglpfdmnaaGreatDoorDiffD
namespace Go.Proofs.YtjbihmglpfdmnaaGreatDoor
open Go Go.RowKit

def digB (m : Nat) : ByteArray := ⟨(Lib.decDigits m).toArray⟩
theorem digB_size {m : Nat} (h : m < 100) : (digB m).size ≤ 2 := by
  show (Lib.decDigits m).toArray.size ≤ 2
  rw [List.size_toArray, Lib.decDigits]
  split
  · simp
  · rw [List.length_append, Lib.decDigits, dif_pos (by omega)]; simp
theorem itoa_dig (m : Nat) (h : m < 100) (w : World) : Calls Tryz.prog 37 #[.int .i64 m] w fun e w' => e = .returned (.string (digB m)) ∧ w' = w := itoa_small m h w
attribute [irreducible] digB

def spB : ByteArray := ⟨#[32]⟩
def lineV (e : EditM) : Bool := nameOk e.name && (decide (0 ≤ e.at') && (decide (e.at' ≤ 60) && (lineOk e.text && (decide (1 ≤ e.kind) && decide (e.kind ≤ 4)))))
def lineB (kd : Nat) (n : ByteArray) (m : Nat) (s : ByteArray) : ByteArray :=
  if kd = 1 then (⟨#[45, 43, 60, 62]⟩ : ByteArray).extract 0 1 ++ ⟨#[32]⟩ ++ n else if kd = 2 then (⟨#[45, 43, 60, 62]⟩ : ByteArray).extract 1 2 ++ ⟨#[32]⟩ ++ n
  else if kd = 3 then (⟨#[45, 43, 60, 62]⟩ : ByteArray).extract 2 3 ++ ⟨#[32]⟩ ++ n ++ (⟨#[32]⟩ ++ digB m)
  else (⟨#[45, 43, 60, 62]⟩ : ByteArray).extract 3 4 ++ ⟨#[32]⟩ ++ n ++ (⟨#[32]⟩ ++ digB m) ++ (⟨#[32]⟩ ++ s)
/-- an edit's line -/
def lineP (e : EditM) : ByteArray := if lineV e = true then lineB e.kind e.name e.at'.toNat e.text else ⟨#[]⟩

set_option maxHeartbeats 10000000 in
set_option maxRecDepth 100000 in
theorem line_badName (n : ByteArray) (kd : Nat) (a : Int) (s : ByteArray) (w : World) (hn : nameOk n = false) (z1 : n.size ≤ maxLen) (z2 : s.size ≤ maxLen) :
    Calls Tryz.prog 19 #[.agg #[.int .u8 (kd : Int), .string n, .int .i64 a, .string s]] w fun e w' => e = .returned (.string (⟨#[]⟩)) ∧ Below w.heap.size w w' := by
  have HZ := Lib.hid (And.intro z1 z2)
  have HA0 := Lib.hid (arrT_new w [.int .u8 (kd : Int), .string n, .int .i64 a, .string s] 37)
  have HB0 := Lib.hid (below_box (w := w) (.cells #[.int .u8 (kd : Int), .string n, .int .i64 a, .string s] 37))
  clear z1 z2
  go_enter Tryz.func19, Tryz.ntmps19
  go_wp2_with fail
  refine (name_any n _ HZ.out.1).mono ?_
  rintro e w1 ⟨rfl, hb1⟩
  have HA1 := Lib.hid (HA0.out.over hb1)
  have HB1 := Lib.hid (below_over HB0.out HB0.out.size hb1)
  have c2 := HA1.out.arr.cell (j := 2) rfl
  have c3 := HA1.out.arr.cell (j := 3) rfl
  have sA := HA1.out.arr.lt
  go_wp2_with fail
  go_ret
  exact ⟨rfl, HB1.out⟩

set_option maxHeartbeats 10000000 in
set_option maxRecDepth 100000 in
theorem line_badLow (n : ByteArray) (kd : Nat) (a : Int) (s : ByteArray) (w : World) (hn : nameOk n = true) (ha : a < 0) (z1 : n.size ≤ maxLen) (z2 : s.size ≤ maxLen) :
    Calls Tryz.prog 19 #[.agg #[.int .u8 (kd : Int), .string n, .int .i64 a, .string s]] w fun e w' => e = .returned (.string (⟨#[]⟩)) ∧ Below w.heap.size w w' := by
  have HZ := Lib.hid (And.intro z1 z2)
  have HA0 := Lib.hid (arrT_new w [.int .u8 (kd : Int), .string n, .int .i64 a, .string s] 37)
  have HB0 := Lib.hid (below_box (w := w) (.cells #[.int .u8 (kd : Int), .string n, .int .i64 a, .string s] 37))
  have d0 : decide (a < 0) = true := by simpa using ha
  clear z1 z2
  go_enter Tryz.func19, Tryz.ntmps19
  go_wp2_with fail
  refine (name_any n _ HZ.out.1).mono ?_
  rintro e w1 ⟨rfl, hb1⟩
  have HA1 := Lib.hid (HA0.out.over hb1)
  have HB1 := Lib.hid (below_over HB0.out HB0.out.size hb1)
  have c2 := HA1.out.arr.cell (j := 2) rfl
  have c3 := HA1.out.arr.cell (j := 3) rfl
  have sA := HA1.out.arr.lt
  go_wp2_with fail
  go_ret
  exact ⟨rfl, HB1.out⟩

set_option maxHeartbeats 10000000 in
set_option maxRecDepth 100000 in
theorem line_badHigh (n : ByteArray) (kd : Nat) (a : Int) (s : ByteArray) (w : World) (hn : nameOk n = true) (ha : ¬ a < 0) (hh : ¬ a ≤ 60) (z1 : n.size ≤ maxLen) (z2 : s.size ≤ maxLen) :
    Calls Tryz.prog 19 #[.agg #[.int .u8 (kd : Int), .string n, .int .i64 a, .string s]] w fun e w' => e = .returned (.string (⟨#[]⟩)) ∧ Below w.heap.size w w' := by
  have HZ := Lib.hid (And.intro z1 z2)
  have HA0 := Lib.hid (arrT_new w [.int .u8 (kd : Int), .string n, .int .i64 a, .string s] 37)
  have HB0 := Lib.hid (below_box (w := w) (.cells #[.int .u8 (kd : Int), .string n, .int .i64 a, .string s] 37))
  have d0 : decide (a < 0) = false := by simpa using ha
  have d1 : decide ((60 : Int) < a) = true := by simp; omega
  clear z1 z2
  go_enter Tryz.func19, Tryz.ntmps19
  go_wp2_with fail
  refine (name_any n _ HZ.out.1).mono ?_
  rintro e w1 ⟨rfl, hb1⟩
  have HA1 := Lib.hid (HA0.out.over hb1)
  have HB1 := Lib.hid (below_over HB0.out HB0.out.size hb1)
  have c2 := HA1.out.arr.cell (j := 2) rfl
  have c3 := HA1.out.arr.cell (j := 3) rfl
  have sA := HA1.out.arr.lt
  go_wp2_with fail
  go_ret
  exact ⟨rfl, HB1.out⟩

set_option maxHeartbeats 10000000 in
set_option maxRecDepth 100000 in
theorem line_badText (n : ByteArray) (kd m : Nat) (s : ByteArray) (w : World) (hn : nameOk n = true) (hm : m ≤ 60) (hl : lineOk s = false) (z1 : n.size ≤ maxLen) (z2 : s.size ≤ maxLen) :
    Calls Tryz.prog 19 #[.agg #[.int .u8 (kd : Int), .string n, .int .i64 (m : Int), .string s]] w fun e w' => e = .returned (.string (⟨#[]⟩)) ∧ Below w.heap.size w w' := by
  have HZ := Lib.hid (And.intro z1 z2)
  have HA0 := Lib.hid (arrT_new w [.int .u8 (kd : Int), .string n, .int .i64 (m : Int), .string s] 37)
  have HB0 := Lib.hid (below_box (w := w) (.cells #[.int .u8 (kd : Int), .string n, .int .i64 (m : Int), .string s] 37))
  have d0 : decide ((m : Int) < 0) = false := by simp
  have d1 : decide ((60 : Int) < (m : Int)) = false := by simp; omega
  clear z1 z2
  go_enter Tryz.func19, Tryz.ntmps19
  go_wp2_with fail
  refine (name_any n _ HZ.out.1).mono ?_
  rintro e w1 ⟨rfl, hb1⟩
  have HA1 := Lib.hid (HA0.out.over hb1)
  have HB1 := Lib.hid (below_over HB0.out HB0.out.size hb1)
  have c2 := HA1.out.arr.cell (j := 2) rfl
  have c3 := HA1.out.arr.cell (j := 3) rfl
  have sA := HA1.out.arr.lt
  go_wp2_with fail
  refine (line_any s _ HZ.out.2).mono ?_
  rintro e w2 ⟨rfl, hb2⟩
  have HA2 := Lib.hid (HA1.out.over hb2)
  have HB2 := Lib.hid (below_over HB1.out HB1.out.size hb2)
  have e0 := HA2.out.arr.cell (j := 0) rfl
  have e1 := HA2.out.arr.cell (j := 1) rfl
  have e2 := HA2.out.arr.cell (j := 2) rfl
  have e3 := HA2.out.arr.cell (j := 3) rfl
  have sA2 := HA2.out.arr.lt
  clear c2 c3
  go_wp2_with fail
  go_ret
  exact ⟨rfl, HB2.out⟩

set_option maxHeartbeats 10000000 in
set_option maxRecDepth 100000 in
theorem line_badZero (n : ByteArray) (m : Nat) (s : ByteArray) (w : World) (hn : nameOk n = true) (hm : m ≤ 60) (hl : lineOk s = true) (z1 : n.size ≤ maxLen) (z2 : s.size ≤ maxLen) :
    Calls Tryz.prog 19 #[.agg #[.int .u8 0, .string n, .int .i64 (m : Int), .string s]] w fun e w' => e = .returned (.string (⟨#[]⟩)) ∧ Below w.heap.size w w' := by
  have HZ := Lib.hid (And.intro z1 z2)
  have HA0 := Lib.hid (arrT_new w [.int .u8 0, .string n, .int .i64 (m : Int), .string s] 37)
  have HB0 := Lib.hid (below_box (w := w) (.cells #[.int .u8 0, .string n, .int .i64 (m : Int), .string s] 37))
  have d0 : decide ((m : Int) < 0) = false := by simp
  have d1 : decide ((60 : Int) < (m : Int)) = false := by simp; omega
  clear z1 z2
  go_enter Tryz.func19, Tryz.ntmps19
  go_wp2_with fail
  refine (name_any n _ HZ.out.1).mono ?_
  rintro e w1 ⟨rfl, hb1⟩
  have HA1 := Lib.hid (HA0.out.over hb1)
  have HB1 := Lib.hid (below_over HB0.out HB0.out.size hb1)
  have c2 := HA1.out.arr.cell (j := 2) rfl
  have c3 := HA1.out.arr.cell (j := 3) rfl
  have sA := HA1.out.arr.lt
  go_wp2_with fail
  refine (line_any s _ HZ.out.2).mono ?_
  rintro e w2 ⟨rfl, hb2⟩
  have HA2 := Lib.hid (HA1.out.over hb2)
  have HB2 := Lib.hid (below_over HB1.out HB1.out.size hb2)
  have e0 := HA2.out.arr.cell (j := 0) rfl
  have e1 := HA2.out.arr.cell (j := 1) rfl
  have e2 := HA2.out.arr.cell (j := 2) rfl
  have e3 := HA2.out.arr.cell (j := 3) rfl
  have sA2 := HA2.out.arr.lt
  clear c2 c3
  go_wp2_with fail
  go_ret
  exact ⟨rfl, HB2.out⟩

set_option maxHeartbeats 10000000 in
set_option maxRecDepth 100000 in
theorem line_badKind (n : ByteArray) (kd m : Nat) (s : ByteArray) (w : World) (hn : nameOk n = true) (hm : m ≤ 60) (hl : lineOk s = true) (hk : 4 < kd) (z1 : n.size ≤ maxLen) (z2 : s.size ≤ maxLen) :
    Calls Tryz.prog 19 #[.agg #[.int .u8 (kd : Int), .string n, .int .i64 (m : Int), .string s]] w fun e w' => e = .returned (.string (⟨#[]⟩)) ∧ Below w.heap.size w w' := by
  have HZ := Lib.hid (And.intro z1 z2)
  have HA0 := Lib.hid (arrT_new w [.int .u8 (kd : Int), .string n, .int .i64 (m : Int), .string s] 37)
  have HB0 := Lib.hid (below_box (w := w) (.cells #[.int .u8 (kd : Int), .string n, .int .i64 (m : Int), .string s] 37))
  have d0 : decide ((m : Int) < 0) = false := by simp
  have d1 : decide ((60 : Int) < (m : Int)) = false := by simp; omega
  have k0 : decide ((kd : Int) < 1) = false := by simp; omega
  have k1 : decide ((4 : Int) < (kd : Int)) = true := by simp; omega
  clear z1 z2
  go_enter Tryz.func19, Tryz.ntmps19
  go_wp2_with fail
  refine (name_any n _ HZ.out.1).mono ?_
  rintro e w1 ⟨rfl, hb1⟩
  have HA1 := Lib.hid (HA0.out.over hb1)
  have HB1 := Lib.hid (below_over HB0.out HB0.out.size hb1)
  have c2 := HA1.out.arr.cell (j := 2) rfl
  have c3 := HA1.out.arr.cell (j := 3) rfl
  have sA := HA1.out.arr.lt
  go_wp2_with fail
  refine (line_any s _ HZ.out.2).mono ?_
  rintro e w2 ⟨rfl, hb2⟩
  have HA2 := Lib.hid (HA1.out.over hb2)
  have HB2 := Lib.hid (below_over HB1.out HB1.out.size hb2)
  have e0 := HA2.out.arr.cell (j := 0) rfl
  have e1 := HA2.out.arr.cell (j := 1) rfl
  have e2 := HA2.out.arr.cell (j := 2) rfl
  have e3 := HA2.out.arr.cell (j := 3) rfl
  have sA2 := HA2.out.arr.lt
  clear c2 c3
  go_wp2_with fail
  go_ret
  exact ⟨rfl, HB2.out⟩

set_option maxHeartbeats 10000000 in
set_option maxRecDepth 100000 in
theorem line_k1 (n : ByteArray) (m : Nat) (s : ByteArray) (w : World) (hn : nameOk n = true) (hm : m ≤ 60) (hl : lineOk s = true) (z1 : n.size ≤ maxLen) (z2 : s.size ≤ maxLen) :
    Calls Tryz.prog 19 #[.agg #[.int .u8 1, .string n, .int .i64 (m : Int), .string s]] w fun e w' => e = .returned (.string (lineB 1 n m s)) ∧ Below w.heap.size w w' := by
  have HZ := Lib.hid (And.intro z1 z2)
  have HA0 := Lib.hid (arrT_new w [.int .u8 1, .string n, .int .i64 (m : Int), .string s] 37)
  have HB0 := Lib.hid (below_box (w := w) (.cells #[.int .u8 1, .string n, .int .i64 (m : Int), .string s] 37))
  have d0 : decide ((m : Int) < 0) = false := by simp
  have d1 : decide ((60 : Int) < (m : Int)) = false := by simp; omega
  have hns := nameOk_size hn
  have hdz := digB_size (show m < 100 by omega)
  have hss := lineOk_size hl
  clear z1 z2
  go_enter Tryz.func19, Tryz.ntmps19
  go_wp2_with fail
  refine (name_any n _ HZ.out.1).mono ?_
  rintro e w1 ⟨rfl, hb1⟩
  have HA1 := Lib.hid (HA0.out.over hb1)
  have HB1 := Lib.hid (below_over HB0.out HB0.out.size hb1)
  have c2 := HA1.out.arr.cell (j := 2) rfl
  have c3 := HA1.out.arr.cell (j := 3) rfl
  have sA := HA1.out.arr.lt
  go_wp2_with fail
  refine (line_any s _ HZ.out.2).mono ?_
  rintro e w2 ⟨rfl, hb2⟩
  have HA2 := Lib.hid (HA1.out.over hb2)
  have HB2 := Lib.hid (below_over HB1.out HB1.out.size hb2)
  have e0 := HA2.out.arr.cell (j := 0) rfl
  have e1 := HA2.out.arr.cell (j := 1) rfl
  have e2 := HA2.out.arr.cell (j := 2) rfl
  have e3 := HA2.out.arr.cell (j := 3) rfl
  have sA2 := HA2.out.arr.lt
  clear c2 c3
  go_wp2_with fail
  refine wp_region_lex (C := IsOver w2) 10 [] (by kernel_rfl) (by kernel_rfl) (isOver_of (by repeat (first | exact Below.refl _ _ | apply Below.drew | apply below_drewN | (refine Below.alloc ?_ (by simp) _)))) ?_
  simp only [List.take_succ_cons, List.take_zero, List.drop_succ_cons, List.drop_zero]
  repeat (first | (refine lex_skip rfl rfl ?_; simp only [Act.put, List.setIfInBounds_toArray, List.set_cons_succ, List.set_cons_zero]) | (refine lex_one rfl ?_; go_big_quiet_step (fail); refine wpQuiet_nil ?_))
  refine lex_end ?_
  go_wp2_with fail
  go_ret
  exact ⟨rfl, HB2.out.drew⟩

set_option maxHeartbeats 10000000 in
set_option maxRecDepth 100000 in
theorem line_k2 (n : ByteArray) (m : Nat) (s : ByteArray) (w : World) (hn : nameOk n = true) (hm : m ≤ 60) (hl : lineOk s = true) (z1 : n.size ≤ maxLen) (z2 : s.size ≤ maxLen) :
    Calls Tryz.prog 19 #[.agg #[.int .u8 2, .string n, .int .i64 (m : Int), .string s]] w fun e w' => e = .returned (.string (lineB 2 n m s)) ∧ Below w.heap.size w w' := by
  have HZ := Lib.hid (And.intro z1 z2)
  have HA0 := Lib.hid (arrT_new w [.int .u8 2, .string n, .int .i64 (m : Int), .string s] 37)
  have HB0 := Lib.hid (below_box (w := w) (.cells #[.int .u8 2, .string n, .int .i64 (m : Int), .string s] 37))
  have d0 : decide ((m : Int) < 0) = false := by simp
  have d1 : decide ((60 : Int) < (m : Int)) = false := by simp; omega
  have hns := nameOk_size hn
  have hdz := digB_size (show m < 100 by omega)
  have hss := lineOk_size hl
  clear z1 z2
  go_enter Tryz.func19, Tryz.ntmps19
  go_wp2_with fail
  refine (name_any n _ HZ.out.1).mono ?_
  rintro e w1 ⟨rfl, hb1⟩
  have HA1 := Lib.hid (HA0.out.over hb1)
  have HB1 := Lib.hid (below_over HB0.out HB0.out.size hb1)
  have c2 := HA1.out.arr.cell (j := 2) rfl
  have c3 := HA1.out.arr.cell (j := 3) rfl
  have sA := HA1.out.arr.lt
  go_wp2_with fail
  refine (line_any s _ HZ.out.2).mono ?_
  rintro e w2 ⟨rfl, hb2⟩
  have HA2 := Lib.hid (HA1.out.over hb2)
  have HB2 := Lib.hid (below_over HB1.out HB1.out.size hb2)
  have e0 := HA2.out.arr.cell (j := 0) rfl
  have e1 := HA2.out.arr.cell (j := 1) rfl
  have e2 := HA2.out.arr.cell (j := 2) rfl
  have e3 := HA2.out.arr.cell (j := 3) rfl
  have sA2 := HA2.out.arr.lt
  clear c2 c3
  go_wp2_with fail
  refine wp_region_lex (C := IsOver w2) 10 [] (by kernel_rfl) (by kernel_rfl) (isOver_of (by repeat (first | exact Below.refl _ _ | apply Below.drew | apply below_drewN | (refine Below.alloc ?_ (by simp) _)))) ?_
  simp only [List.take_succ_cons, List.take_zero, List.drop_succ_cons, List.drop_zero]
  repeat (first | (refine lex_skip rfl rfl ?_; simp only [Act.put, List.setIfInBounds_toArray, List.set_cons_succ, List.set_cons_zero]) | (refine lex_one rfl ?_; go_big_quiet_step (fail); refine wpQuiet_nil ?_))
  refine lex_end ?_
  go_wp2_with fail
  go_ret
  exact ⟨rfl, HB2.out.drew⟩

set_option maxHeartbeats 10000000 in
set_option maxRecDepth 100000 in
theorem line_k3 (n : ByteArray) (m : Nat) (s : ByteArray) (w : World) (hn : nameOk n = true) (hm : m ≤ 60) (hl : lineOk s = true) (z1 : n.size ≤ maxLen) (z2 : s.size ≤ maxLen) :
    Calls Tryz.prog 19 #[.agg #[.int .u8 3, .string n, .int .i64 (m : Int), .string s]] w fun e w' => e = .returned (.string (lineB 3 n m s)) ∧ Below w.heap.size w w' := by
  have HZ := Lib.hid (And.intro z1 z2)
  have HA0 := Lib.hid (arrT_new w [.int .u8 3, .string n, .int .i64 (m : Int), .string s] 37)
  have HB0 := Lib.hid (below_box (w := w) (.cells #[.int .u8 3, .string n, .int .i64 (m : Int), .string s] 37))
  have d0 : decide ((m : Int) < 0) = false := by simp
  have d1 : decide ((60 : Int) < (m : Int)) = false := by simp; omega
  have hns := nameOk_size hn
  have hdz := digB_size (show m < 100 by omega)
  have hss := lineOk_size hl
  clear z1 z2
  go_enter Tryz.func19, Tryz.ntmps19
  go_wp2_with fail
  refine (name_any n _ HZ.out.1).mono ?_
  rintro e w1 ⟨rfl, hb1⟩
  have HA1 := Lib.hid (HA0.out.over hb1)
  have HB1 := Lib.hid (below_over HB0.out HB0.out.size hb1)
  have c2 := HA1.out.arr.cell (j := 2) rfl
  have c3 := HA1.out.arr.cell (j := 3) rfl
  have sA := HA1.out.arr.lt
  go_wp2_with fail
  refine (line_any s _ HZ.out.2).mono ?_
  rintro e w2 ⟨rfl, hb2⟩
  have HA2 := Lib.hid (HA1.out.over hb2)
  have HB2 := Lib.hid (below_over HB1.out HB1.out.size hb2)
  have e0 := HA2.out.arr.cell (j := 0) rfl
  have e1 := HA2.out.arr.cell (j := 1) rfl
  have e2 := HA2.out.arr.cell (j := 2) rfl
  have e3 := HA2.out.arr.cell (j := 3) rfl
  have sA2 := HA2.out.arr.lt
  clear c2 c3
  go_wp2_with fail
  refine wp_region_lex (C := IsOver w2) 10 [] (by kernel_rfl) (by kernel_rfl) (isOver_of (by repeat (first | exact Below.refl _ _ | apply Below.drew | apply below_drewN | (refine Below.alloc ?_ (by simp) _)))) ?_
  simp only [List.take_succ_cons, List.take_zero, List.drop_succ_cons, List.drop_zero]
  repeat (first | (refine lex_skip rfl rfl ?_; simp only [Act.put, List.setIfInBounds_toArray, List.set_cons_succ, List.set_cons_zero]) | (refine lex_one rfl ?_; go_big_quiet_step (fail); refine wpQuiet_nil ?_))
  refine lex_end ?_
  go_wp2_with fail
  refine (itoa_dig m (by omega) _).mono ?_
  rintro e w3 ⟨rfl, rfl⟩
  go_wp2_with fail
  go_ret
  exact ⟨rfl, HB2.out.drew⟩

set_option maxHeartbeats 10000000 in
set_option maxRecDepth 100000 in
theorem line_k4 (n : ByteArray) (m : Nat) (s : ByteArray) (w : World) (hn : nameOk n = true) (hm : m ≤ 60) (hl : lineOk s = true) (z1 : n.size ≤ maxLen) (z2 : s.size ≤ maxLen) :
    Calls Tryz.prog 19 #[.agg #[.int .u8 4, .string n, .int .i64 (m : Int), .string s]] w fun e w' => e = .returned (.string (lineB 4 n m s)) ∧ Below w.heap.size w w' := by
  have HZ := Lib.hid (And.intro z1 z2)
  have HA0 := Lib.hid (arrT_new w [.int .u8 4, .string n, .int .i64 (m : Int), .string s] 37)
  have HB0 := Lib.hid (below_box (w := w) (.cells #[.int .u8 4, .string n, .int .i64 (m : Int), .string s] 37))
  have d0 : decide ((m : Int) < 0) = false := by simp
  have d1 : decide ((60 : Int) < (m : Int)) = false := by simp; omega
  have hns := nameOk_size hn
  have hdz := digB_size (show m < 100 by omega)
  have hss := lineOk_size hl
  clear z1 z2
  go_enter Tryz.func19, Tryz.ntmps19
  go_wp2_with fail
  refine (name_any n _ HZ.out.1).mono ?_
  rintro e w1 ⟨rfl, hb1⟩
  have HA1 := Lib.hid (HA0.out.over hb1)
  have HB1 := Lib.hid (below_over HB0.out HB0.out.size hb1)
  have c2 := HA1.out.arr.cell (j := 2) rfl
  have c3 := HA1.out.arr.cell (j := 3) rfl
  have sA := HA1.out.arr.lt
  go_wp2_with fail
  refine (line_any s _ HZ.out.2).mono ?_
  rintro e w2 ⟨rfl, hb2⟩
  have HA2 := Lib.hid (HA1.out.over hb2)
  have HB2 := Lib.hid (below_over HB1.out HB1.out.size hb2)
  have e0 := HA2.out.arr.cell (j := 0) rfl
  have e1 := HA2.out.arr.cell (j := 1) rfl
  have e2 := HA2.out.arr.cell (j := 2) rfl
  have e3 := HA2.out.arr.cell (j := 3) rfl
  have sA2 := HA2.out.arr.lt
  clear c2 c3
  go_wp2_with fail
  refine wp_region_lex (C := IsOver w2) 10 [] (by kernel_rfl) (by kernel_rfl) (isOver_of (by repeat (first | exact Below.refl _ _ | apply Below.drew | apply below_drewN | (refine Below.alloc ?_ (by simp) _)))) ?_
  simp only [List.take_succ_cons, List.take_zero, List.drop_succ_cons, List.drop_zero]
  repeat (first | (refine lex_skip rfl rfl ?_; simp only [Act.put, List.setIfInBounds_toArray, List.set_cons_succ, List.set_cons_zero]) | (refine lex_one rfl ?_; go_big_quiet_step (fail); refine wpQuiet_nil ?_))
  refine lex_end ?_
  go_wp2_with fail
  refine (itoa_dig m (by omega) _).mono ?_
  rintro e w3 ⟨rfl, rfl⟩
  go_wp2_with fail
  go_ret
  exact ⟨rfl, HB2.out.drew⟩

theorem lineP_bad {e : EditM} (h : lineV e = false) : lineP e = ⟨#[]⟩ := by unfold lineP; rw [h]; rfl
theorem eline_any (e : EditM) (w : World) (z1 : e.name.size ≤ maxLen) (z2 : e.text.size ≤ maxLen) :
    Calls Tryz.prog 19 #[.agg #[.int .u8 (e.kind : Int), .string e.name, .int .i64 e.at', .string e.text]] w fun r w' => r = .returned (.string (lineP e)) ∧ Below w.heap.size w w' := by
  obtain ⟨kd, n, a, s⟩ := e
  simp only at z1 z2
  cases hn : nameOk n with
  | false => rw [lineP_bad (by simp [lineV, hn])]; exact line_badName n kd a s w hn z1 z2
  | true =>
    by_cases ha : a < 0
    · rw [lineP_bad (by simp [lineV, hn]; omega)]; exact line_badLow n kd a s w hn ha z1 z2
    · by_cases hh : a ≤ 60
      · obtain ⟨m, rfl⟩ := Int.eq_ofNat_of_zero_le (show 0 ≤ a by omega)
        have hm : m ≤ 60 := by omega
        cases hl : lineOk s with
        | false => rw [lineP_bad (by simp [lineV, hl])]; exact line_badText n kd m s w hn hm hl z1 z2
        | true =>
          by_cases h0 : kd = 0
          · subst h0; rw [lineP_bad (by simp [lineV])]; exact line_badZero n m s w hn hm hl z1 z2
          · by_cases h4 : 4 < kd
            · rw [lineP_bad (by simp [lineV]; omega)]; exact line_badKind n kd m s w hn hm hl h4 z1 z2
            · have hv : lineV ⟨kd, n, (m : Int), s⟩ = true := by simp [lineV, hn, hl]; omega
              have hp : lineP ⟨kd, n, (m : Int), s⟩ = lineB kd n m s := by unfold lineP; rw [if_pos hv]; simp
              rw [hp]
              have : kd = 1 ∨ kd = 2 ∨ kd = 3 ∨ kd = 4 := by omega
              rcases this with rfl | rfl | rfl | rfl
              · exact line_k1 n m s w hn hm hl z1 z2
              · exact line_k2 n m s w hn hm hl z1 z2
              · exact line_k3 n m s w hn hm hl z1 z2
              · exact line_k4 n m s w hn hm hl z1 z2
      · rw [lineP_bad (by simp [lineV]; omega)]; exact line_badHigh n kd a s w hn ha hh z1 z2
end Go.Proofs.YtjbihmglpfdmnaaGreatDoor
namespace Go.Proofs.YtjbihmglpfdmnaaGreatDoor
open Go Go.RowKit

def lineL (e : EditM) : List UInt8 := if (lineP e).size = 0 then [] else (lineP e).data.toList ++ [10]
/-- edits as text -/
def printL (es : List EditM) : List UInt8 := es.flatMap lineL
theorem lineB_size {kd : Nat} {n s : ByteArray} {m : Nat} (hn : n.size ≤ 16) (hm : m < 100) (hs : s.size ≤ 60) : (lineB kd n m s).size ≤ 200 := by
  have := digB_size hm
  have h32 : (⟨#[32]⟩ : ByteArray).size = 1 := rfl
  have h4 : (⟨#[45, 43, 60, 62]⟩ : ByteArray).size = 4 := rfl
  unfold lineB
  split
  · simp [ByteArray.size_append, ByteArray.size_extract, h32, h4]; omega
  · split
    · simp [ByteArray.size_append, ByteArray.size_extract, h32, h4]; omega
    · split
      · simp [ByteArray.size_append, ByteArray.size_extract, h32, h4]; omega
      · simp [ByteArray.size_append, ByteArray.size_extract, h32, h4]; omega
theorem lineP_size (e : EditM) : (lineP e).size ≤ 200 := by
  unfold lineP
  split
  · rename_i h
    simp only [lineV, Bool.and_eq_true, decide_eq_true_eq] at h
    exact lineB_size (nameOk_size h.1) (by omega) (lineOk_size h.2.2.2.1)
  · decide
theorem printL_len : ∀ es : List EditM, (printL es).length ≤ es.length * 201
  | [] => by simp [printL]
  | e :: es => by
    have ih := printL_len es
    have h := lineP_size e
    unfold printL at *
    rw [List.flatMap_cons, List.length_append, List.length_cons]
    have : (lineL e).length ≤ 201 := by
      unfold lineL
      split
      · simp
      · rw [List.length_append, size_list]; simp; omega
    omega
theorem printL_succ {es : List EditM} {i : Nat} {e : EditM} (h : es[i]? = some e) : printL (es.take (i + 1)) = printL (es.take i) ++ lineL e := by
  unfold printL; rw [take_succ_get h, List.flatMap_append]; simp
theorem isB_over {B b : Nat} {bs : List Value} {w w' : World} (h : Lib.IsBuilder 59 5 B b bs w) (hb : Below w.heap.size w w') : Lib.IsBuilder 59 5 B b bs w' := by
  have : ∀ p, Lib.BuilderAt 59 5 B b p bs w → Lib.BuilderAt 59 5 B b p bs w' := fun p ⟨h1, v, h2, h3, h4⟩ =>
    ⟨h1, v, by rw [hb.block b (Array.getElem?_eq_some_iff.1 h2).1]; exact h2, own_over h3 hb, h4⟩
  exact h.imp (this _) (this _)
theorem isB_new (w : World) : Lib.IsBuilder 59 5 w.heap.size w.heap.size [] (w.alloc (.cells #[.pointer none, .slice none 0 0] 59)) :=
  .inl ⟨Nat.le_refl _, .slice none 0 0, by rw [heap_alloc_new], World.ownsRow_nil _ _ _ _, by simp [Value.ownBlock]⟩
theorem cells_app (l : List UInt8) (s : ByteArray) : Lib.byteCells l ++ Lib.strCells s = Lib.byteCells (l ++ s.data.toList) := by simp [Lib.byteCells, Lib.strCells]
theorem cells_one (l : List UInt8) : Lib.byteCells l ++ [.int .u8 10] = Lib.byteCells (l ++ [10]) := by simp [Lib.byteCells]
attribute [irreducible] lineL printL
theorem lineL_none {e : EditM} (h : (lineP e).size = 0) : lineL e = [] := by unfold lineL; rw [if_pos h]
theorem lineL_some {e : EditM} (h : ¬ (lineP e).size = 0) : lineL e = (lineP e).data.toList ++ [10] := by unfold lineL; rw [if_neg h]
theorem printL_nil : printL [] = [] := by unfold printL; rfl
def PrRel (w : World) (es : List EditM) (iv : Value) (wr : World) : Prop := ∃ i : Nat, i ≤ es.length ∧ iv = .int .i64 i ∧ Hid (Lib.IsBuilder 59 5 w.heap.size w.heap.size (Lib.byteCells (printL (es.take i))) wr) ∧ Below w.heap.size w wr

set_option maxHeartbeats 10000000 in
set_option maxRecDepth 100000 in
theorem print_any (v : Value) (es : List EditM) (w : World) (hv : ERow w v es) (hz : SzE es) (hl : es.length ≤ 100000) :
    Calls Tryz.prog 8 #[v] w fun r w' => r = .returned (.string ⟨(printL es).toArray⟩) ∧ Below w.heap.size w w' := by
  obtain ⟨a, cap, rfl, h1, h2, _, hc⟩ := hv.form
  unfold maxLen at h2
  have HC := Lib.hid hc
  have HZ := Lib.hid hz
  clear hv hc hz
  have HBn := Lib.hid (isB_new w)
  have HB0 := Lib.hid (below_box (w := w) (.cells #[.pointer none, .slice none 0 0] 59))
  go_enter Tryz.func8, Tryz.ntmps8
  go_wp2_with fail
  go_loopw [5, 6, 9] (fun _ _ i wr => PrRel w es i wr) (fun _ _ i _ => es.length - (intOf i).toNat)
  case atStart => exact ⟨0, by omega, rfl, (by show Lib.IsBuilder _ _ _ _ _ _; rw [List.take_zero, printL_nil]; exact HBn.out), HB0.out⟩
  case round =>
    obtain ⟨i, hi, rfl, HB, hbl⟩ := hrel
    have hpl := printL_len (es.take i)
    rw [List.length_take] at hpl
    by_cases hlt : i < es.length
    · obtain ⟨b, o, rfl, sb, hf⟩ := HC.out.resolve_left (by omega)
      obtain ⟨x, hx⟩ := get_of_lt hlt
      have hat := (hf i x hx).over hbl sb
      have c0 := hat.c0
      have c1 := hat.c1
      have c2 := hat.c2
      have c3 := hat.c3
      have sb' : b < wr.heap.size := Nat.lt_of_lt_of_le sb hbl.size
      have HSz := Lib.hid (HZ.out x (List.mem_of_getElem? hx))
      have HS := Lib.hid (printL_succ hx)
      have hps := lineP_size x
      have HBo := Lib.hid (below_box (w := wr) (.cells #[.int .u8 (x.kind : Int), .string x.name, .int .i64 x.at', .string x.text] 37))
      clear hat hf hx
      go_wp2_with fail
      refine (eline_any x _ HSz.out.1 HSz.out.2).mono ?_
      rintro e w3 ⟨rfl, hb3⟩
      have HB3 := Lib.hid (isB_over (isB_over HB.out HBo.out) hb3)
      have hbl3 := below_over (below_over hbl hbl.size HBo.out) (by have := hbl.size; have := HBo.out.size; omega) hb3
      have hs3 := hbl3.size
      clear c0 c1 c2 c3 hb3
      by_cases h0 : (lineP x).size = 0
      · have HN : Hid (lineL x = []) := lineL_none h0
        have hem : (lineP x).toList = [] := empty_tl h0
        clear h0
        go_wp2_with fail
        go_roundw
        case rel => exact ⟨i + 1, hlt, by go_num, (by show Lib.IsBuilder _ _ _ _ _ _; rw [HS.out, HN.out, List.append_nil]; exact HB3.out), hbl3⟩
        case measure => exact meas_lt hlt
      · have HN : Hid (lineL x = (lineP x).data.toList ++ [10]) := lineL_some h0
        have hne := nonempty_tl (s := lineP x) (by omega)
        have hne1 := hne.1
        have hne2 := hne.2
        have hlen1 : (Lib.byteCells (printL (es.take i))).length + (lineP x).size ≤ 140737488355328 := by rw [Lib.byteCells_length]; omega
        have hlen2 : (Lib.byteCells (printL (es.take i)) ++ Lib.strCells (lineP x)).length + 1 ≤ 140737488355328 := by rw [List.length_append, Lib.strCells_length, Lib.byteCells_length]; omega
        clear h0 hne
        go_wp2_with fail
        refine (writeString_any w.heap.size w.heap.size _ (lineP x) _ HB3.out hlen1 hs3).mono ?_
        rintro e w4 ⟨rfl, hB4, hb4⟩
        have HB4 := Lib.hid hB4
        have hbl4 := hbl3.trans hb4
        have hs4 := hbl4.size
        clear hB4 hb4
        go_wp2_with fail
        refine (writeByte_any w.heap.size w.heap.size _ 10 _ (.inr HB4.out) hlen2 hs4).mono ?_
        rintro e w5 ⟨rfl, hB5, hb5⟩
        have HB5 := Lib.hid hB5
        have hbl5 := hbl4.trans hb5
        clear hB5 hb5
        go_wp2_with fail
        go_roundw
        case rel => exact ⟨i + 1, hlt, by go_num, (by show Lib.IsBuilder _ _ _ _ _ _; rw [HS.out, HN.out, ← List.append_assoc, ← cells_one, ← cells_app]; exact .inr HB5.out), hbl5⟩
        case measure => exact meas_lt hlt
    · obtain rfl : i = es.length := by omega
      have HBe : Hid (IsB w.heap.size w.heap.size (printL es) wr) := by
        have := HB.out
        rw [List.take_length] at this
        exact this
      go_wp2_with fail
      refine (bstring_any _ _ _ _ HBe.out hbl.size).mono ?_
      rintro e w3 ⟨rfl, hb3⟩
      go_wp2_with fail
      go_ret
      exact ⟨rfl, hbl.trans hb3⟩
end Go.Proofs.YtjbihmglpfdmnaaGreatDoor
namespace Go.Proofs.YtjbihmglpfdmnaaGreatDoor
open Go Go.RowKit

def exA : List FileM := [⟨⟨#[97]⟩, [], [⟨#[120]⟩, ⟨#[121]⟩]⟩]
def exB : List FileM := [⟨⟨#[97]⟩, [], [⟨#[121]⟩, ⟨#[122]⟩]⟩]
def exE : List EditM := [⟨3, ⟨#[97]⟩, 0, ⟨#[]⟩⟩, ⟨4, ⟨#[97]⟩, 1, ⟨#[122]⟩⟩]
def exP : List UInt8 := [60, 32, 97, 32, 48, 10, 62, 32, 97, 32, 49, 32, 122, 10]
theorem ex_goodA : treeGood exA = true := by decide +kernel
theorem ex_goodB : treeGood exB = true := by decide +kernel
theorem ex_ofN : ofN exA exB = 0 := by unfold ofN; rw [ex_goodA, ex_goodB]; rfl
theorem ex_apply : applyE exA exE = (exB, 0) := by decide +kernel
theorem ex_print : printL exE = exP := by decide +kernel
theorem ex_l1 : lcsAt [⟨#[120]⟩, ⟨#[121]⟩] [⟨#[121]⟩, ⟨#[122]⟩] 0 1 = 0 := by
  unfold lcsAt
  simp only [List.drop_zero, List.drop_succ_cons]
  have h1 : ¬ (⟨#[120]⟩ : ByteArray) = ⟨#[122]⟩ := by decide +kernel
  have h2 : ¬ (⟨#[121]⟩ : ByteArray) = ⟨#[122]⟩ := by decide +kernel
  simp only [lcsLen, if_neg h1, if_neg h2]
  decide
theorem ex_l2 : lcsAt [⟨#[120]⟩, ⟨#[121]⟩] [⟨#[121]⟩, ⟨#[122]⟩] 1 0 = 1 := by
  unfold lcsAt
  simp only [List.drop_zero, List.drop_succ_cons]
  rw [lcsLen, if_pos rfl]
  simp [lcsLen]
theorem ex_pairs : pairs [⟨#[120]⟩, ⟨#[121]⟩] [⟨#[121]⟩, ⟨#[122]⟩] = [(1, 0)] := by
  rw [← pairs_start]
  show pairsF _ _ (3 + 1) 0 0 = _
  rw [pairsF_left (x := ⟨#[120]⟩) (y := ⟨#[121]⟩) rfl rfl (by decide +kernel) (by rw [ex_l1, ex_l2]; decide)]
  show pairsF _ _ (2 + 1) 1 0 = _
  rw [pairsF_eq (x := ⟨#[121]⟩) (y := ⟨#[121]⟩) rfl rfl rfl, pairsF_end (by simp)]
theorem ex_lines : linesE ⟨#[97]⟩ [⟨#[120]⟩, ⟨#[121]⟩] [⟨#[121]⟩, ⟨#[122]⟩] = exE := by
  rw [← linesE_def, ex_pairs]
  decide +kernel
theorem ex_of : ofE exA exB = exE := by
  have h1 : ofE1 exA exB 1 = [] := by
    rw [ofE1_keep (k := 0) (j := 0) (f := ⟨⟨#[97]⟩, [], [⟨#[120]⟩, ⟨#[121]⟩]⟩) rfl (by decide +kernel), ofE1_zero]
  have h2 : ofE2 exA exB 1 = exE := by
    rw [ofE2_succ (k := 0) (f := ⟨⟨#[97]⟩, [], [⟨#[121]⟩, ⟨#[122]⟩]⟩) rfl, ofE2_zero, ofTail_some (g := ⟨⟨#[97]⟩, [], [⟨#[120]⟩, ⟨#[121]⟩]⟩) (k := 0) (by decide +kernel) rfl, ex_lines]; rfl
  show ofE1 exA exB 1 ++ ofE2 exA exB 1 = exE
  rw [h1, h2]; rfl
theorem ex_ofS : ofS exA exB = exE := by unfold ofS; rw [ex_goodA, ex_goodB]; exact ex_of
end Go.Proofs.YtjbihmglpfdmnaaGreatDoor
namespace Go.Proofs.YtjbihmglpfdmnaaGreatDoor
open Go Go.RowKit

theorem row_arr {w : World} {g : Nat} {e : TypeId} {cs : List Value} {n sz : Nat} (h : ArrT w g e cs) (hl : cs.length = n * sz) (hn : n ≤ 1000) (h0 : n ≠ 0) : Row w (.slice (some ⟨g, 0, none⟩) n n) n sz cs :=
  ⟨hl, _, n, rfl, Nat.le_refl _, by unfold maxLen; omega, fun h => (by cases h), fun _ => ⟨g, 0, rfl, h.arr.lt, fun j u hu => by rw [Nat.zero_add]; exact h.arr.cell hu⟩⟩
theorem ex_frow {w : World} {g g' : Nat} {x y : ByteArray} (hl : ArrT w g 9 [.string x, .string y]) (ht : ArrT w g' 40 [.string ⟨#[97]⟩, .slice none 0 0, .slice (some ⟨g, 0, none⟩) 2 2]) : FRow w (.slice (some ⟨g', 0, none⟩) 1 1) [⟨⟨#[97]⟩, [], [x, y]⟩] := by
  refine ⟨[(⟨⟨#[97]⟩, [], [x, y]⟩, .slice none 0 0, .slice (some ⟨g, 0, none⟩) 2 2)], rfl, row_arr ht rfl (by decide) (by decide), fun z hz => ?_⟩
  simp only [List.mem_singleton] at hz
  subst hz
  exact ⟨srow_nil w, row_arr hl rfl (by decide) (by decide)⟩
theorem ex_szA : SzT exA := by
  intro f hf
  simp only [exA, List.mem_singleton] at hf
  subst hf
  refine ⟨by decide, fun x hx => by simp at hx, fun x hx => ?_⟩
  simp only [List.mem_cons, List.not_mem_nil, or_false] at hx
  rcases hx with rfl | rfl <;> decide
theorem ex_szB : SzT exB := by
  intro f hf
  simp only [exB, List.mem_singleton] at hf
  subst hf
  refine ⟨by decide, fun x hx => by simp at hx, fun x hx => ?_⟩
  simp only [List.mem_cons, List.not_mem_nil, or_false] at hx
  rcases hx with rfl | rfl <;> decide
theorem ex_szE : SzE exE := by
  intro f hf
  simp only [exE, List.mem_cons, List.not_mem_nil, or_false] at hf
  rcases hf with rfl | rfl <;> decide
theorem ex_fewA : FewT exA := ⟨by decide, fun f hf => by simp only [exA, List.mem_singleton] at hf; subst hf; decide⟩
theorem ex_fewB : FewT exB := ⟨by decide, fun f hf => by simp only [exB, List.mem_singleton] at hf; subst hf; decide⟩
theorem ex_same : sameT exB exB = true := sameT_t rfl
def exPs : ByteArray := ⟨#[60, 32, 97, 32, 48, 10, 62, 32, 97, 32, 49, 32, 122, 10]⟩
theorem ex_text : ((⟨exP.toArray⟩ : ByteArray).toList == exPs.toList) = true := seq_t rfl
def Fields (w : World) : World := (((w.alloc (.cells #[.string ⟨#[120]⟩, .string ⟨#[121]⟩] 9)).alloc (.cells #[.string ⟨#[97]⟩, .slice none 0 0, .slice (some ⟨w.heap.size, 0, none⟩) 2 2] 40)).alloc (.cells #[.string ⟨#[121]⟩, .string ⟨#[122]⟩] 9)).alloc (.cells #[.string ⟨#[97]⟩, .slice none 0 0, .slice (some ⟨w.heap.size + 1 + 1, 0, none⟩) 2 2] 40)
theorem arrT_newH (w : World) (cs : List Value) (e : TypeId) {H : Nat} (hH : w.heap.size = H) : ArrT (w.alloc (.cells cs.toArray e)) H e cs := by subst hH; exact arrT_new w cs e
theorem ArrT.alloc {w : World} {g : Nat} {e : TypeId} {cs : List Value} (h : ArrT w g e cs) (o : Obj) : ArrT (w.alloc o) g e cs := h.over (below_box o)

set_option maxHeartbeats 10000000 in
set_option maxRecDepth 100000 in
theorem works_any (w : World) : Calls Tryz.prog 5 #[] w fun e w' => e = .returned (.bool true) ∧ Below w.heap.size w w' := by
  have a0 : ArrT (Fields w) w.heap.size 9 [.string ⟨#[120]⟩, .string ⟨#[121]⟩] := (((arrT_new w [_, _] _).alloc _).alloc _).alloc _
  have a1 : ArrT (Fields w) (w.heap.size + 1) 40 [.string ⟨#[97]⟩, .slice none 0 0, .slice (some ⟨w.heap.size, 0, none⟩) 2 2] := ((arrT_newH _ [_, _, _] _ (by simp)).alloc _).alloc _
  have a2 : ArrT (Fields w) (w.heap.size + 1 + 1) 9 [.string ⟨#[121]⟩, .string ⟨#[122]⟩] := (arrT_newH _ [_, _] _ (by simp)).alloc _
  have a3 : ArrT (Fields w) (w.heap.size + 1 + 1 + 1) 40 [.string ⟨#[97]⟩, .slice none 0 0, .slice (some ⟨w.heap.size + 1 + 1, 0, none⟩) 2 2] := arrT_newH _ [_, _, _] _ (by simp)
  have HFa : Hid (FRow (Fields w) (.slice (some ⟨w.heap.size + 1, 0, none⟩) 1 1) exA) := ex_frow a0 a1
  have HFb : Hid (FRow (Fields w) (.slice (some ⟨w.heap.size + 1 + 1 + 1, 0, none⟩) 1 1) exB) := ex_frow a2 a3
  have HBf : Hid (Below w.heap.size w (Fields w)) := ((((Below.refl _ _).alloc (Nat.le_refl _) _).alloc (by simp) _).alloc (by simp; omega) _).alloc (by simp; omega) _
  clear a0 a1 a2 a3
  go_enter Tryz.func5, Tryz.ntmps5
  go_wp2_with fail
  refine (of_any _ _ exA exB (Fields w) HFa.out HFb.out ex_szA ex_szB ex_fewA ex_fewB).mono ?_
  rintro e w2 ⟨v2, rfl, hr2, hb2⟩
  rw [ex_ofN]
  rw [ex_ofS] at hr2
  have HE2 := Lib.hid hr2
  have HB2 := Lib.hid (below_over HBf.out HBf.out.size hb2)
  have HFa2 := Lib.hid (HFa.out.over hb2)
  have HFb2 := Lib.hid (HFb.out.over hb2)
  clear hr2 hb2
  go_wp2_with fail
  have hap := apply_any _ v2 exA exE w2 HFa2.out HE2.out ex_szA ex_szE (by decide)
  rw [ex_apply] at hap
  refine hap.mono ?_
  clear hap
  rintro e w3 ⟨v3, rfl, hv3, hb3⟩
  have HV3 : Hid (FRow w3 v3 exB) := hv3
  have HB3 := Lib.hid (below_over HB2.out HB2.out.size hb3)
  have HFb3 := Lib.hid (HFb2.out.over hb3)
  have HE3 := Lib.hid (HE2.out.over hb3)
  clear hv3 hb3
  go_wp2_with fail
  have hpr := print_any v2 exE w3 HE3.out ex_szE (by decide)
  rw [ex_print] at hpr
  refine hpr.mono ?_
  clear hpr
  rintro e w4 ⟨rfl, hb4⟩
  have HB4 := Lib.hid (below_over HB3.out HB3.out.size hb4)
  have HV4 := Lib.hid (HV3.out.over hb4)
  have HFb4 := Lib.hid (HFb3.out.over hb4)
  have htx := ex_text
  clear hb4
  go_wp2_with fail
  refine (rsame_any v3 _ exB exB w4 HV4.out HFb4.out).mono ?_
  rintro e w5 ⟨rfl, hb5⟩
  rw [ex_same]
  go_wp2_with fail
  go_ret
  exact ⟨rfl, below_over HB4.out HB4.out.size hb5⟩

end Go.Proofs.YtjbihmglpfdmnaaGreatDoor
namespace Go.Proofs.YtjbihmglpfdmnaaGreatDoor
open Go Go.RowKit

end Go.Proofs.YtjbihmglpfdmnaaGreatDoor
