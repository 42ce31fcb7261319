/- Contracts of package tree: good, Good. -/
import Derived.Test.YtjbihmglpfdmnaaGreatDoorTreeE
namespace Go.Proofs.YtjbihmglpfdmnaaGreatDoor
open Go Go.RowKit

set_option maxHeartbeats 4000000 in
theorem tgood_any (f : FileM) (av lv : Value) (w : World) (ha : SRow w av f.also) (hl : SRow w lv f.lines) (hz : f.name.size ≤ maxLen ∧ SzS f.also ∧ SzS f.lines) :
    Calls Tryz.prog 42 #[.agg #[.string f.name, av, lv]] w fun e w' => e = .returned (.bool (fileOk f)) ∧ Below w.heap.size w w' := by
  obtain ⟨aa, ca, rfl, a1, a2, _, _⟩ := ha.form
  obtain ⟨la, cl, rfl, l1, l2, _, _⟩ := hl.form
  unfold maxLen at a2 l2
  have HSz := Lib.hid hz
  have HLs := Lib.hid hl
  have HE := Lib.hid (fileOk_eq f)
  have hb0 : ∀ o, Below w.heap.size w (w.alloc o) := fun o => (Below.refl _ _).alloc (Nat.le_refl _) o
  have HB0 := Lib.hid hb0
  have hA := arr_new w #[.string f.name, .slice aa f.also.length ca, .slice la f.lines.length cl] 40
  have HA1 := Lib.hid (hA.cell (j := 1) rfl)
  have HA2 := Lib.hid (hA.cell (j := 2) rfl)
  have HLt := Lib.hid hA.lt
  clear hz ha hl hb0 hA
  cases hn : nameOk f.name with
  | false =>
    go_enter Tryz.func42, Tryz.ntmps42
    go_wp2_with (go_at_call 35; (with_reducible refine (name_any _ _ HSz.out.1).mono ?_); rintro e w1 ⟨rfl, hb1⟩; have c1 := (hb1.cell (p := ⟨w.heap.size, 1, none⟩) HLt.out).trans HA1.out; have c2 := (hb1.cell (p := ⟨w.heap.size, 2, none⟩) HLt.out).trans HA2.out; have g1 := Nat.lt_of_lt_of_le HLt.out hb1.size)
    go_ret
    refine ⟨ret_val ?_, below_over (HB0.out _) (HB0.out _).size hb1⟩
    rw [HE.out, hn]; rfl
  | true =>
    by_cases hal : f.also.length = 0
    · have e1 : ((f.also.length : Int) == 0) = true := by simp; exact List.eq_nil_of_length_eq_zero hal
      have HAL := Lib.hid hal
      clear hal
      by_cases hll : f.lines.length ≤ 60
      · go_enter Tryz.func42, Tryz.ntmps42
        go_wp2_with (first | (go_at_call 35; (with_reducible refine (name_any _ _ HSz.out.1).mono ?_); rintro e w1 ⟨rfl, hb1⟩; have c1 := (hb1.cell (p := ⟨w.heap.size, 1, none⟩) HLt.out).trans HA1.out; have c2 := (hb1.cell (p := ⟨w.heap.size, 2, none⟩) HLt.out).trans HA2.out; have g1 := Nat.lt_of_lt_of_le HLt.out hb1.size) | (go_at_call 61; refine (contains_any _ _ _ (HLs.out.over (below_over (HB0.out _) (HB0.out _).size hb1)) HSz.out.2.2).mono ?_; rintro e w2 ⟨rfl, hb2⟩))
        go_ret
        refine ⟨ret_val ?_, below_over (HB0.out _) (HB0.out _).size (below_over hb1 hb1.size hb2)⟩
        rw [HE.out, hn]; simp [HAL.out, hll]
      · go_enter Tryz.func42, Tryz.ntmps42
        go_wp2_with (go_at_call 35; (with_reducible refine (name_any _ _ HSz.out.1).mono ?_); rintro e w1 ⟨rfl, hb1⟩; have c1 := (hb1.cell (p := ⟨w.heap.size, 1, none⟩) HLt.out).trans HA1.out; have c2 := (hb1.cell (p := ⟨w.heap.size, 2, none⟩) HLt.out).trans HA2.out; have g1 := Nat.lt_of_lt_of_le HLt.out hb1.size)
        go_ret
        refine ⟨ret_val ?_, below_over (HB0.out _) (HB0.out _).size hb1⟩
        rw [HE.out, hn]; simp [HAL.out, hll]
    · have e1 : ((f.also.length : Int) == 0) = false := by simp; intro h; exact hal (by rw [h]; rfl)
      go_enter Tryz.func42, Tryz.ntmps42
      go_wp2_with (go_at_call 35; (with_reducible refine (name_any _ _ HSz.out.1).mono ?_); rintro e w1 ⟨rfl, hb1⟩; have c1 := (hb1.cell (p := ⟨w.heap.size, 1, none⟩) HLt.out).trans HA1.out; have c2 := (hb1.cell (p := ⟨w.heap.size, 2, none⟩) HLt.out).trans HA2.out; have g1 := Nat.lt_of_lt_of_le HLt.out hb1.size)
      go_ret
      refine ⟨ret_val ?_, below_over (HB0.out _) (HB0.out _).size hb1⟩
      rw [HE.out, hn]; simp [hal]

set_option maxHeartbeats 10000000 in
set_option maxRecDepth 100000 in
theorem good_any (v : Value) (t : List FileM) (w : World) (hv : FRow w v t) (hsz : SzT t) :
    Calls Tryz.prog 24 #[v] w fun e w' => e = .returned (.bool (treeGood t)) ∧ Below w.heap.size w w' := by
  obtain ⟨a, cap, rfl, h1, h2, _, hc⟩ := hv.form
  unfold maxLen at h2
  clear hv
  have HSZ := Lib.hid hsz
  clear hsz
  have HAll : Hid ((∀ i, i < t.length → goodAt t i = true) → treeGood t = decide (t.length ≤ 16)) := fun h => treeGood_all h
  go_enter Tryz.func24, Tryz.ntmps24
  go_wp2
  go_loopw [3, 4, 7] (fun _ _ i wr => ∃ k : Nat, k ≤ t.length ∧ i = .int .i64 k ∧ Hid (∀ i, i < k → goodAt t i = true) ∧ Below w.heap.size w wr) (fun _ _ i _ => t.length - (intOf i).toNat)
  case atStart => exact ⟨0, by omega, rfl, (fun j hj => by omega), Below.refl _ _⟩
  case round =>
    obtain ⟨k, hk, rfl, HK, hbl⟩ := hrel
    by_cases hlt : k < t.length
    · obtain ⟨b, o, rfl, sb, hf⟩ := hc.resolve_left (by omega)
      obtain ⟨f, hx⟩ := get_of_lt hlt
      obtain ⟨av, lv, hat0⟩ := hf k f hx
      have hat := hat0.over hbl sb
      obtain ⟨aa, ca, rfl, a1, a2, _, _⟩ := hat0.also.form
      obtain ⟨la, cl, rfl, l1, l2, _, _⟩ := hat0.lines.form
      have c0 := hat.c0
      have c1 := hat.c1
      have c2 := hat.c2
      have HAt := Lib.hid hat0
      unfold maxLen at a2 l2
      have sb' : b < wr.heap.size := Nat.lt_of_lt_of_le sb hbl.size
      have HX := Lib.hid hx
      have HSz := Lib.hid (HSZ.out.at hx)
      have HF := Lib.hid hf
      clear hat hat0 hx hf hc
      cases hfo : fileOk f with
      | false =>
        have HN : Hid (treeGood t = false) := treeGood_bad hlt (goodAt_file HX.out hfo)
        go_wp2_with fail
        obtain ⟨wa, HWa⟩ : ∃ wa, Hid (wa = wr.alloc (.cells #[.string f.name, .slice aa f.also.length ca, .slice la f.lines.length cl] 40)) := ⟨_, rfl⟩
        rw [← HWa.out]
        have hbw : Below w.heap.size w wa := by rw [HWa.out]; exact hbl.alloc hbl.size _
        have hbr : Below wr.heap.size wr wa := by rw [HWa.out]; exact (Below.refl _ _).alloc (Nat.le_refl _) _
        have n0 : wa.cell? ⟨wr.heap.size, 0, none⟩ = some (.string f.name) := by rw [HWa.out]; exact (arr_new wr _ _).cell (j := 0) rfl
        have n1 : wa.cell? ⟨wr.heap.size, 1, none⟩ = some (.slice aa f.also.length ca) := by rw [HWa.out]; exact (arr_new wr _ _).cell (j := 1) rfl
        have n2 : wa.cell? ⟨wr.heap.size, 2, none⟩ = some (.slice la f.lines.length cl) := by rw [HWa.out]; exact (arr_new wr _ _).cell (j := 2) rfl
        have nl : wr.heap.size < wa.heap.size := by rw [HWa.out]; simp
        have sbw : b < wa.heap.size := by omega
        have HSL := Lib.hid (And.intro (HAt.out.also.over hbw) (HAt.out.lines.over hbw))
        have hcur : Below wa.heap.size wa wa.drew := (Below.refl _ _).drew
        refine wp_region_lex (C := IsOver wa) 18 [] (by kernel_rfl) (by kernel_rfl) (isOver_of (by repeat (first | exact Below.refl _ _ | apply Below.drew | apply below_drewN | (refine Below.alloc ?_ (by simp) _)))) ?_
        simp only [List.take_succ_cons, List.take_zero, List.drop_succ_cons, List.drop_zero]
        repeat (first | (refine lex_skip rfl rfl ?_; simp only [Act.put, List.setIfInBounds_toArray, List.set_cons_succ, List.set_cons_zero]) | (refine lex_one rfl ?_; go_big_quiet_step (fail); refine wpQuiet_nil ?_) | (refine lex_loud rfl ?_; go_wp2_with (first | (go_at_call 42; (with_reducible refine (tgood_any f _ _ _ (HSL.out.1.over hcur) (HSL.out.2.over hcur) HSz.out).mono ?_); rintro e w' ⟨rfl, hb⟩; replace hcur := below_over hcur hcur.size hb; clear hb)); refine ⟨isOver_of hcur, ?_⟩))
        refine lex_end ?_
        go_wp2_with fail
        go_ret
        exact ⟨ret_val (congrArg Value.bool HN.out.symm), below_over hbw hbw.size hcur⟩
      | true =>
        by_cases h0 : k = 0
        · have HS : Hid (∀ i, i < k + 1 → goodAt t i = true) := by
            intro i hi
            by_cases hik : i = k
            · subst hik; rw [h0] at HX ⊢; rw [goodAt_zero HX.out]; exact hfo
            · omega
          have hk0 : ¬ 0 < k := by omega
          clear h0
          go_wp2_with fail
          obtain ⟨wa, HWa⟩ : ∃ wa, Hid (wa = wr.alloc (.cells #[.string f.name, .slice aa f.also.length ca, .slice la f.lines.length cl] 40)) := ⟨_, rfl⟩
          rw [← HWa.out]
          have hbw : Below w.heap.size w wa := by rw [HWa.out]; exact hbl.alloc hbl.size _
          have hbr : Below wr.heap.size wr wa := by rw [HWa.out]; exact (Below.refl _ _).alloc (Nat.le_refl _) _
          have n0 : wa.cell? ⟨wr.heap.size, 0, none⟩ = some (.string f.name) := by rw [HWa.out]; exact (arr_new wr _ _).cell (j := 0) rfl
          have n1 : wa.cell? ⟨wr.heap.size, 1, none⟩ = some (.slice aa f.also.length ca) := by rw [HWa.out]; exact (arr_new wr _ _).cell (j := 1) rfl
          have n2 : wa.cell? ⟨wr.heap.size, 2, none⟩ = some (.slice la f.lines.length cl) := by rw [HWa.out]; exact (arr_new wr _ _).cell (j := 2) rfl
          have nl : wr.heap.size < wa.heap.size := by rw [HWa.out]; simp
          have sbw : b < wa.heap.size := by omega
          have HSL := Lib.hid (And.intro (HAt.out.also.over hbw) (HAt.out.lines.over hbw))
          have hcur : Below wa.heap.size wa wa.drew := (Below.refl _ _).drew
          refine wp_region_lex (C := IsOver wa) 18 [] (by kernel_rfl) (by kernel_rfl) (isOver_of (by repeat (first | exact Below.refl _ _ | apply Below.drew | apply below_drewN | (refine Below.alloc ?_ (by simp) _)))) ?_
          simp only [List.take_succ_cons, List.take_zero, List.drop_succ_cons, List.drop_zero]
          repeat (first | (refine lex_skip rfl rfl ?_; simp only [Act.put, List.setIfInBounds_toArray, List.set_cons_succ, List.set_cons_zero]) | (refine lex_one rfl ?_; go_big_quiet_step (fail); refine wpQuiet_nil ?_) | (refine lex_loud rfl ?_; go_wp2_with (first | (go_at_call 42; (with_reducible refine (tgood_any f _ _ _ (HSL.out.1.over hcur) (HSL.out.2.over hcur) HSz.out).mono ?_); rintro e w' ⟨rfl, hb⟩; replace hcur := below_over hcur hcur.size hb; clear hb)); refine ⟨isOver_of hcur, ?_⟩))
          refine lex_end ?_
          go_wp2_with fail
          go_roundw
          case rel => exact ⟨k + 1, by omega, by go_num, HS, below_over hbw hbw.size hcur⟩
          case measure => simp [intOf]; omega
        · obtain ⟨g, hg⟩ := get_of_lt (xs := t) (i := k - 1) (by omega)
          obtain ⟨_, _, hg0⟩ := HF.out (k - 1) g hg
          have HG := Lib.hid hg
          have hk0 : 0 < k := by omega
          have HAg := Lib.hid hg0
          clear hg0 hg
          cases hlt2 : Op.bytesLess g.name.toList f.name.toList with
          | false =>
            have HN : Hid (treeGood t = false) := treeGood_bad hlt (by
              obtain ⟨k', rfl⟩ : ∃ k', k = k' + 1 := ⟨k - 1, by omega⟩
              rw [goodAt_succ HX.out (by simpa using HG.out)]; simp [ltB, hlt2])
            clear h0
            go_wp2_with fail
            obtain ⟨wa, HWa⟩ : ∃ wa, Hid (wa = wr.alloc (.cells #[.string f.name, .slice aa f.also.length ca, .slice la f.lines.length cl] 40)) := ⟨_, rfl⟩
            rw [← HWa.out]
            have hbw : Below w.heap.size w wa := by rw [HWa.out]; exact hbl.alloc hbl.size _
            have hbr : Below wr.heap.size wr wa := by rw [HWa.out]; exact (Below.refl _ _).alloc (Nat.le_refl _) _
            have n0 : wa.cell? ⟨wr.heap.size, 0, none⟩ = some (.string f.name) := by rw [HWa.out]; exact (arr_new wr _ _).cell (j := 0) rfl
            have n1 : wa.cell? ⟨wr.heap.size, 1, none⟩ = some (.slice aa f.also.length ca) := by rw [HWa.out]; exact (arr_new wr _ _).cell (j := 1) rfl
            have n2 : wa.cell? ⟨wr.heap.size, 2, none⟩ = some (.slice la f.lines.length cl) := by rw [HWa.out]; exact (arr_new wr _ _).cell (j := 2) rfl
            have nl : wr.heap.size < wa.heap.size := by rw [HWa.out]; simp
            have sbw : b < wa.heap.size := by omega
            have HSL := Lib.hid (And.intro (HAt.out.also.over hbw) (HAt.out.lines.over hbw))
            have cg := (hbw.cell (p := ⟨b, o + (k - 1) * 3, none⟩) sb).trans HAg.out.c0
            have hcur : Below wa.heap.size wa wa.drew := (Below.refl _ _).drew
            refine wp_region_lex (C := IsOver wa) 18 [] (by kernel_rfl) (by kernel_rfl) (isOver_of (by repeat (first | exact Below.refl _ _ | apply Below.drew | apply below_drewN | (refine Below.alloc ?_ (by simp) _)))) ?_
            simp only [List.take_succ_cons, List.take_zero, List.drop_succ_cons, List.drop_zero]
            repeat (first | (refine lex_skip rfl rfl ?_; simp only [Act.put, List.setIfInBounds_toArray, List.set_cons_succ, List.set_cons_zero]) | (refine lex_one rfl ?_; go_big_quiet_step (fail); refine wpQuiet_nil ?_) | (refine lex_loud rfl ?_; go_wp2_with (first | (go_at_call 42; (with_reducible refine (tgood_any f _ _ _ (HSL.out.1.over hcur) (HSL.out.2.over hcur) HSz.out).mono ?_); rintro e w' ⟨rfl, hb⟩; replace hcur := below_over hcur hcur.size hb; clear hb)); refine ⟨isOver_of hcur, ?_⟩))
            refine lex_end ?_
            go_wp2_with fail
            go_ret
            exact ⟨ret_val (congrArg Value.bool HN.out.symm), below_over hbw hbw.size hcur⟩
          | true =>
            have HS : Hid (∀ i, i < k + 1 → goodAt t i = true) := by
              intro i hi
              by_cases hik : i = k
              · subst hik
                obtain ⟨k', rfl⟩ : ∃ k', i = k' + 1 := ⟨i - 1, by omega⟩
                rw [goodAt_succ HX.out (by simpa using HG.out), hfo]; simp [ltB, hlt2]
              · exact HK.out i (by omega)
            clear h0
            go_wp2_with fail
            obtain ⟨wa, HWa⟩ : ∃ wa, Hid (wa = wr.alloc (.cells #[.string f.name, .slice aa f.also.length ca, .slice la f.lines.length cl] 40)) := ⟨_, rfl⟩
            rw [← HWa.out]
            have hbw : Below w.heap.size w wa := by rw [HWa.out]; exact hbl.alloc hbl.size _
            have hbr : Below wr.heap.size wr wa := by rw [HWa.out]; exact (Below.refl _ _).alloc (Nat.le_refl _) _
            have n0 : wa.cell? ⟨wr.heap.size, 0, none⟩ = some (.string f.name) := by rw [HWa.out]; exact (arr_new wr _ _).cell (j := 0) rfl
            have n1 : wa.cell? ⟨wr.heap.size, 1, none⟩ = some (.slice aa f.also.length ca) := by rw [HWa.out]; exact (arr_new wr _ _).cell (j := 1) rfl
            have n2 : wa.cell? ⟨wr.heap.size, 2, none⟩ = some (.slice la f.lines.length cl) := by rw [HWa.out]; exact (arr_new wr _ _).cell (j := 2) rfl
            have nl : wr.heap.size < wa.heap.size := by rw [HWa.out]; simp
            have sbw : b < wa.heap.size := by omega
            have HSL := Lib.hid (And.intro (HAt.out.also.over hbw) (HAt.out.lines.over hbw))
            have cg := (hbw.cell (p := ⟨b, o + (k - 1) * 3, none⟩) sb).trans HAg.out.c0
            have hcur : Below wa.heap.size wa wa.drew := (Below.refl _ _).drew
            refine wp_region_lex (C := IsOver wa) 18 [] (by kernel_rfl) (by kernel_rfl) (isOver_of (by repeat (first | exact Below.refl _ _ | apply Below.drew | apply below_drewN | (refine Below.alloc ?_ (by simp) _)))) ?_
            simp only [List.take_succ_cons, List.take_zero, List.drop_succ_cons, List.drop_zero]
            repeat (first | (refine lex_skip rfl rfl ?_; simp only [Act.put, List.setIfInBounds_toArray, List.set_cons_succ, List.set_cons_zero]) | (refine lex_one rfl ?_; go_big_quiet_step (fail); refine wpQuiet_nil ?_) | (refine lex_loud rfl ?_; go_wp2_with (first | (go_at_call 42; (with_reducible refine (tgood_any f _ _ _ (HSL.out.1.over hcur) (HSL.out.2.over hcur) HSz.out).mono ?_); rintro e w' ⟨rfl, hb⟩; replace hcur := below_over hcur hcur.size hb; clear hb)); refine ⟨isOver_of hcur, ?_⟩))
            refine lex_end ?_
            go_wp2_with fail
            go_roundw
            case rel => exact ⟨k + 1, by omega, by go_num, HS, below_over hbw hbw.size hcur⟩
            case measure => simp [intOf]; omega
    · obtain rfl : k = t.length := by omega
      have HN := Lib.hid (HAll.out HK.out)
      by_cases h16 : t.length ≤ 16
      all_goals
        go_wp2_with fail
        go_ret
        refine ⟨ret_val ?_, hbl⟩
        rw [HN.out]
        first | (simp [h16]; omega) | simp [h16]
end Go.Proofs.YtjbihmglpfdmnaaGreatDoor
