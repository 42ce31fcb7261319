/- Contracts of bruitref15.Find, Same. -/
import Derived.Test.YtjbihmglpfdmnaaGreatDoorTreeB
import Derived.Test.YtjbihmglpfdmnaaGreatDoorRepT
namespace Go.Proofs.YtjbihmglpfdmnaaGreatDoor
open Go Go.RowKit

set_option maxHeartbeats 10000000 in
set_option maxRecDepth 100000 in
theorem rsame_any (va vb : Value) (s t : List FileM) (w : World) (ha : FRow w va s) (hb : FRow w vb t) :
    Calls Tryz.prog 14 #[va, vb] w fun e w' => e = .returned (.bool (sameT s t)) ∧ Below w.heap.size w w' := by
  obtain ⟨a, ca, rfl, h1, h2, _, hca⟩ := ha.form
  obtain ⟨b, cb, rfl, h3, h4, _, hcb⟩ := hb.form
  unfold maxLen at h2 h4
  by_cases hl : s.length = t.length
  · have HE : Hid ((∀ j, j < s.length → s[j]? = t[j]?) → s = t) := eq_of_all hl
    have HL := Lib.hid hl
    clear ha hb
    rw [← hl]
    rw [← hl] at h3
    rw [← hl] at hcb
    clear hl
    go_enter Tryz.func14, Tryz.ntmps14
    go_wp2
    go_loopw [5] (fun i wr => ∃ k : Nat, k ≤ s.length ∧ i = .int .i64 k ∧ Hid (∀ j, j < k → s[j]? = t[j]?) ∧ Below w.heap.size w wr) (fun i _ => s.length - (intOf i).toNat)
    case atStart => exact ⟨0, by omega, rfl, (fun j hj => by omega), Below.refl _ _⟩
    case round =>
      obtain ⟨k, hk, rfl, HK, hbl⟩ := hrel
      by_cases hlt : k < s.length
      · obtain ⟨bA, oA, rfl, sA, cA⟩ := hca.resolve_left (by omega)
        obtain ⟨bB, oB, rfl, sB, cB⟩ := hcb.resolve_left (by omega)
        obtain ⟨x, hx⟩ := get_of_lt hlt
        obtain ⟨y, hy⟩ := get_of_lt (xs := t) (i := k) (by have := HL.out; omega)
        obtain ⟨av, lv, hat⟩ := cA k x hx
        obtain ⟨bv, mv, hbt⟩ := cB k y hy
        have hat := hat.over hbl sA
        have hbt := hbt.over hbl sB
        have c1 := hat.c0
        have c2 := hat.c1
        have c3 := hat.c2
        have d1 := hbt.c0
        have d2 := hbt.c1
        have d3 := hbt.c2
        have HA := Lib.hid (And.intro hat.also hat.lines)
        have HB := Lib.hid (And.intro hbt.also hbt.lines)
        have sA' : bA < wr.heap.size := Nat.lt_of_lt_of_le sA hbl.size
        have sB' : bB < wr.heap.size := Nat.lt_of_lt_of_le sB hbl.size
        have HXY := Lib.hid (And.intro hx hy)
        have HNe : Hid (x ≠ y → sameT s t = false) := fun he => sameT_f (by rintro rfl; rw [HXY.out.1] at HXY; exact he (by simpa using HXY.out.2))
        have HEq : Hid (x.name = y.name → x.also = y.also → x.lines = y.lines → ∀ j, j < k + 1 → s[j]? = t[j]?) := by
          intro e1 e2 e3 j hj
          by_cases hjk : j = k
          · subst hjk; rw [HXY.out.1, HXY.out.2]
            obtain ⟨_, _, _⟩ := x; obtain ⟨_, _, _⟩ := y
            simp at e1 e2 e3; rw [e1, e2, e3]
          · exact HK.out j (by omega)
        clear hx hy cA cB hca hcb hat hbt
        by_cases he1 : x.name = y.name
        · have b1 := seq_t he1
          by_cases he2 : x.also = y.also
          · have b2 := sameS_t he2
            by_cases he3 : x.lines = y.lines
            · have b3 := sameS_t he3
              have HS := Lib.hid (HEq.out he1 he2 he3)
              clear he1 he2 he3
              go_wp2_with fail
              have hcur : Below wr.heap.size wr wr.drew := (Below.refl _ _).drew
              refine wp_region_lex (C := IsOver wr) 39 [] (by kernel_rfl) (by kernel_rfl) (isOver_of (by repeat (first | exact Below.refl _ _ | apply Below.drew | apply below_drewN | (refine Below.alloc ?_ (by simp) _)))) ?_
              simp only [List.take_succ_cons, List.take_zero, List.drop_succ_cons, List.drop_zero]
              repeat (first | (refine lex_skip rfl rfl ?_; simp only [Act.put, List.setIfInBounds_toArray, List.set_cons_succ, List.set_cons_zero]) | (refine lex_one rfl ?_; go_big_quiet_step (fail); refine wpQuiet_nil ?_) | (refine lex_loud rfl ?_; go_wp2_with (first | (go_at_call 29; (with_reducible refine (rtexts_any av bv _ _ _ (HA.out.1.over hcur) (HB.out.1.over hcur)).mono ?_); rintro e w' ⟨rfl, hb⟩; replace hcur := below_over hcur hcur.size hb; clear hb) | (go_at_call 29; (with_reducible refine (rtexts_any lv mv _ _ _ (HA.out.2.over hcur) (HB.out.2.over hcur)).mono ?_); rintro e w' ⟨rfl, hb⟩; replace hcur := below_over hcur hcur.size hb; clear hb)); refine ⟨isOver_of hcur, ?_⟩))
              refine lex_end ?_
              go_wp2_with fail
              go_roundw
              case rel => exact ⟨k + 1, by omega, by go_num, HS, below_over hbl hbl.size hcur⟩
              case measure => simp [intOf]; omega
            · have b3 := sameS_f he3
              have HN := Lib.hid (HNe.out (fun h => he3 (by rw [h])))
              clear he1 he2 he3
              go_wp2_with fail
              have hcur : Below wr.heap.size wr wr.drew := (Below.refl _ _).drew
              refine wp_region_lex (C := IsOver wr) 39 [] (by kernel_rfl) (by kernel_rfl) (isOver_of (by repeat (first | exact Below.refl _ _ | apply Below.drew | apply below_drewN | (refine Below.alloc ?_ (by simp) _)))) ?_
              simp only [List.take_succ_cons, List.take_zero, List.drop_succ_cons, List.drop_zero]
              repeat (first | (refine lex_skip rfl rfl ?_; simp only [Act.put, List.setIfInBounds_toArray, List.set_cons_succ, List.set_cons_zero]) | (refine lex_one rfl ?_; go_big_quiet_step (fail); refine wpQuiet_nil ?_) | (refine lex_loud rfl ?_; go_wp2_with (first | (go_at_call 29; (with_reducible refine (rtexts_any av bv _ _ _ (HA.out.1.over hcur) (HB.out.1.over hcur)).mono ?_); rintro e w' ⟨rfl, hb⟩; replace hcur := below_over hcur hcur.size hb; clear hb) | (go_at_call 29; (with_reducible refine (rtexts_any lv mv _ _ _ (HA.out.2.over hcur) (HB.out.2.over hcur)).mono ?_); rintro e w' ⟨rfl, hb⟩; replace hcur := below_over hcur hcur.size hb; clear hb)); refine ⟨isOver_of hcur, ?_⟩))
              refine lex_end ?_
              go_wp2_with fail
              go_ret
              exact ⟨ret_val (congrArg Value.bool HN.out.symm), below_over hbl hbl.size hcur⟩
          · have b2 := sameS_f he2
            have HN := Lib.hid (HNe.out (fun h => he2 (by rw [h])))
            clear he1 he2 
            go_wp2_with fail
            have hcur : Below wr.heap.size wr wr.drew := (Below.refl _ _).drew
            refine wp_region_lex (C := IsOver wr) 39 [] (by kernel_rfl) (by kernel_rfl) (isOver_of (by repeat (first | exact Below.refl _ _ | apply Below.drew | apply below_drewN | (refine Below.alloc ?_ (by simp) _)))) ?_
            simp only [List.take_succ_cons, List.take_zero, List.drop_succ_cons, List.drop_zero]
            repeat (first | (refine lex_skip rfl rfl ?_; simp only [Act.put, List.setIfInBounds_toArray, List.set_cons_succ, List.set_cons_zero]) | (refine lex_one rfl ?_; go_big_quiet_step (fail); refine wpQuiet_nil ?_) | (refine lex_loud rfl ?_; go_wp2_with (first | (go_at_call 29; (with_reducible refine (rtexts_any av bv _ _ _ (HA.out.1.over hcur) (HB.out.1.over hcur)).mono ?_); rintro e w' ⟨rfl, hb⟩; replace hcur := below_over hcur hcur.size hb; clear hb) | (go_at_call 29; (with_reducible refine (rtexts_any lv mv _ _ _ (HA.out.2.over hcur) (HB.out.2.over hcur)).mono ?_); rintro e w' ⟨rfl, hb⟩; replace hcur := below_over hcur hcur.size hb; clear hb)); refine ⟨isOver_of hcur, ?_⟩))
            refine lex_end ?_
            go_wp2_with fail
            go_ret
            exact ⟨ret_val (congrArg Value.bool HN.out.symm), below_over hbl hbl.size hcur⟩
        · have b1 := seq_f he1
          have HN := Lib.hid (HNe.out (fun h => he1 (by rw [h])))
          clear he1 
          go_wp2_with fail
          have hcur : Below wr.heap.size wr wr.drew := (Below.refl _ _).drew
          refine wp_region_lex (C := IsOver wr) 39 [] (by kernel_rfl) (by kernel_rfl) (isOver_of (by repeat (first | exact Below.refl _ _ | apply Below.drew | apply below_drewN | (refine Below.alloc ?_ (by simp) _)))) ?_
          simp only [List.take_succ_cons, List.take_zero, List.drop_succ_cons, List.drop_zero]
          repeat (first | (refine lex_skip rfl rfl ?_; simp only [Act.put, List.setIfInBounds_toArray, List.set_cons_succ, List.set_cons_zero]) | (refine lex_one rfl ?_; go_big_quiet_step (fail); refine wpQuiet_nil ?_) | (refine lex_loud rfl ?_; go_wp2_with (first | (go_at_call 29; (with_reducible refine (rtexts_any av bv _ _ _ (HA.out.1.over hcur) (HB.out.1.over hcur)).mono ?_); rintro e w' ⟨rfl, hb⟩; replace hcur := below_over hcur hcur.size hb; clear hb) | (go_at_call 29; (with_reducible refine (rtexts_any lv mv _ _ _ (HA.out.2.over hcur) (HB.out.2.over hcur)).mono ?_); rintro e w' ⟨rfl, hb⟩; replace hcur := below_over hcur hcur.size hb; clear hb)); refine ⟨isOver_of hcur, ?_⟩))
          refine lex_end ?_
          go_wp2_with fail
          go_ret
          exact ⟨ret_val (congrArg Value.bool HN.out.symm), below_over hbl hbl.size hcur⟩
      · obtain rfl : k = s.length := by omega
        have HN : Hid (sameT s t = true) := sameT_t (HE.out HK.out)
        go_wp2_with fail
        go_ret
        exact ⟨ret_val (congrArg Value.bool HN.out.symm), hbl⟩
  · have HN : Hid (sameT s t = false) := sameT_f (by rintro rfl; exact hl rfl)
    go_enter Tryz.func14, Tryz.ntmps14
    have hb1 : ((s.length : Int) != (t.length : Int)) = true := by simp; omega
    clear hl
    go_wp2
    go_ret
    exact ⟨ret_val (congrArg Value.bool HN.out.symm), Below.refl _ _⟩
end Go.Proofs.YtjbihmglpfdmnaaGreatDoor
