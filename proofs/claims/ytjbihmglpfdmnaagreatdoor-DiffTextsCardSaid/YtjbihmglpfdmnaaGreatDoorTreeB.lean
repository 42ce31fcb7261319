/- Contracts of bruitref14.Line, bruitref15.Texts, Find, Same. -/
import Derived.Test.YtjbihmglpfdmnaaGreatDoorTreeA
namespace Go.Proofs.YtjbihmglpfdmnaaGreatDoor
open Go Go.RowKit

set_option maxHeartbeats 1000000 in
theorem rline_any (s : ByteArray) (w : World) (hs : s.size ≤ maxLen) :
    Calls Tryz.prog 40 #[.string s] w fun e w' => e = .returned (.bool (lineOk s)) ∧ Below w.heap.size w w' := by
  have HM := Lib.hid hs
  unfold maxLen at hs
  have HG := Lib.hid (get_list s)
  go_enter Tryz.func40, Tryz.ntmps40
  go_wp2
  go_loop [3] (fun i => ∃ k : Nat, k ≤ s.size ∧ i = .int .i64 k ∧ Hid (∀ j, j < k → s.data.toList[j]? ≠ some 10)) (fun i => s.size - (intOf i).toNat)
  case atStart => exact ⟨0, by omega, rfl, fun j hj => by omega⟩
  case round =>
    obtain ⟨k, hk, rfl, HL⟩ := hrel
    by_cases hlt : k < s.size
    · have HGk := Lib.hid (HG.out k hlt)
      by_cases hc : s[k] = 10
      · have HN := Lib.hid (lineOk_has hlt hc)
        have hb : ((s[k].toNat : Int) == 10) = true := by rw [hc]; rfl
        clear hc
        go_wp2
        go_ret
        exact ⟨ret_val (congrArg Value.bool HN.out.symm), Below.refl _ _⟩
      · have HS : Hid (∀ j, j < k + 1 → s.data.toList[j]? ≠ some 10) := by
          intro j hj
          by_cases hjk : j = k
          · subst hjk; rw [HGk.out]; simpa using hc
          · exact HL.out j (by omega)
        have hb : ((s[k].toNat : Int) == 10) = false := by
          simp; intro h; exact hc (UInt8.toNat_inj.1 (by show s[k].toNat = 10; omega))
        clear hc
        go_wp2
        go_round
        case rel => exact ⟨k + 1, by omega, by go_num, HS⟩
        case measure => simp [intOf]; omega
    · obtain rfl : k = s.size := by omega
      have HN := Lib.hid (lineOk_none HL.out)
      by_cases h6 : s.size ≤ 60
      · go_wp2_with (go_at_call 60; refine (rmark_any _ _ HM.out).mono ?_; rintro e w1 ⟨rfl, hb1⟩)
        go_ret
        refine ⟨ret_val ?_, hb1⟩
        rw [HN.out]; simp [h6]
      · go_wp2
        go_ret
        refine ⟨ret_val ?_, Below.refl _ _⟩
        rw [HN.out]; simp [h6]

set_option maxHeartbeats 1000000 in
theorem rtexts_any (va vb : Value) (xs ys : List ByteArray) (w : World) (ha : SRow w va xs) (hb : SRow w vb ys) :
    Calls Tryz.prog 29 #[va, vb] w fun e w' => e = .returned (.bool (sameS xs ys)) ∧ Below w.heap.size w w' := by
  obtain ⟨a, ca, rfl, h1, h2, _, hca⟩ := ha.form
  obtain ⟨b, cb, rfl, h3, h4, _, hcb⟩ := hb.form
  unfold maxLen at h2 h4
  by_cases hl : xs.length = ys.length
  · have HE : Hid ((∀ j, j < xs.length → xs[j]? = ys[j]?) → xs = ys) := eq_of_all hl
    have HL := Lib.hid hl
    clear ha hb
    rw [← hl]
    rw [← hl] at h3
    rw [← hl] at hcb
    clear hl
    go_enter Tryz.func29, Tryz.ntmps29
    go_wp2
    go_loopw [5] (fun i wr => ∃ k : Nat, k ≤ xs.length ∧ i = .int .i64 k ∧ Hid (∀ j, j < k → xs[j]? = ys[j]?) ∧ Below w.heap.size w wr) (fun i _ => xs.length - (intOf i).toNat)
    case atStart => exact ⟨0, by omega, rfl, (fun j hj => by omega), Below.refl _ _⟩
    case round =>
      obtain ⟨k, hk, rfl, HK, hbl⟩ := hrel
      by_cases hlt : k < xs.length
      · obtain ⟨bA, oA, rfl, sA, cA⟩ := hca.resolve_left (by omega)
        obtain ⟨bB, oB, rfl, sB, cB⟩ := hcb.resolve_left (by omega)
        obtain ⟨x, hx⟩ := get_of_lt hlt
        obtain ⟨y, hy⟩ := get_of_lt (xs := ys) (i := k) (by have := HL.out; omega)
        have c1 := (hbl.cell (p := ⟨bA, oA + k, none⟩) sA).trans (cA k x hx)
        have c2 := (hbl.cell (p := ⟨bB, oB + k, none⟩) sB).trans (cB k y hy)
        have sA' : bA < wr.heap.size := Nat.lt_of_lt_of_le sA hbl.size
        have sB' : bB < wr.heap.size := Nat.lt_of_lt_of_le sB hbl.size
        have HXY := Lib.hid (And.intro hx hy)
        clear hx hy cA cB hca hcb
        by_cases he : x = y
        · subst he
          have HS : Hid (∀ j, j < k + 1 → xs[j]? = ys[j]?) := by
            intro j hj
            by_cases hjk : j = k
            · subst hjk; rw [HXY.out.1, HXY.out.2]
            · exact HK.out j (by omega)
          go_wp2_with fail
          refine wp_region_lex (C := IsOver wr) 9 [] (by kernel_rfl) (by kernel_rfl) (isOver_of (by repeat (first | exact Below.refl _ _ | apply Below.drew | apply below_drewN | (refine Below.alloc ?_ (by simp) _)))) ?_
          simp only [List.take_succ_cons, List.take_zero, List.drop_succ_cons, List.drop_zero]
          repeat (first | (refine lex_skip rfl rfl ?_; simp only [Act.put, List.setIfInBounds_toArray, List.set_cons_succ, List.set_cons_zero]) | (refine lex_one rfl ?_; go_big_quiet_step (fail); refine wpQuiet_nil ?_))
          refine lex_end ?_
          go_wp2_with fail
          go_roundw
          case rel => exact ⟨k + 1, by omega, by go_num, HS, hbl.drew⟩
          case measure => simp [intOf]; omega
        · have hne : (x.toList == y.toList) = false := by simp [ba_list, he]
          have hne2 : (x.toList != y.toList) = true := by simp [ba_list, he]
          have HN : Hid (sameS xs ys = false) := sameS_f (by rintro rfl; rw [HXY.out.1] at HXY; exact he (by simpa using HXY.out.2))
          clear he
          go_wp2_with fail
          refine wp_region_lex (C := IsOver wr) 9 [] (by kernel_rfl) (by kernel_rfl) (isOver_of (by repeat (first | exact Below.refl _ _ | apply Below.drew | apply below_drewN | (refine Below.alloc ?_ (by simp) _)))) ?_
          simp only [List.take_succ_cons, List.take_zero, List.drop_succ_cons, List.drop_zero]
          repeat (first | (refine lex_skip rfl rfl ?_; simp only [Act.put, List.setIfInBounds_toArray, List.set_cons_succ, List.set_cons_zero]) | (refine lex_one rfl ?_; go_big_quiet_step (fail); refine wpQuiet_nil ?_))
          refine lex_end ?_
          go_wp2_with fail
          go_ret
          exact ⟨ret_val (congrArg Value.bool HN.out.symm), hbl.drew⟩
      · obtain rfl : k = xs.length := by omega
        have HN : Hid (sameS xs ys = true) := sameS_t (HE.out HK.out)
        go_wp2_with fail
        go_ret
        exact ⟨ret_val (congrArg Value.bool HN.out.symm), hbl⟩
  · have HN : Hid (sameS xs ys = false) := sameS_f (by rintro rfl; exact hl rfl)
    go_enter Tryz.func29, Tryz.ntmps29
    have hb1 : ((xs.length : Int) != (ys.length : Int)) = true := by simp; omega
    clear hl
    go_wp2
    go_ret
    exact ⟨ret_val (congrArg Value.bool HN.out.symm), Below.refl _ _⟩
end Go.Proofs.YtjbihmglpfdmnaaGreatDoor
