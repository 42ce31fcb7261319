/- Contract of lcs.table. -/
import Derived.Test.YtjbihmglpfdmnaaGreatDoorLcsA
namespace Go.Proofs.YtjbihmglpfdmnaaGreatDoor
open Go Go.RowKit

set_option maxHeartbeats 10000000 in
set_option maxRecDepth 100000 in
theorem table_lcs (va vb : Value) (xs ys : List ByteArray) (w : World) (ha : SRow w va xs) (hb : SRow w vb ys) (la : xs.length ≤ 1000) (lb : ys.length ≤ 1000) :
    Calls Tryz.prog 63 #[va, vb] w (TabRes w xs ys) := by
  obtain ⟨a, ca, rfl, h1, h2, _, hca⟩ := ha.form
  obtain ⟨b, cb, rfl, h3, h4, _, hcb⟩ := hb.form
  unfold maxLen at h2 h4
  have HCa := Lib.hid hca
  have HCb := Lib.hid hcb
  clear ha hb hca hcb
  have hn : ((xs.length : Int) + 1) = ((xs.length + 1 : Nat) : Int) := by omega
  have hm : ((ys.length : Int) + 1) = ((ys.length + 1 : Nat) : Int) := by omega
  have HN := Lib.hid hn
  have HM := Lib.hid hm
  clear hn hm
  have q1 : 24 * (xs.length + 1) ≤ 281474976710656 := by omega
  have q2 : xs.length + 1 ≤ maxLen := by unfold maxLen; omega
  have q3 : 8 * (ys.length + 1) ≤ 281474976710656 := by omega
  have q4 : ys.length + 1 ≤ maxLen := by unfold maxLen; omega
  go_enter Tryz.func63, Tryz.ntmps63
  go_wp2_with (refine wpList_make_arr slzRows rfl _ _ rfl _ _ rfl rfl HN.out q1 q2 ?_; intro w1 hA1 hb1 hs1)
  have HA1 := Lib.hid hA1
  have HS1 := Lib.hid hs1
  clear hA1 hs1
  go_loopw [6, 17] (fun _ i wr => ∃ k : Nat, k ≤ xs.length + 1 ∧ i = .int .i64 k ∧ Arr wr w.heap.size (outRow w.heap.size ys.length xs.length k) ∧ Hid (∀ r, r < k → Arr wr (w.heap.size + 1 + r) (List.replicate (ys.length + 1) (.int .i64 0))) ∧ Hid (wr.heap.size = w.heap.size + 1 + k) ∧ Below w.heap.size w wr) (fun _ i _ => xs.length + 1 - (intOf i).toNat)
  case atStart => exact ⟨0, by omega, rfl, by rw [outRow_zero]; exact HA1.out, (fun r hr => by omega), HS1.out, hb1⟩
  case round =>
    obtain ⟨k, hk, rfl, hA, HR, HZ, hbl⟩ := hrel
    by_cases hlt : k ≤ xs.length
    · have hcc := hA.cell (outRow_get' (show ¬ k < k by omega) hlt)
      have hff := hA.free k
      have hbo := hA.lt
      have HA := Lib.hid hA
      clear hA
      go_wp2_with (refine wpList_make_arr slzInt rfl _ _ rfl _ _ rfl rfl HM.out q3 q4 ?_; intro w2 hA2 hb2 hs2; have cc := (hb2.cell (p := ⟨w.heap.size, k, none⟩) hbo).trans hcc; have ff := (hb2.frozen (p := ⟨w.heap.size, k, none⟩) hbo).trans hff; have HA2 := Lib.hid hA2; have HS2 := Lib.hid hs2; clear hA2 hs2)
      go_roundw
      case rel =>
        have hz := HZ.out
        refine ⟨k + 1, by omega, by go_num, ?_, fun r hr => ?_, ?_, (below_over hbl hbl.size hb2).setCell (by simp) _⟩
        · rw [hz, ← outRow_set hlt]; exact (HA.out.over hb2).set k _
        · by_cases hrk : r < k
          · exact ((HR.out r hrk).over hb2).set_other (by show w.heap.size + 1 + r ≠ w.heap.size; omega) _
          · obtain rfl : r = k := by omega
            have := HA2.out
            rw [hz] at this
            exact this.set_other (by show w.heap.size + 1 + r ≠ w.heap.size; omega) _
        · have := HS2.out; show (World.heap _).size = _; simp; omega
      case measure => simp [intOf]; omega
    · obtain rfl : k = xs.length + 1 := by omega
      have hT : TabAt wr w.heap.size xs.length ys.length (fillG xs ys xs.length (ys.length + 1)) :=
        (⟨hA, fun r hr => by rw [natRow_zero]; exact HR.out r (by omega)⟩ : TabAt wr w.heap.size xs.length ys.length (fun _ _ => 0)).ext fun r c hr hc => (fillG_start hr hc).symm
      have HT := Lib.hid hT
      clear hA hT
      go_wp2_with fail
      go_loopw [7, 8, 9, 10, 30] (fun _ _ _ _ x wr => ∃ k : Nat, k ≤ xs.length ∧ x = .int .i64 k ∧ Hid (TabAt wr w.heap.size xs.length ys.length (fillG xs ys (xs.length - k) (ys.length + 1))) ∧ Below w.heap.size w wr) (fun _ _ _ _ x _ => xs.length - (intOf x).toNat)
      case atStart => exact ⟨0, by omega, rfl, HT, hbl⟩
      case round =>
        obtain ⟨k, hk2, rfl, HTp, hblp⟩ := hrel
        by_cases hkn : k < xs.length
        · obtain ⟨i, hi⟩ : ∃ i, xs.length - k = i + 1 := ⟨xs.length - k - 1, by omega⟩
          have ei : ((xs.length : Int) - 1 - (k : Int)) = (i : Int) := by omega
          have HI := Lib.hid hi
          have HT2 : Hid (TabAt wr w.heap.size xs.length ys.length (fillG xs ys (i + 1) ys.length)) := by
            have := HTp.out
            rw [hi] at this
            exact this.ext fun r c _ hc => fillG_row hc
          have HE := Lib.hid ei
          have hin : i < xs.length := by omega
          clear HTp HT ei hi
          go_wp2_with fail
          rw [HE.out]
          obtain ⟨wo, rfl⟩ : ∃ wo : World, wo = wr := ⟨_, rfl⟩
          go_loopw [9, 10, 40] (fun _ _ x wr => ∃ l : Nat, l ≤ ys.length ∧ x = .int .i64 l ∧ Hid (TabAt wr w.heap.size xs.length ys.length (fillG xs ys (i + 1) (ys.length - l))) ∧ Below w.heap.size w wr) (fun _ _ x _ => ys.length - (intOf x).toNat)
          case atStart => exact ⟨0, by omega, rfl, HT2, hblp⟩
          case round =>
            obtain ⟨l, hl, rfl, HTl, hblq⟩ := hrel
            by_cases hln : l < ys.length
            · obtain ⟨j, hj⟩ : ∃ j, ys.length - l = j + 1 := ⟨ys.length - l - 1, by omega⟩
              have ej : ((ys.length : Int) - 1 - (l : Int)) = (j : Int) := by omega
              have HTq : Hid (TabAt wr w.heap.size xs.length ys.length (fillG xs ys (i + 1) (j + 1))) := by rw [← hj]; exact HTl
              have HJ := Lib.hid hj
              have HEj := Lib.hid ej
              have hjn : j < ys.length := by omega
              have hq0 := trivial
              clear HTl hj
              obtain ⟨bA, oA, rfl, sA, cA⟩ := HCa.out.resolve_left (by omega)
              obtain ⟨bB, oB, rfl, sB, cB⟩ := HCb.out.resolve_left (by omega)
              obtain ⟨x, hx⟩ := get_of_lt (xs := xs) (i := i) (by omega)
              obtain ⟨y, hy⟩ := get_of_lt (xs := ys) (i := j) (by omega)
              have c1 := (hblq.cell (p := ⟨bA, oA + i, none⟩) sA).trans (cA i x hx)
              have c2 := (hblq.cell (p := ⟨bB, oB + j, none⟩) sB).trans (cB j y hy)
              have sA' : bA < wr.heap.size := Nat.lt_of_lt_of_le sA hblq.size
              have sB' : bB < wr.heap.size := Nat.lt_of_lt_of_le sB hblq.size
              have r1 := HTq.out.row (r := i + 1) (by omega)
              have r0 := HTq.out.row (r := i) (by omega)
              have d1 := HTq.out.cell (r := i + 1) (c := j) (by omega) (by omega)
              have d2 := HTq.out.cell (r := i) (c := j + 1) (by omega) (by omega)
              have d3 := HTq.out.cell (r := i + 1) (c := j + 1) (by omega) (by omega)
              have d0 := HTq.out.cell (r := i) (c := j) (by omega) (by omega)
              have df := HTq.out.free (r := i) (by omega) j
              have l0 := HTq.out.lt (r := i) (by omega)
              have l1 := HTq.out.lt (r := i + 1) (by omega)
              rw [fillG_in (.inl (by omega))] at d1 d3
              rw [fillG_in (.inr ⟨rfl, by omega⟩)] at d2
              have b1 := lcsAt_le xs ys (i + 1) j
              have b2 := lcsAt_le xs ys i (j + 1)
              have b3 := lcsAt_le xs ys (i + 1) (j + 1)
              have hdg := lcsAt_diag hx hy
              have HEq : Hid (x = y → lcsAt xs ys i j = lcsAt xs ys (i + 1) (j + 1) + 1) := lcsAt_eq hx hy
              have HNe : Hid (¬ x = y → lcsAt xs ys i j = max (lcsAt xs ys (i + 1) j) (lcsAt xs ys i (j + 1))) := lcsAt_ne hx hy
              have HSet : Hid (∀ z, z = lcsAt xs ys i j → TabAt (wr.setCell ⟨w.heap.size + 1 + i, j, none⟩ (.int .i64 (z : Nat))) w.heap.size xs.length ys.length (fillG xs ys (i + 1) j)) := fun z hz => by
                subst hz
                exact (HTq.out.set (r := i) (c := j) (by omega) (by omega) _).ext fun r c _ _ => fillG_set
              have hbo : w.heap.size + 1 + i < wr.heap.size := l0
              have hbo0 : w.heap.size < wr.heap.size := by omega
              clear cA cB hx hy HTq ej hq0
              generalize lcsAt xs ys i j = z0 at *
              generalize lcsAt xs ys (i + 1) j = u at *
              generalize lcsAt xs ys i (j + 1) = v at *
              generalize lcsAt xs ys (i + 1) (j + 1) = d at *
              generalize fillG xs ys (i + 1) (j + 1) i j = old at *
              by_cases hxy : x = y
              · have hz := HEq.out hxy
                have HZ2 := Lib.hid hz
                have hb1 := seq_t hxy
                clear hz hxy
                go_wp2_with fail
                rw [HEj.out]
                refine wp_region_lex (C := IsOver wr) 9 [] (by kernel_rfl) (by kernel_rfl) (isOver_of (by repeat (first | exact Below.refl _ _ | apply Below.drew | apply below_drewN | (refine Below.alloc ?_ (by simp) _)))) ?_
                simp only [List.take_succ_cons, List.take_zero, List.drop_succ_cons, List.drop_zero]
                repeat (first | (refine lex_skip rfl rfl ?_; simp only [Act.put, List.setIfInBounds_toArray, List.set_cons_succ, List.set_cons_zero]) | (refine lex_one rfl ?_; go_big_quiet_step (fail); refine wpQuiet_nil ?_))
                refine lex_end ?_
                go_wp2_with fail
                refine wp_region_lex (C := IsOver wr) 16 [] (by kernel_rfl) (by kernel_rfl) (isOver_of (by repeat (first | exact Below.refl _ _ | apply Below.drew | apply below_drewN | (refine Below.alloc ?_ (by simp) _)))) ?_
                simp only [List.take_succ_cons, List.take_zero, List.drop_succ_cons, List.drop_zero]
                repeat (first | (refine lex_skip rfl rfl ?_; simp only [Act.put, List.setIfInBounds_toArray, List.set_cons_succ, List.set_cons_zero]) | (refine lex_one rfl ?_; go_big_quiet_step (fail); refine wpQuiet_nil ?_))
                refine lex_end ?_
                go_wp2_with fail
                go_roundw
                case rel =>
                  have hz : (d + 1 : Nat) = z0 := by have := HZ2.out; omega
                  have hs := (HSet.out _ hz).drew.drew
                  refine ⟨l + 1, by omega, by go_num, ?_, ((hblq.setCell (by show w.heap.size ≤ w.heap.size + 1 + i; omega) _).drew).drew⟩
                  show TabAt _ _ _ _ _
                  rw [show ys.length - (l + 1) = j by have := HJ.out; omega]
                  simpa using hs
                case measure => simp [intOf] <;> omega
              · have hz := HNe.out hxy
                have HZ2 := Lib.hid hz
                have hb1 := seq_f hxy
                clear hz hxy
                go_wp2_with fail
                rw [HEj.out]
                refine wp_region_lex (C := IsOver wr) 9 [] (by kernel_rfl) (by kernel_rfl) (isOver_of (by repeat (first | exact Below.refl _ _ | apply Below.drew | apply below_drewN | (refine Below.alloc ?_ (by simp) _)))) ?_
                simp only [List.take_succ_cons, List.take_zero, List.drop_succ_cons, List.drop_zero]
                repeat (first | (refine lex_skip rfl rfl ?_; simp only [Act.put, List.setIfInBounds_toArray, List.set_cons_succ, List.set_cons_zero]) | (refine lex_one rfl ?_; go_big_quiet_step (fail); refine wpQuiet_nil ?_))
                refine lex_end ?_
                go_wp2_with fail
                refine wp_region_lex (C := IsOver wr) 23 [] (by kernel_rfl) (by kernel_rfl) (isOver_of (by repeat (first | exact Below.refl _ _ | apply Below.drew | apply below_drewN | (refine Below.alloc ?_ (by simp) _)))) ?_
                simp only [List.take_succ_cons, List.take_zero, List.drop_succ_cons, List.drop_zero]
                repeat (first | (refine lex_skip rfl rfl ?_; simp only [Act.put, List.setIfInBounds_toArray, List.set_cons_succ, List.set_cons_zero]) | (refine lex_one rfl ?_; go_big_quiet_step (fail); refine wpQuiet_nil ?_))
                refine lex_end ?_
                go_wp2_with fail
                go_roundw
                case rel =>
                  have hz : (max u v : Nat) = z0 := by have := HZ2.out; omega
                  have hs := (HSet.out _ hz).drew.drew
                  refine ⟨l + 1, by omega, by go_num, ?_, ((hblq.setCell (by show w.heap.size ≤ w.heap.size + 1 + i; omega) _).drew).drew⟩
                  show TabAt _ _ _ _ _
                  rw [show ys.length - (l + 1) = j by have := HJ.out; omega]
                  have e : (if u < v then (v : Int) else (u : Int)) = ((max u v : Nat) : Int) := by split <;> omega
                  rw [e]
                  simpa using hs
                case measure => simp [intOf] <;> omega
            · obtain rfl : l = ys.length := by omega
              have HF : Hid (TabAt wr w.heap.size xs.length ys.length (fillG xs ys i (ys.length + 1))) := by
                have := HTl.out
                rw [Nat.sub_self] at this
                exact this.ext fun r c _ hc => fillG_next hc
              go_wp2_with fail
              go_roundw
              case rel =>
                refine ⟨k + 1, by omega, by go_num, ?_, hblq⟩
                show TabAt _ _ _ _ _
                rw [show xs.length - (k + 1) = i by have := HI.out; omega]
                exact HF.out
              case measure => simp [intOf] <;> omega
        · obtain rfl : k = xs.length := by omega
          have HF : Hid (TabAt wr w.heap.size xs.length ys.length (lcsAt xs ys)) := by
            have := HTp.out
            rw [Nat.sub_self] at this
            exact this.ext fun r c _ _ => fillG_in (.inl (Nat.zero_le _))
          go_wp2_with fail
          go_ret
          exact ⟨w.heap.size, rfl, HF.out, Nat.le_refl _, hblp⟩
end Go.Proofs.YtjbihmglpfdmnaaGreatDoor
