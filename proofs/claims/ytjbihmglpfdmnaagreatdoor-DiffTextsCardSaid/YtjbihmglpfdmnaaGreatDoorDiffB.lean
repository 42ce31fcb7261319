/- Contract of diff.lines. -/
import Derived.Test.YtjbihmglpfdmnaaGreatDoorDiffA
namespace Go.Proofs.YtjbihmglpfdmnaaGreatDoor
open Go Go.RowKit

theorem pairs_form {w2 : World} {v2 : Value} {B : Nat} {xs ys : List ByteArray} (ho2 : w2.ownsRow B 86 2 v2 ((pairs xs ys).length + 1) ((pairs xs ys).flatMap encP ++ [.int .i64 (xs.length : Int), .int .i64 (ys.length : Int)])) :
    ∃ bP oP cp, v2 = .slice (some ⟨bP, oP, none⟩) ((pairs xs ys).length + 1) cp ∧ (pairs xs ys).length + 1 ≤ cp ∧ cp ≤ 9223372036854775807 ∧ bP < w2.heap.size ∧ Hid (∀ j u, ((pairs xs ys ++ [(xs.length, ys.length)]).flatMap encP)[j]? = some u → w2.cell? ⟨bP, oP + j, none⟩ = some u) := by
  have hrow : Row w2 v2 ((pairs xs ys).length + 1) 2 ((pairs xs ys ++ [(xs.length, ys.length)]).flatMap encP) := by
    rw [List.flatMap_append]; exact own_row ho2
  obtain ⟨ap, cp, rfl, p1, p2, _, hcp⟩ := hrow.form
  obtain ⟨bP, oP, rfl, sP, hcp⟩ := hcp.resolve_left (by omega)
  exact ⟨bP, oP, cp, rfl, p1, (by unfold maxLen at p2; omega), sP, hcp⟩
/-- .. while the copied pair lies in block bp -/
def StepRelP (bp : Nat) (ps : List Value) (t : TypeId) (w2 : World) (E : List EditM) (R : Nat → List EditM) (lo hi bnd : Nat) (v iv : Value) (wr : World) : Prop := ArrT wr bp 86 ps ∧ StepRel t w2 E R lo hi bnd v iv wr
set_option maxHeartbeats 10000000 in
set_option maxRecDepth 100000 in
theorem lines_any (n : ByteArray) (va vb : Value) (xs ys : List ByteArray) (w : World) (ha : SRow w va xs) (hb : SRow w vb ys) (la : xs.length ≤ 1000) (lb : ys.length ≤ 1000) :
    Calls Tryz.prog 26 #[.string n, va, vb] w (LinesRes 37 w n xs ys) := by
  have HAB := Lib.hid (And.intro ha hb)
  obtain ⟨a, ca, rfl, h1, h2, _, hca⟩ := ha.form
  obtain ⟨b, cb, rfl, h3, h4, _, hcb⟩ := hb.form
  unfold maxLen at h2 h4
  have HCb := Lib.hid hcb
  clear ha hb hca hcb
  have hpl := pairs_len xs ys
  have hN : (pairs xs ys).length + 1 ≤ 1099511627776 := by omega
  go_enter Tryz.func26, Tryz.ntmps26
  go_wp2_with (first | (at_builtin; refine wpList_append_new slPair rfl _ _ rfl B1 _ _ 1 _ _ _ HO1.out rfl rfl rfl rfl hN (by decide) hB2 ?_; intro v2 w2 ho2 hg2; obtain ⟨bP, oP, cp, rfl, p1, p2, sP, HCp⟩ := pairs_form ho2; have HG2 := Lib.hid hg2; clear ho2 hg2) | (go_at_call 45; (with_reducible refine (match_any _ _ _ _ _ HAB.out.1 HAB.out.2 la lb).mono ?_); rintro e w1 ⟨v1, B1, rfl, ho1, hB1, hB2, hb1⟩; have HO1 := Lib.hid ho1; clear ho1))
  have hbw2 : Below w.heap.size w w2 := hb1.grown HG2.out hb1.size fun q hq => Nat.le_trans hB1 (HO1.out.lt _ hq).1
  have hin := pairs_in' (xs := xs) (ys := ys)
  have hppl : (pairs xs ys ++ [(xs.length, ys.length)]).length = (pairs xs ys).length + 1 := by simp
  have HL : Hid (linesF n ys (pairs xs ys ++ [(xs.length, ys.length)]) 0 0 = linesE n xs ys) := linesE_def
  generalize pairs xs ys ++ [(xs.length, ys.length)] = pp at *
  have HIn := Lib.hid hin
  have HPl := Lib.hid hppl
  clear hin hppl
  have hz2 : w.heap.size ≤ w2.heap.size := hbw2.size
  go_wp2_with fail
  go_loopw [7, 8, 9, 11, 23] (fun v i j _ pi wr => LinesRel 37 w2 n xs.length ys.length ys pp (linesE n xs ys) v i j pi wr) (fun _ _ _ _ pi _ => pp.length - (intOf pi).toNat)
  case atStart => exact ⟨0, 0, 0, [], by omega, rfl, rfl, rfl, by omega, by omega, by simp, HL.out, World.ownsRow_nil _ _ _ _, Below.refl _ _⟩
  case round =>
    obtain ⟨r, i, j, es, hr, rfl, rfl, rfl, hi, hj, hes, HE, HO, hbl⟩ := hrel
    have hplr := HPl.out
    by_cases hlt : r < (pairs xs ys).length + 1
    · obtain ⟨pr, hpr⟩ := get_of_lt (xs := pp) (i := r) (by omega)
      have hpin := HIn.out pr (List.mem_of_getElem? hpr)
      have k0 : w2.cell? ⟨bP, oP + r * 2, none⟩ = some (.int .i64 (pr.1 : Int)) := (Row.elem (j := 0) encP_len HCp.out hpr rfl)
      have k1 : w2.cell? ⟨bP, oP + r * 2 + 1, none⟩ = some (.int .i64 (pr.2 : Int)) := (Row.elem (j := 1) encP_len HCp.out hpr rfl)
      have sPr : bP < wr.heap.size := Nat.lt_of_lt_of_le sP hbl.size
      have c0 := (hbl.cell (p := ⟨bP, oP + r * 2, none⟩) sP).trans k0
      have c1 := (hbl.cell (p := ⟨bP, oP + r * 2 + 1, none⟩) sP).trans k1
      have hBr := hbl.size
      have HE2 : Hid (es ++ (List.replicate (pr.1 - i) (cutE n j) ++ (putsE n ys j (pr.2 - j) ++ linesF n ys (pp.drop (r + 1)) (max i pr.1 + 1) (max j pr.2 + 1))) = linesE n xs ys) := by
        have := HE.out
        rw [drop_get hpr, linesF_cons] at this; exact this
      have hr1 : r + 1 ≤ pp.length := by omega
      clear k0 k1 hpr HE hplr
      obtain ⟨x0, y0⟩ := pr
      simp only at hpin c0 c1 HE2
      have HS : Hid (ArrT (wr.alloc (.cells #[.int .i64 (x0 : Int), .int .i64 (y0 : Int)] 86)) wr.heap.size 86 [.int .i64 (x0 : Int), .int .i64 (y0 : Int)] ∧ EOwn (wr.alloc (.cells #[.int .i64 (x0 : Int), .int .i64 (y0 : Int)] 86)) w2.heap.size 37 u7 es ∧ Below w2.heap.size w2 (wr.alloc (.cells #[.int .i64 (x0 : Int), .int .i64 (y0 : Int)] 86))) := ⟨arrT_new _ [_, _] _, HO.out.alloc _, hbl.alloc hBr _⟩
      go_wp2_with fail
      generalize wr.heap.size = bp at *
      obtain ⟨wo, rfl⟩ : ∃ wo : World, wo = wr := ⟨_, rfl⟩
      go_loopw [7, 8] (fun v iv wr => StepRelP bp [.int .i64 (x0 : Int), .int .i64 (y0 : Int)] 37 w2 (linesE n xs ys) (fun k => List.replicate (x0 - k) (cutE n j) ++ (putsE n ys j (y0 - j) ++ linesF n ys (pp.drop (r + 1)) (max i x0 + 1) (max j y0 + 1))) i (max i x0) j v iv wr) (fun _ iv _ => x0 - (intOf iv).toNat)
      case atStart => exact ⟨HS.out.1, i, es, rfl, by omega, by omega, hes, HE2, HS.out.2.1, HS.out.2.2⟩
      case round =>
        obtain ⟨hA3, i2, es2, rfl, hi2, hi3, hes2, HE3, HO3, hbl3⟩ := hrel
        have HA3 := Lib.hid hA3
        have k0 := hA3.arr.cell (j := 0) rfl
        have sP3 := hA3.arr.lt
        clear hA3
        have hB3 := hbl3.size
        have hN3 : es2.length + 1 ≤ 1099511627776 := by omega
        by_cases hlt2 : i2 < x0
        · have HE4 : Hid ((es2 ++ [cutE n j]) ++ (List.replicate (x0 - (i2 + 1)) (cutE n j) ++ (putsE n ys j (y0 - j) ++ linesF n ys (pp.drop (r + 1)) (max i x0 + 1) (max j y0 + 1))) = linesE n xs ys) := by
            show _ = _
            have h3 := HE3.out
            simp only at h3
            rw [← h3, show x0 - i2 = (x0 - (i2 + 1)) + 1 by omega, List.replicate_succ]; simp
          go_wp2_with (at_builtin; refine wpList_append_new slEditP rfl _ _ rfl w2.heap.size _ _ 1 _ _ _ HO3.out rfl rfl rfl rfl hN3 (by decide) hB3 ?_; intro v3 w3 ho3 hg3)
          go_roundw
          case rel =>
            exact ⟨HA3.out.grown HO3.out (by decide) hg3, i2 + 1, es2 ++ [cutE n j], by go_num, by omega, by omega, by simp; omega, HE4, EOwn.snoc (e := cutE n j) ho3, below_grown hbl3 hB3 HO3.out hg3⟩
          case measure => simp [intOf]; omega
        · obtain rfl : i2 = max i x0 := by omega
          have HE5 : Hid (es2 ++ (putsE n ys j (y0 - j) ++ linesF n ys (pp.drop (r + 1)) (max i x0 + 1) (max j y0 + 1)) = linesE n xs ys) := by
            have := HE3.out
            simp only at this
            rwa [show x0 - max i x0 = 0 by omega] at this
          go_wp2_with fail
          obtain ⟨wo3, rfl⟩ : ∃ wo : World, wo = wr := ⟨_, rfl⟩
          go_loopw [7, 9] (fun v iv wr => StepRelP bp [.int .i64 (x0 : Int), .int .i64 (y0 : Int)] 37 w2 (linesE n xs ys) (fun k => putsE n ys k (y0 - k) ++ linesF n ys (pp.drop (r + 1)) (max i x0 + 1) (max j y0 + 1)) j (max j y0) (max i x0) v iv wr) (fun _ iv _ => y0 - (intOf iv).toNat)
          case atStart => exact ⟨HA3.out, j, es2, rfl, by omega, by omega, by omega, HE5, HO3, hbl3⟩
          case round =>
            obtain ⟨hA4, j2, es4, rfl, hj2, hj3, hes4, HE6, HO4, hbl4⟩ := hrel
            have HA4 := Lib.hid hA4
            have k1 := hA4.arr.cell (j := 1) rfl
            have sP4 := hA4.arr.lt
            clear hA4
            have hB4 := hbl4.size
            have hN4 : es4.length + 1 ≤ 1099511627776 := by omega
            by_cases hlt4 : j2 < y0
            · obtain ⟨bB, oB, rfl, sB, cB⟩ := HCb.out.resolve_left (by omega)
              obtain ⟨y, hy⟩ := get_of_lt (xs := ys) (i := j2) (by omega)
              have c2 := ((below_over hbw2 hz2 hbl4).cell (p := ⟨bB, oB + j2, none⟩) sB).trans (cB j2 y hy)
              have sB' : bB < wr.heap.size := Nat.lt_of_lt_of_le sB (Nat.le_trans hz2 hB4)
              have HPu := Lib.hid (putE_at (n := n) hy)
              have HE7 : Hid ((es4 ++ [putE n ys j2]) ++ (putsE n ys (j2 + 1) (y0 - (j2 + 1)) ++ linesF n ys (pp.drop (r + 1)) (max i x0 + 1) (max j y0 + 1)) = linesE n xs ys) := by
                show _ = _
                have h6 := HE6.out
                simp only at h6
                rw [← h6, show y0 - j2 = (y0 - (j2 + 1)) + 1 by omega, putsE]; simp
              clear cB hy
              go_wp2_with (at_builtin; refine wpList_append_new slEditP rfl _ _ rfl w2.heap.size _ _ 1 _ _ _ HO4.out rfl rfl rfl rfl hN4 (by decide) hB4 ?_; intro v5 w5 ho5 hg5)
              go_roundw
              case rel =>
                exact ⟨HA4.out.grown HO4.out (by decide) hg5, j2 + 1, es4 ++ [putE n ys j2], by go_num, by omega, by omega, by simp; omega, HE7, EOwn.snoc (e := putE n ys j2) (by rw [HPu.out]; exact ho5), below_grown hbl4 hB4 HO4.out hg5⟩
              case measure => simp [intOf]; omega
            · obtain rfl : j2 = max j y0 := by omega
              have HE8 : Hid (es4 ++ linesF n ys (pp.drop (r + 1)) (max i x0 + 1) (max j y0 + 1) = linesE n xs ys) := by
                have := HE6.out
                simp only at this
                rwa [show y0 - max j y0 = 0 by omega] at this
              go_wp2_with fail
              go_roundw
              case rel => exact ⟨r + 1, max i x0 + 1, max j y0 + 1, es4, hr1, by go_num, by go_num, by go_num, by omega, by omega, by omega, HE8, HO4, hbl4⟩
              case measure => simp [intOf]; omega
    · obtain rfl : r = pp.length := by omega
      have HE9 : Hid (es = linesE n xs ys) := by
        have := HE.out
        rw [List.drop_length] at this
        show _ = _
        rw [← this]; simp [linesF]
      go_wp2_with fail
      go_ret
      exact ⟨_, w2.heap.size, rfl, by rw [← HE9.out]; exact HO.out, hz2, below_over hbw2 hz2 hbl⟩
end Go.Proofs.YtjbihmglpfdmnaaGreatDoor
