/- Contracts of bruitref26.Match and lcs.Match. -/
import Derived.Test.YtjbihmglpfdmnaaGreatDoorLcsB
namespace Go.Proofs.YtjbihmglpfdmnaaGreatDoor
open Go Go.RowKit

theorem slPair : SlT Tryz.prog 84 86 2 16 := slT_of Tryz.underlying84 (by kernel_rfl) (by decide)
def encP (p : Nat × Nat) : List Value := [.int .i64 (p.1 : Int), .int .i64 (p.2 : Int)]
def MatchRes (w : World) (xs ys : List ByteArray) (e : Ending) (w' : World) : Prop := ∃ v B, e = .returned v ∧ w'.ownsRow B 86 2 v (pairs xs ys).length ((pairs xs ys).flatMap encP) ∧ w.heap.size ≤ B ∧ B ≤ w'.heap.size ∧ Below w.heap.size w w'
theorem pairs_start (xs ys : List ByteArray) : pairsF xs ys (xs.length + ys.length - 0 - 0) 0 0 = pairs xs ys := by unfold pairs; rfl

set_option maxHeartbeats 10000000 in
set_option maxRecDepth 100000 in
theorem match_any (va vb : Value) (xs ys : List ByteArray) (w : World) (ha : SRow w va xs) (hb : SRow w vb ys) (la : xs.length ≤ 1000) (lb : ys.length ≤ 1000) :
    Calls Tryz.prog 45 #[va, vb] w (MatchRes w xs ys) := by
  have HAB := Lib.hid (And.intro ha hb)
  obtain ⟨a, ca, rfl, h1, h2, _, hca⟩ := ha.form
  obtain ⟨b, cb, rfl, h3, h4, _, hcb⟩ := hb.form
  unfold maxLen at h2 h4
  have HCa := Lib.hid hca
  have HCb := Lib.hid hcb
  clear ha hb hca hcb
  go_enter Tryz.func45, Tryz.ntmps45
  go_wp2_with (go_at_call 63; (with_reducible refine (table_lcs _ _ _ _ _ HAB.out.1 HAB.out.2 la lb).mono ?_); rintro e w1 ⟨bo, rfl, hT, hbo, hb1⟩)
  have HT := Lib.hid hT
  clear hT
  go_loopw [6, 7, 8] (fun v i j wr => ∃ (p q : Nat) (ps : List (Nat × Nat)), p ≤ xs.length ∧ q ≤ ys.length ∧ i = .int .i64 p ∧ j = .int .i64 q ∧ Hid (ps ++ pairsF xs ys (xs.length + ys.length - p - q) p q = pairs xs ys) ∧ ps.length ≤ p ∧ Hid (wr.ownsRow w1.heap.size 86 2 v ps.length (ps.flatMap encP)) ∧ Below w1.heap.size w1 wr) (fun _ i j _ => xs.length + ys.length - (intOf i).toNat - (intOf j).toNat)
  case atStart => exact ⟨0, 0, [], by omega, by omega, rfl, rfl, (by rw [pairs_start]; rfl), by simp, World.ownsRow_nil _ _ _ _, Below.refl _ _⟩
  case round =>
    obtain ⟨p, q, ps, hp, hq, rfl, rfl, HP, hpl, HO, hbl⟩ := hrel
    by_cases hin : p < xs.length ∧ q < ys.length
    · obtain ⟨hpx, hqy⟩ := hin
      obtain ⟨f, hf⟩ : ∃ f, xs.length + ys.length - p - q = f + 1 := ⟨xs.length + ys.length - p - q - 1, by omega⟩
      obtain ⟨bA, oA, rfl, sA, cA⟩ := HCa.out.resolve_left (by omega)
      obtain ⟨bB, oB, rfl, sB, cB⟩ := HCb.out.resolve_left (by omega)
      obtain ⟨x, hx⟩ := get_of_lt hpx
      obtain ⟨y, hy⟩ := get_of_lt hqy
      have hbw : Below w.heap.size w wr := below_over hb1 hb1.size hbl
      have c1 := (hbw.cell (p := ⟨bA, oA + p, none⟩) sA).trans (cA p x hx)
      have c2 := (hbw.cell (p := ⟨bB, oB + q, none⟩) sB).trans (cB q y hy)
      have sA' : bA < wr.heap.size := Nat.lt_of_lt_of_le sA hbw.size
      have sB' : bB < wr.heap.size := Nat.lt_of_lt_of_le sB hbw.size
      have hTr := HT.out.over hbl
      have r1 := hTr.row (r := p + 1) (by omega)
      have r0 := hTr.row (r := p) (by omega)
      have d1 := hTr.cell (r := p + 1) (c := q) (by omega) (by omega)
      have d2 := hTr.cell (r := p) (c := q + 1) (by omega) (by omega)
      have l0 := hTr.lt (r := p) (by omega)
      have l1 := hTr.lt (r := p + 1) (by omega)
      have l2 : bo < wr.heap.size := by omega
      have b1 := lcsAt_le xs ys (p + 1) q
      have b2 := lcsAt_le xs ys p (q + 1)
      have hB : w1.heap.size ≤ wr.heap.size := hbl.size
      have hN : ps.length + 1 ≤ 1099511627776 := by omega
      have HEq : Hid (x = y → (ps ++ [(p, q)]) ++ pairsF xs ys (xs.length + ys.length - (p + 1) - (q + 1)) (p + 1) (q + 1) = pairs xs ys) := fun h => by
        rw [← HP.out, hf, pairsF_eq hx hy h, List.append_assoc, pairsF_fuel xs ys (f := xs.length + ys.length - (p + 1) - (q + 1)) (g := f) rfl (by omega) (by omega) (by omega)]; rfl
      have HLe : Hid (¬ x = y → lcsAt xs ys p (q + 1) ≤ lcsAt xs ys (p + 1) q → ps ++ pairsF xs ys (xs.length + ys.length - (p + 1) - q) (p + 1) q = pairs xs ys) := fun h hl => by
        rw [← HP.out, hf, pairsF_left hx hy h hl, show xs.length + ys.length - (p + 1) - q = f by omega]
      have HRi : Hid (¬ x = y → ¬ lcsAt xs ys p (q + 1) ≤ lcsAt xs ys (p + 1) q → ps ++ pairsF xs ys (xs.length + ys.length - p - (q + 1)) p (q + 1) = pairs xs ys) := fun h hl => by
        rw [← HP.out, hf, pairsF_right hx hy h hl, show xs.length + ys.length - p - (q + 1) = f by omega]
      have HOw : Hid (∀ v' (w' : World), w'.ownsRow w1.heap.size 86 2 v' (ps.length + 1) (ps.flatMap encP ++ [.int .i64 (p : Int), .int .i64 (q : Int)]) → w'.ownsRow w1.heap.size 86 2 v' (ps ++ [(p, q)]).length ((ps ++ [(p, q)]).flatMap encP)) := fun v' w' h => by
        rw [List.length_append, List.flatMap_append]; simpa [encP] using h
      clear cA cB hx hy hTr hf HP
      generalize lcsAt xs ys (p + 1) q = u at *
      generalize lcsAt xs ys p (q + 1) = v at *
      by_cases hxy : x = y
      · have HS := Lib.hid (HEq.out hxy)
        have e1 := seq_t hxy
        clear hxy
        go_wp2_with fail
        refine wp_region_lex (C := IsOver wr) 10 [] (by kernel_rfl) (by kernel_rfl) (isOver_of (by repeat (first | exact Below.refl _ _ | apply Below.drew | apply below_drewN | (refine Below.alloc ?_ (by simp) _)))) ?_
        simp only [List.take_succ_cons, List.take_zero, List.drop_succ_cons, List.drop_zero]
        repeat (first | (refine lex_skip rfl rfl ?_; simp only [Act.put, List.setIfInBounds_toArray, List.set_cons_succ, List.set_cons_zero]) | (refine lex_one rfl ?_; go_big_quiet_step (fail); refine wpQuiet_nil ?_))
        refine lex_end ?_
        go_wp2_with (at_builtin; (first | refine wpList_append_newD slPair rfl _ _ rfl w1.heap.size _ _ (drawn_alloc_drewN _ _ _) 1 _ _ _ HO.out rfl rfl rfl rfl hN (by decide) hB ?_ | refine wpList_append_newD slPair rfl _ _ rfl w1.heap.size _ _ (drawn_drew _) 1 _ _ _ HO.out rfl rfl rfl rfl hN (by decide) hB ?_ | refine wpList_append_newD slPair rfl _ _ rfl w1.heap.size _ _ (drawn_drewN _ _) 1 _ _ _ HO.out rfl rfl rfl rfl hN (by decide) hB ?_ | refine wpList_append_newD slPair rfl _ _ rfl w1.heap.size _ _ (drawn_refl _) 1 _ _ _ HO.out rfl rfl rfl rfl hN (by decide) hB ?_); intro v' w2 hown2 hg2)
        go_roundw
        case rel => exact ⟨p + 1, q + 1, ps ++ [(p, q)], by omega, by omega, by go_num, by go_num, HS, by simp; omega, HOw.out _ _ hown2, below_grown hbl hB HO.out hg2⟩
        case measure => simp [intOf]; omega
      · have e1 := seq_f hxy
        by_cases hle : v ≤ u
        · have HS := Lib.hid (HLe.out hxy hle)
          clear hxy
          go_wp2_with fail
          refine wp_region_lex (C := IsOver wr) 10 [] (by kernel_rfl) (by kernel_rfl) (isOver_of (by repeat (first | exact Below.refl _ _ | apply Below.drew | apply below_drewN | (refine Below.alloc ?_ (by simp) _)))) ?_
          simp only [List.take_succ_cons, List.take_zero, List.drop_succ_cons, List.drop_zero]
          repeat (first | (refine lex_skip rfl rfl ?_; simp only [Act.put, List.setIfInBounds_toArray, List.set_cons_succ, List.set_cons_zero]) | (refine lex_one rfl ?_; go_big_quiet_step (fail); refine wpQuiet_nil ?_))
          refine lex_end ?_
          go_wp2_with fail
          refine wp_region_lex (C := IsOver wr) 18 [] (by kernel_rfl) (by kernel_rfl) (isOver_of (by repeat (first | exact Below.refl _ _ | apply Below.drew | apply below_drewN | (refine Below.alloc ?_ (by simp) _)))) ?_
          simp only [List.take_succ_cons, List.take_zero, List.drop_succ_cons, List.drop_zero]
          repeat (first | (refine lex_skip rfl rfl ?_; simp only [Act.put, List.setIfInBounds_toArray, List.set_cons_succ, List.set_cons_zero]) | (refine lex_one rfl ?_; go_big_quiet_step (fail); refine wpQuiet_nil ?_))
          refine lex_end ?_
          go_wp2_with fail
          go_roundw
          case rel => exact ⟨p + 1, q, ps, by omega, by omega, by go_num, rfl, HS, by omega, HO, hbl.drew.drew⟩
          case measure => simp [intOf]; omega
        · have HS := Lib.hid (HRi.out hxy hle)
          clear hxy
          go_wp2_with fail
          refine wp_region_lex (C := IsOver wr) 10 [] (by kernel_rfl) (by kernel_rfl) (isOver_of (by repeat (first | exact Below.refl _ _ | apply Below.drew | apply below_drewN | (refine Below.alloc ?_ (by simp) _)))) ?_
          simp only [List.take_succ_cons, List.take_zero, List.drop_succ_cons, List.drop_zero]
          repeat (first | (refine lex_skip rfl rfl ?_; simp only [Act.put, List.setIfInBounds_toArray, List.set_cons_succ, List.set_cons_zero]) | (refine lex_one rfl ?_; go_big_quiet_step (fail); refine wpQuiet_nil ?_))
          refine lex_end ?_
          go_wp2_with fail
          refine wp_region_lex (C := IsOver wr) 18 [] (by kernel_rfl) (by kernel_rfl) (isOver_of (by repeat (first | exact Below.refl _ _ | apply Below.drew | apply below_drewN | (refine Below.alloc ?_ (by simp) _)))) ?_
          simp only [List.take_succ_cons, List.take_zero, List.drop_succ_cons, List.drop_zero]
          repeat (first | (refine lex_skip rfl rfl ?_; simp only [Act.put, List.setIfInBounds_toArray, List.set_cons_succ, List.set_cons_zero]) | (refine lex_one rfl ?_; go_big_quiet_step (fail); refine wpQuiet_nil ?_))
          refine lex_end ?_
          go_wp2_with fail
          go_roundw
          case rel => exact ⟨p, q + 1, ps, by omega, by omega, rfl, by go_num, HS, by omega, HO, hbl.drew.drew⟩
          case measure => simp [intOf]; omega
    · have HE : Hid (ps = pairs xs ys) := by
        have := HP.out
        rwa [pairsF_end hin, List.append_nil] at this
      by_cases hpx : p < xs.length
      · have hqy : ¬ q < ys.length := fun h => hin ⟨hpx, h⟩
        clear hin
        go_wp2_with fail
        go_ret
        exact ⟨_, w1.heap.size, rfl, by rw [← HE.out]; exact HO.out, hb1.size, hbl.size, below_over hb1 hb1.size hbl⟩
      · clear hin
        go_wp2_with fail
        go_ret
        exact ⟨_, w1.heap.size, rfl, by rw [← HE.out]; exact HO.out, hb1.size, hbl.size, below_over hb1 hb1.size hbl⟩
end Go.Proofs.YtjbihmglpfdmnaaGreatDoor
