/- Contract of diff.Of. -/
import Derived.Test.YtjbihmglpfdmnaaGreatDoorDiffC
namespace Go.Proofs.YtjbihmglpfdmnaaGreatDoor
open Go Go.RowKit

set_option maxHeartbeats 10000000 in
set_option maxRecDepth 100000 in
theorem of_any (va vb : Value) (s t : List FileM) (w : World) (ha : FRow w va s) (hb : FRow w vb t) (hsa : SzT s) (hsb : SzT t) (fa : FewT s) (fb : FewT t) :
    Calls Tryz.prog 12 #[va, vb] w (OfRes w s t) := by
  have HAB := Lib.hid (And.intro ha hb)
  have HSZ := Lib.hid (And.intro hsa hsb)
  have HFew := Lib.hid (And.intro fa fb)
  obtain ⟨a, ca, rfl, h1, h2, _, hca⟩ := ha.form
  obtain ⟨b, cb, rfl, h3, h4, _, hcb⟩ := hb.form
  unfold maxLen at h2 h4
  have HCa := Lib.hid hca
  have HCb := Lib.hid hcb
  have l1 := fa.1
  have l2 := fb.1
  clear ha hb hca hcb hsa hsb fa fb
  cases hg1 : treeGood s with
  | false =>
    have HR : Hid ((treeGood s && treeGood t) = false) := by show _ = _; rw [hg1]; rfl
    go_enter Tryz.func12, Tryz.ntmps12
    go_wp2_with (go_at_call 24; (with_reducible refine (good_any _ s _ HAB.out.1 HSZ.out.1).mono ?_); rintro e w1 ⟨rfl, hb1⟩)
    go_ret2
    exact ofRes_bad HR.out hb1
  | true =>
    cases hg2 : treeGood t with
    | false =>
      have HR : Hid ((treeGood s && treeGood t) = false) := by show _ = _; rw [hg1, hg2]; rfl
      go_enter Tryz.func12, Tryz.ntmps12
      go_wp2_with fail
      refine (good_any _ s _ HAB.out.1 HSZ.out.1).mono ?_
      rintro e w1 ⟨rfl, hb1⟩
      go_wp2_with fail
      refine (good_any _ t _ (HAB.out.2.over hb1) HSZ.out.2).mono ?_
      rintro e w2 ⟨rfl, hb2⟩
      go_wp2_with fail
      go_ret2
      exact ofRes_bad HR.out (below_over hb1 hb1.size hb2)
    | true =>
      have HR : Hid ((treeGood s && treeGood t) = true) := by show _ = _; rw [hg1, hg2]; rfl
      go_enter Tryz.func12, Tryz.ntmps12
      go_wp2_with fail
      refine (good_any _ s _ HAB.out.1 HSZ.out.1).mono ?_
      rintro e w1 ⟨rfl, hb1⟩
      go_wp2_with fail
      refine (good_any _ t _ (HAB.out.2.over hb1) HSZ.out.2).mono ?_
      rintro e w2 ⟨rfl, hb2'⟩
      have hb2 := below_over hb1 hb1.size hb2'
      clear hb1 hb2'
      go_wp2_with fail
      clear hg1 hg2
      go_loopw [6, 8, 23] (fun v _ i wr => OfRel1 37 w2 s t v i wr) (fun _ _ i _ => s.length - (intOf i).toNat)
      case atStart => exact ⟨0, by omega, rfl, (by rw [ofE1_zero]; exact World.ownsRow_nil _ _ _ _), Below.refl _ _⟩
      case round =>
        obtain ⟨k, hk, rfl, HO, hbl⟩ := hrel
        have hbw := below_over hb2 hb2.size hbl
        by_cases hlt : k < s.length
        · obtain ⟨bA, oA, rfl, sA, cA⟩ := HCa.out.resolve_left (by omega)
          obtain ⟨f, hf⟩ := get_of_lt hlt
          obtain ⟨av, lv, hat0⟩ := cA k f hf
          obtain ⟨aa, ac, rfl, _, _, _, _⟩ := hat0.also.form
          obtain ⟨la, lc, rfl, _, _, _, _⟩ := hat0.lines.form
          have hat := hat0.over hbw sA
          have c0 := hat.c0
          have c1 := hat.c1
          have c2 := hat.c2
          have sA' : bA < wr.heap.size := Nat.lt_of_lt_of_le sA hbw.size
          have HFi := Lib.hid (findT_ge t f.name)
          have hle := ofE1_len s t k
          have HX := Lib.hid hf
          have HA0 := Lib.hid (arrT_new wr [.string f.name, .slice aa f.also.length ac, .slice la f.lines.length lc] 40)
          have HA1 := Lib.hid ((Below.refl _ wr).alloc (Nat.le_refl wr.heap.size) (.cells #[.string f.name, .slice aa f.also.length ac, .slice la f.lines.length lc] 40))
          clear hat0 cA hf hat
          rcases HFi.out with hn | ⟨q, g, hq, hg, hgn⟩
          · have HN := Lib.hid hn
            have ht : decide (findT t f.name < 0) = true := by rw [hn]; rfl
            have hN1 : (ofE1 s t k).length + 1 ≤ 1099511627776 := by omega
            have HE : Hid (ofE1 s t (k + 1) = ofE1 s t k ++ [dropE f.name]) := ofE1_drop HX.out hn
            clear hn
            go_wp2_with fail
            refine (find_any _ t f.name _ (HAB.out.2.over (hbw.trans (HA1.out.mono hbw.size)))).mono ?_
            rintro e w3 ⟨rfl, hb3⟩
            have hb3a := below_over HA1.out HA1.out.size hb3
            have hA3 := HA0.out.over hb3
            have c0' := hA3.arr.cell (j := 0) rfl
            have sA3 := hA3.arr.lt
            have HO3 := Lib.hid (own_over HO.out hb3a)
            have hbl3 := below_over hbl hbl.size hb3a
            have hB3 := hbl3.size
            clear hA3 c0 c1 c2
            go_wp2_with (at_builtin; refine wpList_append_new slEditP rfl _ _ rfl w2.heap.size _ _ 1 _ _ _ HO3.out rfl rfl rfl rfl hN1 (by decide) hB3 ?_; intro v4 w4 ho4 hg4)
            go_roundw
            case rel => exact ⟨k + 1, by omega, by go_num, (by rw [HE.out]; exact EOwn.snoc (e := dropE f.name) ho4), below_grown hbl3 hB3 HO3.out hg4⟩
            case measure => simp [intOf]; omega
          · have ht : decide (findT t f.name < 0) = false := by rw [hq]; simp
            have HE : Hid (ofE1 s t (k + 1) = ofE1 s t k) := ofE1_keep HX.out hq
            clear hq hg hgn
            go_wp2_with fail
            refine (find_any _ t f.name _ (HAB.out.2.over (hbw.trans (HA1.out.mono hbw.size)))).mono ?_
            rintro e w3 ⟨rfl, hb3⟩
            have hb3a := below_over HA1.out HA1.out.size hb3
            have HO3 := Lib.hid (own_over HO.out hb3a)
            go_wp2_with fail
            go_roundw
            case rel => exact ⟨k + 1, by omega, by go_num, (by rw [HE.out]; exact HO3.out), below_over hbl hbl.size hb3a⟩
            case measure => simp [intOf]; omega
        · obtain rfl : k = s.length := by omega
          go_wp2_with fail
          go_loopw [6, 10, 11, 12, 41] (fun v _ _ _ i wr => OfRel2 37 w2 s t v i wr) (fun _ _ _ _ i _ => t.length - (intOf i).toNat)
          case atStart => exact ⟨0, by omega, rfl, (by rw [ofE2_zero, List.append_nil]; exact HO.out), hbl⟩
          case round =>
            clear HO hbw hbl
            obtain ⟨k, hk, rfl, HO, hbl⟩ := hrel
            have hbw := below_over hb2 hb2.size hbl
            by_cases hlt : k < t.length
            · obtain ⟨bB, oB, rfl, sB, cB⟩ := HCb.out.resolve_left (by omega)
              obtain ⟨f, hf⟩ := get_of_lt hlt
              obtain ⟨av, lv, hat0⟩ := cB k f hf
              obtain ⟨aa, ac, rfl, _, _, _, _⟩ := hat0.also.form
              obtain ⟨la, lc, rfl, _, _, _, _⟩ := hat0.lines.form
              have hat := hat0.over hbw sB
              have c0 := hat.c0
              have c1 := hat.c1
              have c2 := hat.c2
              have sB' : bB < wr.heap.size := Nat.lt_of_lt_of_le sB hbw.size
              have HFi := Lib.hid (findT_ge s f.name)
              have hle1 := ofE1_len s t s.length
              have hle2 := ofE2_len HFew.out.1 HFew.out.2 k
              have HX := Lib.hid hf
              have hfl := HFew.out.2.at hf
              have hll := linesE_len f.name (wasL s f.name) f.lines
              have hwl := wasL_few (n := f.name) HFew.out.1
              have HA0 := Lib.hid (arrT_new wr [.string f.name, .slice aa f.also.length ac, .slice la f.lines.length lc] 40)
              have HA1 := Lib.hid ((Below.refl _ wr).alloc (Nat.le_refl wr.heap.size) (.cells #[.string f.name, .slice aa f.also.length ac, .slice la f.lines.length lc] 40))
              have HL0 := Lib.hid hat0.lines
              clear hat0 cB hf hat
              rcases HFi.out with hn | ⟨q, g, hq, hg, hgn⟩
              · have HN := Lib.hid hn
                have ht : decide (0 ≤ findT s f.name) = false := by rw [hn]; rfl
                have HT : Hid (ofE2 s t (k + 1) = ofE2 s t k ++ makeE f.name :: linesE f.name [] f.lines) := by show _ = _; rw [ofE2_succ HX.out, ofTail_none hn]
                have hN1 : (ofE1 s t s.length ++ ofE2 s t k).length + 1 ≤ 1099511627776 := by rw [List.length_append]; omega
                have hN2 : (ofE1 s t s.length ++ ofE2 s t k ++ [makeE f.name]).length + (linesE f.name [] f.lines).length ≤ 1099511627776 := by rw [wasL_none hn] at hll; simp only [List.length_append, List.length_cons, List.length_nil] at *; omega
                clear hn hll hwl
                go_wp2_with fail
                refine (find_any _ s f.name _ (HAB.out.1.over (hbw.trans (HA1.out.mono hbw.size)))).mono ?_
                rintro e w3 ⟨rfl, hb3⟩
                have hb3a := below_over HA1.out HA1.out.size hb3
                have hA3 := HA0.out.over hb3
                have HA3 := Lib.hid hA3
                have c0' := hA3.arr.cell (j := 0) rfl
                have sA3 := hA3.arr.lt
                have HO3 := Lib.hid (own_over HO.out hb3a)
                have hbl3 := below_over hbl hbl.size hb3a
                have hB3 := hbl3.size
                clear hA3 c0 c1 c2
                go_wp2_with (at_builtin; refine wpList_append_new slEditP rfl _ _ rfl w2.heap.size _ _ 1 _ _ _ HO3.out rfl rfl rfl rfl hN1 (by decide) hB3 ?_; intro v4 w4 ho4 hg4; have hbl4 := below_grown hbl3 hB3 HO3.out hg4; have HO4 := Lib.hid (EOwn.snoc (e := makeE f.name) ho4); have hbw4 := below_over hb2 hb2.size hbl4; have hA4 := HA3.out.grown HO3.out (by decide) hg4; have d0 := hA4.arr.cell (j := 0) rfl; have d2 := hA4.arr.cell (j := 2) rfl; have sA4 := hA4.arr.lt; have HL4 := Lib.hid (HL0.out.over hbw4); have hB4 := hbl4.size; clear c0' ho4 hg4 hA4)
                refine (lines_any _ _ _ [] f.lines _ (srow_nil _) HL4.out (by decide) (by omega)).mono ?_
                rintro e w5 ⟨vL, BL, rfl, hOL, hBL, hb⟩
                have HOL := Lib.hid hOL.row
                have hbl5 := below_over hbl4 hbl4.size hb
                have hB5 := hbl5.size
                have HO5 := Lib.hid (own_over HO4.out hb)
                clear hOL
                go_wp2_with (at_builtin; refine wpList_append_old slEditP rfl _ _ rfl w2.heap.size _ _ _ HO5.out rfl _ _ _ HOL.out rfl (encE_one _) hN2 (by decide) hB5 ?_; intro v6 w6 ho6 hg6)
                go_roundw
                case rel => exact ⟨k + 1, by omega, by go_num, (by show EOwn _ _ _ _ _; rw [HT.out]; have := EOwn.app ho6; simpa using this), below_grown hbl5 hB5 HO5.out hg6⟩
                case measure => simp [intOf]; omega
              · have hqs : q < s.length := (List.getElem?_eq_some_iff.1 hg).1
                have ht : decide (0 ≤ findT s f.name) = true := by rw [hq]; simp
                obtain ⟨bA, oA, rfl, sA, cA⟩ := HCa.out.resolve_left (by omega)
                obtain ⟨av2, lv2, hgt0⟩ := cA q g hg
                have HGt := Lib.hid hgt0
                have hgl := HFew.out.1.at hg
                have HT : Hid (ofE2 s t (k + 1) = ofE2 s t k ++ linesE f.name g.lines f.lines) := by show _ = _; rw [ofE2_succ HX.out, ofTail_some hq hg]
                have hN2 : (ofE1 s t s.length ++ ofE2 s t k).length + (linesE f.name g.lines f.lines).length ≤ 1099511627776 := by rw [wasL_some hq hg] at hll; rw [List.length_append]; omega
                have HQ := Lib.hid hq
                have hq63 : q ≤ 40 := by omega
                have hq0 : decide (0 ≤ (q : Int)) = true := by simp
                clear hq hg hgn hll hwl hgt0 cA ht
                go_wp2_with fail
                refine (find_any _ s f.name _ (HAB.out.1.over (hbw.trans (HA1.out.mono hbw.size)))).mono ?_
                rintro e w3 ⟨rfl, hb3⟩
                rw [HQ.out]
                have hb3a := below_over HA1.out HA1.out.size hb3
                have hbw3 := below_over hbw hbw.size hb3a
                have hA3 := HA0.out.over hb3
                have c0' := hA3.arr.cell (j := 0) rfl
                have c2' := hA3.arr.cell (j := 2) rfl
                have sA3 := hA3.arr.lt
                have sAA : bA < w3.heap.size := Nat.lt_of_lt_of_le sA hbw3.size
                have g2 := (HGt.out.over hbw3 sA).c2
                have HLg := Lib.hid (HGt.out.over hbw3 sA).lines
                have HO3 := Lib.hid (own_over HO.out hb3a)
                have hbl3 := below_over hbl hbl.size hb3a
                have HL3 := Lib.hid (HL0.out.over hbw3)
                have hB3 := hbl3.size
                clear hA3 c0 c1 c2
                go_wp2_with fail
                refine (lines_any _ _ _ g.lines f.lines _ HLg.out HL3.out (by omega) (by omega)).mono ?_
                rintro e w5 ⟨vL, BL, rfl, hOL, hBL, hb⟩
                have HOL := Lib.hid hOL.row
                have hbl5 := below_over hbl3 hbl3.size hb
                have hB5 := hbl5.size
                have HO5 := Lib.hid (own_over HO3.out hb)
                clear hOL
                go_wp2_with (at_builtin; refine wpList_append_old slEditP rfl _ _ rfl w2.heap.size _ _ _ HO5.out rfl _ _ _ HOL.out rfl (encE_one _) hN2 (by decide) hB5 ?_; intro v6 w6 ho6 hg6)
                go_roundw
                case rel => exact ⟨k + 1, by omega, by go_num, (by show EOwn _ _ _ _ _; rw [HT.out]; have := EOwn.app ho6; simpa using this), below_grown hbl5 hB5 HO5.out hg6⟩
                case measure => simp [intOf]; omega
            · obtain rfl : k = t.length := by omega
              go_wp2_with fail
              go_ret2
              exact ofRes_good HR.out rfl HO.out.row hbw
end Go.Proofs.YtjbihmglpfdmnaaGreatDoor
