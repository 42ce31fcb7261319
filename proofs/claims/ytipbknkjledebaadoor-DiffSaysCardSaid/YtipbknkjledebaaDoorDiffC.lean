/- Contract of bruitref50.Of. -/
import Derived.Test.YtipbknkjledebaaDoorDiffB
import Derived.Test.YtipbknkjledebaaDoorTreeD
import Derived.Test.YtipbknkjledebaaDoorTreeF
namespace Go.Proofs.YtipbknkjledebaaDoor
open Go Go.RowKit

/-- edits that lie somewhere -/
def ERow (w : World) (v : Value) (es : List EditM) : Prop := Row w v es.length 4 (es.flatMap encE)
theorem EOwn.row {w : World} {B : Nat} {t : TypeId} {v : Value} {es : List EditM} (h : EOwn w B t v es) : ERow w v es := own_row h
theorem ERow.over {w w' : World} {v : Value} {es : List EditM} (h : ERow w v es) (hb : Below w.heap.size w w') : ERow w' v es := Row.over h hb
theorem encE_one (es : List EditM) : ∀ u ∈ es.flatMap encE, u.oneCell' = true := by
  intro u hu
  obtain ⟨e, _, he⟩ := List.mem_flatMap.1 hu
  simp only [encE, List.mem_cons, List.not_mem_nil, or_false] at he
  rcases he with rfl | rfl | rfl | rfl <;> rfl
theorem EOwn.app {w : World} {B : Nat} {t : TypeId} {v : Value} {es fs : List EditM} (h : w.ownsRow B t 4 v (es.length + fs.length) (es.flatMap encE ++ fs.flatMap encE)) : EOwn w B t v (es ++ fs) := by
  unfold EOwn
  rw [List.length_append, List.flatMap_append]; exact h
def ofS (a b : List FileM) : List EditM := if (treeGood a && treeGood b) = true then ofE a b else []
def ofN (a b : List FileM) : Int := if (treeGood a && treeGood b) = true then 0 else 4
def OfRes (w : World) (a b : List FileM) (e : Ending) (w' : World) : Prop := ∃ v, e = .returned (.tuple #[v, .int .i64 (ofN a b)]) ∧ ERow w' v (ofS a b) ∧ Below w.heap.size w w'
theorem ofRes_bad {w w' : World} {a b : List FileM} (h : (treeGood a && treeGood b) = false) (hb : Below w.heap.size w w') : OfRes w a b (.returned (.tuple #[.slice none 0 0, .int .i64 4])) w' := by
  refine ⟨.slice none 0 0, by unfold ofN; rw [h]; rfl, ?_, hb⟩
  unfold ofS; rw [h]; exact row_nil w' 4
theorem ofRes_good {w w' : World} {a b : List FileM} {v : Value} {es : List EditM} (h : (treeGood a && treeGood b) = true) (he : es = ofE a b) (hr : ERow w' v es) (hb : Below w.heap.size w w') : OfRes w a b (.returned (.tuple #[v, .int .i64 0])) w' := by
  subst he
  refine ⟨v, by unfold ofN; rw [h]; rfl, ?_, hb⟩
  unfold ofS; rw [h]; exact hr
/-- so far k files of the first tree -/
def OfRel1 (t : TypeId) (w2 : World) (a b : List FileM) (v iv : Value) (wr : World) : Prop := ∃ k : Nat, k ≤ a.length ∧ iv = .int .i64 k ∧ Hid (EOwn wr w2.heap.size t v (ofE1 a b k)) ∧ Below w2.heap.size w2 wr
def OfRel2 (t : TypeId) (w2 : World) (a b : List FileM) (v iv : Value) (wr : World) : Prop := ∃ k : Nat, k ≤ b.length ∧ iv = .int .i64 k ∧ Hid (EOwn wr w2.heap.size t v (ofE1 a b a.length ++ ofE2 a b k)) ∧ Below w2.heap.size w2 wr
theorem ofE1_zero (a b : List FileM) : ofE1 a b 0 = [] := by unfold ofE1; simp
theorem ofE2_zero (a b : List FileM) : ofE2 a b 0 = [] := by unfold ofE2; simp
theorem ofE1_drop {a b : List FileM} {k : Nat} {f : FileM} (h : a[k]? = some f) (hf : findT b f.name = -1) : ofE1 a b (k + 1) = ofE1 a b k ++ [dropE f.name] := by
  rw [ofE1_succ h, if_pos (by omega)]
theorem ofE1_keep {a b : List FileM} {k j : Nat} {f : FileM} (h : a[k]? = some f) (hf : findT b f.name = (j : Int)) : ofE1 a b (k + 1) = ofE1 a b k := by
  rw [ofE1_succ h, if_neg (by omega), List.append_nil]

set_option maxHeartbeats 10000000 in
set_option maxRecDepth 100000 in
theorem rof_any (va vb : Value) (s t : List FileM) (w : World) (ha : FRow w va s) (hb : FRow w vb t) (hsa : SzT s) (hsb : SzT t) (fa : FewT s) (fb : FewT t) :
    Calls Tryd.prog 13 #[va, vb] w (OfRes w s t) := by
  have HAB := Lib.hid (And.intro ha hb)
  have HSZ := Lib.hid (And.intro hsa hsb)
  have HFew := Lib.hid (And.intro fa fb)
  obtain ⟨a, ca, rfl, h1, h2, _, hca⟩ := ha.form
  obtain ⟨b, cb, rfl, h3, h4, _, hcb⟩ := hb.form
  unfold maxLen at h2 h4
  have HCa := Lib.hid hca
  have HCb := Lib.hid hcb
  have l1 := fa.1
  have l2 := fb.1
  clear ha hb hca hcb hsa hsb fa fb
  cases hg1 : treeGood s with
  | false =>
    have HR : Hid ((treeGood s && treeGood t) = false) := by show _ = _; rw [hg1]; rfl
    go_enter Tryd.func13, Tryd.ntmps13
    go_wp2_with (go_at_call 19; (with_reducible refine (rgood_any _ s _ HAB.out.1 HSZ.out.1).mono ?_); rintro e w1 ⟨rfl, hb1⟩)
    go_ret2
    exact ofRes_bad HR.out hb1
  | true =>
    cases hg2 : treeGood t with
    | false =>
      have HR : Hid ((treeGood s && treeGood t) = false) := by show _ = _; rw [hg1, hg2]; rfl
      go_enter Tryd.func13, Tryd.ntmps13
      go_wp2_with fail
      refine (rgood_any _ s _ HAB.out.1 HSZ.out.1).mono ?_
      rintro e w1 ⟨rfl, hb1⟩
      go_wp2_with fail
      refine (rgood_any _ t _ (HAB.out.2.over hb1) HSZ.out.2).mono ?_
      rintro e w2 ⟨rfl, hb2⟩
      go_wp2_with fail
      go_ret2
      exact ofRes_bad HR.out (below_over hb1 hb1.size hb2)
    | true =>
      have HR : Hid ((treeGood s && treeGood t) = true) := by show _ = _; rw [hg1, hg2]; rfl
      go_enter Tryd.func13, Tryd.ntmps13
      go_wp2_with fail
      refine (rgood_any _ s _ HAB.out.1 HSZ.out.1).mono ?_
      rintro e w1 ⟨rfl, hb1⟩
      go_wp2_with fail
      refine (rgood_any _ t _ (HAB.out.2.over hb1) HSZ.out.2).mono ?_
      rintro e w2 ⟨rfl, hb2'⟩
      have hb2 := below_over hb1 hb1.size hb2'
      clear hb1 hb2'
      go_wp2_with fail
      clear hg1 hg2
      go_loopw [6, 7] (OfRel1 52 w2 s t) (fun _ i _ => s.length - (intOf i).toNat)
      case atStart => exact ⟨0, by omega, rfl, (by rw [ofE1_zero]; exact World.ownsRow_nil _ _ _ _), Below.refl _ _⟩
      case round =>
        obtain ⟨k, hk, rfl, HO, hbl⟩ := hrel
        have hbw := below_over hb2 hb2.size hbl
        by_cases hlt : k < s.length
        · obtain ⟨bA, oA, rfl, sA, cA⟩ := HCa.out.resolve_left (by omega)
          obtain ⟨f, hf⟩ := get_of_lt hlt
          obtain ⟨av, lv, hat0⟩ := cA k f hf
          have c0 := (hat0.over hbw sA).c0
          have sA' : bA < wr.heap.size := Nat.lt_of_lt_of_le sA hbw.size
          have HFi := Lib.hid (findT_ge t f.name)
          have hle := ofE1_len s t k
          have HX := Lib.hid hf
          have HC0 := Lib.hid c0
          clear hat0 cA hf
          rcases HFi.out with hn | ⟨q, g, hq, hg, hgn⟩
          · have HN := Lib.hid hn
            have ht : decide (findT t f.name < 0) = true := by rw [hn]; rfl
            have hN1 : (ofE1 s t k).length + 1 ≤ 1099511627776 := by omega
            have HE : Hid (ofE1 s t (k + 1) = ofE1 s t k ++ [dropE f.name]) := ofE1_drop HX.out hn
            clear hn
            go_wp2_with fail
            refine (rfind_any _ t f.name _ (HAB.out.2.over hbw)).mono ?_
            rintro e w3 ⟨rfl, hb3⟩
            have c0' := (hb3.cell (p := ⟨bA, _, none⟩) sA').trans HC0.out
            have sA3 : bA < w3.heap.size := Nat.lt_of_lt_of_le sA' hb3.size
            have hO3 := own_over HO.out hb3
            have HO3 := Lib.hid hO3
            have hbl3 := below_over hbl hbl.size hb3
            have hB3 := hbl3.size
            clear hO3 c0
            go_wp2_with (at_builtin; refine wpList_append_new slEditR rfl _ _ rfl w2.heap.size _ _ 1 _ _ _ HO3.out rfl rfl rfl rfl hN1 (by decide) hB3 ?_; intro v4 w4 ho4 hg4)
            go_roundw
            case rel => exact ⟨k + 1, by omega, by go_num, (by rw [HE.out]; exact EOwn.snoc (e := dropE f.name) ho4), below_grown hbl3 hB3 HO3.out hg4⟩
            case measure => simp [intOf]; omega
          · have ht : decide (findT t f.name < 0) = false := by rw [hq]; simp
            have HE : Hid (ofE1 s t (k + 1) = ofE1 s t k) := ofE1_keep HX.out hq
            clear hq hg hgn
            go_wp2_with fail
            refine (rfind_any _ t f.name _ (HAB.out.2.over hbw)).mono ?_
            rintro e w3 ⟨rfl, hb3⟩
            have HO3 := Lib.hid (own_over HO.out hb3)
            go_wp2_with fail
            go_roundw
            case rel => exact ⟨k + 1, by omega, by go_num, (by rw [HE.out]; exact HO3.out), below_over hbl hbl.size hb3⟩
            case measure => simp [intOf]; omega
        · obtain rfl : k = s.length := by omega
          go_wp2_with fail
          go_loopw [6, 8, 9] (fun v i _ wr => OfRel2 52 w2 s t v i wr) (fun _ i _ _ => t.length - (intOf i).toNat)
          case atStart => exact ⟨0, by omega, rfl, (by rw [ofE2_zero, List.append_nil]; exact HO.out), hbl⟩
          case round =>
            clear HO hbw hbl
            obtain ⟨k, hk, rfl, HO, hbl⟩ := hrel
            have hbw := below_over hb2 hb2.size hbl
            by_cases hlt : k < t.length
            · obtain ⟨bB, oB, rfl, sB, cB⟩ := HCb.out.resolve_left (by omega)
              obtain ⟨f, hf⟩ := get_of_lt hlt
              obtain ⟨av, lv, hat0⟩ := cB k f hf
              have c0 := (hat0.over hbw sB).c0
              have sB' : bB < wr.heap.size := Nat.lt_of_lt_of_le sB hbw.size
              have HFi := Lib.hid (findT_ge s f.name)
              have hle1 := ofE1_len s t s.length
              have hle2 := ofE2_len HFew.out.1 HFew.out.2 k
              have HX := Lib.hid hf
              have HAt := Lib.hid hat0
              have hfl := HFew.out.2.at hf
              have hll := linesE_len f.name (wasL s f.name) f.lines
              have hwl := wasL_few (n := f.name) HFew.out.1
              clear hat0 cB hf
              rcases HFi.out with hn | ⟨q, g, hq, hg, hgn⟩
              · have HN := Lib.hid hn
                have ht : decide (findT s f.name < 0) = true := by rw [hn]; rfl
                have HT : Hid (ofE2 s t (k + 1) = ofE2 s t k ++ makeE f.name :: linesE f.name [] f.lines) := by show _ = _; rw [ofE2_succ HX.out, ofTail_none hn]
                have hN1 : (ofE1 s t s.length ++ ofE2 s t k).length + 1 ≤ 1099511627776 := by rw [List.length_append]; omega
                have hN2 : (ofE1 s t s.length ++ ofE2 s t k ++ [makeE f.name]).length + (linesE f.name [] f.lines).length ≤ 1099511627776 := by rw [wasL_none hn] at hll; simp only [List.length_append, List.length_cons, List.length_nil] at *; omega
                clear hn hll hwl
                go_wp2_with fail
                refine (rfind_any _ s f.name _ (HAB.out.1.over hbw)).mono ?_
                rintro e w3 ⟨rfl, hb3⟩
                have hbw3 := below_over hbw hbw.size hb3
                have c0' := (HAt.out.over hbw3 sB).c0
                have sB3 : bB < w3.heap.size := Nat.lt_of_lt_of_le sB' hb3.size
                have HO3 := Lib.hid (own_over HO.out hb3)
                have hbl3 := below_over hbl hbl.size hb3
                have hB3 := hbl3.size
                clear c0
                go_wp2_with (at_builtin; refine wpList_append_new slEditR rfl _ _ rfl w2.heap.size _ _ 1 _ _ _ HO3.out rfl rfl rfl rfl hN1 (by decide) hB3 ?_; intro v4 w4 ho4 hg4)
                have hbl4 := below_grown hbl3 hB3 HO3.out hg4
                have HO4 := Lib.hid (EOwn.snoc (e := makeE f.name) ho4)
                have hbw4 := below_over hb2 hb2.size hbl4
                have sB4 : bB < w4.heap.size := Nat.lt_of_lt_of_le sB hbw4.size
                have d0 := (HAt.out.over hbw4 sB).c0
                have d2 := (HAt.out.over hbw4 sB).c2
                have HL := Lib.hid (HAt.out.over hbw4 sB).lines
                have hB4 := hbl4.size
                clear c0' ho4 hg4
                go_wp2_with fail
                have hcur : Below w4.heap.size w4 w4.drew := (Below.refl _ _).drew
                refine wp_region_lex (C := IsOver w4) 12 [] (by kernel_rfl) (by kernel_rfl) (isOver_of (by repeat (first | exact Below.refl _ _ | apply Below.drew | apply below_drewN | (refine Below.alloc ?_ (by simp) _)))) ?_
                simp only [List.take_succ_cons, List.take_zero, List.drop_succ_cons, List.drop_zero]
                repeat (first | (refine lex_skip rfl rfl ?_; simp only [Act.put, List.setIfInBounds_toArray, List.set_cons_succ, List.set_cons_zero]) | (refine lex_one rfl ?_; go_big_quiet_step (fail); refine wpQuiet_nil ?_) | (refine lex_loud rfl ?_; go_wp2_with (first | (go_at_call 25; (with_reducible refine (rlines_any _ _ _ [] f.lines _ (srow_nil _) (HL.out.over hcur) (by decide) (by omega)).mono ?_); rintro e w' ⟨vL, BL, rfl, hOL, hBL, hb⟩; have HOL := Lib.hid hOL.row; replace hcur := below_over hcur hcur.size hb; clear hb hOL)); refine ⟨isOver_of hcur, ?_⟩))
                refine lex_end ?_
                have hbl5 := below_over hbl4 hbl4.size hcur
                have hB5 := hbl5.size
                have HO5 := Lib.hid (own_over HO4.out hcur)
                go_wp2_with (at_builtin; refine wpList_append_old slEditR rfl _ _ rfl w2.heap.size _ _ _ HO5.out rfl _ _ _ HOL.out rfl (encE_one _) hN2 (by decide) hB5 ?_; intro v6 w6 ho6 hg6)
                go_roundw
                case rel => exact ⟨k + 1, by omega, by go_num, (by show EOwn _ _ _ _ _; rw [HT.out]; have := EOwn.app ho6; simpa using this), below_grown hbl5 hB5 HO5.out hg6⟩
                case measure => simp [intOf]; omega
              · have hqs : q < s.length := (List.getElem?_eq_some_iff.1 hg).1
                obtain ⟨bA, oA, rfl, sA, cA⟩ := HCa.out.resolve_left (by omega)
                obtain ⟨av2, lv2, hgt0⟩ := cA q g hg
                have HGt := Lib.hid hgt0
                have hgl := HFew.out.1.at hg
                have HT : Hid (ofE2 s t (k + 1) = ofE2 s t k ++ linesE f.name g.lines f.lines) := by show _ = _; rw [ofE2_succ HX.out, ofTail_some hq hg]
                have hN2 : (ofE1 s t s.length ++ ofE2 s t k).length + (linesE f.name g.lines f.lines).length ≤ 1099511627776 := by rw [wasL_some hq hg] at hll; rw [List.length_append]; omega
                have HQ := Lib.hid hq
                clear hq hg hgn hll hwl hgt0 cA
                go_wp2_with fail
                refine (rfind_any _ s f.name _ (HAB.out.1.over hbw)).mono ?_
                rintro e w3 ⟨rfl, hb3⟩
                rw [HQ.out]
                have hbw3 := below_over hbw hbw.size hb3
                have sB3 : bB < w3.heap.size := Nat.lt_of_lt_of_le sB' hb3.size
                have sA3 : bA < w3.heap.size := Nat.lt_of_lt_of_le sA hbw3.size
                have d0 := (HAt.out.over hbw3 sB).c0
                have d2 := (HAt.out.over hbw3 sB).c2
                have g2 := (HGt.out.over hbw3 sA).c2
                have HL := Lib.hid (HAt.out.over hbw3 sB).lines
                have HLg := Lib.hid (HGt.out.over hbw3 sA).lines
                have HO3 := Lib.hid (own_over HO.out hb3)
                have hbl3 := below_over hbl hbl.size hb3
                have hB3 := hbl3.size
                have hq63 : q ≤ 40 := by omega
                clear c0
                go_wp2_with fail
                have hcur : Below w3.heap.size w3 w3.drew := (Below.refl _ _).drew
                refine wp_region_lex (C := IsOver w3) 17 [] (by kernel_rfl) (by kernel_rfl) (isOver_of (by repeat (first | exact Below.refl _ _ | apply Below.drew | apply below_drewN | (refine Below.alloc ?_ (by simp) _)))) ?_
                simp only [List.take_succ_cons, List.take_zero, List.drop_succ_cons, List.drop_zero]
                repeat (first | (refine lex_skip rfl rfl ?_; simp only [Act.put, List.setIfInBounds_toArray, List.set_cons_succ, List.set_cons_zero]) | (refine lex_one rfl ?_; go_big_quiet_step (fail); refine wpQuiet_nil ?_) | (refine lex_loud rfl ?_; go_wp2_with (first | (go_at_call 25; (with_reducible refine (rlines_any _ _ _ g.lines f.lines _ (HLg.out.over hcur) (HL.out.over hcur) (by omega) (by omega)).mono ?_); rintro e w' ⟨vL, BL, rfl, hOL, hBL, hb⟩; have HOL := Lib.hid hOL.row; replace hcur := below_over hcur hcur.size hb; clear hb hOL)); refine ⟨isOver_of hcur, ?_⟩))
                refine lex_end ?_
                have hbl5 := below_over hbl3 hbl3.size hcur
                have hB5 := hbl5.size
                have HO5 := Lib.hid (own_over HO3.out hcur)
                go_wp2_with (at_builtin; refine wpList_append_old slEditR rfl _ _ rfl w2.heap.size _ _ _ HO5.out rfl _ _ _ HOL.out rfl (encE_one _) hN2 (by decide) hB5 ?_; intro v6 w6 ho6 hg6)
                go_roundw
                case rel => exact ⟨k + 1, by omega, by go_num, (by show EOwn _ _ _ _ _; rw [HT.out]; have := EOwn.app ho6; simpa using this), below_grown hbl5 hB5 HO5.out hg6⟩
                case measure => simp [intOf]; omega
            · obtain rfl : k = t.length := by omega
              go_wp2_with fail
              go_ret2
              exact ofRes_good HR.out rfl HO.out.row hbw
end Go.Proofs.YtipbknkjledebaaDoor
