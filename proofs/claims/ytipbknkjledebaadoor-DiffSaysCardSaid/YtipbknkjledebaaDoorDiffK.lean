/- Contracts of bruitref50.one: what makes a file. -/
import Derived.Test.YtipbknkjledebaaDoorDiffJ
namespace Go.Proofs.YtipbknkjledebaaDoor
open Go Go.RowKit

/-- the first j names are less than n -/
def LessTo (n : ByteArray) (hs : List FileH) (j : Nat) : Prop := ∀ (i : Nat) x, i < j → hs[i]? = some x → ltB x.1.name n = true
theorem LessTo.succ {n : ByteArray} {hs : List FileH} {j : Nat} {x : FileH} (h : LessTo n hs j) (hx : hs[j]? = some x) (hl : ltB x.1.name n = true) : LessTo n hs (j + 1) := by
  intro i y hi hy
  by_cases hij : i = j
  · subst hij; rw [hx] at hy; cases hy; exact hl
  · exact h i y (by omega) hy
theorem takeW_at {n : ByteArray} : ∀ {hs : List FileH} {j : Nat}, j ≤ hs.length → LessTo n hs j → (∀ x, hs[j]? = some x → ltB x.1.name n = false) → (hs.map (·.1)).takeWhile (fun f => ltB f.name n) = (hs.take j).map (·.1) ∧ (hs.map (·.1)).dropWhile (fun f => ltB f.name n) = (hs.drop j).map (·.1)
  | [], j, hj, _, _ => by simp at hj; subst hj; simp
  | x :: hs, 0, _, _, hx => by
    have := hx x rfl
    simp [List.takeWhile_cons, List.dropWhile_cons, this]
  | x :: hs, j + 1, hj, hl, hx => by
    have h0 := hl 0 x (by omega) rfl
    have ih := takeW_at (n := n) (hs := hs) (j := j) (by simpa using hj) (fun i y hi hy => hl (i + 1) y (by omega) (by simpa using hy)) (fun y hy => hx y (by simpa using hy))
    simp [List.takeWhile_cons, List.dropWhile_cons, h0, ih.1, ih.2]
theorem insT_at {n : ByteArray} {hs : List FileH} {j : Nat} (hj : j ≤ hs.length) (h : LessTo n hs j) (hx : ∀ x, hs[j]? = some x → ltB x.1.name n = false) : insT (hs.map (·.1)) n = (hs.take j ++ (⟨n, [], []⟩, .slice none 0 0, .slice none 0 0) :: hs.drop j).map (·.1) := by
  obtain ⟨h1, h2⟩ := takeW_at hj h hx
  unfold insT
  rw [h1, h2]; simp
theorem meas_lt {n j : Nat} (h : j < n) : n - (intOf (.int .i64 ((j : Int) + 1))).toNat < n - (intOf (.int .i64 (j : Int))).toNat := by simp [intOf]; omega
def MakeRel (w1 : World) (n : ByteArray) (hs : List FileH) (v iv : Value) (wr : World) : Prop := ∃ j : Nat, j ≤ hs.length ∧ iv = .int .i64 j ∧ Hid (LessTo n hs j) ∧ Hid (TOwn wr w1.heap.size v (hs.take j)) ∧ Below w1.heap.size w1 wr

set_option maxHeartbeats 10000000 in
set_option maxRecDepth 100000 in
theorem rone_make (v : Value) (t : List FileM) (n : ByteArray) (a : Int) (s : ByteArray) (w : World) (hv : FRow w v t) (ht : t.length ≤ 1000) (hz : n.size ≤ maxLen) :
    Calls Tryd.prog 20 #[v, .agg #[.int .u8 2, .string n, .int .i64 a, .string s]] w (OneRes w (oneK2 t n)) := by
  have HV := Lib.hid hv
  have HZ := Lib.hid hz
  have HA0 := Lib.hid (arrT_new w [.int .u8 2, .string n, .int .i64 a, .string s] 52)
  have HB0 := Lib.hid (below_box (w := w) (.cells #[.int .u8 2, .string n, .int .i64 a, .string s] 52))
  have HF := Lib.hid (findT_ge t n)
  clear hv hz
  cases hok : nameOk n with
  | false =>
    have HR : Hid (oneK2 t n = ([], 4)) := by show _ = _; unfold oneK2; rw [if_pos hok]
    go_enter Tryd.func20, Tryd.ntmps20
    go_wp2_with fail
    refine (rfind_any _ t n _ (HV.out.over HB0.out)).mono ?_
    rintro e w1 ⟨rfl, hb1⟩
    have hA := HA0.out.over hb1
    have c0 := hA.arr.cell (j := 0) rfl
    have c1 := hA.arr.cell (j := 1) rfl
    have sA := hA.arr.lt
    have HBw := Lib.hid (below_over HB0.out HB0.out.size hb1)
    clear hA
    go_wp2_with fail
    refine (rname_any n _ HZ.out).mono ?_
    rintro e w2 ⟨rfl, hb2⟩
    go_wp2_with fail
    go_ret2
    exact oneRes_bad HR.out rfl (below_over HBw.out HBw.out.size hb2)
  | true =>
    rcases HF.out with hn | ⟨k, f, hq, hf, hfn⟩
    · by_cases h16 : 16 ≤ t.length
      · have HR : Hid (oneK2 t n = ([], 11)) := by show _ = _; unfold oneK2; rw [if_neg (by simp [hok]), if_neg (by omega), if_pos h16]
        have hd : decide (0 ≤ findT t n) = false := by rw [hn]; rfl
        obtain ⟨aa, cap, rfl, h1, h2, _, _⟩ := HV.out.form
        unfold maxLen at h2
        clear hn
        go_enter Tryd.func20, Tryd.ntmps20
        go_wp2_with fail
        refine (rfind_any _ t n _ (HV.out.over HB0.out)).mono ?_
        rintro e w1 ⟨rfl, hb1⟩
        have hA := HA0.out.over hb1
        have c0 := hA.arr.cell (j := 0) rfl
        have c1 := hA.arr.cell (j := 1) rfl
        have sA := hA.arr.lt
        have HBw := Lib.hid (below_over HB0.out HB0.out.size hb1)
        clear hA
        go_wp2_with fail
        refine (rname_any n _ HZ.out).mono ?_
        rintro e w2 ⟨rfl, hb2⟩
        go_wp2_with fail
        go_ret2
        exact oneRes_bad HR.out rfl (below_over HBw.out HBw.out.size hb2)
      · have HR : Hid (oneK2 t n = (insT t n, 0)) := by show _ = _; unfold oneK2; rw [if_neg (by simp [hok]), if_neg (by omega), if_neg h16]
        have hd : decide (0 ≤ findT t n) = false := by rw [hn]; rfl
        obtain ⟨hs, rfl, hr, hh⟩ := HV.out.open
        obtain ⟨aa, cap, rfl, h1, h2, hc⟩ := held_form hr hh
        have h16' : hs.length < 16 := by simpa using h16
        unfold maxLen at h2
        have HH := Lib.hid hh
        have HRow := Lib.hid hr
        have HC := Lib.hid hc
        clear hn h16 ht hh hr hc
        go_enter Tryd.func20, Tryd.ntmps20
        go_wp2_with fail
        refine (rfind_any _ _ n _ (HV.out.over HB0.out)).mono ?_
        rintro e w1 ⟨rfl, hb1⟩
        have hA := HA0.out.over hb1
        have c0 := hA.arr.cell (j := 0) rfl
        have c1 := hA.arr.cell (j := 1) rfl
        have sA := hA.arr.lt
        have HA := Lib.hid hA
        have HBw := Lib.hid (below_over HB0.out HB0.out.size hb1)
        clear hA hb1
        go_wp2_with fail
        refine (rname_any n _ HZ.out).mono ?_
        rintro e w2 ⟨rfl, hb2⟩
        have HBw2 := Lib.hid (below_over HBw.out HBw.out.size hb2)
        have HA2 := Lib.hid (HA.out.over hb2)
        clear c0 c1 hb2
        go_wp2_with fail
        go_loopw [8, 9] (MakeRel w2 n hs) (fun _ i _ => hs.length - (intOf i).toNat)
        case atStart => exact ⟨0, by omega, rfl, (fun i x hi => by omega), World.ownsRow_nil _ _ _ _, Below.refl _ _⟩
        case round =>
          obtain ⟨j, hj, rfl, HLs, HO, hbl⟩ := hrel
          have hbw := below_over HBw2.out HBw2.out.size hbl
          have hA := HA2.out.over hbl
          have c1 := hA.arr.cell (j := 1) rfl
          have sA3 := hA.arr.lt
          have HA3 := Lib.hid hA
          have hB := hbl.size
          have hN1 : (hs.take j).length + 1 ≤ 1099511627776 := by rw [List.length_take]; omega
          have hN2 : (hs.take j).length + 1 + (hs.length - j) ≤ 1099511627776 := by rw [List.length_take]; omega
          clear hA
          have hend : (∀ x, hs[j]? = some x → ltB x.1.name n = false) → Hid (insT (hs.map (·.1)) n = (hs.take j ++ (⟨n, [], []⟩, .slice none 0 0, .slice none 0 0) :: hs.drop j).map (·.1)) := fun h => insT_at hj HLs.out h
          by_cases hlt : j < hs.length
          · obtain ⟨b, o, rfl, sb, hf⟩ := HC.out.resolve_left (by omega)
            obtain ⟨x, hx⟩ := get_of_lt hlt
            have hat0 := hf j x hx
            have hat := hat0.over hbw sb
            have k0 := hat.c0
            have k1 := hat.c1
            have k2 := hat.c2
            have sb' : b < wr.heap.size := Nat.lt_of_lt_of_le sb hbw.size
            obtain ⟨xa, xac, ea, _, _, _, _⟩ := hat0.also.form
            obtain ⟨xl, xlc, el, _, _, _, _⟩ := hat0.lines.form
            rw [ea] at k1
            rw [el] at k2
            have HEa := Lib.hid ea
            have HEl := Lib.hid el
            have HX := Lib.hid hx
            have HEnd := Lib.hid hend
            clear hat hat0 hf hx ea el hend
            cases hl : ltB x.1.name n with
            | true =>
              have HT : Hid (hs.take (j + 1) = hs.take j ++ [x]) := take_succ_get HX.out
              have HS : Hid (LessTo n hs (j + 1)) := HLs.out.succ HX.out hl
              have hl' : Op.bytesLess x.1.name.toList n.toList = true := hl
              clear hl
              go_wp2_with fail
              refine wp_region_lex (C := IsOver wr) 14 [] (by kernel_rfl) (by kernel_rfl) (isOver_of (by repeat (first | exact Below.refl _ _ | apply Below.drew | apply below_drewN | (refine Below.alloc ?_ (by simp) _)))) ?_
              simp only [List.take_succ_cons, List.take_zero, List.drop_succ_cons, List.drop_zero]
              repeat (first | (refine lex_skip rfl rfl ?_; simp only [Act.put, List.setIfInBounds_toArray, List.set_cons_succ, List.set_cons_zero]) | (refine lex_one rfl ?_; go_big_quiet_step (fail); refine wpQuiet_nil ?_))
              refine lex_end ?_
              go_wp2_with (at_builtin; (first | refine wpList_append_newD slTree rfl _ _ rfl w2.heap.size _ _ (drawn_alloc_drewN _ _ _) 1 _ _ _ HO.out rfl rfl rfl rfl hN1 (by decide) hB ?_ | refine wpList_append_newD slTree rfl _ _ rfl w2.heap.size _ _ (drawn_drew _) 1 _ _ _ HO.out rfl rfl rfl rfl hN1 (by decide) hB ?_ | refine wpList_append_newD slTree rfl _ _ rfl w2.heap.size _ _ (drawn_drewN _ _) 1 _ _ _ HO.out rfl rfl rfl rfl hN1 (by decide) hB ?_ | refine wpList_append_newD slTree rfl _ _ rfl w2.heap.size _ _ (drawn_refl _) 1 _ _ _ HO.out rfl rfl rfl rfl hN1 (by decide) hB ?_); intro v2 w3 ho2 hg2)
              go_roundw
              case rel => exact ⟨j + 1, hlt, by go_num, HS, (by rw [HT.out]; refine TOwn.snoc ?_; unfold encF; rw [HEa.out, HEl.out]; exact ho2), below_grown hbl hB HO.out hg2⟩
              case measure => exact meas_lt hlt
            | false =>
              have HI := Lib.hid (HEnd.out fun y hy => by rw [HX.out] at hy; cases hy; exact hl)
              have hl' : Op.bytesLess x.1.name.toList n.toList = false := hl
              clear hl
              go_wp2_with fail
              refine wp_region_lex (C := IsOver wr) 14 [] (by kernel_rfl) (by kernel_rfl) (isOver_of (by repeat (first | exact Below.refl _ _ | apply Below.drew | apply below_drewN | (refine Below.alloc ?_ (by simp) _)))) ?_
              simp only [List.take_succ_cons, List.take_zero, List.drop_succ_cons, List.drop_zero]
              repeat (first | (refine lex_skip rfl rfl ?_; simp only [Act.put, List.setIfInBounds_toArray, List.set_cons_succ, List.set_cons_zero]) | (refine lex_one rfl ?_; go_big_quiet_step (fail); refine wpQuiet_nil ?_))
              refine lex_end ?_
              go_wp2_with (first
                | (at_builtin; refine wpList_append_old slTree rfl _ _ rfl w2.heap.size _ _ _ HO3.out rfl _ _ _ HR3.out rfl (encF_one ((HH.out.over HW3.out).drop _)) hN2 (by decide) HB3.out.size ?_; intro v4 w4 ho4 hg4)
                | (refine wpList_slice_from slTree rfl _ _ rfl _ _ _ (HRow.out.over HW3.out) rfl _ j rfl rfl hj ?_; intro v3 hv3; have HR3 := Lib.hid (hrow_drop hv3 (HRow.out.over HW3.out)); clear hv3)
                | ((at_builtin; (first | refine wpList_append_newD slTree rfl _ _ rfl w2.heap.size _ _ (drawn_alloc_drewN _ _ _) 1 _ _ _ HO.out rfl rfl rfl rfl hN1 (by decide) hB ?_ | refine wpList_append_newD slTree rfl _ _ rfl w2.heap.size _ _ (drawn_drew _) 1 _ _ _ HO.out rfl rfl rfl rfl hN1 (by decide) hB ?_ | refine wpList_append_newD slTree rfl _ _ rfl w2.heap.size _ _ (drawn_drewN _ _) 1 _ _ _ HO.out rfl rfl rfl rfl hN1 (by decide) hB ?_ | refine wpList_append_newD slTree rfl _ _ rfl w2.heap.size _ _ (drawn_refl _) 1 _ _ _ HO.out rfl rfl rfl rfl hN1 (by decide) hB ?_); intro v2 w3 ho2 hg2); have HO3 := Lib.hid ho2; have HB3 := Lib.hid (below_grown hbl hB HO.out hg2); have HW3 := Lib.hid (below_over HBw2.out HBw2.out.size (below_grown hbl hB HO.out hg2)); clear ho2 hg2))
              have hb4 := below_grown HB3.out HB3.out.size HO3.out hg4
              go_ret2
              have hT := TOwn.app (n := (hs.take j).length + 1) (m := hs.length - j) (xs := hs.take j ++ [(⟨n, [], []⟩, .slice none 0 0, .slice none 0 0)]) (ys := hs.drop j) (by simp) (by simp) (by rw [List.flatMap_append]; simpa [encF] using ho4)
              have hbw4 := below_over HBw2.out HBw2.out.size hb4
              refine oneRes_ok HR.out ?_ hbw4
              rw [HI.out]
              have hH : Held w (hs.take j ++ (⟨n, [], []⟩, .slice none 0 0, .slice none 0 0) :: hs.drop j) := fun x hx => by
                rcases List.mem_append.1 hx with hx | hx
                · exact HH.out x (List.mem_of_mem_take hx)
                · rcases List.mem_cons.1 hx with rfl | hx
                  · exact ⟨srow_nil w, srow_nil w⟩
                  · exact HH.out x (List.mem_of_mem_drop hx)
              have hT' : TOwn w4 w2.heap.size v4 (hs.take j ++ (⟨n, [], []⟩, .slice none 0 0, .slice none 0 0) :: hs.drop j) := by simpa using hT
              exact hT'.frow (hH.over hbw4)
          · obtain rfl : j = hs.length := by omega
            have HI := Lib.hid (hend fun y hy => by rw [List.getElem?_eq_none (Nat.le_refl _)] at hy; cases hy)
            go_wp2_with fail
            refine wp_region_lex (C := IsOver wr) 14 [] (by kernel_rfl) (by kernel_rfl) (isOver_of (by repeat (first | exact Below.refl _ _ | apply Below.drew | apply below_drewN | (refine Below.alloc ?_ (by simp) _)))) ?_
            simp only [List.take_succ_cons, List.take_zero, List.drop_succ_cons, List.drop_zero]
            repeat (first | (refine lex_skip rfl rfl ?_; simp only [Act.put, List.setIfInBounds_toArray, List.set_cons_succ, List.set_cons_zero]) | (refine lex_one rfl ?_; go_big_quiet_step (fail); refine wpQuiet_nil ?_))
            refine lex_end ?_
            go_wp2_with (first
              | (at_builtin; refine wpList_append_old slTree rfl _ _ rfl w2.heap.size _ _ _ HO3.out rfl _ _ _ HR3.out rfl (encF_one ((HH.out.over HW3.out).drop _)) hN2 (by decide) HB3.out.size ?_; intro v4 w4 ho4 hg4)
              | (refine wpList_slice_from slTree rfl _ _ rfl _ _ _ (HRow.out.over HW3.out) rfl _ hs.length rfl rfl hj ?_; intro v3 hv3; have HR3 := Lib.hid (hrow_drop hv3 (HRow.out.over HW3.out)); clear hv3)
              | ((at_builtin; (first | refine wpList_append_newD slTree rfl _ _ rfl w2.heap.size _ _ (drawn_alloc_drewN _ _ _) 1 _ _ _ HO.out rfl rfl rfl rfl hN1 (by decide) hB ?_ | refine wpList_append_newD slTree rfl _ _ rfl w2.heap.size _ _ (drawn_drew _) 1 _ _ _ HO.out rfl rfl rfl rfl hN1 (by decide) hB ?_ | refine wpList_append_newD slTree rfl _ _ rfl w2.heap.size _ _ (drawn_drewN _ _) 1 _ _ _ HO.out rfl rfl rfl rfl hN1 (by decide) hB ?_ | refine wpList_append_newD slTree rfl _ _ rfl w2.heap.size _ _ (drawn_refl _) 1 _ _ _ HO.out rfl rfl rfl rfl hN1 (by decide) hB ?_); intro v2 w3 ho2 hg2); have HO3 := Lib.hid ho2; have HB3 := Lib.hid (below_grown hbl hB HO.out hg2); have HW3 := Lib.hid (below_over HBw2.out HBw2.out.size (below_grown hbl hB HO.out hg2)); clear ho2 hg2))
            have hb4 := below_grown HB3.out HB3.out.size HO3.out hg4
            go_ret2
            have hT := TOwn.app (n := (hs.take hs.length).length + 1) (m := hs.length - hs.length) (xs := hs.take hs.length ++ [(⟨n, [], []⟩, .slice none 0 0, .slice none 0 0)]) (ys := hs.drop hs.length) (by simp) (by simp) (by rw [List.flatMap_append]; simpa [encF] using ho4)
            have hbw4 := below_over HBw2.out HBw2.out.size hb4
            refine oneRes_ok HR.out ?_ hbw4
            rw [HI.out]
            have hH : Held w (hs.take hs.length ++ (⟨n, [], []⟩, .slice none 0 0, .slice none 0 0) :: hs.drop hs.length) := fun x hx => by
              rcases List.mem_append.1 hx with hx | hx
              · exact HH.out x (List.mem_of_mem_take hx)
              · rcases List.mem_cons.1 hx with rfl | hx
                · exact ⟨srow_nil w, srow_nil w⟩
                · exact HH.out x (List.mem_of_mem_drop hx)
            have hT' : TOwn w4 w2.heap.size v4 (hs.take hs.length ++ (⟨n, [], []⟩, .slice none 0 0, .slice none 0 0) :: hs.drop hs.length) := by simpa using hT
            exact hT'.frow (hH.over hbw4)
    · have HR : Hid (oneK2 t n = ([], 7)) := by show _ = _; unfold oneK2; rw [if_neg (by simp [hok]), if_pos (by omega)]
      have HQ := Lib.hid hq
      have hd : decide (0 ≤ (k : Int)) = true := by simp
      clear hq hf hfn
      go_enter Tryd.func20, Tryd.ntmps20
      go_wp2_with fail
      refine (rfind_any _ t n _ (HV.out.over HB0.out)).mono ?_
      rintro e w1 ⟨rfl, hb1⟩
      rw [HQ.out]
      have hA := HA0.out.over hb1
      have c0 := hA.arr.cell (j := 0) rfl
      have c1 := hA.arr.cell (j := 1) rfl
      have sA := hA.arr.lt
      have HBw := Lib.hid (below_over HB0.out HB0.out.size hb1)
      clear hA
      go_wp2_with fail
      refine (rname_any n _ HZ.out).mono ?_
      rintro e w2 ⟨rfl, hb2⟩
      go_wp2_with fail
      go_ret2
      exact oneRes_bad HR.out rfl (below_over HBw.out HBw.out.size hb2)
end Go.Proofs.YtipbknkjledebaaDoor
