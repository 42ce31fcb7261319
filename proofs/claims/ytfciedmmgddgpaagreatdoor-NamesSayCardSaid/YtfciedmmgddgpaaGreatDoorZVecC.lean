/- Contracts of vec.Put; of the reference's Of, Next, Put. -/
import Derived.Test.YtfciedmmgddgpaaGreatDoorZVecB
namespace Go.Proofs.YtfciedmmgddgpaaGreatDoor
open Go Go.RowKit

theorem results_arr_slot {P : Program} {w : World} {ty : TypeId} {size : Nat} (T : RowT P ty size) {fn : Func} {p q : Tmp} (h : fn.results = #[.cell p ty, .tmp q]) {tmps : Array Value} {g : Nat} {cs : List Value} (hA : Arr w g cs) (hp : tmps.getD p undef = .pointer (some ⟨g, 0, none⟩)) (hl : cs.length = size) {u : Value} (hq : tmps.getD q undef = u) :
    (results fn tmps).run P w = .ok (.tuple #[.agg cs.toArray, u]) w := by
  obtain ⟨d, i, h1, h2, h3, h4⟩ := T.out
  obtain ⟨e, hg⟩ := hA
  subst hq
  have hp' : tmps[p]?.getD undef = .pointer (some ⟨g, 0, none⟩) := by simpa using hp
  simp [results, h, hp', asAddr, run_loadVar_row w g e ty cs.toArray (0, 0) d hg h1 (by cases d <;> simp_all [isRowD]) (by rw [h3]; simp [h4, hl])]
def PutOk (f : VecM) (p : PidM) (w : World) (e : Ending) (w' : World) : Prop := e = .returned (.tuple #[vecV (setV f p.author p.seq.toNat), .bool true]) ∧ Below w.heap.size w w'
attribute [local irreducible] vecL authorOk numM nextF
set_option maxHeartbeats 4000000 in
set_option maxRecDepth 100000 in
theorem pput_any (f : VecM) (hf : ∀ a, f a ≤ 60000) (p : PidM) (w : World) (ha : authorOk p.author = true) (hp : nextF f p.author = p) : Calls Tryz.prog 42 #[vecV f, pidV p] w (PutOk f p w) := by
  have hpa := authorOk_pos ha
  have HF := Lib.hid hf
  have HP0 := Lib.hid hp
  have hne : ¬ p = noPid := fun e => by rw [e] at hpa; exact absurd hpa.1 (by decide)
  have e1 : ∀ w, (binOp .eql 25 (.agg #[.int .u8 (p.author.toNat : Int), .int .u16 (p.seq.toNat : Int)]) (.agg #[.int .u8 0, .int .u16 0])).run Tryz.prog w = .ok (.bool false) w := eql_pid p noPid false (by simp [hne])
  have e2 := neq_pid p p false (by simp)
  unfold pidV at e2
  clear hne
  have gd := fun p q xs ys w => guard_pid .eql p q xs ys w
  have gd2 := fun p q xs ys w => guard_pid .neq p q xs ys w
  clear hf hp
  unfold pidV
  go_enter Tryz.func42, Tryz.ntmps42
  go_upto_region 1 with (fail)
  refine code_gen (fun w0 => ∃ zs : List Value, zs.length = 64 ∧ Arr w0 (w.heap.size + 1 + 1) zs ∧ Arr w0 w.heap.size (vecL f) ∧ Arr w0 (w.heap.size + 1) [.int .u8 (p.author.toNat : Int), .int .u16 (p.seq.toNat : Int)] ∧ Below w.heap.size w w0)
    (by
      refine ⟨_, ?_, arr_new3 w (.cells (vecL f).toArray 91) (.cells #[.int .u8 (p.author.toNat : Int), .int .u16 (p.seq.toNat : Int)] 25) _ _, ((arr_new w (vecL f).toArray _).alloc _).alloc _, (arr_new2 w (.cells (vecL f).toArray 91) _ _).alloc _, ((below_new (w := w) _).alloc (by simp) _).alloc (by simp; omega) _⟩
      rfl) ?_
  rintro w0 ⟨zs, hzl, hR, hA, hP, hB⟩
  have HR := Lib.hid hR
  have HA := Lib.hid hA
  have HP := Lib.hid hP
  have HB := Lib.hid hB
  clear hR hA hP hB
  have p0 := HP.out.cell (j := 0) rfl
  have p1 := HP.out.cell (j := 1) rfl
  have sp := HP.out.lt
  have hcur : Below w0.heap.size w0 w0.drew := (Below.refl _ _).drew
  refine wp_region_lex (C := IsOver w0) 11 [] (by kernel_rfl) (by kernel_rfl) (isOver_of hcur) ?_
  simp only [List.take_succ_cons, List.take_zero, List.drop_succ_cons, List.drop_zero]
  repeat (first | (refine lex_skip rfl rfl ?_; simp only [Act.put, List.setIfInBounds_toArray, List.set_cons_succ, List.set_cons_zero]) | ((with_reducible refine lex_load_row rowVec rfl _ rfl rfl rfl (fun w' hw' => HA.out.over (isOver_below hw')) (vecL_len f) ?_); simp only [Act.put, List.setIfInBounds_toArray, List.set_cons_succ, List.set_cons_zero]) | (refine lex_one rfl ?_; go_big_quiet_step (fail); refine wpQuiet_nil ?_) | (refine lex_loud rfl ?_; go_wp2_with (first | (go_at_call 73; (with_reducible refine (pnext_any f HF.out p.author _).mono ?_); rintro e wA ⟨rfl, hb⟩; rw [HP0.out]; replace hcur := below_over hcur hcur.size hb; clear hb)); refine ⟨isOver_of hcur, ?_⟩))
  refine lex_end ?_
  have HB1 := Lib.hid (below_over HB.out HB.out.size hcur)
  have HA1 := Lib.hid (HA.out.over hcur)
  have HP1 := Lib.hid (HP.out.over hcur)
  have HR1 := Lib.hid (HR.out.over hcur)
  have HVS := Lib.hid (vecL_set f p.author p.seq.toNat hpa.1 hpa.2)
  have HVG := Lib.hid (vecL_get f p.author hpa.1 hpa.2)
  clear hcur p0 p1 sp
  have p0 := HP1.out.cell (j := 0) rfl
  have p1 := HP1.out.cell (j := 1) rfl
  have sp := HP1.out.lt
  have c0 := HA1.out.cell HVG.out
  have f0 := HA1.out.free (p.author.toNat - 1)
  have HA2 : Hid (Arr (wA.setCell ⟨w.heap.size, p.author.toNat - 1, none⟩ (.int .u16 (p.seq.toNat : Int))) w.heap.size (vecL (setV f p.author p.seq.toNat))) := by
    have := HA1.out.set (p.author.toNat - 1) (.int .u16 (p.seq.toNat : Int))
    rw [HVS.out] at this; exact this
  have HR2 : Hid (Arr (wA.setCell ⟨w.heap.size, p.author.toNat - 1, none⟩ (.int .u16 (p.seq.toNat : Int))) (w.heap.size + 1 + 1) zs) := HR1.out.set_other (a := ⟨w.heap.size, p.author.toNat - 1, none⟩) (by simp; omega) _
  have HB2 := Lib.hid (HB1.out.setCell (p := ⟨w.heap.size, p.author.toNat - 1, none⟩) (Nat.le_refl _) (.int .u16 (p.seq.toNat : Int)))
  obtain ⟨n, hn⟩ : ∃ n, p.author.toNat = n + 1 := ⟨p.author.toNat - 1, by omega⟩
  have HNn := Lib.hid hn
  have hn64 : n < 64 := by omega
  rw [hn] at p0
  rw [hn, Nat.add_sub_cancel] at c0 f0 HA2 HR2 HB2
  have sA := HA1.out.lt
  clear hn
  go_upto_region 4 with (fail)
  generalize hw3 : wA.setCell ⟨w.heap.size, n, none⟩ (.int .u16 (p.seq.toNat : Int)) = w3 at *
  clear hw3 p0 p1 sp c0 f0
  go_wp2_with (first | (refine wpList_load_arr rowVec rfl _ rfl _ _ HA2.out rfl (vecL_len _) ?_) | (refine wpList_put_arr rowVec rfl _ _ rfl _ _ _ HR2.out rfl rfl hzl (vecL_len _) (vecL_one _) ?_; intro w4 HR4 _ hb4 hs4))
  exact bodyPost_ret (v := .tuple #[.agg (vecL (setV f p.author p.seq.toNat)).toArray, .bool true]) (results_arr_slot rowVec rfl HR4 rfl (vecL_len _) rfl) rfl ⟨rfl, hb4 _ _ (by show w.heap.size ≤ w.heap.size + 1 + 1; omega) HB2.out⟩

def rOf (f : VecM) (a : UInt8) : Int := ((numM f a : Nat) : Int)
set_option maxHeartbeats 4000000 in
set_option maxRecDepth 100000 in
theorem rvof_any (f : VecM) (a : UInt8) (w : World) (hfa : f a ≤ 60000) : Calls Tryz.prog 117 #[vecV f, .int .u8 (a.toNat : Int)] w fun e w' => e = .returned (.int .i64 ((numM f a : Nat) : Int)) ∧ Below w.heap.size w w' := by
  have hal := a.toNat_lt
  have hfi : (f a : Int) ≤ 60000 := by omega
  have hf0 : (0 : Int) ≤ (f a : Int) := by omega
  have HA := Lib.hid (arr_new w (vecL f).toArray 91)
  have HB := Lib.hid (below_new (w := w) (.cells (vecL f).toArray 91))
  unfold vecV
  by_cases h1 : 1 ≤ a.toNat
  · have d1 : decide ((a.toNat : Int) < 1) = false := by simp; omega
    by_cases h2 : a.toNat ≤ 64
    · have d2 : decide ((64 : Int) < (a.toNat : Int)) = false := by simp; omega
      have HN := Lib.hid (num_yes f (authorOk_yes h1 h2))
      have hc := HA.out.cell (vecL_get f a h1 h2)
      have hs := HA.out.lt
      obtain ⟨n, hn⟩ : ∃ n, a.toNat = n + 1 := ⟨a.toNat - 1, by omega⟩
      rw [hn] at hc d1 d2 hal h1 h2 ⊢
      simp only [Nat.add_sub_cancel] at hc
      have HNn := Lib.hid hn
      clear hn
      go_enter Tryz.func117, Tryz.ntmps117
      go_wp2_with fail
      go_ret
      exact ⟨ret_int (by rw [HN.out]), HB.out⟩
    · have d2 : decide ((64 : Int) < (a.toNat : Int)) = true := by simp; omega
      have HN := Lib.hid (num_no f (authorOk_hi h2))
      go_enter Tryz.func117, Tryz.ntmps117
      go_wp2_with fail
      go_ret
      exact ⟨ret_int (by rw [HN.out]; rfl), HB.out⟩
  · have d1 : decide ((a.toNat : Int) < 1) = true := by simp; omega
    have HN := Lib.hid (num_no f (authorOk_lo h1))
    go_enter Tryz.func117, Tryz.ntmps117
    go_wp2_with fail
    go_ret
    exact ⟨ret_int (by rw [HN.out]; rfl), HB.out⟩
set_option maxHeartbeats 4000000 in
set_option maxRecDepth 100000 in
theorem rnext_any (f : VecM) (hf : ∀ a, f a ≤ 60000) (a : UInt8) (w : World) : Calls Tryz.prog 77 #[vecV f, .int .u8 (a.toNat : Int)] w fun e w' => e = .returned (pidV (nextF f a)) ∧ Below w.heap.size w w' := by
  have hfa := hf a
  have hal := a.toNat_lt
  have HA := Lib.hid ((arr_new w (vecL f).toArray 91).alloc (.cells #[.int .u8 0, .int .u16 0] 25))
  have HR := Lib.hid (arr_new2 w (.cells (vecL f).toArray 91) #[.int .u8 0, .int .u16 0] 25)
  have HB := Lib.hid ((below_new (w := w) (.cells (vecL f).toArray 91)).alloc (by simp) (.cells #[.int .u8 0, .int .u16 0] 25))
  clear hf
  go_enter Tryz.func77, Tryz.ntmps77
  go_upto_region 1 with (fail)
  generalize hw0 : (w.alloc (.cells (vecL f).toArray 91)).alloc (.cells #[.int .u8 0, .int .u16 0] 25) = w0 at *
  clear hw0
  by_cases h1 : 1 ≤ a.toNat
  · have d1 : decide ((a.toNat : Int) < 1) = false := by simp; omega
    by_cases h2 : a.toNat ≤ 64
    · have d2 : decide ((64 : Int) < (a.toNat : Int)) = false := by simp; omega
      have hk := authorOk_yes h1 h2
      have HK := Lib.hid hk
      have hnum := num_yes f hk
      go_wp2_with (with_reducible refine wpList_load_arrG rowVec rfl _ rfl _ _ HA.out rfl (vecL_len f) ?_)
      refine (rvof_any f a _ hfa).mono ?_
      rintro e w1 ⟨rfl, hb1⟩
      have HB1 := Lib.hid (below_over HB.out HB.out.size hb1)
      have HR1 := Lib.hid (HR.out.over hb1)
      have HA1 := Lib.hid (HA.out.over hb1)
      clear hb1
      rw [hnum]
      by_cases h3 : f a < 60000
      · have d3 : decide ((60000 : Int) ≤ (f a : Int)) = false := by simp; omega
        have hfi : (f a : Int) < 60000 := by omega
        have hf0 : (0 : Int) ≤ (f a : Int) := by omega
        have HN := Lib.hid (pidV_next hk h3)
        clear hk h3
        go_wp2_with (refine wpList_load_arr rowVec rfl _ rfl _ _ HA1.out rfl (vecL_len f) ?_)
        refine (rvof_any f a _ hfa).mono ?_
        rintro e w2 ⟨rfl, hb2⟩
        rw [hnum]
        have HB2 := Lib.hid (below_over HB1.out HB1.out.size hb2)
        have HR2 := Lib.hid (HR1.out.over hb2)
        clear hb2 hnum
        have r0 := HR2.out.cell (j := 0) rfl
        have r1 := HR2.out.cell (j := 1) rfl
        have f0 := HR2.out.free 0
        have f1 := HR2.out.free 1
        have sr := HR2.out.lt
        have HF := Lib.hid ((HR2.out.set 0 (.int .u8 (a.toNat : Int))).set 1 (.int .u16 ((f a : Int) + 1)))
        have HBF := Lib.hid ((HB2.out.setCell (p := ⟨w.heap.size + 1, 0, none⟩) (by simp) (.int .u8 (a.toNat : Int))).setCell (p := ⟨w.heap.size + 1, 1, none⟩) (by simp) (.int .u16 ((f a : Int) + 1)))
        go_wp2_with fail
        exact bodyPost_ret (v := .agg #[.int .u8 (a.toNat : Int), .int .u16 ((f a : Int) + 1)]) (results_arr rowPid rfl HF.out rfl rfl) rfl ⟨by rw [HN.out], HBF.out⟩
      · have d3 : decide ((60000 : Int) ≤ (f a : Int)) = true := by simp; omega
        have HN := Lib.hid (nextF_no2 h3)
        have r0 := HR1.out.cell (j := 0) rfl
        have r1 := HR1.out.cell (j := 1) rfl
        have f0 := HR1.out.free 0
        have f1 := HR1.out.free 1
        have sr := HR1.out.lt
        have HF := Lib.hid ((HR1.out.set 0 (.int .u8 0)).set 1 (.int .u16 0))
        have HBF := Lib.hid ((HB1.out.setCell (p := ⟨w.heap.size + 1, 0, none⟩) (by simp) (.int .u8 0)).setCell (p := ⟨w.heap.size + 1, 1, none⟩) (by simp) (.int .u16 0))
        clear hk hfa h3 hnum
        go_wp2_with fail
        exact bodyPost_ret (v := .agg #[.int .u8 0, .int .u16 0]) (results_arr rowPid rfl HF.out rfl rfl) rfl ⟨by rw [HN.out]; rfl, HBF.out⟩
    · have d2 : decide ((64 : Int) < (a.toNat : Int)) = true := by simp; omega
      have HN := Lib.hid (nextF_no1 (f := f) (authorOk_hi h2))
      have r0 := HR.out.cell (j := 0) rfl
      have r1 := HR.out.cell (j := 1) rfl
      have f0 := HR.out.free 0
      have f1 := HR.out.free 1
      have sr := HR.out.lt
      have HF := Lib.hid ((HR.out.set 0 (.int .u8 0)).set 1 (.int .u16 0))
      have HBF := Lib.hid ((HB.out.setCell (p := ⟨w.heap.size + 1, 0, none⟩) (by simp) (.int .u8 0)).setCell (p := ⟨w.heap.size + 1, 1, none⟩) (by simp) (.int .u16 0))
      clear hfa
      go_wp2_with fail
      exact bodyPost_ret (v := .agg #[.int .u8 0, .int .u16 0]) (results_arr rowPid rfl HF.out rfl rfl) rfl ⟨by rw [HN.out]; rfl, HBF.out⟩
  · have d1 : decide ((a.toNat : Int) < 1) = true := by simp; omega
    have HN := Lib.hid (nextF_no1 (f := f) (authorOk_lo h1))
    have r0 := HR.out.cell (j := 0) rfl
    have r1 := HR.out.cell (j := 1) rfl
    have f0 := HR.out.free 0
    have f1 := HR.out.free 1
    have sr := HR.out.lt
    have HF := Lib.hid ((HR.out.set 0 (.int .u8 0)).set 1 (.int .u16 0))
    have HBF := Lib.hid ((HB.out.setCell (p := ⟨w.heap.size + 1, 0, none⟩) (by simp) (.int .u8 0)).setCell (p := ⟨w.heap.size + 1, 1, none⟩) (by simp) (.int .u16 0))
    clear hfa
    go_wp2_with fail
    exact bodyPost_ret (v := .agg #[.int .u8 0, .int .u16 0]) (results_arr rowPid rfl HF.out rfl rfl) rfl ⟨by rw [HN.out]; rfl, HBF.out⟩
set_option maxHeartbeats 4000000 in
set_option maxRecDepth 100000 in
theorem rput_any (f : VecM) (hf : ∀ a, f a ≤ 60000) (p : PidM) (w : World) (ha : authorOk p.author = true) (hp : nextF f p.author = p) : Calls Tryz.prog 118 #[vecV f, pidV p] w (PutOk f p w) := by
  have hpa := authorOk_pos ha
  have HF := Lib.hid hf
  have HP0 := Lib.hid hp
  have e2 := neq_pid p p false (by simp)
  unfold pidV at e2
  have gd := fun p q xs ys w => guard_pid .eql p q xs ys w
  have gd2 := fun p q xs ys w => guard_pid .neq p q xs ys w
  clear hf hp
  unfold pidV
  go_enter Tryz.func118, Tryz.ntmps118
  go_upto_region 1 with (fail)
  refine code_gen (fun w0 => ∃ zs : List Value, zs.length = 64 ∧ Arr w0 (w.heap.size + 1 + 1) zs ∧ Arr w0 w.heap.size (vecL f) ∧ Arr w0 (w.heap.size + 1) [.int .u8 (p.author.toNat : Int), .int .u16 (p.seq.toNat : Int)] ∧ Below w.heap.size w w0)
    (by
      refine ⟨_, ?_, arr_new3 w (.cells (vecL f).toArray 91) (.cells #[.int .u8 (p.author.toNat : Int), .int .u16 (p.seq.toNat : Int)] 25) _ _, ((arr_new w (vecL f).toArray _).alloc _).alloc _, (arr_new2 w (.cells (vecL f).toArray 91) _ _).alloc _, ((below_new (w := w) _).alloc (by simp) _).alloc (by simp; omega) _⟩
      rfl) ?_
  rintro w0 ⟨zs, hzl, hR, hA, hP, hB⟩
  have HR := Lib.hid hR
  have HA := Lib.hid hA
  have HP := Lib.hid hP
  have HB := Lib.hid hB
  clear hR hA hP hB
  have p0 := HP.out.cell (j := 0) rfl
  have p1 := HP.out.cell (j := 1) rfl
  have sp := HP.out.lt
  have d1 : decide ((p.author.toNat : Int) < 1) = false := by simp; omega
  have d2 : decide ((64 : Int) < (p.author.toNat : Int)) = false := by simp; omega
  have hcur : Below w0.heap.size w0 w0.drew := (Below.refl _ _).drew
  refine wp_region_lex (C := IsOver w0) 16 [] (by kernel_rfl) (by kernel_rfl) (isOver_of hcur) ?_
  simp only [List.take_succ_cons, List.take_zero, List.drop_succ_cons, List.drop_zero]
  repeat (first | (refine lex_skip rfl rfl ?_; simp only [Act.put, List.setIfInBounds_toArray, List.set_cons_succ, List.set_cons_zero]) | ((with_reducible refine lex_load_row rowVec rfl _ rfl rfl rfl (fun w' hw' => HA.out.over (isOver_below hw')) (vecL_len f) ?_); simp only [Act.put, List.setIfInBounds_toArray, List.set_cons_succ, List.set_cons_zero]) | (refine lex_one rfl ?_; go_big_quiet_step (fail); refine wpQuiet_nil ?_) | (refine lex_loud rfl ?_; go_wp2_with (first | (go_at_call 77; (with_reducible refine (rnext_any f HF.out p.author _).mono ?_); rintro e wA ⟨rfl, hb⟩; rw [HP0.out]; replace hcur := below_over hcur hcur.size hb; clear hb)); refine ⟨isOver_of hcur, ?_⟩))
  refine lex_end ?_
  have HB1 := Lib.hid (below_over HB.out HB.out.size hcur)
  have HA1 := Lib.hid (HA.out.over hcur)
  have HP1 := Lib.hid (HP.out.over hcur)
  have HR1 := Lib.hid (HR.out.over hcur)
  have HVS := Lib.hid (vecL_set f p.author p.seq.toNat hpa.1 hpa.2)
  have HVG := Lib.hid (vecL_get f p.author hpa.1 hpa.2)
  clear hcur p0 p1 sp
  have p0 := HP1.out.cell (j := 0) rfl
  have p1 := HP1.out.cell (j := 1) rfl
  have sp := HP1.out.lt
  have c0 := HA1.out.cell HVG.out
  have f0 := HA1.out.free (p.author.toNat - 1)
  have HA2 : Hid (Arr (wA.setCell ⟨w.heap.size, p.author.toNat - 1, none⟩ (.int .u16 (p.seq.toNat : Int))) w.heap.size (vecL (setV f p.author p.seq.toNat))) := by
    have := HA1.out.set (p.author.toNat - 1) (.int .u16 (p.seq.toNat : Int))
    rw [HVS.out] at this; exact this
  have HR2 : Hid (Arr (wA.setCell ⟨w.heap.size, p.author.toNat - 1, none⟩ (.int .u16 (p.seq.toNat : Int))) (w.heap.size + 1 + 1) zs) := HR1.out.set_other (a := ⟨w.heap.size, p.author.toNat - 1, none⟩) (by simp; omega) _
  have HB2 := Lib.hid (HB1.out.setCell (p := ⟨w.heap.size, p.author.toNat - 1, none⟩) (Nat.le_refl _) (.int .u16 (p.seq.toNat : Int)))
  obtain ⟨n, hn⟩ : ∃ n, p.author.toNat = n + 1 := ⟨p.author.toNat - 1, by omega⟩
  have HNn := Lib.hid hn
  have hn64 : n < 64 := by omega
  rw [hn] at p0
  rw [hn, Nat.add_sub_cancel] at c0 f0 HA2 HR2 HB2
  have sA := HA1.out.lt
  clear hn
  go_upto_region 4 with (fail)
  generalize hw3 : wA.setCell ⟨w.heap.size, n, none⟩ (.int .u16 (p.seq.toNat : Int)) = w3 at *
  clear hw3 p0 p1 sp c0 f0
  go_wp2_with (first | (refine wpList_load_arr rowVec rfl _ rfl _ _ HA2.out rfl (vecL_len _) ?_) | (refine wpList_put_arr rowVec rfl _ _ rfl _ _ _ HR2.out rfl rfl hzl (vecL_len _) (vecL_one _) ?_; intro w4 HR4 _ hb4 hs4))
  exact bodyPost_ret (v := .tuple #[.agg (vecL (setV f p.author p.seq.toNat)).toArray, .bool true]) (results_arr_slot rowVec rfl HR4 rfl (vecL_len _) rfl) rfl ⟨rfl, hb4 _ _ (by show w.heap.size ≤ w.heap.size + 1 + 1; omega) HB2.out⟩
end Go.Proofs.YtfciedmmgddgpaaGreatDoor
