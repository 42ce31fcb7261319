/- Contract of (*Graph).Check. -/
import Derived.Test.YtfciedmmgddgpaaGreatDoorZGraphC
namespace Go.Proofs.YtfciedmmgddgpaaGreatDoor
open Go Go.RowKit

theorem agg_vec (w : World) : (isAgg 91).run Tryz.prog w = .ok true w := by kernel_rfl
theorem size_vec (w : World) : (Go.sizeOf 91).run Tryz.prog w = .ok 64 w := by kernel_rfl
def refsO (vs : VidM → Option VertM) (id : PidM) (ops : List OpM) (o : OpM) : Bool := refsK (lookX vs id ops o.at') (lookX vs id ops o.to) o.kind.toNat
def checkX (f : VecM) (vs : VidM → Option VertM) (id : PidM) (deps : List PidM) (ops : List OpM) : Nat :=
  if goodQ id deps ops = false then 1 else if hasF f id = true then 7 else if ¬ nextF f id.author = id then 9
  else if deps.any (fun d => !hasF f d) = true then 9 else if ops.any (fun o => !refsO vs id ops o) = true then 10 else 0
section
variable {f : VecM} {vs : VidM → Option VertM} {id : PidM} {deps : List PidM} {ops : List OpM}
theorem chk1 (h : goodQ id deps ops = false) : checkX f vs id deps ops = 1 := by unfold checkX; rw [if_pos h]
theorem chk2 (h : goodQ id deps ops = true) (h2 : hasF f id = true) : checkX f vs id deps ops = 7 := by unfold checkX; rw [if_neg (by simp [h]), if_pos h2]
theorem chk3 (h : goodQ id deps ops = true) (h2 : hasF f id = false) (h3 : ¬ nextF f id.author = id) : checkX f vs id deps ops = 9 := by unfold checkX; rw [if_neg (by simp [h]), if_neg (by simp [h2]), if_pos h3]
/-- what is known behind the three tests -/
def Chk3 (f : VecM) (id : PidM) (deps : List PidM) (ops : List OpM) : Prop := goodQ id deps ops = true ∧ hasF f id = false ∧ nextF f id.author = id
theorem chk4 (h : Chk3 f id deps ops) {k : Nat} {d : PidM} (hd : deps[k]? = some d) (h4 : hasF f d = false) : checkX f vs id deps ops = 9 := by
  obtain ⟨h, h2, h3⟩ := h
  unfold checkX; rw [if_neg (by simp [h]), if_neg (by simp [h2]), if_neg (by simp [h3]), if_pos (List.any_eq_true.2 ⟨d, List.mem_of_getElem? hd, by simp [h4]⟩)]
theorem chk5 (h : Chk3 f id deps ops) (h4 : (deps.take deps.length).any (fun d => !hasF f d) = false) {k : Nat} {o : OpM} (ho : ops[k]? = some o) (h5 : refsO vs id ops o = false) : checkX f vs id deps ops = 10 := by
  obtain ⟨h, h2, h3⟩ := h
  rw [List.take_length] at h4
  unfold checkX; rw [if_neg (by simp [h]), if_neg (by simp [h2]), if_neg (by simp [h3]), if_neg (by rw [h4]; simp), if_pos (List.any_eq_true.2 ⟨o, List.mem_of_getElem? ho, by simp [h5]⟩)]
theorem chk6 (h : Chk3 f id deps ops) (h4 : (deps.take deps.length).any (fun d => !hasF f d) = false) (h5 : (ops.take ops.length).any (fun o => !refsO vs id ops o) = false) : checkX f vs id deps ops = 0 := by
  obtain ⟨h, h2, h3⟩ := h
  rw [List.take_length] at h4 h5
  unfold checkX; rw [if_neg (by simp [h]), if_neg (by simp [h2]), if_neg (by simp [h3]), if_neg (by rw [h4]; simp), if_neg (by rw [h5]; simp)]
end
attribute [local irreducible] vecL lookX madeX optV refsK isK goodQ hasF nextF checkX refsO
set_option maxHeartbeats 16000000 in
set_option maxRecDepth 100000 in
theorem gcheck_any (b bv be n : Nat) (f : VecM) (vs : VidM → Option VertM) (es : EdgeM → Option VidM) (id : PidM) (dv ov : Value) (deps : List PidM) (ops : List OpM) (w : World) (hg : GrW w b bv be n f vs es) (hf : ∀ a, f a ≤ 60000) (hd : GRow encPid 2 w dv deps) (hv : GRow encOp 8 w ov ops) (hl : ops.length ≤ 40000) (hz : ∀ o ∈ ops, o.text.size ≤ maxLen) :
    Calls Tryz.prog 41 #[.pointer (some ⟨b, 0, none⟩), patV id dv ov] w fun e w' => e = .returned (.int .i64 ((checkX f vs id deps ops : Nat) : Int)) ∧ Below w.heap.size w w' := by
  have HV := Lib.hid hv
  have HD := Lib.hid hd
  have HF := Lib.hid hf
  have HZ := Lib.hid hz
  obtain ⟨a, cap, rfl, h1, h2, hc⟩ := hv.at encOp_len
  obtain ⟨ad, capd, rfl, h1d, h2d, hcd⟩ := hd.at encPid_len
  unfold maxLen at h2 h2d
  have HC := Lib.hid hc
  have HCd := Lib.hid hcd
  have HG0 := Lib.hid hg
  have HP := Lib.hid (arr_new w #[.int .u8 (id.author.toNat : Int), .int .u16 (id.seq.toNat : Int), .slice ad deps.length capd, .slice a ops.length cap] 51)
  have HB := Lib.hid (below_new (w := w) (.cells #[.int .u8 (id.author.toNat : Int), .int .u16 (id.seq.toNat : Int), .slice ad deps.length capd, .slice a ops.length cap] 51))
  have gd := fun p q xs ys w => guard_pid .neq p q xs ys w
  clear hv hc hg hd hcd hf hz
  unfold patV
  go_enter Tryz.func41, Tryz.ntmps41
  go_upto_region 1 with (fail)
  generalize hw0 : w.alloc (.cells #[.int .u8 (id.author.toNat : Int), .int .u16 (id.seq.toNat : Int), .slice ad deps.length capd, .slice a ops.length cap] 51) = w0 at *
  clear hw0
  have p0 := HP.out.cell (j := 0) rfl
  have p1 := HP.out.cell (j := 1) rfl
  have p2 := HP.out.cell (j := 2) rfl
  have p3 := HP.out.cell (j := 3) rfl
  have sp := HP.out.lt
  cases hgq : goodQ id deps ops with
  | false =>
    have HK := Lib.hid hgq
    have HN := Lib.hid (chk1 (f := f) (vs := vs) hgq)
    clear hgq
    go_upto_region 2 with (first | (go_at_call 40; (with_reducible refine (pgood_any id _ _ deps ops _ (HD.out.over HB.out) (HV.out.over HB.out) hl HZ.out).mono ?_); rintro e w1 ⟨rfl, hb⟩; rw [HK.out]))
    have HB1 := Lib.hid (below_over HB.out HB.out.size hb)
    clear hb
    go_wp2_with fail
    go_ret
    exact ⟨(ret_val (congrArg (fun n : Nat => Value.int .i64 (n : Int)) (HN.out).symm)), below_over HB1.out HB1.out.size ((Below.refl _ _))⟩
  | true =>
    have HK := Lib.hid hgq
    clear hgq
    go_upto_region 3 with (first | (go_at_call 40; (with_reducible refine (pgood_any id _ _ deps ops _ (HD.out.over HB.out) (HV.out.over HB.out) hl HZ.out).mono ?_); rintro e w1 ⟨rfl, hb⟩; rw [HK.out]))
    have HB1 := Lib.hid (below_over HB.out HB.out.size hb)
    have HP1 := Lib.hid (HP.out.over hb)
    have HG := Lib.hid (HG0.out.over HB1.out)
    have HGA : Hid (Arr w1 b (vecL f ++ [.map (some bv), .map (some be)])) := HG.out.arr
    have HV1 := Lib.hid (HV.out.over HB1.out)
    clear hb p0 p1 p2 p3 sp HP HG0 HV HD
    have p0 := HP1.out.cell (j := 0) rfl
    have p1 := HP1.out.cell (j := 1) rfl
    have p2 := HP1.out.cell (j := 2) rfl
    have p3 := HP1.out.cell (j := 3) rfl
    have sp := HP1.out.lt
    have hcur : Below w1.heap.size w1 w1.drew := (Below.refl _ _).drew
    refine wp_region_lex (C := IsOver w1) 8 [] (by kernel_rfl) (by kernel_rfl) (isOver_of hcur) ?_
    simp only [List.take_succ_cons, List.take_zero, List.drop_succ_cons, List.drop_zero]
    repeat (first | (refine lex_skip rfl rfl ?_; simp only [Act.put, List.setIfInBounds_toArray, List.set_cons_succ, List.set_cons_zero]) | ((with_reducible refine lex_load_part agg_vec size_vec rfl _ rfl rfl rfl (fun w' hw' => HGA.out.over (below_over (Below.refl w1.heap.size w1) (Below.refl w1.heap.size w1).size (isOver_below hw'))) (vecL_len f) ?_); simp only [Act.put, List.setIfInBounds_toArray, List.set_cons_succ, List.set_cons_zero]) | (refine lex_one rfl ?_; go_big_quiet_step (fail); refine wpQuiet_nil ?_) | (refine lex_loud rfl ?_; go_wp2_with (first | (go_at_call 72; (with_reducible refine (phas_any f id _).mono ?_); rintro e w2 ⟨rfl, hb⟩; replace hcur := below_over hcur hcur.size hb; clear hb)); refine ⟨isOver_of hcur, ?_⟩))
    refine lex_end ?_
    have HC2 := Lib.hid hcur
    clear hcur
    cases hh : hasF f id with
    | true =>
      have HN := Lib.hid (chk2 (vs := vs) HK.out hh)
      go_wp2_with fail
      go_ret
      exact ⟨(ret_val (congrArg (fun n : Nat => Value.int .i64 (n : Int)) (HN.out).symm)), below_over HB1.out HB1.out.size (HC2.out)⟩
    | false =>
      have HH := Lib.hid hh
      have HP2 := Lib.hid (HP1.out.over HC2.out)
      clear p0 p1 p2 p3 sp
      have p0 := HP2.out.cell (j := 0) rfl
      have p1 := HP2.out.cell (j := 1) rfl
      have p2 := HP2.out.cell (j := 2) rfl
      have p3 := HP2.out.cell (j := 3) rfl
      have sp := HP2.out.lt
      go_upto_region 5 with (fail)
      clear hh
      by_cases hn : nextF f id.author = id
      · have e1 := neq_pid (nextF f id.author) id false (by simp [hn])
        unfold pidV at e1
        have HN := Lib.hid hn
        clear hn
        have hcur : Below w2.heap.size w2 w2.drew := (Below.refl _ _).drew
        refine wp_region_lex (C := IsOver w2) 12 [] (by kernel_rfl) (by kernel_rfl) (isOver_of hcur) ?_
        simp only [List.take_succ_cons, List.take_zero, List.drop_succ_cons, List.drop_zero]
        repeat (first | (refine lex_skip rfl rfl ?_; simp only [Act.put, List.setIfInBounds_toArray, List.set_cons_succ, List.set_cons_zero]) | ((with_reducible refine lex_load_part agg_vec size_vec rfl _ rfl rfl rfl (fun w' hw' => HGA.out.over (below_over HC2.out HC2.out.size (isOver_below hw'))) (vecL_len f) ?_); simp only [Act.put, List.setIfInBounds_toArray, List.set_cons_succ, List.set_cons_zero]) | (refine lex_one rfl ?_; go_big_quiet_step (fail); refine wpQuiet_nil ?_) | (refine lex_loud rfl ?_; go_wp2_with (first | (go_at_call 73; (with_reducible refine (pnext_any f HF.out id.author _).mono ?_); rintro e w3 ⟨rfl, hb⟩; replace hcur := below_over hcur hcur.size hb; clear hb)); refine ⟨isOver_of hcur, ?_⟩))
        refine lex_end ?_
        have HC3 := Lib.hid (below_over HC2.out HC2.out.size hcur)
        have H3 : Hid (Chk3 f id deps ops) := ⟨HK.out, HH.out, HN.out⟩
        clear hcur e1 HN HH HK
        have HP3 := Lib.hid (HP1.out.over HC3.out)
        clear p0 p1 p2 p3 sp HP2 HC2
        have p0 := HP3.out.cell (j := 0) rfl
        have p1 := HP3.out.cell (j := 1) rfl
        have p2 := HP3.out.cell (j := 2) rfl
        have p3 := HP3.out.cell (j := 3) rfl
        have sp := HP3.out.lt
        go_wp2_with fail
        go_loopw [40] (fun v40 wr => ∃ k : Nat, k ≤ deps.length ∧ v40 = .int .i64 k ∧ Hid ((deps.take k).any (fun d => !hasF f d) = false) ∧ Below w3.heap.size w3 wr) (fun v40 _ => deps.length - (intOf v40).toNat)
        case atStart => exact ⟨0, by omega, rfl, (by show _ = _; simp), Below.refl _ _⟩
        case round =>
          obtain ⟨k, hk, rfl, HM, hbl⟩ := hrel
          have HCr := Lib.hid (below_over HC3.out HC3.out.size hbl)
          have HBr := Lib.hid (below_over HB1.out HB1.out.size HCr.out)
          clear p0 p1 p2 p3 sp
          by_cases hlt : k < deps.length
          · obtain ⟨bd, offd, rfl, sbd, hcb⟩ := HCd.out.resolve_left (by omega)
            obtain ⟨d, hdk⟩ := get_of_lt hlt
            have HX := Lib.hid hdk
            have HRd := Lib.hid (hcb k d hdk wr HBr.out)
            clear hcb hdk
            have d0 : wr.cell? ⟨bd, offd + k * 2, none⟩ = some (.int .u8 (d.author.toNat : Int)) := (HRd.out).2 0 _ rfl
            have d1 : wr.cell? ⟨bd, offd + k * 2 + 1, none⟩ = some (.int .u16 (d.seq.toNat : Int)) := (HRd.out).2 1 _ rfl
            have sd := HRd.out.1
            go_upto_region 10 with (fail)
            have HA4 := Lib.hid (arr_new wr #[.int .u8 (d.author.toNat : Int), .int .u16 (d.seq.toNat : Int)] 25)
            have hbx := hbl.alloc hbl.size (.cells #[.int .u8 (d.author.toNat : Int), .int .u16 (d.seq.toNat : Int)] 25)
            have HC4 := Lib.hid (below_over HC3.out HC3.out.size hbx)
            generalize hw4 : wr.alloc (.cells #[.int .u8 (d.author.toNat : Int), .int .u16 (d.seq.toNat : Int)] 25) = w4 at *
            clear hw4 d0 d1 sd
            have d0 := HA4.out.cell (j := 0) rfl
            have d1 := HA4.out.cell (j := 1) rfl
            have sd := HA4.out.lt
            have hcur : Below w4.heap.size w4 w4.drew := (Below.refl _ _).drew
            refine wp_region_lex (C := IsOver w4) 7 [] (by kernel_rfl) (by kernel_rfl) (isOver_of hcur) ?_
            simp only [List.take_succ_cons, List.take_zero, List.drop_succ_cons, List.drop_zero]
            repeat (first | (refine lex_skip rfl rfl ?_; simp only [Act.put, List.setIfInBounds_toArray, List.set_cons_succ, List.set_cons_zero]) | ((with_reducible refine lex_load_part agg_vec size_vec rfl _ rfl rfl rfl (fun w' hw' => HGA.out.over (below_over HC4.out HC4.out.size (isOver_below hw'))) (vecL_len f) ?_); simp only [Act.put, List.setIfInBounds_toArray, List.set_cons_succ, List.set_cons_zero]) | (refine lex_one rfl ?_; go_big_quiet_step (fail); refine wpQuiet_nil ?_) | (refine lex_loud rfl ?_; go_wp2_with (first | (go_at_call 72; (with_reducible refine (phas_any f d _).mono ?_); rintro e w5 ⟨rfl, hb⟩; replace hcur := below_over hcur hcur.size hb; clear hb)); refine ⟨isOver_of hcur, ?_⟩))
            refine lex_end ?_
            have hb5 := below_over hbx hbx.size hcur
            have HC5 := Lib.hid (below_over HC4.out HC4.out.size hcur)
            clear hcur hbx
            cases hh : hasF f d with
            | true =>
              have HN := Lib.hid (any_step HM.out HX.out (by rw [hh]; rfl))
              go_wp2_with fail
              go_roundw
              case rel => exact ⟨k + 1, hlt, by go_num, HN, hb5⟩
              case measure => simp [intOf]; omega
            | false =>
              have HN := Lib.hid (chk4 (vs := vs) H3.out HX.out hh)
              go_wp2_with fail
              go_ret
              exact ⟨(ret_val (congrArg (fun n : Nat => Value.int .i64 (n : Int)) (HN.out).symm)), below_over HB1.out HB1.out.size (HC5.out)⟩
          · obtain rfl : k = deps.length := by omega
            have HM1 := Lib.hid HM.out
            have HPr := Lib.hid (HP1.out.over HCr.out)
            rename World => w6
            clear HM hbl hlt hk
            have p0 := HPr.out.cell (j := 0) rfl
            have p1 := HPr.out.cell (j := 1) rfl
            have p2 := HPr.out.cell (j := 2) rfl
            have p3 := HPr.out.cell (j := 3) rfl
            have sp := HPr.out.lt
            go_wp2_with fail
            go_loopw [55] (fun v55 wr => ∃ k : Nat, k ≤ ops.length ∧ v55 = .int .i64 k ∧ Hid ((ops.take k).any (fun o => !refsO vs id ops o) = false) ∧ Below w6.heap.size w6 wr) (fun v55 _ => ops.length - (intOf v55).toNat)
            case atStart => exact ⟨0, by omega, rfl, (by show _ = _; simp), Below.refl _ _⟩
            case round =>
              obtain ⟨k, hk, rfl, HM, hbl⟩ := hrel
              have HC7 := Lib.hid (below_over HCr.out HCr.out.size hbl)
              have HB7 := Lib.hid (below_over HB1.out HB1.out.size HC7.out)
              clear p0 p1 p2 p3 sp
              by_cases hlt : k < ops.length
              · obtain ⟨bo, offo, rfl, sbo, hcb⟩ := HC.out.resolve_left (by omega)
                obtain ⟨o, hok⟩ := get_of_lt hlt
                have HX := Lib.hid hok
                have HRo := Lib.hid (hcb k o hok wr HB7.out)
                clear hcb hok
                have o0 : wr.cell? ⟨bo, offo + k * 8, none⟩ = some (.int .u8 (o.kind.toNat : Int)) := (HRo.out).2 0 _ rfl
                have o1 : wr.cell? ⟨bo, offo + k * 8 + 1, none⟩ = some (.int .u8 (o.at'.pid.author.toNat : Int)) := (HRo.out).2 1 _ rfl
                have o2 : wr.cell? ⟨bo, offo + k * 8 + 2, none⟩ = some (.int .u16 (o.at'.pid.seq.toNat : Int)) := (HRo.out).2 2 _ rfl
                have o3 : wr.cell? ⟨bo, offo + k * 8 + 3, none⟩ = some (.int .u8 (o.at'.n.toNat : Int)) := (HRo.out).2 3 _ rfl
                have o4 : wr.cell? ⟨bo, offo + k * 8 + 4, none⟩ = some (.int .u8 (o.to.pid.author.toNat : Int)) := (HRo.out).2 4 _ rfl
                have o5 : wr.cell? ⟨bo, offo + k * 8 + 5, none⟩ = some (.int .u16 (o.to.pid.seq.toNat : Int)) := (HRo.out).2 5 _ rfl
                have o6 : wr.cell? ⟨bo, offo + k * 8 + 6, none⟩ = some (.int .u8 (o.to.n.toNat : Int)) := (HRo.out).2 6 _ rfl
                have o7 : wr.cell? ⟨bo, offo + k * 8 + 7, none⟩ = some (.string o.text) := (HRo.out).2 7 _ rfl
                have so := HRo.out.1
                go_upto_region 16 with (fail)
                have HA8 := Lib.hid (arr_new wr #[.int .u8 (o.kind.toNat : Int), .int .u8 (o.at'.pid.author.toNat : Int), .int .u16 (o.at'.pid.seq.toNat : Int), .int .u8 (o.at'.n.toNat : Int), .int .u8 (o.to.pid.author.toNat : Int), .int .u16 (o.to.pid.seq.toNat : Int), .int .u8 (o.to.n.toNat : Int), .string o.text] 56)
                have hbx := hbl.alloc hbl.size (.cells #[.int .u8 (o.kind.toNat : Int), .int .u8 (o.at'.pid.author.toNat : Int), .int .u16 (o.at'.pid.seq.toNat : Int), .int .u8 (o.at'.n.toNat : Int), .int .u8 (o.to.pid.author.toNat : Int), .int .u16 (o.to.pid.seq.toNat : Int), .int .u8 (o.to.n.toNat : Int), .string o.text] 56)
                have HC8 := Lib.hid (below_over HCr.out HCr.out.size hbx)
                have HP8 := Lib.hid (HP1.out.over HC8.out)
                have HG8 := Lib.hid (HG.out.over HC8.out)
                have HV8 := Lib.hid (HV1.out.over HC8.out)
                generalize hw8 : wr.alloc (.cells #[.int .u8 (o.kind.toNat : Int), .int .u8 (o.at'.pid.author.toNat : Int), .int .u16 (o.at'.pid.seq.toNat : Int), .int .u8 (o.at'.n.toNat : Int), .int .u8 (o.to.pid.author.toNat : Int), .int .u16 (o.to.pid.seq.toNat : Int), .int .u8 (o.to.n.toNat : Int), .string o.text] 56) = w8 at *
                clear hw8 o0 o1 o2 o3 o4 o5 o6 o7 so
                have o0 := HA8.out.cell (j := 0) rfl
                have o1 := HA8.out.cell (j := 1) rfl
                have o2 := HA8.out.cell (j := 2) rfl
                have o3 := HA8.out.cell (j := 3) rfl
                have o4 := HA8.out.cell (j := 4) rfl
                have o5 := HA8.out.cell (j := 5) rfl
                have o6 := HA8.out.cell (j := 6) rfl
                have o7 := HA8.out.cell (j := 7) rfl
                have so := HA8.out.lt
                have p0 := HP8.out.cell (j := 0) rfl
                have p1 := HP8.out.cell (j := 1) rfl
                have p2 := HP8.out.cell (j := 2) rfl
                have p3 := HP8.out.cell (j := 3) rfl
                have sp := HP8.out.lt
                cases hr : refsO vs id ops o with
                | true =>
                  have HR : Hid (refsK (lookX vs id ops o.at') (lookX vs id ops o.to) o.kind.toNat = true) := Lib.hid (by unfold refsO at hr; exact hr)
                  have HN := Lib.hid (any_step HM.out HX.out (by rw [hr]; rfl))
                  clear hr
                  go_wp2_with (first | (go_at_call 74; (with_reducible refine (grefs_any b bv be n f vs es id _ _ ops o _ (HG8.out.over (Below.refl _ _)) HV8.out hl).mono ?_); rintro e w9 ⟨rfl, hb⟩; rw [HR.out]))
                  go_roundw
                  case rel => exact ⟨k + 1, hlt, by go_num, HN, below_over hbx hbx.size hb⟩
                  case measure => simp [intOf]; omega
                | false =>
                  have HR : Hid (refsK (lookX vs id ops o.at') (lookX vs id ops o.to) o.kind.toNat = false) := Lib.hid (by unfold refsO at hr; exact hr)
                  have HN := Lib.hid (chk5 (vs := vs) H3.out HM1.out HX.out hr)
                  clear hr
                  go_wp2_with (first | (go_at_call 74; (with_reducible refine (grefs_any b bv be n f vs es id _ _ ops o _ (HG8.out.over (Below.refl _ _)) HV8.out hl).mono ?_); rintro e w9 ⟨rfl, hb⟩; rw [HR.out]))
                  go_wp2_with fail
                  go_ret
                  exact ⟨(ret_val (congrArg (fun n : Nat => Value.int .i64 (n : Int)) (HN.out).symm)), below_over HB1.out HB1.out.size (below_over HC8.out HC8.out.size hb)⟩
              · obtain rfl : k = ops.length := by omega
                have HN := Lib.hid (chk6 (vs := vs) H3.out HM1.out HM.out)
                clear HM hlt hk
                go_wp2_with fail
                go_ret
                exact ⟨(ret_val (congrArg (fun n : Nat => Value.int .i64 (n : Int)) (HN.out).symm)), below_over HB1.out HB1.out.size (HC7.out)⟩
      · have e1 := neq_pid (nextF f id.author) id true (by simp [hn])
        unfold pidV at e1
        have HN := Lib.hid (chk3 (vs := vs) HK.out HH.out hn)
        clear hn
        have hcur : Below w2.heap.size w2 w2.drew := (Below.refl _ _).drew
        refine wp_region_lex (C := IsOver w2) 12 [] (by kernel_rfl) (by kernel_rfl) (isOver_of hcur) ?_
        simp only [List.take_succ_cons, List.take_zero, List.drop_succ_cons, List.drop_zero]
        repeat (first | (refine lex_skip rfl rfl ?_; simp only [Act.put, List.setIfInBounds_toArray, List.set_cons_succ, List.set_cons_zero]) | ((with_reducible refine lex_load_part agg_vec size_vec rfl _ rfl rfl rfl (fun w' hw' => HGA.out.over (below_over HC2.out HC2.out.size (isOver_below hw'))) (vecL_len f) ?_); simp only [Act.put, List.setIfInBounds_toArray, List.set_cons_succ, List.set_cons_zero]) | (refine lex_one rfl ?_; go_big_quiet_step (fail); refine wpQuiet_nil ?_) | (refine lex_loud rfl ?_; go_wp2_with (first | (go_at_call 73; (with_reducible refine (pnext_any f HF.out id.author _).mono ?_); rintro e w3 ⟨rfl, hb⟩; replace hcur := below_over hcur hcur.size hb; clear hb)); refine ⟨isOver_of hcur, ?_⟩))
        refine lex_end ?_
        have HC3 := Lib.hid (below_over HC2.out HC2.out.size hcur)
        clear hcur
        go_wp2_with fail
        go_ret
        exact ⟨(ret_val (congrArg (fun n : Nat => Value.int .i64 (n : Int)) (HN.out).symm)), below_over HB1.out HB1.out.size (HC3.out)⟩
end Go.Proofs.YtfciedmmgddgpaaGreatDoor
