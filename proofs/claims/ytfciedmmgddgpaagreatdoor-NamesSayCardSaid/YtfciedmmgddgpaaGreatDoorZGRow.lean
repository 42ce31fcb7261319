/- Contract of bruitref17.Good. Rows of things that are several cells each: []api.Pid, []api.Vid, []api.Op, []api.Vert. -/
import Derived.Test.YtfciedmmgddgpaaGreatDoorZOpG
import Derived.Test.YtfciedmmgddgpaaGreatDoorZTreeB
namespace Go.Proofs.YtfciedmmgddgpaaGreatDoor
open Go Go.RowKit

attribute [local irreducible] refsM refOk goodVid opGood opTail

set_option maxHeartbeats 10000000 in
set_option maxRecDepth 100000 in
theorem rogood_any (id : PidM) (i : Nat) (o : OpM) (w : World) (hi : i < 4611686018427387904) (hz : o.text.size ≤ maxLen) :
    Calls Tryz.prog 144 #[pidV id, .int .i64 (i : Int), opV o] w fun e w' => e = .returned (.bool (opGood id i o)) ∧ Below w.heap.size w w' := by
  have HZ := Lib.hid hz
  have hrl := refs_len o
  have HA := Lib.hid ((arr_new w #[.int .u8 (id.author.toNat : Int), .int .u16 (id.seq.toNat : Int)] 25).alloc (.cells #[.int .u8 (o.kind.toNat : Int), .int .u8 (o.at'.pid.author.toNat : Int), .int .u16 (o.at'.pid.seq.toNat : Int), .int .u8 (o.at'.n.toNat : Int), .int .u8 (o.to.pid.author.toNat : Int), .int .u16 (o.to.pid.seq.toNat : Int), .int .u8 (o.to.n.toNat : Int), .string o.text] 56))
  have HC := Lib.hid (arr_new2 w (.cells #[.int .u8 (id.author.toNat : Int), .int .u16 (id.seq.toNat : Int)] 25) #[.int .u8 (o.kind.toNat : Int), .int .u8 (o.at'.pid.author.toNat : Int), .int .u16 (o.at'.pid.seq.toNat : Int), .int .u8 (o.at'.n.toNat : Int), .int .u8 (o.to.pid.author.toNat : Int), .int .u16 (o.to.pid.seq.toNat : Int), .int .u8 (o.to.n.toNat : Int), .string o.text] 56)
  have HB := Lib.hid ((below_new (w := w) (.cells #[.int .u8 (id.author.toNat : Int), .int .u16 (id.seq.toNat : Int)] 25)).alloc (by simp) (.cells #[.int .u8 (o.kind.toNat : Int), .int .u8 (o.at'.pid.author.toNat : Int), .int .u16 (o.at'.pid.seq.toNat : Int), .int .u8 (o.at'.n.toNat : Int), .int .u8 (o.to.pid.author.toNat : Int), .int .u16 (o.to.pid.seq.toNat : Int), .int .u8 (o.to.n.toNat : Int), .string o.text] 56))
  have gp := fun p q xs ys w => guard_pid .eql p q xs ys w
  have gp2 := fun p q xs ys w => guard_pid .neq p q xs ys w
  have gv := fun p q xs ys w => guard_vid .eql p q xs ys w
  have gv2 := fun p q xs ys w => guard_vid .neq p q xs ys w
  clear hz
  unfold pidV opV
  go_enter Tryz.func144, Tryz.ntmps144
  go_wp2_with fail
  generalize hw0 : (w.alloc (.cells #[.int .u8 (id.author.toNat : Int), .int .u16 (id.seq.toNat : Int)] 25)).alloc (.cells #[.int .u8 (o.kind.toNat : Int), .int .u8 (o.at'.pid.author.toNat : Int), .int .u16 (o.at'.pid.seq.toNat : Int), .int .u8 (o.at'.n.toNat : Int), .int .u8 (o.to.pid.author.toNat : Int), .int .u16 (o.to.pid.seq.toNat : Int), .int .u8 (o.to.n.toNat : Int), .string o.text] 56) = w0 at *
  clear hw0
  refine (rrefs_any o _).mono ?_
  rintro e w1 ⟨v1, rfl, hv1, hb1⟩
  obtain ⟨a, cap, rfl, h1, h2, hc⟩ := (RefsAt.vrow hv1).form
  unfold maxLen at h2
  have HCv := Lib.hid hc
  have HB1 := Lib.hid hb1
  clear hv1 hc hb1
  go_wp2_with fail
  go_loopw [8] (fun v wr => OgRel w1 id i o v wr) (fun v _ => (refsM o).length - (intOf v).toNat)
  case atStart => exact ⟨0, by omega, rfl, rfl, Below.refl _ _⟩
  case round =>
    obtain ⟨k, hk, rfl, HK, hbl⟩ := hrel
    have HBw := Lib.hid (below_over HB1.out HB1.out.size hbl)
    by_cases hlt : k < (refsM o).length
    · obtain ⟨b, off, rfl, sb, hcc⟩ := HCv.out.resolve_left (by omega)
      obtain ⟨v, hv⟩ := get_of_lt hlt
      obtain ⟨x0, x1, x2⟩ := hcc k v hv
      have r0 := (hbl.cell (p := ⟨b, off + k * 3, none⟩) sb).trans x0
      have r1 := (hbl.cell (p := ⟨b, off + k * 3 + 1, none⟩) sb).trans x1
      have r2 := (hbl.cell (p := ⟨b, off + k * 3 + 2, none⟩) sb).trans x2
      have sb' : b < wr.heap.size := Nat.lt_of_lt_of_le sb hbl.size
      have HV := Lib.hid hv
      have HAr := Lib.hid (HA.out.over HBw.out)
      have i0 := HAr.out.cell (j := 0) rfl
      have i1 := HAr.out.cell (j := 1) rfl
      have si := HAr.out.lt
      have hnl := v.n.toNat_lt
      clear x0 x1 x2 hcc hv
      cases hg : goodVid v with
      | false =>
        have HO := Lib.hid (opGood_no HV.out (refOk_bad (id := id) (i := i) hg))
        have HG := Lib.hid hg
        clear hg
        go_wp2_with fail
        have HG2 : Hid (goodVid v = false) := HG.out
        have hcur : Below wr.heap.size wr wr.drew := (Below.refl _ _).drew
        refine wp_region_lex (C := IsOver wr) 25 [] (by kernel_rfl) (by kernel_rfl) (isOver_of (by repeat (first | exact Below.refl _ _ | apply Below.drew | apply below_drewN | (refine Below.alloc ?_ (by simp) _)))) ?_
        simp only [List.take_succ_cons, List.take_zero, List.drop_succ_cons, List.drop_zero]
        repeat (first | (refine lex_skip rfl rfl ?_; simp only [Act.put, List.setIfInBounds_toArray, List.set_cons_succ, List.set_cons_zero]) | (refine lex_one rfl ?_; go_big_quiet_step (fail); refine wpQuiet_nil ?_) | (refine lex_loud rfl ?_; go_wp2_with (first | (go_at_call 165; (with_reducible refine (rgoodVid_any _ _).mono ?_); rintro e w' ⟨rfl, hb⟩; rw [HG2.out]; replace hcur := below_over hcur hcur.size hb; clear hb)); refine ⟨isOver_of hcur, ?_⟩))
        refine lex_end ?_
        have HB3 := Lib.hid (below_over hbl hbl.size hcur)
        clear hcur
        go_wp2_with fail
        go_ret
        exact ⟨ret_val (congrArg Value.bool HO.out.symm), below_over HB.out HB.out.size (below_over HB1.out HB1.out.size HB3.out)⟩
      | true =>
        have HG := Lib.hid hg
        by_cases hp : v.pid = id
        · have e1 := eql_pid v.pid id true (by simp [hp])
          unfold pidV at e1
          have HOw := Lib.hid (refOk_own (i := i) hg hp)
          clear hg hp
          by_cases hn : i ≤ v.n.toNat
          · have e2 : decide (i ≤ v.n.toNat) = true := by simpa using hn
            have HO := Lib.hid (opGood_no HV.out (HOw.out.trans (by simp [hn])))
            go_wp2_with fail
            have HG2 : Hid (goodVid v = true) := HG.out
            have hcur : Below wr.heap.size wr wr.drew := (Below.refl _ _).drew
            refine wp_region_lex (C := IsOver wr) 25 [] (by kernel_rfl) (by kernel_rfl) (isOver_of (by repeat (first | exact Below.refl _ _ | apply Below.drew | apply below_drewN | (refine Below.alloc ?_ (by simp) _)))) ?_
            simp only [List.take_succ_cons, List.take_zero, List.drop_succ_cons, List.drop_zero]
            repeat (first | (refine lex_skip rfl rfl ?_; simp only [Act.put, List.setIfInBounds_toArray, List.set_cons_succ, List.set_cons_zero]) | (refine lex_one rfl ?_; go_big_quiet_step (fail); refine wpQuiet_nil ?_) | (refine lex_loud rfl ?_; go_wp2_with (first | (go_at_call 165; (with_reducible refine (rgoodVid_any _ _).mono ?_); rintro e w' ⟨rfl, hb⟩; rw [HG2.out]; replace hcur := below_over hcur hcur.size hb; clear hb)); refine ⟨isOver_of hcur, ?_⟩))
            refine lex_end ?_
            have HB3 := Lib.hid (below_over hbl hbl.size hcur)
            clear hcur
            go_wp2_with fail
            go_ret
            exact ⟨ret_val (congrArg Value.bool HO.out.symm), below_over HB.out HB.out.size (below_over HB1.out HB1.out.size HB3.out)⟩
          · have e2 : decide (i ≤ v.n.toNat) = false := by simpa using hn
            have HK2 : Hid (((refsM o).take (k + 1)).all (refOk id i) = true) := all_take HV.out HK.out (HOw.out.trans (by simp [hn]))
            go_wp2_with fail
            have HG2 : Hid (goodVid v = true) := HG.out
            have hcur : Below wr.heap.size wr wr.drew := (Below.refl _ _).drew
            refine wp_region_lex (C := IsOver wr) 25 [] (by kernel_rfl) (by kernel_rfl) (isOver_of (by repeat (first | exact Below.refl _ _ | apply Below.drew | apply below_drewN | (refine Below.alloc ?_ (by simp) _)))) ?_
            simp only [List.take_succ_cons, List.take_zero, List.drop_succ_cons, List.drop_zero]
            repeat (first | (refine lex_skip rfl rfl ?_; simp only [Act.put, List.setIfInBounds_toArray, List.set_cons_succ, List.set_cons_zero]) | (refine lex_one rfl ?_; go_big_quiet_step (fail); refine wpQuiet_nil ?_) | (refine lex_loud rfl ?_; go_wp2_with (first | (go_at_call 165; (with_reducible refine (rgoodVid_any _ _).mono ?_); rintro e w' ⟨rfl, hb⟩; rw [HG2.out]; replace hcur := below_over hcur hcur.size hb; clear hb)); refine ⟨isOver_of hcur, ?_⟩))
            refine lex_end ?_
            have HB3 := Lib.hid (below_over hbl hbl.size hcur)
            clear hcur
            go_wp2_with fail
            go_roundw
            case rel => exact ⟨k + 1, hlt, by go_num, HK2, HB3.out⟩
            case measure => simp [intOf]; omega
        · have e1 := eql_pid v.pid id false (by simp [hp])
          unfold pidV at e1
          have HK2 : Hid (((refsM o).take (k + 1)).all (refOk id i) = true) := all_take HV.out HK.out (refOk_far hg hp)
          clear hg hp
          go_wp2_with fail
          have HG2 : Hid (goodVid v = true) := HG.out
          have hcur : Below wr.heap.size wr wr.drew := (Below.refl _ _).drew
          refine wp_region_lex (C := IsOver wr) 25 [] (by kernel_rfl) (by kernel_rfl) (isOver_of (by repeat (first | exact Below.refl _ _ | apply Below.drew | apply below_drewN | (refine Below.alloc ?_ (by simp) _)))) ?_
          simp only [List.take_succ_cons, List.take_zero, List.drop_succ_cons, List.drop_zero]
          repeat (first | (refine lex_skip rfl rfl ?_; simp only [Act.put, List.setIfInBounds_toArray, List.set_cons_succ, List.set_cons_zero]) | (refine lex_one rfl ?_; go_big_quiet_step (fail); refine wpQuiet_nil ?_) | (refine lex_loud rfl ?_; go_wp2_with (first | (go_at_call 165; (with_reducible refine (rgoodVid_any _ _).mono ?_); rintro e w' ⟨rfl, hb⟩; rw [HG2.out]; replace hcur := below_over hcur hcur.size hb; clear hb)); refine ⟨isOver_of hcur, ?_⟩))
          refine lex_end ?_
          have HB3 := Lib.hid (below_over hbl hbl.size hcur)
          clear hcur
          go_wp2_with fail
          go_roundw
          case rel => exact ⟨k + 1, hlt, by go_num, HK2, HB3.out⟩
          case measure => simp [intOf]; omega
    · have HO : Hid (opGood id i o = opTail id o) := by
        refine opGood_all ?_
        have := HK.out
        rwa [List.take_of_length_le (by omega)] at this
      have HAr := Lib.hid (HA.out.over HBw.out)
      have HCr := Lib.hid (HC.out.over HBw.out)
      have i0 := HAr.out.cell (j := 0) rfl
      have i1 := HAr.out.cell (j := 1) rfl
      have si := HAr.out.lt
      have o0 := HCr.out.cell (j := 0) rfl
      have o1 := HCr.out.cell (j := 1) rfl
      have o2 := HCr.out.cell (j := 2) rfl
      have o3 := HCr.out.cell (j := 3) rfl
      have o4 := HCr.out.cell (j := 4) rfl
      have o5 := HCr.out.cell (j := 5) rfl
      have o6 := HCr.out.cell (j := 6) rfl
      have o7 := HCr.out.cell (j := 7) rfl
      have so := HCr.out.lt
      have HBt := Lib.hid (below_over HB.out HB.out.size (below_over HBw.out HBw.out.size (below_new (.cells #[.int .u8 0, .int .u16 0, .int .u8 0] 27))))
      by_cases hk1 : o.kind.toNat = 1
      · have hk := hk1
        clear hk1
        by_cases hc0 : o.at' = noVid
        · by_cases hc1 : o.to = noVid
          · by_cases hc2 : o.text.size = 0
            · have k1 : ((o.kind.toNat : Int) == 1) = true := by simp; omega
              have a1 := eql_zero o.at' true (by simp [hc0])
              have a0 := eql_zero o.to true (by simp [hc1])
              have t1 : o.text.toList = [] := empty_tl hc2
              have HE : Hid (opGood id i o = true) := HO.out.trans ((opTail_1 hk).trans (by simp [hc0, hc1, hc2]))
              clear hk hc0 hc1 hc2
              go_wp2_with fail
              go_ret
              exact ⟨ret_val (congrArg Value.bool HE.out.symm), HBt.out⟩
            · have k1 : ((o.kind.toNat : Int) == 1) = true := by simp; omega
              have a1 := eql_zero o.at' true (by simp [hc0])
              have a0 := eql_zero o.to true (by simp [hc1])
              have t1 := nonempty_tl (s := o.text) (by omega)
              have t2 := t1.1
              have t3 := t1.2
              clear t1
              have HE : Hid (opGood id i o = false) := HO.out.trans ((opTail_1 hk).trans (by simp [hc0, hc1, hc2]))
              clear hk hc0 hc1 hc2
              go_wp2_with fail
              go_ret
              exact ⟨ret_val (congrArg Value.bool HE.out.symm), HBt.out⟩
          · have k1 : ((o.kind.toNat : Int) == 1) = true := by simp; omega
            have a1 := eql_zero o.at' true (by simp [hc0])
            have a0 := eql_zero o.to false (by simp [hc1])
            have HE : Hid (opGood id i o = false) := HO.out.trans ((opTail_1 hk).trans (by simp [hc0, hc1]))
            clear hk hc0 hc1
            go_wp2_with fail
            go_ret
            exact ⟨ret_val (congrArg Value.bool HE.out.symm), HBt.out⟩
        · have k1 : ((o.kind.toNat : Int) == 1) = true := by simp; omega
          have a1 := eql_zero o.at' false (by simp [hc0])
          have HE : Hid (opGood id i o = false) := HO.out.trans ((opTail_1 hk).trans (by simp [hc0]))
          clear hk hc0
          go_wp2_with fail
          go_ret
          exact ⟨ret_val (congrArg Value.bool HE.out.symm), HBt.out⟩
      · by_cases hk2 : o.kind.toNat = 2
        · have hk := hk2
          clear hk2
          by_cases hc0 : o.to = noVid
          · have k1 : ((o.kind.toNat : Int) == 1) = false := by simp; omega
            have k2 : ((o.kind.toNat : Int) == 2) = true := by simp; omega
            have a0 := eql_zero o.to true (by simp [hc0])
            have HE : Hid (opGood id i o = nameOk o.text) := HO.out.trans ((opTail_2 hk).trans (by simp [hc0]))
            clear hk hc0
            go_wp2_with fail
            refine (rname_any o.text _ HZ.out).mono ?_
            rintro e w5 ⟨rfl, hb5⟩
            have HB5 := Lib.hid (below_over HBt.out HBt.out.size hb5)
            clear hb5
            go_wp2_with fail
            go_ret
            exact ⟨ret_val (congrArg Value.bool HE.out.symm), HB5.out⟩
          · have k1 : ((o.kind.toNat : Int) == 1) = false := by simp; omega
            have k2 : ((o.kind.toNat : Int) == 2) = true := by simp; omega
            have a0 := eql_zero o.to false (by simp [hc0])
            have HE : Hid (opGood id i o = false) := HO.out.trans ((opTail_2 hk).trans (by simp [hc0]))
            clear hk hc0
            go_wp2_with fail
            go_ret
            exact ⟨ret_val (congrArg Value.bool HE.out.symm), HBt.out⟩
        · by_cases hk3 : o.kind.toNat = 3
          · have hk := hk3
            clear hk3
            by_cases hc0 : o.to = noVid
            · have k1 : ((o.kind.toNat : Int) == 1) = false := by simp; omega
              have k2 : ((o.kind.toNat : Int) == 2) = false := by simp; omega
              have k3 : ((o.kind.toNat : Int) == 3) = true := by simp; omega
              have a0 := eql_zero o.to true (by simp [hc0])
              have HE : Hid (opGood id i o = lineOk o.text) := HO.out.trans ((opTail_3 hk).trans (by simp [hc0]))
              clear hk hc0
              go_wp2_with fail
              refine (rline_any o.text _ HZ.out).mono ?_
              rintro e w5 ⟨rfl, hb5⟩
              have HB5 := Lib.hid (below_over HBt.out HBt.out.size hb5)
              clear hb5
              go_wp2_with fail
              go_ret
              exact ⟨ret_val (congrArg Value.bool HE.out.symm), HB5.out⟩
            · have k1 : ((o.kind.toNat : Int) == 1) = false := by simp; omega
              have k2 : ((o.kind.toNat : Int) == 2) = false := by simp; omega
              have k3 : ((o.kind.toNat : Int) == 3) = true := by simp; omega
              have a0 := eql_zero o.to false (by simp [hc0])
              have HE : Hid (opGood id i o = false) := HO.out.trans ((opTail_3 hk).trans (by simp [hc0]))
              clear hk hc0
              go_wp2_with fail
              go_ret
              exact ⟨ret_val (congrArg Value.bool HE.out.symm), HBt.out⟩
          · by_cases hk4 : o.kind.toNat = 4
            · have hk := hk4
              clear hk4
              by_cases hc0 : o.at' = o.to
              · have k1 : ((o.kind.toNat : Int) == 1) = false := by simp; omega
                have k2 : ((o.kind.toNat : Int) == 2) = false := by simp; omega
                have k3 : ((o.kind.toNat : Int) == 3) = false := by simp; omega
                have k4 : ((o.kind.toNat : Int) == 4) = true := by simp; omega
                have a1 := neq_vid o.at' o.to false (by simp [hc0])
                unfold vidV at a1
                have HE : Hid (opGood id i o = false) := HO.out.trans ((opTail_4 hk).trans (by simp [hc0]))
                clear hk hc0
                go_wp2_with fail
                go_ret
                exact ⟨ret_val (congrArg Value.bool HE.out.symm), HBt.out⟩
              · by_cases hc1 : o.text.size = 0
                · have k1 : ((o.kind.toNat : Int) == 1) = false := by simp; omega
                  have k2 : ((o.kind.toNat : Int) == 2) = false := by simp; omega
                  have k3 : ((o.kind.toNat : Int) == 3) = false := by simp; omega
                  have k4 : ((o.kind.toNat : Int) == 4) = true := by simp; omega
                  have a1 := neq_vid o.at' o.to true (by simp [hc0])
                  unfold vidV at a1
                  have t1 : o.text.toList = [] := empty_tl hc1
                  have HE : Hid (opGood id i o = true) := HO.out.trans ((opTail_4 hk).trans (by simp [hc0, hc1]))
                  clear hk hc0 hc1
                  go_wp2_with fail
                  go_ret
                  exact ⟨ret_val (congrArg Value.bool HE.out.symm), HBt.out⟩
                · have k1 : ((o.kind.toNat : Int) == 1) = false := by simp; omega
                  have k2 : ((o.kind.toNat : Int) == 2) = false := by simp; omega
                  have k3 : ((o.kind.toNat : Int) == 3) = false := by simp; omega
                  have k4 : ((o.kind.toNat : Int) == 4) = true := by simp; omega
                  have a1 := neq_vid o.at' o.to true (by simp [hc0])
                  unfold vidV at a1
                  have t1 := nonempty_tl (s := o.text) (by omega)
                  have t2 := t1.1
                  have t3 := t1.2
                  clear t1
                  have HE : Hid (opGood id i o = false) := HO.out.trans ((opTail_4 hk).trans (by simp [hc0, hc1]))
                  clear hk hc0 hc1
                  go_wp2_with fail
                  go_ret
                  exact ⟨ret_val (congrArg Value.bool HE.out.symm), HBt.out⟩
            · by_cases hk5 : o.kind.toNat = 5
              · have hk := hk5
                clear hk5
                by_cases hc0 : o.at'.pid = id
                · have k1 : ((o.kind.toNat : Int) == 1) = false := by simp; omega
                  have k2 : ((o.kind.toNat : Int) == 2) = false := by simp; omega
                  have k3 : ((o.kind.toNat : Int) == 3) = false := by simp; omega
                  have k4 : ((o.kind.toNat : Int) == 4) = false := by simp; omega
                  have k5 : ((o.kind.toNat : Int) == 5) = true := by simp; omega
                  have a1 := neq_pid o.at'.pid id false (by simp [hc0])
                  unfold pidV at a1
                  have HE : Hid (opGood id i o = false) := HO.out.trans ((opTail_5 hk).trans (by simp [hc0]))
                  clear hk hc0
                  go_wp2_with fail
                  go_ret
                  exact ⟨ret_val (congrArg Value.bool HE.out.symm), HBt.out⟩
                · by_cases hc1 : o.to = noVid
                  · by_cases hc2 : o.text.size = 0
                    · have k1 : ((o.kind.toNat : Int) == 1) = false := by simp; omega
                      have k2 : ((o.kind.toNat : Int) == 2) = false := by simp; omega
                      have k3 : ((o.kind.toNat : Int) == 3) = false := by simp; omega
                      have k4 : ((o.kind.toNat : Int) == 4) = false := by simp; omega
                      have k5 : ((o.kind.toNat : Int) == 5) = true := by simp; omega
                      have a1 := neq_pid o.at'.pid id true (by simp [hc0])
                      unfold pidV at a1
                      have a0 := eql_zero o.to true (by simp [hc1])
                      have t1 : o.text.toList = [] := empty_tl hc2
                      have HE : Hid (opGood id i o = true) := HO.out.trans ((opTail_5 hk).trans (by simp [hc0, hc1, hc2]))
                      clear hk hc0 hc1 hc2
                      go_wp2_with fail
                      go_ret
                      exact ⟨ret_val (congrArg Value.bool HE.out.symm), HBt.out⟩
                    · have k1 : ((o.kind.toNat : Int) == 1) = false := by simp; omega
                      have k2 : ((o.kind.toNat : Int) == 2) = false := by simp; omega
                      have k3 : ((o.kind.toNat : Int) == 3) = false := by simp; omega
                      have k4 : ((o.kind.toNat : Int) == 4) = false := by simp; omega
                      have k5 : ((o.kind.toNat : Int) == 5) = true := by simp; omega
                      have a1 := neq_pid o.at'.pid id true (by simp [hc0])
                      unfold pidV at a1
                      have a0 := eql_zero o.to true (by simp [hc1])
                      have t1 := nonempty_tl (s := o.text) (by omega)
                      have t2 := t1.1
                      have t3 := t1.2
                      clear t1
                      have HE : Hid (opGood id i o = false) := HO.out.trans ((opTail_5 hk).trans (by simp [hc0, hc1, hc2]))
                      clear hk hc0 hc1 hc2
                      go_wp2_with fail
                      go_ret
                      exact ⟨ret_val (congrArg Value.bool HE.out.symm), HBt.out⟩
                  · have k1 : ((o.kind.toNat : Int) == 1) = false := by simp; omega
                    have k2 : ((o.kind.toNat : Int) == 2) = false := by simp; omega
                    have k3 : ((o.kind.toNat : Int) == 3) = false := by simp; omega
                    have k4 : ((o.kind.toNat : Int) == 4) = false := by simp; omega
                    have k5 : ((o.kind.toNat : Int) == 5) = true := by simp; omega
                    have a1 := neq_pid o.at'.pid id true (by simp [hc0])
                    unfold pidV at a1
                    have a0 := eql_zero o.to false (by simp [hc1])
                    have HE : Hid (opGood id i o = false) := HO.out.trans ((opTail_5 hk).trans (by simp [hc0, hc1]))
                    clear hk hc0 hc1
                    go_wp2_with fail
                    go_ret
                    exact ⟨ret_val (congrArg Value.bool HE.out.symm), HBt.out⟩
              · have k1 : ((o.kind.toNat : Int) == 1) = false := by simp; omega
                have k2 : ((o.kind.toNat : Int) == 2) = false := by simp; omega
                have k3 : ((o.kind.toNat : Int) == 3) = false := by simp; omega
                have k4 : ((o.kind.toNat : Int) == 4) = false := by simp; omega
                have k5 : ((o.kind.toNat : Int) == 5) = false := by simp; omega
                have HE : Hid (opGood id i o = false) := HO.out.trans (opTail_6 ⟨hk1, hk2, hk3, hk4, hk5⟩)
                clear hk1 hk2 hk3 hk4 hk5
                go_wp2_with fail
                go_ret
                exact ⟨ret_val (congrArg Value.bool HE.out.symm), HBt.out⟩
end Go.Proofs.YtfciedmmgddgpaaGreatDoor
namespace Go.Proofs.YtfciedmmgddgpaaGreatDoor
open Go Go.RowKit

section
variable {α : Type} {enc : α → List Value} {sz : Nat} {e : TypeId}
def GRow (enc : α → List Value) (sz : Nat) (w : World) (v : Value) (xs : List α) : Prop := Row w v xs.length sz (xs.flatMap enc)
def GOwn (enc : α → List Value) (sz : Nat) (e : TypeId) (w : World) (B : Nat) (v : Value) (xs : List α) : Prop := w.ownsRow B e sz v xs.length (xs.flatMap enc)
theorem GOwn.row {w : World} {B : Nat} {v : Value} {xs : List α} (h : GOwn enc sz e w B v xs) : GRow enc sz w v xs := own_row h
theorem GRow.over {w w' : World} {v : Value} {xs : List α} (h : GRow enc sz w v xs) (hb : Below w.heap.size w w') : GRow enc sz w' v xs := Row.over h hb
theorem GOwn.over {w w' : World} {B : Nat} {v : Value} {xs : List α} (h : GOwn enc sz e w B v xs) (hb : Below w.heap.size w w') : GOwn enc sz e w' B v xs := own_over h hb
theorem grow_nil (w : World) : GRow enc sz w (.slice none 0 0) [] := row_nil w sz
theorem gown_nil (w : World) (B : Nat) : GOwn enc sz e w B (.slice none 0 0) [] := World.ownsRow_nil w B e sz
theorem GOwn.snoc {w : World} {B : Nat} {v : Value} {xs : List α} {x : α} (h : w.ownsRow B e sz v (xs.length + 1) (xs.flatMap enc ++ enc x)) : GOwn enc sz e w B v (xs ++ [x]) := by
  unfold GOwn
  rw [List.length_append, List.flatMap_append]; simpa using h
/-- what a row holds, at each place, in whatever world lies over -/
theorem GRow.at {w : World} {v : Value} {xs : List α} (hf : ∀ x, (enc x).length = sz) (h : GRow enc sz w v xs) : ∃ a cap, v = .slice a xs.length cap ∧ xs.length ≤ cap ∧ cap ≤ maxLen ∧ (xs.length = 0 ∨ ∃ b off, a = some ⟨b, off, none⟩ ∧ b < w.heap.size ∧
    ∀ i x, xs[i]? = some x → ∀ W, Below w.heap.size w W → b < W.heap.size ∧ ∀ j u, (enc x)[j]? = some u → W.cell? ⟨b, off + i * sz + j, none⟩ = some u) := by
  obtain ⟨a, cap, e1, e2, e3, _, e5⟩ := Row.form h
  refine ⟨a, cap, e1, e2, e3, e5.imp id ?_⟩
  rintro ⟨b, off, rfl, hb, hc⟩
  refine ⟨b, off, rfl, hb, fun i x hx W hW => ⟨Nat.lt_of_lt_of_le hb hW.size, fun j u hu => ?_⟩⟩
  rw [hW.cell (p := ⟨b, off + i * sz + j, none⟩) hb]
  exact Row.elem hf hc hx hu
end
theorem encPid_len (p : PidM) : (encPid p).length = 2 := rfl
theorem encVid_len (p : VidM) : (encVid p).length = 3 := rfl
theorem encOp_len (p : OpM) : (encOp p).length = 8 := rfl
theorem encVert_len (p : VertM) : (encVert p).length = 9 := rfl
theorem slPid : SlT Tryz.prog 48 25 2 4 := slT_of Tryz.underlying48 (by kernel_rfl) (by decide)
theorem slVid : SlT Tryz.prog 35 27 3 6 := slT_of Tryz.underlying35 (by kernel_rfl) (by decide)
end Go.Proofs.YtfciedmmgddgpaaGreatDoor
