/- Contract of bruitref18.Good. The program's test of a patch is the document's. The program's graph as a pointer to memory; contracts of graph.New, Vert, made, look. -/
import Derived.Test.YtfciedmmgddgpaaGreatDoorZROne
import Derived.Test.YtfciedmmgddgpaaGreatDoorZVecB
import Derived.Test.YtfciedmmgddgpaaGreatDoorZPGood
import Derived.Test.YtfciedmmgddgpaaGreatDoorZVecC
import Derived.Test.YtfciedmmgddgpaaGreatDoorZGrR
namespace Go.Proofs.YtfciedmmgddgpaaGreatDoor
open Go Go.RowKit

def loopR (id : PidM) (ops : List OpM) : Bool := (List.range ops.length).all fun i => match ops[i]? with | some o => oneR id ops i o | none => false
def goodR (id : PidM) (deps : List PidM) (ops : List OpM) : Bool := goodPid id && (decide (1 ≤ ops.length) && (decide (ops.length ≤ 200) && (decide (deps = depsM id ops) && loopR id ops)))
theorem loopR_no {id : PidM} {ops : List OpM} {i : Nat} {o : OpM} (ho : ops[i]? = some o) (h : oneR id ops i o = false) : loopR id ops = false := by
  unfold loopR
  refine List.all_eq_false.2 ⟨i, List.mem_range.2 (List.getElem?_eq_some_iff.1 ho).1, ?_⟩
  rw [ho]; simp [h]
theorem loopR_yes {id : PidM} {ops : List OpM} (h : ∀ i o, ops[i]? = some o → oneR id ops i o = true) : loopR id ops = true := by
  unfold loopR
  refine List.all_eq_true.2 fun i hi => ?_
  obtain ⟨o, ho⟩ := get_of_lt (List.mem_range.1 hi)
  rw [ho]; exact h i o ho
theorem rg_next {id : PidM} {ops : List OpM} {i : Nat} {o : OpM} (h : ∀ j o, j < i → ops[j]? = some o → oneR id ops j o = true) (ho : ops[i]? = some o) (hn : oneR id ops i o = true) : ∀ j o, j < i + 1 → ops[j]? = some o → oneR id ops j o = true := by
  intro j o' hj hj'
  by_cases e : j = i
  · subst e; rw [ho] at hj'; cases hj'; exact hn
  · exact h j o' (by omega) hj'
theorem goodR_a {id : PidM} {deps : List PidM} {ops : List OpM} (h : goodPid id = false) : goodR id deps ops = false := by unfold goodR; rw [h]; rfl
theorem goodR_b {id : PidM} {deps : List PidM} {ops : List OpM} (h : ¬ 1 ≤ ops.length) : goodR id deps ops = false := by unfold goodR; simp; omega
theorem goodR_c {id : PidM} {deps : List PidM} {ops : List OpM} (h : ¬ ops.length ≤ 200) : goodR id deps ops = false := by unfold goodR; simp; omega
theorem goodR_d {id : PidM} {deps : List PidM} {ops : List OpM} (h : ¬ deps = depsM id ops) : goodR id deps ops = false := by unfold goodR; simp [h]
theorem goodR_e {id : PidM} {deps : List PidM} {ops : List OpM} (h1 : goodPid id = true) (h2 : 1 ≤ ops.length) (h3 : ops.length ≤ 200) (h4 : deps = depsM id ops) : goodR id deps ops = loopR id ops := by unfold goodR; rw [h1]; simp [h2, h3, h4]
theorem goodR_eq (p : PatchM) : goodR p.id p.deps p.ops = goodP p := rfl
attribute [local irreducible] refsM opGood laterB oneR loopR goodR goodPid depsM
set_option maxHeartbeats 10000000 in
set_option maxRecDepth 100000 in
theorem rgood_any (id : PidM) (dv ov : Value) (deps : List PidM) (ops : List OpM) (w : World) (hd : GRow encPid 2 w dv deps) (hv : GRow encOp 8 w ov ops) (hl : ops.length ≤ 40000) (hz : ∀ o ∈ ops, o.text.size ≤ maxLen) :
    Calls Tryz.prog 75 #[patV id dv ov] w fun e w' => e = .returned (.bool (goodR id deps ops)) ∧ Below w.heap.size w w' := by
  have HV0 := Lib.hid hv
  have HD0 := Lib.hid hd
  have HZ := Lib.hid hz
  obtain ⟨a, cap, rfl, h1, h2, hc⟩ := hv.at encOp_len
  obtain ⟨ad, capd, rfl, h1d, h2d, _⟩ := hd.at encPid_len
  unfold maxLen at h2 h2d
  have HC := Lib.hid hc
  have HP := Lib.hid (arr_new w #[.int .u8 (id.author.toNat : Int), .int .u16 (id.seq.toNat : Int), .slice ad deps.length capd, .slice a ops.length cap] 51)
  have HB := Lib.hid (below_new (w := w) (.cells #[.int .u8 (id.author.toNat : Int), .int .u16 (id.seq.toNat : Int), .slice ad deps.length capd, .slice a ops.length cap] 51))
  clear hv hd hc hz
  unfold patV
  go_enter Tryz.func75, Tryz.ntmps75
  go_upto_region 1 with (fail)
  generalize hw0 : w.alloc (.cells #[.int .u8 (id.author.toNat : Int), .int .u16 (id.seq.toNat : Int), .slice ad deps.length capd, .slice a ops.length cap] 51) = w0 at *
  clear hw0
  have HV := Lib.hid (HV0.out.over HB.out)
  have HD := Lib.hid (HD0.out.over HB.out)
  have p0 := HP.out.cell (j := 0) rfl
  have p1 := HP.out.cell (j := 1) rfl
  have p2 := HP.out.cell (j := 2) rfl
  have p3 := HP.out.cell (j := 3) rfl
  have sp := HP.out.lt
  cases hg : goodPid id with
  | false =>
    have HQ := Lib.hid (goodR_a (deps := deps) (ops := ops) hg)
    have HG := Lib.hid hg
    clear hg
    have hcur : Below w0.heap.size w0 w0.drew := (Below.refl _ _).drew
    refine wp_region_lex (C := IsOver w0) 27 [] (by kernel_rfl) (by kernel_rfl) (isOver_of (by repeat (first | exact Below.refl _ _ | apply Below.drew | apply below_drewN | (refine Below.alloc ?_ (by simp) _)))) ?_
    simp only [List.take_succ_cons, List.take_zero, List.drop_succ_cons, List.drop_zero]
    repeat (first | (refine lex_skip rfl rfl ?_; simp only [Act.put, List.setIfInBounds_toArray, List.set_cons_succ, List.set_cons_zero]) | (refine lex_one rfl ?_; go_big_quiet_step (fail); refine wpQuiet_nil ?_) | (refine lex_loud rfl ?_; go_wp2_with (first | (go_at_call 113; (with_reducible refine (rgoodPid_any id _).mono ?_); rintro e w' ⟨rfl, hb⟩; rw [HG.out]; replace hcur := below_over hcur hcur.size hb; clear hb)); refine ⟨isOver_of hcur, ?_⟩))
    refine lex_end ?_
    have HB3 := Lib.hid (below_over HB.out HB.out.size hcur)
    clear hcur
    go_wp2_with fail
    go_ret
    exact ⟨ret_val (congrArg Value.bool HQ.out.symm), HB3.out⟩
  | true =>
    have HG := Lib.hid hg
    clear hg
    by_cases g1 : 1 ≤ ops.length
    · have d1 : decide ((ops.length : Int) < 1) = false := by simp; omega
      by_cases g2 : ops.length ≤ 200
      · have d2 : decide ((200 : Int) < (ops.length : Int)) = false := by simp; omega
        by_cases g3 : deps = depsM id ops
        · have HE : Hid (decide (deps = depsM id ops) = true) := by show _ = _; simp [g3]
          have HQ := Lib.hid (goodR_e HG.out g1 g2 g3)
          clear g3
          have hcur : Below w0.heap.size w0 w0.drew := (Below.refl _ _).drew
          refine wp_region_lex (C := IsOver w0) 27 [] (by kernel_rfl) (by kernel_rfl) (isOver_of (by repeat (first | exact Below.refl _ _ | apply Below.drew | apply below_drewN | (refine Below.alloc ?_ (by simp) _)))) ?_
          simp only [List.take_succ_cons, List.take_zero, List.drop_succ_cons, List.drop_zero]
          repeat (first | (refine lex_skip rfl rfl ?_; simp only [Act.put, List.setIfInBounds_toArray, List.set_cons_succ, List.set_cons_zero]) | (refine lex_one rfl ?_; go_big_quiet_step (fail); refine wpQuiet_nil ?_) | (refine lex_loud rfl ?_; go_wp2_with (first | (go_at_call 113; (with_reducible refine (rgoodPid_any id _).mono ?_); rintro e w' ⟨rfl, hb⟩; rw [HG.out]; replace hcur := below_over hcur hcur.size hb; clear hb) | (go_at_call 115; (with_reducible refine (rdeps_any id _ ops _ (HV.out.over hcur) hl).mono ?_); rintro e w' ⟨dv2, rfl, hd2, hb⟩; have HD2 := Lib.hid hd2; replace hcur := below_over hcur hcur.size hb; clear hb hd2) | (go_at_call 114; (with_reducible refine (rsamePid_any _ _ deps (depsM id ops) _ (HD.out.over hcur) HD2.out).mono ?_); rintro e wA ⟨rfl, hb⟩; rw [HE.out]; replace hcur := below_over hcur hcur.size hb; clear hb)); refine ⟨isOver_of hcur, ?_⟩))
          refine lex_end ?_
          have HA0 := Lib.hid hcur
          clear hcur p0 p1 p2 p3 sp
          go_wp2_with fail
          go_loopw [3] (fun v3 wr => ∃ k : Nat, k ≤ ops.length ∧ v3 = .int .i64 k ∧ Hid (∀ j o, j < k → ops[j]? = some o → oneR id ops j o = true) ∧ Below w0.heap.size w0 wr) (fun v3 _ => ops.length - (intOf v3).toNat)
          case atStart => exact ⟨0, by omega, rfl, fun j o hj => absurd hj (Nat.not_lt_zero _), HA0.out⟩
          case round =>
            obtain ⟨k, hk, rfl, HK, hbl⟩ := hrel
            have HPr := Lib.hid (HP.out.over hbl)
            have HBr := Lib.hid (below_over HB.out HB.out.size hbl)
            have p0 := HPr.out.cell (j := 0) rfl
            have p1 := HPr.out.cell (j := 1) rfl
            have p2 := HPr.out.cell (j := 2) rfl
            have p3 := HPr.out.cell (j := 3) rfl
            have sp := HPr.out.lt
            by_cases hlt : k < ops.length
            · obtain ⟨o, ho⟩ := get_of_lt hlt
              have HOo := Lib.hid ho
              have hzo := HZ.out o (List.mem_of_getElem? ho)
              have HZo := Lib.hid hzo
              clear ho hzo
              go_wp2_with fail
              refine (rone_any id _ _ ops k o _ (HV.out.over hbl) HOo.out hl HZo.out).mono ?_
              rintro e w3 ⟨rfl, hb3⟩
              have HB3 := Lib.hid (below_over hbl hbl.size hb3)
              clear hb3 p0 p1 p2 p3 sp
              cases h1 : oneR id ops k o with
              | false =>
                have HN := Lib.hid (loopR_no HOo.out h1)
                clear h1
                go_wp2_with fail
                go_ret
                exact ⟨ret_val (congrArg Value.bool (HQ.out.trans HN.out).symm), below_over HB.out HB.out.size HB3.out⟩
              | true =>
                have HN := Lib.hid (rg_next HK.out HOo.out h1)
                clear h1
                go_wp2_with fail
                go_roundw
                case rel => exact ⟨k + 1, hlt, by go_num, HN, HB3.out⟩
                case measure => simp [intOf]; omega
            · obtain rfl : k = ops.length := by omega
              have HN := Lib.hid (loopR_yes (id := id) (ops := ops) fun j o ho => HK.out j o (List.getElem?_eq_some_iff.1 ho).1 ho)
              go_wp2_with fail
              go_ret
              exact ⟨ret_val (congrArg Value.bool (HQ.out.trans HN.out).symm), HBr.out⟩
        · have HE : Hid (decide (deps = depsM id ops) = false) := by show _ = _; simp [g3]
          have HQ := Lib.hid (goodR_d (deps := deps) g3)
          clear g3
          have hcur : Below w0.heap.size w0 w0.drew := (Below.refl _ _).drew
          refine wp_region_lex (C := IsOver w0) 27 [] (by kernel_rfl) (by kernel_rfl) (isOver_of (by repeat (first | exact Below.refl _ _ | apply Below.drew | apply below_drewN | (refine Below.alloc ?_ (by simp) _)))) ?_
          simp only [List.take_succ_cons, List.take_zero, List.drop_succ_cons, List.drop_zero]
          repeat (first | (refine lex_skip rfl rfl ?_; simp only [Act.put, List.setIfInBounds_toArray, List.set_cons_succ, List.set_cons_zero]) | (refine lex_one rfl ?_; go_big_quiet_step (fail); refine wpQuiet_nil ?_) | (refine lex_loud rfl ?_; go_wp2_with (first | (go_at_call 113; (with_reducible refine (rgoodPid_any id _).mono ?_); rintro e w' ⟨rfl, hb⟩; rw [HG.out]; replace hcur := below_over hcur hcur.size hb; clear hb) | (go_at_call 115; (with_reducible refine (rdeps_any id _ ops _ (HV.out.over hcur) hl).mono ?_); rintro e w' ⟨dv2, rfl, hd2, hb⟩; have HD2 := Lib.hid hd2; replace hcur := below_over hcur hcur.size hb; clear hb hd2) | (go_at_call 114; (with_reducible refine (rsamePid_any _ _ deps (depsM id ops) _ (HD.out.over hcur) HD2.out).mono ?_); rintro e w' ⟨rfl, hb⟩; rw [HE.out]; replace hcur := below_over hcur hcur.size hb; clear hb)); refine ⟨isOver_of hcur, ?_⟩))
          refine lex_end ?_
          have HB3 := Lib.hid (below_over HB.out HB.out.size hcur)
          clear hcur
          go_wp2_with fail
          go_ret
          exact ⟨ret_val (congrArg Value.bool HQ.out.symm), HB3.out⟩
      · have d2 : decide ((200 : Int) < (ops.length : Int)) = true := by simp; omega
        have HQ := Lib.hid (goodR_c (id := id) (deps := deps) g2)
        have hcur : Below w0.heap.size w0 w0.drew := (Below.refl _ _).drew
        refine wp_region_lex (C := IsOver w0) 27 [] (by kernel_rfl) (by kernel_rfl) (isOver_of (by repeat (first | exact Below.refl _ _ | apply Below.drew | apply below_drewN | (refine Below.alloc ?_ (by simp) _)))) ?_
        simp only [List.take_succ_cons, List.take_zero, List.drop_succ_cons, List.drop_zero]
        repeat (first | (refine lex_skip rfl rfl ?_; simp only [Act.put, List.setIfInBounds_toArray, List.set_cons_succ, List.set_cons_zero]) | (refine lex_one rfl ?_; go_big_quiet_step (fail); refine wpQuiet_nil ?_) | (refine lex_loud rfl ?_; go_wp2_with (first | (go_at_call 113; (with_reducible refine (rgoodPid_any id _).mono ?_); rintro e w' ⟨rfl, hb⟩; rw [HG.out]; replace hcur := below_over hcur hcur.size hb; clear hb)); refine ⟨isOver_of hcur, ?_⟩))
        refine lex_end ?_
        have HB3 := Lib.hid (below_over HB.out HB.out.size hcur)
        clear hcur
        go_wp2_with fail
        go_ret
        exact ⟨ret_val (congrArg Value.bool HQ.out.symm), HB3.out⟩
    · have d1 : decide ((ops.length : Int) < 1) = true := by simp; omega
      have HQ := Lib.hid (goodR_b (id := id) (deps := deps) g1)
      have hcur : Below w0.heap.size w0 w0.drew := (Below.refl _ _).drew
      refine wp_region_lex (C := IsOver w0) 27 [] (by kernel_rfl) (by kernel_rfl) (isOver_of (by repeat (first | exact Below.refl _ _ | apply Below.drew | apply below_drewN | (refine Below.alloc ?_ (by simp) _)))) ?_
      simp only [List.take_succ_cons, List.take_zero, List.drop_succ_cons, List.drop_zero]
      repeat (first | (refine lex_skip rfl rfl ?_; simp only [Act.put, List.setIfInBounds_toArray, List.set_cons_succ, List.set_cons_zero]) | (refine lex_one rfl ?_; go_big_quiet_step (fail); refine wpQuiet_nil ?_) | (refine lex_loud rfl ?_; go_wp2_with (first | (go_at_call 113; (with_reducible refine (rgoodPid_any id _).mono ?_); rintro e w' ⟨rfl, hb⟩; rw [HG.out]; replace hcur := below_over hcur hcur.size hb; clear hb)); refine ⟨isOver_of hcur, ?_⟩))
      refine lex_end ?_
      have HB3 := Lib.hid (below_over HB.out HB.out.size hcur)
      clear hcur
      go_wp2_with fail
      go_ret
      exact ⟨ret_val (congrArg Value.bool HQ.out.symm), HB3.out⟩
end Go.Proofs.YtfciedmmgddgpaaGreatDoor
namespace Go.Proofs.YtfciedmmgddgpaaGreatDoor
open Go Go.RowKit

theorem own_lt {id : PidM} {i : Nat} {o : OpM} {ops : List OpM} (h : opGood id i o = true) (ho : ops[i]? = some o) {v : VidM} (hv : v ∈ refsM o) (e : v.pid = id) : ∃ x, ops[v.n.toNat]? = some x :=
  get_of_lt (own_ref h ho v hv e)
theorem kindOk_own {id : PidM} {i : Nat} {o : OpM} {ops : List OpM} (h : opGood id i o = true) (ho : ops[i]? = some o) {v : VidM} (hv : v ∈ refsM o) : kindOkB id ops o v = ownM id ops v (wantK o) := by
  unfold kindOkB kindM ownM
  by_cases e : v.pid = id
  · obtain ⟨x, hx⟩ := own_lt h ho hv e
    rw [if_pos e, hx]; simp [e]
  · rw [if_neg e]; simp [e]
theorem refs_kind {o : OpM} : (o.kind = 2 ∨ o.kind = 3 → refsM o = [o.at']) ∧ (o.kind = 4 → refsM o = [o.at', o.to]) ∧ (o.kind = 1 → refsM o = []) := by
  unfold refsM
  refine ⟨fun h => ?_, fun h => ?_, fun h => ?_⟩
  · rcases h with h | h <;> simp [h]
  · simp [h]
  · simp [h]
theorem suits_kinds {id : PidM} {i : Nat} {o : OpM} {ops : List OpM} (h : opGood id i o = true) (ho : ops[i]? = some o) : (decide (o.kind = 5) || suitsM id ops o) = kindsR id ops o := by
  have hk := opTail_kind (opGood_tail h)
  have hs : suitsM id ops o = ((refsM o).all (fun v => ownM id ops v (wantK o)) && sameAtB id ops o) := by
    unfold suitsM
    congr 1
    rw [Bool.eq_iff_iff, List.all_eq_true, List.all_eq_true]
    exact forall₂_congr fun v hv => by rw [kindOk_own h ho hv]
  rw [hs]
  rcases hk with h1 | h1 | h1 | h1 | ⟨h1, _⟩
  · unfold kindsR sameAtB
    rw [(refs_kind).2.2 h1]
    simp [h1]
  · unfold kindsR sameAtB wantK
    rw [(refs_kind).1 (.inl h1)]
    simp [h1]
  · unfold kindsR sameAtB wantK
    rw [(refs_kind).1 (.inr h1)]
    simp [h1]
  · unfold kindsR sameAtB wantK
    rw [(refs_kind).2.1 h1]
    simp only [h1]
    by_cases ha : o.at'.pid = id <;> by_cases hb : o.to.pid = id <;> simp [ha, hb, Bool.and_assoc]
  · unfold kindsR
    simp [h1]
theorem one_same {id : PidM} {i : Nat} {o : OpM} {ops : List OpM} (ho : ops[i]? = some o) : oneP id ops i o = oneR id ops i o := by
  unfold oneP oneR
  cases h : opGood id i o with
  | false => rfl
  | true =>
    rw [suits_kinds h ho]
    have hm : (!makesB o.kind) = decide (4 ≤ o.kind.toNat) := by
      rcases opTail_kind (opGood_tail h) with h1 | h1 | h1 | h1 | ⟨h1, _⟩ <;> rw [h1] <;> decide
    rw [hm, Bool.and_comm (decide (o ∈ ops.take i)), Bool.and_comm (kindsR id ops o)]
theorem goodQ_eq (p : PatchM) : goodQ p.id p.deps p.ops = goodP p := by
  rw [← goodR_eq]
  unfold goodQ goodR
  have : loopP p.id p.ops = loopR p.id p.ops := by
    unfold loopP loopR
    rw [Bool.eq_iff_iff, List.all_eq_true, List.all_eq_true]
    refine forall₂_congr fun i hi => ?_
    obtain ⟨o, ho⟩ := get_of_lt (List.mem_range.1 hi)
    rw [ho]; simp only [one_same ho]
  rw [this]
end Go.Proofs.YtfciedmmgddgpaaGreatDoor
namespace Go.Proofs.YtfciedmmgddgpaaGreatDoor
open Go Go.RowKit

theorem bcell {W w1 : World} (hb : Below W.heap.size W w1) : (∀ b o, b < W.heap.size → w1.cell? ⟨b, o, none⟩ = W.cell? ⟨b, o, none⟩) ∧ (∀ b o, b < W.heap.size → w1.frozen? ⟨b, o, none⟩ = W.frozen? ⟨b, o, none⟩) :=
  ⟨fun b o h => hb.cell (p := ⟨b, o, none⟩) h, fun b o h => hb.frozen (p := ⟨b, o, none⟩) h⟩
def gCells (f : VecM) (bv be : Nat) : List Value := vecL f ++ [.map (some bv), .map (some be)]
theorem gCells_v (f : VecM) (bv be : Nat) : (gCells f bv be)[64]? = some (.map (some bv)) := by
  unfold gCells; rw [List.getElem?_append_right (by rw [vecL_len]; omega), vecL_len]; rfl
theorem gCells_e (f : VecM) (bv be : Nat) : (gCells f bv be)[65]? = some (.map (some be)) := by
  unfold gCells; rw [List.getElem?_append_right (by rw [vecL_len]; omega), vecL_len]; rfl
abbrev VMap (w : World) (b n : Nat) (f : VidM → Option VertM) : Prop := TMap Tryz.prog 27 vidV okAll vertV w b n f
abbrev EMap (w : World) (b n : Nat) (f : EdgeM → Option VidM) : Prop := TMap Tryz.prog 99 edgeV okAll vidV w b n f
/-- block b is a graph: the vector f, the vertices v, the steps e -/
structure GrW (w : World) (b bv be n : Nat) (f : VecM) (v : VidM → Option VertM) (e : EdgeM → Option VidM) : Prop where
  arr : Arr w b (gCells f bv be)
  verts : VMap w bv n v
  edges : EMap w be n e
  ne : bv ≠ be
/-- block b is the graph of the patches L -/
def GrAt (w : World) (b : Nat) (L : List PatchM) : Prop := ∃ bv be n, n ≤ 256 * L.length ∧ GrW w b bv be n (vecM L) (vertM L) (edgeM L)
theorem GrW.over {w w' : World} {b bv be n : Nat} {f : VecM} {v : VidM → Option VertM} {e : EdgeM → Option VidM} (h : GrW w b bv be n f v e) (hb : Below w.heap.size w w') : GrW w' b bv be n f v e := ⟨h.arr.over hb, h.verts.over hb, h.edges.over hb, h.ne⟩
theorem GrAt.over {w w' : World} {b : Nat} {L : List PatchM} (h : GrAt w b L) (hb : Below w.heap.size w w') : GrAt w' b L := by
  obtain ⟨bv, be, n, hn, h⟩ := h; exact ⟨bv, be, n, hn, h.over hb⟩
theorem zero_vert (u : World) : (zeroValue 68).run Tryz.prog u = .ok (vertV noVert) u := by kernel_rfl
theorem zero_vid (u : World) : (zeroValue 27).run Tryz.prog u = .ok (vidV noVid) u := by kernel_rfl
theorem rowVert : RowT Tryz.prog 68 9 := rowT_of Tryz.underlying68 rfl (by kernel_rfl)
def optV (x : Option VertM) : VertM := x.getD noVert
theorem vecM_nil : vecM [] = fun _ => 0 := by funext a; simp [vecM]
theorem vertM_nil : vertM [] = fun _ => none := by funext v; simp [vertM, vertOp]
theorem edgeM_nil : edgeM [] = fun _ => none := by funext e; simp [edgeM, hasE]
theorem vecL_zero : vecL (fun _ => 0) = List.replicate 64 (.int .u16 0) := by
  unfold vecL
  rw [List.map_const']; simp
def NewRes (w : World) (e : Ending) (w' : World) : Prop := ∃ b bv be, e = .returned (.pointer (some ⟨b, 0, none⟩)) ∧ w.heap.size ≤ b ∧ w.heap.size ≤ bv ∧ w.heap.size ≤ be ∧ GrW w' b bv be 0 (vecM []) (vertM []) (edgeM []) ∧ Below w.heap.size w w'
theorem TMap.made_at {P : Program} {k : TypeId} {κ ν : Type} {kenc : κ → Value} {ok : κ → Prop} {venc : ν → Value} {w : World} {b : Nat} (h : w.heap[b]? = some (.map #[] 0)) : TMap P k kenc ok venc w b 0 (fun _ => none) := by
  have h0 : TMap P k kenc ok venc (({ w with heap := w.heap.extract 0 0 } : World).alloc (.map #[] 0)) ({ w with heap := w.heap.extract 0 0 } : World).heap.size 0 (fun _ => none) := TMap.made _
  obtain ⟨D, ⟨es, clock, h1, h2⟩, h3⟩ := h0
  have e1 := (MapKept.heap_alloc ({ w with heap := w.heap.extract 0 0 } : World) (.map #[] 0)).1
  rw [e1] at h1
  cases h1
  exact ⟨D, ⟨#[], 0, h, h2⟩, h3⟩
set_option maxRecDepth 100000 in
theorem gcells_new (a b : Nat) : ((Tryz.zeroCells93.setIfInBounds 64 (.map (some a))).setIfInBounds 65 (.map (some b))).toList = gCells (fun _ => 0) a b := by
  unfold gCells; rw [vecL_zero]; rfl
theorem new_mk (w : World) (cs : Array Value) (e : TypeId) (h : cs.toList = gCells (fun _ => 0) w.heap.size (w.heap.size + 1)) :
    NewRes w (.returned (.pointer (some ⟨w.heap.size + 1 + 1, 0, none⟩))) (((w.alloc (.map #[] 0)).alloc (.map #[] 0)).alloc (.cells cs e)) := by
  have e1 : ((w.alloc (.map #[] 0)).alloc (.map #[] 0)).heap.size = w.heap.size + 1 + 1 := by simp
  refine ⟨_, w.heap.size, w.heap.size + 1, rfl, (by omega), Nat.le_refl _, (by omega), ⟨?_, ?_, ?_, by omega⟩, ((below_new (w := w) _).alloc (by simp) _).alloc (by simp; omega) _⟩
  · rw [vecM_nil, ← h]; exact arr_new3 w _ _ _ _
  · rw [vertM_nil]
    refine TMap.made_at ?_
    rw [(MapKept.heap_alloc _ _).2 _ (by simp; omega), (MapKept.heap_alloc _ _).2 _ (by simp), (MapKept.heap_alloc _ _).1]
  · rw [edgeM_nil]
    refine TMap.made_at ?_
    rw [(MapKept.heap_alloc _ _).2 _ (by simp)]
    have := (MapKept.heap_alloc (w.alloc (.map #[] 0)) (.map #[] 0)).1
    simpa using this
set_option maxHeartbeats 4000000 in
set_option maxRecDepth 100000 in
theorem gnew_any (w : World) : Calls Tryz.prog 18 #[] w (NewRes w) := by
  have hmm := @run_makeMap Tryz.prog
  go_enter Tryz.func18, Tryz.ntmps18
  go_wp2_with fail
  go_ret
  exact new_mk w _ _ (gcells_new _ _)
end Go.Proofs.YtfciedmmgddgpaaGreatDoor
