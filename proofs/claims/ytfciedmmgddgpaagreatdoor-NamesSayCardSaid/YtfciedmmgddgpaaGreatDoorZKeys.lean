/- Contracts of patch.kind, suits. Names, steps and operations as keys of maps; 'm[k]++' on such a map. -/
import Derived.Test.YtfciedmmgddgpaaGreatDoorZPLater
import Derived.Test.YtfciedmmgddgpaaGreatDoorZMap
import Derived.Test.YtfciedmmgddgpaaGreatDoorZEqs
import Derived.WideKeyEntry
import Derived.RegionTactic
namespace Go.Proofs.YtfciedmmgddgpaaGreatDoor
open Go Go.RowKit

abbrev patV (id : PidM) (dv ov : Value) : Value := .agg #[.int .u8 (id.author.toNat : Int), .int .u16 (id.seq.toNat : Int), dv, ov]
/-- the kind of a vertex, if it is of the patch itself -/
def kindM (id : PidM) (ops : List OpM) (v : VidM) : Option UInt8 := if v.pid = id then (ops[v.n.toNat]?).map (·.kind) else none
def kindV (k : Option UInt8) : Value := .tuple #[.int .u8 ((k.getD 0).toNat : Int), .bool k.isSome]
def KindRes (w : World) (k : Option UInt8) (e : Ending) (w' : World) : Prop := e = .returned (kindV k) ∧ Below w.heap.size w w'
theorem kind_far {id : PidM} {ops : List OpM} {v : VidM} (h : ¬ v.pid = id) : kindM id ops v = none := by unfold kindM; rw [if_neg h]
theorem kind_out {id : PidM} {ops : List OpM} {v : VidM} (h : ops.length ≤ v.n.toNat) : kindM id ops v = none := by
  unfold kindM; split
  · rw [List.getElem?_eq_none h]; rfl
  · rfl
theorem kind_in {id : PidM} {ops : List OpM} {v : VidM} (h : v.pid = id) {o : OpM} (ho : ops[v.n.toNat]? = some o) : kindM id ops v = some o.kind := by unfold kindM; rw [if_pos h, ho]; rfl
theorem get_op {ops : List OpM} {n : Nat} (h : n < ops.length) : ∃ o, ops[n]? = some o := get_of_lt h
attribute [local irreducible] kindM
set_option maxHeartbeats 4000000 in
set_option maxRecDepth 100000 in
theorem pkind_any (id : PidM) (dv ov : Value) (ops : List OpM) (v : VidM) (w : World) (hv : GRow encOp 8 w ov ops) :
    Calls Tryz.prog 110 #[patV id dv ov, vidV v] w (KindRes w (kindM id ops v)) := by
  obtain ⟨a, cap, rfl, h1, h2, hc⟩ := hv.at encOp_len
  unfold maxLen at h2
  have HC := Lib.hid hc
  have HP := Lib.hid ((arr_new w #[.int .u8 (id.author.toNat : Int), .int .u16 (id.seq.toNat : Int), dv, .slice a ops.length cap] 51).alloc (.cells #[.int .u8 (v.pid.author.toNat : Int), .int .u16 (v.pid.seq.toNat : Int), .int .u8 (v.n.toNat : Int)] 27))
  have HV := Lib.hid (arr_new2 w (.cells #[.int .u8 (id.author.toNat : Int), .int .u16 (id.seq.toNat : Int), dv, .slice a ops.length cap] 51) #[.int .u8 (v.pid.author.toNat : Int), .int .u16 (v.pid.seq.toNat : Int), .int .u8 (v.n.toNat : Int)] 27)
  have HB := Lib.hid ((below_new (w := w) (.cells #[.int .u8 (id.author.toNat : Int), .int .u16 (id.seq.toNat : Int), dv, .slice a ops.length cap] 51)).alloc (by simp) (.cells #[.int .u8 (v.pid.author.toNat : Int), .int .u16 (v.pid.seq.toNat : Int), .int .u8 (v.n.toNat : Int)] 27))
  have gd := fun p q xs ys w => guard_pid .neq p q xs ys w
  have hnl := v.n.toNat_lt
  clear hv hc
  unfold patV vidV
  go_enter Tryz.func110, Tryz.ntmps110
  go_upto_region 1 with (fail)
  generalize hw0 : (w.alloc (.cells #[.int .u8 (id.author.toNat : Int), .int .u16 (id.seq.toNat : Int), dv, .slice a ops.length cap] 51)).alloc (.cells #[.int .u8 (v.pid.author.toNat : Int), .int .u16 (v.pid.seq.toNat : Int), .int .u8 (v.n.toNat : Int)] 27) = w0 at *
  clear hw0
  have p0 := HP.out.cell (j := 0) rfl
  have p1 := HP.out.cell (j := 1) rfl
  have p2 := HP.out.cell (j := 2) rfl
  have p3 := HP.out.cell (j := 3) rfl
  have sp := HP.out.lt
  have v0 := HV.out.cell (j := 0) rfl
  have v1 := HV.out.cell (j := 1) rfl
  have v2 := HV.out.cell (j := 2) rfl
  have sv := HV.out.lt
  by_cases hp : v.pid = id
  · have e1 := neq_pid v.pid id false (by simp [hp])
    unfold pidV at e1
    by_cases hn : ops.length ≤ v.n.toNat
    · have e2 : decide (ops.length ≤ v.n.toNat) = true := by simpa using hn
      have HK := Lib.hid (kind_out (id := id) hn)
      clear hp hn
      go_wp2_with fail
      go_ret2
      exact ⟨(by rw [HK.out]; rfl), HB.out⟩
    · have e2 : decide (ops.length ≤ v.n.toNat) = false := by simpa using hn
      obtain ⟨b, off, rfl, sb, hcb⟩ := HC.out.resolve_left (by omega)
      obtain ⟨o, ho⟩ := get_op (show v.n.toNat < ops.length by omega)
      have HO := Lib.hid (hcb v.n.toNat o ho w0 HB.out)
      have HK := Lib.hid (kind_in hp ho)
      have o0 : w0.cell? ⟨b, off + v.n.toNat * 8, none⟩ = some (.int .u8 (o.kind.toNat : Int)) := HO.out.2 0 _ rfl
      have so := HO.out.1
      have hlt : v.n.toNat < ops.length := by omega
      clear hp hn hcb ho
      go_wp2_with fail
      go_ret2
      exact ⟨(by rw [HK.out]; rfl), HB.out⟩
  · have e1 := neq_pid v.pid id true (by simp [hp])
    unfold pidV at e1
    have HK := Lib.hid (kind_far (ops := ops) hp)
    clear hp
    go_wp2_with fail
    go_ret2
    exact ⟨(by rw [HK.out]; rfl), HB.out⟩

def wantK (o : OpM) : UInt8 := if o.kind = 4 then 3 else 1
def kindOkB (id : PidM) (ops : List OpM) (o : OpM) (v : VidM) : Bool := match kindM id ops v with | some k => k == wantK o | none => true
def sameAtB (id : PidM) (ops : List OpM) (o : OpM) : Bool := if o.kind = 4 ∧ o.at'.pid = id ∧ o.to.pid = id then decide ((ops[o.at'.n.toNat]?).map (·.at') = (ops[o.to.n.toNat]?).map (·.at')) else true
def suitsM (id : PidM) (ops : List OpM) (o : OpM) : Bool := (refsM o).all (kindOkB id ops o) && sameAtB id ops o
theorem want4 {o : OpM} (h : o.kind.toNat = 4) : wantK o = 3 := by unfold wantK; have : o.kind = 4 := (u8_nat _ 4 (by omega)).2 h; rw [if_pos this]
theorem want1 {o : OpM} (h : ¬ o.kind.toNat = 4) : wantK o = 1 := by unfold wantK; have : ¬ o.kind = 4 := fun e => h ((u8_nat _ 4 (by omega)).1 e); rw [if_neg this]
theorem suits_no {id : PidM} {ops : List OpM} {o : OpM} {k : Nat} {v : VidM} (hv : (refsM o)[k]? = some v) (h : kindOkB id ops o v = false) : suitsM id ops o = false := by
  unfold suitsM
  have : (refsM o).all (kindOkB id ops o) = false := List.all_eq_false.2 ⟨v, List.mem_of_getElem? hv, by simp [h]⟩
  rw [this]; rfl
theorem suits_end {id : PidM} {ops : List OpM} {o : OpM} (h : ((refsM o).take (refsM o).length).all (kindOkB id ops o) = true) : suitsM id ops o = sameAtB id ops o := by
  rw [List.take_length] at h; unfold suitsM; rw [h]; rfl
theorem all_take' {α : Type} {f : α → Bool} {l : List α} {k : Nat} {x : α} (hx : l[k]? = some x) (h : (l.take k).all f = true) (hf : f x = true) : (l.take (k + 1)).all f = true := by
  rw [take_succ_get hx, List.all_append, h]; simp [hf]
theorem sameAt_not {id : PidM} {ops : List OpM} {o : OpM} (h : ¬ (o.kind.toNat = 4 ∧ o.at'.pid = id ∧ o.to.pid = id)) : sameAtB id ops o = true := by
  unfold sameAtB; rw [if_neg]; rintro ⟨h1, h2, h3⟩; exact h ⟨(u8_nat _ 4 (by omega)).1 h1, h2, h3⟩
theorem sameAt_yes {id : PidM} {ops : List OpM} {o a b : OpM} (h : o.kind.toNat = 4) (h1 : o.at'.pid = id) (h2 : o.to.pid = id) (ha : ops[o.at'.n.toNat]? = some a) (hb : ops[o.to.n.toNat]? = some b) : sameAtB id ops o = decide (a.at' = b.at') := by
  unfold sameAtB; rw [if_pos ⟨(u8_nat _ 4 (by omega)).2 h, h1, h2⟩, ha, hb]; simp
attribute [local irreducible] refsM kindOkB sameAtB suitsM wantK
set_option maxHeartbeats 10000000 in
set_option maxRecDepth 100000 in
theorem psuits_any (id : PidM) (dv ov : Value) (ops : List OpM) (o : OpM) (w : World) (hv : GRow encOp 8 w ov ops) (hown : ∀ v ∈ refsM o, v.pid = id → v.n.toNat < ops.length) :
    Calls Tryz.prog 71 #[patV id dv ov, opV o] w fun e w' => e = .returned (.bool (suitsM id ops o)) ∧ Below w.heap.size w w' := by
  have HV0 := Lib.hid hv
  obtain ⟨a, cap, rfl, h1, h2, hc⟩ := hv.at encOp_len
  unfold maxLen at h2
  have HC := Lib.hid hc
  have HW := Lib.hid hown
  have HP := Lib.hid ((arr_new w #[.int .u8 (id.author.toNat : Int), .int .u16 (id.seq.toNat : Int), dv, .slice a ops.length cap] 51).alloc (.cells #[.int .u8 (o.kind.toNat : Int), .int .u8 (o.at'.pid.author.toNat : Int), .int .u16 (o.at'.pid.seq.toNat : Int), .int .u8 (o.at'.n.toNat : Int), .int .u8 (o.to.pid.author.toNat : Int), .int .u16 (o.to.pid.seq.toNat : Int), .int .u8 (o.to.n.toNat : Int), .string o.text] 56))
  have HO := Lib.hid (arr_new2 w (.cells #[.int .u8 (id.author.toNat : Int), .int .u16 (id.seq.toNat : Int), dv, .slice a ops.length cap] 51) #[.int .u8 (o.kind.toNat : Int), .int .u8 (o.at'.pid.author.toNat : Int), .int .u16 (o.at'.pid.seq.toNat : Int), .int .u8 (o.at'.n.toNat : Int), .int .u8 (o.to.pid.author.toNat : Int), .int .u16 (o.to.pid.seq.toNat : Int), .int .u8 (o.to.n.toNat : Int), .string o.text] 56)
  have HB := Lib.hid ((below_new (w := w) (.cells #[.int .u8 (id.author.toNat : Int), .int .u16 (id.seq.toNat : Int), dv, .slice a ops.length cap] 51)).alloc (by simp) (.cells #[.int .u8 (o.kind.toNat : Int), .int .u8 (o.at'.pid.author.toNat : Int), .int .u16 (o.at'.pid.seq.toNat : Int), .int .u8 (o.at'.n.toNat : Int), .int .u8 (o.to.pid.author.toNat : Int), .int .u16 (o.to.pid.seq.toNat : Int), .int .u8 (o.to.n.toNat : Int), .string o.text] 56))
  have gd := fun p q xs ys w => guard_pid .eql p q xs ys w
  have gd2 := fun p q xs ys w => guard_vid .eql p q xs ys w
  have hrl := refs_len o
  clear hv hc hown
  unfold patV opV
  go_enter Tryz.func71, Tryz.ntmps71
  go_upto_if 12 with (fail)
  generalize hw0 : (w.alloc (.cells #[.int .u8 (id.author.toNat : Int), .int .u16 (id.seq.toNat : Int), dv, .slice a ops.length cap] 51)).alloc (.cells #[.int .u8 (o.kind.toNat : Int), .int .u8 (o.at'.pid.author.toNat : Int), .int .u16 (o.at'.pid.seq.toNat : Int), .int .u8 (o.at'.n.toNat : Int), .int .u8 (o.to.pid.author.toNat : Int), .int .u16 (o.to.pid.seq.toNat : Int), .int .u8 (o.to.n.toNat : Int), .string o.text] 56) = w0 at *
  clear hw0
  have HV := Lib.hid (HV0.out.over HB.out)
  go_cut [5] (fun s5 wx => s5 = .int .u8 ((wantK o).toNat : Int) ∧ wx = w0)
  case first =>
    have o0 := HO.out.cell (j := 0) rfl
    have so := HO.out.lt
    by_cases h4 : o.kind.toNat = 4
    · have e1 : ((o.kind.toNat : Int) == 4) = true := by simp; omega
      have HWk := Lib.hid (want4 h4)
      clear h4
      go_wp2_with fail
      go_meet
      exact ⟨by rw [HWk.out]; rfl, rfl⟩
    · have e1 : ((o.kind.toNat : Int) == 4) = false := by simp; omega
      have HWk := Lib.hid (want1 h4)
      clear h4
      go_wp2_with fail
      go_meet
      exact ⟨by rw [HWk.out]; rfl, rfl⟩
  case rest =>
    obtain ⟨rfl, rfl⟩ := hcut
    rename World => w0
    have o0 := HO.out.cell (j := 0) rfl
    have o1 := HO.out.cell (j := 1) rfl
    have o2 := HO.out.cell (j := 2) rfl
    have o3 := HO.out.cell (j := 3) rfl
    have o4 := HO.out.cell (j := 4) rfl
    have o5 := HO.out.cell (j := 5) rfl
    have o6 := HO.out.cell (j := 6) rfl
    have o7 := HO.out.cell (j := 7) rfl
    have so := HO.out.lt
    go_wp2_with fail
    refine (prefs_any o _).mono ?_
    rintro e w1 ⟨v1, rfl, hv1, hb1⟩
    obtain ⟨a1, cap1, rfl, q1, q2, hc1⟩ := (GRow.at encVid_len (RefsAt.vrow hv1))
    unfold maxLen at q2
    have HC1 := Lib.hid hc1
    have HB1 := Lib.hid hb1
    clear hv1 hb1 hc1 o0 o1 o2 o3 o4 o5 o6 o7 so
    go_wp2_with fail
    go_loopw [16] (fun v16 wr => ∃ k : Nat, k ≤ (refsM o).length ∧ v16 = .int .i64 k ∧ Hid (((refsM o).take k).all (kindOkB id ops o) = true) ∧ Below w1.heap.size w1 wr) (fun v16 _ => (refsM o).length - (intOf v16).toNat)
    case atStart => exact ⟨0, by omega, rfl, (by show _ = _; simp), Below.refl _ _⟩
    case round =>
      obtain ⟨k, hk, rfl, HK, hbl⟩ := hrel
      have HBw := Lib.hid (below_over HB1.out HB1.out.size hbl)
      by_cases hlt : k < (refsM o).length
      · obtain ⟨b, off, rfl, sb, hcb⟩ := HC1.out.resolve_left (by omega)
        obtain ⟨v, hv⟩ := get_of_lt hlt
        have HVd := Lib.hid (hcb k v hv wr hbl)
        have v0 : wr.cell? ⟨b, off + k * 3, none⟩ = some (.int .u8 (v.pid.author.toNat : Int)) := (HVd.out).2 0 _ rfl
        have v1 : wr.cell? ⟨b, off + k * 3 + 1, none⟩ = some (.int .u16 (v.pid.seq.toNat : Int)) := (HVd.out).2 1 _ rfl
        have v2 : wr.cell? ⟨b, off + k * 3 + 2, none⟩ = some (.int .u8 (v.n.toNat : Int)) := (HVd.out).2 2 _ rfl
        have sv := HVd.out.1
        have HX := Lib.hid hv
        have HPw := Lib.hid ((HP.out.over HBw.out))
        have p0 := HPw.out.cell (j := 0) rfl
        have p1 := HPw.out.cell (j := 1) rfl
        have p2 := HPw.out.cell (j := 2) rfl
        have p3 := HPw.out.cell (j := 3) rfl
        have sp := HPw.out.lt
        have HBv : Hid (Below wr.heap.size wr (wr.alloc (.cells #[.int .u8 (v.pid.author.toNat : Int), .int .u16 (v.pid.seq.toNat : Int), .int .u8 (v.n.toNat : Int)] 27))) := below_new _
        have HVw := Lib.hid ((HV.out.over HBw.out).over HBv.out)
        clear hcb hv
        go_wp2_with fail
        refine (pkind_any id dv _ ops v _ HVw.out).mono ?_
        rintro e w2 ⟨rfl, hb2⟩
        have HB2 := Lib.hid (below_over (below_over hbl hbl.size HBv.out) (by have := hbl.size; simp; omega) hb2)
        have HB3 := Lib.hid (below_over HB.out HB.out.size (below_over HB1.out HB1.out.size HB2.out))
        clear hb2 v0 v1 v2 sv p0 p1 p2 p3 sp
        unfold kindV
        cases hkm : kindM id ops v with
        | none =>
          have HKo : Hid (kindOkB id ops o v = true) := by show _ = _; unfold kindOkB; rw [hkm]
          have HN := Lib.hid (all_take' HX.out HK.out HKo.out)
          clear hkm
          go_wp2_with fail
          go_roundw
          case rel => exact ⟨k + 1, hlt, by go_num, HN, HB2.out⟩
          case measure => simp [intOf]; omega
        | some q =>
          by_cases hq : q = wantK o
          · have HKo : Hid (kindOkB id ops o v = true) := by show _ = _; unfold kindOkB; rw [hkm]; simp [hq]
            have HN := Lib.hid (all_take' HX.out HK.out HKo.out)
            have e1 : ((q.toNat : Int) != ((wantK o).toNat : Int)) = false := by simp [hq]
            clear hkm hq
            go_wp2_with fail
            go_roundw
            case rel => exact ⟨k + 1, hlt, by go_num, HN, HB2.out⟩
            case measure => simp [intOf]; omega
          · have HKo : Hid (kindOkB id ops o v = false) := by show _ = _; unfold kindOkB; rw [hkm]; simp [hq]
            have HN := Lib.hid (suits_no HX.out HKo.out)
            have e1 : ((q.toNat : Int) != ((wantK o).toNat : Int)) = true := by
              simp; intro h; exact hq (UInt8.toNat_inj.1 (by omega))
            clear hkm hq
            go_wp2_with fail
            go_ret
            exact ⟨ret_val (congrArg Value.bool HN.out.symm), HB3.out⟩
      · obtain rfl : k = (refsM o).length := by omega
        have HE := Lib.hid (suits_end HK.out)
        have HBe := Lib.hid (below_over HB.out HB.out.size HBw.out)
        have HOw := Lib.hid ((HO.out.over HBw.out))
        have HPw := Lib.hid ((HP.out.over HBw.out))
        have o0 := HOw.out.cell (j := 0) rfl
        have o1 := HOw.out.cell (j := 1) rfl
        have o2 := HOw.out.cell (j := 2) rfl
        have o3 := HOw.out.cell (j := 3) rfl
        have o4 := HOw.out.cell (j := 4) rfl
        have o5 := HOw.out.cell (j := 5) rfl
        have o6 := HOw.out.cell (j := 6) rfl
        have so := HOw.out.lt
        have p0 := HPw.out.cell (j := 0) rfl
        have p1 := HPw.out.cell (j := 1) rfl
        have p3 := HPw.out.cell (j := 3) rfl
        have sp := HPw.out.lt
        by_cases h4 : o.kind.toNat = 4
        · have e1 : ((o.kind.toNat : Int) == 4) = true := by simp; omega
          by_cases ha : o.at'.pid = id
          · have e2 := eql_pid o.at'.pid id true (by simp [ha])
            unfold pidV at e2
            by_cases hb : o.to.pid = id
            · have e3 := eql_pid o.to.pid id true (by simp [hb])
              unfold pidV at e3
              have hr2 := refs_two h4
              have hla := HW.out o.at' (by rw [hr2]; simp) ha
              have hlb := HW.out o.to (by rw [hr2]; simp) hb
              obtain ⟨b, off, rfl, sb, hcb⟩ := HC.out.resolve_left (by omega)
              obtain ⟨x, hx⟩ := get_op hla
              obtain ⟨y, hy⟩ := get_op hlb
              have HXa := Lib.hid (hcb _ x hx wr HBe.out)
              have HYa := Lib.hid (hcb _ y hy wr HBe.out)
              have HS := Lib.hid (sameAt_yes h4 ha hb hx hy)
              have x1 : wr.cell? ⟨b, off + o.at'.n.toNat * 8 + 1, none⟩ = some (.int .u8 (x.at'.pid.author.toNat : Int)) := HXa.out.2 1 _ rfl
              have x2 : wr.cell? ⟨b, off + o.at'.n.toNat * 8 + 2, none⟩ = some (.int .u16 (x.at'.pid.seq.toNat : Int)) := HXa.out.2 2 _ rfl
              have x3 : wr.cell? ⟨b, off + o.at'.n.toNat * 8 + 3, none⟩ = some (.int .u8 (x.at'.n.toNat : Int)) := HXa.out.2 3 _ rfl
              have y1 : wr.cell? ⟨b, off + o.to.n.toNat * 8 + 1, none⟩ = some (.int .u8 (y.at'.pid.author.toNat : Int)) := HYa.out.2 1 _ rfl
              have y2 : wr.cell? ⟨b, off + o.to.n.toNat * 8 + 2, none⟩ = some (.int .u16 (y.at'.pid.seq.toNat : Int)) := HYa.out.2 2 _ rfl
              have y3 : wr.cell? ⟨b, off + o.to.n.toNat * 8 + 3, none⟩ = some (.int .u8 (y.at'.n.toNat : Int)) := HYa.out.2 3 _ rfl
              have sxy := HXa.out.1
              have e4 := eql_vid x.at' y.at' _ rfl
              unfold vidV at e4
              generalize decide (x.at' = y.at') = q at *
              have hna := o.at'.n.toNat_lt
              have hnb := o.to.n.toNat_lt
              clear h4 ha hb hr2 hcb hx hy
              go_wp2_with fail
              have hcur : Below wr.heap.size wr wr.drew := (Below.refl _ _).drew
              refine wp_region_lex (C := IsOver wr) 17 [] (by kernel_rfl) (by kernel_rfl) (isOver_of (by repeat (first | exact Below.refl _ _ | apply Below.drew | apply below_drewN | (refine Below.alloc ?_ (by simp) _)))) ?_
              simp only [List.take_succ_cons, List.take_zero, List.drop_succ_cons, List.drop_zero]
              repeat (first | (refine lex_skip rfl rfl ?_; simp only [Act.put, List.setIfInBounds_toArray, List.set_cons_succ, List.set_cons_zero]) | (refine lex_one rfl ?_; go_big_quiet_step (fail); refine wpQuiet_nil ?_))
              refine lex_end ?_
              go_wp2_with fail
              go_ret
              exact ⟨ret_val (congrArg Value.bool (HE.out.trans HS.out).symm), below_over HB.out HB.out.size (below_over HB1.out HB1.out.size hbl.drew)⟩
            · have e3 := eql_pid o.to.pid id false (by simp [hb])
              unfold pidV at e3
              have HS : Hid (sameAtB id ops o = true) := sameAt_not (fun h => hb h.2.2)
              clear h4 ha hb
              go_wp2_with fail
              go_ret
              exact ⟨ret_val (congrArg Value.bool (HE.out.trans HS.out).symm), HBe.out⟩
          · have e2 := eql_pid o.at'.pid id false (by simp [ha])
            unfold pidV at e2
            have HS : Hid (sameAtB id ops o = true) := sameAt_not (fun h => ha h.2.1)
            clear h4 ha
            go_wp2_with fail
            go_ret
            exact ⟨ret_val (congrArg Value.bool (HE.out.trans HS.out).symm), HBe.out⟩
        · have e1 : ((o.kind.toNat : Int) == 4) = false := by simp; omega
          have HS : Hid (sameAtB id ops o = true) := sameAt_not (fun h => h4 h.1)
          clear h4
          go_wp2_with fail
          go_ret
          exact ⟨ret_val (congrArg Value.bool (HE.out.trans HS.out).symm), HBe.out⟩
end Go.Proofs.YtfciedmmgddgpaaGreatDoor
namespace Go.Proofs.YtfciedmmgddgpaaGreatDoor
open Go Go.RowKit Go.WideElems
open Go.Maps (Keyed)

theorem cells_pidT : Tryz.prog.cellsOf 25 = 2 := by kernel_rfl
theorem cells_vidT : Tryz.prog.cellsOf 27 = 3 := by kernel_rfl
theorem cells_opT : Tryz.prog.cellsOf 56 = 8 := by kernel_rfl
theorem cells_edgeT : Tryz.prog.cellsOf 99 = 6 := by kernel_rfl
theorem cells_u8T : Tryz.prog.cellsOf 5 = 1 := by kernel_rfl
theorem cells_u16T : Tryz.prog.cellsOf 23 = 1 := by kernel_rfl
theorem cells_strT : Tryz.prog.cellsOf 9 = 1 := by kernel_rfl
theorem wf_u8 (a : UInt8) : (Lit.int .u8 (a.toNat : Int)).wf = true := by
  have := a.toNat_lt
  simp [Lit.wf, IntKind.min, IntKind.max, IntKind.bits, IntKind.signed]; omega
theorem wf_u16 (a : UInt16) : (Lit.int .u16 (a.toNat : Int)).wf = true := by
  have := a.toNat_lt
  simp [Lit.wf, IntKind.min, IntKind.max, IntKind.bits, IntKind.signed]; omega
theorem lits_u8 (d : Nat) (a : UInt8) : Tryz.prog.keyLits (d + 1) 5 [.int .u8 (a.toNat : Int)] = some [.int .u8 (a.toNat : Int)] := by
  unfold Program.keyLits; rw [Tryz.underlying5]; simp [wf_u8]
theorem lits_u16 (d : Nat) (a : UInt16) : Tryz.prog.keyLits (d + 1) 23 [.int .u16 (a.toNat : Int)] = some [.int .u16 (a.toNat : Int)] := by
  unfold Program.keyLits; rw [Tryz.underlying23]; simp [wf_u16]
theorem lits_str (d : Nat) (s : ByteArray) (h : s.size ≤ maxLen) : Tryz.prog.keyLits (d + 1) 9 [.string s] = some [.string s.data.toList] := by
  unfold Program.keyLits; rw [Tryz.underlying9]; simp [h]
theorem lits_pid (d : Nat) (p : PidM) : ∃ l, Tryz.prog.keyLits (d + 2) 25 (encPid p) = some l := by
  unfold Program.keyLits
  rw [Tryz.underlying25]
  simp [encPid, cells_pidT, cells_u8T, cells_u16T, lits_u8, lits_u16]
theorem lits_vid (d : Nat) (v : VidM) : ∃ l, Tryz.prog.keyLits (d + 3) 27 (encVid v) = some l := by
  unfold Program.keyLits
  rw [Tryz.underlying27]
  obtain ⟨l, hl⟩ := lits_pid d v.pid
  unfold encPid at hl
  simp [encVid, cells_pidT, cells_vidT, cells_u8T, lits_u8, hl]
theorem lits_op (d : Nat) (o : OpM) (h : o.text.size ≤ maxLen) : ∃ l, Tryz.prog.keyLits (d + 4) 56 (encOp o) = some l := by
  unfold Program.keyLits
  rw [Tryz.underlying56]
  obtain ⟨l, hl⟩ := lits_vid d o.at'
  obtain ⟨l', hl'⟩ := lits_vid d o.to
  unfold encVid at hl hl'
  simp [encOp, encVid, cells_opT, cells_vidT, cells_u8T, cells_strT, lits_u8, lits_str, h, hl, hl']
def encEdge (e : EdgeM) : List Value := encVid e.1 ++ encVid e.2
abbrev edgeV (e : EdgeM) : Value := .agg #[.int .u8 (e.1.pid.author.toNat : Int), .int .u16 (e.1.pid.seq.toNat : Int), .int .u8 (e.1.n.toNat : Int), .int .u8 (e.2.pid.author.toNat : Int), .int .u16 (e.2.pid.seq.toNat : Int), .int .u8 (e.2.n.toNat : Int)]
theorem lits_edge (d : Nat) (e : EdgeM) : ∃ l, Tryz.prog.keyLits (d + 4) 99 (encEdge e) = some l := by
  unfold Program.keyLits
  rw [Tryz.underlying99]
  obtain ⟨l, hl⟩ := lits_vid d e.1
  obtain ⟨l', hl'⟩ := lits_vid d e.2
  unfold encVid at hl hl'
  simp [encEdge, encVid, cells_edgeT, cells_vidT, hl, hl', List.range_succ]
theorem many_types : ∃ d, Tryz.prog.types.size + 1 = d + 4 := by
  have : 3 ≤ Tryz.prog.types.size := of_decide_eq_true (by kernel_rfl)
  exact ⟨Tryz.prog.types.size - 3, by omega⟩
theorem laidOut : laidOutB Tryz.prog = true := by kernel_rfl
theorem key_of {k : TypeId} {cs : Array Value} (hw : (match Tryz.prog.underlying k with | some (.array _ _) | some (.struct _) => true | _ => false) = true) (hk : Tryz.prog.keyType k = true) (hc : Tryz.prog.cellsOf k = cs.size)
    (h : ∃ l, Tryz.prog.keyLits (Tryz.prog.types.size + 1) k cs.toList = some l) : ∃ l, keyOf Tryz.prog k (.agg cs) = some l := by
  obtain ⟨l, hl⟩ := h
  unfold keyOf
  have hf : (Value.agg cs).formed Tryz.prog k = true := by
    unfold Value.formed
    cases hu : Tryz.prog.underlying k with
    | none => rw [hu] at hw; cases hw
    | some t => cases t <;> rw [hu] at hw <;> first | cases hw; done | simp [hc]
  cases hu : Tryz.prog.underlying k with
  | none => rw [hu] at hw; cases hw
  | some t =>
    cases t <;> rw [hu] at hw <;> first | (cases hw; done) | (simp only [hk, hf, Bool.and_self, if_true]; rw [show (Value.agg cs).cells = cs from rfl, hl]; exact ⟨_, rfl⟩)
theorem pidV_inj (x y : PidM) (h : pidV x = pidV y) : x = y := by
  unfold pidV at h
  simp only [Value.agg.injEq, Array.mk.injEq, List.cons.injEq, Value.int.injEq, and_true, true_and] at h
  cases x; cases y
  simp only at h
  rw [UInt8.toNat_inj.1 (Int.ofNat.inj h.1), UInt16.toNat_inj.1 (Int.ofNat.inj h.2)]
theorem vidV_inj (x y : VidM) (h : vidV x = vidV y) : x = y := by
  unfold vidV at h
  simp only [Value.agg.injEq, Array.mk.injEq, List.cons.injEq, Value.int.injEq, and_true, true_and] at h
  obtain ⟨⟨a, b⟩, c⟩ := x
  obtain ⟨⟨a', b'⟩, c'⟩ := y
  simp only at h
  rw [UInt8.toNat_inj.1 (Int.ofNat.inj h.1), UInt16.toNat_inj.1 (Int.ofNat.inj h.2.1), UInt8.toNat_inj.1 (Int.ofNat.inj h.2.2)]
theorem opV_inj (x y : OpM) (h : opV x = opV y) : x = y := by
  unfold opV at h
  simp only [Value.agg.injEq, Array.mk.injEq, List.cons.injEq, Value.int.injEq, Value.string.injEq, and_true, true_and] at h
  obtain ⟨k, ⟨⟨a, b⟩, c⟩, ⟨⟨d, e⟩, f⟩, s⟩ := x
  obtain ⟨k', ⟨⟨a', b'⟩, c'⟩, ⟨⟨d', e'⟩, f'⟩, s'⟩ := y
  simp only at h
  obtain ⟨h0, h1, h2, h3, h4, h5, h6, h7⟩ := h
  rw [UInt8.toNat_inj.1 (Int.ofNat.inj h0), UInt8.toNat_inj.1 (Int.ofNat.inj h1), UInt16.toNat_inj.1 (Int.ofNat.inj h2), UInt8.toNat_inj.1 (Int.ofNat.inj h3), UInt8.toNat_inj.1 (Int.ofNat.inj h4), UInt16.toNat_inj.1 (Int.ofNat.inj h5), UInt8.toNat_inj.1 (Int.ofNat.inj h6), h7]
theorem edgeV_inj (x y : EdgeM) (h : edgeV x = edgeV y) : x = y := by
  unfold edgeV at h
  simp only [Value.agg.injEq, Array.mk.injEq, List.cons.injEq, Value.int.injEq, and_true, true_and] at h
  obtain ⟨⟨⟨a, b⟩, c⟩, ⟨⟨d, e⟩, f⟩⟩ := x
  obtain ⟨⟨⟨a', b'⟩, c'⟩, ⟨⟨d', e'⟩, f'⟩⟩ := y
  simp only at h
  obtain ⟨h1, h2, h3, h4, h5, h6⟩ := h
  rw [UInt8.toNat_inj.1 (Int.ofNat.inj h1), UInt16.toNat_inj.1 (Int.ofNat.inj h2), UInt8.toNat_inj.1 (Int.ofNat.inj h3), UInt8.toNat_inj.1 (Int.ofNat.inj h4), UInt16.toNat_inj.1 (Int.ofNat.inj h5), UInt8.toNat_inj.1 (Int.ofNat.inj h6)]
theorem vertV_inj (x y : VertM) (h : vertV x = vertV y) : x = y := by
  unfold vertV at h
  simp only [Value.agg.injEq, Array.mk.injEq, List.cons.injEq, Value.int.injEq, Value.string.injEq, Value.bool.injEq, and_true, true_and] at h
  obtain ⟨⟨⟨a, b⟩, c⟩, k, ⟨⟨d, e⟩, f⟩, s, q⟩ := x
  obtain ⟨⟨⟨a', b'⟩, c'⟩, k', ⟨⟨d', e'⟩, f'⟩, s', q'⟩ := y
  simp only at h
  obtain ⟨h1, h2, h3, h0, h4, h5, h6, h7, h8⟩ := h
  rw [UInt8.toNat_inj.1 (Int.ofNat.inj h0), UInt8.toNat_inj.1 (Int.ofNat.inj h1), UInt16.toNat_inj.1 (Int.ofNat.inj h2), UInt8.toNat_inj.1 (Int.ofNat.inj h3), UInt8.toNat_inj.1 (Int.ofNat.inj h4), UInt16.toNat_inj.1 (Int.ofNat.inj h5), UInt8.toNat_inj.1 (Int.ofNat.inj h6), h7, h8]
theorem lawOp : WideMaps.KeyLaw Tryz.prog 56 := deep_law_laid laidOut (m := 4) (by omega) (of_decide_eq_true (by kernel_rfl)) (by kernel_rfl) (by kernel_rfl)
theorem lawVid : WideMaps.KeyLaw Tryz.prog 27 := deep_law_laid laidOut (m := 3) (by omega) (of_decide_eq_true (by kernel_rfl)) (by kernel_rfl) (by kernel_rfl)
theorem lawEdge : WideMaps.KeyLaw Tryz.prog 99 := deep_law_laid laidOut (m := 4) (by omega) (of_decide_eq_true (by kernel_rfl)) (by kernel_rfl) (by kernel_rfl)
def okOp (o : OpM) : Prop := o.text.size ≤ maxLen
def okAll {α : Type} (_ : α) : Prop := True
theorem keysOp : KeyEnc Tryz.prog 56 opV okOp := ⟨Keyed.of_law lawOp, fun o h => key_of (by kernel_rfl) (by kernel_rfl) cells_opT (by obtain ⟨d, hd⟩ := many_types; rw [hd]; exact lits_op d o h), opV_inj⟩
theorem keysVid : KeyEnc Tryz.prog 27 vidV okAll := ⟨Keyed.of_law lawVid, fun v _ => key_of (by kernel_rfl) (by kernel_rfl) cells_vidT (by obtain ⟨d, hd⟩ := many_types; rw [hd]; exact lits_vid (d + 1) v), vidV_inj⟩
theorem keysEdge : KeyEnc Tryz.prog 99 edgeV okAll := ⟨Keyed.of_law lawEdge, fun e _ => key_of (by kernel_rfl) (by kernel_rfl) cells_edgeT (by obtain ⟨d, hd⟩ := many_types; rw [hd]; exact lits_edge d e), edgeV_inj⟩

section
variable {P : Program} {k : TypeId} {κ ν : Type} {kenc : κ → Value} {ok : κ → Prop} {venc : ν → Value}
theorem TMap.block {w w' : World} {b n : Nat} {f : κ → Option ν} (h : TMap P k kenc ok venc w b n f) (hb : w'.heap[b]? = w.heap[b]?) : TMap P k kenc ok venc w' b n f := by
  obtain ⟨D, ⟨es, clock, h1, h2⟩, hH⟩ := h
  exact ⟨D, ⟨es, clock, hb.trans h1, h2⟩, hH⟩
/-- 'mapEntry', then 'entryStore' -/
theorem TMap.entry [DecidableEq κ] (KE : KeyEnc P k kenc ok) (KL : WideMaps.KeyLaw P k) (hv : ∀ x y, venc x = venc y → x = y) {w : World} {b n : Nat} {f : κ → Option ν} (h : TMap P k kenc ok venc w b n f) {t e : TypeId} (ht : P.underlying t = some (.map k e)) {zv : ν}
    (hz : ∀ u : World, (zeroValue e).run P u = .ok (venc zv) u) (hn : n < maxLen) (x : κ) (hx : ok x) :
    ∃ v0 st w1, (Instr.mapEntry t (.map (some b)) (kenc x)).run P w = .ok (.tuple #[v0, .int .i64 (st : Nat)]) w1 ∧ w.grownBy w1 (some b) ∧ w1.heap.size = w.heap.size ∧
      (Instr.lookup t (.map (some b)) (kenc x) false).run P w1 = .ok (venc ((f x).getD zv)) w1 ∧
      ∀ (w2 : World) (v : ν), w2.heap[b]? = w1.heap[b]? → ∃ w3, (Instr.entryStore t (.map (some b)) (.int .i64 (st : Nat)) (venc v)).run P w2 = .ok () w3 ∧ TMap P k kenc ok venc w3 b (n + 1) (updM f x v) ∧ w2.grownBy w3 (some b) ∧ w3.heap.size = w2.heap.size := by
  have hlt := h.lt
  have hst := fun v => h.store KE hv ht hn x hx v
  have hl0 := h.lookup KE hv ht (hz w) x hx
  have hlk := h.look_ok KE hv ht (hz w) x hx
  have hwhole := h
  obtain ⟨l, hl⟩ := KE.reads x hx
  obtain ⟨D, ⟨es, clock, hb, F, _, _⟩, hH⟩ := h
  obtain ⟨v0, st, es1, clock1, h1, h2, h3⟩ := entry_then_store KL ht hz hb F hl
  have hg : ∀ (w : World) (es : Array MapEntry) (clock : Nat) (o : Obj), w.heap[b]? = some (.map es clock) → w.grownBy (Go.ChangeMaps.setBlock w b o) (some b) ∧ (Go.ChangeMaps.setBlock w b o).heap[b]? = some o ∧ (Go.ChangeMaps.setBlock w b o).heap.size = w.heap.size := fun w es clock o hb =>
    ⟨⟨rfl, rfl, rfl, by simp [Go.ChangeMaps.setBlock], fun i _ hi => Go.ChangeMaps.heap_setBlock_other hb o (fun e => hi (by rw [e]))⟩, Go.ChangeMaps.heap_setBlock_same hb o, by simp [Go.ChangeMaps.setBlock]⟩
  obtain ⟨g1, g2, g3⟩ := hg w es clock (.map es1 clock1) hb
  have hM1 : ∃ f1 : κ → Option ν, TMap P k kenc ok venc (Go.ChangeMaps.setBlock w b (.map es1 clock1)) b (n + 1) f1 ∧ (f1 x).getD zv = (f x).getD zv := by
    rcases KE.keyed.find w hl es.toList F.keys with ⟨q1, q2⟩ | ⟨j, e0, q1, q2, q3⟩
    · have hrun : (Instr.mapEntry t (.map (some b)) (kenc x)).run P w = .ok (.tuple #[venc zv, goInt clock]) (Go.ChangeMaps.setBlock w b (.map (es.push ⟨kenc x, venc zv, clock⟩) (clock + 1))) := by
        simp [Instr.mapEntry, run_underlying ht, MapKept.run_getObj_map hb, KE.keyed.check w false hl, q1, hz, MapKept.run_setObj_map _ hb, Result.andThen, Go.ChangeMaps.setBlock]
      have hupd : (Instr.mapUpdate t (.map (some b)) (kenc x) (venc zv)).run P w = .ok () (Go.ChangeMaps.setBlock w b (.map (es.push ⟨kenc x, venc zv, clock⟩) (clock + 1))) := by
        simp [Instr.mapUpdate, run_underlying ht, MapKept.run_getObj_map hb, KE.keyed.check w false hl, q1, MapKept.run_setObj_map _ hb, Result.andThen, Go.ChangeMaps.setBlock]
      obtain ⟨w', r1, r2, _⟩ := hst zv
      rw [hupd] at r1
      have e1 := (Result.ok.inj r1).2
      rw [h1] at hrun
      have e2 := (Result.ok.inj hrun).2
      refine ⟨_, by rw [e2, e1]; exact r2, ?_⟩
      have : f x = none := by
        obtain ⟨a1, a2⟩ := hH.at' x hx l hl
        cases hf : f x with
        | none => rfl
        | some y =>
          exfalso
          have hl1 := hl0
          rw [hf] at hl1
          have : (Instr.lookup t (.map (some b)) (kenc x) true).run P w = .ok (.tuple #[venc zv, .bool false]) w := by
            simp [Instr.lookup, run_underlying ht, MapKept.run_getObj_map hb, KE.keyed.check w _ hl, q1, hz, Result.andThen]
          rw [hlk] at this
          have := (Result.ok.inj this).1
          simp [hf] at this
      simp [updM, this]
    · have hj : es[j]? = some e0 := by simpa using q2
      have hsame : es.modify j (fun e => { e with key := kenc x }) = es := by
        apply Array.ext'
        rw [Array.toList_modify, Go.ChangeMaps.modify_eq_set _ _ _ _ q2]
        have : ({ e0 with key := kenc x } : MapEntry) = e0 := by rw [← q3]
        rw [this]
        exact set_self _ _ _ q2
      have hrun : (Instr.mapEntry t (.map (some b)) (kenc x)).run P w = .ok (.tuple #[e0.val, goInt e0.born]) (Go.ChangeMaps.setBlock w b (.map es clock)) := by
        simp [Instr.mapEntry, run_underlying ht, MapKept.run_getObj_map hb, KE.keyed.check w false hl, q1, hj, q3, KE.keyed.stays w hl, hsame, MapKept.run_setObj_map _ hb, Result.andThen, Go.ChangeMaps.setBlock]
      rw [h1] at hrun
      have e2 := (Result.ok.inj hrun).2
      refine ⟨f, ?_, rfl⟩
      rw [e2]
      refine (hwhole.block ?_).mono (Nat.le_succ n)
      rw [(hg w es clock (.map es clock) hb).2.1, hb]
  obtain ⟨f1, m1, m2⟩ := hM1
  refine ⟨v0, st, _, h1, g1, g3, ?_, fun w2 v hw2 => ?_⟩
  · rw [← m2]
    exact m1.lookup KE hv ht (hz _) x hx
  · obtain ⟨es', clock', r1, r2⟩ := h3 w2 (venc v) (hw2.trans g2)
    obtain ⟨w', s1, s2, _⟩ := hst v
    rw [r2] at s1
    have e1 := (Result.ok.inj s1).2
    obtain ⟨k1, k2, k3⟩ := hg w2 es1 clock1 (.map es' clock') (hw2.trans g2)
    refine ⟨_, r1, s2.block ?_, k1, k3⟩
    rw [k2, ← e1, (hg w es clock (.map es' clock') hb).2.1]
end
end Go.Proofs.YtfciedmmgddgpaaGreatDoor
