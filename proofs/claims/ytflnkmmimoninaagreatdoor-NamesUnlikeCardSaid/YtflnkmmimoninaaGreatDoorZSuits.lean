/- Contracts of patch.kind, suits. -/
import Derived.Test.YtflnkmmimoninaaGreatDoorZPLater
namespace Go.Proofs.YtflnkmmimoninaaGreatDoor
open Go Go.RowKit

abbrev patV (id : PidM) (dv ov : Value) : Value := .agg #[.int .u8 (id.author.toNat : Int), .int .u16 (id.seq.toNat : Int), dv, ov]
/-- the kind of a vertex, if it is of the patch itself -/
def kindM (id : PidM) (ops : List OpM) (v : VidM) : Option UInt8 := if v.pid = id then (ops[v.n.toNat]?).map (·.kind) else none
def kindV (k : Option UInt8) : Value := .tuple #[.int .u8 ((k.getD 0).toNat : Int), .bool k.isSome]
def KindRes (w : World) (k : Option UInt8) (e : Ending) (w' : World) : Prop := e = .returned (kindV k) ∧ Below w.heap.size w w'
theorem kind_far {id : PidM} {ops : List OpM} {v : VidM} (h : ¬ v.pid = id) : kindM id ops v = none := by unfold kindM; rw [if_neg h]
theorem kind_out {id : PidM} {ops : List OpM} {v : VidM} (h : ops.length ≤ v.n.toNat) : kindM id ops v = none := by
  unfold kindM; split
  · rw [List.getElem?_eq_none h]; rfl
  · rfl
theorem kind_in {id : PidM} {ops : List OpM} {v : VidM} (h : v.pid = id) {o : OpM} (ho : ops[v.n.toNat]? = some o) : kindM id ops v = some o.kind := by unfold kindM; rw [if_pos h, ho]; rfl
theorem get_op {ops : List OpM} {n : Nat} (h : n < ops.length) : ∃ o, ops[n]? = some o := get_of_lt h
attribute [local irreducible] kindM
set_option maxHeartbeats 4000000 in
set_option maxRecDepth 100000 in
theorem pkind_any (id : PidM) (dv ov : Value) (ops : List OpM) (v : VidM) (w : World) (hv : GRow encOp 8 w ov ops) :
    Calls Tryz.prog 111 #[patV id dv ov, vidV v] w (KindRes w (kindM id ops v)) := by
  obtain ⟨a, cap, rfl, h1, h2, hc⟩ := hv.at encOp_len
  unfold maxLen at h2
  have HC := Lib.hid hc
  have HP := Lib.hid ((arr_new w #[.int .u8 (id.author.toNat : Int), .int .u16 (id.seq.toNat : Int), dv, .slice a ops.length cap] 61).alloc (.cells #[.int .u8 (v.pid.author.toNat : Int), .int .u16 (v.pid.seq.toNat : Int), .int .u8 (v.n.toNat : Int)] 27))
  have HV := Lib.hid (arr_new2 w (.cells #[.int .u8 (id.author.toNat : Int), .int .u16 (id.seq.toNat : Int), dv, .slice a ops.length cap] 61) #[.int .u8 (v.pid.author.toNat : Int), .int .u16 (v.pid.seq.toNat : Int), .int .u8 (v.n.toNat : Int)] 27)
  have HB := Lib.hid ((below_new (w := w) (.cells #[.int .u8 (id.author.toNat : Int), .int .u16 (id.seq.toNat : Int), dv, .slice a ops.length cap] 61)).alloc (by simp) (.cells #[.int .u8 (v.pid.author.toNat : Int), .int .u16 (v.pid.seq.toNat : Int), .int .u8 (v.n.toNat : Int)] 27))
  have gd := fun p q xs ys w => guard_pid .neq p q xs ys w
  have hnl := v.n.toNat_lt
  clear hv hc
  unfold patV vidV
  go_enter Tryz.func111, Tryz.ntmps111
  go_upto_region 1 with (fail)
  generalize hw0 : (w.alloc (.cells #[.int .u8 (id.author.toNat : Int), .int .u16 (id.seq.toNat : Int), dv, .slice a ops.length cap] 61)).alloc (.cells #[.int .u8 (v.pid.author.toNat : Int), .int .u16 (v.pid.seq.toNat : Int), .int .u8 (v.n.toNat : Int)] 27) = w0 at *
  clear hw0
  have p0 := HP.out.cell (j := 0) rfl
  have p1 := HP.out.cell (j := 1) rfl
  have p2 := HP.out.cell (j := 2) rfl
  have p3 := HP.out.cell (j := 3) rfl
  have sp := HP.out.lt
  have v0 := HV.out.cell (j := 0) rfl
  have v1 := HV.out.cell (j := 1) rfl
  have v2 := HV.out.cell (j := 2) rfl
  have sv := HV.out.lt
  by_cases hp : v.pid = id
  · have e1 := neq_pid v.pid id false (by simp [hp])
    unfold pidV at e1
    by_cases hn : ops.length ≤ v.n.toNat
    · have e2 : decide (ops.length ≤ v.n.toNat) = true := by simpa using hn
      have HK := Lib.hid (kind_out (id := id) hn)
      clear hp hn
      go_wp2_with fail
      go_ret2
      exact ⟨(by rw [HK.out]; rfl), HB.out⟩
    · have e2 : decide (ops.length ≤ v.n.toNat) = false := by simpa using hn
      obtain ⟨b, off, rfl, sb, hcb⟩ := HC.out.resolve_left (by omega)
      obtain ⟨o, ho⟩ := get_op (show v.n.toNat < ops.length by omega)
      have HO := Lib.hid (hcb v.n.toNat o ho w0 HB.out)
      have HK := Lib.hid (kind_in hp ho)
      have o0 : w0.cell? ⟨b, off + v.n.toNat * 8, none⟩ = some (.int .u8 (o.kind.toNat : Int)) := HO.out.2 0 _ rfl
      have so := HO.out.1
      have hlt : v.n.toNat < ops.length := by omega
      clear hp hn hcb ho
      go_wp2_with fail
      go_ret2
      exact ⟨(by rw [HK.out]; rfl), HB.out⟩
  · have e1 := neq_pid v.pid id true (by simp [hp])
    unfold pidV at e1
    have HK := Lib.hid (kind_far (ops := ops) hp)
    clear hp
    go_wp2_with fail
    go_ret2
    exact ⟨(by rw [HK.out]; rfl), HB.out⟩

def wantK (o : OpM) : UInt8 := if o.kind = 4 then 3 else 1
def kindOkB (id : PidM) (ops : List OpM) (o : OpM) (v : VidM) : Bool := match kindM id ops v with | some k => k == wantK o | none => true
def sameAtB (id : PidM) (ops : List OpM) (o : OpM) : Bool := if o.kind = 4 ∧ o.at'.pid = id ∧ o.to.pid = id then decide ((ops[o.at'.n.toNat]?).map (·.at') = (ops[o.to.n.toNat]?).map (·.at')) else true
def suitsM (id : PidM) (ops : List OpM) (o : OpM) : Bool := (refsM o).all (kindOkB id ops o) && sameAtB id ops o
theorem want4 {o : OpM} (h : o.kind.toNat = 4) : wantK o = 3 := by unfold wantK; have : o.kind = 4 := (u8_nat _ 4 (by omega)).2 h; rw [if_pos this]
theorem want1 {o : OpM} (h : ¬ o.kind.toNat = 4) : wantK o = 1 := by unfold wantK; have : ¬ o.kind = 4 := fun e => h ((u8_nat _ 4 (by omega)).1 e); rw [if_neg this]
theorem suits_no {id : PidM} {ops : List OpM} {o : OpM} {k : Nat} {v : VidM} (hv : (refsM o)[k]? = some v) (h : kindOkB id ops o v = false) : suitsM id ops o = false := by
  unfold suitsM
  have : (refsM o).all (kindOkB id ops o) = false := List.all_eq_false.2 ⟨v, List.mem_of_getElem? hv, by simp [h]⟩
  rw [this]; rfl
theorem suits_end {id : PidM} {ops : List OpM} {o : OpM} (h : ((refsM o).take (refsM o).length).all (kindOkB id ops o) = true) : suitsM id ops o = sameAtB id ops o := by
  rw [List.take_length] at h; unfold suitsM; rw [h]; rfl
theorem all_take' {α : Type} {f : α → Bool} {l : List α} {k : Nat} {x : α} (hx : l[k]? = some x) (h : (l.take k).all f = true) (hf : f x = true) : (l.take (k + 1)).all f = true := by
  rw [take_succ_get hx, List.all_append, h]; simp [hf]
theorem sameAt_not {id : PidM} {ops : List OpM} {o : OpM} (h : ¬ (o.kind.toNat = 4 ∧ o.at'.pid = id ∧ o.to.pid = id)) : sameAtB id ops o = true := by
  unfold sameAtB; rw [if_neg]; rintro ⟨h1, h2, h3⟩; exact h ⟨(u8_nat _ 4 (by omega)).1 h1, h2, h3⟩
theorem sameAt_yes {id : PidM} {ops : List OpM} {o a b : OpM} (h : o.kind.toNat = 4) (h1 : o.at'.pid = id) (h2 : o.to.pid = id) (ha : ops[o.at'.n.toNat]? = some a) (hb : ops[o.to.n.toNat]? = some b) : sameAtB id ops o = decide (a.at' = b.at') := by
  unfold sameAtB; rw [if_pos ⟨(u8_nat _ 4 (by omega)).2 h, h1, h2⟩, ha, hb]; simp
attribute [local irreducible] refsM kindOkB sameAtB suitsM wantK
set_option maxHeartbeats 10000000 in
set_option maxRecDepth 100000 in
theorem psuits_any (id : PidM) (dv ov : Value) (ops : List OpM) (o : OpM) (w : World) (hv : GRow encOp 8 w ov ops) (hown : ∀ v ∈ refsM o, v.pid = id → v.n.toNat < ops.length) :
    Calls Tryz.prog 74 #[patV id dv ov, opV o] w fun e w' => e = .returned (.bool (suitsM id ops o)) ∧ Below w.heap.size w w' := by
  have HV0 := Lib.hid hv
  obtain ⟨a, cap, rfl, h1, h2, hc⟩ := hv.at encOp_len
  unfold maxLen at h2
  have HC := Lib.hid hc
  have HW := Lib.hid hown
  have HP := Lib.hid ((arr_new w #[.int .u8 (id.author.toNat : Int), .int .u16 (id.seq.toNat : Int), dv, .slice a ops.length cap] 61).alloc (.cells #[.int .u8 (o.kind.toNat : Int), .int .u8 (o.at'.pid.author.toNat : Int), .int .u16 (o.at'.pid.seq.toNat : Int), .int .u8 (o.at'.n.toNat : Int), .int .u8 (o.to.pid.author.toNat : Int), .int .u16 (o.to.pid.seq.toNat : Int), .int .u8 (o.to.n.toNat : Int), .string o.text] 66))
  have HO := Lib.hid (arr_new2 w (.cells #[.int .u8 (id.author.toNat : Int), .int .u16 (id.seq.toNat : Int), dv, .slice a ops.length cap] 61) #[.int .u8 (o.kind.toNat : Int), .int .u8 (o.at'.pid.author.toNat : Int), .int .u16 (o.at'.pid.seq.toNat : Int), .int .u8 (o.at'.n.toNat : Int), .int .u8 (o.to.pid.author.toNat : Int), .int .u16 (o.to.pid.seq.toNat : Int), .int .u8 (o.to.n.toNat : Int), .string o.text] 66)
  have HB := Lib.hid ((below_new (w := w) (.cells #[.int .u8 (id.author.toNat : Int), .int .u16 (id.seq.toNat : Int), dv, .slice a ops.length cap] 61)).alloc (by simp) (.cells #[.int .u8 (o.kind.toNat : Int), .int .u8 (o.at'.pid.author.toNat : Int), .int .u16 (o.at'.pid.seq.toNat : Int), .int .u8 (o.at'.n.toNat : Int), .int .u8 (o.to.pid.author.toNat : Int), .int .u16 (o.to.pid.seq.toNat : Int), .int .u8 (o.to.n.toNat : Int), .string o.text] 66))
  have gd := fun p q xs ys w => guard_pid .eql p q xs ys w
  have gd2 := fun p q xs ys w => guard_vid .eql p q xs ys w
  have hrl := refs_len o
  clear hv hc hown
  unfold patV opV
  go_enter Tryz.func74, Tryz.ntmps74
  go_upto_if 12 with (fail)
  generalize hw0 : (w.alloc (.cells #[.int .u8 (id.author.toNat : Int), .int .u16 (id.seq.toNat : Int), dv, .slice a ops.length cap] 61)).alloc (.cells #[.int .u8 (o.kind.toNat : Int), .int .u8 (o.at'.pid.author.toNat : Int), .int .u16 (o.at'.pid.seq.toNat : Int), .int .u8 (o.at'.n.toNat : Int), .int .u8 (o.to.pid.author.toNat : Int), .int .u16 (o.to.pid.seq.toNat : Int), .int .u8 (o.to.n.toNat : Int), .string o.text] 66) = w0 at *
  clear hw0
  have HV := Lib.hid (HV0.out.over HB.out)
  go_cut [5] (fun s5 wx => s5 = .int .u8 ((wantK o).toNat : Int) ∧ wx = w0)
  case first =>
    have o0 := HO.out.cell (j := 0) rfl
    have so := HO.out.lt
    by_cases h4 : o.kind.toNat = 4
    · have e1 : ((o.kind.toNat : Int) == 4) = true := by simp; omega
      have HWk := Lib.hid (want4 h4)
      clear h4
      go_wp2_with fail
      go_meet
      exact ⟨by rw [HWk.out]; rfl, rfl⟩
    · have e1 : ((o.kind.toNat : Int) == 4) = false := by simp; omega
      have HWk := Lib.hid (want1 h4)
      clear h4
      go_wp2_with fail
      go_meet
      exact ⟨by rw [HWk.out]; rfl, rfl⟩
  case rest =>
    obtain ⟨rfl, rfl⟩ := hcut
    rename World => w0
    have o0 := HO.out.cell (j := 0) rfl
    have o1 := HO.out.cell (j := 1) rfl
    have o2 := HO.out.cell (j := 2) rfl
    have o3 := HO.out.cell (j := 3) rfl
    have o4 := HO.out.cell (j := 4) rfl
    have o5 := HO.out.cell (j := 5) rfl
    have o6 := HO.out.cell (j := 6) rfl
    have o7 := HO.out.cell (j := 7) rfl
    have so := HO.out.lt
    go_wp2_with fail
    refine (prefs_any o _).mono ?_
    rintro e w1 ⟨v1, rfl, hv1, hb1⟩
    obtain ⟨a1, cap1, rfl, q1, q2, hc1⟩ := (GRow.at encVid_len (RefsAt.vrow hv1))
    unfold maxLen at q2
    have HC1 := Lib.hid hc1
    have HB1 := Lib.hid hb1
    clear hv1 hb1 hc1 o0 o1 o2 o3 o4 o5 o6 o7 so
    go_wp2_with fail
    go_loopw [16] (fun v16 wr => ∃ k : Nat, k ≤ (refsM o).length ∧ v16 = .int .i64 k ∧ Hid (((refsM o).take k).all (kindOkB id ops o) = true) ∧ Below w1.heap.size w1 wr) (fun v16 _ => (refsM o).length - (intOf v16).toNat)
    case atStart => exact ⟨0, by omega, rfl, (by show _ = _; simp), Below.refl _ _⟩
    case round =>
      obtain ⟨k, hk, rfl, HK, hbl⟩ := hrel
      have HBw := Lib.hid (below_over HB1.out HB1.out.size hbl)
      by_cases hlt : k < (refsM o).length
      · obtain ⟨b, off, rfl, sb, hcb⟩ := HC1.out.resolve_left (by omega)
        obtain ⟨v, hv⟩ := get_of_lt hlt
        have HVd := Lib.hid (hcb k v hv wr hbl)
        have v0 : wr.cell? ⟨b, off + k * 3, none⟩ = some (.int .u8 (v.pid.author.toNat : Int)) := (HVd.out).2 0 _ rfl
        have v1 : wr.cell? ⟨b, off + k * 3 + 1, none⟩ = some (.int .u16 (v.pid.seq.toNat : Int)) := (HVd.out).2 1 _ rfl
        have v2 : wr.cell? ⟨b, off + k * 3 + 2, none⟩ = some (.int .u8 (v.n.toNat : Int)) := (HVd.out).2 2 _ rfl
        have sv := HVd.out.1
        have HX := Lib.hid hv
        have HPw := Lib.hid ((HP.out.over HBw.out))
        have p0 := HPw.out.cell (j := 0) rfl
        have p1 := HPw.out.cell (j := 1) rfl
        have p2 := HPw.out.cell (j := 2) rfl
        have p3 := HPw.out.cell (j := 3) rfl
        have sp := HPw.out.lt
        have HBv : Hid (Below wr.heap.size wr (wr.alloc (.cells #[.int .u8 (v.pid.author.toNat : Int), .int .u16 (v.pid.seq.toNat : Int), .int .u8 (v.n.toNat : Int)] 27))) := below_new _
        have HVw := Lib.hid ((HV.out.over HBw.out).over HBv.out)
        clear hcb hv
        go_wp2_with fail
        refine (pkind_any id dv _ ops v _ HVw.out).mono ?_
        rintro e w2 ⟨rfl, hb2⟩
        have HB2 := Lib.hid (below_over (below_over hbl hbl.size HBv.out) (by have := hbl.size; simp; omega) hb2)
        have HB3 := Lib.hid (below_over HB.out HB.out.size (below_over HB1.out HB1.out.size HB2.out))
        clear hb2 v0 v1 v2 sv p0 p1 p2 p3 sp
        unfold kindV
        cases hkm : kindM id ops v with
        | none =>
          have HKo : Hid (kindOkB id ops o v = true) := by show _ = _; unfold kindOkB; rw [hkm]
          have HN := Lib.hid (all_take' HX.out HK.out HKo.out)
          clear hkm
          go_wp2_with fail
          go_roundw
          case rel => exact ⟨k + 1, hlt, by go_num, HN, HB2.out⟩
          case measure => simp [intOf]; omega
        | some q =>
          by_cases hq : q = wantK o
          · have HKo : Hid (kindOkB id ops o v = true) := by show _ = _; unfold kindOkB; rw [hkm]; simp [hq]
            have HN := Lib.hid (all_take' HX.out HK.out HKo.out)
            have e1 : ((q.toNat : Int) != ((wantK o).toNat : Int)) = false := by simp [hq]
            clear hkm hq
            go_wp2_with fail
            go_roundw
            case rel => exact ⟨k + 1, hlt, by go_num, HN, HB2.out⟩
            case measure => simp [intOf]; omega
          · have HKo : Hid (kindOkB id ops o v = false) := by show _ = _; unfold kindOkB; rw [hkm]; simp [hq]
            have HN := Lib.hid (suits_no HX.out HKo.out)
            have e1 : ((q.toNat : Int) != ((wantK o).toNat : Int)) = true := by
              simp; intro h; exact hq (UInt8.toNat_inj.1 (by omega))
            clear hkm hq
            go_wp2_with fail
            go_ret
            exact ⟨ret_val (congrArg Value.bool HN.out.symm), HB3.out⟩
      · obtain rfl : k = (refsM o).length := by omega
        have HE := Lib.hid (suits_end HK.out)
        have HBe := Lib.hid (below_over HB.out HB.out.size HBw.out)
        have HOw := Lib.hid ((HO.out.over HBw.out))
        have HPw := Lib.hid ((HP.out.over HBw.out))
        have o0 := HOw.out.cell (j := 0) rfl
        have o1 := HOw.out.cell (j := 1) rfl
        have o2 := HOw.out.cell (j := 2) rfl
        have o3 := HOw.out.cell (j := 3) rfl
        have o4 := HOw.out.cell (j := 4) rfl
        have o5 := HOw.out.cell (j := 5) rfl
        have o6 := HOw.out.cell (j := 6) rfl
        have so := HOw.out.lt
        have p0 := HPw.out.cell (j := 0) rfl
        have p1 := HPw.out.cell (j := 1) rfl
        have p3 := HPw.out.cell (j := 3) rfl
        have sp := HPw.out.lt
        by_cases h4 : o.kind.toNat = 4
        · have e1 : ((o.kind.toNat : Int) == 4) = true := by simp; omega
          by_cases ha : o.at'.pid = id
          · have e2 := eql_pid o.at'.pid id true (by simp [ha])
            unfold pidV at e2
            by_cases hb : o.to.pid = id
            · have e3 := eql_pid o.to.pid id true (by simp [hb])
              unfold pidV at e3
              have hr2 := refs_two h4
              have hla := HW.out o.at' (by rw [hr2]; simp) ha
              have hlb := HW.out o.to (by rw [hr2]; simp) hb
              obtain ⟨b, off, rfl, sb, hcb⟩ := HC.out.resolve_left (by omega)
              obtain ⟨x, hx⟩ := get_op hla
              obtain ⟨y, hy⟩ := get_op hlb
              have HXa := Lib.hid (hcb _ x hx wr HBe.out)
              have HYa := Lib.hid (hcb _ y hy wr HBe.out)
              have HS := Lib.hid (sameAt_yes h4 ha hb hx hy)
              have x1 : wr.cell? ⟨b, off + o.at'.n.toNat * 8 + 1, none⟩ = some (.int .u8 (x.at'.pid.author.toNat : Int)) := HXa.out.2 1 _ rfl
              have x2 : wr.cell? ⟨b, off + o.at'.n.toNat * 8 + 2, none⟩ = some (.int .u16 (x.at'.pid.seq.toNat : Int)) := HXa.out.2 2 _ rfl
              have x3 : wr.cell? ⟨b, off + o.at'.n.toNat * 8 + 3, none⟩ = some (.int .u8 (x.at'.n.toNat : Int)) := HXa.out.2 3 _ rfl
              have y1 : wr.cell? ⟨b, off + o.to.n.toNat * 8 + 1, none⟩ = some (.int .u8 (y.at'.pid.author.toNat : Int)) := HYa.out.2 1 _ rfl
              have y2 : wr.cell? ⟨b, off + o.to.n.toNat * 8 + 2, none⟩ = some (.int .u16 (y.at'.pid.seq.toNat : Int)) := HYa.out.2 2 _ rfl
              have y3 : wr.cell? ⟨b, off + o.to.n.toNat * 8 + 3, none⟩ = some (.int .u8 (y.at'.n.toNat : Int)) := HYa.out.2 3 _ rfl
              have sxy := HXa.out.1
              have e4 := eql_vid x.at' y.at' _ rfl
              unfold vidV at e4
              generalize decide (x.at' = y.at') = q at *
              have hna := o.at'.n.toNat_lt
              have hnb := o.to.n.toNat_lt
              clear h4 ha hb hr2 hcb hx hy
              go_wp2_with fail
              have hcur : Below wr.heap.size wr wr.drew := (Below.refl _ _).drew
              refine wp_region_lex (C := IsOver wr) 17 [] (by kernel_rfl) (by kernel_rfl) (isOver_of (by repeat (first | exact Below.refl _ _ | apply Below.drew | apply below_drewN | (refine Below.alloc ?_ (by simp) _)))) ?_
              simp only [List.take_succ_cons, List.take_zero, List.drop_succ_cons, List.drop_zero]
              repeat (first | (refine lex_skip rfl rfl ?_; simp only [Act.put, List.setIfInBounds_toArray, List.set_cons_succ, List.set_cons_zero]) | (refine lex_one rfl ?_; go_big_quiet_step (fail); refine wpQuiet_nil ?_))
              refine lex_end ?_
              go_wp2_with fail
              go_ret
              exact ⟨ret_val (congrArg Value.bool (HE.out.trans HS.out).symm), below_over HB.out HB.out.size (below_over HB1.out HB1.out.size hbl.drew)⟩
            · have e3 := eql_pid o.to.pid id false (by simp [hb])
              unfold pidV at e3
              have HS : Hid (sameAtB id ops o = true) := sameAt_not (fun h => hb h.2.2)
              clear h4 ha hb
              go_wp2_with fail
              go_ret
              exact ⟨ret_val (congrArg Value.bool (HE.out.trans HS.out).symm), HBe.out⟩
          · have e2 := eql_pid o.at'.pid id false (by simp [ha])
            unfold pidV at e2
            have HS : Hid (sameAtB id ops o = true) := sameAt_not (fun h => ha h.2.1)
            clear h4 ha
            go_wp2_with fail
            go_ret
            exact ⟨ret_val (congrArg Value.bool (HE.out.trans HS.out).symm), HBe.out⟩
        · have e1 : ((o.kind.toNat : Int) == 4) = false := by simp; omega
          have HS : Hid (sameAtB id ops o = true) := sameAt_not (fun h => h4 h.1)
          clear h4
          go_wp2_with fail
          go_ret
          exact ⟨ret_val (congrArg Value.bool (HE.out.trans HS.out).symm), HBe.out⟩
end Go.Proofs.YtflnkmmimoninaaGreatDoor
