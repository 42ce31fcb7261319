/- Contract of patch.Deps. Contracts of patch.later, its closure, slices.ContainsFunc and IndexFunc there; slices.Equal at names. -/
import Derived.Test.YtfciedmmgddgpaaGreatDoorZVecB
import Derived.Test.YtfciedmmgddgpaaGreatDoorZPSet
namespace Go.Proofs.YtfciedmmgddgpaaGreatDoor
open Go Go.RowKit

theorem GOwn.base {α : Type} {enc : α → List Value} {sz : Nat} {E : TypeId} {w : World} {B B' : Nat} {v : Value} {xs : List α} (h : GOwn enc sz E w B v xs) (hB : B' ≤ B) : GOwn enc sz E w B' v xs := by
  obtain ⟨h1, h2⟩ := h
  refine ⟨h1, h2.imp id ?_⟩
  rintro ⟨g, cap, cur, h3, h4, h5⟩
  exact ⟨g, cap, cur, h3, Nat.le_trans hB h4, h5⟩
attribute [local irreducible] refsM farPids preDep depsTo depsM
set_option maxHeartbeats 10000000 in
set_option maxRecDepth 100000 in
theorem pdeps_any (id : PidM) (v : Value) (ops : List OpM) (w : World) (hv : GRow encOp 8 w v ops) (hl : ops.length ≤ 40000) :
    Calls Tryz.prog 38 #[pidV id, v] w (OwnRes encPid 2 25 w (depsM id ops)) := by
  have HA := Lib.hid (arr_new w #[.int .u8 (id.author.toNat : Int), .int .u16 (id.seq.toNat : Int)] 25)
  have HB := Lib.hid (below_new (w := w) (.cells #[.int .u8 (id.author.toNat : Int), .int .u16 (id.seq.toNat : Int)] 25))
  obtain ⟨a, cap, rfl, h1, h2, hc⟩ := (hv.over HB.out).at encOp_len
  unfold maxLen at h2
  have HC := Lib.hid hc
  have hdl := depsTo_len id ops
  have hpl := preDep_len id
  have hsl := id.seq.toNat_lt
  have hal := id.author.toNat_lt
  have gd := fun p q xs ys w => guard_pid .neq p q xs ys w
  clear hv hc
  unfold pidV
  go_enter Tryz.func38, Tryz.ntmps38
  go_upto_if 12 with (fail)
  generalize hw0 : w.alloc (.cells #[.int .u8 (id.author.toNat : Int), .int .u16 (id.seq.toNat : Int)] 25) = w0 at *
  clear hw0
  go_cut [5] (fun s5 wx => Hid (GOwn encPid 2 25 wx w0.heap.size s5 (preDep id)) ∧ Below w0.heap.size w0 wx)
  case first =>
    by_cases g1 : 1 < id.seq.toNat
    · have d1 : decide ((1 : Int) < (id.seq.toNat : Int)) = true := by simp; omega
      have HP : Hid (preDep id = [⟨id.author, id.seq - 1⟩]) := preDep_yes g1
      have HS := Lib.hid (sub_seq g1)
      have i0 := HA.out.cell (j := 0) rfl
      have i1 := HA.out.cell (j := 1) rfl
      have si := HA.out.lt
      have hN : 0 + 1 ≤ 1099511627776 := by decide
      have hB0 : w0.heap.size ≤ w0.heap.size := Nat.le_refl _
      go_wp2_with (at_builtin; (first | refine wpList_append_newD slPid rfl _ _ rfl w0.heap.size _ _ (drawn_alloc_drewN _ _ _) 1 _ _ _ (World.ownsRow_nil w0 w0.heap.size 25 2) rfl rfl rfl rfl hN (by decide) hB0 ?_ | refine wpList_append_newD slPid rfl _ _ rfl w0.heap.size _ _ (drawn_drew _) 1 _ _ _ (World.ownsRow_nil w0 w0.heap.size 25 2) rfl rfl rfl rfl hN (by decide) hB0 ?_ | refine wpList_append_newD slPid rfl _ _ rfl w0.heap.size _ _ (drawn_drewN _ _) 1 _ _ _ (World.ownsRow_nil w0 w0.heap.size 25 2) rfl rfl rfl rfl hN (by decide) hB0 ?_ | refine wpList_append_newD slPid rfl _ _ rfl w0.heap.size _ _ (drawn_refl _) 1 _ _ _ (World.ownsRow_nil w0 w0.heap.size 25 2) rfl rfl rfl rfl hN (by decide) hB0 ?_); intro v2 w2 ho2 hg2)
      go_meet
      refine ⟨?_, grown_over' hg2 (fun g hg => by simp [Value.ownBlock] at hg)⟩
      show GOwn _ _ _ _ _ _ _
      rw [HP.out]
      exact GOwn.snoc (enc := encPid) (xs := []) (x := (⟨id.author, id.seq - 1⟩ : PidM)) (by unfold encPid; rw [HS.out]; exact ho2)
    · have d1 : decide ((1 : Int) < (id.seq.toNat : Int)) = false := by simp; omega
      have HP : Hid (preDep id = []) := preDep_no g1
      go_wp2_with fail
      go_meet
      exact ⟨(by show GOwn _ _ _ _ _ _ _; rw [HP.out]; exact gown_nil _ _), Below.refl _ _⟩
  case rest =>
    obtain ⟨HO, hbc⟩ := hcut
    go_wp2_with fail
    go_loopw [5, 24] (fun v5 v6 wr => DpOut w0 id ops v5 v6 wr) (fun _ v6 _ => ops.length - (intOf v6).toNat)
    case atStart => exact ⟨0, by omega, rfl, (by show GOwn _ _ _ _ _ _ _; rw [List.take_zero, depsTo_nil]; exact HO.out), hbc⟩
    case round =>
      rename World => wo
      obtain ⟨i, hi, rfl, HM, hbl⟩ := hrel
      by_cases hlt : i < ops.length
      · obtain ⟨b, off, rfl, sb, hcb⟩ := HC.out.resolve_left (by omega)
        obtain ⟨o, ho⟩ := get_of_lt hlt
        have HOp := Lib.hid (hcb i o ho wo hbl)
        have HSu := Lib.hid (depsTo_succ (id := id) ho)
        have hdt := depsTo_len id (ops.take i)
        rw [List.length_take] at hdt
        have o0 : wo.cell? ⟨b, off + i * 8, none⟩ = some (.int .u8 (o.kind.toNat : Int)) := (HOp.out).2 0 _ rfl
        have o1 : wo.cell? ⟨b, off + i * 8 + 1, none⟩ = some (.int .u8 (o.at'.pid.author.toNat : Int)) := (HOp.out).2 1 _ rfl
        have o2 : wo.cell? ⟨b, off + i * 8 + 2, none⟩ = some (.int .u16 (o.at'.pid.seq.toNat : Int)) := (HOp.out).2 2 _ rfl
        have o3 : wo.cell? ⟨b, off + i * 8 + 3, none⟩ = some (.int .u8 (o.at'.n.toNat : Int)) := (HOp.out).2 3 _ rfl
        have o4 : wo.cell? ⟨b, off + i * 8 + 4, none⟩ = some (.int .u8 (o.to.pid.author.toNat : Int)) := (HOp.out).2 4 _ rfl
        have o5 : wo.cell? ⟨b, off + i * 8 + 5, none⟩ = some (.int .u16 (o.to.pid.seq.toNat : Int)) := (HOp.out).2 5 _ rfl
        have o6 : wo.cell? ⟨b, off + i * 8 + 6, none⟩ = some (.int .u8 (o.to.n.toNat : Int)) := (HOp.out).2 6 _ rfl
        have o7 : wo.cell? ⟨b, off + i * 8 + 7, none⟩ = some (.string o.text) := (HOp.out).2 7 _ rfl
        have so := HOp.out.1
        clear hcb ho
        go_wp2_with fail
        refine (prefs_any o _).mono ?_
        rintro e w1 ⟨vr, rfl, hvr, hb1⟩
        obtain ⟨a2, cap2, e2, q1, q2, _⟩ := (RefsAt.vrow hvr).form
        subst e2
        unfold maxLen at q2
        have HVr := Lib.hid hvr
        have HBo : Hid (Below wo.heap.size wo (wo.alloc (.cells #[.int .u8 (o.kind.toNat : Int), .int .u8 (o.at'.pid.author.toNat : Int), .int .u16 (o.at'.pid.seq.toNat : Int), .int .u8 (o.at'.n.toNat : Int), .int .u8 (o.to.pid.author.toNat : Int), .int .u16 (o.to.pid.seq.toNat : Int), .int .u8 (o.to.n.toNat : Int), .string o.text] 56))) := below_new _
        have HB1 := Lib.hid (below_over (below_over hbl hbl.size HBo.out) (by have := hbl.size; simp; omega) hb1)
        have HM1 := Lib.hid ((HM.out.over HBo.out).over hb1)
        have hrl := refs_len o
        clear hvr hb1 o0 o1 o2 o3 o4 o5 o6 o7 so
        go_wp2_with fail
        go_hide hQ
        go_loopw [5, 31] (fun v5 v8 wi => DpIn w0 id (depsTo id (ops.take i)) (refsM o) (.slice a2 (refsM o).length cap2) v5 v8 wi) (fun _ v8 _ => (refsM o).length - (intOf v8).toNat)
        case atStart => exact ⟨0, by omega, rfl, (by show GOwn _ _ _ _ _ _ _; rw [List.take_zero, farPids_nil, List.append_nil]; exact HM1.out), HVr, HB1.out⟩
        case round =>
          rename World => wr
          obtain ⟨k, hk, rfl, HM2, HR2, hbi⟩ := hrel
          have hfl := farPids_len id ((refsM o).take k)
          rw [List.length_take] at hfl
          have hN : (depsTo id (ops.take i) ++ farPids id ((refsM o).take k)).length + 1 ≤ 1099511627776 := by rw [List.length_append]; omega
          by_cases hk2 : k < (refsM o).length
          · obtain ⟨g, rfl, hAr⟩ := refs_at HR2.out (by omega)
            obtain ⟨u, hu⟩ := get_of_lt hk2
            have HU := Lib.hid hu
            have HAv := Lib.hid hAr
            have HAi := Lib.hid (HA.out.over hbi)
            have i0 := HAi.out.cell (j := 0) rfl
            have i1 := HAi.out.cell (j := 1) rfl
            have si := HAi.out.lt
            have u0 : wr.cell? ⟨g, k * 3, none⟩ = some (.int .u8 (u.pid.author.toNat : Int)) := hAr.arr.cell ((flat_get encVid_len _ k 0 u hu (by decide)).trans rfl)
            have u1 : wr.cell? ⟨g, k * 3 + 1, none⟩ = some (.int .u16 (u.pid.seq.toNat : Int)) := hAr.arr.cell ((flat_get encVid_len _ k 1 u hu (by decide)).trans rfl)
            have u2 : wr.cell? ⟨g, k * 3 + 2, none⟩ = some (.int .u8 (u.n.toNat : Int)) := hAr.arr.cell ((flat_get encVid_len _ k 2 u hu (by decide)).trans rfl)
            have su := hAr.arr.lt
            have hB2 := hbi.size
            have HBx : Hid (Below wr.heap.size wr (wr.alloc (.cells #[.int .u8 (u.pid.author.toNat : Int), .int .u16 (u.pid.seq.toNat : Int), .int .u8 (u.n.toNat : Int)] 27))) := below_new _
            have hBx : w0.heap.size ≤ (wr.alloc (.cells #[.int .u8 (u.pid.author.toNat : Int), .int .u16 (u.pid.seq.toNat : Int), .int .u8 (u.n.toNat : Int)] 27)).heap.size := by simp; omega
            have HMx := Lib.hid (HM2.out.over HBx.out)
            have HRx := Lib.hid (HR2.out.over HBx.out)
            have HBb := Lib.hid (below_over hbi hB2 HBx.out)
            clear hu hAr
            by_cases hp : u.pid = id
            · have e1 := neq_pid u.pid id false (by simp [hp])
              unfold pidV at e1
              have HN := Lib.hid (farPids_no HU.out hp)
              clear hp
              go_wp2_with fail
              go_roundw
              case rel => exact ⟨k + 1, hk2, by go_num, (by show GOwn _ _ _ _ _ _ _; rw [HN.out]; exact HMx.out), HRx.out, HBb.out⟩
              case measure => simp [intOf]; omega
            · have e1 := neq_pid u.pid id true (by simp [hp])
              unfold pidV at e1
              have HN := Lib.hid (farPids_yes HU.out hp)
              clear hp
              have hBx2 : w0.heap.size ≤ wr.heap.size + 1 := by omega
              go_wp2_with (at_builtin; refine wpList_append_newH slPid rfl _ _ rfl w0.heap.size _ _ (wr.heap.size + 1) (by simp) 1 _ _ _ HMx.out rfl rfl rfl rfl hN (by decide) hBx2 ?_; intro v2 w2 ho2 hg2)
              go_roundw
              case rel => exact ⟨k + 1, hk2, by go_num, (by show GOwn _ _ _ _ _ _ _; rw [HN.out, ← List.append_assoc]; exact GOwn.snoc ho2), HRx.out.grown HMx.out (by decide) hg2, below_grown HBb.out hBx HMx.out hg2⟩
              case measure => simp [intOf]; omega
          · obtain rfl : k = (refsM o).length := by omega
            rw [List.take_length] at HM2
            go_wp2_with fail
            subst hQ
            go_wp2_with fail
            go_roundw
            case rel => exact ⟨i + 1, hlt, by go_num, (by show GOwn _ _ _ _ _ _ _; rw [HSu.out]; exact HM2.out), hbi⟩
            case measure => simp [intOf]; omega
      · obtain rfl : i = ops.length := by omega
        have HE := HM.out
        rw [List.take_length] at HE
        have HE2 := Lib.hid HE.row
        clear HE
        go_wp2_with fail
        refine (psetPid_any _ _ _ HE2.out (by omega)).mono ?_
        rintro e w2 ⟨u, rfl, hu, hb2⟩
        have HU : Hid (GOwn encPid 2 25 w2 w.heap.size u (depsM id ops)) := by rw [← depsTo_all]; exact hu.base (Nat.le_trans HB.out.size hbl.size)
        clear hu
        go_wp2_with fail
        go_ret
        exact ⟨_, rfl, HU.out, below_over (below_over HB.out HB.out.size hbl) (by have := HB.out.size; have := hbl.size; omega) hb2⟩
end Go.Proofs.YtfciedmmgddgpaaGreatDoor
namespace Go.Proofs.YtfciedmmgddgpaaGreatDoor
open Go Go.RowKit

def laterOne (id : PidM) (v : VidM) : Bool := decide (v.pid.author = id.author) && decide (id.seq.toNat < v.pid.seq.toNat)
theorem laterB_eq (id : PidM) (o : OpM) : laterB id o = (refsM o).any (laterOne id) := rfl
set_option maxHeartbeats 1000000 in
set_option maxRecDepth 100000 in
theorem laterFn_any (id : PidM) (v : VidM) (g : Nat) (w : World) (hA : Arr w g (encPid id)) :
    Calls Tryz.prog 109 #[vidV v, .pointer (some ⟨g, 0, none⟩)] w fun e w' => e = .returned (.bool (laterOne id v)) ∧ Below w.heap.size w w' := by
  have i0 := (hA.alloc (.cells #[.int .u8 (v.pid.author.toNat : Int), .int .u16 (v.pid.seq.toNat : Int), .int .u8 (v.n.toNat : Int)] 27)).cell (j := 0) rfl
  have i1 := (hA.alloc (.cells #[.int .u8 (v.pid.author.toNat : Int), .int .u16 (v.pid.seq.toNat : Int), .int .u8 (v.n.toNat : Int)] 27)).cell (j := 1) rfl
  have sg := hA.lt
  have sg2 : ¬ g = w.heap.size := by omega
  clear hA
  unfold vidV
  by_cases h1 : v.pid.author = id.author
  · have e1 : ((v.pid.author.toNat : Int) == (id.author.toNat : Int)) = true := by simp [h1]
    by_cases h2 : id.seq.toNat < v.pid.seq.toNat
    · have e2 : decide (id.seq.toNat < v.pid.seq.toNat) = true := by simpa using h2
      have HV : Hid (laterOne id v = true) := by show _ = _; unfold laterOne; simp [h1, h2]
      clear h1 h2
      go_enter Tryz.func109, Tryz.ntmps109
      go_wp2_with fail
      go_ret
      exact ⟨ret_val (congrArg Value.bool HV.out.symm), below_new _⟩
    · have e2 : decide (id.seq.toNat < v.pid.seq.toNat) = false := by simpa using h2
      have HV : Hid (laterOne id v = false) := by show _ = _; unfold laterOne; simp [h1]; omega
      clear h1 h2
      go_enter Tryz.func109, Tryz.ntmps109
      go_wp2_with fail
      go_ret
      exact ⟨ret_val (congrArg Value.bool HV.out.symm), below_new _⟩
  · have e1 : ((v.pid.author.toNat : Int) == (id.author.toNat : Int)) = false := by
      simp; intro h; exact h1 (UInt8.toNat_inj.1 (by omega))
    have HV : Hid (laterOne id v = false) := by show _ = _; unfold laterOne; simp [h1]
    clear h1
    go_enter Tryz.func109, Tryz.ntmps109
    go_wp2_with fail
    go_ret
    exact ⟨ret_val (congrArg Value.bool HV.out.symm), below_new _⟩
/-- the first place at which something holds; -1: none -/
def idxB {α : Type} (f : α → Bool) (l : List α) : Int := match l.findIdx? f with | some i => (i : Int) | none => -1
def IxRes (w : World) (f : VidM → Bool) (vs : List VidM) (e : Ending) (w' : World) : Prop := e = .returned (.int .i64 (idxB f vs)) ∧ Below w.heap.size w w'
theorem idx_hit {α : Type} {f : α → Bool} {l : List α} {k : Nat} {x : α} (h : (l.take k).any f = false) (hx : l[k]? = some x) (hf : f x = true) : idxB f l = (k : Int) := by
  have : l.findIdx? f = some k := by
    rw [List.findIdx?_eq_some_iff_getElem]
    obtain ⟨hk, e⟩ := List.getElem?_eq_some_iff.1 hx
    refine ⟨hk, by rw [e]; exact hf, fun j hj => ?_⟩
    have := List.any_eq_false.1 h (l[j]) (List.mem_iff_getElem.2 ⟨j, by rw [List.length_take]; omega, by simp⟩)
    simpa using this
  unfold idxB; rw [this]
theorem idx_miss {α : Type} {f : α → Bool} {l : List α} (h : (l.take l.length).any f = false) : idxB f l = -1 := by
  rw [List.take_length] at h
  have : l.findIdx? f = none := by
    rw [List.findIdx?_eq_none_iff]
    intro x hx
    simpa using List.any_eq_false.1 h x hx
  unfold idxB; rw [this]
theorem any_step {α : Type} {f : α → Bool} {l : List α} {k : Nat} {x : α} (h : (l.take k).any f = false) (hx : l[k]? = some x) (hf : f x = false) : (l.take (k + 1)).any f = false := by
  rw [take_succ_get hx, List.any_append, h]; simp [hf]
theorem idx_ge {α : Type} (f : α → Bool) (l : List α) : decide (0 ≤ idxB f l) = l.any f := by
  unfold idxB
  cases h : l.findIdx? f with
  | none =>
    rw [List.findIdx?_eq_none_iff] at h
    have : l.any f = false := List.any_eq_false.2 fun x hx => by simp [h x hx]
    rw [this]; rfl
  | some i =>
    rw [List.findIdx?_eq_some_iff_getElem] at h
    obtain ⟨hk, hf, _⟩ := h
    have : l.any f = true := List.any_eq_true.2 ⟨_, List.getElem_mem hk, hf⟩
    rw [this]; simp
attribute [local irreducible] laterOne idxB
set_option maxHeartbeats 2000000 in
set_option maxRecDepth 100000 in
theorem idxLater_any (id : PidM) (v : Value) (vs : List VidM) (g : Nat) (w : World) (hA : Arr w g (encPid id)) (hv : GRow encVid 3 w v vs) (hl : vs.length ≤ 1000) :
    Calls Tryz.prog 141 #[v, .func (.func 109) #[] #[.pointer (some ⟨g, 0, none⟩)]] w (IxRes w (laterOne id) vs) := by
  obtain ⟨a, cap, rfl, h1, h2, hc⟩ := hv.at encVid_len
  unfold maxLen at h2
  have HC := Lib.hid hc
  have HA := Lib.hid hA
  clear hv hc hA
  go_enter Tryz.func141, Tryz.ntmps141
  go_wp2_with fail
  go_loopw [8] (fun v8 wr => ∃ k : Nat, k ≤ vs.length ∧ v8 = .int .i64 k ∧ Hid ((vs.take k).any (laterOne id) = false) ∧ Below w.heap.size w wr) (fun v8 _ => vs.length - (intOf v8).toNat)
  case atStart => exact ⟨0, by omega, rfl, (by show _ = _; simp), Below.refl _ _⟩
  case round =>
    obtain ⟨k, hk, rfl, HK, hbl⟩ := hrel
    by_cases hlt : k < vs.length
    · obtain ⟨b, off, rfl, sb, hcb⟩ := HC.out.resolve_left (by omega)
      obtain ⟨u, hu⟩ := get_of_lt hlt
      have HU := Lib.hid (hcb k u hu wr hbl)
      have u0 : wr.cell? ⟨b, off + k * 3, none⟩ = some (.int .u8 (u.pid.author.toNat : Int)) := (HU.out).2 0 _ rfl
      have u1 : wr.cell? ⟨b, off + k * 3 + 1, none⟩ = some (.int .u16 (u.pid.seq.toNat : Int)) := (HU.out).2 1 _ rfl
      have u2 : wr.cell? ⟨b, off + k * 3 + 2, none⟩ = some (.int .u8 (u.n.toNat : Int)) := (HU.out).2 2 _ rfl
      have su := HU.out.1
      have HX := Lib.hid hu
      clear hcb hu
      go_wp2_with fail
      refine (laterFn_any id u g _ (HA.out.over hbl)).mono ?_
      rintro e w1 ⟨rfl, hb1⟩
      have HB1 := Lib.hid (below_over hbl hbl.size hb1)
      clear hb1 u0 u1 u2 su
      cases hf : laterOne id u with
      | true =>
        have HI := Lib.hid (idx_hit HK.out HX.out hf)
        clear hf
        go_wp2_with fail
        go_ret
        exact ⟨ret_int HI.out.symm, HB1.out⟩
      | false =>
        have HI := Lib.hid (any_step HK.out HX.out hf)
        clear hf
        go_wp2_with fail
        go_roundw
        case rel => exact ⟨k + 1, hlt, by go_num, HI, HB1.out⟩
        case measure => simp [intOf]; omega
    · obtain rfl : k = vs.length := by omega
      have HI := Lib.hid (idx_miss HK.out)
      go_wp2_with fail
      go_ret
      exact ⟨ret_int HI.out.symm, hbl⟩
set_option maxHeartbeats 2000000 in
set_option maxRecDepth 100000 in
theorem conLater_any (id : PidM) (v : Value) (vs : List VidM) (g : Nat) (w : World) (hA : Arr w g (encPid id)) (hv : GRow encVid 3 w v vs) (hl : vs.length ≤ 1000) :
    Calls Tryz.prog 108 #[v, .func (.func 109) #[] #[.pointer (some ⟨g, 0, none⟩)]] w fun e w' => e = .returned (.bool (vs.any (laterOne id))) ∧ Below w.heap.size w w' := by
  have HI := Lib.hid (idx_ge (laterOne id) vs)
  have hcon := idxLater_any id v vs g w hA hv hl
  unfold IxRes at hcon
  generalize idxB (laterOne id) vs = r at *
  generalize vs.any (laterOne id) = q at *
  clear hA hv
  go_enter Tryz.func108, Tryz.ntmps108
  go_wp2_with fail
  refine hcon.mono ?_
  rintro e w1 ⟨rfl, hb1⟩
  have HB := Lib.hid hb1
  clear hb1 hcon
  go_wp2_with fail
  go_ret
  exact ⟨ret_val (congrArg Value.bool HI.out), HB.out⟩
attribute [local irreducible] laterB refsM
set_option maxHeartbeats 2000000 in
set_option maxRecDepth 100000 in
theorem plater_any (id : PidM) (o : OpM) (w : World) : Calls Tryz.prog 70 #[pidV id, opV o] w fun e w' => e = .returned (.bool (laterB id o)) ∧ Below w.heap.size w w' := by
  have HA := Lib.hid ((arr_new w #[.int .u8 (id.author.toNat : Int), .int .u16 (id.seq.toNat : Int)] 25).alloc (.cells #[.int .u8 (o.kind.toNat : Int), .int .u8 (o.at'.pid.author.toNat : Int), .int .u16 (o.at'.pid.seq.toNat : Int), .int .u8 (o.at'.n.toNat : Int), .int .u8 (o.to.pid.author.toNat : Int), .int .u16 (o.to.pid.seq.toNat : Int), .int .u8 (o.to.n.toNat : Int), .string o.text] 56))
  have HB := Lib.hid ((below_new (w := w) (.cells #[.int .u8 (id.author.toNat : Int), .int .u16 (id.seq.toNat : Int)] 25)).alloc (by simp) (.cells #[.int .u8 (o.kind.toNat : Int), .int .u8 (o.at'.pid.author.toNat : Int), .int .u16 (o.at'.pid.seq.toNat : Int), .int .u8 (o.at'.n.toNat : Int), .int .u8 (o.to.pid.author.toNat : Int), .int .u16 (o.to.pid.seq.toNat : Int), .int .u8 (o.to.n.toNat : Int), .string o.text] 56))
  have hrl := refs_len o
  have HL := Lib.hid (laterB_eq id o)
  unfold pidV opV
  go_enter Tryz.func70, Tryz.ntmps70
  go_wp2_with fail
  generalize hw0 : (w.alloc (.cells #[.int .u8 (id.author.toNat : Int), .int .u16 (id.seq.toNat : Int)] 25)).alloc (.cells #[.int .u8 (o.kind.toNat : Int), .int .u8 (o.at'.pid.author.toNat : Int), .int .u16 (o.at'.pid.seq.toNat : Int), .int .u8 (o.at'.n.toNat : Int), .int .u8 (o.to.pid.author.toNat : Int), .int .u16 (o.to.pid.seq.toNat : Int), .int .u8 (o.to.n.toNat : Int), .string o.text] 56) = w0 at *
  clear hw0
  refine (prefs_any o _).mono ?_
  rintro e w1 ⟨v1, rfl, hv1, hb1⟩
  have HV1 := Lib.hid (RefsAt.vrow hv1)
  have HB1 := Lib.hid hb1
  clear hv1 hb1
  go_wp2_with fail
  refine (conLater_any id v1 (refsM o) _ w1 (HA.out.over HB1.out) HV1.out (by omega)).mono ?_
  rintro e w2 ⟨rfl, hb2⟩
  rw [← HL.out]
  have HB2 := Lib.hid hb2
  clear hb2
  go_wp2_with fail
  go_ret
  exact ⟨rfl, below_over HB.out HB.out.size (below_over HB1.out HB1.out.size HB2.out)⟩

set_option maxHeartbeats 4000000 in
set_option maxRecDepth 100000 in
theorem equalPid_any (v u : Value) (l m : List PidM) (w : World) (hv : GRow encPid 2 w v l) (hu : GRow encPid 2 w u m) :
    Calls Tryz.prog 68 #[v, u] w fun e w' => e = .returned (.bool (decide (l = m))) ∧ Below w.heap.size w w' := by
  obtain ⟨a, cap, rfl, h1, h2, hc⟩ := hv.at encPid_len
  obtain ⟨a', cap', rfl, h1', h2', hc'⟩ := hu.at encPid_len
  unfold maxLen at h2 h2'
  have HC := Lib.hid hc
  have HC' := Lib.hid hc'
  clear hv hu hc hc'
  have gd := fun p q xs ys w => guard_pid .neq p q xs ys w
  by_cases hlen : l.length = m.length
  · have HL := Lib.hid hlen
    have hq : ((l.length : Int) != (m.length : Int)) = false := by simp [hlen]
    clear hlen
    go_enter Tryz.func68, Tryz.ntmps68
    go_wp2_with fail
    go_loopw [13] (fun i wr => ∃ k : Nat, k ≤ l.length ∧ i = .int .i64 k ∧ Hid (l.take k = m.take k) ∧ Below w.heap.size w wr) (fun i _ => l.length - (intOf i).toNat)
    case atStart => exact ⟨0, by omega, rfl, rfl, Below.refl _ _⟩
    case round =>
      obtain ⟨k, hk, rfl, HK, hbl⟩ := hrel
      by_cases hlt : k < l.length
      · obtain ⟨bl, ol, rfl, sl, hcl⟩ := HC.out.resolve_left (by omega)
        obtain ⟨bm, om, rfl, sm, hcm⟩ := HC'.out.resolve_left (by have := HL.out; omega)
        obtain ⟨x, hx⟩ := get_of_lt hlt
        obtain ⟨y, hy⟩ := get_of_lt (xs := m) (i := k) (by have := HL.out; omega)
        have hkm : k < m.length := by have := HL.out; omega
        have x0 : wr.cell? ⟨bl, ol + k * 2, none⟩ = some (.int .u8 (x.author.toNat : Int)) := ((hcl k x hx wr hbl)).2 0 _ rfl
        have x1 : wr.cell? ⟨bl, ol + k * 2 + 1, none⟩ = some (.int .u16 (x.seq.toNat : Int)) := ((hcl k x hx wr hbl)).2 1 _ rfl
        have y0 : wr.cell? ⟨bm, om + k * 2, none⟩ = some (.int .u8 (y.author.toNat : Int)) := ((hcm k y hy wr hbl)).2 0 _ rfl
        have y1 : wr.cell? ⟨bm, om + k * 2 + 1, none⟩ = some (.int .u16 (y.seq.toNat : Int)) := ((hcm k y hy wr hbl)).2 1 _ rfl
        have sX := (hcl k x hx wr hbl).1
        have sY := (hcm k y hy wr hbl).1
        have HX := Lib.hid hx
        have HY := Lib.hid hy
        clear hcl hcm hx hy
        by_cases hxy : x = y
        · have hne := neq_pid x y false (by simp [hxy])
          unfold pidV at hne
          have HK2 : Hid (l.take (k + 1) = m.take (k + 1)) := by show _ = _; rw [take_succ_get HX.out, take_succ_get HY.out, HK.out, hxy]
          clear hxy
          go_wp2_with fail
          have hcur : Below wr.heap.size wr wr.drew := (Below.refl _ _).drew
          refine wp_region_lex (C := IsOver wr) 9 [] (by kernel_rfl) (by kernel_rfl) (isOver_of (by repeat (first | exact Below.refl _ _ | apply Below.drew | apply below_drewN | (refine Below.alloc ?_ (by simp) _)))) ?_
          simp only [List.take_succ_cons, List.take_zero, List.drop_succ_cons, List.drop_zero]
          repeat (first | (refine lex_skip rfl rfl ?_; simp only [Act.put, List.setIfInBounds_toArray, List.set_cons_succ, List.set_cons_zero]) | (refine lex_one rfl ?_; go_big_quiet_step (fail); refine wpQuiet_nil ?_))
          refine lex_end ?_
          go_wp2_with fail
          go_roundw
          case rel => exact ⟨k + 1, hlt, by go_num, HK2, hbl.drew⟩
          case measure => simp [intOf]; omega
        · have hne := neq_pid x y true (by simp [hxy])
          unfold pidV at hne
          have HN : Hid (decide (l = m) = false) := decide_eq_false (take_ne HX.out HY.out hxy)
          clear hxy
          go_wp2_with fail
          have hcur : Below wr.heap.size wr wr.drew := (Below.refl _ _).drew
          refine wp_region_lex (C := IsOver wr) 9 [] (by kernel_rfl) (by kernel_rfl) (isOver_of (by repeat (first | exact Below.refl _ _ | apply Below.drew | apply below_drewN | (refine Below.alloc ?_ (by simp) _)))) ?_
          simp only [List.take_succ_cons, List.take_zero, List.drop_succ_cons, List.drop_zero]
          repeat (first | (refine lex_skip rfl rfl ?_; simp only [Act.put, List.setIfInBounds_toArray, List.set_cons_succ, List.set_cons_zero]) | (refine lex_one rfl ?_; go_big_quiet_step (fail); refine wpQuiet_nil ?_))
          refine lex_end ?_
          go_wp2_with fail
          go_ret
          exact ⟨ret_val (congrArg Value.bool HN.out.symm), hbl.drew⟩
      · obtain rfl : k = l.length := by omega
        have HN : Hid (decide (l = m) = true) := decide_eq_true (take_all HL.out HK.out)
        go_wp2_with fail
        go_ret
        exact ⟨ret_val (congrArg Value.bool HN.out.symm), hbl⟩
  · have HN : Hid (decide (l = m) = false) := decide_eq_false (fun h => hlen (by rw [h]))
    have hq : ((l.length : Int) != (m.length : Int)) = true := by simp; omega
    clear hlen
    go_enter Tryz.func68, Tryz.ntmps68
    go_wp2_with fail
    go_ret
    exact ⟨ret_val (congrArg Value.bool HN.out.symm), Below.refl _ _⟩
end Go.Proofs.YtfciedmmgddgpaaGreatDoor
