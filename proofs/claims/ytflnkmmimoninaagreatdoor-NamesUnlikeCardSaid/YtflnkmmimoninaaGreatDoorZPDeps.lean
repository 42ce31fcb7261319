/- Contract of patch.Deps. -/
import Derived.Test.YtflnkmmimoninaaGreatDoorZRDeps
import Derived.Test.YtflnkmmimoninaaGreatDoorZPSet
namespace Go.Proofs.YtflnkmmimoninaaGreatDoor
open Go Go.RowKit

theorem GOwn.base {α : Type} {enc : α → List Value} {sz : Nat} {E : TypeId} {w : World} {B B' : Nat} {v : Value} {xs : List α} (h : GOwn enc sz E w B v xs) (hB : B' ≤ B) : GOwn enc sz E w B' v xs := by
  obtain ⟨h1, h2⟩ := h
  refine ⟨h1, h2.imp id ?_⟩
  rintro ⟨g, cap, cur, h3, h4, h5⟩
  exact ⟨g, cap, cur, h3, Nat.le_trans hB h4, h5⟩
attribute [local irreducible] refsM farPids preDep depsTo depsM
set_option maxHeartbeats 10000000 in
set_option maxRecDepth 100000 in
theorem pdeps_any (id : PidM) (v : Value) (ops : List OpM) (w : World) (hv : GRow encOp 8 w v ops) (hl : ops.length ≤ 40000) :
    Calls Tryz.prog 41 #[pidV id, v] w (OwnRes encPid 2 25 w (depsM id ops)) := by
  have HA := Lib.hid (arr_new w #[.int .u8 (id.author.toNat : Int), .int .u16 (id.seq.toNat : Int)] 25)
  have HB := Lib.hid (below_new (w := w) (.cells #[.int .u8 (id.author.toNat : Int), .int .u16 (id.seq.toNat : Int)] 25))
  obtain ⟨a, cap, rfl, h1, h2, hc⟩ := (hv.over HB.out).at encOp_len
  unfold maxLen at h2
  have HC := Lib.hid hc
  have hdl := depsTo_len id ops
  have hpl := preDep_len id
  have hsl := id.seq.toNat_lt
  have hal := id.author.toNat_lt
  have gd := fun p q xs ys w => guard_pid .neq p q xs ys w
  clear hv hc
  unfold pidV
  go_enter Tryz.func41, Tryz.ntmps41
  go_upto_if 12 with (fail)
  generalize hw0 : w.alloc (.cells #[.int .u8 (id.author.toNat : Int), .int .u16 (id.seq.toNat : Int)] 25) = w0 at *
  clear hw0
  go_cut [5] (fun s5 wx => Hid (GOwn encPid 2 25 wx w0.heap.size s5 (preDep id)) ∧ Below w0.heap.size w0 wx)
  case first =>
    by_cases g1 : 1 < id.seq.toNat
    · have d1 : decide ((1 : Int) < (id.seq.toNat : Int)) = true := by simp; omega
      have HP : Hid (preDep id = [⟨id.author, id.seq - 1⟩]) := preDep_yes g1
      have HS := Lib.hid (sub_seq g1)
      have i0 := HA.out.cell (j := 0) rfl
      have i1 := HA.out.cell (j := 1) rfl
      have si := HA.out.lt
      have hN : 0 + 1 ≤ 1099511627776 := by decide
      have hB0 : w0.heap.size ≤ w0.heap.size := Nat.le_refl _
      go_wp2_with (at_builtin; (first | refine wpList_append_newD slPid rfl _ _ rfl w0.heap.size _ _ (drawn_alloc_drewN _ _ _) 1 _ _ _ (World.ownsRow_nil w0 w0.heap.size 25 2) rfl rfl rfl rfl hN (by decide) hB0 ?_ | refine wpList_append_newD slPid rfl _ _ rfl w0.heap.size _ _ (drawn_drew _) 1 _ _ _ (World.ownsRow_nil w0 w0.heap.size 25 2) rfl rfl rfl rfl hN (by decide) hB0 ?_ | refine wpList_append_newD slPid rfl _ _ rfl w0.heap.size _ _ (drawn_drewN _ _) 1 _ _ _ (World.ownsRow_nil w0 w0.heap.size 25 2) rfl rfl rfl rfl hN (by decide) hB0 ?_ | refine wpList_append_newD slPid rfl _ _ rfl w0.heap.size _ _ (drawn_refl _) 1 _ _ _ (World.ownsRow_nil w0 w0.heap.size 25 2) rfl rfl rfl rfl hN (by decide) hB0 ?_); intro v2 w2 ho2 hg2)
      go_meet
      refine ⟨?_, grown_over' hg2 (fun g hg => by simp [Value.ownBlock] at hg)⟩
      show GOwn _ _ _ _ _ _ _
      rw [HP.out]
      exact GOwn.snoc (enc := encPid) (xs := []) (x := (⟨id.author, id.seq - 1⟩ : PidM)) (by unfold encPid; rw [HS.out]; exact ho2)
    · have d1 : decide ((1 : Int) < (id.seq.toNat : Int)) = false := by simp; omega
      have HP : Hid (preDep id = []) := preDep_no g1
      go_wp2_with fail
      go_meet
      exact ⟨(by show GOwn _ _ _ _ _ _ _; rw [HP.out]; exact gown_nil _ _), Below.refl _ _⟩
  case rest =>
    obtain ⟨HO, hbc⟩ := hcut
    go_wp2_with fail
    go_loopw [5, 24] (fun v5 v6 wr => DpOut w0 id ops v5 v6 wr) (fun _ v6 _ => ops.length - (intOf v6).toNat)
    case atStart => exact ⟨0, by omega, rfl, (by show GOwn _ _ _ _ _ _ _; rw [List.take_zero, depsTo_nil]; exact HO.out), hbc⟩
    case round =>
      rename World => wo
      obtain ⟨i, hi, rfl, HM, hbl⟩ := hrel
      by_cases hlt : i < ops.length
      · obtain ⟨b, off, rfl, sb, hcb⟩ := HC.out.resolve_left (by omega)
        obtain ⟨o, ho⟩ := get_of_lt hlt
        have HOp := Lib.hid (hcb i o ho wo hbl)
        have HSu := Lib.hid (depsTo_succ (id := id) ho)
        have hdt := depsTo_len id (ops.take i)
        rw [List.length_take] at hdt
        have o0 : wo.cell? ⟨b, off + i * 8, none⟩ = some (.int .u8 (o.kind.toNat : Int)) := (HOp.out).2 0 _ rfl
        have o1 : wo.cell? ⟨b, off + i * 8 + 1, none⟩ = some (.int .u8 (o.at'.pid.author.toNat : Int)) := (HOp.out).2 1 _ rfl
        have o2 : wo.cell? ⟨b, off + i * 8 + 2, none⟩ = some (.int .u16 (o.at'.pid.seq.toNat : Int)) := (HOp.out).2 2 _ rfl
        have o3 : wo.cell? ⟨b, off + i * 8 + 3, none⟩ = some (.int .u8 (o.at'.n.toNat : Int)) := (HOp.out).2 3 _ rfl
        have o4 : wo.cell? ⟨b, off + i * 8 + 4, none⟩ = some (.int .u8 (o.to.pid.author.toNat : Int)) := (HOp.out).2 4 _ rfl
        have o5 : wo.cell? ⟨b, off + i * 8 + 5, none⟩ = some (.int .u16 (o.to.pid.seq.toNat : Int)) := (HOp.out).2 5 _ rfl
        have o6 : wo.cell? ⟨b, off + i * 8 + 6, none⟩ = some (.int .u8 (o.to.n.toNat : Int)) := (HOp.out).2 6 _ rfl
        have o7 : wo.cell? ⟨b, off + i * 8 + 7, none⟩ = some (.string o.text) := (HOp.out).2 7 _ rfl
        have so := HOp.out.1
        clear hcb ho
        go_wp2_with fail
        refine (prefs_any o _).mono ?_
        rintro e w1 ⟨vr, rfl, hvr, hb1⟩
        obtain ⟨a2, cap2, e2, q1, q2, _⟩ := (RefsAt.vrow hvr).form
        subst e2
        unfold maxLen at q2
        have HVr := Lib.hid hvr
        have HBo : Hid (Below wo.heap.size wo (wo.alloc (.cells #[.int .u8 (o.kind.toNat : Int), .int .u8 (o.at'.pid.author.toNat : Int), .int .u16 (o.at'.pid.seq.toNat : Int), .int .u8 (o.at'.n.toNat : Int), .int .u8 (o.to.pid.author.toNat : Int), .int .u16 (o.to.pid.seq.toNat : Int), .int .u8 (o.to.n.toNat : Int), .string o.text] 66))) := below_new _
        have HB1 := Lib.hid (below_over (below_over hbl hbl.size HBo.out) (by have := hbl.size; simp; omega) hb1)
        have HM1 := Lib.hid ((HM.out.over HBo.out).over hb1)
        have hrl := refs_len o
        clear hvr hb1 o0 o1 o2 o3 o4 o5 o6 o7 so
        go_wp2_with fail
        go_hide hQ
        go_loopw [5, 31] (fun v5 v8 wi => DpIn w0 id (depsTo id (ops.take i)) (refsM o) (.slice a2 (refsM o).length cap2) v5 v8 wi) (fun _ v8 _ => (refsM o).length - (intOf v8).toNat)
        case atStart => exact ⟨0, by omega, rfl, (by show GOwn _ _ _ _ _ _ _; rw [List.take_zero, farPids_nil, List.append_nil]; exact HM1.out), HVr, HB1.out⟩
        case round =>
          rename World => wr
          obtain ⟨k, hk, rfl, HM2, HR2, hbi⟩ := hrel
          have hfl := farPids_len id ((refsM o).take k)
          rw [List.length_take] at hfl
          have hN : (depsTo id (ops.take i) ++ farPids id ((refsM o).take k)).length + 1 ≤ 1099511627776 := by rw [List.length_append]; omega
          by_cases hk2 : k < (refsM o).length
          · obtain ⟨g, rfl, hAr⟩ := refs_at HR2.out (by omega)
            obtain ⟨u, hu⟩ := get_of_lt hk2
            have HU := Lib.hid hu
            have HAv := Lib.hid hAr
            have HAi := Lib.hid (HA.out.over hbi)
            have i0 := HAi.out.cell (j := 0) rfl
            have i1 := HAi.out.cell (j := 1) rfl
            have si := HAi.out.lt
            have u0 : wr.cell? ⟨g, k * 3, none⟩ = some (.int .u8 (u.pid.author.toNat : Int)) := hAr.arr.cell ((flat_get encVid_len _ k 0 u hu (by decide)).trans rfl)
            have u1 : wr.cell? ⟨g, k * 3 + 1, none⟩ = some (.int .u16 (u.pid.seq.toNat : Int)) := hAr.arr.cell ((flat_get encVid_len _ k 1 u hu (by decide)).trans rfl)
            have u2 : wr.cell? ⟨g, k * 3 + 2, none⟩ = some (.int .u8 (u.n.toNat : Int)) := hAr.arr.cell ((flat_get encVid_len _ k 2 u hu (by decide)).trans rfl)
            have su := hAr.arr.lt
            have hB2 := hbi.size
            have HBx : Hid (Below wr.heap.size wr (wr.alloc (.cells #[.int .u8 (u.pid.author.toNat : Int), .int .u16 (u.pid.seq.toNat : Int), .int .u8 (u.n.toNat : Int)] 27))) := below_new _
            have hBx : w0.heap.size ≤ (wr.alloc (.cells #[.int .u8 (u.pid.author.toNat : Int), .int .u16 (u.pid.seq.toNat : Int), .int .u8 (u.n.toNat : Int)] 27)).heap.size := by simp; omega
            have HMx := Lib.hid (HM2.out.over HBx.out)
            have HRx := Lib.hid (HR2.out.over HBx.out)
            have HBb := Lib.hid (below_over hbi hB2 HBx.out)
            clear hu hAr
            by_cases hp : u.pid = id
            · have e1 := neq_pid u.pid id false (by simp [hp])
              unfold pidV at e1
              have HN := Lib.hid (farPids_no HU.out hp)
              clear hp
              go_wp2_with fail
              go_roundw
              case rel => exact ⟨k + 1, hk2, by go_num, (by show GOwn _ _ _ _ _ _ _; rw [HN.out]; exact HMx.out), HRx.out, HBb.out⟩
              case measure => simp [intOf]; omega
            · have e1 := neq_pid u.pid id true (by simp [hp])
              unfold pidV at e1
              have HN := Lib.hid (farPids_yes HU.out hp)
              clear hp
              have hBx2 : w0.heap.size ≤ wr.heap.size + 1 := by omega
              go_wp2_with (at_builtin; refine wpList_append_newH slPid rfl _ _ rfl w0.heap.size _ _ (wr.heap.size + 1) (by simp) 1 _ _ _ HMx.out rfl rfl rfl rfl hN (by decide) hBx2 ?_; intro v2 w2 ho2 hg2)
              go_roundw
              case rel => exact ⟨k + 1, hk2, by go_num, (by show GOwn _ _ _ _ _ _ _; rw [HN.out, ← List.append_assoc]; exact GOwn.snoc ho2), HRx.out.grown HMx.out (by decide) hg2, below_grown HBb.out hBx HMx.out hg2⟩
              case measure => simp [intOf]; omega
          · obtain rfl : k = (refsM o).length := by omega
            rw [List.take_length] at HM2
            go_wp2_with fail
            subst hQ
            go_wp2_with fail
            go_roundw
            case rel => exact ⟨i + 1, hlt, by go_num, (by show GOwn _ _ _ _ _ _ _; rw [HSu.out]; exact HM2.out), hbi⟩
            case measure => simp [intOf]; omega
      · obtain rfl : i = ops.length := by omega
        have HE := HM.out
        rw [List.take_length] at HE
        have HE2 := Lib.hid HE.row
        clear HE
        go_wp2_with fail
        refine (psetPid_any _ _ _ HE2.out (by omega)).mono ?_
        rintro e w2 ⟨u, rfl, hu, hb2⟩
        have HU : Hid (GOwn encPid 2 25 w2 w.heap.size u (depsM id ops)) := by rw [← depsTo_all]; exact hu.base (Nat.le_trans HB.out.size hbl.size)
        clear hu
        go_wp2_with fail
        go_ret
        exact ⟨_, rfl, HU.out, below_over (below_over HB.out HB.out.size hbl) (by have := HB.out.size; have := hbl.size; omega) hb2⟩
end Go.Proofs.YtflnkmmimoninaaGreatDoor
