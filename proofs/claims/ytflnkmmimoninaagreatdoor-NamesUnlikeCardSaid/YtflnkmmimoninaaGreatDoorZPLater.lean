/- Contracts of patch.later, its closure, slices.ContainsFunc and IndexFunc there; slices.Equal at names. -/
import Derived.Test.YtflnkmmimoninaaGreatDoorZPDeps
namespace Go.Proofs.YtflnkmmimoninaaGreatDoor
open Go Go.RowKit

def laterOne (id : PidM) (v : VidM) : Bool := decide (v.pid.author = id.author) && decide (id.seq.toNat < v.pid.seq.toNat)
theorem laterB_eq (id : PidM) (o : OpM) : laterB id o = (refsM o).any (laterOne id) := rfl
set_option maxHeartbeats 1000000 in
set_option maxRecDepth 100000 in
theorem laterFn_any (id : PidM) (v : VidM) (g : Nat) (w : World) (hA : Arr w g (encPid id)) :
    Calls Tryz.prog 110 #[vidV v, .pointer (some ⟨g, 0, none⟩)] w fun e w' => e = .returned (.bool (laterOne id v)) ∧ Below w.heap.size w w' := by
  have i0 := (hA.alloc (.cells #[.int .u8 (v.pid.author.toNat : Int), .int .u16 (v.pid.seq.toNat : Int), .int .u8 (v.n.toNat : Int)] 27)).cell (j := 0) rfl
  have i1 := (hA.alloc (.cells #[.int .u8 (v.pid.author.toNat : Int), .int .u16 (v.pid.seq.toNat : Int), .int .u8 (v.n.toNat : Int)] 27)).cell (j := 1) rfl
  have sg := hA.lt
  have sg2 : ¬ g = w.heap.size := by omega
  clear hA
  unfold vidV
  by_cases h1 : v.pid.author = id.author
  · have e1 : ((v.pid.author.toNat : Int) == (id.author.toNat : Int)) = true := by simp [h1]
    by_cases h2 : id.seq.toNat < v.pid.seq.toNat
    · have e2 : decide (id.seq.toNat < v.pid.seq.toNat) = true := by simpa using h2
      have HV : Hid (laterOne id v = true) := by show _ = _; unfold laterOne; simp [h1, h2]
      clear h1 h2
      go_enter Tryz.func110, Tryz.ntmps110
      go_wp2_with fail
      go_ret
      exact ⟨ret_val (congrArg Value.bool HV.out.symm), below_new _⟩
    · have e2 : decide (id.seq.toNat < v.pid.seq.toNat) = false := by simpa using h2
      have HV : Hid (laterOne id v = false) := by show _ = _; unfold laterOne; simp [h1]; omega
      clear h1 h2
      go_enter Tryz.func110, Tryz.ntmps110
      go_wp2_with fail
      go_ret
      exact ⟨ret_val (congrArg Value.bool HV.out.symm), below_new _⟩
  · have e1 : ((v.pid.author.toNat : Int) == (id.author.toNat : Int)) = false := by
      simp; intro h; exact h1 (UInt8.toNat_inj.1 (by omega))
    have HV : Hid (laterOne id v = false) := by show _ = _; unfold laterOne; simp [h1]
    clear h1
    go_enter Tryz.func110, Tryz.ntmps110
    go_wp2_with fail
    go_ret
    exact ⟨ret_val (congrArg Value.bool HV.out.symm), below_new _⟩
/-- the first place at which something holds; -1: none -/
def idxB {α : Type} (f : α → Bool) (l : List α) : Int := match l.findIdx? f with | some i => (i : Int) | none => -1
def IxRes (w : World) (f : VidM → Bool) (vs : List VidM) (e : Ending) (w' : World) : Prop := e = .returned (.int .i64 (idxB f vs)) ∧ Below w.heap.size w w'
theorem idx_hit {α : Type} {f : α → Bool} {l : List α} {k : Nat} {x : α} (h : (l.take k).any f = false) (hx : l[k]? = some x) (hf : f x = true) : idxB f l = (k : Int) := by
  have : l.findIdx? f = some k := by
    rw [List.findIdx?_eq_some_iff_getElem]
    obtain ⟨hk, e⟩ := List.getElem?_eq_some_iff.1 hx
    refine ⟨hk, by rw [e]; exact hf, fun j hj => ?_⟩
    have := List.any_eq_false.1 h (l[j]) (List.mem_iff_getElem.2 ⟨j, by rw [List.length_take]; omega, by simp⟩)
    simpa using this
  unfold idxB; rw [this]
theorem idx_miss {α : Type} {f : α → Bool} {l : List α} (h : (l.take l.length).any f = false) : idxB f l = -1 := by
  rw [List.take_length] at h
  have : l.findIdx? f = none := by
    rw [List.findIdx?_eq_none_iff]
    intro x hx
    simpa using List.any_eq_false.1 h x hx
  unfold idxB; rw [this]
theorem any_step {α : Type} {f : α → Bool} {l : List α} {k : Nat} {x : α} (h : (l.take k).any f = false) (hx : l[k]? = some x) (hf : f x = false) : (l.take (k + 1)).any f = false := by
  rw [take_succ_get hx, List.any_append, h]; simp [hf]
theorem idx_ge {α : Type} (f : α → Bool) (l : List α) : decide (0 ≤ idxB f l) = l.any f := by
  unfold idxB
  cases h : l.findIdx? f with
  | none =>
    rw [List.findIdx?_eq_none_iff] at h
    have : l.any f = false := List.any_eq_false.2 fun x hx => by simp [h x hx]
    rw [this]; rfl
  | some i =>
    rw [List.findIdx?_eq_some_iff_getElem] at h
    obtain ⟨hk, hf, _⟩ := h
    have : l.any f = true := List.any_eq_true.2 ⟨_, List.getElem_mem hk, hf⟩
    rw [this]; simp
attribute [local irreducible] laterOne idxB
set_option maxHeartbeats 2000000 in
set_option maxRecDepth 100000 in
theorem idxLater_any (id : PidM) (v : Value) (vs : List VidM) (g : Nat) (w : World) (hA : Arr w g (encPid id)) (hv : GRow encVid 3 w v vs) (hl : vs.length ≤ 1000) :
    Calls Tryz.prog 142 #[v, .func (.func 110) #[] #[.pointer (some ⟨g, 0, none⟩)]] w (IxRes w (laterOne id) vs) := by
  obtain ⟨a, cap, rfl, h1, h2, hc⟩ := hv.at encVid_len
  unfold maxLen at h2
  have HC := Lib.hid hc
  have HA := Lib.hid hA
  clear hv hc hA
  go_enter Tryz.func142, Tryz.ntmps142
  go_wp2_with fail
  go_loopw [8] (fun v8 wr => ∃ k : Nat, k ≤ vs.length ∧ v8 = .int .i64 k ∧ Hid ((vs.take k).any (laterOne id) = false) ∧ Below w.heap.size w wr) (fun v8 _ => vs.length - (intOf v8).toNat)
  case atStart => exact ⟨0, by omega, rfl, (by show _ = _; simp), Below.refl _ _⟩
  case round =>
    obtain ⟨k, hk, rfl, HK, hbl⟩ := hrel
    by_cases hlt : k < vs.length
    · obtain ⟨b, off, rfl, sb, hcb⟩ := HC.out.resolve_left (by omega)
      obtain ⟨u, hu⟩ := get_of_lt hlt
      have HU := Lib.hid (hcb k u hu wr hbl)
      have u0 : wr.cell? ⟨b, off + k * 3, none⟩ = some (.int .u8 (u.pid.author.toNat : Int)) := (HU.out).2 0 _ rfl
      have u1 : wr.cell? ⟨b, off + k * 3 + 1, none⟩ = some (.int .u16 (u.pid.seq.toNat : Int)) := (HU.out).2 1 _ rfl
      have u2 : wr.cell? ⟨b, off + k * 3 + 2, none⟩ = some (.int .u8 (u.n.toNat : Int)) := (HU.out).2 2 _ rfl
      have su := HU.out.1
      have HX := Lib.hid hu
      clear hcb hu
      go_wp2_with fail
      refine (laterFn_any id u g _ (HA.out.over hbl)).mono ?_
      rintro e w1 ⟨rfl, hb1⟩
      have HB1 := Lib.hid (below_over hbl hbl.size hb1)
      clear hb1 u0 u1 u2 su
      cases hf : laterOne id u with
      | true =>
        have HI := Lib.hid (idx_hit HK.out HX.out hf)
        clear hf
        go_wp2_with fail
        go_ret
        exact ⟨ret_int HI.out.symm, HB1.out⟩
      | false =>
        have HI := Lib.hid (any_step HK.out HX.out hf)
        clear hf
        go_wp2_with fail
        go_roundw
        case rel => exact ⟨k + 1, hlt, by go_num, HI, HB1.out⟩
        case measure => simp [intOf]; omega
    · obtain rfl : k = vs.length := by omega
      have HI := Lib.hid (idx_miss HK.out)
      go_wp2_with fail
      go_ret
      exact ⟨ret_int HI.out.symm, hbl⟩
set_option maxHeartbeats 2000000 in
set_option maxRecDepth 100000 in
theorem conLater_any (id : PidM) (v : Value) (vs : List VidM) (g : Nat) (w : World) (hA : Arr w g (encPid id)) (hv : GRow encVid 3 w v vs) (hl : vs.length ≤ 1000) :
    Calls Tryz.prog 109 #[v, .func (.func 110) #[] #[.pointer (some ⟨g, 0, none⟩)]] w fun e w' => e = .returned (.bool (vs.any (laterOne id))) ∧ Below w.heap.size w w' := by
  have HI := Lib.hid (idx_ge (laterOne id) vs)
  have hcon := idxLater_any id v vs g w hA hv hl
  unfold IxRes at hcon
  generalize idxB (laterOne id) vs = r at *
  generalize vs.any (laterOne id) = q at *
  clear hA hv
  go_enter Tryz.func109, Tryz.ntmps109
  go_wp2_with fail
  refine hcon.mono ?_
  rintro e w1 ⟨rfl, hb1⟩
  have HB := Lib.hid hb1
  clear hb1 hcon
  go_wp2_with fail
  go_ret
  exact ⟨ret_val (congrArg Value.bool HI.out), HB.out⟩
attribute [local irreducible] laterB refsM
set_option maxHeartbeats 2000000 in
set_option maxRecDepth 100000 in
theorem plater_any (id : PidM) (o : OpM) (w : World) : Calls Tryz.prog 73 #[pidV id, opV o] w fun e w' => e = .returned (.bool (laterB id o)) ∧ Below w.heap.size w w' := by
  have HA := Lib.hid ((arr_new w #[.int .u8 (id.author.toNat : Int), .int .u16 (id.seq.toNat : Int)] 25).alloc (.cells #[.int .u8 (o.kind.toNat : Int), .int .u8 (o.at'.pid.author.toNat : Int), .int .u16 (o.at'.pid.seq.toNat : Int), .int .u8 (o.at'.n.toNat : Int), .int .u8 (o.to.pid.author.toNat : Int), .int .u16 (o.to.pid.seq.toNat : Int), .int .u8 (o.to.n.toNat : Int), .string o.text] 66))
  have HB := Lib.hid ((below_new (w := w) (.cells #[.int .u8 (id.author.toNat : Int), .int .u16 (id.seq.toNat : Int)] 25)).alloc (by simp) (.cells #[.int .u8 (o.kind.toNat : Int), .int .u8 (o.at'.pid.author.toNat : Int), .int .u16 (o.at'.pid.seq.toNat : Int), .int .u8 (o.at'.n.toNat : Int), .int .u8 (o.to.pid.author.toNat : Int), .int .u16 (o.to.pid.seq.toNat : Int), .int .u8 (o.to.n.toNat : Int), .string o.text] 66))
  have hrl := refs_len o
  have HL := Lib.hid (laterB_eq id o)
  unfold pidV opV
  go_enter Tryz.func73, Tryz.ntmps73
  go_wp2_with fail
  generalize hw0 : (w.alloc (.cells #[.int .u8 (id.author.toNat : Int), .int .u16 (id.seq.toNat : Int)] 25)).alloc (.cells #[.int .u8 (o.kind.toNat : Int), .int .u8 (o.at'.pid.author.toNat : Int), .int .u16 (o.at'.pid.seq.toNat : Int), .int .u8 (o.at'.n.toNat : Int), .int .u8 (o.to.pid.author.toNat : Int), .int .u16 (o.to.pid.seq.toNat : Int), .int .u8 (o.to.n.toNat : Int), .string o.text] 66) = w0 at *
  clear hw0
  refine (prefs_any o _).mono ?_
  rintro e w1 ⟨v1, rfl, hv1, hb1⟩
  have HV1 := Lib.hid (RefsAt.vrow hv1)
  have HB1 := Lib.hid hb1
  clear hv1 hb1
  go_wp2_with fail
  refine (conLater_any id v1 (refsM o) _ w1 (HA.out.over HB1.out) HV1.out (by omega)).mono ?_
  rintro e w2 ⟨rfl, hb2⟩
  rw [← HL.out]
  have HB2 := Lib.hid hb2
  clear hb2
  go_wp2_with fail
  go_ret
  exact ⟨rfl, below_over HB.out HB.out.size (below_over HB1.out HB1.out.size HB2.out)⟩

set_option maxHeartbeats 4000000 in
set_option maxRecDepth 100000 in
theorem equalPid_any (v u : Value) (l m : List PidM) (w : World) (hv : GRow encPid 2 w v l) (hu : GRow encPid 2 w u m) :
    Calls Tryz.prog 71 #[v, u] w fun e w' => e = .returned (.bool (decide (l = m))) ∧ Below w.heap.size w w' := by
  obtain ⟨a, cap, rfl, h1, h2, hc⟩ := hv.at encPid_len
  obtain ⟨a', cap', rfl, h1', h2', hc'⟩ := hu.at encPid_len
  unfold maxLen at h2 h2'
  have HC := Lib.hid hc
  have HC' := Lib.hid hc'
  clear hv hu hc hc'
  have gd := fun p q xs ys w => guard_pid .neq p q xs ys w
  by_cases hlen : l.length = m.length
  · have HL := Lib.hid hlen
    have hq : ((l.length : Int) != (m.length : Int)) = false := by simp [hlen]
    clear hlen
    go_enter Tryz.func71, Tryz.ntmps71
    go_wp2_with fail
    go_loopw [13] (fun i wr => ∃ k : Nat, k ≤ l.length ∧ i = .int .i64 k ∧ Hid (l.take k = m.take k) ∧ Below w.heap.size w wr) (fun i _ => l.length - (intOf i).toNat)
    case atStart => exact ⟨0, by omega, rfl, rfl, Below.refl _ _⟩
    case round =>
      obtain ⟨k, hk, rfl, HK, hbl⟩ := hrel
      by_cases hlt : k < l.length
      · obtain ⟨bl, ol, rfl, sl, hcl⟩ := HC.out.resolve_left (by omega)
        obtain ⟨bm, om, rfl, sm, hcm⟩ := HC'.out.resolve_left (by have := HL.out; omega)
        obtain ⟨x, hx⟩ := get_of_lt hlt
        obtain ⟨y, hy⟩ := get_of_lt (xs := m) (i := k) (by have := HL.out; omega)
        have hkm : k < m.length := by have := HL.out; omega
        have x0 : wr.cell? ⟨bl, ol + k * 2, none⟩ = some (.int .u8 (x.author.toNat : Int)) := ((hcl k x hx wr hbl)).2 0 _ rfl
        have x1 : wr.cell? ⟨bl, ol + k * 2 + 1, none⟩ = some (.int .u16 (x.seq.toNat : Int)) := ((hcl k x hx wr hbl)).2 1 _ rfl
        have y0 : wr.cell? ⟨bm, om + k * 2, none⟩ = some (.int .u8 (y.author.toNat : Int)) := ((hcm k y hy wr hbl)).2 0 _ rfl
        have y1 : wr.cell? ⟨bm, om + k * 2 + 1, none⟩ = some (.int .u16 (y.seq.toNat : Int)) := ((hcm k y hy wr hbl)).2 1 _ rfl
        have sX := (hcl k x hx wr hbl).1
        have sY := (hcm k y hy wr hbl).1
        have HX := Lib.hid hx
        have HY := Lib.hid hy
        clear hcl hcm hx hy
        by_cases hxy : x = y
        · have hne := neq_pid x y false (by simp [hxy])
          unfold pidV at hne
          have HK2 : Hid (l.take (k + 1) = m.take (k + 1)) := by show _ = _; rw [take_succ_get HX.out, take_succ_get HY.out, HK.out, hxy]
          clear hxy
          go_wp2_with fail
          have hcur : Below wr.heap.size wr wr.drew := (Below.refl _ _).drew
          refine wp_region_lex (C := IsOver wr) 9 [] (by kernel_rfl) (by kernel_rfl) (isOver_of (by repeat (first | exact Below.refl _ _ | apply Below.drew | apply below_drewN | (refine Below.alloc ?_ (by simp) _)))) ?_
          simp only [List.take_succ_cons, List.take_zero, List.drop_succ_cons, List.drop_zero]
          repeat (first | (refine lex_skip rfl rfl ?_; simp only [Act.put, List.setIfInBounds_toArray, List.set_cons_succ, List.set_cons_zero]) | (refine lex_one rfl ?_; go_big_quiet_step (fail); refine wpQuiet_nil ?_))
          refine lex_end ?_
          go_wp2_with fail
          go_roundw
          case rel => exact ⟨k + 1, hlt, by go_num, HK2, hbl.drew⟩
          case measure => simp [intOf]; omega
        · have hne := neq_pid x y true (by simp [hxy])
          unfold pidV at hne
          have HN : Hid (decide (l = m) = false) := decide_eq_false (take_ne HX.out HY.out hxy)
          clear hxy
          go_wp2_with fail
          have hcur : Below wr.heap.size wr wr.drew := (Below.refl _ _).drew
          refine wp_region_lex (C := IsOver wr) 9 [] (by kernel_rfl) (by kernel_rfl) (isOver_of (by repeat (first | exact Below.refl _ _ | apply Below.drew | apply below_drewN | (refine Below.alloc ?_ (by simp) _)))) ?_
          simp only [List.take_succ_cons, List.take_zero, List.drop_succ_cons, List.drop_zero]
          repeat (first | (refine lex_skip rfl rfl ?_; simp only [Act.put, List.setIfInBounds_toArray, List.set_cons_succ, List.set_cons_zero]) | (refine lex_one rfl ?_; go_big_quiet_step (fail); refine wpQuiet_nil ?_))
          refine lex_end ?_
          go_wp2_with fail
          go_ret
          exact ⟨ret_val (congrArg Value.bool HN.out.symm), hbl.drew⟩
      · obtain rfl : k = l.length := by omega
        have HN : Hid (decide (l = m) = true) := decide_eq_true (take_all HL.out HK.out)
        go_wp2_with fail
        go_ret
        exact ⟨ret_val (congrArg Value.bool HN.out.symm), hbl⟩
  · have HN : Hid (decide (l = m) = false) := decide_eq_false (fun h => hlen (by rw [h]))
    have hq : ((l.length : Int) != (m.length : Int)) = true := by simp; omega
    clear hlen
    go_enter Tryz.func71, Tryz.ntmps71
    go_wp2_with fail
    go_ret
    exact ⟨ret_val (congrArg Value.bool HN.out.symm), Below.refl _ _⟩
end Go.Proofs.YtflnkmmimoninaaGreatDoor
