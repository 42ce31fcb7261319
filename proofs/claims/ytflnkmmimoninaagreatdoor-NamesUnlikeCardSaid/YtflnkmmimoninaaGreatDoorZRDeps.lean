/- Contract of bruitref10.Same. Contract of bruitref18.Deps. -/
import Derived.Test.YtflnkmmimoninaaGreatDoorZSet
namespace Go.Proofs.YtflnkmmimoninaaGreatDoor
open Go Go.RowKit

theorem take_all {α : Type} {l m : List α} (hl : l.length = m.length) (h : l.take l.length = m.take l.length) : l = m := by
  rw [List.take_length, hl, List.take_length] at h; exact h
theorem take_ne {α : Type} {l m : List α} {k : Nat} {x y : α} (hx : l[k]? = some x) (hy : m[k]? = some y) (h : ¬ x = y) : ¬ l = m := by
  rintro rfl
  rw [hx] at hy
  exact h (Option.some.inj hy)

set_option maxHeartbeats 4000000 in
set_option maxRecDepth 100000 in
theorem rsamePid_any (v u : Value) (l m : List PidM) (w : World) (hv : GRow encPid 2 w v l) (hu : GRow encPid 2 w u m) :
    Calls Tryz.prog 115 #[v, u] w fun e w' => e = .returned (.bool (decide (l = m))) ∧ Below w.heap.size w w' := by
  obtain ⟨a, cap, rfl, h1, h2, hc⟩ := hv.at encPid_len
  obtain ⟨a', cap', rfl, h1', h2', hc'⟩ := hu.at encPid_len
  unfold maxLen at h2 h2'
  have HC := Lib.hid hc
  have HC' := Lib.hid hc'
  clear hv hu hc hc'
  have gd := fun p q xs ys w => guard_pid .neq p q xs ys w
  by_cases hlen : l.length = m.length
  · have HL := Lib.hid hlen
    have hq : ((l.length : Int) != (m.length : Int)) = false := by simp [hlen]
    clear hlen
    go_enter Tryz.func115, Tryz.ntmps115
    go_wp2_with fail
    go_loopw [5] (fun i wr => ∃ k : Nat, k ≤ l.length ∧ i = .int .i64 k ∧ Hid (l.take k = m.take k) ∧ Below w.heap.size w wr) (fun i _ => l.length - (intOf i).toNat)
    case atStart => exact ⟨0, by omega, rfl, rfl, Below.refl _ _⟩
    case round =>
      obtain ⟨k, hk, rfl, HK, hbl⟩ := hrel
      by_cases hlt : k < l.length
      · obtain ⟨bl, ol, rfl, sl, hcl⟩ := HC.out.resolve_left (by omega)
        obtain ⟨bm, om, rfl, sm, hcm⟩ := HC'.out.resolve_left (by have := HL.out; omega)
        obtain ⟨x, hx⟩ := get_of_lt hlt
        obtain ⟨y, hy⟩ := get_of_lt (xs := m) (i := k) (by have := HL.out; omega)
        have hkm : k < m.length := by have := HL.out; omega
        have x0 : wr.cell? ⟨bl, ol + k * 2, none⟩ = some (.int .u8 (x.author.toNat : Int)) := ((hcl k x hx wr hbl)).2 0 _ rfl
        have x1 : wr.cell? ⟨bl, ol + k * 2 + 1, none⟩ = some (.int .u16 (x.seq.toNat : Int)) := ((hcl k x hx wr hbl)).2 1 _ rfl
        have y0 : wr.cell? ⟨bm, om + k * 2, none⟩ = some (.int .u8 (y.author.toNat : Int)) := ((hcm k y hy wr hbl)).2 0 _ rfl
        have y1 : wr.cell? ⟨bm, om + k * 2 + 1, none⟩ = some (.int .u16 (y.seq.toNat : Int)) := ((hcm k y hy wr hbl)).2 1 _ rfl
        have sX := (hcl k x hx wr hbl).1
        have sY := (hcm k y hy wr hbl).1
        have HX := Lib.hid hx
        have HY := Lib.hid hy
        clear hcl hcm hx hy
        by_cases hxy : x = y
        · have hne := neq_pid x y false (by simp [hxy])
          unfold pidV at hne
          have HK2 : Hid (l.take (k + 1) = m.take (k + 1)) := by show _ = _; rw [take_succ_get HX.out, take_succ_get HY.out, HK.out, hxy]
          clear hxy
          go_wp2_with fail
          have hcur : Below wr.heap.size wr wr.drew := (Below.refl _ _).drew
          refine wp_region_lex (C := IsOver wr) 9 [] (by kernel_rfl) (by kernel_rfl) (isOver_of (by repeat (first | exact Below.refl _ _ | apply Below.drew | apply below_drewN | (refine Below.alloc ?_ (by simp) _)))) ?_
          simp only [List.take_succ_cons, List.take_zero, List.drop_succ_cons, List.drop_zero]
          repeat (first | (refine lex_skip rfl rfl ?_; simp only [Act.put, List.setIfInBounds_toArray, List.set_cons_succ, List.set_cons_zero]) | (refine lex_one rfl ?_; go_big_quiet_step (fail); refine wpQuiet_nil ?_))
          refine lex_end ?_
          go_wp2_with fail
          go_roundw
          case rel => exact ⟨k + 1, hlt, by go_num, HK2, hbl.drew⟩
          case measure => simp [intOf]; omega
        · have hne := neq_pid x y true (by simp [hxy])
          unfold pidV at hne
          have HN : Hid (decide (l = m) = false) := decide_eq_false (take_ne HX.out HY.out hxy)
          clear hxy
          go_wp2_with fail
          have hcur : Below wr.heap.size wr wr.drew := (Below.refl _ _).drew
          refine wp_region_lex (C := IsOver wr) 9 [] (by kernel_rfl) (by kernel_rfl) (isOver_of (by repeat (first | exact Below.refl _ _ | apply Below.drew | apply below_drewN | (refine Below.alloc ?_ (by simp) _)))) ?_
          simp only [List.take_succ_cons, List.take_zero, List.drop_succ_cons, List.drop_zero]
          repeat (first | (refine lex_skip rfl rfl ?_; simp only [Act.put, List.setIfInBounds_toArray, List.set_cons_succ, List.set_cons_zero]) | (refine lex_one rfl ?_; go_big_quiet_step (fail); refine wpQuiet_nil ?_))
          refine lex_end ?_
          go_wp2_with fail
          go_ret
          exact ⟨ret_val (congrArg Value.bool HN.out.symm), hbl.drew⟩
      · obtain rfl : k = l.length := by omega
        have HN : Hid (decide (l = m) = true) := decide_eq_true (take_all HL.out HK.out)
        go_wp2_with fail
        go_ret
        exact ⟨ret_val (congrArg Value.bool HN.out.symm), hbl⟩
  · have HN : Hid (decide (l = m) = false) := decide_eq_false (fun h => hlen (by rw [h]))
    have hq : ((l.length : Int) != (m.length : Int)) = true := by simp; omega
    clear hlen
    go_enter Tryz.func115, Tryz.ntmps115
    go_wp2_with fail
    go_ret
    exact ⟨ret_val (congrArg Value.bool HN.out.symm), Below.refl _ _⟩
end Go.Proofs.YtflnkmmimoninaaGreatDoor
namespace Go.Proofs.YtflnkmmimoninaaGreatDoor
open Go Go.RowKit

def farPids (id : PidM) (vs : List VidM) : List PidM := (vs.filter fun v => v.pid ≠ id).map (·.pid)
theorem farPids_yes {id : PidM} {vs : List VidM} {k : Nat} {v : VidM} (h : vs[k]? = some v) (hv : ¬ v.pid = id) : farPids id (vs.take (k + 1)) = farPids id (vs.take k) ++ [v.pid] := by
  unfold farPids; rw [take_succ_get h, List.filter_append, List.map_append]; simp [hv]
theorem farPids_no {id : PidM} {vs : List VidM} {k : Nat} {v : VidM} (h : vs[k]? = some v) (hv : v.pid = id) : farPids id (vs.take (k + 1)) = farPids id (vs.take k) := by
  unfold farPids; rw [take_succ_get h, List.filter_append, List.map_append]; simp [hv]
theorem farPids_len (id : PidM) (vs : List VidM) : (farPids id vs).length ≤ vs.length := by
  unfold farPids; rw [List.length_map]; exact List.length_filter_le _ _
def preDep (id : PidM) : List PidM := if 1 < id.seq.toNat then [⟨id.author, id.seq - 1⟩] else []
def depsTo (id : PidM) (ops : List OpM) : List PidM := preDep id ++ ops.flatMap fun o => farPids id (refsM o)
theorem depsTo_all (id : PidM) (ops : List OpM) : setS packPid (depsTo id ops) = depsM id ops := rfl
theorem depsTo_succ {id : PidM} {ops : List OpM} {i : Nat} {o : OpM} (h : ops[i]? = some o) : depsTo id (ops.take (i + 1)) = depsTo id (ops.take i) ++ farPids id (refsM o) := by
  unfold depsTo; rw [take_succ_get h, List.flatMap_append]; simp
theorem preDep_len (id : PidM) : (preDep id).length ≤ 1 := by unfold preDep; split <;> simp
theorem far_len (id : PidM) : ∀ ops : List OpM, (ops.flatMap fun o => farPids id (refsM o)).length ≤ 2 * ops.length
  | [] => by simp
  | o :: ops => by
    have h2 := farPids_len id (refsM o)
    have h3 := refs_len o
    have h4 := far_len id ops
    rw [List.flatMap_cons, List.length_append, List.length_cons]; omega
theorem depsTo_len (id : PidM) : ∀ ops : List OpM, (depsTo id ops).length ≤ 1 + 2 * ops.length := by
  intro ops
  have h1 := preDep_len id
  have h2 := far_len id ops
  unfold depsTo
  rw [List.length_append]; omega
theorem sub_seq {s : UInt16} (h : 1 < s.toNat) : ((s - 1).toNat : Int) = (s.toNat : Int) - 1 := by
  have : (s - 1).toNat = s.toNat - 1 := by
    rw [UInt16.toNat_sub_of_le]
    · rfl
    · rw [UInt16.le_iff_toNat_le]; show 1 ≤ _; omega
  rw [this]; omega
theorem refs_at {w : World} {a : Option Addr} {n c : Nat} {vs : List VidM} (h : RefsAt w (.slice a n c) vs) (hp : 0 < vs.length) : ∃ g, a = some ⟨g, 0, none⟩ ∧ ArrT w g 27 (vs.flatMap encVid) := by
  rcases h with ⟨rfl, _⟩ | ⟨_, _, g, e, hA⟩
  · simp at hp
  · cases e; exact ⟨g, rfl, hA⟩
theorem RefsAt.over {w w' : World} {v : Value} {vs : List VidM} (h : RefsAt w v vs) (hb : Below w.heap.size w w') : RefsAt w' v vs := by
  rcases h with h | ⟨h1, h2, g, e, hA⟩
  · exact .inl h
  · exact .inr ⟨h1, h2, g, e, hA.over hb⟩
theorem RefsAt.grown {w w' : World} {B sz n : Nat} {e : TypeId} {v u : Value} {xs : List Value} {vs : List VidM} (h : RefsAt w v vs) (ho : w.ownsRow B e sz u n xs) (hn : e ≠ 27) (hg : w.grownBy w' u.ownBlock) : RefsAt w' v vs := by
  rcases h with h | ⟨h1, h2, g, e, hA⟩
  · exact .inl h
  · exact .inr ⟨h1, h2, g, e, hA.grown ho hn hg⟩
def DpOut (w0 : World) (id : PidM) (ops : List OpM) (v5 v6 : Value) (wr : World) : Prop :=
  ∃ i : Nat, i ≤ ops.length ∧ v6 = .int .i64 i ∧ Hid (GOwn encPid 2 25 wr w0.heap.size v5 (depsTo id (ops.take i))) ∧ Below w0.heap.size w0 wr
def DpIn (w0 : World) (id : PidM) (A : List PidM) (vs : List VidM) (vr : Value) (v5 v8 : Value) (wr : World) : Prop :=
  ∃ k : Nat, k ≤ vs.length ∧ v8 = .int .i64 k ∧ Hid (GOwn encPid 2 25 wr w0.heap.size v5 (A ++ farPids id (vs.take k))) ∧ Hid (RefsAt wr vr vs) ∧ Below w0.heap.size w0 wr
theorem preDep_yes {id : PidM} (h : 1 < id.seq.toNat) : preDep id = [⟨id.author, id.seq - 1⟩] := by unfold preDep; rw [if_pos h]
theorem preDep_no {id : PidM} (h : ¬ 1 < id.seq.toNat) : preDep id = [] := by unfold preDep; rw [if_neg h]
theorem depsTo_nil (id : PidM) : depsTo id [] = preDep id := by unfold depsTo; simp
theorem farPids_nil (id : PidM) : farPids id [] = [] := rfl
attribute [local irreducible] refsM farPids preDep depsTo depsM
set_option maxHeartbeats 10000000 in
set_option maxRecDepth 100000 in
theorem rdeps_any (id : PidM) (v : Value) (ops : List OpM) (w : World) (hv : GRow encOp 8 w v ops) (hl : ops.length ≤ 40000) :
    Calls Tryz.prog 116 #[pidV id, v] w (SetRes encPid 2 w (depsM id ops)) := by
  have HA := Lib.hid (arr_new w #[.int .u8 (id.author.toNat : Int), .int .u16 (id.seq.toNat : Int)] 25)
  have HB := Lib.hid (below_new (w := w) (.cells #[.int .u8 (id.author.toNat : Int), .int .u16 (id.seq.toNat : Int)] 25))
  obtain ⟨a, cap, rfl, h1, h2, hc⟩ := (hv.over HB.out).at encOp_len
  unfold maxLen at h2
  have HC := Lib.hid hc
  have hdl := depsTo_len id ops
  have hpl := preDep_len id
  have hsl := id.seq.toNat_lt
  have hal := id.author.toNat_lt
  have gd := fun p q xs ys w => guard_pid .neq p q xs ys w
  clear hv hc
  unfold pidV
  go_enter Tryz.func116, Tryz.ntmps116
  go_upto_if 11 with (fail)
  generalize hw0 : w.alloc (.cells #[.int .u8 (id.author.toNat : Int), .int .u16 (id.seq.toNat : Int)] 25) = w0 at *
  clear hw0
  go_cut [5] (fun s5 wx => Hid (GOwn encPid 2 25 wx w0.heap.size s5 (preDep id)) ∧ Below w0.heap.size w0 wx)
  case first =>
    by_cases g1 : 1 < id.seq.toNat
    · have d1 : decide ((1 : Int) < (id.seq.toNat : Int)) = true := by simp; omega
      have HP : Hid (preDep id = [⟨id.author, id.seq - 1⟩]) := preDep_yes g1
      have HS := Lib.hid (sub_seq g1)
      have i0 := HA.out.cell (j := 0) rfl
      have i1 := HA.out.cell (j := 1) rfl
      have si := HA.out.lt
      have hN : 0 + 1 ≤ 1099511627776 := by decide
      have hB0 : w0.heap.size ≤ w0.heap.size := Nat.le_refl _
      go_wp2_with (at_builtin; (first | refine wpList_append_newD slPid rfl _ _ rfl w0.heap.size _ _ (drawn_alloc_drewN _ _ _) 1 _ _ _ (World.ownsRow_nil w0 w0.heap.size 25 2) rfl rfl rfl rfl hN (by decide) hB0 ?_ | refine wpList_append_newD slPid rfl _ _ rfl w0.heap.size _ _ (drawn_drew _) 1 _ _ _ (World.ownsRow_nil w0 w0.heap.size 25 2) rfl rfl rfl rfl hN (by decide) hB0 ?_ | refine wpList_append_newD slPid rfl _ _ rfl w0.heap.size _ _ (drawn_drewN _ _) 1 _ _ _ (World.ownsRow_nil w0 w0.heap.size 25 2) rfl rfl rfl rfl hN (by decide) hB0 ?_ | refine wpList_append_newD slPid rfl _ _ rfl w0.heap.size _ _ (drawn_refl _) 1 _ _ _ (World.ownsRow_nil w0 w0.heap.size 25 2) rfl rfl rfl rfl hN (by decide) hB0 ?_); intro v2 w2 ho2 hg2)
      go_meet
      refine ⟨?_, grown_over' hg2 (fun g hg => by simp [Value.ownBlock] at hg)⟩
      show GOwn _ _ _ _ _ _ _
      rw [HP.out]
      exact GOwn.snoc (enc := encPid) (xs := []) (x := (⟨id.author, id.seq - 1⟩ : PidM)) (by unfold encPid; rw [HS.out]; exact ho2)
    · have d1 : decide ((1 : Int) < (id.seq.toNat : Int)) = false := by simp; omega
      have HP : Hid (preDep id = []) := preDep_no g1
      go_wp2_with fail
      go_meet
      exact ⟨(by show GOwn _ _ _ _ _ _ _; rw [HP.out]; exact gown_nil _ _), Below.refl _ _⟩
  case rest =>
    obtain ⟨HO, hbc⟩ := hcut
    go_wp2_with fail
    go_loopw [5, 6] (fun v5 v6 wr => DpOut w0 id ops v5 v6 wr) (fun _ v6 _ => ops.length - (intOf v6).toNat)
    case atStart => exact ⟨0, by omega, rfl, (by show GOwn _ _ _ _ _ _ _; rw [List.take_zero, depsTo_nil]; exact HO.out), hbc⟩
    case round =>
      rename World => wo
      obtain ⟨i, hi, rfl, HM, hbl⟩ := hrel
      by_cases hlt : i < ops.length
      · obtain ⟨b, off, rfl, sb, hcb⟩ := HC.out.resolve_left (by omega)
        obtain ⟨o, ho⟩ := get_of_lt hlt
        have HOp := Lib.hid (hcb i o ho wo hbl)
        have HSu := Lib.hid (depsTo_succ (id := id) ho)
        have hdt := depsTo_len id (ops.take i)
        rw [List.length_take] at hdt
        have o0 : wo.cell? ⟨b, off + i * 8, none⟩ = some (.int .u8 (o.kind.toNat : Int)) := (HOp.out).2 0 _ rfl
        have o1 : wo.cell? ⟨b, off + i * 8 + 1, none⟩ = some (.int .u8 (o.at'.pid.author.toNat : Int)) := (HOp.out).2 1 _ rfl
        have o2 : wo.cell? ⟨b, off + i * 8 + 2, none⟩ = some (.int .u16 (o.at'.pid.seq.toNat : Int)) := (HOp.out).2 2 _ rfl
        have o3 : wo.cell? ⟨b, off + i * 8 + 3, none⟩ = some (.int .u8 (o.at'.n.toNat : Int)) := (HOp.out).2 3 _ rfl
        have o4 : wo.cell? ⟨b, off + i * 8 + 4, none⟩ = some (.int .u8 (o.to.pid.author.toNat : Int)) := (HOp.out).2 4 _ rfl
        have o5 : wo.cell? ⟨b, off + i * 8 + 5, none⟩ = some (.int .u16 (o.to.pid.seq.toNat : Int)) := (HOp.out).2 5 _ rfl
        have o6 : wo.cell? ⟨b, off + i * 8 + 6, none⟩ = some (.int .u8 (o.to.n.toNat : Int)) := (HOp.out).2 6 _ rfl
        have o7 : wo.cell? ⟨b, off + i * 8 + 7, none⟩ = some (.string o.text) := (HOp.out).2 7 _ rfl
        have so := HOp.out.1
        clear hcb ho
        go_wp2_with fail
        refine (rrefs_any o _).mono ?_
        rintro e w1 ⟨vr, rfl, hvr, hb1⟩
        obtain ⟨a2, cap2, e2, q1, q2, _⟩ := (RefsAt.vrow hvr).form
        subst e2
        unfold maxLen at q2
        have HVr := Lib.hid hvr
        have HB1 := Lib.hid (below_over hbl hbl.size hb1)
        have HM1 := Lib.hid (HM.out.over hb1)
        have hrl := refs_len o
        clear hvr hb1 o0 o1 o2 o3 o4 o5 o6 o7 so
        go_wp2_with fail
        go_hide hQ
        go_loopw [5, 8] (fun v5 v8 wi => DpIn w0 id (depsTo id (ops.take i)) (refsM o) (.slice a2 (refsM o).length cap2) v5 v8 wi) (fun _ v8 _ => (refsM o).length - (intOf v8).toNat)
        case atStart => exact ⟨0, by omega, rfl, (by show GOwn _ _ _ _ _ _ _; rw [List.take_zero, farPids_nil, List.append_nil]; exact HM1.out), HVr, HB1.out⟩
        case round =>
          rename World => wr
          obtain ⟨k, hk, rfl, HM2, HR2, hbi⟩ := hrel
          have hfl := farPids_len id ((refsM o).take k)
          rw [List.length_take] at hfl
          have hN : (depsTo id (ops.take i) ++ farPids id ((refsM o).take k)).length + 1 ≤ 1099511627776 := by rw [List.length_append]; omega
          by_cases hk2 : k < (refsM o).length
          · obtain ⟨g, rfl, hAr⟩ := refs_at HR2.out (by omega)
            obtain ⟨u, hu⟩ := get_of_lt hk2
            have HU := Lib.hid hu
            have HAv := Lib.hid hAr
            have HAi := Lib.hid (HA.out.over hbi)
            have i0 := HAi.out.cell (j := 0) rfl
            have i1 := HAi.out.cell (j := 1) rfl
            have si := HAi.out.lt
            have u0 : wr.cell? ⟨g, k * 3, none⟩ = some (.int .u8 (u.pid.author.toNat : Int)) := hAr.arr.cell ((flat_get encVid_len _ k 0 u hu (by decide)).trans rfl)
            have u1 : wr.cell? ⟨g, k * 3 + 1, none⟩ = some (.int .u16 (u.pid.seq.toNat : Int)) := hAr.arr.cell ((flat_get encVid_len _ k 1 u hu (by decide)).trans rfl)
            have u2 : wr.cell? ⟨g, k * 3 + 2, none⟩ = some (.int .u8 (u.n.toNat : Int)) := hAr.arr.cell ((flat_get encVid_len _ k 2 u hu (by decide)).trans rfl)
            have su := hAr.arr.lt
            have hB2 := hbi.size
            clear hu hAr
            by_cases hp : u.pid = id
            · have e1 := neq_pid u.pid id false (by simp [hp])
              unfold pidV at e1
              have HN := Lib.hid (farPids_no HU.out hp)
              clear hp
              go_wp2_with fail
              have hcur : Below wr.heap.size wr wr.drew := (Below.refl _ _).drew
              refine wp_region_lex (C := IsOver wr) 7 [] (by kernel_rfl) (by kernel_rfl) (isOver_of (by repeat (first | exact Below.refl _ _ | apply Below.drew | apply below_drewN | (refine Below.alloc ?_ (by simp) _)))) ?_
              simp only [List.take_succ_cons, List.take_zero, List.drop_succ_cons, List.drop_zero]
              repeat (first | (refine lex_skip rfl rfl ?_; simp only [Act.put, List.setIfInBounds_toArray, List.set_cons_succ, List.set_cons_zero]) | (refine lex_one rfl ?_; go_big_quiet_step (fail); refine wpQuiet_nil ?_))
              refine lex_end ?_
              have HM3 := Lib.hid (HM2.out.over hcur)
              have HR3 := Lib.hid (HR2.out.over hcur)
              have HB3 := Lib.hid (below_over hbi hB2 hcur)
              clear hcur
              go_wp2_with fail
              go_roundw
              case rel => exact ⟨k + 1, hk2, by go_num, (by show GOwn _ _ _ _ _ _ _; rw [HN.out]; exact HM3.out), HR3, HB3.out⟩
              case measure => simp [intOf]; omega
            · have e1 := neq_pid u.pid id true (by simp [hp])
              unfold pidV at e1
              have HN := Lib.hid (farPids_yes HU.out hp)
              clear hp
              go_wp2_with fail
              have hcur : Below wr.heap.size wr wr.drew := (Below.refl _ _).drew
              refine wp_region_lex (C := IsOver wr) 7 [] (by kernel_rfl) (by kernel_rfl) (isOver_of (by repeat (first | exact Below.refl _ _ | apply Below.drew | apply below_drewN | (refine Below.alloc ?_ (by simp) _)))) ?_
              simp only [List.take_succ_cons, List.take_zero, List.drop_succ_cons, List.drop_zero]
              repeat (first | (refine lex_skip rfl rfl ?_; simp only [Act.put, List.setIfInBounds_toArray, List.set_cons_succ, List.set_cons_zero]) | (refine lex_one rfl ?_; go_big_quiet_step (fail); refine wpQuiet_nil ?_))
              refine lex_end ?_
              clear hcur
              go_wp2_with (at_builtin; (first | refine wpList_append_newD slPid rfl _ _ rfl w0.heap.size _ _ (drawn_alloc_drewN _ _ _) 1 _ _ _ HM2.out rfl rfl rfl rfl hN (by decide) hB2 ?_ | refine wpList_append_newD slPid rfl _ _ rfl w0.heap.size _ _ (drawn_drew _) 1 _ _ _ HM2.out rfl rfl rfl rfl hN (by decide) hB2 ?_ | refine wpList_append_newD slPid rfl _ _ rfl w0.heap.size _ _ (drawn_drewN _ _) 1 _ _ _ HM2.out rfl rfl rfl rfl hN (by decide) hB2 ?_ | refine wpList_append_newD slPid rfl _ _ rfl w0.heap.size _ _ (drawn_refl _) 1 _ _ _ HM2.out rfl rfl rfl rfl hN (by decide) hB2 ?_); intro v2 w2 ho2 hg2)
              go_roundw
              case rel => exact ⟨k + 1, hk2, by go_num, (by show GOwn _ _ _ _ _ _ _; rw [HN.out, ← List.append_assoc]; exact GOwn.snoc ho2), HR2.out.grown HM2.out (by decide) hg2, below_grown hbi hB2 HM2.out hg2⟩
              case measure => simp [intOf]; omega
          · obtain rfl : k = (refsM o).length := by omega
            rw [List.take_length] at HM2
            go_wp2_with fail
            subst hQ
            go_wp2_with fail
            go_roundw
            case rel => exact ⟨i + 1, hlt, by go_num, (by show GOwn _ _ _ _ _ _ _; rw [HSu.out]; exact HM2.out), hbi⟩
            case measure => simp [intOf]; omega
      · obtain rfl : i = ops.length := by omega
        have HE := HM.out
        rw [List.take_length] at HE
        have HE2 := Lib.hid HE.row
        clear HE
        go_wp2_with fail
        refine (rsetPid_any _ _ _ HE2.out (by omega)).mono ?_
        rintro e w2 ⟨u, rfl, hu, hb2⟩
        have HU : Hid (GRow encPid 2 w2 u (depsM id ops)) := by rw [← depsTo_all]; exact hu
        clear hu
        go_wp2_with fail
        go_ret
        exact ⟨_, rfl, HU.out, below_over (below_over HB.out HB.out.size hbl) (by have := HB.out.size; have := hbl.size; omega) hb2⟩
end Go.Proofs.YtflnkmmimoninaaGreatDoor
