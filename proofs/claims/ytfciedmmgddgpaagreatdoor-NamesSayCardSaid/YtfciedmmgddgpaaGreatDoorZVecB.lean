/- Contract of bruitref18.Deps. Vectors: arrays of 64 numbers; contracts of package vec and of its reference, as far as graphs ask. Contracts of vec.Next, Put; of the reference's Of, Next, Put. -/
import Derived.Test.YtfciedmmgddgpaaGreatDoorZSame
import Derived.Test.YtfciedmmgddgpaaGreatDoorZCmp
import Derived.Test.YtfciedmmgddgpaaGreatDoorZMap
namespace Go.Proofs.YtfciedmmgddgpaaGreatDoor
open Go Go.RowKit

def farPids (id : PidM) (vs : List VidM) : List PidM := (vs.filter fun v => v.pid ≠ id).map (·.pid)
theorem farPids_yes {id : PidM} {vs : List VidM} {k : Nat} {v : VidM} (h : vs[k]? = some v) (hv : ¬ v.pid = id) : farPids id (vs.take (k + 1)) = farPids id (vs.take k) ++ [v.pid] := by
  unfold farPids; rw [take_succ_get h, List.filter_append, List.map_append]; simp [hv]
theorem farPids_no {id : PidM} {vs : List VidM} {k : Nat} {v : VidM} (h : vs[k]? = some v) (hv : v.pid = id) : farPids id (vs.take (k + 1)) = farPids id (vs.take k) := by
  unfold farPids; rw [take_succ_get h, List.filter_append, List.map_append]; simp [hv]
theorem farPids_len (id : PidM) (vs : List VidM) : (farPids id vs).length ≤ vs.length := by
  unfold farPids; rw [List.length_map]; exact List.length_filter_le _ _
def preDep (id : PidM) : List PidM := if 1 < id.seq.toNat then [⟨id.author, id.seq - 1⟩] else []
def depsTo (id : PidM) (ops : List OpM) : List PidM := preDep id ++ ops.flatMap fun o => farPids id (refsM o)
theorem depsTo_all (id : PidM) (ops : List OpM) : setS packPid (depsTo id ops) = depsM id ops := rfl
theorem depsTo_succ {id : PidM} {ops : List OpM} {i : Nat} {o : OpM} (h : ops[i]? = some o) : depsTo id (ops.take (i + 1)) = depsTo id (ops.take i) ++ farPids id (refsM o) := by
  unfold depsTo; rw [take_succ_get h, List.flatMap_append]; simp
theorem preDep_len (id : PidM) : (preDep id).length ≤ 1 := by unfold preDep; split <;> simp
theorem far_len (id : PidM) : ∀ ops : List OpM, (ops.flatMap fun o => farPids id (refsM o)).length ≤ 2 * ops.length
  | [] => by simp
  | o :: ops => by
    have h2 := farPids_len id (refsM o)
    have h3 := refs_len o
    have h4 := far_len id ops
    rw [List.flatMap_cons, List.length_append, List.length_cons]; omega
theorem depsTo_len (id : PidM) : ∀ ops : List OpM, (depsTo id ops).length ≤ 1 + 2 * ops.length := by
  intro ops
  have h1 := preDep_len id
  have h2 := far_len id ops
  unfold depsTo
  rw [List.length_append]; omega
theorem sub_seq {s : UInt16} (h : 1 < s.toNat) : ((s - 1).toNat : Int) = (s.toNat : Int) - 1 := by
  have : (s - 1).toNat = s.toNat - 1 := by
    rw [UInt16.toNat_sub_of_le]
    · rfl
    · rw [UInt16.le_iff_toNat_le]; show 1 ≤ _; omega
  rw [this]; omega
theorem refs_at {w : World} {a : Option Addr} {n c : Nat} {vs : List VidM} (h : RefsAt w (.slice a n c) vs) (hp : 0 < vs.length) : ∃ g, a = some ⟨g, 0, none⟩ ∧ ArrT w g 27 (vs.flatMap encVid) := by
  rcases h with ⟨rfl, _⟩ | ⟨_, _, g, e, hA⟩
  · simp at hp
  · cases e; exact ⟨g, rfl, hA⟩
theorem RefsAt.over {w w' : World} {v : Value} {vs : List VidM} (h : RefsAt w v vs) (hb : Below w.heap.size w w') : RefsAt w' v vs := by
  rcases h with h | ⟨h1, h2, g, e, hA⟩
  · exact .inl h
  · exact .inr ⟨h1, h2, g, e, hA.over hb⟩
theorem RefsAt.grown {w w' : World} {B sz n : Nat} {e : TypeId} {v u : Value} {xs : List Value} {vs : List VidM} (h : RefsAt w v vs) (ho : w.ownsRow B e sz u n xs) (hn : e ≠ 27) (hg : w.grownBy w' u.ownBlock) : RefsAt w' v vs := by
  rcases h with h | ⟨h1, h2, g, e, hA⟩
  · exact .inl h
  · exact .inr ⟨h1, h2, g, e, hA.grown ho hn hg⟩
def DpOut (w0 : World) (id : PidM) (ops : List OpM) (v5 v6 : Value) (wr : World) : Prop :=
  ∃ i : Nat, i ≤ ops.length ∧ v6 = .int .i64 i ∧ Hid (GOwn encPid 2 25 wr w0.heap.size v5 (depsTo id (ops.take i))) ∧ Below w0.heap.size w0 wr
def DpIn (w0 : World) (id : PidM) (A : List PidM) (vs : List VidM) (vr : Value) (v5 v8 : Value) (wr : World) : Prop :=
  ∃ k : Nat, k ≤ vs.length ∧ v8 = .int .i64 k ∧ Hid (GOwn encPid 2 25 wr w0.heap.size v5 (A ++ farPids id (vs.take k))) ∧ Hid (RefsAt wr vr vs) ∧ Below w0.heap.size w0 wr
theorem preDep_yes {id : PidM} (h : 1 < id.seq.toNat) : preDep id = [⟨id.author, id.seq - 1⟩] := by unfold preDep; rw [if_pos h]
theorem preDep_no {id : PidM} (h : ¬ 1 < id.seq.toNat) : preDep id = [] := by unfold preDep; rw [if_neg h]
theorem depsTo_nil (id : PidM) : depsTo id [] = preDep id := by unfold depsTo; simp
theorem farPids_nil (id : PidM) : farPids id [] = [] := rfl
attribute [local irreducible] refsM farPids preDep depsTo depsM
set_option maxHeartbeats 10000000 in
set_option maxRecDepth 100000 in
theorem rdeps_any (id : PidM) (v : Value) (ops : List OpM) (w : World) (hv : GRow encOp 8 w v ops) (hl : ops.length ≤ 40000) :
    Calls Tryz.prog 115 #[pidV id, v] w (SetRes encPid 2 w (depsM id ops)) := by
  have HA := Lib.hid (arr_new w #[.int .u8 (id.author.toNat : Int), .int .u16 (id.seq.toNat : Int)] 25)
  have HB := Lib.hid (below_new (w := w) (.cells #[.int .u8 (id.author.toNat : Int), .int .u16 (id.seq.toNat : Int)] 25))
  obtain ⟨a, cap, rfl, h1, h2, hc⟩ := (hv.over HB.out).at encOp_len
  unfold maxLen at h2
  have HC := Lib.hid hc
  have hdl := depsTo_len id ops
  have hpl := preDep_len id
  have hsl := id.seq.toNat_lt
  have hal := id.author.toNat_lt
  have gd := fun p q xs ys w => guard_pid .neq p q xs ys w
  clear hv hc
  unfold pidV
  go_enter Tryz.func115, Tryz.ntmps115
  go_upto_if 11 with (fail)
  generalize hw0 : w.alloc (.cells #[.int .u8 (id.author.toNat : Int), .int .u16 (id.seq.toNat : Int)] 25) = w0 at *
  clear hw0
  go_cut [5] (fun s5 wx => Hid (GOwn encPid 2 25 wx w0.heap.size s5 (preDep id)) ∧ Below w0.heap.size w0 wx)
  case first =>
    by_cases g1 : 1 < id.seq.toNat
    · have d1 : decide ((1 : Int) < (id.seq.toNat : Int)) = true := by simp; omega
      have HP : Hid (preDep id = [⟨id.author, id.seq - 1⟩]) := preDep_yes g1
      have HS := Lib.hid (sub_seq g1)
      have i0 := HA.out.cell (j := 0) rfl
      have i1 := HA.out.cell (j := 1) rfl
      have si := HA.out.lt
      have hN : 0 + 1 ≤ 1099511627776 := by decide
      have hB0 : w0.heap.size ≤ w0.heap.size := Nat.le_refl _
      go_wp2_with (at_builtin; (first | refine wpList_append_newD slPid rfl _ _ rfl w0.heap.size _ _ (drawn_alloc_drewN _ _ _) 1 _ _ _ (World.ownsRow_nil w0 w0.heap.size 25 2) rfl rfl rfl rfl hN (by decide) hB0 ?_ | refine wpList_append_newD slPid rfl _ _ rfl w0.heap.size _ _ (drawn_drew _) 1 _ _ _ (World.ownsRow_nil w0 w0.heap.size 25 2) rfl rfl rfl rfl hN (by decide) hB0 ?_ | refine wpList_append_newD slPid rfl _ _ rfl w0.heap.size _ _ (drawn_drewN _ _) 1 _ _ _ (World.ownsRow_nil w0 w0.heap.size 25 2) rfl rfl rfl rfl hN (by decide) hB0 ?_ | refine wpList_append_newD slPid rfl _ _ rfl w0.heap.size _ _ (drawn_refl _) 1 _ _ _ (World.ownsRow_nil w0 w0.heap.size 25 2) rfl rfl rfl rfl hN (by decide) hB0 ?_); intro v2 w2 ho2 hg2)
      go_meet
      refine ⟨?_, grown_over' hg2 (fun g hg => by simp [Value.ownBlock] at hg)⟩
      show GOwn _ _ _ _ _ _ _
      rw [HP.out]
      exact GOwn.snoc (enc := encPid) (xs := []) (x := (⟨id.author, id.seq - 1⟩ : PidM)) (by unfold encPid; rw [HS.out]; exact ho2)
    · have d1 : decide ((1 : Int) < (id.seq.toNat : Int)) = false := by simp; omega
      have HP : Hid (preDep id = []) := preDep_no g1
      go_wp2_with fail
      go_meet
      exact ⟨(by show GOwn _ _ _ _ _ _ _; rw [HP.out]; exact gown_nil _ _), Below.refl _ _⟩
  case rest =>
    obtain ⟨HO, hbc⟩ := hcut
    go_wp2_with fail
    go_loopw [5, 6] (fun v5 v6 wr => DpOut w0 id ops v5 v6 wr) (fun _ v6 _ => ops.length - (intOf v6).toNat)
    case atStart => exact ⟨0, by omega, rfl, (by show GOwn _ _ _ _ _ _ _; rw [List.take_zero, depsTo_nil]; exact HO.out), hbc⟩
    case round =>
      rename World => wo
      obtain ⟨i, hi, rfl, HM, hbl⟩ := hrel
      by_cases hlt : i < ops.length
      · obtain ⟨b, off, rfl, sb, hcb⟩ := HC.out.resolve_left (by omega)
        obtain ⟨o, ho⟩ := get_of_lt hlt
        have HOp := Lib.hid (hcb i o ho wo hbl)
        have HSu := Lib.hid (depsTo_succ (id := id) ho)
        have hdt := depsTo_len id (ops.take i)
        rw [List.length_take] at hdt
        have o0 : wo.cell? ⟨b, off + i * 8, none⟩ = some (.int .u8 (o.kind.toNat : Int)) := (HOp.out).2 0 _ rfl
        have o1 : wo.cell? ⟨b, off + i * 8 + 1, none⟩ = some (.int .u8 (o.at'.pid.author.toNat : Int)) := (HOp.out).2 1 _ rfl
        have o2 : wo.cell? ⟨b, off + i * 8 + 2, none⟩ = some (.int .u16 (o.at'.pid.seq.toNat : Int)) := (HOp.out).2 2 _ rfl
        have o3 : wo.cell? ⟨b, off + i * 8 + 3, none⟩ = some (.int .u8 (o.at'.n.toNat : Int)) := (HOp.out).2 3 _ rfl
        have o4 : wo.cell? ⟨b, off + i * 8 + 4, none⟩ = some (.int .u8 (o.to.pid.author.toNat : Int)) := (HOp.out).2 4 _ rfl
        have o5 : wo.cell? ⟨b, off + i * 8 + 5, none⟩ = some (.int .u16 (o.to.pid.seq.toNat : Int)) := (HOp.out).2 5 _ rfl
        have o6 : wo.cell? ⟨b, off + i * 8 + 6, none⟩ = some (.int .u8 (o.to.n.toNat : Int)) := (HOp.out).2 6 _ rfl
        have o7 : wo.cell? ⟨b, off + i * 8 + 7, none⟩ = some (.string o.text) := (HOp.out).2 7 _ rfl
        have so := HOp.out.1
        clear hcb ho
        go_wp2_with fail
        refine (rrefs_any o _).mono ?_
        rintro e w1 ⟨vr, rfl, hvr, hb1⟩
        obtain ⟨a2, cap2, e2, q1, q2, _⟩ := (RefsAt.vrow hvr).form
        subst e2
        unfold maxLen at q2
        have HVr := Lib.hid hvr
        have HB1 := Lib.hid (below_over hbl hbl.size hb1)
        have HM1 := Lib.hid (HM.out.over hb1)
        have hrl := refs_len o
        clear hvr hb1 o0 o1 o2 o3 o4 o5 o6 o7 so
        go_wp2_with fail
        go_hide hQ
        go_loopw [5, 8] (fun v5 v8 wi => DpIn w0 id (depsTo id (ops.take i)) (refsM o) (.slice a2 (refsM o).length cap2) v5 v8 wi) (fun _ v8 _ => (refsM o).length - (intOf v8).toNat)
        case atStart => exact ⟨0, by omega, rfl, (by show GOwn _ _ _ _ _ _ _; rw [List.take_zero, farPids_nil, List.append_nil]; exact HM1.out), HVr, HB1.out⟩
        case round =>
          rename World => wr
          obtain ⟨k, hk, rfl, HM2, HR2, hbi⟩ := hrel
          have hfl := farPids_len id ((refsM o).take k)
          rw [List.length_take] at hfl
          have hN : (depsTo id (ops.take i) ++ farPids id ((refsM o).take k)).length + 1 ≤ 1099511627776 := by rw [List.length_append]; omega
          by_cases hk2 : k < (refsM o).length
          · obtain ⟨g, rfl, hAr⟩ := refs_at HR2.out (by omega)
            obtain ⟨u, hu⟩ := get_of_lt hk2
            have HU := Lib.hid hu
            have HAv := Lib.hid hAr
            have HAi := Lib.hid (HA.out.over hbi)
            have i0 := HAi.out.cell (j := 0) rfl
            have i1 := HAi.out.cell (j := 1) rfl
            have si := HAi.out.lt
            have u0 : wr.cell? ⟨g, k * 3, none⟩ = some (.int .u8 (u.pid.author.toNat : Int)) := hAr.arr.cell ((flat_get encVid_len _ k 0 u hu (by decide)).trans rfl)
            have u1 : wr.cell? ⟨g, k * 3 + 1, none⟩ = some (.int .u16 (u.pid.seq.toNat : Int)) := hAr.arr.cell ((flat_get encVid_len _ k 1 u hu (by decide)).trans rfl)
            have u2 : wr.cell? ⟨g, k * 3 + 2, none⟩ = some (.int .u8 (u.n.toNat : Int)) := hAr.arr.cell ((flat_get encVid_len _ k 2 u hu (by decide)).trans rfl)
            have su := hAr.arr.lt
            have hB2 := hbi.size
            clear hu hAr
            by_cases hp : u.pid = id
            · have e1 := neq_pid u.pid id false (by simp [hp])
              unfold pidV at e1
              have HN := Lib.hid (farPids_no HU.out hp)
              clear hp
              go_wp2_with fail
              have hcur : Below wr.heap.size wr wr.drew := (Below.refl _ _).drew
              refine wp_region_lex (C := IsOver wr) 7 [] (by kernel_rfl) (by kernel_rfl) (isOver_of (by repeat (first | exact Below.refl _ _ | apply Below.drew | apply below_drewN | (refine Below.alloc ?_ (by simp) _)))) ?_
              simp only [List.take_succ_cons, List.take_zero, List.drop_succ_cons, List.drop_zero]
              repeat (first | (refine lex_skip rfl rfl ?_; simp only [Act.put, List.setIfInBounds_toArray, List.set_cons_succ, List.set_cons_zero]) | (refine lex_one rfl ?_; go_big_quiet_step (fail); refine wpQuiet_nil ?_))
              refine lex_end ?_
              have HM3 := Lib.hid (HM2.out.over hcur)
              have HR3 := Lib.hid (HR2.out.over hcur)
              have HB3 := Lib.hid (below_over hbi hB2 hcur)
              clear hcur
              go_wp2_with fail
              go_roundw
              case rel => exact ⟨k + 1, hk2, by go_num, (by show GOwn _ _ _ _ _ _ _; rw [HN.out]; exact HM3.out), HR3, HB3.out⟩
              case measure => simp [intOf]; omega
            · have e1 := neq_pid u.pid id true (by simp [hp])
              unfold pidV at e1
              have HN := Lib.hid (farPids_yes HU.out hp)
              clear hp
              go_wp2_with fail
              have hcur : Below wr.heap.size wr wr.drew := (Below.refl _ _).drew
              refine wp_region_lex (C := IsOver wr) 7 [] (by kernel_rfl) (by kernel_rfl) (isOver_of (by repeat (first | exact Below.refl _ _ | apply Below.drew | apply below_drewN | (refine Below.alloc ?_ (by simp) _)))) ?_
              simp only [List.take_succ_cons, List.take_zero, List.drop_succ_cons, List.drop_zero]
              repeat (first | (refine lex_skip rfl rfl ?_; simp only [Act.put, List.setIfInBounds_toArray, List.set_cons_succ, List.set_cons_zero]) | (refine lex_one rfl ?_; go_big_quiet_step (fail); refine wpQuiet_nil ?_))
              refine lex_end ?_
              clear hcur
              go_wp2_with (at_builtin; (first | refine wpList_append_newD slPid rfl _ _ rfl w0.heap.size _ _ (drawn_alloc_drewN _ _ _) 1 _ _ _ HM2.out rfl rfl rfl rfl hN (by decide) hB2 ?_ | refine wpList_append_newD slPid rfl _ _ rfl w0.heap.size _ _ (drawn_drew _) 1 _ _ _ HM2.out rfl rfl rfl rfl hN (by decide) hB2 ?_ | refine wpList_append_newD slPid rfl _ _ rfl w0.heap.size _ _ (drawn_drewN _ _) 1 _ _ _ HM2.out rfl rfl rfl rfl hN (by decide) hB2 ?_ | refine wpList_append_newD slPid rfl _ _ rfl w0.heap.size _ _ (drawn_refl _) 1 _ _ _ HM2.out rfl rfl rfl rfl hN (by decide) hB2 ?_); intro v2 w2 ho2 hg2)
              go_roundw
              case rel => exact ⟨k + 1, hk2, by go_num, (by show GOwn _ _ _ _ _ _ _; rw [HN.out, ← List.append_assoc]; exact GOwn.snoc ho2), HR2.out.grown HM2.out (by decide) hg2, below_grown hbi hB2 HM2.out hg2⟩
              case measure => simp [intOf]; omega
          · obtain rfl : k = (refsM o).length := by omega
            rw [List.take_length] at HM2
            go_wp2_with fail
            subst hQ
            go_wp2_with fail
            go_roundw
            case rel => exact ⟨i + 1, hlt, by go_num, (by show GOwn _ _ _ _ _ _ _; rw [HSu.out]; exact HM2.out), hbi⟩
            case measure => simp [intOf]; omega
      · obtain rfl : i = ops.length := by omega
        have HE := HM.out
        rw [List.take_length] at HE
        have HE2 := Lib.hid HE.row
        clear HE
        go_wp2_with fail
        refine (rsetPid_any _ _ _ HE2.out (by omega)).mono ?_
        rintro e w2 ⟨u, rfl, hu, hb2⟩
        have HU : Hid (GRow encPid 2 w2 u (depsM id ops)) := by rw [← depsTo_all]; exact hu
        clear hu
        go_wp2_with fail
        go_ret
        exact ⟨_, rfl, HU.out, below_over (below_over HB.out HB.out.size hbl) (by have := HB.out.size; have := hbl.size; omega) hb2⟩
end Go.Proofs.YtfciedmmgddgpaaGreatDoor
namespace Go.Proofs.YtfciedmmgddgpaaGreatDoor
open Go Go.RowKit

section
variable {P : Program} {ty : TypeId} {size : Nat} {w : World} {ops : Array Oper} {rest : List Oper} {o : Oper} {a : Act} {Q : Exit → Act → World → Prop}
theorem run_load_row (T : RowT P ty size) {g : Nat} {cs : List Value} (hA : Arr w g cs) (hl : cs.length = size) : (loadVar ty ⟨g, 0, none⟩).run P w = .ok (.agg cs.toArray) w := by
  obtain ⟨d, i, h1, h2, h3, h4⟩ := T.out
  obtain ⟨e, hg⟩ := hA
  exact run_loadVar_row w g e ty cs.toArray (0, 0) d hg h1 (by cases d <;> simp_all [isRowD]) (by rw [h3]; simp [h4, hl])
theorem lex_load_row {C : World → Prop} {loud : Nat → Bool} {Q : Act → World → Prop} (T : RowT P ty size) {k : Nat} {l : List Oper} (hl : loud k = false) (x : Operand) (ho : o.op = .load ty x)
    (hw : Region.wanted o (yielded ops a.tmps) = true) {g : Nat} {cs : List Value} (hx : a.eval x = .pointer (some ⟨g, 0, none⟩)) (hA : ∀ w', C w' → Arr w' g cs) (hlen : cs.length = size)
    (h : wpLex P ops C loud Q (k + 1) l (a.put o.dst (.agg cs.toArray)) w) : wpLex P ops C loud Q k (o :: l) a w := by
  unfold wpLex
  rw [if_pos hw, hl]
  refine ⟨.agg cs.toArray, fun w' hw' => ?_, h⟩
  unfold Oper.quietAt execOp
  simp only [ho, hx, Instr.loadAt, Instr.sureAddr, Sem.run_bind, Sem.run_pure, Result.andThen_ok, run_load_row T (hA w' hw') hlen]
  exact ⟨rfl, rfl⟩
/-- .. behind a guard that lets it by -/
theorem wpList_load_arrG (T : RowT P ty size) (hw : Region.wanted o (yielded ops a.tmps) = true) (x : Operand) (ho : o.op = .load ty x) (g : Nat) (cs : List Value) (hA : Arr w g cs) (hx : a.eval x = .pointer (some ⟨g, 0, none⟩)) (hl : cs.length = size)
    (h : wpList P ops Q rest (a.put o.dst (.agg cs.toArray)) w) : wpList P ops Q (o :: rest) a w := by
  refine wpList_step fun K hK => ?_
  rw [if_pos hw]
  unfold Oper.wp execOp
  simp only [ho, hx, Instr.loadAt, Instr.sureAddr, Sem.run_bind, Sem.run_pure, Result.andThen_ok, run_load_row T hA hl]
  exact hK _ _ h
/-- an array that begins a block -/
theorem run_load_part (hag : ∀ w, (isAgg ty).run P w = .ok true w) (hsz : ∀ w, (Go.sizeOf ty).run P w = .ok size w) {g : Nat} {cs more : List Value} (hA : Arr w g (cs ++ more)) (hl : cs.length = size) : (loadVar ty ⟨g, 0, none⟩).run P w = .ok (.agg cs.toArray) w := by
  have h := run_loadCells_list (P := P) (w := w) ⟨g, 0, none⟩ cs (fun j v hv => by
    have := hA.cell (j := j) (u := v) (by rw [List.getElem?_append_left (List.getElem?_eq_some_iff.1 hv).1]; exact hv)
    rw [Addr.add_lit, Nat.zero_add]; exact this)
  rw [hl] at h
  simp [loadVar, hag, hsz, h]
theorem lex_load_part {C : World → Prop} {loud : Nat → Bool} {Q : Act → World → Prop} (hag : ∀ w, (isAgg ty).run P w = .ok true w) (hsz : ∀ w, (Go.sizeOf ty).run P w = .ok size w) {k : Nat} {l : List Oper} (hl : loud k = false) (x : Operand) (ho : o.op = .load ty x)
    (hw : Region.wanted o (yielded ops a.tmps) = true) {g : Nat} {cs more : List Value} (hx : a.eval x = .pointer (some ⟨g, 0, none⟩)) (hA : ∀ w', C w' → Arr w' g (cs ++ more)) (hlen : cs.length = size)
    (h : wpLex P ops C loud Q (k + 1) l (a.put o.dst (.agg cs.toArray)) w) : wpLex P ops C loud Q k (o :: l) a w := by
  unfold wpLex
  rw [if_pos hw, hl]
  refine ⟨.agg cs.toArray, fun w' hw' => ?_, h⟩
  unfold Oper.quietAt execOp
  simp only [ho, hx, Instr.loadAt, Instr.sureAddr, Sem.run_bind, Sem.run_pure, Result.andThen_ok, run_load_part hag hsz (hA w' hw') hlen]
  exact ⟨rfl, rfl⟩
theorem wpList_store_part (T : RowT P ty size) (hgd : o.guard = none) (x y : Operand) (ho : o.op = .store ty x y) (g : Nat) (cs more new : List Value) (hA : Arr w g (cs ++ more)) (hx : a.eval x = .pointer (some ⟨g, 0, none⟩))
    (hy : a.eval y = .agg new.toArray) (hl : cs.length = size) (hn : new.length = size) (h1 : new.all (fun u => u.oneCell') = true)
    (h : Arr (w.setRow g (new ++ more).toArray) g (new ++ more) → w.grownBy (w.setRow g (new ++ more).toArray) (some g) → (w.setRow g (new ++ more).toArray).heap.size = w.heap.size → wpList P ops Q rest (a.put o.dst undef) (w.setRow g (new ++ more).toArray)) : wpList P ops Q (o :: rest) a w := by
  refine wpList_plain hgd fun K hK => ?_
  have hA' := hA
  obtain ⟨d, i, _, _, h3, h4⟩ := T.out
  obtain ⟨e, hg⟩ := hA
  have hs := run_storeCells_at (P := P) g 0 e new 0 (cs ++ more).toArray w hg (by simp; omega) (fun v hv => List.all_eq_true.1 h1 v hv)
  have ht : ((cs ++ more).toArray.toList.take (0 + 0) ++ new ++ (cs ++ more).toArray.toList.drop (0 + 0 + new.length)).toArray = (new ++ more).toArray := by
    simp only [Nat.zero_add, List.take_zero, List.nil_append]
    rw [hn, ← hl, List.drop_append_of_le_length (Nat.le_refl _), List.drop_length, List.nil_append]
  rw [ht] at hs
  have hc : (Value.agg new.toArray).cells = new.toArray := rfl
  have hr : (storeVar ty ⟨g, 0, none⟩ (.agg new.toArray)).run P w = .ok () (w.setRow g (new ++ more).toArray) := by simp [storeVar, sizeOf, typeInfo, h3, h4, hc, hn, hs]
  unfold Oper.wp execOp
  simp only [ho, hx, hy, Instr.storeAt, Instr.sureAddr, Sem.run_bind, Sem.run_pure, Result.andThen_ok, hr]
  exact hK _ _ (h (hA'.row _) (grown_row _) (by simp))
end

/-- a world of which some facts are told is given a name -/
theorem code_gen {P : Program} {c : Code} {Q : Exit → Act → World → Prop} {a : Act} {w : World} (F : World → Prop) (hF : F w) (h : ∀ w0, F w0 → c.wp P Q a w0) : c.wp P Q a w := h w hF

/-! ### vectors -/
def vecL (f : VecM) : List Value := (List.range 64).map fun i => .int .u16 ((f (UInt8.ofNat (i + 1)) : Nat) : Int)
abbrev vecV (f : VecM) : Value := .agg (vecL f).toArray
theorem vecL_len (f : VecM) : (vecL f).length = 64 := by simp [vecL]
theorem vecL_one (f : VecM) : (vecL f).all (fun u => u.oneCell') = true := by
  rw [List.all_eq_true]
  intro u hu
  obtain ⟨i, _, rfl⟩ := List.mem_map.1 hu
  rfl
theorem vecL_get (f : VecM) (a : UInt8) (h1 : 1 ≤ a.toNat) (h2 : a.toNat ≤ 64) : (vecL f)[a.toNat - 1]? = some (.int .u16 ((f a : Nat) : Int)) := by
  unfold vecL
  rw [List.getElem?_map, List.getElem?_range (by omega)]
  simp only [Option.map_some]
  have : UInt8.ofNat (a.toNat - 1 + 1) = a := by
    apply UInt8.toNat_inj.1; simp; omega
  rw [this]
def setV (f : VecM) (a : UInt8) (n : Nat) : VecM := fun b => if b = a then n else f b
theorem vecL_set (f : VecM) (a : UInt8) (n : Nat) (h1 : 1 ≤ a.toNat) (h2 : a.toNat ≤ 64) : (vecL f).set (a.toNat - 1) (.int .u16 (n : Int)) = vecL (setV f a n) := by
  apply List.ext_getElem?
  intro t
  rw [List.getElem?_set]
  by_cases ht : t < 64
  · have e1 : (vecL f)[t]? = some (.int .u16 ((f (UInt8.ofNat (t + 1)) : Nat) : Int)) := by unfold vecL; rw [List.getElem?_map, List.getElem?_range ht]; rfl
    have e2 : (vecL (setV f a n))[t]? = some (.int .u16 ((setV f a n (UInt8.ofNat (t + 1)) : Nat) : Int)) := by unfold vecL; rw [List.getElem?_map, List.getElem?_range ht]; rfl
    rw [e1, e2]
    unfold setV
    by_cases h : a.toNat - 1 = t
    · have : UInt8.ofNat (t + 1) = a := by apply UInt8.toNat_inj.1; simp; omega
      rw [if_pos h, if_pos this, if_pos (by rw [vecL_len]; omega)]
    · have : ¬ UInt8.ofNat (t + 1) = a := fun e => h (by rw [← e]; simp; omega)
      rw [if_neg h, if_neg this]
  · rw [if_neg (by omega), List.getElem?_eq_none (by rw [vecL_len]; omega), List.getElem?_eq_none (by rw [vecL_len]; omega)]
theorem rowVec : RowT Tryz.prog 91 64 := rowT_of Tryz.underlying91 rfl (by kernel_rfl)
theorem rowPid : RowT Tryz.prog 25 2 := rowT_of Tryz.underlying25 rfl (by kernel_rfl)
def numM (f : VecM) (a : UInt8) : Nat := if authorOk a = true then f a else 0
def hasF (f : VecM) (p : PidM) : Bool := authorOk p.author && (decide (1 ≤ p.seq.toNat) && decide (p.seq.toNat ≤ f p.author))
def nextF (f : VecM) (a : UInt8) : PidM := if authorOk a = true ∧ f a < 60000 then ⟨a, UInt16.ofNat (f a + 1)⟩ else noPid
theorem authorOk_yes {a : UInt8} (h1 : 1 ≤ a.toNat) (h2 : a.toNat ≤ 64) : authorOk a = true := by unfold authorOk; simp [h1, h2]
theorem authorOk_lo {a : UInt8} (h1 : ¬ 1 ≤ a.toNat) : authorOk a = false := by unfold authorOk; simp; omega
theorem authorOk_hi {a : UInt8} (h1 : ¬ a.toNat ≤ 64) : authorOk a = false := by unfold authorOk; simp; omega
theorem num_yes (f : VecM) {a : UInt8} (h : authorOk a = true) : numM f a = f a := by unfold numM; rw [if_pos h]
theorem num_no (f : VecM) {a : UInt8} (h : authorOk a = false) : numM f a = 0 := by unfold numM; rw [if_neg (by simp [h])]
def NumRes (w : World) (f : VecM) (a : UInt8) (e : Ending) (w' : World) : Prop := e = .returned (.tuple #[.int .u16 ((numM f a : Nat) : Int), .bool (authorOk a)]) ∧ Below w.heap.size w w'
attribute [local irreducible] vecL authorOk numM
set_option maxHeartbeats 4000000 in
set_option maxRecDepth 100000 in
theorem pnumber_any (f : VecM) (a : UInt8) (w : World) : Calls Tryz.prog 111 #[vecV f, .int .u8 (a.toNat : Int)] w (NumRes w f a) := by
  have hal := a.toNat_lt
  have HA := Lib.hid (arr_new w (vecL f).toArray 91)
  have HB := Lib.hid (below_new (w := w) (.cells (vecL f).toArray 91))
  unfold vecV
  by_cases h1 : 1 ≤ a.toNat
  · have d1 : decide ((a.toNat : Int) < 1) = false := by simp; omega
    by_cases h2 : a.toNat ≤ 64
    · have d2 : decide ((64 : Int) < (a.toNat : Int)) = false := by simp; omega
      have HK := Lib.hid (authorOk_yes h1 h2)
      have HN := Lib.hid (num_yes f HK.out)
      have hc := HA.out.cell (vecL_get f a h1 h2)
      have hs := HA.out.lt
      obtain ⟨n, hn⟩ : ∃ n, a.toNat = n + 1 := ⟨a.toNat - 1, by omega⟩
      rw [hn] at hc d1 d2 hal h1 h2 ⊢
      simp only [Nat.add_sub_cancel] at hc
      have HNn := Lib.hid hn
      clear hn
      go_enter Tryz.func111, Tryz.ntmps111
      go_wp2_with fail
      go_ret2
      exact ⟨(by rw [HN.out, HK.out]; rfl), HB.out⟩
    · have d2 : decide ((64 : Int) < (a.toNat : Int)) = true := by simp; omega
      have HK := Lib.hid (authorOk_hi h2)
      have HN := Lib.hid (num_no f HK.out)
      go_enter Tryz.func111, Tryz.ntmps111
      go_wp2_with fail
      go_ret2
      exact ⟨(by rw [HN.out, HK.out]; rfl), HB.out⟩
  · have d1 : decide ((a.toNat : Int) < 1) = true := by simp; omega
    have HK := Lib.hid (authorOk_lo h1)
    have HN := Lib.hid (num_no f HK.out)
    go_enter Tryz.func111, Tryz.ntmps111
    go_wp2_with fail
    go_ret2
    exact ⟨(by rw [HN.out, HK.out]; rfl), HB.out⟩
theorem has_1 {f : VecM} {p : PidM} (h : authorOk p.author = false) : hasF f p = false := by unfold hasF; rw [h]; rfl
theorem has_2 {f : VecM} {p : PidM} (h : ¬ 1 ≤ p.seq.toNat) : hasF f p = false := by unfold hasF; simp [h]
theorem has_3 {f : VecM} {p : PidM} (h : ¬ p.seq.toNat ≤ f p.author) : hasF f p = false := by unfold hasF; simp [h]
theorem has_4 {f : VecM} {p : PidM} (h1 : authorOk p.author = true) (h2 : 1 ≤ p.seq.toNat) (h3 : p.seq.toNat ≤ f p.author) : hasF f p = true := by unfold hasF; rw [h1]; simp [h2, h3]
attribute [local irreducible] hasF
set_option maxHeartbeats 4000000 in
set_option maxRecDepth 100000 in
theorem phas_any (f : VecM) (p : PidM) (w : World) : Calls Tryz.prog 72 #[vecV f, pidV p] w fun e w' => e = .returned (.bool (hasF f p)) ∧ Below w.heap.size w w' := by
  have HA := Lib.hid ((arr_new w (vecL f).toArray 91).alloc (.cells #[.int .u8 (p.author.toNat : Int), .int .u16 (p.seq.toNat : Int)] 25))
  have HP := Lib.hid (arr_new2 w (.cells (vecL f).toArray 91) #[.int .u8 (p.author.toNat : Int), .int .u16 (p.seq.toNat : Int)] 25)
  have HB := Lib.hid ((below_new (w := w) (.cells (vecL f).toArray 91)).alloc (by simp) (.cells #[.int .u8 (p.author.toNat : Int), .int .u16 (p.seq.toNat : Int)] 25))
  unfold pidV
  go_enter Tryz.func72, Tryz.ntmps72
  go_upto_region 1 with (fail)
  generalize hw0 : (w.alloc (.cells (vecL f).toArray 91)).alloc (.cells #[.int .u8 (p.author.toNat : Int), .int .u16 (p.seq.toNat : Int)] 25) = w0 at *
  clear hw0
  have p0 := HP.out.cell (j := 0) rfl
  have p1 := HP.out.cell (j := 1) rfl
  have sp := HP.out.lt
  go_wp2_with (refine wpList_load_arr rowVec rfl _ rfl _ _ HA.out rfl (vecL_len f) ?_)
  refine (pnumber_any f p.author _).mono ?_
  rintro e w1 ⟨rfl, hb1⟩
  have HB1 := Lib.hid (below_over HB.out HB.out.size hb1)
  have HP1 := Lib.hid (HP.out.over hb1)
  clear hb1 p0 p1 sp
  have p0 := HP1.out.cell (j := 0) rfl
  have p1 := HP1.out.cell (j := 1) rfl
  have sp := HP1.out.lt
  cases hk : authorOk p.author with
  | false =>
    have HH := Lib.hid (has_1 (f := f) hk)
    clear hk
    go_wp2_with fail
    go_ret
    exact ⟨ret_val (congrArg Value.bool HH.out.symm), HB1.out⟩
  | true =>
    by_cases h2 : 1 ≤ p.seq.toNat
    · have d2 : decide ((1 : Int) ≤ (p.seq.toNat : Int)) = true := by simp; omega
      have hnum := num_yes f hk
      by_cases h3 : p.seq.toNat ≤ f p.author
      · have d3 : decide (p.seq.toNat ≤ numM f p.author) = true := by rw [hnum]; simpa using h3
        have HH := Lib.hid (has_4 hk h2 h3)
        clear hk hnum
        go_wp2_with fail
        go_ret
        exact ⟨ret_val (congrArg Value.bool HH.out.symm), HB1.out⟩
      · have d3 : decide (p.seq.toNat ≤ numM f p.author) = false := by rw [hnum]; simpa using h3
        have HH := Lib.hid (has_3 h3)
        clear hk hnum
        go_wp2_with fail
        go_ret
        exact ⟨ret_val (congrArg Value.bool HH.out.symm), HB1.out⟩
    · have d2 : decide ((1 : Int) ≤ (p.seq.toNat : Int)) = false := by simp; omega
      have HH := Lib.hid (has_2 (f := f) h2)
      clear hk
      go_wp2_with fail
      go_ret
      exact ⟨ret_val (congrArg Value.bool HH.out.symm), HB1.out⟩
end Go.Proofs.YtfciedmmgddgpaaGreatDoor
namespace Go.Proofs.YtfciedmmgddgpaaGreatDoor
open Go Go.RowKit

theorem nextF_yes {f : VecM} {a : UInt8} (h1 : authorOk a = true) (h2 : f a < 60000) : nextF f a = ⟨a, UInt16.ofNat (f a + 1)⟩ := by unfold nextF; rw [if_pos ⟨h1, h2⟩]
theorem nextF_no1 {f : VecM} {a : UInt8} (h1 : authorOk a = false) : nextF f a = noPid := by unfold nextF; rw [if_neg (fun h => by rw [h1] at h; exact absurd h.1 (by decide))]
theorem nextF_no2 {f : VecM} {a : UInt8} (h2 : ¬ f a < 60000) : nextF f a = noPid := by unfold nextF; rw [if_neg (fun h => h2 h.2)]
theorem authorOk_pos {a : UInt8} (h : authorOk a = true) : 1 ≤ a.toNat ∧ a.toNat ≤ 64 := by unfold authorOk at h; simp at h; exact h
theorem pidV_next {f : VecM} {a : UInt8} (h1 : authorOk a = true) (h2 : f a < 60000) : pidV (nextF f a) = .agg #[.int .u8 (a.toNat : Int), .int .u16 ((f a : Int) + 1)] := by
  rw [nextF_yes h1 h2]
  unfold pidV
  have : ((UInt16.ofNat (f a + 1)).toNat : Int) = (f a : Int) + 1 := by simp; omega
  rw [this]
theorem pidV_no : pidV noPid = .agg #[.int .u8 0, .int .u16 0] := rfl
attribute [local irreducible] vecL authorOk numM nextF
set_option maxHeartbeats 4000000 in
set_option maxRecDepth 100000 in
theorem pnext_any (f : VecM) (hf : ∀ a, f a ≤ 60000) (a : UInt8) (w : World) : Calls Tryz.prog 73 #[vecV f, .int .u8 (a.toNat : Int)] w fun e w' => e = .returned (pidV (nextF f a)) ∧ Below w.heap.size w w' := by
  have hfa := hf a
  have HA := Lib.hid ((arr_new w (vecL f).toArray 91).alloc (.cells #[.int .u8 0, .int .u16 0] 25))
  have HR := Lib.hid (arr_new2 w (.cells (vecL f).toArray 91) #[.int .u8 0, .int .u16 0] 25)
  have HB := Lib.hid ((below_new (w := w) (.cells (vecL f).toArray 91)).alloc (by simp) (.cells #[.int .u8 0, .int .u16 0] 25))
  clear hf
  go_enter Tryz.func73, Tryz.ntmps73
  go_upto_region 1 with (fail)
  generalize hw0 : (w.alloc (.cells (vecL f).toArray 91)).alloc (.cells #[.int .u8 0, .int .u16 0] 25) = w0 at *
  clear hw0
  go_wp2_with (refine wpList_load_arr rowVec rfl _ rfl _ _ HA.out rfl (vecL_len f) ?_)
  refine (pnumber_any f a _).mono ?_
  rintro e w1 ⟨rfl, hb1⟩
  have HB1 := Lib.hid (below_over HB.out HB.out.size hb1)
  have HR1 := Lib.hid (HR.out.over hb1)
  clear hb1
  have r0 := HR1.out.cell (j := 0) rfl
  have r1 := HR1.out.cell (j := 1) rfl
  have f0 := HR1.out.free 0
  have f1 := HR1.out.free 1
  have sr := HR1.out.lt
  cases hk : authorOk a with
  | false =>
    have HN := Lib.hid (nextF_no1 (f := f) hk)
    have HF := Lib.hid ((HR1.out.set 0 (.int .u8 0)).set 1 (.int .u16 0))
    have HBF := Lib.hid ((HB1.out.setCell (p := ⟨w.heap.size + 1, 0, none⟩) (by simp) (.int .u8 0)).setCell (p := ⟨w.heap.size + 1, 1, none⟩) (by simp) (.int .u16 0))
    clear hk
    go_wp2_with fail
    exact bodyPost_ret (v := .agg #[.int .u8 0, .int .u16 0]) (results_arr rowPid rfl HF.out rfl rfl) rfl ⟨by rw [HN.out]; rfl, HBF.out⟩
  | true =>
    have hnum := num_yes f hk
    by_cases h2 : f a < 60000
    · have d2 : decide ((60000 : Int) ≤ (numM f a : Int)) = false := by rw [hnum]; simp; omega
      have hfi : (f a : Int) < 60000 := by omega
      have hf0 : (0 : Int) ≤ (f a : Int) := by omega
      have HN := Lib.hid (pidV_next hk h2)
      have HF := Lib.hid ((HR1.out.set 0 (.int .u8 (a.toNat : Int))).set 1 (.int .u16 ((f a : Int) + 1)))
      have HBF := Lib.hid ((HB1.out.setCell (p := ⟨w.heap.size + 1, 0, none⟩) (by simp) (.int .u8 (a.toNat : Int))).setCell (p := ⟨w.heap.size + 1, 1, none⟩) (by simp) (.int .u16 ((f a : Int) + 1)))
      have HNu := Lib.hid hnum
      rw [hnum] at d2 ⊢
      clear hk hnum hfa h2
      go_wp2_with fail
      exact bodyPost_ret (v := .agg #[.int .u8 (a.toNat : Int), .int .u16 ((f a : Int) + 1)]) (results_arr rowPid rfl HF.out rfl rfl) rfl ⟨by rw [HN.out], HBF.out⟩
    · have d2 : decide ((60000 : Int) ≤ (numM f a : Int)) = true := by rw [hnum]; simp; omega
      have HN := Lib.hid (nextF_no2 h2)
      have HF := Lib.hid ((HR1.out.set 0 (.int .u8 0)).set 1 (.int .u16 0))
      have HBF := Lib.hid ((HB1.out.setCell (p := ⟨w.heap.size + 1, 0, none⟩) (by simp) (.int .u8 0)).setCell (p := ⟨w.heap.size + 1, 1, none⟩) (by simp) (.int .u16 0))
      rw [hnum] at d2 ⊢
      clear hk hnum hfa h2
      go_wp2_with fail
      exact bodyPost_ret (v := .agg #[.int .u8 0, .int .u16 0]) (results_arr rowPid rfl HF.out rfl rfl) rfl ⟨by rw [HN.out]; rfl, HBF.out⟩
end Go.Proofs.YtfciedmmgddgpaaGreatDoor
