/- NamesUnlike. -/
import Derived.Test.YtflnkmmimoninaaGreatDoorZNmH
import Derived.Test.YtflnkmmimoninaaGreatDoorZRefs
namespace Go.Proofs.YtflnkmmimoninaaGreatDoor
open Go Go.RowKit

def UnRel (w4 : World) (n : Nat) (v : Value) (wr : World) : Prop := ∃ k : Nat, k ≤ n ∧ v = .int .i64 (k : Int) ∧ Below w4.heap.size w4 wr
theorem idsOf_len (L : List PatchM) (h : ∀ p ∈ L, p.ops.length ≤ 200) : (idsOf L).length ≤ 200 * L.length := by
  induction L with
  | nil => simp [idsOf]
  | cons p L ih =>
    have h1 := ih fun q hq => h q (List.mem_cons_of_mem _ hq)
    have h2 := h p (List.mem_cons_self ..)
    unfold idsOf at h1 ⊢
    rw [List.flatMap_cons, List.length_append]
    refine Nat.le_trans (Nat.add_le_add (List.length_filterMap_le _ _) h1) ?_
    rw [List.length_range, List.length_cons]
    omega
theorem setS_len {α : Type} {key : α → Nat} (l : List α) : (setS key l).length ≤ l.length := by
  have : ∀ (l out : List α), (l.foldl (fun out x => putS key x out) out).length ≤ out.length + l.length := by
    intro l
    induction l with
    | nil => intro out; simp
    | cons x l ih =>
      intro out
      have h1 := ih (putS key x out)
      have h2 := putS_len (key := key) x out
      rw [List.foldl_cons, List.length_cons]; omega
  have := this l []
  simpa [setS] using this
theorem idsM_le {L : List PatchM} (hw : WfG L) : (idsM L).length ≤ 200 * L.length := Nat.le_trans (setS_len _) (idsOf_len L (wf_len hw))
theorem build_len (l : List PatchM) : (buildM l).length ≤ l.length := by
  have : ∀ (l L : List PatchM), (l.foldl applyM L).length ≤ L.length + l.length := by
    intro l
    induction l with
    | nil => intro L; simp
    | cons p l ih =>
      intro L
      have h1 := ih (applyM L p)
      have h2 : (applyM L p).length ≤ L.length + 1 := by unfold applyM; split <;> simp
      rw [List.foldl_cons, List.length_cons]; omega
  have := this l []
  simpa [buildM] using this
attribute [local irreducible] idsM filesM namesM vertsM fewL
set_option maxHeartbeats 40000000 in
set_option maxRecDepth 100000 in
theorem unlike_any (v : Value) (ps : List LaidP) (w : World) (hv : Pats w v ps) (hz : ∀ x ∈ ps, ∀ o ∈ x.p.ops, o.text.size ≤ maxLen) (ht : Tab w) :
    Calls Tryz.prog 4 #[v] w fun e w' => e = .returned (.bool true) ∧ Below w.heap.size w w' := by
  have hfew := few20_any v ps 20 (by omega) w hv hz
  have HV := Lib.hid hv
  have HT := Lib.hid ht
  cases hf : fewL 20 (ps.map (·.p)) with
  | false =>
    rw [hf] at hfew
    clear hv hz ht
    go_enter Tryz.func4, Tryz.ntmps4
    go_wp2_with fail
    refine hfew.mono ?_
    rintro e w1 ⟨rfl, hb1⟩
    have HB1 := Lib.hid hb1
    clear hb1 hfew
    unfold b01
    go_wp2_with fail
    refine (works24_any _ (HT.out.over HB1.out)).mono ?_
    rintro e w2 ⟨rfl, hb2⟩
    have HB2 := Lib.hid (below_over HB1.out HB1.out.size hb2)
    clear hb2
    go_wp2_with fail
    go_ret
    exact ⟨rfl, HB2.out⟩
  | true =>
    rw [hf] at hfew
    have HF := Lib.hid hf
    have hpl : ps.length ≤ 20 := by have := fewL_len hf; simpa using this
    clear hv hz ht hf
    go_enter Tryz.func4, Tryz.ntmps4
    go_wp2_with fail
    refine hfew.mono ?_
    rintro e w1 ⟨rfl, hb1⟩
    have HB1 := Lib.hid hb1
    clear hb1 hfew
    unfold b01
    go_wp2_with fail
    refine (build_any v ps 20 (by omega) _ (HV.out.over HB1.out) HF.out).mono ?_
    rintro e w2 ⟨b, bv, be, n, hn, rfl, hgr⟩
    have hwf := wf_build (ps.map (·.p))
    have hil := idsM_le hwf
    have hbl := build_len (ps.map (·.p))
    rw [List.length_map] at hbl
    generalize buildM (ps.map (·.p)) = L at *
    obtain ⟨_, _, _, hG, hb2⟩ := hgr
    have hil2 : (idsM L).length ≤ 1000000 := by omega
    have HG := Lib.hid hG
    have HGI : Hid (GrIs w2 b L) := Lib.hid ⟨bv, be, n, hG⟩
    have HW := Lib.hid hwf
    have HB2 := Lib.hid (below_over HB1.out HB1.out.size hb2)
    clear hG hb2 hn hwf hil hbl
    go_wp2_with fail
    refine (nall_any b L _ HGI.out HW.out hil2 (HT.out.over HB2.out)).mono ?_
    rintro e w4 ⟨v4, rfl, hN, hb4⟩
    obtain ⟨xs, hxs, hO, _⟩ := hN
    have hxl : xs.length ≤ 1000000 := by
      have h1 := congrArg List.length hxs
      rw [List.length_map] at h1
      have h2 := (allTo_len L _ (Nat.le_refl _)).1
      have h3 := filesM_len L
      have h4 : (allM L).length = (allTo L (filesM L).length).1.length := rfl
      omega
    obtain ⟨a4, c4, rfl, t1, t2, hc4⟩ := hO.row.at encN_len
    unfold maxLen at t2
    have hU := unlike_all HW.out
    rw [← hxs] at hU
    have HC : Hid (xs.length = 0 ∨ ∃ b4 off4, a4 = some ⟨b4, off4, none⟩ ∧ b4 < w4.heap.size ∧ ∀ k x, xs[k]? = some x → ∀ w', Below w4.heap.size w4 w' → off4 + k * 6 < off4 + k * 6 + 6 → True) := Lib.hid (by by_cases h : xs.length = 0; exact .inl h; obtain ⟨b4, off4, h1, h2, _⟩ := hc4.resolve_left h; exact .inr ⟨b4, off4, h1, h2, fun _ _ _ _ _ _ => trivial⟩)
    have HC4' := Lib.hid hc4
    have HGI4 := Lib.hid (HGI.out.over hb4)
    have HG4 := Lib.hid (HG.out.over hb4)
    have HU := Lib.hid hU
    have HB4 := Lib.hid (below_over HB2.out HB2.out.size hb4)
    clear hxs hO hc4 hU hb4 HC
    go_wp2_with fail
    go_loopw [5] (fun v5 wr => UnRel w4 xs.length v5 wr) (fun v5 _ => xs.length - (intOf v5).toNat)
    case atStart => exact ⟨0, Nat.zero_le _, rfl, Below.refl _ _⟩
    case round =>
      obtain ⟨i, hi, rfl, hbr⟩ := hrel
      rename World => wr
      by_cases hlt : i < xs.length
      · obtain ⟨b4, off4, rfl, sb4, hcb4⟩ := HC4'.out.resolve_left (by omega)
        obtain ⟨x, hx⟩ := get_of_lt hlt
        have HC4 := Lib.hid hcb4
        have HCx := Lib.hid (hcb4 i x hx)
        have hxm : x.n ∈ xs.map (·.n) := List.mem_map_of_mem (f := (·.n)) (List.mem_of_getElem? hx)
        have hok := HU.out.ok x.n hxm
        obtain ⟨y, hy, hyk⟩ := hok.file
        have hyd : y.dead = false := by have := hok.alive; unfold deadAt at this; rw [hy] at this; exact this
        have HGG : Hid (x.n.flaws = [] → (∀ u ∈ namesM L x.n.file, u.text = x.n.name) ∧ namesM L x.n.file ≠ [] ∧ x.n.also = []) := Lib.hid hok.given
        have HVT : Hid (∀ W, Below w4.heap.size w4 W → Calls Tryz.prog 17 #[.pointer (some ⟨b, 0, none⟩), vidV x.n.file] W fun e w' => e = .returned (.tuple #[.agg #[.int .u8 (y.id.pid.author.toNat : Int), .int .u16 (y.id.pid.seq.toNat : Int), .int .u8 (y.id.n.toNat : Int), .int .u8 1, .int .u8 (y.file.pid.author.toNat : Int), .int .u16 (y.file.pid.seq.toNat : Int), .int .u8 (y.file.n.toNat : Int), .string y.text, .bool false], .bool true]) ∧ Below W.heap.size W w') := Lib.hid fun W hb => by
          refine (gvert_any b bv be n _ _ _ x.n.file W (HG4.out.over hb)).mono ?_
          rintro e w' ⟨rfl, hb'⟩
          rw [hy]
          refine ⟨?_, hb'⟩
          show Ending.returned (.tuple #[vertV y, .bool true]) = _
          unfold vertV
          rw [hyk, hyd]; rfl
        have HNT : Hid (∀ W, Below w4.heap.size w4 W → Calls Tryz.prog 11 #[.pointer (some ⟨b, 0, none⟩), vidV x.n.file] W (OwnRes encVert 9 53 W (namesM L x.n.file))) := Lib.hid fun W hb => nof_any b L x.n.file W (HGI4.out.over hb) HW.out hil2
        have hnl := names_len L x.n.file (wf_len HW.out)
        have HUq : Hid (∀ k z, xs[k]? = some z → k < i → ¬ z.n.name = x.n.name) := Lib.hid fun k z hz hk => by
          have h1 := List.pairwise_map.1 HU.out.uniq
          obtain ⟨hk1, e1⟩ := List.getElem?_eq_some_iff.1 hz
          obtain ⟨hk2, e2⟩ := List.getElem?_eq_some_iff.1 hx
          have := List.pairwise_iff_getElem.1 h1 k i hk1 hk2 hk
          rw [e1, e2] at this; exact this
        have HUr : Hid (∀ k z, xs[k]? = some z → k < i → cmpVid z.n.file x.n.file = -1) := Lib.hid fun k z hz hk => by
          have h1 := List.pairwise_map.1 HU.out.rises
          obtain ⟨hk1, e1⟩ := List.getElem?_eq_some_iff.1 hz
          obtain ⟨hk2, e2⟩ := List.getElem?_eq_some_iff.1 hx
          have := List.pairwise_iff_getElem.1 h1 k i hk1 hk2 hk
          rw [e1, e2] at this
          unfold cmpVid; exact cmpN_lt this
        clear hcb4 hx hxm hok hy hyk hyd
        go_upto_region 8 with (fail)
        go_cut [41] (fun s41 wx => s41 = .bool false ∧ Hid (Below w4.heap.size w4 wx))
        case first =>
         rcases Nat.eq_zero_or_pos i with hi0 | hip
         · subst hi0
           have hcur : Below wr.heap.size wr wr.drew := (Below.refl _ _).drew
           refine wp_region_lex (C := IsOver wr) 17 [] (by kernel_rfl) (by kernel_rfl) (isOver_of (by repeat (first | exact Below.refl _ _ | apply Below.drew | apply below_drewN | (refine Below.alloc ?_ (by simp) _)))) ?_
           simp only [List.take_succ_cons, List.take_zero, List.drop_succ_cons, List.drop_zero]
           repeat (first | (refine lex_skip rfl rfl ?_; simp only [Act.put, List.setIfInBounds_toArray, List.set_cons_succ, List.set_cons_zero]) | (refine lex_one rfl ?_; go_big_quiet_step (fail); refine wpQuiet_nil ?_))
           refine lex_end ?_
           go_wp2_with fail
           go_meet
           exact ⟨rfl, Lib.hid (below_over hbr hbr.size hcur)⟩
         · obtain ⟨j, rfl⟩ : ∃ j, i = j + 1 := ⟨i - 1, by omega⟩
           clear hip
           obtain ⟨z, hz⟩ := get_of_lt (show j < xs.length by omega)
           have HXr := Lib.hid (HCx.out wr hbr)
           have HZr := Lib.hid (HC4.out j z hz wr hbr)
           have hcz := HUr.out j z hz (Nat.lt_succ_self _)
           have x0 : wr.cell? ⟨b4, off4 + (j + 1) * 6, none⟩ = some (.int .u8 (x.n.file.pid.author.toNat : Int)) := (HXr.out).2 0 _ rfl
           have x1 : wr.cell? ⟨b4, off4 + (j + 1) * 6 + 1, none⟩ = some (.int .u16 (x.n.file.pid.seq.toNat : Int)) := (HXr.out).2 1 _ rfl
           have x2 : wr.cell? ⟨b4, off4 + (j + 1) * 6 + 2, none⟩ = some (.int .u8 (x.n.file.n.toNat : Int)) := (HXr.out).2 2 _ rfl
           have sx := HXr.out.1
           have z0 : wr.cell? ⟨b4, off4 + j * 6, none⟩ = some (.int .u8 (z.n.file.pid.author.toNat : Int)) := (HZr.out).2 0 _ rfl
           have z1 : wr.cell? ⟨b4, off4 + j * 6 + 1, none⟩ = some (.int .u16 (z.n.file.pid.seq.toNat : Int)) := (HZr.out).2 1 _ rfl
           have z2 : wr.cell? ⟨b4, off4 + j * 6 + 2, none⟩ = some (.int .u8 (z.n.file.n.toNat : Int)) := (HZr.out).2 2 _ rfl
           have sz := HZr.out.1
           have HCC : Hid (∀ W, Calls Tryz.prog 16 #[.agg #[.int .u8 (z.n.file.pid.author.toNat : Int), .int .u16 (z.n.file.pid.seq.toNat : Int), .int .u8 (z.n.file.n.toNat : Int)], .agg #[.int .u8 (x.n.file.pid.author.toNat : Int), .int .u16 (x.n.file.pid.seq.toNat : Int), .int .u8 (x.n.file.n.toNat : Int)]] W fun e w' => e = .returned (.int .i64 (-1)) ∧ Below W.heap.size W w') := Lib.hid fun W => by have h := rcmpVid_any z.n.file x.n.file W; rw [hcz] at h; exact h
           clear hz hcz
           have hcur : Below wr.heap.size wr wr.drew := (Below.refl _ _).drew
           refine wp_region_lex (C := IsOver wr) 17 [] (by kernel_rfl) (by kernel_rfl) (isOver_of (by repeat (first | exact Below.refl _ _ | apply Below.drew | apply below_drewN | (refine Below.alloc ?_ (by simp) _)))) ?_
           simp only [List.take_succ_cons, List.take_zero, List.drop_succ_cons, List.drop_zero]
           repeat (first | (refine lex_skip rfl rfl ?_; simp only [Act.put, List.setIfInBounds_toArray, List.set_cons_succ, List.set_cons_zero]) | (refine lex_one rfl ?_; go_big_quiet_step (fail); refine wpQuiet_nil ?_) | (refine lex_loud rfl ?_; go_wp2_with (first | (go_at_call 16; (with_reducible refine (HCC.out _).mono ?_); rintro e w' ⟨rfl, hb⟩; replace hcur := below_over hcur hcur.size hb; clear hb)); refine ⟨isOver_of hcur, ?_⟩))
           refine lex_end ?_
           go_wp2_with fail
           go_meet
           exact ⟨rfl, Lib.hid (below_over hbr hbr.size hcur)⟩
        case rest =>
          obtain ⟨rfl, HBr⟩ := hcut
          rename World => wr
          have hbr := HBr.out
          clear HBr
          go_wp2_with fail
          go_hide hQ
          go_loopw [6] (fun v6 wi => UnRel w4 i v6 wi) (fun v6 _ => i - (intOf v6).toNat)
          case atStart => exact ⟨0, Nat.zero_le _, rfl, hbr⟩
          case round =>
            obtain ⟨k, hk, rfl, hbi⟩ := hrel
            rename World => wi
            by_cases hlk : k < i
            · obtain ⟨z, hz⟩ := get_of_lt (show k < xs.length by omega)
              have HXi := Lib.hid (HCx.out wi hbi)
              have HZi := Lib.hid (HC4.out k z hz wi hbi)
              have x3 : wi.cell? ⟨b4, off4 + i * 6 + 3, none⟩ = some (.string x.n.name) := (HXi.out).2 3 _ rfl
              have sx := HXi.out.1
              have z3 : wi.cell? ⟨b4, off4 + k * 6 + 3, none⟩ = some (.string z.n.name) := (HZi.out).2 3 _ rfl
              have sz := HZi.out.1
              have e1 := seq_f (HUq.out k z hz hlk)
              clear hz
              go_upto_region 13 with (fail)
              have hcur : Below wi.heap.size wi wi.drew := (Below.refl _ _).drew
              refine wp_region_lex (C := IsOver wi) 11 [] (by kernel_rfl) (by kernel_rfl) (isOver_of (by repeat (first | exact Below.refl _ _ | apply Below.drew | apply below_drewN | (refine Below.alloc ?_ (by simp) _)))) ?_
              simp only [List.take_succ_cons, List.take_zero, List.drop_succ_cons, List.drop_zero]
              repeat (first | (refine lex_skip rfl rfl ?_; simp only [Act.put, List.setIfInBounds_toArray, List.set_cons_succ, List.set_cons_zero]) | (refine lex_one rfl ?_; go_big_quiet_step (fail); refine wpQuiet_nil ?_))
              refine lex_end ?_
              go_wp2_with fail
              go_roundw
              case rel => exact ⟨k + 1, hlk, by go_num, below_over hbi hbi.size hcur⟩
              case measure => simp [intOf]; omega
            · obtain rfl : i = k := by omega
              go_wp2_with fail
              subst hQ
              by_cases hf0 : x.n.flaws.length = 0
              · have HGv0 := HGG.out (List.length_eq_zero_iff.1 hf0)
                have HGv : Hid (∀ u ∈ namesM L x.n.file, u.text = x.n.name) := Lib.hid HGv0.1
                have dfl : ((x.n.flaws.length : Int) == 0) = true := by simp [hf0]
                have dgv : (((namesM L x.n.file).length : Int) == 0) = false := by
                  have := HGv0.2.1
                  have hp : 0 < (namesM L x.n.file).length := List.length_pos_iff.2 this
                  simp only [beq_eq_false_iff_ne, ne_eq]; omega
                have dal : ((x.n.also.length : Int) == 0) = true := by rw [HGv0.2.2]; rfl
                clear HGv0 hf0
                have HXi := Lib.hid (HCx.out wi hbi)
                have x0 : wi.cell? ⟨b4, off4 + i * 6, none⟩ = some (.int .u8 (x.n.file.pid.author.toNat : Int)) := (HXi.out).2 0 _ rfl
                have x1 : wi.cell? ⟨b4, off4 + i * 6 + 1, none⟩ = some (.int .u16 (x.n.file.pid.seq.toNat : Int)) := (HXi.out).2 1 _ rfl
                have x2 : wi.cell? ⟨b4, off4 + i * 6 + 2, none⟩ = some (.int .u8 (x.n.file.n.toNat : Int)) := (HXi.out).2 2 _ rfl
                have x3 : wi.cell? ⟨b4, off4 + i * 6 + 3, none⟩ = some (.string x.n.name) := (HXi.out).2 3 _ rfl
                have x4 : wi.cell? ⟨b4, off4 + i * 6 + 4, none⟩ = some (.slice x.pa x.n.also.length x.ca) := (HXi.out).2 4 _ rfl
                have x5 : wi.cell? ⟨b4, off4 + i * 6 + 5, none⟩ = some (.slice x.pf x.n.flaws.length x.cf) := (HXi.out).2 5 _ rfl
                have sx := HXi.out.1
                have HVi := Lib.hid (HVT.out wi hbi)
                go_upto_region 16 with (first | (go_at_call 17; (with_reducible refine HVi.out.mono ?_); rintro e w7 ⟨rfl, hb7⟩; have HB7 := Lib.hid hb7; clear hb7))
                have HA8 := Lib.hid (arr_new w7 #[.int .u8 (y.id.pid.author.toNat : Int), .int .u16 (y.id.pid.seq.toNat : Int), .int .u8 (y.id.n.toNat : Int), .int .u8 1, .int .u8 (y.file.pid.author.toNat : Int), .int .u16 (y.file.pid.seq.toNat : Int), .int .u8 (y.file.n.toNat : Int), .string y.text, .bool false] 53)
                have HB8 := Lib.hid (below_new (w := w7) (.cells #[.int .u8 (y.id.pid.author.toNat : Int), .int .u16 (y.id.pid.seq.toNat : Int), .int .u8 (y.id.n.toNat : Int), .int .u8 1, .int .u8 (y.file.pid.author.toNat : Int), .int .u16 (y.file.pid.seq.toNat : Int), .int .u8 (y.file.n.toNat : Int), .string y.text, .bool false] 53))
                generalize hw8 : w7.alloc (.cells #[.int .u8 (y.id.pid.author.toNat : Int), .int .u16 (y.id.pid.seq.toNat : Int), .int .u8 (y.id.n.toNat : Int), .int .u8 1, .int .u8 (y.file.pid.author.toNat : Int), .int .u16 (y.file.pid.seq.toNat : Int), .int .u8 (y.file.n.toNat : Int), .string y.text, .bool false] 53) = w8 at *
                clear hw8
                have HBi8 := Lib.hid (below_over HB7.out HB7.out.size HB8.out)
                have hb8 := below_over hbi hbi.size HBi8.out
                clear x0 x1 x2 x3 x4 x5 sx
                have y0 := HA8.out.cell (j := 0) rfl
                have y1 := HA8.out.cell (j := 1) rfl
                have y2 := HA8.out.cell (j := 2) rfl
                have y3 := HA8.out.cell (j := 3) rfl
                have y4 := HA8.out.cell (j := 4) rfl
                have y5 := HA8.out.cell (j := 5) rfl
                have y6 := HA8.out.cell (j := 6) rfl
                have y7 := HA8.out.cell (j := 7) rfl
                have y8 := HA8.out.cell (j := 8) rfl
                have sy := HA8.out.lt
                have HX8 := Lib.hid (HCx.out w8 hb8)
                have x0 : w8.cell? ⟨b4, off4 + i * 6, none⟩ = some (.int .u8 (x.n.file.pid.author.toNat : Int)) := (HX8.out).2 0 _ rfl
                have x1 : w8.cell? ⟨b4, off4 + i * 6 + 1, none⟩ = some (.int .u16 (x.n.file.pid.seq.toNat : Int)) := (HX8.out).2 1 _ rfl
                have x2 : w8.cell? ⟨b4, off4 + i * 6 + 2, none⟩ = some (.int .u8 (x.n.file.n.toNat : Int)) := (HX8.out).2 2 _ rfl
                have x3 : w8.cell? ⟨b4, off4 + i * 6 + 3, none⟩ = some (.string x.n.name) := (HX8.out).2 3 _ rfl
                have x4 : w8.cell? ⟨b4, off4 + i * 6 + 4, none⟩ = some (.slice x.pa x.n.also.length x.ca) := (HX8.out).2 4 _ rfl
                have x5 : w8.cell? ⟨b4, off4 + i * 6 + 5, none⟩ = some (.slice x.pf x.n.flaws.length x.cf) := (HX8.out).2 5 _ rfl
                have sx := HX8.out.1
                have HN8 := Lib.hid (HNT.out w8 hb8)
                go_upto_region 19 with (first | (go_at_call 11; (with_reducible refine HN8.out.mono ?_); rintro e w9 ⟨v9, rfl, ho9, hb9⟩; have HO9 := Lib.hid ho9; have HB9 := Lib.hid hb9; clear ho9 hb9))
                obtain ⟨a9, c9, rfl, t1, t2, hc9⟩ := HO9.out.row.at encVert_len
                unfold maxLen at t2
                have HC9 := Lib.hid hc9
                have hb9 := below_over hb8 hb8.size HB9.out
                clear x0 x1 x2 x3 x4 x5 sx y0 y1 y2 y3 y4 y5 y6 y7 y8 sy hc9
                go_wp2_with fail
                go_hide hQ2
                go_loopw [10] (fun v10 wk => UnRel w9 (namesM L x.n.file).length v10 wk) (fun v10 _ => (namesM L x.n.file).length - (intOf v10).toNat)
                case atStart => exact ⟨0, Nat.zero_le _, rfl, Below.refl _ _⟩
                case round =>
                  obtain ⟨k2, hk2, rfl, hbk⟩ := hrel
                  rename World => wk
                  have hb10 := below_over hb9 hb9.size hbk
                  have HX10 := Lib.hid (HCx.out wk hb10)
                  have x0 : wk.cell? ⟨b4, off4 + i * 6, none⟩ = some (.int .u8 (x.n.file.pid.author.toNat : Int)) := (HX10.out).2 0 _ rfl
                  have x1 : wk.cell? ⟨b4, off4 + i * 6 + 1, none⟩ = some (.int .u16 (x.n.file.pid.seq.toNat : Int)) := (HX10.out).2 1 _ rfl
                  have x2 : wk.cell? ⟨b4, off4 + i * 6 + 2, none⟩ = some (.int .u8 (x.n.file.n.toNat : Int)) := (HX10.out).2 2 _ rfl
                  have x3 : wk.cell? ⟨b4, off4 + i * 6 + 3, none⟩ = some (.string x.n.name) := (HX10.out).2 3 _ rfl
                  have x4 : wk.cell? ⟨b4, off4 + i * 6 + 4, none⟩ = some (.slice x.pa x.n.also.length x.ca) := (HX10.out).2 4 _ rfl
                  have x5 : wk.cell? ⟨b4, off4 + i * 6 + 5, none⟩ = some (.slice x.pf x.n.flaws.length x.cf) := (HX10.out).2 5 _ rfl
                  have sx := HX10.out.1
                  by_cases hlk : k2 < (namesM L x.n.file).length
                  · obtain ⟨b9, off9, rfl, sb9, hcb9⟩ := HC9.out.resolve_left (by omega)
                    obtain ⟨u, hu⟩ := get_of_lt hlk
                    have HU := Lib.hid (hcb9 k2 u hu wk hbk)
                    have u7 : wk.cell? ⟨b9, off9 + k2 * 9 + 7, none⟩ = some (.string u.text) := (HU.out).2 7 _ rfl
                    have su := HU.out.1
                    have e1 := seq_t (HGv.out u (List.mem_of_getElem? hu))
                    clear hcb9 hu
                    go_upto_region 22 with (fail)
                    have hcur : Below wk.heap.size wk wk.drew := (Below.refl _ _).drew
                    refine wp_region_lex (C := IsOver wk) 11 [] (by kernel_rfl) (by kernel_rfl) (isOver_of (by repeat (first | exact Below.refl _ _ | apply Below.drew | apply below_drewN | (refine Below.alloc ?_ (by simp) _)))) ?_
                    simp only [List.take_succ_cons, List.take_zero, List.drop_succ_cons, List.drop_zero]
                    repeat (first | (refine lex_skip rfl rfl ?_; simp only [Act.put, List.setIfInBounds_toArray, List.set_cons_succ, List.set_cons_zero]) | (refine lex_one rfl ?_; go_big_quiet_step (fail); refine wpQuiet_nil ?_))
                    refine lex_end ?_
                    go_wp2_with fail
                    go_roundw
                    case rel => exact ⟨k2 + 1, hlk, by go_num, below_over hbk hbk.size hcur⟩
                    case measure => simp [intOf]; omega
                  · obtain rfl : k2 = (namesM L x.n.file).length := by omega
                    go_wp2_with fail
                    subst hQ2
                    go_wp2_with fail
                    go_roundw
                    case rel => exact ⟨i + 1, hlt, by go_num, hb10⟩
                    case measure => simp [intOf]; omega
              · have dfl : ((x.n.flaws.length : Int) == 0) = false := by simp only [beq_eq_false_iff_ne, ne_eq]; omega
                clear hf0
                have HXi := Lib.hid (HCx.out wi hbi)
                have x0 : wi.cell? ⟨b4, off4 + i * 6, none⟩ = some (.int .u8 (x.n.file.pid.author.toNat : Int)) := (HXi.out).2 0 _ rfl
                have x1 : wi.cell? ⟨b4, off4 + i * 6 + 1, none⟩ = some (.int .u16 (x.n.file.pid.seq.toNat : Int)) := (HXi.out).2 1 _ rfl
                have x2 : wi.cell? ⟨b4, off4 + i * 6 + 2, none⟩ = some (.int .u8 (x.n.file.n.toNat : Int)) := (HXi.out).2 2 _ rfl
                have x3 : wi.cell? ⟨b4, off4 + i * 6 + 3, none⟩ = some (.string x.n.name) := (HXi.out).2 3 _ rfl
                have x4 : wi.cell? ⟨b4, off4 + i * 6 + 4, none⟩ = some (.slice x.pa x.n.also.length x.ca) := (HXi.out).2 4 _ rfl
                have x5 : wi.cell? ⟨b4, off4 + i * 6 + 5, none⟩ = some (.slice x.pf x.n.flaws.length x.cf) := (HXi.out).2 5 _ rfl
                have sx := HXi.out.1
                have HVi := Lib.hid (HVT.out wi hbi)
                go_upto_region 16 with (first | (go_at_call 17; (with_reducible refine HVi.out.mono ?_); rintro e w7 ⟨rfl, hb7⟩; have HB7 := Lib.hid hb7; clear hb7))
                have HA8 := Lib.hid (arr_new w7 #[.int .u8 (y.id.pid.author.toNat : Int), .int .u16 (y.id.pid.seq.toNat : Int), .int .u8 (y.id.n.toNat : Int), .int .u8 1, .int .u8 (y.file.pid.author.toNat : Int), .int .u16 (y.file.pid.seq.toNat : Int), .int .u8 (y.file.n.toNat : Int), .string y.text, .bool false] 53)
                have HB8 := Lib.hid (below_new (w := w7) (.cells #[.int .u8 (y.id.pid.author.toNat : Int), .int .u16 (y.id.pid.seq.toNat : Int), .int .u8 (y.id.n.toNat : Int), .int .u8 1, .int .u8 (y.file.pid.author.toNat : Int), .int .u16 (y.file.pid.seq.toNat : Int), .int .u8 (y.file.n.toNat : Int), .string y.text, .bool false] 53))
                generalize hw8 : w7.alloc (.cells #[.int .u8 (y.id.pid.author.toNat : Int), .int .u16 (y.id.pid.seq.toNat : Int), .int .u8 (y.id.n.toNat : Int), .int .u8 1, .int .u8 (y.file.pid.author.toNat : Int), .int .u16 (y.file.pid.seq.toNat : Int), .int .u8 (y.file.n.toNat : Int), .string y.text, .bool false] 53) = w8 at *
                clear hw8
                have HBi8 := Lib.hid (below_over HB7.out HB7.out.size HB8.out)
                have hb8 := below_over hbi hbi.size HBi8.out
                clear x0 x1 x2 x3 x4 x5 sx
                have y0 := HA8.out.cell (j := 0) rfl
                have y1 := HA8.out.cell (j := 1) rfl
                have y2 := HA8.out.cell (j := 2) rfl
                have y3 := HA8.out.cell (j := 3) rfl
                have y4 := HA8.out.cell (j := 4) rfl
                have y5 := HA8.out.cell (j := 5) rfl
                have y6 := HA8.out.cell (j := 6) rfl
                have y7 := HA8.out.cell (j := 7) rfl
                have y8 := HA8.out.cell (j := 8) rfl
                have sy := HA8.out.lt
                have HX8 := Lib.hid (HCx.out w8 hb8)
                have x0 : w8.cell? ⟨b4, off4 + i * 6, none⟩ = some (.int .u8 (x.n.file.pid.author.toNat : Int)) := (HX8.out).2 0 _ rfl
                have x1 : w8.cell? ⟨b4, off4 + i * 6 + 1, none⟩ = some (.int .u16 (x.n.file.pid.seq.toNat : Int)) := (HX8.out).2 1 _ rfl
                have x2 : w8.cell? ⟨b4, off4 + i * 6 + 2, none⟩ = some (.int .u8 (x.n.file.n.toNat : Int)) := (HX8.out).2 2 _ rfl
                have x3 : w8.cell? ⟨b4, off4 + i * 6 + 3, none⟩ = some (.string x.n.name) := (HX8.out).2 3 _ rfl
                have x4 : w8.cell? ⟨b4, off4 + i * 6 + 4, none⟩ = some (.slice x.pa x.n.also.length x.ca) := (HX8.out).2 4 _ rfl
                have x5 : w8.cell? ⟨b4, off4 + i * 6 + 5, none⟩ = some (.slice x.pf x.n.flaws.length x.cf) := (HX8.out).2 5 _ rfl
                have sx := HX8.out.1
                have HN8 := Lib.hid (HNT.out w8 hb8)
                go_upto_region 19 with (first | (go_at_call 11; (with_reducible refine HN8.out.mono ?_); rintro e w9 ⟨v9, rfl, ho9, hb9⟩; have HO9 := Lib.hid ho9; have HB9 := Lib.hid hb9; clear ho9 hb9))
                obtain ⟨a9, c9, rfl, t1, t2, hc9⟩ := HO9.out.row.at encVert_len
                unfold maxLen at t2
                have HC9 := Lib.hid hc9
                have hb9 := below_over hb8 hb8.size HB9.out
                clear x0 x1 x2 x3 x4 x5 sx y0 y1 y2 y3 y4 y5 y6 y7 y8 sy hc9
                go_wp2_with fail
                go_hide hQ2
                go_loopw [10] (fun v10 wk => UnRel w9 (namesM L x.n.file).length v10 wk) (fun v10 _ => (namesM L x.n.file).length - (intOf v10).toNat)
                case atStart => exact ⟨0, Nat.zero_le _, rfl, Below.refl _ _⟩
                case round =>
                  obtain ⟨k2, hk2, rfl, hbk⟩ := hrel
                  rename World => wk
                  have hb10 := below_over hb9 hb9.size hbk
                  have HX10 := Lib.hid (HCx.out wk hb10)
                  have x0 : wk.cell? ⟨b4, off4 + i * 6, none⟩ = some (.int .u8 (x.n.file.pid.author.toNat : Int)) := (HX10.out).2 0 _ rfl
                  have x1 : wk.cell? ⟨b4, off4 + i * 6 + 1, none⟩ = some (.int .u16 (x.n.file.pid.seq.toNat : Int)) := (HX10.out).2 1 _ rfl
                  have x2 : wk.cell? ⟨b4, off4 + i * 6 + 2, none⟩ = some (.int .u8 (x.n.file.n.toNat : Int)) := (HX10.out).2 2 _ rfl
                  have x3 : wk.cell? ⟨b4, off4 + i * 6 + 3, none⟩ = some (.string x.n.name) := (HX10.out).2 3 _ rfl
                  have x4 : wk.cell? ⟨b4, off4 + i * 6 + 4, none⟩ = some (.slice x.pa x.n.also.length x.ca) := (HX10.out).2 4 _ rfl
                  have x5 : wk.cell? ⟨b4, off4 + i * 6 + 5, none⟩ = some (.slice x.pf x.n.flaws.length x.cf) := (HX10.out).2 5 _ rfl
                  have sx := HX10.out.1
                  by_cases hlk : k2 < (namesM L x.n.file).length
                  · go_wp2_with fail
                    subst hQ2
                    go_wp2_with fail
                    go_roundw
                    case rel => exact ⟨i + 1, hlt, by go_num, hb10⟩
                    case measure => simp [intOf]; omega
                  · go_wp2_with fail
                    subst hQ2
                    go_wp2_with fail
                    go_roundw
                    case rel => exact ⟨i + 1, hlt, by go_num, hb10⟩
                    case measure => simp [intOf]; omega
      · obtain rfl : i = xs.length := by omega
        go_wp2_with fail
        refine (works24_any _ (HT.out.over (below_over HB4.out HB4.out.size hbr))).mono ?_
        rintro e w9 ⟨rfl, hb9⟩
        have HB9 := Lib.hid (below_over (below_over HB4.out HB4.out.size hbr) (by have := HB4.out.size; have := hbr.size; omega) hb9)
        clear hb9
        go_wp2_with fail
        go_ret
        exact ⟨rfl, HB9.out⟩
end Go.Proofs.YtflnkmmimoninaaGreatDoor
