/- (*Graph).Apply in the words of the list of the patches that were applied. -/
import Derived.Test.YtfciedmmgddgpaaGreatDoorZGraphE
namespace Go.Proofs.YtfciedmmgddgpaaGreatDoor
open Go Go.RowKit

theorem optV_some (x : VertM) : optV (some x) = x := rfl
attribute [local irreducible] vecL lookX optV refsK isK goodQ checkX refsO
set_option maxHeartbeats 8000000 in
set_option maxRecDepth 100000 in
theorem gapply_no (b bv be n : Nat) (f : VecM) (vs : VidM → Option VertM) (es : EdgeM → Option VidM) (id : PidM) (dv ov : Value) (deps : List PidM) (ops : List OpM) (w : World) (hg : GrW w b bv be n f vs es) (hf : ∀ a, f a ≤ 60000) (hd : GRow encPid 2 w dv deps) (hv : GRow encOp 8 w ov ops) (hl : ops.length ≤ 40000) (hz : ∀ o ∈ ops, o.text.size ≤ maxLen)
    (hok : ¬ checkX f vs id deps ops = 0) :
    Calls Tryz.prog 19 #[.pointer (some ⟨b, 0, none⟩), patV id dv ov] w fun e w' => e = .returned (.int .i64 ((checkX f vs id deps ops : Nat) : Int)) ∧ Below w.heap.size w w' := by
  have HV := Lib.hid hv
  have HD := Lib.hid hd
  have HF := Lib.hid hf
  have HZ := Lib.hid hz
  have HG0 := Lib.hid hg
  obtain ⟨a, cap, rfl, h1, h2, hc⟩ := hv.at encOp_len
  have HP := Lib.hid (arr_new w #[.int .u8 (id.author.toNat : Int), .int .u16 (id.seq.toNat : Int), dv, .slice a ops.length cap] 51)
  have HB := Lib.hid (below_new (w := w) (.cells #[.int .u8 (id.author.toNat : Int), .int .u16 (id.seq.toNat : Int), dv, .slice a ops.length cap] 51))
  clear hv hc hg hd hf hz
  generalize hx : checkX f vs id deps ops = x at *
  have HX := Lib.hid hx
  have e1 : ((x : Int) == 0) = false := by simp; omega
  have e2 : ((x : Int) != 0) = true := by simp; omega
  clear hx
  unfold patV
  go_enter Tryz.func19, Tryz.ntmps19
  go_upto_region 1 with (fail)
  generalize hw0 : w.alloc (.cells #[.int .u8 (id.author.toNat : Int), .int .u16 (id.seq.toNat : Int), dv, .slice a ops.length cap] 51) = w0 at *
  clear hw0
  have p0 := HP.out.cell (j := 0) rfl
  have p1 := HP.out.cell (j := 1) rfl
  have p2 := HP.out.cell (j := 2) rfl
  have p3 := HP.out.cell (j := 3) rfl
  have sp := HP.out.lt
  go_wp2_with (first | (go_at_call 41; (with_reducible refine (gcheck_any b bv be n f vs es id _ _ deps ops _ (HG0.out.over HB.out) HF.out (HD.out.over HB.out) (HV.out.over HB.out) hl HZ.out).mono ?_); rintro e w1 ⟨rfl, hb⟩; rw [HX.out]))
  go_ret
  exact ⟨rfl, below_over HB.out HB.out.size hb⟩

/-! ### in the words of the list -/
theorem hasF_eq {L : List PatchM} (hw : WfG L) (q : PidM) : hasF (vecM L) q = hasM L q := by
  rw [Bool.eq_iff_iff, hw.has]; unfold hasF; simp
theorem nextF_eq (L : List PatchM) (a : UInt8) : nextF (vecM L) a = nextM L a := rfl
theorem refsO_eq {L : List PatchM} {p : PatchM} (hg : goodP p = true) (hn : hasM L p.id = false) {o : OpM} (ho : o ∈ p.ops) : refsO (vertM L) p.id p.ops o = refMet (L ++ [p]) o := by
  have h := refsK_eq L p o
  rw [← refs_same hn (by rcases kind_of hg ho with h | h | h | h | h <;> simp [h]), ← h]; unfold refsO; rfl
theorem any_all {α : Type} (l : List α) (f : α → Bool) : (l.any (fun x => !f x) = true) ↔ (l.all f = false) := by
  rw [List.any_eq_true, ← Bool.not_eq_true, List.all_eq_true]
  constructor
  · rintro ⟨x, hx, h⟩ hh; rw [hh x hx] at h; cases h
  · intro h; refine Classical.byContradiction fun hc => h fun x hx => by
      cases hfx : f x with
      | true => rfl
      | false => exact absurd ⟨x, hx, by rw [hfx]; rfl⟩ hc
theorem checkX_eq {L : List PatchM} (hw : WfG L) (p : PatchM) : checkX (vecM L) (vertM L) p.id p.deps p.ops = checkM L p := by
  unfold checkX checkM
  rw [goodQ_eq, hasF_eq hw, nextF_eq]
  by_cases h1 : goodP p = false
  · rw [if_pos h1, if_pos h1]
  rw [if_neg h1, if_neg h1]
  by_cases h2 : hasM L p.id = true
  · rw [if_pos h2, if_pos h2]
  rw [if_neg h2, if_neg h2]
  by_cases h3 : ¬ nextM L p.id.author = p.id
  · rw [if_pos h3, if_pos h3]
  rw [if_neg h3, if_neg h3]
  have e4 : (fun d => !hasF (vecM L) d) = fun d => !hasM L d := by funext d; rw [hasF_eq hw]
  rw [e4]
  by_cases h4 : (p.deps.all fun d => hasM L d) = false
  · rw [if_pos h4, if_pos ((any_all _ _).2 h4)]
  rw [if_neg h4, if_neg (fun h => h4 ((any_all _ _).1 h))]
  have e5 : (p.ops.all fun o => refMet (L ++ [p]) o) = p.ops.all fun o => refsO (vertM L) p.id p.ops o := by
    rw [Bool.eq_iff_iff, List.all_eq_true, List.all_eq_true]
    constructor
    · intro h o ho; rw [refsO_eq (by simpa using h1) (by simpa using h2) ho]; exact h o ho
    · intro h o ho; rw [← refsO_eq (by simpa using h1) (by simpa using h2) ho]; exact h o ho
  rw [e5]
  by_cases h5 : (p.ops.all fun o => refsO (vertM L) p.id p.ops o) = false
  · rw [if_pos h5, if_pos ((any_all _ _).2 h5)]
  · rw [if_neg h5, if_neg (fun h => h5 ((any_all _ _).1 h))]
theorem file_at (L : List PatchM) (v : VidM) : fileAt L v = (optV (vertM L v)).file := by
  unfold fileAt optV; cases vertM L v <;> rfl
theorem steps_ok {L : List PatchM} {p : PatchM} (hw : WfG L) (hc : CheckOk L p) : Steps (fun k => vertM (L ++ [partP p k])) (fun k => edgeM (L ++ [partP p k])) (vertM L) (edgeM L) p.id p.ops := by
  have h256 : ∀ (i : Nat) (o : OpM), p.ops[i]? = some o → i < 256 := fun i o h => by have := (List.getElem?_eq_some_iff.1 h).1; have := (goodP_len hc.good).2; omega
  have h5 : ∀ (i : Nat) (o : OpM), p.ops[i]? = some o → ¬ makesB o.kind = true → ¬ o.kind.toNat = 4 → o.kind = 5 := fun i o h hm h4 => by
    rcases kind_of hc.good (List.mem_of_getElem? h) with h | h | h | h | h
    · exact absurd ((makes_iff _).2 (.inl h)) hm
    · exact absurd ((makes_iff _).2 (.inr (.inl h))) hm
    · exact absurd ((makes_iff _).2 (.inr (.inr h))) hm
    · exact absurd (by rw [h]; rfl) h4
    · exact h.1
  refine ⟨vert_zero, edge_zero, fun i o h => ?_, fun i o h => ?_⟩
  · unfold stepV
    by_cases hm : makesB o.kind = true
    · rw [if_pos hm]
      have e : (madeX p.id i o).id = ⟨p.id, UInt8.ofNat i⟩ := rfl
      rw [e]; exact vert_makes hw hc (h256 i o h) h hm
    rw [if_neg hm]
    by_cases h4 : o.kind.toNat = 4
    · rw [if_pos h4]; exact vert_edge hc h ((u8_nat _ 4 (by omega)).2 h4)
    rw [if_neg h4]
    obtain ⟨x, hx⟩ := kill_there hc h (h5 i o h hm h4)
    show _ = updM (vertM (L ++ [partP p i])) o.at' (killV (optV (vertM (L ++ [partP p i]) o.at')))
    rw [hx, optV_some]
    exact vert_kill hc h (h5 i o h hm h4) hx
  · unfold stepE
    by_cases hm : makesB o.kind = true
    · rw [if_pos hm]; exact edge_makes hw hc (h256 i o h) h hm
    rw [if_neg hm]
    by_cases h4 : o.kind.toNat = 4
    · rw [if_pos h4]
      show _ = updM (edgeM (L ++ [partP p i])) (o.at', o.to) (optV (vertM (L ++ [partP p i]) o.at')).file
      rw [← file_at]
      exact edge_edge hc h ((u8_nat _ 4 (by omega)).2 h4)
    rw [if_neg h4]; exact edge_kill hc h (h5 i o h hm h4)
theorem vec_step {L : List PatchM} {p : PatchM} (hc : CheckOk L p) : setV (vecM L) p.id.author p.id.seq.toNat = vecM (L ++ [p]) := by
  obtain ⟨_, _, h⟩ := next_parts (goodP_id hc.good) hc.next
  funext a
  rw [vecM_snoc]; unfold setV
  by_cases ha : a = p.id.author
  · subst ha; rw [if_pos rfl, if_pos rfl, h]
  · rw [if_neg ha, if_neg (fun e => ha e.symm)]; rfl
/-- block b is a graph of the patches L; all that is new lies from B on -/
def GrL (wb : World) (b bv be n : Nat) (L : List PatchM) (w : World) : Prop :=
  wb.heap.size ≤ b ∧ wb.heap.size ≤ bv ∧ wb.heap.size ≤ be ∧ GrW w b bv be n (vecM L) (vertM L) (edgeM L) ∧ Below wb.heap.size wb w
def ApRes (wb : World) (b bv be n : Nat) (L : List PatchM) (p : PatchM) (e : Ending) (w' : World) : Prop :=
  e = .returned (.int .i64 ((checkM L p : Nat) : Int)) ∧ GrL wb b bv be (n + p.ops.length) (applyM L p) w'
theorem GrW.mono {w : World} {b bv be n n' : Nat} {f : VecM} {v : VidM → Option VertM} {e : EdgeM → Option VidM} (h : GrW w b bv be n f v e) (hn : n ≤ n') : GrW w b bv be n' f v e := ⟨h.arr, h.verts.mono hn, h.edges.mono hn, h.ne⟩
theorem gapply_L (b bv be n : Nat) (L : List PatchM) (hw : WfG L) (p : PatchM) (dv ov : Value) (wb w : World) (hg : GrL wb b bv be n L w) (hd : GRow encPid 2 wb dv p.deps) (hv : GRow encOp 8 wb ov p.ops) (hl : p.ops.length ≤ 40000) (hz : ∀ o ∈ p.ops, o.text.size ≤ maxLen) (hn : n + p.ops.length ≤ 4000000000) :
    Calls Tryz.prog 19 #[.pointer (some ⟨b, 0, none⟩), patV p.id dv ov] w (ApRes wb b bv be n L p) := by
  obtain ⟨k1, k2, k3, hG, hb⟩ := hg
  by_cases hc : checkM L p = 0
  · have hok := check_ok hc
    have hx : checkX (vecM L) (vertM L) p.id p.deps p.ops = 0 := (checkX_eq hw p).trans hc
    obtain ⟨ha, _, _⟩ := next_parts (goodP_id hok.good) hok.next
    refine (gapply_any b bv be n (vecM L) (vertM L) (edgeM L) p.id dv ov p.deps p.ops _ _ wb w hb k1 k2 k3 hG hw.vec hd hv hl hz hn hx ha (by rw [nextF_eq]; exact hok.next) (steps_ok hw hok)).mono ?_
    rintro e w' ⟨rfl, hG', hb'⟩
    have ha : applyM L p = L ++ [p] := by unfold applyM; rw [if_pos hc]
    refine ⟨by rw [hc]; rfl, k1, k2, k3, ?_, hb'⟩
    have hG2 : GrW w' b bv be (n + p.ops.length) (setV (vecM L) p.id.author p.id.seq.toNat) (vertM (L ++ [partP p p.ops.length])) (edgeM (L ++ [partP p p.ops.length])) := hG'
    rw [part_all, vec_step hok] at hG2
    rw [ha]; exact hG2
  · have ha : applyM L p = L := by unfold applyM; rw [if_neg hc]
    refine (gapply_no b bv be n (vecM L) (vertM L) (edgeM L) p.id dv ov p.deps p.ops w hG hw.vec (hd.over hb) (hv.over hb) hl hz (by rw [checkX_eq hw]; exact hc)).mono ?_
    rintro e w' ⟨rfl, hb'⟩
    refine ⟨by rw [checkX_eq hw], ?_⟩
    rw [ha]
    exact ⟨k1, k2, k3, (hG.over hb').mono (by omega), below_over hb hb.size hb'⟩
end Go.Proofs.YtfciedmmgddgpaaGreatDoor
