/- Contracts of ref24.put and ref24.alive. -/
import Derived.Test.YtfciedmmgddgpaaGreatDoorZNsA
import Derived.Test.YtfciedmmgddgpaaGreatDoorZNmE
namespace Go.Proofs.YtfciedmmgddgpaaGreatDoor
open Go Go.RowKit

theorem bytesLess_iff : ∀ a b : List UInt8, Op.bytesLess a b = true ↔ a < b
  | [], [] => by simp [Op.bytesLess]
  | _ :: _, [] => by simp [Op.bytesLess]
  | [], _ :: _ => by simp [Op.bytesLess]
  | a :: x, b :: y => by
    rw [Op.bytesLess, List.cons_lt_cons_iff, ← bytesLess_iff x y]
    simp
theorem less_t {a : ByteArray} {b : TextL} (h : a.data.toList < b) : Op.bytesLess a.toList b = true := by rw [ByteArray.toList_eq, bytesLess_iff]; exact h
theorem less_f {a : ByteArray} {b : TextL} (h : ¬ a.data.toList < b) : Op.bytesLess a.toList b = false := by
  rw [Bool.eq_false_iff, ne_eq, ByteArray.toList_eq, bytesLess_iff]; exact h
theorem same_t {a : TextL} {b : ByteArray} (h : a = b.data.toList) : (a == b.toList) = true := by rw [ByteArray.toList_eq, h]; simp
theorem same_f {a : TextL} {b : ByteArray} (h : ¬ a = b.data.toList) : (a == b.toList) = false := by rw [ByteArray.toList_eq]; exact beq_eq_false_iff_ne.2 h
theorem same_t' {a : ByteArray} {b : TextL} (h : b = a.data.toList) : (a.toList == b) = true := by rw [ByteArray.toList_eq, h]; simp
theorem same_f' {a : ByteArray} {b : TextL} (h : ¬ b = a.data.toList) : (a.toList == b) = false := by rw [ByteArray.toList_eq]; exact beq_eq_false_iff_ne.2 fun q => h q.symm

/-! ### put -/
def restT (s : TextL) : Bool → List TextL → List TextL
  | true, r => r.filter fun y => y ≠ s
  | false, [] => [s]
  | false, y :: r => if s < y then s :: y :: (r.filter fun z => z ≠ s) else if y = s then s :: (r.filter fun z => z ≠ s) else y :: restT s false r
def putT (s : TextL) (l : List TextL) : List TextL := restT s false l
theorem restT_true (s : TextL) (r : List TextL) : restT s true r = r.filter (fun y => y ≠ s) := by cases r <;> rfl
theorem restT_nil (s : TextL) : restT s false [] = [s] := by simp [restT]
theorem restT_lt {s y : TextL} (h : s < y) (r : List TextL) : restT s false (y :: r) = s :: y :: restT s true r := by simp [restT, h]
theorem restT_eq {s y : TextL} (h : y = s) (r : List TextL) : restT s false (y :: r) = s :: restT s true r := by subst h; simp [restT, tl_irrefl]
theorem restT_gt {s y : TextL} (h1 : ¬ s < y) (h2 : ¬ y = s) (r : List TextL) : restT s false (y :: r) = y :: restT s false r := by simp [restT, h1, h2]
theorem restT_yes {s y : TextL} (h : ¬ y = s) (r : List TextL) : restT s true (y :: r) = y :: restT s true r := by simp [restT, h]
theorem restT_no {s y : TextL} (h : y = s) (r : List TextL) : restT s true (y :: r) = restT s true r := by simp [restT, h]
theorem restT_end (s : TextL) : restT s true [] = [] := by simp [restT]
/-- into a rising list it is put at its place, once -/
theorem putT_spec (s : TextL) : ∀ {l : List TextL}, RisesT l → RisesT (putT s l) ∧ ∀ z, z ∈ putT s l ↔ z = s ∨ z ∈ l
  | [], _ => by simp [putT, restT, RisesT]
  | y :: l, h => by
    obtain ⟨h1, h2⟩ := List.pairwise_cons.1 h
    unfold putT
    rcases Classical.em (s < y) with hs | hs
    · have hf : restT s true l = l := (restT_true s l).trans (List.filter_eq_self.2 fun z hz => by
        have : z ≠ s := fun e => tl_irrefl s (tl_trans hs (e ▸ h1 z hz))
        simpa using this)
      rw [restT_lt hs, hf]
      refine ⟨List.pairwise_cons.2 ⟨fun z hz => ?_, h⟩, fun z => by simp⟩
      rcases List.mem_cons.1 hz with rfl | hz
      · exact hs
      · exact tl_trans hs (h1 z hz)
    · rcases Classical.em (y = s) with he | he
      · have hf : restT s true l = l := (restT_true s l).trans (List.filter_eq_self.2 fun z hz => by
          have : z ≠ s := fun e => tl_irrefl s (by have := h1 z hz; rw [e, he] at this; exact this)
          simpa using this)
        rw [restT_eq he, hf]
        subst he
        exact ⟨h, fun z => by simp⟩
      · obtain ⟨g1, g2⟩ := putT_spec s h2
        unfold putT at g1 g2
        rw [restT_gt hs he]
        refine ⟨List.pairwise_cons.2 ⟨fun z hz => ?_, g1⟩, fun z => ?_⟩
        · rcases (g2 z).1 hz with rfl | hz
          · exact tl_lt_of (tl_not.1 hs) he
          · exact h1 z hz
        · rw [List.mem_cons, g2 z, List.mem_cons]
          constructor
          · rintro (h | h | h)
            · exact .inr (.inl h)
            · exact .inl h
            · exact .inr (.inr h)
          · rintro (h | h | h)
            · exact .inr (.inl h)
            · exact .inl h
            · exact .inr (.inr h)
theorem drop_atT {xs : List TextL} {k : Nat} {y : TextL} (h : xs[k]? = some y) : xs.drop k = y :: xs.drop (k + 1) := drop_at h
def PtRel (w : World) (l : List TextL) (s : TextL) (v5 v6 v7 : Value) (wr : World) : Prop :=
  ∃ (k : Nat) (M : List TextL) (t : Bool), k ≤ l.length ∧ v7 = .int .i64 (k : Int) ∧ v6 = .bool t ∧ M.length ≤ k + t.toNat ∧ Hid (GOwn encT 1 9 wr w.heap.size v5 M) ∧ Hid (putT s l = M ++ restT s t (l.drop k)) ∧ Below w.heap.size w wr
def SetOwnT (w : World) (xs : List TextL) (e : Ending) (w' : World) : Prop := ∃ u, e = .returned u ∧ GOwn encT 1 9 w' w.heap.size u xs ∧ Below w.heap.size w w'
theorem encT_sB (s : ByteArray) (M : List TextL) : M.flatMap encT ++ encT s.data.toList = M.flatMap encT ++ [.string s] := rfl
attribute [local irreducible] restT putT
set_option maxHeartbeats 8000000 in
set_option maxRecDepth 100000 in
theorem rput24_any (v : Value) (l : List TextL) (s : ByteArray) (w : World) (hv : GRow encT 1 w v l) (hl : l.length ≤ 1000000) :
    Calls Tryz.prog 37 #[v, .string s] w (SetOwnT w (putT s.data.toList l)) := by
  obtain ⟨a, cap, rfl, h1, h2, hc⟩ := hv.at encT_len
  unfold maxLen at h2
  have HC := Lib.hid hc
  clear hv hc
  go_enter Tryz.func37, Tryz.ntmps37
  go_wp2_with fail
  go_loopw [5, 6, 7] (fun v5 v6 v7 wr => PtRel w l s.data.toList v5 v6 v7 wr) (fun _ _ v7 _ => l.length - (intOf v7).toNat)
  case atStart => exact ⟨0, [], false, Nat.zero_le _, rfl, rfl, by simp, gown_nil _ _, (by show _ = _; unfold putT; simp), Below.refl _ _⟩
  case round =>
    obtain ⟨k, M, t, hk, rfl, rfl, hM, HM, HR, hbl⟩ := hrel
    rename World => wr
    have htn := Bool.toNat_le t
    have hN : M.length + 1 ≤ 1099511627776 := by omega
    have hB := hbl.size
    by_cases hlt : k < l.length
    · obtain ⟨bo, oo, rfl, so, hcw⟩ := HC.out.resolve_left (by omega)
      obtain ⟨y, hy⟩ := get_of_lt hlt
      have HYa : Hid (∀ W, Below w.heap.size w W → W.cell? ⟨bo, oo + k, none⟩ = some (.string ⟨y.toArray⟩)) := Lib.hid fun W hW => by
        have := (hcw k y hy W hW).2 0 _ rfl
        rw [Nat.mul_one, Nat.add_zero] at this; exact this
      have HR1 : Hid (putT s.data.toList l = M ++ restT s.data.toList t (y :: l.drop (k + 1))) := by show _ = _; rw [← drop_atT hy]; exact HR.out
      have y0 := HYa.out wr hbl
      have so2 := hbl.size
      clear hy hcw HR
      cases t with
      | true =>
        have hM1 : M.length ≤ k + 1 := hM
        rcases Classical.em (y = s.data.toList) with he | he
        · have e1 : (y == s.toList) = true := same_t he
          have HN : Hid (putT s.data.toList l = M ++ restT s.data.toList true (l.drop (k + 1))) := by show _ = _; rw [HR1.out, restT_no he]
          clear he
          go_wp2_with fail
          go_roundw
          case rel => exact ⟨k + 1, M, true, hlt, by go_num, rfl, by simp; omega, HM, HN, hbl⟩
          case measure => simp [intOf]; omega
        · have e1 : (y == s.toList) = false := same_f he
          have HN : Hid (putT s.data.toList l = (M ++ [y]) ++ restT s.data.toList true (l.drop (k + 1))) := by show _ = _; rw [HR1.out, restT_yes he]; simp
          clear he
          go_wp2_with (at_builtin; (first | refine wpList_append_newD slStrN rfl _ _ rfl w.heap.size _ _ (drawn_alloc_drewN _ _ _) 1 _ _ _ HM.out rfl rfl rfl rfl hN (by decide) hB ?_ | refine wpList_append_newD slStrN rfl _ _ rfl w.heap.size _ _ (drawn_drew _) 1 _ _ _ HM.out rfl rfl rfl rfl hN (by decide) hB ?_ | refine wpList_append_newD slStrN rfl _ _ rfl w.heap.size _ _ (drawn_drewN _ _) 1 _ _ _ HM.out rfl rfl rfl rfl hN (by decide) hB ?_ | refine wpList_append_newD slStrN rfl _ _ rfl w.heap.size _ _ (drawn_refl _) 1 _ _ _ HM.out rfl rfl rfl rfl hN (by decide) hB ?_); intro v2 w2 ho2 hg2)
          go_roundw
          case rel => exact ⟨k + 1, M ++ [y], true, hlt, by go_num, rfl, by simp; omega, GOwn.snoc ho2, HN, below_grown hbl hB HM.out hg2⟩
          case measure => simp [intOf]; omega
      | false =>
        have hM0 : M.length ≤ k := hM
        rcases Classical.em (s.data.toList < y) with hs | hs
        · have he : ¬ y = s.data.toList := fun e => tl_irrefl y (by rw [e] at hs; exact absurd hs (tl_irrefl _))
          have b1 : Op.bytesLess s.toList y = true := less_t hs
          have e1 : (y == s.toList) = false := same_f he
          have HN : Hid (putT s.data.toList l = (M ++ [s.data.toList] ++ [y]) ++ restT s.data.toList true (l.drop (k + 1))) := by show _ = _; rw [HR1.out, restT_lt hs]; simp
          have hN2 : (M ++ [s.data.toList]).length + 1 ≤ 1099511627776 := by simp; omega
          clear he hs
          go_upto_region 9 with (at_builtin; (first | refine wpList_append_newD slStrN rfl _ _ rfl w.heap.size _ _ (drawn_alloc_drewN _ _ _) 1 _ _ _ HM.out rfl rfl rfl rfl hN (by decide) hB ?_ | refine wpList_append_newD slStrN rfl _ _ rfl w.heap.size _ _ (drawn_drew _) 1 _ _ _ HM.out rfl rfl rfl rfl hN (by decide) hB ?_ | refine wpList_append_newD slStrN rfl _ _ rfl w.heap.size _ _ (drawn_drewN _ _) 1 _ _ _ HM.out rfl rfl rfl rfl hN (by decide) hB ?_ | refine wpList_append_newD slStrN rfl _ _ rfl w.heap.size _ _ (drawn_refl _) 1 _ _ _ HM.out rfl rfl rfl rfl hN (by decide) hB ?_); intro v2 w2 ho2 hg2)
          have HM2 : Hid (GOwn encT 1 9 w2 w.heap.size v2 (M ++ [s.data.toList])) := GOwn.snoc ho2
          have hb2 := below_grown hbl hB HM.out hg2
          have y2 := HYa.out w2 hb2
          have hB2 := hb2.size
          clear ho2 hg2 y0
          go_wp2_with (at_builtin; (first | refine wpList_append_newD slStrN rfl _ _ rfl w.heap.size _ _ (drawn_alloc_drewN _ _ _) 1 _ _ _ HM2.out rfl rfl rfl rfl hN2 (by decide) hB2 ?_ | refine wpList_append_newD slStrN rfl _ _ rfl w.heap.size _ _ (drawn_drew _) 1 _ _ _ HM2.out rfl rfl rfl rfl hN2 (by decide) hB2 ?_ | refine wpList_append_newD slStrN rfl _ _ rfl w.heap.size _ _ (drawn_drewN _ _) 1 _ _ _ HM2.out rfl rfl rfl rfl hN2 (by decide) hB2 ?_ | refine wpList_append_newD slStrN rfl _ _ rfl w.heap.size _ _ (drawn_refl _) 1 _ _ _ HM2.out rfl rfl rfl rfl hN2 (by decide) hB2 ?_); intro v3 w3 ho3 hg3)
          go_roundw
          case rel => exact ⟨k + 1, M ++ [s.data.toList] ++ [y], true, hlt, by go_num, rfl, by simp; omega, GOwn.snoc ho3, HN, below_grown hb2 hB2 HM2.out hg3⟩
          case measure => simp [intOf]; omega
        · have b1 : Op.bytesLess s.toList y = false := less_f hs
          rcases Classical.em (y = s.data.toList) with he | he
          · have e1 : (y == s.toList) = true := same_t he
            have e2 : (s.toList == y) = true := same_t' he
            have HN : Hid (putT s.data.toList l = (M ++ [s.data.toList]) ++ restT s.data.toList true (l.drop (k + 1))) := by show _ = _; rw [HR1.out, restT_eq he]; simp
            clear he hs
            go_upto_region 9 with (at_builtin; (first | refine wpList_append_newD slStrN rfl _ _ rfl w.heap.size _ _ (drawn_alloc_drewN _ _ _) 1 _ _ _ HM.out rfl rfl rfl rfl hN (by decide) hB ?_ | refine wpList_append_newD slStrN rfl _ _ rfl w.heap.size _ _ (drawn_drew _) 1 _ _ _ HM.out rfl rfl rfl rfl hN (by decide) hB ?_ | refine wpList_append_newD slStrN rfl _ _ rfl w.heap.size _ _ (drawn_drewN _ _) 1 _ _ _ HM.out rfl rfl rfl rfl hN (by decide) hB ?_ | refine wpList_append_newD slStrN rfl _ _ rfl w.heap.size _ _ (drawn_refl _) 1 _ _ _ HM.out rfl rfl rfl rfl hN (by decide) hB ?_); intro v2 w2 ho2 hg2)
            have HM2 : Hid (GOwn encT 1 9 w2 w.heap.size v2 (M ++ [s.data.toList])) := GOwn.snoc ho2
            have hb2 := below_grown hbl hB HM.out hg2
            have y2 := HYa.out w2 hb2
            clear ho2 hg2 y0
            go_wp2_with fail
            go_roundw
            case rel => exact ⟨k + 1, M ++ [s.data.toList], true, hlt, by go_num, rfl, by simp; omega, HM2, HN, hb2⟩
            case measure => simp [intOf]; omega
          · have e1 : (y == s.toList) = false := same_f he
            have e2 : (s.toList == y) = false := same_f' he
            have HN : Hid (putT s.data.toList l = (M ++ [y]) ++ restT s.data.toList false (l.drop (k + 1))) := by show _ = _; rw [HR1.out, restT_gt hs he]; simp
            clear he hs
            go_wp2_with (at_builtin; (first | refine wpList_append_newD slStrN rfl _ _ rfl w.heap.size _ _ (drawn_alloc_drewN _ _ _) 1 _ _ _ HM.out rfl rfl rfl rfl hN (by decide) hB ?_ | refine wpList_append_newD slStrN rfl _ _ rfl w.heap.size _ _ (drawn_drew _) 1 _ _ _ HM.out rfl rfl rfl rfl hN (by decide) hB ?_ | refine wpList_append_newD slStrN rfl _ _ rfl w.heap.size _ _ (drawn_drewN _ _) 1 _ _ _ HM.out rfl rfl rfl rfl hN (by decide) hB ?_ | refine wpList_append_newD slStrN rfl _ _ rfl w.heap.size _ _ (drawn_refl _) 1 _ _ _ HM.out rfl rfl rfl rfl hN (by decide) hB ?_); intro v2 w2 ho2 hg2)
            go_roundw
            case rel => exact ⟨k + 1, M ++ [y], false, hlt, by go_num, rfl, by simp; omega, GOwn.snoc ho2, HN, below_grown hbl hB HM.out hg2⟩
            case measure => simp [intOf]; omega
    · have hke : k = l.length := by omega
      subst hke
      rw [List.drop_length] at HR
      cases t with
      | true =>
        have HE : Hid (putT s.data.toList l = M) := by show _ = _; rw [HR.out, restT_end]; simp
        go_wp2_with fail
        go_ret
        exact ⟨_, rfl, (by rw [HE.out]; exact HM.out), hbl⟩
      | false =>
        have HE : Hid (putT s.data.toList l = M ++ [s.data.toList]) := by show _ = _; rw [HR.out, restT_nil]
        go_wp2_with (at_builtin; (first | refine wpList_append_newD slStrN rfl _ _ rfl w.heap.size _ _ (drawn_alloc_drewN _ _ _) 1 _ _ _ HM.out rfl rfl rfl rfl hN (by decide) hB ?_ | refine wpList_append_newD slStrN rfl _ _ rfl w.heap.size _ _ (drawn_drew _) 1 _ _ _ HM.out rfl rfl rfl rfl hN (by decide) hB ?_ | refine wpList_append_newD slStrN rfl _ _ rfl w.heap.size _ _ (drawn_drewN _ _) 1 _ _ _ HM.out rfl rfl rfl rfl hN (by decide) hB ?_ | refine wpList_append_newD slStrN rfl _ _ rfl w.heap.size _ _ (drawn_refl _) 1 _ _ _ HM.out rfl rfl rfl rfl hN (by decide) hB ?_); intro v2 w2 ho2 hg2)
        go_ret
        exact ⟨_, rfl, (by rw [HE.out]; exact GOwn.snoc ho2), below_grown hbl hB HM.out hg2⟩

/-! ### alive -/
def aliveTo (L : List PatchM) (k : Nat) : List VidM := ((filesM L).take k).filter fun f => !deadAt L f
theorem aliveTo_yes {L : List PatchM} {k : Nat} {u : VidM} (h : (filesM L)[k]? = some u) (hd : deadAt L u = false) : aliveTo L (k + 1) = aliveTo L k ++ [u] := by unfold aliveTo; rw [take_succ' h, List.filter_append]; simp [hd]
theorem aliveTo_no {L : List PatchM} {k : Nat} {u : VidM} (h : (filesM L)[k]? = some u) (hd : deadAt L u = true) : aliveTo L (k + 1) = aliveTo L k := by unfold aliveTo; rw [take_succ' h, List.filter_append]; simp [hd]
theorem aliveTo_len (L : List PatchM) (k : Nat) : (aliveTo L k).length ≤ (filesM L).length := Nat.le_trans (List.length_filter_le _ _) (by rw [List.length_take]; omega)
def AvRel (w2 : World) (L : List PatchM) (v3 v5 : Value) (wr : World) : Prop := ∃ k : Nat, k ≤ (filesM L).length ∧ v5 = .int .i64 k ∧ Hid (GOwn encVid 3 27 wr w2.heap.size v3 (aliveTo L k)) ∧ Below w2.heap.size w2 wr
theorem deadAt_eq {L : List PatchM} {f : VidM} {x : Option VertM} {y : VertM} (h1 : vertM L f = x) (h2 : optV x = y) : deadAt L f = y.dead := by unfold deadAt; rw [h1]; unfold optV at h2; rw [h2]
attribute [local irreducible] idsM vertM optV filesM aliveTo deadAt
set_option maxHeartbeats 16000000 in
set_option maxRecDepth 100000 in
theorem ralive24_any (gv : Value) (xs : List LaidP) (w : World) (hv : Pats w gv xs) (hn : xs.length ≤ 300) (hl : ∀ x ∈ xs, x.p.ops.length ≤ 260) (hil : (idsM (patsOf xs)).length ≤ 100000) (hvl : (vertsM (patsOf xs)).length ≤ 100000) :
    Calls Tryz.prog 35 #[rgV gv] w (SetRes encVid 3 w (aliveTo (patsOf xs) (filesM (patsOf xs)).length)) := by
  have HL := Lib.hid hl
  have HL4 : Hid (∀ x ∈ xs, x.p.ops.length ≤ 40000) := Lib.hid fun x hx => Nat.le_trans (hl x hx) (by omega)
  have HFl := Lib.hid (flTo_all (patsOf xs))
  have hfl := filesM_len (patsOf xs)
  have HV := Lib.hid hv
  obtain ⟨a, cap, rfl, h1, h2, hc⟩ := hv.1.at encPat_len
  unfold maxLen at h2
  have HC := Lib.hid hc
  have HG := Lib.hid (arr_new w #[.slice a xs.length cap] 33)
  have HB := Lib.hid (below_new (w := w) (.cells #[.slice a xs.length cap] 33))
  clear hv hc hl
  unfold rgV
  go_enter Tryz.func35, Tryz.ntmps35
  go_upto_region 1 with (fail)
  generalize hw0 : (w.alloc (.cells #[.slice a xs.length cap] 33)) = w0 at *
  clear hw0
  have g0 := HG.out.cell (j := 0) rfl
  have sg := HG.out.lt
  have HV0 := Lib.hid (HV.out.over HB.out)
  go_upto_region 3 with (first | (go_at_call 8; (with_reducible refine (rfiles20_any _ xs _ (HV0.out.over (Below.refl _ _)) hn HL.out hil hvl).mono ?_); rintro e w2 ⟨u2, rfl, hu2, hb2⟩))
  rw [HFl.out] at hu2
  obtain ⟨a3, cap3, rfl, t1, t2, hc3⟩ := hu2.at encVid_len
  unfold maxLen at t2
  have HC3 := Lib.hid hc3
  have HG2 := Lib.hid (HG.out.over hb2)
  have HB2 := Lib.hid (below_over HB.out HB.out.size hb2)
  have HV2 := Lib.hid (HV.out.over HB2.out)
  clear hu2 hc3 hb2 g0 sg
  go_wp2_with fail
  go_loopw [3, 5] (fun v3 v5 wr => AvRel w2 (patsOf xs) v3 v5 wr) (fun _ v5 _ => (filesM (patsOf xs)).length - (intOf v5).toNat)
  case atStart => exact ⟨0, by omega, rfl, (by show GOwn _ _ _ _ _ _ _; unfold aliveTo; simp only [List.take_zero, List.filter_nil]; exact gown_nil _ _), Below.refl _ _⟩
  case round =>
    obtain ⟨k, hk, rfl, HM, hbl⟩ := hrel
    rename World => wr
    have hvl := aliveTo_len (patsOf xs) k
    by_cases hlt : k < (filesM (patsOf xs)).length
    · obtain ⟨b3, off3, rfl, sb3, hcb⟩ := HC3.out.resolve_left (by omega)
      obtain ⟨u, hu⟩ := get_of_lt hlt
      have HX0 := Lib.hid hu
      have HUa := Lib.hid (hcb k u hu)
      have HU := Lib.hid (hcb k u hu wr hbl)
      have u0 : wr.cell? ⟨b3, off3 + k * 3, none⟩ = some (.int .u8 (u.pid.author.toNat : Int)) := (HU.out).2 0 _ rfl
      have u1 : wr.cell? ⟨b3, off3 + k * 3 + 1, none⟩ = some (.int .u16 (u.pid.seq.toNat : Int)) := (HU.out).2 1 _ rfl
      have u2 : wr.cell? ⟨b3, off3 + k * 3 + 2, none⟩ = some (.int .u8 (u.n.toNat : Int)) := (HU.out).2 2 _ rfl
      have su := HU.out.1
      have HGr := Lib.hid (HG2.out.over hbl)
      have HVr := Lib.hid (HV2.out.over hbl)
      have g0 := HGr.out.cell (j := 0) rfl
      have sg := HGr.out.lt
      generalize hx : vertM (patsOf xs) u = x at *
      have HX := Lib.hid hx
      generalize hy : optV x = y at *
      have HY := Lib.hid hy
      have HDe := Lib.hid (deadAt_eq hx hy)
      clear hy hx hcb hu
      go_upto_region 6 with (fail)
      have HS : Hid (∀ w' : World, Below wr.heap.size wr w' → (w'.cell? ⟨w.heap.size, 0, none⟩ = some (.slice a xs.length cap) ∧ w'.cell? ⟨b3, off3 + k * 3, none⟩ = some (.int .u8 (u.pid.author.toNat : Int)) ∧ w'.cell? ⟨b3, off3 + k * 3 + 1, none⟩ = some (.int .u16 (u.pid.seq.toNat : Int)) ∧ w'.cell? ⟨b3, off3 + k * 3 + 2, none⟩ = some (.int .u8 (u.n.toNat : Int)) ∧ Below wr.heap.size wr w')) := fun w' hb => ⟨(hb.cell (p := ⟨w.heap.size, 0, none⟩) sg).trans g0, (hb.cell (p := ⟨b3, off3 + k * 3, none⟩) su).trans u0, (hb.cell (p := ⟨b3, off3 + k * 3 + 1, none⟩) su).trans u1, (hb.cell (p := ⟨b3, off3 + k * 3 + 2, none⟩) su).trans u2, hb⟩
      go_cut [6] (fun s6 wx => ∃ g2, s6 = .pointer (some ⟨g2, 0, none⟩) ∧ Hid (Arr wx g2 [.int .u8 (y.id.pid.author.toNat : Int), .int .u16 (y.id.pid.seq.toNat : Int), .int .u8 (y.id.n.toNat : Int), .int .u8 (y.kind.toNat : Int), .int .u8 (y.file.pid.author.toNat : Int), .int .u16 (y.file.pid.seq.toNat : Int), .int .u8 (y.file.n.toNat : Int), .string y.text, .bool y.dead]) ∧ Hid (Below wr.heap.size wr wx) ∧ wr.heap.size ≤ g2)
      case first =>
        go_region_held3 (fun w' => w'.cell? ⟨w.heap.size, 0, none⟩ = some (.slice a xs.length cap) ∧ w'.cell? ⟨b3, off3 + k * 3, none⟩ = some (.int .u8 (u.pid.author.toNat : Int)) ∧ w'.cell? ⟨b3, off3 + k * 3 + 1, none⟩ = some (.int .u16 (u.pid.seq.toNat : Int)) ∧ w'.cell? ⟨b3, off3 + k * 3 + 2, none⟩ = some (.int .u8 (u.n.toNat : Int)) ∧ Below wr.heap.size wr w') ((refine HS.out _ ?_; (with_reducible (first | exact (Below.refl _ _).drew | exact HBk.out | exact HBk.out.alloc HBk.out.size _ | exact ((Below.refl wr.heap.size wr).alloc (Nat.le_refl _) _).drew | exact (((((((((HBk.out.setCell (p := ⟨wr.heap.size, 0, none⟩) (Nat.le_refl _) (.int .u8 (y.id.pid.author.toNat : Int))).setCell (p := ⟨wr.heap.size, 1, none⟩) (Nat.le_refl _) (.int .u16 (y.id.pid.seq.toNat : Int))).setCell (p := ⟨wr.heap.size, 2, none⟩) (Nat.le_refl _) (.int .u8 (y.id.n.toNat : Int))).setCell (p := ⟨wr.heap.size, 3, none⟩) (Nat.le_refl _) (.int .u8 (y.kind.toNat : Int))).setCell (p := ⟨wr.heap.size, 4, none⟩) (Nat.le_refl _) (.int .u8 (y.file.pid.author.toNat : Int))).setCell (p := ⟨wr.heap.size, 5, none⟩) (Nat.le_refl _) (.int .u16 (y.file.pid.seq.toNat : Int))).setCell (p := ⟨wr.heap.size, 6, none⟩) (Nat.le_refl _) (.int .u8 (y.file.n.toNat : Int))).setCell (p := ⟨wr.heap.size, 7, none⟩) (Nat.le_refl _) (.string y.text)).setCell (p := ⟨wr.heap.size, 8, none⟩) (Nat.le_refl _) (.bool y.dead))))))
          (first | (go_at_call 47; refine (rvert20_any _ xs u _ (HVr.out.over (by first | exact (Below.refl _ _).drew | exact ((Below.refl wr.heap.size wr).alloc (Nat.le_refl _) _).drew)) HL4.out).mono ?_; rintro e w7 ⟨rfl, hb⟩; rw [HX.out, HY.out]; have HBk : Hid (Below wr.heap.size wr w7) := (by show Below wr.heap.size wr w7; with_reducible (first | exact below_over (Below.refl wr.heap.size wr).drew (Nat.le_refl _) hb | exact below_over (((Below.refl wr.heap.size wr).alloc (Nat.le_refl _) _).drew) (Below.size (((Below.refl wr.heap.size wr).alloc (Nat.le_refl _) _).drew)) hb)); have HBb := Lib.hid hb; obtain ⟨hcc, hff⟩ := bcell hb; clear hb))
        · rename_i J K hJ hK hHeld
          clear hHeld
          refine hK _ _ (Met.intro (hJ _ _ ?_))
          (repeat apply Exists.intro)
          refine ⟨?_, rfl⟩
          exact ⟨_, rfl, Lib.hid (arr_new _ _ _), Lib.hid (HBk.out.alloc HBk.out.size _), HBk.out.size⟩
        · rename_i J K hJ hK hHeld
          clear hHeld
          refine hK _ _ (Met.intro (hJ _ _ ?_))
          (repeat apply Exists.intro)
          refine ⟨?_, rfl⟩
          have HZ : Hid (Arr w7 wr.heap.size [.int .u8 0, .int .u16 0, .int .u8 0, .int .u8 0, .int .u8 0, .int .u16 0, .int .u8 0, .string ⟨#[]⟩, .bool false]) := (((arr_new wr #[.int .u8 0, .int .u16 0, .int .u8 0, .int .u8 0, .int .u8 0, .int .u16 0, .int .u8 0, .string ⟨#[]⟩, .bool false] 68).drew).over HBb.out)
          exact ⟨_, rfl, Lib.hid (((((((((HZ.out.set 0 (.int .u8 (y.id.pid.author.toNat : Int))).set 1 (.int .u16 (y.id.pid.seq.toNat : Int))).set 2 (.int .u8 (y.id.n.toNat : Int))).set 3 (.int .u8 (y.kind.toNat : Int))).set 4 (.int .u8 (y.file.pid.author.toNat : Int))).set 5 (.int .u16 (y.file.pid.seq.toNat : Int))).set 6 (.int .u8 (y.file.n.toNat : Int))).set 7 (.string y.text)).set 8 (.bool y.dead)), Lib.hid (((((((((HBk.out.setCell (p := ⟨wr.heap.size, 0, none⟩) (Nat.le_refl _) (.int .u8 (y.id.pid.author.toNat : Int))).setCell (p := ⟨wr.heap.size, 1, none⟩) (Nat.le_refl _) (.int .u16 (y.id.pid.seq.toNat : Int))).setCell (p := ⟨wr.heap.size, 2, none⟩) (Nat.le_refl _) (.int .u8 (y.id.n.toNat : Int))).setCell (p := ⟨wr.heap.size, 3, none⟩) (Nat.le_refl _) (.int .u8 (y.kind.toNat : Int))).setCell (p := ⟨wr.heap.size, 4, none⟩) (Nat.le_refl _) (.int .u8 (y.file.pid.author.toNat : Int))).setCell (p := ⟨wr.heap.size, 5, none⟩) (Nat.le_refl _) (.int .u16 (y.file.pid.seq.toNat : Int))).setCell (p := ⟨wr.heap.size, 6, none⟩) (Nat.le_refl _) (.int .u8 (y.file.n.toNat : Int))).setCell (p := ⟨wr.heap.size, 7, none⟩) (Nat.le_refl _) (.string y.text)).setCell (p := ⟨wr.heap.size, 8, none⟩) (Nat.le_refl _) (.bool y.dead)), Nat.le_refl _⟩
      case rest =>
        obtain ⟨g2, rfl, HA2, HBx, hg2⟩ := hcut
        rename World => w8
        have HM8 := Lib.hid (HM.out.over HBx.out)
        have hb8 := below_over hbl hbl.size HBx.out
        have hB8 := hb8.size
        have hN8 : (aliveTo (patsOf xs) k).length + 1 ≤ 1099511627776 := by omega
        clear u0 u1 u2 su g0 sg HS HM HGr
        have HU8 := Lib.hid (HUa.out w8 hb8)
        have z0 : w8.cell? ⟨b3, off3 + k * 3, none⟩ = some (.int .u8 (u.pid.author.toNat : Int)) := (HU8.out).2 0 _ rfl
        have z1 : w8.cell? ⟨b3, off3 + k * 3 + 1, none⟩ = some (.int .u16 (u.pid.seq.toNat : Int)) := (HU8.out).2 1 _ rfl
        have z2 : w8.cell? ⟨b3, off3 + k * 3 + 2, none⟩ = some (.int .u8 (u.n.toNat : Int)) := (HU8.out).2 2 _ rfl
        have sz := HU8.out.1
        have y0 := HA2.out.cell (j := 0) rfl
        have y1 := HA2.out.cell (j := 1) rfl
        have y2 := HA2.out.cell (j := 2) rfl
        have y3 := HA2.out.cell (j := 3) rfl
        have y4 := HA2.out.cell (j := 4) rfl
        have y5 := HA2.out.cell (j := 5) rfl
        have y6 := HA2.out.cell (j := 6) rfl
        have y7 := HA2.out.cell (j := 7) rfl
        have y8 := HA2.out.cell (j := 8) rfl
        have sy := HA2.out.lt
        cases hd : y.dead with
        | true =>
          have HN := Lib.hid (aliveTo_no HX0.out (HDe.out.trans hd))
          rw [hd] at y8
          clear hd
          go_wp2_with fail
          go_roundw
          case rel => exact ⟨k + 1, hlt, by go_num, (by show GOwn _ _ _ _ _ _ _; rw [HN.out]; exact HM8.out), hb8⟩
          case measure => simp [intOf]; omega
        | false =>
          have HN := Lib.hid (aliveTo_yes HX0.out (HDe.out.trans hd))
          rw [hd] at y8
          clear hd
          go_wp2_with (at_builtin; (first | refine wpList_append_newD slVid rfl _ _ rfl w2.heap.size _ _ (drawn_alloc_drewN _ _ _) 1 _ _ _ HM8.out rfl rfl rfl rfl hN8 (by decide) hB8 ?_ | refine wpList_append_newD slVid rfl _ _ rfl w2.heap.size _ _ (drawn_drew _) 1 _ _ _ HM8.out rfl rfl rfl rfl hN8 (by decide) hB8 ?_ | refine wpList_append_newD slVid rfl _ _ rfl w2.heap.size _ _ (drawn_drewN _ _) 1 _ _ _ HM8.out rfl rfl rfl rfl hN8 (by decide) hB8 ?_ | refine wpList_append_newD slVid rfl _ _ rfl w2.heap.size _ _ (drawn_refl _) 1 _ _ _ HM8.out rfl rfl rfl rfl hN8 (by decide) hB8 ?_); intro v9 w9 ho9 hg9)
          go_roundw
          case rel => exact ⟨k + 1, hlt, by go_num, (by show GOwn _ _ _ _ _ _ _; rw [HN.out]; exact GOwn.snoc ho9), below_grown hb8 hB8 HM8.out hg9⟩
          case measure => simp [intOf]; omega
    · obtain rfl : k = (filesM (patsOf xs)).length := by omega
      have HE2 := Lib.hid HM.out.row
      clear HM
      go_wp2_with fail
      go_ret
      exact ⟨_, rfl, HE2.out, below_over HB2.out HB2.out.size hbl⟩
end Go.Proofs.YtfciedmmgddgpaaGreatDoor
