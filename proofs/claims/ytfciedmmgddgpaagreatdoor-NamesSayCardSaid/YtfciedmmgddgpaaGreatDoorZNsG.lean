/- NamesUnlike. NamesSay. -/
import Derived.Test.YtfciedmmgddgpaaGreatDoorZNmH
import Derived.Test.YtfciedmmgddgpaaGreatDoorZOps
import Derived.Test.YtfciedmmgddgpaaGreatDoorZNsE
import Derived.Test.YtfciedmmgddgpaaGreatDoorZNmG
namespace Go.Proofs.YtfciedmmgddgpaaGreatDoor
open Go Go.RowKit

def UnRel (w4 : World) (n : Nat) (v : Value) (wr : World) : Prop := ∃ k : Nat, k ≤ n ∧ v = .int .i64 (k : Int) ∧ Below w4.heap.size w4 wr
theorem idsOf_len (L : List PatchM) (h : ∀ p ∈ L, p.ops.length ≤ 200) : (idsOf L).length ≤ 200 * L.length := by
  induction L with
  | nil => simp [idsOf]
  | cons p L ih =>
    have h1 := ih fun q hq => h q (List.mem_cons_of_mem _ hq)
    have h2 := h p (List.mem_cons_self ..)
    unfold idsOf at h1 ⊢
    rw [List.flatMap_cons, List.length_append]
    refine Nat.le_trans (Nat.add_le_add (List.length_filterMap_le _ _) h1) ?_
    rw [List.length_range, List.length_cons]
    omega
theorem setS_len {α : Type} {key : α → Nat} (l : List α) : (setS key l).length ≤ l.length := by
  have : ∀ (l out : List α), (l.foldl (fun out x => putS key x out) out).length ≤ out.length + l.length := by
    intro l
    induction l with
    | nil => intro out; simp
    | cons x l ih =>
      intro out
      have h1 := ih (putS key x out)
      have h2 := putS_len (key := key) x out
      rw [List.foldl_cons, List.length_cons]; omega
  have := this l []
  simpa [setS] using this
theorem idsM_le {L : List PatchM} (hw : WfG L) : (idsM L).length ≤ 200 * L.length := Nat.le_trans (setS_len _) (idsOf_len L (wf_len hw))
theorem build_len (l : List PatchM) : (buildM l).length ≤ l.length := by
  have : ∀ (l L : List PatchM), (l.foldl applyM L).length ≤ L.length + l.length := by
    intro l
    induction l with
    | nil => intro L; simp
    | cons p l ih =>
      intro L
      have h1 := ih (applyM L p)
      have h2 : (applyM L p).length ≤ L.length + 1 := by unfold applyM; split <;> simp
      rw [List.foldl_cons, List.length_cons]; omega
  have := this l []
  simpa [buildM] using this
attribute [local irreducible] idsM filesM namesM vertsM fewL
end Go.Proofs.YtfciedmmgddgpaaGreatDoor
namespace Go.Proofs.YtfciedmmgddgpaaGreatDoor
open Go Go.RowKit

theorem fewL_deps {m : Nat} {l : List PatchM} (h : fewL m l = true) {p : PatchM} (hp : p ∈ l) : p.deps.length ≤ 100 := by
  unfold fewL at h
  simp only [Bool.and_eq_true, List.all_eq_true] at h
  have h1 := (h.2 p hp).1
  unfold fewP at h1
  simp only [Bool.and_eq_true, decide_eq_true_eq] at h1
  exact h1.1
def SyRel (w : World) (n : Nat) (v8 : Value) (wr : World) : Prop := ∃ k : Nat, k ≤ n ∧ v8 = .int .i64 (k : Int) ∧ Below w.heap.size w wr
def SyCut (w4 : World) (ls : List VidM) (s7 : Value) (wx : World) : Prop := ∃ b l c, s7 = .slice b l c ∧ Hid (GRow encVid 3 wx (.slice b l c) ls) ∧ Hid (Below w4.heap.size w4 wx)
attribute [local irreducible] idsM filesM namesM vertsM fewL modX allM
set_option maxHeartbeats 40000000 in
set_option maxRecDepth 100000 in
theorem say_any (v : Value) (ps : List LaidP) (vv : VidM) (w : World) (hv : Pats w v ps) (hz : ∀ x ∈ ps, ∀ o ∈ x.p.ops, o.text.size ≤ maxLen) (ht : Tab w) :
    Calls Tryz.prog 3 #[v, vidV vv] w fun e w' => e = .returned (.bool true) ∧ Below w.heap.size w w' := by
  have HVb := Lib.hid (arr_new w #[.int .u8 (vv.pid.author.toNat : Int), .int .u16 (vv.pid.seq.toNat : Int), .int .u8 (vv.n.toNat : Int)] 27)
  have HB := Lib.hid (below_new (w := w) (.cells #[.int .u8 (vv.pid.author.toNat : Int), .int .u16 (vv.pid.seq.toNat : Int), .int .u8 (vv.n.toNat : Int)] 27))
  have hfew := Lib.hid (few20_any v ps 14 (by omega) (w.alloc (.cells #[.int .u8 (vv.pid.author.toNat : Int), .int .u16 (vv.pid.seq.toNat : Int), .int .u8 (vv.n.toNat : Int)] 27)) (hv.over HB.out) hz)
  have HV := Lib.hid hv
  have HT := Lib.hid ht
  unfold vidV
  cases hf : fewL 14 (ps.map (·.p)) with
  | false =>
    rw [hf] at hfew
    clear hv hz ht hf
    go_enter Tryz.func3, Tryz.ntmps3
    go_upto_region 1 with (fail)
    generalize hw0 : w.alloc (.cells #[.int .u8 (vv.pid.author.toNat : Int), .int .u16 (vv.pid.seq.toNat : Int), .int .u8 (vv.n.toNat : Int)] 27) = w0 at *
    clear hw0
    go_wp2_with fail
    refine hfew.out.mono ?_
    rintro e w1 ⟨rfl, hb1⟩
    have HB1 := Lib.hid (below_over HB.out HB.out.size hb1)
    clear hb1 hfew
    unfold b01
    go_wp2_with fail
    refine (works24_any _ (HT.out.over HB1.out)).mono ?_
    rintro e w2 ⟨rfl, hb2⟩
    have HB2 := Lib.hid (below_over HB1.out HB1.out.size hb2)
    clear hb2
    go_wp2_with fail
    go_ret
    exact ⟨rfl, HB2.out⟩
  | true =>
    rw [hf] at hfew
    have HF := Lib.hid hf
    have HZ := Lib.hid hz
    have hpl : ps.length ≤ 14 := by have := fewL_len hf; simpa using this
    clear hv hz ht hf
    go_enter Tryz.func3, Tryz.ntmps3
    go_upto_region 1 with (fail)
    generalize hw0 : w.alloc (.cells #[.int .u8 (vv.pid.author.toNat : Int), .int .u16 (vv.pid.seq.toNat : Int), .int .u8 (vv.n.toNat : Int)] 27) = w0 at *
    clear hw0
    go_wp2_with fail
    refine hfew.out.mono ?_
    rintro e w1 ⟨rfl, hb1⟩
    have HB1 := Lib.hid (below_over HB.out HB.out.size hb1)
    have HVb1 := Lib.hid (HVb.out.over hb1)
    clear hb1 hfew
    unfold b01
    go_wp2_with fail
    refine (build_any v ps 14 (by omega) _ (HV.out.over HB1.out) HF.out).mono ?_
    rintro e w2 ⟨b, bv, be, n, hn, rfl, hgr⟩
    have hwf := wf_build (ps.map (·.p))
    have hil := idsM_le hwf
    have hbl := build_len (ps.map (·.p))
    rw [List.length_map] at hbl
    have HMP : Hid (patsOf (modX ps) = buildM (ps.map (·.p))) := Lib.hid (modX_pats ps)
    generalize buildM (ps.map (·.p)) = LL at *
    obtain ⟨_, _, _, hG, hb2⟩ := hgr
    have hil2 : (idsM LL).length ≤ 100000 := by omega
    have HGI : Hid (GrIs w2 b LL) := Lib.hid ⟨bv, be, n, hG⟩
    have HW := Lib.hid hwf
    have HB2 := Lib.hid (below_over HB1.out HB1.out.size hb2)
    have HVb2 := Lib.hid (HVb1.out.over hb2)
    clear hG hb2 hn hwf hil hbl
    go_wp2_with fail
    refine (rmodel_any v ps _ (HV.out.over HB2.out) (by omega) (fun y hy => Nat.le_trans (fewL_ops HF.out (List.mem_map.2 ⟨y, hy, rfl⟩)).1 (by omega)) (fun y hy => Nat.le_trans (fewL_deps HF.out (List.mem_map.2 ⟨y, hy, rfl⟩)) (by omega)) HZ.out).mono ?_
    rintro e w3 ⟨mv, rfl, hpm, hb3⟩
    obtain ⟨a6, c6, hmv, h61, h62, h63⟩ := hpm.1.at encPat_len
    unfold maxLen at h62
    have hml : (modX ps).length ≤ 300 := by
      unfold modX
      have h3 := modX_len ps []
      rw [List.length_nil] at h3; omega
    obtain ⟨n6, hn6⟩ : ∃ n, (modX ps).length = n := ⟨_, rfl⟩
    rw [hn6] at hmv h61
    subst hmv
    have HPM := Lib.hid hpm
    have HML := Lib.hid hml
    have HB3 := Lib.hid (below_over HB2.out HB2.out.size hb3)
    have HVb3 := Lib.hid (HVb2.out.over hb3)
    have HGI3 := Lib.hid (HGI.out.over hb3)
    clear hpm hb3 h63 hn6 hml
    go_upto_region 4 with (fail)
    have HX4 := Lib.hid (arr_new w3 #[.slice a6 n6 c6] 33)
    have HVb4 := Lib.hid (HVb3.out.alloc (.cells #[.slice a6 n6 c6] 33))
    have HB34 := Lib.hid (below_new (w := w3) (.cells #[.slice a6 n6 c6] 33))
    have HB4 := Lib.hid (HB3.out.alloc HB3.out.size (.cells #[.slice a6 n6 c6] 33))
    generalize hw4 : w3.alloc (.cells #[.slice a6 n6 c6] 33) = w4 at *
    clear hw4
    have HGI4 := Lib.hid (HGI3.out.over HB34.out)
    have HPM4 := Lib.hid (HPM.out.over HB34.out)
    have HT4 := Lib.hid (HT.out.over HB4.out)
    have HWX : Hid (WfG (patsOf (modX ps))) := Lib.hid (by rw [HMP.out]; exact HW.out)
    have HOL : Hid (∀ x ∈ modX ps, x.p.ops.length ≤ 200) := Lib.hid fun x hx => wf_len HWX.out x.p (List.mem_map.2 ⟨x, hx, rfl⟩)
    have HIX : Hid ((idsM (patsOf (modX ps))).length ≤ 100000) := Lib.hid (by rw [HMP.out]; exact hil2)
    obtain ⟨FL, hFL⟩ : ∃ FL, filesM LL = FL := ⟨_, rfl⟩
    have HFl : Hid (∀ W, Below w4.heap.size w4 W → Calls Tryz.prog 8 #[.agg #[.slice a6 n6 c6]] W (OwnRes encVid 3 27 W FL)) := Lib.hid fun W hb => by
      have := rfiles20_own _ (modX ps) W (HPM4.out.over hb) HML.out (fun x hx => Nat.le_trans (HOL.out x hx) (by omega)) HIX.out (by unfold vertsM; rw [List.length_map]; exact HIX.out)
      rw [flTo_all, HMP.out, hFL] at this
      exact this
    have hfl : FL.length ≤ 100000 := by rw [← hFL]; exact Nat.le_trans (filesM_len _) hil2
    clear hFL
    have hN2 : FL.length + 1 ≤ 1099511627776 := by omega
    have HOneV : Hid (∀ u ∈ ([.int .u8 (vv.pid.author.toNat : Int), .int .u16 (vv.pid.seq.toNat : Int), .int .u8 (vv.n.toNat : Int)] : List Value), u.oneCell' = true) := Lib.hid (by intro u hu; simp only [List.mem_cons, List.not_mem_nil, or_false] at hu; rcases hu with rfl | rfl | rfl <;> rfl)
    have x0 := HX4.out.cell (j := 0) rfl
    have sx := HX4.out.lt
    have v0 := HVb4.out.cell (j := 0) rfl
    have v1 := HVb4.out.cell (j := 1) rfl
    have v2 := HVb4.out.cell (j := 2) rfl
    have sv := HVb4.out.lt
    have HKS : Hid (∀ w' : World, Below w4.heap.size w4 w' → (Below w4.heap.size w4 w' ∧ w'.cell? ⟨w3.heap.size, 0, none⟩ = some (.slice a6 n6 c6) ∧ w'.cell? ⟨w.heap.size, 0, none⟩ = some (.int .u8 (vv.pid.author.toNat : Int)) ∧ w'.cell? ⟨w.heap.size, 1, none⟩ = some (.int .u16 (vv.pid.seq.toNat : Int)) ∧ w'.cell? ⟨w.heap.size, 2, none⟩ = some (.int .u8 (vv.n.toNat : Int)))) := Lib.hid fun w' hb => ⟨hb, (hb.cell (p := ⟨w3.heap.size, 0, none⟩) sx).trans x0, (hb.cell (p := ⟨w.heap.size, 0, none⟩) sv).trans v0, (hb.cell (p := ⟨w.heap.size, 1, none⟩) sv).trans v1, (hb.cell (p := ⟨w.heap.size, 2, none⟩) sv).trans v2⟩
    go_cut [7] (fun s7 wx => SyCut w4 (FL ++ [vv]) s7 wx)
    case first =>
      go_region_held3 (fun w' => Below w4.heap.size w4 w' ∧ w'.cell? ⟨w3.heap.size, 0, none⟩ = some (.slice a6 n6 c6) ∧ w'.cell? ⟨w.heap.size, 0, none⟩ = some (.int .u8 (vv.pid.author.toNat : Int)) ∧ w'.cell? ⟨w.heap.size, 1, none⟩ = some (.int .u16 (vv.pid.seq.toNat : Int)) ∧ w'.cell? ⟨w.heap.size, 2, none⟩ = some (.int .u8 (vv.n.toNat : Int))) (first | (rename_i hH _ _; refine HKS.out _ ?_; (with_reducible (first | exact HB6c.out | exact HBk.out | exact HBk.out.alloc HBk.out.size _ | exact ((Below.refl w4.heap.size w4).alloc (Nat.le_refl _) _).drew | exact Below.alloc hH.1 hH.1.size _))) | (refine HKS.out _ ?_; exact (Below.refl _ _).drew))
        (first | (go_at_call 8; refine (HFl.out _ (by (with_reducible first | exact (Below.refl _ _).drew | exact ((Below.refl w4.heap.size w4).alloc (Nat.le_refl _) _).drew))).mono ?_; rintro e w5 ⟨v5, rfl, ho5, hb5⟩; have HBk : Hid (Below w4.heap.size w4 w5) := Lib.hid (by first | exact below_over (Below.refl w4.heap.size w4).drew (Nat.le_refl _) hb5 | exact below_over ((Below.refl w4.heap.size w4).alloc (Nat.le_refl _) _).drew (Below.size (((Below.refl w4.heap.size w4).alloc (Nat.le_refl _) _).drew)) hb5); have HO5 : Hid (GOwn encVid 3 27 w5 w4.heap.size v5 FL) := Lib.hid (ho5.base (by first | exact Nat.le_refl _ | exact Below.size (((Below.refl w4.heap.size w4).alloc (Nat.le_refl _) _).drew))); have HBb := Lib.hid hb5; clear hb5 ho5) | (rename_i hH _ _; rw [if_pos (by rfl)]; refine wp_append_rowAt slVid _ _ rfl w4.heap.size v5 FL.length (FL.flatMap encVid) (by first | exact HO5.out | exact World.ownsRow.alloc HO5.out _) rfl (.slice (some ⟨w4.heap.size, 0, none⟩) 1 1) 1 [.int .u8 (vv.pid.author.toNat : Int), .int .u16 (vv.pid.seq.toNat : Int), .int .u8 (vv.n.toNat : Int)] (by (first | exact row_arr (((arr_new w4 _ _).drew).over HBb.out) rfl | exact row_arr (arr_new w5 _ _) rfl)) rfl HOneV.out hN2 (by decide) hH.1.size ?_; intro v6 w6 ho6 hg6 hv6; have HB6c := Lib.hid (below_grown hH.1 hH.1.size (show World.ownsRow _ w4.heap.size 27 3 v5 FL.length (FL.flatMap encVid) from (by first | exact HO5.out | exact World.ownsRow.alloc HO5.out _)) hg6); obtain ⟨b6, l6, c7, rfl⟩ := own_slice ho6; have HR6 := Lib.hid (GOwn.row (GOwn.snoc (enc := encVid) (x := vv) ho6)); clear ho6 hg6 hv6) | (rename_i hH _ _; rw [if_pos (by rfl)]; refine wp_append_rowAt slVid _ _ rfl w4.heap.size v5 FL.length (FL.flatMap encVid) (by first | exact HO5.out | exact World.ownsRow.alloc HO5.out _) rfl (.slice (some ⟨w5.heap.size, 0, none⟩) 1 1) 1 [.int .u8 (vv.pid.author.toNat : Int), .int .u16 (vv.pid.seq.toNat : Int), .int .u8 (vv.n.toNat : Int)] (by (first | exact row_arr (((arr_new w4 _ _).drew).over HBb.out) rfl | exact row_arr (arr_new w5 _ _) rfl)) rfl HOneV.out hN2 (by decide) hH.1.size ?_; intro v6 w6 ho6 hg6 hv6; have HB6c := Lib.hid (below_grown hH.1 hH.1.size (show World.ownsRow _ w4.heap.size 27 3 v5 FL.length (FL.flatMap encVid) from (by first | exact HO5.out | exact World.ownsRow.alloc HO5.out _)) hg6); obtain ⟨b6, l6, c7, rfl⟩ := own_slice ho6; have HR6 := Lib.hid (GOwn.row (GOwn.snoc (enc := encVid) (x := vv) ho6)); clear ho6 hg6 hv6))
      all_goals ((first | (rename_i J K hJ hK h1; refine hK _ _ (Met.intro (hJ _ _ ?_))) | (rename_i J K hJ hK h1 h2; refine hK _ _ (Met.intro (hJ _ _ ?_))) | (rename_i J K hJ hK h1 h2 h3; refine hK _ _ (Met.intro (hJ _ _ ?_)))); (repeat apply Exists.intro); refine ⟨?_, rfl⟩; unfold SyCut; exact ⟨_, _, _, rfl, HR6, HB6c⟩)
    case rest =>
      obtain ⟨b7, l7, c7, rfl, HR7, HB47⟩ := hcut
      rename World => w7
      obtain ⟨a7', c7', he7, h71, h72, hc7⟩ := HR7.out.at encVid_len
      obtain ⟨he7a, he7b, he7c⟩ := Value.slice.inj he7
      subst he7a
      subst he7c
      rw [← he7b] at h71 hc7
      unfold maxLen at h72
      have HL7 : Hid (l7 = (FL ++ [vv]).length) := Lib.hid he7b
      have HC7 := Lib.hid hc7
      have HB7 := Lib.hid (below_over HB4.out HB4.out.size HB47.out)
      have HX7 := Lib.hid (HX4.out.over HB47.out)
      have HVb7 := Lib.hid (HVb4.out.over HB47.out)
      have HGI7 := Lib.hid (HGI4.out.over HB47.out)
      have HPM7 := Lib.hid (HPM4.out.over HB47.out)
      have HT7 := Lib.hid (HT4.out.over HB47.out)
      clear he7 he7b hc7 x0 sx v0 v1 v2 sv HKS HR7
      have HPO : Hid (∀ (f : VidM) (W : World), Below w7.heap.size w7 W → Calls Tryz.prog 10 #[.pointer (some ⟨b, 0, none⟩), .agg #[.int .u8 (f.pid.author.toNat : Int), .int .u16 (f.pid.seq.toNat : Int), .int .u8 (f.n.toNat : Int)]] W (OwnRes encVert 9 68 W (namesM LL f))) := Lib.hid fun f W hb => nof_any b LL f W (HGI7.out.over hb) HW.out (by omega)
      have HRO : Hid (∀ (f : VidM) (W : World), Below w7.heap.size w7 W → Calls Tryz.prog 11 #[.agg #[.slice a6 n6 c6], .agg #[.int .u8 (f.pid.author.toNat : Int), .int .u16 (f.pid.seq.toNat : Int), .int .u8 (f.n.toNat : Int)]] W (SetRes encVert 9 W (namesM LL f))) := Lib.hid fun f W hb => by
        have := rnof_any _ (modX ps) f W (HPM7.out.over hb) HML.out HOL.out HIX.out
        rw [HMP.out] at this
        exact this
      go_wp2_with fail
      go_loopw [8] (fun v8 wr => SyRel w7 l7 v8 wr) (fun v8 _ => l7 - (intOf v8).toNat)
      case atStart => exact ⟨0, Nat.zero_le _, rfl, Below.refl _ _⟩
      case round =>
        obtain ⟨k, hk, rfl, hbl⟩ := hrel
        rename World => wr
        have HXr := Lib.hid (HX7.out.over hbl)
        have HVr := Lib.hid (HVb7.out.over hbl)
        have HBl := Lib.hid hbl
        by_cases hlt : k < l7
        · obtain ⟨bf, of, rfl, sf, hcf⟩ := HC7.out.resolve_left (by omega)
          obtain ⟨f, hff⟩ := get_of_lt (xs := FL ++ [vv]) (i := k) (by have := HL7.out; omega)
          have x0 := HXr.out.cell (j := 0) rfl
          have sx := HXr.out.lt
          have f0 : wr.cell? ⟨bf, of + k * 3, none⟩ = some (.int .u8 (f.pid.author.toNat : Int)) := (hcf k f hff wr hbl).2 0 _ rfl
          have f1 : wr.cell? ⟨bf, of + k * 3 + 1, none⟩ = some (.int .u16 (f.pid.seq.toNat : Int)) := (hcf k f hff wr hbl).2 1 _ rfl
          have f2 : wr.cell? ⟨bf, of + k * 3 + 2, none⟩ = some (.int .u8 (f.n.toNat : Int)) := (hcf k f hff wr hbl).2 2 _ rfl
          have sf2 := (hcf k f hff wr hbl).1
          have HPO1 : Hid (∀ W, Below wr.heap.size wr W → Calls Tryz.prog 10 #[.pointer (some ⟨b, 0, none⟩), .agg #[.int .u8 (f.pid.author.toNat : Int), .int .u16 (f.pid.seq.toNat : Int), .int .u8 (f.n.toNat : Int)]] W (OwnRes encVert 9 68 W (namesM LL f))) := Lib.hid fun W hb => HPO.out f W (below_over HBl.out HBl.out.size hb)
          have HRO1 : Hid (∀ W, Below wr.heap.size wr W → Calls Tryz.prog 11 #[.agg #[.slice a6 n6 c6], .agg #[.int .u8 (f.pid.author.toNat : Int), .int .u16 (f.pid.seq.toNat : Int), .int .u8 (f.n.toNat : Int)]] W (SetRes encVert 9 W (namesM LL f))) := Lib.hid fun W hb => HRO.out f W (below_over HBl.out HBl.out.size hb)
          clear hcf hff hbl
          go_upto_region 8 with (fail)
          have hcur : Below wr.heap.size wr wr.drew := (Below.refl _ _).drew
          refine wp_region_lex (C := IsOver wr) 14 [] (by kernel_rfl) (by kernel_rfl) (isOver_of (by repeat (first | exact Below.refl _ _ | apply Below.drew | apply below_drewN | (refine Below.alloc ?_ (by simp) _)))) ?_
          simp only [List.take_succ_cons, List.take_zero, List.drop_succ_cons, List.drop_zero]
          repeat (first | (refine lex_skip rfl rfl ?_; simp only [Act.put, List.setIfInBounds_toArray, List.set_cons_succ, List.set_cons_zero]) | (refine lex_one rfl ?_; go_big_quiet_step (fail); refine wpQuiet_nil ?_) | (refine lex_loud rfl ?_; go_wp2_with (first | (go_at_call 10; (with_reducible refine (HPO1.out _ hcur).mono ?_); rintro e wA ⟨vA, rfl, hoA, hb⟩; have HRA := Lib.hid hoA.row; replace hcur := below_over hcur hcur.size hb; clear hb) | (go_at_call 11; (with_reducible refine (HRO1.out _ hcur).mono ?_); rintro e wB ⟨vB, rfl, hrB, hb⟩; have HRA2 := Lib.hid (HRA.out.over hb); have HRB := Lib.hid hrB; replace hcur := below_over hcur hcur.size hb; clear hb) | (go_at_call 9; (with_reducible refine (rsameVert_any _ _ _ _ HRA2.out HRB.out).mono ?_); rintro e wC ⟨rfl, hb⟩; replace hcur := below_over hcur hcur.size hb; clear hb)); refine ⟨isOver_of hcur, ?_⟩))
          refine lex_end ?_
          go_wp2_with fail
          go_roundw
          case rel => exact ⟨k + 1, hlt, by go_num, below_over HBl.out HBl.out.size hcur⟩
          case measure => simp [intOf]; omega
        · obtain rfl : k = l7 := by omega
          have HGIr := Lib.hid (HGI7.out.over HBl.out)
          have HPMr := Lib.hid (HPM7.out.over HBl.out)
          have HTr := Lib.hid (HT7.out.over HBl.out)
          have x0 := HXr.out.cell (j := 0) rfl
          have sx := HXr.out.lt
          have v0 := HVr.out.cell (j := 0) rfl
          have v1 := HVr.out.cell (j := 1) rfl
          have v2 := HVr.out.cell (j := 2) rfl
          have sv := HVr.out.lt
          have HNA1 : Hid (∀ W, Below wr.heap.size wr W → Calls Tryz.prog 13 #[.pointer (some ⟨b, 0, none⟩)] W (AllRes W (allM LL))) := Lib.hid fun W hb => nall_any b LL W (HGIr.out.over hb) HW.out (by omega) (HTr.out.over hb)
          have HRA1 : Hid (∀ W, Below wr.heap.size wr W → Calls Tryz.prog 14 #[.agg #[.slice a6 n6 c6]] W (RAllRes W (allM LL))) := Lib.hid fun W hb => by
            have := rall24_any _ (modX ps) W (HPMr.out.over hb) HML.out HWX.out HIX.out
            rw [HMP.out] at this
            exact this
          have HWk : Hid (∀ W, Below wr.heap.size wr W → Calls Tryz.prog 5 #[] W fun e w' => e = .returned (.bool true) ∧ Below W.heap.size W w') := Lib.hid fun W hb => works24_any W (HTr.out.over hb)
          clear hbl hlt hk
          go_upto_region 10 with (fail)
          have hcur : Below wr.heap.size wr wr.drew := (Below.refl _ _).drew
          refine wp_region_lex (C := IsOver wr) 18 [] (by kernel_rfl) (by kernel_rfl) (isOver_of (by repeat (first | exact Below.refl _ _ | apply Below.drew | apply below_drewN | (refine Below.alloc ?_ (by simp) _)))) ?_
          simp only [List.take_succ_cons, List.take_zero, List.drop_succ_cons, List.drop_zero]
          repeat (first | (refine lex_skip rfl rfl ?_; simp only [Act.put, List.setIfInBounds_toArray, List.set_cons_succ, List.set_cons_zero]) | (refine lex_one rfl ?_; go_big_quiet_step (fail); refine wpQuiet_nil ?_) | (refine lex_loud rfl ?_; go_wp2_with (first | (go_at_call 13; (with_reducible refine (HNA1.out _ hcur).mono ?_); rintro e wA ⟨vA, rfl, hoA, hb⟩; have HAA := Lib.hid hoA; replace hcur := below_over hcur hcur.size hb; clear hb) | (go_at_call 14; (with_reducible refine (HRA1.out _ hcur).mono ?_); rintro e wB ⟨vB, rfl, hrB, hb⟩; have HAA2 := Lib.hid (HAA.out.over hb); have HAB := Lib.hid hrB; replace hcur := below_over hcur hcur.size hb; clear hb) | (go_at_call 12; (with_reducible refine (rsameNames_any _ _ _ _ HAA2.out HAB.out).mono ?_); rintro e wC ⟨rfl, hb⟩; replace hcur := below_over hcur hcur.size hb; clear hb) | (go_at_call 13; (with_reducible refine (nall_nil _).mono ?_); rintro e wD ⟨rfl, hb⟩; replace hcur := below_over hcur hcur.size hb; clear hb) | (go_at_call 10; (with_reducible refine (nof_nil vv _).mono ?_); rintro e wE ⟨⟨pE, cE, rfl⟩, hb⟩; replace hcur := below_over hcur hcur.size hb; clear hb) | (go_at_call 5; (with_reducible refine (HWk.out _ hcur).mono ?_); rintro e wF ⟨rfl, hb⟩; replace hcur := below_over hcur hcur.size hb; clear hb)); refine ⟨isOver_of hcur, ?_⟩))
          refine lex_end ?_
          go_wp2_with fail
          go_ret
          exact ⟨rfl, below_over (below_over HB7.out HB7.out.size HBl.out) (by have := HB7.out.size; have := HBl.out.size; omega) hcur⟩
end Go.Proofs.YtfciedmmgddgpaaGreatDoor
