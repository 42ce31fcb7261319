/- How much a few patches make. What the laws of layer 23 share. ShowWhole. -/
import Derived.Test.YtllcipobiengiaaGreatZR27
import Derived.Test.YtllcipobiengiaaGreatZRefR
import Derived.Test.YtllcipobiengiaaGreatZWhlQ
namespace Go.Proofs.YtllcipobiengiaaGreat
open Go Go.RowKit

theorem modX_in {xs : List LaidP} {y : LaidP} (h : y ∈ modX xs) : y ∈ xs := (modX_mem xs [] y h).resolve_left (by simp)
theorem modX_few {xs : List LaidP} : (modX xs).length ≤ xs.length := by
  unfold modX
  have h3 := modX_len xs []
  rw [List.length_nil] at h3; omega
theorem fewMod {m : Nat} {xs : List LaidP} (h : fewL m (xs.map (·.p)) = true) : (patsOf (modX xs)).length ≤ m ∧ ∀ p ∈ patsOf (modX xs), p.ops.length ≤ 60 := by
  have h1 := fewL_len h
  rw [List.length_map] at h1
  have h2 := modX_few (xs := xs)
  refine ⟨by show ((modX xs).map (·.p)).length ≤ m; rw [List.length_map]; omega, fun p hp => ?_⟩
  obtain ⟨y, hy, rfl⟩ := List.mem_map.1 hp
  exact (fewL_ops h (List.mem_map.2 ⟨y, modX_in hy, rfl⟩)).1
theorem few_ids {m : Nat} {xs : List LaidP} (h : fewL m (xs.map (·.p)) = true) : (idsM (patsOf (modX xs))).length ≤ 60 * m := by
  obtain ⟨h1, h2⟩ := fewMod h
  have := idsOf_few _ 60 h2
  have h3 : (idsM (patsOf (modX xs))).length ≤ (idsOf (patsOf (modX xs))).length := setS_few _
  have := Nat.mul_le_mul_left 60 h1
  omega
theorem few_edges {m : Nat} {xs : List LaidP} (h : fewL m (xs.map (·.p)) = true) : (edgesM (patsOf (modX xs))).length ≤ 60 * m := by
  obtain ⟨h1, h2⟩ := fewMod h
  have := edgesOf_few _ 60 h2
  have h3 : (edgesM (patsOf (modX xs))).length ≤ (edgesOf (patsOf (modX xs))).length := setS_few _
  have := Nat.mul_le_mul_left 60 h1
  omega
theorem few_lines {m : Nat} {xs : List LaidP} (h : fewL m (xs.map (·.p)) = true) (f : VidM) : (linesM (patsOf (modX xs)) f).length ≤ 60 * m :=
  Nat.le_trans (ofM_len _ f 3) (few_ids h)
theorem filesM_few (L : List PatchM) : (filesM L).length ≤ (idsM L).length := by
  unfold filesM; rw [List.length_map]; exact Nat.le_trans (List.length_filter_le _ _) (by unfold vertsM; rw [List.length_map]; exact Nat.le_refl _)
end Go.Proofs.YtllcipobiengiaaGreat
namespace Go.Proofs.YtllcipobiengiaaGreat
open Go Go.RowKit

def SsRel (w : World) (n : Nat) (v8 : Value) (wr : World) : Prop := ∃ k : Nat, k ≤ n ∧ v8 = .int .i64 (k : Int) ∧ Below w.heap.size w wr
/-- texts of one's own, and a number -/
def LnX (w : World) (ts : List ByteArray) (o : Nat) (e : Ending) (w' : World) : Prop := ∃ v, e = .returned (.tuple #[v, .int .i64 (o : Int)]) ∧ GOwn encS1 1 9 w' w.heap.size v ts ∧ Below w.heap.size w w'
theorem sameS_self (a : List ByteArray) : sameS a a = true := by unfold sameS; exact decide_eq_true rfl
end Go.Proofs.YtllcipobiengiaaGreat
namespace Go.Proofs.YtllcipobiengiaaGreat
open Go Go.RowKit

theorem alTx_len (l : List VertM) (R : List (Nat × Nat)) : (alTx l R).length ≤ l.length := by unfold alTx; rw [List.length_map]; exact aliveX_len l R
attribute [local irreducible] idsM filesM linesM relM vertsM edgesM fewL modX lnSeen lnOdd aliveX alTx cntM textsTo
set_option maxHeartbeats 40000000 in
set_option maxRecDepth 100000 in
theorem whl_any (v : Value) (ps : List LaidP) (w : World) (hv : Pats w v ps) (hz : ∀ x ∈ ps, ∀ o ∈ x.p.ops, o.text.size ≤ maxLen)
    (hwk : ∀ W, Calls Tryz.prog 29 #[] W fun e w' => e = .returned (.bool true) ∧ Below W.heap.size W w') :
    Calls Tryz.prog 8 #[v] w fun e w' => e = .returned (.bool true) ∧ Below w.heap.size w w' := by
  have hfew := Lib.hid (few20_any v ps 14 (by omega) w hv hz)
  have HV := Lib.hid hv
  have HWk := Lib.hid hwk
  clear hwk
  cases hf : fewL 14 (ps.map (·.p)) with
  | false =>
    rw [hf] at hfew
    clear hv hz hf
    go_enter Tryz.func8, Tryz.ntmps8
    go_wp2_with fail
    refine hfew.out.mono ?_
    rintro e w1 ⟨rfl, hb1⟩
    have HB1 := Lib.hid hb1
    clear hb1 hfew
    unfold b01
    go_wp2_with fail
    refine (HWk.out _).mono ?_
    rintro e w2 ⟨rfl, hb2⟩
    have HB2 := Lib.hid (below_over HB1.out HB1.out.size hb2)
    clear hb2
    go_wp2_with fail
    go_ret
    exact ⟨rfl, HB2.out⟩
  | true =>
    rw [hf] at hfew
    have HF := Lib.hid hf
    have hpl : ps.length ≤ 14 := by have := fewL_len hf; simpa using this
    clear hv hz hf
    go_enter Tryz.func8, Tryz.ntmps8
    go_wp2_with fail
    refine hfew.out.mono ?_
    rintro e w2 ⟨rfl, hb1⟩
    have HB2 := Lib.hid hb1
    clear hb1 hfew
    unfold b01
    go_wp2_with fail
    refine (build_any v ps 14 (by omega) _ (HV.out.over HB2.out) HF.out).mono ?_
    rintro e w3 ⟨b, bv, be, n, hn, rfl, hgr⟩
    have hwf := wf_build (ps.map (·.p))
    have HMP : Hid (patsOf (modX ps) = buildM (ps.map (·.p))) := Lib.hid (modX_pats ps)
    have HI1 := Lib.hid (few_ids HF.out)
    have HE1 := Lib.hid (few_edges HF.out)
    have HL1 := Lib.hid (few_lines HF.out)
    rw [HMP.out] at HI1 HE1 HL1
    generalize buildM (ps.map (·.p)) = LL at *
    obtain ⟨_, _, _, hG, hb3⟩ := hgr
    have HGI : Hid (GrIs w3 b LL) := Lib.hid ⟨bv, be, n, hG⟩
    have HW := Lib.hid hwf
    have HOL : Hid (∀ p ∈ LL, p.ops.length ≤ 200) := Lib.hid fun p hp => wf_len hwf p hp
    have HB3 := Lib.hid (below_over HB2.out HB2.out.size hb3)
    have hfl : (filesM LL).length ≤ 840 := Nat.le_trans (filesM_few _) HI1.out
    obtain ⟨FL, hFL⟩ : ∃ FL, filesM LL = FL := ⟨_, rfl⟩
    have HFl := Lib.hid (gfiles_any b LL w3 HGI.out HW.out (by have := HI1.out; omega))
    rw [hFL] at HFl hfl
    clear hG hb3 hn hwf hFL
    go_wp2_with fail
    refine HFl.out.mono ?_
    rintro e w7 ⟨v7, rfl, ho7, hb7⟩
    obtain ⟨a7', c7', he7, h71, h72, hc7⟩ := ho7.row.at encVid_len
    subst he7
    unfold maxLen at h72
    have HC7 := Lib.hid hc7
    have HB7 := Lib.hid (below_over HB3.out HB3.out.size hb7)
    have HGI7 := Lib.hid (HGI.out.over hb7)
    obtain ⟨l7, hl7⟩ : ∃ k, FL.length = k := ⟨_, rfl⟩
    rw [hl7] at h71 hfl
    rw [hl7] at HC7
    rw [hl7]
    have HL7 := Lib.hid hl7
    clear ho7 hb7 hc7 hl7
    have HLO : Hid (∀ (f : VidM) (W : World), Below w7.heap.size w7 W → Calls Tryz.prog 17 #[.pointer (some ⟨b, 0, none⟩), .agg #[.int .u8 (f.pid.author.toNat : Int), .int .u16 (f.pid.seq.toNat : Int), .int .u8 (f.n.toNat : Int)]] W (LofRes W (linesM LL f) (relM LL f))) := Lib.hid fun f W hb => lof_any b LL f W (HGI7.out.over hb) HW.out (by have := HI1.out; omega) (by have := HE1.out; omega)
    go_wp2_with fail
    go_loopw [5] (fun v8 wr => SsRel w7 l7 v8 wr) (fun v8 _ => l7 - (intOf v8).toNat)
    case atStart => exact ⟨0, Nat.zero_le _, rfl, Below.refl _ _⟩
    case round =>
      obtain ⟨k, hk, rfl, hbl⟩ := hrel
      rename World => wr
      have HBl := Lib.hid hbl
      by_cases hlt : k < l7
      · obtain ⟨bf, of, rfl, sf, hcf⟩ := HC7.out.resolve_left (by omega)
        obtain ⟨f, hff⟩ := get_of_lt (xs := FL) (i := k) (by have := HL7.out; omega)
        have f0 : wr.cell? ⟨bf, of + k * 3, none⟩ = some (.int .u8 (f.pid.author.toNat : Int)) := (hcf k f hff wr hbl).2 0 _ rfl
        have f1 : wr.cell? ⟨bf, of + k * 3 + 1, none⟩ = some (.int .u16 (f.pid.seq.toNat : Int)) := (hcf k f hff wr hbl).2 1 _ rfl
        have f2 : wr.cell? ⟨bf, of + k * 3 + 2, none⟩ = some (.int .u8 (f.n.toNat : Int)) := (hcf k f hff wr hbl).2 2 _ rfl
        have sf2 := (hcf k f hff wr hbl).1
        have HLO1 : Hid (∀ W, Below wr.heap.size wr W → Calls Tryz.prog 17 #[.pointer (some ⟨b, 0, none⟩), .agg #[.int .u8 (f.pid.author.toNat : Int), .int .u16 (f.pid.seq.toNat : Int), .int .u8 (f.n.toNat : Int)]] W (LofRes W (linesM LL f) (relM LL f))) := Lib.hid fun W hb => HLO.out f W (below_over HBl.out HBl.out.size hb)
        have hll : (linesM LL f).length ≤ 1000 := by have := HL1.out f; omega
        have HBa := Lib.hid (wl_lines_bare HW.out HOL.out f)
        generalize linesM LL f = l at HLO1 hll HBa
        generalize relM LL f = R at HLO1
        have HMk := Lib.hid (whole_marks (R := R) HBa.out)
        have HCt : Hid (∀ t ∈ alTx l R, cntM (lnSeen l R) t = cntM (alTx l R) t) := Lib.hid fun t ht => whole_count HBa.out ht
        have HCm : Hid (lnOdd l R = 0 → lnSeen l R = alTx l R) := Lib.hid whole_calm
        have HFw := Lib.hid (ln_few l R)
        have HAw := Lib.hid (alTx_len l R)
        have HSL1 : Hid (∀ (s : Nat) (W : World), ShAt W s l R → Calls Tryz.prog 28 #[.pointer (some ⟨s, 0, none⟩)] W (LnX W (lnSeen l R) (lnOdd l R))) := Lib.hid fun s W h1 => slines_any s _ _ W h1 (by omega)
        obtain ⟨TS, hTS⟩ : ∃ t, lnSeen l R = t := ⟨_, rfl⟩
        obtain ⟨OD, hOD⟩ : ∃ t, lnOdd l R = t := ⟨_, rfl⟩
        obtain ⟨AL, hAL⟩ : ∃ t, alTx l R = t := ⟨_, rfl⟩
        rw [hTS, hOD] at HSL1
        rw [hTS, hAL] at HCt
        rw [hTS, hOD, hAL] at HCm
        rw [hTS, hOD] at HFw
        rw [hAL] at HAw
        rw [hTS, hOD, hAL] at HMk
        have HAL := Lib.hid hAL
        clear hcf hff hbl hTS hOD hAL
        go_wp2_with fail
        refine (HLO1.out _ (Below.refl _ _)).mono ?_
        rintro e wA ⟨sA, rfl, hsz, hsh, hbA⟩
        have HSA := Lib.hid hsh
        have HBA := Lib.hid (below_over HBl.out HBl.out.size hbA)
        clear hsh hbA hsz
        go_wp2_with fail
        refine (HSL1.out _ _ HSA.out).mono ?_
        rintro e wB ⟨vB, rfl, hoB, hbB⟩
        obtain ⟨pB, cB, eB, hB1, hB2, _⟩ := hoB.row.at encS1_len
        subst eB
        unfold maxLen at hB2
        have HBB := Lib.hid (below_over HBA.out HBA.out.size hbB)
        have HSB := Lib.hid (HSA.out.over hbB)
        have HOB := Lib.hid hoB.row
        clear hoB hbB f0 f1 f2 sf2
        go_wp2_with fail
        refine (salive_any sA l R _ HSB.out (by omega)).mono ?_
        rw [sares_is]
        rintro e wC ⟨vC, rfl, hoC, hbC⟩
        obtain ⟨aC, cC, rfl, hC1, hC2, hcC⟩ := irow_at hoC.row
        unfold maxLen at hC2
        have HBC := Lib.hid (below_over HBB.out HBB.out.size hbC)
        have HSC := Lib.hid (HSB.out.over hbC)
        have HOC := Lib.hid (HOB.out.over hbC)
        have HCC := Lib.hid hcC
        have HIA : Hid (∀ i ∈ aliveX l R, i < l.length) := Lib.hid fun i hi => aliveX_lt hi
        have HLA : Hid ((aliveX l R).length ≤ 1000) := Lib.hid (Nat.le_trans (aliveX_len l R) hll)
        have HTX : Hid ((aliveX l R).map (textAt l) = AL) := Lib.hid (by rw [← HAL.out]; unfold alTx; rfl)
        obtain ⟨IS, hIS⟩ : ∃ t, aliveX l R = t := ⟨_, rfl⟩
        rw [hIS] at hC1 HCC HIA HLA HTX
        rw [hIS]
        have hisl := HLA.out
        clear hoC hbC hcC hIS
        go_wp2_with fail
        go_loopw [9, 11] (fun v9 v11 wq => TxRel wC l IS v9 v11 wq) (fun _ v11 _ => IS.length - (intOf v11).toNat)
        case atStart => exact ⟨0, by omega, rfl, Lib.hid (by rw [textsTo_zero]; exact gown_nil _ _), Below.refl _ _⟩
        case round =>
          obtain ⟨q, hq, rfl, HM, hbq⟩ := hrel
          rename World => wq
          by_cases hlq : q < IS.length
          · obtain ⟨b2, off2, rfl, sb2, hcb2⟩ := HCC.out.resolve_left (by omega)
            obtain ⟨i, hiu⟩ := get_of_lt hlq
            obtain ⟨sx, x0⟩ := hcb2 q i hiu _ hbq.out
            obtain ⟨x, hx⟩ := get_of_lt (HIA.out i (List.mem_of_getElem? hiu))
            have HX := Lib.hid hx
            have HSu := Lib.hid (textsTo_succ (l := l) hiu)
            rw [textAt_get hx] at HSu
            have hfl2 := textsTo_len l IS q
            have hN : (textsTo l IS q).length + 1 ≤ 1099511627776 := by omega
            clear hcb2 hiu hx
            go_wp2_with fail
            refine (svert_any sA i x l R _ (HSC.out.over hbq.out) HX.out).mono ?_
            rintro e w2 ⟨rfl, hb2⟩
            have HB2q := Lib.hid (below_over hbq.out hbq.out.size hb2)
            have HM2 := Lib.hid (HM.out.over hb2)
            clear hb2 x0 sx
            go_upto_region 16 with (fail)
            have HA3 := Lib.hid (arr_new w2 #[.int .u8 (x.id.pid.author.toNat : Int), .int .u16 (x.id.pid.seq.toNat : Int), .int .u8 (x.id.n.toNat : Int), .int .u8 (x.kind.toNat : Int), .int .u8 (x.file.pid.author.toNat : Int), .int .u16 (x.file.pid.seq.toNat : Int), .int .u8 (x.file.n.toNat : Int), .string x.text, .bool x.dead] 88)
            have HB3a := Lib.hid (below_new (w := w2) (.cells #[.int .u8 (x.id.pid.author.toNat : Int), .int .u16 (x.id.pid.seq.toNat : Int), .int .u8 (x.id.n.toNat : Int), .int .u8 (x.kind.toNat : Int), .int .u8 (x.file.pid.author.toNat : Int), .int .u16 (x.file.pid.seq.toNat : Int), .int .u8 (x.file.n.toNat : Int), .string x.text, .bool x.dead] 88))
            generalize hw3 : w2.alloc (.cells #[.int .u8 (x.id.pid.author.toNat : Int), .int .u16 (x.id.pid.seq.toNat : Int), .int .u8 (x.id.n.toNat : Int), .int .u8 (x.kind.toNat : Int), .int .u8 (x.file.pid.author.toNat : Int), .int .u16 (x.file.pid.seq.toNat : Int), .int .u8 (x.file.n.toNat : Int), .string x.text, .bool x.dead] 88) = w4 at *
            clear hw3
            have HB3q := Lib.hid (below_over HB2q.out HB2q.out.size HB3a.out)
            have HM3 := Lib.hid (HM2.out.over HB3a.out)
            have hB3 := HB3q.out.size
            have y0 := HA3.out.cell (j := 0) rfl
            have y1 := HA3.out.cell (j := 1) rfl
            have y2 := HA3.out.cell (j := 2) rfl
            have y3 := HA3.out.cell (j := 3) rfl
            have y4 := HA3.out.cell (j := 4) rfl
            have y5 := HA3.out.cell (j := 5) rfl
            have y6 := HA3.out.cell (j := 6) rfl
            have y7 := HA3.out.cell (j := 7) rfl
            have y8 := HA3.out.cell (j := 8) rfl
            have sy := HA3.out.lt
            go_wp2_with (at_builtin; (first | refine wpList_append_newD slStrE rfl _ _ rfl wC.heap.size _ _ (drawn_alloc_drewN _ _ _) 1 _ _ _ HM3.out rfl rfl rfl rfl hN (by decide) hB3 ?_ | refine wpList_append_newD slStrE rfl _ _ rfl wC.heap.size _ _ (drawn_drew _) 1 _ _ _ HM3.out rfl rfl rfl rfl hN (by decide) hB3 ?_ | refine wpList_append_newD slStrE rfl _ _ rfl wC.heap.size _ _ (drawn_drewN _ _) 1 _ _ _ HM3.out rfl rfl rfl rfl hN (by decide) hB3 ?_ | refine wpList_append_newD slStrE rfl _ _ rfl wC.heap.size _ _ (drawn_refl _) 1 _ _ _ HM3.out rfl rfl rfl rfl hN (by decide) hB3 ?_); intro v9 w9 ho9 hg9)
            go_roundw
            case rel => exact ⟨q + 1, hlq, by go_num, (by show GOwn _ _ _ _ _ _ _; rw [HSu.out]; exact GOwn.snoc ho9), below_grown HB3q.out hB3 HM3.out hg9⟩
            case measure => simp [intOf]; omega
          · obtain rfl : q = IS.length := by omega
            have HE := HM.out
            rw [textsTo_all, HTX.out] at HE
            obtain ⟨pE, cE, eE, hE1, hE2, _, hcE⟩ := (srow_of HE.row).form
            subst eE
            unfold maxLen at hE2
            have HCE := Lib.hid hcE
            have HRE := Lib.hid (srow_of HE.row)
            have HRS := Lib.hid (srow_of (HOC.out.over hbq.out))
            have HBq := Lib.hid (below_over HBC.out HBC.out.size hbq.out)
            have hALl : AL.length ≤ 1000 := by have := HAw.out; omega
            have hTSl : TS.length ≤ 4000 := by have := HFw.out.1; omega
            have hODl : OD ≤ 1000 := by have := HFw.out.2; omega
            clear HE hcE HM hbq
            go_wp2_with fail
            go_loopw [14] (fun v14 wz => ∃ z : Nat, z ≤ AL.length ∧ v14 = .int .i64 (z : Int) ∧ Below wq.heap.size wq wz) (fun v14 _ => AL.length - (intOf v14).toNat)
            case atStart => exact ⟨0, Nat.zero_le _, rfl, Below.refl _ _⟩
            case round =>
              obtain ⟨z, hz, rfl, hbz⟩ := hrel
              rename World => wz
              have HBz := Lib.hid hbz
              have HREz := Lib.hid (Row.over HRE.out hbz)
              have HRSz := Lib.hid (Row.over HRS.out hbz)
              by_cases hlz : z < AL.length
              · obtain ⟨b3, off3, rfl, sb3, hcb3⟩ := HCE.out.resolve_left (by omega)
                obtain ⟨t, ht⟩ := get_of_lt hlz
                have x0 := (hbz.cell (p := ⟨b3, off3 + z, none⟩) sb3).trans (hcb3 z t ht)
                have sx : b3 < wz.heap.size := Nat.lt_of_lt_of_le sb3 hbz.size
                have HK1 : Hid (∀ W, Below wz.heap.size wz W → Calls Tryz.prog 36 #[.slice pB TS.length cB, .string t] W fun e w' => e = .returned (.int .i64 (cntM AL t : Int)) ∧ Below W.heap.size W w') := Lib.hid fun W hW => by
                  refine (count_any _ TS t W (Row.over HRSz.out hW) (by omega)).mono ?_
                  rintro e w' ⟨rfl, rfl⟩
                  exact ⟨by rw [HCt.out t (List.mem_of_getElem? ht)], Below.refl _ _⟩
                have HK2 : Hid (∀ W, Below wz.heap.size wz W → Calls Tryz.prog 36 #[.slice (some ⟨b3, off3, none⟩) AL.length cE, .string t] W fun e w' => e = .returned (.int .i64 (cntM AL t : Int)) ∧ Below W.heap.size W w') := Lib.hid fun W hW => by
                  refine (count_any _ AL t W (Row.over HREz.out hW) (by omega)).mono ?_
                  rintro e w' ⟨rfl, rfl⟩
                  exact ⟨rfl, Below.refl _ _⟩
                generalize cntM AL t = ct at HK1 HK2
                clear hcb3 ht hbz
                go_upto_region 22 with (fail)
                have hcur : Below wz.heap.size wz wz.drew := (Below.refl _ _).drew
                refine wp_region_lex (C := IsOver wz) 13 [] (by kernel_rfl) (by kernel_rfl) (isOver_of (by repeat (first | exact Below.refl _ _ | apply Below.drew | apply below_drewN | (refine Below.alloc ?_ (by simp) _)))) ?_
                simp only [List.take_succ_cons, List.take_zero, List.drop_succ_cons, List.drop_zero]
                repeat (first | (refine lex_skip rfl rfl ?_; simp only [Act.put, List.setIfInBounds_toArray, List.set_cons_succ, List.set_cons_zero]) | (refine lex_one rfl ?_; go_big_quiet_step (fail); refine wpQuiet_nil ?_) | (refine lex_loud rfl ?_; go_wp2_with (first | (go_at_call 36; (with_reducible refine (HK1.out _ hcur).mono ?_); rintro e wF ⟨rfl, hb⟩; replace hcur := below_over hcur hcur.size hb; clear hb) | (go_at_call 36; (with_reducible refine (HK2.out _ hcur).mono ?_); rintro e wF ⟨rfl, hb⟩; replace hcur := below_over hcur hcur.size hb; clear hb)); refine ⟨isOver_of hcur, ?_⟩))
                refine lex_end ?_
                go_wp2_with fail
                go_roundw
                case rel => exact ⟨z + 1, hlz, by go_num, below_over HBz.out HBz.out.size hcur⟩
                case measure => simp [intOf]; omega
              · obtain rfl : z = AL.length := by omega
                have HBw := Lib.hid (below_over HBq.out HBq.out.size HBz.out)
                obtain ⟨cS, hcS⟩ : ∃ c, cntM TS markS = c := ⟨_, rfl⟩
                obtain ⟨cT, hcT⟩ : ∃ c, cntM TS markT = c := ⟨_, rfl⟩
                have hcSl : cS ≤ 4000 := by rw [← hcS]; exact Nat.le_trans (cnt_le _ _) hTSl
                have hcTl : cT ≤ 4000 := by rw [← hcT]; exact Nat.le_trans (cnt_le _ _) hTSl
                have hm3 := HMk.out.2.2
                rw [HMk.out.1, HMk.out.2.1, hcS, hcT] at hm3
                have HKn : Hid (∀ (s : ByteArray) (c : Nat) (W : World), W = wz → cntM TS s = c → Calls Tryz.prog 36 #[.slice pB TS.length cB, .string s] W fun e w' => e = .returned (.int .i64 (c : Int)) ∧ w' = wz) := Lib.hid fun s c W hW hc => by
                  subst hW
                  refine (count_any _ TS s W HRSz.out (by omega)).mono ?_
                  rintro e w' ⟨rfl, rfl⟩
                  exact ⟨by rw [hc], rfl⟩
                have HkA : Hid (cntM TS ⟨#[60, 60, 60, 60, 60, 60, 60]⟩ = OD) := Lib.hid HMk.out.1
                have HkE : Hid (cntM TS ⟨#[62, 62, 62, 62, 62, 62, 62]⟩ = OD) := Lib.hid HMk.out.2.1
                have HkS : Hid (cntM TS ⟨#[61, 61, 61, 61, 61, 61, 61]⟩ = cS) := Lib.hid hcS
                have HkT : Hid (cntM TS ⟨#[124, 124, 124, 124, 124, 124, 124]⟩ = cT) := Lib.hid hcT
                have HM3 := Lib.hid hm3
                clear hcS hcT hm3 hbz
                by_cases h0 : OD = 0
                · have HTA : Hid (TS = AL) := Lib.hid (HCm.out h0)
                  subst h0
                  have hT0 := HTA.out
                  subst hT0
                  obtain rfl : cS = 0 := by have := HM3.out; omega
                  obtain rfl : cT = 0 := by have := HM3.out; omega
                  go_wp2_with fail
                  refine (HKn.out _ _ _ rfl HkA.out).mono ?_
                  rintro e w2 ⟨rfl, hw⟩
                  obtain rfl := hw.symm
                  go_wp2_with fail
                  refine (HKn.out _ _ _ rfl HkE.out).mono ?_
                  rintro e w2 ⟨rfl, hw⟩
                  obtain rfl := hw.symm
                  go_wp2_with fail
                  refine (HKn.out _ _ _ rfl HkS.out).mono ?_
                  rintro e w2 ⟨rfl, hw⟩
                  obtain rfl := hw.symm
                  go_wp2_with fail
                  refine (HKn.out _ _ _ rfl HkT.out).mono ?_
                  rintro e w2 ⟨rfl, hw⟩
                  obtain rfl := hw.symm
                  go_wp2_with fail
                  refine (HKn.out _ _ _ rfl HkA.out).mono ?_
                  rintro e w2 ⟨rfl, hw⟩
                  obtain rfl := hw.symm
                  go_wp2_with fail
                  refine (HKn.out _ _ _ rfl HkE.out).mono ?_
                  rintro e w2 ⟨rfl, hw⟩
                  obtain rfl := hw.symm
                  go_wp2_with fail
                  refine (rtexts_any _ _ TS TS _ HRSz.out HREz.out).mono ?_
                  rw [sameS_self]
                  rintro e w5 ⟨rfl, hb5⟩
                  have HB5 := Lib.hid (below_over HBw.out HBw.out.size hb5)
                  clear hb5
                  go_wp2_with fail
                  go_roundw
                  case rel => exact ⟨k + 1, hlt, by go_num, HB5.out⟩
                  case measure => simp [intOf]; omega
                · have g0 : ((OD : Int) == 0) = false := by rw [beq_eq_false_iff_ne]; omega
                  go_wp2_with fail
                  refine (HKn.out _ _ _ rfl HkA.out).mono ?_
                  rintro e w2 ⟨rfl, hw⟩
                  obtain rfl := hw.symm
                  go_wp2_with fail
                  refine (HKn.out _ _ _ rfl HkE.out).mono ?_
                  rintro e w2 ⟨rfl, hw⟩
                  obtain rfl := hw.symm
                  go_wp2_with fail
                  refine (HKn.out _ _ _ rfl HkS.out).mono ?_
                  rintro e w2 ⟨rfl, hw⟩
                  obtain rfl := hw.symm
                  go_wp2_with fail
                  refine (HKn.out _ _ _ rfl HkT.out).mono ?_
                  rintro e w2 ⟨rfl, hw⟩
                  obtain rfl := hw.symm
                  go_wp2_with fail
                  refine (HKn.out _ _ _ rfl HkA.out).mono ?_
                  rintro e w2 ⟨rfl, hw⟩
                  obtain rfl := hw.symm
                  go_wp2_with fail
                  refine (HKn.out _ _ _ rfl HkE.out).mono ?_
                  rintro e w2 ⟨rfl, hw⟩
                  obtain rfl := hw.symm
                  have hm9 : (TS.length : Int) = (AL.length : Int) + ((OD : Int) + (OD : Int) + (cS : Int) + (cT : Int)) := by have := HM3.out; omega
                  go_wp2_with fail
                  go_roundw
                  case rel => exact ⟨k + 1, hlt, by go_num, HBw.out⟩
                  case measure => simp [intOf]; omega
      · obtain rfl : k = l7 := by omega
        go_wp2_with fail
        refine (HWk.out _).mono ?_
        rintro e w9 ⟨rfl, hb9⟩
        have HB9 := Lib.hid (below_over HBl.out HBl.out.size hb9)
        clear hb9
        go_wp2_with fail
        go_ret
        exact ⟨rfl, below_over HB7.out HB7.out.size HB9.out⟩
end Go.Proofs.YtllcipobiengiaaGreat
