/- Contract of bruitref50.Apply. -/
import Derived.Test.YtipbknkjledebaaDoorDiffM
namespace Go.Proofs.YtipbknkjledebaaDoor
open Go Go.RowKit

def SzE (es : List EditM) : Prop := ∀ e ∈ es, e.name.size ≤ maxLen ∧ e.text.size ≤ maxLen
def ApRel (w1 : World) (t : List FileM) (es : List EditM) (v iv : Value) (wr : World) : Prop :=
  ∃ (i : Nat) (t' : List FileM), i ≤ es.length ∧ iv = .int .i64 i ∧ Hid (TInv t') ∧ Hid (FRow wr v t') ∧ Hid (applyF t' (es.drop i) = applyF t es) ∧ Below w1.heap.size w1 wr
theorem applyE_bad {t : List FileM} {es : List EditM} (h : treeGood t = false) : applyE t es = ([], 4) := by unfold applyE; rw [h]; rfl
theorem applyE_good {t : List FileM} {es : List EditM} (h : treeGood t = true) : applyE t es = applyF t es := by unfold applyE; rw [h]; rfl
theorem applyF_go {t : List FileM} {e : EditM} {r : List EditM} (h : (oneE t e).2 = 0) : applyF t (e :: r) = applyF (oneE t e).1 r := by rw [applyF, if_pos h]
theorem applyF_stop {t : List FileM} {e : EditM} {r : List EditM} (h : ¬ (oneE t e).2 = 0) : applyF t (e :: r) = ([], (oneE t e).2) := by rw [applyF, if_neg h]

set_option maxHeartbeats 10000000 in
set_option maxRecDepth 100000 in
theorem rapply_any (v ve : Value) (t : List FileM) (es : List EditM) (w : World) (hv : FRow w v t) (he : ERow w ve es) (hz : SzT t) (hze : SzE es) (hl : es.length ≤ 100000) :
    Calls Tryd.prog 9 #[v, ve] w (OneRes w (applyE t es)) := by
  have HV := Lib.hid hv
  have HZ := Lib.hid hz
  have HZE := Lib.hid hze
  obtain ⟨a, cap, rfl, h1, h2, _, hc⟩ := he.form
  unfold maxLen at h2
  have HC := Lib.hid hc
  clear hv he hz hze hc
  cases hg : treeGood t with
  | false =>
    have HR : Hid (applyE t es = ([], 4)) := applyE_bad hg
    go_enter Tryd.func9, Tryd.ntmps9
    go_wp2_with fail
    refine (rgood_any _ t _ HV.out HZ.out).mono ?_
    rintro e w1 ⟨rfl, hb1⟩
    go_wp2_with fail
    go_ret2
    exact oneRes_bad HR.out rfl hb1
  | true =>
    have HR : Hid (applyE t es = applyF t es) := applyE_good hg
    have HI : Hid (TInv t) := TInv.of_good hg HZ.out
    go_enter Tryd.func9, Tryd.ntmps9
    go_wp2_with fail
    refine (rgood_any _ t _ HV.out HZ.out).mono ?_
    rintro e w1 ⟨rfl, hb1⟩
    go_wp2_with fail
    clear hg
    go_loopw [0, 6, 7, 8] (fun v i _ _ wr => ApRel w1 t es v i wr) (fun _ i _ _ _ => es.length - (intOf i).toNat)
    case atStart => exact ⟨0, t, by omega, rfl, HI, HV.out.over hb1, rfl, Below.refl _ _⟩
    case round =>
      obtain ⟨i, t', hi, rfl, HI', HV', HAp, hbl⟩ := hrel
      have hbw := below_over hb1 hb1.size hbl
      by_cases hlt : i < es.length
      · obtain ⟨b, o, rfl, sb, hf⟩ := HC.out.resolve_left (by omega)
        obtain ⟨x, hx⟩ := get_of_lt hlt
        have hat := (hf i x hx).over hbw sb
        have c0 := hat.c0
        have c1 := hat.c1
        have c2 := hat.c2
        have c3 := hat.c3
        have sb' : b < wr.heap.size := Nat.lt_of_lt_of_le sb hbw.size
        have HSz := Lib.hid (HZE.out x (List.mem_of_getElem? hx))
        have HAp' : Hid (applyF t' (x :: es.drop (i + 1)) = applyF t es) := by show _ = _; rw [← drop_get hx]; exact HAp.out
        have hlen := HI'.out.len
        clear hat hf hx
        by_cases hc : (oneE t' x).2 = 0
        · have HI2 := Lib.hid (HI'.out.one hc)
          have HA2 : Hid (applyF (oneE t' x).1 (es.drop (i + 1)) = applyF t es) := by show _ = _; rw [← applyF_go hc]; exact HAp'.out
          have hcb : (((oneE t' x).2 : Int) != 0) = false := by simp [hc]
          clear hc
          go_wp2_with fail
          refine (rone_any _ t' x _ HV'.out (by omega) (fun f hf => Nat.le_trans (HI'.out.lines f hf) (by decide)) HSz.out.1 HSz.out.2).mono ?_
          rintro e w3 ⟨v3, rfl, hv3, hb3⟩
          have HV3 := Lib.hid hv3
          clear hv3
          go_wp2_with fail
          go_roundw
          case rel => exact ⟨i + 1, (oneE t' x).1, hlt, by go_num, HI2, HV3, HA2, below_over hbl hbl.size hb3⟩
          case measure => exact meas_lt hlt
        · have HE : Hid (applyF t es = ([], (oneE t' x).2)) := by show _ = _; rw [← HAp'.out, applyF_stop hc]
          have hcb : (((oneE t' x).2 : Int) != 0) = true := by simp [hc]
          clear hc
          go_wp2_with fail
          refine (rone_any _ t' x _ HV'.out (by omega) (fun f hf => Nat.le_trans (HI'.out.lines f hf) (by decide)) HSz.out.1 HSz.out.2).mono ?_
          rintro e w3 ⟨v3, rfl, hv3, hb3⟩
          clear hv3
          go_wp2_with fail
          go_ret2
          exact oneRes_bad (HR.out.trans HE.out) rfl (below_over hbw hbw.size hb3)
      · obtain rfl : i = es.length := by omega
        have HE : Hid (applyF t es = (t', 0)) := by show _ = _; rw [← HAp.out, List.drop_length]; rfl
        go_wp2_with fail
        go_ret2
        exact oneRes_ok (HR.out.trans HE.out) HV'.out hbw
end Go.Proofs.YtipbknkjledebaaDoor
