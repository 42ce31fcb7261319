/- Contract of bruitref50.Apply. -/
import Derived.Test.YtjbihmglpfdmnaaGreatDoorDiffM
namespace Go.Proofs.YtjbihmglpfdmnaaGreatDoor
open Go Go.RowKit

def SzE (es : List EditM) : Prop := ∀ e ∈ es, e.name.size ≤ maxLen ∧ e.text.size ≤ maxLen
def ApRel (w1 : World) (t : List FileM) (es : List EditM) (v iv : Value) (wr : World) : Prop :=
  ∃ (i : Nat) (t' : List FileM), i ≤ es.length ∧ iv = .int .i64 i ∧ Hid (TInv t') ∧ Hid (FRow wr v t') ∧ Hid (applyF t' (es.drop i) = applyF t es) ∧ Below w1.heap.size w1 wr
theorem applyE_bad {t : List FileM} {es : List EditM} (h : treeGood t = false) : applyE t es = ([], 4) := by unfold applyE; rw [h]; rfl
theorem applyE_good {t : List FileM} {es : List EditM} (h : treeGood t = true) : applyE t es = applyF t es := by unfold applyE; rw [h]; rfl
theorem applyF_go {t : List FileM} {e : EditM} {r : List EditM} (h : (oneE t e).2 = 0) : applyF t (e :: r) = applyF (oneE t e).1 r := by rw [applyF, if_pos h]
theorem applyF_stop {t : List FileM} {e : EditM} {r : List EditM} (h : ¬ (oneE t e).2 = 0) : applyF t (e :: r) = ([], (oneE t e).2) := by rw [applyF, if_neg h]

end Go.Proofs.YtjbihmglpfdmnaaGreatDoor
