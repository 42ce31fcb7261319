/- Contract of bruitref50.Of. -/
import Derived.Test.YtjbihmglpfdmnaaGreatDoorDiffB
import Derived.Test.YtjbihmglpfdmnaaGreatDoorTreeD
import Derived.Test.YtjbihmglpfdmnaaGreatDoorTreeF
namespace Go.Proofs.YtjbihmglpfdmnaaGreatDoor
open Go Go.RowKit

/-- edits that lie somewhere -/
def ERow (w : World) (v : Value) (es : List EditM) : Prop := Row w v es.length 4 (es.flatMap encE)
theorem EOwn.row {w : World} {B : Nat} {t : TypeId} {v : Value} {es : List EditM} (h : EOwn w B t v es) : ERow w v es := own_row h
theorem ERow.over {w w' : World} {v : Value} {es : List EditM} (h : ERow w v es) (hb : Below w.heap.size w w') : ERow w' v es := Row.over h hb
theorem encE_one (es : List EditM) : ∀ u ∈ es.flatMap encE, u.oneCell' = true := by
  intro u hu
  obtain ⟨e, _, he⟩ := List.mem_flatMap.1 hu
  simp only [encE, List.mem_cons, List.not_mem_nil, or_false] at he
  rcases he with rfl | rfl | rfl | rfl <;> rfl
theorem EOwn.app {w : World} {B : Nat} {t : TypeId} {v : Value} {es fs : List EditM} (h : w.ownsRow B t 4 v (es.length + fs.length) (es.flatMap encE ++ fs.flatMap encE)) : EOwn w B t v (es ++ fs) := by
  unfold EOwn
  rw [List.length_append, List.flatMap_append]; exact h
def ofS (a b : List FileM) : List EditM := if (treeGood a && treeGood b) = true then ofE a b else []
def ofN (a b : List FileM) : Int := if (treeGood a && treeGood b) = true then 0 else 4
def OfRes (w : World) (a b : List FileM) (e : Ending) (w' : World) : Prop := ∃ v, e = .returned (.tuple #[v, .int .i64 (ofN a b)]) ∧ ERow w' v (ofS a b) ∧ Below w.heap.size w w'
theorem ofRes_bad {w w' : World} {a b : List FileM} (h : (treeGood a && treeGood b) = false) (hb : Below w.heap.size w w') : OfRes w a b (.returned (.tuple #[.slice none 0 0, .int .i64 4])) w' := by
  refine ⟨.slice none 0 0, by unfold ofN; rw [h]; rfl, ?_, hb⟩
  unfold ofS; rw [h]; exact row_nil w' 4
theorem ofRes_good {w w' : World} {a b : List FileM} {v : Value} {es : List EditM} (h : (treeGood a && treeGood b) = true) (he : es = ofE a b) (hr : ERow w' v es) (hb : Below w.heap.size w w') : OfRes w a b (.returned (.tuple #[v, .int .i64 0])) w' := by
  subst he
  refine ⟨v, by unfold ofN; rw [h]; rfl, ?_, hb⟩
  unfold ofS; rw [h]; exact hr
/-- so far k files of the first tree -/
def OfRel1 (t : TypeId) (w2 : World) (a b : List FileM) (v iv : Value) (wr : World) : Prop := ∃ k : Nat, k ≤ a.length ∧ iv = .int .i64 k ∧ Hid (EOwn wr w2.heap.size t v (ofE1 a b k)) ∧ Below w2.heap.size w2 wr
def OfRel2 (t : TypeId) (w2 : World) (a b : List FileM) (v iv : Value) (wr : World) : Prop := ∃ k : Nat, k ≤ b.length ∧ iv = .int .i64 k ∧ Hid (EOwn wr w2.heap.size t v (ofE1 a b a.length ++ ofE2 a b k)) ∧ Below w2.heap.size w2 wr
theorem ofE1_zero (a b : List FileM) : ofE1 a b 0 = [] := by unfold ofE1; simp
theorem ofE2_zero (a b : List FileM) : ofE2 a b 0 = [] := by unfold ofE2; simp
theorem ofE1_drop {a b : List FileM} {k : Nat} {f : FileM} (h : a[k]? = some f) (hf : findT b f.name = -1) : ofE1 a b (k + 1) = ofE1 a b k ++ [dropE f.name] := by
  rw [ofE1_succ h, if_pos (by omega)]
theorem ofE1_keep {a b : List FileM} {k j : Nat} {f : FileM} (h : a[k]? = some f) (hf : findT b f.name = (j : Int)) : ofE1 a b (k + 1) = ofE1 a b k := by
  rw [ofE1_succ h, if_neg (by omega), List.append_nil]

end Go.Proofs.YtjbihmglpfdmnaaGreatDoor
