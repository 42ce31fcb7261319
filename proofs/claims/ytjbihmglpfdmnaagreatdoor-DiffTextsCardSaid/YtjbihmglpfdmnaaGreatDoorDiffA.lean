/- Contract of bruitref50.lines. -/
import Derived.Test.YtjbihmglpfdmnaaGreatDoorLcsC
import Derived.Test.YtjbihmglpfdmnaaGreatDoorDiffP
namespace Go.Proofs.YtjbihmglpfdmnaaGreatDoor
open Go Go.RowKit

theorem slEditR : SlT Tryz.prog 28 53 4 48 := slT_of Tryz.underlying28 (by kernel_rfl) (by decide)
theorem slEditP : SlT Tryz.prog 22 37 4 48 := slT_of Tryz.underlying22 (by kernel_rfl) (by decide)
def encE (e : EditM) : List Value := [.int .u8 (e.kind : Int), .string e.name, .int .i64 e.at', .string e.text]
theorem encE_len (e : EditM) : (encE e).length = 4 := rfl
/-- the slice v of edits is the call's own -/
def EOwn (w : World) (B : Nat) (t : TypeId) (v : Value) (es : List EditM) : Prop := w.ownsRow B t 4 v es.length (es.flatMap encE)
theorem EOwn.snoc {w : World} {B : Nat} {t : TypeId} {v : Value} {es : List EditM} {e : EditM} (h : w.ownsRow B t 4 v (es.length + 1) (es.flatMap encE ++ encE e)) : EOwn w B t v (es ++ [e]) := by
  unfold EOwn
  rw [List.length_append, List.flatMap_append]; simpa using h
def LinesRes (t : TypeId) (w : World) (n : ByteArray) (xs ys : List ByteArray) (e : Ending) (w' : World) : Prop := ∃ v B, e = .returned v ∧ EOwn w' B t v (linesE n xs ys) ∧ w.heap.size ≤ B ∧ Below w.heap.size w w'
theorem linesF_cons {n : ByteArray} {b : List ByteArray} {r : List (Nat × Nat)} {p : Nat × Nat} {i j : Nat} : linesF n b (p :: r) i j = List.replicate (p.1 - i) (cutE n j) ++ (putsE n b j (p.2 - j) ++ linesF n b r (max i p.1 + 1) (max j p.2 + 1)) := rfl
theorem linesE_def {n : ByteArray} {xs ys : List ByteArray} : linesF n ys (pairs xs ys ++ [(xs.length, ys.length)]) 0 0 = linesE n xs ys := by unfold linesE; rfl
theorem encP_len (p : Nat × Nat) : (encP p).length = 2 := rfl

/-- a counter goes up from lo to hi, and R tells what is still to come of E -/
def StepRel (t : TypeId) (w2 : World) (E : List EditM) (R : Nat → List EditM) (lo hi bnd : Nat) (v iv : Value) (wr : World) : Prop :=
  ∃ (k : Nat) (es : List EditM), iv = .int .i64 k ∧ lo ≤ k ∧ k ≤ hi ∧ es.length ≤ k + bnd ∧ Hid (es ++ R k = E) ∧ Hid (EOwn wr w2.heap.size t v es) ∧ Below w2.heap.size w2 wr
def LinesRel (t : TypeId) (w2 : World) (n : ByteArray) (lx ly : Nat) (ys : List ByteArray) (pp : List (Nat × Nat)) (E : List EditM) (v i j pi : Value) (wr : World) : Prop :=
  ∃ (r i' j' : Nat) (es : List EditM), r ≤ pp.length ∧ pi = .int .i64 r ∧ i = .int .i64 i' ∧ j = .int .i64 j' ∧ i' ≤ lx + r ∧ j' ≤ ly + r ∧ es.length ≤ i' + j' ∧ Hid (es ++ linesF n ys (pp.drop r) i' j' = E) ∧ Hid (EOwn wr w2.heap.size t v es) ∧ Below w2.heap.size w2 wr
theorem putE_at {n : ByteArray} {ys : List ByteArray} {j : Nat} {y : ByteArray} (h : ys[j]? = some y) : putE n ys j = ⟨4, n, (j : Int), y⟩ := by
  unfold putE; rw [List.getD_eq_getElem?_getD, h]; rfl

end Go.Proofs.YtjbihmglpfdmnaaGreatDoor
