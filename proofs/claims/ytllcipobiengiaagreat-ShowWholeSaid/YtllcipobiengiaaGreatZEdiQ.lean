/- What both lists have stands in order; who is kept, by both sides' words: plain. What makes a file have just some lines, step by step: plain. -/
import Derived.Test.YtllcipobiengiaaGreatZLcsP
import Derived.Test.YtllcipobiengiaaGreatZLinP
namespace Go.Proofs.YtllcipobiengiaaGreat

/-! ### who is kept -/
end Go.Proofs.YtllcipobiengiaaGreat
namespace Go.Proofs.YtllcipobiengiaaGreat

/-! ### who is kept, marked at each line -/
/-! ### what is killed -/
/-! ### what is made -/
section
variable {l : List VertM} {file : VidM} {id : PidM} {from' : Nat} {kept : List Int} {want : List ByteArray} {ks : List OpM} {j : Nat}
end

/-! ### what is tied -/
open Classical in
noncomputable def befB (R : List (Nat × Nat)) (i j : Nat) : Bool := decide (BeforeP R i j)
theorem befB_iff {R : List (Nat × Nat)} {i j : Nat} : befB R i j = true ↔ BeforeP R i j := by unfold befB; simp
section
variable {R : List (Nat × Nat)} {kept : List Int} {at' : List VidM} {j : Nat} {x y : Int} {u v : VidM}
theorem getD_of {α : Type} {l : List α} {k : Nat} {x d : α} (h : l[k]? = some x) : l.getD k d = x := by rw [List.getD_eq_getElem?_getD, h]; rfl
end
end Go.Proofs.YtllcipobiengiaaGreat
