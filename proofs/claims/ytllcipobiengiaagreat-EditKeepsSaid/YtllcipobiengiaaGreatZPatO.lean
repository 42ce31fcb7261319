/- Arguments opened: patches that the caller hands in. -/
import Derived.Test.YtllcipobiengiaaGreatZRefF
import Derived.SliceStrings
import Derived.Deep.Slices
import Derived.Deep.Fields
import Derived.ChangeSame
import Derived.ChangeSlices
import Derived.Lib.LaidTab
namespace Go.Proofs.YtllcipobiengiaaGreat
open Go Go.ChangeShapes Go.WideShapes Go.Deep Go.RowKit

section
variable {H : Type} {enc : TypeId × Value → H} {P : Program} {W : World} {base : Nat} {held : Bool}
theorem row_of_cellsQ {a : Addr} {n cap sz : Nat} {cs : List Value} (hl : cs.length = n * sz) (h1 : n ≤ cap) (h2 : cap ≤ maxLen) (hz : 0 < sz) (hc : ∀ j u, cs[j]? = some u → W.cell? (a.add j) = some u) : Row W (.slice (some a) n cap) n sz cs := by
  refine ⟨hl, _, cap, rfl, h1, h2, (fun h => by cases h), fun h0 => ?_⟩
  have hpos : 0 < cs.length := by rw [hl]; exact Nat.mul_pos (by omega) hz
  have hc0 := hc 0 cs[0] (by rw [List.getElem?_eq_getElem])
  have hsp := World.cell?_spot hc0
  obtain ⟨b, off, sp⟩ := a
  simp only [Addr.add] at hsp
  have hsp : sp = none := by cases sp <;> simp_all
  subst hsp
  have hb : b < W.heap.size := by
    rcases Nat.lt_or_ge b W.heap.size with h' | h'
    · exact h'
    · simp [World.cell?, Addr.add, Array.getElem?_eq_none h'] at hc0
  refine ⟨b, off, rfl, hb, fun j u hu => ?_⟩
  have := hc j u hu
  rwa [Addr.add_lit] at this
end
section
variable {H : Type} {enc : TypeId × Value → H} {W : World} {base : Nat} {v : Value} {d : DataW H} {ps : List MemPlace}
end
end Go.Proofs.YtllcipobiengiaaGreat
