/- Small lemmas on numbers as bits, on slices that are read, and on rows that a call owns. -/
import Derived.Test.YtflnkmmimoninaaGreatDoorRows
import Derived.WalkKit
import Derived.WalkLawsBesides
import Derived.WalkSpells
import Derived.Handy
import Derived.PlainAid
import Derived.Lib.Hide
import Derived.Deep.QuietTactic
import Derived.BigQuiet
import Derived.Deep.RegionWith
import Derived.Deep.RegionHeld3
import Derived.StillTailTactics
import Derived.Deep.DeepCutAuto
import Derived.Deep.DeepFit
namespace Go.Proofs.YtflnkmmimoninaaGreatDoor
open Go.RowKit

theorem wraps_u32 (n : Int) (h₀ : 0 ≤ n) (h₁ : n < 2 ^ 32) : IntKind.u32.wrap n = n := by rw [IntKind.wrap_u32]; omega
theorem wraps_u64 (n : Int) (h₀ : 0 ≤ n) (h₁ : n < 2 ^ 64) : IntKind.u64.wrap n = n := by rw [IntWalk.u64_in n ⟨h₀, by omega⟩]
theorem or_u32 {a b : Nat} (ha : a < 4294967296) (hb : b < 4294967296) : bits .or .u32 (a : Int) (b : Int) = ((a ||| b : Nat) : Int) :=
  (bits_nat .u32 32 (by decide) wraps_u32 a b (by simpa using ha) (by simpa using hb)).2
theorem and_u32 {a b : Nat} (ha : a < 4294967296) (hb : b < 4294967296) : bits .and .u32 (a : Int) (b : Int) = ((a &&& b : Nat) : Int) :=
  (bits_nat .u32 32 (by decide) wraps_u32 a b (by simpa using ha) (by simpa using hb)).1
theorem xor_u32 {a b : Nat} (ha : a < 4294967296) (hb : b < 4294967296) : bits .xor .u32 (a : Int) (b : Int) = ((a ^^^ b : Nat) : Int) := by
  simp only [bits, BitVec.ofInt_natCast, BitVec.toNat_xor, BitVec.toNat_ofNat]
  have ha' : a % 2 ^ IntKind.u32.bits = a := Nat.mod_eq_of_lt (by simpa [IntKind.bits] using ha)
  have hb' : b % 2 ^ IntKind.u32.bits = b := Nat.mod_eq_of_lt (by simpa [IntKind.bits] using hb)
  rw [ha', hb']
  have := Nat.xor_lt_two_pow (n := 32) (by simpa using ha) (by simpa using hb)
  exact wraps_u32 _ (Int.natCast_nonneg _) (by exact_mod_cast this)
theorem not_u32 {a : Nat} (ha : a < 4294967296) : bits .xor .u32 (-1) (a : Int) = ((4294967295 - a : Nat) : Int) := by
  have h : (BitVec.ofInt 32 (-1) ^^^ BitVec.ofInt 32 (a : Int)).toNat = 4294967295 - a := by
    have h1 : BitVec.ofInt 32 (-1) = BitVec.allOnes 32 := by decide
    rw [h1, BitVec.allOnes_xor, BitVec.toNat_not, BitVec.ofInt_natCast, BitVec.toNat_ofNat, Nat.mod_eq_of_lt (by simpa using ha)]
  show IntKind.u32.wrap (((BitVec.ofInt 32 (-1) ^^^ BitVec.ofInt 32 (a : Int)).toNat : Nat) : Int) = _
  rw [h]
  exact wraps_u32 _ (Int.natCast_nonneg _) (by omega)
theorem ret_int {k : IntKind} {a b : Int} (h : a = b) : Ending.returned (.int k a) = .returned (.int k b) := by rw [h]
theorem ret_val {a b : Value} (h : a = b) : Ending.returned a = .returned b := by rw [h]
theorem bne_mod (a b : Nat) : ((a : Int) % (b : Int) != 0) = (a % b != 0) := by
  rw [← Int.natCast_emod, Bool.eq_iff_iff]
  simp only [bne_iff_ne, ne_eq]
  omega
theorem drewN_zero (w : World) : w.drewN 0 = w := rfl
end Go.Proofs.YtflnkmmimoninaaGreatDoor
