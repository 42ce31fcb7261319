/- Contracts of the small functions of bruitref46 and sha. -/
import Derived.Test.YtloehmcfmjbidaaDoorBase
import Derived.Test.YtloehmcfmjbidaaDoorSha
namespace Go.Proofs.YtloehmcfmjbidaaDoor
open Go.RowKit

theorem i32_two {a b : Nat} (h : a + b < 4294967296) : ((a : Int) % 4294967296 + (b : Int) % 4294967296) % 4294967296 = ((a + b : Nat) : Int) := by omega
theorem i32_one {a : Nat} (h : a < 4294967296) : (a : Int) % 4294967296 = (a : Int) := by omega

theorem sright_any (x n : Nat) (w : World) (hn : n ≤ 31) (hx : x < 4294967296) :
    Calls Tryd.prog 21 #[.int .u32 x, .int .u64 n] w fun e w' => e = .returned (.int .u32 (Sha.rotr x n : Nat)) ∧ ∃ m, w' = w.drewN m := by
  go_enter Tryd.func21, Tryd.ntmps21
  go_wp2
  go_ret
  refine ⟨ret_int ?_, 0, rfl⟩
  rw [← Sha.rotr_or hx (by omega)]
  have h1 : x / 2 ^ n < 4294967296 := Nat.lt_of_le_of_lt (Nat.div_le_self _ _) hx
  rw [← or_u32 h1 (Nat.mod_lt _ (by decide))]
  have e2 : (32 - (n : Int)).toNat = 32 - n := by omega
  simp

theorem power_any (a : Int) (w : World) (h0 : 0 ≤ a) (ha : a ≤ 31) :
    Calls Tryd.prog 24 #[.int .i64 a] w fun e w' => e = .returned (.int .u32 (2 ^ a.toNat : Nat)) ∧ ∃ m, w' = w.drewN m := by
  obtain ⟨n, rfl⟩ := Int.eq_ofNat_of_zero_le h0
  rw [Int.toNat_natCast]
  go_enter Tryd.func24, Tryd.ntmps24
  go_wp2
  go_loop [3, 4] (fun p i => ∃ k : Nat, k ≤ n ∧ i = .int .i64 k ∧ p = .int .u32 (2 ^ k : Nat)) (fun _ i => n - (intOf i).toNat)
  case atStart => exact ⟨0, Nat.zero_le _, rfl, rfl⟩
  case round =>
    obtain ⟨k, hk, rfl, rfl⟩ := hrel
    have hb : 2 ^ k ≤ 2 ^ 31 := Nat.pow_le_pow_right (by decide) (by omega)
    by_cases hlt : k < n
    · have hb1 : 2 ^ (k + 1) ≤ 2 ^ 31 := Nat.pow_le_pow_right (by decide) (by omega)
      have hs : 2 ^ (k + 1) = 2 ^ k * 2 := Nat.pow_succ _ _
      generalize 2 ^ k = P at *
      generalize hQ : 2 ^ (k + 1) = Q at *
      have HS := Lib.hid hs; clear hs
      have HQ := Lib.hid hQ; clear hQ
      go_wp2
      go_round
      case rel => exact ⟨k + 1, by omega, by go_num, by have := HS.out; rw [HQ.out, HS.out]; simp; omega⟩
      case measure => simp [intOf]; omega
    · obtain rfl : k = n := by omega
      go_wp2
      go_ret
      exact ⟨rfl, 0, rfl⟩

def p2 (a : Int) : Nat := 2 ^ a.toNat
theorem p2_call (a : Int) (w : World) (h0 : 0 ≤ a) (ha : a ≤ 31) :
    Calls Tryd.prog 24 #[.int .i64 a] w fun e w' => e = .returned (.int .u32 (p2 a)) ∧ ∃ m, w' = w.drewN m := power_any a w h0 ha
theorem p2_pos (a : Int) : 1 ≤ p2 a := Nat.two_pow_pos _
theorem p2_le (a : Int) (h : a ≤ 31) : p2 a ≤ 2147483648 := by
  unfold p2
  exact Nat.pow_le_pow_right (by decide) (show a.toNat ≤ 31 by omega)

theorem rright_any (x n : Nat) (w : World) (h1 : 1 ≤ n) (hn : n ≤ 31) (hx : x < 4294967296) :
    Calls Tryd.prog 22 #[.int .u32 x, .int .i64 n] w fun e w' => e = .returned (.int .u32 (Sha.rotr x n : Nat)) ∧ ∃ m, w' = w.drewN m := by
  have hlt := Sha.rotr_lt hx (show n ≤ 32 by omega)
  have HR : Hid (Sha.rotr x n = x / p2 n + x % p2 n * p2 (32 - n)) := by
    unfold p2; rw [show (32 - (n : Int)).toNat = 32 - n by omega, Int.toNat_natCast]; exact Sha.rotr_def _ _
  have hp := p2_pos n
  have hp' := p2_le n (by omega)
  have hq := p2_pos (32 - n)
  have hq' := p2_le (32 - n) (by omega)
  go_enter Tryd.func22, Tryd.ntmps22
  go_wp2_with fail
  go_quiet ((go_at_call 24; exact Calls.quiet_of (p2_call _ _ (by omega) (by omega))))
  go_wp2_with fail
  go_ret
  refine ⟨ret_int ?_, nq, rfl⟩
  rw [HR.out] at hlt ⊢
  rw [← Int.natCast_ediv, ← Int.natCast_emod, ← Int.natCast_mul]
  exact i32_two hlt

theorem down_any (x n : Nat) (w : World) (hn : n ≤ 31) (hx : x < 4294967296) :
    Calls Tryd.prog 23 #[.int .u32 x, .int .i64 n] w fun e w' => e = .returned (.int .u32 (x / 2 ^ n : Nat)) ∧ ∃ m, w' = w.drewN m := by
  have hp := p2_pos n
  have hpx : x / p2 n < 4294967296 := Nat.lt_of_le_of_lt (Nat.div_le_self _ _) hx
  have HE : Hid (2 ^ n = p2 n) := by unfold p2; rw [Int.toNat_natCast]; rfl
  go_enter Tryd.func23, Tryd.ntmps23
  go_wp2_with fail
  refine (p2_call _ _ (by omega) (by omega)).mono ?_
  rintro e w' ⟨rfl, m, rfl⟩
  go_wp2_with fail
  go_ret
  refine ⟨ret_int ?_, m, rfl⟩
  rw [HE.out, ← Int.natCast_ediv]
  exact i32_one hpx

theorem sright_call (x : Nat) (n : Int) (w : World) (h1 : 0 ≤ n) (hn : n ≤ 31) (hx : x < 4294967296) :
    Calls Tryd.prog 21 #[.int .u32 x, .int .u64 n] w fun e w' => e = .returned (.int .u32 (Sha.rotr x n.toNat : Nat)) ∧ ∃ m, w' = w.drewN m := by
  obtain ⟨n, rfl⟩ := Int.eq_ofNat_of_zero_le h1
  exact sright_any x n w (by omega) hx
theorem rright_call (x : Nat) (n : Int) (w : World) (h1 : 1 ≤ n) (hn : n ≤ 31) (hx : x < 4294967296) :
    Calls Tryd.prog 22 #[.int .u32 x, .int .i64 n] w fun e w' => e = .returned (.int .u32 (Sha.rotr x n.toNat : Nat)) ∧ ∃ m, w' = w.drewN m := by
  obtain ⟨n, rfl⟩ := Int.eq_ofNat_of_zero_le (show 0 ≤ n by omega)
  exact rright_any x n w (by omega) (by omega) hx
theorem down_call (x : Nat) (n : Int) (w : World) (h1 : 0 ≤ n) (hn : n ≤ 31) (hx : x < 4294967296) :
    Calls Tryd.prog 23 #[.int .u32 x, .int .i64 n] w fun e w' => e = .returned (.int .u32 (x / 2 ^ n.toNat : Nat)) ∧ ∃ m, w' = w.drewN m := by
  obtain ⟨n, rfl⟩ := Int.eq_ofNat_of_zero_le h1
  exact down_any x n w (by omega) hx
end Go.Proofs.YtloehmcfmjbidaaDoor
