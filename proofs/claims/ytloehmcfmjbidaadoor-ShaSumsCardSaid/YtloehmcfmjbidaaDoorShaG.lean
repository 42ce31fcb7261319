/- Contracts of package sha: spread. -/
import Derived.Test.YtloehmcfmjbidaaDoorShaF
import Derived.Test.YtloehmcfmjbidaaDoorArr
namespace Go.Proofs.YtloehmcfmjbidaaDoor
open Go Go.RowKit
attribute [local irreducible] Sha.pad

theorem rowT64 : RowT Tryd.prog 51 64 := rowT_of Tryd.underlying51 rfl (by kernel_rfl)

/-- the numbers so far, and noughts -/
def part (b : List Nat) (k : Nat) : List Nat := Sha.sched b k ++ List.replicate (64 - k) 0
theorem part_len {b : List Nat} {k : Nat} (h : k ≤ 64) : (part b k).length = 64 := by simp [part, Sha.sched_len]; omega
theorem part_nth {b : List Nat} {k j : Nat} (h : j < k) : nth (part b k) j = nth (Sha.sched b k) j := by
  rw [part, Sha.nth_append, if_pos (by rw [Sha.sched_len]; exact h)]
theorem part_step {b : List Nat} {k x : Nat} (h : k < 64) (hs : Sha.sched b (k + 1) = Sha.sched b k ++ [x]) : (part b k).set k x = part b (k + 1) := by
  rw [part, part, hs, show 64 - k = (64 - (k + 1)) + 1 by omega, List.replicate_succ, List.set_append_right _ _ (by rw [Sha.sched_len]; omega), Sha.sched_len, Nat.sub_self]
  simp
theorem part_zero (b : List Nat) : ints .u32 (part b 0) = List.replicate 64 (.int .u32 0) := by
  rw [part, Sha.sched_zero]; simp [ints]
theorem part_full (b : List Nat) : part b 64 = Sha.sched b 64 := by simp [part]
attribute [irreducible] part

theorem or_plus {x y n : Nat} (h : y < 2 ^ n) : x * 2 ^ n ||| y = x * 2 ^ n + y := by
  rw [Nat.mul_comm]; exact (Nat.two_pow_add_eq_or_of_lt h x).symm
theorem word_bits {a b c d : Nat} (ha : a < 256) (hb : b < 256) (hc : c < 256) (hd : d < 256) :
    bits .or .u32 (bits .or .u32 (bits .or .u32 ((a : Int) * 16777216) ((b : Int) * 65536)) ((c : Int) * 256)) (d : Int) = ((a * 16777216 + b * 65536 + c * 256 + d : Nat) : Int) := by
  have e1 : (a : Int) * 16777216 = ((a * 2 ^ 24 : Nat) : Int) := by omega
  have e2 : (b : Int) * 65536 = ((b * 65536 : Nat) : Int) := by omega
  have e3 : (c : Int) * 256 = ((c * 256 : Nat) : Int) := by omega
  rw [e1, e2, e3, or_u32 (by omega) (by omega), or_plus (by omega), show a * 2 ^ 24 + b * 65536 = (a * 256 + b) * 2 ^ 16 by omega, or_u32 (by omega) (by omega), or_plus (by omega),
    show (a * 256 + b) * 2 ^ 16 + c * 256 = ((a * 256 + b) * 256 + c) * 2 ^ 8 by omega, or_u32 (by omega) (by omega), or_plus (by omega)]

set_option maxHeartbeats 4000000 in
set_option maxRecDepth 100000 in
theorem spread_any (bv : Value) (b : List Nat) (w : World) (hb : IRow w .u8 bv b) (lb : b.length = 64) (sb : Sha.Bytes b) :
    Calls Tryd.prog 20 #[bv] w fun e w' => e = .returned (.agg (ints .u32 (Sha.sched b 64)).toArray) ∧ Below w.heap.size w w' := by
  obtain ⟨aB, cB, rfl, _, _, hcB⟩ := hb.form
  rw [lb] at hcB ⊢
  obtain ⟨bB, oB, rfl, sB, hcB⟩ := hcB.resolve_left (by decide)
  have HcB := Lib.hid hcB
  clear hcB lb hb
  go_enter Tryd.func20, Tryd.ntmps20
  go_wp2_with fail
  go_loopw [4, 5, 6, 7] (fun _ _ _ i wr => ∃ k : Nat, k ≤ 64 ∧ i = .int .i64 k ∧ Arr wr (w.heap.size + 1) (ints .u32 (part b k)) ∧ Arr wr w.heap.size (List.replicate 64 (.int .u32 0)) ∧ Below w.heap.size w wr) (fun _ _ _ i _ => 64 - (intOf i).toNat)
  case atStart => exact ⟨0, by omega, rfl, by rw [part_zero]; exact arr_new2 w _ _ _, (arr_new w _ _).alloc _, ((Below.refl _ _).alloc (Nat.le_refl _) _).alloc (by simp) _⟩
  case round =>
    obtain ⟨k, hk, rfl, hA, hR, hbl⟩ := hrel
    have hgs : w.heap.size + 1 < wr.heap.size := hA.lt
    by_cases hlt : k < 64
    · have hfr := hA.free k
      have hck : wr.cell? ⟨w.heap.size + 1, k, none⟩ = some (.int .u32 (nth (part b k) k : Nat)) := hA.cell (ints_get (by rw [part_len hk]; exact hlt))
      by_cases h16 : k < 16
      · have sB' : bB < wr.heap.size := Nat.lt_of_lt_of_le sB hbl.size
        have c0 : wr.cell? ⟨bB, oB + 4 * k, none⟩ = some (.int .u8 (nth b (4 * k) : Nat)) := (hbl.cell (p := ⟨bB, _, none⟩) sB).trans (HcB.out _ (by omega))
        have c1 : wr.cell? ⟨bB, oB + (4 * k + 1), none⟩ = some (.int .u8 (nth b (4 * k + 1) : Nat)) := (hbl.cell (p := ⟨bB, _, none⟩) sB).trans (HcB.out _ (by omega))
        have c2 : wr.cell? ⟨bB, oB + (4 * k + 2), none⟩ = some (.int .u8 (nth b (4 * k + 2) : Nat)) := (hbl.cell (p := ⟨bB, _, none⟩) sB).trans (HcB.out _ (by omega))
        have c3 : wr.cell? ⟨bB, oB + (4 * k + 3), none⟩ = some (.int .u8 (nth b (4 * k + 3) : Nat)) := (hbl.cell (p := ⟨bB, _, none⟩) sB).trans (HcB.out _ (by omega))
        have HW : Hid (Sha.word b k = nth b (4 * k) * 16777216 + nth b (4 * k + 1) * 65536 + nth b (4 * k + 2) * 256 + nth b (4 * k + 3)) := rfl
        have b0 := sb (4 * k)
        have b1 := sb (4 * k + 1)
        have b2 := sb (4 * k + 2)
        have b3 := sb (4 * k + 3)
        have HS := Lib.hid (part_step hlt (sched_small (b := b) h16))
        have HA := Lib.hid hA
        have HR := Lib.hid hR
        clear hA hR
        generalize nth (part b k) k = old at *
        go_wp2_with fail
        refine wp_region_lex (C := IsOver wr) 35 [] (by kernel_rfl) (by kernel_rfl) (isOver_of (by repeat (first | exact Below.refl _ _ | apply Below.drew | apply below_drewN | (refine Below.alloc ?_ (by simp) _)))) ?_
        simp only [List.take_succ_cons, List.take_zero, List.drop_succ_cons, List.drop_zero]
        repeat (first | (refine lex_one rfl ?_; go_big_quiet_step (fail); refine wpQuiet_nil ?_))
        refine lex_end ?_
        go_wp2_with fail
        rw [word_bits b0 b1 b2 b3, ← HW.out]
        go_roundw
        case rel =>
          refine ⟨k + 1, by omega, by go_num, ?_, (HR.out.set_other (by simp) _).drew, (hbl.setCell (by simp) _).drew⟩
          rw [← HS.out, ints_set]
          exact (HA.out.set k _).drew
        case measure => simp [intOf] <;> omega
      · have hin : ∀ j, j < k → wr.cell? ⟨w.heap.size + 1, j, none⟩ = some (.int .u32 (nth (Sha.sched b k) j : Nat)) := fun j hj => by
          rw [← part_nth hj]; exact hA.cell (ints_get (by rw [part_len hk]; omega))
        have c16 := hin (k - 16) (by omega)
        have c15 := hin (k - 15) (by omega)
        have c7 := hin (k - 7) (by omega)
        have c2 := hin (k - 2) (by omega)
        have hW := Sha.sched_words sb k
        have h16' := hW (k - 16)
        have h15 := hW (k - 15)
        have h7 := hW (k - 7)
        have h2 := hW (k - 2)
        have HX : Hid (Sha.wnext (Sha.sched b k) k = (nth (Sha.sched b k) (k - 16) + nth (Sha.sched b k) (k - 7) + Sha.sig0 (nth (Sha.sched b k) (k - 15)) + Sha.sig1 (nth (Sha.sched b k) (k - 2))) % 4294967296) := rfl
        have HS := Lib.hid (part_step hlt (Sha.sched_big (b := b) (show 16 ≤ k by omega)))
        have HA := Lib.hid hA
        have HR := Lib.hid hR
        clear hA hR hin hW
        generalize nth (part b k) k = old at *
        generalize nth (Sha.sched b k) (k - 16) = x16 at *
        generalize nth (Sha.sched b k) (k - 15) = x15 at *
        generalize nth (Sha.sched b k) (k - 7) = x7 at *
        generalize nth (Sha.sched b k) (k - 2) = x2 at *
        go_wp2_with fail
        refine wp_region_lex (C := IsOver wr) 10 [] (by kernel_rfl) (by kernel_rfl) (isOver_of (by repeat (first | exact Below.refl _ _ | apply Below.drew | apply below_drewN | (refine Below.alloc ?_ (by simp) _)))) ?_
        simp only [List.take_succ_cons, List.take_zero, List.drop_succ_cons, List.drop_zero]
        repeat (first | (refine lex_one rfl ?_; go_big_quiet_step (fail); refine wpQuiet_nil ?_))
        refine lex_end ?_
        go_wp2_with fail
        refine wp_region_lex (C := IsOver wr) 29 [] (by kernel_rfl) (by kernel_rfl) (isOver_of (by repeat (first | exact Below.refl _ _ | apply Below.drew | apply below_drewN | (refine Below.alloc ?_ (by simp) _)))) ?_
        simp only [List.take_succ_cons, List.take_zero, List.drop_succ_cons, List.drop_zero]
        repeat (first | (refine lex_one rfl ?_; go_big_quiet_step (fail); refine wpQuiet_nil ?_) | (refine lex_loud rfl ?_; go_wp2_with (go_at_call 21; refine (sright_call _ _ _ (by omega) (by omega) (by omega)).mono ?_; rintro e w' ⟨rfl, m, rfl⟩); refine ⟨(isOver_of (by repeat (first | exact Below.refl _ _ | apply Below.drew | apply below_drewN | (refine Below.alloc ?_ (by simp) _)))), ?_⟩))
        refine lex_end ?_
        go_wp2_with fail
        rw [sig0_bits h15, sig1_bits h2]
        go_roundw
        case rel =>
          refine ⟨k + 1, by omega, by go_num, ?_, HR.out.set_other (by simp) _, (below_drewN hbl _).setCell (by simp) _⟩
          rw [← HS.out, ints_set, HX.out]
          have := HA.out.set k (.int .u32 ((((x16 + x7 + Sha.sig0 x15 + Sha.sig1 x2) % 4294967296 : Nat)) : Int))
          exact this
        case measure => simp [intOf] <;> omega
    · obtain rfl : k = 64 := by omega
      rw [part_full] at hA
      have hl1 : (ints .u32 (Sha.sched b 64)).length = 64 := by rw [ints_len, Sha.sched_len]
      have hl2 : (List.replicate 64 (Value.int .u32 0)).length = 64 := by simp
      have ho := List.all_eq_true.2 (ints_one .u32 (Sha.sched b 64))
      have hR2 := hR.row (ints .u32 (Sha.sched b 64))
      have hb2 := below_setRow hbl (Nat.le_refl w.heap.size) (ints .u32 (Sha.sched b 64)).toArray
      clear hcB HcB
      go_wp2_with (first | refine wpList_store_arr rowT64 rfl _ _ rfl _ _ _ hR rfl rfl hl2 hl1 ho ?_ | refine wpList_load_arr rowT64 rfl _ rfl _ _ hA rfl hl1 ?_)
      exact bodyPost_ret (v := .agg (ints .u32 (Sha.sched b 64)).toArray) (results_arr rowT64 rfl hR2 rfl hl1) rfl ⟨rfl, hb2⟩
end Go.Proofs.YtloehmcfmjbidaaDoor
