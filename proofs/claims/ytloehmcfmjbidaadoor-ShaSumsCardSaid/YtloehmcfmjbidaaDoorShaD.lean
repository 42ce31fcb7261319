/- Contracts of the sum by definition: pad, block, Sum. -/
import Derived.Test.YtloehmcfmjbidaaDoorShaC
namespace Go.Proofs.YtloehmcfmjbidaaDoor
open Go Go.RowKit

def lenOf : Value → Nat
  | .slice _ n _ => n
  | _ => 0
theorem own_len {w : World} {base : Nat} {e : TypeId} {sz : Nat} {v : Value} {n : Nat} {xs : List Value} (h : w.ownsRow base e sz v n xs) : lenOf v = n := by
  obtain ⟨a, cap, rfl, _⟩ := (own_row h).2
  rfl
set_option maxHeartbeats 1000000 in
theorem pad_any (v : Value) (bs : List Nat) (w : World) (hb : IRow w .u8 v bs) (hl : bs.length ≤ 3000) :
    Calls Tryd.prog 15 #[v] w fun e w' => ∃ v', e = .returned v' ∧ IRow w' .u8 v' (Sha.pad bs) ∧ Below w.heap.size w w' := by
  have hN0 : 0 + bs.length ≤ 1099511627776 := by omega
  have hN1 : 0 + bs.length + 1 ≤ 1099511627776 := by omega
  have hz := Sha.zeros_lt bs.length
  have HB := Lib.hid hb
  have hN := World.ownsRow_nil w w.heap.size 5 1
  obtain ⟨a, cap, rfl, hcap, _, _⟩ := hb.form
  go_enter Tryd.func15, Tryd.ntmps15
  go_wp2_with (first | (at_builtin; refine wpList_append_new slU8 rfl _ _ rfl w.heap.size _ _ 1 _ _ _ ho1 rfl rfl rfl rfl hN1 (by decide) hB1 ?_; intro v2 w2 ho2 hg2; have hb2 : Below w.heap.size w w2 := below_grown hb1 hB1 ho1 hg2; clear hN1) | (at_builtin; refine wpList_append_old slU8 rfl _ _ rfl w.heap.size _ _ _ hN rfl _ _ _ HB.out rfl (ints_one _ _) hN0 (by decide) (Nat.le_refl _) ?_; intro v1 w1 ho1 hg1; have hb1 : Below w.heap.size w w1 := below_grown (Below.refl _ _) (Nat.le_refl _) hN hg1; have hB1 : w.heap.size ≤ w1.heap.size := hb1.size; clear hN0))
  have hst : w2.ownsRow w.heap.size 5 1 v2 (bs.length + 1 + 0) (ints .u8 (bs ++ [128] ++ List.replicate 0 0)) := by
    simpa [ints] using ho2
  have HS := Lib.hid hst
  clear ho1 hg1 ho2 hg2 hst hb1 hB1 hN
  go_loopw [3] (fun v wr => ∃ k : Nat, k ≤ Sha.zeros bs.length ∧ wr.ownsRow w.heap.size 5 1 v (bs.length + 1 + k) (ints .u8 (bs ++ [128] ++ List.replicate k 0)) ∧ Below w.heap.size w wr) (fun v _ => bs.length + 1 + Sha.zeros bs.length - lenOf v)
  case atStart => exact ⟨0, Nat.zero_le _, HS.out, hb2⟩
  case round =>
    obtain ⟨k, hk, ho, hbl⟩ := hrel
    obtain ⟨a', cap', hv, _, _⟩ := (own_row ho).2
    subst hv
    have HO := Lib.hid ho
    have hB : w.heap.size ≤ wr.heap.size := hbl.size
    have hN : bs.length + 1 + k + 1 ≤ 1099511627776 := by omega
    by_cases hlt : k < Sha.zeros bs.length
    · have hne := Sha.zeros_not hlt
      go_wp2_with (at_builtin; refine wpList_append_new slU8 rfl _ _ rfl w.heap.size _ _ 1 _ _ _ ho rfl rfl rfl rfl hN (by decide) hB ?_; intro v' w1 hown1 hg1)
      go_roundw
      case rel => exact ⟨k + 1, by omega, by rw [List.replicate_succ', ← List.append_assoc, ints_append]; exact hown1, below_grown hbl hB ho hg1⟩
      case measure => rw [own_len hown1]; simp [lenOf]; omega
    · obtain rfl : k = Sha.zeros bs.length := by omega
      have heq := Sha.zeros_at bs.length
      have hz8 : 0 ≤ (bs.length : Int) * 8 ∧ (bs.length : Int) * 8 ≤ 24000 := by omega
      have HZ := Lib.hid heq; clear heq
      have hzz : (((bs.length : Int) + 1 + (Sha.zeros bs.length : Int)) % 64 != 56) = false := by have := HZ.out; simp; omega
      obtain ⟨wo, rfl⟩ : ∃ wo : World, wo = wr := ⟨_, rfl⟩
      go_wp2
      go_loopw [4, 5, 6] (fun n l i wr => ∃ k : Nat, k ≤ 8 ∧ i = .int .i64 k ∧ n = .int .u64 (bs.length * 8 / 256 ^ k : Nat) ∧ IRow wr .u8 l (Sha.tl (bs.length * 8) k) ∧ Below wo.heap.size wo wr) (fun _ _ i _ => 8 - (intOf i).toNat)
      case atStart => exact ⟨0, by omega, rfl, by simp, by rw [Sha.tl_zero]; exact row_nil _ _, Below.refl _ _⟩
      case round =>
        obtain ⟨k, hk, rfl, rfl, hl, hbl2⟩ := hrel
        by_cases hlt : k < 8
        · have hT : Sha.tl (bs.length * 8) (k + 1) = (bs.length * 8 / 256 ^ k % 256) :: Sha.tl (bs.length * 8) k := Sha.tl_step _ _
          have hD : bs.length * 8 / 256 ^ (k + 1) = bs.length * 8 / 256 ^ k / 256 := by rw [Nat.pow_succ, Nat.div_div_eq_div_mul]
          have hL : (Sha.tl (bs.length * 8) k).length = k := Sha.tl_len _ _
          have hn : bs.length * 8 / 256 ^ k ≤ 24000 := Nat.le_trans (Nat.div_le_self _ _) (by omega)
          generalize bs.length * 8 / 256 ^ k = N at *
          have hN : 1 + (Sha.tl (bs.length * 8) k).length ≤ 1099511627776 := by omega
          have HT := Lib.hid hT; clear hT
          have HD := Lib.hid hD; clear hD
          have HL := Lib.hid hL; clear hL
          have hl' := fun o => hl.over ((Below.refl wr.heap.size wr).alloc (Nat.le_refl _) o)
          go_wp2_with (at_builtin; refine wpList_append_old slU8 rfl _ _ rfl wr.heap.size _ _ _ (World.ownsRow_lit _ _ 1 (Nat.le_refl _) (by decide) rfl) rfl _ _ _ (hl' _) rfl (ints_one _ _) hN (by decide) (by simp) ?_; intro v' w1 ho1 hg1)
          go_roundw
          case rel =>
            have hb1 := below_over hbl2 hbl2.size (grown_over hg1 rfl)
            refine ⟨k + 1, by omega, by go_num, by rw [HD.out]; simp, ?_, hb1⟩
            have := own_irow (xs := N % 256 :: Sha.tl (bs.length * 8) k) (by simpa [ints] using ho1)
            rw [HT.out]
            exact this
          case measure => simp [intOf] <;> omega
        · obtain rfl : k = 8 := by omega
          have hL : (Sha.tl (bs.length * 8) 8).length = 8 := Sha.tl_len _ _
          have hN : bs.length + 1 + Sha.zeros bs.length + (Sha.tl (bs.length * 8) 8).length ≤ 1099511627776 := by omega
          have ho2 := own_over HO.out hbl2
          have hB2 : w.heap.size ≤ wr.heap.size := Nat.le_trans hbl.size hbl2.size
          clear hL hlt
          go_wp2_with (at_builtin; refine wpList_append_old slU8 rfl _ _ rfl w.heap.size _ _ _ ho2 rfl _ _ _ hl rfl (ints_one _ _) hN (by decide) hB2 ?_; intro v' w1 ho1 hg1)
          go_ret
          refine ⟨_, rfl, ?_, below_grown (hbl.trans (hbl2.mono hbl.size)) hB2 ho2 hg1⟩
          rw [Sha.pad_eq]
          exact own_irow (by rw [ints_append]; exact ho1)
end Go.Proofs.YtloehmcfmjbidaaDoor
