/- Contract of bruitref26.table. -/
import Derived.Test.YtipbknkjledebaaDoorGrid
import Derived.Test.YtipbknkjledebaaDoorLcsP
import Derived.Test.YtipbknkjledebaaDoorTreeC
namespace Go.Proofs.YtipbknkjledebaaDoor
open Go Go.RowKit

theorem slzInt : SlZ Tryd.prog 93 3 (.int .i64 0) 8 := slZ_of Tryd.underlying93 (by kernel_rfl) rfl
theorem slzRows : SlZ Tryd.prog 91 93 (.slice none 0 0) 24 := slZ_of Tryd.underlying91 (by kernel_rfl) rfl
def TabRes (w : World) (xs ys : List ByteArray) (e : Ending) (w' : World) : Prop := ∃ bo, e = .returned (.slice (some ⟨bo, 0, none⟩) (xs.length + 1) (xs.length + 1)) ∧ TabAt w' bo xs.length ys.length (lcsAt xs ys) ∧ w.heap.size ≤ bo ∧ Below w.heap.size w w'
/-- the table when row p - 1 is filled down to place q -/
def fillG (xs ys : List ByteArray) (p q r c : Nat) : Nat := if p ≤ r ∨ (r + 1 = p ∧ q ≤ c) then lcsAt xs ys r c else 0
theorem fillG_start {xs ys : List ByteArray} {r c : Nat} (hr : r ≤ xs.length) (hc : c ≤ ys.length) : fillG xs ys xs.length (ys.length + 1) r c = 0 := by
  unfold fillG
  split
  · rename_i h
    rw [show r = xs.length by omega, lcsAt_end_left]
  · rfl
theorem fillG_row {xs ys : List ByteArray} {p r c : Nat} (hc : c ≤ ys.length) : fillG xs ys p (ys.length + 1) r c = fillG xs ys p ys.length r c := by
  unfold fillG
  by_cases h : p ≤ r
  · simp [h]
  · by_cases h2 : r + 1 = p ∧ ys.length ≤ c
    · rw [if_neg (by omega), if_pos (.inr h2), show c = ys.length by omega, lcsAt_end_right]
    · rw [if_neg (by omega), if_neg (by omega)]
theorem fillG_next {xs ys : List ByteArray} {i r c : Nat} (hc : c ≤ ys.length) : fillG xs ys (i + 1) 0 r c = fillG xs ys i (ys.length + 1) r c := by
  unfold fillG
  by_cases h : i ≤ r
  · rw [if_pos (by omega), if_pos (by omega)]
  · rw [if_neg (by omega), if_neg (by omega)]
theorem fillG_set {xs ys : List ByteArray} {i j r c : Nat} : (if r = i ∧ c = j then lcsAt xs ys i j else fillG xs ys (i + 1) (j + 1) r c) = fillG xs ys (i + 1) j r c := by
  unfold fillG
  by_cases h : r = i ∧ c = j
  · obtain ⟨rfl, rfl⟩ := h
    simp
  · rw [if_neg h]
    by_cases h2 : i + 1 ≤ r ∨ (r + 1 = i + 1 ∧ j + 1 ≤ c)
    · rw [if_pos h2, if_pos (by omega)]
    · rw [if_neg h2, if_neg (by omega)]
theorem fillG_in {xs ys : List ByteArray} {p q r c : Nat} (h : p ≤ r ∨ (r + 1 = p ∧ q ≤ c)) : fillG xs ys p q r c = lcsAt xs ys r c := by
  unfold fillG; rw [if_pos h]
attribute [irreducible] fillG

set_option maxHeartbeats 10000000 in
set_option maxRecDepth 100000 in
theorem rtable_any (va vb : Value) (xs ys : List ByteArray) (w : World) (ha : SRow w va xs) (hb : SRow w vb ys) (la : xs.length ≤ 1000) (lb : ys.length ≤ 1000) :
    Calls Tryd.prog 59 #[va, vb] w (TabRes w xs ys) := by
  obtain ⟨a, ca, rfl, h1, h2, _, hca⟩ := ha.form
  obtain ⟨b, cb, rfl, h3, h4, _, hcb⟩ := hb.form
  unfold maxLen at h2 h4
  have HCa := Lib.hid hca
  have HCb := Lib.hid hcb
  clear ha hb hca hcb
  have hn : ((xs.length : Int) + 1) = ((xs.length + 1 : Nat) : Int) := by omega
  have hm : ((ys.length : Int) + 1) = ((ys.length + 1 : Nat) : Int) := by omega
  have HN := Lib.hid hn
  have HM := Lib.hid hm
  clear hn hm
  have q1 : 24 * (xs.length + 1) ≤ 281474976710656 := by omega
  have q2 : xs.length + 1 ≤ maxLen := by unfold maxLen; omega
  have q3 : 8 * (ys.length + 1) ≤ 281474976710656 := by omega
  have q4 : ys.length + 1 ≤ maxLen := by unfold maxLen; omega
  go_enter Tryd.func59, Tryd.ntmps59
  go_wp2_with (refine wpList_make_arr slzRows rfl _ _ rfl _ _ rfl rfl HN.out q1 q2 ?_; intro w1 hA1 hb1 hs1)
  have HA1 := Lib.hid hA1
  have HS1 := Lib.hid hs1
  clear hA1 hs1
  go_loopw [6] (fun i wr => ∃ k : Nat, k ≤ xs.length + 1 ∧ i = .int .i64 k ∧ Arr wr w.heap.size (outRow w.heap.size ys.length xs.length k) ∧ Hid (∀ r, r < k → Arr wr (w.heap.size + 1 + r) (List.replicate (ys.length + 1) (.int .i64 0))) ∧ Hid (wr.heap.size = w.heap.size + 1 + k) ∧ Below w.heap.size w wr) (fun i _ => xs.length + 1 - (intOf i).toNat)
  case atStart => exact ⟨0, by omega, rfl, by rw [outRow_zero]; exact HA1.out, (fun r hr => by omega), HS1.out, hb1⟩
  case round =>
    obtain ⟨k, hk, rfl, hA, HR, HZ, hbl⟩ := hrel
    by_cases hlt : k ≤ xs.length
    · have hcc := hA.cell (outRow_get' (show ¬ k < k by omega) hlt)
      have hff := hA.free k
      have hbo := hA.lt
      have HA := Lib.hid hA
      clear hA
      go_wp2_with (refine wpList_make_arr slzInt rfl _ _ rfl _ _ rfl rfl HM.out q3 q4 ?_; intro w2 hA2 hb2 hs2; have cc := (hb2.cell (p := ⟨w.heap.size, k, none⟩) hbo).trans hcc; have ff := (hb2.frozen (p := ⟨w.heap.size, k, none⟩) hbo).trans hff; have HA2 := Lib.hid hA2; have HS2 := Lib.hid hs2; clear hA2 hs2)
      go_roundw
      case rel =>
        have hz := HZ.out
        refine ⟨k + 1, by omega, by go_num, ?_, fun r hr => ?_, ?_, (below_over hbl hbl.size hb2).setCell (by simp) _⟩
        · rw [hz, ← outRow_set hlt]; exact (HA.out.over hb2).set k _
        · by_cases hrk : r < k
          · exact ((HR.out r hrk).over hb2).set_other (by show w.heap.size + 1 + r ≠ w.heap.size; omega) _
          · obtain rfl : r = k := by omega
            have := HA2.out
            rw [hz] at this
            exact this.set_other (by show w.heap.size + 1 + r ≠ w.heap.size; omega) _
        · have := HS2.out; show (World.heap _).size = _; simp; omega
      case measure => simp [intOf]; omega
    · obtain rfl : k = xs.length + 1 := by omega
      have hT : TabAt wr w.heap.size xs.length ys.length (fillG xs ys xs.length (ys.length + 1)) :=
        (⟨hA, fun r hr => by rw [natRow_zero]; exact HR.out r (by omega)⟩ : TabAt wr w.heap.size xs.length ys.length (fun _ _ => 0)).ext fun r c hr hc => (fillG_start hr hc).symm
      have HT := Lib.hid hT
      clear hA hT
      go_wp2_with fail
      go_loopw [7, 8, 9] (fun i _ _ wr => ∃ p : Nat, p ≤ xs.length ∧ i = .int .i64 ((p : Int) - 1) ∧ Hid (TabAt wr w.heap.size xs.length ys.length (fillG xs ys p (ys.length + 1))) ∧ Below w.heap.size w wr) (fun i _ _ _ => (intOf i + 1).toNat)
      case atStart => exact ⟨xs.length, by omega, rfl, HT, hbl⟩
      case round =>
        obtain ⟨p, hp, rfl, HTp, hblp⟩ := hrel
        by_cases hp0 : p = 0
        · subst hp0
          have HF : Hid (TabAt wr w.heap.size xs.length ys.length (lcsAt xs ys)) := HTp.out.ext fun r c _ _ => fillG_in (.inl (Nat.zero_le _))
          go_wp2_with fail
          go_ret
          exact ⟨w.heap.size, rfl, HF.out, Nat.le_refl _, hblp⟩
        · obtain ⟨i, rfl⟩ : ∃ i, p = i + 1 := ⟨p - 1, by omega⟩
          have ei : (((i + 1 : Nat) : Int) - 1) = (i : Int) := by omega
          rw [ei]
          have HT2 : Hid (TabAt wr w.heap.size xs.length ys.length (fillG xs ys (i + 1) ys.length)) := HTp.out.ext fun r c _ hc => fillG_row hc
          clear HTp HT ei hp0
          go_wp2_with fail
          obtain ⟨wo, rfl⟩ : ∃ wo : World, wo = wr := ⟨_, rfl⟩
          go_loopw [8, 9] (fun j _ wr => ∃ q : Nat, q ≤ ys.length ∧ j = .int .i64 ((q : Int) - 1) ∧ Hid (TabAt wr w.heap.size xs.length ys.length (fillG xs ys (i + 1) q)) ∧ Below w.heap.size w wr) (fun j _ _ => (intOf j + 1).toNat)
          case atStart => exact ⟨ys.length, by omega, rfl, HT2, hblp⟩
          case round =>
            obtain ⟨q, hq, rfl, HTq, hblq⟩ := hrel
            by_cases hq0 : q = 0
            · subst hq0
              have HF : Hid (TabAt wr w.heap.size xs.length ys.length (fillG xs ys i (ys.length + 1))) := HTq.out.ext fun r c _ hc => fillG_next hc
              go_wp2_with fail
              go_roundw
              case rel => exact ⟨i, by omega, rfl, HF, hblq⟩
              case measure => simp [intOf] <;> omega
            · obtain ⟨j, rfl⟩ : ∃ j, q = j + 1 := ⟨q - 1, by omega⟩
              have ej : (((j + 1 : Nat) : Int) - 1) = (j : Int) := by omega
              rw [ej]
              obtain ⟨bA, oA, rfl, sA, cA⟩ := HCa.out.resolve_left (by omega)
              obtain ⟨bB, oB, rfl, sB, cB⟩ := HCb.out.resolve_left (by omega)
              obtain ⟨x, hx⟩ := get_of_lt (xs := xs) (i := i) (by omega)
              obtain ⟨y, hy⟩ := get_of_lt (xs := ys) (i := j) (by omega)
              have c1 := (hblq.cell (p := ⟨bA, oA + i, none⟩) sA).trans (cA i x hx)
              have c2 := (hblq.cell (p := ⟨bB, oB + j, none⟩) sB).trans (cB j y hy)
              have sA' : bA < wr.heap.size := Nat.lt_of_lt_of_le sA hblq.size
              have sB' : bB < wr.heap.size := Nat.lt_of_lt_of_le sB hblq.size
              have r1 := HTq.out.row (r := i + 1) (by omega)
              have r0 := HTq.out.row (r := i) (by omega)
              have d1 := HTq.out.cell (r := i + 1) (c := j) (by omega) (by omega)
              have d2 := HTq.out.cell (r := i) (c := j + 1) (by omega) (by omega)
              have d3 := HTq.out.cell (r := i + 1) (c := j + 1) (by omega) (by omega)
              have d0 := HTq.out.cell (r := i) (c := j) (by omega) (by omega)
              have df := HTq.out.free (r := i) (by omega) j
              have l0 := HTq.out.lt (r := i) (by omega)
              have l1 := HTq.out.lt (r := i + 1) (by omega)
              rw [fillG_in (.inl (by omega))] at d1 d3
              rw [fillG_in (.inr ⟨rfl, by omega⟩)] at d2
              have b1 := lcsAt_le xs ys (i + 1) j
              have b2 := lcsAt_le xs ys i (j + 1)
              have b3 := lcsAt_le xs ys (i + 1) (j + 1)
              have hdg := lcsAt_diag hx hy
              have HEq : Hid (x = y → lcsAt xs ys i j = lcsAt xs ys (i + 1) (j + 1) + 1) := lcsAt_eq hx hy
              have HNe : Hid (¬ x = y → lcsAt xs ys i j = max (lcsAt xs ys (i + 1) j) (lcsAt xs ys i (j + 1))) := lcsAt_ne hx hy
              have HSet : Hid (∀ z, z = lcsAt xs ys i j → TabAt (wr.setCell ⟨w.heap.size + 1 + i, j, none⟩ (.int .i64 (z : Nat))) w.heap.size xs.length ys.length (fillG xs ys (i + 1) j)) := fun z hz => by
                subst hz
                exact (HTq.out.set (r := i) (c := j) (by omega) (by omega) _).ext fun r c _ _ => fillG_set
              have hbo : w.heap.size + 1 + i < wr.heap.size := l0
              have hbo0 : w.heap.size < wr.heap.size := by omega
              clear cA cB hx hy HTq ej hq0
              generalize lcsAt xs ys i j = z0 at *
              generalize lcsAt xs ys (i + 1) j = u at *
              generalize lcsAt xs ys i (j + 1) = v at *
              generalize lcsAt xs ys (i + 1) (j + 1) = d at *
              generalize fillG xs ys (i + 1) (j + 1) i j = old at *
              by_cases huv : u < v
              · by_cases hxy : x = y
                · have hz := HEq.out hxy
                  have HZ := Lib.hid hz
                  have hb1 := seq_t hxy
                  clear hz hxy
                  by_cases hbd : v < d + 1
                  · go_wp2_with fail
                    refine wp_region_lex (C := IsOver wr) 23 [] (by kernel_rfl) (by kernel_rfl) (isOver_of (by repeat (first | exact Below.refl _ _ | apply Below.drew | apply below_drewN | (refine Below.alloc ?_ (by simp) _)))) ?_
                    simp only [List.take_succ_cons, List.take_zero, List.drop_succ_cons, List.drop_zero]
                    repeat (first | (refine lex_skip rfl rfl ?_; simp only [Act.put, List.setIfInBounds_toArray, List.set_cons_succ, List.set_cons_zero]) | (refine lex_one rfl ?_; go_big_quiet_step (fail); refine wpQuiet_nil ?_))
                    refine lex_end ?_
                    go_wp2_with fail
                    go_roundw
                    case rel =>
                      have hz : (d + 1 : Nat) = z0 := by have := HZ.out; omega
                      have hs := (HSet.out _ hz).drew
                      refine ⟨j, by omega, rfl, ?_, (hblq.setCell (by show w.heap.size ≤ w.heap.size + 1 + i; omega) _).drew⟩
                      show TabAt _ _ _ _ _
                      simpa using hs
                    case measure => simp [intOf] <;> omega
                  · go_wp2_with fail
                    refine wp_region_lex (C := IsOver wr) 23 [] (by kernel_rfl) (by kernel_rfl) (isOver_of (by repeat (first | exact Below.refl _ _ | apply Below.drew | apply below_drewN | (refine Below.alloc ?_ (by simp) _)))) ?_
                    simp only [List.take_succ_cons, List.take_zero, List.drop_succ_cons, List.drop_zero]
                    repeat (first | (refine lex_skip rfl rfl ?_; simp only [Act.put, List.setIfInBounds_toArray, List.set_cons_succ, List.set_cons_zero]) | (refine lex_one rfl ?_; go_big_quiet_step (fail); refine wpQuiet_nil ?_))
                    refine lex_end ?_
                    go_wp2_with fail
                    go_roundw
                    case rel =>
                      have hz : (v : Nat) = z0 := by have := HZ.out; omega
                      have hs := (HSet.out _ hz).drew
                      refine ⟨j, by omega, rfl, ?_, (hblq.setCell (by show w.heap.size ≤ w.heap.size + 1 + i; omega) _).drew⟩
                      show TabAt _ _ _ _ _
                      simpa using hs
                    case measure => simp [intOf] <;> omega
                · have hz := HNe.out hxy
                  have HZ := Lib.hid hz
                  have hb1 := seq_f hxy
                  clear hz hxy
                  go_wp2_with fail
                  refine wp_region_lex (C := IsOver wr) 23 [] (by kernel_rfl) (by kernel_rfl) (isOver_of (by repeat (first | exact Below.refl _ _ | apply Below.drew | apply below_drewN | (refine Below.alloc ?_ (by simp) _)))) ?_
                  simp only [List.take_succ_cons, List.take_zero, List.drop_succ_cons, List.drop_zero]
                  repeat (first | (refine lex_skip rfl rfl ?_; simp only [Act.put, List.setIfInBounds_toArray, List.set_cons_succ, List.set_cons_zero]) | (refine lex_one rfl ?_; go_big_quiet_step (fail); refine wpQuiet_nil ?_))
                  refine lex_end ?_
                  go_wp2_with fail
                  go_roundw
                  case rel =>
                    have hz : (v : Nat) = z0 := by have := HZ.out; omega
                    have hs := (HSet.out _ hz).drew
                    refine ⟨j, by omega, rfl, ?_, (hblq.setCell (by show w.heap.size ≤ w.heap.size + 1 + i; omega) _).drew⟩
                    show TabAt _ _ _ _ _
                    simpa using hs
                  case measure => simp [intOf] <;> omega
              · by_cases hxy : x = y
                · have hz := HEq.out hxy
                  have HZ := Lib.hid hz
                  have hb1 := seq_t hxy
                  clear hz hxy
                  by_cases hbd : u < d + 1
                  · go_wp2_with fail
                    refine wp_region_lex (C := IsOver wr) 23 [] (by kernel_rfl) (by kernel_rfl) (isOver_of (by repeat (first | exact Below.refl _ _ | apply Below.drew | apply below_drewN | (refine Below.alloc ?_ (by simp) _)))) ?_
                    simp only [List.take_succ_cons, List.take_zero, List.drop_succ_cons, List.drop_zero]
                    repeat (first | (refine lex_skip rfl rfl ?_; simp only [Act.put, List.setIfInBounds_toArray, List.set_cons_succ, List.set_cons_zero]) | (refine lex_one rfl ?_; go_big_quiet_step (fail); refine wpQuiet_nil ?_))
                    refine lex_end ?_
                    go_wp2_with fail
                    go_roundw
                    case rel =>
                      have hz : (d + 1 : Nat) = z0 := by have := HZ.out; omega
                      have hs := (HSet.out _ hz).drew
                      refine ⟨j, by omega, rfl, ?_, (hblq.setCell (by show w.heap.size ≤ w.heap.size + 1 + i; omega) _).drew⟩
                      show TabAt _ _ _ _ _
                      simpa using hs
                    case measure => simp [intOf] <;> omega
                  · go_wp2_with fail
                    refine wp_region_lex (C := IsOver wr) 23 [] (by kernel_rfl) (by kernel_rfl) (isOver_of (by repeat (first | exact Below.refl _ _ | apply Below.drew | apply below_drewN | (refine Below.alloc ?_ (by simp) _)))) ?_
                    simp only [List.take_succ_cons, List.take_zero, List.drop_succ_cons, List.drop_zero]
                    repeat (first | (refine lex_skip rfl rfl ?_; simp only [Act.put, List.setIfInBounds_toArray, List.set_cons_succ, List.set_cons_zero]) | (refine lex_one rfl ?_; go_big_quiet_step (fail); refine wpQuiet_nil ?_))
                    refine lex_end ?_
                    go_wp2_with fail
                    go_roundw
                    case rel =>
                      have hz : (u : Nat) = z0 := by have := HZ.out; omega
                      have hs := (HSet.out _ hz).drew
                      refine ⟨j, by omega, rfl, ?_, (hblq.setCell (by show w.heap.size ≤ w.heap.size + 1 + i; omega) _).drew⟩
                      show TabAt _ _ _ _ _
                      simpa using hs
                    case measure => simp [intOf] <;> omega
                · have hz := HNe.out hxy
                  have HZ := Lib.hid hz
                  have hb1 := seq_f hxy
                  clear hz hxy
                  go_wp2_with fail
                  refine wp_region_lex (C := IsOver wr) 23 [] (by kernel_rfl) (by kernel_rfl) (isOver_of (by repeat (first | exact Below.refl _ _ | apply Below.drew | apply below_drewN | (refine Below.alloc ?_ (by simp) _)))) ?_
                  simp only [List.take_succ_cons, List.take_zero, List.drop_succ_cons, List.drop_zero]
                  repeat (first | (refine lex_skip rfl rfl ?_; simp only [Act.put, List.setIfInBounds_toArray, List.set_cons_succ, List.set_cons_zero]) | (refine lex_one rfl ?_; go_big_quiet_step (fail); refine wpQuiet_nil ?_))
                  refine lex_end ?_
                  go_wp2_with fail
                  go_roundw
                  case rel =>
                    have hz : (u : Nat) = z0 := by have := HZ.out; omega
                    have hs := (HSet.out _ hz).drew
                    refine ⟨j, by omega, rfl, ?_, (hblq.setCell (by show w.heap.size ≤ w.heap.size + 1 + i; omega) _).drew⟩
                    show TabAt _ _ _ _ _
                    simpa using hs
                  case measure => simp [intOf] <;> omega
end Go.Proofs.YtipbknkjledebaaDoor
