/- Contracts of the sum by definition, whole, and of its digits. -/
import Derived.Test.YtloehmcfmjbidaaDoorShaE
import Derived.Test.YtloehmcfmjbidaaDoorShaP
namespace Go.Proofs.YtloehmcfmjbidaaDoor
open Go Go.RowKit
attribute [local irreducible] Sha.pad

theorem sub_row {w : World} {k : IntKind} {b off cap n : Nat} {xs : List Nat} {i m : Nat} (hb : b < w.heap.size) (hc : ∀ j, j < xs.length → w.cell? ⟨b, off + j, none⟩ = some (.int k (nth xs j : Nat)))
    (hi : i + m ≤ xs.length) (hm : m ≤ cap) (hcm : cap ≤ maxLen) : IRow w k (.slice (some ⟨b, off + i, none⟩) m cap) ((xs.drop i).take m) := by
  have hl : ((xs.drop i).take m).length = m := by simp; omega
  unfold IRow
  rw [hl]
  refine ⟨by rw [ints_len, hl]; omega, _, cap, rfl, hm, hcm, (fun h => by cases h), fun _ => ⟨b, off + i, rfl, hb, fun j u hu => ?_⟩⟩
  have hj : j < m := by
    have := (List.getElem?_eq_some_iff.1 hu).1
    rw [ints_len, hl] at this; exact this
  rw [ints_get (by omega)] at hu
  cases hu
  have := hc (i + j) (by omega)
  rw [← Nat.add_assoc] at this
  rw [this]
  congr 3
  simp [nth, List.getElem?_take, hj]

theorem flat_snoc {l : List Nat} {f : Nat → List Nat} {k : Nat} (h : k < l.length) : (l.take (k + 1)).flatMap f = (l.take k).flatMap f ++ f (nth l k) := by
  rw [Sha.take_snoc_nth h, List.flatMap_append]; simp

set_option maxHeartbeats 4000000 in
set_option maxRecDepth 100000 in
theorem rsum_any (kv hv bv : Value) (K b : List Nat) (h : Sha.St) (w : World) (hK : IRow w .u32 kv K) (hH : IRow w .u32 hv h.list) (hb : IRow w .u8 bv b) (lK : K.length = 64) (lb : b.length ≤ 3000)
    (wK : Sha.Words K) (oh : Sha.Ok h) (sb : Sha.Bytes b) :
    Calls Tryd.prog 9 #[kv, hv, bv] w fun e w' => ∃ v', e = .returned v' ∧ IRow w' .u8 v' (Sha.sum K h b) ∧ Below w.heap.size w w' := by
  have hpl := Sha.pad_len b
  have hpn := Sha.pad_length b
  have hz := Sha.zeros_lt b.length
  have HP := Lib.hid hpn
  have hpp : Sha.Bytes (Sha.pad b) := Sha.pad_bytes sb
  have hub : (Sha.pad b).length ≤ 3072 := by omega
  obtain ⟨q, hq⟩ : ∃ q, (Sha.pad b).length = 64 * q := ⟨(Sha.pad b).length / 64, by omega⟩
  have hq64 : (Sha.pad b).length / 64 = q := by omega
  have HQ := Lib.hid hq
  have HS : Hid (Sha.sum K h b = (Sha.chain K (Sha.pad b) h q).list.flatMap Sha.bytes4) := by unfold Hid Sha.sum; rw [hq64]
  clear hpl hpn hz hq64
  go_enter Tryd.func9, Tryd.ntmps9
  go_wp2_with (go_at_call 15; refine (pad_any _ _ _ hb lb).mono ?_; rintro e w1 ⟨v1, rfl, hp1, hb1⟩)
  obtain ⟨ap, cp, hv1, hcp, hcm, hc⟩ := hp1.form
  rw [hq] at hv1 hc hcp
  subst hv1
  have hq1 : 1 ≤ q := by have := HP.out; omega
  obtain ⟨bp, op, rfl, hbp, hc⟩ := hc.resolve_left (by omega)
  have HC := Lib.hid hc
  have HK1 := Lib.hid (hK.over hb1)
  have HH1 := Lib.hid (hH.over hb1)
  clear hc hp1 hq hK hH
  have hq48 : q ≤ 48 := by have := HQ.out; omega
  clear hub
  go_loopw [1, 8] (fun hv i wr => ∃ k : Nat, k ≤ q ∧ i = .int .i64 (64 * k : Nat) ∧ IRow wr .u32 hv (Sha.chain K (Sha.pad b) h k).list ∧ Below w1.heap.size w1 wr) (fun _ i _ => 64 * q - (intOf i).toNat)
  case atStart => exact ⟨0, by omega, rfl, by rw [Sha.chain_zero]; exact HH1.out, Below.refl _ _⟩
  case round =>
    obtain ⟨k, hk, rfl, hh, hbl⟩ := hrel
    have HHk := Lib.hid hh; clear hh
    by_cases hlt : k < q
    · have hsub : IRow wr .u8 (.slice (some ⟨bp, op + 64 * k, none⟩) 64 (cp - 64 * k)) (((Sha.pad b).drop (64 * k)).take 64) :=
        sub_row (n := 0) (Nat.lt_of_lt_of_le hbp hbl.size) (fun j hj => (hbl.cell (p := ⟨bp, op + j, none⟩) hbp).trans (HC.out j (by have := HQ.out; omega))) (by have := HQ.out; omega) (by omega) (by omega)
      have HSub := Lib.hid hsub; clear hsub
      have hl64 : (((Sha.pad b).drop (64 * k)).take 64).length = 64 := by have := HQ.out; simp; omega
      have HL := Lib.hid hl64; clear hl64
      have HBy : Hid (Sha.Bytes (((Sha.pad b).drop (64 * k)).take 64)) := Sha.bytes_sub hpp
      have HCh := Lib.hid (Sha.chain_step K (Sha.pad b) h k)
      have HOk := Lib.hid (Sha.chain_ok (K := K) (l := Sha.pad b) oh k)
      have HB2 := Lib.hid (hbl.mono (Nat.le_refl _))
      go_wp2_with (go_at_call 16; refine (rblock_any _ _ _ _ _ _ _ (HK1.out.over hbl) HHk.out HSub.out lK HL.out wK HOk.out HBy.out).mono ?_; rintro e w2 ⟨v2, rfl, hr, hb2⟩)
      go_roundw
      case rel => exact ⟨k + 1, by omega, by go_num, by rw [HCh.out]; exact hr, below_over hbl hbl.size hb2⟩
      case measure => simp [intOf] <;> omega
    · obtain rfl : k = q := by omega
      have hok := Sha.ok_nth (Sha.chain_ok (K := K) (l := Sha.pad b) oh k)
      have HOk := Lib.hid hok; clear hok
      generalize hLe : (Sha.chain K (Sha.pad b) h k).list = L at *
      have hL8 : L.length = 8 := by rw [← hLe]; rfl
      have HLe := Lib.hid hLe; clear hLe
      obtain ⟨aL, cL, hvL, _, _, hcL⟩ := HHk.out.form
      rw [hL8] at hvL hcL
      subst hvL
      obtain ⟨bL, oL, rfl, sL, hcL⟩ := hcL.resolve_left (by decide)
      have HL8 := Lib.hid hL8; clear hL8
      have HcL := Lib.hid hcL; clear hcL
      clear HHk
      obtain ⟨wo, rfl⟩ : ∃ wo : World, wo = wr := ⟨_, rfl⟩
      go_wp2
      go_loopw [9, 10] (fun v i wr => ∃ j : Nat, j ≤ 8 ∧ i = .int .i64 j ∧ wr.ownsRow wo.heap.size 5 1 v (4 * j) (ints .u8 ((L.take j).flatMap Sha.bytes4)) ∧ Below wo.heap.size wo wr) (fun _ i _ => 8 - (intOf i).toNat)
      case atStart => exact ⟨0, by omega, rfl, World.ownsRow_nil _ _ _ _, Below.refl _ _⟩
      case round =>
        obtain ⟨j, hj, rfl, ho, hbl5⟩ := hrel
        have hB : wo.heap.size ≤ wr.heap.size := hbl5.size
        by_cases hlt : j < 8
        · have hN : 4 * j + 4 ≤ 1099511627776 := by omega
          have cL1 : wr.cell? ⟨bL, oL + j, none⟩ = some (.int .u32 (nth L j : Nat)) := (hbl5.cell (p := ⟨bL, oL + j, none⟩) sL).trans (HcL.out j hlt)
          have sL1 : bL < wr.heap.size := Nat.lt_of_lt_of_le sL hB
          have e1 := HOk.out j
          have HT := Lib.hid (flat_snoc (l := L) (f := Sha.bytes4) (k := j) (by have := HL8.out; omega))
          have HO := Lib.hid ho; clear ho
          generalize nth L j = x at *
          go_wp2_with fail
          refine wp_region_lex (C := IsOver wr) 28 [] (by kernel_rfl) (by kernel_rfl) (isOver_of (by repeat (first | exact Below.refl _ _ | apply Below.drew | apply below_drewN | (refine Below.alloc ?_ (by simp) _)))) ?_
          simp only [List.take_succ_cons, List.take_zero, List.drop_succ_cons, List.drop_zero]
          repeat (first | (refine lex_one rfl ?_; go_big_quiet_step (fail); refine wpQuiet_nil ?_) | (refine lex_loud rfl ?_; go_wp2_with fail; refine ⟨(isOver_of (by repeat (first | exact Below.refl _ _ | apply Below.drew | apply below_drewN | (refine Below.alloc ?_ (by simp) _)))), ?_⟩))
          refine lex_end ?_
          go_wp2_with (at_builtin; (first | refine wpList_append_newD slU8 rfl _ _ rfl wo.heap.size _ _ (drawn_alloc_drewN _ _ _) 4 _ _ _ HO.out rfl rfl rfl rfl hN (by decide) hB ?_ | refine wpList_append_newD slU8 rfl _ _ rfl wo.heap.size _ _ (drawn_drew _) 4 _ _ _ HO.out rfl rfl rfl rfl hN (by decide) hB ?_ | refine wpList_append_newD slU8 rfl _ _ rfl wo.heap.size _ _ (drawn_drewN _ _) 4 _ _ _ HO.out rfl rfl rfl rfl hN (by decide) hB ?_ | refine wpList_append_newD slU8 rfl _ _ rfl wo.heap.size _ _ (drawn_refl _) 4 _ _ _ HO.out rfl rfl rfl rfl hN (by decide) hB ?_); intro v' w1 hown1 hg1)
          go_roundw
          case rel =>
            refine ⟨j + 1, by omega, by go_num, ?_, below_grown hbl5 hB HO.out hg1⟩
            rw [HT.out, ints_append, show 4 * (j + 1) = 4 * j + 4 by omega]
            have hx : ((x : Int) / 16777216) % 256 = (x : Int) / 16777216 := by omega
            simpa [ints, Sha.bytes4, hx] using hown1
          case measure => simp [intOf] <;> omega
        · obtain rfl : j = 8 := by omega
          have hfin : IRow wr .u8 u9 (L.flatMap Sha.bytes4) := by
            have := own_irow ho
            rwa [List.take_of_length_le (by have := HL8.out; omega)] at this
          have HFin := Lib.hid hfin
          have HBel := Lib.hid (below_over (below_over hb1 hb1.size hbl) (Nat.le_trans hb1.size hbl.size) hbl5)
          clear hfin ho
          go_wp2_with fail
          go_ret
          exact ⟨u9, rfl, by rw [HS.out]; exact HFin.out, HBel.out⟩

/-- bytes as text -/
def str (l : List UInt8) : Value := .string ⟨l.toArray⟩
theorem run_add_str {P : Program} (t : TypeId) (a b : List UInt8) (w : World) (h : a.length + b.length ≤ 9223372036854775807) : (binOp .add t (str a) (str b)).run P w = .ok (str (a ++ b)) w := by
  have h1 : (⟨a.toArray⟩ : ByteArray).size = a.length := by simp [ByteArray.size]
  have h2 : (⟨b.toArray⟩ : ByteArray).size = b.length := by simp [ByteArray.size]
  have h3 : (⟨a.toArray⟩ : ByteArray) ++ ⟨b.toArray⟩ = ⟨(a ++ b).toArray⟩ := by
    apply ByteArray.ext; simp [ByteArray.data_append]
  simp only [binOp, str, Op.stringOp]
  simp [h1, h2, h3]
  omega
theorem run_guard_str {P : Program} (t : TypeId) (x y : Operand) (a b : List UInt8) (w : World) : (eqGuard .add t x y (str a) (str b)).run P w = .ok () w := by
  simp [eqGuard]
theorem conv_irow {w : World} {v : Value} {bs : List Nat} (hr : IRow w .u8 v bs) : (convert 22 9 v).run Tryd.prog w = .ok (str (bs.map UInt8.ofNat)) w := by
  obtain ⟨a, cap, rfl, _, _, hc⟩ := hr.form
  rcases hc with h0 | ⟨b, off, rfl, _, hc⟩
  · have hb : bs = [] := List.eq_nil_of_length_eq_zero h0
    subst hb
    cases a with
    | none => exact run_convert_bytes_nil w 22 5 Tryd.underlying22 Tryd.underlying5 _ _ 9 Tryd.underlying9
    | some ad =>
      rw [run_convert_bytes_string w 22 9 5 _ _ _ Tryd.underlying22 Tryd.underlying5 Tryd.underlying9, run_bytesToString w ad _ cap [] rfl]
      rfl
  · have := run_convert_bytes_arg (P := Tryd.prog) w 22 5 Tryd.underlying22 Tryd.underlying5 b off bs.length cap (bs.map fun (x : Nat) => (x : Int)) (by simp) (fun i hi => by rw [hc i hi]; simp [nth, hi]) 9 Tryd.underlying9
    rw [this]
    simp [str, strOfNums]

theorem digit_i64 (w : World) (n : Nat) (hn : n < 16) : (Instr.index 9 (.string ⟨#[48, 49, 50, 51, 52, 53, 54, 55, 56, 57, 97, 98, 99, 100, 101, 102]⟩) (.int .i64 n)).run Tryd.prog w = .ok (.int .u8 ((Sha.hexd n).toNat : Nat)) w := by
  match n, hn with
  | 0, _ => exact (show (Instr.index 9 (.string ⟨#[48, 49, 50, 51, 52, 53, 54, 55, 56, 57, 97, 98, 99, 100, 101, 102]⟩) (.int .i64 ((0 : Nat) : Int))).run Tryd.prog w = .ok (.int .u8 ((Sha.hexd 0).toNat : Nat)) w from by kernel_rfl)
  | 1, _ => exact (show (Instr.index 9 (.string ⟨#[48, 49, 50, 51, 52, 53, 54, 55, 56, 57, 97, 98, 99, 100, 101, 102]⟩) (.int .i64 ((1 : Nat) : Int))).run Tryd.prog w = .ok (.int .u8 ((Sha.hexd 1).toNat : Nat)) w from by kernel_rfl)
  | 2, _ => exact (show (Instr.index 9 (.string ⟨#[48, 49, 50, 51, 52, 53, 54, 55, 56, 57, 97, 98, 99, 100, 101, 102]⟩) (.int .i64 ((2 : Nat) : Int))).run Tryd.prog w = .ok (.int .u8 ((Sha.hexd 2).toNat : Nat)) w from by kernel_rfl)
  | 3, _ => exact (show (Instr.index 9 (.string ⟨#[48, 49, 50, 51, 52, 53, 54, 55, 56, 57, 97, 98, 99, 100, 101, 102]⟩) (.int .i64 ((3 : Nat) : Int))).run Tryd.prog w = .ok (.int .u8 ((Sha.hexd 3).toNat : Nat)) w from by kernel_rfl)
  | 4, _ => exact (show (Instr.index 9 (.string ⟨#[48, 49, 50, 51, 52, 53, 54, 55, 56, 57, 97, 98, 99, 100, 101, 102]⟩) (.int .i64 ((4 : Nat) : Int))).run Tryd.prog w = .ok (.int .u8 ((Sha.hexd 4).toNat : Nat)) w from by kernel_rfl)
  | 5, _ => exact (show (Instr.index 9 (.string ⟨#[48, 49, 50, 51, 52, 53, 54, 55, 56, 57, 97, 98, 99, 100, 101, 102]⟩) (.int .i64 ((5 : Nat) : Int))).run Tryd.prog w = .ok (.int .u8 ((Sha.hexd 5).toNat : Nat)) w from by kernel_rfl)
  | 6, _ => exact (show (Instr.index 9 (.string ⟨#[48, 49, 50, 51, 52, 53, 54, 55, 56, 57, 97, 98, 99, 100, 101, 102]⟩) (.int .i64 ((6 : Nat) : Int))).run Tryd.prog w = .ok (.int .u8 ((Sha.hexd 6).toNat : Nat)) w from by kernel_rfl)
  | 7, _ => exact (show (Instr.index 9 (.string ⟨#[48, 49, 50, 51, 52, 53, 54, 55, 56, 57, 97, 98, 99, 100, 101, 102]⟩) (.int .i64 ((7 : Nat) : Int))).run Tryd.prog w = .ok (.int .u8 ((Sha.hexd 7).toNat : Nat)) w from by kernel_rfl)
  | 8, _ => exact (show (Instr.index 9 (.string ⟨#[48, 49, 50, 51, 52, 53, 54, 55, 56, 57, 97, 98, 99, 100, 101, 102]⟩) (.int .i64 ((8 : Nat) : Int))).run Tryd.prog w = .ok (.int .u8 ((Sha.hexd 8).toNat : Nat)) w from by kernel_rfl)
  | 9, _ => exact (show (Instr.index 9 (.string ⟨#[48, 49, 50, 51, 52, 53, 54, 55, 56, 57, 97, 98, 99, 100, 101, 102]⟩) (.int .i64 ((9 : Nat) : Int))).run Tryd.prog w = .ok (.int .u8 ((Sha.hexd 9).toNat : Nat)) w from by kernel_rfl)
  | 10, _ => exact (show (Instr.index 9 (.string ⟨#[48, 49, 50, 51, 52, 53, 54, 55, 56, 57, 97, 98, 99, 100, 101, 102]⟩) (.int .i64 ((10 : Nat) : Int))).run Tryd.prog w = .ok (.int .u8 ((Sha.hexd 10).toNat : Nat)) w from by kernel_rfl)
  | 11, _ => exact (show (Instr.index 9 (.string ⟨#[48, 49, 50, 51, 52, 53, 54, 55, 56, 57, 97, 98, 99, 100, 101, 102]⟩) (.int .i64 ((11 : Nat) : Int))).run Tryd.prog w = .ok (.int .u8 ((Sha.hexd 11).toNat : Nat)) w from by kernel_rfl)
  | 12, _ => exact (show (Instr.index 9 (.string ⟨#[48, 49, 50, 51, 52, 53, 54, 55, 56, 57, 97, 98, 99, 100, 101, 102]⟩) (.int .i64 ((12 : Nat) : Int))).run Tryd.prog w = .ok (.int .u8 ((Sha.hexd 12).toNat : Nat)) w from by kernel_rfl)
  | 13, _ => exact (show (Instr.index 9 (.string ⟨#[48, 49, 50, 51, 52, 53, 54, 55, 56, 57, 97, 98, 99, 100, 101, 102]⟩) (.int .i64 ((13 : Nat) : Int))).run Tryd.prog w = .ok (.int .u8 ((Sha.hexd 13).toNat : Nat)) w from by kernel_rfl)
  | 14, _ => exact (show (Instr.index 9 (.string ⟨#[48, 49, 50, 51, 52, 53, 54, 55, 56, 57, 97, 98, 99, 100, 101, 102]⟩) (.int .i64 ((14 : Nat) : Int))).run Tryd.prog w = .ok (.int .u8 ((Sha.hexd 14).toNat : Nat)) w from by kernel_rfl)
  | 15, _ => exact (show (Instr.index 9 (.string ⟨#[48, 49, 50, 51, 52, 53, 54, 55, 56, 57, 97, 98, 99, 100, 101, 102]⟩) (.int .i64 ((15 : Nat) : Int))).run Tryd.prog w = .ok (.int .u8 ((Sha.hexd 15).toNat : Nat)) w from by kernel_rfl)
  | n + 16, h => exact absurd h (by omega)
theorem digit_u8 (w : World) (n : Nat) (hn : n < 16) : (Instr.index 9 (.string ⟨#[48, 49, 50, 51, 52, 53, 54, 55, 56, 57, 97, 98, 99, 100, 101, 102]⟩) (.int .u8 n)).run Tryd.prog w = .ok (.int .u8 ((Sha.hexd n).toNat : Nat)) w := by
  match n, hn with
  | 0, _ => exact (show (Instr.index 9 (.string ⟨#[48, 49, 50, 51, 52, 53, 54, 55, 56, 57, 97, 98, 99, 100, 101, 102]⟩) (.int .u8 ((0 : Nat) : Int))).run Tryd.prog w = .ok (.int .u8 ((Sha.hexd 0).toNat : Nat)) w from by kernel_rfl)
  | 1, _ => exact (show (Instr.index 9 (.string ⟨#[48, 49, 50, 51, 52, 53, 54, 55, 56, 57, 97, 98, 99, 100, 101, 102]⟩) (.int .u8 ((1 : Nat) : Int))).run Tryd.prog w = .ok (.int .u8 ((Sha.hexd 1).toNat : Nat)) w from by kernel_rfl)
  | 2, _ => exact (show (Instr.index 9 (.string ⟨#[48, 49, 50, 51, 52, 53, 54, 55, 56, 57, 97, 98, 99, 100, 101, 102]⟩) (.int .u8 ((2 : Nat) : Int))).run Tryd.prog w = .ok (.int .u8 ((Sha.hexd 2).toNat : Nat)) w from by kernel_rfl)
  | 3, _ => exact (show (Instr.index 9 (.string ⟨#[48, 49, 50, 51, 52, 53, 54, 55, 56, 57, 97, 98, 99, 100, 101, 102]⟩) (.int .u8 ((3 : Nat) : Int))).run Tryd.prog w = .ok (.int .u8 ((Sha.hexd 3).toNat : Nat)) w from by kernel_rfl)
  | 4, _ => exact (show (Instr.index 9 (.string ⟨#[48, 49, 50, 51, 52, 53, 54, 55, 56, 57, 97, 98, 99, 100, 101, 102]⟩) (.int .u8 ((4 : Nat) : Int))).run Tryd.prog w = .ok (.int .u8 ((Sha.hexd 4).toNat : Nat)) w from by kernel_rfl)
  | 5, _ => exact (show (Instr.index 9 (.string ⟨#[48, 49, 50, 51, 52, 53, 54, 55, 56, 57, 97, 98, 99, 100, 101, 102]⟩) (.int .u8 ((5 : Nat) : Int))).run Tryd.prog w = .ok (.int .u8 ((Sha.hexd 5).toNat : Nat)) w from by kernel_rfl)
  | 6, _ => exact (show (Instr.index 9 (.string ⟨#[48, 49, 50, 51, 52, 53, 54, 55, 56, 57, 97, 98, 99, 100, 101, 102]⟩) (.int .u8 ((6 : Nat) : Int))).run Tryd.prog w = .ok (.int .u8 ((Sha.hexd 6).toNat : Nat)) w from by kernel_rfl)
  | 7, _ => exact (show (Instr.index 9 (.string ⟨#[48, 49, 50, 51, 52, 53, 54, 55, 56, 57, 97, 98, 99, 100, 101, 102]⟩) (.int .u8 ((7 : Nat) : Int))).run Tryd.prog w = .ok (.int .u8 ((Sha.hexd 7).toNat : Nat)) w from by kernel_rfl)
  | 8, _ => exact (show (Instr.index 9 (.string ⟨#[48, 49, 50, 51, 52, 53, 54, 55, 56, 57, 97, 98, 99, 100, 101, 102]⟩) (.int .u8 ((8 : Nat) : Int))).run Tryd.prog w = .ok (.int .u8 ((Sha.hexd 8).toNat : Nat)) w from by kernel_rfl)
  | 9, _ => exact (show (Instr.index 9 (.string ⟨#[48, 49, 50, 51, 52, 53, 54, 55, 56, 57, 97, 98, 99, 100, 101, 102]⟩) (.int .u8 ((9 : Nat) : Int))).run Tryd.prog w = .ok (.int .u8 ((Sha.hexd 9).toNat : Nat)) w from by kernel_rfl)
  | 10, _ => exact (show (Instr.index 9 (.string ⟨#[48, 49, 50, 51, 52, 53, 54, 55, 56, 57, 97, 98, 99, 100, 101, 102]⟩) (.int .u8 ((10 : Nat) : Int))).run Tryd.prog w = .ok (.int .u8 ((Sha.hexd 10).toNat : Nat)) w from by kernel_rfl)
  | 11, _ => exact (show (Instr.index 9 (.string ⟨#[48, 49, 50, 51, 52, 53, 54, 55, 56, 57, 97, 98, 99, 100, 101, 102]⟩) (.int .u8 ((11 : Nat) : Int))).run Tryd.prog w = .ok (.int .u8 ((Sha.hexd 11).toNat : Nat)) w from by kernel_rfl)
  | 12, _ => exact (show (Instr.index 9 (.string ⟨#[48, 49, 50, 51, 52, 53, 54, 55, 56, 57, 97, 98, 99, 100, 101, 102]⟩) (.int .u8 ((12 : Nat) : Int))).run Tryd.prog w = .ok (.int .u8 ((Sha.hexd 12).toNat : Nat)) w from by kernel_rfl)
  | 13, _ => exact (show (Instr.index 9 (.string ⟨#[48, 49, 50, 51, 52, 53, 54, 55, 56, 57, 97, 98, 99, 100, 101, 102]⟩) (.int .u8 ((13 : Nat) : Int))).run Tryd.prog w = .ok (.int .u8 ((Sha.hexd 13).toNat : Nat)) w from by kernel_rfl)
  | 14, _ => exact (show (Instr.index 9 (.string ⟨#[48, 49, 50, 51, 52, 53, 54, 55, 56, 57, 97, 98, 99, 100, 101, 102]⟩) (.int .u8 ((14 : Nat) : Int))).run Tryd.prog w = .ok (.int .u8 ((Sha.hexd 14).toNat : Nat)) w from by kernel_rfl)
  | 15, _ => exact (show (Instr.index 9 (.string ⟨#[48, 49, 50, 51, 52, 53, 54, 55, 56, 57, 97, 98, 99, 100, 101, 102]⟩) (.int .u8 ((15 : Nat) : Int))).run Tryd.prog w = .ok (.int .u8 ((Sha.hexd 15).toNat : Nat)) w from by kernel_rfl)
  | n + 16, h => exact absurd h (by omega)
theorem digit_hi (w : World) (x : Nat) (hx : x < 256) : (Instr.index 9 (.string ⟨#[48, 49, 50, 51, 52, 53, 54, 55, 56, 57, 97, 98, 99, 100, 101, 102]⟩) (.int .i64 ((x : Int) / 16))).run Tryd.prog w = .ok (.int .u8 ((Sha.hexd (x / 16)).toNat : Nat)) w := by
  have := digit_i64 w (x / 16) (by omega)
  rwa [Int.natCast_ediv] at this
theorem digit_lo (w : World) (x : Nat) : (Instr.index 9 (.string ⟨#[48, 49, 50, 51, 52, 53, 54, 55, 56, 57, 97, 98, 99, 100, 101, 102]⟩) (.int .i64 ((x : Int) % 16))).run Tryd.prog w = .ok (.int .u8 ((Sha.hexd (x % 16)).toNat : Nat)) w := by
  have := digit_i64 w (x % 16) (Nat.mod_lt _ (by decide))
  rwa [Int.natCast_emod] at this

set_option maxHeartbeats 1000000 in
theorem rhex_any (bv : Value) (b : List Nat) (w : World) (hb : IRow w .u8 bv b) (lb : b.length ≤ 32) (sb : Sha.Bytes b) :
    Calls Tryd.prog 11 #[bv] w fun e w' => e = .returned (str (Sha.hex b)) ∧ Below w.heap.size w w' := by
  obtain ⟨aB, cB, rfl, _, _, hcB⟩ := hb.form
  go_enter Tryd.func11, Tryd.ntmps11
  go_wp2
  go_loopw [3, 4] (fun v i wr => ∃ j : Nat, j ≤ b.length ∧ i = .int .i64 j ∧ v = str (Sha.hex (b.take j)) ∧ Below w.heap.size w wr) (fun _ i _ => b.length - (intOf i).toNat)
  case atStart => exact ⟨0, by omega, rfl, rfl, Below.refl _ _⟩
  case round =>
    obtain ⟨j, hj, rfl, rfl, hbl⟩ := hrel
    by_cases hlt : j < b.length
    · obtain ⟨bB, oB, rfl, sB, hc⟩ := hcB.resolve_left (by omega)
      have c1 : wr.cell? ⟨bB, oB + j, none⟩ = some (.int .u8 (nth b j : Nat)) := (hbl.cell (p := ⟨bB, oB + j, none⟩) sB).trans (hc j hlt)
      have sB' : bB < wr.heap.size := Nat.lt_of_lt_of_le sB hbl.size
      have hx := sb j
      have d1 := fun w => digit_hi w (nth b j) hx
      have d2 := fun w => digit_lo w (nth b j)
      have hcv : ∀ o, o = Obj.cells #[.int .u8 ((Sha.hexd (nth b j / 16)).toNat : Nat), .int .u8 ((Sha.hexd (nth b j % 16)).toNat : Nat)] 5 →
          (convert 22 9 (.slice (some ⟨wr.heap.size, 0, none⟩) 2 2)).run Tryd.prog (wr.alloc o).drew = .ok (str [Sha.hexd (nth b j / 16), Sha.hexd (nth b j % 16)]) (wr.alloc o).drew := by
        rintro o rfl
        have := conv_irow (irow_new (k := .u8) (xs := [(Sha.hexd (nth b j / 16)).toNat, (Sha.hexd (nth b j % 16)).toNat]) (w := wr) (n := 2) (e := 5) (drawn_drew _) rfl rfl (by decide))
        simpa using this
      have hcv := hcv _ rfl
      have hlen : (Sha.hex (b.take j)).length ≤ 2 * j := Sha.hex_len _ _
      have had := fun w => run_add_str (P := Tryd.prog) 9 (Sha.hex (b.take j)) [Sha.hexd (nth b j / 16), Sha.hexd (nth b j % 16)] w (by simp; omega)
      have HT : Hid (Sha.hex (b.take (j + 1)) = Sha.hex (b.take j) ++ [Sha.hexd (nth b j / 16), Sha.hexd (nth b j % 16)]) := by
        unfold Hid Sha.hex
        rw [Sha.take_snoc_nth hlt, List.flatMap_append]; simp
      clear hc hcB
      go_wp2_with fail
      refine wp_region_lex (C := IsOver wr) 19 [16] (by kernel_rfl) (by kernel_rfl) (isOver_of (by repeat (first | exact Below.refl _ _ | apply Below.drew | apply below_drewN | (refine Below.alloc ?_ (by simp) _)))) ?_
      simp only [List.take_succ_cons, List.take_zero, List.drop_succ_cons, List.drop_zero]
      repeat (first | (refine lex_one rfl ?_; go_big_quiet_step (fail); refine wpQuiet_nil ?_) | (refine lex_loud rfl ?_; go_wp2_with fail; refine ⟨(isOver_of (by repeat (first | exact Below.refl _ _ | apply Below.drew | apply below_drewN | (refine Below.alloc ?_ (by simp) _)))), ?_⟩))
      refine lex_end ?_
      go_wp2_with fail
      go_roundw
      case rel => exact ⟨j + 1, by omega, by go_num, by rw [HT.out], (hbl.alloc hbl.size _).drew⟩
      case measure => simp [intOf] <;> omega
    · obtain rfl : j = b.length := by omega
      rw [List.take_length]
      go_wp2_with fail
      go_ret
      exact ⟨rfl, hbl⟩
end Go.Proofs.YtloehmcfmjbidaaDoor
