/- Contracts of package sha: Sum and Hex. -/
import Derived.Test.YtloehmcfmjbidaaDoorShaH
namespace Go.Proofs.YtloehmcfmjbidaaDoor
open Go Go.RowKit
attribute [local irreducible] Sha.pad

namespace Sha
theorem flatten_snoc {ls : List (List Nat)} {k : Nat} (h : k < ls.length) : (ls.take (k + 1)).flatten = (ls.take k).flatten ++ ls.getD k [] := by
  rw [List.take_succ_eq_append_getElem h, List.flatten_append]; simp [h]
theorem flatten_le (ls : List (List Nat)) (k : Nat) : (ls.take k).flatten.length ≤ ls.flatten.length := by
  have h : ls.flatten = (ls.take k).flatten ++ (ls.drop k).flatten := by rw [← List.flatten_append, List.take_append_drop]
  rw [h, List.length_append]; omega
/-- how many bytes the first k parts have -/
def flen (ls : List (List Nat)) (k : Nat) : Nat := (ls.take k).flatten.length
theorem flen_zero (ls : List (List Nat)) : flen ls 0 = 0 := rfl
theorem flen_def (ls : List (List Nat)) (k : Nat) : flen ls k = (ls.take k).flatten.length := rfl
attribute [irreducible] flen
end Sha
theorem rowT32 : RowT Tryd.prog 27 32 := rowT_of Tryd.underlying27 rfl (by kernel_rfl)

/-- lists of bytes behind a slice of slices -/
def PRow (w : World) (v : Value) (ls : List (List Nat)) : Prop :=
  ∃ vs : List Value, Row w v ls.length 1 vs ∧ ∀ i, i < ls.length → ∃ u, vs[i]? = some u ∧ IRow w .u8 u (ls.getD i [])

/-- what holds wherever the run comes to the label -/
def AtFill (ap : Option Addr) (ln cp B n : Nat) (w0 : World) (bs : List Nat) (a : Act) (w : World) : Prop :=
  ∃ (v : Value) (k : Nat) (u1 u6 u7 u8 u9 u10 u11 u12 u13 u14 u15 u16 u17 u18 u19 u20 u21 u22 u23 u24 u25 u26 u27 u28 u29 u30 u31 u32 u33 u34 u35 u36 u37 u38 u39 u40 u41 u42 u43 u44 u45 u46 u47 u48 u49 u50 u51 u52 u53 u54 u55 u56 u57 u58 u59 u60 u61 u62 u63 u64 u65 u66 u67 u68 u69 u70 u71 u72 u73 u74 u75 u76 : Value), a = { tmps := ((Value.slice ap ln cp) :: u1 :: (Value.pointer (some ⟨B, 0, none⟩)) :: (Value.pointer (some ⟨B + 1, 0, none⟩)) :: (Value.int .u64 (n : Int)) :: (v) :: u6 :: u7 :: u8 :: u9 :: u10 :: u11 :: u12 :: u13 :: u14 :: u15 :: u16 :: u17 :: u18 :: u19 :: u20 :: u21 :: u22 :: u23 :: u24 :: u25 :: u26 :: u27 :: u28 :: u29 :: u30 :: u31 :: u32 :: u33 :: u34 :: u35 :: u36 :: u37 :: u38 :: u39 :: u40 :: u41 :: u42 :: u43 :: u44 :: u45 :: u46 :: u47 :: u48 :: u49 :: u50 :: u51 :: u52 :: u53 :: u54 :: u55 :: u56 :: u57 :: u58 :: u59 :: u60 :: u61 :: u62 :: u63 :: u64 :: u65 :: u66 :: u67 :: u68 :: u69 :: u70 :: u71 :: u72 :: u73 :: u74 :: u75 :: u76 :: ([] : List Value)).toArray, defers := [] } ∧ k ≤ Sha.zeros bs.length ∧
    w.ownsRow (B + 2) 5 1 v (bs.length + 1 + k) (ints .u8 (bs ++ [128] ++ List.replicate k 0)) ∧ Arr w (B + 1) (ints .u32 Sha.H0.list) ∧ Arr w B (List.replicate 32 (.int .u8 0)) ∧ Below B w0 w


theorem wp_scope_label {P : Program} {a : Act} {w : World} {Q : Exit → Act → World → Prop} {c rest : Code} (l : Nat) (J : Act → World → Prop) (μ : Act → World → Nat) (hf : findLabel c l = some (Code.skip.seq rest))
    (pass : ∀ a w, J a w → rest.wp P (Exit.jump l (fun a' w' => J a' w' ∧ μ a' w' < μ a w) Q) a w)
    (first : Hid (∀ a w, J a w → rest.wp P (Exit.jump l J Q) a w) → c.wp P (Exit.jump l J Q) a w) : (Code.scope c).wp P Q a w :=
  wp_scope_jumps l J μ hf (first (Lib.hid fun a w h => Code.wp_mono (fun e a' w' hq => by
    cases e <;> simp only [Exit.jump] at hq ⊢ <;> first | exact hq | exact ⟨hq.1, hq.2.1⟩) (pass a w h))) (fun a w h => wp_seq (wp_skip (pass a w h)))

theorem wpList_put_arr2 {P : Program} {ty : TypeId} {size : Nat} {w : World} {ops : Array Oper} {rest : List Oper} {o : Oper} {a : Act} {Q : Exit → Act → World → Prop} (T : RowT P ty size) (hgd : o.guard = none) (x y : Operand) (ho : o.op = .store ty x y) (g : Nat) (cs new : List Value) (hA : Arr w g cs) (hx : a.eval x = .pointer (some ⟨g, 0, none⟩))
    (hy : a.eval y = .agg new.toArray) (hl : cs.length = size) (hn : new.length = size) (h1 : new.all (fun u => u.oneCell') = true)
    (h : ∀ w', Arr w' g new → (∀ k, k ≠ g → w'.heap[k]? = w.heap[k]?) → (∀ B w0, B ≤ g → Below B w0 w → Below B w0 w') → w'.heap.size = w.heap.size → wpList P ops Q rest (a.put o.dst undef) w') : wpList P ops Q (o :: rest) a w :=
  wpList_store_arr T hgd x y ho g cs new hA hx hy hl hn h1 (h _ (hA.row new) (fun k hk => setRow_other w g k _ hk) (fun B w0 hB hb => below_setRow hb hB _) (by simp))
theorem Arr.block {w w' : World} {g : Nat} {cs : List Value} (h : Arr w g cs) (hb : w'.heap[g]? = w.heap[g]?) : Arr w' g cs := by
  obtain ⟨e, h⟩ := h; exact ⟨e, hb.trans h⟩
/-- a block is as it was -/
def Kept (w w' : World) (b : Nat) : Prop := w'.heap[b]? = w.heap[b]?
theorem ok_H0 : Sha.Ok Sha.H0 := ⟨by decide, by decide, by decide, by decide, by decide, by decide, by decide, by decide⟩
theorem flat_nth (s : Sha.St) {j : Nat} (h : j < 32) : nth (s.list.flatMap Sha.bytes4) j = nth s.list (j / 4) / 2 ^ (24 - 8 * (j % 4)) % 256 := by
  match j, h with
  | 0, _ => exact rfl
  | 1, _ => exact rfl
  | 2, _ => exact rfl
  | 3, _ => exact (by simp [Sha.St.list, Sha.bytes4, nth])
  | 4, _ => exact rfl
  | 5, _ => exact rfl
  | 6, _ => exact rfl
  | 7, _ => exact (by simp [Sha.St.list, Sha.bytes4, nth])
  | 8, _ => exact rfl
  | 9, _ => exact rfl
  | 10, _ => exact rfl
  | 11, _ => exact (by simp [Sha.St.list, Sha.bytes4, nth])
  | 12, _ => exact rfl
  | 13, _ => exact rfl
  | 14, _ => exact rfl
  | 15, _ => exact (by simp [Sha.St.list, Sha.bytes4, nth])
  | 16, _ => exact rfl
  | 17, _ => exact rfl
  | 18, _ => exact rfl
  | 19, _ => exact (by simp [Sha.St.list, Sha.bytes4, nth])
  | 20, _ => exact rfl
  | 21, _ => exact rfl
  | 22, _ => exact rfl
  | 23, _ => exact (by simp [Sha.St.list, Sha.bytes4, nth])
  | 24, _ => exact rfl
  | 25, _ => exact rfl
  | 26, _ => exact rfl
  | 27, _ => exact (by simp [Sha.St.list, Sha.bytes4, nth])
  | 28, _ => exact rfl
  | 29, _ => exact rfl
  | 30, _ => exact rfl
  | 31, _ => exact (by simp [Sha.St.list, Sha.bytes4, nth])
  | n + 32, h => exact absurd h (by omega)
/-- the first j of R, and noughts -/
def filled (R : List Nat) (n j : Nat) : List Nat := R.take j ++ List.replicate (n - j) 0
theorem filled_zero (R : List Nat) (n : Nat) : ints .u8 (filled R n 0) = List.replicate n (.int .u8 0) := by simp [filled, ints]
theorem filled_full {R : List Nat} {n : Nat} (h : R.length = n) : filled R n n = R := by simp [filled, ← h]
theorem filled_step {R : List Nat} {n j : Nat} (h : R.length = n) (hj : j < n) : (filled R n j).set j (nth R j) = filled R n (j + 1) := by
  have hl : (R.take j).length = j := by simp; omega
  have ht : R.take (j + 1) = R.take j ++ [nth R j] := Sha.take_snoc_nth (by omega)
  rw [filled, filled, show n - j = (n - (j + 1)) + 1 by omega, List.replicate_succ, List.set_append_right _ _ (by omega), hl, Nat.sub_self, List.set_cons_zero, ht]
  simp
theorem filled_len {R : List Nat} {n j : Nat} (h : R.length = n) (hj : j ≤ n) : (filled R n j).length = n := by simp [filled]; omega
attribute [irreducible] filled
theorem tail8_snoc (m : Nat) {j : Nat} (h : j < 8) : (Sha.tail8 m).take (j + 1) = (Sha.tail8 m).take j ++ [m / 2 ^ (56 - 8 * j) % 256] := by
  match j, h with
  | 0, _ => rfl | 1, _ => rfl | 2, _ => rfl | 3, _ => rfl | 4, _ => rfl | 5, _ => rfl | 6, _ => rfl | 7, _ => simp [Sha.tail8]

set_option maxHeartbeats 4000000 in
set_option maxRecDepth 100000 in
theorem ssum_hid (pv : Value) (ls : List (List Nat)) (bs : List Nat) (w : World) (HB : Hid (ls.flatten = bs)) (hL : Laid w) (hp : PRow w pv ls) (hn : ls.length ≤ 10) (hl : bs.length ≤ 3000) (sb : Sha.Bytes bs) :
    Calls Tryd.prog 8 #[pv] w fun e w' => e = .returned (.agg (ints .u8 (Sha.sum Sha.K0 Sha.H0 bs)).toArray) ∧ Below w.heap.size w w' := by
  obtain ⟨vs, hrow, hel⟩ := hp
  obtain ⟨_, ap, cp, rfl, _, _, _, hc⟩ := hrow
  go_enter Tryd.func8, Tryd.ntmps8
  go_wp2_with fail
  refine wp_scope_label 0 (AtFill ap ls.length cp w.heap.size bs.length w bs) (fun a _ => bs.length + 100 - lenOf (a.tmps.getD 5 undef)) rfl ?_ ?_
  · rintro a w0 ⟨v, k, u1, u6, u7, u8, u9, u10, u11, u12, u13, u14, u15, u16, u17, u18, u19, u20, u21, u22, u23, u24, u25, u26, u27, u28, u29, u30, u31, u32, u33, u34, u35, u36, u37, u38, u39, u40, u41, u42, u43, u44, u45, u46, u47, u48, u49, u50, u51, u52, u53, u54, u55, u56, u57, u58, u59, u60, u61, u62, u63, u64, u65, u66, u67, u68, u69, u70, u71, u72, u73, u74, u75, u76, rfl, hk, ho, hA, hR, hbl⟩
    obtain ⟨a', cap', hv, _, _⟩ := (own_row ho).2
    subst hv
    have hB2 : w.heap.size + 2 ≤ w0.heap.size := hA.lt
    have hz := Sha.zeros_lt bs.length
    by_cases hlt : k < Sha.zeros bs.length
    · have hne := Sha.zeros_not hlt
      have hN : bs.length + 1 + k + 1 ≤ 1099511627776 := by omega
      have HO := Lib.hid ho; clear ho
      go_wp2_with (at_builtin; refine wpList_append_new slU8 rfl _ _ rfl (w.heap.size + 2) _ _ 1 _ _ _ HO.out rfl rfl rfl rfl hN (by decide) hB2 ?_; intro v2 w2 ho2 hg2)
      go_step3
      have hA2 : Arr w2 (w.heap.size + 1) (ints .u32 Sha.H0.list) := hA.grown hg2 fun he => by have := (HO.out.lt _ he.symm).1; omega
      have hR2 : Arr w2 w.heap.size (List.replicate 32 (.int .u8 0)) := hR.grown hg2 fun he => by have := (HO.out.lt _ he.symm).1; omega
      have hb2 : Below w.heap.size w w2 := hbl.grown hg2 (by omega) fun q hq => by have := (HO.out.lt _ hq).1; omega
      have ho3 : w2.ownsRow (w.heap.size + 2) 5 1 v2 (bs.length + 1 + (k + 1)) (ints .u8 (bs ++ [128] ++ List.replicate (k + 1) 0)) := by
        rw [List.replicate_succ', ← List.append_assoc, ints_append]; exact ho2
      obtain ⟨a2, cap2, hv2, _, _⟩ := (own_row ho3).2
      subst hv2
      refine ⟨rfl, ⟨⟨_, k + 1, _, _, _, _, _, _, _, _, _, _, _, _, _, _, _, _, _, _, _, _, _, _, _, _, _, _, _, _, _, _, _, _, _, _, _, _, _, _, _, _, _, _, _, _, _, _, _, _, _, _, _, _, _, _, _, _, _, _, _, _, _, _, _, _, _, _, _, _, _, _, _, _, rfl, by omega, ho3, hA2, hR2, hb2⟩, ?_⟩⟩
      simp [lenOf]
      omega
    · obtain rfl : k = Sha.zeros bs.length := by omega
      have hne := Sha.zeros_at bs.length
      have HO := Lib.hid ho; clear ho
      have HAR := Lib.hid (And.intro hA (And.intro hR hbl)); clear hA hR
      have hzz : (((bs.length : Int) + 1 + (Sha.zeros bs.length : Int)) % 64 != 56) = false := by simp; omega
      clear hne hlt hk
      have HPd := Lib.hid (Sha.pad_eq bs)
      have hpn := Sha.pad_length bs
      obtain ⟨q, hq⟩ : ∃ q, (Sha.pad bs).length = 64 * q := ⟨(Sha.pad bs).length / 64, by have := Sha.pad_len bs; omega⟩
      have HQ := Lib.hid hq
      have HPn := Lib.hid hpn
      have HP3 := Lib.hid (Sha.pad_bytes sb)
      have hq1 : 1 ≤ q := by omega
      have hq48 : q ≤ 48 := by omega
      have HS : Hid (Sha.sum Sha.K0 Sha.H0 bs = (Sha.chain Sha.K0 (Sha.pad bs) Sha.H0 q).list.flatMap Sha.bytes4) := by unfold Hid Sha.sum; rw [show (Sha.pad bs).length / 64 = q by omega]
      clear hq hpn sb
      generalize bs ++ [128] ++ List.replicate (Sha.zeros bs.length) 0 = PB at *
      generalize hPL : Sha.pad bs = L at *
      clear hPL
      go_wp2_with fail
      go_loopw [5, 8] (fun v i wr => ∃ j : Nat, j ≤ 8 ∧ i = .int .i64 (56 - 8 * (j : Int)) ∧ wr.ownsRow (w.heap.size + 2) 5 1 v (bs.length + 1 + Sha.zeros bs.length + j) (ints .u8 (PB ++ (Sha.tail8 (bs.length * 8)).take j)) ∧
        Arr wr (w.heap.size + 1) (ints .u32 Sha.H0.list) ∧ Arr wr w.heap.size (List.replicate 32 (.int .u8 0)) ∧ Below w.heap.size w wr) (fun _ i _ => (intOf i + 8).toNat)
      case atStart => exact ⟨0, by omega, rfl, by rw [List.take_zero, List.append_nil]; exact HO.out, HAR.out.1, HAR.out.2.1, HAR.out.2.2⟩
      case round =>
        obtain ⟨j, hj, rfl, ho, hA, hR, hbl⟩ := hrel
        have hB2 : w.heap.size + 2 ≤ wr.heap.size := hA.lt
        obtain ⟨a1, cap1, rfl, _, _⟩ := (own_row ho).2
        have HO1 := Lib.hid ho; clear ho
        have HAR1 := Lib.hid (And.intro hA (And.intro hR hbl)); clear hA hR hbl HO HAR
        by_cases hlt : j < 8
        · have hN : bs.length + 1 + Sha.zeros bs.length + j + 1 ≤ 1099511627776 := by omega
          have HT := Lib.hid (tail8_snoc (bs.length * 8) hlt)
          go_wp2_with (at_builtin; refine wpList_append_new slU8 rfl _ _ rfl (w.heap.size + 2) _ _ 1 _ _ _ HO1.out rfl rfl rfl rfl hN (by decide) hB2 ?_; intro v2 w2 ho2 hg2)
          go_roundw
          case rel =>
            obtain ⟨hA, hR, hbl⟩ := HAR1.out
            refine ⟨j + 1, by omega, by simp; omega, ?_, hA.grown hg2 fun he => by have := (HO1.out.lt _ he.symm).1; omega, hR.grown hg2 fun he => by have := (HO1.out.lt _ he.symm).1; omega, hbl.grown hg2 (by omega) fun q hq => by have := (HO1.out.lt _ hq).1; omega⟩
            rw [HT.out, ← List.append_assoc, ints_append]
            exact ho2
          case measure => simp [intOf] <;> omega
        · obtain rfl : j = 8 := by omega
          have ho := HO1.out
          rw [List.take_of_length_le (by rw [Sha.tail8]; simp), ← Sha.tl_eight, ← HPd.out] at ho
          have hir := own_irow ho
          obtain ⟨ap2, cp2, hv2, hcp, hcm, hc⟩ := hir.form
          rw [HQ.out] at hv2 hc hcp
          obtain ⟨ha2, hM, hc2⟩ := Value.slice.inj hv2
          subst ha2; subst hc2
          obtain ⟨bp, op, rfl, hbp, hc⟩ := hc.resolve_left (by omega)
          obtain ⟨hA, hR, hbl⟩ := HAR1.out
          rw [hM]
          have HC := Lib.hid hc
          have HIR := Lib.hid hir
          have HA := Lib.hid hA
          have HR := Lib.hid hR
          have HBl := Lib.hid hbl
          have hbp2 : w.heap.size + 2 ≤ bp := (HO1.out.lt _ rfl).1
          clear hv2 hM hc hir ho hA hR hbl HAR1 HO1 hlt hj
          obtain ⟨wo, rfl⟩ : ∃ wo : World, wo = wr := ⟨_, rfl⟩
          go_wp2_with fail
          go_loopw [5] (fun v wr => ∃ i : Nat, i ≤ q ∧ ∃ ad : Option Addr, v = .slice ad (64 * (q - i)) (cap1 - 64 * i) ∧ (i < q → ad = some ⟨bp, op + 64 * i, none⟩) ∧
            Arr wr (w.heap.size + 1) (ints .u32 (Sha.chain Sha.K0 L Sha.H0 i).list) ∧ Arr wr w.heap.size (List.replicate 32 (.int .u8 0)) ∧ Below w.heap.size w wr ∧ wo.heap.size ≤ wr.heap.size ∧ Kept wo wr bp) (fun v _ => lenOf v)
          case atStart => exact ⟨0, by omega, _, by simp, fun _ => rfl, by rw [Sha.chain_zero]; exact HA.out, HR.out, HBl.out, Nat.le_refl _, rfl⟩
          case round =>
            obtain ⟨i, hi, ad, rfl, had, hA, hR, hbl, hsz, hbk⟩ := hrel
            by_cases hlt : i < q
            · obtain rfl := had hlt
              have hcell : ∀ j, j < L.length → wr.cell? ⟨bp, op + j, none⟩ = some (.int .u8 (nth L j : Nat)) := fun j hj => by
                rw [World.cell?_of_block (w := wo) (w' := wr) (a := ⟨bp, op + j, none⟩) (by exact hbk)]; exact HC.out j (by rw [← HQ.out]; exact hj)
              have hbpr : bp < wr.heap.size := Nat.lt_of_lt_of_le hbp hsz
              have hcap : 64 * q ≤ cap1 := hcp
              have hsub : IRow wr .u8 (.slice (some ⟨bp, op + 64 * i, none⟩) 64 (cap1 - 64 * i)) ((L.drop (64 * i)).take 64) :=
                sub_row (n := 0) hbpr hcell (by have := HQ.out; omega) (by omega) (by omega)
              have HSub := Lib.hid hsub
              have HL64 : Hid (((L.drop (64 * i)).take 64).length = 64) := by unfold Hid; have := HQ.out; simp; omega
              have HBy : Hid (Sha.Bytes ((L.drop (64 * i)).take 64)) := Sha.bytes_sub HP3.out
              have HCh := Lib.hid (Sha.chain_step Sha.K0 L Sha.H0 i)
              have HOk := Lib.hid (Sha.chain_ok (K := Sha.K0) (l := L) ok_H0 i)
              have HLd := Lib.hid (hL.over hbl)
              have HA3 := Lib.hid hA
              have HR3 := Lib.hid hR
              have HB3 := Lib.hid hbl
              have hB1 : w.heap.size + 1 < wr.heap.size := hA.lt
              clear hA hR hbl hsub hcell had
              have HBk := Lib.hid hbk; clear hbk
              generalize (L.drop (64 * i)).take 64 = Y at *
              generalize Sha.chain Sha.K0 L Sha.H0 i = s at *
              go_wp2_with fail
              refine wp_region_lex (C := IsOver wr) 4 [0] (by kernel_rfl) (by kernel_rfl) (isOver_of (by repeat (first | exact Below.refl _ _ | apply Below.drew | apply below_drewN | (refine Below.alloc ?_ (by simp) _)))) ?_
              simp only [List.take_succ_cons, List.take_zero, List.drop_succ_cons, List.drop_zero]
              repeat (first | (refine lex_one rfl ?_; go_big_quiet_step (fail); refine wpQuiet_nil ?_) | (refine lex_loud rfl ?_; go_wp2_with (first | refine wpList_load_arr rowT8 rfl _ rfl _ _ (HA3.out.drew) rfl rfl ?_ | (go_at_call 14; refine (sblock_any _ _ _ _ (HLd.out.over (Below.refl _ _).drew) HSub.out.drew HL64.out HBy.out HOk.out).mono ?_; rintro e w2 ⟨rfl, hb2⟩)); (refine ⟨isOver_of ?_, ?_⟩; (first | exact (Below.refl _ _).drew | exact (Below.refl _ _).drew.trans hb2))))
              refine lex_end ?_
              have hA4 := (HA3.out.drew).over hb2
              have hR4 := (HR3.out.drew).over hb2
              have hB4 : Below w.heap.size w w2 := below_over HB3.out.drew HB3.out.size hb2
              have hk4 : w2.heap[bp]? = wo.heap[bp]? := (hb2.block bp hbpr).trans HBk.out
              have hz4 : wr.heap.size ≤ w2.heap.size := hb2.size
              have hl8 : (ints .u32 s.list).length = 8 := rfl
              have hn8 : (ints .u32 (Sha.block Sha.K0 s Y).list).length = 8 := rfl
              have ho8 := List.all_eq_true.2 (ints_one .u32 (Sha.block Sha.K0 s Y).list)
              have HB4 := Lib.hid (And.intro hA4 (And.intro hR4 (And.intro hB4 hk4)))
              clear hA4 hR4 hB4 hk4 hb2
              go_wp2_with (refine wpList_put_arr2 rowT8 rfl _ _ rfl _ _ (ints .u32 (Sha.block Sha.K0 s Y).list) HB4.out.1 rfl rfl hl8 hn8 ho8 ?_; intro w3 hA5 hO5 hB5 hS5; (have HO5 := Lib.hid (And.intro hA5 (And.intro hO5 hB5))); clear hA5 hO5 hB5)
              all_goals
                go_roundw
                case rel =>
                  refine ⟨i + 1, by omega, _, ⟨rfl, by omega, by omega⟩, fun h => (by first | omega | rw [show op + 64 * i + 64 = op + 64 * (i + 1) by omega]), by rw [HCh.out]; exact HO5.out.1, HB4.out.2.1.block (HO5.out.2.1 _ (by omega)), HO5.out.2.2 _ _ (by omega) HB4.out.2.2.1, by omega, (HO5.out.2.1 _ (by omega)).trans HB4.out.2.2.2⟩
                case measure => simp [lenOf] <;> omega
            · obtain rfl : i = q := by omega
              rw [Nat.sub_self, Nat.mul_zero]
              clear had
              obtain ⟨wo2, rfl⟩ : ∃ wo2 : World, wo2 = wr := ⟨_, rfl⟩
              have HAo := Lib.hid (fun o => hA.alloc o)
              have HRo := Lib.hid (fun o => hR.alloc o)
              have HBo := Lib.hid (fun o => hbl.alloc hbl.size o)
              have hB1 : w.heap.size + 1 < wo2.heap.size := hA.lt
              have HRL : Hid ((Sha.sum Sha.K0 Sha.H0 bs).length = 32) := by unfold Hid; rw [HS.out]; rfl
              have HNth := Lib.hid (fun j h => (congrArg (fun z => nth z j) HS.out).trans (flat_nth (Sha.chain Sha.K0 L Sha.H0 i) (j := j) h))
              have hok := Sha.ok_nth (Sha.chain_ok (K := Sha.K0) (l := L) ok_H0 i)
              clear hA hR hbl hbk HC HIR HA HR HBl HP3 HQ HPn hcp hcm hbp hbp2 HPd HS
              generalize Sha.chain Sha.K0 L Sha.H0 i = s at *
              generalize hRd : Sha.sum Sha.K0 Sha.H0 bs = R at *
              have HRd := Lib.hid hRd
              clear hRd
              go_wp2_with fail
              go_loopw [10, 59] (fun _ v w' => ∃ j : Nat, j ≤ 32 ∧ v = .int .i64 j ∧ Arr w' wo2.heap.size (ints .u8 (filled R 32 j)) ∧ Arr w' (w.heap.size + 1) (ints .u32 s.list) ∧ Arr w' w.heap.size (List.replicate 32 (.int .u8 0)) ∧ Below w.heap.size w w') (fun _ v _ => 32 - (intOf v).toNat)
              case atStart => exact ⟨0, by omega, rfl, by rw [filled_zero]; exact arr_new wo2 _ _, HAo.out _, HRo.out _, HBo.out _⟩
              case round =>
                obtain ⟨j, hj, rfl, hO, hA, hR, hbl⟩ := hrel
                have hfr := hO.free j
                have hO1 := hO.lt
                by_cases hlt : j < 32
                · have c1 : wr.cell? ⟨w.heap.size + 1, j / 4, none⟩ = some (.int .u32 (nth s.list (j / 4) : Nat)) := hA.cell (ints_get (by have : s.list.length = 8 := rfl; omega))
                  have c2 : wr.cell? ⟨wo2.heap.size, j, none⟩ = some (.int .u8 (nth (filled R 32 j) j : Nat)) := hO.cell (ints_get (by rw [filled_len HRL.out (by omega)]; omega))
                  have hk1 := hok (j / 4)
                  have HN := Lib.hid (HNth.out j hlt)
                  have HO2 := Lib.hid (And.intro hO (And.intro hA (And.intro hR hbl)))
                  clear hO hA hR hbl
                  generalize nth s.list (j / 4) = x at *
                  generalize nth (filled R 32 j) j = y at *
                  go_wp2_with fail
                  go_roundw
                  case rel =>
                    refine ⟨j + 1, by omega, by go_num, ?_, HO2.out.2.1.set_other (by simp; omega) _, HO2.out.2.2.1.set_other (by simp; omega) _, HO2.out.2.2.2.setCell (by simp; omega) _⟩
                    rw [← filled_step HRL.out hlt, ints_set, HN.out]
                    have := HO2.out.1.set j (.int .u8 ((x / 2 ^ (24 - 8 * (j % 4)) % 256 : Nat) : Int))
                    simpa using this
                  case measure => simp [intOf] <;> omega
                · obtain rfl : j = 32 := by omega
                  rw [filled_full HRL.out] at hO
                  have hl1 : (ints .u8 R).length = 32 := by rw [ints_len, HRL.out]
                  have hl2 : (List.replicate 32 (Value.int .u8 0)).length = 32 := by simp
                  have hone := List.all_eq_true.2 (ints_one .u8 R)
                  have hR2 := hR.row (ints .u8 R)
                  have hb2 := below_setRow hbl (Nat.le_refl w.heap.size) (ints .u8 R).toArray
                  go_wp2_with (first | refine wpList_store_arr rowT32 rfl _ _ rfl _ _ _ hR rfl rfl hl2 hl1 hone ?_ | refine wpList_load_arr rowT32 rfl _ rfl _ _ hO rfl hl1 ?_)
                  simp only [Exit.jump]
                  exact bodyPost_ret (v := .agg (ints .u8 R).toArray) (results_arr rowT32 rfl hR2 rfl hl1) rfl ⟨by rw [HRd.out], hb2⟩
  · intro HP
    have hl1 : (ints .u32 Sha.H0.list).length = 8 := rfl
    have ho := List.all_eq_true.2 (ints_one .u32 Sha.H0.list)
    have hG := fun o => hL.h.alloc o
    go_wp2_with (first | (refine wpList_put_arr rowT8 rfl _ _ rfl _ _ (ints .u32 Sha.H0.list) (arr_new2 w _ _ _) rfl rfl rfl hl1 ho ?_; intro w1 hA1 hO1 hB1 hS1) | refine wpList_load_arrR rowT8 rfl _ rfl _ _ (hG _) rfl hl1 ?_)
    have hR1 := hO1 w.heap.size _ (by omega) ((arr_new w _ _).alloc _)
    have hb1 := hB1 w.heap.size w (by omega) (((Below.refl _ _).alloc (Nat.le_refl _) _).alloc (by simp) _)
    clear hO1 hB1 hG
    have HEl := Lib.hid hel
    have HR1 := Lib.hid hR1
    have HA1 := Lib.hid hA1
    clear hel hR1 hA1 hl1 ho
    go_loopw [4, 5, 7, 14] (fun n v _ i wr => ∃ k : Nat, k ≤ ls.length ∧ i = .int .i64 k ∧ n = .int .u64 (Sha.flen ls k : Nat) ∧ wr.ownsRow (w.heap.size + 2) 5 1 v (ls.take k).flatten.length (ints .u8 (ls.take k).flatten) ∧
      Arr wr (w.heap.size + 1) (ints .u32 Sha.H0.list) ∧ Arr wr w.heap.size (List.replicate 32 (.int .u8 0)) ∧ Below w.heap.size w wr) (fun _ _ _ i _ => ls.length - (intOf i).toNat)
    case atStart => exact ⟨0, by omega, rfl, by rw [Sha.flen_zero]; rfl, World.ownsRow_nil _ _ _ _, HA1.out, HR1.out, hb1⟩
    case round =>
      obtain ⟨k, hk, rfl, rfl, ho, hA, hR, hbl⟩ := hrel
      by_cases hlt : k < ls.length
      · obtain ⟨bp, op, rfl, sp, hcp⟩ := hc (by omega)
        obtain ⟨u, hu, hru⟩ := HEl.out k hlt
        obtain ⟨au, cu, rfl, _, _, _⟩ := hru.form
        have hcell := (hbl.cell (p := ⟨bp, op + k, none⟩) sp).trans (hcp k _ hu)
        have hrw := hru.below (Nat.le_refl _) hbl
        have HT := Lib.hid (Sha.flatten_snoc hlt)
        have HFl : Hid (Sha.flen ls (k + 1) = Sha.flen ls k + (ls.getD k []).length) := by unfold Hid; rw [Sha.flen_def, Sha.flen_def, Sha.flatten_snoc hlt, List.length_append]
        have hfl : Sha.flen ls k ≤ 3000 := by rw [Sha.flen_def]; have := Sha.flatten_le ls k; rw [HB.out] at this; omega
        have hlen := Sha.flatten_le ls (k + 1)
        have hlen2 : (ls.take k).flatten.length + (ls.getD k []).length ≤ 3000 := by
          have := HT.out; rw [this, List.length_append, HB.out] at hlen; omega
        have hN : (ls.take k).flatten.length + (ls.getD k []).length ≤ 1099511627776 := by omega
        have hB2 : w.heap.size + 2 ≤ wr.heap.size := hA.lt
        have HO := Lib.hid ho
        have HAR := Lib.hid (And.intro hA hR)
        have HRw := Lib.hid hrw
        clear ho hA hR hcp hu hru hrw hlen
        generalize ls.getD k [] = y at *
        generalize (ls.take k).flatten = x at *
        go_wp2_with (at_builtin; refine wpList_append_old slU8 rfl _ _ rfl (w.heap.size + 2) _ _ _ HO.out rfl _ _ _ HRw.out rfl (ints_one _ _) hN (by decide) hB2 ?_; intro v' w2 ho2 hg2)
        go_roundw
        case rel =>
          refine ⟨k + 1, by omega, by go_num, by rw [HFl.out]; simp, by rw [HT.out, List.length_append, ints_append]; exact ho2, HAR.out.1.grown hg2 fun he => ?_, HAR.out.2.grown hg2 fun he => ?_, hbl.grown hg2 (by omega) fun q hq => ?_⟩
          · have := (HO.out.lt _ he.symm).1; omega
          · have := (HO.out.lt _ he.symm).1; omega
          · have := (HO.out.lt _ hq).1; omega
        case measure => simp [intOf] <;> omega
      · obtain rfl : k = ls.length := by omega
        rw [List.take_length, HB.out] at ho
        have hfl : Sha.flen ls ls.length = bs.length := by rw [Sha.flen_def, List.take_length, HB.out]
        rw [hfl]
        clear hfl
        have HO := Lib.hid ho
        have hN : bs.length + 1 ≤ 1099511627776 := by omega
        have hB2 : w.heap.size + 2 ≤ wr.heap.size := hA.lt
        clear ho hc
        go_wp2_with (at_builtin; refine wpList_append_new slU8 rfl _ _ rfl (w.heap.size + 2) _ _ 1 _ _ _ HO.out rfl rfl rfl rfl hN (by decide) hB2 ?_; intro v2 w2 ho2 hg2)
        go_step3
        show _
        have hA2 : Arr w2 (w.heap.size + 1) (ints .u32 Sha.H0.list) := hA.grown hg2 fun he => by have := (HO.out.lt _ he.symm).1; omega
        have hR2 : Arr w2 w.heap.size (List.replicate 32 (.int .u8 0)) := hR.grown hg2 fun he => by have := (HO.out.lt _ he.symm).1; omega
        have hb2 : Below w.heap.size w w2 := hbl.grown hg2 (by omega) fun q hq => by have := (HO.out.lt _ hq).1; omega
        have ho3 : w2.ownsRow (w.heap.size + 2) 5 1 v2 (bs.length + 1 + 0) (ints .u8 (bs ++ [128] ++ List.replicate 0 0)) := by
          rw [List.replicate_zero, List.append_nil, ints_append]; exact ho2
        simp only [Exit.then]
        apply_assumption
        exact HP.out _ _ ⟨v2, 0, _, _, _, _, _, _, _, _, _, _, _, _, _, _, _, _, _, _, _, _, _, _, _, _, _, _, _, _, _, _, _, _, _, _, _, _, _, _, _, _, _, _, _, _, _, _, _, _, _, _, _, _, _, _, _, _, _, _, _, _, _, _, _, _, _, _, _, _, _, _, _, _, rfl, Nat.zero_le _, ho3, hA2, hR2, hb2⟩
end Go.Proofs.YtloehmcfmjbidaaDoor
