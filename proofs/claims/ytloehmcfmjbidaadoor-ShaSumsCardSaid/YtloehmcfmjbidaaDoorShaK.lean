/- The three statements' walks. -/
import Derived.Test.YtloehmcfmjbidaaDoorShaJ
namespace Go.Proofs.YtloehmcfmjbidaaDoor
open Go Go.RowKit
attribute [local irreducible] Sha.pad

namespace Sha
theorem sum_len (K b : List Nat) (h : St) : (sum K h b).length = 32 := rfl
theorem sum_bytes (K b : List Nat) (h : St) : Bytes (sum K h b) := by
  refine bytes_of fun x hx => ?_
  simp only [sum, List.mem_flatMap, bytes4, List.mem_cons, List.not_mem_nil, or_false] at hx
  obtain ⟨y, _, hx⟩ := hx
  rcases hx with rfl | rfl | rfl | rfl <;> omega
end Sha

theorem run_eql_str {P : Program} (t : TypeId) (a b : List UInt8) (w : World) : (binOp .eql t (str a) (str b)).run P w = .ok (.bool (a == b)) w := by
  simp only [str, binOp_string_eql, ByteArray.toList_eq]; simp
theorem run_eqguard_str {P : Program} (op : BinOp) (t : TypeId) (x y : Operand) (a b : List UInt8) (w : World) : (eqGuard op t x y (str a) (str b)).run P w = .ok () w := by
  cases op <;> simp [eqGuard, str]
theorem irow_arr {w : World} {g n : Nat} {k : IntKind} {xs : List Nat} (h : Arr w g (ints k xs)) (hn : xs.length = n) (hl : n ≤ maxLen) : IRow w k (.slice (some ⟨g, 0, none⟩) n n) xs := by
  unfold IRow
  rw [hn]
  refine ⟨by rw [ints_len, hn]; omega, _, n, rfl, Nat.le_refl _, hl, (fun h => by cases h), fun _ => ⟨g, 0, rfl, h.lt, fun j u hu => ?_⟩⟩
  rw [Nat.zero_add]; exact h.cell hu

set_option maxHeartbeats 1000000 in
theorem sums_long (bv : Value) (bs : List Nat) (w : World) (hL : Laid w) (hb : IRow w .u8 bv bs) (hl : 600 < bs.length) :
    Calls Tryd.prog 3 #[bv] w fun e w' => e = .returned (.bool true) ∧ Below w.heap.size w w' := by
  obtain ⟨a, cap, rfl, h1, h2, _⟩ := hb.form
  unfold maxLen at h2
  go_enter Tryd.func3, Tryd.ntmps3
  go_wp2_with (go_at_call 6; refine (works_any _ hL).mono ?_; rintro e w1 ⟨rfl, hb1⟩)
  go_ret
  exact ⟨rfl, hb1⟩

set_option maxHeartbeats 4000000 in
set_option maxRecDepth 100000 in
theorem sums_short (bv : Value) (bs : List Nat) (w : World) (hL : Laid w) (hb : IRow w .u8 bv bs) (sb : Sha.Bytes bs) (hl : bs.length ≤ 600) :
    Calls Tryd.prog 3 #[bv] w fun e w' => e = .returned (.bool true) ∧ Below w.heap.size w w' := by
  have HF : Hid ([bs].flatten = bs) := by unfold Hid; simp
  obtain ⟨a, cap, rfl, h1, h2, _⟩ := hb.form
  unfold maxLen at h2
  have HB := Lib.hid hb
  clear hb
  go_enter Tryd.func3, Tryd.ntmps3
  go_wp2_with (go_at_call 7; refine (table_any _).mono ?_; rintro e w1 ⟨v1, v2, rfl, hk1, hh1, hb1⟩)
  have hpr : ∀ o, o = Obj.cells #[.slice a bs.length cap] 22 → PRow (w1.alloc o) (.slice (some ⟨w1.heap.size, 0, none⟩) 1 1) [bs] := fun o ho => by
    subst ho
    exact prow_one (by simp) ((arr_new w1 _ _).cell (j := 0) rfl) ((HB.out.over hb1).over ((Below.refl _ _).alloc (Nat.le_refl _) _))
  have HP := Lib.hid hpr
  have HL1 := Lib.hid (fun o => (hL.over hb1).over ((Below.refl w1.heap.size w1).alloc (Nat.le_refl _) o))
  have HKH := Lib.hid (And.intro hk1 (And.intro hh1 hb1))
  have hsl : (Sha.sum Sha.K0 Sha.H0 bs).length = 32 := Sha.sum_len _ _ _
  have hsb : Sha.Bytes (Sha.sum Sha.K0 Sha.H0 bs) := Sha.sum_bytes _ _ _
  have HSB := Lib.hid (And.intro hsl hsb)
  clear hpr hk1 hh1 hb1 hsl hsb
  have hn1 : [bs].length ≤ 10 := by simp
  have hn2 : bs.length ≤ 3000 := by omega
  have hl1 : (ints .u8 (Sha.sum Sha.K0 Sha.H0 bs)).length = 32 := by rw [ints_len, HSB.out.1]
  have ho1 := List.all_eq_true.2 (ints_one .u8 (Sha.sum Sha.K0 Sha.H0 bs))
  go_wp2_with (first | (refine wpList_put_arr rowT32 rfl _ _ rfl _ _ (ints .u8 (Sha.sum Sha.K0 Sha.H0 bs)) (arr_new w2 _ _) rfl rfl rfl hl1 ho1 ?_; intro w3 hA3 hO3 hB3 hS3) | (go_at_call 8; refine (ssum_hid _ _ _ _ HF (HL1.out _) (HP.out _ rfl) hn1 hn2 sb).mono ?_; rintro e w2 ⟨rfl, hb2⟩))
  have hz2 : w1.heap.size + 1 ≤ w2.heap.size := by have := hb2.size; simpa using this
  have hb12 : Below w1.heap.size w1 w2 := below_over ((Below.refl _ _).alloc (Nat.le_refl _) _) (by simp) hb2
  have hb13 : Below w1.heap.size w1 w3 := hB3 _ _ (by omega) (hb12.alloc (by omega) _)
  have cv1 := fun x : Over w3 => conv_irow ((irow_arr (n := 32) hA3 HSB.out.1 (by decide)).over x.2)
  have HK3 := Lib.hid (HKH.out.1.over hb13)
  have HH3 := Lib.hid (HKH.out.2.1.over hb13)
  have hb03 : Below w.heap.size w w3 := below_over HKH.out.2.2 HKH.out.2.2.size hb13
  have HB3 := Lib.hid hb03
  have HI3 := Lib.hid (HB.out.over hb03)
  have HL3 := Lib.hid (hL.over hb03)
  have hk64 : Sha.K0.length = 64 := rfl
  have hk0 : Sha.Words Sha.K0 := Sha.words_K0
  clear hA3 hO3 hB3 hb2 hb12 hb13 hb03 ho1 hl1 HKH
  have he1 := fun w => run_eql_str (P := Tryd.prog) 9 ((Sha.sum Sha.K0 Sha.H0 bs).map UInt8.ofNat) ((Sha.sum Sha.K0 Sha.H0 bs).map UInt8.ofNat) w
  have he2 := fun x y w => run_eqguard_str (P := Tryd.prog) .eql 9 x y ((Sha.sum Sha.K0 Sha.H0 bs).map UInt8.ofNat) ((Sha.sum Sha.K0 Sha.H0 bs).map UInt8.ofNat) w
  simp only [beq_self_eq_true] at he1
  simp only [Act.put]
  refine wp_region_lex (C := IsOver w3) 12 [6] (by kernel_rfl) (by kernel_rfl) (isOver_of (by repeat (first | exact Below.refl _ _ | apply Below.drew | apply below_drewN | (refine Below.alloc ?_ (by simp) _)))) ?_
  simp only [List.take_succ_cons, List.take_zero, List.drop_succ_cons, List.drop_zero]
  repeat (first | (refine lex_one rfl ?_; go_big_quiet_step (fail); refine wpQuiet_nil ?_) | (refine lex_loud rfl ?_; go_wp2_with (first | (go_at_call 9; refine (rsum_any _ _ _ _ _ _ _ HK3.out.drew HH3.out.drew HI3.out.drew hk64 hn2 hk0 ok_H0 sb).mono ?_; rintro e w4 ⟨v4, rfl, hr4, hb4⟩; have cv2 := conv_irow hr4) | (go_at_call 6; refine (works_any _ (HL3.out.over (Below.trans (Below.refl _ _).drew hb4))).mono ?_; rintro e w5 ⟨rfl, hb5⟩) | refine wpList_eql_string rfl _ _ _ _ rfl _ _ rfl rfl true (beq_self_eq_true _) ?_); (refine ⟨isOver_of ?_, ?_⟩; (first | exact (Below.refl _ _).drew | exact (Below.refl _ _).drew.trans hb4 | exact ((Below.refl _ _).drew.trans hb4).trans (hb5.mono hb4.size)))))
  refine lex_end ?_
  go_wp2_with fail
  go_ret
  exact ⟨rfl, below_over HB3.out HB3.out.size (((Below.refl _ _).drew.trans hb4).trans (hb5.mono hb4.size))⟩

theorem run_load_arr {P : Program} {ty : TypeId} {size : Nat} (T : RowT P ty size) {w : World} {g : Nat} {cs : List Value} (hA : Arr w g cs) (hl : cs.length = size) : (loadVar ty ⟨g, 0, none⟩).run P w = .ok (.agg cs.toArray) w := by
  obtain ⟨d, i, h1, h2, h3, h4⟩ := T.out
  obtain ⟨e, hg⟩ := hA
  exact run_loadVar_row w g e ty cs.toArray (0, 0) d hg h1 (by cases d <;> simp_all [isRowD]) (by rw [h3]; simp [h4, hl])
theorem lex_load_arr {P : Program} {ops : Array Oper} {C : World → Prop} {loud : Nat → Bool} {Q : Act → World → Prop} {ty : TypeId} {size : Nat} (T : RowT P ty size) {k : Nat} {o : Oper} {l : List Oper} {a : Act} {w : World} (hl : loud k = false) (x : Operand) (ho : o.op = .load ty x)
    (hw : Region.wanted o (yielded ops a.tmps) = true) {g : Nat} {cs : List Value} (hx : a.eval x = .pointer (some ⟨g, 0, none⟩)) (hA : ∀ w', C w' → Arr w' g cs) (hlen : cs.length = size)
    (h : wpLex P ops C loud Q (k + 1) l (a.put o.dst (.agg cs.toArray)) w) : wpLex P ops C loud Q k (o :: l) a w := by
  unfold wpLex
  rw [if_pos hw, hl]
  refine ⟨.agg cs.toArray, fun w' hw' => ?_, h⟩
  unfold Oper.quietAt execOp
  simp only [ho, hx, Instr.loadAt, Instr.sureAddr, Sem.run_bind, Sem.run_pure, Result.andThen_ok, run_load_arr T (hA w' hw') hlen]
  exact ⟨rfl, rfl⟩
theorem ints_cell {xs : List Nat} (h : Sha.Bytes xs) : ints .u8 xs = (xs.map UInt8.ofNat).map Extern.Stop.cell := by
  rw [ints, List.map_map]
  refine List.map_congr_left fun x hx => ?_
  have := Sha.bytes_mem h x hx
  simp [Extern.Stop.cell, Nat.mod_eq_of_lt this]
theorem hexd_inj : ∀ x, x < 16 → ∀ y, y < 16 → Sha.hexd x = Sha.hexd y → x = y := by decide +kernel
theorem hex_inj : ∀ (xs ys : List Nat), xs.length = ys.length → (∀ x ∈ xs, x < 256) → (∀ y ∈ ys, y < 256) → Sha.hex xs = Sha.hex ys → xs = ys
  | [], [], _, _, _, _ => rfl
  | x :: xs, y :: ys, hl, hx, hy, h => by
    simp only [Sha.hex, List.flatMap_cons, List.cons_append, List.nil_append, List.cons.injEq] at h
    have b1 := hx x (by simp)
    have b2 := hy y (by simp)
    have h1 := hexd_inj _ (by omega) _ (by omega) h.1
    have h2 := hexd_inj _ (by omega) _ (by omega) h.2.1
    rw [hex_inj xs ys (by simpa using hl) (fun z hz => hx z (by simp [hz])) (fun z hz => hy z (by simp [hz])) h.2.2, show x = y by omega]
  | [], _ :: _, h, _, _, _ => by simp at h
  | _ :: _, [], h, _, _, _ => by simp at h
theorem ofNat_inj : ∀ (xs ys : List Nat), xs.length = ys.length → (∀ x ∈ xs, x < 256) → (∀ y ∈ ys, y < 256) → xs.map UInt8.ofNat = ys.map UInt8.ofNat → xs = ys
  | [], [], _, _, _, _ => rfl
  | x :: xs, y :: ys, hl, hx, hy, h => by
    simp only [List.map_cons, List.cons.injEq] at h
    have b1 := hx x (by simp)
    have b2 := hy y (by simp)
    have h1 := congrArg UInt8.toNat h.1
    simp only [UInt8.toNat_ofNat'] at h1
    rw [ofNat_inj xs ys (by simpa using hl) (fun z hz => hx z (by simp [hz])) (fun z hz => hy z (by simp [hz])) h.2, show x = y by omega]
  | [], _ :: _, h, _, _, _ => by simp at h
  | _ :: _, [], h, _, _, _ => by simp at h
theorem hex_eq {xs ys : List Nat} (hl : xs.length = ys.length) (bx : Sha.Bytes xs) (bb : Sha.Bytes ys) : (Sha.hex xs == Sha.hex ys) = (xs.map UInt8.ofNat == ys.map UInt8.ofNat) := by
  rw [Bool.eq_iff_iff]
  simp only [beq_iff_eq]
  exact ⟨fun h => by rw [hex_inj xs ys hl (Sha.bytes_mem bx) (Sha.bytes_mem bb) h], fun h => by rw [ofNat_inj xs ys hl (Sha.bytes_mem bx) (Sha.bytes_mem bb) h]⟩

set_option maxHeartbeats 4000000 in
set_option maxRecDepth 100000 in
theorem lhex_any (xs ys : List Nat) (w : World) (hL : Laid w) (lx : xs.length = 32) (ly : ys.length = 32) (bx : Sha.Bytes xs) (bb : Sha.Bytes ys) :
    Calls Tryd.prog 5 #[.agg (ints .u8 xs).toArray, .agg (ints .u8 ys).toArray] w fun e w' => e = .returned (.bool true) ∧ Below w.heap.size w w' := by
  have hl1 : (ints .u8 xs).length = 32 := by rw [ints_len, lx]
  have hl2 : (ints .u8 ys).length = 32 := by rw [ints_len, ly]
  have e1 := fun w => run_eql_str (P := Tryd.prog) 9 (Sha.hex xs) (Sha.hex xs) w
  have e2 := fun w => run_eql_str (P := Tryd.prog) 9 (Sha.hex xs) (Sha.hex ys) w
  have e3 := fun x y w => run_eqguard_str (P := Tryd.prog) .eql 9 x y (Sha.hex xs) (Sha.hex xs) w
  have e4 := fun x y w => run_eqguard_str (P := Tryd.prog) .eql 9 x y (Sha.hex xs) (Sha.hex ys) w
  have e5 : ∀ w, (binOp .eql 27 (.agg (ints .u8 xs).toArray) (.agg (ints .u8 ys).toArray)).run Tryd.prog w = .ok (.bool (xs.map UInt8.ofNat == ys.map UInt8.ofNat)) w := fun w => by
    rw [ints_cell bx, ints_cell bb]
    exact run_eql_bytes w 27 5 32 Tryd.underlying27 Tryd.underlying5 (fun _ => by kernel_rfl) _ _ (by simp [lx]) (by simp [ly])
  have e6 : ∀ x y w, (eqGuard .eql 27 x y (.agg (ints .u8 xs).toArray) (.agg (ints .u8 ys).toArray)).run Tryd.prog w = .ok () w := fun x y w => run_eqGuard_agg w .eql _ x y _ _ (by kernel_rfl)
  simp only [beq_self_eq_true] at e1
  simp only [hex_eq (lx.trans ly.symm) bx bb] at e2
  generalize (xs.map UInt8.ofNat == ys.map UInt8.ofNat) = B at *
  have hA : ∀ o, Arr ((w.alloc (.cells (ints .u8 xs).toArray 27)).alloc o) w.heap.size (ints .u8 xs) := fun o => (arr_new w (ints .u8 xs).toArray _).alloc o
  have hB : ∀ o, Arr ((w.alloc o).alloc (.cells (ints .u8 ys).toArray 27)) (w.heap.size + 1) (ints .u8 ys) := fun o => arr_new2 w o (ints .u8 ys).toArray _
  have HA := Lib.hid hA
  have HB := Lib.hid hB
  have hbl : ∀ o o', Below w.heap.size w ((w.alloc o).alloc o') := fun o o' => ((Below.refl _ _).alloc (Nat.le_refl _) _).alloc (by simp) _
  have HBl := Lib.hid hbl
  have HL := Lib.hid (fun o o' => hL.over (hbl o o'))
  clear hA hB hbl
  go_enter Tryd.func5, Tryd.ntmps5
  go_wp2_with fail
  obtain ⟨w0, HW⟩ : ∃ w0, Hid (w0 = (w.alloc (.cells (ints .u8 xs).toArray 27)).alloc (.cells (ints .u8 ys).toArray 27)) := ⟨_, rfl⟩
  rw [← HW.out]
  have hA0 : Arr w0 w.heap.size (ints .u8 xs) := by rw [HW.out]; exact HA.out _
  have hB0 : Arr w0 (w.heap.size + 1) (ints .u8 ys) := by rw [HW.out]; exact HB.out _
  have hL0 : Laid w0 := by rw [HW.out]; exact HL.out _ _
  have hb0 : Below w.heap.size w w0 := by rw [HW.out]; exact HBl.out _ _
  have HR0 := Lib.hid (irow_arr (n := 32) hA0 lx (by decide))
  have HL0 := Lib.hid hL0
  have HB0 := Lib.hid hb0
  have LD1 := Lib.hid (fun w' (h : IsOver w0 w') => hA0.over (isOver_below h))
  have LD2 := Lib.hid (fun w' (h : IsOver w0 w') => hB0.over (isOver_below h))
  have hz := hB0.lt
  clear HA HB HBl HL hA0 hB0 hL0 hb0
  have hcur : Below w0.heap.size w0 w0.drew := (Below.refl _ _).drew
  have hl32 : xs.length ≤ 32 := by omega
  refine wp_region_lex (C := IsOver w0) 20 [] (by kernel_rfl) (by kernel_rfl) (isOver_of (by repeat (first | exact Below.refl _ _ | apply Below.drew | apply below_drewN | (refine Below.alloc ?_ (by simp) _)))) ?_
  simp only [List.take_succ_cons, List.take_zero, List.drop_succ_cons, List.drop_zero]
  repeat (first | (refine lex_load_arr rowT32 rfl _ rfl rfl rfl LD1.out hl1 ?_; simp only [Act.put, List.setIfInBounds_toArray, List.set_cons_succ, List.set_cons_zero]) | (refine lex_load_arr rowT32 rfl _ rfl rfl rfl LD2.out hl2 ?_; simp only [Act.put, List.setIfInBounds_toArray, List.set_cons_succ, List.set_cons_zero]) | (refine lex_one rfl ?_; go_big_quiet_step (fail); refine wpQuiet_nil ?_) | (refine lex_loud rfl ?_; go_wp2_with (first | (go_at_call 10; refine (shex_any _ _ (by first | exact lx | exact ly) (by first | exact bx | exact bb)).mono ?_; rintro e w' ⟨rfl, hb⟩; replace hcur := below_over hcur hcur.size hb; clear hb) | (go_at_call 11; refine (rhex_any _ _ _ (HR0.out.over hcur) hl32 bx).mono ?_; rintro e w' ⟨rfl, hb⟩; replace hcur := below_over hcur hcur.size hb; clear hb) | (go_at_call 6; refine (works_any _ (HL0.out.over hcur)).mono ?_; rintro e w' ⟨rfl, hb⟩; replace hcur := below_over hcur hcur.size hb; clear hb)); refine ⟨isOver_of hcur, ?_⟩))
  refine lex_end ?_
  go_wp2_with fail
  go_ret
  exact ⟨rfl, below_over HB0.out HB0.out.size hcur⟩
end Go.Proofs.YtloehmcfmjbidaaDoor
