/- Contracts of package sha: Hex; the chapter's example. -/
import Derived.Test.YtloehmcfmjbidaaDoorShaI
import Derived.Test.YtloehmcfmjbidaaDoorShaF
import Derived.Lib.SlBytesConst
import Derived.Stop.BytesEq
namespace Go.Proofs.YtloehmcfmjbidaaDoor
open Go Go.RowKit
attribute [local irreducible] Sha.pad

theorem wpList_make_cap {P : Program} {t e : TypeId} {size bytes : Nat} {w : World} {ops : Array Oper} {rest : List Oper} {o : Oper} {a : Act} {Q : Exit → Act → World → Prop} (T : SlT P t e size bytes) (hgd : o.guard = none) (l c : Operand) (hop : o.op = Op.makeSlice t l c)
    (base : Nat) (n : Nat) (C : Int) (hl : a.eval l = .int .i64 0) (hc : a.eval c = .int .i64 C) (hC : C = (n : Int)) (b2 : bytes * n ≤ 281474976710656) (b3 : n ≤ maxLen) (b4 : base ≤ w.heap.size)
    (hK : ∀ w', w'.ownsRow base e size (.slice (some ⟨w.heap.size, 0, none⟩) 0 n) 0 [] → w.grownBy w' none → wpList P ops Q rest (a.put o.dst (.slice (some ⟨w.heap.size, 0, none⟩) 0 n)) w') :
    wpList P ops Q (o :: rest) a w := by
  obtain ⟨i, z, h1, h2, h3, h4, h5, _, _⟩ := T.out
  subst h5
  exact wpList_make_own w hgd l c t hop base e i z size h1 h2 h3 h4 .i64 .i64 C n hl hc hC b2 b3 b4 hK

theorem index_sum (xs : List Nat) (j : Nat) (hl : xs.length = 32) (hj : j < 32) (w : World) : (Instr.index 27 (.agg (ints .u8 xs).toArray) (.int .i64 (j : Int))).run Tryd.prog w = .ok (.int .u8 (nth xs j : Nat)) w := by
  have h1 : Tryd.prog.underlying 27 = some (.array 32 5) := by kernel_rfl
  have h2 : Tryd.prog.underlying 5 = some (.int .u8) := by kernel_rfl
  have h3 : (Tryd.prog.info? 5).map (·.size) = some 1 := by kernel_rfl
  have h4 : (ints .u8 xs)[j]? = some (.int .u8 (nth xs j : Nat)) := ints_get (by omega)
  cases hi : Tryd.prog.info? 5 with
  | none => rw [hi] at h3; cases h3
  | some i =>
    have hs : i.size = 1 := by rw [hi] at h3; simpa using h3
    have hj' : (j : Int) < 32 := by omega
    simp [Instr.index, asIntOf, run_underlying h1, run_underlying h2, sizeOf, typeInfo, hi, hs, hj', hj, Go.part, isAgg, h4]

set_option maxHeartbeats 4000000 in
set_option maxRecDepth 100000 in
theorem shex_any (b : List Nat) (w : World) (lb : b.length = 32) (sb : Sha.Bytes b) :
    Calls Tryd.prog 10 #[.agg (ints .u8 b).toArray] w fun e w' => e = .returned (str (Sha.hex b)) ∧ Below w.heap.size w w' := by
  have HIx := Lib.hid (fun j hj w => index_sum b j lb hj w)
  have hl1 : (ints .u8 b).length = 32 := by rw [ints_len, lb]
  go_enter Tryd.func10, Tryd.ntmps10
  have hA0 := arr_new w (ints .u8 b).toArray 27
  have hA0' : Arr (w.alloc (.cells (ints .u8 b).toArray 27)) w.heap.size (ints .u8 b) := hA0
  have HA0 := Lib.hid hA0'
  have hz0 : w.heap.size + 1 ≤ (w.alloc (.cells (ints .u8 b).toArray 27)).heap.size := by simp
  clear hA0 hA0'
  have hne0 : some w.heap.size ≠ (none : Option Nat) := by simp
  go_wp2_with (first | refine wpList_load_arr rowT32 rfl _ rfl _ _ (HA0.out.grown hg1 hne0) rfl hl1 ?_ | (refine wpList_make_cap slU8 rfl _ _ rfl (w.heap.size + 1) 64 64 rfl rfl rfl (by decide) (by decide) hz0 ?_; intro w1 ho1 hg1))
  have hA1 := Lib.hid (HA0.out.grown hg1 (by simp))
  have hbl1 := (((Below.refl w.heap.size w).alloc (Nat.le_refl _) (.cells (ints .u8 b).toArray 27)).grown hg1 (by simp) (by simp))
  have hs1 : (w.alloc (.cells (ints .u8 b).toArray 27)).heap.size = w.heap.size + 1 := by simp
  rw [hs1] at ho1
  have HO1 := Lib.hid (And.intro ho1 hbl1)
  clear ho1 hg1 hbl1
  go_loopw [3, 5, 8] (fun v _ i wr => ∃ k : Nat, k ≤ 32 ∧ i = .int .i64 k ∧ wr.ownsRow (w.heap.size + 1) 5 1 v (2 * k) (ints .u8 ((Sha.hex (b.take k)).map UInt8.toNat)) ∧ Below w.heap.size w wr ∧ w.heap.size + 1 ≤ wr.heap.size) (fun _ _ i _ => 32 - (intOf i).toNat)
  case atStart => exact ⟨0, by omega, rfl, HO1.out.1, HO1.out.2, hA1.out.lt⟩
  case round =>
    obtain ⟨k, hk, rfl, ho, hbl, hsz⟩ := hrel
    by_cases hlt : k < 32
    · have hix := HIx.out k hlt
      have hx := sb k
      have HT : Hid (Sha.hex (b.take (k + 1)) = Sha.hex (b.take k) ++ [Sha.hexd (nth b k / 16), Sha.hexd (nth b k % 16)]) := by
        unfold Hid Sha.hex
        rw [Sha.take_snoc_nth (by omega), List.flatMap_append]; simp
      have hN : 2 * k + 2 ≤ 1099511627776 := by omega
      have HO := Lib.hid ho
      clear ho
      generalize nth b k = x at *
      have d1 : ∀ w, (Instr.index 9 (.string ⟨#[48, 49, 50, 51, 52, 53, 54, 55, 56, 57, 97, 98, 99, 100, 101, 102]⟩) (.int .u8 ((x : Int) / 16))).run Tryd.prog w = .ok (.int .u8 ((Sha.hexd (x / 16)).toNat : Nat)) w := fun w => by
        have := digit_u8 w (x / 16) (by omega)
        rwa [Int.natCast_ediv] at this
      have d2 : ∀ w, (Instr.index 9 (.string ⟨#[48, 49, 50, 51, 52, 53, 54, 55, 56, 57, 97, 98, 99, 100, 101, 102]⟩) (.int .u8 ((x : Int) % 16))).run Tryd.prog w = .ok (.int .u8 ((Sha.hexd (x % 16)).toNat : Nat)) w := fun w => by
        have := digit_u8 w (x % 16) (by omega)
        rwa [Int.natCast_emod] at this
      go_wp2_with fail
      refine wp_region_lex (C := IsOver wr) 8 [] (by kernel_rfl) (by kernel_rfl) (isOver_of (by repeat (first | exact Below.refl _ _ | apply Below.drew | apply below_drewN | (refine Below.alloc ?_ (by simp) _)))) ?_
      simp only [List.take_succ_cons, List.take_zero, List.drop_succ_cons, List.drop_zero]
      repeat (first | (refine lex_one rfl ?_; go_big_quiet_step (fail); refine wpQuiet_nil ?_) | (refine lex_loud rfl ?_; go_wp2_with fail; refine ⟨(isOver_of (by repeat (first | exact Below.refl _ _ | apply Below.drew | apply below_drewN | (refine Below.alloc ?_ (by simp) _)))), ?_⟩))
      refine lex_end ?_
      go_wp2_with (at_builtin; (first | refine wpList_append_newD slU8 rfl _ _ rfl (w.heap.size + 1) _ _ (drawn_alloc_drewN _ _ _) 2 _ _ _ HO.out rfl rfl rfl rfl hN (by decide) hsz ?_ | refine wpList_append_newD slU8 rfl _ _ rfl (w.heap.size + 1) _ _ (drawn_drew _) 2 _ _ _ HO.out rfl rfl rfl rfl hN (by decide) hsz ?_ | refine wpList_append_newD slU8 rfl _ _ rfl (w.heap.size + 1) _ _ (drawn_drewN _ _) 2 _ _ _ HO.out rfl rfl rfl rfl hN (by decide) hsz ?_ | refine wpList_append_newD slU8 rfl _ _ rfl (w.heap.size + 1) _ _ (drawn_refl _) 2 _ _ _ HO.out rfl rfl rfl rfl hN (by decide) hsz ?_); intro v' w2 hown2 hg2)
      go_roundw
      case rel =>
        refine ⟨k + 1, by omega, by go_num, ?_, hbl.grown hg2 (by omega) fun q hq => by have := (HO.out.lt _ hq).1; omega, by have := hg2.size; omega⟩
        rw [HT.out, List.map_append, ints_append, show 2 * (k + 1) = 2 * k + 2 by omega]
        exact hown2
      case measure => simp [intOf] <;> omega
    · obtain rfl : k = 32 := by omega
      rw [List.take_of_length_le (by omega)] at ho
      have hcv := conv_irow (own_irow ho)
      have hm : ((Sha.hex b).map UInt8.toNat).map UInt8.ofNat = Sha.hex b := by rw [List.map_map, show (UInt8.ofNat ∘ UInt8.toNat) = id from funext fun x => UInt8.ofNat_toNat, List.map_id]
      rw [hm] at hcv
      clear hm
      go_wp2_with fail
      go_ret
      exact ⟨rfl, hbl⟩

theorem abc_hex : ((⟨(Sha.hex (Sha.sum Sha.K0 Sha.H0 [97, 98, 99])).toArray⟩ : ByteArray).toList == (⟨#[98, 97, 55, 56, 49, 54, 98, 102, 56, 102, 48, 49, 99, 102, 101, 97, 52, 49, 52, 49, 52, 48, 100, 101, 53, 100, 97, 101, 50, 50, 50, 51, 98, 48, 48, 51, 54, 49, 97, 51, 57, 54, 49, 55, 55, 97, 57, 99, 98, 52, 49, 48, 102, 102, 54, 49, 102, 50, 48, 48, 49, 53, 97, 100]⟩ : ByteArray).toList) = true := by
  have h : Sha.hex (Sha.sum Sha.K0 Sha.H0 [97, 98, 99]) = [98, 97, 55, 56, 49, 54, 98, 102, 56, 102, 48, 49, 99, 102, 101, 97, 52, 49, 52, 49, 52, 48, 100, 101, 53, 100, 97, 101, 50, 50, 50, 51, 98, 48, 48, 51, 54, 49, 97, 51, 57, 54, 49, 55, 55, 97, 57, 99, 98, 52, 49, 48, 102, 102, 54, 49, 102, 50, 48, 48, 49, 53, 97, 100] := by decide +kernel
  rw [h]; exact beq_self_eq_true _
section
variable {P : Program} {w : World} {ops : Array Oper} {rest : List Oper} {o : Oper} {a : Act} {Q : Exit → Act → World → Prop}
theorem wpList_eql_string (hgd : o.guard = none) (t t' : TypeId) (x y : Operand) (ho : o.op = .binOp .eql t x y t') (s1 s2 : ByteArray) (hx : a.eval x = .string s1) (hy : a.eval y = .string s2) (b : Bool) (hb : (s1.toList == s2.toList) = b)
    (h : wpList P ops Q rest (a.put o.dst (.bool b)) w) : wpList P ops Q (o :: rest) a w := by
  subst hb
  refine wpList_plain hgd fun K hK => ?_
  unfold Oper.wp execOp
  simp only [ho, hx, hy, Sem.run_bind, binOp_string_eql]
  simp [eqGuard]
  exact hK _ _ h
theorem wpList_eql_bytes (hgd : o.guard = none) (t e t' : TypeId) (n : Nat) (x y : Operand) (ho : o.op = .binOp .eql t x y t') (ht : P.underlying t = some (.array n e)) (he : P.underlying e = some (.int .u8)) (hsz : ∀ w, (sizeOf e).run P w = .ok 1 w)
    (hm : P.eqGuardType P.depth t = false)
    (xs ys : List UInt8) (hxl : xs.length = n) (hyl : ys.length = n) (hx : a.eval x = .agg (xs.map Extern.Stop.cell).toArray) (hy : a.eval y = .agg (ys.map Extern.Stop.cell).toArray) (b : Bool) (hb : (xs == ys) = b)
    (h : wpList P ops Q rest (a.put o.dst (.bool b)) w) : wpList P ops Q (o :: rest) a w := by
  subst hb
  refine wpList_plain hgd fun K hK => ?_
  unfold Oper.wp execOp
  simp only [ho, hx, hy, Sem.run_bind, run_eqGuard_agg w .eql t x y _ _ hm, Result.andThen_ok, run_eql_bytes w t e n ht he hsz xs ys hxl hyl]
  exact hK _ _ h
end
theorem irow_lit {w : World} {cs : Array Value} {e : TypeId} (fr : Nat × Nat) {k : IntKind} {xs : List Nat} {n : Nat} (cap : Nat) (hn : xs.length = n) (h : cs.toList = ints k xs) (hc : n ≤ cap ∧ cap ≤ maxLen) :
    IRow (w.alloc (.cells cs e fr)) k (.slice (some ⟨w.heap.size, 0, none⟩) n cap) xs := by
  have hb : (w.alloc (.cells cs e fr)).heap[w.heap.size]? = some (.cells cs e fr) := by
    show (w.heap.push (.cells cs e fr))[w.heap.size]? = _
    simp
  unfold IRow
  rw [hn]
  refine ⟨by rw [ints_len, hn]; omega, _, cap, rfl, hc.1, hc.2, (fun h => by cases h), fun _ => ⟨w.heap.size, 0, rfl, by simp, fun j u hu => ?_⟩⟩
  rw [Nat.zero_add, cell_of_row _ w.heap.size j cs e fr hb, ← hu, ← h]
  simp
theorem prow_one {w : World} {b : Nat} {bs : List Nat} {u : Value} (hb : b < w.heap.size) (hc : w.cell? ⟨b, 0, none⟩ = some u) (hu : IRow w .u8 u bs) : PRow w (.slice (some ⟨b, 0, none⟩) 1 1) [bs] :=
  ⟨[u], ⟨rfl, _, 1, rfl, Nat.le_refl _, by decide, (fun h => by cases h), fun _ => ⟨b, 0, rfl, hb, fun j v hv => by
    match j, hv with
    | 0, hv => simp at hv; subst hv; exact hc⟩⟩, fun i hi => by
    have : i = 0 := by simpa using hi
    subst this; exact ⟨u, rfl, hu⟩⟩

set_option maxHeartbeats 1000000 in
theorem works_any (w : World) (hL : Laid w) : Calls Tryd.prog 6 #[] w fun e w' => e = .returned (.bool true) ∧ Below w.heap.size w w' := by
  have HE := Lib.hid abc_hex
  have H3 : Hid ([[97, 98, 99]].flatten = [97, 98, 99]) := rfl
  have hby : Sha.Bytes [97, 98, 99] := Sha.bytes_of (by decide)
  have hir : IRow (w.alloc (.cells #[.int .u8 97, .int .u8 98, .int .u8 99] 5 (3, 4))) .u8 (.slice (some ⟨w.heap.size, 0, none⟩) 3 3) [97, 98, 99] := irow_lit _ _ rfl rfl (by decide)
  have hb2 : Below w.heap.size w ((w.alloc (.cells #[.int .u8 97, .int .u8 98, .int .u8 99] 5 (3, 4))).alloc (.cells #[.slice (some ⟨w.heap.size, 0, none⟩) 3 3] 22)) :=
    ((Below.refl _ _).alloc (Nat.le_refl _) _).alloc (by simp) _
  have hpr : PRow ((w.alloc (.cells #[.int .u8 97, .int .u8 98, .int .u8 99] 5 (3, 4))).alloc (.cells #[.slice (some ⟨w.heap.size, 0, none⟩) 3 3] 22)) (.slice (some ⟨w.heap.size + 1, 0, none⟩) 1 1) [[97, 98, 99]] :=
    prow_one (by simp) ((arr_new2 w _ _ _).cell (j := 0) rfl) (hir.over ((Below.refl _ _).alloc (Nat.le_refl _) _))
  have HP := Lib.hid hpr
  have HB := Lib.hid hb2
  have hL2 := hL.over hb2
  have HL := Lib.hid hL2
  have hsl : (Sha.sum Sha.K0 Sha.H0 [97, 98, 99]).length = 32 := by decide +kernel
  have hsb : Sha.Bytes (Sha.sum Sha.K0 Sha.H0 [97, 98, 99]) := Sha.bytes_of (by decide +kernel)
  have HS := Lib.hid (And.intro hsl hsb)
  clear hpr hb2 hL2 hir hsl hsb
  have kc := fun (w : World) (C : Array Value) (n c : Nat) => Lib.run_convert_bytes_const (P := Tryd.prog) w 22 5 C n c Tryd.underlying22 Tryd.underlying5
  go_enter Tryd.func6, Tryd.ntmps6
  go_wp2_with (go_at_call 8; refine (ssum_hid _ _ _ _ H3 HL.out HP.out (by decide) (by decide) hby).mono ?_; rintro e w1 ⟨rfl, hb1⟩)
  generalize Sha.sum Sha.K0 Sha.H0 [97, 98, 99] = R at *
  have HB1 := Lib.hid hb1
  go_wp2_with (first | (go_at_call 10; refine (shex_any _ _ HS.out.1 HS.out.2).mono ?_; rintro e w2 ⟨rfl, hb2⟩) | refine wpList_eql_string rfl _ _ _ _ rfl _ _ rfl rfl true HE.out ?_)
  go_ret
  exact ⟨rfl, below_over (below_over HB.out HB.out.size HB1.out) (Nat.le_trans HB.out.size hb1.size) hb2⟩
end Go.Proofs.YtloehmcfmjbidaaDoor
