/- Contracts of package sha: block. -/
import Derived.Test.YtloehmcfmjbidaaDoorShaG
namespace Go.Proofs.YtloehmcfmjbidaaDoor
open Go Go.RowKit
attribute [local irreducible] Sha.pad

theorem rowT8 : RowT Tryd.prog 43 8 := rowT_of Tryd.underlying43 rfl (by kernel_rfl)

/-- block g holds just the cells cs -/
def ArrR (w : World) (g : Nat) (cs : List Value) : Prop := ∃ e fr, w.heap[g]? = some (.cells cs.toArray e fr)
theorem ArrR.over {w w' : World} {g : Nat} {cs : List Value} (h : ArrR w g cs) (hb : Below w.heap.size w w') : ArrR w' g cs := by
  obtain ⟨e, fr, h⟩ := h
  exact ⟨e, fr, by rw [hb.block g (Array.getElem?_eq_some_iff.1 h).1]; exact h⟩
theorem ArrR.alloc {w : World} {g : Nat} {cs : List Value} (h : ArrR w g cs) (o : Obj) : ArrR (w.alloc o) g cs := h.over ((Below.refl _ _).alloc (Nat.le_refl _) o)
theorem wpList_load_arrR {P : Program} {ty : TypeId} {size : Nat} {w : World} {ops : Array Oper} {rest : List Oper} {o : Oper} {a : Act} {Q : Exit → Act → World → Prop} (T : RowT P ty size) (hgd : o.guard = none) (x : Operand) (ho : o.op = .load ty x) (g : Nat) (cs : List Value) (hA : ArrR w g cs) (hx : a.eval x = .pointer (some ⟨g, 0, none⟩)) (hl : cs.length = size)
    (h : wpList P ops Q rest (a.put o.dst (.agg cs.toArray)) w) : wpList P ops Q (o :: rest) a w := by
  obtain ⟨d, i, h1, h2, h3, h4⟩ := T.out
  obtain ⟨e, fr, hg⟩ := hA
  exact wpList_load_row hgd ty x ho g hx e cs.toArray fr d hg h1 (by cases d <;> simp_all [isRowD]) (by rw [h3]; simp [h4, hl]) h
/-- what the package's variables hold -/
structure Laid (w : World) : Prop where
  size : 1 < w.heap.size
  k : ∀ j, j < 64 → w.cell? ⟨1, j, none⟩ = some (.int .u32 (nth Sha.K0 j : Nat))
  h : ArrR w 0 (ints .u32 Sha.H0.list)
theorem Laid.over {w w' : World} (h : Laid w) (hb : Below w.heap.size w w') : Laid w' :=
  ⟨Nat.lt_of_lt_of_le h.size hb.size, fun j hj => (hb.cell (p := ⟨1, j, none⟩) h.size).trans (h.k j hj), h.h.over hb⟩

theorem max_bits {a : Nat} (ha : a < 4294967296) : bits .xor .u32 IntKind.u32.max (a : Int) = ((4294967295 - a : Nat) : Int) := by
  rw [← not_u32 ha]
  have : BitVec.ofInt 32 IntKind.u32.max = BitVec.ofInt 32 (-1) := by decide
  show IntKind.u32.wrap (((BitVec.ofInt 32 IntKind.u32.max ^^^ BitVec.ofInt 32 (a : Int)).toNat : Nat) : Int) = IntKind.u32.wrap (((BitVec.ofInt 32 (-1) ^^^ BitVec.ofInt 32 (a : Int)).toNat : Nat) : Int)
  rw [this]
theorem t1_five (s : Sha.St) (k w : Nat) : (((s.h : Int) + (Sha.big1 s.e : Int) + (Sha.cho s.e s.f s.g : Int) + (k : Int) + (w : Int)) % 4294967296) = ((Sha.t1 s k w : Nat) : Int) := by
  unfold Sha.t1; omega
theorem index_agg (xs : List Nat) (j : Nat) (hl : xs.length = 64) (hj : j < 64) (w : World) : (Instr.index 51 (.agg (ints .u32 xs).toArray) (.int .i64 (j : Int))).run Tryd.prog w = .ok (.int .u32 (nth xs j : Nat)) w := by
  have h1 : Tryd.prog.underlying 51 = some (.array 64 40) := by kernel_rfl
  have h2 : Tryd.prog.underlying 40 = some (.int .u32) := by kernel_rfl
  have h3 : (Tryd.prog.info? 40).map (·.size) = some 1 := by kernel_rfl
  have h4 : (ints .u32 xs)[j]? = some (.int .u32 (nth xs j : Nat)) := ints_get (by omega)
  cases hi : Tryd.prog.info? 40 with
  | none => rw [hi] at h3; cases h3
  | some i =>
    have hs : i.size = 1 := by rw [hi] at h3; simpa using h3
    have hj' : (j : Int) < 64 := by omega
    simp [Instr.index, asIntOf, run_underlying h1, run_underlying h2, sizeOf, typeInfo, hi, hs, hj', hj, Go.part, isAgg, h4]

set_option maxHeartbeats 4000000 in
set_option maxRecDepth 100000 in
theorem sblock_any (h : Sha.St) (bv : Value) (b : List Nat) (w : World) (hL : Laid w) (hb : IRow w .u8 bv b) (lb : b.length = 64) (sb : Sha.Bytes b) (oh : Sha.Ok h) :
    Calls Tryd.prog 14 #[.agg (ints .u32 h.list).toArray, bv] w fun e w' => e = .returned (.agg (ints .u32 (Sha.block Sha.K0 h b).list).toArray) ∧ Below w.heap.size w w' := by
  show Calls Tryd.prog 14 #[.agg #[.int .u32 (h.a : Int), .int .u32 (h.b : Int), .int .u32 (h.c : Int), .int .u32 (h.d : Int), .int .u32 (h.e : Int), .int .u32 (h.f : Int), .int .u32 (h.g : Int), .int .u32 (h.h : Int)], bv] w _
  go_enter Tryd.func14, Tryd.ntmps14
  go_wp2_with fail
  refine (spread_any bv b _ (Row.over hb ?_) lb sb).mono ?_
  · exact (((Below.refl _ _).alloc (Nat.le_refl _) _).alloc (by simp <;> omega) _).alloc (by simp <;> omega) _
  rintro e w1 ⟨rfl, hb1⟩
  have hbl1 : Below w.heap.size w w1 := below_over ((((Below.refl _ _).alloc (Nat.le_refl _) _).alloc (by simp <;> omega) _).alloc (by simp <;> omega) _) (by simp <;> omega) hb1
  have hA0 : Arr w1 w.heap.size (ints .u32 h.list) := Arr.over (((arr_new w _ _).alloc _).alloc _) hb1
  have hA1 : Arr w1 (w.heap.size + 1) (List.replicate 8 (.int .u32 0)) := Arr.over ((arr_new2 w _ _ _).alloc _) hb1
  have hA2 : Arr w1 (w.heap.size + 1 + 1) (ints .u32 (Sha.rounds Sha.K0 (Sha.sched b 64) h 0).list) := by
    rw [Sha.rounds_zero]; exact Arr.over (arr_new3 w _ _ _ _) hb1
  have hL1 := hL
  have HIx := Lib.hid (fun j hj w => index_agg (Sha.sched b 64) j (Sha.sched_len _ _) hj w)
  have hk0 : Sha.Words Sha.K0 := Sha.words_K0
  clear hb1 hb lb hL1
  go_wp2_with fail
  go_loopw [6, 7, 8, 9, 10, 11, 16] (fun _ _ _ _ _ _ i wr => ∃ k : Nat, k ≤ 64 ∧ i = .int .i64 k ∧ Arr wr (w.heap.size + 1 + 1) (ints .u32 (Sha.rounds Sha.K0 (Sha.sched b 64) h k).list) ∧ Arr wr w.heap.size (ints .u32 h.list) ∧ Arr wr (w.heap.size + 1) (List.replicate 8 (.int .u32 0)) ∧ Below w.heap.size w wr) (fun _ _ _ _ _ _ i _ => 64 - (intOf i).toNat)
  case atStart => exact ⟨0, by omega, rfl, hA2, hA0, hA1, hbl1⟩
  case round =>
    obtain ⟨k, hk, rfl, hS, hH, hR, hbl⟩ := hrel
    have hsz := hS.lt
    by_cases hlt : k < 64
    · have hix := HIx.out k hlt
      have hLr := hL.over hbl
      have gs := hLr.size
      have cK := hLr.k k hlt
      have hok := Sha.rounds_ok oh hk0 (Sha.sched_words sb 64) k
      have HR := Lib.hid (Sha.round_k Sha.K0 (Sha.sched b 64) h k)
      have hwk := Sha.sched_words sb 64 k
      have hKk := hk0 k
      have HHr := Lib.hid (And.intro hH (And.intro hR hbl))
      clear hH hR
      generalize Sha.rounds Sha.K0 (Sha.sched b 64) h k = s at *
      have HSr := Lib.hid hS
      have s0 : wr.cell? ⟨w.heap.size + 1 + 1, 0, none⟩ = some (.int .u32 (s.a : Nat)) := hS.cell rfl
      have s1 : wr.cell? ⟨w.heap.size + 1 + 1, 1, none⟩ = some (.int .u32 (s.b : Nat)) := hS.cell rfl
      have s2 : wr.cell? ⟨w.heap.size + 1 + 1, 2, none⟩ = some (.int .u32 (s.c : Nat)) := hS.cell rfl
      have s3 : wr.cell? ⟨w.heap.size + 1 + 1, 3, none⟩ = some (.int .u32 (s.d : Nat)) := hS.cell rfl
      have s4 : wr.cell? ⟨w.heap.size + 1 + 1, 4, none⟩ = some (.int .u32 (s.e : Nat)) := hS.cell rfl
      have s5 : wr.cell? ⟨w.heap.size + 1 + 1, 5, none⟩ = some (.int .u32 (s.f : Nat)) := hS.cell rfl
      have s6 : wr.cell? ⟨w.heap.size + 1 + 1, 6, none⟩ = some (.int .u32 (s.g : Nat)) := hS.cell rfl
      have s7 : wr.cell? ⟨w.heap.size + 1 + 1, 7, none⟩ = some (.int .u32 (s.h : Nat)) := hS.cell rfl
      clear hS
      generalize nth (Sha.sched b 64) k = W at *
      generalize nth Sha.K0 k = KK at *
      have oa := hok.a
      have ob := hok.b
      have oc := hok.c
      have od := hok.d
      have oe := hok.e
      have of' := hok.f
      have og := hok.g
      have oh' := hok.h
      clear hok hLr
      go_wp2_with fail
      refine wp_region_lex (C := IsOver wr) 6 [] (by kernel_rfl) (by kernel_rfl) (isOver_of (by repeat (first | exact Below.refl _ _ | apply Below.drew | apply below_drewN | (refine Below.alloc ?_ (by simp) _)))) ?_
      simp only [List.take_succ_cons, List.take_zero, List.drop_succ_cons, List.drop_zero]
      repeat (first | (refine lex_one rfl ?_; go_big_quiet_step (fail); refine wpQuiet_nil ?_))
      refine lex_end ?_
      go_wp2_with fail
      refine wp_region_lex (C := IsOver wr) 29 [] (by kernel_rfl) (by kernel_rfl) (isOver_of (by repeat (first | exact Below.refl _ _ | apply Below.drew | apply below_drewN | (refine Below.alloc ?_ (by simp) _)))) ?_
      simp only [List.take_succ_cons, List.take_zero, List.drop_succ_cons, List.drop_zero]
      repeat (first | (refine lex_one rfl ?_; go_big_quiet_step (fail); refine wpQuiet_nil ?_) | (refine lex_loud rfl ?_; go_wp2_with (go_at_call 21; refine (sright_call _ _ _ (by omega) (by omega) (by omega)).mono ?_; rintro e w' ⟨rfl, m, rfl⟩); refine ⟨(isOver_of (by repeat (first | exact Below.refl _ _ | apply Below.drew | apply below_drewN | (refine Below.alloc ?_ (by simp) _)))), ?_⟩))
      refine lex_end ?_
      go_wp2_with fail
      rw [big1_bits oe, max_bits oe, cho_bits oe of' og, t1_five]
      have t1lt := Sha.t1_lt s KK W
      refine wp_region_lex (C := IsOver wr) 25 [] (by kernel_rfl) (by kernel_rfl) (isOver_of (by repeat (first | exact Below.refl _ _ | apply Below.drew | apply below_drewN | (refine Below.alloc ?_ (by simp) _)))) ?_
      simp only [List.take_succ_cons, List.take_zero, List.drop_succ_cons, List.drop_zero]
      repeat (first | (refine lex_one rfl ?_; go_big_quiet_step (fail); refine wpQuiet_nil ?_) | (refine lex_loud rfl ?_; go_wp2_with (go_at_call 21; refine (sright_call _ _ _ (by omega) (by omega) (by omega)).mono ?_; rintro e w' ⟨rfl, m, rfl⟩); refine ⟨(isOver_of (by repeat (first | exact Below.refl _ _ | apply Below.drew | apply below_drewN | (refine Below.alloc ?_ (by simp) _)))), ?_⟩))
      refine lex_end ?_
      go_upto_region 8 with (fail)
      rw [big0_bits oa, maj_bits oa ob oc, Sha.t2_eq]
      have t2lt := Sha.t2_lt s
      have hl8 : (ints .u32 s.list).length = 8 := rfl
      go_wp2_with (refine wpList_store_arr rowT8 rfl _ _ rfl _ _ [_, _, _, _, _, _, _, _] (HSr.out.drewN _) rfl rfl hl8 rfl rfl ?_)
      go_roundw
      case rel =>
        refine ⟨k + 1, by omega, by go_num, ?_, (HHr.out.1.drewN _).row_other (by omega) _, (HHr.out.2.1.drewN _).row_other (by omega) _, below_setRow (below_drewN HHr.out.2.2 _) (by omega) _⟩
        rw [HR.out]
        have e : ints .u32 (Sha.round s KK W).list = [.int .u32 (((Sha.t1 s KK W : Int) + (Sha.t2 s : Int)) % 4294967296), .int .u32 (s.a : Int), .int .u32 (s.b : Int), .int .u32 (s.c : Int), .int .u32 (((s.d : Int) + (Sha.t1 s KK W : Int)) % 4294967296), .int .u32 (s.e : Int), .int .u32 (s.f : Int), .int .u32 (s.g : Int)] := by
          simp [Sha.round_a, Sha.St.list, ints]
        rw [e]
        exact (HSr.out.drewN _).row _
      case measure => simp [intOf] <;> omega
    · obtain rfl : k = 64 := by omega
      have HBN := Lib.hid (Sha.blockOf_nth h (Sha.rounds Sha.K0 (Sha.sched b 64) h 64))
      have HBO : Hid (Sha.block Sha.K0 h b = Sha.blockOf h (Sha.rounds Sha.K0 (Sha.sched b 64) h 64)) := Sha.block_def _ _ _
      generalize Sha.rounds Sha.K0 (Sha.sched b 64) h 64 = s at *
      have hsn : ∀ j, j < 8 → (ints .u32 s.list)[j]? = some (.int .u32 (nth s.list j : Nat)) := fun j hj => ints_get (by show j < s.list.length; exact hj)
      have hhn : ∀ j, j < 8 → (ints .u32 h.list)[j]? = some (.int .u32 (nth h.list j : Nat)) := fun j hj => ints_get (by show j < h.list.length; exact hj)
      have HSn := Lib.hid hsn
      have HSS := Lib.hid hS
      have HRR := Lib.hid hR
      have hA : Arr wr w.heap.size (ints .u32 (Sha.mixed h s 0)) := by rw [Sha.mixed_zero]; exact hH
      have HA0 := Lib.hid hA
      clear hS hR hH hA hsn hhn
      obtain ⟨wo, rfl⟩ : ∃ wo : World, wo = wr := ⟨_, rfl⟩
      go_wp2_with fail
      go_loopw [12, 95] (fun _ i wr => ∃ j : Nat, j ≤ 8 ∧ i = .int .i64 j ∧ Arr wr w.heap.size (ints .u32 (Sha.mixed h s j)) ∧ Arr wr (w.heap.size + 1 + 1) (ints .u32 s.list) ∧ Arr wr (w.heap.size + 1) (List.replicate 8 (.int .u32 0)) ∧ Below w.heap.size w wr) (fun _ i _ => 8 - (intOf i).toNat)
      case atStart => exact ⟨0, by omega, rfl, HA0.out, HSS.out, HRR.out, hbl⟩
      case round =>
        obtain ⟨j, hj, rfl, hA, hS, hR, hbl⟩ := hrel
        have hsz := hS.lt
        have hsz0 : w.heap.size < wr.heap.size := by omega
        by_cases hlt : j < 8
        · have c1 : wr.cell? ⟨w.heap.size, j, none⟩ = some (.int .u32 (nth h.list j : Nat)) := hA.cell (by rw [← Sha.mixed_nth h s hlt]; exact ints_get (by rw [Sha.mixed_len]; exact hlt))
          have c2 : wr.cell? ⟨w.heap.size + 1 + 1, j, none⟩ = some (.int .u32 (nth s.list j : Nat)) := hS.cell (HSn.out j hlt)
          have f1 := hA.free j
          have HM := Lib.hid (Sha.mixed_step h s hlt)
          have HH := Lib.hid (And.intro hA (And.intro hS (And.intro hR hbl)))
          clear hA hS hR
          generalize nth h.list j = x1 at *
          generalize nth s.list j = x2 at *
          go_wp2_with fail
          refine wp_region_lex (C := IsOver wr) 8 [] (by kernel_rfl) (by kernel_rfl) (isOver_of (by repeat (first | exact Below.refl _ _ | apply Below.drew | apply below_drewN | (refine Below.alloc ?_ (by simp) _)))) ?_
          simp only [List.take_succ_cons, List.take_zero, List.drop_succ_cons, List.drop_zero]
          repeat (first | (refine lex_one rfl ?_; go_big_quiet_step (fail); refine wpQuiet_nil ?_))
          refine lex_end ?_
          go_wp2_with fail
          go_roundw
          case rel =>
            refine ⟨j + 1, by omega, by go_num, ?_, ?_, ?_, ?_⟩
            · rw [HM.out, ints_set]
              have := HH.out.1.set j (.int .u32 (((x1 + x2) % 4294967296 : Nat) : Int))
              exact Arr.drew (by simpa using this)
            · exact (HH.out.2.1.set_other (show w.heap.size + 1 + 1 ≠ w.heap.size by omega) _).drew
            · exact (HH.out.2.2.1.set_other (show w.heap.size + 1 ≠ w.heap.size by omega) _).drew
            · exact (HH.out.2.2.2.setCell (Nat.le_refl _) _).drew
          case measure => simp [intOf] <;> omega
        · obtain rfl : j = 8 := by omega
          rw [Sha.mixed_full, ← HBO.out] at hA
          have hl8 : (ints .u32 (Sha.block Sha.K0 h b).list).length = 8 := rfl
          have hr8 : (List.replicate 8 (Value.int .u32 0)).length = 8 := rfl
          have ho := List.all_eq_true.2 (ints_one .u32 (Sha.block Sha.K0 h b).list)
          have hR2 := hR.row (ints .u32 (Sha.block Sha.K0 h b).list)
          have hb2 := below_setRow hbl (show w.heap.size ≤ w.heap.size + 1 by omega) (ints .u32 (Sha.block Sha.K0 h b).list).toArray
          go_wp2_with (first | refine wpList_store_arr rowT8 rfl _ _ rfl _ _ _ hR rfl rfl hr8 hl8 ho ?_ | refine wpList_load_arr rowT8 rfl _ rfl _ _ hA rfl hl8 ?_)
          exact bodyPost_ret (v := .agg (ints .u32 (Sha.block Sha.K0 h b).list).toArray) (results_arr rowT8 rfl hR2 rfl hl8) rfl ⟨rfl, hb2⟩
end Go.Proofs.YtloehmcfmjbidaaDoor
