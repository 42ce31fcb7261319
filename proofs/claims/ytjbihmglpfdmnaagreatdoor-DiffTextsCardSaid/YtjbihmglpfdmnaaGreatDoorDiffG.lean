/- Contract of bruitlaw50.same. -/
import Derived.Test.YtjbihmglpfdmnaaGreatDoorDiffF
import Derived.Laws.StructEq
namespace Go.Proofs.YtjbihmglpfdmnaaGreatDoor
open Go Go.RowKit

theorem fieldsOf_of {P : Program} {t : TypeId} {fs : Array Field} (h : P.underlying t = some (.struct fs)) : P.fieldsOf t = fs := by unfold Program.fieldsOf; rw [h]
theorem stoodE : Tryz.prog.stoodInHeld 53 = false := by kernel_rfl
theorem guardE : Tryz.prog.eqGuardType Tryz.prog.depth 53 = false := by kernel_rfl
theorem run_eq_edit (x y : EditM) (w : World) : (Op.equalIn 10000 53 (.agg #[.int .u8 (x.kind : Int), .string x.name, .int .i64 x.at', .string x.text]) (.agg #[.int .u8 (y.kind : Int), .string y.name, .int .i64 y.at', .string y.text])).run Tryz.prog w = .ok (decide (x = y)) w := by
  have hf := Tryz.underlying53
  have hff := fieldsOf_of hf
  rw [run_equalIn_struct (d := 9999) w 53 _ _ (by rw [hff]; exact hf) stoodE, hff]
  have i5 := Tryz.underlying5
  have i9 := Tryz.underlying9
  have i3 := Tryz.underlying3
  simp only [go_sem, i5, i9, i3]
  obtain ⟨k, n, a, t⟩ := x
  obtain ⟨k', n', a', t'⟩ := y
  have hk : ((k : Int) = (k' : Int)) = (k = k') := by rw [eq_iff_iff]; omega
  simp [go_sem, i5, i9, i3, ba_list, hk]
  by_cases e1 : k = k' <;> by_cases e2 : n = n' <;> by_cases e3 : a = a' <;> by_cases e4 : t = t' <;> simp [e1, e2, e3, e4]
theorem run_neq_edit (x y : EditM) (b : Bool) (h : (!decide (x = y)) = b) (w : World) : (binOp .neq 53 (.agg #[.int .u8 (x.kind : Int), .string x.name, .int .i64 x.at', .string x.text]) (.agg #[.int .u8 (y.kind : Int), .string y.name, .int .i64 y.at', .string y.text])).run Tryz.prog w = .ok (.bool b) w := by
  rw [run_neq_struct, run_eq_edit, ← h]; rfl
theorem guard_edit (op : BinOp) (p q : Operand) (xs ys : Array Value) (w : World) : (eqGuard op 53 p q (.agg xs) (.agg ys)).run Tryz.prog w = .ok () w := run_eqGuard_agg w op _ p q xs ys guardE
set_option maxHeartbeats 4000000 in
set_option maxRecDepth 100000 in
theorem same_any (va vb : Value) (es fs : List EditM) (w : World) (ha : ERow w va es) (hb : ERow w vb fs) (hl : es.length ≤ 100000) :
    Calls Tryz.prog 11 #[va, vb] w fun e w' => e = .returned (.bool (sameE es fs)) ∧ Below w.heap.size w w' := by
  obtain ⟨b, cb, rfl, h3, h4, _, hcb⟩ := hb.form
  unfold maxLen at h4
  have HB := Lib.hid hb
  have HCb := Lib.hid hcb
  clear hb hcb
  go_enter Tryz.func11, Tryz.ntmps11
  go_wp2_with fail
  refine (model_any va es w ha hl).mono ?_
  rintro e w1 ⟨vm, rfl, hm, hb1⟩
  obtain ⟨a, ca, rfl, h1, h2, _, hca⟩ := hm.form
  unfold maxLen at h2
  clear hm ha
  by_cases hlen : es.length = fs.length
  · have HL := Lib.hid hlen
    have HE : Hid ((∀ j, j < es.length → es[j]? = fs[j]?) → es = fs) := eq_of_all hlen
    have hq : ((es.length : Int) != (fs.length : Int)) = false := by simp [hlen]
    clear hlen
    go_wp2_with fail
    go_loopw [6] (fun i wr => ∃ k : Nat, k ≤ es.length ∧ i = .int .i64 k ∧ Hid (∀ j, j < k → es[j]? = fs[j]?) ∧ Below w1.heap.size w1 wr) (fun i _ => es.length - (intOf i).toNat)
    case atStart => exact ⟨0, by omega, rfl, (fun j hj => by omega), Below.refl _ _⟩
    case round =>
      obtain ⟨k, hk, rfl, HK, hbl⟩ := hrel
      by_cases hlt : k < es.length
      · have hbw := below_over hb1 hb1.size hbl
        obtain ⟨bA, oA, rfl, sA, cA⟩ := hca.resolve_left (by omega)
        obtain ⟨bB, oB, rfl, sB, cB⟩ := HCb.out.resolve_left (by have := HL.out; omega)
        obtain ⟨x, hx⟩ := get_of_lt hlt
        obtain ⟨y, hy⟩ := get_of_lt (xs := fs) (i := k) (by have := HL.out; omega)
        have hxt := (cA k x hx).over hbl sA
        have hyt := (cB k y hy).over hbw sB
        have c0 := hxt.c0
        have c1 := hxt.c1
        have c2 := hxt.c2
        have c3 := hxt.c3
        have d0 := hyt.c0
        have d1 := hyt.c1
        have d2 := hyt.c2
        have d3 := hyt.c3
        have sA' : bA < wr.heap.size := Nat.lt_of_lt_of_le sA hbl.size
        have sB' : bB < wr.heap.size := Nat.lt_of_lt_of_le sB hbw.size
        have HX := Lib.hid hx
        have HY := Lib.hid hy
        have hkf : k < fs.length := by have := HL.out; omega
        clear hxt hyt cA cB hx hy hca
        have hgu := guard_edit
        by_cases hxy : x = y
        · have HS : Hid (∀ j, j < k + 1 → es[j]? = fs[j]?) := by
            intro j hj
            by_cases hjk : j = k
            · subst hjk; rw [HX.out, HY.out, hxy]
            · exact HK.out j (by omega)
          have hne := run_neq_edit x y false (by simp [hxy])
          clear hxy
          go_wp2_with fail
          refine wp_region_lex (C := IsOver wr) 9 [] (by kernel_rfl) (by kernel_rfl) (isOver_of (by repeat (first | exact Below.refl _ _ | apply Below.drew | apply below_drewN | (refine Below.alloc ?_ (by simp) _)))) ?_
          simp only [List.take_succ_cons, List.take_zero, List.drop_succ_cons, List.drop_zero]
          repeat (first | (refine lex_skip rfl rfl ?_; simp only [Act.put, List.setIfInBounds_toArray, List.set_cons_succ, List.set_cons_zero]) | (refine lex_one rfl ?_; go_big_quiet_step (fail); refine wpQuiet_nil ?_))
          refine lex_end ?_
          go_wp2_with fail
          go_roundw
          case rel => exact ⟨k + 1, by omega, by go_num, HS, hbl.drew⟩
          case measure => simp [intOf]; omega
        · have HN : Hid (sameE es fs = false) := sameE_f (by rintro rfl; rw [HX.out] at HY; exact hxy (by simpa using HY.out))
          have hne := run_neq_edit x y true (by simp [hxy])
          clear hxy
          go_wp2_with fail
          refine wp_region_lex (C := IsOver wr) 9 [] (by kernel_rfl) (by kernel_rfl) (isOver_of (by repeat (first | exact Below.refl _ _ | apply Below.drew | apply below_drewN | (refine Below.alloc ?_ (by simp) _)))) ?_
          simp only [List.take_succ_cons, List.take_zero, List.drop_succ_cons, List.drop_zero]
          repeat (first | (refine lex_skip rfl rfl ?_; simp only [Act.put, List.setIfInBounds_toArray, List.set_cons_succ, List.set_cons_zero]) | (refine lex_one rfl ?_; go_big_quiet_step (fail); refine wpQuiet_nil ?_))
          refine lex_end ?_
          go_wp2_with fail
          go_ret
          exact ⟨ret_val (congrArg Value.bool HN.out.symm), hbw.drew⟩
      · obtain rfl : k = es.length := by omega
        have HN : Hid (sameE es fs = true) := sameE_t (HE.out HK.out)
        go_wp2_with fail
        go_ret
        exact ⟨ret_val (congrArg Value.bool HN.out.symm), below_over hb1 hb1.size hbl⟩
  · have HN : Hid (sameE es fs = false) := sameE_f (by rintro rfl; exact hlen rfl)
    have hq : ((es.length : Int) != (fs.length : Int)) = true := by simp; omega
    clear hlen
    go_wp2_with fail
    go_ret
    exact ⟨ret_val (congrArg Value.bool HN.out.symm), hb1⟩
end Go.Proofs.YtjbihmglpfdmnaaGreatDoor
