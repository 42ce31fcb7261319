/- Contracts of package tree: Find; good's predicate. -/
import Derived.Test.YtjbihmglpfdmnaaGreatDoorWordB
namespace Go.Proofs.YtjbihmglpfdmnaaGreatDoor
open Go Go.RowKit

set_option maxHeartbeats 1000000 in
theorem find1_any (nm n : ByteArray) (av lv : Value) (g : Nat) (w : World) (hg : w.cell? ⟨g, 0, none⟩ = some (.string n)) (hlt : g < w.heap.size) :
    Calls Tryz.prog 44 #[.agg #[.string nm, av, lv], .pointer (some ⟨g, 0, none⟩)] w fun e w' => e = .returned (.bool (nm.toList == n.toList)) ∧ Below w.heap.size w w' := by
  go_enter Tryz.func44, Tryz.ntmps44
  go_wp2
  go_ret
  exact ⟨rfl, (Below.refl _ _).alloc (Nat.le_refl _) _⟩

set_option maxHeartbeats 1000000 in
theorem indexF_any (v : Value) (t : List FileM) (n : ByteArray) (g : Nat) (w : World) (hv : FRow w v t) (hg : w.cell? ⟨g, 0, none⟩ = some (.string n)) (hgl : g < w.heap.size) :
    Calls Tryz.prog 43 #[v, .func (.func 44) #[] #[.pointer (some ⟨g, 0, none⟩)]] w fun e w' => e = .returned (.int .i64 (findT t n)) ∧ Below w.heap.size w w' := by
  obtain ⟨a, cap, rfl, h1, h2, _, hc⟩ := hv.form
  unfold maxLen at h2
  clear hv
  have HG := Lib.hid hg
  clear hg
  go_enter Tryz.func43, Tryz.ntmps43
  go_wp2
  go_loopw [5, 8] (fun _ i wr => ∃ k : Nat, k ≤ t.length ∧ i = .int .i64 k ∧ Hid (∀ (j : Nat) g, j < k → t[j]? = some g → g.name ≠ n) ∧ Below w.heap.size w wr) (fun _ i _ => t.length - (intOf i).toNat)
  case atStart => exact ⟨0, by omega, rfl, (fun j g hj => by omega), Below.refl _ _⟩
  case round =>
    obtain ⟨k, hk, rfl, HK, hbl⟩ := hrel
    by_cases hlt : k < t.length
    · obtain ⟨b, o, rfl, sb, hf⟩ := hc.resolve_left (by omega)
      obtain ⟨f, hx⟩ := get_of_lt hlt
      obtain ⟨av, lv, hat⟩ := hf k f hx
      have hat := hat.over hbl sb
      have c0 := hat.c0
      have c1 := hat.c1
      have c2 := hat.c2
      have sb' : b < wr.heap.size := Nat.lt_of_lt_of_le sb hbl.size
      have hgw := Lib.hid ((hbl.cell (p := ⟨g, 0, none⟩) hgl).trans HG.out)
      have hgl' : g < wr.heap.size := Nat.lt_of_lt_of_le hgl hbl.size
      have HX := Lib.hid hx
      clear hx hf hat hc
      by_cases he : f.name = n
      · have HN : Hid (findT t n = (k : Int)) := findT_at HK.out HX.out he
        have hb1 := seq_t he
        clear he
        go_wp2_with (go_at_call 44; (with_reducible refine (find1_any _ n _ _ g _ hgw.out hgl').mono ?_); rintro e w2 ⟨rfl, hb2⟩)
        go_ret
        exact ⟨ret_val (congrArg (Value.int .i64) HN.out.symm), below_over hbl hbl.size hb2⟩
      · have HS : Hid (∀ (j : Nat) g, j < k + 1 → t[j]? = some g → g.name ≠ n) := by
          intro j g hj hg
          by_cases hjk : j = k
          · subst hjk; rw [HX.out] at hg; cases hg; exact he
          · exact HK.out j g (by omega) hg
        have hb1 := seq_f he
        clear he
        go_wp2_with (go_at_call 44; (with_reducible refine (find1_any _ n _ _ g _ hgw.out hgl').mono ?_); rintro e w2 ⟨rfl, hb2⟩)
        go_roundw
        case rel => exact ⟨k + 1, by omega, by go_num, HS, below_over hbl hbl.size hb2⟩
        case measure => simp [intOf]; omega
    · obtain rfl : k = t.length := by omega
      have HN : Hid (findT t n = -1) := findT_none fun j g hg => HK.out j g (List.getElem?_eq_some_iff.1 hg).1 hg
      go_wp2_with fail
      go_ret
      exact ⟨ret_val (congrArg (Value.int .i64) HN.out.symm), hbl⟩

set_option maxHeartbeats 1000000 in
theorem find_any (v : Value) (t : List FileM) (n : ByteArray) (w : World) (hv : FRow w v t) :
    Calls Tryz.prog 25 #[v, .string n] w fun e w' => e = .returned (.int .i64 (findT t n)) ∧ Below w.heap.size w w' := by
  have HV := Lib.hid (fun o => hv.over ((Below.refl w.heap.size w).alloc (Nat.le_refl _) o))
  clear hv
  have HA := Lib.hid (arr_new w #[.string n] 9)
  go_enter Tryz.func25, Tryz.ntmps25
  go_wp2_with (go_at_call 43; refine (indexF_any _ t n w.heap.size _ (HV.out _) (HA.out.cell (j := 0) rfl) (by simp)).mono ?_; rintro e w2 ⟨rfl, hb2⟩)
  go_ret
  exact ⟨rfl, below_over ((Below.refl _ _).alloc (Nat.le_refl _) _) (by simp) hb2⟩

set_option maxHeartbeats 1000000 in
theorem good1_any (x : ByteArray) (w : World) (hx : x.size ≤ maxLen) :
    Calls Tryz.prog 62 #[.string x] w fun e w' => e = .returned (.bool (!lineOk x)) ∧ Below w.heap.size w w' := by
  go_enter Tryz.func62, Tryz.ntmps62
  go_wp2_with (go_at_call 36; (with_reducible refine (line_any _ _ hx).mono ?_); rintro e w2 ⟨rfl, hb2⟩)
  go_ret
  exact ⟨rfl, hb2⟩
/-- the place of the first line that may not be -/
def BadAt (xs : List ByteArray) (i : Int) : Prop := decide (0 ≤ i) = !xs.all lineOk
def SomeIx (xs : List ByteArray) (w : World) (e : Ending) (w' : World) : Prop := ∃ i : Int, e = .returned (.int .i64 i) ∧ BadAt xs i ∧ Below w.heap.size w w'
set_option maxHeartbeats 1000000 in
theorem indexS_any (v : Value) (xs : List ByteArray) (w : World) (hv : SRow w v xs) (hz : SzS xs) :
    Calls Tryz.prog 82 #[v, .func (.func 62) #[] #[]] w (SomeIx xs w) := by
  obtain ⟨a, cap, rfl, h1, h2, _, hc⟩ := hv.form
  unfold maxLen at h2
  clear hv
  have HZ := Lib.hid hz
  clear hz
  go_enter Tryz.func82, Tryz.ntmps82
  go_wp2
  go_loopw [5, 8] (fun _ i wr => ∃ k : Nat, k ≤ xs.length ∧ i = .int .i64 k ∧ Hid (∀ (j : Nat) x, j < k → xs[j]? = some x → lineOk x = true) ∧ Below w.heap.size w wr) (fun _ i _ => xs.length - (intOf i).toNat)
  case atStart => exact ⟨0, by omega, rfl, (fun j g hj => by omega), Below.refl _ _⟩
  case round =>
    obtain ⟨k, hk, rfl, HK, hbl⟩ := hrel
    by_cases hlt : k < xs.length
    · obtain ⟨b, o, rfl, sb, hf⟩ := hc.resolve_left (by omega)
      obtain ⟨x, hx⟩ := get_of_lt hlt
      have c0 := (hbl.cell (p := ⟨b, o + k, none⟩) sb).trans (hf k x hx)
      have sb' : b < wr.heap.size := Nat.lt_of_lt_of_le sb hbl.size
      have HX := Lib.hid hx
      have HSx := Lib.hid (HZ.out.at hx)
      clear hx hf hc
      cases hl : lineOk x with
      | false =>
        have HN : Hid (BadAt xs (k : Int)) := by
          have : xs.all lineOk = false := by rw [List.all_eq_false]; exact ⟨x, List.mem_of_getElem? HX.out, by simp [hl]⟩
          unfold Hid BadAt; rw [this]; simp
        go_wp2_with (go_at_call 62; (with_reducible refine (good1_any _ _ HSx.out).mono ?_); rintro e w2 ⟨rfl, hb2⟩)
        go_ret
        exact ⟨_, rfl, HN.out, below_over hbl hbl.size hb2⟩
      | true =>
        have HS : Hid (∀ (j : Nat) y, j < k + 1 → xs[j]? = some y → lineOk y = true) := by
          intro j y hj hy
          by_cases hjk : j = k
          · subst hjk; rw [HX.out] at hy; cases hy; exact hl
          · exact HK.out j y (by omega) hy
        go_wp2_with (go_at_call 62; (with_reducible refine (good1_any _ _ HSx.out).mono ?_); rintro e w2 ⟨rfl, hb2⟩)
        go_roundw
        case rel => exact ⟨k + 1, by omega, by go_num, HS, below_over hbl hbl.size hb2⟩
        case measure => simp [intOf]; omega
    · obtain rfl : k = xs.length := by omega
      have HN : Hid (BadAt xs (-1)) := by
        have : xs.all lineOk = true := List.all_eq_true.2 fun x hx => by obtain ⟨j, hj, rfl⟩ := List.getElem_of_mem hx; exact HK.out j _ hj (List.getElem?_eq_getElem hj)
        unfold Hid BadAt; rw [this]; rfl
      go_wp2_with fail
      go_ret
      exact ⟨_, rfl, HN.out, hbl⟩
set_option maxHeartbeats 1000000 in
theorem contains_any (v : Value) (xs : List ByteArray) (w : World) (hv : SRow w v xs) (hz : SzS xs) :
    Calls Tryz.prog 61 #[v, .func (.func 62) #[] #[]] w fun e w' => e = .returned (.bool (!xs.all lineOk)) ∧ Below w.heap.size w w' := by
  go_enter Tryz.func61, Tryz.ntmps61
  go_wp2_with (go_at_call 82; (with_reducible refine (indexS_any _ _ _ hv hz).mono ?_); rintro e w2 ⟨i, rfl, hi, hb2⟩)
  go_ret
  exact ⟨ret_val (congrArg Value.bool hi), hb2⟩
end Go.Proofs.YtjbihmglpfdmnaaGreatDoor
