/- Contracts of bruitlaw50.few, model, same. -/
import Derived.Test.YtjbihmglpfdmnaaGreatDoorDiffE
namespace Go.Proofs.YtjbihmglpfdmnaaGreatDoor
open Go Go.RowKit

/-- what lies at an edit's place -/
structure EAt (w : World) (b o : Nat) (e : EditM) : Prop where
  c0 : w.cell? ⟨b, o, none⟩ = some (.int .u8 (e.kind : Int))
  c1 : w.cell? ⟨b, o + 1, none⟩ = some (.string e.name)
  c2 : w.cell? ⟨b, o + 2, none⟩ = some (.int .i64 e.at')
  c3 : w.cell? ⟨b, o + 3, none⟩ = some (.string e.text)
theorem EAt.over {w w' : World} {b o : Nat} {e : EditM} (h : EAt w b o e) (hb : Below w.heap.size w w') (hlt : b < w.heap.size) : EAt w' b o e :=
  ⟨(hb.cell (p := ⟨b, _, none⟩) hlt).trans h.c0, (hb.cell (p := ⟨b, _, none⟩) hlt).trans h.c1, (hb.cell (p := ⟨b, _, none⟩) hlt).trans h.c2, (hb.cell (p := ⟨b, _, none⟩) hlt).trans h.c3⟩
theorem ERow.form {w : World} {v : Value} {es : List EditM} (h : ERow w v es) : ∃ a cap, v = .slice a es.length cap ∧ es.length ≤ cap ∧ cap ≤ maxLen ∧ (a = none → cap = 0) ∧
    (es.length = 0 ∨ ∃ b off, a = some ⟨b, off, none⟩ ∧ b < w.heap.size ∧ ∀ i e, es[i]? = some e → EAt w b (off + i * 4) e) := by
  obtain ⟨a, cap, e1, e2, e3, e4, e5⟩ := Row.form h
  refine ⟨a, cap, e1, e2, e3, e4, e5.imp id ?_⟩
  rintro ⟨b, off, rfl, hb, hc⟩
  exact ⟨b, off, rfl, hb, fun i e he => ⟨Row.elem (j := 0) encE_len hc he rfl, Row.elem (j := 1) encE_len hc he rfl, Row.elem (j := 2) encE_len hc he rfl, Row.elem (j := 3) encE_len hc he rfl⟩⟩
def fewEd (e : EditM) : Bool := decide (e.name.size ≤ 100) && decide (e.text.size ≤ 200)
def few50 (es : List EditM) : Bool := decide (es.length ≤ 100) && es.all fewEd
theorem few50_long {es : List EditM} (h : ¬ es.length ≤ 100) : few50 es = false := by simp [few50, h]
theorem few50_bad {es : List EditM} {k : Nat} {e : EditM} (he : es[k]? = some e) (h : fewEd e = false) : few50 es = false := by
  unfold few50; rw [not_all he h]; simp
theorem few50_all {es : List EditM} (h : es.length ≤ 100) (ha : ∀ (j : Nat) e, j < es.length → es[j]? = some e → fewEd e = true) : few50 es = true := by
  unfold few50; rw [all_of ha]; simpa using h
theorem few50_of {es : List EditM} (h : few50 es = true) : es.length ≤ 100 ∧ ∀ e ∈ es, e.name.size ≤ 100 ∧ e.text.size ≤ 200 := by
  unfold few50 at h
  rw [Bool.and_eq_true, decide_eq_true_eq, List.all_eq_true] at h
  refine ⟨h.1, fun e he => ?_⟩
  have := h.2 e he
  simpa [fewEd] using this
theorem fewEd_name {e : EditM} (h : ¬ e.name.size ≤ 100) : fewEd e = false := by simp [fewEd, h]
theorem fewEd_text {e : EditM} (h : ¬ e.text.size ≤ 200) : fewEd e = false := by simp [fewEd, h]
theorem fewEd_yes {e : EditM} (h : e.name.size ≤ 100) (h' : e.text.size ≤ 200) : fewEd e = true := by simp [fewEd, h, h']
def sameE (a b : List EditM) : Bool := decide (a = b)
theorem sameE_t {a b : List EditM} (h : a = b) : sameE a b = true := by simp [sameE, h]
theorem sameE_f {a b : List EditM} (h : ¬ a = b) : sameE a b = false := by simp [sameE, h]
attribute [irreducible] few50 fewEd sameE

set_option maxHeartbeats 4000000 in
set_option maxRecDepth 100000 in
theorem few50_any (v : Value) (es : List EditM) (w : World) (hv : ERow w v es) :
    Calls Tryz.prog 4 #[v] w fun e w' => e = .returned (.bool (few50 es)) ∧ Below w.heap.size w w' := by
  obtain ⟨a, cap, rfl, h1, h2, _, hc⟩ := hv.form
  unfold maxLen at h2
  clear hv
  by_cases h40 : es.length ≤ 100
  · go_enter Tryz.func4, Tryz.ntmps4
    go_wp2
    go_loopw [3] (fun i wr => ∃ k : Nat, k ≤ es.length ∧ i = .int .i64 k ∧ Hid (∀ (j : Nat) g, j < k → es[j]? = some g → fewEd g = true) ∧ Below w.heap.size w wr) (fun i _ => es.length - (intOf i).toNat)
    case atStart => exact ⟨0, by omega, rfl, (fun j g hj => by omega), Below.refl _ _⟩
    case round =>
      obtain ⟨k, hk, rfl, HK, hbl⟩ := hrel
      by_cases hlt : k < es.length
      · obtain ⟨b, o, rfl, sb, hf⟩ := hc.resolve_left (by omega)
        obtain ⟨f, hx⟩ := get_of_lt hlt
        have hat := (hf k f hx).over hbl sb
        have c1 := hat.c1
        have c3 := hat.c3
        have sb' : b < wr.heap.size := Nat.lt_of_lt_of_le sb hbl.size
        have HX := Lib.hid hx
        clear hat hx hf hc
        by_cases hn : f.name.size ≤ 100
        · by_cases ht : f.text.size ≤ 200
          · have HS : Hid (∀ (j : Nat) g, j < k + 1 → es[j]? = some g → fewEd g = true) := by
              intro j g hj hg
              by_cases hjk : j = k
              · subst hjk; rw [HX.out] at hg; cases hg; exact fewEd_yes hn ht
              · exact HK.out j g (by omega) hg
            go_wp2_with fail
            go_roundw
            case rel => exact ⟨k + 1, by omega, by go_num, HS, hbl⟩
            case measure => simp [intOf]; omega
          · have HN : Hid (few50 es = false) := few50_bad HX.out (fewEd_text ht)
            go_wp2_with fail
            go_ret
            exact ⟨ret_val (congrArg Value.bool HN.out.symm), hbl⟩
        · have HN : Hid (few50 es = false) := few50_bad HX.out (fewEd_name hn)
          go_wp2_with fail
          go_ret
          exact ⟨ret_val (congrArg Value.bool HN.out.symm), hbl⟩
      · obtain rfl : k = es.length := by omega
        have HN : Hid (few50 es = true) := few50_all h40 HK.out
        go_wp2_with fail
        go_ret
        exact ⟨ret_val (congrArg Value.bool HN.out.symm), hbl⟩
  · have HN : Hid (few50 es = false) := few50_long h40
    go_enter Tryz.func4, Tryz.ntmps4
    go_wp2
    go_ret
    exact ⟨ret_val (congrArg Value.bool HN.out.symm), Below.refl _ _⟩

def ModelRes (w : World) (es : List EditM) (e : Ending) (w' : World) : Prop := ∃ v, e = .returned v ∧ ERow w' v es ∧ Below w.heap.size w w'
def ModelRel (w : World) (es : List EditM) (v iv : Value) (wr : World) : Prop := ∃ k : Nat, k ≤ es.length ∧ iv = .int .i64 k ∧ Hid (EOwn wr w.heap.size 53 v (es.take k)) ∧ Below w.heap.size w wr
set_option maxHeartbeats 4000000 in
set_option maxRecDepth 100000 in
theorem model_any (v : Value) (es : List EditM) (w : World) (hv : ERow w v es) (hl : es.length ≤ 100000) :
    Calls Tryz.prog 10 #[v] w (ModelRes w es) := by
  obtain ⟨a, cap, rfl, h1, h2, _, hc⟩ := hv.form
  unfold maxLen at h2
  clear hv
  go_enter Tryz.func10, Tryz.ntmps10
  go_wp2
  go_loopw [3, 4] (ModelRel w es) (fun _ i _ => es.length - (intOf i).toNat)
  case atStart => exact ⟨0, by omega, rfl, World.ownsRow_nil _ _ _ _, Below.refl _ _⟩
  case round =>
    obtain ⟨k, hk, rfl, HO, hbl⟩ := hrel
    by_cases hlt : k < es.length
    · obtain ⟨b, o, rfl, sb, hf⟩ := hc.resolve_left (by omega)
      obtain ⟨f, hx⟩ := get_of_lt hlt
      have hat := (hf k f hx).over hbl sb
      have c0 := hat.c0
      have c1 := hat.c1
      have c2 := hat.c2
      have c3 := hat.c3
      have sb' : b < wr.heap.size := Nat.lt_of_lt_of_le sb hbl.size
      have HT : Hid (es.take (k + 1) = es.take k ++ [f]) := take_succ_get hx
      have hN : (es.take k).length + 1 ≤ 1099511627776 := by rw [List.length_take]; omega
      have hB := hbl.size
      clear hat hx hf hc
      go_wp2_with fail
      refine wp_region_lex (C := IsOver wr) 23 [] (by kernel_rfl) (by kernel_rfl) (isOver_of (by repeat (first | exact Below.refl _ _ | apply Below.drew | apply below_drewN | (refine Below.alloc ?_ (by simp) _)))) ?_
      simp only [List.take_succ_cons, List.take_zero, List.drop_succ_cons, List.drop_zero]
      repeat (first | (refine lex_skip rfl rfl ?_; simp only [Act.put, List.setIfInBounds_toArray, List.set_cons_succ, List.set_cons_zero]) | (refine lex_one rfl ?_; go_big_quiet_step (fail); refine wpQuiet_nil ?_) | (refine lex_loud rfl ?_; go_wp2_with fail; refine ⟨(isOver_of (by repeat (first | exact Below.refl _ _ | apply Below.drew | apply below_drewN | (refine Below.alloc ?_ (by simp) _)))), ?_⟩))
      refine lex_end ?_
      go_wp2_with (at_builtin; (first | refine wpList_append_newD slEditR rfl _ _ rfl w.heap.size _ _ (drawn_alloc_drewN _ _ _) 1 _ _ _ HO.out rfl rfl rfl rfl hN (by decide) hB ?_ | refine wpList_append_newD slEditR rfl _ _ rfl w.heap.size _ _ (drawn_drew _) 1 _ _ _ HO.out rfl rfl rfl rfl hN (by decide) hB ?_ | refine wpList_append_newD slEditR rfl _ _ rfl w.heap.size _ _ (drawn_drewN _ _) 1 _ _ _ HO.out rfl rfl rfl rfl hN (by decide) hB ?_ | refine wpList_append_newD slEditR rfl _ _ rfl w.heap.size _ _ (drawn_refl _) 1 _ _ _ HO.out rfl rfl rfl rfl hN (by decide) hB ?_); intro v2 w2 hown2 hg2)
      go_roundw
      case rel => exact ⟨k + 1, by omega, by go_num, (by rw [HT.out]; exact EOwn.snoc (e := f) hown2), below_grown hbl hB HO.out hg2⟩
      case measure => simp [intOf]; omega
    · obtain rfl : k = es.length := by omega
      go_wp2_with fail
      go_ret
      have := HO.out
      rw [List.take_length] at this
      exact ⟨_, rfl, this.row, hbl⟩
end Go.Proofs.YtjbihmglpfdmnaaGreatDoor
