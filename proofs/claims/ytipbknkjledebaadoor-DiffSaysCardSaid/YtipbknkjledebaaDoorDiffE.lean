/- Contracts of the laws' own helpers: bruitlaw15.Few, bruitlaw50.few, model, same. -/
import Derived.Test.YtipbknkjledebaaDoorDiffD
namespace Go.Proofs.YtipbknkjledebaaDoor
open Go Go.RowKit

def shortB (x : ByteArray) : Bool := decide (x.size ≤ 200)
def fewFile (f : FileM) : Bool := decide (f.name.size ≤ 200) && (decide (f.also.length ≤ 40) && (decide (f.lines.length ≤ 100) && (f.also.all shortB && f.lines.all shortB)))
def few15 (t : List FileM) : Bool := decide (t.length ≤ 40) && t.all fewFile
def fewV (b : Bool) : Int := if b then 1 else 0
theorem few15_long {t : List FileM} (h : ¬ t.length ≤ 40) : few15 t = false := by simp [few15, h]
theorem few15_bad {t : List FileM} {k : Nat} {f : FileM} (hf : t[k]? = some f) (h : fewFile f = false) : few15 t = false := by
  unfold few15
  rw [Bool.and_eq_false_iff]; right
  rw [List.all_eq_false]
  exact ⟨f, List.mem_of_getElem? hf, by simp [h]⟩
theorem all_of {α : Type} {p : α → Bool} {l : List α} (h : ∀ (j : Nat) x, j < l.length → l[j]? = some x → p x = true) : l.all p = true :=
  List.all_eq_true.2 fun x hx => by obtain ⟨j, hj, rfl⟩ := List.getElem_of_mem hx; exact h j _ hj (List.getElem?_eq_getElem hj)
theorem not_all {α : Type} {p : α → Bool} {l : List α} {j : Nat} {x : α} (hx : l[j]? = some x) (h : p x = false) : l.all p = false := by
  rw [List.all_eq_false]; exact ⟨x, List.mem_of_getElem? hx, by simp [h]⟩
theorem few15_all {t : List FileM} (h : t.length ≤ 40) (ha : ∀ (j : Nat) g, j < t.length → t[j]? = some g → fewFile g = true) : few15 t = true := by
  unfold few15; rw [all_of ha]; simpa using h
theorem fewFile_name {f : FileM} (h : ¬ f.name.size ≤ 200) : fewFile f = false := by simp [fewFile, h]
theorem fewFile_also {f : FileM} (h : ¬ f.also.length ≤ 40) : fewFile f = false := by simp [fewFile, h]
theorem fewFile_lines {f : FileM} (h : ¬ f.lines.length ≤ 100) : fewFile f = false := by simp [fewFile, h]
theorem fewFile_alsoS {f : FileM} {j : Nat} {x : ByteArray} (hx : f.also[j]? = some x) (h : ¬ x.size ≤ 200) : fewFile f = false := by
  unfold fewFile; rw [not_all hx (by simp [shortB, h])]; simp
theorem fewFile_linesS {f : FileM} {j : Nat} {x : ByteArray} (hx : f.lines[j]? = some x) (h : ¬ x.size ≤ 200) : fewFile f = false := by
  unfold fewFile; rw [not_all (p := shortB) (l := f.lines) hx (by simp [shortB, h])]; simp
theorem fewFile_all {f : FileM} (h1 : f.name.size ≤ 200) (h2 : f.also.length ≤ 40) (h3 : f.lines.length ≤ 100) (h4 : ∀ (j : Nat) x, j < f.also.length → f.also[j]? = some x → shortB x = true) (h5 : ∀ (j : Nat) x, j < f.lines.length → f.lines[j]? = some x → shortB x = true) : fewFile f = true := by
  unfold fewFile; rw [all_of h4, all_of h5]; simp [h1, h2, h3]
theorem fewT_of {t : List FileM} (h : few15 t = true) : FewT t ∧ SzT t := by
  unfold few15 at h
  rw [Bool.and_eq_true, decide_eq_true_eq, List.all_eq_true] at h
  have h' : ∀ f ∈ t, f.name.size ≤ 200 ∧ f.lines.length ≤ 100 ∧ (∀ x ∈ f.also, x.size ≤ 200) ∧ ∀ x ∈ f.lines, x.size ≤ 200 := fun f hf => by
    have := h.2 f hf
    simp only [fewFile, Bool.and_eq_true, decide_eq_true_eq, List.all_eq_true, shortB] at this
    exact ⟨this.1, this.2.2.1, this.2.2.2.1, this.2.2.2.2⟩
  refine ⟨⟨h.1, fun f hf => (h' f hf).2.1⟩, fun f hf => ⟨?_, fun x hx => ?_, fun x hx => ?_⟩⟩
  · have := (h' f hf).1; unfold maxLen; omega
  · have := (h' f hf).2.2.1 x hx; unfold maxLen; omega
  · have := (h' f hf).2.2.2 x hx; unfold maxLen; omega
attribute [irreducible] few15 fewFile fewV
theorem fewV_f : fewV false = 0 := by unfold fewV; rfl
theorem fewV_t : fewV true = 1 := by unfold fewV; rfl
/-- the first k strings are short -/
def ShortTo (xs : List ByteArray) (k : Nat) : Prop := ∀ (j : Nat) x, j < k → xs[j]? = some x → shortB x = true
theorem ShortTo.succ {xs : List ByteArray} {k : Nat} {x : ByteArray} (h : ShortTo xs k) (hx : xs[k]? = some x) (hs : x.size ≤ 200) : ShortTo xs (k + 1) := by
  intro j y hj hy
  by_cases hjk : j = k
  · subst hjk; rw [hx] at hy; cases hy; simp [shortB, hs]
  · exact h j y (by omega) hy

set_option maxHeartbeats 4000000 in
set_option maxRecDepth 100000 in
theorem few15_any (v : Value) (t : List FileM) (w : World) (hv : FRow w v t) :
    Calls Tryd.prog 5 #[v] w fun e w' => e = .returned (.int .i64 (fewV (few15 t))) ∧ Below w.heap.size w w' := by
  obtain ⟨a, cap, rfl, h1, h2, _, hc⟩ := hv.form
  unfold maxLen at h2
  clear hv
  by_cases h40 : t.length ≤ 40
  · go_enter Tryd.func5, Tryd.ntmps5
    go_wp2
    go_loopw [3, 4, 5] (fun i _ _ wr => ∃ k : Nat, k ≤ t.length ∧ i = .int .i64 k ∧ Hid (∀ (j : Nat) g, j < k → t[j]? = some g → fewFile g = true) ∧ Below w.heap.size w wr) (fun i _ _ _ => t.length - (intOf i).toNat)
    case atStart => exact ⟨0, by omega, rfl, (fun j g hj => by omega), Below.refl _ _⟩
    case round =>
      obtain ⟨k, hk, rfl, HK, hbl⟩ := hrel
      by_cases hlt : k < t.length
      · obtain ⟨b, o, rfl, sb, hf⟩ := hc.resolve_left (by omega)
        obtain ⟨f, hx⟩ := get_of_lt hlt
        obtain ⟨av, lv, hat0⟩ := hf k f hx
        have hat := hat0.over hbl sb
        have c0 := hat.c0
        have c1 := hat.c1
        have c2 := hat.c2
        obtain ⟨aa, ca, rfl, a1, a2, _, hac⟩ := hat0.also.form
        obtain ⟨la, cl, rfl, l1, l2, _, hlc⟩ := hat0.lines.form
        have HAt := Lib.hid hat0
        have HLc := Lib.hid hlc
        have HAc := Lib.hid hac
        unfold maxLen at a2 l2
        have sb' : b < wr.heap.size := Nat.lt_of_lt_of_le sb hbl.size
        have HX := Lib.hid hx
        have HBad : Hid (fewFile f = false → few15 t = false) := fun h => few15_bad hx h
        clear hac hlc hat hat0 hx hf hc
        by_cases hn : f.name.size ≤ 200
        · by_cases hal : f.also.length ≤ 40
          · by_cases hll : f.lines.length ≤ 100
            · have HAll : Hid (ShortTo f.also f.also.length → ShortTo f.lines f.lines.length → fewFile f = true) := fewFile_all hn hal hll
              go_wp2_with fail
              clear c0 c1 c2
              obtain ⟨wo, rfl⟩ : ∃ wo : World, wo = wr := ⟨_, rfl⟩
              go_loopw [4] (fun j w2 => ∃ q : Nat, q ≤ f.also.length ∧ j = .int .i64 q ∧ Hid (ShortTo f.also q) ∧ Below w.heap.size w w2) (fun j _ => f.also.length - (intOf j).toNat)
              case atStart => exact ⟨0, by omega, rfl, (fun j x hj => by omega), hbl⟩
              case round =>
                obtain ⟨q, hq, rfl, HQ, hbl2⟩ := hrel
                have c1 := (HAt.out.over hbl2 sb).c1
                have sb2 : b < wr.heap.size := Nat.lt_of_lt_of_le sb hbl2.size
                by_cases hqt : q < f.also.length
                · obtain ⟨bl, ol, rfl, sl, hlc⟩ := HAc.out.resolve_left (by omega)
                  obtain ⟨x, hx⟩ := get_of_lt hqt
                  have cx := (hbl2.cell (p := ⟨bl, ol + q, none⟩) sl).trans (hlc q x hx)
                  have sl2 : bl < wr.heap.size := Nat.lt_of_lt_of_le sl hbl2.size
                  have HXq := Lib.hid hx
                  clear hx hlc
                  by_cases hs : x.size ≤ 200
                  · have HS : Hid (ShortTo f.also (q + 1)) := HQ.out.succ HXq.out hs
                    go_wp2_with fail
                    go_roundw
                    case rel => exact ⟨q + 1, by omega, by go_num, HS, hbl2⟩
                    case measure => simp [intOf]; omega
                  · have HN : Hid (few15 t = false) := HBad.out (fewFile_alsoS HXq.out hs)
                    go_wp2_with fail
                    go_ret
                    exact ⟨ret_val (congrArg (Value.int .i64) (by rw [HN.out, fewV_f])), hbl2⟩
                · obtain rfl : q = f.also.length := by omega
                  go_wp2_with fail
                  clear c1
                  obtain ⟨wo2, rfl⟩ : ∃ wo : World, wo = wr := ⟨_, rfl⟩
                  go_loopw [5] (fun j w2 => ∃ q : Nat, q ≤ f.lines.length ∧ j = .int .i64 q ∧ Hid (ShortTo f.lines q) ∧ Below w.heap.size w w2) (fun j _ => f.lines.length - (intOf j).toNat)
                  case atStart => exact ⟨0, by omega, rfl, (fun j x hj => by omega), hbl2⟩
                  case round =>
                    obtain ⟨q, hq, rfl, HQ2, hbl3⟩ := hrel
                    have c2 := (HAt.out.over hbl3 sb).c2
                    have sb3 : b < wr.heap.size := Nat.lt_of_lt_of_le sb hbl3.size
                    by_cases hqt : q < f.lines.length
                    · obtain ⟨bl, ol, rfl, sl, hlc⟩ := HLc.out.resolve_left (by omega)
                      obtain ⟨x, hx⟩ := get_of_lt hqt
                      have cx := (hbl3.cell (p := ⟨bl, ol + q, none⟩) sl).trans (hlc q x hx)
                      have sl2 : bl < wr.heap.size := Nat.lt_of_lt_of_le sl hbl3.size
                      have HXq := Lib.hid hx
                      clear hx hlc
                      by_cases hs : x.size ≤ 200
                      · have HS : Hid (ShortTo f.lines (q + 1)) := HQ2.out.succ HXq.out hs
                        go_wp2_with fail
                        go_roundw
                        case rel => exact ⟨q + 1, by omega, by go_num, HS, hbl3⟩
                        case measure => simp [intOf]; omega
                      · have HN : Hid (few15 t = false) := HBad.out (fewFile_linesS HXq.out hs)
                        go_wp2_with fail
                        go_ret
                        exact ⟨ret_val (congrArg (Value.int .i64) (by rw [HN.out, fewV_f])), hbl3⟩
                    · obtain rfl : q = f.lines.length := by omega
                      have HS : Hid (∀ (j : Nat) g, j < k + 1 → t[j]? = some g → fewFile g = true) := by
                        intro j g hj hg
                        by_cases hjk : j = k
                        · subst hjk; rw [HX.out] at hg; cases hg; exact HAll.out HQ.out HQ2.out
                        · exact HK.out j g (by omega) hg
                      go_wp2_with fail
                      go_roundw
                      case rel => exact ⟨k + 1, by omega, by go_num, HS, hbl3⟩
                      case measure => simp [intOf]; omega
            · have HN : Hid (few15 t = false) := HBad.out (fewFile_lines hll)
              go_wp2_with fail
              go_ret
              exact ⟨ret_val (congrArg (Value.int .i64) (by rw [HN.out, fewV_f])), hbl⟩
          · have HN : Hid (few15 t = false) := HBad.out (fewFile_also hal)
            go_wp2_with fail
            go_ret
            exact ⟨ret_val (congrArg (Value.int .i64) (by rw [HN.out, fewV_f])), hbl⟩
        · have HN : Hid (few15 t = false) := HBad.out (fewFile_name hn)
          go_wp2_with fail
          go_ret
          exact ⟨ret_val (congrArg (Value.int .i64) (by rw [HN.out, fewV_f])), hbl⟩
      · obtain rfl : k = t.length := by omega
        have HN : Hid (few15 t = true) := few15_all h40 HK.out
        go_wp2_with fail
        go_ret
        exact ⟨ret_val (congrArg (Value.int .i64) (by rw [HN.out, fewV_t])), hbl⟩
  · have HN : Hid (few15 t = false) := few15_long h40
    go_enter Tryd.func5, Tryd.ntmps5
    go_wp2
    go_ret
    exact ⟨ret_val (congrArg (Value.int .i64) (by rw [HN.out, fewV_f])), Below.refl _ _⟩
end Go.Proofs.YtipbknkjledebaaDoor
