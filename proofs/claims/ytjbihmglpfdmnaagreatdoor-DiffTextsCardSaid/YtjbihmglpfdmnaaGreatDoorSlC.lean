/- Contracts of cmp.Compare at string, diff.made's comparer, slices.BinarySearchFunc. -/
import Derived.Test.YtjbihmglpfdmnaaGreatDoorSlB
namespace Go.Proofs.YtjbihmglpfdmnaaGreatDoor
open Go Go.RowKit

def cmpS (a b : ByteArray) : Int := if ltB a b = true then -1 else if a = b then 0 else 1
theorem cmpS_lt {a b : ByteArray} (h : ltB a b = true) : cmpS a b = -1 := by simp [cmpS, h]
theorem cmpS_eq {a b : ByteArray} (h : a = b) : cmpS a b = 0 := by subst h; simp [cmpS, ltB_irrefl]
theorem cmpS_gt {a b : ByteArray} (h : ltB a b = false) (h' : ¬ a = b) : cmpS a b = 1 := by simp [cmpS, h, h']
attribute [irreducible] cmpS

set_option maxHeartbeats 1000000 in
theorem isnan_any (s : ByteArray) (w : World) : Calls Tryz.prog 83 #[.string s] w fun e w' => e = .returned (.bool false) ∧ w = w' := by
  have h := seq_t (rfl : s = s)
  go_enter Tryz.func83, Tryz.ntmps83
  go_wp2
  go_ret
  exact ⟨by simp, rfl⟩
set_option maxHeartbeats 1000000 in
theorem compare_any (a b : ByteArray) (w : World) : Calls Tryz.prog 66 #[.string a, .string b] w fun e w' => e = .returned (.int .i64 (cmpS a b)) ∧ w = w' := by
  cases hl : ltB a b with
  | true =>
    have HR := Lib.hid (cmpS_lt hl)
    have hl' : Op.bytesLess a.toList b.toList = true := hl
    clear hl
    go_enter Tryz.func66, Tryz.ntmps66
    go_wp2_with (go_at_call 83; (with_reducible refine (isnan_any _ _).mono ?_); rintro e w' ⟨rfl, rfl⟩)
    go_ret
    exact ⟨ret_val (congrArg (Value.int .i64) HR.out.symm), rfl⟩
  | false =>
    by_cases he : a = b
    · have HR := Lib.hid (cmpS_eq he)
      have hl' : Op.bytesLess a.toList b.toList = false := hl
      have he' := seq_t he
      clear hl he
      go_enter Tryz.func66, Tryz.ntmps66
      go_wp2_with (go_at_call 83; (with_reducible refine (isnan_any _ _).mono ?_); rintro e w' ⟨rfl, rfl⟩)
      go_ret
      exact ⟨ret_val (congrArg (Value.int .i64) HR.out.symm), rfl⟩
    · have HR := Lib.hid (cmpS_gt hl he)
      have hl' : Op.bytesLess a.toList b.toList = false := hl
      have he' := seq_f he
      clear hl he
      go_enter Tryz.func66, Tryz.ntmps66
      go_wp2_with (go_at_call 83; (with_reducible refine (isnan_any _ _).mono ?_); rintro e w' ⟨rfl, rfl⟩)
      go_ret
      exact ⟨ret_val (congrArg (Value.int .i64) HR.out.symm), rfl⟩
set_option maxHeartbeats 1000000 in
theorem made1_any (nm s : ByteArray) (av lv : Value) (w : World) : Calls Tryz.prog 65 #[.agg #[.string nm, av, lv], .string s] w fun e w' => e = .returned (.int .i64 (cmpS nm s)) ∧ Below w.heap.size w w' := by
  go_enter Tryz.func65, Tryz.ntmps65
  go_wp2_with (go_at_call 66; (with_reducible refine (compare_any _ _ _).mono ?_); rintro e w' ⟨rfl, rfl⟩)
  go_ret
  exact ⟨rfl, below_box _⟩

/-- the first j names are less than n -/
def LessB (n : ByteArray) (t : List FileM) (j : Nat) : Prop := ∀ (i : Nat) f, i < j → t[i]? = some f → ltB f.name n = true
def MoreB (n : ByteArray) (t : List FileM) (j : Nat) : Prop := ∀ (i : Nat) f, j ≤ i → t[i]? = some f → ltB f.name n = false
theorem sorted_get {t : List FileM} (hs : t.Pairwise fun a b => ltB a.name b.name = true) {i j : Nat} {f g : FileM} (hij : i < j) (hf : t[i]? = some f) (hg : t[j]? = some g) : ltB f.name g.name = true := by
  obtain ⟨hi, rfl⟩ := List.getElem?_eq_some_iff.1 hf
  obtain ⟨hj, rfl⟩ := List.getElem?_eq_some_iff.1 hg
  exact List.pairwise_iff_getElem.1 hs i j hi hj hij
theorem LessB.of {n : ByteArray} {t : List FileM} (hs : t.Pairwise fun a b => ltB a.name b.name = true) {j : Nat} {g : FileM} (hg : t[j]? = some g) (hl : ltB g.name n = true) : LessB n t (j + 1) := by
  intro i f hi hf
  by_cases hij : i = j
  · subst hij; rw [hg] at hf; cases hf; exact hl
  · exact ltB_trans (sorted_get hs (by omega) hf hg) hl
theorem MoreB.of {n : ByteArray} {t : List FileM} (hs : t.Pairwise fun a b => ltB a.name b.name = true) {j : Nat} {g : FileM} (hg : t[j]? = some g) (hl : ltB g.name n = false) : MoreB n t j := by
  intro i f hi hf
  by_cases hij : i = j
  · subst hij; rw [hg] at hf; cases hf; exact hl
  · rw [Bool.eq_false_iff]
    intro h
    have := ltB_trans (sorted_get hs (by omega) hg hf) h
    rw [this] at hl; cases hl
theorem takeW_B {n : ByteArray} : ∀ {t : List FileM} {j : Nat}, j ≤ t.length → LessB n t j → (∀ x, t[j]? = some x → ltB x.name n = false) → t.takeWhile (fun f => ltB f.name n) = t.take j ∧ t.dropWhile (fun f => ltB f.name n) = t.drop j
  | [], j, hj, _, _ => by simp at hj; subst hj; simp
  | x :: hs, 0, _, _, hx => by
    have := hx x rfl
    simp [List.takeWhile_cons, List.dropWhile_cons, this]
  | x :: hs, j + 1, hj, hl, hx => by
    have h0 := hl 0 x (by omega) rfl
    have ih := takeW_B (n := n) (t := hs) (j := j) (by simpa using hj) (fun i y hi hy => hl (i + 1) y (by omega) (by simpa using hy)) (fun y hy => hx y (by simpa using hy))
    simp [List.takeWhile_cons, List.dropWhile_cons, h0, ih.1, ih.2]
theorem insT_B {n : ByteArray} {t : List FileM} {j : Nat} (hj : j ≤ t.length) (h : LessB n t j) (hm : MoreB n t j) : insT t n = t.take j ++ ⟨n, [], []⟩ :: t.drop j := by
  obtain ⟨h1, h2⟩ := takeW_B hj h (fun x hx => hm j x (Nat.le_refl _) hx)
  unfold insT; rw [h1, h2]
theorem findT_there {n : ByteArray} {t : List FileM} {j : Nat} {g : FileM} (h : LessB n t j) (hg : t[j]? = some g) (hn : g.name = n) : decide (0 ≤ findT t n) = true := by
  rw [findT_at (fun i f hi hf he => by have := h i f hi hf; rw [he, ltB_irrefl] at this; cases this) hg hn]; simp
theorem findT_not {n : ByteArray} {t : List FileM} {j : Nat} (hs : t.Pairwise fun a b => ltB a.name b.name = true) (h : LessB n t j) (hm : MoreB n t j) (hn : ∀ g, t[j]? = some g → g.name ≠ n) : decide (0 ≤ findT t n) = false := by
  rw [findT_none fun i f hf => ?_]
  · rfl
  · by_cases hi : i < j
    · exact ltB_ne (h i f hi hf)
    · by_cases hij : i = j
      · subst hij; exact hn f hf
      · intro he
        obtain ⟨g, hg⟩ := get_of_lt (xs := t) (i := j) (by have := (List.getElem?_eq_some_iff.1 hf).1; omega)
        have h1 := sorted_get hs (show j < i by omega) hg hf
        rw [he, hm j g (Nat.le_refl _) hg] at h1; cases h1
def BsRes (w : World) (t : List FileM) (n : ByteArray) (e : Ending) (w' : World) : Prop :=
  ∃ k : Nat, e = .returned (.tuple #[.int .i64 (k : Int), .bool (decide (0 ≤ findT t n))]) ∧ k ≤ t.length ∧ insT t n = t.take k ++ ⟨n, [], []⟩ :: t.drop k ∧ Below w.heap.size w w'
def BsRel (w : World) (t : List FileM) (n : ByteArray) (iv jv : Value) (wr : World) : Prop :=
  ∃ i j : Nat, iv = .int .i64 i ∧ jv = .int .i64 j ∧ i ≤ j ∧ j ≤ t.length ∧ Hid (LessB n t i) ∧ Hid (MoreB n t j) ∧ Below w.heap.size w wr

set_option maxHeartbeats 4000000 in
set_option maxRecDepth 100000 in
theorem bsearch_any (v : Value) (t : List FileM) (n : ByteArray) (w : World) (hv : FRow w v t) (hs : t.Pairwise fun a b => ltB a.name b.name = true) (hl : t.length ≤ 1000) :
    Calls Tryz.prog 64 #[v, .string n, .func (.func 65) #[] #[]] w (BsRes w t n) := by
  obtain ⟨a, cap, rfl, h1, h2, _, hc⟩ := hv.form
  unfold maxLen at h2
  have HC := Lib.hid hc
  have HS := Lib.hid hs
  clear hv hc hs
  go_enter Tryz.func64, Tryz.ntmps64
  go_wp2
  go_loopw [9, 10, 11] (fun i j _ wr => BsRel w t n i j wr) (fun i j _ _ => (intOf j).toNat - (intOf i).toNat)
  case atStart => exact ⟨0, t.length, rfl, rfl, by omega, Nat.le_refl _, (fun i f hi => by omega), (fun i f hi hf => by have := (List.getElem?_eq_some_iff.1 hf).1; omega), Below.refl _ _⟩
  case round =>
    obtain ⟨i, j, rfl, rfl, hij, hjl, HLs, HMr, hbl⟩ := hrel
    by_cases hlt : i < j
    · obtain ⟨q, hq⟩ : ∃ q, (i + j) / 2 = q := ⟨_, rfl⟩
      have eq' : ((i : Int) + (j : Int)) / 2 = (q : Int) := by omega
      have hiq : i ≤ q := by omega
      have hqj : q < j := by omega
      obtain ⟨b, o, rfl, sb, hf⟩ := HC.out.resolve_left (by omega)
      obtain ⟨f, hx⟩ := get_of_lt (xs := t) (i := q) (by omega)
      obtain ⟨av, lv, hat0⟩ := hf q f hx
      have hat := hat0.over hbl sb
      have c0 := hat.c0
      have c1 := hat.c1
      have c2 := hat.c2
      have sb' : b < wr.heap.size := Nat.lt_of_lt_of_le sb hbl.size
      have HX := Lib.hid hx
      clear hq hat0 hat hf hx
      cases hl : ltB f.name n with
      | true =>
        have HL : Hid (LessB n t (q + 1)) := LessB.of HS.out HX.out hl
        have HE := Lib.hid (cmpS_lt hl)
        clear hl
        go_wp2_with fail
        refine (made1_any _ _ _ _ _).mono ?_
        rintro e w3 ⟨rfl, hb3⟩
        rw [HE.out]
        go_wp2_with fail
        go_roundw
        case rel => exact ⟨q + 1, j, by go_num, rfl, by omega, hjl, HL, HMr, below_over hbl hbl.size hb3⟩
        case measure => simp [intOf]; omega
      | false =>
        have HM : Hid (MoreB n t q) := MoreB.of HS.out HX.out hl
        have hnn : decide (cmpS f.name n < 0) = false := by
          by_cases he : f.name = n
          · rw [cmpS_eq he]; rfl
          · rw [cmpS_gt hl he]; rfl
        clear hl
        go_wp2_with fail
        refine (made1_any _ _ _ _ _).mono ?_
        rintro e w3 ⟨rfl, hb3⟩
        go_wp2_with fail
        go_roundw
        case rel => exact ⟨i, q, rfl, rfl, hiq, by omega, HLs, HM, below_over hbl hbl.size hb3⟩
        case measure => simp [intOf]; omega
    · obtain rfl : i = j := by omega
      have HI : Hid (insT t n = t.take i ++ ⟨n, [], []⟩ :: t.drop i) := insT_B hjl HLs.out HMr.out
      by_cases hn : i < t.length
      · obtain ⟨b, o, rfl, sb, hf⟩ := HC.out.resolve_left (by omega)
        obtain ⟨f, hx⟩ := get_of_lt hn
        obtain ⟨av, lv, hat0⟩ := hf i f hx
        have hat := hat0.over hbl sb
        have c0 := hat.c0
        have c1 := hat.c1
        have c2 := hat.c2
        have sb' : b < wr.heap.size := Nat.lt_of_lt_of_le sb hbl.size
        have HX := Lib.hid hx
        clear hat0 hat hf hx
        by_cases he : f.name = n
        · have HF := Lib.hid (findT_there HLs.out HX.out he)
          have HE := Lib.hid (cmpS_eq he)
          clear he
          go_wp2_with fail
          refine (made1_any _ _ _ _ _).mono ?_
          rintro e w3 ⟨rfl, hb3⟩
          rw [HE.out]
          go_wp2_with fail
          go_ret2
          refine ⟨i, ?_, hjl, HI.out, below_over hbl hbl.size hb3⟩
          rw [HF.out]; rfl
        · have HF := Lib.hid (findT_not HS.out HLs.out HMr.out (fun g hg => by rw [HX.out] at hg; cases hg; exact he))
          have HE := Lib.hid (cmpS_gt (HMr.out i f (Nat.le_refl _) HX.out) he)
          clear he
          go_wp2_with fail
          refine (made1_any _ _ _ _ _).mono ?_
          rintro e w3 ⟨rfl, hb3⟩
          rw [HE.out]
          go_wp2_with fail
          go_ret2
          refine ⟨i, ?_, hjl, HI.out, below_over hbl hbl.size hb3⟩
          rw [HF.out]; rfl
      · obtain rfl : i = t.length := by omega
        have HF := Lib.hid (findT_not HS.out HLs.out HMr.out (fun g hg => by rw [List.getElem?_eq_none (Nat.le_refl _)] at hg; cases hg))
        go_wp2_with fail
        go_ret2
        refine ⟨t.length, ?_, Nat.le_refl _, HI.out, hbl⟩
        rw [HF.out]; rfl
end Go.Proofs.YtjbihmglpfdmnaaGreatDoor
