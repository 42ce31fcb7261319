/- A tree that a call owns, lines and all: what lies there, and a file's lines turned. Contract of diff.file: a line cut. Contract of diff.file: a line put. Contract of diff.made. Contract of diff.one. Contract of diff.one: what cuts a line, what puts one; all together. Contract of tree.Copy, at a tree without further names. Contract of diff.Apply. -/
import Derived.Test.YtjbihmglpfdmnaaGreatDoorSlC
import Derived.Test.YtjbihmglpfdmnaaGreatDoorLexK
namespace Go.Proofs.YtjbihmglpfdmnaaGreatDoor
open Go Go.RowKit

/-- the tree v is the call's own; so are its files' lines, each in a block of its own; no file has further names -/
structure MOwn (w : World) (B : Nat) (v : Value) (hs : List FileH) : Prop where
  own : TOwn w B v hs
  also : ∀ x ∈ hs, x.1.also = [] ∧ ∃ a c, x.2.1 = .slice a 0 c ∧ c ≤ maxLen ∧ (a = none → c = 0)
  lines : ∀ x ∈ hs, SOwn w B x.2.2 x.1.lines
  apart : ∀ (i j : Nat) x y, i ≠ j → hs[i]? = some x → hs[j]? = some y → x.2.2.ownBlock = none ∨ x.2.2.ownBlock ≠ y.2.2.ownBlock
theorem srow_none {a : Option Addr} {c : Nat} (h : c ≤ maxLen) (h' : a = none → c = 0) (w : World) : SRow w (.slice a 0 c) [] :=
  ⟨by simp, a, c, rfl, Nat.zero_le _, h, h', fun h => absurd rfl h⟩
theorem MOwn.held {w : World} {B : Nat} {v : Value} {hs : List FileH} (h : MOwn w B v hs) : Held w hs := fun x hx => by
  obtain ⟨e, a, c, e2, h1, h2⟩ := h.also x hx
  exact ⟨by rw [e, e2]; exact srow_none h1 h2 w, (h.lines x hx).srow⟩
theorem MOwn.frow {w : World} {B : Nat} {v : Value} {hs : List FileH} (h : MOwn w B v hs) : FRow w v (hs.map (·.1)) := h.own.frow h.held
theorem sown_over {w w' : World} {B : Nat} {v : Value} {xs : List ByteArray} (h : SOwn w B v xs) (hb : Below w.heap.size w w') : SOwn w' B v xs := own_over h hb
theorem MOwn.over {w w' : World} {B : Nat} {v : Value} {hs : List FileH} (h : MOwn w B v hs) (hb : Below w.heap.size w w') : MOwn w' B v hs :=
  ⟨own_over h.own hb, h.also, fun x hx => sown_over (h.lines x hx) hb, h.apart⟩
theorem mown_nil (w : World) (B : Nat) : MOwn w B (.slice none 0 0) [] := ⟨World.ownsRow_nil _ _ _ _, fun x hx => by simp at hx, fun x hx => by simp at hx, fun i j x y _ hx => by simp at hx⟩
theorem MOwn.at' {w : World} {B : Nat} {v : Value} {hs : List FileH} (h : MOwn w B v hs) (hn : hs.length ≠ 0) : ∃ g cap, v = .slice (some ⟨g, 0, none⟩) hs.length cap ∧ OwnAt w B 40 3 g hs.length cap (hs.flatMap encF) := own_at h.own hn
/-- a field of a file among files -/
theorem flat_set2 : ∀ {hs : List FileH} {k : Nat} {x : FileH} (u : Value), hs[k]? = some x → (hs.flatMap encF).set (k * 3 + 2) u = (hs.set k (x.1, x.2.1, u)).flatMap encF
  | [], k, x, u, h => by simp at h
  | y :: hs, 0, x, u, h => by
    simp at h; subst h
    simp [encF]
  | y :: hs, k + 1, x, u, h => by
    have ih := flat_set2 (hs := hs) (k := k) (x := x) u (by simpa using h)
    rw [List.set_cons_succ, List.flatMap_cons, List.flatMap_cons, ← ih, show (k + 1) * 3 + 2 = 3 + (k * 3 + 2) by omega]
    simp [encF, List.set_cons_succ, show 3 + (k * 3 + 2) = (k * 3 + 2) + 1 + 1 + 1 by omega]
theorem flat_name {hs : List FileH} {k : Nat} {x : FileH} {m : FileM} {u : Value} (hx : hs[k]? = some x) (hn : m.name = x.1.name) : (hs.set k (m, x.2.1, u)).flatMap encF = (hs.set k (x.1, x.2.1, u)).flatMap encF := by
  obtain ⟨hk, rfl⟩ := List.getElem?_eq_some_iff.1 hx
  rw [List.set_eq_take_append_cons_drop, List.set_eq_take_append_cons_drop, if_pos hk, if_pos hk]
  simp [encF, hn]
theorem flat_cell2 {hs : List FileH} {k : Nat} {x : FileH} (hx : hs[k]? = some x) : (hs.flatMap encF)[k * 3 + 2]? = some x.2.2 := by
  rw [flat_get encF_len hs k 2 x hx (by omega)]; rfl
theorem flat_cell1 {hs : List FileH} {k : Nat} {x : FileH} (hx : hs[k]? = some x) : (hs.flatMap encF)[k * 3 + 1]? = some x.2.1 := by
  rw [flat_get encF_len hs k 1 x hx (by omega)]; rfl
theorem flat_cell0 {hs : List FileH} {k : Nat} {x : FileH} (hx : hs[k]? = some x) : (hs.flatMap encF)[k * 3]? = some (.string x.1.name) := by
  have := flat_get encF_len hs k 0 x hx (by omega)
  rw [Nat.add_zero] at this
  rw [this]; rfl

/-- a file's lines are others -/
theorem MOwn.setLines {w w' : World} {B g cap k : Nat} {hs : List FileH} {x : FileH} {v' : Value} {l : List ByteArray} (h : MOwn w B (.slice (some ⟨g, 0, none⟩) hs.length cap) hs) (hx : hs[k]? = some x)
    (hg : w.grownBy w' x.2.2.ownBlock) (hv : SOwn w' B v' l) (hb : v'.ownBlock = x.2.2.ownBlock ∨ ∃ b, v'.ownBlock = some b ∧ w.heap.size ≤ b) :
    MOwn (w'.setCell ⟨g, k * 3 + 2, none⟩ v') B (.slice (some ⟨g, 0, none⟩) hs.length cap) (hs.set k (⟨x.1.name, [], l⟩, x.2.1, v')) ∧ (hs.set k (⟨x.1.name, [], l⟩, x.2.1, v')).map (·.1) = setL (hs.map (·.1)) k l := by
  have hk : k < hs.length := (List.getElem?_eq_some_iff.1 hx).1
  have hm : x ∈ hs := List.mem_of_getElem? hx
  obtain ⟨g', cap', hvv, hA⟩ := h.at' (by omega)
  cases hvv
  have hng : some g ≠ x.2.2.ownBlock := fun he => hA.ne (h.lines x hm) (by decide) he.symm
  have hA1 := hA.grown hg hng
  have hc2 := flat_cell2 hx
  have hA2 := hA1.setCell (k * 3 + 2) (List.getElem?_eq_some_iff.1 hc2).1 v'
  rw [flat_set2 v' hx, ← flat_name (m := ⟨x.1.name, [], l⟩) hx rfl] at hA2
  have hvg : v'.ownBlock ≠ some g := hA1.ne hv (by decide)
  have hkeep : ∀ {u : Value} {ys : List ByteArray}, SOwn w' B u ys → SOwn (w'.setCell ⟨g, k * 3 + 2, none⟩ v') B u ys := fun {u ys} hu => by
    have hn := hA1.ne hu (by decide)
    exact own_grown hu (grown_setCell w' (k * 3 + 2) v') (.inr hn)
  refine ⟨⟨?_, ?_, ?_, ?_⟩, ?_⟩
  · have := hA2.own
    unfold TOwn
    rw [List.length_set]; exact this
  · intro y hy
    rcases List.mem_or_eq_of_mem_set hy with hy | rfl
    · exact h.also y hy
    · exact ⟨rfl, (h.also x hm).2⟩
  · intro y hy
    obtain ⟨i, hi, hyi⟩ := List.getElem_of_mem hy
    rw [List.length_set] at hi
    by_cases hik : i = k
    · subst hik
      rw [List.getElem_set_self] at hyi
      subst hyi
      exact hkeep hv
    · rw [List.getElem_set_ne (fun h => hik h.symm)] at hyi
      have hyg : hs[i]? = some y := by rw [List.getElem?_eq_getElem hi, hyi]
      have hym := List.mem_of_getElem? hyg
      exact hkeep (own_grown (h.lines y hym) hg (h.apart i k y x hik hyg hx))
  · intro i j y z hij hy hz
    have old : ∀ (i : Nat) y, i ≠ k → hs[i]? = some y → y.2.2.ownBlock = none ∨ y.2.2.ownBlock ≠ v'.ownBlock := fun i y hik hy => by
      rcases hb with hb | ⟨b, hb, hlt⟩
      · rw [hb]; exact h.apart i k y x hik hy hx
      · cases hyb : y.2.2.ownBlock with
        | none => exact .inl rfl
        | some c =>
          right
          rw [hb]
          have := ((h.lines y (List.mem_of_getElem? hy)).lt c hyb).2
          simp; omega
    by_cases hik : i = k
    · subst hik
      rw [List.getElem?_set_self hk] at hy
      simp only [Option.some.injEq] at hy
      subst hy
      rw [List.getElem?_set_ne hij] at hz
      rcases old j z (Ne.symm hij) hz with h1 | h1
      · cases hvb : v'.ownBlock with
        | none => exact .inl rfl
        | some c => right; rw [h1]; simp
      · exact .inr (Ne.symm h1)
    · rw [List.getElem?_set_ne (Ne.symm hik)] at hy
      by_cases hjk : j = k
      · subst hjk
        rw [List.getElem?_set_self hk] at hz
        simp only [Option.some.injEq] at hz
        subst hz
        exact old i y hik hy
      · rw [List.getElem?_set_ne (Ne.symm hjk)] at hz
        exact h.apart i j y z hij hy hz
  · rw [List.map_set, setL_set (f := x.1) (by rw [List.getElem?_map, hx]; rfl)]
/-- what lies below the base is as it was -/
theorem MOwn.below {w w' : World} {B g cap k : Nat} {hs : List FileH} {x : FileH} {v' : Value} (h : MOwn w B (.slice (some ⟨g, 0, none⟩) hs.length cap) hs) (hx : hs[k]? = some x) (hB : B ≤ w.heap.size)
    (hg : w.grownBy w' x.2.2.ownBlock) : Below B w (w'.setCell ⟨g, k * 3 + 2, none⟩ v') := by
  have hk : k < hs.length := (List.getElem?_eq_some_iff.1 hx).1
  obtain ⟨g', cap', hvv, hA⟩ := h.at' (by omega)
  cases hvv
  have h1 : Below B w w' := (Below.refl B w).grown hg hB fun j hj => ((h.lines x (List.mem_of_getElem? hx)).lt j hj).1
  exact h1.setCell (by show B ≤ g; exact hA.base) _
/-- copied edits stay -/
def Ed (w w' : World) : Prop := ∀ b cs, ArrT w b 37 cs → ArrT w' b 37 cs
theorem ed_over {w w' : World} (hb : Below w.heap.size w w') : Ed w w' := fun _ _ h => h.over hb
theorem Ed.trans {w w1 w2 : World} (h : Ed w w1) (h' : Ed w1 w2) : Ed w w2 := fun b cs hh => h' b cs (h b cs hh)
theorem ed_grown {w w' : World} {B : Nat} {e : TypeId} {sz n : Nat} {v : Value} {xs : List Value} (ho : w.ownsRow B e sz v n xs) (hn : e ≠ 37) (hg : w.grownBy w' v.ownBlock) : Ed w w' := fun _ _ h => h.grown ho hn hg
theorem MOwn.ed {w w' : World} {B g cap k : Nat} {hs : List FileH} {x : FileH} {v' : Value} (h : MOwn w B (.slice (some ⟨g, 0, none⟩) hs.length cap) hs) (hx : hs[k]? = some x)
    (hg : w.grownBy w' x.2.2.ownBlock) : Ed w (w'.setCell ⟨g, k * 3 + 2, none⟩ v') := by
  have hk : k < hs.length := (List.getElem?_eq_some_iff.1 hx).1
  have hm : x ∈ hs := List.mem_of_getElem? hx
  obtain ⟨g', cap', hvv, hA⟩ := h.at' (by omega)
  cases hvv
  have hng : some g ≠ x.2.2.ownBlock := fun he => hA.ne (h.lines x hm) (by decide) he.symm
  have hA1 := hA.grown hg hng
  refine (ed_grown (h.lines x hm) (by decide) hg).trans ?_
  exact ed_grown hA1.own (by decide) (grown_setCell w' (k * 3 + 2) v')
end Go.Proofs.YtjbihmglpfdmnaaGreatDoor
namespace Go.Proofs.YtjbihmglpfdmnaaGreatDoor
open Go Go.RowKit

def FileRes (w : World) (B : Nat) (v : Value) (r : List FileM × Nat) (e : Ending) (w' : World) : Prop :=
  e = .returned (.int .i64 (r.2 : Int)) ∧ (r.2 = 0 → ∃ hs', MOwn w' B v hs' ∧ hs'.map (·.1) = r.1) ∧ Below B w w' ∧ Ed w w'
def fileK3 (t : List FileM) (k : Nat) (l : List ByteArray) (a : Int) : List FileM × Nat :=
  if a < 0 ∨ (l.length : Int) ≤ a then ([], 6) else (setL t k (l.take a.toNat ++ l.drop (a.toNat + 1)), 0)
def fileK4 (t : List FileM) (k : Nat) (l : List ByteArray) (a : Int) (s : ByteArray) : List FileM × Nat :=
  if a < 0 ∨ (l.length : Int) < a then ([], 1) else if lineOk s = false then ([], 4) else if 60 ≤ l.length then ([], 11) else (setL t k (l.take a.toNat ++ s :: l.drop a.toNat), 0)
theorem fileRes_bad {w w' : World} {B n : Nat} {v : Value} {r : List FileM × Nat} {z : Int} (h : r = ([], n)) (hz : z = (n : Int)) (hn : n ≠ 0) (hB : B ≤ w.heap.size) (hb : Below w.heap.size w w') : FileRes w B v r (.returned (.int .i64 z)) w' := by
  subst h; subst hz
  exact ⟨rfl, fun h => absurd h hn, hb.mono hB, ed_over hb⟩
theorem fileRes_ok {w w' : World} {B : Nat} {v : Value} {r : List FileM × Nat} {t : List FileM} {hs' : List FileH} (h : r = (t, 0)) (hm : MOwn w' B v hs') (ht : hs'.map (·.1) = t) (hb : Below B w w') (he : Ed w w') : FileRes w B v r (.returned (.int .i64 0)) w' := by
  subst h
  exact ⟨rfl, fun _ => ⟨hs', hm, ht⟩, hb, he⟩
theorem map_split {xs : List ByteArray} (m : Nat) : (xs.map Value.string).take (m * 1) ++ (xs.map Value.string).drop ((m + 1) * 1) = (xs.take m ++ xs.drop (m + 1)).map Value.string := by
  simp [List.map_take, List.map_drop]
theorem map_ins {xs : List ByteArray} (m : Nat) (s : ByteArray) : (xs.map Value.string).take (m * 1) ++ [.string s] ++ (xs.map Value.string).drop (m * 1) = (xs.take m ++ s :: xs.drop m).map Value.string := by
  simp [List.map_take, List.map_drop]

set_option maxHeartbeats 10000000 in
set_option maxRecDepth 100000 in
theorem file_cut (g cap : Nat) (hs : List FileH) (k : Nat) (x : FileH) (n : ByteArray) (a : Int) (s : ByteArray) (w : World) (B : Nat) (hM : MOwn w B (.slice (some ⟨g, 0, none⟩) hs.length cap) hs) (hx : hs[k]? = some x) (hB : B ≤ w.heap.size) (hl : x.1.lines.length ≤ 1000) :
    Calls Tryz.prog 50 #[.pointer (some ⟨g, k * 3, none⟩), .agg #[.int .u8 3, .string n, .int .i64 a, .string s]] w (FileRes w B (.slice (some ⟨g, 0, none⟩) hs.length cap) (fileK3 (hs.map (·.1)) k x.1.lines a)) := by
  have hk : k < hs.length := (List.getElem?_eq_some_iff.1 hx).1
  have hm : x ∈ hs := List.mem_of_getElem? hx
  obtain ⟨xa, xc, ex, x1, x2, _, _⟩ := (hM.lines x hm).srow.form
  obtain ⟨f, av, lv⟩ := x
  simp only at ex x1 hl
  subst ex
  unfold maxLen at x2
  obtain ⟨g', cap', hvv, hA⟩ := hM.at' (by omega)
  cases hvv
  have HM := Lib.hid hM
  have HX := Lib.hid hx
  have HA := Lib.hid hA
  have HC2 := Lib.hid (hA.cell (flat_cell2 hx))
  have HLn : Hid (SOwn w B (.slice xa f.lines.length xc) f.lines) := hM.lines _ hm
  have HNg : Hid (¬ some g = (Value.slice xa f.lines.length xc).ownBlock) := fun he => hA.ne (hM.lines _ hm) (by decide) he.symm
  have HNb : Hid (¬ some w.heap.size = (Value.slice xa f.lines.length xc).ownBlock) := fun he => by
    have := ((hM.lines _ hm).lt w.heap.size he.symm).2; omega
  have hgl := hA.lt
  have HA0 := Lib.hid (arrT_new w [.int .u8 3, .string n, .int .i64 a, .string s] 37)
  have HB0 := Lib.hid (below_box (w := w) (.cells #[.int .u8 3, .string n, .int .i64 a, .string s] 37))
  have hsz : w.heap.size < (w.alloc (.cells #[.int .u8 3, .string n, .int .i64 a, .string s] 37)).heap.size := by simp
  clear hM hx hA hm
  by_cases h0 : a < 0
  · have HR : Hid (fileK3 (hs.map (·.1)) k f.lines a = ([], 6)) := by show _ = _; unfold fileK3; rw [if_pos (.inl h0)]
    go_enter Tryz.func50, Tryz.ntmps50
    go_wp2_with fail
    generalize w.alloc (.cells #[.int .u8 3, .string n, .int .i64 a, .string s] 37) = w1 at *
    have c0 := HA0.out.arr.cell (j := 0) rfl
    have c2 := HA0.out.arr.cell (j := 2) rfl
    refine wp_region_lex (C := IsOver w1) 19 [] (by kernel_rfl) (by kernel_rfl) (isOver_of (by repeat (first | exact Below.refl _ _ | apply Below.drew | apply below_drewN | (refine Below.alloc ?_ (by simp) _)))) ?_
    simp only [List.take_succ_cons, List.take_zero, List.drop_succ_cons, List.drop_zero]
    repeat (first | (refine lex_skip rfl rfl ?_; simp only [Act.put, List.setIfInBounds_toArray, List.set_cons_succ, List.set_cons_zero]) | (refine lex_one rfl ?_; go_big_quiet_step (fail); refine wpQuiet_nil ?_))
    refine lex_end ?_
    go_wp2_with fail
    go_ret
    exact fileRes_bad HR.out rfl (by decide) hB HB0.out.drew
  · obtain ⟨m, rfl⟩ := Int.eq_ofNat_of_zero_le (show 0 ≤ a by omega)
    have hd0 : decide ((m : Int) < 0) = false := by simp
    by_cases hml : m < f.lines.length
    · obtain ⟨q, hq⟩ : ∃ q, f.lines.length = m + 1 + q := ⟨f.lines.length - (m + 1), by omega⟩
      have HR : Hid (fileK3 (hs.map (·.1)) k f.lines (m : Int) = (setL (hs.map (·.1)) k (f.lines.take m ++ f.lines.drop (m + 1)), 0)) := by show _ = _; unfold fileK3; rw [if_neg (by omega)]; simp
      have hdm : decide ((f.lines.length : Int) ≤ (m : Int)) = false := by simp; omega
      have HOl : Hid (w.ownsRow B 9 1 (.slice xa f.lines.length xc) (m + 1 + q) (f.lines.map Value.string)) := by
        show World.ownsRow _ _ _ _ _ _ _
        rw [← hq]; exact HLn.out
      have hmq : m + 1 + q ≤ 1000000 := by omega
      have hlq : m + q = (f.lines.take m ++ f.lines.drop (m + 1)).length := by simp; omega
      have HLq := Lib.hid hlq
      clear h0 hq hlq
      go_enter Tryz.func50, Tryz.ntmps50
      go_wp2_with fail
      have HCk := Lib.hid ((HB0.out.cell (p := ⟨g, k * 3 + 2, none⟩) hgl).trans HC2.out)
      have HA1 := Lib.hid (HA.out.over HB0.out)
      have HM1 := Lib.hid (HM.out.over HB0.out)
      have HOl1 := Lib.hid (own_over HOl.out HB0.out)
      generalize w.alloc (.cells #[.int .u8 3, .string n, .int .i64 (m : Int), .string s] 37) = w1 at *
      have c0 := HA0.out.arr.cell (j := 0) rfl
      have c2 := HA0.out.arr.cell (j := 2) rfl
      have ck := HCk.out
      have hgl1 : g < w1.heap.size := by omega
      refine wp_region_lex (C := IsOver w1) 19 [] (by kernel_rfl) (by kernel_rfl) (isOver_of (by repeat (first | exact Below.refl _ _ | apply Below.drew | apply below_drewN | (refine Below.alloc ?_ (by simp) _)))) ?_
      simp only [List.take_succ_cons, List.take_zero, List.drop_succ_cons, List.drop_zero]
      repeat (first | (refine lex_skip rfl rfl ?_; simp only [Act.put, List.setIfInBounds_toArray, List.set_cons_succ, List.set_cons_zero]) | (refine lex_one rfl ?_; go_big_quiet_step (fail); refine wpQuiet_nil ?_))
      refine lex_end ?_
      go_wp2_with fail
      have HOl2 : Hid (w1.drew.drew.ownsRow B 9 1 (.slice xa f.lines.length xc) (m + 1 + q) (f.lines.map Value.string)) := HOl1.out
      have hng := HNg.out
      have hnb := HNb.out
      have hcur : World.grownBy w1 w1.drew.drew (Value.slice xa f.lines.length xc).ownBlock := ⟨rfl, rfl, rfl, Nat.le_refl _, fun _ _ _ => rfl⟩
      refine wp_region_lex (C := IsKept w1 (Value.slice xa f.lines.length xc).ownBlock) 11 [] (by kernel_rfl) (by kernel_rfl) (isKept_of hcur) ?_
      simp only [List.take_succ_cons, List.take_zero, List.drop_succ_cons, List.drop_zero]
      repeat (first | (refine lex_skip rfl rfl ?_; simp only [Act.put, List.setIfInBounds_toArray, List.set_cons_succ, List.set_cons_zero]) | (refine lex_one rfl ?_; go_big_quiet_step (fail); refine wpQuiet_nil ?_) | (refine lex_loud rfl ?_; go_wp2_with (first | (go_at_call 68; (with_reducible refine (delete_str _ m q _ _ B HOl2.out (string_one _) hmq).mono ?_); rintro e w' ⟨v', rfl, hO, hg, hvb⟩; obtain ⟨vb0, vl0, vc0, rfl⟩ := own_slice hO; have HO' := Lib.hid hO; have HVb := Lib.hid hvb; replace hcur := grown_trans hcur hg; clear hO hvb hg)); refine ⟨isKept_of (by first | exact hcur | exact only_alloc hcur _ | exact grown_trans hcur (grown_setCell _ _ _) | exact grown_trans (grown_trans hcur (grown_setCell _ _ _)) (grown_setCell _ _ _)), ?_⟩))
      refine lex_end ?_
      have HA' := Lib.hid (HA1.out.grown hcur hng)
      have ck' := HA'.out.cell (flat_cell2 HX.out)
      have cf' := HA'.out.free (k * 3 + 2)
      have hgl' := HA'.out.lt
      clear hng hnb ck c0 c2
      go_wp2_with fail
      go_ret
      have hv' : SOwn w' B (.slice vb0 vl0 vc0) (f.lines.take m ++ f.lines.drop (m + 1)) := by
        unfold SOwn
        rw [← HLq.out, ← map_split]; exact HO'.out
      obtain ⟨hM2, hmap⟩ := HM1.out.setLines HX.out hcur hv' (.inl HVb.out)
      exact fileRes_ok HR.out hM2 hmap ((HB0.out.mono hB).trans (HM1.out.below HX.out (by omega) hcur)) ((ed_over HB0.out).trans (HM1.out.ed HX.out hcur))
    · have HR : Hid (fileK3 (hs.map (·.1)) k f.lines (m : Int) = ([], 6)) := by show _ = _; unfold fileK3; rw [if_pos (.inr (by omega))]
      have hdm : decide ((f.lines.length : Int) ≤ (m : Int)) = true := by simp; omega
      clear h0
      go_enter Tryz.func50, Tryz.ntmps50
      go_wp2_with fail
      have HCk := Lib.hid ((HB0.out.cell (p := ⟨g, k * 3 + 2, none⟩) hgl).trans HC2.out)
      generalize w.alloc (.cells #[.int .u8 3, .string n, .int .i64 (m : Int), .string s] 37) = w1 at *
      have c0 := HA0.out.arr.cell (j := 0) rfl
      have c2 := HA0.out.arr.cell (j := 2) rfl
      have ck := HCk.out
      have hgl1 : g < w1.heap.size := by omega
      refine wp_region_lex (C := IsOver w1) 19 [] (by kernel_rfl) (by kernel_rfl) (isOver_of (by repeat (first | exact Below.refl _ _ | apply Below.drew | apply below_drewN | (refine Below.alloc ?_ (by simp) _)))) ?_
      simp only [List.take_succ_cons, List.take_zero, List.drop_succ_cons, List.drop_zero]
      repeat (first | (refine lex_skip rfl rfl ?_; simp only [Act.put, List.setIfInBounds_toArray, List.set_cons_succ, List.set_cons_zero]) | (refine lex_one rfl ?_; go_big_quiet_step (fail); refine wpQuiet_nil ?_))
      refine lex_end ?_
      go_wp2_with fail
      go_ret
      exact fileRes_bad HR.out rfl (by decide) hB HB0.out.drew
end Go.Proofs.YtjbihmglpfdmnaaGreatDoor
namespace Go.Proofs.YtjbihmglpfdmnaaGreatDoor
open Go Go.RowKit

set_option maxHeartbeats 10000000 in
set_option maxRecDepth 100000 in
theorem file_put (g cap : Nat) (hs : List FileH) (k : Nat) (x : FileH) (n : ByteArray) (a : Int) (s : ByteArray) (w : World) (B : Nat) (hM : MOwn w B (.slice (some ⟨g, 0, none⟩) hs.length cap) hs) (hx : hs[k]? = some x) (hB : B ≤ w.heap.size) (hl : x.1.lines.length ≤ 1000) (hz : s.size ≤ maxLen) :
    Calls Tryz.prog 50 #[.pointer (some ⟨g, k * 3, none⟩), .agg #[.int .u8 4, .string n, .int .i64 a, .string s]] w (FileRes w B (.slice (some ⟨g, 0, none⟩) hs.length cap) (fileK4 (hs.map (·.1)) k x.1.lines a s)) := by
  have hk : k < hs.length := (List.getElem?_eq_some_iff.1 hx).1
  have hm : x ∈ hs := List.mem_of_getElem? hx
  obtain ⟨xa, xc, ex, x1, x2, _, _⟩ := (hM.lines x hm).srow.form
  obtain ⟨f, av, lv⟩ := x
  simp only at ex x1 hl
  subst ex
  unfold maxLen at x2
  obtain ⟨g', cap', hvv, hA⟩ := hM.at' (by omega)
  cases hvv
  have HM := Lib.hid hM
  have HX := Lib.hid hx
  have HA := Lib.hid hA
  have HC2 := Lib.hid (hA.cell (flat_cell2 hx))
  have HLn : Hid (SOwn w B (.slice xa f.lines.length xc) f.lines) := hM.lines _ hm
  have HNg : Hid (¬ some g = (Value.slice xa f.lines.length xc).ownBlock) := fun he => hA.ne (hM.lines _ hm) (by decide) he.symm
  have HNb : Hid (¬ some w.heap.size = (Value.slice xa f.lines.length xc).ownBlock) := fun he => by
    have := ((hM.lines _ hm).lt w.heap.size he.symm).2; omega
  have hgl := hA.lt
  have HA0 := Lib.hid (arrT_new w [.int .u8 4, .string n, .int .i64 a, .string s] 37)
  have HB0 := Lib.hid (below_box (w := w) (.cells #[.int .u8 4, .string n, .int .i64 a, .string s] 37))
  have hsz : w.heap.size < (w.alloc (.cells #[.int .u8 4, .string n, .int .i64 a, .string s] 37)).heap.size := by simp
  have HZ := Lib.hid hz
  clear hM hx hA hm hz
  by_cases h0 : a < 0
  · have HR : Hid (fileK4 (hs.map (·.1)) k f.lines a s = ([], 1)) := by show _ = _; unfold fileK4; rw [if_pos (.inl h0)]
    go_enter Tryz.func50, Tryz.ntmps50
    go_wp2_with fail
    have HCk := Lib.hid ((HB0.out.cell (p := ⟨g, k * 3 + 2, none⟩) hgl).trans HC2.out)
    have HA1 := Lib.hid (HA.out.over HB0.out)
    have HM1 := Lib.hid (HM.out.over HB0.out)
    generalize w.alloc (.cells #[.int .u8 4, .string n, .int .i64 a, .string s] 37) = w1 at *
    have c0 := HA0.out.arr.cell (j := 0) rfl
    have c2 := HA0.out.arr.cell (j := 2) rfl
    have c3 := HA0.out.arr.cell (j := 3) rfl
    have ck := HCk.out
    have hgl1 : g < w1.heap.size := by omega
    refine wp_region_lex (C := IsOver w1) 19 [] (by kernel_rfl) (by kernel_rfl) (isOver_of (by repeat (first | exact Below.refl _ _ | apply Below.drew | apply below_drewN | (refine Below.alloc ?_ (by simp) _)))) ?_
    simp only [List.take_succ_cons, List.take_zero, List.drop_succ_cons, List.drop_zero]
    repeat (first | (refine lex_skip rfl rfl ?_; simp only [Act.put, List.setIfInBounds_toArray, List.set_cons_succ, List.set_cons_zero]) | (refine lex_one rfl ?_; go_big_quiet_step (fail); refine wpQuiet_nil ?_))
    refine lex_end ?_
    go_wp2_with fail
    refine wp_region_lex (C := IsOver w1) 14 [] (by kernel_rfl) (by kernel_rfl) (isOver_of (by repeat (first | exact Below.refl _ _ | apply Below.drew | apply below_drewN | (refine Below.alloc ?_ (by simp) _)))) ?_
    simp only [List.take_succ_cons, List.take_zero, List.drop_succ_cons, List.drop_zero]
    repeat (first | (refine lex_skip rfl rfl ?_; simp only [Act.put, List.setIfInBounds_toArray, List.set_cons_succ, List.set_cons_zero]) | (refine lex_one rfl ?_; go_big_quiet_step (fail); refine wpQuiet_nil ?_))
    refine lex_end ?_
    go_wp2_with fail
    go_ret
    exact fileRes_bad HR.out rfl (by decide) hB HB0.out.drew.drew
  · obtain ⟨m, rfl⟩ := Int.eq_ofNat_of_zero_le (show 0 ≤ a by omega)
    have hd0 : decide ((m : Int) < 0) = false := by simp
    by_cases hml : m ≤ f.lines.length
    · have hdm : decide ((f.lines.length : Int) < (m : Int)) = false := by simp; omega
      clear h0
      cases hok : lineOk s with
      | false =>
        have HR : Hid (fileK4 (hs.map (·.1)) k f.lines (m : Int) s = ([], 4)) := by show _ = _; unfold fileK4; rw [if_neg (by omega), if_pos hok]
        go_enter Tryz.func50, Tryz.ntmps50
        go_wp2_with fail
        have HCk := Lib.hid ((HB0.out.cell (p := ⟨g, k * 3 + 2, none⟩) hgl).trans HC2.out)
        have HA1 := Lib.hid (HA.out.over HB0.out)
        have HM1 := Lib.hid (HM.out.over HB0.out)
        generalize w.alloc (.cells #[.int .u8 4, .string n, .int .i64 (m : Int), .string s] 37) = w1 at *
        have c0 := HA0.out.arr.cell (j := 0) rfl
        have c2 := HA0.out.arr.cell (j := 2) rfl
        have c3 := HA0.out.arr.cell (j := 3) rfl
        have ck := HCk.out
        have hgl1 : g < w1.heap.size := by omega
        refine wp_region_lex (C := IsOver w1) 19 [] (by kernel_rfl) (by kernel_rfl) (isOver_of (by repeat (first | exact Below.refl _ _ | apply Below.drew | apply below_drewN | (refine Below.alloc ?_ (by simp) _)))) ?_
        simp only [List.take_succ_cons, List.take_zero, List.drop_succ_cons, List.drop_zero]
        repeat (first | (refine lex_skip rfl rfl ?_; simp only [Act.put, List.setIfInBounds_toArray, List.set_cons_succ, List.set_cons_zero]) | (refine lex_one rfl ?_; go_big_quiet_step (fail); refine wpQuiet_nil ?_))
        refine lex_end ?_
        go_wp2_with fail
        refine wp_region_lex (C := IsOver w1) 14 [] (by kernel_rfl) (by kernel_rfl) (isOver_of (by repeat (first | exact Below.refl _ _ | apply Below.drew | apply below_drewN | (refine Below.alloc ?_ (by simp) _)))) ?_
        simp only [List.take_succ_cons, List.take_zero, List.drop_succ_cons, List.drop_zero]
        repeat (first | (refine lex_skip rfl rfl ?_; simp only [Act.put, List.setIfInBounds_toArray, List.set_cons_succ, List.set_cons_zero]) | (refine lex_one rfl ?_; go_big_quiet_step (fail); refine wpQuiet_nil ?_))
        refine lex_end ?_
        go_wp2_with fail
        refine (line_any s _ HZ.out).mono ?_
        rintro e w2 ⟨rfl, hb2⟩
        have hb12 : Below w1.heap.size w1 w2 := (below_over (w := w1.drew.drew) (Below.refl _ _).drew.drew (Nat.le_refl _) hb2)
        have HB2 := Lib.hid (below_over HB0.out HB0.out.size hb12)
        have HA2 := Lib.hid (HA1.out.over hb12)
        have HM2 := Lib.hid (HM1.out.over hb12)
        have HE2 := Lib.hid (HA0.out.over hb12)
        go_wp2_with fail
        go_ret
        exact fileRes_bad HR.out rfl (by decide) hB HB2.out
      | true =>
        by_cases h60 : 60 ≤ f.lines.length
        · have HR : Hid (fileK4 (hs.map (·.1)) k f.lines (m : Int) s = ([], 11)) := by show _ = _; unfold fileK4; rw [if_neg (by omega), if_neg (by simp [hok]), if_pos h60]
          go_enter Tryz.func50, Tryz.ntmps50
          go_wp2_with fail
          have HCk := Lib.hid ((HB0.out.cell (p := ⟨g, k * 3 + 2, none⟩) hgl).trans HC2.out)
          have HA1 := Lib.hid (HA.out.over HB0.out)
          have HM1 := Lib.hid (HM.out.over HB0.out)
          generalize w.alloc (.cells #[.int .u8 4, .string n, .int .i64 (m : Int), .string s] 37) = w1 at *
          have c0 := HA0.out.arr.cell (j := 0) rfl
          have c2 := HA0.out.arr.cell (j := 2) rfl
          have c3 := HA0.out.arr.cell (j := 3) rfl
          have ck := HCk.out
          have hgl1 : g < w1.heap.size := by omega
          refine wp_region_lex (C := IsOver w1) 19 [] (by kernel_rfl) (by kernel_rfl) (isOver_of (by repeat (first | exact Below.refl _ _ | apply Below.drew | apply below_drewN | (refine Below.alloc ?_ (by simp) _)))) ?_
          simp only [List.take_succ_cons, List.take_zero, List.drop_succ_cons, List.drop_zero]
          repeat (first | (refine lex_skip rfl rfl ?_; simp only [Act.put, List.setIfInBounds_toArray, List.set_cons_succ, List.set_cons_zero]) | (refine lex_one rfl ?_; go_big_quiet_step (fail); refine wpQuiet_nil ?_))
          refine lex_end ?_
          go_wp2_with fail
          refine wp_region_lex (C := IsOver w1) 14 [] (by kernel_rfl) (by kernel_rfl) (isOver_of (by repeat (first | exact Below.refl _ _ | apply Below.drew | apply below_drewN | (refine Below.alloc ?_ (by simp) _)))) ?_
          simp only [List.take_succ_cons, List.take_zero, List.drop_succ_cons, List.drop_zero]
          repeat (first | (refine lex_skip rfl rfl ?_; simp only [Act.put, List.setIfInBounds_toArray, List.set_cons_succ, List.set_cons_zero]) | (refine lex_one rfl ?_; go_big_quiet_step (fail); refine wpQuiet_nil ?_))
          refine lex_end ?_
          go_wp2_with fail
          refine (line_any s _ HZ.out).mono ?_
          rintro e w2 ⟨rfl, hb2⟩
          have hb12 : Below w1.heap.size w1 w2 := (below_over (w := w1.drew.drew) (Below.refl _ _).drew.drew (Nat.le_refl _) hb2)
          have HB2 := Lib.hid (below_over HB0.out HB0.out.size hb12)
          have HA2 := Lib.hid (HA1.out.over hb12)
          have HM2 := Lib.hid (HM1.out.over hb12)
          have HE2 := Lib.hid (HA0.out.over hb12)
          have ck2 := HA2.out.cell (flat_cell2 HX.out)
          have hgl2 := HA2.out.lt
          clear ck
          go_wp2_with fail
          go_ret
          exact fileRes_bad HR.out rfl (by decide) hB HB2.out
        · have HR : Hid (fileK4 (hs.map (·.1)) k f.lines (m : Int) s = (setL (hs.map (·.1)) k (f.lines.take m ++ s :: f.lines.drop m), 0)) := by show _ = _; unfold fileK4; rw [if_neg (by omega), if_neg (by simp [hok]), if_neg h60]; simp
          go_enter Tryz.func50, Tryz.ntmps50
          go_wp2_with fail
          have HCk := Lib.hid ((HB0.out.cell (p := ⟨g, k * 3 + 2, none⟩) hgl).trans HC2.out)
          have HA1 := Lib.hid (HA.out.over HB0.out)
          have HM1 := Lib.hid (HM.out.over HB0.out)
          generalize w.alloc (.cells #[.int .u8 4, .string n, .int .i64 (m : Int), .string s] 37) = w1 at *
          have c0 := HA0.out.arr.cell (j := 0) rfl
          have c2 := HA0.out.arr.cell (j := 2) rfl
          have c3 := HA0.out.arr.cell (j := 3) rfl
          have ck := HCk.out
          have hgl1 : g < w1.heap.size := by omega
          refine wp_region_lex (C := IsOver w1) 19 [] (by kernel_rfl) (by kernel_rfl) (isOver_of (by repeat (first | exact Below.refl _ _ | apply Below.drew | apply below_drewN | (refine Below.alloc ?_ (by simp) _)))) ?_
          simp only [List.take_succ_cons, List.take_zero, List.drop_succ_cons, List.drop_zero]
          repeat (first | (refine lex_skip rfl rfl ?_; simp only [Act.put, List.setIfInBounds_toArray, List.set_cons_succ, List.set_cons_zero]) | (refine lex_one rfl ?_; go_big_quiet_step (fail); refine wpQuiet_nil ?_))
          refine lex_end ?_
          go_wp2_with fail
          refine wp_region_lex (C := IsOver w1) 14 [] (by kernel_rfl) (by kernel_rfl) (isOver_of (by repeat (first | exact Below.refl _ _ | apply Below.drew | apply below_drewN | (refine Below.alloc ?_ (by simp) _)))) ?_
          simp only [List.take_succ_cons, List.take_zero, List.drop_succ_cons, List.drop_zero]
          repeat (first | (refine lex_skip rfl rfl ?_; simp only [Act.put, List.setIfInBounds_toArray, List.set_cons_succ, List.set_cons_zero]) | (refine lex_one rfl ?_; go_big_quiet_step (fail); refine wpQuiet_nil ?_))
          refine lex_end ?_
          go_wp2_with fail
          refine (line_any s _ HZ.out).mono ?_
          rintro e w2 ⟨rfl, hb2⟩
          have hb12 : Below w1.heap.size w1 w2 := (below_over (w := w1.drew.drew) (Below.refl _ _).drew.drew (Nat.le_refl _) hb2)
          have HB2 := Lib.hid (below_over HB0.out HB0.out.size hb12)
          have HA2 := Lib.hid (HA1.out.over hb12)
          have HM2 := Lib.hid (HM1.out.over hb12)
          have HE2 := Lib.hid (HA0.out.over hb12)
          have ck2 := HA2.out.cell (flat_cell2 HX.out)
          have hgl2 := HA2.out.lt
          have e2 := HE2.out.arr.cell (j := 2) rfl
          have e3 := HE2.out.arr.cell (j := 3) rfl
          have sE2 := HE2.out.arr.lt
          have hng := HNg.out
          have hnb := HNb.out
          have HO2 : Hid (w2.ownsRow B 9 1 (.slice xa f.lines.length xc) f.lines.length (f.lines.map Value.string)) := own_over (own_over HLn.out HB0.out) hb12
          have HO3 : Hid ((w2.alloc (.cells #[.string s] 9)).drew.ownsRow B 9 1 (.slice xa f.lines.length xc) f.lines.length (f.lines.map Value.string)) := HO2.out.alloc _
          have HX3 : Hid (ArrT (w2.alloc (.cells #[.string s] 9)).drew w2.heap.size 9 [.string s]) := arrT_new w2 [.string s] 9
          have HNv : Hid (some w2.heap.size ≠ (Value.slice xa f.lines.length xc).ownBlock) := fun he => by
            have := (HO2.out.lt w2.heap.size he.symm).2
            exact absurd this (Nat.lt_irrefl _)
          have hB2 : B ≤ (w2.alloc (.cells #[.string s] 9)).drew.heap.size := by have := HB2.out.size; simp; omega
          have hone1 : ∀ u ∈ [Value.string s], u.oneCell' = true := string_one [s]
          have hln1 : [Value.string s].length = 1 := rfl
          have hmx : f.lines.length ≤ 1000000 := by omega
          clear c0 c2 c3 ck
          go_wp2_with fail
          have hcur : World.grownBy w2 w2.drew (Value.slice xa f.lines.length xc).ownBlock := ⟨rfl, rfl, rfl, Nat.le_refl _, fun _ _ _ => rfl⟩
          refine wp_region_lex (C := IsKept w2 (Value.slice xa f.lines.length xc).ownBlock) 11 [] (by kernel_rfl) (by kernel_rfl) (isKept_of hcur) ?_
          simp only [List.take_succ_cons, List.take_zero, List.drop_succ_cons, List.drop_zero]
          repeat (first | (refine lex_skip rfl rfl ?_; simp only [Act.put, List.setIfInBounds_toArray, List.set_cons_succ, List.set_cons_zero]) | (refine lex_one rfl ?_; go_big_quiet_step (fail); refine wpQuiet_nil ?_) | (refine lex_loud rfl ?_; go_wp2_with (first | (go_at_call 69; (with_reducible refine (insert_str _ f.lines.length m _ [.string s] w2.heap.size 9 _ B HO3.out hml HX3.out HNv.out hln1 (string_one _) hone1 hmx hB2).mono ?_); rintro e w' ⟨v', rfl, hO, hg, hvb⟩; obtain ⟨vb0, vl0, vc0, rfl⟩ := own_slice hO; have HO' := Lib.hid hO; have HVb := Lib.hid hvb; replace hcur := grown_trans (only_alloc hcur _) hg; clear hO hvb hg)); refine ⟨isKept_of (by first | exact hcur | exact only_alloc hcur _ | exact grown_trans hcur (grown_setCell _ _ _) | exact grown_trans (grown_trans hcur (grown_setCell _ _ _)) (grown_setCell _ _ _)), ?_⟩))
          refine lex_end ?_
          have HA' := Lib.hid (HA2.out.grown hcur hng)
          have ck' := HA'.out.cell (flat_cell2 HX.out)
          have cf' := HA'.out.free (k * 3 + 2)
          have hgl' := HA'.out.lt
          clear hng hnb ck2 e2 e3
          go_wp2_with fail
          go_ret
          have hv' : SOwn w' B (.slice vb0 vl0 vc0) (f.lines.take m ++ s :: f.lines.drop m) := by
            unfold SOwn
            rw [show (f.lines.take m ++ s :: f.lines.drop m).length = f.lines.length + 1 by simp; omega, ← map_ins]; exact HO'.out
          obtain ⟨hM3, hmap⟩ := HM2.out.setLines HX.out hcur hv' (HVb.out.imp id fun ⟨b, h1, h2⟩ => ⟨b, h1, by simp at h2; omega⟩)
          exact fileRes_ok HR.out hM3 hmap ((HB2.out.mono hB).trans (HM2.out.below HX.out (by have := HB2.out.size; omega) hcur)) ((ed_over HB2.out).trans (HM2.out.ed HX.out hcur))
    · have HR : Hid (fileK4 (hs.map (·.1)) k f.lines (m : Int) s = ([], 1)) := by show _ = _; unfold fileK4; rw [if_pos (.inr (by omega))]
      have hdm : decide ((f.lines.length : Int) < (m : Int)) = true := by simp; omega
      clear h0
      go_enter Tryz.func50, Tryz.ntmps50
      go_wp2_with fail
      have HCk := Lib.hid ((HB0.out.cell (p := ⟨g, k * 3 + 2, none⟩) hgl).trans HC2.out)
      have HA1 := Lib.hid (HA.out.over HB0.out)
      have HM1 := Lib.hid (HM.out.over HB0.out)
      generalize w.alloc (.cells #[.int .u8 4, .string n, .int .i64 (m : Int), .string s] 37) = w1 at *
      have c0 := HA0.out.arr.cell (j := 0) rfl
      have c2 := HA0.out.arr.cell (j := 2) rfl
      have c3 := HA0.out.arr.cell (j := 3) rfl
      have ck := HCk.out
      have hgl1 : g < w1.heap.size := by omega
      refine wp_region_lex (C := IsOver w1) 19 [] (by kernel_rfl) (by kernel_rfl) (isOver_of (by repeat (first | exact Below.refl _ _ | apply Below.drew | apply below_drewN | (refine Below.alloc ?_ (by simp) _)))) ?_
      simp only [List.take_succ_cons, List.take_zero, List.drop_succ_cons, List.drop_zero]
      repeat (first | (refine lex_skip rfl rfl ?_; simp only [Act.put, List.setIfInBounds_toArray, List.set_cons_succ, List.set_cons_zero]) | (refine lex_one rfl ?_; go_big_quiet_step (fail); refine wpQuiet_nil ?_))
      refine lex_end ?_
      go_wp2_with fail
      refine wp_region_lex (C := IsOver w1) 14 [] (by kernel_rfl) (by kernel_rfl) (isOver_of (by repeat (first | exact Below.refl _ _ | apply Below.drew | apply below_drewN | (refine Below.alloc ?_ (by simp) _)))) ?_
      simp only [List.take_succ_cons, List.take_zero, List.drop_succ_cons, List.drop_zero]
      repeat (first | (refine lex_skip rfl rfl ?_; simp only [Act.put, List.setIfInBounds_toArray, List.set_cons_succ, List.set_cons_zero]) | (refine lex_one rfl ?_; go_big_quiet_step (fail); refine wpQuiet_nil ?_))
      refine lex_end ?_
      go_wp2_with fail
      go_ret
      exact fileRes_bad HR.out rfl (by decide) hB HB0.out.drew.drew
end Go.Proofs.YtjbihmglpfdmnaaGreatDoor
namespace Go.Proofs.YtjbihmglpfdmnaaGreatDoor
open Go Go.RowKit

def MTRes (w : World) (B : Nat) (r : List FileM × Nat) (e : Ending) (w' : World) : Prop :=
  ∃ v', e = .returned (.tuple #[v', .int .i64 (r.2 : Int)]) ∧ (r.2 = 0 → ∃ hs', MOwn w' B v' hs' ∧ hs'.map (·.1) = r.1) ∧ Below B w w'
theorem mt_bad {w w' : World} {B n : Nat} {r : List FileM × Nat} {z : Int} (h : r = ([], n)) (hz : z = (n : Int)) (hn : n ≠ 0) (hB : B ≤ w.heap.size) (hb : Below w.heap.size w w') : MTRes w B r (.returned (.tuple #[.slice none 0 0, .int .i64 z])) w' := by
  subst h; subst hz
  exact ⟨_, rfl, fun h => absurd h hn, hb.mono hB⟩
theorem mt_ok {w w' : World} {B : Nat} {v : Value} {r : List FileM × Nat} {t : List FileM} {hs' : List FileH} (h : r = (t, 0)) (hm : MOwn w' B v hs') (ht : hs'.map (·.1) = t) (hb : Below B w w') : MTRes w B r (.returned (.tuple #[v, .int .i64 0])) w' := by
  subst h
  exact ⟨_, rfl, fun _ => ⟨hs', hm, ht⟩, hb⟩
theorem own_ne_type {w : World} {B B' : Nat} {e e' : TypeId} {sz sz' n n' : Nat} {v u : Value} {xs ys : List Value} (h : w.ownsRow B e sz v n xs) (h' : w.ownsRow B' e' sz' u n' ys) (hn : e' ≠ e) : u.ownBlock = none ∨ u.ownBlock ≠ v.ownBlock := by
  rcases h.2 with ⟨rfl, _⟩ | ⟨g, cap, cur, rfl, _, hg, _⟩
  · cases hu : u.ownBlock with
    | none => exact .inl rfl
    | some c => right; simp [Value.ownBlock]
  · right
    have : ArrT w g e cur.toList := by unfold ArrT; simpa using hg
    exact fun he => this.ne h' hn (by rw [he]; rfl)
/-- a new file without lines among the others -/
theorem MOwn.ins {w w' : World} {B k : Nat} {v v' : Value} {hs : List FileH} {n : ByteArray} (h : MOwn w B v hs) (hk : k ≤ hs.length) (hg : w.grownBy w' v.ownBlock)
    (ho : w'.ownsRow B 40 3 v' (hs.length + 1) ((hs.flatMap encF).take (k * 3) ++ [.string n, .slice none 0 0, .slice none 0 0] ++ (hs.flatMap encF).drop (k * 3))) :
    MOwn w' B v' (hs.take k ++ (⟨n, [], []⟩, .slice none 0 0, .slice none 0 0) :: hs.drop k) := by
  have mem : ∀ x ∈ hs.take k ++ (⟨n, [], []⟩, .slice none 0 0, .slice none 0 0) :: hs.drop k, x ∈ hs ∨ x = ((⟨n, [], []⟩, .slice none 0 0, .slice none 0 0) : FileH) := fun x hx => by
    rcases List.mem_append.1 hx with hx | hx
    · exact .inl (List.mem_of_mem_take hx)
    · rcases List.mem_cons.1 hx with hx | hx
      · exact .inr hx
      · exact .inl (List.mem_of_mem_drop hx)
  have hlt : (hs.take k).length = k := by rw [List.length_take]; omega
  have get : ∀ (i : Nat) y, (hs.take k ++ ((⟨n, [], []⟩, .slice none 0 0, .slice none 0 0) : FileH) :: hs.drop k)[i]? = some y → (i = k ∧ y = (⟨n, [], []⟩, .slice none 0 0, .slice none 0 0)) ∨ (i ≠ k ∧ hs[if i < k then i else i - 1]? = some y) := fun i y hy => by
    by_cases hi : i < k
    · right
      rw [List.getElem?_append_left (by omega), List.getElem?_take, if_pos hi] at hy
      rw [if_pos hi]; exact ⟨by omega, hy⟩
    · rw [List.getElem?_append_right (by omega), hlt] at hy
      by_cases hik : i = k
      · subst hik
        rw [Nat.sub_self] at hy
        left
        simp at hy
        exact ⟨rfl, hy.symm⟩
      · right
        obtain ⟨q, rfl⟩ : ∃ q, i = k + 1 + q := ⟨i - k - 1, by omega⟩
        rw [show k + 1 + q - k = q + 1 by omega, List.getElem?_cons_succ, List.getElem?_drop] at hy
        rw [if_neg hi, show k + 1 + q - 1 = k + q by omega]
        exact ⟨hik, hy⟩
  refine ⟨?_, fun x hx => ?_, fun x hx => ?_, fun i j x y hij hx hy => ?_⟩
  · unfold TOwn
    rw [List.flatMap_append, List.flatMap_cons, ← flat_take encF_len, ← flat_drop encF_len, ← List.append_assoc]
    rw [show (hs.take k ++ (⟨n, [], []⟩, .slice none 0 0, .slice none 0 0) :: hs.drop k).length = hs.length + 1 by simp; omega]
    exact ho
  · rcases mem x hx with hx | rfl
    · exact h.also x hx
    · exact ⟨rfl, none, 0, rfl, Nat.zero_le _, fun _ => rfl⟩
  · rcases mem x hx with hx | rfl
    · exact own_grown (h.lines x hx) hg (own_ne_type h.own (h.lines x hx) (by decide))
    · exact World.ownsRow_nil _ _ _ _
  · rcases get i x hx with ⟨rfl, rfl⟩ | ⟨h1, h2⟩
    · exact .inl rfl
    · rcases get j y hy with ⟨rfl, rfl⟩ | ⟨h3, h4⟩
      · cases hxb : x.2.2.ownBlock with
        | none => exact .inl rfl
        | some c => right; simp [Value.ownBlock]
      · refine h.apart _ _ x y ?_ h2 h4
        split <;> split <;> omega
theorem newfile_one (n : ByteArray) : ∀ u ∈ [Value.string n, .slice none 0 0, .slice none 0 0], u.oneCell' = true := by
  intro u hu
  simp only [List.mem_cons, List.not_mem_nil, or_false] at hu
  rcases hu with rfl | rfl | rfl <;> rfl
theorem oneK2_form {t : List FileM} {n : ByteArray} (h : nameOk n = false) : oneK2 t n = ([], 4) := by unfold oneK2; rw [if_pos h]
theorem oneK2_there {t : List FileM} {n : ByteArray} (h : nameOk n = true) (h' : 0 ≤ findT t n) : oneK2 t n = ([], 7) := by unfold oneK2; rw [if_neg (by simp [h]), if_pos h']
theorem oneK2_full {t : List FileM} {n : ByteArray} (h : nameOk n = true) (h' : ¬ 0 ≤ findT t n) (h'' : 16 ≤ t.length) : oneK2 t n = ([], 11) := by unfold oneK2; rw [if_neg (by simp [h]), if_neg h', if_pos h'']
theorem oneK2_ok {t : List FileM} {n : ByteArray} (h : nameOk n = true) (h' : ¬ 0 ≤ findT t n) (h'' : ¬ 16 ≤ t.length) : oneK2 t n = (insT t n, 0) := by unfold oneK2; rw [if_neg (by simp [h]), if_neg h', if_neg h'']

set_option maxHeartbeats 10000000 in
set_option maxRecDepth 100000 in
theorem made_any (v : Value) (hs : List FileH) (n : ByteArray) (a : Int) (s : ByteArray) (w : World) (B : Nat) (hM : MOwn w B v hs) (hI : TInv (hs.map (·.1))) (hB : B ≤ w.heap.size) (hz : n.size ≤ maxLen) :
    Calls Tryz.prog 48 #[v, .agg #[.int .u8 2, .string n, .int .i64 a, .string s]] w (MTRes w B (oneK2 (hs.map (·.1)) n)) := by
  have HM := Lib.hid hM
  have HZ := Lib.hid hz
  have HS := Lib.hid (List.pairwise_map.1 hI.sorted)
  have hlen : hs.length ≤ 16 := by have := hI.len; simpa using this
  have hlen1 : (hs.map (·.1)).length ≤ 1000 := by simp; omega
  obtain ⟨aa, cap, rfl, h1, h2, _, _⟩ := hM.frow.form
  rw [List.length_map] at h1
  simp only [List.length_map] at *
  unfold maxLen at h2
  have HA0 := Lib.hid (arrT_new w [.int .u8 2, .string n, .int .i64 a, .string s] 37)
  have HB0 := Lib.hid (below_box (w := w) (.cells #[.int .u8 2, .string n, .int .i64 a, .string s] 37))
  have hsz : w.heap.size < (w.alloc (.cells #[.int .u8 2, .string n, .int .i64 a, .string s] 37)).heap.size := by simp
  have HOne : Hid (∀ u ∈ hs.flatMap encF, u.oneCell' = true) := encF_one hM.held
  have hone1 : ∀ u ∈ [Value.string n, .slice none 0 0, .slice none 0 0], u.oneCell' = true := newfile_one n
  have hln1 : [Value.string n, .slice none 0 0, .slice none 0 0].length = 3 := rfl
  have hl16 : hs.length ≤ 1000000 := by omega
  clear hM hI hz
  go_enter Tryz.func48, Tryz.ntmps48
  go_wp2_with fail
  refine (bsearch_any _ (hs.map (·.1)) n _ (HM.out.frow.over HB0.out) HS.out (by rw [List.length_map]; omega)).mono ?_
  rintro e w2 ⟨k, rfl, hk, hins, hb2⟩
  have HB2 := Lib.hid (below_over HB0.out HB0.out.size hb2)
  have HE2 := Lib.hid (HA0.out.over hb2)
  have HIns := Lib.hid hins
  have HM2 := Lib.hid ((HM.out.over HB0.out).over hb2)
  rw [List.length_map] at hk
  have c1 := HE2.out.arr.cell (j := 1) rfl
  have sE := HE2.out.arr.lt
  clear hins
  cases hok : nameOk n with
  | false =>
    have HR := Lib.hid (oneK2_form (t := hs.map (·.1)) hok)
    go_wp2_with fail
    refine (name_any n _ HZ.out).mono ?_
    rintro e w3 ⟨rfl, hb3⟩
    go_wp2_with fail
    go_ret2
    exact mt_bad HR.out rfl (by decide) hB (below_over HB2.out HB2.out.size hb3)
  | true =>
    by_cases hfd : 0 ≤ findT (hs.map (·.1)) n
    · have HR := Lib.hid (oneK2_there hok hfd)
      have hd : decide (0 ≤ findT (hs.map (·.1)) n) = true := by simpa using hfd
      clear hfd
      go_wp2_with fail
      refine (name_any n _ HZ.out).mono ?_
      rintro e w3 ⟨rfl, hb3⟩
      go_wp2_with fail
      go_ret2
      exact mt_bad HR.out rfl (by decide) hB (below_over HB2.out HB2.out.size hb3)
    · have hd : decide (0 ≤ findT (hs.map (·.1)) n) = false := by simpa using hfd
      by_cases h16 : 16 ≤ hs.length
      · have HR := Lib.hid (oneK2_full hok hfd (by simpa using h16))
        clear hfd
        go_wp2_with fail
        refine (name_any n _ HZ.out).mono ?_
        rintro e w3 ⟨rfl, hb3⟩
        go_wp2_with fail
        go_ret2
        exact mt_bad HR.out rfl (by decide) hB (below_over HB2.out HB2.out.size hb3)
      · have HR := Lib.hid (oneK2_ok hok hfd (by simpa using h16))
        clear hfd
        go_wp2_with fail
        refine (name_any n _ HZ.out).mono ?_
        rintro e w3 ⟨rfl, hb3⟩
        have HB3 := Lib.hid (below_over HB2.out HB2.out.size hb3)
        have HE3 := Lib.hid (HE2.out.over hb3)
        have HM3 := Lib.hid (HM2.out.over hb3)
        have d1 := HE3.out.arr.cell (j := 1) rfl
        have sE3 := HE3.out.arr.lt
        have HO3 := Lib.hid (HM3.out.own.alloc (.cells #[.string n, .slice none 0 0, .slice none 0 0] 40))
        have HX3 := Lib.hid (arrT_new w3 [.string n, .slice none 0 0, .slice none 0 0] 40)
        have HNv : Hid (some w3.heap.size ≠ (Value.slice aa hs.length cap).ownBlock) := fun he => by
          have := (HM3.out.own.lt w3.heap.size he.symm).2
          exact absurd this (Nat.lt_irrefl _)
        have hB3 : B ≤ (w3.alloc (.cells #[.string n, .slice none 0 0, .slice none 0 0] 40)).heap.size := by have := HB3.out.size; simp; omega
        clear c1 hb3
        go_wp2_with fail
        refine (insert_file _ hs.length k _ [.string n, .slice none 0 0, .slice none 0 0] w3.heap.size 40 _ B HO3.out hk HX3.out HNv.out hln1 HOne.out hone1 hl16 hB3).mono ?_
        rintro e w4 ⟨v4, rfl, hO4, hg4, _⟩
        have hg := grown_alloc hg4
        have hM4 := HM3.out.ins hk hg hO4
        have hb4 : Below B w3 w4 := (Below.refl B w3).grown hg (by have := HB3.out.size; omega) fun j hj => (HM3.out.own.lt j hj).1
        have HM4 := Lib.hid hM4
        have HB4 := Lib.hid ((HB3.out.mono hB).trans hb4)
        clear hO4 hg4 hg hM4 hb4
        go_wp2_with fail
        go_ret2
        refine mt_ok HR.out HM4.out ?_ HB4.out
        rw [HIns.out]; simp [List.map_take, List.map_drop]
end Go.Proofs.YtjbihmglpfdmnaaGreatDoor
namespace Go.Proofs.YtjbihmglpfdmnaaGreatDoor
open Go Go.RowKit

/-- one file less -/
theorem MOwn.del {w w' : World} {B k : Nat} {v v' : Value} {hs : List FileH} (h : MOwn w B v hs) (hk : k < hs.length) (hg : w.grownBy w' v.ownBlock)
    (ho : w'.ownsRow B 40 3 v' (hs.length - 1) ((hs.flatMap encF).take (k * 3) ++ (hs.flatMap encF).drop ((k + 1) * 3))) : MOwn w' B v' (hs.take k ++ hs.drop (k + 1)) := by
  have mem : ∀ x ∈ hs.take k ++ hs.drop (k + 1), x ∈ hs := fun x hx => (List.mem_append.1 hx).elim List.mem_of_mem_take List.mem_of_mem_drop
  have get : ∀ (i : Nat) y, (hs.take k ++ hs.drop (k + 1))[i]? = some y → hs[if i < k then i else i + 1]? = some y := fun i y hy => by
    have hlt : (hs.take k).length = k := by rw [List.length_take]; omega
    by_cases hi : i < k
    · rw [List.getElem?_append_left (by omega), List.getElem?_take, if_pos hi] at hy
      rw [if_pos hi]; exact hy
    · rw [List.getElem?_append_right (by omega), hlt, List.getElem?_drop, show k + 1 + (i - k) = i + 1 by omega] at hy
      rw [if_neg hi]; exact hy
  refine ⟨?_, fun x hx => h.also x (mem x hx), fun x hx => own_grown (h.lines x (mem x hx)) hg (own_ne_type h.own (h.lines x (mem x hx)) (by decide)), fun i j x y hij hx hy => h.apart _ _ x y ?_ (get i x hx) (get j y hy)⟩
  · unfold TOwn
    rw [List.flatMap_append, ← flat_take encF_len, ← flat_drop encF_len]
    rw [show (hs.take k ++ hs.drop (k + 1)).length = hs.length - 1 by simp; omega]
    exact ho
  · split <;> split <;> omega

set_option maxHeartbeats 10000000 in
set_option maxRecDepth 100000 in
theorem one_drop (v : Value) (hs : List FileH) (n : ByteArray) (a : Int) (s : ByteArray) (w : World) (B : Nat) (hM : MOwn w B v hs) (hI : TInv (hs.map (·.1))) (hB : B ≤ w.heap.size) :
    Calls Tryz.prog 28 #[v, .agg #[.int .u8 1, .string n, .int .i64 a, .string s]] w (MTRes w B (oneK1 (hs.map (·.1)) n)) := by
  have HM := Lib.hid hM
  have hlen : hs.length ≤ 16 := by have := hI.len; simpa using this
  have HA0 := Lib.hid (arrT_new w [.int .u8 1, .string n, .int .i64 a, .string s] 37)
  have HB0 := Lib.hid (below_box (w := w) (.cells #[.int .u8 1, .string n, .int .i64 a, .string s] 37))
  have HF := Lib.hid (findT_ge (hs.map (·.1)) n)
  have HOne : Hid (∀ u ∈ hs.flatMap encF, u.oneCell' = true) := encF_one hM.held
  clear hM hI
  rcases HF.out with hn | ⟨k, f, hq, hf, hfn⟩
  · have HR : Hid (oneK1 (hs.map (·.1)) n = ([], 6)) := by show _ = _; unfold oneK1; rw [if_pos (by omega)]
    have hd : decide (findT (hs.map (·.1)) n < 0) = true := by rw [hn]; rfl
    clear hn
    go_enter Tryz.func28, Tryz.ntmps28
    go_wp2_with fail
    refine (find_any _ (hs.map (·.1)) n _ (HM.out.frow.over HB0.out)).mono ?_
    rintro e w1 ⟨rfl, hb1⟩
    have hA := HA0.out.over hb1
    have c0 := hA.arr.cell (j := 0) rfl
    have sA := hA.arr.lt
    have HBw := Lib.hid (below_over HB0.out HB0.out.size hb1)
    clear hA
    go_wp2_with fail
    go_ret2
    exact mt_bad HR.out rfl (by decide) hB HBw.out
  · have hk : k < hs.length := by have := (List.getElem?_eq_some_iff.1 hf).1; simpa using this
    have HR : Hid (oneK1 (hs.map (·.1)) n = ((hs.map (·.1)).take k ++ (hs.map (·.1)).drop (k + 1), 0)) := by show _ = _; unfold oneK1; rw [if_neg (by omega), hq, Int.toNat_natCast]
    have HQ := Lib.hid hq
    have hd : decide ((k : Int) < 0) = false := by simp
    obtain ⟨m, hm⟩ : ∃ m, hs.length = k + 1 + m := ⟨hs.length - (k + 1), by omega⟩
    have HOw : Hid (w.ownsRow B 40 3 v (k + 1 + m) (hs.flatMap encF)) := by
      show World.ownsRow _ _ _ _ _ _ _
      rw [← hm]; exact HM.out.own
    have HMm := Lib.hid hm
    have hmq : k + 1 + m ≤ 1000000 := by omega
    have hk40 : k ≤ 16 := by omega
    clear hq hf hfn hm
    go_enter Tryz.func28, Tryz.ntmps28
    go_wp2_with fail
    refine (find_any _ (hs.map (·.1)) n _ (HM.out.frow.over HB0.out)).mono ?_
    rintro e w1 ⟨rfl, hb1⟩
    rw [HQ.out]
    have hA := HA0.out.over hb1
    have c0 := hA.arr.cell (j := 0) rfl
    have sA := hA.arr.lt
    have HBw := Lib.hid (below_over HB0.out HB0.out.size hb1)
    have HM1 := Lib.hid (HM.out.over HBw.out)
    have HO1 := Lib.hid (own_over HOw.out HBw.out)
    clear hA hb1
    go_wp2_with fail
    refine (delete_file _ k m _ _ B HO1.out HOne.out hmq).mono ?_
    rintro e w2 ⟨v2, rfl, hO2, hg2, _⟩
    have hM2 := HM1.out.del hk hg2 (by rw [HMm.out, show k + 1 + m - 1 = k + m by omega]; exact hO2)
    have hb2 : Below B w1 w2 := (Below.refl B w1).grown hg2 (by have := HBw.out.size; omega) fun j hj => (HM1.out.own.lt j hj).1
    have HM2 := Lib.hid hM2
    have HB2 := Lib.hid ((HBw.out.mono hB).trans hb2)
    clear hO2 hg2 hM2 hb2
    go_wp2_with fail
    go_ret2
    refine mt_ok HR.out HM2.out ?_ HB2.out
    simp [List.map_take, List.map_drop]

set_option maxHeartbeats 10000000 in
set_option maxRecDepth 100000 in
theorem one_make (v : Value) (hs : List FileH) (n : ByteArray) (a : Int) (s : ByteArray) (w : World) (B : Nat) (hM : MOwn w B v hs) (hI : TInv (hs.map (·.1))) (hB : B ≤ w.heap.size) (hz : n.size ≤ maxLen) :
    Calls Tryz.prog 28 #[v, .agg #[.int .u8 2, .string n, .int .i64 a, .string s]] w (MTRes w B (oneK2 (hs.map (·.1)) n)) := by
  have HM := Lib.hid hM
  have HI := Lib.hid hI
  have HZ := Lib.hid hz
  have HA0 := Lib.hid (arrT_new w [.int .u8 2, .string n, .int .i64 a, .string s] 37)
  have HB0 := Lib.hid (below_box (w := w) (.cells #[.int .u8 2, .string n, .int .i64 a, .string s] 37))
  clear hM hI hz
  go_enter Tryz.func28, Tryz.ntmps28
  go_wp2_with fail
  refine (find_any _ (hs.map (·.1)) n _ (HM.out.frow.over HB0.out)).mono ?_
  rintro e w1 ⟨rfl, hb1⟩
  have hA := HA0.out.over hb1
  have c0 := hA.arr.cell (j := 0) rfl
  have c1 := hA.arr.cell (j := 1) rfl
  have c2 := hA.arr.cell (j := 2) rfl
  have c3 := hA.arr.cell (j := 3) rfl
  have sA := hA.arr.lt
  have HBw := Lib.hid (below_over HB0.out HB0.out.size hb1)
  have HM1 := Lib.hid (HM.out.over HBw.out)
  clear hA hb1
  go_wp2_with fail
  refine (made_any _ hs n a s _ B HM1.out HI.out (by have := HBw.out.size; omega) HZ.out).mono ?_
  rintro e w2 ⟨v2, rfl, h2, hb2⟩
  have H2 := Lib.hid h2
  clear h2
  go_wp2_with fail
  go_ret2
  exact ⟨_, rfl, H2.out, (HBw.out.mono hB).trans hb2⟩
end Go.Proofs.YtjbihmglpfdmnaaGreatDoor
namespace Go.Proofs.YtjbihmglpfdmnaaGreatDoor
open Go Go.RowKit

theorem oneK3_file {t : List FileM} {n s : ByteArray} {kd k : Nat} {a : Int} {f : FileM} (h : findT t n = (k : Int)) (hf : t[k]? = some f) : oneK3 t ⟨kd, n, a, s⟩ = fileK3 t k f.lines a := by
  unfold oneK3 fileK3; simp only; rw [if_neg (by omega), wasL_some h hf, h, Int.toNat_natCast]
theorem oneK4_file {t : List FileM} {n s : ByteArray} {kd k : Nat} {a : Int} {f : FileM} (h : findT t n = (k : Int)) (hf : t[k]? = some f) : oneK4 t ⟨kd, n, a, s⟩ = fileK4 t k f.lines a s := by
  unfold oneK4 fileK4; simp only; rw [if_neg (by omega), wasL_some h hf, h, Int.toNat_natCast]

set_option maxHeartbeats 10000000 in
set_option maxRecDepth 100000 in
theorem one_cut (v : Value) (hs : List FileH) (n : ByteArray) (a : Int) (s : ByteArray) (w : World) (B : Nat) (hM : MOwn w B v hs) (hI : TInv (hs.map (·.1))) (hB : B ≤ w.heap.size) :
    Calls Tryz.prog 28 #[v, .agg #[.int .u8 3, .string n, .int .i64 a, .string s]] w (MTRes w B (oneK3 (hs.map (·.1)) ⟨3, n, a, s⟩)) := by
  have HM := Lib.hid hM
  have HI := Lib.hid hI
  have hlen : hs.length ≤ 16 := by have := hI.len; simpa using this
  have HA0 := Lib.hid (arrT_new w [.int .u8 3, .string n, .int .i64 a, .string s] 37)
  have HB0 := Lib.hid (below_box (w := w) (.cells #[.int .u8 3, .string n, .int .i64 a, .string s] 37))
  have HF := Lib.hid (findT_ge (hs.map (·.1)) n)
  clear hM hI
  rcases HF.out with hn | ⟨k, f, hq, hf, hfn⟩
  · have HR : Hid (oneK3 (hs.map (·.1)) ⟨3, n, a, s⟩ = ([], 6)) := oneK3_none (by show findT (hs.map (·.1)) n < 0; omega)
    have hd : decide (findT (hs.map (·.1)) n < 0) = true := by rw [hn]; rfl
    clear hn
    go_enter Tryz.func28, Tryz.ntmps28
    go_wp2_with fail
    refine (find_any _ (hs.map (·.1)) n _ (HM.out.frow.over HB0.out)).mono ?_
    rintro e w1 ⟨rfl, hb1⟩
    have hA := HA0.out.over hb1
    have c0 := hA.arr.cell (j := 0) rfl
    have sA := hA.arr.lt
    have HBw := Lib.hid (below_over HB0.out HB0.out.size hb1)
    clear hA
    go_wp2_with fail
    go_ret2
    exact mt_bad HR.out rfl (by decide) hB HBw.out
  · have hk : k < hs.length := by have := (List.getElem?_eq_some_iff.1 hf).1; simpa using this
    obtain ⟨x, hx⟩ := get_of_lt hk
    have hxf : x.1 = f := by rw [List.getElem?_map, hx] at hf; simpa using hf
    have HR : Hid (oneK3 (hs.map (·.1)) ⟨3, n, a, s⟩ = fileK3 (hs.map (·.1)) k x.1.lines a) := by show _ = _; rw [oneK3_file hq hf, hxf]
    have hlx : x.1.lines.length ≤ 1000 := by have := HI.out.lines x.1 (List.mem_map.2 ⟨x, List.mem_of_getElem? hx, rfl⟩); omega
    obtain ⟨g, cap, rfl, hA0⟩ := HM.out.at' (by omega)
    have hcap := hA0.nc
    have hcm := hA0.cm
    unfold maxLen at hcm
    have HQ := Lib.hid hq
    have HX := Lib.hid hx
    have hd : decide ((k : Int) < 0) = false := by simp
    clear hq hf hfn hx hxf hA0
    go_enter Tryz.func28, Tryz.ntmps28
    go_wp2_with fail
    refine (find_any _ (hs.map (·.1)) n _ (HM.out.frow.over HB0.out)).mono ?_
    rintro e w1 ⟨rfl, hb1⟩
    rw [HQ.out]
    have hA := HA0.out.over hb1
    have HA1 := Lib.hid hA
    have c0 := hA.arr.cell (j := 0) rfl
    have c1 := hA.arr.cell (j := 1) rfl
    have c2 := hA.arr.cell (j := 2) rfl
    have c3 := hA.arr.cell (j := 3) rfl
    have sA := hA.arr.lt
    have HBw := Lib.hid (below_over HB0.out HB0.out.size hb1)
    have HM1 : Hid (MOwn w1.drew B (.slice (some ⟨g, 0, none⟩) hs.length cap) hs) := HM.out.over HBw.out.drew
    have HAd : Hid (ArrT w1.drew w.heap.size 37 [.int .u8 3, .string n, .int .i64 a, .string s]) := hA
    have hB1 : B ≤ w1.drew.heap.size := by have := HBw.out.size; show B ≤ w1.heap.size; omega
    clear hA hb1
    go_wp2_with fail
    have hcur : w1.drew.heap[w.heap.size]? = w1.heap[w.heap.size]? := rfl
    refine wp_region_lex (C := IsSameAt w1 w.heap.size) 6 [] (by kernel_rfl) (by kernel_rfl) (isSameAt_of hcur) ?_
    simp only [List.take_succ_cons, List.take_zero, List.drop_succ_cons, List.drop_zero]
    repeat (first | (refine lex_skip rfl rfl ?_; simp only [Act.put, List.setIfInBounds_toArray, List.set_cons_succ, List.set_cons_zero]) | (refine lex_one rfl ?_; go_big_quiet_step (fail); refine wpQuiet_nil ?_) | (refine lex_loud rfl ?_; go_wp2_with (first | (go_at_call 50; (with_reducible refine (file_cut g cap hs k x n a s _ B HM1.out HX.out hB1 hlx).mono ?_); rintro e w' ⟨rfl, hok, hbb, hed⟩; have HOk := Lib.hid hok; have HBb := Lib.hid hbb; replace hcur := Eq.trans (hed _ _ HAd.out) (Eq.symm HA1.out); clear hok hbb hed)); refine ⟨isSameAt_of hcur, ?_⟩))
    refine lex_end ?_
    go_wp2_with fail
    go_ret2
    rw [HR.out]
    exact ⟨_, rfl, HOk.out, ((HBw.out.mono hB).drew).trans HBb.out⟩

set_option maxHeartbeats 10000000 in
set_option maxRecDepth 100000 in
theorem one_put (v : Value) (hs : List FileH) (n : ByteArray) (a : Int) (s : ByteArray) (w : World) (B : Nat) (hM : MOwn w B v hs) (hI : TInv (hs.map (·.1))) (hB : B ≤ w.heap.size) (hz : s.size ≤ maxLen) :
    Calls Tryz.prog 28 #[v, .agg #[.int .u8 4, .string n, .int .i64 a, .string s]] w (MTRes w B (oneK4 (hs.map (·.1)) ⟨4, n, a, s⟩)) := by
  have HM := Lib.hid hM
  have HI := Lib.hid hI
  have HZ := Lib.hid hz
  have hlen : hs.length ≤ 16 := by have := hI.len; simpa using this
  have HA0 := Lib.hid (arrT_new w [.int .u8 4, .string n, .int .i64 a, .string s] 37)
  have HB0 := Lib.hid (below_box (w := w) (.cells #[.int .u8 4, .string n, .int .i64 a, .string s] 37))
  have HF := Lib.hid (findT_ge (hs.map (·.1)) n)
  clear hM hI
  rcases HF.out with hn | ⟨k, f, hq, hf, hfn⟩
  · have HR : Hid (oneK4 (hs.map (·.1)) ⟨4, n, a, s⟩ = ([], 6)) := oneK4_none (by show findT (hs.map (·.1)) n < 0; omega)
    have hd : decide (findT (hs.map (·.1)) n < 0) = true := by rw [hn]; rfl
    clear hn
    go_enter Tryz.func28, Tryz.ntmps28
    go_wp2_with fail
    refine (find_any _ (hs.map (·.1)) n _ (HM.out.frow.over HB0.out)).mono ?_
    rintro e w1 ⟨rfl, hb1⟩
    have hA := HA0.out.over hb1
    have c0 := hA.arr.cell (j := 0) rfl
    have sA := hA.arr.lt
    have HBw := Lib.hid (below_over HB0.out HB0.out.size hb1)
    clear hA
    go_wp2_with fail
    go_ret2
    exact mt_bad HR.out rfl (by decide) hB HBw.out
  · have hk : k < hs.length := by have := (List.getElem?_eq_some_iff.1 hf).1; simpa using this
    obtain ⟨x, hx⟩ := get_of_lt hk
    have hxf : x.1 = f := by rw [List.getElem?_map, hx] at hf; simpa using hf
    have HR : Hid (oneK4 (hs.map (·.1)) ⟨4, n, a, s⟩ = fileK4 (hs.map (·.1)) k x.1.lines a s) := by show _ = _; rw [oneK4_file hq hf, hxf]
    have hlx : x.1.lines.length ≤ 1000 := by have := HI.out.lines x.1 (List.mem_map.2 ⟨x, List.mem_of_getElem? hx, rfl⟩); omega
    obtain ⟨g, cap, rfl, hA0⟩ := HM.out.at' (by omega)
    have hcap := hA0.nc
    have hcm := hA0.cm
    unfold maxLen at hcm
    have HQ := Lib.hid hq
    have HX := Lib.hid hx
    have hd : decide ((k : Int) < 0) = false := by simp
    clear hq hf hfn hx hxf hA0
    go_enter Tryz.func28, Tryz.ntmps28
    go_wp2_with fail
    refine (find_any _ (hs.map (·.1)) n _ (HM.out.frow.over HB0.out)).mono ?_
    rintro e w1 ⟨rfl, hb1⟩
    rw [HQ.out]
    have hA := HA0.out.over hb1
    have HA1 := Lib.hid hA
    have c0 := hA.arr.cell (j := 0) rfl
    have c1 := hA.arr.cell (j := 1) rfl
    have c2 := hA.arr.cell (j := 2) rfl
    have c3 := hA.arr.cell (j := 3) rfl
    have sA := hA.arr.lt
    have HBw := Lib.hid (below_over HB0.out HB0.out.size hb1)
    have HM1 : Hid (MOwn w1.drew B (.slice (some ⟨g, 0, none⟩) hs.length cap) hs) := HM.out.over HBw.out.drew
    have HAd : Hid (ArrT w1.drew w.heap.size 37 [.int .u8 4, .string n, .int .i64 a, .string s]) := hA
    have hB1 : B ≤ w1.drew.heap.size := by have := HBw.out.size; show B ≤ w1.heap.size; omega
    clear hA hb1
    go_wp2_with fail
    have hcur : w1.drew.heap[w.heap.size]? = w1.heap[w.heap.size]? := rfl
    refine wp_region_lex (C := IsSameAt w1 w.heap.size) 6 [] (by kernel_rfl) (by kernel_rfl) (isSameAt_of hcur) ?_
    simp only [List.take_succ_cons, List.take_zero, List.drop_succ_cons, List.drop_zero]
    repeat (first | (refine lex_skip rfl rfl ?_; simp only [Act.put, List.setIfInBounds_toArray, List.set_cons_succ, List.set_cons_zero]) | (refine lex_one rfl ?_; go_big_quiet_step (fail); refine wpQuiet_nil ?_) | (refine lex_loud rfl ?_; go_wp2_with (first | (go_at_call 50; (with_reducible refine (file_put g cap hs k x n a s _ B HM1.out HX.out hB1 hlx HZ.out).mono ?_); rintro e w' ⟨rfl, hok, hbb, hed⟩; have HOk := Lib.hid hok; have HBb := Lib.hid hbb; replace hcur := Eq.trans (hed _ _ HAd.out) (Eq.symm HA1.out); clear hok hbb hed)); refine ⟨isSameAt_of hcur, ?_⟩))
    refine lex_end ?_
    go_wp2_with fail
    go_ret2
    rw [HR.out]
    exact ⟨_, rfl, HOk.out, ((HBw.out.mono hB).drew).trans HBb.out⟩

set_option maxHeartbeats 10000000 in
set_option maxRecDepth 100000 in
theorem one_other (v : Value) (hs : List FileH) (kd : Nat) (n : ByteArray) (a : Int) (s : ByteArray) (w : World) (B : Nat) (hM : MOwn w B v hs) (hB : B ≤ w.heap.size) (hk : kd ≠ 1 ∧ kd ≠ 2 ∧ kd ≠ 3 ∧ kd ≠ 4) :
    Calls Tryz.prog 28 #[v, .agg #[.int .u8 (kd : Int), .string n, .int .i64 a, .string s]] w (MTRes w B ([], 1)) := by
  have HM := Lib.hid hM
  have HA0 := Lib.hid (arrT_new w [.int .u8 (kd : Int), .string n, .int .i64 a, .string s] 37)
  have HB0 := Lib.hid (below_box (w := w) (.cells #[.int .u8 (kd : Int), .string n, .int .i64 a, .string s] 37))
  have e1 : ((kd : Int) == 1) = false := by simp; omega
  have e2 : ((kd : Int) == 2) = false := by simp; omega
  have e3 : ((kd : Int) == 3) = false := by simp; omega
  have e4 : ((kd : Int) == 4) = false := by simp; omega
  clear hM hk
  go_enter Tryz.func28, Tryz.ntmps28
  go_wp2_with fail
  refine (find_any _ (hs.map (·.1)) n _ (HM.out.frow.over HB0.out)).mono ?_
  rintro e w1 ⟨rfl, hb1⟩
  have hA := HA0.out.over hb1
  have c0 := hA.arr.cell (j := 0) rfl
  have sA := hA.arr.lt
  have HBw := Lib.hid (below_over HB0.out HB0.out.size hb1)
  clear hA
  go_wp2_with fail
  go_ret2
  exact mt_bad rfl rfl (by decide) hB HBw.out

theorem one_any (v : Value) (hs : List FileH) (e : EditM) (w : World) (B : Nat) (hM : MOwn w B v hs) (hI : TInv (hs.map (·.1))) (hB : B ≤ w.heap.size) (hn : e.name.size ≤ maxLen) (hz : e.text.size ≤ maxLen) :
    Calls Tryz.prog 28 #[v, .agg #[.int .u8 (e.kind : Int), .string e.name, .int .i64 e.at', .string e.text]] w (MTRes w B (oneE (hs.map (·.1)) e)) := by
  obtain ⟨kd, n, a, s⟩ := e
  rw [oneE_def]
  by_cases h1 : kd = 1
  · subst h1; exact one_drop v hs n a s w B hM hI hB
  · by_cases h2 : kd = 2
    · subst h2; exact one_make v hs n a s w B hM hI hB hn
    · by_cases h3 : kd = 3
      · subst h3; exact one_cut v hs n a s w B hM hI hB
      · by_cases h4 : kd = 4
        · subst h4; exact one_put v hs n a s w B hM hI hB hz
        · simp only [if_neg h1, if_neg h2, if_neg h3, if_neg h4]
          exact one_other v hs kd n a s w B hM hB ⟨h1, h2, h3, h4⟩
end Go.Proofs.YtjbihmglpfdmnaaGreatDoor
namespace Go.Proofs.YtjbihmglpfdmnaaGreatDoor
open Go Go.RowKit

/-- files whose lines are the call's own, each in a block of its own -/
structure GsOk (w : World) (B : Nat) (hs : List FileH) : Prop where
  also : ∀ x ∈ hs, x.1.also = [] ∧ ∃ a c, x.2.1 = .slice a 0 c ∧ c ≤ maxLen ∧ (a = none → c = 0)
  lines : ∀ x ∈ hs, SOwn w B x.2.2 x.1.lines
  apart : ∀ (i j : Nat) x y, i ≠ j → hs[i]? = some x → hs[j]? = some y → x.2.2.ownBlock = none ∨ x.2.2.ownBlock ≠ y.2.2.ownBlock
theorem gsOk_nil (w : World) (B : Nat) : GsOk w B [] := ⟨fun x hx => by simp at hx, fun x hx => by simp at hx, fun i j x y _ hx => by simp at hx⟩
theorem GsOk.over {w w' : World} {B : Nat} {hs : List FileH} (h : GsOk w B hs) (hb : Below w.heap.size w w') : GsOk w' B hs := ⟨h.also, fun x hx => sown_over (h.lines x hx) hb, h.apart⟩
theorem GsOk.grown {w w' : World} {B : Nat} {hs : List FileH} {g n cap : Nat} {xs : List Value} (h : GsOk w B hs) (hA : OwnAt w B 40 3 g n cap xs) (hg : w.grownBy w' (some g)) : GsOk w' B hs :=
  ⟨h.also, fun x hx => own_grown (h.lines x hx) hg (.inr (hA.ne (h.lines x hx) (by decide))), h.apart⟩
theorem GsOk.snoc {w : World} {B H : Nat} {gs : List FileH} {x : FileH} (h : GsOk w B gs) (hH : ∀ y ∈ gs, ∀ b, y.2.2.ownBlock = some b → b < H) (ha : x.1.also = [] ∧ ∃ a c, x.2.1 = .slice a 0 c ∧ c ≤ maxLen ∧ (a = none → c = 0))
    (hl : SOwn w B x.2.2 x.1.lines) (hx : ∀ b, x.2.2.ownBlock = some b → H ≤ b) : GsOk w B (gs ++ [x]) := by
  have get : ∀ (i : Nat) y, (gs ++ [x])[i]? = some y → gs[i]? = some y ∨ (i = gs.length ∧ y = x) := fun i y hy => by
    by_cases hi : i < gs.length
    · left; rwa [List.getElem?_append_left hi] at hy
    · right
      rw [List.getElem?_append_right (by omega)] at hy
      have : i - gs.length = 0 := by
        rcases Nat.eq_zero_or_pos (i - gs.length) with h | h
        · exact h
        · rw [List.getElem?_eq_none (by simp; omega)] at hy; cases hy
      rw [this] at hy
      simp at hy
      exact ⟨by omega, hy.symm⟩
  refine ⟨fun y hy => ?_, fun y hy => ?_, fun i j y z hij hy hz => ?_⟩
  · rcases List.mem_append.1 hy with hy | hy
    · exact h.also y hy
    · simp at hy; subst hy; exact ha
  · rcases List.mem_append.1 hy with hy | hy
    · exact h.lines y hy
    · simp at hy; subst hy; exact hl
  · have far : ∀ y, y ∈ gs → y.2.2.ownBlock = none ∨ y.2.2.ownBlock ≠ x.2.2.ownBlock := fun y hy => by
      cases hyb : y.2.2.ownBlock with
      | none => exact .inl rfl
      | some c =>
        right
        intro he
        have h1 := hH y hy c hyb
        have h2 := hx c he.symm
        omega
    rcases get i y hy with hy' | ⟨rfl, rfl⟩ <;> rcases get j z hz with hz' | ⟨rfl, rfl⟩
    · exact h.apart i j y z hij hy' hz'
    · exact far y (List.mem_of_getElem? hy')
    · rcases far z (List.mem_of_getElem? hz') with h1 | h1
      · cases hyb : y.2.2.ownBlock with
        | none => exact .inl rfl
        | some c => right; rw [h1]; simp
      · exact .inr (Ne.symm h1)
    · exact absurd rfl hij
theorem flat_set12 : ∀ (gs : List FileH) (x : FileH) (r : List FileH) (u u' : Value), (((gs ++ x :: r).flatMap encF).set (gs.length * 3 + 1) u).set (gs.length * 3 + 2) u' = (gs ++ (x.1, u, u') :: r).flatMap encF
  | [], x, r, u, u' => by simp [encF]
  | y :: gs, x, r, u, u' => by
    have ih := flat_set12 gs x r u u'
    rw [List.cons_append, List.flatMap_cons, List.cons_append, List.flatMap_cons, ← ih, List.length_cons]
    simp [encF, List.set_cons_succ, show (gs.length + 1) * 3 + 1 = (gs.length * 3 + 1) + 1 + 1 + 1 by omega, show (gs.length + 1) * 3 + 2 = (gs.length * 3 + 2) + 1 + 1 + 1 by omega]
theorem own_base {w : World} {B B' : Nat} {e : TypeId} {sz n : Nat} {v : Value} {xs : List Value} (h : w.ownsRow B' e sz v n xs) (hB : B ≤ B') : w.ownsRow B e sz v n xs := by
  obtain ⟨h1, h2⟩ := h
  rcases h2 with ⟨rfl, h0⟩ | ⟨g, cap, cur, rfl, hb, hr⟩
  · exact ⟨h1, .inl ⟨rfl, h0⟩⟩
  · exact ⟨h1, .inr ⟨g, cap, cur, rfl, Nat.le_trans hB hb, hr⟩⟩
theorem own_empty {w : World} {B : Nat} {e : TypeId} {v : Value} (h : w.ownsRow B e 1 v 0 []) : ∃ a c, v = .slice a 0 c ∧ c ≤ maxLen ∧ (a = none → c = 0) := by
  rcases h.2 with ⟨rfl, _⟩ | ⟨g, cap, cur, rfl, _, _, _, hm, _⟩
  · exact ⟨none, 0, rfl, Nat.zero_le _, fun _ => rfl⟩
  · exact ⟨_, cap, rfl, hm, fun h => by cases h⟩
theorem copy_at {w : World} {B g n cap i : Nat} {gs hs : List FileH} {x : FileH} {u u' : Value} (h : OwnAt w B 40 3 g n cap ((gs ++ hs.drop i).flatMap encF)) (hx : hs[i]? = some x) (hi : gs.length = i) :
    OwnAt ((w.setCell ⟨g, i * 3 + 1, none⟩ u).setCell ⟨g, i * 3 + 2, none⟩ u') B 40 3 g n cap (((gs ++ [(x.1, u, u')]) ++ hs.drop (i + 1)).flatMap encF) := by
  have hget : (gs ++ hs.drop i)[i]? = some x := by rw [List.getElem?_append_right (by omega), hi, Nat.sub_self, List.getElem?_drop]; exact hx
  have h1 := h.setCell (i * 3 + 1) (List.getElem?_eq_some_iff.1 (flat_cell1 hget)).1 u
  have h2 := h1.setCell (i * 3 + 2) (by rw [List.length_set]; exact (List.getElem?_eq_some_iff.1 (flat_cell2 hget)).1) u'
  rw [drop_get hx] at h2
  subst hi
  rw [flat_set12] at h2
  rw [List.append_assoc]; exact h2
theorem copy_ok {w2 w3 : World} {B g n cap i j : Nat} {gs : List FileH} {xs : List Value} {f : FileM} {u u' : Value} (h : GsOk w2 B gs) (hA : OwnAt w3 B 40 3 g n cap xs) (hi : i < xs.length) (hb : Below w2.heap.size w2 w3) (hB : B ≤ w2.heap.size)
    (ha : f.also = []) (hu : ∃ a c, u = .slice a 0 c ∧ c ≤ maxLen ∧ (a = none → c = 0)) (hl : w3.ownsRow w2.heap.size 9 1 u' f.lines.length (f.lines.map Value.string)) :
    GsOk ((w3.setCell ⟨g, i, none⟩ u).setCell ⟨g, j, none⟩ u') B (gs ++ [(f, u, u')]) := by
  have h3 : GsOk w3 B (gs ++ [(f, u, u')]) := (h.over hb).snoc (H := w2.heap.size) (fun y hy b hyb => ((h.lines y hy).lt b hyb).2) ⟨ha, hu⟩ (own_base hl hB) (fun b hb' => (hl.lt b hb').1)
  exact (h3.grown hA (grown_setCell _ _ _)).grown (hA.setCell i hi u) (grown_setCell _ _ _)
def CopyRes (w : World) (t : List FileM) (e : Ending) (w' : World) : Prop := ∃ v' hs', e = .returned v' ∧ MOwn w' w.heap.size v' hs' ∧ hs'.map (·.1) = t ∧ Below w.heap.size w w'
def CopyRel (w : World) (g cap : Nat) (hs : List FileH) (iv : Value) (wr : World) : Prop :=
  ∃ (i : Nat) (gs : List FileH), iv = .int .i64 i ∧ i ≤ hs.length ∧ gs.length = i ∧ Hid (gs.map (·.1) = (hs.take i).map (·.1)) ∧ Hid (OwnAt wr w.heap.size 40 3 g hs.length cap ((gs ++ hs.drop i).flatMap encF)) ∧ Hid (GsOk wr w.heap.size gs) ∧ Below w.heap.size w wr

set_option maxHeartbeats 10000000 in
set_option maxRecDepth 100000 in
theorem copy_any (v : Value) (t : List FileM) (w : World) (hv : FRow w v t) (ht : t.length ≤ 1000) (ha : ∀ f ∈ t, f.also = []) (hl : ∀ f ∈ t, f.lines.length ≤ 1000) :
    Calls Tryz.prog 27 #[v] w (CopyRes w t) := by
  obtain ⟨hs, rfl, hr, hh⟩ := hv.open
  rw [List.length_map] at ht
  have HR := Lib.hid hr
  have HH := Lib.hid hh
  have HAl : Hid (∀ x ∈ hs, x.1.also = []) := fun x hx => ha x.1 (List.mem_map.2 ⟨x, hx, rfl⟩)
  have HLl : Hid (∀ x ∈ hs, x.1.lines.length ≤ 1000) := fun x hx => hl x.1 (List.mem_map.2 ⟨x, hx, rfl⟩)
  have hn6 : hs.length ≤ 1000000 := by omega
  clear hv hr hh ha hl
  by_cases h0 : hs.length = 0
  · obtain rfl : hs = [] := List.eq_nil_of_length_eq_zero h0
    go_enter Tryz.func27, Tryz.ntmps27
    go_wp2_with fail
    refine (clone_file v 0 [] w HR.out (fun u hu => by simp at hu) (by omega)).mono ?_
    rintro e w1 ⟨v1, rfl, hO1, hb1⟩
    have HO1 := Lib.hid hO1
    rcases hO1.2 with ⟨rfl, _⟩ | ⟨g, cap, cur, rfl, _, _, _, hcm, _⟩
    · clear hO1
      go_wp2_with fail
      go_loopw [10] (fun i wr => i = .int .i64 0 ∧ Below w1.heap.size w1 wr) (fun _ _ => 0)
      case atStart => exact ⟨rfl, Below.refl _ _⟩
      case round =>
        obtain ⟨rfl, hbl⟩ := hrel
        go_wp2_with fail
        go_ret
        exact ⟨_, [], rfl, ⟨own_over (own_over HO1.out (Below.refl _ _)) hbl, fun x hx => by simp at hx, fun x hx => by simp at hx, fun i j x y _ hx => by simp at hx⟩, rfl, below_over hb1 hb1.size hbl⟩
    · clear hO1
      go_wp2_with fail
      go_loopw [10] (fun i wr => i = .int .i64 0 ∧ Below w1.heap.size w1 wr) (fun _ _ => 0)
      case atStart => exact ⟨rfl, Below.refl _ _⟩
      case round =>
        obtain ⟨rfl, hbl⟩ := hrel
        go_wp2_with fail
        go_ret
        exact ⟨_, [], rfl, ⟨own_over (own_over HO1.out (Below.refl _ _)) hbl, fun x hx => by simp at hx, fun x hx => by simp at hx, fun i j x y _ hx => by simp at hx⟩, rfl, below_over hb1 hb1.size hbl⟩
  · go_enter Tryz.func27, Tryz.ntmps27
    go_wp2_with fail
    refine (clone_file v hs.length _ w HR.out (encF_one HH.out) hn6).mono ?_
    rintro e w1 ⟨v1, rfl, hO1, hb1⟩
    obtain ⟨g, cap, rfl, hA1⟩ := own_at hO1 h0
    have HA1 := Lib.hid hA1
    have hcap := hA1.nc
    have hcm := hA1.cm
    unfold maxLen at hcm
    clear hO1 hA1
    go_wp2_with fail
    go_loopw [4, 5, 10] (fun _ _ i wr => CopyRel w g cap hs i wr) (fun _ _ i _ => hs.length - (intOf i).toNat)
    case atStart => exact ⟨0, [], rfl, by omega, rfl, rfl, (by show OwnAt _ _ _ _ _ _ _ _; simpa using HA1.out), gsOk_nil _ _, hb1⟩
    case round =>
      obtain ⟨i, gs, rfl, hi, hgl, HG, HA, HGs, hbl⟩ := hrel
      by_cases hlt : i < hs.length
      · obtain ⟨x, hx⟩ := get_of_lt hlt
        have hal := HAl.out x (List.mem_of_getElem? hx)
        have hll := HLl.out x (List.mem_of_getElem? hx)
        have hhx := HH.out x (List.mem_of_getElem? hx)
        obtain ⟨xa, xac, ea, a1, a2, a3, _⟩ := hhx.1.form
        obtain ⟨xl, xlc, el, l1, l2, _, _⟩ := hhx.2.form
        rw [hal] at ea
        simp only [List.length_nil] at ea
        obtain ⟨f, av, lv⟩ := x
        simp only at ea el hal hll l1
        subst ea; subst el
        have hget : (gs ++ hs.drop i)[i]? = some (f, .slice xa 0 xac, .slice xl f.lines.length xlc) := by
          rw [List.getElem?_append_right (by omega), hgl, Nat.sub_self, List.getElem?_drop]; exact hx
        have hA := HA.out
        have k0 := hA.cell (flat_cell0 hget)
        have k1 := hA.cell (flat_cell1 hget)
        have k2 := hA.cell (flat_cell2 hget)
        have sg := hA.lt
        have HX := Lib.hid hx
        have HRa : Hid (∀ w' : World, Row w' (.slice xa 0 xac) 0 1 []) := fun w' => srow_none a2 a3 w'
        have HRl : Hid (SRow w (.slice xl f.lines.length xlc) f.lines) := hhx.2
        have HBo := Lib.hid (below_box (w := wr) (.cells #[.string f.name, .slice xa 0 xac, .slice xl f.lines.length xlc] 40))
        have HNw := Lib.hid (arrT_new wr [.string f.name, .slice xa 0 xac, .slice xl f.lines.length xlc] 40)
        have hll6 : f.lines.length ≤ 1000000 := by omega
        have h06 : (0 : Nat) ≤ 1000000 := by omega
        have hne0 : ∀ u ∈ ([] : List Value), u.oneCell' = true := fun u hu => by simp at hu
        have HGet := Lib.hid hget
        clear hhx hx hA hget
        go_wp2_with fail
        have HAa := Lib.hid (HA.out.over HBo.out)
        have HGa := Lib.hid (HGs.out.over HBo.out)
        have HBwa := Lib.hid (below_over hbl hbl.size HBo.out)
        have hszw : wr.heap.size < (wr.alloc (.cells #[.string f.name, .slice xa 0 xac, .slice xl f.lines.length xlc] 40)).heap.size := by simp
        generalize wr.alloc (.cells #[.string f.name, .slice xa 0 xac, .slice xl f.lines.length xlc] 40) = wa at *
        have d1 := HNw.out.arr.cell (j := 1) rfl
        have d2 := HNw.out.arr.cell (j := 2) rfl
        have hng : ¬ wr.heap.size = g := by omega
        have HAd : Hid (OwnAt wa.drew w.heap.size 40 3 g hs.length cap ((gs ++ hs.drop i).flatMap encF)) := HAa.out.drew
        have HGd : Hid (GsOk wa.drew w.heap.size gs) := ⟨HGa.out.also, HGa.out.lines, HGa.out.apart⟩
        clear k0 k1 k2
        have hcur : World.grownBy wa wa.drew (some g) := ⟨rfl, rfl, rfl, Nat.le_refl _, fun _ _ _ => rfl⟩
        refine wp_region_lex (C := IsKept wa (some g)) 16 [] (by kernel_rfl) (by kernel_rfl) (isKept_of hcur) ?_
        simp only [List.take_succ_cons, List.take_zero, List.drop_succ_cons, List.drop_zero]
        repeat (first | (refine lex_skip rfl rfl ?_; simp only [Act.put, List.setIfInBounds_toArray, List.set_cons_succ, List.set_cons_zero]) | (refine lex_one rfl ?_; go_big_quiet_step (fail); refine wpQuiet_nil ?_) | (refine lex_loud rfl ?_; go_wp2_with (first | (go_at_call 47; (with_reducible refine (clone_str _ 0 [] _ (HRa.out _) hne0 h06).mono ?_); rintro e w2 ⟨va, rfl, hO2, hb2⟩; obtain ⟨b2, c2, rfl, hc2m, hc2n⟩ := own_empty hO2; have HA2 := Lib.hid (HAd.out.over hb2); have HG2 := Lib.hid (HGd.out.over hb2); have HB2 := Lib.hid (below_over HBwa.out.drew HBwa.out.drew.size hb2); have HC2 := Lib.hid (And.intro hc2m hc2n); have HRl2 : Hid (Row w2 (.slice xl f.lines.length xlc) f.lines.length 1 (f.lines.map Value.string)) := (HRl.out.over (below_over HBwa.out.drew HBwa.out.drew.size hb2)); replace hcur := grown_trans hcur (grown_of_below hb2); clear hO2 hb2 hc2m hc2n) | (go_at_call 47; (with_reducible refine (clone_str _ f.lines.length _ _ HRl2.out (string_one _) hll6).mono ?_); rintro e w3 ⟨vl, rfl, hO3, hb3⟩; obtain ⟨b3, n3, c3, rfl⟩ := own_slice hO3; have HO3 := Lib.hid hO3; have HB3 := Lib.hid hb3; have HA3 := Lib.hid (HA2.out.over hb3); have q1 := HA3.out.cell (flat_cell1 HGet.out); have q2 := HA3.out.cell (flat_cell2 HGet.out); have f1 := HA3.out.free (i * 3 + 1); have f2 := HA3.out.free (i * 3 + 2); have sg3 := HA3.out.lt; replace hcur := grown_trans hcur (grown_of_below hb3); clear hO3 hb3)); refine ⟨isKept_of (by first | exact hcur | exact only_alloc hcur _ | exact grown_trans hcur (grown_setCell _ _ _) | exact grown_trans (grown_trans hcur (grown_setCell _ _ _)) (grown_setCell _ _ _)), ?_⟩))
        refine lex_end ?_
        have HA5 := Lib.hid (copy_at (u := .slice b2 0 c2) (u' := .slice b3 n3 c3) HA3.out HX.out hgl)
        have HG5 := Lib.hid (copy_ok (j := i * 3 + 2) (f := f) (u := .slice b2 0 c2) HG2.out HA3.out (List.getElem?_eq_some_iff.1 (flat_cell1 HGet.out)).1 HB3.out HB2.out.size hal ⟨_, _, rfl, HC2.out.1, HC2.out.2⟩ HO3.out)
        have HB5 := Lib.hid (((below_over HB2.out HB2.out.size HB3.out).setCell (p := ⟨g, i * 3 + 1, none⟩) HA3.out.base (.slice b2 0 c2)).setCell (p := ⟨g, i * 3 + 2, none⟩) HA3.out.base (.slice b3 n3 c3))
        clear q1 q2 f1 f2
        go_wp2_with fail
        go_roundw
        case rel => exact ⟨i + 1, gs ++ [(f, .slice b2 0 c2, .slice b3 n3 c3)], by go_num, hlt, by simp; omega, (by show _ = _; rw [List.map_append, HG.out, take_succ_get HX.out, List.map_append]; rfl), HA5, HG5, HB5.out⟩
        case measure => exact meas_lt hlt
      · obtain rfl : i = hs.length := by omega
        go_wp2_with fail
        go_ret
        have hA := HA.out
        rw [List.drop_length, List.append_nil] at hA
        have hG := HG.out
        rw [List.take_length] at hG
        refine ⟨_, gs, rfl, ⟨?_, HGs.out.also, HGs.out.lines, HGs.out.apart⟩, hG, hbl⟩
        unfold TOwn
        rw [hgl]; exact hA.own
end Go.Proofs.YtjbihmglpfdmnaaGreatDoor
namespace Go.Proofs.YtjbihmglpfdmnaaGreatDoor
open Go Go.RowKit

def ApRel2 (w1 : World) (t : List FileM) (es : List EditM) (v iv : Value) (wr : World) : Prop :=
  ∃ (i : Nat) (hs : List FileH), i ≤ es.length ∧ iv = .int .i64 i ∧ Hid (TInv (hs.map (·.1))) ∧ Hid (MOwn wr w1.heap.size v hs) ∧ Hid (applyF (hs.map (·.1)) (es.drop i) = applyF t es) ∧ Below w1.heap.size w1 wr

set_option maxHeartbeats 10000000 in
set_option maxRecDepth 100000 in
theorem apply_any (v ve : Value) (t : List FileM) (es : List EditM) (w : World) (hv : FRow w v t) (he : ERow w ve es) (hz : SzT t) (hze : SzE es) (hl : es.length ≤ 100000) :
    Calls Tryz.prog 13 #[v, ve] w (OneRes w (applyE t es)) := by
  have HV := Lib.hid hv
  have HZ := Lib.hid hz
  have HZE := Lib.hid hze
  obtain ⟨a, cap, rfl, h1, h2, _, hc⟩ := he.form
  unfold maxLen at h2
  have HC := Lib.hid hc
  clear hv he hz hze hc
  cases hg : treeGood t with
  | false =>
    have HR : Hid (applyE t es = ([], 4)) := applyE_bad hg
    go_enter Tryz.func13, Tryz.ntmps13
    go_wp2_with fail
    refine (good_any _ t _ HV.out HZ.out).mono ?_
    rintro e w1 ⟨rfl, hb1⟩
    go_wp2_with fail
    go_ret2
    exact oneRes_bad HR.out rfl hb1
  | true =>
    have HR : Hid (applyE t es = applyF t es) := applyE_good hg
    have HI : Hid (TInv t) := TInv.of_good hg HZ.out
    go_enter Tryz.func13, Tryz.ntmps13
    go_wp2_with fail
    refine (good_any _ t _ HV.out HZ.out).mono ?_
    rintro e w1 ⟨rfl, hb1⟩
    go_wp2_with fail
    refine (copy_any _ t _ (HV.out.over hb1) (by have := HI.out.len; omega) HI.out.also (fun f hf => Nat.le_trans (HI.out.lines f hf) (by decide))).mono ?_
    rintro e w2 ⟨v2, hs2, rfl, hM2, hmap2, hb2⟩
    have HM2 := Lib.hid hM2
    have HMap2 := Lib.hid hmap2
    clear hM2 hmap2
    go_wp2_with fail
    clear hg
    go_loopw [0, 7, 8, 9, 17] (fun v _ _ _ i wr => ApRel2 w1 t es v i wr) (fun _ _ _ _ i _ => es.length - (intOf i).toNat)
    case atStart => exact ⟨0, hs2, by omega, rfl, (by show TInv _; rw [HMap2.out]; exact HI.out), HM2, (by show _ = _; rw [HMap2.out]; rfl), hb2⟩
    case round =>
      obtain ⟨i, hs, hi, rfl, HI', HM', HAp, hbl⟩ := hrel
      have hbw := below_over hb1 hb1.size hbl
      by_cases hlt : i < es.length
      · obtain ⟨b, o, rfl, sb, hf⟩ := HC.out.resolve_left (by omega)
        obtain ⟨x, hx⟩ := get_of_lt hlt
        have hat := (hf i x hx).over hbw sb
        have c0 := hat.c0
        have c1 := hat.c1
        have c2 := hat.c2
        have c3 := hat.c3
        have sb' : b < wr.heap.size := Nat.lt_of_lt_of_le sb hbw.size
        have HSz := Lib.hid (HZE.out x (List.mem_of_getElem? hx))
        have HAp' : Hid (applyF (hs.map (·.1)) (x :: es.drop (i + 1)) = applyF t es) := by show _ = _; rw [← drop_get hx]; exact HAp.out
        have HBo := Lib.hid (below_box (w := wr) (.cells #[.int .u8 (x.kind : Int), .string x.name, .int .i64 x.at', .string x.text] 37))
        have HNw := Lib.hid (arrT_new wr [.int .u8 (x.kind : Int), .string x.name, .int .i64 x.at', .string x.text] 37)
        clear hat hf hx
        by_cases hc : (oneE (hs.map (·.1)) x).2 = 0
        · have HI2 := Lib.hid (HI'.out.one hc)
          have HA2 : Hid (applyF (oneE (hs.map (·.1)) x).1 (es.drop (i + 1)) = applyF t es) := by show _ = _; rw [← applyF_go hc]; exact HAp'.out
          have hcb : (((oneE (hs.map (·.1)) x).2 : Int) != 0) = false := by simp [hc]
          have HCc := Lib.hid hc
          clear hc
          go_wp2_with fail
          refine (one_any _ hs x _ w1.heap.size (HM'.out.over HBo.out) HI'.out (Nat.le_trans hbl.size HBo.out.size) HSz.out.1 HSz.out.2).mono ?_
          rintro e w3 ⟨v3, rfl, h3, hb3⟩
          obtain ⟨hs3, hM3, hmap3⟩ := h3 HCc.out
          have HM3 := Lib.hid hM3
          have HMap3 := Lib.hid hmap3
          have HB3 := Lib.hid ((hbl.trans (HBo.out.mono hbl.size)).trans hb3)
          clear h3 hM3 hmap3 hb3 c0 c1 c2 c3
          go_wp2_with fail
          go_roundw
          case rel => exact ⟨i + 1, hs3, hlt, by go_num, (by show TInv _; rw [HMap3.out]; exact HI2.out), HM3, (by show _ = _; rw [HMap3.out]; exact HA2.out), HB3.out⟩
          case measure => exact meas_lt hlt
        · have HE : Hid (applyF t es = ([], (oneE (hs.map (·.1)) x).2)) := by show _ = _; rw [← HAp'.out, applyF_stop hc]
          have hcb : (((oneE (hs.map (·.1)) x).2 : Int) != 0) = true := by simp [hc]
          clear hc
          go_wp2_with fail
          refine (one_any _ hs x _ w1.heap.size (HM'.out.over HBo.out) HI'.out (Nat.le_trans hbl.size HBo.out.size) HSz.out.1 HSz.out.2).mono ?_
          rintro e w3 ⟨v3, rfl, h3, hb3⟩
          have HB3 := Lib.hid ((hbl.trans (HBo.out.mono hbl.size)).trans hb3)
          clear h3 hb3 c0 c1 c2 c3
          go_wp2_with fail
          go_ret2
          exact oneRes_bad (HR.out.trans HE.out) rfl (below_over hb1 hb1.size HB3.out)
      · obtain rfl : i = es.length := by omega
        have HE : Hid (applyF t es = (hs.map (·.1), 0)) := by show _ = _; rw [← HAp.out, List.drop_length]; rfl
        go_wp2_with fail
        go_ret2
        exact oneRes_ok (HR.out.trans HE.out) HM'.out.frow hbw
end Go.Proofs.YtjbihmglpfdmnaaGreatDoor
