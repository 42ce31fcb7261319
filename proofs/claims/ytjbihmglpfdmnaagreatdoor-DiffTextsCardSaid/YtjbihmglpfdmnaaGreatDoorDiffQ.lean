/- Plain words of layer 50: what an edit makes of a tree. -/
import Derived.Test.YtjbihmglpfdmnaaGreatDoorDiffP
import Derived.Test.YtjbihmglpfdmnaaGreatDoorTreeQ
namespace Go.Proofs.YtjbihmglpfdmnaaGreatDoor
open Go

theorem bytes_lt : ∀ (x y : List UInt8), Op.bytesLess x y = decide (x < y)
  | [], [] => by simp [Op.bytesLess]
  | _ :: _, [] => by simp [Op.bytesLess]
  | [], _ :: _ => by simp [Op.bytesLess]
  | a :: x, b :: y => by
    rw [Op.bytesLess, bytes_lt x y]
    simp only [List.cons_lt_cons_iff]
    by_cases h1 : a < b <;> by_cases h2 : a = b <;> by_cases h3 : x < y <;> simp [h1, h2, h3]
theorem ltB_iff {a b : ByteArray} : ltB a b = true ↔ a.toList < b.toList := by unfold ltB; rw [bytes_lt]; simp
theorem ltB_trans {a b c : ByteArray} (h : ltB a b = true) (h' : ltB b c = true) : ltB a c = true := by
  rw [ltB_iff] at *; exact List.lt_trans h h'
theorem ltB_irrefl (a : ByteArray) : ltB a a = false := by
  rw [Bool.eq_false_iff]; intro h; rw [ltB_iff] at h; exact List.lt_irrefl _ h
theorem ltB_ne {a b : ByteArray} (h : ltB a b = true) : a ≠ b := by rintro rfl; rw [ltB_irrefl] at h; cases h
theorem ltB_asymm {a b : ByteArray} (h : ltB a b = true) : ltB b a = false := by
  rw [Bool.eq_false_iff]; intro h'
  have := ltB_trans h h'; rw [ltB_irrefl] at this; cases this
theorem ltB_total {a b : ByteArray} (h : ltB a b = false) (h' : a ≠ b) : ltB b a = true := by
  rw [ltB_iff]
  rw [Bool.eq_false_iff, ne_eq, ltB_iff] at h
  rcases List.le_iff_lt_or_eq.1 (List.not_lt.1 h) with h1 | h1
  · exact h1
  · exact absurd (ba_list.1 h1.symm) h'

/-- a tree that edits keep in shape -/
structure TInv (t : List FileM) : Prop where
  len : t.length ≤ 16
  also : ∀ f ∈ t, f.also = []
  lines : ∀ f ∈ t, f.lines.length ≤ 60
  sz : SzT t
  sorted : (t.map (·.name)).Pairwise fun a b => ltB a b = true
def setL (t : List FileM) (k : Nat) (l : List ByteArray) : List FileM := t.take k ++ ⟨(t.getD k default).name, [], l⟩ :: t.drop (k + 1)
def insT (t : List FileM) (n : ByteArray) : List FileM := t.takeWhile (fun f => ltB f.name n) ++ ⟨n, [], []⟩ :: t.dropWhile (fun f => ltB f.name n)
def oneK1 (t : List FileM) (n : ByteArray) : List FileM × Nat := if findT t n < 0 then ([], 6) else (t.take (findT t n).toNat ++ t.drop ((findT t n).toNat + 1), 0)
def oneK2 (t : List FileM) (n : ByteArray) : List FileM × Nat := if nameOk n = false then ([], 4) else if 0 ≤ findT t n then ([], 7) else if 16 ≤ t.length then ([], 11) else (insT t n, 0)
def oneK3 (t : List FileM) (e : EditM) : List FileM × Nat :=
  if findT t e.name < 0 then ([], 6) else if e.at' < 0 ∨ ((wasL t e.name).length : Int) ≤ e.at' then ([], 6)
  else (setL t (findT t e.name).toNat ((wasL t e.name).take e.at'.toNat ++ (wasL t e.name).drop (e.at'.toNat + 1)), 0)
def oneK4 (t : List FileM) (e : EditM) : List FileM × Nat :=
  if findT t e.name < 0 then ([], 6) else if e.at' < 0 ∨ ((wasL t e.name).length : Int) < e.at' then ([], 1) else if lineOk e.text = false then ([], 4) else if 60 ≤ (wasL t e.name).length then ([], 11)
  else (setL t (findT t e.name).toNat ((wasL t e.name).take e.at'.toNat ++ e.text :: (wasL t e.name).drop e.at'.toNat), 0)
/-- what an edit makes of a tree, and an error's number -/
def oneE (t : List FileM) (e : EditM) : List FileM × Nat :=
  if e.kind = 1 then oneK1 t e.name else if e.kind = 2 then oneK2 t e.name else if e.kind = 3 then oneK3 t e else if e.kind = 4 then oneK4 t e else ([], 1)
def applyF : List FileM → List EditM → List FileM × Nat
  | t, [] => (t, 0)
  | t, e :: r => if (oneE t e).2 = 0 then applyF (oneE t e).1 r else ([], (oneE t e).2)
def applyE (t : List FileM) (l : List EditM) : List FileM × Nat := if treeGood t = true then applyF t l else ([], 4)

theorem goodAt_of {t : List FileM} (h : treeGood t = true) {i : Nat} (hi : i < t.length) : goodAt t i = true := by
  unfold treeGood at h
  rw [Bool.and_eq_true, List.all_eq_true] at h
  exact h.2 i (by simpa using hi)
theorem treeGood_len {t : List FileM} (h : treeGood t = true) : t.length ≤ 16 := by
  unfold treeGood at h
  rw [Bool.and_eq_true, decide_eq_true_eq] at h
  exact h.1
theorem goodAt_fileOk {t : List FileM} {i : Nat} {f : FileM} (h : goodAt t i = true) (hf : t[i]? = some f) : fileOk f = true := by
  unfold goodAt at h
  rw [hf] at h
  simp only [Bool.and_eq_true] at h
  exact h.1
theorem goodAt_lt {t : List FileM} {i : Nat} {f g : FileM} (h : goodAt t (i + 1) = true) (hf : t[i + 1]? = some f) (hg : t[i]? = some g) : ltB g.name f.name = true := by
  rw [goodAt_succ hf hg, Bool.and_eq_true] at h
  exact h.2
theorem sorted_of_adj : ∀ {t : List FileM}, (∀ (i : Nat) f g, t[i + 1]? = some f → t[i]? = some g → ltB g.name f.name = true) → t.Pairwise fun a b => ltB a.name b.name = true
  | [], _ => List.Pairwise.nil
  | [x], _ => by simp
  | x :: y :: t, h => by
    have ih := sorted_of_adj (t := y :: t) (fun i f g hf hg => h (i + 1) f g (by simpa using hf) (by simpa using hg))
    refine List.Pairwise.cons ?_ ih
    have h0 := h 0 y x rfl rfl
    intro z hz
    rcases List.mem_cons.1 hz with rfl | hz
    · exact h0
    · exact ltB_trans h0 ((List.pairwise_cons.1 ih).1 z hz)
theorem TInv.of_good {t : List FileM} (h : treeGood t = true) (hz : SzT t) : TInv t := by
  have hf : ∀ f ∈ t, fileOk f = true := fun f hf => by
    obtain ⟨i, hi, rfl⟩ := List.getElem_of_mem hf
    exact goodAt_fileOk (goodAt_of h hi) (List.getElem?_eq_getElem hi)
  refine ⟨treeGood_len h, fun f hm => ?_, fun f hm => ?_, hz, List.pairwise_map.2 <| sorted_of_adj fun i f g h1 h2 => goodAt_lt (goodAt_of h (List.getElem?_eq_some_iff.1 h1).1) h1 h2⟩
  · have := hf f hm
    have := fileOk_eq f ▸ this
    simp only [Bool.and_eq_true, decide_eq_true_eq] at this
    exact List.eq_nil_of_length_eq_zero this.2.1
  · have := hf f hm
    have := fileOk_eq f ▸ this
    simp only [Bool.and_eq_true, decide_eq_true_eq] at this
    exact this.2.2.1

theorem findT_lt {t : List FileM} {n : ByteArray} (h : ¬ findT t n < 0) : ∃ (k : Nat) (f : FileM), findT t n = (k : Int) ∧ t[k]? = some f ∧ f.name = n := by
  rcases findT_ge t n with h1 | h1
  · omega
  · exact h1
theorem mem_setL {t : List FileM} {k : Nat} {l : List ByteArray} {g : FileM} (h : g ∈ setL t k l) : g ∈ t ∨ g = ⟨(t.getD k default).name, [], l⟩ := by
  unfold setL at h
  rcases List.mem_append.1 h with h | h
  · exact .inl (List.mem_of_mem_take h)
  · rcases List.mem_cons.1 h with h | h
    · exact .inr h
    · exact .inl (List.mem_of_mem_drop h)
theorem split_at {α : Type} {t : List α} {k : Nat} {f : α} (h : t[k]? = some f) : t = t.take k ++ f :: t.drop (k + 1) := by
  obtain ⟨hk, rfl⟩ := List.getElem?_eq_some_iff.1 h
  rw [← List.drop_eq_getElem_cons hk, List.take_append_drop]
theorem getD_at {t : List FileM} {k : Nat} {f : FileM} (h : t[k]? = some f) : t.getD k default = f := by rw [List.getD_eq_getElem?_getD, h]; rfl
theorem names_setL {t : List FileM} {k : Nat} {l : List ByteArray} {f : FileM} (h : t[k]? = some f) : (setL t k l).map (·.name) = t.map (·.name) := by
  conv => rhs; rw [split_at h]
  unfold setL
  rw [getD_at h]; simp
theorem len_setL {t : List FileM} {k : Nat} {l : List ByteArray} {f : FileM} (h : t[k]? = some f) : (setL t k l).length = t.length := by
  have := congrArg List.length (names_setL (l := l) h)
  simpa using this
theorem TInv.set {t : List FileM} (I : TInv t) {k : Nat} {f : FileM} {l : List ByteArray} (h : t[k]? = some f) (hl : l.length ≤ 60) (hz : SzS l) : TInv (setL t k l) := by
  have hm : f ∈ t := List.mem_of_getElem? h
  refine ⟨by rw [len_setL h]; exact I.len, fun g hg => ?_, fun g hg => ?_, fun g hg => ?_, by rw [names_setL h]; exact I.sorted⟩
  · rcases mem_setL hg with hg | rfl
    · exact I.also g hg
    · rfl
  · rcases mem_setL hg with hg | rfl
    · exact I.lines g hg
    · exact hl
  · rcases mem_setL hg with hg | rfl
    · exact I.sz g hg
    · rw [getD_at h]
      exact ⟨(I.sz f hm).1, fun x hx => by simp at hx, hz⟩
theorem TInv.del {t : List FileM} (I : TInv t) (k : Nat) : TInv (t.take k ++ t.drop (k + 1)) := by
  have hs : (t.take k ++ t.drop (k + 1)).Sublist t := by
    conv => rhs; rw [← List.take_append_drop k t]
    refine List.Sublist.append (List.Sublist.refl _) ?_
    rw [← List.drop_drop]
    exact List.drop_sublist _ _
  refine ⟨Nat.le_trans hs.length_le I.len, fun g hg => I.also g (hs.subset hg), fun g hg => I.lines g (hs.subset hg), fun g hg => I.sz g (hs.subset hg), I.sorted.sublist (hs.map _)⟩
theorem insT_len (t : List FileM) (n : ByteArray) : (insT t n).length = t.length + 1 := by
  have := congrArg List.length (List.takeWhile_append_dropWhile (p := fun f : FileM => ltB f.name n) (l := t))
  unfold insT
  simp only [List.length_append, List.length_cons] at *
  omega
theorem mem_insT {t : List FileM} {n : ByteArray} {g : FileM} (h : g ∈ insT t n) : g ∈ t ∨ g = ⟨n, [], []⟩ := by
  unfold insT at h
  rcases List.mem_append.1 h with h | h
  · exact .inl (List.takeWhile_subset _ h)
  · rcases List.mem_cons.1 h with h | h
    · exact .inr h
    · exact .inl (List.dropWhile_subset _ h)
theorem drop_gt {n : ByteArray} : ∀ {t : List FileM}, t.Pairwise (fun a b => ltB a.name b.name = true) → (∀ f ∈ t, f.name ≠ n) → ∀ g ∈ t.dropWhile (fun f => ltB f.name n), ltB n g.name = true
  | [], _, _, g, h => by simp at h
  | x :: t, hp, hn, g, h => by
    rw [List.dropWhile_cons] at h
    obtain ⟨hp1, hp2⟩ := List.pairwise_cons.1 hp
    cases hx : ltB x.name n with
    | true =>
      rw [hx, if_pos rfl] at h
      exact drop_gt hp2 (fun f hf => hn f (by simp [hf])) g h
    | false =>
      rw [hx, if_neg (by simp)] at h
      have h0 := ltB_total hx (hn x (by simp))
      rcases List.mem_cons.1 h with rfl | h
      · exact h0
      · exact ltB_trans h0 (hp1 g h)
theorem take_lt {n : ByteArray} : ∀ {t : List FileM}, ∀ g ∈ t.takeWhile (fun f => ltB f.name n), ltB g.name n = true
  | [], g, h => by simp at h
  | x :: t, g, h => by
    rw [List.takeWhile_cons] at h
    split at h
    · rcases List.mem_cons.1 h with rfl | h
      · assumption
      · exact take_lt g h
    · simp at h
theorem findFrom_neg : ∀ {t : List FileM} {n : ByteArray} {i : Nat}, findFrom n t i < 0 → ∀ f ∈ t, f.name ≠ n
  | [], _, _, _, f, hf => by simp at hf
  | g :: t, n, i, h, f, hf => by
    rw [findFrom] at h
    by_cases hg : g.name = n
    · rw [if_pos hg] at h; omega
    · rw [if_neg hg] at h
      rcases List.mem_cons.1 hf with rfl | hf
      · exact hg
      · exact findFrom_neg h f hf
theorem findT_neg {t : List FileM} {n : ByteArray} (h : findT t n < 0) : ∀ f ∈ t, f.name ≠ n := findFrom_neg h
theorem nameOk_size {n : ByteArray} (h : nameOk n = true) : n.size ≤ 16 := by
  unfold nameOk at h
  simp only [Bool.and_eq_true, decide_eq_true_eq] at h
  exact h.2.2
theorem lineOk_size {n : ByteArray} (h : lineOk n = true) : n.size ≤ 60 := by
  unfold lineOk at h
  simp only [Bool.and_eq_true, decide_eq_true_eq] at h
  exact h.1.2
theorem TInv.ins {t : List FileM} (I : TInv t) {n : ByteArray} (hn : nameOk n = true) (hf : findT t n < 0) (hl : t.length < 16) : TInv (insT t n) := by
  have hs := List.pairwise_map.1 I.sorted
  refine ⟨by rw [insT_len]; omega, fun g hg => ?_, fun g hg => ?_, fun g hg => ?_, ?_⟩
  · rcases mem_insT hg with hg | rfl
    · exact I.also g hg
    · rfl
  · rcases mem_insT hg with hg | rfl
    · exact I.lines g hg
    · simp
  · rcases mem_insT hg with hg | rfl
    · exact I.sz g hg
    · have := nameOk_size hn
      exact ⟨by show n.size ≤ maxLen; unfold maxLen; omega, fun x hx => by simp at hx, fun x hx => by simp at hx⟩
  · rw [List.pairwise_map]
    unfold insT
    rw [List.pairwise_append]
    refine ⟨hs.sublist (List.takeWhile_sublist _), List.pairwise_cons.2 ⟨drop_gt hs (findT_neg hf), hs.sublist (List.dropWhile_sublist _)⟩, fun a ha b hb => ?_⟩
    have h1 := take_lt a ha
    rcases List.mem_cons.1 hb with rfl | hb
    · exact h1
    · exact ltB_trans h1 (drop_gt hs (findT_neg hf) b hb)
theorem wasL_mem {t : List FileM} (I : TInv t) (n : ByteArray) : (wasL t n).length ≤ 60 ∧ SzS (wasL t n) := by
  rcases findT_ge t n with h1 | ⟨k, f, h1, h2, _⟩
  · rw [wasL_none h1]; exact ⟨by simp, fun x hx => by simp at hx⟩
  · rw [wasL_some h1 h2]
    have := List.mem_of_getElem? h2
    exact ⟨I.lines f this, (I.sz f this).2.2⟩
theorem TInv.one {t : List FileM} (I : TInv t) {e : EditM} (h : (oneE t e).2 = 0) : TInv (oneE t e).1 := by
  have hw := wasL_mem I e.name
  unfold oneE at h ⊢
  split
  · rename_i h1
    rw [if_pos h1] at h
    unfold oneK1 at h ⊢
    split
    · rename_i h2; rw [if_pos h2] at h; simp at h
    · exact I.del _
  · rename_i h1
    rw [if_neg h1] at h
    split
    · rename_i h2
      rw [if_pos h2] at h
      unfold oneK2 at h ⊢
      split
      · rename_i h3; rw [if_pos h3] at h; simp at h
      · rename_i h3
        rw [if_neg h3] at h
        split
        · rename_i h4; rw [if_pos h4] at h; simp at h
        · rename_i h4
          rw [if_neg h4] at h
          split
          · rename_i h5; rw [if_pos h5] at h; simp at h
          · exact I.ins (by simpa using h3) (by omega) (by omega)
    · rename_i h2
      rw [if_neg h2] at h
      split
      · rename_i h3
        rw [if_pos h3] at h
        unfold oneK3 at h ⊢
        split
        · rename_i h4; rw [if_pos h4] at h; simp at h
        · rename_i h4
          rw [if_neg h4] at h
          obtain ⟨k, f, e1, e2, e3⟩ := findT_lt h4
          split
          · rename_i h5; rw [if_pos h5] at h; simp at h
          · rw [e1, Int.toNat_natCast]
            refine I.set e2 ?_ fun x hx => ?_
            · simp only [List.length_append, List.length_take, List.length_drop]; omega
            · rcases List.mem_append.1 hx with hx | hx
              · exact hw.2 x (List.mem_of_mem_take hx)
              · exact hw.2 x (List.mem_of_mem_drop hx)
      · rename_i h3
        rw [if_neg h3] at h
        split
        · rename_i h4
          rw [if_pos h4] at h
          unfold oneK4 at h ⊢
          split
          · rename_i h5; rw [if_pos h5] at h; simp at h
          · rename_i h5
            rw [if_neg h5] at h
            obtain ⟨k, f, e1, e2, e3⟩ := findT_lt h5
            split
            · rename_i h6; rw [if_pos h6] at h; simp at h
            · rename_i h6
              rw [if_neg h6] at h
              split
              · rename_i h7; rw [if_pos h7] at h; simp at h
              · rename_i h7
                rw [if_neg h7] at h
                split
                · rename_i h8; rw [if_pos h8] at h; simp at h
                · rw [e1, Int.toNat_natCast]
                  refine I.set e2 ?_ fun x hx => ?_
                  · simp only [List.length_append, List.length_take, List.length_cons, List.length_drop]; omega
                  · rcases List.mem_append.1 hx with hx | hx
                    · exact hw.2 x (List.mem_of_mem_take hx)
                    · rcases List.mem_cons.1 hx with rfl | hx
                      · have := lineOk_size (by simpa using h7 : lineOk e.text = true)
                        unfold maxLen; omega
                      · exact hw.2 x (List.mem_of_mem_drop hx)
        · rename_i h4; rw [if_neg h4] at h; simp at h
attribute [irreducible] oneE applyE
end Go.Proofs.YtjbihmglpfdmnaaGreatDoor
