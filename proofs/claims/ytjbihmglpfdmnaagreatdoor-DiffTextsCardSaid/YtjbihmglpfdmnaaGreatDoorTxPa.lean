/- Plain words on edits as text: a text cut at a byte, an edit's line read back; printed and read it is the same. Plain words on edits as text: a line that was printed is read back. Plain words on edits as text: a small number read, a text parsed. -/
import Derived.Test.YtjbihmglpfdmnaaGreatDoorDiffWa
import Derived.Lib.Split
import Derived.Lib.AtoiAll
namespace Go.Proofs.YtjbihmglpfdmnaaGreatDoor
open Go Go.RowKit

/-- what stands between the bytes c -/
def splitC (c : UInt8) : List UInt8 → List (List UInt8)
  | [] => [[]]
  | b :: l => if b = c then [] :: splitC c l else match splitC c l with
    | [] => [[b]]
    | p :: r => (b :: p) :: r
theorem splitC_none {c : UInt8} : ∀ {l : List UInt8}, c ∉ l → splitC c l = [l]
  | [], _ => rfl
  | b :: l, h => by
    simp only [List.mem_cons, not_or] at h
    rw [splitC, if_neg (fun e => h.1 e.symm), splitC_none h.2]
theorem splitC_hit {c : UInt8} : ∀ {a l : List UInt8}, c ∉ a → splitC c (a ++ c :: l) = a :: splitC c l
  | [], l, _ => by simp [splitC]
  | b :: a, l, h => by
    simp only [List.mem_cons, not_or] at h
    rw [List.cons_append, splitC, if_neg (fun e => h.1 e.symm), splitC_hit h.2]
theorem splitC_ne (c : UInt8) : ∀ (l : List UInt8), splitC c l ≠ []
  | [] => by simp [splitC]
  | b :: l => by
    rw [splitC]
    split
    · simp
    · split <;> simp

theorem index_hit {c : UInt8} : ∀ {a l : List UInt8}, c ∉ a → Lib.index (a ++ c :: l) [c] = a.length
  | [], l, _ => by simp [Lib.index]
  | b :: a, l, h => by
    simp only [List.mem_cons, not_or] at h
    have ih := index_hit (l := l) h.2
    rw [List.cons_append, Lib.index, if_neg (by simp [h.1]), ih, if_neg (by simp), List.length_cons]
    omega
theorem index_miss {c : UInt8} : ∀ {a : List UInt8}, c ∉ a → Lib.index a [c] = -1
  | [], _ => by simp [Lib.index]
  | b :: a, h => by
    simp only [List.mem_cons, not_or] at h
    rw [Lib.index, if_neg (by simp [h.1]), index_miss h.2]; rfl
theorem splitK_hit {c : UInt8} {k : Nat} {a l : List UInt8} (h : c ∉ a) : Lib.splitK [c] 0 (k + 1) (a ++ c :: l) = a :: Lib.splitK [c] 0 k l := by
  rw [Lib.splitK, index_hit h, if_neg (by simp)]
  simp
theorem splitK_miss {c : UInt8} {k : Nat} {a : List UInt8} (h : c ∉ a) : Lib.splitK [c] 0 k a = [a] := by
  cases k with
  | zero => rfl
  | succ k => rw [Lib.splitK, index_miss h, if_pos (by rfl)]

/-- digits of a small number -/
def dg (m : Nat) : List UInt8 := if m < 10 then [UInt8.ofNat (48 + m)] else [UInt8.ofNat (48 + m / 10), UInt8.ofNat (48 + m % 10)]
theorem dg_eq {m : Nat} (h : m < 100) : Lib.decDigits m = dg m := by
  rw [Lib.decDigits, dg]
  split
  · rfl
  · rw [Lib.decDigits, dif_pos (by omega)]; rfl
theorem digB_list {m : Nat} (h : m < 100) : (digB m).data.toList = dg m := by
  rw [← dg_eq h]; unfold digB; rfl
theorem dg_atoi : ∀ m : Nat, m < 61 → Lib.atoiAll (dg m) = .ok (m : Int) := by decide +kernel
theorem dg_sp : ∀ m : Nat, m < 61 → (32 : UInt8) ∉ dg m := by decide +kernel
theorem dg_nl : ∀ m : Nat, m < 61 → (10 : UInt8) ∉ dg m := by decide +kernel
theorem dg_ne : ∀ m : Nat, m < 61 → dg m ≠ [] := by decide +kernel
/-- the number up to 60 that these are the digits of; 0: none -/
def valV (l : List UInt8) : Nat := ((List.range 61).find? (fun m => dg m == l)).getD 0
theorem dg_val : ∀ m : Nat, m < 61 → valV (dg m) = m := by decide +kernel
theorem valV_nil : valV [] = 0 := by decide +kernel
def atoiV (l : List UInt8) : Int := match Lib.atoiAll l with
  | .ok v => v
  | .range => Lib.atoiSat l
  | _ => 0

def lineLs (kd : Nat) (n : List UInt8) (m : Nat) (s : List UInt8) : List UInt8 :=
  if kd = 1 then 45 :: 32 :: n else if kd = 2 then 43 :: 32 :: n else if kd = 3 then 60 :: 32 :: (n ++ 32 :: dg m) else 62 :: 32 :: (n ++ 32 :: (dg m ++ 32 :: s))
theorem ba_app (a b : ByteArray) : (a ++ b).data.toList = a.data.toList ++ b.data.toList := by simp
theorem ba_ext {a b : ByteArray} (h : a.data.toList = b.data.toList) : a = b := by
  cases a; cases b; simp at h; rw [h]
theorem lineB_list {kd : Nat} {n s : ByteArray} {m : Nat} (hm : m < 100) : (lineB kd n m s).data.toList = lineLs kd n.data.toList m s.data.toList := by
  have e1 : ((⟨#[45, 43, 60, 62]⟩ : ByteArray).extract 0 1).data.toList = [45] := by decide
  have e2 : ((⟨#[45, 43, 60, 62]⟩ : ByteArray).extract 1 2).data.toList = [43] := by decide
  have e3 : ((⟨#[45, 43, 60, 62]⟩ : ByteArray).extract 2 3).data.toList = [60] := by decide
  have e4 : ((⟨#[45, 43, 60, 62]⟩ : ByteArray).extract 3 4).data.toList = [62] := by decide
  unfold lineB lineLs
  split
  · simp only [ba_app, e1]; simp
  · split
    · simp only [ba_app, e2]; simp
    · split
      · simp only [ba_app, e3, digB_list hm]; simp
      · simp only [ba_app, e4, digB_list hm]; simp
theorem lineP_good {e : EditM} (h : lineV e = true) : (lineP e).data.toList = lineLs e.kind e.name.data.toList e.at'.toNat e.text.data.toList := by
  unfold lineP
  rw [if_pos h]
  simp only [lineV, Bool.and_eq_true, decide_eq_true_eq] at h
  exact lineB_list (by omega)

def pieceD (s : ByteArray) (i : Nat) : ByteArray := ((Lib.splitB ⟨#[32]⟩ 0 (min 4 (s.size + 1) - 1) s)[i]?).getD ⟨#[]⟩
/-- what diff.read makes of a line, ahead of its test -/
def candD (s : ByteArray) : EditM := ⟨(Lib.index [45, 43, 60, 62] (pieceD s 0).data.toList + 1).toNat, pieceD s 1, atoiV (pieceD s 2).data.toList, pieceD s 3⟩
def kindR (l : List UInt8) : Nat := if l = [45] then 1 else if l = [43] then 2 else if l = [60] then 3 else if l = [62] then 4 else 0
def pieceR (s : ByteArray) (i : Nat) : List UInt8 := ((splitC 32 s.data.toList)[i]?).getD []
/-- what ref50.Read makes of a line, ahead of its test -/
def candR (s : ByteArray) : EditM := ⟨kindR (pieceR s 0), ⟨(pieceR s 1).toArray⟩, if 3 ≤ kindR (pieceR s 0) then (valV (pieceR s 2) : Int) else 0,
  if 3 < (splitC 32 s.data.toList).length ∧ kindR (pieceR s 0) = 4 then s.extract ((pieceR s 0).length + (pieceR s 1).length + (pieceR s 2).length + 3) s.size else ⟨#[]⟩⟩
/-- without what is not printed -/
def normE (e : EditM) : EditM := ⟨e.kind, e.name, if e.kind ≤ 2 then 0 else e.at', if e.kind ≤ 3 then ⟨#[]⟩ else e.text⟩
theorem norm_good {e : EditM} (h : lineV e = true) : lineV (normE e) = true := by
  have hl : lineOk ⟨#[]⟩ = true := by decide +kernel
  simp only [lineV, Bool.and_eq_true, decide_eq_true_eq] at h ⊢
  obtain ⟨h1, h2, h3, h4, h5, h6⟩ := h
  refine ⟨h1, ?_, ?_, ?_, h5, h6⟩
  · simp only [normE]; split <;> omega
  · simp only [normE]; split <;> omega
  · simp only [normE]
    split
    · exact hl
    · exact h4
theorem norm_line {e : EditM} (h : lineV e = true) : lineP (normE e) = lineP e := by
  apply ba_ext
  rw [lineP_good h, lineP_good (norm_good h)]
  simp only [lineV, Bool.and_eq_true, decide_eq_true_eq] at h
  obtain ⟨_, _, _, _, h5, h6⟩ := h
  simp only [normE, lineLs]
  by_cases h1 : e.kind = 1
  · simp [h1]
  · by_cases h2 : e.kind = 2
    · simp [h2]
    · by_cases h3 : e.kind = 3
      · simp [h3]
      · have h4 : e.kind = 4 := by omega
        simp [h4]
theorem letter_sp {n : ByteArray} (h : nameOk n = true) : (32 : UInt8) ∉ n.data.toList := by
  intro hm
  simp only [nameOk, Bool.and_eq_true] at h
  have := List.all_eq_true.1 h.1 _ hm
  exact absurd this (by decide)
end Go.Proofs.YtjbihmglpfdmnaaGreatDoor
namespace Go.Proofs.YtjbihmglpfdmnaaGreatDoor
open Go Go.RowKit

theorem lineV_parts {e : EditM} (h : lineV e = true) : nameOk e.name = true ∧ e.at'.toNat < 61 ∧ ((e.at'.toNat : Nat) : Int) = e.at' ∧ lineOk e.text = true ∧ 1 ≤ e.kind ∧ e.kind ≤ 4 := by
  simp only [lineV, Bool.and_eq_true, decide_eq_true_eq] at h
  obtain ⟨h1, h2, h3, h4, h5, h6⟩ := h
  exact ⟨h1, by omega, by omega, h4, h5, h6⟩
theorem candR_of {s : ByteArray} {P : List (List UInt8)} (h : splitC 32 s.data.toList = P) : candR s = ⟨kindR (P[0]?.getD []), ⟨(P[1]?.getD []).toArray⟩, if 3 ≤ kindR (P[0]?.getD []) then (valV (P[2]?.getD []) : Int) else 0,
  if 3 < P.length ∧ kindR (P[0]?.getD []) = 4 then s.extract ((P[0]?.getD []).length + (P[1]?.getD []).length + (P[2]?.getD []).length + 3) s.size else ⟨#[]⟩⟩ := by
  subst h; rfl
theorem arr_back (n : ByteArray) : (⟨n.data.toList.toArray⟩ : ByteArray) = n := by cases n; simp
theorem candR_back {e : EditM} (h : lineV e = true) : candR (lineP e) = normE e := by
  obtain ⟨hn, hm, hmi, hl, hk1, hk4⟩ := lineV_parts h
  have hg := lineP_good h
  have sp := letter_sp hn
  have ds := dg_sp _ hm
  have dv := dg_val _ hm
  obtain ⟨kd, n, a, t⟩ := e
  simp only at *
  unfold lineLs at hg
  by_cases h1 : kd = 1
  · subst h1
    rw [if_pos rfl] at hg
    rw [candR_of (P := [[45], n.data.toList]) (by rw [hg, show (45 : UInt8) :: 32 :: n.data.toList = [45] ++ 32 :: n.data.toList from rfl, splitC_hit (by decide), splitC_none sp])]
    simp [kindR, normE, arr_back]
  · by_cases h2 : kd = 2
    · subst h2
      rw [if_neg (by decide), if_pos rfl] at hg
      rw [candR_of (P := [[43], n.data.toList]) (by rw [hg, show (43 : UInt8) :: 32 :: n.data.toList = [43] ++ 32 :: n.data.toList from rfl, splitC_hit (by decide), splitC_none sp])]
      simp [kindR, normE, arr_back]
    · by_cases h3 : kd = 3
      · subst h3
        rw [if_neg (by decide), if_neg (by decide), if_pos rfl] at hg
        rw [candR_of (P := [[60], n.data.toList, dg a.toNat]) (by rw [hg, show (60 : UInt8) :: 32 :: (n.data.toList ++ 32 :: dg a.toNat) = [60] ++ 32 :: (n.data.toList ++ 32 :: dg a.toNat) from rfl, splitC_hit (by decide), splitC_hit sp, splitC_none ds])]
        simp [kindR, normE, arr_back, dv, hmi]
      · obtain rfl : kd = 4 := by omega
        rw [if_neg (by decide), if_neg (by decide), if_neg (by decide)] at hg
        have hP : splitC 32 (lineP ⟨4, n, a, t⟩).data.toList = [62] :: n.data.toList :: dg a.toNat :: splitC 32 t.data.toList := by
          rw [hg, show (62 : UInt8) :: 32 :: (n.data.toList ++ 32 :: (dg a.toNat ++ 32 :: t.data.toList)) = [62] ++ 32 :: (n.data.toList ++ 32 :: (dg a.toNat ++ 32 :: t.data.toList)) from rfl, splitC_hit (by decide), splitC_hit sp, splitC_hit ds]
        rw [candR_of hP]
        have hne := splitC_ne 32 t.data.toList
        have h3 : 0 < (splitC 32 t.data.toList).length := List.length_pos_iff.2 hne
        have hx : (lineP ⟨4, n, a, t⟩).extract (1 + n.data.toList.length + (dg a.toNat).length + 3) (lineP ⟨4, n, a, t⟩).size = t := by
          apply ba_ext
          rw [Lib.extract_to_end, hg]
          have : (62 : UInt8) :: 32 :: (n.data.toList ++ 32 :: (dg a.toNat ++ 32 :: t.data.toList)) = ([62, 32] ++ n.data.toList ++ [32] ++ dg a.toNat ++ [32]) ++ t.data.toList := by simp
          rw [this]
          exact List.drop_left' (by simp; omega)
        simp only [List.getElem?_cons_zero, List.getElem?_cons_succ, Option.getD_some, List.length_cons, List.length_nil, Nat.zero_add]
        rw [if_pos (by decide), if_pos ⟨by omega, by decide⟩, hx, dv]
        simp [kindR, normE, arr_back, hmi]

theorem pieceD_of {s : ByteArray} {P : List (List UInt8)} (hs : 3 ≤ s.size) (h : Lib.splitK [32] 0 3 s.data.toList = P) (i : Nat) : (pieceD s i).data.toList = (P[i]?).getD [] := by
  have hm : min 4 (s.size + 1) - 1 = 3 := by omega
  have hd := Lib.splitB_data ⟨#[32]⟩ 0 3 s
  rw [show (⟨#[32]⟩ : ByteArray).data.toList = [32] from rfl, h] at hd
  unfold pieceD
  rw [hm, ← hd, List.getElem?_map]
  cases (Lib.splitB ⟨#[32]⟩ 0 3 s)[i]? <;> rfl
theorem candD_of {s : ByteArray} {P : List (List UInt8)} (hs : 3 ≤ s.size) (h : Lib.splitK [32] 0 3 s.data.toList = P) :
    candD s = ⟨(Lib.index [45, 43, 60, 62] (P[0]?.getD []) + 1).toNat, ⟨(P[1]?.getD []).toArray⟩, atoiV (P[2]?.getD []), ⟨(P[3]?.getD []).toArray⟩⟩ := by
  have h0 := pieceD_of hs h 0
  have h1 := pieceD_of hs h 1
  have h2 := pieceD_of hs h 2
  have h3 := pieceD_of hs h 3
  unfold candD
  rw [h0, h2, ← h1, ← h3, arr_back, arr_back]
theorem name_pos {n : ByteArray} (h : nameOk n = true) : 1 ≤ n.data.toList.length := by
  simp only [nameOk, Bool.and_eq_true, decide_eq_true_eq] at h
  exact h.2.1
theorem atoiV_nil : atoiV [] = 0 := by decide +kernel
theorem atoiV_dg {m : Nat} (h : m < 61) : atoiV (dg m) = m := by unfold atoiV; rw [dg_atoi m h]
theorem candD_back {e : EditM} (h : lineV e = true) : candD (lineP e) = normE e := by
  obtain ⟨hn, hm, hmi, hl, hk1, hk4⟩ := lineV_parts h
  have hg := lineP_good h
  have sp := letter_sp hn
  have ds := dg_sp _ hm
  have da := atoiV_dg hm
  have np := name_pos hn
  have hsz : (lineP e).size = (lineP e).data.toList.length := Lib.size_eq _
  obtain ⟨kd, n, a, t⟩ := e
  simp only at *
  rw [hg] at hsz
  unfold lineLs at hg hsz
  by_cases h1 : kd = 1
  · subst h1
    rw [if_pos rfl] at hg hsz
    simp only [List.length_cons] at hsz
    rw [candD_of (P := [[45], n.data.toList]) (by omega) (by rw [hg, show (45 : UInt8) :: 32 :: n.data.toList = [45] ++ 32 :: n.data.toList from rfl, splitK_hit (by decide), splitK_miss sp])]
    have hi : (Lib.index [45, 43, 60, 62] [45] + 1).toNat = 1 := by decide
    simp [normE, arr_back, hi, atoiV_nil]
  · by_cases h2 : kd = 2
    · subst h2
      rw [if_neg (by decide), if_pos rfl] at hg hsz
      simp only [List.length_cons] at hsz
      rw [candD_of (P := [[43], n.data.toList]) (by omega) (by rw [hg, show (43 : UInt8) :: 32 :: n.data.toList = [43] ++ 32 :: n.data.toList from rfl, splitK_hit (by decide), splitK_miss sp])]
      have hi : (Lib.index [45, 43, 60, 62] [43] + 1).toNat = 2 := by decide
      simp [normE, arr_back, hi, atoiV_nil]
    · by_cases h3 : kd = 3
      · subst h3
        rw [if_neg (by decide), if_neg (by decide), if_pos rfl] at hg hsz
        simp only [List.length_cons, List.length_append] at hsz
        rw [candD_of (P := [[60], n.data.toList, dg a.toNat]) (by omega) (by rw [hg, show (60 : UInt8) :: 32 :: (n.data.toList ++ 32 :: dg a.toNat) = [60] ++ 32 :: (n.data.toList ++ 32 :: dg a.toNat) from rfl, splitK_hit (by decide), splitK_hit sp, splitK_miss ds])]
        have hi : (Lib.index [45, 43, 60, 62] [60] + 1).toNat = 3 := by decide
        simp [normE, arr_back, hi, da, hmi]
      · obtain rfl : kd = 4 := by omega
        rw [if_neg (by decide), if_neg (by decide), if_neg (by decide)] at hg hsz
        simp only [List.length_cons, List.length_append] at hsz
        rw [candD_of (P := [[62], n.data.toList, dg a.toNat, t.data.toList]) (by omega) (by rw [hg, show (62 : UInt8) :: 32 :: (n.data.toList ++ 32 :: (dg a.toNat ++ 32 :: t.data.toList)) = [62] ++ 32 :: (n.data.toList ++ 32 :: (dg a.toNat ++ 32 :: t.data.toList)) from rfl, splitK_hit (by decide), splitK_hit sp, splitK_hit ds]; rfl)]
        have hi : (Lib.index [45, 43, 60, 62] [62] + 1).toNat = 4 := by decide
        simp [normE, arr_back, hi, da, hmi]
/-- a line is read just if it is printed of what it is read as, whichever way it was taken apart -/
theorem lineV_of {c : EditM} {s : ByteArray} (h : lineP c = s) (h0 : ¬ s.size = 0) : lineV c = true := by
  cases hv : lineV c with
  | true => rfl
  | false => rw [lineP_bad hv] at h; subst h; exact absurd rfl h0
theorem cand_D {s : ByteArray} (h : lineP (candD s) = s) (h0 : ¬ s.size = 0) : candR s = candD s := by
  have hv := lineV_of h h0
  have h1 := candD_back hv
  have h2 := candR_back hv
  rw [h] at h1 h2
  rw [h2, ← h1]
theorem cand_R {s : ByteArray} (h : lineP (candR s) = s) (h0 : ¬ s.size = 0) : candD s = candR s := by
  have hv := lineV_of h h0
  have h1 := candD_back hv
  have h2 := candR_back hv
  rw [h] at h1 h2
  rw [h1, ← h2]
/-- the edit of a line -/
def readM (s : ByteArray) : Option EditM := if lineP (candR s) = s ∧ ¬ s.size = 0 then some (candR s) else none
theorem readM_D (s : ByteArray) : readM s = if lineP (candD s) = s ∧ ¬ s.size = 0 then some (candD s) else none := by
  unfold readM
  by_cases h0 : s.size = 0
  · rw [if_neg (fun h => h.2 h0), if_neg (fun h => h.2 h0)]
  · by_cases hd : lineP (candD s) = s
    · have e := cand_D hd h0
      rw [e, if_pos ⟨hd, h0⟩]
    · by_cases hr : lineP (candR s) = s
      · have e := cand_R hr h0
        rw [e] at hd; exact absurd hr hd
      · rw [if_neg (fun h => hr h.1), if_neg (fun h => hd h.1)]
end Go.Proofs.YtjbihmglpfdmnaaGreatDoor
namespace Go.Proofs.YtjbihmglpfdmnaaGreatDoor
open Go Go.RowKit

/-- what ref10.Value's loop makes of digits -/
def valLoop : Nat → List UInt8 → Option Nat
  | n, [] => some n
  | n, b :: l => if b.toNat < 48 ∨ 57 < b.toNat ∨ 60 < n then none else valLoop (n * 10 + (b.toNat - 48)) l
theorem valLoop_dg : ∀ m : Nat, m < 61 → valLoop 0 (dg m) = some m := by decide +kernel
theorem valV_no {l : List UInt8} (h : ∀ m, m < 61 → dg m ≠ l) : valV l = 0 := by
  unfold valV
  rw [List.find?_eq_none.2]
  · rfl
  · intro m hm he
    exact h m (List.mem_range.1 hm) (by simpa using he)
theorem valV_some {l : List UInt8} {n : Nat} (hn : n < 61) (h : dg n = l) : valV l = n := by subst h; exact dg_val n hn
/-- the three ways out of ref10.Value -/
theorem valV_none {l : List UInt8} (h : valLoop 0 l = none) : valV l = 0 := valV_no fun m hm he => by
  have := valLoop_dg m hm
  rw [he, h] at this; cases this
theorem valV_else {l : List UInt8} {n : Nat} (h : valLoop 0 l = some n) (hb : ¬ (n < 61 ∧ dg n = l)) : valV l = 0 := valV_no fun m hm he => by
  have := valLoop_dg m hm
  rw [he, h] at this
  obtain rfl : n = m := by simpa using this
  exact hb ⟨hm, he⟩

/-- a text's edits, out of its pieces; how many, or the place of what is wrong; the error -/
def parseP : List EditM → List (List UInt8) → List EditM × Nat × Nat
  | acc, [] => (acc, acc.length, 0)
  | acc, [p] => if p = [] then (acc, acc.length, 0) else ([], acc.length + 1, 2)
  | acc, p :: q :: r => match readM ⟨p.toArray⟩ with
    | none => ([], acc.length + 1, 4)
    | some e => parseP (acc ++ [e]) (q :: r)
def parseM (s : ByteArray) : List EditM × Nat × Nat := parseP [] (splitC 10 s.data.toList)
theorem parseP_end (acc : List EditM) : parseP acc [[]] = (acc, acc.length, 0) := by simp [parseP]
theorem parseP_short {acc : List EditM} {p : List UInt8} (h : p ≠ []) : parseP acc [p] = ([], acc.length + 1, 2) := by simp [parseP, h]
theorem parseP_bad {acc : List EditM} {p : List UInt8} {r : List (List UInt8)} (hr : r ≠ []) (h : readM ⟨p.toArray⟩ = none) : parseP acc (p :: r) = ([], acc.length + 1, 4) := by
  cases r with
  | nil => exact absurd rfl hr
  | cons q r => rw [parseP, h]
theorem parseP_go {acc : List EditM} {p : List UInt8} {r : List (List UInt8)} {e : EditM} (hr : r ≠ []) (h : readM ⟨p.toArray⟩ = some e) : parseP acc (p :: r) = parseP (acc ++ [e]) r := by
  cases r with
  | nil => exact absurd rfl hr
  | cons q r => rw [parseP, h]
theorem splitC_tl {c : UInt8} : ∀ (l : List UInt8), splitC c l = [l] ∨ ∃ a r, l = a ++ c :: r ∧ c ∉ a ∧ splitC c l = a :: splitC c r
  | [] => .inl rfl
  | b :: l => by
    by_cases h : b = c
    · subst h
      exact .inr ⟨[], l, rfl, by simp, by simp [splitC]⟩
    · rcases splitC_tl l (c := c) with h1 | ⟨a, r, h1, h2, h3⟩
      · refine .inl ?_
        rw [splitC, if_neg h, h1]
      · refine .inr ⟨b :: a, r, by rw [h1]; rfl, ?_, ?_⟩
        · simp only [List.mem_cons, not_or]
          exact ⟨fun e => h e.symm, h2⟩
        · rw [splitC, if_neg h, h3]
/-- what ref40.Cut has gathered: all pieces but the last, which begins at `at` -/
def piecesTo (c : UInt8) : List UInt8 → List (List UInt8) := fun l => (splitC c l).dropLast
theorem splitC_snoc_hit (c : UInt8) : ∀ l : List UInt8, splitC c (l ++ [c]) = splitC c l ++ [[]]
  | [] => by simp [splitC]
  | b :: l => by
    rw [List.cons_append, splitC, splitC]
    split
    · rw [splitC_snoc_hit c l]; rfl
    · rw [splitC_snoc_hit c l]
      cases hs : splitC c l with
      | nil => exact absurd hs (splitC_ne c l)
      | cons p r => rfl
theorem splitC_snoc_miss {c b : UInt8} (h : b ≠ c) : ∀ l : List UInt8, ∃ p r, splitC c l = r ++ [p] ∧ splitC c (l ++ [b]) = r ++ [p ++ [b]]
  | [] => ⟨[], [], rfl, by simp [splitC, h]⟩
  | d :: l => by
    obtain ⟨p, r, h1, h2⟩ := splitC_snoc_miss h l
    rw [List.cons_append, splitC, splitC]
    split
    · exact ⟨p, [] :: r, by rw [h1]; rfl, by rw [h2]; rfl⟩
    · rw [h1, h2]
      cases r with
      | nil => exact ⟨d :: p, [], rfl, rfl⟩
      | cons q r => exact ⟨p, (d :: q) :: r, rfl, rfl⟩
/-- a text up to i: its whole pieces, and the one that begins at a -/
def CutAt (c : UInt8) (l : List UInt8) (i a : Nat) (out : List (List UInt8)) : Prop := a ≤ i ∧ splitC c (l.take i) = out ++ [(l.take i).drop a]
theorem cutAt_zero (c : UInt8) (l : List UInt8) : CutAt c l 0 0 [] := ⟨Nat.le_refl _, by simp [splitC]⟩
theorem CutAt.hit {c : UInt8} {l : List UInt8} {i a : Nat} {out : List (List UInt8)} (h : CutAt c l i a out) (hg : l[i]? = some c) : CutAt c l (i + 1) (i + 1) (out ++ [(l.take i).drop a]) := by
  refine ⟨Nat.le_refl _, ?_⟩
  rw [take_succ_get hg, splitC_snoc_hit, h.2]
  congr 1
  have : (l.take i).length ≤ i := by simp; omega
  rw [List.drop_eq_nil_of_le (by simp; omega)]
theorem CutAt.miss {c b : UInt8} {l : List UInt8} {i a : Nat} {out : List (List UInt8)} (h : CutAt c l i a out) (hg : l[i]? = some b) (hn : b ≠ c) : CutAt c l (i + 1) a out := by
  refine ⟨by have := h.1; omega, ?_⟩
  obtain ⟨p, r, h1, h2⟩ := splitC_snoc_miss hn (l.take i)
  have hi : i < l.length := (List.getElem?_eq_some_iff.1 hg).1
  rw [take_succ_get hg, h2]
  have h3 := h.2
  rw [h1] at h3
  obtain ⟨e1, e2⟩ := List.append_inj' h3 rfl
  rw [e1]
  congr 1
  rw [List.drop_append_of_le_length (by rw [List.length_take]; have := h.1; omega)]
  simp at e2
  rw [e2]
theorem CutAt.done {c : UInt8} {l : List UInt8} {a : Nat} {out : List (List UInt8)} (h : CutAt c l l.length a out) : splitC c l = out ++ [l.drop a] := by
  have := h.2
  rwa [List.take_length] at this
attribute [irreducible] valLoop parseP
end Go.Proofs.YtjbihmglpfdmnaaGreatDoor
