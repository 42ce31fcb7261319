/- Contract of bruitref50.Read. Contract of bruitref50.Parse. -/
import Derived.Test.YtjbihmglpfdmnaaGreatDoorTxSa
namespace Go.Proofs.YtjbihmglpfdmnaaGreatDoor
open Go Go.RowKit

/-- the kind that is told by the first k signs -/
def kdTo (l : List UInt8) : Nat → Nat
  | 0 => 0
  | k + 1 => if l = [([45, 43, 60, 62] : List UInt8).getD k 0] then k + 1 else kdTo l k
theorem kdTo_four (l : List UInt8) : kdTo l 4 = kindR l := by
  have h1 : ¬ ([45] : List UInt8) = [43] := by decide
  have h2 : ¬ ([45] : List UInt8) = [60] := by decide
  have h3 : ¬ ([45] : List UInt8) = [62] := by decide
  have h4 : ¬ ([43] : List UInt8) = [60] := by decide
  have h5 : ¬ ([43] : List UInt8) = [62] := by decide
  have h6 : ¬ ([60] : List UInt8) = [62] := by decide
  unfold kindR
  simp only [kdTo, List.getD_cons_zero, List.getD_cons_succ, List.getD_nil]
  by_cases a : l = [45]
  · subst a; simp
  · by_cases b : l = [43]
    · subst b; simp
    · by_cases c : l = [60]
      · subst c; simp
      · by_cases d : l = [62]
        · subst d; simp
        · simp [a, b, c, d]
theorem kdTo_le (l : List UInt8) : ∀ k, kdTo l k ≤ k
  | 0 => Nat.le_refl _
  | k + 1 => by
    rw [kdTo]
    split
    · exact Nat.le_refl _
    · have := kdTo_le l k; omega
def sgn (k : Nat) : UInt8 := ([45, 43, 60, 62] : List UInt8).getD k 0
theorem kdTo_hit {l : List UInt8} {k : Nat} (h : l = [sgn k]) : kdTo l (k + 1) = k + 1 := by rw [kdTo]; exact if_pos h
theorem kdTo_miss {l : List UInt8} {k : Nat} (h : ¬ l = [sgn k]) : kdTo l (k + 1) = kdTo l k := by rw [kdTo]; exact if_neg h
theorem sgn_get {k : Nat} (h : k < (⟨#[45, 43, 60, 62]⟩ : ByteArray).size) : (⟨#[45, 43, 60, 62]⟩ : ByteArray)[k] = sgn k := by
  match k, h with
  | 0, _ => rfl
  | 1, _ => rfl
  | 2, _ => rfl
  | 3, _ => rfl
  | k + 4, h => exact absurd h (by simp [ByteArray.size])
theorem chB_sgn (b : UInt8) : chB (b.toNat : Int) = toB [b] := by
  unfold chB toB
  simp
theorem toB_inj {a b : List UInt8} (h : toB a = toB b) : a = b := by
  have : (toB a).data.toList = (toB b).data.toList := by rw [h]
  simpa [toB] using this
theorem toB_nil : toB [] = ⟨#[]⟩ := rfl
theorem toB_list (l : List UInt8) : (toB l).data.toList = l := by simp [toB]
theorem toB_size (l : List UInt8) : (toB l).size = l.length := rfl
theorem splitC_len (c : UInt8) : ∀ (l : List UInt8), ∀ p ∈ splitC c l, p.length ≤ l.length
  | [], p, hp => by simp [splitC] at hp; subst hp; simp
  | b :: l, p, hp => by
    rw [splitC] at hp
    have ih := splitC_len c l
    split at hp
    · rcases List.mem_cons.1 hp with rfl | hp
      · simp
      · have := ih p hp; simp; omega
    · split at hp
      · rename_i h; exact absurd h (splitC_ne c l)
      · rename_i q r h
        rw [h] at ih
        rcases List.mem_cons.1 hp with rfl | hp
        · have := ih q (by simp); simp; omega
        · have := ih p (by simp [hp]); simp; omega
theorem pieceR_len (s : ByteArray) (i : Nat) : (pieceR s i).length ≤ s.size := by
  unfold pieceR
  cases h : (splitC 32 s.data.toList)[i]? with
  | none => simp
  | some p =>
    have := splitC_len 32 s.data.toList p (List.mem_of_getElem? h)
    simpa using this
theorem splitC_sum {l : List UInt8} (h : 3 < (splitC 32 l).length) : ((splitC 32 l)[0]?.getD []).length + ((splitC 32 l)[1]?.getD []).length + ((splitC 32 l)[2]?.getD []).length + 3 ≤ l.length := by
  rcases splitC_tl (c := 32) l with h1 | ⟨a, r, h1, _, h3⟩
  · rw [h1] at h; simp at h
  · rw [h3] at h ⊢
    rcases splitC_tl (c := 32) r with h4 | ⟨a', r', h4, _, h6⟩
    · rw [h4] at h; simp at h
    · rw [h6] at h ⊢
      rcases splitC_tl (c := 32) r' with h7 | ⟨a2, r2, h7, _, h9⟩
      · rw [h7] at h; simp at h
      · rw [h9]
        subst h1; subst h4; subst h7
        simp
        omega
theorem piece_sum {s : ByteArray} (h : 3 < (splitC 32 s.data.toList).length) : (pieceR s 0).length + (pieceR s 1).length + (pieceR s 2).length + 3 ≤ s.size := by
  have := splitC_sum h
  simpa [pieceR] using this
theorem kdTo_zero (l : List UInt8) : kdTo l 0 = 0 := rfl
attribute [irreducible] sgn kdTo
attribute [local irreducible] toB
theorem conv_at {W : World} {g : Nat} (x : Int) (h : 0 ≤ x ∧ x < 256) (hc : W.cell? ⟨g, 0, none⟩ = some (.int .u8 x)) : (convert 57 9 (.slice (some ⟨g, 0, none⟩) 1 1)).run Tryz.prog W = .ok (.string (chB x)) W := by
  have := run_convert_bytes_arg (P := Tryz.prog) W 57 5 Tryz.underlying57 Tryz.underlying5 g 0 1 1 [x] rfl (fun i hi => by
    obtain rfl : i = 0 := by simp at hi; omega
    simpa using hc) 9 Tryz.underlying9
  rw [this]
  unfold chB
  simp [strOfNums]
theorem pieceR_none {s : ByteArray} {i : Nat} (h : (splitC 32 s.data.toList).length ≤ i) : pieceR s i = [] := by
  unfold pieceR
  rw [List.getElem?_eq_none h]; rfl
theorem cand_parts {s : ByteArray} {KD AT : Nat} {T : ByteArray} {bb cc : Bool} (h1 : kindR (pieceR s 0) = KD) (h2 : decide (2 < (splitC 32 s.data.toList).length ∧ 3 ≤ KD) = bb) (h3 : decide (3 < (splitC 32 s.data.toList).length ∧ KD = 4) = cc)
    (h4 : (if bb = true then valV (pieceR s 2) else 0) = AT) (h5 : (if cc = true then s.extract ((pieceR s 0).length + (pieceR s 1).length + (pieceR s 2).length + 3) s.size else ⟨#[]⟩) = T) : candR s = ⟨KD, toB (pieceR s 1), (AT : Int), T⟩ := by
  subst h2; subst h3; subst h4; subst h5; subst h1
  unfold candR toB
  simp only [decide_eq_true_eq, EditM.mk.injEq, true_and, and_true]
  by_cases h : 3 ≤ kindR (pieceR s 0)
  · by_cases h2 : 2 < (splitC 32 s.data.toList).length
    · rw [if_pos h, if_pos ⟨h2, h⟩]
    · rw [if_pos h, if_neg (fun e => h2 e.1), pieceR_none (by omega), valV_nil]
  · rw [if_neg h, if_neg (fun e => h e.2)]; rfl
theorem readM_badV {s : ByteArray} (h : lineV (candR s) = false) : readM s = none := by
  unfold readM
  rw [lineP_bad h]
  rw [if_neg]
  rintro ⟨h1, h2⟩
  exact h2 (by rw [← h1]; rfl)
theorem readM_yes {s : ByteArray} (h : lineV (candR s) = true) (hq : lineP (candR s) = s) : readM s = some (candR s) := by
  unfold readM
  rw [if_pos ⟨hq, by have := lineP_pos h; rwa [hq] at this⟩]
theorem readM_ne {s : ByteArray} (hq : ¬ lineP (candR s) = s) : readM s = none := by
  unfold readM
  rw [if_neg (fun h => hq h.1)]
def ZeroE : List Value := [.int .u8 0, .string ⟨#[]⟩, .int .i64 0, .string ⟨#[]⟩]
def ReadRes (w : World) (r : Option EditM) (e : Ending) (w' : World) : Prop :=
  (match r with | none => e = .returned (.tuple #[.agg #[.int .u8 0, .string ⟨#[]⟩, .int .i64 0, .string ⟨#[]⟩], .bool false]) | some x => e = .returned (.tuple #[.agg #[.int .u8 (x.kind : Int), .string x.name, .int .i64 x.at', .string x.text], .bool true])) ∧ Below w.heap.size w w'
theorem results_arr_tmp {P : Program} {w : World} {ty : TypeId} {size : Nat} (T : RowT P ty size) {fn : Func} {p q : Tmp} (h : fn.results = #[.cell p ty, .tmp q]) {tmps : Array Value} {g : Nat} {cs : List Value} (hA : Arr w g cs) (hp : tmps.getD p undef = .pointer (some ⟨g, 0, none⟩)) (hl : cs.length = size) {u : Value} (hq : tmps.getD q undef = u) :
    (results fn tmps).run P w = .ok (.tuple #[.agg cs.toArray, u]) w := by
  obtain ⟨d, i, h1, h2, h3, h4⟩ := T.out
  obtain ⟨e, hg⟩ := hA
  subst hq
  have hp' : tmps[p]?.getD undef = .pointer (some ⟨g, 0, none⟩) := by simpa using hp
  simp [results, h, hp', asAddr, run_loadVar_row w g e ty cs.toArray (0, 0) d hg h1 (by cases d <;> simp_all [isRowD]) (by rw [h3]; simp [h4, hl])]
theorem rowT_edit : RowT Tryz.prog 53 4 := rowT_of Tryz.underlying53 rfl (by kernel_rfl)
theorem readRes_no {w w' : World} {r : Option EditM} (h : r = none) (hb : Below w.heap.size w w') : ReadRes w r (.returned (.tuple #[.agg #[.int .u8 0, .string ⟨#[]⟩, .int .i64 0, .string ⟨#[]⟩], .bool false])) w' := by
  subst h; exact ⟨rfl, hb⟩
theorem readRes_yes {w w' : World} {r : Option EditM} {kd : Nat} {n t : ByteArray} {a : Int} (h : r = some ⟨kd, n, a, t⟩) (hb : Below w.heap.size w w') : ReadRes w r (.returned (.tuple #[.agg #[.int .u8 (kd : Int), .string n, .int .i64 a, .string t], .bool true])) w' := by
  subst h; exact ⟨rfl, hb⟩
def RdSt (w1 : World) (kd : Nat) (n : ByteArray) (m : Nat) (t : ByteArray) (wx : World) : Prop :=
  Below w1.heap.size w1 wx ∧ Arr wx w1.heap.size [.int .u8 (kd : Int), .string n, .int .i64 (m : Int), .string t]
theorem RdSt.kind {w1 wx : World} {kd m : Nat} {n t : ByteArray} (h : RdSt w1 kd n m t wx) (k : Nat) (o : Obj) : RdSt w1 k n m t ((wx.setCell ⟨w1.heap.size, 0, none⟩ (.int .u8 (k : Int))).alloc o).drew :=
  ⟨((h.1.setCell (p := ⟨w1.heap.size, 0, none⟩) (Nat.le_refl _) _).alloc (by simpa [World.setCell] using h.1.size) o).drew, ((h.2.set 0 _).alloc o).drew⟩
theorem RdSt.name {w1 wx : World} {kd m : Nat} {n t : ByteArray} (h : RdSt w1 kd n m t wx) (n' : ByteArray) : RdSt w1 kd n' m t (wx.setCell ⟨w1.heap.size, 1, none⟩ (.string n')) :=
  ⟨h.1.setCell (p := ⟨w1.heap.size, 1, none⟩) (Nat.le_refl _) _, h.2.set 1 _⟩
theorem RdSt.at {w1 wx : World} {kd m : Nat} {n t : ByteArray} (h : RdSt w1 kd n m t wx) (m' : Nat) : RdSt w1 kd n m' t (wx.setCell ⟨w1.heap.size, 2, none⟩ (.int .i64 (m' : Int))) :=
  ⟨h.1.setCell (p := ⟨w1.heap.size, 2, none⟩) (Nat.le_refl _) _, h.2.set 2 _⟩
theorem RdSt.text {w1 wx : World} {kd m : Nat} {n t : ByteArray} (h : RdSt w1 kd n m t wx) (t' : ByteArray) : RdSt w1 kd n m t' (wx.setCell ⟨w1.heap.size, 3, none⟩ (.string t')) :=
  ⟨h.1.setCell (p := ⟨w1.heap.size, 3, none⟩) (Nat.le_refl _) _, h.2.set 3 _⟩
theorem RdSt.textd {w1 wx : World} {kd m : Nat} {n t : ByteArray} (h : RdSt w1 kd n m t wx) (t' : ByteArray) : RdSt w1 kd n m t' (wx.setCell ⟨w1.heap.size, 3, none⟩ (.string t')).drew := ⟨(h.text t').1.drew, (h.text t').2.drew⟩
theorem RdSt.over {w1 wx wy : World} {kd m : Nat} {n t : ByteArray} (h : RdSt w1 kd n m t wx) (hb : Below wx.heap.size wx wy) : RdSt w1 kd n m t wy := ⟨below_over h.1 h.1.size hb, h.2.over hb⟩
theorem RdSt.stay {w1 wx : World} {kd m : Nat} {n t : ByteArray} (h : RdSt w1 kd n m t wx) (o : Obj) : RdSt w1 kd n m t (wx.alloc o).drew := ⟨(h.1.alloc h.1.size o).drew, (h.2.alloc o).drew⟩
def KdRel (w1 : World) (p : List UInt8) (v6 : Value) (wx : World) : Prop :=
  ∃ k : Nat, k ≤ 4 ∧ v6 = .int .i64 k ∧ Hid (RdSt w1 (kdTo p k) ⟨#[]⟩ 0 ⟨#[]⟩ wx)
theorem split_row {w : World} {v : Value} {P : List (List UInt8)} (h : SRow w v (P.map toB)) (hP : P ≠ []) : ∃ b off cap, v = .slice (some ⟨b, off, none⟩) P.length cap ∧ P.length ≤ cap ∧ cap ≤ maxLen ∧ b < w.heap.size ∧ ∀ j, j < P.length → w.cell? ⟨b, off + j, none⟩ = some (.string (toB ((P[j]?).getD []))) := by
  obtain ⟨a, cap, rfl, h1, h2, _, hc⟩ := h.form
  rw [List.length_map] at h1 hc ⊢
  obtain ⟨b, off, rfl, hb, hc⟩ := hc.resolve_left (by have := List.length_pos_iff.2 hP; omega)
  refine ⟨b, off, cap, rfl, h1, h2, hb, fun j hj => ?_⟩
  exact hc j _ (by rw [List.getElem?_map, List.getElem?_eq_getElem hj]; rfl)

set_option maxHeartbeats 10000000 in
set_option maxRecDepth 100000 in
theorem rread_any (s : ByteArray) (w : World) (hs : s.size ≤ 100000) :
    Calls Tryz.prog 18 #[.string s] w (ReadRes w (readM s)) := by
  have HB0 := Lib.hid (below_box (w := w) (.cells #[.int .u8 0, .string ⟨#[]⟩, .int .i64 0, .string ⟨#[]⟩] 53))
  go_enter Tryz.func18, Tryz.ntmps18
  go_wp2_with fail
  refine (cut_any s 32 _ hs).mono ?_
  rintro e w1 ⟨lv, rfl, hlv, hb1⟩
  obtain ⟨b, off, cap, rfl, h1, h2, hb, hc⟩ := split_row hlv (splitC_ne _ _)
  unfold maxLen at h2
  have hP1 := List.length_pos_iff.2 (splitC_ne 32 s.data.toList)
  have HC := Lib.hid hc
  have HB1 := Lib.hid hb1
  have HA1 := Lib.hid ((arr_new w #[.int .u8 0, .string ⟨#[]⟩, .int .i64 0, .string ⟨#[]⟩] 53).over hb1)
  have hRw : w.heap.size < w1.heap.size := by have := hb1.size; simp at this; omega
  have c0 := hc 0 hP1
  clear hlv hb1 hc
  go_wp2_with fail
  go_loopw [6] (fun v6 wx => KdRel w1 (pieceR s 0) v6 wx) (fun v6 _ => 4 - (intOf v6).toNat)
  case atStart => exact ⟨0, by omega, rfl, below_box _, (by rw [kdTo_zero]; exact arr_new _ _ _)⟩
  case round =>
    obtain ⟨k, hk, rfl, HR⟩ := hrel
    by_cases hlt : k < 4
    · have hbx := HR.out.1
      have ar := HR.out.2
      have a0 := ar.cell (j := 0) rfl
      have a1 := ar.cell (j := 1) rfl
      have a2 := ar.cell (j := 2) rfl
      have a3 := ar.cell (j := 3) rfl
      have f0 := ar.free 0
      have sx := ar.lt
      have d0 : wr.cell? ⟨b, off, none⟩ = some (.string (toB (pieceR s 0))) := (hbx.cell (p := ⟨b, off, none⟩) hb).trans c0
      have sb : b < wr.heap.size := Nat.lt_of_lt_of_le hb hbx.size
      clear ar hbx
      have hk4 : k < (⟨#[45, 43, 60, 62]⟩ : ByteArray).size := hlt
      have hcv : (convert 57 9 (.slice (some ⟨wr.heap.size, 0, none⟩) 1 1)).run Tryz.prog (wr.alloc (.cells #[.int .u8 ((⟨#[45, 43, 60, 62]⟩ : ByteArray)[k].toNat : Int)] 5)).drew = .ok (.string (toB [sgn k])) (wr.alloc (.cells #[.int .u8 ((⟨#[45, 43, 60, 62]⟩ : ByteArray)[k].toNat : Int)] 5)).drew := by
        rw [conv_at ((⟨#[45, 43, 60, 62]⟩ : ByteArray)[k].toNat : Int) (by have := (⟨#[45, 43, 60, 62]⟩ : ByteArray)[k].toNat_lt; omega) (by simp), chB_sgn, sgn_get]
      by_cases hp : pieceR s 0 = [sgn k]
      · have HN : Hid (kdTo (pieceR s 0) (k + 1) = k + 1) := kdTo_hit hp
        have hq : ((toB (pieceR s 0)).toList == (toB [sgn k]).toList) = true := seq_t (congrArg toB hp)
        clear hp
        go_wp2_with fail
        refine wp_region_lex (C := IsOver wr) 8 [6] (by kernel_rfl) (by kernel_rfl) (isOver_of (by repeat (first | exact Below.refl _ _ | apply Below.drew | apply below_drewN | (refine Below.alloc ?_ (by simp) _)))) ?_
        simp only [List.take_succ_cons, List.take_zero, List.drop_succ_cons, List.drop_zero]
        repeat (first | (refine lex_skip rfl rfl ?_; simp only [Act.put, List.setIfInBounds_toArray, List.set_cons_succ, List.set_cons_zero]) | (refine lex_one rfl ?_; go_big_quiet_step (fail); refine wpQuiet_nil ?_) | (refine lex_loud rfl ?_; go_wp2_with fail; refine ⟨(isOver_of (by repeat (first | exact Below.refl _ _ | apply Below.drew | apply below_drewN | (refine Below.alloc ?_ (by simp) _)))), ?_⟩))
        refine lex_end ?_
        go_wp2_with fail
        go_roundw
        case rel => exact ⟨k + 1, by omega, by go_num, (by show RdSt _ _ _ _ _ _; rw [HN.out]; exact HR.out.kind (k + 1) _)⟩
        case measure => simp [intOf]; omega
      · have HN : Hid (kdTo (pieceR s 0) (k + 1) = kdTo (pieceR s 0) k) := kdTo_miss hp
        have hq : ((toB (pieceR s 0)).toList == (toB [sgn k]).toList) = false := seq_f (fun e => hp (toB_inj e))
        clear hp
        go_wp2_with fail
        refine wp_region_lex (C := IsOver wr) 8 [6] (by kernel_rfl) (by kernel_rfl) (isOver_of (by repeat (first | exact Below.refl _ _ | apply Below.drew | apply below_drewN | (refine Below.alloc ?_ (by simp) _)))) ?_
        simp only [List.take_succ_cons, List.take_zero, List.drop_succ_cons, List.drop_zero]
        repeat (first | (refine lex_skip rfl rfl ?_; simp only [Act.put, List.setIfInBounds_toArray, List.set_cons_succ, List.set_cons_zero]) | (refine lex_one rfl ?_; go_big_quiet_step (fail); refine wpQuiet_nil ?_) | (refine lex_loud rfl ?_; go_wp2_with fail; refine ⟨(isOver_of (by repeat (first | exact Below.refl _ _ | apply Below.drew | apply below_drewN | (refine Below.alloc ?_ (by simp) _)))), ?_⟩))
        refine lex_end ?_
        go_wp2_with fail
        go_roundw
        case rel => exact ⟨k + 1, by omega, by go_num, (by show RdSt _ _ _ _ _ _; rw [HN.out]; exact HR.out.stay _)⟩
        case measure => simp [intOf]; omega
    · obtain rfl : k = 4 := by omega
      rw [kdTo_four] at HR
      have hkd : kindR (pieceR s 0) ≤ 4 := by rw [← kdTo_four]; exact kdTo_le _ _
      generalize hKD : kindR (pieceR s 0) = KD at *
      have HKD := Lib.hid hKD
      clear hKD c0
      go_upto_if 31 with (fail)
      go_cut [] (fun wx => Hid (RdSt w1 KD (toB (pieceR s 1)) 0 ⟨#[]⟩ wx))
      case first =>
        by_cases hl : 1 < (splitC 32 s.data.toList).length
        · have hd : decide ((1 : Int) < ((splitC 32 s.data.toList).length : Int)) = true := by simp; omega
          have d1 : wr.cell? ⟨b, off + 1, none⟩ = some (.string (toB (pieceR s 1))) := (HR.out.1.cell (p := ⟨b, off + 1, none⟩) hb).trans (HC.out 1 hl)
          have f1 := HR.out.2.free 1
          have a1 := HR.out.2.cell (j := 1) rfl
          have sx := HR.out.2.lt
          have sb : b < wr.heap.size := Nat.lt_of_lt_of_le hb HR.out.1.size
          go_wp2_with fail
          go_meet
          exact HR.out.name _
        · have hd : decide ((1 : Int) < ((splitC 32 s.data.toList).length : Int)) = false := by simp; omega
          have HN : Hid (pieceR s 1 = []) := pieceR_none (by omega)
          go_wp2_with fail
          go_meet
          show RdSt _ _ _ _ _ _
          rw [HN.out, toB_nil]
          exact HR.out
      case rest =>
        have HR1 := hcut
        clear hcut HR
        generalize hbb : decide (2 < (splitC 32 s.data.toList).length ∧ 3 ≤ KD) = bb
        have HBB := Lib.hid hbb
        clear hbb
        go_upto_region 10 with (fail)
        go_cut [43] (fun s43 wx => s43 = .bool bb ∧ Hid (RdSt w1 KD (toB (pieceR s 1)) 0 ⟨#[]⟩ wx))
        case first =>
          have a0 := HR1.out.2.cell (j := 0) rfl
          have sx := HR1.out.2.lt
          by_cases hl : 2 < (splitC 32 s.data.toList).length
          · have hd : decide ((2 : Int) < ((splitC 32 s.data.toList).length : Int)) = true := by simp; omega
            by_cases h3 : 3 ≤ KD
            · have hd3 : decide ((3 : Int) ≤ (KD : Int)) = true := by simp; omega
              have HB : Hid (bb = true) := HBB.out.symm.trans (decide_eq_true ⟨hl, h3⟩)
              go_wp2_with fail
              go_meet
              exact ⟨by rw [HB.out], HR1⟩
            · have hd3 : decide ((3 : Int) ≤ (KD : Int)) = false := by simp; omega
              have HB : Hid (bb = false) := HBB.out.symm.trans (decide_eq_false (fun h => h3 h.2))
              go_wp2_with fail
              go_meet
              exact ⟨by rw [HB.out], HR1⟩
          · have hd : decide ((2 : Int) < ((splitC 32 s.data.toList).length : Int)) = false := by simp; omega
            have HB : Hid (bb = false) := HBB.out.symm.trans (decide_eq_false (fun h => hl h.1))
            go_wp2_with fail
            go_meet
            exact ⟨by rw [HB.out], HR1⟩
        case rest =>
          obtain ⟨rfl, HR2⟩ := hcut
          clear HR1
          generalize hat : (if bb = true then valV (pieceR s 2) else 0) = AT
          have HAT := Lib.hid hat
          clear hat
          go_upto_if 43 with (fail)
          go_cut [] (fun wx => Hid (RdSt w1 KD (toB (pieceR s 1)) AT ⟨#[]⟩ wx))
          case first =>
            cases bb with
            | true =>
              have HL : Hid (2 < (splitC 32 s.data.toList).length) := (of_decide_eq_true HBB.out).1
              have HA : Hid (valV (toB (pieceR s 2)).data.toList = AT) := by show _ = _; rw [toB_list, ← HAT.out]; rfl
              have d2 : wc.cell? ⟨b, off + 2, none⟩ = some (.string (toB (pieceR s 2))) := (HR2.out.1.cell (p := ⟨b, off + 2, none⟩) hb).trans (HC.out 2 HL.out)
              have sb : b < wc.heap.size := Nat.lt_of_lt_of_le hb HR2.out.1.size
              have hl2 := HL.out
              have hz2 : (toB (pieceR s 2)).size ≤ maxLen := by rw [toB_size]; have := pieceR_len s 2; unfold maxLen; omega
              go_wp2_with fail
              refine (value_any (toB (pieceR s 2)) _ hz2).mono ?_
              rintro e w3 ⟨bv, rfl, hb3⟩
              rw [HA.out]
              have HR3 := Lib.hid (HR2.out.over hb3)
              have a2 := HR3.out.2.cell (j := 2) rfl
              have f2 := HR3.out.2.free 2
              have sx := HR3.out.2.lt
              clear hb3 d2 sb hl2 hz2
              go_wp2_with fail
              go_meet
              exact HR3.out.at AT
            | false =>
              have HA : Hid (AT = 0) := HAT.out.symm
              go_wp2_with fail
              go_meet
              show RdSt _ _ _ _ _ _
              rw [HA.out]
              exact HR2.out
          case rest =>
            have HR3 := hcut
            clear hcut HR2
            generalize hcc : decide (3 < (splitC 32 s.data.toList).length ∧ KD = 4) = cc
            have HCC := Lib.hid hcc
            clear hcc
            go_upto_region 12 with (fail)
            go_cut [59] (fun s59 wx => s59 = .bool cc ∧ Hid (RdSt w1 KD (toB (pieceR s 1)) AT ⟨#[]⟩ wx))
            case first =>
              have a0 := HR3.out.2.cell (j := 0) rfl
              have sx := HR3.out.2.lt
              by_cases hl : 3 < (splitC 32 s.data.toList).length
              · have hd : decide ((3 : Int) < ((splitC 32 s.data.toList).length : Int)) = true := by simp; omega
                by_cases h3 : KD = 4
                · have hd3 : ((KD : Int) == 4) = true := by simp; omega
                  have HB : Hid (cc = true) := HCC.out.symm.trans (decide_eq_true ⟨hl, h3⟩)
                  clear h3
                  go_wp2_with fail
                  go_meet
                  exact ⟨by rw [HB.out], HR3⟩
                · have hd3 : ((KD : Int) == 4) = false := by simp; omega
                  have HB : Hid (cc = false) := HCC.out.symm.trans (decide_eq_false (fun h => h3 h.2))
                  clear h3
                  go_wp2_with fail
                  go_meet
                  exact ⟨by rw [HB.out], HR3⟩
              · have hd : decide ((3 : Int) < ((splitC 32 s.data.toList).length : Int)) = false := by simp; omega
                have HB : Hid (cc = false) := HCC.out.symm.trans (decide_eq_false (fun h => hl h.1))
                go_wp2_with fail
                go_meet
                exact ⟨by rw [HB.out], HR3⟩
            case rest =>
              obtain ⟨rfl, HR4⟩ := hcut
              clear HR3
              generalize htt : (if cc = true then s.extract ((pieceR s 0).length + (pieceR s 1).length + (pieceR s 2).length + 3) s.size else ⟨#[]⟩) = T
              have HTT := Lib.hid htt
              clear htt
              go_upto_if 59 with (fail)
              go_cut [] (fun wx => Hid (RdSt w1 KD (toB (pieceR s 1)) AT T wx))
              case first =>
                cases cc with
                | true =>
                  have HL : Hid (3 < (splitC 32 s.data.toList).length) := (of_decide_eq_true HCC.out).1
                  have HS : Hid (s.extract ((pieceR s 0).length + (pieceR s 1).length + (pieceR s 2).length + 3) s.size = T) := HTT.out
                  have hl3 := HL.out
                  have hsum := piece_sum hl3
                  have d0 : wc.cell? ⟨b, off, none⟩ = some (.string (toB (pieceR s 0))) := (HR4.out.1.cell (p := ⟨b, off, none⟩) hb).trans (HC.out 0 hP1)
                  have d1 : wc.cell? ⟨b, off + 1, none⟩ = some (.string (toB (pieceR s 1))) := (HR4.out.1.cell (p := ⟨b, off + 1, none⟩) hb).trans (HC.out 1 (by omega))
                  have d2 : wc.cell? ⟨b, off + 2, none⟩ = some (.string (toB (pieceR s 2))) := (HR4.out.1.cell (p := ⟨b, off + 2, none⟩) hb).trans (HC.out 2 (by omega))
                  have sb : b < wc.heap.size := Nat.lt_of_lt_of_le hb HR4.out.1.size
                  have z0 := toB_size (pieceR s 0)
                  have z1 := toB_size (pieceR s 1)
                  have z2 := toB_size (pieceR s 2)
                  go_wp2_with fail
                  refine wp_region_lex (C := IsOver wc) 16 [] (by kernel_rfl) (by kernel_rfl) (isOver_of (by repeat (first | exact Below.refl _ _ | apply Below.drew | apply below_drewN | (refine Below.alloc ?_ (by simp) _)))) ?_
                  simp only [List.take_succ_cons, List.take_zero, List.drop_succ_cons, List.drop_zero]
                  repeat (first | (refine lex_skip rfl rfl ?_; simp only [Act.put, List.setIfInBounds_toArray, List.set_cons_succ, List.set_cons_zero]) | (refine lex_one rfl ?_; go_big_quiet_step (fail); refine wpQuiet_nil ?_))
                  refine lex_end ?_
                  have a3 := HR4.out.2.cell (j := 3) rfl
                  have f3 := HR4.out.2.free 3
                  have sx := HR4.out.2.lt
                  go_wp2_with fail
                  go_meet
                  show RdSt _ _ _ _ _ _
                  rw [← HS.out]
                  exact HR4.out.textd _
                | false =>
                  have HA : Hid (T = ⟨#[]⟩) := HTT.out.symm
                  go_wp2_with fail
                  go_meet
                  show RdSt _ _ _ _ _ _
                  rw [HA.out]
                  exact HR4.out
              case rest =>
                have HR5 := hcut
                clear hcut HR4
                have HX : Hid (candR s = ⟨KD, toB (pieceR s 1), (AT : Int), T⟩) := cand_parts HKD.out HBB.out HCC.out HAT.out HTT.out
                have hz1 : (toB (pieceR s 1)).size ≤ maxLen := by rw [toB_size]; have := pieceR_len s 1; unfold maxLen; omega
                have hzT : T.size ≤ maxLen := by
                  have : T.size ≤ s.size := by
                    rw [← HTT.out]
                    split
                    · rw [ByteArray.size_extract]; omega
                    · exact Nat.zero_le _
                  unfold maxLen; omega
                have HZ := Lib.hid (And.intro hz1 hzT)
                clear hz1 hzT
                have a0 := HR5.out.2.cell (j := 0) rfl
                have a1 := HR5.out.2.cell (j := 1) rfl
                have a2 := HR5.out.2.cell (j := 2) rfl
                have a3 := HR5.out.2.cell (j := 3) rfl
                have sx := HR5.out.2.lt
                go_wp2_with fail
                refine (rline50_any ⟨KD, toB (pieceR s 1), (AT : Int), T⟩ _ HZ.out.1 HZ.out.2).mono ?_
                rintro e w5 ⟨rfl, hb5⟩
                have HR6 := Lib.hid (HR5.out.over hb5)
                have b0 := HR6.out.2.cell (j := 0) rfl
                have b1 := HR6.out.2.cell (j := 1) rfl
                have b2 := HR6.out.2.cell (j := 2) rfl
                have b3 := HR6.out.2.cell (j := 3) rfl
                have sx6 := HR6.out.2.lt
                clear a0 a1 a2 a3 sx hb5
                have HAr := Lib.hid (HA1.out.below HR6.out.1 hRw)
                have r0 := HAr.out.cell (j := 0) rfl
                have r1 := HAr.out.cell (j := 1) rfl
                have r2 := HAr.out.cell (j := 2) rfl
                have r3 := HAr.out.cell (j := 3) rfl
                have g0 := HAr.out.free 0
                have g1 := HAr.out.free 1
                have g2 := HAr.out.free 2
                have g3 := HAr.out.free 3
                have sr := HAr.out.lt
                have HBl := Lib.hid (below_over (below_over HB0.out HB0.out.size HB1.out) (by have := HB0.out.size; have := HB1.out.size; omega) HR6.out.1)
                clear hkd
                rw [← HX.out]
                cases hv : lineV (candR s) with
                | false =>
                  have HN := Lib.hid (readM_badV hv)
                  have HE : Hid (lineP (candR s) = ⟨#[]⟩) := lineP_bad hv
                  clear hv
                  go_wp2_with fail
                  exact bodyPost_ret (v := .tuple #[.agg #[.int .u8 0, .string ⟨#[]⟩, .int .i64 0, .string ⟨#[]⟩], .bool false]) (results_arr_tmp rowT_edit rfl (cs := [.int .u8 0, .string ⟨#[]⟩, .int .i64 0, .string ⟨#[]⟩]) ((((HAr.out.set 0 _).set 1 _).set 2 _).set 3 _) rfl rfl rfl) rfl (readRes_no HN.out ((((HBl.out.setCell (Nat.le_refl _) _).setCell (Nat.le_refl _) _).setCell (Nat.le_refl _) _).setCell (Nat.le_refl _) _))
                | true =>
                  by_cases hq : lineP (candR s) = s
                  · have HN := Lib.hid (readM_yes hv hq)
                    have he : ((lineP (candR s)).toList == s.toList) = true := seq_t hq
                    clear hv hq
                    go_wp2_with fail
                    exact bodyPost_ret (v := .tuple #[.agg #[.int .u8 (KD : Int), .string (toB (pieceR s 1)), .int .i64 (AT : Int), .string T], .bool true]) (results_arr_tmp rowT_edit rfl (cs := [.int .u8 (KD : Int), .string (toB (pieceR s 1)), .int .i64 (AT : Int), .string T]) ((((HAr.out.set 0 _).set 1 _).set 2 _).set 3 _) rfl rfl rfl) rfl (readRes_yes (HN.out.trans (congrArg some HX.out)) ((((HBl.out.setCell (Nat.le_refl _) _).setCell (Nat.le_refl _) _).setCell (Nat.le_refl _) _).setCell (Nat.le_refl _) _))
                  · have HN := Lib.hid (readM_ne hq)
                    have he : ((lineP (candR s)).toList == s.toList) = false := seq_f hq
                    clear hv hq
                    go_wp2_with fail
                    exact bodyPost_ret (v := .tuple #[.agg #[.int .u8 0, .string ⟨#[]⟩, .int .i64 0, .string ⟨#[]⟩], .bool false]) (results_arr_tmp rowT_edit rfl (cs := [.int .u8 0, .string ⟨#[]⟩, .int .i64 0, .string ⟨#[]⟩]) ((((HAr.out.set 0 _).set 1 _).set 2 _).set 3 _) rfl rfl rfl) rfl (readRes_no HN.out ((((HBl.out.setCell (Nat.le_refl _) _).setCell (Nat.le_refl _) _).setCell (Nat.le_refl _) _).setCell (Nat.le_refl _) _))
end Go.Proofs.YtjbihmglpfdmnaaGreatDoor
namespace Go.Proofs.YtjbihmglpfdmnaaGreatDoor
open Go Go.RowKit

theorem splitC_count (c : UInt8) : ∀ l : List UInt8, (splitC c l).length ≤ l.length + 1
  | [] => by simp [splitC]
  | b :: l => by
    have ih := splitC_count c l
    rw [splitC]
    split
    · simp; omega
    · split
      · simp
      · rename_i h; rw [h] at ih; simp at ih ⊢; omega
def ParseRes (w : World) (r : List EditM × Nat × Nat) (e : Ending) (w' : World) : Prop :=
  ∃ v, e = .returned (.tuple #[v, .int .i64 (r.2.1 : Int), .int .i64 (r.2.2 : Int)]) ∧ ERow w' v r.1 ∧ Below w.heap.size w w'
theorem parseRes_of {w w' : World} {r : List EditM × Nat × Nat} {es : List EditM} {k n : Nat} {v : Value} (h : r = (es, k, n)) (hv : ERow w' v es) (hb : Below w.heap.size w w') {K N : Int} (hK : K = k) (hN : N = n) : ParseRes w r (.returned (.tuple #[v, .int .i64 K, .int .i64 N])) w' := by
  subst h; subst hK; subst hN; exact ⟨_, rfl, hv, hb⟩
theorem erow_nil (w : World) : ERow w (.slice none 0 0) [] := row_nil w 4
def RPRel (w1 : World) (P : List (List UInt8)) (v6 v7 : Value) (wr : World) : Prop :=
  ∃ (i : Nat) (es : List EditM), i < P.length ∧ es.length = i ∧ v7 = .int .i64 i ∧ Hid (EOwn wr w1.heap.size 53 v6 es) ∧ Hid (parseP es (P.drop i) = parseP [] P) ∧ Below w1.heap.size w1 wr

set_option maxHeartbeats 10000000 in
set_option maxRecDepth 100000 in
theorem rparse_any (s : ByteArray) (w : World) (hs : s.size ≤ 100000) :
    Calls Tryz.prog 7 #[.string s] w (ParseRes w (parseM s)) := by
  have HM : Hid (parseM s = parseP [] (splitC 10 s.data.toList)) := rfl
  have hcount := splitC_count 10 s.data.toList
  rw [show s.data.toList.length = s.size from by simp] at hcount
  go_enter Tryz.func7, Tryz.ntmps7
  go_wp2_with fail
  refine (cut_any s 10 _ hs).mono ?_
  rintro e w1 ⟨lv, rfl, hlv, hb1⟩
  have hpl := fun i => splitC_len 10 s.data.toList i
  have hP1 := List.length_pos_iff.2 (splitC_ne 10 s.data.toList)
  generalize hP : splitC 10 s.data.toList = P at *
  obtain ⟨b, off, cap, rfl, h1, h2, hb, hc⟩ := split_row hlv (List.length_pos_iff.1 hP1)
  unfold maxLen at h2
  have HC := Lib.hid hc
  have HB1 := Lib.hid hb1
  have HPl := Lib.hid hpl
  have HP := Lib.hid hP
  clear hlv hb1 hc hpl hP
  go_wp2_with fail
  go_loopw [6, 7] (fun v6 v7 wr => RPRel w1 P v6 v7 wr) (fun _ v7 _ => P.length - (intOf v7).toNat)
  case atStart => exact ⟨0, [], hP1, rfl, rfl, World.ownsRow_nil _ _ _ _, rfl, Below.refl _ _⟩
  case round =>
    obtain ⟨i, es, hi, rfl, rfl, HO, HL, hbl⟩ := hrel
    obtain ⟨oa, oc, rfl, ho1, ho2, _, _⟩ := HO.out.row.form
    obtain ⟨p, hp⟩ := get_of_lt hi
    have HD : Hid (parseP es (p :: P.drop (es.length + 1)) = parseP [] P) := by show _ = _; rw [← drop_get hp]; exact HL.out
    have c0 : wr.cell? ⟨b, off + es.length, none⟩ = some (.string (toB p)) := by
      rw [hbl.cell (p := ⟨b, off + es.length, none⟩) hb, HC.out es.length hi, hp]; rfl
    have sb : b < wr.heap.size := Nat.lt_of_lt_of_le hb hbl.size
    have HG := Lib.hid hp
    clear hp
    by_cases hl : es.length + 1 = P.length
    · have HN : Hid (P.drop (es.length + 1) = []) := List.drop_of_length_le (by omega)
      have e1 : ((es.length : Int) == (P.length : Int) - 1) = true := by simp; omega
      clear hl
      by_cases h0 : p = []
      · have hem : (toB p).toList = [] := empty_tl (by rw [toB_size, h0]; rfl)
        have HR : Hid (parseP [] P = (es, es.length, 0)) := by
          show _ = _
          rw [← HD.out, HN.out, h0, parseP_end]
        clear h0
        go_wp2_with fail
        go_ret3
        exact parseRes_of (HM.out.trans HR.out) HO.out.row (below_over HB1.out HB1.out.size hbl) rfl rfl
      · have HR : Hid (parseP [] P = ([], es.length + 1, 2)) := by
          show _ = _
          rw [← HD.out, HN.out, parseP_short h0]
        have hem := nonempty_tl (s := toB p) (by rw [toB_size]; exact List.length_pos_iff.2 h0)
        have hem1 := hem.1
        have hem2 := hem.2
        clear h0 hem
        go_wp2_with fail
        go_ret3
        exact parseRes_of (HM.out.trans HR.out) (erow_nil _) (below_over HB1.out HB1.out.size hbl) (by go_num) rfl
    · have HN : Hid (P.drop (es.length + 1) ≠ []) := by
        show _ ≠ _
        intro h
        have := congrArg List.length h
        simp at this; omega
      have e1 : ((es.length : Int) == (P.length : Int) - 1) = false := by simp; omega
      have hzp : (toB p).size ≤ 100000 := by
        rw [toB_size]
        have := HPl.out p (List.mem_of_getElem? HG.out)
        rw [show s.data.toList.length = s.size from by simp] at this; omega
      cases hr : readM (toB p) with
      | none =>
        have HR : Hid (parseP [] P = ([], es.length + 1, 4)) := by
          show _ = _
          rw [← HD.out, parseP_bad HN.out hr]
        have HRd := Lib.hid hr
        clear hr
        go_wp2_with fail
        refine (rread_any (toB p) _ hzp).mono ?_
        rw [HRd.out]
        rintro e w3 ⟨rfl, hb3⟩
        have HB3 := Lib.hid (below_over hbl hbl.size hb3)
        clear hb3
        go_wp2_with fail
        go_ret3
        exact parseRes_of (HM.out.trans HR.out) (erow_nil _) (below_over HB1.out HB1.out.size (HB3.out.alloc HB3.out.size _)) (by go_num) rfl
      | some x =>
        have HR : Hid (parseP (es ++ [x]) (P.drop (es.length + 1)) = parseP [] P) := by
          show _ = _
          rw [← HD.out, parseP_go HN.out hr]
        have HRd := Lib.hid hr
        clear hr
        go_wp2_with fail
        refine (rread_any (toB p) _ hzp).mono ?_
        rw [HRd.out]
        rintro e w3 ⟨rfl, hb3⟩
        have HB3 := Lib.hid (below_over hbl hbl.size hb3)
        have HO3 := Lib.hid (own_over HO.out hb3)
        have hN : es.length + 1 ≤ 1099511627776 := by omega
        have hB3 : w1.heap.size ≤ w3.heap.size + 1 := by have := HB3.out.size; omega
        have HLx : Hid ((es ++ [x]).length = es.length + 1) := by show _ = _; rw [List.length_append]; rfl
        clear hb3
        go_wp2_with (at_builtin; refine wpList_append_newH slEditR rfl _ _ rfl w1.heap.size _ _ (w3.heap.size + 1) (by simp) 1 _ _ _ (HO3.out.alloc _) rfl rfl rfl rfl hN (by decide) hB3 ?_; intro v2 w2 ho2 hg2)
        have hg2' := grown_alloc hg2
        go_roundw
        case rel => exact ⟨es.length + 1, es ++ [x], by omega, HLx.out, by go_num, EOwn.snoc ho2, HR, below_grown HB3.out HB3.out.size HO3.out hg2'⟩
        case measure => simp [intOf]; omega
end Go.Proofs.YtjbihmglpfdmnaaGreatDoor
