/- Contracts of bruitref10.Digits and Value at small numbers, and of bruitref40.Cut. Contracts of bruitref50.Line and Print. Contract of bruitref50.Print. -/
import Derived.Test.YtjbihmglpfdmnaaGreatDoorTxPa
namespace Go.Proofs.YtjbihmglpfdmnaaGreatDoor
open Go Go.RowKit

/-- a text of one byte -/
def chB (x : Int) : ByteArray := ⟨#[UInt8.ofNat x.toNat]⟩
theorem conv_new (W : World) (x : Int) (h : 0 ≤ x ∧ x < 256) : (convert 57 9 (.slice (some ⟨W.heap.size, 0, none⟩) 1 1)).run Tryz.prog (W.alloc (.cells #[.int .u8 x] 5)) = .ok (.string (chB x)) (W.alloc (.cells #[.int .u8 x] 5)) := by
  have := run_convert_bytes_arg (P := Tryz.prog) (W.alloc (.cells #[.int .u8 x] 5)) 57 5 Tryz.underlying57 Tryz.underlying5 W.heap.size 0 1 1 [x] rfl (fun i hi => by
    obtain rfl : i = 0 := by simp at hi; omega
    simp) 9 Tryz.underlying9
  rw [this]
  unfold chB
  simp [strOfNums]
theorem chB_size (x : Int) : (chB x).size = 1 := rfl
theorem dg_low : ∀ n : Nat, n < 10 → dg n = [UInt8.ofNat (48 + (n : Int) % 10).toNat] := by decide +kernel
theorem dg_high : ∀ n : Nat, n < 100 → 10 ≤ n → dg n = [UInt8.ofNat (48 + ((n : Int) / 10) % 10).toNat] ++ [UInt8.ofNat (48 + (n : Int) % 10).toNat] := by decide +kernel
theorem digB_low {n : Nat} (h : n < 10) : digB n = chB (48 + (n : Int) % 10) := ba_ext (by rw [digB_list (by omega), dg_low n h]; rfl)
theorem digB_high {n : Nat} (h : n < 100) (h' : 10 ≤ n) : digB n = chB (48 + ((n : Int) / 10) % 10) ++ chB (48 + (n : Int) % 10) := ba_ext (by rw [digB_list h, dg_high n h h', ba_app]; rfl)
attribute [irreducible] chB

def DigRel (w : World) (n : Nat) (v0 v3 : Value) (wr : World) : Prop :=
  (v0 = .int .i64 n ∧ v3 = .string (chB (48 + (n : Int) % 10)) ∧ Below w.heap.size w wr) ∨ (10 ≤ n ∧ v0 = .int .i64 ((n : Int) / 10) ∧ v3 = .string (chB (48 + ((n : Int) / 10) % 10) ++ chB (48 + (n : Int) % 10)) ∧ Below w.heap.size w wr)

set_option maxHeartbeats 2000000 in
set_option maxRecDepth 100000 in
theorem digits_any (n : Nat) (w : World) (h : n < 100) : Calls Tryz.prog 41 #[.int .i64 (n : Int)] w fun e w' => e = .returned (.string (digB n)) ∧ Below w.heap.size w w' := by
  have hcv := conv_new w (48 + (n : Int) % 10) (by omega)
  go_enter Tryz.func41, Tryz.ntmps41
  go_wp2_with fail
  clear hcv
  go_loopw [0, 3] (fun v0 v3 wr => DigRel w n v0 v3 wr) (fun v0 _ _ => (intOf v0).toNat)
  case atStart => exact .inl ⟨rfl, rfl, (Below.refl _ _).alloc (Nat.le_refl _) _⟩
  case round =>
    rcases hrel with ⟨rfl, rfl, hbl⟩ | ⟨h10, rfl, rfl, hbl⟩
    · by_cases hlt : n < 10
      · have HD := Lib.hid (digB_low hlt)
        have hd : decide ((10 : Int) ≤ (n : Int)) = false := by simp; omega
        go_wp2_with fail
        go_ret
        exact ⟨ret_val (congrArg Value.string HD.out.symm), hbl⟩
      · have HD := Lib.hid (digB_high h (by omega))
        have hd : decide ((10 : Int) ≤ (n : Int)) = true := by simp; omega
        have hcv := conv_new wr (48 + ((n : Int) / 10) % 10) (by omega)
        have hz1 := chB_size (48 + ((n : Int) / 10) % 10)
        have hz2 := chB_size (48 + (n : Int) % 10)
        go_wp2_with fail
        go_roundw
        case rel => exact .inr ⟨by omega, rfl, rfl, hbl.alloc hbl.size _⟩
        case measure => simp [intOf]; omega
    · have HD := Lib.hid (digB_high h h10)
      have hlt : n / 10 < 10 := by omega
      have hd : decide ((10 : Int) ≤ (n : Int) / 10) = false := by simp; omega
      go_wp2_with fail
      go_ret
      exact ⟨ret_val (congrArg Value.string HD.out.symm), hbl⟩

def ValRes (w : World) (n : Nat) (e : Ending) (w' : World) : Prop := ∃ b, e = .returned (.tuple #[.int .i64 (n : Int), .bool b]) ∧ Below w.heap.size w w'
theorem valRes_no {w w' : World} {n : Nat} (h : n = 0) (hb : Below w.heap.size w w') : ValRes w n (.returned (.tuple #[.int .i64 0, .bool false])) w' := by subst h; exact ⟨_, rfl, hb⟩
theorem valRes_yes {w w' : World} {n m : Nat} (h : n = m) (hb : Below w.heap.size w w') : ValRes w n (.returned (.tuple #[.int .i64 (m : Int), .bool true])) w' := by subst h; exact ⟨_, rfl, hb⟩
def ValRel (s : ByteArray) (v6 v7 : Value) : Prop := ∃ i n : Nat, i ≤ s.size ∧ v7 = .int .i64 i ∧ v6 = .int .i64 n ∧ n ≤ 700 ∧ Hid (valLoop n (s.data.toList.drop i) = valLoop 0 s.data.toList)
theorem drop_byte {s : ByteArray} {i : Nat} (h : i < s.size) : s.data.toList.drop i = s[i] :: s.data.toList.drop (i + 1) := by
  rw [List.drop_eq_getElem_cons (by simpa using h)]; rfl
theorem valLoop_bad {n : Nat} {b : UInt8} {l : List UInt8} (h : b.toNat < 48 ∨ 57 < b.toNat ∨ 60 < n) : valLoop n (b :: l) = none := by unfold valLoop; rw [if_pos h]
theorem valLoop_go {n : Nat} {b : UInt8} {l : List UInt8} (h : ¬ (b.toNat < 48 ∨ 57 < b.toNat ∨ 60 < n)) : valLoop n (b :: l) = valLoop (n * 10 + (b.toNat - 48)) l := by rw [valLoop, if_neg h]
theorem valLoop_nil (n : Nat) : valLoop n [] = some n := by unfold valLoop; rfl

set_option maxHeartbeats 4000000 in
set_option maxRecDepth 100000 in
theorem value_any (s : ByteArray) (w : World) (hs : s.size ≤ maxLen) : Calls Tryz.prog 34 #[.string s, .int .i64 60] w (ValRes w (valV s.data.toList)) := by
  unfold maxLen at hs
  go_enter Tryz.func34, Tryz.ntmps34
  go_wp2_with fail
  go_loop [6, 7] (fun v6 v7 => ValRel s v6 v7) (fun _ v7 => s.size - (intOf v7).toNat)
  case atStart => exact ⟨0, 0, by omega, rfl, rfl, by omega, rfl⟩
  case round =>
    obtain ⟨i, n, hi, rfl, rfl, hn, HL⟩ := hrel
    by_cases hlt : i < s.size
    · have hd := drop_byte hlt
      have HL1 : Hid (valLoop n (s[i] :: s.data.toList.drop (i + 1)) = valLoop 0 s.data.toList) := by show _ = _; rw [← hd]; exact HL.out
      clear hd
      by_cases h1 : s[i].toNat < 48
      · have HV := Lib.hid (valV_none (HL1.out.symm.trans (valLoop_bad (.inl h1))))
        have d1 : decide ((s[i].toNat : Int) < 48) = true := by simp; omega
        go_wp2_with fail
        go_ret2
        exact valRes_no HV.out (Below.refl _ _)
      · have d1 : decide ((s[i].toNat : Int) < 48) = false := by simp; omega
        by_cases h2 : 57 < s[i].toNat
        · have HV := Lib.hid (valV_none (HL1.out.symm.trans (valLoop_bad (.inr (.inl h2)))))
          have d2 : decide ((57 : Int) < (s[i].toNat : Int)) = true := by simp; omega
          go_wp2_with fail
          go_ret2
          exact valRes_no HV.out (Below.refl _ _)
        · have d2 : decide ((57 : Int) < (s[i].toNat : Int)) = false := by simp; omega
          by_cases h3 : 60 < n
          · have HV := Lib.hid (valV_none (HL1.out.symm.trans (valLoop_bad (.inr (.inr h3)))))
            have d3 : decide ((60 : Int) < (n : Int)) = true := by simp; omega
            go_wp2_with fail
            go_ret2
            exact valRes_no HV.out (Below.refl _ _)
          · have d3 : decide ((60 : Int) < (n : Int)) = false := by simp; omega
            have HV := Lib.hid (HL1.out.symm.trans (valLoop_go (show ¬ (s[i].toNat < 48 ∨ 57 < s[i].toNat ∨ 60 < n) by omega))).symm
            go_wp2_with fail
            go_round
            case rel => exact ⟨i + 1, n * 10 + (s[i].toNat - 48), hlt, by go_num, (by congr 1; omega), by omega, HV⟩
            case measure => simp [intOf]; omega
    · obtain rfl : i = s.size := by omega
      have HL1 : Hid (valLoop 0 s.data.toList = some n) := by
        show _ = _
        rw [← HL.out, List.drop_of_length_le (by simp), valLoop_nil]
      by_cases h0 : s.size = 0
      · have HV : Hid (valV s.data.toList = 0) := by
          show _ = _
          rw [List.eq_nil_of_length_eq_zero (show s.data.toList.length = 0 by simpa using h0), valV_nil]
        have d0 : ((s.size : Int) == 0) = true := by simp [h0]
        clear h0
        go_wp2_with fail
        go_ret2
        exact valRes_no HV.out (Below.refl _ _)
      · have d0 : ((s.size : Int) == 0) = false := by simp [h0]
        clear h0
        by_cases h3 : 60 < n
        · have HV := Lib.hid (valV_else HL1.out (by omega))
          have d3 : decide ((60 : Int) < (n : Int)) = true := by simp; omega
          go_wp2_with fail
          go_ret2
          exact valRes_no HV.out (Below.refl _ _)
        · have d3 : decide ((60 : Int) < (n : Int)) = false := by simp; omega
          have hdl := digB_list (show n < 100 by omega)
          by_cases hq : dg n = s.data.toList
          · have HV := Lib.hid (valV_some (show n < 61 by omega) hq)
            have hb : digB n = s := ba_ext (hdl.trans hq)
            have hbb : ((digB n).toList == s.toList) = true := seq_t hb
            clear hq hb hdl
            go_wp2_with fail
            refine (digits_any n _ (by omega)).mono ?_
            rintro e w1 ⟨rfl, hb1⟩
            go_wp2_with fail
            go_ret2
            exact valRes_yes HV.out hb1
          · have HV := Lib.hid (valV_else HL1.out (fun h => hq h.2))
            have hbb : ((digB n).toList == s.toList) = false := seq_f (fun h => hq (by rw [← hdl, h]))
            clear hq hdl
            go_wp2_with fail
            refine (digits_any n _ (by omega)).mono ?_
            rintro e w1 ⟨rfl, hb1⟩
            go_wp2_with fail
            go_ret2
            exact valRes_no HV.out hb1

def toB (l : List UInt8) : ByteArray := ⟨l.toArray⟩
theorem extract_piece (s : ByteArray) (a i : Nat) : s.extract a i = toB ((s.data.toList.take i).drop a) := by
  apply ba_ext
  unfold toB
  simp [ByteArray.data_extract, Array.toList_extract, List.drop_take]
/-- the pieces behind round i -/
def CutSt (c : UInt8) (l : List UInt8) (i a : Nat) (out : List (List UInt8)) : Prop := if i ≤ l.length then CutAt c l i a out else out = splitC c l
theorem CutSt.at {c : UInt8} {l : List UInt8} {i a : Nat} {out : List (List UInt8)} (h : CutSt c l i a out) (hi : i ≤ l.length) : CutAt c l i a out := by unfold CutSt at h; rwa [if_pos hi] at h
theorem CutAt.st {c : UInt8} {l : List UInt8} {i a : Nat} {out : List (List UInt8)} (h : CutAt c l i a out) (hi : i ≤ l.length) : CutSt c l i a out := by unfold CutSt; rwa [if_pos hi]
theorem CutAt.last {c : UInt8} {l : List UInt8} {i a b : Nat} {out : List (List UInt8)} (h : CutAt c l i a out) (hi : i = l.length) : CutSt c l (i + 1) b (out ++ [(l.take i).drop a]) := by
  subst hi
  unfold CutSt
  rw [if_neg (by omega), h.done, List.take_length]
theorem SOwn.piece {w : World} {B : Nat} {v : Value} {out : List (List UInt8)} {x : ByteArray} {p : List UInt8} (hx : x = toB p) (h : w.ownsRow B 9 1 v ((out.map toB).length + 1) ((out.map toB).map Value.string ++ [.string x])) : SOwn w B v ((out ++ [p]).map toB) := by
  have := SOwn.app (ys := [x]) rfl rfl h
  rw [hx] at this
  simpa using this
def CutRel (w : World) (s : ByteArray) (c : UInt8) (v5 v6 v7 : Value) (wr : World) : Prop :=
  ∃ (i a : Nat) (out : List (List UInt8)), i ≤ s.size + 1 ∧ a ≤ i ∧ out.length ≤ i ∧ v7 = .int .i64 i ∧ v6 = .int .i64 a ∧ Hid (CutSt c s.data.toList i a out) ∧ Hid (SOwn wr w.heap.size v5 (out.map toB)) ∧ Below w.heap.size w wr

set_option maxHeartbeats 4000000 in
set_option maxRecDepth 100000 in
theorem cut_any (s : ByteArray) (c : UInt8) (w : World) (hs : s.size ≤ 100000) :
    Calls Tryz.prog 17 #[.string s, .int .u8 (c.toNat : Int)] w (WithRes w ((splitC c s.data.toList).map toB)) := by
  have hsl : s.data.toList.length = s.size := by simp
  have HSL := Lib.hid hsl
  clear hsl
  go_enter Tryz.func17, Tryz.ntmps17
  go_wp2_with fail
  go_loopw [5, 6, 7] (fun v5 v6 v7 wr => CutRel w s c v5 v6 v7 wr) (fun _ _ v7 _ => s.size + 1 - (intOf v7).toNat)
  case atStart => exact ⟨0, 0, [], by omega, by omega, by simp, rfl, rfl, (cutAt_zero c _).st (by omega), World.ownsRow_nil _ _ _ _, Below.refl _ _⟩
  case round =>
    obtain ⟨i, a, out, hi, ha, ho, rfl, rfl, HC, HO, hbl⟩ := hrel
    have hB := hbl.size
    have hN : (out.map toB).length + 1 ≤ 1099511627776 := by rw [List.length_map]; omega
    by_cases hlt : i < s.size
    · have HAt : Hid (CutAt c s.data.toList i a out) := HC.out.at (by rw [HSL.out]; omega)
      have HG : Hid (s.data.toList[i]? = some s[i]) := by
        show _ = _
        rw [List.getElem?_eq_getElem (by simpa using hlt)]; rfl
      have e1 : ((i : Int) == (s.size : Int)) = false := by simp; omega
      by_cases hc : s[i] = c
      · have HE : Hid (s.extract a i = toB ((s.data.toList.take i).drop a)) := extract_piece s a i
        have HN : Hid (CutSt c s.data.toList (i + 1) (i + 1) (out ++ [(s.data.toList.take i).drop a])) := (HAt.out.hit (by rw [HG.out, hc])).st (by rw [HSL.out]; omega)
        have e2 : ((s[i].toNat : Int) == (c.toNat : Int)) = true := by simp [hc]
        clear hc
        go_wp2_with (at_builtin; refine wpList_append_new slStr rfl _ _ rfl w.heap.size _ _ 1 _ _ _ HO.out rfl rfl rfl rfl hN (by decide) hB ?_; intro v2 w2 ho2 hg2)
        go_roundw
        case rel => exact ⟨i + 1, i + 1, _, by omega, by omega, by simp; omega, by go_num, by go_num, HN, SOwn.piece HE.out ho2, below_grown hbl hB HO.out hg2⟩
        case measure => simp [intOf]; omega
      · have HN : Hid (CutSt c s.data.toList (i + 1) a out) := (HAt.out.miss HG.out hc).st (by rw [HSL.out]; omega)
        have e2 : ((s[i].toNat : Int) == (c.toNat : Int)) = false := by
          simp only [beq_eq_false_iff_ne, ne_eq]
          intro h
          exact hc (UInt8.toNat_inj.1 (by omega))
        clear hc
        go_wp2_with fail
        go_roundw
        case rel => exact ⟨i + 1, a, out, by omega, by omega, by omega, by go_num, rfl, HN, HO, hbl⟩
        case measure => simp [intOf]; omega
    · by_cases hl : i = s.size
      · have HAt : Hid (CutAt c s.data.toList i a out) := HC.out.at (by rw [HSL.out]; omega)
        have HE : Hid (s.extract a i = toB ((s.data.toList.take i).drop a)) := extract_piece s a i
        have HN : Hid (CutSt c s.data.toList (i + 1) (i + 1) (out ++ [(s.data.toList.take i).drop a])) := HAt.out.last (hl.trans HSL.out.symm)
        have e1 : ((i : Int) == (s.size : Int)) = true := by simp [hl]
        have hi1 : i ≤ s.size := by omega
        have hi2 : s.size ≤ i := by omega
        clear hl
        go_wp2_with (at_builtin; refine wpList_append_new slStr rfl _ _ rfl w.heap.size _ _ 1 _ _ _ HO.out rfl rfl rfl rfl hN (by decide) hB ?_; intro v2 w2 ho2 hg2)
        go_roundw
        case rel => exact ⟨i + 1, i + 1, _, by omega, by omega, by simp; omega, by go_num, by go_num, HN, SOwn.piece HE.out ho2, below_grown hbl hB HO.out hg2⟩
        case measure => simp [intOf]; omega
      · obtain rfl : i = s.size + 1 := by omega
        have HN : Hid (out = splitC c s.data.toList) := by
          have := HC.out
          unfold CutSt at this
          rwa [if_neg (by rw [HSL.out]; omega)] at this
        go_wp2_with fail
        go_ret
        rw [← HN.out]
        exact ⟨_, rfl, HO.out.srow, hbl⟩
end Go.Proofs.YtjbihmglpfdmnaaGreatDoor
namespace Go.Proofs.YtjbihmglpfdmnaaGreatDoor
open Go Go.RowKit

theorem lineP_badN {e : EditM} (h : lineV e = false) : lineP e = ⟨#[]⟩ := lineP_bad h
/-- the same line, as ref50.Line puts it together -/
def rlineB (kd : Nat) (n : ByteArray) (m : Nat) (s : ByteArray) : ByteArray :=
  if kd = 1 then ⟨#[45, 32]⟩ ++ n else if kd = 2 then ⟨#[43, 32]⟩ ++ n else if kd = 3 then ⟨#[60, 32]⟩ ++ n ++ (⟨#[32]⟩ ++ digB m) else ⟨#[62, 32]⟩ ++ n ++ (⟨#[32]⟩ ++ digB m) ++ ⟨#[32]⟩ ++ s
theorem rlineB_eq {kd : Nat} {n s : ByteArray} {m : Nat} (hm : m < 100) : rlineB kd n m s = lineB kd n m s := by
  apply ba_ext
  rw [lineB_list hm]
  unfold rlineB lineLs
  split
  · simp
  · split
    · simp
    · split
      · simp [ba_app, digB_list hm]
      · simp [ba_app, digB_list hm]
def RLine (w : World) (x : EditM) (e : Ending) (w' : World) : Prop := e = .returned (.tuple #[.string (lineP x), .bool (lineV x)]) ∧ Below w.heap.size w w'
theorem rline_bad {w w' : World} {x : EditM} (h : lineV x = false) (hb : Below w.heap.size w w') : RLine w x (.returned (.tuple #[.string ⟨#[]⟩, .bool false])) w' := by
  unfold RLine
  rw [lineP_bad h, h]; exact ⟨rfl, hb⟩
theorem rline_good {w w' : World} {kd m : Nat} {n s : ByteArray} {y : ByteArray} (h : lineV ⟨kd, n, m, s⟩ = true) (hm : m < 100) (hy : y = rlineB kd n m s) (hb : Below w.heap.size w w') : RLine w ⟨kd, n, m, s⟩ (.returned (.tuple #[.string y, .bool true])) w' := by
  unfold RLine
  unfold lineP
  rw [if_pos h, h, hy, rlineB_eq hm]; exact ⟨rfl, hb⟩
attribute [local irreducible] lineB lineV lineP rlineB

set_option maxHeartbeats 10000000 in
set_option maxRecDepth 100000 in
theorem rline_badName (n : ByteArray) (kd : Nat) (a : Int) (s : ByteArray) (hn : nameOk n = false) (w : World) (z1 : n.size ≤ maxLen) (z2 : s.size ≤ maxLen) :
    Calls Tryz.prog 23 #[.agg #[.int .u8 (kd : Int), .string n, .int .i64 a, .string s]] w (RLine w ⟨kd, n, a, s⟩) := by
  have HZ := Lib.hid (And.intro z1 z2)
  have HA0 := Lib.hid (arrT_new w [.int .u8 (kd : Int), .string n, .int .i64 a, .string s] 53)
  have HB0 := Lib.hid (below_box (w := w) (.cells #[.int .u8 (kd : Int), .string n, .int .i64 a, .string s] 53))
  have HV : Hid (lineV ⟨kd, n, a, s⟩ = false) := by show _ = _; unfold lineV; simp [hn]
  clear z1 z2
  go_enter Tryz.func23, Tryz.ntmps23
  go_wp2_with fail
  refine (rname_any n _ HZ.out.1).mono ?_
  rintro e w1 ⟨rfl, hb1⟩
  have HA1 := Lib.hid (HA0.out.over hb1)
  have HB1 := Lib.hid (below_over HB0.out HB0.out.size hb1)
  have c2 := HA1.out.arr.cell (j := 2) rfl
  have c3 := HA1.out.arr.cell (j := 3) rfl
  have sA := HA1.out.arr.lt
  clear hb1
  go_wp2_with fail
  go_ret2
  exact rline_bad HV.out HB1.out

set_option maxHeartbeats 10000000 in
set_option maxRecDepth 100000 in
theorem rline_badLow (n : ByteArray) (kd : Nat) (a : Int) (s : ByteArray) (hn : nameOk n = true) (ha : a < 0) (w : World) (z1 : n.size ≤ maxLen) (z2 : s.size ≤ maxLen) :
    Calls Tryz.prog 23 #[.agg #[.int .u8 (kd : Int), .string n, .int .i64 a, .string s]] w (RLine w ⟨kd, n, a, s⟩) := by
  have HZ := Lib.hid (And.intro z1 z2)
  have HA0 := Lib.hid (arrT_new w [.int .u8 (kd : Int), .string n, .int .i64 a, .string s] 53)
  have HB0 := Lib.hid (below_box (w := w) (.cells #[.int .u8 (kd : Int), .string n, .int .i64 a, .string s] 53))
  have HV : Hid (lineV ⟨kd, n, a, s⟩ = false) := by show _ = _; unfold lineV; simp; omega
  have d0 : decide (a < 0) = true := by simpa using ha
  clear z1 z2
  go_enter Tryz.func23, Tryz.ntmps23
  go_wp2_with fail
  refine (rname_any n _ HZ.out.1).mono ?_
  rintro e w1 ⟨rfl, hb1⟩
  have HA1 := Lib.hid (HA0.out.over hb1)
  have HB1 := Lib.hid (below_over HB0.out HB0.out.size hb1)
  have c2 := HA1.out.arr.cell (j := 2) rfl
  have c3 := HA1.out.arr.cell (j := 3) rfl
  have sA := HA1.out.arr.lt
  clear hb1
  go_wp2_with fail
  go_ret2
  exact rline_bad HV.out HB1.out

set_option maxHeartbeats 10000000 in
set_option maxRecDepth 100000 in
theorem rline_badHigh (n : ByteArray) (kd : Nat) (a : Int) (s : ByteArray) (hn : nameOk n = true) (ha : ¬ a < 0) (hh : ¬ a ≤ 60) (w : World) (z1 : n.size ≤ maxLen) (z2 : s.size ≤ maxLen) :
    Calls Tryz.prog 23 #[.agg #[.int .u8 (kd : Int), .string n, .int .i64 a, .string s]] w (RLine w ⟨kd, n, a, s⟩) := by
  have HZ := Lib.hid (And.intro z1 z2)
  have HA0 := Lib.hid (arrT_new w [.int .u8 (kd : Int), .string n, .int .i64 a, .string s] 53)
  have HB0 := Lib.hid (below_box (w := w) (.cells #[.int .u8 (kd : Int), .string n, .int .i64 a, .string s] 53))
  have HV : Hid (lineV ⟨kd, n, a, s⟩ = false) := by show _ = _; unfold lineV; simp; omega
  have d0 : decide (a < 0) = false := by simpa using ha
  have d1 : decide ((60 : Int) < a) = true := by simp; omega
  clear z1 z2
  go_enter Tryz.func23, Tryz.ntmps23
  go_wp2_with fail
  refine (rname_any n _ HZ.out.1).mono ?_
  rintro e w1 ⟨rfl, hb1⟩
  have HA1 := Lib.hid (HA0.out.over hb1)
  have HB1 := Lib.hid (below_over HB0.out HB0.out.size hb1)
  have c2 := HA1.out.arr.cell (j := 2) rfl
  have c3 := HA1.out.arr.cell (j := 3) rfl
  have sA := HA1.out.arr.lt
  clear hb1
  go_wp2_with fail
  go_ret2
  exact rline_bad HV.out HB1.out

set_option maxHeartbeats 10000000 in
set_option maxRecDepth 100000 in
theorem rline_badText (n : ByteArray) (kd m : Nat) (s : ByteArray) (hn : nameOk n = true) (hm : m ≤ 60) (hl : lineOk s = false) (w : World) (z1 : n.size ≤ maxLen) (z2 : s.size ≤ maxLen) :
    Calls Tryz.prog 23 #[.agg #[.int .u8 (kd : Int), .string n, .int .i64 (m : Int), .string s]] w (RLine w ⟨kd, n, (m : Int), s⟩) := by
  have HZ := Lib.hid (And.intro z1 z2)
  have HA0 := Lib.hid (arrT_new w [.int .u8 (kd : Int), .string n, .int .i64 (m : Int), .string s] 53)
  have HB0 := Lib.hid (below_box (w := w) (.cells #[.int .u8 (kd : Int), .string n, .int .i64 (m : Int), .string s] 53))
  have HV : Hid (lineV ⟨kd, n, m, s⟩ = false) := by show _ = _; unfold lineV; simp [hl]
  have d0 : decide ((m : Int) < 0) = false := by simp
  have d1 : decide ((60 : Int) < (m : Int)) = false := by simp; omega
  clear z1 z2
  go_enter Tryz.func23, Tryz.ntmps23
  go_wp2_with fail
  refine (rname_any n _ HZ.out.1).mono ?_
  rintro e w1 ⟨rfl, hb1⟩
  have HA1 := Lib.hid (HA0.out.over hb1)
  have HB1 := Lib.hid (below_over HB0.out HB0.out.size hb1)
  have c2 := HA1.out.arr.cell (j := 2) rfl
  have c3 := HA1.out.arr.cell (j := 3) rfl
  have sA := HA1.out.arr.lt
  clear hb1
  go_wp2_with fail
  refine (rline_any s _ HZ.out.2).mono ?_
  rintro e w2 ⟨rfl, hb2⟩
  have HA2 := Lib.hid (HA1.out.over hb2)
  have HB2 := Lib.hid (below_over HB1.out HB1.out.size hb2)
  have e0 := HA2.out.arr.cell (j := 0) rfl
  have e1 := HA2.out.arr.cell (j := 1) rfl
  have e2 := HA2.out.arr.cell (j := 2) rfl
  have e3 := HA2.out.arr.cell (j := 3) rfl
  have sA2 := HA2.out.arr.lt
  clear c2 c3 sA hb2
  go_wp2_with fail
  go_ret2
  exact rline_bad HV.out HB2.out

set_option maxHeartbeats 10000000 in
set_option maxRecDepth 100000 in
theorem rline_k1 (n : ByteArray) (m : Nat) (s : ByteArray) (hn : nameOk n = true) (hm : m ≤ 60) (hl : lineOk s = true) (w : World) (z1 : n.size ≤ maxLen) (z2 : s.size ≤ maxLen) :
    Calls Tryz.prog 23 #[.agg #[.int .u8 1, .string n, .int .i64 (m : Int), .string s]] w (RLine w ⟨1, n, (m : Int), s⟩) := by
  have HZ := Lib.hid (And.intro z1 z2)
  have HA0 := Lib.hid (arrT_new w [.int .u8 1, .string n, .int .i64 (m : Int), .string s] 53)
  have HB0 := Lib.hid (below_box (w := w) (.cells #[.int .u8 1, .string n, .int .i64 (m : Int), .string s] 53))
  have HV : Hid (lineV ⟨1, n, m, s⟩ = true) := by show _ = _; unfold lineV; simp [hn, hl]; omega
  have HE : Hid (rlineB 1 n m s = rlineB 1 n m s) := rfl
  have d0 : decide ((m : Int) < 0) = false := by simp
  have d1 : decide ((60 : Int) < (m : Int)) = false := by simp; omega
  have hns := nameOk_size hn
  have hdz := digB_size (show m < 100 by omega)
  have hss := lineOk_size hl
  clear z1 z2
  go_enter Tryz.func23, Tryz.ntmps23
  go_wp2_with fail
  refine (rname_any n _ HZ.out.1).mono ?_
  rintro e w1 ⟨rfl, hb1⟩
  have HA1 := Lib.hid (HA0.out.over hb1)
  have HB1 := Lib.hid (below_over HB0.out HB0.out.size hb1)
  have c2 := HA1.out.arr.cell (j := 2) rfl
  have c3 := HA1.out.arr.cell (j := 3) rfl
  have sA := HA1.out.arr.lt
  clear hb1
  go_wp2_with fail
  refine (rline_any s _ HZ.out.2).mono ?_
  rintro e w2 ⟨rfl, hb2⟩
  have HA2 := Lib.hid (HA1.out.over hb2)
  have HB2 := Lib.hid (below_over HB1.out HB1.out.size hb2)
  have e0 := HA2.out.arr.cell (j := 0) rfl
  have e1 := HA2.out.arr.cell (j := 1) rfl
  have e2 := HA2.out.arr.cell (j := 2) rfl
  have e3 := HA2.out.arr.cell (j := 3) rfl
  have sA2 := HA2.out.arr.lt
  clear c2 c3 sA hb2
  go_wp2_with fail
  refine (digits_any m _ (by omega)).mono ?_
  rintro e w3 ⟨rfl, hb3⟩
  have HA3 := Lib.hid (HA2.out.over hb3)
  have HB3 := Lib.hid (below_over HB2.out HB2.out.size hb3)
  have f0 := HA3.out.arr.cell (j := 0) rfl
  have f1 := HA3.out.arr.cell (j := 1) rfl
  have f2 := HA3.out.arr.cell (j := 2) rfl
  have f3 := HA3.out.arr.cell (j := 3) rfl
  have sA3 := HA3.out.arr.lt
  clear e0 e1 e2 e3 sA2 hb3
  go_wp2_with fail
  go_ret2
  exact rline_good HV.out (by omega) (by unfold rlineB; rfl) HB3.out

set_option maxHeartbeats 10000000 in
set_option maxRecDepth 100000 in
theorem rline_k2 (n : ByteArray) (m : Nat) (s : ByteArray) (hn : nameOk n = true) (hm : m ≤ 60) (hl : lineOk s = true) (w : World) (z1 : n.size ≤ maxLen) (z2 : s.size ≤ maxLen) :
    Calls Tryz.prog 23 #[.agg #[.int .u8 2, .string n, .int .i64 (m : Int), .string s]] w (RLine w ⟨2, n, (m : Int), s⟩) := by
  have HZ := Lib.hid (And.intro z1 z2)
  have HA0 := Lib.hid (arrT_new w [.int .u8 2, .string n, .int .i64 (m : Int), .string s] 53)
  have HB0 := Lib.hid (below_box (w := w) (.cells #[.int .u8 2, .string n, .int .i64 (m : Int), .string s] 53))
  have HV : Hid (lineV ⟨2, n, m, s⟩ = true) := by show _ = _; unfold lineV; simp [hn, hl]; omega
  have HE : Hid (rlineB 2 n m s = rlineB 2 n m s) := rfl
  have d0 : decide ((m : Int) < 0) = false := by simp
  have d1 : decide ((60 : Int) < (m : Int)) = false := by simp; omega
  have hns := nameOk_size hn
  have hdz := digB_size (show m < 100 by omega)
  have hss := lineOk_size hl
  clear z1 z2
  go_enter Tryz.func23, Tryz.ntmps23
  go_wp2_with fail
  refine (rname_any n _ HZ.out.1).mono ?_
  rintro e w1 ⟨rfl, hb1⟩
  have HA1 := Lib.hid (HA0.out.over hb1)
  have HB1 := Lib.hid (below_over HB0.out HB0.out.size hb1)
  have c2 := HA1.out.arr.cell (j := 2) rfl
  have c3 := HA1.out.arr.cell (j := 3) rfl
  have sA := HA1.out.arr.lt
  clear hb1
  go_wp2_with fail
  refine (rline_any s _ HZ.out.2).mono ?_
  rintro e w2 ⟨rfl, hb2⟩
  have HA2 := Lib.hid (HA1.out.over hb2)
  have HB2 := Lib.hid (below_over HB1.out HB1.out.size hb2)
  have e0 := HA2.out.arr.cell (j := 0) rfl
  have e1 := HA2.out.arr.cell (j := 1) rfl
  have e2 := HA2.out.arr.cell (j := 2) rfl
  have e3 := HA2.out.arr.cell (j := 3) rfl
  have sA2 := HA2.out.arr.lt
  clear c2 c3 sA hb2
  go_wp2_with fail
  refine (digits_any m _ (by omega)).mono ?_
  rintro e w3 ⟨rfl, hb3⟩
  have HA3 := Lib.hid (HA2.out.over hb3)
  have HB3 := Lib.hid (below_over HB2.out HB2.out.size hb3)
  have f0 := HA3.out.arr.cell (j := 0) rfl
  have f1 := HA3.out.arr.cell (j := 1) rfl
  have f2 := HA3.out.arr.cell (j := 2) rfl
  have f3 := HA3.out.arr.cell (j := 3) rfl
  have sA3 := HA3.out.arr.lt
  clear e0 e1 e2 e3 sA2 hb3
  go_wp2_with fail
  go_ret2
  exact rline_good HV.out (by omega) (by unfold rlineB; rfl) HB3.out

set_option maxHeartbeats 10000000 in
set_option maxRecDepth 100000 in
theorem rline_k3 (n : ByteArray) (m : Nat) (s : ByteArray) (hn : nameOk n = true) (hm : m ≤ 60) (hl : lineOk s = true) (w : World) (z1 : n.size ≤ maxLen) (z2 : s.size ≤ maxLen) :
    Calls Tryz.prog 23 #[.agg #[.int .u8 3, .string n, .int .i64 (m : Int), .string s]] w (RLine w ⟨3, n, (m : Int), s⟩) := by
  have HZ := Lib.hid (And.intro z1 z2)
  have HA0 := Lib.hid (arrT_new w [.int .u8 3, .string n, .int .i64 (m : Int), .string s] 53)
  have HB0 := Lib.hid (below_box (w := w) (.cells #[.int .u8 3, .string n, .int .i64 (m : Int), .string s] 53))
  have HV : Hid (lineV ⟨3, n, m, s⟩ = true) := by show _ = _; unfold lineV; simp [hn, hl]; omega
  have HE : Hid (rlineB 3 n m s = rlineB 3 n m s) := rfl
  have d0 : decide ((m : Int) < 0) = false := by simp
  have d1 : decide ((60 : Int) < (m : Int)) = false := by simp; omega
  have hns := nameOk_size hn
  have hdz := digB_size (show m < 100 by omega)
  have hss := lineOk_size hl
  clear z1 z2
  go_enter Tryz.func23, Tryz.ntmps23
  go_wp2_with fail
  refine (rname_any n _ HZ.out.1).mono ?_
  rintro e w1 ⟨rfl, hb1⟩
  have HA1 := Lib.hid (HA0.out.over hb1)
  have HB1 := Lib.hid (below_over HB0.out HB0.out.size hb1)
  have c2 := HA1.out.arr.cell (j := 2) rfl
  have c3 := HA1.out.arr.cell (j := 3) rfl
  have sA := HA1.out.arr.lt
  clear hb1
  go_wp2_with fail
  refine (rline_any s _ HZ.out.2).mono ?_
  rintro e w2 ⟨rfl, hb2⟩
  have HA2 := Lib.hid (HA1.out.over hb2)
  have HB2 := Lib.hid (below_over HB1.out HB1.out.size hb2)
  have e0 := HA2.out.arr.cell (j := 0) rfl
  have e1 := HA2.out.arr.cell (j := 1) rfl
  have e2 := HA2.out.arr.cell (j := 2) rfl
  have e3 := HA2.out.arr.cell (j := 3) rfl
  have sA2 := HA2.out.arr.lt
  clear c2 c3 sA hb2
  go_wp2_with fail
  refine (digits_any m _ (by omega)).mono ?_
  rintro e w3 ⟨rfl, hb3⟩
  have HA3 := Lib.hid (HA2.out.over hb3)
  have HB3 := Lib.hid (below_over HB2.out HB2.out.size hb3)
  have f0 := HA3.out.arr.cell (j := 0) rfl
  have f1 := HA3.out.arr.cell (j := 1) rfl
  have f2 := HA3.out.arr.cell (j := 2) rfl
  have f3 := HA3.out.arr.cell (j := 3) rfl
  have sA3 := HA3.out.arr.lt
  clear e0 e1 e2 e3 sA2 hb3
  go_wp2_with fail
  go_ret2
  exact rline_good HV.out (by omega) (by unfold rlineB; rfl) HB3.out

set_option maxHeartbeats 10000000 in
set_option maxRecDepth 100000 in
theorem rline_k4 (n : ByteArray) (m : Nat) (s : ByteArray) (hn : nameOk n = true) (hm : m ≤ 60) (hl : lineOk s = true) (w : World) (z1 : n.size ≤ maxLen) (z2 : s.size ≤ maxLen) :
    Calls Tryz.prog 23 #[.agg #[.int .u8 4, .string n, .int .i64 (m : Int), .string s]] w (RLine w ⟨4, n, (m : Int), s⟩) := by
  have HZ := Lib.hid (And.intro z1 z2)
  have HA0 := Lib.hid (arrT_new w [.int .u8 4, .string n, .int .i64 (m : Int), .string s] 53)
  have HB0 := Lib.hid (below_box (w := w) (.cells #[.int .u8 4, .string n, .int .i64 (m : Int), .string s] 53))
  have HV : Hid (lineV ⟨4, n, m, s⟩ = true) := by show _ = _; unfold lineV; simp [hn, hl]; omega
  have HE : Hid (rlineB 4 n m s = rlineB 4 n m s) := rfl
  have d0 : decide ((m : Int) < 0) = false := by simp
  have d1 : decide ((60 : Int) < (m : Int)) = false := by simp; omega
  have hns := nameOk_size hn
  have hdz := digB_size (show m < 100 by omega)
  have hss := lineOk_size hl
  clear z1 z2
  go_enter Tryz.func23, Tryz.ntmps23
  go_wp2_with fail
  refine (rname_any n _ HZ.out.1).mono ?_
  rintro e w1 ⟨rfl, hb1⟩
  have HA1 := Lib.hid (HA0.out.over hb1)
  have HB1 := Lib.hid (below_over HB0.out HB0.out.size hb1)
  have c2 := HA1.out.arr.cell (j := 2) rfl
  have c3 := HA1.out.arr.cell (j := 3) rfl
  have sA := HA1.out.arr.lt
  clear hb1
  go_wp2_with fail
  refine (rline_any s _ HZ.out.2).mono ?_
  rintro e w2 ⟨rfl, hb2⟩
  have HA2 := Lib.hid (HA1.out.over hb2)
  have HB2 := Lib.hid (below_over HB1.out HB1.out.size hb2)
  have e0 := HA2.out.arr.cell (j := 0) rfl
  have e1 := HA2.out.arr.cell (j := 1) rfl
  have e2 := HA2.out.arr.cell (j := 2) rfl
  have e3 := HA2.out.arr.cell (j := 3) rfl
  have sA2 := HA2.out.arr.lt
  clear c2 c3 sA hb2
  go_wp2_with fail
  refine (digits_any m _ (by omega)).mono ?_
  rintro e w3 ⟨rfl, hb3⟩
  have HA3 := Lib.hid (HA2.out.over hb3)
  have HB3 := Lib.hid (below_over HB2.out HB2.out.size hb3)
  have f0 := HA3.out.arr.cell (j := 0) rfl
  have f1 := HA3.out.arr.cell (j := 1) rfl
  have f2 := HA3.out.arr.cell (j := 2) rfl
  have f3 := HA3.out.arr.cell (j := 3) rfl
  have sA3 := HA3.out.arr.lt
  clear e0 e1 e2 e3 sA2 hb3
  go_wp2_with fail
  go_ret2
  exact rline_good HV.out (by omega) (by unfold rlineB; rfl) HB3.out

set_option maxHeartbeats 10000000 in
set_option maxRecDepth 100000 in
theorem rline_kOther (n : ByteArray) (kd m : Nat) (s : ByteArray) (hn : nameOk n = true) (hm : m ≤ 60) (hl : lineOk s = true) (hk : ¬ (1 ≤ kd ∧ kd ≤ 4)) (w : World) (z1 : n.size ≤ maxLen) (z2 : s.size ≤ maxLen) :
    Calls Tryz.prog 23 #[.agg #[.int .u8 (kd : Int), .string n, .int .i64 (m : Int), .string s]] w (RLine w ⟨kd, n, (m : Int), s⟩) := by
  have HZ := Lib.hid (And.intro z1 z2)
  have HA0 := Lib.hid (arrT_new w [.int .u8 (kd : Int), .string n, .int .i64 (m : Int), .string s] 53)
  have HB0 := Lib.hid (below_box (w := w) (.cells #[.int .u8 (kd : Int), .string n, .int .i64 (m : Int), .string s] 53))
  have HV : Hid (lineV ⟨kd, n, m, s⟩ = false) := by show _ = _; unfold lineV; simp; omega
  have k1 : ((kd : Int) == 1) = false := by simp; omega
  have k2 : ((kd : Int) == 2) = false := by simp; omega
  have k3 : ((kd : Int) == 3) = false := by simp; omega
  have k4 : ((kd : Int) == 4) = false := by simp; omega
  have d0 : decide ((m : Int) < 0) = false := by simp
  have d1 : decide ((60 : Int) < (m : Int)) = false := by simp; omega
  have hns := nameOk_size hn
  have hdz := digB_size (show m < 100 by omega)
  have hss := lineOk_size hl
  clear z1 z2
  go_enter Tryz.func23, Tryz.ntmps23
  go_wp2_with fail
  refine (rname_any n _ HZ.out.1).mono ?_
  rintro e w1 ⟨rfl, hb1⟩
  have HA1 := Lib.hid (HA0.out.over hb1)
  have HB1 := Lib.hid (below_over HB0.out HB0.out.size hb1)
  have c2 := HA1.out.arr.cell (j := 2) rfl
  have c3 := HA1.out.arr.cell (j := 3) rfl
  have sA := HA1.out.arr.lt
  clear hb1
  go_wp2_with fail
  refine (rline_any s _ HZ.out.2).mono ?_
  rintro e w2 ⟨rfl, hb2⟩
  have HA2 := Lib.hid (HA1.out.over hb2)
  have HB2 := Lib.hid (below_over HB1.out HB1.out.size hb2)
  have e0 := HA2.out.arr.cell (j := 0) rfl
  have e1 := HA2.out.arr.cell (j := 1) rfl
  have e2 := HA2.out.arr.cell (j := 2) rfl
  have e3 := HA2.out.arr.cell (j := 3) rfl
  have sA2 := HA2.out.arr.lt
  clear c2 c3 sA hb2
  go_wp2_with fail
  refine (digits_any m _ (by omega)).mono ?_
  rintro e w3 ⟨rfl, hb3⟩
  have HA3 := Lib.hid (HA2.out.over hb3)
  have HB3 := Lib.hid (below_over HB2.out HB2.out.size hb3)
  have f0 := HA3.out.arr.cell (j := 0) rfl
  have f1 := HA3.out.arr.cell (j := 1) rfl
  have f2 := HA3.out.arr.cell (j := 2) rfl
  have f3 := HA3.out.arr.cell (j := 3) rfl
  have sA3 := HA3.out.arr.lt
  clear e0 e1 e2 e3 sA2 hb3
  go_wp2_with fail
  go_ret2
  exact rline_bad HV.out HB3.out

theorem rline50_any (x : EditM) (w : World) (z1 : x.name.size ≤ maxLen) (z2 : x.text.size ≤ maxLen) :
    Calls Tryz.prog 23 #[.agg #[.int .u8 (x.kind : Int), .string x.name, .int .i64 x.at', .string x.text]] w (RLine w x) := by
  obtain ⟨kd, n, a, s⟩ := x
  simp only at z1 z2 ⊢
  cases hn : nameOk n with
  | false => exact rline_badName n kd a s hn w z1 z2
  | true =>
    by_cases ha : a < 0
    · exact rline_badLow n kd a s hn ha w z1 z2
    · by_cases hh : a ≤ 60
      · obtain ⟨m, rfl⟩ : ∃ m : Nat, a = m := ⟨a.toNat, by omega⟩
        have hm : m ≤ 60 := by omega
        cases hl : lineOk s with
        | false => exact rline_badText n kd m s hn hm hl w z1 z2
        | true =>
          by_cases hk : 1 ≤ kd ∧ kd ≤ 4
          · obtain ⟨h1, h4⟩ := hk
            have : kd = 1 ∨ kd = 2 ∨ kd = 3 ∨ kd = 4 := by omega
            rcases this with rfl | rfl | rfl | rfl
            · exact rline_k1 n m s hn hm hl w z1 z2
            · exact rline_k2 n m s hn hm hl w z1 z2
            · exact rline_k3 n m s hn hm hl w z1 z2
            · exact rline_k4 n m s hn hm hl w z1 z2
          · exact rline_kOther n kd m s hn hm hl hk w z1 z2
      · exact rline_badHigh n kd a s hn ha hh w z1 z2
end Go.Proofs.YtjbihmglpfdmnaaGreatDoor
namespace Go.Proofs.YtjbihmglpfdmnaaGreatDoor
open Go Go.RowKit

theorem lineP_pos {e : EditM} (h : lineV e = true) : ¬ (lineP e).size = 0 := by
  rw [Lib.size_eq, lineP_good h]
  unfold lineLs
  split
  · simp
  · split
    · simp
    · split <;> simp
theorem print_yes {es : List EditM} {i : Nat} {x : EditM} (hx : es[i]? = some x) (h : lineV x = true) : (⟨(printL (es.take (i + 1))).toArray⟩ : ByteArray) = (⟨(printL (es.take i)).toArray⟩ : ByteArray) ++ lineP x ++ ⟨#[10]⟩ := by
  apply ba_ext
  rw [printL_succ hx, lineL_some (lineP_pos h)]
  simp [ba_app]
theorem print_no {es : List EditM} {i : Nat} {x : EditM} (hx : es[i]? = some x) (h : lineV x = false) : printL (es.take (i + 1)) = printL (es.take i) := by
  rw [printL_succ hx, lineL_none (by rw [lineP_bad h]; rfl)]; simp
def RPrRel (w : World) (es : List EditM) (v iv : Value) (wr : World) : Prop := ∃ (i : Nat) (p : ByteArray), i ≤ es.length ∧ iv = .int .i64 i ∧ v = .string p ∧ p.size ≤ 201 * i ∧ Hid (p = ⟨(printL (es.take i)).toArray⟩) ∧ Below w.heap.size w wr

set_option maxHeartbeats 10000000 in
set_option maxRecDepth 100000 in
theorem rprint_any (v : Value) (es : List EditM) (w : World) (hv : ERow w v es) (hz : SzE es) (hl : es.length ≤ 100000) :
    Calls Tryz.prog 9 #[v] w fun r w' => r = .returned (.string ⟨(printL es).toArray⟩) ∧ Below w.heap.size w w' := by
  obtain ⟨a, cap, rfl, h1, h2, _, hc⟩ := hv.form
  unfold maxLen at h2
  have HC := Lib.hid hc
  have HZ := Lib.hid hz
  clear hv hc hz
  go_enter Tryz.func9, Tryz.ntmps9
  go_wp2_with fail
  go_loopw [3, 4] (fun v i wr => RPrRel w es v i wr) (fun _ i _ => es.length - (intOf i).toNat)
  case atStart => exact ⟨0, ⟨#[]⟩, by omega, rfl, rfl, by decide, (by show _ = _; rw [List.take_zero, printL_nil]), Below.refl _ _⟩
  case round =>
    obtain ⟨i, p, hi, rfl, rfl, hp, HP, hbl⟩ := hrel
    by_cases hlt : i < es.length
    · obtain ⟨b, o, rfl, sb, hf⟩ := HC.out.resolve_left (by omega)
      obtain ⟨x, hx⟩ := get_of_lt hlt
      have hat := (hf i x hx).over hbl sb
      have c0 := hat.c0
      have c1 := hat.c1
      have c2 := hat.c2
      have c3 := hat.c3
      have sb' : b < wr.heap.size := Nat.lt_of_lt_of_le sb hbl.size
      have HSz := Lib.hid (HZ.out x (List.mem_of_getElem? hx))
      have hps := lineP_size x
      have HX := Lib.hid hx
      clear hat hf hx
      cases hlv : lineV x with
      | false =>
        have HN : Hid (printL (es.take (i + 1)) = printL (es.take i)) := print_no HX.out hlv
        have HLV := Lib.hid hlv
        clear hlv
        go_wp2_with fail
        refine (rline50_any x _ HSz.out.1 HSz.out.2).mono ?_
        rintro e w3 ⟨rfl, hb3⟩
        rw [HLV.out]
        have HB3 := Lib.hid (below_over hbl hbl.size hb3)
        clear hb3 hbl
        go_wp2_with fail
        go_roundw
        case rel => exact ⟨i + 1, p, hlt, by go_num, rfl, by omega, (by show _ = _; rw [HP.out, HN.out]), HB3.out⟩
        case measure => exact meas_lt hlt
      | true =>
        have HN := Lib.hid (print_yes HX.out hlv)
        have HLV := Lib.hid hlv
        clear hlv
        go_wp2_with fail
        refine (rline50_any x _ HSz.out.1 HSz.out.2).mono ?_
        rintro e w3 ⟨rfl, hb3⟩
        rw [HLV.out]
        have HB3 := Lib.hid (below_over hbl hbl.size hb3)
        clear hb3 hbl
        go_wp2_with fail
        go_roundw
        case rel => exact ⟨i + 1, p ++ lineP x ++ ⟨#[10]⟩, hlt, by go_num, rfl, (by have : (⟨#[10]⟩ : ByteArray).size = 1 := rfl; rw [ByteArray.size_append, ByteArray.size_append]; omega), (by show _ = _; rw [HP.out, HN.out]), HB3.out⟩
        case measure => exact meas_lt hlt
    · obtain rfl : i = es.length := by omega
      have HE : Hid (p = ⟨(printL es).toArray⟩) := by
        have := HP.out
        rwa [List.take_length] at this
      go_wp2_with fail
      go_ret
      exact ⟨ret_val (congrArg Value.string HE.out), hbl⟩
end Go.Proofs.YtjbihmglpfdmnaaGreatDoor
