/- The library's contracts that diff's parser needs, as used here: strings.Index, SplitN, Cut, strconv.Atoi. Contract of diff.read. Contract of diff.Parse. Contract of bruitlaw50.DiffTexts: any edits are printed as the document says, and any text is parsed so. -/
import Derived.Test.YtjbihmglpfdmnaaGreatDoorTxVa
import Derived.Test.YtjbihmglpfdmnaaGreatDoorShelf
namespace Go.Proofs.YtjbihmglpfdmnaaGreatDoor
open Go Go.RowKit

/-- the library's variables hold what they may: an int, two errors -/
structure Glob (w : World) : Prop where
  lt : 2 < w.heap.size
  m : ∃ m : Int, w.cell? ⟨0, 0, none⟩ = some (.int .i64 m)
  s : ∃ ev, w.cell? ⟨1, 0, none⟩ = some ev ∧ (ev = .nilIface ∨ ∃ te pe, ev = .iface te pe)
  r : ∃ ev, w.cell? ⟨2, 0, none⟩ = some ev ∧ (ev = .nilIface ∨ ∃ te pe, ev = .iface te pe)
theorem Glob.over {w w' : World} (h : Glob w) (hb : Below w.heap.size w w') : Glob w' := by
  have hl := h.lt
  obtain ⟨m, hm⟩ := h.m
  obtain ⟨e1, h1, h1'⟩ := h.s
  obtain ⟨e2, h2, h2'⟩ := h.r
  refine ⟨by have := hb.size; omega, ⟨m, ?_⟩, ⟨e1, ?_, h1'⟩, ⟨e2, ?_, h2'⟩⟩
  · rw [hb.cell (by show _ < _; exact Nat.lt_of_le_of_lt (by decide) hl)]; exact hm
  · rw [hb.cell (by show _ < _; exact Nat.lt_of_le_of_lt (by decide) hl)]; exact h1
  · rw [hb.cell (by show _ < _; exact Nat.lt_of_le_of_lt (by decide) hl)]; exact h2

theorem indexTx_any (s sub : ByteArray) (w : World) (hg : Glob w) (hs : s.size ≤ 100000) :
    Calls Tryz.prog 32 #[.string s, .string sub] w fun e w' => e = .returned (.int .i64 (Lib.index s.data.toList sub.data.toList)) ∧ w' = w := by
  obtain ⟨m, hm⟩ := hg.m
  exact Tryz.strings_Index s sub m w (by omega) hm
theorem cutT_any (s : ByteArray) (w : World) (hg : Glob w) (hs : s.size ≤ 100000) :
    Calls Tryz.prog 15 #[.string s, .string ⟨#[10]⟩] w fun e w' => e = .returned (.tuple #[.string ⟨(Lib.cut s.data.toList [10]).1.toArray⟩, .string ⟨(Lib.cut s.data.toList [10]).2.1.toArray⟩, .bool (Lib.cut s.data.toList [10]).2.2]) ∧ Below w.heap.size w w' := by
  obtain ⟨m, hm⟩ := hg.m
  refine (Tryz.strings_Cut s ⟨#[10]⟩ m w (by omega) hm).mono ?_
  rintro e w' ⟨h, n, rfl⟩
  exact ⟨h, below_drewN (Below.refl _ _) n⟩
def splitQ (s : ByteArray) : List ByteArray := Lib.splitB ⟨#[32]⟩ 0 (min 4 (s.size + 1) - 1) s
theorem splitQ_pos (s : ByteArray) : 1 ≤ (splitQ s).length := by
  unfold splitQ
  cases min 4 (s.size + 1) - 1 with
  | zero => simp [Lib.splitB]
  | succ k =>
    unfold Lib.splitB
    split <;> simp
theorem splitQ_le (s : ByteArray) : (splitQ s).length ≤ 4 := by
  have := Lib.splitB_length_le ⟨#[32]⟩ 0 (min 4 (s.size + 1) - 1) s
  unfold splitQ; omega
theorem split_any (s : ByteArray) (w : World) (hg : Glob w) (hs : s.size ≤ 100000) :
    Calls Tryz.prog 31 #[.string s, .string ⟨#[32]⟩, .int .i64 4] w (WithRes w (splitQ s)) := by
  obtain ⟨m, hm⟩ := hg.m
  have hl := Lib.splitB_length_le ⟨#[32]⟩ 0 (min 4 (s.size + 1) - 1) s
  have hc := Tryz.strings_SplitN s ⟨#[32]⟩ 4 m w (by omega) hm (by decide) (by decide) (by decide)
  refine hc.mono ?_
  rintro e w' ⟨rfl, rfl⟩
  refine ⟨_, rfl, ?_, below_box _⟩
  have hq : (splitQ s).length ≤ min 4 (s.size + 1) := by unfold splitQ; omega
  refine ⟨by simp, _, min 4 (s.size + 1), rfl, hq, by unfold maxLen; omega, fun h => (by cases h), fun _ => ⟨_, 0, rfl, by simp, fun j u hu => ?_⟩⟩
  rw [Nat.zero_add]
  have ha := arr_new w (Lib.cellsOf (splitQ s) (min 4 (s.size + 1))) 9
  refine ha.cell ?_
  unfold Lib.cellsOf
  rw [List.getElem?_append_left (by have := (List.getElem?_eq_some_iff.1 hu).1; simpa using this)]
  exact hu
def AtoiRes (w : World) (n : Int) (e : Ending) (w' : World) : Prop := ∃ u, e = .returned (.tuple #[.int .i64 n, u]) ∧ Below w.heap.size w w'
theorem atoi_any (s : ByteArray) (w : World) (hg : Glob w) (hs : s.size ≤ 100000) :
    Calls Tryz.prog 33 #[.string s] w (AtoiRes w (atoiV s.data.toList)) := by
  obtain ⟨e1, h1, h1'⟩ := hg.s
  obtain ⟨e2, h2, h2'⟩ := hg.r
  rcases ha : Lib.atoiAll s.data.toList with v | _ | _
  ·
    have hv : atoiV s.data.toList = v := by unfold atoiV; rw [ha]
    rw [hv]
    refine (Tryz.strconv_Atoi_ok s (by omega) v ha w).mono ?_
    rintro e w' ⟨rfl, rfl | ⟨t, rfl⟩⟩
    · exact ⟨_, rfl, Below.refl _ _⟩
    · exact ⟨_, rfl, Lib.bytesWorld_below _ _ _⟩
  ·
    have hv : atoiV s.data.toList = 0 := by unfold atoiV; rw [ha]
    rw [hv]
    refine (Any.strconv_Atoi_syntax Tryz.laysC172 s (by omega) ha e1 w h1 h1').mono ?_
    rintro e w' ⟨N, rfl, _, _, hb⟩
    exact ⟨_, rfl, hb⟩
  ·
    have hv : atoiV s.data.toList = Lib.atoiSat s.data.toList := by unfold atoiV; rw [ha]
    rw [hv]
    refine (Any.strconv_Atoi_range Tryz.laysC172 s (by omega) ha e2 w h2 h2').mono ?_
    rintro e w' ⟨N, rfl, _, _, hb⟩
    exact ⟨_, rfl, hb⟩
end Go.Proofs.YtjbihmglpfdmnaaGreatDoor
namespace Go.Proofs.YtjbihmglpfdmnaaGreatDoor
open Go Go.RowKit

theorem splitK_len (sep : List UInt8) : ∀ (k : Nat) (l p : List UInt8), p ∈ Lib.splitK sep 0 k l → p.length ≤ l.length
  | 0, l, p, h => by simp [Lib.splitK] at h; subst h; exact Nat.le_refl _
  | k + 1, l, p, h => by
    unfold Lib.splitK at h
    split at h
    · simp at h; subst h; exact Nat.le_refl _
    · rcases List.mem_cons.1 h with rfl | h
      · simp
        omega
      · have := splitK_len sep k _ p h
        simp at this; omega
theorem pieceD_len (s : ByteArray) (i : Nat) : (pieceD s i).size ≤ s.size := by
  unfold pieceD
  cases h : (Lib.splitB ⟨#[32]⟩ 0 (min 4 (s.size + 1) - 1) s)[i]? with
  | none => exact Nat.zero_le _
  | some p =>
    have hm := List.mem_of_getElem? h
    have hd := Lib.splitB_data ⟨#[32]⟩ 0 (min 4 (s.size + 1) - 1) s
    have hp : p.data.toList ∈ Lib.splitK [32] 0 (min 4 (s.size + 1) - 1) s.data.toList := by
      rw [show ([32] : List UInt8) = (⟨#[32]⟩ : ByteArray).data.toList from rfl, ← hd]
      exact List.mem_map.2 ⟨p, hm, rfl⟩
    have := splitK_len _ _ _ _ hp
    simp only [Option.getD_some]
    rw [Lib.size_eq, Lib.size_eq]; exact this
theorem pieceD_get {s : ByteArray} {i : Nat} (h : i < (splitQ s).length) : (splitQ s)[i]? = some (pieceD s i) := by
  unfold pieceD
  show (splitQ s)[i]? = some (((splitQ s)[i]?).getD ⟨#[]⟩)
  rw [List.getElem?_eq_getElem h]; rfl
theorem pieceD_none {s : ByteArray} {i : Nat} (h : (splitQ s).length ≤ i) : pieceD s i = ⟨#[]⟩ := by
  unfold pieceD
  show ((splitQ s)[i]?).getD ⟨#[]⟩ = _
  rw [List.getElem?_eq_none h]; rfl
def stN (s : ByteArray) (k : Nat) : ByteArray := if 1 ≤ k then pieceD s 1 else ⟨#[]⟩
def stA (s : ByteArray) (k : Nat) : Int := if 2 ≤ k then atoiV (pieceD s 2).data.toList else 0
def stT (s : ByteArray) (k : Nat) : ByteArray := if 3 ≤ k then pieceD s 3 else ⟨#[]⟩
def kdD (s : ByteArray) : Nat := (Lib.index [45, 43, 60, 62] (pieceD s 0).data.toList + 1).toNat
theorem candD_st {s : ByteArray} {k : Nat} (h : k + 1 = (splitQ s).length) : candD s = ⟨kdD s, stN s k, stA s k, stT s k⟩ := by
  have e1 : stN s k = pieceD s 1 := by
    unfold stN
    split
    · rfl
    · rw [pieceD_none (by omega)]
  have e2 : stA s k = atoiV (pieceD s 2).data.toList := by
    unfold stA
    split
    · rfl
    · rw [pieceD_none (by omega), atoiV_nil]
  have e3 : stT s k = pieceD s 3 := by
    unfold stT
    split
    · rfl
    · rw [pieceD_none (by omega)]
  rw [e1, e2, e3]; rfl
theorem st_zero (s : ByteArray) : stN s 0 = ⟨#[]⟩ ∧ stA s 0 = 0 ∧ stT s 0 = ⟨#[]⟩ := ⟨rfl, rfl, rfl⟩
theorem st_one (s : ByteArray) : stN s 1 = pieceD s 1 ∧ stA s 1 = stA s 0 ∧ stT s 1 = stT s 0 := ⟨rfl, rfl, rfl⟩
theorem st_two (s : ByteArray) : stN s 2 = stN s 1 ∧ stA s 2 = atoiV (pieceD s 2).data.toList ∧ stT s 2 = stT s 1 := ⟨rfl, rfl, rfl⟩
theorem st_three (s : ByteArray) : stN s 3 = stN s 2 ∧ stA s 3 = stA s 2 ∧ stT s 3 = pieceD s 3 := ⟨rfl, rfl, rfl⟩
theorem stN_len (s : ByteArray) (k : Nat) : (stN s k).size ≤ s.size := by
  unfold stN; split
  · exact pieceD_len _ _
  · exact Nat.zero_le _
theorem stT_len (s : ByteArray) (k : Nat) : (stT s k).size ≤ s.size := by
  unfold stT; split
  · exact pieceD_len _ _
  · exact Nat.zero_le _
theorem kdD_int (s : ByteArray) : Lib.index [45, 43, 60, 62] (pieceD s 0).data.toList + 1 = (kdD s : Int) := by
  have := Lib.index_ge [45, 43, 60, 62] (pieceD s 0).data.toList
  unfold kdD; omega
theorem kdD_le (s : ByteArray) : kdD s ≤ 5 := by
  have := Lib.index_le [45, 43, 60, 62] (pieceD s 0).data.toList
  unfold kdD; simp at this; omega
/-- the four ways out of diff.read -/
theorem readD_line {s : ByteArray} (h : (lineP (candD s)).size = 0) : readM s = none := by
  rw [readM_D, if_neg]
  rintro ⟨h1, h2⟩
  rw [h1] at h; exact h2 h
theorem readD_ne {s : ByteArray} (h : ¬ lineP (candD s) = s) : readM s = none := by rw [readM_D, if_neg (fun e => h e.1)]
theorem readD_yes {s : ByteArray} (h : lineP (candD s) = s) (h0 : ¬ (lineP (candD s)).size = 0) : readM s = some (candD s) := by rw [readM_D, if_pos ⟨h, by rwa [h] at h0⟩]
theorem lineLs_head {kd m : Nat} {n t : List UInt8} (hn : 1 ≤ n.length) : ∃ c r, lineLs kd n m t = c :: 32 :: r ∧ c ≠ 32 ∧ 1 ≤ r.length := by
  unfold lineLs
  split
  · exact ⟨45, _, rfl, by decide, hn⟩
  · split
    · exact ⟨43, _, rfl, by decide, hn⟩
    · split
      · exact ⟨60, _, rfl, by decide, by simp; omega⟩
      · exact ⟨62, _, rfl, by decide, by simp; omega⟩
theorem readD_head {s : ByteArray} (h : (pieceD s 0).size = 0) : readM s = none := by
  rw [readM_D, if_neg]
  rintro ⟨h1, h2⟩
  have hv := lineV_of h1 h2
  have hg := lineP_good hv
  rw [h1] at hg
  obtain ⟨c, r, e1, e2, e3⟩ := lineLs_head (kd := (candD s).kind) (m := (candD s).at'.toNat) (t := (candD s).text.data.toList) (name_pos (lineV_parts hv).1)
  rw [e1] at hg
  have hs3 : 3 ≤ s.size := by rw [Lib.size_eq, hg]; simp; omega
  have hp := pieceD_of hs3 (P := [c] :: Lib.splitK [32] 0 2 r) (by rw [hg]; exact splitK_hit (a := [c]) (by simpa using fun e => e2 e.symm)) 0
  rw [Lib.size_eq, hp] at h
  simp at h
attribute [irreducible] kdD stN stA stT
def DrSt (w1 : World) (kd : Nat) (n : ByteArray) (m : Int) (t : ByteArray) (wx : World) : Prop :=
  Below w1.heap.size w1 wx ∧ Arr wx w1.heap.size [.int .u8 (kd : Int), .string n, .int .i64 m, .string t]
theorem DrSt.name {w1 wx : World} {kd : Nat} {m : Int} {n t : ByteArray} (h : DrSt w1 kd n m t wx) (n' : ByteArray) : DrSt w1 kd n' m t (wx.setCell ⟨w1.heap.size, 1, none⟩ (.string n')) :=
  ⟨h.1.setCell (p := ⟨w1.heap.size, 1, none⟩) (Nat.le_refl _) _, h.2.set 1 _⟩
theorem DrSt.at {w1 wx : World} {kd : Nat} {m : Int} {n t : ByteArray} (h : DrSt w1 kd n m t wx) (m' : Int) : DrSt w1 kd n m' t (wx.setCell ⟨w1.heap.size, 2, none⟩ (.int .i64 m')) :=
  ⟨h.1.setCell (p := ⟨w1.heap.size, 2, none⟩) (Nat.le_refl _) _, h.2.set 2 _⟩
theorem DrSt.text {w1 wx : World} {kd : Nat} {m : Int} {n t : ByteArray} (h : DrSt w1 kd n m t wx) (t' : ByteArray) : DrSt w1 kd n m t' (wx.setCell ⟨w1.heap.size, 3, none⟩ (.string t')) :=
  ⟨h.1.setCell (p := ⟨w1.heap.size, 3, none⟩) (Nat.le_refl _) _, h.2.set 3 _⟩
theorem DrSt.over {w1 wx wy : World} {kd : Nat} {m : Int} {n t : ByteArray} (h : DrSt w1 kd n m t wx) (hb : Below wx.heap.size wx wy) : DrSt w1 kd n m t wy := ⟨below_over h.1 h.1.size hb, h.2.over hb⟩
def DrRel (w1 : World) (s : ByteArray) (v : Value) (wx : World) : Prop :=
  ∃ k : Nat, k + 1 ≤ (splitQ s).length ∧ v = .int .i64 k ∧ Hid (DrSt w1 (kdD s) (stN s k) (stA s k) (stT s k) wx)
theorem rowT_editP : RowT Tryz.prog 37 4 := rowT_of Tryz.underlying37 rfl (by kernel_rfl)

theorem index_sgn (s : ByteArray) (w : World) (hg : Glob w) : Calls Tryz.prog 32 #[.string ⟨#[45, 43, 60, 62]⟩, .string (pieceD s 0)] w fun e w' => e = .returned (.int .i64 ((kdD s : Int) - 1)) ∧ w' = w := by
  refine (indexTx_any _ _ _ hg (by decide)).mono ?_
  rintro e w' ⟨rfl, rfl⟩
  refine ⟨ret_int ?_, rfl⟩
  have := kdD_int s
  show Lib.index [45, 43, 60, 62] (pieceD s 0).data.toList = _
  omega

set_option maxHeartbeats 10000000 in
set_option maxRecDepth 100000 in
theorem dread_any (s : ByteArray) (w : World) (hg : Glob w) (hs : s.size ≤ 100000) :
    Calls Tryz.prog 16 #[.string s] w (ReadRes w (readM s)) := by
  have HB0 := Lib.hid (below_box (w := w) (.cells #[.int .u8 0, .string ⟨#[]⟩, .int .i64 0, .string ⟨#[]⟩] 37))
  have HG0 := Lib.hid (hg.over HB0.out)
  have hQ1 := splitQ_pos s
  have hQ4 := splitQ_le s
  clear hg
  go_enter Tryz.func16, Tryz.ntmps16
  go_wp2_with fail
  refine (split_any s _ HG0.out hs).mono ?_
  rintro e w1 ⟨lv, rfl, hlv, hb1⟩
  obtain ⟨a0, cap, rfl, h1, h2, _, hc⟩ := hlv.form
  obtain ⟨b, off, rfl, hb, hc⟩ := hc.resolve_left (by omega)
  unfold maxLen at h2
  have HLv := Lib.hid hlv
  have HC := Lib.hid hc
  have HB1 := Lib.hid hb1
  have HG1 := Lib.hid (HG0.out.over hb1)
  have c0 : w1.cell? ⟨b, off, none⟩ = some (.string (pieceD s 0)) := hc 0 _ (pieceD_get (by omega))
  have hRw : w.heap.size < w1.heap.size := by have := hb1.size; simp at this; omega
  have HA1 := Lib.hid ((arr_new w #[.int .u8 0, .string ⟨#[]⟩, .int .i64 0, .string ⟨#[]⟩] 37).over hb1)
  have HK := Lib.hid (kdD_int s)
  have hkl := kdD_le s
  clear hlv hc hb1
  go_wp2_with fail
  refine (index_sgn s _ HG1.out).mono ?_
  rintro e w2 ⟨rfl, rfl⟩
  have HLv2 := Lib.hid (HLv.out.over (below_box (.cells #[.int .u8 (kdD s : Int), .string ⟨#[]⟩, .int .i64 0, .string ⟨#[]⟩] 37)))
  have HDr : Hid (∀ j, j + 1 < (splitQ s).length → (((splitQ s).drop 1).map Value.string)[j]? = some (.string (pieceD s (j + 1)))) := fun j hj => by
    rw [List.getElem?_map, List.getElem?_drop, Nat.add_comm, pieceD_get hj]; rfl
  go_wp2_with (refine wpList_slice_from slStr rfl _ _ rfl _ _ _ HLv2.out rfl _ 1 rfl rfl hQ1 ?_; intro v3 hv3; obtain ⟨oa, oc, rfl, o1, o2, _, o3⟩ := (srow_drop hv3 HLv.out).form; have HO3 := Lib.hid o3; clear hv3 o3; unfold maxLen at o2)
  go_loopw [21] (fun v wx => DrRel w2 s v wx) (fun v _ => (splitQ s).length - (intOf v).toNat)
  case atStart => exact ⟨0, hQ1, rfl, by
    have := st_zero s
    show DrSt _ _ _ _ _ _
    rw [this.1, this.2.1, this.2.2]
    exact ⟨below_box _, arr_new _ _ _⟩⟩
  case round =>
    obtain ⟨k, hk, rfl, HR⟩ := hrel
    have HGx := Lib.hid (HG1.out.over HR.out.1)
    have sx := HR.out.2.lt
    by_cases hlt : k + 1 < (splitQ s).length
    · obtain ⟨b2, off2, rfl, sb2, hc2⟩ := HO3.out.resolve_left (by omega)
      have d0 : wr.cell? ⟨b2, off2 + k, none⟩ = some (.string (pieceD s (k + 1))) := (HR.out.1.cell (p := ⟨b2, off2 + k, none⟩) sb2).trans (hc2 k _ (HDr.out k hlt))
      have sb : b2 < wr.heap.size := Nat.lt_of_lt_of_le sb2 HR.out.1.size
      have hl1 : k < (splitQ s).length - 1 := by omega
      clear hc2
      by_cases k0 : k = 0
      · have e0 : ((k : Int) == 0) = true := by simp [k0]
        have f1 := HR.out.2.free 1
        have a1 := HR.out.2.cell (j := 1) rfl
        have HN : Hid (DrSt w2 (kdD s) (stN s (k + 1)) (stA s (k + 1)) (stT s (k + 1)) (wr.setCell ⟨w2.heap.size, 1, none⟩ (.string (pieceD s (k + 1))))) := by
          have h1 := st_one s
          have := HR.out.name (pieceD s (k + 1))
          show DrSt _ _ _ _ _ _
          subst k0
          rw [h1.1, h1.2.1, h1.2.2]; exact this
        clear k0
        go_wp2_with fail
        go_roundw
        case rel => exact ⟨k + 1, hlt, by go_num, HN.out⟩
        case measure => simp [intOf]; omega
      · have e0 : ((k : Int) == 0) = false := by simp [k0]
        by_cases k1 : k = 1
        · have e1 : ((k : Int) == 1) = true := by simp [k1]
          have hz2 : (pieceD s (k + 1)).size ≤ 100000 := Nat.le_trans (pieceD_len _ _) hs
          have HN : Hid (∀ wy, Below wr.heap.size wr wy → DrSt w2 (kdD s) (stN s (k + 1)) (stA s (k + 1)) (stT s (k + 1)) (wy.setCell ⟨w2.heap.size, 2, none⟩ (.int .i64 (atoiV (pieceD s (k + 1)).data.toList)))) := fun wy hwy => by
            have h1 := st_two s
            have := (HR.out.over hwy).at (atoiV (pieceD s (k + 1)).data.toList)
            subst k1
            rw [h1.1, h1.2.1, h1.2.2]; exact this
          clear k0 k1
          go_wp2_with fail
          refine (atoi_any (pieceD s (k + 1)) _ HGx.out hz2).mono ?_
          rintro e w3 ⟨u, rfl, hb3⟩
          have ar := (HR.out.over hb3).2
          have a2 := ar.cell (j := 2) rfl
          have f2 := ar.free 2
          have sx3 := ar.lt
          have HN3 := Lib.hid (HN.out _ hb3)
          clear ar hb3 d0 sb
          go_wp2_with fail
          go_roundw
          case rel => exact ⟨k + 1, hlt, by go_num, HN3.out⟩
          case measure => simp [intOf]; omega
        · have k2 : k = 2 := by omega
          have e1 : ((k : Int) == 1) = false := by simp; omega
          have e2 : ((k : Int) == 2) = true := by rw [k2]; rfl
          have f3 := HR.out.2.free 3
          have a3 := HR.out.2.cell (j := 3) rfl
          have HN : Hid (DrSt w2 (kdD s) (stN s (k + 1)) (stA s (k + 1)) (stT s (k + 1)) (wr.setCell ⟨w2.heap.size, 3, none⟩ (.string (pieceD s (k + 1))))) := by
            have h1 := st_three s
            have := HR.out.text (pieceD s (k + 1))
            show DrSt _ _ _ _ _ _
            subst k2
            rw [h1.1, h1.2.1, h1.2.2]; exact this
          clear k0 k1 k2
          go_wp2_with fail
          go_roundw
          case rel => exact ⟨k + 1, hlt, by go_num, HN.out⟩
          case measure => simp [intOf]; omega
    · have HX : Hid (candD s = ⟨kdD s, stN s k, stA s k, stT s k⟩) := candD_st (by omega)
      have hl1 : (splitQ s).length - 1 ≤ k := by omega
      have hzN : (stN s k).size ≤ maxLen := by have := stN_len s k; unfold maxLen; omega
      have hzT : (stT s k).size ≤ maxLen := by have := stT_len s k; unfold maxLen; omega
      have HZ := Lib.hid (And.intro hzN hzT)
      clear hzN hzT
      have a0 := HR.out.2.cell (j := 0) rfl
      have a1 := HR.out.2.cell (j := 1) rfl
      have a2 := HR.out.2.cell (j := 2) rfl
      have a3 := HR.out.2.cell (j := 3) rfl
      go_wp2_with fail
      refine (eline_any ⟨kdD s, stN s k, stA s k, stT s k⟩ _ HZ.out.1 HZ.out.2).mono ?_
      rintro e w5 ⟨rfl, hb5⟩
      have HR6 := Lib.hid (HR.out.over hb5)
      have b0 := HR6.out.2.cell (j := 0) rfl
      have b1 := HR6.out.2.cell (j := 1) rfl
      have b2 := HR6.out.2.cell (j := 2) rfl
      have b3 := HR6.out.2.cell (j := 3) rfl
      have sx6 := HR6.out.2.lt
      have d0 : w5.cell? ⟨b, off, none⟩ = some (.string (pieceD s 0)) := (HR6.out.1.cell (p := ⟨b, off, none⟩) hb).trans c0
      have sb5 : b < w5.heap.size := Nat.lt_of_lt_of_le hb HR6.out.1.size
      have HAr := Lib.hid (HA1.out.below HR6.out.1 hRw)
      have r0 := HAr.out.cell (j := 0) rfl
      have r1 := HAr.out.cell (j := 1) rfl
      have r2 := HAr.out.cell (j := 2) rfl
      have r3 := HAr.out.cell (j := 3) rfl
      have g0 := HAr.out.free 0
      have g1 := HAr.out.free 1
      have g2 := HAr.out.free 2
      have g3 := HAr.out.free 3
      have sr := HAr.out.lt
      have HBl := Lib.hid (below_over (below_over HB0.out HB0.out.size HB1.out) (by have := HB0.out.size; have := HB1.out.size; omega) HR6.out.1)
      clear a0 a1 a2 a3 sx hb5 c0 hc
      rw [← HX.out]
      by_cases h0 : (pieceD s 0).size = 0
      · have HN := Lib.hid (readD_head h0)
        have q1 : (pieceD s 0).toList = [] := empty_tl h0
        clear h0
        go_wp2_with fail
        exact bodyPost_ret (v := .tuple #[.agg #[.int .u8 0, .string ⟨#[]⟩, .int .i64 0, .string ⟨#[]⟩], .bool false]) (results_arr_tmp rowT_editP rfl (cs := [.int .u8 0, .string ⟨#[]⟩, .int .i64 0, .string ⟨#[]⟩]) ((((HAr.out.set 0 _).set 1 _).set 2 _).set 3 _) rfl rfl rfl) rfl (readRes_no HN.out ((((HBl.out.setCell (Nat.le_refl _) _).setCell (Nat.le_refl _) _).setCell (Nat.le_refl _) _).setCell (Nat.le_refl _) _))
      · have q1 := nonempty_tl (s := pieceD s 0) (by omega)
        have q11 := q1.1
        have q12 := q1.2
        clear h0 q1
        by_cases h1 : (lineP (candD s)).size = 0
        · have HN := Lib.hid (readD_line h1)
          have q2 : (lineP (candD s)).toList = [] := empty_tl h1
          clear h1
          go_wp2_with fail
          exact bodyPost_ret (v := .tuple #[.agg #[.int .u8 0, .string ⟨#[]⟩, .int .i64 0, .string ⟨#[]⟩], .bool false]) (results_arr_tmp rowT_editP rfl (cs := [.int .u8 0, .string ⟨#[]⟩, .int .i64 0, .string ⟨#[]⟩]) ((((HAr.out.set 0 _).set 1 _).set 2 _).set 3 _) rfl rfl rfl) rfl (readRes_no HN.out ((((HBl.out.setCell (Nat.le_refl _) _).setCell (Nat.le_refl _) _).setCell (Nat.le_refl _) _).setCell (Nat.le_refl _) _))
        · have q2 := nonempty_tl (s := lineP (candD s)) (by omega)
          have q21 := q2.1
          have q22 := q2.2
          by_cases hq : lineP (candD s) = s
          · have HN := Lib.hid (readD_yes hq h1)
            have he : ((lineP (candD s)).toList == s.toList) = true := seq_t hq
            clear h1 hq q2
            go_wp2_with fail
            exact bodyPost_ret (v := .tuple #[.agg #[.int .u8 (kdD s : Int), .string (stN s k), .int .i64 (stA s k), .string (stT s k)], .bool true]) (results_arr_tmp rowT_editP rfl (cs := [.int .u8 (kdD s : Int), .string (stN s k), .int .i64 (stA s k), .string (stT s k)]) ((((HAr.out.set 0 _).set 1 _).set 2 _).set 3 _) rfl rfl rfl) rfl (readRes_yes (HN.out.trans (congrArg some HX.out)) ((((HBl.out.setCell (Nat.le_refl _) _).setCell (Nat.le_refl _) _).setCell (Nat.le_refl _) _).setCell (Nat.le_refl _) _))
          · have HN := Lib.hid (readD_ne hq)
            have he : ((lineP (candD s)).toList == s.toList) = false := seq_f hq
            clear h1 hq q2
            go_wp2_with fail
            exact bodyPost_ret (v := .tuple #[.agg #[.int .u8 0, .string ⟨#[]⟩, .int .i64 0, .string ⟨#[]⟩], .bool false]) (results_arr_tmp rowT_editP rfl (cs := [.int .u8 0, .string ⟨#[]⟩, .int .i64 0, .string ⟨#[]⟩]) ((((HAr.out.set 0 _).set 1 _).set 2 _).set 3 _) rfl rfl rfl) rfl (readRes_no HN.out ((((HBl.out.setCell (Nat.le_refl _) _).setCell (Nat.le_refl _) _).setCell (Nat.le_refl _) _).setCell (Nat.le_refl _) _))
end Go.Proofs.YtjbihmglpfdmnaaGreatDoor
namespace Go.Proofs.YtjbihmglpfdmnaaGreatDoor
open Go Go.RowKit

theorem first_split {c : UInt8} {l : List UInt8} (h : c ∈ l) : ∃ a r, l = a ++ c :: r ∧ c ∉ a := by
  obtain ⟨a, r, h1, h2⟩ := List.eq_append_cons_of_mem h
  exact ⟨a, r, h1, h2⟩
theorem cut_miss {c : UInt8} {l : List UInt8} (h : c ∉ l) : Lib.cut l [c] = (l, [], false) := by
  unfold Lib.cut
  rw [index_miss h, if_neg (by decide)]
theorem cut_hit {c : UInt8} {a r : List UInt8} (h : c ∉ a) : Lib.cut (a ++ c :: r) [c] = (a, r, true) := by
  unfold Lib.cut
  rw [index_hit h, if_pos (by omega)]
  simp
theorem meas_cut (a r : List UInt8) : (⟨r.toArray⟩ : ByteArray).size < (toB (a ++ 10 :: r)).size := by
  rw [toB_size]
  show r.toArray.size < _
  simp; omega
def DPRel (w : World) (s : ByteArray) (v0 v5 : Value) (wr : World) : Prop :=
  ∃ (es : List EditM) (l : List UInt8), v0 = .string (toB l) ∧ es.length + l.length ≤ s.size ∧ Hid (EOwn wr w.heap.size 37 v5 es) ∧ Hid (parseP es (splitC 10 l) = parseM s) ∧ Below w.heap.size w wr
theorem below_one {w w' : World} (h : Below w.heap.size w w') (o : Obj) : Below w.heap.size w (w'.alloc o) := h.alloc h.size o

set_option maxHeartbeats 10000000 in
set_option maxRecDepth 100000 in
theorem dparse_any (s : ByteArray) (w : World) (hg : Glob w) (hs : s.size ≤ 100000) :
    Calls Tryz.prog 6 #[.string s] w (ParseRes w (parseM s)) := by
  have HG0 := Lib.hid hg
  have HM : Hid (parseP [] (splitC 10 s.data.toList) = parseM s) := rfl
  have HS : Hid (s = toB s.data.toList) := ba_ext (by rw [toB_list])
  clear hg
  go_enter Tryz.func6, Tryz.ntmps6
  go_wp2_with fail
  go_step3
  go_wp2_with fail
  go_step3
  go_wp2_with fail
  go_loopw [0, 5] (fun v0 v5 wr => DPRel w s v0 v5 wr) (fun v0 _ _ => (match v0 with | .string b => b.size | _ => 0))
  case atStart => exact ⟨[], s.data.toList, congrArg Value.string HS.out, by simp, World.ownsRow_nil _ _ _ _, HM, Below.refl _ _⟩
  case round =>
    obtain ⟨es, l, rfl, hlen, HO, HL, hbl⟩ := hrel
    obtain ⟨oa, oc, rfl, ho1, ho2, _, _⟩ := HO.out.row.form
    have hz := toB_size l
    have hzl : (toB l).size ≤ 100000 := by rw [hz]; omega
    by_cases h0 : l = []
    · have HR : Hid (parseM s = (es, es.length, 0)) := by
        show _ = _
        rw [← HL.out, h0]
        exact parseP_end es
      have q1 : (toB l).toList = [] := empty_tl (by rw [hz, h0]; rfl)
      clear h0 hz hzl
      go_wp2_with fail
      rw [Exit.noGoto_ret]
      go_ret3
      exact parseRes_of HR.out HO.out.row hbl rfl rfl
    · have q1 := nonempty_tl (s := toB l) (by rw [hz]; exact List.length_pos_iff.2 h0)
      have q11 := q1.1
      have q12 := q1.2
      have HGr := Lib.hid (HG0.out.over hbl)
      by_cases hm : 10 ∈ l
      · obtain ⟨a, r, rfl, ha⟩ := first_split hm
        have HC : Hid (Lib.cut (toB (a ++ 10 :: r)).data.toList [10] = (a, r, true)) := by show _ = _; rw [toB_list, cut_hit ha]
        have HL2 : Hid (parseP es (a :: splitC 10 r) = parseM s) := by show _ = _; rw [← HL.out, splitC_hit ha]
        have hza : (toB a).size ≤ 100000 := by rw [toB_size]; simp at hlen; omega
        clear h0 hm q1 ha HL
        cases hr : readM (toB a) with
        | none =>
          have HR : Hid (parseM s = ([], es.length + 1, 4)) := by show _ = _; rw [← HL2.out]; exact parseP_bad (splitC_ne _ _) hr
          have HRd := Lib.hid hr
          clear hr
          go_wp2_with fail
          refine (cutT_any _ _ HGr.out hzl).mono ?_
          rw [HC.out]
          rintro e w3 ⟨rfl, hb3⟩
          have HB3 := Lib.hid (below_over hbl hbl.size hb3)
          have HG3 := Lib.hid (HGr.out.over hb3)
          clear hb3
          go_wp2_with fail
          refine (dread_any (toB a) _ HG3.out hza).mono ?_
          rw [HRd.out]
          rintro e w4 ⟨rfl, hb4⟩
          have HB4 := Lib.hid (below_over HB3.out HB3.out.size hb4)
          clear hb4
          go_wp2_with fail
          rw [Exit.noGoto_ret]
          go_ret3
          exact parseRes_of HR.out (erow_nil _) (HB4.out.alloc HB4.out.size _) (by go_num) rfl
        | some x =>
          have HR : Hid (parseP (es ++ [x]) (splitC 10 r) = parseM s) := by show _ = _; rw [← HL2.out]; exact (parseP_go (splitC_ne _ _) hr).symm
          have HRd := Lib.hid hr
          clear hr
          go_wp2_with fail
          refine (cutT_any _ _ HGr.out hzl).mono ?_
          rw [HC.out]
          rintro e w3 ⟨rfl, hb3⟩
          have HB3 := Lib.hid (below_over hbl hbl.size hb3)
          have HG3 := Lib.hid (HGr.out.over hb3)
          have HO3 := Lib.hid (own_over HO.out hb3)
          clear hb3
          go_wp2_with fail
          refine (dread_any (toB a) _ HG3.out hza).mono ?_
          rw [HRd.out]
          rintro e w4 ⟨rfl, hb4⟩
          have HB4 := Lib.hid (below_over HB3.out HB3.out.size hb4)
          have HO4 := Lib.hid (own_over HO3.out hb4)
          have hN : es.length + 1 ≤ 1099511627776 := by omega
          have hB4 : w.heap.size ≤ w4.heap.size + 1 := by have := HB4.out.size; omega
          clear hb4
          go_wp2_with (at_builtin; refine wpList_append_newH slEditP rfl _ _ rfl w.heap.size _ _ (w4.heap.size + 1) (by simp) 1 _ _ _ (HO4.out.alloc _) rfl rfl rfl rfl hN (by decide) hB4 ?_; intro v2 w2 ho2 hg2)
          have hg2' := grown_alloc hg2
          go_roundw
          case rel => exact ⟨es ++ [x], r, rfl, by simp at hlen ⊢; omega, EOwn.snoc ho2, HR, below_grown HB4.out HB4.out.size HO4.out hg2'⟩
          case measure => exact meas_cut a r
      · have HC : Hid (Lib.cut (toB l).data.toList [10] = (l, [], false)) := by show _ = _; rw [toB_list, cut_miss hm]
        have HR : Hid (parseM s = ([], es.length + 1, 2)) := by show _ = _; rw [← HL.out, splitC_none hm]; exact parseP_short h0
        clear h0 hm q1
        go_wp2_with fail
        refine (cutT_any _ _ HGr.out hzl).mono ?_
        rw [HC.out]
        rintro e w3 ⟨rfl, hb3⟩
        have HB3 := Lib.hid (below_over hbl hbl.size hb3)
        clear hb3
        go_wp2_with fail
        rw [Exit.noGoto_ret]
        go_ret3
        exact parseRes_of HR.out (erow_nil _) HB3.out (by go_num) rfl
end Go.Proofs.YtjbihmglpfdmnaaGreatDoor
namespace Go.Proofs.YtjbihmglpfdmnaaGreatDoor
open Go Go.RowKit

theorem parseP_len : ∀ (P : List (List UInt8)) (acc : List EditM), (parseP acc P).1.length ≤ acc.length + P.length
  | [], acc => by unfold parseP; simp
  | [p], acc => by
    unfold parseP
    split <;> simp
  | p :: q :: r, acc => by
    rw [parseP]
    split
    · simp
    · rename_i e _
      have := parseP_len (q :: r) (acc ++ [e])
      simp at this ⊢; omega
theorem parseM_len (s : ByteArray) : (parseM s).1.length ≤ s.size + 1 := by
  have h1 := parseP_len (splitC 10 s.data.toList) []
  have h2 := splitC_count 10 s.data.toList
  unfold parseM
  simp at h1 h2 ⊢; omega

set_option maxHeartbeats 10000000 in
set_option maxRecDepth 100000 in
theorem texts_any (ve : Value) (es : List EditM) (s : ByteArray) (w : World) (hg : Glob w) (he : ERow w ve es) :
    Calls Tryz.prog 3 #[ve, .string s] w fun e w' => e = .returned (.bool true) ∧ Below w.heap.size w w' := by
  have HG := Lib.hid hg
  have HE := Lib.hid he
  clear hg he
  cases ht : few50 es with
  | false =>
    go_enter Tryz.func3, Tryz.ntmps3
    go_wp2_with fail
    have h1 := few50_any ve es w HE.out
    rw [ht] at h1
    refine h1.mono ?_
    clear h1
    rintro e w2 ⟨rfl, hb2⟩
    go_wp2_with fail
    refine (works_any _).mono ?_
    rintro e w3 ⟨rfl, hb3⟩
    go_wp2_with fail
    go_ret
    exact ⟨rfl, below_over hb2 hb2.size hb3⟩
  | true =>
    by_cases hs : 4000 < s.size
    · have hd : decide ((4000 : Int) < (s.size : Int)) = true := by simp; omega
      go_enter Tryz.func3, Tryz.ntmps3
      go_wp2_with fail
      have h1 := few50_any ve es w HE.out
      rw [ht] at h1
      refine h1.mono ?_
      clear h1
      rintro e w2 ⟨rfl, hb2⟩
      go_wp2_with fail
      refine (works_any _).mono ?_
      rintro e w3 ⟨rfl, hb3⟩
      go_wp2_with fail
      go_ret
      exact ⟨rfl, below_over hb2 hb2.size hb3⟩
    · have hd : decide ((4000 : Int) < (s.size : Int)) = false := by simp; omega
      have HFe := Lib.hid (few50_of ht)
      have HLen : Hid (es.length ≤ 100000) := Nat.le_trans HFe.out.1 (by decide)
      have HSe : Hid (SzE es) := fun e he => ⟨Nat.le_trans (HFe.out.2 e he).1 (by decide), Nat.le_trans (HFe.out.2 e he).2 (by decide)⟩
      have hsz : s.size ≤ 100000 := by omega
      have hlR := parseM_len s
      have HP : Hid (ParseRes w (parseM s) = ParseRes w (parseM s)) := rfl
      generalize hR : parseM s = R at *
      obtain ⟨T, k, n⟩ := R
      have HR := Lib.hid hR
      clear hR HP
      have HLT : Hid (T.length ≤ 100000) := by show _ ≤ _; simp only at hlR; omega
      have HSm : Hid (sameE T T = true) := sameE_t rfl
      have hk1 : ((k : Int) == k) = true := by simp
      have hn1 : ((n : Int) == n) = true := by simp
      have hpp : ((⟨(printL es).toArray⟩ : ByteArray).toList == (⟨(printL es).toArray⟩ : ByteArray).toList) = true := seq_t rfl
      clear hlR
      go_enter Tryz.func3, Tryz.ntmps3
      go_wp2_with fail
      have h1 := few50_any ve es w HE.out
      rw [ht] at h1
      refine h1.mono ?_
      clear h1
      rintro e w2 ⟨rfl, hb2'⟩
      have HB2 := Lib.hid hb2'
      clear hb2'
      go_wp2_with fail
      have h1 := dparse_any s w2 (HG.out.over HB2.out) hsz
      rw [HR.out] at h1
      refine h1.mono ?_
      clear h1
      rintro e w3 ⟨v3, rfl, hr3, hb3⟩
      have HR3 : Hid (ERow w3 v3 T) := hr3
      have HB3 := Lib.hid (below_over HB2.out HB2.out.size hb3)
      clear hr3 hb3
      go_wp2_with fail
      have h1 := rparse_any s w3 hsz
      rw [HR.out] at h1
      refine h1.mono ?_
      clear h1
      rintro e w4 ⟨v4, rfl, hr4, hb4⟩
      have HR4 : Hid (ERow w4 v4 T) := hr4
      have HR34 := Lib.hid (HR3.out.over hb4)
      have HB4 := Lib.hid (below_over HB3.out HB3.out.size hb4)
      clear hr4 hb4
      go_wp2_with fail
      refine (print_any ve es _ (HE.out.over HB4.out) HSe.out HLen.out).mono ?_
      rintro e w5 ⟨rfl, hb5⟩
      have HB5 := Lib.hid (below_over HB4.out HB4.out.size hb5)
      have HR5a := Lib.hid (HR34.out.over hb5)
      have HR5b := Lib.hid (HR4.out.over hb5)
      clear hb5
      go_wp2_with fail
      refine (model_any ve es _ (HE.out.over HB5.out) HLen.out).mono ?_
      rintro e w6 ⟨v6, rfl, hr6, hb6⟩
      have HR6 := Lib.hid hr6
      have HB6 := Lib.hid (below_over HB5.out HB5.out.size hb6)
      have HR6a := Lib.hid (HR5a.out.over hb6)
      have HR6b := Lib.hid (HR5b.out.over hb6)
      clear hr6 hb6
      go_wp2_with fail
      refine (rprint_any v6 es _ HR6.out HSe.out HLen.out).mono ?_
      rintro e w7 ⟨rfl, hb7⟩
      have HB7 := Lib.hid (below_over HB6.out HB6.out.size hb7)
      have HR7a := Lib.hid (HR6a.out.over hb7)
      have HR7b := Lib.hid (HR6b.out.over hb7)
      clear hb7
      go_wp2_with fail
      have h1 := same_any v3 v4 _ _ w7 HR7a.out HR7b.out HLT.out
      rw [HSm.out] at h1
      refine h1.mono ?_
      clear h1
      rintro e w8 ⟨rfl, hb8⟩
      have HB8 := Lib.hid (below_over HB7.out HB7.out.size hb8)
      clear hb8
      go_wp2_with fail
      refine (works_any _).mono ?_
      rintro e w9 ⟨rfl, hb9⟩
      go_wp2_with fail
      go_ret
      exact ⟨rfl, below_over HB8.out HB8.out.size hb9⟩
end Go.Proofs.YtjbihmglpfdmnaaGreatDoor
