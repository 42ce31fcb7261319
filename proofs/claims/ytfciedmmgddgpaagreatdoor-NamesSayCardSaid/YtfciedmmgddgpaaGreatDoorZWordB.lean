/- Trees that lie in old memory. Contracts of bruitref15.Find, Same. Contracts of package word: letter, Name. More plain words of layer 14. Contracts of package word: Mark, Line; of strings.IndexByte. -/
import Derived.Test.YtfciedmmgddgpaaGreatDoorZGen
import Derived.Test.YtfciedmmgddgpaaGreatDoorZTreeP
import Derived.Test.YtfciedmmgddgpaaGreatDoorZTreeB
import Derived.Laws.RangeAny
import Derived.Lib.Bytealg
import Derived.Lib.IndexLaws
namespace Go.Proofs.YtfciedmmgddgpaaGreatDoor
open Go Go.RowKit

def encF (x : FileM × Value × Value) : List Value := [.string x.1.name, x.2.1, x.2.2]
theorem encF_len (x : FileM × Value × Value) : (encF x).length = 3 := rfl
def FRow (w : World) (v : Value) (t : List FileM) : Prop := ∃ hs : List (FileM × Value × Value), hs.map (·.1) = t ∧ Row w v t.length 3 (hs.flatMap encF) ∧ ∀ x ∈ hs, SRow w x.2.1 x.1.also ∧ SRow w x.2.2 x.1.lines
theorem FRow.over {w w' : World} {v : Value} {t : List FileM} (h : FRow w v t) (hb : Below w.heap.size w w') : FRow w' v t := by
  obtain ⟨hs, h1, h2, h3⟩ := h
  exact ⟨hs, h1, h2.over hb, fun x hx => ⟨(h3 x hx).1.over hb, (h3 x hx).2.over hb⟩⟩
theorem frow_nil (w : World) : FRow w (.slice none 0 0) [] := ⟨[], rfl, row_nil w 3, by simp⟩
/-- what lies at a file's place -/
structure FAt (w : World) (b o : Nat) (f : FileM) (av lv : Value) : Prop where
  c0 : w.cell? ⟨b, o, none⟩ = some (.string f.name)
  c1 : w.cell? ⟨b, o + 1, none⟩ = some av
  c2 : w.cell? ⟨b, o + 2, none⟩ = some lv
  also : SRow w av f.also
  lines : SRow w lv f.lines
theorem FAt.over {w w' : World} {b o : Nat} {f : FileM} {av lv : Value} (h : FAt w b o f av lv) (hb : Below w.heap.size w w') (hlt : b < w.heap.size) : FAt w' b o f av lv :=
  ⟨(hb.cell (p := ⟨b, _, none⟩) hlt).trans h.c0, (hb.cell (p := ⟨b, _, none⟩) hlt).trans h.c1, (hb.cell (p := ⟨b, _, none⟩) hlt).trans h.c2, h.also.over hb, h.lines.over hb⟩
theorem FRow.form {w : World} {v : Value} {t : List FileM} (h : FRow w v t) : ∃ a cap, v = .slice a t.length cap ∧ t.length ≤ cap ∧ cap ≤ maxLen ∧ (a = none → cap = 0) ∧
    (t.length = 0 ∨ ∃ b off, a = some ⟨b, off, none⟩ ∧ b < w.heap.size ∧ ∀ i f, t[i]? = some f → ∃ av lv, FAt w b (off + i * 3) f av lv) := by
  obtain ⟨hs, rfl, h2, h3⟩ := h
  obtain ⟨a, cap, e1, e2, e3, e4, e5⟩ := h2.form
  refine ⟨a, cap, e1, e2, e3, e4, e5.imp id ?_⟩
  rintro ⟨b, off, rfl, hb, hc⟩
  refine ⟨b, off, rfl, hb, fun i f hf => ?_⟩
  rw [List.getElem?_map, Option.map_eq_some_iff] at hf
  obtain ⟨x, hx, rfl⟩ := hf
  have hm := h3 x (List.mem_of_getElem? hx)
  exact ⟨x.2.1, x.2.2, Row.elem (j := 0) encF_len hc hx rfl, Row.elem (j := 1) encF_len hc hx rfl, Row.elem (j := 2) encF_len hc hx rfl, hm.1, hm.2⟩
end Go.Proofs.YtfciedmmgddgpaaGreatDoor
namespace Go.Proofs.YtfciedmmgddgpaaGreatDoor
open Go Go.RowKit

end Go.Proofs.YtfciedmmgddgpaaGreatDoor
namespace Go.Proofs.YtfciedmmgddgpaaGreatDoor
open Go Go.RowKit

set_option maxHeartbeats 1000000 in
theorem letter_any (n : Nat) (w : World) (hn : n ≤ 2147483647) :
    Calls Tryz.prog 138 #[.int .i32 (n : Int)] w fun e w' => e = .returned (.bool (letterN n)) ∧ w' = w := by
  go_enter Tryz.func138, Tryz.ntmps138
  cases hb : letterN n with
  | true =>
    rcases letterN_yes hb with rfl | rfl | rfl | ⟨h, h'⟩ | ⟨h, h'⟩
    all_goals
      clear hb
      go_wp2
      go_ret
      exact ⟨rfl, rfl⟩
  | false =>
    rcases letterN_no hb with ⟨h, e1, e2, e3⟩ | rfl | ⟨h, h', ⟨e1, e2, e3⟩, e4⟩ | rfl | ⟨h, ⟨e1, e2, e3⟩, e4, e5⟩
    all_goals
      clear hb
      go_wp2
      go_ret
      exact ⟨rfl, rfl⟩

theorem below_iter (w : World) (s : ByteArray) (k : Nat) : Below w.heap.size w (w.iter s k) := (Below.refl _ _).alloc (Nat.le_refl _) _

set_option maxHeartbeats 2000000 in
theorem name_any (s : ByteArray) (w : World) (hs : s.size ≤ maxLen) :
    Calls Tryz.prog 106 #[.string s] w fun e w' => e = .returned (.bool (nameOk s)) ∧ Below w.heap.size w w' := by
  unfold maxLen at hs
  go_enter Tryz.func106, Tryz.ntmps106
  go_wp2
  go_loopw [4] (fun _ w' => ∃ k : Nat, k ≤ s.size ∧ w' = w.iter s k ∧ Hid ((s.data.toList.take k).all letterB = true)) (fun _ w' => s.size - w'.iterPos w.heap.size)
  case atStart => exact ⟨0, by omega, rfl, rfl⟩
  case round =>
    obtain ⟨k, hk, rfl, HL⟩ := hrel
    by_cases hp : k < s.size
    · by_cases ha : s[k].toNat < 128
      · have hnx : ∀ ty, (Instr.next (.pointer (some ⟨w.heap.size, 0, none⟩)) true ty).run Tryz.prog (w.iter s k) = _ := fun ty => run_next_ascii w s k ty hp ha
        have hle : s[k].toNat ≤ 2147483647 := by omega
        cases hb : letterB s[k] with
        | true =>
          have HS := Lib.hid (all_snoc hp HL.out hb)
          have hl : letterN s[k].toNat = true := by rw [letterN_of]; exact hb
          clear hb
          go_wp2_with (go_at_call 138; (with_reducible refine (letter_any _ _ hle).mono ?_); rintro e w2 ⟨rfl, rfl⟩)
          go_roundw
          case rel => exact ⟨k + 1, by omega, rfl, HS⟩
          case measure => simp; omega
        | false =>
          have HN := Lib.hid (nameOk_bad hp hb)
          have hl : letterN s[k].toNat = false := by rw [letterN_of]; exact hb
          clear hb
          go_wp2_with (go_at_call 138; (with_reducible refine (letter_any _ _ hle).mono ?_); rintro e w2 ⟨rfl, rfl⟩)
          go_ret
          exact ⟨ret_val (congrArg Value.bool HN.out.symm), below_iter _ _ _⟩
      · have hnx : ∀ ty, (Instr.next (.pointer (some ⟨w.heap.size, 0, none⟩)) true ty).run Tryz.prog (w.iter s k) = _ := fun ty => run_next_any w s k ty hp
        have hd := decode_high s k hp (by omega)
        have hle := decode_le s k
        have HN := Lib.hid (nameOk_bad hp (letterB_high (by omega)))
        have hl : letterN (Utf8.decode s k).1 = false := letterN_high hd.1
        generalize (Utf8.decode s k).1 = r at *
        generalize (Utf8.decode s k).2 = q at *
        clear hd ha
        go_wp2_with (go_at_call 138; (with_reducible refine (letter_any _ _ hle).mono ?_); rintro e w2 ⟨rfl, rfl⟩)
        go_ret
        exact ⟨ret_val (congrArg Value.bool HN.out.symm), below_iter _ _ _⟩
    · have hnx : ∀ ty, (Instr.next (.pointer (some ⟨w.heap.size, 0, none⟩)) true ty).run Tryz.prog (w.iter s k) = _ := fun ty => run_next_end w s k ty hp
      obtain rfl : k = s.size := by omega
      have hall : s.data.toList.all letterB = true := by
        have := HL.out
        rwa [List.take_of_length_le (by simp)] at this
      have HN := Lib.hid (nameOk_all hall)
      clear hall
      by_cases h1 : 1 ≤ s.size
      · obtain ⟨g1, g2⟩ := nonempty_tl h1
        go_wp2_with fail
        go_ret
        refine ⟨ret_val ?_, below_iter _ _ _⟩
        rw [HN.out]
        simp [h1]
        try omega
      · have g1 := empty_tl (s := s) (by omega)
        go_wp2_with fail
        go_ret
        refine ⟨ret_val ?_, below_iter _ _ _⟩
        rw [HN.out]
        simp [h1]
end Go.Proofs.YtfciedmmgddgpaaGreatDoor
namespace Go.Proofs.YtfciedmmgddgpaaGreatDoor
open Go

theorem mark_list : ∀ {l : List UInt8} {c : UInt8}, 7 ≤ l.length → l[0]? = some c → markL l = (markAt c && ((l.drop 1).take 6 == l.take 6))
  | c0 :: c1 :: c2 :: c3 :: c4 :: c5 :: c6 :: r, c, _, h => by
    simp at h; subst h
    simp only [markL, List.drop_succ_cons, List.drop_zero, List.take_succ_cons, List.take_zero]
    congr 1
    rw [Bool.eq_iff_iff]
    simp only [Bool.and_eq_true, beq_iff_eq, List.cons.injEq, and_true]
    constructor
    · rintro ⟨⟨⟨⟨⟨h1, h2⟩, h3⟩, h4⟩, h5⟩, h6⟩; subst h1 h2 h3 h4 h5 h6; simp
    · rintro ⟨h1, h2, h3, h4, h5, h6⟩; subst h1 h2 h3 h4 h5 h6; simp
  | [], _, h, _ => by simp at h
  | [_], _, h, _ => by simp at h | [_, _], _, h, _ => by simp at h | [_, _, _], _, h, _ => by simp at h | [_, _, _, _], _, h, _ => by simp at h | [_, _, _, _, _], _, h, _ => by simp at h | [_, _, _, _, _, _], _, h, _ => by simp at h
theorem extract_tl (s : ByteArray) (a b : Nat) : (s.extract a b).toList = (s.data.toList.drop a).take (b - a) := by
  rw [ByteArray.toList_eq, ByteArray.data_extract, Array.toList_extract]
theorem mark_ext {s : ByteArray} (h : 7 ≤ s.size) : markOk s = (markAt (s[0]'(by omega)) && ((s.extract 1 7).toList == (s.extract 0 6).toList)) := by
  unfold markOk
  rw [extract_tl, extract_tl, mark_list h (get_list s 0 (by omega))]; rfl
theorem sign_ix (c : UInt8) : decide (Lib.indexByte [60, 61, 62, 124] c < 0) = !markAt c := by
  have h : ∀ n, n < 256 → decide (Lib.indexByte [60, 61, 62, 124] (UInt8.ofNat n) < 0) = !markAt (UInt8.ofNat n) := by decide +kernel
  have := h c.toNat c.toNat_lt
  rwa [UInt8.ofNat_toNat] at this
theorem toUInt8_cast (c : UInt8) : ((c.toNat : Int)).toNat.toUInt8 = c := by simp
theorem line_ix (s : ByteArray) : lineOk s = (decide (Lib.indexByte s.data.toList 10 < 0) && decide (s.size ≤ 60) && !markOk s) := by
  unfold lineOk
  congr 2
  by_cases h : Lib.indexByte s.data.toList 10 = -1
  · have hn := Lib.indexByte_none h
    rw [h]
    have : s.data.toList.contains 10 = false := by
      rw [Bool.eq_false_iff]; intro hc
      simp only [List.contains_iff_mem] at hc
      obtain ⟨j, hj, he⟩ := List.getElem_of_mem hc
      exact hn j (by rw [List.getElem?_eq_getElem hj, he])
    rw [this]; rfl
  · have hg := Lib.indexByte_ge s.data.toList 10
    obtain ⟨o, ho⟩ := Int.eq_ofNat_of_zero_le (show 0 ≤ Lib.indexByte s.data.toList 10 by omega)
    have hs := (Lib.indexByte_some ho).1
    have : s.data.toList.contains 10 = true := by
      simp only [List.contains_iff_mem]; exact List.mem_of_getElem? hs
    rw [this, ho]; simp

theorem fileOk_eq (f : FileM) : fileOk f = (nameOk f.name && (decide (f.also.length = 0) && (decide (f.lines.length ≤ 60) && f.lines.all lineOk))) := by unfold fileOk; rfl
end Go.Proofs.YtfciedmmgddgpaaGreatDoor
namespace Go.Proofs.YtfciedmmgddgpaaGreatDoor
open Go Go.RowKit

set_option maxHeartbeats 1000000 in
set_option maxRecDepth 100000 in
theorem lite_index (s : ByteArray) (c : Int) (w : World) :
    Calls Tryz.prog 164 #[.string s, .int .u8 c] w fun e w' => e = .returned (.int .i64 (Lib.indexByte s.data.toList c.toNat.toUInt8)) ∧ w' = w := by
  go_enter Tryz.func164, Tryz.ntmps164
  go_wp2
  rw [run_callFunc_extern Tryz.func176 (by kernel_rfl) (by kernel_rfl) (by kernel_rfl) (e := Extern.BytealgIndexByte.indexByte) (by kernel_rfl), Lib.run_indexByteString]
  simp only [Result.andThen]
  rw [Oper.upon_value]
  go_wp2
  go_ret
  exact ⟨rfl, rfl⟩
set_option maxRecDepth 100000 in
theorem index_any (s : ByteArray) (c : Int) (w : World) :
    Calls Tryz.prog 139 #[.string s, .int .u8 c] w fun e w' => e = .returned (.int .i64 (Lib.indexByte s.data.toList c.toNat.toUInt8)) ∧ w' = w := by
  go_enter Tryz.func139, Tryz.ntmps139
  go_wp2_with (go_at_call 164; (with_reducible refine (lite_index _ _ _).mono ?_); rintro e w2 ⟨rfl, rfl⟩)
  go_ret
  exact ⟨rfl, rfl⟩

set_option maxHeartbeats 1000000 in
theorem mark_any (s : ByteArray) (w : World) (hs : s.size ≤ maxLen) :
    Calls Tryz.prog 140 #[.string s] w fun e w' => e = .returned (.bool (markOk s)) ∧ Below w.heap.size w w' := by
  unfold maxLen at hs
  by_cases h7 : s.size < 7
  · have HM := Lib.hid (mark_short h7)
    go_enter Tryz.func140, Tryz.ntmps140
    go_wp2
    go_ret
    exact ⟨ret_val (congrArg Value.bool HM.out.symm), Below.refl _ _⟩
  · have h0 : 0 < s.size := by omega
    have HE := Lib.hid (mark_ext (s := s) (by omega))
    have hix : ∀ w, Calls Tryz.prog 139 #[.string ⟨#[60, 61, 62, 124]⟩, .int .u8 (s[0].toNat : Int)] w fun e w' => e = .returned (.int .i64 (Lib.indexByte [60, 61, 62, 124] s[0])) ∧ w' = w := fun w => by
      have := index_any ⟨#[60, 61, 62, 124]⟩ (s[0].toNat : Int) w
      rwa [toUInt8_cast] at this
    have hsg := sign_ix s[0]
    generalize Lib.indexByte [60, 61, 62, 124] s[0] = ix at *
    cases hm : markAt s[0] with
    | false =>
      rw [hm] at hsg
      have hi : ix < 0 := by simpa using hsg
      rw [hm, Bool.false_and] at HE
      clear hm hsg
      go_enter Tryz.func140, Tryz.ntmps140
      go_wp2_with (go_at_call 139; (with_reducible refine (hix _).mono ?_); rintro e w2 ⟨rfl, rfl⟩)
      go_ret
      exact ⟨ret_val (congrArg Value.bool HE.out.symm), Below.refl _ _⟩
    | true =>
      rw [hm] at hsg
      have hi : ¬ ix < 0 := by simpa using hsg
      rw [hm, Bool.true_and] at HE
      clear hm hsg
      go_enter Tryz.func140, Tryz.ntmps140
      go_wp2_with (go_at_call 139; (with_reducible refine (hix _).mono ?_); rintro e w2 ⟨rfl, rfl⟩)
      refine wp_region_lex (C := IsOver w2) 6 [] (by kernel_rfl) (by kernel_rfl) (isOver_of (by repeat (first | exact Below.refl _ _ | apply Below.drew | apply below_drewN | (refine Below.alloc ?_ (by simp) _)))) ?_
      simp only [List.take_succ_cons, List.take_zero, List.drop_succ_cons, List.drop_zero]
      repeat (first | (refine lex_skip rfl rfl ?_; simp only [Act.put, List.setIfInBounds_toArray, List.set_cons_succ, List.set_cons_zero]) | (refine lex_one rfl ?_; go_big_quiet_step (fail); refine wpQuiet_nil ?_))
      refine lex_end ?_
      go_wp2_with fail
      go_ret
      exact ⟨ret_val (congrArg Value.bool HE.out.symm), (Below.refl _ _).drew⟩

set_option maxHeartbeats 1000000 in
theorem line_any (s : ByteArray) (w : World) (hs : s.size ≤ maxLen) :
    Calls Tryz.prog 107 #[.string s] w fun e w' => e = .returned (.bool (lineOk s)) ∧ Below w.heap.size w w' := by
  have HM := Lib.hid hs
  unfold maxLen at hs
  have HE := Lib.hid (line_ix s)
  have hix : ∀ w, Calls Tryz.prog 139 #[.string s, .int .u8 10] w fun e w' => e = .returned (.int .i64 (Lib.indexByte s.data.toList 10)) ∧ w' = w := fun w => index_any s 10 w
  generalize Lib.indexByte s.data.toList 10 = ix at *
  by_cases h6 : s.size ≤ 60
  · by_cases hi : ix < 0
    · go_enter Tryz.func107, Tryz.ntmps107
      go_wp2_with (first | (go_at_call 139; (with_reducible refine (hix _).mono ?_); rintro e w2 ⟨rfl, rfl⟩) | (go_at_call 140; (with_reducible refine (mark_any _ _ HM.out).mono ?_); rintro e w2 ⟨rfl, hb⟩))
      go_ret
      refine ⟨ret_val ?_, hb⟩
      rw [HE.out]; simp [hi, h6]
    · have HI := Lib.hid (show decide (ix < 0) = false by simpa using hi)
      go_enter Tryz.func107, Tryz.ntmps107
      go_wp2_with (first | (go_at_call 139; (with_reducible refine (hix _).mono ?_); rintro e w2 ⟨rfl, rfl⟩))
      go_ret
      refine ⟨ret_val ?_, Below.refl _ _⟩
      rw [HE.out, HI.out]; rfl
  · go_enter Tryz.func107, Tryz.ntmps107
    go_wp2
    go_ret
    refine ⟨ret_val ?_, Below.refl _ _⟩
    rw [HE.out]; simp [h6]
end Go.Proofs.YtfciedmmgddgpaaGreatDoor
