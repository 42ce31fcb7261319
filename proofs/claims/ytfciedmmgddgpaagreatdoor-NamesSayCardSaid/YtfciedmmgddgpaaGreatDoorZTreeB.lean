/- Contracts of Makes, Vid, Refs on both sides. Contracts of bruitref14: Name, Mark, Line. Contracts of bruitref14.Line, bruitref15.Texts, Find, Same. -/
import Derived.Test.YtfciedmmgddgpaaGreatDoorZOps
import Derived.Test.YtfciedmmgddgpaaGreatDoorZGen
import Derived.Test.YtfciedmmgddgpaaGreatDoorZTreeP
namespace Go.Proofs.YtfciedmmgddgpaaGreatDoor
open Go Go.RowKit

theorem u8_nat (a : UInt8) (n : Nat) (h : n < 256) : a = UInt8.ofNat n ↔ a.toNat = n := by
  constructor
  · intro e; rw [e]; simp; omega
  · intro e; apply UInt8.toNat_inj.1; simp; omega
theorem makes_nat (k : UInt8) : makesB k = (decide (1 ≤ k.toNat) && decide (k.toNat ≤ 3)) := by
  unfold makesB
  have h1 : (k == 1) = decide (k.toNat = 1) := by rw [Bool.eq_iff_iff, beq_iff_eq, decide_eq_true_eq]; exact u8_nat k 1 (by omega)
  have h2 : (k == 2) = decide (k.toNat = 2) := by rw [Bool.eq_iff_iff, beq_iff_eq, decide_eq_true_eq]; exact u8_nat k 2 (by omega)
  have h3 : (k == 3) = decide (k.toNat = 3) := by rw [Bool.eq_iff_iff, beq_iff_eq, decide_eq_true_eq]; exact u8_nat k 3 (by omega)
  rw [h1, h2, h3]
  rw [Bool.eq_iff_iff]
  simp
  omega
attribute [local irreducible] makesB

set_option maxHeartbeats 1000000 in
theorem pmakes_any (k : UInt8) (w : World) : Calls Tryz.prog 43 #[.int .u8 (k.toNat : Int)] w fun e w' => e = .returned (.bool (makesB k)) ∧ w' = w := by
  have HM := Lib.hid (makes_nat k)
  by_cases h1 : 1 ≤ k.toNat
  · have e1 : decide ((1 : Int) ≤ (k.toNat : Int)) = true := by simp; omega
    by_cases h2 : k.toNat ≤ 3
    · have e2 : decide ((k.toNat : Int) ≤ 3) = true := by simp; omega
      have HV : Hid (makesB k = true) := by show _ = _; rw [HM.out]; simp; omega
      go_enter Tryz.func43, Tryz.ntmps43
      go_wp2_with fail
      go_ret
      exact ⟨ret_val (congrArg Value.bool HV.out.symm), rfl⟩
    · have e2 : decide ((k.toNat : Int) ≤ 3) = false := by simp; omega
      have HV : Hid (makesB k = false) := by show _ = _; rw [HM.out]; simp; omega
      go_enter Tryz.func43, Tryz.ntmps43
      go_wp2_with fail
      go_ret
      exact ⟨ret_val (congrArg Value.bool HV.out.symm), rfl⟩
  · have e1 : decide ((1 : Int) ≤ (k.toNat : Int)) = false := by simp; omega
    have HV : Hid (makesB k = false) := by show _ = _; rw [HM.out]; simp; omega
    go_enter Tryz.func43, Tryz.ntmps43
    go_wp2_with fail
    go_ret
    exact ⟨ret_val (congrArg Value.bool HV.out.symm), rfl⟩

set_option maxHeartbeats 1000000 in
theorem rmakes_any (k : UInt8) (w : World) : Calls Tryz.prog 80 #[.int .u8 (k.toNat : Int)] w fun e w' => e = .returned (.bool (makesB k)) ∧ w' = w := by
  have HM := Lib.hid (makes_nat k)
  by_cases h1 : k.toNat = 1
  · have e1 : ((k.toNat : Int) == 1) = true := by simp; omega
    have HV : Hid (makesB k = true) := by show _ = _; rw [HM.out]; simp; omega
    clear h1
    go_enter Tryz.func80, Tryz.ntmps80
    go_wp2_with fail
    go_ret
    exact ⟨ret_val (congrArg Value.bool HV.out.symm), rfl⟩
  · have e1 : ((k.toNat : Int) == 1) = false := by simp; omega
    by_cases h2 : k.toNat = 2
    · have e2 : ((k.toNat : Int) == 2) = true := by simp; omega
      have HV : Hid (makesB k = true) := by show _ = _; rw [HM.out]; simp; omega
      clear h1 h2
      go_enter Tryz.func80, Tryz.ntmps80
      go_wp2_with fail
      go_ret
      exact ⟨ret_val (congrArg Value.bool HV.out.symm), rfl⟩
    · have e2 : ((k.toNat : Int) == 2) = false := by simp; omega
      by_cases h3 : k.toNat = 3
      · have e3 : ((k.toNat : Int) == 3) = true := by simp; omega
        have HV : Hid (makesB k = true) := by show _ = _; rw [HM.out]; simp; omega
        clear h1 h2 h3
        go_enter Tryz.func80, Tryz.ntmps80
        go_wp2_with fail
        go_ret
        exact ⟨ret_val (congrArg Value.bool HV.out.symm), rfl⟩
      · have e3 : ((k.toNat : Int) == 3) = false := by simp; omega
        have HV : Hid (makesB k = false) := by show _ = _; rw [HM.out]; simp; omega
        clear h1 h2 h3
        go_enter Tryz.func80, Tryz.ntmps80
        go_wp2_with fail
        go_ret
        exact ⟨ret_val (congrArg Value.bool HV.out.symm), rfl⟩

theorem rowT_vid : RowT Tryz.prog 27 3 := rowT_of Tryz.underlying27 rfl (by kernel_rfl)
theorem mod_u8 (i : Nat) : ((i : Int) % 256) = ((UInt8.ofNat i).toNat : Int) := by simp
theorem vid_ret {w w' : World} {p : PidM} {i : Nat} (h : Below w.heap.size w w') : (Ending.returned (.agg #[.int .u8 (p.author.toNat : Int), .int .u16 (p.seq.toNat : Int), .int .u8 ((i : Int) % 256)]) = .returned (vidV ⟨p, UInt8.ofNat i⟩)) ∧ Below w.heap.size w w' := by
  rw [mod_u8]; exact ⟨rfl, h⟩
set_option maxHeartbeats 1000000 in
set_option maxRecDepth 100000 in
theorem pvid_any (p : PidM) (i : Nat) (w : World) (hi : i < 4611686018427387904) : Calls Tryz.prog 17 #[pidV p, .int .i64 (i : Int)] w fun e w' => e = .returned (vidV ⟨p, UInt8.ofNat i⟩) ∧ Below w.heap.size w w' := by
  unfold pidV
  go_enter Tryz.func17, Tryz.ntmps17
  go_wp2_with fail
  exact bodyPost_ret (v := .agg #[.int .u8 (p.author.toNat : Int), .int .u16 (p.seq.toNat : Int), .int .u8 ((i : Int) % 256)]) (results_arr rowT_vid rfl (arr_new2 _ _ _ _) rfl rfl) rfl (vid_ret ((below_new _).alloc (by simp) _))
set_option maxHeartbeats 1000000 in
set_option maxRecDepth 100000 in
theorem rvid_any (p : PidM) (i : Nat) (w : World) (hi : i < 4611686018427387904) : Calls Tryz.prog 81 #[pidV p, .int .i64 (i : Int)] w fun e w' => e = .returned (vidV ⟨p, UInt8.ofNat i⟩) ∧ Below w.heap.size w w' := by
  unfold pidV
  go_enter Tryz.func81, Tryz.ntmps81
  go_wp2_with fail
  exact bodyPost_ret (v := .agg #[.int .u8 (p.author.toNat : Int), .int .u16 (p.seq.toNat : Int), .int .u8 ((i : Int) % 256)]) (results_arr rowT_vid rfl (arr_new2 _ _ _ _) rfl rfl) rfl (vid_ret ((below_new _).alloc (by simp) _))

def VRow (w : World) (v : Value) (vs : List VidM) : Prop := Row w v vs.length 3 (vs.flatMap encVid)
theorem row_of_arr {w : World} {g : Nat} {cs : List Value} {n sz : Nat} (h : Arr w g cs) (hl : cs.length = n * sz) (hn : n ≤ 1000) (h0 : n ≠ 0) : Row w (.slice (some ⟨g, 0, none⟩) n n) n sz cs :=
  ⟨hl, _, n, rfl, Nat.le_refl _, by unfold maxLen; omega, fun h => (by cases h), fun _ => ⟨g, 0, rfl, h.lt, fun j u hu => by rw [Nat.zero_add]; exact h.cell hu⟩⟩
/-- a row of names in a block of its own -/
def RefsAt (w : World) (v : Value) (vs : List VidM) : Prop := (vs = [] ∧ v = .slice none 0 0) ∨ (vs ≠ [] ∧ vs.length ≤ 1000 ∧ ∃ g, v = .slice (some ⟨g, 0, none⟩) vs.length vs.length ∧ ArrT w g 27 (vs.flatMap encVid))
theorem vid_flat_len : ∀ vs : List VidM, (vs.flatMap encVid).length = vs.length * 3
  | [] => rfl
  | v :: vs => by rw [List.flatMap_cons, List.length_append, vid_flat_len vs, List.length_cons]; simp [encVid]; omega
theorem RefsAt.vrow {w : World} {v : Value} {vs : List VidM} (h : RefsAt w v vs) : VRow w v vs := by
  rcases h with ⟨rfl, rfl⟩ | ⟨hne, hle, g, rfl, hA⟩
  · exact row_nil w 3
  · exact row_of_arr hA.arr (vid_flat_len vs) hle (fun e => hne (List.eq_nil_of_length_eq_zero e))
def RefsRes (w : World) (vs : List VidM) (e : Ending) (w' : World) : Prop := ∃ v, e = .returned v ∧ RefsAt w' v vs ∧ Below w.heap.size w w'
theorem arrT_at {w : World} {g : Nat} (cs : Array Value) (e : TypeId) (hg : w.heap.size = g) : ArrT (w.alloc (.cells cs e)) g e cs.toList := by
  subst hg
  exact arrT_new w cs.toList e
theorem refs_one {o : OpM} (h : o.kind.toNat = 2 ∨ o.kind.toNat = 3 ∨ o.kind.toNat = 5) : refsM o = [o.at'] := by
  unfold refsM
  rw [if_pos]
  rcases h with h | h | h
  · exact .inl ((u8_nat _ 2 (by omega)).2 h)
  · exact .inr (.inl ((u8_nat _ 3 (by omega)).2 h))
  · exact .inr (.inr ((u8_nat _ 5 (by omega)).2 h))
theorem refs_two {o : OpM} (h : o.kind.toNat = 4) : refsM o = [o.at', o.to] := by
  have h4 : o.kind = 4 := (u8_nat _ 4 (by omega)).2 h
  unfold refsM
  rw [h4]; rfl
theorem refs_none {o : OpM} (h : ¬ (o.kind.toNat = 2 ∨ o.kind.toNat = 3 ∨ o.kind.toNat = 4 ∨ o.kind.toNat = 5)) : refsM o = [] := by
  unfold refsM
  rw [if_neg, if_neg]
  · intro e; exact h (.inr (.inr (.inl ((u8_nat _ 4 (by omega)).1 e))))
  · rintro (e | e | e)
    · exact h (.inl ((u8_nat _ 2 (by omega)).1 e))
    · exact h (.inr (.inl ((u8_nat _ 3 (by omega)).1 e)))
    · exact h (.inr (.inr (.inr ((u8_nat _ 5 (by omega)).1 e))))
attribute [local irreducible] refsM

set_option maxHeartbeats 2000000 in
set_option maxRecDepth 100000 in
theorem prefs_any (o : OpM) (w : World) : Calls Tryz.prog 65 #[opV o] w (RefsRes w (refsM o)) := by
  unfold opV
  by_cases h1 : o.kind.toNat = 2 ∨ o.kind.toNat = 3 ∨ o.kind.toNat = 5
  · have HR := Lib.hid (refs_one h1)
    rcases h1 with h1 | h1 | h1
    · have e2 : ((o.kind.toNat : Int) == 2) = true := by simp; omega
      have e3 : ((o.kind.toNat : Int) == 3) = false := by simp; omega
      have e5 : ((o.kind.toNat : Int) == 5) = false := by simp; omega
      clear h1
      go_enter Tryz.func65, Tryz.ntmps65
      go_wp2_with fail
      go_ret
      exact ⟨_, rfl, (by rw [HR.out]; exact .inr ⟨by simp, by simp, _, rfl, arrT_at _ _ (by simp)⟩), (below_new _).alloc (by simp) _⟩
    · have e2 : ((o.kind.toNat : Int) == 2) = false := by simp; omega
      have e3 : ((o.kind.toNat : Int) == 3) = true := by simp; omega
      have e5 : ((o.kind.toNat : Int) == 5) = false := by simp; omega
      clear h1
      go_enter Tryz.func65, Tryz.ntmps65
      go_wp2_with fail
      go_ret
      exact ⟨_, rfl, (by rw [HR.out]; exact .inr ⟨by simp, by simp, _, rfl, arrT_at _ _ (by simp)⟩), (below_new _).alloc (by simp) _⟩
    · have e2 : ((o.kind.toNat : Int) == 2) = false := by simp; omega
      have e3 : ((o.kind.toNat : Int) == 3) = false := by simp; omega
      have e5 : ((o.kind.toNat : Int) == 5) = true := by simp; omega
      clear h1
      go_enter Tryz.func65, Tryz.ntmps65
      go_wp2_with fail
      go_ret
      exact ⟨_, rfl, (by rw [HR.out]; exact .inr ⟨by simp, by simp, _, rfl, arrT_at _ _ (by simp)⟩), (below_new _).alloc (by simp) _⟩
  · by_cases h4 : o.kind.toNat = 4
    · have HR := Lib.hid (refs_two h4)
      have e2 : ((o.kind.toNat : Int) == 2) = false := by simp; omega
      have e3 : ((o.kind.toNat : Int) == 3) = false := by simp; omega
      have e5 : ((o.kind.toNat : Int) == 5) = false := by simp; omega
      have e4 : ((o.kind.toNat : Int) == 4) = true := by simp; omega
      clear h1 h4
      go_enter Tryz.func65, Tryz.ntmps65
      go_wp2_with fail
      go_ret
      exact ⟨_, rfl, (by rw [HR.out]; exact .inr ⟨by simp, by simp, _, rfl, arrT_at _ _ (by simp)⟩), (below_new _).alloc (by simp) _⟩
    · have HR := Lib.hid (refs_none (o := o) (by omega))
      have e2 : ((o.kind.toNat : Int) == 2) = false := by simp; omega
      have e3 : ((o.kind.toNat : Int) == 3) = false := by simp; omega
      have e5 : ((o.kind.toNat : Int) == 5) = false := by simp; omega
      have e4 : ((o.kind.toNat : Int) == 4) = false := by simp; omega
      clear h1 h4
      go_enter Tryz.func65, Tryz.ntmps65
      go_wp2_with fail
      go_ret
      exact ⟨_, rfl, (by rw [HR.out]; exact .inl ⟨rfl, rfl⟩), below_new _⟩

set_option maxHeartbeats 2000000 in
set_option maxRecDepth 100000 in
theorem rrefs_any (o : OpM) (w : World) : Calls Tryz.prog 142 #[opV o] w (RefsRes w (refsM o)) := by
  unfold opV
  by_cases h1 : o.kind.toNat = 2 ∨ o.kind.toNat = 3 ∨ o.kind.toNat = 5
  · have HR := Lib.hid (refs_one h1)
    rcases h1 with h1 | h1 | h1
    · have e2 : ((o.kind.toNat : Int) == 2) = true := by simp; omega
      have e3 : ((o.kind.toNat : Int) == 3) = false := by simp; omega
      have e5 : ((o.kind.toNat : Int) == 5) = false := by simp; omega
      clear h1
      go_enter Tryz.func142, Tryz.ntmps142
      go_wp2_with fail
      go_ret
      exact ⟨_, rfl, (by rw [HR.out]; exact .inr ⟨by simp, by simp, _, rfl, arrT_at _ _ (by simp)⟩), (below_new _).alloc (by simp) _⟩
    · have e2 : ((o.kind.toNat : Int) == 2) = false := by simp; omega
      have e3 : ((o.kind.toNat : Int) == 3) = true := by simp; omega
      have e5 : ((o.kind.toNat : Int) == 5) = false := by simp; omega
      clear h1
      go_enter Tryz.func142, Tryz.ntmps142
      go_wp2_with fail
      go_ret
      exact ⟨_, rfl, (by rw [HR.out]; exact .inr ⟨by simp, by simp, _, rfl, arrT_at _ _ (by simp)⟩), (below_new _).alloc (by simp) _⟩
    · have e2 : ((o.kind.toNat : Int) == 2) = false := by simp; omega
      have e3 : ((o.kind.toNat : Int) == 3) = false := by simp; omega
      have e5 : ((o.kind.toNat : Int) == 5) = true := by simp; omega
      clear h1
      go_enter Tryz.func142, Tryz.ntmps142
      go_wp2_with fail
      go_ret
      exact ⟨_, rfl, (by rw [HR.out]; exact .inr ⟨by simp, by simp, _, rfl, arrT_at _ _ (by simp)⟩), (below_new _).alloc (by simp) _⟩
  · by_cases h4 : o.kind.toNat = 4
    · have HR := Lib.hid (refs_two h4)
      have e2 : ((o.kind.toNat : Int) == 2) = false := by simp; omega
      have e3 : ((o.kind.toNat : Int) == 3) = false := by simp; omega
      have e5 : ((o.kind.toNat : Int) == 5) = false := by simp; omega
      have e4 : ((o.kind.toNat : Int) == 4) = true := by simp; omega
      clear h1 h4
      go_enter Tryz.func142, Tryz.ntmps142
      go_wp2_with fail
      go_ret
      exact ⟨_, rfl, (by rw [HR.out]; exact .inr ⟨by simp, by simp, _, rfl, arrT_at _ _ (by simp)⟩), (below_new _).alloc (by simp) _⟩
    · have HR := Lib.hid (refs_none (o := o) (by omega))
      have e2 : ((o.kind.toNat : Int) == 2) = false := by simp; omega
      have e3 : ((o.kind.toNat : Int) == 3) = false := by simp; omega
      have e5 : ((o.kind.toNat : Int) == 5) = false := by simp; omega
      have e4 : ((o.kind.toNat : Int) == 4) = false := by simp; omega
      clear h1 h4
      go_enter Tryz.func142, Tryz.ntmps142
      go_wp2_with fail
      go_ret
      exact ⟨_, rfl, (by rw [HR.out]; exact .inl ⟨rfl, rfl⟩), below_new _⟩
end Go.Proofs.YtfciedmmgddgpaaGreatDoor
namespace Go.Proofs.YtfciedmmgddgpaaGreatDoor
open Go Go.RowKit

set_option maxHeartbeats 1000000 in
theorem rname_any (s : ByteArray) (w : World) (hs : s.size ≤ maxLen) :
    Calls Tryz.prog 166 #[.string s] w fun e w' => e = .returned (.bool (nameOk s)) ∧ Below w.heap.size w w' := by
  unfold maxLen at hs
  go_enter Tryz.func166, Tryz.ntmps166
  go_wp2
  go_loop [3, 4] (fun i _ => ∃ k : Nat, k ≤ s.size ∧ i = .int .i64 k ∧ Hid ((s.data.toList.take k).all letterB = true)) (fun i _ => s.size - (intOf i).toNat)
  case atStart => exact ⟨0, by omega, rfl, rfl⟩
  case round =>
    obtain ⟨k, hk, rfl, HL⟩ := hrel
    by_cases hlt : k < s.size
    · by_cases hb : letterB s[k] = true
      · have HS := Lib.hid (all_snoc hlt HL.out hb)
        have hc := letter_yes hb
        clear hb
        rcases hc with h | h | h | ⟨h, h'⟩ | ⟨h, h'⟩
        all_goals
          go_wp2
          go_round
          case rel => exact ⟨k + 1, by omega, by go_num, HS⟩
          case measure => simp [intOf]; omega
      · have hb : letterB s[k] = false := by simpa using hb
        have HN := Lib.hid (nameOk_bad hlt hb)
        have hc := letter_no hb
        clear hb
        rcases hc with ⟨h, e1, e2, e3⟩ | h | ⟨h, h', ⟨e1, e2, e3⟩, e4⟩ | h | ⟨h, ⟨e1, e2, e3⟩, e4, e5⟩
        all_goals
          go_wp2
          go_ret
          exact ⟨ret_val (congrArg Value.bool HN.out.symm), Below.refl _ _⟩
    · obtain rfl : k = s.size := by omega
      have HN : Hid (nameOk s = (decide (1 ≤ s.size) && decide (s.size ≤ 16))) := by
        unfold Hid nameOk
        have := HL.out
        rw [List.take_of_length_le (by simp)] at this
        rw [this, Bool.true_and]
      by_cases h1 : 1 ≤ s.size
      all_goals
        go_wp2
        go_ret
        refine ⟨ret_val ?_, Below.refl _ _⟩
        rw [HN.out]
        first | (simp [h1]; omega) | simp [h1]

set_option maxHeartbeats 1000000 in
theorem rmark_any (s : ByteArray) (w : World) (hs : s.size ≤ maxLen) :
    Calls Tryz.prog 177 #[.string s] w fun e w' => e = .returned (.bool (markOk s)) ∧ Below w.heap.size w w' := by
  unfold maxLen at hs
  by_cases h7 : s.size < 7
  · have HM := Lib.hid (mark_short h7)
    go_enter Tryz.func177, Tryz.ntmps177
    go_wp2
    go_ret
    exact ⟨ret_val (congrArg Value.bool HM.out.symm), Below.refl _ _⟩
  · have h0 : 0 < s.size := by omega
    cases hm : markAt s[0] with
    | false =>
      have HM := Lib.hid (mark_first h0 hm)
      obtain ⟨e1, e2, e3, e4, e5, e6, e7, e8⟩ := mark_no hm
      clear hm
      go_enter Tryz.func177, Tryz.ntmps177
      go_wp2
      go_ret
      exact ⟨ret_val (congrArg Value.bool HM.out.symm), Below.refl _ _⟩
    | true =>
      have HA : Hid ((∀ j, j < 7 → s.data.toList[j]? = some s[0]) → markOk s = true) := fun h => mark_all (by omega) hm h
      have HO : Hid (∀ j (hj : j < s.size), j < 7 → s[j] ≠ s[0] → markOk s = false) := fun j hj h7 hne => mark_other h0 hj h7 hne
      have hc := mark_yes hm
      clear hm
      have HG := Lib.hid (get_list s)
      go_enter Tryz.func177, Tryz.ntmps177
      rcases hc with hc | hc | hc | hc
      all_goals
        go_wp2
        go_loopw [3] (fun i wr => ∃ k : Nat, k ≤ 7 ∧ 1 ≤ k ∧ i = .int .i64 k ∧ Hid (∀ j, j < k → s.data.toList[j]? = some s[0]) ∧ Below w.heap.size w wr) (fun i _ => 7 - (intOf i).toNat)
        case atStart => exact ⟨1, by omega, by omega, rfl, (fun j hj => by rw [show j = 0 by omega]; exact HG.out 0 h0), Below.refl _ _⟩
        case round =>
          obtain ⟨k, hk, hk1, rfl, HL, hbl⟩ := hrel
          by_cases hlt : k < 7
          · have hks : k < s.size := by omega
            have HOk := Lib.hid (HO.out k hks hlt)
            have HGk := Lib.hid (HG.out k hks)
            by_cases he : s[k] = s[0]
            · have hS : Hid (∀ j, j < k + 1 → s.data.toList[j]? = some s[0]) := by
                intro j hj
                by_cases hjk : j = k
                · subst hjk; rw [HGk.out, he]
                · exact HL.out j (by omega)
              have hbne : ((s[k].toNat : Int) != (s[0].toNat : Int)) = false := by rw [he]; simp
              have hb2 : ((s[k].toNat : Int) == (s[0].toNat : Int)) = true := by rw [he]; simp
              clear he
              go_wp2_with fail
              refine wp_region_lex (C := IsOver wr) 6 [] (by kernel_rfl) (by kernel_rfl) (isOver_of (by repeat (first | exact Below.refl _ _ | apply Below.drew | apply below_drewN | (refine Below.alloc ?_ (by simp) _)))) ?_
              simp only [List.take_succ_cons, List.take_zero, List.drop_succ_cons, List.drop_zero]
              repeat (first | (refine lex_skip rfl rfl ?_; simp only [Act.put, List.setIfInBounds_toArray, List.set_cons_succ, List.set_cons_zero]) | (refine lex_one rfl ?_; go_big_quiet_step (fail); refine wpQuiet_nil ?_))
              refine lex_end ?_
              go_wp2_with fail
              go_roundw
              case rel => exact ⟨k + 1, by omega, by omega, by go_num, hS, hbl.drew⟩
              case measure => simp [intOf]; omega
            · have HM := Lib.hid (HOk.out he)
              have hbne : ((s[k].toNat : Int) != (s[0].toNat : Int)) = true := by
                simp; intro h; exact he (UInt8.toNat_inj.1 (by omega))
              have hb2 : ((s[k].toNat : Int) == (s[0].toNat : Int)) = false := by
                simp; intro h; exact he (UInt8.toNat_inj.1 (by omega))
              clear he
              go_wp2_with fail
              refine wp_region_lex (C := IsOver wr) 6 [] (by kernel_rfl) (by kernel_rfl) (isOver_of (by repeat (first | exact Below.refl _ _ | apply Below.drew | apply below_drewN | (refine Below.alloc ?_ (by simp) _)))) ?_
              simp only [List.take_succ_cons, List.take_zero, List.drop_succ_cons, List.drop_zero]
              repeat (first | (refine lex_skip rfl rfl ?_; simp only [Act.put, List.setIfInBounds_toArray, List.set_cons_succ, List.set_cons_zero]) | (refine lex_one rfl ?_; go_big_quiet_step (fail); refine wpQuiet_nil ?_))
              refine lex_end ?_
              go_wp2_with fail
              go_ret
              exact ⟨ret_val (congrArg Value.bool HM.out.symm), hbl.drew⟩
          · obtain rfl : k = 7 := by omega
            have HM := Lib.hid (HA.out HL.out)
            go_wp2_with fail
            go_ret
            exact ⟨ret_val (congrArg Value.bool HM.out.symm), hbl⟩
end Go.Proofs.YtfciedmmgddgpaaGreatDoor
namespace Go.Proofs.YtfciedmmgddgpaaGreatDoor
open Go Go.RowKit

set_option maxHeartbeats 1000000 in
theorem rline_any (s : ByteArray) (w : World) (hs : s.size ≤ maxLen) :
    Calls Tryz.prog 167 #[.string s] w fun e w' => e = .returned (.bool (lineOk s)) ∧ Below w.heap.size w w' := by
  have HM := Lib.hid hs
  unfold maxLen at hs
  have HG := Lib.hid (get_list s)
  go_enter Tryz.func167, Tryz.ntmps167
  go_wp2
  go_loop [3] (fun i => ∃ k : Nat, k ≤ s.size ∧ i = .int .i64 k ∧ Hid (∀ j, j < k → s.data.toList[j]? ≠ some 10)) (fun i => s.size - (intOf i).toNat)
  case atStart => exact ⟨0, by omega, rfl, fun j hj => by omega⟩
  case round =>
    obtain ⟨k, hk, rfl, HL⟩ := hrel
    by_cases hlt : k < s.size
    · have HGk := Lib.hid (HG.out k hlt)
      by_cases hc : s[k] = 10
      · have HN := Lib.hid (lineOk_has hlt hc)
        have hb : ((s[k].toNat : Int) == 10) = true := by rw [hc]; rfl
        clear hc
        go_wp2
        go_ret
        exact ⟨ret_val (congrArg Value.bool HN.out.symm), Below.refl _ _⟩
      · have HS : Hid (∀ j, j < k + 1 → s.data.toList[j]? ≠ some 10) := by
          intro j hj
          by_cases hjk : j = k
          · subst hjk; rw [HGk.out]; simpa using hc
          · exact HL.out j (by omega)
        have hb : ((s[k].toNat : Int) == 10) = false := by
          simp; intro h; exact hc (UInt8.toNat_inj.1 (by show s[k].toNat = 10; omega))
        clear hc
        go_wp2
        go_round
        case rel => exact ⟨k + 1, by omega, by go_num, HS⟩
        case measure => simp [intOf]; omega
    · obtain rfl : k = s.size := by omega
      have HN := Lib.hid (lineOk_none HL.out)
      by_cases h6 : s.size ≤ 60
      · go_wp2_with (go_at_call 177; refine (rmark_any _ _ HM.out).mono ?_; rintro e w1 ⟨rfl, hb1⟩)
        go_ret
        refine ⟨ret_val ?_, hb1⟩
        rw [HN.out]; simp [h6]
      · go_wp2
        go_ret
        refine ⟨ret_val ?_, Below.refl _ _⟩
        rw [HN.out]; simp [h6]

set_option maxHeartbeats 1000000 in
theorem rtexts_any (va vb : Value) (xs ys : List ByteArray) (w : World) (ha : SRow w va xs) (hb : SRow w vb ys) :
    Calls Tryz.prog 30 #[va, vb] w fun e w' => e = .returned (.bool (sameS xs ys)) ∧ Below w.heap.size w w' := by
  obtain ⟨a, ca, rfl, h1, h2, _, hca⟩ := ha.form
  obtain ⟨b, cb, rfl, h3, h4, _, hcb⟩ := hb.form
  unfold maxLen at h2 h4
  by_cases hl : xs.length = ys.length
  · have HE : Hid ((∀ j, j < xs.length → xs[j]? = ys[j]?) → xs = ys) := eq_of_all hl
    have HL := Lib.hid hl
    clear ha hb
    rw [← hl]
    rw [← hl] at h3
    rw [← hl] at hcb
    clear hl
    go_enter Tryz.func30, Tryz.ntmps30
    go_wp2
    go_loopw [5] (fun i wr => ∃ k : Nat, k ≤ xs.length ∧ i = .int .i64 k ∧ Hid (∀ j, j < k → xs[j]? = ys[j]?) ∧ Below w.heap.size w wr) (fun i _ => xs.length - (intOf i).toNat)
    case atStart => exact ⟨0, by omega, rfl, (fun j hj => by omega), Below.refl _ _⟩
    case round =>
      obtain ⟨k, hk, rfl, HK, hbl⟩ := hrel
      by_cases hlt : k < xs.length
      · obtain ⟨bA, oA, rfl, sA, cA⟩ := hca.resolve_left (by omega)
        obtain ⟨bB, oB, rfl, sB, cB⟩ := hcb.resolve_left (by omega)
        obtain ⟨x, hx⟩ := get_of_lt hlt
        obtain ⟨y, hy⟩ := get_of_lt (xs := ys) (i := k) (by have := HL.out; omega)
        have c1 := (hbl.cell (p := ⟨bA, oA + k, none⟩) sA).trans (cA k x hx)
        have c2 := (hbl.cell (p := ⟨bB, oB + k, none⟩) sB).trans (cB k y hy)
        have sA' : bA < wr.heap.size := Nat.lt_of_lt_of_le sA hbl.size
        have sB' : bB < wr.heap.size := Nat.lt_of_lt_of_le sB hbl.size
        have HXY := Lib.hid (And.intro hx hy)
        clear hx hy cA cB hca hcb
        by_cases he : x = y
        · subst he
          have HS : Hid (∀ j, j < k + 1 → xs[j]? = ys[j]?) := by
            intro j hj
            by_cases hjk : j = k
            · subst hjk; rw [HXY.out.1, HXY.out.2]
            · exact HK.out j (by omega)
          go_wp2_with fail
          refine wp_region_lex (C := IsOver wr) 9 [] (by kernel_rfl) (by kernel_rfl) (isOver_of (by repeat (first | exact Below.refl _ _ | apply Below.drew | apply below_drewN | (refine Below.alloc ?_ (by simp) _)))) ?_
          simp only [List.take_succ_cons, List.take_zero, List.drop_succ_cons, List.drop_zero]
          repeat (first | (refine lex_skip rfl rfl ?_; simp only [Act.put, List.setIfInBounds_toArray, List.set_cons_succ, List.set_cons_zero]) | (refine lex_one rfl ?_; go_big_quiet_step (fail); refine wpQuiet_nil ?_))
          refine lex_end ?_
          go_wp2_with fail
          go_roundw
          case rel => exact ⟨k + 1, by omega, by go_num, HS, hbl.drew⟩
          case measure => simp [intOf]; omega
        · have hne : (x.toList == y.toList) = false := by simp [ba_list, he]
          have hne2 : (x.toList != y.toList) = true := by simp [ba_list, he]
          have HN : Hid (sameS xs ys = false) := sameS_f (by rintro rfl; rw [HXY.out.1] at HXY; exact he (by simpa using HXY.out.2))
          clear he
          go_wp2_with fail
          refine wp_region_lex (C := IsOver wr) 9 [] (by kernel_rfl) (by kernel_rfl) (isOver_of (by repeat (first | exact Below.refl _ _ | apply Below.drew | apply below_drewN | (refine Below.alloc ?_ (by simp) _)))) ?_
          simp only [List.take_succ_cons, List.take_zero, List.drop_succ_cons, List.drop_zero]
          repeat (first | (refine lex_skip rfl rfl ?_; simp only [Act.put, List.setIfInBounds_toArray, List.set_cons_succ, List.set_cons_zero]) | (refine lex_one rfl ?_; go_big_quiet_step (fail); refine wpQuiet_nil ?_))
          refine lex_end ?_
          go_wp2_with fail
          go_ret
          exact ⟨ret_val (congrArg Value.bool HN.out.symm), hbl.drew⟩
      · obtain rfl : k = xs.length := by omega
        have HN : Hid (sameS xs ys = true) := sameS_t (HE.out HK.out)
        go_wp2_with fail
        go_ret
        exact ⟨ret_val (congrArg Value.bool HN.out.symm), hbl⟩
  · have HN : Hid (sameS xs ys = false) := sameS_f (by rintro rfl; exact hl rfl)
    go_enter Tryz.func30, Tryz.ntmps30
    have hb1 : ((xs.length : Int) != (ys.length : Int)) = true := by simp; omega
    clear hl
    go_wp2
    go_ret
    exact ⟨ret_val (congrArg Value.bool HN.out.symm), Below.refl _ _⟩
end Go.Proofs.YtfciedmmgddgpaaGreatDoor
