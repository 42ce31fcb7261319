/- Contracts of the references' sign, Cmp; of Makes, Vid, Refs on both sides. Contracts of Makes, Vid, Refs on both sides. -/
import Derived.Test.YtflnkmmimoninaaGreatDoorZCmp
import Derived.Test.YtflnkmmimoninaaGreatDoorZGen
namespace Go.Proofs.YtflnkmmimoninaaGreatDoor
open Go Go.RowKit

theorem cmpPid_author {a b : PidM} (h : ¬ a.author = b.author) : cmpPid a b = cmpN a.author.toNat b.author.toNat := by
  have h1 := a.seq.toNat_lt
  have h2 := b.seq.toNat_lt
  have h3 : a.author.toNat ≠ b.author.toNat := fun e => h (UInt8.toNat_inj.1 e)
  unfold cmpPid cmpN packPid
  by_cases hl : a.author.toNat < b.author.toNat
  · rw [if_pos (by omega), if_pos hl]
  · rw [if_neg (by omega), if_pos (by omega), if_neg hl, if_pos (by omega)]
theorem cmpPid_seq {a b : PidM} (h : a.author = b.author) : cmpPid a b = cmpN a.seq.toNat b.seq.toNat := by
  unfold cmpPid cmpN packPid
  rw [h]
  by_cases hl : a.seq.toNat < b.seq.toNat
  · rw [if_pos (by omega), if_pos hl]
  · rw [if_neg (by omega), if_neg hl]
    by_cases hg : b.seq.toNat < a.seq.toNat
    · rw [if_pos (by omega), if_pos hg]
    · rw [if_neg (by omega), if_neg hg]
theorem cmpVid_pid {a b : VidM} (h : ¬ a.pid = b.pid) : cmpVid a b = cmpPid a.pid b.pid := by
  have h1 := a.n.toNat_lt
  have h2 := b.n.toNat_lt
  have h3 : packPid a.pid ≠ packPid b.pid := fun e => h (packPid_inj e)
  unfold cmpVid cmpPid cmpN packVid
  by_cases hl : packPid a.pid < packPid b.pid
  · rw [if_pos (by omega), if_pos hl]
  · rw [if_neg (by omega), if_pos (by omega), if_neg hl, if_pos (by omega)]
theorem cmpVid_n {a b : VidM} (h : a.pid = b.pid) : cmpVid a b = cmpN a.n.toNat b.n.toNat := by
  unfold cmpVid cmpN packVid
  rw [h]
  by_cases hl : a.n.toNat < b.n.toNat
  · rw [if_pos (by omega), if_pos hl]
  · rw [if_neg (by omega), if_neg hl]
    by_cases hg : b.n.toNat < a.n.toNat
    · rw [if_pos (by omega), if_pos hg]
    · rw [if_neg (by omega), if_neg hg]
attribute [local irreducible] packPid packVid cmpN cmpPid cmpVid

set_option maxHeartbeats 1000000 in
set_option maxRecDepth 100000 in
theorem sign_any (a b : Nat) (w : World) : Calls Tryz.prog 67 #[.int .i64 (a : Int), .int .i64 (b : Int)] w fun e w' => e = .returned (.int .i64 (cmpN a b)) ∧ w' = w := by
  by_cases h1 : a < b
  · have HC := Lib.hid (cmpN_lt h1)
    have d1 : decide (a < b) = true := by simpa using h1
    go_enter Tryz.func67, Tryz.ntmps67
    go_wp2_with fail
    go_ret
    exact ⟨ret_int HC.out.symm, rfl⟩
  · have d1 : decide (a < b) = false := by simpa using h1
    by_cases h2 : b < a
    · have HC := Lib.hid (cmpN_gt h2)
      have d2 : decide (b < a) = true := by simpa using h2
      go_enter Tryz.func67, Tryz.ntmps67
      go_wp2_with fail
      go_ret
      exact ⟨ret_int HC.out.symm, rfl⟩
    · have d2 : decide (b < a) = false := by simpa using h2
      have HC := Lib.hid (cmpN_eq (show a = b by omega))
      go_enter Tryz.func67, Tryz.ntmps67
      go_wp2_with fail
      go_ret
      exact ⟨ret_int HC.out.symm, rfl⟩

set_option maxHeartbeats 1000000 in
set_option maxRecDepth 100000 in
theorem rcmpPid_any (a b : PidM) (w : World) : Calls Tryz.prog 40 #[pidV a, pidV b] w fun e w' => e = .returned (.int .i64 (cmpPid a b)) ∧ Below w.heap.size w w' := by
  have HB := Lib.hid ((below_new (w := w) (.cells #[.int .u8 (a.author.toNat : Int), .int .u16 (a.seq.toNat : Int)] 25)).alloc (by simp) (.cells #[.int .u8 (b.author.toNat : Int), .int .u16 (b.seq.toNat : Int)] 25))
  have l1 := a.author.toNat_lt
  have l2 := a.seq.toNat_lt
  have l3 := b.author.toNat_lt
  have l4 := b.seq.toNat_lt
  unfold pidV
  by_cases h : a.author = b.author
  · have HC := Lib.hid (cmpPid_seq h)
    have e1 : ((a.author.toNat : Int) != (b.author.toNat : Int)) = false := by rw [h]; simp
    clear h
    go_enter Tryz.func40, Tryz.ntmps40
    go_wp2_with fail
    refine (sign_any a.seq.toNat b.seq.toNat _).mono ?_
    rintro e w1 ⟨rfl, rfl⟩
    go_wp2_with fail
    go_ret
    exact ⟨ret_int HC.out.symm, HB.out⟩
  · have HC := Lib.hid (cmpPid_author h)
    have e1 : ((a.author.toNat : Int) != (b.author.toNat : Int)) = true := by
      simp only [bne_iff_ne, ne_eq, u8_int]; exact h
    clear h
    go_enter Tryz.func40, Tryz.ntmps40
    go_wp2_with fail
    refine (sign_any a.author.toNat b.author.toNat _).mono ?_
    rintro e w1 ⟨rfl, rfl⟩
    go_wp2_with fail
    go_ret
    exact ⟨ret_int HC.out.symm, HB.out⟩

set_option maxHeartbeats 2000000 in
set_option maxRecDepth 100000 in
theorem rcmpVid_any (a b : VidM) (w : World) : Calls Tryz.prog 16 #[vidV a, vidV b] w fun e w' => e = .returned (.int .i64 (cmpVid a b)) ∧ Below w.heap.size w w' := by
  have HB := Lib.hid ((below_new (w := w) (.cells #[.int .u8 (a.pid.author.toNat : Int), .int .u16 (a.pid.seq.toNat : Int), .int .u8 (a.n.toNat : Int)] 27)).alloc (by simp) (.cells #[.int .u8 (b.pid.author.toNat : Int), .int .u16 (b.pid.seq.toNat : Int), .int .u8 (b.n.toNat : Int)] 27))
  unfold vidV
  have gd := fun p q xs ys w => guard_pid .neq p q xs ys w
  by_cases h : a.pid = b.pid
  · have HC := Lib.hid (cmpVid_n h)
    have e1 := neq_pid a.pid b.pid false (by simp [h])
    unfold pidV at e1
    clear h
    by_cases h1 : a.n.toNat < b.n.toNat
    · have d1 : decide (a.n.toNat < b.n.toNat) = true := by simpa using h1
      have HD := Lib.hid (HC.out.trans (cmpN_lt h1))
      go_enter Tryz.func16, Tryz.ntmps16
      go_wp2_with fail
      go_ret
      exact ⟨ret_int HD.out.symm, HB.out⟩
    · have d1 : decide (a.n.toNat < b.n.toNat) = false := by simpa using h1
      by_cases h2 : b.n.toNat < a.n.toNat
      · have d2 : decide (b.n.toNat < a.n.toNat) = true := by simpa using h2
        have HD := Lib.hid (HC.out.trans (cmpN_gt h2))
        go_enter Tryz.func16, Tryz.ntmps16
        go_wp2_with fail
        go_ret
        exact ⟨ret_int HD.out.symm, HB.out⟩
      · have d2 : decide (b.n.toNat < a.n.toNat) = false := by simpa using h2
        have HD := Lib.hid (HC.out.trans (cmpN_eq (by omega)))
        go_enter Tryz.func16, Tryz.ntmps16
        go_wp2_with fail
        go_ret
        exact ⟨ret_int HD.out.symm, HB.out⟩
  · have HC := Lib.hid (cmpVid_pid h)
    have e1 := neq_pid a.pid b.pid true (by simp [h])
    unfold pidV at e1
    clear h
    go_enter Tryz.func16, Tryz.ntmps16
    go_wp2_with fail
    refine (rcmpPid_any a.pid b.pid _).mono ?_
    rintro e w1 ⟨rfl, hb1⟩
    go_wp2_with fail
    go_ret
    exact ⟨ret_int HC.out.symm, below_over HB.out HB.out.size hb1⟩
end Go.Proofs.YtflnkmmimoninaaGreatDoor
namespace Go.Proofs.YtflnkmmimoninaaGreatDoor
open Go Go.RowKit

theorem u8_nat (a : UInt8) (n : Nat) (h : n < 256) : a = UInt8.ofNat n ↔ a.toNat = n := by
  constructor
  · intro e; rw [e]; simp; omega
  · intro e; apply UInt8.toNat_inj.1; simp; omega
theorem makes_nat (k : UInt8) : makesB k = (decide (1 ≤ k.toNat) && decide (k.toNat ≤ 3)) := by
  unfold makesB
  have h1 : (k == 1) = decide (k.toNat = 1) := by rw [Bool.eq_iff_iff, beq_iff_eq, decide_eq_true_eq]; exact u8_nat k 1 (by omega)
  have h2 : (k == 2) = decide (k.toNat = 2) := by rw [Bool.eq_iff_iff, beq_iff_eq, decide_eq_true_eq]; exact u8_nat k 2 (by omega)
  have h3 : (k == 3) = decide (k.toNat = 3) := by rw [Bool.eq_iff_iff, beq_iff_eq, decide_eq_true_eq]; exact u8_nat k 3 (by omega)
  rw [h1, h2, h3]
  rw [Bool.eq_iff_iff]
  simp
  omega
attribute [local irreducible] makesB

set_option maxHeartbeats 1000000 in
theorem pmakes_any (k : UInt8) (w : World) : Calls Tryz.prog 46 #[.int .u8 (k.toNat : Int)] w fun e w' => e = .returned (.bool (makesB k)) ∧ w' = w := by
  have HM := Lib.hid (makes_nat k)
  by_cases h1 : 1 ≤ k.toNat
  · have e1 : decide ((1 : Int) ≤ (k.toNat : Int)) = true := by simp; omega
    by_cases h2 : k.toNat ≤ 3
    · have e2 : decide ((k.toNat : Int) ≤ 3) = true := by simp; omega
      have HV : Hid (makesB k = true) := by show _ = _; rw [HM.out]; simp; omega
      go_enter Tryz.func46, Tryz.ntmps46
      go_wp2_with fail
      go_ret
      exact ⟨ret_val (congrArg Value.bool HV.out.symm), rfl⟩
    · have e2 : decide ((k.toNat : Int) ≤ 3) = false := by simp; omega
      have HV : Hid (makesB k = false) := by show _ = _; rw [HM.out]; simp; omega
      go_enter Tryz.func46, Tryz.ntmps46
      go_wp2_with fail
      go_ret
      exact ⟨ret_val (congrArg Value.bool HV.out.symm), rfl⟩
  · have e1 : decide ((1 : Int) ≤ (k.toNat : Int)) = false := by simp; omega
    have HV : Hid (makesB k = false) := by show _ = _; rw [HM.out]; simp; omega
    go_enter Tryz.func46, Tryz.ntmps46
    go_wp2_with fail
    go_ret
    exact ⟨ret_val (congrArg Value.bool HV.out.symm), rfl⟩

set_option maxHeartbeats 1000000 in
theorem rmakes_any (k : UInt8) (w : World) : Calls Tryz.prog 83 #[.int .u8 (k.toNat : Int)] w fun e w' => e = .returned (.bool (makesB k)) ∧ w' = w := by
  have HM := Lib.hid (makes_nat k)
  by_cases h1 : k.toNat = 1
  · have e1 : ((k.toNat : Int) == 1) = true := by simp; omega
    have HV : Hid (makesB k = true) := by show _ = _; rw [HM.out]; simp; omega
    clear h1
    go_enter Tryz.func83, Tryz.ntmps83
    go_wp2_with fail
    go_ret
    exact ⟨ret_val (congrArg Value.bool HV.out.symm), rfl⟩
  · have e1 : ((k.toNat : Int) == 1) = false := by simp; omega
    by_cases h2 : k.toNat = 2
    · have e2 : ((k.toNat : Int) == 2) = true := by simp; omega
      have HV : Hid (makesB k = true) := by show _ = _; rw [HM.out]; simp; omega
      clear h1 h2
      go_enter Tryz.func83, Tryz.ntmps83
      go_wp2_with fail
      go_ret
      exact ⟨ret_val (congrArg Value.bool HV.out.symm), rfl⟩
    · have e2 : ((k.toNat : Int) == 2) = false := by simp; omega
      by_cases h3 : k.toNat = 3
      · have e3 : ((k.toNat : Int) == 3) = true := by simp; omega
        have HV : Hid (makesB k = true) := by show _ = _; rw [HM.out]; simp; omega
        clear h1 h2 h3
        go_enter Tryz.func83, Tryz.ntmps83
        go_wp2_with fail
        go_ret
        exact ⟨ret_val (congrArg Value.bool HV.out.symm), rfl⟩
      · have e3 : ((k.toNat : Int) == 3) = false := by simp; omega
        have HV : Hid (makesB k = false) := by show _ = _; rw [HM.out]; simp; omega
        clear h1 h2 h3
        go_enter Tryz.func83, Tryz.ntmps83
        go_wp2_with fail
        go_ret
        exact ⟨ret_val (congrArg Value.bool HV.out.symm), rfl⟩

theorem rowT_vid : RowT Tryz.prog 27 3 := rowT_of Tryz.underlying27 rfl (by kernel_rfl)
theorem mod_u8 (i : Nat) : ((i : Int) % 256) = ((UInt8.ofNat i).toNat : Int) := by simp
theorem vid_ret {w w' : World} {p : PidM} {i : Nat} (h : Below w.heap.size w w') : (Ending.returned (.agg #[.int .u8 (p.author.toNat : Int), .int .u16 (p.seq.toNat : Int), .int .u8 ((i : Int) % 256)]) = .returned (vidV ⟨p, UInt8.ofNat i⟩)) ∧ Below w.heap.size w w' := by
  rw [mod_u8]; exact ⟨rfl, h⟩
set_option maxHeartbeats 1000000 in
set_option maxRecDepth 100000 in
theorem pvid_any (p : PidM) (i : Nat) (w : World) (hi : i < 4611686018427387904) : Calls Tryz.prog 20 #[pidV p, .int .i64 (i : Int)] w fun e w' => e = .returned (vidV ⟨p, UInt8.ofNat i⟩) ∧ Below w.heap.size w w' := by
  unfold pidV
  go_enter Tryz.func20, Tryz.ntmps20
  go_wp2_with fail
  exact bodyPost_ret (v := .agg #[.int .u8 (p.author.toNat : Int), .int .u16 (p.seq.toNat : Int), .int .u8 ((i : Int) % 256)]) (results_arr rowT_vid rfl (arr_new2 _ _ _ _) rfl rfl) rfl (vid_ret ((below_new _).alloc (by simp) _))
set_option maxHeartbeats 1000000 in
set_option maxRecDepth 100000 in
theorem rvid_any (p : PidM) (i : Nat) (w : World) (hi : i < 4611686018427387904) : Calls Tryz.prog 84 #[pidV p, .int .i64 (i : Int)] w fun e w' => e = .returned (vidV ⟨p, UInt8.ofNat i⟩) ∧ Below w.heap.size w w' := by
  unfold pidV
  go_enter Tryz.func84, Tryz.ntmps84
  go_wp2_with fail
  exact bodyPost_ret (v := .agg #[.int .u8 (p.author.toNat : Int), .int .u16 (p.seq.toNat : Int), .int .u8 ((i : Int) % 256)]) (results_arr rowT_vid rfl (arr_new2 _ _ _ _) rfl rfl) rfl (vid_ret ((below_new _).alloc (by simp) _))

def VRow (w : World) (v : Value) (vs : List VidM) : Prop := Row w v vs.length 3 (vs.flatMap encVid)
theorem row_of_arr {w : World} {g : Nat} {cs : List Value} {n sz : Nat} (h : Arr w g cs) (hl : cs.length = n * sz) (hn : n ≤ 1000) (h0 : n ≠ 0) : Row w (.slice (some ⟨g, 0, none⟩) n n) n sz cs :=
  ⟨hl, _, n, rfl, Nat.le_refl _, by unfold maxLen; omega, fun h => (by cases h), fun _ => ⟨g, 0, rfl, h.lt, fun j u hu => by rw [Nat.zero_add]; exact h.cell hu⟩⟩
/-- a row of names in a block of its own -/
def RefsAt (w : World) (v : Value) (vs : List VidM) : Prop := (vs = [] ∧ v = .slice none 0 0) ∨ (vs ≠ [] ∧ vs.length ≤ 1000 ∧ ∃ g, v = .slice (some ⟨g, 0, none⟩) vs.length vs.length ∧ ArrT w g 27 (vs.flatMap encVid))
theorem vid_flat_len : ∀ vs : List VidM, (vs.flatMap encVid).length = vs.length * 3
  | [] => rfl
  | v :: vs => by rw [List.flatMap_cons, List.length_append, vid_flat_len vs, List.length_cons]; simp [encVid]; omega
theorem RefsAt.vrow {w : World} {v : Value} {vs : List VidM} (h : RefsAt w v vs) : VRow w v vs := by
  rcases h with ⟨rfl, rfl⟩ | ⟨hne, hle, g, rfl, hA⟩
  · exact row_nil w 3
  · exact row_of_arr hA.arr (vid_flat_len vs) hle (fun e => hne (List.eq_nil_of_length_eq_zero e))
def RefsRes (w : World) (vs : List VidM) (e : Ending) (w' : World) : Prop := ∃ v, e = .returned v ∧ RefsAt w' v vs ∧ Below w.heap.size w w'
theorem arrT_at {w : World} {g : Nat} (cs : Array Value) (e : TypeId) (hg : w.heap.size = g) : ArrT (w.alloc (.cells cs e)) g e cs.toList := by
  subst hg
  exact arrT_new w cs.toList e
theorem refs_one {o : OpM} (h : o.kind.toNat = 2 ∨ o.kind.toNat = 3 ∨ o.kind.toNat = 5) : refsM o = [o.at'] := by
  unfold refsM
  rw [if_pos]
  rcases h with h | h | h
  · exact .inl ((u8_nat _ 2 (by omega)).2 h)
  · exact .inr (.inl ((u8_nat _ 3 (by omega)).2 h))
  · exact .inr (.inr ((u8_nat _ 5 (by omega)).2 h))
theorem refs_two {o : OpM} (h : o.kind.toNat = 4) : refsM o = [o.at', o.to] := by
  have h4 : o.kind = 4 := (u8_nat _ 4 (by omega)).2 h
  unfold refsM
  rw [h4]; rfl
theorem refs_none {o : OpM} (h : ¬ (o.kind.toNat = 2 ∨ o.kind.toNat = 3 ∨ o.kind.toNat = 4 ∨ o.kind.toNat = 5)) : refsM o = [] := by
  unfold refsM
  rw [if_neg, if_neg]
  · intro e; exact h (.inr (.inr (.inl ((u8_nat _ 4 (by omega)).1 e))))
  · rintro (e | e | e)
    · exact h (.inl ((u8_nat _ 2 (by omega)).1 e))
    · exact h (.inr (.inl ((u8_nat _ 3 (by omega)).1 e)))
    · exact h (.inr (.inr (.inr ((u8_nat _ 5 (by omega)).1 e))))
attribute [local irreducible] refsM

set_option maxHeartbeats 2000000 in
set_option maxRecDepth 100000 in
theorem prefs_any (o : OpM) (w : World) : Calls Tryz.prog 68 #[opV o] w (RefsRes w (refsM o)) := by
  unfold opV
  by_cases h1 : o.kind.toNat = 2 ∨ o.kind.toNat = 3 ∨ o.kind.toNat = 5
  · have HR := Lib.hid (refs_one h1)
    rcases h1 with h1 | h1 | h1
    · have e2 : ((o.kind.toNat : Int) == 2) = true := by simp; omega
      have e3 : ((o.kind.toNat : Int) == 3) = false := by simp; omega
      have e5 : ((o.kind.toNat : Int) == 5) = false := by simp; omega
      clear h1
      go_enter Tryz.func68, Tryz.ntmps68
      go_wp2_with fail
      go_ret
      exact ⟨_, rfl, (by rw [HR.out]; exact .inr ⟨by simp, by simp, _, rfl, arrT_at _ _ (by simp)⟩), (below_new _).alloc (by simp) _⟩
    · have e2 : ((o.kind.toNat : Int) == 2) = false := by simp; omega
      have e3 : ((o.kind.toNat : Int) == 3) = true := by simp; omega
      have e5 : ((o.kind.toNat : Int) == 5) = false := by simp; omega
      clear h1
      go_enter Tryz.func68, Tryz.ntmps68
      go_wp2_with fail
      go_ret
      exact ⟨_, rfl, (by rw [HR.out]; exact .inr ⟨by simp, by simp, _, rfl, arrT_at _ _ (by simp)⟩), (below_new _).alloc (by simp) _⟩
    · have e2 : ((o.kind.toNat : Int) == 2) = false := by simp; omega
      have e3 : ((o.kind.toNat : Int) == 3) = false := by simp; omega
      have e5 : ((o.kind.toNat : Int) == 5) = true := by simp; omega
      clear h1
      go_enter Tryz.func68, Tryz.ntmps68
      go_wp2_with fail
      go_ret
      exact ⟨_, rfl, (by rw [HR.out]; exact .inr ⟨by simp, by simp, _, rfl, arrT_at _ _ (by simp)⟩), (below_new _).alloc (by simp) _⟩
  · by_cases h4 : o.kind.toNat = 4
    · have HR := Lib.hid (refs_two h4)
      have e2 : ((o.kind.toNat : Int) == 2) = false := by simp; omega
      have e3 : ((o.kind.toNat : Int) == 3) = false := by simp; omega
      have e5 : ((o.kind.toNat : Int) == 5) = false := by simp; omega
      have e4 : ((o.kind.toNat : Int) == 4) = true := by simp; omega
      clear h1 h4
      go_enter Tryz.func68, Tryz.ntmps68
      go_wp2_with fail
      go_ret
      exact ⟨_, rfl, (by rw [HR.out]; exact .inr ⟨by simp, by simp, _, rfl, arrT_at _ _ (by simp)⟩), (below_new _).alloc (by simp) _⟩
    · have HR := Lib.hid (refs_none (o := o) (by omega))
      have e2 : ((o.kind.toNat : Int) == 2) = false := by simp; omega
      have e3 : ((o.kind.toNat : Int) == 3) = false := by simp; omega
      have e5 : ((o.kind.toNat : Int) == 5) = false := by simp; omega
      have e4 : ((o.kind.toNat : Int) == 4) = false := by simp; omega
      clear h1 h4
      go_enter Tryz.func68, Tryz.ntmps68
      go_wp2_with fail
      go_ret
      exact ⟨_, rfl, (by rw [HR.out]; exact .inl ⟨rfl, rfl⟩), below_new _⟩

set_option maxHeartbeats 2000000 in
set_option maxRecDepth 100000 in
theorem rrefs_any (o : OpM) (w : World) : Calls Tryz.prog 143 #[opV o] w (RefsRes w (refsM o)) := by
  unfold opV
  by_cases h1 : o.kind.toNat = 2 ∨ o.kind.toNat = 3 ∨ o.kind.toNat = 5
  · have HR := Lib.hid (refs_one h1)
    rcases h1 with h1 | h1 | h1
    · have e2 : ((o.kind.toNat : Int) == 2) = true := by simp; omega
      have e3 : ((o.kind.toNat : Int) == 3) = false := by simp; omega
      have e5 : ((o.kind.toNat : Int) == 5) = false := by simp; omega
      clear h1
      go_enter Tryz.func143, Tryz.ntmps143
      go_wp2_with fail
      go_ret
      exact ⟨_, rfl, (by rw [HR.out]; exact .inr ⟨by simp, by simp, _, rfl, arrT_at _ _ (by simp)⟩), (below_new _).alloc (by simp) _⟩
    · have e2 : ((o.kind.toNat : Int) == 2) = false := by simp; omega
      have e3 : ((o.kind.toNat : Int) == 3) = true := by simp; omega
      have e5 : ((o.kind.toNat : Int) == 5) = false := by simp; omega
      clear h1
      go_enter Tryz.func143, Tryz.ntmps143
      go_wp2_with fail
      go_ret
      exact ⟨_, rfl, (by rw [HR.out]; exact .inr ⟨by simp, by simp, _, rfl, arrT_at _ _ (by simp)⟩), (below_new _).alloc (by simp) _⟩
    · have e2 : ((o.kind.toNat : Int) == 2) = false := by simp; omega
      have e3 : ((o.kind.toNat : Int) == 3) = false := by simp; omega
      have e5 : ((o.kind.toNat : Int) == 5) = true := by simp; omega
      clear h1
      go_enter Tryz.func143, Tryz.ntmps143
      go_wp2_with fail
      go_ret
      exact ⟨_, rfl, (by rw [HR.out]; exact .inr ⟨by simp, by simp, _, rfl, arrT_at _ _ (by simp)⟩), (below_new _).alloc (by simp) _⟩
  · by_cases h4 : o.kind.toNat = 4
    · have HR := Lib.hid (refs_two h4)
      have e2 : ((o.kind.toNat : Int) == 2) = false := by simp; omega
      have e3 : ((o.kind.toNat : Int) == 3) = false := by simp; omega
      have e5 : ((o.kind.toNat : Int) == 5) = false := by simp; omega
      have e4 : ((o.kind.toNat : Int) == 4) = true := by simp; omega
      clear h1 h4
      go_enter Tryz.func143, Tryz.ntmps143
      go_wp2_with fail
      go_ret
      exact ⟨_, rfl, (by rw [HR.out]; exact .inr ⟨by simp, by simp, _, rfl, arrT_at _ _ (by simp)⟩), (below_new _).alloc (by simp) _⟩
    · have HR := Lib.hid (refs_none (o := o) (by omega))
      have e2 : ((o.kind.toNat : Int) == 2) = false := by simp; omega
      have e3 : ((o.kind.toNat : Int) == 3) = false := by simp; omega
      have e5 : ((o.kind.toNat : Int) == 5) = false := by simp; omega
      have e4 : ((o.kind.toNat : Int) == 4) = false := by simp; omega
      clear h1 h4
      go_enter Tryz.func143, Tryz.ntmps143
      go_wp2_with fail
      go_ret
      exact ⟨_, rfl, (by rw [HR.out]; exact .inl ⟨rfl, rfl⟩), below_new _⟩
end Go.Proofs.YtflnkmmimoninaaGreatDoor
