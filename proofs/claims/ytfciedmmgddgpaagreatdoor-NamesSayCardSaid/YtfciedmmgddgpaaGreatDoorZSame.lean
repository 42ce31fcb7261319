/- The reference's names, plain: put in one by one they come to what the program sorts. Contracts of pid.Later, cmp.Compare at bytes, cmp.Or, vid.Later: told by draws and new blocks alone. Contract of bruitref10.Same. -/
import Derived.Test.YtfciedmmgddgpaaGreatDoorZNmP
import Derived.Test.YtfciedmmgddgpaaGreatDoorZPSet
import Derived.Test.YtfciedmmgddgpaaGreatDoorZOps
import Derived.Test.YtfciedmmgddgpaaGreatDoorZSet
namespace Go.Proofs.YtfciedmmgddgpaaGreatDoor
open Go Go.RowKit

/-! ### the latest first -/
def insLater (x : VertM) : List VertM → List VertM
  | [] => [x]
  | y :: l => if 0 < cmpLater x.id y.id then x :: y :: l else y :: insLater x l
theorem cmpN_pos (a b : Nat) : (0 < cmpN a b) = (b < a) := by
  rcases Nat.lt_trichotomy a b with h | h | h
  · rw [cmpN_lt h]; simp; omega
  · rw [cmpN_eq h]; simp; omega
  · rw [cmpN_gt h]; simp [h]
theorem insLater_perm (x : VertM) : ∀ l : List VertM, (insLater x l).Perm (x :: l)
  | [] => List.Perm.refl _
  | y :: l => by
    unfold insLater
    split
    · exact List.Perm.refl _
    · exact ((insLater_perm x l).cons y).trans (List.Perm.swap x y l)
def LaterS (l : List VertM) : Prop := l.Pairwise fun a b => laterK b.id ≤ laterK a.id
theorem insLater_sorted (x : VertM) : ∀ {l : List VertM}, LaterS l → LaterS (insLater x l)
  | [], _ => List.pairwise_singleton _ _
  | y :: l, h => by
    obtain ⟨h1, h2⟩ := List.pairwise_cons.1 h
    unfold insLater
    split
    · rename_i hc
      unfold cmpLater at hc
      rw [cmpN_pos] at hc
      refine List.pairwise_cons.2 ⟨fun z hz => ?_, h⟩
      rcases List.mem_cons.1 hz with rfl | hz
      · omega
      · have := h1 z hz; omega
    · rename_i hc
      unfold cmpLater at hc
      rw [cmpN_pos] at hc
      refine List.pairwise_cons.2 ⟨fun z hz => ?_, insLater_sorted x h2⟩
      rcases List.mem_cons.1 ((insLater_perm x l).mem_iff.1 hz) with rfl | hz
      · omega
      · exact h1 z hz
def insAll (l : List VertM) : List VertM := l.foldl (fun out x => insLater x out) []
theorem insAll_go : ∀ (l out : List VertM), LaterS out → (l.foldl (fun out x => insLater x out) out).Perm (l ++ out) ∧ LaterS (l.foldl (fun out x => insLater x out) out)
  | [], out, h => ⟨List.Perm.refl _, h⟩
  | x :: l, out, h => by
    obtain ⟨h1, h2⟩ := insAll_go l (insLater x out) (insLater_sorted x h)
    refine ⟨h1.trans ?_, h2⟩
    exact ((insLater_perm x out).append_left l).trans List.perm_middle
theorem insAll_names {L : List PatchM} (hl : ∀ p ∈ L, p.ops.length ≤ 200) (f : VidM) : insAll (aliveM L f) = namesM L f := by
  obtain ⟨h1, h2⟩ := insAll_go (aliveM L f) [] List.Pairwise.nil
  rw [List.append_nil] at h1
  refine names_eq hl f h1 (h2.imp fun {a b} h => ?_)
  unfold cmpLater
  rw [cmpN_neg]; omega

/-! ### texts in order -/
abbrev TextL : Type := List UInt8
theorem tl_irrefl (a : TextL) : ¬ a < a := List.lt_irrefl a
theorem tl_trans {a b c : TextL} (h : a < b) (h' : b < c) : a < c := List.lt_trans h h'
theorem tl_total (a b : TextL) : a ≤ b ∨ b ≤ a := List.le_total a b
theorem tl_not {a b : TextL} : ¬ a < b ↔ b ≤ a := List.not_lt
theorem tl_antisymm {a b : TextL} (h : a ≤ b) (h' : b ≤ a) : a = b := List.le_antisymm h h'
theorem tl_lt_of {a b : TextL} (h : a ≤ b) (hne : a ≠ b) : a < b := by
  rcases Classical.em (a < b) with h1 | h1
  · exact h1
  · exact absurd (tl_antisymm h (tl_not.1 h1)) hne
theorem tl_le_of {a b : TextL} (h : a < b) : a ≤ b := tl_not.1 fun h' => tl_irrefl a (tl_trans h h')
theorem tl_le_trans {a b c : TextL} (h : a ≤ b) (h' : b ≤ c) : a ≤ c := List.le_trans h h'
def RisesT (l : List TextL) : Prop := l.Pairwise fun a b => a < b
theorem risesT_ext : ∀ {l m : List TextL}, RisesT l → RisesT m → (∀ x, x ∈ l ↔ x ∈ m) → l = m
  | [], [], _, _, _ => rfl
  | [], y :: m, _, _, h => absurd ((h y).2 (List.mem_cons_self ..)) (List.not_mem_nil)
  | x :: l, [], _, _, h => absurd ((h x).1 (List.mem_cons_self ..)) (List.not_mem_nil)
  | x :: l, y :: m, hl, hm, h => by
    obtain ⟨l1, l2⟩ := List.pairwise_cons.1 hl
    obtain ⟨m1, m2⟩ := List.pairwise_cons.1 hm
    have hxy : x = y := by
      rcases List.mem_cons.1 ((h x).1 (List.mem_cons_self ..)) with e | hx
      · exact e
      · rcases List.mem_cons.1 ((h y).2 (List.mem_cons_self ..)) with e | hy
        · exact e.symm
        · exact absurd (tl_trans (m1 x hx) (l1 y hy)) (tl_irrefl y)
    subst hxy
    refine congrArg _ (risesT_ext l2 m2 fun z => ⟨fun hz => ?_, fun hz => ?_⟩)
    · rcases List.mem_cons.1 ((h z).1 (List.mem_cons_of_mem _ hz)) with rfl | hz'
      · exact absurd (l1 _ hz) (tl_irrefl _)
      · exact hz'
    · rcases List.mem_cons.1 ((h z).2 (List.mem_cons_of_mem _ hz)) with rfl | hz'
      · exact absurd (m1 _ hz) (tl_irrefl _)
      · exact hz'
theorem compact_compL (l : List TextL) : ∀ m, m ≤ l.length → Lib.compactUpTo l.toArray m = compL (l.take m)
  | 0, _ => rfl
  | 1, h => by
    cases l with
    | nil => simp at h
    | cons x l => simp [Lib.compactUpTo, Lib.keeps, compL, List.range_succ]
  | m + 2, h => by
    have ih := compact_compL l (m + 1) (by omega)
    have hx := List.getElem?_eq_getElem (l := l) (i := m) (by omega)
    have hy := List.getElem?_eq_getElem (l := l) (i := m + 1) (by omega)
    rw [comp_step hx hy, ← ih]
    have e1 : l.toArray[m + 1]! = l[m + 1] := by rw [getElem!_pos _ _ (by simp; omega)]; simp
    have e0 : l.toArray[m + 1 - 1]! = l[m] := by rw [getElem!_pos _ _ (by simp; omega)]; simp
    unfold Lib.compactUpTo
    rw [List.range_succ (n := m + 1), List.filter_append, List.map_append]
    by_cases hxy : l[m] = l[m + 1]
    · rw [if_pos hxy]
      have : Lib.keeps l.toArray (m + 1) = false := by simp only [Lib.keeps, e1, e0, hxy]; simp
      simp [this]
    · rw [if_neg hxy]
      have : Lib.keeps l.toArray (m + 1) = true := by simp only [Lib.keeps, e1, e0]; simp [Ne.symm hxy]
      rw [List.filter_cons, this]
      simp only [if_true, List.filter_nil, List.map_cons, List.map_nil]
      rw [e1]
theorem rises_compT : ∀ {l : List TextL}, (l.Pairwise fun a b => a ≤ b) → RisesT (compL l)
  | [], _ => List.Pairwise.nil
  | [x], _ => List.pairwise_singleton _ _
  | x :: y :: l, h => by
    have h' := List.pairwise_cons.1 h
    have hr := rises_compT h'.2
    by_cases e : x = y
    · subst e; rw [compL_eq]; exact hr
    · rw [compL_ne e]
      refine List.pairwise_cons.2 ⟨fun z hz => ?_, hr⟩
      rw [mem_compL] at hz
      have hxy := tl_lt_of (h'.1 y (List.mem_cons_self ..)) e
      rcases List.mem_cons.1 hz with rfl | hz
      · exact hxy
      · have h3 := (List.pairwise_cons.1 h'.2).1 z hz
        refine tl_lt_of (tl_le_trans (tl_le_of hxy) h3) fun q => ?_
        subst q
        exact absurd hxy (tl_not.2 h3)
theorem alsoM_spec (l : List VertM) (t : ByteArray) : RisesT (alsoM l t) ∧ ∀ s, s ∈ alsoM l t ↔ s ∈ othersM l t := by
  have hs : ((othersM l t).mergeSort fun x y => decide (x ≤ y)).Pairwise fun a b => a ≤ b := by
    have := List.pairwise_mergeSort (le := fun x y : TextL => decide (x ≤ y)) (fun a b c h1 h2 => by simp at *; exact tl_le_trans h1 h2) (fun a b => by simpa using tl_total a b) (othersM l t)
    exact this.imp fun h => by simpa using h
  have he : alsoM l t = compL ((othersM l t).mergeSort fun x y => decide (x ≤ y)) := by
    have := compact_compL ((othersM l t).mergeSort fun x y => decide (x ≤ y)) _ (Nat.le_refl _)
    rw [List.take_length] at this
    exact this
  rw [he]
  exact ⟨rises_compT hs, fun s => by rw [mem_compL, List.mem_mergeSort]⟩
end Go.Proofs.YtfciedmmgddgpaaGreatDoor
namespace Go.Proofs.YtfciedmmgddgpaaGreatDoor
open Go Go.RowKit

def laterP (a b : PidM) : Int := if a = b then 0 else if a.seq.toNat < b.seq.toNat then -1 else if a.seq.toNat = b.seq.toNat ∧ a.author.toNat < b.author.toNat then -1 else 1
theorem laterP_key (a b : PidM) : laterP a b = cmpN (a.seq.toNat * 256 + a.author.toNat) (b.seq.toNat * 256 + b.author.toNat) := by
  have h1 := a.author.toNat_lt
  have h2 := b.author.toNat_lt
  unfold laterP
  by_cases h : a = b
  · rw [if_pos h, h, cmpN_eq rfl]
  · have hne : ¬ (a.seq.toNat = b.seq.toNat ∧ a.author.toNat = b.author.toNat) := fun ⟨e1, e2⟩ => h (by
      obtain ⟨a1, a2⟩ := a
      obtain ⟨b1, b2⟩ := b
      simp at e1 e2
      rw [UInt16.toNat_inj.1 e1, UInt8.toNat_inj.1 e2])
    rw [if_neg h]
    by_cases h3 : a.seq.toNat < b.seq.toNat
    · rw [if_pos h3, cmpN_lt (by omega)]
    · rw [if_neg h3]
      by_cases h4 : a.seq.toNat = b.seq.toNat ∧ a.author.toNat < b.author.toNat
      · rw [if_pos h4, cmpN_lt (by omega)]
      · rw [if_neg h4, cmpN_gt (by omega)]
def orI (x y : Int) : Int := if x = 0 then y else x
theorem or_lex (A B m n : Nat) (h1 : m < 256) (h2 : n < 256) : orI (cmpN A B) (cmpN m n) = cmpN (A * 256 + m) (B * 256 + n) := by
  unfold orI
  rcases Nat.lt_trichotomy A B with h | h | h
  · have h3 : A * 256 + m < B * 256 + n := by omega
    rw [cmpN_lt h, cmpN_lt h3, if_neg (by decide)]
  · subst h
    rw [cmpN_eq rfl, if_pos rfl]
    rcases Nat.lt_trichotomy m n with h3 | h3 | h3
    · have h4 : A * 256 + m < A * 256 + n := by omega
      rw [cmpN_lt h3, cmpN_lt h4]
    · subst h3
      rw [cmpN_eq rfl, cmpN_eq rfl]
    · have h4 : A * 256 + n < A * 256 + m := by omega
      rw [cmpN_gt h3, cmpN_gt h4]
  · have h3 : B * 256 + n < A * 256 + m := by omega
    rw [cmpN_gt h, cmpN_gt h3, if_neg (by decide)]
theorem later_or (a b : VidM) : orI (laterP a.pid b.pid) (cmpN a.n.toNat b.n.toNat) = cmpLater a b := by
  rw [laterP_key]
  exact or_lex _ _ _ _ a.n.toNat_lt b.n.toNat_lt
attribute [local irreducible] laterP cmpN orI
set_option maxHeartbeats 4000000 in
set_option maxRecDepth 100000 in
theorem platerG (a b : PidM) (w : World) : Calls Tryz.prog 54 #[pidV a, pidV b] w fun e w' => e = .returned (.int .i64 (laterP a b)) ∧ Grew w w' := by
  have HA := Lib.hid ((arr_new w #[.int .u8 (a.author.toNat : Int), .int .u16 (a.seq.toNat : Int)] 25).alloc (.cells #[.int .u8 (b.author.toNat : Int), .int .u16 (b.seq.toNat : Int)] 25))
  have HC := Lib.hid (arr_new2 w (.cells #[.int .u8 (a.author.toNat : Int), .int .u16 (a.seq.toNat : Int)] 25) #[.int .u8 (b.author.toNat : Int), .int .u16 (b.seq.toNat : Int)] 25)
  have HB := Lib.hid (((Grew.refl w).alloc (.cells #[.int .u8 (a.author.toNat : Int), .int .u16 (a.seq.toNat : Int)] 25)).alloc (.cells #[.int .u8 (b.author.toNat : Int), .int .u16 (b.seq.toNat : Int)] 25))
  have gd := fun p q xs ys w => guard_pid .eql p q xs ys w
  have s1 : (a.seq.toNat : Int) < 65536 := by have := a.seq.toNat_lt; omega
  have s2 : (b.seq.toNat : Int) < 65536 := by have := b.seq.toNat_lt; omega
  by_cases h0 : a = b
  · have e0 := eql_pid a b true (by simp [h0])
    have HV : Hid (laterP a b = 0) := by show _ = _; unfold laterP; rw [if_pos h0]
    clear h0
    unfold pidV at e0 ⊢
    go_enter Tryz.func54, Tryz.ntmps54
    go_upto_region 1 with (fail)
    generalize hw0 : (w.alloc (.cells #[.int .u8 (a.author.toNat : Int), .int .u16 (a.seq.toNat : Int)] 25)).alloc (.cells #[.int .u8 (b.author.toNat : Int), .int .u16 (b.seq.toNat : Int)] 25) = w0 at *
    clear hw0
    have c0 := HA.out.cell (j := 0) rfl
    have c1 := HA.out.cell (j := 1) rfl
    have sc := HA.out.lt
    have d0 := HC.out.cell (j := 0) rfl
    have d1 := HC.out.cell (j := 1) rfl
    have sd := HC.out.lt
    go_wp2_with fail
    go_ret
    exact ⟨ret_int HV.out.symm, HB.out⟩
  · have e0 := eql_pid a b false (by simp [h0])
    unfold pidV at e0 ⊢
    by_cases h1 : a.seq.toNat < b.seq.toNat
    · have d1 : decide (a.seq.toNat < b.seq.toNat) = true := by simpa using h1
      have HV : Hid (laterP a b = -1) := by show _ = _; unfold laterP; rw [if_neg h0, if_pos h1]
      clear h0
      go_enter Tryz.func54, Tryz.ntmps54
      go_upto_region 1 with (fail)
      generalize hw0 : (w.alloc (.cells #[.int .u8 (a.author.toNat : Int), .int .u16 (a.seq.toNat : Int)] 25)).alloc (.cells #[.int .u8 (b.author.toNat : Int), .int .u16 (b.seq.toNat : Int)] 25) = w0 at *
      clear hw0
      have c0 := HA.out.cell (j := 0) rfl
      have c1 := HA.out.cell (j := 1) rfl
      have sc := HA.out.lt
      have d0 := HC.out.cell (j := 0) rfl
      have d1 := HC.out.cell (j := 1) rfl
      have sd := HC.out.lt
      go_wp2_with fail
      go_ret
      exact ⟨ret_int HV.out.symm, HB.out⟩
    · have d1 : decide (a.seq.toNat < b.seq.toNat) = false := by simpa using h1
      by_cases h2 : a.seq.toNat = b.seq.toNat
      · have d2 : ((a.seq.toNat : Int) == (b.seq.toNat : Int)) = true := by simp [h2]
        by_cases h3 : a.author.toNat < b.author.toNat
        · have d3 : decide (a.author.toNat < b.author.toNat) = true := by simpa using h3
          have HV : Hid (laterP a b = -1) := by show _ = _; unfold laterP; rw [if_neg h0, if_neg h1, if_pos ⟨h2, h3⟩]
          clear h0 h1 h2
          go_enter Tryz.func54, Tryz.ntmps54
          go_upto_region 1 with (fail)
          generalize hw0 : (w.alloc (.cells #[.int .u8 (a.author.toNat : Int), .int .u16 (a.seq.toNat : Int)] 25)).alloc (.cells #[.int .u8 (b.author.toNat : Int), .int .u16 (b.seq.toNat : Int)] 25) = w0 at *
          clear hw0
          have c0 := HA.out.cell (j := 0) rfl
          have c1 := HA.out.cell (j := 1) rfl
          have sc := HA.out.lt
          have d0 := HC.out.cell (j := 0) rfl
          have d1 := HC.out.cell (j := 1) rfl
          have sd := HC.out.lt
          go_wp2_with fail
          go_ret
          exact ⟨ret_int HV.out.symm, HB.out⟩
        · have d3 : decide (a.author.toNat < b.author.toNat) = false := by simpa using h3
          have HV : Hid (laterP a b = 1) := by show _ = _; unfold laterP; rw [if_neg h0, if_neg h1, if_neg (fun q => h3 q.2)]
          clear h0 h1 h2
          go_enter Tryz.func54, Tryz.ntmps54
          go_upto_region 1 with (fail)
          generalize hw0 : (w.alloc (.cells #[.int .u8 (a.author.toNat : Int), .int .u16 (a.seq.toNat : Int)] 25)).alloc (.cells #[.int .u8 (b.author.toNat : Int), .int .u16 (b.seq.toNat : Int)] 25) = w0 at *
          clear hw0
          have c0 := HA.out.cell (j := 0) rfl
          have c1 := HA.out.cell (j := 1) rfl
          have sc := HA.out.lt
          have d0 := HC.out.cell (j := 0) rfl
          have d1 := HC.out.cell (j := 1) rfl
          have sd := HC.out.lt
          go_wp2_with fail
          go_ret
          exact ⟨ret_int HV.out.symm, HB.out⟩
      · have d2 : ((a.seq.toNat : Int) == (b.seq.toNat : Int)) = false := by simp; omega
        have HV : Hid (laterP a b = 1) := by show _ = _; unfold laterP; rw [if_neg h0, if_neg h1, if_neg (fun q => h2 q.1)]
        clear h0 h1 h2
        go_enter Tryz.func54, Tryz.ntmps54
        go_upto_region 1 with (fail)
        generalize hw0 : (w.alloc (.cells #[.int .u8 (a.author.toNat : Int), .int .u16 (a.seq.toNat : Int)] 25)).alloc (.cells #[.int .u8 (b.author.toNat : Int), .int .u16 (b.seq.toNat : Int)] 25) = w0 at *
        clear hw0
        have c0 := HA.out.cell (j := 0) rfl
        have c1 := HA.out.cell (j := 1) rfl
        have sc := HA.out.lt
        have d0 := HC.out.cell (j := 0) rfl
        have d1 := HC.out.cell (j := 1) rfl
        have sd := HC.out.lt
        go_wp2_with fail
        go_ret
        exact ⟨ret_int HV.out.symm, HB.out⟩
set_option maxHeartbeats 4000000 in
set_option maxRecDepth 100000 in
theorem nan8_any (a : Nat) (w : World) : Calls Tryz.prog 96 #[.int .u8 (a : Int)] w fun e w' => e = .returned (.bool false) ∧ w' = w := by
  go_enter Tryz.func96, Tryz.ntmps96
  go_wp2
  go_ret
  exact ⟨rfl, rfl⟩
set_option maxHeartbeats 4000000 in
set_option maxRecDepth 100000 in
theorem compare8_any (a b : Nat) (w : World) : Calls Tryz.prog 55 #[.int .u8 (a : Int), .int .u8 (b : Int)] w fun e w' => e = .returned (.int .i64 (cmpN a b)) ∧ w' = w := by
  by_cases h1 : a < b
  · have HC := Lib.hid (cmpN_lt h1)
    have d1 : decide (a < b) = true := by simpa using h1
    go_enter Tryz.func55, Tryz.ntmps55
    go_wp2_with (go_at_call 96; (with_reducible refine (nan8_any _ _).mono ?_); rintro e w' ⟨rfl, rfl⟩)
    go_ret
    exact ⟨ret_int HC.out.symm, rfl⟩
  · have d1 : decide (a < b) = false := by simpa using h1
    by_cases h2 : b < a
    · have HC := Lib.hid (cmpN_gt h2)
      have d2 : decide (b < a) = true := by simpa using h2
      go_enter Tryz.func55, Tryz.ntmps55
      go_wp2_with (go_at_call 96; (with_reducible refine (nan8_any _ _).mono ?_); rintro e w' ⟨rfl, rfl⟩)
      go_ret
      exact ⟨ret_int HC.out.symm, rfl⟩
    · have HC := Lib.hid (cmpN_eq (show a = b by omega))
      have d2 : decide (b < a) = false := by simpa using h2
      go_enter Tryz.func55, Tryz.ntmps55
      go_wp2_with (go_at_call 96; (with_reducible refine (nan8_any _ _).mono ?_); rintro e w' ⟨rfl, rfl⟩)
      go_ret
      exact ⟨ret_int HC.out.symm, rfl⟩
set_option maxHeartbeats 4000000 in
set_option maxRecDepth 100000 in
theorem orInt_any (x y : Int) (b : Nat) (w : World) (hA : Arr w b [.int .i64 x, .int .i64 y]) : Calls Tryz.prog 53 #[.slice (some ⟨b, 0, none⟩) 2 2] w fun e w' => e = .returned (.int .i64 (orI x y)) ∧ w' = w := by
  have c0 := hA.cell (j := 0) rfl
  have c1 := hA.cell (j := 1) rfl
  clear hA
  go_enter Tryz.func53, Tryz.ntmps53
  go_wp2_with fail
  go_loopw [8] (fun v8 wr => ∃ k : Nat, k ≤ 2 ∧ v8 = .int .i64 k ∧ Hid (1 ≤ k → x = 0) ∧ Hid (2 ≤ k → y = 0) ∧ wr = w) (fun v8 _ => 2 - (intOf v8).toNat)
  case atStart => exact ⟨0, by omega, rfl, Lib.hid (fun h => by omega), Lib.hid (fun h => by omega), rfl⟩
  case round =>
    obtain ⟨k, hk, rfl, HX, HY, rfl⟩ := hrel
    by_cases k0 : k = 0
    · subst k0
      by_cases hx : x = 0
      · have d : (x == 0) = true := by simp [hx]
        have H1 : Hid (1 ≤ 1 → x = 0) := fun _ => hx
        have H2 : Hid (2 ≤ 1 → y = 0) := fun h => by omega
        clear hx
        go_wp2_with fail
        go_roundw
        case rel => exact ⟨1, by omega, by go_num, H1, H2, trivial⟩
        case measure => simp [intOf]
      · have d : (x == 0) = false := by simp [hx]
        have HV : Hid (orI x y = x) := by show _ = _; unfold orI; rw [if_neg hx]
        clear hx
        go_wp2_with fail
        go_ret
        exact ⟨ret_int HV.out.symm, rfl⟩
    · by_cases k1 : k = 1
      · subst k1
        have hx := HX.out (Nat.le_refl _)
        by_cases hy : y = 0
        · have d : (y == 0) = true := by simp [hy]
          have H1 : Hid (1 ≤ 2 → x = 0) := fun _ => hx
          have H2 : Hid (2 ≤ 2 → y = 0) := fun _ => hy
          clear hx hy
          go_wp2_with fail
          go_roundw
          case rel => exact ⟨2, by omega, by go_num, H1, H2, trivial⟩
          case measure => simp [intOf]
        · have d : (y == 0) = false := by simp [hy]
          have HV : Hid (orI x y = y) := by show _ = _; unfold orI; rw [if_pos hx]
          clear hx hy
          go_wp2_with fail
          go_ret
          exact ⟨ret_int HV.out.symm, rfl⟩
      · obtain rfl : k = 2 := by omega
        have HV : Hid (orI x y = 0) := by show _ = _; unfold orI; rw [if_pos (HX.out (by omega)), HY.out (Nat.le_refl _)]
        go_wp2_with fail
        go_ret
        exact ⟨ret_int HV.out.symm, rfl⟩
set_option maxHeartbeats 4000000 in
set_option maxRecDepth 100000 in
theorem vlaterG (a b : VidM) (w : World) : Calls Tryz.prog 27 #[vidV a, vidV b] w fun e w' => e = .returned (.int .i64 (cmpLater a b)) ∧ Grew w w' := by
  have HA := Lib.hid ((arr_new w #[.int .u8 (a.pid.author.toNat : Int), .int .u16 (a.pid.seq.toNat : Int), .int .u8 (a.n.toNat : Int)] 27).alloc (.cells #[.int .u8 (b.pid.author.toNat : Int), .int .u16 (b.pid.seq.toNat : Int), .int .u8 (b.n.toNat : Int)] 27))
  have HC := Lib.hid (arr_new2 w (.cells #[.int .u8 (a.pid.author.toNat : Int), .int .u16 (a.pid.seq.toNat : Int), .int .u8 (a.n.toNat : Int)] 27) #[.int .u8 (b.pid.author.toNat : Int), .int .u16 (b.pid.seq.toNat : Int), .int .u8 (b.n.toNat : Int)] 27)
  have HB := Lib.hid (((Grew.refl w).alloc (.cells #[.int .u8 (a.pid.author.toNat : Int), .int .u16 (a.pid.seq.toNat : Int), .int .u8 (a.n.toNat : Int)] 27)).alloc (.cells #[.int .u8 (b.pid.author.toNat : Int), .int .u16 (b.pid.seq.toNat : Int), .int .u8 (b.n.toNat : Int)] 27))
  have HV := Lib.hid (later_or a b)
  unfold vidV
  go_enter Tryz.func27, Tryz.ntmps27
  go_upto_region 1 with (fail)
  generalize hw0 : (w.alloc (.cells #[.int .u8 (a.pid.author.toNat : Int), .int .u16 (a.pid.seq.toNat : Int), .int .u8 (a.n.toNat : Int)] 27)).alloc (.cells #[.int .u8 (b.pid.author.toNat : Int), .int .u16 (b.pid.seq.toNat : Int), .int .u8 (b.n.toNat : Int)] 27) = w0 at *
  clear hw0
  have c0 := HA.out.cell (j := 0) rfl
  have c1 := HA.out.cell (j := 1) rfl
  have c2 := HA.out.cell (j := 2) rfl
  have sc := HA.out.lt
  have d0 := HC.out.cell (j := 0) rfl
  have d1 := HC.out.cell (j := 1) rfl
  have d2 := HC.out.cell (j := 2) rfl
  have sd := HC.out.lt
  have hcur : Grew w0 w0.drew := (Grew.refl _).drew
  refine wp_region_lex (C := IsGrew w0) 13 [] (by kernel_rfl) (by kernel_rfl) (isGrew_of hcur) ?_
  simp only [List.take_succ_cons, List.take_zero, List.drop_succ_cons, List.drop_zero]
  repeat (first | (refine lex_skip rfl rfl ?_; simp only [Act.put, List.setIfInBounds_toArray, List.set_cons_succ, List.set_cons_zero]) | (refine lex_one rfl ?_; go_big_quiet_step (fail); refine wpQuiet_nil ?_) | (refine lex_loud rfl ?_; go_wp2_with (first | (go_at_call 54; (with_reducible refine (platerG a.pid b.pid _).mono ?_); rintro e w' ⟨rfl, hb⟩; replace hcur := hcur.trans hb; clear hb) | (go_at_call 55; (with_reducible refine (compare8_any _ _ _).mono ?_); rintro e w' ⟨rfl, rfl⟩) | (go_at_call 53; refine (orInt_any _ _ _ _ (arr_new _ _ _)).mono ?_; rintro e w' ⟨rfl, rfl⟩)); refine ⟨isGrew_of (by first | exact hcur | exact hcur.alloc _), ?_⟩))
  refine lex_end ?_
  go_wp2_with fail
  go_ret
  exact ⟨ret_int HV.out, HB.out.trans (by first | exact hcur | exact hcur.alloc _)⟩
end Go.Proofs.YtfciedmmgddgpaaGreatDoor
namespace Go.Proofs.YtfciedmmgddgpaaGreatDoor
open Go Go.RowKit

theorem take_all {α : Type} {l m : List α} (hl : l.length = m.length) (h : l.take l.length = m.take l.length) : l = m := by
  rw [List.take_length, hl, List.take_length] at h; exact h
theorem take_ne {α : Type} {l m : List α} {k : Nat} {x y : α} (hx : l[k]? = some x) (hy : m[k]? = some y) (h : ¬ x = y) : ¬ l = m := by
  rintro rfl
  rw [hx] at hy
  exact h (Option.some.inj hy)

set_option maxHeartbeats 4000000 in
set_option maxRecDepth 100000 in
theorem rsamePid_any (v u : Value) (l m : List PidM) (w : World) (hv : GRow encPid 2 w v l) (hu : GRow encPid 2 w u m) :
    Calls Tryz.prog 114 #[v, u] w fun e w' => e = .returned (.bool (decide (l = m))) ∧ Below w.heap.size w w' := by
  obtain ⟨a, cap, rfl, h1, h2, hc⟩ := hv.at encPid_len
  obtain ⟨a', cap', rfl, h1', h2', hc'⟩ := hu.at encPid_len
  unfold maxLen at h2 h2'
  have HC := Lib.hid hc
  have HC' := Lib.hid hc'
  clear hv hu hc hc'
  have gd := fun p q xs ys w => guard_pid .neq p q xs ys w
  by_cases hlen : l.length = m.length
  · have HL := Lib.hid hlen
    have hq : ((l.length : Int) != (m.length : Int)) = false := by simp [hlen]
    clear hlen
    go_enter Tryz.func114, Tryz.ntmps114
    go_wp2_with fail
    go_loopw [5] (fun i wr => ∃ k : Nat, k ≤ l.length ∧ i = .int .i64 k ∧ Hid (l.take k = m.take k) ∧ Below w.heap.size w wr) (fun i _ => l.length - (intOf i).toNat)
    case atStart => exact ⟨0, by omega, rfl, rfl, Below.refl _ _⟩
    case round =>
      obtain ⟨k, hk, rfl, HK, hbl⟩ := hrel
      by_cases hlt : k < l.length
      · obtain ⟨bl, ol, rfl, sl, hcl⟩ := HC.out.resolve_left (by omega)
        obtain ⟨bm, om, rfl, sm, hcm⟩ := HC'.out.resolve_left (by have := HL.out; omega)
        obtain ⟨x, hx⟩ := get_of_lt hlt
        obtain ⟨y, hy⟩ := get_of_lt (xs := m) (i := k) (by have := HL.out; omega)
        have hkm : k < m.length := by have := HL.out; omega
        have x0 : wr.cell? ⟨bl, ol + k * 2, none⟩ = some (.int .u8 (x.author.toNat : Int)) := ((hcl k x hx wr hbl)).2 0 _ rfl
        have x1 : wr.cell? ⟨bl, ol + k * 2 + 1, none⟩ = some (.int .u16 (x.seq.toNat : Int)) := ((hcl k x hx wr hbl)).2 1 _ rfl
        have y0 : wr.cell? ⟨bm, om + k * 2, none⟩ = some (.int .u8 (y.author.toNat : Int)) := ((hcm k y hy wr hbl)).2 0 _ rfl
        have y1 : wr.cell? ⟨bm, om + k * 2 + 1, none⟩ = some (.int .u16 (y.seq.toNat : Int)) := ((hcm k y hy wr hbl)).2 1 _ rfl
        have sX := (hcl k x hx wr hbl).1
        have sY := (hcm k y hy wr hbl).1
        have HX := Lib.hid hx
        have HY := Lib.hid hy
        clear hcl hcm hx hy
        by_cases hxy : x = y
        · have hne := neq_pid x y false (by simp [hxy])
          unfold pidV at hne
          have HK2 : Hid (l.take (k + 1) = m.take (k + 1)) := by show _ = _; rw [take_succ_get HX.out, take_succ_get HY.out, HK.out, hxy]
          clear hxy
          go_wp2_with fail
          have hcur : Below wr.heap.size wr wr.drew := (Below.refl _ _).drew
          refine wp_region_lex (C := IsOver wr) 9 [] (by kernel_rfl) (by kernel_rfl) (isOver_of (by repeat (first | exact Below.refl _ _ | apply Below.drew | apply below_drewN | (refine Below.alloc ?_ (by simp) _)))) ?_
          simp only [List.take_succ_cons, List.take_zero, List.drop_succ_cons, List.drop_zero]
          repeat (first | (refine lex_skip rfl rfl ?_; simp only [Act.put, List.setIfInBounds_toArray, List.set_cons_succ, List.set_cons_zero]) | (refine lex_one rfl ?_; go_big_quiet_step (fail); refine wpQuiet_nil ?_))
          refine lex_end ?_
          go_wp2_with fail
          go_roundw
          case rel => exact ⟨k + 1, hlt, by go_num, HK2, hbl.drew⟩
          case measure => simp [intOf]; omega
        · have hne := neq_pid x y true (by simp [hxy])
          unfold pidV at hne
          have HN : Hid (decide (l = m) = false) := decide_eq_false (take_ne HX.out HY.out hxy)
          clear hxy
          go_wp2_with fail
          have hcur : Below wr.heap.size wr wr.drew := (Below.refl _ _).drew
          refine wp_region_lex (C := IsOver wr) 9 [] (by kernel_rfl) (by kernel_rfl) (isOver_of (by repeat (first | exact Below.refl _ _ | apply Below.drew | apply below_drewN | (refine Below.alloc ?_ (by simp) _)))) ?_
          simp only [List.take_succ_cons, List.take_zero, List.drop_succ_cons, List.drop_zero]
          repeat (first | (refine lex_skip rfl rfl ?_; simp only [Act.put, List.setIfInBounds_toArray, List.set_cons_succ, List.set_cons_zero]) | (refine lex_one rfl ?_; go_big_quiet_step (fail); refine wpQuiet_nil ?_))
          refine lex_end ?_
          go_wp2_with fail
          go_ret
          exact ⟨ret_val (congrArg Value.bool HN.out.symm), hbl.drew⟩
      · obtain rfl : k = l.length := by omega
        have HN : Hid (decide (l = m) = true) := decide_eq_true (take_all HL.out HK.out)
        go_wp2_with fail
        go_ret
        exact ⟨ret_val (congrArg Value.bool HN.out.symm), hbl⟩
  · have HN : Hid (decide (l = m) = false) := decide_eq_false (fun h => hlen (by rw [h]))
    have hq : ((l.length : Int) != (m.length : Int)) = true := by simp; omega
    clear hlen
    go_enter Tryz.func114, Tryz.ntmps114
    go_wp2_with fail
    go_ret
    exact ⟨ret_val (congrArg Value.bool HN.out.symm), Below.refl _ _⟩
end Go.Proofs.YtfciedmmgddgpaaGreatDoor
