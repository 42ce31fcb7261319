/- Contracts of slices.Insert of one element at string and at a file. -/
import Derived.Test.YtjbihmglpfdmnaaGreatDoorSlA
import Derived.Lib.Overlaps
import Derived.Laws.Externs
namespace Go.Proofs.YtjbihmglpfdmnaaGreatDoor
open Go Go.RowKit

def InsRes (w : World) (B : Nat) (E : TypeId) (sz n : Nat) (v : Value) (xs : List Value) (e : Ending) (w' : World) : Prop :=
  ∃ v', e = .returned v' ∧ w'.ownsRow B E sz v' n xs ∧ w.grownBy w' v.ownBlock ∧ (v'.ownBlock = v.ownBlock ∨ ∃ b, v'.ownBlock = some b ∧ w.heap.size ≤ b)
theorem ins_grow {xs zs new : List Value} {K S M a b c d f : Nat} (hx : xs.length = K + S + M) (hz : zs.length = M + 2 * S) (hn : new.length = S) (ha : a = K) (hb : b = S) (hc : c = K + S) (hd : d = M + S) (hf : f = K + S + (M + S)) :
    ((xs.take a ++ zs).take a ++ new.take b ++ (xs.take a ++ zs).drop c).take c ++ (xs.drop a).take d ++ ((xs.take a ++ zs).take a ++ new.take b ++ (xs.take a ++ zs).drop c).drop f = xs.take a ++ new ++ xs.drop a := by
  subst ha hb hc hd hf
  have h1 : (xs.take a).length = a := by rw [List.length_take]; omega
  have h2 : (xs.take a ++ zs).take a = xs.take a := by rw [List.take_append_of_le_length (by omega), List.take_of_length_le (by omega)]
  have h3 : new.take b = new := List.take_of_length_le (by omega)
  have h4 : (xs.drop a).take (M + b) = xs.drop a := List.take_of_length_le (by rw [List.length_drop]; omega)
  rw [h2, h3, h4]
  have h5 : (xs.take a ++ new).length = a + b := by rw [List.length_append]; omega
  rw [List.take_append_of_le_length (by omega), List.take_of_length_le (by omega), List.drop_of_length_le (l := xs.take a ++ new ++ (xs.take a ++ zs).drop (a + b)) (by simp only [List.length_append, List.length_drop, h1, hn, hz]; omega), List.append_nil]
theorem ins_room {xs js new : List Value} {K S M a b c d f : Nat} (hx : xs.length = K + S + M) (hj : js.length = S) (hn : new.length = S) (ha : a = K) (hb : b = S) (hc : c = K + S) (hd : d = M + S) (hf : f = K + S + (M + S)) :
    ((xs ++ js).take c ++ ((xs ++ js).drop a).take d ++ (xs ++ js).drop f).take a ++ new.take b ++ ((xs ++ js).take c ++ ((xs ++ js).drop a).take d ++ (xs ++ js).drop f).drop c = xs.take a ++ new ++ xs.drop a := by
  subst ha hb hc hd hf
  have h1 : (xs ++ js).take (a + b) = xs.take (a + b) := List.take_append_of_le_length (by omega)
  have h2 : ((xs ++ js).drop a).take (M + b) = xs.drop a := by
    rw [List.drop_append_of_le_length (by omega), List.take_append_of_le_length (by rw [List.length_drop]; omega), List.take_of_length_le (by rw [List.length_drop]; omega)]
  have h3 : (xs ++ js).drop (a + b + (M + b)) = [] := List.drop_eq_nil_of_le (by rw [List.length_append]; omega)
  have h4 : new.take b = new := List.take_of_length_le (by omega)
  rw [h1, h2, h3, h4, List.append_nil]
  have h5 : (xs.take (a + b)).length = a + b := by rw [List.length_take]; omega
  rw [List.take_append_of_le_length (by omega), List.take_take, Nat.min_eq_left (by omega), List.drop_append_of_le_length (by omega), List.drop_of_length_le (l := xs.take (a + b)) (by omega), List.nil_append]
theorem below_of_grown {w w' : World} (h : w.grownBy w' none) : Below w.heap.size w w' := ⟨h.os, h.tape, h.output, h.size, fun k hk => h.block k hk (by simp)⟩
theorem arr_row {w : World} {vb : Nat} {e : TypeId} {new : List Value} {sz : Nat} (h : ArrT w vb e new) (hl : new.length = sz) : Row w (.slice (some ⟨vb, 0, none⟩) 1 1) 1 sz new :=
  ⟨by omega, _, 1, rfl, Nat.le_refl _, by decide, fun h => (by cases h), fun _ => ⟨vb, 0, rfl, h.arr.lt, fun j u hu => by rw [Nat.zero_add]; exact h.arr.cell hu⟩⟩
theorem ArrT.shape {w : World} {vb : Nat} {e : TypeId} {new : List Value} (h : ArrT w vb e new) : w.shape? vb = some (e, new.length) := by
  unfold ArrT at h
  simp [World.shape?, h]
theorem ArrT.free {w : World} {vb : Nat} {e : TypeId} {new : List Value} (h : ArrT w vb e new) (j : Nat) : w.frozen? ⟨vb, j, none⟩ = false := h.arr.free j
theorem OwnAt.shape {w : World} {B : Nat} {e : TypeId} {sz g n cap : Nat} {xs : List Value} (h : OwnAt w B e sz g n cap xs) : w.shape? g = some (e, cap * sz) := by
  obtain ⟨junk, h1, h2⟩ := h.at'
  simp only [World.shape?, h1]
  simp only [List.size_toArray, h2]

set_option maxHeartbeats 4000000 in
set_option maxRecDepth 100000 in
theorem insert_end_str (v : Value) (k : Nat) (xs new : List Value) (vb : Nat) (E2 : TypeId) (w : World) (B : Nat) (ho : w.ownsRow B 9 1 v k xs) (hx : ArrT w vb E2 new) (hnl : new.length = 1) (h1n : ∀ u ∈ new, u.oneCell' = true) (hn : k ≤ 1000000) (hB : B ≤ w.heap.size) :
    Calls Tryz.prog 69 #[v, .int .i64 (k : Int), .slice (some ⟨vb, 0, none⟩) 1 1] w (InsRes w B 9 1 (k + 1) v (xs ++ new)) := by
  have HO := Lib.hid ho
  have HX := Lib.hid (arr_row hx hnl)
  have hN : k + 1 ≤ 1099511627776 := by omega
  clear hx
  rcases ho.2 with ⟨rfl, rfl⟩ | ⟨g, cap, cur, rfl, _, _, hnc, hcm, _, _⟩
  · clear ho
    go_enter Tryz.func69, Tryz.ntmps69
    go_wp2_with (at_builtin; refine wpList_append_rowAt slStr (Tryz.underlying38) rfl _ _ rfl B _ _ _ HO.out rfl _ _ _ HX.out rfl h1n hN (by decide) hB ?_; intro v2 w2 ho2 hg2 hat2)
    go_ret
    exact ⟨_, rfl, ho2, hg2, hat2.imp id fun h => ⟨_, h, Nat.le_refl _⟩⟩
  · clear ho
    unfold maxLen at hcm
    by_cases hc : cap = k
    · subst hc
      go_enter Tryz.func69, Tryz.ntmps69
      go_wp2_with (at_builtin; refine wpList_append_rowAt slStr (Tryz.underlying38) rfl _ _ rfl B _ _ _ HO.out rfl _ _ _ HX.out rfl h1n hN (by decide) hB ?_; intro v2 w2 ho2 hg2 hat2)
      go_ret
      exact ⟨_, rfl, ho2, hg2, hat2.imp id fun h => ⟨_, h, Nat.le_refl _⟩⟩
    · go_enter Tryz.func69, Tryz.ntmps69
      go_wp2_with (at_builtin; refine wpList_append_rowAt slStr (Tryz.underlying38) rfl _ _ rfl B _ _ _ HO.out rfl _ _ _ HX.out rfl h1n hN (by decide) hB ?_; intro v2 w2 ho2 hg2 hat2)
      go_ret
      exact ⟨_, rfl, ho2, hg2, hat2.imp id fun h => ⟨_, h, Nat.le_refl _⟩⟩

set_option maxHeartbeats 4000000 in
set_option maxRecDepth 100000 in
theorem insert_grow_str (g cap : Nat) (k m : Nat) (xs new : List Value) (vb : Nat) (E2 : TypeId) (w : World) (B : Nat) (hA : OwnAt w B 9 1 g (k + 1 + m) cap xs) (hx : ArrT w vb E2 new) (hnl : new.length = 1) (h1 : ∀ u ∈ xs, u.oneCell' = true) (h1n : ∀ u ∈ new, u.oneCell' = true) (hn : k + 1 + m ≤ 1000000) (hB : B ≤ w.heap.size) (hcap : cap < k + 1 + m + 1) :
    Calls Tryz.prog 69 #[.slice (some ⟨g, 0, none⟩) (k + 1 + m) cap, .int .i64 (k : Int), .slice (some ⟨vb, 0, none⟩) 1 1] w (InsRes w B 9 1 (k + (m + 2)) (.slice (some ⟨g, 0, none⟩) (k + 1 + m) cap) (xs.take (k * 1) ++ new ++ xs.drop (k * 1))) := by
  have HX := Lib.hid (arr_row hx hnl)
  have HA := Lib.hid hA
  have hnc := hA.nc
  have hlen := hA.len
  have hck : ¬ cap = k := by omega
  have HSrc : Hid (Row w (.slice (some ⟨g, k, none⟩) (k + 1 + m - k) (cap - k)) (k + 1 + m - k) 1 (xs.drop (k * 1))) := by
    show Row _ _ _ _ _
    have := row_mid hA.row (show k ≤ k + 1 + m by omega) hck
    simpa using this
  have hkn : ((k : Int) == (k : Int) + 1 + (m : Int)) = false := by simp; omega
  have h1d : ∀ u ∈ xs.drop (k * 1), u.oneCell' = true := fun u hu => h1 u (List.mem_of_mem_drop hu)
  have hN : k + (m + 2) ≤ 1099511627776 := by omega
  have HLen := Lib.hid hlen
  clear hA hx hlen
  go_enter Tryz.func69, Tryz.ntmps69
  go_wp2_with (first
    | (refine wpList_copy_at slStr rfl _ _ _ rfl B w.heap.size (k + (m + 2)) cap2 _ HA2.out k _ _ _ (by simp) rfl _ 1 1 _ (HX.out.over (below_of_grown HG2.out)) rfl (by show _ = min _ _; omega) (fun u hu => h1n u (List.mem_of_mem_take hu)) (by omega) ?_; intro w3 hA3 hg3 hs3; have HA3 := Lib.hid hA3; have HG3 := Lib.hid (grown_new (row := none) HG2.out (Nat.le_refl _) hg3); have hlt3 := hA3.lt; clear hA3 hg3 hs3)
    | (at_builtin; refine wpList_append_zeros slStr rfl _ _ 3 Tryz.underlying3 rfl B g k cap _ (HA.out.take (show k ≤ k + 1 + m by omega)) rfl _ (m + 2) rfl (by omega) (by omega) (by omega) hN (by decide) hB ?_; intro cap2 zs w2 hzs hA2 hg2; have HA2 := Lib.hid hA2; have HZs := Lib.hid hzs; have HG2 := Lib.hid hg2; have hc2 := hA2.nc; have hlt2 := hA2.lt; have hcm2 := hA2.cm; have hck2 : ¬ cap2 = k := (by omega); have hck3 : ¬ cap2 = k + 1 := (by omega); unfold maxLen at hcm2; clear hA2 hzs hg2))
  go_simp
  refine wp_region_lex (C := IsOver w3) 8 [] (by kernel_rfl) (by kernel_rfl) (isOver_of (by repeat (first | exact Below.refl _ _ | apply Below.drew | apply below_drewN | (refine Below.alloc ?_ (by simp) _)))) ?_
  simp only [List.take_succ_cons, List.take_zero, List.drop_succ_cons, List.drop_zero]
  repeat (first | (refine lex_skip rfl rfl ?_; simp only [Act.put, List.setIfInBounds_toArray, List.set_cons_succ, List.set_cons_zero]) | (refine lex_one rfl ?_; go_big_quiet_step (fail); refine wpQuiet_nil ?_))
  refine lex_end ?_
  go_wp2_with (refine wpList_copy_at slStr rfl _ _ _ rfl B w.heap.size (k + (m + 2)) cap2 _ HA3.out.drew (k + 1) _ _ _ (by simp) rfl _ (m + 1) _ _ ((HSrc.out.over (below_of_grown HG3.out)).drew) rfl (by show _ = min _ _; omega) (fun u hu => h1d u (List.mem_of_mem_take hu)) (by omega) ?_; intro w4 hA4 hg4 hs4)
  go_ret
  have e := ins_grow (xs := xs) (zs := zs) (new := new) (K := k * 1) (S := 1) (M := m * 1) (a := k * 1) (b := 1 * 1) (c := (k + 1) * 1) (d := (m + 1) * 1) (f := (k + 1 + (m + 1)) * 1) (by have := HLen.out; omega) (by have := HZs.out; omega) hnl rfl (by omega) (by omega) (by omega) (by omega)
  rw [e] at hA4
  refine ⟨_, rfl, ?_, ?_, .inr ⟨_, rfl, Nat.le_refl _⟩⟩
  · exact hA4.own
  · exact grown_none (grown_new (row := none) (grown_drew HG3.out) (Nat.le_refl _) hg4)

theorem size_str (w : World) : (Go.sizeOf 9).run Tryz.prog w = .ok 1 w := by
  obtain ⟨i, z, h1, h2, _, h4, _⟩ := slStr.out
  simp [sizeOf, typeInfo, h2, h4]
set_option maxHeartbeats 4000000 in
set_option maxRecDepth 100000 in
theorem insert_room_str (g cap : Nat) (k m : Nat) (xs new : List Value) (vb : Nat) (E2 : TypeId) (w : World) (B : Nat) (hA : OwnAt w B 9 1 g (k + 1 + m) cap xs) (hx : ArrT w vb E2 new) (hnb : vb ≠ g) (hnl : new.length = 1) (h1 : ∀ u ∈ xs, u.oneCell' = true) (h1n : ∀ u ∈ new, u.oneCell' = true) (hn : k + 1 + m ≤ 1000000) (hcap : k + 1 + m + 1 ≤ cap) :
    Calls Tryz.prog 69 #[.slice (some ⟨g, 0, none⟩) (k + 1 + m) cap, .int .i64 (k : Int), .slice (some ⟨vb, 0, none⟩) 1 1] w (InsRes w B 9 1 (k + 1 + m + 1) (.slice (some ⟨g, 0, none⟩) (k + 1 + m) cap) (xs.take (k * 1) ++ new ++ xs.drop (k * 1))) := by
  have HX := Lib.hid hx
  have hov : ∀ lb cb, (callFunc 86 #[.slice (some ⟨vb, 0, none⟩) 1 1, .slice (some ⟨g, k + 1, none⟩) lb cb]).run Tryz.prog w = .ok (.value (.bool false)) w := fun lb cb => by
    rw [run_callFunc_extern Tryz.func86 (by kernel_rfl) (by kernel_rfl) (by kernel_rfl) (e := Extern.SlicesOverlaps.overlaps #[38, 38] #[4]) (by kernel_rfl),
      Lib.run_overlaps_apart w 38 4 9 Tryz.underlying38 1 size_str ⟨vb, 0, none⟩ ⟨g, k + 1, none⟩ 1 1 lb cb hnb _ _ _ _ hx.shape hA.shape (by omega) (hx.free 0) (hx.free _)]
    rfl
  obtain ⟨js, hjl, hA'⟩ := hA.more hcap
  have hcm := hA.cm
  have hlen := hA.len
  have HA := Lib.hid hA'
  have HLen := Lib.hid hlen
  have HJl := Lib.hid hjl
  unfold maxLen at hcm
  have hck : ¬ cap = k := by omega
  have hck1 : ¬ cap = k + 1 := by omega
  have h1j : ∀ u ∈ ((xs ++ js).drop (k * 1)).take ((m + 1) * 1), u.oneCell' = true := fun u hu => by
    rw [List.drop_append_of_le_length (by omega), List.take_append_of_le_length (by rw [List.length_drop]; omega)] at hu
    exact h1 u (List.mem_of_mem_drop (List.mem_of_mem_take hu))
  have hkn : ((k : Int) == (k : Int) + 1 + (m : Int)) = false := by simp; omega
  have HSrc : Hid (Row w (.slice (some ⟨g, k, none⟩) (k + 1 + m + 1 - k) (cap - k)) (k + 1 + m + 1 - k) 1 ((xs ++ js).drop (k * 1))) := by
    show Row _ _ _ _ _
    have := row_mid hA'.row (show k ≤ k + 1 + m + 1 by omega) hck
    simpa using this
  have HXr : Hid (∀ w2 : World, w.drew.grownBy w2 (some g) → Row w2 (.slice (some ⟨vb, 0, none⟩) 1 1) 1 1 new) := fun w2 hg => by
    have hx2 : ArrT w2 vb E2 new := by
      unfold ArrT
      rw [hg.block vb hx.arr.lt (by simp; exact hnb)]; exact hx
    exact arr_row hx2 hnl
  clear hA hx hlen hA' hjl
  go_enter Tryz.func69, Tryz.ntmps69
  go_wp2_with (simp only [hov])
  refine wp_region_lex (C := IsOver w) 8 [] (by kernel_rfl) (by kernel_rfl) (isOver_of (by repeat (first | exact Below.refl _ _ | apply Below.drew | apply below_drewN | (refine Below.alloc ?_ (by simp) _)))) ?_
  simp only [List.take_succ_cons, List.take_zero, List.drop_succ_cons, List.drop_zero]
  repeat (first | (refine lex_skip rfl rfl ?_; simp only [Act.put, List.setIfInBounds_toArray, List.set_cons_succ, List.set_cons_zero]) | (refine lex_one rfl ?_; go_big_quiet_step (fail); refine wpQuiet_nil ?_))
  refine lex_end ?_
  go_wp2_with (first
    | (refine wpList_copy_at slStr rfl _ _ _ rfl B g (k + 1 + m + 1) cap _ HA2.out k _ _ _ (by simp) rfl _ 1 1 _ (HXr.out w2 HG2.out) rfl (by show _ = min _ _; omega) (fun u hu => h1n u (List.mem_of_mem_take hu)) (by omega) ?_; intro w3 hA3 hg3 hs3)
    | (refine wpList_copy_at slStr rfl _ _ _ rfl B g (k + 1 + m + 1) cap _ HA.out.drew (k + 1) _ _ _ (by simp) rfl _ (m + 1) _ _ HSrc.out.drew rfl (by show _ = min _ _; omega) h1j (by omega) ?_; intro w2 hA2 hg2 hs2; have HA2 := Lib.hid hA2; have HG2 := Lib.hid hg2; clear hA2 hg2 hs2))
  go_ret
  have e := ins_room (xs := xs) (js := js) (new := new) (K := k * 1) (S := 1) (M := m * 1) (a := k * 1) (b := 1 * 1) (c := (k + 1) * 1) (d := (m + 1) * 1) (f := (k + 1 + (m + 1)) * 1) (by have := HLen.out; omega) HJl.out hnl rfl (by omega) (by omega) (by omega) (by omega)
  rw [e] at hA3
  exact ⟨_, rfl, hA3.own, grown_trans (grown_drew (w := w) (w1 := w) (World.grownBy.refl w _)) (grown_trans HG2.out hg3), .inl rfl⟩

theorem insert_str (v : Value) (n k : Nat) (xs new : List Value) (vb : Nat) (E2 : TypeId) (w : World) (B : Nat) (ho : w.ownsRow B 9 1 v n xs) (hk : k ≤ n) (hx : ArrT w vb E2 new) (hnb : some vb ≠ v.ownBlock) (hnl : new.length = 1) (h1 : ∀ u ∈ xs, u.oneCell' = true) (h1n : ∀ u ∈ new, u.oneCell' = true) (hn : n ≤ 1000000) (hB : B ≤ w.heap.size) :
    Calls Tryz.prog 69 #[v, .int .i64 (k : Int), .slice (some ⟨vb, 0, none⟩) 1 1] w (InsRes w B 9 1 (n + 1) v (xs.take (k * 1) ++ new ++ xs.drop (k * 1))) := by
  by_cases hkn : k = n
  · subst hkn
    have hl := ho.1
    rw [List.take_of_length_le (by omega), List.drop_of_length_le (by omega), List.append_nil]
    exact insert_end_str v k xs new vb E2 w B ho hx hnl h1n hn hB
  · obtain ⟨m, rfl⟩ : ∃ m, n = k + 1 + m := ⟨n - k - 1, by omega⟩
    obtain ⟨g, cap, rfl, hA⟩ := own_at ho (by omega)
    by_cases hc : cap < k + 1 + m + 1
    · have := insert_grow_str g cap k m xs new vb E2 w B hA hx hnl h1 h1n hn hB hc
      rw [show k + (m + 2) = k + 1 + m + 1 by omega] at this
      exact this
    · exact insert_room_str g cap k m xs new vb E2 w B hA hx (fun h => hnb (by rw [h]; rfl)) hnl h1 h1n hn (by omega)

set_option maxHeartbeats 4000000 in
set_option maxRecDepth 100000 in
theorem insert_end_file (v : Value) (k : Nat) (xs new : List Value) (vb : Nat) (E2 : TypeId) (w : World) (B : Nat) (ho : w.ownsRow B 40 3 v k xs) (hx : ArrT w vb E2 new) (hnl : new.length = 3) (h1n : ∀ u ∈ new, u.oneCell' = true) (hn : k ≤ 1000000) (hB : B ≤ w.heap.size) :
    Calls Tryz.prog 67 #[v, .int .i64 (k : Int), .slice (some ⟨vb, 0, none⟩) 1 1] w (InsRes w B 40 3 (k + 1) v (xs ++ new)) := by
  have HO := Lib.hid ho
  have HX := Lib.hid (arr_row hx hnl)
  have hN : k + 1 ≤ 1099511627776 := by omega
  clear hx
  rcases ho.2 with ⟨rfl, rfl⟩ | ⟨g, cap, cur, rfl, _, _, hnc, hcm, _, _⟩
  · clear ho
    go_enter Tryz.func67, Tryz.ntmps67
    go_wp2_with (at_builtin; refine wpList_append_rowAt slTree (Tryz.underlying41) rfl _ _ rfl B _ _ _ HO.out rfl _ _ _ HX.out rfl h1n hN (by decide) hB ?_; intro v2 w2 ho2 hg2 hat2)
    go_ret
    exact ⟨_, rfl, ho2, hg2, hat2.imp id fun h => ⟨_, h, Nat.le_refl _⟩⟩
  · clear ho
    unfold maxLen at hcm
    by_cases hc : cap = k
    · subst hc
      go_enter Tryz.func67, Tryz.ntmps67
      go_wp2_with (at_builtin; refine wpList_append_rowAt slTree (Tryz.underlying41) rfl _ _ rfl B _ _ _ HO.out rfl _ _ _ HX.out rfl h1n hN (by decide) hB ?_; intro v2 w2 ho2 hg2 hat2)
      go_ret
      exact ⟨_, rfl, ho2, hg2, hat2.imp id fun h => ⟨_, h, Nat.le_refl _⟩⟩
    · go_enter Tryz.func67, Tryz.ntmps67
      go_wp2_with (at_builtin; refine wpList_append_rowAt slTree (Tryz.underlying41) rfl _ _ rfl B _ _ _ HO.out rfl _ _ _ HX.out rfl h1n hN (by decide) hB ?_; intro v2 w2 ho2 hg2 hat2)
      go_ret
      exact ⟨_, rfl, ho2, hg2, hat2.imp id fun h => ⟨_, h, Nat.le_refl _⟩⟩

set_option maxHeartbeats 4000000 in
set_option maxRecDepth 100000 in
theorem insert_grow_file (g cap : Nat) (k m : Nat) (xs new : List Value) (vb : Nat) (E2 : TypeId) (w : World) (B : Nat) (hA : OwnAt w B 40 3 g (k + 1 + m) cap xs) (hx : ArrT w vb E2 new) (hnl : new.length = 3) (h1 : ∀ u ∈ xs, u.oneCell' = true) (h1n : ∀ u ∈ new, u.oneCell' = true) (hn : k + 1 + m ≤ 1000000) (hB : B ≤ w.heap.size) (hcap : cap < k + 1 + m + 1) :
    Calls Tryz.prog 67 #[.slice (some ⟨g, 0, none⟩) (k + 1 + m) cap, .int .i64 (k : Int), .slice (some ⟨vb, 0, none⟩) 1 1] w (InsRes w B 40 3 (k + (m + 2)) (.slice (some ⟨g, 0, none⟩) (k + 1 + m) cap) (xs.take (k * 3) ++ new ++ xs.drop (k * 3))) := by
  have HX := Lib.hid (arr_row hx hnl)
  have HA := Lib.hid hA
  have hnc := hA.nc
  have hlen := hA.len
  have hck : ¬ cap = k := by omega
  have HSrc : Hid (Row w (.slice (some ⟨g, (k) * 3, none⟩) (k + 1 + m - k) (cap - k)) (k + 1 + m - k) 3 (xs.drop (k * 3))) := by
    show Row _ _ _ _ _
    have := row_mid hA.row (show k ≤ k + 1 + m by omega) hck
    simpa using this
  have hkn : ((k : Int) == (k : Int) + 1 + (m : Int)) = false := by simp; omega
  have h1d : ∀ u ∈ xs.drop (k * 3), u.oneCell' = true := fun u hu => h1 u (List.mem_of_mem_drop hu)
  have hN : k + (m + 2) ≤ 1099511627776 := by omega
  have HLen := Lib.hid hlen
  clear hA hx hlen
  go_enter Tryz.func67, Tryz.ntmps67
  go_wp2_with (first
    | (refine wpList_copy_at slTree rfl _ _ _ rfl B w.heap.size (k + (m + 2)) cap2 _ HA2.out k _ _ _ (by simp) rfl _ 1 1 _ (HX.out.over (below_of_grown HG2.out)) rfl (by show _ = min _ _; omega) (fun u hu => h1n u (List.mem_of_mem_take hu)) (by omega) ?_; intro w3 hA3 hg3 hs3; have HA3 := Lib.hid hA3; have HG3 := Lib.hid (grown_new (row := none) HG2.out (Nat.le_refl _) hg3); have hlt3 := hA3.lt; clear hA3 hg3 hs3)
    | (at_builtin; refine wpList_append_zeros slTree rfl _ _ 3 Tryz.underlying3 rfl B g k cap _ (HA.out.take (show k ≤ k + 1 + m by omega)) rfl _ (m + 2) rfl (by omega) (by omega) (by omega) hN (by decide) hB ?_; intro cap2 zs w2 hzs hA2 hg2; have HA2 := Lib.hid hA2; have HZs := Lib.hid hzs; have HG2 := Lib.hid hg2; have hc2 := hA2.nc; have hlt2 := hA2.lt; have hcm2 := hA2.cm; have hck2 : ¬ cap2 = k := (by omega); have hck3 : ¬ cap2 = k + 1 := (by omega); unfold maxLen at hcm2; clear hA2 hzs hg2))
  go_simp
  refine wp_region_lex (C := IsOver w3) 8 [] (by kernel_rfl) (by kernel_rfl) (isOver_of (by repeat (first | exact Below.refl _ _ | apply Below.drew | apply below_drewN | (refine Below.alloc ?_ (by simp) _)))) ?_
  simp only [List.take_succ_cons, List.take_zero, List.drop_succ_cons, List.drop_zero]
  repeat (first | (refine lex_skip rfl rfl ?_; simp only [Act.put, List.setIfInBounds_toArray, List.set_cons_succ, List.set_cons_zero]) | (refine lex_one rfl ?_; go_big_quiet_step (fail); refine wpQuiet_nil ?_))
  refine lex_end ?_
  go_wp2_with (refine wpList_copy_at slTree rfl _ _ _ rfl B w.heap.size (k + (m + 2)) cap2 _ HA3.out.drew (k + 1) _ _ _ (by simp) rfl _ (m + 1) _ _ ((HSrc.out.over (below_of_grown HG3.out)).drew) rfl (by show _ = min _ _; omega) (fun u hu => h1d u (List.mem_of_mem_take hu)) (by omega) ?_; intro w4 hA4 hg4 hs4)
  go_ret
  have e := ins_grow (xs := xs) (zs := zs) (new := new) (K := k * 3) (S := 3) (M := m * 3) (a := k * 3) (b := 1 * 3) (c := (k + 1) * 3) (d := (m + 1) * 3) (f := (k + 1 + (m + 1)) * 3) (by have := HLen.out; omega) (by have := HZs.out; omega) hnl rfl (by omega) (by omega) (by omega) (by omega)
  rw [e] at hA4
  refine ⟨_, rfl, ?_, ?_, .inr ⟨_, rfl, Nat.le_refl _⟩⟩
  · exact hA4.own
  · exact grown_none (grown_new (row := none) (grown_drew HG3.out) (Nat.le_refl _) hg4)

theorem size_file (w : World) : (Go.sizeOf 40).run Tryz.prog w = .ok 3 w := by
  obtain ⟨i, z, h1, h2, _, h4, _⟩ := slTree.out
  simp [sizeOf, typeInfo, h2, h4]
set_option maxHeartbeats 4000000 in
set_option maxRecDepth 100000 in
theorem insert_room_file (g cap : Nat) (k m : Nat) (xs new : List Value) (vb : Nat) (E2 : TypeId) (w : World) (B : Nat) (hA : OwnAt w B 40 3 g (k + 1 + m) cap xs) (hx : ArrT w vb E2 new) (hnb : vb ≠ g) (hnl : new.length = 3) (h1 : ∀ u ∈ xs, u.oneCell' = true) (h1n : ∀ u ∈ new, u.oneCell' = true) (hn : k + 1 + m ≤ 1000000) (hcap : k + 1 + m + 1 ≤ cap) :
    Calls Tryz.prog 67 #[.slice (some ⟨g, 0, none⟩) (k + 1 + m) cap, .int .i64 (k : Int), .slice (some ⟨vb, 0, none⟩) 1 1] w (InsRes w B 40 3 (k + 1 + m + 1) (.slice (some ⟨g, 0, none⟩) (k + 1 + m) cap) (xs.take (k * 3) ++ new ++ xs.drop (k * 3))) := by
  have HX := Lib.hid hx
  have hov : ∀ lb cb, (callFunc 84 #[.slice (some ⟨vb, 0, none⟩) 1 1, .slice (some ⟨g, (k + 1) * 3, none⟩) lb cb]).run Tryz.prog w = .ok (.value (.bool false)) w := fun lb cb => by
    rw [run_callFunc_extern Tryz.func84 (by kernel_rfl) (by kernel_rfl) (by kernel_rfl) (e := Extern.SlicesOverlaps.overlaps #[41, 41] #[4]) (by kernel_rfl),
      Lib.run_overlaps_apart w 41 4 40 Tryz.underlying41 3 size_file ⟨vb, 0, none⟩ ⟨g, (k + 1) * 3, none⟩ 1 1 lb cb hnb _ _ _ _ hx.shape hA.shape (by omega) (hx.free 0) (hx.free _)]
    rfl
  obtain ⟨js, hjl, hA'⟩ := hA.more hcap
  have hcm := hA.cm
  have hlen := hA.len
  have HA := Lib.hid hA'
  have HLen := Lib.hid hlen
  have HJl := Lib.hid hjl
  unfold maxLen at hcm
  have hck : ¬ cap = k := by omega
  have hck1 : ¬ cap = k + 1 := by omega
  have h1j : ∀ u ∈ ((xs ++ js).drop (k * 3)).take ((m + 1) * 3), u.oneCell' = true := fun u hu => by
    rw [List.drop_append_of_le_length (by omega), List.take_append_of_le_length (by rw [List.length_drop]; omega)] at hu
    exact h1 u (List.mem_of_mem_drop (List.mem_of_mem_take hu))
  have hkn : ((k : Int) == (k : Int) + 1 + (m : Int)) = false := by simp; omega
  have HSrc : Hid (Row w (.slice (some ⟨g, (k) * 3, none⟩) (k + 1 + m + 1 - k) (cap - k)) (k + 1 + m + 1 - k) 3 ((xs ++ js).drop (k * 3))) := by
    show Row _ _ _ _ _
    have := row_mid hA'.row (show k ≤ k + 1 + m + 1 by omega) hck
    simpa using this
  have HXr : Hid (∀ w2 : World, w.drew.grownBy w2 (some g) → Row w2 (.slice (some ⟨vb, 0, none⟩) 1 1) 1 3 new) := fun w2 hg => by
    have hx2 : ArrT w2 vb E2 new := by
      unfold ArrT
      rw [hg.block vb hx.arr.lt (by simp; exact hnb)]; exact hx
    exact arr_row hx2 hnl
  clear hA hx hlen hA' hjl
  go_enter Tryz.func67, Tryz.ntmps67
  go_wp2_with (simp only [hov])
  refine wp_region_lex (C := IsOver w) 8 [] (by kernel_rfl) (by kernel_rfl) (isOver_of (by repeat (first | exact Below.refl _ _ | apply Below.drew | apply below_drewN | (refine Below.alloc ?_ (by simp) _)))) ?_
  simp only [List.take_succ_cons, List.take_zero, List.drop_succ_cons, List.drop_zero]
  repeat (first | (refine lex_skip rfl rfl ?_; simp only [Act.put, List.setIfInBounds_toArray, List.set_cons_succ, List.set_cons_zero]) | (refine lex_one rfl ?_; go_big_quiet_step (fail); refine wpQuiet_nil ?_))
  refine lex_end ?_
  go_wp2_with (first
    | (refine wpList_copy_at slTree rfl _ _ _ rfl B g (k + 1 + m + 1) cap _ HA2.out k _ _ _ (by simp) rfl _ 1 1 _ (HXr.out w2 HG2.out) rfl (by show _ = min _ _; omega) (fun u hu => h1n u (List.mem_of_mem_take hu)) (by omega) ?_; intro w3 hA3 hg3 hs3)
    | (refine wpList_copy_at slTree rfl _ _ _ rfl B g (k + 1 + m + 1) cap _ HA.out.drew (k + 1) _ _ _ (by simp) rfl _ (m + 1) _ _ HSrc.out.drew rfl (by show _ = min _ _; omega) h1j (by omega) ?_; intro w2 hA2 hg2 hs2; have HA2 := Lib.hid hA2; have HG2 := Lib.hid hg2; clear hA2 hg2 hs2))
  go_ret
  have e := ins_room (xs := xs) (js := js) (new := new) (K := k * 3) (S := 3) (M := m * 3) (a := k * 3) (b := 1 * 3) (c := (k + 1) * 3) (d := (m + 1) * 3) (f := (k + 1 + (m + 1)) * 3) (by have := HLen.out; omega) HJl.out hnl rfl (by omega) (by omega) (by omega) (by omega)
  rw [e] at hA3
  exact ⟨_, rfl, hA3.own, grown_trans (grown_drew (w := w) (w1 := w) (World.grownBy.refl w _)) (grown_trans HG2.out hg3), .inl rfl⟩

theorem insert_file (v : Value) (n k : Nat) (xs new : List Value) (vb : Nat) (E2 : TypeId) (w : World) (B : Nat) (ho : w.ownsRow B 40 3 v n xs) (hk : k ≤ n) (hx : ArrT w vb E2 new) (hnb : some vb ≠ v.ownBlock) (hnl : new.length = 3) (h1 : ∀ u ∈ xs, u.oneCell' = true) (h1n : ∀ u ∈ new, u.oneCell' = true) (hn : n ≤ 1000000) (hB : B ≤ w.heap.size) :
    Calls Tryz.prog 67 #[v, .int .i64 (k : Int), .slice (some ⟨vb, 0, none⟩) 1 1] w (InsRes w B 40 3 (n + 1) v (xs.take (k * 3) ++ new ++ xs.drop (k * 3))) := by
  by_cases hkn : k = n
  · subst hkn
    have hl := ho.1
    rw [List.take_of_length_le (by omega), List.drop_of_length_le (by omega), List.append_nil]
    exact insert_end_file v k xs new vb E2 w B ho hx hnl h1n hn hB
  · obtain ⟨m, rfl⟩ : ∃ m, n = k + 1 + m := ⟨n - k - 1, by omega⟩
    obtain ⟨g, cap, rfl, hA⟩ := own_at ho (by omega)
    by_cases hc : cap < k + 1 + m + 1
    · have := insert_grow_file g cap k m xs new vb E2 w B hA hx hnl h1 h1n hn hB hc
      rw [show k + (m + 2) = k + 1 + m + 1 by omega] at this
      exact this
    · exact insert_room_file g cap k m xs new vb E2 w B hA hx (fun h => hnb (by rw [h]; rfl)) hnl h1 h1n hn (by omega)

end Go.Proofs.YtjbihmglpfdmnaaGreatDoor
