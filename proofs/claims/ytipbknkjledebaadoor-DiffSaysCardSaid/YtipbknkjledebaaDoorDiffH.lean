/- Contracts of bruitref50.without, with. -/
import Derived.Test.YtipbknkjledebaaDoorDiffG
import Derived.Test.YtipbknkjledebaaDoorDiffQ
namespace Go.Proofs.YtipbknkjledebaaDoor
open Go Go.RowKit

theorem slStr : SlT Tryd.prog 42 9 1 16 := slT_of Tryd.underlying42 (by kernel_rfl) (by decide)
theorem slTree : SlT Tryd.prog 23 44 3 64 := slT_of Tryd.underlying23 (by kernel_rfl) (by decide)
def SOwn (w : World) (B : Nat) (v : Value) (xs : List ByteArray) : Prop := w.ownsRow B 9 1 v xs.length (xs.map Value.string)
theorem SOwn.srow {w : World} {B : Nat} {v : Value} {xs : List ByteArray} (h : SOwn w B v xs) : SRow w v xs := own_srow h
theorem SOwn.app {w : World} {B : Nat} {v : Value} {xs ys : List ByteArray} {n m : Nat} (hn : n = xs.length) (hm : m = ys.length) (h : w.ownsRow B 9 1 v (n + m) (xs.map Value.string ++ ys.map Value.string)) : SOwn w B v (xs ++ ys) := by
  subst hn; subst hm
  unfold SOwn
  rw [List.length_append, List.map_append]; exact h
theorem string_one (xs : List ByteArray) : ∀ u ∈ xs.map Value.string, u.oneCell' = true := by
  intro u hu
  obtain ⟨x, _, rfl⟩ := List.mem_map.1 hu
  rfl
def WithRes (w : World) (ys : List ByteArray) (e : Ending) (w' : World) : Prop := ∃ v, e = .returned v ∧ SRow w' v ys ∧ Below w.heap.size w w'
theorem srow_take {xs : List ByteArray} {k : Nat} {v v' : Value} (h : k ≤ xs.length) (hv : ∀ w' : World, Row w' v xs.length 1 (xs.map Value.string) → Row w' v' k 1 ((xs.map Value.string).take (k * 1))) {w : World} (hr : SRow w v xs) : Row w v' k 1 ((xs.take k).map Value.string) := by
  have := hv w hr
  rwa [Nat.mul_one, ← List.map_take] at this
theorem srow_drop {xs : List ByteArray} {k : Nat} {v v' : Value} (hv : ∀ w' : World, Row w' v xs.length 1 (xs.map Value.string) → Row w' v' (xs.length - k) 1 ((xs.map Value.string).drop (k * 1))) {w : World} (hr : SRow w v xs) : Row w v' (xs.length - k) 1 ((xs.drop k).map Value.string) := by
  have := hv w hr
  rwa [Nat.mul_one, ← List.map_drop] at this

set_option maxHeartbeats 4000000 in
set_option maxRecDepth 100000 in
theorem without_any (v : Value) (xs : List ByteArray) (k : Nat) (w : World) (hv : SRow w v xs) (hk : k < xs.length) (hl : xs.length ≤ 1000) :
    Calls Tryd.prog 39 #[v, .int .i64 (k : Int)] w (WithRes w (xs.take k ++ xs.drop (k + 1))) := by
  have HV := Lib.hid hv
  clear hv
  have hN1 : 0 + k ≤ 1099511627776 := by omega
  have hN2 : (0 + k) + (xs.length - (k + 1)) ≤ 1099511627776 := by omega
  have hk1 : k ≤ xs.length := by omega
  go_enter Tryd.func39, Tryd.ntmps39
  go_wp2_with (first
    | (at_builtin; refine wpList_append_old slStr rfl _ _ rfl w.heap.size _ _ _ HO2.out rfl _ _ _ HR3.out rfl (string_one _) hN2 (by decide) HB2.out.size ?_; intro v4 w4 ho4 hg4)
    | (refine wpList_slice_from slStr rfl _ _ rfl _ _ _ (HV.out.over HB2.out) rfl _ (k + 1) rfl (by omega) hk ?_; intro v3 hv3; have HR3 := Lib.hid (srow_drop hv3 (HV.out.over HB2.out)); clear hv3)
    | (at_builtin; refine wpList_append_old slStr rfl _ _ rfl w.heap.size _ _ _ (World.ownsRow_nil w w.heap.size 9 1) rfl _ _ _ HR1.out rfl (string_one _) hN1 (by decide) (Nat.le_refl _) ?_; intro v2 w2 ho2 hg2; have HO2 := Lib.hid ho2; have HB2 := Lib.hid (grown_over' hg2 (fun g hg => by simp [Value.ownBlock] at hg)); clear ho2 hg2)
    | (refine wpList_slice_to slStr rfl _ _ rfl _ _ _ HV.out rfl _ k rfl rfl hk1 ?_; intro v1 hv1; have HR1 := Lib.hid (srow_take hk1 hv1 HV.out); clear hv1))
  have hb2 := HB2.out
  have hB2 := hb2.size
  go_ret
  have hb4 := below_grown hb2 hB2 HO2.out hg4
  simp only [List.nil_append] at ho4
  exact ⟨_, rfl, (SOwn.app (n := 0 + k) (m := xs.length - (k + 1)) (xs := xs.take k) (ys := xs.drop (k + 1)) (by simp; omega) (by simp) ho4).srow, hb4⟩

set_option maxHeartbeats 4000000 in
set_option maxRecDepth 100000 in
theorem with_any (v : Value) (xs : List ByteArray) (k : Nat) (s : ByteArray) (w : World) (hv : SRow w v xs) (hk : k ≤ xs.length) (hl : xs.length ≤ 1000) :
    Calls Tryd.prog 40 #[v, .int .i64 (k : Int), .string s] w (WithRes w (xs.take k ++ s :: xs.drop k)) := by
  have HV := Lib.hid hv
  clear hv
  have hN1 : 0 + k ≤ 1099511627776 := by omega
  have hN2 : 0 + k + 1 ≤ 1099511627776 := by omega
  have hN3 : (0 + k + 1) + (xs.length - k) ≤ 1099511627776 := by omega
  go_enter Tryd.func40, Tryd.ntmps40
  go_wp2_with (first
    | (at_builtin; refine wpList_append_old slStr rfl _ _ rfl w.heap.size _ _ _ HO3.out rfl _ _ _ HR3.out rfl (string_one _) hN3 (by decide) HB3.out.size ?_; intro v4 w4 ho4 hg4)
    | (refine wpList_slice_from slStr rfl _ _ rfl _ _ _ (HV.out.over HB3.out) rfl _ k rfl (by omega) hk ?_; intro v3 hv3; have HR3 := Lib.hid (srow_drop hv3 (HV.out.over HB3.out)); clear hv3)
    | (at_builtin; refine wpList_append_new slStr rfl _ _ rfl w.heap.size _ _ 1 _ _ _ HO2.out rfl rfl rfl rfl hN2 (by decide) HB2.out.size ?_; intro v5 w3 ho3 hg3; have HO3 := Lib.hid ho3; have HB3 := Lib.hid (below_grown HB2.out HB2.out.size HO2.out hg3); clear ho3 hg3)
    | (at_builtin; refine wpList_append_old slStr rfl _ _ rfl w.heap.size _ _ _ (World.ownsRow_nil w w.heap.size 9 1) rfl _ _ _ HR1.out rfl (string_one _) hN1 (by decide) (Nat.le_refl _) ?_; intro v2 w2 ho2 hg2; have HO2 := Lib.hid ho2; have HB2 := Lib.hid (grown_over' hg2 (fun g hg => by simp [Value.ownBlock] at hg)); clear ho2 hg2)
    | (refine wpList_slice_to slStr rfl _ _ rfl _ _ _ HV.out rfl _ k rfl rfl hk ?_; intro v1 hv1; have HR1 := Lib.hid (srow_take hk hv1 HV.out); clear hv1))
  have hb3 := HB3.out
  have hB3 := hb3.size
  go_ret
  have hb4 := below_grown hb3 hB3 HO3.out hg4
  simp only [List.nil_append] at ho4
  have h2 := SOwn.app (n := 0 + k + 1) (m := xs.length - k) (xs := xs.take k ++ [s]) (ys := xs.drop k) (by simp; omega) (by simp) (by simpa using ho4)
  exact ⟨_, rfl, (by simpa using h2.srow), hb4⟩
end Go.Proofs.YtipbknkjledebaaDoor
