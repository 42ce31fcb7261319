/- Contracts of bruitref50.one, kind by kind: what drops a file, what makes one. -/
import Derived.Test.YtipbknkjledebaaDoorDiffI
namespace Go.Proofs.YtipbknkjledebaaDoor
open Go Go.RowKit

def OneRes (w : World) (r : List FileM × Nat) (e : Ending) (w' : World) : Prop := ∃ v, e = .returned (.tuple #[v, .int .i64 (r.2 : Int)]) ∧ FRow w' v r.1 ∧ Below w.heap.size w w'
theorem oneRes_bad {w w' : World} {r : List FileM × Nat} {n : Nat} {z : Int} (h : r = ([], n)) (hz : z = (n : Int)) (hb : Below w.heap.size w w') : OneRes w r (.returned (.tuple #[.slice none 0 0, .int .i64 z])) w' := by
  subst h; subst hz
  exact ⟨_, rfl, frow_nil w', hb⟩
theorem oneRes_ok {w w' : World} {r : List FileM × Nat} {t : List FileM} {v : Value} (h : r = (t, 0)) (hv : FRow w' v t) (hb : Below w.heap.size w w') : OneRes w r (.returned (.tuple #[v, .int .i64 0])) w' := by
  subst h
  exact ⟨_, rfl, hv, hb⟩
theorem FRow.open {w : World} {v : Value} {t : List FileM} (h : FRow w v t) : ∃ hs : List FileH, t = hs.map (·.1) ∧ Row w v hs.length 3 (hs.flatMap encF) ∧ Held w hs := by
  obtain ⟨hs, h1, h2, h3⟩ := h
  subst h1
  exact ⟨hs, rfl, by simpa using h2, h3⟩
theorem flat_take {α : Type} {f : α → List Value} {sz : Nat} (hf : ∀ x, (f x).length = sz) : ∀ (xs : List α) (k : Nat), (xs.flatMap f).take (k * sz) = (xs.take k).flatMap f
  | [], k => by simp
  | x :: xs, 0 => by simp
  | x :: xs, k + 1 => by
    rw [List.flatMap_cons, List.take_succ_cons, List.flatMap_cons, List.take_append, hf, show (k + 1) * sz - sz = k * sz by rw [Nat.add_mul]; omega, flat_take hf xs k, List.take_of_length_le (by rw [hf, Nat.add_mul]; omega)]
theorem flat_drop {α : Type} {f : α → List Value} {sz : Nat} (hf : ∀ x, (f x).length = sz) : ∀ (xs : List α) (k : Nat), (xs.flatMap f).drop (k * sz) = (xs.drop k).flatMap f
  | [], k => by simp
  | x :: xs, 0 => by simp
  | x :: xs, k + 1 => by
    rw [List.flatMap_cons, List.drop_succ_cons, List.drop_append, hf, show (k + 1) * sz - sz = k * sz by rw [Nat.add_mul]; omega, flat_drop hf xs k, List.drop_of_length_le (by rw [hf, Nat.add_mul]; omega)]; rfl
theorem hrow_take {hs : List FileH} {k : Nat} {v v' : Value} (hv : ∀ w' : World, Row w' v hs.length 3 (hs.flatMap encF) → Row w' v' k 3 ((hs.flatMap encF).take (k * 3))) {w : World} (hr : Row w v hs.length 3 (hs.flatMap encF)) : Row w v' k 3 ((hs.take k).flatMap encF) := by
  have := hv w hr
  rwa [flat_take encF_len] at this
theorem hrow_drop {hs : List FileH} {k : Nat} {v v' : Value} (hv : ∀ w' : World, Row w' v hs.length 3 (hs.flatMap encF) → Row w' v' (hs.length - k) 3 ((hs.flatMap encF).drop (k * 3))) {w : World} (hr : Row w v hs.length 3 (hs.flatMap encF)) : Row w v' (hs.length - k) 3 ((hs.drop k).flatMap encF) := by
  have := hv w hr
  rwa [flat_drop encF_len] at this
theorem Held.take {w : World} {hs : List FileH} (h : Held w hs) (k : Nat) : Held w (hs.take k) := fun x hx => h x (List.mem_of_mem_take hx)
theorem Held.drop {w : World} {hs : List FileH} (h : Held w hs) (k : Nat) : Held w (hs.drop k) := fun x hx => h x (List.mem_of_mem_drop hx)
theorem Held.app {w : World} {hs gs : List FileH} (h : Held w hs) (h' : Held w gs) : Held w (hs ++ gs) := fun x hx => (List.mem_append.1 hx).elim (h x) (h' x)
theorem below_box {w : World} (o : Obj) : Below w.heap.size w (w.alloc o) := (Below.refl _ _).alloc (Nat.le_refl _) o

set_option maxHeartbeats 10000000 in
set_option maxRecDepth 100000 in
theorem rone_drop (v : Value) (t : List FileM) (n : ByteArray) (a : Int) (s : ByteArray) (w : World) (hv : FRow w v t) (ht : t.length ≤ 1000) :
    Calls Tryd.prog 20 #[v, .agg #[.int .u8 1, .string n, .int .i64 a, .string s]] w (OneRes w (oneK1 t n)) := by
  have HV := Lib.hid hv
  have HA0 := Lib.hid (arrT_new w [.int .u8 1, .string n, .int .i64 a, .string s] 52)
  have HB0 := Lib.hid (below_box (w := w) (.cells #[.int .u8 1, .string n, .int .i64 a, .string s] 52))
  have HF := Lib.hid (findT_ge t n)
  clear hv
  rcases HF.out with hn | ⟨k, f, hq, hf, hfn⟩
  · have HR : Hid (oneK1 t n = ([], 6)) := by show _ = _; unfold oneK1; rw [if_pos (by omega)]
    have hd : decide (findT t n < 0) = true := by rw [hn]; rfl
    clear hn
    go_enter Tryd.func20, Tryd.ntmps20
    go_wp2_with fail
    refine (rfind_any _ t n _ (HV.out.over HB0.out)).mono ?_
    rintro e w1 ⟨rfl, hb1⟩
    have hA := HA0.out.over hb1
    have c0 := hA.arr.cell (j := 0) rfl
    have sA := hA.arr.lt
    have HBw := Lib.hid (below_over HB0.out HB0.out.size hb1)
    clear hA
    go_wp2_with fail
    go_ret2
    exact oneRes_bad HR.out rfl HBw.out
  · have hk : k < t.length := (List.getElem?_eq_some_iff.1 hf).1
    have HR : Hid (oneK1 t n = (t.take k ++ t.drop (k + 1), 0)) := by show _ = _; unfold oneK1; rw [if_neg (by omega), hq, Int.toNat_natCast]
    have HQ := Lib.hid hq
    obtain ⟨hs, rfl, hr, hh⟩ := HV.out.open
    rw [List.length_map] at hk ht
    have HH := Lib.hid hh
    have HRow := Lib.hid hr
    have hd : decide ((k : Int) < 0) = false := by simp
    have hN1 : 0 + k ≤ 1099511627776 := by omega
    have hN2 : (0 + k) + (hs.length - (k + 1)) ≤ 1099511627776 := by omega
    have hk1 : k ≤ hs.length := by omega
    clear hq hf hfn hh hr
    go_enter Tryd.func20, Tryd.ntmps20
    go_wp2_with fail
    refine (rfind_any _ _ n _ (HV.out.over HB0.out)).mono ?_
    rintro e w1 ⟨rfl, hb1⟩
    rw [HQ.out]
    have hA := HA0.out.over hb1
    have c0 := hA.arr.cell (j := 0) rfl
    have sA := hA.arr.lt
    have HBw := Lib.hid (below_over HB0.out HB0.out.size hb1)
    clear hA hb1
    go_wp2_with (first
      | (at_builtin; refine wpList_append_old slTree rfl _ _ rfl w1.heap.size _ _ _ HO2.out rfl _ _ _ HR3.out rfl (encF_one (((HH.out.over HBw.out).over HB2.out).drop _)) hN2 (by decide) HB2.out.size ?_; intro v4 w4 ho4 hg4)
      | (refine wpList_slice_from slTree rfl _ _ rfl _ _ _ ((HRow.out.over HBw.out).over HB2.out) rfl _ (k + 1) rfl (by omega) hk ?_; intro v3 hv3; have HR3 := Lib.hid (hrow_drop hv3 ((HRow.out.over HBw.out).over HB2.out)); clear hv3)
      | (at_builtin; refine wpList_append_old slTree rfl _ _ rfl w1.heap.size _ _ _ (World.ownsRow_nil w1 w1.heap.size 44 3) rfl _ _ _ HR1.out rfl (encF_one ((HH.out.over HBw.out).take _)) hN1 (by decide) (Nat.le_refl _) ?_; intro v2 w2 ho2 hg2; have HO2 := Lib.hid ho2; have HB2 := Lib.hid (grown_over' hg2 (fun g hg => by simp [Value.ownBlock] at hg)); clear ho2 hg2)
      | (refine wpList_slice_to slTree rfl _ _ rfl _ _ _ (HRow.out.over HBw.out) rfl _ k rfl rfl hk1 ?_; intro v1 hv1; have HR1 := Lib.hid (hrow_take hv1 (HRow.out.over HBw.out)); clear hv1))
    have hb4 := below_grown HB2.out HB2.out.size HO2.out hg4
    go_ret2
    simp only [List.nil_append] at ho4
    have hT := TOwn.app (n := 0 + k) (m := hs.length - (k + 1)) (xs := hs.take k) (ys := hs.drop (k + 1)) (by simp; omega) (by simp) ho4
    have hbw := below_over HBw.out HBw.out.size hb4
    refine oneRes_ok HR.out ?_ hbw
    have := hT.frow (((HH.out.take k).app (HH.out.drop (k + 1))).over hbw)
    simpa [List.map_take, List.map_drop] using this
end Go.Proofs.YtipbknkjledebaaDoor
