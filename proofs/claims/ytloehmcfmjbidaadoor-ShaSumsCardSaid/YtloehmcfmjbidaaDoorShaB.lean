/- Contracts of the reckoning of the constants: digits, times, above. -/
import Derived.Test.YtloehmcfmjbidaaDoorShaA
import Derived.Test.YtloehmcfmjbidaaDoorRow
namespace Go.Proofs.YtloehmcfmjbidaaDoor
open Go Go.RowKit

def ints (k : IntKind) (xs : List Nat) : List Value := xs.map fun (x : Nat) => .int k (x : Int)
theorem ints_len (k : IntKind) (xs : List Nat) : (ints k xs).length = xs.length := by simp [ints]
theorem ints_get {k : IntKind} {xs : List Nat} {j : Nat} (h : j < xs.length) : (ints k xs)[j]? = some (.int k (nth xs j : Nat)) := by
  simp [ints, nth, h]
theorem ints_one (k : IntKind) (xs : List Nat) : ∀ u ∈ ints k xs, u.oneCell' = true := by
  intro u hu
  obtain ⟨x, _, rfl⟩ := List.mem_map.1 hu
  rfl
theorem ints_append (k : IntKind) (xs ys : List Nat) : ints k (xs ++ ys) = ints k xs ++ ints k ys := by simp [ints]
theorem ints_set (k : IntKind) (xs : List Nat) (i x : Nat) : ints k (xs.set i x) = (ints k xs).set i (.int k (x : Nat)) := by simp [ints, List.map_set]
def IRow (w : World) (k : IntKind) (v : Value) (xs : List Nat) : Prop := Row w v xs.length 1 (ints k xs)
theorem IRow.form {w : World} {k : IntKind} {v : Value} {xs : List Nat} (h : IRow w k v xs) : ∃ a cap, v = .slice a xs.length cap ∧ xs.length ≤ cap ∧ cap ≤ maxLen ∧
    (xs.length = 0 ∨ ∃ b off, a = some ⟨b, off, none⟩ ∧ b < w.heap.size ∧ ∀ j, j < xs.length → w.cell? ⟨b, off + j, none⟩ = some (.int k (nth xs j : Nat))) := by
  obtain ⟨_, a, cap, rfl, h2, h3, _, h5⟩ := h
  refine ⟨a, cap, rfl, h2, h3, ?_⟩
  by_cases hn : xs.length = 0
  · exact .inl hn
  · obtain ⟨b, off, rfl, hb, hc⟩ := h5 hn
    exact .inr ⟨b, off, rfl, hb, fun j hj => hc j _ (ints_get hj)⟩
theorem IRow.over {w w' : World} {k : IntKind} {v : Value} {xs : List Nat} (h : IRow w k v xs) (hb : Below w.heap.size w w') : IRow w' k v xs := Row.over h hb
theorem own_irow {w : World} {base : Nat} {e : TypeId} {k : IntKind} {v : Value} {n : Nat} {xs : List Nat} (h : w.ownsRow base e 1 v n (ints k xs)) : IRow w k v xs := by
  have hl : n = xs.length := by have := h.1; rw [ints_len] at this; omega
  subst hl
  exact own_row h

theorem irow_new {w wx : World} {cs : Array Value} {e : TypeId} {k : IntKind} {xs : List Nat} {n : Nat} (hd : Drawn (w.alloc (.cells cs e)) wx) (hn : xs.length = n) (h : cs.toList = ints k xs) (hl : n ≤ maxLen) :
    IRow wx k (.slice (some ⟨w.heap.size, 0, none⟩) n n) xs := by
  subst hn
  refine hd.row ?_
  have hs : cs.size = xs.length * 1 := by rw [Nat.mul_one, ← ints_len k xs, ← h]; simp
  have := World.ownsRow_lit (e := e) w cs xs.length (Nat.zero_le _) hl hs
  rw [h] at this
  exact own_row this

theorem slU64 : SlT Tryd.prog 38 42 1 8 := slT_of Tryd.underlying38 (by kernel_rfl) (by decide)
theorem slU32 : SlT Tryd.prog 24 40 1 4 := slT_of Tryd.underlying24 (by kernel_rfl) (by decide)
theorem slU8 : SlT Tryd.prog 22 5 1 1 := slT_of Tryd.underlying22 (by kernel_rfl) (by decide)

theorem slzU64 : SlZ Tryd.prog 38 42 (.int .u64 0) 8 := slZ_of Tryd.underlying38 (by kernel_rfl) rfl
theorem digits_any (x : Int) (w : World) (h0 : 0 ≤ x) (hx : x < 281474976710656) :
    Calls Tryd.prog 17 #[.int .u64 x] w fun e w' => ∃ v, e = .returned v ∧ IRow w' .u64 v (Sha.digits x.toNat) ∧ Below w.heap.size w w' := by
  obtain ⟨n, rfl⟩ := Int.eq_ofNat_of_zero_le h0
  rw [Int.toNat_natCast]
  go_enter Tryd.func17, Tryd.ntmps17
  go_wp2
  go_ret
  refine ⟨_, rfl, ?_, (Below.refl _ _).alloc (Nat.le_refl _) _⟩
  exact own_irow (World.ownsRow_lit w _ 3 (Nat.le_refl _) (by decide) (by rfl))

theorem above_any (va vb : Value) (xs ys : List Nat) (w : World) (ha : IRow w .u64 va xs) (hb : IRow w .u64 vb ys) (la : xs.length ≤ 1000) (lb : ys.length ≤ 1000) :
    Calls Tryd.prog 19 #[va, vb] w fun e w' => e = .returned (.bool (Sha.above xs ys)) ∧ ∃ m, w' = w.drewN m := by
  obtain ⟨aa, ca, rfl, _, _, ha⟩ := ha.form
  obtain ⟨ab, cb, rfl, _, _, hb⟩ := hb.form
  have HA : Hid (Sha.above xs ys = Sha.aboveFrom xs ys (max xs.length ys.length)) := rfl
  by_cases hM : xs.length < ys.length
  all_goals
    go_enter Tryd.func19, Tryd.ntmps19
    go_wp2
    go_loop [5, 6, 7] (fun i _ _ => ∃ m : Int, -1 ≤ m ∧ m ≤ 999 ∧ i = .int .i64 m ∧ Sha.above xs ys = Sha.aboveFrom xs ys (m + 1).toNat) (fun i _ _ => (intOf i + 1).toNat)
    case atStart =>
      refine ⟨_, by omega, by omega, rfl, ?_⟩
      rw [HA.out]
      congr 1
      omega
    case round =>
      obtain ⟨m, h1, h2, rfl, hr⟩ := hrel
      by_cases hm : 0 ≤ m
      · obtain ⟨j, rfl⟩ := Int.eq_ofNat_of_zero_le hm
        have hf : Sha.aboveFrom xs ys (j + 1) = (if nth xs j ≠ nth ys j then decide (nth ys j < nth xs j) else Sha.aboveFrom xs ys j) := rfl
        rw [show ((j : Int) + 1).toNat = j + 1 by omega, hf] at hr
        have HR := Lib.hid hr; clear hr hf
        have hcx : (j < xs.length → ∃ b off, aa = some ⟨b, off, none⟩ ∧ w.cell? ⟨b, off + j, none⟩ = some (.int .u64 (nth xs j : Nat))) ∧ (xs.length ≤ j → nth xs j = 0) := by
          refine ⟨fun h => ?_, fun h => Sha.nth_ge h⟩
          rcases ha with h0 | ⟨b, off, rfl, _, hc⟩
          · omega
          · exact ⟨b, off, rfl, hc j h⟩
        have hcy : (j < ys.length → ∃ b off, ab = some ⟨b, off, none⟩ ∧ w.cell? ⟨b, off + j, none⟩ = some (.int .u64 (nth ys j : Nat))) ∧ (ys.length ≤ j → nth ys j = 0) := by
          refine ⟨fun h => ?_, fun h => Sha.nth_ge h⟩
          rcases hb with h0 | ⟨b, off, rfl, _, hc⟩
          · omega
          · exact ⟨b, off, rfl, hc j h⟩
        clear ha hb HA
        generalize nth xs j = X at *
        generalize nth ys j = Y at *
        by_cases hja : j < xs.length
        · obtain ⟨bx, ox, rfl, hx⟩ := hcx.1 hja
          clear hcx
          by_cases hjb : j < ys.length
          · obtain ⟨by', oy, rfl, hy⟩ := hcy.1 hjb
            clear hcy
            by_cases hxy : X = Y
            · subst hxy
              go_wp2
              go_round
              case rel => exact ⟨j - 1, by omega, by omega, rfl, by rw [HR.out, if_neg (by simp)]; congr 1; omega⟩
              case measure => simp [intOf] <;> omega
            · go_wp2
              all_goals (go_ret; exact ⟨ret_val (by rw [HR.out, if_pos hxy]; simp), 0, rfl⟩)
          · obtain rfl : Y = 0 := hcy.2 (by omega)
            clear hcy
            by_cases hxy : X = 0
            · subst hxy
              go_wp2
              go_round
              case rel => exact ⟨j - 1, by omega, by omega, rfl, by rw [HR.out, if_neg (by simp)]; congr 1; omega⟩
              case measure => simp [intOf] <;> omega
            · go_wp2
              all_goals (go_ret; exact ⟨ret_val (by rw [HR.out, if_pos hxy]; simp), 0, rfl⟩)
        · obtain rfl : X = 0 := hcx.2 (by omega)
          clear hcx
          by_cases hjb : j < ys.length
          · obtain ⟨by', oy, rfl, hy⟩ := hcy.1 hjb
            clear hcy
            by_cases hxy : Y = 0
            · subst hxy
              go_wp2
              go_round
              case rel => exact ⟨j - 1, by omega, by omega, rfl, by rw [HR.out, if_neg (by simp)]; congr 1; omega⟩
              case measure => simp [intOf] <;> omega
            · go_wp2
              all_goals (go_ret; exact ⟨ret_val (by rw [HR.out, if_pos (by omega)]; simp), 0, rfl⟩)
          · obtain rfl : Y = 0 := hcy.2 (by omega)
            clear hcy
            go_wp2
            go_round
            case rel => exact ⟨j - 1, by omega, by omega, rfl, by rw [HR.out, if_neg (by simp)]; congr 1; omega⟩
            case measure => simp [intOf] <;> omega
      · obtain rfl : m = -1 := by omega
        have HR := Lib.hid hr; clear hr
        go_wp2
        go_ret
        exact ⟨by rw [HR.out]; rfl, 0, rfl⟩

theorem own_made {w : World} {base : Nat} {e : TypeId} {g n : Nat} {xs ys : List Value} (h : w.ownsRow base e 1 (.slice (some ⟨g, 0, none⟩) n n) n xs) (hx : xs = ys) : w.ownsRow base e 1 (.slice (some ⟨g, 0, none⟩) n n) n ys := hx ▸ h

theorem times_any (va vb : Value) (xs ys : List Nat) (w : World) (ha : IRow w .u64 va xs) (hb : IRow w .u64 vb ys) (la : xs.length ≤ 1000) (lb : ys.length ≤ 1000) (sa : Sha.Small xs) (sb : Sha.Small ys) :
    Calls Tryd.prog 18 #[va, vb] w fun e w' => ∃ v, e = .returned v ∧ IRow w' .u64 v (Sha.times xs ys) ∧ Below w.heap.size w w' := by
  obtain ⟨aa, ca, rfl, _, _, ha⟩ := ha.form
  obtain ⟨ab, cb, rfl, _, _, hb⟩ := hb.form
  go_enter Tryd.func18, Tryd.ntmps18
  go_wp2_with (at_make; refine wpList_make_zeros slzU64 rfl _ _ rfl w.heap.size (xs.length + ys.length) _ rfl rfl (by omega) (by omega) (by unfold maxLen; omega) (Nat.le_refl _) ?_; intro w1 hown hgr)
  have HI : Hid (Sha.times xs ys = Sha.outer xs ys xs.length) := rfl
  have hown0 : w1.ownsRow w.heap.size 42 1 (.slice (some ⟨w.heap.size, 0, none⟩) (xs.length + ys.length) (xs.length + ys.length)) (xs.length + ys.length) (ints .u64 (Sha.outer xs ys 0)) := by
    simpa [Sha.outer, ints] using hown
  have hb0 : Below w.heap.size w w1 := (Below.refl _ _).grown hgr (Nat.le_refl _) (fun k hk => by cases hk)
  have hsz0 : w.heap.size < w1.heap.size := (hown0.lt w.heap.size rfl).2
  clear hown hgr
  go_loopw [6, 7, 8, 9] (fun i _ _ _ wr => ∃ k : Nat, k ≤ xs.length ∧ i = .int .i64 k ∧ Below w.heap.size w wr ∧
      wr.ownsRow w.heap.size 42 1 (.slice (some ⟨w.heap.size, 0, none⟩) (xs.length + ys.length) (xs.length + ys.length)) (xs.length + ys.length) (ints .u64 (Sha.outer xs ys k)))
    (fun i _ _ _ _ => xs.length - (intOf i).toNat)
  case atStart => exact ⟨0, Nat.zero_le _, rfl, hb0, hown0⟩
  case round =>
    obtain ⟨i, hi, rfl, hbl, hown⟩ := hrel
    by_cases hlt : i < xs.length
    · have hx : ∃ b off, aa = some ⟨b, off, none⟩ ∧ b < w.heap.size ∧ w.cell? ⟨b, off + i, none⟩ = some (.int .u64 (nth xs i : Nat)) := by
        rcases ha with h0 | ⟨b, off, rfl, hbb, hc⟩
        · omega
        · exact ⟨b, off, rfl, hbb, hc i hlt⟩
      obtain ⟨bx, ox, rfl, hbx, hx⟩ := hx
      have hX := sa i
      have hpre := Sha.inner_small (x := nth xs i) (b := ys) (i := i) (s := (Sha.outer xs ys i, 0)) (sa i) sb (Sha.outer_small sa sb i) (show 0 < 65536 by decide)
      have hlen : ∀ k, (Sha.inner (nth xs i) ys i (Sha.outer xs ys i, 0) k).1.length = xs.length + ys.length := fun k => by rw [Sha.inner_len, Sha.outer_len]
      have HS : Hid (Sha.outer xs ys (i + 1) = (Sha.inner (nth xs i) ys i (Sha.outer xs ys i, 0) ys.length).1.set (i + ys.length) (Sha.inner (nth xs i) ys i (Sha.outer xs ys i, 0) ys.length).2) := rfl
      have HN : Hid (∀ k, Sha.inner (nth xs i) ys i (Sha.outer xs ys i, 0) (k + 1) = ((Sha.inner (nth xs i) ys i (Sha.outer xs ys i, 0) k).1.set (i + k) ((nth (Sha.inner (nth xs i) ys i (Sha.outer xs ys i, 0) k).1 (i + k) + nth xs i * nth ys k + (Sha.inner (nth xs i) ys i (Sha.outer xs ys i, 0) k).2) % 65536), (nth (Sha.inner (nth xs i) ys i (Sha.outer xs ys i, 0) k).1 (i + k) + nth xs i * nth ys k + (Sha.inner (nth xs i) ys i (Sha.outer xs ys i, 0) k).2) / 65536)) := fun _ => rfl
      have hz : Sha.inner (nth xs i) ys i (Sha.outer xs ys i, 0) 0 = (Sha.outer xs ys i, 0) := rfl
      generalize Sha.outer xs ys i = O at *
      generalize hF : Sha.inner (nth xs i) ys i (O, 0) = F at *
      clear hF
      generalize nth xs i = X at *
      obtain ⟨wo, rfl⟩ : ∃ wo : World, wo = wr := ⟨_, rfl⟩
      have HO := Lib.hid hown; clear hown
      have HZ := Lib.hid hz; clear hz
      have HP := Lib.hid hpre; clear hpre
      have HL := Lib.hid hlen; clear hlen
      go_wp2
      go_loopw [7, 8, 9] (fun c k _ wr => ∃ m : Nat, m ≤ ys.length ∧ k = .int .i64 m ∧ c = .int .u64 ((F m).2 : Nat) ∧ Below w.heap.size w wr ∧
          wr.ownsRow w.heap.size 42 1 (.slice (some ⟨w.heap.size, 0, none⟩) (xs.length + ys.length) (xs.length + ys.length)) (xs.length + ys.length) (ints .u64 (F m).1))
        (fun _ k _ _ => ys.length - (intOf k).toNat)
      case atStart => exact ⟨0, Nat.zero_le _, rfl, by rw [HZ.out]; rfl, hbl, by rw [HZ.out]; exact HO.out⟩
      case round =>
        obtain ⟨m, hm, rfl, rfl, hbl2, hown2⟩ := hrel
        have hlm := HL.out m
        obtain ⟨sm, cm⟩ := HP.out m
        by_cases hml : m < ys.length
        · have hy : ∃ b off, ab = some ⟨b, off, none⟩ ∧ b < w.heap.size ∧ w.cell? ⟨b, off + m, none⟩ = some (.int .u64 (nth ys m : Nat)) := by
            rcases hb with h0 | ⟨b, off, rfl, hbb, hc⟩
            · omega
            · exact ⟨b, off, rfl, hbb, hc m hml⟩
          obtain ⟨by', oy, rfl, hby, hy⟩ := hy
          have c1 : wr.cell? ⟨w.heap.size, i + m, none⟩ = some (.int .u64 (nth (F m).1 (i + m) : Nat)) := by
            rw [hown2.cellAt (i + m) (by omega)]; exact ints_get (by omega)
          have c2 : wr.cell? ⟨bx, ox + i, none⟩ = some (.int .u64 (X : Nat)) := (hbl2.cell (p := ⟨bx, ox + i, none⟩) hbx).trans hx
          have c3 : wr.cell? ⟨by', oy + m, none⟩ = some (.int .u64 (nth ys m : Nat)) := (hbl2.cell (p := ⟨by', oy + m, none⟩) hby).trans hy
          have f1 : wr.frozen? ⟨w.heap.size, i + m, none⟩ = false := hown2.frozenAt (i + m)
          have hN := HN.out m
          have hY := sb m
          have hO := sm (i + m)
          have hXY := Sha.mul_le' hX hY
          have hfin : ∀ (q : Nat) (z c : Int), z = ((nth (F m).1 (i + m) + X * nth ys m + (F m).2) % 65536 : Nat) → c = ((nth (F m).1 (i + m) + X * nth ys m + (F m).2) / 65536 : Nat) →
              ((wr.drewN q).setCell ⟨w.heap.size, i + m, none⟩ (.int .u64 z)).ownsRow w.heap.size 42 1 (.slice (some ⟨w.heap.size, 0, none⟩) (xs.length + ys.length) (xs.length + ys.length)) (xs.length + ys.length) (ints .u64 (F (m + 1)).1) ∧
              Below w.heap.size w ((wr.drewN q).setCell ⟨w.heap.size, i + m, none⟩ (.int .u64 z)) ∧ Value.int .u64 c = .int .u64 ((F (m + 1)).2 : Nat) := by
            rintro q z c rfl rfl
            rw [hN, ints_set]
            exact ⟨(World.ownsRow.stored (w := wr.drewN q) hown2 (i + m) _).1, (below_drewN hbl2 q).setCell (Nat.le_refl _) _, rfl⟩
          clear hN HZ HO HL HP HN ha hb hown2 sm
          generalize nth (F m).1 (i + m) = O1 at *
          generalize (F m).2 = C1 at *
          generalize nth ys m = Y at *
          have hXY1 : (X : Int) * (Y : Int) ≤ 4294836225 := by rw [← Int.natCast_mul]; omega
          have hXY0 : (0 : Int) ≤ (X : Int) * (Y : Int) := Int.mul_nonneg (by omega) (by omega)
          have HF := Lib.hid hfin; clear hfin hXY
          go_wp2
          go_quiet (fail)
          go_wp2
          obtain ⟨h1, h2, h3⟩ := HF.out nq (((O1 : Int) + (X : Int) * (Y : Int) + (C1 : Int)) % 65536) (((O1 : Int) + (X : Int) * (Y : Int) + (C1 : Int)) / 65536) (by simp) (by simp)
          go_roundw
          case rel => exact ⟨m + 1, by omega, by go_num, h3, h2, h1⟩
          case measure => simp [intOf] <;> omega
        · obtain rfl : m = ys.length := by omega
          have c1 : wr.cell? ⟨w.heap.size, i + ys.length, none⟩ = some (.int .u64 (nth (F ys.length).1 (i + ys.length) : Nat)) := by
            rw [hown2.cellAt (i + ys.length) (by omega)]; exact ints_get (by omega)
          have f1 : wr.frozen? ⟨w.heap.size, i + ys.length, none⟩ = false := hown2.frozenAt (i + ys.length)
          have hS : (wr.setCell ⟨w.heap.size, i + ys.length, none⟩ (.int .u64 ((F ys.length).2 : Nat))).ownsRow w.heap.size 42 1 (.slice (some ⟨w.heap.size, 0, none⟩) (xs.length + ys.length) (xs.length + ys.length)) (xs.length + ys.length) (ints .u64 (Sha.outer xs ys (i + 1))) := by
            rw [HS.out, ints_set]
            exact (hown2.stored (i + ys.length) _).1
          have hB2 := hbl2.setCell (p := ⟨w.heap.size, i + ys.length, none⟩) (Nat.le_refl _) (.int .u64 ((F ys.length).2 : Nat))
          clear HZ HO HL HP HN ha hb sm hown2
          go_wp2
          go_roundw
          case rel => exact ⟨i + 1, by omega, by go_num, hB2, hS⟩
          case measure => simp [intOf] <;> omega
    · obtain rfl : i = xs.length := by omega
      go_wp2
      go_ret
      exact ⟨_, rfl, by rw [HI.out]; exact own_irow hown, hbl⟩
end Go.Proofs.YtloehmcfmjbidaaDoor
