/- Contracts of the reckoning of the constants: primes, root, Table. -/
import Derived.Test.YtloehmcfmjbidaaDoorShaB
namespace Go.Proofs.YtloehmcfmjbidaaDoor
open Go Go.RowKit

theorem primes_any (w : World) :
    Calls Tryd.prog 12 #[.int .i64 64] w fun e w' => ∃ v, e = .returned v ∧ IRow w' .u64 v Sha.primes ∧ Below w.heap.size w w' := by
  have hP := Sha.primes_len
  go_enter Tryd.func12, Tryd.ntmps12
  go_wp2
  go_loopw [3, 4, 5, 6] (fun v p _ _ wr => ∃ (q : Nat) (l : List Nat), 2 ≤ q ∧ q ≤ 402 ∧ p = .int .u64 q ∧ l.length ≤ 64 ∧ (∀ j, j < l.length → 2 ≤ nth l j ∧ nth l j < 65536) ∧
      Sha.primesFrom 64 (402 - q) q l = Sha.primes ∧ wr.ownsRow w.heap.size 42 1 v l.length (ints .u64 l) ∧ Below w.heap.size w wr) (fun _ p _ _ _ => 402 - (intOf p).toNat)
  case atStart => exact ⟨2, [], by omega, by omega, rfl, by simp, by simp, Sha.primes_start, World.ownsRow_nil _ _ _ _, Below.refl _ _⟩
  case round =>
    obtain ⟨q, l, h1, h2, rfl, h3, h4, h5, hown, hbl⟩ := hrel
    obtain ⟨a, cap, hv, _, _, hc⟩ := (own_irow hown).form
    subst hv
    by_cases hlt : l.length < 64
    · have hq : q < 402 := by
        rcases Nat.lt_or_ge q 402 with h | h
        · exact h
        · obtain rfl : q = 402 := by omega
          have : l = Sha.primes := (Sha.primesFrom_none _ _ _).symm.trans h5
          rw [this] at hlt; omega
      have hF : (Sha.primesFrom 64 (402 - (q + 1)) (q + 1) (if Sha.isPrime q l then l ++ [q] else l) = Sha.primes) := by
        rw [← h5, show 402 - q = (402 - (q + 1)) + 1 by omega, Sha.primesFrom_step hlt]
      have HF := Lib.hid hF
      clear h5 hF
      have HO := Lib.hid hown; clear hown
      have HP := Lib.hid hP; clear hP
      have H4 := Lib.hid h4; clear h4
      go_wp2
      go_loop [5, 6] (fun b i => ∃ k : Nat, k ≤ l.length ∧ i = .int .i64 k ∧ b = .bool (Sha.isPrime q (l.take k))) (fun _ i => l.length - (intOf i).toNat)
      case atStart => exact ⟨0, Nat.zero_le _, rfl, rfl⟩
      case round =>
        obtain ⟨k, hk, rfl, rfl⟩ := hrel
        by_cases hkl : k < l.length
        · have ht := Lib.hid (Sha.isPrime_take q l k hkl)
          have hcell : ∃ b off, a = some ⟨b, off, none⟩ ∧ wr.cell? ⟨b, off + k, none⟩ = some (.int .u64 (nth l k : Nat)) := by
            rcases hc with h | ⟨b, off, rfl, _, hc⟩
            · omega
            · exact ⟨b, off, rfl, hc k hkl⟩
          obtain ⟨b, off, rfl, hcell⟩ := hcell
          obtain ⟨g1, g2⟩ := H4.out k hkl
          clear hc
          cases hpk : Sha.isPrime q (l.take k)
          · rw [hpk] at ht
            have HK := Lib.hid hpk; clear hpk
            go_wp2
            go_round
            case rel => exact ⟨k + 1, by omega, by go_num, by rw [ht.out]; rfl⟩
            case measure => simp [intOf] <;> omega
          · rw [hpk] at ht
            have HK := Lib.hid hpk; clear hpk
            go_wp2
            go_round
            case rel => exact ⟨k + 1, by omega, by go_num, by rw [ht.out, Bool.true_and, bne_mod]⟩
            case measure => simp [intOf] <;> omega
        · obtain rfl : k = l.length := by omega
          rw [List.take_length]
          have hlt' : l.length + 1 ≤ 64 := by omega
          cases hpl : Sha.isPrime q l
          · rw [hpl] at HF
            go_wp2
            go_roundw
            case rel => exact ⟨q + 1, l, by omega, by omega, by go_num, h3, H4.out, HF.out, HO.out, hbl⟩
            case measure => simp [intOf] <;> omega
          · rw [hpl] at HF
            have hB : w.heap.size ≤ wr.heap.size := hbl.size
            have ho := HO.out
            have hN : l.length + 1 ≤ 1099511627776 := by omega
            clear hc
            go_wp2_with (at_builtin; refine wpList_append_new slU64 rfl _ _ rfl w.heap.size _ _ 1 _ _ _ ho rfl rfl rfl rfl hN (by decide) hB ?_; intro v' w1 hown1 hg1)
            go_roundw
            case rel =>
              refine ⟨q + 1, l ++ [q], by omega, by omega, by go_num, by simp; omega, ?_, HF.out, ?_, below_grown hbl hB ho hg1⟩
              · intro j hj
                simp at hj
                by_cases hjl : j < l.length
                · have := H4.out j hjl
                  simpa [nth, List.getElem?_append, hjl] using this
                · have hje : j = l.length := by omega
                  subst hje
                  simp [nth]; omega
              · rw [ints_append, List.length_append]; exact hown1
            case measure => simp [intOf] <;> omega
    · go_wp2
      go_ret
      have : l = Sha.primes := by rw [← h5, Sha.primesFrom_full hlt]
      subst this
      exact ⟨_, rfl, own_irow hown, hbl⟩

set_option maxHeartbeats 1000000 in
theorem root_any (p f : Nat) (w : World) (hp : p < 65536) (hf2 : 2 ≤ f) (hf3 : f ≤ 3) :
    Calls Tryd.prog 13 #[.int .u64 p, .int .i64 f] w fun e w' => e = .returned (.int .u32 (Sha.root p f : Nat)) ∧ Below w.heap.size w w' := by
  go_enter Tryd.func13, Tryd.ntmps13
  go_wp2
  go_loopw [5, 6] (fun v i wr => ∃ k : Nat, k ≤ 2 * f ∧ i = .int .i64 k ∧ wr.ownsRow w.heap.size 42 1 v k (ints .u64 (List.replicate k 0)) ∧ Below w.heap.size w wr) (fun _ i _ => 2 * f - (intOf i).toNat)
  case atStart => exact ⟨0, by omega, rfl, World.ownsRow_nil _ _ _ _, Below.refl _ _⟩
  case round =>
    obtain ⟨k, hk, rfl, ho, hbl⟩ := hrel
    have hB : w.heap.size ≤ wr.heap.size := hbl.size
    have hN : k + 1 ≤ 1099511627776 := by omega
    by_cases hlt : k < 2 * f
    · go_wp2_with (at_builtin; refine wpList_append_new slU64 rfl _ _ rfl w.heap.size _ _ 1 _ _ _ ho rfl rfl rfl rfl hN (by decide) hB ?_; intro v' w1 hown1 hg1)
      go_roundw
      case rel => exact ⟨k + 1, by omega, by go_num, by rw [List.replicate_succ', ints_append]; exact hown1, below_grown hbl hB ho hg1⟩
      case measure => simp [intOf] <;> omega
    · obtain rfl : k = 2 * f := by omega
      go_wp2_with (at_builtin; refine wpList_append_new slU64 rfl _ _ rfl w.heap.size _ _ 1 _ _ _ ho rfl rfl rfl rfl hN (by decide) hB ?_; intro v' w1 hown1 hg1)
      have hgoal : IRow w1 .u64 v' (Sha.goal p f) := by
        refine own_irow (base := w.heap.size) (e := 42) (n := 2 * f + 1) ?_
        rw [Sha.goal, ints_append]; exact hown1
      have hbl1 : Below w.heap.size w w1 := below_grown hbl hB ho hg1
      have hB1 : w.heap.size ≤ w1.heap.size := hbl1.size
      clear hown1 hg1 ho hN hB hbl hlt
      have HG := Lib.hid hgoal; clear hgoal
      have hlen := Sha.goal_len p f
      have hsm := Sha.goal_small (f := f) hp
      have HH := Lib.hid (And.intro hlen hsm); clear hlen hsm
      go_loopw [7, 8, 9, 10, 11] (fun x b _ _ _ wr2 => ∃ (X B n : Nat), X + 2 * B ≤ 137438953472 ∧ B < 2 ^ n ∧ x = .int .u64 X ∧ b = .int .u64 B ∧ Sha.rootFrom p f X n B = Sha.rootFrom p f 0 37 68719476736 ∧ Below w1.heap.size w1 wr2)
        (fun _ b _ _ _ _ => (intOf b).toNat)
      case atStart => exact ⟨0, 68719476736, 37, by omega, by decide, rfl, rfl, rfl, Below.refl _ _⟩
      case round =>
        obtain ⟨X, B, n, h1, h2, rfl, rfl, h3, hb2⟩ := hrel
        by_cases hB0 : 0 < B
        · obtain ⟨n', rfl⟩ : ∃ n', n = n' + 1 := by
            cases n with
            | zero => omega
            | succ n => exact ⟨n, rfl⟩
          have hB2 : B / 2 < 2 ^ n' := by rw [Nat.pow_succ] at h2; omega
          rw [Sha.rootFrom] at h3
          have HR := Lib.hid h3; clear h3 h2
          have HB := Lib.hid hB2; clear hB2
          have hds : Sha.Small (Sha.digits (X + B)) := Sha.digits_small (by omega)
          have hdl : (Sha.digits (X + B)).length = 3 := rfl
          have HD := Lib.hid (And.intro hds hdl); clear hds hdl
          have HG2 := Lib.hid (IRow.over HG.out hb2)
          obtain ⟨wo, rfl⟩ : ∃ wo : World, wo = wr := ⟨_, rfl⟩
          have HE : Hid (((X : Int) + (B : Int)).toNat = X + B) := by unfold Hid; omega
          go_wp2_with (go_at_call 17; refine (digits_any _ _ (by omega) (by omega)).mono ?_; rintro e w' ⟨v, rfl, hd, hbd⟩)
          rw [HE.out] at hd
          have hall : IRow w' .u64 v (Sha.pow (Sha.digits (X + B)) 0) := hd
          have HA := Lib.hid hall; clear hall
          have HD2 := Lib.hid hd; clear hd
          go_loopw [10, 11] (fun av i wr3 => ∃ k : Nat, 1 ≤ k ∧ k ≤ f ∧ i = .int .i64 k ∧ IRow wr3 .u64 av (Sha.pow (Sha.digits (X + B)) (k - 1)) ∧ Below w'.heap.size w' wr3) (fun _ i _ => f - (intOf i).toNat)
          case atStart => exact ⟨1, by omega, by omega, rfl, HA.out, Below.refl _ _⟩
          case round =>
            obtain ⟨k, hk1, hk, rfl, ha, hb3⟩ := hrel
            have hpl := Sha.pow_len (Sha.digits (X + B)) (k - 1)
            have hps := Sha.pow_small HD.out.1 (k - 1)
            rw [HD.out.2, show k - 1 + 1 = k by omega] at hpl
            have hds := HD.out.1
            have hdl := HD.out.2
            have hd := HD2.out.over hb3
            by_cases hlt : k < f
            · have HT := Lib.hid (times_any _ v _ _ wr ha hd (by omega) (by omega) hps hds)
              have HP : Hid (Sha.times (Sha.pow (Sha.digits (X + B)) (k - 1)) (Sha.digits (X + B)) = Sha.pow (Sha.digits (X + B)) (k + 1 - 1)) := by
                unfold Hid
                rw [show k + 1 - 1 = (k - 1) + 1 by omega]; rfl
              clear hpl hps hds hdl ha hd
              go_wp2_with (go_at_call 18; refine (HT.out).mono ?_; rintro e w'' ⟨v2, rfl, ht, hbt⟩)
              go_roundw
              case rel => exact ⟨k + 1, by omega, by omega, by go_num, by rw [← HP.out]; exact ht, hb3.trans (hbt.mono hb3.size)⟩
              case measure => simp [intOf] <;> omega
            · obtain rfl : k = f := by omega
              have hg : IRow wr .u64 v' (Sha.goal p k) := (HG2.out.over hbd).over hb3
              have hgl := HH.out.1
              have hgs := HH.out.2
              have HV := Lib.hid (above_any _ v' _ _ wr ha hg (by omega) (by omega))
              have hbl3 : Below w1.heap.size w1 wr := (hb2.trans (hbd.mono hb2.size)).trans (hb3.mono (Nat.le_trans hb2.size hbd.size))
              clear hpl hps hds hdl ha hd hg hgl hgs
              cases hab : Sha.above (Sha.pow (Sha.digits (X + B)) (k - 1)) (Sha.goal p k)
              · rw [hab] at HV HR
                have HAB := Lib.hid hab; clear hab
                go_wp2_with (go_at_call 19; refine (HV.out).mono ?_; rintro e w'' ⟨rfl, m, rfl⟩)
                go_roundw
                case rel => exact ⟨X + B, B / 2, n', by omega, HB.out, by simp, by simp, HR.out, below_drewN hbl3 m⟩
                case measure => simp [intOf] <;> omega
              · rw [hab] at HV HR
                have HAB := Lib.hid hab; clear hab
                go_wp2_with (go_at_call 19; refine (HV.out).mono ?_; rintro e w'' ⟨rfl, m, rfl⟩)
                go_roundw
                case rel => exact ⟨X, B / 2, n', by omega, HB.out, rfl, by simp, HR.out, below_drewN hbl3 m⟩
                case measure => simp [intOf] <;> omega
        · obtain rfl : B = 0 := by omega
          rw [Sha.rootFrom_zero] at h3
          have HX : Hid (Sha.root p f = X % 4294967296) := by rw [h3]; exact Sha.root_def _ _
          clear h3 h2
          go_wp2
          go_ret
          exact ⟨ret_int (by rw [HX.out]; simp), hbl1.trans (hb2.mono hB1)⟩

theorem primes_small : ∀ j, j < 64 → nth Sha.primes j < 65536 := by
  rw [Sha.primes_eq]; decide +kernel
theorem take_map_snoc {l : List Nat} {g : Nat → Nat} {k : Nat} (h : k < l.length) : (l.take (k + 1)).map g = (l.take k).map g ++ [g (nth l k)] := by
  rw [List.take_succ_eq_append_getElem h, List.map_append]
  simp [nth, h]

set_option maxHeartbeats 1000000 in
theorem table_any (w : World) :
    Calls Tryd.prog 7 #[] w fun e w' => ∃ v1 v2, e = .returned (.tuple #[v1, v2]) ∧ IRow w' .u32 v1 Sha.K0 ∧ IRow w' .u32 v2 Sha.H0.list ∧ Below w.heap.size w w' := by
  go_enter Tryd.func7, Tryd.ntmps7
  go_wp2_with (go_at_call 12; refine (primes_any _).mono ?_; rintro e w' ⟨v, rfl, hp, hbp⟩)
  have HP := Lib.hid hp; clear hp
  obtain ⟨a, cap, hv, _, _, hc⟩ := HP.out.form
  rw [Sha.primes_len] at hv hc
  subst hv
  obtain ⟨b, off, rfl, hb, hc⟩ := hc.resolve_left (by decide)
  have HC := Lib.hid hc; clear hc
  go_loopw [2, 5] (fun v i wr => ∃ k : Nat, k ≤ 64 ∧ i = .int .i64 k ∧ wr.ownsRow w'.heap.size 40 1 v k (ints .u32 ((Sha.primes.take k).map fun p => Sha.root p 3)) ∧ Below w'.heap.size w' wr) (fun _ i _ => 64 - (intOf i).toNat)
  case atStart => exact ⟨0, by omega, rfl, World.ownsRow_nil _ _ _ _, Below.refl _ _⟩
  case round =>
    obtain ⟨k, hk, rfl, ho, hbl⟩ := hrel
    have hB : w'.heap.size ≤ wr.heap.size := hbl.size
    have hN : k + 1 ≤ 1099511627776 := by omega
    by_cases hlt : k < 64
    · have hcell : wr.cell? ⟨b, off + k, none⟩ = some (.int .u64 (nth Sha.primes k : Nat)) := (hbl.cell (p := ⟨b, off + k, none⟩) hb).trans (HC.out k hlt)
      have HR := Lib.hid (root_any (nth Sha.primes k) 3 wr (primes_small k hlt) (by decide) (by decide))
      have hts := take_map_snoc (l := Sha.primes) (g := fun p => Sha.root p 3) (k := k) (by rw [Sha.primes_len]; exact hlt)
      have HT := Lib.hid hts; clear hts
      have HO := Lib.hid ho; clear ho
      go_wp2_with fail
      refine (HR.out).mono ?_
      rintro e w2 ⟨rfl, hb2⟩
      have ho2 : w2.ownsRow w'.heap.size 40 1 u2 k (ints .u32 ((Sha.primes.take k).map fun p => Sha.root p 3)) :=
        HO.out.kept (row := none) ⟨hb2.os, hb2.tape, hb2.output, hb2.size, fun k hk _ => hb2.block k hk⟩ (by cases h : u2.ownBlock <;> simp)
      have hB2 : w'.heap.size ≤ w2.heap.size := Nat.le_trans hB hb2.size
      have hbl2 : Below w'.heap.size w' w2 := hbl.trans (hb2.mono hB)
      go_wp2_with (at_builtin; refine wpList_append_new slU32 rfl _ _ rfl w'.heap.size _ _ 1 _ _ _ ho2 rfl rfl rfl rfl hN (by decide) hB2 ?_; intro v' w1 hown1 hg1)
      go_roundw
      case rel => exact ⟨k + 1, by omega, by go_num, by rw [HT.out, ints_append]; exact hown1, below_grown hbl2 hB2 ho2 hg1⟩
      case measure => simp [intOf] <;> omega
    · obtain rfl : k = 64 := by omega
      have hK : IRow wr .u32 u2 Sha.K0 := by
        have h1 := own_irow ho
        rw [List.take_of_length_le (by rw [Sha.primes_len]; exact Nat.le_refl _)] at h1
        rw [← Sha.tableK_eq, Sha.tableK]
        exact h1
      have HK := Lib.hid hK; clear hK ho hN hB hlt
      obtain ⟨wo, rfl⟩ : ∃ wo : World, wo = wr := ⟨_, rfl⟩
      have hbo : b < wo.heap.size := Nat.lt_of_lt_of_le hb hbl.size
      have HC2 := Lib.hid (fun k (hk : k < 64) => (hbl.cell (p := ⟨b, off + k, none⟩) hb).trans (HC.out k hk))
      go_wp2
      go_loopw [3, 6] (fun v i wr => ∃ k : Nat, k ≤ 8 ∧ i = .int .i64 k ∧ wr.ownsRow wo.heap.size 40 1 v k (ints .u32 ((Sha.primes.take k).map fun p => Sha.root p 2)) ∧ Below wo.heap.size wo wr) (fun _ i _ => 8 - (intOf i).toNat)
      case atStart => exact ⟨0, by omega, rfl, World.ownsRow_nil _ _ _ _, Below.refl _ _⟩
      case round =>
        obtain ⟨k, hk, rfl, ho, hbl2⟩ := hrel
        have hB : wo.heap.size ≤ wr.heap.size := hbl2.size
        have hN : k + 1 ≤ 1099511627776 := by omega
        by_cases hlt : k < 8
        · have hcell : wr.cell? ⟨b, off + k, none⟩ = some (.int .u64 (nth Sha.primes k : Nat)) := (hbl2.cell (p := ⟨b, off + k, none⟩) hbo).trans (HC2.out k (by omega))
          have HR := Lib.hid (root_any (nth Sha.primes k) 2 wr (primes_small k (by omega)) (by decide) (by decide))
          have hts := take_map_snoc (l := Sha.primes) (g := fun p => Sha.root p 2) (k := k) (by rw [Sha.primes_len]; omega)
          have HT := Lib.hid hts; clear hts
          have HO := Lib.hid ho; clear ho
          go_wp2_with fail
          refine (HR.out).mono ?_
          rintro e w2 ⟨rfl, hb2⟩
          have ho2 : w2.ownsRow wo.heap.size 40 1 u3 k (ints .u32 ((Sha.primes.take k).map fun p => Sha.root p 2)) :=
            HO.out.kept (row := none) ⟨hb2.os, hb2.tape, hb2.output, hb2.size, fun k hk _ => hb2.block k hk⟩ (by cases h : u3.ownBlock <;> simp)
          have hB2 : wo.heap.size ≤ w2.heap.size := Nat.le_trans hB hb2.size
          have hbl3 : Below wo.heap.size wo w2 := hbl2.trans (hb2.mono hB)
          go_wp2_with (at_builtin; refine wpList_append_new slU32 rfl _ _ rfl wo.heap.size _ _ 1 _ _ _ ho2 rfl rfl rfl rfl hN (by decide) hB2 ?_; intro v' w1 hown1 hg1)
          go_roundw
          case rel => exact ⟨k + 1, by omega, by go_num, by have h := hown1; (rw [show [Value.int IntKind.u32 ((Sha.root (nth Sha.primes k) 2 : Nat) : Int)] = ints .u32 [Sha.root (nth Sha.primes k) 2] from rfl, ← ints_append, ← HT.out] at h); simpa using h, below_grown hbl3 hB2 ho2 hg1⟩
          case measure => simp [intOf] <;> omega
        · obtain rfl : k = 8 := by omega
          have hH : IRow wr .u32 u3 Sha.H0.list := by
            have h1 := own_irow ho
            rw [← Sha.tableH_eq, Sha.tableH]
            exact h1
          have HH := Lib.hid hH; clear hH ho
          go_wp2
          go_ret2
          exact ⟨_, _, rfl, HK.out.over hbl2, HH.out, (hbp.trans (hbl.mono hbp.size)).trans (hbl2.mono (Nat.le_trans hbp.size hbl.size))⟩
end Go.Proofs.YtloehmcfmjbidaaDoor
