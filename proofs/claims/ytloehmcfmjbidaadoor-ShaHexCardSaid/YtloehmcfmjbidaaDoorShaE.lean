/- Contract of the block by definition. -/
import Derived.Test.YtloehmcfmjbidaaDoorShaD
namespace Go.Proofs.YtloehmcfmjbidaaDoor
open Go Go.RowKit

theorem xor3 {a b c : Nat} (ha : a < 4294967296) (hb : b < 4294967296) (hc : c < 4294967296) : bits .xor .u32 (bits .xor .u32 (a : Int) (b : Int)) (c : Int) = ((a ^^^ b ^^^ c : Nat) : Int) := by
  rw [xor_u32 ha hb, xor_u32 (Sha.xor_lt ha hb) hc]
theorem sig0_bits {x : Nat} (h : x < 4294967296) : bits .xor .u32 (bits .xor .u32 (Sha.rotr x 7 : Nat) (Sha.rotr x 18 : Nat)) ((x : Int) / 8) = ((Sha.sig0 x : Nat) : Int) := by
  have : (x : Int) / 8 = ((x / 8 : Nat) : Int) := by omega
  rw [this]
  exact xor3 (Sha.rotr_lt h (by decide)) (Sha.rotr_lt h (by decide)) (by omega)
theorem sig1_bits {x : Nat} (h : x < 4294967296) : bits .xor .u32 (bits .xor .u32 (Sha.rotr x 17 : Nat) (Sha.rotr x 19 : Nat)) ((x : Int) / 1024) = ((Sha.sig1 x : Nat) : Int) := by
  have : (x : Int) / 1024 = ((x / 1024 : Nat) : Int) := by omega
  rw [this]
  exact xor3 (Sha.rotr_lt h (by decide)) (Sha.rotr_lt h (by decide)) (by omega)
theorem big0_bits {x : Nat} (h : x < 4294967296) : bits .xor .u32 (bits .xor .u32 (Sha.rotr x 2 : Nat) (Sha.rotr x 13 : Nat)) (Sha.rotr x 22 : Nat) = ((Sha.big0 x : Nat) : Int) :=
  xor3 (Sha.rotr_lt h (by decide)) (Sha.rotr_lt h (by decide)) (Sha.rotr_lt h (by decide))
theorem big1_bits {x : Nat} (h : x < 4294967296) : bits .xor .u32 (bits .xor .u32 (Sha.rotr x 6 : Nat) (Sha.rotr x 11 : Nat)) (Sha.rotr x 25 : Nat) = ((Sha.big1 x : Nat) : Int) :=
  xor3 (Sha.rotr_lt h (by decide)) (Sha.rotr_lt h (by decide)) (Sha.rotr_lt h (by decide))
theorem cho_bits {e f g : Nat} (he : e < 4294967296) (hf : f < 4294967296) (hg : g < 4294967296) : bits .xor .u32 (bits .and .u32 (e : Int) (f : Int)) (bits .and .u32 ((4294967295 - e : Nat) : Int) (g : Int)) = ((Sha.cho e f g : Nat) : Int) := by
  rw [and_u32 he hf, and_u32 (by omega) hg, xor_u32 (Sha.and_lt hf) (Sha.and_lt hg)]; rfl
theorem cho_bits' {e f g : Nat} (he : e < 4294967296) (hf : f < 4294967296) (hg : g < 4294967296) : bits .xor .u32 (bits .and .u32 (e : Int) (f : Int)) (bits .and .u32 (4294967295 - (e : Int)) (g : Int)) = ((Sha.cho e f g : Nat) : Int) := by
  rw [← cho_bits he hf hg, show (4294967295 - (e : Int)) = ((4294967295 - e : Nat) : Int) by omega]
theorem maj_bits {a b c : Nat} (ha : a < 4294967296) (hb : b < 4294967296) (hc : c < 4294967296) : bits .xor .u32 (bits .xor .u32 (bits .and .u32 (a : Int) (b : Int)) (bits .and .u32 (a : Int) (c : Int))) (bits .and .u32 (b : Int) (c : Int)) = ((Sha.maj a b c : Nat) : Int) := by
  rw [and_u32 ha hb, and_u32 ha hc, and_u32 hb hc]
  exact xor3 (Sha.and_lt hb) (Sha.and_lt hc) (Sha.and_lt hc)
theorem sched_small {b : List Nat} {k : Nat} (h : k < 16) : Sha.sched b (k + 1) = Sha.sched b k ++ [Sha.word b k] := by rw [Sha.sched, if_pos h]

set_option maxHeartbeats 4000000 in
set_option maxRecDepth 100000 in
theorem rblock_any (kv hv bv : Value) (K b : List Nat) (h : Sha.St) (w : World) (hK : IRow w .u32 kv K) (hH : IRow w .u32 hv h.list) (hb : IRow w .u8 bv b) (lK : K.length = 64) (lb : b.length = 64)
    (wK : Sha.Words K) (oh : Sha.Ok h) (sb : Sha.Bytes b) :
    Calls Tryd.prog 16 #[kv, hv, bv] w fun e w' => ∃ v', e = .returned v' ∧ IRow w' .u32 v' (Sha.block K h b).list ∧ Below w.heap.size w w' := by
  obtain ⟨aK, cK, rfl, _, _, hcK⟩ := hK.form
  obtain ⟨aH, cH, rfl, _, _, hcH⟩ := hH.form
  obtain ⟨aB, cB, rfl, _, _, hcB⟩ := hb.form
  rw [lK] at hcK ⊢
  rw [lb] at hcB ⊢
  rw [show h.list.length = 8 from rfl] at hcH ⊢
  replace hcK := hcK.resolve_left (by decide)
  replace hcH := hcH.resolve_left (by decide)
  replace hcB := hcB.resolve_left (by decide)
  obtain ⟨bK, oK, rfl, sK, hcK⟩ := hcK
  obtain ⟨bH, oH, rfl, sH, hcH⟩ := hcH
  obtain ⟨bB, oB, rfl, sB, hcB⟩ := hcB
  have HcK := Lib.hid hcK
  have HcH := Lib.hid hcH
  have HcB := Lib.hid hcB
  have HH := Lib.hid hH
  clear hcK hcH hcB lK lb hK hH hb
  go_enter Tryd.func16, Tryd.ntmps16
  go_wp2
  go_loopw [7, 8] (fun v i wr => ∃ k : Nat, k ≤ 16 ∧ i = .int .i64 k ∧ wr.ownsRow w.heap.size 40 1 v k (ints .u32 (Sha.sched b k)) ∧ Below w.heap.size w wr) (fun _ i _ => 16 - (intOf i).toNat)
  case atStart => exact ⟨0, by omega, rfl, by rw [Sha.sched_zero]; exact World.ownsRow_nil _ _ _ _, Below.refl _ _⟩
  case round =>
    obtain ⟨k, hk, rfl, ho, hbl⟩ := hrel
    by_cases hlt : k < 16
    · have hB : w.heap.size ≤ wr.heap.size := hbl.size
      have hN : k + 1 ≤ 1099511627776 := by omega
      have sB' : bB < wr.heap.size := Nat.lt_of_lt_of_le sB hB
      have c0 : wr.cell? ⟨bB, oB + 4 * k, none⟩ = some (.int .u8 (nth b (4 * k) : Nat)) := (hbl.cell (p := ⟨bB, _, none⟩) sB).trans (HcB.out _ (by omega))
      have c1 : wr.cell? ⟨bB, oB + (4 * k + 1), none⟩ = some (.int .u8 (nth b (4 * k + 1) : Nat)) := (hbl.cell (p := ⟨bB, _, none⟩) sB).trans (HcB.out _ (by omega))
      have c2 : wr.cell? ⟨bB, oB + (4 * k + 2), none⟩ = some (.int .u8 (nth b (4 * k + 2) : Nat)) := (hbl.cell (p := ⟨bB, _, none⟩) sB).trans (HcB.out _ (by omega))
      have c3 : wr.cell? ⟨bB, oB + (4 * k + 3), none⟩ = some (.int .u8 (nth b (4 * k + 3) : Nat)) := (hbl.cell (p := ⟨bB, _, none⟩) sB).trans (HcB.out _ (by omega))
      have HW : Hid (Sha.word b k = nth b (4 * k) * 16777216 + nth b (4 * k + 1) * 65536 + nth b (4 * k + 2) * 256 + nth b (4 * k + 3)) := rfl
      have b0 := sb (4 * k)
      have b1 := sb (4 * k + 1)
      have b2 := sb (4 * k + 2)
      have b3 := sb (4 * k + 3)
      have HS := Lib.hid (sched_small (b := b) hlt)
      have HO := Lib.hid ho; clear ho
      go_wp2
      refine wp_region_lex (C := IsOver wr) 35 [] (by kernel_rfl) (by kernel_rfl) (isOver_drew _) ?_
      simp only [List.take_succ_cons, List.take_zero, List.drop_succ_cons, List.drop_zero]
      repeat (first | (refine lex_one rfl ?_; go_big_quiet_step (fail); refine wpQuiet_nil ?_))
      refine lex_loud rfl ?_
      go_wp2_with fail
      refine ⟨isOver_of ((Below.refl _ _).alloc (Nat.le_refl _) _).drew, ?_⟩
      refine lex_end ?_
      go_wp2_with (at_builtin; refine wpList_append_newD slU32 rfl _ _ rfl w.heap.size _ _ (drawn_drew _) 1 _ _ _ HO.out rfl rfl rfl rfl hN (by decide) hB ?_; intro v' w1 hown1 hg1)
      go_roundw
      case rel => exact ⟨k + 1, by omega, by go_num, by rw [HS.out, ints_append, HW.out]; simpa [ints] using hown1, below_grown hbl hB HO.out hg1⟩
      case measure => simp [intOf] <;> omega
    · obtain rfl : k = 16 := by omega
      have HO := Lib.hid ho; clear ho
      obtain ⟨wo, rfl⟩ : ∃ wo : World, wo = wr := ⟨_, rfl⟩
      go_wp2
      go_loopw [7, 9, 10, 11] (fun v i _ _ wr => ∃ k : Nat, 16 ≤ k ∧ k ≤ 64 ∧ i = .int .i64 k ∧ wr.ownsRow w.heap.size 40 1 v k (ints .u32 (Sha.sched b k)) ∧ Below w.heap.size w wr) (fun _ i _ _ _ => 64 - (intOf i).toNat)
      case atStart => exact ⟨16, by omega, by omega, rfl, HO.out, hbl⟩
      case round =>
        obtain ⟨k, hk0, hk, rfl, ho, hbl⟩ := hrel
        by_cases hlt : k < 64
        · have hB : w.heap.size ≤ wr.heap.size := hbl.size
          have hN : k + 1 ≤ 1099511627776 := by omega
          have hl := Sha.sched_len b k
          obtain ⟨aw, cw, hv, _, _, hc⟩ := (own_irow ho).form
          rw [hl] at hv hc
          subst hv
          replace hc := hc.resolve_left (by omega)
          obtain ⟨bw, ow, rfl, sw, hc⟩ := hc
          have c16 : wr.cell? ⟨bw, ow + (k - 16), none⟩ = some (.int .u32 (nth (Sha.sched b k) (k - 16) : Nat)) := hc _ (by omega)
          have c15 : wr.cell? ⟨bw, ow + (k - 15), none⟩ = some (.int .u32 (nth (Sha.sched b k) (k - 15) : Nat)) := hc _ (by omega)
          have c7 : wr.cell? ⟨bw, ow + (k - 7), none⟩ = some (.int .u32 (nth (Sha.sched b k) (k - 7) : Nat)) := hc _ (by omega)
          have c2 : wr.cell? ⟨bw, ow + (k - 2), none⟩ = some (.int .u32 (nth (Sha.sched b k) (k - 2) : Nat)) := hc _ (by omega)
          have HO := Lib.hid ho
          have HS := Lib.hid (Sha.sched_big (b := b) hk0)
          have hW := Sha.sched_words sb k
          have h16 := hW (k - 16)
          have h15 := hW (k - 15)
          have h7 := hW (k - 7)
          have h2 := hW (k - 2)
          have HX : Hid (Sha.wnext (Sha.sched b k) k = (nth (Sha.sched b k) (k - 16) + nth (Sha.sched b k) (k - 7) + Sha.sig0 (nth (Sha.sched b k) (k - 15)) + Sha.sig1 (nth (Sha.sched b k) (k - 2))) % 4294967296) := rfl
          clear hc ho hl hW
          generalize nth (Sha.sched b k) (k - 16) = x16 at *
          generalize nth (Sha.sched b k) (k - 15) = x15 at *
          generalize nth (Sha.sched b k) (k - 7) = x7 at *
          generalize nth (Sha.sched b k) (k - 2) = x2 at *
          go_wp2
          refine wp_region_lex (C := IsOver wr) 31 [] (by kernel_rfl) (by kernel_rfl) (isOver_of (by repeat (first | exact Below.refl _ _ | apply Below.drew | apply below_drewN | (refine Below.alloc ?_ (by simp) _)))) ?_
          simp only [List.take_succ_cons, List.take_zero, List.drop_succ_cons, List.drop_zero]
          repeat (first | (refine lex_one rfl ?_; go_big_quiet_step (fail); refine wpQuiet_nil ?_) | (refine lex_loud rfl ?_; go_wp2_with (first | (go_at_call 22; refine (rright_call _ _ _ (by omega) (by omega) (by omega)).mono ?_; rintro e w' ⟨rfl, m, rfl⟩) | (go_at_call 23; refine (down_call _ _ _ (by omega) (by omega) (by omega)).mono ?_; rintro e w' ⟨rfl, m, rfl⟩)); refine ⟨(isOver_of (by repeat (first | exact Below.refl _ _ | apply Below.drew | apply below_drewN | (refine Below.alloc ?_ (by simp) _)))), ?_⟩))
          refine lex_end ?_
          go_wp2_with (at_builtin; (first | refine wpList_append_newD slU32 rfl _ _ rfl w.heap.size _ _ (drawn_alloc_drewN _ _ _) 1 _ _ _ HO.out rfl rfl rfl rfl hN (by decide) hB ?_ | refine wpList_append_newD slU32 rfl _ _ rfl w.heap.size _ _ (drawn_drew _) 1 _ _ _ HO.out rfl rfl rfl rfl hN (by decide) hB ?_ | refine wpList_append_newD slU32 rfl _ _ rfl w.heap.size _ _ (drawn_drewN _ _) 1 _ _ _ HO.out rfl rfl rfl rfl hN (by decide) hB ?_ | refine wpList_append_newD slU32 rfl _ _ rfl w.heap.size _ _ (drawn_refl _) 1 _ _ _ HO.out rfl rfl rfl rfl hN (by decide) hB ?_); intro v' w1 hown1 hg1)
          go_roundw
          case rel => exact ⟨k + 1, by omega, by omega, by go_num, by rw [HS.out, ints_append, HX.out]; have h := hown1; rw [sig0_bits h15, sig1_bits h2] at h; simpa [ints] using h, below_grown hbl hB HO.out hg1⟩
          case measure => simp [intOf] <;> omega
        · obtain rfl : k = 64 := by omega
          have hw : IRow wr .u32 u7 (Sha.sched b 64) := own_irow ho
          obtain ⟨aw, cw, hvw, _, _, hcw⟩ := hw.form
          rw [Sha.sched_len] at hvw hcw
          subst hvw
          replace hcw := hcw.resolve_left (by decide)
          obtain ⟨bw, ow, rfl, sw, hcw⟩ := hcw
          have HcW := Lib.hid hcw
          clear ho hw HO hlt hcw
          obtain ⟨wo2, rfl⟩ : ∃ wo2 : World, wo2 = wr := ⟨_, rfl⟩
          have hN8 : 0 + h.list.length ≤ 1099511627776 := by rw [show h.list.length = 8 from rfl]; decide
          have hn := World.ownsRow_nil wo2 wo2.heap.size 40 1
          have HH2 : Hid (IRow wo2 .u32 (.slice (some ⟨bH, oH, none⟩) 8 cH) h.list) := HH.out.below (Nat.le_refl _) hbl
          go_wp2_with (at_builtin; refine wpList_append_old slU32 rfl _ _ rfl wo2.heap.size _ _ _ hn rfl _ _ _ HH2.out rfl (ints_one _ _) hN8 (by decide) (Nat.le_refl _) ?_; intro v3 w3 ho3 hg3)
          have hb3 : Below wo2.heap.size wo2 w3 := below_grown (Below.refl _ _) (Nat.le_refl _) hn hg3
          have hs3 : IRow w3 .u32 v3 h.list := own_irow ho3
          have HS3 := Lib.hid hs3
          clear ho3 hg3 hs3 hN8 hn
          go_loopw [12, 13, 14, 15, 16, 17, 18, 19, 20] (fun v i _ _ _ _ _ _ _ wr => ∃ k : Nat, k ≤ 64 ∧ i = .int .i64 k ∧ IRow wr .u32 v (Sha.rounds K (Sha.sched b 64) h k).list ∧ Below w3.heap.size w3 wr) (fun _ i _ _ _ _ _ _ _ _ => 64 - (intOf i).toNat)
          case atStart => exact ⟨0, by omega, rfl, by rw [Sha.rounds_zero]; exact HS3.out, Below.refl _ _⟩
          case round =>
            obtain ⟨k, hk, rfl, hs, hbl4⟩ := hrel
            obtain ⟨aS, cS, hv, _, _, hc⟩ := hs.form
            rw [show ((Sha.rounds K (Sha.sched b 64) h k).list.length) = 8 from rfl] at hv hc
            subst hv
            replace hc := hc.resolve_left (by decide)
            obtain ⟨bS, oS, rfl, sS, hc⟩ := hc
            have hblw : Below w.heap.size w wr := ((hbl.trans (hb3.mono hbl.size)).trans (hbl4.mono (Nat.le_trans hbl.size hb3.size)))
            have HC := Lib.hid hc
            clear hc
            go_wp2
            · have hlt : k < 64 := by omega
              have hc := HC.out
              have hblo : Below wo2.heap.size wo2 wr := below_over hb3 hb3.size hbl4
              have cW := (hblo.cell (p := ⟨bw, ow + k, none⟩) sw).trans (HcW.out k hlt)
              have sw' : bw < wr.heap.size := Nat.lt_of_lt_of_le sw hblo.size
              have sK' : bK < wr.heap.size := Nat.lt_of_lt_of_le sK hblw.size
              have cK := (hblw.cell (p := ⟨bK, oK + k, none⟩) sK).trans (HcK.out k hlt)
              have hok := Sha.rounds_ok oh wK (Sha.sched_words sb 64) k
              have HR := Lib.hid (Sha.round_k K (Sha.sched b 64) h k)
              have hwk := Sha.sched_words sb 64 k
              have hKk := wK k
              generalize Sha.rounds K (Sha.sched b 64) h k = s at *
              have s0 := hc 0 (by decide)
              have s1 := hc 1 (by decide)
              have s2 := hc 2 (by decide)
              have s3 := hc 3 (by decide)
              have s4 := hc 4 (by decide)
              have s5 := hc 5 (by decide)
              have s6 := hc 6 (by decide)
              have s7 := hc 7 (by decide)
              simp only [Sha.list_nth, Sha.St.nth, Nat.add_zero] at s0 s1 s2 s3 s4 s5 s6 s7
              clear hc hs
              generalize nth (Sha.sched b 64) k = W at *
              generalize nth K k = KK at *
              have oa := hok.a
              have ob := hok.b
              have oc := hok.c
              have od := hok.d
              have oe := hok.e
              have of' := hok.f
              have og := hok.g
              have oh' := hok.h
              clear hok
              refine wp_region_lex (C := IsOver wr) 20 [] (by kernel_rfl) (by kernel_rfl) (isOver_of (by repeat (first | exact Below.refl _ _ | apply Below.drew | apply below_drewN | (refine Below.alloc ?_ (by simp) _)))) ?_
              simp only [List.take_succ_cons, List.take_zero, List.drop_succ_cons, List.drop_zero]
              repeat (first | (refine lex_one rfl ?_; go_big_quiet_step (fail); refine wpQuiet_nil ?_))
              refine lex_end ?_
              go_wp2
              refine wp_region_lex (C := IsOver wr) 32 [] (by kernel_rfl) (by kernel_rfl) (isOver_of (by repeat (first | exact Below.refl _ _ | apply Below.drew | apply below_drewN | (refine Below.alloc ?_ (by simp) _)))) ?_
              simp only [List.take_succ_cons, List.take_zero, List.drop_succ_cons, List.drop_zero]
              repeat (first | (refine lex_one rfl ?_; go_big_quiet_step (fail); refine wpQuiet_nil ?_) | (refine lex_loud rfl ?_; go_wp2_with (go_at_call 22; refine (rright_call _ _ _ (by omega) (by omega) (by omega)).mono ?_; rintro e w' ⟨rfl, m, rfl⟩); refine ⟨(isOver_of (by repeat (first | exact Below.refl _ _ | apply Below.drew | apply below_drewN | (refine Below.alloc ?_ (by simp) _)))), ?_⟩))
              refine lex_end ?_
              go_wp2_with fail
              rw [big1_bits oe, cho_bits' oe of' og, Sha.t1_eq]
              refine wp_region_lex (C := IsOver wr) 25 [] (by kernel_rfl) (by kernel_rfl) (isOver_of (by repeat (first | exact Below.refl _ _ | apply Below.drew | apply below_drewN | (refine Below.alloc ?_ (by simp) _)))) ?_
              simp only [List.take_succ_cons, List.take_zero, List.drop_succ_cons, List.drop_zero]
              repeat (first | (refine lex_one rfl ?_; go_big_quiet_step (fail); refine wpQuiet_nil ?_) | (refine lex_loud rfl ?_; go_wp2_with (go_at_call 22; refine (rright_call _ _ _ (by omega) (by omega) (by omega)).mono ?_; rintro e w' ⟨rfl, m, rfl⟩); refine ⟨(isOver_of (by repeat (first | exact Below.refl _ _ | apply Below.drew | apply below_drewN | (refine Below.alloc ?_ (by simp) _)))), ?_⟩))
              refine lex_end ?_
              go_wp2_with fail
              rw [big0_bits oa, maj_bits oa ob oc, Sha.t2_eq]
              have t1lt := Sha.t1_lt s KK W
              have t2lt := Sha.t2_lt s
              have HI : Hid (∀ (cs : Array Value) (wx : World), (∃ n, Drawn (wr.alloc (.cells cs 40)) wx ∧ n = 0) → cs.toList = ints .u32 (Sha.round s KK W).list → IRow wx .u32 (.slice (some ⟨wr.heap.size, 0, none⟩) 8 8) (Sha.round s KK W).list) := by
                rintro cs wx ⟨_, hd, _⟩ h
                exact irow_new hd rfl h (by decide)
              go_wp2_with fail
              refine wp_region_lex (C := IsOver wr) 18 [] (by kernel_rfl) (by kernel_rfl) (isOver_of (by repeat (first | exact Below.refl _ _ | apply Below.drew | apply below_drewN | (refine Below.alloc ?_ (by simp) _)))) ?_
              simp only [List.take_succ_cons, List.take_zero, List.drop_succ_cons, List.drop_zero]
              repeat (first | (refine lex_one rfl ?_; go_big_quiet_step (fail); refine wpQuiet_nil ?_) | (refine lex_loud rfl ?_; go_wp2_with fail; refine ⟨(isOver_of (by repeat (first | exact Below.refl _ _ | apply Below.drew | apply below_drewN | (refine Below.alloc ?_ (by simp) _)))), ?_⟩))
              refine lex_end ?_
              go_wp2_with fail
              go_roundw
              case rel =>
                refine ⟨k + 1, by omega, by go_num, ?_, (below_drewN hbl4 _).alloc (by simpa using hbl4.size) _⟩
                rw [HR.out]
                exact HI.out _ _ ⟨0, drawn_alloc_drewN _ _ _, rfl⟩ (by simp [Sha.round_a, Sha.St.list, ints])
              case measure => simp [intOf] <;> omega
            · have hke : k = 64 := by omega
              subst hke
              have HBN := Lib.hid (Sha.block_nth K b h)
              have hrn := Sha.ok_nth (Sha.rounds_ok oh wK (Sha.sched_words sb 64) 64)
              have hhn := Sha.ok_nth oh
              have HHn := Lib.hid (And.intro hrn hhn)
              clear hrn hhn
              generalize Sha.rounds K (Sha.sched b 64) h 64 = s at *
              clear hs
              have sH' : bH < wr.heap.size := Nat.lt_of_lt_of_le sH hblw.size
              have HCH : Hid (∀ j, j < 8 → wr.cell? ⟨bH, oH + j, none⟩ = some (.int .u32 (nth h.list j : Nat))) := fun j hj => (hblw.cell (p := ⟨bH, oH + j, none⟩) sH).trans (HcH.out j hj)
              have HL : Hid ((Sha.block K h b).list.length = 8) := rfl
              generalize hLe : (Sha.block K h b).list = L at *
              have HLe := Lib.hid hLe
              clear hLe
              clear wK oh sb
              obtain ⟨wo4, rfl⟩ : ∃ wo4 : World, wo4 = wr := ⟨_, rfl⟩
              go_loopw [21, 22] (fun v i wr => ∃ j : Nat, j ≤ 8 ∧ i = .int .i64 j ∧ wr.ownsRow wo4.heap.size 40 1 v j (ints .u32 (L.take j)) ∧ Below wo4.heap.size wo4 wr) (fun _ i _ => 8 - (intOf i).toNat)
              case atStart => exact ⟨0, by omega, rfl, World.ownsRow_nil _ _ _ _, Below.refl _ _⟩
              case round =>
                obtain ⟨j, hj, rfl, ho, hbl5⟩ := hrel
                have hB : wo4.heap.size ≤ wr.heap.size := hbl5.size
                by_cases hlt : j < 8
                · have hN : j + 1 ≤ 1099511627776 := by omega
                  have cH1 : wr.cell? ⟨bH, oH + j, none⟩ = some (.int .u32 (nth h.list j : Nat)) := (hbl5.cell (p := ⟨bH, oH + j, none⟩) sH').trans (HCH.out j hlt)
                  have cS1 : wr.cell? ⟨bS, oS + j, none⟩ = some (.int .u32 (nth s.list j : Nat)) := (hbl5.cell (p := ⟨bS, oS + j, none⟩) sS).trans (HC.out j hlt)
                  have sH2 : bH < wr.heap.size := Nat.lt_of_lt_of_le sH' hB
                  have sS2 : bS < wr.heap.size := Nat.lt_of_lt_of_le sS hB
                  have e1 := HHn.out.1 j
                  have e2 := HHn.out.2 j
                  have HJ := Lib.hid (HBN.out j hlt)
                  have HT := Lib.hid (Sha.take_snoc_nth (l := L) (k := j) (by have := HL.out; omega))
                  generalize nth h.list j = x1 at *
                  generalize nth s.list j = x2 at *
                  go_wp2_with fail
                  refine wp_region_lex (C := IsOver wr) 11 [] (by kernel_rfl) (by kernel_rfl) (isOver_of (by repeat (first | exact Below.refl _ _ | apply Below.drew | apply below_drewN | (refine Below.alloc ?_ (by simp) _)))) ?_
                  simp only [List.take_succ_cons, List.take_zero, List.drop_succ_cons, List.drop_zero]
                  repeat (first | (refine lex_one rfl ?_; go_big_quiet_step (fail); refine wpQuiet_nil ?_) | (refine lex_loud rfl ?_; go_wp2_with fail; refine ⟨(isOver_of (by repeat (first | exact Below.refl _ _ | apply Below.drew | apply below_drewN | (refine Below.alloc ?_ (by simp) _)))), ?_⟩))
                  refine lex_end ?_
                  go_wp2_with (at_builtin; (first | refine wpList_append_newD slU32 rfl _ _ rfl wo4.heap.size _ _ (drawn_alloc_drewN _ _ _) 1 _ _ _ ho rfl rfl rfl rfl hN (by decide) hB ?_ | refine wpList_append_newD slU32 rfl _ _ rfl wo4.heap.size _ _ (drawn_drew _) 1 _ _ _ ho rfl rfl rfl rfl hN (by decide) hB ?_ | refine wpList_append_newD slU32 rfl _ _ rfl wo4.heap.size _ _ (drawn_drewN _ _) 1 _ _ _ ho rfl rfl rfl rfl hN (by decide) hB ?_ | refine wpList_append_newD slU32 rfl _ _ rfl wo4.heap.size _ _ (drawn_refl _) 1 _ _ _ ho rfl rfl rfl rfl hN (by decide) hB ?_); intro v' w1 hown1 hg1)
                  go_roundw
                  case rel => exact ⟨j + 1, by omega, by go_num, by rw [HT.out, ints_append, HJ.out]; simpa [ints] using hown1, below_grown hbl5 hB ho hg1⟩
                  case measure => simp [intOf] <;> omega
                · obtain rfl : j = 8 := by omega
                  have hfin : IRow wr .u32 u21 L := by
                    have := own_irow ho
                    rwa [List.take_of_length_le (by have := HL.out; omega)] at this
                  have HFin := Lib.hid hfin
                  have HBel := Lib.hid (hblw.trans (hbl5.mono hblw.size))
                  clear hfin ho
                  go_wp2_with fail
                  go_ret
                  exact ⟨u21, rfl, by rw [HLe.out]; exact HFin.out, HBel.out⟩
end Go.Proofs.YtloehmcfmjbidaaDoor
