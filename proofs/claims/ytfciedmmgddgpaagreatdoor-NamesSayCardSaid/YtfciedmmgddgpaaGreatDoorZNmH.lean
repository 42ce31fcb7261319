/- Contract of the example of layer 24. -/
import Derived.Test.YtfciedmmgddgpaaGreatDoorZNmG
namespace Go.Proofs.YtfciedmmgddgpaaGreatDoor
open Go Go.RowKit

theorem balloc2 {w w' : World} (h : Below w.heap.size w w') (o : Obj) : Below w.heap.size w (w'.alloc o) := h.alloc h.size o
def MkRes (a : UInt8) (w : World) (e : Ending) (w' : World) : Prop := ∃ pd cd po co, e = .returned (.tuple #[.agg #[.int .u8 (a.toNat : Int), .int .u16 1, .slice pd 0 cd, .slice po 2 co], .int .i64 0]) ∧ GOwn encPid 2 25 w' w.heap.size (.slice pd 0 cd) [] ∧ GOwn encOp 8 56 w' w.heap.size (.slice po 2 co) (opsX ⟨a, 1⟩) ∧ Below w.heap.size w w'
theorem mkX (a : UInt8) (hd : depsM ⟨a, 1⟩ (opsX ⟨a, 1⟩) = []) (hg : goodQ ⟨a, 1⟩ (depsM ⟨a, 1⟩ (opsX ⟨a, 1⟩)) (opsX ⟨a, 1⟩) = true) (v : Value) (w : World) (hv : GRow encOp 8 w v (opsX ⟨a, 1⟩)) : Calls Tryz.prog 16 #[.agg #[.int .u8 (a.toNat : Int), .int .u16 1], v] w (MkRes a w) := by
  have h := pmake_any ⟨a, 1⟩ v (opsX ⟨a, 1⟩) w hv (by show 2 ≤ 1000; omega) (fun o ho => by
    have : o = ⟨1, noVid, noVid, ⟨#[]⟩⟩ ∨ o = ⟨2, ⟨⟨a, 1⟩, 0⟩, noVid, txA⟩ := by simpa [opsX] using ho
    rcases this with rfl | rfl
    · show 0 ≤ maxLen; omega
    · show 1 ≤ maxLen; unfold maxLen; omega) hg
  refine h.mono ?_
  rintro e w' ⟨pd, cd, po, co, rfl, h1, h2, h3⟩
  rw [hd] at h1 ⊢
  exact ⟨pd, cd, po, co, rfl, h1, h2, h3⟩
theorem rowA (W : World) (b : Nat) (hb : b = W.heap.size) : GRow encOp 8 (W.alloc (.cells #[.int .u8 1, .int .u8 0, .int .u16 0, .int .u8 0, .int .u8 0, .int .u16 0, .int .u8 0, .string ⟨#[]⟩, .int .u8 2, .int .u8 1, .int .u16 1, .int .u8 0, .int .u8 0, .int .u16 0, .int .u8 0, .string ⟨#[97]⟩] 56)) (.slice (some ⟨b, 0, none⟩) 2 2) (opsX ⟨1, 1⟩) := by
  subst hb
  exact (show GOwn encOp 8 56 (W.alloc (.cells #[.int .u8 1, .int .u8 0, .int .u16 0, .int .u8 0, .int .u8 0, .int .u16 0, .int .u8 0, .string ⟨#[]⟩, .int .u8 2, .int .u8 1, .int .u16 1, .int .u8 0, .int .u8 0, .int .u16 0, .int .u8 0, .string ⟨#[97]⟩] 56)) 0 (.slice (some ⟨W.heap.size, 0, none⟩) 2 2) (opsX ⟨1, 1⟩) from own_lit W 56 (opsX ⟨1, 1⟩) 0 rfl (by decide) (Nat.zero_le _)).row
theorem rowB (W : World) (b : Nat) (hb : b = W.heap.size) : GRow encOp 8 (W.alloc (.cells #[.int .u8 1, .int .u8 0, .int .u16 0, .int .u8 0, .int .u8 0, .int .u16 0, .int .u8 0, .string ⟨#[]⟩, .int .u8 2, .int .u8 2, .int .u16 1, .int .u8 0, .int .u8 0, .int .u16 0, .int .u8 0, .string ⟨#[97]⟩] 56)) (.slice (some ⟨b, 0, none⟩) 2 2) (opsX ⟨2, 1⟩) := by
  subst hb
  exact (show GOwn encOp 8 56 (W.alloc (.cells #[.int .u8 1, .int .u8 0, .int .u16 0, .int .u8 0, .int .u8 0, .int .u16 0, .int .u8 0, .string ⟨#[]⟩, .int .u8 2, .int .u8 2, .int .u16 1, .int .u8 0, .int .u8 0, .int .u16 0, .int .u8 0, .string ⟨#[97]⟩] 56)) 0 (.slice (some ⟨W.heap.size, 0, none⟩) 2 2) (opsX ⟨2, 1⟩) from own_lit W 56 (opsX ⟨2, 1⟩) 0 rfl (by decide) (Nat.zero_le _)).row
set_option maxHeartbeats 16000000 in
set_option maxRecDepth 100000 in
theorem works24_any (w : World) (ht : Tab w) : Calls Tryz.prog 5 #[] w fun e w' => e = .returned (.bool true) ∧ Below w.heap.size w w' := by
  have HA := Lib.hid ((arr_new w #[.int .u8 1, .int .u16 1] 25).alloc (.cells #[.int .u8 2, .int .u16 1] 25))
  have HC := Lib.hid (arr_new2 w (.cells #[.int .u8 1, .int .u16 1] 25) #[.int .u8 2, .int .u16 1] 25)
  have HB := Lib.hid (balloc2 (below_new (w := w) (.cells #[.int .u8 1, .int .u16 1] 25)) (.cells #[.int .u8 2, .int .u16 1] 25))
  have HT := Lib.hid ht
  clear ht
  go_enter Tryz.func5, Tryz.ntmps5
  go_upto_region 2 with (fail)
  generalize hw0 : (w.alloc (.cells #[.int .u8 1, .int .u16 1] 25)).alloc (.cells #[.int .u8 2, .int .u16 1] 25) = w0 at *
  clear hw0
  have i0 := HA.out.cell (j := 0) rfl
  have i1 := HA.out.cell (j := 1) rfl
  have si := HA.out.lt
  have HS : Hid (∀ w' : World, Below w0.heap.size w0 w' → (w'.cell? ⟨w.heap.size, 0, none⟩ = some (.int .u8 1) ∧ w'.cell? ⟨w.heap.size, 1, none⟩ = some (.int .u16 1) ∧ Below w0.heap.size w0 w')) := fun w' hb => ⟨(hb.cell (p := ⟨w.heap.size, 0, none⟩) si).trans i0, (hb.cell (p := ⟨w.heap.size, 1, none⟩) si).trans i1, hb⟩
  have HCV : Hid (∀ W, Calls Tryz.prog 17 #[.agg #[.int .u8 1, .int .u16 1], .int .i64 0] W fun e w' => e = .returned (.agg #[.int .u8 1, .int .u16 1, .int .u8 0]) ∧ Below W.heap.size W w') := Lib.hid fun W => pvid_any ⟨1, 1⟩ 0 W (by omega)
  have HCM : Hid (∀ v W, GRow encOp 8 W v (opsX ⟨1, 1⟩) → Calls Tryz.prog 16 #[.agg #[.int .u8 1, .int .u16 1], v] W (MkRes 1 W)) := Lib.hid fun v W hv => mkX 1 depsA goodA v W hv
  go_cut [3] (fun s wx => ∃ g6 pd2 cd2 po2 co2, s = .pointer (some ⟨g6, 0, none⟩) ∧ Hid (ArrT wx g6 51 [.int .u8 1, .int .u16 1, .slice pd2 0 cd2, .slice po2 2 co2]) ∧ Hid (GOwn encPid 2 25 wx w0.heap.size (.slice pd2 0 cd2) []) ∧ Hid (GOwn encOp 8 56 wx w0.heap.size (.slice po2 2 co2) (opsX ⟨1, 1⟩)) ∧ Hid (Below w0.heap.size w0 wx))
  case first =>
    go_region_held3 (fun w' => w'.cell? ⟨w.heap.size, 0, none⟩ = some (.int .u8 1) ∧ w'.cell? ⟨w.heap.size, 1, none⟩ = some (.int .u16 1) ∧ Below w0.heap.size w0 w') ((refine HS.out _ ?_; (with_reducible (first | exact (Below.refl _ _).drew | exact HBm.out | exact balloc2 HBm.out _ | exact HBv.out | exact balloc2 HBv.out _ | exact balloc2 (balloc2 HBv.out _) _ | exact Below.drew (balloc2 (Below.refl w0.heap.size w0) _) | exact balloc2 (Below.refl w0.heap.size w0) _ | exact ((((HBm.out.setCell (p := ⟨w0.heap.size, 0, none⟩) (Nat.le_refl _) (.int .u8 1)).setCell (p := ⟨w0.heap.size, 1, none⟩) (Nat.le_refl _) (.int .u16 1)).setCell (p := ⟨w0.heap.size, 2, none⟩) (Nat.le_refl _) (.slice pd2 0 cd2)).setCell (p := ⟨w0.heap.size, 3, none⟩) (Nat.le_refl _) (.slice po2 2 co2)) | exact ((((HBm.out.setCell (p := ⟨w5.heap.size, 0, none⟩) HBv.out.size (.int .u8 1)).setCell (p := ⟨w5.heap.size, 1, none⟩) HBv.out.size (.int .u16 1)).setCell (p := ⟨w5.heap.size, 2, none⟩) HBv.out.size (.slice pd2 0 cd2)).setCell (p := ⟨w5.heap.size, 3, none⟩) HBv.out.size (.slice po2 2 co2)) | exact ((((HBm.out.setCell (p := ⟨(w5.heap.size + 1), 0, none⟩) (Nat.le_succ_of_le HBv.out.size) (.int .u8 1)).setCell (p := ⟨(w5.heap.size + 1), 1, none⟩) (Nat.le_succ_of_le HBv.out.size) (.int .u16 1)).setCell (p := ⟨(w5.heap.size + 1), 2, none⟩) (Nat.le_succ_of_le HBv.out.size) (.slice pd2 0 cd2)).setCell (p := ⟨(w5.heap.size + 1), 3, none⟩) (Nat.le_succ_of_le HBv.out.size) (.slice po2 2 co2))))))
      (first | (go_at_call 17; refine (HCV.out _).mono ?_; rintro e w5 ⟨rfl, hb5⟩; have HBv : Hid (Below w0.heap.size w0 w5) := (by show Below w0.heap.size w0 w5; with_reducible (first | exact below_over (Below.refl w0.heap.size w0).drew (Nat.le_refl _) hb5 | exact below_over (Below.drew (balloc2 (Below.refl w0.heap.size w0) _)) (Below.size (Below.drew (balloc2 (Below.refl w0.heap.size w0) _))) hb5)); have HB5b := Lib.hid hb5; (try (have hs5b : w0.heap.size < w5.heap.size := (by have h := hb5.size; simp at h; omega))); obtain ⟨hc5, hf5⟩ := bcell hb5; clear hb5) |
        (go_at_call 16; refine (HCM.out _ _ (by first | exact rowA _ _ (by simp) | exact (rowA _ _ (by simp)).over (below_new _))).mono ?_; rintro e w6 ⟨pd2, cd2, po2, co2, rfl, ho5, ho6, hb6⟩; have HBm : Hid (Below w0.heap.size w0 w6) := (by show Below w0.heap.size w0 w6; with_reducible (first | exact below_over (balloc2 HBv.out _) (Below.size (balloc2 HBv.out _)) hb6 | exact below_over (balloc2 (balloc2 HBv.out _) _) (Below.size (balloc2 (balloc2 HBv.out _) _)) hb6)); have HO5 : Hid (GOwn encPid 2 25 w6 w0.heap.size (.slice pd2 0 cd2) []) := Lib.hid (ho5.base (by have := HBv.out.size; simp; omega)); have HO6 : Hid (GOwn encOp 8 56 w6 w0.heap.size (.slice po2 2 co2) (opsX ⟨1, 1⟩)) := Lib.hid (ho6.base (by have := HBv.out.size; simp; omega)); have HB6b := Lib.hid hb6; obtain ⟨hc6, hf6⟩ := bcell hb6; clear ho5 ho6 hb6))
    · rename_i J K hJ hK hHeld
      clear hHeld
      refine hK _ _ (Met.intro (hJ _ _ ?_))
      (repeat apply Exists.intro)
      refine ⟨?_, rfl⟩
      exact ⟨_, pd2, cd2, po2, co2, rfl, Lib.hid (arrT_new w6 [.int .u8 1, .int .u16 1, .slice pd2 0 cd2, .slice po2 2 co2] 51), Lib.hid (HO5.out.over (below_new _)), Lib.hid (HO6.out.over (below_new _)), Lib.hid (balloc2 HBm.out _)⟩
    · rename_i J K hJ hK hHeld
      clear hHeld
      refine hK _ _ (Met.intro (hJ _ _ ?_))
      (repeat apply Exists.intro)
      refine ⟨?_, rfl⟩
      have HZ : Hid (ArrT w6 (w5.heap.size + 1) 51 [.int .u8 0, .int .u16 0, .slice none 0 0, .slice none 0 0]) := Lib.hid ((show ArrT ((w5.alloc (.cells #[.int .u8 1, .int .u8 0, .int .u16 0, .int .u8 0, .int .u8 0, .int .u16 0, .int .u8 0, .string ⟨#[]⟩, .int .u8 2, .int .u8 1, .int .u16 1, .int .u8 0, .int .u8 0, .int .u16 0, .int .u8 0, .string ⟨#[97]⟩] 56)).alloc (.cells #[.int .u8 0, .int .u16 0, .slice none 0 0, .slice none 0 0] 51)) (w5.heap.size + 1) 51 [.int .u8 0, .int .u16 0, .slice none 0 0, .slice none 0 0] from (by have h := arrT_new (w5.alloc (.cells #[.int .u8 1, .int .u8 0, .int .u16 0, .int .u8 0, .int .u8 0, .int .u16 0, .int .u8 0, .string ⟨#[]⟩, .int .u8 2, .int .u8 1, .int .u16 1, .int .u8 0, .int .u8 0, .int .u16 0, .int .u8 0, .string ⟨#[97]⟩] 56)) [.int .u8 0, .int .u16 0, .slice none 0 0, .slice none 0 0] 51; simpa using h)).over HB6b.out)
      have nd : (Value.slice pd2 0 cd2).ownBlock = none ∨ (Value.slice pd2 0 cd2).ownBlock ≠ some (w5.heap.size + 1) := .inr (fun q => (HZ.out.ne (show World.ownsRow _ _ _ _ _ _ _ from HO5.out) (by decide)) q.symm)
      have no : (Value.slice po2 2 co2).ownBlock = none ∨ (Value.slice po2 2 co2).ownBlock ≠ some (w5.heap.size + 1) := .inr (fun q => (HZ.out.ne (show World.ownsRow _ _ _ _ _ _ _ from HO6.out) (by decide)) q.symm)
      exact ⟨_, pd2, cd2, po2, co2, rfl, Lib.hid ((((HZ.out.set 0 (.int .u8 1)).set 1 (.int .u16 1)).set 2 (.slice pd2 0 cd2)).set 3 (.slice po2 2 co2)), Lib.hid (show GOwn encPid 2 25 _ w0.heap.size (.slice pd2 0 cd2) [] from own_grown HO5.out (grown_trans (grown_trans (grown_trans (grown_trans (World.grownBy.refl w6 _) (grown_setCell _ _ _)) (grown_setCell _ _ _)) (grown_setCell _ _ _)) (grown_setCell _ _ _)) nd), Lib.hid (show GOwn encOp 8 56 _ w0.heap.size (.slice po2 2 co2) (opsX ⟨1, 1⟩) from own_grown HO6.out (grown_trans (grown_trans (grown_trans (grown_trans (World.grownBy.refl w6 _) (grown_setCell _ _ _)) (grown_setCell _ _ _)) (grown_setCell _ _ _)) (grown_setCell _ _ _)) no), Lib.hid ((((HBm.out.setCell (p := ⟨(w5.heap.size + 1), 0, none⟩) (Nat.le_succ_of_le HBv.out.size) (.int .u8 1)).setCell (p := ⟨(w5.heap.size + 1), 1, none⟩) (Nat.le_succ_of_le HBv.out.size) (.int .u16 1)).setCell (p := ⟨(w5.heap.size + 1), 2, none⟩) (Nat.le_succ_of_le HBv.out.size) (.slice pd2 0 cd2)).setCell (p := ⟨(w5.heap.size + 1), 3, none⟩) (Nat.le_succ_of_le HBv.out.size) (.slice po2 2 co2))⟩
    · rename_i J K hJ hK hHeld
      clear hHeld
      refine hK _ _ (Met.intro (hJ _ _ ?_))
      (repeat apply Exists.intro)
      refine ⟨?_, rfl⟩
      have HZ : Hid (ArrT w6 w5.heap.size 51 [.int .u8 0, .int .u16 0, .slice none 0 0, .slice none 0 0]) := Lib.hid (((arrT_new w5 [.int .u8 0, .int .u16 0, .slice none 0 0, .slice none 0 0] 51).over (below_new _)).over HB6b.out)
      have nd : (Value.slice pd2 0 cd2).ownBlock = none ∨ (Value.slice pd2 0 cd2).ownBlock ≠ some w5.heap.size := .inr (fun q => (HZ.out.ne (show World.ownsRow _ _ _ _ _ _ _ from HO5.out) (by decide)) q.symm)
      have no : (Value.slice po2 2 co2).ownBlock = none ∨ (Value.slice po2 2 co2).ownBlock ≠ some w5.heap.size := .inr (fun q => (HZ.out.ne (show World.ownsRow _ _ _ _ _ _ _ from HO6.out) (by decide)) q.symm)
      exact ⟨_, pd2, cd2, po2, co2, rfl, Lib.hid ((((HZ.out.set 0 (.int .u8 1)).set 1 (.int .u16 1)).set 2 (.slice pd2 0 cd2)).set 3 (.slice po2 2 co2)), Lib.hid (show GOwn encPid 2 25 _ w0.heap.size (.slice pd2 0 cd2) [] from own_grown HO5.out (grown_trans (grown_trans (grown_trans (grown_trans (World.grownBy.refl w6 _) (grown_setCell _ _ _)) (grown_setCell _ _ _)) (grown_setCell _ _ _)) (grown_setCell _ _ _)) nd), Lib.hid (show GOwn encOp 8 56 _ w0.heap.size (.slice po2 2 co2) (opsX ⟨1, 1⟩) from own_grown HO6.out (grown_trans (grown_trans (grown_trans (grown_trans (World.grownBy.refl w6 _) (grown_setCell _ _ _)) (grown_setCell _ _ _)) (grown_setCell _ _ _)) (grown_setCell _ _ _)) no), Lib.hid ((((HBm.out.setCell (p := ⟨w5.heap.size, 0, none⟩) HBv.out.size (.int .u8 1)).setCell (p := ⟨w5.heap.size, 1, none⟩) HBv.out.size (.int .u16 1)).setCell (p := ⟨w5.heap.size, 2, none⟩) HBv.out.size (.slice pd2 0 cd2)).setCell (p := ⟨w5.heap.size, 3, none⟩) HBv.out.size (.slice po2 2 co2))⟩
    · rename_i J K hJ hK hHeld
      clear hHeld
      refine hK _ _ (Met.intro (hJ _ _ ?_))
      (repeat apply Exists.intro)
      refine ⟨?_, rfl⟩
      have HZ : Hid (ArrT w6 w0.heap.size 51 [.int .u8 0, .int .u16 0, .slice none 0 0, .slice none 0 0]) := Lib.hid ((((show ArrT (w0.alloc (.cells #[.int .u8 0, .int .u16 0, .slice none 0 0, .slice none 0 0] 51)).drew w0.heap.size 51 [.int .u8 0, .int .u16 0, .slice none 0 0, .slice none 0 0] from arrT_new w0 [.int .u8 0, .int .u16 0, .slice none 0 0, .slice none 0 0] 51).over HB5b.out).over (below_new _)).over HB6b.out)
      have nd : (Value.slice pd2 0 cd2).ownBlock = none ∨ (Value.slice pd2 0 cd2).ownBlock ≠ some w0.heap.size := .inr (fun q => (HZ.out.ne (show World.ownsRow _ _ _ _ _ _ _ from HO5.out) (by decide)) q.symm)
      have no : (Value.slice po2 2 co2).ownBlock = none ∨ (Value.slice po2 2 co2).ownBlock ≠ some w0.heap.size := .inr (fun q => (HZ.out.ne (show World.ownsRow _ _ _ _ _ _ _ from HO6.out) (by decide)) q.symm)
      exact ⟨_, pd2, cd2, po2, co2, rfl, Lib.hid ((((HZ.out.set 0 (.int .u8 1)).set 1 (.int .u16 1)).set 2 (.slice pd2 0 cd2)).set 3 (.slice po2 2 co2)), Lib.hid (show GOwn encPid 2 25 _ w0.heap.size (.slice pd2 0 cd2) [] from own_grown HO5.out (grown_trans (grown_trans (grown_trans (grown_trans (World.grownBy.refl w6 _) (grown_setCell _ _ _)) (grown_setCell _ _ _)) (grown_setCell _ _ _)) (grown_setCell _ _ _)) nd), Lib.hid (show GOwn encOp 8 56 _ w0.heap.size (.slice po2 2 co2) (opsX ⟨1, 1⟩) from own_grown HO6.out (grown_trans (grown_trans (grown_trans (grown_trans (World.grownBy.refl w6 _) (grown_setCell _ _ _)) (grown_setCell _ _ _)) (grown_setCell _ _ _)) (grown_setCell _ _ _)) no), Lib.hid ((((HBm.out.setCell (p := ⟨w0.heap.size, 0, none⟩) (Nat.le_refl _) (.int .u8 1)).setCell (p := ⟨w0.heap.size, 1, none⟩) (Nat.le_refl _) (.int .u16 1)).setCell (p := ⟨w0.heap.size, 2, none⟩) (Nat.le_refl _) (.slice pd2 0 cd2)).setCell (p := ⟨w0.heap.size, 3, none⟩) (Nat.le_refl _) (.slice po2 2 co2))⟩
  case rest =>
    obtain ⟨g3, pd2, cd2, po2, co2, rfl, HA1, HD1, HO1, HB1⟩ := hcut
    rename World => w1
    have HC1 := Lib.hid (HC.out.over HB1.out)
    clear i0 i1 si HS
    have i0 := HC1.out.cell (j := 0) rfl
    have i1 := HC1.out.cell (j := 1) rfl
    have si := HC1.out.lt
    go_upto_region 3 with (fail)
    have HS : Hid (∀ w' : World, Below w1.heap.size w1 w' → (w'.cell? ⟨(w.heap.size + 1), 0, none⟩ = some (.int .u8 2) ∧ w'.cell? ⟨(w.heap.size + 1), 1, none⟩ = some (.int .u16 1) ∧ Below w1.heap.size w1 w')) := fun w' hb => ⟨(hb.cell (p := ⟨(w.heap.size + 1), 0, none⟩) si).trans i0, (hb.cell (p := ⟨(w.heap.size + 1), 1, none⟩) si).trans i1, hb⟩
    have HCV : Hid (∀ W, Calls Tryz.prog 17 #[.agg #[.int .u8 2, .int .u16 1], .int .i64 0] W fun e w' => e = .returned (.agg #[.int .u8 2, .int .u16 1, .int .u8 0]) ∧ Below W.heap.size W w') := Lib.hid fun W => pvid_any ⟨2, 1⟩ 0 W (by omega)
    have HCM : Hid (∀ v W, GRow encOp 8 W v (opsX ⟨2, 1⟩) → Calls Tryz.prog 16 #[.agg #[.int .u8 2, .int .u16 1], v] W (MkRes 2 W)) := Lib.hid fun v W hv => mkX 2 depsB goodB v W hv
    go_cut [5] (fun s wx => ∃ g6 pd3 cd3 po3 co3, s = .pointer (some ⟨g6, 0, none⟩) ∧ Hid (ArrT wx g6 51 [.int .u8 2, .int .u16 1, .slice pd3 0 cd3, .slice po3 2 co3]) ∧ Hid (GOwn encPid 2 25 wx w1.heap.size (.slice pd3 0 cd3) []) ∧ Hid (GOwn encOp 8 56 wx w1.heap.size (.slice po3 2 co3) (opsX ⟨2, 1⟩)) ∧ Hid (Below w1.heap.size w1 wx))
    case first =>
      go_region_held3 (fun w' => w'.cell? ⟨(w.heap.size + 1), 0, none⟩ = some (.int .u8 2) ∧ w'.cell? ⟨(w.heap.size + 1), 1, none⟩ = some (.int .u16 1) ∧ Below w1.heap.size w1 w') ((refine HS.out _ ?_; (with_reducible (first | exact (Below.refl _ _).drew | exact HBm.out | exact balloc2 HBm.out _ | exact HBv.out | exact balloc2 HBv.out _ | exact balloc2 (balloc2 HBv.out _) _ | exact Below.drew (balloc2 (Below.refl w1.heap.size w1) _) | exact balloc2 (Below.refl w1.heap.size w1) _ | exact ((((HBm.out.setCell (p := ⟨w1.heap.size, 0, none⟩) (Nat.le_refl _) (.int .u8 2)).setCell (p := ⟨w1.heap.size, 1, none⟩) (Nat.le_refl _) (.int .u16 1)).setCell (p := ⟨w1.heap.size, 2, none⟩) (Nat.le_refl _) (.slice pd3 0 cd3)).setCell (p := ⟨w1.heap.size, 3, none⟩) (Nat.le_refl _) (.slice po3 2 co3)) | exact ((((HBm.out.setCell (p := ⟨w5.heap.size, 0, none⟩) HBv.out.size (.int .u8 2)).setCell (p := ⟨w5.heap.size, 1, none⟩) HBv.out.size (.int .u16 1)).setCell (p := ⟨w5.heap.size, 2, none⟩) HBv.out.size (.slice pd3 0 cd3)).setCell (p := ⟨w5.heap.size, 3, none⟩) HBv.out.size (.slice po3 2 co3)) | exact ((((HBm.out.setCell (p := ⟨(w5.heap.size + 1), 0, none⟩) (Nat.le_succ_of_le HBv.out.size) (.int .u8 2)).setCell (p := ⟨(w5.heap.size + 1), 1, none⟩) (Nat.le_succ_of_le HBv.out.size) (.int .u16 1)).setCell (p := ⟨(w5.heap.size + 1), 2, none⟩) (Nat.le_succ_of_le HBv.out.size) (.slice pd3 0 cd3)).setCell (p := ⟨(w5.heap.size + 1), 3, none⟩) (Nat.le_succ_of_le HBv.out.size) (.slice po3 2 co3))))))
        (first | (go_at_call 17; refine (HCV.out _).mono ?_; rintro e w5 ⟨rfl, hb5⟩; have HBv : Hid (Below w1.heap.size w1 w5) := (by show Below w1.heap.size w1 w5; with_reducible (first | exact below_over (Below.refl w1.heap.size w1).drew (Nat.le_refl _) hb5 | exact below_over (Below.drew (balloc2 (Below.refl w1.heap.size w1) _)) (Below.size (Below.drew (balloc2 (Below.refl w1.heap.size w1) _))) hb5)); have HB5b := Lib.hid hb5; (try (have hs5b : w1.heap.size < w5.heap.size := (by have h := hb5.size; simp at h; omega))); obtain ⟨hc5, hf5⟩ := bcell hb5; clear hb5) |
          (go_at_call 16; refine (HCM.out _ _ (by first | exact rowB _ _ (by simp) | exact (rowB _ _ (by simp)).over (below_new _))).mono ?_; rintro e w6 ⟨pd3, cd3, po3, co3, rfl, ho5, ho6, hb6⟩; have HBm : Hid (Below w1.heap.size w1 w6) := (by show Below w1.heap.size w1 w6; with_reducible (first | exact below_over (balloc2 HBv.out _) (Below.size (balloc2 HBv.out _)) hb6 | exact below_over (balloc2 (balloc2 HBv.out _) _) (Below.size (balloc2 (balloc2 HBv.out _) _)) hb6)); have HO5 : Hid (GOwn encPid 2 25 w6 w1.heap.size (.slice pd3 0 cd3) []) := Lib.hid (ho5.base (by have := HBv.out.size; simp; omega)); have HO6 : Hid (GOwn encOp 8 56 w6 w1.heap.size (.slice po3 2 co3) (opsX ⟨2, 1⟩)) := Lib.hid (ho6.base (by have := HBv.out.size; simp; omega)); have HB6b := Lib.hid hb6; obtain ⟨hc6, hf6⟩ := bcell hb6; clear ho5 ho6 hb6))
      · rename_i J K hJ hK hHeld
        clear hHeld
        refine hK _ _ (Met.intro (hJ _ _ ?_))
        (repeat apply Exists.intro)
        refine ⟨?_, rfl⟩
        exact ⟨_, pd3, cd3, po3, co3, rfl, Lib.hid (arrT_new w6 [.int .u8 2, .int .u16 1, .slice pd3 0 cd3, .slice po3 2 co3] 51), Lib.hid (HO5.out.over (below_new _)), Lib.hid (HO6.out.over (below_new _)), Lib.hid (balloc2 HBm.out _)⟩
      · rename_i J K hJ hK hHeld
        clear hHeld
        refine hK _ _ (Met.intro (hJ _ _ ?_))
        (repeat apply Exists.intro)
        refine ⟨?_, rfl⟩
        have HZ : Hid (ArrT w6 (w5.heap.size + 1) 51 [.int .u8 0, .int .u16 0, .slice none 0 0, .slice none 0 0]) := Lib.hid ((show ArrT ((w5.alloc (.cells #[.int .u8 1, .int .u8 0, .int .u16 0, .int .u8 0, .int .u8 0, .int .u16 0, .int .u8 0, .string ⟨#[]⟩, .int .u8 2, .int .u8 2, .int .u16 1, .int .u8 0, .int .u8 0, .int .u16 0, .int .u8 0, .string ⟨#[97]⟩] 56)).alloc (.cells #[.int .u8 0, .int .u16 0, .slice none 0 0, .slice none 0 0] 51)) (w5.heap.size + 1) 51 [.int .u8 0, .int .u16 0, .slice none 0 0, .slice none 0 0] from (by have h := arrT_new (w5.alloc (.cells #[.int .u8 1, .int .u8 0, .int .u16 0, .int .u8 0, .int .u8 0, .int .u16 0, .int .u8 0, .string ⟨#[]⟩, .int .u8 2, .int .u8 2, .int .u16 1, .int .u8 0, .int .u8 0, .int .u16 0, .int .u8 0, .string ⟨#[97]⟩] 56)) [.int .u8 0, .int .u16 0, .slice none 0 0, .slice none 0 0] 51; simpa using h)).over HB6b.out)
        have nd : (Value.slice pd3 0 cd3).ownBlock = none ∨ (Value.slice pd3 0 cd3).ownBlock ≠ some (w5.heap.size + 1) := .inr (fun q => (HZ.out.ne (show World.ownsRow _ _ _ _ _ _ _ from HO5.out) (by decide)) q.symm)
        have no : (Value.slice po3 2 co3).ownBlock = none ∨ (Value.slice po3 2 co3).ownBlock ≠ some (w5.heap.size + 1) := .inr (fun q => (HZ.out.ne (show World.ownsRow _ _ _ _ _ _ _ from HO6.out) (by decide)) q.symm)
        exact ⟨_, pd3, cd3, po3, co3, rfl, Lib.hid ((((HZ.out.set 0 (.int .u8 2)).set 1 (.int .u16 1)).set 2 (.slice pd3 0 cd3)).set 3 (.slice po3 2 co3)), Lib.hid (show GOwn encPid 2 25 _ w1.heap.size (.slice pd3 0 cd3) [] from own_grown HO5.out (grown_trans (grown_trans (grown_trans (grown_trans (World.grownBy.refl w6 _) (grown_setCell _ _ _)) (grown_setCell _ _ _)) (grown_setCell _ _ _)) (grown_setCell _ _ _)) nd), Lib.hid (show GOwn encOp 8 56 _ w1.heap.size (.slice po3 2 co3) (opsX ⟨2, 1⟩) from own_grown HO6.out (grown_trans (grown_trans (grown_trans (grown_trans (World.grownBy.refl w6 _) (grown_setCell _ _ _)) (grown_setCell _ _ _)) (grown_setCell _ _ _)) (grown_setCell _ _ _)) no), Lib.hid ((((HBm.out.setCell (p := ⟨(w5.heap.size + 1), 0, none⟩) (Nat.le_succ_of_le HBv.out.size) (.int .u8 2)).setCell (p := ⟨(w5.heap.size + 1), 1, none⟩) (Nat.le_succ_of_le HBv.out.size) (.int .u16 1)).setCell (p := ⟨(w5.heap.size + 1), 2, none⟩) (Nat.le_succ_of_le HBv.out.size) (.slice pd3 0 cd3)).setCell (p := ⟨(w5.heap.size + 1), 3, none⟩) (Nat.le_succ_of_le HBv.out.size) (.slice po3 2 co3))⟩
      · rename_i J K hJ hK hHeld
        clear hHeld
        refine hK _ _ (Met.intro (hJ _ _ ?_))
        (repeat apply Exists.intro)
        refine ⟨?_, rfl⟩
        have HZ : Hid (ArrT w6 w5.heap.size 51 [.int .u8 0, .int .u16 0, .slice none 0 0, .slice none 0 0]) := Lib.hid (((arrT_new w5 [.int .u8 0, .int .u16 0, .slice none 0 0, .slice none 0 0] 51).over (below_new _)).over HB6b.out)
        have nd : (Value.slice pd3 0 cd3).ownBlock = none ∨ (Value.slice pd3 0 cd3).ownBlock ≠ some w5.heap.size := .inr (fun q => (HZ.out.ne (show World.ownsRow _ _ _ _ _ _ _ from HO5.out) (by decide)) q.symm)
        have no : (Value.slice po3 2 co3).ownBlock = none ∨ (Value.slice po3 2 co3).ownBlock ≠ some w5.heap.size := .inr (fun q => (HZ.out.ne (show World.ownsRow _ _ _ _ _ _ _ from HO6.out) (by decide)) q.symm)
        exact ⟨_, pd3, cd3, po3, co3, rfl, Lib.hid ((((HZ.out.set 0 (.int .u8 2)).set 1 (.int .u16 1)).set 2 (.slice pd3 0 cd3)).set 3 (.slice po3 2 co3)), Lib.hid (show GOwn encPid 2 25 _ w1.heap.size (.slice pd3 0 cd3) [] from own_grown HO5.out (grown_trans (grown_trans (grown_trans (grown_trans (World.grownBy.refl w6 _) (grown_setCell _ _ _)) (grown_setCell _ _ _)) (grown_setCell _ _ _)) (grown_setCell _ _ _)) nd), Lib.hid (show GOwn encOp 8 56 _ w1.heap.size (.slice po3 2 co3) (opsX ⟨2, 1⟩) from own_grown HO6.out (grown_trans (grown_trans (grown_trans (grown_trans (World.grownBy.refl w6 _) (grown_setCell _ _ _)) (grown_setCell _ _ _)) (grown_setCell _ _ _)) (grown_setCell _ _ _)) no), Lib.hid ((((HBm.out.setCell (p := ⟨w5.heap.size, 0, none⟩) HBv.out.size (.int .u8 2)).setCell (p := ⟨w5.heap.size, 1, none⟩) HBv.out.size (.int .u16 1)).setCell (p := ⟨w5.heap.size, 2, none⟩) HBv.out.size (.slice pd3 0 cd3)).setCell (p := ⟨w5.heap.size, 3, none⟩) HBv.out.size (.slice po3 2 co3))⟩
      · rename_i J K hJ hK hHeld
        clear hHeld
        refine hK _ _ (Met.intro (hJ _ _ ?_))
        (repeat apply Exists.intro)
        refine ⟨?_, rfl⟩
        have HZ : Hid (ArrT w6 w1.heap.size 51 [.int .u8 0, .int .u16 0, .slice none 0 0, .slice none 0 0]) := Lib.hid ((((show ArrT (w1.alloc (.cells #[.int .u8 0, .int .u16 0, .slice none 0 0, .slice none 0 0] 51)).drew w1.heap.size 51 [.int .u8 0, .int .u16 0, .slice none 0 0, .slice none 0 0] from arrT_new w1 [.int .u8 0, .int .u16 0, .slice none 0 0, .slice none 0 0] 51).over HB5b.out).over (below_new _)).over HB6b.out)
        have nd : (Value.slice pd3 0 cd3).ownBlock = none ∨ (Value.slice pd3 0 cd3).ownBlock ≠ some w1.heap.size := .inr (fun q => (HZ.out.ne (show World.ownsRow _ _ _ _ _ _ _ from HO5.out) (by decide)) q.symm)
        have no : (Value.slice po3 2 co3).ownBlock = none ∨ (Value.slice po3 2 co3).ownBlock ≠ some w1.heap.size := .inr (fun q => (HZ.out.ne (show World.ownsRow _ _ _ _ _ _ _ from HO6.out) (by decide)) q.symm)
        exact ⟨_, pd3, cd3, po3, co3, rfl, Lib.hid ((((HZ.out.set 0 (.int .u8 2)).set 1 (.int .u16 1)).set 2 (.slice pd3 0 cd3)).set 3 (.slice po3 2 co3)), Lib.hid (show GOwn encPid 2 25 _ w1.heap.size (.slice pd3 0 cd3) [] from own_grown HO5.out (grown_trans (grown_trans (grown_trans (grown_trans (World.grownBy.refl w6 _) (grown_setCell _ _ _)) (grown_setCell _ _ _)) (grown_setCell _ _ _)) (grown_setCell _ _ _)) nd), Lib.hid (show GOwn encOp 8 56 _ w1.heap.size (.slice po3 2 co3) (opsX ⟨2, 1⟩) from own_grown HO6.out (grown_trans (grown_trans (grown_trans (grown_trans (World.grownBy.refl w6 _) (grown_setCell _ _ _)) (grown_setCell _ _ _)) (grown_setCell _ _ _)) (grown_setCell _ _ _)) no), Lib.hid ((((HBm.out.setCell (p := ⟨w1.heap.size, 0, none⟩) (Nat.le_refl _) (.int .u8 2)).setCell (p := ⟨w1.heap.size, 1, none⟩) (Nat.le_refl _) (.int .u16 1)).setCell (p := ⟨w1.heap.size, 2, none⟩) (Nat.le_refl _) (.slice pd3 0 cd3)).setCell (p := ⟨w1.heap.size, 3, none⟩) (Nat.le_refl _) (.slice po3 2 co3))⟩
    case rest =>
      obtain ⟨g5, pd3, cd3, po3, co3, rfl, HA2, HD2, HO2, HB2⟩ := hcut
      rename World => w2
      have HA12 := Lib.hid (HA1.out.over HB2.out)
      have HD12 := Lib.hid (HD1.out.over HB2.out)
      have HO12 := Lib.hid (HO1.out.over HB2.out)
      clear i0 i1 si HS
      have p0 := HA12.out.arr.cell (j := 0) rfl
      have p1 := HA12.out.arr.cell (j := 1) rfl
      have p2 := HA12.out.arr.cell (j := 2) rfl
      have p3 := HA12.out.arr.cell (j := 3) rfl
      have sp := HA12.out.arr.lt
      have q0 := HA2.out.arr.cell (j := 0) rfl
      have q1 := HA2.out.arr.cell (j := 1) rfl
      have q2 := HA2.out.arr.cell (j := 2) rfl
      have q3 := HA2.out.arr.cell (j := 3) rfl
      have sq := HA2.out.arr.lt
      go_wp2_with fail
      have hL := own_lit (enc := encPat) (sz := 4) w2 51 [⟨patX ⟨1, 1⟩, .slice pd2 0 cd2, .slice po2 2 co2⟩, ⟨patX ⟨2, 1⟩, .slice pd3 0 cd3, .slice po3 2 co3⟩] w2.heap.size rfl (by show 2 ≤ maxLen; unfold maxLen; omega) (Nat.le_refl _)
      have HL : Hid (GOwn encPat 4 51 (w2.alloc (.cells #[.int .u8 1, .int .u16 1, .slice pd2 0 cd2, .slice po2 2 co2, .int .u8 2, .int .u16 1, .slice pd3 0 cd3, .slice po3 2 co3] 51)) w2.heap.size (.slice (some ⟨w2.heap.size, 0, none⟩) 2 2) [⟨patX ⟨1, 1⟩, .slice pd2 0 cd2, .slice po2 2 co2⟩, ⟨patX ⟨2, 1⟩, .slice pd3 0 cd3, .slice po3 2 co3⟩]) := Lib.hid hL
      have HB3 := Lib.hid (below_new (w := w2) (.cells #[.int .u8 1, .int .u16 1, .slice pd2 0 cd2, .slice po2 2 co2, .int .u8 2, .int .u16 1, .slice pd3 0 cd3, .slice po3 2 co3] 51))
      have HBa := Lib.hid (below_over (below_over HB.out HB.out.size HB1.out) (by have := HB.out.size; have := HB1.out.size; omega) HB2.out)
      have HPs : Hid (Pats (w2.alloc (.cells #[.int .u8 1, .int .u16 1, .slice pd2 0 cd2, .slice po2 2 co2, .int .u8 2, .int .u16 1, .slice pd3 0 cd3, .slice po3 2 co3] 51)) (.slice (some ⟨w2.heap.size, 0, none⟩) 2 2) [⟨patX ⟨1, 1⟩, .slice pd2 0 cd2, .slice po2 2 co2⟩, ⟨patX ⟨2, 1⟩, .slice pd3 0 cd3, .slice po3 2 co3⟩]) := Lib.hid ⟨HL.out.row, fun x hx => by
        have : x = ⟨patX ⟨1, 1⟩, .slice pd2 0 cd2, .slice po2 2 co2⟩ ∨ x = ⟨patX ⟨2, 1⟩, .slice pd3 0 cd3, .slice po3 2 co3⟩ := by simpa using hx
        rcases this with rfl | rfl
        · exact ⟨(HD12.out.over HB3.out).row, (HO12.out.over HB3.out).row⟩
        · exact ⟨(HD2.out.over HB3.out).row, (HO2.out.over HB3.out).row⟩⟩
      clear hL p0 p1 p2 p3 sp q0 q1 q2 q3 sq
      generalize hw3 : w2.alloc (.cells #[.int .u8 1, .int .u16 1, .slice pd2 0 cd2, .slice po2 2 co2, .int .u8 2, .int .u16 1, .slice pd3 0 cd3, .slice po3 2 co3] 51) = w3 at *
      clear hw3
      refine (build_any _ _ 20 (by omega) _ HPs.out exL_few).mono ?_
      rintro e w4 ⟨b, bv, be, n, hn, rfl, hgr⟩
      obtain ⟨_, _, _, hG, hb4⟩ := hgr
      have HGI : Hid (GrIs w4 b exG) := Lib.hid ⟨bv, be, n, hG⟩
      have HB4 := Lib.hid (below_over (below_over HBa.out HBa.out.size HB3.out) (by have := HBa.out.size; have := HB3.out.size; omega) hb4)
      clear hG hb4 hn
      go_wp2_with fail
      refine (nall_any b exG _ HGI.out (wf_build _) exIds (HT.out.over HB4.out)).mono ?_
      rintro e w5 ⟨v7, rfl, hN, hb5⟩
      rw [exAllM] at hN
      have HB5 := Lib.hid (below_over HB4.out HB4.out.size hb5)
      obtain ⟨xs, hxs, hO, hNa⟩ := hN
      obtain ⟨⟨n1, pa1, ca1, pf1, cf1⟩, ⟨n2, pa2, ca2, pf2, cf2⟩, rfl⟩ : ∃ y1 y2, xs = [y1, y2] := by
        have hl := congrArg List.length hxs
        rw [List.length_map] at hl
        match xs, hl with
        | [y1, y2], _ => exact ⟨y1, y2, rfl⟩
      simp only [List.map_cons, List.map_nil, exAll, List.cons.injEq, and_true] at hxs
      obtain ⟨rfl, rfl⟩ := hxs
      obtain ⟨g7, c7, hv7, hA7⟩ := own_at (show World.ownsRow _ _ _ _ _ _ _ from hO) (by simp)
      have hF2 := (hNa _ (List.mem_cons_of_mem _ (List.mem_cons_self ..))).2
      obtain ⟨gf, cf, hvf, hAf⟩ := own_at (show World.ownsRow _ _ _ _ _ _ _ from hF2) (by simp)
      subst hv7
      simp only [Value.slice.injEq] at hvf
      obtain ⟨rfl, _, rfl⟩ := hvf
      have HA7 := Lib.hid hA7
      have HAf := Lib.hid hAf
      have a3 : w5.cell? ⟨g7, 3, none⟩ = some (.string ⟨#[97]⟩) := hA7.cell (j := 3) (u := .string ⟨#[97]⟩) rfl
      have a5 : w5.cell? ⟨g7, 5, none⟩ = some (.slice pf1 0 cf1) := hA7.cell (j := 5) (u := .slice pf1 0 cf1) rfl
      have b3 : w5.cell? ⟨g7, 9, none⟩ = some (.string ⟨#[97, 126, 50, 46, 49, 46, 48]⟩) := by
        have h := hA7.cell (j := 9) (u := .string (txA ++ (tilde ++ textB fB))) rfl
        rw [exText] at h; exact h
      have b5 : w5.cell? ⟨g7, 11, none⟩ = some (.slice (some ⟨gf, 0, none⟩) 1 cf2) := hA7.cell (j := 11) (u := .slice (some ⟨gf, 0, none⟩) 1 cf2) rfl
      have f0 : w5.cell? ⟨gf, 0, none⟩ = some (.int .u8 4) := hAf.cell (j := 0) (u := .int .u8 4) rfl
      have sg7 := hA7.lt
      have sgf := hAf.lt
      have hnc := hA7.nc
      have hcm := hA7.cm
      have hnf := hAf.nc
      have hmf := hAf.cm
      unfold maxLen at hcm hmf
      clear hO hNa hF2 hA7 hAf hb5
      go_wp2_with fail
      go_ret
      exact ⟨rfl, HB5.out⟩
end Go.Proofs.YtfciedmmgddgpaaGreatDoor
