/- Contracts of bruitref10.Set and bruitref11.Set. -/
import Derived.Test.YtfciedmmgddgpaaGreatDoorZGRow
namespace Go.Proofs.YtfciedmmgddgpaaGreatDoor
open Go Go.RowKit

section
variable {α : Type} {key : α → Nat}
/-- what the inner loop has still to do -/
def restS (key : α → Nat) (x : α) (t : Bool) (r : List α) : List α := if t = true then r else putS key x r
theorem restS_t (x : α) (r : List α) : restS key x true r = r := rfl
theorem restS_f (x : α) (r : List α) : restS key x false r = putS key x r := rfl
theorem putS_lt {x y : α} {r : List α} (h : key x < key y) : putS key x (y :: r) = x :: y :: r := by rw [putS, if_pos h]
theorem putS_eq {x y : α} {r : List α} (h : key x = key y) : putS key x (y :: r) = y :: r := by rw [putS, if_neg (by omega), if_pos h]
theorem putS_gt {x y : α} {r : List α} (h : key y < key x) : putS key x (y :: r) = y :: putS key x r := by rw [putS, if_neg (by omega), if_neg (by omega)]
theorem putS_nil (x : α) : putS key x [] = [x] := rfl
theorem foldl_take {l : List α} {i : Nat} {x : α} (h : l[i]? = some x) : (l.take (i + 1)).foldl (fun out x => putS key x out) [] = putS key x ((l.take i).foldl (fun out x => putS key x out) []) := by
  rw [take_succ_get h, List.foldl_append]; rfl
theorem drop_at {xs : List α} {k : Nat} {y : α} (h : xs[k]? = some y) : xs.drop k = y :: xs.drop (k + 1) := by
  obtain ⟨hk, rfl⟩ := List.getElem?_eq_some_iff.1 h
  exact List.drop_eq_getElem_cons hk
theorem putS_len (x : α) : ∀ r : List α, (putS key x r).length ≤ r.length + 1
  | [] => by simp [putS]
  | y :: r => by
    rw [putS]
    split
    · simp
    · split
      · simp
      · have := putS_len x r; simp; omega
theorem foldl_len : ∀ (l out : List α), (l.foldl (fun out x => putS key x out) out).length ≤ out.length + l.length
  | [], out => by simp
  | x :: l, out => by
    have h1 := foldl_len l (putS key x out)
    have h2 := putS_len (key := key) x out
    simp at h1 ⊢; omega
end
theorem restS_start (key : PidM → Nat) (x : PidM) (out : List PidM) : putS key x out = [] ++ restS key x false (out.drop 0) := by simp [restS]
theorem restS_startV (key : VidM → Nat) (x : VidM) (out : List VidM) : putS key x out = [] ++ restS key x false (out.drop 0) := by simp [restS]
def SetRes {α : Type} (enc : α → List Value) (sz : Nat) (w : World) (xs : List α) (e : Ending) (w' : World) : Prop := ∃ u, e = .returned u ∧ GRow enc sz w' u xs ∧ Below w.heap.size w w'
theorem cmpPid_lt {x y : PidM} (h : packPid x < packPid y) : cmpPid x y = -1 := cmpN_lt h
theorem cmpPid_eq {x y : PidM} (h : packPid x = packPid y) : cmpPid x y = 0 := cmpN_eq h
theorem cmpPid_gt {x y : PidM} (h : packPid y < packPid x) : cmpPid x y = 1 := cmpN_gt h
theorem cmpVid_lt {x y : VidM} (h : packVid x < packVid y) : cmpVid x y = -1 := cmpN_lt h
theorem cmpVid_eq {x y : VidM} (h : packVid x = packVid y) : cmpVid x y = 0 := cmpN_eq h
theorem cmpVid_gt {x y : VidM} (h : packVid y < packVid x) : cmpVid x y = 1 := cmpN_gt h
attribute [local irreducible] packPid packVid cmpN putS restS cmpPid cmpVid

def SetPidOut (w : World) (l : List PidM) (v3 v4 : Value) (wr : World) : Prop :=
  ∃ i : Nat, i ≤ l.length ∧ v4 = .int .i64 i ∧ Hid (GRow encPid 2 wr v3 ((l.take i).foldl (fun out x => putS packPid x out) [])) ∧ Below w.heap.size w wr
def SetPidIn (wo : World) (x : PidM) (out : List PidM) (v5 v6 v7 : Value) (wr : World) : Prop :=
  ∃ (k : Nat) (M : List PidM) (t : Bool), k ≤ out.length ∧ v7 = .int .i64 k ∧ v6 = .bool t ∧ M.length ≤ k + t.toNat ∧ Hid (GOwn encPid 2 25 wr wo.heap.size v5 M) ∧ Hid (putS packPid x out = M ++ restS packPid x t (out.drop k)) ∧ Below wo.heap.size wo wr
set_option maxHeartbeats 20000000 in
set_option maxRecDepth 100000 in
theorem rsetPid_any (v : Value) (l : List PidM) (w : World) (hv : GRow encPid 2 w v l) (hl : l.length ≤ 100000) :
    Calls Tryz.prog 143 #[v] w (SetRes encPid 2 w (setS packPid l)) := by
  obtain ⟨a, cap, rfl, h1, h2, hc⟩ := hv.at encPid_len
  unfold maxLen at h2
  have HC := Lib.hid hc
  clear hv hc
  go_enter Tryz.func143, Tryz.ntmps143
  go_wp2_with fail
  go_loopw [3, 4] (fun v3 v4 wr => SetPidOut w l v3 v4 wr) (fun _ v4 _ => l.length - (intOf v4).toNat)
  case atStart => exact ⟨0, by omega, rfl, grow_nil _, Below.refl _ _⟩
  case round =>
    rename World => wo
    obtain ⟨i, hi, rfl, HO, hbl⟩ := hrel
    by_cases hlt : i < l.length
    · obtain ⟨bl, ol, rfl, sl, hcl⟩ := HC.out.resolve_left (by omega)
      obtain ⟨x, hx⟩ := get_of_lt hlt
      have HF := Lib.hid (foldl_take (key := packPid) hx)
      have hlen := foldl_len (key := packPid) (l.take i) []
      generalize hout : (l.take i).foldl (fun out x => putS packPid x out) [] = out at *
      have hol : out.length ≤ i := by rw [List.length_take] at hlen; simp at hlen; omega
      have HXa : Hid (∀ W, Below wo.heap.size wo W → bl < W.heap.size ∧ ∀ j u, (encPid x)[j]? = some u → W.cell? ⟨bl, ol + i * 2 + j, none⟩ = some u) := fun W hW => hcl i x hx W (below_over hbl hbl.size hW)
      obtain ⟨ao, co, rfl, o1, o2, hco⟩ := HO.out.at encPid_len
      unfold maxLen at o2
      have HCo := Lib.hid hco
      have HBl := Lib.hid hbl
      clear hx hcl hlen hco hbl hout
      go_wp2_with fail
      go_hide hQ
      go_loopw [5, 6, 7] (fun v5 v6 v7 wi => SetPidIn wo x out v5 v6 v7 wi) (fun _ _ v7 _ => out.length - (intOf v7).toNat)
      case atStart => exact ⟨0, [], false, by omega, rfl, rfl, by simp, gown_nil _ _, restS_start _ _ _, Below.refl _ _⟩
      case round =>
        obtain ⟨k, M, t, hk, rfl, rfl, hM, HM, HR, hbi⟩ := hrel
        have htn := Bool.toNat_le t
        have hN : M.length + 1 ≤ 1099511627776 := by omega
        by_cases hk2 : k < out.length
        · obtain ⟨bo, oo, rfl, so, hcw⟩ := HCo.out.resolve_left (by omega)
          obtain ⟨y, hy⟩ := get_of_lt hk2
          have HYa : Hid (∀ W, Below wo.heap.size wo W → bo < W.heap.size ∧ ∀ j u, (encPid y)[j]? = some u → W.cell? ⟨bo, oo + k * 2 + j, none⟩ = some u) := fun W hW => hcw k y hy W hW
          have HR1 : Hid (putS packPid x out = M ++ restS packPid x t (y :: out.drop (k + 1))) := by show _ = _; rw [← drop_at hy]; exact HR.out
          have HBi := Lib.hid hbi
          clear hy hcw hbi HR
          cases t with
          | true =>
            have hM1 : M.length ≤ k + 1 := hM
            have HN : Hid (putS packPid x out = (M ++ [y]) ++ restS packPid x true (out.drop (k + 1))) := by show _ = _; rw [HR1.out, restS_t, restS_t]; simp
            have HXw := Lib.hid (HXa.out wr (HBi.out))
            have HYw := Lib.hid (HYa.out wr (HBi.out))
            have x0 : wr.cell? ⟨bl, ol + i * 2, none⟩ = some (.int .u8 (x.author.toNat : Int)) := (HXw.out).2 0 _ rfl
            have x1 : wr.cell? ⟨bl, ol + i * 2 + 1, none⟩ = some (.int .u16 (x.seq.toNat : Int)) := (HXw.out).2 1 _ rfl
            have y0 : wr.cell? ⟨bo, oo + k * 2, none⟩ = some (.int .u8 (y.author.toNat : Int)) := (HYw.out).2 0 _ rfl
            have y1 : wr.cell? ⟨bo, oo + k * 2 + 1, none⟩ = some (.int .u16 (y.seq.toNat : Int)) := (HYw.out).2 1 _ rfl
            have sX := HXw.out.1
            have sY := HYw.out.1
            have hB := HBi.out.size
            go_wp2_with fail
            have hcur : Below wr.heap.size wr wr.drew := (Below.refl _ _).drew
            refine wp_region_lex (C := IsOver wr) 14 [] (by kernel_rfl) (by kernel_rfl) (isOver_of (by repeat (first | exact Below.refl _ _ | apply Below.drew | apply below_drewN | (refine Below.alloc ?_ (by simp) _)))) ?_
            simp only [List.take_succ_cons, List.take_zero, List.drop_succ_cons, List.drop_zero]
            repeat (first | (refine lex_skip rfl rfl ?_; simp only [Act.put, List.setIfInBounds_toArray, List.set_cons_succ, List.set_cons_zero]) | (refine lex_one rfl ?_; go_big_quiet_step (fail); refine wpQuiet_nil ?_))
            refine lex_end ?_
            clear hcur
            go_wp2_with fail
            have hcur : Below wr.heap.size wr wr.drew.drew := (Below.refl _ _).drew.drew
            refine wp_region_lex (C := IsOver wr) 14 [] (by kernel_rfl) (by kernel_rfl) (isOver_of (by repeat (first | exact Below.refl _ _ | apply Below.drew | apply below_drewN | (refine Below.alloc ?_ (by simp) _)))) ?_
            simp only [List.take_succ_cons, List.take_zero, List.drop_succ_cons, List.drop_zero]
            repeat (first | (refine lex_skip rfl rfl ?_; simp only [Act.put, List.setIfInBounds_toArray, List.set_cons_succ, List.set_cons_zero]) | (refine lex_one rfl ?_; go_big_quiet_step (fail); refine wpQuiet_nil ?_))
            refine lex_end ?_
            clear hcur
            go_wp2_with (at_builtin; (first | refine wpList_append_newD slPid rfl _ _ rfl wo.heap.size _ _ (drawn_alloc_drewN _ _ _) 1 _ _ _ HM.out rfl rfl rfl rfl hN (by decide) hB ?_ | refine wpList_append_newD slPid rfl _ _ rfl wo.heap.size _ _ (drawn_drew _) 1 _ _ _ HM.out rfl rfl rfl rfl hN (by decide) hB ?_ | refine wpList_append_newD slPid rfl _ _ rfl wo.heap.size _ _ (drawn_drewN _ _) 1 _ _ _ HM.out rfl rfl rfl rfl hN (by decide) hB ?_ | refine wpList_append_newD slPid rfl _ _ rfl wo.heap.size _ _ (drawn_refl _) 1 _ _ _ HM.out rfl rfl rfl rfl hN (by decide) hB ?_); intro v2 w2 ho2 hg2)
            go_roundw
            case rel => exact ⟨k + 1, M ++ [y], true, hk2, by go_num, rfl, by simp; omega, GOwn.snoc ho2, HN, below_grown HBi.out HBi.out.size HM.out hg2⟩
            case measure => simp [intOf]; omega
          | false =>
            have hM0 : M.length ≤ k := hM
            by_cases hlt2 : packPid x < packPid y
            · have HK : Hid (cmpPid x y = -1) := cmpPid_lt hlt2
              have HN : Hid (putS packPid x out = (M ++ [x] ++ [y]) ++ restS packPid x true (out.drop (k + 1))) := by show _ = _; rw [HR1.out, restS_f, restS_t, putS_lt hlt2]; simp
              have hN2 : (M ++ [x]).length + 1 ≤ 1099511627776 := by simp; omega
              clear hlt2
              have HXw := Lib.hid (HXa.out wr (HBi.out))
              have HYw := Lib.hid (HYa.out wr (HBi.out))
              have x0 : wr.cell? ⟨bl, ol + i * 2, none⟩ = some (.int .u8 (x.author.toNat : Int)) := (HXw.out).2 0 _ rfl
              have x1 : wr.cell? ⟨bl, ol + i * 2 + 1, none⟩ = some (.int .u16 (x.seq.toNat : Int)) := (HXw.out).2 1 _ rfl
              have y0 : wr.cell? ⟨bo, oo + k * 2, none⟩ = some (.int .u8 (y.author.toNat : Int)) := (HYw.out).2 0 _ rfl
              have y1 : wr.cell? ⟨bo, oo + k * 2 + 1, none⟩ = some (.int .u16 (y.seq.toNat : Int)) := (HYw.out).2 1 _ rfl
              have sX := HXw.out.1
              have sY := HYw.out.1
              go_wp2_with fail
              have hcur : Below wr.heap.size wr wr.drew := (Below.refl _ _).drew
              refine wp_region_lex (C := IsOver wr) 14 [] (by kernel_rfl) (by kernel_rfl) (isOver_of (by repeat (first | exact Below.refl _ _ | apply Below.drew | apply below_drewN | (refine Below.alloc ?_ (by simp) _)))) ?_
              simp only [List.take_succ_cons, List.take_zero, List.drop_succ_cons, List.drop_zero]
              repeat (first | (refine lex_skip rfl rfl ?_; simp only [Act.put, List.setIfInBounds_toArray, List.set_cons_succ, List.set_cons_zero]) | (refine lex_one rfl ?_; go_big_quiet_step (fail); refine wpQuiet_nil ?_) | (refine lex_loud rfl ?_; go_wp2_with (first | (go_at_call 98; (with_reducible refine (rcmpPid_any _ _ _).mono ?_); rintro e w5 ⟨rfl, hb⟩; rw [HK.out]; replace hcur := below_over hcur hcur.size hb; clear hb)); refine ⟨isOver_of hcur, ?_⟩))
              refine lex_end ?_
              have HB5 := Lib.hid (below_over HBi.out HBi.out.size hcur)
              have HM5 := Lib.hid (HM.out.over hcur)
              have hB5 := HB5.out.size
              clear hcur x0 y0 x1 y1 sX sY
              have HXw := Lib.hid (HXa.out w5 (HB5.out))
              have HYw := Lib.hid (HYa.out w5 (HB5.out))
              have x0 : w5.cell? ⟨bl, ol + i * 2, none⟩ = some (.int .u8 (x.author.toNat : Int)) := (HXw.out).2 0 _ rfl
              have x1 : w5.cell? ⟨bl, ol + i * 2 + 1, none⟩ = some (.int .u16 (x.seq.toNat : Int)) := (HXw.out).2 1 _ rfl
              have y0 : w5.cell? ⟨bo, oo + k * 2, none⟩ = some (.int .u8 (y.author.toNat : Int)) := (HYw.out).2 0 _ rfl
              have y1 : w5.cell? ⟨bo, oo + k * 2 + 1, none⟩ = some (.int .u16 (y.seq.toNat : Int)) := (HYw.out).2 1 _ rfl
              have sX := HXw.out.1
              have sY := HYw.out.1
              go_wp2_with (at_builtin; (first | refine wpList_append_newD slPid rfl _ _ rfl wo.heap.size _ _ (drawn_alloc_drewN _ _ _) 1 _ _ _ HM5.out rfl rfl rfl rfl hN (by decide) hB5 ?_ | refine wpList_append_newD slPid rfl _ _ rfl wo.heap.size _ _ (drawn_drew _) 1 _ _ _ HM5.out rfl rfl rfl rfl hN (by decide) hB5 ?_ | refine wpList_append_newD slPid rfl _ _ rfl wo.heap.size _ _ (drawn_drewN _ _) 1 _ _ _ HM5.out rfl rfl rfl rfl hN (by decide) hB5 ?_ | refine wpList_append_newD slPid rfl _ _ rfl wo.heap.size _ _ (drawn_refl _) 1 _ _ _ HM5.out rfl rfl rfl rfl hN (by decide) hB5 ?_); intro v2 w2 ho2 hg2)
              have HB2 := Lib.hid (below_grown HB5.out hB5 HM5.out hg2)
              have HM2 : Hid (GOwn encPid 2 25 w2 wo.heap.size v2 (M ++ [x])) := GOwn.snoc ho2
              have hB2 := HB2.out.size
              clear hg2 ho2 x0 y0 x1 y1 sX sY
              have HXw := Lib.hid (HXa.out w2 (HB2.out))
              have HYw := Lib.hid (HYa.out w2 (HB2.out))
              have x0 : w2.cell? ⟨bl, ol + i * 2, none⟩ = some (.int .u8 (x.author.toNat : Int)) := (HXw.out).2 0 _ rfl
              have x1 : w2.cell? ⟨bl, ol + i * 2 + 1, none⟩ = some (.int .u16 (x.seq.toNat : Int)) := (HXw.out).2 1 _ rfl
              have y0 : w2.cell? ⟨bo, oo + k * 2, none⟩ = some (.int .u8 (y.author.toNat : Int)) := (HYw.out).2 0 _ rfl
              have y1 : w2.cell? ⟨bo, oo + k * 2 + 1, none⟩ = some (.int .u16 (y.seq.toNat : Int)) := (HYw.out).2 1 _ rfl
              have sX := HXw.out.1
              have sY := HYw.out.1
              go_wp2_with fail
              have hcur : Below w2.heap.size w2 w2.drew := (Below.refl _ _).drew
              refine wp_region_lex (C := IsOver w2) 14 [] (by kernel_rfl) (by kernel_rfl) (isOver_of (by repeat (first | exact Below.refl _ _ | apply Below.drew | apply below_drewN | (refine Below.alloc ?_ (by simp) _)))) ?_
              simp only [List.take_succ_cons, List.take_zero, List.drop_succ_cons, List.drop_zero]
              repeat (first | (refine lex_skip rfl rfl ?_; simp only [Act.put, List.setIfInBounds_toArray, List.set_cons_succ, List.set_cons_zero]) | (refine lex_one rfl ?_; go_big_quiet_step (fail); refine wpQuiet_nil ?_))
              refine lex_end ?_
              clear hcur
              go_wp2_with (at_builtin; (first | refine wpList_append_newD slPid rfl _ _ rfl wo.heap.size _ _ (drawn_alloc_drewN _ _ _) 1 _ _ _ HM2.out rfl rfl rfl rfl hN2 (by decide) hB2 ?_ | refine wpList_append_newD slPid rfl _ _ rfl wo.heap.size _ _ (drawn_drew _) 1 _ _ _ HM2.out rfl rfl rfl rfl hN2 (by decide) hB2 ?_ | refine wpList_append_newD slPid rfl _ _ rfl wo.heap.size _ _ (drawn_drewN _ _) 1 _ _ _ HM2.out rfl rfl rfl rfl hN2 (by decide) hB2 ?_ | refine wpList_append_newD slPid rfl _ _ rfl wo.heap.size _ _ (drawn_refl _) 1 _ _ _ HM2.out rfl rfl rfl rfl hN2 (by decide) hB2 ?_); intro v3 w3 ho3 hg3)
              go_roundw
              case rel => exact ⟨k + 1, M ++ [x] ++ [y], true, hk2, by go_num, rfl, by simp; omega, GOwn.snoc ho3, HN, below_grown HB2.out HB2.out.size HM2.out hg3⟩
              case measure => simp [intOf]; omega
            · by_cases heq : packPid x = packPid y
              · have HK : Hid (cmpPid x y = 0) := cmpPid_eq heq
                have HN : Hid (putS packPid x out = (M ++ [y]) ++ restS packPid x true (out.drop (k + 1))) := by show _ = _; rw [HR1.out, restS_f, putS_eq heq, restS_t]; simp
                clear hlt2 heq
                have HXw := Lib.hid (HXa.out wr (HBi.out))
                have HYw := Lib.hid (HYa.out wr (HBi.out))
                have x0 : wr.cell? ⟨bl, ol + i * 2, none⟩ = some (.int .u8 (x.author.toNat : Int)) := (HXw.out).2 0 _ rfl
                have x1 : wr.cell? ⟨bl, ol + i * 2 + 1, none⟩ = some (.int .u16 (x.seq.toNat : Int)) := (HXw.out).2 1 _ rfl
                have y0 : wr.cell? ⟨bo, oo + k * 2, none⟩ = some (.int .u8 (y.author.toNat : Int)) := (HYw.out).2 0 _ rfl
                have y1 : wr.cell? ⟨bo, oo + k * 2 + 1, none⟩ = some (.int .u16 (y.seq.toNat : Int)) := (HYw.out).2 1 _ rfl
                have sX := HXw.out.1
                have sY := HYw.out.1
                go_wp2_with fail
                have hcur : Below wr.heap.size wr wr.drew := (Below.refl _ _).drew
                refine wp_region_lex (C := IsOver wr) 14 [] (by kernel_rfl) (by kernel_rfl) (isOver_of (by repeat (first | exact Below.refl _ _ | apply Below.drew | apply below_drewN | (refine Below.alloc ?_ (by simp) _)))) ?_
                simp only [List.take_succ_cons, List.take_zero, List.drop_succ_cons, List.drop_zero]
                repeat (first | (refine lex_skip rfl rfl ?_; simp only [Act.put, List.setIfInBounds_toArray, List.set_cons_succ, List.set_cons_zero]) | (refine lex_one rfl ?_; go_big_quiet_step (fail); refine wpQuiet_nil ?_) | (refine lex_loud rfl ?_; go_wp2_with (first | (go_at_call 98; (with_reducible refine (rcmpPid_any _ _ _).mono ?_); rintro e w5 ⟨rfl, hb⟩; rw [HK.out]; replace hcur := below_over hcur hcur.size hb; clear hb)); refine ⟨isOver_of hcur, ?_⟩))
                refine lex_end ?_
                have HB5 := Lib.hid (below_over HBi.out HBi.out.size hcur)
                have HM5 := Lib.hid (HM.out.over hcur)
                clear hcur x0 y0 x1 y1 sX sY
                have HXw := Lib.hid (HXa.out w5 (HB5.out))
                have HYw := Lib.hid (HYa.out w5 (HB5.out))
                have x0 : w5.cell? ⟨bl, ol + i * 2, none⟩ = some (.int .u8 (x.author.toNat : Int)) := (HXw.out).2 0 _ rfl
                have x1 : w5.cell? ⟨bl, ol + i * 2 + 1, none⟩ = some (.int .u16 (x.seq.toNat : Int)) := (HXw.out).2 1 _ rfl
                have y0 : w5.cell? ⟨bo, oo + k * 2, none⟩ = some (.int .u8 (y.author.toNat : Int)) := (HYw.out).2 0 _ rfl
                have y1 : w5.cell? ⟨bo, oo + k * 2 + 1, none⟩ = some (.int .u16 (y.seq.toNat : Int)) := (HYw.out).2 1 _ rfl
                have sX := HXw.out.1
                have sY := HYw.out.1
                go_wp2_with fail
                have hcur : Below w5.heap.size w5 w5.drew := (Below.refl _ _).drew
                refine wp_region_lex (C := IsOver w5) 14 [] (by kernel_rfl) (by kernel_rfl) (isOver_of (by repeat (first | exact Below.refl _ _ | apply Below.drew | apply below_drewN | (refine Below.alloc ?_ (by simp) _)))) ?_
                simp only [List.take_succ_cons, List.take_zero, List.drop_succ_cons, List.drop_zero]
                repeat (first | (refine lex_skip rfl rfl ?_; simp only [Act.put, List.setIfInBounds_toArray, List.set_cons_succ, List.set_cons_zero]) | (refine lex_one rfl ?_; go_big_quiet_step (fail); refine wpQuiet_nil ?_) | (refine lex_loud rfl ?_; go_wp2_with (first | (go_at_call 98; (with_reducible refine (rcmpPid_any _ _ _).mono ?_); rintro e w6 ⟨rfl, hb⟩; rw [HK.out]; replace hcur := below_over hcur hcur.size hb; clear hb)); refine ⟨isOver_of hcur, ?_⟩))
                refine lex_end ?_
                have HB6 := Lib.hid (below_over HB5.out HB5.out.size hcur)
                have HM6 := Lib.hid (HM5.out.over hcur)
                have hB6 := HB6.out.size
                clear hcur x0 y0 x1 y1 sX sY
                have HXw := Lib.hid (HXa.out w6 (HB6.out))
                have HYw := Lib.hid (HYa.out w6 (HB6.out))
                have x0 : w6.cell? ⟨bl, ol + i * 2, none⟩ = some (.int .u8 (x.author.toNat : Int)) := (HXw.out).2 0 _ rfl
                have x1 : w6.cell? ⟨bl, ol + i * 2 + 1, none⟩ = some (.int .u16 (x.seq.toNat : Int)) := (HXw.out).2 1 _ rfl
                have y0 : w6.cell? ⟨bo, oo + k * 2, none⟩ = some (.int .u8 (y.author.toNat : Int)) := (HYw.out).2 0 _ rfl
                have y1 : w6.cell? ⟨bo, oo + k * 2 + 1, none⟩ = some (.int .u16 (y.seq.toNat : Int)) := (HYw.out).2 1 _ rfl
                have sX := HXw.out.1
                have sY := HYw.out.1
                go_wp2_with (at_builtin; (first | refine wpList_append_newD slPid rfl _ _ rfl wo.heap.size _ _ (drawn_alloc_drewN _ _ _) 1 _ _ _ HM6.out rfl rfl rfl rfl hN (by decide) hB6 ?_ | refine wpList_append_newD slPid rfl _ _ rfl wo.heap.size _ _ (drawn_drew _) 1 _ _ _ HM6.out rfl rfl rfl rfl hN (by decide) hB6 ?_ | refine wpList_append_newD slPid rfl _ _ rfl wo.heap.size _ _ (drawn_drewN _ _) 1 _ _ _ HM6.out rfl rfl rfl rfl hN (by decide) hB6 ?_ | refine wpList_append_newD slPid rfl _ _ rfl wo.heap.size _ _ (drawn_refl _) 1 _ _ _ HM6.out rfl rfl rfl rfl hN (by decide) hB6 ?_); intro v2 w2 ho2 hg2)
                go_roundw
                case rel => exact ⟨k + 1, M ++ [y], true, hk2, by go_num, rfl, by simp; omega, GOwn.snoc ho2, HN, below_grown HB6.out HB6.out.size HM6.out hg2⟩
                case measure => simp [intOf]; omega
              · have hgt : packPid y < packPid x := by omega
                clear heq
                have HK : Hid (cmpPid x y = 1) := cmpPid_gt hgt
                have HN : Hid (putS packPid x out = (M ++ [y]) ++ restS packPid x false (out.drop (k + 1))) := by show _ = _; rw [HR1.out, restS_f, putS_gt hgt, restS_f]; simp
                clear hlt2 hgt
                have HXw := Lib.hid (HXa.out wr (HBi.out))
                have HYw := Lib.hid (HYa.out wr (HBi.out))
                have x0 : wr.cell? ⟨bl, ol + i * 2, none⟩ = some (.int .u8 (x.author.toNat : Int)) := (HXw.out).2 0 _ rfl
                have x1 : wr.cell? ⟨bl, ol + i * 2 + 1, none⟩ = some (.int .u16 (x.seq.toNat : Int)) := (HXw.out).2 1 _ rfl
                have y0 : wr.cell? ⟨bo, oo + k * 2, none⟩ = some (.int .u8 (y.author.toNat : Int)) := (HYw.out).2 0 _ rfl
                have y1 : wr.cell? ⟨bo, oo + k * 2 + 1, none⟩ = some (.int .u16 (y.seq.toNat : Int)) := (HYw.out).2 1 _ rfl
                have sX := HXw.out.1
                have sY := HYw.out.1
                go_wp2_with fail
                have hcur : Below wr.heap.size wr wr.drew := (Below.refl _ _).drew
                refine wp_region_lex (C := IsOver wr) 14 [] (by kernel_rfl) (by kernel_rfl) (isOver_of (by repeat (first | exact Below.refl _ _ | apply Below.drew | apply below_drewN | (refine Below.alloc ?_ (by simp) _)))) ?_
                simp only [List.take_succ_cons, List.take_zero, List.drop_succ_cons, List.drop_zero]
                repeat (first | (refine lex_skip rfl rfl ?_; simp only [Act.put, List.setIfInBounds_toArray, List.set_cons_succ, List.set_cons_zero]) | (refine lex_one rfl ?_; go_big_quiet_step (fail); refine wpQuiet_nil ?_) | (refine lex_loud rfl ?_; go_wp2_with (first | (go_at_call 98; (with_reducible refine (rcmpPid_any _ _ _).mono ?_); rintro e w5 ⟨rfl, hb⟩; rw [HK.out]; replace hcur := below_over hcur hcur.size hb; clear hb)); refine ⟨isOver_of hcur, ?_⟩))
                refine lex_end ?_
                have HB5 := Lib.hid (below_over HBi.out HBi.out.size hcur)
                have HM5 := Lib.hid (HM.out.over hcur)
                clear hcur x0 y0 x1 y1 sX sY
                have HXw := Lib.hid (HXa.out w5 (HB5.out))
                have HYw := Lib.hid (HYa.out w5 (HB5.out))
                have x0 : w5.cell? ⟨bl, ol + i * 2, none⟩ = some (.int .u8 (x.author.toNat : Int)) := (HXw.out).2 0 _ rfl
                have x1 : w5.cell? ⟨bl, ol + i * 2 + 1, none⟩ = some (.int .u16 (x.seq.toNat : Int)) := (HXw.out).2 1 _ rfl
                have y0 : w5.cell? ⟨bo, oo + k * 2, none⟩ = some (.int .u8 (y.author.toNat : Int)) := (HYw.out).2 0 _ rfl
                have y1 : w5.cell? ⟨bo, oo + k * 2 + 1, none⟩ = some (.int .u16 (y.seq.toNat : Int)) := (HYw.out).2 1 _ rfl
                have sX := HXw.out.1
                have sY := HYw.out.1
                go_wp2_with fail
                have hcur : Below w5.heap.size w5 w5.drew := (Below.refl _ _).drew
                refine wp_region_lex (C := IsOver w5) 14 [] (by kernel_rfl) (by kernel_rfl) (isOver_of (by repeat (first | exact Below.refl _ _ | apply Below.drew | apply below_drewN | (refine Below.alloc ?_ (by simp) _)))) ?_
                simp only [List.take_succ_cons, List.take_zero, List.drop_succ_cons, List.drop_zero]
                repeat (first | (refine lex_skip rfl rfl ?_; simp only [Act.put, List.setIfInBounds_toArray, List.set_cons_succ, List.set_cons_zero]) | (refine lex_one rfl ?_; go_big_quiet_step (fail); refine wpQuiet_nil ?_) | (refine lex_loud rfl ?_; go_wp2_with (first | (go_at_call 98; (with_reducible refine (rcmpPid_any _ _ _).mono ?_); rintro e w6 ⟨rfl, hb⟩; rw [HK.out]; replace hcur := below_over hcur hcur.size hb; clear hb)); refine ⟨isOver_of hcur, ?_⟩))
                refine lex_end ?_
                have HB6 := Lib.hid (below_over HB5.out HB5.out.size hcur)
                have HM6 := Lib.hid (HM5.out.over hcur)
                have hB6 := HB6.out.size
                clear hcur x0 y0 x1 y1 sX sY
                have HXw := Lib.hid (HXa.out w6 (HB6.out))
                have HYw := Lib.hid (HYa.out w6 (HB6.out))
                have x0 : w6.cell? ⟨bl, ol + i * 2, none⟩ = some (.int .u8 (x.author.toNat : Int)) := (HXw.out).2 0 _ rfl
                have x1 : w6.cell? ⟨bl, ol + i * 2 + 1, none⟩ = some (.int .u16 (x.seq.toNat : Int)) := (HXw.out).2 1 _ rfl
                have y0 : w6.cell? ⟨bo, oo + k * 2, none⟩ = some (.int .u8 (y.author.toNat : Int)) := (HYw.out).2 0 _ rfl
                have y1 : w6.cell? ⟨bo, oo + k * 2 + 1, none⟩ = some (.int .u16 (y.seq.toNat : Int)) := (HYw.out).2 1 _ rfl
                have sX := HXw.out.1
                have sY := HYw.out.1
                go_wp2_with (at_builtin; (first | refine wpList_append_newD slPid rfl _ _ rfl wo.heap.size _ _ (drawn_alloc_drewN _ _ _) 1 _ _ _ HM6.out rfl rfl rfl rfl hN (by decide) hB6 ?_ | refine wpList_append_newD slPid rfl _ _ rfl wo.heap.size _ _ (drawn_drew _) 1 _ _ _ HM6.out rfl rfl rfl rfl hN (by decide) hB6 ?_ | refine wpList_append_newD slPid rfl _ _ rfl wo.heap.size _ _ (drawn_drewN _ _) 1 _ _ _ HM6.out rfl rfl rfl rfl hN (by decide) hB6 ?_ | refine wpList_append_newD slPid rfl _ _ rfl wo.heap.size _ _ (drawn_refl _) 1 _ _ _ HM6.out rfl rfl rfl rfl hN (by decide) hB6 ?_); intro v2 w2 ho2 hg2)
                go_roundw
                case rel => exact ⟨k + 1, M ++ [y], false, hk2, by go_num, rfl, by simp; omega, GOwn.snoc ho2, HN, below_grown HB6.out HB6.out.size HM6.out hg2⟩
                case measure => simp [intOf]; omega
        · have hke : k = out.length := by omega
          subst hke
          rw [List.drop_length] at HR
          have HBi := Lib.hid hbi
          have hbw := below_over HBl.out HBl.out.size hbi
          cases t with
          | true =>
            have HE : Hid (putS packPid x out = M) := by show _ = _; rw [HR.out, restS_t]; simp
            go_wp2_with fail
            subst hQ
            go_wp2_with fail
            go_roundw
            case rel => exact ⟨i + 1, hlt, by go_num, (by show GRow _ _ _ _ _; rw [HF.out, HE.out]; exact HM.out.row), hbw⟩
            case measure => simp [intOf]; omega
          | false =>
            have HE : Hid (putS packPid x out = M ++ [x]) := by show _ = _; rw [HR.out, restS_f, putS_nil]
            have HXw := Lib.hid (HXa.out wr HBi.out)
            have x0 : wr.cell? ⟨bl, ol + i * 2, none⟩ = some (.int .u8 (x.author.toNat : Int)) := (HXw.out).2 0 _ rfl
            have x1 : wr.cell? ⟨bl, ol + i * 2 + 1, none⟩ = some (.int .u16 (x.seq.toNat : Int)) := (HXw.out).2 1 _ rfl
            have sX := HXw.out.1
            have hB := HBi.out.size
            go_wp2_with fail
            subst hQ
            go_wp2_with (at_builtin; (first | refine wpList_append_newD slPid rfl _ _ rfl wo.heap.size _ _ (drawn_alloc_drewN _ _ _) 1 _ _ _ HM.out rfl rfl rfl rfl hN (by decide) hB ?_ | refine wpList_append_newD slPid rfl _ _ rfl wo.heap.size _ _ (drawn_drew _) 1 _ _ _ HM.out rfl rfl rfl rfl hN (by decide) hB ?_ | refine wpList_append_newD slPid rfl _ _ rfl wo.heap.size _ _ (drawn_drewN _ _) 1 _ _ _ HM.out rfl rfl rfl rfl hN (by decide) hB ?_ | refine wpList_append_newD slPid rfl _ _ rfl wo.heap.size _ _ (drawn_refl _) 1 _ _ _ HM.out rfl rfl rfl rfl hN (by decide) hB ?_); intro v2 w2 ho2 hg2)
            go_roundw
            case rel => exact ⟨i + 1, hlt, by go_num, (by show GRow _ _ _ _ _; rw [HF.out, HE.out]; exact (GOwn.snoc ho2).row), below_over HBl.out HBl.out.size (below_grown HBi.out hB HM.out hg2)⟩
            case measure => simp [intOf]; omega
    · obtain rfl : i = l.length := by omega
      have HE := HO.out
      rw [List.take_length] at HE
      go_wp2_with fail
      go_ret
      exact ⟨_, rfl, HE, hbl⟩

def SetVidOut (w : World) (l : List VidM) (v3 v4 : Value) (wr : World) : Prop :=
  ∃ i : Nat, i ≤ l.length ∧ v4 = .int .i64 i ∧ Hid (GRow encVid 3 wr v3 ((l.take i).foldl (fun out x => putS packVid x out) [])) ∧ Below w.heap.size w wr
def SetVidIn (wo : World) (x : VidM) (out : List VidM) (v5 v6 v7 : Value) (wr : World) : Prop :=
  ∃ (k : Nat) (M : List VidM) (t : Bool), k ≤ out.length ∧ v7 = .int .i64 k ∧ v6 = .bool t ∧ M.length ≤ k + t.toNat ∧ Hid (GOwn encVid 3 27 wr wo.heap.size v5 M) ∧ Hid (putS packVid x out = M ++ restS packVid x t (out.drop k)) ∧ Below wo.heap.size wo wr
set_option maxHeartbeats 20000000 in
set_option maxRecDepth 100000 in
theorem rsetVid_any (v : Value) (l : List VidM) (w : World) (hv : GRow encVid 3 w v l) (hl : l.length ≤ 100000) :
    Calls Tryz.prog 82 #[v] w (SetRes encVid 3 w (setS packVid l)) := by
  obtain ⟨a, cap, rfl, h1, h2, hc⟩ := hv.at encVid_len
  unfold maxLen at h2
  have HC := Lib.hid hc
  clear hv hc
  go_enter Tryz.func82, Tryz.ntmps82
  go_wp2_with fail
  go_loopw [3, 4] (fun v3 v4 wr => SetVidOut w l v3 v4 wr) (fun _ v4 _ => l.length - (intOf v4).toNat)
  case atStart => exact ⟨0, by omega, rfl, grow_nil _, Below.refl _ _⟩
  case round =>
    rename World => wo
    obtain ⟨i, hi, rfl, HO, hbl⟩ := hrel
    by_cases hlt : i < l.length
    · obtain ⟨bl, ol, rfl, sl, hcl⟩ := HC.out.resolve_left (by omega)
      obtain ⟨x, hx⟩ := get_of_lt hlt
      have HF := Lib.hid (foldl_take (key := packVid) hx)
      have hlen := foldl_len (key := packVid) (l.take i) []
      generalize hout : (l.take i).foldl (fun out x => putS packVid x out) [] = out at *
      have hol : out.length ≤ i := by rw [List.length_take] at hlen; simp at hlen; omega
      have HXa : Hid (∀ W, Below wo.heap.size wo W → bl < W.heap.size ∧ ∀ j u, (encVid x)[j]? = some u → W.cell? ⟨bl, ol + i * 3 + j, none⟩ = some u) := fun W hW => hcl i x hx W (below_over hbl hbl.size hW)
      obtain ⟨ao, co, rfl, o1, o2, hco⟩ := HO.out.at encVid_len
      unfold maxLen at o2
      have HCo := Lib.hid hco
      have HBl := Lib.hid hbl
      clear hx hcl hlen hco hbl hout
      go_wp2_with fail
      go_hide hQ
      go_loopw [5, 6, 7] (fun v5 v6 v7 wi => SetVidIn wo x out v5 v6 v7 wi) (fun _ _ v7 _ => out.length - (intOf v7).toNat)
      case atStart => exact ⟨0, [], false, by omega, rfl, rfl, by simp, gown_nil _ _, restS_startV _ _ _, Below.refl _ _⟩
      case round =>
        obtain ⟨k, M, t, hk, rfl, rfl, hM, HM, HR, hbi⟩ := hrel
        have htn := Bool.toNat_le t
        have hN : M.length + 1 ≤ 1099511627776 := by omega
        by_cases hk2 : k < out.length
        · obtain ⟨bo, oo, rfl, so, hcw⟩ := HCo.out.resolve_left (by omega)
          obtain ⟨y, hy⟩ := get_of_lt hk2
          have HYa : Hid (∀ W, Below wo.heap.size wo W → bo < W.heap.size ∧ ∀ j u, (encVid y)[j]? = some u → W.cell? ⟨bo, oo + k * 3 + j, none⟩ = some u) := fun W hW => hcw k y hy W hW
          have HR1 : Hid (putS packVid x out = M ++ restS packVid x t (y :: out.drop (k + 1))) := by show _ = _; rw [← drop_at hy]; exact HR.out
          have HBi := Lib.hid hbi
          clear hy hcw hbi HR
          cases t with
          | true =>
            have hM1 : M.length ≤ k + 1 := hM
            have HN : Hid (putS packVid x out = (M ++ [y]) ++ restS packVid x true (out.drop (k + 1))) := by show _ = _; rw [HR1.out, restS_t, restS_t]; simp
            have HXw := Lib.hid (HXa.out wr (HBi.out))
            have HYw := Lib.hid (HYa.out wr (HBi.out))
            have x0 : wr.cell? ⟨bl, ol + i * 3, none⟩ = some (.int .u8 (x.pid.author.toNat : Int)) := (HXw.out).2 0 _ rfl
            have x1 : wr.cell? ⟨bl, ol + i * 3 + 1, none⟩ = some (.int .u16 (x.pid.seq.toNat : Int)) := (HXw.out).2 1 _ rfl
            have x2 : wr.cell? ⟨bl, ol + i * 3 + 2, none⟩ = some (.int .u8 (x.n.toNat : Int)) := (HXw.out).2 2 _ rfl
            have y0 : wr.cell? ⟨bo, oo + k * 3, none⟩ = some (.int .u8 (y.pid.author.toNat : Int)) := (HYw.out).2 0 _ rfl
            have y1 : wr.cell? ⟨bo, oo + k * 3 + 1, none⟩ = some (.int .u16 (y.pid.seq.toNat : Int)) := (HYw.out).2 1 _ rfl
            have y2 : wr.cell? ⟨bo, oo + k * 3 + 2, none⟩ = some (.int .u8 (y.n.toNat : Int)) := (HYw.out).2 2 _ rfl
            have sX := HXw.out.1
            have sY := HYw.out.1
            have hB := HBi.out.size
            go_wp2_with fail
            have hcur : Below wr.heap.size wr wr.drew := (Below.refl _ _).drew
            refine wp_region_lex (C := IsOver wr) 14 [] (by kernel_rfl) (by kernel_rfl) (isOver_of (by repeat (first | exact Below.refl _ _ | apply Below.drew | apply below_drewN | (refine Below.alloc ?_ (by simp) _)))) ?_
            simp only [List.take_succ_cons, List.take_zero, List.drop_succ_cons, List.drop_zero]
            repeat (first | (refine lex_skip rfl rfl ?_; simp only [Act.put, List.setIfInBounds_toArray, List.set_cons_succ, List.set_cons_zero]) | (refine lex_one rfl ?_; go_big_quiet_step (fail); refine wpQuiet_nil ?_))
            refine lex_end ?_
            clear hcur
            go_wp2_with fail
            have hcur : Below wr.heap.size wr wr.drew.drew := (Below.refl _ _).drew.drew
            refine wp_region_lex (C := IsOver wr) 14 [] (by kernel_rfl) (by kernel_rfl) (isOver_of (by repeat (first | exact Below.refl _ _ | apply Below.drew | apply below_drewN | (refine Below.alloc ?_ (by simp) _)))) ?_
            simp only [List.take_succ_cons, List.take_zero, List.drop_succ_cons, List.drop_zero]
            repeat (first | (refine lex_skip rfl rfl ?_; simp only [Act.put, List.setIfInBounds_toArray, List.set_cons_succ, List.set_cons_zero]) | (refine lex_one rfl ?_; go_big_quiet_step (fail); refine wpQuiet_nil ?_))
            refine lex_end ?_
            clear hcur
            go_wp2_with (at_builtin; (first | refine wpList_append_newD slVid rfl _ _ rfl wo.heap.size _ _ (drawn_alloc_drewN _ _ _) 1 _ _ _ HM.out rfl rfl rfl rfl hN (by decide) hB ?_ | refine wpList_append_newD slVid rfl _ _ rfl wo.heap.size _ _ (drawn_drew _) 1 _ _ _ HM.out rfl rfl rfl rfl hN (by decide) hB ?_ | refine wpList_append_newD slVid rfl _ _ rfl wo.heap.size _ _ (drawn_drewN _ _) 1 _ _ _ HM.out rfl rfl rfl rfl hN (by decide) hB ?_ | refine wpList_append_newD slVid rfl _ _ rfl wo.heap.size _ _ (drawn_refl _) 1 _ _ _ HM.out rfl rfl rfl rfl hN (by decide) hB ?_); intro v2 w2 ho2 hg2)
            go_roundw
            case rel => exact ⟨k + 1, M ++ [y], true, hk2, by go_num, rfl, by simp; omega, GOwn.snoc ho2, HN, below_grown HBi.out HBi.out.size HM.out hg2⟩
            case measure => simp [intOf]; omega
          | false =>
            have hM0 : M.length ≤ k := hM
            by_cases hlt2 : packVid x < packVid y
            · have HK : Hid (cmpVid x y = -1) := cmpVid_lt hlt2
              have HN : Hid (putS packVid x out = (M ++ [x] ++ [y]) ++ restS packVid x true (out.drop (k + 1))) := by show _ = _; rw [HR1.out, restS_f, restS_t, putS_lt hlt2]; simp
              have hN2 : (M ++ [x]).length + 1 ≤ 1099511627776 := by simp; omega
              clear hlt2
              have HXw := Lib.hid (HXa.out wr (HBi.out))
              have HYw := Lib.hid (HYa.out wr (HBi.out))
              have x0 : wr.cell? ⟨bl, ol + i * 3, none⟩ = some (.int .u8 (x.pid.author.toNat : Int)) := (HXw.out).2 0 _ rfl
              have x1 : wr.cell? ⟨bl, ol + i * 3 + 1, none⟩ = some (.int .u16 (x.pid.seq.toNat : Int)) := (HXw.out).2 1 _ rfl
              have x2 : wr.cell? ⟨bl, ol + i * 3 + 2, none⟩ = some (.int .u8 (x.n.toNat : Int)) := (HXw.out).2 2 _ rfl
              have y0 : wr.cell? ⟨bo, oo + k * 3, none⟩ = some (.int .u8 (y.pid.author.toNat : Int)) := (HYw.out).2 0 _ rfl
              have y1 : wr.cell? ⟨bo, oo + k * 3 + 1, none⟩ = some (.int .u16 (y.pid.seq.toNat : Int)) := (HYw.out).2 1 _ rfl
              have y2 : wr.cell? ⟨bo, oo + k * 3 + 2, none⟩ = some (.int .u8 (y.n.toNat : Int)) := (HYw.out).2 2 _ rfl
              have sX := HXw.out.1
              have sY := HYw.out.1
              go_wp2_with fail
              have hcur : Below wr.heap.size wr wr.drew := (Below.refl _ _).drew
              refine wp_region_lex (C := IsOver wr) 14 [] (by kernel_rfl) (by kernel_rfl) (isOver_of (by repeat (first | exact Below.refl _ _ | apply Below.drew | apply below_drewN | (refine Below.alloc ?_ (by simp) _)))) ?_
              simp only [List.take_succ_cons, List.take_zero, List.drop_succ_cons, List.drop_zero]
              repeat (first | (refine lex_skip rfl rfl ?_; simp only [Act.put, List.setIfInBounds_toArray, List.set_cons_succ, List.set_cons_zero]) | (refine lex_one rfl ?_; go_big_quiet_step (fail); refine wpQuiet_nil ?_) | (refine lex_loud rfl ?_; go_wp2_with (first | (go_at_call 57; (with_reducible refine (rcmpVid_any _ _ _).mono ?_); rintro e w5 ⟨rfl, hb⟩; rw [HK.out]; replace hcur := below_over hcur hcur.size hb; clear hb)); refine ⟨isOver_of hcur, ?_⟩))
              refine lex_end ?_
              have HB5 := Lib.hid (below_over HBi.out HBi.out.size hcur)
              have HM5 := Lib.hid (HM.out.over hcur)
              have hB5 := HB5.out.size
              clear hcur x0 y0 x1 y1 x2 y2 sX sY
              have HXw := Lib.hid (HXa.out w5 (HB5.out))
              have HYw := Lib.hid (HYa.out w5 (HB5.out))
              have x0 : w5.cell? ⟨bl, ol + i * 3, none⟩ = some (.int .u8 (x.pid.author.toNat : Int)) := (HXw.out).2 0 _ rfl
              have x1 : w5.cell? ⟨bl, ol + i * 3 + 1, none⟩ = some (.int .u16 (x.pid.seq.toNat : Int)) := (HXw.out).2 1 _ rfl
              have x2 : w5.cell? ⟨bl, ol + i * 3 + 2, none⟩ = some (.int .u8 (x.n.toNat : Int)) := (HXw.out).2 2 _ rfl
              have y0 : w5.cell? ⟨bo, oo + k * 3, none⟩ = some (.int .u8 (y.pid.author.toNat : Int)) := (HYw.out).2 0 _ rfl
              have y1 : w5.cell? ⟨bo, oo + k * 3 + 1, none⟩ = some (.int .u16 (y.pid.seq.toNat : Int)) := (HYw.out).2 1 _ rfl
              have y2 : w5.cell? ⟨bo, oo + k * 3 + 2, none⟩ = some (.int .u8 (y.n.toNat : Int)) := (HYw.out).2 2 _ rfl
              have sX := HXw.out.1
              have sY := HYw.out.1
              go_wp2_with (at_builtin; (first | refine wpList_append_newD slVid rfl _ _ rfl wo.heap.size _ _ (drawn_alloc_drewN _ _ _) 1 _ _ _ HM5.out rfl rfl rfl rfl hN (by decide) hB5 ?_ | refine wpList_append_newD slVid rfl _ _ rfl wo.heap.size _ _ (drawn_drew _) 1 _ _ _ HM5.out rfl rfl rfl rfl hN (by decide) hB5 ?_ | refine wpList_append_newD slVid rfl _ _ rfl wo.heap.size _ _ (drawn_drewN _ _) 1 _ _ _ HM5.out rfl rfl rfl rfl hN (by decide) hB5 ?_ | refine wpList_append_newD slVid rfl _ _ rfl wo.heap.size _ _ (drawn_refl _) 1 _ _ _ HM5.out rfl rfl rfl rfl hN (by decide) hB5 ?_); intro v2 w2 ho2 hg2)
              have HB2 := Lib.hid (below_grown HB5.out hB5 HM5.out hg2)
              have HM2 : Hid (GOwn encVid 3 27 w2 wo.heap.size v2 (M ++ [x])) := GOwn.snoc ho2
              have hB2 := HB2.out.size
              clear hg2 ho2 x0 y0 x1 y1 x2 y2 sX sY
              have HXw := Lib.hid (HXa.out w2 (HB2.out))
              have HYw := Lib.hid (HYa.out w2 (HB2.out))
              have x0 : w2.cell? ⟨bl, ol + i * 3, none⟩ = some (.int .u8 (x.pid.author.toNat : Int)) := (HXw.out).2 0 _ rfl
              have x1 : w2.cell? ⟨bl, ol + i * 3 + 1, none⟩ = some (.int .u16 (x.pid.seq.toNat : Int)) := (HXw.out).2 1 _ rfl
              have x2 : w2.cell? ⟨bl, ol + i * 3 + 2, none⟩ = some (.int .u8 (x.n.toNat : Int)) := (HXw.out).2 2 _ rfl
              have y0 : w2.cell? ⟨bo, oo + k * 3, none⟩ = some (.int .u8 (y.pid.author.toNat : Int)) := (HYw.out).2 0 _ rfl
              have y1 : w2.cell? ⟨bo, oo + k * 3 + 1, none⟩ = some (.int .u16 (y.pid.seq.toNat : Int)) := (HYw.out).2 1 _ rfl
              have y2 : w2.cell? ⟨bo, oo + k * 3 + 2, none⟩ = some (.int .u8 (y.n.toNat : Int)) := (HYw.out).2 2 _ rfl
              have sX := HXw.out.1
              have sY := HYw.out.1
              go_wp2_with fail
              have hcur : Below w2.heap.size w2 w2.drew := (Below.refl _ _).drew
              refine wp_region_lex (C := IsOver w2) 14 [] (by kernel_rfl) (by kernel_rfl) (isOver_of (by repeat (first | exact Below.refl _ _ | apply Below.drew | apply below_drewN | (refine Below.alloc ?_ (by simp) _)))) ?_
              simp only [List.take_succ_cons, List.take_zero, List.drop_succ_cons, List.drop_zero]
              repeat (first | (refine lex_skip rfl rfl ?_; simp only [Act.put, List.setIfInBounds_toArray, List.set_cons_succ, List.set_cons_zero]) | (refine lex_one rfl ?_; go_big_quiet_step (fail); refine wpQuiet_nil ?_))
              refine lex_end ?_
              clear hcur
              go_wp2_with (at_builtin; (first | refine wpList_append_newD slVid rfl _ _ rfl wo.heap.size _ _ (drawn_alloc_drewN _ _ _) 1 _ _ _ HM2.out rfl rfl rfl rfl hN2 (by decide) hB2 ?_ | refine wpList_append_newD slVid rfl _ _ rfl wo.heap.size _ _ (drawn_drew _) 1 _ _ _ HM2.out rfl rfl rfl rfl hN2 (by decide) hB2 ?_ | refine wpList_append_newD slVid rfl _ _ rfl wo.heap.size _ _ (drawn_drewN _ _) 1 _ _ _ HM2.out rfl rfl rfl rfl hN2 (by decide) hB2 ?_ | refine wpList_append_newD slVid rfl _ _ rfl wo.heap.size _ _ (drawn_refl _) 1 _ _ _ HM2.out rfl rfl rfl rfl hN2 (by decide) hB2 ?_); intro v3 w3 ho3 hg3)
              go_roundw
              case rel => exact ⟨k + 1, M ++ [x] ++ [y], true, hk2, by go_num, rfl, by simp; omega, GOwn.snoc ho3, HN, below_grown HB2.out HB2.out.size HM2.out hg3⟩
              case measure => simp [intOf]; omega
            · by_cases heq : packVid x = packVid y
              · have HK : Hid (cmpVid x y = 0) := cmpVid_eq heq
                have HN : Hid (putS packVid x out = (M ++ [y]) ++ restS packVid x true (out.drop (k + 1))) := by show _ = _; rw [HR1.out, restS_f, putS_eq heq, restS_t]; simp
                clear hlt2 heq
                have HXw := Lib.hid (HXa.out wr (HBi.out))
                have HYw := Lib.hid (HYa.out wr (HBi.out))
                have x0 : wr.cell? ⟨bl, ol + i * 3, none⟩ = some (.int .u8 (x.pid.author.toNat : Int)) := (HXw.out).2 0 _ rfl
                have x1 : wr.cell? ⟨bl, ol + i * 3 + 1, none⟩ = some (.int .u16 (x.pid.seq.toNat : Int)) := (HXw.out).2 1 _ rfl
                have x2 : wr.cell? ⟨bl, ol + i * 3 + 2, none⟩ = some (.int .u8 (x.n.toNat : Int)) := (HXw.out).2 2 _ rfl
                have y0 : wr.cell? ⟨bo, oo + k * 3, none⟩ = some (.int .u8 (y.pid.author.toNat : Int)) := (HYw.out).2 0 _ rfl
                have y1 : wr.cell? ⟨bo, oo + k * 3 + 1, none⟩ = some (.int .u16 (y.pid.seq.toNat : Int)) := (HYw.out).2 1 _ rfl
                have y2 : wr.cell? ⟨bo, oo + k * 3 + 2, none⟩ = some (.int .u8 (y.n.toNat : Int)) := (HYw.out).2 2 _ rfl
                have sX := HXw.out.1
                have sY := HYw.out.1
                go_wp2_with fail
                have hcur : Below wr.heap.size wr wr.drew := (Below.refl _ _).drew
                refine wp_region_lex (C := IsOver wr) 14 [] (by kernel_rfl) (by kernel_rfl) (isOver_of (by repeat (first | exact Below.refl _ _ | apply Below.drew | apply below_drewN | (refine Below.alloc ?_ (by simp) _)))) ?_
                simp only [List.take_succ_cons, List.take_zero, List.drop_succ_cons, List.drop_zero]
                repeat (first | (refine lex_skip rfl rfl ?_; simp only [Act.put, List.setIfInBounds_toArray, List.set_cons_succ, List.set_cons_zero]) | (refine lex_one rfl ?_; go_big_quiet_step (fail); refine wpQuiet_nil ?_) | (refine lex_loud rfl ?_; go_wp2_with (first | (go_at_call 57; (with_reducible refine (rcmpVid_any _ _ _).mono ?_); rintro e w5 ⟨rfl, hb⟩; rw [HK.out]; replace hcur := below_over hcur hcur.size hb; clear hb)); refine ⟨isOver_of hcur, ?_⟩))
                refine lex_end ?_
                have HB5 := Lib.hid (below_over HBi.out HBi.out.size hcur)
                have HM5 := Lib.hid (HM.out.over hcur)
                clear hcur x0 y0 x1 y1 x2 y2 sX sY
                have HXw := Lib.hid (HXa.out w5 (HB5.out))
                have HYw := Lib.hid (HYa.out w5 (HB5.out))
                have x0 : w5.cell? ⟨bl, ol + i * 3, none⟩ = some (.int .u8 (x.pid.author.toNat : Int)) := (HXw.out).2 0 _ rfl
                have x1 : w5.cell? ⟨bl, ol + i * 3 + 1, none⟩ = some (.int .u16 (x.pid.seq.toNat : Int)) := (HXw.out).2 1 _ rfl
                have x2 : w5.cell? ⟨bl, ol + i * 3 + 2, none⟩ = some (.int .u8 (x.n.toNat : Int)) := (HXw.out).2 2 _ rfl
                have y0 : w5.cell? ⟨bo, oo + k * 3, none⟩ = some (.int .u8 (y.pid.author.toNat : Int)) := (HYw.out).2 0 _ rfl
                have y1 : w5.cell? ⟨bo, oo + k * 3 + 1, none⟩ = some (.int .u16 (y.pid.seq.toNat : Int)) := (HYw.out).2 1 _ rfl
                have y2 : w5.cell? ⟨bo, oo + k * 3 + 2, none⟩ = some (.int .u8 (y.n.toNat : Int)) := (HYw.out).2 2 _ rfl
                have sX := HXw.out.1
                have sY := HYw.out.1
                go_wp2_with fail
                have hcur : Below w5.heap.size w5 w5.drew := (Below.refl _ _).drew
                refine wp_region_lex (C := IsOver w5) 14 [] (by kernel_rfl) (by kernel_rfl) (isOver_of (by repeat (first | exact Below.refl _ _ | apply Below.drew | apply below_drewN | (refine Below.alloc ?_ (by simp) _)))) ?_
                simp only [List.take_succ_cons, List.take_zero, List.drop_succ_cons, List.drop_zero]
                repeat (first | (refine lex_skip rfl rfl ?_; simp only [Act.put, List.setIfInBounds_toArray, List.set_cons_succ, List.set_cons_zero]) | (refine lex_one rfl ?_; go_big_quiet_step (fail); refine wpQuiet_nil ?_) | (refine lex_loud rfl ?_; go_wp2_with (first | (go_at_call 57; (with_reducible refine (rcmpVid_any _ _ _).mono ?_); rintro e w6 ⟨rfl, hb⟩; rw [HK.out]; replace hcur := below_over hcur hcur.size hb; clear hb)); refine ⟨isOver_of hcur, ?_⟩))
                refine lex_end ?_
                have HB6 := Lib.hid (below_over HB5.out HB5.out.size hcur)
                have HM6 := Lib.hid (HM5.out.over hcur)
                have hB6 := HB6.out.size
                clear hcur x0 y0 x1 y1 x2 y2 sX sY
                have HXw := Lib.hid (HXa.out w6 (HB6.out))
                have HYw := Lib.hid (HYa.out w6 (HB6.out))
                have x0 : w6.cell? ⟨bl, ol + i * 3, none⟩ = some (.int .u8 (x.pid.author.toNat : Int)) := (HXw.out).2 0 _ rfl
                have x1 : w6.cell? ⟨bl, ol + i * 3 + 1, none⟩ = some (.int .u16 (x.pid.seq.toNat : Int)) := (HXw.out).2 1 _ rfl
                have x2 : w6.cell? ⟨bl, ol + i * 3 + 2, none⟩ = some (.int .u8 (x.n.toNat : Int)) := (HXw.out).2 2 _ rfl
                have y0 : w6.cell? ⟨bo, oo + k * 3, none⟩ = some (.int .u8 (y.pid.author.toNat : Int)) := (HYw.out).2 0 _ rfl
                have y1 : w6.cell? ⟨bo, oo + k * 3 + 1, none⟩ = some (.int .u16 (y.pid.seq.toNat : Int)) := (HYw.out).2 1 _ rfl
                have y2 : w6.cell? ⟨bo, oo + k * 3 + 2, none⟩ = some (.int .u8 (y.n.toNat : Int)) := (HYw.out).2 2 _ rfl
                have sX := HXw.out.1
                have sY := HYw.out.1
                go_wp2_with (at_builtin; (first | refine wpList_append_newD slVid rfl _ _ rfl wo.heap.size _ _ (drawn_alloc_drewN _ _ _) 1 _ _ _ HM6.out rfl rfl rfl rfl hN (by decide) hB6 ?_ | refine wpList_append_newD slVid rfl _ _ rfl wo.heap.size _ _ (drawn_drew _) 1 _ _ _ HM6.out rfl rfl rfl rfl hN (by decide) hB6 ?_ | refine wpList_append_newD slVid rfl _ _ rfl wo.heap.size _ _ (drawn_drewN _ _) 1 _ _ _ HM6.out rfl rfl rfl rfl hN (by decide) hB6 ?_ | refine wpList_append_newD slVid rfl _ _ rfl wo.heap.size _ _ (drawn_refl _) 1 _ _ _ HM6.out rfl rfl rfl rfl hN (by decide) hB6 ?_); intro v2 w2 ho2 hg2)
                go_roundw
                case rel => exact ⟨k + 1, M ++ [y], true, hk2, by go_num, rfl, by simp; omega, GOwn.snoc ho2, HN, below_grown HB6.out HB6.out.size HM6.out hg2⟩
                case measure => simp [intOf]; omega
              · have hgt : packVid y < packVid x := by omega
                clear heq
                have HK : Hid (cmpVid x y = 1) := cmpVid_gt hgt
                have HN : Hid (putS packVid x out = (M ++ [y]) ++ restS packVid x false (out.drop (k + 1))) := by show _ = _; rw [HR1.out, restS_f, putS_gt hgt, restS_f]; simp
                clear hlt2 hgt
                have HXw := Lib.hid (HXa.out wr (HBi.out))
                have HYw := Lib.hid (HYa.out wr (HBi.out))
                have x0 : wr.cell? ⟨bl, ol + i * 3, none⟩ = some (.int .u8 (x.pid.author.toNat : Int)) := (HXw.out).2 0 _ rfl
                have x1 : wr.cell? ⟨bl, ol + i * 3 + 1, none⟩ = some (.int .u16 (x.pid.seq.toNat : Int)) := (HXw.out).2 1 _ rfl
                have x2 : wr.cell? ⟨bl, ol + i * 3 + 2, none⟩ = some (.int .u8 (x.n.toNat : Int)) := (HXw.out).2 2 _ rfl
                have y0 : wr.cell? ⟨bo, oo + k * 3, none⟩ = some (.int .u8 (y.pid.author.toNat : Int)) := (HYw.out).2 0 _ rfl
                have y1 : wr.cell? ⟨bo, oo + k * 3 + 1, none⟩ = some (.int .u16 (y.pid.seq.toNat : Int)) := (HYw.out).2 1 _ rfl
                have y2 : wr.cell? ⟨bo, oo + k * 3 + 2, none⟩ = some (.int .u8 (y.n.toNat : Int)) := (HYw.out).2 2 _ rfl
                have sX := HXw.out.1
                have sY := HYw.out.1
                go_wp2_with fail
                have hcur : Below wr.heap.size wr wr.drew := (Below.refl _ _).drew
                refine wp_region_lex (C := IsOver wr) 14 [] (by kernel_rfl) (by kernel_rfl) (isOver_of (by repeat (first | exact Below.refl _ _ | apply Below.drew | apply below_drewN | (refine Below.alloc ?_ (by simp) _)))) ?_
                simp only [List.take_succ_cons, List.take_zero, List.drop_succ_cons, List.drop_zero]
                repeat (first | (refine lex_skip rfl rfl ?_; simp only [Act.put, List.setIfInBounds_toArray, List.set_cons_succ, List.set_cons_zero]) | (refine lex_one rfl ?_; go_big_quiet_step (fail); refine wpQuiet_nil ?_) | (refine lex_loud rfl ?_; go_wp2_with (first | (go_at_call 57; (with_reducible refine (rcmpVid_any _ _ _).mono ?_); rintro e w5 ⟨rfl, hb⟩; rw [HK.out]; replace hcur := below_over hcur hcur.size hb; clear hb)); refine ⟨isOver_of hcur, ?_⟩))
                refine lex_end ?_
                have HB5 := Lib.hid (below_over HBi.out HBi.out.size hcur)
                have HM5 := Lib.hid (HM.out.over hcur)
                clear hcur x0 y0 x1 y1 x2 y2 sX sY
                have HXw := Lib.hid (HXa.out w5 (HB5.out))
                have HYw := Lib.hid (HYa.out w5 (HB5.out))
                have x0 : w5.cell? ⟨bl, ol + i * 3, none⟩ = some (.int .u8 (x.pid.author.toNat : Int)) := (HXw.out).2 0 _ rfl
                have x1 : w5.cell? ⟨bl, ol + i * 3 + 1, none⟩ = some (.int .u16 (x.pid.seq.toNat : Int)) := (HXw.out).2 1 _ rfl
                have x2 : w5.cell? ⟨bl, ol + i * 3 + 2, none⟩ = some (.int .u8 (x.n.toNat : Int)) := (HXw.out).2 2 _ rfl
                have y0 : w5.cell? ⟨bo, oo + k * 3, none⟩ = some (.int .u8 (y.pid.author.toNat : Int)) := (HYw.out).2 0 _ rfl
                have y1 : w5.cell? ⟨bo, oo + k * 3 + 1, none⟩ = some (.int .u16 (y.pid.seq.toNat : Int)) := (HYw.out).2 1 _ rfl
                have y2 : w5.cell? ⟨bo, oo + k * 3 + 2, none⟩ = some (.int .u8 (y.n.toNat : Int)) := (HYw.out).2 2 _ rfl
                have sX := HXw.out.1
                have sY := HYw.out.1
                go_wp2_with fail
                have hcur : Below w5.heap.size w5 w5.drew := (Below.refl _ _).drew
                refine wp_region_lex (C := IsOver w5) 14 [] (by kernel_rfl) (by kernel_rfl) (isOver_of (by repeat (first | exact Below.refl _ _ | apply Below.drew | apply below_drewN | (refine Below.alloc ?_ (by simp) _)))) ?_
                simp only [List.take_succ_cons, List.take_zero, List.drop_succ_cons, List.drop_zero]
                repeat (first | (refine lex_skip rfl rfl ?_; simp only [Act.put, List.setIfInBounds_toArray, List.set_cons_succ, List.set_cons_zero]) | (refine lex_one rfl ?_; go_big_quiet_step (fail); refine wpQuiet_nil ?_) | (refine lex_loud rfl ?_; go_wp2_with (first | (go_at_call 57; (with_reducible refine (rcmpVid_any _ _ _).mono ?_); rintro e w6 ⟨rfl, hb⟩; rw [HK.out]; replace hcur := below_over hcur hcur.size hb; clear hb)); refine ⟨isOver_of hcur, ?_⟩))
                refine lex_end ?_
                have HB6 := Lib.hid (below_over HB5.out HB5.out.size hcur)
                have HM6 := Lib.hid (HM5.out.over hcur)
                have hB6 := HB6.out.size
                clear hcur x0 y0 x1 y1 x2 y2 sX sY
                have HXw := Lib.hid (HXa.out w6 (HB6.out))
                have HYw := Lib.hid (HYa.out w6 (HB6.out))
                have x0 : w6.cell? ⟨bl, ol + i * 3, none⟩ = some (.int .u8 (x.pid.author.toNat : Int)) := (HXw.out).2 0 _ rfl
                have x1 : w6.cell? ⟨bl, ol + i * 3 + 1, none⟩ = some (.int .u16 (x.pid.seq.toNat : Int)) := (HXw.out).2 1 _ rfl
                have x2 : w6.cell? ⟨bl, ol + i * 3 + 2, none⟩ = some (.int .u8 (x.n.toNat : Int)) := (HXw.out).2 2 _ rfl
                have y0 : w6.cell? ⟨bo, oo + k * 3, none⟩ = some (.int .u8 (y.pid.author.toNat : Int)) := (HYw.out).2 0 _ rfl
                have y1 : w6.cell? ⟨bo, oo + k * 3 + 1, none⟩ = some (.int .u16 (y.pid.seq.toNat : Int)) := (HYw.out).2 1 _ rfl
                have y2 : w6.cell? ⟨bo, oo + k * 3 + 2, none⟩ = some (.int .u8 (y.n.toNat : Int)) := (HYw.out).2 2 _ rfl
                have sX := HXw.out.1
                have sY := HYw.out.1
                go_wp2_with (at_builtin; (first | refine wpList_append_newD slVid rfl _ _ rfl wo.heap.size _ _ (drawn_alloc_drewN _ _ _) 1 _ _ _ HM6.out rfl rfl rfl rfl hN (by decide) hB6 ?_ | refine wpList_append_newD slVid rfl _ _ rfl wo.heap.size _ _ (drawn_drew _) 1 _ _ _ HM6.out rfl rfl rfl rfl hN (by decide) hB6 ?_ | refine wpList_append_newD slVid rfl _ _ rfl wo.heap.size _ _ (drawn_drewN _ _) 1 _ _ _ HM6.out rfl rfl rfl rfl hN (by decide) hB6 ?_ | refine wpList_append_newD slVid rfl _ _ rfl wo.heap.size _ _ (drawn_refl _) 1 _ _ _ HM6.out rfl rfl rfl rfl hN (by decide) hB6 ?_); intro v2 w2 ho2 hg2)
                go_roundw
                case rel => exact ⟨k + 1, M ++ [y], false, hk2, by go_num, rfl, by simp; omega, GOwn.snoc ho2, HN, below_grown HB6.out HB6.out.size HM6.out hg2⟩
                case measure => simp [intOf]; omega
        · have hke : k = out.length := by omega
          subst hke
          rw [List.drop_length] at HR
          have HBi := Lib.hid hbi
          have hbw := below_over HBl.out HBl.out.size hbi
          cases t with
          | true =>
            have HE : Hid (putS packVid x out = M) := by show _ = _; rw [HR.out, restS_t]; simp
            go_wp2_with fail
            subst hQ
            go_wp2_with fail
            go_roundw
            case rel => exact ⟨i + 1, hlt, by go_num, (by show GRow _ _ _ _ _; rw [HF.out, HE.out]; exact HM.out.row), hbw⟩
            case measure => simp [intOf]; omega
          | false =>
            have HE : Hid (putS packVid x out = M ++ [x]) := by show _ = _; rw [HR.out, restS_f, putS_nil]
            have HXw := Lib.hid (HXa.out wr HBi.out)
            have x0 : wr.cell? ⟨bl, ol + i * 3, none⟩ = some (.int .u8 (x.pid.author.toNat : Int)) := (HXw.out).2 0 _ rfl
            have x1 : wr.cell? ⟨bl, ol + i * 3 + 1, none⟩ = some (.int .u16 (x.pid.seq.toNat : Int)) := (HXw.out).2 1 _ rfl
            have x2 : wr.cell? ⟨bl, ol + i * 3 + 2, none⟩ = some (.int .u8 (x.n.toNat : Int)) := (HXw.out).2 2 _ rfl
            have sX := HXw.out.1
            have hB := HBi.out.size
            go_wp2_with fail
            subst hQ
            go_wp2_with (at_builtin; (first | refine wpList_append_newD slVid rfl _ _ rfl wo.heap.size _ _ (drawn_alloc_drewN _ _ _) 1 _ _ _ HM.out rfl rfl rfl rfl hN (by decide) hB ?_ | refine wpList_append_newD slVid rfl _ _ rfl wo.heap.size _ _ (drawn_drew _) 1 _ _ _ HM.out rfl rfl rfl rfl hN (by decide) hB ?_ | refine wpList_append_newD slVid rfl _ _ rfl wo.heap.size _ _ (drawn_drewN _ _) 1 _ _ _ HM.out rfl rfl rfl rfl hN (by decide) hB ?_ | refine wpList_append_newD slVid rfl _ _ rfl wo.heap.size _ _ (drawn_refl _) 1 _ _ _ HM.out rfl rfl rfl rfl hN (by decide) hB ?_); intro v2 w2 ho2 hg2)
            go_roundw
            case rel => exact ⟨i + 1, hlt, by go_num, (by show GRow _ _ _ _ _; rw [HF.out, HE.out]; exact (GOwn.snoc ho2).row), below_over HBl.out HBl.out.size (below_grown HBi.out hB HM.out hg2)⟩
            case measure => simp [intOf]; omega
    · obtain rfl : i = l.length := by omega
      have HE := HO.out
      rw [List.take_length] at HE
      go_wp2_with fail
      go_ret
      exact ⟨_, rfl, HE, hbl⟩
end Go.Proofs.YtfciedmmgddgpaaGreatDoor
