/- Contracts of the reference's Later and of ref24.Of. -/
import Derived.Test.YtfciedmmgddgpaaGreatDoorZSame
import Derived.Test.YtfciedmmgddgpaaGreatDoorZNmB
import Derived.Test.YtfciedmmgddgpaaGreatDoorZRefN
import Derived.Test.YtfciedmmgddgpaaGreatDoorZOps
namespace Go.Proofs.YtfciedmmgddgpaaGreatDoor
open Go Go.RowKit

theorem later_seq {a b : PidM} (h : ¬ a.seq = b.seq) : laterP a b = cmpN a.seq.toNat b.seq.toNat := by
  have h1 := a.author.toNat_lt
  have h2 := b.author.toNat_lt
  have h3 : a.seq.toNat ≠ b.seq.toNat := fun e => h (UInt16.toNat_inj.1 e)
  rw [laterP_key]
  by_cases hl : a.seq.toNat < b.seq.toNat
  · rw [cmpN_lt hl, cmpN_lt (by omega)]
  · rw [cmpN_gt (show b.seq.toNat < a.seq.toNat by omega), cmpN_gt (by omega)]
theorem later_author {a b : PidM} (h : a.seq = b.seq) : laterP a b = cmpN a.author.toNat b.author.toNat := by
  rw [laterP_key, h]
  rcases Nat.lt_trichotomy a.author.toNat b.author.toNat with hl | hl | hl
  · rw [cmpN_lt hl, cmpN_lt (by omega)]
  · rw [cmpN_eq hl, cmpN_eq (by omega)]
  · rw [cmpN_gt hl, cmpN_gt (by omega)]
theorem later_pid {a b : VidM} (h : ¬ a.pid = b.pid) : cmpLater a b = laterP a.pid b.pid := by
  rw [← later_or]
  unfold orI
  have : laterP a.pid b.pid ≠ 0 := by
    unfold laterP; rw [if_neg h]; split <;> (try split) <;> decide
  rw [if_neg this]
theorem later_n {a b : VidM} (h : a.pid = b.pid) : cmpLater a b = cmpVid a b := by
  rw [cmpVid_n h, ← later_or]
  unfold orI
  have : laterP a.pid b.pid = 0 := by unfold laterP; rw [if_pos h]
  rw [if_pos this]
theorem u16_beq (a b : UInt16) : ((a.toNat : Int) != (b.toNat : Int)) = decide (¬ a = b) := by
  by_cases h : a = b
  · simp [h]
  · have : a.toNat ≠ b.toNat := fun e => h (UInt16.toNat_inj.1 e)
    simp [h]; omega
attribute [local irreducible] laterP cmpN cmpLater cmpVid
set_option maxHeartbeats 4000000 in
set_option maxRecDepth 100000 in
theorem rlaterPid_any (a b : PidM) (w : World) : Calls Tryz.prog 56 #[pidV a, pidV b] w fun e w' => e = .returned (.int .i64 (laterP a b)) ∧ Below w.heap.size w w' := by
  have HB := Lib.hid ((below_new (w := w) (.cells #[.int .u8 (a.author.toNat : Int), .int .u16 (a.seq.toNat : Int)] 25)).alloc (by simp) (.cells #[.int .u8 (b.author.toNat : Int), .int .u16 (b.seq.toNat : Int)] 25))
  have l1 := a.author.toNat_lt
  have l2 := a.seq.toNat_lt
  have l3 := b.author.toNat_lt
  have l4 := b.seq.toNat_lt
  unfold pidV
  by_cases h : a.seq = b.seq
  · have HC := Lib.hid (later_author h)
    have e1 : ((a.seq.toNat : Int) != (b.seq.toNat : Int)) = false := by rw [u16_beq]; simp [h]
    clear h
    go_enter Tryz.func56, Tryz.ntmps56
    go_wp2_with fail
    refine (sign_any a.author.toNat b.author.toNat _).mono ?_
    rintro e w1 ⟨rfl, rfl⟩
    go_wp2_with fail
    go_ret
    exact ⟨ret_int HC.out.symm, HB.out⟩
  · have HC := Lib.hid (later_seq h)
    have e1 : ((a.seq.toNat : Int) != (b.seq.toNat : Int)) = true := by rw [u16_beq]; simp [h]
    clear h
    go_enter Tryz.func56, Tryz.ntmps56
    go_wp2_with fail
    refine (sign_any a.seq.toNat b.seq.toNat _).mono ?_
    rintro e w1 ⟨rfl, rfl⟩
    go_wp2_with fail
    go_ret
    exact ⟨ret_int HC.out.symm, HB.out⟩
set_option maxHeartbeats 4000000 in
set_option maxRecDepth 100000 in
theorem rlaterVid_any (a b : VidM) (w : World) : Calls Tryz.prog 29 #[vidV a, vidV b] w fun e w' => e = .returned (.int .i64 (cmpLater a b)) ∧ Below w.heap.size w w' := by
  have HB := Lib.hid ((below_new (w := w) (.cells #[.int .u8 (a.pid.author.toNat : Int), .int .u16 (a.pid.seq.toNat : Int), .int .u8 (a.n.toNat : Int)] 27)).alloc (by simp) (.cells #[.int .u8 (b.pid.author.toNat : Int), .int .u16 (b.pid.seq.toNat : Int), .int .u8 (b.n.toNat : Int)] 27))
  unfold vidV
  have gd := fun p q xs ys w => guard_pid .neq p q xs ys w
  by_cases h : a.pid = b.pid
  · have HC := Lib.hid (later_n h)
    have e1 := neq_pid a.pid b.pid false (by simp [h])
    unfold pidV at e1
    clear h
    go_enter Tryz.func29, Tryz.ntmps29
    go_wp2_with fail
    refine (rcmpVid_any a b _).mono ?_
    rintro e w1 ⟨rfl, hb1⟩
    go_wp2_with fail
    go_ret
    exact ⟨ret_int HC.out.symm, below_over HB.out HB.out.size hb1⟩
  · have HC := Lib.hid (later_pid h)
    have e1 := neq_pid a.pid b.pid true (by simp [h])
    unfold pidV at e1
    clear h
    go_enter Tryz.func29, Tryz.ntmps29
    go_wp2_with fail
    refine (rlaterPid_any a.pid b.pid _).mono ?_
    rintro e w1 ⟨rfl, hb1⟩
    go_wp2_with fail
    go_ret
    exact ⟨ret_int HC.out.symm, below_over HB.out HB.out.size hb1⟩
def restL (x : VertM) (t : Bool) (r : List VertM) : List VertM := if t = true then r else insLater x r
theorem restL_t (x : VertM) (r : List VertM) : restL x true r = r := rfl
theorem restL_f (x : VertM) (r : List VertM) : restL x false r = insLater x r := rfl
theorem insLater_pos {x y : VertM} {r : List VertM} (h : 0 < cmpLater x.id y.id) : insLater x (y :: r) = x :: y :: r := by rw [insLater, if_pos h]
theorem insLater_no {x y : VertM} {r : List VertM} (h : ¬ 0 < cmpLater x.id y.id) : insLater x (y :: r) = y :: insLater x r := by rw [insLater, if_neg h]
def insTo (all : List VertM) (i : Nat) : List VertM := insAll ((all.take i).filter aliveQ)
theorem insTo_yes {all : List VertM} {i : Nat} {x : VertM} (h : all[i]? = some x) (hd : x.dead = false) : insTo all (i + 1) = insLater x (insTo all i) := by
  unfold insTo insAll
  rw [take_succ' h, List.filter_append, List.foldl_append]
  simp [aliveQ, hd]
theorem insTo_no {all : List VertM} {i : Nat} {x : VertM} (h : all[i]? = some x) (hd : x.dead = true) : insTo all (i + 1) = insTo all i := by
  unfold insTo
  rw [take_succ' h, List.filter_append]
  simp [aliveQ, hd]
theorem insTo_len (all : List VertM) (i : Nat) : (insTo all i).length ≤ i := by
  have h := (insAll_go ((all.take i).filter aliveQ) [] List.Pairwise.nil).1.length_eq
  unfold insTo insAll
  rw [h, List.append_nil]
  exact Nat.le_trans (List.length_filter_le _ _) (by rw [List.length_take]; omega)
theorem insTo_all {L : List PatchM} (hl : ∀ p ∈ L, p.ops.length ≤ 200) (f : VidM) : insTo (ofM L f 2) (ofM L f 2).length = namesM L f := by
  unfold insTo
  rw [List.take_length, aliveM_q, insAll_names hl]
def NoOut (w2 : World) (all : List VertM) (v5 v7 : Value) (wr : World) : Prop := ∃ i : Nat, i ≤ all.length ∧ v7 = .int .i64 (i : Int) ∧ Hid (GRow encVert 9 wr v5 (insTo all i)) ∧ Below w2.heap.size w2 wr
def NoIn (wo : World) (x : VertM) (out : List VertM) (v8 v9 v10 : Value) (wr : World) : Prop :=
  ∃ (k : Nat) (M : List VertM) (t : Bool), k ≤ out.length ∧ v10 = .int .i64 (k : Int) ∧ v9 = .bool t ∧ M.length ≤ k + t.toNat ∧ Hid (GOwn encVert 9 68 wr wo.heap.size v8 M) ∧ Hid (insLater x out = M ++ restL x t (out.drop k)) ∧ Below wo.heap.size wo wr
theorem noIn_start (x : VertM) (out : List VertM) : insLater x out = [] ++ restL x false (out.drop 0) := by simp [restL]
attribute [local irreducible] insLater insTo restL ofM namesM idsM
set_option maxHeartbeats 20000000 in
set_option maxRecDepth 100000 in
theorem rnof_any (gv : Value) (xs : List LaidP) (f : VidM) (w : World) (hv : Pats w gv xs) (hn : xs.length ≤ 300) (hl : ∀ x ∈ xs, x.p.ops.length ≤ 200) (hil : (idsM (patsOf xs)).length ≤ 100000) :
    Calls Tryz.prog 11 #[rgV gv, vidV f] w (SetRes encVert 9 w (namesM (patsOf xs) f)) := by
  have HV := Lib.hid hv
  have hol := ofM_len (patsOf xs) f 2
  have hvl : (vertsM (patsOf xs)).length ≤ 100000 := by unfold vertsM; rw [List.length_map]; exact hil
  have HE := Lib.hid (insTo_all (L := patsOf xs) (fun p hp => by obtain ⟨x, hx, rfl⟩ := List.mem_map.1 hp; exact hl x hx) f)
  have HL := Lib.hid hl
  obtain ⟨a, cap, rfl, h1, h2, hc⟩ := hv.1.at encPat_len
  unfold maxLen at h2
  have HG := Lib.hid ((arr_new w #[.slice a xs.length cap] 33).alloc (.cells #[.int .u8 (f.pid.author.toNat : Int), .int .u16 (f.pid.seq.toNat : Int), .int .u8 (f.n.toNat : Int)] 27))
  have HF0 := Lib.hid (arr_new2 w (.cells #[.slice a xs.length cap] 33) #[.int .u8 (f.pid.author.toNat : Int), .int .u16 (f.pid.seq.toNat : Int), .int .u8 (f.n.toNat : Int)] 27)
  have HB := Lib.hid ((below_new (w := w) (.cells #[.slice a xs.length cap] 33)).alloc (by simp) (.cells #[.int .u8 (f.pid.author.toNat : Int), .int .u16 (f.pid.seq.toNat : Int), .int .u8 (f.n.toNat : Int)] 27))
  clear hv hc hl
  unfold rgV vidV
  go_enter Tryz.func11, Tryz.ntmps11
  go_upto_region 1 with (fail)
  generalize hw0 : (w.alloc (.cells #[.slice a xs.length cap] 33)).alloc (.cells #[.int .u8 (f.pid.author.toNat : Int), .int .u16 (f.pid.seq.toNat : Int), .int .u8 (f.n.toNat : Int)] 27) = w0 at *
  clear hw0
  have g0 := HG.out.cell (j := 0) rfl
  have sg := HG.out.lt
  have f0 := HF0.out.cell (j := 0) rfl
  have f1 := HF0.out.cell (j := 1) rfl
  have f2 := HF0.out.cell (j := 2) rfl
  have sf := HF0.out.lt
  go_wp2_with fail
  refine (rof20_any _ xs f 2 _ (HV.out.over HB.out) hn (fun x hx => Nat.le_trans (HL.out x hx) (by omega)) hil hvl).mono ?_
  rintro e w2 ⟨u2, rfl, hu2, hb2⟩
  obtain ⟨a6, c6, rfl, t1, t2, hc6⟩ := hu2.at encVert_len
  unfold maxLen at t2
  have HC := Lib.hid hc6
  have HB2 := Lib.hid (below_over HB.out HB.out.size hb2)
  generalize hall : ofM (patsOf xs) f 2 = all at *
  clear hu2 hc6 hb2 g0 sg f0 f1 f2 sf hall
  go_wp2_with fail
  go_loopw [5, 7] (fun v5 v7 wr => NoOut w2 all v5 v7 wr) (fun _ v7 _ => all.length - (intOf v7).toNat)
  case atStart => exact ⟨0, Nat.zero_le _, rfl, (by show GRow _ _ _ _ _; unfold insTo; simp only [List.take_zero, List.filter_nil]; exact row_nil _ _), Below.refl _ _⟩
  case round =>
    rename World => wo
    obtain ⟨i, hi, rfl, HO, hbl⟩ := hrel
    by_cases hlt : i < all.length
    · obtain ⟨bl, ol, rfl, sl, hcl⟩ := HC.out.resolve_left (by omega)
      obtain ⟨x, hx⟩ := get_of_lt hlt
      have HXa : Hid (∀ W, Below wo.heap.size wo W → bl < W.heap.size ∧ ∀ j u, (encVert x)[j]? = some u → W.cell? ⟨bl, ol + i * 9 + j, none⟩ = some u) := fun W hW => hcl i x hx W (below_over hbl hbl.size hW)
      have hol2 := insTo_len all i
      have HXw := Lib.hid (HXa.out wo (Below.refl _ _))
      have x0 : wo.cell? ⟨bl, ol + i * 9, none⟩ = some (.int .u8 (x.id.pid.author.toNat : Int)) := (HXw.out).2 0 _ rfl
      have x1 : wo.cell? ⟨bl, ol + i * 9 + 1, none⟩ = some (.int .u16 (x.id.pid.seq.toNat : Int)) := (HXw.out).2 1 _ rfl
      have x2 : wo.cell? ⟨bl, ol + i * 9 + 2, none⟩ = some (.int .u8 (x.id.n.toNat : Int)) := (HXw.out).2 2 _ rfl
      have x3 : wo.cell? ⟨bl, ol + i * 9 + 3, none⟩ = some (.int .u8 (x.kind.toNat : Int)) := (HXw.out).2 3 _ rfl
      have x4 : wo.cell? ⟨bl, ol + i * 9 + 4, none⟩ = some (.int .u8 (x.file.pid.author.toNat : Int)) := (HXw.out).2 4 _ rfl
      have x5 : wo.cell? ⟨bl, ol + i * 9 + 5, none⟩ = some (.int .u16 (x.file.pid.seq.toNat : Int)) := (HXw.out).2 5 _ rfl
      have x6 : wo.cell? ⟨bl, ol + i * 9 + 6, none⟩ = some (.int .u8 (x.file.n.toNat : Int)) := (HXw.out).2 6 _ rfl
      have x7 : wo.cell? ⟨bl, ol + i * 9 + 7, none⟩ = some (.string x.text) := (HXw.out).2 7 _ rfl
      have x8 : wo.cell? ⟨bl, ol + i * 9 + 8, none⟩ = some (.bool x.dead) := (HXw.out).2 8 _ rfl
      have sX := HXw.out.1
      cases hd : x.dead with
      | true =>
        have HF := Lib.hid (insTo_no hx hd)
        rw [hd] at x8
        clear hd hx hcl
        go_wp2_with fail
        go_roundw
        case rel => exact ⟨i + 1, hlt, by go_num, (by show GRow _ _ _ _ _; rw [HF.out]; exact HO.out), hbl⟩
        case measure => simp [intOf]; omega
      | false =>
        have HF := Lib.hid (insTo_yes hx hd)
        rw [hd] at x8
        generalize hout : insTo all i = out at *
        obtain ⟨ao, co, rfl, o1, o2, hco⟩ := HO.out.at encVert_len
        unfold maxLen at o2
        have HCo := Lib.hid hco
        have HBl := Lib.hid hbl
        clear hx hcl hco hbl hout hd
        go_wp2_with fail
        clear x0 x1 x2 x3 x4 x5 x6 x7 x8 sX
        go_hide hQ
        go_loopw [8, 9, 10] (fun v8 v9 v10 wi => NoIn wo x out v8 v9 v10 wi) (fun _ _ v10 _ => out.length - (intOf v10).toNat)
        case atStart => exact ⟨0, [], false, by omega, rfl, rfl, by simp, gown_nil _ _, noIn_start _ _, Below.refl _ _⟩
        case round =>
          rename World => wr
          obtain ⟨k, M, t, hk, rfl, rfl, hM, HM, HR, hbi⟩ := hrel
          have htn := Bool.toNat_le t
          have hN : M.length + 1 ≤ 1099511627776 := by omega
          by_cases hk2 : k < out.length
          · obtain ⟨bo, oo, rfl, so, hcw⟩ := HCo.out.resolve_left (by omega)
            obtain ⟨y, hy⟩ := get_of_lt hk2
            have HYa : Hid (∀ W, Below wo.heap.size wo W → bo < W.heap.size ∧ ∀ j u, (encVert y)[j]? = some u → W.cell? ⟨bo, oo + k * 9 + j, none⟩ = some u) := fun W hW => hcw k y hy W hW
            have HR1 : Hid (insLater x out = M ++ restL x t (y :: out.drop (k + 1))) := by show _ = _; rw [← drop_at hy]; exact HR.out
            have HBi := Lib.hid hbi
            clear hy hcw hbi HR
            cases t with
            | true =>
              have hM1 : M.length ≤ k + 1 := hM
              have HN : Hid (insLater x out = (M ++ [y]) ++ restL x true (out.drop (k + 1))) := by show _ = _; rw [HR1.out, restL_t, restL_t]; simp
              have HXw := Lib.hid (HXa.out wr (HBi.out))
              have x0 : wr.cell? ⟨bl, ol + i * 9, none⟩ = some (.int .u8 (x.id.pid.author.toNat : Int)) := (HXw.out).2 0 _ rfl
              have x1 : wr.cell? ⟨bl, ol + i * 9 + 1, none⟩ = some (.int .u16 (x.id.pid.seq.toNat : Int)) := (HXw.out).2 1 _ rfl
              have x2 : wr.cell? ⟨bl, ol + i * 9 + 2, none⟩ = some (.int .u8 (x.id.n.toNat : Int)) := (HXw.out).2 2 _ rfl
              have x3 : wr.cell? ⟨bl, ol + i * 9 + 3, none⟩ = some (.int .u8 (x.kind.toNat : Int)) := (HXw.out).2 3 _ rfl
              have x4 : wr.cell? ⟨bl, ol + i * 9 + 4, none⟩ = some (.int .u8 (x.file.pid.author.toNat : Int)) := (HXw.out).2 4 _ rfl
              have x5 : wr.cell? ⟨bl, ol + i * 9 + 5, none⟩ = some (.int .u16 (x.file.pid.seq.toNat : Int)) := (HXw.out).2 5 _ rfl
              have x6 : wr.cell? ⟨bl, ol + i * 9 + 6, none⟩ = some (.int .u8 (x.file.n.toNat : Int)) := (HXw.out).2 6 _ rfl
              have x7 : wr.cell? ⟨bl, ol + i * 9 + 7, none⟩ = some (.string x.text) := (HXw.out).2 7 _ rfl
              have x8 : wr.cell? ⟨bl, ol + i * 9 + 8, none⟩ = some (.bool x.dead) := (HXw.out).2 8 _ rfl
              have sX := HXw.out.1
              have HYw := Lib.hid (HYa.out wr (HBi.out))
              have y0 : wr.cell? ⟨bo, oo + k * 9, none⟩ = some (.int .u8 (y.id.pid.author.toNat : Int)) := (HYw.out).2 0 _ rfl
              have y1 : wr.cell? ⟨bo, oo + k * 9 + 1, none⟩ = some (.int .u16 (y.id.pid.seq.toNat : Int)) := (HYw.out).2 1 _ rfl
              have y2 : wr.cell? ⟨bo, oo + k * 9 + 2, none⟩ = some (.int .u8 (y.id.n.toNat : Int)) := (HYw.out).2 2 _ rfl
              have y3 : wr.cell? ⟨bo, oo + k * 9 + 3, none⟩ = some (.int .u8 (y.kind.toNat : Int)) := (HYw.out).2 3 _ rfl
              have y4 : wr.cell? ⟨bo, oo + k * 9 + 4, none⟩ = some (.int .u8 (y.file.pid.author.toNat : Int)) := (HYw.out).2 4 _ rfl
              have y5 : wr.cell? ⟨bo, oo + k * 9 + 5, none⟩ = some (.int .u16 (y.file.pid.seq.toNat : Int)) := (HYw.out).2 5 _ rfl
              have y6 : wr.cell? ⟨bo, oo + k * 9 + 6, none⟩ = some (.int .u8 (y.file.n.toNat : Int)) := (HYw.out).2 6 _ rfl
              have y7 : wr.cell? ⟨bo, oo + k * 9 + 7, none⟩ = some (.string y.text) := (HYw.out).2 7 _ rfl
              have y8 : wr.cell? ⟨bo, oo + k * 9 + 8, none⟩ = some (.bool y.dead) := (HYw.out).2 8 _ rfl
              have sY := HYw.out.1
              have hB := HBi.out.size
              go_upto_region 12 with (fail)
              have hcur : Below wr.heap.size wr wr.drew := (Below.refl _ _).drew
              refine wp_region_lex (C := IsOver wr) 16 [] (by kernel_rfl) (by kernel_rfl) (isOver_of (by repeat (first | exact Below.refl _ _ | apply Below.drew | apply below_drewN | (refine Below.alloc ?_ (by simp) _)))) ?_
              simp only [List.take_succ_cons, List.take_zero, List.drop_succ_cons, List.drop_zero]
              repeat (first | (refine lex_skip rfl rfl ?_; simp only [Act.put, List.setIfInBounds_toArray, List.set_cons_succ, List.set_cons_zero]) | (refine lex_one rfl ?_; go_big_quiet_step (fail); refine wpQuiet_nil ?_))
              refine lex_end ?_
              have HM5 := Lib.hid (HM.out.over hcur)
              have HB5 := Lib.hid (below_over HBi.out HBi.out.size hcur)
              have hB5 : wo.heap.size ≤ wr.drew.heap.size := hB
              go_wp2_with (at_builtin; (first | refine wpList_append_newD slVertP rfl _ _ rfl wo.heap.size _ _ (drawn_alloc_drewN _ _ _) 1 _ _ _ HM5.out rfl rfl rfl rfl hN (by decide) hB5 ?_ | refine wpList_append_newD slVertP rfl _ _ rfl wo.heap.size _ _ (drawn_drew _) 1 _ _ _ HM5.out rfl rfl rfl rfl hN (by decide) hB5 ?_ | refine wpList_append_newD slVertP rfl _ _ rfl wo.heap.size _ _ (drawn_drewN _ _) 1 _ _ _ HM5.out rfl rfl rfl rfl hN (by decide) hB5 ?_ | refine wpList_append_newD slVertP rfl _ _ rfl wo.heap.size _ _ (drawn_refl _) 1 _ _ _ HM5.out rfl rfl rfl rfl hN (by decide) hB5 ?_); intro v2 w2 ho2 hg2)
              go_roundw
              case rel => exact ⟨k + 1, M ++ [y], true, hk2, by go_num, rfl, by simp; omega, GOwn.snoc ho2, HN, below_grown HBi.out HBi.out.size HM.out hg2⟩
              case measure => simp [intOf]; omega
            | false =>
              have hM0 : M.length ≤ k := hM
              have HCL : Hid (∀ W, Calls Tryz.prog 29 #[.agg #[.int .u8 (x.id.pid.author.toNat : Int), .int .u16 (x.id.pid.seq.toNat : Int), .int .u8 (x.id.n.toNat : Int)], .agg #[.int .u8 (y.id.pid.author.toNat : Int), .int .u16 (y.id.pid.seq.toNat : Int), .int .u8 (y.id.n.toNat : Int)]] W fun e w' => e = .returned (.int .i64 (cmpLater x.id y.id)) ∧ Below W.heap.size W w') := Lib.hid fun W => rlaterVid_any x.id y.id W
              by_cases hp : 0 < cmpLater x.id y.id
              · have d : decide ((0 : Int) < cmpLater x.id y.id) = true := decide_eq_true hp
                have HN : Hid (insLater x out = (M ++ [x] ++ [y]) ++ restL x true (out.drop (k + 1))) := by show _ = _; rw [HR1.out, restL_f, restL_t, insLater_pos hp]; simp
                have hN2 : (M ++ [x]).length + 1 ≤ 1099511627776 := by simp; omega
                clear hp
                generalize cmpLater x.id y.id = c at *
                have HXw := Lib.hid (HXa.out wr (HBi.out))
                have x0 : wr.cell? ⟨bl, ol + i * 9, none⟩ = some (.int .u8 (x.id.pid.author.toNat : Int)) := (HXw.out).2 0 _ rfl
                have x1 : wr.cell? ⟨bl, ol + i * 9 + 1, none⟩ = some (.int .u16 (x.id.pid.seq.toNat : Int)) := (HXw.out).2 1 _ rfl
                have x2 : wr.cell? ⟨bl, ol + i * 9 + 2, none⟩ = some (.int .u8 (x.id.n.toNat : Int)) := (HXw.out).2 2 _ rfl
                have x3 : wr.cell? ⟨bl, ol + i * 9 + 3, none⟩ = some (.int .u8 (x.kind.toNat : Int)) := (HXw.out).2 3 _ rfl
                have x4 : wr.cell? ⟨bl, ol + i * 9 + 4, none⟩ = some (.int .u8 (x.file.pid.author.toNat : Int)) := (HXw.out).2 4 _ rfl
                have x5 : wr.cell? ⟨bl, ol + i * 9 + 5, none⟩ = some (.int .u16 (x.file.pid.seq.toNat : Int)) := (HXw.out).2 5 _ rfl
                have x6 : wr.cell? ⟨bl, ol + i * 9 + 6, none⟩ = some (.int .u8 (x.file.n.toNat : Int)) := (HXw.out).2 6 _ rfl
                have x7 : wr.cell? ⟨bl, ol + i * 9 + 7, none⟩ = some (.string x.text) := (HXw.out).2 7 _ rfl
                have x8 : wr.cell? ⟨bl, ol + i * 9 + 8, none⟩ = some (.bool x.dead) := (HXw.out).2 8 _ rfl
                have sX := HXw.out.1
                have HYw := Lib.hid (HYa.out wr (HBi.out))
                have y0 : wr.cell? ⟨bo, oo + k * 9, none⟩ = some (.int .u8 (y.id.pid.author.toNat : Int)) := (HYw.out).2 0 _ rfl
                have y1 : wr.cell? ⟨bo, oo + k * 9 + 1, none⟩ = some (.int .u16 (y.id.pid.seq.toNat : Int)) := (HYw.out).2 1 _ rfl
                have y2 : wr.cell? ⟨bo, oo + k * 9 + 2, none⟩ = some (.int .u8 (y.id.n.toNat : Int)) := (HYw.out).2 2 _ rfl
                have y3 : wr.cell? ⟨bo, oo + k * 9 + 3, none⟩ = some (.int .u8 (y.kind.toNat : Int)) := (HYw.out).2 3 _ rfl
                have y4 : wr.cell? ⟨bo, oo + k * 9 + 4, none⟩ = some (.int .u8 (y.file.pid.author.toNat : Int)) := (HYw.out).2 4 _ rfl
                have y5 : wr.cell? ⟨bo, oo + k * 9 + 5, none⟩ = some (.int .u16 (y.file.pid.seq.toNat : Int)) := (HYw.out).2 5 _ rfl
                have y6 : wr.cell? ⟨bo, oo + k * 9 + 6, none⟩ = some (.int .u8 (y.file.n.toNat : Int)) := (HYw.out).2 6 _ rfl
                have y7 : wr.cell? ⟨bo, oo + k * 9 + 7, none⟩ = some (.string y.text) := (HYw.out).2 7 _ rfl
                have y8 : wr.cell? ⟨bo, oo + k * 9 + 8, none⟩ = some (.bool y.dead) := (HYw.out).2 8 _ rfl
                have sY := HYw.out.1
                go_upto_region 12 with (fail)
                have hcur : Below wr.heap.size wr wr.drew := (Below.refl _ _).drew
                refine wp_region_lex (C := IsOver wr) 16 [] (by kernel_rfl) (by kernel_rfl) (isOver_of (by repeat (first | exact Below.refl _ _ | apply Below.drew | apply below_drewN | (refine Below.alloc ?_ (by simp) _)))) ?_
                simp only [List.take_succ_cons, List.take_zero, List.drop_succ_cons, List.drop_zero]
                repeat (first | (refine lex_skip rfl rfl ?_; simp only [Act.put, List.setIfInBounds_toArray, List.set_cons_succ, List.set_cons_zero]) | (refine lex_one rfl ?_; go_big_quiet_step (fail); refine wpQuiet_nil ?_) | (refine lex_loud rfl ?_; go_wp2_with (first | (go_at_call 29; (with_reducible refine (HCL.out _).mono ?_); rintro e w' ⟨rfl, hb⟩; replace hcur := below_over hcur hcur.size hb; clear hb)); refine ⟨isOver_of hcur, ?_⟩))
                refine lex_end ?_
                rename World => w5
                have HB5 := Lib.hid (below_over HBi.out HBi.out.size hcur)
                have HM5 := Lib.hid (HM.out.over hcur)
                have hB5 := HB5.out.size
                clear hcur
                clear x0 x1 x2 x3 x4 x5 x6 x7 x8 sX
                clear y0 y1 y2 y3 y4 y5 y6 y7 y8 sY
                have HXw := Lib.hid (HXa.out w5 (HB5.out))
                have x0 : w5.cell? ⟨bl, ol + i * 9, none⟩ = some (.int .u8 (x.id.pid.author.toNat : Int)) := (HXw.out).2 0 _ rfl
                have x1 : w5.cell? ⟨bl, ol + i * 9 + 1, none⟩ = some (.int .u16 (x.id.pid.seq.toNat : Int)) := (HXw.out).2 1 _ rfl
                have x2 : w5.cell? ⟨bl, ol + i * 9 + 2, none⟩ = some (.int .u8 (x.id.n.toNat : Int)) := (HXw.out).2 2 _ rfl
                have x3 : w5.cell? ⟨bl, ol + i * 9 + 3, none⟩ = some (.int .u8 (x.kind.toNat : Int)) := (HXw.out).2 3 _ rfl
                have x4 : w5.cell? ⟨bl, ol + i * 9 + 4, none⟩ = some (.int .u8 (x.file.pid.author.toNat : Int)) := (HXw.out).2 4 _ rfl
                have x5 : w5.cell? ⟨bl, ol + i * 9 + 5, none⟩ = some (.int .u16 (x.file.pid.seq.toNat : Int)) := (HXw.out).2 5 _ rfl
                have x6 : w5.cell? ⟨bl, ol + i * 9 + 6, none⟩ = some (.int .u8 (x.file.n.toNat : Int)) := (HXw.out).2 6 _ rfl
                have x7 : w5.cell? ⟨bl, ol + i * 9 + 7, none⟩ = some (.string x.text) := (HXw.out).2 7 _ rfl
                have x8 : w5.cell? ⟨bl, ol + i * 9 + 8, none⟩ = some (.bool x.dead) := (HXw.out).2 8 _ rfl
                have sX := HXw.out.1
                go_upto_region 15 with (at_builtin; (first | refine wpList_append_newD slVertP rfl _ _ rfl wo.heap.size _ _ (drawn_alloc_drewN _ _ _) 1 _ _ _ HM5.out rfl rfl rfl rfl hN (by decide) hB5 ?_ | refine wpList_append_newD slVertP rfl _ _ rfl wo.heap.size _ _ (drawn_drew _) 1 _ _ _ HM5.out rfl rfl rfl rfl hN (by decide) hB5 ?_ | refine wpList_append_newD slVertP rfl _ _ rfl wo.heap.size _ _ (drawn_drewN _ _) 1 _ _ _ HM5.out rfl rfl rfl rfl hN (by decide) hB5 ?_ | refine wpList_append_newD slVertP rfl _ _ rfl wo.heap.size _ _ (drawn_refl _) 1 _ _ _ HM5.out rfl rfl rfl rfl hN (by decide) hB5 ?_); intro v2 w2 ho2 hg2)
                have HB2 := Lib.hid (below_grown HB5.out hB5 HM5.out hg2)
                have HM2 : Hid (GOwn encVert 9 68 w2 wo.heap.size v2 (M ++ [x])) := GOwn.snoc ho2
                have hB2 := HB2.out.size
                clear hg2 ho2
                clear x0 x1 x2 x3 x4 x5 x6 x7 x8 sX
                have HYw := Lib.hid (HYa.out w2 (HB2.out))
                have y0 : w2.cell? ⟨bo, oo + k * 9, none⟩ = some (.int .u8 (y.id.pid.author.toNat : Int)) := (HYw.out).2 0 _ rfl
                have y1 : w2.cell? ⟨bo, oo + k * 9 + 1, none⟩ = some (.int .u16 (y.id.pid.seq.toNat : Int)) := (HYw.out).2 1 _ rfl
                have y2 : w2.cell? ⟨bo, oo + k * 9 + 2, none⟩ = some (.int .u8 (y.id.n.toNat : Int)) := (HYw.out).2 2 _ rfl
                have y3 : w2.cell? ⟨bo, oo + k * 9 + 3, none⟩ = some (.int .u8 (y.kind.toNat : Int)) := (HYw.out).2 3 _ rfl
                have y4 : w2.cell? ⟨bo, oo + k * 9 + 4, none⟩ = some (.int .u8 (y.file.pid.author.toNat : Int)) := (HYw.out).2 4 _ rfl
                have y5 : w2.cell? ⟨bo, oo + k * 9 + 5, none⟩ = some (.int .u16 (y.file.pid.seq.toNat : Int)) := (HYw.out).2 5 _ rfl
                have y6 : w2.cell? ⟨bo, oo + k * 9 + 6, none⟩ = some (.int .u8 (y.file.n.toNat : Int)) := (HYw.out).2 6 _ rfl
                have y7 : w2.cell? ⟨bo, oo + k * 9 + 7, none⟩ = some (.string y.text) := (HYw.out).2 7 _ rfl
                have y8 : w2.cell? ⟨bo, oo + k * 9 + 8, none⟩ = some (.bool y.dead) := (HYw.out).2 8 _ rfl
                have sY := HYw.out.1
                go_wp2_with (at_builtin; (first | refine wpList_append_newD slVertP rfl _ _ rfl wo.heap.size _ _ (drawn_alloc_drewN _ _ _) 1 _ _ _ HM2.out rfl rfl rfl rfl hN2 (by decide) hB2 ?_ | refine wpList_append_newD slVertP rfl _ _ rfl wo.heap.size _ _ (drawn_drew _) 1 _ _ _ HM2.out rfl rfl rfl rfl hN2 (by decide) hB2 ?_ | refine wpList_append_newD slVertP rfl _ _ rfl wo.heap.size _ _ (drawn_drewN _ _) 1 _ _ _ HM2.out rfl rfl rfl rfl hN2 (by decide) hB2 ?_ | refine wpList_append_newD slVertP rfl _ _ rfl wo.heap.size _ _ (drawn_refl _) 1 _ _ _ HM2.out rfl rfl rfl rfl hN2 (by decide) hB2 ?_); intro v3 w3 ho3 hg3)
                go_roundw
                case rel => exact ⟨k + 1, M ++ [x] ++ [y], true, hk2, by go_num, rfl, by simp; omega, GOwn.snoc ho3, HN, below_grown HB2.out HB2.out.size HM2.out hg3⟩
                case measure => simp [intOf]; omega
              · have d : decide ((0 : Int) < cmpLater x.id y.id) = false := decide_eq_false hp
                have HN : Hid (insLater x out = (M ++ [y]) ++ restL x false (out.drop (k + 1))) := by show _ = _; rw [HR1.out, restL_f, restL_f, insLater_no hp]; simp
                clear hp
                generalize cmpLater x.id y.id = c at *
                have HXw := Lib.hid (HXa.out wr (HBi.out))
                have x0 : wr.cell? ⟨bl, ol + i * 9, none⟩ = some (.int .u8 (x.id.pid.author.toNat : Int)) := (HXw.out).2 0 _ rfl
                have x1 : wr.cell? ⟨bl, ol + i * 9 + 1, none⟩ = some (.int .u16 (x.id.pid.seq.toNat : Int)) := (HXw.out).2 1 _ rfl
                have x2 : wr.cell? ⟨bl, ol + i * 9 + 2, none⟩ = some (.int .u8 (x.id.n.toNat : Int)) := (HXw.out).2 2 _ rfl
                have x3 : wr.cell? ⟨bl, ol + i * 9 + 3, none⟩ = some (.int .u8 (x.kind.toNat : Int)) := (HXw.out).2 3 _ rfl
                have x4 : wr.cell? ⟨bl, ol + i * 9 + 4, none⟩ = some (.int .u8 (x.file.pid.author.toNat : Int)) := (HXw.out).2 4 _ rfl
                have x5 : wr.cell? ⟨bl, ol + i * 9 + 5, none⟩ = some (.int .u16 (x.file.pid.seq.toNat : Int)) := (HXw.out).2 5 _ rfl
                have x6 : wr.cell? ⟨bl, ol + i * 9 + 6, none⟩ = some (.int .u8 (x.file.n.toNat : Int)) := (HXw.out).2 6 _ rfl
                have x7 : wr.cell? ⟨bl, ol + i * 9 + 7, none⟩ = some (.string x.text) := (HXw.out).2 7 _ rfl
                have x8 : wr.cell? ⟨bl, ol + i * 9 + 8, none⟩ = some (.bool x.dead) := (HXw.out).2 8 _ rfl
                have sX := HXw.out.1
                have HYw := Lib.hid (HYa.out wr (HBi.out))
                have y0 : wr.cell? ⟨bo, oo + k * 9, none⟩ = some (.int .u8 (y.id.pid.author.toNat : Int)) := (HYw.out).2 0 _ rfl
                have y1 : wr.cell? ⟨bo, oo + k * 9 + 1, none⟩ = some (.int .u16 (y.id.pid.seq.toNat : Int)) := (HYw.out).2 1 _ rfl
                have y2 : wr.cell? ⟨bo, oo + k * 9 + 2, none⟩ = some (.int .u8 (y.id.n.toNat : Int)) := (HYw.out).2 2 _ rfl
                have y3 : wr.cell? ⟨bo, oo + k * 9 + 3, none⟩ = some (.int .u8 (y.kind.toNat : Int)) := (HYw.out).2 3 _ rfl
                have y4 : wr.cell? ⟨bo, oo + k * 9 + 4, none⟩ = some (.int .u8 (y.file.pid.author.toNat : Int)) := (HYw.out).2 4 _ rfl
                have y5 : wr.cell? ⟨bo, oo + k * 9 + 5, none⟩ = some (.int .u16 (y.file.pid.seq.toNat : Int)) := (HYw.out).2 5 _ rfl
                have y6 : wr.cell? ⟨bo, oo + k * 9 + 6, none⟩ = some (.int .u8 (y.file.n.toNat : Int)) := (HYw.out).2 6 _ rfl
                have y7 : wr.cell? ⟨bo, oo + k * 9 + 7, none⟩ = some (.string y.text) := (HYw.out).2 7 _ rfl
                have y8 : wr.cell? ⟨bo, oo + k * 9 + 8, none⟩ = some (.bool y.dead) := (HYw.out).2 8 _ rfl
                have sY := HYw.out.1
                go_upto_region 12 with (fail)
                have hcur : Below wr.heap.size wr wr.drew := (Below.refl _ _).drew
                refine wp_region_lex (C := IsOver wr) 16 [] (by kernel_rfl) (by kernel_rfl) (isOver_of (by repeat (first | exact Below.refl _ _ | apply Below.drew | apply below_drewN | (refine Below.alloc ?_ (by simp) _)))) ?_
                simp only [List.take_succ_cons, List.take_zero, List.drop_succ_cons, List.drop_zero]
                repeat (first | (refine lex_skip rfl rfl ?_; simp only [Act.put, List.setIfInBounds_toArray, List.set_cons_succ, List.set_cons_zero]) | (refine lex_one rfl ?_; go_big_quiet_step (fail); refine wpQuiet_nil ?_) | (refine lex_loud rfl ?_; go_wp2_with (first | (go_at_call 29; (with_reducible refine (HCL.out _).mono ?_); rintro e w' ⟨rfl, hb⟩; replace hcur := below_over hcur hcur.size hb; clear hb)); refine ⟨isOver_of hcur, ?_⟩))
                refine lex_end ?_
                rename World => w5
                have HB5 := Lib.hid (below_over HBi.out HBi.out.size hcur)
                have HM5 := Lib.hid (HM.out.over hcur)
                have hB5 := HB5.out.size
                clear hcur
                clear x0 x1 x2 x3 x4 x5 x6 x7 x8 sX
                clear y0 y1 y2 y3 y4 y5 y6 y7 y8 sY
                have HYw := Lib.hid (HYa.out w5 (HB5.out))
                have y0 : w5.cell? ⟨bo, oo + k * 9, none⟩ = some (.int .u8 (y.id.pid.author.toNat : Int)) := (HYw.out).2 0 _ rfl
                have y1 : w5.cell? ⟨bo, oo + k * 9 + 1, none⟩ = some (.int .u16 (y.id.pid.seq.toNat : Int)) := (HYw.out).2 1 _ rfl
                have y2 : w5.cell? ⟨bo, oo + k * 9 + 2, none⟩ = some (.int .u8 (y.id.n.toNat : Int)) := (HYw.out).2 2 _ rfl
                have y3 : w5.cell? ⟨bo, oo + k * 9 + 3, none⟩ = some (.int .u8 (y.kind.toNat : Int)) := (HYw.out).2 3 _ rfl
                have y4 : w5.cell? ⟨bo, oo + k * 9 + 4, none⟩ = some (.int .u8 (y.file.pid.author.toNat : Int)) := (HYw.out).2 4 _ rfl
                have y5 : w5.cell? ⟨bo, oo + k * 9 + 5, none⟩ = some (.int .u16 (y.file.pid.seq.toNat : Int)) := (HYw.out).2 5 _ rfl
                have y6 : w5.cell? ⟨bo, oo + k * 9 + 6, none⟩ = some (.int .u8 (y.file.n.toNat : Int)) := (HYw.out).2 6 _ rfl
                have y7 : w5.cell? ⟨bo, oo + k * 9 + 7, none⟩ = some (.string y.text) := (HYw.out).2 7 _ rfl
                have y8 : w5.cell? ⟨bo, oo + k * 9 + 8, none⟩ = some (.bool y.dead) := (HYw.out).2 8 _ rfl
                have sY := HYw.out.1
                go_wp2_with (at_builtin; (first | refine wpList_append_newD slVertP rfl _ _ rfl wo.heap.size _ _ (drawn_alloc_drewN _ _ _) 1 _ _ _ HM5.out rfl rfl rfl rfl hN (by decide) hB5 ?_ | refine wpList_append_newD slVertP rfl _ _ rfl wo.heap.size _ _ (drawn_drew _) 1 _ _ _ HM5.out rfl rfl rfl rfl hN (by decide) hB5 ?_ | refine wpList_append_newD slVertP rfl _ _ rfl wo.heap.size _ _ (drawn_drewN _ _) 1 _ _ _ HM5.out rfl rfl rfl rfl hN (by decide) hB5 ?_ | refine wpList_append_newD slVertP rfl _ _ rfl wo.heap.size _ _ (drawn_refl _) 1 _ _ _ HM5.out rfl rfl rfl rfl hN (by decide) hB5 ?_); intro v2 w2 ho2 hg2)
                go_roundw
                case rel => exact ⟨k + 1, M ++ [y], false, hk2, by go_num, rfl, by simp; omega, GOwn.snoc ho2, HN, below_grown HB5.out hB5 HM5.out hg2⟩
                case measure => simp [intOf]; omega
          · have hke : k = out.length := by omega
            subst hke
            rw [List.drop_length] at HR
            have HBi := Lib.hid hbi
            have hbw := below_over HBl.out HBl.out.size hbi
            cases t with
            | true =>
              have HE : Hid (insLater x out = M) := by show _ = _; rw [HR.out, restL_t]; simp
              go_wp2_with fail
              subst hQ
              go_wp2_with fail
              go_roundw
              case rel => exact ⟨i + 1, hlt, by go_num, (by show GRow _ _ _ _ _; rw [HF.out, HE.out]; exact HM.out.row), hbw⟩
              case measure => simp [intOf]; omega
            | false =>
              have HE : Hid (insLater x out = M ++ [x]) := by show _ = _; rw [HR.out, restL_f]; unfold insLater; rfl
              have HXw := Lib.hid (HXa.out wr (HBi.out))
              have x0 : wr.cell? ⟨bl, ol + i * 9, none⟩ = some (.int .u8 (x.id.pid.author.toNat : Int)) := (HXw.out).2 0 _ rfl
              have x1 : wr.cell? ⟨bl, ol + i * 9 + 1, none⟩ = some (.int .u16 (x.id.pid.seq.toNat : Int)) := (HXw.out).2 1 _ rfl
              have x2 : wr.cell? ⟨bl, ol + i * 9 + 2, none⟩ = some (.int .u8 (x.id.n.toNat : Int)) := (HXw.out).2 2 _ rfl
              have x3 : wr.cell? ⟨bl, ol + i * 9 + 3, none⟩ = some (.int .u8 (x.kind.toNat : Int)) := (HXw.out).2 3 _ rfl
              have x4 : wr.cell? ⟨bl, ol + i * 9 + 4, none⟩ = some (.int .u8 (x.file.pid.author.toNat : Int)) := (HXw.out).2 4 _ rfl
              have x5 : wr.cell? ⟨bl, ol + i * 9 + 5, none⟩ = some (.int .u16 (x.file.pid.seq.toNat : Int)) := (HXw.out).2 5 _ rfl
              have x6 : wr.cell? ⟨bl, ol + i * 9 + 6, none⟩ = some (.int .u8 (x.file.n.toNat : Int)) := (HXw.out).2 6 _ rfl
              have x7 : wr.cell? ⟨bl, ol + i * 9 + 7, none⟩ = some (.string x.text) := (HXw.out).2 7 _ rfl
              have x8 : wr.cell? ⟨bl, ol + i * 9 + 8, none⟩ = some (.bool x.dead) := (HXw.out).2 8 _ rfl
              have sX := HXw.out.1
              have hB := HBi.out.size
              go_wp2_with fail
              subst hQ
              go_wp2_with (at_builtin; (first | refine wpList_append_newD slVertP rfl _ _ rfl wo.heap.size _ _ (drawn_alloc_drewN _ _ _) 1 _ _ _ HM.out rfl rfl rfl rfl hN (by decide) hB ?_ | refine wpList_append_newD slVertP rfl _ _ rfl wo.heap.size _ _ (drawn_drew _) 1 _ _ _ HM.out rfl rfl rfl rfl hN (by decide) hB ?_ | refine wpList_append_newD slVertP rfl _ _ rfl wo.heap.size _ _ (drawn_drewN _ _) 1 _ _ _ HM.out rfl rfl rfl rfl hN (by decide) hB ?_ | refine wpList_append_newD slVertP rfl _ _ rfl wo.heap.size _ _ (drawn_refl _) 1 _ _ _ HM.out rfl rfl rfl rfl hN (by decide) hB ?_); intro v2 w2 ho2 hg2)
              go_roundw
              case rel => exact ⟨i + 1, hlt, by go_num, (by show GRow _ _ _ _ _; rw [HF.out, HE.out]; exact (GOwn.snoc ho2).row), below_over HBl.out HBl.out.size (below_grown HBi.out hB HM.out hg2)⟩
              case measure => simp [intOf]; omega
    · obtain rfl : i = all.length := by omega
      have HE2 := HO.out
      rw [HE.out] at HE2
      go_wp2_with fail
      go_ret
      exact ⟨_, rfl, HE2, below_over HB2.out HB2.out.size hbl⟩
end Go.Proofs.YtfciedmmgddgpaaGreatDoor
