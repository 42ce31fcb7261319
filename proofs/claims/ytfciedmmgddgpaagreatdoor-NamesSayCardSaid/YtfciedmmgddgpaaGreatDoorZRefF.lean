/- Contract of ref20.is. Contract of ref20.ahead. Contract of ref20.ids. '==' at steps; rows of steps. -/
import Derived.Test.YtfciedmmgddgpaaGreatDoorZRefB
import Derived.Test.YtfciedmmgddgpaaGreatDoorZSet
namespace Go.Proofs.YtfciedmmgddgpaaGreatDoor
open Go Go.RowKit

theorem isKind_eq (L : List PatchM) (v : VidM) (k : UInt8) : isKind L v k = isK (vertM L v) k := rfl
attribute [local irreducible] vertM isK optV
set_option maxHeartbeats 8000000 in
set_option maxRecDepth 100000 in
theorem ris20_any (gv : Value) (xs : List LaidP) (v : VidM) (k : UInt8) (w : World) (hv : Pats w gv xs) (hl : ∀ x ∈ xs, x.p.ops.length ≤ 40000) :
    Calls Tryz.prog 79 #[rgV gv, vidV v, .int .u8 (k.toNat : Int)] w fun e w' => e = .returned (.bool (isKind (patsOf xs) v k)) ∧ Below w.heap.size w w' := by
  rw [isKind_eq]
  have HL := Lib.hid hl
  have HV := Lib.hid hv
  obtain ⟨a, cap, rfl, h1, h2, hc⟩ := hv.1.at encPat_len
  unfold maxLen at h2
  have HC := Lib.hid hc
  have HG := Lib.hid ((arr_new w #[.slice a xs.length cap] 33).alloc (.cells #[.int .u8 (v.pid.author.toNat : Int), .int .u16 (v.pid.seq.toNat : Int), .int .u8 (v.n.toNat : Int)] 27))
  have HQ := Lib.hid (arr_new2 w (.cells #[.slice a xs.length cap] 33) #[.int .u8 (v.pid.author.toNat : Int), .int .u16 (v.pid.seq.toNat : Int), .int .u8 (v.n.toNat : Int)] 27)
  have HB := Lib.hid ((below_new (w := w) (.cells #[.slice a xs.length cap] 33)).alloc (by simp) (.cells #[.int .u8 (v.pid.author.toNat : Int), .int .u16 (v.pid.seq.toNat : Int), .int .u8 (v.n.toNat : Int)] 27))
  clear hv hc hl
  generalize hx : vertM (patsOf xs) v = x at *
  have HX := Lib.hid hx
  clear hx
  unfold rgV vidV
  go_enter Tryz.func79, Tryz.ntmps79
  go_upto_region 1 with (fail)
  generalize hw0 : (w.alloc (.cells #[.slice a xs.length cap] 33)).alloc (.cells #[.int .u8 (v.pid.author.toNat : Int), .int .u16 (v.pid.seq.toNat : Int), .int .u8 (v.n.toNat : Int)] 27) = w0 at *
  clear hw0
  have g0 := HG.out.cell (j := 0) rfl
  have sg := HG.out.lt
  have q0 := HQ.out.cell (j := 0) rfl
  have q1 := HQ.out.cell (j := 1) rfl
  have q2 := HQ.out.cell (j := 2) rfl
  have sq := HQ.out.lt
  have HV0 := Lib.hid (HV.out.over HB.out)
  go_upto_region 2 with (first | (go_at_call 47; (with_reducible refine (rvert20_any _ xs v _ (HV0.out.over (Below.refl _ _)) HL.out).mono ?_); rintro e w1 ⟨rfl, hb⟩; rw [HX.out]; have HB1 := Lib.hid hb; clear hb))
  have HA2 := Lib.hid (arr_new w1 #[.int .u8 ((optV x).id.pid.author.toNat : Int), .int .u16 ((optV x).id.pid.seq.toNat : Int), .int .u8 ((optV x).id.n.toNat : Int), .int .u8 ((optV x).kind.toNat : Int), .int .u8 ((optV x).file.pid.author.toNat : Int), .int .u16 ((optV x).file.pid.seq.toNat : Int), .int .u8 ((optV x).file.n.toNat : Int), .string (optV x).text, .bool (optV x).dead] 68)
  have HBx := Lib.hid (HB1.out.alloc HB1.out.size (.cells #[.int .u8 ((optV x).id.pid.author.toNat : Int), .int .u16 ((optV x).id.pid.seq.toNat : Int), .int .u8 ((optV x).id.n.toNat : Int), .int .u8 ((optV x).kind.toNat : Int), .int .u8 ((optV x).file.pid.author.toNat : Int), .int .u16 ((optV x).file.pid.seq.toNat : Int), .int .u8 ((optV x).file.n.toNat : Int), .string (optV x).text, .bool (optV x).dead] 68))
  have HB2 := Lib.hid (below_over HB.out HB.out.size HBx.out)
  generalize hw2 : w1.alloc (.cells #[.int .u8 ((optV x).id.pid.author.toNat : Int), .int .u16 ((optV x).id.pid.seq.toNat : Int), .int .u8 ((optV x).id.n.toNat : Int), .int .u8 ((optV x).kind.toNat : Int), .int .u8 ((optV x).file.pid.author.toNat : Int), .int .u16 ((optV x).file.pid.seq.toNat : Int), .int .u8 ((optV x).file.n.toNat : Int), .string (optV x).text, .bool (optV x).dead] 68) = w2 at *
  clear hw2 g0 sg q0 q1 q2 sq
  have x0 := HA2.out.cell (j := 0) rfl
  have x1 := HA2.out.cell (j := 1) rfl
  have x2 := HA2.out.cell (j := 2) rfl
  have x3 := HA2.out.cell (j := 3) rfl
  have x4 := HA2.out.cell (j := 4) rfl
  have x5 := HA2.out.cell (j := 5) rfl
  have x6 := HA2.out.cell (j := 6) rfl
  have x7 := HA2.out.cell (j := 7) rfl
  have x8 := HA2.out.cell (j := 8) rfl
  have sx := HA2.out.lt
  cases hq : x.isSome with
  | false =>
    have HK := Lib.hid (isK_no k hq)
    go_wp2_with fail
    go_ret
    exact ⟨ret_val (congrArg Value.bool (HK.out).symm), HB2.out⟩
  | true =>
    have k9 : (((optV x).kind.toNat : Int) == (k.toNat : Int)) = _ := kind_nat (x := optV x) (n := k.toNat) (k := k) rfl
    cases hd : decide ((optV x).kind = k) with
    | false =>
      have HK := Lib.hid ((isK_yes hq).trans hd)
      rw [hd] at k9
      clear hd
      go_wp2_with fail
      go_ret
      exact ⟨ret_val (congrArg Value.bool (HK.out).symm), HB2.out⟩
    | true =>
      have HK := Lib.hid ((isK_yes hq).trans hd)
      rw [hd] at k9
      clear hd
      go_wp2_with fail
      go_ret
      exact ⟨ret_val (congrArg Value.bool (HK.out).symm), HB2.out⟩
end Go.Proofs.YtfciedmmgddgpaaGreatDoor
namespace Go.Proofs.YtfciedmmgddgpaaGreatDoor
open Go Go.RowKit

def aheadM (a b : EdgeM) : Bool := if a.1 = b.1 then decide (cmpVid a.2 b.2 < 0) else decide (cmpVid a.1 b.1 < 0)
theorem ahead_1 {a b : EdgeM} (h : a.1 = b.1) : aheadM a b = decide (cmpVid a.2 b.2 < 0) := by unfold aheadM; rw [if_pos h]
theorem ahead_2 {a b : EdgeM} (h : ¬ a.1 = b.1) : aheadM a b = decide (cmpVid a.1 b.1 < 0) := by unfold aheadM; rw [if_neg h]
attribute [local irreducible] aheadM cmpVid
end Go.Proofs.YtfciedmmgddgpaaGreatDoor
namespace Go.Proofs.YtfciedmmgddgpaaGreatDoor
open Go Go.RowKit

def pick1 (p : PatchM) (k : Nat) : Option VidM := match p.ops[k]? with | some o => if makesB o.kind = true then some ⟨p.id, UInt8.ofNat k⟩ else none | none => none
def idsP (p : PatchM) (k : Nat) : List VidM := (List.range k).filterMap (pick1 p)
def idsX (xs : List LaidP) : List VidM := xs.flatMap fun x => idsP x.p x.p.ops.length
theorem idsX_eq (xs : List LaidP) : idsOf (patsOf xs) = idsX xs := by unfold idsOf idsX; rw [List.flatMap_map]; rfl
theorem idsP_zero (p : PatchM) : idsP p 0 = [] := rfl
theorem idsP_yes {p : PatchM} {k : Nat} {o : OpM} (ho : p.ops[k]? = some o) (hm : makesB o.kind = true) : idsP p (k + 1) = idsP p k ++ [⟨p.id, UInt8.ofNat k⟩] := by
  unfold idsP; rw [List.range_succ, List.filterMap_append]
  have : pick1 p k = some ⟨p.id, UInt8.ofNat k⟩ := by unfold pick1; rw [ho]; simp [hm]
  simp [this]
theorem idsP_no {p : PatchM} {k : Nat} {o : OpM} (ho : p.ops[k]? = some o) (hm : makesB o.kind = false) : idsP p (k + 1) = idsP p k := by
  unfold idsP; rw [List.range_succ, List.filterMap_append]
  have : pick1 p k = none := by unfold pick1; rw [ho]; simp [hm]
  simp [this]
theorem idsP_len (p : PatchM) (k : Nat) : (idsP p k).length ≤ k := by
  unfold idsP; exact Nat.le_trans (List.length_filterMap_le _ _) (by simp)
theorem idsX_zero (xs : List LaidP) : idsX (xs.take 0) = [] := rfl
theorem idsX_succ {xs : List LaidP} {i : Nat} {x : LaidP} (h : xs[i]? = some x) : idsX (xs.take (i + 1)) = idsX (xs.take i) ++ idsP x.p x.p.ops.length := by
  unfold idsX; rw [take_succ' h, List.flatMap_append]; simp
theorem idsX_len : ∀ (xs : List LaidP), (∀ x ∈ xs, x.p.ops.length ≤ 260) → (idsX xs).length ≤ 260 * xs.length
  | [], _ => by simp [idsX]
  | x :: xs, h => by
    have h1 := idsX_len xs (fun y hy => h y (List.mem_cons_of_mem _ hy))
    have h2 := idsP_len x.p x.p.ops.length
    have h3 := h x (List.mem_cons_self ..)
    have : idsX (x :: xs) = idsP x.p x.p.ops.length ++ idsX xs := rfl
    rw [this, List.length_append, List.length_cons]; omega
def IdOut (w0 : World) (xs : List LaidP) (v3 v4 : Value) (wr : World) : Prop := ∃ i : Nat, i ≤ xs.length ∧ v4 = .int .i64 i ∧ Hid (GOwn encVid 3 27 wr w0.heap.size v3 (idsX (xs.take i))) ∧ Below w0.heap.size w0 wr
def IdIn (w0 : World) (p : PatchM) (l : List VidM) (v3 v5 : Value) (wr : World) : Prop := ∃ k : Nat, k ≤ p.ops.length ∧ v5 = .int .i64 k ∧ Hid (GOwn encVid 3 27 wr w0.heap.size v3 (l ++ idsP p k)) ∧ Below w0.heap.size w0 wr
attribute [local irreducible] idsP idsX
set_option maxHeartbeats 16000000 in
set_option maxRecDepth 100000 in
theorem rids20_any (gv : Value) (xs : List LaidP) (w : World) (hv : Pats w gv xs) (hn : xs.length ≤ 300) (hl : ∀ x ∈ xs, x.p.ops.length ≤ 260) :
    Calls Tryz.prog 46 #[rgV gv] w (SetRes encVid 3 w (idsM (patsOf xs))) := by
  unfold idsM
  rw [idsX_eq]
  have HL := Lib.hid hl
  have HV := Lib.hid hv
  obtain ⟨a, cap, rfl, h1, h2, hc⟩ := hv.1.at encPat_len
  unfold maxLen at h2
  have HC := Lib.hid hc
  have HG := Lib.hid (arr_new w #[.slice a xs.length cap] 33)
  have HB := Lib.hid (below_new (w := w) (.cells #[.slice a xs.length cap] 33))
  clear hv hc hl
  unfold rgV
  go_enter Tryz.func46, Tryz.ntmps46
  go_upto_region 1 with (fail)
  generalize hw0 : (w.alloc (.cells #[.slice a xs.length cap] 33)) = w0 at *
  clear hw0
  go_wp2_with fail
  go_loopw [3, 4] (fun v3 v4 wr => IdOut w0 xs v3 v4 wr) (fun _ v4 _ => xs.length - (intOf v4).toNat)
  case atStart => exact ⟨0, by omega, rfl, (by show GOwn _ _ _ _ _ _ _; rw [idsX_zero]; exact gown_nil _ _), Below.refl _ _⟩
  case round =>
    obtain ⟨i, hi, rfl, HM, hbl⟩ := hrel
    have HBr := Lib.hid (below_over HB.out HB.out.size hbl)
    have HGr := Lib.hid (HG.out.over hbl)
    rename World => wo
    have g0 := HGr.out.cell (j := 0) rfl
    have sg := HGr.out.lt
    by_cases hlt : i < xs.length
    · obtain ⟨bo, off, rfl, sb, hcb⟩ := HC.out.resolve_left (by omega)
      obtain ⟨x, hx⟩ := get_of_lt hlt
      have HX := Lib.hid hx
      have hp : PatOk w x := HV.out.2 x (List.mem_of_getElem? hx)
      have hlx := HL.out x (List.mem_of_getElem? hx)
      obtain ⟨ao, capo, hov, t1, t2, hco⟩ := hp.2.at encOp_len
      unfold maxLen at t2
      have HCo := Lib.hid hco
      have HCb := Lib.hid (hcb i x hx)
      have HSu := Lib.hid (idsX_succ hx)
      have hxl : (idsX (xs.take i)).length ≤ 260 * 300 := by
        have := idsX_len (xs.take i) (fun y hy => HL.out y (List.mem_of_mem_take hy))
        rw [List.length_take] at this; omega
      generalize hLi : idsX (xs.take i) = Li at *
      clear hcb hx hp hco hLi
      go_wp2_with fail
      clear g0 sg
      go_hide hQ
      go_loopw [3, 5] (fun v3 v5 wi => IdIn w0 x.p Li v3 v5 wi) (fun _ v5 _ => x.p.ops.length - (intOf v5).toNat)
      case atStart => exact ⟨0, by omega, rfl, (by show GOwn _ _ _ _ _ _ _; rw [idsP_zero, List.append_nil]; exact HM.out), hbl⟩
      case round =>
        rename World => wr
        obtain ⟨k, hk, rfl, HM2, hbi⟩ := hrel
        have hfl := idsP_len x.p k
        have hN : (Li ++ idsP x.p k).length + 1 ≤ 1099511627776 := by rw [List.length_append]; omega
        have HB5 := Lib.hid (below_over HB.out HB.out.size hbi)
        have HG5 := Lib.hid (HG.out.over hbi)
        have HRx := Lib.hid (HCb.out wr HB5.out)
        have g0 := HG5.out.cell (j := 0) rfl
        have sg := HG5.out.lt
        have x0 : wr.cell? ⟨bo, off + i * 4, none⟩ = some (.int .u8 (x.p.id.author.toNat : Int)) := (HRx.out).2 0 _ rfl
        have x1 : wr.cell? ⟨bo, off + i * 4 + 1, none⟩ = some (.int .u16 (x.p.id.seq.toNat : Int)) := (HRx.out).2 1 _ rfl
        have x2 : wr.cell? ⟨bo, off + i * 4 + 2, none⟩ = some (x.dv) := (HRx.out).2 2 _ rfl
        have x3 : wr.cell? ⟨bo, off + i * 4 + 3, none⟩ = some (x.ov) := (HRx.out).2 3 _ rfl
        have sx := HRx.out.1
        rw [hov] at x3
        by_cases hlk : k < x.p.ops.length
        · obtain ⟨b2, off2, rfl, sb2, hcb2⟩ := HCo.out.resolve_left (by omega)
          obtain ⟨o, ho⟩ := get_of_lt hlk
          have HO := Lib.hid ho
          have HRo := Lib.hid (hcb2 k o ho wr HB5.out)
          have o0 : wr.cell? ⟨b2, off2 + k * 8, none⟩ = some (.int .u8 (o.kind.toNat : Int)) := (HRo.out).2 0 _ rfl
          have so := HRo.out.1
          clear hcb2 ho
          cases hm : makesB o.kind with
          | false =>
            have HMK := Lib.hid hm
            have HN := Lib.hid (idsP_no HO.out hm)
            clear hm
            go_wp2_with (first | (go_at_call 80; (with_reducible refine (rmakes_any o.kind _).mono ?_); rintro e w9 ⟨rfl, hw9⟩; obtain rfl := hw9.symm; rw [HMK.out]))
            go_roundw
            case rel => exact ⟨k + 1, hlk, by go_num, (by show GOwn _ _ _ _ _ _ _; rw [HN.out]; exact HM2.out), hbi⟩
            case measure => simp [intOf]; omega
          | true =>
            have HMK := Lib.hid hm
            have HN := Lib.hid (idsP_yes HO.out hm)
            clear hm
            go_wp2_with (first | (go_at_call 80; (with_reducible refine (rmakes_any o.kind _).mono ?_); rintro e w9 ⟨rfl, hw9⟩; obtain rfl := hw9.symm; rw [HMK.out]) | (go_at_call 81; (with_reducible refine (rvid_any x.p.id k _ (by omega)).mono ?_); rintro e w7 ⟨rfl, hb⟩; have HM3 := Lib.hid (HM2.out.over hb); have hb7 := below_over hbi hbi.size hb; have hB3 := hb7.size) | (at_builtin; (first | refine wpList_append_newD slVid rfl _ _ rfl w0.heap.size _ _ (drawn_alloc_drewN _ _ _) 1 _ _ _ HM3.out rfl rfl rfl rfl hN (by decide) hB3 ?_ | refine wpList_append_newD slVid rfl _ _ rfl w0.heap.size _ _ (drawn_drew _) 1 _ _ _ HM3.out rfl rfl rfl rfl hN (by decide) hB3 ?_ | refine wpList_append_newD slVid rfl _ _ rfl w0.heap.size _ _ (drawn_drewN _ _) 1 _ _ _ HM3.out rfl rfl rfl rfl hN (by decide) hB3 ?_ | refine wpList_append_newD slVid rfl _ _ rfl w0.heap.size _ _ (drawn_refl _) 1 _ _ _ HM3.out rfl rfl rfl rfl hN (by decide) hB3 ?_); intro v2 w2 ho2 hg2))
            go_roundw
            case rel => exact ⟨k + 1, hlk, by go_num, (by show GOwn _ _ _ _ _ _ _; rw [HN.out, ← List.append_assoc]; exact GOwn.snoc ho2), below_grown hb7 hB3 HM3.out hg2⟩
            case measure => simp [intOf]; omega
        · obtain rfl : k = x.p.ops.length := by omega
          go_wp2_with fail
          subst hQ
          go_wp2_with fail
          go_roundw
          case rel => exact ⟨i + 1, hlt, by go_num, (by show GOwn _ _ _ _ _ _ _; rw [HSu.out]; exact HM2.out), hbi⟩
          case measure => simp [intOf]; omega
    · obtain rfl : i = xs.length := by omega
      have hxl : (idsX xs).length ≤ 260 * 300 := by
        have := idsX_len xs HL.out; omega
      have HE := HM.out
      rw [List.take_length] at HE
      have HE2 := Lib.hid HE.row
      clear HE HM
      go_wp2_with fail
      refine (rsetVid_any _ _ _ HE2.out (by omega)).mono ?_
      rintro e w2 ⟨u, rfl, hu, hb2⟩
      go_wp2_with fail
      go_ret
      exact ⟨_, rfl, hu, below_over HBr.out HBr.out.size hb2⟩
end Go.Proofs.YtfciedmmgddgpaaGreatDoor
namespace Go.Proofs.YtfciedmmgddgpaaGreatDoor
open Go Go.RowKit

theorem under_edge : Tryz.prog.underlying 99 = some (.array 2 27) := by kernel_rfl
theorem cellsOf_vid : Tryz.prog.cellsOf 27 = 3 := by kernel_rfl
set_option maxHeartbeats 2000000 in
theorem equal_edge (d : Nat) (x y : EdgeM) (w : World) : (Op.equalIn (d + 5) 99 (edgeV x) (edgeV y)).run Tryz.prog w = .ok (decide (x = y)) w := by
  obtain ⟨_, i, _, _, hi, _⟩ := rowT_vid.out
  have h1 : ∀ w, (Op.equalIn (d + 4) 27 (vidV x.1) (vidV y.1)).run Tryz.prog w = .ok (decide (x.1 = y.1)) w := equal_vid d x.1 y.1
  have h2 : ∀ w, (Op.equalIn (d + 4) 27 (vidV x.2) (vidV y.2)).run Tryz.prog w = .ok (decide (x.2 = y.2)) w := equal_vid d x.2 y.2
  have z1 := Tryz.sizeOf27
  have z3 := Tryz.isAgg27
  unfold edgeV
  unfold vidV at h1 h2
  rw [show d + 5 = (d + 4) + 1 from rfl, run_equalIn_array w (d + 4) _ _ under_edge hi, cellsOf_vid]
  simp [go_sem, Op.eqItems, List.range_succ, z1, z3, h1, h2]
  obtain ⟨a, b⟩ := x
  obtain ⟨a', b'⟩ := y
  by_cases e1 : a = a' <;> by_cases e2 : b = b' <;> simp [e1, e2]
theorem eql_edge (x y : EdgeM) (b : Bool) (h : decide (x = y) = b) (w : World) : (binOp .eql 99 (edgeV x) (edgeV y)).run Tryz.prog w = .ok (.bool b) w := by
  unfold edgeV
  rw [run_eql_struct, show (10000 : Nat) = 9995 + 5 from rfl, equal_edge 9995 x y, ← h]; rfl
theorem neq_edge (x y : EdgeM) (b : Bool) (h : (!decide (x = y)) = b) (w : World) : (binOp .neq 99 (edgeV x) (edgeV y)).run Tryz.prog w = .ok (.bool b) w := by
  unfold edgeV
  rw [run_neq_struct, show (10000 : Nat) = 9995 + 5 from rfl, equal_edge 9995 x y, ← h]; rfl
theorem guardEdge : Tryz.prog.eqGuardType Tryz.prog.depth 99 = false := by kernel_rfl
theorem guard_edge (op : BinOp) (p q : Operand) (xs ys : Array Value) (w : World) : (eqGuard op 99 p q (.agg xs) (.agg ys)).run Tryz.prog w = .ok () w := run_eqGuard_agg w op _ p q xs ys guardEdge
theorem encEdge_len (e : EdgeM) : (encEdge e).length = 6 := rfl
theorem slVert : SlT Tryz.prog 38 68 9 40 := slT_of Tryz.underlying38 (by kernel_rfl) (by decide)
theorem slPat : SlT Tryz.prog 22 51 4 56 := slT_of Tryz.underlying22 (by kernel_rfl) (by decide)
end Go.Proofs.YtfciedmmgddgpaaGreatDoor
