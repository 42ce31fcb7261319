/- Contract of (*Graph).look. Contract of (*Graph).refs. -/
import Derived.Test.YtfciedmmgddgpaaGreatDoorZGraphA
namespace Go.Proofs.YtfciedmmgddgpaaGreatDoor
open Go Go.RowKit

/-- a vertex, of the graph, or of a patch itself -/
def lookX (vs : VidM → Option VertM) (id : PidM) (ops : List OpM) (v : VidM) : Option VertM :=
  if v.pid = id then (match ops[v.n.toNat]? with | some o => if makesB o.kind = true then some (madeX id v.n.toNat o) else none | none => none) else vs v
theorem look_far {vs : VidM → Option VertM} {id : PidM} {ops : List OpM} {v : VidM} (h : ¬ v.pid = id) : lookX vs id ops v = vs v := by unfold lookX; rw [if_neg h]
theorem look_out {vs : VidM → Option VertM} {id : PidM} {ops : List OpM} {v : VidM} (h : v.pid = id) (hn : ¬ v.n.toNat < ops.length) : lookX vs id ops v = none := by unfold lookX; rw [if_pos h, List.getElem?_eq_none (by omega)]
theorem look_no {vs : VidM → Option VertM} {id : PidM} {ops : List OpM} {v : VidM} {o : OpM} (h : v.pid = id) (ho : ops[v.n.toNat]? = some o) (hm : makesB o.kind = false) : lookX vs id ops v = none := by unfold lookX; rw [if_pos h, ho]; simp [hm]
theorem look_yes {vs : VidM → Option VertM} {id : PidM} {ops : List OpM} {v : VidM} {o : OpM} (h : v.pid = id) (ho : ops[v.n.toNat]? = some o) (hm : makesB o.kind = true) : lookX vs id ops v = some (madeX id v.n.toNat o) := by unfold lookX; rw [if_pos h, ho]; simp [hm]
theorem lookX_eq (L : List PatchM) (p : PatchM) (v : VidM) : lookX (vertM L) p.id p.ops v = lookM L p v := by
  have e : UInt8.ofNat v.n.toNat = v.n := by simp
  unfold lookX lookM madeBy
  by_cases h : v.pid = p.id
  · rw [if_pos h, if_pos h, if_pos h.symm]
    cases hq : p.ops[v.n.toNat]? with
    | none => simp
    | some o =>
      cases hm : makesB o.kind with
      | false => simp [hm, Option.filter]
      | true =>
        simp only [hm, if_true, Option.filter, Option.map_some]
        unfold madeX
        rw [e, ← h]
  · rw [if_neg h, if_neg h]
theorem vertRes_of {w w' : World} {X x : Option VertM} {y : VertM} {q : Bool} (hk : X = x) (hy : x.getD noVert = y) (hq : x.isSome = q) (hb : Below w.heap.size w w') : VertRes w X (.returned (.tuple #[vertV y, .bool q])) w' := by subst hk; exact vertRes_mk hy hq hb
attribute [local irreducible] vecL gCells lookX madeX
set_option maxHeartbeats 4000000 in
set_option maxRecDepth 100000 in
theorem glook_any (b bv be n : Nat) (f : VecM) (vs : VidM → Option VertM) (es : EdgeM → Option VidM) (id : PidM) (dv ov : Value) (ops : List OpM) (v : VidM) (w : World) (hg : GrW w b bv be n f vs es) (hv : GRow encOp 8 w ov ops) (hl : ops.length ≤ 40000) :
    Calls Tryz.prog 112 #[.pointer (some ⟨b, 0, none⟩), patV id dv ov, vidV v] w (VertRes w (lookX vs id ops v)) := by
  have HV := Lib.hid hv
  obtain ⟨a, cap, rfl, h1, h2, hc⟩ := hv.at encOp_len
  unfold maxLen at h2
  have HC := Lib.hid hc
  have HP := Lib.hid (((arr_new w #[.int .u8 (id.author.toNat : Int), .int .u16 (id.seq.toNat : Int), dv, .slice a ops.length cap] 51).alloc (.cells #[.int .u8 (v.pid.author.toNat : Int), .int .u16 (v.pid.seq.toNat : Int), .int .u8 (v.n.toNat : Int)] 27)).alloc (.cells #[.int .u8 0, .int .u16 0, .int .u8 0, .int .u8 0, .int .u8 0, .int .u16 0, .int .u8 0, .string ⟨#[]⟩, .bool false] 68))
  have HVd := Lib.hid ((arr_new2 w (.cells #[.int .u8 (id.author.toNat : Int), .int .u16 (id.seq.toNat : Int), dv, .slice a ops.length cap] 51) #[.int .u8 (v.pid.author.toNat : Int), .int .u16 (v.pid.seq.toNat : Int), .int .u8 (v.n.toNat : Int)] 27).alloc (.cells #[.int .u8 0, .int .u16 0, .int .u8 0, .int .u8 0, .int .u8 0, .int .u16 0, .int .u8 0, .string ⟨#[]⟩, .bool false] 68))
  have HR := Lib.hid (arr_new3 w (.cells #[.int .u8 (id.author.toNat : Int), .int .u16 (id.seq.toNat : Int), dv, .slice a ops.length cap] 51) (.cells #[.int .u8 (v.pid.author.toNat : Int), .int .u16 (v.pid.seq.toNat : Int), .int .u8 (v.n.toNat : Int)] 27) #[.int .u8 0, .int .u16 0, .int .u8 0, .int .u8 0, .int .u8 0, .int .u16 0, .int .u8 0, .string ⟨#[]⟩, .bool false] 68)
  have HB := Lib.hid (((below_new (w := w) (.cells #[.int .u8 (id.author.toNat : Int), .int .u16 (id.seq.toNat : Int), dv, .slice a ops.length cap] 51)).alloc (by simp) (.cells #[.int .u8 (v.pid.author.toNat : Int), .int .u16 (v.pid.seq.toNat : Int), .int .u8 (v.n.toNat : Int)] 27)).alloc (by simp; omega) (.cells #[.int .u8 0, .int .u16 0, .int .u8 0, .int .u8 0, .int .u8 0, .int .u16 0, .int .u8 0, .string ⟨#[]⟩, .bool false] 68))
  have HG := Lib.hid (hg.over HB.out)
  have gd := fun p q xs ys w => guard_pid .neq p q xs ys w
  have hnl := v.n.toNat_lt
  clear hv hc hg
  unfold patV vidV
  go_enter Tryz.func112, Tryz.ntmps112
  go_upto_region 1 with (fail)
  generalize hw0 : ((w.alloc (.cells #[.int .u8 (id.author.toNat : Int), .int .u16 (id.seq.toNat : Int), dv, .slice a ops.length cap] 51)).alloc (.cells #[.int .u8 (v.pid.author.toNat : Int), .int .u16 (v.pid.seq.toNat : Int), .int .u8 (v.n.toNat : Int)] 27)).alloc (.cells #[.int .u8 0, .int .u16 0, .int .u8 0, .int .u8 0, .int .u8 0, .int .u16 0, .int .u8 0, .string ⟨#[]⟩, .bool false] 68) = w0 at *
  clear hw0
  have p0 := HP.out.cell (j := 0) rfl
  have p1 := HP.out.cell (j := 1) rfl
  have p2 := HP.out.cell (j := 2) rfl
  have p3 := HP.out.cell (j := 3) rfl
  have sp := HP.out.lt
  have v0 := HVd.out.cell (j := 0) rfl
  have v1 := HVd.out.cell (j := 1) rfl
  have v2 := HVd.out.cell (j := 2) rfl
  have sv := HVd.out.lt
  by_cases hp : v.pid = id
  · have e1 := neq_pid v.pid id false (by simp [hp])
    unfold pidV at e1
    by_cases hn : v.n.toNat < ops.length
    · have e2 : decide (ops.length ≤ v.n.toNat) = false := by simp; omega
      have e3 : decide (v.n.toNat < ops.length) = true := by simpa using hn
      obtain ⟨b', off, rfl, sb, hcb⟩ := HC.out.resolve_left (by omega)
      obtain ⟨o, ho⟩ := get_op hn
      have HO := Lib.hid (hcb v.n.toNat o ho w0 HB.out)
      have o0 : w0.cell? ⟨b', off + v.n.toNat * 8, none⟩ = some (.int .u8 (o.kind.toNat : Int)) := HO.out.2 0 _ rfl
      have so := HO.out.1
      have HOo := Lib.hid ho
      have HV0 := Lib.hid (HV.out.over HB.out)
      clear hcb HC HV
      cases hmk : makesB o.kind with
      | false =>
        have HK := Lib.hid (look_no (vs := vs) hp ho hmk)
        have HMK := Lib.hid hmk
        clear hp ho hmk
        go_wp2_with (first | (go_at_call 43; (with_reducible refine (pmakes_any o.kind _).mono ?_); rintro e w9 ⟨rfl, rfl⟩; rw [HMK.out]) | ((with_reducible show wpList _ _ _ ({ dst := _, op := .store _ _ _, type := _, pos := _, after := _, guard := _ } :: _) _ _); refine wpList_store_arr rowVert rfl _ _ rfl _ _ (encVert noVert) HR.out rfl rfl rfl rfl rfl ?_))
        exact bodyPost_ret (v := .tuple #[vertV noVert, .bool false]) (results_arr_slot rowVert rfl (HR.out.row (encVert noVert)) rfl rfl rfl) rfl (vertRes_of HK.out rfl rfl (below_setRow HB.out (by omega) _))
      | true =>
        have HK := Lib.hid (look_yes (vs := vs) hp ho hmk)
        have HMK := Lib.hid hmk
        clear hp ho hmk
        generalize hy : madeX id v.n.toNat o = y at *
        go_wp2_with (first | (go_at_call 43; (with_reducible refine (pmakes_any o.kind _).mono ?_); rintro e w9 ⟨rfl, rfl⟩; rw [HMK.out]) | (go_at_call 44; (with_reducible refine (hy ▸ gmade_any id dv _ ops v.n.toNat o _ HV0.out HOo.out hl).mono ?_); rintro e w2 ⟨rfl, hb⟩; have HR2 := Lib.hid (HR.out.over hb); have HB2 := Lib.hid (below_over HB.out HB.out.size hb); clear hb) | ((with_reducible show wpList _ _ _ ({ dst := _, op := .store _ _ _, type := _, pos := _, after := _, guard := _ } :: _) _ _); refine wpList_store_arr rowVert rfl _ _ rfl _ _ (encVert y) HR2.out rfl rfl rfl rfl rfl ?_))
        exact bodyPost_ret (v := .tuple #[vertV y, .bool true]) (results_arr_slot rowVert rfl (HR2.out.row (encVert y)) rfl rfl rfl) rfl (vertRes_of HK.out rfl rfl (below_setRow HB2.out (by omega) _))
    · have e2 : decide (ops.length ≤ v.n.toNat) = true := by simp; omega
      have HK := Lib.hid (look_out (vs := vs) hp hn)
      clear hp hn
      go_wp2_with (first | ((with_reducible show wpList _ _ _ ({ dst := _, op := .store _ _ _, type := _, pos := _, after := _, guard := _ } :: _) _ _); refine wpList_store_arr rowVert rfl _ _ rfl _ _ (encVert noVert) HR.out rfl rfl rfl rfl rfl ?_))
      exact bodyPost_ret (v := .tuple #[vertV noVert, .bool false]) (results_arr_slot rowVert rfl (HR.out.row (encVert noVert)) rfl rfl rfl) rfl (vertRes_of HK.out rfl rfl (below_setRow HB.out (by omega) _))
  · have e1 := neq_pid v.pid id true (by simp [hp])
    unfold pidV at e1
    have HK := Lib.hid (look_far (vs := vs) (ops := ops) hp)
    clear hp
    generalize hx : vs v = x at *
    go_wp2_with (first | (go_at_call 32; (with_reducible refine (hx ▸ gvert_any b bv be n f vs es v _ (HG.out.over (Below.refl _ _))).mono ?_); rintro e w2 ⟨rfl, hb⟩; have HR2 := Lib.hid (HR.out.over hb); have HB2 := Lib.hid (below_over HB.out HB.out.size hb); clear hb) | ((with_reducible show wpList _ _ _ ({ dst := _, op := .store _ _ _, type := _, pos := _, after := _, guard := _ } :: _) _ _); refine wpList_store_arr rowVert rfl _ _ rfl _ _ (encVert (optV x)) HR2.out rfl rfl rfl rfl rfl ?_))
    exact bodyPost_ret (v := .tuple #[vertV (optV x), .bool x.isSome]) (results_arr_slot rowVert rfl (HR2.out.row (encVert (optV x))) rfl rfl rfl) rfl (vertRes_of HK.out rfl rfl (below_setRow HB2.out (by omega) _))
end Go.Proofs.YtfciedmmgddgpaaGreatDoor
namespace Go.Proofs.YtfciedmmgddgpaaGreatDoor
open Go Go.RowKit

def refsK (x z : Option VertM) (k : Nat) : Bool :=
  if k = 2 ∨ k = 3 then isK x 1
  else if k = 5 then x.isSome
  else if k = 4 then isK x 3 && (isK z 3 && decide (x.map (·.file) = z.map (·.file)))
  else true
theorem refsK_eq (L : List PatchM) (p : PatchM) (o : OpM) : refsK (lookX (vertM L) p.id p.ops o.at') (lookX (vertM L) p.id p.ops o.to) o.kind.toNat = refsB L p o := by
  rw [lookX_eq, lookX_eq]
  unfold refsK refsB
  have e (k : UInt8) (n : Nat) (h : k.toNat = n) : (o.kind.toNat = n) ↔ (o.kind = k) := by rw [← h]; exact UInt8.toNat_inj
  simp only [e 2 2 rfl, e 3 3 rfl, e 4 4 rfl, e 5 5 rfl]
theorem isK_no {x : Option VertM} (k : UInt8) (h : x.isSome = false) : isK x k = false := by cases x <;> simp_all [isK]
theorem isK_yes {x : Option VertM} {k : UInt8} (h : x.isSome = true) : isK x k = decide ((optV x).kind = k) := by cases x with | none => simp at h | some v => rw [Bool.eq_iff_iff]; simp [isK, optV]; exact ⟨fun h => decide_eq_true h, fun h => of_decide_eq_true h⟩
theorem refsK_1 {x z : Option VertM} {k : Nat} (h : k = 2 ∨ k = 3) : refsK x z k = isK x 1 := by unfold refsK; rw [if_pos h]
theorem refsK_5 {x z : Option VertM} : refsK x z 5 = x.isSome := by unfold refsK; simp
theorem refsK_4 {x z : Option VertM} : refsK x z 4 = (isK x 3 && (isK z 3 && decide (x.map (·.file) = z.map (·.file)))) := by unfold refsK; simp
theorem refsK_0 {x z : Option VertM} {k : Nat} (h : ¬ k = 2) (h3 : ¬ k = 3) (h5 : ¬ k = 5) (h4 : ¬ k = 4) : refsK x z k = true := by unfold refsK; simp [h, h3, h4, h5]
theorem file_eq {x z : Option VertM} (h : x.isSome = true) (h' : z.isSome = true) : decide (x.map (·.file) = z.map (·.file)) = decide ((optV x).file = (optV z).file) := by
  cases x with
  | none => simp at h
  | some a => cases z with
    | none => simp at h'
    | some b => rw [Bool.eq_iff_iff]; simp [optV]; exact ⟨fun h => decide_eq_true h, fun h => of_decide_eq_true h⟩
theorem kind_nat {x : VertM} {n : Nat} {k : UInt8} (h : k.toNat = n) : ((x.kind.toNat : Int) == (n : Int)) = decide (x.kind = k) := by
  rw [← h, Bool.eq_iff_iff]; simp [← UInt8.toNat_inj]; omega
attribute [local irreducible] vecL gCells lookX madeX optV refsK isK
set_option maxHeartbeats 8000000 in
set_option maxRecDepth 100000 in
theorem grefs_any (b bv be n : Nat) (f : VecM) (vs : VidM → Option VertM) (es : EdgeM → Option VidM) (id : PidM) (dv ov : Value) (ops : List OpM) (o : OpM) (w : World) (hg : GrW w b bv be n f vs es) (hv : GRow encOp 8 w ov ops) (hl : ops.length ≤ 40000) :
    Calls Tryz.prog 74 #[.pointer (some ⟨b, 0, none⟩), patV id dv ov, opV o] w fun e w' => e = .returned (.bool (refsK (lookX vs id ops o.at') (lookX vs id ops o.to) o.kind.toNat)) ∧ Below w.heap.size w w' := by
  have HV := Lib.hid hv
  obtain ⟨a, cap, rfl, h1, h2, hc⟩ := hv.at encOp_len
  unfold maxLen at h2
  have HP := Lib.hid ((arr_new w #[.int .u8 (id.author.toNat : Int), .int .u16 (id.seq.toNat : Int), dv, .slice a ops.length cap] 51).alloc (.cells #[.int .u8 (o.kind.toNat : Int), .int .u8 (o.at'.pid.author.toNat : Int), .int .u16 (o.at'.pid.seq.toNat : Int), .int .u8 (o.at'.n.toNat : Int), .int .u8 (o.to.pid.author.toNat : Int), .int .u16 (o.to.pid.seq.toNat : Int), .int .u8 (o.to.n.toNat : Int), .string o.text] 56))
  have HO := Lib.hid (arr_new2 w (.cells #[.int .u8 (id.author.toNat : Int), .int .u16 (id.seq.toNat : Int), dv, .slice a ops.length cap] 51) #[.int .u8 (o.kind.toNat : Int), .int .u8 (o.at'.pid.author.toNat : Int), .int .u16 (o.at'.pid.seq.toNat : Int), .int .u8 (o.at'.n.toNat : Int), .int .u8 (o.to.pid.author.toNat : Int), .int .u16 (o.to.pid.seq.toNat : Int), .int .u8 (o.to.n.toNat : Int), .string o.text] 56)
  have HB := Lib.hid ((below_new (w := w) (.cells #[.int .u8 (id.author.toNat : Int), .int .u16 (id.seq.toNat : Int), dv, .slice a ops.length cap] 51)).alloc (by simp) (.cells #[.int .u8 (o.kind.toNat : Int), .int .u8 (o.at'.pid.author.toNat : Int), .int .u16 (o.at'.pid.seq.toNat : Int), .int .u8 (o.at'.n.toNat : Int), .int .u8 (o.to.pid.author.toNat : Int), .int .u16 (o.to.pid.seq.toNat : Int), .int .u8 (o.to.n.toNat : Int), .string o.text] 56))
  have HG := Lib.hid (hg.over HB.out)
  have HV0 := Lib.hid (HV.out.over HB.out)
  have gd := fun p q xs ys w => guard_vid .eql p q xs ys w
  clear hv hc hg HV
  generalize hx : lookX vs id ops o.at' = x at *
  generalize hz : lookX vs id ops o.to = z at *
  have HX := Lib.hid hx
  have HZ := Lib.hid hz
  clear hx hz
  unfold patV opV
  go_enter Tryz.func74, Tryz.ntmps74
  go_upto_region 1 with (fail)
  generalize hw0 : (w.alloc (.cells #[.int .u8 (id.author.toNat : Int), .int .u16 (id.seq.toNat : Int), dv, .slice a ops.length cap] 51)).alloc (.cells #[.int .u8 (o.kind.toNat : Int), .int .u8 (o.at'.pid.author.toNat : Int), .int .u16 (o.at'.pid.seq.toNat : Int), .int .u8 (o.at'.n.toNat : Int), .int .u8 (o.to.pid.author.toNat : Int), .int .u16 (o.to.pid.seq.toNat : Int), .int .u8 (o.to.n.toNat : Int), .string o.text] 56) = w0 at *
  clear hw0
  have p0 := HP.out.cell (j := 0) rfl
  have p1 := HP.out.cell (j := 1) rfl
  have p2 := HP.out.cell (j := 2) rfl
  have p3 := HP.out.cell (j := 3) rfl
  have sp := HP.out.lt
  have o0 := HO.out.cell (j := 0) rfl
  have o1 := HO.out.cell (j := 1) rfl
  have o2 := HO.out.cell (j := 2) rfl
  have o3 := HO.out.cell (j := 3) rfl
  have o4 := HO.out.cell (j := 4) rfl
  have o5 := HO.out.cell (j := 5) rfl
  have o6 := HO.out.cell (j := 6) rfl
  have o7 := HO.out.cell (j := 7) rfl
  have so := HO.out.lt
  go_upto_region 2 with (first | (go_at_call 112; (with_reducible refine (glook_any b bv be n f vs es id dv _ ops o.at' _ (HG.out.over (Below.refl _ _)) HV0.out hl).mono ?_); rintro e w1 ⟨rfl, hb⟩; rw [HX.out]; have HB1 := Lib.hid hb; clear hb))
  have HP2 := Lib.hid ((HP.out.over HB1.out).alloc (.cells #[.int .u8 ((optV x).id.pid.author.toNat : Int), .int .u16 ((optV x).id.pid.seq.toNat : Int), .int .u8 ((optV x).id.n.toNat : Int), .int .u8 ((optV x).kind.toNat : Int), .int .u8 ((optV x).file.pid.author.toNat : Int), .int .u16 ((optV x).file.pid.seq.toNat : Int), .int .u8 ((optV x).file.n.toNat : Int), .string (optV x).text, .bool (optV x).dead] 68))
  have HO2 := Lib.hid ((HO.out.over HB1.out).alloc (.cells #[.int .u8 ((optV x).id.pid.author.toNat : Int), .int .u16 ((optV x).id.pid.seq.toNat : Int), .int .u8 ((optV x).id.n.toNat : Int), .int .u8 ((optV x).kind.toNat : Int), .int .u8 ((optV x).file.pid.author.toNat : Int), .int .u16 ((optV x).file.pid.seq.toNat : Int), .int .u8 ((optV x).file.n.toNat : Int), .string (optV x).text, .bool (optV x).dead] 68))
  have HA2 := Lib.hid (arr_new w1 #[.int .u8 ((optV x).id.pid.author.toNat : Int), .int .u16 ((optV x).id.pid.seq.toNat : Int), .int .u8 ((optV x).id.n.toNat : Int), .int .u8 ((optV x).kind.toNat : Int), .int .u8 ((optV x).file.pid.author.toNat : Int), .int .u16 ((optV x).file.pid.seq.toNat : Int), .int .u8 ((optV x).file.n.toNat : Int), .string (optV x).text, .bool (optV x).dead] 68)
  have HBx := Lib.hid (HB1.out.alloc HB1.out.size (.cells #[.int .u8 ((optV x).id.pid.author.toNat : Int), .int .u16 ((optV x).id.pid.seq.toNat : Int), .int .u8 ((optV x).id.n.toNat : Int), .int .u8 ((optV x).kind.toNat : Int), .int .u8 ((optV x).file.pid.author.toNat : Int), .int .u16 ((optV x).file.pid.seq.toNat : Int), .int .u8 ((optV x).file.n.toNat : Int), .string (optV x).text, .bool (optV x).dead] 68))
  have HB2 := Lib.hid (below_over HB.out HB.out.size HBx.out)
  have HG2 := Lib.hid (HG.out.over HBx.out)
  have HV2 := Lib.hid (HV0.out.over HBx.out)
  generalize hw2 : w1.alloc (.cells #[.int .u8 ((optV x).id.pid.author.toNat : Int), .int .u16 ((optV x).id.pid.seq.toNat : Int), .int .u8 ((optV x).id.n.toNat : Int), .int .u8 ((optV x).kind.toNat : Int), .int .u8 ((optV x).file.pid.author.toNat : Int), .int .u16 ((optV x).file.pid.seq.toNat : Int), .int .u8 ((optV x).file.n.toNat : Int), .string (optV x).text, .bool (optV x).dead] 68) = w2 at *
  clear hw2 p0 p1 p2 p3 sp o0 o1 o2 o3 o4 o5 o6 o7 so HP HO HG HV0 HB
  have p0 := HP2.out.cell (j := 0) rfl
  have p1 := HP2.out.cell (j := 1) rfl
  have p2 := HP2.out.cell (j := 2) rfl
  have p3 := HP2.out.cell (j := 3) rfl
  have sp := HP2.out.lt
  have o0 := HO2.out.cell (j := 0) rfl
  have o1 := HO2.out.cell (j := 1) rfl
  have o2 := HO2.out.cell (j := 2) rfl
  have o3 := HO2.out.cell (j := 3) rfl
  have o4 := HO2.out.cell (j := 4) rfl
  have o5 := HO2.out.cell (j := 5) rfl
  have o6 := HO2.out.cell (j := 6) rfl
  have o7 := HO2.out.cell (j := 7) rfl
  have so := HO2.out.lt
  have x0 := HA2.out.cell (j := 0) rfl
  have x1 := HA2.out.cell (j := 1) rfl
  have x2 := HA2.out.cell (j := 2) rfl
  have x3 := HA2.out.cell (j := 3) rfl
  have x4 := HA2.out.cell (j := 4) rfl
  have x5 := HA2.out.cell (j := 5) rfl
  have x6 := HA2.out.cell (j := 6) rfl
  have x7 := HA2.out.cell (j := 7) rfl
  have x8 := HA2.out.cell (j := 8) rfl
  have sx := HA2.out.lt
  by_cases hk : o.kind.toNat = 2
  · have k2 : ((o.kind.toNat : Int) == 2) = true := by simp; omega
    have k3 : ((o.kind.toNat : Int) == 3) = false := by simp; omega
    have k5 : ((o.kind.toNat : Int) == 5) = false := by simp; omega
    have k4 : ((o.kind.toNat : Int) == 4) = false := by simp; omega
    have k : refsK x z o.kind.toNat = isK x 1 := refsK_1 (.inl hk)
    cases hq : x.isSome with
    | false =>
      have HK := Lib.hid (k.trans (isK_no 1 hq))
      clear k hk
      go_wp2_with fail
      go_ret
      exact ⟨ret_val (congrArg Value.bool (HK.out).symm), HB2.out⟩
    | true =>
      have k9 : (((optV x).kind.toNat : Int) == 1) = _ := kind_nat (x := optV x) (n := 1) (k := 1) rfl
      cases hd : decide ((optV x).kind = 1) with
      | false =>
        have HK := Lib.hid ((k.trans (isK_yes hq)).trans hd)
        rw [hd] at k9
        clear k hk hd
        go_wp2_with fail
        go_ret
        exact ⟨ret_val (congrArg Value.bool (HK.out).symm), HB2.out⟩
      | true =>
        have HK := Lib.hid ((k.trans (isK_yes hq)).trans hd)
        rw [hd] at k9
        clear k hk hd
        go_wp2_with fail
        go_ret
        exact ⟨ret_val (congrArg Value.bool (HK.out).symm), HB2.out⟩
  by_cases hk : o.kind.toNat = 3
  · have k2 : ((o.kind.toNat : Int) == 2) = false := by simp; omega
    have k3 : ((o.kind.toNat : Int) == 3) = true := by simp; omega
    have k5 : ((o.kind.toNat : Int) == 5) = false := by simp; omega
    have k4 : ((o.kind.toNat : Int) == 4) = false := by simp; omega
    have k : refsK x z o.kind.toNat = isK x 1 := refsK_1 (.inr hk)
    cases hq : x.isSome with
    | false =>
      have HK := Lib.hid (k.trans (isK_no 1 hq))
      clear k hk
      go_wp2_with fail
      go_ret
      exact ⟨ret_val (congrArg Value.bool (HK.out).symm), HB2.out⟩
    | true =>
      have k9 : (((optV x).kind.toNat : Int) == 1) = _ := kind_nat (x := optV x) (n := 1) (k := 1) rfl
      cases hd : decide ((optV x).kind = 1) with
      | false =>
        have HK := Lib.hid ((k.trans (isK_yes hq)).trans hd)
        rw [hd] at k9
        clear k hk hd
        go_wp2_with fail
        go_ret
        exact ⟨ret_val (congrArg Value.bool (HK.out).symm), HB2.out⟩
      | true =>
        have HK := Lib.hid ((k.trans (isK_yes hq)).trans hd)
        rw [hd] at k9
        clear k hk hd
        go_wp2_with fail
        go_ret
        exact ⟨ret_val (congrArg Value.bool (HK.out).symm), HB2.out⟩
  by_cases hk : o.kind.toNat = 5
  · have k2 : ((o.kind.toNat : Int) == 2) = false := by simp; omega
    have k3 : ((o.kind.toNat : Int) == 3) = false := by simp; omega
    have k5 : ((o.kind.toNat : Int) == 5) = true := by simp; omega
    have k4 : ((o.kind.toNat : Int) == 4) = false := by simp; omega
    have HK : Hid (refsK x z o.kind.toNat = x.isSome) := by show _ = _; rw [hk]; exact refsK_5
    clear hk
    go_wp2_with fail
    go_ret
    exact ⟨ret_val (congrArg Value.bool (HK.out).symm), HB2.out⟩
  by_cases hk : o.kind.toNat = 4
  · have k2 : ((o.kind.toNat : Int) == 2) = false := by simp; omega
    have k3 : ((o.kind.toNat : Int) == 3) = false := by simp; omega
    have k5 : ((o.kind.toNat : Int) == 5) = false := by simp; omega
    have k4 : ((o.kind.toNat : Int) == 4) = true := by simp; omega
    have k : refsK x z o.kind.toNat = (isK x 3 && (isK z 3 && decide (x.map (·.file) = z.map (·.file)))) := by rw [hk]; exact refsK_4
    go_upto_region 10 with (first | (go_at_call 112; (with_reducible refine (glook_any b bv be n f vs es id dv _ ops o.to _ (HG2.out.over (Below.refl _ _)) HV2.out hl).mono ?_); rintro e w3 ⟨rfl, hb⟩; rw [HZ.out]; have HB3 := Lib.hid hb; clear hb))
    have HX4 := Lib.hid ((HA2.out.over HB3.out).alloc (.cells #[.int .u8 ((optV z).id.pid.author.toNat : Int), .int .u16 ((optV z).id.pid.seq.toNat : Int), .int .u8 ((optV z).id.n.toNat : Int), .int .u8 ((optV z).kind.toNat : Int), .int .u8 ((optV z).file.pid.author.toNat : Int), .int .u16 ((optV z).file.pid.seq.toNat : Int), .int .u8 ((optV z).file.n.toNat : Int), .string (optV z).text, .bool (optV z).dead] 68))
    have HZ4 := Lib.hid (arr_new w3 #[.int .u8 ((optV z).id.pid.author.toNat : Int), .int .u16 ((optV z).id.pid.seq.toNat : Int), .int .u8 ((optV z).id.n.toNat : Int), .int .u8 ((optV z).kind.toNat : Int), .int .u8 ((optV z).file.pid.author.toNat : Int), .int .u16 ((optV z).file.pid.seq.toNat : Int), .int .u8 ((optV z).file.n.toNat : Int), .string (optV z).text, .bool (optV z).dead] 68)
    have HBy := Lib.hid (HB3.out.alloc HB3.out.size (.cells #[.int .u8 ((optV z).id.pid.author.toNat : Int), .int .u16 ((optV z).id.pid.seq.toNat : Int), .int .u8 ((optV z).id.n.toNat : Int), .int .u8 ((optV z).kind.toNat : Int), .int .u8 ((optV z).file.pid.author.toNat : Int), .int .u16 ((optV z).file.pid.seq.toNat : Int), .int .u8 ((optV z).file.n.toNat : Int), .string (optV z).text, .bool (optV z).dead] 68))
    have HB4 := Lib.hid (below_over HB2.out HB2.out.size HBy.out)
    generalize hw4 : w3.alloc (.cells #[.int .u8 ((optV z).id.pid.author.toNat : Int), .int .u16 ((optV z).id.pid.seq.toNat : Int), .int .u8 ((optV z).id.n.toNat : Int), .int .u8 ((optV z).kind.toNat : Int), .int .u8 ((optV z).file.pid.author.toNat : Int), .int .u16 ((optV z).file.pid.seq.toNat : Int), .int .u8 ((optV z).file.n.toNat : Int), .string (optV z).text, .bool (optV z).dead] 68) = w4 at *
    clear hw4 p0 p1 p2 p3 sp o0 o1 o2 o3 o4 o5 o6 o7 so x0 x1 x2 x3 x4 x5 x6 x7 x8 sx HP2 HO2 HA2 HG2 HV2
    have x0 := HX4.out.cell (j := 0) rfl
    have x1 := HX4.out.cell (j := 1) rfl
    have x2 := HX4.out.cell (j := 2) rfl
    have x3 := HX4.out.cell (j := 3) rfl
    have x4 := HX4.out.cell (j := 4) rfl
    have x5 := HX4.out.cell (j := 5) rfl
    have x6 := HX4.out.cell (j := 6) rfl
    have x7 := HX4.out.cell (j := 7) rfl
    have x8 := HX4.out.cell (j := 8) rfl
    have sx := HX4.out.lt
    have z0 := HZ4.out.cell (j := 0) rfl
    have z1 := HZ4.out.cell (j := 1) rfl
    have z2 := HZ4.out.cell (j := 2) rfl
    have z3 := HZ4.out.cell (j := 3) rfl
    have z4 := HZ4.out.cell (j := 4) rfl
    have z5 := HZ4.out.cell (j := 5) rfl
    have z6 := HZ4.out.cell (j := 6) rfl
    have z7 := HZ4.out.cell (j := 7) rfl
    have z8 := HZ4.out.cell (j := 8) rfl
    have sz := HZ4.out.lt
    cases hq : x.isSome with
    | false =>
      have HK := Lib.hid (k.trans (by rw [isK_no 3 hq]; rfl : _ = false))
      clear k hk
      go_wp2_with fail
      go_ret
      exact ⟨ret_val (congrArg Value.bool (HK.out).symm), HB4.out⟩
    | true =>
      cases hr : z.isSome with
      | false =>
        have HK := Lib.hid (k.trans (by rw [isK_no (x := z) 3 hr, Bool.false_and, Bool.and_false] : _ = false))
        clear k hk
        go_wp2_with fail
        go_ret
        exact ⟨ret_val (congrArg Value.bool (HK.out).symm), HB4.out⟩
      | true =>
        have k9 : (((optV x).kind.toNat : Int) == 3) = _ := kind_nat (x := optV x) (n := 3) (k := 3) rfl
        have k8 : (((optV z).kind.toNat : Int) == 3) = _ := kind_nat (x := optV z) (n := 3) (k := 3) rfl
        rw [isK_yes hq, isK_yes hr, file_eq hq hr] at k
        cases hd : decide ((optV x).kind = 3) with
        | false =>
          rw [hd] at k9 k
          have HK := Lib.hid (k.trans (Bool.false_and _))
          clear k hk hd k8
          go_wp2_with fail
          go_ret
          exact ⟨ret_val (congrArg Value.bool (HK.out).symm), HB4.out⟩
        | true =>
          rw [hd, Bool.true_and] at k; rw [hd] at k9
          cases hf : decide ((optV z).kind = 3) with
          | false =>
            rw [hf] at k8 k
            have HK := Lib.hid (k.trans (Bool.false_and _))
            clear k hk hd hf
            go_wp2_with fail
            go_ret
            exact ⟨ret_val (congrArg Value.bool (HK.out).symm), HB4.out⟩
          | true =>
            rw [hf, Bool.true_and] at k; rw [hf] at k8
            have HK := Lib.hid k
            have e9 := eql_vid (optV x).file (optV z).file _ rfl
            unfold vidV at e9
            clear k hk hd hf
            go_wp2_with fail
            go_ret
            exact ⟨ret_val (congrArg Value.bool (HK.out).symm), HB4.out⟩
  have HK := Lib.hid (refsK_0 (x := x) (z := z) (k := o.kind.toNat) (by assumption) (by assumption) (by assumption) (by assumption))
  have k2 : ((o.kind.toNat : Int) == 2) = false := by simp; omega
  have k3 : ((o.kind.toNat : Int) == 3) = false := by simp; omega
  have k5 : ((o.kind.toNat : Int) == 5) = false := by simp; omega
  have k4 : ((o.kind.toNat : Int) == 4) = false := by simp; omega
  go_wp2_with fail
  go_ret
  exact ⟨ret_val (congrArg Value.bool (HK.out).symm), HB2.out⟩
end Go.Proofs.YtfciedmmgddgpaaGreatDoor
