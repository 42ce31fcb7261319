/- Contract of (*Graph).look. -/
import Derived.Test.YtflnkmmimoninaaGreatDoorZGraphA
namespace Go.Proofs.YtflnkmmimoninaaGreatDoor
open Go Go.RowKit

/-- a vertex, of the graph, or of a patch itself -/
def lookX (vs : VidM → Option VertM) (id : PidM) (ops : List OpM) (v : VidM) : Option VertM :=
  if v.pid = id then (match ops[v.n.toNat]? with | some o => if makesB o.kind = true then some (madeX id v.n.toNat o) else none | none => none) else vs v
theorem look_far {vs : VidM → Option VertM} {id : PidM} {ops : List OpM} {v : VidM} (h : ¬ v.pid = id) : lookX vs id ops v = vs v := by unfold lookX; rw [if_neg h]
theorem look_out {vs : VidM → Option VertM} {id : PidM} {ops : List OpM} {v : VidM} (h : v.pid = id) (hn : ¬ v.n.toNat < ops.length) : lookX vs id ops v = none := by unfold lookX; rw [if_pos h, List.getElem?_eq_none (by omega)]
theorem look_no {vs : VidM → Option VertM} {id : PidM} {ops : List OpM} {v : VidM} {o : OpM} (h : v.pid = id) (ho : ops[v.n.toNat]? = some o) (hm : makesB o.kind = false) : lookX vs id ops v = none := by unfold lookX; rw [if_pos h, ho]; simp [hm]
theorem look_yes {vs : VidM → Option VertM} {id : PidM} {ops : List OpM} {v : VidM} {o : OpM} (h : v.pid = id) (ho : ops[v.n.toNat]? = some o) (hm : makesB o.kind = true) : lookX vs id ops v = some (madeX id v.n.toNat o) := by unfold lookX; rw [if_pos h, ho]; simp [hm]
theorem lookX_eq (L : List PatchM) (p : PatchM) (v : VidM) : lookX (vertM L) p.id p.ops v = lookM L p v := by
  have e : UInt8.ofNat v.n.toNat = v.n := by simp
  unfold lookX lookM madeBy
  by_cases h : v.pid = p.id
  · rw [if_pos h, if_pos h, if_pos h.symm]
    cases hq : p.ops[v.n.toNat]? with
    | none => simp
    | some o =>
      cases hm : makesB o.kind with
      | false => simp [hm, Option.filter]
      | true =>
        simp only [hm, if_true, Option.filter, Option.map_some]
        unfold madeX
        rw [e, ← h]
  · rw [if_neg h, if_neg h]
theorem vertRes_of {w w' : World} {X x : Option VertM} {y : VertM} {q : Bool} (hk : X = x) (hy : x.getD noVert = y) (hq : x.isSome = q) (hb : Below w.heap.size w w') : VertRes w X (.returned (.tuple #[vertV y, .bool q])) w' := by subst hk; exact vertRes_mk hy hq hb
attribute [local irreducible] vecL gCells lookX madeX
set_option maxHeartbeats 4000000 in
set_option maxRecDepth 100000 in
theorem glook_any (b bv be n : Nat) (f : VecM) (vs : VidM → Option VertM) (es : EdgeM → Option VidM) (id : PidM) (dv ov : Value) (ops : List OpM) (v : VidM) (w : World) (hg : GrW w b bv be n f vs es) (hv : GRow encOp 8 w ov ops) (hl : ops.length ≤ 40000) :
    Calls Tryz.prog 113 #[.pointer (some ⟨b, 0, none⟩), patV id dv ov, vidV v] w (VertRes w (lookX vs id ops v)) := by
  have HV := Lib.hid hv
  obtain ⟨a, cap, rfl, h1, h2, hc⟩ := hv.at encOp_len
  unfold maxLen at h2
  have HC := Lib.hid hc
  have HP := Lib.hid (((arr_new w #[.int .u8 (id.author.toNat : Int), .int .u16 (id.seq.toNat : Int), dv, .slice a ops.length cap] 61).alloc (.cells #[.int .u8 (v.pid.author.toNat : Int), .int .u16 (v.pid.seq.toNat : Int), .int .u8 (v.n.toNat : Int)] 27)).alloc (.cells #[.int .u8 0, .int .u16 0, .int .u8 0, .int .u8 0, .int .u8 0, .int .u16 0, .int .u8 0, .string ⟨#[]⟩, .bool false] 53))
  have HVd := Lib.hid ((arr_new2 w (.cells #[.int .u8 (id.author.toNat : Int), .int .u16 (id.seq.toNat : Int), dv, .slice a ops.length cap] 61) #[.int .u8 (v.pid.author.toNat : Int), .int .u16 (v.pid.seq.toNat : Int), .int .u8 (v.n.toNat : Int)] 27).alloc (.cells #[.int .u8 0, .int .u16 0, .int .u8 0, .int .u8 0, .int .u8 0, .int .u16 0, .int .u8 0, .string ⟨#[]⟩, .bool false] 53))
  have HR := Lib.hid (arr_new3 w (.cells #[.int .u8 (id.author.toNat : Int), .int .u16 (id.seq.toNat : Int), dv, .slice a ops.length cap] 61) (.cells #[.int .u8 (v.pid.author.toNat : Int), .int .u16 (v.pid.seq.toNat : Int), .int .u8 (v.n.toNat : Int)] 27) #[.int .u8 0, .int .u16 0, .int .u8 0, .int .u8 0, .int .u8 0, .int .u16 0, .int .u8 0, .string ⟨#[]⟩, .bool false] 53)
  have HB := Lib.hid (((below_new (w := w) (.cells #[.int .u8 (id.author.toNat : Int), .int .u16 (id.seq.toNat : Int), dv, .slice a ops.length cap] 61)).alloc (by simp) (.cells #[.int .u8 (v.pid.author.toNat : Int), .int .u16 (v.pid.seq.toNat : Int), .int .u8 (v.n.toNat : Int)] 27)).alloc (by simp; omega) (.cells #[.int .u8 0, .int .u16 0, .int .u8 0, .int .u8 0, .int .u8 0, .int .u16 0, .int .u8 0, .string ⟨#[]⟩, .bool false] 53))
  have HG := Lib.hid (hg.over HB.out)
  have gd := fun p q xs ys w => guard_pid .neq p q xs ys w
  have hnl := v.n.toNat_lt
  clear hv hc hg
  unfold patV vidV
  go_enter Tryz.func113, Tryz.ntmps113
  go_upto_region 1 with (fail)
  generalize hw0 : ((w.alloc (.cells #[.int .u8 (id.author.toNat : Int), .int .u16 (id.seq.toNat : Int), dv, .slice a ops.length cap] 61)).alloc (.cells #[.int .u8 (v.pid.author.toNat : Int), .int .u16 (v.pid.seq.toNat : Int), .int .u8 (v.n.toNat : Int)] 27)).alloc (.cells #[.int .u8 0, .int .u16 0, .int .u8 0, .int .u8 0, .int .u8 0, .int .u16 0, .int .u8 0, .string ⟨#[]⟩, .bool false] 53) = w0 at *
  clear hw0
  have p0 := HP.out.cell (j := 0) rfl
  have p1 := HP.out.cell (j := 1) rfl
  have p2 := HP.out.cell (j := 2) rfl
  have p3 := HP.out.cell (j := 3) rfl
  have sp := HP.out.lt
  have v0 := HVd.out.cell (j := 0) rfl
  have v1 := HVd.out.cell (j := 1) rfl
  have v2 := HVd.out.cell (j := 2) rfl
  have sv := HVd.out.lt
  by_cases hp : v.pid = id
  · have e1 := neq_pid v.pid id false (by simp [hp])
    unfold pidV at e1
    by_cases hn : v.n.toNat < ops.length
    · have e2 : decide (ops.length ≤ v.n.toNat) = false := by simp; omega
      have e3 : decide (v.n.toNat < ops.length) = true := by simpa using hn
      obtain ⟨b', off, rfl, sb, hcb⟩ := HC.out.resolve_left (by omega)
      obtain ⟨o, ho⟩ := get_op hn
      have HO := Lib.hid (hcb v.n.toNat o ho w0 HB.out)
      have o0 : w0.cell? ⟨b', off + v.n.toNat * 8, none⟩ = some (.int .u8 (o.kind.toNat : Int)) := HO.out.2 0 _ rfl
      have so := HO.out.1
      have HOo := Lib.hid ho
      have HV0 := Lib.hid (HV.out.over HB.out)
      clear hcb HC HV
      cases hmk : makesB o.kind with
      | false =>
        have HK := Lib.hid (look_no (vs := vs) hp ho hmk)
        have HMK := Lib.hid hmk
        clear hp ho hmk
        go_wp2_with (first | (go_at_call 46; (with_reducible refine (pmakes_any o.kind _).mono ?_); rintro e w9 ⟨rfl, rfl⟩; rw [HMK.out]) | ((with_reducible show wpList _ _ _ ({ dst := _, op := .store _ _ _, type := _, pos := _, after := _, guard := _ } :: _) _ _); refine wpList_store_arr rowVert rfl _ _ rfl _ _ (encVert noVert) HR.out rfl rfl rfl rfl rfl ?_))
        exact bodyPost_ret (v := .tuple #[vertV noVert, .bool false]) (results_arr_slot rowVert rfl (HR.out.row (encVert noVert)) rfl rfl rfl) rfl (vertRes_of HK.out rfl rfl (below_setRow HB.out (by omega) _))
      | true =>
        have HK := Lib.hid (look_yes (vs := vs) hp ho hmk)
        have HMK := Lib.hid hmk
        clear hp ho hmk
        generalize hy : madeX id v.n.toNat o = y at *
        go_wp2_with (first | (go_at_call 46; (with_reducible refine (pmakes_any o.kind _).mono ?_); rintro e w9 ⟨rfl, rfl⟩; rw [HMK.out]) | (go_at_call 47; (with_reducible refine (hy ▸ gmade_any id dv _ ops v.n.toNat o _ HV0.out HOo.out hl).mono ?_); rintro e w2 ⟨rfl, hb⟩; have HR2 := Lib.hid (HR.out.over hb); have HB2 := Lib.hid (below_over HB.out HB.out.size hb); clear hb) | ((with_reducible show wpList _ _ _ ({ dst := _, op := .store _ _ _, type := _, pos := _, after := _, guard := _ } :: _) _ _); refine wpList_store_arr rowVert rfl _ _ rfl _ _ (encVert y) HR2.out rfl rfl rfl rfl rfl ?_))
        exact bodyPost_ret (v := .tuple #[vertV y, .bool true]) (results_arr_slot rowVert rfl (HR2.out.row (encVert y)) rfl rfl rfl) rfl (vertRes_of HK.out rfl rfl (below_setRow HB2.out (by omega) _))
    · have e2 : decide (ops.length ≤ v.n.toNat) = true := by simp; omega
      have HK := Lib.hid (look_out (vs := vs) hp hn)
      clear hp hn
      go_wp2_with (first | ((with_reducible show wpList _ _ _ ({ dst := _, op := .store _ _ _, type := _, pos := _, after := _, guard := _ } :: _) _ _); refine wpList_store_arr rowVert rfl _ _ rfl _ _ (encVert noVert) HR.out rfl rfl rfl rfl rfl ?_))
      exact bodyPost_ret (v := .tuple #[vertV noVert, .bool false]) (results_arr_slot rowVert rfl (HR.out.row (encVert noVert)) rfl rfl rfl) rfl (vertRes_of HK.out rfl rfl (below_setRow HB.out (by omega) _))
  · have e1 := neq_pid v.pid id true (by simp [hp])
    unfold pidV at e1
    have HK := Lib.hid (look_far (vs := vs) (ops := ops) hp)
    clear hp
    generalize hx : vs v = x at *
    go_wp2_with (first | (go_at_call 17; (with_reducible refine (hx ▸ gvert_any b bv be n f vs es v _ (HG.out.over (Below.refl _ _))).mono ?_); rintro e w2 ⟨rfl, hb⟩; have HR2 := Lib.hid (HR.out.over hb); have HB2 := Lib.hid (below_over HB.out HB.out.size hb); clear hb) | ((with_reducible show wpList _ _ _ ({ dst := _, op := .store _ _ _, type := _, pos := _, after := _, guard := _ } :: _) _ _); refine wpList_store_arr rowVert rfl _ _ rfl _ _ (encVert (optV x)) HR2.out rfl rfl rfl rfl rfl ?_))
    exact bodyPost_ret (v := .tuple #[vertV (optV x), .bool x.isSome]) (results_arr_slot rowVert rfl (HR2.out.row (encVert (optV x))) rfl rfl rfl) rfl (vertRes_of HK.out rfl rfl (below_setRow HB2.out (by omega) _))
end Go.Proofs.YtflnkmmimoninaaGreatDoor
