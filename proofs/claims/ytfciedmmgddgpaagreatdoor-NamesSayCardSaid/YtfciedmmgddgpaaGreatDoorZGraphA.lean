/- Contracts of (*Graph).Vert, made, look. -/
import Derived.Test.YtfciedmmgddgpaaGreatDoorZGraph
namespace Go.Proofs.YtfciedmmgddgpaaGreatDoor
open Go Go.RowKit

/-- what a vertex is called back as -/
def VertRes (w : World) (x : Option VertM) (e : Ending) (w' : World) : Prop := e = .returned (.tuple #[vertV (optV x), .bool x.isSome]) ∧ Below w.heap.size w w'
theorem vertRes_mk {w w' : World} {x : Option VertM} {y : VertM} {q : Bool} (hy : x.getD noVert = y) (hq : x.isSome = q) (hb : Below w.heap.size w w') : VertRes w x (.returned (.tuple #[vertV y, .bool q])) w' := by subst hy; subst hq; exact ⟨rfl, hb⟩
attribute [local irreducible] vecL gCells vertM optV
set_option maxHeartbeats 4000000 in
set_option maxRecDepth 100000 in
theorem gvert_any (b bv be n : Nat) (f : VecM) (vs : VidM → Option VertM) (es : EdgeM → Option VidM) (v : VidM) (w : World) (hg : GrW w b bv be n f vs es) :
    Calls Tryz.prog 32 #[.pointer (some ⟨b, 0, none⟩), vidV v] w (VertRes w (vs v)) := by
  have hlt := hg.arr.lt
  have hvl := hg.verts.lt
  have HB := Lib.hid ((below_new (w := w) (.cells #[.int .u8 (v.pid.author.toNat : Int), .int .u16 (v.pid.seq.toNat : Int), .int .u8 (v.n.toNat : Int)] 27)).alloc (by simp) (.cells #[.int .u8 0, .int .u16 0, .int .u8 0, .int .u8 0, .int .u8 0, .int .u16 0, .int .u8 0, .string ⟨#[]⟩, .bool false] 68))
  have HV := Lib.hid ((arr_new w #[.int .u8 (v.pid.author.toNat : Int), .int .u16 (v.pid.seq.toNat : Int), .int .u8 (v.n.toNat : Int)] 27).alloc (.cells #[.int .u8 0, .int .u16 0, .int .u8 0, .int .u8 0, .int .u8 0, .int .u16 0, .int .u8 0, .string ⟨#[]⟩, .bool false] 68))
  have HR := Lib.hid (arr_new2 w (.cells #[.int .u8 (v.pid.author.toNat : Int), .int .u16 (v.pid.seq.toNat : Int), .int .u8 (v.n.toNat : Int)] 27) #[.int .u8 0, .int .u16 0, .int .u8 0, .int .u8 0, .int .u8 0, .int .u16 0, .int .u8 0, .string ⟨#[]⟩, .bool false] 68)
  have HG := Lib.hid (hg.over HB.out)
  clear hg
  unfold vidV
  go_enter Tryz.func32, Tryz.ntmps32
  go_upto_region 3 with (fail)
  generalize hw0 : (w.alloc (.cells #[.int .u8 (v.pid.author.toNat : Int), .int .u16 (v.pid.seq.toNat : Int), .int .u8 (v.n.toNat : Int)] 27)).alloc (.cells #[.int .u8 0, .int .u16 0, .int .u8 0, .int .u8 0, .int .u8 0, .int .u16 0, .int .u8 0, .string ⟨#[]⟩, .bool false] 68) = w0 at *
  clear hw0
  have v0 := HV.out.cell (j := 0) rfl
  have v1 := HV.out.cell (j := 1) rfl
  have v2 := HV.out.cell (j := 2) rfl
  have sv := HV.out.lt
  have r0 := HR.out.cell (j := 0) rfl
  have r1 := HR.out.cell (j := 1) rfl
  have r2 := HR.out.cell (j := 2) rfl
  have r3 := HR.out.cell (j := 3) rfl
  have r4 := HR.out.cell (j := 4) rfl
  have r5 := HR.out.cell (j := 5) rfl
  have r6 := HR.out.cell (j := 6) rfl
  have r7 := HR.out.cell (j := 7) rfl
  have r8 := HR.out.cell (j := 8) rfl
  have sr := HR.out.lt
  have q0 := HR.out.free 0
  have q1 := HR.out.free 1
  have q2 := HR.out.free 2
  have q3 := HR.out.free 3
  have q4 := HR.out.free 4
  have q5 := HR.out.free 5
  have q6 := HR.out.free 6
  have q7 := HR.out.free 7
  have q8 := HR.out.free 8
  have g64 := HG.out.arr.cell (gCells_v f bv be)
  have sg := HG.out.arr.lt
  have HLK : Hid (∀ x : Kept w0 (some w0.heap.size), (Instr.lookup 88 (.map (some bv)) (.agg #[.int .u8 (v.pid.author.toNat : Int), .int .u16 (v.pid.seq.toNat : Int), .int .u8 (v.n.toNat : Int)]) true).run Tryz.prog x.1 = .ok (.tuple #[vertV ((vs v).getD noVert), .bool (vs v).isSome]) x.1) := fun x =>
    TMap.look_ok keysVid vertV_inj (HG.out.verts.kept x.2 (by have := HG.out.verts.lt; intro e; cases e; omega)) Tryz.underlying88 (zero_vert _) v trivial
  generalize hy : (vs v).getD noVert = y at *
  have HY := Lib.hid hy
  generalize hq : (vs v).isSome = q at *
  have HQ := Lib.hid hq
  clear hy hq
  have hlk := HLK.out
  unfold vertV at hlk
  have nv : ¬ w.heap.size = w0.heap.size := by omega
  have nr : ¬ w.heap.size + 1 = w0.heap.size := by omega
  have ng : ¬ b = w0.heap.size := by omega
  clear HLK
  have hcur : World.grownBy w0 w0.drew (some w0.heap.size) := ⟨rfl, rfl, rfl, Nat.le_refl _, fun _ _ _ => rfl⟩
  refine wp_region_lex (C := IsKept w0 (some w0.heap.size)) 12 [] (by kernel_rfl) (by kernel_rfl) (isKept_of hcur) ?_
  simp only [List.take_succ_cons, List.take_zero, List.drop_succ_cons, List.drop_zero]
  repeat (first | (refine lex_skip rfl rfl ?_; simp only [Act.put, List.setIfInBounds_toArray, List.set_cons_succ, List.set_cons_zero]) | (refine lex_one rfl ?_; go_big_quiet_step (fail); refine wpQuiet_nil ?_) | (refine lex_loud rfl ?_; go_wp2_with (first | fail); refine ⟨isKept_of (by first | exact hcur | exact only_alloc hcur _ | exact grown_trans hcur (grown_setCell _ _ _) | exact grown_trans (grown_trans hcur (grown_setCell _ _ _)) (grown_setCell _ _ _)), ?_⟩))
  refine lex_end ?_
  clear hcur hlk
  have HR1 := Lib.hid ((HR.out.alloc (.cells #[.int .u8 (y.id.pid.author.toNat : Int), .int .u16 (y.id.pid.seq.toNat : Int), .int .u8 (y.id.n.toNat : Int), .int .u8 (y.kind.toNat : Int), .int .u8 (y.file.pid.author.toNat : Int), .int .u16 (y.file.pid.seq.toNat : Int), .int .u8 (y.file.n.toNat : Int), .string y.text, .bool y.dead] 68)).drew)
  have HY1 : Hid (Arr ((w0.alloc (.cells #[.int .u8 (y.id.pid.author.toNat : Int), .int .u16 (y.id.pid.seq.toNat : Int), .int .u8 (y.id.n.toNat : Int), .int .u8 (y.kind.toNat : Int), .int .u8 (y.file.pid.author.toNat : Int), .int .u16 (y.file.pid.seq.toNat : Int), .int .u8 (y.file.n.toNat : Int), .string y.text, .bool y.dead] 68)).drew) w0.heap.size [.int .u8 (y.id.pid.author.toNat : Int), .int .u16 (y.id.pid.seq.toNat : Int), .int .u8 (y.id.n.toNat : Int), .int .u8 (y.kind.toNat : Int), .int .u8 (y.file.pid.author.toNat : Int), .int .u16 (y.file.pid.seq.toNat : Int), .int .u8 (y.file.n.toNat : Int), .string y.text, .bool y.dead]) := (arr_new w0 #[.int .u8 (y.id.pid.author.toNat : Int), .int .u16 (y.id.pid.seq.toNat : Int), .int .u8 (y.id.n.toNat : Int), .int .u8 (y.kind.toNat : Int), .int .u8 (y.file.pid.author.toNat : Int), .int .u16 (y.file.pid.seq.toNat : Int), .int .u8 (y.file.n.toNat : Int), .string y.text, .bool y.dead] 68).drew
  have HB1 := Lib.hid ((HB.out.alloc HB.out.size (.cells #[.int .u8 (y.id.pid.author.toNat : Int), .int .u16 (y.id.pid.seq.toNat : Int), .int .u8 (y.id.n.toNat : Int), .int .u8 (y.kind.toNat : Int), .int .u8 (y.file.pid.author.toNat : Int), .int .u16 (y.file.pid.seq.toNat : Int), .int .u8 (y.file.n.toNat : Int), .string y.text, .bool y.dead] 68)).drew)
  clear r0 r1 r2 r3 r4 r5 r6 r7 r8 q0 q1 q2 q3 q4 q5 q6 q7 q8 sr
  generalize hw1 : (w0.alloc (.cells #[.int .u8 (y.id.pid.author.toNat : Int), .int .u16 (y.id.pid.seq.toNat : Int), .int .u8 (y.id.n.toNat : Int), .int .u8 (y.kind.toNat : Int), .int .u8 (y.file.pid.author.toNat : Int), .int .u16 (y.file.pid.seq.toNat : Int), .int .u8 (y.file.n.toNat : Int), .string y.text, .bool y.dead] 68)).drew = w1 at *
  clear hw1
  have r0 := HR1.out.cell (j := 0) rfl
  have r1 := HR1.out.cell (j := 1) rfl
  have r2 := HR1.out.cell (j := 2) rfl
  have r3 := HR1.out.cell (j := 3) rfl
  have r4 := HR1.out.cell (j := 4) rfl
  have r5 := HR1.out.cell (j := 5) rfl
  have r6 := HR1.out.cell (j := 6) rfl
  have r7 := HR1.out.cell (j := 7) rfl
  have r8 := HR1.out.cell (j := 8) rfl
  have sr := HR1.out.lt
  have y0 := HY1.out.cell (j := 0) rfl
  have y1 := HY1.out.cell (j := 1) rfl
  have y2 := HY1.out.cell (j := 2) rfl
  have y3 := HY1.out.cell (j := 3) rfl
  have y4 := HY1.out.cell (j := 4) rfl
  have y5 := HY1.out.cell (j := 5) rfl
  have y6 := HY1.out.cell (j := 6) rfl
  have y7 := HY1.out.cell (j := 7) rfl
  have y8 := HY1.out.cell (j := 8) rfl
  have sy := HY1.out.lt
  have q0 := HR1.out.free 0
  have q1 := HR1.out.free 1
  have q2 := HR1.out.free 2
  have q3 := HR1.out.free 3
  have q4 := HR1.out.free 4
  have q5 := HR1.out.free 5
  have q6 := HR1.out.free 6
  have q7 := HR1.out.free 7
  have q8 := HR1.out.free 8
  have HF := Lib.hid (((((((((HR1.out.set 0 (.int .u8 (y.id.pid.author.toNat : Int))).set 1 (.int .u16 (y.id.pid.seq.toNat : Int))).set 2 (.int .u8 (y.id.n.toNat : Int))).set 3 (.int .u8 (y.kind.toNat : Int))).set 4 (.int .u8 (y.file.pid.author.toNat : Int))).set 5 (.int .u16 (y.file.pid.seq.toNat : Int))).set 6 (.int .u8 (y.file.n.toNat : Int))).set 7 (.string y.text)).set 8 (.bool y.dead))
  have HBF := Lib.hid (((((((((HB1.out.setCell (p := ⟨w.heap.size + 1, 0, none⟩) (by simp) (.int .u8 (y.id.pid.author.toNat : Int))).setCell (p := ⟨w.heap.size + 1, 1, none⟩) (by simp) (.int .u16 (y.id.pid.seq.toNat : Int))).setCell (p := ⟨w.heap.size + 1, 2, none⟩) (by simp) (.int .u8 (y.id.n.toNat : Int))).setCell (p := ⟨w.heap.size + 1, 3, none⟩) (by simp) (.int .u8 (y.kind.toNat : Int))).setCell (p := ⟨w.heap.size + 1, 4, none⟩) (by simp) (.int .u8 (y.file.pid.author.toNat : Int))).setCell (p := ⟨w.heap.size + 1, 5, none⟩) (by simp) (.int .u16 (y.file.pid.seq.toNat : Int))).setCell (p := ⟨w.heap.size + 1, 6, none⟩) (by simp) (.int .u8 (y.file.n.toNat : Int))).setCell (p := ⟨w.heap.size + 1, 7, none⟩) (by simp) (.string y.text)).setCell (p := ⟨w.heap.size + 1, 8, none⟩) (by simp) (.bool y.dead))
  go_wp2_with fail
  exact bodyPost_ret (v := .tuple #[vertV y, .bool q]) (results_arr_slot rowVert rfl HF.out rfl rfl rfl) rfl (vertRes_mk HY.out HQ.out HBF.out)

/-! ### what a patch makes -/
theorem madeV_file {p : PatchM} {i : Nat} {o : OpM} (h : o.kind.toNat = 1) : madeV p i o = ⟨⟨p.id, UInt8.ofNat i⟩, o.kind, ⟨p.id, UInt8.ofNat i⟩, o.text, false⟩ := by
  unfold madeV fileOf; have : o.kind = 1 := (u8_nat _ 1 (by omega)).2 h
  rw [if_pos this]
theorem madeV_else {p : PatchM} {i : Nat} {o : OpM} (h : ¬ o.kind.toNat = 1) : madeV p i o = ⟨⟨p.id, UInt8.ofNat i⟩, o.kind, o.at', o.text, false⟩ := by
  unfold madeV fileOf; have : ¬ o.kind = 1 := fun e => h ((u8_nat _ 1 (by omega)).1 e)
  rw [if_neg this]

def madeX (id : PidM) (i : Nat) (o : OpM) : VertM := ⟨⟨id, UInt8.ofNat i⟩, o.kind, fileOf ⟨id, UInt8.ofNat i⟩ o, o.text, false⟩
theorem madeV_x (p : PatchM) (i : Nat) (o : OpM) : madeV p i o = madeX p.id i o := rfl
theorem madeX_file {id : PidM} {i : Nat} {o : OpM} (h : o.kind.toNat = 1) : madeX id i o = ⟨⟨id, UInt8.ofNat i⟩, o.kind, ⟨id, UInt8.ofNat i⟩, o.text, false⟩ := madeV_file (p := ⟨id, [], []⟩) h
theorem madeX_else {id : PidM} {i : Nat} {o : OpM} (h : ¬ o.kind.toNat = 1) : madeX id i o = ⟨⟨id, UInt8.ofNat i⟩, o.kind, o.at', o.text, false⟩ := madeV_else (p := ⟨id, [], []⟩) h
def MadeRes (w : World) (x : VertM) (e : Ending) (w' : World) : Prop := e = .returned (vertV x) ∧ Below w.heap.size w w'
theorem made_mk {w w' : World} {id : PidM} {i : Nat} {o : OpM} {x : VertM} (h : madeX id i o = x) (hb : Below w.heap.size w w') : MadeRes w (madeX id i o) (.returned (vertV x)) w' := by rw [h]; exact ⟨rfl, hb⟩
attribute [local irreducible] madeX
set_option maxHeartbeats 4000000 in
set_option maxRecDepth 100000 in
theorem gmade_any (id : PidM) (dv ov : Value) (ops : List OpM) (i : Nat) (o : OpM) (w : World) (hv : GRow encOp 8 w ov ops) (ho : ops[i]? = some o) (hl : ops.length ≤ 40000) :
    Calls Tryz.prog 44 #[patV id dv ov, .int .i64 (i : Int)] w (MadeRes w (madeX id i o)) := by
  have hlt := (List.getElem?_eq_some_iff.1 ho).1
  obtain ⟨a, cap, rfl, h1, h2, hc⟩ := hv.at encOp_len
  unfold maxLen at h2
  have HC := Lib.hid hc
  have HP := Lib.hid ((arr_new w #[.int .u8 (id.author.toNat : Int), .int .u16 (id.seq.toNat : Int), dv, .slice a ops.length cap] 51).alloc (.cells #[.int .u8 0, .int .u16 0, .int .u8 0, .int .u8 0, .int .u8 0, .int .u16 0, .int .u8 0, .string ⟨#[]⟩, .bool false] 68))
  have HR := Lib.hid (arr_new2 w (.cells #[.int .u8 (id.author.toNat : Int), .int .u16 (id.seq.toNat : Int), dv, .slice a ops.length cap] 51) #[.int .u8 0, .int .u16 0, .int .u8 0, .int .u8 0, .int .u8 0, .int .u16 0, .int .u8 0, .string ⟨#[]⟩, .bool false] 68)
  have HB := Lib.hid ((below_new (w := w) (.cells #[.int .u8 (id.author.toNat : Int), .int .u16 (id.seq.toNat : Int), dv, .slice a ops.length cap] 51)).alloc (by simp) (.cells #[.int .u8 0, .int .u16 0, .int .u8 0, .int .u8 0, .int .u8 0, .int .u16 0, .int .u8 0, .string ⟨#[]⟩, .bool false] 68))
  have HOo := Lib.hid ho
  have HI : Hid (((UInt8.ofNat i).toNat : Int) = (i : Int) % 256) := Lib.hid (by simp)
  clear hv hc ho
  unfold patV
  go_enter Tryz.func44, Tryz.ntmps44
  go_upto_region 1 with (fail)
  generalize hw0 : (w.alloc (.cells #[.int .u8 (id.author.toNat : Int), .int .u16 (id.seq.toNat : Int), dv, .slice a ops.length cap] 51)).alloc (.cells #[.int .u8 0, .int .u16 0, .int .u8 0, .int .u8 0, .int .u8 0, .int .u16 0, .int .u8 0, .string ⟨#[]⟩, .bool false] 68) = w0 at *
  clear hw0
  obtain ⟨b, off, rfl, sb, hcb⟩ := HC.out.resolve_left (by omega)
  have HCo := Lib.hid (hcb i o HOo.out w0 HB.out)
  clear hcb
  have p0 := HP.out.cell (j := 0) rfl
  have p1 := HP.out.cell (j := 1) rfl
  have p2 := HP.out.cell (j := 2) rfl
  have p3 := HP.out.cell (j := 3) rfl
  have sp := HP.out.lt
  have o0 : w0.cell? ⟨b, off + i * 8, none⟩ = some (.int .u8 (o.kind.toNat : Int)) := (HCo.out).2 0 _ rfl
  have o1 : w0.cell? ⟨b, off + i * 8 + 1, none⟩ = some (.int .u8 (o.at'.pid.author.toNat : Int)) := (HCo.out).2 1 _ rfl
  have o2 : w0.cell? ⟨b, off + i * 8 + 2, none⟩ = some (.int .u16 (o.at'.pid.seq.toNat : Int)) := (HCo.out).2 2 _ rfl
  have o3 : w0.cell? ⟨b, off + i * 8 + 3, none⟩ = some (.int .u8 (o.at'.n.toNat : Int)) := (HCo.out).2 3 _ rfl
  have o4 : w0.cell? ⟨b, off + i * 8 + 4, none⟩ = some (.int .u8 (o.to.pid.author.toNat : Int)) := (HCo.out).2 4 _ rfl
  have o5 : w0.cell? ⟨b, off + i * 8 + 5, none⟩ = some (.int .u16 (o.to.pid.seq.toNat : Int)) := (HCo.out).2 5 _ rfl
  have o6 : w0.cell? ⟨b, off + i * 8 + 6, none⟩ = some (.int .u8 (o.to.n.toNat : Int)) := (HCo.out).2 6 _ rfl
  have o7 : w0.cell? ⟨b, off + i * 8 + 7, none⟩ = some (.string o.text) := (HCo.out).2 7 _ rfl
  have so := HCo.out.1
  have HO : Hid (Arr (w0.alloc (.cells #[.int .u8 (o.kind.toNat : Int), .int .u8 (o.at'.pid.author.toNat : Int), .int .u16 (o.at'.pid.seq.toNat : Int), .int .u8 (o.at'.n.toNat : Int), .int .u8 (o.to.pid.author.toNat : Int), .int .u16 (o.to.pid.seq.toNat : Int), .int .u8 (o.to.n.toNat : Int), .string o.text] 56)) w0.heap.size [.int .u8 (o.kind.toNat : Int), .int .u8 (o.at'.pid.author.toNat : Int), .int .u16 (o.at'.pid.seq.toNat : Int), .int .u8 (o.at'.n.toNat : Int), .int .u8 (o.to.pid.author.toNat : Int), .int .u16 (o.to.pid.seq.toNat : Int), .int .u8 (o.to.n.toNat : Int), .string o.text]) := arr_new _ _ _
  have HB1 := Lib.hid (HB.out.alloc HB.out.size (.cells #[.int .u8 (o.kind.toNat : Int), .int .u8 (o.at'.pid.author.toNat : Int), .int .u16 (o.at'.pid.seq.toNat : Int), .int .u8 (o.at'.n.toNat : Int), .int .u8 (o.to.pid.author.toNat : Int), .int .u16 (o.to.pid.seq.toNat : Int), .int .u8 (o.to.n.toNat : Int), .string o.text] 56))
  have HP1 := Lib.hid (HP.out.alloc (.cells #[.int .u8 (o.kind.toNat : Int), .int .u8 (o.at'.pid.author.toNat : Int), .int .u16 (o.at'.pid.seq.toNat : Int), .int .u8 (o.at'.n.toNat : Int), .int .u8 (o.to.pid.author.toNat : Int), .int .u16 (o.to.pid.seq.toNat : Int), .int .u8 (o.to.n.toNat : Int), .string o.text] 56))
  have HR1 := Lib.hid (HR.out.alloc (.cells #[.int .u8 (o.kind.toNat : Int), .int .u8 (o.at'.pid.author.toNat : Int), .int .u16 (o.at'.pid.seq.toNat : Int), .int .u8 (o.at'.n.toNat : Int), .int .u8 (o.to.pid.author.toNat : Int), .int .u16 (o.to.pid.seq.toNat : Int), .int .u8 (o.to.n.toNat : Int), .string o.text] 56))
  go_upto_region 2 with (fail)
  generalize hw1 : w0.alloc (.cells #[.int .u8 (o.kind.toNat : Int), .int .u8 (o.at'.pid.author.toNat : Int), .int .u16 (o.at'.pid.seq.toNat : Int), .int .u8 (o.at'.n.toNat : Int), .int .u8 (o.to.pid.author.toNat : Int), .int .u16 (o.to.pid.seq.toNat : Int), .int .u8 (o.to.n.toNat : Int), .string o.text] 56) = w1 at *
  clear hw1 o0 o1 o2 o3 o4 o5 o6 o7 so p0 p1 p2 p3 sp
  have o0 := HO.out.cell (j := 0) rfl
  have o1 := HO.out.cell (j := 1) rfl
  have o2 := HO.out.cell (j := 2) rfl
  have o3 := HO.out.cell (j := 3) rfl
  have o4 := HO.out.cell (j := 4) rfl
  have o5 := HO.out.cell (j := 5) rfl
  have o6 := HO.out.cell (j := 6) rfl
  have o7 := HO.out.cell (j := 7) rfl
  have so := HO.out.lt
  have p0 := HP1.out.cell (j := 0) rfl
  have p1 := HP1.out.cell (j := 1) rfl
  have p2 := HP1.out.cell (j := 2) rfl
  have p3 := HP1.out.cell (j := 3) rfl
  have sp := HP1.out.lt
  have HS : Hid (∀ w' : World, Below w1.heap.size w1 w' → (w'.cell? ⟨w0.heap.size, 0, none⟩ = some (.int .u8 (o.kind.toNat : Int)) ∧ w'.cell? ⟨w0.heap.size, 1, none⟩ = some (.int .u8 (o.at'.pid.author.toNat : Int)) ∧ w'.cell? ⟨w0.heap.size, 2, none⟩ = some (.int .u16 (o.at'.pid.seq.toNat : Int)) ∧ w'.cell? ⟨w0.heap.size, 3, none⟩ = some (.int .u8 (o.at'.n.toNat : Int)) ∧ w'.cell? ⟨w0.heap.size, 7, none⟩ = some (.string o.text) ∧ w'.cell? ⟨w.heap.size, 0, none⟩ = some (.int .u8 (id.author.toNat : Int)) ∧ w'.cell? ⟨w.heap.size, 1, none⟩ = some (.int .u16 (id.seq.toNat : Int)) ∧ Below w1.heap.size w1 w')) := fun w' hb => ⟨(hb.cell (p := ⟨w0.heap.size, 0, none⟩) so).trans o0, (hb.cell (p := ⟨w0.heap.size, 1, none⟩) so).trans o1, (hb.cell (p := ⟨w0.heap.size, 2, none⟩) so).trans o2, (hb.cell (p := ⟨w0.heap.size, 3, none⟩) so).trans o3, (hb.cell (p := ⟨w0.heap.size, 7, none⟩) so).trans o7, (hb.cell (p := ⟨w.heap.size, 0, none⟩) sp).trans p0, (hb.cell (p := ⟨w.heap.size, 1, none⟩) sp).trans p1, hb⟩
  go_cut [6] (fun s6 wx => ∃ g2, s6 = .pointer (some ⟨g2, 0, none⟩) ∧ Hid (Arr wx g2 [.int .u8 (id.author.toNat : Int), .int .u16 (id.seq.toNat : Int), .int .u8 ((i : Int) % 256), .int .u8 (o.kind.toNat : Int), .int .u8 (o.at'.pid.author.toNat : Int), .int .u16 (o.at'.pid.seq.toNat : Int), .int .u8 (o.at'.n.toNat : Int), .string o.text, .bool false]) ∧ Hid (Below w1.heap.size w1 wx) ∧ w1.heap.size ≤ g2)
  case first =>
    go_region_held3 (fun w' => w'.cell? ⟨w0.heap.size, 0, none⟩ = some (.int .u8 (o.kind.toNat : Int)) ∧ w'.cell? ⟨w0.heap.size, 1, none⟩ = some (.int .u8 (o.at'.pid.author.toNat : Int)) ∧ w'.cell? ⟨w0.heap.size, 2, none⟩ = some (.int .u16 (o.at'.pid.seq.toNat : Int)) ∧ w'.cell? ⟨w0.heap.size, 3, none⟩ = some (.int .u8 (o.at'.n.toNat : Int)) ∧ w'.cell? ⟨w0.heap.size, 7, none⟩ = some (.string o.text) ∧ w'.cell? ⟨w.heap.size, 0, none⟩ = some (.int .u8 (id.author.toNat : Int)) ∧ w'.cell? ⟨w.heap.size, 1, none⟩ = some (.int .u16 (id.seq.toNat : Int)) ∧ Below w1.heap.size w1 w') ((refine HS.out _ ?_; (with_reducible (first | exact (Below.refl _ _).drew | exact HBk.out | exact HBk.out.alloc HBk.out.size _ | exact ((Below.refl w1.heap.size w1).alloc (Nat.le_refl _) _).drew | exact (((((((((HBk.out.setCell (p := ⟨w1.heap.size, 0, none⟩) (Nat.le_refl _) _).setCell (p := ⟨w1.heap.size, 1, none⟩) (Nat.le_refl _) _).setCell (p := ⟨w1.heap.size, 2, none⟩) (Nat.le_refl _) _).setCell (p := ⟨w1.heap.size, 3, none⟩) (Nat.le_refl _) _).setCell (p := ⟨w1.heap.size, 4, none⟩) (Nat.le_refl _) _).setCell (p := ⟨w1.heap.size, 5, none⟩) (Nat.le_refl _) _).setCell (p := ⟨w1.heap.size, 6, none⟩) (Nat.le_refl _) _).setCell (p := ⟨w1.heap.size, 7, none⟩) (Nat.le_refl _) _).setCell (p := ⟨w1.heap.size, 8, none⟩) (Nat.le_refl _) _)))))
      (first | (go_at_call 17; refine (pvid_any id i _ (by omega)).mono ?_; rintro e w2 ⟨rfl, hb⟩; have HBk : Hid (Below w1.heap.size w1 w2) := (by show Below w1.heap.size w1 w2; with_reducible (first | exact below_over (Below.refl w1.heap.size w1).drew (Nat.le_refl _) hb | exact below_over (((Below.refl w1.heap.size w1).alloc (Nat.le_refl _) _).drew) (Below.size (((Below.refl w1.heap.size w1).alloc (Nat.le_refl _) _).drew)) hb)); have HBb := Lib.hid hb; obtain ⟨hcc, hff⟩ := bcell hb; clear hb))
    · rename_i J K hJ hK hHeld
      clear hHeld
      refine hK _ _ (Met.intro (hJ _ _ ?_))
      (repeat apply Exists.intro)
      refine ⟨?_, rfl⟩
      exact ⟨_, rfl, Lib.hid (arr_new _ _ _), Lib.hid (HBk.out.alloc HBk.out.size _), HBk.out.size⟩
    · rename_i J K hJ hK hHeld
      clear hHeld
      refine hK _ _ (Met.intro (hJ _ _ ?_))
      (repeat apply Exists.intro)
      refine ⟨?_, rfl⟩
      have HZ : Hid (Arr w2 w1.heap.size [.int .u8 0, .int .u16 0, .int .u8 0, .int .u8 0, .int .u8 0, .int .u16 0, .int .u8 0, .string ⟨#[]⟩, .bool false]) := (((arr_new w1 #[.int .u8 0, .int .u16 0, .int .u8 0, .int .u8 0, .int .u8 0, .int .u16 0, .int .u8 0, .string ⟨#[]⟩, .bool false] 68).drew).over HBb.out)
      exact ⟨_, rfl, Lib.hid (((((((((HZ.out.set 0 (.int .u8 (id.author.toNat : Int))).set 1 (.int .u16 (id.seq.toNat : Int))).set 2 (.int .u8 ((i : Int) % 256))).set 3 (.int .u8 (o.kind.toNat : Int))).set 4 (.int .u8 (o.at'.pid.author.toNat : Int))).set 5 (.int .u16 (o.at'.pid.seq.toNat : Int))).set 6 (.int .u8 (o.at'.n.toNat : Int))).set 7 (.string o.text)).set 8 (.bool false)), Lib.hid (((((((((HBk.out.setCell (p := ⟨w1.heap.size, 0, none⟩) (Nat.le_refl _) (.int .u8 (id.author.toNat : Int))).setCell (p := ⟨w1.heap.size, 1, none⟩) (Nat.le_refl _) (.int .u16 (id.seq.toNat : Int))).setCell (p := ⟨w1.heap.size, 2, none⟩) (Nat.le_refl _) (.int .u8 ((i : Int) % 256))).setCell (p := ⟨w1.heap.size, 3, none⟩) (Nat.le_refl _) (.int .u8 (o.kind.toNat : Int))).setCell (p := ⟨w1.heap.size, 4, none⟩) (Nat.le_refl _) (.int .u8 (o.at'.pid.author.toNat : Int))).setCell (p := ⟨w1.heap.size, 5, none⟩) (Nat.le_refl _) (.int .u16 (o.at'.pid.seq.toNat : Int))).setCell (p := ⟨w1.heap.size, 6, none⟩) (Nat.le_refl _) (.int .u8 (o.at'.n.toNat : Int))).setCell (p := ⟨w1.heap.size, 7, none⟩) (Nat.le_refl _) (.string o.text)).setCell (p := ⟨w1.heap.size, 8, none⟩) (Nat.le_refl _) (.bool false)), Nat.le_refl _⟩
  case rest =>
    obtain ⟨g2, rfl, HV0, HBx, hg2⟩ := hcut
    rename World => w3
    rw [← HI.out] at HV0
    have HV2 : Hid (Arr w3 g2 [.int .u8 (id.author.toNat : Int), .int .u16 (id.seq.toNat : Int), .int .u8 ((UInt8.ofNat i).toNat : Int), .int .u8 (o.kind.toNat : Int), .int .u8 (o.at'.pid.author.toNat : Int), .int .u16 (o.at'.pid.seq.toNat : Int), .int .u8 (o.at'.n.toNat : Int), .string o.text, .bool false]) := HV0
    have HO2 := Lib.hid (HO.out.below HBx.out so)
    have HR2 := Lib.hid (HR1.out.below HBx.out HR1.out.lt)
    have HB2 := Lib.hid (below_over HB1.out HB1.out.size HBx.out)
    have nr2 : w.heap.size + 1 ≠ g2 := by have := HR1.out.lt; omega
    have hw2 : w.heap.size ≤ g2 := Nat.le_trans HB1.out.size hg2
    have ng2 : ¬ w0.heap.size = g2 := by omega
    clear o0 o1 o2 o3 o4 o5 o6 o7 so p0 p1 p2 p3 sp HS HCo HOo HC HP HP1
    have o0 := HO2.out.cell (j := 0) rfl
    have o1 := HO2.out.cell (j := 1) rfl
    have o2 := HO2.out.cell (j := 2) rfl
    have o3 := HO2.out.cell (j := 3) rfl
    have o4 := HO2.out.cell (j := 4) rfl
    have o5 := HO2.out.cell (j := 5) rfl
    have o6 := HO2.out.cell (j := 6) rfl
    have o7 := HO2.out.cell (j := 7) rfl
    have so := HO2.out.lt
    have x0 := HV2.out.cell (j := 0) rfl
    have x1 := HV2.out.cell (j := 1) rfl
    have x2 := HV2.out.cell (j := 2) rfl
    have x3 := HV2.out.cell (j := 3) rfl
    have x4 := HV2.out.cell (j := 4) rfl
    have x5 := HV2.out.cell (j := 5) rfl
    have x6 := HV2.out.cell (j := 6) rfl
    have x7 := HV2.out.cell (j := 7) rfl
    have x8 := HV2.out.cell (j := 8) rfl
    have sx := HV2.out.lt
    have r0 := HR2.out.cell (j := 0) rfl
    have r1 := HR2.out.cell (j := 1) rfl
    have r2 := HR2.out.cell (j := 2) rfl
    have r3 := HR2.out.cell (j := 3) rfl
    have r4 := HR2.out.cell (j := 4) rfl
    have r5 := HR2.out.cell (j := 5) rfl
    have r6 := HR2.out.cell (j := 6) rfl
    have r7 := HR2.out.cell (j := 7) rfl
    have r8 := HR2.out.cell (j := 8) rfl
    have sr := HR2.out.lt
    have y0 := HV2.out.free 0
    have y1 := HV2.out.free 1
    have y2 := HV2.out.free 2
    have y3 := HV2.out.free 3
    have y4 := HV2.out.free 4
    have y5 := HV2.out.free 5
    have y6 := HV2.out.free 6
    have y7 := HV2.out.free 7
    have y8 := HV2.out.free 8
    have q0 := HR2.out.free 0
    have q1 := HR2.out.free 1
    have q2 := HR2.out.free 2
    have q3 := HR2.out.free 3
    have q4 := HR2.out.free 4
    have q5 := HR2.out.free 5
    have q6 := HR2.out.free 6
    have q7 := HR2.out.free 7
    have q8 := HR2.out.free 8
    by_cases h1 : o.kind.toNat = 1
    · have d1 : ((o.kind.toNat : Int) == 1) = true := by simp; omega
      have HM := Lib.hid (madeX_file (id := id) (i := i) h1)
      have HF := Lib.hid ((((((((((((HR2.out.set_other (a := ⟨g2, 4, none⟩) nr2 (.int .u8 (id.author.toNat : Int))).set_other (a := ⟨g2, 5, none⟩) nr2 (.int .u16 (id.seq.toNat : Int))).set_other (a := ⟨g2, 6, none⟩) nr2 (.int .u8 ((UInt8.ofNat i).toNat : Int))).set 0 (.int .u8 (id.author.toNat : Int))).set 1 (.int .u16 (id.seq.toNat : Int))).set 2 (.int .u8 ((UInt8.ofNat i).toNat : Int))).set 3 (.int .u8 (o.kind.toNat : Int))).set 4 (.int .u8 (id.author.toNat : Int))).set 5 (.int .u16 (id.seq.toNat : Int))).set 6 (.int .u8 ((UInt8.ofNat i).toNat : Int))).set 7 (.string o.text)).set 8 (.bool false))
      have HBF := Lib.hid ((((((((((((HB2.out.setCell (p := ⟨g2, 4, none⟩) hw2 (.int .u8 (id.author.toNat : Int))).setCell (p := ⟨g2, 5, none⟩) hw2 (.int .u16 (id.seq.toNat : Int))).setCell (p := ⟨g2, 6, none⟩) hw2 (.int .u8 ((UInt8.ofNat i).toNat : Int))).setCell (p := ⟨w.heap.size + 1, 0, none⟩) (by simp) (.int .u8 (id.author.toNat : Int))).setCell (p := ⟨w.heap.size + 1, 1, none⟩) (by simp) (.int .u16 (id.seq.toNat : Int))).setCell (p := ⟨w.heap.size + 1, 2, none⟩) (by simp) (.int .u8 ((UInt8.ofNat i).toNat : Int))).setCell (p := ⟨w.heap.size + 1, 3, none⟩) (by simp) (.int .u8 (o.kind.toNat : Int))).setCell (p := ⟨w.heap.size + 1, 4, none⟩) (by simp) (.int .u8 (id.author.toNat : Int))).setCell (p := ⟨w.heap.size + 1, 5, none⟩) (by simp) (.int .u16 (id.seq.toNat : Int))).setCell (p := ⟨w.heap.size + 1, 6, none⟩) (by simp) (.int .u8 ((UInt8.ofNat i).toNat : Int))).setCell (p := ⟨w.heap.size + 1, 7, none⟩) (by simp) (.string o.text)).setCell (p := ⟨w.heap.size + 1, 8, none⟩) (by simp) (.bool false))
      clear h1
      go_wp2_with fail
      exact bodyPost_ret (v := vertV ⟨⟨id, UInt8.ofNat i⟩, o.kind, ⟨id, UInt8.ofNat i⟩, o.text, false⟩) (results_arr rowVert rfl HF.out rfl rfl) rfl (made_mk HM.out HBF.out)
    · have d1 : ((o.kind.toNat : Int) == 1) = false := by simp; omega
      have HM := Lib.hid (madeX_else (id := id) (i := i) h1)
      have HF := Lib.hid (((((((((HR2.out.set 0 (.int .u8 (id.author.toNat : Int))).set 1 (.int .u16 (id.seq.toNat : Int))).set 2 (.int .u8 ((UInt8.ofNat i).toNat : Int))).set 3 (.int .u8 (o.kind.toNat : Int))).set 4 (.int .u8 (o.at'.pid.author.toNat : Int))).set 5 (.int .u16 (o.at'.pid.seq.toNat : Int))).set 6 (.int .u8 (o.at'.n.toNat : Int))).set 7 (.string o.text)).set 8 (.bool false))
      have HBF := Lib.hid (((((((((HB2.out.setCell (p := ⟨w.heap.size + 1, 0, none⟩) (by simp) (.int .u8 (id.author.toNat : Int))).setCell (p := ⟨w.heap.size + 1, 1, none⟩) (by simp) (.int .u16 (id.seq.toNat : Int))).setCell (p := ⟨w.heap.size + 1, 2, none⟩) (by simp) (.int .u8 ((UInt8.ofNat i).toNat : Int))).setCell (p := ⟨w.heap.size + 1, 3, none⟩) (by simp) (.int .u8 (o.kind.toNat : Int))).setCell (p := ⟨w.heap.size + 1, 4, none⟩) (by simp) (.int .u8 (o.at'.pid.author.toNat : Int))).setCell (p := ⟨w.heap.size + 1, 5, none⟩) (by simp) (.int .u16 (o.at'.pid.seq.toNat : Int))).setCell (p := ⟨w.heap.size + 1, 6, none⟩) (by simp) (.int .u8 (o.at'.n.toNat : Int))).setCell (p := ⟨w.heap.size + 1, 7, none⟩) (by simp) (.string o.text)).setCell (p := ⟨w.heap.size + 1, 8, none⟩) (by simp) (.bool false))
      clear h1
      go_wp2_with fail
      exact bodyPost_ret (v := vertV ⟨⟨id, UInt8.ofNat i⟩, o.kind, o.at', o.text, false⟩) (results_arr rowVert rfl HF.out rfl rfl) rfl (made_mk HM.out HBF.out)
end Go.Proofs.YtfciedmmgddgpaaGreatDoor
