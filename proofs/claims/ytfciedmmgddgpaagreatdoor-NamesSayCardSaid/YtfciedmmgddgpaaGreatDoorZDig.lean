/- Contracts of ref20.Apply and of the model of patches. Contracts of the reference's Digits and Text of names. -/
import Derived.Test.YtfciedmmgddgpaaGreatDoorZRefQ
import Derived.Test.YtfciedmmgddgpaaGreatDoorZNmC
namespace Go.Proofs.YtfciedmmgddgpaaGreatDoor
open Go Go.RowKit

theorem rowGraph : RowT Tryz.prog 33 1 := rowT_of Tryz.underlying33 rfl (by kernel_rfl)
def apX (xs : List LaidP) (x : LaidP) : List LaidP := if checkM (patsOf xs) x.p = 0 then xs ++ [x] else xs
theorem apX_of (xs : List LaidP) (x : LaidP) : patsOf (apX xs x) = applyM (patsOf xs) x.p := by
  unfold apX applyM
  split
  · unfold patsOf; rw [List.map_append]; rfl
  · rfl
theorem apX_yes {xs : List LaidP} {x : LaidP} {c : Nat} (h : checkM (patsOf xs) x.p = c) (hc : c = 0) : apX xs x = xs ++ [x] := by unfold apX; rw [h, if_pos hc]
theorem apX_no {xs : List LaidP} {x : LaidP} {c : Nat} (h : checkM (patsOf xs) x.p = c) (hc : ¬ c = 0) : apX xs x = xs := by unfold apX; rw [h, if_neg hc]
def RApRes (w : World) (gv : Value) (xs : List LaidP) (x : LaidP) (e : Ending) (w' : World) : Prop := ∃ v, e = .returned (.tuple #[rgV v, .int .i64 ((checkM (patsOf xs) x.p : Nat) : Int)]) ∧ Pats w' v (apX xs x) ∧ (v = gv ∨ ∀ k, v.ownBlock = some k → w.heap.size ≤ k) ∧ Below w.heap.size w w'
theorem rap_mk {w w' : World} {gv : Value} {xs : List LaidP} {x : LaidP} {v : Value} {c : Nat} (hc : checkM (patsOf xs) x.p = c) (hp : Pats w' v (apX xs x)) (hv : v = gv ∨ ∀ k, v.ownBlock = some k → w.heap.size ≤ k) (hb : Below w.heap.size w w') : RApRes w gv xs x (.returned (.tuple #[rgV v, .int .i64 (c : Int)])) w' := by subst hc; exact ⟨v, rfl, hp, hv, hb⟩
attribute [local irreducible] checkM apX goodP hasM vecM
set_option maxHeartbeats 16000000 in
set_option maxRecDepth 100000 in
theorem rapply20_any (gv : Value) (xs : List LaidP) (x : LaidP) (w : World) (hv : Pats w gv xs) (hp : PatOk w x) (hn : xs.length ≤ 300) (ho : OrdL (patsOf xs)) (hw : WfG (patsOf xs)) (hl : ∀ y ∈ xs, y.p.ops.length ≤ 260) (hlx : x.p.ops.length ≤ 260) (hdx : x.p.deps.length ≤ 40000) (hz : ∀ o ∈ x.p.ops, o.text.size ≤ maxLen) :
    Calls Tryz.prog 20 #[rgV gv, patV x.p.id x.dv x.ov] w (RApRes w gv xs x) := by
  have HV := Lib.hid hv
  have HPx := Lib.hid hp
  have HCk := Lib.hid (fun W gv' hv' hp' => rcheck20_any gv' xs x W hv' hp' hn ho hw hl hlx hdx hz)
  obtain ⟨a, cap, rfl, h1, h2, hc⟩ := hv.1.at encPat_len
  unfold maxLen at h2
  obtain ⟨ad, capd, hdv, d1, d2, hcd⟩ := hp.1.at encPid_len
  obtain ⟨ao, capo, hov, o1, o2, hco⟩ := hp.2.at encOp_len
  unfold maxLen at d2 o2
  clear hv hp ho hw hl hc hcd hco hz
  have HDV := Lib.hid hdv
  have HOV := Lib.hid hov
  unfold rgV patV
  rw [hdv, hov]
  clear hdv hov
  have HG := Lib.hid (((arr_new w #[.slice a xs.length cap] 33).alloc (.cells #[.int .u8 (x.p.id.author.toNat : Int), .int .u16 (x.p.id.seq.toNat : Int), .slice ad x.p.deps.length capd, .slice ao x.p.ops.length capo] 51)).alloc (.cells #[.slice none 0 0] 33))
  have HP := Lib.hid ((arr_new2 w (.cells #[.slice a xs.length cap] 33) #[.int .u8 (x.p.id.author.toNat : Int), .int .u16 (x.p.id.seq.toNat : Int), .slice ad x.p.deps.length capd, .slice ao x.p.ops.length capo] 51).alloc (.cells #[.slice none 0 0] 33))
  have HR := Lib.hid (arr_new3 w (.cells #[.slice a xs.length cap] 33) (.cells #[.int .u8 (x.p.id.author.toNat : Int), .int .u16 (x.p.id.seq.toNat : Int), .slice ad x.p.deps.length capd, .slice ao x.p.ops.length capo] 51) #[.slice none 0 0] 33)
  have HB := Lib.hid (((below_new (w := w) (.cells #[.slice a xs.length cap] 33)).alloc (by simp) (.cells #[.int .u8 (x.p.id.author.toNat : Int), .int .u16 (x.p.id.seq.toNat : Int), .slice ad x.p.deps.length capd, .slice ao x.p.ops.length capo] 51)).alloc (by simp; omega) (.cells #[.slice none 0 0] 33))
  go_enter Tryz.func20, Tryz.ntmps20
  go_upto_region 1 with (fail)
  generalize hw0 : ((w.alloc (.cells #[.slice a xs.length cap] 33)).alloc (.cells #[.int .u8 (x.p.id.author.toNat : Int), .int .u16 (x.p.id.seq.toNat : Int), .slice ad x.p.deps.length capd, .slice ao x.p.ops.length capo] 51)).alloc (.cells #[.slice none 0 0] 33) = w0 at *
  clear hw0
  have g0 := HG.out.cell (j := 0) rfl
  have sg := HG.out.lt
  have p0 := HP.out.cell (j := 0) rfl
  have p1 := HP.out.cell (j := 1) rfl
  have p2 := HP.out.cell (j := 2) rfl
  have p3 := HP.out.cell (j := 3) rfl
  have sp := HP.out.lt
  have HCall : Hid (Calls Tryz.prog 45 #[.agg #[.slice a xs.length cap], .agg #[.int .u8 (x.p.id.author.toNat : Int), .int .u16 (x.p.id.seq.toNat : Int), .slice ad x.p.deps.length capd, .slice ao x.p.ops.length capo]] w0 fun e w' => e = .returned (.int .i64 ((checkM (patsOf xs) x.p : Nat) : Int)) ∧ Below w0.heap.size w0 w') := Lib.hid (by
    have := HCk.out w0 _ (HV.out.over HB.out) ⟨HPx.out.1.over HB.out, HPx.out.2.over HB.out⟩
    unfold rgV patV at this
    rw [HDV.out, HOV.out] at this
    exact this)
  obtain ⟨c, hc⟩ : ∃ c, checkM (patsOf xs) x.p = c := ⟨_, rfl⟩
  rw [hc] at HCall
  have HC := Lib.hid hc
  clear hc
  go_upto_region 2 with (first | (go_at_call 45; (with_reducible refine HCall.out.mono ?_); rintro e w1 ⟨rfl, hb1⟩))
  have HB1 := Lib.hid (below_over HB.out HB.out.size hb1)
  have HG1 := Lib.hid (HG.out.over hb1)
  have HP1 := Lib.hid (HP.out.over hb1)
  have HR1 := Lib.hid (HR.out.over hb1)
  clear g0 sg p0 p1 p2 p3 sp hb1 HCall HG HP HR
  have HS1 : Hid (w.heap.size + 1 + 1 < w1.heap.size) := Lib.hid HR1.out.lt
  have g0 := HG1.out.cell (j := 0) rfl
  have sg := HG1.out.lt
  have r0 := HR1.out.cell (j := 0) rfl
  have sr := HR1.out.lt
  have rf := HR1.out.free 0
  have HV1 := Lib.hid (HV.out.over HB1.out)
  by_cases hc0 : c = 0
  rotate_left
  · have e2 : ((c : Int) != 0) = true := by simp; omega
    have HE := Lib.hid (apX_no HC.out hc0)
    clear hc0
    go_wp2_with fail
    have HBe := Lib.hid (below_set HB1.out (show w.heap.size ≤ w.heap.size + 1 + 1 by omega) (.slice a xs.length cap))
    exact bodyPost_ret (v := .tuple #[rgV (.slice a xs.length cap), .int .i64 (c : Int)]) (results_arr_slot rowGraph rfl (HR1.out.set 0 _) rfl rfl rfl) rfl (rap_mk HC.out (by rw [HE.out]; exact HV.out.over HBe.out) (.inl rfl) HBe.out)
  have e2 : ((c : Int) != 0) = false := by simp; omega
  have HE := Lib.hid (apX_yes HC.out hc0)
  have HC0 := Lib.hid hc0
  clear hc0
  have p0 := HP1.out.cell (j := 0) rfl
  have p1 := HP1.out.cell (j := 1) rfl
  have p2 := HP1.out.cell (j := 2) rfl
  have p3 := HP1.out.cell (j := 3) rfl
  have sp := HP1.out.lt
  have HXS : Hid (Row w1 (.slice a xs.length cap) xs.length 4 (xs.flatMap encPat)) := Lib.hid HV1.out.1
  have HOne := Lib.hid (onePats HV1.out.2)
  have HEP : Hid (encPat x = [.int .u8 (x.p.id.author.toNat : Int), .int .u16 (x.p.id.seq.toNat : Int), .slice ad x.p.deps.length capd, .slice ao x.p.ops.length capo]) := Lib.hid (by unfold encPat; rw [HDV.out, HOV.out])
  have hN1 : 0 + xs.length ≤ maxLen := by unfold maxLen; omega
  have hN1b : (0 + xs.length) * 56 ≤ 140737488355328 := by omega
  have hN2 : 0 + xs.length + 1 ≤ 1099511627776 := by omega
  have HNil : Hid (w1.ownsRow w1.heap.size 51 4 (.slice none 0 0) 0 []) := Lib.hid (World.ownsRow_nil w1 _ _ _)
  go_upto_region 6 with (first | (refine wpList_append_row slPat rfl _ _ rfl w1.heap.size (.slice none 0 0) 0 [] HNil.out rfl (.slice a xs.length cap) xs.length (xs.flatMap encPat) HXS.out rfl HOne.out hN1 hN1b (Nat.le_refl _) ?_; intro v5 w5 ho5 hg5; have HO5 := Lib.hid ho5; have HB5 := Lib.hid (below_grown (Below.refl w1.heap.size w1) (Nat.le_refl _) (show w1.ownsRow w1.heap.size 51 4 (.slice none 0 0) 0 [] from HNil.out) hg5); clear ho5 hg5))
  have HP5 := Lib.hid (HP1.out.over HB5.out)
  have hS5 := HB5.out.size
  clear g0 sg p0 p1 p2 p3 sp r0 sr rf
  have p0 := HP5.out.cell (j := 0) rfl
  have p1 := HP5.out.cell (j := 1) rfl
  have p2 := HP5.out.cell (j := 2) rfl
  have p3 := HP5.out.cell (j := 3) rfl
  have sp := HP5.out.lt
  go_upto_region 7 with ((at_builtin; (first | refine wpList_append_newD slPat rfl _ _ rfl w1.heap.size _ _ (drawn_alloc_drewN _ _ _) 1 _ _ _ HO5.out rfl rfl rfl rfl hN2 (by decide) hS5 ?_ | refine wpList_append_newD slPat rfl _ _ rfl w1.heap.size _ _ (drawn_drew _) 1 _ _ _ HO5.out rfl rfl rfl rfl hN2 (by decide) hS5 ?_ | refine wpList_append_newD slPat rfl _ _ rfl w1.heap.size _ _ (drawn_drewN _ _) 1 _ _ _ HO5.out rfl rfl rfl rfl hN2 (by decide) hS5 ?_ | refine wpList_append_newD slPat rfl _ _ rfl w1.heap.size _ _ (drawn_refl _) 1 _ _ _ HO5.out rfl rfl rfl rfl hN2 (by decide) hS5 ?_); intro v6 w6 ho6 hg6))
  have HB6 := Lib.hid (below_grown HB5.out HB5.out.size HO5.out hg6)
  have HR6 := Lib.hid (HR1.out.over HB6.out)
  obtain ⟨b6, l6, c6, rfl⟩ := own_slice ho6
  have HO6 := Lib.hid ho6
  clear ho6 hg6 p0 p1 p2 p3 sp
  have r0 := HR6.out.cell (j := 0) rfl
  have sr := HR6.out.lt
  have rf := HR6.out.free 0
  go_wp2_with fail
  have HB7 := Lib.hid (below_set (below_over HB1.out HB1.out.size HB6.out) (show w.heap.size ≤ w.heap.size + 1 + 1 by omega) (.slice b6 l6 c6))
  have hne : (Value.slice b6 l6 c6).ownBlock ≠ some (w.heap.size + 1 + 1) := fun q => by
    have h1 := (HO6.out.lt _ q).1
    have h2 := HS1.out
    omega
  have HPx7 : Hid (PatOk w x) := HPx
  refine bodyPost_ret (v := .tuple #[rgV (.slice b6 l6 c6), .int .i64 ((0 : Nat) : Int)]) (results_arr_slot rowGraph rfl (HR6.out.set 0 _) rfl rfl rfl) rfl (rap_mk (HC.out.trans HC0.out) ?_ (.inr fun k q => by have h1 := (HO6.out.lt _ q).1; have h2 := HS1.out; omega) HB7.out)
  rw [HE.out]
  refine ⟨pat_row (own_set HO6.out hne _ 0) HEP.out, fun y hy => ?_⟩
  rcases List.mem_append.1 hy with hy | hy
  · exact ⟨(HV.out.2 y hy).1.over HB7.out, (HV.out.2 y hy).2.over HB7.out⟩
  · rw [List.mem_singleton.1 hy]; exact ⟨HPx.out.1.over HB7.out, HPx.out.2.over HB7.out⟩

/-! ### the model -/
theorem row_set {w : World} {v : Value} {n sz g j : Nat} {cs : List Value} {u : Value} (h : Row w v n sz cs) (hg : v.ownBlock ≠ some g) : Row (w.setCell ⟨g, j, none⟩ u) v n sz cs := by
  refine h.keep (by simp) fun b hb _ => ?_
  have hne : g ≠ b := fun q => hg (by rw [hb, q])
  unfold World.setCell
  split <;> simp [Array.getElem?_modify, hne]
def modX (xs : List LaidP) : List LaidP := xs.foldl apX []
theorem modX_mem : ∀ (xs out : List LaidP) (y : LaidP), y ∈ xs.foldl apX out → y ∈ out ∨ y ∈ xs
  | [], out, y, h => .inl h
  | x :: xs, out, y, h => by
    rcases modX_mem xs (apX out x) y h with h1 | h1
    · unfold apX at h1
      split at h1
      · rcases List.mem_append.1 h1 with h2 | h2
        · exact .inl h2
        · exact .inr (by rw [List.mem_singleton.1 h2]; exact List.mem_cons_self ..)
      · exact .inl h1
    · exact .inr (List.mem_cons_of_mem _ h1)
theorem modX_len : ∀ (xs out : List LaidP), (xs.foldl apX out).length ≤ out.length + xs.length
  | [], out => by simp
  | x :: xs, out => by
    have h1 := modX_len xs (apX out x)
    have h2 : (apX out x).length ≤ out.length + 1 := by unfold apX; split <;> simp
    rw [List.foldl_cons, List.length_cons]; omega
theorem modX_pats (xs : List LaidP) : patsOf (modX xs) = buildM (patsOf xs) := by
  have : ∀ (xs out : List LaidP), patsOf (xs.foldl apX out) = (patsOf xs).foldl applyM (patsOf out) := by
    intro xs
    induction xs with
    | nil => intro out; rfl
    | cons x xs ih => intro out; rw [List.foldl_cons, ih, apX_of]; rfl
  exact this xs []
theorem modX_succ {xs : List LaidP} {k : Nat} {x : LaidP} (h : xs[k]? = some x) : modX (xs.take (k + 1)) = apX (modX (xs.take k)) x := by
  unfold modX; rw [take_succ' h, List.foldl_append]; rfl
def RMdRes (w : World) (xs : List LaidP) (e : Ending) (w' : World) : Prop := ∃ v, e = .returned (rgV v) ∧ Pats w' v (modX xs) ∧ Below w.heap.size w w'
def MdRel (w : World) (xs : List LaidP) (v4 : Value) (wr : World) : Prop := ∃ (k : Nat) (a : Option Addr) (n c : Nat), k ≤ xs.length ∧ v4 = .int .i64 (k : Int) ∧ Hid (GRow encPat 4 wr (.slice a n c) (modX (xs.take k))) ∧ Hid (∀ g, w.heap.size ≤ g → g ≤ w.heap.size + 1 → (Value.slice a n c).ownBlock ≠ some g) ∧ Hid (Arr wr (w.heap.size + 1) [.slice a n c]) ∧ Hid (Arr wr w.heap.size [.slice none 0 0]) ∧ Below w.heap.size w wr
attribute [local irreducible] modX
set_option maxHeartbeats 16000000 in
set_option maxRecDepth 100000 in
theorem rmodel_any (v : Value) (xs : List LaidP) (w : World) (hv : Pats w v xs) (hn : xs.length ≤ 300) (hl : ∀ y ∈ xs, y.p.ops.length ≤ 260) (hd : ∀ y ∈ xs, y.p.deps.length ≤ 40000) (hz : ∀ y ∈ xs, ∀ o ∈ y.p.ops, o.text.size ≤ maxLen) :
    Calls Tryz.prog 7 #[v] w (RMdRes w xs) := by
  have HV := Lib.hid hv
  have HL := Lib.hid hl
  have HD := Lib.hid hd
  have HZ := Lib.hid hz
  obtain ⟨a, cap, rfl, h1, h2, hc⟩ := hv.1.at encPat_len
  unfold maxLen at h2
  have HC := Lib.hid hc
  clear hv hl hd hz hc
  have HR := Lib.hid ((arr_new w #[.slice none 0 0] 33).alloc (.cells #[.slice none 0 0] 33))
  have HX := Lib.hid (arr_new2 w (.cells #[.slice none 0 0] 33) #[.slice none 0 0] 33)
  have HB := Lib.hid ((below_new (w := w) (.cells #[.slice none 0 0] 33)).alloc (by simp) (.cells #[.slice none 0 0] 33))
  go_enter Tryz.func7, Tryz.ntmps7
  go_upto_region 2 with (fail)
  generalize hw0 : (w.alloc (.cells #[.slice none 0 0] 33)).alloc (.cells #[.slice none 0 0] 33) = w0 at *
  clear hw0
  go_wp2_with fail
  go_loopw [4] (fun v4 wr => MdRel w xs v4 wr) (fun v4 _ => xs.length - (intOf v4).toNat)
  case atStart => exact ⟨0, none, 0, 0, Nat.zero_le _, rfl, (by show GRow _ _ _ _ _; unfold modX; exact row_nil _ _), (by show ∀ g, _; exact fun g _ _ q => by cases q), HX, HR, HB.out⟩
  case round =>
    obtain ⟨k, a6, n6, c6, hk, rfl, HM, HN6, HX6, HR6, hbl⟩ := hrel
    rename World => wr
    have x0 := HX6.out.cell (j := 0) rfl
    have sx := HX6.out.lt
    by_cases hlt : k < xs.length
    · obtain ⟨bo, off, rfl, sb, hcb⟩ := HC.out.resolve_left (by omega)
      obtain ⟨x, hx⟩ := get_of_lt hlt
      have HXk := Lib.hid hx
      have hm : x ∈ xs := List.mem_of_getElem? hx
      have hp := HV.out.2 x hm
      obtain ⟨ad, capd, hdv, d1, d2, hcd⟩ := hp.1.at encPid_len
      obtain ⟨ao, capo, hov, o1, o2, hco⟩ := hp.2.at encOp_len
      have HB1 := Lib.hid hbl
      have HCall : Hid (∀ W, Below wr.heap.size wr W → Calls Tryz.prog 20 #[.agg #[.slice a6 n6 c6], .agg #[.int .u8 (x.p.id.author.toNat : Int), .int .u16 (x.p.id.seq.toNat : Int), .slice ad x.p.deps.length capd, .slice ao x.p.ops.length capo]] W fun e w' => ∃ a9 n9 c9, e = .returned (.tuple #[.agg #[.slice a9 n9 c9], .int .i64 ((checkM (patsOf (modX (xs.take k))) x.p : Nat) : Int)]) ∧ GRow encPat 4 w' (.slice a9 n9 c9) (apX (modX (xs.take k)) x) ∧ (∀ g, w.heap.size ≤ g → g ≤ w.heap.size + 1 → (Value.slice a9 n9 c9).ownBlock ≠ some g) ∧ Below W.heap.size W w') := Lib.hid fun W hb => by
        have hBW := below_over HB1.out HB1.out.size hb
        have hmm : ∀ y ∈ modX (xs.take k), y ∈ xs := fun y hy => by
          unfold modX at hy
          rcases modX_mem _ _ y hy with h | h
          · cases h
          · exact List.mem_of_mem_take h
        have hml : (modX (xs.take k)).length ≤ 300 := by
          unfold modX
          have h3 := modX_len (xs.take k) []
          rw [List.length_take, List.length_nil] at h3; omega
        have := rapply20_any (.slice a6 n6 c6) (modX (xs.take k)) x W ⟨HM.out.over hb, fun y hy => ⟨(HV.out.2 y (hmm y hy)).1.over hBW, (HV.out.2 y (hmm y hy)).2.over hBW⟩⟩ ⟨hp.1.over hBW, hp.2.over hBW⟩ hml (by rw [modX_pats]; exact ord_build _) (by rw [modX_pats]; exact wf_build _) (fun y hy => HL.out y (hmm y hy)) (HL.out x hm) (HD.out x hm) (HZ.out x hm)
        unfold rgV patV at this
        rw [hdv, hov] at this
        refine this.mono ?_
        rintro e w' ⟨v9, rfl, hp9, hv9, hb9⟩
        obtain ⟨a9, c9, rfl, _, _, _⟩ := hp9.1.at encPat_len
        refine ⟨a9, _, c9, rfl, hp9.1, ?_, hb9⟩
        rcases hv9 with h | h
        · rw [h]; exact HN6.out
        · intro g hg1 hg2 q
          have h3 := h _ q
          have h4 := HX6.out.lt
          have h5 := hb.size
          omega
      have HS := Lib.hid (modX_succ hx)
      have HRx := Lib.hid (hcb k x hx wr hbl)
      unfold maxLen at d2 o2
      have q0 : wr.cell? ⟨bo, off + k * 4, none⟩ = some (.int .u8 (x.p.id.author.toNat : Int)) := (HRx.out).2 0 _ rfl
      have q1 : wr.cell? ⟨bo, off + k * 4 + 1, none⟩ = some (.int .u16 (x.p.id.seq.toNat : Int)) := (HRx.out).2 1 _ rfl
      have q2 : wr.cell? ⟨bo, off + k * 4 + 2, none⟩ = some (.slice ad x.p.deps.length capd) := by rw [← hdv]; exact (HRx.out).2 2 _ rfl
      have q3 : wr.cell? ⟨bo, off + k * 4 + 3, none⟩ = some (.slice ao x.p.ops.length capo) := by rw [← hov]; exact (HRx.out).2 3 _ rfl
      have sx := HRx.out.1
      clear hcb hx hm hp hcd hco hdv hov
      have hbne : ¬ bo = w.heap.size + 1 := by omega
      go_upto_region 5 with (fail)
      have hcur : World.grownBy wr wr.drew (some (w.heap.size + 1)) := ⟨rfl, rfl, rfl, Nat.le_refl _, fun _ _ _ => rfl⟩
      refine wp_region_lex (C := IsKept wr (some (w.heap.size + 1))) 10 [0] (by kernel_rfl) (by kernel_rfl) (isKept_of hcur) ?_
      simp only [List.take_succ_cons, List.take_zero, List.drop_succ_cons, List.drop_zero]
      repeat (first | (refine lex_skip rfl rfl ?_; simp only [Act.put, List.setIfInBounds_toArray, List.set_cons_succ, List.set_cons_zero]) | (refine lex_one rfl ?_; go_big_quiet_step (fail); refine wpQuiet_nil ?_) | (refine lex_loud rfl ?_; go_wp2_with (first | (go_at_call 20; (with_reducible refine (HCall.out _ (Below.refl _ _).drew).mono ?_); rintro e w9 ⟨a9, n9, c9, rfl, hp9, hn9, hb⟩; have HP9 := Lib.hid hp9; have HNe := Lib.hid hn9; have HBk : Hid (Below wr.heap.size wr w9) := Lib.hid (below_over (Below.refl _ _).drew (Nat.le_refl _) hb); have HX9 := Lib.hid (HX6.out.over HBk.out); have HR9 := Lib.hid (HR6.out.over HBk.out); have HB9 := Lib.hid (below_over HB1.out HB1.out.size HBk.out); replace hcur := grown_trans hcur (grown_of_below hb); clear hb hp9 hn9; have y0 := HX9.out.cell (j := 0) rfl; have sy := HX9.out.lt; have yf := HX9.out.free 0)); refine ⟨isKept_of (by first | exact hcur | exact only_alloc hcur _ | exact grown_trans hcur (grown_setCell _ _ _) | exact grown_trans (grown_trans hcur (grown_setCell _ _ _)) (grown_setCell _ _ _)), ?_⟩))
      refine lex_end ?_
      go_wp2_with fail
      go_roundw
      case rel => exact ⟨k + 1, a9, n9, c9, hlt, by go_num, (by show GRow _ _ _ _ _; rw [HS.out]; exact row_set HP9.out (HNe.out _ (by omega) (Nat.le_refl _))), HNe, Lib.hid (HX9.out.set 0 _), Lib.hid (HR9.out.set_other (by simp) _), below_set HB9.out (by omega) _⟩
      case measure => simp [intOf]; omega
    · obtain rfl : k = xs.length := by omega
      have HE := HM.out
      rw [List.take_length] at HE
      have HE2 := Lib.hid HE
      clear HE HM
      have r0 := HR6.out.cell (j := 0) rfl
      have sr := HR6.out.lt
      have rf := HR6.out.free 0
      go_wp2_with fail
      refine bodyPost_ret (v := rgV (.slice a6 n6 c6)) (results_arr rowGraph rfl (HR6.out.set 0 _) rfl rfl) rfl ?_
      have HB7 := below_set hbl (Nat.le_refl _) (.slice a6 n6 c6)
      refine ⟨_, rfl, ⟨row_set HE2.out ?_, fun y hy => ?_⟩, HB7⟩
      · exact HN6.out _ (Nat.le_refl _) (by omega)
      · have hm : y ∈ xs := by
          unfold modX at hy
          rcases modX_mem _ _ y hy with h | h
          · cases h
          · exact h
        exact ⟨(HV.out.2 y hm).1.over HB7, (HV.out.2 y hm).2.over HB7⟩
end Go.Proofs.YtfciedmmgddgpaaGreatDoor
namespace Go.Proofs.YtfciedmmgddgpaaGreatDoor
open Go Go.RowKit

/-- a text of one byte -/
def chD (x : Int) : ByteArray := ⟨#[UInt8.ofNat x.toNat]⟩
theorem conv_newD (W : World) (x : Int) (h : 0 ≤ x ∧ x < 256) : (convert 59 9 (.slice (some ⟨W.heap.size, 0, none⟩) 1 1)).run Tryz.prog (W.alloc (.cells #[.int .u8 x] 5)) = .ok (.string (chD x)) (W.alloc (.cells #[.int .u8 x] 5)) := by
  have := run_convert_bytes_arg (P := Tryz.prog) (W.alloc (.cells #[.int .u8 x] 5)) 59 5 Tryz.underlying59 Tryz.underlying5 W.heap.size 0 1 1 [x] rfl (fun i hi => by
    obtain rfl : i = 0 := by simp at hi; omega
    simp) 9 Tryz.underlying9
  rw [this]
  unfold chD
  simp [strOfNums]
theorem chD_size (x : Int) : (chD x).size = 1 := rfl
def DgInv (n m : Nat) (s : ByteArray) : Prop := Lib.decDigits n = (if m < 10 then [] else Lib.decDigits (m / 10)) ++ s.data.toList
theorem chD_list (m : Nat) : (chD (48 + (m : Int) % 10)).data.toList = [UInt8.ofNat (48 + m % 10)] := by
  have : (48 + (m : Int) % 10).toNat = 48 + m % 10 := by omega
  unfold chD; rw [this]
theorem dec_split (m : Nat) : Lib.decDigits m = (if m < 10 then [] else Lib.decDigits (m / 10)) ++ [UInt8.ofNat (48 + m % 10)] := by
  rw [Lib.decDigits]
  split
  · rename_i h
    rw [Nat.mod_eq_of_lt h]; rfl
  · rfl
theorem dgInv_start (n : Nat) : DgInv n n (chD (48 + (n : Int) % 10)) := by unfold DgInv; rw [chD_list]; exact dec_split n
theorem dgInv_step {n m : Nat} {s : ByteArray} (h : DgInv n m s) (hm : 10 ≤ m) : DgInv n (m / 10) (chD (48 + ((m : Int) / 10) % 10) ++ s) := by
  unfold DgInv at *
  have e : (m : Int) / 10 = ((m / 10 : Nat) : Int) := by omega
  rw [h, if_neg (by omega), e, ba_apl, chD_list, ← List.append_assoc]
  conv => lhs; rw [dec_split (m / 10)]
theorem dgInv_end {n m : Nat} {s : ByteArray} (h : DgInv n m s) (hm : m < 10) : decB n = s := by
  unfold DgInv at h
  rw [if_pos hm, List.nil_append] at h
  apply ByteArray.ext
  apply Array.ext'
  exact h
theorem dgInv_size {n m : Nat} {s : ByteArray} (hn : n < 100000) (h : DgInv n m s) : s.size ≤ 6 := by
  have h1 := dec_len 5 n (show n < 10 ^ 5 from hn)
  unfold DgInv at h
  rw [h, List.length_append] at h1
  have : s.size = s.data.toList.length := rfl
  omega
attribute [local irreducible] chD decB pidB textB DgInv
def DgRel (w : World) (n : Nat) (v0 v3 : Value) (wr : World) : Prop := ∃ (m : Nat) (s : ByteArray), m ≤ n ∧ v0 = .int .i64 (m : Int) ∧ v3 = .string s ∧ s.size ≤ 6 ∧ Hid (DgInv n m s) ∧ Below w.heap.size w wr
set_option maxHeartbeats 4000000 in
set_option maxRecDepth 100000 in
theorem rdigits_any (n : Nat) (w : World) (h : n < 100000) : Calls Tryz.prog 64 #[.int .i64 (n : Int)] w fun e w' => e = .returned (.string (decB n)) ∧ Below w.heap.size w w' := by
  have hcv := conv_newD w (48 + (n : Int) % 10) (by omega)
  have HS := Lib.hid (dgInv_start n)
  have hz0 := dgInv_size h HS.out
  go_enter Tryz.func64, Tryz.ntmps64
  go_wp2_with fail
  clear hcv
  go_loopw [0, 3] (fun v0 v3 wr => DgRel w n v0 v3 wr) (fun v0 _ _ => (intOf v0).toNat)
  case atStart => exact ⟨n, _, Nat.le_refl _, rfl, rfl, hz0, HS, (Below.refl _ _).alloc (Nat.le_refl _) _⟩
  case round =>
    obtain ⟨m, s, hm, rfl, rfl, hz, HI, hbl⟩ := hrel
    clear hz0 HS
    by_cases hlt : m < 10
    · have HD := Lib.hid (dgInv_end HI.out hlt)
      have hd : decide ((10 : Int) ≤ (m : Int)) = false := by simp; omega
      go_wp2_with fail
      go_ret
      exact ⟨ret_val (congrArg Value.string HD.out.symm), hbl⟩
    · have HN := Lib.hid (dgInv_step HI.out (by omega))
      have hd : decide ((10 : Int) ≤ (m : Int)) = true := by simp; omega
      have hcv := conv_newD ‹World› (48 + ((m : Int) / 10) % 10) (by omega)
      have hz1 := chD_size (48 + ((m : Int) / 10) % 10)
      have hz2 := dgInv_size h HN.out
      go_wp2_with fail
      go_roundw
      case rel => exact ⟨m / 10, _, by omega, by rw [Int.natCast_ediv]; rfl, rfl, hz2, HN, hbl.alloc hbl.size _⟩
      case measure => simp [intOf]; omega
set_option maxHeartbeats 4000000 in
set_option maxRecDepth 100000 in
theorem rptext_any (p : PidM) (w : World) : Calls Tryz.prog 63 #[pidV p] w fun e w' => e = .returned (.string (pidB p)) ∧ Below w.heap.size w w' := by
  have HA := Lib.hid (arr_new w #[.int .u8 (p.author.toNat : Int), .int .u16 (p.seq.toNat : Int)] 25)
  have HB := Lib.hid (below_new (w := w) (.cells #[.int .u8 (p.author.toNat : Int), .int .u16 (p.seq.toNat : Int)] 25))
  have h1 := p.author.toNat_lt
  have h2 := p.seq.toNat_lt
  have z1 := decB_size (u := p.author.toNat) (by omega)
  have z2 := decB_size (u := p.seq.toNat) (by omega)
  have HE : Hid (decB p.author.toNat ++ ⟨#[46]⟩ ++ decB p.seq.toNat = pidB p) := by show _ = _; unfold pidB; rfl
  unfold pidV
  go_enter Tryz.func63, Tryz.ntmps63
  go_upto_region 1 with (fail)
  generalize hw0 : w.alloc (.cells #[.int .u8 (p.author.toNat : Int), .int .u16 (p.seq.toNat : Int)] 25) = w0 at *
  clear hw0
  have c0 := HA.out.cell (j := 0) rfl
  have c1 := HA.out.cell (j := 1) rfl
  have sc := HA.out.lt
  have HC1 : Hid (∀ w', Below w0.heap.size w0 w' → Calls Tryz.prog 64 #[.int .i64 (p.author.toNat : Int)] w' fun e w'' => e = .returned (.string (decB p.author.toNat)) ∧ Below w'.heap.size w' w'') := fun w' hb => rdigits_any _ w' (by omega)
  have HC2 : Hid (∀ w', Below w0.heap.size w0 w' → Calls Tryz.prog 64 #[.int .i64 (p.seq.toNat : Int)] w' fun e w'' => e = .returned (.string (decB p.seq.toNat)) ∧ Below w'.heap.size w' w'') := fun w' hb => rdigits_any _ w' (by omega)
  generalize decB p.author.toNat = A at *
  generalize decB p.seq.toNat = B at *
  have hcur : Below w0.heap.size w0 w0.drew := (Below.refl _ _).drew
  refine wp_region_lex (C := IsOver w0) 11 [] (by kernel_rfl) (by kernel_rfl) (isOver_of (by repeat (first | exact Below.refl _ _ | apply Below.drew | apply below_drewN | (refine Below.alloc ?_ (by simp) _)))) ?_
  simp only [List.take_succ_cons, List.take_zero, List.drop_succ_cons, List.drop_zero]
  repeat (first | (refine lex_skip rfl rfl ?_; simp only [Act.put, List.setIfInBounds_toArray, List.set_cons_succ, List.set_cons_zero]) | (refine lex_one rfl ?_; go_big_quiet_step (fail); refine wpQuiet_nil ?_) | (refine lex_loud rfl ?_; go_wp2_with (first | (go_at_call 64; (with_reducible refine (HC1.out _ hcur).mono ?_); rintro e w' ⟨rfl, hb⟩; replace hcur := below_over hcur hcur.size hb; clear hb) | (go_at_call 64; (with_reducible refine (HC2.out _ hcur).mono ?_); rintro e w' ⟨rfl, hb⟩; replace hcur := below_over hcur hcur.size hb; clear hb)); refine ⟨isOver_of hcur, ?_⟩))
  refine lex_end ?_
  go_wp2_with fail
  go_ret
  exact ⟨ret_val (congrArg Value.string HE.out), below_over HB.out HB.out.size hcur⟩
set_option maxHeartbeats 4000000 in
set_option maxRecDepth 100000 in
theorem rvtext_any (v : VidM) (w : World) : Calls Tryz.prog 36 #[vidV v] w fun e w' => e = .returned (.string (textB v)) ∧ Below w.heap.size w w' := by
  have HA := Lib.hid (arr_new w #[.int .u8 (v.pid.author.toNat : Int), .int .u16 (v.pid.seq.toNat : Int), .int .u8 (v.n.toNat : Int)] 27)
  have HB := Lib.hid (below_new (w := w) (.cells #[.int .u8 (v.pid.author.toNat : Int), .int .u16 (v.pid.seq.toNat : Int), .int .u8 (v.n.toNat : Int)] 27))
  have h1 := v.n.toNat_lt
  have z1 := pidB_size v.pid
  have z2 := decB_size (u := v.n.toNat) (by omega)
  have HE := Lib.hid (textB_eq v)
  unfold vidV
  go_enter Tryz.func36, Tryz.ntmps36
  go_upto_region 1 with (fail)
  generalize hw0 : w.alloc (.cells #[.int .u8 (v.pid.author.toNat : Int), .int .u16 (v.pid.seq.toNat : Int), .int .u8 (v.n.toNat : Int)] 27) = w0 at *
  clear hw0
  have c0 := HA.out.cell (j := 0) rfl
  have c1 := HA.out.cell (j := 1) rfl
  have c2 := HA.out.cell (j := 2) rfl
  have sc := HA.out.lt
  have HC1 : Hid (∀ w', Below w0.heap.size w0 w' → Calls Tryz.prog 63 #[.agg #[.int .u8 (v.pid.author.toNat : Int), .int .u16 (v.pid.seq.toNat : Int)]] w' fun e w'' => e = .returned (.string (pidB v.pid)) ∧ Below w'.heap.size w' w'') := fun w' hb => rptext_any v.pid w'
  have HC2 : Hid (∀ w', Below w0.heap.size w0 w' → Calls Tryz.prog 64 #[.int .i64 (v.n.toNat : Int)] w' fun e w'' => e = .returned (.string (decB v.n.toNat)) ∧ Below w'.heap.size w' w'') := fun w' hb => rdigits_any _ w' (by omega)
  generalize pidB v.pid = A at *
  generalize decB v.n.toNat = B at *
  have hcur : Below w0.heap.size w0 w0.drew := (Below.refl _ _).drew
  refine wp_region_lex (C := IsOver w0) 10 [] (by kernel_rfl) (by kernel_rfl) (isOver_of (by repeat (first | exact Below.refl _ _ | apply Below.drew | apply below_drewN | (refine Below.alloc ?_ (by simp) _)))) ?_
  simp only [List.take_succ_cons, List.take_zero, List.drop_succ_cons, List.drop_zero]
  repeat (first | (refine lex_skip rfl rfl ?_; simp only [Act.put, List.setIfInBounds_toArray, List.set_cons_succ, List.set_cons_zero]) | (refine lex_one rfl ?_; go_big_quiet_step (fail); refine wpQuiet_nil ?_) | (refine lex_loud rfl ?_; go_wp2_with (first | (go_at_call 63; (with_reducible refine (HC1.out _ hcur).mono ?_); rintro e w' ⟨rfl, hb⟩; replace hcur := below_over hcur hcur.size hb; clear hb) | (go_at_call 64; (with_reducible refine (HC2.out _ hcur).mono ?_); rintro e w' ⟨rfl, hb⟩; replace hcur := below_over hcur hcur.size hb; clear hb)); refine ⟨isOver_of hcur, ?_⟩))
  refine lex_end ?_
  go_wp2_with fail
  go_ret
  exact ⟨ret_val (congrArg Value.string HE.out), below_over HB.out HB.out.size hcur⟩
end Go.Proofs.YtfciedmmgddgpaaGreatDoor
