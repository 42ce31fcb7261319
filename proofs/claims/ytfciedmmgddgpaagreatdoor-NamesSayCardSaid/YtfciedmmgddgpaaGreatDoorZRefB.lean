/- Contracts of ref20.Vert, is. -/
import Derived.Test.YtfciedmmgddgpaaGreatDoorZRefA
namespace Go.Proofs.YtfciedmmgddgpaaGreatDoor
open Go Go.RowKit

theorem vertOp_any (xs : List LaidP) (v : VidM) : vertOp (patsOf xs) v = xs.findSome? fun x => madeBy x.p v := by unfold vertOp; rw [List.findSome?_map]; rfl
theorem find_at {α β : Type} {f : α → Option β} : ∀ {xs : List α} {k : Nat} {x : α} {y : β}, (xs.take k).any (fun x => (f x).isSome) = false → xs[k]? = some x → f x = some y → xs.findSome? f = some y
  | [], _, _, _, _, h, _ => by simp at h
  | z :: xs, 0, x, y, _, h, hf => by simp at h; subst h; rw [List.findSome?_cons, hf]
  | z :: xs, k + 1, x, y, h1, h, hf => by
    rw [List.take_succ_cons, List.any_cons, Bool.or_eq_false_iff] at h1
    have hz : f z = none := by cases hq : f z with | none => rfl | some q => rw [hq] at h1; simp at h1
    rw [List.findSome?_cons, hz]
    exact find_at h1.2 (by simpa using h) hf
theorem find_no {α β : Type} {f : α → Option β} {xs : List α} (h : xs.any (fun x => (f x).isSome) = false) : xs.findSome? f = none := by
  rw [List.findSome?_eq_none_iff]
  intro x hx
  cases hq : f x with
  | none => rfl
  | some q => have := (List.any_eq_false.1 h) x hx; rw [hq] at this; simp at this
theorem vert_some {xs : List LaidP} {v : VidM} {o : OpM} (h : vertOp (patsOf xs) v = some o) : vertM (patsOf xs) v = some ⟨v, o.kind, fileOf v o, o.text, deadM (patsOf xs) v⟩ := by unfold vertM; rw [h]; rfl
theorem vert_none {xs : List LaidP} {v : VidM} (h : vertOp (patsOf xs) v = none) : vertM (patsOf xs) v = none := by unfold vertM; rw [h]; rfl
theorem made_far {x : LaidP} {v : VidM} (h : ¬ x.p.id = v.pid) : madeBy x.p v = none := by unfold madeBy; rw [if_neg h]
theorem made_out {x : LaidP} {v : VidM} (h : ¬ v.n.toNat < x.p.ops.length) : madeBy x.p v = none := by unfold madeBy; rw [List.getElem?_eq_none (by omega)]; simp
theorem made_no {x : LaidP} {v : VidM} {o : OpM} (ho : x.p.ops[v.n.toNat]? = some o) (hm : makesB o.kind = false) : madeBy x.p v = none := by unfold madeBy; rw [ho]; simp [hm, Option.filter]
theorem made_yes {x : LaidP} {v : VidM} {o : OpM} (h : x.p.id = v.pid) (ho : x.p.ops[v.n.toNat]? = some o) (hm : makesB o.kind = true) : madeBy x.p v = some o := by unfold madeBy; rw [if_pos h, ho]; simp [hm, Option.filter]
theorem fileOf_yes {v : VidM} {o : OpM} (h : o.kind.toNat = 1) : fileOf v o = v := by unfold fileOf; have : o.kind = 1 := (u8_nat o.kind 1 (by omega)).2 h; rw [if_pos this]
theorem fileOf_no {v : VidM} {o : OpM} (h : ¬ o.kind.toNat = 1) : fileOf v o = o.at' := by unfold fileOf; rw [if_neg (fun e => h (by rw [e]; rfl))]
theorem isSome_none' {α : Type} {x : Option α} (h : x = none) : x.isSome = false := by rw [h]; rfl
attribute [local irreducible] madeBy vertM deadM vertOp
set_option maxHeartbeats 16000000 in
set_option maxRecDepth 100000 in
theorem rvert20_any (gv : Value) (xs : List LaidP) (v : VidM) (w : World) (hv : Pats w gv xs) (hl : ∀ x ∈ xs, x.p.ops.length ≤ 40000) :
    Calls Tryz.prog 47 #[rgV gv, vidV v] w (VertRes w (vertM (patsOf xs) v)) := by
  have HV := Lib.hid hv
  have HL := Lib.hid hl
  obtain ⟨a, cap, rfl, h1, h2, hc⟩ := hv.1.at encPat_len
  unfold maxLen at h2
  have HC := Lib.hid hc
  have HG := Lib.hid (((arr_new w #[.slice a xs.length cap] 33).alloc (.cells #[.int .u8 (v.pid.author.toNat : Int), .int .u16 (v.pid.seq.toNat : Int), .int .u8 (v.n.toNat : Int)] 27)).alloc (.cells #[.int .u8 0, .int .u16 0, .int .u8 0, .int .u8 0, .int .u8 0, .int .u16 0, .int .u8 0, .string ⟨#[]⟩, .bool false] 68))
  have HQ := Lib.hid ((arr_new2 w (.cells #[.slice a xs.length cap] 33) #[.int .u8 (v.pid.author.toNat : Int), .int .u16 (v.pid.seq.toNat : Int), .int .u8 (v.n.toNat : Int)] 27).alloc (.cells #[.int .u8 0, .int .u16 0, .int .u8 0, .int .u8 0, .int .u8 0, .int .u16 0, .int .u8 0, .string ⟨#[]⟩, .bool false] 68))
  have HR := Lib.hid (arr_new3 w (.cells #[.slice a xs.length cap] 33) (.cells #[.int .u8 (v.pid.author.toNat : Int), .int .u16 (v.pid.seq.toNat : Int), .int .u8 (v.n.toNat : Int)] 27) #[.int .u8 0, .int .u16 0, .int .u8 0, .int .u8 0, .int .u8 0, .int .u16 0, .int .u8 0, .string ⟨#[]⟩, .bool false] 68)
  have HB := Lib.hid (((below_new (w := w) (.cells #[.slice a xs.length cap] 33)).alloc (by simp) (.cells #[.int .u8 (v.pid.author.toNat : Int), .int .u16 (v.pid.seq.toNat : Int), .int .u8 (v.n.toNat : Int)] 27)).alloc (by simp; omega) (.cells #[.int .u8 0, .int .u16 0, .int .u8 0, .int .u8 0, .int .u8 0, .int .u16 0, .int .u8 0, .string ⟨#[]⟩, .bool false] 68))
  have gd := fun p q xs ys w => guard_pid .neq p q xs ys w
  have hnl := v.n.toNat_lt
  clear hv hc hl
  unfold rgV vidV
  go_enter Tryz.func47, Tryz.ntmps47
  go_upto_region 1 with (fail)
  generalize hw0 : ((w.alloc (.cells #[.slice a xs.length cap] 33)).alloc (.cells #[.int .u8 (v.pid.author.toNat : Int), .int .u16 (v.pid.seq.toNat : Int), .int .u8 (v.n.toNat : Int)] 27)).alloc (.cells #[.int .u8 0, .int .u16 0, .int .u8 0, .int .u8 0, .int .u8 0, .int .u16 0, .int .u8 0, .string ⟨#[]⟩, .bool false] 68) = w0 at *
  clear hw0
  go_wp2_with fail
  go_loopw [6] (fun v6 wr => ∃ k : Nat, k ≤ xs.length ∧ v6 = .int .i64 k ∧ Hid ((xs.take k).any (fun x => (madeBy x.p v).isSome) = false) ∧ Below w0.heap.size w0 wr) (fun v6 _ => xs.length - (intOf v6).toNat)
  case atStart => exact ⟨0, by omega, rfl, (by show _ = _; simp), Below.refl _ _⟩
  case round =>
    obtain ⟨k, hk, rfl, HM, hbl⟩ := hrel
    have HBr := Lib.hid (below_over HB.out HB.out.size hbl)
    have HGr := Lib.hid (HG.out.over hbl)
    have HQr := Lib.hid (HQ.out.over hbl)
    have HRr := Lib.hid (HR.out.over hbl)
    have g0 := HGr.out.cell (j := 0) rfl
    have sg := HGr.out.lt
    have q0 := HQr.out.cell (j := 0) rfl
    have q1 := HQr.out.cell (j := 1) rfl
    have q2 := HQr.out.cell (j := 2) rfl
    have sq := HQr.out.lt
    by_cases hlt : k < xs.length
    · obtain ⟨bo, off, rfl, sb, hcb⟩ := HC.out.resolve_left (by omega)
      obtain ⟨x, hx⟩ := get_of_lt hlt
      have HX := Lib.hid hx
      have hp : PatOk w x := HV.out.2 x (List.mem_of_getElem? hx)
      have hlx := HL.out x (List.mem_of_getElem? hx)
      obtain ⟨ao, capo, hov, t1, t2, hco⟩ := hp.2.at encOp_len
      obtain ⟨ad, capd, hdv, _, _, _⟩ := hp.1.at encPid_len
      unfold maxLen at t2
      have HCo := Lib.hid hco
      have HRx := Lib.hid (hcb k x hx wr HBr.out)
      have x0 : wr.cell? ⟨bo, off + k * 4, none⟩ = some (.int .u8 (x.p.id.author.toNat : Int)) := (HRx.out).2 0 _ rfl
      have x1 : wr.cell? ⟨bo, off + k * 4 + 1, none⟩ = some (.int .u16 (x.p.id.seq.toNat : Int)) := (HRx.out).2 1 _ rfl
      have x2 : wr.cell? ⟨bo, off + k * 4 + 2, none⟩ = some (x.dv) := (HRx.out).2 2 _ rfl
      have x3 : wr.cell? ⟨bo, off + k * 4 + 3, none⟩ = some (x.ov) := (HRx.out).2 3 _ rfl
      have sx := HRx.out.1
      rw [hov] at x3
      rw [hdv] at x2
      clear hcb hx hp hco
      go_upto_region 5 with (fail)
      have HP4 : Hid (Arr (wr.alloc (.cells #[.int .u8 (x.p.id.author.toNat : Int), .int .u16 (x.p.id.seq.toNat : Int), .slice ad x.p.deps.length capd, .slice ao x.p.ops.length capo] 51)) wr.heap.size [.int .u8 (x.p.id.author.toNat : Int), .int .u16 (x.p.id.seq.toNat : Int), .slice ad x.p.deps.length capd, .slice ao x.p.ops.length capo]) := Lib.hid (arr_new wr _ _)
      have hb4 := hbl.alloc hbl.size (.cells #[.int .u8 (x.p.id.author.toNat : Int), .int .u16 (x.p.id.seq.toNat : Int), .slice ad x.p.deps.length capd, .slice ao x.p.ops.length capo] 51)
      have HB4 := Lib.hid (HBr.out.alloc HBr.out.size (.cells #[.int .u8 (x.p.id.author.toNat : Int), .int .u16 (x.p.id.seq.toNat : Int), .slice ad x.p.deps.length capd, .slice ao x.p.ops.length capo] 51))
      have HG4 := Lib.hid (HGr.out.alloc (.cells #[.int .u8 (x.p.id.author.toNat : Int), .int .u16 (x.p.id.seq.toNat : Int), .slice ad x.p.deps.length capd, .slice ao x.p.ops.length capo] 51))
      have HQ4 := Lib.hid (HQr.out.alloc (.cells #[.int .u8 (x.p.id.author.toNat : Int), .int .u16 (x.p.id.seq.toNat : Int), .slice ad x.p.deps.length capd, .slice ao x.p.ops.length capo] 51))
      have HR4 := Lib.hid (HRr.out.alloc (.cells #[.int .u8 (x.p.id.author.toNat : Int), .int .u16 (x.p.id.seq.toNat : Int), .slice ad x.p.deps.length capd, .slice ao x.p.ops.length capo] 51))
      generalize hw4 : wr.alloc (.cells #[.int .u8 (x.p.id.author.toNat : Int), .int .u16 (x.p.id.seq.toNat : Int), .slice ad x.p.deps.length capd, .slice ao x.p.ops.length capo] 51) = w4 at *
      clear hw4 g0 sg q0 q1 q2 sq x0 x1 x2 x3 sx
      have p0 := HP4.out.cell (j := 0) rfl
      have p1 := HP4.out.cell (j := 1) rfl
      have p2 := HP4.out.cell (j := 2) rfl
      have p3 := HP4.out.cell (j := 3) rfl
      have sp := HP4.out.lt
      have g0 := HG4.out.cell (j := 0) rfl
      have sg := HG4.out.lt
      have q0 := HQ4.out.cell (j := 0) rfl
      have q1 := HQ4.out.cell (j := 1) rfl
      have q2 := HQ4.out.cell (j := 2) rfl
      have sq := HQ4.out.lt
      by_cases hp' : x.p.id = v.pid
      · have e1 := neq_pid x.p.id v.pid false (by simp [hp'])
        unfold pidV at e1
        by_cases hn : v.n.toNat < x.p.ops.length
        · have e2 : decide (x.p.ops.length ≤ v.n.toNat) = false := by simp; omega
          have e3 : decide (v.n.toNat < x.p.ops.length) = true := by simpa using hn
          obtain ⟨b2, off2, rfl, sb2, hcb2⟩ := HCo.out.resolve_left (by omega)
          obtain ⟨o, ho⟩ := get_op hn
          have HOo := Lib.hid ho
          have HRo := Lib.hid (hcb2 v.n.toNat o ho w4 HB4.out)
          have o0 : w4.cell? ⟨b2, off2 + v.n.toNat * 8, none⟩ = some (.int .u8 (o.kind.toNat : Int)) := (HRo.out).2 0 _ rfl
          have o1 : w4.cell? ⟨b2, off2 + v.n.toNat * 8 + 1, none⟩ = some (.int .u8 (o.at'.pid.author.toNat : Int)) := (HRo.out).2 1 _ rfl
          have o2 : w4.cell? ⟨b2, off2 + v.n.toNat * 8 + 2, none⟩ = some (.int .u16 (o.at'.pid.seq.toNat : Int)) := (HRo.out).2 2 _ rfl
          have o3 : w4.cell? ⟨b2, off2 + v.n.toNat * 8 + 3, none⟩ = some (.int .u8 (o.at'.n.toNat : Int)) := (HRo.out).2 3 _ rfl
          have o4 : w4.cell? ⟨b2, off2 + v.n.toNat * 8 + 4, none⟩ = some (.int .u8 (o.to.pid.author.toNat : Int)) := (HRo.out).2 4 _ rfl
          have o5 : w4.cell? ⟨b2, off2 + v.n.toNat * 8 + 5, none⟩ = some (.int .u16 (o.to.pid.seq.toNat : Int)) := (HRo.out).2 5 _ rfl
          have o6 : w4.cell? ⟨b2, off2 + v.n.toNat * 8 + 6, none⟩ = some (.int .u8 (o.to.n.toNat : Int)) := (HRo.out).2 6 _ rfl
          have o7 : w4.cell? ⟨b2, off2 + v.n.toNat * 8 + 7, none⟩ = some (.string o.text) := (HRo.out).2 7 _ rfl
          have so := HRo.out.1
          clear hcb2 ho
          cases hmk : makesB o.kind with
          | false =>
            have HMK := Lib.hid hmk
            have HN := Lib.hid (any_step HM.out HX.out (isSome_none' (made_no HOo.out hmk)))
            clear hp' hmk
            go_wp2_with (first | (go_at_call 80; (with_reducible refine (rmakes_any o.kind _).mono ?_); rintro e w9 ⟨rfl, hw9⟩; obtain rfl := hw9.symm; rw [HMK.out]))
            go_roundw
            case rel => exact ⟨k + 1, hlt, by go_num, HN, hb4⟩
            case measure => simp [intOf]; omega
          | true =>
            have HMK := Lib.hid hmk
            clear hmk
            by_cases h1 : o.kind.toNat = 1
            · have e5 : ((o.kind.toNat : Int) == 1) = true := by simp; omega
              have HY := Lib.hid ((vert_some ((vertOp_any xs v).trans (find_at (f := fun x => madeBy x.p v) HM.out HX.out (made_yes hp' HOo.out HMK.out)))).trans (by rw [fileOf_yes h1] : _ = some ⟨v, o.kind, v, o.text, deadM (patsOf xs) v⟩))
              generalize hdd : deadM (patsOf xs) v = d at *
              have HD := Lib.hid hdd
              clear hdd h1 hp'
              go_upto_region 10 with (first | (go_at_call 80; (with_reducible refine (rmakes_any o.kind _).mono ?_); rintro e w9 ⟨rfl, hw9⟩; obtain rfl := hw9.symm; rw [HMK.out]))
              have HO8 := Lib.hid ((arr_new w4 #[.int .u8 (o.kind.toNat : Int), .int .u8 (o.at'.pid.author.toNat : Int), .int .u16 (o.at'.pid.seq.toNat : Int), .int .u8 (o.at'.n.toNat : Int), .int .u8 (o.to.pid.author.toNat : Int), .int .u16 (o.to.pid.seq.toNat : Int), .int .u8 (o.to.n.toNat : Int), .string o.text] 56).alloc (.cells #[.int .u8 (v.pid.author.toNat : Int), .int .u16 (v.pid.seq.toNat : Int), .int .u8 (v.n.toNat : Int)] 27))
              have HF8 := Lib.hid (arr_new2 w4 (.cells #[.int .u8 (o.kind.toNat : Int), .int .u8 (o.at'.pid.author.toNat : Int), .int .u16 (o.at'.pid.seq.toNat : Int), .int .u8 (o.at'.n.toNat : Int), .int .u8 (o.to.pid.author.toNat : Int), .int .u16 (o.to.pid.seq.toNat : Int), .int .u8 (o.to.n.toNat : Int), .string o.text] 56) #[.int .u8 (v.pid.author.toNat : Int), .int .u16 (v.pid.seq.toNat : Int), .int .u8 (v.n.toNat : Int)] 27)
              have HG8 := Lib.hid ((HG4.out.alloc (.cells #[.int .u8 (o.kind.toNat : Int), .int .u8 (o.at'.pid.author.toNat : Int), .int .u16 (o.at'.pid.seq.toNat : Int), .int .u8 (o.at'.n.toNat : Int), .int .u8 (o.to.pid.author.toNat : Int), .int .u16 (o.to.pid.seq.toNat : Int), .int .u8 (o.to.n.toNat : Int), .string o.text] 56)).alloc (.cells #[.int .u8 (v.pid.author.toNat : Int), .int .u16 (v.pid.seq.toNat : Int), .int .u8 (v.n.toNat : Int)] 27))
              have HQ8 := Lib.hid ((HQ4.out.alloc (.cells #[.int .u8 (o.kind.toNat : Int), .int .u8 (o.at'.pid.author.toNat : Int), .int .u16 (o.at'.pid.seq.toNat : Int), .int .u8 (o.at'.n.toNat : Int), .int .u8 (o.to.pid.author.toNat : Int), .int .u16 (o.to.pid.seq.toNat : Int), .int .u8 (o.to.n.toNat : Int), .string o.text] 56)).alloc (.cells #[.int .u8 (v.pid.author.toNat : Int), .int .u16 (v.pid.seq.toNat : Int), .int .u8 (v.n.toNat : Int)] 27))
              have HR8 := Lib.hid ((HR4.out.alloc (.cells #[.int .u8 (o.kind.toNat : Int), .int .u8 (o.at'.pid.author.toNat : Int), .int .u16 (o.at'.pid.seq.toNat : Int), .int .u8 (o.at'.n.toNat : Int), .int .u8 (o.to.pid.author.toNat : Int), .int .u16 (o.to.pid.seq.toNat : Int), .int .u8 (o.to.n.toNat : Int), .string o.text] 56)).alloc (.cells #[.int .u8 (v.pid.author.toNat : Int), .int .u16 (v.pid.seq.toNat : Int), .int .u8 (v.n.toNat : Int)] 27))
              have HB8 := Lib.hid ((HB4.out.alloc HB4.out.size (.cells #[.int .u8 (o.kind.toNat : Int), .int .u8 (o.at'.pid.author.toNat : Int), .int .u16 (o.at'.pid.seq.toNat : Int), .int .u8 (o.at'.n.toNat : Int), .int .u8 (o.to.pid.author.toNat : Int), .int .u16 (o.to.pid.seq.toNat : Int), .int .u8 (o.to.n.toNat : Int), .string o.text] 56)).alloc (Below.size (HB4.out.alloc HB4.out.size (.cells #[.int .u8 (o.kind.toNat : Int), .int .u8 (o.at'.pid.author.toNat : Int), .int .u16 (o.at'.pid.seq.toNat : Int), .int .u8 (o.at'.n.toNat : Int), .int .u8 (o.to.pid.author.toNat : Int), .int .u16 (o.to.pid.seq.toNat : Int), .int .u8 (o.to.n.toNat : Int), .string o.text] 56))) (.cells #[.int .u8 (v.pid.author.toNat : Int), .int .u16 (v.pid.seq.toNat : Int), .int .u8 (v.n.toNat : Int)] 27))
              have HV8 := Lib.hid (HV.out.over HB8.out)
              have j0 : ¬ w.heap.size = w.heap.size + 1 + 1 := by omega
              have j1 : ¬ w.heap.size + 1 = w.heap.size + 1 + 1 := by omega
              have j2 : ¬ w4.heap.size = w.heap.size + 1 + 1 := by have := HR4.out.lt; omega
              have j4 : ¬ w4.heap.size = w.heap.size + 1 := by have := HR4.out.lt; omega
              have j3 : ¬ w4.heap.size + 1 = w.heap.size + 1 + 1 := by have := HR4.out.lt; omega
              generalize hw8 : (w4.alloc (.cells #[.int .u8 (o.kind.toNat : Int), .int .u8 (o.at'.pid.author.toNat : Int), .int .u16 (o.at'.pid.seq.toNat : Int), .int .u8 (o.at'.n.toNat : Int), .int .u8 (o.to.pid.author.toNat : Int), .int .u16 (o.to.pid.seq.toNat : Int), .int .u8 (o.to.n.toNat : Int), .string o.text] 56)).alloc (.cells #[.int .u8 (v.pid.author.toNat : Int), .int .u16 (v.pid.seq.toNat : Int), .int .u8 (v.n.toNat : Int)] 27) = w8 at *
              clear hw8 p0 p1 p2 p3 sp g0 sg q0 q1 q2 sq o0 o1 o2 o3 o4 o5 o6 o7 so HP4 HG4 HQ4 HR4 HRo HRx
              have o0 := HO8.out.cell (j := 0) rfl
              have o1 := HO8.out.cell (j := 1) rfl
              have o2 := HO8.out.cell (j := 2) rfl
              have o3 := HO8.out.cell (j := 3) rfl
              have o4 := HO8.out.cell (j := 4) rfl
              have o5 := HO8.out.cell (j := 5) rfl
              have o6 := HO8.out.cell (j := 6) rfl
              have o7 := HO8.out.cell (j := 7) rfl
              have so := HO8.out.lt
              have f0 := HF8.out.cell (j := 0) rfl
              have f1 := HF8.out.cell (j := 1) rfl
              have f2 := HF8.out.cell (j := 2) rfl
              have sf := HF8.out.lt
              have g0 := HG8.out.cell (j := 0) rfl
              have sg := HG8.out.lt
              have q0 := HQ8.out.cell (j := 0) rfl
              have q1 := HQ8.out.cell (j := 1) rfl
              have q2 := HQ8.out.cell (j := 2) rfl
              have sq := HQ8.out.lt
              have hcur : World.grownBy w8 w8.drew (some (w.heap.size + 1 + 1)) := ⟨rfl, rfl, rfl, Nat.le_refl _, fun _ _ _ => rfl⟩
              refine wp_region_lex (C := IsKept w8 (some (w.heap.size + 1 + 1))) 12 [] (by kernel_rfl) (by kernel_rfl) (isKept_of hcur) ?_
              simp only [List.take_succ_cons, List.take_zero, List.drop_succ_cons, List.drop_zero]
              repeat (first | (refine lex_skip rfl rfl ?_; simp only [Act.put, List.setIfInBounds_toArray, List.set_cons_succ, List.set_cons_zero]) | (refine lex_one rfl ?_; go_big_quiet_step (fail); refine wpQuiet_nil ?_) | (refine lex_loud rfl ?_; go_wp2_with (first | (go_at_call 83; (with_reducible refine (rdead20_any _ xs v _ (HV8.out.over (Below.refl _ _).drew)).mono ?_); rintro e w9 ⟨rfl, hb⟩; rw [HD.out]; replace hcur := grown_trans hcur (grown_of_below hb); have HR9 := Lib.hid (HR8.out.drew.over hb); have HB9 := Lib.hid (below_over HB8.out.drew (Below.size HB8.out.drew) hb); clear hb)); refine ⟨isKept_of (by first | exact hcur | exact only_alloc hcur _), ?_⟩))
              refine lex_loud rfl ?_
              refine wpList_store_arr rowVert rfl _ _ rfl _ _ [.int .u8 (v.pid.author.toNat : Int), .int .u16 (v.pid.seq.toNat : Int), .int .u8 (v.n.toNat : Int), .int .u8 (o.kind.toNat : Int), .int .u8 (v.pid.author.toNat : Int), .int .u16 (v.pid.seq.toNat : Int), .int .u8 (v.n.toNat : Int), .string o.text, .bool d] HR9.out rfl rfl rfl rfl rfl ?_
              go_step
              refine ⟨rfl, isKept_of (grown_trans hcur (grown_row _)), ?_⟩
              simp only [Act.put, List.setIfInBounds_toArray, List.set_cons_succ, List.set_cons_zero]
              refine lex_one rfl ?_
              go_big_quiet_step (fail)
              refine wpQuiet_nil ?_
              refine lex_end ?_
              clear hcur
              go_wp2_with fail
              exact bodyPost_ret (v := .tuple #[vertV ⟨v, o.kind, v, o.text, d⟩, .bool true]) (results_arr_slot rowVert rfl (HR9.out.row [.int .u8 (v.pid.author.toNat : Int), .int .u16 (v.pid.seq.toNat : Int), .int .u8 (v.n.toNat : Int), .int .u8 (o.kind.toNat : Int), .int .u8 (v.pid.author.toNat : Int), .int .u16 (v.pid.seq.toNat : Int), .int .u8 (v.n.toNat : Int), .string o.text, .bool d]) rfl rfl rfl) rfl (vertRes_of HY.out rfl rfl (below_setRow HB9.out (by omega) _))
            · have e5 : ((o.kind.toNat : Int) == 1) = false := by simp; omega
              have HY := Lib.hid ((vert_some ((vertOp_any xs v).trans (find_at (f := fun x => madeBy x.p v) HM.out HX.out (made_yes hp' HOo.out HMK.out)))).trans (by rw [fileOf_no h1] : _ = some ⟨v, o.kind, o.at', o.text, deadM (patsOf xs) v⟩))
              generalize hdd : deadM (patsOf xs) v = d at *
              have HD := Lib.hid hdd
              clear hdd h1 hp'
              go_upto_region 10 with (first | (go_at_call 80; (with_reducible refine (rmakes_any o.kind _).mono ?_); rintro e w9 ⟨rfl, hw9⟩; obtain rfl := hw9.symm; rw [HMK.out]))
              have HO8 := Lib.hid ((arr_new w4 #[.int .u8 (o.kind.toNat : Int), .int .u8 (o.at'.pid.author.toNat : Int), .int .u16 (o.at'.pid.seq.toNat : Int), .int .u8 (o.at'.n.toNat : Int), .int .u8 (o.to.pid.author.toNat : Int), .int .u16 (o.to.pid.seq.toNat : Int), .int .u8 (o.to.n.toNat : Int), .string o.text] 56).alloc (.cells #[.int .u8 (o.at'.pid.author.toNat : Int), .int .u16 (o.at'.pid.seq.toNat : Int), .int .u8 (o.at'.n.toNat : Int)] 27))
              have HF8 := Lib.hid (arr_new2 w4 (.cells #[.int .u8 (o.kind.toNat : Int), .int .u8 (o.at'.pid.author.toNat : Int), .int .u16 (o.at'.pid.seq.toNat : Int), .int .u8 (o.at'.n.toNat : Int), .int .u8 (o.to.pid.author.toNat : Int), .int .u16 (o.to.pid.seq.toNat : Int), .int .u8 (o.to.n.toNat : Int), .string o.text] 56) #[.int .u8 (o.at'.pid.author.toNat : Int), .int .u16 (o.at'.pid.seq.toNat : Int), .int .u8 (o.at'.n.toNat : Int)] 27)
              have HG8 := Lib.hid ((HG4.out.alloc (.cells #[.int .u8 (o.kind.toNat : Int), .int .u8 (o.at'.pid.author.toNat : Int), .int .u16 (o.at'.pid.seq.toNat : Int), .int .u8 (o.at'.n.toNat : Int), .int .u8 (o.to.pid.author.toNat : Int), .int .u16 (o.to.pid.seq.toNat : Int), .int .u8 (o.to.n.toNat : Int), .string o.text] 56)).alloc (.cells #[.int .u8 (o.at'.pid.author.toNat : Int), .int .u16 (o.at'.pid.seq.toNat : Int), .int .u8 (o.at'.n.toNat : Int)] 27))
              have HQ8 := Lib.hid ((HQ4.out.alloc (.cells #[.int .u8 (o.kind.toNat : Int), .int .u8 (o.at'.pid.author.toNat : Int), .int .u16 (o.at'.pid.seq.toNat : Int), .int .u8 (o.at'.n.toNat : Int), .int .u8 (o.to.pid.author.toNat : Int), .int .u16 (o.to.pid.seq.toNat : Int), .int .u8 (o.to.n.toNat : Int), .string o.text] 56)).alloc (.cells #[.int .u8 (o.at'.pid.author.toNat : Int), .int .u16 (o.at'.pid.seq.toNat : Int), .int .u8 (o.at'.n.toNat : Int)] 27))
              have HR8 := Lib.hid ((HR4.out.alloc (.cells #[.int .u8 (o.kind.toNat : Int), .int .u8 (o.at'.pid.author.toNat : Int), .int .u16 (o.at'.pid.seq.toNat : Int), .int .u8 (o.at'.n.toNat : Int), .int .u8 (o.to.pid.author.toNat : Int), .int .u16 (o.to.pid.seq.toNat : Int), .int .u8 (o.to.n.toNat : Int), .string o.text] 56)).alloc (.cells #[.int .u8 (o.at'.pid.author.toNat : Int), .int .u16 (o.at'.pid.seq.toNat : Int), .int .u8 (o.at'.n.toNat : Int)] 27))
              have HB8 := Lib.hid ((HB4.out.alloc HB4.out.size (.cells #[.int .u8 (o.kind.toNat : Int), .int .u8 (o.at'.pid.author.toNat : Int), .int .u16 (o.at'.pid.seq.toNat : Int), .int .u8 (o.at'.n.toNat : Int), .int .u8 (o.to.pid.author.toNat : Int), .int .u16 (o.to.pid.seq.toNat : Int), .int .u8 (o.to.n.toNat : Int), .string o.text] 56)).alloc (Below.size (HB4.out.alloc HB4.out.size (.cells #[.int .u8 (o.kind.toNat : Int), .int .u8 (o.at'.pid.author.toNat : Int), .int .u16 (o.at'.pid.seq.toNat : Int), .int .u8 (o.at'.n.toNat : Int), .int .u8 (o.to.pid.author.toNat : Int), .int .u16 (o.to.pid.seq.toNat : Int), .int .u8 (o.to.n.toNat : Int), .string o.text] 56))) (.cells #[.int .u8 (o.at'.pid.author.toNat : Int), .int .u16 (o.at'.pid.seq.toNat : Int), .int .u8 (o.at'.n.toNat : Int)] 27))
              have HV8 := Lib.hid (HV.out.over HB8.out)
              have j0 : ¬ w.heap.size = w.heap.size + 1 + 1 := by omega
              have j1 : ¬ w.heap.size + 1 = w.heap.size + 1 + 1 := by omega
              have j2 : ¬ w4.heap.size = w.heap.size + 1 + 1 := by have := HR4.out.lt; omega
              have j4 : ¬ w4.heap.size = w.heap.size + 1 := by have := HR4.out.lt; omega
              have j3 : ¬ w4.heap.size + 1 = w.heap.size + 1 + 1 := by have := HR4.out.lt; omega
              generalize hw8 : (w4.alloc (.cells #[.int .u8 (o.kind.toNat : Int), .int .u8 (o.at'.pid.author.toNat : Int), .int .u16 (o.at'.pid.seq.toNat : Int), .int .u8 (o.at'.n.toNat : Int), .int .u8 (o.to.pid.author.toNat : Int), .int .u16 (o.to.pid.seq.toNat : Int), .int .u8 (o.to.n.toNat : Int), .string o.text] 56)).alloc (.cells #[.int .u8 (o.at'.pid.author.toNat : Int), .int .u16 (o.at'.pid.seq.toNat : Int), .int .u8 (o.at'.n.toNat : Int)] 27) = w8 at *
              clear hw8 p0 p1 p2 p3 sp g0 sg q0 q1 q2 sq o0 o1 o2 o3 o4 o5 o6 o7 so HP4 HG4 HQ4 HR4 HRo HRx
              have o0 := HO8.out.cell (j := 0) rfl
              have o1 := HO8.out.cell (j := 1) rfl
              have o2 := HO8.out.cell (j := 2) rfl
              have o3 := HO8.out.cell (j := 3) rfl
              have o4 := HO8.out.cell (j := 4) rfl
              have o5 := HO8.out.cell (j := 5) rfl
              have o6 := HO8.out.cell (j := 6) rfl
              have o7 := HO8.out.cell (j := 7) rfl
              have so := HO8.out.lt
              have f0 := HF8.out.cell (j := 0) rfl
              have f1 := HF8.out.cell (j := 1) rfl
              have f2 := HF8.out.cell (j := 2) rfl
              have sf := HF8.out.lt
              have g0 := HG8.out.cell (j := 0) rfl
              have sg := HG8.out.lt
              have q0 := HQ8.out.cell (j := 0) rfl
              have q1 := HQ8.out.cell (j := 1) rfl
              have q2 := HQ8.out.cell (j := 2) rfl
              have sq := HQ8.out.lt
              have hcur : World.grownBy w8 w8.drew (some (w.heap.size + 1 + 1)) := ⟨rfl, rfl, rfl, Nat.le_refl _, fun _ _ _ => rfl⟩
              refine wp_region_lex (C := IsKept w8 (some (w.heap.size + 1 + 1))) 12 [] (by kernel_rfl) (by kernel_rfl) (isKept_of hcur) ?_
              simp only [List.take_succ_cons, List.take_zero, List.drop_succ_cons, List.drop_zero]
              repeat (first | (refine lex_skip rfl rfl ?_; simp only [Act.put, List.setIfInBounds_toArray, List.set_cons_succ, List.set_cons_zero]) | (refine lex_one rfl ?_; go_big_quiet_step (fail); refine wpQuiet_nil ?_) | (refine lex_loud rfl ?_; go_wp2_with (first | (go_at_call 83; (with_reducible refine (rdead20_any _ xs v _ (HV8.out.over (Below.refl _ _).drew)).mono ?_); rintro e w9 ⟨rfl, hb⟩; rw [HD.out]; replace hcur := grown_trans hcur (grown_of_below hb); have HR9 := Lib.hid (HR8.out.drew.over hb); have HB9 := Lib.hid (below_over HB8.out.drew (Below.size HB8.out.drew) hb); clear hb)); refine ⟨isKept_of (by first | exact hcur | exact only_alloc hcur _), ?_⟩))
              refine lex_loud rfl ?_
              refine wpList_store_arr rowVert rfl _ _ rfl _ _ [.int .u8 (v.pid.author.toNat : Int), .int .u16 (v.pid.seq.toNat : Int), .int .u8 (v.n.toNat : Int), .int .u8 (o.kind.toNat : Int), .int .u8 (o.at'.pid.author.toNat : Int), .int .u16 (o.at'.pid.seq.toNat : Int), .int .u8 (o.at'.n.toNat : Int), .string o.text, .bool d] HR9.out rfl rfl rfl rfl rfl ?_
              go_step
              refine ⟨rfl, isKept_of (grown_trans hcur (grown_row _)), ?_⟩
              simp only [Act.put, List.setIfInBounds_toArray, List.set_cons_succ, List.set_cons_zero]
              refine lex_one rfl ?_
              go_big_quiet_step (fail)
              refine wpQuiet_nil ?_
              refine lex_end ?_
              clear hcur
              go_wp2_with fail
              exact bodyPost_ret (v := .tuple #[vertV ⟨v, o.kind, o.at', o.text, d⟩, .bool true]) (results_arr_slot rowVert rfl (HR9.out.row [.int .u8 (v.pid.author.toNat : Int), .int .u16 (v.pid.seq.toNat : Int), .int .u8 (v.n.toNat : Int), .int .u8 (o.kind.toNat : Int), .int .u8 (o.at'.pid.author.toNat : Int), .int .u16 (o.at'.pid.seq.toNat : Int), .int .u8 (o.at'.n.toNat : Int), .string o.text, .bool d]) rfl rfl rfl) rfl (vertRes_of HY.out rfl rfl (below_setRow HB9.out (by omega) _))
        · have e2 : decide (x.p.ops.length ≤ v.n.toNat) = true := by simp; omega
          have HN := Lib.hid (any_step HM.out HX.out (isSome_none' (made_out hn)))
          clear hp' hn
          go_wp2_with fail
          go_roundw
          case rel => exact ⟨k + 1, hlt, by go_num, HN, hb4⟩
          case measure => simp [intOf]; omega
      · have e1 := neq_pid x.p.id v.pid true (by simp [hp'])
        unfold pidV at e1
        have HN := Lib.hid (any_step HM.out HX.out (isSome_none' (made_far hp')))
        clear hp'
        go_wp2_with fail
        go_roundw
        case rel => exact ⟨k + 1, hlt, by go_num, HN, hb4⟩
        case measure => simp [intOf]; omega
    · obtain rfl : k = xs.length := by omega
      have hn := HM.out
      rw [List.take_length] at hn
      have HK := Lib.hid (vert_none ((vertOp_any xs v).trans (find_no hn)))
      clear HM hn
      go_wp2_with (first | ((with_reducible show wpList _ _ _ ({ dst := _, op := .store _ _ _, type := _, pos := _, after := _, guard := _ } :: _) _ _); refine wpList_store_arr rowVert rfl _ _ rfl _ _ (encVert noVert) HRr.out rfl rfl rfl rfl rfl ?_))
      exact bodyPost_ret (v := .tuple #[vertV noVert, .bool false]) (results_arr_slot rowVert rfl (HRr.out.row (encVert noVert)) rfl rfl rfl) rfl (vertRes_of HK.out rfl rfl (below_setRow HBr.out (by omega) _))
end Go.Proofs.YtfciedmmgddgpaaGreatDoor
