/- Contracts of a sheet's Len, Rel, Vert, Order, Alive, Firm. Contracts of edit.firm, texts. Contract of edit.keeps. Contract of edit.kills. Contracts of slices.IndexFunc and DeleteFunc at vertices, names.Of. Contract of edit.Ops. Contracts of law27.Ops, few. How much a few patches make: what EditKeeps wants, too. Contract of patch.Make, of a patch that may be. The example of layer 27, plain. -/
import Derived.Test.YtllcipobiengiaaGreatZLinB
import Derived.Test.YtllcipobiengiaaGreatZRefP
namespace Go.Proofs.YtllcipobiengiaaGreat
open Go Go.RowKit

/-- the sheet's block, and what it leads to -/
structure ShLook (w : World) (s : Nat) (l : List VertM) (R : List (Nat × Nat)) (lp : Option Addr) (lc r : Nat) (op : Option Addr) (oc : Nat) : Prop where
  arr : Arr w s [.slice lp l.length lc, .pointer (some ⟨r, 0, none⟩), .slice op l.length oc]
  row : GRow encVert 9 w (.slice lp l.length lc) l
  rel : RelAt w r l.length R
  ord : GRow encI 1 w (.slice op l.length oc) (orderM R l.length)
theorem ShAt.look {w : World} {s : Nat} {l : List VertM} {R : List (Nat × Nat)} (h : ShAt w s l R) : ∃ lp lc r op oc, ShLook w s l R lp lc r op oc := by
  obtain ⟨lp, lc, r, op, oc, h1, h2, h3, h4⟩ := h
  exact ⟨lp, lc, r, op, oc, h1, h2, h3, h4⟩
theorem ShLook.over {w w' : World} {s : Nat} {l : List VertM} {R : List (Nat × Nat)} {lp op : Option Addr} {lc r oc : Nat} (h : ShLook w s l R lp lc r op oc) (hb : Below w.heap.size w w') : ShLook w' s l R lp lc r op oc := ⟨h.arr.over hb, h.row.over hb, h.rel.over hb, h.ord.over hb⟩
attribute [local irreducible] orderM
set_option maxHeartbeats 8000000 in
set_option maxRecDepth 100000 in
theorem slen_any (s : Nat) (l : List VertM) (R : List (Nat × Nat)) (w : World) (h : ShAt w s l R) : Calls Tryz.prog 81 #[.pointer (some ⟨s, 0, none⟩)] w fun e w' => e = .returned (.int .i64 (l.length : Int)) ∧ w' = w := by
  obtain ⟨lp, lc, r, op, oc, hL⟩ := h.look
  have s0 := hL.arr.cell (j := 0) rfl
  have ss := hL.arr.lt
  clear h hL
  go_enter Tryz.func81, Tryz.ntmps81
  go_wp2_with fail
  go_ret
  exact ⟨rfl, rfl⟩
set_option maxHeartbeats 8000000 in
set_option maxRecDepth 100000 in
theorem srel_any (s : Nat) (l : List VertM) (R : List (Nat × Nat)) (w : World) (h : ShAt w s l R) : Calls Tryz.prog 43 #[.pointer (some ⟨s, 0, none⟩)] w fun e w' => (∃ r, e = .returned (.pointer (some ⟨r, 0, none⟩)) ∧ RelAt w r l.length R) ∧ w' = w := by
  obtain ⟨lp, lc, r, op, oc, hL⟩ := h.look
  have s1 := hL.arr.cell (j := 1) rfl
  have ss := hL.arr.lt
  have HR := Lib.hid hL.rel
  clear h hL
  go_enter Tryz.func43, Tryz.ntmps43
  go_wp2_with fail
  go_ret
  exact ⟨⟨r, rfl, HR.out⟩, rfl⟩
def SvRes (w : World) (x : VertM) (e : Ending) (w' : World) : Prop := e = .returned (.tuple #[vertV x, .bool true]) ∧ Below w.heap.size w w'
theorem svres_mk {w w' : World} {x : VertM} (h : Below w.heap.size w w') : SvRes w x (.returned (.tuple #[vertV x, .bool true])) w' := ⟨rfl, h⟩
set_option maxHeartbeats 8000000 in
set_option maxRecDepth 100000 in
theorem svert_any (s i : Nat) (x : VertM) (l : List VertM) (R : List (Nat × Nat)) (w : World) (h : ShAt w s l R) (hx : l[i]? = some x) : Calls Tryz.prog 35 #[.pointer (some ⟨s, 0, none⟩), .int .i64 (i : Int)] w (SvRes w x) := by
  have hi := (List.getElem?_eq_some_iff.1 hx).1
  have HH := Lib.hid (h.over (below_new (w := w) (.cells #[.int .u8 0, .int .u16 0, .int .u8 0, .int .u8 0, .int .u8 0, .int .u16 0, .int .u8 0, .string ⟨#[]⟩, .bool false] 88)))
  have HR := Lib.hid (arr_new w #[.int .u8 0, .int .u16 0, .int .u8 0, .int .u8 0, .int .u8 0, .int .u16 0, .int .u8 0, .string ⟨#[]⟩, .bool false] 88)
  have HB := Lib.hid (below_new (w := w) (.cells #[.int .u8 0, .int .u16 0, .int .u8 0, .int .u8 0, .int .u8 0, .int .u16 0, .int .u8 0, .string ⟨#[]⟩, .bool false] 88))
  have d1 : decide ((l.length : Int) ≤ (i : Int)) = false := by simp; omega
  have d2 : decide (l.length ≤ i) = false := by simp; omega
  have HX := Lib.hid hx
  clear h hx
  go_enter Tryz.func35, Tryz.ntmps35
  go_upto_region 1 with (fail)
  generalize hw0 : w.alloc (.cells #[.int .u8 0, .int .u16 0, .int .u8 0, .int .u8 0, .int .u8 0, .int .u16 0, .int .u8 0, .string ⟨#[]⟩, .bool false] 88) = w0 at *
  clear hw0
  go_wp2_with fail
  refine (slen_any s l R _ HH.out).mono ?_
  rintro e w1 ⟨rfl, hw⟩
  obtain rfl := hw.symm
  obtain ⟨lp, lc, r, op, oc, hL⟩ := HH.out.look
  have s0 := hL.arr.cell (j := 0) rfl
  have ss := hL.arr.lt
  obtain ⟨a, cap, e1, z1, z2, hc⟩ := hL.row.at encVert_len
  cases e1
  obtain ⟨b, off, rfl, sb, hcb⟩ := hc.resolve_left (by omega)
  have HRx := Lib.hid (hcb i x HX.out w0 (Below.refl _ _))
  have x0 : w0.cell? ⟨b, off + i * 9, none⟩ = some (.int .u8 (x.id.pid.author.toNat : Int)) := (HRx.out).2 0 _ rfl
  have x1 : w0.cell? ⟨b, off + i * 9 + 1, none⟩ = some (.int .u16 (x.id.pid.seq.toNat : Int)) := (HRx.out).2 1 _ rfl
  have x2 : w0.cell? ⟨b, off + i * 9 + 2, none⟩ = some (.int .u8 (x.id.n.toNat : Int)) := (HRx.out).2 2 _ rfl
  have x3 : w0.cell? ⟨b, off + i * 9 + 3, none⟩ = some (.int .u8 (x.kind.toNat : Int)) := (HRx.out).2 3 _ rfl
  have x4 : w0.cell? ⟨b, off + i * 9 + 4, none⟩ = some (.int .u8 (x.file.pid.author.toNat : Int)) := (HRx.out).2 4 _ rfl
  have x5 : w0.cell? ⟨b, off + i * 9 + 5, none⟩ = some (.int .u16 (x.file.pid.seq.toNat : Int)) := (HRx.out).2 5 _ rfl
  have x6 : w0.cell? ⟨b, off + i * 9 + 6, none⟩ = some (.int .u8 (x.file.n.toNat : Int)) := (HRx.out).2 6 _ rfl
  have x7 : w0.cell? ⟨b, off + i * 9 + 7, none⟩ = some (.string x.text) := (HRx.out).2 7 _ rfl
  have x8 : w0.cell? ⟨b, off + i * 9 + 8, none⟩ = some (.bool x.dead) := (HRx.out).2 8 _ rfl
  have sx := HRx.out.1
  unfold maxLen at z2
  clear hcb hc hL
  go_wp2_with ((with_reducible show wpList _ _ _ ({ dst := _, op := .store _ _ _, type := _, pos := _, after := _, guard := _ } :: _) _ _); refine wpList_store_arr rowVert rfl _ _ rfl _ _ (encVert x) HR.out rfl rfl rfl rfl rfl ?_)
  exact bodyPost_ret (v := .tuple #[vertV x, .bool true]) (results_arr_slot rowVert rfl (HR.out.row (encVert x)) rfl rfl rfl) rfl (svres_mk (below_setRow HB.out (Nat.le_refl _) _))

/-! ### rows of numbers -/
set_option maxHeartbeats 8000000 in
set_option maxRecDepth 100000 in
theorem iclone_any (v : Value) (xs : List Nat) (w : World) (hv : GRow encI 1 w v xs) (hl : xs.length ≤ 1000000) : Calls Tryz.prog 125 #[v] w (OwnRes encI 1 3 w xs) := by
  obtain ⟨a, cap, rfl, h1, h2, hc⟩ := irow_at hv
  unfold maxLen at h2
  cases a with
  | none =>
    have h0 : xs = [] := by
      rcases hc with h0 | ⟨b, off, e, _⟩
      · exact List.eq_nil_of_length_eq_zero h0
      · cases e
    have HX := Lib.hid h0
    have hl0 : xs.length = 0 := by rw [h0]; rfl
    have hkn := fun w => Lib.run_eql_slice_nil (P := Tryz.prog) w 85 3 none 0 cap 0 0 Tryz.underlying85
    clear hv hc h0
    go_enter Tryz.func125, Tryz.ntmps125
    go_wp2_with fail
    go_ret
    exact ⟨_, rfl, (by rw [HX.out]; exact gown_nil _ _), Below.refl _ _⟩
  | some p =>
    have HV := Lib.hid hv
    have hN : 0 + xs.length ≤ 1099511627776 := by omega
    have hkn := fun w => Lib.run_eql_slice_nil (P := Tryz.prog) w 85 3 (some p) xs.length cap 0 0 Tryz.underlying85
    clear hv hc
    go_enter Tryz.func125, Tryz.ntmps125
    go_wp2_with (at_builtin; refine wpList_append_old slIntI rfl _ _ rfl w.heap.size (.slice (some ⟨w.heap.size, 0, none⟩) 0 0) 0 [] (own_lit0 w _ 1 w.heap.size (Nat.le_refl _)) rfl (.slice (some p) xs.length cap) xs.length (xs.flatMap encI) (HV.out.over (below_new _)) rfl (oneInts xs) hN (by decide) (by simp) ?_; intro v9 w9 ho9 hg9; have HO9 := Lib.hid (show GOwn encI 1 3 w9 w.heap.size v9 xs by (have := ho9; rw [Nat.zero_add, List.nil_append] at this; exact this)); have HB9 := Lib.hid (below_grown (below_new (w := w) (.cells #[] 3)) (by simp) (own_lit0 w 3 1 w.heap.size (Nat.le_refl _)) hg9); clear ho9 hg9)
    go_ret
    exact ⟨_, rfl, HO9.out, HB9.out⟩
set_option maxHeartbeats 8000000 in
set_option maxRecDepth 100000 in
theorem sorder_any (s : Nat) (l : List VertM) (R : List (Nat × Nat)) (w : World) (h : ShAt w s l R) (hl : l.length ≤ 65536) : Calls Tryz.prog 79 #[.pointer (some ⟨s, 0, none⟩)] w (OwnRes encI 1 3 w (orderM R l.length)) := by
  obtain ⟨lp, lc, r, op, oc, hL⟩ := h.look
  have s2 := hL.arr.cell (j := 2) rfl
  have ss := hL.arr.lt
  have HO := Lib.hid hL.ord
  have hol : (orderM R l.length).length ≤ 1000000 := by rw [orderM_len]; omega
  clear h hL
  go_enter Tryz.func79, Tryz.ntmps79
  go_wp2_with fail
  refine (iclone_any _ _ _ HO.out hol).mono ?_
  rintro e w1 ⟨v, rfl, ho, hb⟩
  have HO1 := Lib.hid ho
  have HB1 := Lib.hid hb
  clear ho hb
  go_wp2_with fail
  go_ret
  exact ⟨_, rfl, HO1.out, HB1.out⟩

/-! ### what is alive -/
def deadQL (l : List VertM) (i : Nat) : Bool := deadLine l i
def aliveQL (l : List VertM) (i : Nat) : Bool := !deadLine l i
theorem deadQL_at {l : List VertM} {i : Nat} {x : VertM} (h : l[i]? = some x) : deadQL l i = x.dead := by unfold deadQL deadLine; rw [h]
def keptI (l : List VertM) (xs : List Nat) (j : Nat) : List Nat := (xs.take j).filter (aliveQL l)
theorem keptI_yes {l : List VertM} {xs : List Nat} {j u : Nat} (h : xs[j]? = some u) (hd : deadQL l u = false) : keptI l xs (j + 1) = keptI l xs j ++ [u] := by
  unfold keptI; rw [take_one h, List.filter_append]
  unfold deadQL at hd; simp [aliveQL, hd]
theorem keptI_no {l : List VertM} {xs : List Nat} {j u : Nat} (h : xs[j]? = some u) (hd : deadQL l u = true) : keptI l xs (j + 1) = keptI l xs j := by
  unfold keptI; rw [take_one h, List.filter_append]
  unfold deadQL at hd; simp [aliveQL, hd]
theorem keptI_all (l : List VertM) (xs : List Nat) : keptI l xs xs.length = xs.filter (aliveQL l) := by unfold keptI; rw [List.take_length]
theorem idxI_cases (l : List VertM) (xs : List Nat) : (idxB (deadQL l) xs = -1 ∧ xs.filter (aliveQL l) = xs) ∨ ∃ k u, k < xs.length ∧ idxB (deadQL l) xs = (k : Int) ∧ xs[k]? = some u ∧ deadQL l u = true ∧ keptI l xs k = xs.take k := by
  unfold idxB
  cases h : xs.findIdx? (deadQL l) with
  | none =>
    rw [List.findIdx?_eq_none_iff] at h
    exact .inl ⟨rfl, List.filter_eq_self.2 fun x hx => by have := h x hx; unfold deadQL at this; simp [aliveQL, this]⟩
  | some k =>
    rw [List.findIdx?_eq_some_iff_getElem] at h
    obtain ⟨hk, h1, h2⟩ := h
    refine .inr ⟨k, xs[k], hk, rfl, List.getElem?_eq_getElem hk, h1, ?_⟩
    unfold keptI
    refine List.filter_eq_self.2 fun x hx => ?_
    obtain ⟨j, hj, rfl⟩ := List.mem_iff_getElem.1 hx
    rw [List.length_take] at hj
    rw [List.getElem_take]
    have := h2 j (by omega)
    unfold deadQL at this
    simp [aliveQL]; simpa using this
theorem ints_map (xs : List Nat) : xs.flatMap encI = xs.map fun x : Nat => Value.int .i64 (x : Int) := by
  induction xs with
  | nil => rfl
  | cons x xs ih => rw [List.flatMap_cons, ih]; rfl
theorem ints_set (xs : List Nat) (k x : Nat) : (xs.flatMap encI).set k (.int .i64 (x : Int)) = (xs.set k x).flatMap encI := by rw [ints_map, ints_map, List.map_set]
theorem ints_len (xs : List Nat) : (xs.flatMap encI).length = xs.length := by rw [ints_map, List.length_map]
theorem ints_get {xs : List Nat} {k x : Nat} (h : xs[k]? = some x) : (xs.flatMap encI)[k]? = some (.int .i64 (x : Int)) := by rw [ints_map, List.getElem?_map, h]; rfl
attribute [local irreducible] idxB deadQL aliveQL keptI
set_option maxHeartbeats 8000000 in
set_option maxRecDepth 100000 in
theorem aliveFn_any (c s i : Nat) (x : VertM) (l : List VertM) (R : List (Nat × Nat)) (w : World) (hc : Arr w c [.pointer (some ⟨s, 0, none⟩)]) (h : ShAt w s l R) (hx : l[i]? = some x) :
    Calls Tryz.prog 80 #[.int .i64 (i : Int), .pointer (some ⟨c, 0, none⟩)] w fun e w' => e = .returned (.bool (deadQL l i)) ∧ w' = w := by
  have hi := (List.getElem?_eq_some_iff.1 hx).1
  have HV := Lib.hid (deadQL_at hx)
  obtain ⟨lp, lc, r, op, oc, hL⟩ := h.look
  have c0 := hc.cell (j := 0) rfl
  have sc := hc.lt
  have s0 := hL.arr.cell (j := 0) rfl
  have ss := hL.arr.lt
  obtain ⟨a, cap, e1, z1, z2, hcl⟩ := hL.row.at encVert_len
  cases e1
  obtain ⟨b, off, rfl, sb, hcb⟩ := hcl.resolve_left (by omega)
  unfold maxLen at z2
  have x8 : w.cell? ⟨b, off + i * 9 + 8, none⟩ = some (.bool x.dead) := (hcb i x hx w (Below.refl _ _)).2 8 _ rfl
  clear h hL hcl hcb hx hc
  go_enter Tryz.func80, Tryz.ntmps80
  go_wp2_with fail
  go_ret
  exact ⟨ret_val (congrArg Value.bool HV.out.symm), rfl⟩
set_option maxHeartbeats 8000000 in
set_option maxRecDepth 100000 in
theorem idxAl_any (v : Value) (xs : List Nat) (c s : Nat) (l : List VertM) (R : List (Nat × Nat)) (w : World) (hv : GRow encI 1 w v xs) (hc : Arr w c [.pointer (some ⟨s, 0, none⟩)]) (h : ShAt w s l R) (hx : ∀ i ∈ xs, i < l.length) :
    Calls Tryz.prog 124 #[v, .func (.func 80) #[] #[.pointer (some ⟨c, 0, none⟩)]] w fun e w' => e = .returned (.int .i64 (idxB (deadQL l) xs)) ∧ w' = w := by
  obtain ⟨a, cap, rfl, h1, h2, hcr⟩ := irow_at hv
  unfold maxLen at h2
  have HC := Lib.hid hcr
  have HS := Lib.hid h
  have HA := Lib.hid hc
  have HX := Lib.hid hx
  clear hv hcr h hc hx
  go_enter Tryz.func124, Tryz.ntmps124
  go_wp2_with fail
  go_loopw [8] (fun v8 wr => ∃ k : Nat, k ≤ xs.length ∧ v8 = .int .i64 k ∧ Hid ((xs.take k).any (deadQL l) = false) ∧ wr = w) (fun v8 _ => xs.length - (intOf v8).toNat)
  case atStart => exact ⟨0, by omega, rfl, (by show _ = _; simp), rfl⟩
  case round =>
    obtain ⟨k, hk, rfl, HK, hw⟩ := hrel
    obtain rfl := hw
    by_cases hlt : k < xs.length
    · obtain ⟨b, off, rfl, sb, hcb⟩ := HC.out.resolve_left (by omega)
      obtain ⟨u, hu⟩ := get_of_lt hlt
      have u0 := (hcb k u hu _ (Below.refl _ _)).2
      have HU := Lib.hid hu
      obtain ⟨x, hxu⟩ := get_of_lt (HX.out u (List.mem_of_getElem? hu))
      have HXu := Lib.hid hxu
      clear hcb hu hxu
      cases hf : deadQL l u with
      | true =>
        have HI := Lib.hid (idx_hit HK.out HU.out (f := deadQL l) hf)
        have HV := Lib.hid hf
        clear hf
        go_wp2_with fail
        refine (aliveFn_any c s u x l R _ HA.out HS.out HXu.out).mono ?_
        rintro e w1 ⟨rfl, hw⟩
        obtain rfl := hw.symm
        rw [HV.out]
        go_wp2_with fail
        go_ret
        exact ⟨ret_int HI.out.symm, rfl⟩
      | false =>
        have HI := Lib.hid (any_step HK.out HU.out (f := deadQL l) hf)
        have HV := Lib.hid hf
        clear hf
        go_wp2_with fail
        refine (aliveFn_any c s u x l R _ HA.out HS.out HXu.out).mono ?_
        rintro e w1 ⟨rfl, hw⟩
        obtain rfl := hw.symm
        rw [HV.out]
        go_wp2_with fail
        go_roundw
        case rel => exact ⟨k + 1, hlt, by go_num, HI, (by first | exact rfl | trivial)⟩
        case measure => simp [intOf]; omega
    · obtain rfl : k = xs.length := by omega
      have HI := Lib.hid (idx_miss HK.out)
      go_wp2_with fail
      go_ret
      exact ⟨ret_int HI.out.symm, rfl⟩
def DelIRes (w : World) (B : Nat) (v : Value) (l : List VertM) (xs : List Nat) (e : Ending) (w' : World) : Prop := ∃ v', e = .returned v' ∧ GOwn encI 1 3 w' B v' (xs.filter (aliveQL l)) ∧ w.grownBy w' v.ownBlock
def DelIRel (w : World) (B g cap : Nat) (l : List VertM) (xs : List Nat) (v5 v6 : Value) (wr : World) : Prop :=
  ∃ (m j : Nat) (zs : List Nat), j ≤ xs.length ∧ m < j ∧ v5 = .int .i64 (m : Int) ∧ v6 = .int .i64 (j : Int) ∧ zs.length = xs.length ∧ Hid (zs.take m = keptI l xs j) ∧ Hid (∀ i, j ≤ i → zs[i]? = xs[i]?) ∧
    Hid (OwnAt wr B 3 1 g xs.length cap (zs.flatMap encI)) ∧ Hid (w.grownBy wr (some g))
theorem zero_intI : ((Tryz.prog.info? 3).bind (·.zero)) = some (.int .i64 0) := by kernel_rfl
set_option maxHeartbeats 8000000 in
set_option maxRecDepth 100000 in
theorem delAl_any {w : World} {B : Nat} {v : Value} {xs : List Nat} (c s : Nat) (l : List VertM) (R : List (Nat × Nat)) (h : GOwn encI 1 3 w B v xs) (hn : xs.length ≤ 1000000) (hc : Arr w c [.pointer (some ⟨s, 0, none⟩)]) (hS : ShAt w s l R) (hx : ∀ i ∈ xs, i < l.length)
    (hne : ∀ w', w.grownBy w' v.ownBlock → Arr w' c [.pointer (some ⟨s, 0, none⟩)] ∧ ShAt w' s l R) :
    Calls Tryz.prog 78 #[v, .func (.func 80) #[] #[.pointer (some ⟨c, 0, none⟩)]] w (DelIRes w B v l xs) := by
  have HO := Lib.hid h
  have hcon := idxAl_any v xs c s l R w h.row hc hS hx
  have HX := Lib.hid hx
  have HNE := Lib.hid hne
  rcases idxI_cases l xs with ⟨hi, hf⟩ | ⟨k0, u0, hk0, hi, hu0, hd0, hkp⟩
  · rw [hi] at hcon
    have HF := Lib.hid hf
    clear h hi hf hc hS hx hne
    go_enter Tryz.func78, Tryz.ntmps78
    go_wp2_with fail
    refine hcon.mono ?_
    rintro e w1 ⟨rfl, hw⟩
    obtain rfl := hw.symm
    clear hcon
    go_wp2_with fail
    go_ret
    exact ⟨_, rfl, (by rw [HF.out]; exact HO.out), World.grownBy.refl _ _⟩
  · rw [hi] at hcon
    obtain ⟨g, cap, rfl, hA⟩ := own_at (show World.ownsRow _ _ _ _ _ _ _ from h) (by omega)
    have HA := Lib.hid hA
    have hnc := hA.nc
    have hcm := hA.cm
    unfold maxLen at hcm
    have hg := hA.lt
    have HK0 : Hid (xs.take k0 = keptI l xs (k0 + 1)) := by show _ = _; rw [keptI_no hu0 hd0, hkp]
    clear h hi hA hu0 hd0 hkp hc hS hx hne
    go_enter Tryz.func78, Tryz.ntmps78
    go_wp2_with fail
    refine hcon.mono ?_
    rintro e w1 ⟨rfl, hw⟩
    obtain rfl := hw.symm
    have d0 : ((k0 : Int) == -1) = false := by simp <;> omega
    clear hcon
    go_wp2_with fail
    go_loopw [5, 6] (fun v5 v6 wr => DelIRel w B g cap l xs v5 v6 wr) (fun _ v6 _ => xs.length - (intOf v6).toNat)
    case atStart => exact ⟨k0, k0 + 1, xs, hk0, Nat.lt_succ_self _, rfl, by go_num, rfl, HK0, Lib.hid (fun _ _ => rfl), HA, World.grownBy.refl _ _⟩
    case round =>
      obtain ⟨m, j, zs, hj, hm, rfl, rfl, hz, HT, HJ, HI, HG⟩ := hrel
      rename World => wr
      have sI := HI.out.lt
      have HNr := Lib.hid (HNE.out wr HG.out)
      by_cases hlt : j < xs.length
      · obtain ⟨u, hu⟩ := get_of_lt hlt
        have hu2 : zs[j]? = some u := (HJ.out j (Nat.le_refl _)).trans hu
        have HU := Lib.hid hu
        have u0 : wr.cell? ⟨g, j, none⟩ = some (.int .i64 (u : Int)) := HI.out.cell (ints_get hu2)
        obtain ⟨x, hxu⟩ := get_of_lt (HX.out u (List.mem_of_getElem? hu))
        have HXu := Lib.hid hxu
        clear hu hu2 hxu
        cases hf : deadQL l u with
        | true =>
          have HV := Lib.hid hf
          have HK := Lib.hid (keptI_no HU.out hf)
          clear hf
          go_wp2_with fail
          refine (aliveFn_any c s u x l R _ HNr.out.1 HNr.out.2 HXu.out).mono ?_
          rintro e w8 ⟨rfl, hw⟩
          obtain rfl := hw.symm
          rw [HV.out]
          go_wp2_with fail
          go_roundw
          case rel => exact ⟨m, j + 1, zs, hlt, by omega, rfl, by go_num, hz, (by show _ = _; rw [HK.out]; exact HT.out), Lib.hid (fun i hi => HJ.out i (by omega)), HI, HG⟩
          case measure => simp [intOf]; omega
        | false =>
          have HV := Lib.hid hf
          have HK := Lib.hid (keptI_yes HU.out hf)
          have hml : m < zs.length := by omega
          obtain ⟨y, hy⟩ := get_of_lt hml
          have m0 : wr.cell? ⟨g, m, none⟩ = some (.int .i64 (y : Int)) := HI.out.cell (ints_get hy)
          have mf := HI.out.free m
          clear hf hy
          go_wp2_with fail
          refine (aliveFn_any c s u x l R _ HNr.out.1 HNr.out.2 HXu.out).mono ?_
          rintro e w8 ⟨rfl, hw⟩
          obtain rfl := hw.symm
          rw [HV.out]
          go_wp2_with fail
          go_roundw
          case rel => exact ⟨m + 1, j + 1, zs.set m u, hlt, by omega, by go_num, by go_num, by simpa using hz, (by show _ = _; rw [take_set_end hml, HK.out, HT.out]), Lib.hid (fun i hi => by rw [List.getElem?_set, if_neg (by omega)]; exact HJ.out i (by omega)), Lib.hid (by rw [← ints_set]; exact HI.out.setCell m (by rw [ints_len]; exact hml) _), Lib.hid (grown_trans HG.out (grown_setCell _ _ _))⟩
          case measure => simp [intOf]; omega
      · obtain rfl : j = xs.length := by omega
        have HE : Hid (zs.take m = xs.filter (aliveQL l)) := by show _ = _; rw [HT.out, keptI_all]
        have hlen : (xs.filter (aliveQL l)).length = m := by rw [← HE.out, List.length_take]; omega
        have HL := Lib.hid hlen
        have HTk := Lib.hid (HI.out.take (k := m) (by omega))
        have hcm2 : ¬ cap = m := by omega
        have HF : Hid ((zs.flatMap encI).take (m * 1) = (xs.filter (aliveQL l)).flatMap encI) := by
          show _ = _
          rw [← HE.out, Nat.mul_one, ints_map, ints_map, List.map_take]
        clear hlen
        go_wp2_with (refine wpList_clear_at slIntI _ zero_intI (zero_one (fun u hu => by simp [Value.cells] at hu; subst hu; rfl)) (fun k => by rw [size_zeroCells]; rfl) rfl _ rfl B g m cap _ HTk.out m _ _ _ (by omega) rfl (Nat.le_refl _) (by omega) ?_; intro w3 hA3 hg3 hs3)
        go_ret
        refine ⟨_, rfl, ?_, grown_trans HG.out hg3⟩
        show World.ownsRow _ _ _ _ _ _ _
        rw [HL.out, ← HF.out]
        exact hA3.own
def SaRes (w : World) (l : List VertM) (R : List (Nat × Nat)) : Ending → World → Prop := OwnRes encI 1 3 w ((orderM R l.length).filter (aliveQL l))
theorem order_lt {R : List (Nat × Nat)} {n i : Nat} (h : i ∈ orderM R n) : i < n := by unfold orderM at h; exact (orderTo_whole R n n).lt i h
set_option maxHeartbeats 8000000 in
set_option maxRecDepth 100000 in
theorem salive_any (s : Nat) (l : List VertM) (R : List (Nat × Nat)) (w : World) (h : ShAt w s l R) (hl : l.length ≤ 65536) : Calls Tryz.prog 34 #[.pointer (some ⟨s, 0, none⟩)] w (SaRes w l R) := by
  have HS := Lib.hid (h.over (below_new (w := w) (.cells #[.pointer (some ⟨s, 0, none⟩)] 44)))
  have HC := Lib.hid (arrT_new w [.pointer (some ⟨s, 0, none⟩)] 44)
  have HB := Lib.hid (below_new (w := w) (.cells #[.pointer (some ⟨s, 0, none⟩)] 44))
  have hC := HC.out
  have HC2 := Lib.hid (show Arr (w.alloc (.cells #[.pointer (some ⟨s, 0, none⟩)] 44)) w.heap.size [.pointer (some ⟨s, 0, none⟩)] from hC.arr)
  clear h hC HC
  go_enter Tryz.func34, Tryz.ntmps34
  go_upto_region 1 with (fail)
  generalize hw0 : w.alloc (.cells #[.pointer (some ⟨s, 0, none⟩)] 44) = w0 at *
  clear hw0
  have c0 := HC2.out.cell (j := 0) rfl
  have sc := HC2.out.lt
  go_wp2_with fail
  refine (sorder_any s l R _ HS.out hl).mono ?_
  rintro e w1 ⟨v, rfl, ho, hb⟩
  have HO := Lib.hid ho
  have HB1 := Lib.hid hb
  have hol : (orderM R l.length).length ≤ 1000000 := by rw [orderM_len]; omega
  have hbk : ∀ k, v.ownBlock = some k → w0.heap.size ≤ k := fun k hk => gown_low ho hk
  have HBK := Lib.hid hbk
  clear ho hb c0 sc hbk
  go_wp2_with fail
  refine (delAl_any w.heap.size s l R HO.out hol (HC2.out.over HB1.out) (HS.out.over HB1.out) (fun i hi => order_lt hi) (fun w' hg => ?_)).mono ?_
  · have hb2 : Below w0.heap.size w0 w' := HB1.out.grown hg HB1.out.size HBK.out
    exact ⟨HC2.out.over hb2, HS.out.over hb2⟩
  · rintro e w2 ⟨v', rfl, ho2, hg2⟩
    have HO2 := Lib.hid (ho2.base HB.out.size)
    have HB2 := Lib.hid (below_over HB.out HB.out.size (HB1.out.grown hg2 HB1.out.size HBK.out))
    clear ho2 hg2
    go_wp2_with fail
    go_ret
    exact ⟨_, rfl, HO2.out, HB2.out⟩

/-! ### which line is alike no other one -/
open Classical in
noncomputable def firmB (R : List (Nat × Nat)) (n i : Nat) : Bool := decide (FirmP R n i)
attribute [local irreducible] firmB
end Go.Proofs.YtllcipobiengiaaGreat
namespace Go.Proofs.YtllcipobiengiaaGreat
open Go Go.RowKit

noncomputable def aliveX (l : List VertM) (R : List (Nat × Nat)) : List Nat := (orderM R l.length).filter (aliveQL l)
theorem aliveX_lt {l : List VertM} {R : List (Nat × Nat)} {i : Nat} (h : i ∈ aliveX l R) : i < l.length := order_lt (List.mem_filter.1 h).1
theorem aliveX_len (l : List VertM) (R : List (Nat × Nat)) : (aliveX l R).length ≤ l.length := by
  have := List.length_filter_le (aliveQL l) (orderM R l.length)
  rw [orderM_len] at this; exact this
noncomputable def firmTo (l : List VertM) (R : List (Nat × Nat)) (k : Nat) : List Nat := ((aliveX l R).take k).filter (firmB R l.length)
theorem sares_is (w : World) (l : List VertM) (R : List (Nat × Nat)) : SaRes w l R = OwnRes encI 1 3 w (aliveX l R) := rfl
attribute [local irreducible] aliveX firmTo firmB
/-! ### the texts of lines -/
def encS1 (t : ByteArray) : List Value := [.string t]
theorem encS1_len (t : ByteArray) : (encS1 t).length = 1 := rfl
theorem slStrE : SlT Tryz.prog 23 9 1 16 := slT_of Tryz.underlying23 (by kernel_rfl) (by decide)
theorem srow_of {w : World} {v : Value} {xs : List ByteArray} (h : GRow encS1 1 w v xs) : SRow w v xs := by
  have e : xs.flatMap encS1 = xs.map Value.string := by
    clear h
    induction xs with
    | nil => rfl
    | cons x xs ih => rw [List.flatMap_cons, ih]; rfl
  unfold GRow at h
  rw [e] at h; exact h
def textAt (l : List VertM) (i : Nat) : ByteArray := (l.getD i noVert).text
theorem textAt_get {l : List VertM} {i : Nat} {x : VertM} (h : l[i]? = some x) : textAt l i = x.text := by unfold textAt; rw [getD_of h]
def textsTo (l : List VertM) (is' : List Nat) (k : Nat) : List ByteArray := (is'.take k).map (textAt l)
theorem textsTo_zero (l : List VertM) (is' : List Nat) : textsTo l is' 0 = [] := rfl
theorem textsTo_succ {l : List VertM} {is' : List Nat} {k i : Nat} (h : is'[k]? = some i) : textsTo l is' (k + 1) = textsTo l is' k ++ [textAt l i] := by unfold textsTo; rw [take_one h, List.map_append]; rfl
theorem textsTo_all (l : List VertM) (is' : List Nat) : textsTo l is' is'.length = is'.map (textAt l) := by unfold textsTo; rw [List.take_length]
theorem textsTo_len (l : List VertM) (is' : List Nat) (k : Nat) : (textsTo l is' k).length ≤ is'.length := by unfold textsTo; rw [List.length_map, List.length_take]; omega
def TxRel (w : World) (l : List VertM) (is' : List Nat) (v5 v12 : Value) (wr : World) : Prop := ∃ k : Nat, k ≤ is'.length ∧ v12 = .int .i64 (k : Int) ∧ Hid (GOwn encS1 1 9 wr w.heap.size v5 (textsTo l is' k)) ∧ Hid (Below w.heap.size w wr)
attribute [local irreducible] textAt textsTo
end Go.Proofs.YtllcipobiengiaaGreat
namespace Go.Proofs.YtllcipobiengiaaGreat
open Go Go.RowKit

def keptV1 (ks : List Int) : List Value := ks.map fun x : Int => .int .i64 x
theorem keptV1_set (ks : List Int) (k : Nat) (x : Int) : (keptV1 ks).set k (.int .i64 x) = keptV1 (ks.set k x) := by unfold keptV1; rw [List.map_set]
theorem slzIntE : SlZ Tryz.prog 85 3 (.int .i64 0) 8 := slZ_of Tryz.underlying85 (by kernel_rfl) rfl
attribute [local irreducible] keptV1 textAt
end Go.Proofs.YtllcipobiengiaaGreat
namespace Go.Proofs.YtllcipobiengiaaGreat
open Go Go.RowKit

attribute [local irreducible] keptV1 aliveX
end Go.Proofs.YtllcipobiengiaaGreat
namespace Go.Proofs.YtllcipobiengiaaGreat
open Go Go.RowKit

section
variable {P : Program} {ty : TypeId} {size : Nat} {w : World} {ops : Array Oper} {rest : List Oper} {o : Oper} {a : Act} {Q : Exit → Act → World → Prop}
end
attribute [local irreducible] idxB
/-! ### taken out in place -/
/-! ### the names of a file -/
theorem ofM_len (L : List PatchM) (f : VidM) (k : UInt8) : (ofM L f k).length ≤ (idsM L).length := Nat.le_trans (List.length_filter_le _ _) (by unfold vertsM; rw [List.length_map]; exact Nat.le_refl _)
attribute [local irreducible] ofM aliveM namesM idsM
end Go.Proofs.YtllcipobiengiaaGreat
namespace Go.Proofs.YtllcipobiengiaaGreat
open Go Go.RowKit

/-! ### a row of names that is filled -/
def atL (at' : List VidM) (j m : Nat) : List VidM := at' ++ List.replicate (m - j) noVid
theorem atL_set {at' : List VidM} {j m : Nat} (ha : at'.length = j) (hj : j < m) (v : VidM) : (atL at' j m).set j v = atL (at' ++ [v]) (j + 1) m := by
  unfold atL
  rw [List.set_append_right _ _ (by omega), ha, Nat.sub_self, show m - j = (m - (j + 1)) + 1 by omega, List.replicate_succ, List.set_cons_zero, List.append_assoc]
  rfl
theorem atL_len {at' : List VidM} {j m : Nat} (ha : at'.length = j) (hj : j ≤ m) : (atL at' j m).length = m := by unfold atL; rw [List.length_append, ha, List.length_replicate]; omega
structure MidE (wr : World) (w0 : World) (gK gA m j : Nat) (ks : List Int) (p : Option Addr) (c : Nat) (ops : List OpM) (at' : List VidM) : Prop where
  kept : ArrT wr gK 3 (keptV1 ks)
  names : ArrT wr gA 40 ((atL at' j m).flatMap encVid)
  own : GOwn encOp 8 58 wr w0.heap.size (.slice p ops.length c) ops
  below : Below w0.heap.size w0 wr
theorem MidE.over {wr w0 w2 : World} {gK gA m j : Nat} {ks : List Int} {p : Option Addr} {c : Nat} {ops : List OpM} {at' : List VidM} (h : MidE wr w0 gK gA m j ks p c ops at') (hb : Below wr.heap.size wr w2) : MidE w2 w0 gK gA m j ks p c ops at' :=
  ⟨h.kept.over hb, h.names.over hb, h.own.over hb, below_over h.below h.below.size hb⟩
section
variable {P : Program} {ty : TypeId} {size : Nat} {w : World} {ops : Array Oper} {rest : List Oper} {o : Oper} {a : Act} {Q : Exit → Act → World → Prop}
end
theorem vids_put {l : List VidM} {j : Nat} {v : VidM} (h : j < l.length) : (l.flatMap encVid).take (j * 3) ++ encVid v ++ (l.flatMap encVid).drop (j * 3 + (encVid v).length) = (l.set j v).flatMap encVid := by
  rw [flat_set encVid_len l j v h, show (j + 1) * 3 = j * 3 + (encVid v).length by rw [encVid_len]; omega]
/-- a name more -/
theorem MidE.name {wr w' w0 : World} {gK gA m j : Nat} {ks : List Int} {p : Option Addr} {c : Nat} {ops : List OpM} {at' : List VidM} (h : MidE wr w0 gK gA m j ks p c ops at') (ha : at'.length = j) (hj : j < m) (hg : w0.heap.size ≤ gA) (hne : gK ≠ gA) {v : VidM}
    (hA : ArrT w' gA 40 (((atL at' j m).flatMap encVid).take (j * 3) ++ encVid v ++ ((atL at' j m).flatMap encVid).drop (j * 3 + (encVid v).length))) (hgr : wr.grownBy w' (some gA)) : MidE w' w0 gK gA m (j + 1) ks p c ops (at' ++ [v]) := by
  rw [vids_put (by rw [atL_len ha (Nat.le_of_lt hj)]; exact hj), atL_set ha hj] at hA
  exact ⟨h.kept.kept hgr (fun e => hne (Option.some.inj e)), hA, own_kept h.own hgr (h.names.ne h.own (by decide)), h.below.grown hgr h.below.size fun q hq => by cases hq; exact hg⟩
/-- an operation more -/
theorem MidE.op {wr w0 w9 : World} {gK gA m j : Nat} {ks : List Int} {p p9 : Option Addr} {c c9 : Nat} {ops ops9 : List OpM} {at' : List VidM} (h : MidE wr w0 gK gA m j ks p c ops at') (ho : GOwn encOp 8 58 w9 w0.heap.size (.slice p9 ops9.length c9) ops9) (hg : wr.grownBy w9 (Value.slice p ops.length c).ownBlock) :
    MidE w9 w0 gK gA m j ks p9 c9 ops9 at' :=
  ⟨h.kept.kept hg (h.kept.ne h.own (by decide)), h.names.kept hg (h.names.ne h.own (by decide)), ho, below_grown h.below h.below.size h.own hg⟩
attribute [local irreducible] keptV1 textAt aliveX atL
end Go.Proofs.YtllcipobiengiaaGreat
namespace Go.Proofs.YtllcipobiengiaaGreat
open Go Go.RowKit

/-! ### few -/
end Go.Proofs.YtllcipobiengiaaGreat
namespace Go.Proofs.YtllcipobiengiaaGreat
open Go Go.RowKit

theorem putS_lenF {α : Type} {key : α → Nat} (x : α) : ∀ r : List α, (putS key x r).length ≤ r.length + 1
  | [] => by simp [putS]
  | y :: r => by
    have := putS_lenF (key := key) x r
    rw [putS]
    split
    · simp
    · split
      · simp
      · simp only [List.length_cons]; omega
theorem setS_few {α : Type} {key : α → Nat} (l : List α) : (setS key l).length ≤ l.length := by
  have : ∀ (l out : List α), (l.foldl (fun out x => putS key x out) out).length ≤ out.length + l.length := by
    intro l
    induction l with
    | nil => intro out; simp
    | cons x l ih =>
      intro out
      have h1 := ih (putS key x out)
      have h2 := putS_lenF (key := key) x out
      rw [List.foldl_cons, List.length_cons]; omega
  have := this l []
  simpa [setS] using this
theorem flat_few {α β : Type} (f : α → List β) (b : Nat) : ∀ l : List α, (∀ x ∈ l, (f x).length ≤ b) → (l.flatMap f).length ≤ b * l.length
  | [], _ => by simp
  | x :: l, h => by
    have h1 := h x (List.mem_cons_self ..)
    have h2 := flat_few f b l fun y hy => h y (List.mem_cons_of_mem _ hy)
    rw [List.flatMap_cons, List.length_append, List.length_cons, Nat.mul_succ]
    omega
theorem idsOf_few (L : List PatchM) (b : Nat) (h : ∀ p ∈ L, p.ops.length ≤ b) : (idsOf L).length ≤ b * L.length := by
  refine flat_few _ b L fun p hp => Nat.le_trans (List.length_filterMap_le _ _) ?_
  rw [List.length_range]; exact h p hp
theorem edgesOf_few (L : List PatchM) (b : Nat) (h : ∀ p ∈ L, p.ops.length ≤ b) : (edgesOf L).length ≤ b * L.length :=
  flat_few _ b L fun p hp => Nat.le_trans (List.length_filterMap_le _ _) (h p hp)
end Go.Proofs.YtllcipobiengiaaGreat
namespace Go.Proofs.YtllcipobiengiaaGreat
open Go Go.RowKit

theorem own_slM {α : Type} {enc : α → List Value} {sz : Nat} {e : TypeId} {w : World} {B : Nat} {v : Value} {xs : List α} (h : GOwn enc sz e w B v xs) : ∃ p c, v = .slice p xs.length c := by
  rcases h.2 with ⟨rfl, h0⟩ | ⟨g, cap, cur, rfl, _⟩
  · exact ⟨none, 0, by rw [h0]⟩
  · exact ⟨_, _, rfl⟩
theorem gown_keepM {α : Type} {enc : α → List Value} {sz : Nat} {e : TypeId} {w w' : World} {B : Nat} {v : Value} {xs : List α} {row : Option Nat} (h : GOwn enc sz e w B v xs) (hg : w.grownBy w' row) (hr : ∀ k, row = some k → k < B) : GOwn enc sz e w' B v xs :=
  own_grown h hg (by
    cases hv : v.ownBlock with
    | none => exact .inl rfl
    | some k => exact .inr fun q => by have := gown_base h hv; have := hr k q.symm; omega)

theorem rowPat : RowT Tryz.prog 61 4 := rowT_of Tryz.underlying61 rfl (by kernel_rfl)
def MakeRes (w : World) (id : PidM) (ops : List OpM) (e : Ending) (w' : World) : Prop := ∃ pd cd po co, e = .returned (.tuple #[.agg #[.int .u8 (id.author.toNat : Int), .int .u16 (id.seq.toNat : Int), .slice pd (depsM id ops).length cd, .slice po ops.length co], .int .i64 0]) ∧ GOwn encPid 2 26 w' w.heap.size (.slice pd (depsM id ops).length cd) (depsM id ops) ∧ GOwn encOp 8 58 w' w.heap.size (.slice po ops.length co) ops ∧ Below w.heap.size w w'
attribute [local irreducible] depsM goodQ
set_option maxHeartbeats 8000000 in
set_option maxRecDepth 100000 in
theorem pmake_any (id : PidM) (v : Value) (ops : List OpM) (w : World) (hv : GRow encOp 8 w v ops) (hl : ops.length ≤ 1000) (hz : ∀ o ∈ ops, o.text.size ≤ maxLen) (hg : goodQ id (depsM id ops) ops = true) :
    Calls Tryz.prog 22 #[pidV id, v] w (MakeRes w id ops) := by
  have HI := Lib.hid ((arr_new w #[.int .u8 (id.author.toNat : Int), .int .u16 (id.seq.toNat : Int)] 26).alloc (.cells #[.int .u8 0, .int .u16 0, .slice none 0 0, .slice none 0 0] 61))
  have HR := Lib.hid (arr_new2 w (.cells #[.int .u8 (id.author.toNat : Int), .int .u16 (id.seq.toNat : Int)] 26) #[.int .u8 0, .int .u16 0, .slice none 0 0, .slice none 0 0] 61)
  have HB := Lib.hid ((below_new (w := w) (.cells #[.int .u8 (id.author.toNat : Int), .int .u16 (id.seq.toNat : Int)] 26)).alloc (by simp) (.cells #[.int .u8 0, .int .u16 0, .slice none 0 0, .slice none 0 0] 61))
  have HV := Lib.hid (hv.over HB.out)
  have HZs := Lib.hid hz
  have HG := Lib.hid hg
  clear hv hz hg
  unfold pidV
  go_enter Tryz.func22, Tryz.ntmps22
  go_upto_region 1 with (fail)
  have hs0 : ((w.alloc (.cells #[.int .u8 (id.author.toNat : Int), .int .u16 (id.seq.toNat : Int)] 26)).alloc (.cells #[.int .u8 0, .int .u16 0, .slice none 0 0, .slice none 0 0] 61)).heap.size = w.heap.size + 1 + 1 := by simp
  generalize hw0 : (w.alloc (.cells #[.int .u8 (id.author.toNat : Int), .int .u16 (id.seq.toNat : Int)] 26)).alloc (.cells #[.int .u8 0, .int .u16 0, .slice none 0 0, .slice none 0 0] 61) = w0 at *
  have HS0 := Lib.hid hs0
  clear hw0 hs0
  have i0 := HI.out.cell (j := 0) rfl
  have i1 := HI.out.cell (j := 1) rfl
  have si := HI.out.lt
  have HS : Hid (∀ w' : World, Below w0.heap.size w0 w' → (w'.cell? ⟨w.heap.size, 0, none⟩ = some (.int .u8 (id.author.toNat : Int)) ∧ w'.cell? ⟨w.heap.size, 1, none⟩ = some (.int .u16 (id.seq.toNat : Int)) ∧ Below w0.heap.size w0 w')) := fun w' hb => ⟨(hb.cell (p := ⟨w.heap.size, 0, none⟩) si).trans i0, (hb.cell (p := ⟨w.heap.size, 1, none⟩) si).trans i1, hb⟩
  go_cut [6] (fun s6 wx => ∃ g6 pd cd po co, s6 = .pointer (some ⟨g6, 0, none⟩) ∧ Hid (ArrT wx g6 61 [.int .u8 (id.author.toNat : Int), .int .u16 (id.seq.toNat : Int), .slice pd (depsM id ops).length cd, .slice po ops.length co]) ∧ Hid (GOwn encPid 2 26 wx w0.heap.size (.slice pd (depsM id ops).length cd) (depsM id ops)) ∧ Hid (GOwn encOp 8 58 wx w0.heap.size (.slice po ops.length co) ops) ∧ Hid (Below w0.heap.size w0 wx))
  case first =>
    go_region_held3 (fun w' => w'.cell? ⟨w.heap.size, 0, none⟩ = some (.int .u8 (id.author.toNat : Int)) ∧ w'.cell? ⟨w.heap.size, 1, none⟩ = some (.int .u16 (id.seq.toNat : Int)) ∧ Below w0.heap.size w0 w') ((refine HS.out _ ?_; (with_reducible (first | exact (Below.refl _ _).drew | exact HBc.out | exact HBc.out.alloc HBc.out.size _ | exact HBd.out | exact HBd.out.alloc HBd.out.size _ | exact ((Below.refl w0.heap.size w0).alloc (Nat.le_refl _) _).drew | exact ((((HBc.out.setCell (p := ⟨w0.heap.size, 0, none⟩) (Nat.le_refl _) (.int .u8 (id.author.toNat : Int))).setCell (p := ⟨w0.heap.size, 1, none⟩) (Nat.le_refl _) (.int .u16 (id.seq.toNat : Int))).setCell (p := ⟨w0.heap.size, 2, none⟩) (Nat.le_refl _) (.slice pd (depsM id ops).length cd)).setCell (p := ⟨w0.heap.size, 3, none⟩) (Nat.le_refl _) (.slice po ops.length co)) | exact ((((HBc.out.setCell (p := ⟨w5.heap.size, 0, none⟩) HBd.out.size (.int .u8 (id.author.toNat : Int))).setCell (p := ⟨w5.heap.size, 1, none⟩) HBd.out.size (.int .u16 (id.seq.toNat : Int))).setCell (p := ⟨w5.heap.size, 2, none⟩) HBd.out.size (.slice pd (depsM id ops).length cd)).setCell (p := ⟨w5.heap.size, 3, none⟩) HBd.out.size (.slice po ops.length co))))))
      (first | (go_at_call 63; refine (pdeps_any id v ops _ (HV.out.over (by first | exact (Below.refl _ _).drew | exact ((Below.refl w0.heap.size w0).alloc (Nat.le_refl _) _).drew)) (by omega)).mono ?_; rintro e w5 ⟨dv, rfl, ho5, hb5⟩; obtain ⟨pd, cd, hdv⟩ := own_slM ho5; subst hdv; have HBd : Hid (Below w0.heap.size w0 w5) := (by show Below w0.heap.size w0 w5; with_reducible (first | exact below_over (Below.refl w0.heap.size w0).drew (Nat.le_refl _) hb5 | exact below_over (((Below.refl w0.heap.size w0).alloc (Nat.le_refl _) _).drew) (Below.size (((Below.refl w0.heap.size w0).alloc (Nat.le_refl _) _).drew)) hb5)); have HO5 : Hid (GOwn encPid 2 26 w5 w0.heap.size (.slice pd (depsM id ops).length cd) (depsM id ops)) := Lib.hid (ho5.base (by first | exact Nat.le_refl _ | (simp))); have HB5b := Lib.hid hb5; have hs5 := hb5.size; (try (have hs5b : w0.heap.size < w5.heap.size := (by have h := hb5.size; simp at h; omega))); clear hs5; obtain ⟨hc5, hf5⟩ := bcell hb5; clear ho5 hb5) |
        (go_at_call 64; refine (cloneOp v ops _ (HV.out.over (by first | exact HBd.out | exact HBd.out.alloc HBd.out.size _)) (by omega)).mono ?_; rintro e w6 ⟨ov, rfl, ho6, hb6⟩; obtain ⟨po, co, hov⟩ := own_slM ho6; subst hov; have HBc : Hid (Below w0.heap.size w0 w6) := (by show Below w0.heap.size w0 w6; with_reducible (first | exact below_over HBd.out HBd.out.size hb6 | exact below_over (HBd.out.alloc HBd.out.size _) (Below.size (HBd.out.alloc HBd.out.size _)) hb6)); have HO6 : Hid (GOwn encOp 8 58 w6 w0.heap.size (.slice po ops.length co) ops) := Lib.hid (ho6.base (by have := HBd.out.size; first | exact this | (simp; omega))); have HO56 : Hid (GOwn encPid 2 26 w6 w0.heap.size (.slice pd (depsM id ops).length cd) (depsM id ops)) := Lib.hid (by first | exact HO5.out.over hb6 | exact (HO5.out.over (below_new _)).over hb6); have HB6b := Lib.hid hb6; obtain ⟨hc6, hf6⟩ := bcell hb6; clear ho6 hb6))
    · rename_i J K hJ hK hHeld
      clear hHeld
      refine hK _ _ (Met.intro (hJ _ _ ?_))
      (repeat apply Exists.intro)
      refine ⟨?_, rfl⟩
      exact ⟨_, pd, cd, po, co, rfl, Lib.hid (arrT_new w6 [.int .u8 (id.author.toNat : Int), .int .u16 (id.seq.toNat : Int), .slice pd (depsM id ops).length cd, .slice po ops.length co] 61), Lib.hid (HO56.out.over (below_new _)), Lib.hid (HO6.out.over (below_new _)), Lib.hid (HBc.out.alloc HBc.out.size _)⟩
    · rename_i J K hJ hK hHeld
      clear hHeld
      refine hK _ _ (Met.intro (hJ _ _ ?_))
      (repeat apply Exists.intro)
      refine ⟨?_, rfl⟩
      have HZ : Hid (ArrT w6 w5.heap.size 61 [.int .u8 0, .int .u16 0, .slice none 0 0, .slice none 0 0]) := Lib.hid ((arrT_new w5 [.int .u8 0, .int .u16 0, .slice none 0 0, .slice none 0 0] 61).over HB6b.out)
      have nd : (Value.slice pd (depsM id ops).length cd).ownBlock = none ∨ (Value.slice pd (depsM id ops).length cd).ownBlock ≠ some w5.heap.size := .inr (fun q => (HZ.out.ne (show World.ownsRow _ _ _ _ _ _ _ from HO56.out) (by decide)) q.symm)
      have no : (Value.slice po ops.length co).ownBlock = none ∨ (Value.slice po ops.length co).ownBlock ≠ some w5.heap.size := .inr (fun q => (HZ.out.ne (show World.ownsRow _ _ _ _ _ _ _ from HO6.out) (by decide)) q.symm)
      exact ⟨_, pd, cd, po, co, rfl, Lib.hid ((((HZ.out.set 0 (.int .u8 (id.author.toNat : Int))).set 1 (.int .u16 (id.seq.toNat : Int))).set 2 (.slice pd (depsM id ops).length cd)).set 3 (.slice po ops.length co)), Lib.hid (show GOwn encPid 2 26 _ w0.heap.size (.slice pd (depsM id ops).length cd) (depsM id ops) from own_grown HO56.out (grown_trans (grown_trans (grown_trans (grown_trans (World.grownBy.refl w6 _) (grown_setCell _ _ _)) (grown_setCell _ _ _)) (grown_setCell _ _ _)) (grown_setCell _ _ _)) nd), Lib.hid (show GOwn encOp 8 58 _ w0.heap.size (.slice po ops.length co) ops from own_grown HO6.out (grown_trans (grown_trans (grown_trans (grown_trans (World.grownBy.refl w6 _) (grown_setCell _ _ _)) (grown_setCell _ _ _)) (grown_setCell _ _ _)) (grown_setCell _ _ _)) no), Lib.hid ((((HBc.out.setCell (p := ⟨w5.heap.size, 0, none⟩) HBd.out.size (.int .u8 (id.author.toNat : Int))).setCell (p := ⟨w5.heap.size, 1, none⟩) HBd.out.size (.int .u16 (id.seq.toNat : Int))).setCell (p := ⟨w5.heap.size, 2, none⟩) HBd.out.size (.slice pd (depsM id ops).length cd)).setCell (p := ⟨w5.heap.size, 3, none⟩) HBd.out.size (.slice po ops.length co))⟩
    · rename_i J K hJ hK hHeld
      clear hHeld
      refine hK _ _ (Met.intro (hJ _ _ ?_))
      (repeat apply Exists.intro)
      refine ⟨?_, rfl⟩
      have HZ : Hid (ArrT w6 w0.heap.size 61 [.int .u8 0, .int .u16 0, .slice none 0 0, .slice none 0 0]) := Lib.hid (((show ArrT (w0.alloc (.cells #[.int .u8 0, .int .u16 0, .slice none 0 0, .slice none 0 0] 61)).drew w0.heap.size 61 [.int .u8 0, .int .u16 0, .slice none 0 0, .slice none 0 0] from arrT_new w0 [.int .u8 0, .int .u16 0, .slice none 0 0, .slice none 0 0] 61).over HB5b.out).over HB6b.out)
      have nd : (Value.slice pd (depsM id ops).length cd).ownBlock = none ∨ (Value.slice pd (depsM id ops).length cd).ownBlock ≠ some w0.heap.size := .inr (fun q => (HZ.out.ne (show World.ownsRow _ _ _ _ _ _ _ from HO56.out) (by decide)) q.symm)
      have no : (Value.slice po ops.length co).ownBlock = none ∨ (Value.slice po ops.length co).ownBlock ≠ some w0.heap.size := .inr (fun q => (HZ.out.ne (show World.ownsRow _ _ _ _ _ _ _ from HO6.out) (by decide)) q.symm)
      exact ⟨_, pd, cd, po, co, rfl, Lib.hid ((((HZ.out.set 0 (.int .u8 (id.author.toNat : Int))).set 1 (.int .u16 (id.seq.toNat : Int))).set 2 (.slice pd (depsM id ops).length cd)).set 3 (.slice po ops.length co)), Lib.hid (show GOwn encPid 2 26 _ w0.heap.size (.slice pd (depsM id ops).length cd) (depsM id ops) from own_grown HO56.out (grown_trans (grown_trans (grown_trans (grown_trans (World.grownBy.refl w6 _) (grown_setCell _ _ _)) (grown_setCell _ _ _)) (grown_setCell _ _ _)) (grown_setCell _ _ _)) nd), Lib.hid (show GOwn encOp 8 58 _ w0.heap.size (.slice po ops.length co) ops from own_grown HO6.out (grown_trans (grown_trans (grown_trans (grown_trans (World.grownBy.refl w6 _) (grown_setCell _ _ _)) (grown_setCell _ _ _)) (grown_setCell _ _ _)) (grown_setCell _ _ _)) no), Lib.hid ((((HBc.out.setCell (p := ⟨w0.heap.size, 0, none⟩) (Nat.le_refl _) (.int .u8 (id.author.toNat : Int))).setCell (p := ⟨w0.heap.size, 1, none⟩) (Nat.le_refl _) (.int .u16 (id.seq.toNat : Int))).setCell (p := ⟨w0.heap.size, 2, none⟩) (Nat.le_refl _) (.slice pd (depsM id ops).length cd)).setCell (p := ⟨w0.heap.size, 3, none⟩) (Nat.le_refl _) (.slice po ops.length co))⟩
  case rest =>
    obtain ⟨g6, pd, cd, po, co, rfl, HA6, HO5, HO6, HB6⟩ := hcut
    rename World => w6
    have HR6 := Lib.hid (HR.out.over HB6.out)
    have hs6 := HB6.out.size
    clear i0 i1 si HS
    have p0 := HA6.out.arr.cell (j := 0) rfl
    have p1 := HA6.out.arr.cell (j := 1) rfl
    have p2 := HA6.out.arr.cell (j := 2) rfl
    have p3 := HA6.out.arr.cell (j := 3) rfl
    have sp := HA6.out.arr.lt
    go_wp2_with fail
    refine (pgood_any id _ _ (depsM id ops) ops _ HO5.out.row HO6.out.row (by omega) HZs.out).mono ?_
    rintro e w7 ⟨rfl, hb7⟩
    rw [HG.out]
    have HB7 := Lib.hid (below_over HB6.out HB6.out.size hb7)
    have HA7 := Lib.hid (HA6.out.over hb7)
    have HR7 := Lib.hid (HR6.out.over hb7)
    have HO57 := Lib.hid (HO5.out.over hb7)
    have HO67 := Lib.hid (HO6.out.over hb7)
    clear hb7 p0 p1 p2 p3 sp
    have p0 := HA7.out.arr.cell (j := 0) rfl
    have p1 := HA7.out.arr.cell (j := 1) rfl
    have p2 := HA7.out.arr.cell (j := 2) rfl
    have p3 := HA7.out.arr.cell (j := 3) rfl
    have sp := HA7.out.arr.lt
    have r0 := HR7.out.cell (j := 0) rfl
    have r1 := HR7.out.cell (j := 1) rfl
    have r2 := HR7.out.cell (j := 2) rfl
    have r3 := HR7.out.cell (j := 3) rfl
    have sr := HR7.out.lt
    have rf0 := HR7.out.free 0
    have rf1 := HR7.out.free 1
    have rf2 := HR7.out.free 2
    have rf3 := HR7.out.free 3
    have HF := Lib.hid ((((HR7.out.set 0 (.int .u8 (id.author.toNat : Int))).set 1 (.int .u16 (id.seq.toNat : Int))).set 2 (.slice pd (depsM id ops).length cd)).set 3 (.slice po ops.length co))
    have hs0 := HS0.out
    have hgr : World.grownBy w7 ((((w7.setCell ⟨w.heap.size + 1, 0, none⟩ (.int .u8 (id.author.toNat : Int))).setCell ⟨w.heap.size + 1, 1, none⟩ (.int .u16 (id.seq.toNat : Int))).setCell ⟨w.heap.size + 1, 2, none⟩ (.slice pd (depsM id ops).length cd)).setCell ⟨w.heap.size + 1, 3, none⟩ (.slice po ops.length co)) (some (w.heap.size + 1)) := (grown_trans (grown_trans (grown_trans (grown_trans (World.grownBy.refl w7 _) (grown_setCell _ _ _)) (grown_setCell _ _ _)) (grown_setCell _ _ _)) (grown_setCell _ _ _))
    have HO58 := Lib.hid (gown_keepM HO57.out hgr (fun j hj => by cases hj; omega))
    have HO68 := Lib.hid (gown_keepM HO67.out hgr (fun j hj => by cases hj; omega))
    have HB8 := Lib.hid ((below_over HB.out HB.out.size HB7.out).grown hgr (by have := HB7.out.size; omega) (fun j hj => by cases hj; omega))
    clear hgr hs0
    go_wp2_with fail
    exact bodyPost_ret (v := .tuple #[.agg #[.int .u8 (id.author.toNat : Int), .int .u16 (id.seq.toNat : Int), .slice pd (depsM id ops).length cd, .slice po ops.length co], .int .i64 0]) (results_arr_slot rowPat rfl HF.out rfl rfl rfl) rfl ⟨pd, cd, po, co, rfl, HO58.out.base (by have := HS0.out; omega), HO68.out.base (by have := HS0.out; omega), HB8.out⟩
end Go.Proofs.YtllcipobiengiaaGreat
namespace Go.Proofs.YtllcipobiengiaaGreat
open Go Go.RowKit

def wkId : PidM := ⟨1, 1⟩
def wkF : VidM := ⟨wkId, 0⟩
def wkVert (n : UInt8) (t : ByteArray) : VertM := ⟨⟨wkId, n⟩, 3, wkF, t, false⟩
end Go.Proofs.YtllcipobiengiaaGreat
