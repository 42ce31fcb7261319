/- Contracts of ref20.SameVerts and of the law's test of names: lists that are the same. -/
import Derived.Test.YtfciedmmgddgpaaGreatDoorZNsD
import Derived.Test.YtfciedmmgddgpaaGreatDoorZTreeB
namespace Go.Proofs.YtfciedmmgddgpaaGreatDoor
open Go Go.RowKit

def SvRel (w : World) (n : Nat) (v5 : Value) (wr : World) : Prop := ∃ k : Nat, k ≤ n ∧ v5 = .int .i64 (k : Int) ∧ Below w.heap.size w wr
set_option maxHeartbeats 4000000 in
set_option maxRecDepth 100000 in
theorem rsameVert_any (v u : Value) (l : List VertM) (w : World) (hv : GRow encVert 9 w v l) (hu : GRow encVert 9 w u l) :
    Calls Tryz.prog 9 #[v, u] w fun e w' => e = .returned (.bool true) ∧ Below w.heap.size w w' := by
  obtain ⟨a, cap, rfl, h1, h2, hc⟩ := hv.at encVert_len
  obtain ⟨a', cap', rfl, h1', h2', hc'⟩ := hu.at encVert_len
  unfold maxLen at h2 h2'
  have HC := Lib.hid hc
  have HC' := Lib.hid hc'
  clear hv hu hc hc'
  have gd := fun p q xs ys w => guard_vert .neq p q xs ys w
  have hq : ((l.length : Int) != (l.length : Int)) = false := by simp
  go_enter Tryz.func9, Tryz.ntmps9
  go_wp2_with fail
  go_loopw [5] (fun i wr => SvRel w l.length i wr) (fun i _ => l.length - (intOf i).toNat)
  case atStart => exact ⟨0, by omega, rfl, Below.refl _ _⟩
  case round =>
    obtain ⟨k, hk, rfl, hbl⟩ := hrel
    rename World => wr
    by_cases hlt : k < l.length
    · obtain ⟨bl, ol, rfl, sl, hcl⟩ := HC.out.resolve_left (by omega)
      obtain ⟨bm, om, rfl, sm, hcm⟩ := HC'.out.resolve_left (by omega)
      obtain ⟨x, hx⟩ := get_of_lt hlt
      have x0 : wr.cell? ⟨bl, ol + k * 9, none⟩ = some (.int .u8 (x.id.pid.author.toNat : Int)) := (hcl k x hx wr hbl).2 0 _ rfl
      have x1 : wr.cell? ⟨bl, ol + k * 9 + 1, none⟩ = some (.int .u16 (x.id.pid.seq.toNat : Int)) := (hcl k x hx wr hbl).2 1 _ rfl
      have x2 : wr.cell? ⟨bl, ol + k * 9 + 2, none⟩ = some (.int .u8 (x.id.n.toNat : Int)) := (hcl k x hx wr hbl).2 2 _ rfl
      have x3 : wr.cell? ⟨bl, ol + k * 9 + 3, none⟩ = some (.int .u8 (x.kind.toNat : Int)) := (hcl k x hx wr hbl).2 3 _ rfl
      have x4 : wr.cell? ⟨bl, ol + k * 9 + 4, none⟩ = some (.int .u8 (x.file.pid.author.toNat : Int)) := (hcl k x hx wr hbl).2 4 _ rfl
      have x5 : wr.cell? ⟨bl, ol + k * 9 + 5, none⟩ = some (.int .u16 (x.file.pid.seq.toNat : Int)) := (hcl k x hx wr hbl).2 5 _ rfl
      have x6 : wr.cell? ⟨bl, ol + k * 9 + 6, none⟩ = some (.int .u8 (x.file.n.toNat : Int)) := (hcl k x hx wr hbl).2 6 _ rfl
      have x7 : wr.cell? ⟨bl, ol + k * 9 + 7, none⟩ = some (.string x.text) := (hcl k x hx wr hbl).2 7 _ rfl
      have x8 : wr.cell? ⟨bl, ol + k * 9 + 8, none⟩ = some (.bool x.dead) := (hcl k x hx wr hbl).2 8 _ rfl
      have y0 : wr.cell? ⟨bm, om + k * 9, none⟩ = some (.int .u8 (x.id.pid.author.toNat : Int)) := (hcm k x hx wr hbl).2 0 _ rfl
      have y1 : wr.cell? ⟨bm, om + k * 9 + 1, none⟩ = some (.int .u16 (x.id.pid.seq.toNat : Int)) := (hcm k x hx wr hbl).2 1 _ rfl
      have y2 : wr.cell? ⟨bm, om + k * 9 + 2, none⟩ = some (.int .u8 (x.id.n.toNat : Int)) := (hcm k x hx wr hbl).2 2 _ rfl
      have y3 : wr.cell? ⟨bm, om + k * 9 + 3, none⟩ = some (.int .u8 (x.kind.toNat : Int)) := (hcm k x hx wr hbl).2 3 _ rfl
      have y4 : wr.cell? ⟨bm, om + k * 9 + 4, none⟩ = some (.int .u8 (x.file.pid.author.toNat : Int)) := (hcm k x hx wr hbl).2 4 _ rfl
      have y5 : wr.cell? ⟨bm, om + k * 9 + 5, none⟩ = some (.int .u16 (x.file.pid.seq.toNat : Int)) := (hcm k x hx wr hbl).2 5 _ rfl
      have y6 : wr.cell? ⟨bm, om + k * 9 + 6, none⟩ = some (.int .u8 (x.file.n.toNat : Int)) := (hcm k x hx wr hbl).2 6 _ rfl
      have y7 : wr.cell? ⟨bm, om + k * 9 + 7, none⟩ = some (.string x.text) := (hcm k x hx wr hbl).2 7 _ rfl
      have y8 : wr.cell? ⟨bm, om + k * 9 + 8, none⟩ = some (.bool x.dead) := (hcm k x hx wr hbl).2 8 _ rfl
      have sX := (hcl k x hx wr hbl).1
      have sY := (hcm k x hx wr hbl).1
      have hne := neq_vert x x false (by simp)
      unfold vertV at hne
      clear hcl hcm hx
      go_upto_region 6 with (fail)
      have hcur : Below wr.heap.size wr wr.drew := (Below.refl _ _).drew
      refine wp_region_lex (C := IsOver wr) 9 [] (by kernel_rfl) (by kernel_rfl) (isOver_of (by repeat (first | exact Below.refl _ _ | apply Below.drew | apply below_drewN | (refine Below.alloc ?_ (by simp) _)))) ?_
      simp only [List.take_succ_cons, List.take_zero, List.drop_succ_cons, List.drop_zero]
      repeat (first | (refine lex_skip rfl rfl ?_; simp only [Act.put, List.setIfInBounds_toArray, List.set_cons_succ, List.set_cons_zero]) | (refine lex_one rfl ?_; go_big_quiet_step (fail); refine wpQuiet_nil ?_))
      refine lex_end ?_
      go_wp2_with fail
      go_roundw
      case rel => exact ⟨k + 1, hlt, by go_num, below_over hbl hbl.size hcur⟩
      case measure => simp [intOf]; omega
    · obtain rfl : k = l.length := by omega
      go_wp2_with fail
      go_ret
      exact ⟨rfl, hbl⟩

/-! ### names -/
theorem conv_row {W : World} {B : Nat} {e : TypeId} {pf : Option Addr} {cf : Nat} {fl : List UInt8} (ho : GOwn encU8 1 e W B (.slice pf fl.length cf) fl) : (convert 59 9 (.slice pf fl.length cf)).run Tryz.prog W = .ok (.string ⟨fl.toArray⟩) W := by
  obtain ⟨a, cap, he, h1, h2, hc⟩ := ho.row.at (show ∀ x, (encU8 x).length = 1 from fun x => rfl)
  cases he
  cases pf with
  | none =>
    rcases hc with hc | ⟨b, off, hb, _⟩
    · have : fl = [] := List.eq_nil_of_length_eq_zero hc
      subst this
      exact run_convert_bytes_nil W 59 5 Tryz.underlying59 Tryz.underlying5 _ _ _ Tryz.underlying9
    · cases hb
  | some ad =>
    rcases hc with hc | ⟨b, off, hb, hlt, hcell⟩
    · have : fl = [] := List.eq_nil_of_length_eq_zero hc
      subst this
      rcases ho.2 with ⟨h3, _⟩ | ⟨g, c3, cur, h3, _⟩
      · cases h3
      · cases h3
        exact run_convert_bytes_arg (P := Tryz.prog) W 59 5 Tryz.underlying59 Tryz.underlying5 g 0 0 cf [] rfl (fun i hi => absurd hi (by omega)) 9 Tryz.underlying9
    · cases hb
      have := run_convert_bytes_arg (P := Tryz.prog) W 59 5 Tryz.underlying59 Tryz.underlying5 b off fl.length cf (fl.map fun c => (c.toNat : Int)) (by simp) (fun i hi => by
        have h3 := (hcell i fl[i] (List.getElem?_eq_getElem hi) W (Below.refl _ _)).2 0 _ rfl
        rw [Nat.mul_one, Nat.add_zero] at h3
        rw [h3]
        simp [List.getD, List.getElem?_eq_getElem hi]) 9 Tryz.underlying9
      have e : (fl.map fun c => (c.toNat : Int)).map (fun n => UInt8.ofNat n.toNat) = fl := by
        rw [List.map_map]
        exact (List.map_congr_left (g := id) fun c _ => by simp).trans (List.map_id fl)
      rw [this]
      unfold strOfNums
      rw [e]
theorem srow_texts {w : World} {v : Value} {xs : List TextL} (h : GRow encT 1 w v xs) : SRow w v (xs.map fun t => ⟨t.toArray⟩) := by
  unfold SRow
  unfold GRow at h
  rw [List.length_map, List.map_map]
  rw [encT_map] at h
  exact h
set_option maxHeartbeats 8000000 in
set_option maxRecDepth 100000 in
theorem rsameNames_any (v u : Value) (ns : List NameM) (w : World) {B B' : Nat} (hv : Names w B v ns) (hu : RNames w B' u ns) :
    Calls Tryz.prog 12 #[v, u] w fun e w' => e = .returned (.bool true) ∧ Below w.heap.size w w' := by
  obtain ⟨xs, hx1, hx2, hx3⟩ := hv
  obtain ⟨ys, hy1, hy2, hy3⟩ := hu
  have HX3 := Lib.hid hx3
  have HY3 := Lib.hid hy3
  obtain ⟨a, cap, rfl, h1, h2, hc⟩ := hx2.row.at encN_len
  obtain ⟨a', cap', rfl, h1', h2', hc'⟩ := hy2.row.at encN_len
  unfold maxLen at h2 h2'
  have hlx : ns.length = xs.length := by rw [← hx1, List.length_map]
  have hly : ys.length = xs.length := by rw [← hlx, ← hy1, List.length_map]
  have HXN := Lib.hid hx1
  have HYN := Lib.hid hy1
  rw [hly] at h1'
  obtain ⟨N, hN⟩ : ∃ N, xs.length = N := ⟨_, rfl⟩
  rw [hly, hN] at hc'
  rw [hN] at hc
  have HC := Lib.hid hc
  have HC' := Lib.hid hc'
  have HLY := Lib.hid hly
  have HNx := Lib.hid hN
  clear hc hc' hx2 hy2 hx3 hy3 hx1 hy1
  rw [hly, hN]
  rw [hN] at h1 h1'
  clear hlx hly hN
  have gd := fun p q xs ys w => guard_vid .neq p q xs ys w
  have hq : ((N : Int) != (N : Int)) = false := by simp
  go_enter Tryz.func12, Tryz.ntmps12
  go_wp2_with fail
  go_loopw [5] (fun i wr => SvRel w N i wr) (fun i _ => N - (intOf i).toNat)
  case atStart => exact ⟨0, by omega, rfl, Below.refl _ _⟩
  case round =>
    obtain ⟨k, hk, rfl, hbl⟩ := hrel
    rename World => wr
    by_cases hlt : k < N
    · obtain ⟨bl, ol, rfl, sl, hcl⟩ := HC.out.resolve_left (by omega)
      obtain ⟨bm, om, rfl, sm, hcm⟩ := HC'.out.resolve_left (by omega)
      obtain ⟨x, hx⟩ := get_of_lt (xs := xs) (i := k) (by have := HNx.out; omega)
      obtain ⟨y, hy⟩ := get_of_lt (xs := ys) (i := k) (by have := HNx.out; have := HLY.out; omega)
      have hxy : y.n = x.n := by
        have h5 := congrArg (fun l => l[k]?) (HXN.out.trans HYN.out.symm)
        simp only [List.getElem?_map, hx, hy, Option.map_some, Option.some.injEq] at h5
        exact h5.symm
      have HXa := Lib.hid (HX3.out x (List.mem_of_getElem? hx))
      have HYa := Lib.hid (HY3.out y (List.mem_of_getElem? hy))
      obtain ⟨n, pa, ca, pf, cf⟩ := x
      obtain ⟨n', qa, da, qf, df⟩ := y
      obtain rfl : n = n' := hxy.symm
      have x0 : wr.cell? ⟨bl, ol + k * 6, none⟩ = some (.int .u8 (n.file.pid.author.toNat : Int)) := (hcl k _ hx wr hbl).2 0 _ rfl
      have x1 : wr.cell? ⟨bl, ol + k * 6 + 1, none⟩ = some (.int .u16 (n.file.pid.seq.toNat : Int)) := (hcl k _ hx wr hbl).2 1 _ rfl
      have x2 : wr.cell? ⟨bl, ol + k * 6 + 2, none⟩ = some (.int .u8 (n.file.n.toNat : Int)) := (hcl k _ hx wr hbl).2 2 _ rfl
      have x3 : wr.cell? ⟨bl, ol + k * 6 + 3, none⟩ = some (.string n.name) := (hcl k _ hx wr hbl).2 3 _ rfl
      have x4 : wr.cell? ⟨bl, ol + k * 6 + 4, none⟩ = some (.slice pa n.also.length ca) := (hcl k _ hx wr hbl).2 4 _ rfl
      have x5 : wr.cell? ⟨bl, ol + k * 6 + 5, none⟩ = some (.slice pf n.flaws.length cf) := (hcl k _ hx wr hbl).2 5 _ rfl
      have y0 : wr.cell? ⟨bm, om + k * 6, none⟩ = some (.int .u8 (n.file.pid.author.toNat : Int)) := (hcm k _ hy wr hbl).2 0 _ rfl
      have y1 : wr.cell? ⟨bm, om + k * 6 + 1, none⟩ = some (.int .u16 (n.file.pid.seq.toNat : Int)) := (hcm k _ hy wr hbl).2 1 _ rfl
      have y2 : wr.cell? ⟨bm, om + k * 6 + 2, none⟩ = some (.int .u8 (n.file.n.toNat : Int)) := (hcm k _ hy wr hbl).2 2 _ rfl
      have y3 : wr.cell? ⟨bm, om + k * 6 + 3, none⟩ = some (.string n.name) := (hcm k _ hy wr hbl).2 3 _ rfl
      have y4 : wr.cell? ⟨bm, om + k * 6 + 4, none⟩ = some (.slice qa n.also.length da) := (hcm k _ hy wr hbl).2 4 _ rfl
      have y5 : wr.cell? ⟨bm, om + k * 6 + 5, none⟩ = some (.slice qf n.flaws.length df) := (hcm k _ hy wr hbl).2 5 _ rfl
      have sX := (hcl k _ hx wr hbl).1
      have sY := (hcm k _ hy wr hbl).1
      have hne := neq_vid n.file n.file false (by simp)
      unfold vidV at hne
      have HBl := Lib.hid hbl
      have HTx : Hid (∀ W, Below wr.heap.size wr W → Calls Tryz.prog 30 #[.slice pa n.also.length ca, .slice qa n.also.length da] W fun e w' => e = .returned (.bool true) ∧ Below W.heap.size W w') := Lib.hid fun W hb => by
        have hW := below_over HBl.out HBl.out.size hb
        have := rtexts_any (.slice pa n.also.length ca) (.slice qa n.also.length da) _ _ W (srow_texts (HXa.out.1.row.over hW)) (srow_texts (HYa.out.1.row.over hW))
        rw [sameS_t rfl] at this
        exact this
      have cvx : ∀ x : Over wr, (convert 59 9 (.slice pf n.flaws.length cf)).run Tryz.prog x.1 = .ok (.string ⟨n.flaws.toArray⟩) x.1 := fun x => conv_row (HXa.out.2.over (below_over HBl.out HBl.out.size x.2))
      have cvy : ∀ x : Over wr, (convert 59 9 (.slice qf n.flaws.length df)).run Tryz.prog x.1 = .ok (.string ⟨n.flaws.toArray⟩) x.1 := fun x => conv_row (HYa.out.2.over (below_over HBl.out HBl.out.size x.2))
      clear hcl hcm hx hy hbl
      go_upto_region 6 with (fail)
      have hcur : Below wr.heap.size wr wr.drew := (Below.refl _ _).drew
      refine wp_region_lex (C := IsOver wr) 53 [] (by kernel_rfl) (by kernel_rfl) (isOver_of (by repeat (first | exact Below.refl _ _ | apply Below.drew | apply below_drewN | (refine Below.alloc ?_ (by simp) _)))) ?_
      simp only [List.take_succ_cons, List.take_zero, List.drop_succ_cons, List.drop_zero]
      repeat (first | (refine lex_skip rfl rfl ?_; simp only [Act.put, List.setIfInBounds_toArray, List.set_cons_succ, List.set_cons_zero]) | (refine lex_one rfl ?_; go_big_quiet_step (fail); refine wpQuiet_nil ?_) | (refine lex_loud rfl ?_; go_wp2_with (first | (go_at_call 30; (with_reducible refine (HTx.out _ hcur).mono ?_); rintro e w' ⟨rfl, hb⟩; replace hcur := below_over hcur hcur.size hb; clear hb)); refine ⟨isOver_of hcur, ?_⟩))
      refine lex_end ?_
      go_wp2_with fail
      go_roundw
      case rel => exact ⟨k + 1, hlt, by go_num, below_over HBl.out HBl.out.size hcur⟩
      case measure => simp [intOf]; omega
    · obtain rfl : k = N := by omega
      go_wp2_with fail
      go_ret
      exact ⟨rfl, hbl⟩
end Go.Proofs.YtfciedmmgddgpaaGreatDoor
