/- Patches that lie in memory; contract of L20.Build. Contracts of L18.Few, L20.Few. The reference's graph: its patches, in order: contracts of ref20.has, dead. Contracts of ref20.Vert, is. Contract of ref20.is. Contract of ref20.ahead. Contract of ref20.ids. '==' at steps; rows of steps. -/
import Derived.Test.YtllcipobiengiaaGreatZGraphF
namespace Go.Proofs.YtllcipobiengiaaGreat
open Go Go.RowKit

/-- a patch, and where its lists lie -/
structure LaidP where
  p : PatchM
  dv : Value
  ov : Value
def encPat (x : LaidP) : List Value := [.int .u8 (x.p.id.author.toNat : Int), .int .u16 (x.p.id.seq.toNat : Int), x.dv, x.ov]
theorem encPat_len (x : LaidP) : (encPat x).length = 4 := rfl
def PatOk (w : World) (x : LaidP) : Prop := GRow encPid 2 w x.dv x.p.deps ∧ GRow encOp 8 w x.ov x.p.ops
/-- a []api.Patch -/
def Pats (w : World) (v : Value) (xs : List LaidP) : Prop := GRow encPat 4 w v xs ∧ ∀ x ∈ xs, PatOk w x
theorem Pats.over {w w' : World} {v : Value} {xs : List LaidP} (h : Pats w v xs) (hb : Below w.heap.size w w') : Pats w' v xs := ⟨h.1.over hb, fun x hx => ⟨(h.2 x hx).1.over hb, (h.2 x hx).2.over hb⟩⟩
/-- few and small -/
def fewP (p : PatchM) : Bool := decide (p.deps.length ≤ 100) && (decide (p.ops.length ≤ 260) && p.ops.all fun o => decide (o.text.size ≤ 200))
def fewL (most : Nat) (l : List PatchM) : Bool := decide (l.length ≤ most) && l.all fun p => fewP p && decide (p.ops.length ≤ 60)
theorem fewL_len {m : Nat} {l : List PatchM} (h : fewL m l = true) : l.length ≤ m := by unfold fewL at h; simp at h; exact h.1
theorem fewL_ops {m : Nat} {l : List PatchM} (h : fewL m l = true) {p : PatchM} (hp : p ∈ l) : p.ops.length ≤ 60 ∧ ∀ o ∈ p.ops, o.text.size ≤ 200 := by
  unfold fewL fewP at h
  simp only [Bool.and_eq_true, List.all_eq_true, decide_eq_true_eq] at h
  exact ⟨(h.2 p hp).2, (h.2 p hp).1.2.2⟩
theorem build_take {l : List PatchM} {k : Nat} {p : PatchM} (h : l[k]? = some p) : buildM (l.take (k + 1)) = applyM (buildM (l.take k)) p := by
  rw [take_succ' h]; unfold buildM; rw [List.foldl_append]; rfl
def BuildRes (w : World) (l : List PatchM) (e : Ending) (w' : World) : Prop := ∃ b bv be n, n ≤ 100 * l.length ∧ e = .returned (.pointer (some ⟨b, 0, none⟩)) ∧ GrL w b bv be n (buildM l) w'
set_option maxHeartbeats 4000000 in
set_option maxRecDepth 100000 in
theorem build_any (v : Value) (xs : List LaidP) (m : Nat) (hm : m ≤ 1000) (w : World) (hv : Pats w v xs) (hf : fewL m (xs.map (·.p)) = true) : Calls Tryz.prog 12 #[v] w (BuildRes w (xs.map (·.p))) := by
  have HV := Lib.hid hv
  have HF := Lib.hid hf
  have hlen : xs.length ≤ 1000 := by have := fewL_len hf; simp at this; omega
  obtain ⟨a, cap, rfl, h1, h2, hc⟩ := hv.1.at encPat_len
  unfold maxLen at h2
  have HC := Lib.hid hc
  clear hv hc hf
  go_enter Tryz.func12, Tryz.ntmps12
  go_wp2_with (first | (go_at_call 38; (with_reducible refine (gnew_any _).mono ?_); rintro e w1 ⟨b, bv, be, rfl, k1, k2, k3, hg, hb⟩))
  have HG : Hid (GrL w b bv be 0 [] w1) := Lib.hid ⟨k1, k2, k3, hg, hb⟩
  clear hg hb k1 k2 k3
  go_loopw [4] (fun v4 wr => ∃ k n : Nat, k ≤ xs.length ∧ n ≤ 100 * k ∧ v4 = .int .i64 k ∧ Hid (GrL w b bv be n (buildM ((xs.map (·.p)).take k)) wr)) (fun v4 _ => xs.length - (intOf v4).toNat)
  case atStart => exact ⟨0, 0, by omega, by omega, rfl, HG⟩
  case round =>
    obtain ⟨k, n, hk, hn, rfl, HGr⟩ := hrel
    by_cases hlt : k < xs.length
    · obtain ⟨bo, off, rfl, sb, hcb⟩ := HC.out.resolve_left (by omega)
      obtain ⟨x, hx⟩ := get_of_lt hlt
      have HX := Lib.hid hx
      have hp : PatOk w x := HV.out.2 x (List.mem_of_getElem? hx)
      have HPd := Lib.hid hp.1
      have HPo := Lib.hid hp.2
      have hfx := fewL_ops HF.out (List.mem_map_of_mem (f := (·.p)) (List.mem_of_getElem? hx))
      have hl6 : x.p.ops.length ≤ 60 := hfx.1
      have HZ : Hid (∀ o ∈ x.p.ops, o.text.size ≤ maxLen) := Lib.hid fun o ho => Nat.le_trans (hfx.2 o ho) (by unfold maxLen; omega)
      have HRx := Lib.hid (hcb k x hx wr (by obtain ⟨_, _, _, _, hb⟩ := HGr.out; exact hb))
      have x0 : wr.cell? ⟨bo, off + k * 4, none⟩ = some (.int .u8 (x.p.id.author.toNat : Int)) := (HRx.out).2 0 _ rfl
      have x1 : wr.cell? ⟨bo, off + k * 4 + 1, none⟩ = some (.int .u16 (x.p.id.seq.toNat : Int)) := (HRx.out).2 1 _ rfl
      have x2 : wr.cell? ⟨bo, off + k * 4 + 2, none⟩ = some x.dv := (HRx.out).2 2 _ rfl
      have x3 : wr.cell? ⟨bo, off + k * 4 + 3, none⟩ = some x.ov := (HRx.out).2 3 _ rfl
      have sx := HRx.out.1
      have HS : Hid (buildM ((xs.map (·.p)).take (k + 1)) = applyM (buildM ((xs.map (·.p)).take k)) x.p) := build_take (by rw [List.getElem?_map, HX.out]; rfl)
      clear hcb hx hp hfx
      go_wp2_with (first | (go_at_call 27; go_loud (with_reducible refine (gapply_L b bv be n (buildM ((xs.map (·.p)).take k)) (wf_build _) x.p x.dv x.ov w _ HGr.out HPd.out HPo.out (by omega) HZ.out (by omega)).mono ?_); rintro e w2 ⟨rfl, hgr⟩))
      go_roundw
      case rel => exact ⟨k + 1, n + x.p.ops.length, hlt, (by omega), by go_num, (by show GrL _ _ _ _ _ _ _; rw [HS.out]; exact hgr)⟩
      case measure => simp [intOf]; omega
    · obtain rfl : k = xs.length := by omega
      go_wp2_with fail
      go_ret
      refine ⟨b, bv, be, n, by simpa using hn, rfl, ?_⟩
      have := HGr.out
      rw [← List.map_take, List.take_length] at this
      exact this
end Go.Proofs.YtllcipobiengiaaGreat
namespace Go.Proofs.YtllcipobiengiaaGreat
open Go Go.RowKit

attribute [local irreducible] fewP
attribute [local irreducible] fewL
end Go.Proofs.YtllcipobiengiaaGreat
namespace Go.Proofs.YtllcipobiengiaaGreat
open Go Go.RowKit

end Go.Proofs.YtllcipobiengiaaGreat
namespace Go.Proofs.YtllcipobiengiaaGreat
open Go Go.RowKit

attribute [local irreducible] madeBy vertM deadM vertOp
end Go.Proofs.YtllcipobiengiaaGreat
namespace Go.Proofs.YtllcipobiengiaaGreat
open Go Go.RowKit

attribute [local irreducible] vertM isK optV
end Go.Proofs.YtllcipobiengiaaGreat
namespace Go.Proofs.YtllcipobiengiaaGreat
open Go Go.RowKit

attribute [local irreducible] cmpVid
end Go.Proofs.YtllcipobiengiaaGreat
namespace Go.Proofs.YtllcipobiengiaaGreat
open Go Go.RowKit

end Go.Proofs.YtllcipobiengiaaGreat
namespace Go.Proofs.YtllcipobiengiaaGreat
open Go Go.RowKit

theorem encEdge_len (e : EdgeM) : (encEdge e).length = 6 := rfl
theorem slEdge : SlT Tryz.prog 110 113 6 12 := slT_of Tryz.underlying110 (by kernel_rfl) (by decide)
end Go.Proofs.YtllcipobiengiaaGreat
