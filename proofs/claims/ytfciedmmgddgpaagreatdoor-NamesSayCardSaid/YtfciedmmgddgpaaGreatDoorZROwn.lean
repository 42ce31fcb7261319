/- Contract of bruitref18.own. -/
import Derived.Test.YtfciedmmgddgpaaGreatDoorZKeys
import Derived.Test.YtfciedmmgddgpaaGreatDoorZGRow
import Derived.Test.YtfciedmmgddgpaaGreatDoorZVecB
namespace Go.Proofs.YtfciedmmgddgpaaGreatDoor
open Go Go.RowKit

def ownM (id : PidM) (ops : List OpM) (v : VidM) (k : UInt8) : Bool := decide (v.pid ≠ id) || (match ops[v.n.toNat]? with | some o => o.kind == k | none => false)
theorem own_far {id : PidM} {ops : List OpM} {v : VidM} {k : UInt8} (h : ¬ v.pid = id) : ownM id ops v k = true := by unfold ownM; simp [h]
theorem own_out {id : PidM} {ops : List OpM} {v : VidM} {k : UInt8} (h : v.pid = id) (hn : ¬ v.n.toNat < ops.length) : ownM id ops v k = false := by unfold ownM; rw [List.getElem?_eq_none (by omega)]; simp [h]
theorem own_in {id : PidM} {ops : List OpM} {v : VidM} {k : UInt8} (h : v.pid = id) {o : OpM} (ho : ops[v.n.toNat]? = some o) : ownM id ops v k = (o.kind == k) := by unfold ownM; rw [ho]; simp [h]
attribute [local irreducible] ownM
set_option maxHeartbeats 4000000 in
set_option maxRecDepth 100000 in
theorem rown_any (id : PidM) (dv ov : Value) (ops : List OpM) (v : VidM) (k : UInt8) (w : World) (hv : GRow encOp 8 w ov ops) :
    Calls Tryz.prog 145 #[patV id dv ov, vidV v, .int .u8 (k.toNat : Int)] w fun e w' => e = .returned (.bool (ownM id ops v k)) ∧ Below w.heap.size w w' := by
  obtain ⟨a, cap, rfl, h1, h2, hc⟩ := hv.at encOp_len
  unfold maxLen at h2
  have HC := Lib.hid hc
  have HP := Lib.hid ((arr_new w #[.int .u8 (id.author.toNat : Int), .int .u16 (id.seq.toNat : Int), dv, .slice a ops.length cap] 51).alloc (.cells #[.int .u8 (v.pid.author.toNat : Int), .int .u16 (v.pid.seq.toNat : Int), .int .u8 (v.n.toNat : Int)] 27))
  have HV := Lib.hid (arr_new2 w (.cells #[.int .u8 (id.author.toNat : Int), .int .u16 (id.seq.toNat : Int), dv, .slice a ops.length cap] 51) #[.int .u8 (v.pid.author.toNat : Int), .int .u16 (v.pid.seq.toNat : Int), .int .u8 (v.n.toNat : Int)] 27)
  have HB := Lib.hid ((below_new (w := w) (.cells #[.int .u8 (id.author.toNat : Int), .int .u16 (id.seq.toNat : Int), dv, .slice a ops.length cap] 51)).alloc (by simp) (.cells #[.int .u8 (v.pid.author.toNat : Int), .int .u16 (v.pid.seq.toNat : Int), .int .u8 (v.n.toNat : Int)] 27))
  have gd := fun p q xs ys w => guard_pid .neq p q xs ys w
  have hnl := v.n.toNat_lt
  clear hv hc
  unfold patV vidV
  go_enter Tryz.func145, Tryz.ntmps145
  go_upto_region 1 with (fail)
  generalize hw0 : (w.alloc (.cells #[.int .u8 (id.author.toNat : Int), .int .u16 (id.seq.toNat : Int), dv, .slice a ops.length cap] 51)).alloc (.cells #[.int .u8 (v.pid.author.toNat : Int), .int .u16 (v.pid.seq.toNat : Int), .int .u8 (v.n.toNat : Int)] 27) = w0 at *
  clear hw0
  have p0 := HP.out.cell (j := 0) rfl
  have p1 := HP.out.cell (j := 1) rfl
  have p2 := HP.out.cell (j := 2) rfl
  have p3 := HP.out.cell (j := 3) rfl
  have sp := HP.out.lt
  have v0 := HV.out.cell (j := 0) rfl
  have v1 := HV.out.cell (j := 1) rfl
  have v2 := HV.out.cell (j := 2) rfl
  have sv := HV.out.lt
  by_cases hp : v.pid = id
  · have e1 := neq_pid v.pid id false (by simp [hp])
    unfold pidV at e1
    by_cases hn : v.n.toNat < ops.length
    · have e2 : decide (v.n.toNat < ops.length) = true := by simpa using hn
      obtain ⟨b, off, rfl, sb, hcb⟩ := HC.out.resolve_left (by omega)
      obtain ⟨o, ho⟩ := get_op hn
      have HO := Lib.hid (hcb v.n.toNat o ho w0 HB.out)
      have o0 : w0.cell? ⟨b, off + v.n.toNat * 8, none⟩ = some (.int .u8 (o.kind.toNat : Int)) := HO.out.2 0 _ rfl
      have so := HO.out.1
      by_cases hk : o.kind = k
      · have HK : Hid (ownM id ops v k = true) := by show _ = _; rw [own_in hp ho]; simp [hk]
        have e3 : ((o.kind.toNat : Int) == (k.toNat : Int)) = true := by simp [hk]
        clear hp hcb ho hk
        go_wp2_with fail
        go_ret
        exact ⟨ret_val (congrArg Value.bool HK.out.symm), HB.out⟩
      · have HK : Hid (ownM id ops v k = false) := by show _ = _; rw [own_in hp ho]; simp [hk]
        have e3 : ((o.kind.toNat : Int) == (k.toNat : Int)) = false := by
          simp; intro h; exact hk (UInt8.toNat_inj.1 (by omega))
        clear hp hcb ho hk
        go_wp2_with fail
        go_ret
        exact ⟨ret_val (congrArg Value.bool HK.out.symm), HB.out⟩
    · have e2 : decide (v.n.toNat < ops.length) = false := by simpa using hn
      have HK := Lib.hid (own_out (k := k) hp hn)
      clear hp hn
      go_wp2_with fail
      go_ret
      exact ⟨ret_val (congrArg Value.bool HK.out.symm), HB.out⟩
  · have e1 := neq_pid v.pid id true (by simp [hp])
    unfold pidV at e1
    have HK := Lib.hid (own_far (ops := ops) (k := k) hp)
    clear hp
    go_wp2_with fail
    go_ret
    exact ⟨ret_val (congrArg Value.bool HK.out.symm), HB.out⟩
end Go.Proofs.YtfciedmmgddgpaaGreatDoor
