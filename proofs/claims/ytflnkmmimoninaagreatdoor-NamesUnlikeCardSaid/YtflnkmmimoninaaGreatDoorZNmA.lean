/- Contracts of the graph's Of and Files. Contracts of pid.Later, cmp.Compare at bytes, cmp.Or, vid.Later: told by draws and new blocks alone. -/
import Derived.Test.YtflnkmmimoninaaGreatDoorZSome
import Derived.Test.YtflnkmmimoninaaGreatDoorZCmpG
import Derived.Test.YtflnkmmimoninaaGreatDoorZNmP
namespace Go.Proofs.YtflnkmmimoninaaGreatDoor
open Go Go.RowKit

theorem ofM_q (L : List PatchM) (file : VidM) (kind : UInt8) : (vertsM L).filter (qOf file kind) = ofM L file kind := rfl
theorem filesM_q (L : List PatchM) : ((vertsM L).filter qFile).map (·.id) = filesM L := rfl
set_option maxHeartbeats 2000000 in
set_option maxRecDepth 100000 in
theorem gof_any (b : Nat) (L : List PatchM) (file : VidM) (kind : UInt8) (w : World) (hg : GrIs w b L) (hw : WfG L) (hil : (idsM L).length ≤ 1000000) :
    Calls Tryz.prog 26 #[.pointer (some ⟨b, 0, none⟩), vidV file, .int .u8 (kind.toNat : Int)] w (OwnRes encVert 9 53 w (ofM L file kind)) := by
  have HF := Lib.hid ((arr_new w #[.int .u8 (file.pid.author.toNat : Int), .int .u16 (file.pid.seq.toNat : Int), .int .u8 (file.n.toNat : Int)] 27).alloc (.cells #[.int .u8 (kind.toNat : Int)] 5))
  have HK := Lib.hid (arr_new2 w (.cells #[.int .u8 (file.pid.author.toNat : Int), .int .u16 (file.pid.seq.toNat : Int), .int .u8 (file.n.toNat : Int)] 27) #[.int .u8 (kind.toNat : Int)] 5)
  have HB := Lib.hid ((below_new (w := w) (.cells #[.int .u8 (file.pid.author.toNat : Int), .int .u16 (file.pid.seq.toNat : Int), .int .u8 (file.n.toNat : Int)] 27)).alloc (by simp) (.cells #[.int .u8 (kind.toNat : Int)] 5))
  have HG := Lib.hid hg
  have HW := Lib.hid hw
  have HQ := Lib.hid (ofM_q L file kind)
  clear hg hw
  unfold vidV
  go_enter Tryz.func26, Tryz.ntmps26
  go_upto_region 1 with (fail)
  generalize hw0 : (w.alloc (.cells #[.int .u8 (file.pid.author.toNat : Int), .int .u16 (file.pid.seq.toNat : Int), .int .u8 (file.n.toNat : Int)] 27)).alloc (.cells #[.int .u8 (kind.toNat : Int)] 5) = w0 at *
  clear hw0
  go_wp2_with fail
  refine (psomeOf_any b L _ (HG.out.over HB.out) HW.out hil file kind (w.heap.size + 1) w.heap.size HK.out HF.out).mono ?_
  rintro e w1 ⟨v, rfl, ho, hb⟩
  rw [HQ.out] at ho
  have HO := Lib.hid (ho.base HB.out.size)
  have HB1 := Lib.hid (below_over HB.out HB.out.size hb)
  clear ho hb
  go_wp2_with fail
  go_ret
  exact ⟨_, rfl, HO.out, HB1.out⟩
def FsRel (w2 : World) (xs : List VertM) (v3 v9 : Value) (wr : World) : Prop := ∃ k : Nat, k ≤ xs.length ∧ v9 = .int .i64 k ∧ Hid (GOwn encVid 3 27 wr w2.heap.size v3 ((xs.take k).map (·.id))) ∧ Below w2.heap.size w2 wr
theorem fs_succ {xs : List VertM} {k : Nat} {x : VertM} (h : xs[k]? = some x) : (xs.take (k + 1)).map (·.id) = (xs.take k).map (·.id) ++ [x.id] := by rw [take_succ' h]; simp
attribute [local irreducible] vertsM idsM qFile filesM
set_option maxHeartbeats 4000000 in
set_option maxRecDepth 100000 in
theorem gfiles_any (b : Nat) (L : List PatchM) (w : World) (hg : GrIs w b L) (hw : WfG L) (hil : (idsM L).length ≤ 1000000) :
    Calls Tryz.prog 34 #[.pointer (some ⟨b, 0, none⟩)] w (OwnRes encVid 3 27 w (filesM L)) := by
  have HG := Lib.hid hg
  have HW := Lib.hid hw
  have hvl : ((vertsM L).filter qFile).length ≤ 1000000 := Nat.le_trans (List.length_filter_le _ _) (by unfold vertsM; rw [List.length_map]; exact hil)
  have HQ := Lib.hid (filesM_q L)
  clear hg hw
  go_enter Tryz.func34, Tryz.ntmps34
  go_wp2_with fail
  refine (psomeFile_any b L _ HG.out HW.out hil).mono ?_
  generalize (vertsM L).filter qFile = xs at *
  rintro e w2 ⟨v, rfl, ho, hb⟩
  obtain ⟨a, cap, rfl, t1, t2, hc⟩ := ho.row.at encVert_len
  unfold maxLen at t2
  have HC := Lib.hid hc
  have HB2 := Lib.hid hb
  clear ho hb hc
  go_wp2_with fail
  go_loopw [3, 9] (fun v3 v9 wr => FsRel w2 xs v3 v9 wr) (fun _ v9 _ => xs.length - (intOf v9).toNat)
  case atStart => exact ⟨0, Nat.zero_le _, rfl, gown_nil _ _, Below.refl _ _⟩
  case round =>
    obtain ⟨k, hk, rfl, HM, hbl⟩ := hrel
    rename World => wr
    by_cases hlt : k < xs.length
    · obtain ⟨b3, off3, rfl, sb3, hcb⟩ := HC.out.resolve_left (by omega)
      obtain ⟨u, hu⟩ := get_of_lt hlt
      have HSu := Lib.hid (fs_succ hu)
      have HU := Lib.hid (hcb k u hu wr hbl)
      have u0 : wr.cell? ⟨b3, off3 + k * 9, none⟩ = some (.int .u8 (u.id.pid.author.toNat : Int)) := (HU.out).2 0 _ rfl
      have u1 : wr.cell? ⟨b3, off3 + k * 9 + 1, none⟩ = some (.int .u16 (u.id.pid.seq.toNat : Int)) := (HU.out).2 1 _ rfl
      have u2 : wr.cell? ⟨b3, off3 + k * 9 + 2, none⟩ = some (.int .u8 (u.id.n.toNat : Int)) := (HU.out).2 2 _ rfl
      have u3 : wr.cell? ⟨b3, off3 + k * 9 + 3, none⟩ = some (.int .u8 (u.kind.toNat : Int)) := (HU.out).2 3 _ rfl
      have u4 : wr.cell? ⟨b3, off3 + k * 9 + 4, none⟩ = some (.int .u8 (u.file.pid.author.toNat : Int)) := (HU.out).2 4 _ rfl
      have u5 : wr.cell? ⟨b3, off3 + k * 9 + 5, none⟩ = some (.int .u16 (u.file.pid.seq.toNat : Int)) := (HU.out).2 5 _ rfl
      have u6 : wr.cell? ⟨b3, off3 + k * 9 + 6, none⟩ = some (.int .u8 (u.file.n.toNat : Int)) := (HU.out).2 6 _ rfl
      have u7 : wr.cell? ⟨b3, off3 + k * 9 + 7, none⟩ = some (.string u.text) := (HU.out).2 7 _ rfl
      have u8 : wr.cell? ⟨b3, off3 + k * 9 + 8, none⟩ = some (.bool u.dead) := (HU.out).2 8 _ rfl
      have su := HU.out.1
      clear hcb hu
      go_upto_region 5 with (fail)
      have HA7 := Lib.hid (arr_new wr #[.int .u8 (u.id.pid.author.toNat : Int), .int .u16 (u.id.pid.seq.toNat : Int), .int .u8 (u.id.n.toNat : Int), .int .u8 (u.kind.toNat : Int), .int .u8 (u.file.pid.author.toNat : Int), .int .u16 (u.file.pid.seq.toNat : Int), .int .u8 (u.file.n.toNat : Int), .string u.text, .bool u.dead] 53)
      have HB7 := Lib.hid (below_new (w := wr) (.cells #[.int .u8 (u.id.pid.author.toNat : Int), .int .u16 (u.id.pid.seq.toNat : Int), .int .u8 (u.id.n.toNat : Int), .int .u8 (u.kind.toNat : Int), .int .u8 (u.file.pid.author.toNat : Int), .int .u16 (u.file.pid.seq.toNat : Int), .int .u8 (u.file.n.toNat : Int), .string u.text, .bool u.dead] 53))
      generalize hw7 : wr.alloc (.cells #[.int .u8 (u.id.pid.author.toNat : Int), .int .u16 (u.id.pid.seq.toNat : Int), .int .u8 (u.id.n.toNat : Int), .int .u8 (u.kind.toNat : Int), .int .u8 (u.file.pid.author.toNat : Int), .int .u16 (u.file.pid.seq.toNat : Int), .int .u8 (u.file.n.toNat : Int), .string u.text, .bool u.dead] 53) = w7 at *
      clear hw7 u0 u1 u2 u3 u4 u5 u6 u7 u8 su
      have hs7 := HB7.out.size
      have hsl := hbl.size
      have HM7 := Lib.hid (HM.out.over HB7.out)
      have hb7 := below_over hbl hbl.size HB7.out
      have hB7 : w2.heap.size ≤ w7.heap.size := by omega
      have hN7 : ((xs.take k).map (·.id)).length + 1 ≤ 1099511627776 := by rw [List.length_map, List.length_take]; omega
      have y0 := HA7.out.cell (j := 0) rfl
      have y1 := HA7.out.cell (j := 1) rfl
      have y2 := HA7.out.cell (j := 2) rfl
      have y3 := HA7.out.cell (j := 3) rfl
      have y4 := HA7.out.cell (j := 4) rfl
      have y5 := HA7.out.cell (j := 5) rfl
      have y6 := HA7.out.cell (j := 6) rfl
      have y7 := HA7.out.cell (j := 7) rfl
      have y8 := HA7.out.cell (j := 8) rfl
      have sy := HA7.out.lt
      go_wp2_with (at_builtin; (first | refine wpList_append_newD slVid rfl _ _ rfl w2.heap.size _ _ (drawn_alloc_drewN _ _ _) 1 _ _ _ HM7.out rfl rfl rfl rfl hN7 (by decide) hB7 ?_ | refine wpList_append_newD slVid rfl _ _ rfl w2.heap.size _ _ (drawn_drew _) 1 _ _ _ HM7.out rfl rfl rfl rfl hN7 (by decide) hB7 ?_ | refine wpList_append_newD slVid rfl _ _ rfl w2.heap.size _ _ (drawn_drewN _ _) 1 _ _ _ HM7.out rfl rfl rfl rfl hN7 (by decide) hB7 ?_ | refine wpList_append_newD slVid rfl _ _ rfl w2.heap.size _ _ (drawn_refl _) 1 _ _ _ HM7.out rfl rfl rfl rfl hN7 (by decide) hB7 ?_); intro v9 w9 ho9 hg9)
      go_roundw
      case rel => exact ⟨k + 1, hlt, by go_num, (by show GOwn _ _ _ _ _ _ _; rw [HSu.out]; exact GOwn.snoc ho9), below_grown hb7 hB7 HM7.out hg9⟩
      case measure => simp [intOf]; omega
    · obtain rfl : k = xs.length := by omega
      have HE := HM.out
      rw [List.take_length, HQ.out] at HE
      have HE2 := Lib.hid (HE.base HB2.out.size)
      clear HE HM
      go_wp2_with fail
      go_ret
      exact ⟨_, rfl, HE2.out, below_over HB2.out HB2.out.size hbl⟩
end Go.Proofs.YtflnkmmimoninaaGreatDoor
namespace Go.Proofs.YtflnkmmimoninaaGreatDoor
open Go Go.RowKit

def laterP (a b : PidM) : Int := if a = b then 0 else if a.seq.toNat < b.seq.toNat then -1 else if a.seq.toNat = b.seq.toNat ∧ a.author.toNat < b.author.toNat then -1 else 1
theorem laterP_key (a b : PidM) : laterP a b = cmpN (a.seq.toNat * 256 + a.author.toNat) (b.seq.toNat * 256 + b.author.toNat) := by
  have h1 := a.author.toNat_lt
  have h2 := b.author.toNat_lt
  unfold laterP
  by_cases h : a = b
  · rw [if_pos h, h, cmpN_eq rfl]
  · have hne : ¬ (a.seq.toNat = b.seq.toNat ∧ a.author.toNat = b.author.toNat) := fun ⟨e1, e2⟩ => h (by
      obtain ⟨a1, a2⟩ := a
      obtain ⟨b1, b2⟩ := b
      simp at e1 e2
      rw [UInt16.toNat_inj.1 e1, UInt8.toNat_inj.1 e2])
    rw [if_neg h]
    by_cases h3 : a.seq.toNat < b.seq.toNat
    · rw [if_pos h3, cmpN_lt (by omega)]
    · rw [if_neg h3]
      by_cases h4 : a.seq.toNat = b.seq.toNat ∧ a.author.toNat < b.author.toNat
      · rw [if_pos h4, cmpN_lt (by omega)]
      · rw [if_neg h4, cmpN_gt (by omega)]
def orI (x y : Int) : Int := if x = 0 then y else x
theorem or_lex (A B m n : Nat) (h1 : m < 256) (h2 : n < 256) : orI (cmpN A B) (cmpN m n) = cmpN (A * 256 + m) (B * 256 + n) := by
  unfold orI
  rcases Nat.lt_trichotomy A B with h | h | h
  · have h3 : A * 256 + m < B * 256 + n := by omega
    rw [cmpN_lt h, cmpN_lt h3, if_neg (by decide)]
  · subst h
    rw [cmpN_eq rfl, if_pos rfl]
    rcases Nat.lt_trichotomy m n with h3 | h3 | h3
    · have h4 : A * 256 + m < A * 256 + n := by omega
      rw [cmpN_lt h3, cmpN_lt h4]
    · subst h3
      rw [cmpN_eq rfl, cmpN_eq rfl]
    · have h4 : A * 256 + n < A * 256 + m := by omega
      rw [cmpN_gt h3, cmpN_gt h4]
  · have h3 : B * 256 + n < A * 256 + m := by omega
    rw [cmpN_gt h, cmpN_gt h3, if_neg (by decide)]
theorem later_or (a b : VidM) : orI (laterP a.pid b.pid) (cmpN a.n.toNat b.n.toNat) = cmpLater a b := by
  rw [laterP_key]
  exact or_lex _ _ _ _ a.n.toNat_lt b.n.toNat_lt
attribute [local irreducible] laterP cmpN orI
set_option maxHeartbeats 4000000 in
set_option maxRecDepth 100000 in
theorem platerG (a b : PidM) (w : World) : Calls Tryz.prog 57 #[pidV a, pidV b] w fun e w' => e = .returned (.int .i64 (laterP a b)) ∧ Grew w w' := by
  have HA := Lib.hid ((arr_new w #[.int .u8 (a.author.toNat : Int), .int .u16 (a.seq.toNat : Int)] 25).alloc (.cells #[.int .u8 (b.author.toNat : Int), .int .u16 (b.seq.toNat : Int)] 25))
  have HC := Lib.hid (arr_new2 w (.cells #[.int .u8 (a.author.toNat : Int), .int .u16 (a.seq.toNat : Int)] 25) #[.int .u8 (b.author.toNat : Int), .int .u16 (b.seq.toNat : Int)] 25)
  have HB := Lib.hid (((Grew.refl w).alloc (.cells #[.int .u8 (a.author.toNat : Int), .int .u16 (a.seq.toNat : Int)] 25)).alloc (.cells #[.int .u8 (b.author.toNat : Int), .int .u16 (b.seq.toNat : Int)] 25))
  have gd := fun p q xs ys w => guard_pid .eql p q xs ys w
  have s1 : (a.seq.toNat : Int) < 65536 := by have := a.seq.toNat_lt; omega
  have s2 : (b.seq.toNat : Int) < 65536 := by have := b.seq.toNat_lt; omega
  by_cases h0 : a = b
  · have e0 := eql_pid a b true (by simp [h0])
    have HV : Hid (laterP a b = 0) := by show _ = _; unfold laterP; rw [if_pos h0]
    clear h0
    unfold pidV at e0 ⊢
    go_enter Tryz.func57, Tryz.ntmps57
    go_upto_region 1 with (fail)
    generalize hw0 : (w.alloc (.cells #[.int .u8 (a.author.toNat : Int), .int .u16 (a.seq.toNat : Int)] 25)).alloc (.cells #[.int .u8 (b.author.toNat : Int), .int .u16 (b.seq.toNat : Int)] 25) = w0 at *
    clear hw0
    have c0 := HA.out.cell (j := 0) rfl
    have c1 := HA.out.cell (j := 1) rfl
    have sc := HA.out.lt
    have d0 := HC.out.cell (j := 0) rfl
    have d1 := HC.out.cell (j := 1) rfl
    have sd := HC.out.lt
    go_wp2_with fail
    go_ret
    exact ⟨ret_int HV.out.symm, HB.out⟩
  · have e0 := eql_pid a b false (by simp [h0])
    unfold pidV at e0 ⊢
    by_cases h1 : a.seq.toNat < b.seq.toNat
    · have d1 : decide (a.seq.toNat < b.seq.toNat) = true := by simpa using h1
      have HV : Hid (laterP a b = -1) := by show _ = _; unfold laterP; rw [if_neg h0, if_pos h1]
      clear h0
      go_enter Tryz.func57, Tryz.ntmps57
      go_upto_region 1 with (fail)
      generalize hw0 : (w.alloc (.cells #[.int .u8 (a.author.toNat : Int), .int .u16 (a.seq.toNat : Int)] 25)).alloc (.cells #[.int .u8 (b.author.toNat : Int), .int .u16 (b.seq.toNat : Int)] 25) = w0 at *
      clear hw0
      have c0 := HA.out.cell (j := 0) rfl
      have c1 := HA.out.cell (j := 1) rfl
      have sc := HA.out.lt
      have d0 := HC.out.cell (j := 0) rfl
      have d1 := HC.out.cell (j := 1) rfl
      have sd := HC.out.lt
      go_wp2_with fail
      go_ret
      exact ⟨ret_int HV.out.symm, HB.out⟩
    · have d1 : decide (a.seq.toNat < b.seq.toNat) = false := by simpa using h1
      by_cases h2 : a.seq.toNat = b.seq.toNat
      · have d2 : ((a.seq.toNat : Int) == (b.seq.toNat : Int)) = true := by simp [h2]
        by_cases h3 : a.author.toNat < b.author.toNat
        · have d3 : decide (a.author.toNat < b.author.toNat) = true := by simpa using h3
          have HV : Hid (laterP a b = -1) := by show _ = _; unfold laterP; rw [if_neg h0, if_neg h1, if_pos ⟨h2, h3⟩]
          clear h0 h1 h2
          go_enter Tryz.func57, Tryz.ntmps57
          go_upto_region 1 with (fail)
          generalize hw0 : (w.alloc (.cells #[.int .u8 (a.author.toNat : Int), .int .u16 (a.seq.toNat : Int)] 25)).alloc (.cells #[.int .u8 (b.author.toNat : Int), .int .u16 (b.seq.toNat : Int)] 25) = w0 at *
          clear hw0
          have c0 := HA.out.cell (j := 0) rfl
          have c1 := HA.out.cell (j := 1) rfl
          have sc := HA.out.lt
          have d0 := HC.out.cell (j := 0) rfl
          have d1 := HC.out.cell (j := 1) rfl
          have sd := HC.out.lt
          go_wp2_with fail
          go_ret
          exact ⟨ret_int HV.out.symm, HB.out⟩
        · have d3 : decide (a.author.toNat < b.author.toNat) = false := by simpa using h3
          have HV : Hid (laterP a b = 1) := by show _ = _; unfold laterP; rw [if_neg h0, if_neg h1, if_neg (fun q => h3 q.2)]
          clear h0 h1 h2
          go_enter Tryz.func57, Tryz.ntmps57
          go_upto_region 1 with (fail)
          generalize hw0 : (w.alloc (.cells #[.int .u8 (a.author.toNat : Int), .int .u16 (a.seq.toNat : Int)] 25)).alloc (.cells #[.int .u8 (b.author.toNat : Int), .int .u16 (b.seq.toNat : Int)] 25) = w0 at *
          clear hw0
          have c0 := HA.out.cell (j := 0) rfl
          have c1 := HA.out.cell (j := 1) rfl
          have sc := HA.out.lt
          have d0 := HC.out.cell (j := 0) rfl
          have d1 := HC.out.cell (j := 1) rfl
          have sd := HC.out.lt
          go_wp2_with fail
          go_ret
          exact ⟨ret_int HV.out.symm, HB.out⟩
      · have d2 : ((a.seq.toNat : Int) == (b.seq.toNat : Int)) = false := by simp; omega
        have HV : Hid (laterP a b = 1) := by show _ = _; unfold laterP; rw [if_neg h0, if_neg h1, if_neg (fun q => h2 q.1)]
        clear h0 h1 h2
        go_enter Tryz.func57, Tryz.ntmps57
        go_upto_region 1 with (fail)
        generalize hw0 : (w.alloc (.cells #[.int .u8 (a.author.toNat : Int), .int .u16 (a.seq.toNat : Int)] 25)).alloc (.cells #[.int .u8 (b.author.toNat : Int), .int .u16 (b.seq.toNat : Int)] 25) = w0 at *
        clear hw0
        have c0 := HA.out.cell (j := 0) rfl
        have c1 := HA.out.cell (j := 1) rfl
        have sc := HA.out.lt
        have d0 := HC.out.cell (j := 0) rfl
        have d1 := HC.out.cell (j := 1) rfl
        have sd := HC.out.lt
        go_wp2_with fail
        go_ret
        exact ⟨ret_int HV.out.symm, HB.out⟩
set_option maxHeartbeats 4000000 in
set_option maxRecDepth 100000 in
theorem nan8_any (a : Nat) (w : World) : Calls Tryz.prog 99 #[.int .u8 (a : Int)] w fun e w' => e = .returned (.bool false) ∧ w' = w := by
  go_enter Tryz.func99, Tryz.ntmps99
  go_wp2
  go_ret
  exact ⟨rfl, rfl⟩
set_option maxHeartbeats 4000000 in
set_option maxRecDepth 100000 in
theorem compare8_any (a b : Nat) (w : World) : Calls Tryz.prog 58 #[.int .u8 (a : Int), .int .u8 (b : Int)] w fun e w' => e = .returned (.int .i64 (cmpN a b)) ∧ w' = w := by
  by_cases h1 : a < b
  · have HC := Lib.hid (cmpN_lt h1)
    have d1 : decide (a < b) = true := by simpa using h1
    go_enter Tryz.func58, Tryz.ntmps58
    go_wp2_with (go_at_call 99; (with_reducible refine (nan8_any _ _).mono ?_); rintro e w' ⟨rfl, rfl⟩)
    go_ret
    exact ⟨ret_int HC.out.symm, rfl⟩
  · have d1 : decide (a < b) = false := by simpa using h1
    by_cases h2 : b < a
    · have HC := Lib.hid (cmpN_gt h2)
      have d2 : decide (b < a) = true := by simpa using h2
      go_enter Tryz.func58, Tryz.ntmps58
      go_wp2_with (go_at_call 99; (with_reducible refine (nan8_any _ _).mono ?_); rintro e w' ⟨rfl, rfl⟩)
      go_ret
      exact ⟨ret_int HC.out.symm, rfl⟩
    · have HC := Lib.hid (cmpN_eq (show a = b by omega))
      have d2 : decide (b < a) = false := by simpa using h2
      go_enter Tryz.func58, Tryz.ntmps58
      go_wp2_with (go_at_call 99; (with_reducible refine (nan8_any _ _).mono ?_); rintro e w' ⟨rfl, rfl⟩)
      go_ret
      exact ⟨ret_int HC.out.symm, rfl⟩
set_option maxHeartbeats 4000000 in
set_option maxRecDepth 100000 in
theorem orInt_any (x y : Int) (b : Nat) (w : World) (hA : Arr w b [.int .i64 x, .int .i64 y]) : Calls Tryz.prog 56 #[.slice (some ⟨b, 0, none⟩) 2 2] w fun e w' => e = .returned (.int .i64 (orI x y)) ∧ w' = w := by
  have c0 := hA.cell (j := 0) rfl
  have c1 := hA.cell (j := 1) rfl
  clear hA
  go_enter Tryz.func56, Tryz.ntmps56
  go_wp2_with fail
  go_loopw [8] (fun v8 wr => ∃ k : Nat, k ≤ 2 ∧ v8 = .int .i64 k ∧ Hid (1 ≤ k → x = 0) ∧ Hid (2 ≤ k → y = 0) ∧ wr = w) (fun v8 _ => 2 - (intOf v8).toNat)
  case atStart => exact ⟨0, by omega, rfl, Lib.hid (fun h => by omega), Lib.hid (fun h => by omega), rfl⟩
  case round =>
    obtain ⟨k, hk, rfl, HX, HY, rfl⟩ := hrel
    by_cases k0 : k = 0
    · subst k0
      by_cases hx : x = 0
      · have d : (x == 0) = true := by simp [hx]
        have H1 : Hid (1 ≤ 1 → x = 0) := fun _ => hx
        have H2 : Hid (2 ≤ 1 → y = 0) := fun h => by omega
        clear hx
        go_wp2_with fail
        go_roundw
        case rel => exact ⟨1, by omega, by go_num, H1, H2, trivial⟩
        case measure => simp [intOf]
      · have d : (x == 0) = false := by simp [hx]
        have HV : Hid (orI x y = x) := by show _ = _; unfold orI; rw [if_neg hx]
        clear hx
        go_wp2_with fail
        go_ret
        exact ⟨ret_int HV.out.symm, rfl⟩
    · by_cases k1 : k = 1
      · subst k1
        have hx := HX.out (Nat.le_refl _)
        by_cases hy : y = 0
        · have d : (y == 0) = true := by simp [hy]
          have H1 : Hid (1 ≤ 2 → x = 0) := fun _ => hx
          have H2 : Hid (2 ≤ 2 → y = 0) := fun _ => hy
          clear hx hy
          go_wp2_with fail
          go_roundw
          case rel => exact ⟨2, by omega, by go_num, H1, H2, trivial⟩
          case measure => simp [intOf]
        · have d : (y == 0) = false := by simp [hy]
          have HV : Hid (orI x y = y) := by show _ = _; unfold orI; rw [if_pos hx]
          clear hx hy
          go_wp2_with fail
          go_ret
          exact ⟨ret_int HV.out.symm, rfl⟩
      · obtain rfl : k = 2 := by omega
        have HV : Hid (orI x y = 0) := by show _ = _; unfold orI; rw [if_pos (HX.out (by omega)), HY.out (Nat.le_refl _)]
        go_wp2_with fail
        go_ret
        exact ⟨ret_int HV.out.symm, rfl⟩
set_option maxHeartbeats 4000000 in
set_option maxRecDepth 100000 in
theorem vlaterG (a b : VidM) (w : World) : Calls Tryz.prog 30 #[vidV a, vidV b] w fun e w' => e = .returned (.int .i64 (cmpLater a b)) ∧ Grew w w' := by
  have HA := Lib.hid ((arr_new w #[.int .u8 (a.pid.author.toNat : Int), .int .u16 (a.pid.seq.toNat : Int), .int .u8 (a.n.toNat : Int)] 27).alloc (.cells #[.int .u8 (b.pid.author.toNat : Int), .int .u16 (b.pid.seq.toNat : Int), .int .u8 (b.n.toNat : Int)] 27))
  have HC := Lib.hid (arr_new2 w (.cells #[.int .u8 (a.pid.author.toNat : Int), .int .u16 (a.pid.seq.toNat : Int), .int .u8 (a.n.toNat : Int)] 27) #[.int .u8 (b.pid.author.toNat : Int), .int .u16 (b.pid.seq.toNat : Int), .int .u8 (b.n.toNat : Int)] 27)
  have HB := Lib.hid (((Grew.refl w).alloc (.cells #[.int .u8 (a.pid.author.toNat : Int), .int .u16 (a.pid.seq.toNat : Int), .int .u8 (a.n.toNat : Int)] 27)).alloc (.cells #[.int .u8 (b.pid.author.toNat : Int), .int .u16 (b.pid.seq.toNat : Int), .int .u8 (b.n.toNat : Int)] 27))
  have HV := Lib.hid (later_or a b)
  unfold vidV
  go_enter Tryz.func30, Tryz.ntmps30
  go_upto_region 1 with (fail)
  generalize hw0 : (w.alloc (.cells #[.int .u8 (a.pid.author.toNat : Int), .int .u16 (a.pid.seq.toNat : Int), .int .u8 (a.n.toNat : Int)] 27)).alloc (.cells #[.int .u8 (b.pid.author.toNat : Int), .int .u16 (b.pid.seq.toNat : Int), .int .u8 (b.n.toNat : Int)] 27) = w0 at *
  clear hw0
  have c0 := HA.out.cell (j := 0) rfl
  have c1 := HA.out.cell (j := 1) rfl
  have c2 := HA.out.cell (j := 2) rfl
  have sc := HA.out.lt
  have d0 := HC.out.cell (j := 0) rfl
  have d1 := HC.out.cell (j := 1) rfl
  have d2 := HC.out.cell (j := 2) rfl
  have sd := HC.out.lt
  have hcur : Grew w0 w0.drew := (Grew.refl _).drew
  refine wp_region_lex (C := IsGrew w0) 13 [] (by kernel_rfl) (by kernel_rfl) (isGrew_of hcur) ?_
  simp only [List.take_succ_cons, List.take_zero, List.drop_succ_cons, List.drop_zero]
  repeat (first | (refine lex_skip rfl rfl ?_; simp only [Act.put, List.setIfInBounds_toArray, List.set_cons_succ, List.set_cons_zero]) | (refine lex_one rfl ?_; go_big_quiet_step (fail); refine wpQuiet_nil ?_) | (refine lex_loud rfl ?_; go_wp2_with (first | (go_at_call 57; (with_reducible refine (platerG a.pid b.pid _).mono ?_); rintro e w' ⟨rfl, hb⟩; replace hcur := hcur.trans hb; clear hb) | (go_at_call 58; (with_reducible refine (compare8_any _ _ _).mono ?_); rintro e w' ⟨rfl, rfl⟩) | (go_at_call 56; refine (orInt_any _ _ _ _ (arr_new _ _ _)).mono ?_; rintro e w' ⟨rfl, rfl⟩)); refine ⟨isGrew_of (by first | exact hcur | exact hcur.alloc _), ?_⟩))
  refine lex_end ?_
  go_wp2_with fail
  go_ret
  exact ⟨ret_int HV.out, HB.out.trans (by first | exact hcur | exact hcur.alloc _)⟩
end Go.Proofs.YtflnkmmimoninaaGreatDoor
