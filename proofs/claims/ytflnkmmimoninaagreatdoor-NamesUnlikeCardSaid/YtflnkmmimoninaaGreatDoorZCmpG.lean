/- DERIVED: THE SHELF's CONTRACTS AT THIS DUMP, IN PLAIN WORDS (tools/lay-plain.mjs out of 'TryzLayg.lean', which tools/lay-shelf.mjs wrote): THE SAME DECLARATIONS UNDER THE SAME NAMES: 'import', 'namespace', 'open', 'def', 'theorem' AND NOTHING ELSE: no command of the shelf's: FOR A HAND-IN. Each laying: the table of numbers ('.._ren') and one theorem, a field a fact of the dump's own or the kernel's comparison; each contract: ONE APPLICATION. Cmp of names, told by draws and new blocks alone (as the sort asks); the sort of names. -/
import Derived.Shelf.SlGeneric
import Derived.Shelf.SlSortCmp.NoneTotal
import Derived.Ground.SlsfProg
import Derived.Test.YtflnkmmimoninaaGreatDoorProg
import Derived.Test.YtflnkmmimoninaaGreatDoorZCmp
import Derived.Test.YtflnkmmimoninaaGreatDoorZGrew
namespace Go.Proofs
open Go.Shelf
def Tryz.sortPid_ren : Go.Shelf.Ren := ⟨fun | 6 => 103 | 15 => 55 | 14 => 137 | 28 => 97 | 29 => 98 | 20 => 157 | 21 => 158 | 22 => 159 | 23 => 160 | 24 => 161 | 25 => 162 | 26 => 163 | 27 => 164 | 46 => 174 | 47 => 123 | 48 => 124 | 49 => 175 | 50 => 176 | 57 => 181 | n => n, fun | 22 => 58 | 24 => 25 | 25 => 86 | 3 => 3 | 39 => 108 | 0 => 0 | 53 => 140 | 55 => 142 | 4 => 4 | 46 => 133 | 45 => 132 | 50 => 137 | 5 => 5 | 9 => 9 | 66 => 159 | 70 => 163 | 76 => 179 | 77 => 180 | n => n, fun | n => n⟩
theorem Tryz.sortPid : Go.Proofs.SlLaysF0.n6 Tryz.prog Tryz.sortPid_ren := {
  mixed := by kernel_rfl
  f6 := ⟨Tryz.f103.name, by decide, Tryz.func103.trans (congrArg some (by kernel_rfl))⟩
  f14 := ⟨Tryz.f137.name, by decide, Tryz.func137.trans (congrArg some (by kernel_rfl))⟩
  f15 := Tryz.func55.trans (congrArg some (by kernel_rfl))
  f20 := ⟨Tryz.f157.name, by decide, Tryz.func157.trans (congrArg some (by kernel_rfl))⟩
  f21 := ⟨Tryz.f158.name, by decide, Tryz.func158.trans (congrArg some (by kernel_rfl))⟩
  f22 := ⟨Tryz.f159.name, by decide, Tryz.func159.trans (congrArg some (by kernel_rfl))⟩
  f23 := ⟨Tryz.f160.name, by decide, Tryz.func160.trans (congrArg some (by kernel_rfl))⟩
  f24 := ⟨Tryz.f161.name, by decide, Tryz.func161.trans (congrArg some (by kernel_rfl))⟩
  f25 := ⟨Tryz.f162.name, by decide, Tryz.func162.trans (congrArg some (by kernel_rfl))⟩
  f26 := ⟨Tryz.f163.name, by decide, Tryz.func163.trans (congrArg some (by kernel_rfl))⟩
  f27 := ⟨Tryz.f164.name, by decide, Tryz.func164.trans (congrArg some (by kernel_rfl))⟩
  f28 := Tryz.func97.trans (congrArg some (by kernel_rfl))
  f29 := Tryz.func98.trans (congrArg some (by kernel_rfl))
  f46 := ⟨Tryz.f174.name, by decide, Tryz.func174.trans (congrArg some (by kernel_rfl))⟩
  f47 := Tryz.func123.trans (congrArg some (by kernel_rfl))
  f48 := Tryz.func124.trans (congrArg some (by kernel_rfl))
  f49 := ⟨Tryz.f175.name, by decide, Tryz.func175.trans (congrArg some (by kernel_rfl))⟩
  f50 := ⟨Tryz.f176.name, by decide, Tryz.func176.trans (congrArg some (by kernel_rfl))⟩
  f57 := ⟨Tryz.f181.name, by decide, Tryz.func181.trans (congrArg some (by kernel_rfl))⟩
  t0 := Tryz.underlying0
  a0 := Tryz.isAgg0
  z0 := Tryz.sizeOf0
  v0 := Tryz.zeroValue0
  t3 := Tryz.underlying3
  a3 := Tryz.isAgg3
  z3 := Tryz.sizeOf3
  v3 := Tryz.zeroValue3
  t4 := Tryz.underlying4
  a4 := Tryz.isAgg4
  z4 := Tryz.sizeOf4
  v4 := Tryz.zeroValue4
  t5 := Tryz.underlying5
  a5 := Tryz.isAgg5
  z5 := Tryz.sizeOf5
  v5 := Tryz.zeroValue5
  t9 := Tryz.underlying9
  a9 := Tryz.isAgg9
  z9 := Tryz.sizeOf9
  v9 := Tryz.zeroValue9
  t22 := Tryz.underlying58
  a22 := Tryz.isAgg58
  z22 := Tryz.sizeOf58
  v22 := Tryz.zeroValue58
  t25 := Tryz.underlying86
  a25 := Tryz.isAgg86
  z25 := Tryz.sizeOf86
  v25 := Tryz.zeroValue86
  t39 := Tryz.underlying108
  a39 := Tryz.isAgg108
  z39 := Tryz.sizeOf108
  v39 := Tryz.zeroValue108
  t45 := Tryz.underlying132
  a45 := Tryz.isAgg132
  z45 := Tryz.sizeOf132
  v45 := Tryz.zeroValue132
  t46 := Tryz.underlying133
  a46 := Tryz.isAgg133
  z46 := Tryz.sizeOf133
  v46 := Tryz.zeroValue133
  t50 := Tryz.underlying137
  a50 := Tryz.isAgg137
  z50 := Tryz.sizeOf137
  v50 := Tryz.zeroValue137
  t53 := Tryz.underlying140
  a53 := Tryz.isAgg140
  z53 := Tryz.sizeOf140
  v53 := Tryz.zeroValue140
  t55 := Tryz.underlying142
  a55 := Tryz.isAgg142
  z55 := Tryz.sizeOf142
  v55 := Tryz.zeroValue142
  t66 := Tryz.underlying159
  a66 := Tryz.isAgg159
  z66 := Tryz.sizeOf159
  v66 := Tryz.zeroValue159
  t70 := Tryz.underlying163
  a70 := Tryz.isAgg163
  z70 := Tryz.sizeOf163
  v70 := Tryz.zeroValue163
  t76 := Tryz.underlying179
  a76 := Tryz.isAgg179
  z76 := Tryz.sizeOf179
  v76 := Tryz.zeroValue179
  t77 := Tryz.underlying180
  a77 := Tryz.isAgg180
  z77 := Tryz.sizeOf180
  v77 := Tryz.zeroValue180 }
def Tryz.sortVert_ren : Go.Shelf.Ren := ⟨fun | 6 => 28 | 15 => 55 | 14 => 54 | 28 => 97 | 29 => 98 | 20 => 89 | 21 => 90 | 22 => 91 | 23 => 92 | 24 => 93 | 25 => 94 | 26 => 95 | 27 => 96 | 46 => 122 | 47 => 123 | 48 => 124 | 49 => 125 | 50 => 126 | 57 => 148 | n => n, fun | 22 => 38 | 24 => 53 | 25 => 77 | 3 => 3 | 39 => 108 | 0 => 0 | 53 => 140 | 55 => 142 | 4 => 4 | 46 => 133 | 45 => 132 | 50 => 137 | 5 => 5 | 9 => 9 | 66 => 159 | 70 => 163 | 76 => 179 | 77 => 180 | n => n, fun | n => n⟩
theorem Tryz.sortVert : Go.Proofs.SlLaysF0.n6 Tryz.prog Tryz.sortVert_ren := {
  mixed := by kernel_rfl
  f6 := ⟨Tryz.f28.name, by decide, Tryz.func28.trans (congrArg some (by kernel_rfl))⟩
  f14 := ⟨Tryz.f54.name, by decide, Tryz.func54.trans (congrArg some (by kernel_rfl))⟩
  f15 := Tryz.func55.trans (congrArg some (by kernel_rfl))
  f20 := ⟨Tryz.f89.name, by decide, Tryz.func89.trans (congrArg some (by kernel_rfl))⟩
  f21 := ⟨Tryz.f90.name, by decide, Tryz.func90.trans (congrArg some (by kernel_rfl))⟩
  f22 := ⟨Tryz.f91.name, by decide, Tryz.func91.trans (congrArg some (by kernel_rfl))⟩
  f23 := ⟨Tryz.f92.name, by decide, Tryz.func92.trans (congrArg some (by kernel_rfl))⟩
  f24 := ⟨Tryz.f93.name, by decide, Tryz.func93.trans (congrArg some (by kernel_rfl))⟩
  f25 := ⟨Tryz.f94.name, by decide, Tryz.func94.trans (congrArg some (by kernel_rfl))⟩
  f26 := ⟨Tryz.f95.name, by decide, Tryz.func95.trans (congrArg some (by kernel_rfl))⟩
  f27 := ⟨Tryz.f96.name, by decide, Tryz.func96.trans (congrArg some (by kernel_rfl))⟩
  f28 := Tryz.func97.trans (congrArg some (by kernel_rfl))
  f29 := Tryz.func98.trans (congrArg some (by kernel_rfl))
  f46 := ⟨Tryz.f122.name, by decide, Tryz.func122.trans (congrArg some (by kernel_rfl))⟩
  f47 := Tryz.func123.trans (congrArg some (by kernel_rfl))
  f48 := Tryz.func124.trans (congrArg some (by kernel_rfl))
  f49 := ⟨Tryz.f125.name, by decide, Tryz.func125.trans (congrArg some (by kernel_rfl))⟩
  f50 := ⟨Tryz.f126.name, by decide, Tryz.func126.trans (congrArg some (by kernel_rfl))⟩
  f57 := ⟨Tryz.f148.name, by decide, Tryz.func148.trans (congrArg some (by kernel_rfl))⟩
  t0 := Tryz.underlying0
  a0 := Tryz.isAgg0
  z0 := Tryz.sizeOf0
  v0 := Tryz.zeroValue0
  t3 := Tryz.underlying3
  a3 := Tryz.isAgg3
  z3 := Tryz.sizeOf3
  v3 := Tryz.zeroValue3
  t4 := Tryz.underlying4
  a4 := Tryz.isAgg4
  z4 := Tryz.sizeOf4
  v4 := Tryz.zeroValue4
  t5 := Tryz.underlying5
  a5 := Tryz.isAgg5
  z5 := Tryz.sizeOf5
  v5 := Tryz.zeroValue5
  t9 := Tryz.underlying9
  a9 := Tryz.isAgg9
  z9 := Tryz.sizeOf9
  v9 := Tryz.zeroValue9
  t22 := Tryz.underlying38
  a22 := Tryz.isAgg38
  z22 := Tryz.sizeOf38
  v22 := Tryz.zeroValue38
  t25 := Tryz.underlying77
  a25 := Tryz.isAgg77
  z25 := Tryz.sizeOf77
  v25 := Tryz.zeroValue77
  t39 := Tryz.underlying108
  a39 := Tryz.isAgg108
  z39 := Tryz.sizeOf108
  v39 := Tryz.zeroValue108
  t45 := Tryz.underlying132
  a45 := Tryz.isAgg132
  z45 := Tryz.sizeOf132
  v45 := Tryz.zeroValue132
  t46 := Tryz.underlying133
  a46 := Tryz.isAgg133
  z46 := Tryz.sizeOf133
  v46 := Tryz.zeroValue133
  t50 := Tryz.underlying137
  a50 := Tryz.isAgg137
  z50 := Tryz.sizeOf137
  v50 := Tryz.zeroValue137
  t53 := Tryz.underlying140
  a53 := Tryz.isAgg140
  z53 := Tryz.sizeOf140
  v53 := Tryz.zeroValue140
  t55 := Tryz.underlying142
  a55 := Tryz.isAgg142
  z55 := Tryz.sizeOf142
  v55 := Tryz.zeroValue142
  t66 := Tryz.underlying159
  a66 := Tryz.isAgg159
  z66 := Tryz.sizeOf159
  v66 := Tryz.zeroValue159
  t70 := Tryz.underlying163
  a70 := Tryz.isAgg163
  z70 := Tryz.sizeOf163
  v70 := Tryz.zeroValue163
  t76 := Tryz.underlying179
  a76 := Tryz.isAgg179
  z76 := Tryz.sizeOf179
  v76 := Tryz.zeroValue179
  t77 := Tryz.underlying180
  a77 := Tryz.isAgg180
  z77 := Tryz.sizeOf180
  v77 := Tryz.zeroValue180 }
end Go.Proofs
namespace Go.Proofs.YtflnkmmimoninaaGreatDoor
open Go Go.RowKit

set_option maxHeartbeats 1000000 in
set_option maxRecDepth 100000 in
theorem ppackG (p : PidM) (w : World) : Calls Tryz.prog 138 #[pidV p] w fun e w' => e = .returned (.int .u32 (packPid p : Int)) ∧ Grew w w' := by
  have h1 := p.author.toNat_lt
  have h2 := p.seq.toNat_lt
  have HO := Lib.hid (or_pid (show p.author.toNat < 256 by omega) (show p.seq.toNat < 65536 by omega))
  unfold pidV
  go_enter Tryz.func138, Tryz.ntmps138
  go_wp2_with fail
  go_ret
  exact ⟨ret_int HO.out, (Grew.refl _).alloc _⟩

set_option maxHeartbeats 1000000 in
set_option maxRecDepth 100000 in
theorem vpackG (v : VidM) (w : World) : Calls Tryz.prog 121 #[vidV v] w fun e w' => e = .returned (.int .u32 (packVid v : Int)) ∧ Grew w w' := by
  have h1 := packPid_lt v.pid
  have h2 := v.n.toNat_lt
  have HO := Lib.hid (or_vid h1 (show v.n.toNat < 256 by omega))
  have HB := Lib.hid ((Grew.refl w).alloc (.cells #[.int .u8 (v.pid.author.toNat : Int), .int .u16 (v.pid.seq.toNat : Int), .int .u8 (v.n.toNat : Int)] 27))
  have HA := Lib.hid (arrT_new w [.int .u8 (v.pid.author.toNat : Int), .int .u16 (v.pid.seq.toNat : Int), .int .u8 (v.n.toNat : Int)] 27)
  unfold vidV
  go_enter Tryz.func121, Tryz.ntmps121
  go_wp2_with fail
  generalize hw0 : w.alloc (.cells #[.int .u8 (v.pid.author.toNat : Int), .int .u16 (v.pid.seq.toNat : Int), .int .u8 (v.n.toNat : Int)] 27) = w0 at *
  have c0 := HA.out.arr.cell (j := 0) rfl
  have c1 := HA.out.arr.cell (j := 1) rfl
  have c2 := HA.out.arr.cell (j := 2) rfl
  have sA := HA.out.arr.lt
  clear hw0
  have hcur : Grew w0 w0.drew := (Grew.refl _).drew
  refine wp_region_lex (C := IsGrew w0) 9 [] (by kernel_rfl) (by kernel_rfl) (isGrew_of hcur) ?_
  simp only [List.take_succ_cons, List.take_zero, List.drop_succ_cons, List.drop_zero]
  repeat (first | (refine lex_skip rfl rfl ?_; simp only [Act.put, List.setIfInBounds_toArray, List.set_cons_succ, List.set_cons_zero]) | (refine lex_one rfl ?_; go_big_quiet_step (fail); refine wpQuiet_nil ?_) | (refine lex_loud rfl ?_; go_wp2_with (first | (go_at_call 138; (with_reducible refine (ppackG v.pid _).mono ?_); rintro e w' ⟨rfl, hb⟩; replace hcur := hcur.trans hb; clear hb)); refine ⟨isGrew_of (by first | exact hcur | exact hcur.alloc _), ?_⟩))
  refine lex_end ?_
  go_wp2_with fail
  go_ret
  exact ⟨ret_int HO.out, HB.out.trans hcur⟩

attribute [local irreducible] packPid packVid cmpN
set_option maxHeartbeats 1000000 in
set_option maxRecDepth 100000 in
theorem pcmpG (a b : PidM) (w : World) : Calls Tryz.prog 104 #[pidV a, pidV b] w fun e w' => e = .returned (.int .i64 (cmpPid a b)) ∧ Grew w w' := by
  have HA := Lib.hid ((arr_new w #[.int .u8 (a.author.toNat : Int), .int .u16 (a.seq.toNat : Int)] 25).alloc (.cells #[.int .u8 (b.author.toNat : Int), .int .u16 (b.seq.toNat : Int)] 25))
  have HC := Lib.hid (arr_new2 w (.cells #[.int .u8 (a.author.toNat : Int), .int .u16 (a.seq.toNat : Int)] 25) #[.int .u8 (b.author.toNat : Int), .int .u16 (b.seq.toNat : Int)] 25)
  have HB := Lib.hid (((Grew.refl w).alloc (.cells #[.int .u8 (a.author.toNat : Int), .int .u16 (a.seq.toNat : Int)] 25)).alloc (.cells #[.int .u8 (b.author.toNat : Int), .int .u16 (b.seq.toNat : Int)] 25))
  unfold pidV
  go_enter Tryz.func104, Tryz.ntmps104
  go_wp2_with fail
  generalize hw0 : (w.alloc (.cells #[.int .u8 (a.author.toNat : Int), .int .u16 (a.seq.toNat : Int)] 25)).alloc (.cells #[.int .u8 (b.author.toNat : Int), .int .u16 (b.seq.toNat : Int)] 25) = w0 at *
  have c0 := HA.out.cell (j := 0) rfl
  have c1 := HA.out.cell (j := 1) rfl
  have sA := HA.out.lt
  have d0 := HC.out.cell (j := 0) rfl
  have d1 := HC.out.cell (j := 1) rfl
  have sC := HC.out.lt
  clear hw0
  have hcur : Grew w0 w0.drew := (Grew.refl _).drew
  refine wp_region_lex (C := IsGrew w0) 6 [] (by kernel_rfl) (by kernel_rfl) (isGrew_of hcur) ?_
  simp only [List.take_succ_cons, List.take_zero, List.drop_succ_cons, List.drop_zero]
  repeat (first | (refine lex_skip rfl rfl ?_; simp only [Act.put, List.setIfInBounds_toArray, List.set_cons_succ, List.set_cons_zero]) | (refine lex_one rfl ?_; go_big_quiet_step (fail); refine wpQuiet_nil ?_) | (refine lex_loud rfl ?_; go_wp2_with (first | (go_at_call 138; (with_reducible refine (ppackG _ _).mono ?_); rintro e w' ⟨rfl, hb⟩; replace hcur := hcur.trans hb; clear hb) | (go_at_call 120; (with_reducible refine (compare_any _ _ _).mono ?_); rintro e w' ⟨rfl, rfl⟩)); refine ⟨isGrew_of (by first | exact hcur | exact hcur.alloc _), ?_⟩))
  refine lex_end ?_
  go_wp2_with fail
  go_ret
  exact ⟨rfl, HB.out.trans hcur⟩

set_option maxHeartbeats 1000000 in
set_option maxRecDepth 100000 in
theorem vcmpG (a b : VidM) (w : World) : Calls Tryz.prog 88 #[vidV a, vidV b] w fun e w' => e = .returned (.int .i64 (cmpVid a b)) ∧ Grew w w' := by
  have HA := Lib.hid ((arr_new w #[.int .u8 (a.pid.author.toNat : Int), .int .u16 (a.pid.seq.toNat : Int), .int .u8 (a.n.toNat : Int)] 27).alloc (.cells #[.int .u8 (b.pid.author.toNat : Int), .int .u16 (b.pid.seq.toNat : Int), .int .u8 (b.n.toNat : Int)] 27))
  have HC := Lib.hid (arr_new2 w (.cells #[.int .u8 (a.pid.author.toNat : Int), .int .u16 (a.pid.seq.toNat : Int), .int .u8 (a.n.toNat : Int)] 27) #[.int .u8 (b.pid.author.toNat : Int), .int .u16 (b.pid.seq.toNat : Int), .int .u8 (b.n.toNat : Int)] 27)
  have HB := Lib.hid (((Grew.refl w).alloc (.cells #[.int .u8 (a.pid.author.toNat : Int), .int .u16 (a.pid.seq.toNat : Int), .int .u8 (a.n.toNat : Int)] 27)).alloc (.cells #[.int .u8 (b.pid.author.toNat : Int), .int .u16 (b.pid.seq.toNat : Int), .int .u8 (b.n.toNat : Int)] 27))
  unfold vidV
  go_enter Tryz.func88, Tryz.ntmps88
  go_wp2_with fail
  generalize hw0 : (w.alloc (.cells #[.int .u8 (a.pid.author.toNat : Int), .int .u16 (a.pid.seq.toNat : Int), .int .u8 (a.n.toNat : Int)] 27)).alloc (.cells #[.int .u8 (b.pid.author.toNat : Int), .int .u16 (b.pid.seq.toNat : Int), .int .u8 (b.n.toNat : Int)] 27) = w0 at *
  have c0 := HA.out.cell (j := 0) rfl
  have c1 := HA.out.cell (j := 1) rfl
  have c2 := HA.out.cell (j := 2) rfl
  have sA := HA.out.lt
  have d0 := HC.out.cell (j := 0) rfl
  have d1 := HC.out.cell (j := 1) rfl
  have d2 := HC.out.cell (j := 2) rfl
  have sC := HC.out.lt
  clear hw0
  have hcur : Grew w0 w0.drew := (Grew.refl _).drew
  refine wp_region_lex (C := IsGrew w0) 6 [] (by kernel_rfl) (by kernel_rfl) (isGrew_of hcur) ?_
  simp only [List.take_succ_cons, List.take_zero, List.drop_succ_cons, List.drop_zero]
  repeat (first | (refine lex_skip rfl rfl ?_; simp only [Act.put, List.setIfInBounds_toArray, List.set_cons_succ, List.set_cons_zero]) | (refine lex_one rfl ?_; go_big_quiet_step (fail); refine wpQuiet_nil ?_) | (refine lex_loud rfl ?_; go_wp2_with (first | (go_at_call 121; (with_reducible refine (vpackG _ _).mono ?_); rintro e w' ⟨rfl, hb⟩; replace hcur := hcur.trans hb; clear hb) | (go_at_call 120; (with_reducible refine (compare_any _ _ _).mono ?_); rintro e w' ⟨rfl, rfl⟩)); refine ⟨isGrew_of (by first | exact hcur | exact hcur.alloc _), ?_⟩))
  refine lex_end ?_
  go_wp2_with fail
  go_ret
  exact ⟨rfl, HB.out.trans hcur⟩

instance : Inhabited VertM := ⟨noVert⟩
theorem cmpN_neg (a b : Nat) : (cmpN a b < 0) = (a < b) := by
  by_cases h : a < b
  · rw [cmpN_lt h]; simp [h]
  · by_cases h2 : b < a
    · rw [cmpN_gt h2]; simp [h]
    · rw [cmpN_eq (show a = b by omega)]; simp [h]
theorem onePid : ∀ x : PidM, ∀ v ∈ encPid x, v.oneCell' = true := fun x v hv => by simp [encPid] at hv; rcases hv with rfl | rfl <;> rfl
theorem oneVid : ∀ x : VidM, ∀ v ∈ encVid x, v.oneCell' = true := fun x v hv => by simp [encVid] at hv; rcases hv with rfl | rfl | rfl <;> rfl
theorem sortPid_any {w : World} {B g cap : Nat} {xs : List PidM} (h : OwnAt w B 25 2 g xs.length cap (xs.flatMap encPid)) (hn : xs.length ≤ 1000000000) :
    Calls Tryz.prog 103 #[.slice (some ⟨g, 0, none⟩) xs.length cap, .func (.func 104) #[] #[]] w (SortRes cmpPid encPid 2 25 w B g cap xs) := by
  have hcon := sortF_any (P := Tryz.prog) Tryz.sortPid (k := 2) (enc := encPid) Tryz.isAgg25 Tryz.sizeOf25 (fun _ => rfl) onePid cmpPid (swo_key packPid _ fun x y => cmpN_neg _ _) 104 (enters_of Tryz.func104 (by kernel_rfl) rfl) (fun x y W => pcmpG x y W) h (by omega)
  exact hcon
theorem sortPid_none (p : Option Addr) (cap : Nat) (fv : Value) (w : World) :
    Calls Tryz.prog 103 #[.slice p 0 cap, fv] w fun e w' => e = .returned (.tuple #[]) ∧ w' = w := sortF_none Tryz.sortPid p cap fv w
end Go.Proofs.YtflnkmmimoninaaGreatDoor
