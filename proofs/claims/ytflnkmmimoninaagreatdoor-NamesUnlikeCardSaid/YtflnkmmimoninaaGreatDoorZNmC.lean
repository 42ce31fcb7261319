/- DERIVED: THE SHELF's CONTRACTS AT THIS DUMP, IN PLAIN WORDS (tools/lay-plain.mjs out of 'TryzLayg2.lean', which tools/lay-shelf.mjs wrote): THE SAME DECLARATIONS UNDER THE SAME NAMES: 'import', 'namespace', 'open', 'def', 'theorem' AND NOTHING ELSE: no command of the shelf's: FOR A HAND-IN. Each laying: the table of numbers ('.._ren') and one theorem, a field a fact of the dump's own or the kernel's comparison; each contract: ONE APPLICATION. Contracts of strconv.Itoa, pid.Text, vid.Text: they read the table of powers of ten. -/
import Derived.Shelf.SlGeneric
import Derived.Shelf.SlicesG.CompactS
import Derived.Shelf.SortM.Plain
import Derived.Shelf.Strconv.Itoa3
import Derived.Ground.NamesProg
import Derived.Ground.SlgmProg
import Derived.Ground.SlgnProg
import Derived.Test.YtflnkmmimoninaaGreatDoorProg
import Derived.Test.YtflnkmmimoninaaGreatDoorZCmpG
import Derived.Test.YtflnkmmimoninaaGreatDoorZNmP
import Derived.Lib.AppendIntMem
namespace Go.Proofs
open Go.Shelf
def Tryz.sortStr_ren : Go.Shelf.Ren := ⟨fun | 6 => 63 | 8 => 55 | 9 => 101 | 19 => 97 | 20 => 98 | 21 => 128 | 22 => 129 | 23 => 130 | 24 => 131 | 25 => 132 | 26 => 133 | 27 => 134 | 28 => 135 | 29 => 136 | 36 => 153 | 31 => 123 | 32 => 124 | 37 => 154 | 38 => 155 | 39 => 156 | 41 => 173 | n => n, fun | 27 => 48 | 29 => 9 | 3 => 3 | 32 => 108 | 26 => 48 | 0 => 0 | 44 => 140 | 46 => 142 | 4 => 4 | 36 => 133 | 35 => 132 | 41 => 137 | 5 => 5 | 9 => 9 | 53 => 159 | 57 => 163 | 63 => 179 | 64 => 180 | n => n, fun | n => n⟩
theorem Tryz.sortStr : Go.Proofs.SlLaysM.n6 Tryz.prog Tryz.sortStr_ren := {
  mixed := by kernel_rfl
  f6 := ⟨Tryz.f63.name, by decide, Tryz.func63.trans (congrArg some (by kernel_rfl))⟩
  f8 := Tryz.func55.trans (congrArg some (by kernel_rfl))
  f9 := ⟨Tryz.f101.name, by decide, Tryz.func101.trans (congrArg some (by kernel_rfl))⟩
  f19 := Tryz.func97.trans (congrArg some (by kernel_rfl))
  f20 := Tryz.func98.trans (congrArg some (by kernel_rfl))
  f21 := ⟨Tryz.f128.name, by decide, Tryz.func128.trans (congrArg some (by kernel_rfl))⟩
  f22 := ⟨Tryz.f129.name, by decide, Tryz.func129.trans (congrArg some (by kernel_rfl))⟩
  f23 := ⟨Tryz.f130.name, by decide, Tryz.func130.trans (congrArg some (by kernel_rfl))⟩
  f24 := ⟨Tryz.f131.name, by decide, Tryz.func131.trans (congrArg some (by kernel_rfl))⟩
  f25 := ⟨Tryz.f132.name, by decide, Tryz.func132.trans (congrArg some (by kernel_rfl))⟩
  f26 := ⟨Tryz.f133.name, by decide, Tryz.func133.trans (congrArg some (by kernel_rfl))⟩
  f27 := ⟨Tryz.f134.name, by decide, Tryz.func134.trans (congrArg some (by kernel_rfl))⟩
  f28 := ⟨Tryz.f135.name, by decide, Tryz.func135.trans (congrArg some (by kernel_rfl))⟩
  f29 := ⟨Tryz.f136.name, by decide, Tryz.func136.trans (congrArg some (by kernel_rfl))⟩
  f31 := Tryz.func123.trans (congrArg some (by kernel_rfl))
  f32 := Tryz.func124.trans (congrArg some (by kernel_rfl))
  f36 := ⟨Tryz.f153.name, by decide, Tryz.func153.trans (congrArg some (by kernel_rfl))⟩
  f37 := ⟨Tryz.f154.name, by decide, Tryz.func154.trans (congrArg some (by kernel_rfl))⟩
  f38 := ⟨Tryz.f155.name, by decide, Tryz.func155.trans (congrArg some (by kernel_rfl))⟩
  f39 := ⟨Tryz.f156.name, by decide, Tryz.func156.trans (congrArg some (by kernel_rfl))⟩
  f41 := ⟨Tryz.f173.name, by decide, Tryz.func173.trans (congrArg some (by kernel_rfl))⟩
  t0 := Tryz.underlying0
  a0 := Tryz.isAgg0
  z0 := Tryz.sizeOf0
  v0 := Tryz.zeroValue0
  t3 := Tryz.underlying3
  a3 := Tryz.isAgg3
  z3 := Tryz.sizeOf3
  v3 := Tryz.zeroValue3
  t4 := Tryz.underlying4
  a4 := Tryz.isAgg4
  z4 := Tryz.sizeOf4
  v4 := Tryz.zeroValue4
  t5 := Tryz.underlying5
  a5 := Tryz.isAgg5
  z5 := Tryz.sizeOf5
  v5 := Tryz.zeroValue5
  t9 := Tryz.underlying9
  a9 := Tryz.isAgg9
  z9 := Tryz.sizeOf9
  v9 := Tryz.zeroValue9
  t26 := Tryz.underlying48
  a26 := Tryz.isAgg48
  z26 := Tryz.sizeOf48
  v26 := Tryz.zeroValue48
  t27 := Tryz.underlying48
  a27 := Tryz.isAgg48
  z27 := Tryz.sizeOf48
  v27 := Tryz.zeroValue48
  t29 := Tryz.underlying9
  a29 := Tryz.isAgg9
  z29 := Tryz.sizeOf9
  v29 := Tryz.zeroValue9
  t32 := Tryz.underlying108
  a32 := Tryz.isAgg108
  z32 := Tryz.sizeOf108
  v32 := Tryz.zeroValue108
  t35 := Tryz.underlying132
  a35 := Tryz.isAgg132
  z35 := Tryz.sizeOf132
  v35 := Tryz.zeroValue132
  t36 := Tryz.underlying133
  a36 := Tryz.isAgg133
  z36 := Tryz.sizeOf133
  v36 := Tryz.zeroValue133
  t41 := Tryz.underlying137
  a41 := Tryz.isAgg137
  z41 := Tryz.sizeOf137
  v41 := Tryz.zeroValue137
  t44 := Tryz.underlying140
  a44 := Tryz.isAgg140
  z44 := Tryz.sizeOf140
  v44 := Tryz.zeroValue140
  t46 := Tryz.underlying142
  a46 := Tryz.isAgg142
  z46 := Tryz.sizeOf142
  v46 := Tryz.zeroValue142
  t53 := Tryz.underlying159
  a53 := Tryz.isAgg159
  z53 := Tryz.sizeOf159
  v53 := Tryz.zeroValue159
  t57 := Tryz.underlying163
  a57 := Tryz.isAgg163
  z57 := Tryz.sizeOf163
  v57 := Tryz.zeroValue163
  t63 := Tryz.underlying179
  a63 := Tryz.isAgg179
  z63 := Tryz.sizeOf179
  v63 := Tryz.zeroValue179
  t64 := Tryz.underlying180
  a64 := Tryz.isAgg180
  z64 := Tryz.sizeOf180
  v64 := Tryz.zeroValue180 }
def Tryz.compStr_ren : Go.Shelf.Ren := ⟨fun | 44 => 64 | n => n, fun | 25 => 48 | 26 => 9 | 3 => 3 | 4 => 4 | 0 => 0 | n => n, fun | n => n⟩
theorem Tryz.compStr : Go.Proofs.SlLaysN.n44 Tryz.prog Tryz.compStr_ren := {
  mixed := by kernel_rfl
  f44 := ⟨Tryz.f64.name, by decide, Tryz.func64.trans (congrArg some (by kernel_rfl))⟩
  t0 := Tryz.underlying0
  a0 := Tryz.isAgg0
  z0 := Tryz.sizeOf0
  v0 := Tryz.zeroValue0
  t3 := Tryz.underlying3
  a3 := Tryz.isAgg3
  z3 := Tryz.sizeOf3
  v3 := Tryz.zeroValue3
  t4 := Tryz.underlying4
  a4 := Tryz.isAgg4
  z4 := Tryz.sizeOf4
  v4 := Tryz.zeroValue4
  t25 := Tryz.underlying48
  a25 := Tryz.isAgg48
  z25 := Tryz.sizeOf48
  v25 := Tryz.zeroValue48
  t26 := Tryz.underlying9
  a26 := Tryz.isAgg9
  z26 := Tryz.sizeOf9
  v26 := Tryz.zeroValue9
  i26 := by kernel_rfl }
def Tryz.itoa_ren : Go.Shelf.Ren := ⟨fun | 171 => 62 | 243 => 100 | 246 => 127 | 283 => 149 | 284 => 150 | 285 => 151 | 286 => 152 | 129 => 98 | 317 => 169 | 318 => 170 | 319 => 171 | 320 => 172 | 337 => 179 | 338 => 180 | n => n, fun | 3 => 3 | 9 => 9 | 2 => 2 | 4 => 4 | 171 => 182 | 0 => 0 | 53 => 142 | 37 => 49 | 5 => 5 | 173 => 184 | 212 => 195 | 51 => 140 | 20 => 20 | 213 => 196 | 46 => 108 | 232 => 202 | 233 => 203 | n => n, fun | 17 => 0 | 18 => 2 | 19 => 3 | n => n⟩
theorem Tryz.itoa : Go.Proofs.LaysM.n171 Tryz.prog Tryz.itoa_ren := {
  mixed := by kernel_rfl
  f129 := Tryz.func98.trans (congrArg some (by kernel_rfl))
  f171 := Tryz.func62.trans (congrArg some (by kernel_rfl))
  f243 := Tryz.func100.trans (congrArg some (by kernel_rfl))
  f246 := Tryz.func127.trans (congrArg some (by kernel_rfl))
  f283 := Tryz.func149.trans (congrArg some (by kernel_rfl))
  f284 := Tryz.func150.trans (congrArg some (by kernel_rfl))
  f285 := Tryz.func151.trans (congrArg some (by kernel_rfl))
  f286 := Tryz.func152.trans (congrArg some (by kernel_rfl))
  f317 := Tryz.func169.trans (congrArg some (by kernel_rfl))
  f318 := Tryz.func170.trans (congrArg some (by kernel_rfl))
  f319 := Tryz.func171.trans (congrArg some (by kernel_rfl))
  f320 := Tryz.func172.trans (congrArg some (by kernel_rfl))
  f337 := Tryz.func179.trans (congrArg some (by kernel_rfl))
  f338 := Tryz.func180.trans (congrArg some (by kernel_rfl))
  t0 := Tryz.underlying0
  a0 := Tryz.isAgg0
  z0 := Tryz.sizeOf0
  v0 := Tryz.zeroValue0
  t2 := Tryz.underlying2
  a2 := Tryz.isAgg2
  z2 := Tryz.sizeOf2
  v2 := Tryz.zeroValue2
  t3 := Tryz.underlying3
  a3 := Tryz.isAgg3
  z3 := Tryz.sizeOf3
  v3 := Tryz.zeroValue3
  t4 := Tryz.underlying4
  a4 := Tryz.isAgg4
  z4 := Tryz.sizeOf4
  v4 := Tryz.zeroValue4
  t5 := Tryz.underlying5
  a5 := Tryz.isAgg5
  z5 := Tryz.sizeOf5
  v5 := Tryz.zeroValue5
  t9 := Tryz.underlying9
  a9 := Tryz.isAgg9
  z9 := Tryz.sizeOf9
  v9 := Tryz.zeroValue9
  t20 := Tryz.underlying20
  a20 := Tryz.isAgg20
  z20 := Tryz.sizeOf20
  v20 := Tryz.zeroValue20
  t37 := Tryz.underlying49
  a37 := Tryz.isAgg49
  z37 := Tryz.sizeOf49
  v37 := Tryz.zeroValue49
  t46 := Tryz.underlying108
  a46 := Tryz.isAgg108
  z46 := Tryz.sizeOf108
  v46 := Tryz.zeroValue108
  t51 := Tryz.underlying140
  a51 := Tryz.isAgg140
  z51 := Tryz.sizeOf140
  v51 := Tryz.zeroValue140
  t53 := Tryz.underlying142
  a53 := Tryz.isAgg142
  z53 := Tryz.sizeOf142
  v53 := Tryz.zeroValue142
  t171 := Tryz.underlying182
  a171 := Tryz.isAgg182
  z171 := Tryz.sizeOf182
  v171 := Tryz.zeroValue182
  t173 := Tryz.underlying184
  a173 := Tryz.isAgg184
  z173 := Tryz.sizeOf184
  v173 := Tryz.zeroValue184
  t212 := Tryz.underlying195
  a212 := Tryz.isAgg195
  z212 := Tryz.sizeOf195
  v212 := Tryz.zeroValue195
  t213 := Tryz.underlying196
  a213 := Tryz.isAgg196
  z213 := Tryz.sizeOf196
  t232 := Tryz.underlying202
  a232 := Tryz.isAgg202
  z232 := Tryz.sizeOf202
  v232 := Tryz.zeroValue202
  t233 := Tryz.underlying203
  a233 := Tryz.isAgg203
  z233 := Tryz.sizeOf203
  v233 := Tryz.zeroValue203
  g17 := by kernel_rfl
  g18 := by kernel_rfl
  g19 := by kernel_rfl
  i0 := by kernel_rfl
  i2 := by kernel_rfl
  i3 := by kernel_rfl
  i4 := by kernel_rfl
  i5 := by kernel_rfl
  i9 := by kernel_rfl
  i20 := by kernel_rfl
  i37 := by kernel_rfl
  i46 := by kernel_rfl
  i51 := by kernel_rfl
  i53 := by kernel_rfl
  i171 := by kernel_rfl
  i173 := by kernel_rfl
  i212 := by kernel_rfl
  i232 := by kernel_rfl
  i233 := by kernel_rfl
  m17 := by kernel_rfl
  m18 := by kernel_rfl
  m19 := by kernel_rfl }
end Go.Proofs
namespace Go.Proofs.YtflnkmmimoninaaGreatDoor
open Go Go.RowKit

def Tab (w : World) : Prop := Lib.TabIs Tryz.prog w "internal/strconv.uint64pow10" .u64 Lib.pow10Tab
theorem Tab.over {w w' : World} (h : Tab w) (hb : Below w.heap.size w w') : Tab w' := Lib.tabBelow_of_tabIs h w' hb
def decB (n : Nat) : ByteArray := ⟨(Lib.decDigits n).toArray⟩
theorem dec_len : ∀ (k u : Nat), u < 10 ^ k → (Lib.decDigits u).length ≤ k + 1
  | 0, u, h => by
    rw [Lib.decDigits, dif_pos (by simp at h; omega)]; simp
  | k + 1, u, h => by
    rw [Lib.decDigits]
    split
    · simp
    · rename_i h10
      rw [Nat.pow_succ] at h
      have := dec_len k (u / 10) (by omega)
      simp; omega
theorem decB_size {u : Nat} (h : u < 100000) : (decB u).size ≤ 6 := dec_len 5 u (by simpa using h)
theorem decB_list (u : Nat) : (decB u).data.toList = Lib.decDigits u := rfl
theorem itoa_any (n : Nat) (w : World) (hn : n < 65536) (ht : Tab w) : Calls Tryz.prog 62 #[.int .i64 (n : Int)] w fun e w' => e = .returned (.string (decB n)) ∧ Below w.heap.size w w' := by
  have hcon := Any.strconv_Itoa (P := Tryz.prog) Tryz.itoa (n : Int) (by omega) (by omega) w ht
  refine hcon.mono ?_
  rintro e w' ⟨rfl, k, os, rfl⟩
  refine ⟨?_, Grew.below ⟨k, os, rfl⟩⟩
  rw [Lib.itoa_nonneg]; rfl
def pidB (p : PidM) : ByteArray := decB p.author.toNat ++ ⟨#[46]⟩ ++ decB p.seq.toNat
theorem pidB_size (p : PidM) : (pidB p).size ≤ 20 := by
  have h1 := decB_size (u := p.author.toNat) (by have := p.author.toNat_lt; omega)
  have h2 := decB_size (u := p.seq.toNat) (by have := p.seq.toNat_lt; omega)
  unfold pidB
  rw [ByteArray.size_append, ByteArray.size_append]
  have : (⟨#[46]⟩ : ByteArray).size = 1 := rfl
  omega
theorem textB_eq (v : VidM) : pidB v.pid ++ ⟨#[46]⟩ ++ decB v.n.toNat = textB v := by
  apply ByteArray.ext
  apply Array.ext'
  show _ = textL v
  simp [textL, pidB, decB]
theorem textB_size (v : VidM) : (textB v).size ≤ 40 := by
  have h1 := pidB_size v.pid
  have h2 := decB_size (u := v.n.toNat) (by have := v.n.toNat_lt; omega)
  rw [← textB_eq, ByteArray.size_append, ByteArray.size_append]
  have : (⟨#[46]⟩ : ByteArray).size = 1 := rfl
  omega
attribute [local irreducible] decB pidB textB
set_option maxHeartbeats 4000000 in
set_option maxRecDepth 100000 in
theorem ptext_any (p : PidM) (w : World) (ht : Tab w) : Calls Tryz.prog 61 #[pidV p] w fun e w' => e = .returned (.string (pidB p)) ∧ Below w.heap.size w w' := by
  have HA := Lib.hid (arr_new w #[.int .u8 (p.author.toNat : Int), .int .u16 (p.seq.toNat : Int)] 25)
  have HB := Lib.hid (below_new (w := w) (.cells #[.int .u8 (p.author.toNat : Int), .int .u16 (p.seq.toNat : Int)] 25))
  have HT := Lib.hid (ht.over HB.out)
  have h1 := p.author.toNat_lt
  have h2 := p.seq.toNat_lt
  have z1 := decB_size (u := p.author.toNat) (by omega)
  have z2 := decB_size (u := p.seq.toNat) (by omega)
  have HE : Hid (decB p.author.toNat ++ ⟨#[46]⟩ ++ decB p.seq.toNat = pidB p) := by show _ = _; unfold pidB; rfl
  clear ht
  unfold pidV
  go_enter Tryz.func61, Tryz.ntmps61
  go_upto_region 1 with (fail)
  generalize hw0 : w.alloc (.cells #[.int .u8 (p.author.toNat : Int), .int .u16 (p.seq.toNat : Int)] 25) = w0 at *
  clear hw0
  have c0 := HA.out.cell (j := 0) rfl
  have c1 := HA.out.cell (j := 1) rfl
  have sc := HA.out.lt
  have HC1 : Hid (∀ w', Below w0.heap.size w0 w' → Calls Tryz.prog 62 #[.int .i64 (p.author.toNat : Int)] w' fun e w'' => e = .returned (.string (decB p.author.toNat)) ∧ Below w'.heap.size w' w'') := fun w' hb => itoa_any _ w' (by omega) (HT.out.over hb)
  have HC2 : Hid (∀ w', Below w0.heap.size w0 w' → Calls Tryz.prog 62 #[.int .i64 (p.seq.toNat : Int)] w' fun e w'' => e = .returned (.string (decB p.seq.toNat)) ∧ Below w'.heap.size w' w'') := fun w' hb => itoa_any _ w' (by omega) (HT.out.over hb)
  generalize decB p.author.toNat = A at *
  generalize decB p.seq.toNat = B at *
  have hcur : Below w0.heap.size w0 w0.drew := (Below.refl _ _).drew
  refine wp_region_lex (C := IsOver w0) 11 [] (by kernel_rfl) (by kernel_rfl) (isOver_of (by repeat (first | exact Below.refl _ _ | apply Below.drew | apply below_drewN | (refine Below.alloc ?_ (by simp) _)))) ?_
  simp only [List.take_succ_cons, List.take_zero, List.drop_succ_cons, List.drop_zero]
  repeat (first | (refine lex_skip rfl rfl ?_; simp only [Act.put, List.setIfInBounds_toArray, List.set_cons_succ, List.set_cons_zero]) | (refine lex_one rfl ?_; go_big_quiet_step (fail); refine wpQuiet_nil ?_) | (refine lex_loud rfl ?_; go_wp2_with (first | (go_at_call 62; (with_reducible refine (HC1.out _ hcur).mono ?_); rintro e w' ⟨rfl, hb⟩; replace hcur := below_over hcur hcur.size hb; clear hb) | (go_at_call 62; (with_reducible refine (HC2.out _ hcur).mono ?_); rintro e w' ⟨rfl, hb⟩; replace hcur := below_over hcur hcur.size hb; clear hb)); refine ⟨isOver_of hcur, ?_⟩))
  refine lex_end ?_
  go_wp2_with fail
  go_ret
  exact ⟨ret_val (congrArg Value.string HE.out), below_over HB.out HB.out.size hcur⟩
set_option maxHeartbeats 4000000 in
set_option maxRecDepth 100000 in
theorem vtext_any (v : VidM) (w : World) (ht : Tab w) : Calls Tryz.prog 35 #[vidV v] w fun e w' => e = .returned (.string (textB v)) ∧ Below w.heap.size w w' := by
  have HA := Lib.hid (arr_new w #[.int .u8 (v.pid.author.toNat : Int), .int .u16 (v.pid.seq.toNat : Int), .int .u8 (v.n.toNat : Int)] 27)
  have HB := Lib.hid (below_new (w := w) (.cells #[.int .u8 (v.pid.author.toNat : Int), .int .u16 (v.pid.seq.toNat : Int), .int .u8 (v.n.toNat : Int)] 27))
  have HT := Lib.hid (ht.over HB.out)
  have h1 := v.n.toNat_lt
  have z1 := pidB_size v.pid
  have z2 := decB_size (u := v.n.toNat) (by omega)
  have HE := Lib.hid (textB_eq v)
  clear ht
  unfold vidV
  go_enter Tryz.func35, Tryz.ntmps35
  go_upto_region 1 with (fail)
  generalize hw0 : w.alloc (.cells #[.int .u8 (v.pid.author.toNat : Int), .int .u16 (v.pid.seq.toNat : Int), .int .u8 (v.n.toNat : Int)] 27) = w0 at *
  clear hw0
  have c0 := HA.out.cell (j := 0) rfl
  have c1 := HA.out.cell (j := 1) rfl
  have c2 := HA.out.cell (j := 2) rfl
  have sc := HA.out.lt
  have HC1 : Hid (∀ w', Below w0.heap.size w0 w' → Calls Tryz.prog 61 #[.agg #[.int .u8 (v.pid.author.toNat : Int), .int .u16 (v.pid.seq.toNat : Int)]] w' fun e w'' => e = .returned (.string (pidB v.pid)) ∧ Below w'.heap.size w' w'') := fun w' hb => ptext_any v.pid w' (HT.out.over hb)
  have HC2 : Hid (∀ w', Below w0.heap.size w0 w' → Calls Tryz.prog 62 #[.int .i64 (v.n.toNat : Int)] w' fun e w'' => e = .returned (.string (decB v.n.toNat)) ∧ Below w'.heap.size w' w'') := fun w' hb => itoa_any _ w' (by omega) (HT.out.over hb)
  generalize pidB v.pid = A at *
  generalize decB v.n.toNat = B at *
  have hcur : Below w0.heap.size w0 w0.drew := (Below.refl _ _).drew
  refine wp_region_lex (C := IsOver w0) 10 [] (by kernel_rfl) (by kernel_rfl) (isOver_of (by repeat (first | exact Below.refl _ _ | apply Below.drew | apply below_drewN | (refine Below.alloc ?_ (by simp) _)))) ?_
  simp only [List.take_succ_cons, List.take_zero, List.drop_succ_cons, List.drop_zero]
  repeat (first | (refine lex_skip rfl rfl ?_; simp only [Act.put, List.setIfInBounds_toArray, List.set_cons_succ, List.set_cons_zero]) | (refine lex_one rfl ?_; go_big_quiet_step (fail); refine wpQuiet_nil ?_) | (refine lex_loud rfl ?_; go_wp2_with (first | (go_at_call 61; (with_reducible refine (HC1.out _ hcur).mono ?_); rintro e w' ⟨rfl, hb⟩; replace hcur := below_over hcur hcur.size hb; clear hb) | (go_at_call 62; (with_reducible refine (HC2.out _ hcur).mono ?_); rintro e w' ⟨rfl, hb⟩; replace hcur := below_over hcur hcur.size hb; clear hb)); refine ⟨isOver_of hcur, ?_⟩))
  refine lex_end ?_
  go_wp2_with fail
  go_ret
  exact ⟨ret_val (congrArg Value.string HE.out), below_over HB.out HB.out.size hcur⟩
end Go.Proofs.YtflnkmmimoninaaGreatDoor
