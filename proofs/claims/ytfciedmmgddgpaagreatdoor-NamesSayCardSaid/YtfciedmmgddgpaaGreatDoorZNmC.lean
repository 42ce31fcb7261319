/- DERIVED: THE SHELF's CONTRACTS AT THIS DUMP, IN PLAIN WORDS (tools/lay-plain.mjs out of 'TryzLayg2.lean', which tools/lay-shelf.mjs wrote): THE SAME DECLARATIONS UNDER THE SAME NAMES: 'import', 'namespace', 'open', 'def', 'theorem' AND NOTHING ELSE: no command of the shelf's: FOR A HAND-IN. Each laying: the table of numbers ('.._ren') and one theorem, a field a fact of the dump's own or the kernel's comparison; each contract: ONE APPLICATION. Contracts of strconv.Itoa, pid.Text, vid.Text: they read the table of powers of ten. -/
import Derived.Shelf.SlGeneric
import Derived.Shelf.SlicesG.CompactS
import Derived.Shelf.SortM.Plain
import Derived.Shelf.Strconv.Itoa3
import Derived.Ground.NamesProg
import Derived.Ground.SlgmProg
import Derived.Ground.SlgnProg
import Derived.Test.YtfciedmmgddgpaaGreatDoorProg
import Derived.Test.YtfciedmmgddgpaaGreatDoorZOps
import Derived.Test.YtfciedmmgddgpaaGreatDoorZNmP
import Derived.Lib.AppendIntMem
namespace Go.Proofs
open Go.Shelf
def Tryz.sortStr_ren : Go.Shelf.Ren := ⟨fun | 6 => 61 | 8 => 52 | 9 => 100 | 19 => 94 | 20 => 95 | 21 => 127 | 22 => 128 | 23 => 129 | 24 => 130 | 25 => 131 | 26 => 132 | 27 => 133 | 28 => 134 | 29 => 135 | 36 => 152 | 31 => 122 | 32 => 123 | 37 => 153 | 38 => 154 | 39 => 155 | 41 => 172 | n => n, fun | 27 => 58 | 29 => 9 | 3 => 3 | 32 => 106 | 26 => 58 | 0 => 0 | 44 => 138 | 46 => 140 | 4 => 4 | 36 => 131 | 35 => 130 | 41 => 135 | 5 => 5 | 9 => 9 | 53 => 158 | 57 => 162 | 63 => 178 | 64 => 179 | n => n, fun | n => n⟩
theorem Tryz.sortStr : Go.Proofs.SlLaysM.n6 Tryz.prog Tryz.sortStr_ren := {
  mixed := by kernel_rfl
  f6 := ⟨Tryz.f61.name, by decide, Tryz.func61.trans (congrArg some (by kernel_rfl))⟩
  f8 := Tryz.func52.trans (congrArg some (by kernel_rfl))
  f9 := ⟨Tryz.f100.name, by decide, Tryz.func100.trans (congrArg some (by kernel_rfl))⟩
  f19 := Tryz.func94.trans (congrArg some (by kernel_rfl))
  f20 := Tryz.func95.trans (congrArg some (by kernel_rfl))
  f21 := ⟨Tryz.f127.name, by decide, Tryz.func127.trans (congrArg some (by kernel_rfl))⟩
  f22 := ⟨Tryz.f128.name, by decide, Tryz.func128.trans (congrArg some (by kernel_rfl))⟩
  f23 := ⟨Tryz.f129.name, by decide, Tryz.func129.trans (congrArg some (by kernel_rfl))⟩
  f24 := ⟨Tryz.f130.name, by decide, Tryz.func130.trans (congrArg some (by kernel_rfl))⟩
  f25 := ⟨Tryz.f131.name, by decide, Tryz.func131.trans (congrArg some (by kernel_rfl))⟩
  f26 := ⟨Tryz.f132.name, by decide, Tryz.func132.trans (congrArg some (by kernel_rfl))⟩
  f27 := ⟨Tryz.f133.name, by decide, Tryz.func133.trans (congrArg some (by kernel_rfl))⟩
  f28 := ⟨Tryz.f134.name, by decide, Tryz.func134.trans (congrArg some (by kernel_rfl))⟩
  f29 := ⟨Tryz.f135.name, by decide, Tryz.func135.trans (congrArg some (by kernel_rfl))⟩
  f31 := Tryz.func122.trans (congrArg some (by kernel_rfl))
  f32 := Tryz.func123.trans (congrArg some (by kernel_rfl))
  f36 := ⟨Tryz.f152.name, by decide, Tryz.func152.trans (congrArg some (by kernel_rfl))⟩
  f37 := ⟨Tryz.f153.name, by decide, Tryz.func153.trans (congrArg some (by kernel_rfl))⟩
  f38 := ⟨Tryz.f154.name, by decide, Tryz.func154.trans (congrArg some (by kernel_rfl))⟩
  f39 := ⟨Tryz.f155.name, by decide, Tryz.func155.trans (congrArg some (by kernel_rfl))⟩
  f41 := ⟨Tryz.f172.name, by decide, Tryz.func172.trans (congrArg some (by kernel_rfl))⟩
  t0 := Tryz.underlying0
  a0 := Tryz.isAgg0
  z0 := Tryz.sizeOf0
  v0 := Tryz.zeroValue0
  t3 := Tryz.underlying3
  a3 := Tryz.isAgg3
  z3 := Tryz.sizeOf3
  v3 := Tryz.zeroValue3
  t4 := Tryz.underlying4
  a4 := Tryz.isAgg4
  z4 := Tryz.sizeOf4
  v4 := Tryz.zeroValue4
  t5 := Tryz.underlying5
  a5 := Tryz.isAgg5
  z5 := Tryz.sizeOf5
  v5 := Tryz.zeroValue5
  t9 := Tryz.underlying9
  a9 := Tryz.isAgg9
  z9 := Tryz.sizeOf9
  v9 := Tryz.zeroValue9
  t26 := Tryz.underlying58
  a26 := Tryz.isAgg58
  z26 := Tryz.sizeOf58
  v26 := Tryz.zeroValue58
  t27 := Tryz.underlying58
  a27 := Tryz.isAgg58
  z27 := Tryz.sizeOf58
  v27 := Tryz.zeroValue58
  t29 := Tryz.underlying9
  a29 := Tryz.isAgg9
  z29 := Tryz.sizeOf9
  v29 := Tryz.zeroValue9
  t32 := Tryz.underlying106
  a32 := Tryz.isAgg106
  z32 := Tryz.sizeOf106
  v32 := Tryz.zeroValue106
  t35 := Tryz.underlying130
  a35 := Tryz.isAgg130
  z35 := Tryz.sizeOf130
  v35 := Tryz.zeroValue130
  t36 := Tryz.underlying131
  a36 := Tryz.isAgg131
  z36 := Tryz.sizeOf131
  v36 := Tryz.zeroValue131
  t41 := Tryz.underlying135
  a41 := Tryz.isAgg135
  z41 := Tryz.sizeOf135
  v41 := Tryz.zeroValue135
  t44 := Tryz.underlying138
  a44 := Tryz.isAgg138
  z44 := Tryz.sizeOf138
  v44 := Tryz.zeroValue138
  t46 := Tryz.underlying140
  a46 := Tryz.isAgg140
  z46 := Tryz.sizeOf140
  v46 := Tryz.zeroValue140
  t53 := Tryz.underlying158
  a53 := Tryz.isAgg158
  z53 := Tryz.sizeOf158
  v53 := Tryz.zeroValue158
  t57 := Tryz.underlying162
  a57 := Tryz.isAgg162
  z57 := Tryz.sizeOf162
  v57 := Tryz.zeroValue162
  t63 := Tryz.underlying178
  a63 := Tryz.isAgg178
  z63 := Tryz.sizeOf178
  v63 := Tryz.zeroValue178
  t64 := Tryz.underlying179
  a64 := Tryz.isAgg179
  z64 := Tryz.sizeOf179
  v64 := Tryz.zeroValue179 }
def Tryz.compStr_ren : Go.Shelf.Ren := ⟨fun | 44 => 62 | n => n, fun | 25 => 58 | 26 => 9 | 3 => 3 | 4 => 4 | 0 => 0 | n => n, fun | n => n⟩
theorem Tryz.compStr : Go.Proofs.SlLaysN.n44 Tryz.prog Tryz.compStr_ren := {
  mixed := by kernel_rfl
  f44 := ⟨Tryz.f62.name, by decide, Tryz.func62.trans (congrArg some (by kernel_rfl))⟩
  t0 := Tryz.underlying0
  a0 := Tryz.isAgg0
  z0 := Tryz.sizeOf0
  v0 := Tryz.zeroValue0
  t3 := Tryz.underlying3
  a3 := Tryz.isAgg3
  z3 := Tryz.sizeOf3
  v3 := Tryz.zeroValue3
  t4 := Tryz.underlying4
  a4 := Tryz.isAgg4
  z4 := Tryz.sizeOf4
  v4 := Tryz.zeroValue4
  t25 := Tryz.underlying58
  a25 := Tryz.isAgg58
  z25 := Tryz.sizeOf58
  v25 := Tryz.zeroValue58
  t26 := Tryz.underlying9
  a26 := Tryz.isAgg9
  z26 := Tryz.sizeOf9
  v26 := Tryz.zeroValue9
  i26 := by kernel_rfl }
def Tryz.itoa_ren : Go.Shelf.Ren := ⟨fun | 171 => 60 | 243 => 99 | 246 => 126 | 283 => 148 | 284 => 149 | 285 => 150 | 286 => 151 | 129 => 95 | 317 => 168 | 318 => 169 | 319 => 170 | 320 => 171 | 337 => 178 | 338 => 179 | n => n, fun | 3 => 3 | 9 => 9 | 2 => 2 | 4 => 4 | 171 => 181 | 0 => 0 | 53 => 140 | 37 => 59 | 5 => 5 | 173 => 183 | 212 => 194 | 51 => 138 | 20 => 20 | 213 => 195 | 46 => 106 | 232 => 201 | 233 => 202 | n => n, fun | 17 => 0 | 18 => 2 | 19 => 3 | n => n⟩
theorem Tryz.itoa : Go.Proofs.LaysM.n171 Tryz.prog Tryz.itoa_ren := {
  mixed := by kernel_rfl
  f129 := Tryz.func95.trans (congrArg some (by kernel_rfl))
  f171 := Tryz.func60.trans (congrArg some (by kernel_rfl))
  f243 := Tryz.func99.trans (congrArg some (by kernel_rfl))
  f246 := Tryz.func126.trans (congrArg some (by kernel_rfl))
  f283 := Tryz.func148.trans (congrArg some (by kernel_rfl))
  f284 := Tryz.func149.trans (congrArg some (by kernel_rfl))
  f285 := Tryz.func150.trans (congrArg some (by kernel_rfl))
  f286 := Tryz.func151.trans (congrArg some (by kernel_rfl))
  f317 := Tryz.func168.trans (congrArg some (by kernel_rfl))
  f318 := Tryz.func169.trans (congrArg some (by kernel_rfl))
  f319 := Tryz.func170.trans (congrArg some (by kernel_rfl))
  f320 := Tryz.func171.trans (congrArg some (by kernel_rfl))
  f337 := Tryz.func178.trans (congrArg some (by kernel_rfl))
  f338 := Tryz.func179.trans (congrArg some (by kernel_rfl))
  t0 := Tryz.underlying0
  a0 := Tryz.isAgg0
  z0 := Tryz.sizeOf0
  v0 := Tryz.zeroValue0
  t2 := Tryz.underlying2
  a2 := Tryz.isAgg2
  z2 := Tryz.sizeOf2
  v2 := Tryz.zeroValue2
  t3 := Tryz.underlying3
  a3 := Tryz.isAgg3
  z3 := Tryz.sizeOf3
  v3 := Tryz.zeroValue3
  t4 := Tryz.underlying4
  a4 := Tryz.isAgg4
  z4 := Tryz.sizeOf4
  v4 := Tryz.zeroValue4
  t5 := Tryz.underlying5
  a5 := Tryz.isAgg5
  z5 := Tryz.sizeOf5
  v5 := Tryz.zeroValue5
  t9 := Tryz.underlying9
  a9 := Tryz.isAgg9
  z9 := Tryz.sizeOf9
  v9 := Tryz.zeroValue9
  t20 := Tryz.underlying20
  a20 := Tryz.isAgg20
  z20 := Tryz.sizeOf20
  v20 := Tryz.zeroValue20
  t37 := Tryz.underlying59
  a37 := Tryz.isAgg59
  z37 := Tryz.sizeOf59
  v37 := Tryz.zeroValue59
  t46 := Tryz.underlying106
  a46 := Tryz.isAgg106
  z46 := Tryz.sizeOf106
  v46 := Tryz.zeroValue106
  t51 := Tryz.underlying138
  a51 := Tryz.isAgg138
  z51 := Tryz.sizeOf138
  v51 := Tryz.zeroValue138
  t53 := Tryz.underlying140
  a53 := Tryz.isAgg140
  z53 := Tryz.sizeOf140
  v53 := Tryz.zeroValue140
  t171 := Tryz.underlying181
  a171 := Tryz.isAgg181
  z171 := Tryz.sizeOf181
  v171 := Tryz.zeroValue181
  t173 := Tryz.underlying183
  a173 := Tryz.isAgg183
  z173 := Tryz.sizeOf183
  v173 := Tryz.zeroValue183
  t212 := Tryz.underlying194
  a212 := Tryz.isAgg194
  z212 := Tryz.sizeOf194
  v212 := Tryz.zeroValue194
  t213 := Tryz.underlying195
  a213 := Tryz.isAgg195
  z213 := Tryz.sizeOf195
  t232 := Tryz.underlying201
  a232 := Tryz.isAgg201
  z232 := Tryz.sizeOf201
  v232 := Tryz.zeroValue201
  t233 := Tryz.underlying202
  a233 := Tryz.isAgg202
  z233 := Tryz.sizeOf202
  v233 := Tryz.zeroValue202
  g17 := by kernel_rfl
  g18 := by kernel_rfl
  g19 := by kernel_rfl
  i0 := by kernel_rfl
  i2 := by kernel_rfl
  i3 := by kernel_rfl
  i4 := by kernel_rfl
  i5 := by kernel_rfl
  i9 := by kernel_rfl
  i20 := by kernel_rfl
  i37 := by kernel_rfl
  i46 := by kernel_rfl
  i51 := by kernel_rfl
  i53 := by kernel_rfl
  i171 := by kernel_rfl
  i173 := by kernel_rfl
  i212 := by kernel_rfl
  i232 := by kernel_rfl
  i233 := by kernel_rfl
  m17 := by kernel_rfl
  m18 := by kernel_rfl
  m19 := by kernel_rfl }
end Go.Proofs
namespace Go.Proofs.YtfciedmmgddgpaaGreatDoor
open Go Go.RowKit

def Tab (w : World) : Prop := Lib.TabIs Tryz.prog w "internal/strconv.uint64pow10" .u64 Lib.pow10Tab
theorem Tab.over {w w' : World} (h : Tab w) (hb : Below w.heap.size w w') : Tab w' := Lib.tabBelow_of_tabIs h w' hb
def decB (n : Nat) : ByteArray := ⟨(Lib.decDigits n).toArray⟩
theorem dec_len : ∀ (k u : Nat), u < 10 ^ k → (Lib.decDigits u).length ≤ k + 1
  | 0, u, h => by
    rw [Lib.decDigits, dif_pos (by simp at h; omega)]; simp
  | k + 1, u, h => by
    rw [Lib.decDigits]
    split
    · simp
    · rename_i h10
      rw [Nat.pow_succ] at h
      have := dec_len k (u / 10) (by omega)
      simp; omega
theorem decB_size {u : Nat} (h : u < 100000) : (decB u).size ≤ 6 := dec_len 5 u (by simpa using h)
theorem decB_list (u : Nat) : (decB u).data.toList = Lib.decDigits u := rfl
theorem itoa_any (n : Nat) (w : World) (hn : n < 65536) (ht : Tab w) : Calls Tryz.prog 60 #[.int .i64 (n : Int)] w fun e w' => e = .returned (.string (decB n)) ∧ Below w.heap.size w w' := by
  have hcon := Any.strconv_Itoa (P := Tryz.prog) Tryz.itoa (n : Int) (by omega) (by omega) w ht
  refine hcon.mono ?_
  rintro e w' ⟨rfl, k, os, rfl⟩
  refine ⟨?_, Grew.below ⟨k, os, rfl⟩⟩
  rw [Lib.itoa_nonneg]; rfl
def pidB (p : PidM) : ByteArray := decB p.author.toNat ++ ⟨#[46]⟩ ++ decB p.seq.toNat
theorem pidB_size (p : PidM) : (pidB p).size ≤ 20 := by
  have h1 := decB_size (u := p.author.toNat) (by have := p.author.toNat_lt; omega)
  have h2 := decB_size (u := p.seq.toNat) (by have := p.seq.toNat_lt; omega)
  unfold pidB
  rw [ByteArray.size_append, ByteArray.size_append]
  have : (⟨#[46]⟩ : ByteArray).size = 1 := rfl
  omega
theorem textB_eq (v : VidM) : pidB v.pid ++ ⟨#[46]⟩ ++ decB v.n.toNat = textB v := by
  apply ByteArray.ext
  apply Array.ext'
  show _ = textL v
  simp [textL, pidB, decB]
theorem textB_size (v : VidM) : (textB v).size ≤ 40 := by
  have h1 := pidB_size v.pid
  have h2 := decB_size (u := v.n.toNat) (by have := v.n.toNat_lt; omega)
  rw [← textB_eq, ByteArray.size_append, ByteArray.size_append]
  have : (⟨#[46]⟩ : ByteArray).size = 1 := rfl
  omega
attribute [local irreducible] decB pidB textB
set_option maxHeartbeats 4000000 in
set_option maxRecDepth 100000 in
theorem ptext_any (p : PidM) (w : World) (ht : Tab w) : Calls Tryz.prog 59 #[pidV p] w fun e w' => e = .returned (.string (pidB p)) ∧ Below w.heap.size w w' := by
  have HA := Lib.hid (arr_new w #[.int .u8 (p.author.toNat : Int), .int .u16 (p.seq.toNat : Int)] 25)
  have HB := Lib.hid (below_new (w := w) (.cells #[.int .u8 (p.author.toNat : Int), .int .u16 (p.seq.toNat : Int)] 25))
  have HT := Lib.hid (ht.over HB.out)
  have h1 := p.author.toNat_lt
  have h2 := p.seq.toNat_lt
  have z1 := decB_size (u := p.author.toNat) (by omega)
  have z2 := decB_size (u := p.seq.toNat) (by omega)
  have HE : Hid (decB p.author.toNat ++ ⟨#[46]⟩ ++ decB p.seq.toNat = pidB p) := by show _ = _; unfold pidB; rfl
  clear ht
  unfold pidV
  go_enter Tryz.func59, Tryz.ntmps59
  go_upto_region 1 with (fail)
  generalize hw0 : w.alloc (.cells #[.int .u8 (p.author.toNat : Int), .int .u16 (p.seq.toNat : Int)] 25) = w0 at *
  clear hw0
  have c0 := HA.out.cell (j := 0) rfl
  have c1 := HA.out.cell (j := 1) rfl
  have sc := HA.out.lt
  have HC1 : Hid (∀ w', Below w0.heap.size w0 w' → Calls Tryz.prog 60 #[.int .i64 (p.author.toNat : Int)] w' fun e w'' => e = .returned (.string (decB p.author.toNat)) ∧ Below w'.heap.size w' w'') := fun w' hb => itoa_any _ w' (by omega) (HT.out.over hb)
  have HC2 : Hid (∀ w', Below w0.heap.size w0 w' → Calls Tryz.prog 60 #[.int .i64 (p.seq.toNat : Int)] w' fun e w'' => e = .returned (.string (decB p.seq.toNat)) ∧ Below w'.heap.size w' w'') := fun w' hb => itoa_any _ w' (by omega) (HT.out.over hb)
  generalize decB p.author.toNat = A at *
  generalize decB p.seq.toNat = B at *
  have hcur : Below w0.heap.size w0 w0.drew := (Below.refl _ _).drew
  refine wp_region_lex (C := IsOver w0) 11 [] (by kernel_rfl) (by kernel_rfl) (isOver_of (by repeat (first | exact Below.refl _ _ | apply Below.drew | apply below_drewN | (refine Below.alloc ?_ (by simp) _)))) ?_
  simp only [List.take_succ_cons, List.take_zero, List.drop_succ_cons, List.drop_zero]
  repeat (first | (refine lex_skip rfl rfl ?_; simp only [Act.put, List.setIfInBounds_toArray, List.set_cons_succ, List.set_cons_zero]) | (refine lex_one rfl ?_; go_big_quiet_step (fail); refine wpQuiet_nil ?_) | (refine lex_loud rfl ?_; go_wp2_with (first | (go_at_call 60; (with_reducible refine (HC1.out _ hcur).mono ?_); rintro e w' ⟨rfl, hb⟩; replace hcur := below_over hcur hcur.size hb; clear hb) | (go_at_call 60; (with_reducible refine (HC2.out _ hcur).mono ?_); rintro e w' ⟨rfl, hb⟩; replace hcur := below_over hcur hcur.size hb; clear hb)); refine ⟨isOver_of hcur, ?_⟩))
  refine lex_end ?_
  go_wp2_with fail
  go_ret
  exact ⟨ret_val (congrArg Value.string HE.out), below_over HB.out HB.out.size hcur⟩
set_option maxHeartbeats 4000000 in
set_option maxRecDepth 100000 in
theorem vtext_any (v : VidM) (w : World) (ht : Tab w) : Calls Tryz.prog 33 #[vidV v] w fun e w' => e = .returned (.string (textB v)) ∧ Below w.heap.size w w' := by
  have HA := Lib.hid (arr_new w #[.int .u8 (v.pid.author.toNat : Int), .int .u16 (v.pid.seq.toNat : Int), .int .u8 (v.n.toNat : Int)] 27)
  have HB := Lib.hid (below_new (w := w) (.cells #[.int .u8 (v.pid.author.toNat : Int), .int .u16 (v.pid.seq.toNat : Int), .int .u8 (v.n.toNat : Int)] 27))
  have HT := Lib.hid (ht.over HB.out)
  have h1 := v.n.toNat_lt
  have z1 := pidB_size v.pid
  have z2 := decB_size (u := v.n.toNat) (by omega)
  have HE := Lib.hid (textB_eq v)
  clear ht
  unfold vidV
  go_enter Tryz.func33, Tryz.ntmps33
  go_upto_region 1 with (fail)
  generalize hw0 : w.alloc (.cells #[.int .u8 (v.pid.author.toNat : Int), .int .u16 (v.pid.seq.toNat : Int), .int .u8 (v.n.toNat : Int)] 27) = w0 at *
  clear hw0
  have c0 := HA.out.cell (j := 0) rfl
  have c1 := HA.out.cell (j := 1) rfl
  have c2 := HA.out.cell (j := 2) rfl
  have sc := HA.out.lt
  have HC1 : Hid (∀ w', Below w0.heap.size w0 w' → Calls Tryz.prog 59 #[.agg #[.int .u8 (v.pid.author.toNat : Int), .int .u16 (v.pid.seq.toNat : Int)]] w' fun e w'' => e = .returned (.string (pidB v.pid)) ∧ Below w'.heap.size w' w'') := fun w' hb => ptext_any v.pid w' (HT.out.over hb)
  have HC2 : Hid (∀ w', Below w0.heap.size w0 w' → Calls Tryz.prog 60 #[.int .i64 (v.n.toNat : Int)] w' fun e w'' => e = .returned (.string (decB v.n.toNat)) ∧ Below w'.heap.size w' w'') := fun w' hb => itoa_any _ w' (by omega) (HT.out.over hb)
  generalize pidB v.pid = A at *
  generalize decB v.n.toNat = B at *
  have hcur : Below w0.heap.size w0 w0.drew := (Below.refl _ _).drew
  refine wp_region_lex (C := IsOver w0) 10 [] (by kernel_rfl) (by kernel_rfl) (isOver_of (by repeat (first | exact Below.refl _ _ | apply Below.drew | apply below_drewN | (refine Below.alloc ?_ (by simp) _)))) ?_
  simp only [List.take_succ_cons, List.take_zero, List.drop_succ_cons, List.drop_zero]
  repeat (first | (refine lex_skip rfl rfl ?_; simp only [Act.put, List.setIfInBounds_toArray, List.set_cons_succ, List.set_cons_zero]) | (refine lex_one rfl ?_; go_big_quiet_step (fail); refine wpQuiet_nil ?_) | (refine lex_loud rfl ?_; go_wp2_with (first | (go_at_call 59; (with_reducible refine (HC1.out _ hcur).mono ?_); rintro e w' ⟨rfl, hb⟩; replace hcur := below_over hcur hcur.size hb; clear hb) | (go_at_call 60; (with_reducible refine (HC2.out _ hcur).mono ?_); rintro e w' ⟨rfl, hb⟩; replace hcur := below_over hcur hcur.size hb; clear hb)); refine ⟨isOver_of hcur, ?_⟩))
  refine lex_end ?_
  go_wp2_with fail
  go_ret
  exact ⟨ret_val (congrArg Value.string HE.out), below_over HB.out HB.out.size hcur⟩
end Go.Proofs.YtfciedmmgddgpaaGreatDoor
