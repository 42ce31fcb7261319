/- The class of worlds in which nothing old has turned but one row. Contracts of package pid and vid: Good, Pack, Cmp; of patch.Vid, op.Makes; of the references' Good, Cmp, Vid, Makes. '==' at names, operations, vertices, steps. -/
import Derived.Test.YtfciedmmgddgpaaGreatDoorZMemB
import Derived.Test.YtfciedmmgddgpaaGreatDoorZGrP
import Derived.Test.YtfciedmmgddgpaaGreatDoorZGen
import Derived.Laws.StructEq
namespace Go.Proofs.YtfciedmmgddgpaaGreatDoor
open Go Go.RowKit

def Kept (w : World) (row : Option Nat) : Type := { w' : World // w.grownBy w' row }
instance (w : World) (row : Option Nat) : Nonempty (Kept w row) := ⟨⟨w, World.grownBy.refl _ _⟩⟩
def IsKept (w : World) (row : Option Nat) : World → Prop := fun w' => ∃ x : Kept w row, w' = x.1
theorem isKept_of {w w' : World} {row : Option Nat} (h : w.grownBy w' row) : IsKept w row w' := ⟨⟨w', h⟩, rfl⟩
theorem isKept_grown {w w' : World} {row : Option Nat} (h : IsKept w row w') : w.grownBy w' row := by obtain ⟨x, rfl⟩ := h; exact x.2
@[go_sem] theorem isKept_all {w : World} {row : Option Nat} {p : World → Prop} : (∀ w', IsKept w row w' → p w') ↔ ∀ x : Kept w row, p x.1 := ⟨fun h x => h _ ⟨x, rfl⟩, fun h w' ⟨x, hx⟩ => hx ▸ h x⟩
@[simp, go_sem] theorem kept_cell {w : World} {row : Option Nat} (x : Kept w row) {a : Addr} (h : a.block < w.heap.size) (hn : ¬ some a.block = row) : World.cell? x.1 a = w.cell? a := World.cell?_of_block (x.2.block _ h hn)
@[simp, go_sem] theorem kept_frozen {w : World} {row : Option Nat} (x : Kept w row) {a : Addr} (h : a.block < w.heap.size) (hn : ¬ some a.block = row) : World.frozen? x.1 a = w.frozen? a := by
  have := x.2.block _ h hn
  unfold World.frozen?
  rw [this]
theorem isKept_drew (w : World) (row : Option Nat) : IsKept w row w.drew := isKept_of ⟨rfl, rfl, rfl, Nat.le_refl _, fun _ _ _ => rfl⟩
theorem only_alloc {a w : World} {row : Option Nat} (h : a.grownBy w row) (o : Obj) : a.grownBy (w.alloc o) row :=
  ⟨h.os, h.tape, h.output, Nat.le_trans h.size (by simp), fun i hi hne => (Below.heap_alloc w o i (Nat.lt_of_lt_of_le hi h.size)).trans (h.block i hi hne)⟩
theorem grown_setCell (w : World) {g : Nat} (j : Nat) (u : Value) : w.grownBy (w.setCell ⟨g, j, none⟩ u) (some g) :=
  ⟨rfl, rfl, rfl, by simp [World.setCell], fun i _ hne => Below.heap_setCell w ⟨g, j, none⟩ u i (fun h => hne (by rw [h]))⟩
theorem own_grown {w w' : World} {B : Nat} {e : TypeId} {sz n : Nat} {v : Value} {xs : List Value} {row : Option Nat} (h : w.ownsRow B e sz v n xs) (hg : w.grownBy w' row) (hn : v.ownBlock = none ∨ v.ownBlock ≠ row) : w'.ownsRow B e sz v n xs := by
  obtain ⟨h1, h2⟩ := h
  rcases h2 with ⟨rfl, h0⟩ | ⟨g, cap, cur, rfl, hb, hgh, hnc, hm, hs, ht⟩
  · exact ⟨h1, .inl ⟨rfl, h0⟩⟩
  · have hne : some g ≠ row := by
      rcases hn with hn | hn
      · simp [Value.ownBlock] at hn
      · exact hn
    exact ⟨h1, .inr ⟨g, cap, cur, rfl, hb, by rw [hg.block g (Array.getElem?_eq_some_iff.1 hgh).1 hne]; exact hgh, hnc, hm, hs, ht⟩⟩
theorem OwnAt.grown {w w' : World} {B : Nat} {e : TypeId} {sz g n cap : Nat} {xs : List Value} {row : Option Nat} (h : OwnAt w B e sz g n cap xs) (hg : w.grownBy w' row) (hn : some g ≠ row) : OwnAt w' B e sz g n cap xs := by
  obtain ⟨junk, h1, h2⟩ := h.at'
  exact ⟨⟨junk, by rw [hg.block g h.lt hn]; exact h1, h2⟩, h.len, h.base, h.nc, h.cm⟩
theorem OwnAt.setCell {w : World} {B : Nat} {e : TypeId} {sz g n cap : Nat} {xs : List Value} (h : OwnAt w B e sz g n cap xs) (j : Nat) (hj : j < xs.length) (u : Value) : OwnAt (w.setCell ⟨g, j, none⟩ u) B e sz g n cap (xs.set j u) := by
  obtain ⟨junk, h1, h2⟩ := h.at'
  have hs := setCell_eq_setRow w g j (xs ++ junk).toArray e (0, 0) u h1
  refine ⟨⟨junk, ?_, by simpa using h2⟩, by simpa using h.len, h.base, h.nc, h.cm⟩
  rw [hs, setRow_heap w g _ _ e _ h1]
  simp only [Option.some.injEq, Obj.cells.injEq, and_true]
  apply Array.ext'
  simp [List.set_append_left _ _ hj]
theorem OwnAt.free {w : World} {B : Nat} {e : TypeId} {sz g n cap : Nat} {xs : List Value} (h : OwnAt w B e sz g n cap xs) (j : Nat) : w.frozen? ⟨g, j, none⟩ = false := by
  obtain ⟨junk, h1, _⟩ := h.at'
  exact Arr.free (w := w) (g := g) (cs := xs ++ junk) ⟨e, h1⟩ j
/-- two rows of unlike types lie in unlike blocks -/
theorem OwnAt.ne {w : World} {B B' : Nat} {e e' : TypeId} {sz sz' g n n' cap : Nat} {xs ys : List Value} {v : Value} (h : OwnAt w B e sz g n cap xs) (ho : w.ownsRow B' e' sz' v n' ys) (hn : e' ≠ e) : v.ownBlock ≠ some g := by
  obtain ⟨junk, h1, _⟩ := h.at'
  have := ArrT.ne (w := w) (g := g) (e := e) (cs := xs ++ junk) h1 ho hn
  exact fun h => this h.symm

/-- the worlds in which block b is as in w -/
def SameAt (w : World) (b : Nat) : Type := { w' : World // w'.heap[b]? = w.heap[b]? }
instance (w : World) (b : Nat) : Nonempty (SameAt w b) := ⟨⟨w, rfl⟩⟩
def IsSameAt (w : World) (b : Nat) : World → Prop := fun w' => ∃ x : SameAt w b, w' = x.1
theorem isSameAt_of {w w' : World} {b : Nat} (h : w'.heap[b]? = w.heap[b]?) : IsSameAt w b w' := ⟨⟨w', h⟩, rfl⟩
@[go_sem] theorem isSameAt_all {w : World} {b : Nat} {p : World → Prop} : (∀ w', IsSameAt w b w' → p w') ↔ ∀ x : SameAt w b, p x.1 := ⟨fun h x => h _ ⟨x, rfl⟩, fun h w' ⟨x, hx⟩ => hx ▸ h x⟩
@[simp, go_sem] theorem same_cell {w : World} {b : Nat} (x : SameAt w b) {a : Addr} (h : a.block = b) : World.cell? x.1 a = w.cell? a := World.cell?_of_block (by rw [h]; exact x.2)
@[simp, go_sem] theorem same_frozen {w : World} {b : Nat} (x : SameAt w b) {a : Addr} (h : a.block = b) : World.frozen? x.1 a = w.frozen? a := by
  have := x.2
  unfold World.frozen?
  rw [h, this]
end Go.Proofs.YtfciedmmgddgpaaGreatDoor
namespace Go.Proofs.YtfciedmmgddgpaaGreatDoor
open Go Go.RowKit

def encPid (p : PidM) : List Value := [.int .u8 (p.author.toNat : Int), .int .u16 (p.seq.toNat : Int)]
def encVid (v : VidM) : List Value := [.int .u8 (v.pid.author.toNat : Int), .int .u16 (v.pid.seq.toNat : Int), .int .u8 (v.n.toNat : Int)]
/-- a name as a value -/
abbrev pidV (p : PidM) : Value := .agg #[.int .u8 (p.author.toNat : Int), .int .u16 (p.seq.toNat : Int)]
abbrev vidV (v : VidM) : Value := .agg #[.int .u8 (v.pid.author.toNat : Int), .int .u16 (v.pid.seq.toNat : Int), .int .u8 (v.n.toNat : Int)]
theorem or_shift {a b : Nat} (k : Nat) (hb : b < 2 ^ k) : a * 2 ^ k ||| b = a * 2 ^ k + b := by
  rw [← Nat.shiftLeft_eq, Nat.shiftLeft_add_eq_or_of_lt hb]
theorem or_pid {a b : Nat} (ha : a < 256) (hb : b < 65536) : bits .or .u32 ((a : Int) * 65536) (b : Int) = ((a * 65536 + b : Nat) : Int) := by
  have := or_u32 (a := a * 65536) (b := b) (by omega) (by omega)
  rw [Int.natCast_mul] at this
  rw [show ((a : Int) * 65536) = (a : Int) * ((65536 : Nat) : Int) from rfl, this, or_shift (a := a) 16 hb]
theorem or_vid {a b : Nat} (ha : a < 16777216) (hb : b < 256) : bits .or .u32 ((a : Int) * 256) (b : Int) = ((a * 256 + b : Nat) : Int) := by
  have := or_u32 (a := a * 256) (b := b) (by omega) (by omega)
  rw [Int.natCast_mul] at this
  rw [show ((a : Int) * 256) = (a : Int) * ((256 : Nat) : Int) from rfl, this, or_shift (a := a) 8 hb]

theorem below_new {w : World} (o : Obj) : Below w.heap.size w (w.alloc o) := (Below.refl _ _).alloc (Nat.le_refl _) o
set_option maxHeartbeats 1000000 in
set_option maxRecDepth 100000 in
theorem ppack_any (p : PidM) (w : World) : Calls Tryz.prog 137 #[pidV p] w fun e w' => e = .returned (.int .u32 (packPid p : Int)) ∧ Below w.heap.size w w' := by
  have h1 := p.author.toNat_lt
  have h2 := p.seq.toNat_lt
  have HO := Lib.hid (or_pid (show p.author.toNat < 256 by omega) (show p.seq.toNat < 65536 by omega))
  unfold pidV
  go_enter Tryz.func137, Tryz.ntmps137
  go_wp2_with fail
  go_ret
  exact ⟨ret_int HO.out, below_new _⟩

set_option maxHeartbeats 1000000 in
set_option maxRecDepth 100000 in
theorem vpack_any (v : VidM) (w : World) : Calls Tryz.prog 120 #[vidV v] w fun e w' => e = .returned (.int .u32 (packVid v : Int)) ∧ Below w.heap.size w w' := by
  have h1 := packPid_lt v.pid
  have h2 := v.n.toNat_lt
  have HO := Lib.hid (or_vid h1 (show v.n.toNat < 256 by omega))
  have HB := Lib.hid (below_new (w := w) (.cells #[.int .u8 (v.pid.author.toNat : Int), .int .u16 (v.pid.seq.toNat : Int), .int .u8 (v.n.toNat : Int)] 27))
  have HA := Lib.hid (arrT_new w [.int .u8 (v.pid.author.toNat : Int), .int .u16 (v.pid.seq.toNat : Int), .int .u8 (v.n.toNat : Int)] 27)
  unfold vidV
  go_enter Tryz.func120, Tryz.ntmps120
  go_wp2_with fail
  generalize hw0 : w.alloc (.cells #[.int .u8 (v.pid.author.toNat : Int), .int .u16 (v.pid.seq.toNat : Int), .int .u8 (v.n.toNat : Int)] 27) = w0 at *
  have c0 := HA.out.arr.cell (j := 0) rfl
  have c1 := HA.out.arr.cell (j := 1) rfl
  have c2 := HA.out.arr.cell (j := 2) rfl
  have sA := HA.out.arr.lt
  clear hw0
  have hcur : Below w0.heap.size w0 w0.drew := (Below.refl _ _).drew
  refine wp_region_lex (C := IsOver w0) 9 [] (by kernel_rfl) (by kernel_rfl) (isOver_of (by repeat (first | exact Below.refl _ _ | apply Below.drew | apply below_drewN | (refine Below.alloc ?_ (by simp) _)))) ?_
  simp only [List.take_succ_cons, List.take_zero, List.drop_succ_cons, List.drop_zero]
  repeat (first | (refine lex_skip rfl rfl ?_; simp only [Act.put, List.setIfInBounds_toArray, List.set_cons_succ, List.set_cons_zero]) | (refine lex_one rfl ?_; go_big_quiet_step (fail); refine wpQuiet_nil ?_) | (refine lex_loud rfl ?_; go_wp2_with (first | (go_at_call 137; (with_reducible refine (ppack_any v.pid _).mono ?_); rintro e w' ⟨rfl, hb⟩; replace hcur := below_over hcur hcur.size hb; clear hb)); refine ⟨isOver_of hcur, ?_⟩))
  refine lex_end ?_
  go_wp2_with fail
  go_ret
  exact ⟨ret_int HO.out, below_over HB.out HB.out.size hcur⟩

set_option maxHeartbeats 1000000 in
set_option maxRecDepth 100000 in
theorem nan_any (a : Nat) (w : World) : Calls Tryz.prog 146 #[.int .u32 (a : Int)] w fun e w' => e = .returned (.bool false) ∧ w' = w := by
  go_enter Tryz.func146, Tryz.ntmps146
  go_wp2
  go_ret
  exact ⟨rfl, rfl⟩
theorem cmpN_lt {a b : Nat} (h : a < b) : cmpN a b = -1 := by unfold cmpN; rw [if_pos h]
theorem cmpN_gt {a b : Nat} (h : b < a) : cmpN a b = 1 := by unfold cmpN; rw [if_neg (by omega), if_pos h]
theorem cmpN_eq {a b : Nat} (h : a = b) : cmpN a b = 0 := by unfold cmpN; rw [if_neg (by omega), if_neg (by omega)]
attribute [local irreducible] packPid packVid cmpN

set_option maxHeartbeats 1000000 in
set_option maxRecDepth 100000 in
theorem compare_any (a b : Nat) (w : World) : Calls Tryz.prog 119 #[.int .u32 (a : Int), .int .u32 (b : Int)] w fun e w' => e = .returned (.int .i64 (cmpN a b)) ∧ w' = w := by
  by_cases h1 : a < b
  · have HC := Lib.hid (cmpN_lt h1)
    have d1 : decide (a < b) = true := by simpa using h1
    go_enter Tryz.func119, Tryz.ntmps119
    go_wp2_with (go_at_call 146; (with_reducible refine (nan_any _ _).mono ?_); rintro e w' ⟨rfl, rfl⟩)
    go_ret
    exact ⟨ret_int HC.out.symm, rfl⟩
  · have d1 : decide (a < b) = false := by simpa using h1
    by_cases h2 : b < a
    · have HC := Lib.hid (cmpN_gt h2)
      have d2 : decide (b < a) = true := by simpa using h2
      go_enter Tryz.func119, Tryz.ntmps119
      go_wp2_with (go_at_call 146; (with_reducible refine (nan_any _ _).mono ?_); rintro e w' ⟨rfl, rfl⟩)
      go_ret
      exact ⟨ret_int HC.out.symm, rfl⟩
    · have d2 : decide (b < a) = false := by simpa using h2
      have HC := Lib.hid (cmpN_eq (show a = b by omega))
      go_enter Tryz.func119, Tryz.ntmps119
      go_wp2_with (go_at_call 146; (with_reducible refine (nan_any _ _).mono ?_); rintro e w' ⟨rfl, rfl⟩)
      go_ret
      exact ⟨ret_int HC.out.symm, rfl⟩
end Go.Proofs.YtfciedmmgddgpaaGreatDoor
namespace Go.Proofs.YtfciedmmgddgpaaGreatDoor
open Go Go.RowKit

theorem fields_of {P : Program} {t : TypeId} {fs : Array Field} (h : P.underlying t = some (.struct fs)) : P.fieldsOf t = fs := by unfold Program.fieldsOf; rw [h]
theorem u8_int (a b : UInt8) : ((a.toNat : Int) = (b.toNat : Int)) = (a = b) := by
  rw [eq_iff_iff]
  exact ⟨fun h => UInt8.toNat_inj.1 (by omega), fun h => by rw [h]⟩
theorem u16_int (a b : UInt16) : ((a.toNat : Int) = (b.toNat : Int)) = (a = b) := by
  rw [eq_iff_iff]
  exact ⟨fun h => UInt16.toNat_inj.1 (by omega), fun h => by rw [h]⟩
theorem stoodPid : Tryz.prog.stoodInHeld 25 = false := by kernel_rfl
theorem guardPid : Tryz.prog.eqGuardType Tryz.prog.depth 25 = false := by kernel_rfl
theorem stoodVid : Tryz.prog.stoodInHeld 27 = false := by kernel_rfl
theorem guardVid : Tryz.prog.eqGuardType Tryz.prog.depth 27 = false := by kernel_rfl
set_option maxHeartbeats 1000000 in
theorem equal_pid (d : Nat) (x y : PidM) (w : World) : (Op.equalIn (d + 2) 25 (pidV x) (pidV y)).run Tryz.prog w = .ok (decide (x = y)) w := by
  have hf := Tryz.underlying25
  have hff := fields_of hf
  unfold pidV
  rw [run_equalIn_struct (d := d + 1) w 25 _ _ (by rw [hff]; exact hf) stoodPid, hff]
  have i5 := Tryz.underlying5
  have i9 := Tryz.underlying23
  simp only [go_sem, i5, i9]
  obtain ⟨a, b⟩ := x
  obtain ⟨a', b'⟩ := y
  simp [go_sem, i5, i9, u8_int, u16_int]
  by_cases e1 : a = a' <;> by_cases e2 : b = b' <;> simp [e1, e2]
theorem eql_pid (x y : PidM) (b : Bool) (h : decide (x = y) = b) (w : World) : (binOp .eql 25 (pidV x) (pidV y)).run Tryz.prog w = .ok (.bool b) w := by
  unfold pidV
  rw [run_eql_struct, show (10000 : Nat) = 9998 + 2 from rfl, equal_pid 9998 x y, ← h]; rfl
theorem neq_pid (x y : PidM) (b : Bool) (h : (!decide (x = y)) = b) (w : World) : (binOp .neq 25 (pidV x) (pidV y)).run Tryz.prog w = .ok (.bool b) w := by
  unfold pidV
  rw [run_neq_struct, show (10000 : Nat) = 9998 + 2 from rfl, equal_pid 9998 x y, ← h]; rfl
theorem guard_pid (op : BinOp) (p q : Operand) (xs ys : Array Value) (w : World) : (eqGuard op 25 p q (.agg xs) (.agg ys)).run Tryz.prog w = .ok () w := run_eqGuard_agg w op _ p q xs ys guardPid
theorem cells_pid (p : PidM) : (pidV p).cells.toList = encPid p := rfl
set_option maxHeartbeats 2000000 in
theorem equal_vid (d : Nat) (x y : VidM) (w : World) : (Op.equalIn (d + 4) 27 (vidV x) (vidV y)).run Tryz.prog w = .ok (decide (x = y)) w := by
  have hf := Tryz.underlying27
  have hff := fields_of hf
  unfold vidV
  rw [run_equalIn_struct (d := d + 3) w 27 _ _ (by rw [hff]; exact hf) stoodVid, hff]
  have i5 := Tryz.underlying5
  have hp : ∀ w, (Op.equalIn (d + 3) 25 (.agg #[.int .u8 (x.pid.author.toNat : Int), .int .u16 (x.pid.seq.toNat : Int)]) (.agg #[.int .u8 (y.pid.author.toNat : Int), .int .u16 (y.pid.seq.toNat : Int)])).run Tryz.prog w = .ok (decide (x.pid = y.pid)) w := fun w => equal_pid (d + 1) x.pid y.pid w
  have z1 := Tryz.sizeOf25
  have z2 := Tryz.sizeOf5
  have z3 := Tryz.isAgg25
  have z4 := Tryz.isAgg5
  simp [go_sem, i5, z1, z2, z3, z4, hp, u8_int]
  obtain ⟨a, b⟩ := x
  obtain ⟨a', b'⟩ := y
  by_cases e1 : a = a' <;> by_cases e2 : b = b' <;> simp [e1, e2]
theorem eql_vid (x y : VidM) (b : Bool) (h : decide (x = y) = b) (w : World) : (binOp .eql 27 (vidV x) (vidV y)).run Tryz.prog w = .ok (.bool b) w := by
  unfold vidV
  rw [run_eql_struct, show (10000 : Nat) = 9996 + 4 from rfl, equal_vid 9996 x y, ← h]; rfl
theorem neq_vid (x y : VidM) (b : Bool) (h : (!decide (x = y)) = b) (w : World) : (binOp .neq 27 (vidV x) (vidV y)).run Tryz.prog w = .ok (.bool b) w := by
  unfold vidV
  rw [run_neq_struct, show (10000 : Nat) = 9996 + 4 from rfl, equal_vid 9996 x y, ← h]; rfl
theorem guard_vid (op : BinOp) (p q : Operand) (xs ys : Array Value) (w : World) : (eqGuard op 27 p q (.agg xs) (.agg ys)).run Tryz.prog w = .ok () w := run_eqGuard_agg w op _ p q xs ys guardVid

def encOp (o : OpM) : List Value := .int .u8 (o.kind.toNat : Int) :: (encVid o.at' ++ (encVid o.to ++ [.string o.text]))
abbrev opV (o : OpM) : Value := .agg #[.int .u8 (o.kind.toNat : Int), .int .u8 (o.at'.pid.author.toNat : Int), .int .u16 (o.at'.pid.seq.toNat : Int), .int .u8 (o.at'.n.toNat : Int),
  .int .u8 (o.to.pid.author.toNat : Int), .int .u16 (o.to.pid.seq.toNat : Int), .int .u8 (o.to.n.toNat : Int), .string o.text]
def encVert (v : VertM) : List Value := encVid v.id ++ (.int .u8 (v.kind.toNat : Int) :: (encVid v.file ++ [.string v.text, .bool v.dead]))
abbrev vertV (v : VertM) : Value := .agg #[.int .u8 (v.id.pid.author.toNat : Int), .int .u16 (v.id.pid.seq.toNat : Int), .int .u8 (v.id.n.toNat : Int), .int .u8 (v.kind.toNat : Int),
  .int .u8 (v.file.pid.author.toNat : Int), .int .u16 (v.file.pid.seq.toNat : Int), .int .u8 (v.file.n.toNat : Int), .string v.text, .bool v.dead]
theorem stoodOp : Tryz.prog.stoodInHeld 56 = false := by kernel_rfl
theorem guardOp : Tryz.prog.eqGuardType Tryz.prog.depth 56 = false := by kernel_rfl
theorem stoodVert : Tryz.prog.stoodInHeld 68 = false := by kernel_rfl
theorem guardVert : Tryz.prog.eqGuardType Tryz.prog.depth 68 = false := by kernel_rfl
set_option maxHeartbeats 4000000 in
theorem equal_op (d : Nat) (x y : OpM) (w : World) : (Op.equalIn (d + 6) 56 (opV x) (opV y)).run Tryz.prog w = .ok (decide (x = y)) w := by
  have hf := Tryz.underlying56
  have hff := fields_of hf
  unfold opV
  rw [run_equalIn_struct (d := d + 5) w 56 _ _ (by rw [hff]; exact hf) stoodOp, hff]
  have i5 := Tryz.underlying5
  have i6 := Tryz.underlying9
  have hp : ∀ (u v : VidM) w, (Op.equalIn (d + 5) 27 (.agg #[.int .u8 (u.pid.author.toNat : Int), .int .u16 (u.pid.seq.toNat : Int), .int .u8 (u.n.toNat : Int)]) (.agg #[.int .u8 (v.pid.author.toNat : Int), .int .u16 (v.pid.seq.toNat : Int), .int .u8 (v.n.toNat : Int)])).run Tryz.prog w = .ok (decide (u = v)) w := fun u v w => equal_vid (d + 1) u v w
  have z1 := Tryz.sizeOf27
  have z2 := Tryz.sizeOf5
  have z3 := Tryz.isAgg27
  have z4 := Tryz.isAgg5
  have z5 := Tryz.sizeOf9
  have z6 := Tryz.isAgg9
  simp [go_sem, i5, i6, z1, z2, z3, z4, z5, z6, hp, u8_int, ba_list]
  obtain ⟨a, b, c, e⟩ := x
  obtain ⟨a', b', c', e'⟩ := y
  by_cases e1 : a = a' <;> by_cases e2 : b = b' <;> by_cases e3 : c = c' <;> by_cases e4 : e = e' <;> simp [e1, e2, e3, e4]
theorem eql_op (x y : OpM) (b : Bool) (h : decide (x = y) = b) (w : World) : (binOp .eql 56 (opV x) (opV y)).run Tryz.prog w = .ok (.bool b) w := by
  unfold opV
  rw [run_eql_struct, show (10000 : Nat) = 9994 + 6 from rfl, equal_op 9994 x y, ← h]; rfl
theorem neq_op (x y : OpM) (b : Bool) (h : (!decide (x = y)) = b) (w : World) : (binOp .neq 56 (opV x) (opV y)).run Tryz.prog w = .ok (.bool b) w := by
  unfold opV
  rw [run_neq_struct, show (10000 : Nat) = 9994 + 6 from rfl, equal_op 9994 x y, ← h]; rfl
theorem guard_op (op : BinOp) (p q : Operand) (xs ys : Array Value) (w : World) : (eqGuard op 56 p q (.agg xs) (.agg ys)).run Tryz.prog w = .ok () w := run_eqGuard_agg w op _ p q xs ys guardOp

set_option maxHeartbeats 4000000 in
theorem equal_vert (d : Nat) (x y : VertM) (w : World) : (Op.equalIn (d + 6) 68 (vertV x) (vertV y)).run Tryz.prog w = .ok (decide (x = y)) w := by
  have hf := Tryz.underlying68
  have hff := fields_of hf
  unfold vertV
  rw [run_equalIn_struct (d := d + 5) w 68 _ _ (by rw [hff]; exact hf) stoodVert, hff]
  have i5 := Tryz.underlying5
  have i6 := Tryz.underlying9
  have i7 := Tryz.underlying4
  have hp : ∀ (u v : VidM) w, (Op.equalIn (d + 5) 27 (.agg #[.int .u8 (u.pid.author.toNat : Int), .int .u16 (u.pid.seq.toNat : Int), .int .u8 (u.n.toNat : Int)]) (.agg #[.int .u8 (v.pid.author.toNat : Int), .int .u16 (v.pid.seq.toNat : Int), .int .u8 (v.n.toNat : Int)])).run Tryz.prog w = .ok (decide (u = v)) w := fun u v w => equal_vid (d + 1) u v w
  have z1 := Tryz.sizeOf27
  have z2 := Tryz.sizeOf5
  have z3 := Tryz.isAgg27
  have z4 := Tryz.isAgg5
  have z5 := Tryz.sizeOf9
  have z6 := Tryz.isAgg9
  have z7 := Tryz.sizeOf4
  have z8 := Tryz.isAgg4
  simp [go_sem, i5, i6, i7, z1, z2, z3, z4, z5, z6, z7, z8, hp, u8_int, ba_list]
  obtain ⟨a, b, c, e, g⟩ := x
  obtain ⟨a', b', c', e', g'⟩ := y
  by_cases e1 : a = a' <;> by_cases e2 : b = b' <;> by_cases e3 : c = c' <;> by_cases e4 : e = e' <;> by_cases e5 : g = g' <;> simp [e1, e2, e3, e4, e5]
theorem eql_vert (x y : VertM) (b : Bool) (h : decide (x = y) = b) (w : World) : (binOp .eql 68 (vertV x) (vertV y)).run Tryz.prog w = .ok (.bool b) w := by
  unfold vertV
  rw [run_eql_struct, show (10000 : Nat) = 9994 + 6 from rfl, equal_vert 9994 x y, ← h]; rfl
theorem neq_vert (x y : VertM) (b : Bool) (h : (!decide (x = y)) = b) (w : World) : (binOp .neq 68 (vertV x) (vertV y)).run Tryz.prog w = .ok (.bool b) w := by
  unfold vertV
  rw [run_neq_struct, show (10000 : Nat) = 9994 + 6 from rfl, equal_vert 9994 x y, ← h]; rfl
theorem guard_vert (op : BinOp) (p q : Operand) (xs ys : Array Value) (w : World) : (eqGuard op 68 p q (.agg xs) (.agg ys)).run Tryz.prog w = .ok () w := run_eqGuard_agg w op _ p q xs ys guardVert
end Go.Proofs.YtfciedmmgddgpaaGreatDoor
