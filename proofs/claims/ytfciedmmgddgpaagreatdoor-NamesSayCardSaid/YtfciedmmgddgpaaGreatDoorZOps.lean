/- Worlds that came by draws and new blocks alone; the library's sort in words of rows. DERIVED: THE SHELF's CONTRACTS AT THIS DUMP, IN PLAIN WORDS (tools/lay-plain.mjs out of 'TryzLayg.lean', which tools/lay-shelf.mjs wrote): THE SAME DECLARATIONS UNDER THE SAME NAMES: 'import', 'namespace', 'open', 'def', 'theorem' AND NOTHING ELSE: no command of the shelf's: FOR A HAND-IN. Each laying: the table of numbers ('.._ren') and one theorem, a field a fact of the dump's own or the kernel's comparison; each contract: ONE APPLICATION. Cmp of names, told by draws and new blocks alone (as the sort asks); the sort of names. Contracts of the references' sign, Cmp; of Makes, Vid, Refs on both sides. -/
import Derived.Test.YtfciedmmgddgpaaGreatDoorZEqs
import Derived.Shelf.SlSortCmp.NoneTotal
import Derived.Shelf.SlGeneric
import Derived.Ground.SlsfProg
import Derived.Test.YtfciedmmgddgpaaGreatDoorProg
import Derived.Test.YtfciedmmgddgpaaGreatDoorZCmp
import Derived.Test.YtfciedmmgddgpaaGreatDoorZGen
namespace Go.Proofs.YtfciedmmgddgpaaGreatDoor
open Go Go.RowKit

/-- draws and new blocks -/
def Grew (w w' : World) : Prop := ∃ q os, w' = Go.Sort.grow (w.drewN q) os
theorem Grew.refl (w : World) : Grew w w := ⟨0, #[], by simp [drewN_zero]⟩
theorem Grew.trans {w w1 w2 : World} (h : Grew w w1) (h' : Grew w1 w2) : Grew w w2 := by
  obtain ⟨q, os, rfl⟩ := h
  obtain ⟨q', os', rfl⟩ := h'
  refine ⟨q + q', os ++ os', ?_⟩
  have : (Go.Sort.grow (w.drewN q) os).drewN q' = Go.Sort.grow (w.drewN (q + q')) os := by
    simp [Go.Sort.grow, World.drewN, Nat.add_assoc]
  rw [this, Go.Sort.grow_grow]
theorem Grew.alloc {w w1 : World} (h : Grew w w1) (o : Obj) : Grew w (w1.alloc o) := h.trans ⟨0, #[o], by rw [drewN_zero, Go.Sort.alloc_eq_grow]⟩
theorem Grew.drew {w w1 : World} (h : Grew w w1) : Grew w w1.drew := h.trans ⟨1, #[], by rw [Go.Sort.grow_empty]; rfl⟩
theorem Grew.drewN {w w1 : World} (h : Grew w w1) (n : Nat) : Grew w (w1.drewN n) := h.trans ⟨n, #[], by rw [Go.Sort.grow_empty]⟩
theorem Grew.below {w w1 : World} (h : Grew w w1) : Below w.heap.size w w1 := by
  obtain ⟨q, os, rfl⟩ := h
  exact ⟨rfl, rfl, rfl, by simp, fun k hk => by rw [Go.Sort.heap_grow_old _ _ (by simpa using hk)]; rfl⟩
def GrewT (w : World) : Type := { w' : World // Grew w w' }
instance (w : World) : Nonempty (GrewT w) := ⟨⟨w, Grew.refl _⟩⟩
def IsGrew (w : World) : World → Prop := fun w' => ∃ x : GrewT w, w' = x.1
theorem isGrew_of {w w' : World} (h : Grew w w') : IsGrew w w' := ⟨⟨w', h⟩, rfl⟩
@[go_sem] theorem isGrew_all {w : World} {p : World → Prop} : (∀ w', IsGrew w w' → p w') ↔ ∀ x : GrewT w, p x.1 := ⟨fun h x => h _ ⟨x, rfl⟩, fun h w' ⟨x, hx⟩ => hx ▸ h x⟩
@[simp, go_sem] theorem grew_cell {w : World} (x : GrewT w) {a : Addr} (h : a.block < w.heap.size) : World.cell? x.1 a = w.cell? a := x.2.below.cell h
@[simp, go_sem] theorem grew_frozen {w : World} (x : GrewT w) {a : Addr} (h : a.block < w.heap.size) : World.frozen? x.1 a = w.frozen? a := x.2.below.frozen h

/-! ### rows as the sort sees them -/
section
variable {α : Type} [Inhabited α] {enc : α → List Value} {k : Nat}
theorem flatK_list (hk : ∀ x, (enc x).length = k) (xs : List α) : (Go.Sort.flatK enc k xs.toArray).toList = xs.flatMap enc := by
  apply List.ext_getElem?
  intro t
  rw [Array.getElem?_toList]
  by_cases ht : t < xs.length * k
  · have k0 : 0 < k := by rcases Nat.eq_zero_or_pos k with h | h; · subst h; simp at ht
                          · exact h
    have hq : t / k < xs.length := (Nat.div_lt_iff_lt_mul k0).2 ht
    have hr : t % k < k := Nat.mod_lt _ k0
    have h1 := flat_get hk xs (t / k) (t % k) xs[t / k] (List.getElem?_eq_getElem hq) hr
    rw [show t / k * k + t % k = t by rw [Nat.mul_comm]; exact Nat.div_add_mod t k] at h1
    rw [h1]
    have h2 := Go.Sort.get_flatK enc k xs.toArray t (by simpa using ht)
    rw [Array.getElem?_eq_getElem (by simpa using ht)]
    rw [getElem!_pos _ t (by simpa using ht)] at h2
    rw [h2]
    have h3 : xs.toArray[t / k]! = xs[t / k] := by rw [getElem!_pos _ _ (by simpa using hq)]; simp
    rw [h3, getElem!_pos _ _ (by rw [hk]; exact hr), List.getElem?_eq_getElem (by rw [hk]; exact hr)]
  · rw [Array.getElem?_eq_none (by simpa using ht), List.getElem?_eq_none (by rw [flat_len hk]; omega)]
theorem flatK_toArray (hk : ∀ x, (enc x).length = k) (d : Array α) : Go.Sort.flatK enc k d = (d.toList.flatMap enc).toArray := by
  rw [← flatK_list hk d.toList]
theorem putCells_row (xs ys junk : List Value) (h : xs.length = ys.length) : Go.Sort.putCells id 0 ys.toArray (xs ++ junk).toArray = (ys ++ junk).toArray := by
  apply Array.ext_getElem?
  intro t
  unfold Go.Sort.putCells
  rw [Array.getElem?_mapIdx]
  by_cases h1 : t < ys.length
  · rw [List.getElem?_toArray, List.getElem?_append_left (by omega), List.getElem?_toArray, List.getElem?_append_left h1, List.getElem?_eq_getElem (by omega), List.getElem?_eq_getElem h1]
    simp [h1]
  · rw [List.getElem?_toArray, List.getElem?_append_right (by omega), List.getElem?_toArray, List.getElem?_append_right (by omega), h]
    simp [h1]
theorem OwnAt.holdsK (hk : ∀ x, (enc x).length = k) {w : World} {B g cap : Nat} {e : TypeId} {xs : List α} (h : OwnAt w B e k g xs.length cap (xs.flatMap enc)) : Go.Sort.HoldsK enc k w g 0 xs.toArray := by
  intro j hj
  rw [Nat.zero_add]
  refine ⟨?_, h.free j⟩
  rw [flatK_toArray hk] at hj ⊢
  refine h.cell ?_
  have hj' : j < (xs.flatMap enc).length := by simpa using hj
  rw [List.getElem?_eq_getElem hj']
  congr 1
  have := getElem!_pos (List.flatMap enc xs.toArray.toList).toArray j hj
  rw [id, this]; simp
theorem OwnAt.sorted (hk : ∀ x, (enc x).length = k) {w : World} {B g cap : Nat} {e : TypeId} {xs : List α} (h : OwnAt w B e k g xs.length cap (xs.flatMap enc)) (n : Nat) (d' : Array α) (hd : d'.size = xs.length) (os : Array Obj) :
    OwnAt (Go.Proofs.sortWorldK enc k w g 0 n d' os) B e k g xs.length cap (d'.toList.flatMap enc) ∧ w.grownBy (Go.Proofs.sortWorldK enc k w g 0 n d' os) (some g) := by
  have hlt := h.lt
  obtain ⟨junk, h1, h2⟩ := h.at'
  have hl : (xs.flatMap enc).length = (d'.toList.flatMap enc).length := by rw [flat_len hk, flat_len hk]; simp [hd]
  have hheap : (Go.Sort.putRowK enc k (Go.Sort.ahead w n) g 0 d').heap[g]? = some (.cells (d'.toList.flatMap enc ++ junk).toArray e (0, 0)) := by
    unfold Go.Sort.putRowK Go.Sort.putRow Go.Sort.mapBlock
    rw [flatK_toArray hk]
    simp only [Array.getElem?_modify, if_pos]
    have : (Go.Sort.ahead w n).heap = w.heap := rfl
    rw [this, h1]
    simp only [Option.map_some, Go.Sort.onCells]
    rw [putCells_row _ _ _ hl]
  refine ⟨⟨⟨junk, ?_, ?_⟩, by rw [← hl]; exact h.len, h.base, h.nc, h.cm⟩, ?_⟩
  · unfold Go.Proofs.sortWorldK
    rw [Go.Sort.heap_grow_old _ _ (by simp [Go.Sort.putRowK, Go.Sort.putRow, Go.Sort.mapBlock]; exact hlt)]
    exact hheap
  · rw [List.length_append, ← hl, ← List.length_append]; exact h2
  · refine ⟨rfl, rfl, rfl, by simp [Go.Proofs.sortWorldK, Go.Sort.putRowK, Go.Sort.putRow, Go.Sort.mapBlock, Go.Sort.ahead], fun i hi hne => ?_⟩
    unfold Go.Proofs.sortWorldK
    rw [Go.Sort.heap_grow_old _ _ (by simp [Go.Sort.putRowK, Go.Sort.putRow, Go.Sort.mapBlock]; exact hi)]
    unfold Go.Sort.putRowK Go.Sort.putRow Go.Sort.mapBlock
    simp only [Array.getElem?_modify]
    rw [if_neg (fun e => hne (by rw [e]))]
    rfl

def SortRes (cf : α → α → Int) (enc : α → List Value) (k : Nat) (e : TypeId) (w : World) (B g cap : Nat) (xs : List α) (r : Ending) (w' : World) : Prop :=
  r = .returned (.tuple #[]) ∧ ∃ ys : List α, ys.Perm xs ∧ (ys.Pairwise fun a b => ¬ cf b a < 0) ∧ OwnAt w' B e k g xs.length cap (ys.flatMap enc) ∧ w.grownBy w' (some g)
/-- slices.SortFunc at structs -/
theorem sortF_any {P : Program} {ρ : Go.Shelf.Ren} (L : Go.Proofs.SlLaysF0.n6 P ρ) (aE : ∀ w, (isAgg (ρ.t 24)).run P w = .ok true w) (zE : ∀ w, (Go.sizeOf (ρ.t 24)).run P w = .ok k w) (hk : ∀ x, (enc x).length = k) (h1 : ∀ x, ∀ v ∈ enc x, v.oneCell' = true)
    (cf : α → α → Int) (hO : Go.Sort.SWO (Go.Proofs.ltOf cf)) (fn : Nat) (eg : ∀ args w, (callFunc fn args).run P w = .ok (.enter fn args) w)
    (hcmp : ∀ x y W, Calls P fn #[.agg (enc x).toArray, .agg (enc y).toArray] W fun e w' => e = .returned (.int .i64 (cf x y)) ∧ Grew W w')
    {w : World} {B g cap : Nat} {e : TypeId} {xs : List α} (h : OwnAt w B e k g xs.length cap (xs.flatMap enc)) (hn : xs.length < 4611686018427387904) :
    Calls P (ρ.f 6) #[.slice (some ⟨g, 0, none⟩) xs.length cap, .func (.func fn) #[] #[]] w (SortRes cf enc k e w B g cap xs) := by
  have hc := AnyQ.slices_SortFunc L k aE zE enc hk h1 cf hO fn #[] g 0 cap xs.toArray w eg (fun m os dk _ x y => (hcmp x y _).mono fun _ _ ⟨he, q, os', hw⟩ => ⟨he, q, os', hw⟩) (h.holdsK hk) h.lt (by simpa using hn)
  rw [List.size_toArray] at hc
  refine hc.mono fun r w' ⟨he, d', n, os, hp, hs, hw⟩ => ⟨he, d'.toList, ?_, ?_, ?_⟩
  · obtain ⟨p1, _, p3⟩ := hp
    have hsz : d'.size = xs.length := by simpa using p1
    have e1 : (xs.toArray.extract 0 xs.toArray.size).toList = xs := by simp
    have e2 : (d'.extract 0 xs.toArray.size).toList = d'.toList := by simp [← hsz]
    simp only [List.size_toArray] at p3 e1 e2
    rw [e1, e2] at p3
    exact p3
  · rw [List.pairwise_iff_getElem]
    intro i j hi hj hij
    have hsz : d'.size = xs.length := by simpa using hp.1
    have := hs i j (Nat.zero_le _) hij (by simp at hj; omega)
    unfold Go.Proofs.ltOf at this
    rw [getElem!_pos d' j (by simpa using hj), getElem!_pos d' i (by simpa using hi)] at this
    simpa using this
  · obtain ⟨a, b⟩ := h.sorted hk n d' (by simpa using hp.1) os
    rw [hw]; exact ⟨a, b⟩
/-- .. of nothing -/
theorem sortF_none {P : Program} {ρ : Go.Shelf.Ren} (L : Go.Proofs.SlLaysF0.n6 P ρ) (p : Option Addr) (cap : Nat) (fv : Value) (w : World) : Calls P (ρ.f 6) #[.slice p 0 cap, fv] w fun e w' => e = .returned (.tuple #[]) ∧ w' = w :=
  AnyF.slices_SortFunc_none L p cap fv w
/-- a comparison of numbers is a strict weak order -/
theorem swo_key {α : Type} (key : α → Nat) (cf : α → α → Int) (h : ∀ x y, (cf x y < 0) = (key x < key y)) : Go.Sort.SWO (Go.Proofs.ltOf cf) where
  irrefl x := by unfold Go.Proofs.ltOf; simp [h]
  trans x y z h1 h2 := by unfold Go.Proofs.ltOf at *; simp [h] at *; omega
  ntrans x y z h1 h2 := by unfold Go.Proofs.ltOf at *; simp [h] at *; omega
end
end Go.Proofs.YtfciedmmgddgpaaGreatDoor
namespace Go.Proofs
open Go.Shelf
def Tryz.sortPid_ren : Go.Shelf.Ren := ⟨fun | 6 => 102 | 15 => 52 | 14 => 136 | 28 => 94 | 29 => 95 | 20 => 156 | 21 => 157 | 22 => 158 | 23 => 159 | 24 => 160 | 25 => 161 | 26 => 162 | 27 => 163 | 46 => 173 | 47 => 122 | 48 => 123 | 49 => 174 | 50 => 175 | 57 => 180 | n => n, fun | 22 => 48 | 24 => 25 | 25 => 108 | 3 => 3 | 39 => 106 | 0 => 0 | 53 => 138 | 55 => 140 | 4 => 4 | 46 => 131 | 45 => 130 | 50 => 135 | 5 => 5 | 9 => 9 | 66 => 158 | 70 => 162 | 76 => 178 | 77 => 179 | n => n, fun | n => n⟩
theorem Tryz.sortPid : Go.Proofs.SlLaysF0.n6 Tryz.prog Tryz.sortPid_ren := {
  mixed := by kernel_rfl
  f6 := ⟨Tryz.f102.name, by decide, Tryz.func102.trans (congrArg some (by kernel_rfl))⟩
  f14 := ⟨Tryz.f136.name, by decide, Tryz.func136.trans (congrArg some (by kernel_rfl))⟩
  f15 := Tryz.func52.trans (congrArg some (by kernel_rfl))
  f20 := ⟨Tryz.f156.name, by decide, Tryz.func156.trans (congrArg some (by kernel_rfl))⟩
  f21 := ⟨Tryz.f157.name, by decide, Tryz.func157.trans (congrArg some (by kernel_rfl))⟩
  f22 := ⟨Tryz.f158.name, by decide, Tryz.func158.trans (congrArg some (by kernel_rfl))⟩
  f23 := ⟨Tryz.f159.name, by decide, Tryz.func159.trans (congrArg some (by kernel_rfl))⟩
  f24 := ⟨Tryz.f160.name, by decide, Tryz.func160.trans (congrArg some (by kernel_rfl))⟩
  f25 := ⟨Tryz.f161.name, by decide, Tryz.func161.trans (congrArg some (by kernel_rfl))⟩
  f26 := ⟨Tryz.f162.name, by decide, Tryz.func162.trans (congrArg some (by kernel_rfl))⟩
  f27 := ⟨Tryz.f163.name, by decide, Tryz.func163.trans (congrArg some (by kernel_rfl))⟩
  f28 := Tryz.func94.trans (congrArg some (by kernel_rfl))
  f29 := Tryz.func95.trans (congrArg some (by kernel_rfl))
  f46 := ⟨Tryz.f173.name, by decide, Tryz.func173.trans (congrArg some (by kernel_rfl))⟩
  f47 := Tryz.func122.trans (congrArg some (by kernel_rfl))
  f48 := Tryz.func123.trans (congrArg some (by kernel_rfl))
  f49 := ⟨Tryz.f174.name, by decide, Tryz.func174.trans (congrArg some (by kernel_rfl))⟩
  f50 := ⟨Tryz.f175.name, by decide, Tryz.func175.trans (congrArg some (by kernel_rfl))⟩
  f57 := ⟨Tryz.f180.name, by decide, Tryz.func180.trans (congrArg some (by kernel_rfl))⟩
  t0 := Tryz.underlying0
  a0 := Tryz.isAgg0
  z0 := Tryz.sizeOf0
  v0 := Tryz.zeroValue0
  t3 := Tryz.underlying3
  a3 := Tryz.isAgg3
  z3 := Tryz.sizeOf3
  v3 := Tryz.zeroValue3
  t4 := Tryz.underlying4
  a4 := Tryz.isAgg4
  z4 := Tryz.sizeOf4
  v4 := Tryz.zeroValue4
  t5 := Tryz.underlying5
  a5 := Tryz.isAgg5
  z5 := Tryz.sizeOf5
  v5 := Tryz.zeroValue5
  t9 := Tryz.underlying9
  a9 := Tryz.isAgg9
  z9 := Tryz.sizeOf9
  v9 := Tryz.zeroValue9
  t22 := Tryz.underlying48
  a22 := Tryz.isAgg48
  z22 := Tryz.sizeOf48
  v22 := Tryz.zeroValue48
  t25 := Tryz.underlying108
  a25 := Tryz.isAgg108
  z25 := Tryz.sizeOf108
  v25 := Tryz.zeroValue108
  t39 := Tryz.underlying106
  a39 := Tryz.isAgg106
  z39 := Tryz.sizeOf106
  v39 := Tryz.zeroValue106
  t45 := Tryz.underlying130
  a45 := Tryz.isAgg130
  z45 := Tryz.sizeOf130
  v45 := Tryz.zeroValue130
  t46 := Tryz.underlying131
  a46 := Tryz.isAgg131
  z46 := Tryz.sizeOf131
  v46 := Tryz.zeroValue131
  t50 := Tryz.underlying135
  a50 := Tryz.isAgg135
  z50 := Tryz.sizeOf135
  v50 := Tryz.zeroValue135
  t53 := Tryz.underlying138
  a53 := Tryz.isAgg138
  z53 := Tryz.sizeOf138
  v53 := Tryz.zeroValue138
  t55 := Tryz.underlying140
  a55 := Tryz.isAgg140
  z55 := Tryz.sizeOf140
  v55 := Tryz.zeroValue140
  t66 := Tryz.underlying158
  a66 := Tryz.isAgg158
  z66 := Tryz.sizeOf158
  v66 := Tryz.zeroValue158
  t70 := Tryz.underlying162
  a70 := Tryz.isAgg162
  z70 := Tryz.sizeOf162
  v70 := Tryz.zeroValue162
  t76 := Tryz.underlying178
  a76 := Tryz.isAgg178
  z76 := Tryz.sizeOf178
  v76 := Tryz.zeroValue178
  t77 := Tryz.underlying179
  a77 := Tryz.isAgg179
  z77 := Tryz.sizeOf179
  v77 := Tryz.zeroValue179 }
def Tryz.sortVert_ren : Go.Shelf.Ren := ⟨fun | 6 => 25 | 15 => 52 | 14 => 51 | 28 => 94 | 29 => 95 | 20 => 86 | 21 => 87 | 22 => 88 | 23 => 89 | 24 => 90 | 25 => 91 | 26 => 92 | 27 => 93 | 46 => 121 | 47 => 122 | 48 => 123 | 49 => 124 | 50 => 125 | 57 => 147 | n => n, fun | 22 => 38 | 24 => 68 | 25 => 74 | 3 => 3 | 39 => 106 | 0 => 0 | 53 => 138 | 55 => 140 | 4 => 4 | 46 => 131 | 45 => 130 | 50 => 135 | 5 => 5 | 9 => 9 | 66 => 158 | 70 => 162 | 76 => 178 | 77 => 179 | n => n, fun | n => n⟩
theorem Tryz.sortVert : Go.Proofs.SlLaysF0.n6 Tryz.prog Tryz.sortVert_ren := {
  mixed := by kernel_rfl
  f6 := ⟨Tryz.f25.name, by decide, Tryz.func25.trans (congrArg some (by kernel_rfl))⟩
  f14 := ⟨Tryz.f51.name, by decide, Tryz.func51.trans (congrArg some (by kernel_rfl))⟩
  f15 := Tryz.func52.trans (congrArg some (by kernel_rfl))
  f20 := ⟨Tryz.f86.name, by decide, Tryz.func86.trans (congrArg some (by kernel_rfl))⟩
  f21 := ⟨Tryz.f87.name, by decide, Tryz.func87.trans (congrArg some (by kernel_rfl))⟩
  f22 := ⟨Tryz.f88.name, by decide, Tryz.func88.trans (congrArg some (by kernel_rfl))⟩
  f23 := ⟨Tryz.f89.name, by decide, Tryz.func89.trans (congrArg some (by kernel_rfl))⟩
  f24 := ⟨Tryz.f90.name, by decide, Tryz.func90.trans (congrArg some (by kernel_rfl))⟩
  f25 := ⟨Tryz.f91.name, by decide, Tryz.func91.trans (congrArg some (by kernel_rfl))⟩
  f26 := ⟨Tryz.f92.name, by decide, Tryz.func92.trans (congrArg some (by kernel_rfl))⟩
  f27 := ⟨Tryz.f93.name, by decide, Tryz.func93.trans (congrArg some (by kernel_rfl))⟩
  f28 := Tryz.func94.trans (congrArg some (by kernel_rfl))
  f29 := Tryz.func95.trans (congrArg some (by kernel_rfl))
  f46 := ⟨Tryz.f121.name, by decide, Tryz.func121.trans (congrArg some (by kernel_rfl))⟩
  f47 := Tryz.func122.trans (congrArg some (by kernel_rfl))
  f48 := Tryz.func123.trans (congrArg some (by kernel_rfl))
  f49 := ⟨Tryz.f124.name, by decide, Tryz.func124.trans (congrArg some (by kernel_rfl))⟩
  f50 := ⟨Tryz.f125.name, by decide, Tryz.func125.trans (congrArg some (by kernel_rfl))⟩
  f57 := ⟨Tryz.f147.name, by decide, Tryz.func147.trans (congrArg some (by kernel_rfl))⟩
  t0 := Tryz.underlying0
  a0 := Tryz.isAgg0
  z0 := Tryz.sizeOf0
  v0 := Tryz.zeroValue0
  t3 := Tryz.underlying3
  a3 := Tryz.isAgg3
  z3 := Tryz.sizeOf3
  v3 := Tryz.zeroValue3
  t4 := Tryz.underlying4
  a4 := Tryz.isAgg4
  z4 := Tryz.sizeOf4
  v4 := Tryz.zeroValue4
  t5 := Tryz.underlying5
  a5 := Tryz.isAgg5
  z5 := Tryz.sizeOf5
  v5 := Tryz.zeroValue5
  t9 := Tryz.underlying9
  a9 := Tryz.isAgg9
  z9 := Tryz.sizeOf9
  v9 := Tryz.zeroValue9
  t22 := Tryz.underlying38
  a22 := Tryz.isAgg38
  z22 := Tryz.sizeOf38
  v22 := Tryz.zeroValue38
  t25 := Tryz.underlying74
  a25 := Tryz.isAgg74
  z25 := Tryz.sizeOf74
  v25 := Tryz.zeroValue74
  t39 := Tryz.underlying106
  a39 := Tryz.isAgg106
  z39 := Tryz.sizeOf106
  v39 := Tryz.zeroValue106
  t45 := Tryz.underlying130
  a45 := Tryz.isAgg130
  z45 := Tryz.sizeOf130
  v45 := Tryz.zeroValue130
  t46 := Tryz.underlying131
  a46 := Tryz.isAgg131
  z46 := Tryz.sizeOf131
  v46 := Tryz.zeroValue131
  t50 := Tryz.underlying135
  a50 := Tryz.isAgg135
  z50 := Tryz.sizeOf135
  v50 := Tryz.zeroValue135
  t53 := Tryz.underlying138
  a53 := Tryz.isAgg138
  z53 := Tryz.sizeOf138
  v53 := Tryz.zeroValue138
  t55 := Tryz.underlying140
  a55 := Tryz.isAgg140
  z55 := Tryz.sizeOf140
  v55 := Tryz.zeroValue140
  t66 := Tryz.underlying158
  a66 := Tryz.isAgg158
  z66 := Tryz.sizeOf158
  v66 := Tryz.zeroValue158
  t70 := Tryz.underlying162
  a70 := Tryz.isAgg162
  z70 := Tryz.sizeOf162
  v70 := Tryz.zeroValue162
  t76 := Tryz.underlying178
  a76 := Tryz.isAgg178
  z76 := Tryz.sizeOf178
  v76 := Tryz.zeroValue178
  t77 := Tryz.underlying179
  a77 := Tryz.isAgg179
  z77 := Tryz.sizeOf179
  v77 := Tryz.zeroValue179 }
end Go.Proofs
namespace Go.Proofs.YtfciedmmgddgpaaGreatDoor
open Go Go.RowKit

set_option maxHeartbeats 1000000 in
set_option maxRecDepth 100000 in
theorem ppackG (p : PidM) (w : World) : Calls Tryz.prog 137 #[pidV p] w fun e w' => e = .returned (.int .u32 (packPid p : Int)) ∧ Grew w w' := by
  have h1 := p.author.toNat_lt
  have h2 := p.seq.toNat_lt
  have HO := Lib.hid (or_pid (show p.author.toNat < 256 by omega) (show p.seq.toNat < 65536 by omega))
  unfold pidV
  go_enter Tryz.func137, Tryz.ntmps137
  go_wp2_with fail
  go_ret
  exact ⟨ret_int HO.out, (Grew.refl _).alloc _⟩

set_option maxHeartbeats 1000000 in
set_option maxRecDepth 100000 in
theorem vpackG (v : VidM) (w : World) : Calls Tryz.prog 120 #[vidV v] w fun e w' => e = .returned (.int .u32 (packVid v : Int)) ∧ Grew w w' := by
  have h1 := packPid_lt v.pid
  have h2 := v.n.toNat_lt
  have HO := Lib.hid (or_vid h1 (show v.n.toNat < 256 by omega))
  have HB := Lib.hid ((Grew.refl w).alloc (.cells #[.int .u8 (v.pid.author.toNat : Int), .int .u16 (v.pid.seq.toNat : Int), .int .u8 (v.n.toNat : Int)] 27))
  have HA := Lib.hid (arrT_new w [.int .u8 (v.pid.author.toNat : Int), .int .u16 (v.pid.seq.toNat : Int), .int .u8 (v.n.toNat : Int)] 27)
  unfold vidV
  go_enter Tryz.func120, Tryz.ntmps120
  go_wp2_with fail
  generalize hw0 : w.alloc (.cells #[.int .u8 (v.pid.author.toNat : Int), .int .u16 (v.pid.seq.toNat : Int), .int .u8 (v.n.toNat : Int)] 27) = w0 at *
  have c0 := HA.out.arr.cell (j := 0) rfl
  have c1 := HA.out.arr.cell (j := 1) rfl
  have c2 := HA.out.arr.cell (j := 2) rfl
  have sA := HA.out.arr.lt
  clear hw0
  have hcur : Grew w0 w0.drew := (Grew.refl _).drew
  refine wp_region_lex (C := IsGrew w0) 9 [] (by kernel_rfl) (by kernel_rfl) (isGrew_of hcur) ?_
  simp only [List.take_succ_cons, List.take_zero, List.drop_succ_cons, List.drop_zero]
  repeat (first | (refine lex_skip rfl rfl ?_; simp only [Act.put, List.setIfInBounds_toArray, List.set_cons_succ, List.set_cons_zero]) | (refine lex_one rfl ?_; go_big_quiet_step (fail); refine wpQuiet_nil ?_) | (refine lex_loud rfl ?_; go_wp2_with (first | (go_at_call 137; (with_reducible refine (ppackG v.pid _).mono ?_); rintro e w' ⟨rfl, hb⟩; replace hcur := hcur.trans hb; clear hb)); refine ⟨isGrew_of (by first | exact hcur | exact hcur.alloc _), ?_⟩))
  refine lex_end ?_
  go_wp2_with fail
  go_ret
  exact ⟨ret_int HO.out, HB.out.trans hcur⟩

attribute [local irreducible] packPid packVid cmpN
set_option maxHeartbeats 1000000 in
set_option maxRecDepth 100000 in
theorem pcmpG (a b : PidM) (w : World) : Calls Tryz.prog 103 #[pidV a, pidV b] w fun e w' => e = .returned (.int .i64 (cmpPid a b)) ∧ Grew w w' := by
  have HA := Lib.hid ((arr_new w #[.int .u8 (a.author.toNat : Int), .int .u16 (a.seq.toNat : Int)] 25).alloc (.cells #[.int .u8 (b.author.toNat : Int), .int .u16 (b.seq.toNat : Int)] 25))
  have HC := Lib.hid (arr_new2 w (.cells #[.int .u8 (a.author.toNat : Int), .int .u16 (a.seq.toNat : Int)] 25) #[.int .u8 (b.author.toNat : Int), .int .u16 (b.seq.toNat : Int)] 25)
  have HB := Lib.hid (((Grew.refl w).alloc (.cells #[.int .u8 (a.author.toNat : Int), .int .u16 (a.seq.toNat : Int)] 25)).alloc (.cells #[.int .u8 (b.author.toNat : Int), .int .u16 (b.seq.toNat : Int)] 25))
  unfold pidV
  go_enter Tryz.func103, Tryz.ntmps103
  go_wp2_with fail
  generalize hw0 : (w.alloc (.cells #[.int .u8 (a.author.toNat : Int), .int .u16 (a.seq.toNat : Int)] 25)).alloc (.cells #[.int .u8 (b.author.toNat : Int), .int .u16 (b.seq.toNat : Int)] 25) = w0 at *
  have c0 := HA.out.cell (j := 0) rfl
  have c1 := HA.out.cell (j := 1) rfl
  have sA := HA.out.lt
  have d0 := HC.out.cell (j := 0) rfl
  have d1 := HC.out.cell (j := 1) rfl
  have sC := HC.out.lt
  clear hw0
  have hcur : Grew w0 w0.drew := (Grew.refl _).drew
  refine wp_region_lex (C := IsGrew w0) 6 [] (by kernel_rfl) (by kernel_rfl) (isGrew_of hcur) ?_
  simp only [List.take_succ_cons, List.take_zero, List.drop_succ_cons, List.drop_zero]
  repeat (first | (refine lex_skip rfl rfl ?_; simp only [Act.put, List.setIfInBounds_toArray, List.set_cons_succ, List.set_cons_zero]) | (refine lex_one rfl ?_; go_big_quiet_step (fail); refine wpQuiet_nil ?_) | (refine lex_loud rfl ?_; go_wp2_with (first | (go_at_call 137; (with_reducible refine (ppackG _ _).mono ?_); rintro e w' ⟨rfl, hb⟩; replace hcur := hcur.trans hb; clear hb) | (go_at_call 119; (with_reducible refine (compare_any _ _ _).mono ?_); rintro e w' ⟨rfl, rfl⟩)); refine ⟨isGrew_of (by first | exact hcur | exact hcur.alloc _), ?_⟩))
  refine lex_end ?_
  go_wp2_with fail
  go_ret
  exact ⟨rfl, HB.out.trans hcur⟩

set_option maxHeartbeats 1000000 in
set_option maxRecDepth 100000 in
theorem vcmpG (a b : VidM) (w : World) : Calls Tryz.prog 85 #[vidV a, vidV b] w fun e w' => e = .returned (.int .i64 (cmpVid a b)) ∧ Grew w w' := by
  have HA := Lib.hid ((arr_new w #[.int .u8 (a.pid.author.toNat : Int), .int .u16 (a.pid.seq.toNat : Int), .int .u8 (a.n.toNat : Int)] 27).alloc (.cells #[.int .u8 (b.pid.author.toNat : Int), .int .u16 (b.pid.seq.toNat : Int), .int .u8 (b.n.toNat : Int)] 27))
  have HC := Lib.hid (arr_new2 w (.cells #[.int .u8 (a.pid.author.toNat : Int), .int .u16 (a.pid.seq.toNat : Int), .int .u8 (a.n.toNat : Int)] 27) #[.int .u8 (b.pid.author.toNat : Int), .int .u16 (b.pid.seq.toNat : Int), .int .u8 (b.n.toNat : Int)] 27)
  have HB := Lib.hid (((Grew.refl w).alloc (.cells #[.int .u8 (a.pid.author.toNat : Int), .int .u16 (a.pid.seq.toNat : Int), .int .u8 (a.n.toNat : Int)] 27)).alloc (.cells #[.int .u8 (b.pid.author.toNat : Int), .int .u16 (b.pid.seq.toNat : Int), .int .u8 (b.n.toNat : Int)] 27))
  unfold vidV
  go_enter Tryz.func85, Tryz.ntmps85
  go_wp2_with fail
  generalize hw0 : (w.alloc (.cells #[.int .u8 (a.pid.author.toNat : Int), .int .u16 (a.pid.seq.toNat : Int), .int .u8 (a.n.toNat : Int)] 27)).alloc (.cells #[.int .u8 (b.pid.author.toNat : Int), .int .u16 (b.pid.seq.toNat : Int), .int .u8 (b.n.toNat : Int)] 27) = w0 at *
  have c0 := HA.out.cell (j := 0) rfl
  have c1 := HA.out.cell (j := 1) rfl
  have c2 := HA.out.cell (j := 2) rfl
  have sA := HA.out.lt
  have d0 := HC.out.cell (j := 0) rfl
  have d1 := HC.out.cell (j := 1) rfl
  have d2 := HC.out.cell (j := 2) rfl
  have sC := HC.out.lt
  clear hw0
  have hcur : Grew w0 w0.drew := (Grew.refl _).drew
  refine wp_region_lex (C := IsGrew w0) 6 [] (by kernel_rfl) (by kernel_rfl) (isGrew_of hcur) ?_
  simp only [List.take_succ_cons, List.take_zero, List.drop_succ_cons, List.drop_zero]
  repeat (first | (refine lex_skip rfl rfl ?_; simp only [Act.put, List.setIfInBounds_toArray, List.set_cons_succ, List.set_cons_zero]) | (refine lex_one rfl ?_; go_big_quiet_step (fail); refine wpQuiet_nil ?_) | (refine lex_loud rfl ?_; go_wp2_with (first | (go_at_call 120; (with_reducible refine (vpackG _ _).mono ?_); rintro e w' ⟨rfl, hb⟩; replace hcur := hcur.trans hb; clear hb) | (go_at_call 119; (with_reducible refine (compare_any _ _ _).mono ?_); rintro e w' ⟨rfl, rfl⟩)); refine ⟨isGrew_of (by first | exact hcur | exact hcur.alloc _), ?_⟩))
  refine lex_end ?_
  go_wp2_with fail
  go_ret
  exact ⟨rfl, HB.out.trans hcur⟩

instance : Inhabited VertM := ⟨noVert⟩
theorem cmpN_neg (a b : Nat) : (cmpN a b < 0) = (a < b) := by
  by_cases h : a < b
  · rw [cmpN_lt h]; simp [h]
  · by_cases h2 : b < a
    · rw [cmpN_gt h2]; simp [h]
    · rw [cmpN_eq (show a = b by omega)]; simp [h]
theorem onePid : ∀ x : PidM, ∀ v ∈ encPid x, v.oneCell' = true := fun x v hv => by simp [encPid] at hv; rcases hv with rfl | rfl <;> rfl
theorem oneVid : ∀ x : VidM, ∀ v ∈ encVid x, v.oneCell' = true := fun x v hv => by simp [encVid] at hv; rcases hv with rfl | rfl | rfl <;> rfl
theorem sortPid_any {w : World} {B g cap : Nat} {xs : List PidM} (h : OwnAt w B 25 2 g xs.length cap (xs.flatMap encPid)) (hn : xs.length ≤ 1000000000) :
    Calls Tryz.prog 102 #[.slice (some ⟨g, 0, none⟩) xs.length cap, .func (.func 103) #[] #[]] w (SortRes cmpPid encPid 2 25 w B g cap xs) := by
  have hcon := sortF_any (P := Tryz.prog) Tryz.sortPid (k := 2) (enc := encPid) Tryz.isAgg25 Tryz.sizeOf25 (fun _ => rfl) onePid cmpPid (swo_key packPid _ fun x y => cmpN_neg _ _) 103 (enters_of Tryz.func103 (by kernel_rfl) rfl) (fun x y W => pcmpG x y W) h (by omega)
  exact hcon
theorem sortPid_none (p : Option Addr) (cap : Nat) (fv : Value) (w : World) :
    Calls Tryz.prog 102 #[.slice p 0 cap, fv] w fun e w' => e = .returned (.tuple #[]) ∧ w' = w := sortF_none Tryz.sortPid p cap fv w
end Go.Proofs.YtfciedmmgddgpaaGreatDoor
namespace Go.Proofs.YtfciedmmgddgpaaGreatDoor
open Go Go.RowKit

theorem cmpPid_author {a b : PidM} (h : ¬ a.author = b.author) : cmpPid a b = cmpN a.author.toNat b.author.toNat := by
  have h1 := a.seq.toNat_lt
  have h2 := b.seq.toNat_lt
  have h3 : a.author.toNat ≠ b.author.toNat := fun e => h (UInt8.toNat_inj.1 e)
  unfold cmpPid cmpN packPid
  by_cases hl : a.author.toNat < b.author.toNat
  · rw [if_pos (by omega), if_pos hl]
  · rw [if_neg (by omega), if_pos (by omega), if_neg hl, if_pos (by omega)]
theorem cmpPid_seq {a b : PidM} (h : a.author = b.author) : cmpPid a b = cmpN a.seq.toNat b.seq.toNat := by
  unfold cmpPid cmpN packPid
  rw [h]
  by_cases hl : a.seq.toNat < b.seq.toNat
  · rw [if_pos (by omega), if_pos hl]
  · rw [if_neg (by omega), if_neg hl]
    by_cases hg : b.seq.toNat < a.seq.toNat
    · rw [if_pos (by omega), if_pos hg]
    · rw [if_neg (by omega), if_neg hg]
theorem cmpVid_pid {a b : VidM} (h : ¬ a.pid = b.pid) : cmpVid a b = cmpPid a.pid b.pid := by
  have h1 := a.n.toNat_lt
  have h2 := b.n.toNat_lt
  have h3 : packPid a.pid ≠ packPid b.pid := fun e => h (packPid_inj e)
  unfold cmpVid cmpPid cmpN packVid
  by_cases hl : packPid a.pid < packPid b.pid
  · rw [if_pos (by omega), if_pos hl]
  · rw [if_neg (by omega), if_pos (by omega), if_neg hl, if_pos (by omega)]
theorem cmpVid_n {a b : VidM} (h : a.pid = b.pid) : cmpVid a b = cmpN a.n.toNat b.n.toNat := by
  unfold cmpVid cmpN packVid
  rw [h]
  by_cases hl : a.n.toNat < b.n.toNat
  · rw [if_pos (by omega), if_pos hl]
  · rw [if_neg (by omega), if_neg hl]
    by_cases hg : b.n.toNat < a.n.toNat
    · rw [if_pos (by omega), if_pos hg]
    · rw [if_neg (by omega), if_neg hg]
attribute [local irreducible] packPid packVid cmpN cmpPid cmpVid

set_option maxHeartbeats 1000000 in
set_option maxRecDepth 100000 in
theorem sign_any (a b : Nat) (w : World) : Calls Tryz.prog 97 #[.int .i64 (a : Int), .int .i64 (b : Int)] w fun e w' => e = .returned (.int .i64 (cmpN a b)) ∧ w' = w := by
  by_cases h1 : a < b
  · have HC := Lib.hid (cmpN_lt h1)
    have d1 : decide (a < b) = true := by simpa using h1
    go_enter Tryz.func97, Tryz.ntmps97
    go_wp2_with fail
    go_ret
    exact ⟨ret_int HC.out.symm, rfl⟩
  · have d1 : decide (a < b) = false := by simpa using h1
    by_cases h2 : b < a
    · have HC := Lib.hid (cmpN_gt h2)
      have d2 : decide (b < a) = true := by simpa using h2
      go_enter Tryz.func97, Tryz.ntmps97
      go_wp2_with fail
      go_ret
      exact ⟨ret_int HC.out.symm, rfl⟩
    · have d2 : decide (b < a) = false := by simpa using h2
      have HC := Lib.hid (cmpN_eq (show a = b by omega))
      go_enter Tryz.func97, Tryz.ntmps97
      go_wp2_with fail
      go_ret
      exact ⟨ret_int HC.out.symm, rfl⟩

set_option maxHeartbeats 1000000 in
set_option maxRecDepth 100000 in
theorem rcmpPid_any (a b : PidM) (w : World) : Calls Tryz.prog 98 #[pidV a, pidV b] w fun e w' => e = .returned (.int .i64 (cmpPid a b)) ∧ Below w.heap.size w w' := by
  have HB := Lib.hid ((below_new (w := w) (.cells #[.int .u8 (a.author.toNat : Int), .int .u16 (a.seq.toNat : Int)] 25)).alloc (by simp) (.cells #[.int .u8 (b.author.toNat : Int), .int .u16 (b.seq.toNat : Int)] 25))
  have l1 := a.author.toNat_lt
  have l2 := a.seq.toNat_lt
  have l3 := b.author.toNat_lt
  have l4 := b.seq.toNat_lt
  unfold pidV
  by_cases h : a.author = b.author
  · have HC := Lib.hid (cmpPid_seq h)
    have e1 : ((a.author.toNat : Int) != (b.author.toNat : Int)) = false := by rw [h]; simp
    clear h
    go_enter Tryz.func98, Tryz.ntmps98
    go_wp2_with fail
    refine (sign_any a.seq.toNat b.seq.toNat _).mono ?_
    rintro e w1 ⟨rfl, rfl⟩
    go_wp2_with fail
    go_ret
    exact ⟨ret_int HC.out.symm, HB.out⟩
  · have HC := Lib.hid (cmpPid_author h)
    have e1 : ((a.author.toNat : Int) != (b.author.toNat : Int)) = true := by
      simp only [bne_iff_ne, ne_eq, u8_int]; exact h
    clear h
    go_enter Tryz.func98, Tryz.ntmps98
    go_wp2_with fail
    refine (sign_any a.author.toNat b.author.toNat _).mono ?_
    rintro e w1 ⟨rfl, rfl⟩
    go_wp2_with fail
    go_ret
    exact ⟨ret_int HC.out.symm, HB.out⟩

set_option maxHeartbeats 2000000 in
set_option maxRecDepth 100000 in
theorem rcmpVid_any (a b : VidM) (w : World) : Calls Tryz.prog 57 #[vidV a, vidV b] w fun e w' => e = .returned (.int .i64 (cmpVid a b)) ∧ Below w.heap.size w w' := by
  have HB := Lib.hid ((below_new (w := w) (.cells #[.int .u8 (a.pid.author.toNat : Int), .int .u16 (a.pid.seq.toNat : Int), .int .u8 (a.n.toNat : Int)] 27)).alloc (by simp) (.cells #[.int .u8 (b.pid.author.toNat : Int), .int .u16 (b.pid.seq.toNat : Int), .int .u8 (b.n.toNat : Int)] 27))
  unfold vidV
  have gd := fun p q xs ys w => guard_pid .neq p q xs ys w
  by_cases h : a.pid = b.pid
  · have HC := Lib.hid (cmpVid_n h)
    have e1 := neq_pid a.pid b.pid false (by simp [h])
    unfold pidV at e1
    clear h
    by_cases h1 : a.n.toNat < b.n.toNat
    · have d1 : decide (a.n.toNat < b.n.toNat) = true := by simpa using h1
      have HD := Lib.hid (HC.out.trans (cmpN_lt h1))
      go_enter Tryz.func57, Tryz.ntmps57
      go_wp2_with fail
      go_ret
      exact ⟨ret_int HD.out.symm, HB.out⟩
    · have d1 : decide (a.n.toNat < b.n.toNat) = false := by simpa using h1
      by_cases h2 : b.n.toNat < a.n.toNat
      · have d2 : decide (b.n.toNat < a.n.toNat) = true := by simpa using h2
        have HD := Lib.hid (HC.out.trans (cmpN_gt h2))
        go_enter Tryz.func57, Tryz.ntmps57
        go_wp2_with fail
        go_ret
        exact ⟨ret_int HD.out.symm, HB.out⟩
      · have d2 : decide (b.n.toNat < a.n.toNat) = false := by simpa using h2
        have HD := Lib.hid (HC.out.trans (cmpN_eq (by omega)))
        go_enter Tryz.func57, Tryz.ntmps57
        go_wp2_with fail
        go_ret
        exact ⟨ret_int HD.out.symm, HB.out⟩
  · have HC := Lib.hid (cmpVid_pid h)
    have e1 := neq_pid a.pid b.pid true (by simp [h])
    unfold pidV at e1
    clear h
    go_enter Tryz.func57, Tryz.ntmps57
    go_wp2_with fail
    refine (rcmpPid_any a.pid b.pid _).mono ?_
    rintro e w1 ⟨rfl, hb1⟩
    go_wp2_with fail
    go_ret
    exact ⟨ret_int HC.out.symm, below_over HB.out HB.out.size hb1⟩
end Go.Proofs.YtfciedmmgddgpaaGreatDoor
