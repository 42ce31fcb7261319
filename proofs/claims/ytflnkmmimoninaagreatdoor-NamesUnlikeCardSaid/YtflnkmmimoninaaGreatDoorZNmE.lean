/- Names that lie in memory, with their rows; what names.All keeps. -/
import Derived.Test.YtflnkmmimoninaaGreatDoorZNmD
import Derived.Test.YtflnkmmimoninaaGreatDoorZKeys
import Derived.Test.YtflnkmmimoninaaGreatDoorZMap
import Derived.Maps.Keyed
namespace Go.Proofs.YtflnkmmimoninaaGreatDoor
open Go Go.RowKit

structure LaidN where
  n : NameM
  pa : Option Addr
  ca : Nat
  pf : Option Addr
  cf : Nat
def encU8 (c : UInt8) : List Value := [.int .u8 (c.toNat : Int)]
def encN (x : LaidN) : List Value := [.int .u8 (x.n.file.pid.author.toNat : Int), .int .u16 (x.n.file.pid.seq.toNat : Int), .int .u8 (x.n.file.n.toNat : Int), .string x.n.name, .slice x.pa x.n.also.length x.ca, .slice x.pf x.n.flaws.length x.cf]
theorem encN_len (x : LaidN) : (encN x).length = 6 := rfl
theorem slName : SlT Tryz.prog 42 51 6 72 := slT_of Tryz.underlying42 (by kernel_rfl) (by decide)
theorem slByte : SlT Tryz.prog 49 5 1 1 := slT_of Tryz.underlying49 (by kernel_rfl) (by decide)
theorem own_sl {α : Type} {enc : α → List Value} {sz : Nat} {e : TypeId} {w : World} {B : Nat} {v : Value} {xs : List α} (h : GOwn enc sz e w B v xs) : ∃ p c, v = .slice p xs.length c := by
  rcases h.2 with ⟨rfl, h0⟩ | ⟨g, cap, cur, rfl, _⟩
  · exact ⟨none, 0, by rw [h0]⟩
  · exact ⟨_, _, rfl⟩
theorem own_apart {α β : Type} {enc : α → List Value} {enc' : β → List Value} {sz sz' : Nat} {e e' : TypeId} {w : World} {B B' : Nat} {v v' : Value} {xs : List α} {ys : List β} (h : GOwn enc sz e w B v xs) (h' : GOwn enc' sz' e' w B' v' ys) (hne : e ≠ e') : v.ownBlock = none ∨ v.ownBlock ≠ v'.ownBlock := by
  rcases h.2 with ⟨rfl, _⟩ | ⟨g, cap, cur, rfl, _, hg, _⟩
  · exact .inl rfl
  · refine .inr fun q => ?_
    rcases h'.2 with ⟨rfl, _⟩ | ⟨g', cap', cur', rfl, _, hg', _⟩
    · simp [Value.ownBlock] at q
    · simp only [Value.ownBlock, Option.some.injEq] at q
      subst q
      rw [hg] at hg'
      simp only [Option.some.injEq, Obj.cells.injEq] at hg'
      exact hne hg'.2.1
theorem own_lit {α : Type} {enc : α → List Value} {sz : Nat} (w : World) (e : TypeId) (xs : List α) (B : Nat) (hl : (xs.flatMap enc).length = xs.length * sz) (hm : xs.length ≤ maxLen) (hB : B ≤ w.heap.size) : GOwn enc sz e (w.alloc (.cells (xs.flatMap enc).toArray e)) B (.slice (some ⟨w.heap.size, 0, none⟩) xs.length xs.length) xs :=
  ⟨hl, .inr ⟨w.heap.size, xs.length, (xs.flatMap enc).toArray, rfl, hB, by rw [heap_alloc_new], Nat.le_refl _, hm, by simp [hl], by rw [← hl]; exact List.take_length⟩⟩
theorem ArrT.set {w : World} {g : Nat} {e : TypeId} {cs : List Value} (h : ArrT w g e cs) (j : Nat) (u : Value) : ArrT (w.setCell ⟨g, j, none⟩ u) g e (cs.set j u) := by
  unfold ArrT at *
  show (w.heap.modify g _)[g]? = _
  rw [Array.getElem?_modify, if_pos rfl, h]
  simp
theorem ArrT.kept {w w' : World} {g : Nat} {e : TypeId} {cs : List Value} {row : Option Nat} (h : ArrT w g e cs) (hg : w.grownBy w' row) (hn : some g ≠ row) : ArrT w' g e cs := by
  unfold ArrT at *
  rw [hg.block g (Array.getElem?_eq_some_iff.1 h).1 hn]; exact h
def NameAt (w : World) (B : Nat) (x : LaidN) : Prop := GOwn encT 1 9 w B (.slice x.pa x.n.also.length x.ca) x.n.also ∧ GOwn encU8 1 5 w B (.slice x.pf x.n.flaws.length x.cf) x.n.flaws
/-- a []Name, its rows, and theirs: all from block B on -/
def Names (w : World) (B : Nat) (v : Value) (ns : List NameM) : Prop := ∃ xs : List LaidN, xs.map (·.n) = ns ∧ GOwn encN 6 51 w B v xs ∧ ∀ x ∈ xs, NameAt w B x
theorem gown_keep {α : Type} {enc : α → List Value} {sz : Nat} {e : TypeId} {w w' : World} {B : Nat} {v : Value} {xs : List α} {row : Option Nat} (h : GOwn enc sz e w B v xs) (hg : w.grownBy w' row) (hr : ∀ k, row = some k → k < B) : GOwn enc sz e w' B v xs :=
  own_grown h hg (by
    cases hv : v.ownBlock with
    | none => exact .inl rfl
    | some k => exact .inr fun q => by have := gown_base h hv; have := hr k q.symm; omega)
theorem Names.keep {w w' : World} {B : Nat} {v : Value} {ns : List NameM} {row : Option Nat} (h : Names w B v ns) (hg : w.grownBy w' row) (hr : ∀ k, row = some k → k < B) : Names w' B v ns := by
  obtain ⟨xs, h1, h2, h3⟩ := h
  exact ⟨xs, h1, gown_keep h2 hg hr, fun x hx => ⟨gown_keep (h3 x hx).1 hg hr, gown_keep (h3 x hx).2 hg hr⟩⟩
theorem Names.over {w w' : World} {B : Nat} {v : Value} {ns : List NameM} (h : Names w B v ns) (hb : Below w.heap.size w w') : Names w' B v ns := h.keep (below_none hb) (fun k hk => by cases hk)
theorem Names.base {w : World} {B B' : Nat} {v : Value} {ns : List NameM} (h : Names w B v ns) (hB : B' ≤ B) : Names w B' v ns := by
  obtain ⟨xs, h1, h2, h3⟩ := h
  exact ⟨xs, h1, h2.base hB, fun x hx => ⟨(h3 x hx).1.base hB, (h3 x hx).2.base hB⟩⟩
theorem names_nil (w : World) (B : Nat) : Names w B (.slice none 0 0) [] := ⟨[], rfl, gown_nil _ _, fun x hx => absurd hx (List.not_mem_nil)⟩
theorem names_snoc {w w' : World} {B : Nat} {v v' : Value} {xs : List LaidN} {ns : List NameM} (h1 : xs.map (·.n) = ns) (hO : GOwn encN 6 51 w B v xs) (hN : ∀ x ∈ xs, NameAt w B x) {y : LaidN} (hy : NameAt w B y) (hg : w.grownBy w' v.ownBlock)
    (ho : w'.ownsRow B 51 6 v' (xs.length + 1) (xs.flatMap encN ++ encN y)) : Names w' B v' (ns ++ [y.n]) := by
  have hk : ∀ x, NameAt w B x → NameAt w' B x := fun x ⟨a, b⟩ => ⟨own_grown a hg (own_apart a hO (by decide)), own_grown b hg (own_apart b hO (by decide))⟩
  refine ⟨xs ++ [y], by rw [List.map_append, h1]; rfl, GOwn.snoc ho, fun x hx => ?_⟩
  rcases List.mem_append.1 hx with hx | hx
  · exact hk x (hN x hx)
  · rw [List.mem_singleton.1 hx]; exact hk y hy

/-! ### the map of what is taken -/
def okStr (s : ByteArray) : Prop := s.size ≤ maxLen
abbrev strV (s : ByteArray) : Value := .string s
abbrev intV (n : Int) : Value := .int .i64 n
theorem keysStr : KeyEnc Tryz.prog 9 strV okStr := ⟨Maps.string_keyed Tryz.underlying9, fun s hs => by
  refine ⟨.string s.data.toList, ?_⟩
  unfold keyOf
  rw [Tryz.underlying9]
  unfold mapKey
  rw [Tryz.underlying9]
  show (if s.size ≤ maxLen then _ else _) = _
  rw [if_pos (show s.size ≤ maxLen from hs)], fun x y h => by cases h; rfl⟩
theorem allTo_len (L : List PatchM) : ∀ k, k ≤ (filesM L).length → (allTo L k).1.length ≤ k ∧ ∀ t, (allTo L k).2 t ≤ k
  | 0, _ => ⟨by simp [allTo_zero], fun t => by simp [allTo_zero]⟩
  | k + 1, hk => by
    obtain ⟨h1, h2⟩ := allTo_len L k (by omega)
    have hf := List.getElem?_eq_getElem (l := filesM L) (i := k) (by omega)
    rw [allTo_succ hf]
    unfold stepN
    split
    · exact ⟨by omega, fun t => by have := h2 t; omega⟩
    · refine ⟨by rw [List.length_append]; simp; omega, fun t => ?_⟩
      cases namesM L (filesM L)[k] with
      | nil => have := h2 t; simp only [bumpL]; omega
      | cons x l =>
        simp only [bumpL]; unfold bumpT
        split
        · have := h2 x.text; omega
        · have := h2 t; omega
theorem filesM_len (L : List PatchM) : (filesM L).length ≤ (idsM L).length := by
  unfold filesM; rw [List.length_map]; exact Nat.le_trans (List.length_filter_le _ _) (by unfold vertsM; rw [List.length_map]; exact Nat.le_refl _)
def AllIn (L : List PatchM) (w : World) (bm : Nat) (v13 v3 v15 : Value) (wr : World) : Prop :=
  ∃ (k n : Nat) (f : ByteArray → Option Int), k ≤ (filesM L).length ∧ n ≤ k ∧ v15 = .int .i64 (k : Int) ∧ Hid (Names wr (bm + 1) v3 (allTo L k).1) ∧ Hid (TMap Tryz.prog 9 strV okStr intV wr bm n f) ∧ Hid (∀ t, (f t).getD 0 = (((allTo L k).2 t : Nat) : Int)) ∧
    Hid (GOwn encVid 3 27 wr (bm + 1) v13 (filesM L)) ∧ Hid (Below w.heap.size w wr) ∧ bm + 1 ≤ wr.heap.size
def AllRes (w : World) (ns : List NameM) (e : Ending) (w' : World) : Prop := ∃ v, e = .returned v ∧ Names w' w.heap.size v ns ∧ Below w.heap.size w w'
theorem step_dead {L : List PatchM} {s : StN} {f : VidM} {y : VertM} (h1 : (vertM L f).getD noVert = y) (h2 : y.dead = true) : stepN L s f = s := by
  unfold stepN deadAt; rw [h1, if_pos h2]
theorem step_live {L : List PatchM} {s : StN} {f : VidM} {y : VertM} (h1 : (vertM L f).getD noVert = y) (h2 : y.dead = false) : stepN L s f = (s.1 ++ [nameOne L s.2 f (namesM L f)], bumpL s.2 (namesM L f)) := by
  unfold stepN deadAt; rw [h1, if_neg (by simp [h2])]
theorem cnt_bump {f : ByteArray → Option Int} {c : ByteArray → Nat} (h : ∀ t, (f t).getD 0 = ((c t : Nat) : Int)) (s : ByteArray) (t : ByteArray) : (updM f s ((c s : Int) + 1) t).getD 0 = ((bumpT c s t : Nat) : Int) := by
  unfold updM bumpT
  by_cases hs : t = s
  · rw [if_pos hs, if_pos hs]; simp
  · rw [if_neg hs, if_neg hs]; exact h t
end Go.Proofs.YtflnkmmimoninaaGreatDoor
