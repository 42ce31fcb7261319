/- Contracts of bruitref50.one, kind by kind: what drops a file, what makes one. -/
import Derived.Test.YtjbihmglpfdmnaaGreatDoorDiffI
namespace Go.Proofs.YtjbihmglpfdmnaaGreatDoor
open Go Go.RowKit

def OneRes (w : World) (r : List FileM × Nat) (e : Ending) (w' : World) : Prop := ∃ v, e = .returned (.tuple #[v, .int .i64 (r.2 : Int)]) ∧ FRow w' v r.1 ∧ Below w.heap.size w w'
theorem oneRes_bad {w w' : World} {r : List FileM × Nat} {n : Nat} {z : Int} (h : r = ([], n)) (hz : z = (n : Int)) (hb : Below w.heap.size w w') : OneRes w r (.returned (.tuple #[.slice none 0 0, .int .i64 z])) w' := by
  subst h; subst hz
  exact ⟨_, rfl, frow_nil w', hb⟩
theorem oneRes_ok {w w' : World} {r : List FileM × Nat} {t : List FileM} {v : Value} (h : r = (t, 0)) (hv : FRow w' v t) (hb : Below w.heap.size w w') : OneRes w r (.returned (.tuple #[v, .int .i64 0])) w' := by
  subst h
  exact ⟨_, rfl, hv, hb⟩
theorem FRow.open {w : World} {v : Value} {t : List FileM} (h : FRow w v t) : ∃ hs : List FileH, t = hs.map (·.1) ∧ Row w v hs.length 3 (hs.flatMap encF) ∧ Held w hs := by
  obtain ⟨hs, h1, h2, h3⟩ := h
  subst h1
  exact ⟨hs, rfl, by simpa using h2, h3⟩
theorem flat_take {α : Type} {f : α → List Value} {sz : Nat} (hf : ∀ x, (f x).length = sz) : ∀ (xs : List α) (k : Nat), (xs.flatMap f).take (k * sz) = (xs.take k).flatMap f
  | [], k => by simp
  | x :: xs, 0 => by simp
  | x :: xs, k + 1 => by
    rw [List.flatMap_cons, List.take_succ_cons, List.flatMap_cons, List.take_append, hf, show (k + 1) * sz - sz = k * sz by rw [Nat.add_mul]; omega, flat_take hf xs k, List.take_of_length_le (by rw [hf, Nat.add_mul]; omega)]
theorem flat_drop {α : Type} {f : α → List Value} {sz : Nat} (hf : ∀ x, (f x).length = sz) : ∀ (xs : List α) (k : Nat), (xs.flatMap f).drop (k * sz) = (xs.drop k).flatMap f
  | [], k => by simp
  | x :: xs, 0 => by simp
  | x :: xs, k + 1 => by
    rw [List.flatMap_cons, List.drop_succ_cons, List.drop_append, hf, show (k + 1) * sz - sz = k * sz by rw [Nat.add_mul]; omega, flat_drop hf xs k, List.drop_of_length_le (by rw [hf, Nat.add_mul]; omega)]; rfl
theorem hrow_take {hs : List FileH} {k : Nat} {v v' : Value} (hv : ∀ w' : World, Row w' v hs.length 3 (hs.flatMap encF) → Row w' v' k 3 ((hs.flatMap encF).take (k * 3))) {w : World} (hr : Row w v hs.length 3 (hs.flatMap encF)) : Row w v' k 3 ((hs.take k).flatMap encF) := by
  have := hv w hr
  rwa [flat_take encF_len] at this
theorem hrow_drop {hs : List FileH} {k : Nat} {v v' : Value} (hv : ∀ w' : World, Row w' v hs.length 3 (hs.flatMap encF) → Row w' v' (hs.length - k) 3 ((hs.flatMap encF).drop (k * 3))) {w : World} (hr : Row w v hs.length 3 (hs.flatMap encF)) : Row w v' (hs.length - k) 3 ((hs.drop k).flatMap encF) := by
  have := hv w hr
  rwa [flat_drop encF_len] at this
theorem Held.take {w : World} {hs : List FileH} (h : Held w hs) (k : Nat) : Held w (hs.take k) := fun x hx => h x (List.mem_of_mem_take hx)
theorem Held.drop {w : World} {hs : List FileH} (h : Held w hs) (k : Nat) : Held w (hs.drop k) := fun x hx => h x (List.mem_of_mem_drop hx)
theorem Held.app {w : World} {hs gs : List FileH} (h : Held w hs) (h' : Held w gs) : Held w (hs ++ gs) := fun x hx => (List.mem_append.1 hx).elim (h x) (h' x)
theorem below_box {w : World} (o : Obj) : Below w.heap.size w (w.alloc o) := (Below.refl _ _).alloc (Nat.le_refl _) o

end Go.Proofs.YtjbihmglpfdmnaaGreatDoor
