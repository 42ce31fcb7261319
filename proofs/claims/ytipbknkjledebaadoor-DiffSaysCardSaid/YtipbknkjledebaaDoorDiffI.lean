/- Contract of bruitref50.set. -/
import Derived.Test.YtipbknkjledebaaDoorDiffH
namespace Go.Proofs.YtipbknkjledebaaDoor
open Go Go.RowKit

theorem setL_set {t : List FileM} {k : Nat} {f : FileM} {l : List ByteArray} (h : t[k]? = some f) : setL t k l = t.set k ⟨f.name, [], l⟩ := by
  obtain ⟨hk, rfl⟩ := List.getElem?_eq_some_iff.1 h
  rw [List.set_eq_take_append_cons_drop, if_pos hk]
  unfold setL
  rw [getD_at (List.getElem?_eq_getElem hk)]
abbrev FileH : Type := FileM × Value × Value
def TOwn (w : World) (B : Nat) (v : Value) (hs : List FileH) : Prop := w.ownsRow B 44 3 v hs.length (hs.flatMap encF)
def Held (w : World) (hs : List FileH) : Prop := ∀ x ∈ hs, SRow w x.2.1 x.1.also ∧ SRow w x.2.2 x.1.lines
theorem Held.over {w w' : World} {hs : List FileH} (h : Held w hs) (hb : Below w.heap.size w w') : Held w' hs := fun x hx => ⟨(h x hx).1.over hb, (h x hx).2.over hb⟩
theorem TOwn.snoc {w : World} {B : Nat} {v : Value} {hs : List FileH} {x : FileH} (h : w.ownsRow B 44 3 v (hs.length + 1) (hs.flatMap encF ++ encF x)) : TOwn w B v (hs ++ [x]) := by
  unfold TOwn
  rw [List.length_append, List.flatMap_append]; simpa using h
theorem TOwn.app {w : World} {B : Nat} {v : Value} {xs ys : List FileH} {n m : Nat} (hn : n = xs.length) (hm : m = ys.length) (h : w.ownsRow B 44 3 v (n + m) (xs.flatMap encF ++ ys.flatMap encF)) : TOwn w B v (xs ++ ys) := by
  subst hn; subst hm
  unfold TOwn
  rw [List.length_append, List.flatMap_append]; exact h
theorem TOwn.frow {w : World} {B : Nat} {v : Value} {hs : List FileH} (h : TOwn w B v hs) (hh : Held w hs) : FRow w v (hs.map (·.1)) := by
  refine ⟨hs, rfl, ?_, hh⟩
  have := own_row h
  simpa using this
theorem srow_one {w : World} {v : Value} {xs : List ByteArray} (h : SRow w v xs) : v.oneCell' = true := by
  obtain ⟨a, cap, rfl, _⟩ := h.form
  rfl
theorem encF_one {w : World} {hs : List FileH} (h : Held w hs) : ∀ u ∈ hs.flatMap encF, u.oneCell' = true := by
  intro u hu
  obtain ⟨x, hx, he⟩ := List.mem_flatMap.1 hu
  have := h x hx
  simp only [encF, List.mem_cons, List.not_mem_nil, or_false] at he
  rcases he with rfl | rfl | rfl
  · rfl
  · exact srow_one this.1
  · exact srow_one this.2
/-- what lies at the places of files that are held -/
theorem held_form {w : World} {v : Value} {hs : List FileH} (h : Row w v hs.length 3 (hs.flatMap encF)) (hh : Held w hs) : ∃ a cap, v = .slice a hs.length cap ∧ hs.length ≤ cap ∧ cap ≤ maxLen ∧
    (hs.length = 0 ∨ ∃ b off, a = some ⟨b, off, none⟩ ∧ b < w.heap.size ∧ ∀ i x, hs[i]? = some x → FAt w b (off + i * 3) x.1 x.2.1 x.2.2) := by
  obtain ⟨a, cap, e1, e2, e3, e4, e5⟩ := h.form
  refine ⟨a, cap, e1, e2, e3, e5.imp id ?_⟩
  rintro ⟨b, off, rfl, hb, hc⟩
  refine ⟨b, off, rfl, hb, fun i x hx => ?_⟩
  have hm := hh x (List.mem_of_getElem? hx)
  exact ⟨Row.elem (j := 0) encF_len hc hx rfl, Row.elem (j := 1) encF_len hc hx rfl, Row.elem (j := 2) encF_len hc hx rfl, hm.1, hm.2⟩
def TreeRes (w : World) (t : List FileM) (e : Ending) (w' : World) : Prop := ∃ v, e = .returned v ∧ FRow w' v t ∧ Below w.heap.size w w'
def SetRel (w : World) (hs : List FileH) (v iv : Value) (wr : World) : Prop := ∃ i : Nat, i ≤ hs.length ∧ iv = .int .i64 i ∧ Hid (TOwn wr w.heap.size v (hs.take i)) ∧ Below w.heap.size w wr

set_option maxHeartbeats 10000000 in
set_option maxRecDepth 100000 in
theorem set_any (v lv : Value) (t : List FileM) (k : Nat) (l : List ByteArray) (w : World) (hv : FRow w v t) (hl : SRow w lv l) (hk : k < t.length) (ht : t.length ≤ 1000) :
    Calls Tryd.prog 38 #[v, .int .i64 (k : Int), lv] w (TreeRes w (setL t k l)) := by
  obtain ⟨hs, rfl, hr, hh⟩ := hv
  rw [List.length_map] at hr hk ht
  obtain ⟨y, hy⟩ := get_of_lt hk
  obtain ⟨a, cap, rfl, h1, h2, hc⟩ := held_form hr hh
  obtain ⟨la, lc, rfl, l1, l2, _, _⟩ := hl.form
  unfold maxLen at h2 l2
  have HH := Lib.hid hh
  have HL := Lib.hid hl
  have HY := Lib.hid hy
  have HSet : Hid (setL (hs.map (·.1)) k l = (hs.set k (⟨y.1.name, [], l⟩, .slice none 0 0, .slice la l.length lc)).map (·.1)) := by
    show _ = _
    rw [setL_set (f := y.1) (by rw [List.getElem?_map, hy]; rfl), List.map_set]
  have HHn : Hid (Held w (hs.set k (⟨y.1.name, [], l⟩, .slice none 0 0, .slice la l.length lc))) := fun x hx => by
    rcases List.mem_or_eq_of_mem_set hx with hx | rfl
    · exact hh x hx
    · exact ⟨srow_nil w, hl⟩
  have hlen : (hs.set k (⟨y.1.name, [], l⟩, .slice none 0 0, .slice la l.length lc)).length = hs.length := by simp
  have HGet : Hid (∀ (i : Nat) x, hs[i]? = some x → (hs.set k (⟨y.1.name, [], l⟩, .slice none 0 0, .slice la l.length lc))[i]? = some (if i = k then (⟨y.1.name, [], l⟩, .slice none 0 0, .slice la l.length lc) else x)) := fun i x hx => by
    by_cases hik : i = k
    · subst hik; rw [if_pos rfl, List.getElem?_set_self hk]
    · rw [if_neg hik, List.getElem?_set_ne (fun h => hik h.symm), hx]
  generalize hs.set k (⟨y.1.name, [], l⟩, .slice none 0 0, .slice la l.length lc) = gs at *
  have HLen := Lib.hid hlen
  clear hh hl hy hr hlen
  go_enter Tryd.func38, Tryd.ntmps38
  go_wp2
  go_loopw [7, 8, 9] (fun v i _ wr => SetRel w gs v i wr) (fun _ i _ _ => hs.length - (intOf i).toNat)
  case atStart => exact ⟨0, by omega, rfl, World.ownsRow_nil _ _ _ _, Below.refl _ _⟩
  case round =>
    obtain ⟨i, hi, rfl, HO, hbl⟩ := hrel
    have hi' : i ≤ hs.length := by rw [← HLen.out]; exact hi
    by_cases hlt : i < hs.length
    · obtain ⟨b, o, rfl, sb, hf⟩ := hc.resolve_left (by omega)
      obtain ⟨x, hx⟩ := get_of_lt hlt
      have hat0 := hf i x hx
      have hat := hat0.over hbl sb
      have c0 := hat.c0
      have c1 := hat.c1
      have c2 := hat.c2
      have HG := Lib.hid (HGet.out i x hx)
      have HX := Lib.hid hx
      have sb' : b < wr.heap.size := Nat.lt_of_lt_of_le sb hbl.size
      have hN : (gs.take i).length + 1 ≤ 1099511627776 := by rw [List.length_take]; omega
      have hB := hbl.size
      have hi1 : i + 1 ≤ gs.length := by rw [HLen.out]; omega
      have hB1 : w.heap.size ≤ wr.heap.size + 1 := by omega
      obtain ⟨aa, ac, ea, _, _, _, _⟩ := hat0.also.form
      obtain ⟨ll, lc2, el, _, _, _, _⟩ := hat0.lines.form
      rw [ea] at c1
      rw [el] at c2
      have HEa := Lib.hid ea
      have HEl := Lib.hid el
      have HW1 := Lib.hid (fun (o : Obj) => hbl.alloc hB o)
      clear hat hat0 hf hc hx ea el
      by_cases hik : i = k
      · have hb1 : ((i : Int) == (k : Int)) = true := by simp [hik]
        have HT : Hid (gs.take (i + 1) = gs.take i ++ [(⟨y.1.name, [], l⟩, .slice none 0 0, .slice la l.length lc)]) := by
          have := HG.out; rw [if_pos hik] at this; exact take_succ_get this
        have hxy : x = y := by rw [hik, HY.out] at HX; have := HX.out; simpa using this.symm
        subst hxy
        clear hik
        go_wp2_with (at_builtin; refine wpList_append_newH slTree rfl _ _ rfl w.heap.size _ _ (wr.heap.size + 1) (by simp) 1 _ _ _ (HO.out.alloc _) rfl rfl rfl rfl hN (by decide) hB1 ?_; intro v2 w2 ho2 hg2)
        have hg2' := grown_alloc hg2
        go_roundw
        case rel => exact ⟨i + 1, hi1, by go_num, (by rw [HT.out]; exact TOwn.snoc (x := (⟨x.1.name, [], l⟩, .slice none 0 0, .slice la l.length lc)) ho2), below_grown hbl hB HO.out hg2'⟩
        case measure => simp [intOf]; omega
      · have hb1 : ((i : Int) == (k : Int)) = false := by simp; omega
        have HT : Hid (gs.take (i + 1) = gs.take i ++ [x]) := by
          have := HG.out; rw [if_neg hik] at this; exact take_succ_get this
        clear hik
        go_wp2_with (at_builtin; refine wpList_append_newH slTree rfl _ _ rfl w.heap.size _ _ (wr.heap.size + 1) (by simp) 1 _ _ _ (HO.out.alloc _) rfl rfl rfl rfl hN (by decide) hB1 ?_; intro v2 w2 ho2 hg2)
        have hg2' := grown_alloc hg2
        go_roundw
        case rel => exact ⟨i + 1, hi1, by go_num, (by rw [HT.out]; refine TOwn.snoc ?_; unfold encF; rw [HEa.out, HEl.out]; exact ho2), below_grown hbl hB HO.out hg2'⟩
        case measure => simp [intOf]; omega
    · obtain rfl : i = hs.length := by omega
      go_wp2_with fail
      go_ret
      have := HO.out
      rw [← HLen.out, List.take_length] at this
      refine ⟨_, rfl, ?_, hbl⟩
      rw [HSet.out]
      exact this.frow (HHn.out.over hbl)
end Go.Proofs.YtipbknkjledebaaDoor
