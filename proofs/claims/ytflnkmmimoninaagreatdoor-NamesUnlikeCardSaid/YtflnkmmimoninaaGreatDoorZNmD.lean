/- Rows of texts sorted and pressed together (the shelf); contract of names.also. -/
import Derived.Test.YtflnkmmimoninaaGreatDoorZNmB
import Derived.Test.YtflnkmmimoninaaGreatDoorZNmC
import Derived.Shelf.SortM.Plain
import Derived.Shelf.SortM.SortNone
import Derived.Shelf.SlicesG.CompactS
namespace Go.Proofs.YtflnkmmimoninaaGreatDoor
open Go Go.RowKit

def encT (t : List UInt8) : List Value := [encStr t]
theorem slStrN : SlT Tryz.prog 48 9 1 16 := slT_of Tryz.underlying48 (by kernel_rfl) (by decide)
theorem encT_len (t : List UInt8) : (encT t).length = 1 := rfl
theorem encT_map (l : List (List UInt8)) : l.flatMap encT = l.map encStr := by
  induction l with
  | nil => rfl
  | cons x l ih => rw [List.flatMap_cons, ih]; rfl
theorem putCells_enc {α : Type} [Inhabited α] (enc : α → Value) (d : Array α) (c : Array Value) : Go.Sort.putCells enc 0 d c = Go.Sort.putCells id 0 (d.map enc) c := by
  apply Array.ext_getElem?
  intro t
  simp only [Go.Sort.putCells, Array.getElem?_mapIdx, Array.size_map, Nat.sub_zero, id]
  by_cases h : t < d.size
  · rw [getElem!_pos d t h, getElem!_pos (d.map enc) t (by simpa using h)]; simp
  · simp [h]
theorem OwnAt.holdsT {w : World} {B g cap : Nat} {e : TypeId} {xs : List (List UInt8)} (h : OwnAt w B e 1 g xs.length cap (xs.flatMap encT)) : Go.Sort.Holds encStr w g 0 xs.toArray := by
  intro j hj
  rw [Nat.zero_add]
  refine ⟨?_, h.free j⟩
  refine h.cell ?_
  have hj' : j < xs.length := by simpa using hj
  rw [encT_map, List.getElem?_map, List.getElem?_eq_getElem hj', getElem!_pos xs.toArray j hj]
  simp
theorem OwnAt.putT {w : World} {B g cap : Nat} {e : TypeId} {xs ys : List (List UInt8)} (h : OwnAt w B e 1 g xs.length cap (xs.flatMap encT)) (hl : ys.length = xs.length) (n : Nat) (os : Array Obj) :
    OwnAt (Go.Sort.grow (Go.Sort.putRow encStr (Go.Sort.ahead w n) g 0 ys.toArray) os) B e 1 g xs.length cap (ys.flatMap encT) ∧ w.grownBy (Go.Sort.grow (Go.Sort.putRow encStr (Go.Sort.ahead w n) g 0 ys.toArray) os) (some g) := by
  have hlt := h.lt
  obtain ⟨junk, h1, h2⟩ := h.at'
  have hl2 : (xs.flatMap encT).length = (ys.flatMap encT).length := by rw [encT_map, encT_map]; simp [hl]
  have hheap : (Go.Sort.putRow encStr (Go.Sort.ahead w n) g 0 ys.toArray).heap[g]? = some (.cells (ys.flatMap encT ++ junk).toArray e (0, 0)) := by
    unfold Go.Sort.putRow Go.Sort.mapBlock
    simp only [Array.getElem?_modify, if_pos]
    have : (Go.Sort.ahead w n).heap = w.heap := rfl
    rw [this, h1]
    simp only [Option.map_some, Go.Sort.onCells]
    rw [putCells_enc, List.map_toArray, ← encT_map, putCells_row _ _ _ hl2]
  refine ⟨⟨⟨junk, ?_, ?_⟩, by rw [← hl2]; exact h.len, h.base, h.nc, h.cm⟩, ?_⟩
  · rw [Go.Sort.heap_grow_old _ _ (by simp [Go.Sort.putRow, Go.Sort.mapBlock]; exact hlt)]
    exact hheap
  · rw [List.length_append, ← hl2, ← List.length_append]; exact h2
  · refine ⟨rfl, rfl, rfl, by simp [Go.Sort.putRow, Go.Sort.mapBlock, Go.Sort.ahead], fun i hi hne => ?_⟩
    rw [Go.Sort.heap_grow_old _ _ (by simp [Go.Sort.putRow, Go.Sort.mapBlock]; exact hi)]
    unfold Go.Sort.putRow Go.Sort.mapBlock
    simp only [Array.getElem?_modify]
    rw [if_neg (fun e => hne (by rw [e]))]
    rfl
def sortT (xs : List (List UInt8)) : List (List UInt8) := xs.mergeSort fun x y => decide (x ≤ y)
theorem sortT_len (xs : List (List UInt8)) : (sortT xs).length = xs.length := List.length_mergeSort _
theorem compact_len (xs : List (List UInt8)) : (Lib.compact xs).length ≤ xs.length := by
  unfold Lib.compact Lib.compactUpTo
  rw [List.length_map]
  refine Nat.le_trans (List.length_filter_le _ _) ?_
  simp
def SortTRes (w : World) (B g cap : Nat) (xs : List (List UInt8)) (r : Ending) (w' : World) : Prop := r = .returned (.tuple #[]) ∧ OwnAt w' B 9 1 g xs.length cap ((sortT xs).flatMap encT) ∧ w.grownBy w' (some g)
theorem sortStr_any {w : World} {B g cap : Nat} {xs : List (List UInt8)} (h : OwnAt w B 9 1 g xs.length cap (xs.flatMap encT)) (hn : xs.length ≤ 1000000000) :
    Calls Tryz.prog 63 #[.slice (some ⟨g, 0, none⟩) xs.length cap] w (SortTRes w B g cap xs) := by
  have hcon := AnyM.slices_Sort_string (P := Tryz.prog) Tryz.sortStr g 0 cap xs w h.holdsT h.lt (by omega)
  refine hcon.mono ?_
  rintro e w' ⟨rfl, n, os, rfl⟩
  obtain ⟨h1, h2⟩ := h.putT (sortT_len xs) n os
  exact ⟨rfl, h1, h2⟩
theorem sortStr_none (p : Option Addr) (cap : Nat) (w : World) :
    Calls Tryz.prog 63 #[.slice p 0 cap] w fun e w' => e = .returned (.tuple #[]) ∧ w' = w := AnyM.slices_Sort_string_none (P := Tryz.prog) Tryz.sortStr p cap w
def CompTRes (w : World) (B g : Nat) (xs : List (List UInt8)) (e : Ending) (w' : World) : Prop := ∃ v, e = .returned v ∧ GOwn encT 1 9 w' B v (Lib.compact xs) ∧ w.grownBy w' (some g)
theorem compStr_any {w : World} {B g cap : Nat} {xs : List (List UInt8)} (h : OwnAt w B 9 1 g xs.length cap (xs.flatMap encT)) (hn : xs.length ≤ 1000000000) :
    Calls Tryz.prog 64 #[.slice (some ⟨g, 0, none⟩) xs.length cap] w (CompTRes w B g xs) := by
  have hcon := AnyG.slices_Compact_string (P := Tryz.prog) Tryz.compStr g 0 cap xs w h.holdsT (by omega) h.nc
  have hcl := compact_len xs
  refine hcon.mono ?_
  rintro e w' ⟨rfl, q, rfl⟩
  obtain ⟨h1, h2⟩ := h.putT (ys := Lib.compact xs ++ List.replicate (xs.length - (Lib.compact xs).length) []) (by rw [List.length_append, List.length_replicate]; omega) q #[]
  rw [Go.Sort.grow_empty] at h1 h2
  refine ⟨_, rfl, ?_, h2⟩
  have h3 := h1.take hcl
  rw [List.flatMap_append, encT_map (Lib.compact xs), List.take_append_of_le_length (by simp), List.take_of_length_le (by simp), ← encT_map] at h3
  exact h3.own
theorem compStr_none (p : Option Addr) (cap : Nat) (w : World) :
    Calls Tryz.prog 64 #[.slice p 0 cap] w fun e w' => e = .returned (.slice p 0 cap) ∧ w' = w := AnyG.slices_Compact_string_empty (P := Tryz.prog) Tryz.compStr p cap w

/-! ### names.also -/
theorem others_yes {xs : List VertM} {k : Nat} {u : VertM} {t : ByteArray} (h : xs[k]? = some u) (hd : ¬ u.text = t) : othersM (xs.take (k + 1)) t = othersM (xs.take k) t ++ [u.text.data.toList] := by unfold othersM; rw [take_succ' h, List.filter_append]; simp [hd]
theorem others_no {xs : List VertM} {k : Nat} {u : VertM} {t : ByteArray} (h : xs[k]? = some u) (hd : u.text = t) : othersM (xs.take (k + 1)) t = othersM (xs.take k) t := by unfold othersM; rw [take_succ' h, List.filter_append]; simp [hd]
theorem others_len (xs : List VertM) (k : Nat) (t : ByteArray) : (othersM (xs.take k) t).length ≤ xs.length := by
  unfold othersM; rw [List.length_map]; exact Nat.le_trans (List.length_filter_le _ _) (by rw [List.length_take]; omega)
theorem alsoM_q (xs : List VertM) (t : ByteArray) : Lib.compact (sortT (othersM xs t)) = alsoM xs t := rfl
theorem encT_text (s : ByteArray) : encT s.data.toList = [.string s] := rfl
def AlRel (w1 : World) (xs : List VertM) (t : ByteArray) (v3 v8 : Value) (wr : World) : Prop := ∃ k : Nat, k ≤ xs.length ∧ v8 = .int .i64 k ∧ Hid (GOwn encT 1 9 wr w1.heap.size v3 (othersM (xs.take k) t)) ∧ Below w1.heap.size w1 wr
theorem others_nil {xs : List VertM} {t : ByteArray} (h : othersM xs t = []) : alsoM xs t = [] := by rw [← alsoM_q, h]; simp [sortT, Lib.compact, Lib.compactUpTo]
attribute [local irreducible] othersM alsoM sortT
set_option maxHeartbeats 8000000 in
set_option maxRecDepth 100000 in
theorem nalso_any (v : Value) (xs : List VertM) (x0 : VertM) (w : World) (hv : GRow encVert 9 w v xs) (h0 : xs[0]? = some x0) (hn : xs.length ≤ 1000000) :
    Calls Tryz.prog 36 #[v] w (OwnRes encT 1 9 w (alsoM xs x0.text)) := by
  obtain ⟨a, cap, rfl, h1, h2, hc⟩ := hv.at encVert_len
  unfold maxLen at h2
  have hpos : 0 < xs.length := by rcases xs with _ | ⟨_, _⟩ <;> simp at h0 ⊢
  obtain ⟨b, off, rfl, sb, hcb⟩ := hc.resolve_left (by omega)
  have HC := Lib.hid hcb
  have H0 := Lib.hid h0
  have HQ := Lib.hid (alsoM_q xs x0.text)
  clear hv hc hcb h0
  go_enter Tryz.func36, Tryz.ntmps36
  go_wp2_with fail
  go_loopw [3, 8] (fun v3 v8 wr => AlRel w xs x0.text v3 v8 wr) (fun _ v8 _ => xs.length - (intOf v8).toNat)
  case atStart => exact ⟨0, Nat.zero_le _, rfl, (by show GOwn _ _ _ _ _ _ _; unfold othersM; exact gown_nil _ _), Below.refl _ _⟩
  case round =>
    obtain ⟨k, hk, rfl, HM, hbl⟩ := hrel
    rename World => wr
    have hol := others_len xs k x0.text
    by_cases hlt : k < xs.length
    · obtain ⟨u, hu⟩ := get_of_lt hlt
      have HU := Lib.hid (HC.out k u hu wr hbl)
      have HX := Lib.hid hu
      have u0 : wr.cell? ⟨b, off + k * 9, none⟩ = some (.int .u8 (u.id.pid.author.toNat : Int)) := (HU.out).2 0 _ rfl
      have u1 : wr.cell? ⟨b, off + k * 9 + 1, none⟩ = some (.int .u16 (u.id.pid.seq.toNat : Int)) := (HU.out).2 1 _ rfl
      have u2 : wr.cell? ⟨b, off + k * 9 + 2, none⟩ = some (.int .u8 (u.id.n.toNat : Int)) := (HU.out).2 2 _ rfl
      have u3 : wr.cell? ⟨b, off + k * 9 + 3, none⟩ = some (.int .u8 (u.kind.toNat : Int)) := (HU.out).2 3 _ rfl
      have u4 : wr.cell? ⟨b, off + k * 9 + 4, none⟩ = some (.int .u8 (u.file.pid.author.toNat : Int)) := (HU.out).2 4 _ rfl
      have u5 : wr.cell? ⟨b, off + k * 9 + 5, none⟩ = some (.int .u16 (u.file.pid.seq.toNat : Int)) := (HU.out).2 5 _ rfl
      have u6 : wr.cell? ⟨b, off + k * 9 + 6, none⟩ = some (.int .u8 (u.file.n.toNat : Int)) := (HU.out).2 6 _ rfl
      have u7 : wr.cell? ⟨b, off + k * 9 + 7, none⟩ = some (.string u.text) := (HU.out).2 7 _ rfl
      have u8 : wr.cell? ⟨b, off + k * 9 + 8, none⟩ = some (.bool u.dead) := (HU.out).2 8 _ rfl
      have su := HU.out.1
      clear hu
      go_upto_region 5 with (fail)
      have HA7 := Lib.hid (arr_new wr #[.int .u8 (u.id.pid.author.toNat : Int), .int .u16 (u.id.pid.seq.toNat : Int), .int .u8 (u.id.n.toNat : Int), .int .u8 (u.kind.toNat : Int), .int .u8 (u.file.pid.author.toNat : Int), .int .u16 (u.file.pid.seq.toNat : Int), .int .u8 (u.file.n.toNat : Int), .string u.text, .bool u.dead] 53)
      have HB7 := Lib.hid (below_new (w := wr) (.cells #[.int .u8 (u.id.pid.author.toNat : Int), .int .u16 (u.id.pid.seq.toNat : Int), .int .u8 (u.id.n.toNat : Int), .int .u8 (u.kind.toNat : Int), .int .u8 (u.file.pid.author.toNat : Int), .int .u16 (u.file.pid.seq.toNat : Int), .int .u8 (u.file.n.toNat : Int), .string u.text, .bool u.dead] 53))
      generalize hw7 : wr.alloc (.cells #[.int .u8 (u.id.pid.author.toNat : Int), .int .u16 (u.id.pid.seq.toNat : Int), .int .u8 (u.id.n.toNat : Int), .int .u8 (u.kind.toNat : Int), .int .u8 (u.file.pid.author.toNat : Int), .int .u16 (u.file.pid.seq.toNat : Int), .int .u8 (u.file.n.toNat : Int), .string u.text, .bool u.dead] 53) = w7 at *
      clear hw7 u0 u1 u2 u3 u4 u5 u6 u7 u8 su
      have hs7 := HB7.out.size
      have hsl := hbl.size
      have hb7 := below_over hbl hbl.size HB7.out
      have HZ := Lib.hid (HC.out 0 x0 H0.out w7 hb7)
      have q0 : w7.cell? ⟨b, off + 3 + 4, none⟩ = some (.string x0.text) := by
        have := HZ.out.2 7 _ rfl
        simpa [Nat.add_assoc] using this
      have q1 : w7.cell? ⟨b, off + 7, none⟩ = some (.string x0.text) := by
        have := HZ.out.2 7 _ rfl
        simpa [Nat.add_assoc] using this
      have sq := HZ.out.1
      have y0 := HA7.out.cell (j := 0) rfl
      have y1 := HA7.out.cell (j := 1) rfl
      have y2 := HA7.out.cell (j := 2) rfl
      have y3 := HA7.out.cell (j := 3) rfl
      have y4 := HA7.out.cell (j := 4) rfl
      have y5 := HA7.out.cell (j := 5) rfl
      have y6 := HA7.out.cell (j := 6) rfl
      have y7 := HA7.out.cell (j := 7) rfl
      have y8 := HA7.out.cell (j := 8) rfl
      have sy := HA7.out.lt
      by_cases ht : u.text = x0.text
      · have e1 := seq_t ht
        have HN := Lib.hid (others_no HX.out ht)
        have HMr := Lib.hid (HM.out.over HB7.out)
        clear ht
        have hcur : Below w7.heap.size w7 w7.drew := (Below.refl _ _).drew
        refine wp_region_lex (C := IsOver w7) 7 [] (by kernel_rfl) (by kernel_rfl) (isOver_of (by repeat (first | exact Below.refl _ _ | apply Below.drew | apply below_drewN | (refine Below.alloc ?_ (by simp) _)))) ?_
        simp only [List.take_succ_cons, List.take_zero, List.drop_succ_cons, List.drop_zero]
        repeat (first | (refine lex_skip rfl rfl ?_; simp only [Act.put, List.setIfInBounds_toArray, List.set_cons_succ, List.set_cons_zero]) | (refine lex_one rfl ?_; go_big_quiet_step (fail); refine wpQuiet_nil ?_))
        refine lex_end ?_
        go_wp2_with fail
        go_roundw
        case rel => exact ⟨k + 1, hlt, by go_num, (by show GOwn _ _ _ _ _ _ _; rw [HN.out]; exact HMr.out.over hcur), below_over hb7 hb7.size hcur⟩
        case measure => simp [intOf]; omega
      · have e1 := seq_f ht
        have HN := Lib.hid (others_yes HX.out ht)
        clear ht
        have hcur : Below w7.heap.size w7 w7.drew := (Below.refl _ _).drew
        refine wp_region_lex (C := IsOver w7) 7 [] (by kernel_rfl) (by kernel_rfl) (isOver_of (by repeat (first | exact Below.refl _ _ | apply Below.drew | apply below_drewN | (refine Below.alloc ?_ (by simp) _)))) ?_
        simp only [List.take_succ_cons, List.take_zero, List.drop_succ_cons, List.drop_zero]
        repeat (first | (refine lex_skip rfl rfl ?_; simp only [Act.put, List.setIfInBounds_toArray, List.set_cons_succ, List.set_cons_zero]) | (refine lex_one rfl ?_; go_big_quiet_step (fail); refine wpQuiet_nil ?_))
        refine lex_end ?_
        have HM8 := Lib.hid ((HM.out.over HB7.out).over hcur)
        have hb8 := below_over hb7 hb7.size hcur
        have hB8 : w.heap.size ≤ w7.drew.heap.size := hb8.size
        have hN8 : (othersM (xs.take k) x0.text).length + 1 ≤ 1099511627776 := by omega
        have HA8 := Lib.hid (HA7.out.over hcur)
        clear y0 y1 y2 y3 y4 y5 y6 y7 y8 sy q0 q1 sq hcur
        have z0 := HA8.out.cell (j := 0) rfl
        have z1 := HA8.out.cell (j := 1) rfl
        have z2 := HA8.out.cell (j := 2) rfl
        have z3 := HA8.out.cell (j := 3) rfl
        have z4 := HA8.out.cell (j := 4) rfl
        have z5 := HA8.out.cell (j := 5) rfl
        have z6 := HA8.out.cell (j := 6) rfl
        have z7 := HA8.out.cell (j := 7) rfl
        have z8 := HA8.out.cell (j := 8) rfl
        have sz := HA8.out.lt
        go_wp2_with (at_builtin; (first | refine wpList_append_newD slStrN rfl _ _ rfl w.heap.size _ _ (drawn_alloc_drewN _ _ _) 1 _ _ _ HM8.out rfl rfl rfl rfl hN8 (by decide) hB8 ?_ | refine wpList_append_newD slStrN rfl _ _ rfl w.heap.size _ _ (drawn_drew _) 1 _ _ _ HM8.out rfl rfl rfl rfl hN8 (by decide) hB8 ?_ | refine wpList_append_newD slStrN rfl _ _ rfl w.heap.size _ _ (drawn_drewN _ _) 1 _ _ _ HM8.out rfl rfl rfl rfl hN8 (by decide) hB8 ?_ | refine wpList_append_newD slStrN rfl _ _ rfl w.heap.size _ _ (drawn_refl _) 1 _ _ _ HM8.out rfl rfl rfl rfl hN8 (by decide) hB8 ?_); intro v9 w9 ho9 hg9)
        go_roundw
        case rel => exact ⟨k + 1, hlt, by go_num, (by show GOwn _ _ _ _ _ _ _; rw [HN.out]; exact GOwn.snoc (by rw [encT_text]; exact ho9)), below_grown hb7 hb7.size (HM.out.over HB7.out) hg9⟩
        case measure => simp [intOf]; omega
    · obtain rfl : k = xs.length := by omega
      have HO := HM.out
      rw [List.take_length] at HO hol
      have HO2 := Lib.hid HO
      have HB2 := Lib.hid hbl
      clear HM
      rcases own_cases HO with ⟨hz, p, c, rfl⟩ | ⟨hne, g, cap2, rfl, hA⟩
      · have HE := Lib.hid (others_nil hz)
        have HO3 : Hid (GOwn encT 1 9 wr w.heap.size (.slice p 0 c) []) := by show GOwn _ _ _ _ _ _ _; rw [← hz]; exact HO2.out
        clear HO hz
        go_wp2_with fail
        refine (sortStr_none _ _ _).mono ?_
        rintro e w2 ⟨rfl, hw2⟩
        obtain rfl := hw2.symm
        go_wp2_with fail
        refine (compStr_none _ _ _).mono ?_
        rintro e w3 ⟨rfl, hw3⟩
        obtain rfl := hw3.symm
        go_wp2_with fail
        go_ret
        exact ⟨_, rfl, (by rw [HE.out]; exact HO3.out), HB2.out⟩
      · have HAt := Lib.hid hA
        clear HO hA
        go_wp2_with fail
        refine (sortStr_any HAt.out (by omega)).mono ?_
        rintro e w2 ⟨rfl, hA2, hg2⟩
        have hsl := sortT_len (othersM xs x0.text)
        rw [← hsl] at hA2
        have HA2 := Lib.hid hA2
        have HG2 := Lib.hid hg2
        have HS := Lib.hid hsl
        clear hA2 hg2 hsl
        go_wp2_with fail
        rw [← HS.out]
        refine (compStr_any HA2.out (by have := HS.out; omega)).mono ?_
        rintro e w3 ⟨v3, rfl, ho3, hg3⟩
        rw [HQ.out] at ho3
        have HO3 := Lib.hid ho3
        have HG3 := Lib.hid hg3
        clear ho3 hg3
        go_wp2_with fail
        go_ret
        exact ⟨_, rfl, HO3.out, HB2.out.grown (grown_trans HG2.out HG3.out) HB2.out.size fun k hk => by cases hk; exact HAt.out.base⟩
end Go.Proofs.YtflnkmmimoninaaGreatDoor
