/- The three statements of layer 46: the arguments opened, and the cards closed. -/
import Derived.Test.YtloehmcfmjbidaaDoorCard
import Derived.Test.YtloehmcfmjbidaaDoorShaL
import Derived.ChangeSlices
namespace Go.Proofs.YtloehmcfmjbidaaDoor
open Go Go.ChangeShapes Go.WideShapes Go.ChangeAt Go.RowKit
attribute [local irreducible] Sha.pad

section
variable {H : Type} {enc : TypeId × Value → H} {P : Program} {W : World} {base : Nat}
theorem toNat_wf {k : IntKind} (hk : k.min = 0) {z : Int} (h : (Lit.int k z).wf = true) : ((z.toNat : Nat) : Int) = z := by
  have : k.min ≤ z := by simp only [Lit.wf, Bool.and_eq_true, decide_eq_true_eq] at h; exact h.1
  omega
theorem irow_of_trod {t e : TypeId} {k : IntKind} (ht : P.underlying t = some (.slice e)) (he : P.underlying e = some (.int k)) (hc : P.cellsOf e = 1) (hk : k.min = 0) {v : Value} {d : DataW H} {ps : List MemPlace}
    (hv : Value.okWide P W .any base t v) (h : DataW.Trod enc P W 0 (fun _ => true) true t v d ps) : ∃ xs : List Nat, IRow W k v xs ∧ ∀ x ∈ xs, (Lit.int k (x : Int)).wf = true := by
  obtain ⟨a0, len, cap, rfl⟩ := okWide_slice ht hv
  obtain ⟨fuel, hf⟩ := h
  rcases open_ints ht he hc hf with ⟨hcs, _⟩ | ⟨a, len', cap', zs, hcs, _, hl, hm, hz, _, hcell, hwz⟩
  · simp [Value.cells] at hcs
    obtain ⟨rfl, rfl, rfl⟩ := hcs
    exact ⟨[], row_nil _ _, by simp⟩
  · simp [Value.cells] at hcs
    obtain ⟨rfl, rfl, rfl⟩ := hcs
    simp only [if_true] at hz
    refine ⟨(zs.take len).map Int.toNat, ?_, fun x hx => ?_⟩
    · have hln : ((zs.take len).map Int.toNat).length = len := by simp; omega
      unfold IRow
      rw [hln]
      refine ⟨by rw [ints_len, hln]; omega, _, cap, rfl, hl, hm, (fun h => by cases h), fun h0 => ?_⟩
      have hsp := World.cell?_spot (by simpa [Addr.add] using hcell 0 (by omega) : W.cell? a = _)
      obtain ⟨b, off, sp⟩ := a
      simp only at hsp
      subst hsp
      have hc0 := hcell 0 (by omega)
      have hb : b < W.heap.size := by
        rcases Nat.lt_or_ge b W.heap.size with h' | h'
        · exact h'
        · simp [World.cell?, Addr.add, Array.getElem?_eq_none h'] at hc0
      refine ⟨b, off, rfl, hb, fun j u hu => ?_⟩
      have hj : j < len := by
        have := (List.getElem?_eq_some_iff.1 hu).1
        rw [ints_len, hln] at this; exact this
      have := hcell j (by omega)
      rw [Addr.add_lit] at this
      rw [this, ← hu]
      have hzj : zs.getD j 0 ∈ zs := by
        rw [List.getD_eq_getElem?_getD, List.getElem?_eq_getElem (by omega)]; exact List.getElem_mem _
      have := toNat_wf hk (hwz _ hzj)
      simp only [ints, List.map_map, List.getElem?_map, List.getElem?_take, hj, if_true]
      rw [List.getElem?_eq_getElem (by omega)] 
      simp only [Option.map_some, Function.comp]
      rw [List.getD_eq_getElem?_getD, List.getElem?_eq_getElem (by omega)] at this ⊢
      simp only [Option.getD_some] at this ⊢
      rw [this]
    · simp only [List.mem_map] at hx
      obtain ⟨z, hz', rfl⟩ := hx
      have := hwz z (List.mem_of_mem_take hz')
      rwa [toNat_wf hk this]
theorem mapM_all {α β : Type} {f : α → Option β} : ∀ {l : List α} {r : List β}, l.mapM f = some r → ∀ x ∈ l, ∃ b, f x = some b
  | [], _, _, x, hx => by simp at hx
  | y :: l, r, h, x, hx => by
    simp only [List.mapM_cons, Option.bind_eq_bind, Option.bind_eq_some_iff, Option.pure_def, Option.some.injEq] at h
    obtain ⟨b, hb, r', hr', rfl⟩ := h
    rcases List.mem_cons.1 hx with rfl | hx
    · exact ⟨b, hb⟩
    · exact mapM_all hr' x hx
theorem agg_of_trod {t e : TypeId} {k : IntKind} {n : Nat} (ht : P.underlying t = some (.array n e)) (he : P.underlying e = some (.int k)) (hce : P.cellsOf e = 1) (hct : P.cellsOf t = n) (hk : k.min = 0) {v : Value} {d : DataW H} {ps : List MemPlace}
    (hv : Value.okWide P W .any base t v) (h : DataW.Trod enc P W 0 (fun _ => true) true t v d ps) : ∃ xs : List Nat, v = .agg (ints k xs).toArray ∧ xs.length = n ∧ ∀ x ∈ xs, (Lit.int k (x : Int)).wf = true := by
  simp only [Value.okWide, ht] at hv
  obtain ⟨cs, rfl, hsz, _⟩ := hv
  obtain ⟨fuel, hf⟩ := h
  cases fuel with
  | zero => simp [DataW.trod] at hf
  | succ fuel =>
    simp only [DataW.trod, ht, hce, hct, Nat.mul_one, Value.cells] at hf
    split at hf
    · rename_i hl
      obtain ⟨ys, hm, _⟩ := Option.map_eq_some_iff.1 hf
      have each : ∀ i, i < n → ∃ z, cs.toList[i]? = some (.int k z) ∧ (Lit.int k z).wf = true := fun i hi => by
        obtain ⟨b, hb⟩ := mapM_all hm i (by simp [hi])
        obtain ⟨z, hc, _, hw⟩ := DataW.trod_int he hb
        refine ⟨z, ?_, hw⟩
        have := congrArg (·[0]?) hc
        simpa [List.getElem?_take, List.getElem?_drop] using this
      have hn : cs.toList.length = n := hl
      refine ⟨cs.toList.map (fun v => (intOf v).toNat), ?_, by simpa using hn, ?_⟩
      · congr 1
        have : cs.toList = ints k (cs.toList.map fun v => (intOf v).toNat) := by
          apply List.ext_getElem?
          intro i
          by_cases hi : i < n
          · obtain ⟨z, h1, h2⟩ := each i hi
            simp only [ints, List.map_map, List.getElem?_map, h1, Option.map_some, Function.comp, intOf, toNat_wf hk h2]
          · rw [List.getElem?_eq_none (by omega), List.getElem?_eq_none (by simp [ints]; omega)]
        rw [← this]
      · intro x hx
        simp only [List.mem_map] at hx
        obtain ⟨v, hv, rfl⟩ := hx
        obtain ⟨i, hi, hiv⟩ := List.getElem_of_mem hv
        obtain ⟨z, h1, h2⟩ := each i (by omega)
        rw [List.getElem?_eq_getElem hi, hiv] at h1
        cases h1
        simpa [intOf, toNat_wf hk h2] using h2
    · cases hf
theorem bytes_wf {xs : List Nat} (h : ∀ x ∈ xs, (Lit.int .u8 (x : Int)).wf = true) : Sha.Bytes xs := Sha.bytes_of fun x hx => by
  have := h x hx
  simp only [Lit.wf, Bool.and_eq_true, decide_eq_true_eq, show IntKind.u8.max = 255 by decide] at this
  omega
end

theorem laidMet_rest {P : Program} {W : World} {a : String × DataW Unit} {rest : List (String × DataW Unit)} (h : laidMet P (a :: rest) W) : laidMet P rest W := by
  obtain ⟨ps, ⟨g, t, cs, fuel, p, q, _, _, _, _, hr, rfl⟩, hnd, hc⟩ := h
  exact ⟨q, hr, (List.nodup_append.1 hnd).2.1, fun b off hm => hc b off (List.mem_append_right _ hm)⟩
theorem own : ownKnob Tryd.prog.godebug = none := by kernel_rfl
theorem laidOut : laidOutB Tryd.prog = true := by kernel_rfl
theorem tab1 {W : World} (h : laidMet Tryd.prog [("bruit/sha.constants", Rows.laid_bruit_sha_constants), ("bruit/sha.begin", Rows.laid_bruit_sha_begin)] W) : Lib.TabIs Tryd.prog W "bruit/sha.constants" .u32 (Sha.K0.map fun (x : Nat) => (x : Int)) :=
  Lib.tabIs_of_head (rest := [("bruit/sha.begin", Rows.laid_bruit_sha_begin)]) (g := 1) (by kernel_rfl) (by kernel_rfl) Tryd.underlying51 Tryd.underlying40 (by kernel_rfl) (by kernel_rfl) h
theorem tab2 {W : World} (h : laidMet Tryd.prog [("bruit/sha.constants", Rows.laid_bruit_sha_constants), ("bruit/sha.begin", Rows.laid_bruit_sha_begin)] W) : Lib.TabIs Tryd.prog W "bruit/sha.begin" .u32 (Sha.H0.list.map fun (x : Nat) => (x : Int)) :=
  Lib.tabIs_of_head (rest := []) (g := 0) (by kernel_rfl) (by kernel_rfl) Tryd.underlying43 Tryd.underlying40 (by kernel_rfl) (by kernel_rfl) (laidMet_rest h)
theorem laid_of {W : World} (h : laidMet Tryd.prog [("bruit/sha.constants", Rows.laid_bruit_sha_constants), ("bruit/sha.begin", Rows.laid_bruit_sha_begin)] W) : Laid W := by
  have h1 := tab1 h
  have h2 := tab2 h
  unfold Lib.TabIs World.var? at h1 h2
  rw [show Tryd.prog.globalNamed "bruit/sha.constants" = some 1 by kernel_rfl] at h1
  rw [show Tryd.prog.globalNamed "bruit/sha.begin" = some 0 by kernel_rfl] at h2
  simp only [Option.bind_some] at h1 h2
  have g1 : ∃ e fr, W.heap[1]? = some (.cells (ints .u32 Sha.K0).toArray e fr) := by
    split at h1
    · rename_i cs e fr hh
      refine ⟨e, fr, ?_⟩
      rw [hh, Option.some.inj h1]; simp [ints, Function.comp_def]
    · cases h1
  have g2 : ∃ e fr, W.heap[0]? = some (.cells (ints .u32 Sha.H0.list).toArray e fr) := by
    split at h2
    · rename_i cs e fr hh
      refine ⟨e, fr, ?_⟩
      rw [hh, Option.some.inj h2]; simp [ints, Function.comp_def]
    · cases h2
  obtain ⟨e1, f1, g1⟩ := g1
  refine ⟨?_, fun j hj => ?_, g2⟩
  · obtain ⟨e2, f2, g2⟩ := g2
    have a1 := (Array.getElem?_eq_some_iff.1 g1).1
    have a2 := (Array.getElem?_eq_some_iff.1 g2).1
    omega
  · rw [cell_of_row W 1 j _ e1 f1 g1]
    have := ints_get (k := .u32) (xs := Sha.K0) (j := j) (by have : Sha.K0.length = 64 := rfl; omega)
    simpa using this
end Go.Proofs.YtloehmcfmjbidaaDoor
