/- Plain words on the patch of some lines: the relation, who is alive and firm, and what EditKeeps counts. Plain words: how many operations EditKeeps finds. A sheet that may be nobody: nil, which has no lines. edit's functions at a sheet that may be nobody: the theorems of EdA to EdD turned by program. EditKeeps. -/
import Derived.Test.YtllcipobiengiaaGreatZEkP
import Derived.Test.YtllcipobiengiaaGreatZFewP
import Derived.Test.YtllcipobiengiaaGreatZMake
namespace Go.Proofs.YtllcipobiengiaaGreat
open Go Go.RowKit

def ekEdges (n : Nat) : List EdgeM := (List.range (n - 1)).map fun j => (ekVid (j + 1), ekVid (j + 2))
def ekR (n : Nat) : List (Nat × Nat) := (List.range (n - 1)).map fun j => (j, j + 1)
theorem ek_edges {hv : List ByteArray} (hn : hv.length ≤ 30) : edgesM [ekPat hv] = ekEdges hv.length := by
  refine setS_eq edgeKey_hi ?_ fun e => ?_
  · unfold ekEdges Rises
    rw [List.pairwise_map]
    refine (List.pairwise_lt_range (n := hv.length - 1)).imp_of_mem ?_
    intro a b ha hb h
    have ha := List.mem_range.1 ha
    have hb := List.mem_range.1 hb
    unfold edgeKey
    rw [packEk (show a + 1 < 256 by omega), packEk (show a + 2 < 256 by omega), packEk (show b + 1 < 256 by omega), packEk (show b + 2 < 256 by omega)]
    generalize packPid ekId = q
    omega
  · rw [mem_edgesOf]
    unfold hasE
    rw [List.any_cons, List.any_nil, Bool.or_false, List.any_eq_true]
    unfold ekEdges
    rw [List.mem_map]
    constructor
    · rintro ⟨j, hj, rfl⟩
      exact ⟨edgeO j, List.mem_of_getElem? (ek_getE (List.mem_range.1 hj)), by simp [edgeO]⟩
    · rintro ⟨o, ho, h⟩
      simp only [Bool.and_eq_true, decide_eq_true_eq] at h
      rcases ek_mem ho with rfl | ⟨k, t, _, rfl⟩ | ⟨j, hj, rfl⟩
      · exact absurd h.1 (by decide)
      · exact absurd h.1 (by show ¬ (3 : UInt8) = 4; decide)
      · exact ⟨j, List.mem_range.2 hj, Prod.ext h.2.1 h.2.2⟩
theorem ek_steps {hv : List ByteArray} (hn : hv.length ≤ 30) : stepsM [ekPat hv] ekF = ekEdges hv.length := by
  unfold stepsM
  rw [ek_edges hn, List.filter_eq_self]
  intro e he
  unfold ekEdges at he
  obtain ⟨j, hj, rfl⟩ := List.mem_map.1 he
  have hj := List.mem_range.1 hj
  obtain ⟨t, ht⟩ : ∃ t, hv[j]? = some t := ⟨_, List.getElem?_eq_getElem (by omega)⟩
  unfold fileAt
  rw [ek_vertL hn ht]; rfl
theorem ekLines_nodup {hv : List ByteArray} (hn : hv.length ≤ 30) : ((ekLines hv).map (·.id)).Nodup := by
  unfold ekLines
  rw [List.map_map]
  unfold List.Nodup
  rw [List.pairwise_map]
  refine (List.pairwise_lt_range (n := hv.length)).imp_of_mem ?_
  intro a b ha hb h e
  have ha := List.mem_range.1 ha
  have hb := List.mem_range.1 hb
  have := ekVid_inj (by omega) (by omega) e
  omega
theorem ek_place {hv : List ByteArray} (hn : hv.length ≤ 30) {k : Nat} (hk : k < hv.length) : placeM (ekLines hv) (ekVid (k + 1)) = k := by
  obtain ⟨t, ht⟩ : ∃ t, hv[k]? = some t := ⟨_, List.getElem?_eq_getElem hk⟩
  exact place_at (ekLines_nodup hn) (ekLines_get ht)
theorem ek_rel {hv : List ByteArray} (hn : hv.length ≤ 30) (hl : ∀ t ∈ hv, lineOk t = true) : relM [ekPat hv] ekF = ekR hv.length := by
  unfold relM
  rw [ek_steps hn, ek_lines hn hl]
  unfold ekEdges ekR
  rw [List.map_map]
  refine List.map_congr_left fun j hj => ?_
  have hj := List.mem_range.1 hj
  show (placeM (ekLines hv) (ekVid (j + 1)), placeM (ekLines hv) (ekVid (j + 1 + 1))) = _
  rw [ek_place hn (by omega), ek_place hn (by omega)]
theorem ekR_up (n : Nat) : UpL (ekR n) := by
  intro s hs
  unfold ekR at hs
  obtain ⟨j, _, rfl⟩ := List.mem_map.1 hs
  show j < j + 1
  omega
theorem ek_alive (hv : List ByteArray) : aliveX (ekLines hv) (ekR hv.length) = List.range hv.length := by
  unfold aliveX
  rw [up_order (ekR_up _), ekLines_len, List.filter_eq_self]
  intro k hk
  have hk := List.mem_range.1 hk
  obtain ⟨t, ht⟩ : ∃ t, hv[k]? = some t := ⟨_, List.getElem?_eq_getElem hk⟩
  unfold aliveQL deadLine
  rw [ekLines_get ht]; rfl
theorem ek_firm (hv : List ByteArray) : firmX (ekLines hv) (ekR hv.length) = List.range hv.length := by
  unfold firmX
  rw [ek_alive, List.filter_eq_self]
  intro k hk
  have hk := List.mem_range.1 hk
  exact firmB_iff.2 ⟨by rw [ekLines_len]; exact hk, fun j _ hne ha => hne ((up_alike (ekR_up _)).1 ha).symm⟩
theorem ek_texts (hv : List ByteArray) : (List.range hv.length).map (textAt (ekLines hv)) = hv := by
  refine List.ext_getElem? fun k => ?_
  rw [List.getElem?_map]
  rcases Nat.lt_or_ge k hv.length with hk | hk
  · obtain ⟨t, ht⟩ : ∃ t, hv[k]? = some t := ⟨_, List.getElem?_eq_getElem hk⟩
    rw [List.getElem?_range hk, ht, Option.map_some, textAt_get (ekLines_get ht)]; rfl
  · rw [List.getElem?_eq_none hk, List.getElem?_eq_none (by simpa using hk)]; rfl
/-! ### the operations that are made of nothing -/
theorem ek_pairs0 (hv : List ByteArray) : pairs [] hv = [] := by
  unfold pairs
  exact pairsF_end (by simp)
theorem ek_order0 : orderM [] 0 = [] := up_order (L := []) (fun s h => absurd h (List.not_mem_nil)) 0
theorem ek_alive0 : aliveX [] [] = [] := by unfold aliveX; rw [show ([] : List VertM).length = 0 from rfl, ek_order0]; rfl
theorem ek_firm0 : firmX [] [] = [] := by unfold firmX; rw [ek_alive0]; rfl
theorem adds_none (l : List VertM) (file : VidM) (id : PidM) (from' : Nat) : ∀ (xs : List (Int × ByteArray)) (s : List OpM × List VidM), (∀ x ∈ xs, x.1 < 0) →
    xs.foldl (stepA l file id from') s = (s.1 ++ xs.map fun x => ⟨3, file, noVid, x.2⟩, s.2 ++ (List.range xs.length).map fun k => ⟨id, UInt8.ofNat (from' + (s.1.length + k))⟩)
  | [], s, _ => by simp
  | x :: xs, s, h => by
    have hx := h x (List.mem_cons_self ..)
    rw [List.foldl_cons, adds_none l file id from' xs _ fun y hy => h y (List.mem_cons_of_mem _ hy)]
    have e : stepA l file id from' s x = (s.1 ++ [⟨3, file, noVid, x.2⟩], s.2 ++ [⟨id, UInt8.ofNat (from' + s.1.length)⟩]) := by
      unfold stepA
      rw [if_neg (by omega)]
    rw [e]
    refine Prod.ext ?_ ?_
    · show (s.1 ++ [_]) ++ _ = s.1 ++ _
      rw [List.append_assoc]; rfl
    · show (s.2 ++ [_]) ++ _ = s.2 ++ (List.range (xs.length + 1)).map _
      rw [List.append_assoc, List.range_succ_eq_map, List.map_cons, List.map_map]
      congr 1
      rw [List.singleton_append]
      congr 1
      refine List.map_congr_left fun k _ => ?_
      show (⟨id, UInt8.ofNat (from' + ((s.1 ++ [_]).length + k))⟩ : VidM) = ⟨id, UInt8.ofNat (from' + (s.1.length + (k + 1)))⟩
      rw [List.length_append, show s.1.length + [(⟨3, file, noVid, x.2⟩ : OpM)].length + k = s.1.length + (k + 1) from by show s.1.length + 1 + k = _; omega]
theorem flat_tail {α : Type} (f : Nat → List α) (h0 : f 0 = []) (n : Nat) (g : Nat → α) (hf : ∀ j, j + 1 < n → f (j + 1) = [g j]) : (List.range n).flatMap f = (List.range (n - 1)).map g := by
  cases n with
  | zero => rfl
  | succ n =>
    rw [List.range_succ_eq_map, List.flatMap_cons, h0, List.nil_append, List.flatMap_map, Nat.add_sub_cancel]
    have : ∀ m, m ≤ n → (List.range m).flatMap (fun x => f (x + 1)) = (List.range m).map g := by
      intro m hm
      induction m with
      | zero => rfl
      | succ m ih => rw [List.range_succ, List.flatMap_append, List.map_append, ih (by omega)]; simp [hf m (by omega)]
    exact this n (Nat.le_refl _)
theorem getD_range_map {α : Type} (f : Nat → α) (n k : Nat) (d : α) (h : k < n) : ((List.range n).map f).getD k d = f k := by
  rw [List.getD_eq_getElem?_getD, List.getElem?_map, List.getElem?_range h]; rfl
theorem ek_edit0 (hv : List ByteArray) : editM [] [] (aliveX [] []) (firmX [] []) ekF ekId 1 hv (pairs ((firmX [] []).map (textAt [])) hv) = ekTail hv := by
  rw [ek_firm0, ek_alive0, List.map_nil, ek_pairs0]
  have hk : keptTo [] [] hv.length = List.replicate hv.length (-1) := rfl
  have hs : addsTo [] ekF ekId 1 (List.replicate hv.length (-1)) hv [] hv.length = (hv.map lineO, (List.range hv.length).map fun k => ekVid (k + 1)) := by
    unfold addsTo
    rw [List.take_of_length_le (by simp), adds_none]
    · rw [List.nil_append, List.nil_append]
      congr 1
      · refine List.ext_getElem? fun k => ?_
        rw [List.getElem?_map, List.getElem?_map]
        unfold List.zip
        rw [List.getElem?_zipWith, List.getElem?_replicate]
        cases ht : hv[k]? with
        | none =>
          have := List.getElem?_eq_none_iff.1 ht
          rw [if_neg (by omega)]; rfl
        | some t =>
          have := (List.getElem?_eq_some_iff.1 ht).1
          rw [if_pos this]; rfl
      · have hlen : ((List.replicate hv.length (-1 : Int)).zip hv).length = hv.length := by simp
        rw [hlen]
        refine List.map_congr_left fun k _ => ?_
        show (⟨ekId, UInt8.ofNat (1 + (0 + k))⟩ : VidM) = ⟨ekId, UInt8.ofNat (k + 1)⟩
        rw [show 1 + (0 + k) = k + 1 by omega]
    · intro x hx
      have := (List.of_mem_zip (a := x.1) (b := x.2) hx).1
      rw [List.mem_replicate] at this
      rw [this.2]; decide
  have hkk : killsE [] [] (List.replicate hv.length (-1)) = [] := rfl
  show (addsTo [] ekF ekId 1 (keptTo [] [] hv.length) hv (killsE [] [] (keptTo [] [] hv.length)) hv.length).1 ++ (List.range hv.length).flatMap (edgesE [] (keptTo [] [] hv.length) (addsTo [] ekF ekId 1 (keptTo [] [] hv.length) hv (killsE [] [] (keptTo [] [] hv.length)) hv.length).2) = _
  rw [hk, hkk, hs]
  unfold ekTail
  congr 1
  refine flat_tail _ (by unfold edgesE; rw [if_neg (by omega)]) _ edgeO fun j hj => ?_
  unfold edgesE
  have h1 : (List.replicate hv.length (-1 : Int)).getD (j + 1 - 1) 0 < 0 := by
    rw [List.getD_eq_getElem?_getD, List.getElem?_replicate, if_pos (by omega)]; decide
  rw [if_pos ⟨by omega, .inl h1⟩]
  show [(⟨4, _, _, _⟩ : OpM)] = [⟨4, _, _, _⟩]
  rw [getD_range_map _ _ _ _ (by omega), getD_range_map _ _ _ _ (by omega), Nat.add_sub_cancel]
end Go.Proofs.YtllcipobiengiaaGreat
namespace Go.Proofs.YtllcipobiengiaaGreat
open Go Go.RowKit

/-- how many operations of a kind there are -/
def kindsN (k : UInt8) (l : List OpM) : Nat := l.countP fun o => o.kind = k
theorem kindsN_append (k : UInt8) (l m : List OpM) : kindsN k (l ++ m) = kindsN k l + kindsN k m := List.countP_append
theorem kindsN_none {k : UInt8} {l : List OpM} (h : ∀ o ∈ l, o.kind ≠ k) : kindsN k l = 0 := List.countP_eq_zero.2 fun o ho => by simpa using h o ho
theorem kindsN_all {k : UInt8} {l : List OpM} (h : ∀ o ∈ l, o.kind = k) : kindsN k l = l.length := List.countP_eq_length.2 fun o ho => by simpa using h o ho
theorem adds_kinds (l : List VertM) (file : VidM) (id : PidM) (from' : Nat) : ∀ (xs : List (Int × ByteArray)) (s : List OpM × List VidM),
    kindsN 3 (xs.foldl (stepA l file id from') s).1 = kindsN 3 s.1 + xs.countP (fun x => x.1 < 0) ∧ kindsN 5 (xs.foldl (stepA l file id from') s).1 = kindsN 5 s.1
  | [], s => by simp
  | x :: xs, s => by
    obtain ⟨h1, h2⟩ := adds_kinds l file id from' xs (stepA l file id from' s x)
    rw [List.foldl_cons, h1, h2]
    unfold stepA
    by_cases hx : 0 ≤ x.1
    · rw [if_pos hx, List.countP_cons_of_neg (by simpa using hx)]
      exact ⟨rfl, rfl⟩
    · rw [if_neg hx, List.countP_cons_of_pos (by simpa using hx)]
      refine ⟨?_, ?_⟩
      · show kindsN 3 (s.1 ++ _) + _ = _
        rw [kindsN_append]
        show kindsN 3 s.1 + 1 + _ = _
        omega
      · show kindsN 5 (s.1 ++ _) = _
        rw [kindsN_append]; rfl
theorem zip_neg (kept : List Int) (want : List ByteArray) (h : kept.length = want.length) : ((kept.zip want).take want.length).countP (fun x => x.1 < 0) = kept.countP (fun x => x < 0) := by
  rw [List.take_of_length_le (by simp [h])]
  have : kept = (kept.zip want).map (·.1) := (List.map_fst_zip (by omega)).symm
  conv => rhs; rw [this, List.countP_map]
  rfl
theorem rises_fst {ps : List (Nat × Nat)} (h : ps.Pairwise fun p q => p.1 < q.1 ∧ p.2 < q.2) : Rises (fun x : Nat => x) (ps.map (·.1)) := by
  unfold Rises; rw [List.pairwise_map]; exact h.imp fun h => h.1
theorem rises_snd {ps : List (Nat × Nat)} (h : ps.Pairwise fun p q => p.1 < q.1 ∧ p.2 < q.2) : Rises (fun x : Nat => x) (ps.map (·.2)) := by
  unfold Rises; rw [List.pairwise_map]; exact h.imp fun h => h.2
/-- of some numbers below n that rise, the others are as many as are left -/
theorem left_over (n : Nat) (q : Nat → Bool) {xs : List Nat} (hr : Rises (fun x : Nat => x) xs) (hm : ∀ i, i ∈ xs ↔ i < n ∧ q i = true) : (List.range n).countP (fun i => !q i) + xs.length = n := by
  have h1 : (List.range n).filter q = xs := by
    refine rises_ext (key := fun x : Nat => x) ((List.pairwise_lt_range (n := n)).filter q) hr fun i => ?_
    rw [List.mem_filter, List.mem_range, hm]
  have h2 := List.length_eq_countP_add_countP q (l := List.range n)
  rw [List.countP_eq_length_filter (p := q), h1, List.length_range] at h2
  have h3 : (List.range n).countP (fun i => !q i) = (List.range n).countP (fun i => decide ¬q i = true) := by
    congr 1; funext i; cases q i <;> rfl
  omega
theorem edges_kind (R : List (Nat × Nat)) (kept : List Int) (at' : List VidM) (m : Nat) : ∀ o ∈ (List.range m).flatMap (edgesE R kept at'), o.kind = 4 := by
  intro o ho
  obtain ⟨j, _, hj⟩ := List.mem_flatMap.1 ho
  unfold edgesE at hj
  split at hj
  · rw [List.mem_singleton] at hj; rw [hj]
  · exact absurd hj (List.not_mem_nil)
def ekTo : PidM := ⟨2, 1⟩
noncomputable def ekGot (hv want : List ByteArray) : List OpM := editM (ekLines hv) (ekR hv.length) (aliveX (ekLines hv) (ekR hv.length)) (firmX (ekLines hv) (ekR hv.length)) ekF ekTo 0 want (pairs ((firmX (ekLines hv) (ekR hv.length)).map (textAt (ekLines hv))) want)
theorem ekGot_eq (hv want : List ByteArray) : ekGot hv want = editM (ekLines hv) (ekR hv.length) (List.range hv.length) (List.range hv.length) ekF ekTo 0 want (pairs hv want) := by
  unfold ekGot
  rw [ek_firm, ek_alive, ek_texts]
theorem ek_kept {hv want : List ByteArray} : (∀ p ∈ pairs hv want, (keptTo (List.range hv.length) (pairs hv want) want.length)[p.2]? = some (p.1 : Int)) ∧ ∀ j, j < want.length → (∀ p ∈ pairs hv want, p.2 ≠ j) → (keptTo (List.range hv.length) (pairs hv want) want.length)[j]? = some (-1) := by
  obtain ⟨h1, h2⟩ := kept_at (List.range hv.length) (pairs hv want) (List.replicate want.length (-1)) (pairs_up hv want) fun p hp => by rw [List.length_replicate]; exact (ePairs_in hp).2.1
  refine ⟨fun p hp => ?_, fun j hj hn => ?_⟩
  · have := h1 p hp
    rw [List.getD_eq_getElem?_getD, List.getElem?_range (ePairs_in hp).1] at this
    exact this
  · have := h2 j hn
    rw [List.getElem?_replicate, if_pos hj] at this
    exact this
theorem ek_kills (hv want : List ByteArray) : (killsE (ekLines hv) (List.range hv.length) (keptTo (List.range hv.length) (pairs hv want) want.length)).length + (pairs hv want).length = hv.length := by
  unfold killsE
  rw [List.length_map, ← List.countP_eq_length_filter]
  have h := left_over hv.length (fun i => (keptTo (List.range hv.length) (pairs hv want) want.length).contains (Int.ofNat i)) (rises_fst (pairs_up hv want)) fun i => by
    rw [kept_mem (by simp), List.mem_map]
    constructor
    · rintro ⟨p, hp, rfl⟩
      exact ⟨(ePairs_in hp).1, p, hp, List.getElem?_range (ePairs_in hp).1⟩
    · rintro ⟨hi, p, hp, h⟩
      rw [List.getElem?_range (ePairs_in hp).1] at h
      exact ⟨p, hp, Option.some.inj h⟩
  rw [List.length_map] at h
  exact h
theorem ek_made (hv want : List ByteArray) : (keptTo (List.range hv.length) (pairs hv want) want.length).countP (fun x => x < 0) + (pairs hv want).length = want.length := by
  have hlen := kept_length (List.range hv.length) (pairs hv want) want.length
  have hK := ek_kept (hv := hv) (want := want)
  generalize keptTo (List.range hv.length) (pairs hv want) want.length = kept at hlen hK ⊢
  have e : kept = (List.range want.length).map fun j => kept.getD j 0 := by
    refine List.ext_getElem? fun k => ?_
    rw [List.getElem?_map]
    rcases Nat.lt_or_ge k want.length with hk | hk
    · rw [List.getElem?_range hk, Option.map_some, List.getD_eq_getElem?_getD, List.getElem?_eq_getElem (by omega)]; rfl
    · rw [List.getElem?_eq_none (by omega), List.getElem?_eq_none (by simpa using hk)]; rfl
  have h := left_over want.length (fun j => decide (0 ≤ kept.getD j 0)) (rises_snd (pairs_up hv want)) fun j => by
    rw [List.mem_map, decide_eq_true_eq]
    constructor
    · rintro ⟨p, hp, rfl⟩
      refine ⟨(ePairs_in hp).2.1, ?_⟩
      rw [List.getD_eq_getElem?_getD, hK.1 p hp]
      show 0 ≤ (p.1 : Int)
      omega
    · rintro ⟨hj, h⟩
      rcases Classical.em (∃ p ∈ pairs hv want, p.2 = j) with h1 | h1
      · obtain ⟨p, hp, e⟩ := h1; exact ⟨p, hp, e⟩
      · rw [List.getD_eq_getElem?_getD, hK.2 j hj fun p hp e => h1 ⟨p, hp, e⟩] at h
        exact absurd h (by decide)
  rw [List.length_map] at h
  have h2 : kept.countP (fun x => x < 0) = (List.range want.length).countP fun i => !decide (0 ≤ kept.getD i 0) := by
    conv => lhs; rw [e, List.countP_map]
    congr 1
    funext i
    simp only [Function.comp]
    by_cases h0 : 0 ≤ kept.getD i 0
    · rw [decide_eq_true h0, decide_eq_false (by omega)]; rfl
    · rw [decide_eq_false h0, decide_eq_true (by omega)]; rfl
  omega
/-- what is killed, and what is made -/
theorem ek_counts (hv want : List ByteArray) : kindsN 5 (ekGot hv want) + (pairs hv want).length = hv.length ∧ kindsN 3 (ekGot hv want) + (pairs hv want).length = want.length := by
  rw [ekGot_eq]
  show kindsN 5 ((addsTo (ekLines hv) ekF ekTo 0 (keptTo (List.range hv.length) (pairs hv want) want.length) want (killsE (ekLines hv) (List.range hv.length) (keptTo (List.range hv.length) (pairs hv want) want.length)) want.length).1 ++ _) + _ = _ ∧
    kindsN 3 ((addsTo (ekLines hv) ekF ekTo 0 (keptTo (List.range hv.length) (pairs hv want) want.length) want (killsE (ekLines hv) (List.range hv.length) (keptTo (List.range hv.length) (pairs hv want) want.length)) want.length).1 ++ _) + _ = _
  have hcut : ∀ (k : UInt8) (A : List OpM) (R : List (Nat × Nat)) (kept : List Int) (at' : List VidM) (m : Nat), k ≠ 4 → kindsN k (A ++ (List.range m).flatMap (edgesE R kept at')) = kindsN k A := by
    intro k A R kept at' m hk
    rw [kindsN_append, kindsN_none (k := k) (l := (List.range m).flatMap (edgesE R kept at')) fun o ho => by rw [edges_kind R kept at' m o ho]; exact fun e => hk e.symm, Nat.add_zero]
  rw [hcut 5 _ _ _ _ _ (by decide), hcut 3 _ _ _ _ _ (by decide)]
  unfold addsTo
  obtain ⟨h3, h5⟩ := adds_kinds (ekLines hv) ekF ekTo 0 (((keptTo (List.range hv.length) (pairs hv want) want.length).zip want).take want.length) (killsE (ekLines hv) (List.range hv.length) (keptTo (List.range hv.length) (pairs hv want) want.length), [])
  have hk : ∀ o ∈ killsE (ekLines hv) (List.range hv.length) (keptTo (List.range hv.length) (pairs hv want) want.length), o.kind = 5 := by
    intro o ho
    unfold killsE at ho
    obtain ⟨i, _, rfl⟩ := List.mem_map.1 ho
    rfl
  rw [h3, h5]
  simp only
  rw [kindsN_all hk, kindsN_none (k := 3) (fun o ho => by rw [hk o ho]; decide), zip_neg _ _ (kept_length _ _ _)]
  have a := ek_kills hv want
  have b := ek_made hv want
  omega
theorem pairsF_self (a : List ByteArray) : ∀ f i, a.length ≤ f + i → i ≤ a.length → pairsF a a f i i = (List.range (a.length - i)).map fun k => (i + k, i + k)
  | 0, i, h, hi => by rw [pairsF_end (by omega), show a.length - i = 0 by omega]; rfl
  | f + 1, i, h, hi => by
    rcases Nat.lt_or_ge i a.length with h1 | h1
    · have hx : a[i]? = some a[i] := List.getElem?_eq_getElem h1
      rw [pairsF_eq hx hx rfl, pairsF_self a f (i + 1) (by omega) (by omega), show a.length - i = a.length - (i + 1) + 1 by omega, List.range_succ_eq_map, List.map_cons, List.map_map]
      congr 1
      refine List.map_congr_left fun k _ => ?_
      show (i + 1 + k, i + 1 + k) = (i + (k + 1), i + (k + 1))
      rw [show i + 1 + k = i + (k + 1) by omega]
    · rw [pairsF_end (by omega), show a.length - i = 0 by omega]; rfl
theorem pairs_self (a : List ByteArray) : pairs a a = (List.range a.length).map fun k => (k, k) := by
  unfold pairs
  rw [pairsF_self a _ 0 (by omega) (by omega)]
  refine List.map_congr_left fun k _ => ?_
  rw [Nat.zero_add]
theorem adds_noE (l : List VertM) (file : VidM) (id : PidM) (from' : Nat) : ∀ (xs : List (Int × ByteArray)) (s : List OpM × List VidM), (∀ x ∈ xs, 0 ≤ x.1) → (xs.foldl (stepA l file id from') s).1 = s.1
  | [], s, _ => rfl
  | x :: xs, s, h => by
    rw [List.foldl_cons, adds_noE l file id from' xs _ fun y hy => h y (List.mem_cons_of_mem _ hy)]
    unfold stepA
    rw [if_pos (h x (List.mem_cons_self ..))]
/-- where the texts are the same, nothing is to be done -/
theorem ek_same (hv : List ByteArray) : ekGot hv hv = [] := by
  rw [ekGot_eq]
  have hmem : ∀ j, j < hv.length → (j, j) ∈ pairs hv hv := fun j hj => by rw [pairs_self]; exact List.mem_map.2 ⟨j, List.mem_range.2 hj, rfl⟩
  have hk : ∀ j, j < hv.length → (keptTo (List.range hv.length) (pairs hv hv) hv.length)[j]? = some (j : Int) := fun j hj => (ek_kept (hv := hv) (want := hv)).1 _ (hmem j hj)
  have hlen := kept_length (List.range hv.length) (pairs hv hv) hv.length
  have hkills : killsE (ekLines hv) (List.range hv.length) (keptTo (List.range hv.length) (pairs hv hv) hv.length) = [] := by
    have := ek_kills hv hv
    rw [show (pairs hv hv).length = hv.length from by rw [pairs_self]; simp] at this
    exact List.length_eq_zero_iff.1 (by omega)
  show (addsTo (ekLines hv) ekF ekTo 0 (keptTo (List.range hv.length) (pairs hv hv) hv.length) hv (killsE (ekLines hv) (List.range hv.length) (keptTo (List.range hv.length) (pairs hv hv) hv.length)) hv.length).1 ++
    (List.range hv.length).flatMap (edgesE (ekR hv.length) (keptTo (List.range hv.length) (pairs hv hv) hv.length) _) = []
  rw [hkills]
  generalize keptTo (List.range hv.length) (pairs hv hv) hv.length = kept at hk hlen ⊢
  rw [List.append_eq_nil_iff]
  refine ⟨?_, ?_⟩
  · unfold addsTo
    rw [adds_noE]
    intro x hx
    have hx := List.mem_of_mem_take hx
    have := (List.of_mem_zip (a := x.1) (b := x.2) hx).1
    obtain ⟨j, hj⟩ := List.getElem?_of_mem this
    have h1 := (List.getElem?_eq_some_iff.1 hj).1
    rw [hk j (by omega)] at hj
    rw [← Option.some.inj hj]; omega
  · rw [List.flatMap_eq_nil_iff]
    intro j hj
    have hj := List.mem_range.1 hj
    unfold edgesE
    rw [if_neg]
    rintro ⟨h0, h⟩
    have e1 : kept.getD j 0 = (j : Int) := by rw [List.getD_eq_getElem?_getD, hk j hj]; rfl
    have e2 : kept.getD (j - 1) 0 = ((j - 1 : Nat) : Int) := by rw [List.getD_eq_getElem?_getD, hk (j - 1) (by omega)]; rfl
    rw [e1, e2] at h
    rcases h with h | h | h
    · omega
    · omega
    · refine h ((up_before (ekR_up _)).2 (.step ?_))
      unfold ekR
      refine List.mem_map.2 ⟨j - 1, List.mem_range.2 (by omega), ?_⟩
      show (j - 1, j - 1 + 1) = ((((j - 1 : Nat) : Int)).toNat, ((j : Nat) : Int).toNat)
      rw [Int.toNat_natCast, Int.toNat_natCast, show j - 1 + 1 = j by omega]
end Go.Proofs.YtllcipobiengiaaGreat
namespace Go.Proofs.YtllcipobiengiaaGreat
open Go Go.RowKit

def ShV (w : World) (s : Option Addr) (l : List VertM) (R : List (Nat × Nat)) : Prop := (∃ b, s = some ⟨b, 0, none⟩ ∧ ShAt w b l R) ∨ (s = none ∧ l = [] ∧ R = [])
theorem ShV.over {w w' : World} {s : Option Addr} {l : List VertM} {R : List (Nat × Nat)} (h : ShV w s l R) (hb : Below w.heap.size w w') : ShV w' s l R :=
  h.imp (fun ⟨b, e, h⟩ => ⟨b, e, h.over hb⟩) id
theorem orderN : orderM [] 0 = [] := up_order (L := []) (fun s h => absurd h (List.not_mem_nil)) 0
set_option maxRecDepth 100000 in
theorem sorderN_any (w : World) : Calls Tryz.prog 79 #[.pointer none] w fun e w' => e = .returned (.slice none 0 0) ∧ w' = w := by
  go_enter Tryz.func79, Tryz.ntmps79
  go_wp2_with fail
  go_ret
  exact ⟨rfl, rfl⟩
set_option maxRecDepth 100000 in
theorem idxN_any (f : Value) (w : World) : Calls Tryz.prog 124 #[.slice none 0 0, f] w fun e w' => e = .returned (.int .i64 (-1)) ∧ w' = w := by
  go_enter Tryz.func124, Tryz.ntmps124
  go_wp2_with fail
  go_loopw [8] (fun v8 wr => v8 = .int .i64 0 ∧ wr = w) (fun v8 _ => 0)
  case atStart => exact ⟨rfl, rfl⟩
  case round =>
    obtain ⟨rfl, hw⟩ := hrel
    obtain rfl := hw
    go_wp2_with fail
    go_ret
    exact ⟨rfl, rfl⟩
set_option maxRecDepth 100000 in
theorem delN_any (f : Value) (w : World) : Calls Tryz.prog 78 #[.slice none 0 0, f] w fun e w' => e = .returned (.slice none 0 0) ∧ w' = w := by
  go_enter Tryz.func78, Tryz.ntmps78
  go_wp2_with fail
  refine (idxN_any _ _).mono ?_
  rintro e w1 ⟨rfl, hw⟩
  obtain rfl := hw.symm
  go_wp2_with fail
  go_ret
  exact ⟨rfl, rfl⟩
set_option maxRecDepth 100000 in
theorem saliveN_any (w : World) : Calls Tryz.prog 34 #[.pointer none] w fun e w' => e = .returned (.slice none 0 0) ∧ Below w.heap.size w w' := by
  have HC := Lib.hid (arr_new w #[.pointer none] 44)
  have HB := Lib.hid (below_new (w := w) (.cells #[.pointer none] 44))
  go_enter Tryz.func34, Tryz.ntmps34
  go_upto_region 1 with (fail)
  generalize hw0 : w.alloc (.cells #[.pointer none] 44) = w0 at *
  clear hw0
  have c0 := HC.out.cell (j := 0) rfl
  have sc := HC.out.lt
  go_wp2_with fail
  refine (sorderN_any _).mono ?_
  rintro e w1 ⟨rfl, hw⟩
  obtain rfl := hw.symm
  go_wp2_with fail
  refine (delN_any _ _).mono ?_
  rintro e w1 ⟨rfl, hw⟩
  obtain rfl := hw.symm
  go_wp2_with fail
  go_ret
  exact ⟨rfl, HB.out⟩
theorem saliveV_any (s : Option Addr) (l : List VertM) (R : List (Nat × Nat)) (w : World) (h : ShV w s l R) (hl : l.length ≤ 65536) : Calls Tryz.prog 34 #[.pointer s] w (SaRes w l R) := by
  rcases h with ⟨b, rfl, h⟩ | ⟨rfl, rfl, rfl⟩
  · exact salive_any b l R w h hl
  · refine (saliveN_any w).mono ?_
    rintro e w' ⟨rfl, hb⟩
    refine ⟨_, rfl, ?_, hb⟩
    rw [show ([] : List VertM).length = 0 from rfl, orderN]
    exact gown_nil _ _
theorem sfirmV_any (s : Option Addr) (i : Nat) (l : List VertM) (R : List (Nat × Nat)) (w : World) (h : ShV w s l R) (hi : i < l.length) (hl : l.length ≤ 65536) : Calls Tryz.prog 133 #[.pointer s, .int .i64 (i : Int)] w (fun e w' => e = .returned (.bool (firmB R l.length i)) ∧ w' = w) := by
  rcases h with ⟨b, rfl, h⟩ | ⟨rfl, rfl, rfl⟩
  · exact sfirm_any b i l R w h hi hl
  · exact absurd hi (by simp)
theorem svertV_any (s : Option Addr) (i : Nat) (x : VertM) (l : List VertM) (R : List (Nat × Nat)) (w : World) (h : ShV w s l R) (hx : l[i]? = some x) : Calls Tryz.prog 35 #[.pointer s, .int .i64 (i : Int)] w (SvRes w x) := by
  rcases h with ⟨b, rfl, h⟩ | ⟨rfl, rfl, rfl⟩
  · exact svert_any b i x l R w h hx
  · simp at hx
theorem srelV_any (s : Option Addr) (l : List VertM) (R : List (Nat × Nat)) (w : World) (h : ShV w s l R) (hl : 0 < l.length) : Calls Tryz.prog 43 #[.pointer s] w (fun e w' => (∃ r, e = .returned (.pointer (some ⟨r, 0, none⟩)) ∧ RelAt w r l.length R) ∧ w' = w) := by
  rcases h with ⟨b, rfl, h⟩ | ⟨rfl, rfl, rfl⟩
  · exact srel_any b l R w h
  · exact absurd hl (by simp)
end Go.Proofs.YtllcipobiengiaaGreat
namespace Go.Proofs.YtllcipobiengiaaGreat
open Go Go.RowKit

section
attribute [local irreducible] aliveX firmX firmTo firmB
set_option maxHeartbeats 8000000 in
set_option maxRecDepth 100000 in
theorem efirmV_any (s : Option Addr) (l : List VertM) (R : List (Nat × Nat)) (w : World) (h : ShV w s l R) (hl : l.length ≤ 65536) : Calls Tryz.prog 85 #[.pointer s] w (OwnRes encI 1 3 w (firmX l R)) := by
  have HS := Lib.hid h
  have hal := aliveX_len l R
  clear h
  go_enter Tryz.func85, Tryz.ntmps85
  go_wp2_with fail
  refine (saliveV_any s l R _ HS.out hl).mono ?_
  rw [sares_is]
  rintro e w1 ⟨v, rfl, ho, hb⟩
  obtain ⟨a, cap, rfl, h1, h2, hc⟩ := irow_at ho.row
  unfold maxLen at h2
  have HC := Lib.hid hc
  have HB := Lib.hid hb
  clear ho hc hb
  go_wp2_with fail
  go_loopw [3, 9] (fun v3 v9 wr => FmRel w1 l R v3 v9 wr) (fun _ v9 _ => (aliveX l R).length - (intOf v9).toNat)
  case atStart => exact ⟨0, by omega, rfl, Lib.hid (by rw [firmTo_zero]; exact gown_nil _ _), Below.refl _ _⟩
  case round =>
    obtain ⟨k, hk, rfl, HM, hbl⟩ := hrel
    rename World => wr
    by_cases hlt : k < (aliveX l R).length
    · obtain ⟨b, off, rfl, sb, hcb⟩ := HC.out.resolve_left (by omega)
      obtain ⟨i, hi⟩ := get_of_lt hlt
      obtain ⟨sx, x0⟩ := hcb k i hi _ hbl.out
      have hil := aliveX_lt (List.mem_of_getElem? hi)
      have HI := Lib.hid hi
      have HSr := Lib.hid (HS.out.over (below_over HB.out HB.out.size hbl.out))
      have hfl := firmTo_len l R k
      clear hcb hi
      cases hf : firmB R l.length i with
      | true =>
        have HV := Lib.hid hf
        have HN := Lib.hid (firmTo_yes HI.out hf)
        have hN : (firmTo l R k).length + 1 ≤ 1099511627776 := by omega
        have hB := hbl.out.size
        clear hf
        go_wp2_with fail
        refine (sfirmV_any s i l R _ HSr.out hil hl).mono ?_
        rintro e w2 ⟨rfl, hw⟩
        obtain rfl := hw.symm
        rw [HV.out]
        go_wp2_with (at_builtin; (first | refine wpList_append_newD slIntI rfl _ _ rfl w1.heap.size _ _ (drawn_alloc_drewN _ _ _) 1 _ _ _ HM.out rfl rfl rfl rfl hN (by decide) hB ?_ | refine wpList_append_newD slIntI rfl _ _ rfl w1.heap.size _ _ (drawn_drew _) 1 _ _ _ HM.out rfl rfl rfl rfl hN (by decide) hB ?_ | refine wpList_append_newD slIntI rfl _ _ rfl w1.heap.size _ _ (drawn_drewN _ _) 1 _ _ _ HM.out rfl rfl rfl rfl hN (by decide) hB ?_ | refine wpList_append_newD slIntI rfl _ _ rfl w1.heap.size _ _ (drawn_refl _) 1 _ _ _ HM.out rfl rfl rfl rfl hN (by decide) hB ?_); intro v9 w9 ho9 hg9)
        go_roundw
        case rel => exact ⟨k + 1, hlt, by go_num, (by show GOwn _ _ _ _ _ _ _; rw [HN.out]; exact GOwn.snoc ho9), below_grown hbl.out hB HM.out hg9⟩
        case measure => simp [intOf]; omega
      | false =>
        have HV := Lib.hid hf
        have HN := Lib.hid (firmTo_no HI.out hf)
        clear hf
        go_wp2_with fail
        refine (sfirmV_any s i l R _ HSr.out hil hl).mono ?_
        rintro e w2 ⟨rfl, hw⟩
        obtain rfl := hw.symm
        rw [HV.out]
        go_wp2_with fail
        go_roundw
        case rel => exact ⟨k + 1, hlt, by go_num, (by show GOwn _ _ _ _ _ _ _; rw [HN.out]; exact HM.out), hbl⟩
        case measure => simp [intOf]; omega
    · obtain rfl : k = (aliveX l R).length := by omega
      have HE := HM.out
      rw [firmTo_all] at HE
      have HE2 := Lib.hid (HE.base HB.out.size)
      clear HE
      go_wp2_with fail
      go_ret
      exact ⟨_, rfl, HE2.out, below_over HB.out HB.out.size hbl.out⟩

end
section
attribute [local irreducible] textAt textsTo
set_option maxHeartbeats 8000000 in
set_option maxRecDepth 100000 in
theorem etextsV_any (s : Option Addr) (v : Value) (l : List VertM) (R : List (Nat × Nat)) (is' : List Nat) (w : World) (h : ShV w s l R) (hv : GRow encI 1 w v is') (hi : ∀ i ∈ is', i < l.length) (hn : is'.length ≤ 1000000) :
    Calls Tryz.prog 87 #[.pointer s, v] w (OwnRes encS1 1 9 w (is'.map (textAt l))) := by
  have HS := Lib.hid h
  have HI := Lib.hid hi
  obtain ⟨a, cap, rfl, h1, h2, hc⟩ := irow_at hv
  unfold maxLen at h2
  have HC := Lib.hid hc
  clear h hv hi hc
  go_enter Tryz.func87, Tryz.ntmps87
  go_wp2_with fail
  go_loopw [5, 12] (fun v5 v12 wr => TxRel w l is' v5 v12 wr) (fun _ v12 _ => is'.length - (intOf v12).toNat)
  case atStart => exact ⟨0, by omega, rfl, Lib.hid (by rw [textsTo_zero]; exact gown_nil _ _), Below.refl _ _⟩
  case round =>
    obtain ⟨k, hk, rfl, HM, hbl⟩ := hrel
    rename World => wr
    by_cases hlt : k < is'.length
    · obtain ⟨b, off, rfl, sb, hcb⟩ := HC.out.resolve_left (by omega)
      obtain ⟨i, hiu⟩ := get_of_lt hlt
      obtain ⟨sx, x0⟩ := hcb k i hiu _ hbl.out
      obtain ⟨x, hx⟩ := get_of_lt (HI.out i (List.mem_of_getElem? hiu))
      have HX := Lib.hid hx
      have HSu := Lib.hid (textsTo_succ (l := l) hiu)
      rw [textAt_get hx] at HSu
      have hfl := textsTo_len l is' k
      have hN : (textsTo l is' k).length + 1 ≤ 1099511627776 := by omega
      clear hcb hiu hx
      go_wp2_with fail
      refine (svertV_any s i x l R _ (HS.out.over hbl.out) HX.out).mono ?_
      rintro e w2 ⟨rfl, hb2⟩
      have HB2 := Lib.hid (below_over hbl.out hbl.out.size hb2)
      have HM2 := Lib.hid (HM.out.over hb2)
      clear hb2 x0 sx
      go_upto_region 6 with (fail)
      have HA3 := Lib.hid (arr_new w2 #[.int .u8 (x.id.pid.author.toNat : Int), .int .u16 (x.id.pid.seq.toNat : Int), .int .u8 (x.id.n.toNat : Int), .int .u8 (x.kind.toNat : Int), .int .u8 (x.file.pid.author.toNat : Int), .int .u16 (x.file.pid.seq.toNat : Int), .int .u8 (x.file.n.toNat : Int), .string x.text, .bool x.dead] 88)
      have HB3a := Lib.hid (below_new (w := w2) (.cells #[.int .u8 (x.id.pid.author.toNat : Int), .int .u16 (x.id.pid.seq.toNat : Int), .int .u8 (x.id.n.toNat : Int), .int .u8 (x.kind.toNat : Int), .int .u8 (x.file.pid.author.toNat : Int), .int .u16 (x.file.pid.seq.toNat : Int), .int .u8 (x.file.n.toNat : Int), .string x.text, .bool x.dead] 88))
      generalize hw3 : w2.alloc (.cells #[.int .u8 (x.id.pid.author.toNat : Int), .int .u16 (x.id.pid.seq.toNat : Int), .int .u8 (x.id.n.toNat : Int), .int .u8 (x.kind.toNat : Int), .int .u8 (x.file.pid.author.toNat : Int), .int .u16 (x.file.pid.seq.toNat : Int), .int .u8 (x.file.n.toNat : Int), .string x.text, .bool x.dead] 88) = w3 at *
      clear hw3
      have HB3 := Lib.hid (below_over HB2.out HB2.out.size HB3a.out)
      have HM3 := Lib.hid (HM2.out.over HB3a.out)
      have hB3 := HB3.out.size
      have y0 := HA3.out.cell (j := 0) rfl
      have y1 := HA3.out.cell (j := 1) rfl
      have y2 := HA3.out.cell (j := 2) rfl
      have y3 := HA3.out.cell (j := 3) rfl
      have y4 := HA3.out.cell (j := 4) rfl
      have y5 := HA3.out.cell (j := 5) rfl
      have y6 := HA3.out.cell (j := 6) rfl
      have y7 := HA3.out.cell (j := 7) rfl
      have y8 := HA3.out.cell (j := 8) rfl
      have sy := HA3.out.lt
      go_wp2_with (at_builtin; (first | refine wpList_append_newD slStrE rfl _ _ rfl w.heap.size _ _ (drawn_alloc_drewN _ _ _) 1 _ _ _ HM3.out rfl rfl rfl rfl hN (by decide) hB3 ?_ | refine wpList_append_newD slStrE rfl _ _ rfl w.heap.size _ _ (drawn_drew _) 1 _ _ _ HM3.out rfl rfl rfl rfl hN (by decide) hB3 ?_ | refine wpList_append_newD slStrE rfl _ _ rfl w.heap.size _ _ (drawn_drewN _ _) 1 _ _ _ HM3.out rfl rfl rfl rfl hN (by decide) hB3 ?_ | refine wpList_append_newD slStrE rfl _ _ rfl w.heap.size _ _ (drawn_refl _) 1 _ _ _ HM3.out rfl rfl rfl rfl hN (by decide) hB3 ?_); intro v9 w9 ho9 hg9)
      go_roundw
      case rel => exact ⟨k + 1, hlt, by go_num, (by show GOwn _ _ _ _ _ _ _; rw [HSu.out]; exact GOwn.snoc ho9), below_grown HB3.out hB3 HM3.out hg9⟩
      case measure => simp [intOf]; omega
    · obtain rfl : k = is'.length := by omega
      have HE := HM.out
      rw [textsTo_all] at HE
      have HE2 := Lib.hid HE
      clear HE
      go_wp2_with fail
      go_ret
      exact ⟨_, rfl, HE2.out, hbl.out⟩
end
section
attribute [local irreducible] keptV1 minus keptTo textAt firmX
set_option maxHeartbeats 8000000 in
set_option maxRecDepth 100000 in
theorem ekeepsV_any (s : Option Addr) (wv : Value) (l : List VertM) (R : List (Nat × Nat)) (want : List ByteArray) (w : World) (h : ShV w s l R) (hl : l.length ≤ 1000) (hw : SRow w wv want) (hm : want.length ≤ 1000) :
    Calls Tryz.prog 41 #[.pointer s, wv] w (KpRes w (keptTo (firmX l R) (pairs ((firmX l R).map (textAt l)) want) want.length)) := by
  have HS := Lib.hid h
  have HW := Lib.hid hw
  obtain ⟨m, hmm⟩ : ∃ m, m = want.length := ⟨_, rfl⟩
  obtain ⟨a, cap, rfl, h1, h2, _⟩ := SRow.form hw
  unfold maxLen at h2
  rw [← hmm] at HW h1 hm ⊢
  have HM := Lib.hid hmm
  have HZ := Lib.hid (minus_zero m)
  have hq : 8 * m ≤ 281474976710656 := by omega
  have hmx : m ≤ maxLen := by unfold maxLen; omega
  have hfl := firmX_len l R
  clear h hw hmm
  go_enter Tryz.func41, Tryz.ntmps41
  go_upto_region 2 with (at_make; refine wpList_make_zeros slzIntE rfl _ _ rfl w.heap.size m _ rfl rfl rfl hq hmx (Nat.le_refl _) ?_; intro w1 ho1 hg1)
  have HB1 := Lib.hid (grown_over' hg1 (fun g hg => by cases hg))
  obtain ⟨hA, _⟩ := own_full ho1
  obtain ⟨g, hg⟩ : ∃ g, g = w.heap.size := ⟨_, rfl⟩
  rw [← hg] at hA ⊢
  rw [← HZ.out] at hA
  have HA := Lib.hid hA
  have hgl : w.heap.size ≤ g := by omega
  clear hA ho1 hg1 hg
  go_wp2_with fail
  go_loopw [15] (fun v15 wr => K1Rel w g m v15 wr) (fun v15 _ => m - (intOf v15).toNat)
  case atStart => exact ⟨0, by omega, rfl, HA, HB1⟩
  case round =>
    obtain ⟨j, hj, rfl, HA2, HB2⟩ := hrel
    rename World => wr
    have sg := HA2.out.arr.lt
    have HL2 := Lib.hid (minus_len j m)
    by_cases hlt : j < m
    · have c0 := HA2.out.arr.cell (keptV1_get (minus_get (j := j) hlt))
      have f0 := HA2.out.arr.free j
      have HA3 := Lib.hid (HA2.out.set j (.int .i64 (-1)))
      rw [keptV1_set, minus_set hlt] at HA3
      have HB3 := Lib.hid (HB2.out.setCell (p := ⟨g, j, none⟩) hgl (.int .i64 (-1)))
      go_wp2_with fail
      go_roundw
      case rel => exact ⟨j + 1, hlt, by go_num, HA3, HB3⟩
      case measure => simp [intOf]; omega
    · obtain rfl : m = j := by omega
      have HS3 := Lib.hid (HS.out.over HB2.out)
      have sg0 := sg
      clear sg
      go_wp2_with fail
      refine (efirmV_any s l R _ HS3.out (by omega)).mono ?_
      rintro e w3 ⟨fv, rfl, ho3, hb3⟩
      obtain ⟨a3, c3, rfl, z1, z2, hcf⟩ := irow_at ho3.row
      unfold maxLen at z2
      have HFR := Lib.hid ho3.row
      have HFO := Lib.hid ho3
      have hgB := sg0
      have HCF := Lib.hid hcf
      have HB3 := Lib.hid (below_over HB2.out HB2.out.size hb3)
      have HA3 := Lib.hid (HA2.out.over hb3)
      clear ho3 hcf hb3
      go_wp2_with fail
      refine (etextsV_any s _ l R (firmX l R) _ (HS.out.over HB3.out) HFR.out (fun i hi => firmX_lt hi) (by omega)).mono ?_
      rintro e w4 ⟨tv, rfl, ho4, hb4⟩
      have HT4 := Lib.hid (srow_of ho4.row)
      have HB4 := Lib.hid (below_over HB3.out HB3.out.size hb4)
      have HA4 := Lib.hid (HA3.out.over hb4)
      have HB34 := Lib.hid hb4
      clear ho4 hb4
      go_wp2_with fail
      refine (match_any _ _ ((firmX l R).map (textAt l)) want _ HT4.out (by (have := (HW.out.over HB4.out); exact this)) (by rw [texts_len]; omega) (by rw [← HM.out]; exact hm)).mono ?_
      rintro e w5 ⟨mv, Bm, rfl, ho5, hB1, hB2, hb5⟩
      have HPI : Hid (∀ p ∈ pairs ((firmX l R).map (textAt l)) want, p.1 < (firmX l R).length ∧ p.2 < m) := fun p hp => by
        obtain ⟨q1, q2, _⟩ := ePairs_in hp
        rw [texts_len] at q1
        exact ⟨q1, by rw [HM.out]; exact q2⟩
      obtain ⟨ps, hps⟩ : ∃ ps, ps = pairs ((firmX l R).map (textAt l)) want := ⟨_, rfl⟩
      rw [← hps] at ho5 HPI ⊢
      have HO5 := Lib.hid (show GOwn encP 2 114 w5 Bm mv ps from ho5)
      have HB5 := Lib.hid (below_over HB4.out HB4.out.size hb5)
      have HA5 := Lib.hid (HA4.out.over hb5)
      have HFO5 := Lib.hid ((HFO.out.over HB34.out).over hb5)
      obtain ⟨a5, c5, rfl, y1, y2, _⟩ := prow_at HO5.out.row
      unfold maxLen at y2
      have HPS := Lib.hid hps
      clear ho5 hb5 hps hB1 hB2
      go_wp2_with fail
      go_loopw [30] (fun v30 wq => K2Rel w w5 g m (firmX l R) ps v30 wq) (fun v30 _ => ps.length - (intOf v30).toNat)
      case atStart => exact ⟨0, by omega, rfl, Lib.hid (by rw [← kp_zero]; exact HA5.out), World.grownBy.refl _ _, HB5⟩
      case round =>
        obtain ⟨k, hk, rfl, HA6, HG6, HB6⟩ := hrel
        rename World => wq
        have HO6 := Lib.hid (own_kept HO5.out HG6.out (HA5.out.ne HO5.out (by decide)))
        have HFO6 := Lib.hid (own_kept HFO5.out HG6.out (fun e => by have := gown_low HFO5.out e.symm; omega))
        by_cases hlt : k < ps.length
        · obtain ⟨a7, c7, e7, _, _, hc7⟩ := prow_at HO6.out.row
          cases e7
          obtain ⟨b7, off7, rfl, sb7, hcb7⟩ := hc7.resolve_left (by omega)
          obtain ⟨p, hp⟩ := get_of_lt hlt
          obtain ⟨hp1, hp2⟩ := HPI.out p (List.mem_of_getElem? hp)
          have HP := Lib.hid (kept_succ (firm := firmX l R) (m := m) hp)
          obtain ⟨sx, x0, x1⟩ := hcb7 k p hp _ (Below.refl _ _)
          obtain ⟨ip, jp⟩ := p
          simp only at hp1 hp2 x0 x1
          obtain ⟨fi, hfi⟩ := get_of_lt hp1
          have HFI := Lib.hid hfi
          clear hcb7 hp
          go_upto_region 11 with (fail)
          have HA8 := Lib.hid (arr_new wq #[.int .i64 (ip : Int), .int .i64 (jp : Int)] 114)
          have HB8a := Lib.hid (below_new (w := wq) (.cells #[.int .i64 (ip : Int), .int .i64 (jp : Int)] 114))
          generalize hw8 : wq.alloc (.cells #[.int .i64 (ip : Int), .int .i64 (jp : Int)] 114) = w8 at *
          clear hw8 x0 x1 sx
          have HAg := Lib.hid (HA6.out.over HB8a.out)
          have HFO8 := Lib.hid (HFO6.out.over HB8a.out)
          have HB8 := Lib.hid (below_over HB6.out HB6.out.size HB8a.out)
          have HG8 := Lib.hid (grown_trans HG6.out (grown_of_below HB8a.out (row := some g)))
          obtain ⟨af, cf, ef, _, _, hcf2⟩ := irow_at HFO8.out.row
          cases ef
          obtain ⟨bf, offf, rfl, sbf, hcbf⟩ := hcf2.resolve_left (by omega)
          obtain ⟨sf, f0⟩ := hcbf ip fi hfi _ (Below.refl _ _)
          have p0 := HA8.out.cell (j := 0) rfl
          have p1 := HA8.out.cell (j := 1) rfl
          have sp := HA8.out.lt
          have hkl := kept_length (firmX l R) (ps.take k) m
          obtain ⟨y, hy⟩ := get_of_lt (xs := keptTo (firmX l R) (ps.take k) m) (i := jp) (by rw [hkl]; exact hp2)
          have g0 := HAg.out.arr.cell (keptV1_get hy)
          have gf := HAg.out.arr.free jp
          have sg := HAg.out.arr.lt
          have HN := Lib.hid (HAg.out.set jp (.int .i64 (fi : Int)))
          rw [keptV1_set, show ((fi : Nat) : Int) = (((firmX l R).getD (ip, jp).1 0 : Nat) : Int) by rw [getD_of hfi]] at HN
          rw [← HP.out] at HN
          have HBn := Lib.hid (HB8.out.setCell (p := ⟨g, jp, none⟩) hgl (.int .i64 (fi : Int)))
          have HGn := Lib.hid (grown_trans HG8.out (grown_setCell (g := g) w8 jp (.int .i64 (fi : Int))))
          have HEq : Hid ((((firmX l R).getD (ip, jp).1 0 : Nat) : Int) = (fi : Int)) := by show _ = _; rw [getD_of hfi]
          rw [HEq.out] at HN
          clear hcbf hfi hy hkl hcf2
          go_wp2_with fail
          have hcur : Below w8.heap.size w8 w8.drew := (Below.refl _ _).drew
          refine wp_region_lex (C := IsOver w8) 9 [] (by kernel_rfl) (by kernel_rfl) (isOver_of (by repeat (first | exact Below.refl _ _ | apply Below.drew | apply below_drewN | (refine Below.alloc ?_ (by simp) _)))) ?_
          simp only [List.take_succ_cons, List.take_zero, List.drop_succ_cons, List.drop_zero]
          repeat (first | (refine lex_skip rfl rfl ?_; simp only [Act.put, List.setIfInBounds_toArray, List.set_cons_succ, List.set_cons_zero]) | (refine lex_one rfl ?_; go_big_quiet_step (fail); refine wpQuiet_nil ?_) | (refine lex_loud rfl ?_; go_wp2_with (first | (fail)); refine ⟨isOver_of hcur, ?_⟩))
          refine lex_end ?_
          clear hcur
          go_wp2_with fail
          go_roundw
          case rel => exact ⟨k + 1, hlt, by go_num, Lib.hid (HN.out.over (Below.refl _ _).drew), Lib.hid (grown_trans HGn.out (grown_of_below (Below.refl _ _).drew)), Lib.hid HBn.out.drew⟩
          case measure => simp [intOf]; omega
        · obtain rfl : k = ps.length := by omega
          have HE := HA6.out
          rw [List.take_length] at HE
          have HE2 := Lib.hid HE
          have HKL := Lib.hid (kept_length (firmX l R) ps m)
          clear HE
          go_wp2_with fail
          go_ret
          refine ⟨g, ?_, hgl, (by rw [← HPS.out]; exact HE2.out), HB6.out⟩
          rw [← HPS.out, HKL.out]; rfl
end
section
attribute [local irreducible] hereF killsE keptV1 aliveX killV5
set_option maxHeartbeats 8000000 in
set_option maxRecDepth 100000 in
theorem ekillsV_any (s : Option Addr) (g : Nat) (l : List VertM) (R : List (Nat × Nat)) (ks : List Int) (w : World) (h : ShV w s l R) (hl : l.length ≤ 1000) (hk : ArrT w g 3 (keptV1 ks)) (hok : ∀ x ∈ ks, okInt x) (hkl : ks.length ≤ 1000) :
    Calls Tryz.prog 42 #[.pointer s, .slice (some ⟨g, 0, none⟩) ks.length ks.length] w (OwnRes encOp 8 58 w (killsE l (aliveX l R) ks)) := by
  have hmm := @run_makeMap Tryz.prog
  have HS := Lib.hid h
  have HK := Lib.hid hk
  have HOK := Lib.hid hok
  have hal := aliveX_len l R
  have HT0 := Lib.hid (show TMap Tryz.prog 3 numV okInt numV (w.alloc (.map #[] 0)) w.heap.size 0 (hereF ks 0) by rw [hereF_zero]; exact TMap.made w)
  have HB0 := Lib.hid (below_new (w := w) (.map #[] 0))
  clear h hk hok
  go_enter Tryz.func42, Tryz.ntmps42
  go_upto_region 2 with (fail)
  clear hmm
  obtain ⟨m, hm⟩ : ∃ m, m = w.heap.size := ⟨_, rfl⟩
  rw [← hm]
  have HT1 := HT0.out
  have hml : w.heap.size ≤ m := by omega
  rw [← hm] at HT1
  have HT := Lib.hid HT1
  generalize hw0 : w.alloc (.map #[] 0) = w0 at *
  clear hw0 hm HT1 HT0
  go_wp2_with fail
  go_loopw [16] (fun v16 wr => I1Rel w m ks v16 wr) (fun v16 _ => ks.length - (intOf v16).toNat)
  case atStart => exact ⟨0, 0, by omega, by omega, rfl, HT, HB0⟩
  case round =>
    obtain ⟨k, N, hk, hN, rfl, HM, HB⟩ := hrel
    rename World => wr
    have HKr := Lib.hid (HK.out.over HB.out)
    have sg := HKr.out.arr.lt
    by_cases hlt : k < ks.length
    · obtain ⟨x, hx⟩ := get_of_lt hlt
      have c0 := HKr.out.arr.cell (keptV1_get hx)
      have HO := Lib.hid (HOK.out x (List.mem_of_getElem? hx))
      have HSu := Lib.hid (hereF_succ hx)
      clear hx
      go_wp2_with (refine wpList_tstore keysInt numV_inj rfl _ _ _ _ rfl Tryz.underlying158 m N (hereF ks k) rfl HM.out (by unfold maxLen; omega) x rfl HO.out 1 rfl ?_; intro w10 hm10 hg10 hs10; clear hs10)
      rw [HSu.out] at hm10
      have HM2 := Lib.hid hm10
      have HBn := Lib.hid (HB.out.grown hg10 HB.out.size fun q hq => by cases hq; exact hml)
      go_roundw
      case rel => exact ⟨k + 1, N + 1, hlt, by omega, by go_num, HM2, HBn⟩
      case measure => simp [intOf]; omega
    · obtain rfl : k = ks.length := by omega
      clear sg
      go_wp2_with fail
      refine (saliveV_any s l R _ (HS.out.over HB.out) (by omega)).mono ?_
      rw [sares_is]
      rintro e w1 ⟨v, rfl, ho, hb⟩
      obtain ⟨a, cap, rfl, h1, h2, hc⟩ := irow_at ho.row
      unfold maxLen at h2
      have HC := Lib.hid hc
      have HB1 := Lib.hid (below_over HB.out HB.out.size hb)
      have HM1 := Lib.hid (HM.out.over hb)
      have HAL : Hid (∀ i ∈ aliveX l R, i < l.length) := fun i hi => aliveX_lt hi
      clear ho hc hb
      generalize aliveX l R = al at *
      go_wp2_with fail
      go_loopw [8, 26] (fun v8 v26 wq => I2Rel w1 l al ks v8 v26 wq) (fun _ v26 _ => al.length - (intOf v26).toNat)
      case atStart => exact ⟨0, by omega, rfl, Lib.hid (by rw [kills_zero]; exact gown_nil _ _), Below.refl _ _⟩
      case round =>
        obtain ⟨q, hq, rfl, HO, hbl⟩ := hrel
        rename World => wq
        have hkl2 := kills_len l ks (al.take q)
        have hkl3 : (al.take q).length ≤ al.length := by rw [List.length_take]; omega
        by_cases hlt : q < al.length
        · obtain ⟨b, off, rfl, sb, hcb⟩ := HC.out.resolve_left (by omega)
          obtain ⟨i, hi⟩ := get_of_lt hlt
          obtain ⟨sx, x0⟩ := hcb q i hi _ hbl.out
          obtain ⟨x, hx⟩ := get_of_lt (HAL.out i (List.mem_of_getElem? hi))
          have HX := Lib.hid hx
          have HI := Lib.hid hi
          have HKV := Lib.hid (killV5_at hx)
          have hil := (List.getElem?_eq_some_iff.1 hx).1
          have HOi := Lib.hid (ok_int (i := i) (by omega))
          clear hcb hi hx
          go_wp2_with fail
          refine (svertV_any s i x l R _ (HS.out.over (below_over HB1.out HB1.out.size hbl.out)) HX.out).mono ?_
          rintro e w2 ⟨rfl, hb2⟩
          have HB2 := Lib.hid (below_over hbl.out hbl.out.size hb2)
          have HO2 := Lib.hid (HO.out.over hb2)
          clear hb2 x0 sx
          go_upto_region 12 with (fail)
          have HA3 := Lib.hid (arr_new w2 #[.int .u8 (x.id.pid.author.toNat : Int), .int .u16 (x.id.pid.seq.toNat : Int), .int .u8 (x.id.n.toNat : Int), .int .u8 (x.kind.toNat : Int), .int .u8 (x.file.pid.author.toNat : Int), .int .u16 (x.file.pid.seq.toNat : Int), .int .u8 (x.file.n.toNat : Int), .string x.text, .bool x.dead] 88)
          have HB3a := Lib.hid (below_new (w := w2) (.cells #[.int .u8 (x.id.pid.author.toNat : Int), .int .u16 (x.id.pid.seq.toNat : Int), .int .u8 (x.id.n.toNat : Int), .int .u8 (x.kind.toNat : Int), .int .u8 (x.file.pid.author.toNat : Int), .int .u16 (x.file.pid.seq.toNat : Int), .int .u8 (x.file.n.toNat : Int), .string x.text, .bool x.dead] 88))
          generalize hw3 : w2.alloc (.cells #[.int .u8 (x.id.pid.author.toNat : Int), .int .u16 (x.id.pid.seq.toNat : Int), .int .u8 (x.id.n.toNat : Int), .int .u8 (x.kind.toNat : Int), .int .u8 (x.file.pid.author.toNat : Int), .int .u16 (x.file.pid.seq.toNat : Int), .int .u8 (x.file.n.toNat : Int), .string x.text, .bool x.dead] 88) = w3 at *
          clear hw3
          have HB3 := Lib.hid (below_over HB2.out HB2.out.size HB3a.out)
          have HO3 := Lib.hid (HO2.out.over HB3a.out)
          have HM3 := Lib.hid (HM1.out.over HB3.out)
          have hB3 := HB3.out.size
          have y0 := HA3.out.cell (j := 0) rfl
          have y1 := HA3.out.cell (j := 1) rfl
          have y2 := HA3.out.cell (j := 2) rfl
          have y3 := HA3.out.cell (j := 3) rfl
          have y4 := HA3.out.cell (j := 4) rfl
          have y5 := HA3.out.cell (j := 5) rfl
          have y6 := HA3.out.cell (j := 6) rfl
          have y7 := HA3.out.cell (j := 7) rfl
          have y8 := HA3.out.cell (j := 8) rfl
          have sy := HA3.out.lt
          cases hcn : ks.contains (Int.ofNat i) with
          | true =>
            have HLK := Lib.hid (hereF_yes hcn)
            have HN := Lib.hid (kills_no (l := l) HI.out hcn)
            clear hcn
            go_wp2_with (refine wpList_tlookV keysInt numV_inj rfl _ _ _ rfl Tryz.underlying158 0 (zero_numV _) m N (hereF ks ks.length) rfl HM3.out (i : Int) rfl HOi.out _ HLK.out ?_)
            go_roundw
            case rel => exact ⟨q + 1, hlt, by go_num, (by show GOwn _ _ _ _ _ _ _; rw [HN.out]; exact HO3.out), HB3⟩
            case measure => simp [intOf]; omega
          | false =>
            have HLK := Lib.hid (hereF_no hcn)
            have HN := Lib.hid (kills_yes (l := l) HI.out hcn)
            have hN3 : (killsE l (al.take q) ks).length + 1 ≤ 1099511627776 := by omega
            clear hcn
            go_wp2_with (first | (refine wpList_tlookV keysInt numV_inj rfl _ _ _ rfl Tryz.underlying158 0 (zero_numV _) m N (hereF ks ks.length) rfl HM3.out (i : Int) rfl HOi.out _ HLK.out ?_) | (at_builtin; (first | refine wpList_append_newD slOp rfl _ _ rfl w1.heap.size _ _ (drawn_alloc_drewN _ _ _) 1 _ _ _ HO3.out rfl rfl rfl rfl hN3 (by decide) hB3 ?_ | refine wpList_append_newD slOp rfl _ _ rfl w1.heap.size _ _ (drawn_drew _) 1 _ _ _ HO3.out rfl rfl rfl rfl hN3 (by decide) hB3 ?_ | refine wpList_append_newD slOp rfl _ _ rfl w1.heap.size _ _ (drawn_drewN _ _) 1 _ _ _ HO3.out rfl rfl rfl rfl hN3 (by decide) hB3 ?_ | refine wpList_append_newD slOp rfl _ _ rfl w1.heap.size _ _ (drawn_refl _) 1 _ _ _ HO3.out rfl rfl rfl rfl hN3 (by decide) hB3 ?_); intro v9 w9 ho9 hg9))
            go_roundw
            case rel => exact ⟨q + 1, hlt, by go_num, (by show GOwn _ _ _ _ _ _ _; rw [HN.out, HKV.out]; exact GOwn.snoc ho9), below_grown HB3.out hB3 HO3.out hg9⟩
            case measure => simp [intOf]; omega
        · obtain rfl : q = al.length := by omega
          have HE := HO.out
          rw [List.take_length] at HE
          have HE2 := Lib.hid (HE.base HB1.out.size)
          clear HE
          go_wp2_with fail
          go_ret
          exact ⟨_, rfl, HE2.out, below_over HB1.out HB1.out.size hbl.out⟩
end
section
attribute [local irreducible] keptV1 keptTo textAt firmX aliveX killsE addsTo tiesTo atL
set_option maxHeartbeats 16000000 in
set_option maxRecDepth 100000 in
theorem eopsV_any (s : Option Addr) (wv : Value) (l : List VertM) (R : List (Nat × Nat)) (file : VidM) (id : PidM) (from' : Nat) (want : List ByteArray) (w : World) (h : ShV w s l R) (hl : l.length ≤ 1000) (hw : SRow w wv want) (hm : want.length ≤ 1000) (hf : from' ≤ 1000000) :
    Calls Tryz.prog 16 #[.pointer s, vidV file, pidV id, .int .i64 (from' : Int), wv] w (OwnRes encOp 8 58 w (editM l R (aliveX l R) (firmX l R) file id from' want (pairs ((firmX l R).map (textAt l)) want))) := by
  rw [edit_eq]
  have HBX := (below_new (w := w) (.cells #[.int .u8 (file.pid.author.toNat : Int), .int .u16 (file.pid.seq.toNat : Int), .int .u8 (file.n.toNat : Int)] 40)).alloc (by simp) (.cells #[.int .u8 (id.author.toNat : Int), .int .u16 (id.seq.toNat : Int)] 26)
  have HS := Lib.hid (h.over HBX)
  have HW := Lib.hid (hw.over HBX)
  have HF := Lib.hid ((arr_new w #[.int .u8 (file.pid.author.toNat : Int), .int .u16 (file.pid.seq.toNat : Int), .int .u8 (file.n.toNat : Int)] 40).alloc (.cells #[.int .u8 (id.author.toNat : Int), .int .u16 (id.seq.toNat : Int)] 26))
  have HI := Lib.hid (arr_new2 w (.cells #[.int .u8 (file.pid.author.toNat : Int), .int .u16 (file.pid.seq.toNat : Int), .int .u8 (file.n.toNat : Int)] 40) #[.int .u8 (id.author.toNat : Int), .int .u16 (id.seq.toNat : Int)] 26)
  have HB := Lib.hid HBX
  obtain ⟨wa, wc, rfl, z1, z2, _⟩ := SRow.form hw
  unfold maxLen at z2
  clear h hw HBX
  unfold vidV pidV
  go_enter Tryz.func16, Tryz.ntmps16
  go_upto_region 1 with (fail)
  generalize hw0 : (w.alloc (.cells #[.int .u8 (file.pid.author.toNat : Int), .int .u16 (file.pid.seq.toNat : Int), .int .u8 (file.n.toNat : Int)] 40)).alloc (.cells #[.int .u8 (id.author.toNat : Int), .int .u16 (id.seq.toNat : Int)] 26) = w0 at *
  clear hw0
  go_wp2_with fail
  refine (ekeepsV_any s _ l R want _ HS.out hl HW.out hm).mono ?_
  generalize hks : keptTo (firmX l R) (pairs ((firmX l R).map (textAt l)) want) want.length = ks
  have HKI : Hid (∀ (j : Nat) (x : Int), ks[j]? = some x → x = -1 ∨ ∃ i : Nat, x = (i : Int) ∧ i < l.length) := fun j x hx => by
    rw [← hks] at hx
    refine kept_is (fun i hi => firmX_lt hi) ?_ hx
    rcases Nat.eq_zero_or_pos l.length with h0 | h0
    · refine .inr (List.eq_nil_iff_forall_not_mem.2 fun p hp => ?_)
      have h1 := (ePairs_in hp).1
      rw [texts_len] at h1
      have := firmX_len l R
      omega
    · exact .inl h0
  have hkl : ks.length = want.length := by rw [← hks]; exact kept_length _ _ _
  have HKL := Lib.hid hkl
  have HKS := Lib.hid hks
  clear hks
  rintro e w1 ⟨gK, rfl, hgK, hA, hb1⟩
  have HA1 := Lib.hid hA
  have HB1 := Lib.hid hb1
  have HOK : Hid (∀ x ∈ ks, okInt x) := fun x hx => by
    obtain ⟨j, hj⟩ := List.getElem?_of_mem hx
    rcases HKI.out j x hj with rfl | ⟨i, rfl, hi⟩
    · unfold okInt; omega
    · exact ok_int (by omega)
  clear hA hb1
  rw [hkl]
  go_wp2_with fail
  refine (hkl ▸ ekillsV_any s gK l R ks _ (HS.out.over HB1.out) hl HA1.out HOK.out (by omega)).mono ?_
  have hkil := Nat.le_trans (kills_len l ks (aliveX l R)) (aliveX_len l R)
  generalize hkill : killsE l (aliveX l R) ks = kl at *
  have HKLL := Lib.hid hkill
  clear hkill
  rintro e w2 ⟨v12, rfl, ho2, hb2⟩
  have HO2 := Lib.hid (ho2.base HB1.out.size)
  have HB2 := Lib.hid (below_over HB1.out HB1.out.size hb2)
  have HA2 := Lib.hid (HA1.out.over hb2)
  clear ho2 hb2 hkl
  obtain ⟨m, hmm⟩ : ∃ m, m = want.length := ⟨_, rfl⟩
  rw [← hmm] at hm ⊢
  have HMM := Lib.hid hmm
  have hmx : m ≤ maxLen := by unfold maxLen; omega
  obtain ⟨ti, tz, t1, t2, t3, t4, t5, t6, t7⟩ := slVidE.out
  have hz : ((Tryz.prog.info? 40).bind (·.zero)) = some (.agg #[.int .u8 0, .int .u16 0, .int .u8 0]) := by kernel_rfl
  rw [t2] at hz
  have hz2 : tz = .agg #[.int .u8 0, .int .u16 0, .int .u8 0] := by
    have : ti.zero = some (.agg #[.int .u8 0, .int .u16 0, .int .u8 0]) := hz
    rw [t3] at this; exact Option.some.inj this
  subst hz2
  have hbm : ti.bytes * m ≤ 281474976710656 := by rw [t5]; omega
  have HT := Lib.hid (And.intro t2 (And.intro t3 (And.intro t4 hbm)))
  clear hmm hz t1 t2 t3 t4 t5 t6 t7 hbm
  go_upto_region 4 with (at_make; refine wpList_make_full _ rfl _ _ _ rfl w2.heap.size 40 ti _ 3 Tryz.underlying37 HT.out.1 HT.out.2.1 HT.out.2.2.1 .i64 .i64 _ _ m rfl rfl rfl rfl HT.out.2.2.2 hmx (Nat.le_refl _) ?_; intro w3 ho3 hg3)
  have HB3a := Lib.hid (grown_over' hg3 (fun g hg => by cases hg))
  have hA3 := (own_fullN ho3).1
  rw [show (Value.agg #[.int .u8 0, .int .u16 0, .int .u8 0]).cells = #[.int .u8 0, .int .u16 0, .int .u8 0] from rfl, vids_cells] at hA3
  have hgl : w0.heap.size ≤ w2.heap.size := HB2.out.size
  have hne : gK ≠ w2.heap.size := by have := HA2.out.arr.lt; omega
  obtain ⟨gA, hgA0⟩ : ∃ gA, gA = w2.heap.size := ⟨_, rfl⟩
  rw [← hgA0] at hA3 hgl hne ⊢
  obtain ⟨p0, c0, rfl⟩ := oown_form HO2.out
  have HMid0 : Hid (MidE w3 w0 gK gA m 0 ks p0 c0 kl []) := ⟨HA2.out.over HB3a.out, (by rw [atL_zero]; exact hA3), HO2.out.over HB3a.out, below_over HB2.out HB2.out.size HB3a.out⟩
  clear hA3 ho3 hg3 hgA0 HB3a HT HA2 HO2 HA1
  go_wp2_with fail
  go_loopw [12, 30] (fun v12 v30 wr => A1Rel w0 l file id from' ks want kl gK gA m v12 v30 wr) (fun _ v30 _ => m - (intOf v30).toNat)
  case atStart => exact ⟨0, kl, [], p0, c0, by omega, rfl, rfl, Lib.hid adds_zero.symm, HMid0⟩
  case round =>
    obtain ⟨j, ops, at', p, c, hj, rfl, rfl, HAD, HMid⟩ := hrel
    rename World => wr
    obtain ⟨hal, hol⟩ := adds_both HKL.out (by rw [← HMM.out]; exact hj) HAD.out
    have HAL := Lib.hid hal
    have sk := HMid.out.kept.arr.lt
    clear hal
    by_cases hlt : j < m
    · obtain ⟨x, hx⟩ := get_of_lt (xs := ks) (i := j) (by rw [HKL.out, ← HMM.out]; exact hlt)
      obtain ⟨t, ht⟩ := get_of_lt (xs := want) (i := j) (by rw [← HMM.out]; exact hlt)
      have k0 := HMid.out.kept.arr.cell (keptV1_get hx)
      obtain ⟨y, hy⟩ := get_of_lt (xs := atL at' j m) (i := j) (by rw [atL_len HAL.out hj]; exact hlt)
      have HY := Lib.hid hy
      have HX := Lib.hid hx
      have HTx := Lib.hid ht
      have HBw := Lib.hid HMid.out.below
      clear hy ht
      rcases HKI.out j x hx with hx1 | ⟨i, hx1, hil⟩
      · subst hx1
        have HI4 := Lib.hid (HI.out.over HBw.out)
        have i0 := HI4.out.cell (j := 0) rfl
        have i1 := HI4.out.cell (j := 1) rfl
        have si := HI4.out.lt
        obtain ⟨N, hN⟩ : ∃ N, from' + ops.length = N := ⟨_, rfl⟩
        have eN : ((from' : Int) + (ops.length : Int)) = (N : Int) := by omega
        have hNl : N < 4611686018427387904 := by omega
        have HN := Lib.hid hN
        clear hx hN
        go_wp2_with fail
        refine (pvid_any id N _ hNl).mono ?_
        rintro e w4 ⟨rfl, hb4⟩
        have HMid4 := Lib.hid (HMid.out.over hb4)
        clear hb4 k0 sk i0 i1 si eN
        go_upto_region 11 with ((with_reducible show wpList _ _ _ ({ dst := _, op := .store _ _ _, type := _, pos := _, after := _, guard := _ } :: _) _ _); refine wpList_store_arrN rowVidE rfl _ _ rfl HMid4.out.names (atL_flat HAL.out hj) hmx (j * 3) (encVid ⟨id, UInt8.ofNat N⟩) rfl rfl rfl (by rw [encVid_len]; omega) (oneVid ⟨id, UInt8.ofNat N⟩) ?_; intro w5 hA5 hg5)
        have HMid5 := Lib.hid (HMid4.out.name HAL.out hlt hgl hne hA5 hg5)
        clear hA5 hg5
        have HF5 := Lib.hid (HF.out.over HMid5.out.below)
        have f0 := HF5.out.cell (j := 0) rfl
        have f1 := HF5.out.cell (j := 1) rfl
        have f2 := HF5.out.cell (j := 2) rfl
        have sf := HF5.out.lt
        obtain ⟨wa2, wc2, e2, _, _, _, hcw⟩ := SRow.form (HW.out.over HMid5.out.below)
        cases e2
        obtain ⟨bw, offw, rfl, sbw, hcw2⟩ := hcw.resolve_left (by rw [← HMM.out]; omega)
        have w0c := hcw2 j t HTx.out
        have hN5 : ops.length + 1 ≤ 1099511627776 := by omega
        have hB5 := HMid5.out.below.size
        have HOw := Lib.hid HMid5.out.own
        obtain ⟨ops9, hops9⟩ : ∃ y, y = ops ++ [(⟨3, file, noVid, t⟩ : OpM)] := ⟨_, rfl⟩
        have HO9e := Lib.hid hops9
        have HAD2 := Lib.hid (adds_next2 HX.out HTx.out HAD.out)
        rw [HN.out, ← hops9] at HAD2
        clear hcw hcw2 hops9
        go_simp
        have hcur : Below w5.heap.size w5 w5.drew := (Below.refl _ _).drew
        refine wp_region_lex (C := IsOver w5) 8 [] (by kernel_rfl) (by kernel_rfl) (isOver_of hcur) ?_
        simp only [List.take_succ_cons, List.take_zero, List.drop_succ_cons, List.drop_zero]
        repeat (first | (refine lex_skip rfl rfl ?_; simp only [Act.put, List.setIfInBounds_toArray, List.set_cons_succ, List.set_cons_zero]) | (refine lex_one rfl ?_; go_big_quiet_step (fail); refine wpQuiet_nil ?_) | (refine lex_loud rfl ?_; go_wp2_with (first | (fail)); refine ⟨isOver_of (by first | exact hcur | exact hcur.alloc hcur.size _), ?_⟩))
        refine lex_end ?_
        clear hcur
        go_wp2_with ((at_builtin; (first | refine wpList_append_newD slOp rfl _ _ rfl w0.heap.size _ _ (drawn_alloc_drewN _ _ _) 1 _ _ _ HOw.out rfl rfl rfl rfl hN5 (by decide) hB5 ?_ | refine wpList_append_newD slOp rfl _ _ rfl w0.heap.size _ _ (drawn_drew _) 1 _ _ _ HOw.out rfl rfl rfl rfl hN5 (by decide) hB5 ?_ | refine wpList_append_newD slOp rfl _ _ rfl w0.heap.size _ _ (drawn_drewN _ _) 1 _ _ _ HOw.out rfl rfl rfl rfl hN5 (by decide) hB5 ?_ | refine wpList_append_newD slOp rfl _ _ rfl w0.heap.size _ _ (drawn_refl _) 1 _ _ _ HOw.out rfl rfl rfl rfl hN5 (by decide) hB5 ?_); intro v9 w9 ho9 hg9); (obtain ⟨p9, c9, e9, hO9⟩ := oown_more (GOwn.snoc (x := (⟨3, file, noVid, t⟩ : OpM)) ho9) HO9e.out); subst e9; have HO9 := Lib.hid hO9; have HG9 := Lib.hid hg9; clear ho9 hg9 hO9)
        go_roundw
        case rel => exact ⟨j + 1, ops9, _, p9, c9, hlt, by go_num, rfl, HAD2, HMid5.out.op HO9.out HG9.out⟩
        case measure => simp [intOf]; omega
      · subst hx1
        obtain ⟨x, hxv⟩ := get_of_lt hil
        have HXv := Lib.hid hxv
        have HAD2 := Lib.hid (adds_next1 HX.out HTx.out hxv HAD.out)
        clear hx hxv
        go_wp2_with fail
        refine (svertV_any s i x l R _ (HS.out.over HBw.out) HXv.out).mono ?_
        rintro e w4 ⟨rfl, hb4⟩
        have HMid4 := Lib.hid (HMid.out.over hb4)
        clear hb4 k0 sk
        go_upto_region 9 with (fail)
        have HA5 := Lib.hid (arr_new w4 #[.int .u8 (x.id.pid.author.toNat : Int), .int .u16 (x.id.pid.seq.toNat : Int), .int .u8 (x.id.n.toNat : Int), .int .u8 (x.kind.toNat : Int), .int .u8 (x.file.pid.author.toNat : Int), .int .u16 (x.file.pid.seq.toNat : Int), .int .u8 (x.file.n.toNat : Int), .string x.text, .bool x.dead] 88)
        have HB5 := Lib.hid (below_new (w := w4) (.cells #[.int .u8 (x.id.pid.author.toNat : Int), .int .u16 (x.id.pid.seq.toNat : Int), .int .u8 (x.id.n.toNat : Int), .int .u8 (x.kind.toNat : Int), .int .u8 (x.file.pid.author.toNat : Int), .int .u16 (x.file.pid.seq.toNat : Int), .int .u8 (x.file.n.toNat : Int), .string x.text, .bool x.dead] 88))
        generalize hw5 : w4.alloc (.cells #[.int .u8 (x.id.pid.author.toNat : Int), .int .u16 (x.id.pid.seq.toNat : Int), .int .u8 (x.id.n.toNat : Int), .int .u8 (x.kind.toNat : Int), .int .u8 (x.file.pid.author.toNat : Int), .int .u16 (x.file.pid.seq.toNat : Int), .int .u8 (x.file.n.toNat : Int), .string x.text, .bool x.dead] 88) = w5 at *
        clear hw5
        have HMid5 := Lib.hid (HMid4.out.over HB5.out)
        have y0 := HA5.out.cell (j := 0) rfl
        have y1 := HA5.out.cell (j := 1) rfl
        have y2 := HA5.out.cell (j := 2) rfl
        have y3 := HA5.out.cell (j := 3) rfl
        have y4 := HA5.out.cell (j := 4) rfl
        have y5 := HA5.out.cell (j := 5) rfl
        have y6 := HA5.out.cell (j := 6) rfl
        have y7 := HA5.out.cell (j := 7) rfl
        have y8 := HA5.out.cell (j := 8) rfl
        have sy := HA5.out.lt
        go_wp2_with ((with_reducible show wpList _ _ _ ({ dst := _, op := .store _ _ _, type := _, pos := _, after := _, guard := _ } :: _) _ _); refine wpList_store_arrN rowVidE rfl _ _ rfl HMid5.out.names (atL_flat HAL.out hj) hmx (j * 3) (encVid x.id) rfl rfl rfl (by rw [encVid_len]; omega) (oneVid x.id) ?_; intro w6 hA5 hg5)
        have HMid6 := Lib.hid (HMid5.out.name HAL.out hlt hgl hne hA5 hg5)
        clear hA5 hg5
        go_roundw
        case rel => exact ⟨j + 1, ops, _, p, c, hlt, by go_num, rfl, HAD2, HMid6⟩
        case measure => simp [intOf]; omega
    · obtain rfl : m = j := by omega
      have hal2 := HAL.out
      have HA2e := HMid.out
      obtain ⟨at2, hat2⟩ : ∃ at2, at2 = at' := ⟨_, rfl⟩
      rw [← hat2] at HAD HA2e hal2
      have HAL2 := Lib.hid hal2
      have HMd := Lib.hid HA2e
      have htl := ties_len R ks at2
      have HTL := Lib.hid htl
      clear HA2e hal2 hat2 sk htl
      go_wp2_with fail
      go_loopw [12, 69] (fun v12 v69 wq => A2Rel w0 R ks at2 ops gK gA m v12 v69 wq) (fun _ v69 _ => m - (intOf v69).toNat)
      case atStart => exact ⟨0, ops, p, c, by omega, rfl, rfl, Lib.hid (by rw [ties_zero, List.append_nil]), HMd⟩
      case round =>
        obtain ⟨q, ops2, p2, c2, hq, rfl, rfl, HO2, HM2⟩ := hrel
        rename World => wq
        have hol2 : ops2.length ≤ ops.length + m := by
          rw [HO2.out, List.length_append]; have := HTL.out q; omega
        have sk := HM2.out.kept.arr.lt
        by_cases hlt : q < m
        · by_cases hq0 : q = 0
          · subst hq0
            have HN : Hid (ops2 = ops ++ tiesTo R ks at2 1) := by show _ = _; rw [HO2.out, ties_zero, ties_one]
            go_wp2_with fail
            have hcur : Below wq.heap.size wq wq.drew := (Below.refl _ _).drew
            refine wp_region_lex (C := IsOver wq) 32 [] (by kernel_rfl) (by kernel_rfl) (isOver_of (by repeat (first | exact Below.refl _ _ | apply Below.drew | apply below_drewN | (refine Below.alloc ?_ (by simp) _)))) ?_
            simp only [List.take_succ_cons, List.take_zero, List.drop_succ_cons, List.drop_zero]
            repeat (first | (refine lex_skip rfl rfl ?_; simp only [Act.put, List.setIfInBounds_toArray, List.set_cons_succ, List.set_cons_zero]) | (refine lex_one rfl ?_; go_big_quiet_step (fail); refine wpQuiet_nil ?_) | (refine lex_loud rfl ?_; go_wp2_with (first | (fail)); refine ⟨isOver_of hcur, ?_⟩))
            refine lex_end ?_
            clear hcur
            go_wp2_with fail
            go_roundw
            case rel => exact ⟨1, ops2, p2, c2, hlt, by go_num, rfl, HN, HM2.out.over (Below.refl _ _).drew⟩
            case measure => simp [intOf]; omega
          · obtain ⟨q, rfl⟩ : ∃ k, q = k + 1 := ⟨q - 1, by omega⟩
            obtain ⟨x, hx⟩ := get_of_lt (xs := ks) (i := q) (by rw [HKL.out, ← HMM.out]; omega)
            obtain ⟨y, hy⟩ := get_of_lt (xs := ks) (i := q + 1) (by rw [HKL.out, ← HMM.out]; exact hlt)
            obtain ⟨u, hu⟩ := get_of_lt (xs := at2) (i := q) (by rw [HAL2.out]; omega)
            obtain ⟨v, hv⟩ := get_of_lt (xs := at2) (i := q + 1) (by rw [HAL2.out]; exact hlt)
            have k0 := HM2.out.kept.arr.cell (keptV1_get hx)
            have k1 := HM2.out.kept.arr.cell (keptV1_get hy)
            have HX := Lib.hid hx
            have HYY := Lib.hid hy
            have HU := Lib.hid hu
            have HVV := Lib.hid hv
            have HSq := Lib.hid (HS.out.over HM2.out.below)
            have HM3 := Lib.hid (HM2.out.over (Below.refl wq.heap.size wq).drew)
            have hN5 : ops2.length + 1 ≤ 1099511627776 := by omega
            have dq : decide ((0 : Int) < (q : Int) + 1) = true := decide_eq_true (by omega)
            clear hu hv hq0
            rcases HKI.out q x hx with hx1 | ⟨i, hx1, hil⟩
            · subst hx1
              have HN := Lib.hid (ties_yes (R := R) HX.out HYY.out HU.out HVV.out (.inl (by decide)))
              clear hx hy
              go_wp2_with fail
              have hcur : Below wq.heap.size wq wq.drew := (Below.refl _ _).drew
              refine wp_region_lex (C := IsOver wq) 32 [] (by kernel_rfl) (by kernel_rfl) (isOver_of (by repeat (first | exact Below.refl _ _ | apply Below.drew | apply below_drewN | (refine Below.alloc ?_ (by simp) _)))) ?_
              simp only [List.take_succ_cons, List.take_zero, List.drop_succ_cons, List.drop_zero]
              repeat (first | (refine lex_skip rfl rfl ?_; simp only [Act.put, List.setIfInBounds_toArray, List.set_cons_succ, List.set_cons_zero]) | (refine lex_one rfl ?_; go_big_quiet_step (fail); refine wpQuiet_nil ?_) | (refine lex_loud rfl ?_; go_wp2_with (first | (fail)); refine ⟨isOver_of hcur, ?_⟩))
              refine lex_end ?_
              clear hcur
              generalize hwd : wq.drew = wd at *
              clear hwd k0 k1 sk
              have HNm := Lib.hid (show ArrT wd gA 40 (at2.flatMap encVid) by (have hnm := HM3.out.names; rw [atL_all] at hnm; exact hnm))
              have n0 : wd.cell? ⟨gA, q * 3, none⟩ = some (.int .u8 (u.pid.author.toNat : Int)) := HNm.out.arr.cell ((flat_get encVid_len _ q 0 u HU.out (by decide)).trans rfl)
              have n1 : wd.cell? ⟨gA, q * 3 + 1, none⟩ = some (.int .u16 (u.pid.seq.toNat : Int)) := HNm.out.arr.cell ((flat_get encVid_len _ q 1 u HU.out (by decide)).trans rfl)
              have n2 : wd.cell? ⟨gA, q * 3 + 2, none⟩ = some (.int .u8 (u.n.toNat : Int)) := HNm.out.arr.cell ((flat_get encVid_len _ q 2 u HU.out (by decide)).trans rfl)
              have n3 : wd.cell? ⟨gA, (q + 1) * 3, none⟩ = some (.int .u8 (v.pid.author.toNat : Int)) := HNm.out.arr.cell ((flat_get encVid_len _ (q + 1) 0 v HVV.out (by decide)).trans rfl)
              have n4 : wd.cell? ⟨gA, (q + 1) * 3 + 1, none⟩ = some (.int .u16 (v.pid.seq.toNat : Int)) := HNm.out.arr.cell ((flat_get encVid_len _ (q + 1) 1 v HVV.out (by decide)).trans rfl)
              have n5 : wd.cell? ⟨gA, (q + 1) * 3 + 2, none⟩ = some (.int .u8 (v.n.toNat : Int)) := HNm.out.arr.cell ((flat_get encVid_len _ (q + 1) 2 v HVV.out (by decide)).trans rfl)
              have sn := HNm.out.arr.lt
              have hB5 := HM3.out.below.size
              have HOw := Lib.hid HM3.out.own
              obtain ⟨ops9, hops9⟩ : ∃ z, z = ops2 ++ [(⟨4, u, v, ⟨#[]⟩⟩ : OpM)] := ⟨_, rfl⟩
              have HO9e := Lib.hid hops9
              have HN9 : Hid (ops9 = ops ++ tiesTo R ks at2 (q + 1 + 1)) := by show _ = _; rw [HN.out, ← List.append_assoc, ← HO2.out]; exact hops9
              clear hops9
              go_wp2_with fail
              have hcur : Below wd.heap.size wd wd.drew := (Below.refl _ _).drew
              refine wp_region_lex (C := IsOver wd) 12 [] (by kernel_rfl) (by kernel_rfl) (isOver_of hcur) ?_
              simp only [List.take_succ_cons, List.take_zero, List.drop_succ_cons, List.drop_zero]
              repeat (first | (refine lex_skip rfl rfl ?_; simp only [Act.put, List.setIfInBounds_toArray, List.set_cons_succ, List.set_cons_zero]) | (refine lex_one rfl ?_; go_big_quiet_step (fail); refine wpQuiet_nil ?_) | (refine lex_loud rfl ?_; go_wp2_with (first | (fail)); refine ⟨isOver_of (by first | exact hcur | exact hcur.alloc hcur.size _), ?_⟩))
              refine lex_end ?_
              clear hcur
              go_wp2_with ((at_builtin; (first | refine wpList_append_newD slOp rfl _ _ rfl w0.heap.size _ _ (drawn_alloc_drewN _ _ _) 1 _ _ _ HOw.out rfl rfl rfl rfl hN5 (by decide) hB5 ?_ | refine wpList_append_newD slOp rfl _ _ rfl w0.heap.size _ _ (drawn_drew _) 1 _ _ _ HOw.out rfl rfl rfl rfl hN5 (by decide) hB5 ?_ | refine wpList_append_newD slOp rfl _ _ rfl w0.heap.size _ _ (drawn_drewN _ _) 1 _ _ _ HOw.out rfl rfl rfl rfl hN5 (by decide) hB5 ?_ | refine wpList_append_newD slOp rfl _ _ rfl w0.heap.size _ _ (drawn_refl _) 1 _ _ _ HOw.out rfl rfl rfl rfl hN5 (by decide) hB5 ?_); intro v9 w9 ho9 hg9); (obtain ⟨p9, c9, e9, hO9⟩ := oown_more (GOwn.snoc (x := (⟨4, u, v, ⟨#[]⟩⟩ : OpM)) ho9) HO9e.out); subst e9; have HO9 := Lib.hid hO9; have HG9 := Lib.hid hg9; clear ho9 hg9 hO9)
              go_roundw
              case rel => exact ⟨q + 1 + 1, ops9, p9, c9, hlt, by go_num, rfl, HN9, HM3.out.op HO9.out HG9.out⟩
              case measure => simp [intOf]; omega
            · subst hx1
              have ei : decide ((i : Int) < 0) = false := decide_eq_false (by omega)
              rcases HKI.out (q + 1) y hy with hy1 | ⟨i2, hy1, hil2⟩
              · subst hy1
                have HN := Lib.hid (ties_yes (R := R) HX.out HYY.out HU.out HVV.out (.inr (.inl (by decide))))
                clear hx hy
                go_wp2_with fail
                have hcur : Below wq.heap.size wq wq.drew := (Below.refl _ _).drew
                refine wp_region_lex (C := IsOver wq) 32 [] (by kernel_rfl) (by kernel_rfl) (isOver_of (by repeat (first | exact Below.refl _ _ | apply Below.drew | apply below_drewN | (refine Below.alloc ?_ (by simp) _)))) ?_
                simp only [List.take_succ_cons, List.take_zero, List.drop_succ_cons, List.drop_zero]
                repeat (first | (refine lex_skip rfl rfl ?_; simp only [Act.put, List.setIfInBounds_toArray, List.set_cons_succ, List.set_cons_zero]) | (refine lex_one rfl ?_; go_big_quiet_step (fail); refine wpQuiet_nil ?_) | (refine lex_loud rfl ?_; go_wp2_with (first | (fail)); refine ⟨isOver_of hcur, ?_⟩))
                refine lex_end ?_
                clear hcur
                generalize hwd : wq.drew = wd at *
                clear hwd k0 k1 sk
                have HNm := Lib.hid (show ArrT wd gA 40 (at2.flatMap encVid) by (have hnm := HM3.out.names; rw [atL_all] at hnm; exact hnm))
                have n0 : wd.cell? ⟨gA, q * 3, none⟩ = some (.int .u8 (u.pid.author.toNat : Int)) := HNm.out.arr.cell ((flat_get encVid_len _ q 0 u HU.out (by decide)).trans rfl)
                have n1 : wd.cell? ⟨gA, q * 3 + 1, none⟩ = some (.int .u16 (u.pid.seq.toNat : Int)) := HNm.out.arr.cell ((flat_get encVid_len _ q 1 u HU.out (by decide)).trans rfl)
                have n2 : wd.cell? ⟨gA, q * 3 + 2, none⟩ = some (.int .u8 (u.n.toNat : Int)) := HNm.out.arr.cell ((flat_get encVid_len _ q 2 u HU.out (by decide)).trans rfl)
                have n3 : wd.cell? ⟨gA, (q + 1) * 3, none⟩ = some (.int .u8 (v.pid.author.toNat : Int)) := HNm.out.arr.cell ((flat_get encVid_len _ (q + 1) 0 v HVV.out (by decide)).trans rfl)
                have n4 : wd.cell? ⟨gA, (q + 1) * 3 + 1, none⟩ = some (.int .u16 (v.pid.seq.toNat : Int)) := HNm.out.arr.cell ((flat_get encVid_len _ (q + 1) 1 v HVV.out (by decide)).trans rfl)
                have n5 : wd.cell? ⟨gA, (q + 1) * 3 + 2, none⟩ = some (.int .u8 (v.n.toNat : Int)) := HNm.out.arr.cell ((flat_get encVid_len _ (q + 1) 2 v HVV.out (by decide)).trans rfl)
                have sn := HNm.out.arr.lt
                have hB5 := HM3.out.below.size
                have HOw := Lib.hid HM3.out.own
                obtain ⟨ops9, hops9⟩ : ∃ z, z = ops2 ++ [(⟨4, u, v, ⟨#[]⟩⟩ : OpM)] := ⟨_, rfl⟩
                have HO9e := Lib.hid hops9
                have HN9 : Hid (ops9 = ops ++ tiesTo R ks at2 (q + 1 + 1)) := by show _ = _; rw [HN.out, ← List.append_assoc, ← HO2.out]; exact hops9
                clear hops9
                go_wp2_with fail
                have hcur : Below wd.heap.size wd wd.drew := (Below.refl _ _).drew
                refine wp_region_lex (C := IsOver wd) 12 [] (by kernel_rfl) (by kernel_rfl) (isOver_of hcur) ?_
                simp only [List.take_succ_cons, List.take_zero, List.drop_succ_cons, List.drop_zero]
                repeat (first | (refine lex_skip rfl rfl ?_; simp only [Act.put, List.setIfInBounds_toArray, List.set_cons_succ, List.set_cons_zero]) | (refine lex_one rfl ?_; go_big_quiet_step (fail); refine wpQuiet_nil ?_) | (refine lex_loud rfl ?_; go_wp2_with (first | (fail)); refine ⟨isOver_of (by first | exact hcur | exact hcur.alloc hcur.size _), ?_⟩))
                refine lex_end ?_
                clear hcur
                go_wp2_with ((at_builtin; (first | refine wpList_append_newD slOp rfl _ _ rfl w0.heap.size _ _ (drawn_alloc_drewN _ _ _) 1 _ _ _ HOw.out rfl rfl rfl rfl hN5 (by decide) hB5 ?_ | refine wpList_append_newD slOp rfl _ _ rfl w0.heap.size _ _ (drawn_drew _) 1 _ _ _ HOw.out rfl rfl rfl rfl hN5 (by decide) hB5 ?_ | refine wpList_append_newD slOp rfl _ _ rfl w0.heap.size _ _ (drawn_drewN _ _) 1 _ _ _ HOw.out rfl rfl rfl rfl hN5 (by decide) hB5 ?_ | refine wpList_append_newD slOp rfl _ _ rfl w0.heap.size _ _ (drawn_refl _) 1 _ _ _ HOw.out rfl rfl rfl rfl hN5 (by decide) hB5 ?_); intro v9 w9 ho9 hg9); (obtain ⟨p9, c9, e9, hO9⟩ := oown_more (GOwn.snoc (x := (⟨4, u, v, ⟨#[]⟩⟩ : OpM)) ho9) HO9e.out); subst e9; have HO9 := Lib.hid hO9; have HG9 := Lib.hid hg9; clear ho9 hg9 hO9)
                go_roundw
                case rel => exact ⟨q + 1 + 1, ops9, p9, c9, hlt, by go_num, rfl, HN9, HM3.out.op HO9.out HG9.out⟩
                case measure => simp [intOf]; omega
              · subst hy1
                have ei2 : decide ((i2 : Int) < 0) = false := decide_eq_false (by omega)
                clear hx hy
                cases hb : befB R i i2 with
                | true =>
                  have HBV := Lib.hid hb
                  have HN := Lib.hid (ties_no (R := R) (at' := at2) HX.out HYY.out (Int.natCast_nonneg i) (Int.natCast_nonneg i2) hb)
                  clear hb
                  go_wp2_with fail
                  have hcur : Below wq.heap.size wq wq.drew := (Below.refl _ _).drew
                  refine wp_region_lex (C := IsOver wq) 32 [] (by kernel_rfl) (by kernel_rfl) (isOver_of (by repeat (first | exact Below.refl _ _ | apply Below.drew | apply below_drewN | (refine Below.alloc ?_ (by simp) _)))) ?_
                  simp only [List.take_succ_cons, List.take_zero, List.drop_succ_cons, List.drop_zero]
                  repeat (first | (refine lex_skip rfl rfl ?_; simp only [Act.put, List.setIfInBounds_toArray, List.set_cons_succ, List.set_cons_zero]) | (refine lex_one rfl ?_; go_big_quiet_step (fail); refine wpQuiet_nil ?_) | (refine lex_loud rfl ?_; go_wp2_with (first | (go_at_call 43; (with_reducible refine (srelV_any s l R _ (HSq.out.over hcur) (by omega)).mono ?_); rintro e w' ⟨⟨r, rfl, hr⟩, rfl⟩; have HRL := Lib.hid hr; clear hr) | (go_at_call 44; (with_reducible refine (rchBefore_any r l.length i i2 R _ HRL.out (by omega) (by omega)).mono ?_); rintro e w' ⟨rfl, rfl⟩; rw [HBV.out])); refine ⟨isOver_of hcur, ?_⟩))
                  refine lex_end ?_
                  clear hcur
                  go_wp2_with fail
                  go_roundw
                  case rel => exact ⟨q + 1 + 1, ops2, p2, c2, hlt, by go_num, rfl, Lib.hid (by rw [HN.out]; exact HO2.out), HM3⟩
                  case measure => simp [intOf]; omega
                | false =>
                  have HBV := Lib.hid hb
                  have HN := Lib.hid (ties_yes (R := R) HX.out HYY.out HU.out HVV.out (.inr (.inr hb)))
                  clear hb
                  go_wp2_with fail
                  have hcur : Below wq.heap.size wq wq.drew := (Below.refl _ _).drew
                  refine wp_region_lex (C := IsOver wq) 32 [] (by kernel_rfl) (by kernel_rfl) (isOver_of (by repeat (first | exact Below.refl _ _ | apply Below.drew | apply below_drewN | (refine Below.alloc ?_ (by simp) _)))) ?_
                  simp only [List.take_succ_cons, List.take_zero, List.drop_succ_cons, List.drop_zero]
                  repeat (first | (refine lex_skip rfl rfl ?_; simp only [Act.put, List.setIfInBounds_toArray, List.set_cons_succ, List.set_cons_zero]) | (refine lex_one rfl ?_; go_big_quiet_step (fail); refine wpQuiet_nil ?_) | (refine lex_loud rfl ?_; go_wp2_with (first | (go_at_call 43; (with_reducible refine (srelV_any s l R _ (HSq.out.over hcur) (by omega)).mono ?_); rintro e w' ⟨⟨r, rfl, hr⟩, rfl⟩; have HRL := Lib.hid hr; clear hr) | (go_at_call 44; (with_reducible refine (rchBefore_any r l.length i i2 R _ HRL.out (by omega) (by omega)).mono ?_); rintro e w' ⟨rfl, rfl⟩; rw [HBV.out])); refine ⟨isOver_of hcur, ?_⟩))
                  refine lex_end ?_
                  clear hcur
                  generalize hwd : wq.drew = wd at *
                  clear hwd k0 k1 sk
                  have HNm := Lib.hid (show ArrT wd gA 40 (at2.flatMap encVid) by (have hnm := HM3.out.names; rw [atL_all] at hnm; exact hnm))
                  have n0 : wd.cell? ⟨gA, q * 3, none⟩ = some (.int .u8 (u.pid.author.toNat : Int)) := HNm.out.arr.cell ((flat_get encVid_len _ q 0 u HU.out (by decide)).trans rfl)
                  have n1 : wd.cell? ⟨gA, q * 3 + 1, none⟩ = some (.int .u16 (u.pid.seq.toNat : Int)) := HNm.out.arr.cell ((flat_get encVid_len _ q 1 u HU.out (by decide)).trans rfl)
                  have n2 : wd.cell? ⟨gA, q * 3 + 2, none⟩ = some (.int .u8 (u.n.toNat : Int)) := HNm.out.arr.cell ((flat_get encVid_len _ q 2 u HU.out (by decide)).trans rfl)
                  have n3 : wd.cell? ⟨gA, (q + 1) * 3, none⟩ = some (.int .u8 (v.pid.author.toNat : Int)) := HNm.out.arr.cell ((flat_get encVid_len _ (q + 1) 0 v HVV.out (by decide)).trans rfl)
                  have n4 : wd.cell? ⟨gA, (q + 1) * 3 + 1, none⟩ = some (.int .u16 (v.pid.seq.toNat : Int)) := HNm.out.arr.cell ((flat_get encVid_len _ (q + 1) 1 v HVV.out (by decide)).trans rfl)
                  have n5 : wd.cell? ⟨gA, (q + 1) * 3 + 2, none⟩ = some (.int .u8 (v.n.toNat : Int)) := HNm.out.arr.cell ((flat_get encVid_len _ (q + 1) 2 v HVV.out (by decide)).trans rfl)
                  have sn := HNm.out.arr.lt
                  have hB5 := HM3.out.below.size
                  have HOw := Lib.hid HM3.out.own
                  obtain ⟨ops9, hops9⟩ : ∃ z, z = ops2 ++ [(⟨4, u, v, ⟨#[]⟩⟩ : OpM)] := ⟨_, rfl⟩
                  have HO9e := Lib.hid hops9
                  have HN9 : Hid (ops9 = ops ++ tiesTo R ks at2 (q + 1 + 1)) := by show _ = _; rw [HN.out, ← List.append_assoc, ← HO2.out]; exact hops9
                  clear hops9
                  go_wp2_with fail
                  have hcur : Below wd.heap.size wd wd.drew := (Below.refl _ _).drew
                  refine wp_region_lex (C := IsOver wd) 12 [] (by kernel_rfl) (by kernel_rfl) (isOver_of hcur) ?_
                  simp only [List.take_succ_cons, List.take_zero, List.drop_succ_cons, List.drop_zero]
                  repeat (first | (refine lex_skip rfl rfl ?_; simp only [Act.put, List.setIfInBounds_toArray, List.set_cons_succ, List.set_cons_zero]) | (refine lex_one rfl ?_; go_big_quiet_step (fail); refine wpQuiet_nil ?_) | (refine lex_loud rfl ?_; go_wp2_with (first | (fail)); refine ⟨isOver_of (by first | exact hcur | exact hcur.alloc hcur.size _), ?_⟩))
                  refine lex_end ?_
                  clear hcur
                  go_wp2_with ((at_builtin; (first | refine wpList_append_newD slOp rfl _ _ rfl w0.heap.size _ _ (drawn_alloc_drewN _ _ _) 1 _ _ _ HOw.out rfl rfl rfl rfl hN5 (by decide) hB5 ?_ | refine wpList_append_newD slOp rfl _ _ rfl w0.heap.size _ _ (drawn_drew _) 1 _ _ _ HOw.out rfl rfl rfl rfl hN5 (by decide) hB5 ?_ | refine wpList_append_newD slOp rfl _ _ rfl w0.heap.size _ _ (drawn_drewN _ _) 1 _ _ _ HOw.out rfl rfl rfl rfl hN5 (by decide) hB5 ?_ | refine wpList_append_newD slOp rfl _ _ rfl w0.heap.size _ _ (drawn_refl _) 1 _ _ _ HOw.out rfl rfl rfl rfl hN5 (by decide) hB5 ?_); intro v9 w9 ho9 hg9); (obtain ⟨p9, c9, e9, hO9⟩ := oown_more (GOwn.snoc (x := (⟨4, u, v, ⟨#[]⟩⟩ : OpM)) ho9) HO9e.out); subst e9; have HO9 := Lib.hid hO9; have HG9 := Lib.hid hg9; clear ho9 hg9 hO9)
                  go_roundw
                  case rel => exact ⟨q + 1 + 1, ops9, p9, c9, hlt, by go_num, rfl, HN9, HM3.out.op HO9.out HG9.out⟩
                  case measure => simp [intOf]; omega
        · obtain rfl : m = q := by omega
          have HE := Lib.hid (HM2.out.own.base HB.out.size)
          have HBe := Lib.hid (below_over HB.out HB.out.size HM2.out.below)
          go_wp2_with fail
          go_ret
          exact ⟨_, rfl, (by rw [HKS.out, HKLL.out, ← HMM.out, ← HAD.out]; show GOwn _ _ _ _ _ _ (ops ++ tiesTo R ks at2 m); rw [← HO2.out]; exact HE.out), HBe.out⟩
end
end Go.Proofs.YtllcipobiengiaaGreat
namespace Go.Proofs.YtllcipobiengiaaGreat
open Go Go.RowKit

theorem own_lit28 {α : Type} {enc : α → List Value} {sz : Nat} (w : World) (e : TypeId) (xs : List α) (B : Nat) (hl : (xs.flatMap enc).length = xs.length * sz) (hm : xs.length ≤ maxLen) (hB : B ≤ w.heap.size) : GOwn enc sz e (w.alloc (.cells (xs.flatMap enc).toArray e)) B (.slice (some ⟨w.heap.size, 0, none⟩) xs.length xs.length) xs :=
  ⟨hl, .inr ⟨w.heap.size, xs.length, (xs.flatMap enc).toArray, rfl, hB, by rw [heap_alloc_new], Nat.le_refl _, hm, by simp [hl], by rw [← hl]; exact List.take_length⟩⟩
theorem onesOps (l : List OpM) : ∀ u ∈ l.flatMap encOp, u.oneCell' = true := fun u hu => by
  obtain ⟨x, _, h⟩ := List.mem_flatMap.1 hu
  exact oneOp x u h
theorem kindsN_zero (k : UInt8) (l : List OpM) : kindsN k (l.take 0) = 0 := rfl
theorem kindsN_step {l : List OpM} {i : Nat} {o : OpM} (k : UInt8) (h : l[i]? = some o) : kindsN k (l.take (i + 1)) = kindsN k (l.take i) + if o.kind = k then 1 else 0 := by
  rw [take_succ' h, kindsN_append]
  unfold kindsN
  rw [List.countP_cons, List.countP_nil]
  by_cases e : o.kind = k <;> simp [e]
theorem ek_small {hv : List ByteArray} (hx : fewX hv = true) : ∀ t ∈ hv, t.size ≤ 100 := by
  unfold fewX at hx
  simp only [Bool.and_eq_true, List.all_eq_true, decide_eq_true_eq] at hx
  exact hx.2
theorem ek_opsz {hv : List ByteArray} (hx : fewX hv = true) : ∀ o ∈ ekOps hv, o.text.size ≤ 100 := by
  intro o ho
  rcases ek_mem ho with rfl | ⟨k, t, h, rfl⟩ | ⟨j, _, rfl⟩
  · show 0 ≤ 100; omega
  · exact ek_small hx t (List.mem_of_getElem? h)
  · show 0 ≤ 100; omega
theorem ek_few {hv : List ByteArray} (hx : fewX hv = true) : fewL 20 [ekPat hv] = true := by
  have hn := fewX_len hx
  have hl := ek_len hv
  unfold fewL fewP
  simp only [List.length_singleton, List.all_cons, List.all_nil, Bool.and_true, Bool.and_eq_true, decide_eq_true_eq, List.all_eq_true]
  refine ⟨by omega, ⟨by show 0 ≤ 100; omega, ?_, fun o ho => Nat.le_trans (ek_opsz hx o ho) (by omega)⟩, ?_⟩
  · show (ekOps hv).length ≤ 260; omega
  · show (ekOps hv).length ≤ 60; omega
theorem balloc28 {w w' : World} (h : Below w.heap.size w w') (o : Obj) : Below w.heap.size w (w'.alloc o) := h.alloc h.size o
def EkRel (w : World) (hv : List ByteArray) (v5 : Value) (wr : World) : Prop := ∃ k : Nat, k ≤ hv.length ∧ v5 = .int .i64 (k : Int) ∧ Hid ((hv.take k).all lineOk = true) ∧ Below w.heap.size w wr
def EkCnt (w8 : World) (G : List OpM) (v12 v13 v14 : Value) (wr : World) : Prop := ∃ k a b : Nat, k ≤ G.length ∧ a ≤ k ∧ b ≤ k ∧ v14 = .int .i64 (k : Int) ∧ v12 = .int .i64 (a : Int) ∧ v13 = .int .i64 (b : Int) ∧ Hid (a = kindsN 5 (G.take k)) ∧ Hid (b = kindsN 3 (G.take k)) ∧ wr = w8
attribute [local irreducible] fewX kindsN ekGot ekOps ekTail ekLines ekR
set_option maxHeartbeats 40000000 in
set_option maxRecDepth 100000 in
theorem ek_any (v wv : Value) (hv want : List ByteArray) (w : World) (hs : SRow w v hv) (hw : SRow w wv want)
    (hwk : ∀ W, Calls Tryz.prog 11 #[] W fun e w' => e = .returned (.bool true) ∧ Below W.heap.size W w') :
    Calls Tryz.prog 4 #[v, wv] w fun e w' => e = .returned (.bool true) ∧ Below w.heap.size w w' := by
  have HS := Lib.hid hs
  have HW := Lib.hid hw
  have HWk := Lib.hid hwk
  clear hwk hs hw
  cases hf : fewX hv with
  | false =>
    have HF := Lib.hid hf
    clear hf
    go_enter Tryz.func4, Tryz.ntmps4
    go_wp2_with fail
    refine (few27_any v hv _ HS.out).mono ?_
    rw [HF.out]
    rintro e w1 ⟨rfl, hb1⟩
    have HB1 := Lib.hid hb1
    clear hb1
    go_wp2_with fail
    refine (HWk.out _).mono ?_
    rintro e w2 ⟨rfl, hb2⟩
    have HB2 := Lib.hid (below_over HB1.out HB1.out.size hb2)
    clear hb2
    go_wp2_with fail
    go_ret
    exact ⟨rfl, HB2.out⟩
  | true =>
    have HF := Lib.hid hf
    clear hf
    cases hx : fewX want with
    | false =>
      have HX := Lib.hid hx
      clear hx
      go_enter Tryz.func4, Tryz.ntmps4
      go_wp2_with fail
      refine (few27_any v hv _ HS.out).mono ?_
      rw [HF.out]
      rintro e w1 ⟨rfl, hb1⟩
      have HB1 := Lib.hid hb1
      clear hb1
      go_wp2_with fail
      refine (few27_any wv want _ (HW.out.over HB1.out)).mono ?_
      rw [HX.out]
      rintro e w2 ⟨rfl, hb2⟩
      have HB2 := Lib.hid (below_over HB1.out HB1.out.size hb2)
      clear hb2
      go_wp2_with fail
      refine (HWk.out _).mono ?_
      rintro e w3 ⟨rfl, hb3⟩
      have HB3 := Lib.hid (below_over HB2.out HB2.out.size hb3)
      clear hb3
      go_wp2_with fail
      go_ret
      exact ⟨rfl, HB3.out⟩
    | true =>
      have HX := Lib.hid hx
      have hnl := fewX_len HF.out
      have hml := fewX_len hx
      clear hx
      obtain ⟨a, cap, rfl, h1, h2, h3, hc⟩ := SRow.form HS.out
      obtain ⟨a', cap', rfl, h1', h2', h3', hc'⟩ := SRow.form HW.out
      unfold maxLen at h2 h2'
      have HC := Lib.hid hc
      clear hc hc' h3 h3'
      go_enter Tryz.func4, Tryz.ntmps4
      go_wp2_with fail
      refine (few27_any _ hv _ HS.out).mono ?_
      rw [HF.out]
      rintro e w1 ⟨rfl, hb1⟩
      have HB1 := Lib.hid hb1
      clear hb1
      go_wp2_with fail
      refine (few27_any _ want _ (HW.out.over HB1.out)).mono ?_
      rw [HX.out]
      rintro e w2 ⟨rfl, hb2⟩
      have HB2 := Lib.hid (below_over HB1.out HB1.out.size hb2)
      clear hb2
      go_wp2_with fail
      go_loopw [5] (fun v5 wr => EkRel w hv v5 wr) (fun v5 _ => hv.length - (intOf v5).toNat)
      case atStart => exact ⟨0, Nat.zero_le _, rfl, Lib.hid (by rw [List.take_zero]; rfl), HB2.out⟩
      case round =>
        obtain ⟨k, hk, rfl, HK, hbl⟩ := hrel
        rename World => wr
        have HBl := Lib.hid hbl
        by_cases hlt : k < hv.length
        · obtain ⟨bl, ol, rfl, sl, hcl⟩ := HC.out.resolve_left (by omega)
          obtain ⟨x, hxx⟩ := get_of_lt hlt
          have x0 : wr.cell? ⟨bl, ol + k, none⟩ = some (.string x) := by rw [hbl.cell sl]; exact hcl k x hxx
          have sx : bl < wr.heap.size := Nat.lt_of_lt_of_le sl hbl.size
          have HXx := Lib.hid hxx
          have hxs : x.size ≤ maxLen := Nat.le_trans (ek_small HF.out x (List.mem_of_getElem? hxx)) (by unfold maxLen; omega)
          have HXs := Lib.hid hxs
          clear hcl hxx hbl hxs
          cases hlo : lineOk x with
          | false =>
            have HLo := Lib.hid hlo
            clear hlo
            go_wp2_with fail
            refine (rline_any x _ HXs.out).mono ?_
            rw [HLo.out]
            rintro e w3 ⟨rfl, hb3⟩
            have HB3 := Lib.hid (below_over HBl.out HBl.out.size hb3)
            clear hb3
            go_wp2_with fail
            refine (HWk.out _).mono ?_
            rintro e w4 ⟨rfl, hb4⟩
            have HB4 := Lib.hid (below_over HB3.out HB3.out.size hb4)
            clear hb4
            go_wp2_with fail
            go_ret
            exact ⟨rfl, HB4.out⟩
          | true =>
            have HLo := Lib.hid hlo
            have HK2 : Hid ((hv.take (k + 1)).all lineOk = true) := by show _ = _; rw [take_succ_get HXx.out, List.all_append, HK.out]; simp [hlo]
            clear hlo
            go_wp2_with fail
            refine (rline_any x _ HXs.out).mono ?_
            rw [HLo.out]
            rintro e w3 ⟨rfl, hb3⟩
            have HB3 := Lib.hid (below_over HBl.out HBl.out.size hb3)
            clear hb3
            go_wp2_with fail
            go_roundw
            case rel => exact ⟨k + 1, hlt, by go_num, HK2, HB3.out⟩
            case measure => simp [intOf]; omega
        · obtain rfl : k = hv.length := by omega
          have hlok : ∀ t ∈ hv, lineOk t = true := by
            have := HK.out
            rw [List.take_length, List.all_eq_true] at this
            exact this
          have HLO := Lib.hid hlok
          clear hlok hbl HK
          have HA := Lib.hid (arr_new wr #[.int .u8 1, .int .u16 1] 26)
          have HB0 := Lib.hid (HBl.out.alloc HBl.out.size (.cells #[.int .u8 1, .int .u16 1] 26))
          go_upto_region 9 with (fail)
          generalize hw0 : wr.alloc (.cells #[.int .u8 1, .int .u16 1] 26) = w0 at *
          clear hw0
          have i0 := HA.out.cell (j := 0) rfl
          have i1 := HA.out.cell (j := 1) rfl
          have si := HA.out.lt
          go_wp2_with fail
          refine (pvid_any ⟨1, 1⟩ 0 _ (by omega)).mono ?_
          rintro e w3 ⟨rfl, hb3⟩
          have HB3 := Lib.hid (below_over HB0.out HB0.out.size hb3)
          have HA3 := Lib.hid (HA.out.over hb3)
          clear hb3 i0 i1 si
          go_upto_region 10 with (fail)
          have HA4 := Lib.hid (HA3.out.alloc (.cells #[.int .u8 1, .int .u16 1, .int .u8 0] 40))
          have HF4 := Lib.hid (arr_new w3 #[.int .u8 1, .int .u16 1, .int .u8 0] 40)
          have HB4 := Lib.hid (HB3.out.alloc HB3.out.size (.cells #[.int .u8 1, .int .u16 1, .int .u8 0] 40))
          generalize hw4 : w3.alloc (.cells #[.int .u8 1, .int .u16 1, .int .u8 0] 40) = w4 at *
          clear hw4
          generalize w3.heap.size = gF at *
          generalize wr.heap.size = gA at *
          have i0 := HA4.out.cell (j := 0) rfl
          have i1 := HA4.out.cell (j := 1) rfl
          have si := HA4.out.lt
          have j0 := HF4.out.cell (j := 0) rfl
          have j1 := HF4.out.cell (j := 1) rfl
          have j2 := HF4.out.cell (j := 2) rfl
          have sj := HF4.out.lt
          have HEO : Hid (∀ W, SRow W (.slice a hv.length cap) hv → Calls Tryz.prog 16 #[.pointer none, .agg #[.int .u8 1, .int .u16 1, .int .u8 0], .agg #[.int .u8 1, .int .u16 1], .int .i64 1, .slice a hv.length cap] W (OwnRes encOp 8 58 W (ekTail hv))) := Lib.hid fun W h => by
            have := eopsV_any none _ [] [] ekF ekId 1 hv W (.inr ⟨rfl, rfl, rfl⟩) (by simp) h (by omega) (by omega)
            rw [ek_edit0] at this
            exact this
          have HL5 : Hid (GOwn encOp 8 58 (w4.alloc (.cells #[.int .u8 1, .int .u8 0, .int .u16 0, .int .u8 0, .int .u8 0, .int .u16 0, .int .u8 0, .string ⟨#[]⟩] 58)) w4.heap.size (.slice (some ⟨w4.heap.size, 0, none⟩) 1 1) [fileO]) := Lib.hid (own_lit28 w4 58 [fileO] w4.heap.size rfl (by decide) (Nat.le_refl _))
          have HA5 := Lib.hid (HA4.out.alloc (.cells #[.int .u8 1, .int .u8 0, .int .u16 0, .int .u8 0, .int .u8 0, .int .u16 0, .int .u8 0, .string ⟨#[]⟩] 58))
          have HF5 := Lib.hid (HF4.out.alloc (.cells #[.int .u8 1, .int .u8 0, .int .u16 0, .int .u8 0, .int .u8 0, .int .u16 0, .int .u8 0, .string ⟨#[]⟩] 58))
          have HB45 := Lib.hid (below_new (w := w4) (.cells #[.int .u8 1, .int .u8 0, .int .u16 0, .int .u8 0, .int .u8 0, .int .u16 0, .int .u8 0, .string ⟨#[]⟩] 58))
          have HB5 := Lib.hid (HB4.out.alloc HB4.out.size (.cells #[.int .u8 1, .int .u8 0, .int .u16 0, .int .u8 0, .int .u8 0, .int .u16 0, .int .u8 0, .string ⟨#[]⟩] 58))
          have HS5 := Lib.hid (HS.out.over HB5.out)
          go_wp2_with (fail)
          refine (HEO.out _ HS5.out).mono ?_
          rintro e w6 ⟨v6, rfl, ho6, hb6⟩
          have HO6 := Lib.hid ho6
          have HL6 := Lib.hid (HL5.out.over hb6)
          have HA6 := Lib.hid (HA5.out.over hb6)
          have HF6 := Lib.hid (HF5.out.over hb6)
          have HB46 := Lib.hid (below_over HB45.out HB45.out.size hb6)
          have hB6s := HB46.out.size
          have hN6 : 1 + (ekTail hv).length ≤ 1099511627776 := by have : (ekOps hv).length = (ekTail hv).length + 1 := by unfold ekOps; rfl
                                                                  have := ek_len hv; omega
          have HN6 := Lib.hid hN6
          have hlen : (ekOps hv).length = 1 + (ekTail hv).length := by unfold ekOps; rw [List.length_cons]; omega
          have hcat : (ekOps hv).flatMap encOp = [fileO].flatMap encOp ++ (ekTail hv).flatMap encOp := by unfold ekOps; rfl
          have HLE : Hid (∀ (W : World) (B : Nat) (v : Value), World.ownsRow W B 58 8 v (1 + (ekTail hv).length) ([fileO].flatMap encOp ++ (ekTail hv).flatMap encOp) → GOwn encOp 8 58 W B v (ekOps hv)) := Lib.hid fun W B v h => by unfold GOwn; rw [hlen, hcat]; exact h
          clear ho6 hb6 hlen hcat hN6
          go_upto_region 11 with (at_builtin; refine wpList_append_old slOp rfl _ _ rfl w4.heap.size _ _ _ HL6.out rfl _ _ _ HO6.out.row rfl (onesOps _) HN6.out (by decide) hB6s ?_; intro v7 w7 ho7 hg7; have HO7 := Lib.hid (HLE.out _ _ _ ho7); have HB47 := Lib.hid (below_grown HB46.out HB46.out.size HL6.out hg7); clear ho7 hg7; (obtain ⟨p7, c7, e7⟩ := oown_form HO7.out); subst e7)
          have HNl : Hid ((ekOps hv).length ≤ 60) := Lib.hid (by have := ek_len hv; omega)
          have HMk : Hid (∀ (v : Value) (W : World), GRow encOp 8 W v (ekOps hv) → Calls Tryz.prog 22 #[.agg #[.int .u8 1, .int .u16 1], v] W fun e w' => ∃ pd cd po co, e = .returned (.tuple #[.agg #[.int .u8 1, .int .u16 1, .slice pd 0 cd, .slice po (ekOps hv).length co], .int .i64 0]) ∧ GOwn encPid 2 26 w' W.heap.size (.slice pd 0 cd) [] ∧ GOwn encOp 8 58 w' W.heap.size (.slice po (ekOps hv).length co) (ekOps hv) ∧ Below W.heap.size W w') := Lib.hid fun v W h => by
            refine (pmake_any ekId v (ekOps hv) W h (by have := HNl.out; omega) (fun o ho => Nat.le_trans (ek_opsz HF.out o ho) (by unfold maxLen; omega)) (ek_goodQ hnl HLO.out)).mono ?_
            rintro e w' ⟨pd, cd, po, co, rfl, h1, h2, h3⟩
            rw [ek_deps] at h1 ⊢
            exact ⟨pd, cd, po, co, rfl, h1, h2, h3⟩
          have HFW : Hid (fewL 20 [ekPat hv] = true) := Lib.hid (ek_few HF.out)
          have HGL : Hid (buildM [ekPat hv] = [ekPat hv]) := Lib.hid (ek_build hnl HLO.out)
          have HLN : Hid (linesM [ekPat hv] ekF = ekLines hv ∧ relM [ekPat hv] ekF = ekR hv.length) := Lib.hid ⟨ek_lines hnl HLO.out, ek_rel hnl HLO.out⟩
          have HPT : Hid ((ekPat hv).ops = ekOps hv) := Lib.hid rfl
          generalize hN : (ekOps hv).length = N at *
          have HN := Lib.hid hN
          clear hN
          have HA7 := Lib.hid (HA4.out.over HB47.out)
          have HF7 := Lib.hid (HF4.out.over HB47.out)
          have HB7 := Lib.hid (below_over HB4.out HB4.out.size HB47.out)
          clear i0 i1 si j0 j1 j2 sj hB6s
          have i0 := HA7.out.cell (j := 0) rfl
          have i1 := HA7.out.cell (j := 1) rfl
          have si := HA7.out.lt
          go_wp2_with fail
          refine (HMk.out _ _ HO7.out.row).mono ?_
          rintro e w8 ⟨pd, cd, po, co, rfl, h81, h82, h83⟩
          have HD8 := Lib.hid h81
          have HO8 := Lib.hid h82
          have HB8 := Lib.hid (below_over HB7.out HB7.out.size h83)
          have HF8 := Lib.hid (HF7.out.over h83)
          clear h81 h82 h83 i0 i1 si
          go_upto_region 14 with (fail)
          have HP9 := Lib.hid (arr_new w8 #[.int .u8 1, .int .u16 1, .slice pd 0 cd, .slice po N co] 61)
          have HD9 := Lib.hid (HD8.out.over (below_new (w := w8) (.cells #[.int .u8 1, .int .u16 1, .slice pd 0 cd, .slice po N co] 61)))
          have HO9 := Lib.hid (HO8.out.over (below_new (w := w8) (.cells #[.int .u8 1, .int .u16 1, .slice pd 0 cd, .slice po N co] 61)))
          have HF9 := Lib.hid (HF8.out.over (below_new (w := w8) (.cells #[.int .u8 1, .int .u16 1, .slice pd 0 cd, .slice po N co] 61)))
          have HB9 := Lib.hid (HB8.out.alloc HB8.out.size (.cells #[.int .u8 1, .int .u16 1, .slice pd 0 cd, .slice po N co] 61))
          generalize hw9 : w8.alloc (.cells #[.int .u8 1, .int .u16 1, .slice pd 0 cd, .slice po N co] 61) = w9 at *
          clear hw9
          generalize w8.heap.size = gP at *
          have p0 := HP9.out.cell (j := 0) rfl
          have p1 := HP9.out.cell (j := 1) rfl
          have p2 := HP9.out.cell (j := 2) rfl
          have p3 := HP9.out.cell (j := 3) rfl
          have sp := HP9.out.lt
          have j0 := HF9.out.cell (j := 0) rfl
          have j1 := HF9.out.cell (j := 1) rfl
          have j2 := HF9.out.cell (j := 2) rfl
          have sj := HF9.out.lt
          have HW9 := Lib.hid (HW.out.over HB9.out)
          have HQ : Hid (∀ {W u : World}, Below w9.heap.size w9 W → Below W.heap.size W u → Below w9.heap.size w9 u) := Lib.hid fun h1 h2 => below_over h1 h1.size h2
          have HPW : Hid (∀ (W : World) (b : Nat), Below w9.heap.size w9 W → b = W.heap.size → Pats (W.alloc (.cells #[.int .u8 1, .int .u16 1, .slice pd 0 cd, .slice po N co] 61)) (.slice (some ⟨b, 0, none⟩) 1 1) [(⟨ekPat hv, .slice pd 0 cd, .slice po N co⟩ : LaidP)]) := Lib.hid fun W b hb hbe => by
            subst hbe
            refine ⟨(show GOwn encPat 4 61 (W.alloc (.cells #[.int .u8 1, .int .u16 1, .slice pd 0 cd, .slice po N co] 61)) 0 (.slice (some ⟨W.heap.size, 0, none⟩) 1 1) [(⟨ekPat hv, .slice pd 0 cd, .slice po N co⟩ : LaidP)] from own_lit28 W 61 [(⟨ekPat hv, .slice pd 0 cd, .slice po N co⟩ : LaidP)] 0 rfl (by show 1 ≤ maxLen; unfold maxLen; omega) (Nat.zero_le _)).row, fun x hx => ?_⟩
            obtain rfl : x = ⟨ekPat hv, .slice pd 0 cd, .slice po N co⟩ := by simpa using hx
            refine ⟨((HD9.out.over hb).over (below_new _)).row, ?_⟩
            have h9 := ((HO9.out.over hb).over (below_new (w := W) (.cells #[.int .u8 1, .int .u16 1, .slice pd 0 cd, .slice po N co] 61))).row
            rw [← HPT.out] at h9
            exact h9
          have HCB : Hid (∀ v W, Pats W v [(⟨ekPat hv, .slice pd 0 cd, .slice po N co⟩ : LaidP)] → Calls Tryz.prog 12 #[v] W fun e w' => ∃ b, e = .returned (.pointer (some ⟨b, 0, none⟩)) ∧ GrIs w' b [ekPat hv] ∧ Below W.heap.size W w') := Lib.hid fun v W h => by
            refine (build_any v _ 20 (by omega) W h HFW.out).mono ?_
            rintro e w' ⟨b, bv, be, n, hn, rfl, hgr⟩
            obtain ⟨_, _, _, hG, hb⟩ := hgr
            rw [show ([(⟨ekPat hv, .slice pd 0 cd, .slice po N co⟩ : LaidP)]).map (·.p) = [ekPat hv] from rfl, HGL.out] at hG
            exact ⟨b, rfl, ⟨bv, be, n, hG⟩, hb⟩
          have HCO : Hid (∀ (b : Nat) (W : World), GrIs W b [ekPat hv] → Calls Tryz.prog 17 #[.pointer (some ⟨b, 0, none⟩), .agg #[.int .u8 1, .int .u16 1, .int .u8 0]] W (LofRes W (ekLines hv) (ekR hv.length))) := Lib.hid fun b W h => by
            have hb60 : ∀ p ∈ [ekPat hv], p.ops.length ≤ 60 := fun p hp => by
              obtain rfl : p = ekPat hv := by simpa using hp
              rw [HPT.out, HN.out]; exact HNl.out
            have h9 := lof_any b [ekPat hv] ekF W h (by have := wf_build [ekPat hv]; rwa [HGL.out] at this) (Nat.le_trans (setS_few _) (Nat.le_trans (idsOf_few _ 60 hb60) (by show 60 * 1 ≤ 65536; omega))) (Nat.le_trans (setS_few _) (Nat.le_trans (edgesOf_few _ 60 hb60) (by show 60 * 1 ≤ 1000000; omega)))
            rw [HLN.out.1, HLN.out.2] at h9
            exact h9
          have HCE : Hid (∀ (s : Nat) (W : World), ShAt W s (ekLines hv) (ekR hv.length) → SRow W (.slice a' want.length cap') want → Calls Tryz.prog 16 #[.pointer (some ⟨s, 0, none⟩), .agg #[.int .u8 1, .int .u16 1, .int .u8 0], .agg #[.int .u8 2, .int .u16 1], .int .i64 0, .slice a' want.length cap'] W (OwnRes encOp 8 58 W (ekGot hv want))) := Lib.hid fun s W h1 h2 => by
            have h9 := eopsV_any (some ⟨s, 0, none⟩) _ (ekLines hv) (ekR hv.length) ekF ekTo 0 want W (.inl ⟨s, rfl, h1⟩) (by rw [ekLines_len]; omega) h2 (by omega) (by omega)
            have e9 : editM (ekLines hv) (ekR hv.length) (aliveX (ekLines hv) (ekR hv.length)) (firmX (ekLines hv) (ekR hv.length)) ekF ekTo 0 want (pairs ((firmX (ekLines hv) (ekR hv.length)).map (textAt (ekLines hv))) want) = ekGot hv want := by unfold ekGot; rfl
            rw [e9] at h9
            exact h9
          have HCN : Hid (kindsN 5 (ekGot hv want) + (pairs hv want).length = hv.length ∧ kindsN 3 (ekGot hv want) + (pairs hv want).length = want.length) := Lib.hid (ek_counts hv want)
          have HSM : Hid (hv = want → ekGot hv want = []) := Lib.hid fun h => by subst h; exact ek_same hv
          generalize ekGot hv want = G at *
          clear HA HB0 HB3 HA3 HA4 HF4 HB4 HEO HL5 HA5 HF5 HB45 HB5 HS5 HO6 HL6 HA6 HF6 HB46 HLE HMk HA7 HF7 HB7 HO7 HB47 HD8 HO8 HB8 HF8 HFW HGL HLN HPT
          have HS9 : Hid (∀ w' : World, Below w9.heap.size w9 w' → (w'.cell? ⟨gP, 0, none⟩ = some (.int .u8 1) ∧ w'.cell? ⟨gP, 1, none⟩ = some (.int .u16 1) ∧ w'.cell? ⟨gP, 2, none⟩ = some (.slice pd 0 cd) ∧ w'.cell? ⟨gP, 3, none⟩ = some (.slice po N co) ∧ w'.cell? ⟨gF, 0, none⟩ = some (.int .u8 1) ∧ w'.cell? ⟨gF, 1, none⟩ = some (.int .u16 1) ∧ w'.cell? ⟨gF, 2, none⟩ = some (.int .u8 0) ∧ Below w9.heap.size w9 w')) := Lib.hid fun w' hb => ⟨(hb.cell (p := ⟨gP, 0, none⟩) sp).trans p0, (hb.cell (p := ⟨gP, 1, none⟩) sp).trans p1, (hb.cell (p := ⟨gP, 2, none⟩) sp).trans p2, (hb.cell (p := ⟨gP, 3, none⟩) sp).trans p3, (hb.cell (p := ⟨gF, 0, none⟩) sj).trans j0, (hb.cell (p := ⟨gF, 1, none⟩) sj).trans j1, (hb.cell (p := ⟨gF, 2, none⟩) sj).trans j2, hb⟩
          go_cut [11] (fun s wx => ∃ p9 c9, s = .slice p9 G.length c9 ∧ Hid (GRow encOp 8 wx (.slice p9 G.length c9) G) ∧ Hid (Below w9.heap.size w9 wx))
          case first =>
            go_region_held3 (fun w' => w'.cell? ⟨gP, 0, none⟩ = some (.int .u8 1) ∧ w'.cell? ⟨gP, 1, none⟩ = some (.int .u16 1) ∧ w'.cell? ⟨gP, 2, none⟩ = some (.slice pd 0 cd) ∧ w'.cell? ⟨gP, 3, none⟩ = some (.slice po N co) ∧ w'.cell? ⟨gF, 0, none⟩ = some (.int .u8 1) ∧ w'.cell? ⟨gF, 1, none⟩ = some (.int .u16 1) ∧ w'.cell? ⟨gF, 2, none⟩ = some (.int .u8 0) ∧ Below w9.heap.size w9 w') (first | (refine HS9.out _ ?_; ((repeat (first | exact Below.refl _ _ | exact HBvC.out | exact HBvB.out | exact HBvA.out | refine Below.drew ?_ | refine balloc28 ?_ _ | exact Nat.le_refl _)); done)))
              (first | (go_at_call 12; refine (HCB.out _ _ (by with_reducible exact (HPW.out _ _ (by ((repeat (first | exact Below.refl _ _ | refine Below.drew ?_ | refine balloc28 ?_ _ | exact Nat.le_refl _)); done)) (by simp)).over (Below.drew (Below.refl _ _)))).mono ?_; rintro e uA ⟨gb, rfl, hg, hb5⟩; have HBvA : Hid (Below w9.heap.size w9 uA) := Lib.hid (HQ.out (by with_reducible ((repeat (first | exact Below.refl _ _ | refine Below.drew ?_ | refine balloc28 ?_ _ | exact Nat.le_refl _)); done)) hb5); have HGA := Lib.hid hg; clear hb5 hg) | (go_at_call 17; refine (HCO.out _ _ (by with_reducible exact HGA.out)).mono ?_; rintro e uB ⟨sB, rfl, hsz, hsh, hb5⟩; have HBvB : Hid (Below w9.heap.size w9 uB) := Lib.hid (HQ.out (by with_reducible ((repeat (first | exact Below.refl _ _ | exact HBvA.out | refine Below.drew ?_ | refine balloc28 ?_ _ | exact Nat.le_refl _)); done)) hb5); have HSB := Lib.hid hsh; clear hb5 hsh hsz) | (have hqq := HSB; clear hqq; go_at_call 16; refine (HCE.out _ _ (by with_reducible exact HSB.out) (HW9.out.over HBvB.out)).mono ?_; rintro e uC ⟨vC, rfl, hoC, hb5⟩; have HBvC : Hid (Below w9.heap.size w9 uC) := Lib.hid (HQ.out (by with_reducible ((repeat (first | exact Below.refl _ _ | exact HBvB.out | refine Below.drew ?_ | refine balloc28 ?_ _ | exact Nat.le_refl _)); done)) hb5); (obtain ⟨p9, c9, e9⟩ := oown_form hoC); have HOC := Lib.hid hoC.row; clear hb5 hoC; subst e9))
            all_goals (rename_i J K hJ hK hHeld; clear hHeld; refine hK _ _ (Met.intro (hJ _ _ ?_)); (repeat apply Exists.intro); refine ⟨?_, rfl⟩; exact ⟨p9, c9, rfl, HOC, HBvC⟩)
          case rest =>
            obtain ⟨p9, c9, rfl, HOC, HBvC⟩ := hcut
            rename World => w10
            clear p0 p1 p2 p3 sp j0 j1 j2 sj HS9 HCE HCO HCB HPW HQ
            obtain ⟨q9, cap9, e9, z1, z2, hcl⟩ := HOC.out.at encOp_len
            cases e9
            unfold maxLen at z2
            have HCL := Lib.hid hcl
            have HBt := Lib.hid (below_over HB9.out HB9.out.size HBvC.out)
            clear hcl
            go_wp2_with fail
            go_loopw [12, 13, 14] (fun v12 v13 v14 wr => EkCnt w10 G v12 v13 v14 wr) (fun _ _ v14 _ => G.length - (intOf v14).toNat)
            case atStart => exact ⟨0, 0, 0, Nat.zero_le _, Nat.le_refl _, Nat.le_refl _, rfl, rfl, rfl, Lib.hid (kindsN_zero _ _).symm, Lib.hid (kindsN_zero _ _).symm, rfl⟩
            case round =>
              obtain ⟨k, na, nb, hk, hna, hnb, rfl, rfl, rfl, HKa, HKb, hwr⟩ := hrel
              obtain rfl := hwr.symm
              by_cases hlt : k < G.length
              · obtain ⟨bo, oo, rfl, so, hco⟩ := HCL.out.resolve_left (by omega)
                obtain ⟨o, ho⟩ := get_of_lt hlt
                have o0 : w10.cell? ⟨bo, oo + k * 8, none⟩ = some (.int .u8 (o.kind.toNat : Int)) := (hco k o ho w10 (Below.refl _ _)).2 0 _ rfl
                have ha1 := kindsN_step 5 ho
                have hb1 := kindsN_step 3 ho
                rw [← HKa.out] at ha1
                rw [← HKb.out] at hb1
                clear hco ho
                by_cases h5 : o.kind = 5
                · rw [h5] at o0 ha1 hb1
                  have HA1 : Hid (na + 1 = kindsN 5 (G.take (k + 1))) := Lib.hid (by rw [ha1, if_pos rfl])
                  have HB1 : Hid (nb = kindsN 3 (G.take (k + 1))) := Lib.hid (by rw [hb1, if_neg (by decide), Nat.add_zero])
                  have o1 : w10.cell? ⟨bo, oo + k * 8, none⟩ = some (.int .u8 5) := o0
                  clear o0 ha1 hb1 h5
                  go_wp2_with fail
                  go_roundw
                  case rel => exact ⟨k + 1, na + 1, nb, hlt, by omega, by omega, by go_num, by go_num, rfl, HA1, HB1, rfl⟩
                  case measure => simp [intOf]; omega
                · by_cases h3 : o.kind = 3
                  · rw [h3] at o0 ha1 hb1
                    have HA1 : Hid (na = kindsN 5 (G.take (k + 1))) := Lib.hid (by rw [ha1, if_neg (by decide), Nat.add_zero])
                    have HB1 : Hid (nb + 1 = kindsN 3 (G.take (k + 1))) := Lib.hid (by rw [hb1, if_pos rfl])
                    have o1 : w10.cell? ⟨bo, oo + k * 8, none⟩ = some (.int .u8 3) := o0
                    clear o0 ha1 hb1 h3 h5
                    go_wp2_with fail
                    go_roundw
                    case rel => exact ⟨k + 1, na, nb + 1, hlt, by omega, by omega, by go_num, rfl, by go_num, HA1, HB1, rfl⟩
                    case measure => simp [intOf]; omega
                  · have HA1 : Hid (na = kindsN 5 (G.take (k + 1))) := Lib.hid (by rw [ha1, if_neg h5, Nat.add_zero])
                    have HB1 : Hid (nb = kindsN 3 (G.take (k + 1))) := Lib.hid (by rw [hb1, if_neg h3, Nat.add_zero])
                    have g5 : ((o.kind.toNat : Int) == 5) = false := by
                      rw [beq_eq_false_iff_ne]; intro e; exact h5 ((u8_nat _ 5 (by omega)).2 (by omega))
                    have g3 : ((o.kind.toNat : Int) == 3) = false := by
                      rw [beq_eq_false_iff_ne]; intro e; exact h3 ((u8_nat _ 3 (by omega)).2 (by omega))
                    clear ha1 hb1 h3 h5
                    go_wp2_with fail
                    go_roundw
                    case rel => exact ⟨k + 1, na, nb, hlt, by omega, by omega, by go_num, rfl, rfl, HA1, HB1, rfl⟩
                    case measure => simp [intOf]; omega
              · obtain rfl : k = G.length := by omega
                have hA := HKa.out
                have hB := HKb.out
                rw [List.take_length] at hA hB
                obtain ⟨c1, c2⟩ := HCN.out
                rw [← hA] at c1
                rw [← hB] at c2
                clear hA hB HKa HKb
                generalize (pairs hv want).length = np at c1 c2
                have x1 : ((hv.length : Int) - (na : Int) == (want.length : Int) - (nb : Int)) = true := by rw [beq_iff_eq]; omega
                have x2 : decide ((na : Int) ≤ (hv.length : Int)) = true := decide_eq_true (by omega)
                have x4 : na ≤ hv.length := by omega
                have HC1 := Lib.hid c1
                have HC2 := Lib.hid c2
                by_cases hsame : hv = want
                · have hG := HSM.out hsame
                  have x3 : ((G.length : Int) == 0) = true := by rw [hG]; rfl
                  have HST := Lib.hid (sameS_t hsame)
                  clear c1 c2 hG hsame
                  go_wp2_with fail
                  refine (rtexts_any _ _ hv want _ (HS.out.over HBt.out) (HW.out.over HBt.out)).mono ?_
                  rw [HST.out]
                  rintro e w11 ⟨rfl, hb11⟩
                  have HB11 := Lib.hid (below_over HBt.out HBt.out.size hb11)
                  clear hb11
                  go_wp2_with fail
                  refine (HWk.out _).mono ?_
                  rintro e w12 ⟨rfl, hb12⟩
                  have HB12 := Lib.hid (below_over HB11.out HB11.out.size hb12)
                  clear hb12
                  go_wp2_with fail
                  go_ret
                  exact ⟨rfl, HB12.out⟩
                · have HST := Lib.hid (sameS_f hsame)
                  clear c1 c2 hsame
                  go_wp2_with fail
                  refine (rtexts_any _ _ hv want _ (HS.out.over HBt.out) (HW.out.over HBt.out)).mono ?_
                  rw [HST.out]
                  rintro e w11 ⟨rfl, hb11⟩
                  have HB11 := Lib.hid (below_over HBt.out HBt.out.size hb11)
                  clear hb11
                  go_wp2_with fail
                  refine (HWk.out _).mono ?_
                  rintro e w12 ⟨rfl, hb12⟩
                  have HB12 := Lib.hid (below_over HB11.out HB11.out.size hb12)
                  clear hb12
                  go_wp2_with fail
                  go_ret
                  exact ⟨rfl, HB12.out⟩
end Go.Proofs.YtllcipobiengiaaGreat
