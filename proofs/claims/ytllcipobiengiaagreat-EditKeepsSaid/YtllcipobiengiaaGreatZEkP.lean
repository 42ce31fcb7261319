/- Plain words on the patch of some lines: what EditKeeps makes and what it finds. -/
import Derived.Test.YtllcipobiengiaaGreatZLinP
import Derived.Test.YtllcipobiengiaaGreatZGoodE
namespace Go.Proofs.YtllcipobiengiaaGreat
open Go Go.RowKit

def ekId : PidM := ⟨1, 1⟩
def ekVid (k : Nat) : VidM := ⟨ekId, UInt8.ofNat k⟩
def ekF : VidM := ⟨ekId, 0⟩
def fileO : OpM := ⟨1, noVid, noVid, ⟨#[]⟩⟩
def lineO (t : ByteArray) : OpM := ⟨3, ekF, noVid, t⟩
def edgeO (j : Nat) : OpM := ⟨4, ekVid (j + 1), ekVid (j + 2), ⟨#[]⟩⟩
def ekTail (hv : List ByteArray) : List OpM := hv.map lineO ++ (List.range (hv.length - 1)).map edgeO
def ekOps (hv : List ByteArray) : List OpM := fileO :: ekTail hv
def ekPat (hv : List ByteArray) : PatchM := ⟨ekId, [], ekOps hv⟩
theorem ek_len (hv : List ByteArray) : (ekOps hv).length = 1 + (hv.length + (hv.length - 1)) := by
  unfold ekOps ekTail; simp; omega
theorem ekN {k : Nat} (h : k < 256) : (ekVid k).n.toNat = k := by show (UInt8.ofNat k).toNat = k; simp; omega
theorem ekVid_inj {i j : Nat} (hi : i < 256) (hj : j < 256) (h : ekVid i = ekVid j) : i = j := by
  have := congrArg (fun v => v.n.toNat) h
  rwa [show (ekVid i).n.toNat = i from ekN hi, show (ekVid j).n.toNat = j from ekN hj] at this
theorem ek_get0 (hv : List ByteArray) : (ekOps hv)[0]? = some fileO := rfl
theorem ek_getL {hv : List ByteArray} {k : Nat} {t : ByteArray} (h : hv[k]? = some t) : (ekOps hv)[k + 1]? = some (lineO t) := by
  have hk := (List.getElem?_eq_some_iff.1 h).1
  unfold ekOps ekTail
  rw [List.getElem?_cons_succ, List.getElem?_append_left (by simpa using hk), List.getElem?_map, h]; rfl
theorem ek_getE {hv : List ByteArray} {j : Nat} (h : j < hv.length - 1) : (ekOps hv)[hv.length + 1 + j]? = some (edgeO j) := by
  unfold ekOps ekTail
  rw [show hv.length + 1 + j = (hv.length + j) + 1 by omega, List.getElem?_cons_succ, List.getElem?_append_right (by simp), List.getElem?_map]
  simp [List.getElem?_range h]
theorem ek_cases {hv : List ByteArray} {i : Nat} {o : OpM} (h : (ekOps hv)[i]? = some o) : (i = 0 ∧ o = fileO) ∨ (∃ (k : Nat) (t : ByteArray), i = k + 1 ∧ hv[k]? = some t ∧ o = lineO t) ∨ (∃ j, j < hv.length - 1 ∧ i = hv.length + 1 + j ∧ o = edgeO j) := by
  have hi := (List.getElem?_eq_some_iff.1 h).1
  rw [ek_len] at hi
  rcases Nat.eq_zero_or_pos i with rfl | h0
  · rw [ek_get0] at h; cases h; exact .inl ⟨rfl, rfl⟩
  · rcases Nat.lt_or_ge (i - 1) hv.length with h1 | h1
    · obtain ⟨t, ht⟩ : ∃ t, hv[i - 1]? = some t := ⟨_, List.getElem?_eq_getElem h1⟩
      have := ek_getL ht
      rw [show i - 1 + 1 = i by omega, h] at this
      cases this
      exact .inr (.inl ⟨i - 1, t, by omega, ht, rfl⟩)
    · have hj : i - (hv.length + 1) < hv.length - 1 := by omega
      have := ek_getE hj
      rw [show hv.length + 1 + (i - (hv.length + 1)) = i by omega, h] at this
      cases this
      exact .inr (.inr ⟨_, hj, by omega, rfl⟩)
theorem ek_mem {hv : List ByteArray} {o : OpM} (h : o ∈ ekOps hv) : o = fileO ∨ (∃ (k : Nat) (t : ByteArray), hv[k]? = some t ∧ o = lineO t) ∨ (∃ j, j < hv.length - 1 ∧ o = edgeO j) := by
  obtain ⟨i, hi⟩ := List.getElem?_of_mem h
  rcases ek_cases hi with ⟨_, rfl⟩ | ⟨k, t, _, h1, rfl⟩ | ⟨j, h1, _, rfl⟩
  · exact .inl rfl
  · exact .inr (.inl ⟨k, t, h1, rfl⟩)
  · exact .inr (.inr ⟨j, h1, rfl⟩)
theorem ek_refsL (t : ByteArray) : refsM (lineO t) = [ekF] := rfl
theorem ek_refsE (j : Nat) : refsM (edgeO j) = [ekVid (j + 1), ekVid (j + 2)] := rfl
theorem ek_deps (hv : List ByteArray) : depsM ekId (ekOps hv) = [] := by
  have h : depsOf ekId (ekOps hv) = [] := by
    unfold depsOf
    rw [if_neg (by decide), List.nil_append, List.flatMap_eq_nil_iff]
    intro o ho
    rcases ek_mem ho with rfl | ⟨k, t, _, rfl⟩ | ⟨j, _, rfl⟩
    · rfl
    · rw [ek_refsL]; rfl
    · rw [ek_refsE]
      simp [ekVid]
  unfold depsM
  rw [h]; rfl
theorem ek_goodVid {k : Nat} (h : k < 200) : goodVid (ekVid k) = true := by
  unfold goodVid
  rw [ekN (by omega)]
  simp only [Bool.and_eq_true, decide_eq_true_eq]
  exact ⟨(by decide : goodPid ekId = true), h⟩
theorem ek_one {hv : List ByteArray} (hn : hv.length ≤ 30) (hl : ∀ t ∈ hv, lineOk t = true) {i : Nat} {o : OpM} (h : (ekOps hv)[i]? = some o) : oneB (ekPat hv) i o = true := by
  rcases ek_cases h with ⟨rfl, rfl⟩ | ⟨k, t, rfl, h1, rfl⟩ | ⟨j, hj, rfl, rfl⟩
  · unfold oneB
    rw [show (ekPat hv).id = ekId from rfl, show opGood ekId 0 fileO = true from by decide, show laterB ekId fileO = false from by decide, show kindsB (ekPat hv) fileO = true from rfl]
    rfl
  · have hlt := hl t (List.mem_of_getElem? h1)
    have hg : opGood ekId (k + 1) (lineO t) = true := by
      unfold opGood
      rw [ek_refsL]
      simp only [List.all_cons, List.all_nil, Bool.and_true, Bool.and_eq_true]
      refine ⟨?_, ?_⟩
      · unfold refOk
        rw [show goodVid ekF = true from by decide]
        simp [ekF, ekId]
      · simp [opTail, lineO, hlt]
    have hla : laterB ekId (lineO t) = false := by
      unfold laterB; rw [ek_refsL]; rfl
    unfold oneB
    rw [show (ekPat hv).id = ekId from rfl, hg, hla]
    have hk : kindsB (ekPat hv) (lineO t) = true := by
      unfold kindsB
      rw [if_pos (show (lineO t).kind = 2 ∨ (lineO t).kind = 3 from .inr rfl)]
      rfl
    rw [hk]
    rfl
  · have a1 : j + 1 < hv.length := by omega
    have hg : opGood ekId (hv.length + 1 + j) (edgeO j) = true := by
      unfold opGood
      rw [ek_refsE]
      simp only [List.all_cons, List.all_nil, Bool.and_true, Bool.and_eq_true]
      refine ⟨⟨?_, ?_⟩, ?_⟩
      · unfold refOk
        rw [ek_goodVid (by omega), ekN (by omega)]
        simp; omega
      · unfold refOk
        rw [ek_goodVid (by omega), ekN (by omega)]
        simp; omega
      · have hne : ekVid (j + 1) ≠ ekVid (j + 2) := fun e => by have := ekVid_inj (by omega) (by omega) e; omega
        show (decide (ekVid (j + 1) ≠ ekVid (j + 2)) && decide ((⟨#[]⟩ : ByteArray).size = 0)) = true
        rw [decide_eq_true hne]; rfl
    have hla : laterB ekId (edgeO j) = false := by
      unfold laterB; rw [ek_refsE]; rfl
    have hnew : edgeO j ∉ (ekOps hv).take (hv.length + 1 + j) := by
      intro hm
      obtain ⟨i, hi⟩ := List.getElem?_of_mem hm
      have hi1 := (List.getElem?_eq_some_iff.1 hi).1
      rw [List.length_take] at hi1
      rw [List.getElem?_take, if_pos (by omega)] at hi
      rcases ek_cases hi with ⟨_, e⟩ | ⟨k, t, _, _, e⟩ | ⟨j', hj', e', e⟩
      · exact absurd (congrArg OpM.kind e) (by show ¬ (4 : UInt8) = 1; decide)
      · exact absurd (congrArg OpM.kind e) (by show ¬ (4 : UInt8) = 3; decide)
      · have : j + 1 = j' + 1 := ekVid_inj (by omega) (by omega) (congrArg OpM.at' e)
        omega
    have hk : kindsB (ekPat hv) (edgeO j) = true := by
      obtain ⟨t, ht⟩ : ∃ t, hv[j]? = some t := ⟨_, List.getElem?_eq_getElem (by omega)⟩
      obtain ⟨t', ht'⟩ : ∃ t, hv[j + 1]? = some t := ⟨_, List.getElem?_eq_getElem (by omega)⟩
      have g1 : (ekPat hv).ops[(ekVid (j + 1)).n.toNat]? = some (lineO t) := by rw [ekN (by omega)]; exact ek_getL ht
      have g2 : (ekPat hv).ops[(ekVid (j + 2)).n.toNat]? = some (lineO t') := by rw [ekN (by omega)]; exact ek_getL ht'
      unfold kindsB
      rw [if_neg (show ¬ ((edgeO j).kind = 2 ∨ (edgeO j).kind = 3) from by show ¬ ((4 : UInt8) = 2 ∨ (4 : UInt8) = 3); decide), if_pos (show (edgeO j).kind = 4 from rfl)]
      unfold ownB atOf
      rw [show (edgeO j).at' = ekVid (j + 1) from rfl, show (edgeO j).to = ekVid (j + 2) from rfl, g1, g2]
      simp [lineO]
    unfold oneB
    rw [show (ekPat hv).id = ekId from rfl, hg, hla, hk]
    have hnew' : decide (edgeO j ∈ (ekPat hv).ops.take (hv.length + 1 + j)) = false := by
      rw [decide_eq_false_iff_not]; exact hnew
    rw [hnew']; simp
theorem ek_goodP {hv : List ByteArray} (hn : hv.length ≤ 30) (hl : ∀ t ∈ hv, lineOk t = true) : goodP (ekPat hv) = true := by
  unfold goodP
  simp only [Bool.and_eq_true, decide_eq_true_eq]
  refine ⟨(by decide : goodPid ekId = true), ?_, ?_, (ek_deps hv).symm, ?_⟩
  · show 1 ≤ (ekOps hv).length
    rw [ek_len]; omega
  · show (ekOps hv).length ≤ 200
    rw [ek_len]; omega
  · unfold allB
    rw [List.all_eq_true]
    intro i hi
    obtain ⟨o, ho⟩ : ∃ o, (ekOps hv)[i]? = some o := ⟨_, List.getElem?_eq_getElem (List.mem_range.1 hi)⟩
    rw [show (ekPat hv).ops[i]? = some o from ho]
    exact ek_one hn hl ho
theorem ek_goodQ {hv : List ByteArray} (hn : hv.length ≤ 30) (hl : ∀ t ∈ hv, lineOk t = true) : goodQ ekId (depsM ekId (ekOps hv)) (ekOps hv) = true := by
  rw [ek_deps]
  exact (goodQ_eq (ekPat hv)).trans (ek_goodP hn hl)
/-! ### the graph of the patch -/
theorem ek_dead (hv : List ByteArray) (v : VidM) : deadM [ekPat hv] v = false := by
  unfold deadM
  rw [List.any_cons, List.any_nil, Bool.or_false, ← Bool.not_eq_true, List.any_eq_true]
  rintro ⟨o, ho, h⟩
  simp only [Bool.and_eq_true, decide_eq_true_eq] at h
  rcases ek_mem ho with rfl | ⟨k, t, _, rfl⟩ | ⟨j, _, rfl⟩
  · exact absurd h.1 (by decide)
  · exact absurd h.1 (by show ¬ (3 : UInt8) = 5; decide)
  · exact absurd h.1 (by show ¬ (4 : UInt8) = 5; decide)
theorem ek_vert (hv : List ByteArray) {k : Nat} (hk : k < 256) {o : OpM} (ho : (ekOps hv)[k]? = some o) : vertM [ekPat hv] (ekVid k) = if makesB o.kind = true then some ⟨ekVid k, o.kind, fileOf (ekVid k) o, o.text, false⟩ else none := by
  unfold vertM vertOp
  rw [List.findSome?_cons, List.findSome?_nil]
  unfold madeBy
  rw [if_pos (show (ekPat hv).id = (ekVid k).pid from rfl), ekN hk, show (ekPat hv).ops[k]? = some o from ho, ek_dead]
  cases h : makesB o.kind <;> simp [Option.filter, h]
theorem ek_vert0 (hv : List ByteArray) : vertM [ekPat hv] ekF = some ⟨ekF, 1, ekF, ⟨#[]⟩, false⟩ := ek_vert hv (k := 0) (by decide) (ek_get0 hv)
def lnV (k : Nat) (t : ByteArray) : VertM := ⟨ekVid (k + 1), 3, ekF, t, false⟩
theorem ek_vertL {hv : List ByteArray} (hn : hv.length ≤ 30) {k : Nat} {t : ByteArray} (h : hv[k]? = some t) : vertM [ekPat hv] (ekVid (k + 1)) = some (lnV k t) := by
  have := (List.getElem?_eq_some_iff.1 h).1
  exact (ek_vert hv (by omega) (ek_getL h)).trans rfl
theorem ek_refMet {hv : List ByteArray} (hn : hv.length ≤ 30) {o : OpM} (ho : o ∈ ekOps hv) : refMet [ekPat hv] o = true := by
  rcases ek_mem ho with rfl | ⟨k, t, _, rfl⟩ | ⟨j, hj, rfl⟩
  · rfl
  · unfold refMet isKind
    rw [if_neg (show ¬ (lineO t).kind = 1 from by show ¬ (3 : UInt8) = 1; decide), if_pos (show (lineO t).kind = 2 ∨ (lineO t).kind = 3 from .inr rfl), show (lineO t).at' = ekF from rfl, ek_vert0]
    rfl
  · obtain ⟨t, ht⟩ : ∃ t, hv[j]? = some t := ⟨_, List.getElem?_eq_getElem (by omega)⟩
    obtain ⟨t', ht'⟩ : ∃ t, hv[j + 1]? = some t := ⟨_, List.getElem?_eq_getElem (by omega)⟩
    unfold refMet isKind
    rw [if_neg (show ¬ (edgeO j).kind = 1 from by show ¬ (4 : UInt8) = 1; decide), if_neg (show ¬ ((edgeO j).kind = 2 ∨ (edgeO j).kind = 3) from by show ¬ ((4 : UInt8) = 2 ∨ (4 : UInt8) = 3); decide), if_pos (show (edgeO j).kind = 4 from rfl),
      show (edgeO j).at' = ekVid (j + 1) from rfl, show (edgeO j).to = ekVid (j + 1 + 1) from rfl, ek_vertL hn ht, ek_vertL hn ht']
    rfl
theorem ek_build {hv : List ByteArray} (hn : hv.length ≤ 30) (hl : ∀ t ∈ hv, lineOk t = true) : buildM [ekPat hv] = [ekPat hv] := by
  have hc : checkM [] (ekPat hv) = 0 := by
    unfold checkM
    rw [if_neg (by rw [ek_goodP hn hl]; decide), if_neg (by show ¬ hasM [] ekId = true; decide), if_neg (by show ¬ ¬ nextM [] (1 : UInt8) = ekId; decide), if_neg (by show ¬ ([] : List PidM).all _ = false; simp), if_neg]
    rw [List.nil_append, Bool.not_eq_false, List.all_eq_true]
    exact fun o ho => ek_refMet hn ho
  show applyM [] (ekPat hv) = _
  unfold applyM
  rw [if_pos hc]; rfl
def ekLines (hv : List ByteArray) : List VertM := (List.range hv.length).map fun k => lnV k (hv.getD k ⟨#[]⟩)
theorem ekLines_len (hv : List ByteArray) : (ekLines hv).length = hv.length := by unfold ekLines; simp
theorem ekLines_get {hv : List ByteArray} {k : Nat} {t : ByteArray} (h : hv[k]? = some t) : (ekLines hv)[k]? = some (lnV k t) := by
  have hk := (List.getElem?_eq_some_iff.1 h).1
  unfold ekLines
  rw [List.getElem?_map, List.getElem?_range hk, Option.map_some, List.getD_eq_getElem?_getD, h]; rfl
theorem packEk {k : Nat} (h : k < 256) : packVid (ekVid k) = packPid ekId * 256 + k := by unfold packVid; rw [ekN h]; rfl
theorem ek_lines {hv : List ByteArray} (hn : hv.length ≤ 30) (hl : ∀ t ∈ hv, lineOk t = true) : linesM [ekPat hv] ekF = ekLines hv := by
  have hlen : ∀ p ∈ [ekPat hv], p.ops.length ≤ 200 := by
    intro p hp
    obtain rfl : p = ekPat hv := by simpa using hp
    show (ekOps hv).length ≤ 200
    rw [ek_len]; omega
  refine (verts_eq hlen (fun v => decide (v.kind = 3) && decide (v.file = ekF)) (out := ekLines hv) ?_ ?_).symm
  · unfold ekLines Rises
    rw [List.pairwise_map]
    refine (List.pairwise_lt_range (n := hv.length)).imp_of_mem ?_
    intro a b ha hb h
    have ha := List.mem_range.1 ha
    have hb := List.mem_range.1 hb
    show packVid (ekVid (a + 1)) < packVid (ekVid (b + 1))
    rw [packEk (by omega), packEk (by omega)]; omega
  · intro x
    constructor
    · intro hx
      unfold ekLines at hx
      obtain ⟨k, hk, rfl⟩ := List.mem_map.1 hx
      have hk := List.mem_range.1 hk
      have ht : hv[k]? = some (hv.getD k ⟨#[]⟩) := by rw [List.getD_eq_getElem?_getD, List.getElem?_eq_getElem hk]; rfl
      exact ⟨ek_vertL hn ht, rfl⟩
    · rintro ⟨h1, h2⟩
      simp only [Bool.and_eq_true, decide_eq_true_eq] at h2
      have hp : x.id.pid = ekId := by
        by_cases e : x.id.pid = ekId
        · exact e
        · unfold vertM vertOp at h1
          rw [List.findSome?_cons, List.findSome?_nil] at h1
          unfold madeBy at h1
          rw [if_neg (fun e' => e e'.symm)] at h1
          cases h1
      obtain ⟨⟨xp, xn⟩, xk, xf, xt, xd⟩ := x
      simp only at hp h2 h1
      subst hp
      have hxn : (⟨ekId, xn⟩ : VidM) = ekVid xn.toNat := by unfold ekVid; simp
      rw [hxn] at h1
      cases ho : (ekOps hv)[xn.toNat]? with
      | none =>
        unfold vertM vertOp at h1
        rw [List.findSome?_cons, List.findSome?_nil] at h1
        unfold madeBy at h1
        rw [if_pos (show (ekPat hv).id = (ekVid xn.toNat).pid from rfl), ekN xn.toNat_lt, show (ekPat hv).ops[xn.toNat]? = none from ho] at h1
        cases h1
      | some o =>
        rw [ek_vert hv xn.toNat_lt ho] at h1
        split at h1
        · simp only [Option.some.injEq, VertM.mk.injEq] at h1
          obtain ⟨_, e1, e2, e3, e4⟩ := h1
          rcases ek_cases ho with ⟨_, rfl⟩ | ⟨k, t, hk, ht, rfl⟩ | ⟨j, _, _, rfl⟩
          · rw [h2.1] at e1; exact absurd e1 (by decide)
          · have hm : lnV k t ∈ ekLines hv := List.mem_of_getElem? (ekLines_get ht)
            rw [hxn, hk]
            rw [← e1, ← e3, ← e4, h2.2]
            exact hm
          · rw [h2.1] at e1; exact absurd e1 (by show ¬ (4 : UInt8) = 3; decide)
        · cases h1
end Go.Proofs.YtllcipobiengiaaGreat
