/- Contract of ref24.All. -/
import Derived.Test.YtfciedmmgddgpaaGreatDoorZRefP
import Derived.Test.YtfciedmmgddgpaaGreatDoorZNsA
import Derived.Test.YtfciedmmgddgpaaGreatDoorZDig
import Derived.Test.YtfciedmmgddgpaaGreatDoorZNmE
namespace Go.Proofs.YtfciedmmgddgpaaGreatDoor
open Go Go.RowKit

theorem slName24 : SlT Tryz.prog 44 76 6 72 := slT_of Tryz.underlying44 (by kernel_rfl) (by decide)
/-- a []ref24.Name, its rows, and theirs: all from block B on -/
def RNames (w : World) (B : Nat) (v : Value) (ns : List NameM) : Prop := ∃ xs : List LaidN, xs.map (·.n) = ns ∧ GOwn encN 6 76 w B v xs ∧ ∀ x ∈ xs, NameAt w B x
theorem RNames.over {w w' : World} {B : Nat} {v : Value} {ns : List NameM} (h : RNames w B v ns) (hb : Below w.heap.size w w') : RNames w' B v ns := by
  obtain ⟨xs, h1, h2, h3⟩ := h
  exact ⟨xs, h1, h2.over hb, fun x hx => ⟨(h3 x hx).1.over hb, (h3 x hx).2.over hb⟩⟩
theorem rnames_nil (w : World) (B : Nat) : RNames w B (.slice none 0 0) [] := ⟨[], rfl, gown_nil _ _, fun x hx => absurd hx (List.not_mem_nil)⟩
theorem rnames_snoc {w w' : World} {B : Nat} {v v' : Value} {xs : List LaidN} {ns : List NameM} (h1 : xs.map (·.n) = ns) (hO : GOwn encN 6 76 w B v xs) (hN : ∀ x ∈ xs, NameAt w B x) {y : LaidN} (hy : NameAt w B y) (hg : w.grownBy w' v.ownBlock)
    (ho : w'.ownsRow B 76 6 v' (xs.length + 1) (xs.flatMap encN ++ encN y)) : RNames w' B v' (ns ++ [y.n]) := by
  have hk : ∀ x, NameAt w B x → NameAt w' B x := fun x ⟨a, b⟩ => ⟨own_grown a hg (own_apart a hO (by decide)), own_grown b hg (own_apart b hO (by decide))⟩
  refine ⟨xs ++ [y], by rw [List.map_append, h1]; rfl, GOwn.snoc ho, fun x hx => ?_⟩
  rcases List.mem_append.1 hx with hx | hx
  · exact hk x (hN x hx)
  · rw [List.mem_singleton.1 hx]; exact hk y hy
/-- the name that is being made: its variable, and its rows -/
def NBox (w7 wi : World) (g : Nat) (f : VidM) (nm : ByteArray) (al : List TextL) (fl : List UInt8) (pa : Option Addr) (ca : Nat) (pf : Option Addr) (cf : Nat) : Prop :=
  ArrT wi g 76 [.int .u8 (f.pid.author.toNat : Int), .int .u16 (f.pid.seq.toNat : Int), .int .u8 (f.n.toNat : Int), .string nm, .slice pa al.length ca, .slice pf fl.length cf] ∧ GOwn encT 1 9 wi w7.heap.size (.slice pa al.length ca) al ∧
  GOwn encU8 1 5 wi w7.heap.size (.slice pf fl.length cf) fl ∧ Below w7.heap.size w7 wi ∧ w7.heap.size ≤ g
theorem nbox_new (w : World) (f : VidM) : NBox w (w.alloc (.cells #[.int .u8 (f.pid.author.toNat : Int), .int .u16 (f.pid.seq.toNat : Int), .int .u8 (f.n.toNat : Int), .string ⟨#[]⟩, .slice none 0 0, .slice none 0 0] 76)) w.heap.size f ⟨#[]⟩ [] [] none 0 none 0 :=
  ⟨arrT_new w [.int .u8 (f.pid.author.toNat : Int), .int .u16 (f.pid.seq.toNat : Int), .int .u8 (f.n.toNat : Int), .string ⟨#[]⟩, .slice none 0 0, .slice none 0 0] 76, gown_nil _ _, gown_nil _ _, below_new _, Nat.le_refl _⟩
theorem alloc_set {w : World} {g : Nat} (h : g < w.heap.size) (j : Nat) (u : Value) (o : Obj) : (w.alloc o).setCell ⟨g, j, none⟩ u = (w.setCell ⟨g, j, none⟩ u).alloc o := by
  unfold World.setCell World.alloc
  congr 1
  apply Array.ext_getElem?
  intro i
  simp only [Array.getElem?_modify, Array.getElem?_push, Array.size_modify]
  by_cases hi : i = w.heap.size
  · subst hi
    rw [if_neg (by omega), if_pos rfl, if_pos rfl]
  · rw [if_neg hi, if_neg hi]
theorem gown_cast {α : Type} {enc : α → List Value} {sz : Nat} {e : TypeId} {w : World} {B : Nat} {v : Value} {xs ys : List α} (h : xs = ys) (g : GOwn enc sz e w B v xs) : GOwn enc sz e w B v ys := h ▸ g
section
variable {w7 wi wj : World} {g : Nat} {f : VidM} {nm : ByteArray} {al : List TextL} {fl : List UInt8} {pa : Option Addr} {ca : Nat} {pf : Option Addr} {cf : Nat}
theorem NBox.over (h : NBox w7 wi g f nm al fl pa ca pf cf) (hb : Below wi.heap.size wi wj) : NBox w7 wj g f nm al fl pa ca pf cf :=
  ⟨h.1.over hb, h.2.1.over hb, h.2.2.1.over hb, below_over h.2.2.2.1 h.2.2.2.1.size hb, h.2.2.2.2⟩
theorem NBox.neA (h : NBox w7 wi g f nm al fl pa ca pf cf) : (Value.slice pa al.length ca).ownBlock ≠ some g := fun q => (h.1.ne (show World.ownsRow _ _ _ _ _ _ _ from h.2.1) (by decide)) q.symm
theorem NBox.neF (h : NBox w7 wi g f nm al fl pa ca pf cf) : (Value.slice pf fl.length cf).ownBlock ≠ some g := fun q => (h.1.ne (show World.ownsRow _ _ _ _ _ _ _ from h.2.2.1) (by decide)) q.symm
theorem NBox.name (h : NBox w7 wi g f nm al fl pa ca pf cf) (nm' : ByteArray) : NBox w7 (wi.setCell ⟨g, 3, none⟩ (.string nm')) g f nm' al fl pa ca pf cf :=
  ⟨h.1.set 3 _, own_set h.2.1 h.neA _ _, own_set h.2.2.1 h.neF _ _, h.2.2.2.1.setCell (p := ⟨g, 3, none⟩) h.2.2.2.2 _, h.2.2.2.2⟩
theorem NBox.also (h : NBox w7 wi g f nm al fl pa ca pf cf) {al' : List TextL} {pa' : Option Addr} {ca' : Nat} (ho : GOwn encT 1 9 wi w7.heap.size (.slice pa' al'.length ca') al') : NBox w7 (wi.setCell ⟨g, 4, none⟩ (.slice pa' al'.length ca')) g f nm al' fl pa' ca' pf cf :=
  ⟨h.1.set 4 _, own_set ho (fun q => (h.1.ne (show World.ownsRow _ _ _ _ _ _ _ from ho) (by decide)) q.symm) _ _, own_set h.2.2.1 h.neF _ _, h.2.2.2.1.setCell (p := ⟨g, 4, none⟩) h.2.2.2.2 _, h.2.2.2.2⟩
theorem NBox.grown (h : NBox w7 wi g f nm al fl pa ca pf cf) (hg : wi.grownBy wj (Value.slice pf fl.length cf).ownBlock) : ArrT wj g 76 [.int .u8 (f.pid.author.toNat : Int), .int .u16 (f.pid.seq.toNat : Int), .int .u8 (f.n.toNat : Int), .string nm, .slice pa al.length ca, .slice pf fl.length cf] ∧ GOwn encT 1 9 wj w7.heap.size (.slice pa al.length ca) al ∧ Below w7.heap.size w7 wj :=
  ⟨h.1.grown (show World.ownsRow _ _ _ _ _ _ _ from h.2.2.1) (by decide) hg, own_grown h.2.1 hg (own_apart h.2.1 h.2.2.1 (by decide)), below_grown h.2.2.2.1 h.2.2.2.1.size (show World.ownsRow _ _ _ _ _ _ _ from h.2.2.1) hg⟩
theorem NBox.flaw (h : NBox w7 wi g f nm al fl pa ca pf cf) (hg : wi.grownBy wj (Value.slice pf fl.length cf).ownBlock) {fl' : List UInt8} {pf' : Option Addr} {cf' : Nat} (ho : GOwn encU8 1 5 wj w7.heap.size (.slice pf' fl'.length cf') fl') : NBox w7 (wj.setCell ⟨g, 5, none⟩ (.slice pf' fl'.length cf')) g f nm al fl' pa ca pf' cf' := by
  obtain ⟨h1, h2, h3⟩ := h.grown hg
  exact ⟨h1.set 5 _, own_set h2 h.neA _ _, own_set ho (fun q => (h1.ne (show World.ownsRow _ _ _ _ _ _ _ from ho) (by decide)) q.symm) _ _, h3.setCell (p := ⟨g, 5, none⟩) h.2.2.2.2 _, h.2.2.2.2⟩
theorem NBox.at (h : NBox w7 wi g f nm al fl pa ca pf cf) {B : Nat} (hB : B ≤ w7.heap.size) : NameAt wi B ⟨⟨f, nm, al, fl⟩, pa, ca, pf, cf⟩ := ⟨h.2.1.base hB, h.2.2.1.base hB⟩
end
theorem names_len24 (L : List PatchM) (f : VidM) (hl : ∀ p ∈ L, p.ops.length ≤ 200) : (namesM L f).length ≤ (idsM L).length := by
  unfold namesM
  rw [List.length_map]
  refine nodup_len ?_ fun v hv => ?_
  · exact (rises_setS revK_inj _).imp fun {a b} h e => by rw [e] at h; omega
  · rw [mem_setS revK_inj] at hv
    obtain ⟨y, hy, rfl⟩ := List.mem_map.1 hv
    rw [mem_idsM hl, (aliveM_at hl hy).1]; rfl
def nmQ (x : VertM) (f : VidM) (q : Bool) : ByteArray := if q = true then x.text ++ (tilde ++ textB f) else x.text
def flQ (c : Bool) (q : Bool) : List UInt8 := (if c = true then [2] else []) ++ (if q = true then [4] else [])
theorem nmR_nil {L : List PatchM} {pre : List VidM} {f : VidM} (h : namesM L f = []) : nmR L pre f = ⟨f, tilde ++ textB f, [], [3]⟩ := by unfold nmR; rw [h]
theorem nmR_cons {L : List PatchM} {pre : List VidM} {f : VidM} {x : VertM} {l : List VertM} {al : List TextL} {q c : Bool} (h : namesM L f = x :: l) (ha : alsoTo (x :: l) x.text (x :: l).length = al) (hc : decide (0 < al.length) = c) (hq : pre.any (firstIs L x.text) = q) : nmR L pre f = ⟨f, nmQ x f q, al, flQ c q⟩ := by
  unfold nmR
  rw [h]
  rw [alsoTo_all] at ha
  simp only [ha, hq]
  unfold nmQ flQ
  cases c with
  | true => have := of_decide_eq_true hc; rw [if_neg (show ¬ al.length = 0 by omega)]; rfl
  | false => have := of_decide_eq_false hc; rw [if_pos (show al.length = 0 by omega)]; rfl
theorem first_nil {L : List PatchM} {t : ByteArray} {f : VidM} (h : namesM L f = []) : firstIs L t f = false := by unfold firstIs; rw [h]
theorem first_cons {L : List PatchM} {t : ByteArray} {f : VidM} {y : VertM} {l : List VertM} {b : Bool} (h : namesM L f = y :: l) (hb : decide (y.text = t) = b) : firstIs L t f = b := by unfold firstIs; rw [h]; exact hb
theorem any_next {α : Type} {l : List α} {p : α → Bool} {j : Nat} {y : α} {q b : Bool} (h : (l.take j).any p = q) (hy : l[j]? = some y) (hb : p y = b) : (l.take (j + 1)).any p = (q || b) := by rw [take_succ' hy, List.any_append, h]; simp [hb]
theorem nmQ_ne (x : VertM) (f : VidM) : ¬ nmQ x f true = x.text := fun e => by
  have h1 := congrArg ByteArray.size e
  unfold nmQ tilde at h1
  rw [if_pos rfl, ByteArray.size_append, ByteArray.size_append] at h1
  have : (⟨#[126]⟩ : ByteArray).size = 1 := rfl
  omega
theorem nmQ_size {x : VertM} (f : VidM) (h : x.text.size ≤ 16) (q : Bool) : (nmQ x f q).size ≤ 60 := by
  have h2 := textB_size f
  have : (⟨#[126]⟩ : ByteArray).size = 1 := rfl
  unfold nmQ tilde
  split
  · rw [ByteArray.size_append, ByteArray.size_append]; omega
  · omega
theorem nmQ_f (x : VertM) (f : VidM) : nmQ x f false = x.text := rfl
theorem nmQ_t (x : VertM) (f : VidM) {T : ByteArray} (h : textB f = T) : nmQ x f true = x.text ++ (⟨#[126]⟩ : ByteArray) ++ T := by rw [ByteArray.append_assoc, ← h]; rfl
theorem flQ_tf : flQ true false = [2] := rfl
theorem flQ_ff : flQ false false = [] := rfl
theorem flQ_t (c : Bool) {fl : List UInt8} (h : flQ c false = fl) : flQ c true = fl ++ [4] := by subst h; cases c <;> rfl
theorem flQ_len (c q : Bool) : (flQ c q).length ≤ 2 := by cases c <;> cases q <;> decide
theorem any_or {α : Type} {l : List α} {p : α → Bool} {j : Nat} {y : α} {q b r : Bool} (h : (l.take j).any p = q) (hy : l[j]? = some y) (hb : p y = b) (hr : (q || b) = r) : (l.take (j + 1)).any p = r := by rw [any_next h hy hb, hr]
theorem allR_one (L : List PatchM) {fs : List VidM} {k : Nat} {f : VidM} (h : fs[k]? = some f) : allR L [] (fs.take (k + 1)) = allR L [] (fs.take k) ++ [nmR L (fs.take k) f] := by rw [take_succ' h, allR_snoc, List.nil_append]
theorem allR_len (L : List PatchM) : ∀ (l pre : List VidM), (allR L pre l).length = l.length
  | [], pre => rfl
  | f :: l, pre => by rw [allR, List.length_cons, allR_len L l, List.length_cons]
def RAllIn (w2 : World) (L : List PatchM) (fs : List VidM) (v3 v5 : Value) (wr : World) : Prop := ∃ k : Nat, k ≤ fs.length ∧ v5 = .int .i64 (k : Int) ∧ Hid (RNames wr w2.heap.size v3 (allR L [] (fs.take k))) ∧ Hid (Below w2.heap.size w2 wr)
def RAlIn (w7 : World) (g : Nat) (f : VidM) (x : VertM) (l : List VertM) (v9 : Value) (wi : World) : Prop := ∃ (j : Nat) (pa : Option Addr) (ca : Nat), 1 ≤ j ∧ j ≤ (x :: l).length ∧ v9 = .int .i64 (j : Int) ∧ Hid (NBox w7 wi g f ⟨#[]⟩ (alsoTo (x :: l) x.text j) [] pa ca none 0)
def RNmIn (w7 : World) (L : List PatchM) (fs : List VidM) (k g : Nat) (f : VidM) (x : VertM) (al : List TextL) (c : Bool) (pa : Option Addr) (ca : Nat) (v10 : Value) (wi : World) : Prop := ∃ (j : Nat) (q : Bool) (pf : Option Addr) (cf : Nat), j ≤ k ∧ v10 = .int .i64 (j : Int) ∧ Hid ((fs.take j).any (firstIs L x.text) = q) ∧ Hid (NBox w7 wi g f (nmQ x f q) al (flQ c q) pa ca pf cf)
def RAllRes (w : World) (ns : List NameM) (e : Ending) (w' : World) : Prop := ∃ v, e = .returned v ∧ RNames w' w.heap.size v ns ∧ Below w.heap.size w w'
attribute [local irreducible] namesM idsM allR nmR textB alsoTo firstIs nmQ flQ putT aliveTo filesM vertsM
set_option maxHeartbeats 40000000 in
set_option maxRecDepth 100000 in
theorem rall24_any (gv : Value) (xs : List LaidP) (w : World) (hv : Pats w gv xs) (hn : xs.length ≤ 300) (hw : WfG (patsOf xs)) (hil : (idsM (patsOf xs)).length ≤ 100000) :
    Calls Tryz.prog 14 #[rgV gv] w (RAllRes w (allM (patsOf xs))) := by
  rw [allM_ref]
  have HV := Lib.hid hv
  have HWf := Lib.hid hw
  have hl : ∀ x ∈ xs, x.p.ops.length ≤ 200 := fun x hx => wf_len hw x.p (List.mem_map.2 ⟨x, hx, rfl⟩)
  have HL := Lib.hid hl
  have hvl : (vertsM (patsOf xs)).length ≤ 100000 := by unfold vertsM; rw [List.length_map]; exact hil
  have hfl : (aliveTo (patsOf xs) (filesM (patsOf xs)).length).length ≤ 100000 := Nat.le_trans (aliveTo_len _ _) (Nat.le_trans (filesM_len _) hil)
  have HNO : Hid (∀ f x, x ∈ namesM (patsOf xs) f → nameOk x.text = true) := Lib.hid fun f x hx => name_ok hw hx
  have HNL : Hid (∀ f, (namesM (patsOf xs) f).length ≤ 100000) := Lib.hid fun f => Nat.le_trans (names_len24 _ f (wf_len hw)) hil
  obtain ⟨a, cap, rfl, h1, h2, hc⟩ := hv.1.at encPat_len
  unfold maxLen at h2
  have HG := Lib.hid (arr_new w #[.slice a xs.length cap] 33)
  have HB := Lib.hid (below_new (w := w) (.cells #[.slice a xs.length cap] 33))
  clear hv hw hl hc
  unfold rgV
  go_enter Tryz.func14, Tryz.ntmps14
  go_upto_region 2 with (fail)
  generalize hw0 : w.alloc (.cells #[.slice a xs.length cap] 33) = w0 at *
  clear hw0
  have g0 := HG.out.cell (j := 0) rfl
  have sg := HG.out.lt
  have HCall : Hid (Calls Tryz.prog 35 #[.agg #[.slice a xs.length cap]] w0 (SetRes encVid 3 w0 (aliveTo (patsOf xs) (filesM (patsOf xs)).length))) := Lib.hid (ralive24_any _ xs w0 (HV.out.over HB.out) hn (fun x hx => Nat.le_trans (HL.out x hx) (by omega)) hil hvl)
  generalize hfs : aliveTo (patsOf xs) (filesM (patsOf xs)).length = fs at *
  clear hfs
  go_upto_region 3 with (first | (go_at_call 35; (with_reducible refine HCall.out.mono ?_); rintro e w2 ⟨u4, rfl, hu4, hb2⟩))
  have HB2 := Lib.hid (below_over HB.out HB.out.size hb2)
  have HG2 := Lib.hid (HG.out.over hb2)
  have HV2 := Lib.hid (HV.out.over HB2.out)
  obtain ⟨a4, c4, rfl, t1, t2, hc4⟩ := hu4.at encVid_len
  unfold maxLen at t2
  have HC4 := Lib.hid hc4
  generalize hL : patsOf xs = LL at *
  have HLL := Lib.hid hL
  clear hu4 hc4 hb2 HCall g0 sg HG hL
  go_wp2_with fail
  go_loopw [3, 5] (fun v3 v5 wr => RAllIn w2 LL fs v3 v5 wr) (fun _ v5 _ => fs.length - (intOf v5).toNat)
  case atStart => exact ⟨0, Nat.zero_le _, rfl, (by show RNames _ _ _ _; unfold allR; exact rnames_nil _ _), Lib.hid (Below.refl _ _)⟩
  case round =>
    rename World => wr
    obtain ⟨k, hk, rfl, HN, HBl⟩ := hrel
    by_cases hlt : k < fs.length
    · obtain ⟨b4, o4, rfl, s4, hcb⟩ := HC4.out.resolve_left (by omega)
      have HFc := Lib.hid hcb
      obtain ⟨fv, hfv⟩ := get_of_lt hlt
      have HK_fv := Lib.hid hfv
      have HSu := Lib.hid (allR_one LL hfv)
      have HG6 := Lib.hid (HG2.out.over HBl.out)
      have HV6 := Lib.hid (HV2.out.over HBl.out)
      have HOf : Hid (∀ (f : VidM) (W : World), Below w2.heap.size w2 W → Calls Tryz.prog 11 #[.agg #[.slice a xs.length cap], .agg #[.int .u8 (f.pid.author.toNat : Int), .int .u16 (f.pid.seq.toNat : Int), .int .u8 (f.n.toNat : Int)]] W fun e w' => ∃ a6 n6 c6, e = .returned (.slice a6 n6 c6) ∧ (namesM LL f).length = n6 ∧ GRow encVert 9 w' (.slice a6 n6 c6) (namesM LL f) ∧ Below W.heap.size W w') := Lib.hid fun f W hb => by
        have := rnof_any _ xs f W (HV2.out.over hb) hn HL.out (by rw [HLL.out]; exact hil)
        rw [HLL.out] at this
        refine this.mono ?_
        rintro e w' ⟨v6, rfl, hr6, hb6⟩
        obtain ⟨a6, c6, rfl, _, _, _⟩ := hr6.at encVert_len
        exact ⟨a6, _, c6, rfl, rfl, hr6, hb6⟩
      clear hcb hfv
      have g0 := HG6.out.cell (j := 0) rfl
      have sg := HG6.out.lt
      have HP_p := Lib.hid (HFc.out k fv HK_fv.out wr HBl.out)
      have p0 : wr.cell? ⟨b4, o4 + k * 3, none⟩ = some (.int .u8 (fv.pid.author.toNat : Int)) := HP_p.out.2 0 _ rfl
      have p1 : wr.cell? ⟨b4, o4 + k * 3 + 1, none⟩ = some (.int .u16 (fv.pid.seq.toNat : Int)) := HP_p.out.2 1 _ rfl
      have p2 : wr.cell? ⟨b4, o4 + k * 3 + 2, none⟩ = some (.int .u8 (fv.n.toNat : Int)) := HP_p.out.2 2 _ rfl
      have sp := HP_p.out.1
      obtain ⟨nl, hnl⟩ : ∃ nl, namesM LL fv = nl := ⟨_, rfl⟩
      have HOf1 : Hid (∀ W, Below wr.heap.size wr W → Calls Tryz.prog 11 #[.agg #[.slice a xs.length cap], .agg #[.int .u8 (fv.pid.author.toNat : Int), .int .u16 (fv.pid.seq.toNat : Int), .int .u8 (fv.n.toNat : Int)]] W fun e w' => ∃ a6 n6 c6, e = .returned (.slice a6 n6 c6) ∧ nl.length = n6 ∧ GRow encVert 9 w' (.slice a6 n6 c6) nl ∧ Below W.heap.size W w') := Lib.hid fun W hb => by
        rw [← hnl]; exact HOf.out fv W (below_over HBl.out HBl.out.size hb)
      have hnll := HNL.out fv
      rw [hnl] at hnll
      have HNl := Lib.hid hnl
      clear hnl
      go_upto_region 6 with (fail)
      have hcur : Below wr.heap.size wr wr.drew := (Below.refl _ _).drew
      refine wp_region_lex (C := IsOver wr) 7 [] (by kernel_rfl) (by kernel_rfl) (isOver_of (by repeat (first | exact Below.refl _ _ | apply Below.drew | apply below_drewN | (refine Below.alloc ?_ (by simp) _)))) ?_
      simp only [List.take_succ_cons, List.take_zero, List.drop_succ_cons, List.drop_zero]
      repeat (first | (refine lex_skip rfl rfl ?_; simp only [Act.put, List.setIfInBounds_toArray, List.set_cons_succ, List.set_cons_zero]) | (refine lex_one rfl ?_; go_big_quiet_step (fail); refine wpQuiet_nil ?_) | (refine lex_loud rfl ?_; go_wp2_with (first | (go_at_call 11; (with_reducible refine (HOf1.out _ hcur).mono ?_); rintro e w' ⟨a6, n6, c6, rfl, hn6, hr6, hb⟩; have HR6 := Lib.hid hr6; have HN6 := Lib.hid hn6; clear hn6; replace hcur := below_over hcur hcur.size hb; clear hb hr6)); refine ⟨isOver_of hcur, ?_⟩))
      refine lex_end ?_
      rename World => w7
      have hn6 := HN6.out
      clear HN6
      have HB7 := Lib.hid hcur
      have HBl7 := Lib.hid (below_over HBl.out HBl.out.size hcur)
      clear hcur g0 sg p0 p1 p2 sp HOf1
      have HP_p := Lib.hid (HFc.out k fv HK_fv.out w7 HBl7.out)
      have p0 : w7.cell? ⟨b4, o4 + k * 3, none⟩ = some (.int .u8 (fv.pid.author.toNat : Int)) := HP_p.out.2 0 _ rfl
      have p1 : w7.cell? ⟨b4, o4 + k * 3 + 1, none⟩ = some (.int .u16 (fv.pid.seq.toNat : Int)) := HP_p.out.2 1 _ rfl
      have p2 : w7.cell? ⟨b4, o4 + k * 3 + 2, none⟩ = some (.int .u8 (fv.n.toNat : Int)) := HP_p.out.2 2 _ rfl
      have sp := HP_p.out.1
      obtain ⟨a6', c6', he6, n61, n62, hc6⟩ := HR6.out.at encVert_len
      obtain ⟨he6a, he6b, he6c⟩ := Value.slice.inj he6
      subst he6a
      subst he6c
      clear he6 he6b
      unfold maxLen at n62
      have HC6 := Lib.hid hc6
      have hs7 := HBl7.out.size
      clear hc6
      go_upto_region 8 with (fail)
      have HN8 := Lib.hid (nbox_new w7 fv)
      generalize hw8 : w7.alloc (.cells #[.int .u8 (fv.pid.author.toNat : Int), .int .u16 (fv.pid.seq.toNat : Int), .int .u8 (fv.n.toNat : Int), .string ⟨#[]⟩, .slice none 0 0, .slice none 0 0] 76) = w8 at *
      generalize hg7 : w7.heap.size = g at HN8 ⊢
      clear hw8 p0 p1 p2 sp
      have HG7 := Lib.hid hg7
      clear hg7
      cases nl with
      | nil =>
        obtain rfl : n6 = 0 := hn6.symm
        have HE := Lib.hid (nmR_nil (pre := fs.take k) HNl.out)
        have HTx : Hid (∀ W, Calls Tryz.prog 36 #[.agg #[.int .u8 (fv.pid.author.toNat : Int), .int .u16 (fv.pid.seq.toNat : Int), .int .u8 (fv.n.toNat : Int)]] W fun e w' => e = .returned (.string (textB fv)) ∧ Below W.heap.size W w') := Lib.hid fun W => rvtext_any fv W
        have zt := textB_size fv
        generalize hT : textB fv = T at *
        have HT := Lib.hid hT
        clear hT
        have HP_p := Lib.hid (HFc.out k fv HK_fv.out w8 (below_over HBl7.out (by have := HG7.out; omega) HN8.out.2.2.2.1))
        have p0 : w8.cell? ⟨b4, o4 + k * 3, none⟩ = some (.int .u8 (fv.pid.author.toNat : Int)) := HP_p.out.2 0 _ rfl
        have p1 : w8.cell? ⟨b4, o4 + k * 3 + 1, none⟩ = some (.int .u16 (fv.pid.seq.toNat : Int)) := HP_p.out.2 1 _ rfl
        have p2 : w8.cell? ⟨b4, o4 + k * 3 + 2, none⟩ = some (.int .u8 (fv.n.toNat : Int)) := HP_p.out.2 2 _ rfl
        have sp := HP_p.out.1
        go_upto_region 10 with (first | (go_at_call 36; (with_reducible refine (HTx.out _).mono ?_); rintro e w9 ⟨rfl, hb9⟩; have HN9 := Lib.hid (HN8.out.over hb9); have c0 := HN9.out.1.arr.cell (j := 0) rfl; have c1 := HN9.out.1.arr.cell (j := 1) rfl; have c2 := HN9.out.1.arr.cell (j := 2) rfl; have c3 := HN9.out.1.arr.cell (j := 3) rfl; have c4 := HN9.out.1.arr.cell (j := 4) rfl; have c5 := HN9.out.1.arr.cell (j := 5) rfl; have sc := HN9.out.1.arr.lt; have cf3 := HN9.out.1.arr.free 3; clear hb9))
        have HN10 := Lib.hid (HN9.out.name ((⟨#[126]⟩ : ByteArray) ++ T))
        generalize hw10 : w9.setCell ⟨g, 3, none⟩ (.string ((⟨#[126]⟩ : ByteArray) ++ T)) = w10 at *
        clear hw10 c0 c1 c2 c3 c4 c5 sc cf3 p0 p1 p2 sp HN9 HTx
        have c0 := HN10.out.1.arr.cell (j := 0) rfl
        have c1 := HN10.out.1.arr.cell (j := 1) rfl
        have c2 := HN10.out.1.arr.cell (j := 2) rfl
        have c3 := HN10.out.1.arr.cell (j := 3) rfl
        have c4 := HN10.out.1.arr.cell (j := 4) rfl
        have c5 := HN10.out.1.arr.cell (j := 5) rfl
        have sc := HN10.out.1.arr.lt
        have cf5 := HN10.out.1.arr.free 5
        go_upto_region 11 with (fail)
        have HN11 : Hid (NBox w7 ((w10.alloc (.cells #[.int .u8 3] 5)).setCell ⟨g, 5, none⟩ (.slice (some ⟨w10.heap.size, 0, none⟩) 1 1)) g fv ((⟨#[126]⟩ : ByteArray) ++ T) [] [3] none 0 (some ⟨w10.heap.size, 0, none⟩) 1) := Lib.hid ((HN10.out.over (below_new (.cells #[.int .u8 3] 5))).flaw (fl' := [3]) (World.grownBy.refl _ _) (own_lit (enc := encU8) (sz := 1) w10 5 [3] w7.heap.size rfl (by decide) (by have := HN10.out.2.2.2.1.size; exact this)))
        rw [alloc_set sc] at HN11
        generalize hw11 : (w10.setCell ⟨g, 5, none⟩ (.slice (some ⟨w10.heap.size, 0, none⟩) 1 1)).alloc (.cells #[.int .u8 3] 5) = w11 at *
        clear hw11 c0 c1 c2 c3 c4 c5 sc cf5 HN10
        have HE2 : Hid (nmR LL (fs.take k) fv = ⟨fv, (⟨#[126]⟩ : ByteArray) ++ T, [], [3]⟩) := by show _ = _; rw [HE.out]; rfl
        have HBe := Lib.hid (below_over HBl7.out (by have := HG7.out; omega) HN11.out.2.2.2.1)
        obtain ⟨ys, hys, hO, hNa⟩ := HN.out.over (below_over HB7.out HB7.out.size (by have := HN11.out.2.2.2.1; exact this))
        have HYs := Lib.hid hys
        have HOx := Lib.hid hO
        have HNa := Lib.hid hNa
        have hyl : ys.length = k := by have h9 := allR_len LL (fs.take k) []; rw [← hys, List.length_map, List.length_take] at h9; omega
        have hNx : ys.length + 1 ≤ 1099511627776 := by omega
        have hBx : w2.heap.size ≤ w11.heap.size := HBe.out.size
        have HAt := Lib.hid (HN11.out.at (B := w2.heap.size) (by have := HG7.out; omega))
        clear hys hO hNa
        have d0 := HN11.out.1.arr.cell (j := 0) rfl
        have d1 := HN11.out.1.arr.cell (j := 1) rfl
        have d2 := HN11.out.1.arr.cell (j := 2) rfl
        have d3 := HN11.out.1.arr.cell (j := 3) rfl
        have d4 := HN11.out.1.arr.cell (j := 4) rfl
        have d5 := HN11.out.1.arr.cell (j := 5) rfl
        have sd := HN11.out.1.arr.lt
        go_wp2_with (at_builtin; (first | refine wpList_append_newD slName24 rfl _ _ rfl w2.heap.size _ _ (drawn_alloc_drewN _ _ _) 1 _ _ _ HOx.out rfl rfl rfl rfl hNx (by decide) hBx ?_ | refine wpList_append_newD slName24 rfl _ _ rfl w2.heap.size _ _ (drawn_drew _) 1 _ _ _ HOx.out rfl rfl rfl rfl hNx (by decide) hBx ?_ | refine wpList_append_newD slName24 rfl _ _ rfl w2.heap.size _ _ (drawn_drewN _ _) 1 _ _ _ HOx.out rfl rfl rfl rfl hNx (by decide) hBx ?_ | refine wpList_append_newD slName24 rfl _ _ rfl w2.heap.size _ _ (drawn_refl _) 1 _ _ _ HOx.out rfl rfl rfl rfl hNx (by decide) hBx ?_); intro v19 w19 ho19 hg19)
        have HNs := Lib.hid (rnames_snoc (y := ⟨⟨fv, (⟨#[126]⟩ : ByteArray) ++ T, [], [3]⟩, none, 0, (some ⟨w10.heap.size, 0, none⟩), 1⟩) HYs.out HOx.out HNa.out HAt.out hg19 ho19)
        have HB19 := Lib.hid (below_grown HBe.out hBx HOx.out hg19)
        clear ho19 hg19
        go_roundw
        case rel => exact ⟨k + 1, hlt, by go_num, (by show RNames _ _ _ _; rw [HSu.out, HE2.out]; exact HNs.out), HB19⟩
        case measure => simp [intOf]; omega
      | cons x l =>
        obtain ⟨b6, o6, rfl, s6, hcx⟩ := HC6.out.resolve_left (by simp)
        have HX6 : Hid (∀ (i : Nat) (u : VertM), (x :: l)[i]? = some u → ∀ W : World, Below w7.heap.size w7 W → b6 < W.heap.size ∧ W.cell? ⟨b6, o6 + i * 9 + 7, none⟩ = some (.string u.text)) := Lib.hid fun i u hu W hb => ⟨(hcx i u hu W hb).1, (hcx i u hu W hb).2 7 _ rfl⟩
        have hno := HNO.out fv x (by rw [HNl.out]; exact List.mem_cons_self ..)
        have zx : x.text.size ≤ 16 := by unfold nameOk at hno; simp only [Bool.and_eq_true, decide_eq_true_eq] at hno; exact hno.2.2
        have hl6 : (x :: l).length = n6 := hn6
        have hn0 : 0 < n6 := by rw [← hn6]; simp
        clear hcx hno hn6
        have e8 : ((n6 : Int) == 0) = false := by simp; omega
        have y7 := (HX6.out 0 x rfl w8 HN8.out.2.2.2.1).2
        rw [Nat.zero_mul, Nat.add_zero] at y7
        have sy := (HX6.out 0 x rfl w8 HN8.out.2.2.2.1).1
        have hd0 : decide ((0 : Int) < (n6 : Int)) = true := decide_eq_true (by omega)
        go_wp2_with fail
        clear y7 sy
        go_hide hQ
        go_loopw [9] (fun v9 wi => RAlIn w7 g fv x l v9 wi) (fun v9 _ => n6 - (intOf v9).toNat)
        case atStart => exact ⟨1, none, 0, Nat.le_refl _, by omega, rfl, (by show NBox _ _ _ _ _ _ _ _ _ _ _; rw [alsoTo_one]; exact HN8.out)⟩
        case round =>
          rename World => wi
          obtain ⟨j, pa, ca, hj1, hj2, rfl, HNj⟩ := hrel
          have HLa := alsoTo_len (x :: l) x.text j
          have HBj := Lib.hid HNj.out.2.2.2.1
          obtain ⟨al, hal⟩ : ∃ al, alsoTo (x :: l) x.text j = al := ⟨_, rfl⟩
          rw [hal] at HNj HLa
          have HAl := Lib.hid hal
          clear hal
          by_cases hlj : j < n6
          · obtain ⟨u, hu⟩ := get_of_lt (xs := x :: l) (by rw [hl6]; exact hlj)
            have HU := Lib.hid hu
            have u7 := (HX6.out j u hu wi HBj.out).2
            have su := (HX6.out j u hu wi HBj.out).1
            clear hu
            by_cases hux : u.text = x.text
            · have e16 := seq_t hux
              have HA1 : Hid (alsoTo (x :: l) x.text (j + 1) = al) := by show _ = _; rw [alsoTo_no HU.out hux, HAl.out]
              clear hux
              go_wp2_with fail
              go_roundw
              case rel => exact ⟨j + 1, pa, ca, by omega, by omega, by go_num, (by show NBox _ _ _ _ _ _ _ _ _ _ _; rw [HA1.out]; exact HNj.out)⟩
              case measure => simp [intOf]; omega
            · have e16 := seq_f hux
              obtain ⟨al2, hal2⟩ : ∃ al2, putT u.text.data.toList al = al2 := ⟨_, rfl⟩
              have HA1 : Hid (alsoTo (x :: l) x.text (j + 1) = al2) := by show _ = _; rw [alsoTo_yes HU.out hux, HAl.out, hal2]
              have HPut : Hid (∀ W, Below wi.heap.size wi W → Calls Tryz.prog 37 #[.slice pa al.length ca, .string u.text] W (SetOwnT W al2)) := Lib.hid fun W hb => by
                rw [← hal2]; exact rput24_any _ al u.text W (HNj.out.2.1.row.over hb) (by omega)
              clear hux hal2
              have c0 := HNj.out.1.arr.cell (j := 0) rfl
              have c1 := HNj.out.1.arr.cell (j := 1) rfl
              have c2 := HNj.out.1.arr.cell (j := 2) rfl
              have c3 := HNj.out.1.arr.cell (j := 3) rfl
              have c4 := HNj.out.1.arr.cell (j := 4) rfl
              have c5 := HNj.out.1.arr.cell (j := 5) rfl
              have sc := HNj.out.1.arr.lt
              have cf4 := HNj.out.1.arr.free 4
              have hbg : ¬ b6 = g := by have := HG7.out; omega
              go_upto_region 17 with (fail)
              have hcur : World.grownBy wi wi.drew (some g) := ⟨rfl, rfl, rfl, Nat.le_refl _, fun _ _ _ => rfl⟩
              refine wp_region_lex (C := IsKept wi (some g)) 10 [1] (by kernel_rfl) (by kernel_rfl) (isKept_of hcur) ?_
              simp only [List.take_succ_cons, List.take_zero, List.drop_succ_cons, List.drop_zero]
              repeat (first | (refine lex_skip rfl rfl ?_; simp only [Act.put, List.setIfInBounds_toArray, List.set_cons_succ, List.set_cons_zero]) | (refine lex_one rfl ?_; go_big_quiet_step (fail); refine wpQuiet_nil ?_) | (refine lex_loud rfl ?_; go_wp2_with (first | (go_at_call 37; (with_reducible refine (HPut.out _ (Below.refl _ _).drew).mono ?_); rintro e w9 ⟨va, rfl, hoa, hb⟩; obtain ⟨pa2, ca2, hva⟩ := own_sl hoa; subst hva; have HBk : Hid (Below wi.heap.size wi w9) := Lib.hid (below_over (Below.refl _ _).drew (Nat.le_refl _) hb); have HN9 := Lib.hid (HNj.out.over HBk.out); have HOa := Lib.hid hoa; replace hcur := grown_trans hcur (grown_of_below hb); clear hb hoa; have d0 := HN9.out.1.arr.cell (j := 0) rfl; have d1 := HN9.out.1.arr.cell (j := 1) rfl; have d2 := HN9.out.1.arr.cell (j := 2) rfl; have d3 := HN9.out.1.arr.cell (j := 3) rfl; have d4 := HN9.out.1.arr.cell (j := 4) rfl; have d5 := HN9.out.1.arr.cell (j := 5) rfl; have sd := HN9.out.1.arr.lt; have df4 := HN9.out.1.arr.free 4)); refine ⟨isKept_of (by first | exact hcur | exact only_alloc hcur _ | exact grown_trans hcur (grown_setCell _ _ _) | exact grown_trans (grown_trans hcur (grown_setCell _ _ _)) (grown_setCell _ _ _)), ?_⟩))
              refine lex_end ?_
              have HN17 := Lib.hid (HN9.out.also (HOa.out.base (by have := HBj.out.size; exact this)))
              clear hcur
              go_wp2_with fail
              go_roundw
              case rel => exact ⟨j + 1, pa2, ca2, by omega, by omega, by go_num, (by show NBox _ _ _ _ _ _ _ _ _ _ _; rw [HA1.out]; exact HN17.out)⟩
              case measure => simp [intOf]; omega
          · obtain rfl : j = n6 := by omega
            have HAe : Hid (alsoTo (x :: l) x.text (x :: l).length = al) := Lib.hid (by rw [hl6]; exact HAl.out)
            obtain ⟨c, hc⟩ : ∃ c, decide (0 < al.length) = c := ⟨_, rfl⟩
            have HC := Lib.hid hc
            subst hQ
            have c0 := HNj.out.1.arr.cell (j := 0) rfl
            have c1 := HNj.out.1.arr.cell (j := 1) rfl
            have c2 := HNj.out.1.arr.cell (j := 2) rfl
            have c3 := HNj.out.1.arr.cell (j := 3) rfl
            have c4 := HNj.out.1.arr.cell (j := 4) rfl
            have c5 := HNj.out.1.arr.cell (j := 5) rfl
            have sc := HNj.out.1.arr.lt
            have cf5 := HNj.out.1.arr.free 5
            go_upto_if 76 with (fail)
            go_cut [] (fun wx => ∃ pf cf, Hid (NBox w7 wx g fv ⟨#[]⟩ al (flQ c false) pa ca pf cf))
            case first =>
              cases c with
              | true =>
                have d18 : decide ((0 : Int) < (al.length : Int)) = true := decide_eq_true (by have := of_decide_eq_true hc; omega)
                have hN1 : ([] : List UInt8).length + 1 ≤ 1099511627776 := by decide
                have hB1 := HBj.out.size
                clear hc
                go_wp2_with ((at_builtin; (first | refine wpList_append_newD slByte rfl _ _ rfl w7.heap.size _ _ (drawn_alloc_drewN _ _ _) 1 _ _ _ HNj.out.2.2.1 rfl rfl rfl rfl hN1 (by decide) hB1 ?_ | refine wpList_append_newD slByte rfl _ _ rfl w7.heap.size _ _ (drawn_drew _) 1 _ _ _ HNj.out.2.2.1 rfl rfl rfl rfl hN1 (by decide) hB1 ?_ | refine wpList_append_newD slByte rfl _ _ rfl w7.heap.size _ _ (drawn_drewN _ _) 1 _ _ _ HNj.out.2.2.1 rfl rfl rfl rfl hN1 (by decide) hB1 ?_ | refine wpList_append_newD slByte rfl _ _ rfl w7.heap.size _ _ (drawn_refl _) 1 _ _ _ HNj.out.2.2.1 rfl rfl rfl rfl hN1 (by decide) hB1 ?_); intro v13 w13 ho13 hg13); (obtain ⟨pf, cf, hpf⟩ := own_sl (show GOwn encU8 1 5 w13 w7.heap.size v13 [2] from GOwn.snoc (xs := []) (x := 2) ho13); subst hpf; have HOf := Lib.hid (show GOwn encU8 1 5 w13 w7.heap.size (.slice pf 1 cf) [2] from GOwn.snoc (xs := []) (x := 2) ho13); have HGr := Lib.hid (HNj.out.grown hg13); have HGg := Lib.hid hg13; have q5 := HGr.out.1.arr.cell (j := 5) rfl; have q5f := HGr.out.1.arr.free 5; have q5s := HGr.out.1.arr.lt; clear ho13 hg13))
                go_meet
                exact ⟨pf, cf, Lib.hid (by show NBox _ _ _ _ _ _ _ _ _ _ _; rw [flQ_tf]; exact HNj.out.flaw (fl' := [2]) HGg.out HOf.out)⟩
              | false =>
                have d18 : decide ((0 : Int) < (al.length : Int)) = false := decide_eq_false (by have := of_decide_eq_false hc; omega)
                clear hc
                go_wp2_with fail
                go_meet
                exact ⟨none, 0, Lib.hid (by show NBox _ _ _ _ _ _ _ _ _ _ _; rw [flQ_ff]; exact HNj.out)⟩
            case rest =>
              obtain ⟨pf, cf, HNc⟩ := hcut
              rename World => wc
              clear c0 c1 c2 c3 c4 c5 cf5 sc hc
              have c0 := HNc.out.1.arr.cell (j := 0) rfl
              have c1 := HNc.out.1.arr.cell (j := 1) rfl
              have c2 := HNc.out.1.arr.cell (j := 2) rfl
              have c3 := HNc.out.1.arr.cell (j := 3) rfl
              have c4 := HNc.out.1.arr.cell (j := 4) rfl
              have c5 := HNc.out.1.arr.cell (j := 5) rfl
              have sc := HNc.out.1.arr.lt
              have cf3 := HNc.out.1.arr.free 3
              go_upto_region 21 with (fail)
              have HN20 := Lib.hid (HNc.out.name x.text)
              generalize hwd : wc.setCell ⟨g, 3, none⟩ (.string x.text) = wd at *
              clear hwd c0 c1 c2 c3 c4 c5 cf3 sc HNc
              go_wp2_with fail
              go_hide hQ2
              go_loopw [10] (fun v10 wi => RNmIn w7 LL fs k g fv x al c pa ca v10 wi) (fun v10 _ => k - (intOf v10).toNat)
              case atStart => exact ⟨0, false, pf, cf, Nat.zero_le _, rfl, (by show _ = _; simp), (by show NBox _ _ _ _ _ _ _ _ _ _ _; rw [nmQ_f]; exact HN20.out)⟩
              case round =>
                rename World => wq
                obtain ⟨j, q, pf2, cf2, hj, rfl, HQ, HNq⟩ := hrel
                have HBq := Lib.hid (below_over HBl7.out (by have := HG7.out; omega) HNq.out.2.2.2.1)
                by_cases hjk : j < k
                · obtain ⟨f2, hf2⟩ := get_of_lt (xs := fs) (i := j) (by omega)
                  have HK_f2 := Lib.hid hf2
                  have hjf : j < fs.length := by omega
                  have HGq := Lib.hid (HG2.out.over HBq.out)
                  obtain ⟨nl2, hnl2⟩ : ∃ nl, namesM LL f2 = nl := ⟨_, rfl⟩
                  have HOf2 : Hid (∀ W, Below wq.heap.size wq W → Calls Tryz.prog 11 #[.agg #[.slice a xs.length cap], .agg #[.int .u8 (f2.pid.author.toNat : Int), .int .u16 (f2.pid.seq.toNat : Int), .int .u8 (f2.n.toNat : Int)]] W fun e w' => ∃ a6 n6 c6, e = .returned (.slice a6 n6 c6) ∧ nl2.length = n6 ∧ GRow encVert 9 w' (.slice a6 n6 c6) nl2 ∧ Below W.heap.size W w') := Lib.hid fun W hb => by
                    rw [← hnl2]; exact HOf.out f2 W (below_over HBq.out HBq.out.size hb)
                  have hnll2 := HNL.out f2
                  rw [hnl2] at hnll2
                  have HNl2 := Lib.hid hnl2
                  clear hnl2 hf2
                  have g0 := HGq.out.cell (j := 0) rfl
                  have sg := HGq.out.lt
                  have HP_q := Lib.hid (HFc.out j f2 HK_f2.out wq HBq.out)
                  have q0 : wq.cell? ⟨b4, o4 + j * 3, none⟩ = some (.int .u8 (f2.pid.author.toNat : Int)) := HP_q.out.2 0 _ rfl
                  have q1 : wq.cell? ⟨b4, o4 + j * 3 + 1, none⟩ = some (.int .u16 (f2.pid.seq.toNat : Int)) := HP_q.out.2 1 _ rfl
                  have q2 : wq.cell? ⟨b4, o4 + j * 3 + 2, none⟩ = some (.int .u8 (f2.n.toNat : Int)) := HP_q.out.2 2 _ rfl
                  have sq := HP_q.out.1
                  go_upto_region 24 with (fail)
                  have hcur : Below wq.heap.size wq wq.drew := (Below.refl _ _).drew
                  refine wp_region_lex (C := IsOver wq) 7 [] (by kernel_rfl) (by kernel_rfl) (isOver_of (by repeat (first | exact Below.refl _ _ | apply Below.drew | apply below_drewN | (refine Below.alloc ?_ (by simp) _)))) ?_
                  simp only [List.take_succ_cons, List.take_zero, List.drop_succ_cons, List.drop_zero]
                  repeat (first | (refine lex_skip rfl rfl ?_; simp only [Act.put, List.setIfInBounds_toArray, List.set_cons_succ, List.set_cons_zero]) | (refine lex_one rfl ?_; go_big_quiet_step (fail); refine wpQuiet_nil ?_) | (refine lex_loud rfl ?_; go_wp2_with (first | (go_at_call 11; (with_reducible refine (HOf2.out _ hcur).mono ?_); rintro e w' ⟨a11, n11, c11, rfl, hn11, hr, hb⟩; have HR11 := Lib.hid hr; have HN11 := Lib.hid hn11; clear hn11; replace hcur := below_over hcur hcur.size hb; clear hb hr)); refine ⟨isOver_of hcur, ?_⟩))
                  refine lex_end ?_
                  rename World => wr2
                  have hn11 := HN11.out
                  clear HN11
                  have HNr := Lib.hid (HNq.out.over hcur)
                  have HBr2 := Lib.hid (below_over HBq.out HBq.out.size hcur)
                  clear hcur g0 sg q0 q1 q2 sq HOf2
                  obtain ⟨a11', c11', he11, n111, n112, hc11⟩ := HR11.out.at encVert_len
                  obtain ⟨he11a, he11b, he11c⟩ := Value.slice.inj he11
                  subst he11a
                  subst he11c
                  clear he11 he11b
                  unfold maxLen at n112
                  cases nl2 with
                  | nil =>
                    obtain rfl : n11 = 0 := hn11.symm
                    have HA := Lib.hid (any_or HQ.out HK_f2.out (first_nil HNl2.out) (Bool.or_false q))
                    clear hc11
                    go_wp2_with fail
                    go_roundw
                    case rel => exact ⟨j + 1, q, pf2, cf2, by omega, by go_num, HA, HNr⟩
                    case measure => simp [intOf]; omega
                  | cons y l2 =>
                    have hn0 : 0 < n11 := by rw [← hn11]; simp
                    obtain ⟨b11, o11, rfl, s11, hcy⟩ := hc11.resolve_left (by rw [List.length_cons]; omega)
                    have d25 : decide ((0 : Int) < (n11 : Int)) = true := by simp; omega
                    have y7 := (hcy 0 y rfl wr2 (Below.refl _ _)).2 7 _ rfl
                    rw [Nat.zero_mul, Nat.add_zero] at y7
                    clear hcy hn11
                    by_cases hy : y.text = x.text
                    · have e25 : (y.text.toList == x.text.toList) = true := seq_t hy
                      have HF := Lib.hid (first_cons HNl2.out (decide_eq_true hy))
                      clear hy
                      cases q with
                      | true =>
                        have e26 : ((nmQ x fv true).toList == x.text.toList) = false := seq_f (nmQ_ne x fv)
                        have HA := Lib.hid (any_or HQ.out HK_f2.out HF.out (Bool.true_or _))
                        have c0 := HNr.out.1.arr.cell (j := 0) rfl
                        have c1 := HNr.out.1.arr.cell (j := 1) rfl
                        have c2 := HNr.out.1.arr.cell (j := 2) rfl
                        have c3 := HNr.out.1.arr.cell (j := 3) rfl
                        have c4 := HNr.out.1.arr.cell (j := 4) rfl
                        have c5 := HNr.out.1.arr.cell (j := 5) rfl
                        have sc := HNr.out.1.arr.lt
                        go_wp2_with fail
                        go_roundw
                        case rel => exact ⟨j + 1, true, pf2, cf2, by omega, by go_num, HA, HNr⟩
                        case measure => simp [intOf]; omega
                      | false =>
                        have HA := Lib.hid (any_or HQ.out HK_f2.out HF.out rfl)
                        obtain ⟨fl, hfl⟩ : ∃ fl, flQ c false = fl := ⟨_, rfl⟩
                        have hfll := flQ_len c false
                        rw [hfl] at HNr hfll
                        rw [nmQ_f] at HNr
                        obtain ⟨fl3, hfl3⟩ : ∃ fl3, fl ++ [4] = fl3 := ⟨_, rfl⟩
                        have HFt : Hid (flQ c true = fl3) := Lib.hid ((flQ_t c hfl).trans hfl3)
                        have e26 : (x.text.toList == x.text.toList) = true := seq_t rfl
                        have HTx : Hid (∀ W, Calls Tryz.prog 36 #[.agg #[.int .u8 (fv.pid.author.toNat : Int), .int .u16 (fv.pid.seq.toNat : Int), .int .u8 (fv.n.toNat : Int)]] W fun e w' => e = .returned (.string (textB fv)) ∧ Below W.heap.size W w') := Lib.hid fun W => rvtext_any fv W
                        have zt := textB_size fv
                        obtain ⟨T, hT⟩ : ∃ T, textB fv = T := ⟨_, rfl⟩
                        have HNt : Hid (nmQ x fv true = x.text ++ (⟨#[126]⟩ : ByteArray) ++ T) := Lib.hid (nmQ_t x fv hT)
                        rw [hT] at HTx zt
                        clear hT hfl
                        have c0 := HNr.out.1.arr.cell (j := 0) rfl
                        have c1 := HNr.out.1.arr.cell (j := 1) rfl
                        have c2 := HNr.out.1.arr.cell (j := 2) rfl
                        have c3 := HNr.out.1.arr.cell (j := 3) rfl
                        have c4 := HNr.out.1.arr.cell (j := 4) rfl
                        have c5 := HNr.out.1.arr.cell (j := 5) rfl
                        have sc := HNr.out.1.arr.lt
                        have HP_p := Lib.hid (HFc.out k fv HK_fv.out wr2 HBr2.out)
                        have p0 : wr2.cell? ⟨b4, o4 + k * 3, none⟩ = some (.int .u8 (fv.pid.author.toNat : Int)) := HP_p.out.2 0 _ rfl
                        have p1 : wr2.cell? ⟨b4, o4 + k * 3 + 1, none⟩ = some (.int .u16 (fv.pid.seq.toNat : Int)) := HP_p.out.2 1 _ rfl
                        have p2 : wr2.cell? ⟨b4, o4 + k * 3 + 2, none⟩ = some (.int .u8 (fv.n.toNat : Int)) := HP_p.out.2 2 _ rfl
                        have sp := HP_p.out.1
                        go_upto_region 27 with (first | (go_at_call 36; (with_reducible refine (HTx.out _).mono ?_); rintro e w9 ⟨rfl, hb9⟩; have HN9 := Lib.hid (HNr.out.over hb9); have c0 := HN9.out.1.arr.cell (j := 0) rfl; have c1 := HN9.out.1.arr.cell (j := 1) rfl; have c2 := HN9.out.1.arr.cell (j := 2) rfl; have c3 := HN9.out.1.arr.cell (j := 3) rfl; have c4 := HN9.out.1.arr.cell (j := 4) rfl; have c5 := HN9.out.1.arr.cell (j := 5) rfl; have sc := HN9.out.1.arr.lt; have cf3 := HN9.out.1.arr.free 3; clear hb9))
                        have HN26 := Lib.hid (HN9.out.name (x.text ++ (⟨#[126]⟩ : ByteArray) ++ T))
                        generalize hw26 : w9.setCell ⟨g, 3, none⟩ (.string (x.text ++ (⟨#[126]⟩ : ByteArray) ++ T)) = w26 at *
                        clear hw26 c0 c1 c2 c3 c4 c5 sc cf3 p0 p1 p2 sp HN9 HTx y7
                        have c0 := HN26.out.1.arr.cell (j := 0) rfl
                        have c1 := HN26.out.1.arr.cell (j := 1) rfl
                        have c2 := HN26.out.1.arr.cell (j := 2) rfl
                        have c3 := HN26.out.1.arr.cell (j := 3) rfl
                        have c4 := HN26.out.1.arr.cell (j := 4) rfl
                        have c5 := HN26.out.1.arr.cell (j := 5) rfl
                        have sc := HN26.out.1.arr.lt
                        have cf5 := HN26.out.1.arr.free 5
                        have hN1 : fl.length + 1 ≤ 1099511627776 := by omega
                        have hB1 : w7.heap.size ≤ w26.heap.size := HN26.out.2.2.2.1.size
                        go_wp2_with ((at_builtin; (first | refine wpList_append_newD slByte rfl _ _ rfl w7.heap.size _ _ (drawn_alloc_drewN _ _ _) 1 _ _ _ HN26.out.2.2.1 rfl rfl rfl rfl hN1 (by decide) hB1 ?_ | refine wpList_append_newD slByte rfl _ _ rfl w7.heap.size _ _ (drawn_drew _) 1 _ _ _ HN26.out.2.2.1 rfl rfl rfl rfl hN1 (by decide) hB1 ?_ | refine wpList_append_newD slByte rfl _ _ rfl w7.heap.size _ _ (drawn_drewN _ _) 1 _ _ _ HN26.out.2.2.1 rfl rfl rfl rfl hN1 (by decide) hB1 ?_ | refine wpList_append_newD slByte rfl _ _ rfl w7.heap.size _ _ (drawn_refl _) 1 _ _ _ HN26.out.2.2.1 rfl rfl rfl rfl hN1 (by decide) hB1 ?_); intro v13 w13 ho13 hg13); (obtain ⟨pf3, cf3, hpf⟩ := own_sl (show GOwn encU8 1 5 w13 w7.heap.size v13 fl3 from gown_cast hfl3 (GOwn.snoc (xs := fl) (x := 4) ho13)); subst hpf; have HOf := Lib.hid (show GOwn encU8 1 5 w13 w7.heap.size (.slice pf3 fl3.length cf3) fl3 from gown_cast hfl3 (GOwn.snoc (xs := fl) (x := 4) ho13)); have HGr := Lib.hid (HN26.out.grown hg13); have HGg := Lib.hid hg13; have q5 := HGr.out.1.arr.cell (j := 5) rfl; have q5f := HGr.out.1.arr.free 5; have q5s := HGr.out.1.arr.lt; clear ho13 hg13))
                        have HN27 := Lib.hid (HN26.out.flaw (fl' := fl3) HGg.out HOf.out)
                        go_roundw
                        case rel => exact ⟨j + 1, true, pf3, cf3, by omega, by go_num, HA, (by show NBox _ _ _ _ _ _ _ _ _ _ _; rw [HNt.out, HFt.out]; exact HN27.out)⟩
                        case measure => simp [intOf]; omega
                    · have e25 : (y.text.toList == x.text.toList) = false := seq_f hy
                      have HA := Lib.hid (any_or HQ.out HK_f2.out (first_cons HNl2.out (decide_eq_false hy)) (Bool.or_false q))
                      clear hy
                      go_wp2_with fail
                      go_roundw
                      case rel => exact ⟨j + 1, q, pf2, cf2, by omega, by go_num, HA, HNr⟩
                      case measure => simp [intOf]; omega
                · obtain rfl : j = k := by omega
                  have HE2 := Lib.hid (nmR_cons HNl.out HAe.out HC.out HQ.out)
                  obtain ⟨fl, hfl⟩ : ∃ fl, flQ c q = fl := ⟨_, rfl⟩
                  obtain ⟨nm, hnm⟩ : ∃ nm, nmQ x fv q = nm := ⟨_, rfl⟩
                  rw [hfl, hnm] at HNq HE2
                  clear hfl hnm
                  subst hQ2
                  have HBe := Lib.hid (below_over HBl7.out (by have := HG7.out; omega) HNq.out.2.2.2.1)
                  obtain ⟨ys, hys, hO, hNa⟩ := HN.out.over (below_over HB7.out HB7.out.size (by have := HNq.out.2.2.2.1; exact this))
                  have HYs := Lib.hid hys
                  have HOx := Lib.hid hO
                  have HNa := Lib.hid hNa
                  have hyl : ys.length = j := by have h9 := allR_len LL (fs.take j) []; rw [← hys, List.length_map, List.length_take] at h9; omega
                  have hNx : ys.length + 1 ≤ 1099511627776 := by omega
                  have hBx : w2.heap.size ≤ wq.heap.size := HBe.out.size
                  have HAt := Lib.hid (HNq.out.at (B := w2.heap.size) (by have := HG7.out; omega))
                  clear hys hO hNa
                  have d0 := HNq.out.1.arr.cell (j := 0) rfl
                  have d1 := HNq.out.1.arr.cell (j := 1) rfl
                  have d2 := HNq.out.1.arr.cell (j := 2) rfl
                  have d3 := HNq.out.1.arr.cell (j := 3) rfl
                  have d4 := HNq.out.1.arr.cell (j := 4) rfl
                  have d5 := HNq.out.1.arr.cell (j := 5) rfl
                  have sd := HNq.out.1.arr.lt
                  go_wp2_with (at_builtin; (first | refine wpList_append_newD slName24 rfl _ _ rfl w2.heap.size _ _ (drawn_alloc_drewN _ _ _) 1 _ _ _ HOx.out rfl rfl rfl rfl hNx (by decide) hBx ?_ | refine wpList_append_newD slName24 rfl _ _ rfl w2.heap.size _ _ (drawn_drew _) 1 _ _ _ HOx.out rfl rfl rfl rfl hNx (by decide) hBx ?_ | refine wpList_append_newD slName24 rfl _ _ rfl w2.heap.size _ _ (drawn_drewN _ _) 1 _ _ _ HOx.out rfl rfl rfl rfl hNx (by decide) hBx ?_ | refine wpList_append_newD slName24 rfl _ _ rfl w2.heap.size _ _ (drawn_refl _) 1 _ _ _ HOx.out rfl rfl rfl rfl hNx (by decide) hBx ?_); intro v19 w19 ho19 hg19)
                  have HNs := Lib.hid (rnames_snoc (y := ⟨⟨fv, nm, al, fl⟩, pa, ca, pf2, cf2⟩) HYs.out HOx.out HNa.out HAt.out hg19 ho19)
                  have HB19 := Lib.hid (below_grown HBe.out hBx HOx.out hg19)
                  clear ho19 hg19
                  go_roundw
                  case rel => exact ⟨j + 1, hlt, by go_num, (by show RNames _ _ _ _; rw [HSu.out, HE2.out]; exact HNs.out), HB19⟩
                  case measure => simp [intOf]; omega
    · obtain rfl : k = fs.length := by omega
      have HE := HN.out
      rw [List.take_length] at HE
      obtain ⟨ys, h5, h6, h7⟩ := HE
      have HE2 : Hid (RNames wr w.heap.size _ (allR LL [] fs)) := Lib.hid ⟨ys, h5, h6.base HB2.out.size, fun x hx => ⟨(h7 x hx).1.base HB2.out.size, (h7 x hx).2.base HB2.out.size⟩⟩
      clear h5 h6 h7 HN
      go_wp2_with fail
      go_ret
      exact ⟨_, rfl, HE2.out, below_over HB2.out HB2.out.size HBl.out⟩
end Go.Proofs.YtfciedmmgddgpaaGreatDoor
