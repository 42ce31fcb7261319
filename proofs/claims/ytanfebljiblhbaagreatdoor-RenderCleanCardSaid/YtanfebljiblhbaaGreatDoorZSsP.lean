/- Contract of ref21.Of. What ref27.Ops needs: rows apart, marks. Contract of ref27.Ops. Contract of ref20.Check. Contracts of ref20.Apply and of the model of patches. How much a few patches make. What the laws of layer 23 share. -/
import Derived.Test.YtanfebljiblhbaaGreatDoorZR21A
import Derived.Test.YtanfebljiblhbaaGreatDoorZRefM
set_option linter.unusedVariables false
set_option linter.unusedSimpArgs false
namespace Go.Proofs.YtanfebljiblhbaaGreatDoor
open Go Go.RowKit

/-- a row of large things lies in no small block -/
theorem Row.other{w w':World}{v:Value}{n sz g:Nat}{cs ds:List Value}(h:Row w v n sz cs)(hA:Arr w g ds)(hd:ds.length<sz)(hg:w.grownBy w' (some g)):Row w' v n sz cs:=by
 obtain⟨h1,a,cap,rfl,h2,h3,h4,h5⟩:=h
 refine⟨h1,a,cap,rfl,h2,h3,h4,fun hn => ?_⟩
 obtain⟨b,off,ha,hb,hc⟩:=h5 hn
 have hne:b≠g:=by
  rintro rfl
  have hlt:sz - 1<cs.length:=by
   rw [h1]
   have:1*sz≤n*sz:=Nat.mul_le_mul_right _ (by omega)
   omega
  have hcell:=hc (sz - 1) _ (List.getElem?_eq_getElem hlt)
  obtain⟨e,he⟩:=hA
  rw [cell_of_row w b (off+(sz - 1)) _ e (0,0) he] at hcell
  have hno:ds[off+(sz - 1)]? = none:=List.getElem?_eq_none (by omega)
  simp [hno] at hcell
 refine⟨b,off,ha,Nat.lt_of_lt_of_le hb hg.size,fun j u hu => ?_⟩
 rw [World.cell?_of_block (hg.block b hb (fun q=>hne (Option.some.inj q)))]
 exact hc j u hu
attribute [local irreducible] placeM linesM relM stepsM edgesM
end Go.Proofs.YtanfebljiblhbaaGreatDoor
namespace Go.Proofs.YtanfebljiblhbaaGreatDoor
open Go Go.RowKit

theorem own_sep{α β:Type}{enc:α→List Value}{enc':β→List Value}{sz sz':Nat}{e e':TypeId}{w:World}{B B':Nat}{v v':Value}{xs:List α}{ys:List β}(h:GOwn enc sz e w B v xs)(h':GOwn enc' sz' e' w B' v' ys)(hn:e≠e'):v.ownBlock=none∨v.ownBlock≠v'.ownBlock:=by
 rcases h.2 with⟨rfl,_⟩|⟨g,cap,cur,rfl,_,hg,_⟩
 ·
  exact .inl rfl
 ·
  rcases h'.2 with⟨rfl,_⟩|⟨g',cap',cur',rfl,_,hg',_⟩
  ·
   exact .inr (fun q=>by cases q)
  ·
   refine .inr (fun q => ?_)
   simp only [Value.ownBlock,Option.some.injEq] at q
   subst q
   rw [hg] at hg'
   simp only [Option.some.injEq,Obj.cells.injEq] at hg'
   exact hn hg'.2.1
theorem own_by{α β:Type}{enc:α→List Value}{enc':β→List Value}{sz sz':Nat}{e e':TypeId}{w w':World}{B B':Nat}{v v':Value}{xs:List α}{ys:List β}(h:GOwn enc sz e w B v xs)(h':GOwn enc' sz' e' w B' v' ys)(hn:e≠e')(hg:w.grownBy w' v'.ownBlock):GOwn enc sz e w' B v xs:=
 own_grown h hg (own_sep h h' hn)
def markV(ms:List Bool):List Value:=ms.map .bool
theorem markV_set(ms:List Bool)(k:Nat)(b:Bool):(markV ms).set k (.bool b)=markV (ms.set k b):=by unfold markV;rw [List.map_set]
noncomputable def ftx(l:List VertM)(R:List (Nat × Nat))(k:Nat):List ByteArray:=(firmTo l R k).map (textAt l)
/-- the firm lines and their texts under way -/
structure FmTx (wr w1:World) (l:List VertM) (R:List (Nat × Nat)) (k:Nat) (v12 v13:Value):Prop where
 firm:GOwn encI 1 3 wr w1.heap.size v12 (firmTo l R k)
 text:GOwn encS1 1 9 wr w1.heap.size v13 (ftx l R k)
 below:Below w1.heap.size w1 wr
theorem FmTx.over{wr w1 w2:World}{l:List VertM}{R:List (Nat × Nat)}{k:Nat}{v12 v13:Value}(h:FmTx wr w1 l R k v12 v13)(hb:Below wr.heap.size wr w2):FmTx w2 w1 l R k v12 v13:=⟨h.firm.over hb,h.text.over hb,below_over h.below h.below.size hb⟩
/-- what kept and made lines there are, under way -/
structure MkAt (wr w1:World) (gB gT:Nat) (ms:List Bool) (ks:List Int):Prop where
 marks:ArrT wr gB 4 (markV ms)
 kept:ArrT wr gT 3 (keptV1 ks)
 below:Below w1.heap.size w1 wr
theorem MkAt.over{wr w1 w2:World}{gB gT:Nat}{ms:List Bool}{ks:List Int}(h:MkAt wr w1 gB gT ms ks)(hb:Below wr.heap.size wr w2):MkAt w2 w1 gB gT ms ks:=⟨h.marks.over hb,h.kept.over hb,below_over h.below h.below.size hb⟩
theorem MkAt.mark{wr w1:World}{gB gT:Nat}{ms:List Bool}{ks:List Int}(h:MkAt wr w1 gB gT ms ks)(hg:w1.heap.size≤gB)(k:Nat)(b:Bool):MkAt (wr.setCell ⟨gB,k,none⟩ (.bool b)) w1 gB gT (ms.set k b) ks:=
 ⟨by rw [← markV_set];exact h.marks.set k _,h.kept.set_other (fun e=>(h.marks.ne_type h.kept (by decide)) e.symm) _,h.below.setCell (p:=⟨gB,k,none⟩) hg _⟩
theorem MkAt.keep{wr w1:World}{gB gT:Nat}{ms:List Bool}{ks:List Int}(h:MkAt wr w1 gB gT ms ks)(hg:w1.heap.size≤gT)(k:Nat)(x:Int):MkAt (wr.setCell ⟨gT,k,none⟩ (.int .i64 x)) w1 gB gT ms (ks.set k x):=
 ⟨h.marks.set_other (h.marks.ne_type h.kept (by decide)) _,by rw [← keptV1_set];exact h.kept.set k _,h.below.setCell (p:=⟨gT,k,none⟩) hg _⟩
/-- with operations under way -/
structure MkOp (wr w1:World) (gB gT:Nat) (ms:List Bool) (ks:List Int) (p:Option Addr) (c:Nat) (ops:List OpM):Prop where
 ma:MkAt wr w1 gB gT ms ks
 own:GOwn encOp 8 96 wr w1.heap.size (.slice p ops.length c) ops
theorem MkOp.over{wr w1 w2:World}{gB gT:Nat}{ms:List Bool}{ks:List Int}{p:Option Addr}{c:Nat}{ops:List OpM}(h:MkOp wr w1 gB gT ms ks p c ops)(hb:Below wr.heap.size wr w2):MkOp w2 w1 gB gT ms ks p c ops:=⟨h.ma.over hb,h.own.over hb⟩
theorem MkOp.op{wr w1 w9:World}{gB gT:Nat}{ms:List Bool}{ks:List Int}{p p9:Option Addr}{c c9:Nat}{ops ops9:List OpM}(h:MkOp wr w1 gB gT ms ks p c ops)(ho:GOwn encOp 8 96 w9 w1.heap.size (.slice p9 ops9.length c9) ops9)(hg:wr.grownBy w9 (Value.slice p ops.length c).ownBlock):MkOp w9 w1 gB gT ms ks p9 c9 ops9:=
 ⟨⟨h.ma.marks.kept hg (h.ma.marks.ne h.own (by decide)),h.ma.kept.kept hg (h.ma.kept.ne h.own (by decide)),below_grown h.ma.below h.ma.below.size h.own hg⟩,ho⟩
/-- .. and names -/
structure MkNm (wr w1:World) (gB gT:Nat) (ms:List Bool) (ks:List Int) (p:Option Addr) (c:Nat) (ops:List OpM) (p':Option Addr) (c':Nat) (at':List VidM):Prop where
 mo:MkOp wr w1 gB gT ms ks p c ops
 names:GOwn encVid 3 27 wr w1.heap.size (.slice p' at'.length c') at'
theorem MkNm.over{wr w1 w2:World}{gB gT:Nat}{ms:List Bool}{ks:List Int}{p p':Option Addr}{c c':Nat}{ops:List OpM}{at':List VidM}(h:MkNm wr w1 gB gT ms ks p c ops p' c' at')(hb:Below wr.heap.size wr w2):MkNm w2 w1 gB gT ms ks p c ops p' c' at':=⟨h.mo.over hb,h.names.over hb⟩
theorem MkNm.op{wr w1 w9:World}{gB gT:Nat}{ms:List Bool}{ks:List Int}{p p' p9:Option Addr}{c c' c9:Nat}{ops ops9:List OpM}{at':List VidM}(h:MkNm wr w1 gB gT ms ks p c ops p' c' at')(ho:GOwn encOp 8 96 w9 w1.heap.size (.slice p9 ops9.length c9) ops9)(hg:wr.grownBy w9 (Value.slice p ops.length c).ownBlock):MkNm w9 w1 gB gT ms ks p9 c9 ops9 p' c' at':=
 ⟨h.mo.op ho hg,own_by h.names h.mo.own (by decide) hg⟩
theorem MkNm.name{wr w1 w9:World}{gB gT:Nat}{ms:List Bool}{ks:List Int}{p p' p9:Option Addr}{c c' c9:Nat}{ops:List OpM}{at' at9:List VidM}(h:MkNm wr w1 gB gT ms ks p c ops p' c' at')(ho:GOwn encVid 3 27 w9 w1.heap.size (.slice p9 at9.length c9) at9)(hg:wr.grownBy w9 (Value.slice p' at'.length c').ownBlock):MkNm w9 w1 gB gT ms ks p c ops p9 c9 at9:=
 ⟨⟨⟨h.mo.ma.marks.kept hg (h.mo.ma.marks.ne h.names (by decide)),h.mo.ma.kept.kept hg (h.mo.ma.kept.ne h.names (by decide)),below_grown h.mo.ma.below h.mo.ma.below.size h.names hg⟩,own_by h.mo.own h.names (by decide) hg⟩,ho⟩
end Go.Proofs.YtanfebljiblhbaaGreatDoor
namespace Go.Proofs.YtanfebljiblhbaaGreatDoor
open Go Go.RowKit

attribute [local irreducible] keptV1 markV textAt aliveX firmTo ftx firmB
end Go.Proofs.YtanfebljiblhbaaGreatDoor
namespace Go.Proofs.YtanfebljiblhbaaGreatDoor
open Go Go.RowKit

attribute [local irreducible] goodP hasM nextM vecM checkM refMet vertM isKind optV
end Go.Proofs.YtanfebljiblhbaaGreatDoor
namespace Go.Proofs.YtanfebljiblhbaaGreatDoor
open Go Go.RowKit

def apX(xs:List LaidP)(x:LaidP):List LaidP:=if checkM (patsOf xs) x.p=0 then xs++[x] else xs
theorem apX_of(xs:List LaidP)(x:LaidP):patsOf (apX xs x)=applyM (patsOf xs) x.p:=by
 unfold apX applyM
 split
 ·
  unfold patsOf;rw [List.map_append];rfl
 ·
  rfl
attribute [local irreducible] checkM apX goodP hasM vecM
/-! ### the model -/
def modX(xs:List LaidP):List LaidP:=xs.foldl apX []
theorem modX_mem:∀(xs out:List LaidP) (y:LaidP),y∈xs.foldl apX out→y∈out∨y∈xs
 | [],out,y,h=>.inl h
 | x :: xs,out,y,h=>by
  rcases modX_mem xs (apX out x) y h with h1|h1
  ·
   unfold apX at h1
   split at h1
   ·
    rcases List.mem_append.1 h1 with h2|h2
    ·
     exact .inl h2
    ·
     exact .inr (by rw [List.mem_singleton.1 h2];exact List.mem_cons_self ..)
   ·
    exact .inl h1
  ·
   exact .inr (List.mem_cons_of_mem _ h1)
theorem modX_len:∀(xs out:List LaidP),(xs.foldl apX out).length≤out.length+xs.length
 | [],out=>by simp
 | x :: xs,out=>by
  have h1:=modX_len xs (apX out x)
  have h2:(apX out x).length≤out.length+1:=by unfold apX;split <;> simp
  rw [List.foldl_cons,List.length_cons];omega
theorem modX_pats(xs:List LaidP):patsOf (modX xs)=buildM (patsOf xs):=by
 have:∀(xs out:List LaidP),patsOf (xs.foldl apX out)=(patsOf xs).foldl applyM (patsOf out):=by
  intro xs
  induction xs with
  | nil=>intro out;rfl
  | cons x xs ih=>intro out;rw [List.foldl_cons,ih,apX_of];rfl
 exact this xs []
attribute [local irreducible] modX
end Go.Proofs.YtanfebljiblhbaaGreatDoor
namespace Go.Proofs.YtanfebljiblhbaaGreatDoor
open Go Go.RowKit

theorem modX_in{xs:List LaidP}{y:LaidP}(h:y∈modX xs):y∈xs:=(modX_mem xs [] y h).resolve_left (by simp)
theorem modX_few{xs:List LaidP}:(modX xs).length≤xs.length:=by
 unfold modX
 have h3:=modX_len xs []
 rw [List.length_nil] at h3;omega
theorem fewMod{m:Nat}{xs:List LaidP}(h:fewL m (xs.map (·.p))=true):(patsOf (modX xs)).length≤m∧∀ p∈patsOf (modX xs),p.ops.length≤60:=by
 have h1:=fewL_len h
 rw [List.length_map] at h1
 have h2:=modX_few (xs:=xs)
 refine⟨by show((modX xs).map (·.p)).length≤m;rw [List.length_map];omega,fun p hp => ?_⟩
 obtain⟨y,hy,rfl⟩:=List.mem_map.1 hp
 exact(fewL_ops h (List.mem_map.2 ⟨y,modX_in hy,rfl⟩)).1
theorem few_ids{m:Nat}{xs:List LaidP}(h:fewL m (xs.map (·.p))=true):(idsM (patsOf (modX xs))).length≤60*m:=by
 obtain⟨h1,h2⟩:=fewMod h
 have:=idsOf_few _ 60 h2
 have h3:(idsM (patsOf (modX xs))).length≤(idsOf (patsOf (modX xs))).length:=setS_few _
 have:=Nat.mul_le_mul_left 60 h1
 omega
theorem few_edges{m:Nat}{xs:List LaidP}(h:fewL m (xs.map (·.p))=true):(edgesM (patsOf (modX xs))).length≤60*m:=by
 obtain⟨h1,h2⟩:=fewMod h
 have:=edgesOf_few _ 60 h2
 have h3:(edgesM (patsOf (modX xs))).length≤(edgesOf (patsOf (modX xs))).length:=setS_few _
 have:=Nat.mul_le_mul_left 60 h1
 omega
end Go.Proofs.YtanfebljiblhbaaGreatDoor
namespace Go.Proofs.YtanfebljiblhbaaGreatDoor
open Go Go.RowKit

end Go.Proofs.YtanfebljiblhbaaGreatDoor
