/- Contract of ref21.Of. What ref27.Ops needs: rows apart, marks. Contract of ref27.Ops. Contract of ref20.Check. Contracts of ref20.Apply and of the model of patches. How much a few patches make. What the laws of layer 23 share. Contract of patch.Make, of a patch that may be. -/
import Derived.Test.YtanfebljiblhbaaGreatDoorHR21A
import Derived.Test.YtanfebljiblhbaaGreatDoorHRefM
set_option linter.unusedVariables false
set_option linter.unusedSimpArgs false
namespace Go.Proofs.YtanfebljiblhbaaGreatDoor
open Go Go.RowKit

/-- a row of large things lies in no small block -/
theorem Row.other{w w':World}{v:Value}{n sz g:Nat}{cs ds:List Value}(h:Row w v n sz cs)(hA:Arr w g ds)(hd:ds.length<sz)(hg:w.grownBy w' (some g)):Row w' v n sz cs:=by
 obtain⟨h1,a,cap,rfl,h2,h3,h4,h5⟩:=h
 refine⟨h1,a,cap,rfl,h2,h3,h4,fun hn => ?_⟩
 obtain⟨b,off,ha,hb,hc⟩:=h5 hn
 have hne:b≠g:=by
  rintro rfl
  have hlt:sz - 1<cs.length:=by
   rw [h1]
   have:1*sz≤n*sz:=Nat.mul_le_mul_right _ (by omega)
   omega
  have hcell:=hc (sz - 1) _ (List.getElem?_eq_getElem hlt)
  obtain⟨e,he⟩:=hA
  rw [cell_of_row w b (off+(sz - 1)) _ e (0,0) he] at hcell
  have hno:ds[off+(sz - 1)]? = none:=List.getElem?_eq_none (by omega)
  simp [hno] at hcell
 refine⟨b,off,ha,Nat.lt_of_lt_of_le hb hg.size,fun j u hu => ?_⟩
 rw [World.cell?_of_block (hg.block b hb (fun q=>hne (Option.some.inj q)))]
 exact hc j u hu
attribute [local irreducible] placeM linesM relM stepsM edgesM
end Go.Proofs.YtanfebljiblhbaaGreatDoor
namespace Go.Proofs.YtanfebljiblhbaaGreatDoor
open Go Go.RowKit

theorem own_sep{α β:Type}{enc:α→List Value}{enc':β→List Value}{sz sz':Nat}{e e':TypeId}{w:World}{B B':Nat}{v v':Value}{xs:List α}{ys:List β}(h:GOwn enc sz e w B v xs)(h':GOwn enc' sz' e' w B' v' ys)(hn:e≠e'):v.ownBlock=none∨v.ownBlock≠v'.ownBlock:=by
 rcases h.2 with⟨rfl,_⟩|⟨g,cap,cur,rfl,_,hg,_⟩
 ·
  exact .inl rfl
 ·
  rcases h'.2 with⟨rfl,_⟩|⟨g',cap',cur',rfl,_,hg',_⟩
  ·
   exact .inr (fun q=>by cases q)
  ·
   refine .inr (fun q => ?_)
   simp only [Value.ownBlock,Option.some.injEq] at q
   subst q
   rw [hg] at hg'
   simp only [Option.some.injEq,Obj.cells.injEq] at hg'
   exact hn hg'.2.1
theorem own_by{α β:Type}{enc:α→List Value}{enc':β→List Value}{sz sz':Nat}{e e':TypeId}{w w':World}{B B':Nat}{v v':Value}{xs:List α}{ys:List β}(h:GOwn enc sz e w B v xs)(h':GOwn enc' sz' e' w B' v' ys)(hn:e≠e')(hg:w.grownBy w' v'.ownBlock):GOwn enc sz e w' B v xs:=
 own_grown h hg (own_sep h h' hn)
def markV(ms:List Bool):List Value:=ms.map .bool
theorem markV_set(ms:List Bool)(k:Nat)(b:Bool):(markV ms).set k (.bool b)=markV (ms.set k b):=by unfold markV;rw [List.map_set]
noncomputable def ftx(l:List VertM)(R:List (Nat × Nat))(k:Nat):List ByteArray:=(firmTo l R k).map (textAt l)
/-- the firm lines and their texts under way -/
structure FmTx (wr w1:World) (l:List VertM) (R:List (Nat × Nat)) (k:Nat) (v12 v13:Value):Prop where
 firm:GOwn encI 1 3 wr w1.heap.size v12 (firmTo l R k)
 text:GOwn encS1 1 9 wr w1.heap.size v13 (ftx l R k)
 below:Below w1.heap.size w1 wr
theorem FmTx.over{wr w1 w2:World}{l:List VertM}{R:List (Nat × Nat)}{k:Nat}{v12 v13:Value}(h:FmTx wr w1 l R k v12 v13)(hb:Below wr.heap.size wr w2):FmTx w2 w1 l R k v12 v13:=⟨h.firm.over hb,h.text.over hb,below_over h.below h.below.size hb⟩
/-- what kept and made lines there are, under way -/
structure MkAt (wr w1:World) (gB gT:Nat) (ms:List Bool) (ks:List Int):Prop where
 marks:ArrT wr gB 4 (markV ms)
 kept:ArrT wr gT 3 (keptV1 ks)
 below:Below w1.heap.size w1 wr
theorem MkAt.over{wr w1 w2:World}{gB gT:Nat}{ms:List Bool}{ks:List Int}(h:MkAt wr w1 gB gT ms ks)(hb:Below wr.heap.size wr w2):MkAt w2 w1 gB gT ms ks:=⟨h.marks.over hb,h.kept.over hb,below_over h.below h.below.size hb⟩
theorem MkAt.mark{wr w1:World}{gB gT:Nat}{ms:List Bool}{ks:List Int}(h:MkAt wr w1 gB gT ms ks)(hg:w1.heap.size≤gB)(k:Nat)(b:Bool):MkAt (wr.setCell ⟨gB,k,none⟩ (.bool b)) w1 gB gT (ms.set k b) ks:=
 ⟨by rw [← markV_set];exact h.marks.set k _,h.kept.set_other (fun e=>(h.marks.ne_type h.kept (by decide)) e.symm) _,h.below.setCell (p:=⟨gB,k,none⟩) hg _⟩
theorem MkAt.keep{wr w1:World}{gB gT:Nat}{ms:List Bool}{ks:List Int}(h:MkAt wr w1 gB gT ms ks)(hg:w1.heap.size≤gT)(k:Nat)(x:Int):MkAt (wr.setCell ⟨gT,k,none⟩ (.int .i64 x)) w1 gB gT ms (ks.set k x):=
 ⟨h.marks.set_other (h.marks.ne_type h.kept (by decide)) _,by rw [← keptV1_set];exact h.kept.set k _,h.below.setCell (p:=⟨gT,k,none⟩) hg _⟩
/-- with operations under way -/
structure MkOp (wr w1:World) (gB gT:Nat) (ms:List Bool) (ks:List Int) (p:Option Addr) (c:Nat) (ops:List OpM):Prop where
 ma:MkAt wr w1 gB gT ms ks
 own:GOwn encOp 8 96 wr w1.heap.size (.slice p ops.length c) ops
theorem MkOp.over{wr w1 w2:World}{gB gT:Nat}{ms:List Bool}{ks:List Int}{p:Option Addr}{c:Nat}{ops:List OpM}(h:MkOp wr w1 gB gT ms ks p c ops)(hb:Below wr.heap.size wr w2):MkOp w2 w1 gB gT ms ks p c ops:=⟨h.ma.over hb,h.own.over hb⟩
theorem MkOp.op{wr w1 w9:World}{gB gT:Nat}{ms:List Bool}{ks:List Int}{p p9:Option Addr}{c c9:Nat}{ops ops9:List OpM}(h:MkOp wr w1 gB gT ms ks p c ops)(ho:GOwn encOp 8 96 w9 w1.heap.size (.slice p9 ops9.length c9) ops9)(hg:wr.grownBy w9 (Value.slice p ops.length c).ownBlock):MkOp w9 w1 gB gT ms ks p9 c9 ops9:=
 ⟨⟨h.ma.marks.kept hg (h.ma.marks.ne h.own (by decide)),h.ma.kept.kept hg (h.ma.kept.ne h.own (by decide)),below_grown h.ma.below h.ma.below.size h.own hg⟩,ho⟩
/-- .. and names -/
structure MkNm (wr w1:World) (gB gT:Nat) (ms:List Bool) (ks:List Int) (p:Option Addr) (c:Nat) (ops:List OpM) (p':Option Addr) (c':Nat) (at':List VidM):Prop where
 mo:MkOp wr w1 gB gT ms ks p c ops
 names:GOwn encVid 3 27 wr w1.heap.size (.slice p' at'.length c') at'
theorem MkNm.over{wr w1 w2:World}{gB gT:Nat}{ms:List Bool}{ks:List Int}{p p':Option Addr}{c c':Nat}{ops:List OpM}{at':List VidM}(h:MkNm wr w1 gB gT ms ks p c ops p' c' at')(hb:Below wr.heap.size wr w2):MkNm w2 w1 gB gT ms ks p c ops p' c' at':=⟨h.mo.over hb,h.names.over hb⟩
theorem MkNm.op{wr w1 w9:World}{gB gT:Nat}{ms:List Bool}{ks:List Int}{p p' p9:Option Addr}{c c' c9:Nat}{ops ops9:List OpM}{at':List VidM}(h:MkNm wr w1 gB gT ms ks p c ops p' c' at')(ho:GOwn encOp 8 96 w9 w1.heap.size (.slice p9 ops9.length c9) ops9)(hg:wr.grownBy w9 (Value.slice p ops.length c).ownBlock):MkNm w9 w1 gB gT ms ks p9 c9 ops9 p' c' at':=
 ⟨h.mo.op ho hg,own_by h.names h.mo.own (by decide) hg⟩
theorem MkNm.name{wr w1 w9:World}{gB gT:Nat}{ms:List Bool}{ks:List Int}{p p' p9:Option Addr}{c c' c9:Nat}{ops:List OpM}{at' at9:List VidM}(h:MkNm wr w1 gB gT ms ks p c ops p' c' at')(ho:GOwn encVid 3 27 w9 w1.heap.size (.slice p9 at9.length c9) at9)(hg:wr.grownBy w9 (Value.slice p' at'.length c').ownBlock):MkNm w9 w1 gB gT ms ks p c ops p9 c9 at9:=
 ⟨⟨⟨h.mo.ma.marks.kept hg (h.mo.ma.marks.ne h.names (by decide)),h.mo.ma.kept.kept hg (h.mo.ma.kept.ne h.names (by decide)),below_grown h.mo.ma.below h.mo.ma.below.size h.names hg⟩,own_by h.mo.own h.names (by decide) hg⟩,ho⟩
end Go.Proofs.YtanfebljiblhbaaGreatDoor
namespace Go.Proofs.YtanfebljiblhbaaGreatDoor
open Go Go.RowKit

attribute [local irreducible] keptV1 markV textAt aliveX firmTo ftx firmB
end Go.Proofs.YtanfebljiblhbaaGreatDoor
namespace Go.Proofs.YtanfebljiblhbaaGreatDoor
open Go Go.RowKit

attribute [local irreducible] goodP hasM nextM vecM checkM refMet vertM isKind optV
end Go.Proofs.YtanfebljiblhbaaGreatDoor
namespace Go.Proofs.YtanfebljiblhbaaGreatDoor
open Go Go.RowKit

def apX(xs:List LaidP)(x:LaidP):List LaidP:=if checkM (patsOf xs) x.p=0 then xs++[x] else xs
theorem apX_of(xs:List LaidP)(x:LaidP):patsOf (apX xs x)=applyM (patsOf xs) x.p:=by
 unfold apX applyM
 split
 ·
  unfold patsOf;rw [List.map_append];rfl
 ·
  rfl
attribute [local irreducible] checkM apX goodP hasM vecM
/-! ### the model -/
def modX(xs:List LaidP):List LaidP:=xs.foldl apX []
theorem modX_mem:∀(xs out:List LaidP) (y:LaidP),y∈xs.foldl apX out→y∈out∨y∈xs
 | [],out,y,h=>.inl h
 | x :: xs,out,y,h=>by
  rcases modX_mem xs (apX out x) y h with h1|h1
  ·
   unfold apX at h1
   split at h1
   ·
    rcases List.mem_append.1 h1 with h2|h2
    ·
     exact .inl h2
    ·
     exact .inr (by rw [List.mem_singleton.1 h2];exact List.mem_cons_self ..)
   ·
    exact .inl h1
  ·
   exact .inr (List.mem_cons_of_mem _ h1)
theorem modX_len:∀(xs out:List LaidP),(xs.foldl apX out).length≤out.length+xs.length
 | [],out=>by simp
 | x :: xs,out=>by
  have h1:=modX_len xs (apX out x)
  have h2:(apX out x).length≤out.length+1:=by unfold apX;split <;> simp
  rw [List.foldl_cons,List.length_cons];omega
theorem modX_pats(xs:List LaidP):patsOf (modX xs)=buildM (patsOf xs):=by
 have:∀(xs out:List LaidP),patsOf (xs.foldl apX out)=(patsOf xs).foldl applyM (patsOf out):=by
  intro xs
  induction xs with
  | nil=>intro out;rfl
  | cons x xs ih=>intro out;rw [List.foldl_cons,ih,apX_of];rfl
 exact this xs []
attribute [local irreducible] modX
end Go.Proofs.YtanfebljiblhbaaGreatDoor
namespace Go.Proofs.YtanfebljiblhbaaGreatDoor
open Go Go.RowKit

theorem modX_in{xs:List LaidP}{y:LaidP}(h:y∈modX xs):y∈xs:=(modX_mem xs [] y h).resolve_left (by simp)
theorem modX_few{xs:List LaidP}:(modX xs).length≤xs.length:=by
 unfold modX
 have h3:=modX_len xs []
 rw [List.length_nil] at h3;omega
theorem fewMod{m:Nat}{xs:List LaidP}(h:fewL m (xs.map (·.p))=true):(patsOf (modX xs)).length≤m∧∀ p∈patsOf (modX xs),p.ops.length≤60:=by
 have h1:=fewL_len h
 rw [List.length_map] at h1
 have h2:=modX_few (xs:=xs)
 refine⟨by show((modX xs).map (·.p)).length≤m;rw [List.length_map];omega,fun p hp => ?_⟩
 obtain⟨y,hy,rfl⟩:=List.mem_map.1 hp
 exact(fewL_ops h (List.mem_map.2 ⟨y,modX_in hy,rfl⟩)).1
theorem few_ids{m:Nat}{xs:List LaidP}(h:fewL m (xs.map (·.p))=true):(idsM (patsOf (modX xs))).length≤60*m:=by
 obtain⟨h1,h2⟩:=fewMod h
 have:=idsOf_few _ 60 h2
 have h3:(idsM (patsOf (modX xs))).length≤(idsOf (patsOf (modX xs))).length:=setS_few _
 have:=Nat.mul_le_mul_left 60 h1
 omega
theorem few_edges{m:Nat}{xs:List LaidP}(h:fewL m (xs.map (·.p))=true):(edgesM (patsOf (modX xs))).length≤60*m:=by
 obtain⟨h1,h2⟩:=fewMod h
 have:=edgesOf_few _ 60 h2
 have h3:(edgesM (patsOf (modX xs))).length≤(edgesOf (patsOf (modX xs))).length:=setS_few _
 have:=Nat.mul_le_mul_left 60 h1
 omega
end Go.Proofs.YtanfebljiblhbaaGreatDoor
namespace Go.Proofs.YtanfebljiblhbaaGreatDoor
open Go Go.RowKit

end Go.Proofs.YtanfebljiblhbaaGreatDoor
namespace Go.Proofs.YtanfebljiblhbaaGreatDoor
open Go Go.RowKit

theorem own_slM{α:Type}{enc:α→List Value}{sz:Nat}{e:TypeId}{w:World}{B:Nat}{v:Value}{xs:List α}(h:GOwn enc sz e w B v xs):∃ p c,v=.slice p xs.length c:=by
 rcases h.2 with⟨rfl,h0⟩|⟨g,cap,cur,rfl,_⟩
 ·
  exact⟨none,0,by rw [h0]⟩
 ·
  exact⟨_,_,rfl⟩
theorem gown_keepM{α:Type}{enc:α→List Value}{sz:Nat}{e:TypeId}{w w':World}{B:Nat}{v:Value}{xs:List α}{row:Option Nat}(h:GOwn enc sz e w B v xs)(hg:w.grownBy w' row)(hr:∀ k,row=some k→k<B):GOwn enc sz e w' B v xs:=
 own_grown h hg (by
  cases hv:v.ownBlock with
  | none=>exact .inl rfl
  | some k=>exact .inr fun q=>by have:=gown_base h hv;have:=hr k q.symm;omega)

theorem rowPat:RowT Tryz.prog 71 4:=rowT_of Tryz.underlying71 rfl (by kernel_rfl)
def MakeRes(w:World)(id:PidM)(ops:List OpM)(e:Ending)(w':World):Prop:=∃ pd cd po co,e=.returned (.tuple #[.agg #[.int .u8 id.author.toNat,.int .u16 id.seq.toNat,.slice pd (depsM id ops).length cd,.slice po ops.length co],.int .i64 0])∧GOwn encPid 2 25 w' w.heap.size (.slice pd (depsM id ops).length cd) (depsM id ops)∧GOwn encOp 8 96 w' w.heap.size (.slice po ops.length co) ops∧Below w.heap.size w w'
attribute [local irreducible] depsM goodQ
set_option maxHeartbeats 8000000 in
set_option maxRecDepth 100000 in
theorem pmake_any(id:PidM)(v:Value)(ops:List OpM)(w:World)(hv:GRow encOp 8 w v ops)(hl:ops.length≤1000)(hz:∀ o∈ops,o.text.size≤maxLen)(hg:goodQ id (depsM id ops) ops=true) :
  Calls Tryz.prog 41 #[pidV id,v] w (MakeRes w id ops):=by
 have HI:=Lib.hid ((arr_new w #[.int .u8 id.author.toNat,.int .u16 id.seq.toNat] 25).alloc (.cells #[.int .u8 0,.int .u16 0,.slice none 0 0,.slice none 0 0] 71))
 have HR:=Lib.hid (arr_new2 w (.cells #[.int .u8 id.author.toNat,.int .u16 id.seq.toNat] 25) #[.int .u8 0,.int .u16 0,.slice none 0 0,.slice none 0 0] 71)
 have HB:=Lib.hid ((below_new (w:=w) (.cells #[.int .u8 id.author.toNat,.int .u16 id.seq.toNat] 25)).alloc (by simp) (.cells #[.int .u8 0,.int .u16 0,.slice none 0 0,.slice none 0 0] 71))
 have HV:=Lib.hid (hv.over HB.out)
 have HZs:=Lib.hid hz
 have HG:=Lib.hid hg
 clear hv hz hg
 unfold pidV
 go_enter Tryz.func41,Tryz.ntmps41
 go_upto_region 1 with(fail)
 have hs0:((w.alloc (.cells #[.int .u8 id.author.toNat,.int .u16 id.seq.toNat] 25)).alloc (.cells #[.int .u8 0,.int .u16 0,.slice none 0 0,.slice none 0 0] 71)).heap.size=w.heap.size+1+1:=by simp
 generalize hw0:(w.alloc (.cells #[.int .u8 id.author.toNat,.int .u16 id.seq.toNat] 25)).alloc (.cells #[.int .u8 0,.int .u16 0,.slice none 0 0,.slice none 0 0] 71)=w0 at *
 have HS0:=Lib.hid hs0
 clear hw0 hs0
 have i0:=HI.out.cell (j:=0) rfl
 have i1:=HI.out.cell (j:=1) rfl
 have si:=HI.out.lt
 have HS:Hid (∀ w':World,Below w0.heap.size w0 w'→(w'.cell? ⟨w.heap.size,0,none⟩=some (.int .u8 id.author.toNat)∧w'.cell? ⟨w.heap.size,1,none⟩=some (.int .u16 id.seq.toNat)∧Below w0.heap.size w0 w')):=fun w' hb=>⟨(hb.cell (p:=⟨w.heap.size,0,none⟩) si).trans i0,(hb.cell (p:=⟨w.heap.size,1,none⟩) si).trans i1,hb⟩
 go_cut [6] (fun s6 wx=>∃ g6 pd cd po co,s6=.pointer (some ⟨g6,0,none⟩)∧Hid (ArrT wx g6 71 [.int .u8 id.author.toNat,.int .u16 id.seq.toNat,.slice pd (depsM id ops).length cd,.slice po ops.length co])∧Hid (GOwn encPid 2 25 wx w0.heap.size (.slice pd (depsM id ops).length cd) (depsM id ops))∧Hid (GOwn encOp 8 96 wx w0.heap.size (.slice po ops.length co) ops)∧Hid (Below w0.heap.size w0 wx))
 case first =>
  go_region_held3 (fun w'=>w'.cell? ⟨w.heap.size,0,none⟩=some (.int .u8 id.author.toNat)∧w'.cell? ⟨w.heap.size,1,none⟩=some (.int .u16 id.seq.toNat)∧Below w0.heap.size w0 w') ((refine HS.out _ ?_;(with_reducible (first|exact(Below.refl _ _).drew|exact HBc.out|exact HBc.out.alloc HBc.out.size _|exact HBd.out|exact HBd.out.alloc HBd.out.size _|exact((Below.refl w0.heap.size w0).alloc (Nat.le_refl _) _).drew|exact((((HBc.out.setCell (p:=⟨w0.heap.size,0,none⟩) (Nat.le_refl _) (.int .u8 id.author.toNat)).setCell (p:=⟨w0.heap.size,1,none⟩) (Nat.le_refl _) (.int .u16 id.seq.toNat)).setCell (p:=⟨w0.heap.size,2,none⟩) (Nat.le_refl _) (.slice pd (depsM id ops).length cd)).setCell (p:=⟨w0.heap.size,3,none⟩) (Nat.le_refl _) (.slice po ops.length co))|exact((((HBc.out.setCell (p:=⟨w5.heap.size,0,none⟩) HBd.out.size (.int .u8 id.author.toNat)).setCell (p:=⟨w5.heap.size,1,none⟩) HBd.out.size (.int .u16 id.seq.toNat)).setCell (p:=⟨w5.heap.size,2,none⟩) HBd.out.size (.slice pd (depsM id ops).length cd)).setCell (p:=⟨w5.heap.size,3,none⟩) HBd.out.size (.slice po ops.length co))))))
   (first|(go_at_call 84;refine(pdeps_any id v ops _ (HV.out.over (by first|exact(Below.refl _ _).drew|exact((Below.refl w0.heap.size w0).alloc (Nat.le_refl _) _).drew)) (by omega)).mono ?_;rintro e w5 ⟨dv,rfl,ho5,hb5⟩;obtain⟨pd,cd,hdv⟩:=own_slM ho5;subst hdv;have HBd:Hid (Below w0.heap.size w0 w5):=(by show Below w0.heap.size w0 w5;with_reducible (first|exact below_over (Below.refl w0.heap.size w0).drew (Nat.le_refl _) hb5|exact below_over (((Below.refl w0.heap.size w0).alloc (Nat.le_refl _) _).drew) (Below.size (((Below.refl w0.heap.size w0).alloc (Nat.le_refl _) _).drew)) hb5));have HO5:Hid (GOwn encPid 2 25 w5 w0.heap.size (.slice pd (depsM id ops).length cd) (depsM id ops)):=Lib.hid (ho5.base (by first|exact Nat.le_refl _|(simp)));have HB5b:=Lib.hid hb5;have hs5:=hb5.size;(try(have hs5b:w0.heap.size<w5.heap.size:=(by have h:=hb5.size;simp at h;omega)));clear hs5;obtain⟨hc5,hf5⟩:=bcell hb5;clear ho5 hb5) |
    (go_at_call 85;refine(cloneOp v ops _ (HV.out.over (by first|exact HBd.out|exact HBd.out.alloc HBd.out.size _)) (by omega)).mono ?_;rintro e w6 ⟨ov,rfl,ho6,hb6⟩;obtain⟨po,co,hov⟩:=own_slM ho6;subst hov;have HBc:Hid (Below w0.heap.size w0 w6):=(by show Below w0.heap.size w0 w6;with_reducible (first|exact below_over HBd.out HBd.out.size hb6|exact below_over (HBd.out.alloc HBd.out.size _) (Below.size (HBd.out.alloc HBd.out.size _)) hb6));have HO6:Hid (GOwn encOp 8 96 w6 w0.heap.size (.slice po ops.length co) ops):=Lib.hid (ho6.base (by have:=HBd.out.size;first|exact this|(simp;omega)));have HO56:Hid (GOwn encPid 2 25 w6 w0.heap.size (.slice pd (depsM id ops).length cd) (depsM id ops)):=Lib.hid (by first|exact HO5.out.over hb6|exact(HO5.out.over (below_new _)).over hb6);have HB6b:=Lib.hid hb6;obtain⟨hc6,hf6⟩:=bcell hb6;clear ho6 hb6))
  ·
   rename_i J K hJ hK hHeld
   clear hHeld
   refine hK _ _ (Met.intro (hJ _ _ ?_))
   (repeat apply Exists.intro)
   refine⟨?_,rfl⟩
   exact⟨_,pd,cd,po,co,rfl,Lib.hid (arrT_new w6 [.int .u8 id.author.toNat,.int .u16 id.seq.toNat,.slice pd (depsM id ops).length cd,.slice po ops.length co] 71),Lib.hid (HO56.out.over (below_new _)),Lib.hid (HO6.out.over (below_new _)),Lib.hid (HBc.out.alloc HBc.out.size _)⟩
  ·
   rename_i J K hJ hK hHeld
   clear hHeld
   refine hK _ _ (Met.intro (hJ _ _ ?_))
   (repeat apply Exists.intro)
   refine⟨?_,rfl⟩
   have HZ:Hid (ArrT w6 w5.heap.size 71 [.int .u8 0,.int .u16 0,.slice none 0 0,.slice none 0 0]):=Lib.hid ((arrT_new w5 [.int .u8 0,.int .u16 0,.slice none 0 0,.slice none 0 0] 71).over HB6b.out)
   have nd:(Value.slice pd (depsM id ops).length cd).ownBlock=none∨(Value.slice pd (depsM id ops).length cd).ownBlock≠some w5.heap.size:=.inr (fun q=>(HZ.out.ne (show World.ownsRow _ _ _ _ _ _ _ from HO56.out) (by decide)) q.symm)
   have no:(Value.slice po ops.length co).ownBlock=none∨(Value.slice po ops.length co).ownBlock≠some w5.heap.size:=.inr (fun q=>(HZ.out.ne (show World.ownsRow _ _ _ _ _ _ _ from HO6.out) (by decide)) q.symm)
   exact⟨_,pd,cd,po,co,rfl,Lib.hid ((((HZ.out.set 0 (.int .u8 id.author.toNat)).set 1 (.int .u16 id.seq.toNat)).set 2 (.slice pd (depsM id ops).length cd)).set 3 (.slice po ops.length co)),Lib.hid (show GOwn encPid 2 25 _ w0.heap.size (.slice pd (depsM id ops).length cd) (depsM id ops) from own_grown HO56.out (grown_trans (grown_trans (grown_trans (grown_trans (World.grownBy.refl w6 _) (grown_setCell _ _ _)) (grown_setCell _ _ _)) (grown_setCell _ _ _)) (grown_setCell _ _ _)) nd),Lib.hid (show GOwn encOp 8 96 _ w0.heap.size (.slice po ops.length co) ops from own_grown HO6.out (grown_trans (grown_trans (grown_trans (grown_trans (World.grownBy.refl w6 _) (grown_setCell _ _ _)) (grown_setCell _ _ _)) (grown_setCell _ _ _)) (grown_setCell _ _ _)) no),Lib.hid ((((HBc.out.setCell (p:=⟨w5.heap.size,0,none⟩) HBd.out.size (.int .u8 id.author.toNat)).setCell (p:=⟨w5.heap.size,1,none⟩) HBd.out.size (.int .u16 id.seq.toNat)).setCell (p:=⟨w5.heap.size,2,none⟩) HBd.out.size (.slice pd (depsM id ops).length cd)).setCell (p:=⟨w5.heap.size,3,none⟩) HBd.out.size (.slice po ops.length co))⟩
  ·
   rename_i J K hJ hK hHeld
   clear hHeld
   refine hK _ _ (Met.intro (hJ _ _ ?_))
   (repeat apply Exists.intro)
   refine⟨?_,rfl⟩
   have HZ:Hid (ArrT w6 w0.heap.size 71 [.int .u8 0,.int .u16 0,.slice none 0 0,.slice none 0 0]):=Lib.hid (((show ArrT (w0.alloc (.cells #[.int .u8 0,.int .u16 0,.slice none 0 0,.slice none 0 0] 71)).drew w0.heap.size 71 [.int .u8 0,.int .u16 0,.slice none 0 0,.slice none 0 0] from arrT_new w0 [.int .u8 0,.int .u16 0,.slice none 0 0,.slice none 0 0] 71).over HB5b.out).over HB6b.out)
   have nd:(Value.slice pd (depsM id ops).length cd).ownBlock=none∨(Value.slice pd (depsM id ops).length cd).ownBlock≠some w0.heap.size:=.inr (fun q=>(HZ.out.ne (show World.ownsRow _ _ _ _ _ _ _ from HO56.out) (by decide)) q.symm)
   have no:(Value.slice po ops.length co).ownBlock=none∨(Value.slice po ops.length co).ownBlock≠some w0.heap.size:=.inr (fun q=>(HZ.out.ne (show World.ownsRow _ _ _ _ _ _ _ from HO6.out) (by decide)) q.symm)
   exact⟨_,pd,cd,po,co,rfl,Lib.hid ((((HZ.out.set 0 (.int .u8 id.author.toNat)).set 1 (.int .u16 id.seq.toNat)).set 2 (.slice pd (depsM id ops).length cd)).set 3 (.slice po ops.length co)),Lib.hid (show GOwn encPid 2 25 _ w0.heap.size (.slice pd (depsM id ops).length cd) (depsM id ops) from own_grown HO56.out (grown_trans (grown_trans (grown_trans (grown_trans (World.grownBy.refl w6 _) (grown_setCell _ _ _)) (grown_setCell _ _ _)) (grown_setCell _ _ _)) (grown_setCell _ _ _)) nd),Lib.hid (show GOwn encOp 8 96 _ w0.heap.size (.slice po ops.length co) ops from own_grown HO6.out (grown_trans (grown_trans (grown_trans (grown_trans (World.grownBy.refl w6 _) (grown_setCell _ _ _)) (grown_setCell _ _ _)) (grown_setCell _ _ _)) (grown_setCell _ _ _)) no),Lib.hid ((((HBc.out.setCell (p:=⟨w0.heap.size,0,none⟩) (Nat.le_refl _) (.int .u8 id.author.toNat)).setCell (p:=⟨w0.heap.size,1,none⟩) (Nat.le_refl _) (.int .u16 id.seq.toNat)).setCell (p:=⟨w0.heap.size,2,none⟩) (Nat.le_refl _) (.slice pd (depsM id ops).length cd)).setCell (p:=⟨w0.heap.size,3,none⟩) (Nat.le_refl _) (.slice po ops.length co))⟩
 case rest =>
  obtain⟨g6,pd,cd,po,co,rfl,HA6,HO5,HO6,HB6⟩:=hcut
  rename World=>w6
  have HR6:=Lib.hid (HR.out.over HB6.out)
  have hs6:=HB6.out.size
  clear i0 i1 si HS
  have p0:=HA6.out.arr.cell (j:=0) rfl
  have p1:=HA6.out.arr.cell (j:=1) rfl
  have p2:=HA6.out.arr.cell (j:=2) rfl
  have p3:=HA6.out.arr.cell (j:=3) rfl
  have sp:=HA6.out.arr.lt
  go_wp2_with fail
  refine(pgood_any id _ _ (depsM id ops) ops _ HO5.out.row HO6.out.row (by omega) HZs.out).mono ?_
  rintro e w7 ⟨rfl,hb7⟩
  rw [HG.out]
  have HB7:=Lib.hid (below_over HB6.out HB6.out.size hb7)
  have HA7:=Lib.hid (HA6.out.over hb7)
  have HR7:=Lib.hid (HR6.out.over hb7)
  have HO57:=Lib.hid (HO5.out.over hb7)
  have HO67:=Lib.hid (HO6.out.over hb7)
  clear hb7 p0 p1 p2 p3 sp
  have p0:=HA7.out.arr.cell (j:=0) rfl
  have p1:=HA7.out.arr.cell (j:=1) rfl
  have p2:=HA7.out.arr.cell (j:=2) rfl
  have p3:=HA7.out.arr.cell (j:=3) rfl
  have sp:=HA7.out.arr.lt
  have r0:=HR7.out.cell (j:=0) rfl
  have r1:=HR7.out.cell (j:=1) rfl
  have r2:=HR7.out.cell (j:=2) rfl
  have r3:=HR7.out.cell (j:=3) rfl
  have sr:=HR7.out.lt
  have rf0:=HR7.out.free 0
  have rf1:=HR7.out.free 1
  have rf2:=HR7.out.free 2
  have rf3:=HR7.out.free 3
  have HF:=Lib.hid ((((HR7.out.set 0 (.int .u8 id.author.toNat)).set 1 (.int .u16 id.seq.toNat)).set 2 (.slice pd (depsM id ops).length cd)).set 3 (.slice po ops.length co))
  have hs0:=HS0.out
  have hgr:World.grownBy w7 ((((w7.setCell ⟨w.heap.size+1,0,none⟩ (.int .u8 id.author.toNat)).setCell ⟨w.heap.size+1,1,none⟩ (.int .u16 id.seq.toNat)).setCell ⟨w.heap.size+1,2,none⟩ (.slice pd (depsM id ops).length cd)).setCell ⟨w.heap.size+1,3,none⟩ (.slice po ops.length co)) (some (w.heap.size+1)):=(grown_trans (grown_trans (grown_trans (grown_trans (World.grownBy.refl w7 _) (grown_setCell _ _ _)) (grown_setCell _ _ _)) (grown_setCell _ _ _)) (grown_setCell _ _ _))
  have HO58:=Lib.hid (gown_keepM HO57.out hgr (fun j hj=>by cases hj;omega))
  have HO68:=Lib.hid (gown_keepM HO67.out hgr (fun j hj=>by cases hj;omega))
  have HB8:=Lib.hid ((below_over HB.out HB.out.size HB7.out).grown hgr (by have:=HB7.out.size;omega) (fun j hj=>by cases hj;omega))
  clear hgr hs0
  go_wp2_with fail
  exact bodyPost_ret (v:=.tuple #[.agg #[.int .u8 id.author.toNat,.int .u16 id.seq.toNat,.slice pd (depsM id ops).length cd,.slice po ops.length co],.int .i64 0]) (results_arr_slot rowPat rfl HF.out rfl rfl rfl) rfl ⟨pd,cd,po,co,rfl,HO58.out.base (by have:=HS0.out;omega),HO68.out.base (by have:=HS0.out;omega),HB8.out⟩
end Go.Proofs.YtanfebljiblhbaaGreatDoor
