/- Contract of patch.Make, of a patch that may be. -/
import Derived.Test.YtllcipobiengiaaGreatYNmB
namespace Go.Proofs.YtllcipobiengiaaGreat
open Go Go.RowKit

theorem own_slM{α:Type}{enc:α→List Value}{sz:Nat}{e:TypeId}{w:World}{B:Nat}{v:Value}{xs:List α}(h:GOwn enc sz e w B v xs):∃ p c,v=.slice p xs.length c:=by
 rcases h.2 with⟨rfl,h0⟩|⟨g,cap,cur,rfl,_⟩
 ·
  exact⟨none,0,by rw [h0]⟩
 ·
  exact⟨_,_,rfl⟩
theorem gown_keepM{α:Type}{enc:α→List Value}{sz:Nat}{e:TypeId}{w w':World}{B:Nat}{v:Value}{xs:List α}{row:Option Nat}(h:GOwn enc sz e w B v xs)(hg:w.grownBy w' row)(hr:∀ k,row=some k→k<B):GOwn enc sz e w' B v xs:=
 own_grown h hg (by
  cases hv:v.ownBlock with
  | none=>exact .inl rfl
  | some k=>exact .inr fun q=>by have:=gown_base h hv;have:=hr k q.symm;omega)

theorem rowPat:RowT Tryz.prog 61 4:=rowT_of Tryz.underlying61 rfl (by kernel_rfl)
def MakeRes(w:World)(id:PidM)(ops:List OpM)(e:Ending)(w':World):Prop:=∃ pd cd po co,e=.returned (.tuple #[.agg #[.int .u8 id.author.toNat,.int .u16 id.seq.toNat,.slice pd (depsM id ops).length cd,.slice po ops.length co],.int .i64 0])∧GOwn encPid 2 26 w' w.heap.size (.slice pd (depsM id ops).length cd) (depsM id ops)∧GOwn encOp 8 58 w' w.heap.size (.slice po ops.length co) ops∧Below w.heap.size w w'
attribute [local irreducible] depsM goodQ
set_option maxHeartbeats 8000000 in
set_option maxRecDepth 100000 in
theorem pmake_any(id:PidM)(v:Value)(ops:List OpM)(w:World)(hv:GRow encOp 8 w v ops)(hl:ops.length≤1000)(hz:∀ o∈ops,o.text.size≤maxLen)(hg:goodQ id (depsM id ops) ops=true) :
  Calls Tryz.prog 22 #[pidV id,v] w (MakeRes w id ops):=by
 have HI:=Lib.hid ((anw w #[.int .u8 id.author.toNat,.int .u16 id.seq.toNat] 26).alloc (.cells #[.int .u8 0,.int .u16 0,.slice none 0 0,.slice none 0 0] 61))
 have HR:=Lib.hid (an2 w (.cells #[.int .u8 id.author.toNat,.int .u16 id.seq.toNat] 26) #[.int .u8 0,.int .u16 0,.slice none 0 0,.slice none 0 0] 61)
 have HB:=Lib.hid ((bnew (w:=w) (.cells #[.int .u8 id.author.toNat,.int .u16 id.seq.toNat] 26)).alloc (by simp) (.cells #[.int .u8 0,.int .u16 0,.slice none 0 0,.slice none 0 0] 61))
 have HV:=Lib.hid (hv.over HB.out)
 have HZs:=Lib.hid hz
 have HG:=Lib.hid hg
 clear hv hz hg
 unfold pidV
 go_enter Tryz.func22,Tryz.ntmps22
 go_upto_region 1 with(fail)
 have hs0:((w.alloc (.cells #[.int .u8 id.author.toNat,.int .u16 id.seq.toNat] 26)).alloc (.cells #[.int .u8 0,.int .u16 0,.slice none 0 0,.slice none 0 0] 61)).heap.size=w.heap.size+1+1:=by simp
 generalize hw0:(w.alloc (.cells #[.int .u8 id.author.toNat,.int .u16 id.seq.toNat] 26)).alloc (.cells #[.int .u8 0,.int .u16 0,.slice none 0 0,.slice none 0 0] 61)=w0 at *
 have HS0:=Lib.hid hs0
 clear hw0 hs0
 have i0:=HI.out.cell (j:=0) rfl
 have i1:=HI.out.cell (j:=1) rfl
 have si:=HI.out.lt
 have HS:Hid (∀ w':World,Below w0.heap.size w0 w'→(w'.cell? ⟨w.heap.size,0,none⟩=some (.int .u8 id.author.toNat)∧w'.cell? ⟨w.heap.size,1,none⟩=some (.int .u16 id.seq.toNat)∧Below w0.heap.size w0 w')):=fun w' hb=>⟨(hb.cell (p:=⟨w.heap.size,0,none⟩) si).trans i0,(hb.cell (p:=⟨w.heap.size,1,none⟩) si).trans i1,hb⟩
 go_cut [6] (fun s6 wx=>∃ g6 pd cd po co,s6=.pointer (some ⟨g6,0,none⟩)∧Hid (ArrT wx g6 61 [.int .u8 id.author.toNat,.int .u16 id.seq.toNat,.slice pd (depsM id ops).length cd,.slice po ops.length co])∧Hid (GOwn encPid 2 26 wx w0.heap.size (.slice pd (depsM id ops).length cd) (depsM id ops))∧Hid (GOwn encOp 8 58 wx w0.heap.size (.slice po ops.length co) ops)∧Hid (Below w0.heap.size w0 wx))
 case first =>
  go_region_held3 (fun w'=>w'.cell? ⟨w.heap.size,0,none⟩=some (.int .u8 id.author.toNat)∧w'.cell? ⟨w.heap.size,1,none⟩=some (.int .u16 id.seq.toNat)∧Below w0.heap.size w0 w') ((refine HS.out _ ?_;(with_reducible (first|exact(Below.refl _ _).drew|exact HBc.out|exact HBc.out.alloc HBc.out.size _|exact HBd.out|exact HBd.out.alloc HBd.out.size _|exact((Below.refl w0.heap.size w0).alloc (Nat.le_refl _) _).drew|exact((((HBc.out.setCell (p:=⟨w0.heap.size,0,none⟩) (Nat.le_refl _) (.int .u8 id.author.toNat)).setCell (p:=⟨w0.heap.size,1,none⟩) (Nat.le_refl _) (.int .u16 id.seq.toNat)).setCell (p:=⟨w0.heap.size,2,none⟩) (Nat.le_refl _) (.slice pd (depsM id ops).length cd)).setCell (p:=⟨w0.heap.size,3,none⟩) (Nat.le_refl _) (.slice po ops.length co))|exact((((HBc.out.setCell (p:=⟨w5.heap.size,0,none⟩) HBd.out.size (.int .u8 id.author.toNat)).setCell (p:=⟨w5.heap.size,1,none⟩) HBd.out.size (.int .u16 id.seq.toNat)).setCell (p:=⟨w5.heap.size,2,none⟩) HBd.out.size (.slice pd (depsM id ops).length cd)).setCell (p:=⟨w5.heap.size,3,none⟩) HBd.out.size (.slice po ops.length co))))))
   (first|(go_at_call 63;refine(pdeps_any id v ops _ (HV.out.over (by first|exact(Below.refl _ _).drew|exact((Below.refl w0.heap.size w0).alloc (Nat.le_refl _) _).drew)) (by omega)).mono ?_;rintro e w5 ⟨dv,rfl,ho5,hb5⟩;obtain⟨pd,cd,hdv⟩:=own_slM ho5;subst hdv;have HBd:Hid (Below w0.heap.size w0 w5):=(by show Below w0.heap.size w0 w5;with_reducible (first|exact bov (Below.refl w0.heap.size w0).drew (Nat.le_refl _) hb5|exact bov (((Below.refl w0.heap.size w0).alloc (Nat.le_refl _) _).drew) (Below.size (((Below.refl w0.heap.size w0).alloc (Nat.le_refl _) _).drew)) hb5));have HO5:Hid (GOwn encPid 2 26 w5 w0.heap.size (.slice pd (depsM id ops).length cd) (depsM id ops)):=Lib.hid (ho5.base (by first|exact Nat.le_refl _|(simp)));have HB5b:=Lib.hid hb5;have hs5:=hb5.size;(try(have hs5b:w0.heap.size<w5.heap.size:=(by have h:=hb5.size;simp at h;omega)));clear hs5;obtain⟨hc5,hf5⟩:=bcell hb5;clear ho5 hb5) |
    (go_at_call 64;refine(cloneOp v ops _ (HV.out.over (by first|exact HBd.out|exact HBd.out.alloc HBd.out.size _)) (by omega)).mono ?_;rintro e w6 ⟨ov,rfl,ho6,hb6⟩;obtain⟨po,co,hov⟩:=own_slM ho6;subst hov;have HBc:Hid (Below w0.heap.size w0 w6):=(by show Below w0.heap.size w0 w6;with_reducible (first|exact bov HBd.out HBd.out.size hb6|exact bov (HBd.out.alloc HBd.out.size _) (Below.size (HBd.out.alloc HBd.out.size _)) hb6));have HO6:Hid (GOwn encOp 8 58 w6 w0.heap.size (.slice po ops.length co) ops):=Lib.hid (ho6.base (by have:=HBd.out.size;first|exact this|(simp;omega)));have HO56:Hid (GOwn encPid 2 26 w6 w0.heap.size (.slice pd (depsM id ops).length cd) (depsM id ops)):=Lib.hid (by first|exact HO5.out.over hb6|exact(HO5.out.over (bnew _)).over hb6);have HB6b:=Lib.hid hb6;obtain⟨hc6,hf6⟩:=bcell hb6;clear ho6 hb6))
  ·
   rename_i J K hJ hK hHeld
   clear hHeld
   refine hK _ _ (Met.intro (hJ _ _ ?_))
   (repeat apply Exists.intro)
   refine⟨?_,rfl⟩
   exact⟨_,pd,cd,po,co,rfl,Lib.hid (arrT_new w6 [.int .u8 id.author.toNat,.int .u16 id.seq.toNat,.slice pd (depsM id ops).length cd,.slice po ops.length co] 61),Lib.hid (HO56.out.over (bnew _)),Lib.hid (HO6.out.over (bnew _)),Lib.hid (HBc.out.alloc HBc.out.size _)⟩
  ·
   rename_i J K hJ hK hHeld
   clear hHeld
   refine hK _ _ (Met.intro (hJ _ _ ?_))
   (repeat apply Exists.intro)
   refine⟨?_,rfl⟩
   have HZ:Hid (ArrT w6 w5.heap.size 61 [.int .u8 0,.int .u16 0,.slice none 0 0,.slice none 0 0]):=Lib.hid ((arrT_new w5 [.int .u8 0,.int .u16 0,.slice none 0 0,.slice none 0 0] 61).over HB6b.out)
   have nd:(Value.slice pd (depsM id ops).length cd).ownBlock=none∨(Value.slice pd (depsM id ops).length cd).ownBlock≠some w5.heap.size:=.inr (fun q=>(HZ.out.ne (show World.ownsRow _ _ _ _ _ _ _ from HO56.out) (by decide)) q.symm)
   have no:(Value.slice po ops.length co).ownBlock=none∨(Value.slice po ops.length co).ownBlock≠some w5.heap.size:=.inr (fun q=>(HZ.out.ne (show World.ownsRow _ _ _ _ _ _ _ from HO6.out) (by decide)) q.symm)
   exact⟨_,pd,cd,po,co,rfl,Lib.hid ((((HZ.out.set 0 (.int .u8 id.author.toNat)).set 1 (.int .u16 id.seq.toNat)).set 2 (.slice pd (depsM id ops).length cd)).set 3 (.slice po ops.length co)),Lib.hid (show GOwn encPid 2 26 _ w0.heap.size (.slice pd (depsM id ops).length cd) (depsM id ops) from own_grown HO56.out (gtr (gtr (gtr (gtr (World.grownBy.refl w6 _) (gsc _ _ _)) (gsc _ _ _)) (gsc _ _ _)) (gsc _ _ _)) nd),Lib.hid (show GOwn encOp 8 58 _ w0.heap.size (.slice po ops.length co) ops from own_grown HO6.out (gtr (gtr (gtr (gtr (World.grownBy.refl w6 _) (gsc _ _ _)) (gsc _ _ _)) (gsc _ _ _)) (gsc _ _ _)) no),Lib.hid ((((HBc.out.setCell (p:=⟨w5.heap.size,0,none⟩) HBd.out.size (.int .u8 id.author.toNat)).setCell (p:=⟨w5.heap.size,1,none⟩) HBd.out.size (.int .u16 id.seq.toNat)).setCell (p:=⟨w5.heap.size,2,none⟩) HBd.out.size (.slice pd (depsM id ops).length cd)).setCell (p:=⟨w5.heap.size,3,none⟩) HBd.out.size (.slice po ops.length co))⟩
  ·
   rename_i J K hJ hK hHeld
   clear hHeld
   refine hK _ _ (Met.intro (hJ _ _ ?_))
   (repeat apply Exists.intro)
   refine⟨?_,rfl⟩
   have HZ:Hid (ArrT w6 w0.heap.size 61 [.int .u8 0,.int .u16 0,.slice none 0 0,.slice none 0 0]):=Lib.hid (((show ArrT (w0.alloc (.cells #[.int .u8 0,.int .u16 0,.slice none 0 0,.slice none 0 0] 61)).drew w0.heap.size 61 [.int .u8 0,.int .u16 0,.slice none 0 0,.slice none 0 0] from arrT_new w0 [.int .u8 0,.int .u16 0,.slice none 0 0,.slice none 0 0] 61).over HB5b.out).over HB6b.out)
   have nd:(Value.slice pd (depsM id ops).length cd).ownBlock=none∨(Value.slice pd (depsM id ops).length cd).ownBlock≠some w0.heap.size:=.inr (fun q=>(HZ.out.ne (show World.ownsRow _ _ _ _ _ _ _ from HO56.out) (by decide)) q.symm)
   have no:(Value.slice po ops.length co).ownBlock=none∨(Value.slice po ops.length co).ownBlock≠some w0.heap.size:=.inr (fun q=>(HZ.out.ne (show World.ownsRow _ _ _ _ _ _ _ from HO6.out) (by decide)) q.symm)
   exact⟨_,pd,cd,po,co,rfl,Lib.hid ((((HZ.out.set 0 (.int .u8 id.author.toNat)).set 1 (.int .u16 id.seq.toNat)).set 2 (.slice pd (depsM id ops).length cd)).set 3 (.slice po ops.length co)),Lib.hid (show GOwn encPid 2 26 _ w0.heap.size (.slice pd (depsM id ops).length cd) (depsM id ops) from own_grown HO56.out (gtr (gtr (gtr (gtr (World.grownBy.refl w6 _) (gsc _ _ _)) (gsc _ _ _)) (gsc _ _ _)) (gsc _ _ _)) nd),Lib.hid (show GOwn encOp 8 58 _ w0.heap.size (.slice po ops.length co) ops from own_grown HO6.out (gtr (gtr (gtr (gtr (World.grownBy.refl w6 _) (gsc _ _ _)) (gsc _ _ _)) (gsc _ _ _)) (gsc _ _ _)) no),Lib.hid ((((HBc.out.setCell (p:=⟨w0.heap.size,0,none⟩) (Nat.le_refl _) (.int .u8 id.author.toNat)).setCell (p:=⟨w0.heap.size,1,none⟩) (Nat.le_refl _) (.int .u16 id.seq.toNat)).setCell (p:=⟨w0.heap.size,2,none⟩) (Nat.le_refl _) (.slice pd (depsM id ops).length cd)).setCell (p:=⟨w0.heap.size,3,none⟩) (Nat.le_refl _) (.slice po ops.length co))⟩
 case rest =>
  obtain⟨g6,pd,cd,po,co,rfl,HA6,HO5,HO6,HB6⟩:=hcut
  rename World=>w6
  have HR6:=Lib.hid (HR.out.over HB6.out)
  have hs6:=HB6.out.size
  clear i0 i1 si HS
  have p0:=HA6.out.arr.cell (j:=0) rfl
  have p1:=HA6.out.arr.cell (j:=1) rfl
  have p2:=HA6.out.arr.cell (j:=2) rfl
  have p3:=HA6.out.arr.cell (j:=3) rfl
  have sp:=HA6.out.arr.lt
  go_wp2_with fail
  refine(pgood_any id _ _ (depsM id ops) ops _ HO5.out.row HO6.out.row (by omega) HZs.out).mono ?_
  rintro e w7 ⟨rfl,hb7⟩
  rw [HG.out]
  have HB7:=Lib.hid (bov HB6.out HB6.out.size hb7)
  have HA7:=Lib.hid (HA6.out.over hb7)
  have HR7:=Lib.hid (HR6.out.over hb7)
  have HO57:=Lib.hid (HO5.out.over hb7)
  have HO67:=Lib.hid (HO6.out.over hb7)
  clear hb7 p0 p1 p2 p3 sp
  have p0:=HA7.out.arr.cell (j:=0) rfl
  have p1:=HA7.out.arr.cell (j:=1) rfl
  have p2:=HA7.out.arr.cell (j:=2) rfl
  have p3:=HA7.out.arr.cell (j:=3) rfl
  have sp:=HA7.out.arr.lt
  have r0:=HR7.out.cell (j:=0) rfl
  have r1:=HR7.out.cell (j:=1) rfl
  have r2:=HR7.out.cell (j:=2) rfl
  have r3:=HR7.out.cell (j:=3) rfl
  have sr:=HR7.out.lt
  have rf0:=HR7.out.free 0
  have rf1:=HR7.out.free 1
  have rf2:=HR7.out.free 2
  have rf3:=HR7.out.free 3
  have HF:=Lib.hid ((((HR7.out.set 0 (.int .u8 id.author.toNat)).set 1 (.int .u16 id.seq.toNat)).set 2 (.slice pd (depsM id ops).length cd)).set 3 (.slice po ops.length co))
  have hs0:=HS0.out
  have hgr:World.grownBy w7 ((((w7.setCell ⟨w.heap.size+1,0,none⟩ (.int .u8 id.author.toNat)).setCell ⟨w.heap.size+1,1,none⟩ (.int .u16 id.seq.toNat)).setCell ⟨w.heap.size+1,2,none⟩ (.slice pd (depsM id ops).length cd)).setCell ⟨w.heap.size+1,3,none⟩ (.slice po ops.length co)) (some (w.heap.size+1)):=(gtr (gtr (gtr (gtr (World.grownBy.refl w7 _) (gsc _ _ _)) (gsc _ _ _)) (gsc _ _ _)) (gsc _ _ _))
  have HO58:=Lib.hid (gown_keepM HO57.out hgr (fun j hj=>by cases hj;omega))
  have HO68:=Lib.hid (gown_keepM HO67.out hgr (fun j hj=>by cases hj;omega))
  have HB8:=Lib.hid ((bov HB.out HB.out.size HB7.out).grown hgr (by have:=HB7.out.size;omega) (fun j hj=>by cases hj;omega))
  clear hgr hs0
  go_wp2_with fail
  exact bodyPost_ret (v:=.tuple #[.agg #[.int .u8 id.author.toNat,.int .u16 id.seq.toNat,.slice pd (depsM id ops).length cd,.slice po ops.length co],.int .i64 0]) (rasl rowPat rfl HF.out rfl rfl rfl) rfl ⟨pd,cd,po,co,rfl,HO58.out.base (by have:=HS0.out;omega),HO68.out.base (by have:=HS0.out;omega),HB8.out⟩
end Go.Proofs.YtllcipobiengiaaGreat
