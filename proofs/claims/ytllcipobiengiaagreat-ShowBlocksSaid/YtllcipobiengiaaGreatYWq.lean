/- How much a few patches make. What the laws of layer 23 share. Contract of patch.Make, of a patch that may be. The example of layer 27, plain. The example of layer 23, plain. Contract of the example of layer 23. -/
import Derived.Test.YtllcipobiengiaaGreatYFewP
import Derived.Test.YtllcipobiengiaaGreatYR27P
import Derived.Test.YtllcipobiengiaaGreatYRefR
set_option linter.unusedVariables false
set_option linter.unusedSimpArgs false
namespace Go.Proofs.YtllcipobiengiaaGreat
open Go Go.RowKit

theorem modX_in{xs:List LaidP}{y:LaidP}(h:y∈modX xs):y∈xs:=(modX_mem xs [] y h).resolve_left (by simp)
theorem modX_few{xs:List LaidP}:(modX xs).length≤xs.length:=by
 unfold modX
 have h3:=modX_len xs []
 rw [List.length_nil] at h3;omega
theorem fewMod{m:Nat}{xs:List LaidP}(h:fewL m (xs.map (·.p))=true):(patsOf (modX xs)).length≤m∧∀ p∈patsOf (modX xs),p.ops.length≤60:=by
 have h1:=fewL_len h
 rw [List.length_map] at h1
 have h2:=modX_few (xs:=xs)
 refine⟨by show((modX xs).map (·.p)).length≤m;rw [List.length_map];omega,fun p hp => ?_⟩
 obtain⟨y,hy,rfl⟩:=List.mem_map.1 hp
 exact(fewL_ops h (List.mem_map.2 ⟨y,modX_in hy,rfl⟩)).1
theorem few_ids{m:Nat}{xs:List LaidP}(h:fewL m (xs.map (·.p))=true):(idsM (patsOf (modX xs))).length≤60*m:=by
 obtain⟨h1,h2⟩:=fewMod h
 have:=idsOf_few _ 60 h2
 have h3:(idsM (patsOf (modX xs))).length≤(idsOf (patsOf (modX xs))).length:=setS_few _
 have:=Nat.mul_le_mul_left 60 h1
 omega
theorem few_edges{m:Nat}{xs:List LaidP}(h:fewL m (xs.map (·.p))=true):(edgesM (patsOf (modX xs))).length≤60*m:=by
 obtain⟨h1,h2⟩:=fewMod h
 have:=edgesOf_few _ 60 h2
 have h3:(edgesM (patsOf (modX xs))).length≤(edgesOf (patsOf (modX xs))).length:=setS_few _
 have:=Nat.mul_le_mul_left 60 h1
 omega
theorem few_lines{m:Nat}{xs:List LaidP}(h:fewL m (xs.map (·.p))=true)(f:VidM):(linesM (patsOf (modX xs)) f).length≤60*m:=
 Nat.le_trans (ofM_len _ f 3) (few_ids h)
theorem filesM_few(L:List PatchM):(filesM L).length≤(idsM L).length:=by
 unfold filesM;rw [List.length_map];exact Nat.le_trans (List.length_filter_le _ _) (by unfold vertsM;rw [List.length_map];exact Nat.le_refl _)
end Go.Proofs.YtllcipobiengiaaGreat
namespace Go.Proofs.YtllcipobiengiaaGreat
open Go Go.RowKit

theorem fewL_deps23{m:Nat}{l:List PatchM}(h:fewL m l=true){p:PatchM}(hp:p∈l):p.deps.length≤100:=by
 unfold fewL at h
 simp only [Bool.and_eq_true,List.all_eq_true] at h
 have h1:=(h.2 p hp).1
 unfold fewP at h1
 simp only [Bool.and_eq_true,decide_eq_true_eq] at h1
 exact h1.1
def SsRel(w:World)(n:Nat)(v8:Value)(wr:World):Prop:=∃ k:Nat,k≤n∧v8=.int .i64 k∧Below w.heap.size w wr
def LnX(w:World)(ts:List ByteArray)(o:Nat)(e:Ending)(w':World):Prop:=∃ v,e=.returned (.tuple #[v,.int .i64 o])∧GOwn encS1 1 9 w' w.heap.size v ts∧Below w.heap.size w w'
theorem sameS_self(a:List ByteArray):sameS a a=true:=by unfold sameS;exact decide_eq_true rfl
end Go.Proofs.YtllcipobiengiaaGreat
namespace Go.Proofs.YtllcipobiengiaaGreat
open Go Go.RowKit

theorem own_slM{α:Type}{enc:α→List Value}{sz:Nat}{e:TypeId}{w:World}{B:Nat}{v:Value}{xs:List α}(h:GOwn enc sz e w B v xs):∃ p c,v=.slice p xs.length c:=by
 rcases h.2 with⟨rfl,h0⟩|⟨g,cap,cur,rfl,_⟩
 ·
  exact⟨none,0,by rw [h0]⟩
 ·
  exact⟨_,_,rfl⟩
theorem gown_keepM{α:Type}{enc:α→List Value}{sz:Nat}{e:TypeId}{w w':World}{B:Nat}{v:Value}{xs:List α}{row:Option Nat}(h:GOwn enc sz e w B v xs)(hg:w.grownBy w' row)(hr:∀ k,row=some k→k<B):GOwn enc sz e w' B v xs:=
 own_grown h hg (by
  cases hv:v.ownBlock with
  | none=>exact .inl rfl
  | some k=>exact .inr fun q=>by have:=gown_base h hv;have:=hr k q.symm;omega)

theorem rowPat:RowT Tryz.prog 61 4:=rowT_of Tryz.underlying61 rfl (by kernel_rfl)
def MakeRes(w:World)(id:PidM)(ops:List OpM)(e:Ending)(w':World):Prop:=∃ pd cd po co,e=.returned (.tuple #[.agg #[.int .u8 id.author.toNat,.int .u16 id.seq.toNat,.slice pd (depsM id ops).length cd,.slice po ops.length co],.int .i64 0])∧GOwn encPid 2 26 w' w.heap.size (.slice pd (depsM id ops).length cd) (depsM id ops)∧GOwn encOp 8 58 w' w.heap.size (.slice po ops.length co) ops∧Below w.heap.size w w'
attribute [local irreducible] depsM goodQ
set_option maxHeartbeats 8000000 in
set_option maxRecDepth 100000 in
theorem pmake_any(id:PidM)(v:Value)(ops:List OpM)(w:World)(hv:GRow encOp 8 w v ops)(hl:ops.length≤1000)(hz:∀ o∈ops,o.text.size≤maxLen)(hg:goodQ id (depsM id ops) ops=true) :
  Calls Tryz.prog 22 #[pidV id,v] w (MakeRes w id ops):=by
 have HI:=Lh ((anw w #[.int .u8 id.author.toNat,.int .u16 id.seq.toNat] 26).alloc (.cells #[.int .u8 0,.int .u16 0,.slice none 0 0,.slice none 0 0] 61))
 have HR:=Lh (an2 w (.cells #[.int .u8 id.author.toNat,.int .u16 id.seq.toNat] 26) #[.int .u8 0,.int .u16 0,.slice none 0 0,.slice none 0 0] 61)
 have HB:=Lh ((bnew (w:=w) (.cells #[.int .u8 id.author.toNat,.int .u16 id.seq.toNat] 26)).alloc (by simp) (.cells #[.int .u8 0,.int .u16 0,.slice none 0 0,.slice none 0 0] 61))
 have HV:=Lh (hv.over HB.out)
 have HZs:=Lh hz
 have HG:=Lh hg
 clear hv hz hg
 unfold pidV
 go_enter Tryz.func22,Tryz.ntmps22
 go_upto_region 1 with(fail)
 have hs0:((w.alloc (.cells #[.int .u8 id.author.toNat,.int .u16 id.seq.toNat] 26)).alloc (.cells #[.int .u8 0,.int .u16 0,.slice none 0 0,.slice none 0 0] 61)).heap.size=w.heap.size+1+1:=by simp
 generalize hw0:(w.alloc (.cells #[.int .u8 id.author.toNat,.int .u16 id.seq.toNat] 26)).alloc (.cells #[.int .u8 0,.int .u16 0,.slice none 0 0,.slice none 0 0] 61)=w0 at *
 have HS0:=Lh hs0
 clear hw0 hs0
 have i0:=HI.out.k 0 rfl
 have i1:=HI.out.k 1 rfl
 have si:=HI.out.lt
 have HS:Hid (∀ w':World,Below w0.heap.size w0 w'→(w'.cell? ⟨w.heap.size,0,none⟩=some (.int .u8 id.author.toNat)∧w'.cell? ⟨w.heap.size,1,none⟩=some (.int .u16 id.seq.toNat)∧Below w0.heap.size w0 w')):=fun w' hb=>⟨(hb.cell (p:=⟨w.heap.size,0,none⟩) si).trans i0,(hb.cell (p:=⟨w.heap.size,1,none⟩) si).trans i1,hb⟩
 go_cut [6] (fun s6 wx=>∃ g6 pd cd po co,s6=.pointer (some ⟨g6,0,none⟩)∧Hid (ArrT wx g6 61 [.int .u8 id.author.toNat,.int .u16 id.seq.toNat,.slice pd (depsM id ops).length cd,.slice po ops.length co])∧Hid (GOwn encPid 2 26 wx w0.heap.size (.slice pd (depsM id ops).length cd) (depsM id ops))∧Hid (GOwn encOp 8 58 wx w0.heap.size (.slice po ops.length co) ops)∧Hid (Below w0.heap.size w0 wx))
 case first =>
  go_region_held3 (fun w'=>w'.cell? ⟨w.heap.size,0,none⟩=some (.int .u8 id.author.toNat)∧w'.cell? ⟨w.heap.size,1,none⟩=some (.int .u16 id.seq.toNat)∧Below w0.heap.size w0 w') ((refine HS.out _ ?_;(with_reducible (first|exact(Below.refl _ _).drew|exact HBc.out|exact HBc.out.alloc HBc.out.size _|exact HBd.out|exact HBd.out.alloc HBd.out.size _|exact((Below.refl w0.heap.size w0).alloc (Nat.le_refl _) _).drew|exact((((HBc.out.setCell (p:=⟨w0.heap.size,0,none⟩) (Nat.le_refl _) (.int .u8 id.author.toNat)).setCell (p:=⟨w0.heap.size,1,none⟩) (Nat.le_refl _) (.int .u16 id.seq.toNat)).setCell (p:=⟨w0.heap.size,2,none⟩) (Nat.le_refl _) (.slice pd (depsM id ops).length cd)).setCell (p:=⟨w0.heap.size,3,none⟩) (Nat.le_refl _) (.slice po ops.length co))|exact((((HBc.out.setCell (p:=⟨w5.heap.size,0,none⟩) HBd.out.size (.int .u8 id.author.toNat)).setCell (p:=⟨w5.heap.size,1,none⟩) HBd.out.size (.int .u16 id.seq.toNat)).setCell (p:=⟨w5.heap.size,2,none⟩) HBd.out.size (.slice pd (depsM id ops).length cd)).setCell (p:=⟨w5.heap.size,3,none⟩) HBd.out.size (.slice po ops.length co))))))
   (first|(go_at_call 63;refine(pdeps_any id v ops _ (HV.out.over (by first|exact(Below.refl _ _).drew|exact((Below.refl w0.heap.size w0).alloc (Nat.le_refl _) _).drew)) (by omega)).mono ?_;rintro e w5 ⟨dv,rfl,ho5,hb5⟩;obtain⟨pd,cd,hdv⟩:=own_slM ho5;subst hdv;have HBd:Hid (Below w0.heap.size w0 w5):=(by show Below w0.heap.size w0 w5;with_reducible (first|exact bov (Below.refl w0.heap.size w0).drew (Nat.le_refl _) hb5|exact bov (((Below.refl w0.heap.size w0).alloc (Nat.le_refl _) _).drew) (Below.size (((Below.refl w0.heap.size w0).alloc (Nat.le_refl _) _).drew)) hb5));have HO5:Hid (GOwn encPid 2 26 w5 w0.heap.size (.slice pd (depsM id ops).length cd) (depsM id ops)):=Lh (ho5.base (by first|exact Nat.le_refl _|(simp)));have HB5b:=Lh hb5;have hs5:=hb5.size;(try(have hs5b:w0.heap.size<w5.heap.size:=(by have h:=hb5.size;simp at h;omega)));clear hs5;obtain⟨hc5,hf5⟩:=bcell hb5;clear ho5 hb5) |
    (go_at_call 64;refine(cloneOp v ops _ (HV.out.over (by first|exact HBd.out|exact HBd.out.alloc HBd.out.size _)) (by omega)).mono ?_;rintro e w6 ⟨ov,rfl,ho6,hb6⟩;obtain⟨po,co,hov⟩:=own_slM ho6;subst hov;have HBc:Hid (Below w0.heap.size w0 w6):=(by show Below w0.heap.size w0 w6;with_reducible (first|exact bov HBd.out HBd.out.size hb6|exact bov (HBd.out.alloc HBd.out.size _) (Below.size (HBd.out.alloc HBd.out.size _)) hb6));have HO6:Hid (GOwn encOp 8 58 w6 w0.heap.size (.slice po ops.length co) ops):=Lh (ho6.base (by have:=HBd.out.size;first|exact this|(simp;omega)));have HO56:Hid (GOwn encPid 2 26 w6 w0.heap.size (.slice pd (depsM id ops).length cd) (depsM id ops)):=Lh (by first|exact HO5.out.over hb6|exact(HO5.out.over (bnew _)).over hb6);have HB6b:=Lh hb6;obtain⟨hc6,hf6⟩:=bcell hb6;clear ho6 hb6))
  ·
   rename_i J K hJ hK hHeld
   clear hHeld
   refine hK _ _ (Met.intro (hJ _ _ ?_))
   (repeat apply Exists.intro)
   refine⟨?_,rfl⟩
   exact⟨_,pd,cd,po,co,rfl,Lh (arrT_new w6 [.int .u8 id.author.toNat,.int .u16 id.seq.toNat,.slice pd (depsM id ops).length cd,.slice po ops.length co] 61),Lh (HO56.out.over (bnew _)),Lh (HO6.out.over (bnew _)),Lh (HBc.out.alloc HBc.out.size _)⟩
  ·
   rename_i J K hJ hK hHeld
   clear hHeld
   refine hK _ _ (Met.intro (hJ _ _ ?_))
   (repeat apply Exists.intro)
   refine⟨?_,rfl⟩
   have HZ:Hid (ArrT w6 w5.heap.size 61 [.int .u8 0,.int .u16 0,.slice none 0 0,.slice none 0 0]):=Lh ((arrT_new w5 [.int .u8 0,.int .u16 0,.slice none 0 0,.slice none 0 0] 61).over HB6b.out)
   have nd:(Value.slice pd (depsM id ops).length cd).ownBlock=none∨(Value.slice pd (depsM id ops).length cd).ownBlock≠some w5.heap.size:=.inr (fun q=>(HZ.out.ne (show World.ownsRow _ _ _ _ _ _ _ from HO56.out) (by decide)) q.symm)
   have no:(Value.slice po ops.length co).ownBlock=none∨(Value.slice po ops.length co).ownBlock≠some w5.heap.size:=.inr (fun q=>(HZ.out.ne (show World.ownsRow _ _ _ _ _ _ _ from HO6.out) (by decide)) q.symm)
   exact⟨_,pd,cd,po,co,rfl,Lh ((((HZ.out.set 0 (.int .u8 id.author.toNat)).set 1 (.int .u16 id.seq.toNat)).set 2 (.slice pd (depsM id ops).length cd)).set 3 (.slice po ops.length co)),Lh (show GOwn encPid 2 26 _ w0.heap.size (.slice pd (depsM id ops).length cd) (depsM id ops) from own_grown HO56.out (gtr (gtr (gtr (gtr (World.grownBy.refl w6 _) (gsc _ _ _)) (gsc _ _ _)) (gsc _ _ _)) (gsc _ _ _)) nd),Lh (show GOwn encOp 8 58 _ w0.heap.size (.slice po ops.length co) ops from own_grown HO6.out (gtr (gtr (gtr (gtr (World.grownBy.refl w6 _) (gsc _ _ _)) (gsc _ _ _)) (gsc _ _ _)) (gsc _ _ _)) no),Lh ((((HBc.out.setCell (p:=⟨w5.heap.size,0,none⟩) HBd.out.size (.int .u8 id.author.toNat)).setCell (p:=⟨w5.heap.size,1,none⟩) HBd.out.size (.int .u16 id.seq.toNat)).setCell (p:=⟨w5.heap.size,2,none⟩) HBd.out.size (.slice pd (depsM id ops).length cd)).setCell (p:=⟨w5.heap.size,3,none⟩) HBd.out.size (.slice po ops.length co))⟩
  ·
   rename_i J K hJ hK hHeld
   clear hHeld
   refine hK _ _ (Met.intro (hJ _ _ ?_))
   (repeat apply Exists.intro)
   refine⟨?_,rfl⟩
   have HZ:Hid (ArrT w6 w0.heap.size 61 [.int .u8 0,.int .u16 0,.slice none 0 0,.slice none 0 0]):=Lh (((show ArrT (w0.alloc (.cells #[.int .u8 0,.int .u16 0,.slice none 0 0,.slice none 0 0] 61)).drew w0.heap.size 61 [.int .u8 0,.int .u16 0,.slice none 0 0,.slice none 0 0] from arrT_new w0 [.int .u8 0,.int .u16 0,.slice none 0 0,.slice none 0 0] 61).over HB5b.out).over HB6b.out)
   have nd:(Value.slice pd (depsM id ops).length cd).ownBlock=none∨(Value.slice pd (depsM id ops).length cd).ownBlock≠some w0.heap.size:=.inr (fun q=>(HZ.out.ne (show World.ownsRow _ _ _ _ _ _ _ from HO56.out) (by decide)) q.symm)
   have no:(Value.slice po ops.length co).ownBlock=none∨(Value.slice po ops.length co).ownBlock≠some w0.heap.size:=.inr (fun q=>(HZ.out.ne (show World.ownsRow _ _ _ _ _ _ _ from HO6.out) (by decide)) q.symm)
   exact⟨_,pd,cd,po,co,rfl,Lh ((((HZ.out.set 0 (.int .u8 id.author.toNat)).set 1 (.int .u16 id.seq.toNat)).set 2 (.slice pd (depsM id ops).length cd)).set 3 (.slice po ops.length co)),Lh (show GOwn encPid 2 26 _ w0.heap.size (.slice pd (depsM id ops).length cd) (depsM id ops) from own_grown HO56.out (gtr (gtr (gtr (gtr (World.grownBy.refl w6 _) (gsc _ _ _)) (gsc _ _ _)) (gsc _ _ _)) (gsc _ _ _)) nd),Lh (show GOwn encOp 8 58 _ w0.heap.size (.slice po ops.length co) ops from own_grown HO6.out (gtr (gtr (gtr (gtr (World.grownBy.refl w6 _) (gsc _ _ _)) (gsc _ _ _)) (gsc _ _ _)) (gsc _ _ _)) no),Lh ((((HBc.out.setCell (p:=⟨w0.heap.size,0,none⟩) (Nat.le_refl _) (.int .u8 id.author.toNat)).setCell (p:=⟨w0.heap.size,1,none⟩) (Nat.le_refl _) (.int .u16 id.seq.toNat)).setCell (p:=⟨w0.heap.size,2,none⟩) (Nat.le_refl _) (.slice pd (depsM id ops).length cd)).setCell (p:=⟨w0.heap.size,3,none⟩) (Nat.le_refl _) (.slice po ops.length co))⟩
 case rest =>
  obtain⟨g6,pd,cd,po,co,rfl,HA6,HO5,HO6,HB6⟩:=hcut
  rename World=>w6
  have HR6:=Lh (HR.out.over HB6.out)
  have hs6:=HB6.out.size
  clear i0 i1 si HS
  have p0:=HA6.out.arr.k 0 rfl
  have p1:=HA6.out.arr.k 1 rfl
  have p2:=HA6.out.arr.k 2 rfl
  have p3:=HA6.out.arr.k 3 rfl
  have sp:=HA6.out.arr.lt
  go_wp2_with fail
  refine(pgood_any id _ _ (depsM id ops) ops _ HO5.out.row HO6.out.row (by omega) HZs.out).mono ?_
  rintro e w7 ⟨rfl,hb7⟩
  rw [HG.out]
  have HB7:=Lh (bov HB6.out HB6.out.size hb7)
  have HA7:=Lh (HA6.out.over hb7)
  have HR7:=Lh (HR6.out.over hb7)
  have HO57:=Lh (HO5.out.over hb7)
  have HO67:=Lh (HO6.out.over hb7)
  clear hb7 p0 p1 p2 p3 sp
  have p0:=HA7.out.arr.k 0 rfl
  have p1:=HA7.out.arr.k 1 rfl
  have p2:=HA7.out.arr.k 2 rfl
  have p3:=HA7.out.arr.k 3 rfl
  have sp:=HA7.out.arr.lt
  have r0:=HR7.out.k 0 rfl
  have r1:=HR7.out.k 1 rfl
  have r2:=HR7.out.k 2 rfl
  have r3:=HR7.out.k 3 rfl
  have sr:=HR7.out.lt
  have rf0:=HR7.out.free 0
  have rf1:=HR7.out.free 1
  have rf2:=HR7.out.free 2
  have rf3:=HR7.out.free 3
  have HF:=Lh ((((HR7.out.set 0 (.int .u8 id.author.toNat)).set 1 (.int .u16 id.seq.toNat)).set 2 (.slice pd (depsM id ops).length cd)).set 3 (.slice po ops.length co))
  have hs0:=HS0.out
  have hgr:World.grownBy w7 ((((w7.setCell ⟨w.heap.size+1,0,none⟩ (.int .u8 id.author.toNat)).setCell ⟨w.heap.size+1,1,none⟩ (.int .u16 id.seq.toNat)).setCell ⟨w.heap.size+1,2,none⟩ (.slice pd (depsM id ops).length cd)).setCell ⟨w.heap.size+1,3,none⟩ (.slice po ops.length co)) (some (w.heap.size+1)):=(gtr (gtr (gtr (gtr (World.grownBy.refl w7 _) (gsc _ _ _)) (gsc _ _ _)) (gsc _ _ _)) (gsc _ _ _))
  have HO58:=Lh (gown_keepM HO57.out hgr (fun j hj=>by cases hj;omega))
  have HO68:=Lh (gown_keepM HO67.out hgr (fun j hj=>by cases hj;omega))
  have HB8:=Lh ((bov HB.out HB.out.size HB7.out).grown hgr (by have:=HB7.out.size;omega) (fun j hj=>by cases hj;omega))
  clear hgr hs0
  go_wp2_with fail
  exact bodyPost_ret (v:=.tuple #[.agg #[.int .u8 id.author.toNat,.int .u16 id.seq.toNat,.slice pd (depsM id ops).length cd,.slice po ops.length co],.int .i64 0]) (rasl rowPat rfl HF.out rfl rfl rfl) rfl ⟨pd,cd,po,co,rfl,HO58.out.base (by have:=HS0.out;omega),HO68.out.base (by have:=HS0.out;omega),HB8.out⟩
end Go.Proofs.YtllcipobiengiaaGreat
namespace Go.Proofs.YtllcipobiengiaaGreat
open Go Go.RowKit

def wkId:PidM:=⟨1,1⟩
def wkF:VidM:=⟨wkId,0⟩
def wkVert(n:UInt8)(t:ByteArray):VertM:=⟨⟨wkId,n⟩,3,wkF,t,false⟩
end Go.Proofs.YtllcipobiengiaaGreat
namespace Go.Proofs.YtllcipobiengiaaGreat
open Go Go.RowKit

def wqOps:List OpM:=[⟨1,noVid,noVid,⟨#[]⟩⟩,⟨3,wkF,noVid,⟨#[97]⟩⟩,⟨3,wkF,noVid,⟨#[98]⟩⟩]
def wqPat:PatchM:=⟨wkId,[],wqOps⟩
theorem wqDeps:depsM wkId wqOps=[]:=by decide +kernel
theorem wqGood:goodQ wkId (depsM wkId wqOps) wqOps=true:=by decide +kernel
theorem wqFew:fewL 12 [wqPat]=true:=by decide +kernel
theorem wqG:buildM [wqPat]=[wqPat]:=by decide +kernel
def wqL:List VertM:=[wkVert 1 ⟨#[97]⟩,wkVert 2 ⟨#[98]⟩]
theorem wqLines:linesM [wqPat] wkF=wqL:=by decide +kernel
theorem wqRel:relM [wqPat] wkF=[]:=by decide +kernel
theorem wqAlive:aliveX wqL []=[0,1]:=by
 unfold aliveX
 rw [up_order (L:=[]) (fun s h=>absurd h List.not_mem_nil)]
 decide +kernel
theorem wqLead(i j:Nat):leadB [] i j=false:=leadB_no.2 fun h=>by
 obtain⟨k,hk⟩:=h.from'
 exact absurd hk List.not_mem_nil
theorem wqBef(i j:Nat):befB [] i j=false:=by rw [befB_eq,wqLead];rfl
theorem wqNear{l:List Nat}{i j:Nat}:Near [] l i j↔i=j∧i<l.length:=by
 constructor
 ·
  intro h
  cases h with
  | self h=>exact⟨rfl,h⟩
  | more _ _ h=>unfold nearB at h;rw [wqLead,wqLead] at h;exact absurd h (by decide)
 ·
  rintro⟨rfl,h⟩
  exact .self h
theorem wqNearD(l:List Nat)(i j:Nat):nearD [] l i j=(decide (i=j) && decide (i<l.length)):=by
 rw [Bool.eq_iff_iff,nearD_iff,wqNear];simp
theorem wqOne(f i:Nat):blkM [] (f+1) [i]=[lineB i]:=by
 rw [blkM]
 have:piecesM [] [i]=[[i]]:=by
  unfold piecesM
  show(piecesTo [] [i] 1).1=_
  unfold piecesTo
  simp [piecesTo]
 rw [this]
 simp [pieceM]
theorem wqBlk:blkM [] 3 [0,1]=[.mk 2 0 [.mk 4 0 [lineB 0],.mk 4 0 [lineB 1]]]:=by
 rw [blkM]
 have h1:piecesM [] [0,1]=[[0,1]]:=by
  unfold piecesM
  show(piecesTo [] [0,1] 2).1=_
  have:cutB [] [0,1] 1=false:=by
   unfold cutB
   show(([0]:List Nat).all fun i=>([1]:List Nat).all fun j=>befB [] i j)=false
   simp [wqBef]
  unfold piecesTo
  unfold piecesTo
  simp [piecesTo,this]
 have h2:headsM [] [0,1] 2=[0,1]:=by
  unfold headsM
  show([0,1]:List Nat).filter (headB [] [0,1])=_
  have:∀ i,headB [] [0,1] i=true:=fun i=>headB_iff.2 fun k hk h=>by have:=(wqNear.1 h).1;omega
  simp [this]
 have h3:sidesM [] [0,1]=[[0],[1]]:=by
  unfold sidesM
  show(headsM [] [0,1] 2).map _=_
  rw [h2]
  unfold sideM
  show [([0,1]:List Nat).filter _,([0,1]:List Nat).filter _]=_
  simp [wqNearD]
 rw [h1]
 simp [pieceM,h3,thingsM,wqOne]
theorem wqSeen:lnSeen wqL []=[markA,⟨#[97]⟩,markS,⟨#[98]⟩,markE]:=by
 unfold lnSeen lnBlk
 rw [wqAlive]
 show seenAll wqL (blkM [] 3 [0,1])=_
 rw [wqBlk]
 decide +kernel
theorem wqOdd:lnOdd wqL []=1:=by
 unfold lnOdd lnBlk
 rw [wqAlive]
 show oddL (blkM [] 3 [0,1])=_
 rw [wqBlk]
 decide +kernel
end Go.Proofs.YtllcipobiengiaaGreat
namespace Go.Proofs.YtllcipobiengiaaGreat
open Go Go.RowKit

theorem own_lit23{α:Type}{enc:α→List Value}{sz:Nat}(w:World)(e:TypeId)(xs:List α)(B:Nat)(hl:(xs.flatMap enc).length=xs.length*sz)(hm:xs.length≤maxLen)(hB:B≤w.heap.size):GOwn enc sz e (w.alloc (.cells (xs.flatMap enc).toArray e)) B (.slice (some ⟨w.heap.size,0,none⟩) xs.length xs.length) xs:=
 ⟨hl,.inr ⟨w.heap.size,xs.length,(xs.flatMap enc).toArray,rfl,hB,by rw [heap_alloc_new],Nat.le_refl _,hm,by simp [hl],by rw [← hl];exact List.take_length⟩⟩
def wqSee:List ByteArray:=[markA,⟨#[97]⟩,markS,⟨#[98]⟩,markE]
theorem srowQ(W:World)(b:Nat)(hb:b=W.heap.size):SRow (W.alloc (.cells #[.string ⟨#[60,60,60,60,60,60,60]⟩,.string ⟨#[97]⟩,.string ⟨#[61,61,61,61,61,61,61]⟩,.string ⟨#[98]⟩,.string ⟨#[62,62,62,62,62,62,62]⟩] 9)) (.slice (some ⟨b,0,none⟩) 5 5) wqSee:=by
 subst hb
 exact(show GOwn encS1 1 9 (W.alloc (.cells #[.string ⟨#[60,60,60,60,60,60,60]⟩,.string ⟨#[97]⟩,.string ⟨#[61,61,61,61,61,61,61]⟩,.string ⟨#[98]⟩,.string ⟨#[62,62,62,62,62,62,62]⟩] 9)) 0 (.slice (some ⟨W.heap.size,0,none⟩) 5 5) wqSee from own_lit23 W 9 wqSee 0 rfl (by decide) (Nat.zero_le _)).row
def WqMk(w:World)(e:Ending)(w':World):Prop:=∃ pd cd po co,e=.returned (.tuple #[.agg #[.int .u8 1,.int .u16 1,.slice pd 0 cd,.slice po 3 co],.int .i64 0])∧GOwn encPid 2 26 w' w.heap.size (.slice pd 0 cd) []∧GOwn encOp 8 58 w' w.heap.size (.slice po 3 co) wqOps∧Below w.heap.size w w'
theorem wqMk(v:Value)(w:World)(hv:GRow encOp 8 w v wqOps):Calls Tryz.prog 22 #[.agg #[.int .u8 1,.int .u16 1],v] w (WqMk w):=by
 have h:=pmake_any wkId v wqOps w hv (by decide) (fun o ho=>Nat.le_trans (show o.text.size≤1 from(by decide +kernel:∀ o∈wqOps,o.text.size≤1) o ho) (by unfold maxLen;omega)) wqGood
 refine h.mono ?_
 rintro e w' ⟨pd,cd,po,co,rfl,h1,h2,h3⟩
 rw [wqDeps] at h1 ⊢
 exact⟨pd,cd,po,co,rfl,h1,h2,h3⟩
theorem rowQ(W:World)(b:Nat)(hb:b=W.heap.size):GRow encOp 8 (W.alloc (.cells #[.int .u8 1,.int .u8 0,.int .u16 0,.int .u8 0,.int .u8 0,.int .u16 0,.int .u8 0,.string ⟨#[]⟩,.int .u8 3,.int .u8 1,.int .u16 1,.int .u8 0,.int .u8 0,.int .u16 0,.int .u8 0,.string ⟨#[97]⟩,.int .u8 3,.int .u8 1,.int .u16 1,.int .u8 0,.int .u8 0,.int .u16 0,.int .u8 0,.string ⟨#[98]⟩] 58)) (.slice (some ⟨b,0,none⟩) 3 3) wqOps:=by
 subst hb
 exact(show GOwn encOp 8 58 (W.alloc (.cells #[.int .u8 1,.int .u8 0,.int .u16 0,.int .u8 0,.int .u8 0,.int .u16 0,.int .u8 0,.string ⟨#[]⟩,.int .u8 3,.int .u8 1,.int .u16 1,.int .u8 0,.int .u8 0,.int .u16 0,.int .u8 0,.string ⟨#[97]⟩,.int .u8 3,.int .u8 1,.int .u16 1,.int .u8 0,.int .u8 0,.int .u16 0,.int .u8 0,.string ⟨#[98]⟩] 58)) 0 (.slice (some ⟨W.heap.size,0,none⟩) 3 3) wqOps from own_lit23 W 58 wqOps 0 rfl (by decide) (Nat.zero_le _)).row
theorem sameS_see:sameS wqSee wqSee=true:=by unfold sameS;exact decide_eq_true rfl
theorem lnres_wq{w:World}{e:Ending}{w':World}(h:LnRes w wqL [] e w'):∃ v,e=.returned (.tuple #[v,.int .i64 1])∧GOwn encS1 1 9 w' w.heap.size v wqSee∧Below w.heap.size w w':=by
 obtain⟨v,rfl,h1,h2⟩:=h
 rw [wqOdd]
 rw [wqSeen] at h1
 exact⟨v,rfl,h1,h2⟩
attribute [local irreducible] wqSee wqOps wqL
set_option maxHeartbeats 16000000 in
set_option maxRecDepth 100000 in
theorem works23_any(w:World):Calls Tryz.prog 29 #[] w fun e w'=>e=.returned (.bool true)∧Below w.heap.size w w':=by
 have HA:=Lh (anw w #[.int .u8 1,.int .u16 1] 26)
 have HB:=Lh (bnew (w:=w) (.cells #[.int .u8 1,.int .u16 1] 26))
 go_enter Tryz.func29,Tryz.ntmps29
 go_upto_region 2 with(fail)
 generalize hw0:w.alloc (.cells #[.int .u8 1,.int .u16 1] 26)=w0 at *
 clear hw0
 have i0:=HA.out.k 0 rfl
 have i1:=HA.out.k 1 rfl
 have si:=HA.out.lt
 go_wp2_with fail
 refine(pvid_any ⟨1,1⟩ 0 _ (by omega)).mono ?_
 rintro e w1 ⟨rfl,hb1⟩
 have HB1:=Lh (bov HB.out HB.out.size hb1)
 have HA1:=Lh (HA.out.over hb1)
 clear hb1 i0 i1 si
 go_upto_region 3 with(fail)
 have HA2:=Lh (HA1.out.alloc (.cells #[.int .u8 1,.int .u16 1,.int .u8 0] 40))
 have HF2:=Lh (anw w1 #[.int .u8 1,.int .u16 1,.int .u8 0] 40)
 have HB2:=Lh (HB1.out.alloc HB1.out.size (.cells #[.int .u8 1,.int .u16 1,.int .u8 0] 40))
 generalize hw2:w1.alloc (.cells #[.int .u8 1,.int .u16 1,.int .u8 0] 40)=w2 at *
 clear hw2
 have i0:=HA2.out.k 0 rfl
 have i1:=HA2.out.k 1 rfl
 have si:=HA2.out.lt
 have j0:=HF2.out.k 0 rfl
 have j1:=HF2.out.k 1 rfl
 have j2:=HF2.out.k 2 rfl
 have sj:=HF2.out.lt
 go_wp2_with fail
 refine(wqMk _ _ (rowQ w2 _ rfl)).mono ?_
 rintro e u6 ⟨pd,cd,po,co,rfl,ho5,ho6,hb6⟩
 have hb26:Below w2.heap.size w2 u6:=bov (bnew (.cells #[.int .u8 1,.int .u8 0,.int .u16 0,.int .u8 0,.int .u8 0,.int .u16 0,.int .u8 0,.string ⟨#[]⟩,.int .u8 3,.int .u8 1,.int .u16 1,.int .u8 0,.int .u8 0,.int .u16 0,.int .u8 0,.string ⟨#[97]⟩,.int .u8 3,.int .u8 1,.int .u16 1,.int .u8 0,.int .u8 0,.int .u16 0,.int .u8 0,.string ⟨#[98]⟩] 58)) (bnew (.cells #[.int .u8 1,.int .u8 0,.int .u16 0,.int .u8 0,.int .u8 0,.int .u16 0,.int .u8 0,.string ⟨#[]⟩,.int .u8 3,.int .u8 1,.int .u16 1,.int .u8 0,.int .u8 0,.int .u16 0,.int .u8 0,.string ⟨#[97]⟩,.int .u8 3,.int .u8 1,.int .u16 1,.int .u8 0,.int .u8 0,.int .u16 0,.int .u8 0,.string ⟨#[98]⟩] 58)).size hb6
 have HO5:=Lh ho5
 have HO6:=Lh ho6
 have HB6:=Lh (bov HB2.out HB2.out.size hb26)
 have HF6:=Lh (HF2.out.over hb26)
 clear ho5 ho6 hb6 hb26 i0 i1 si j0 j1 j2 sj
 go_upto_region 4 with(fail)
 have HP:=Lh (anw u6 #[.int .u8 1,.int .u16 1,.slice pd 0 cd,.slice po 3 co] 61)
 have HO5b:=Lh (HO5.out.over (bnew (.cells #[.int .u8 1,.int .u16 1,.slice pd 0 cd,.slice po 3 co] 61)))
 have HO6b:=Lh (HO6.out.over (bnew (.cells #[.int .u8 1,.int .u16 1,.slice pd 0 cd,.slice po 3 co] 61)))
 have HB7:=Lh (HB6.out.alloc HB6.out.size (.cells #[.int .u8 1,.int .u16 1,.slice pd 0 cd,.slice po 3 co] 61))
 have HF7:=Lh (HF6.out.alloc (.cells #[.int .u8 1,.int .u16 1,.slice pd 0 cd,.slice po 3 co] 61))
 generalize hw3:u6.alloc (.cells #[.int .u8 1,.int .u16 1,.slice pd 0 cd,.slice po 3 co] 61)=w3 at *
 clear hw3
 have p0:=HP.out.k 0 rfl
 have p1:=HP.out.k 1 rfl
 have p2:=HP.out.k 2 rfl
 have p3:=HP.out.k 3 rfl
 have sp:=HP.out.lt
 have q0:=HF7.out.k 0 rfl
 have q1:=HF7.out.k 1 rfl
 have q2:=HF7.out.k 2 rfl
 have sq:=HF7.out.lt
 have HPW:Hid (∀(W:World) (b:Nat),Below w3.heap.size w3 W→b=W.heap.size→Pats (W.alloc (.cells #[.int .u8 1,.int .u16 1,.slice pd 0 cd,.slice po 3 co] 61)) (.slice (some ⟨b,0,none⟩) 1 1) [(⟨wqPat,.slice pd 0 cd,.slice po 3 co⟩:LaidP)]):=Lh fun W b hb hbe=>by
  subst hbe
  refine⟨(show GOwn encPat 4 61 (W.alloc (.cells #[.int .u8 1,.int .u16 1,.slice pd 0 cd,.slice po 3 co] 61)) 0 (.slice (some ⟨W.heap.size,0,none⟩) 1 1) [(⟨wqPat,.slice pd 0 cd,.slice po 3 co⟩:LaidP)] from own_lit23 W 61 [(⟨wqPat,.slice pd 0 cd,.slice po 3 co⟩:LaidP)] 0 rfl (by show 1≤maxLen;unfold maxLen;omega) (Nat.zero_le _)).row,fun x hx => ?_⟩
  obtain rfl:x=⟨wqPat,.slice pd 0 cd,.slice po 3 co⟩:=by simpa using hx
  exact⟨((HO5b.out.over hb).over (bnew _)).row,((HO6b.out.over hb).over (bnew _)).row⟩
 have HCB:Hid (∀ v W,Pats W v [(⟨wqPat,.slice pd 0 cd,.slice po 3 co⟩:LaidP)]→Calls Tryz.prog 12 #[v] W fun e w'=>∃ b,e=.returned (.pointer (some ⟨b,0,none⟩))∧GrIs w' b [wqPat]∧Below W.heap.size W w'):=Lh fun v W h=>by
  refine(build_any v _ 12 (by omega) W h wqFew).mono ?_
  rintro e w' ⟨b,bv,be,n,hn,rfl,hgr⟩
  obtain⟨_,_,_,hG,hb⟩:=hgr
  rw [show([(⟨wqPat,.slice pd 0 cd,.slice po 3 co⟩:LaidP)]).map (·.p)=[wqPat] from rfl,wqG] at hG
  exact⟨b,rfl,⟨bv,be,n,hG⟩,hb⟩
 have HCO:Hid (∀(b:Nat) (W:World),GrIs W b [wqPat]→Calls Tryz.prog 17 #[.pointer (some ⟨b,0,none⟩),.agg #[.int .u8 1,.int .u16 1,.int .u8 0]] W (LofRes W wqL [])):=Lh fun b W h=>by
  have h9:=lof_any b [wqPat] wkF W h (by have:=wf_build [wqPat];rwa [wqG] at this) (by decide +kernel) (by decide +kernel)
  rw [wqLines,wqRel] at h9
  exact h9
 have HCS:Hid (∀(s:Nat) (W:World),ShAt W s wqL []→Calls Tryz.prog 28 #[.pointer (some ⟨s,0,none⟩)] W (fun e w'=>∃ v,e=.returned (.tuple #[v,.int .i64 1])∧GOwn encS1 1 9 w' W.heap.size v wqSee∧Below W.heap.size W w')):=Lh fun s W h=>(slines_any s wqL [] W h (by decide +kernel)).mono fun e w' h=>lnres_wq h
 refine wlex (C:=IsOver w3) 11 [] (by kernel_rfl) (by kernel_rfl) (iov (Below.refl _ _).drew) ?_
 simp only [Tsc,Tz,Dsc,Dz]
 refine lxo rfl ?_
 go_big_quiet_step (fail)
 refine wpQuiet_nil ?_
 refine lxl rfl ?_
 go_wp2_with fail
 have hcur:Below w3.heap.size w3 (w3.alloc (.cells #[.int .u8 1,.int .u16 1,.slice pd 0 cd,.slice po 3 co] 61)).drew:=(bnew _).drew
 refine⟨iov hcur,?_⟩
 have HPZ:=Lh ((HPW.out w3 _ (Below.refl _ _) rfl).over (Below.refl _ _).drew)
 generalize (w3.alloc (.cells #[.int .u8 1,.int .u16 1,.slice pd 0 cd,.slice po 3 co] 61)).drew=w4 at *
 repeat(first|(refine lxs rfl rfl ?_;simp only [Act.put,Sib,Scs,Scz])|(refine lxo rfl ?_;go_big_quiet_step (fail);refine wpQuiet_nil ?_)|(refine lxl rfl ?_;go_wp2_with (first|(go_at_call 12;(with_reducible refine(HCB.out _ _ HPZ.out).mono ?_);rintro e uA ⟨gb,rfl,hg,hb⟩;have HGA:=Lh hg;replace hcur:=bov hcur hcur.size hb;clear hb;clear hg)|(go_at_call 17;(with_reducible refine(HCO.out _ _ HGA.out).mono ?_);rintro e uB ⟨sB,rfl,hsz,hsh,hb⟩;have HSB:=Lh hsh;replace hcur:=bov hcur hcur.size hb;clear hb;clear hsh hsz)|(go_at_call 28;(with_reducible refine(HCS.out _ _ HSB.out).mono ?_);rintro e uC ⟨vC,rfl,hoC,hb⟩;have HRC:=Lh hoC.row;replace hcur:=bov hcur hcur.size hb;clear hb;clear hoC));refine⟨iov hcur,?_⟩))
 refine lxe ?_
 have HBZ:=Lh (bov HB7.out HB7.out.size hcur)
 clear hcur
 go_wp2_with fail
 refine(rtexts_any _ _ wqSee wqSee _ ((srow_of HRC.out).over (bnew _)) (srowQ _ _ rfl)).mono ?_
 rw [sameS_see]
 rintro e w9 ⟨rfl,hb9⟩
 have HB9:=Lh (bov (HBZ.out.alloc HBZ.out.size (.cells #[.string ⟨#[60,60,60,60,60,60,60]⟩,.string ⟨#[97]⟩,.string ⟨#[61,61,61,61,61,61,61]⟩,.string ⟨#[98]⟩,.string ⟨#[62,62,62,62,62,62,62]⟩] 9)) (HBZ.out.alloc HBZ.out.size (.cells #[.string ⟨#[60,60,60,60,60,60,60]⟩,.string ⟨#[97]⟩,.string ⟨#[61,61,61,61,61,61,61]⟩,.string ⟨#[98]⟩,.string ⟨#[62,62,62,62,62,62,62]⟩] 9)).size hb9)
 clear hb9
 go_wp2_with fail
 go_ret
 exact⟨rfl,HB9.out⟩
end Go.Proofs.YtllcipobiengiaaGreat
