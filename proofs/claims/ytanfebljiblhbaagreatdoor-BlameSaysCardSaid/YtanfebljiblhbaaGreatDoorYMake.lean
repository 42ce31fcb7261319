/- Part of the proof that of any graph each file's lines, whose they are, and how many lines any author has, are as the document says. No conditions. -/
import Derived.Test.YtanfebljiblhbaaGreatDoorYNsA
import Derived.Test.YtanfebljiblhbaaGreatDoorYRefR
set_option linter.unusedVariables false
set_option linter.unusedSimpArgs false
set_option maxRecDepth 100000
set_option maxHeartbeats 40000000
namespace Go.Proofs.YtanfebljiblhbaaGreatDoor
open Go Go.RowKit
section
variable{α:Type}
theorem putS_lenF{key:α→Nat}(x:α):∀ r:List α,(putS key x r).length≤r.length+1
 | []=>by simp [putS]
 | y :: r=>by
  have:=putS_lenF (key:=key) x r;rw [putS];split
  · simp
  split
  · simp
  simp only [List.length_cons];omega
theorem setS_few{key:α→Nat}(l:List α):(setS key l).length≤l.length:=by
 have:∀(l out:List α),(l.foldl (fun out x=>putS key x out) out).length≤out.length+l.length:=by
  intro l;induction l with
  | nil=>intro out;simp
  | cons x l ih =>intro out;have h1:=ih (putS key x out);have h2:=putS_lenF (key:=key) x out;rw [List.foldl_cons,List.length_cons];omega
 have:=this l [];simpa [setS] using this
theorem flat_few{β:Type}(f:α→List β)(b:Nat):∀ l:List α,(∀ x∈l,(f x).length≤b)→(l.flatMap f).length≤b*l.length
 | [],_=>by simp
 | x :: l,h=>by have h1:=h x (List.mem_cons_self ..);have h2:=flat_few f b l fun y hy=>h y (List.mem_cons_of_mem _ hy);rw [List.flatMap_cons,List.length_append,List.length_cons,Nat.mul_succ];omega
theorem idsOf_few(L:List PatchM)(b:Nat)(h:∀ p∈L,p.ops.length≤b):(idsOf L).length≤b*L.length:=by refine flat_few _ b L fun p hp=>Nat.le_trans (List.length_filterMap_le _ _) ?_;rw [List.length_range];exact h p hp
theorem edgesOf_few(L:List PatchM)(b:Nat)(h:∀ p∈L,p.ops.length≤b):(edgesOf L).length≤b*L.length:=
 flat_few _ b L fun p hp=>Nat.le_trans (List.length_filterMap_le _ _) (h p hp)
end
def markV(ms:List Bool):List Value:=ms.map .bool
noncomputable def ftx(l:List VertM)(R:List (Nat × Nat))(k:Nat):List ByteArray:=(firmTo l R k).map (textAt l)
section
attribute [local irreducible] keptV1 markV textAt aliveX firmTo ftx firmB
end
section
variable{xs:List LaidP}{m:Nat}
theorem modX_in{y:LaidP}(h:y∈modX xs):y∈xs:=(modX_mem xs [] y h).resolve_left (by simp)
theorem modX_few:(modX xs).length≤xs.length:=by unfold modX;have h3:=modX_len xs [];rw [List.length_nil] at h3;omega
theorem fewMod(h:fewL m (xs.map (·.p))=true):(patsOf (modX xs)).length≤m∧∀ p∈patsOf (modX xs),p.ops.length≤60:=by have h1:=fewL_len h;rw [List.length_map] at h1;have h2:=modX_few (xs:=xs);refine⟨by show((modX xs).map (·.p)).length≤m;rw [List.length_map];omega,fun p hp => ?_⟩;obtain⟨y,hy,rfl⟩:=List.mem_map.1 hp;exact(fewL_ops h (List.mem_map.2 ⟨y,modX_in hy,rfl⟩)).1
theorem few_ids(h:fewL m (xs.map (·.p))=true):(idsM (patsOf (modX xs))).length≤60*m:=by obtain⟨h1,h2⟩:=fewMod h;have:=idsOf_few _ 60 h2;have h3:(idsM (patsOf (modX xs))).length≤(idsOf (patsOf (modX xs))).length:=setS_few _;have:=Nat.mul_le_mul_left 60 h1;omega
theorem few_edges(h:fewL m (xs.map (·.p))=true):(edgesM (patsOf (modX xs))).length≤60*m:=by obtain⟨h1,h2⟩:=fewMod h;have:=edgesOf_few _ 60 h2;have h3:(edgesM (patsOf (modX xs))).length≤(edgesOf (patsOf (modX xs))).length:=setS_few _;have:=Nat.mul_le_mul_left 60 h1;omega
end
theorem fewL_deps23{m:Nat}{l:List PatchM}(h:fewL m l=true){p:PatchM}(hp:p∈l):p.deps.length≤100:=by unfold fewL at h;simp only [Bool.and_eq_true,List.all_eq_true] at h;have h1:=(h.2 p hp).1;unfold fewP at h1;simp only [Bool.and_eq_true,decide_eq_true_eq] at h1;exact h1.1
theorem own_slM{α:Type}{enc:α→List Value}{sz:Nat}{e:TypeId}{w:World}{B:Nat}{v:Value}{xs:List α}(h:GOwn enc sz e w B v xs):∃ p c,v=.slice p xs.length c:=by
 rcases h.2 with⟨rfl,h0⟩|⟨g,cap,cur,rfl,_⟩
 · exact⟨none,0,by rw [h0]⟩
 exact⟨_,_,rfl⟩
theorem gown_keepM{α:Type}{enc:α→List Value}{sz:Nat}{e:TypeId}{w w':World}{B:Nat}{v:Value}{xs:List α}{row:Option Nat}(h:GOwn enc sz e w B v xs)(hg:w.grownBy w' row)(hr:∀ k,row=some k→k<B):GOwn enc sz e w' B v xs:=
 own_grown h hg (by
  cases hv:v.ownBlock with
  | none=>exact .inl rfl
  | some k=>exact .inr fun q=>by have:=gown_base h hv;have:=hr k q.symm;omega)
theorem rowPat:RowT Tryz.prog 71 4:=rowT_of Tryz.underlying71 rfl (by kernel_rfl)
def MakeRes(w:World)(id:PidM)(ops:List OpM)(e:Ending)(w':World):Prop:=∃ pd cd po co,e=.returned (.tuple #[.agg #[.int .u8 id.author.toNat,.int .u16 id.seq.toNat,.slice pd (depsM id ops).length cd,.slice po ops.length co],.int .i64 0])∧GOwn encPid 2 25 w' w.heap.size (.slice pd (depsM id ops).length cd) (depsM id ops)∧GOwn encOp 8 96 w' w.heap.size (.slice po ops.length co) ops∧Be w w'
attribute [local irreducible] depsM goodQ
theorem pmake_any(id:PidM)(v:Value)(ops:List OpM)(w:World)(hv:GRow encOp 8 w v ops)(hl:ops.length≤1000)(hz:∀ o∈ops,o.text.size≤maxLen)(hg:goodQ id (depsM id ops) ops=true) :
  Calls Tryz.prog 41 #[pidV id,v] w (MakeRes w id ops):=by
 have HI:=Lh ((anw w (cP id) 25).alloc (.cells #[.int .u8 0,.int .u16 0,.slice none 0 0,.slice none 0 0] 71));have HR:=Lh (an2 w (.cells (cP id) 25) #[.int .u8 0,.int .u16 0,.slice none 0 0,.slice none 0 0] 71);have HB:=Lh ((bnew (w:=w) (.cells (cP id) 25)).alloc (by simp) (.cells #[.int .u8 0,.int .u16 0,.slice none 0 0,.slice none 0 0] 71));have HV:=Lh (hv.over HB.o);have HZs:=Lh hz;have HG:=Lh hg;clear hv hz hg;unfold pidV;go_enter Tryz.func41,Tryz.ntmps41;go_upto_region 1 with fail;have hs0:((w.alloc (.cells (cP id) 25)).alloc (.cells #[.int .u8 0,.int .u16 0,.slice none 0 0,.slice none 0 0] 71)).heap.size=w.heap.size+1+1:=by simp
 generalize (w.alloc (.cells (cP id) 25)).alloc (.cells #[.int .u8 0,.int .u16 0,.slice none 0 0,.slice none 0 0] 71)=w0 at *;have HS0:=Lh hs0;clear hs0;obtain⟨i0,i1,si⟩:=HI.o.c2;have HS:Hid (∀ w':World,Be w0 w'→(w'.cell? ⟨w.heap.size,0,none⟩=some (.int .u8 id.author.toNat)∧w'.cell? ⟨w.heap.size,1,none⟩=some (.int .u16 id.seq.toNat)∧Be w0 w')):=fun w' hb=>⟨(hb.cell (p:=⟨w.heap.size,0,none⟩) si).trans i0,(hb.cell (p:=⟨w.heap.size,1,none⟩) si).trans i1,hb⟩;go_cut [6] (fun s6 wx=>∃ g6 pd cd po co,s6=.pointer (some ⟨g6,0,none⟩)∧Hid (ArrT wx g6 71 [.int .u8 id.author.toNat,.int .u16 id.seq.toNat,.slice pd (depsM id ops).length cd,.slice po ops.length co])∧Hid (GOwn encPid 2 25 wx w0.heap.size (.slice pd (depsM id ops).length cd) (depsM id ops))∧Hid (GOwn encOp 8 96 wx w0.heap.size (.slice po ops.length co) ops)∧Hid (Be w0 wx))
 case first =>
  go_region_held3 (fun w'=>w'.cell? ⟨w.heap.size,0,none⟩=some (.int .u8 id.author.toNat)∧w'.cell? ⟨w.heap.size,1,none⟩=some (.int .u16 id.seq.toNat)∧Be w0 w') ((refine HS.o _ ?_;(with_reducible (first|exact(Below.refl _ _).drew|exact HBc.o|exact HBc.o.alloc HBc.o.size _|exact HBd.o|exact HBd.o.alloc HBd.o.size _|exact((Below.refl w0.heap.size w0).alloc (Nat.le_refl _) _).drew|exact((((HBc.o.setCell (p:=⟨w0.heap.size,0,none⟩) (Nat.le_refl _) (.int .u8 id.author.toNat)).setCell (p:=⟨w0.heap.size,1,none⟩) (Nat.le_refl _) (.int .u16 id.seq.toNat)).setCell (p:=⟨w0.heap.size,2,none⟩) (Nat.le_refl _) (.slice pd (depsM id ops).length cd)).setCell (p:=⟨w0.heap.size,3,none⟩) (Nat.le_refl _) (.slice po ops.length co))|exact((((HBc.o.setCell (p:=⟨w5.heap.size,0,none⟩) HBd.o.size (.int .u8 id.author.toNat)).setCell (p:=⟨w5.heap.size,1,none⟩) HBd.o.size (.int .u16 id.seq.toNat)).setCell (p:=⟨w5.heap.size,2,none⟩) HBd.o.size (.slice pd (depsM id ops).length cd)).setCell (p:=⟨w5.heap.size,3,none⟩) HBd.o.size (.slice po ops.length co))))))
   (first|(go_at_call 84;refine(pdeps_any id v ops _ (HV.o.over (by first|exact(Below.refl _ _).drew|exact((Below.refl w0.heap.size w0).alloc (Nat.le_refl _) _).drew)) (by omega)).mono ?_;rintro e w5 ⟨dv,rfl,ho5,hb5⟩;obtain⟨pd,cd,hdv⟩:=own_slM ho5;subst hdv;have HBd:Hid (Be w0 w5):=(by show Be w0 w5;with_reducible (first|exact bov (Below.refl w0.heap.size w0).drew (Nat.le_refl _) hb5|exact bov (((Below.refl w0.heap.size w0).alloc (Nat.le_refl _) _).drew) (Below.size (((Below.refl w0.heap.size w0).alloc (Nat.le_refl _) _).drew)) hb5));have HO5:Hid (GOwn encPid 2 25 w5 w0.heap.size (.slice pd (depsM id ops).length cd) (depsM id ops)):=Lh (ho5.base (by first|exact Nat.le_refl _|(simp)));have HB5b:=Lh hb5;have hs5:=hb5.size;(try(have hs5b:w0.heap.size<w5.heap.size:=(by have h:=hb5.size;simp at h;omega)));clear hs5;obtain⟨hc5,hf5⟩:=bcell hb5;clear ho5 hb5) |
    (go_at_call 85;refine(cloneOp v ops _ (HV.o.over (by first|exact HBd.o|exact HBd.o.alloc HBd.o.size _)) (by omega)).mono ?_;rintro e w6 ⟨ov,rfl,ho6,hb6⟩;obtain⟨po,co,hov⟩:=own_slM ho6;subst hov;have HBc:Hid (Be w0 w6):=(by show Be w0 w6;with_reducible (first|exact bvo HBd.o hb6|exact bov (HBd.o.alloc HBd.o.size _) (Below.size (HBd.o.alloc HBd.o.size _)) hb6));have HO6:Hid (GOwn encOp 8 96 w6 w0.heap.size (.slice po ops.length co) ops):=Lh (ho6.base (by have:=HBd.o.size;first|exact this|(simp;omega)));have HO56:Hid (GOwn encPid 2 25 w6 w0.heap.size (.slice pd (depsM id ops).length cd) (depsM id ops)):=Lh (by first|exact HO5.o.over hb6|exact(HO5.o.over (bnew _)).over hb6);have HB6b:=Lh hb6;obtain⟨hc6,hf6⟩:=bcell hb6;clear ho6 hb6))
  ·
   rename_i J K hJ hK hHeld;clear hHeld;refine hK _ _ (Met.intro (hJ _ _ ?_))
   (repeat apply Exists.intro)
   refine⟨?_,rfl⟩;exact⟨_,pd,cd,po,co,rfl,Lh (arrT_new w6 [.int .u8 id.author.toNat,.int .u16 id.seq.toNat,.slice pd (depsM id ops).length cd,.slice po ops.length co] 71),Lh (HO56.o.over (bnew _)),Lh (HO6.o.over (bnew _)),Lh (HBc.o.alloc HBc.o.size _)⟩
  ·
   rename_i J K hJ hK hHeld;clear hHeld;refine hK _ _ (Met.intro (hJ _ _ ?_))
   (repeat apply Exists.intro)
   refine⟨?_,rfl⟩;have HZ:Hid (ArrT w6 w5.heap.size 71 [.int .u8 0,.int .u16 0,.slice none 0 0,.slice none 0 0]):=Lh ((arrT_new w5 [.int .u8 0,.int .u16 0,.slice none 0 0,.slice none 0 0] 71).over HB6b.o);have nd:(Value.slice pd (depsM id ops).length cd).ownBlock=none∨(Value.slice pd (depsM id ops).length cd).ownBlock≠some w5.heap.size:=.inr (fun q=>(HZ.o.ne (show World.ownsRow _ _ _ _ _ _ _ from HO56.o) (by decide)) q.symm);have no:(Value.slice po ops.length co).ownBlock=none∨(Value.slice po ops.length co).ownBlock≠some w5.heap.size:=.inr (fun q=>(HZ.o.ne (show World.ownsRow _ _ _ _ _ _ _ from HO6.o) (by decide)) q.symm);exact⟨_,pd,cd,po,co,rfl,Lh ((((HZ.o.set 0 (.int .u8 id.author.toNat)).set 1 (.int .u16 id.seq.toNat)).set 2 (.slice pd (depsM id ops).length cd)).set 3 (.slice po ops.length co)),Lh (show GOwn encPid 2 25 _ w0.heap.size (.slice pd (depsM id ops).length cd) (depsM id ops) from own_grown HO56.o (gtr (gtr (gtr (gtr (World.grownBy.refl w6 _) (gsc _ _ _)) (gsc _ _ _)) (gsc _ _ _)) (gsc _ _ _)) nd),Lh (show GOwn encOp 8 96 _ w0.heap.size (.slice po ops.length co) ops from own_grown HO6.o (gtr (gtr (gtr (gtr (World.grownBy.refl w6 _) (gsc _ _ _)) (gsc _ _ _)) (gsc _ _ _)) (gsc _ _ _)) no),Lh ((((HBc.o.setCell (p:=⟨w5.heap.size,0,none⟩) HBd.o.size (.int .u8 id.author.toNat)).setCell (p:=⟨w5.heap.size,1,none⟩) HBd.o.size (.int .u16 id.seq.toNat)).setCell (p:=⟨w5.heap.size,2,none⟩) HBd.o.size (.slice pd (depsM id ops).length cd)).setCell (p:=⟨w5.heap.size,3,none⟩) HBd.o.size (.slice po ops.length co))⟩
  rename_i J K hJ hK hHeld;clear hHeld;refine hK _ _ (Met.intro (hJ _ _ ?_))
  (repeat apply Exists.intro)
  refine⟨?_,rfl⟩;have HZ:Hid (ArrT w6 w0.heap.size 71 [.int .u8 0,.int .u16 0,.slice none 0 0,.slice none 0 0]):=Lh (((show ArrT (w0.alloc (.cells #[.int .u8 0,.int .u16 0,.slice none 0 0,.slice none 0 0] 71)).drew w0.heap.size 71 [.int .u8 0,.int .u16 0,.slice none 0 0,.slice none 0 0] from arrT_new w0 [.int .u8 0,.int .u16 0,.slice none 0 0,.slice none 0 0] 71).over HB5b.o).over HB6b.o);have nd:(Value.slice pd (depsM id ops).length cd).ownBlock=none∨(Value.slice pd (depsM id ops).length cd).ownBlock≠some w0.heap.size:=.inr (fun q=>(HZ.o.ne (show World.ownsRow _ _ _ _ _ _ _ from HO56.o) (by decide)) q.symm);have no:(Value.slice po ops.length co).ownBlock=none∨(Value.slice po ops.length co).ownBlock≠some w0.heap.size:=.inr (fun q=>(HZ.o.ne (show World.ownsRow _ _ _ _ _ _ _ from HO6.o) (by decide)) q.symm);exact⟨_,pd,cd,po,co,rfl,Lh ((((HZ.o.set 0 (.int .u8 id.author.toNat)).set 1 (.int .u16 id.seq.toNat)).set 2 (.slice pd (depsM id ops).length cd)).set 3 (.slice po ops.length co)),Lh (show GOwn encPid 2 25 _ w0.heap.size (.slice pd (depsM id ops).length cd) (depsM id ops) from own_grown HO56.o (gtr (gtr (gtr (gtr (World.grownBy.refl w6 _) (gsc _ _ _)) (gsc _ _ _)) (gsc _ _ _)) (gsc _ _ _)) nd),Lh (show GOwn encOp 8 96 _ w0.heap.size (.slice po ops.length co) ops from own_grown HO6.o (gtr (gtr (gtr (gtr (World.grownBy.refl w6 _) (gsc _ _ _)) (gsc _ _ _)) (gsc _ _ _)) (gsc _ _ _)) no),Lh ((((HBc.o.setCell (p:=⟨w0.heap.size,0,none⟩) (Nat.le_refl _) (.int .u8 id.author.toNat)).setCell (p:=⟨w0.heap.size,1,none⟩) (Nat.le_refl _) (.int .u16 id.seq.toNat)).setCell (p:=⟨w0.heap.size,2,none⟩) (Nat.le_refl _) (.slice pd (depsM id ops).length cd)).setCell (p:=⟨w0.heap.size,3,none⟩) (Nat.le_refl _) (.slice po ops.length co))⟩
 obtain⟨g6,pd,cd,po,co,rfl,HA6,HO5,HO6,HB6⟩:=hcut;rename World=>w6;have HR6:=Lh (HR.o.over HB6.o);have hs6:=HB6.o.size;clear i0 i1 si HS;obtain⟨p0,p1,p2,p3,sp⟩:=HA6.o.arr.c4;go_wp2_with fail;refine(pgood_any id _ _ (depsM id ops) ops _ HO5.o.row HO6.o.row (by omega) HZs.o).mono ?_;rintro e w7 ⟨rfl,hb7⟩;rw [HG.o];have HB7:=Lh (bvo HB6.o hb7);have HA7:=Lh (HA6.o.over hb7);have HR7:=Lh (HR6.o.over hb7);have HO57:=Lh (HO5.o.over hb7);have HO67:=Lh (HO6.o.over hb7);clear hb7 p0 p1 p2 p3 sp;obtain⟨p0,p1,p2,p3,sp⟩:=HA7.o.arr.c4;obtain⟨r0,r1,r2,r3,sr⟩:=HR7.o.c4;have rf0:=HR7.o.free 0;have rf1:=HR7.o.free 1;have rf2:=HR7.o.free 2;have rf3:=HR7.o.free 3;have HF:=Lh ((((HR7.o.set 0 (.int .u8 id.author.toNat)).set 1 (.int .u16 id.seq.toNat)).set 2 (.slice pd (depsM id ops).length cd)).set 3 (.slice po ops.length co));have hs0:=HS0.o;have hgr:World.grownBy w7 ((((w7.setCell ⟨w.heap.size+1,0,none⟩ (.int .u8 id.author.toNat)).setCell ⟨w.heap.size+1,1,none⟩ (.int .u16 id.seq.toNat)).setCell ⟨w.heap.size+1,2,none⟩ (.slice pd (depsM id ops).length cd)).setCell ⟨w.heap.size+1,3,none⟩ (.slice po ops.length co)) (some (w.heap.size+1)):=(gtr (gtr (gtr (gtr (World.grownBy.refl w7 _) (gsc _ _ _)) (gsc _ _ _)) (gsc _ _ _)) (gsc _ _ _));have HO58:=Lh (gown_keepM HO57.o hgr (fun j hj=>by cases hj;omega));have HO68:=Lh (gown_keepM HO67.o hgr (fun j hj=>by cases hj;omega));have HB8:=Lh ((bvo HB.o HB7.o).grown hgr (by have:=HB7.o.size;omega) (fun j hj=>by cases hj;omega));clear hgr hs0;go_wp2_with fail;exact bodyPost_ret (v:=.tuple #[.agg #[.int .u8 id.author.toNat,.int .u16 id.seq.toNat,.slice pd (depsM id ops).length cd,.slice po ops.length co],.int .i64 0]) (rasl rowPat rfl HF.o rfl rfl rfl) rfl ⟨pd,cd,po,co,rfl,HO58.o.base (by have:=HS0.o;omega),HO68.o.base (by have:=HS0.o;omega),HB8.o⟩
end Go.Proofs.YtanfebljiblhbaaGreatDoor
