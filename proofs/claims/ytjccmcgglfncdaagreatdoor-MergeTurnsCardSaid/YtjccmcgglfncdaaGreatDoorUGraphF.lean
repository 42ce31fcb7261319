/- What is proved: MergeTurns, for every input; of the listed tables the walk needs the powers of ten. -/
import Derived.Test.YtjccmcgglfncdaaGreatDoorUVecC
import Derived.Test.YtjccmcgglfncdaaGreatDoorUEkP
set_option linter.unusedVariables false
set_option linter.unusedSimpArgs false
set_option maxRecDepth 100000
set_option maxHeartbeats 40000000
namespace Go.Proofs.YtjccmcgglfncdaaGreatDoor
open Go Go.RowKit
theorem bcell{W w1:World}(hb:Be W w1):(∀ b o,b<W.heap.size→w1.cell? ⟨b,o,none⟩=W.cell? ⟨b,o,none⟩)∧(∀ b o,b<W.heap.size→w1.frozen? ⟨b,o,none⟩=W.frozen? ⟨b,o,none⟩):=
 ⟨fun b o h=>hb.cell (p:=⟨b,o,none⟩) h,fun b o h=>hb.frozen (p:=⟨b,o,none⟩) h⟩
def gCells(f:VecM)(bv be:Nat):List Value:=vecL f++[.map (some bv),.map (some be)]
theorem gCells_v(f:VecM)(bv be:Nat):(gCells f bv be)[64]? = some (.map (some bv)):=by unfold gCells;rw [List.getElem?_append_right (by rw [vecL_len];omega),vecL_len];rfl
theorem gCells_e(f:VecM)(bv be:Nat):(gCells f bv be)[65]? = some (.map (some be)):=by unfold gCells;rw [List.getElem?_append_right (by rw [vecL_len];omega),vecL_len];rfl
abbrev VMap(w:World)(b n:Nat)(f:VidM→Option VertM):Prop:=TMap Tryz.prog 74 vidV okAll vertV w b n f
abbrev EMap(w:World)(b n:Nat)(f:EdgeM→Option VidM):Prop:=TMap Tryz.prog 133 edgeV okAll vidV w b n f
structure GrW (w:World) (b bv be n:Nat) (f:VecM) (v:VidM→Option VertM) (e:EdgeM→Option VidM):Prop where
 arr:Arr w b (gCells f bv be)
 verts:VMap w bv n v
 edges:EMap w be n e
 ne:bv≠be
theorem GrW.over{w w':World}{b bv be n:Nat}{f:VecM}{v:VidM→Option VertM}{e:EdgeM→Option VidM}(h:GrW w b bv be n f v e)(hb:Be w w'):GrW w' b bv be n f v e:=⟨h.arr.over hb,h.verts.over hb,h.edges.over hb,h.ne⟩
theorem zero_vert(u:World):(zeroValue 101).run Tryz.prog u=.ok (vertV noVert) u:=by kernel_rfl
theorem rowVert:RowT Tryz.prog 101 9:=rowT_of Tryz.underlying101 rfl (by kernel_rfl)
def optV(x:Option VertM):VertM:=x.getD noVert
theorem vecM_nil:vecM []=fun _=>0:=by funext a;simp [vecM]
theorem vertM_nil:vertM []=fun _=>none:=by funext v;simp [vertM,vertOp]
theorem edgeM_nil:edgeM []=fun _=>none:=by funext e;simp [edgeM,hasE]
theorem vecL_zero:vecL (fun _=>0)=List.replicate 64 (.int .u16 0):=by unfold vecL;rw [List.map_const'];simp
def NewRes(w:World)(e:Ending)(w':World):Prop:=∃ b bv be,e=.returned (.pointer (some ⟨b,0,none⟩))∧w.heap.size≤b∧w.heap.size≤bv∧w.heap.size≤be∧GrW w' b bv be 0 (vecM []) (vertM []) (edgeM [])∧Be w w'
theorem TMap.made_at{P:Program}{k:TypeId}{κ ν:Type}{kenc:κ→Value}{ok:κ→Prop}{venc:ν→Value}{w:World}{b:Nat}(h:w.heap[b]? = some (.map #[] 0)):TMap P k kenc ok venc w b 0 (fun _=>none):=by
 have h0:TMap P k kenc ok venc (({w with heap:=w.heap.extract 0 0}:World).alloc (.map #[] 0)) ({w with heap:=w.heap.extract 0 0}:World).heap.size 0 (fun _=>none):=TMap.made _;obtain⟨D,⟨es,clock,h1,h2⟩,h3⟩:=h0;have e1:=(MapKept.heap_alloc ({w with heap:=w.heap.extract 0 0}:World) (.map #[] 0)).1;rw [e1] at h1;cases h1
 exact⟨D,⟨#[],0,h,h2⟩,h3⟩
theorem gcells_new(a b:Nat):((Tryz.zeroCells118.setIfInBounds 64 (.map (some a))).setIfInBounds 65 (.map (some b))).toList=gCells (fun _=>0) a b:=by unfold gCells;rw [vecL_zero];rfl
theorem new_mk(w:World)(cs:Array Value)(e:TypeId)(h:cs.toList=gCells (fun _=>0) w.heap.size (w.heap.size+1)) :
  NewRes w (.returned (.pointer (some ⟨w.heap.size+1+1,0,none⟩))) (((w.alloc (.map #[] 0)).alloc (.map #[] 0)).alloc (.cells cs e)):=by
 have e1:((w.alloc (.map #[] 0)).alloc (.map #[] 0)).heap.size=w.heap.size+1+1:=by simp
 refine⟨_,w.heap.size,w.heap.size+1,rfl,(by omega),Nat.le_refl _,(by omega),⟨?_,?_,?_,by omega⟩,((bnew (w:=w) _).alloc (by simp) _).alloc (by simp;omega) _⟩
 · rw [vecM_nil,← h];exact arr_new3 w _ _ _ _
 · rw [vertM_nil];refine TMap.made_at ?_;rw [(MapKept.heap_alloc _ _).2 _ (by simp;omega),(MapKept.heap_alloc _ _).2 _ (by simp),(MapKept.heap_alloc _ _).1]
 rw [edgeM_nil];refine TMap.made_at ?_;rw [(MapKept.heap_alloc _ _).2 _ (by simp)];have:=(MapKept.heap_alloc (w.alloc (.map #[] 0)) (.map #[] 0)).1;simpa using this
theorem gnew_any(w:World):Calls Tryz.prog 32 #[] w (NewRes w):=by have hmm:=@run_makeMap Tryz.prog;go_enter Tryz.func32,Tryz.ntmps32;go_wp2;go_ret;exact new_mk w _ _ (gcells_new _ _)
section
variable{i:Nat}{o:OpM}{id:PidM}
def VertRes(w:World)(x:Option VertM)(e:Ending)(w':World):Prop:=e=.returned (.tuple #[vertV (optV x),.bool x.isSome])∧Be w w'
theorem vertRes_mk{w w':World}{x:Option VertM}{y:VertM}{q:Bool}(hy:x.getD noVert=y)(hq:x.isSome=q)(hb:Be w w'):VertRes w x (.returned (.tuple #[vertV y,.bool q])) w':=by subst hy;subst hq;exact⟨rfl,hb⟩
attribute [local irreducible] vecL gCells vertM optV
theorem gvert_any(b bv be n:Nat)(f:VecM)(vs:VidM→Option VertM)(es:EdgeM→Option VidM)(v:VidM)(w:World)(hg:GrW w b bv be n f vs es) :
  Calls Tryz.prog 78 #[.pointer (some ⟨b,0,none⟩),vidV v] w (VertRes w (vs v)):=by
 have hlt:=hg.arr.lt;have hvl:=hg.verts.lt;have HB:=Lh ((bnew (w:=w) (.cells (cV v) 74)).alloc (by simp) (.cells #[.int .u8 0,.int .u16 0,.int .u8 0,.int .u8 0,.int .u8 0,.int .u16 0,.int .u8 0,.string ⟨#[]⟩,.bool false] 101));have HV:=Lh ((anw w (cV v) 74).alloc (.cells #[.int .u8 0,.int .u16 0,.int .u8 0,.int .u8 0,.int .u8 0,.int .u16 0,.int .u8 0,.string ⟨#[]⟩,.bool false] 101));have HR:=Lh (an2 w (.cells (cV v) 74) #[.int .u8 0,.int .u16 0,.int .u8 0,.int .u8 0,.int .u8 0,.int .u16 0,.int .u8 0,.string ⟨#[]⟩,.bool false] 101);have HG:=Lh (hg.over HB.o);clear hg;unfold vidV;go_enter Tryz.func78,Tryz.ntmps78;go_upto_region 3 with fail;generalize (w.alloc (.cells (cV v) 74)).alloc (.cells #[.int .u8 0,.int .u16 0,.int .u8 0,.int .u8 0,.int .u8 0,.int .u16 0,.int .u8 0,.string ⟨#[]⟩,.bool false] 101)=w0 at *;obtain⟨v0,v1,v2,sv⟩:=HV.o.c3;obtain⟨r0,r1,r2,r3,r4,r5,r6,r7,r8,sr⟩:=HR.o.c9;have q0:=HR.o.free 0;have q1:=HR.o.free 1;have q2:=HR.o.free 2;have q3:=HR.o.free 3;have q4:=HR.o.free 4;have q5:=HR.o.free 5;have q6:=HR.o.free 6;have q7:=HR.o.free 7;have q8:=HR.o.free 8;have g64:=HG.o.arr.cell (gCells_v f bv be);have sg:=HG.o.arr.lt;have HLK:Hid (∀ x:Kept w0 (some w0.heap.size),(Instr.lookup 115 (.map (some bv)) (.agg (cV v)) true).run Tryz.prog x.1=.ok (.tuple #[vertV ((vs v).getD noVert),.bool (vs v).isSome]) x.1):=fun x =>TMap.look_ok keysVid vertV_inj (HG.o.verts.kept x.2 (by have:=HG.o.verts.lt;intro e;cases e;omega)) Tryz.underlying115 (zero_vert _) v trivial;generalize hy:(vs v).getD noVert=y at *;have HY:=Lh hy;generalize hq:(vs v).isSome=q at *;have HQ:=Lh hq;clear hy hq;have hlk:=HLK.o;unfold vertV at hlk;have nv:¬ w.heap.size=w0.heap.size:=by omega
 have nr:¬ w.heap.size+1=w0.heap.size:=by omega
 have ng:¬ b=w0.heap.size:=by omega
 clear HLK;have hcur:World.grownBy w0 w0.drew (some w0.heap.size):=⟨rfl,rfl,rfl,Nat.le_refl _,fun _ _ _=>rfl⟩;refine wlex (C:=IsKept w0 (some w0.heap.size)) 12 [] (by kernel_rfl) (by kernel_rfl) (isKept_of hcur) ?_;simp only [Tsc,Tz,Dsc,Dz];repeat(first|refine lxq ?_|(refine lxl rfl ?_;go_wp2_with (first|fail);refine⟨isKept_of (by first|exact hcur|exact only_alloc hcur _|exact gtr hcur (gsc _ _ _)|exact gtr (gtr hcur (gsc _ _ _)) (gsc _ _ _)),?_⟩))
 refine lxe ?_;clear hcur hlk;have HR1:=Lh ((HR.o.alloc (.cells (cX y) 101)).drew);have HY1:Hid (Arr ((w0.alloc (.cells (cX y) 101)).drew) w0.heap.size [.int .u8 y.id.pid.author.toNat,.int .u16 y.id.pid.seq.toNat,.int .u8 y.id.n.toNat,.int .u8 y.kind.toNat,.int .u8 y.file.pid.author.toNat,.int .u16 y.file.pid.seq.toNat,.int .u8 y.file.n.toNat,.string y.text,.bool y.dead]):=(anw w0 (cX y) 101).drew;have HB1:=Lh ((HB.o.alloc HB.o.size (.cells (cX y) 101)).drew);clear r0 r1 r2 r3 r4 r5 r6 r7 r8 q0 q1 q2 q3 q4 q5 q6 q7 q8 sr;generalize (w0.alloc (.cells (cX y) 101)).drew=w1 at *;obtain⟨r0,r1,r2,r3,r4,r5,r6,r7,r8,sr⟩:=HR1.o.c9;obtain⟨y0,y1,y2,y3,y4,y5,y6,y7,y8,sy⟩:=HY1.o.c9;have q0:=HR1.o.free 0;have q1:=HR1.o.free 1;have q2:=HR1.o.free 2;have q3:=HR1.o.free 3;have q4:=HR1.o.free 4;have q5:=HR1.o.free 5;have q6:=HR1.o.free 6;have q7:=HR1.o.free 7;have q8:=HR1.o.free 8;have HF:=Lh (((((((((HR1.o.set 0 (.int .u8 y.id.pid.author.toNat)).set 1 (.int .u16 y.id.pid.seq.toNat)).set 2 (.int .u8 y.id.n.toNat)).set 3 (.int .u8 y.kind.toNat)).set 4 (.int .u8 y.file.pid.author.toNat)).set 5 (.int .u16 y.file.pid.seq.toNat)).set 6 (.int .u8 y.file.n.toNat)).set 7 (.string y.text)).set 8 (.bool y.dead));have HBF:=Lh (((((((((HB1.o.setCell (p:=⟨w.heap.size+1,0,none⟩) (by simp) (.int .u8 y.id.pid.author.toNat)).setCell (p:=⟨w.heap.size+1,1,none⟩) (by simp) (.int .u16 y.id.pid.seq.toNat)).setCell (p:=⟨w.heap.size+1,2,none⟩) (by simp) (.int .u8 y.id.n.toNat)).setCell (p:=⟨w.heap.size+1,3,none⟩) (by simp) (.int .u8 y.kind.toNat)).setCell (p:=⟨w.heap.size+1,4,none⟩) (by simp) (.int .u8 y.file.pid.author.toNat)).setCell (p:=⟨w.heap.size+1,5,none⟩) (by simp) (.int .u16 y.file.pid.seq.toNat)).setCell (p:=⟨w.heap.size+1,6,none⟩) (by simp) (.int .u8 y.file.n.toNat)).setCell (p:=⟨w.heap.size+1,7,none⟩) (by simp) (.string y.text)).setCell (p:=⟨w.heap.size+1,8,none⟩) (by simp) (.bool y.dead));go_wp2_with fail;exact bodyPost_ret (v:=.tuple #[vertV y,.bool q]) (rasl rowVert rfl HF.o rfl rfl rfl) rfl (vertRes_mk HY.o HQ.o HBF.o)
theorem madeV_file{p:PatchM}(h:o.kind.toNat=1):madeV p i o=⟨⟨p.id,UInt8.ofNat i⟩,o.kind,⟨p.id,UInt8.ofNat i⟩,o.text,false⟩:=by unfold madeV fileOf;have:o.kind=1:=(u8_nat _ 1 (by omega)).2 h;rw [if_pos this]
theorem madeV_else{p:PatchM}(h:¬ o.kind.toNat=1):madeV p i o=⟨⟨p.id,UInt8.ofNat i⟩,o.kind,o.at',o.text,false⟩:=by unfold madeV fileOf;have:¬ o.kind=1:=fun e=>h ((u8_nat _ 1 (by omega)).1 e);rw [if_neg this]
def madeX(id:PidM)(i:Nat)(o:OpM):VertM:=⟨⟨id,UInt8.ofNat i⟩,o.kind,fileOf ⟨id,UInt8.ofNat i⟩ o,o.text,false⟩
theorem madeX_file(h:o.kind.toNat=1):madeX id i o=⟨⟨id,UInt8.ofNat i⟩,o.kind,⟨id,UInt8.ofNat i⟩,o.text,false⟩:=madeV_file (p:=⟨id,[],[]⟩) h
theorem madeX_else(h:¬ o.kind.toNat=1):madeX id i o=⟨⟨id,UInt8.ofNat i⟩,o.kind,o.at',o.text,false⟩:=madeV_else (p:=⟨id,[],[]⟩) h
def MadeRes(w:World)(x:VertM)(e:Ending)(w':World):Prop:=e=.returned (vertV x)∧Be w w'
theorem made_mk{w w':World}{x:VertM}(h:madeX id i o=x)(hb:Be w w'):MadeRes w (madeX id i o) (.returned (vertV x)) w':=by rw [h];exact⟨rfl,hb⟩
attribute [local irreducible] madeX
theorem gmade_any(id:PidM)(dv ov:Value)(ops:List OpM)(i:Nat)(o:OpM)(w:World)(hv:GRow encOp 8 w ov ops)(ho:ops[i]? = some o)(hl:ops.length≤40000) :
  Calls Tryz.prog 66 #[patV id dv ov,.int .i64 i] w (MadeRes w (madeX id i o)):=by
 have hlt:=(List.getElem?_eq_some_iff.1 ho).1;obtain⟨a,cap,rfl,h1,h2,hc⟩:=hv.at encOp_len;unfold maxLen at h2;have HC:=Lh hc;have HP:=Lh ((anw w #[.int .u8 id.author.toNat,.int .u16 id.seq.toNat,dv,.slice a ops.length cap] 44).alloc (.cells #[.int .u8 0,.int .u16 0,.int .u8 0,.int .u8 0,.int .u8 0,.int .u16 0,.int .u8 0,.string ⟨#[]⟩,.bool false] 101));have HR:=Lh (an2 w (.cells #[.int .u8 id.author.toNat,.int .u16 id.seq.toNat,dv,.slice a ops.length cap] 44) #[.int .u8 0,.int .u16 0,.int .u8 0,.int .u8 0,.int .u8 0,.int .u16 0,.int .u8 0,.string ⟨#[]⟩,.bool false] 101);have HB:=Lh ((bnew (w:=w) (.cells #[.int .u8 id.author.toNat,.int .u16 id.seq.toNat,dv,.slice a ops.length cap] 44)).alloc (by simp) (.cells #[.int .u8 0,.int .u16 0,.int .u8 0,.int .u8 0,.int .u8 0,.int .u16 0,.int .u8 0,.string ⟨#[]⟩,.bool false] 101));have HOo:=Lh ho;have HI:Hid (((UInt8.ofNat i).toNat:Int)=(i:Int) % 256):=Lh (by simp);clear hv hc ho;unfold patV;go_enter Tryz.func66,Tryz.ntmps66;go_upto_region 1 with fail;generalize (w.alloc (.cells #[.int .u8 id.author.toNat,.int .u16 id.seq.toNat,dv,.slice a ops.length cap] 44)).alloc (.cells #[.int .u8 0,.int .u16 0,.int .u8 0,.int .u8 0,.int .u8 0,.int .u16 0,.int .u8 0,.string ⟨#[]⟩,.bool false] 101)=w0 at *;obtain⟨b,off,rfl,sb,hcb⟩:=HC.o.resolve_left (by omega);have HCo:=Lh (hcb i o HOo.o w0 HB.o);clear hcb;obtain⟨p0,p1,p2,p3,sp⟩:=HP.o.c4;obtain⟨o0,o1,o2,o3,o4,o5,o6,o7,so⟩:=rc8 HCo.o;have HO:Hid (Arr (w0.alloc (.cells (cO o) 76)) w0.heap.size [.int .u8 o.kind.toNat,.int .u8 o.at'.pid.author.toNat,.int .u16 o.at'.pid.seq.toNat,.int .u8 o.at'.n.toNat,.int .u8 o.to.pid.author.toNat,.int .u16 o.to.pid.seq.toNat,.int .u8 o.to.n.toNat,.string o.text]):=anw _ _ _;have HB1:=Lh (HB.o.alloc HB.o.size (.cells (cO o) 76));have HP1:=Lh (HP.o.alloc (.cells (cO o) 76));have HR1:=Lh (HR.o.alloc (.cells (cO o) 76));go_upto_region 2 with fail;generalize w0.alloc (.cells (cO o) 76)=w1 at *;clear o0 o1 o2 o3 o4 o5 o6 o7 so p0 p1 p2 p3 sp;obtain⟨o0,o1,o2,o3,o4,o5,o6,o7,so⟩:=HO.o.c8;obtain⟨p0,p1,p2,p3,sp⟩:=HP1.o.c4;have HS:Hid (∀ w':World,Be w1 w'→(w'.cell? ⟨w0.heap.size,0,none⟩=some (.int .u8 o.kind.toNat)∧w'.cell? ⟨w0.heap.size,1,none⟩=some (.int .u8 o.at'.pid.author.toNat)∧w'.cell? ⟨w0.heap.size,2,none⟩=some (.int .u16 o.at'.pid.seq.toNat)∧w'.cell? ⟨w0.heap.size,3,none⟩=some (.int .u8 o.at'.n.toNat)∧w'.cell? ⟨w0.heap.size,7,none⟩=some (.string o.text)∧w'.cell? ⟨w.heap.size,0,none⟩=some (.int .u8 id.author.toNat)∧w'.cell? ⟨w.heap.size,1,none⟩=some (.int .u16 id.seq.toNat)∧Be w1 w')):=fun w' hb=>⟨(hb.cell (p:=⟨w0.heap.size,0,none⟩) so).trans o0,(hb.cell (p:=⟨w0.heap.size,1,none⟩) so).trans o1,(hb.cell (p:=⟨w0.heap.size,2,none⟩) so).trans o2,(hb.cell (p:=⟨w0.heap.size,3,none⟩) so).trans o3,(hb.cell (p:=⟨w0.heap.size,7,none⟩) so).trans o7,(hb.cell (p:=⟨w.heap.size,0,none⟩) sp).trans p0,(hb.cell (p:=⟨w.heap.size,1,none⟩) sp).trans p1,hb⟩;go_cut [6] (fun s6 wx=>∃ g2,s6=.pointer (some ⟨g2,0,none⟩)∧Hid (Arr wx g2 [.int .u8 id.author.toNat,.int .u16 id.seq.toNat,.int .u8 ((i:Int) % 256),.int .u8 o.kind.toNat,.int .u8 o.at'.pid.author.toNat,.int .u16 o.at'.pid.seq.toNat,.int .u8 o.at'.n.toNat,.string o.text,.bool false])∧Hid (Be w1 wx)∧w1.heap.size≤g2)
 case first =>
  go_region_held3 (fun w'=>w'.cell? ⟨w0.heap.size,0,none⟩=some (.int .u8 o.kind.toNat)∧w'.cell? ⟨w0.heap.size,1,none⟩=some (.int .u8 o.at'.pid.author.toNat)∧w'.cell? ⟨w0.heap.size,2,none⟩=some (.int .u16 o.at'.pid.seq.toNat)∧w'.cell? ⟨w0.heap.size,3,none⟩=some (.int .u8 o.at'.n.toNat)∧w'.cell? ⟨w0.heap.size,7,none⟩=some (.string o.text)∧w'.cell? ⟨w.heap.size,0,none⟩=some (.int .u8 id.author.toNat)∧w'.cell? ⟨w.heap.size,1,none⟩=some (.int .u16 id.seq.toNat)∧Be w1 w') ((refine HS.o _ ?_;(with_reducible (first|exact(Below.refl _ _).drew|exact HBk.o|exact HBk.o.alloc HBk.o.size _|exact((Below.refl w1.heap.size w1).alloc (Nat.le_refl _) _).drew|exact(((((((((HBk.o.setCell (p:=⟨w1.heap.size,0,none⟩) (Nat.le_refl _) _).setCell (p:=⟨w1.heap.size,1,none⟩) (Nat.le_refl _) _).setCell (p:=⟨w1.heap.size,2,none⟩) (Nat.le_refl _) _).setCell (p:=⟨w1.heap.size,3,none⟩) (Nat.le_refl _) _).setCell (p:=⟨w1.heap.size,4,none⟩) (Nat.le_refl _) _).setCell (p:=⟨w1.heap.size,5,none⟩) (Nat.le_refl _) _).setCell (p:=⟨w1.heap.size,6,none⟩) (Nat.le_refl _) _).setCell (p:=⟨w1.heap.size,7,none⟩) (Nat.le_refl _) _).setCell (p:=⟨w1.heap.size,8,none⟩) (Nat.le_refl _) _)))))
   (first|(go_at_call 95;refine(pvid_any id i _ (by omega)).mono ?_;rintro e w2 ⟨rfl,hb⟩;have HBk:Hid (Be w1 w2):=(by show Be w1 w2;with_reducible (first|exact bov (Below.refl w1.heap.size w1).drew (Nat.le_refl _) hb|exact bov (((Below.refl w1.heap.size w1).alloc (Nat.le_refl _) _).drew) (Below.size (((Below.refl w1.heap.size w1).alloc (Nat.le_refl _) _).drew)) hb));have HBb:=Lh hb;obtain⟨hcc,hff⟩:=bcell hb;clear hb))
  ·
   rename_i J K hJ hK hHeld;clear hHeld;refine hK _ _ (Met.intro (hJ _ _ ?_))
   (repeat apply Exists.intro)
   refine⟨?_,rfl⟩;exact⟨_,rfl,Lh (anw _ _ _),Lh (HBk.o.alloc HBk.o.size _),HBk.o.size⟩
  rename_i J K hJ hK hHeld;clear hHeld;refine hK _ _ (Met.intro (hJ _ _ ?_))
  (repeat apply Exists.intro)
  refine⟨?_,rfl⟩;have HZ:Hid (Arr w2 w1.heap.size [.int .u8 0,.int .u16 0,.int .u8 0,.int .u8 0,.int .u8 0,.int .u16 0,.int .u8 0,.string ⟨#[]⟩,.bool false]):=(((anw w1 #[.int .u8 0,.int .u16 0,.int .u8 0,.int .u8 0,.int .u8 0,.int .u16 0,.int .u8 0,.string ⟨#[]⟩,.bool false] 101).drew).over HBb.o);exact⟨_,rfl,Lh (((((((((HZ.o.set 0 (.int .u8 id.author.toNat)).set 1 (.int .u16 id.seq.toNat)).set 2 (.int .u8 ((i:Int) % 256))).set 3 (.int .u8 o.kind.toNat)).set 4 (.int .u8 o.at'.pid.author.toNat)).set 5 (.int .u16 o.at'.pid.seq.toNat)).set 6 (.int .u8 o.at'.n.toNat)).set 7 (.string o.text)).set 8 (.bool false)),Lh (((((((((HBk.o.setCell (p:=⟨w1.heap.size,0,none⟩) (Nat.le_refl _) (.int .u8 id.author.toNat)).setCell (p:=⟨w1.heap.size,1,none⟩) (Nat.le_refl _) (.int .u16 id.seq.toNat)).setCell (p:=⟨w1.heap.size,2,none⟩) (Nat.le_refl _) (.int .u8 ((i:Int) % 256))).setCell (p:=⟨w1.heap.size,3,none⟩) (Nat.le_refl _) (.int .u8 o.kind.toNat)).setCell (p:=⟨w1.heap.size,4,none⟩) (Nat.le_refl _) (.int .u8 o.at'.pid.author.toNat)).setCell (p:=⟨w1.heap.size,5,none⟩) (Nat.le_refl _) (.int .u16 o.at'.pid.seq.toNat)).setCell (p:=⟨w1.heap.size,6,none⟩) (Nat.le_refl _) (.int .u8 o.at'.n.toNat)).setCell (p:=⟨w1.heap.size,7,none⟩) (Nat.le_refl _) (.string o.text)).setCell (p:=⟨w1.heap.size,8,none⟩) (Nat.le_refl _) (.bool false)),Nat.le_refl _⟩
 obtain⟨g2,rfl,HV0,HBx,hg2⟩:=hcut;rename World=>w3;rw [← HI.o] at HV0;have HV2:Hid (Arr w3 g2 [.int .u8 id.author.toNat,.int .u16 id.seq.toNat,.int .u8 ((UInt8.ofNat i).toNat:Int),.int .u8 o.kind.toNat,.int .u8 o.at'.pid.author.toNat,.int .u16 o.at'.pid.seq.toNat,.int .u8 o.at'.n.toNat,.string o.text,.bool false]):=HV0;have HO2:=Lh (HO.o.below HBx.o so);have HR2:=Lh (HR1.o.below HBx.o HR1.o.lt);have HB2:=Lh (bvo HB1.o HBx.o);have nr2:w.heap.size+1≠g2:=by have:=HR1.o.lt;omega
 have hw2:w.heap.size≤g2:=Nat.le_trans HB1.o.size hg2;have ng2:¬ w0.heap.size=g2:=by omega
 clear o0 o1 o2 o3 o4 o5 o6 o7 so p0 p1 p2 p3 sp HS HCo HOo HC HP HP1;obtain⟨o0,o1,o2,o3,o4,o5,o6,o7,so⟩:=HO2.o.c8;obtain⟨x0,x1,x2,x3,x4,x5,x6,x7,x8,sx⟩:=HV2.o.c9;obtain⟨r0,r1,r2,r3,r4,r5,r6,r7,r8,sr⟩:=HR2.o.c9;have y0:=HV2.o.free 0;have y1:=HV2.o.free 1;have y2:=HV2.o.free 2;have y3:=HV2.o.free 3;have y4:=HV2.o.free 4;have y5:=HV2.o.free 5;have y6:=HV2.o.free 6;have y7:=HV2.o.free 7;have y8:=HV2.o.free 8;have q0:=HR2.o.free 0;have q1:=HR2.o.free 1;have q2:=HR2.o.free 2;have q3:=HR2.o.free 3;have q4:=HR2.o.free 4;have q5:=HR2.o.free 5;have q6:=HR2.o.free 6;have q7:=HR2.o.free 7;have q8:=HR2.o.free 8
 by_cases h1:o.kind.toNat=1
 ·
  have d1:((o.kind.toNat:Int) == 1)=true:=by simp;omega
  have HM:=Lh (madeX_file (id:=id) (i:=i) h1);have HF:=Lh ((((((((((((HR2.o.set_other (a:=⟨g2,4,none⟩) nr2 (.int .u8 id.author.toNat)).set_other (a:=⟨g2,5,none⟩) nr2 (.int .u16 id.seq.toNat)).set_other (a:=⟨g2,6,none⟩) nr2 (.int .u8 ((UInt8.ofNat i).toNat:Int))).set 0 (.int .u8 id.author.toNat)).set 1 (.int .u16 id.seq.toNat)).set 2 (.int .u8 ((UInt8.ofNat i).toNat:Int))).set 3 (.int .u8 o.kind.toNat)).set 4 (.int .u8 id.author.toNat)).set 5 (.int .u16 id.seq.toNat)).set 6 (.int .u8 ((UInt8.ofNat i).toNat:Int))).set 7 (.string o.text)).set 8 (.bool false));have HBF:=Lh ((((((((((((HB2.o.setCell (p:=⟨g2,4,none⟩) hw2 (.int .u8 id.author.toNat)).setCell (p:=⟨g2,5,none⟩) hw2 (.int .u16 id.seq.toNat)).setCell (p:=⟨g2,6,none⟩) hw2 (.int .u8 ((UInt8.ofNat i).toNat:Int))).setCell (p:=⟨w.heap.size+1,0,none⟩) (by simp) (.int .u8 id.author.toNat)).setCell (p:=⟨w.heap.size+1,1,none⟩) (by simp) (.int .u16 id.seq.toNat)).setCell (p:=⟨w.heap.size+1,2,none⟩) (by simp) (.int .u8 ((UInt8.ofNat i).toNat:Int))).setCell (p:=⟨w.heap.size+1,3,none⟩) (by simp) (.int .u8 o.kind.toNat)).setCell (p:=⟨w.heap.size+1,4,none⟩) (by simp) (.int .u8 id.author.toNat)).setCell (p:=⟨w.heap.size+1,5,none⟩) (by simp) (.int .u16 id.seq.toNat)).setCell (p:=⟨w.heap.size+1,6,none⟩) (by simp) (.int .u8 ((UInt8.ofNat i).toNat:Int))).setCell (p:=⟨w.heap.size+1,7,none⟩) (by simp) (.string o.text)).setCell (p:=⟨w.heap.size+1,8,none⟩) (by simp) (.bool false));clear h1;go_wp2_with fail;exact bodyPost_ret (v:=vertV ⟨⟨id,UInt8.ofNat i⟩,o.kind,⟨id,UInt8.ofNat i⟩,o.text,false⟩) (results_arr rowVert rfl HF.o rfl rfl) rfl (made_mk HM.o HBF.o)
 have d1:((o.kind.toNat:Int) == 1)=false:=by simp;omega
 have HM:=Lh (madeX_else (id:=id) (i:=i) h1);have HF:=Lh (((((((((HR2.o.set 0 (.int .u8 id.author.toNat)).set 1 (.int .u16 id.seq.toNat)).set 2 (.int .u8 ((UInt8.ofNat i).toNat:Int))).set 3 (.int .u8 o.kind.toNat)).set 4 (.int .u8 o.at'.pid.author.toNat)).set 5 (.int .u16 o.at'.pid.seq.toNat)).set 6 (.int .u8 o.at'.n.toNat)).set 7 (.string o.text)).set 8 (.bool false));have HBF:=Lh (((((((((HB2.o.setCell (p:=⟨w.heap.size+1,0,none⟩) (by simp) (.int .u8 id.author.toNat)).setCell (p:=⟨w.heap.size+1,1,none⟩) (by simp) (.int .u16 id.seq.toNat)).setCell (p:=⟨w.heap.size+1,2,none⟩) (by simp) (.int .u8 ((UInt8.ofNat i).toNat:Int))).setCell (p:=⟨w.heap.size+1,3,none⟩) (by simp) (.int .u8 o.kind.toNat)).setCell (p:=⟨w.heap.size+1,4,none⟩) (by simp) (.int .u8 o.at'.pid.author.toNat)).setCell (p:=⟨w.heap.size+1,5,none⟩) (by simp) (.int .u16 o.at'.pid.seq.toNat)).setCell (p:=⟨w.heap.size+1,6,none⟩) (by simp) (.int .u8 o.at'.n.toNat)).setCell (p:=⟨w.heap.size+1,7,none⟩) (by simp) (.string o.text)).setCell (p:=⟨w.heap.size+1,8,none⟩) (by simp) (.bool false));clear h1;go_wp2_with fail;exact bodyPost_ret (v:=vertV ⟨⟨id,UInt8.ofNat i⟩,o.kind,o.at',o.text,false⟩) (results_arr rowVert rfl HF.o rfl rfl) rfl (made_mk HM.o HBF.o)
end
section
variable{ops:List OpM}{id:PidM}{v:VidM}{vs:VidM→Option VertM}
def lookX(vs:VidM→Option VertM)(id:PidM)(ops:List OpM)(v:VidM):Option VertM:=
 if v.pid=id then(match ops[v.n.toNat]? with|some o=>if makesB o.kind=true then some (madeX id v.n.toNat o) else none|none=>none) else vs v
theorem look_far(h:¬ v.pid=id):lookX vs id ops v=vs v:=by unfold lookX;rw [if_neg h]
theorem look_out(h:v.pid=id)(hn:¬ v.n.toNat<ops.length):lookX vs id ops v=none:=by unfold lookX;rw [if_pos h,List.getElem?_eq_none (by omega)]
theorem look_no{o:OpM}(h:v.pid=id)(ho:ops[v.n.toNat]? = some o)(hm:makesB o.kind=false):lookX vs id ops v=none:=by unfold lookX;rw [if_pos h,ho];simp [hm]
theorem look_yes{o:OpM}(h:v.pid=id)(ho:ops[v.n.toNat]? = some o)(hm:makesB o.kind=true):lookX vs id ops v=some (madeX id v.n.toNat o):=by unfold lookX;rw [if_pos h,ho];simp [hm]
theorem lookX_eq(L:List PatchM)(p:PatchM)(v:VidM):lookX (vertM L) p.id p.ops v=lookM L p v:=by
 have e:UInt8.ofNat v.n.toNat=v.n:=by simp
 unfold lookX lookM madeBy
 by_cases h:v.pid=p.id
 ·
  rw [if_pos h,if_pos h,if_pos h.symm];cases hq:p.ops[v.n.toNat]? with
  | none=>simp
  | some o =>
   cases hm:makesB o.kind with
   | false=>simp [hm,Option.filter]
   | true =>simp only [hm,if_true,Option.filter,Option.map_some];unfold madeX;rw [e,← h]
 rw [if_neg h,if_neg h]
theorem vertRes_of{w w':World}{X x:Option VertM}{y:VertM}{q:Bool}(hk:X=x)(hy:x.getD noVert=y)(hq:x.isSome=q)(hb:Be w w'):VertRes w X (.returned (.tuple #[vertV y,.bool q])) w':=by subst hk;exact vertRes_mk hy hq hb
attribute [local irreducible] vecL gCells lookX madeX
theorem glook_any(b bv be n:Nat)(f:VecM)(vs:VidM→Option VertM)(es:EdgeM→Option VidM)(id:PidM)(dv ov:Value)(ops:List OpM)(v:VidM)(w:World)(hg:GrW w b bv be n f vs es)(hv:GRow encOp 8 w ov ops)(hl:ops.length≤40000) :
  Calls Tryz.prog 202 #[.pointer (some ⟨b,0,none⟩),patV id dv ov,vidV v] w (VertRes w (lookX vs id ops v)):=by
 have HV:=Lh hv;obtain⟨a,cap,rfl,h1,h2,hc⟩:=hv.at encOp_len;unfold maxLen at h2;have HC:=Lh hc;have HP:=Lh (((anw w #[.int .u8 id.author.toNat,.int .u16 id.seq.toNat,dv,.slice a ops.length cap] 44).alloc (.cells (cV v) 74)).alloc (.cells #[.int .u8 0,.int .u16 0,.int .u8 0,.int .u8 0,.int .u8 0,.int .u16 0,.int .u8 0,.string ⟨#[]⟩,.bool false] 101));have HVd:=Lh ((an2 w (.cells #[.int .u8 id.author.toNat,.int .u16 id.seq.toNat,dv,.slice a ops.length cap] 44) (cV v) 74).alloc (.cells #[.int .u8 0,.int .u16 0,.int .u8 0,.int .u8 0,.int .u8 0,.int .u16 0,.int .u8 0,.string ⟨#[]⟩,.bool false] 101));have HR:=Lh (arr_new3 w (.cells #[.int .u8 id.author.toNat,.int .u16 id.seq.toNat,dv,.slice a ops.length cap] 44) (.cells (cV v) 74) #[.int .u8 0,.int .u16 0,.int .u8 0,.int .u8 0,.int .u8 0,.int .u16 0,.int .u8 0,.string ⟨#[]⟩,.bool false] 101);have HB:=Lh (((bnew (w:=w) (.cells #[.int .u8 id.author.toNat,.int .u16 id.seq.toNat,dv,.slice a ops.length cap] 44)).alloc (by simp) (.cells (cV v) 74)).alloc (by simp;omega) (.cells #[.int .u8 0,.int .u16 0,.int .u8 0,.int .u8 0,.int .u8 0,.int .u16 0,.int .u8 0,.string ⟨#[]⟩,.bool false] 101));have HG:=Lh (hg.over HB.o);have gd:=fun p q xs ys w=>guard_pid .neq p q xs ys w;have hnl:=v.n.toNat_lt;clear hv hc hg;unfold patV vidV;go_enter Tryz.func202,Tryz.ntmps202;go_upto_region 1 with fail;generalize ((w.alloc (.cells #[.int .u8 id.author.toNat,.int .u16 id.seq.toNat,dv,.slice a ops.length cap] 44)).alloc (.cells (cV v) 74)).alloc (.cells #[.int .u8 0,.int .u16 0,.int .u8 0,.int .u8 0,.int .u8 0,.int .u16 0,.int .u8 0,.string ⟨#[]⟩,.bool false] 101)=w0 at *;obtain⟨p0,p1,p2,p3,sp⟩:=HP.o.c4;obtain⟨v0,v1,v2,sv⟩:=HVd.o.c3
 by_cases hp:v.pid=id
 rotate_left
 · have e1:=neq_pid v.pid id true (by simp [hp]);unfold pidV at e1;have HK:=Lh (look_far (vs:=vs) (ops:=ops) hp);clear hp;generalize hx:vs v=x at *;go_wp2_with (first|(go_at_call 78;(with_reducible refine(hx▸gvert_any b bv be n f vs es v _ (HG.o.over (Below.refl _ _))).mono ?_);rintro e w2 ⟨rfl,hb⟩;have HR2:=Lh (HR.o.over hb);have HB2:=Lh (bvo HB.o hb);clear hb)|((with_reducible show wpList _ _ _ ({dst:=_,op:=.store _ _ _,type:=_,pos:=_,after:=_,guard:=_} :: _) _ _);refine wpList_store_arr rowVert rfl _ _ rfl _ _ (encVert (optV x)) HR2.o rfl rfl rfl rfl rfl ?_));exact bodyPost_ret (v:=.tuple #[vertV (optV x),.bool x.isSome]) (rasl rowVert rfl (HR2.o.row (encVert (optV x))) rfl rfl rfl) rfl (vertRes_of HK.o rfl rfl (below_setRow HB2.o (by omega) _))
 have e1:=neq_pid v.pid id false (by simp [hp]);unfold pidV at e1
 by_cases hn:v.n.toNat<ops.length
 rotate_left
 ·
  have e2:decide (ops.length≤v.n.toNat)=true:=by simp;omega
  have HK:=Lh (look_out (vs:=vs) hp hn);clear hp hn;go_wp2_with (first|((with_reducible show wpList _ _ _ ({dst:=_,op:=.store _ _ _,type:=_,pos:=_,after:=_,guard:=_} :: _) _ _);refine wpList_store_arr rowVert rfl _ _ rfl _ _ (encVert noVert) HR.o rfl rfl rfl rfl rfl ?_));exact bodyPost_ret (v:=.tuple #[vertV noVert,.bool false]) (rasl rowVert rfl (HR.o.row (encVert noVert)) rfl rfl rfl) rfl (vertRes_of HK.o rfl rfl (below_setRow HB.o (by omega) _))
 have e2:decide (ops.length≤v.n.toNat)=false:=by simp;omega
 have e3:decide (v.n.toNat<ops.length)=true:=by simpa using hn
 obtain⟨b',off,rfl,sb,hcb⟩:=HC.o.resolve_left (by omega);obtain⟨o,ho⟩:=get_op hn;have HO:=Lh (hcb v.n.toNat o ho w0 HB.o);have o0:w0.cell? ⟨b',off+v.n.toNat*8,none⟩=some (.int .u8 o.kind.toNat):=HO.o.2 0 _ rfl;have so:=HO.o.1;have HOo:=Lh ho;have HV0:=Lh (HV.o.over HB.o);clear hcb HC HV;cases hmk:makesB o.kind with
 | false =>have HK:=Lh (look_no (vs:=vs) hp ho hmk);have HMK:=Lh hmk;clear hp ho hmk;go_wp2_with (first|(go_at_call 65;(with_reducible refine(pmakes_any o.kind _).mono ?_);rintro e w9 ⟨rfl,rfl⟩;rw [HMK.o])|((with_reducible show wpList _ _ _ ({dst:=_,op:=.store _ _ _,type:=_,pos:=_,after:=_,guard:=_} :: _) _ _);refine wpList_store_arr rowVert rfl _ _ rfl _ _ (encVert noVert) HR.o rfl rfl rfl rfl rfl ?_));exact bodyPost_ret (v:=.tuple #[vertV noVert,.bool false]) (rasl rowVert rfl (HR.o.row (encVert noVert)) rfl rfl rfl) rfl (vertRes_of HK.o rfl rfl (below_setRow HB.o (by omega) _))
 | true =>have HK:=Lh (look_yes (vs:=vs) hp ho hmk);have HMK:=Lh hmk;clear hp ho hmk;generalize hy:madeX id v.n.toNat o=y at *;go_wp2_with (first|(go_at_call 65;(with_reducible refine(pmakes_any o.kind _).mono ?_);rintro e w9 ⟨rfl,rfl⟩;rw [HMK.o])|(go_at_call 66;(with_reducible refine(hy▸gmade_any id dv _ ops v.n.toNat o _ HV0.o HOo.o hl).mono ?_);rintro e w2 ⟨rfl,hb⟩;have HR2:=Lh (HR.o.over hb);have HB2:=Lh (bvo HB.o hb);clear hb)|((with_reducible show wpList _ _ _ ({dst:=_,op:=.store _ _ _,type:=_,pos:=_,after:=_,guard:=_} :: _) _ _);refine wpList_store_arr rowVert rfl _ _ rfl _ _ (encVert y) HR2.o rfl rfl rfl rfl rfl ?_));exact bodyPost_ret (v:=.tuple #[vertV y,.bool true]) (rasl rowVert rfl (HR2.o.row (encVert y)) rfl rfl rfl) rfl (vertRes_of HK.o rfl rfl (below_setRow HB2.o (by omega) _))
end
variable{x z:Option VertM}
def refsK(x z:Option VertM)(k:Nat):Bool:=
 if k=2∨k=3 then isK x 1
 else if k=5 then x.isSome
 else if k=4 then isK x 3 && (isK z 3 && decide (x.map (·.file)=z.map (·.file)))
 else true
theorem refsK_eq(L:List PatchM)(p:PatchM)(o:OpM):refsK (lookX (vertM L) p.id p.ops o.at') (lookX (vertM L) p.id p.ops o.to) o.kind.toNat=refsB L p o:=by
 rw [lookX_eq,lookX_eq];unfold refsK refsB;have e (k:UInt8) (n:Nat) (h:k.toNat=n):(o.kind.toNat=n)↔(o.kind=k):=by rw [← h];exact UInt8.toNat_inj
 simp only [e 2 2 rfl,e 3 3 rfl,e 4 4 rfl,e 5 5 rfl]
theorem isK_no(k:UInt8)(h:x.isSome=false):isK x k=false:=by cases x <;> simp_all [isK]
theorem isK_yes{k:UInt8}(h:x.isSome=true):isK x k=decide ((optV x).kind=k):=by cases x with|none=>simp at h|some v=>rw [Bool.eq_iff_iff];simp [isK,optV];exact⟨fun h=>decide_eq_true h,fun h=>of_decide_eq_true h⟩
theorem refsK_1{k:Nat}(h:k=2∨k=3):refsK x z k=isK x 1:=by unfold refsK;rw [if_pos h]
theorem refsK_5:refsK x z 5=x.isSome:=by unfold refsK;simp
theorem refsK_4:refsK x z 4=(isK x 3 && (isK z 3 && decide (x.map (·.file)=z.map (·.file)))):=by unfold refsK;simp
theorem refsK_0{k:Nat}(h:¬ k=2)(h3:¬ k=3)(h5:¬ k=5)(h4:¬ k=4):refsK x z k=true:=by unfold refsK;simp [h,h3,h4,h5]
theorem file_eq(h:x.isSome=true)(h':z.isSome=true):decide (x.map (·.file)=z.map (·.file))=decide ((optV x).file=(optV z).file):=by
 cases x with
 | none=>simp at h
 | some a=>cases z with
  | none=>simp at h'
  | some b=>rw [Bool.eq_iff_iff];simp [optV];exact⟨fun h=>decide_eq_true h,fun h=>of_decide_eq_true h⟩
theorem kind_nat{x:VertM}{n:Nat}{k:UInt8}(h:k.toNat=n):((x.kind.toNat:Int) == (n:Int))=decide (x.kind=k):=by rw [← h,Bool.eq_iff_iff];simp [← UInt8.toNat_inj];omega
attribute [local irreducible] vecL gCells lookX madeX optV refsK isK
theorem grefs_any(b bv be n:Nat)(f:VecM)(vs:VidM→Option VertM)(es:EdgeM→Option VidM)(id:PidM)(dv ov:Value)(ops:List OpM)(o:OpM)(w:World)(hg:GrW w b bv be n f vs es)(hv:GRow encOp 8 w ov ops)(hl:ops.length≤40000) :
  Calls Tryz.prog 125 #[.pointer (some ⟨b,0,none⟩),patV id dv ov,opV o] w fun e w'=>e=.returned (.bool (refsK (lookX vs id ops o.at') (lookX vs id ops o.to) o.kind.toNat))∧Be w w':=by
 have HV:=Lh hv;obtain⟨a,cap,rfl,h1,h2,hc⟩:=hv.at encOp_len;unfold maxLen at h2;have HP:=Lh ((anw w #[.int .u8 id.author.toNat,.int .u16 id.seq.toNat,dv,.slice a ops.length cap] 44).alloc (.cells (cO o) 76));have HO:=Lh (an2 w (.cells #[.int .u8 id.author.toNat,.int .u16 id.seq.toNat,dv,.slice a ops.length cap] 44) (cO o) 76);have HB:=Lh ((bnew (w:=w) (.cells #[.int .u8 id.author.toNat,.int .u16 id.seq.toNat,dv,.slice a ops.length cap] 44)).alloc (by simp) (.cells (cO o) 76));have HG:=Lh (hg.over HB.o);have HV0:=Lh (HV.o.over HB.o);have gd:=fun p q xs ys w=>guard_vid .eql p q xs ys w;clear hv hc hg HV;generalize hx:lookX vs id ops o.at'=x at *;generalize hz:lookX vs id ops o.to=z at *;have HX:=Lh hx;have HZ:=Lh hz;clear hx hz;unfold patV opV;go_enter Tryz.func125,Tryz.ntmps125;go_upto_region 1 with fail;generalize (w.alloc (.cells #[.int .u8 id.author.toNat,.int .u16 id.seq.toNat,dv,.slice a ops.length cap] 44)).alloc (.cells (cO o) 76)=w0 at *;obtain⟨p0,p1,p2,p3,sp⟩:=HP.o.c4;obtain⟨o0,o1,o2,o3,o4,o5,o6,o7,so⟩:=HO.o.c8;go_upto_region 2 with(first|(go_at_call 202;(with_reducible refine(glook_any b bv be n f vs es id dv _ ops o.at' _ (HG.o.over (Below.refl _ _)) HV0.o hl).mono ?_);rintro e w1 ⟨rfl,hb⟩;rw [HX.o];have HB1:=Lh hb;clear hb))
 have HP2:=Lh ((HP.o.over HB1.o).alloc (.cells #[.int .u8 ((optV x).id.pid.author.toNat:Int),.int .u16 ((optV x).id.pid.seq.toNat:Int),.int .u8 ((optV x).id.n.toNat:Int),.int .u8 ((optV x).kind.toNat:Int),.int .u8 ((optV x).file.pid.author.toNat:Int),.int .u16 ((optV x).file.pid.seq.toNat:Int),.int .u8 ((optV x).file.n.toNat:Int),.string (optV x).text,.bool (optV x).dead] 101));have HO2:=Lh ((HO.o.over HB1.o).alloc (.cells #[.int .u8 ((optV x).id.pid.author.toNat:Int),.int .u16 ((optV x).id.pid.seq.toNat:Int),.int .u8 ((optV x).id.n.toNat:Int),.int .u8 ((optV x).kind.toNat:Int),.int .u8 ((optV x).file.pid.author.toNat:Int),.int .u16 ((optV x).file.pid.seq.toNat:Int),.int .u8 ((optV x).file.n.toNat:Int),.string (optV x).text,.bool (optV x).dead] 101));have HA2:=Lh (anw w1 #[.int .u8 ((optV x).id.pid.author.toNat:Int),.int .u16 ((optV x).id.pid.seq.toNat:Int),.int .u8 ((optV x).id.n.toNat:Int),.int .u8 ((optV x).kind.toNat:Int),.int .u8 ((optV x).file.pid.author.toNat:Int),.int .u16 ((optV x).file.pid.seq.toNat:Int),.int .u8 ((optV x).file.n.toNat:Int),.string (optV x).text,.bool (optV x).dead] 101);have HBx:=Lh (HB1.o.alloc HB1.o.size (.cells #[.int .u8 ((optV x).id.pid.author.toNat:Int),.int .u16 ((optV x).id.pid.seq.toNat:Int),.int .u8 ((optV x).id.n.toNat:Int),.int .u8 ((optV x).kind.toNat:Int),.int .u8 ((optV x).file.pid.author.toNat:Int),.int .u16 ((optV x).file.pid.seq.toNat:Int),.int .u8 ((optV x).file.n.toNat:Int),.string (optV x).text,.bool (optV x).dead] 101));have HB2:=Lh (bvo HB.o HBx.o);have HG2:=Lh (HG.o.over HBx.o);have HV2:=Lh (HV0.o.over HBx.o);generalize w1.alloc (.cells #[.int .u8 ((optV x).id.pid.author.toNat:Int),.int .u16 ((optV x).id.pid.seq.toNat:Int),.int .u8 ((optV x).id.n.toNat:Int),.int .u8 ((optV x).kind.toNat:Int),.int .u8 ((optV x).file.pid.author.toNat:Int),.int .u16 ((optV x).file.pid.seq.toNat:Int),.int .u8 ((optV x).file.n.toNat:Int),.string (optV x).text,.bool (optV x).dead] 101)=w2 at *;clear p0 p1 p2 p3 sp o0 o1 o2 o3 o4 o5 o6 o7 so HP HO HG HV0 HB;obtain⟨p0,p1,p2,p3,sp⟩:=HP2.o.c4;obtain⟨o0,o1,o2,o3,o4,o5,o6,o7,so⟩:=HO2.o.c8;obtain⟨x0,x1,x2,x3,x4,x5,x6,x7,x8,sx⟩:=HA2.o.c9
 by_cases hk:o.kind.toNat=2
 ·
  have k2:((o.kind.toNat:Int) == 2)=true:=by simp;omega
  have k3:((o.kind.toNat:Int) == 3)=false:=by simp;omega
  have k5:((o.kind.toNat:Int) == 5)=false:=by simp;omega
  have k4:((o.kind.toNat:Int) == 4)=false:=by simp;omega
  have k:refsK x z o.kind.toNat=isK x 1:=refsK_1 (.inl hk);cases hq:x.isSome with
  | false =>have HK:=Lh (k.trans (isK_no 1 hq));clear k hk;go_wp2;go_ret;exact⟨rvb (HK.o),HB2.o⟩
  | true =>
   have k9:(((optV x).kind.toNat:Int) == 1)=_:=kind_nat (x:=optV x) (n:=1) (k:=1) rfl;cases hd:decide ((optV x).kind=1) with
   | false =>have HK:=Lh ((k.trans (isK_yes hq)).trans hd);rw [hd] at k9;clear k hk hd;go_wp2;go_ret;exact⟨rvb (HK.o),HB2.o⟩
   | true =>have HK:=Lh ((k.trans (isK_yes hq)).trans hd);rw [hd] at k9;clear k hk hd;go_wp2;go_ret;exact⟨rvb (HK.o),HB2.o⟩
 by_cases hk:o.kind.toNat=3
 ·
  have k2:((o.kind.toNat:Int) == 2)=false:=by simp;omega
  have k3:((o.kind.toNat:Int) == 3)=true:=by simp;omega
  have k5:((o.kind.toNat:Int) == 5)=false:=by simp;omega
  have k4:((o.kind.toNat:Int) == 4)=false:=by simp;omega
  have k:refsK x z o.kind.toNat=isK x 1:=refsK_1 (.inr hk);cases hq:x.isSome with
  | false =>have HK:=Lh (k.trans (isK_no 1 hq));clear k hk;go_wp2;go_ret;exact⟨rvb (HK.o),HB2.o⟩
  | true =>
   have k9:(((optV x).kind.toNat:Int) == 1)=_:=kind_nat (x:=optV x) (n:=1) (k:=1) rfl;cases hd:decide ((optV x).kind=1) with
   | false =>have HK:=Lh ((k.trans (isK_yes hq)).trans hd);rw [hd] at k9;clear k hk hd;go_wp2;go_ret;exact⟨rvb (HK.o),HB2.o⟩
   | true =>have HK:=Lh ((k.trans (isK_yes hq)).trans hd);rw [hd] at k9;clear k hk hd;go_wp2;go_ret;exact⟨rvb (HK.o),HB2.o⟩
 by_cases hk:o.kind.toNat=5
 ·
  have k2:((o.kind.toNat:Int) == 2)=false:=by simp;omega
  have k3:((o.kind.toNat:Int) == 3)=false:=by simp;omega
  have k5:((o.kind.toNat:Int) == 5)=true:=by simp;omega
  have k4:((o.kind.toNat:Int) == 4)=false:=by simp;omega
  have HK:Hid (refsK x z o.kind.toNat=x.isSome):=by show _=_;rw [hk];exact refsK_5
  clear hk;go_wp2;go_ret;exact⟨rvb (HK.o),HB2.o⟩
 by_cases hk:o.kind.toNat=4
 ·
  have k2:((o.kind.toNat:Int) == 2)=false:=by simp;omega
  have k3:((o.kind.toNat:Int) == 3)=false:=by simp;omega
  have k5:((o.kind.toNat:Int) == 5)=false:=by simp;omega
  have k4:((o.kind.toNat:Int) == 4)=true:=by simp;omega
  have k:refsK x z o.kind.toNat=(isK x 3 && (isK z 3 && decide (x.map (·.file)=z.map (·.file)))):=by rw [hk];exact refsK_4
  go_upto_region 10 with(first|(go_at_call 202;(with_reducible refine(glook_any b bv be n f vs es id dv _ ops o.to _ (HG2.o.over (Below.refl _ _)) HV2.o hl).mono ?_);rintro e w3 ⟨rfl,hb⟩;rw [HZ.o];have HB3:=Lh hb;clear hb))
  have HX4:=Lh ((HA2.o.over HB3.o).alloc (.cells #[.int .u8 ((optV z).id.pid.author.toNat:Int),.int .u16 ((optV z).id.pid.seq.toNat:Int),.int .u8 ((optV z).id.n.toNat:Int),.int .u8 ((optV z).kind.toNat:Int),.int .u8 ((optV z).file.pid.author.toNat:Int),.int .u16 ((optV z).file.pid.seq.toNat:Int),.int .u8 ((optV z).file.n.toNat:Int),.string (optV z).text,.bool (optV z).dead] 101));have HZ4:=Lh (anw w3 #[.int .u8 ((optV z).id.pid.author.toNat:Int),.int .u16 ((optV z).id.pid.seq.toNat:Int),.int .u8 ((optV z).id.n.toNat:Int),.int .u8 ((optV z).kind.toNat:Int),.int .u8 ((optV z).file.pid.author.toNat:Int),.int .u16 ((optV z).file.pid.seq.toNat:Int),.int .u8 ((optV z).file.n.toNat:Int),.string (optV z).text,.bool (optV z).dead] 101);have HBy:=Lh (HB3.o.alloc HB3.o.size (.cells #[.int .u8 ((optV z).id.pid.author.toNat:Int),.int .u16 ((optV z).id.pid.seq.toNat:Int),.int .u8 ((optV z).id.n.toNat:Int),.int .u8 ((optV z).kind.toNat:Int),.int .u8 ((optV z).file.pid.author.toNat:Int),.int .u16 ((optV z).file.pid.seq.toNat:Int),.int .u8 ((optV z).file.n.toNat:Int),.string (optV z).text,.bool (optV z).dead] 101));have HB4:=Lh (bvo HB2.o HBy.o);generalize w3.alloc (.cells #[.int .u8 ((optV z).id.pid.author.toNat:Int),.int .u16 ((optV z).id.pid.seq.toNat:Int),.int .u8 ((optV z).id.n.toNat:Int),.int .u8 ((optV z).kind.toNat:Int),.int .u8 ((optV z).file.pid.author.toNat:Int),.int .u16 ((optV z).file.pid.seq.toNat:Int),.int .u8 ((optV z).file.n.toNat:Int),.string (optV z).text,.bool (optV z).dead] 101)=w4 at *;clear p0 p1 p2 p3 sp o0 o1 o2 o3 o4 o5 o6 o7 so x0 x1 x2 x3 x4 x5 x6 x7 x8 sx HP2 HO2 HA2 HG2 HV2;obtain⟨x0,x1,x2,x3,x4,x5,x6,x7,x8,sx⟩:=HX4.o.c9;obtain⟨z0,z1,z2,z3,z4,z5,z6,z7,z8,sz⟩:=HZ4.o.c9;cases hq:x.isSome with
  | false =>have HK:=Lh (k.trans (by rw [isK_no 3 hq];rfl:_=false));clear k hk;go_wp2;go_ret;exact⟨rvb (HK.o),HB4.o⟩
  | true =>
   cases hr:z.isSome with
   | false =>have HK:=Lh (k.trans (by rw [isK_no (x:=z) 3 hr,Bool.false_and,Bool.and_false]:_=false));clear k hk;go_wp2;go_ret;exact⟨rvb (HK.o),HB4.o⟩
   | true =>
    have k9:(((optV x).kind.toNat:Int) == 3)=_:=kind_nat (x:=optV x) (n:=3) (k:=3) rfl;have k8:(((optV z).kind.toNat:Int) == 3)=_:=kind_nat (x:=optV z) (n:=3) (k:=3) rfl;rw [isK_yes hq,isK_yes hr,file_eq hq hr] at k;cases hd:decide ((optV x).kind=3) with
    | false =>rw [hd] at k9 k;have HK:=Lh (k.trans (Bool.false_and _));clear k hk hd k8;go_wp2;go_ret;exact⟨rvb (HK.o),HB4.o⟩
    | true =>
     rw [hd,Bool.true_and] at k;rw [hd] at k9;cases hf:decide ((optV z).kind=3) with
     | false =>rw [hf] at k8 k;have HK:=Lh (k.trans (Bool.false_and _));clear k hk hd hf;go_wp2;go_ret;exact⟨rvb (HK.o),HB4.o⟩
     | true =>rw [hf,Bool.true_and] at k;rw [hf] at k8;have HK:=Lh k;have e9:=eql_vid (optV x).file (optV z).file _ rfl;unfold vidV at e9;clear k hk hd hf;go_wp2;go_ret;exact⟨rvb (HK.o),HB4.o⟩
 have HK:=Lh (refsK_0 (x:=x) (z:=z) (k:=o.kind.toNat) (by assumption) (by assumption) (by assumption) (by assumption));have k2:((o.kind.toNat:Int) == 2)=false:=by simp;omega
 have k3:((o.kind.toNat:Int) == 3)=false:=by simp;omega
 have k5:((o.kind.toNat:Int) == 5)=false:=by simp;omega
 have k4:((o.kind.toNat:Int) == 4)=false:=by simp;omega
 go_wp2;go_ret;exact⟨rvb (HK.o),HB2.o⟩
end Go.Proofs.YtjccmcgglfncdaaGreatDoor
set_option maxRecDepth 100000
set_option maxHeartbeats 40000000
namespace Go.Proofs.YtjccmcgglfncdaaGreatDoor
open Go Go.RowKit
theorem agg_vec(w:World):(isAgg 54).run Tryz.prog w=.ok true w:=by kernel_rfl
theorem size_vec(w:World):(Go.sizeOf 54).run Tryz.prog w=.ok 64 w:=by kernel_rfl
def refsO(vs:VidM→Option VertM)(id:PidM)(ops:List OpM)(o:OpM):Bool:=refsK (lookX vs id ops o.at') (lookX vs id ops o.to) o.kind.toNat
def checkX(f:VecM)(vs:VidM→Option VertM)(id:PidM)(deps:List PidM)(ops:List OpM):Nat:=
 if goodQ id deps ops=false then 1 else if hasF f id=true then 7 else if ¬ nextF f id.author=id then 9
 else if deps.any (fun d => !hasF f d)=true then 9 else if ops.any (fun o => !refsO vs id ops o)=true then 10 else 0
section
variable {f : VecM} {vs : VidM → Option VertM} {id : PidM} {deps : List PidM} {ops : List OpM}
theorem chk1(h:goodQ id deps ops=false):checkX f vs id deps ops=1:=by unfold checkX;rw [if_pos h]
theorem chk2(h:goodQ id deps ops=true)(h2:hasF f id=true):checkX f vs id deps ops=7:=by unfold checkX;rw [if_neg (by simp [h]),if_pos h2]
theorem chk3(h:goodQ id deps ops=true)(h2:hasF f id=false)(h3:¬ nextF f id.author=id):checkX f vs id deps ops=9:=by unfold checkX;rw [if_neg (by simp [h]),if_neg (by simp [h2]),if_pos h3]
def Chk3(f:VecM)(id:PidM)(deps:List PidM)(ops:List OpM):Prop:=goodQ id deps ops=true∧hasF f id=false∧nextF f id.author=id
theorem chk4(h:Chk3 f id deps ops){k:Nat}{d:PidM}(hd:deps[k]? = some d)(h4:hasF f d=false):checkX f vs id deps ops=9:=by obtain⟨h,h2,h3⟩:=h;unfold checkX;rw [if_neg (by simp [h]),if_neg (by simp [h2]),if_neg (by simp [h3]),if_pos (List.any_eq_true.2 ⟨d,List.mem_of_getElem? hd,by simp [h4]⟩)]
theorem chk5(h:Chk3 f id deps ops)(h4:(deps.take deps.length).any (fun d => !hasF f d)=false){k:Nat}{o:OpM}(ho:ops[k]? = some o)(h5:refsO vs id ops o=false):checkX f vs id deps ops=10:=by obtain⟨h,h2,h3⟩:=h;rw [List.take_length] at h4;unfold checkX;rw [if_neg (by simp [h]),if_neg (by simp [h2]),if_neg (by simp [h3]),if_neg (by rw [h4];simp),if_pos (List.any_eq_true.2 ⟨o,List.mem_of_getElem? ho,by simp [h5]⟩)]
theorem chk6(h:Chk3 f id deps ops)(h4:(deps.take deps.length).any (fun d => !hasF f d)=false)(h5:(ops.take ops.length).any (fun o => !refsO vs id ops o)=false):checkX f vs id deps ops=0:=by obtain⟨h,h2,h3⟩:=h;rw [List.take_length] at h4 h5;unfold checkX;rw [if_neg (by simp [h]),if_neg (by simp [h2]),if_neg (by simp [h3]),if_neg (by rw [h4];simp),if_neg (by rw [h5];simp)]
end
attribute [local irreducible] vecL lookX madeX optV refsK isK goodQ hasF nextF checkX refsO
theorem gcheck_any(b bv be n:Nat)(f:VecM)(vs:VidM→Option VertM)(es:EdgeM→Option VidM)(id:PidM)(dv ov:Value)(deps:List PidM)(ops:List OpM)(w:World)(hg:GrW w b bv be n f vs es)(hf:∀ a,f a≤60000)(hd:GRow encPid 2 w dv deps)(hv:GRow encOp 8 w ov ops)(hl:ops.length≤40000)(hz:∀ o∈ops,o.text.size≤maxLen) :
  Calls Tryz.prog 63 #[.pointer (some ⟨b,0,none⟩),patV id dv ov] w fun e w'=>e=.returned (.int .i64 ((checkX f vs id deps ops:Nat):Int))∧Be w w':=by
 have HV:=Lh hv;have HD:=Lh hd;have HF:=Lh hf;have HZ:=Lh hz;obtain⟨a,cap,rfl,h1,h2,hc⟩:=hv.at encOp_len;obtain⟨ad,capd,rfl,h1d,h2d,hcd⟩:=hd.at encPid_len;unfold maxLen at h2 h2d;have HC:=Lh hc;have HCd:=Lh hcd;have HG0:=Lh hg;have HP:=Lh (anw w #[.int .u8 id.author.toNat,.int .u16 id.seq.toNat,.slice ad deps.length capd,.slice a ops.length cap] 44);have HB:=Lh (bnew (w:=w) (.cells #[.int .u8 id.author.toNat,.int .u16 id.seq.toNat,.slice ad deps.length capd,.slice a ops.length cap] 44));have gd:=fun p q xs ys w=>guard_pid .neq p q xs ys w;clear hv hc hg hd hcd hf hz;unfold patV;go_enter Tryz.func63,Tryz.ntmps63;go_upto_region 1 with fail;generalize w.alloc (.cells #[.int .u8 id.author.toNat,.int .u16 id.seq.toNat,.slice ad deps.length capd,.slice a ops.length cap] 44)=w0 at *;obtain⟨p0,p1,p2,p3,sp⟩:=HP.o.c4;cases hgq:goodQ id deps ops with
 | false =>
  have HK:=Lh hgq;have HN:=Lh (chk1 (f:=f) (vs:=vs) hgq);clear hgq;go_upto_region 2 with(first|(go_at_call 111;(with_reducible refine(pgood_any id _ _ deps ops _ (HD.o.over HB.o) (HV.o.over HB.o) hl HZ.o).mono ?_);rintro e w1 ⟨rfl,hb⟩;rw [HK.o]))
  have HB1:=Lh (bvo HB.o hb);clear hb;go_wp2;go_ret;exact⟨(rvl (congrArg (fun n:Nat=>Value.int .i64 n) (HN.o).symm)),bvo HB1.o ((Below.refl _ _))⟩
 | true =>
  have HK:=Lh hgq;clear hgq;go_upto_region 3 with(first|(go_at_call 111;(with_reducible refine(pgood_any id _ _ deps ops _ (HD.o.over HB.o) (HV.o.over HB.o) hl HZ.o).mono ?_);rintro e w1 ⟨rfl,hb⟩;rw [HK.o]))
  have HB1:=Lh (bvo HB.o hb);have HP1:=Lh (HP.o.over hb);have HG:=Lh (HG0.o.over HB1.o);have HGA:Hid (Arr w1 b (vecL f++[.map (some bv),.map (some be)])):=HG.o.arr;have HV1:=Lh (HV.o.over HB1.o);clear hb p0 p1 p2 p3 sp HP HG0 HV HD;obtain⟨p0,p1,p2,p3,sp⟩:=HP1.o.c4;refine wlo 8 fun hcur=>?_;repeat(first|(refine lxs rfl rfl ?_;simp only [Act.put,Sib,Scs,Scz])|((with_reducible refine lex_load_part agg_vec size_vec rfl _ rfl rfl rfl (fun w' hw'=>HGA.o.over (bvo (Below.refl w1.heap.size w1) (isOver_below hw'))) (vecL_len f) ?_);simp only [Act.put,Sib,Scs,Scz])|(refine lxo rfl ?_;go_big_quiet_step (fail);refine wpQuiet_nil ?_)|(refine lxl rfl ?_;go_wp2_with (first|(go_at_call 124;(with_reducible refine(phas_any f id _).mono ?_);rintro e w2 ⟨rfl,hb⟩;have hcur:=bvo hcur hb));refine⟨iov hcur,?_⟩))
  refine lxe ?_;have HC2:=Lh hcur;clear hcur;cases hh:hasF f id with
  | true =>have HN:=Lh (chk2 (vs:=vs) HK.o hh);go_wp2;go_ret;exact⟨(rvl (congrArg (fun n:Nat=>Value.int .i64 n) (HN.o).symm)),bvo HB1.o (HC2.o)⟩
  | false =>
   have HH:=Lh hh;have HP2:=Lh (HP1.o.over HC2.o);clear p0 p1 p2 p3 sp;obtain⟨p0,p1,p2,p3,sp⟩:=HP2.o.c4;go_upto_region 5 with fail;clear hh
   by_cases hn:nextF f id.author=id
   ·
    have e1:=neq_pid (nextF f id.author) id false (by simp [hn]);unfold pidV at e1;have HN:=Lh hn;clear hn;refine wlo 12 fun hcur=>?_;(repeat(first|(refine lxs rfl rfl ?_;simp only [Act.put,Sib,Scs,Scz])|((with_reducible refine lex_load_part agg_vec size_vec rfl _ rfl rfl rfl (fun w' hw'=>HGA.o.over (bvo HC2.o (isOver_below hw'))) (vecL_len f) ?_);simp only [Act.put,Sib,Scs,Scz])|(refine lxo rfl ?_;go_big_quiet_step (fail);refine wpQuiet_nil ?_)|(refine lxl rfl ?_;go_wp2_with (first|(go_at_call 49;(with_reducible refine(pnext_any f HF.o id.author _).mono ?_);rintro e w3 ⟨rfl,hb⟩;have hcur:=bvo hcur hb));refine⟨iov hcur,?_⟩)));refine lxe ?_;have HC3:=Lh (bvo HC2.o hcur);have H3:Hid (Chk3 f id deps ops):=⟨HK.o,HH.o,HN.o⟩;clear hcur e1 HN HH HK;have HP3:=Lh (HP1.o.over HC3.o);clear p0 p1 p2 p3 sp HP2 HC2;obtain⟨p0,p1,p2,p3,sp⟩:=HP3.o.c4;go_wp2;go_loopw [40] (fun v40 wr=>∃ k:Nat,k≤deps.length∧v40=.int .i64 k∧Hid ((deps.take k).any (fun d => !hasF f d)=false)∧Be w3 wr) (fun v40 _=>deps.length - (intOf v40).toNat)
    case atStart=>exact⟨0,by omega,rfl,(by show _=_;simp),Below.refl _ _⟩
    case round =>
     obtain⟨k,hk,rfl,HM,hbl⟩:=hrel;have HCr:=Lh (bvo HC3.o hbl);have HBr:=Lh (bvo HB1.o HCr.o);clear p0 p1 p2 p3 sp
     by_cases hlt:k<deps.length
     ·
      obtain⟨bd,offd,rfl,sbd,hcb⟩:=HCd.o.resolve_left (by omega);obtain⟨d,hdk⟩:=gol hlt;have HX:=Lh hdk;have HRd:=Lh (hcb k d hdk wr HBr.o);clear hcb hdk;obtain⟨d0,d1,sd⟩:=rc2 HRd.o;go_upto_region 10 with fail;have HA4:=Lh (anw wr (cP d) 25);have hbx:=hbl.alloc hbl.size (.cells (cP d) 25);have HC4:=Lh (bvo HC3.o hbx);generalize wr.alloc (.cells (cP d) 25)=w4 at *;clear d0 d1 sd;obtain⟨d0,d1,sd⟩:=HA4.o.c2;refine wlo 7 fun hcur=>?_;(repeat(first|(refine lxs rfl rfl ?_;simp only [Act.put,Sib,Scs,Scz])|((with_reducible refine lex_load_part agg_vec size_vec rfl _ rfl rfl rfl (fun w' hw'=>HGA.o.over (bvo HC4.o (isOver_below hw'))) (vecL_len f) ?_);simp only [Act.put,Sib,Scs,Scz])|(refine lxo rfl ?_;go_big_quiet_step (fail);refine wpQuiet_nil ?_)|(refine lxl rfl ?_;go_wp2_with (first|(go_at_call 124;(with_reducible refine(phas_any f d _).mono ?_);rintro e w5 ⟨rfl,hb⟩;have hcur:=bvo hcur hb));refine⟨iov hcur,?_⟩)));refine lxe ?_;have hb5:=bvo hbx hcur;have HC5:=Lh (bvo HC4.o hcur);clear hcur hbx;cases hh:hasF f d with
      | true =>
       have HN:=Lh (any_step HM.o HX.o (by rw [hh];rfl));go_wp2;go_roundw
       case rel=>exact⟨k+1,hlt,by go_num,HN,hb5⟩
       case measure=>simp [intOf];omega
      | false =>have HN:=Lh (chk4 (vs:=vs) H3.o HX.o hh);go_wp2;go_ret;exact⟨(rvl (congrArg (fun n:Nat=>Value.int .i64 n) (HN.o).symm)),bvo HB1.o (HC5.o)⟩
     ·
      obtain rfl:k=deps.length:=(by omega);have HM1:=Lh HM.o;have HPr:=Lh (HP1.o.over HCr.o);rename World=>w6;clear HM hbl hlt hk;obtain⟨p0,p1,p2,p3,sp⟩:=HPr.o.c4;go_wp2;go_loopw [55] (fun v55 wr=>∃ k:Nat,k≤ops.length∧v55=.int .i64 k∧Hid ((ops.take k).any (fun o => !refsO vs id ops o)=false)∧Be w6 wr) (fun v55 _=>ops.length - (intOf v55).toNat)
      case atStart=>exact⟨0,by omega,rfl,(by show _=_;simp),Below.refl _ _⟩
      case round =>
       obtain⟨k,hk,rfl,HM,hbl⟩:=hrel;have HC7:=Lh (bvo HCr.o hbl);have HB7:=Lh (bvo HB1.o HC7.o);clear p0 p1 p2 p3 sp
       by_cases hlt:k<ops.length
       ·
        obtain⟨bo,offo,rfl,sbo,hcb⟩:=HC.o.resolve_left (by omega);obtain⟨o,hok⟩:=gol hlt;have HX:=Lh hok;have HRo:=Lh (hcb k o hok wr HB7.o);clear hcb hok;obtain⟨o0,o1,o2,o3,o4,o5,o6,o7,so⟩:=rc8 HRo.o;go_upto_region 16 with fail;have HA8:=Lh (anw wr (cO o) 76);have hbx:=hbl.alloc hbl.size (.cells (cO o) 76);have HC8:=Lh (bvo HCr.o hbx);have HP8:=Lh (HP1.o.over HC8.o);have HG8:=Lh (HG.o.over HC8.o);have HV8:=Lh (HV1.o.over HC8.o);generalize wr.alloc (.cells (cO o) 76)=w8 at *;clear o0 o1 o2 o3 o4 o5 o6 o7 so;obtain⟨o0,o1,o2,o3,o4,o5,o6,o7,so⟩:=HA8.o.c8;obtain⟨p0,p1,p2,p3,sp⟩:=HP8.o.c4;cases hr:refsO vs id ops o with
        | true =>
         have HR:Hid (refsK (lookX vs id ops o.at') (lookX vs id ops o.to) o.kind.toNat=true):=Lh (by unfold refsO at hr;exact hr);have HN:=Lh (any_step HM.o HX.o (by rw [hr];rfl));clear hr;go_wp2_with (first|(go_at_call 125;(with_reducible refine(grefs_any b bv be n f vs es id _ _ ops o _ (HG8.o.over (Below.refl _ _)) HV8.o hl).mono ?_);rintro e w9 ⟨rfl,hb⟩;rw [HR.o]));go_roundw
         case rel=>exact⟨k+1,hlt,by go_num,HN,bvo hbx hb⟩
         case measure=>simp [intOf];omega
        | false =>have HR:Hid (refsK (lookX vs id ops o.at') (lookX vs id ops o.to) o.kind.toNat=false):=Lh (by unfold refsO at hr;exact hr);have HN:=Lh (chk5 (vs:=vs) H3.o HM1.o HX.o hr);clear hr;go_wp2_with (first|(go_at_call 125;(with_reducible refine(grefs_any b bv be n f vs es id _ _ ops o _ (HG8.o.over (Below.refl _ _)) HV8.o hl).mono ?_);rintro e w9 ⟨rfl,hb⟩;rw [HR.o]));go_wp2;go_ret;exact⟨(rvl (congrArg (fun n:Nat=>Value.int .i64 n) (HN.o).symm)),bvo HB1.o (bvo HC8.o hb)⟩
       · obtain rfl:k=ops.length:=(by omega);have HN:=Lh (chk6 (vs:=vs) H3.o HM1.o HM.o);clear HM hlt hk;go_wp2;go_ret;exact⟨(rvl (congrArg (fun n:Nat=>Value.int .i64 n) (HN.o).symm)),bvo HB1.o (HC7.o)⟩
   · have e1:=neq_pid (nextF f id.author) id true (by simp [hn]);unfold pidV at e1;have HN:=Lh (chk3 (vs:=vs) HK.o HH.o hn);clear hn;refine wlo 12 fun hcur=>?_;(repeat(first|(refine lxs rfl rfl ?_;simp only [Act.put,Sib,Scs,Scz])|((with_reducible refine lex_load_part agg_vec size_vec rfl _ rfl rfl rfl (fun w' hw'=>HGA.o.over (bvo HC2.o (isOver_below hw'))) (vecL_len f) ?_);simp only [Act.put,Sib,Scs,Scz])|(refine lxo rfl ?_;go_big_quiet_step (fail);refine wpQuiet_nil ?_)|(refine lxl rfl ?_;go_wp2_with (first|(go_at_call 49;(with_reducible refine(pnext_any f HF.o id.author _).mono ?_);rintro e w3 ⟨rfl,hb⟩;have hcur:=bvo hcur hb));refine⟨iov hcur,?_⟩)));refine lxe ?_;have HC3:=Lh (bvo HC2.o hcur);clear hcur;go_wp2;go_ret;exact⟨(rvl (congrArg (fun n:Nat=>Value.int .i64 n) (HN.o).symm)),bvo HB1.o (HC3.o)⟩
end Go.Proofs.YtjccmcgglfncdaaGreatDoor
namespace Go.Proofs.YtjccmcgglfncdaaGreatDoor
open Go Go.RowKit
section
variable {P : Program} {ty : TypeId} {size : Nat} {w : World} {ops : Array Oper} {rest : List Oper} {o : Oper} {a : Act} {Q : Exit → Act → World → Prop}
theorem wpList_load_part(hag:∀ w,(isAgg ty).run P w=.ok true w)(hsz:∀ w,(Go.sizeOf ty).run P w=.ok size w)(hgd:o.guard=none)(x:Operand)(ho:o.op=.load ty x)(g:Nat)(cs more:List Value)(hA:Arr w g (cs++more))(hx:a.eval x=.pointer (some ⟨g,0,none⟩))(hl:cs.length=size)
  (h:wpList P ops Q rest (a.put o.dst (.agg cs.toArray)) w):wpList P ops Q (o :: rest) a w:=by refine wpList_plain hgd fun K hK => ?_;unfold Oper.wp execOp;simp only [ho,hx,Instr.loadAt,Instr.sureAddr,Sem.run_bind,Sem.run_pure,Result.andThen_ok,run_load_part hag hsz hA hl];exact hK _ _ h
end
def stepV(vs:VidM→Option VertM)(id:PidM)(i:Nat)(o:OpM):VidM→Option VertM:=
 if makesB o.kind=true then updM vs (madeX id i o).id (madeX id i o) else if o.kind.toNat=4 then vs else updM vs o.at' (killV (optV (vs o.at')))
def stepE(vs:VidM→Option VertM)(es:EdgeM→Option VidM)(o:OpM):EdgeM→Option VidM:=
 if makesB o.kind=true then es else if o.kind.toNat=4 then updM es (o.at',o.to) (optV (vs o.at')).file else es
structure Steps (VS:Nat→VidM→Option VertM) (ES:Nat→EdgeM→Option VidM) (vs:VidM→Option VertM) (es:EdgeM→Option VidM) (id:PidM) (ops:List OpM):Prop where
 v0:VS 0=vs
 e0:ES 0=es
 vk:∀ i o,ops[i]? = some o→VS (i+1)=stepV (VS i) id i o
 ek:∀ i o,ops[i]? = some o→ES (i+1)=stepE (VS i) (ES i) o
theorem optV_eq(x:Option VertM):x.getD noVert=optV x:=rfl
theorem field_file(y:VertM)(w:World):(Instr.field 101 (.agg (cX y)) 2).run Tryz.prog w=.ok (.agg (cV y.file)) w:=by kernel_rfl
attribute [local irreducible] vecL lookX madeX optV refsK isK goodQ hasF nextF checkX refsO
end Go.Proofs.YtjccmcgglfncdaaGreatDoor
namespace Go.Proofs.YtjccmcgglfncdaaGreatDoor
open Go Go.RowKit
variable{L:List PatchM}{p:PatchM}
theorem optV_some(x:VertM):optV (some x)=x:=rfl
attribute [local irreducible] vecL lookX optV refsK isK goodQ checkX refsO
theorem hasF_eq(hw:WfG L)(q:PidM):hasF (vecM L) q=hasM L q:=by rw [Bool.eq_iff_iff,hw.has];unfold hasF;simp
theorem nextF_eq(L:List PatchM)(a:UInt8):nextF (vecM L) a=nextM L a:=rfl
theorem refsO_eq(hg:goodP p=true)(hn:hasM L p.id=false){o:OpM}(ho:o∈p.ops):refsO (vertM L) p.id p.ops o=refMet (L++[p]) o:=by have h:=refsK_eq L p o;rw [← refs_same hn (by rcases kind_of hg ho with h|h|h|h|h <;> simp [h]),← h];unfold refsO;rfl
theorem any_all{α:Type}(l:List α)(f:α→Bool):(l.any (fun x => !f x)=true)↔(l.all f=false):=by
 rw [List.any_eq_true,← Bool.not_eq_true,List.all_eq_true];constructor
 · rintro⟨x,hx,h⟩ hh;rw [hh x hx] at h;cases h
 intro h;refine Classical.byContradiction fun hc=>h fun x hx=>by
  cases hfx:f x with
  | true=>rfl
  | false=>exact absurd ⟨x,hx,by rw [hfx];rfl⟩ hc
theorem checkX_eq(hw:WfG L)(p:PatchM):checkX (vecM L) (vertM L) p.id p.deps p.ops=checkM L p:=by
 unfold checkX checkM;rw [goodQ_eq,hasF_eq hw,nextF_eq]
 by_cases h1:goodP p=false
 · rw [if_pos h1,if_pos h1]
 rw [if_neg h1,if_neg h1]
 by_cases h2:hasM L p.id=true
 · rw [if_pos h2,if_pos h2]
 rw [if_neg h2,if_neg h2]
 by_cases h3:¬ nextM L p.id.author=p.id
 · rw [if_pos h3,if_pos h3]
 rw [if_neg h3,if_neg h3];have e4:(fun d => !hasF (vecM L) d)=fun d => !hasM L d:=by funext d;rw [hasF_eq hw]
 rw [e4]
 by_cases h4:(p.deps.all fun d=>hasM L d)=false
 · rw [if_pos h4,if_pos ((any_all _ _).2 h4)]
 rw [if_neg h4,if_neg (fun h=>h4 ((any_all _ _).1 h))];have e5:(p.ops.all fun o=>refMet (L++[p]) o)=p.ops.all fun o=>refsO (vertM L) p.id p.ops o:=by
  rw [Bool.eq_iff_iff,List.all_eq_true,List.all_eq_true];constructor
  · intro h o ho;rw [refsO_eq (by simpa using h1) (by simpa using h2) ho];exact h o ho
  intro h o ho;rw [← refsO_eq (by simpa using h1) (by simpa using h2) ho];exact h o ho
 rw [e5]
 by_cases h5:(p.ops.all fun o=>refsO (vertM L) p.id p.ops o)=false
 · rw [if_pos h5,if_pos ((any_all _ _).2 h5)]
 rw [if_neg h5,if_neg (fun h=>h5 ((any_all _ _).1 h))]
theorem file_at(L:List PatchM)(v:VidM):fileAt L v=(optV (vertM L v)).file:=by unfold fileAt optV;cases vertM L v <;> rfl
theorem steps_ok(hw:WfG L)(hc:CheckOk L p):Steps (fun k=>vertM (L++[partP p k])) (fun k=>edgeM (L++[partP p k])) (vertM L) (edgeM L) p.id p.ops:=by
 have h256:∀(i:Nat) (o:OpM),p.ops[i]? = some o→i<256:=fun i o h=>by have:=(List.getElem?_eq_some_iff.1 h).1;have:=(goodP_len hc.good).2;omega
 have h5:∀(i:Nat) (o:OpM),p.ops[i]? = some o→¬ makesB o.kind=true→¬ o.kind.toNat=4→o.kind=5:=fun i o h hm h4=>by
  rcases kind_of hc.good (List.mem_of_getElem? h) with h|h|h|h|h
  · exact absurd ((makes_iff _).2 (.inl h)) hm
  · exact absurd ((makes_iff _).2 (.inr (.inl h))) hm
  · exact absurd ((makes_iff _).2 (.inr (.inr h))) hm
  · exact absurd (by rw [h];rfl) h4
  exact h.1
 refine⟨vert_zero,edge_zero,fun i o h => ?_,fun i o h => ?_⟩
 ·
  unfold stepV
  by_cases hm:makesB o.kind=true
  · rw [if_pos hm];have e:(madeX p.id i o).id=⟨p.id,UInt8.ofNat i⟩:=rfl;rw [e];exact vert_makes hw hc (h256 i o h) h hm
  rw [if_neg hm]
  by_cases h4:o.kind.toNat=4
  · rw [if_pos h4];exact vert_edge hc h ((u8_nat _ 4 (by omega)).2 h4)
  rw [if_neg h4];obtain⟨x,hx⟩:=kill_there hc h (h5 i o h hm h4);show _=updM (vertM (L++[partP p i])) o.at' (killV (optV (vertM (L++[partP p i]) o.at')));rw [hx,optV_some];exact vert_kill hc h (h5 i o h hm h4) hx
 unfold stepE
 by_cases hm:makesB o.kind=true
 · rw [if_pos hm];exact edge_makes hw hc (h256 i o h) h hm
 rw [if_neg hm]
 by_cases h4:o.kind.toNat=4
 · rw [if_pos h4];show _=updM (edgeM (L++[partP p i])) (o.at',o.to) (optV (vertM (L++[partP p i]) o.at')).file;rw [← file_at];exact edge_edge hc h ((u8_nat _ 4 (by omega)).2 h4)
 rw [if_neg h4];exact edge_kill hc h (h5 i o h hm h4)
theorem vec_step(hc:CheckOk L p):setV (vecM L) p.id.author p.id.seq.toNat=vecM (L++[p]):=by
 obtain⟨_,_,h⟩:=next_parts (goodP_id hc.good) hc.next;funext a;rw [vecM_snoc];unfold setV
 by_cases ha:a=p.id.author
 · subst ha;rw [if_pos rfl,if_pos rfl,h]
 rw [if_neg ha,if_neg (fun e=>ha e.symm)];rfl
end Go.Proofs.YtjccmcgglfncdaaGreatDoor
