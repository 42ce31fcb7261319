/- What is proved: MergeTurns, for every input; of the listed tables the walk needs the powers of ten. -/
import Derived.Test.YtjccmcgglfncdaaGreatDoorUVecG
import Derived.ChangeKeysEq
import Derived.Test.YtjccmcgglfncdaaGreatDoorURcQ
set_option linter.unusedVariables false
set_option linter.unusedSimpArgs false
set_option maxRecDepth 100000
set_option maxHeartbeats 40000000
namespace Go.Proofs.YtjccmcgglfncdaaGreatDoor
open Go Go.RowKit
structure Bex (b bv be:Nat) (w w':World):Prop where
 os:w'.os=w.os
 tape:w'.tape=w.tape
 output:w'.output=w.output
 size:w.heap.size≤w'.heap.size
 block:∀ k,k<w.heap.size→k≠b→k≠bv→k≠be→w'.heap[k]? = w.heap[k]?
section
variable {b bv be : Nat} {w w1 w2 : World}
theorem bex_of(h:Be w w1):Bex b bv be w w1:=⟨h.os,h.tape,h.output,h.size,fun k hk _ _ _=>h.block k hk⟩
theorem Bex.over(h:Bex b bv be w w1)(hb:Be w1 w2):Bex b bv be w w2:=
 ⟨hb.os.trans h.os,hb.tape.trans h.tape,hb.output.trans h.output,Nat.le_trans h.size hb.size,fun k hk n1 n2 n3=>(hb.block k (Nat.lt_of_lt_of_le hk h.size)).trans (h.block k hk n1 n2 n3)⟩
theorem Bex.grown{r:Option Nat}(h:Bex b bv be w w1)(hg:w1.grownBy w2 r)(hr:r=some b∨r=some bv∨r=some be):Bex b bv be w w2:=by
 refine⟨hg.os.trans h.os,hg.tape.trans h.tape,hg.output.trans h.output,Nat.le_trans h.size hg.size,fun k hk n1 n2 n3=>(hg.block k (Nat.lt_of_lt_of_le hk h.size) ?_).trans (h.block k hk n1 n2 n3)⟩;intro e;rcases hr with e2|e2|e2 <;> rw [← e] at e2 <;> cases e2
 · exact n1 rfl
 · exact n2 rfl
 exact n3 rfl
theorem Bex.alloc(h:Bex b bv be w w1)(o:Obj):Bex b bv be w (w1.alloc o):=h.over (bnew o)
theorem Bex.cell(h:Bex b bv be w w1){p:Addr}(hp:p.block<w.heap.size)(n1:p.block≠b)(n2:p.block≠bv)(n3:p.block≠be):w1.cell? p=w.cell? p:=World.cell?_of_block (w:=w) (h.block p.block hp n1 n2 n3)
def Aside(b bv be:Nat)(v:Value):Prop:=∀ k,v.ownBlock=some k→k≠b∧k≠bv∧k≠be
theorem Row.bex{v:Value}{n sz:Nat}{cs:List Value}(h:Row w v n sz cs)(ha:Aside b bv be v)(hx:Bex b bv be w w1):Row w1 v n sz cs:=by obtain⟨h0,a,cap,rfl,h1,h2,h3,h4⟩:=h;refine⟨h0,a,cap,rfl,h1,h2,h3,fun hp => ?_⟩;obtain⟨g,off,rfl,hg,hc⟩:=h4 hp;obtain⟨n1,n2,n3⟩:=ha g rfl;refine⟨g,off,rfl,Nat.lt_of_lt_of_le hg hx.size,fun j u hu => ?_⟩;rw [hx.cell (p:=⟨g,off+j,none⟩) hg n1 n2 n3];exact hc j u hu
theorem grow_atB{α:Type}{enc:α→List Value}{sz:Nat}{v:Value}{xs:List α}(hf:∀ x,(enc x).length=sz)(h:GRow enc sz w v xs)(ha:Aside b bv be v):∃ a cap,v=.slice a xs.length cap∧xs.length≤cap∧cap≤maxLen∧(xs.length=0∨∃ g off,a=some ⟨g,off,none⟩∧g<w.heap.size ∧
  ∀ i x,xs[i]? = some x→∀ W,Bex b bv be w W→g<W.heap.size∧∀ j u,(enc x)[j]? = some u→W.cell? ⟨g,off+i*sz+j,none⟩=some u):=by obtain⟨a,cap,rfl,h1,h2,h3⟩:=h.at hf;refine⟨a,cap,rfl,h1,h2,h3.imp id ?_⟩;rintro⟨g,off,rfl,h4,h5⟩;obtain⟨n1,n2,n3⟩:=ha g rfl;refine⟨g,off,rfl,h4,fun i x hx W hW=>⟨Nat.lt_of_lt_of_le h4 hW.size,fun j u hu => ?_⟩⟩;rw [hW.cell (p:=⟨g,off+i*sz+j,none⟩) h4 n1 n2 n3];exact(h5 i x hx w (Below.refl _ _)).2 j u hu
end
def Ap2(w0:World)(b bv be m:Nat)(f:VecM)(vs:VidM→Option VertM)(es:EdgeM→Option VidM)(e:Ending)(w':World):Prop:=
 e=.returned (.int .i64 0)∧GrW w' b bv be m f vs es∧Bex b bv be w0 w'
attribute [local irreducible] vecL lookX madeX optV refsK isK goodQ hasF nextF checkX refsO
theorem gapply2_any(b bv be n:Nat)(f:VecM)(vs:VidM→Option VertM)(es:EdgeM→Option VidM)(id:PidM)(dv ov:Value)(deps:List PidM)(ops:List OpM)(VS:Nat→VidM→Option VertM)(ES:Nat→EdgeM→Option VidM)
  (w:World) (hg:GrW w b bv be n f vs es) (hf:∀ a,f a≤60000) (hd:GRow encPid 2 w dv deps) (hv:GRow encOp 8 w ov ops) (hoa:Aside b bv be ov) (hl:ops.length≤40000) (hz:∀ o∈ops,o.text.size≤maxLen)
  (hn:n+ops.length≤4000000000) (hok:checkX f vs id deps ops=0) (hau:authorOk id.author=true) (hnx:nextF f id.author=id) (hst:Steps VS ES vs es id ops) :
  Calls Tryz.prog 25 #[.pointer (some ⟨b,0,none⟩),patV id dv ov] w (Ap2 w b bv be (n+ops.length) (setV f id.author id.seq.toNat) (VS ops.length) (ES ops.length)):=by
 have HV:=Lh hv;have HVB:=Lh hv;have HOA:=Lh hoa;have HD:=Lh hd;have HF:=Lh hf;have HZ:=Lh hz;have HOK:=Lh hok;have HAU:=Lh hau;have HNX:=Lh hnx;have HST:=Lh hst;have HG0:=Lh hg;obtain⟨a,cap,rfl,h1,h2,hc⟩:=grow_atB encOp_len hv hoa;unfold maxLen at h2;have HC:=Lh hc;have l1:=hg.arr.lt;have l2:=hg.verts.lt;have l3:=hg.edges.lt;have n12:¬ b=bv:=fun e=>hg.verts.ne_arr hg.arr e;have n13:¬ b=be:=fun e=>hg.edges.ne_arr hg.arr e;have n23:¬ bv=be:=hg.ne;have n21:¬ bv=b:=fun e=>n12 e.symm;have n31:¬ be=b:=fun e=>n13 e.symm;have n32:¬ be=bv:=fun e=>n23 e.symm;have HP:=Lh (anw w #[.int .u8 id.author.toNat,.int .u16 id.seq.toNat,dv,.slice a ops.length cap] 44);have HB:=Lh (bnew (w:=w) (.cells #[.int .u8 id.author.toNat,.int .u16 id.seq.toNat,dv,.slice a ops.length cap] 44));clear hv hc hg hd hf hz hok hau hnx hst hoa;unfold patV;go_enter Tryz.func25,Tryz.ntmps25;go_upto_region 1 with fail;generalize w.alloc (.cells #[.int .u8 id.author.toNat,.int .u16 id.seq.toNat,dv,.slice a ops.length cap] 44)=w0 at *;obtain⟨p0,p1,p2,p3,sp⟩:=HP.o.c4;go_upto_region 4 with(first|(go_at_call 63;(with_reducible refine(gcheck_any b bv be n f vs es id _ _ deps ops _ (HG0.o.over HB.o) HF.o (HD.o.over HB.o) (HV.o.over HB.o) hl HZ.o).mono ?_);rintro e w1 ⟨rfl,hb⟩;rw [HOK.o]))
 have HP1:=Lh (HP.o.over hb);have HB1:=Lh (bvo HB.o hb);have HG1:=Lh (HG0.o.over HB1.o);have HGA:Hid (Arr w1 b (vecL f++[.map (some bv),.map (some be)])):=HG1.o.arr;have HBb:Hid (Bex b bv be w w1):=Lh (bex_of HB1.o);have nbp:¬ w.heap.size=b:=by omega
 have npv:¬ w.heap.size=bv:=by omega
 have npe:¬ w.heap.size=be:=by omega
 clear p0 p1 p2 p3 sp HP HG0 HB hb;obtain⟨p0,p1,p2,p3,sp⟩:=HP1.o.c4;have sb:=HGA.o.lt;have hcur:World.grownBy w1 w1.drew (some b):=⟨rfl,rfl,rfl,Nat.le_refl _,fun _ _ _=>rfl⟩;refine wlex (C:=IsKept w1 (some b)) 14 [4] (by kernel_rfl) (by kernel_rfl) (isKept_of hcur) ?_;simp only [Tsc,Tz,Dsc,Dz];repeat(first|refine lxq ?_|(refine lxl rfl ?_;go_wp2_with (first|((with_reducible show wpList _ _ _ ({dst:=_,op:=.load _ _,type:=_,pos:=_,after:=_,guard:=_} :: _) _ _);refine wpList_load_part agg_vec size_vec rfl _ rfl b (vecL f) [.map (some bv),.map (some be)] HGA.o.drew rfl (vecL_len f) ?_)|(go_at_call 64;(with_reducible refine(pput_any f HF.o id _ HAU.o HNX.o).mono ?_);rintro e w2 ⟨rfl,hb⟩;replace hcur:=gtr hcur (grown_of_below hb);have HGB:Hid (Arr w2 b (vecL f++[.map (some bv),.map (some be)])):=HGA.o.drew.over hb;clear hb)|((with_reducible show wpList _ _ _ ({dst:=_,op:=.store _ _ _,type:=_,pos:=_,after:=_,guard:=_} :: _) _ _);refine wpList_store_part rowVec rfl _ _ rfl b (vecL f) [.map (some bv),.map (some be)] (vecL (setV f id.author id.seq.toNat)) HGB.o rfl rfl (vecL_len _) (vecL_len _) (vecL_one _) ?_;intro HA3 hg3 hs3;replace hcur:=gtr hcur hg3));refine⟨isKept_of (by first|exact hcur|exact only_alloc hcur _),?_⟩))
 refine lxe ?_;generalize w2.setRow b (vecL (setV f id.author id.seq.toNat)++([.map (some bv),.map (some be)]:List Value)).toArray=w3 at *;have HG3:Hid (GrW w3 b bv be n (setV f id.author id.seq.toNat) vs es):=⟨HA3,HG1.o.verts.kept hcur (fun e=>n21 (Option.some.inj e)),HG1.o.edges.kept hcur (fun e=>n31 (Option.some.inj e)),n23⟩;have HP3:=Lh (HP1.o.grown hcur (fun e=>nbp (Option.some.inj e)));have HB3:=Lh (HBb.o.grown hcur (.inl rfl));clear HA3 hg3 hs3 hcur HGA HGB HG1 HBb HP1 sb p0 p1 p2 p3 sp HF HD HZ HOK HAU HNX HB1;obtain⟨p0,p1,p2,p3,sp⟩:=HP3.o.c4;go_wp2;go_loopw [32] (fun v32 wr=>∃ k:Nat,k≤ops.length∧v32=.int .i64 k∧Hid (GrW wr b bv be (n+k) (setV f id.author id.seq.toNat) (VS k) (ES k))∧Hid (Arr wr w.heap.size [.int .u8 id.author.toNat,.int .u16 id.seq.toNat,dv,.slice a ops.length cap])∧Hid (Bex b bv be w wr)) (fun v32 _=>ops.length - (intOf v32).toNat)
 case atStart=>exact⟨0,by omega,rfl,(by show GrW _ _ _ _ _ _ _ _;rw [HST.o.v0,HST.o.e0];exact HG3.o),HP3,HB3⟩
 obtain⟨k,hk,rfl,HGr,HPr,HBr⟩:=hrel;clear p0 p1 p2 p3 sp HG3 HP3 HB3
 by_cases hlt:k<ops.length
 rotate_left
 ·
  obtain rfl:k=ops.length:=by omega
  go_wp2;go_ret;exact⟨rfl,HGr.o,HBr.o⟩
 obtain⟨bo,offo,rfl,sbo,hcb⟩:=HC.o.resolve_left (by omega);obtain⟨o,hok⟩:=gol hlt;have HX:=Lh hok;have HRo:=Lh (hcb k o hok wr HBr.o);have HN:Hid (n+k<maxLen):=Lh (by unfold maxLen;omega);clear hcb hok;obtain⟨o0,o1,o2,o3,o4,o5,o6,o7,so⟩:=rc8 HRo.o;go_upto_region 11 with fail;have HO4:=Lh (anw wr (cO o) 76);have HG4:=Lh (HGr.o.over (bnew (.cells (cO o) 76)));have HP4:=Lh (HPr.o.alloc (.cells (cO o) 76));have HB4:=Lh (HBr.o.alloc (.cells (cO o) 76));have m1:=HGr.o.arr.lt;have m2:=HGr.o.verts.lt;have m3:=HGr.o.edges.lt;have m4:=HPr.o.lt;have nob:¬ wr.heap.size=b:=by omega
 have nov:¬ wr.heap.size=bv:=by omega
 have noe:¬ wr.heap.size=be:=by omega
 generalize wr.alloc (.cells (cO o) 76)=w4 at *;clear o0 o1 o2 o3 o4 o5 o6 o7 so HGr HPr HRo;obtain⟨o0,o1,o2,o3,o4,o5,o6,o7,so⟩:=HO4.o.c8;obtain⟨p0,p1,p2,p3,sp⟩:=HP4.o.c4;have g64:=HG4.o.arr.cell (gCells_v _ bv be);have g65:=HG4.o.arr.cell (gCells_e _ bv be);have sg:=HG4.o.arr.lt;cases hm:makesB o.kind with
 | true =>
  have HMK:=Lh hm;have hsv:=(HST.o.vk k o HX.o).trans (by unfold stepV;rw [if_pos hm]:_=updM (VS k) (madeX id k o).id (madeX id k o));have HSE:=Lh ((HST.o.ek k o HX.o).trans (by unfold stepE;rw [if_pos hm]:_=ES k));clear hm;generalize hx:madeX id k o=x at *;have HSV:=Lh hsv;have HV4:Hid (GRow encOp 8 w4 _ ops):=Lh (Row.bex HVB.o HOA.o HB4.o);clear hsv;go_upto_region 13 with(first|(go_at_call 65;(with_reducible refine(pmakes_any o.kind _).mono ?_);rintro e w9 ⟨rfl,hw9⟩;obtain rfl:=hw9.symm;rw [HMK.o])|(go_at_call 66;(with_reducible refine(hx▸gmade_any id _ _ ops k o _ HV4.o HX.o hl).mono ?_);rintro e w6 ⟨rfl,hb⟩))
  have hbx:=hb.alloc hb.size (.cells (cX x) 101);have HX7:=Lh (anw w6 (cX x) 101);have HG7:=Lh (HG4.o.over hbx);have HP7:=Lh (HP4.o.over hbx);have HB7:=Lh (HB4.o.over hbx);have nxv:¬ w6.heap.size=bv:=by have:=hb.size;have:=HG4.o.verts.lt;omega
  generalize w6.alloc (.cells (cX x) 101)=w7 at *;clear hb hbx o0 o1 o2 o3 o4 o5 o6 o7 so p0 p1 p2 p3 sp g64 g65 sg HO4 HG4 HP4 HB4;obtain⟨x0,x1,x2,x3,x4,x5,x6,x7,x8,sx⟩:=HX7.o.c9;have g64:=HG7.o.arr.cell (gCells_v _ bv be);have sg:=HG7.o.arr.lt;have hcur:World.grownBy w7 w7.drew (some bv):=⟨rfl,rfl,rfl,Nat.le_refl _,fun _ _ _=>rfl⟩;refine wlex (C:=IsKept w7 (some bv)) 8 [] (by kernel_rfl) (by kernel_rfl) (isKept_of hcur) ?_;simp only [Tsc,Tz,Dsc,Dz];repeat(first|refine lxq ?_|(refine lxl rfl ?_;go_wp2_with (first|((with_reducible show wpList _ _ _ ({dst:=_,op:=.mapUpdate _ _ _ _,type:=_,pos:=_,after:=_,guard:=_} :: _) _ _);refine wpList_tstore keysVid vertV_inj rfl _ _ _ _ rfl Tryz.underlying115 bv _ (VS k) rfl (HG7.o.verts.drew) HN.o (x.id) rfl trivial (x) rfl ?_;intro w5 hm5 hg5 hs5;replace hcur:=gtr hcur hg5));refine⟨isKept_of (by first|exact hcur|exact only_alloc hcur _),?_⟩))
  refine lxe ?_;have HG5:Hid (GrW w5 b bv be (n+(k+1)) (setV f id.author id.seq.toNat) (VS (k+1)) (ES (k+1))):=by show GrW _ _ _ _ _ _ _ _;rw [HSV.o,HSE.o];exact⟨HG7.o.arr.grown hcur (fun e=>n12 (Option.some.inj e)),hm5,(HG7.o.edges.kept hcur (fun e=>n32 (Option.some.inj e))).mono (by omega),n23⟩
  have HP5:=Lh (HP7.o.grown hcur (fun e=>npv (Option.some.inj e)));have HB5:=Lh (HB7.o.grown hcur (.inr (.inl rfl)));clear hm5 hg5 hs5 hcur;go_wp2;go_roundw
  case rel=>exact⟨k+1,hlt,by go_num,HG5,HP5,HB5⟩
  simp [intOf];omega
 | false =>
  have HMK:=Lh hm
  by_cases h4:o.kind.toNat=4
  ·
   have e4:((o.kind.toNat:Int) == 4)=true:=(by simp;omega);generalize hy:optV (VS k o.at')=y at *;have HSV:=Lh ((HST.o.vk k o HX.o).trans (by unfold stepV;rw [if_neg (by rw [hm];simp),if_pos h4]:_=VS k));have HSE:=Lh ((HST.o.ek k o HX.o).trans (by unfold stepE;rw [if_neg (by rw [hm];simp),if_pos h4,hy]:_=updM (ES k) (o.at',o.to) y.file));clear hm h4;have HLK:Hid (∀ x:Kept w4 (some be),(Instr.lookup 115 (.map (some bv)) (.agg (cV o.at')) false).run Tryz.prog x.1=.ok (vertV y) x.1):=fun x =>(TMap.lookup keysVid vertV_inj (HG4.o.verts.kept x.2 (fun e=>n23 (Option.some.inj e))) Tryz.underlying115 (zero_vert _) o.at' trivial).trans (by rw [optV_eq,hy]);have hlk:=HLK.o;unfold vertV at hlk;have hff:=field_file y;clear HLK;go_upto_region 15 with(first|(go_at_call 65;(with_reducible refine(pmakes_any o.kind _).mono ?_);rintro e w9 ⟨rfl,hw9⟩;obtain rfl:=hw9.symm;rw [HMK.o]))
   have hcur:World.grownBy w4 w4.drew (some be):=⟨rfl,rfl,rfl,Nat.le_refl _,fun _ _ _=>rfl⟩;refine wlex (C:=IsKept w4 (some be)) 18 [] (by kernel_rfl) (by kernel_rfl) (isKept_of hcur) ?_;simp only [Tsc,Tz,Dsc,Dz];(repeat(first|refine lxq ?_|(refine lxl rfl ?_;go_wp2_with (first|((with_reducible show wpList _ _ _ ({dst:=_,op:=.mapUpdate _ _ _ _,type:=_,pos:=_,after:=_,guard:=_} :: _) _ _);refine wpList_tstore keysEdge vidV_inj rfl _ _ _ _ rfl Tryz.underlying116 be _ (ES k) rfl (HG4.o.edges.drew) HN.o ((o.at',o.to)) rfl trivial (y.file) rfl ?_;intro w5 hm5 hg5 hs5;replace hcur:=gtr hcur hg5));refine⟨isKept_of (by first|exact hcur|exact only_alloc hcur _),?_⟩)));refine lxe ?_;have HG5:Hid (GrW w5 b bv be (n+(k+1)) (setV f id.author id.seq.toNat) (VS (k+1)) (ES (k+1))):=(by show GrW _ _ _ _ _ _ _ _;rw [HSV.o,HSE.o];exact⟨HG4.o.arr.grown hcur (fun e=>n13 (Option.some.inj e)),(HG4.o.verts.kept hcur (fun e=>n23 (Option.some.inj e))).mono (by omega),hm5,n23⟩);have HP5:=Lh (HP4.o.grown hcur (fun e=>npe (Option.some.inj e)));have HB5:=Lh (HB4.o.grown hcur (.inr (.inr rfl)));clear hm5 hg5 hs5 hcur hlk;go_wp2;go_roundw
   case rel=>exact⟨k+1,hlt,by go_num,HG5,HP5,HB5⟩
   simp [intOf];omega
  have e4:((o.kind.toNat:Int) == 4)=false:=by simp;omega
  generalize hy:optV (VS k o.at')=y at *;have HSV:=Lh ((HST.o.vk k o HX.o).trans (by unfold stepV;rw [if_neg (by rw [hm];simp),if_neg h4,hy]:_=updM (VS k) o.at' (killV y)));have HSE:=Lh ((HST.o.ek k o HX.o).trans (by unfold stepE;rw [if_neg (by rw [hm];simp),if_neg h4]:_=ES k));clear hm h4;have HLK:Hid (∀ x:Kept w4 (some w4.heap.size),(Instr.lookup 115 (.map (some bv)) (.agg (cV o.at')) false).run Tryz.prog x.1=.ok (vertV y) x.1):=fun x =>(TMap.lookup keysVid vertV_inj (HG4.o.verts.kept x.2 (by have:=HG4.o.verts.lt;intro e;cases e;omega)) Tryz.underlying115 (zero_vert _) o.at' trivial).trans (by rw [optV_eq,hy]);have hlk:=HLK.o;unfold vertV at hlk;clear HLK;have nwo:¬ wr.heap.size=w4.heap.size:=by omega
  have nwg:¬ b=w4.heap.size:=by omega
  have nwp:¬ w.heap.size=w4.heap.size:=by omega
  go_upto_region 8 with(first|(go_at_call 65;(with_reducible refine(pmakes_any o.kind _).mono ?_);rintro e w9 ⟨rfl,hw9⟩;obtain rfl:=hw9.symm;rw [HMK.o]))
  have hcur:World.grownBy w4 w4.drew (some w4.heap.size):=⟨rfl,rfl,rfl,Nat.le_refl _,fun _ _ _=>rfl⟩;refine wlex (C:=IsKept w4 (some w4.heap.size)) 9 [] (by kernel_rfl) (by kernel_rfl) (isKept_of hcur) ?_;simp only [Tsc,Tz,Dsc,Dz];repeat(first|refine lxq ?_|(refine lxl rfl ?_;go_wp2_with (first|fail);refine⟨isKept_of (by first|exact hcur|exact only_alloc hcur _),?_⟩))
  refine lxe ?_;clear hcur hlk;have hbx:=((Below.refl w4.heap.size w4).alloc (Nat.le_refl _) (.cells (cX y) 101)).drew;have HY7:Hid (Arr ((w4.alloc (.cells (cX y) 101)).drew) w4.heap.size [.int .u8 y.id.pid.author.toNat,.int .u16 y.id.pid.seq.toNat,.int .u8 y.id.n.toNat,.int .u8 y.kind.toNat,.int .u8 y.file.pid.author.toNat,.int .u16 y.file.pid.seq.toNat,.int .u8 y.file.n.toNat,.string y.text,.bool y.dead]):=(anw w4 (cX y) 101).drew;generalize (w4.alloc (.cells (cX y) 101)).drew=w7 at *;have y8:=HY7.o.k 8 rfl;have sy:=HY7.o.lt;have q8:=HY7.o.free 8;go_upto_region 10 with fail;have HY8:Hid (Arr (w7.setCell ⟨w4.heap.size,8,none⟩ (.bool true)) w4.heap.size [.int .u8 y.id.pid.author.toNat,.int .u16 y.id.pid.seq.toNat,.int .u8 y.id.n.toNat,.int .u8 y.kind.toNat,.int .u8 y.file.pid.author.toNat,.int .u16 y.file.pid.seq.toNat,.int .u8 y.file.n.toNat,.string y.text,.bool true]):=HY7.o.set 8 (.bool true);have hb8:=hbx.setCell (p:=⟨w4.heap.size,8,none⟩) (Nat.le_refl _) (.bool true);have HG8:=Lh (HG4.o.over hb8);have HP8:=Lh (HP4.o.over hb8);have HO8:=Lh (HO4.o.over hb8);have HB8:=Lh (HB4.o.over hb8);have nyv:¬ w4.heap.size=bv:=by have:=HG4.o.verts.lt;omega
  generalize w7.setCell ⟨w4.heap.size,8,none⟩ (.bool true)=w8 at *;clear hb8 hbx HY7 y8 sy q8 o0 o1 o2 o3 o4 o5 o6 o7 so p0 p1 p2 p3 sp g64 g65 sg HO4 HG4 HP4 HB4;obtain⟨o0,o1,o2,o3,o4,o5,o6,o7,so⟩:=HO8.o.c8;obtain⟨y0,y1,y2,y3,y4,y5,y6,y7,y8,sy⟩:=HY8.o.c9;have g64:=HG8.o.arr.cell (gCells_v _ bv be);have sg:=HG8.o.arr.lt;have hcur:World.grownBy w8 w8.drew (some bv):=⟨rfl,rfl,rfl,Nat.le_refl _,fun _ _ _=>rfl⟩;refine wlex (C:=IsKept w8 (some bv)) 8 [] (by kernel_rfl) (by kernel_rfl) (isKept_of hcur) ?_;simp only [Tsc,Tz,Dsc,Dz];repeat(first|refine lxq ?_|(refine lxl rfl ?_;go_wp2_with (first|((with_reducible show wpList _ _ _ ({dst:=_,op:=.mapUpdate _ _ _ _,type:=_,pos:=_,after:=_,guard:=_} :: _) _ _);refine wpList_tstore keysVid vertV_inj rfl _ _ _ _ rfl Tryz.underlying115 bv _ (VS k) rfl (HG8.o.verts.drew) HN.o (o.at') rfl trivial ((killV y)) rfl ?_;intro w5 hm5 hg5 hs5;replace hcur:=gtr hcur hg5));refine⟨isKept_of (by first|exact hcur|exact only_alloc hcur _),?_⟩))
  refine lxe ?_;have HG5:Hid (GrW w5 b bv be (n+(k+1)) (setV f id.author id.seq.toNat) (VS (k+1)) (ES (k+1))):=by show GrW _ _ _ _ _ _ _ _;rw [HSV.o,HSE.o];exact⟨HG8.o.arr.grown hcur (fun e=>n12 (Option.some.inj e)),hm5,(HG8.o.edges.kept hcur (fun e=>n32 (Option.some.inj e))).mono (by omega),n23⟩
  have HP5:=Lh (HP8.o.grown hcur (fun e=>npv (Option.some.inj e)));have HB5:=Lh (HB8.o.grown hcur (.inr (.inl rfl)));clear hm5 hg5 hs5 hcur;go_wp2;go_roundw
  case rel=>exact⟨k+1,hlt,by go_num,HG5,HP5,HB5⟩
  simp [intOf];omega
theorem gapply2_L(b:Nat)(L:List PatchM)(hw:WfG L)(p:PatchM)(dv ov:Value)(w:World)(bv be n:Nat)(hg:GrW w b bv be n (vecM L) (vertM L) (edgeM L))(hd:GRow encPid 2 w dv p.deps)(hv:GRow encOp 8 w ov p.ops)(hoa:Aside b bv be ov)(hl:p.ops.length≤40000)(hz:∀ o∈p.ops,o.text.size≤maxLen)(hn:n+p.ops.length≤4000000000)(hc:checkM L p=0) :
  Calls Tryz.prog 25 #[.pointer (some ⟨b,0,none⟩),patV p.id dv ov] w fun e w'=>e=.returned (.int .i64 0)∧GrW w' b bv be (n+p.ops.length) (vecM (L++[p])) (vertM (L++[p])) (edgeM (L++[p]))∧Bex b bv be w w':=by have hok:=check_ok hc;have hx:checkX (vecM L) (vertM L) p.id p.deps p.ops=0:=(checkX_eq hw p).trans hc;obtain⟨ha,_,_⟩:=next_parts (goodP_id hok.good) hok.next;refine(gapply2_any b bv be n (vecM L) (vertM L) (edgeM L) p.id dv ov p.deps p.ops _ _ w hg hw.vec hd hv hoa hl hz hn hx ha (by rw [nextF_eq];exact hok.next) (steps_ok hw hok)).mono ?_;rintro e w' ⟨rfl,hG',hb'⟩;have hG2:GrW w' b bv be (n+p.ops.length) (setV (vecM L) p.id.author p.id.seq.toNat) (vertM (L++[partP p p.ops.length])) (edgeM (L++[partP p p.ops.length])):=hG';rw [part_all,vec_step hok] at hG2;exact⟨rfl,hG2,hb'⟩
end Go.Proofs.YtjccmcgglfncdaaGreatDoor
namespace Go.Proofs.YtjccmcgglfncdaaGreatDoor
open Go
section
open Go.RowKit
variable{b be bv:Nat}{w:World}
def BexT(w:World)(b bv be:Nat):Type:={w':World // Bex b bv be w w'}
theorem bex_refl(w:World)(b bv be:Nat):Bex b bv be w w:=bex_of (Below.refl _ _)
instance (w:World) (b bv be:Nat):Nonempty (BexT w b bv be):=⟨⟨w,bex_refl _ _ _ _⟩⟩
def IsBex(w:World)(b bv be:Nat):World→Prop:=fun w'=>∃ x:BexT w b bv be,w'=x.1
@[go_sem] theorem isBex_all   {p:World→Prop}:(∀ w',IsBex w b bv be w'→p w')↔∀ x:BexT w b bv be,p x.1:=⟨fun h x=>h _ ⟨x,rfl⟩,fun h w' ⟨x,hx⟩=>hx▸h x⟩
@[simp,go_sem] theorem bexT_cell   (x:BexT w b bv be) {a:Addr} (h:a.block<w.heap.size) (n1:¬ a.block=b) (n2:¬ a.block=bv) (n3:¬ a.block=be):World.cell? x.1 a=w.cell? a:=x.2.cell h n1 n2 n3
@[simp,go_sem] theorem bexT_frozen   (x:BexT w b bv be) {a:Addr} (h:a.block<w.heap.size) (n1:¬ a.block=b) (n2:¬ a.block=bv) (n3:¬ a.block=be):World.frozen? x.1 a=w.frozen? a:=by have:=x.2.block _ h n1 n2 n3;unfold World.frozen?;rw [this]
theorem Bex.trans{w1 w2:World}(h:Bex b bv be w w1)(h':Bex b bv be w1 w2):Bex b bv be w w2:=
 ⟨h'.os.trans h.os,h'.tape.trans h.tape,h'.output.trans h.output,Nat.le_trans h.size h'.size,fun k hk n1 n2 n3=>(h'.block k (Nat.lt_of_lt_of_le hk h.size) n1 n2 n3).trans (h.block k hk n1 n2 n3)⟩
end
theorem rcB_total{a b:ByteArray}(h:ltB a b=false)(h':a≠b):ltB b a=true:=by
 have h1:¬ a.toList<b.toList:=fun q=>by rw [rcB_iff.2 q] at h;cases h
 rw [rcB_iff];have h2:a.toList≠b.toList:=fun q=>h' (ba_list.1 q);rcases List.le_iff_lt_or_eq.1 (List.not_lt.1 h1) with q|q
 · exact q
 exact absurd q.symm h2
structure FlawM where
 kind:UInt8
 file:VidM
deriving DecidableEq
noncomputable def flawsN(L:List PatchM)(n:NameM):List FlawM:=(if 0<oddN L n then [⟨1,n.file⟩] else [])++n.flaws.map fun k=>⟨k,n.file⟩
noncomputable def flawsM(L:List PatchM):List FlawM:=(allM L).flatMap (flawsN L)
theorem flawsM_nil(L:List PatchM):decide (flawsM L=[])=cleanM L:=by
 unfold cleanM flawsM;rw [Bool.eq_iff_iff,decide_eq_true_eq,List.flatMap_eq_nil_iff,List.all_eq_true];refine forall_congr' fun n=>forall_congr' fun _ => ?_;unfold flawsN;rw [List.append_eq_nil_iff,List.map_eq_nil_iff,Bool.and_eq_true,decide_eq_true_eq,decide_eq_true_eq];refine and_congr ?_ Iff.rfl
 by_cases h:0<oddN L n
 · rw [if_pos h];exact⟨fun q=>(by cases q),fun q=>(by omega)⟩
 rw [if_neg h];exact⟨fun _=>(by omega),fun _=>rfl⟩
end Go.Proofs.YtjccmcgglfncdaaGreatDoor
