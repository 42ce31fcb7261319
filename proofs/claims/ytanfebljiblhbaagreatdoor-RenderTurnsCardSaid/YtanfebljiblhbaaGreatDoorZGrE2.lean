/- Contract of (*Graph).Apply where the patch lies above the graph: all blocks but the graph's three are as they were. -/
import Derived.Test.YtanfebljiblhbaaGreatDoorZRefF
set_option linter.unusedVariables false
set_option linter.unusedSimpArgs false
namespace Go.Proofs.YtanfebljiblhbaaGreatDoor
open Go Go.RowKit

/-- all blocks of w but three are as they were -/
structure Bex (b bv be:Nat) (w w':World):Prop where
 os:w'.os=w.os
 tape:w'.tape=w.tape
 output:w'.output=w.output
 size:w.heap.size≤w'.heap.size
 block:∀ k,k<w.heap.size→k≠b→k≠bv→k≠be→w'.heap[k]? = w.heap[k]?
section
variable {b bv be : Nat} {w w1 w2 : World}
theorem bex_of(h:Below w.heap.size w w1):Bex b bv be w w1:=⟨h.os,h.tape,h.output,h.size,fun k hk _ _ _=>h.block k hk⟩
theorem Bex.over(h:Bex b bv be w w1)(hb:Below w1.heap.size w1 w2):Bex b bv be w w2:=
 ⟨hb.os.trans h.os,hb.tape.trans h.tape,hb.output.trans h.output,Nat.le_trans h.size hb.size,fun k hk n1 n2 n3=>(hb.block k (Nat.lt_of_lt_of_le hk h.size)).trans (h.block k hk n1 n2 n3)⟩
theorem Bex.grown{r:Option Nat}(h:Bex b bv be w w1)(hg:w1.grownBy w2 r)(hr:r=some b∨r=some bv∨r=some be):Bex b bv be w w2:=by
 refine⟨hg.os.trans h.os,hg.tape.trans h.tape,hg.output.trans h.output,Nat.le_trans h.size hg.size,fun k hk n1 n2 n3=>(hg.block k (Nat.lt_of_lt_of_le hk h.size) ?_).trans (h.block k hk n1 n2 n3)⟩
 intro e
 rcases hr with e2|e2|e2 <;> rw [← e] at e2 <;> cases e2
 ·
  exact n1 rfl
 ·
  exact n2 rfl
 ·
  exact n3 rfl
theorem Bex.alloc(h:Bex b bv be w w1)(o:Obj):Bex b bv be w (w1.alloc o):=h.over (below_new o)
theorem Bex.cell(h:Bex b bv be w w1){p:Addr}(hp:p.block<w.heap.size)(n1:p.block≠b)(n2:p.block≠bv)(n3:p.block≠be):w1.cell? p=w.cell? p:=World.cell?_of_block (w:=w) (h.block p.block hp n1 n2 n3)
/-- a row that lies apart from the three -/
def Aside(b bv be:Nat)(v:Value):Prop:=∀ k,v.ownBlock=some k→k≠b∧k≠bv∧k≠be
theorem Row.bex{v:Value}{n sz:Nat}{cs:List Value}(h:Row w v n sz cs)(ha:Aside b bv be v)(hx:Bex b bv be w w1):Row w1 v n sz cs:=by
 obtain⟨h0,a,cap,rfl,h1,h2,h3,h4⟩:=h
 refine⟨h0,a,cap,rfl,h1,h2,h3,fun hp => ?_⟩
 obtain⟨g,off,rfl,hg,hc⟩:=h4 hp
 obtain⟨n1,n2,n3⟩:=ha g rfl
 refine⟨g,off,rfl,Nat.lt_of_lt_of_le hg hx.size,fun j u hu => ?_⟩
 rw [hx.cell (p:=⟨g,off+j,none⟩) hg n1 n2 n3]
 exact hc j u hu
theorem Arr.bex{g:Nat}{cs:List Value}(h:Arr w g cs)(n1:g≠b)(n2:g≠bv)(n3:g≠be)(hx:Bex b bv be w w1):Arr w1 g cs:=by
 have hl:=h.lt
 obtain⟨e,h⟩:=h
 exact⟨e,by rw [hx.block g hl n1 n2 n3];exact h⟩
theorem grow_atB{α:Type}{enc:α→List Value}{sz:Nat}{v:Value}{xs:List α}(hf:∀ x,(enc x).length=sz)(h:GRow enc sz w v xs)(ha:Aside b bv be v):∃ a cap,v=.slice a xs.length cap∧xs.length≤cap∧cap≤maxLen∧(xs.length=0∨∃ g off,a=some ⟨g,off,none⟩∧g<w.heap.size ∧
  ∀ i x,xs[i]? = some x→∀ W,Bex b bv be w W→g<W.heap.size∧∀ j u,(enc x)[j]? = some u→W.cell? ⟨g,off+i*sz+j,none⟩=some u):=by
 obtain⟨a,cap,rfl,h1,h2,h3⟩:=h.at hf
 refine⟨a,cap,rfl,h1,h2,h3.imp id ?_⟩
 rintro⟨g,off,rfl,h4,h5⟩
 obtain⟨n1,n2,n3⟩:=ha g rfl
 refine⟨g,off,rfl,h4,fun i x hx W hW=>⟨Nat.lt_of_lt_of_le h4 hW.size,fun j u hu => ?_⟩⟩
 rw [hW.cell (p:=⟨g,off+i*sz+j,none⟩) h4 n1 n2 n3]
 exact(h5 i x hx w (Below.refl _ _)).2 j u hu
end
def Ap2(w0:World)(b bv be m:Nat)(f:VecM)(vs:VidM→Option VertM)(es:EdgeM→Option VidM)(e:Ending)(w':World):Prop:=
 e=.returned (.int .i64 0)∧GrW w' b bv be m f vs es∧Bex b bv be w0 w'
attribute [local irreducible] vecL lookX madeX optV refsK isK goodQ hasF nextF checkX refsO
set_option maxHeartbeats 16000000 in
set_option maxRecDepth 100000 in
theorem gapply2_any(b bv be n:Nat)(f:VecM)(vs:VidM→Option VertM)(es:EdgeM→Option VidM)(id:PidM)(dv ov:Value)(deps:List PidM)(ops:List OpM)(VS:Nat→VidM→Option VertM)(ES:Nat→EdgeM→Option VidM)
  (w:World) (hg:GrW w b bv be n f vs es) (hf:∀ a,f a≤60000) (hd:GRow encPid 2 w dv deps) (hv:GRow encOp 8 w ov ops) (hoa:Aside b bv be ov) (hl:ops.length≤40000) (hz:∀ o∈ops,o.text.size≤maxLen)
  (hn:n+ops.length≤4000000000) (hok:checkX f vs id deps ops=0) (hau:authorOk id.author=true) (hnx:nextF f id.author=id) (hst:Steps VS ES vs es id ops) :
  Calls Tryz.prog 33 #[.pointer (some ⟨b,0,none⟩),patV id dv ov] w (Ap2 w b bv be (n+ops.length) (setV f id.author id.seq.toNat) (VS ops.length) (ES ops.length)):=by
 have HV:=Lib.hid hv
 have HVB:=Lib.hid hv
 have HOA:=Lib.hid hoa
 have HD:=Lib.hid hd
 have HF:=Lib.hid hf
 have HZ:=Lib.hid hz
 have HOK:=Lib.hid hok
 have HAU:=Lib.hid hau
 have HNX:=Lib.hid hnx
 have HST:=Lib.hid hst
 have HG0:=Lib.hid hg
 obtain⟨a,cap,rfl,h1,h2,hc⟩:=grow_atB encOp_len hv hoa
 unfold maxLen at h2
 have HC:=Lib.hid hc
 have l1:=hg.arr.lt
 have l2:=hg.verts.lt
 have l3:=hg.edges.lt
 have n12:¬ b=bv:=fun e=>hg.verts.ne_arr hg.arr e
 have n13:¬ b=be:=fun e=>hg.edges.ne_arr hg.arr e
 have n23:¬ bv=be:=hg.ne
 have n21:¬ bv=b:=fun e=>n12 e.symm
 have n31:¬ be=b:=fun e=>n13 e.symm
 have n32:¬ be=bv:=fun e=>n23 e.symm
 have HP:=Lib.hid (arr_new w #[.int .u8 id.author.toNat,.int .u16 id.seq.toNat,dv,.slice a ops.length cap] 71)
 have HB:=Lib.hid (below_new (w:=w) (.cells #[.int .u8 id.author.toNat,.int .u16 id.seq.toNat,dv,.slice a ops.length cap] 71))
 clear hv hc hg hd hf hz hok hau hnx hst hoa
 unfold patV
 go_enter Tryz.func33,Tryz.ntmps33
 go_upto_region 1 with(fail)
 generalize hw0:w.alloc (.cells #[.int .u8 id.author.toNat,.int .u16 id.seq.toNat,dv,.slice a ops.length cap] 71)=w0 at *
 clear hw0
 have p0:=HP.out.cell (j:=0) rfl
 have p1:=HP.out.cell (j:=1) rfl
 have p2:=HP.out.cell (j:=2) rfl
 have p3:=HP.out.cell (j:=3) rfl
 have sp:=HP.out.lt
 go_upto_region 4 with(first|(go_at_call 64;(with_reducible refine(gcheck_any b bv be n f vs es id _ _ deps ops _ (HG0.out.over HB.out) HF.out (HD.out.over HB.out) (HV.out.over HB.out) hl HZ.out).mono ?_);rintro e w1 ⟨rfl,hb⟩;rw [HOK.out]))
 have HP1:=Lib.hid (HP.out.over hb)
 have HB1:=Lib.hid (below_over HB.out HB.out.size hb)
 have HG1:=Lib.hid (HG0.out.over HB1.out)
 have HGA:Hid (Arr w1 b (vecL f++[.map (some bv),.map (some be)])):=HG1.out.arr
 have HBb:Hid (Bex b bv be w w1):=Lib.hid (bex_of HB1.out)
 have nbp:¬ w.heap.size=b:=by omega
 have npv:¬ w.heap.size=bv:=by omega
 have npe:¬ w.heap.size=be:=by omega
 clear p0 p1 p2 p3 sp HP HG0 HB hb
 have p0:=HP1.out.cell (j:=0) rfl
 have p1:=HP1.out.cell (j:=1) rfl
 have p2:=HP1.out.cell (j:=2) rfl
 have p3:=HP1.out.cell (j:=3) rfl
 have sp:=HP1.out.lt
 have sb:=HGA.out.lt
 have hcur:World.grownBy w1 w1.drew (some b):=⟨rfl,rfl,rfl,Nat.le_refl _,fun _ _ _=>rfl⟩
 refine wp_region_lex (C:=IsKept w1 (some b)) 14 [4] (by kernel_rfl) (by kernel_rfl) (isKept_of hcur) ?_
 simp only [List.take_succ_cons,List.take_zero,List.drop_succ_cons,List.drop_zero]
 repeat(first|(refine lex_skip rfl rfl ?_;simp only [Act.put,List.setIfInBounds_toArray,List.set_cons_succ,List.set_cons_zero])|(refine lex_one rfl ?_;go_big_quiet_step (fail);refine wpQuiet_nil ?_)|(refine lex_loud rfl ?_;go_wp2_with (first|((with_reducible show wpList _ _ _ ({dst:=_,op:=.load _ _,type:=_,pos:=_,after:=_,guard:=_} :: _) _ _);refine wpList_load_part agg_vec size_vec rfl _ rfl b (vecL f) [.map (some bv),.map (some be)] HGA.out.drew rfl (vecL_len f) ?_)|(go_at_call 65;(with_reducible refine(pput_any f HF.out id _ HAU.out HNX.out).mono ?_);rintro e w2 ⟨rfl,hb⟩;replace hcur:=grown_trans hcur (grown_of_below hb);have HGB:Hid (Arr w2 b (vecL f++[.map (some bv),.map (some be)])):=HGA.out.drew.over hb;clear hb)|((with_reducible show wpList _ _ _ ({dst:=_,op:=.store _ _ _,type:=_,pos:=_,after:=_,guard:=_} :: _) _ _);refine wpList_store_part rowVec rfl _ _ rfl b (vecL f) [.map (some bv),.map (some be)] (vecL (setV f id.author id.seq.toNat)) HGB.out rfl rfl (vecL_len _) (vecL_len _) (vecL_one _) ?_;intro HA3 hg3 hs3;replace hcur:=grown_trans hcur hg3));refine⟨isKept_of (by first|exact hcur|exact only_alloc hcur _),?_⟩))
 refine lex_end ?_
 generalize hw3:w2.setRow b (vecL (setV f id.author id.seq.toNat)++([.map (some bv),.map (some be)]:List Value)).toArray=w3 at *
 have HG3:Hid (GrW w3 b bv be n (setV f id.author id.seq.toNat) vs es):=⟨HA3,HG1.out.verts.kept hcur (fun e=>n21 (Option.some.inj e)),HG1.out.edges.kept hcur (fun e=>n31 (Option.some.inj e)),n23⟩
 have HP3:=Lib.hid (HP1.out.grown hcur (fun e=>nbp (Option.some.inj e)))
 have HB3:=Lib.hid (HBb.out.grown hcur (.inl rfl))
 clear hw3 HA3 hg3 hs3 hcur HGA HGB HG1 HBb HP1 sb p0 p1 p2 p3 sp HF HD HZ HOK HAU HNX HB1
 have p0:=HP3.out.cell (j:=0) rfl
 have p1:=HP3.out.cell (j:=1) rfl
 have p2:=HP3.out.cell (j:=2) rfl
 have p3:=HP3.out.cell (j:=3) rfl
 have sp:=HP3.out.lt
 go_wp2_with fail
 go_loopw [32] (fun v32 wr=>∃ k:Nat,k≤ops.length∧v32=.int .i64 k∧Hid (GrW wr b bv be (n+k) (setV f id.author id.seq.toNat) (VS k) (ES k))∧Hid (Arr wr w.heap.size [.int .u8 id.author.toNat,.int .u16 id.seq.toNat,dv,.slice a ops.length cap])∧Hid (Bex b bv be w wr)) (fun v32 _=>ops.length - (intOf v32).toNat)
 case atStart=>exact⟨0,by omega,rfl,(by show GrW _ _ _ _ _ _ _ _;rw [HST.out.v0,HST.out.e0];exact HG3.out),HP3,HB3⟩
 case round =>
  obtain⟨k,hk,rfl,HGr,HPr,HBr⟩:=hrel
  clear p0 p1 p2 p3 sp HG3 HP3 HB3
  by_cases hlt:k<ops.length
  ·
   obtain⟨bo,offo,rfl,sbo,hcb⟩:=HC.out.resolve_left (by omega)
   obtain⟨o,hok⟩:=get_of_lt hlt
   have HX:=Lib.hid hok
   have HRo:=Lib.hid (hcb k o hok wr HBr.out)
   have HN:Hid (n+k<maxLen):=Lib.hid (by unfold maxLen;omega)
   clear hcb hok
   have o0:wr.cell? ⟨bo,offo+k*8,none⟩=some (.int .u8 o.kind.toNat):=(HRo.out).2 0 _ rfl
   have o1:wr.cell? ⟨bo,offo+k*8+1,none⟩=some (.int .u8 o.at'.pid.author.toNat):=(HRo.out).2 1 _ rfl
   have o2:wr.cell? ⟨bo,offo+k*8+2,none⟩=some (.int .u16 o.at'.pid.seq.toNat):=(HRo.out).2 2 _ rfl
   have o3:wr.cell? ⟨bo,offo+k*8+3,none⟩=some (.int .u8 o.at'.n.toNat):=(HRo.out).2 3 _ rfl
   have o4:wr.cell? ⟨bo,offo+k*8+4,none⟩=some (.int .u8 o.to.pid.author.toNat):=(HRo.out).2 4 _ rfl
   have o5:wr.cell? ⟨bo,offo+k*8+5,none⟩=some (.int .u16 o.to.pid.seq.toNat):=(HRo.out).2 5 _ rfl
   have o6:wr.cell? ⟨bo,offo+k*8+6,none⟩=some (.int .u8 o.to.n.toNat):=(HRo.out).2 6 _ rfl
   have o7:wr.cell? ⟨bo,offo+k*8+7,none⟩=some (.string o.text):=(HRo.out).2 7 _ rfl
   have so:=HRo.out.1
   go_upto_region 11 with(fail)
   have HO4:=Lib.hid (arr_new wr #[.int .u8 o.kind.toNat,.int .u8 o.at'.pid.author.toNat,.int .u16 o.at'.pid.seq.toNat,.int .u8 o.at'.n.toNat,.int .u8 o.to.pid.author.toNat,.int .u16 o.to.pid.seq.toNat,.int .u8 o.to.n.toNat,.string o.text] 96)
   have HG4:=Lib.hid (HGr.out.over (below_new (.cells #[.int .u8 o.kind.toNat,.int .u8 o.at'.pid.author.toNat,.int .u16 o.at'.pid.seq.toNat,.int .u8 o.at'.n.toNat,.int .u8 o.to.pid.author.toNat,.int .u16 o.to.pid.seq.toNat,.int .u8 o.to.n.toNat,.string o.text] 96)))
   have HP4:=Lib.hid (HPr.out.alloc (.cells #[.int .u8 o.kind.toNat,.int .u8 o.at'.pid.author.toNat,.int .u16 o.at'.pid.seq.toNat,.int .u8 o.at'.n.toNat,.int .u8 o.to.pid.author.toNat,.int .u16 o.to.pid.seq.toNat,.int .u8 o.to.n.toNat,.string o.text] 96))
   have HB4:=Lib.hid (HBr.out.alloc (.cells #[.int .u8 o.kind.toNat,.int .u8 o.at'.pid.author.toNat,.int .u16 o.at'.pid.seq.toNat,.int .u8 o.at'.n.toNat,.int .u8 o.to.pid.author.toNat,.int .u16 o.to.pid.seq.toNat,.int .u8 o.to.n.toNat,.string o.text] 96))
   have m1:=HGr.out.arr.lt
   have m2:=HGr.out.verts.lt
   have m3:=HGr.out.edges.lt
   have m4:=HPr.out.lt
   have nob:¬ wr.heap.size=b:=by omega
   have nov:¬ wr.heap.size=bv:=by omega
   have noe:¬ wr.heap.size=be:=by omega
   generalize hw4:wr.alloc (.cells #[.int .u8 o.kind.toNat,.int .u8 o.at'.pid.author.toNat,.int .u16 o.at'.pid.seq.toNat,.int .u8 o.at'.n.toNat,.int .u8 o.to.pid.author.toNat,.int .u16 o.to.pid.seq.toNat,.int .u8 o.to.n.toNat,.string o.text] 96)=w4 at *
   clear hw4 o0 o1 o2 o3 o4 o5 o6 o7 so HGr HPr HRo
   have o0:=HO4.out.cell (j:=0) rfl
   have o1:=HO4.out.cell (j:=1) rfl
   have o2:=HO4.out.cell (j:=2) rfl
   have o3:=HO4.out.cell (j:=3) rfl
   have o4:=HO4.out.cell (j:=4) rfl
   have o5:=HO4.out.cell (j:=5) rfl
   have o6:=HO4.out.cell (j:=6) rfl
   have o7:=HO4.out.cell (j:=7) rfl
   have so:=HO4.out.lt
   have p0:=HP4.out.cell (j:=0) rfl
   have p1:=HP4.out.cell (j:=1) rfl
   have p2:=HP4.out.cell (j:=2) rfl
   have p3:=HP4.out.cell (j:=3) rfl
   have sp:=HP4.out.lt
   have g64:=HG4.out.arr.cell (gCells_v _ bv be)
   have g65:=HG4.out.arr.cell (gCells_e _ bv be)
   have sg:=HG4.out.arr.lt
   cases hm:makesB o.kind with
   | true =>
    have HMK:=Lib.hid hm
    have hsv:=(HST.out.vk k o HX.out).trans (by unfold stepV;rw [if_pos hm]:_=updM (VS k) (madeX id k o).id (madeX id k o))
    have HSE:=Lib.hid ((HST.out.ek k o HX.out).trans (by unfold stepE;rw [if_pos hm]:_=ES k))
    clear hm
    generalize hx:madeX id k o=x at *
    have HSV:=Lib.hid hsv
    have HV4:Hid (GRow encOp 8 w4 _ ops):=Lib.hid (Row.bex HVB.out HOA.out HB4.out)
    clear hsv
    go_upto_region 13 with(first|(go_at_call 66;(with_reducible refine(pmakes_any o.kind _).mono ?_);rintro e w9 ⟨rfl,hw9⟩;obtain rfl:=hw9.symm;rw [HMK.out])|(go_at_call 67;(with_reducible refine(hx▸gmade_any id _ _ ops k o _ HV4.out HX.out hl).mono ?_);rintro e w6 ⟨rfl,hb⟩))
    have hbx:=hb.alloc hb.size (.cells #[.int .u8 x.id.pid.author.toNat,.int .u16 x.id.pid.seq.toNat,.int .u8 x.id.n.toNat,.int .u8 x.kind.toNat,.int .u8 x.file.pid.author.toNat,.int .u16 x.file.pid.seq.toNat,.int .u8 x.file.n.toNat,.string x.text,.bool x.dead] 86)
    have HX7:=Lib.hid (arr_new w6 #[.int .u8 x.id.pid.author.toNat,.int .u16 x.id.pid.seq.toNat,.int .u8 x.id.n.toNat,.int .u8 x.kind.toNat,.int .u8 x.file.pid.author.toNat,.int .u16 x.file.pid.seq.toNat,.int .u8 x.file.n.toNat,.string x.text,.bool x.dead] 86)
    have HG7:=Lib.hid (HG4.out.over hbx)
    have HP7:=Lib.hid (HP4.out.over hbx)
    have HB7:=Lib.hid (HB4.out.over hbx)
    have nxv:¬ w6.heap.size=bv:=by have:=hb.size;have:=HG4.out.verts.lt;omega
    generalize hw7:w6.alloc (.cells #[.int .u8 x.id.pid.author.toNat,.int .u16 x.id.pid.seq.toNat,.int .u8 x.id.n.toNat,.int .u8 x.kind.toNat,.int .u8 x.file.pid.author.toNat,.int .u16 x.file.pid.seq.toNat,.int .u8 x.file.n.toNat,.string x.text,.bool x.dead] 86)=w7 at *
    clear hw7 hb hbx o0 o1 o2 o3 o4 o5 o6 o7 so p0 p1 p2 p3 sp g64 g65 sg HO4 HG4 HP4 HB4
    have x0:=HX7.out.cell (j:=0) rfl
    have x1:=HX7.out.cell (j:=1) rfl
    have x2:=HX7.out.cell (j:=2) rfl
    have x3:=HX7.out.cell (j:=3) rfl
    have x4:=HX7.out.cell (j:=4) rfl
    have x5:=HX7.out.cell (j:=5) rfl
    have x6:=HX7.out.cell (j:=6) rfl
    have x7:=HX7.out.cell (j:=7) rfl
    have x8:=HX7.out.cell (j:=8) rfl
    have sx:=HX7.out.lt
    have g64:=HG7.out.arr.cell (gCells_v _ bv be)
    have sg:=HG7.out.arr.lt
    have hcur:World.grownBy w7 w7.drew (some bv):=⟨rfl,rfl,rfl,Nat.le_refl _,fun _ _ _=>rfl⟩
    refine wp_region_lex (C:=IsKept w7 (some bv)) 8 [] (by kernel_rfl) (by kernel_rfl) (isKept_of hcur) ?_
    simp only [List.take_succ_cons,List.take_zero,List.drop_succ_cons,List.drop_zero]
    repeat(first|(refine lex_skip rfl rfl ?_;simp only [Act.put,List.setIfInBounds_toArray,List.set_cons_succ,List.set_cons_zero])|(refine lex_one rfl ?_;go_big_quiet_step (fail);refine wpQuiet_nil ?_)|(refine lex_loud rfl ?_;go_wp2_with (first|((with_reducible show wpList _ _ _ ({dst:=_,op:=.mapUpdate _ _ _ _,type:=_,pos:=_,after:=_,guard:=_} :: _) _ _);refine wpList_tstore keysVid vertV_inj rfl _ _ _ _ rfl Tryz.underlying132 bv _ (VS k) rfl (HG7.out.verts.drew) HN.out (x.id) rfl trivial (x) rfl ?_;intro w5 hm5 hg5 hs5;replace hcur:=grown_trans hcur hg5));refine⟨isKept_of (by first|exact hcur|exact only_alloc hcur _),?_⟩))
    refine lex_end ?_
    have HG5:Hid (GrW w5 b bv be (n+(k+1)) (setV f id.author id.seq.toNat) (VS (k+1)) (ES (k+1))):=by
     show GrW _ _ _ _ _ _ _ _
     rw [HSV.out,HSE.out]
     exact⟨HG7.out.arr.grown hcur (fun e=>n12 (Option.some.inj e)),hm5,(HG7.out.edges.kept hcur (fun e=>n32 (Option.some.inj e))).mono (by omega),n23⟩
    have HP5:=Lib.hid (HP7.out.grown hcur (fun e=>npv (Option.some.inj e)))
    have HB5:=Lib.hid (HB7.out.grown hcur (.inr (.inl rfl)))
    clear hm5 hg5 hs5 hcur
    go_wp2_with fail
    go_roundw
    case rel=>exact⟨k+1,hlt,by go_num,HG5,HP5,HB5⟩
    case measure=>simp [intOf];omega
   | false =>
    have HMK:=Lib.hid hm
    by_cases h4:o.kind.toNat=4
    ·
     have e4:((o.kind.toNat:Int) == 4)=true:=by simp;omega
     generalize hy:optV (VS k o.at')=y at *
     have HSV:=Lib.hid ((HST.out.vk k o HX.out).trans (by unfold stepV;rw [if_neg (by rw [hm];simp),if_pos h4]:_=VS k))
     have HSE:=Lib.hid ((HST.out.ek k o HX.out).trans (by unfold stepE;rw [if_neg (by rw [hm];simp),if_pos h4,hy]:_=updM (ES k) (o.at',o.to) y.file))
     clear hm h4
     have HLK:Hid (∀ x:Kept w4 (some be),(Instr.lookup 132 (.map (some bv)) (.agg #[.int .u8 o.at'.pid.author.toNat,.int .u16 o.at'.pid.seq.toNat,.int .u8 o.at'.n.toNat]) false).run Tryz.prog x.1=.ok (vertV y) x.1):=fun x =>
      (TMap.lookup keysVid vertV_inj (HG4.out.verts.kept x.2 (fun e=>n23 (Option.some.inj e))) Tryz.underlying132 (zero_vert _) o.at' trivial).trans (by rw [optV_eq,hy])
     have hlk:=HLK.out
     unfold vertV at hlk
     have hff:=field_file y
     clear HLK
     go_upto_region 15 with(first|(go_at_call 66;(with_reducible refine(pmakes_any o.kind _).mono ?_);rintro e w9 ⟨rfl,hw9⟩;obtain rfl:=hw9.symm;rw [HMK.out]))
     have hcur:World.grownBy w4 w4.drew (some be):=⟨rfl,rfl,rfl,Nat.le_refl _,fun _ _ _=>rfl⟩
     refine wp_region_lex (C:=IsKept w4 (some be)) 18 [] (by kernel_rfl) (by kernel_rfl) (isKept_of hcur) ?_
     simp only [List.take_succ_cons,List.take_zero,List.drop_succ_cons,List.drop_zero]
     repeat(first|(refine lex_skip rfl rfl ?_;simp only [Act.put,List.setIfInBounds_toArray,List.set_cons_succ,List.set_cons_zero])|(refine lex_one rfl ?_;go_big_quiet_step (fail);refine wpQuiet_nil ?_)|(refine lex_loud rfl ?_;go_wp2_with (first|((with_reducible show wpList _ _ _ ({dst:=_,op:=.mapUpdate _ _ _ _,type:=_,pos:=_,after:=_,guard:=_} :: _) _ _);refine wpList_tstore keysEdge vidV_inj rfl _ _ _ _ rfl Tryz.underlying133 be _ (ES k) rfl (HG4.out.edges.drew) HN.out ((o.at',o.to)) rfl trivial (y.file) rfl ?_;intro w5 hm5 hg5 hs5;replace hcur:=grown_trans hcur hg5));refine⟨isKept_of (by first|exact hcur|exact only_alloc hcur _),?_⟩))
     refine lex_end ?_
     have HG5:Hid (GrW w5 b bv be (n+(k+1)) (setV f id.author id.seq.toNat) (VS (k+1)) (ES (k+1))):=by
      show GrW _ _ _ _ _ _ _ _
      rw [HSV.out,HSE.out]
      exact⟨HG4.out.arr.grown hcur (fun e=>n13 (Option.some.inj e)),(HG4.out.verts.kept hcur (fun e=>n23 (Option.some.inj e))).mono (by omega),hm5,n23⟩
     have HP5:=Lib.hid (HP4.out.grown hcur (fun e=>npe (Option.some.inj e)))
     have HB5:=Lib.hid (HB4.out.grown hcur (.inr (.inr rfl)))
     clear hm5 hg5 hs5 hcur hlk
     go_wp2_with fail
     go_roundw
     case rel=>exact⟨k+1,hlt,by go_num,HG5,HP5,HB5⟩
     case measure=>simp [intOf];omega
    ·
     have e4:((o.kind.toNat:Int) == 4)=false:=by simp;omega
     generalize hy:optV (VS k o.at')=y at *
     have HSV:=Lib.hid ((HST.out.vk k o HX.out).trans (by unfold stepV;rw [if_neg (by rw [hm];simp),if_neg h4,hy]:_=updM (VS k) o.at' (killV y)))
     have HSE:=Lib.hid ((HST.out.ek k o HX.out).trans (by unfold stepE;rw [if_neg (by rw [hm];simp),if_neg h4]:_=ES k))
     clear hm h4
     have HLK:Hid (∀ x:Kept w4 (some w4.heap.size),(Instr.lookup 132 (.map (some bv)) (.agg #[.int .u8 o.at'.pid.author.toNat,.int .u16 o.at'.pid.seq.toNat,.int .u8 o.at'.n.toNat]) false).run Tryz.prog x.1=.ok (vertV y) x.1):=fun x =>
      (TMap.lookup keysVid vertV_inj (HG4.out.verts.kept x.2 (by have:=HG4.out.verts.lt;intro e;cases e;omega)) Tryz.underlying132 (zero_vert _) o.at' trivial).trans (by rw [optV_eq,hy])
     have hlk:=HLK.out
     unfold vertV at hlk
     clear HLK
     have nwo:¬ wr.heap.size=w4.heap.size:=by omega
     have nwg:¬ b=w4.heap.size:=by omega
     have nwp:¬ w.heap.size=w4.heap.size:=by omega
     go_upto_region 8 with(first|(go_at_call 66;(with_reducible refine(pmakes_any o.kind _).mono ?_);rintro e w9 ⟨rfl,hw9⟩;obtain rfl:=hw9.symm;rw [HMK.out]))
     have hcur:World.grownBy w4 w4.drew (some w4.heap.size):=⟨rfl,rfl,rfl,Nat.le_refl _,fun _ _ _=>rfl⟩
     refine wp_region_lex (C:=IsKept w4 (some w4.heap.size)) 9 [] (by kernel_rfl) (by kernel_rfl) (isKept_of hcur) ?_
     simp only [List.take_succ_cons,List.take_zero,List.drop_succ_cons,List.drop_zero]
     repeat(first|(refine lex_skip rfl rfl ?_;simp only [Act.put,List.setIfInBounds_toArray,List.set_cons_succ,List.set_cons_zero])|(refine lex_one rfl ?_;go_big_quiet_step (fail);refine wpQuiet_nil ?_)|(refine lex_loud rfl ?_;go_wp2_with (first|fail);refine⟨isKept_of (by first|exact hcur|exact only_alloc hcur _),?_⟩))
     refine lex_end ?_
     clear hcur hlk
     have hbx:=((Below.refl w4.heap.size w4).alloc (Nat.le_refl _) (.cells #[.int .u8 y.id.pid.author.toNat,.int .u16 y.id.pid.seq.toNat,.int .u8 y.id.n.toNat,.int .u8 y.kind.toNat,.int .u8 y.file.pid.author.toNat,.int .u16 y.file.pid.seq.toNat,.int .u8 y.file.n.toNat,.string y.text,.bool y.dead] 86)).drew
     have HY7:Hid (Arr ((w4.alloc (.cells #[.int .u8 y.id.pid.author.toNat,.int .u16 y.id.pid.seq.toNat,.int .u8 y.id.n.toNat,.int .u8 y.kind.toNat,.int .u8 y.file.pid.author.toNat,.int .u16 y.file.pid.seq.toNat,.int .u8 y.file.n.toNat,.string y.text,.bool y.dead] 86)).drew) w4.heap.size [.int .u8 y.id.pid.author.toNat,.int .u16 y.id.pid.seq.toNat,.int .u8 y.id.n.toNat,.int .u8 y.kind.toNat,.int .u8 y.file.pid.author.toNat,.int .u16 y.file.pid.seq.toNat,.int .u8 y.file.n.toNat,.string y.text,.bool y.dead]):=(arr_new w4 #[.int .u8 y.id.pid.author.toNat,.int .u16 y.id.pid.seq.toNat,.int .u8 y.id.n.toNat,.int .u8 y.kind.toNat,.int .u8 y.file.pid.author.toNat,.int .u16 y.file.pid.seq.toNat,.int .u8 y.file.n.toNat,.string y.text,.bool y.dead] 86).drew
     generalize hw7:(w4.alloc (.cells #[.int .u8 y.id.pid.author.toNat,.int .u16 y.id.pid.seq.toNat,.int .u8 y.id.n.toNat,.int .u8 y.kind.toNat,.int .u8 y.file.pid.author.toNat,.int .u16 y.file.pid.seq.toNat,.int .u8 y.file.n.toNat,.string y.text,.bool y.dead] 86)).drew=w7 at *
     have y8:=HY7.out.cell (j:=8) rfl
     have sy:=HY7.out.lt
     have q8:=HY7.out.free 8
     go_upto_region 10 with(fail)
     have HY8:Hid (Arr (w7.setCell ⟨w4.heap.size,8,none⟩ (.bool true)) w4.heap.size [.int .u8 y.id.pid.author.toNat,.int .u16 y.id.pid.seq.toNat,.int .u8 y.id.n.toNat,.int .u8 y.kind.toNat,.int .u8 y.file.pid.author.toNat,.int .u16 y.file.pid.seq.toNat,.int .u8 y.file.n.toNat,.string y.text,.bool true]):=HY7.out.set 8 (.bool true)
     have hb8:=hbx.setCell (p:=⟨w4.heap.size,8,none⟩) (Nat.le_refl _) (.bool true)
     have HG8:=Lib.hid (HG4.out.over hb8)
     have HP8:=Lib.hid (HP4.out.over hb8)
     have HO8:=Lib.hid (HO4.out.over hb8)
     have HB8:=Lib.hid (HB4.out.over hb8)
     have nyv:¬ w4.heap.size=bv:=by have:=HG4.out.verts.lt;omega
     generalize hw8:w7.setCell ⟨w4.heap.size,8,none⟩ (.bool true)=w8 at *
     clear hw8 hw7 hb8 hbx HY7 y8 sy q8 o0 o1 o2 o3 o4 o5 o6 o7 so p0 p1 p2 p3 sp g64 g65 sg HO4 HG4 HP4 HB4
     have o0:=HO8.out.cell (j:=0) rfl
     have o1:=HO8.out.cell (j:=1) rfl
     have o2:=HO8.out.cell (j:=2) rfl
     have o3:=HO8.out.cell (j:=3) rfl
     have o4:=HO8.out.cell (j:=4) rfl
     have o5:=HO8.out.cell (j:=5) rfl
     have o6:=HO8.out.cell (j:=6) rfl
     have o7:=HO8.out.cell (j:=7) rfl
     have so:=HO8.out.lt
     have y0:=HY8.out.cell (j:=0) rfl
     have y1:=HY8.out.cell (j:=1) rfl
     have y2:=HY8.out.cell (j:=2) rfl
     have y3:=HY8.out.cell (j:=3) rfl
     have y4:=HY8.out.cell (j:=4) rfl
     have y5:=HY8.out.cell (j:=5) rfl
     have y6:=HY8.out.cell (j:=6) rfl
     have y7:=HY8.out.cell (j:=7) rfl
     have y8:=HY8.out.cell (j:=8) rfl
     have sy:=HY8.out.lt
     have g64:=HG8.out.arr.cell (gCells_v _ bv be)
     have sg:=HG8.out.arr.lt
     have hcur:World.grownBy w8 w8.drew (some bv):=⟨rfl,rfl,rfl,Nat.le_refl _,fun _ _ _=>rfl⟩
     refine wp_region_lex (C:=IsKept w8 (some bv)) 8 [] (by kernel_rfl) (by kernel_rfl) (isKept_of hcur) ?_
     simp only [List.take_succ_cons,List.take_zero,List.drop_succ_cons,List.drop_zero]
     repeat(first|(refine lex_skip rfl rfl ?_;simp only [Act.put,List.setIfInBounds_toArray,List.set_cons_succ,List.set_cons_zero])|(refine lex_one rfl ?_;go_big_quiet_step (fail);refine wpQuiet_nil ?_)|(refine lex_loud rfl ?_;go_wp2_with (first|((with_reducible show wpList _ _ _ ({dst:=_,op:=.mapUpdate _ _ _ _,type:=_,pos:=_,after:=_,guard:=_} :: _) _ _);refine wpList_tstore keysVid vertV_inj rfl _ _ _ _ rfl Tryz.underlying132 bv _ (VS k) rfl (HG8.out.verts.drew) HN.out (o.at') rfl trivial ((killV y)) rfl ?_;intro w5 hm5 hg5 hs5;replace hcur:=grown_trans hcur hg5));refine⟨isKept_of (by first|exact hcur|exact only_alloc hcur _),?_⟩))
     refine lex_end ?_
     have HG5:Hid (GrW w5 b bv be (n+(k+1)) (setV f id.author id.seq.toNat) (VS (k+1)) (ES (k+1))):=by
      show GrW _ _ _ _ _ _ _ _
      rw [HSV.out,HSE.out]
      exact⟨HG8.out.arr.grown hcur (fun e=>n12 (Option.some.inj e)),hm5,(HG8.out.edges.kept hcur (fun e=>n32 (Option.some.inj e))).mono (by omega),n23⟩
     have HP5:=Lib.hid (HP8.out.grown hcur (fun e=>npv (Option.some.inj e)))
     have HB5:=Lib.hid (HB8.out.grown hcur (.inr (.inl rfl)))
     clear hm5 hg5 hs5 hcur
     go_wp2_with fail
     go_roundw
     case rel=>exact⟨k+1,hlt,by go_num,HG5,HP5,HB5⟩
     case measure=>simp [intOf];omega
  ·
   obtain rfl:k=ops.length:=by omega
   go_wp2_with fail
   go_ret
   exact⟨rfl,HGr.out,HBr.out⟩
/-- a patch that can be applied, of a graph that lies below it -/
theorem gapply2_L(b:Nat)(L:List PatchM)(hw:WfG L)(p:PatchM)(dv ov:Value)(w:World)(bv be n:Nat)(hg:GrW w b bv be n (vecM L) (vertM L) (edgeM L))(hd:GRow encPid 2 w dv p.deps)(hv:GRow encOp 8 w ov p.ops)(hoa:Aside b bv be ov)(hl:p.ops.length≤40000)(hz:∀ o∈p.ops,o.text.size≤maxLen)(hn:n+p.ops.length≤4000000000)(hc:checkM L p=0) :
  Calls Tryz.prog 33 #[.pointer (some ⟨b,0,none⟩),patV p.id dv ov] w fun e w'=>e=.returned (.int .i64 0)∧GrW w' b bv be (n+p.ops.length) (vecM (L++[p])) (vertM (L++[p])) (edgeM (L++[p]))∧Bex b bv be w w':=by
 have hok:=check_ok hc
 have hx:checkX (vecM L) (vertM L) p.id p.deps p.ops=0:=(checkX_eq hw p).trans hc
 obtain⟨ha,_,_⟩:=next_parts (goodP_id hok.good) hok.next
 refine(gapply2_any b bv be n (vecM L) (vertM L) (edgeM L) p.id dv ov p.deps p.ops _ _ w hg hw.vec hd hv hoa hl hz hn hx ha (by rw [nextF_eq];exact hok.next) (steps_ok hw hok)).mono ?_
 rintro e w' ⟨rfl,hG',hb'⟩
 have hG2:GrW w' b bv be (n+p.ops.length) (setV (vecM L) p.id.author p.id.seq.toNat) (vertM (L++[partP p p.ops.length])) (edgeM (L++[partP p p.ops.length])):=hG'
 rw [part_all,vec_step hok] at hG2
 exact⟨rfl,hG2,hb'⟩
end Go.Proofs.YtanfebljiblhbaaGreatDoor
