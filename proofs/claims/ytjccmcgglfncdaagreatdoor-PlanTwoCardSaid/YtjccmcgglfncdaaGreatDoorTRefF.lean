/- What is proved: PlanTwo, for every input; of the listed tables the walk needs the powers of ten. -/
import Derived.Test.YtjccmcgglfncdaaGreatDoorTGraphF
set_option linter.unusedVariables false
set_option linter.unusedSimpArgs false
set_option maxRecDepth 100000
set_option maxHeartbeats 40000000
namespace Go.Proofs.YtjccmcgglfncdaaGreatDoor
open Go Go.RowKit
section
variable{l:List PatchM}
structure LaidP where
 p:PatchM
 dv:Value
 ov:Value
def encPat(x:LaidP):List Value:=[.int .u8 x.p.id.author.toNat,.int .u16 x.p.id.seq.toNat,x.dv,x.ov]
theorem encPat_len(x:LaidP):(encPat x).length=4:=rfl
def PatOk(w:World)(x:LaidP):Prop:=GRow encPid 2 w x.dv x.p.deps∧GRow encOp 8 w x.ov x.p.ops
def Pats(w:World)(v:Value)(xs:List LaidP):Prop:=GRow encPat 4 w v xs∧∀ x∈xs,PatOk w x
theorem Pats.over{w w':World}{v:Value}{xs:List LaidP}(h:Pats w v xs)(hb:Be w w'):Pats w' v xs:=⟨h.1.over hb,fun x hx=>⟨(h.2 x hx).1.over hb,(h.2 x hx).2.over hb⟩⟩
def fewP(p:PatchM):Bool:=decide (p.deps.length≤100) && (decide (p.ops.length≤260) && p.ops.all fun o=>decide (o.text.size≤200))
def fewL(most:Nat)(l:List PatchM):Bool:=decide (l.length≤most) && l.all fun p=>fewP p && decide (p.ops.length≤60)
theorem fewL_len{m:Nat}(h:fewL m l=true):l.length≤m:=by unfold fewL at h;simp at h;exact h.1
theorem fewL_ops{m:Nat}(h:fewL m l=true){p:PatchM}(hp:p∈l):p.ops.length≤60∧∀ o∈p.ops,o.text.size≤200:=by unfold fewL fewP at h;simp only [Bool.and_eq_true,List.all_eq_true,decide_eq_true_eq] at h;exact⟨(h.2 p hp).2,(h.2 p hp).1.2.2⟩
theorem build_take{k:Nat}{p:PatchM}(h:l[k]? = some p):buildM (l.take (k+1))=applyM (buildM (l.take k)) p:=by rw [take_succ' h];unfold buildM;rw [List.foldl_append];rfl
def BuildRes(w:World)(l:List PatchM)(e:Ending)(w':World):Prop:=∃ b bv be n,n≤100*l.length∧e=.returned (.pointer (some ⟨b,0,none⟩))∧GrL w b bv be n (buildM l) w'
theorem build_any(v:Value)(xs:List LaidP)(m:Nat)(hm:m≤1000)(w:World)(hv:Pats w v xs)(hf:fewL m (xs.map (·.p))=true):Calls Tryz.prog 11 #[v] w (BuildRes w (xs.map (·.p))):=by
 have HV:=Lh hv;have HF:=Lh hf;have hlen:xs.length≤1000:=by have:=fewL_len hf;simp at this;omega
 obtain⟨a,cap,rfl,h1,h2,hc⟩:=hv.1.at encPat_len;unfold maxLen at h2;have HC:=Lh hc;clear hv hc hf;go_enter Tryz.func11,Tryz.ntmps11;go_wp2_with (first|(go_at_call 32;(with_reducible refine(gnew_any _).mono ?_);rintro e w1 ⟨b,bv,be,rfl,k1,k2,k3,hg,hb⟩));have HG:Hid (GrL w b bv be 0 [] w1):=Lh ⟨k1,k2,k3,hg,hb⟩;clear hg hb k1 k2 k3;go_loopw [4] (fun v4 wr=>∃ k n:Nat,k≤xs.length∧n≤100*k∧v4=.int .i64 k∧Hid (GrL w b bv be n (buildM ((xs.map (·.p)).take k)) wr)) (fun v4 _=>xs.length - (intOf v4).toNat)
 case atStart=>exact⟨0,0,by omega,by omega,rfl,HG⟩
 obtain⟨k,n,hk,hn,rfl,HGr⟩:=hrel
 by_cases hlt:k<xs.length
 ·
  obtain⟨bo,off,rfl,sb,hcb⟩:=HC.o.resolve_left (by omega);obtain⟨x,hx⟩:=gol hlt;have HX:=Lh hx;have hp:PatOk w x:=HV.o.2 x (List.mem_of_getElem? hx);have HPd:=Lh hp.1;have HPo:=Lh hp.2;have hfx:=fewL_ops HF.o (List.mem_map_of_mem (f:=(·.p)) (List.mem_of_getElem? hx));have hl6:x.p.ops.length≤60:=hfx.1;have HZ:Hid (∀ o∈x.p.ops,o.text.size≤maxLen):=Lh fun o ho=>Nat.le_trans (hfx.2 o ho) (by unfold maxLen;omega);have HRx:=Lh (hcb k x hx wr (by obtain⟨_,_,_,_,hb⟩:=HGr.o;exact hb));obtain⟨x0,x1,x2,x3,sx⟩:=rc4 HRx.o;have HS:Hid (buildM ((xs.map (·.p)).take (k+1))=applyM (buildM ((xs.map (·.p)).take k)) x.p):=build_take (by rw [List.getElem?_map,HX.o];rfl);clear hcb hx hp hfx;go_wp2_with (first|(go_at_call 25;go_loud (with_reducible refine(gapply_L b bv be n (buildM ((xs.map (·.p)).take k)) (wf_build _) x.p x.dv x.ov w _ HGr.o HPd.o HPo.o (by omega) HZ.o (by omega)).mono ?_);rintro e w2 ⟨rfl,hgr⟩));go_roundw
  case rel=>exact⟨k+1,n+x.p.ops.length,hlt,(by omega),by go_num,(by show GrL _ _ _ _ _ _ _;rw [HS.o];exact hgr)⟩
  simp [intOf];omega
 obtain rfl:k=xs.length:=by omega
 go_wp2;go_ret;refine⟨b,bv,be,n,by simpa using hn,rfl,?_⟩;have:=HGr.o;rw [← List.map_take,List.take_length] at this;exact this
end
section
variable{x:LaidP}{m:Nat}{p:PatchM}
def b01(b:Bool):Int:=if b=true then 1 else 0
theorem b01_t{b:Bool}(h:b=true):b01 b=1:=by unfold b01;rw [if_pos h]
theorem b01_f{b:Bool}(h:b=false):b01 b=0:=by unfold b01;rw [if_neg (by rw [h];decide)]
theorem fewP_a(h:¬ p.deps.length≤100):fewP p=false:=by unfold fewP;simp [h]
theorem fewP_b(h:¬ p.ops.length≤260):fewP p=false:=by unfold fewP;simp [h]
theorem fewP_c{k:Nat}{o:OpM}(ho:p.ops[k]? = some o)(h:¬ o.text.size≤200):fewP p=false:=by
 have:(p.ops.all fun o=>decide (o.text.size≤200))=false:=by rw [← Bool.not_eq_true,List.all_eq_true];intro hh;exact h (by simpa using hh o (List.mem_of_getElem? ho))
 unfold fewP;rw [this];simp
theorem fewP_d(h:p.deps.length≤100)(h2:p.ops.length≤260)(h3:(p.ops.take p.ops.length).any (fun o => !decide (o.text.size≤200))=false):fewP p=true:=by
 rw [List.take_length] at h3;have:(p.ops.all fun o=>decide (o.text.size≤200))=true:=by
  cases hh:(p.ops.all fun o=>decide (o.text.size≤200)) with
  | true=>rfl
  | false=>rw [(any_all _ _).2 hh] at h3;cases h3
 unfold fewP;rw [this];simp [h,h2]
attribute [local irreducible] fewP b01
theorem few18_any(id:PidM)(dv ov:Value)(deps:List PidM)(ops:List OpM)(w:World)(hd:GRow encPid 2 w dv deps)(hv:GRow encOp 8 w ov ops)(hz:∀ o∈ops,o.text.size≤maxLen) :
  Calls Tryz.prog 31 #[patV id dv ov] w fun e w'=>e=.returned (.int .i64 (b01 (fewP ⟨id,deps,ops⟩)))∧Be w w':=by
 obtain⟨a,cap,rfl,h1,h2,hc⟩:=hv.at encOp_len;obtain⟨ad,capd,rfl,h1d,h2d,hcd⟩:=hd.at encPid_len;unfold maxLen at h2 h2d;have HC:=Lh hc;have HZ:=Lh hz;have HP:=Lh (anw w #[.int .u8 id.author.toNat,.int .u16 id.seq.toNat,.slice ad deps.length capd,.slice a ops.length cap] 44);have HB:=Lh (bnew (w:=w) (.cells #[.int .u8 id.author.toNat,.int .u16 id.seq.toNat,.slice ad deps.length capd,.slice a ops.length cap] 44));clear hv hc hd hcd hz;unfold patV;go_enter Tryz.func31,Tryz.ntmps31;go_upto_region 1 with fail;generalize w.alloc (.cells #[.int .u8 id.author.toNat,.int .u16 id.seq.toNat,.slice ad deps.length capd,.slice a ops.length cap] 44)=w0 at *;have p2:=HP.o.k 2 rfl;have p3:=HP.o.k 3 rfl;have sp:=HP.o.lt
 by_cases g1:deps.length≤100
 rotate_left
 ·
  have d1:decide ((100:Int)<(deps.length:Int))=true:=by simp;omega
  have HN:=Lh (b01_f (fewP_a (p:=⟨id,deps,ops⟩) g1));clear g1;go_wp2;go_ret;exact⟨rvl (congrArg (Value.int .i64) HN.o.symm),HB.o⟩
 have d1:decide ((100:Int)<(deps.length:Int))=false:=by simp;omega
 by_cases g2:ops.length≤260
 rotate_left
 ·
  have d2:decide ((260:Int)<(ops.length:Int))=true:=by simp;omega
  have HN:=Lh (b01_f (fewP_b (p:=⟨id,deps,ops⟩) g2));clear g2;go_wp2;go_ret;exact⟨rvl (congrArg (Value.int .i64) HN.o.symm),HB.o⟩
 have d2:decide ((260:Int)<(ops.length:Int))=false:=by simp;omega
 have HG1:=Lh g1;have HG2:=Lh g2;clear g1 g2;go_wp2;go_loopw [3] (fun v3 wr=>∃ k:Nat,k≤ops.length∧v3=.int .i64 k∧Hid ((ops.take k).any (fun o => !decide (o.text.size≤200))=false)∧wr=w0) (fun v3 _=>ops.length - (intOf v3).toNat)
 case atStart=>exact⟨0,by omega,rfl,(by show _=_;simp),rfl⟩
 obtain⟨k,hk,rfl,HM,rfl⟩:=hrel
 by_cases hlt:k<ops.length
 rotate_left
 ·
  obtain rfl:k=ops.length:=by omega
  have HN:=Lh (b01_t (fewP_d (p:=⟨id,deps,ops⟩) HG1.o HG2.o HM.o));clear HM;go_wp2;go_ret;exact⟨rvl (congrArg (Value.int .i64) HN.o.symm),HB.o⟩
 obtain⟨b,off,rfl,sb,hcb⟩:=HC.o.resolve_left (by omega);obtain⟨o,ho⟩:=gol hlt;have HX:=Lh ho;have HO:=Lh (hcb k o ho _ HB.o);have o7:=HO.o.2 7 _ rfl;have so:=HO.o.1;have hzo:o.text.size≤2 ^ 63 - 1:=HZ.o o (List.mem_of_getElem? ho);clear hcb ho
 by_cases g3:o.text.size≤200
 ·
  have d3:decide ((200:Int)<(o.text.size:Int))=false:=by simp;omega
  have HN:=Lh (any_step HM.o HX.o (by simp [g3]));clear g3;go_wp2;go_roundw
  case rel=>exact⟨k+1,hlt,by go_num,HN,trivial⟩
  simp [intOf];omega
 have d3:decide ((200:Int)<(o.text.size:Int))=true:=by simp;omega
 have HN:=Lh (b01_f (fewP_c (p:=⟨id,deps,ops⟩) HX.o g3));clear g3;go_wp2;go_ret;exact⟨rvl (congrArg (Value.int .i64) HN.o.symm),HB.o⟩
def few1(p:PatchM):Bool:=fewP p && decide (p.ops.length≤60)
theorem fewL_def(m:Nat)(l:List PatchM):fewL m l=(decide (l.length≤m) && l.all few1):=rfl
theorem fewL_a{l:List PatchM}(h:¬ l.length≤m):fewL m l=false:=by rw [fewL_def];simp [h]
theorem fewL_b{k:Nat}{xs:List LaidP}(hx:xs[k]? = some x)(h:few1 x.p=false):fewL m (xs.map (·.p))=false:=by
 have:(xs.map (·.p)).all few1=false:=by rw [← Bool.not_eq_true,List.all_eq_true];intro hh;rw [hh x.p (List.mem_map_of_mem (List.mem_of_getElem? hx))] at h;cases h
 rw [fewL_def,this];simp
theorem fewL_c{xs:List LaidP}(h:xs.length≤m)(h3:(xs.take xs.length).any (fun x => !few1 x.p)=false):fewL m (xs.map (·.p))=true:=by
 rw [List.take_length] at h3;have:(xs.map (·.p)).all few1=true:=by
  cases hh:xs.all (fun x=>few1 x.p) with
  | true=>rw [List.all_map];exact hh
  | false=>rw [(any_all _ _).2 hh] at h3;cases h3
 rw [fewL_def,this];simp [h]
theorem few1_a(h:fewP x.p=false):few1 x.p=false:=by unfold few1;rw [h];rfl
theorem few1_b(h:¬ x.p.ops.length≤60):few1 x.p=false:=by unfold few1;simp [h]
theorem few1_c(h:fewP x.p=true)(h2:x.p.ops.length≤60):few1 x.p=true:=by unfold few1;rw [h];simp [h2]
attribute [local irreducible] few1 fewL
theorem few20_any(v:Value)(xs:List LaidP)(m:Nat)(hm:m≤1000)(w:World)(hv:Pats w v xs)(hz:∀ x∈xs,∀ o∈x.p.ops,o.text.size≤maxLen) :
  Calls Tryz.prog 8 #[v,.int .i64 m] w fun e w'=>e=.returned (.int .i64 (b01 (fewL m (xs.map (·.p)))))∧Be w w':=by
 have HV:=Lh hv;have HZ:=Lh hz;obtain⟨a,cap,rfl,h1,h2,hc⟩:=hv.1.at encPat_len;unfold maxLen at h2;have HC:=Lh hc;clear hv hc hz;go_enter Tryz.func8,Tryz.ntmps8
 by_cases g1:xs.length≤m
 rotate_left
 ·
  have d1:decide (m<xs.length)=true:=by simp;omega
  have HN:=Lh (b01_f (fewL_a (m:=m) (l:=xs.map (·.p)) (by simpa using g1)));clear g1;go_wp2;go_ret;exact⟨rvl (congrArg (Value.int .i64) HN.o.symm),Below.refl _ _⟩
 have d1:decide (m<xs.length)=false:=by simp;omega
 have HG1:=Lh g1;clear g1;go_wp2;go_loopw [5] (fun v5 wr=>∃ k:Nat,k≤xs.length∧v5=.int .i64 k∧Hid ((xs.take k).any (fun x => !few1 x.p)=false)∧Be w wr) (fun v5 _=>xs.length - (intOf v5).toNat)
 case atStart=>exact⟨0,by omega,rfl,(by show _=_;simp),Below.refl _ _⟩
 obtain⟨k,hk,rfl,HM,hbl⟩:=hrel
 by_cases hlt:k<xs.length
 rotate_left
 ·
  obtain rfl:k=xs.length:=by omega
  have HN:=Lh (b01_t (fewL_c HG1.o HM.o));clear HM;go_wp2;go_ret;exact⟨rvl (congrArg (Value.int .i64) HN.o.symm),hbl⟩
 obtain⟨b,off,rfl,sb,hcb⟩:=HC.o.resolve_left (by omega);obtain⟨x,hx⟩:=gol hlt;have HX:=Lh hx;have hp:PatOk w x:=HV.o.2 x (List.mem_of_getElem? hx);have HPd:=Lh (hp.1.over hbl);have HPo:=Lh (hp.2.over hbl);have HZx:=Lh (HZ.o x (List.mem_of_getElem? hx));obtain⟨ao,capo,hov,q1,q2,_⟩:=HPo.o.at encOp_len;unfold maxLen at q2;have HRx:=Lh (hcb k x hx wr hbl);obtain⟨x0,x1,x2,x3,sx⟩:=rc4 HRx.o;rw [hov] at x3 HPo;clear hcb hx hp hov;cases hf:fewP x.p with
 | false =>have HK:=Lh (b01_f hf);have HN:=Lh (b01_f (fewL_b (m:=m) HX.o (few1_a hf)));clear hf;go_wp2_with (first|(go_at_call 31;go_loud (with_reducible refine(few18_any x.p.id x.dv _ x.p.deps x.p.ops _ HPd.o HPo.o HZx.o).mono ?_);rintro e w2 ⟨rfl,hb⟩;rw [HK.o]));go_ret;exact⟨rvl (congrArg (Value.int .i64) HN.o.symm),bvo hbl hb⟩
 | true =>
  have HK:=Lh (b01_t hf)
  by_cases g2:x.p.ops.length≤60
  ·
   have d2:decide ((60:Int)<(x.p.ops.length:Int))=false:=(by simp;omega);have HN:=Lh (any_step HM.o HX.o (by rw [few1_c hf g2];rfl));clear hf g2;go_wp2_with (first|(go_at_call 31;go_loud (with_reducible refine(few18_any x.p.id x.dv _ x.p.deps x.p.ops _ HPd.o HPo.o HZx.o).mono ?_);rintro e w2 ⟨rfl,hb⟩;rw [HK.o];have y3:=(hb.cell (p:=⟨b,off+k*4+3,none⟩) sx).trans x3;have sy:=Nat.lt_of_lt_of_le sx hb.size));go_roundw
   case rel=>exact⟨k+1,hlt,by go_num,HN,bvo hbl hb⟩
   simp [intOf];omega
  have d2:decide ((60:Int)<(x.p.ops.length:Int))=true:=by simp;omega
  have HN:=Lh (b01_f (fewL_b (m:=m) HX.o (few1_b g2)));clear hf g2;go_wp2_with (first|(go_at_call 31;go_loud (with_reducible refine(few18_any x.p.id x.dv _ x.p.deps x.p.ops _ HPd.o HPo.o HZx.o).mono ?_);rintro e w2 ⟨rfl,hb⟩;rw [HK.o];have y3:=(hb.cell (p:=⟨b,off+k*4+3,none⟩) sx).trans x3;have sy:=Nat.lt_of_lt_of_le sx hb.size));go_ret;exact⟨rvl (congrArg (Value.int .i64) HN.o.symm),bvo hbl hb⟩
end
abbrev patsOf(xs:List LaidP):List PatchM:=xs.map (·.p)
section
attribute [local irreducible] madeBy vertM deadM vertOp
end
section
attribute [local irreducible] vertM isK optV
end
section
attribute [local irreducible] cmpVid
end
theorem under_edge:Tryz.prog.underlying 133=some (.array 2 74):=by kernel_rfl
theorem cellsOf_vid:Tryz.prog.cellsOf 74=3:=by kernel_rfl
theorem equal_edge(d:Nat)(x y:EdgeM)(w:World):(Op.equalIn (d+5) 133 (edgeV x) (edgeV y)).run Tryz.prog w=.ok (decide (x=y)) w:=by
 obtain⟨_,i,_,_,hi,_⟩:=rowT_vid.out;have h1:∀ w,(Op.equalIn (d+4) 74 (vidV x.1) (vidV y.1)).run Tryz.prog w=.ok (decide (x.1=y.1)) w:=equal_vid d x.1 y.1;have h2:∀ w,(Op.equalIn (d+4) 74 (vidV x.2) (vidV y.2)).run Tryz.prog w=.ok (decide (x.2=y.2)) w:=equal_vid d x.2 y.2;have z1:=Tryz.sizeOf74;have z3:=Tryz.isAgg74;unfold edgeV;unfold vidV at h1 h2;rw [show d+5=(d+4)+1 from rfl,run_equalIn_array w (d+4) _ _ under_edge hi,cellsOf_vid];simp [go_sem,Op.eqItems,List.range_succ,z1,z3,h1,h2];obtain⟨a,b⟩:=x;obtain⟨a',b'⟩:=y
 by_cases e1:a=a' <;> by_cases e2:b=b' <;> simp [e1,e2]
theorem neq_edge(x y:EdgeM)(b:Bool)(h:(!decide (x=y))=b)(w:World):(binOp .neq 133 (edgeV x) (edgeV y)).run Tryz.prog w=.ok (.bool b) w:=by unfold edgeV;rw [run_neq_struct,show(10000:Nat)=9995+5 from rfl,equal_edge 9995 x y,← h];rfl
theorem guardEdge:Tryz.prog.eqGuardType Tryz.prog.depth 133=false:=by kernel_rfl
theorem guard_edge(op:BinOp)(p q:Operand)(xs ys:Array Value)(w:World):(eqGuard op 133 p q (.agg xs) (.agg ys)).run Tryz.prog w=.ok () w:=run_eqGuard_agg w op _ p q xs ys guardEdge
theorem encEdge_len(e:EdgeM):(encEdge e).length=6:=rfl
theorem slEdge:SlT Tryz.prog 139 133 6 12:=slT_of Tryz.underlying139 (by kernel_rfl) (by decide)
end Go.Proofs.YtjccmcgglfncdaaGreatDoor
