/- What is proved: PlanSays, for every input; of the listed tables the walk needs the powers of ten. -/
import Derived.Test.YtjccmcgglfncdaaGreatDoorPGraphF
set_option linter.unusedVariables false
set_option linter.unusedSimpArgs false
set_option maxRecDepth 100000
set_option maxHeartbeats 40000000
namespace Go.Proofs.YtjccmcgglfncdaaGreatDoor
open Go Go.RowKit
section
variable{l:List PatchM}
structure LaidP where
 p:PatchM
 dv:Value
 ov:Value
def encPat(x:LaidP):List Value:=[.int .u8 x.p.id.author.toNat,.int .u16 x.p.id.seq.toNat,x.dv,x.ov]
theorem encPat_len(x:LaidP):(encPat x).length=4:=rfl
def PatOk(w:World)(x:LaidP):Prop:=GRow encPid 2 w x.dv x.p.deps∧GRow encOp 8 w x.ov x.p.ops
def Pats(w:World)(v:Value)(xs:List LaidP):Prop:=GRow encPat 4 w v xs∧∀ x∈xs,PatOk w x
theorem Pats.over{w w':World}{v:Value}{xs:List LaidP}(h:Pats w v xs)(hb:Be w w'):Pats w' v xs:=⟨h.1.over hb,fun x hx=>⟨(h.2 x hx).1.over hb,(h.2 x hx).2.over hb⟩⟩
def fewP(p:PatchM):Bool:=decide (p.deps.length≤100) && (decide (p.ops.length≤260) && p.ops.all fun o=>decide (o.text.size≤200))
def fewL(most:Nat)(l:List PatchM):Bool:=decide (l.length≤most) && l.all fun p=>fewP p && decide (p.ops.length≤60)
theorem fewL_len{m:Nat}(h:fewL m l=true):l.length≤m:=by unfold fewL at h;simp at h;exact h.1
theorem fewL_ops{m:Nat}(h:fewL m l=true){p:PatchM}(hp:p∈l):p.ops.length≤60∧∀ o∈p.ops,o.text.size≤200:=by unfold fewL fewP at h;simp only [Bool.and_eq_true,List.all_eq_true,decide_eq_true_eq] at h;exact⟨(h.2 p hp).2,(h.2 p hp).1.2.2⟩
theorem build_take{k:Nat}{p:PatchM}(h:l[k]? = some p):buildM (l.take (k+1))=applyM (buildM (l.take k)) p:=by rw [take_succ' h];unfold buildM;rw [List.foldl_append];rfl
def BuildRes(w:World)(l:List PatchM)(e:Ending)(w':World):Prop:=∃ b bv be n,n≤100*l.length∧e=.returned (.pointer (some ⟨b,0,none⟩))∧GrL w b bv be n (buildM l) w'
theorem build_any(v:Value)(xs:List LaidP)(m:Nat)(hm:m≤1000)(w:World)(hv:Pats w v xs)(hf:fewL m (xs.map (·.p))=true):Calls Tryz.prog 11 #[v] w (BuildRes w (xs.map (·.p))):=by
 have HV:=Lh hv;have HF:=Lh hf;have hlen:xs.length≤1000:=by have:=fewL_len hf;simp at this;omega
 obtain⟨a,cap,rfl,h1,h2,hc⟩:=hv.1.at encPat_len;unfold maxLen at h2;have HC:=Lh hc;clear hv hc hf;go_enter Tryz.func11,Tryz.ntmps11;go_wp2_with (first|(go_at_call 32;(with_reducible refine(gnew_any _).mono ?_);rintro e w1 ⟨b,bv,be,rfl,k1,k2,k3,hg,hb⟩));have HG:Hid (GrL w b bv be 0 [] w1):=Lh ⟨k1,k2,k3,hg,hb⟩;clear hg hb k1 k2 k3;go_loopw [4] (fun v4 wr=>∃ k n:Nat,k≤xs.length∧n≤100*k∧v4=.int .i64 k∧Hid (GrL w b bv be n (buildM ((xs.map (·.p)).take k)) wr)) (fun v4 _=>xs.length - (intOf v4).toNat)
 case atStart=>exact⟨0,0,by omega,by omega,rfl,HG⟩
 obtain⟨k,n,hk,hn,rfl,HGr⟩:=hrel
 by_cases hlt:k<xs.length
 ·
  obtain⟨bo,off,rfl,sb,hcb⟩:=HC.o.resolve_left (by omega);obtain⟨x,hx⟩:=gol hlt;have HX:=Lh hx;have hp:PatOk w x:=HV.o.2 x (List.mem_of_getElem? hx);have HPd:=Lh hp.1;have HPo:=Lh hp.2;have hfx:=fewL_ops HF.o (List.mem_map_of_mem (f:=(·.p)) (List.mem_of_getElem? hx));have hl6:x.p.ops.length≤60:=hfx.1;have HZ:Hid (∀ o∈x.p.ops,o.text.size≤maxLen):=Lh fun o ho=>Nat.le_trans (hfx.2 o ho) (by unfold maxLen;omega);have HRx:=Lh (hcb k x hx wr (by obtain⟨_,_,_,_,hb⟩:=HGr.o;exact hb));obtain⟨x0,x1,x2,x3,sx⟩:=rc4 HRx.o;have HS:Hid (buildM ((xs.map (·.p)).take (k+1))=applyM (buildM ((xs.map (·.p)).take k)) x.p):=build_take (by rw [List.getElem?_map,HX.o];rfl);clear hcb hx hp hfx;go_wp2_with (first|(go_at_call 25;go_loud (with_reducible refine(gapply_L b bv be n (buildM ((xs.map (·.p)).take k)) (wf_build _) x.p x.dv x.ov w _ HGr.o HPd.o HPo.o (by omega) HZ.o (by omega)).mono ?_);rintro e w2 ⟨rfl,hgr⟩));go_roundw
  case rel=>exact⟨k+1,n+x.p.ops.length,hlt,(by omega),by go_num,(by show GrL _ _ _ _ _ _ _;rw [HS.o];exact hgr)⟩
  simp [intOf];omega
 obtain rfl:k=xs.length:=by omega
 go_wp2;go_ret;refine⟨b,bv,be,n,by simpa using hn,rfl,?_⟩;have:=HGr.o;rw [← List.map_take,List.take_length] at this;exact this
end
section
variable{x:LaidP}{m:Nat}{p:PatchM}
def b01(b:Bool):Int:=if b=true then 1 else 0
theorem b01_t{b:Bool}(h:b=true):b01 b=1:=by unfold b01;rw [if_pos h]
theorem b01_f{b:Bool}(h:b=false):b01 b=0:=by unfold b01;rw [if_neg (by rw [h];decide)]
theorem fewP_a(h:¬ p.deps.length≤100):fewP p=false:=by unfold fewP;simp [h]
theorem fewP_b(h:¬ p.ops.length≤260):fewP p=false:=by unfold fewP;simp [h]
theorem fewP_c{k:Nat}{o:OpM}(ho:p.ops[k]? = some o)(h:¬ o.text.size≤200):fewP p=false:=by
 have:(p.ops.all fun o=>decide (o.text.size≤200))=false:=by rw [← Bool.not_eq_true,List.all_eq_true];intro hh;exact h (by simpa using hh o (List.mem_of_getElem? ho))
 unfold fewP;rw [this];simp
theorem fewP_d(h:p.deps.length≤100)(h2:p.ops.length≤260)(h3:(p.ops.take p.ops.length).any (fun o => !decide (o.text.size≤200))=false):fewP p=true:=by
 rw [List.take_length] at h3;have:(p.ops.all fun o=>decide (o.text.size≤200))=true:=by
  cases hh:(p.ops.all fun o=>decide (o.text.size≤200)) with
  | true=>rfl
  | false=>rw [(any_all _ _).2 hh] at h3;cases h3
 unfold fewP;rw [this];simp [h,h2]
attribute [local irreducible] fewP b01
theorem few18_any(id:PidM)(dv ov:Value)(deps:List PidM)(ops:List OpM)(w:World)(hd:GRow encPid 2 w dv deps)(hv:GRow encOp 8 w ov ops)(hz:∀ o∈ops,o.text.size≤maxLen) :
  Calls Tryz.prog 31 #[patV id dv ov] w fun e w'=>e=.returned (.int .i64 (b01 (fewP ⟨id,deps,ops⟩)))∧Be w w':=by
 obtain⟨a,cap,rfl,h1,h2,hc⟩:=hv.at encOp_len;obtain⟨ad,capd,rfl,h1d,h2d,hcd⟩:=hd.at encPid_len;unfold maxLen at h2 h2d;have HC:=Lh hc;have HZ:=Lh hz;have HP:=Lh (anw w #[.int .u8 id.author.toNat,.int .u16 id.seq.toNat,.slice ad deps.length capd,.slice a ops.length cap] 44);have HB:=Lh (bnew (w:=w) (.cells #[.int .u8 id.author.toNat,.int .u16 id.seq.toNat,.slice ad deps.length capd,.slice a ops.length cap] 44));clear hv hc hd hcd hz;unfold patV;go_enter Tryz.func31,Tryz.ntmps31;go_upto_region 1 with fail;generalize w.alloc (.cells #[.int .u8 id.author.toNat,.int .u16 id.seq.toNat,.slice ad deps.length capd,.slice a ops.length cap] 44)=w0 at *;have p2:=HP.o.k 2 rfl;have p3:=HP.o.k 3 rfl;have sp:=HP.o.lt
 by_cases g1:deps.length≤100
 rotate_left
 ·
  have d1:decide ((100:Int)<(deps.length:Int))=true:=by simp;omega
  have HN:=Lh (b01_f (fewP_a (p:=⟨id,deps,ops⟩) g1));clear g1;go_wp2;go_ret;exact⟨rvl (congrArg (Value.int .i64) HN.o.symm),HB.o⟩
 have d1:decide ((100:Int)<(deps.length:Int))=false:=by simp;omega
 by_cases g2:ops.length≤260
 rotate_left
 ·
  have d2:decide ((260:Int)<(ops.length:Int))=true:=by simp;omega
  have HN:=Lh (b01_f (fewP_b (p:=⟨id,deps,ops⟩) g2));clear g2;go_wp2;go_ret;exact⟨rvl (congrArg (Value.int .i64) HN.o.symm),HB.o⟩
 have d2:decide ((260:Int)<(ops.length:Int))=false:=by simp;omega
 have HG1:=Lh g1;have HG2:=Lh g2;clear g1 g2;go_wp2;go_loopw [3] (fun v3 wr=>∃ k:Nat,k≤ops.length∧v3=.int .i64 k∧Hid ((ops.take k).any (fun o => !decide (o.text.size≤200))=false)∧wr=w0) (fun v3 _=>ops.length - (intOf v3).toNat)
 case atStart=>exact⟨0,by omega,rfl,(by show _=_;simp),rfl⟩
 obtain⟨k,hk,rfl,HM,rfl⟩:=hrel
 by_cases hlt:k<ops.length
 rotate_left
 ·
  obtain rfl:k=ops.length:=by omega
  have HN:=Lh (b01_t (fewP_d (p:=⟨id,deps,ops⟩) HG1.o HG2.o HM.o));clear HM;go_wp2;go_ret;exact⟨rvl (congrArg (Value.int .i64) HN.o.symm),HB.o⟩
 obtain⟨b,off,rfl,sb,hcb⟩:=HC.o.resolve_left (by omega);obtain⟨o,ho⟩:=gol hlt;have HX:=Lh ho;have HO:=Lh (hcb k o ho _ HB.o);have o7:=HO.o.2 7 _ rfl;have so:=HO.o.1;have hzo:o.text.size≤2 ^ 63 - 1:=HZ.o o (List.mem_of_getElem? ho);clear hcb ho
 by_cases g3:o.text.size≤200
 ·
  have d3:decide ((200:Int)<(o.text.size:Int))=false:=by simp;omega
  have HN:=Lh (any_step HM.o HX.o (by simp [g3]));clear g3;go_wp2;go_roundw
  case rel=>exact⟨k+1,hlt,by go_num,HN,trivial⟩
  simp [intOf];omega
 have d3:decide ((200:Int)<(o.text.size:Int))=true:=by simp;omega
 have HN:=Lh (b01_f (fewP_c (p:=⟨id,deps,ops⟩) HX.o g3));clear g3;go_wp2;go_ret;exact⟨rvl (congrArg (Value.int .i64) HN.o.symm),HB.o⟩
def few1(p:PatchM):Bool:=fewP p && decide (p.ops.length≤60)
theorem fewL_def(m:Nat)(l:List PatchM):fewL m l=(decide (l.length≤m) && l.all few1):=rfl
theorem fewL_a{l:List PatchM}(h:¬ l.length≤m):fewL m l=false:=by rw [fewL_def];simp [h]
theorem fewL_b{k:Nat}{xs:List LaidP}(hx:xs[k]? = some x)(h:few1 x.p=false):fewL m (xs.map (·.p))=false:=by
 have:(xs.map (·.p)).all few1=false:=by rw [← Bool.not_eq_true,List.all_eq_true];intro hh;rw [hh x.p (List.mem_map_of_mem (List.mem_of_getElem? hx))] at h;cases h
 rw [fewL_def,this];simp
theorem fewL_c{xs:List LaidP}(h:xs.length≤m)(h3:(xs.take xs.length).any (fun x => !few1 x.p)=false):fewL m (xs.map (·.p))=true:=by
 rw [List.take_length] at h3;have:(xs.map (·.p)).all few1=true:=by
  cases hh:xs.all (fun x=>few1 x.p) with
  | true=>rw [List.all_map];exact hh
  | false=>rw [(any_all _ _).2 hh] at h3;cases h3
 rw [fewL_def,this];simp [h]
theorem few1_a(h:fewP x.p=false):few1 x.p=false:=by unfold few1;rw [h];rfl
theorem few1_b(h:¬ x.p.ops.length≤60):few1 x.p=false:=by unfold few1;simp [h]
theorem few1_c(h:fewP x.p=true)(h2:x.p.ops.length≤60):few1 x.p=true:=by unfold few1;rw [h];simp [h2]
attribute [local irreducible] few1 fewL
theorem few20_any(v:Value)(xs:List LaidP)(m:Nat)(hm:m≤1000)(w:World)(hv:Pats w v xs)(hz:∀ x∈xs,∀ o∈x.p.ops,o.text.size≤maxLen) :
  Calls Tryz.prog 8 #[v,.int .i64 m] w fun e w'=>e=.returned (.int .i64 (b01 (fewL m (xs.map (·.p)))))∧Be w w':=by
 have HV:=Lh hv;have HZ:=Lh hz;obtain⟨a,cap,rfl,h1,h2,hc⟩:=hv.1.at encPat_len;unfold maxLen at h2;have HC:=Lh hc;clear hv hc hz;go_enter Tryz.func8,Tryz.ntmps8
 by_cases g1:xs.length≤m
 rotate_left
 ·
  have d1:decide (m<xs.length)=true:=by simp;omega
  have HN:=Lh (b01_f (fewL_a (m:=m) (l:=xs.map (·.p)) (by simpa using g1)));clear g1;go_wp2;go_ret;exact⟨rvl (congrArg (Value.int .i64) HN.o.symm),Below.refl _ _⟩
 have d1:decide (m<xs.length)=false:=by simp;omega
 have HG1:=Lh g1;clear g1;go_wp2;go_loopw [5] (fun v5 wr=>∃ k:Nat,k≤xs.length∧v5=.int .i64 k∧Hid ((xs.take k).any (fun x => !few1 x.p)=false)∧Be w wr) (fun v5 _=>xs.length - (intOf v5).toNat)
 case atStart=>exact⟨0,by omega,rfl,(by show _=_;simp),Below.refl _ _⟩
 obtain⟨k,hk,rfl,HM,hbl⟩:=hrel
 by_cases hlt:k<xs.length
 rotate_left
 ·
  obtain rfl:k=xs.length:=by omega
  have HN:=Lh (b01_t (fewL_c HG1.o HM.o));clear HM;go_wp2;go_ret;exact⟨rvl (congrArg (Value.int .i64) HN.o.symm),hbl⟩
 obtain⟨b,off,rfl,sb,hcb⟩:=HC.o.resolve_left (by omega);obtain⟨x,hx⟩:=gol hlt;have HX:=Lh hx;have hp:PatOk w x:=HV.o.2 x (List.mem_of_getElem? hx);have HPd:=Lh (hp.1.over hbl);have HPo:=Lh (hp.2.over hbl);have HZx:=Lh (HZ.o x (List.mem_of_getElem? hx));obtain⟨ao,capo,hov,q1,q2,_⟩:=HPo.o.at encOp_len;unfold maxLen at q2;have HRx:=Lh (hcb k x hx wr hbl);obtain⟨x0,x1,x2,x3,sx⟩:=rc4 HRx.o;rw [hov] at x3 HPo;clear hcb hx hp hov;cases hf:fewP x.p with
 | false =>have HK:=Lh (b01_f hf);have HN:=Lh (b01_f (fewL_b (m:=m) HX.o (few1_a hf)));clear hf;go_wp2_with (first|(go_at_call 31;go_loud (with_reducible refine(few18_any x.p.id x.dv _ x.p.deps x.p.ops _ HPd.o HPo.o HZx.o).mono ?_);rintro e w2 ⟨rfl,hb⟩;rw [HK.o]));go_ret;exact⟨rvl (congrArg (Value.int .i64) HN.o.symm),bvo hbl hb⟩
 | true =>
  have HK:=Lh (b01_t hf)
  by_cases g2:x.p.ops.length≤60
  ·
   have d2:decide ((60:Int)<(x.p.ops.length:Int))=false:=(by simp;omega);have HN:=Lh (any_step HM.o HX.o (by rw [few1_c hf g2];rfl));clear hf g2;go_wp2_with (first|(go_at_call 31;go_loud (with_reducible refine(few18_any x.p.id x.dv _ x.p.deps x.p.ops _ HPd.o HPo.o HZx.o).mono ?_);rintro e w2 ⟨rfl,hb⟩;rw [HK.o];have y3:=(hb.cell (p:=⟨b,off+k*4+3,none⟩) sx).trans x3;have sy:=Nat.lt_of_lt_of_le sx hb.size));go_roundw
   case rel=>exact⟨k+1,hlt,by go_num,HN,bvo hbl hb⟩
   simp [intOf];omega
  have d2:decide ((60:Int)<(x.p.ops.length:Int))=true:=by simp;omega
  have HN:=Lh (b01_f (fewL_b (m:=m) HX.o (few1_b g2)));clear hf g2;go_wp2_with (first|(go_at_call 31;go_loud (with_reducible refine(few18_any x.p.id x.dv _ x.p.deps x.p.ops _ HPd.o HPo.o HZx.o).mono ?_);rintro e w2 ⟨rfl,hb⟩;rw [HK.o];have y3:=(hb.cell (p:=⟨b,off+k*4+3,none⟩) sx).trans x3;have sy:=Nat.lt_of_lt_of_le sx hb.size));go_ret;exact⟨rvl (congrArg (Value.int .i64) HN.o.symm),bvo hbl hb⟩
end
section
variable{o:OpM}{v:VidM}
abbrev rgV(v:Value):Value:=.agg #[v]
abbrev patsOf(xs:List LaidP):List PatchM:=xs.map (·.p)
theorem has_any(xs:List LaidP)(q:PidM):hasM (patsOf xs) q=xs.any fun x=>decide (x.p.id=q):=by unfold hasM;rw [List.any_map];rfl
theorem any_yes{α:Type}{l:List α}{f:α→Bool}{k:Nat}{x:α}(hx:l[k]? = some x)(h:f x=true):l.any f=true:=List.any_eq_true.2 ⟨x,List.mem_of_getElem? hx,h⟩
theorem rhas20_any(v:Value)(xs:List LaidP)(q:PidM)(w:World)(hv:Pats w v xs) :
  Calls Tryz.prog 130 #[rgV v,pidV q] w fun e w'=>e=.returned (.bool (hasM (patsOf xs) q))∧Be w w':=by
 rw [has_any];have gd:=fun p q xs ys w=>guard_pid .eql p q xs ys w;have HV:=Lh hv;obtain⟨a,cap,rfl,h1,h2,hc⟩:=hv.1.at encPat_len;unfold maxLen at h2;have HC:=Lh hc;have HG:=Lh ((anw w #[.slice a xs.length cap] 34).alloc (.cells (cP q) 25));have HQ:=Lh (an2 w (.cells #[.slice a xs.length cap] 34) (cP q) 25);have HB:=Lh ((bnew (w:=w) (.cells #[.slice a xs.length cap] 34)).alloc (by simp) (.cells (cP q) 25));clear hv hc;unfold rgV pidV;go_enter Tryz.func130,Tryz.ntmps130;go_upto_region 1 with fail;generalize (w.alloc (.cells #[.slice a xs.length cap] 34)).alloc (.cells (cP q) 25)=w0 at *;go_wp2;go_loopw [5] (fun v5 wr=>∃ k:Nat,k≤xs.length∧v5=.int .i64 k∧Hid ((xs.take k).any (fun x=>decide (x.p.id=q))=false)∧Be w0 wr) (fun v5 _=>xs.length - (intOf v5).toNat)
 case atStart=>exact⟨0,by omega,rfl,(by show _=_;simp),Below.refl _ _⟩
 obtain⟨k,hk,rfl,HM,hbl⟩:=hrel;have HBr:=Lh (bvo HB.o hbl);have HGr:=Lh (HG.o.over hbl);have HQr:=Lh (HQ.o.over hbl);obtain⟨g0,sg⟩:=HGr.o.c1;obtain⟨q0,q1,sq⟩:=HQr.o.c2
 by_cases hlt:k<xs.length
 rotate_left
 ·
  obtain rfl:k=xs.length:=by omega
  have hn:=HM.o;rw [List.take_length] at hn;have HN:=Lh hn;clear HM hn;go_wp2;go_ret;exact⟨rvb (HN.o),HBr.o⟩
 obtain⟨bo,off,rfl,sb,hcb⟩:=HC.o.resolve_left (by omega);obtain⟨x,hx⟩:=gol hlt;have HX:=Lh hx;have HRx:=Lh (hcb k x hx wr HBr.o);obtain⟨x0,x1,x2,x3,sx⟩:=rc4 HRx.o;clear hcb hx
 by_cases hq:x.p.id=q
 ·
  have e1:=eql_pid x.p.id q true (by simp [hq]);unfold pidV at e1;have HN:=Lh (any_yes (f:=fun x=>decide (x.p.id=q)) HX.o (by simp [hq]));clear hq;go_wp2_with fail;refine wlo 8 fun hcur=>?_;repeat refine lxq ?_
  refine lxe ?_;clear hcur;go_wp2;go_ret;exact⟨rvb (HN.o),HBr.o.drew⟩
 have e1:=eql_pid x.p.id q false (by simp [hq]);unfold pidV at e1;have HN:=Lh (any_step HM.o HX.o (by simp [hq]));clear hq;go_wp2_with fail;refine wlo 8 fun hcur=>?_;repeat refine lxq ?_
 refine lxe ?_;clear hcur;go_wp2;go_roundw
 case rel=>exact⟨k+1,hlt,by go_num,HN,hbl.drew⟩
 simp [intOf];omega
def killP(v:VidM)(o:OpM):Bool:=decide (o.kind=5) && decide (o.at'=v)
theorem dead_any(xs:List LaidP)(v:VidM):deadM (patsOf xs) v=xs.any fun x=>x.p.ops.any (killP v):=by unfold deadM;rw [List.any_map];rfl
theorem kill_yes(h:o.kind.toNat=5)(h2:o.at'=v):killP v o=true:=by unfold killP;simp [(u8_nat o.kind 5 (by omega)).2 h,h2]
theorem kill_no1(h:¬ o.kind.toNat=5):killP v o=false:=by unfold killP;have:¬ o.kind=5:=fun e=>h (by rw [e];rfl);simp [this]
theorem kill_no2(h:¬ o.at'=v):killP v o=false:=by unfold killP;simp [h]
attribute [local irreducible] killP
theorem rdead20_any(gv:Value)(xs:List LaidP)(v:VidM)(w:World)(hv:Pats w gv xs) :
  Calls Tryz.prog 208 #[rgV gv,vidV v] w fun e w'=>e=.returned (.bool (deadM (patsOf xs) v))∧Be w w':=by
 rw [dead_any];have gd:=fun p q xs ys w=>guard_vid .eql p q xs ys w;have HV:=Lh hv;obtain⟨a,cap,rfl,h1,h2,hc⟩:=hv.1.at encPat_len;unfold maxLen at h2;have HC:=Lh hc;have HG:=Lh ((anw w #[.slice a xs.length cap] 34).alloc (.cells (cV v) 74));have HQ:=Lh (an2 w (.cells #[.slice a xs.length cap] 34) (cV v) 74);have HB:=Lh ((bnew (w:=w) (.cells #[.slice a xs.length cap] 34)).alloc (by simp) (.cells (cV v) 74));clear hv hc;unfold rgV vidV;go_enter Tryz.func208,Tryz.ntmps208;go_upto_region 1 with fail;generalize (w.alloc (.cells #[.slice a xs.length cap] 34)).alloc (.cells (cV v) 74)=w0 at *;go_wp2;go_loopw [5] (fun v5 wr=>∃ k:Nat,k≤xs.length∧v5=.int .i64 k∧Hid ((xs.take k).any (fun x=>x.p.ops.any (killP v))=false)∧Be w0 wr) (fun v5 _=>xs.length - (intOf v5).toNat)
 case atStart=>exact⟨0,by omega,rfl,(by show _=_;simp),Below.refl _ _⟩
 obtain⟨k,hk,rfl,HM,hbl⟩:=hrel;have HBr:=Lh (bvo HB.o hbl);have HGr:=Lh (HG.o.over hbl);have HQr:=Lh (HQ.o.over hbl);rename World=>wo;obtain⟨g0,sg⟩:=HGr.o.c1;obtain⟨q0,q1,q2,sq⟩:=HQr.o.c3
 by_cases hlt:k<xs.length
 rotate_left
 ·
  obtain rfl:k=xs.length:=by omega
  have hn:=HM.o;rw [List.take_length] at hn;have HN:=Lh hn;clear HM hn;go_wp2;go_ret;exact⟨rvb (HN.o),HBr.o⟩
 obtain⟨bo,off,rfl,sb,hcb⟩:=HC.o.resolve_left (by omega);obtain⟨x,hx⟩:=gol hlt;have HX:=Lh hx;have hp:PatOk w x:=HV.o.2 x (List.mem_of_getElem? hx);obtain⟨ao,capo,hov,t1,t2,hco⟩:=hp.2.at encOp_len;unfold maxLen at t2;have HCo:=Lh hco;have HCb:=Lh (hcb k x hx);clear hcb hx hp hco;go_wp2_with fail;clear g0 sg q0 q1 q2 sq;go_loopw [6] (fun v6 wr=>∃ j:Nat,j≤x.p.ops.length∧v6=.int .i64 j∧Hid ((x.p.ops.take j).any (killP v)=false)∧Be wo wr) (fun v6 _=>x.p.ops.length - (intOf v6).toNat)
 case atStart=>exact⟨0,by omega,rfl,(by show _=_;simp),Below.refl _ _⟩
 obtain⟨j,hj,rfl,HMj,hbj⟩:=hrel;have HB5:=Lh (bvo HBr.o hbj);have HG5:=Lh (HGr.o.over hbj);have HQ5:=Lh (HQr.o.over hbj);have HRx:=Lh (HCb.o wr HB5.o);obtain⟨g0,sg⟩:=HG5.o.c1;obtain⟨q0,q1,q2,sq⟩:=HQ5.o.c3;obtain⟨x0,x1,x2,x3,sx⟩:=rc4 HRx.o;rw [hov] at x3
 by_cases hlj:j<x.p.ops.length
 rotate_left
 ·
  obtain rfl:j=x.p.ops.length:=by omega
  have hn:=HMj.o;rw [List.take_length] at hn;have HN:=Lh (any_step HM.o HX.o hn);have hb7:=bvo hbl hbj;clear HMj hn;go_wp2;go_roundw
  case rel=>exact⟨k+1,hlt,by go_num,HN,hb7⟩
  simp [intOf];omega
 obtain⟨b2,off2,rfl,sb2,hcb2⟩:=HCo.o.resolve_left (by omega);obtain⟨o,ho⟩:=gol hlj;have HO:=Lh ho;have HRo:=Lh (hcb2 j o ho wr HB5.o);clear hcb2 ho;obtain⟨o0,o1,o2,o3,o4,o5,o6,o7,so⟩:=rc8 HRo.o;go_upto_region 8 with fail;have HO6:=Lh (anw wr (cO o) 76);have hb6:=hbj.alloc hbj.size (.cells (cO o) 76);have HQ6:=Lh (HQ5.o.alloc (.cells (cO o) 76));have HB6:=Lh (HB5.o.alloc HB5.o.size (.cells (cO o) 76));generalize wr.alloc (.cells (cO o) 76)=w6 at *;clear o0 o1 o2 o3 o4 o5 o6 o7 so x0 x1 x2 x3 sx g0 sg q0 q1 q2 sq;obtain⟨o0,o1,o2,o3,o4,o5,o6,o7,so⟩:=HO6.o.c8;obtain⟨q0,q1,q2,sq⟩:=HQ6.o.c3
 by_cases h5:o.kind.toNat=5
 ·
  have e5:((o.kind.toNat:Int) == 5)=true:=by simp;omega
  by_cases ha:o.at'=v
  · have e1:=eql_vid o.at' v true (by simp [ha]);unfold vidV at e1;have HN:=Lh (any_yes (f:=fun x=>x.p.ops.any (killP v)) HX.o (any_yes HO.o (kill_yes h5 ha)));clear h5 ha;go_wp2;go_ret;exact⟨rvb (HN.o),HB6.o⟩
  have e1:=eql_vid o.at' v false (by simp [ha]);unfold vidV at e1;have HN:=Lh (any_step HMj.o HO.o (kill_no2 ha));clear h5 ha;go_wp2;go_roundw
  case rel=>exact⟨j+1,hlj,by go_num,HN,hb6⟩
  simp [intOf];omega
 have e5:((o.kind.toNat:Int) == 5)=false:=by simp;omega
 have HN:=Lh (any_step HMj.o HO.o (kill_no1 (v:=v) h5));clear h5;go_wp2;go_roundw
 case rel=>exact⟨j+1,hlj,by go_num,HN,hb6⟩
 simp [intOf];omega
end
section
variable{x:LaidP}{o:OpM}{α:Type}{v:VidM}
theorem vertOp_any(xs:List LaidP)(v:VidM):vertOp (patsOf xs) v=xs.findSome? fun x=>madeBy x.p v:=by unfold vertOp;rw [List.findSome?_map];rfl
theorem find_at{β:Type}{f:α→Option β}:∀ {xs:List α} {k:Nat} {x:α} {y:β},(xs.take k).any (fun x=>(f x).isSome)=false→xs[k]? = some x→f x=some y→xs.findSome? f=some y
 | [],_,_,_,_,h,_=>by simp at h
 | z :: xs,0,x,y,_,h,hf=>by simp at h;subst h;rw [List.findSome?_cons,hf]
 | z :: xs,k+1,x,y,h1,h,hf=>by
  rw [List.take_succ_cons,List.any_cons,Bool.or_eq_false_iff] at h1;have hz:f z=none:=by cases hq:f z with|none=>rfl|some q=>rw [hq] at h1;simp at h1
  rw [List.findSome?_cons,hz];exact find_at h1.2 (by simpa using h) hf
theorem find_no{β:Type}{f:α→Option β}{xs:List α}(h:xs.any (fun x=>(f x).isSome)=false):xs.findSome? f=none:=by
 rw [List.findSome?_eq_none_iff];intro x hx;cases hq:f x with
 | none=>rfl
 | some q=>have:=(List.any_eq_false.1 h) x hx;rw [hq] at this;simp at this
theorem vert_some{xs:List LaidP}(h:vertOp (patsOf xs) v=some o):vertM (patsOf xs) v=some ⟨v,o.kind,fileOf v o,o.text,deadM (patsOf xs) v⟩:=by unfold vertM;rw [h];rfl
theorem vert_none{xs:List LaidP}(h:vertOp (patsOf xs) v=none):vertM (patsOf xs) v=none:=by unfold vertM;rw [h];rfl
theorem made_far(h:¬ x.p.id=v.pid):madeBy x.p v=none:=by unfold madeBy;rw [if_neg h]
theorem made_out(h:¬ v.n.toNat<x.p.ops.length):madeBy x.p v=none:=by unfold madeBy;rw [List.getElem?_eq_none (by omega)];simp
theorem made_no(ho:x.p.ops[v.n.toNat]? = some o)(hm:makesB o.kind=false):madeBy x.p v=none:=by unfold madeBy;rw [ho];simp [hm,Option.filter]
theorem made_yes(h:x.p.id=v.pid)(ho:x.p.ops[v.n.toNat]? = some o)(hm:makesB o.kind=true):madeBy x.p v=some o:=by unfold madeBy;rw [if_pos h,ho];simp [hm,Option.filter]
theorem fileOf_yes(h:o.kind.toNat=1):fileOf v o=v:=by unfold fileOf;have:o.kind=1:=(u8_nat o.kind 1 (by omega)).2 h;rw [if_pos this]
theorem fileOf_no(h:¬ o.kind.toNat=1):fileOf v o=o.at':=by unfold fileOf;rw [if_neg (fun e=>h (by rw [e];rfl))]
theorem isSome_none'{x:Option α}(h:x=none):x.isSome=false:=by rw [h];rfl
attribute [local irreducible] madeBy vertM deadM vertOp
theorem rvert20_any(gv:Value)(xs:List LaidP)(v:VidM)(w:World)(hv:Pats w gv xs)(hl:∀ x∈xs,x.p.ops.length≤40000) :
  Calls Tryz.prog 131 #[rgV gv,vidV v] w (VertRes w (vertM (patsOf xs) v)):=by
 have HV:=Lh hv;have HL:=Lh hl;obtain⟨a,cap,rfl,h1,h2,hc⟩:=hv.1.at encPat_len;unfold maxLen at h2;have HC:=Lh hc;have HG:=Lh (((anw w #[.slice a xs.length cap] 34).alloc (.cells (cV v) 74)).alloc (.cells #[.int .u8 0,.int .u16 0,.int .u8 0,.int .u8 0,.int .u8 0,.int .u16 0,.int .u8 0,.string ⟨#[]⟩,.bool false] 101));have HQ:=Lh ((an2 w (.cells #[.slice a xs.length cap] 34) (cV v) 74).alloc (.cells #[.int .u8 0,.int .u16 0,.int .u8 0,.int .u8 0,.int .u8 0,.int .u16 0,.int .u8 0,.string ⟨#[]⟩,.bool false] 101));have HR:=Lh (arr_new3 w (.cells #[.slice a xs.length cap] 34) (.cells (cV v) 74) #[.int .u8 0,.int .u16 0,.int .u8 0,.int .u8 0,.int .u8 0,.int .u16 0,.int .u8 0,.string ⟨#[]⟩,.bool false] 101);have HB:=Lh (((bnew (w:=w) (.cells #[.slice a xs.length cap] 34)).alloc (by simp) (.cells (cV v) 74)).alloc (by simp;omega) (.cells #[.int .u8 0,.int .u16 0,.int .u8 0,.int .u8 0,.int .u8 0,.int .u16 0,.int .u8 0,.string ⟨#[]⟩,.bool false] 101));have gd:=fun p q xs ys w=>guard_pid .neq p q xs ys w;have hnl:=v.n.toNat_lt;clear hv hc hl;unfold rgV vidV;go_enter Tryz.func131,Tryz.ntmps131;go_upto_region 1 with fail;generalize ((w.alloc (.cells #[.slice a xs.length cap] 34)).alloc (.cells (cV v) 74)).alloc (.cells #[.int .u8 0,.int .u16 0,.int .u8 0,.int .u8 0,.int .u8 0,.int .u16 0,.int .u8 0,.string ⟨#[]⟩,.bool false] 101)=w0 at *;go_wp2;go_loopw [6] (fun v6 wr=>∃ k:Nat,k≤xs.length∧v6=.int .i64 k∧Hid ((xs.take k).any (fun x=>(madeBy x.p v).isSome)=false)∧Be w0 wr) (fun v6 _=>xs.length - (intOf v6).toNat)
 case atStart=>exact⟨0,by omega,rfl,(by show _=_;simp),Below.refl _ _⟩
 obtain⟨k,hk,rfl,HM,hbl⟩:=hrel;have HBr:=Lh (bvo HB.o hbl);have HGr:=Lh (HG.o.over hbl);have HQr:=Lh (HQ.o.over hbl);have HRr:=Lh (HR.o.over hbl);obtain⟨g0,sg⟩:=HGr.o.c1;obtain⟨q0,q1,q2,sq⟩:=HQr.o.c3
 by_cases hlt:k<xs.length
 rotate_left
 ·
  obtain rfl:k=xs.length:=by omega
  have hn:=HM.o;rw [List.take_length] at hn;have HK:=Lh (vert_none ((vertOp_any xs v).trans (find_no hn)));clear HM hn;go_wp2_with (first|((with_reducible show wpList _ _ _ ({dst:=_,op:=.store _ _ _,type:=_,pos:=_,after:=_,guard:=_} :: _) _ _);refine wpList_store_arr rowVert rfl _ _ rfl _ _ (encVert noVert) HRr.o rfl rfl rfl rfl rfl ?_));exact bodyPost_ret (v:=.tuple #[vertV noVert,.bool false]) (rasl rowVert rfl (HRr.o.row (encVert noVert)) rfl rfl rfl) rfl (vertRes_of HK.o rfl rfl (below_setRow HBr.o (by omega) _))
 obtain⟨bo,off,rfl,sb,hcb⟩:=HC.o.resolve_left (by omega);obtain⟨x,hx⟩:=gol hlt;have HX:=Lh hx;have hp:PatOk w x:=HV.o.2 x (List.mem_of_getElem? hx);have hlx:=HL.o x (List.mem_of_getElem? hx);obtain⟨ao,capo,hov,t1,t2,hco⟩:=hp.2.at encOp_len;obtain⟨ad,capd,hdv,_,_,_⟩:=hp.1.at encPid_len;unfold maxLen at t2;have HCo:=Lh hco;have HRx:=Lh (hcb k x hx wr HBr.o);obtain⟨x0,x1,x2,x3,sx⟩:=rc4 HRx.o;rw [hov] at x3;rw [hdv] at x2;clear hcb hx hp hco;go_upto_region 5 with fail;have HP4:Hid (Arr (wr.alloc (.cells #[.int .u8 x.p.id.author.toNat,.int .u16 x.p.id.seq.toNat,.slice ad x.p.deps.length capd,.slice ao x.p.ops.length capo] 44)) wr.heap.size [.int .u8 x.p.id.author.toNat,.int .u16 x.p.id.seq.toNat,.slice ad x.p.deps.length capd,.slice ao x.p.ops.length capo]):=Lh (anw wr _ _);have hb4:=hbl.alloc hbl.size (.cells #[.int .u8 x.p.id.author.toNat,.int .u16 x.p.id.seq.toNat,.slice ad x.p.deps.length capd,.slice ao x.p.ops.length capo] 44);have HB4:=Lh (HBr.o.alloc HBr.o.size (.cells #[.int .u8 x.p.id.author.toNat,.int .u16 x.p.id.seq.toNat,.slice ad x.p.deps.length capd,.slice ao x.p.ops.length capo] 44));have HG4:=Lh (HGr.o.alloc (.cells #[.int .u8 x.p.id.author.toNat,.int .u16 x.p.id.seq.toNat,.slice ad x.p.deps.length capd,.slice ao x.p.ops.length capo] 44));have HQ4:=Lh (HQr.o.alloc (.cells #[.int .u8 x.p.id.author.toNat,.int .u16 x.p.id.seq.toNat,.slice ad x.p.deps.length capd,.slice ao x.p.ops.length capo] 44));have HR4:=Lh (HRr.o.alloc (.cells #[.int .u8 x.p.id.author.toNat,.int .u16 x.p.id.seq.toNat,.slice ad x.p.deps.length capd,.slice ao x.p.ops.length capo] 44));generalize wr.alloc (.cells #[.int .u8 x.p.id.author.toNat,.int .u16 x.p.id.seq.toNat,.slice ad x.p.deps.length capd,.slice ao x.p.ops.length capo] 44)=w4 at *;clear g0 sg q0 q1 q2 sq x0 x1 x2 x3 sx;obtain⟨p0,p1,p2,p3,sp⟩:=HP4.o.c4;obtain⟨g0,sg⟩:=HG4.o.c1;obtain⟨q0,q1,q2,sq⟩:=HQ4.o.c3
 by_cases hp':x.p.id=v.pid
 rotate_left
 ·
  have e1:=neq_pid x.p.id v.pid true (by simp [hp']);unfold pidV at e1;have HN:=Lh (any_step HM.o HX.o (isSome_none' (made_far hp')));clear hp';go_wp2;go_roundw
  case rel=>exact⟨k+1,hlt,by go_num,HN,hb4⟩
  simp [intOf];omega
 have e1:=neq_pid x.p.id v.pid false (by simp [hp']);unfold pidV at e1
 by_cases hn:v.n.toNat<x.p.ops.length
 rotate_left
 ·
  have e2:decide (x.p.ops.length≤v.n.toNat)=true:=by simp;omega
  have HN:=Lh (any_step HM.o HX.o (isSome_none' (made_out hn)));clear hp' hn;go_wp2;go_roundw
  case rel=>exact⟨k+1,hlt,by go_num,HN,hb4⟩
  simp [intOf];omega
 have e2:decide (x.p.ops.length≤v.n.toNat)=false:=by simp;omega
 have e3:decide (v.n.toNat<x.p.ops.length)=true:=by simpa using hn
 obtain⟨b2,off2,rfl,sb2,hcb2⟩:=HCo.o.resolve_left (by omega);obtain⟨o,ho⟩:=get_op hn;have HOo:=Lh ho;have HRo:=Lh (hcb2 v.n.toNat o ho w4 HB4.o);obtain⟨o0,o1,o2,o3,o4,o5,o6,o7,so⟩:=rc8 HRo.o;clear hcb2 ho;cases hmk:makesB o.kind with
 | false =>
  have HMK:=Lh hmk;have HN:=Lh (any_step HM.o HX.o (isSome_none' (made_no HOo.o hmk)));clear hp' hmk;go_wp2_with (first|(go_at_call 207;(with_reducible refine(rmakes_any o.kind _).mono ?_);rintro e w9 ⟨rfl,hw9⟩;obtain rfl:=hw9.symm;rw [HMK.o]));go_roundw
  case rel=>exact⟨k+1,hlt,by go_num,HN,hb4⟩
  simp [intOf];omega
 | true =>
  have HMK:=Lh hmk;clear hmk
  by_cases h1:o.kind.toNat=1
  ·
   have e5:((o.kind.toNat:Int) == 1)=true:=(by simp;omega);have HY:=Lh ((vert_some ((vertOp_any xs v).trans (find_at (f:=fun x=>madeBy x.p v) HM.o HX.o (made_yes hp' HOo.o HMK.o)))).trans (by rw [fileOf_yes h1]:_=some ⟨v,o.kind,v,o.text,deadM (patsOf xs) v⟩));generalize hdd:deadM (patsOf xs) v=d at *;have HD:=Lh hdd;clear hdd h1 hp';go_upto_region 10 with(first|(go_at_call 207;(with_reducible refine(rmakes_any o.kind _).mono ?_);rintro e w9 ⟨rfl,hw9⟩;obtain rfl:=hw9.symm;rw [HMK.o]))
   have HO8:=Lh ((anw w4 (cO o) 76).alloc (.cells (cV v) 74));have HF8:=Lh (an2 w4 (.cells (cO o) 76) (cV v) 74);have HG8:=Lh ((HG4.o.alloc (.cells (cO o) 76)).alloc (.cells (cV v) 74));have HQ8:=Lh ((HQ4.o.alloc (.cells (cO o) 76)).alloc (.cells (cV v) 74));have HR8:=Lh ((HR4.o.alloc (.cells (cO o) 76)).alloc (.cells (cV v) 74));have HB8:=Lh ((HB4.o.alloc HB4.o.size (.cells (cO o) 76)).alloc (Below.size (HB4.o.alloc HB4.o.size (.cells (cO o) 76))) (.cells (cV v) 74));have HV8:=Lh (HV.o.over HB8.o);have j0:¬ w.heap.size=w.heap.size+1+1:=(by omega);have j1:¬ w.heap.size+1=w.heap.size+1+1:=(by omega);have j2:¬ w4.heap.size=w.heap.size+1+1:=(by have:=HR4.o.lt;omega);have j4:¬ w4.heap.size=w.heap.size+1:=(by have:=HR4.o.lt;omega);have j3:¬ w4.heap.size+1=w.heap.size+1+1:=(by have:=HR4.o.lt;omega);generalize (w4.alloc (.cells (cO o) 76)).alloc (.cells (cV v) 74)=w8 at *;clear p0 p1 p2 p3 sp g0 sg q0 q1 q2 sq o0 o1 o2 o3 o4 o5 o6 o7 so HP4 HG4 HQ4 HR4 HRo HRx;obtain⟨o0,o1,o2,o3,o4,o5,o6,o7,so⟩:=HO8.o.c8;obtain⟨f0,f1,f2,sf⟩:=HF8.o.c3;obtain⟨g0,sg⟩:=HG8.o.c1;obtain⟨q0,q1,q2,sq⟩:=HQ8.o.c3;have hcur:World.grownBy w8 w8.drew (some (w.heap.size+1+1)):=⟨rfl,rfl,rfl,Nat.le_refl _,fun _ _ _=>rfl⟩;refine wlex (C:=IsKept w8 (some (w.heap.size+1+1))) 12 [] (by kernel_rfl) (by kernel_rfl) (isKept_of hcur) ?_;simp only [Tsc,Tz,Dsc,Dz];(repeat(first|refine lxq ?_|(refine lxl rfl ?_;go_wp2_with (first|(go_at_call 208;(with_reducible refine(rdead20_any _ xs v _ (HV8.o.over (Below.refl _ _).drew)).mono ?_);rintro e w9 ⟨rfl,hb⟩;rw [HD.o];replace hcur:=gtr hcur (grown_of_below hb);have HR9:=Lh (HR8.o.drew.over hb);have HB9:=Lh (bov HB8.o.drew (Below.size HB8.o.drew) hb);clear hb));refine⟨isKept_of (by first|exact hcur|exact only_alloc hcur _),?_⟩)));refine lxl rfl ?_;refine wpList_store_arr rowVert rfl _ _ rfl _ _ [.int .u8 v.pid.author.toNat,.int .u16 v.pid.seq.toNat,.int .u8 v.n.toNat,.int .u8 o.kind.toNat,.int .u8 v.pid.author.toNat,.int .u16 v.pid.seq.toNat,.int .u8 v.n.toNat,.string o.text,.bool d] HR9.o rfl rfl rfl rfl rfl ?_;go_step;refine⟨rfl,isKept_of (gtr hcur (grown_row _)),?_⟩;simp only [Act.put,Sib,Scs,Scz];refine lxo rfl ?_;go_big_quiet_step (fail);refine wpQuiet_nil ?_;refine lxe ?_;clear hcur;go_wp2_with fail;exact bodyPost_ret (v:=.tuple #[vertV ⟨v,o.kind,v,o.text,d⟩,.bool true]) (rasl rowVert rfl (HR9.o.row [.int .u8 v.pid.author.toNat,.int .u16 v.pid.seq.toNat,.int .u8 v.n.toNat,.int .u8 o.kind.toNat,.int .u8 v.pid.author.toNat,.int .u16 v.pid.seq.toNat,.int .u8 v.n.toNat,.string o.text,.bool d]) rfl rfl rfl) rfl (vertRes_of HY.o rfl rfl (below_setRow HB9.o (by omega) _))
  have e5:((o.kind.toNat:Int) == 1)=false:=by simp;omega
  have HY:=Lh ((vert_some ((vertOp_any xs v).trans (find_at (f:=fun x=>madeBy x.p v) HM.o HX.o (made_yes hp' HOo.o HMK.o)))).trans (by rw [fileOf_no h1]:_=some ⟨v,o.kind,o.at',o.text,deadM (patsOf xs) v⟩));generalize hdd:deadM (patsOf xs) v=d at *;have HD:=Lh hdd;clear hdd h1 hp';go_upto_region 10 with(first|(go_at_call 207;(with_reducible refine(rmakes_any o.kind _).mono ?_);rintro e w9 ⟨rfl,hw9⟩;obtain rfl:=hw9.symm;rw [HMK.o]))
  have HO8:=Lh ((anw w4 (cO o) 76).alloc (.cells (cV o.at') 74));have HF8:=Lh (an2 w4 (.cells (cO o) 76) (cV o.at') 74);have HG8:=Lh ((HG4.o.alloc (.cells (cO o) 76)).alloc (.cells (cV o.at') 74));have HQ8:=Lh ((HQ4.o.alloc (.cells (cO o) 76)).alloc (.cells (cV o.at') 74));have HR8:=Lh ((HR4.o.alloc (.cells (cO o) 76)).alloc (.cells (cV o.at') 74));have HB8:=Lh ((HB4.o.alloc HB4.o.size (.cells (cO o) 76)).alloc (Below.size (HB4.o.alloc HB4.o.size (.cells (cO o) 76))) (.cells (cV o.at') 74));have HV8:=Lh (HV.o.over HB8.o);have j0:¬ w.heap.size=w.heap.size+1+1:=by omega
  have j1:¬ w.heap.size+1=w.heap.size+1+1:=by omega
  have j2:¬ w4.heap.size=w.heap.size+1+1:=by have:=HR4.o.lt;omega
  have j4:¬ w4.heap.size=w.heap.size+1:=by have:=HR4.o.lt;omega
  have j3:¬ w4.heap.size+1=w.heap.size+1+1:=by have:=HR4.o.lt;omega
  generalize (w4.alloc (.cells (cO o) 76)).alloc (.cells (cV o.at') 74)=w8 at *;clear p0 p1 p2 p3 sp g0 sg q0 q1 q2 sq o0 o1 o2 o3 o4 o5 o6 o7 so HP4 HG4 HQ4 HR4 HRo HRx;obtain⟨o0,o1,o2,o3,o4,o5,o6,o7,so⟩:=HO8.o.c8;obtain⟨f0,f1,f2,sf⟩:=HF8.o.c3;obtain⟨g0,sg⟩:=HG8.o.c1;obtain⟨q0,q1,q2,sq⟩:=HQ8.o.c3;have hcur:World.grownBy w8 w8.drew (some (w.heap.size+1+1)):=⟨rfl,rfl,rfl,Nat.le_refl _,fun _ _ _=>rfl⟩;refine wlex (C:=IsKept w8 (some (w.heap.size+1+1))) 12 [] (by kernel_rfl) (by kernel_rfl) (isKept_of hcur) ?_;simp only [Tsc,Tz,Dsc,Dz];repeat(first|refine lxq ?_|(refine lxl rfl ?_;go_wp2_with (first|(go_at_call 208;(with_reducible refine(rdead20_any _ xs v _ (HV8.o.over (Below.refl _ _).drew)).mono ?_);rintro e w9 ⟨rfl,hb⟩;rw [HD.o];replace hcur:=gtr hcur (grown_of_below hb);have HR9:=Lh (HR8.o.drew.over hb);have HB9:=Lh (bov HB8.o.drew (Below.size HB8.o.drew) hb);clear hb));refine⟨isKept_of (by first|exact hcur|exact only_alloc hcur _),?_⟩))
  refine lxl rfl ?_;refine wpList_store_arr rowVert rfl _ _ rfl _ _ [.int .u8 v.pid.author.toNat,.int .u16 v.pid.seq.toNat,.int .u8 v.n.toNat,.int .u8 o.kind.toNat,.int .u8 o.at'.pid.author.toNat,.int .u16 o.at'.pid.seq.toNat,.int .u8 o.at'.n.toNat,.string o.text,.bool d] HR9.o rfl rfl rfl rfl rfl ?_;go_step;refine⟨rfl,isKept_of (gtr hcur (grown_row _)),?_⟩;simp only [Act.put,Sib,Scs,Scz];refine lxo rfl ?_;go_big_quiet_step (fail);refine wpQuiet_nil ?_;refine lxe ?_;clear hcur;go_wp2_with fail;exact bodyPost_ret (v:=.tuple #[vertV ⟨v,o.kind,o.at',o.text,d⟩,.bool true]) (rasl rowVert rfl (HR9.o.row [.int .u8 v.pid.author.toNat,.int .u16 v.pid.seq.toNat,.int .u8 v.n.toNat,.int .u8 o.kind.toNat,.int .u8 o.at'.pid.author.toNat,.int .u16 o.at'.pid.seq.toNat,.int .u8 o.at'.n.toNat,.string o.text,.bool d]) rfl rfl rfl) rfl (vertRes_of HY.o rfl rfl (below_setRow HB9.o (by omega) _))
end
section
theorem isKind_eq(L:List PatchM)(v:VidM)(k:UInt8):isKind L v k=isK (vertM L v) k:=rfl
attribute [local irreducible] vertM isK optV
theorem ris20_any(gv:Value)(xs:List LaidP)(v:VidM)(k:UInt8)(w:World)(hv:Pats w gv xs)(hl:∀ x∈xs,x.p.ops.length≤40000) :
  Calls Tryz.prog 132 #[rgV gv,vidV v,.int .u8 k.toNat] w fun e w'=>e=.returned (.bool (isKind (patsOf xs) v k))∧Be w w':=by
 rw [isKind_eq];have HL:=Lh hl;have HV:=Lh hv;obtain⟨a,cap,rfl,h1,h2,hc⟩:=hv.1.at encPat_len;unfold maxLen at h2;have HC:=Lh hc;have HG:=Lh ((anw w #[.slice a xs.length cap] 34).alloc (.cells (cV v) 74));have HQ:=Lh (an2 w (.cells #[.slice a xs.length cap] 34) (cV v) 74);have HB:=Lh ((bnew (w:=w) (.cells #[.slice a xs.length cap] 34)).alloc (by simp) (.cells (cV v) 74));clear hv hc hl;generalize hx:vertM (patsOf xs) v=x at *;have HX:=Lh hx;clear hx;unfold rgV vidV;go_enter Tryz.func132,Tryz.ntmps132;go_upto_region 1 with fail;generalize (w.alloc (.cells #[.slice a xs.length cap] 34)).alloc (.cells (cV v) 74)=w0 at *;obtain⟨g0,sg⟩:=HG.o.c1;obtain⟨q0,q1,q2,sq⟩:=HQ.o.c3;have HV0:=Lh (HV.o.over HB.o);go_upto_region 2 with(first|(go_at_call 131;(with_reducible refine(rvert20_any _ xs v _ (HV0.o.over (Below.refl _ _)) HL.o).mono ?_);rintro e w1 ⟨rfl,hb⟩;rw [HX.o];have HB1:=Lh hb;clear hb))
 have HA2:=Lh (anw w1 #[.int .u8 ((optV x).id.pid.author.toNat:Int),.int .u16 ((optV x).id.pid.seq.toNat:Int),.int .u8 ((optV x).id.n.toNat:Int),.int .u8 ((optV x).kind.toNat:Int),.int .u8 ((optV x).file.pid.author.toNat:Int),.int .u16 ((optV x).file.pid.seq.toNat:Int),.int .u8 ((optV x).file.n.toNat:Int),.string (optV x).text,.bool (optV x).dead] 101);have HBx:=Lh (HB1.o.alloc HB1.o.size (.cells #[.int .u8 ((optV x).id.pid.author.toNat:Int),.int .u16 ((optV x).id.pid.seq.toNat:Int),.int .u8 ((optV x).id.n.toNat:Int),.int .u8 ((optV x).kind.toNat:Int),.int .u8 ((optV x).file.pid.author.toNat:Int),.int .u16 ((optV x).file.pid.seq.toNat:Int),.int .u8 ((optV x).file.n.toNat:Int),.string (optV x).text,.bool (optV x).dead] 101));have HB2:=Lh (bvo HB.o HBx.o);generalize w1.alloc (.cells #[.int .u8 ((optV x).id.pid.author.toNat:Int),.int .u16 ((optV x).id.pid.seq.toNat:Int),.int .u8 ((optV x).id.n.toNat:Int),.int .u8 ((optV x).kind.toNat:Int),.int .u8 ((optV x).file.pid.author.toNat:Int),.int .u16 ((optV x).file.pid.seq.toNat:Int),.int .u8 ((optV x).file.n.toNat:Int),.string (optV x).text,.bool (optV x).dead] 101)=w2 at *;clear g0 sg q0 q1 q2 sq;obtain⟨x0,x1,x2,x3,x4,x5,x6,x7,x8,sx⟩:=HA2.o.c9;cases hq:x.isSome with
 | false =>have HK:=Lh (isK_no k hq);go_wp2;go_ret;exact⟨rvb (HK.o),HB2.o⟩
 | true =>
  have k9:(((optV x).kind.toNat:Int) == (k.toNat:Int))=_:=kind_nat (x:=optV x) (n:=k.toNat) (k:=k) rfl;cases hd:decide ((optV x).kind=k) with
  | false =>have HK:=Lh ((isK_yes hq).trans hd);rw [hd] at k9;clear hd;go_wp2;go_ret;exact⟨rvb (HK.o),HB2.o⟩
  | true =>have HK:=Lh ((isK_yes hq).trans hd);rw [hd] at k9;clear hd;go_wp2;go_ret;exact⟨rvb (HK.o),HB2.o⟩
end
section
def aheadM(a b:EdgeM):Bool:=if a.1=b.1 then decide (cmpVid a.2 b.2<0) else decide (cmpVid a.1 b.1<0)
theorem ahead_1{a b:EdgeM}(h:a.1=b.1):aheadM a b=decide (cmpVid a.2 b.2<0):=by unfold aheadM;rw [if_pos h]
theorem ahead_2{a b:EdgeM}(h:¬ a.1=b.1):aheadM a b=decide (cmpVid a.1 b.1<0):=by unfold aheadM;rw [if_neg h]
attribute [local irreducible] aheadM cmpVid
theorem rahead_any(a b:EdgeM)(w:World) :
  Calls Tryz.prog 285 #[edgeV a,edgeV b] w fun e w'=>e=.returned (.bool (aheadM a b))∧Be w w':=by
 have HA:=Lh ((anw w #[.int .u8 a.1.pid.author.toNat,.int .u16 a.1.pid.seq.toNat,.int .u8 a.1.n.toNat,.int .u8 a.2.pid.author.toNat,.int .u16 a.2.pid.seq.toNat,.int .u8 a.2.n.toNat] 133).alloc (.cells #[.int .u8 b.1.pid.author.toNat,.int .u16 b.1.pid.seq.toNat,.int .u8 b.1.n.toNat,.int .u8 b.2.pid.author.toNat,.int .u16 b.2.pid.seq.toNat,.int .u8 b.2.n.toNat] 133));have HC:=Lh (an2 w (.cells #[.int .u8 a.1.pid.author.toNat,.int .u16 a.1.pid.seq.toNat,.int .u8 a.1.n.toNat,.int .u8 a.2.pid.author.toNat,.int .u16 a.2.pid.seq.toNat,.int .u8 a.2.n.toNat] 133) #[.int .u8 b.1.pid.author.toNat,.int .u16 b.1.pid.seq.toNat,.int .u8 b.1.n.toNat,.int .u8 b.2.pid.author.toNat,.int .u16 b.2.pid.seq.toNat,.int .u8 b.2.n.toNat] 133);have HB:=Lh ((bnew (w:=w) (.cells #[.int .u8 a.1.pid.author.toNat,.int .u16 a.1.pid.seq.toNat,.int .u8 a.1.n.toNat,.int .u8 a.2.pid.author.toNat,.int .u16 a.2.pid.seq.toNat,.int .u8 a.2.n.toNat] 133)).alloc (by simp) (.cells #[.int .u8 b.1.pid.author.toNat,.int .u16 b.1.pid.seq.toNat,.int .u8 b.1.n.toNat,.int .u8 b.2.pid.author.toNat,.int .u16 b.2.pid.seq.toNat,.int .u8 b.2.n.toNat] 133));have gd:=fun p q xs ys w=>guard_vid .neq p q xs ys w;unfold edgeV;go_enter Tryz.func285,Tryz.ntmps285;go_upto_region 1 with fail;generalize (w.alloc (.cells #[.int .u8 a.1.pid.author.toNat,.int .u16 a.1.pid.seq.toNat,.int .u8 a.1.n.toNat,.int .u8 a.2.pid.author.toNat,.int .u16 a.2.pid.seq.toNat,.int .u8 a.2.n.toNat] 133)).alloc (.cells #[.int .u8 b.1.pid.author.toNat,.int .u16 b.1.pid.seq.toNat,.int .u8 b.1.n.toNat,.int .u8 b.2.pid.author.toNat,.int .u16 b.2.pid.seq.toNat,.int .u8 b.2.n.toNat] 133)=w0 at *;obtain⟨a0,a1,a2,a3,a4,a5,sa⟩:=HA.o.c6;obtain⟨b0,b1,b2,b3,b4,b5,sb⟩:=HC.o.c6
 by_cases h:a.1=b.1
 · have e1:=neq_vid a.1 b.1 false (by simp [h]);unfold vidV at e1;have HK:=Lh (ahead_1 h);clear h;go_wp2_with (first|(go_at_call 169;go_loud ((with_reducible refine(rcmpVid_any a.2 b.2 _).mono ?_);rintro e w2 ⟨rfl,hb⟩)));go_ret;exact⟨rvb HK.o,bvo HB.o hb⟩
 have e1:=neq_vid a.1 b.1 true (by simp [h]);unfold vidV at e1;have HK:=Lh (ahead_2 h);clear h;go_wp2_with (first|(go_at_call 169;go_loud ((with_reducible refine(rcmpVid_any a.1 b.1 _).mono ?_);rintro e w2 ⟨rfl,hb⟩)));go_ret;exact⟨rvb HK.o,bvo HB.o hb⟩
end
section
def pick1(p:PatchM)(k:Nat):Option VidM:=match p.ops[k]? with|some o=>if makesB o.kind=true then some ⟨p.id,UInt8.ofNat k⟩ else none|none=>none
def idsP(p:PatchM)(k:Nat):List VidM:=(List.range k).filterMap (pick1 p)
def idsX(xs:List LaidP):List VidM:=xs.flatMap fun x=>idsP x.p x.p.ops.length
theorem idsX_eq(xs:List LaidP):idsOf (patsOf xs)=idsX xs:=by unfold idsOf idsX;rw [List.flatMap_map];rfl
theorem idsP_zero(p:PatchM):idsP p 0=[]:=rfl
theorem idsP_yes{p:PatchM}{k:Nat}{o:OpM}(ho:p.ops[k]? = some o)(hm:makesB o.kind=true):idsP p (k+1)=idsP p k++[⟨p.id,UInt8.ofNat k⟩]:=by
 unfold idsP;rw [List.range_succ,List.filterMap_append];have:pick1 p k=some ⟨p.id,UInt8.ofNat k⟩:=by unfold pick1;rw [ho];simp [hm]
 simp [this]
theorem idsP_no{p:PatchM}{k:Nat}{o:OpM}(ho:p.ops[k]? = some o)(hm:makesB o.kind=false):idsP p (k+1)=idsP p k:=by
 unfold idsP;rw [List.range_succ,List.filterMap_append];have:pick1 p k=none:=by unfold pick1;rw [ho];simp [hm]
 simp [this]
theorem idsP_len(p:PatchM)(k:Nat):(idsP p k).length≤k:=by unfold idsP;exact Nat.le_trans (List.length_filterMap_le _ _) (by simp)
theorem idsX_zero(xs:List LaidP):idsX (xs.take 0)=[]:=rfl
theorem idsX_succ{xs:List LaidP}{i:Nat}{x:LaidP}(h:xs[i]? = some x):idsX (xs.take (i+1))=idsX (xs.take i)++idsP x.p x.p.ops.length:=by unfold idsX;rw [take_succ' h,List.flatMap_append];simp
theorem idsX_len:∀(xs:List LaidP),(∀ x∈xs,x.p.ops.length≤260)→(idsX xs).length≤260*xs.length
 | [],_=>by simp [idsX]
 | x :: xs,h=>by have h1:=idsX_len xs (fun y hy=>h y (List.mem_cons_of_mem _ hy));have h2:=idsP_len x.p x.p.ops.length;have h3:=h x (List.mem_cons_self ..);have:idsX (x :: xs)=idsP x.p x.p.ops.length++idsX xs:=rfl;rw [this,List.length_append,List.length_cons];omega
def IdOut(w0:World)(xs:List LaidP)(v3 v4:Value)(wr:World):Prop:=∃ i:Nat,i≤xs.length∧v4=.int .i64 i∧Hid (GOwn encVid 3 74 wr w0.heap.size v3 (idsX (xs.take i)))∧Be w0 wr
def IdIn(w0:World)(p:PatchM)(l:List VidM)(v3 v5:Value)(wr:World):Prop:=∃ k:Nat,k≤p.ops.length∧v5=.int .i64 k∧Hid (GOwn encVid 3 74 wr w0.heap.size v3 (l++idsP p k))∧Be w0 wr
attribute [local irreducible] idsP idsX
theorem rids20_any(gv:Value)(xs:List LaidP)(w:World)(hv:Pats w gv xs)(hn:xs.length≤300)(hl:∀ x∈xs,x.p.ops.length≤260) :
  Calls Tryz.prog 230 #[rgV gv] w (SetRes encVid 3 w (idsM (patsOf xs))):=by
 unfold idsM;rw [idsX_eq];have HL:=Lh hl;have HV:=Lh hv;obtain⟨a,cap,rfl,h1,h2,hc⟩:=hv.1.at encPat_len;unfold maxLen at h2;have HC:=Lh hc;have HG:=Lh (anw w #[.slice a xs.length cap] 34);have HB:=Lh (bnew (w:=w) (.cells #[.slice a xs.length cap] 34));clear hv hc hl;unfold rgV;go_enter Tryz.func230,Tryz.ntmps230;go_upto_region 1 with fail;generalize (w.alloc (.cells #[.slice a xs.length cap] 34))=w0 at *;go_wp2;go_loopw [3,4] (fun v3 v4 wr=>IdOut w0 xs v3 v4 wr) (fun _ v4 _=>xs.length - (intOf v4).toNat)
 case atStart=>exact⟨0,by omega,rfl,(by show GOwn _ _ _ _ _ _ _;rw [idsX_zero];exact gown_nil _ _),Below.refl _ _⟩
 obtain⟨i,hi,rfl,HM,hbl⟩:=hrel;have HBr:=Lh (bvo HB.o hbl);have HGr:=Lh (HG.o.over hbl);rename World=>wo;obtain⟨g0,sg⟩:=HGr.o.c1
 by_cases hlt:i<xs.length
 rotate_left
 ·
  obtain rfl:i=xs.length:=by omega
  have hxl:(idsX xs).length≤260*300:=by have:=idsX_len xs HL.o;omega
  have HE:=HM.o;rw [List.take_length] at HE;have HE2:=Lh HE.row;clear HE HM;go_wp2_with fail;refine(rsetVid_any _ _ _ HE2.o (by omega)).mono ?_;rintro e w2 ⟨u,rfl,hu,hb2⟩;go_wp2;go_ret;exact⟨_,rfl,hu,bvo HBr.o hb2⟩
 obtain⟨bo,off,rfl,sb,hcb⟩:=HC.o.resolve_left (by omega);obtain⟨x,hx⟩:=gol hlt;have HX:=Lh hx;have hp:PatOk w x:=HV.o.2 x (List.mem_of_getElem? hx);have hlx:=HL.o x (List.mem_of_getElem? hx);obtain⟨ao,capo,hov,t1,t2,hco⟩:=hp.2.at encOp_len;unfold maxLen at t2;have HCo:=Lh hco;have HCb:=Lh (hcb i x hx);have HSu:=Lh (idsX_succ hx);have hxl:(idsX (xs.take i)).length≤260*300:=by have:=idsX_len (xs.take i) (fun y hy=>HL.o y (List.mem_of_mem_take hy));rw [List.length_take] at this;omega
 generalize idsX (xs.take i)=Li at *;clear hcb hx hp hco;go_wp2_with fail;clear g0 sg;go_hide hQ;go_loopw [3,5] (fun v3 v5 wi=>IdIn w0 x.p Li v3 v5 wi) (fun _ v5 _=>x.p.ops.length - (intOf v5).toNat)
 case atStart=>exact⟨0,by omega,rfl,(by show GOwn _ _ _ _ _ _ _;rw [idsP_zero,List.append_nil];exact HM.o),hbl⟩
 rename World=>wr;obtain⟨k,hk,rfl,HM2,hbi⟩:=hrel;have hfl:=idsP_len x.p k;have hN:(Li++idsP x.p k).length+1≤1099511627776:=by rw [List.length_append];omega
 have HB5:=Lh (bvo HB.o hbi);have HG5:=Lh (HG.o.over hbi);have HRx:=Lh (HCb.o wr HB5.o);obtain⟨g0,sg⟩:=HG5.o.c1;obtain⟨x0,x1,x2,x3,sx⟩:=rc4 HRx.o;rw [hov] at x3
 by_cases hlk:k<x.p.ops.length
 rotate_left
 ·
  obtain rfl:k=x.p.ops.length:=by omega
  go_wp2;subst hQ;go_wp2;go_roundw
  case rel=>exact⟨i+1,hlt,by go_num,(by show GOwn _ _ _ _ _ _ _;rw [HSu.o];exact HM2.o),hbi⟩
  simp [intOf];omega
 obtain⟨b2,off2,rfl,sb2,hcb2⟩:=HCo.o.resolve_left (by omega);obtain⟨o,ho⟩:=gol hlk;have HO:=Lh ho;have HRo:=Lh (hcb2 k o ho wr HB5.o);obtain⟨o0,so⟩:=rc1 HRo.o;clear hcb2 ho;cases hm:makesB o.kind with
 | false =>
  have HMK:=Lh hm;have HN:=Lh (idsP_no HO.o hm);clear hm;go_wp2_with (first|(go_at_call 207;(with_reducible refine(rmakes_any o.kind _).mono ?_);rintro e w9 ⟨rfl,hw9⟩;obtain rfl:=hw9.symm;rw [HMK.o]));go_roundw
  case rel=>exact⟨k+1,hlk,by go_num,(by show GOwn _ _ _ _ _ _ _;rw [HN.o];exact HM2.o),hbi⟩
  simp [intOf];omega
 | true =>
  have HMK:=Lh hm;have HN:=Lh (idsP_yes HO.o hm);clear hm;go_wp2_with (first|(go_at_call 207;(with_reducible refine(rmakes_any o.kind _).mono ?_);rintro e w9 ⟨rfl,hw9⟩;obtain rfl:=hw9.symm;rw [HMK.o])|(go_at_call 48;(with_reducible refine(rvid_any x.p.id k _ (by omega)).mono ?_);rintro e w7 ⟨rfl,hb⟩;have HM3:=Lh (HM2.o.over hb);have hb7:=bvo hbi hb;have hB3:=hb7.size)|(at_builtin;refine apD slVid rfl _ _ rfl w0.heap.size _ _ (drf _) 1 _ _ _ HM3.o rfl rfl rfl rfl hN (by decide) hB3 ?_;intro v2 w2 ho2 hg2));go_roundw
  case rel=>exact⟨k+1,hlk,by go_num,(by show GOwn _ _ _ _ _ _ _;rw [HN.o,← List.append_assoc];exact GOwn.snoc ho2),bgr hb7 hB3 HM3.o hg2⟩
  simp [intOf];omega
end
theorem under_edge:Tryz.prog.underlying 133=some (.array 2 74):=by kernel_rfl
theorem cellsOf_vid:Tryz.prog.cellsOf 74=3:=by kernel_rfl
theorem equal_edge(d:Nat)(x y:EdgeM)(w:World):(Op.equalIn (d+5) 133 (edgeV x) (edgeV y)).run Tryz.prog w=.ok (decide (x=y)) w:=by
 obtain⟨_,i,_,_,hi,_⟩:=rowT_vid.out;have h1:∀ w,(Op.equalIn (d+4) 74 (vidV x.1) (vidV y.1)).run Tryz.prog w=.ok (decide (x.1=y.1)) w:=equal_vid d x.1 y.1;have h2:∀ w,(Op.equalIn (d+4) 74 (vidV x.2) (vidV y.2)).run Tryz.prog w=.ok (decide (x.2=y.2)) w:=equal_vid d x.2 y.2;have z1:=Tryz.sizeOf74;have z3:=Tryz.isAgg74;unfold edgeV;unfold vidV at h1 h2;rw [show d+5=(d+4)+1 from rfl,run_equalIn_array w (d+4) _ _ under_edge hi,cellsOf_vid];simp [go_sem,Op.eqItems,List.range_succ,z1,z3,h1,h2];obtain⟨a,b⟩:=x;obtain⟨a',b'⟩:=y
 by_cases e1:a=a' <;> by_cases e2:b=b' <;> simp [e1,e2]
theorem eql_edge(x y:EdgeM)(b:Bool)(h:decide (x=y)=b)(w:World):(binOp .eql 133 (edgeV x) (edgeV y)).run Tryz.prog w=.ok (.bool b) w:=by unfold edgeV;rw [run_eql_struct,show(10000:Nat)=9995+5 from rfl,equal_edge 9995 x y,← h];rfl
theorem neq_edge(x y:EdgeM)(b:Bool)(h:(!decide (x=y))=b)(w:World):(binOp .neq 133 (edgeV x) (edgeV y)).run Tryz.prog w=.ok (.bool b) w:=by unfold edgeV;rw [run_neq_struct,show(10000:Nat)=9995+5 from rfl,equal_edge 9995 x y,← h];rfl
theorem guardEdge:Tryz.prog.eqGuardType Tryz.prog.depth 133=false:=by kernel_rfl
theorem guard_edge(op:BinOp)(p q:Operand)(xs ys:Array Value)(w:World):(eqGuard op 133 p q (.agg xs) (.agg ys)).run Tryz.prog w=.ok () w:=run_eqGuard_agg w op _ p q xs ys guardEdge
theorem encEdge_len(e:EdgeM):(encEdge e).length=6:=rfl
theorem slEdge:SlT Tryz.prog 139 133 6 12:=slT_of Tryz.underlying139 (by kernel_rfl) (by decide)
theorem slVert:SlT Tryz.prog 98 101 9 40:=slT_of Tryz.underlying98 (by kernel_rfl) (by decide)
theorem slPat:SlT Tryz.prog 22 44 4 56:=slT_of Tryz.underlying22 (by kernel_rfl) (by decide)
end Go.Proofs.YtjccmcgglfncdaaGreatDoor
