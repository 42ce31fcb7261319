/- Patches that lie in memory; contract of L20.Build. Contracts of L18.Few, L20.Few. The reference's graph: its patches, in order: contracts of ref20.has, dead. Contracts of ref20.Vert, is. Contract of ref20.is. Contract of ref20.ahead. Contract of ref20.ids. '==' at steps; rows of steps. -/
import Derived.Test.YtanfebljiblhbaaGreatDoorHGraphF
set_option linter.unusedVariables false
set_option linter.unusedSimpArgs false
namespace Go.Proofs.YtanfebljiblhbaaGreatDoor
open Go Go.RowKit

/-- a patch, and where its lists lie -/
structure LaidP where
 p:PatchM
 dv:Value
 ov:Value
def encPat(x:LaidP):List Value:=[.int .u8 x.p.id.author.toNat,.int .u16 x.p.id.seq.toNat,x.dv,x.ov]
theorem encPat_len(x:LaidP):(encPat x).length=4:=rfl
def PatOk(w:World)(x:LaidP):Prop:=GRow encPid 2 w x.dv x.p.deps∧GRow encOp 8 w x.ov x.p.ops
/-- a []api.Patch -/
def Pats(w:World)(v:Value)(xs:List LaidP):Prop:=GRow encPat 4 w v xs∧∀ x∈xs,PatOk w x
theorem Pats.over{w w':World}{v:Value}{xs:List LaidP}(h:Pats w v xs)(hb:Below w.heap.size w w'):Pats w' v xs:=⟨h.1.over hb,fun x hx=>⟨(h.2 x hx).1.over hb,(h.2 x hx).2.over hb⟩⟩
/-- few and small -/
def fewP(p:PatchM):Bool:=decide (p.deps.length≤100) && (decide (p.ops.length≤260) && p.ops.all fun o=>decide (o.text.size≤200))
def fewL(most:Nat)(l:List PatchM):Bool:=decide (l.length≤most) && l.all fun p=>fewP p && decide (p.ops.length≤60)
theorem fewL_len{m:Nat}{l:List PatchM}(h:fewL m l=true):l.length≤m:=by unfold fewL at h;simp at h;exact h.1
theorem fewL_ops{m:Nat}{l:List PatchM}(h:fewL m l=true){p:PatchM}(hp:p∈l):p.ops.length≤60∧∀ o∈p.ops,o.text.size≤200:=by
 unfold fewL fewP at h
 simp only [Bool.and_eq_true,List.all_eq_true,decide_eq_true_eq] at h
 exact⟨(h.2 p hp).2,(h.2 p hp).1.2.2⟩
theorem build_take{l:List PatchM}{k:Nat}{p:PatchM}(h:l[k]? = some p):buildM (l.take (k+1))=applyM (buildM (l.take k)) p:=by
 rw [take_succ' h];unfold buildM;rw [List.foldl_append];rfl
def BuildRes(w:World)(l:List PatchM)(e:Ending)(w':World):Prop:=∃ b bv be n,n≤100*l.length∧e=.returned (.pointer (some ⟨b,0,none⟩))∧GrL w b bv be n (buildM l) w'
set_option maxHeartbeats 4000000 in
set_option maxRecDepth 100000 in
theorem build_any(v:Value)(xs:List LaidP)(m:Nat)(hm:m≤1000)(w:World)(hv:Pats w v xs)(hf:fewL m (xs.map (·.p))=true):Calls Tryz.prog 11 #[v] w (BuildRes w (xs.map (·.p))):=by
 have HV:=Lib.hid hv
 have HF:=Lib.hid hf
 have hlen:xs.length≤1000:=by have:=fewL_len hf;simp at this;omega
 obtain⟨a,cap,rfl,h1,h2,hc⟩:=hv.1.at encPat_len
 unfold maxLen at h2
 have HC:=Lib.hid hc
 clear hv hc hf
 go_enter Tryz.func11,Tryz.ntmps11
 go_wp2_with (first|(go_at_call 32;(with_reducible refine(gnew_any _).mono ?_);rintro e w1 ⟨b,bv,be,rfl,k1,k2,k3,hg,hb⟩))
 have HG:Hid (GrL w b bv be 0 [] w1):=Lib.hid ⟨k1,k2,k3,hg,hb⟩
 clear hg hb k1 k2 k3
 go_loopw [4] (fun v4 wr=>∃ k n:Nat,k≤xs.length∧n≤100*k∧v4=.int .i64 k∧Hid (GrL w b bv be n (buildM ((xs.map (·.p)).take k)) wr)) (fun v4 _=>xs.length - (intOf v4).toNat)
 case atStart=>exact⟨0,0,by omega,by omega,rfl,HG⟩
 case round =>
  obtain⟨k,n,hk,hn,rfl,HGr⟩:=hrel
  by_cases hlt:k<xs.length
  ·
   obtain⟨bo,off,rfl,sb,hcb⟩:=HC.out.resolve_left (by omega)
   obtain⟨x,hx⟩:=get_of_lt hlt
   have HX:=Lib.hid hx
   have hp:PatOk w x:=HV.out.2 x (List.mem_of_getElem? hx)
   have HPd:=Lib.hid hp.1
   have HPo:=Lib.hid hp.2
   have hfx:=fewL_ops HF.out (List.mem_map_of_mem (f:=(·.p)) (List.mem_of_getElem? hx))
   have hl6:x.p.ops.length≤60:=hfx.1
   have HZ:Hid (∀ o∈x.p.ops,o.text.size≤maxLen):=Lib.hid fun o ho=>Nat.le_trans (hfx.2 o ho) (by unfold maxLen;omega)
   have HRx:=Lib.hid (hcb k x hx wr (by obtain⟨_,_,_,_,hb⟩:=HGr.out;exact hb))
   have x0:wr.cell? ⟨bo,off+k*4,none⟩=some (.int .u8 x.p.id.author.toNat):=(HRx.out).2 0 _ rfl
   have x1:wr.cell? ⟨bo,off+k*4+1,none⟩=some (.int .u16 x.p.id.seq.toNat):=(HRx.out).2 1 _ rfl
   have x2:wr.cell? ⟨bo,off+k*4+2,none⟩=some x.dv:=(HRx.out).2 2 _ rfl
   have x3:wr.cell? ⟨bo,off+k*4+3,none⟩=some x.ov:=(HRx.out).2 3 _ rfl
   have sx:=HRx.out.1
   have HS:Hid (buildM ((xs.map (·.p)).take (k+1))=applyM (buildM ((xs.map (·.p)).take k)) x.p):=build_take (by rw [List.getElem?_map,HX.out];rfl)
   clear hcb hx hp hfx
   go_wp2_with (first|(go_at_call 33;go_loud (with_reducible refine(gapply_L b bv be n (buildM ((xs.map (·.p)).take k)) (wf_build _) x.p x.dv x.ov w _ HGr.out HPd.out HPo.out (by omega) HZ.out (by omega)).mono ?_);rintro e w2 ⟨rfl,hgr⟩))
   go_roundw
   case rel=>exact⟨k+1,n+x.p.ops.length,hlt,(by omega),by go_num,(by show GrL _ _ _ _ _ _ _;rw [HS.out];exact hgr)⟩
   case measure=>simp [intOf];omega
  ·
   obtain rfl:k=xs.length:=by omega
   go_wp2_with fail
   go_ret
   refine⟨b,bv,be,n,by simpa using hn,rfl,?_⟩
   have:=HGr.out
   rw [← List.map_take,List.take_length] at this
   exact this
end Go.Proofs.YtanfebljiblhbaaGreatDoor
namespace Go.Proofs.YtanfebljiblhbaaGreatDoor
open Go Go.RowKit

def b01(b:Bool):Int:=if b=true then 1 else 0
theorem b01_t{b:Bool}(h:b=true):b01 b=1:=by unfold b01;rw [if_pos h]
theorem b01_f{b:Bool}(h:b=false):b01 b=0:=by unfold b01;rw [if_neg (by rw [h];decide)]
theorem fewP_a{p:PatchM}(h:¬ p.deps.length≤100):fewP p=false:=by unfold fewP;simp [h]
theorem fewP_b{p:PatchM}(h:¬ p.ops.length≤260):fewP p=false:=by unfold fewP;simp [h]
theorem fewP_c{p:PatchM}{k:Nat}{o:OpM}(ho:p.ops[k]? = some o)(h:¬ o.text.size≤200):fewP p=false:=by
 have:(p.ops.all fun o=>decide (o.text.size≤200))=false:=by
  rw [← Bool.not_eq_true,List.all_eq_true];intro hh;exact h (by simpa using hh o (List.mem_of_getElem? ho))
 unfold fewP;rw [this];simp
theorem fewP_d{p:PatchM}(h:p.deps.length≤100)(h2:p.ops.length≤260)(h3:(p.ops.take p.ops.length).any (fun o => !decide (o.text.size≤200))=false):fewP p=true:=by
 rw [List.take_length] at h3
 have:(p.ops.all fun o=>decide (o.text.size≤200))=true:=by
  cases hh:(p.ops.all fun o=>decide (o.text.size≤200)) with
  | true=>rfl
  | false=>rw [(any_all _ _).2 hh] at h3;cases h3
 unfold fewP;rw [this];simp [h,h2]
attribute [local irreducible] fewP b01
set_option maxHeartbeats 4000000 in
set_option maxRecDepth 100000 in
theorem few18_any(id:PidM)(dv ov:Value)(deps:List PidM)(ops:List OpM)(w:World)(hd:GRow encPid 2 w dv deps)(hv:GRow encOp 8 w ov ops)(hz:∀ o∈ops,o.text.size≤maxLen) :
  Calls Tryz.prog 39 #[patV id dv ov] w fun e w'=>e=.returned (.int .i64 (b01 (fewP ⟨id,deps,ops⟩)))∧Below w.heap.size w w':=by
 obtain⟨a,cap,rfl,h1,h2,hc⟩:=hv.at encOp_len
 obtain⟨ad,capd,rfl,h1d,h2d,hcd⟩:=hd.at encPid_len
 unfold maxLen at h2 h2d
 have HC:=Lib.hid hc
 have HZ:=Lib.hid hz
 have HP:=Lib.hid (arr_new w #[.int .u8 id.author.toNat,.int .u16 id.seq.toNat,.slice ad deps.length capd,.slice a ops.length cap] 71)
 have HB:=Lib.hid (below_new (w:=w) (.cells #[.int .u8 id.author.toNat,.int .u16 id.seq.toNat,.slice ad deps.length capd,.slice a ops.length cap] 71))
 clear hv hc hd hcd hz
 unfold patV
 go_enter Tryz.func39,Tryz.ntmps39
 go_upto_region 1 with(fail)
 generalize hw0:w.alloc (.cells #[.int .u8 id.author.toNat,.int .u16 id.seq.toNat,.slice ad deps.length capd,.slice a ops.length cap] 71)=w0 at *
 clear hw0
 have p2:=HP.out.cell (j:=2) rfl
 have p3:=HP.out.cell (j:=3) rfl
 have sp:=HP.out.lt
 by_cases g1:deps.length≤100
 ·
  have d1:decide ((100:Int)<(deps.length:Int))=false:=by simp;omega
  by_cases g2:ops.length≤260
  ·
   have d2:decide ((260:Int)<(ops.length:Int))=false:=by simp;omega
   have HG1:=Lib.hid g1
   have HG2:=Lib.hid g2
   clear g1 g2
   go_wp2_with fail
   go_loopw [3] (fun v3 wr=>∃ k:Nat,k≤ops.length∧v3=.int .i64 k∧Hid ((ops.take k).any (fun o => !decide (o.text.size≤200))=false)∧wr=w0) (fun v3 _=>ops.length - (intOf v3).toNat)
   case atStart=>exact⟨0,by omega,rfl,(by show _=_;simp),rfl⟩
   case round =>
    obtain⟨k,hk,rfl,HM,rfl⟩:=hrel
    by_cases hlt:k<ops.length
    ·
     obtain⟨b,off,rfl,sb,hcb⟩:=HC.out.resolve_left (by omega)
     obtain⟨o,ho⟩:=get_of_lt hlt
     have HX:=Lib.hid ho
     have HO:=Lib.hid (hcb k o ho _ HB.out)
     have o7:=HO.out.2 7 _ rfl
     have so:=HO.out.1
     have hzo:o.text.size≤2 ^ 63 - 1:=HZ.out o (List.mem_of_getElem? ho)
     clear hcb ho
     by_cases g3:o.text.size≤200
     ·
      have d3:decide ((200:Int)<(o.text.size:Int))=false:=by simp;omega
      have HN:=Lib.hid (any_step HM.out HX.out (by simp [g3]))
      clear g3
      go_wp2_with fail
      go_roundw
      case rel=>exact⟨k+1,hlt,by go_num,HN,trivial⟩
      case measure=>simp [intOf];omega
     ·
      have d3:decide ((200:Int)<(o.text.size:Int))=true:=by simp;omega
      have HN:=Lib.hid (b01_f (fewP_c (p:=⟨id,deps,ops⟩) HX.out g3))
      clear g3
      go_wp2_with fail
      go_ret
      exact⟨ret_val (congrArg (Value.int .i64) HN.out.symm),HB.out⟩
    ·
     obtain rfl:k=ops.length:=by omega
     have HN:=Lib.hid (b01_t (fewP_d (p:=⟨id,deps,ops⟩) HG1.out HG2.out HM.out))
     clear HM
     go_wp2_with fail
     go_ret
     exact⟨ret_val (congrArg (Value.int .i64) HN.out.symm),HB.out⟩
  ·
   have d2:decide ((260:Int)<(ops.length:Int))=true:=by simp;omega
   have HN:=Lib.hid (b01_f (fewP_b (p:=⟨id,deps,ops⟩) g2))
   clear g2
   go_wp2_with fail
   go_ret
   exact⟨ret_val (congrArg (Value.int .i64) HN.out.symm),HB.out⟩
 ·
  have d1:decide ((100:Int)<(deps.length:Int))=true:=by simp;omega
  have HN:=Lib.hid (b01_f (fewP_a (p:=⟨id,deps,ops⟩) g1))
  clear g1
  go_wp2_with fail
  go_ret
  exact⟨ret_val (congrArg (Value.int .i64) HN.out.symm),HB.out⟩

def few1(p:PatchM):Bool:=fewP p && decide (p.ops.length≤60)
theorem fewL_def(m:Nat)(l:List PatchM):fewL m l=(decide (l.length≤m) && l.all few1):=rfl
theorem fewL_a{m:Nat}{l:List PatchM}(h:¬ l.length≤m):fewL m l=false:=by rw [fewL_def];simp [h]
theorem fewL_b{m k:Nat}{xs:List LaidP}{x:LaidP}(hx:xs[k]? = some x)(h:few1 x.p=false):fewL m (xs.map (·.p))=false:=by
 have:(xs.map (·.p)).all few1=false:=by
  rw [← Bool.not_eq_true,List.all_eq_true];intro hh
  rw [hh x.p (List.mem_map_of_mem (List.mem_of_getElem? hx))] at h;cases h
 rw [fewL_def,this];simp
theorem fewL_c{m:Nat}{xs:List LaidP}(h:xs.length≤m)(h3:(xs.take xs.length).any (fun x => !few1 x.p)=false):fewL m (xs.map (·.p))=true:=by
 rw [List.take_length] at h3
 have:(xs.map (·.p)).all few1=true:=by
  cases hh:xs.all (fun x=>few1 x.p) with
  | true=>rw [List.all_map];exact hh
  | false=>rw [(any_all _ _).2 hh] at h3;cases h3
 rw [fewL_def,this];simp [h]
theorem few1_a{x:LaidP}(h:fewP x.p=false):few1 x.p=false:=by unfold few1;rw [h];rfl
theorem few1_b{x:LaidP}(h:¬ x.p.ops.length≤60):few1 x.p=false:=by unfold few1;simp [h]
theorem few1_c{x:LaidP}(h:fewP x.p=true)(h2:x.p.ops.length≤60):few1 x.p=true:=by unfold few1;rw [h];simp [h2]
attribute [local irreducible] few1 fewL
set_option maxHeartbeats 4000000 in
set_option maxRecDepth 100000 in
theorem few20_any(v:Value)(xs:List LaidP)(m:Nat)(hm:m≤1000)(w:World)(hv:Pats w v xs)(hz:∀ x∈xs,∀ o∈x.p.ops,o.text.size≤maxLen) :
  Calls Tryz.prog 9 #[v,.int .i64 m] w fun e w'=>e=.returned (.int .i64 (b01 (fewL m (xs.map (·.p)))))∧Below w.heap.size w w':=by
 have HV:=Lib.hid hv
 have HZ:=Lib.hid hz
 obtain⟨a,cap,rfl,h1,h2,hc⟩:=hv.1.at encPat_len
 unfold maxLen at h2
 have HC:=Lib.hid hc
 clear hv hc hz
 go_enter Tryz.func9,Tryz.ntmps9
 by_cases g1:xs.length≤m
 ·
  have d1:decide (m<xs.length)=false:=by simp;omega
  have HG1:=Lib.hid g1
  clear g1
  go_wp2_with fail
  go_loopw [5] (fun v5 wr=>∃ k:Nat,k≤xs.length∧v5=.int .i64 k∧Hid ((xs.take k).any (fun x => !few1 x.p)=false)∧Below w.heap.size w wr) (fun v5 _=>xs.length - (intOf v5).toNat)
  case atStart=>exact⟨0,by omega,rfl,(by show _=_;simp),Below.refl _ _⟩
  case round =>
   obtain⟨k,hk,rfl,HM,hbl⟩:=hrel
   by_cases hlt:k<xs.length
   ·
    obtain⟨b,off,rfl,sb,hcb⟩:=HC.out.resolve_left (by omega)
    obtain⟨x,hx⟩:=get_of_lt hlt
    have HX:=Lib.hid hx
    have hp:PatOk w x:=HV.out.2 x (List.mem_of_getElem? hx)
    have HPd:=Lib.hid (hp.1.over hbl)
    have HPo:=Lib.hid (hp.2.over hbl)
    have HZx:=Lib.hid (HZ.out x (List.mem_of_getElem? hx))
    obtain⟨ao,capo,hov,q1,q2,_⟩:=HPo.out.at encOp_len
    unfold maxLen at q2
    have HRx:=Lib.hid (hcb k x hx wr hbl)
    have x0:wr.cell? ⟨b,off+k*4,none⟩=some (.int .u8 x.p.id.author.toNat):=(HRx.out).2 0 _ rfl
    have x1:wr.cell? ⟨b,off+k*4+1,none⟩=some (.int .u16 x.p.id.seq.toNat):=(HRx.out).2 1 _ rfl
    have x2:wr.cell? ⟨b,off+k*4+2,none⟩=some x.dv:=(HRx.out).2 2 _ rfl
    have x3:wr.cell? ⟨b,off+k*4+3,none⟩=some x.ov:=(HRx.out).2 3 _ rfl
    have sx:=HRx.out.1
    rw [hov] at x3 HPo
    clear hcb hx hp hov
    cases hf:fewP x.p with
    | false =>
     have HK:=Lib.hid (b01_f hf)
     have HN:=Lib.hid (b01_f (fewL_b (m:=m) HX.out (few1_a hf)))
     clear hf
     go_wp2_with (first|(go_at_call 39;go_loud (with_reducible refine(few18_any x.p.id x.dv _ x.p.deps x.p.ops _ HPd.out HPo.out HZx.out).mono ?_);rintro e w2 ⟨rfl,hb⟩;rw [HK.out]))
     go_ret
     exact⟨ret_val (congrArg (Value.int .i64) HN.out.symm),below_over hbl hbl.size hb⟩
    | true =>
     have HK:=Lib.hid (b01_t hf)
     by_cases g2:x.p.ops.length≤60
     ·
      have d2:decide ((60:Int)<(x.p.ops.length:Int))=false:=by simp;omega
      have HN:=Lib.hid (any_step HM.out HX.out (by rw [few1_c hf g2];rfl))
      clear hf g2
      go_wp2_with (first|(go_at_call 39;go_loud (with_reducible refine(few18_any x.p.id x.dv _ x.p.deps x.p.ops _ HPd.out HPo.out HZx.out).mono ?_);rintro e w2 ⟨rfl,hb⟩;rw [HK.out];have y3:=(hb.cell (p:=⟨b,off+k*4+3,none⟩) sx).trans x3;have sy:=Nat.lt_of_lt_of_le sx hb.size))
      go_roundw
      case rel=>exact⟨k+1,hlt,by go_num,HN,below_over hbl hbl.size hb⟩
      case measure=>simp [intOf];omega
     ·
      have d2:decide ((60:Int)<(x.p.ops.length:Int))=true:=by simp;omega
      have HN:=Lib.hid (b01_f (fewL_b (m:=m) HX.out (few1_b g2)))
      clear hf g2
      go_wp2_with (first|(go_at_call 39;go_loud (with_reducible refine(few18_any x.p.id x.dv _ x.p.deps x.p.ops _ HPd.out HPo.out HZx.out).mono ?_);rintro e w2 ⟨rfl,hb⟩;rw [HK.out];have y3:=(hb.cell (p:=⟨b,off+k*4+3,none⟩) sx).trans x3;have sy:=Nat.lt_of_lt_of_le sx hb.size))
      go_ret
      exact⟨ret_val (congrArg (Value.int .i64) HN.out.symm),below_over hbl hbl.size hb⟩
   ·
    obtain rfl:k=xs.length:=by omega
    have HN:=Lib.hid (b01_t (fewL_c HG1.out HM.out))
    clear HM
    go_wp2_with fail
    go_ret
    exact⟨ret_val (congrArg (Value.int .i64) HN.out.symm),hbl⟩
 ·
  have d1:decide (m<xs.length)=true:=by simp;omega
  have HN:=Lib.hid (b01_f (fewL_a (m:=m) (l:=xs.map (·.p)) (by simpa using g1)))
  clear g1
  go_wp2_with fail
  go_ret
  exact⟨ret_val (congrArg (Value.int .i64) HN.out.symm),Below.refl _ _⟩
end Go.Proofs.YtanfebljiblhbaaGreatDoor
namespace Go.Proofs.YtanfebljiblhbaaGreatDoor
open Go Go.RowKit

abbrev patsOf(xs:List LaidP):List PatchM:=xs.map (·.p)
end Go.Proofs.YtanfebljiblhbaaGreatDoor
namespace Go.Proofs.YtanfebljiblhbaaGreatDoor
open Go Go.RowKit

attribute [local irreducible] madeBy vertM deadM vertOp
end Go.Proofs.YtanfebljiblhbaaGreatDoor
namespace Go.Proofs.YtanfebljiblhbaaGreatDoor
open Go Go.RowKit

attribute [local irreducible] vertM isK optV
end Go.Proofs.YtanfebljiblhbaaGreatDoor
namespace Go.Proofs.YtanfebljiblhbaaGreatDoor
open Go Go.RowKit

attribute [local irreducible] cmpVid
end Go.Proofs.YtanfebljiblhbaaGreatDoor
namespace Go.Proofs.YtanfebljiblhbaaGreatDoor
open Go Go.RowKit

end Go.Proofs.YtanfebljiblhbaaGreatDoor
namespace Go.Proofs.YtanfebljiblhbaaGreatDoor
open Go Go.RowKit

theorem encEdge_len(e:EdgeM):(encEdge e).length=6:=rfl
theorem slEdge:SlT Tryz.prog 156 143 6 12:=slT_of Tryz.underlying156 (by kernel_rfl) (by decide)
end Go.Proofs.YtanfebljiblhbaaGreatDoor
