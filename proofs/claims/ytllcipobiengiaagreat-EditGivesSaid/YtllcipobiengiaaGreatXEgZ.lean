/- What the laws of layer 23 share. EditGives. -/
import Derived.Test.YtllcipobiengiaaGreatXEgB
import Derived.Test.YtllcipobiengiaaGreatXVecG
set_option linter.unusedVariables false
set_option linter.unusedSimpArgs false
namespace Go.Proofs.YtllcipobiengiaaGreat
open Go Go.RowKit

/-- texts of one's own, and a number -/
def LnX(w:World)(ts:List ByteArray)(o:Nat)(e:Ending)(w':World):Prop:=∃ v,e=.returned (.tuple #[v,.int .i64 o])∧GOwn encS1 1 9 w' w.heap.size v ts∧Below w.heap.size w w'
theorem lnres_x(w:World)(l:List VertM)(R:List (Nat × Nat)):LnRes w l R=LnX w (lnSeen l R) (lnOdd l R):=rfl
theorem sameS_self(a:List ByteArray):sameS a a=true:=by unfold sameS;exact decide_eq_true rfl
end Go.Proofs.YtllcipobiengiaaGreat
namespace Go.Proofs.YtllcipobiengiaaGreat
open Go Go.RowKit

theorem row_low{w:World}{v:Value}{n sz:Nat}{cs:List Value}(h:Row w v n sz cs)(hn:0<n){k:Nat}(hk:v.ownBlock=some k):k<w.heap.size:=by
 obtain⟨_,a,cap,rfl,_,_,_,h4⟩:=h
 obtain⟨b,off,rfl,hb,_⟩:=h4 (by omega)
 cases hk;exact hb
theorem Row.bex2{w w1:World}{b bv be:Nat}{v:Value}{n sz:Nat}{cs:List Value}(h:Row w v n sz cs)(ha:0<n→Aside b bv be v)(hx:Bex b bv be w w1):Row w1 v n sz cs:=by
 rcases Nat.eq_zero_or_pos n with h0|h0
 ·
  subst h0
  obtain⟨h0,a,cap,rfl,h1,h2,h3,h4⟩:=h
  exact⟨h0,a,cap,rfl,h1,h2,h3,fun q=>absurd rfl q⟩
 ·
  exact h.bex (ha h0) hx
theorem bex_below{w0 w w1:World}{b bv be:Nat}(h:Below w0.heap.size w0 w)(hx:Bex b bv be w w1)(h1:w0.heap.size≤b)(h2:w0.heap.size≤bv)(h3:w0.heap.size≤be):Below w0.heap.size w0 w1:=
 h.trans ⟨hx.os,hx.tape,hx.output,hx.size,fun k hk=>hx.block k (Nat.lt_of_lt_of_le hk h.size) (by omega) (by omega) (by omega)⟩
def EgRel(w:World)(want:List ByteArray)(v7:Value)(wr:World):Prop:=∃ k:Nat,k≤want.length∧v7=.int .i64 k∧Hid ((want.take k).all lineOk=true)∧Below w.heap.size w wr
theorem eg_sizes{want:List ByteArray}(hx:fewX want=true):∀ t∈want,t.size≤100:=by
 unfold fewX at hx
 simp only [Bool.and_eq_true,List.all_eq_true,decide_eq_true_eq] at hx
 exact hx.2
attribute [local irreducible] idsM filesM linesM relM vertsM edgesM fewL modX editM egOps aliveX firmX lnSeen lnOdd fewX vecM nextM depsM
set_option maxHeartbeats 40000000 in
set_option maxRecDepth 100000 in
theorem egz_any(v wv:Value)(ps:List LaidP)(want:List ByteArray)(k8:UInt8)(w:World)(hv:Pats w v ps)(hz:∀ x∈ps,∀ o∈x.p.ops,o.text.size≤maxLen)(hs:SRow w wv want)
  (hwk:∀ W,Calls Tryz.prog 11 #[] W fun e w'=>e=.returned (.bool true)∧Below W.heap.size W w') :
  Calls Tryz.prog 5 #[v,wv,.int .u8 k8.toNat] w fun e w'=>e=.returned (.bool true)∧Below w.heap.size w w':=by
 have hfew:=Lib.hid (few20_any v ps 14 (by omega) w hv hz)
 have HV:=Lib.hid hv
 have HS:=Lib.hid hs
 have HWk:=Lib.hid hwk
 clear hwk
 cases hf:fewL 14 (ps.map (·.p)) with
 | false =>
  rw [hf] at hfew
  clear hv hz hf hs
  go_enter Tryz.func5,Tryz.ntmps5
  go_wp2_with fail
  refine hfew.out.mono ?_
  rintro e w1 ⟨rfl,hb1⟩
  have HB1:=Lib.hid hb1
  clear hb1 hfew
  unfold b01
  go_wp2_with fail
  refine(HWk.out _).mono ?_
  rintro e w99 ⟨rfl,hb99⟩
  have HB99:=Lib.hid (below_over HB1.out HB1.out.size hb99)
  clear hb99
  go_wp2_with fail
  go_ret
  exact⟨rfl,HB99.out⟩
 | true =>
  rw [hf] at hfew
  have HF:=Lib.hid hf
  have hpl:ps.length≤14:=by have:=fewL_len hf;simpa using this
  clear hv hz hf hs
  cases hx:fewX want with
  | false =>
   have HX:=Lib.hid hx
   clear hx
   go_enter Tryz.func5,Tryz.ntmps5
   go_wp2_with fail
   refine hfew.out.mono ?_
   rintro e w1 ⟨rfl,hb1⟩
   have HB1:=Lib.hid hb1
   clear hb1 hfew
   unfold b01
   go_wp2_with fail
   refine(few27_any wv want _ (HS.out.over HB1.out)).mono ?_
   rw [HX.out]
   rintro e w2 ⟨rfl,hb2⟩
   have HB2:=Lib.hid (below_over HB1.out HB1.out.size hb2)
   clear hb2
   go_wp2_with fail
   refine(HWk.out _).mono ?_
   rintro e w99 ⟨rfl,hb99⟩
   have HB99:=Lib.hid (below_over HB2.out HB2.out.size hb99)
   clear hb99
   go_wp2_with fail
   go_ret
   exact⟨rfl,HB99.out⟩
  | true =>
   have HX:=Lib.hid hx
   have hwl:want.length≤30:=fewX_len hx
   have HSz:=Lib.hid (eg_sizes hx)
   clear hx
   obtain⟨wa,wc,rfl,hw1,hw2,_,hwc⟩:=HS.out.form
   unfold maxLen at hw2
   have HWc:=Lib.hid hwc
   clear hwc
   go_enter Tryz.func5,Tryz.ntmps5
   go_wp2_with fail
   refine hfew.out.mono ?_
   rintro e w1 ⟨rfl,hb1⟩
   have HB1:=Lib.hid hb1
   clear hb1 hfew
   unfold b01
   go_wp2_with fail
   refine(few27_any _ want _ (HS.out.over HB1.out)).mono ?_
   rw [HX.out]
   rintro e w2 ⟨rfl,hb2⟩
   have HB2:=Lib.hid (below_over HB1.out HB1.out.size hb2)
   clear hb2
   go_wp2_with fail
   go_loopw [7] (fun v7 wr=>EgRel w want v7 wr) (fun v7 _=>want.length - (intOf v7).toNat)
   case atStart=>exact⟨0,Nat.zero_le _,rfl,Lib.hid (by rw [List.take_zero];rfl),HB2.out⟩
   case round =>
    obtain⟨k,hk,rfl,HK,hbl⟩:=hrel
    rename World=>wr
    have HBl:=Lib.hid hbl
    by_cases hlt:k<want.length
    ·
     obtain⟨bl,ol,rfl,sl,hcl⟩:=HWc.out.resolve_left (by omega)
     obtain⟨x,hxx⟩:=get_of_lt hlt
     have x0:wr.cell? ⟨bl,ol+k,none⟩=some (.string x):=by rw [hbl.cell sl];exact hcl k x hxx
     have sx:bl<wr.heap.size:=Nat.lt_of_lt_of_le sl hbl.size
     have HXx:=Lib.hid hxx
     have HXs:Hid (x.size≤maxLen):=Lib.hid (Nat.le_trans (HSz.out x (List.mem_of_getElem? hxx)) (by unfold maxLen;omega))
     clear hcl hxx hbl
     cases hlo:lineOk x with
     | false =>
      have HLo:=Lib.hid hlo
      clear hlo
      go_wp2_with fail
      refine(rline_any x _ HXs.out).mono ?_
      rw [HLo.out]
      rintro e w3 ⟨rfl,hb3⟩
      have HB3:=Lib.hid (below_over HBl.out HBl.out.size hb3)
      clear hb3
      go_wp2_with fail
      refine(HWk.out _).mono ?_
      rintro e w99 ⟨rfl,hb99⟩
      have HB99:=Lib.hid (below_over HB3.out HB3.out.size hb99)
      clear hb99
      go_wp2_with fail
      go_ret
      exact⟨rfl,HB99.out⟩
     | true =>
      have HLo:=Lib.hid hlo
      have HK2:Hid ((want.take (k+1)).all lineOk=true):=by show _=_;rw [take_succ_get HXx.out,List.all_append,HK.out];simp [hlo]
      clear hlo
      go_wp2_with fail
      refine(rline_any x _ HXs.out).mono ?_
      rw [HLo.out]
      rintro e w3 ⟨rfl,hb3⟩
      have HB3:=Lib.hid (below_over HBl.out HBl.out.size hb3)
      clear hb3
      go_wp2_with fail
      go_roundw
      case rel=>exact⟨k+1,hlt,by go_num,HK2,HB3.out⟩
      case measure=>simp [intOf];omega
    ·
     obtain rfl:k=want.length:=by omega
     have HLk:Hid (∀ t∈want,lineOk t=true):=Lib.hid (by have h:=HK.out;rw [List.take_length,List.all_eq_true] at h;exact h)
     clear hbl
     go_wp2_with fail
     refine(build_any v ps 14 (by omega) _ (HV.out.over HBl.out) HF.out).mono ?_
     rintro e w3 ⟨b,bv,be,n,hn,rfl,hgr⟩
     have hwf:=wf_build (ps.map (·.p))
     have HMP:Hid (patsOf (modX ps)=buildM (ps.map (·.p))):=Lib.hid (modX_pats ps)
     have HI1:=Lib.hid (few_ids HF.out)
     have HE1:=Lib.hid (few_edges HF.out)
     have HL1:=Lib.hid (few_lines HF.out)
     have HPl:=Lib.hid (fewMod HF.out).1
     rw [HMP.out] at HI1 HE1 HL1 HPl
     rw [List.length_map] at hn
     generalize buildM (ps.map (·.p))=LL at *
     obtain⟨kb1,kb2,kb3,hG,hb3⟩:=hgr
     have HG:=Lib.hid hG
     have HW:=Lib.hid hwf
     have HB3:=Lib.hid (below_over HBl.out HBl.out.size hb3)
     have hsl:=HBl.out.size
     have hfl:(filesM LL).length≤840:=Nat.le_trans (filesM_few _) HI1.out
     have HFO:Hid (∀ f∈filesM LL,∃ x,vertM LL f=some x∧x.kind=1):=Lib.hid fun f hf=>file_of (wf_len HW.out) hf
     obtain⟨FL,hFL⟩:∃ FL,filesM LL=FL:=⟨_,rfl⟩
     have HFl:=Lib.hid (gfiles_any b LL w3 ⟨bv,be,n,HG.out⟩ HW.out (by have:=HI1.out;omega))
     rw [hFL] at HFl hfl HFO
     have lb1:=HG.out.arr.lt
     have lb2:=HG.out.verts.lt
     have lb3:=HG.out.edges.lt
     clear hG hb3 hwf hFL
     go_wp2_with fail
     refine HFl.out.mono ?_
     rintro e w7 ⟨v7,rfl,ho7,hb7⟩
     obtain⟨a7',c7',he7,h71,h72,hc7⟩:=ho7.row.at encVid_len
     subst he7
     unfold maxLen at h72
     have HC7:=Lib.hid hc7
     have HB37:=Lib.hid hb7
     have HB7:=Lib.hid (below_over HB3.out HB3.out.size hb7)
     obtain⟨l7,hl7⟩:∃ k,FL.length=k:=⟨_,rfl⟩
     rw [hl7] at h71 hfl
     rw [hl7] at HC7
     rw [hl7]
     have HL7:=Lib.hid hl7
     clear ho7 hb7 hc7 hl7
     by_cases hl0:l7=0
     ·
      subst hl0
      go_wp2_with fail
      refine(HWk.out _).mono ?_
      rintro e w99 ⟨rfl,hb99⟩
      have HB99:=Lib.hid (below_over HB7.out HB7.out.size hb99)
      clear hb99
      go_wp2_with fail
      go_ret
      exact⟨rfl,HB99.out⟩
     ·
      have hl7p:0<l7:=by omega
      obtain⟨bf,of,rfl,sf,hcf⟩:=HC7.out.resolve_left (by omega)
      obtain⟨kx,hkx⟩:∃ kx,kx=k8.toNat % l7:=⟨_,rfl⟩
      have hkl:kx<l7:=by rw [hkx];exact Nat.mod_lt _ hl7p
      obtain⟨f,hff⟩:=get_of_lt (xs:=FL) (i:=kx) (by have:=HL7.out;omega)
      have HFf:=Lib.hid (HFO.out f (List.mem_of_getElem? hff))
      have hwr:wrap64 (k8.toNat:Int)=(k8.toNat:Int):=by unfold wrap64;have:=k8.toNat_lt;omega
      have hmt:(wrap64 (k8.toNat:Int)).tmod (l7:Int)=(kx:Int):=by rw [hwr,hkx,Int.tmod_eq_emod_of_nonneg (by omega)];simp
      have gl0:((l7:Int) == 0)=false:=by rw [beq_eq_false_iff_ne];omega
      clear hwr
      have f0:w7.cell? ⟨bf,of+kx*3,none⟩=some (.int .u8 f.pid.author.toNat):=(hcf kx f hff w7 (Below.refl _ _)).2 0 _ rfl
      have f1:w7.cell? ⟨bf,of+kx*3+1,none⟩=some (.int .u16 f.pid.seq.toNat):=(hcf kx f hff w7 (Below.refl _ _)).2 1 _ rfl
      have f2:w7.cell? ⟨bf,of+kx*3+2,none⟩=some (.int .u8 f.n.toNat):=(hcf kx f hff w7 (Below.refl _ _)).2 2 _ rfl
      have sf2:=(hcf kx f hff w7 (Below.refl _ _)).1
      clear hcf hff hkx
      go_upto_region 13 with(fail)
      have HFb:=Lib.hid (arr_new w7 #[.int .u8 f.pid.author.toNat,.int .u16 f.pid.seq.toNat,.int .u8 f.n.toNat] 40)
      have HB78:=Lib.hid (below_new (w:=w7) (.cells #[.int .u8 f.pid.author.toNat,.int .u16 f.pid.seq.toNat,.int .u8 f.n.toNat] 40))
      have HB8:=Lib.hid (HB7.out.alloc HB7.out.size (.cells #[.int .u8 f.pid.author.toNat,.int .u16 f.pid.seq.toNat,.int .u8 f.n.toNat] 40))
      have HG8:=Lib.hid (HG.out.over (below_over HB37.out HB37.out.size HB78.out))
      have hs8:w7.heap.size<(w7.alloc (.cells #[.int .u8 f.pid.author.toNat,.int .u16 f.pid.seq.toNat,.int .u8 f.n.toNat] 40)).heap.size:=by simp
      have hs37:=HB37.out.size
      generalize hw8:w7.alloc (.cells #[.int .u8 f.pid.author.toNat,.int .u16 f.pid.seq.toNat,.int .u8 f.n.toNat] 40)=w8 at *
      obtain⟨gf,hgf⟩:∃ gf,gf=w7.heap.size:=⟨_,rfl⟩
      rw [← hgf] at HFb hs8 hs37 ⊢
      clear hw8 hgf f0 f1 f2 sf2 hmt gl0
      obtain⟨id,hid⟩:∃ id,nextM LL 64=id:=⟨_,rfl⟩
      have HNx:Hid (∀ V,Calls Tryz.prog 25 #[vecV (vecM LL),.int .u8 64] V fun e w'=>e=.returned (.agg #[.int .u8 id.author.toNat,.int .u16 id.seq.toNat])∧Below V.heap.size V w'):=Lib.hid fun V=>by
       have h:=rnext_any (vecM LL) HW.out.vec 64 V
       rw [nextF_eq,hid] at h
       exact h
      go_wp2_with fail
      refine(gvec_any b LL _ ⟨bv,be,n,HG8.out⟩).mono ?_
      rintro e w9 ⟨rfl,hb9⟩
      have HB89:=Lib.hid hb9
      have HB9:=Lib.hid (below_over HB8.out HB8.out.size hb9)
      clear hb9
      go_wp2_with fail
      refine(HNx.out _).mono ?_
      rintro e w10 ⟨rfl,hb10⟩
      have HB810:=Lib.hid (below_over HB89.out HB89.out.size hb10)
      have HB10:=Lib.hid (below_over HB9.out HB9.out.size hb10)
      clear hb10
      go_upto_region 14 with(fail)
      have HIb:=Lib.hid (arr_new w10 #[.int .u8 id.author.toNat,.int .u16 id.seq.toNat] 26)
      have HB8a:=Lib.hid (below_over HB810.out HB810.out.size (below_new (w:=w10) (.cells #[.int .u8 id.author.toNat,.int .u16 id.seq.toNat] 26)))
      have HB11:=Lib.hid (HB10.out.alloc HB10.out.size (.cells #[.int .u8 id.author.toNat,.int .u16 id.seq.toNat] 26))
      have HG11:=Lib.hid (HG8.out.over HB8a.out)
      have HFb11:=Lib.hid (HFb.out.over HB8a.out)
      have hs11:w10.heap.size<(w10.alloc (.cells #[.int .u8 id.author.toNat,.int .u16 id.seq.toNat] 26)).heap.size:=by simp
      have hs810:=HB810.out.size
      generalize hw11:w10.alloc (.cells #[.int .u8 id.author.toNat,.int .u16 id.seq.toNat] 26)=w11 at *
      obtain⟨gi,hgi⟩:∃ gi,gi=w10.heap.size:=⟨_,rfl⟩
      rw [← hgi] at HIb hs11 hs810 ⊢
      clear hw11 hgi
      have HS11:=Lib.hid (HS.out.over HB11.out)
      have hll:(linesM LL f).length≤840:=HL1.out f
      have HLO:Hid (∀ V,Below w11.heap.size w11 V→Calls Tryz.prog 17 #[.pointer (some ⟨b,0,none⟩),.agg #[.int .u8 f.pid.author.toNat,.int .u16 f.pid.seq.toNat,.int .u8 f.n.toNat]] V (LofRes V (linesM LL f) (relM LL f))):=Lib.hid fun V hb=>lof_any b LL f V ⟨bv,be,n,HG11.out.over hb⟩ HW.out (by have:=HI1.out;omega) (by have:=HE1.out;omega)
      have HEO:Hid (∀(s:Nat) (V:World),ShAt V s (linesM LL f) (relM LL f)→SRow V (.slice wa want.length wc) want→Calls Tryz.prog 16 #[.pointer (some ⟨s,0,none⟩),.agg #[.int .u8 f.pid.author.toNat,.int .u16 f.pid.seq.toNat,.int .u8 f.n.toNat],.agg #[.int .u8 id.author.toNat,.int .u16 id.seq.toNat],.int .i64 0,.slice wa want.length wc] V (OwnRes encOp 8 58 V (egOps (linesM LL f) (relM LL f) f id want))):=Lib.hid fun s V h1 h2=>by
       have h:=eops_any s _ _ _ f id 0 want V h1 (by omega) h2 (by omega) (by omega)
       rw [eg_edit] at h
       exact h
      have HOPz:Hid (∀ o∈egOps (linesM LL f) (relM LL f) f id want,o.text.size≤maxLen):=Lib.hid fun o ho=>Nat.le_trans (eg_small HSz.out o ho) (by unfold maxLen;omega)
      obtain⟨OPS,hOPS⟩:∃ OPS,egOps (linesM LL f) (relM LL f) f id want=OPS:=⟨_,rfl⟩
      rw [hOPS] at HEO HOPz
      have HOPe:=Lib.hid hOPS
      have HId:=Lib.hid hid
      clear hOPS hid
      have f0:=HFb11.out.cell (j:=0) rfl
      have f1:=HFb11.out.cell (j:=1) rfl
      have f2:=HFb11.out.cell (j:=2) rfl
      have sf:=HFb11.out.lt
      have d0:=HIb.out.cell (j:=0) rfl
      have d1:=HIb.out.cell (j:=1) rfl
      have sd:=HIb.out.lt
      have hcur:Below w11.heap.size w11 w11.drew:=(Below.refl _ _).drew
      refine wp_region_lex (C:=IsOver w11) 8 [] (by kernel_rfl) (by kernel_rfl) (isOver_of hcur) ?_
      simp only [List.take_succ_cons,List.take_zero,List.drop_succ_cons,List.drop_zero]
      repeat(first|(refine lex_skip rfl rfl ?_;simp only [Act.put,List.setIfInBounds_toArray,List.set_cons_succ,List.set_cons_zero])|(refine lex_one rfl ?_;go_big_quiet_step (fail);refine wpQuiet_nil ?_)|(refine lex_loud rfl ?_;go_wp2_with (first|(go_at_call 17;(with_reducible refine(HLO.out _ hcur).mono ?_);rintro e wA ⟨sA,rfl,hsz,hsh,hb⟩;have HSA:=Lib.hid hsh;clear hsh hsz;replace hcur:=below_over hcur hcur.size hb;clear hb)|(go_at_call 16;(with_reducible refine(HEO.out _ _ HSA.out (HS11.out.over hcur)).mono ?_);rintro e w12 ⟨v12,rfl,hoE,hb⟩;have HO12:=Lib.hid (hoE.base hcur.size);clear hoE;replace hcur:=below_over hcur hcur.size hb;clear hb;(obtain⟨p12,c12,e12,_,_,_⟩:=HO12.out.row.at encOp_len);subst e12));refine⟨isOver_of hcur,?_⟩))
      refine lex_end ?_
      have HB12:=Lib.hid (below_over HB11.out HB11.out.size hcur)
      have HG12:=Lib.hid (HG11.out.over hcur)
      have HFb12:=Lib.hid (HFb11.out.over hcur)
      have HIb12:=Lib.hid (HIb.out.over hcur)
      have HS12:=Lib.hid (HS11.out.over hcur)
      have hs12:=hcur.size
      obtain⟨n12,hn12⟩:∃ k,OPS.length=k:=⟨_,rfl⟩
      rw [hn12] at HO12
      rw [hn12]
      have HN12:=Lib.hid hn12
      clear hcur hn12 f0 f1 f2 sf d0 d1 sd
      have hn12m:n12≤1000:=by
       have h1:=eg_len (linesM LL f) (relM LL f) f id want
       rw [HOPe.out,HN12.out] at h1
       omega
      by_cases hbig:200<n12
      ·
       go_wp2_with fail
       refine(HWk.out _).mono ?_
       rintro e w99 ⟨rfl,hb99⟩
       have HB99:=Lib.hid (below_over HB12.out HB12.out.size hb99)
       clear hb99
       go_wp2_with fail
       go_ret
       exact⟨rfl,HB99.out⟩
      ·
       have HEg:Hid (EgIn LL f want id):=Lib.hid ⟨HW.out,HFf.out,HId.out,by have h1:=vecM_le LL 64;have:=HPl.out;omega,HLk.out,by rw [HOPe.out,HN12.out];omega⟩
       by_cases hz0:n12=0
       ·
        subst hz0
        have HOut:Hid (EgOut LL f want id):=Lib.hid (HEg.out.outStill (by rw [HOPe.out];exact List.eq_nil_of_length_eq_zero HN12.out) HPl.out (by omega))
        have HGI2:Hid (GrIs w12 b LL):=Lib.hid ⟨bv,be,n,HG12.out⟩
        have HFb2:=HFb12
        have HIb2:=HIb12
        have HS2:=HS12
        have HBt:=HB12
        have hll2:=HOut.out.lines
        have HLO2:Hid (∀ V,Below w12.heap.size w12 V→Calls Tryz.prog 17 #[.pointer (some ⟨b,0,none⟩),.agg #[.int .u8 f.pid.author.toNat,.int .u16 f.pid.seq.toNat,.int .u8 f.n.toNat]] V (LofRes V (linesM LL f) (relM LL f))):=Lib.hid fun V hb=>lof_any b LL f V (HGI2.out.over hb) HOut.out.wf (by have:=HOut.out.ids;omega) (by have:=HOut.out.edges;omega)
        have HSL2:Hid (∀(s:Nat) (V:World),ShAt V s (linesM LL f) (relM LL f)→Calls Tryz.prog 28 #[.pointer (some ⟨s,0,none⟩)] V (LnX V want 0)):=Lib.hid fun s V h1=>by
         have h:=slines_any s _ _ V h1 (by omega)
         rw [lnres_x,HOut.out.seen,HOut.out.odd] at h
         exact h
        have HEO2:Hid (∀(s:Nat) (V:World),ShAt V s (linesM LL f) (relM LL f)→SRow V (.slice wa want.length wc) want→Calls Tryz.prog 16 #[.pointer (some ⟨s,0,none⟩),.agg #[.int .u8 f.pid.author.toNat,.int .u16 f.pid.seq.toNat,.int .u8 f.n.toNat],.agg #[.int .u8 id.author.toNat,.int .u16 id.seq.toNat],.int .i64 0,.slice wa want.length wc] V (OwnRes encOp 8 58 V [])):=Lib.hid fun s V h1 h2=>by
         have h:=eops_any s _ _ _ f id 0 want V h1 hll2 h2 (by omega) (by omega)
         rw [HOut.out.done] at h
         exact h
        have f0:=HFb2.out.cell (j:=0) rfl
        have f1:=HFb2.out.cell (j:=1) rfl
        have f2:=HFb2.out.cell (j:=2) rfl
        have sf:=HFb2.out.lt
        go_wp2_with fail
        refine(HLO2.out _ (Below.refl _ _)).mono ?_
        rintro e wA ⟨sA,rfl,hsz,hsh,hbA⟩
        have HSA:=Lib.hid hsh
        have HBA:=Lib.hid hbA
        clear hsh hsz hbA
        go_wp2_with fail
        refine(HSL2.out _ _ HSA.out).mono ?_
        rintro e wB ⟨vB,rfl,hoB,hbB⟩
        have HBB:=Lib.hid (below_over HBA.out HBA.out.size hbB)
        have HOB:=Lib.hid hoB.row
        have HFbB:=Lib.hid (HFb2.out.over HBB.out)
        have HIbB:=Lib.hid (HIb2.out.over HBB.out)
        have HSB:=Lib.hid (HS2.out.over HBB.out)
        clear hoB hbB f0 f1 f2 sf
        have f0:=HFbB.out.cell (j:=0) rfl
        have f1:=HFbB.out.cell (j:=1) rfl
        have f2:=HFbB.out.cell (j:=2) rfl
        have sf:=HFbB.out.lt
        have d0:=HIbB.out.cell (j:=0) rfl
        have d1:=HIbB.out.cell (j:=1) rfl
        have sd:=HIbB.out.lt
        go_upto_region 22 with(fail)
        have hcur:Below wB.heap.size wB wB.drew:=(Below.refl _ _).drew
        refine wp_region_lex (C:=IsOver wB) 22 [] (by kernel_rfl) (by kernel_rfl) (isOver_of hcur) ?_
        simp only [List.take_succ_cons,List.take_zero,List.drop_succ_cons,List.drop_zero]
        repeat(first|(refine lex_skip rfl rfl ?_;simp only [Act.put,List.setIfInBounds_toArray,List.set_cons_succ,List.set_cons_zero])|(refine lex_one rfl ?_;go_big_quiet_step (fail);refine wpQuiet_nil ?_)|(refine lex_loud rfl ?_;go_wp2_with (first|(go_at_call 23;(with_reducible refine(rtexts_any _ _ want want _ ((srow_of HOB.out).over hcur) (HSB.out.over hcur)).mono ?_);rw [sameS_self];rintro e wC ⟨rfl,hb⟩;replace hcur:=below_over hcur hcur.size hb;clear hb)|(go_at_call 17;(with_reducible refine(HLO2.out _ (below_over HBB.out HBB.out.size hcur)).mono ?_);rintro e wD ⟨sD,rfl,hsz,hsh,hb⟩;have HSD:=Lib.hid hsh;clear hsh hsz;replace hcur:=below_over hcur hcur.size hb;clear hb)|(go_at_call 16;(with_reducible refine(HEO2.out _ _ HSD.out (HSB.out.over hcur)).mono ?_);rintro e wE ⟨vE,rfl,hoE,hb⟩;(obtain⟨pE,cE,eE,_,_,_⟩:=hoE.row.at encOp_len);subst eE;clear hoE;replace hcur:=below_over hcur hcur.size hb;clear hb)|(go_at_call 11;(with_reducible refine(HWk.out _).mono ?_);rintro e wF ⟨rfl,hb⟩;replace hcur:=below_over hcur hcur.size hb;clear hb));refine⟨isOver_of hcur,?_⟩))
        refine lex_end ?_
        go_wp2_with fail
        go_ret
        exact⟨rfl,below_over HBt.out HBt.out.size (below_over HBB.out HBB.out.size hcur)⟩
       ·
        have hne:egOps (linesM LL f) (relM LL f) f id want≠[]:=fun e=>hz0 (by rw [← HN12.out,← HOPe.out,e];rfl)
        have HNe:=Lib.hid hne
        have HOut:Hid (EgOut (egG LL f want id) f want id):=Lib.hid (HEg.out.outApply hne HPl.out (by omega) hwl)
        have HMk:Hid (Calls Tryz.prog 22 #[.agg #[.int .u8 id.author.toNat,.int .u16 id.seq.toNat],.slice p12 n12 c12] w12 (MakeRes w12 id OPS)):=Lib.hid (by
         have hg:=HEg.out.goodQ' hne
         rw [HOPe.out] at hg
         exact pmake_any id _ OPS w12 HO12.out.row (by rw [HN12.out];omega) HOPz.out hg)
        have gn0:decide ((n12:Int) > 0)=true:=decide_eq_true (by omega)
        have gn1:0<n12:=by omega
        clear hne
        have d0:=HIb12.out.cell (j:=0) rfl
        have d1:=HIb12.out.cell (j:=1) rfl
        have sd:=HIb12.out.lt
        go_wp2_with fail
        refine HMk.out.mono ?_
        rintro e w13 ⟨pd,cd,po,co,rfl,hod,hoo,hb13⟩
        have HNd:Hid (∃ k,(depsM id OPS).length=k):=Lib.hid ⟨_,rfl⟩
        obtain⟨nd,hnd⟩:=HNd.out
        rw [hnd] at hod ⊢
        rw [HN12.out] at hoo ⊢
        have HOd:=Lib.hid hod
        have HOo:=Lib.hid hoo
        have HB1213:=Lib.hid hb13
        have hs13:=hb13.size
        clear hod hoo hb13 HNd hnd d0 d1 sd
        go_upto_region 19 with(fail)
        have HPb:=Lib.hid (arr_new w13 #[.int .u8 id.author.toNat,.int .u16 id.seq.toNat,.slice pd nd cd,.slice po n12 co] 61)
        have HB12a:=Lib.hid (below_over HB1213.out HB1213.out.size (below_new (w:=w13) (.cells #[.int .u8 id.author.toNat,.int .u16 id.seq.toNat,.slice pd nd cd,.slice po n12 co] 61)))
        have HOd14:=Lib.hid (HOd.out.over (below_new (w:=w13) (.cells #[.int .u8 id.author.toNat,.int .u16 id.seq.toNat,.slice pd nd cd,.slice po n12 co] 61)))
        have HOo14:=Lib.hid (HOo.out.over (below_new (w:=w13) (.cells #[.int .u8 id.author.toNat,.int .u16 id.seq.toNat,.slice pd nd cd,.slice po n12 co] 61)))
        have hs14:w13.heap.size<(w13.alloc (.cells #[.int .u8 id.author.toNat,.int .u16 id.seq.toNat,.slice pd nd cd,.slice po n12 co] 61)).heap.size:=by simp
        generalize hw14:w13.alloc (.cells #[.int .u8 id.author.toNat,.int .u16 id.seq.toNat,.slice pd nd cd,.slice po n12 co] 61)=w14 at *
        clear hw14
        have HB14:=Lib.hid (below_over HB12.out HB12.out.size HB12a.out)
        have HG14:=Lib.hid (HG12.out.over HB12a.out)
        have HFb14:=Lib.hid (HFb12.out.over HB12a.out)
        have HIb14:=Lib.hid (HIb12.out.over HB12a.out)
        have HS14:=Lib.hid (HS12.out.over HB12a.out)
        have HAp:Hid (Calls Tryz.prog 27 #[.pointer (some ⟨b,0,none⟩),.agg #[.int .u8 id.author.toNat,.int .u16 id.seq.toNat,.slice pd nd cd,.slice po n12 co]] w14 fun e w'=>e=.returned (.int .i64 0)∧GrIs w' b (egG LL f want id)∧Bex b bv be w14 w'):=Lib.hid (by
         have h1:=HOd14.out.row
         have h2:=HOo14.out.row
         rw [← HOPe.out] at h1 h2
         have h3:=HOPz.out
         rw [← HOPe.out] at h3
         have h4:=HEg.out.few
         have ha:Aside b bv be (.slice po n12 co):=fun k hk=>by
          have:=gown_low HOo14.out hk
          exact⟨by omega,by omega,by omega⟩
         refine(gapply2_L b LL HW.out (egPat LL f want id) _ _ w14 bv be n HG14.out h1 h2 ha (by show(egOps (linesM LL f) (relM LL f) f id want).length≤40000;omega) h3 (by show n+(egOps (linesM LL f) (relM LL f) f id want).length≤4000000000;omega) (HEg.out.check HNe.out)).mono ?_
         rintro e w' ⟨rfl,hgw,hbx⟩
         exact⟨rfl,⟨bv,be,_,hgw⟩,hbx⟩)
        have p0:=HPb.out.cell (j:=0) rfl
        have p1:=HPb.out.cell (j:=1) rfl
        have p2:=HPb.out.cell (j:=2) rfl
        have p3:=HPb.out.cell (j:=3) rfl
        have sp:=HPb.out.lt
        go_wp2_with fail
        refine HAp.out.mono ?_
        rintro e w15 ⟨rfl,hgi,hbx⟩
        have HGI2:=Lib.hid hgi
        have HBx:=Lib.hid hbx
        have HFb2:=Lib.hid (Arr.bex HFb14.out (by omega) (by omega) (by omega) hbx)
        have HIb2:=Lib.hid (Arr.bex HIb14.out (by omega) (by omega) (by omega) hbx)
        have HS2:Hid (SRow w15 (.slice wa want.length wc) want):=Lib.hid (Row.bex2 HS14.out (fun h0 k hk=>by
         have h1:=row_low HS.out h0 hk
         exact⟨by omega,by omega,by omega⟩) hbx)
        have HBt:Hid (Below w.heap.size w w15):=Lib.hid (bex_below HB14.out hbx (by omega) (by omega) (by omega))
        clear hgi hbx p0 p1 p2 p3 sp gn0 gn1
        have hll2:=HOut.out.lines
        have HLO2:Hid (∀ V,Below w15.heap.size w15 V→Calls Tryz.prog 17 #[.pointer (some ⟨b,0,none⟩),.agg #[.int .u8 f.pid.author.toNat,.int .u16 f.pid.seq.toNat,.int .u8 f.n.toNat]] V (LofRes V (linesM (egG LL f want id) f) (relM (egG LL f want id) f))):=Lib.hid fun V hb=>lof_any b (egG LL f want id) f V (HGI2.out.over hb) HOut.out.wf (by have:=HOut.out.ids;omega) (by have:=HOut.out.edges;omega)
        have HSL2:Hid (∀(s:Nat) (V:World),ShAt V s (linesM (egG LL f want id) f) (relM (egG LL f want id) f)→Calls Tryz.prog 28 #[.pointer (some ⟨s,0,none⟩)] V (LnX V want 0)):=Lib.hid fun s V h1=>by
         have h:=slines_any s _ _ V h1 (by omega)
         rw [lnres_x,HOut.out.seen,HOut.out.odd] at h
         exact h
        have HEO2:Hid (∀(s:Nat) (V:World),ShAt V s (linesM (egG LL f want id) f) (relM (egG LL f want id) f)→SRow V (.slice wa want.length wc) want→Calls Tryz.prog 16 #[.pointer (some ⟨s,0,none⟩),.agg #[.int .u8 f.pid.author.toNat,.int .u16 f.pid.seq.toNat,.int .u8 f.n.toNat],.agg #[.int .u8 id.author.toNat,.int .u16 id.seq.toNat],.int .i64 0,.slice wa want.length wc] V (OwnRes encOp 8 58 V [])):=Lib.hid fun s V h1 h2=>by
         have h:=eops_any s _ _ _ f id 0 want V h1 hll2 h2 (by omega) (by omega)
         rw [HOut.out.done] at h
         exact h
        have f0:=HFb2.out.cell (j:=0) rfl
        have f1:=HFb2.out.cell (j:=1) rfl
        have f2:=HFb2.out.cell (j:=2) rfl
        have sf:=HFb2.out.lt
        go_wp2_with fail
        refine(HLO2.out _ (Below.refl _ _)).mono ?_
        rintro e wA ⟨sA,rfl,hsz,hsh,hbA⟩
        have HSA:=Lib.hid hsh
        have HBA:=Lib.hid hbA
        clear hsh hsz hbA
        go_wp2_with fail
        refine(HSL2.out _ _ HSA.out).mono ?_
        rintro e wB ⟨vB,rfl,hoB,hbB⟩
        have HBB:=Lib.hid (below_over HBA.out HBA.out.size hbB)
        have HOB:=Lib.hid hoB.row
        have HFbB:=Lib.hid (HFb2.out.over HBB.out)
        have HIbB:=Lib.hid (HIb2.out.over HBB.out)
        have HSB:=Lib.hid (HS2.out.over HBB.out)
        clear hoB hbB f0 f1 f2 sf
        have f0:=HFbB.out.cell (j:=0) rfl
        have f1:=HFbB.out.cell (j:=1) rfl
        have f2:=HFbB.out.cell (j:=2) rfl
        have sf:=HFbB.out.lt
        have d0:=HIbB.out.cell (j:=0) rfl
        have d1:=HIbB.out.cell (j:=1) rfl
        have sd:=HIbB.out.lt
        go_upto_region 22 with(fail)
        have hcur:Below wB.heap.size wB wB.drew:=(Below.refl _ _).drew
        refine wp_region_lex (C:=IsOver wB) 22 [] (by kernel_rfl) (by kernel_rfl) (isOver_of hcur) ?_
        simp only [List.take_succ_cons,List.take_zero,List.drop_succ_cons,List.drop_zero]
        repeat(first|(refine lex_skip rfl rfl ?_;simp only [Act.put,List.setIfInBounds_toArray,List.set_cons_succ,List.set_cons_zero])|(refine lex_one rfl ?_;go_big_quiet_step (fail);refine wpQuiet_nil ?_)|(refine lex_loud rfl ?_;go_wp2_with (first|(go_at_call 23;(with_reducible refine(rtexts_any _ _ want want _ ((srow_of HOB.out).over hcur) (HSB.out.over hcur)).mono ?_);rw [sameS_self];rintro e wC ⟨rfl,hb⟩;replace hcur:=below_over hcur hcur.size hb;clear hb)|(go_at_call 17;(with_reducible refine(HLO2.out _ (below_over HBB.out HBB.out.size hcur)).mono ?_);rintro e wD ⟨sD,rfl,hsz,hsh,hb⟩;have HSD:=Lib.hid hsh;clear hsh hsz;replace hcur:=below_over hcur hcur.size hb;clear hb)|(go_at_call 16;(with_reducible refine(HEO2.out _ _ HSD.out (HSB.out.over hcur)).mono ?_);rintro e wE ⟨vE,rfl,hoE,hb⟩;(obtain⟨pE,cE,eE,_,_,_⟩:=hoE.row.at encOp_len);subst eE;clear hoE;replace hcur:=below_over hcur hcur.size hb;clear hb)|(go_at_call 11;(with_reducible refine(HWk.out _).mono ?_);rintro e wF ⟨rfl,hb⟩;replace hcur:=below_over hcur hcur.size hb;clear hb));refine⟨isOver_of hcur,?_⟩))
        refine lex_end ?_
        go_wp2_with fail
        go_ret
        exact⟨rfl,below_over HBt.out HBt.out.size (below_over HBB.out HBB.out.size hcur)⟩
end Go.Proofs.YtllcipobiengiaaGreat
