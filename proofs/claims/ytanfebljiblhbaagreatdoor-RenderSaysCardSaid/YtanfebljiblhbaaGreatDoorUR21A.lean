/- Part of the proof that any graph's tree, and what is at odds in it, are as the document says. No conditions. -/
import Derived.Test.YtanfebljiblhbaaGreatDoorUEdB
set_option linter.unusedVariables false
set_option linter.unusedSimpArgs false
set_option maxRecDepth 100000
set_option maxHeartbeats 40000000
namespace Go.Proofs.YtanfebljiblhbaaGreatDoor
open Go Go.RowKit
variable{l:List VertM}
theorem place_is:∀ {l:List VertM} {v:VidM} {k:Nat} {x:VertM},l[k]? = some x→x.id=v→(∀ j y,j<k→l[j]? = some y→y.id≠v)→placeM l v=k
 | [],_,k,_,hx,_,_=>by simp at hx
 | y :: l,v,0,x,hx,hid,_=>by simp at hx;subst hx;unfold placeM;rw [List.map_cons,hid,List.idxOf_cons_self]
 | y :: l,v,k+1,x,hx,hid,hno=>by have h0:y.id≠v:=hno 0 y (by omega) rfl;have ih:=place_is (l:=l) (v:=v) (k:=k) (x:=x) (by simpa using hx) hid (fun j z hj hz=>hno (j+1) z (by omega) (by simpa using hz));unfold placeM at ih ⊢;rw [List.map_cons,List.idxOf_cons,ih,show(y.id == v)=false from decide_eq_false h0];rfl
theorem no_step{v:VidM}{k:Nat}{x:VertM}(hx:l[k]? = some x)(hne:¬ x.id=v)(hno:∀ j y,j<k→l[j]? = some y→y.id≠v):∀ j y,j<k+1→l[j]? = some y→y.id≠v:=fun j y hj hy=>by
 rcases Nat.lt_or_ge j k with h|h
 · exact hno j y h hy
 ·
  obtain rfl:j=k:=by omega
  rw [hx] at hy;cases hy;exact hne
theorem r21place_any(lv:Value)(l:List VertM)(v:VidM)(w:World)(hv:GRow encVert 9 w lv l)(hm:v∈l.map (·.id)) :
  Calls Tryz.prog 92 #[lv,vidV v] w fun e w'=>e=.returned (.int .i64 (placeM l v:Int))∧Be w w':=by
 have gd:=fun p q xs ys w=>guard_vid .eql p q xs ys w;obtain⟨a,cap,rfl,h1,h2,hc⟩:=hv.at encVert_len;unfold maxLen at h2;have HC:=Lh hc;have HM:=Lh (place_get hm);have HF:=Lh (anw w (cV v) 27);have HB:=Lh (bnew (w:=w) (.cells (cV v) 27));clear hv hc hm;unfold vidV;go_enter Tryz.func92,Tryz.ntmps92;go_upto_region 1 with fail;generalize w.alloc (.cells (cV v) 27)=w0 at *;go_wp2;go_loopw [5] (fun v5 wr=>∃ k:Nat,k≤l.length∧v5=.int .i64 k∧Hid (∀ j y,j<k→l[j]? = some y→y.id≠v)∧Hid (Be w0 wr)) (fun v5 _=>l.length - (intOf v5).toNat)
 case atStart=>exact⟨0,by omega,rfl,Lh (fun j y hj=>absurd hj (Nat.not_lt_zero j)),Below.refl _ _⟩
 obtain⟨k,hk,rfl,HN,hbl⟩:=hrel;rename World=>wr;have HBr:=Lh (bvo HB.o hbl.o);have HFr:=Lh (HF.o.over hbl.o);obtain⟨f0,f1,f2,sf⟩:=HFr.o.c3
 by_cases hlt:k<l.length
 rotate_left
 · obtain⟨y,hy,hyv⟩:=HM.o;exact absurd hyv (HN.o (placeM l v) y (Nat.lt_of_lt_of_le (List.getElem?_eq_some_iff.1 hy).1 (by omega)) hy)
 obtain⟨b,off,rfl,sb,hcb⟩:=HC.o.resolve_left (by omega);obtain⟨x,hx⟩:=gol hlt;have HX:=Lh hx;have HRx:=Lh (hcb k x hx wr HBr.o);obtain⟨x0,x1,x2,x3,x4,x5,x6,x7,x8,sx⟩:=rc9 HRx.o;clear hcb hx
 by_cases he:x.id=v
 ·
  have e1:=eql_vid x.id v true (by simp [he]);unfold vidV at e1;have HV:=Lh (place_is HX.o he HN.o);clear he;go_wp2_with fail;refine wlo 7 fun hcur=>?_;repeat refine lxq ?_
  refine lxe ?_;clear hcur;go_wp2;go_ret;exact⟨ret_int (by rw [HV.o]),HBr.o.drew⟩
 have e1:=eql_vid x.id v false (by simp [he]);unfold vidV at e1;have HN2:=Lh (no_step HX.o he HN.o);clear he;go_wp2_with fail;refine wlo 7 fun hcur=>?_;repeat refine lxq ?_
 refine lxe ?_;clear hcur;go_wp2;go_roundw
 case rel=>exact⟨k+1,hlt,by go_num,HN2,Lh hbl.o.drew⟩
 simp [intOf];omega
abbrev rsV(lv:Value)(n:Nat)(sv:Value):Value:=.agg #[lv,.int .i64 n,sv]
structure RSh (w:World) (lv sv:Value) (l:List VertM) (R:List (Nat × Nat)):Prop where
 row:GRow encVert 9 w lv l
 rel:RRel w l.length sv R
theorem RSh.over{w w':World}{lv sv:Value}{R:List (Nat × Nat)}(h:RSh w lv sv l R)(hb:Be w w'):RSh w' lv sv l R:=⟨h.row.over hb,h.rel.over hb⟩
theorem RSh.form{w:World}{lv sv:Value}{R:List (Nat × Nat)}(h:RSh w lv sv l R):∃ lp lc sp sc,lv=.slice lp l.length lc∧sv=.slice sp R.length sc∧lc≤maxLen:=by obtain⟨a,cap,e1,_,h3,_⟩:=h.row.at encVert_len;obtain⟨a2,cap2,e2,_⟩:=prow_at h.rel.row;exact⟨a,cap,a2,cap2,e1,e2,h3⟩
attribute [local irreducible] orderM keptI aliveQL deadQL aliveX firmB
theorem r21order_any(lv sv:Value)(l:List VertM)(R:List (Nat × Nat))(w:World)(h:RSh w lv sv l R):Calls Tryz.prog 96 #[rsV lv l.length sv] w (OwnRes encI 1 3 w (orderM R l.length)):=by obtain⟨lp,lc,sp,sc,rfl,rfl,hlc⟩:=h.form;unfold maxLen at hlc;have HS:=Lh (h.over (bnew (w:=w) (.cells #[.slice lp l.length lc,.int .i64 l.length,.slice sp R.length sc] 105)));have HG:=Lh (anw w #[.slice lp l.length lc,.int .i64 l.length,.slice sp R.length sc] 105);have HB:=Lh (bnew (w:=w) (.cells #[.slice lp l.length lc,.int .i64 l.length,.slice sp R.length sc] 105));clear h;unfold rsV;go_enter Tryz.func96,Tryz.ntmps96;go_upto_region 1 with fail;generalize w.alloc (.cells #[.slice lp l.length lc,.int .i64 l.length,.slice sp R.length sc] 105)=w0 at *;obtain⟨g0,g1,g2,sg⟩:=HG.o.c3;go_wp2_with fail;refine(r9order_any l.length _ R _ HS.o.rel).mono ?_;rintro e w1 ⟨v,rfl,ho,hb⟩;have HO:=Lh (ho.base HB.o.size);have HB1:=Lh (bvo HB.o hb);clear ho hb;go_wp2;go_ret;exact⟨_,rfl,HO.o,HB1.o⟩
def AvRel(w1:World)(l:List VertM)(od:List Nat)(v3 v5:Value)(wr:World):Prop:=∃ k:Nat,k≤od.length∧v5=.int .i64 k∧Hid (GOwn encI 1 3 wr w1.heap.size v3 (keptI l od k))∧Hid (Be w1 wr)
theorem keptI_zero(l:List VertM)(xs:List Nat):keptI l xs 0=[]:=by unfold keptI;rfl
theorem keptI_len(l:List VertM)(xs:List Nat)(k:Nat):(keptI l xs k).length≤xs.length:=by unfold keptI;refine Nat.le_trans (List.length_filter_le _ _) ?_;rw [List.length_take];exact Nat.min_le_right _ _
theorem aliveX_kept(l:List VertM)(R:List (Nat × Nat)):keptI l (orderM R l.length) (orderM R l.length).length=aliveX l R:=by unfold aliveX;exact keptI_all l _
theorem r21alive_any(lv sv:Value)(l:List VertM)(R:List (Nat × Nat))(w:World)(h:RSh w lv sv l R):Calls Tryz.prog 47 #[rsV lv l.length sv] w (OwnRes encI 1 3 w (aliveX l R)):=by
 have hroom:=h.rel.room;obtain⟨lp,lc,sp,sc,rfl,rfl,hlc⟩:=h.form;unfold maxLen at hlc;have HS:=Lh (h.over (bnew (w:=w) (.cells #[.slice lp l.length lc,.int .i64 l.length,.slice sp R.length sc] 105)));have HG:=Lh (anw w #[.slice lp l.length lc,.int .i64 l.length,.slice sp R.length sc] 105);have HB:=Lh (bnew (w:=w) (.cells #[.slice lp l.length lc,.int .i64 l.length,.slice sp R.length sc] 105));clear h;unfold rsV;go_enter Tryz.func47,Tryz.ntmps47;go_upto_region 1 with fail;generalize w.alloc (.cells #[.slice lp l.length lc,.int .i64 l.length,.slice sp R.length sc] 105)=w0 at *;obtain⟨g0,g1,g2,sg⟩:=HG.o.c3;go_wp2_with fail;refine(r21order_any _ _ l R _ HS.o).mono ?_;rintro e w1 ⟨ov,rfl,ho,hb⟩;obtain⟨a5,c5,rfl,z1,z2,hc5⟩:=irow_at ho.row;unfold maxLen at z2;have HC5:=Lh hc5;have HB1:=Lh hb;have HG1:=Lh (HG.o.over hb);have HS1:=Lh (HS.o.over hb);have HOl:Hid (∀ i∈orderM R l.length,i<l.length):=fun i hi=>order_lt hi;have HAK:=Lh (aliveX_kept l R);have hol:(orderM R l.length).length≤1000000:=by rw [orderM_len];omega
 generalize orderM R l.length=od at *;clear ho hb hc5 g0 g1 g2 sg;go_wp2;go_loopw [3,5] (fun v3 v5 wr=>AvRel w1 l od v3 v5 wr) (fun _ v5 _=>od.length - (intOf v5).toNat)
 case atStart=>exact⟨0,by omega,rfl,Lh (by rw [keptI_zero];exact gown_nil _ _),Below.refl _ _⟩
 obtain⟨k,hk,rfl,HM,hbl⟩:=hrel;rename World=>wr;have HGr:=Lh (HG1.o.over hbl.o);obtain⟨g0,g1,g2,sg⟩:=HGr.o.c3;have hkl:=keptI_len l od k
 by_cases hlt:k<od.length
 rotate_left
 ·
  obtain rfl:k=od.length:=by omega
  have HE:=HM.o;rw [HAK.o] at HE;have HE2:=Lh (HE.base (Nat.le_trans HB.o.size HB1.o.size));clear HE;go_wp2;go_ret;exact⟨_,rfl,HE2.o,bvo HB.o (bvo HB1.o hbl.o)⟩
 obtain⟨b5,off5,rfl,sb5,hcb5⟩:=HC5.o.resolve_left (by omega);obtain⟨i,hi⟩:=gol hlt;obtain⟨si,i0⟩:=hcb5 k i hi _ hbl.o;have hil:=HOl.o i (List.mem_of_getElem? hi);obtain⟨x,hx⟩:=gol hil;obtain⟨a7,c7,e7,y1,y2,hc7⟩:=(HS1.o.over hbl.o).row.at encVert_len;cases e7
 obtain⟨b7,off7,rfl,sb7,hcb7⟩:=hc7.resolve_left (by omega);have x8:wr.cell? ⟨b7,off7+i*9+8,none⟩=some (.bool x.dead):=(hcb7 i x hx wr (Below.refl _ _)).2 8 _ rfl;have HI:=Lh hi;have HX:=Lh (deadQL_at hx);clear hcb5 hi hx hc7 hcb7;cases hd:x.dead with
 | true =>
  have HN:=Lh (keptI_no HI.o (HX.o.trans hd));rw [hd] at x8;clear hd;go_wp2_with fail;refine wlo 10 fun hcur=>?_;repeat refine lxq ?_
  refine lxe ?_;clear hcur;go_wp2;go_roundw
  case rel=>exact⟨k+1,hlt,by go_num,(by show GOwn _ _ _ _ _ _ _;rw [HN.o];exact HM.o.over (Below.refl _ _).drew),Lh hbl.o.drew⟩
  simp [intOf];omega
 | false =>
  have HN:=Lh (keptI_yes HI.o (HX.o.trans hd));rw [hd] at x8;have hN:(keptI l od k).length+1≤1099511627776:=by omega
  have hB:=hbl.o.size;clear hd;go_wp2_with fail;refine wlo 10 fun hcur=>?_;repeat refine lxq ?_
  refine lxe ?_;clear hcur;go_wp2_with (at_builtin;refine apD slIntI rfl _ _ rfl w1.heap.size _ _ (dad _ _ _) 1 _ _ _ HM.o rfl rfl rfl rfl hN (by decide) hB ?_;intro v9 w9 ho9 hg9);go_roundw
  case rel=>exact⟨k+1,hlt,by go_num,(by show GOwn _ _ _ _ _ _ _;rw [HN.o];exact GOwn.snoc ho9),bgr hbl.o hB HM.o hg9⟩
  simp [intOf];omega
end Go.Proofs.YtanfebljiblhbaaGreatDoor
