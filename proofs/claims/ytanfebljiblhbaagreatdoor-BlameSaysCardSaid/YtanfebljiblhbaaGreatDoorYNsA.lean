/- Part of the proof that of any graph each file's lines, whose they are, and how many lines any author has, are as the document says. No conditions. -/
import Derived.Test.YtanfebljiblhbaaGreatDoorYBlmP
import Derived.Test.YtanfebljiblhbaaGreatDoorYRefM
set_option linter.unusedVariables false
set_option linter.unusedSimpArgs false
set_option maxRecDepth 100000
set_option maxHeartbeats 40000000
namespace Go.Proofs.YtanfebljiblhbaaGreatDoor
open Go Go.RowKit
section
theorem Row.other{w w':World}{v:Value}{n sz g:Nat}{cs ds:List Value}(h:Row w v n sz cs)(hA:Arr w g ds)(hd:ds.length<sz)(hg:w.grownBy w' (some g)):Row w' v n sz cs:=by
 obtain⟨h1,a,cap,rfl,h2,h3,h4,h5⟩:=h;refine⟨h1,a,cap,rfl,h2,h3,h4,fun hn => ?_⟩;obtain⟨b,off,ha,hb,hc⟩:=h5 hn;have hne:b≠g:=by
  rintro rfl;have hlt:sz - 1<cs.length:=by rw [h1];have:1*sz≤n*sz:=Nat.mul_le_mul_right _ (by omega);omega
  have hcell:=hc (sz - 1) _ (List.getElem?_eq_getElem hlt);obtain⟨e,he⟩:=hA;rw [cell_of_row w b (off+(sz - 1)) _ e (0,0) he] at hcell;have hno:ds[off+(sz - 1)]? = none:=List.getElem?_eq_none (by omega);simp [hno] at hcell
 refine⟨b,off,ha,Nat.lt_of_lt_of_le hb hg.size,fun j u hu => ?_⟩;rw [World.cell?_of_block (hg.block b hb (fun q=>hne (Option.some.inj q)))];exact hc j u hu
theorem rowSh:RowT Tryz.prog 105 3:=rowT_of Tryz.underlying105 rfl (by kernel_rfl)
def R21Res(w:World)(l:List VertM)(R:List (Nat × Nat))(e:Ending)(w':World):Prop:=∃ lv sv,e=.returned (rsV lv l.length sv)∧RSh w' lv sv l R∧Be w w'
theorem r21_mk{w w':World}{l:List VertM}{R:List (Nat × Nat)}{lp sp:Option Addr}{lc sc:Nat}(h:RSh w' (.slice lp l.length lc) (.slice sp R.length sc) l R)(hb:Be w w'):R21Res w l R (.returned (rsV (.slice lp l.length lc) l.length (.slice sp R.length sc))) w':=⟨_,_,rfl,h,hb⟩
attribute [local irreducible] placeM linesM relM stepsM edgesM
theorem r21of_any(gv:Value)(xs:List LaidP)(file:VidM)(w:World)(hv:Pats w gv xs)(hn:xs.length≤300)(hl:∀ x∈xs,x.p.ops.length≤260)(hw:WfG (patsOf xs))(hil:(idsM (patsOf xs)).length≤65536)(hel:(edgesM (patsOf xs)).length≤100000) :
  Calls Tryz.prog 44 #[rgV gv,vidV file] w (R21Res w (linesM (patsOf xs) file) (relM (patsOf xs) file)):=by
 have hvl:(vertsM (patsOf xs)).length≤100000:=by unfold vertsM;rw [List.length_map];omega
 have HLs:=Lh hl;obtain⟨ga,gc,rfl,_,_,_⟩:=hv.1.at encPat_len;have HB0a:=(bnew (w:=w) (.cells #[.slice ga xs.length gc] 33)).alloc (by simp) (.cells (cV file) 27);have HB0:=Lh (HB0a.alloc (by simp;omega) (.cells #[.slice none 0 0,.int .i64 0,.slice none 0 0] 105));have HG:=Lh (((anw w #[.slice ga xs.length gc] 33).alloc (.cells (cV file) 27)).alloc (.cells #[.slice none 0 0,.int .i64 0,.slice none 0 0] 105));have HF:=Lh ((an2 w (.cells #[.slice ga xs.length gc] 33) (cV file) 27).alloc (.cells #[.slice none 0 0,.int .i64 0,.slice none 0 0] 105));have HZ:=Lh (arr_new3 w (.cells #[.slice ga xs.length gc] 33) (.cells (cV file) 27) #[.slice none 0 0,.int .i64 0,.slice none 0 0] 105);have HZt:=Lh (show ArrT (((w.alloc (.cells #[.slice ga xs.length gc] 33)).alloc (.cells (cV file) 27)).alloc (.cells #[.slice none 0 0,.int .i64 0,.slice none 0 0] 105)) (w.heap.size+1+1) 105 [.slice none 0 0,.int .i64 0,.slice none 0 0] from(show((w.alloc (.cells #[.slice ga xs.length gc] 33)).alloc (.cells (cV file) 27)).heap.size=w.heap.size+1+1 by simp)▸arrT_new ((w.alloc (.cells #[.slice ga xs.length gc] 33)).alloc (.cells (cV file) 27)) [.slice none 0 0,.int .i64 0,.slice none 0 0] 105);have HV:=Lh (hv.over HB0.o);have hll:=lines_few (file:=file) hil;have hrf:(relM (patsOf xs) file).length≤1000000:=by rw [relM_length];exact steps_few (by omega)
 have HRLn:=Lh (relM_length (patsOf xs) file);have HAt:=Lh (fun k e=>@relM_at (patsOf xs) file k e);have HEn:=Lh (fun e=>@step_ends (patsOf xs) hw (wf_len hw) file e);have HLt:=Lh (relM_lt hw (wf_len hw) file);have HLM:=Lh (linesM_eq (patsOf xs) file);clear hv hl hw HB0a;unfold rgV vidV;go_enter Tryz.func44,Tryz.ntmps44;go_upto_region 1 with fail;generalize ((w.alloc (.cells #[.slice ga xs.length gc] 33)).alloc (.cells (cV file) 27)).alloc (.cells #[.slice none 0 0,.int .i64 0,.slice none 0 0] 105)=w0 at *;obtain⟨g0,sg⟩:=HG.o.c1;obtain⟨f0,f1,f2,sf⟩:=HF.o.c3;go_wp2_with fail;refine(rof20_any _ xs file 3 _ HV.o hn HLs.o (by omega) hvl).mono ?_;rintro e w1 ⟨lv,rfl,ho1,hb1⟩;rw [HLM.o] at ho1;obtain⟨lp,lc,rfl,z1,z2,_⟩:=ho1.at encVert_len;unfold maxLen at z2;have HO1:=Lh ho1;have HB1:=Lh hb1;have HG1:=Lh (HG.o.over hb1);have HF1:=Lh (HF.o.over hb1);have HZ1:=Lh (HZ.o.over hb1);clear ho1 hb1 g0 sg f0 f1 f2 sf;obtain⟨g0,sg⟩:=HG1.o.c1;obtain⟨f0,f1,f2,sf⟩:=HF1.o.c3;go_wp2_with fail;refine(rsteps20_any _ xs file _ (HV.o.over HB1.o) hn HLs.o hel).mono ?_;rintro e w2 ⟨ev,rfl,ho2,hb2⟩;obtain⟨ep,ec,rfl,y1,y2,hce⟩:=ho2.at encEdge_len;unfold maxLen at y2;have HCE:=Lh hce;have HO2:=Lh (HO1.o.over hb2);have HB2:=Lh (bvo HB1.o hb2);have HZ2:=Lh (HZ1.o.over hb2);clear ho2 hb2 hce g0 sg f0 f1 f2 sf;rw [← HRLn.o] at y1 ⊢;generalize linesM (patsOf xs) file=l at *;go_wp2;go_loopw [7,8] (fun v7 v8 wr=>LoRel w2 (relM (patsOf xs) file) v7 v8 wr) (fun _ v8 _=>(relM (patsOf xs) file).length - (intOf v8).toNat)
 case atStart=>exact⟨0,by omega,rfl,Lh (by rw [List.take_zero];exact gown_nil _ _),Below.refl _ _⟩
 obtain⟨k,hk,rfl,HM,hbl⟩:=hrel;rename World=>wr
 by_cases hlt:k<(relM (patsOf xs) file).length
 ·
  obtain⟨b3,off3,rfl,sb3,hcb⟩:=HCE.o.resolve_left (by rw [← HRLn.o];omega);obtain⟨x,hx⟩:=gol (xs:=stepsM (patsOf xs) file) (i:=k) (by rw [← HRLn.o];exact hlt);have HX:=Lh (HAt.o k x hx);obtain⟨hm1,hm2⟩:=HEn.o x (List.mem_of_getElem? hx);have HM1:=Lh hm1;have HM2:=Lh hm2;have HRx:=Lh (hcb k x hx wr hbl.o);have HOr:=Lh (HO2.o.over hbl.o);obtain⟨x0,x1,x2,x3,x4,x5,sx⟩:=rc6 HRx.o;have hN7:((relM (patsOf xs) file).take k).length+1≤1099511627776:=by rw [List.length_take];omega
  clear hcb hx hm1 hm2;go_wp2_with fail;refine wlo 17 fun hcur=>?_;repeat(first|refine lxq ?_|(refine lxl rfl ?_;go_wp2_with (first|(go_at_call 92;(first|(with_reducible refine(r21place_any _ l x.1 _ (HOr.o.over hcur) HM1.o).mono ?_)|(with_reducible refine(r21place_any _ l x.2 _ (HOr.o.over hcur) HM2.o).mono ?_));rintro e w' ⟨rfl,hb⟩;have hcur:=bvo hcur hb));refine⟨iov (by first|exact hcur|exact hcur.alloc hcur.size _),?_⟩))
  refine lxe ?_;have HM8:=Lh (HM.o.over hcur);have HB8:=Lh (bvo hbl.o hcur);have hB8:=HB8.o.size;clear hcur x0 x1 x2 x3 x4 x5 sx;go_wp2_with (at_builtin;refine apD slPair rfl _ _ rfl w2.heap.size _ _ (drf _) 1 _ _ _ HM8.o rfl rfl rfl rfl hN7 (by decide) hB8 ?_;intro v9 w9 ho9 hg9);go_roundw
  case rel=>exact⟨k+1,hlt,by go_num,Lh (take_snoc HX.o (GOwn.snoc ho9)),bgr HB8.o hB8 HM8.o hg9⟩
  simp [intOf];omega
 obtain rfl:k=(relM (patsOf xs) file).length:=by omega
 have hE:=HM.o;rw [List.take_length] at hE;have HE:=Lh hE;obtain⟨rp,rc,rfl,t1,t2,_⟩:=prow_at hE.row;unfold maxLen at t2;clear hE HM;go_wp2_with fail;refine(r8of_any l.length _ (relM (patsOf xs) file) _ HE.o.row HLt.o hll hrf).mono ?_;rintro e w4 ⟨u,rfl,ho4,hb4⟩;obtain⟨up,uc,rfl,_,_,_⟩:=prow_at ho4.row;have HUo:=Lh ho4;have HZT:=Lh ((HZt.o.over (bvo HB2.o hbl.o)).over hb4);have HBf:=Lh (bvo HB0.o (bvo HB2.o (bvo hbl.o hb4)));have HO4:=Lh ((HO2.o.over hbl.o).over hb4);have HZ4:=Lh ((HZ2.o.over hbl.o).over hb4);clear ho4 hb4;obtain⟨q0,q1,q2,_⟩:=HZ4.o.c3;have qf0:=HZ4.o.free 0;have qf1:=HZ4.o.free 1;have qf2:=HZ4.o.free 2;have sq:=HZ4.o.lt;have hrow:=Row.other (show Row _ _ _ _ _ from HO4.o) HZ4.o (by simp) (gtr (gtr (gsc (g:=w.heap.size+1+1) w4 0 (.slice lp l.length lc)) (gsc _ 1 (.int .i64 l.length))) (gsc _ 2 (.slice up (relM (patsOf xs) file).length uc)));have HRw:=Lh hrow;have hho:GOwn encP 2 158 (((w4.setCell ⟨w.heap.size+1+1,0,none⟩ (.slice lp l.length lc)).setCell ⟨w.heap.size+1+1,1,none⟩ (.int .i64 l.length)).setCell ⟨w.heap.size+1+1,2,none⟩ (.slice up (relM (patsOf xs) file).length uc)) _ (.slice up (relM (patsOf xs) file).length uc) (relM (patsOf xs) file):=
  own_kept (own_kept (own_kept HUo.o (gsc _ _ _) (HZT.o.ne HUo.o (by decide))) (gsc _ _ _) (HZT.o.ne HUo.o (by decide))) (gsc _ _ _) (HZT.o.ne HUo.o (by decide))
 have HUf:=Lh hho.row;have HBg:=Lh (((HBf.o.setCell (p:=⟨w.heap.size+1+1,0,none⟩) (by show w.heap.size≤w.heap.size+1+1;omega) (.slice lp l.length lc)).setCell (p:=⟨w.heap.size+1+1,1,none⟩) (by show w.heap.size≤w.heap.size+1+1;omega) (.int .i64 l.length)).setCell (p:=⟨w.heap.size+1+1,2,none⟩) (by show w.heap.size≤w.heap.size+1+1;omega) (.slice up (relM (patsOf xs) file).length uc));clear hrow hho;go_wp2_with fail;refine bodyPost_ret (v:=rsV (.slice lp l.length lc) l.length (.slice up (relM (patsOf xs) file).length uc)) (results_arr rowSh rfl (((HZ4.o.set 0 _).set 1 _).set 2 _) rfl rfl) rfl ?_;exact r21_mk ⟨HRw.o,HUf.o,by omega,HLt.o,hrf⟩ HBg.o
end
def insLater(x:VertM):List VertM→List VertM
 | []=>[x]
 | y :: l=>if 0<cmpLater x.id y.id then x :: y :: l else y :: insLater x l
theorem cmpN_pos(a b:Nat):(0<cmpN a b)=(b<a):=by
 rcases Nat.lt_trichotomy a b with h|h|h
 · rw [cmpN_lt h];simp;omega
 · rw [cmpN_eq h];simp;omega
 rw [cmpN_gt h];simp [h]
theorem insLater_perm(x:VertM):∀ l:List VertM,(insLater x l).Perm (x :: l)
 | []=>List.Perm.refl _
 | y :: l=>by
  unfold insLater;split
  · exact List.Perm.refl _
  exact((insLater_perm x l).cons y).trans (List.Perm.swap x y l)
def LaterS(l:List VertM):Prop:=l.Pairwise fun a b=>laterK b.id≤laterK a.id
theorem insLater_sorted(x:VertM):∀ {l:List VertM},LaterS l→LaterS (insLater x l)
 | [],_=>List.pairwise_singleton _ _
 | y :: l,h=>by
  obtain⟨h1,h2⟩:=List.pairwise_cons.1 h;unfold insLater;split
  ·
   rename_i hc;unfold cmpLater at hc;rw [cmpN_pos] at hc;refine List.pairwise_cons.2 ⟨fun z hz => ?_,h⟩;rcases List.mem_cons.1 hz with rfl|hz
   · omega
   have:=h1 z hz;omega
  rename_i hc;unfold cmpLater at hc;rw [cmpN_pos] at hc;refine List.pairwise_cons.2 ⟨fun z hz => ?_,insLater_sorted x h2⟩;rcases List.mem_cons.1 ((insLater_perm x l).mem_iff.1 hz) with rfl|hz
  · omega
  exact h1 z hz
def insAll(l:List VertM):List VertM:=l.foldl (fun out x=>insLater x out) []
theorem insAll_go:∀(l out:List VertM),LaterS out→(l.foldl (fun out x=>insLater x out) out).Perm (l++out)∧LaterS (l.foldl (fun out x=>insLater x out) out)
 | [],out,h=>⟨List.Perm.refl _,h⟩
 | x :: l,out,h=>by obtain⟨h1,h2⟩:=insAll_go l (insLater x out) (insLater_sorted x h);refine⟨h1.trans ?_,h2⟩;exact((insLater_perm x out).append_left l).trans List.perm_middle
theorem insAll_names{L:List PatchM}(hl:∀ p∈L,p.ops.length≤200)(f:VidM):insAll (aliveM L f)=namesM L f:=by obtain⟨h1,h2⟩:=insAll_go (aliveM L f) [] List.Pairwise.nil;rw [List.append_nil] at h1;refine names_eq hl f h1 (h2.imp fun {a b} h => ?_);unfold cmpLater;rw [cmpN_neg];omega
abbrev TextL:Type:=List UInt8
theorem tl_irrefl(a:TextL):¬ a<a:=List.lt_irrefl a
theorem tl_trans{a b c:TextL}(h:a<b)(h':b<c):a<c:=List.lt_trans h h'
theorem tl_total(a b:TextL):a≤b∨b≤a:=List.le_total a b
theorem tl_not{a b:TextL}:¬ a<b↔b≤a:=List.not_lt
theorem tl_antisymm{a b:TextL}(h:a≤b)(h':b≤a):a=b:=List.le_antisymm h h'
theorem tl_lt_of{a b:TextL}(h:a≤b)(hne:a≠b):a<b:=by
 rcases Classical.em (a<b) with h1|h1
 · exact h1
 exact absurd (tl_antisymm h (tl_not.1 h1)) hne
theorem tl_le_of{a b:TextL}(h:a<b):a≤b:=tl_not.1 fun h'=>tl_irrefl a (tl_trans h h')
theorem tl_le_trans{a b c:TextL}(h:a≤b)(h':b≤c):a≤c:=List.le_trans h h'
def RisesT(l:List TextL):Prop:=l.Pairwise fun a b=>a<b
theorem risesT_ext:∀ {l m:List TextL},RisesT l→RisesT m→(∀ x,x∈l↔x∈m)→l=m
 | [],[],_,_,_=>rfl
 | [],y :: m,_,_,h=>absurd ((h y).2 (List.mem_cons_self ..)) (List.not_mem_nil)
 | x :: l,[],_,_,h=>absurd ((h x).1 (List.mem_cons_self ..)) (List.not_mem_nil)
 | x :: l,y :: m,hl,hm,h=>by
  obtain⟨l1,l2⟩:=List.pairwise_cons.1 hl;obtain⟨m1,m2⟩:=List.pairwise_cons.1 hm;have hxy:x=y:=by
   rcases List.mem_cons.1 ((h x).1 (List.mem_cons_self ..)) with e|hx
   · exact e
   rcases List.mem_cons.1 ((h y).2 (List.mem_cons_self ..)) with e|hy
   · exact e.symm
   exact absurd (tl_trans (m1 x hx) (l1 y hy)) (tl_irrefl y)
  subst hxy;refine congrArg _ (risesT_ext l2 m2 fun z=>⟨fun hz => ?_,fun hz => ?_⟩)
  ·
   rcases List.mem_cons.1 ((h z).1 (List.mem_cons_of_mem _ hz)) with rfl|hz'
   · exact absurd (l1 _ hz) (tl_irrefl _)
   exact hz'
  rcases List.mem_cons.1 ((h z).2 (List.mem_cons_of_mem _ hz)) with rfl|hz'
  · exact absurd (m1 _ hz) (tl_irrefl _)
  exact hz'
theorem compact_compL(l:List TextL):∀ m,m≤l.length→Lib.compactUpTo l.toArray m=compL (l.take m)
 | 0,_=>rfl
 | 1,h=>by
  cases l with
  | nil=>simp at h
  | cons x l=>simp [Lib.compactUpTo,Lib.keeps,compL,List.range_succ]
 | m+2,h=>by
  have ih:=compact_compL l (m+1) (by omega);have hx:=List.getElem?_eq_getElem (l:=l) (i:=m) (by omega);have hy:=List.getElem?_eq_getElem (l:=l) (i:=m+1) (by omega);rw [comp_step hx hy,← ih];have e1:l.toArray[m+1]! = l[m+1]:=by rw [getElem!_pos _ _ (by simp;omega)];simp
  have e0:l.toArray[m+1 - 1]! = l[m]:=by rw [getElem!_pos _ _ (by simp;omega)];simp
  unfold Lib.compactUpTo;rw [List.range_succ (n:=m+1),List.filter_append,List.map_append]
  by_cases hxy:l[m]=l[m+1]
  · rw [if_pos hxy];have:Lib.keeps l.toArray (m+1)=false:=(by simp only [Lib.keeps,e1,e0,hxy];simp);simp [this]
  rw [if_neg hxy];have:Lib.keeps l.toArray (m+1)=true:=by simp only [Lib.keeps,e1,e0];simp [Ne.symm hxy]
  rw [List.filter_cons,this];simp only [if_true,List.filter_nil,List.map_cons,List.map_nil];rw [e1]
theorem rises_compT:∀ {l:List TextL},(l.Pairwise fun a b=>a≤b)→RisesT (compL l)
 | [],_=>List.Pairwise.nil
 | [x],_=>List.pairwise_singleton _ _
 | x :: y :: l,h=>by
  have h':=List.pairwise_cons.1 h;have hr:=rises_compT h'.2
  by_cases e:x=y
  · subst e;rw [compL_eq];exact hr
  rw [compL_ne e];refine List.pairwise_cons.2 ⟨fun z hz => ?_,hr⟩;rw [mem_compL] at hz;have hxy:=tl_lt_of (h'.1 y (List.mem_cons_self ..)) e;rcases List.mem_cons.1 hz with rfl|hz
  · exact hxy
  have h3:=(List.pairwise_cons.1 h'.2).1 z hz;refine tl_lt_of (tl_le_trans (tl_le_of hxy) h3) fun q => ?_;subst q;exact absurd hxy (tl_not.2 h3)
theorem alsoM_spec(l:List VertM)(t:ByteArray):RisesT (alsoM l t)∧∀ s,s∈alsoM l t↔s∈othersM l t:=by
 have hs:((othersM l t).mergeSort fun x y=>decide (x≤y)).Pairwise fun a b=>a≤b:=by have:=List.pairwise_mergeSort (le:=fun x y:TextL=>decide (x≤y)) (fun a b c h1 h2=>by simp at *;exact tl_le_trans h1 h2) (fun a b=>by simpa using tl_total a b) (othersM l t);exact this.imp fun h=>by simpa using h
 have he:alsoM l t=compL ((othersM l t).mergeSort fun x y=>decide (x≤y)):=by have:=compact_compL ((othersM l t).mergeSort fun x y=>decide (x≤y)) _ (Nat.le_refl _);rw [List.take_length] at this;exact this
 rw [he];exact⟨rises_compT hs,fun s=>by rw [mem_compL,List.mem_mergeSort]⟩
variable{x:VertM}
theorem later_seq{a b:PidM}(h:¬ a.seq=b.seq):laterP a b=cmpN a.seq.toNat b.seq.toNat:=by
 have h1:=a.author.toNat_lt;have h2:=b.author.toNat_lt;have h3:a.seq.toNat≠b.seq.toNat:=fun e=>h (UInt16.toNat_inj.1 e);rw [laterP_key]
 by_cases hl:a.seq.toNat<b.seq.toNat
 · rw [cmpN_lt hl,cmpN_lt (by omega)]
 rw [cmpN_gt (show b.seq.toNat<a.seq.toNat by omega),cmpN_gt (by omega)]
theorem later_author{a b:PidM}(h:a.seq=b.seq):laterP a b=cmpN a.author.toNat b.author.toNat:=by
 rw [laterP_key,h];rcases Nat.lt_trichotomy a.author.toNat b.author.toNat with hl|hl|hl
 · rw [cmpN_lt hl,cmpN_lt (by omega)]
 · rw [cmpN_eq hl,cmpN_eq (by omega)]
 rw [cmpN_gt hl,cmpN_gt (by omega)]
theorem later_pid{a b:VidM}(h:¬ a.pid=b.pid):cmpLater a b=laterP a.pid b.pid:=by
 rw [← later_or];unfold orI;have:laterP a.pid b.pid≠0:=by unfold laterP;rw [if_neg h];split <;> (try split) <;> decide
 rw [if_neg this]
theorem later_n{a b:VidM}(h:a.pid=b.pid):cmpLater a b=cmpVid a b:=by
 rw [cmpVid_n h,← later_or];unfold orI;have:laterP a.pid b.pid=0:=by unfold laterP;rw [if_pos h]
 rw [if_pos this]
theorem u16_beq(a b:UInt16):((a.toNat:Int) != (b.toNat:Int))=decide (¬ a=b):=by
 by_cases h:a=b
 · simp [h]
 have:a.toNat≠b.toNat:=fun e=>h (UInt16.toNat_inj.1 e);simp [h];omega
attribute [local irreducible] laterP cmpN cmpLater cmpVid
theorem rlaterPid_any(a b:PidM)(w:World):Calls Tryz.prog 217 #[pidV a,pidV b] w fun e w'=>e=.returned (.int .i64 (laterP a b))∧Be w w':=by
 have HB:=Lh ((bnew (w:=w) (.cells (cP a) 25)).alloc (by simp) (.cells (cP b) 25));have l1:=a.author.toNat_lt;have l2:=a.seq.toNat_lt;have l3:=b.author.toNat_lt;have l4:=b.seq.toNat_lt;unfold pidV
 by_cases h:a.seq=b.seq
 ·
  have HC:=Lh (later_author h);have e1:((a.seq.toNat:Int) != (b.seq.toNat:Int))=false:=by rw [u16_beq];simp [h]
  clear h;go_enter Tryz.func217,Tryz.ntmps217;go_wp2_with fail;refine(sign_any a.author.toNat b.author.toNat _).mono ?_;rintro e w1 ⟨rfl,rfl⟩;go_wp2;go_ret;exact⟨ret_int HC.o.symm,HB.o⟩
 have HC:=Lh (later_seq h);have e1:((a.seq.toNat:Int) != (b.seq.toNat:Int))=true:=by rw [u16_beq];simp [h]
 clear h;go_enter Tryz.func217,Tryz.ntmps217;go_wp2_with fail;refine(sign_any a.seq.toNat b.seq.toNat _).mono ?_;rintro e w1 ⟨rfl,rfl⟩;go_wp2;go_ret;exact⟨ret_int HC.o.symm,HB.o⟩
theorem rlaterVid_any(a b:VidM)(w:World):Calls Tryz.prog 159 #[vidV a,vidV b] w fun e w'=>e=.returned (.int .i64 (cmpLater a b))∧Be w w':=by
 have HB:=Lh ((bnew (w:=w) (.cells (cV a) 27)).alloc (by simp) (.cells (cV b) 27));unfold vidV;have gd:=fun p q xs ys w=>guard_pid .neq p q xs ys w
 by_cases h:a.pid=b.pid
 · have HC:=Lh (later_n h);have e1:=neq_pid a.pid b.pid false (by simp [h]);unfold pidV at e1;clear h;go_enter Tryz.func159,Tryz.ntmps159;go_wp2_with fail;refine(rcmpVid_any a b _).mono ?_;rintro e w1 ⟨rfl,hb1⟩;go_wp2;go_ret;exact⟨ret_int HC.o.symm,bvo HB.o hb1⟩
 have HC:=Lh (later_pid h);have e1:=neq_pid a.pid b.pid true (by simp [h]);unfold pidV at e1;clear h;go_enter Tryz.func159,Tryz.ntmps159;go_wp2_with fail;refine(rlaterPid_any a.pid b.pid _).mono ?_;rintro e w1 ⟨rfl,hb1⟩;go_wp2;go_ret;exact⟨ret_int HC.o.symm,bvo HB.o hb1⟩
def restL(x:VertM)(t:Bool)(r:List VertM):List VertM:=if t=true then r else insLater x r
theorem restL_t(x:VertM)(r:List VertM):restL x true r=r:=rfl
theorem restL_f(x:VertM)(r:List VertM):restL x false r=insLater x r:=rfl
theorem insLater_pos{y:VertM}{r:List VertM}(h:0<cmpLater x.id y.id):insLater x (y :: r)=x :: y :: r:=by rw [insLater,if_pos h]
theorem insLater_no{y:VertM}{r:List VertM}(h:¬ 0<cmpLater x.id y.id):insLater x (y :: r)=y :: insLater x r:=by rw [insLater,if_neg h]
def insTo(all:List VertM)(i:Nat):List VertM:=insAll ((all.take i).filter aliveQ)
theorem insTo_yes{all:List VertM}{i:Nat}(h:all[i]? = some x)(hd:x.dead=false):insTo all (i+1)=insLater x (insTo all i):=by unfold insTo insAll;rw [take_succ' h,List.filter_append,List.foldl_append];simp [aliveQ,hd]
theorem insTo_no{all:List VertM}{i:Nat}(h:all[i]? = some x)(hd:x.dead=true):insTo all (i+1)=insTo all i:=by unfold insTo;rw [take_succ' h,List.filter_append];simp [aliveQ,hd]
theorem insTo_len(all:List VertM)(i:Nat):(insTo all i).length≤i:=by have h:=(insAll_go ((all.take i).filter aliveQ) [] List.Pairwise.nil).1.length_eq;unfold insTo insAll;rw [h,List.append_nil];exact Nat.le_trans (List.length_filter_le _ _) (by rw [List.length_take];omega)
theorem insTo_all{L:List PatchM}(hl:∀ p∈L,p.ops.length≤200)(f:VidM):insTo (ofM L f 2) (ofM L f 2).length=namesM L f:=by unfold insTo;rw [List.take_length,aliveM_q,insAll_names hl]
def NoOut(w2:World)(all:List VertM)(v5 v7:Value)(wr:World):Prop:=∃ i:Nat,i≤all.length∧v7=.int .i64 i∧Hid (GRow encVert 9 wr v5 (insTo all i))∧Be w2 wr
def NoIn(wo:World)(x:VertM)(out:List VertM)(v8 v9 v10:Value)(wr:World):Prop:=
 ∃(k:Nat) (M:List VertM) (t:Bool),k≤out.length∧v10=.int .i64 k∧v9=.bool t∧M.length≤k+t.toNat∧Hid (GOwn encVert 9 86 wr wo.heap.size v8 M)∧Hid (insLater x out=M++restL x t (out.drop k))∧Be wo wr
theorem noIn_start(x:VertM)(out:List VertM):insLater x out=[]++restL x false (out.drop 0):=by simp [restL]
attribute [local irreducible] insLater insTo restL ofM namesM idsM
theorem rnof_any(gv:Value)(xs:List LaidP)(f:VidM)(w:World)(hv:Pats w gv xs)(hn:xs.length≤300)(hl:∀ x∈xs,x.p.ops.length≤200)(hil:(idsM (patsOf xs)).length≤100000) :
  Calls Tryz.prog 98 #[rgV gv,vidV f] w (SetRes encVert 9 w (namesM (patsOf xs) f)):=by
 have HV:=Lh hv;have hol:=ofM_len (patsOf xs) f 2;have hvl:(vertsM (patsOf xs)).length≤100000:=by unfold vertsM;rw [List.length_map];exact hil
 have HE:=Lh (insTo_all (L:=patsOf xs) (fun p hp=>by obtain⟨x,hx,rfl⟩:=List.mem_map.1 hp;exact hl x hx) f);have HL:=Lh hl;obtain⟨a,cap,rfl,h1,h2,hc⟩:=hv.1.at encPat_len;unfold maxLen at h2;have HG:=Lh ((anw w #[.slice a xs.length cap] 33).alloc (.cells (cV f) 27));have HF0:=Lh (an2 w (.cells #[.slice a xs.length cap] 33) (cV f) 27);have HB:=Lh ((bnew (w:=w) (.cells #[.slice a xs.length cap] 33)).alloc (by simp) (.cells (cV f) 27));clear hv hc hl;unfold rgV vidV;go_enter Tryz.func98,Tryz.ntmps98;go_upto_region 1 with fail;generalize (w.alloc (.cells #[.slice a xs.length cap] 33)).alloc (.cells (cV f) 27)=w0 at *;obtain⟨g0,sg⟩:=HG.o.c1;obtain⟨f0,f1,f2,sf⟩:=HF0.o.c3;go_wp2_with fail;refine(rof20_any _ xs f 2 _ (HV.o.over HB.o) hn (fun x hx=>Nat.le_trans (HL.o x hx) (by omega)) hil hvl).mono ?_;rintro e w2 ⟨u2,rfl,hu2,hb2⟩;obtain⟨a6,c6,rfl,t1,t2,hc6⟩:=hu2.at encVert_len;unfold maxLen at t2;have HC:=Lh hc6;have HB2:=Lh (bvo HB.o hb2);generalize ofM (patsOf xs) f 2=all at *;clear hu2 hc6 hb2 g0 sg f0 f1 f2 sf;go_wp2;go_loopw [5,7] (fun v5 v7 wr=>NoOut w2 all v5 v7 wr) (fun _ v7 _=>all.length - (intOf v7).toNat)
 case atStart=>exact⟨0,Nat.zero_le _,rfl,(by show GRow _ _ _ _ _;unfold insTo;simp only [List.take_zero,List.filter_nil];exact row_nil _ _),Below.refl _ _⟩
 rename World=>wo;obtain⟨i,hi,rfl,HO,hbl⟩:=hrel
 by_cases hlt:i<all.length
 rotate_left
 ·
  obtain rfl:i=all.length:=by omega
  have HE2:=HO.o;rw [HE.o] at HE2;go_wp2;go_ret;exact⟨_,rfl,HE2,bvo HB2.o hbl⟩
 obtain⟨bl,ol,rfl,sl,hcl⟩:=HC.o.resolve_left (by omega);obtain⟨x,hx⟩:=gol hlt;have HXa:Hid (∀ W,Be wo W→bl<W.heap.size∧∀ j u,(encVert x)[j]? = some u→W.cell? ⟨bl,ol+i*9+j,none⟩=some u):=fun W hW=>hcl i x hx W (bvo hbl hW);have hol2:=insTo_len all i;have HXw:=Lh (HXa.o wo (Below.refl _ _));obtain⟨x0,x1,x2,x3,x4,x5,x6,x7,x8,sX⟩:=rc9 HXw.o;cases hd:x.dead with
 | true =>
  have HF:=Lh (insTo_no hx hd);rw [hd] at x8;clear hd hx hcl;go_wp2;go_roundw
  case rel=>exact⟨i+1,hlt,by go_num,(by show GRow _ _ _ _ _;rw [HF.o];exact HO.o),hbl⟩
  simp [intOf];omega
 | false =>
  have HF:=Lh (insTo_yes hx hd);rw [hd] at x8;generalize insTo all i=out at *;obtain⟨ao,co,rfl,o1,o2,hco⟩:=HO.o.at encVert_len;unfold maxLen at o2;have HCo:=Lh hco;have HBl:=Lh hbl;clear hx hcl hco hbl hd;go_wp2_with fail;clear x0 x1 x2 x3 x4 x5 x6 x7 x8 sX;go_hide hQ;go_loopw [8,9,10] (fun v8 v9 v10 wi=>NoIn wo x out v8 v9 v10 wi) (fun _ _ v10 _=>out.length - (intOf v10).toNat)
  case atStart=>exact⟨0,[],false,by omega,rfl,rfl,by simp,gown_nil _ _,noIn_start _ _,Below.refl _ _⟩
  rename World=>wr;obtain⟨k,M,t,hk,rfl,rfl,hM,HM,HR,hbi⟩:=hrel;have htn:=Bool.toNat_le t;have hN:M.length+1≤1099511627776:=by omega
  by_cases hk2:k<out.length
  rotate_left
  ·
   have hke:k=out.length:=(by omega);subst hke;rw [List.drop_length] at HR;have HBi:=Lh hbi;have hbw:=bvo HBl.o hbi;cases t with
   | true =>
    have HE:Hid (insLater x out=M):=(by show _=_;rw [HR.o,restL_t];simp);go_wp2;subst hQ;go_wp2;go_roundw
    case rel=>exact⟨i+1,hlt,by go_num,(by show GRow _ _ _ _ _;rw [HF.o,HE.o];exact HM.o.row),hbw⟩
    simp [intOf];omega
   | false =>
    have HE:Hid (insLater x out=M++[x]):=(by show _=_;rw [HR.o,restL_f];unfold insLater;rfl);have HXw:=Lh (HXa.o wr (HBi.o));obtain⟨x0,x1,x2,x3,x4,x5,x6,x7,x8,sX⟩:=rc9 HXw.o;have hB:=HBi.o.size;go_wp2;subst hQ;go_wp2_with (at_builtin;(first|refine apD slVertP rfl _ _ rfl wo.heap.size _ _ (dad _ _ _) 1 _ _ _ HM.o rfl rfl rfl rfl hN (by decide) hB ?_|refine apD slVertP rfl _ _ rfl wo.heap.size _ _ (drf _) 1 _ _ _ HM.o rfl rfl rfl rfl hN (by decide) hB ?_);intro v2 w2 ho2 hg2);go_roundw
    case rel=>exact⟨i+1,hlt,by go_num,(by show GRow _ _ _ _ _;rw [HF.o,HE.o];exact(GOwn.snoc ho2).row),bvo HBl.o (bgr HBi.o hB HM.o hg2)⟩
    simp [intOf];omega
  obtain⟨bo,oo,rfl,so,hcw⟩:=HCo.o.resolve_left (by omega);obtain⟨y,hy⟩:=gol hk2;have HYa:Hid (∀ W,Be wo W→bo<W.heap.size∧∀ j u,(encVert y)[j]? = some u→W.cell? ⟨bo,oo+k*9+j,none⟩=some u):=fun W hW=>hcw k y hy W hW;have HR1:Hid (insLater x out=M++restL x t (y :: out.drop (k+1))):=by show _=_;rw [← drop_at hy];exact HR.o
  have HBi:=Lh hbi;clear hy hcw hbi HR;cases t with
  | true =>
   have hM1:M.length≤k+1:=hM;have HN:Hid (insLater x out=(M++[y])++restL x true (out.drop (k+1))):=(by show _=_;rw [HR1.o,restL_t,restL_t];simp);have HXw:=Lh (HXa.o wr (HBi.o));obtain⟨x0,x1,x2,x3,x4,x5,x6,x7,x8,sX⟩:=rc9 HXw.o;have HYw:=Lh (HYa.o wr (HBi.o));obtain⟨y0,y1,y2,y3,y4,y5,y6,y7,y8,sY⟩:=rc9 HYw.o;have hB:=HBi.o.size;go_upto_region 12 with fail;refine wlo 16 fun hcur=>?_;(repeat refine lxq ?_);refine lxe ?_;have HM5:=Lh (HM.o.over hcur);have HB5:=Lh (bvo HBi.o hcur);have hB5:wo.heap.size≤wr.drew.heap.size:=hB;go_wp2_with (at_builtin;(first|refine apD slVertP rfl _ _ rfl wo.heap.size _ _ (dad _ _ _) 1 _ _ _ HM5.o rfl rfl rfl rfl hN (by decide) hB5 ?_|refine apD slVertP rfl _ _ rfl wo.heap.size _ _ (drf _) 1 _ _ _ HM5.o rfl rfl rfl rfl hN (by decide) hB5 ?_);intro v2 w2 ho2 hg2);go_roundw
   case rel=>exact⟨k+1,M++[y],true,hk2,by go_num,rfl,by simp;omega,GOwn.snoc ho2,HN,bgr HBi.o HBi.o.size HM.o hg2⟩
   simp [intOf];omega
  | false =>
   have hM0:M.length≤k:=hM;have HCL:Hid (∀ W,Calls Tryz.prog 159 #[.agg (cV x.id),.agg (cV y.id)] W fun e w'=>e=.returned (.int .i64 (cmpLater x.id y.id))∧Be W w'):=Lh fun W=>rlaterVid_any x.id y.id W
   by_cases hp:0<cmpLater x.id y.id
   ·
    have d:decide ((0:Int)<cmpLater x.id y.id)=true:=decide_eq_true hp;have HN:Hid (insLater x out=(M++[x]++[y])++restL x true (out.drop (k+1))):=(by show _=_;rw [HR1.o,restL_f,restL_t,insLater_pos hp];simp);have hN2:(M++[x]).length+1≤1099511627776:=(by simp;omega);clear hp;generalize cmpLater x.id y.id=c at *;have HXw:=Lh (HXa.o wr (HBi.o));obtain⟨x0,x1,x2,x3,x4,x5,x6,x7,x8,sX⟩:=rc9 HXw.o;have HYw:=Lh (HYa.o wr (HBi.o));obtain⟨y0,y1,y2,y3,y4,y5,y6,y7,y8,sY⟩:=rc9 HYw.o;go_upto_region 12 with fail;refine wlo 16 fun hcur=>?_;(repeat(first|refine lxq ?_|(refine lxl rfl ?_;go_wp2_with (first|(go_at_call 159;(with_reducible refine(HCL.o _).mono ?_);rintro e w' ⟨rfl,hb⟩;have hcur:=bvo hcur hb));refine⟨iov hcur,?_⟩)));refine lxe ?_;rename World=>w5;have HB5:=Lh (bvo HBi.o hcur);have HM5:=Lh (HM.o.over hcur);have hB5:=HB5.o.size;clear hcur;clear x0 x1 x2 x3 x4 x5 x6 x7 x8 sX;clear y0 y1 y2 y3 y4 y5 y6 y7 y8 sY;have HXw:=Lh (HXa.o w5 (HB5.o));obtain⟨x0,x1,x2,x3,x4,x5,x6,x7,x8,sX⟩:=rc9 HXw.o;go_upto_region 15 with(at_builtin;(first|refine apD slVertP rfl _ _ rfl wo.heap.size _ _ (dad _ _ _) 1 _ _ _ HM5.o rfl rfl rfl rfl hN (by decide) hB5 ?_|refine apD slVertP rfl _ _ rfl wo.heap.size _ _ (drf _) 1 _ _ _ HM5.o rfl rfl rfl rfl hN (by decide) hB5 ?_);intro v2 w2 ho2 hg2)
    have HB2:=Lh (bgr HB5.o hB5 HM5.o hg2);have HM2:Hid (GOwn encVert 9 86 w2 wo.heap.size v2 (M++[x])):=GOwn.snoc ho2;have hB2:=HB2.o.size;clear hg2 ho2;clear x0 x1 x2 x3 x4 x5 x6 x7 x8 sX;have HYw:=Lh (HYa.o w2 (HB2.o));obtain⟨y0,y1,y2,y3,y4,y5,y6,y7,y8,sY⟩:=rc9 HYw.o;go_wp2_with (at_builtin;(first|refine apD slVertP rfl _ _ rfl wo.heap.size _ _ (dad _ _ _) 1 _ _ _ HM2.o rfl rfl rfl rfl hN2 (by decide) hB2 ?_|refine apD slVertP rfl _ _ rfl wo.heap.size _ _ (drf _) 1 _ _ _ HM2.o rfl rfl rfl rfl hN2 (by decide) hB2 ?_);intro v3 w3 ho3 hg3);go_roundw
    case rel=>exact⟨k+1,M++[x]++[y],true,hk2,by go_num,rfl,by simp;omega,GOwn.snoc ho3,HN,bgr HB2.o HB2.o.size HM2.o hg3⟩
    simp [intOf];omega
   have d:decide ((0:Int)<cmpLater x.id y.id)=false:=decide_eq_false hp;have HN:Hid (insLater x out=(M++[y])++restL x false (out.drop (k+1))):=(by show _=_;rw [HR1.o,restL_f,restL_f,insLater_no hp];simp);clear hp;generalize cmpLater x.id y.id=c at *;have HXw:=Lh (HXa.o wr (HBi.o));obtain⟨x0,x1,x2,x3,x4,x5,x6,x7,x8,sX⟩:=rc9 HXw.o;have HYw:=Lh (HYa.o wr (HBi.o));obtain⟨y0,y1,y2,y3,y4,y5,y6,y7,y8,sY⟩:=rc9 HYw.o;go_upto_region 12 with fail;refine wlo 16 fun hcur=>?_;(repeat(first|refine lxq ?_|(refine lxl rfl ?_;go_wp2_with (first|(go_at_call 159;(with_reducible refine(HCL.o _).mono ?_);rintro e w' ⟨rfl,hb⟩;have hcur:=bvo hcur hb));refine⟨iov hcur,?_⟩)));refine lxe ?_;rename World=>w5;have HB5:=Lh (bvo HBi.o hcur);have HM5:=Lh (HM.o.over hcur);have hB5:=HB5.o.size;clear hcur;clear x0 x1 x2 x3 x4 x5 x6 x7 x8 sX;clear y0 y1 y2 y3 y4 y5 y6 y7 y8 sY;have HYw:=Lh (HYa.o w5 (HB5.o));obtain⟨y0,y1,y2,y3,y4,y5,y6,y7,y8,sY⟩:=rc9 HYw.o;go_wp2_with (at_builtin;(first|refine apD slVertP rfl _ _ rfl wo.heap.size _ _ (dad _ _ _) 1 _ _ _ HM5.o rfl rfl rfl rfl hN (by decide) hB5 ?_|refine apD slVertP rfl _ _ rfl wo.heap.size _ _ (drf _) 1 _ _ _ HM5.o rfl rfl rfl rfl hN (by decide) hB5 ?_);intro v2 w2 ho2 hg2);go_roundw
   case rel=>exact⟨k+1,M++[y],false,hk2,by go_num,rfl,by simp;omega,GOwn.snoc ho2,HN,bgr HB5.o hB5 HM5.o hg2⟩
   simp [intOf];omega
end Go.Proofs.YtanfebljiblhbaaGreatDoor
