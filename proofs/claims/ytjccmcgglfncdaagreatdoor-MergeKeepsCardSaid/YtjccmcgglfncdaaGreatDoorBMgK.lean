/- What is proved: PlanGives and MergeKeeps, for every input; of the listed tables the walk needs the powers of ten. -/
import Derived.Test.YtjccmcgglfncdaaGreatDoorBPgF
import Derived.Test.YtjccmcgglfncdaaGreatDoorBRnC
import Derived.Test.YtjccmcgglfncdaaGreatDoorBPlZ
import Derived.Test.YtjccmcgglfncdaaGreatDoorBPatO
import Derived.Test.YtjccmcgglfncdaaGreatDoorBCard
import Derived.Stop.LaidErr
set_option linter.unusedVariables false
set_option linter.unusedSimpArgs false
set_option maxRecDepth 100000
set_option maxHeartbeats 40000000
namespace Go.Proofs.YtjccmcgglfncdaaGreatDoor
open Go Go.RowKit
section
theorem recI_cases(L:List PatchM)(t:List FileM)(id:PidM):(∃ p,(recI L t id).1=some p∧(recI L t id).2=0)∨((recI L t id).1=none∧(recI L t id).2≠0):=by
 unfold recI;split
 · exact .inr ⟨rfl,by decide⟩
 split
 ·
  split
  · exact .inl ⟨_,rfl,rfl⟩
  exact .inr ⟨rfl,by decide⟩
 rename_i h;exact .inr ⟨rfl,h⟩
def PatsW(w:World)(B:Nat)(v:Value)(l:List PatchM):Prop:=∃ xs:List LaidP,xs.map (·.p)=l∧GOwn encPat 4 44 w B v xs∧∀ x∈xs,GOwn encPid 2 25 w B x.dv x.p.deps∧GOwn encOp 8 76 w B x.ov x.p.ops
def sideOk(c:Nat):Bool:=decide (c=0) || decide (c=6)
def SideP(w:World)(o:Option PatchM)(c:Nat)(e:Ending)(w':World):Prop:=∃ v,e=.returned (.tuple #[v,.bool (sideOk c)])∧PatsW w' w.heap.size v o.toList∧Be w w'
attribute [local irreducible] planM planR recI depsM idsM linesM edgesM vecM nextF
theorem side_any(b:Nat)(L:List PatchM)(au:UInt8)(t:List FileM)(tv:Value)(w:World)(m:Nat)(hg:GrIs w b L)(hw:WfG L)(hil:(idsM L).length≤m)(hm:m*m+m*(m+120)+2000≤3900000)(hm1:1≤m)(hm2:m≤1000)(hel:(edgesM L).length≤1000000)(hll:∀ f,(linesM L f).length≤m)
  (ht:FRow w tv t) (hsz:SzT t) (htab:Tab w) :
  Calls Tryz.prog 74 #[.pointer (some ⟨b,0,none⟩),.int .u8 au.toNat,tv] w (SideP w (recI L t (nextF (vecM L) au)).1 (recI L t (nextF (vecM L) au)).2):=by
 have HRec:=Lh (precord_own b L au t tv w m hg hw hil hm hm1 hm2 hel hll ht hsz htab);obtain⟨id,hid⟩:∃ id,nextF (vecM L) au=id:=⟨_,rfl⟩;rw [hid] at HRec ⊢;clear hg hw hil hm hm1 hm2 hel hll ht hsz htab hid;go_enter Tryz.func74,Tryz.ntmps74;go_wp2_with fail;refine HRec.o.mono ?_;rintro e w1 h1;unfold RecOwn at h1;obtain⟨v1,rfl,hp1,hb1⟩:=h1;have hcs:=recI_cases L t id;generalize (recI L t id).1=o at *;generalize (recI L t id).2=c at *;rcases hcs with⟨p,rfl,rfl⟩|⟨rfl,hc⟩
 rotate_left
 ·
  have e1:v1=zPat:=hp1;subst e1;have HB1:=Lh hb1;have d0:((c:Int) != 0)=true:=by rw [bne_iff_ne];omega
  obtain⟨q,hq⟩:∃ q,((c:Int) == 6)=q:=⟨_,rfl⟩;have HQ:Hid (sideOk c=q):=Lh (by rw [← hq];unfold sideOk;rw [decide_eq_false hc,Bool.false_or,Bool.eq_iff_iff,decide_eq_true_eq,beq_iff_eq];omega);clear hp1 hb1 hc;go_wp2_with fail;refine bodyPost_ret (results_tmp2 rfl _ _ _) rfl ?_;unfold SideP;rw [HQ.o];exact⟨_,rfl,⟨[],rfl,gown_nil _ _,fun x hx=>absurd hx List.not_mem_nil⟩,bvo HB1.o (bnew (w:=w1) (.cells #[.int .u8 0,.int .u16 0,.slice none 0 0,.slice none 0 0] 44))⟩
 obtain⟨dv,ov,e1,hd,ho⟩:=hp1;obtain⟨pd,cd,ed⟩:=own_sl hd;obtain⟨po,co,eo⟩:=own_sl ho;subst ed eo;subst e1;have HD:=Lh hd;have HO:=Lh ho;obtain⟨nd,hnd⟩:∃ k,p.deps.length=k:=⟨_,rfl⟩;obtain⟨no,hno⟩:∃ k,p.ops.length=k:=⟨_,rfl⟩;rw [hnd] at HD;rw [hno] at HO;rw [hnd,hno];have HB1:=Lh hb1;clear hd ho hb1 hnd hno;unfold patV;go_upto_region 2 with fail;have HP:=Lh (anw w1 #[.int .u8 p.id.author.toNat,.int .u16 p.id.seq.toNat,.slice pd nd cd,.slice po no co] 44);have HBp:=Lh (bnew (w:=w1) (.cells #[.int .u8 p.id.author.toNat,.int .u16 p.id.seq.toNat,.slice pd nd cd,.slice po no co] 44));generalize w1.alloc (.cells #[.int .u8 p.id.author.toNat,.int .u16 p.id.seq.toNat,.slice pd nd cd,.slice po no co] 44)=w2 at *;have HB2:=Lh (bvo HB1.o HBp.o);obtain⟨p0,p1,p2,p3,sp⟩:=HP.o.c4;go_wp2_with fail;refine bodyPost_ret (results_tmp2 rfl _ _ _) rfl ?_;have HBq:=bnew (w:=w2) (.cells #[.int .u8 p.id.author.toNat,.int .u16 p.id.seq.toNat,.slice pd nd cd,.slice po no co] 44);unfold SideP;refine⟨_,rfl,⟨[⟨p,.slice pd nd cd,.slice po no co⟩],rfl,?_,?_⟩,bvo HB2.o HBq⟩
 · exact own_lit w2 44 [(⟨p,.slice pd nd cd,.slice po no co⟩:LaidP)] w.heap.size rfl (by show 1≤maxLen;decide) HB2.o.size
 intro x hx;rw [List.mem_singleton.1 hx];exact⟨(HD.o.over HBp.o).over HBq,(HO.o.over HBp.o).over HBq⟩
end
section
variable{t u:List FileM}{a:UInt8}
theorem ties_len_id(l:List VertM)(R:List (Nat × Nat))(id id':PidM)(c c':Nat)(want:List ByteArray):(pgTies l R id c want).length=(pgTies l R id' c' want).length:=by unfold pgTies;rw [List.length_flatMap,List.length_flatMap];congr 1;refine List.map_congr_left fun j _ => ?_;unfold edgesE;split <;> rfl
theorem linesOps_len_id(l:List VertM)(R:List (Nat × Nat))(f f':VidM)(id id':PidM)(c c':Nat)(want:List ByteArray):(linesOps l R f id c want).length=(linesOps l R f' id' c' want).length:=by rw [linesOps_eq,linesOps_eq];unfold pgOps;rw [List.length_append,List.length_append,List.length_append,List.length_append,List.length_map,List.length_map,ties_len_id l R id id' c c']
theorem edTo_len_id(L:List PatchM)(t:List FileM)(id id':PidM):∀ k,(edTo L t id k).length=(edTo L t id' k).length
 | 0=>rfl
 | k+1=>by
  have ih:=edTo_len_id L t id id' k;rcases Nat.lt_or_ge k (allM L).length with hk|hk
  ·
   have hn:=List.getElem?_eq_getElem hk;rw [edTo_succ hn,edTo_succ hn];unfold plEdStep;split
   · exact ih
   rw [List.length_append,List.length_append,ih,linesOps_len_id _ _ _ _ id id' _ (edTo L t id' k).length]
  have h1:∀ i,edTo L t i (k+1)=edTo L t i k:=fun i=>by unfold edTo;rw [List.take_of_length_le (by omega),List.take_of_length_le hk]
  rw [h1,h1];exact ih
theorem newTo_len_id(L:List PatchM)(t:List FileM)(id id':PidM):∀ k,(newTo L t id k).length=(newTo L t id' k).length
 | 0=>edTo_len_id L t id id' _
 | k+1=>by
  have ih:=newTo_len_id L t id id' k;rcases Nat.lt_or_ge k t.length with hk|hk
  ·
   have hn:=List.getElem?_eq_getElem hk;rw [newTo_succ hn,newTo_succ hn];unfold newStep;split
   · exact ih
   rw [List.length_append,List.length_append,ih];unfold fileOps;rw [List.length_cons,List.length_cons,List.length_cons,List.length_cons,linesOps_len_id _ _ _ ⟨id',UInt8.ofNat (newTo L t id' k).length⟩ id id' _ ((newTo L t id' k).length+2)]
  have h1:∀ i,newTo L t i (k+1)=newTo L t i k:=fun i=>by unfold newTo;rw [List.take_of_length_le (by omega),List.take_of_length_le hk]
  rw [h1,h1];exact ih
theorem planM_len_id(L:List PatchM)(t:List FileM)(id id':PidM):(planM L t id).length=(planM L t id').length:=newTo_len_id L t id id' _
noncomputable def mgP(L:List PatchM)(t:List FileM)(a:UInt8):List PatchM:=(recI L t (nextM L a)).1.toList
noncomputable def mgC(L:List PatchM)(t:List FileM)(a:UInt8):Nat:=(recI L t (nextM L a)).2
structure SideIs (L:List PatchM) (t:List FileM) (a:UInt8):Prop where
 code:mgC L t a=0∨mgC L t a=3∨mgC L t a=6
 long:mgC L t a=3↔200<(planM L t (nextM L a)).length
 one:mgP L t a=[]∨∃ p,mgP L t a=[p]∧checkM L p=0∧p.id.author=a∧p.ops.length≤200∧∀ o∈p.ops,∀ m,(∀ f∈t,f.name.size≤m∧∀ s∈f.lines,s.size≤m)→o.text.size≤m
 tree:mgC L t a≠3→IsTree (L++mgP L t a) t∧cleanM (L++mgP L t a)=true∧∀ id,(planM (L++mgP L t a) t id).length=0
 wf:WfG (L++mgP L t a)
 few:(L++mgP L t a).length≤L.length+1
theorem side_is{L:List PatchM}(hw:WfG L)(ht:treeGood t=true)(ha:authorOk a=true)(hv:vecM L a<60000):SideIs L t a:=by
 rcases pg_rec hw ht ha hv with⟨h0,hr,hT,hC⟩|⟨h1,hr⟩|⟨hl,hr,hok,hchk,hw2,hT,hC,hset⟩
 ·
  have e1:mgP L t a=[]:=by unfold mgP;rw [hr];rfl
  have e2:mgC L t a=6:=by unfold mgC;rw [hr]
  refine⟨.inr (.inr e2),by rw [e2];omega,.inl e1,fun _ => ?_,by rw [e1,List.append_nil];exact hw,by rw [e1,List.append_nil];omega⟩;rw [e1,List.append_nil];exact⟨hT,hC,fun id=>by rw [planM_len_id L t id (nextM L a)];exact h0⟩
 ·
  have e1:mgP L t a=[]:=by unfold mgP;rw [hr];rfl
  have e2:mgC L t a=3:=by unfold mgC;rw [hr]
  exact⟨.inr (.inl e2),by rw [e2];omega,.inl e1,fun q=>absurd e2 q,by rw [e1,List.append_nil];exact hw,by rw [e1,List.append_nil];omega⟩
 have e1:mgP L t a=[pgPat (nextM L a) (planM L t (nextM L a))]:=by unfold mgP;rw [hr];rfl
 have e2:mgC L t a=0:=by unfold mgC;rw [hr]
 have eG:L++mgP L t a=pgG L t a:=by rw [e1];rfl
 refine⟨.inl e2,by rw [e2];omega,.inr ⟨_,e1,hchk,(next_good ha hv).2.1,hl,fun o ho m hm=>planM_small L t (nextM L a) hm o ho⟩,fun _ => ?_,by rw [eG];exact hw2,by rw [e1,List.length_append,List.length_singleton];exact Nat.le_refl _⟩;rw [eG];exact⟨hT,hC,fun id=>by rw [hset id];rfl⟩
theorem sides_check{L:List PatchM}(hw:WfG L)(ho:OneId L){b:UInt8}(hab:a≠b)(h1:SideIs L t a)(h2:SideIs L u b) :
  (∀(k:Nat) (p:PatchM),(mgP L t a++mgP L u b)[k]? = some p→checkM (L++(mgP L t a++mgP L u b).take k) p=0∧WfG (L++(mgP L t a++mgP L u b).take k)∧p.ops.length≤200)∧WfG (L++(mgP L t a++mgP L u b))∧(mgP L t a++mgP L u b).length≤2:=by
 have hempty:∀(k:Nat) (p:PatchM),([]:List PatchM)[k]? = some p→False:=fun k p h=>by simp at h
 rcases h1.one with e1|⟨p,e1,c1,a1,l1,_⟩
 ·
  rw [e1,List.nil_append];have hw2:=h2.wf;rcases h2.one with e2|⟨q,e2,c2,a2,l2,_⟩
  · rw [e2,List.append_nil];exact⟨fun k p h=>(hempty k p h).elim,hw,by simp⟩
  rw [e2] at hw2 ⊢;refine⟨fun k p h => ?_,hw2,by simp⟩;cases k with
  | zero =>have e:q=p:=Option.some.inj h;subst e;rw [List.take_zero,List.append_nil];exact⟨c2,hw,l2⟩
  | succ k=>exact(hempty k p h).elim
 have hw1:=h1.wf;rw [e1] at hw1 ⊢;rcases h2.one with e2|⟨q,e2,c2,a2,l2,_⟩
 ·
  rw [e2,List.append_nil];refine⟨fun k q h => ?_,hw1,by simp⟩;cases k with
  | zero =>have e:p=q:=Option.some.inj h;subst e;rw [List.take_zero,List.append_nil];exact⟨c1,hw,l1⟩
  | succ k=>exact(hempty k q h).elim
 rw [e2];have hne:p.id≠q.id:=fun e=>hab (by rw [← a1,← a2,e]);have hn:hasM (L++[p]) q.id=false:=by rw [hasM_snoc,(check_ok c2).new];simp [hne]
 have hone:OneId (L++[p]):=one_snoc ho (check_ok c1).new;have hc3:checkM (L++[p]) q=0:=check_up hw hw1 hone (fun x hx=>List.mem_append_left _ hx) c2 hn;have hw3:WfG (L++[p]++[q]):=wf_snoc hw1 (check_ok hc3);have e3:L++([p]++[q])=L++[p]++[q]:=(List.append_assoc _ _ _).symm;refine⟨fun k x h => ?_,by rw [e3];exact hw3,by simp⟩
 match k with
 | 0 =>have e:p=x:=Option.some.inj h;subst e;rw [List.take_zero,List.append_nil];exact⟨c1,hw,l1⟩
 | 1 =>have e:q=x:=Option.some.inj h;subst e;exact⟨hc3,hw1,l2⟩
 | k+2=>exact(hempty k x h).elim
noncomputable def mg1(t:List FileM):List PatchM:=mgP [] t 1
theorem mg1_is(ht:treeGood t=true):SideIs [] t 1:=side_is wf_nil ht rfl (by decide)
theorem mg1_wf(ht:treeGood t=true):WfG (mg1 t):=by have:=(mg1_is ht).wf;rwa [List.nil_append] at this
theorem mg1_one(ht:treeGood t=true):OneId (mg1 t):=by
 rcases (mg1_is ht).one with e|⟨p,e,c,_⟩
 · unfold mg1;rw [e];exact one_nil
 unfold mg1;rw [e];exact one_snoc one_nil (check_ok c).new
theorem mg1_len(ht:treeGood t=true):(mg1 t).length≤1:=by have:=(mg1_is ht).few;rw [List.nil_append] at this;unfold mg1;simpa using this
theorem mg_side(ht:treeGood t=true)(hu:treeGood u=true)(ha:authorOk a=true):SideIs (mg1 t) u a:=by
 refine side_is (mg1_wf ht) hu ha ?_;have h1:vecM (mg1 t) a≤(mg1 t).length:=by unfold vecM;exact List.length_filter_le _ _
 have:=mg1_len ht;omega
theorem mg_same(ht:treeGood t=true)(h3:mgC [] t 1≠3)(ha:authorOk a=true):mgP (mg1 t) t a=[]∧mgC (mg1 t) t a=6:=by
 have h:=((mg1_is ht).tree h3).2.2;have hs:=mg_side ht ht ha;rw [List.nil_append] at h;have h0:(planM (mg1 t) t (nextM (mg1 t) a)).length=0:=h _;have hvl:vecM (mg1 t) a<60000:=by
  have h1:vecM (mg1 t) a≤(mg1 t).length:=by unfold vecM;exact List.length_filter_le _ _
  have:=mg1_len ht;omega
 have hr:=rec_done (next_good ha hvl).2.2 ht (List.length_eq_zero_iff.1 h0);unfold mgP mgC;rw [hr];exact⟨rfl,rfl⟩
theorem mg_long(ht:treeGood t=true)(hu:treeGood u=true){b:UInt8}(ha:authorOk a=true)(hb:authorOk b=true):mgC (mg1 t) u a=3↔mgC (mg1 t) u b=3:=by rw [(mg_side ht hu ha).long,(mg_side ht hu hb).long,planM_len_id _ _ _ (nextM (mg1 t) b)]
end
variable{t:List FileM}{L:List PatchM}{B b be bv m sz:Nat}{α:Type}{e:TypeId}{v:Value}{W w:World}
theorem results_tmp3{fn:Func}{p q r:Tmp}(h:fn.results=#[.tmp p,.tmp q,.tmp r])(tmps:Array Value)(P:Program)(w:World) :
  (results fn tmps).run P w=.ok (.tuple #[tmps.getD p undef,tmps.getD q undef,tmps.getD r undef]) w:=by simp [results,h]
theorem onesPat{ys:List LaidP}(h:∀ y∈ys,(∃ p n c,y.dv=.slice p n c)∧∃ p n c,y.ov=.slice p n c):∀ u∈ys.flatMap encPat,u.oneCell'=true:=by intro u hu;obtain⟨y,hy,hu⟩:=List.mem_flatMap.1 hu;obtain⟨⟨p,n,c,e1⟩,⟨p2,n2,c2,e2⟩⟩:=h y hy;unfold encPat at hu;rw [e1,e2] at hu;simp only [List.mem_cons,List.not_mem_nil,or_false] at hu;rcases hu with rfl|rfl|rfl|rfl <;> rfl
theorem own_slice4{n:Nat}{xs:List Value}(h:w.ownsRow B e sz v n xs):∃ p m c,v=.slice p m c:=by
 rcases h.2 with⟨rfl,_⟩|⟨g,cap,cur,rfl,_⟩
 · exact⟨_,_,_,rfl⟩
 exact⟨_,_,_,rfl⟩
theorem gown_cat{enc:α→List Value}{N:Nat}{xs ys:List α}(h:w.ownsRow N e sz v (xs.length+ys.length) (xs.flatMap enc++ys.flatMap enc)):GOwn enc sz e w N v (xs++ys):=by unfold GOwn;rw [List.length_append,List.flatMap_append];exact h
theorem gown_aside{enc:α→List Value}{xs:List α}(h:GOwn enc sz e w B v xs)(h1:b<B)(h2:bv<B)(h3:be<B):Aside b bv be v:=fun k hk=>by have:=gown_low h hk;exact⟨by omega,by omega,by omega⟩
structure PatsB (w:World) (b bv be:Nat) (v:Value) (xs:List LaidP):Prop where
 row:GRow encPat 4 w v xs
 aside:Aside b bv be v
 each:∀ x∈xs,(GRow encPid 2 w x.dv x.p.deps∧Aside b bv be x.dv)∧(GRow encOp 8 w x.ov x.p.ops∧Aside b bv be x.ov)
theorem PatsB.bex{xs:List LaidP}(h:PatsB w b bv be v xs)(hx:Bex b bv be w W):PatsB W b bv be v xs:=
 ⟨Row.bex h.row h.aside hx,h.aside,fun x hm=>⟨⟨Row.bex (h.each x hm).1.1 (h.each x hm).1.2 hx,(h.each x hm).1.2⟩,⟨Row.bex (h.each x hm).2.1 (h.each x hm).2.2 hx,(h.each x hm).2.2⟩⟩⟩
def GrB(w:World)(B b bv be m:Nat)(L:List PatchM):Prop:=B≤b∧B≤bv∧B≤be∧∃ n,n≤m∧GrW w b bv be n (vecM L) (vertM L) (edgeM L)
theorem GrB.over(h:GrB w B b bv be m L)(hb:Be w W):GrB W B b bv be m L:=by obtain⟨h1,h2,h3,n,hn,hG⟩:=h;exact⟨h1,h2,h3,n,hn,hG.over hb⟩
theorem GrB.is(h:GrB w B b bv be m L):GrIs w b L:=by obtain⟨_,_,_,n,_,hG⟩:=h;exact⟨bv,be,n,hG⟩
def MgApply(W:World)(B b bv be m:Nat)(L:List PatchM)(p:PatchM)(e:Ending)(w':World):Prop:=e=.returned (.int .i64 0)∧GrB w' B b bv be (m+200) (L++[p])∧Bex b bv be W w'
theorem mg_apply(hg:GrB W B b bv be m L)(hw:WfG L)(p:PatchM)(dv ov:Value)(hd:GRow encPid 2 W dv p.deps)(ho:GRow encOp 8 W ov p.ops)(ha:Aside b bv be ov)(hl:p.ops.length≤200)(hm:m≤100000)(hz:∀ o∈p.ops,o.text.size≤maxLen)(hc:checkM L p=0) :
  Calls Tryz.prog 25 #[.pointer (some ⟨b,0,none⟩),patV p.id dv ov] W (MgApply W B b bv be m L p):=by obtain⟨h1,h2,h3,n,hn,hG⟩:=hg;refine(gapply2_L b L hw p dv ov W bv be n hG hd ho ha (by omega) hz (by omega) hc).mono ?_;rintro e w' ⟨rfl,hG',hx⟩;exact⟨rfl,⟨h1,h2,h3,_,by omega,hG'⟩,hx⟩
def MgRel(w0:World)(B b bv be m:Nat)(L P:List PatchM)(v:Value)(wr:World):Prop:=∃ k:Nat,k≤P.length∧v=.int .i64 k∧Hid (GrB wr B b bv be (m+200*k) (L++P.take k))∧Hid (Bex b bv be w0 wr)
theorem ids_nil:(idsM []).length=0:=rfl
theorem edges_nil:(edgesM []).length=0:=rfl
theorem lines_nil(f:VidM):(linesM [] f).length=0:=rfl
theorem mgC_eq(L:List PatchM)(t:List FileM)(a:UInt8):mgC L t a=(recI L t (nextM L a)).2:=rfl
theorem mgP_eq(L:List PatchM)(t:List FileM)(a:UInt8):mgP L t a=(recI L t (nextM L a)).1.toList:=rfl
theorem mg1_eq(t:List FileM):mg1 t=(recI [] t (nextM [] 1)).1.toList:=rfl
theorem mg1_check(ht:treeGood t=true)(k:Nat)(p:PatchM)(h:(mg1 t)[k]? = some p):checkM ([]++(mg1 t).take k) p=0∧WfG ([]++(mg1 t).take k)∧p.ops.length≤200:=by
 have hl:=mg1_len ht;have hk:=(List.getElem?_eq_some_iff.1 h).1;have e0:k=0:=by omega
 subst e0;rw [List.take_zero,List.append_nil];rcases (mg1_is ht).one with e|⟨q,e,c,_,l,_⟩
 · unfold mg1 at h;rw [e] at h;simp at h
 unfold mg1 at h;rw [e] at h;rw [← (Option.some.inj h:q=p)];exact⟨c,wf_nil,l⟩
theorem mg_small{a:UInt8}(h:SideIs L t a)(hz:SzT t):∀ p∈mgP L t a,∀ o∈p.ops,o.text.size≤maxLen:=by
 intro p hp o ho;rcases h.one with e|⟨q,e,_,_,_,s⟩
 · rw [e] at hp;exact absurd hp List.not_mem_nil
 rw [e] at hp;rw [List.mem_singleton.1 hp] at ho;exact s o ho maxLen fun f hf=>⟨(hz f hf).1,(hz f hf).2.2⟩
theorem mg1_small(ht:treeGood t=true)(hz:SzT t):∀ p∈mg1 t,∀ o∈p.ops,o.text.size≤maxLen:=mg_small (mg1_is ht) hz
theorem mg_ids(n:Nat)(hl:L.length≤n)(hw:WfG L):(idsM L).length≤200*n:=by refine Nat.le_trans (setS_few _) (Nat.le_trans (idsOf_few L 200 (wf_len hw)) (Nat.mul_le_mul_left _ hl))
theorem mg_edges(n:Nat)(hl:L.length≤n)(hw:WfG L):(edgesM L).length≤200*n:=by refine Nat.le_trans (setS_few _) (Nat.le_trans (edgesOf_few L 200 (wf_len hw)) (Nat.mul_le_mul_left _ hl))
theorem mg_lines(L:List PatchM)(f:VidM):(linesM L f).length≤(idsM L).length:=by unfold linesM ofM vertsM;refine Nat.le_trans (List.length_filter_le _ _) ?_;rw [List.length_map];exact Nat.le_refl _
theorem bex_low{w0 w1:World}(h:Be w0 w)(hx:Bex b bv be w w1)(h1:w0.heap.size≤b)(h2:w0.heap.size≤bv)(h3:w0.heap.size≤be):Be w0 w1:=
 h.trans ⟨hx.os,hx.tape,hx.output,hx.size,fun k hk=>hx.block k (Nat.lt_of_lt_of_le hk h.size) (by omega) (by omega) (by omega)⟩
theorem PatsW.over{l:List PatchM}(h:PatsW w B v l)(hb:Be w W):PatsW W B v l:=by obtain⟨xs,h1,h2,h3⟩:=h;exact⟨xs,h1,h2.over hb,fun x hx=>⟨(h3 x hx).1.over hb,(h3 x hx).2.over hb⟩⟩
theorem own_cells{enc:α→List Value}{xs:List α}(h:GOwn enc sz e w B v xs):∃ p c,v=.slice p xs.length c:=by obtain⟨p,c,e⟩:=own_sl h;exact⟨p,c,e⟩
noncomputable def mgL2(ta tb tc:List FileM):List PatchM:=mg1 ta++(mgP (mg1 ta) tb 2++mgP (mg1 ta) tc 3)
def MgLong(ta tb tc:List FileM):Prop:=mgC [] ta 1=3∨mgC (mg1 ta) tb 2=3∨mgC (mg1 ta) tc 3=3
def ThreeRes(w:World)(ta tb tc:List FileM)(e:Ending)(w':World):Prop:=
 (MgLong ta tb tc∧e=.returned (.tuple #[.slice none 0 0,.bool false,.int .i64 3])∧Be w w') ∨
 (¬ MgLong ta tb tc∧∃ v t,e=.returned (.tuple #[v,.bool (cleanM (mgL2 ta tb tc)),.int .i64 0])∧IsTree (mgL2 ta tb tc) t∧FRow w' v t∧Be w w')
attribute [local irreducible] planM planR recI depsM idsM linesM edgesM vecM nextM mgP mgC mg1 cleanM flawsM allM
theorem three_any(va vb vc:Value)(ta tb tc:List FileM)(w:World)(ha:FRow w va ta)(hb:FRow w vb tb)(hc:FRow w vc tc)(sa:SzT ta)(sb:SzT tb)(sc:SzT tc)(ga:treeGood ta=true)(gb:treeGood tb=true)(gc:treeGood tc=true)(htab:Tab w) :
  Calls Tryz.prog 29 #[va,vb,vc] w (ThreeRes w ta tb tc):=by
 obtain⟨a1,c1,e1,_,_,_,_⟩:=ha.form;obtain⟨a2,c2,e2,_,_,_,_⟩:=hb.form;obtain⟨a3,c3,e3,_,_,_,_⟩:=hc.form;obtain⟨n1,hn1⟩:∃ n,ta.length=n:=⟨_,rfl⟩;obtain⟨n2,hn2⟩:∃ n,tb.length=n:=⟨_,rfl⟩;obtain⟨n3,hn3⟩:∃ n,tc.length=n:=⟨_,rfl⟩;rw [hn1] at e1;rw [hn2] at e2;rw [hn3] at e3;subst e1 e2 e3;have HA:=Lh ha;have HBt:=Lh hb;have HC:=Lh hc;have SA:=Lh sa;have SB:=Lh sb;have SC:=Lh sc;have GA:=Lh ga;have GB:=Lh gb;have GC:=Lh gc;have HT:=Lh htab;clear ha hb hc sa sb sc ga gb gc htab hn1 hn2 hn3;go_enter Tryz.func29,Tryz.ntmps29;go_upto_region 2 with fail;have HX:=Lh (anw w #[.slice a1 n1 c1,.slice a2 n2 c2,.slice a3 n3 c3] 27);have HB1:=Lh (bnew (w:=w) (.cells #[.slice a1 n1 c1,.slice a2 n2 c2,.slice a3 n3 c3] 27));obtain⟨g,hg⟩:∃ g,w.heap.size=g:=⟨_,rfl⟩;generalize w.alloc (.cells #[.slice a1 n1 c1,.slice a2 n2 c2,.slice a3 n3 c3] 27)=w1 at *;rw [hg] at HX ⊢;clear hg;go_wp2;go_loopw [28] (fun v28 wr=>∃ k:Nat,k≤3∧v28=.int .i64 k∧Hid (Be w1 wr)) (fun v28 _=>3 - (intOf v28).toNat)
 case atStart=>exact⟨0,by omega,rfl,Below.refl _ _⟩
 obtain⟨k,hk,rfl,HBl⟩:=hrel;rename World=>wr;have HXr:=Lh (HX.o.over HBl.o)
 by_cases hlt:k<3
 ·
  obtain⟨vt,tt,hcell,HF,HS,HGd⟩:∃(vt:Value) (tt:List FileM),wr.cell? ⟨g,k,none⟩=some vt∧Hid (FRow wr vt tt)∧Hid (SzT tt)∧Hid (treeGood tt=true):=by
   have hbl:=bvo HB1.o HBl.o;rcases (by omega:k=0∨k=1∨k=2) with rfl|rfl|rfl
   · exact⟨_,ta,HXr.o.k 0 rfl,HA.o.over hbl,SA,GA⟩
   · exact⟨_,tb,HXr.o.k 1 rfl,HBt.o.over hbl,SB,GB⟩
   exact⟨_,tc,HXr.o.k 2 rfl,HC.o.over hbl,SC,GC⟩
  have sx:=HXr.o.lt;have HGo:=Lh (good_any vt tt wr HF.o HS.o);rw [HGd.o] at HGo;go_wp2_with fail;refine HGo.o.mono ?_;rintro e w2 ⟨rfl,hb2⟩;have HB2:=Lh (bvo HBl.o hb2);clear hb2;go_wp2;go_roundw
  case rel=>exact⟨k+1,hlt,by go_num,HB2⟩
  simp [intOf];omega
 obtain rfl:k=3:=by omega
 have HBr:=Lh (bvo HB1.o HBl.o);clear HXr HBl HX hlt hk;go_wp2_with fail;refine(gnew_any wr).mono ?_;rintro e w3 ⟨b,bv,be,rfl,k1,k2,k3,hG,hb3⟩;obtain⟨B0,hB0⟩:∃ B,wr.heap.size=B:=⟨_,rfl⟩;have hsr:=HBr.o.size;have hs3:=hb3.size;rw [hB0] at k1 k2 k3 hsr hs3;have HG3:Hid (GrB w3 B0 b bv be 0 []):=Lh ⟨k1,k2,k3,0,Nat.le_refl _,hG⟩;have lb1:=hG.arr.lt;have lb2:=hG.verts.lt;have lb3:=hG.edges.lt;have HB3:=Lh (bvo HBr.o hb3);clear hG hb3;have HS1:=Lh (side_any b [] 1 ta (.slice a1 n1 c1) w3 1 HG3.o.is wf_nil (by rw [ids_nil];decide) (by decide) (by decide) (by decide) (by rw [edges_nil];decide) (fun f=>by rw [lines_nil];decide) (HA.o.over HB3.o) SA.out (HT.o.over HB3.o));rw [nextF_eq] at HS1;go_wp2_with fail;refine HS1.o.mono ?_;rintro e w4 ⟨v4,rfl,hp4,hb4⟩;have hC1:(recI [] ta (nextM [] 1)).2=mgC [] ta 1:=(mgC_eq _ _ _).symm;have hP1:(recI [] ta (nextM [] 1)).1.toList=mg1 ta:=(mg1_eq _).symm;rw [hP1] at hp4;rw [hC1];have HS1i:=Lh (mg1_is GA.out);obtain⟨xs,hxs,hxo,hxe⟩:=hp4;have HPB:Hid (PatsB w4 b bv be v4 xs):=Lh ⟨hxo.row,gown_aside hxo (by omega) (by omega) (by omega),fun x hx=>⟨⟨(hxe x hx).1.row,gown_aside (hxe x hx).1 (by omega) (by omega) (by omega)⟩,⟨(hxe x hx).2.row,gown_aside (hxe x hx).2 (by omega) (by omega) (by omega)⟩⟩⟩;have HXs:=Lh hxs;have HG4:=Lh (HG3.o.over hb4);have HB4:=Lh (bvo HB3.o hb4);have hs34:=hb4.size;obtain⟨p4,q4,e4⟩:=own_sl hxo;obtain⟨n4,hn4⟩:∃ n,xs.length=n:=⟨_,rfl⟩;rw [hn4] at e4;subst e4;have HN4:Hid ((mg1 ta).length=n4):=Lh (by rw [← hxs,List.length_map,hn4]);have hn4l:n4≤1:=by have:=mg1_len GA.out;have:=HN4.o;omega
 clear hxs hxo hxe hb4 hn4 hC1 hP1 HS1 HG3;obtain⟨cc1,hcc1⟩:∃ c,mgC [] ta 1=c:=⟨_,rfl⟩;rw [hcc1];go_wp2_with fail;have HCh1:Hid (∀(k:Nat) (p:PatchM),(mg1 ta)[k]? = some p→checkM ([]++(mg1 ta).take k) p=0∧WfG ([]++(mg1 ta).take k)∧p.ops.length≤200):=Lh (mg1_check GA.out);have HZ1:Hid (∀ p∈mg1 ta,∀ o∈p.ops,o.text.size≤maxLen):=Lh (mg1_small GA.out SA.out);have HLx:Hid (xs.length=n4):=Lh (by rw [← HN4.o,← HXs.o,List.length_map]);go_loopw [45] (fun vS wr=>MgRel w4 B0 b bv be 0 [] (mg1 ta) vS wr) (fun vS _=>n4 - (intOf vS).toNat)
 case atStart=>exact⟨0,Nat.zero_le _,rfl,Lh (by rw [List.take_zero,List.append_nil];exact HG4.o),Lh (bex_refl _ _ _ _)⟩
 obtain⟨k,hk,rfl,HGr,HBx⟩:=hrel;rename World=>w5;rw [HN4.o] at hk
 by_cases hlt:k<n4
 ·
  have HPr:=Lh (HPB.o.bex HBx.o);obtain⟨x,hx⟩:=gol (xs:=xs) (i:=k) (by have:=HLx.o;omega);have hm:=List.mem_of_getElem? hx;obtain⟨⟨hd,had⟩,⟨ho,hao⟩⟩:=HPr.o.each x hm;have HPx:Hid ((mg1 ta)[k]? = some x.p):=Lh (by rw [← HXs.o,List.getElem?_map,hx];rfl);have HCk:=Lh (HCh1.o k x.p HPx.o);obtain⟨_,_,e9,_,_,hc9⟩:=HPr.o.row.at encPat_len;obtain⟨e91,e92,e93⟩:=Value.slice.inj e9;subst e91 e93;clear e9 e92;obtain⟨bx,ox,rfl,sx,hcx⟩:=hc9.resolve_left (by have:=HLx.o;omega);obtain⟨pd,cd,ed,_,_,_⟩:=hd.at encPid_len;obtain⟨po,co,eo,_,_,_⟩:=ho.at encOp_len;have f0:w5.cell? ⟨bx,ox+k*4,none⟩=some (.int .u8 x.p.id.author.toNat):=(hcx k x hx w5 (Below.refl _ _)).2 0 _ rfl;have f1:w5.cell? ⟨bx,ox+k*4+1,none⟩=some (.int .u16 x.p.id.seq.toNat):=(hcx k x hx w5 (Below.refl _ _)).2 1 _ rfl;have f2:w5.cell? ⟨bx,ox+k*4+2,none⟩=some x.dv:=(hcx k x hx w5 (Below.refl _ _)).2 2 _ rfl;have f3:w5.cell? ⟨bx,ox+k*4+3,none⟩=some x.ov:=(hcx k x hx w5 (Below.refl _ _)).2 3 _ rfl;obtain⟨nd,hnd⟩:∃ n,x.p.deps.length=n:=⟨_,rfl⟩;obtain⟨no,hno⟩:∃ n,x.p.ops.length=n:=⟨_,rfl⟩;rw [hnd] at ed;rw [hno] at eo;rw [ed] at hd f2;rw [eo] at ho hao f3;have HD:=Lh hd;have HO:=Lh ho;have HAo:=Lh hao;have HZx:Hid (∀ o∈x.p.ops,o.text.size≤maxLen):=Lh (HZ1.o x.p (by have:=List.mem_of_getElem? HPx.o;exact this));clear hcx hc9 hx hm hd had ho hao ed eo hnd hno HPr;go_upto_region 12 with fail;have HPb:=Lh (anw w5 #[.int .u8 x.p.id.author.toNat,.int .u16 x.p.id.seq.toNat,.slice pd nd cd,.slice po no co] 44);have HBn:=Lh (bnew (w:=w5) (.cells #[.int .u8 x.p.id.author.toNat,.int .u16 x.p.id.seq.toNat,.slice pd nd cd,.slice po no co] 44));generalize w5.alloc (.cells #[.int .u8 x.p.id.author.toNat,.int .u16 x.p.id.seq.toNat,.slice pd nd cd,.slice po no co] 44)=wn at *;clear f0 f1 f2 f3 sx;have HAp:=Lh (mg_apply (HGr.o.over HBn.o) HCk.o.2.1 x.p (.slice pd nd cd) (.slice po no co) (HD.o.over HBn.o) (HO.o.over HBn.o) HAo.o HCk.o.2.2 (by omega) HZx.o HCk.o.1);unfold patV at HAp;obtain⟨p0,p1,p2,p3,sp⟩:=HPb.o.c4;go_wp2_with fail;refine HAp.o.mono ?_;rintro e wm ⟨rfl,hgm,hxm⟩;have HGm:Hid (GrB wm B0 b bv be (0+200*(k+1)) ([]++(mg1 ta).take (k+1))):=Lh (by have e9:[]++(mg1 ta).take (k+1)=[]++(mg1 ta).take k++[x.p]:=(by rw [take_one HPx.o,List.append_assoc]);rw [e9,Nat.mul_add,Nat.mul_one,← Nat.add_assoc];exact hgm);have HXm:=Lh ((HBx.o.over HBn.o).trans hxm);clear hgm hxm p0 p1 p2 p3 sp;go_wp2;go_roundw
  case rel=>exact⟨k+1,by rw [HN4.o];exact hlt,by go_num,HGm,HXm⟩
  simp [intOf];omega
 obtain rfl:n4=k:=by omega
 have HGe:Hid (GrB w5 B0 b bv be (0+200*n4) ([]++(mg1 ta))):=Lh (by have h:=HGr.o;rw [List.take_of_length_le (by rw [HN4.o];exact Nat.le_refl _)] at h;exact h);clear hk hlt HGr;have HGe2:Hid (GrB w5 B0 b bv be 200 (mg1 ta)):=Lh (by obtain⟨q1,q2,q3,nn,hnn,hGG⟩:=HGe.o;rw [List.nil_append] at hGG;exact⟨q1,q2,q3,nn,by omega,hGG⟩);have HB5:Hid (Be w w5):=Lh (bex_low HB4.o HBx.o (by omega) (by omega) (by omega));have hs45:=HBx.o.size;clear HGe HBx HPB HLx HXs HG4
 by_cases hc3:cc1=3
 · have HLg:Hid (MgLong ta tb tc):=Lh (.inl (by rw [hcc1];exact hc3));have HSo:Hid (sideOk cc1=false):=Lh (by rw [hc3];rfl);rw [HSo.o];clear hc3 hcc1;go_wp2_with fail;refine bodyPost_ret (results_tmp3 rfl _ _ _) rfl ?_;exact .inl ⟨HLg.o,rfl,HB5.o⟩
 have HSo:Hid (sideOk cc1=true):=Lh (by rcases HS1i.o.code with q|q|q <;> rw [hcc1] at q <;> first|exact absurd q hc3|(rw [q];rfl));have HNc:Hid (mgC [] ta 1≠3):=Lh (by rw [hcc1];exact hc3);rw [HSo.o];clear hc3 hcc1;have HW1:=Lh (mg1_wf GA.out);have HI1:Hid ((idsM (mg1 ta)).length≤200):=Lh (mg_ids 1 (mg1_len GA.out) HW1.o);have HE1:Hid ((edgesM (mg1 ta)).length≤200):=Lh (mg_edges 1 (mg1_len GA.out) HW1.o);have HSd2:=Lh (mg_side GA.out GB.out (a:=2) (by rfl));have HSd3:=Lh (mg_side GA.out GC.out (a:=3) (by rfl));have HS2:=Lh (side_any b (mg1 ta) 2 tb (.slice a2 n2 c2) w5 200 HGe2.o.is HW1.o HI1.o (by decide) (by decide) (by decide) (by have:=HE1.o;omega) (fun f=>Nat.le_trans (mg_lines _ f) HI1.o) (HBt.o.over HB5.o) SB.out (HT.o.over HB5.o));rw [nextF_eq,← mgC_eq] at HS2;go_wp2_with fail;refine HS2.o.mono ?_;rintro e w6 ⟨v6,rfl,hp6,hb6⟩;rw [← mgP_eq] at hp6;have HB56:=Lh hb6;have HB6:=Lh (bvo HB5.o hb6);have HP6:=Lh hp6;have HG6:=Lh (HGe2.o.over hb6);clear hp6 hb6 HS2;have HS3:=Lh (side_any b (mg1 ta) 3 tc (.slice a3 n3 c3) w6 200 HG6.o.is HW1.o HI1.o (by decide) (by decide) (by decide) (by have:=HE1.o;omega) (fun f=>Nat.le_trans (mg_lines _ f) HI1.o) (HC.o.over HB6.o) SC.out (HT.o.over HB6.o));rw [nextF_eq,← mgC_eq] at HS3;go_wp2_with fail;refine HS3.o.mono ?_;rintro e w7 ⟨v7,rfl,hp7,hb7⟩;rw [← mgP_eq] at hp7;have HB57:=Lh (bvo HB56.o hb7);have HB7:=Lh (bvo HB6.o hb7);have HP7:=Lh hp7;have HP67:=Lh (HP6.o.over hb7);have HG7:=Lh (HG6.o.over hb7);have hs56:=HB56.o.size;have hs67:=hb7.size;clear hp7 hb7 HS3 HP6 HG6;obtain⟨xs,hxs,hxo,hxe⟩:=HP67.o;obtain⟨ys,hys,hyo,hye⟩:=HP7.o;obtain⟨p6,q6,e6⟩:=own_sl hxo;obtain⟨p7,q7,e7⟩:=own_sl hyo;obtain⟨n6,hn6⟩:∃ n,xs.length=n:=⟨_,rfl⟩;obtain⟨n7,hn7⟩:∃ n,ys.length=n:=⟨_,rfl⟩;rw [hn6] at e6;rw [hn7] at e7;subst e6 e7;have HCc2:=HSd2.o.code;have HCc3:=HSd3.o.code
 by_cases hl2:mgC (mg1 ta) tb 2=3
 · have HLg:Hid (MgLong ta tb tc):=Lh (.inr (.inl hl2));have HSo2:Hid (sideOk (mgC (mg1 ta) tb 2)=false):=Lh (by rw [hl2];rfl);rw [HSo2.o];clear hl2 HCc2 HCc3 hxs hxo hxe hys hyo hye hn6 hn7;go_wp2_with fail;refine bodyPost_ret (results_tmp3 rfl _ _ _) rfl ?_;exact .inl ⟨HLg.o,rfl,HB7.o⟩
 have HSo2:Hid (sideOk (mgC (mg1 ta) tb 2)=true):=Lh (by rcases HCc2 with q|q|q <;> first|exact absurd q hl2|(rw [q];rfl));rw [HSo2.o]
 by_cases hl3:mgC (mg1 ta) tc 3=3
 · have HLg:Hid (MgLong ta tb tc):=Lh (.inr (.inr hl3));have HSo3:Hid (sideOk (mgC (mg1 ta) tc 3)=false):=Lh (by rw [hl3];rfl);rw [HSo3.o];clear hl2 hl3 HCc2 HCc3 hxs hxo hxe hys hyo hye hn6 hn7;go_wp2_with fail;refine bodyPost_ret (results_tmp3 rfl _ _ _) rfl ?_;exact .inl ⟨HLg.o,rfl,HB7.o⟩
 have HSo3:Hid (sideOk (mgC (mg1 ta) tc 3)=true):=Lh (by rcases HCc3 with q|q|q <;> first|exact absurd q hl3|(rw [q];rfl));rw [HSo3.o];have HNl:Hid (¬ MgLong ta tb tc):=Lh (by rintro(q|q|q);exact HNc.o q;exact hl2 q;exact hl3 q);clear hl2 hl3 HCc2 HCc3;have HCh2:=Lh (sides_check HW1.o (mg1_one GA.out) (by decide) HSd2.o HSd3.o);have hn67:n6+n7≤2:=by have:=HCh2.o.2.2;rw [List.length_append,← hxs,← hys,List.length_map,List.length_map] at this;omega
 have HXo:=Lh hxo;have HYr:=Lh hyo.row;have HXY:Hid ((xs++ys).map (·.p)=mgP (mg1 ta) tb 2++mgP (mg1 ta) tc 3):=Lh (by rw [List.map_append,hxs,hys]);have hn6':=hn6;have hN:n6+n7≤1099511627776:=by omega
 have hbw:w5.heap.size≤w7.heap.size:=by omega
 obtain⟨row,hrow⟩:∃ row,row=(Value.slice p6 n6 q6).ownBlock:=⟨_,rfl⟩;have HRow:=Lh hrow;have HSl:Hid (∀ y∈ys,(∃ p n c,y.dv=.slice p n c)∧∃ p n c,y.ov=.slice p n c):=Lh fun y hy=>by obtain⟨p,c,e⟩:=own_sl (hye y hy).1;obtain⟨p2,c2,e2⟩:=own_sl (hye y hy).2;exact⟨⟨p,_,c,e⟩,⟨p2,_,c2,e2⟩⟩
 have HXe:=Lh hxe;have HYe:=Lh hye;have HYo:=Lh hyo;have HN6:=Lh hn6;have HN7:=Lh hn7;have HOX:Hid (w7.ownsRow w5.heap.size 44 4 (.slice p6 n6 q6) n6 (xs.flatMap encPat)):=Lh (by have h:w7.ownsRow w5.heap.size 44 4 (.slice p6 n6 q6) xs.length (xs.flatMap encPat):=hxo;rw [hn6] at h;exact h);have HRY:Hid (Row w7 (.slice p7 n7 q7) n7 4 (ys.flatMap encPat)):=Lh (by have h:Row w7 (.slice p7 n7 q7) ys.length 4 (ys.flatMap encPat):=hyo.row;rw [hn7] at h;exact h);clear hrow hxo hyo hxe hye hxs hys hn6 hn6' hn7;go_wp2_with (at_builtin;refine wpList_append_old slPat rfl _ _ rfl w5.heap.size _ _ _ HOX.o rfl _ _ _ HRY.o rfl (onesPat HSl.o) hN (by decide) hbw ?_;intro v8 w8 ho8 hg8;obtain⟨p8,n8,q8,rfl⟩:=own_slice4 ho8);rw [← HN6.o,← HN7.o] at ho8;have ho8:GOwn encPat 4 44 w8 w5.heap.size _ (xs++ys):=gown_cat ho8;obtain⟨_,_,e8⟩:=own_cells ho8;obtain⟨e8a,e8b,e8c⟩:=Value.slice.inj e8;have HB58:=Lh (HB57.o.grown hg8 HB57.o.size (fun j hj=>gown_low HXo.o hj));have HG8:=Lh (HGe2.o.over HB58.o);have HB8:=Lh (bvo HB5.o HB58.o);have hs58:=HB58.o.size;have HPB:Hid (PatsB w8 b bv be (.slice p8 n8 q8) (xs++ys)):=Lh ⟨ho8.row,gown_aside ho8 (by omega) (by omega) (by omega),fun x hx=>by
  have hrow:GOwn encPid 2 25 w8 w5.heap.size x.dv x.p.deps∧GOwn encOp 8 76 w8 w5.heap.size x.ov x.p.ops:=by
   rcases List.mem_append.1 hx with hx|hx
   · have h:=HXe.o x hx;exact⟨own_grown h.1 hg8 (own_apart h.1 HXo.o (by decide)),own_grown h.2 hg8 (own_apart h.2 HXo.o (by decide))⟩
   have h:=HYe.o x hx;exact⟨GOwn.base (own_grown h.1 hg8 (own_apart h.1 HXo.o (by decide))) (by omega),GOwn.base (own_grown h.2 hg8 (own_apart h.2 HXo.o (by decide))) (by omega)⟩
  exact⟨⟨hrow.1.row,gown_aside hrow.1 (by omega) (by omega) (by omega)⟩,⟨hrow.2.row,gown_aside hrow.2 (by omega) (by omega) (by omega)⟩⟩⟩
 have HXsL:Hid ((xs++ys).length=n8):=Lh e8b.symm;have HNP:Hid ((mgP (mg1 ta) tb 2++mgP (mg1 ta) tc 3).length=n8):=Lh (by rw [← HXY.o,List.length_map];exact e8b.symm);have HCh3:=Lh HCh2.o.1;have HZ3:Hid (∀ p∈mgP (mg1 ta) tb 2++mgP (mg1 ta) tc 3,∀ o∈p.ops,o.text.size≤maxLen):=Lh fun p hp=>by
  rcases List.mem_append.1 hp with hp|hp
  · exact mg_small HSd2.o SB.out p hp
  exact mg_small HSd3.o SC.out p hp
 have hn8:n8≤2:=by have:=HNP.o;have:=HCh2.o.2.2;omega
 have HW3:=Lh HCh2.o.2.1;clear e8 e8a e8b e8c ho8 hg8 HOX HRY HXo HYr HYo HXe HYe HSl hbw hN;go_loopw [77] (fun vS wr=>MgRel w8 B0 b bv be 200 (mg1 ta) (mgP (mg1 ta) tb 2++mgP (mg1 ta) tc 3) vS wr) (fun vS _=>n8 - (intOf vS).toNat)
 case atStart=>exact⟨0,Nat.zero_le _,rfl,Lh (by rw [List.take_zero,List.append_nil];exact HG8.o),Lh (bex_refl _ _ _ _)⟩
 obtain⟨k,hk,rfl,HGr,HBx⟩:=hrel;rename World=>w9;rw [HNP.o] at hk
 by_cases hlt:k<n8
 rotate_left
 ·
  obtain rfl:n8=k:=by omega
  have HGe:Hid (GrB w9 B0 b bv be (200+200*n8) ((mg1 ta)++(mgP (mg1 ta) tb 2++mgP (mg1 ta) tc 3))):=Lh (by have h:=HGr.o;rw [List.take_of_length_le (by rw [HNP.o];exact Nat.le_refl _)] at h;exact h);clear hk hlt HGr;have HGf:Hid (GrIs w9 b (mgL2 ta tb tc)):=Lh HGe.o.is;have HB9:Hid (Be w w9):=Lh (bex_low HB8.o HBx.o (by omega) (by omega) (by omega));have HWl:Hid (WfG (mgL2 ta tb tc)):=HW3;have HLl:Hid ((mgL2 ta tb tc).length≤3):=Lh (by unfold mgL2;rw [List.length_append];have h1:=mg1_len GA.out;have h2:=HNP.o;omega);have HIl:=Lh (mg_ids 3 HLl.o HWl.o);have HEl:=Lh (mg_edges 3 HLl.o HWl.o);clear HGe HBx HPB;go_wp2_with fail;refine(rtree_any b (mgL2 ta tb tc) w9 HGf.o HWl.o (by have:=HIl.o;omega) (by have:=HEl.o;omega) (HT.o.over HB9.o)).mono ?_;rintro e w10 ⟨v10,tt,rfl,hi10,hf10,hb10⟩;have HI10:=Lh hi10;have HF10:=Lh hf10.frow;have HB10:=Lh (bvo HB9.o hb10);have HGg:=Lh (HGf.o.over hb10);clear hi10 hf10 hb10;go_wp2_with fail;refine(rclean_any b (mgL2 ta tb tc) w10 HGg.o HWl.o (by have:=HIl.o;omega) (by have:=HEl.o;omega) (HT.o.over HB10.o)).mono ?_;rw [show decide ((flawsM (mgL2 ta tb tc)).length=0)=cleanM (mgL2 ta tb tc) from by rw [← flawsM_nil];simp [List.length_eq_zero_iff]];rintro e w11 ⟨rfl,hb11⟩;have HF11:=Lh (HF10.o.over hb11);have HB11:=Lh (bvo HB10.o hb11);clear hb11;go_wp2_with fail;refine bodyPost_ret (results_tmp3 rfl _ _ _) rfl ?_;exact .inr ⟨HNl.o,v10,tt,rfl,HI10.o,HF11.o,HB11.o⟩
 have HPr:=Lh (HPB.o.bex HBx.o);obtain⟨x,hx⟩:=gol (xs:=(xs++ys)) (i:=k) (by have:=HXsL.o;omega);have hm:=List.mem_of_getElem? hx;obtain⟨⟨hd,had⟩,⟨ho,hao⟩⟩:=HPr.o.each x hm;have HPx:Hid ((mgP (mg1 ta) tb 2++mgP (mg1 ta) tc 3)[k]? = some x.p):=Lh (by rw [← HXY.o,List.getElem?_map,hx];rfl);have HCk:=Lh (HCh3.o k x.p HPx.o);obtain⟨_,_,e9,_,_,hc9⟩:=HPr.o.row.at encPat_len;obtain⟨e91,e92,e93⟩:=Value.slice.inj e9;subst e91 e93;clear e9 e92;obtain⟨bx,ox,rfl,sx,hcx⟩:=hc9.resolve_left (by have:=HXsL.o;omega);obtain⟨pd,cd,ed,_,_,_⟩:=hd.at encPid_len;obtain⟨po,co,eo,_,_,_⟩:=ho.at encOp_len;have f0:w9.cell? ⟨bx,ox+k*4,none⟩=some (.int .u8 x.p.id.author.toNat):=(hcx k x hx w9 (Below.refl _ _)).2 0 _ rfl;have f1:w9.cell? ⟨bx,ox+k*4+1,none⟩=some (.int .u16 x.p.id.seq.toNat):=(hcx k x hx w9 (Below.refl _ _)).2 1 _ rfl;have f2:w9.cell? ⟨bx,ox+k*4+2,none⟩=some x.dv:=(hcx k x hx w9 (Below.refl _ _)).2 2 _ rfl;have f3:w9.cell? ⟨bx,ox+k*4+3,none⟩=some x.ov:=(hcx k x hx w9 (Below.refl _ _)).2 3 _ rfl;obtain⟨nd,hnd⟩:∃ n,x.p.deps.length=n:=⟨_,rfl⟩;obtain⟨no,hno⟩:∃ n,x.p.ops.length=n:=⟨_,rfl⟩;rw [hnd] at ed;rw [hno] at eo;rw [ed] at hd f2;rw [eo] at ho hao f3;have HD:=Lh hd;have HO:=Lh ho;have HAo:=Lh hao;have HZx:Hid (∀ o∈x.p.ops,o.text.size≤maxLen):=Lh (HZ3.o x.p (by have:=List.mem_of_getElem? HPx.o;exact this));clear hcx hc9 hx hm hd had ho hao ed eo hnd hno HPr;go_upto_region 23 with fail;have HPb:=Lh (anw w9 #[.int .u8 x.p.id.author.toNat,.int .u16 x.p.id.seq.toNat,.slice pd nd cd,.slice po no co] 44);have HBn:=Lh (bnew (w:=w9) (.cells #[.int .u8 x.p.id.author.toNat,.int .u16 x.p.id.seq.toNat,.slice pd nd cd,.slice po no co] 44));generalize w9.alloc (.cells #[.int .u8 x.p.id.author.toNat,.int .u16 x.p.id.seq.toNat,.slice pd nd cd,.slice po no co] 44)=wn at *;clear f0 f1 f2 f3 sx;have HAp:=Lh (mg_apply (HGr.o.over HBn.o) HCk.o.2.1 x.p (.slice pd nd cd) (.slice po no co) (HD.o.over HBn.o) (HO.o.over HBn.o) HAo.o HCk.o.2.2 (by omega) HZx.o HCk.o.1);unfold patV at HAp;obtain⟨p0,p1,p2,p3,sp⟩:=HPb.o.c4;go_wp2_with fail;refine HAp.o.mono ?_;rintro e wm ⟨rfl,hgm,hxm⟩;have HGm:Hid (GrB wm B0 b bv be (200+200*(k+1)) ((mg1 ta)++(mgP (mg1 ta) tb 2++mgP (mg1 ta) tc 3).take (k+1))):=Lh (by
  have e9:(mg1 ta)++(mgP (mg1 ta) tb 2++mgP (mg1 ta) tc 3).take (k+1)=(mg1 ta)++(mgP (mg1 ta) tb 2++mgP (mg1 ta) tc 3).take k++[x.p]:=by rw [take_one HPx.o,List.append_assoc]
  rw [e9,Nat.mul_add,Nat.mul_one,← Nat.add_assoc];exact hgm)
 have HXm:=Lh ((HBx.o.over HBn.o).trans hxm);clear hgm hxm p0 p1 p2 p3 sp;go_wp2;go_roundw
 case rel=>exact⟨k+1,by rw [HNP.o];exact hlt,by go_num,HGm,HXm⟩
 simp [intOf];omega
end Go.Proofs.YtjccmcgglfncdaaGreatDoor
namespace Go.Proofs.YtjccmcgglfncdaaGreatDoor
open Go Go.RowKit
section
variable {a b : List FileM}
theorem keep_long(ha:treeGood a=true)(hb:treeGood b=true):MgLong a a b↔MgLong a b a:=by
 unfold MgLong
 by_cases h1:mgC [] a 1=3
 · exact⟨fun _=>.inl h1,fun _=>.inl h1⟩
 have e2:=(mg_same ha h1 (a:=2) rfl).2;have e3:=(mg_same ha h1 (a:=3) rfl).2;have hl:=mg_long ha hb (a:=2) (b:=3) rfl rfl;rw [e2,e3];constructor
 ·
  rintro(q|q|q)
  · exact absurd q h1
  · exact absurd q (by decide)
  exact .inr (.inl (hl.2 q))
 rintro(q|q|q)
 · exact absurd q h1
 · exact .inr (.inr (hl.1 q))
 exact absurd q (by decide)
theorem keep_one(ha:treeGood a=true)(hb:treeGood b=true)(h:¬ MgLong a a b):IsTree (mgL2 a a b) b∧cleanM (mgL2 a a b)=true:=by have h1:mgC [] a 1≠3:=fun q=>h (.inl q);have h3:mgC (mg1 a) b 3≠3:=fun q=>h (.inr (.inr q));have e2:=(mg_same ha h1 (a:=2) rfl).1;have ht:=(mg_side ha hb (a:=3) rfl).tree h3;unfold mgL2;rw [e2,List.nil_append];exact⟨ht.1,ht.2.1⟩
theorem keep_two(ha:treeGood a=true)(hb:treeGood b=true)(h:¬ MgLong a b a):IsTree (mgL2 a b a) b∧cleanM (mgL2 a b a)=true:=by have h1:mgC [] a 1≠3:=fun q=>h (.inl q);have h2:mgC (mg1 a) b 2≠3:=fun q=>h (.inr (.inl q));have e3:=(mg_same ha h1 (a:=3) rfl).1;have ht:=(mg_side ha hb (a:=2) rfl).tree h2;unfold mgL2;rw [e3,List.append_nil];exact⟨ht.1,ht.2.1⟩
end
def wmX:ByteArray:=⟨#[120]⟩
def wmY:ByteArray:=⟨#[121]⟩
def wmZ:ByteArray:=⟨#[122]⟩
def wmN:ByteArray:=⟨#[97]⟩
def wmT(l:List ByteArray):List FileM:=[⟨wmN,[],l⟩]
def wmF:VidM:=⟨wk28Id,0⟩
def wmLx:VidM:=⟨wk28Id,2⟩
noncomputable def wmP:PatchM:=pgPat wk28Id wk28Ops
def wmO(b:UInt8)(t:ByteArray)(e:EdgeM):List OpM:=[⟨3,wmF,noVid,t⟩,⟨4,e.1,e.2,⟨#[]⟩⟩]
def wmQid:PidM:=⟨2,1⟩
def wmRid:PidM:=⟨3,1⟩
def wmQo:List OpM:=wmO 2 wmY (wmLx,⟨wmQid,0⟩)
def wmRo:List OpM:=wmO 3 wmZ (⟨wmRid,0⟩,wmLx)
def wmP0:PatchM:=⟨wk28Id,[],wk28Ops⟩
theorem wm_T:wmT [wmX]=wk28T:=rfl
theorem wm_good:treeGood (wmT [wmX])=true∧treeGood (wmT [wmX,wmY])=true∧treeGood (wmT [wmZ,wmX])=true:=by decide +kernel
theorem wm_next:nextM [] 1=wk28Id:=wk28_next
theorem wm_one:mgP [] (wmT [wmX]) 1=[wmP]∧mgC [] (wmT [wmX]) 1=0:=by
 have h:recI [] (wmT [wmX]) (nextM [] 1)=(some wmP,0):=by rw [wm_next,wm_T];unfold recI;rw [if_neg (by decide),wk28_R,if_pos rfl,if_pos wk28_good];rfl
 unfold mgP mgC;rw [h];exact⟨rfl,rfl⟩
theorem wm_mg1:mg1 (wmT [wmX])=[wmP]:=wm_one.1
theorem wm_deps:depsM wk28Id wk28Ops=[]:=by decide +kernel
theorem wm_P:wmP=wmP0:=by unfold wmP pgPat;rw [wm_deps];rfl
def wmV:List VertM:=[⟨wmLx,3,wmF,wmX,false⟩]
theorem wm_lines1:linesM [wmP0] wmF=wmV:=by decide +kernel
theorem wm_rel1:relM [wmP0] wmF=[]:=by decide +kernel
theorem wm_live1:liveF [wmP0]=[wmF]:=by decide +kernel
theorem wm_names1:namesM [wmP0] wmF=[⟨⟨wk28Id,1⟩,2,wmF,wmN,false⟩]:=by decide +kernel
theorem calm_one{L:List PatchM}{f:VidM}{x:VertM}(hl:liveF L=[f])(hn:namesM L f=[x]):Calm L:=by
 refine⟨fun v hv => ?_,fun v hv u hu _ => ?_⟩
 · rw [hl] at hv;rw [List.mem_singleton.1 hv];unfold ownN;rw [hn];exact⟨by simp,fun y hy=>by rw [List.mem_singleton.1 hy];rfl⟩
 rw [hl] at hv hu;rw [List.mem_singleton.1 hv,List.mem_singleton.1 hu]
theorem calm_one_all{L:List PatchM}(hw:WfG L){f:VidM}{x:VertM}(hl:liveF L=[f])(hn:namesM L f=[x]):allM L=[⟨f,x.text,[],[]⟩]:=by rw [calm_all hw (calm_one hl hn),hl];unfold ownN;rw [List.map_singleton,hn];rfl
theorem wm_wf1:WfG [wmP0]:=by have:=mg1_wf wm_good.1;rwa [wm_mg1,wm_P] at this
theorem wm_all1:allM [wmP0]=[⟨wmF,wmN,[],[]⟩]:=calm_one_all wm_wf1 wm_live1 wm_names1
theorem up_nil:UpL []:=fun s hs=>absurd hs List.not_mem_nil
theorem wm_alive:aliveX wmV []=[0]:=by unfold aliveX;rw [up_order up_nil];rfl
theorem wm_firm:firmX wmV []=[0]:=by unfold firmX;rw [wm_alive];have h:firmB [] wmV.length 0=true:=firmB_iff.2 ⟨by decide,fun j hj hne=>absurd hj (by show ¬ j<1;omega)⟩;rw [List.filter_cons_of_pos h];rfl
theorem wm_edit(id:PidM)(want:List ByteArray)(ps:List (Nat × Nat))(o1 o2:OpM)(k0 k1:Int)(v0 v1:VidM)(hp:pairs [wmX] want=ps)(hl:want.length=2)
  (hk:keptTo [0] ps want.length=[k0,k1]) (hn:k0<0∨k1<0) (ha:addsTo wmV wmF id 0 [k0,k1] want (killsE wmV [0] [k0,k1]) want.length=([o1],[v0,v1])) (h2:o2=⟨4,v0,v1,⟨#[]⟩⟩) :
  linesOps wmV [] wmF id 0 want=[o1,o2]:=by
 unfold linesOps editM;rw [wm_alive,wm_firm];rw [show pairs ([0].map (textAt wmV)) want=ps from hp];simp only;rw [hk,ha,hl];show [o1]++(edgesE [] [k0,k1] [v0,v1] 0++(edgesE [] [k0,k1] [v0,v1] 1++[]))=_;have e0:edgesE [] [k0,k1] [v0,v1] 0=[]:=by unfold edgesE;rw [if_neg (fun h=>absurd h.1 (by decide))]
 have e1:edgesE [] [k0,k1] [v0,v1] 1=[o2]:=by unfold edgesE;rw [if_pos ⟨by decide,by rcases hn with q|q;exact .inl q;exact .inr (.inl q)⟩,h2];rfl
 rw [e0,e1];rfl
theorem wm_plan(id:PidM)(want:List ByteArray)(o1 o2:OpM)(h:linesOps wmV [] wmF id 0 want=[o1,o2]):planM [wmP0] (wmT want) id=[o1,o2]:=by
 have hf:findT (wmT want) wmN=0:=by unfold findT wmT findFrom;rw [if_pos rfl];rfl
 have hK:killsTo [wmP0] (wmT want) (allM [wmP0]).length=[]:=by unfold killsTo;rw [wm_all1];show killsN [wmP0] (wmT want) ⟨wmF,wmN,[],[]⟩++[]=[];unfold killsN;rw [if_neg (by rw [hf];decide),wm_names1];rfl
 have hE:edTo [wmP0] (wmT want) id 1=[o1,o2]:=by
  rw [edTo_succ (n:=⟨wmF,wmN,[],[]⟩) (by rw [wm_all1];rfl),edTo_zero,hK];unfold plEdStep;rw [if_neg (by rw [hf];decide),List.nil_append,wm_lines1,wm_rel1];have hw:((wmT want).getD (findT (wmT want) (⟨wmF,wmN,[],[]⟩:NameM).name).toNat noFile).lines=want:=by rw [show(⟨wmF,wmN,[],[]⟩:NameM).name=wmN from rfl,hf];rfl
  rw [hw];exact h
 show newTo [wmP0] (wmT want) id 1=_;rw [newTo_succ (f:=⟨wmN,[],want⟩) rfl,newTo_zero,wm_all1];unfold newStep;rw [if_pos (by unfold isThere;simp)];exact hE
theorem wm_pairsQ:pairs [wmX] [wmX,wmY]=[(0,0)]:=by simp [pairs,pairsF,wmX,wmY]
theorem wm_pairsR:pairs [wmX] [wmZ,wmX]=[(0,1)]:=by simp [pairs,pairsF,lcsAt,lcsLen,wmX,wmZ]
theorem wm_planQ:planM [wmP0] (wmT [wmX,wmY]) wmQid=wmQo:=wm_plan _ _ _ _ (wm_edit _ _ [(0,0)] _ _ 0 (-1) wmLx ⟨wmQid,0⟩ wm_pairsQ rfl (by decide +kernel) (.inr (by decide)) (by decide +kernel) rfl)
theorem wm_planR:planM [wmP0] (wmT [wmZ,wmX]) wmRid=wmRo:=wm_plan _ _ _ _ (wm_edit _ _ [(0,1)] _ _ (-1) 0 ⟨wmRid,0⟩ wmLx wm_pairsR rfl (by decide +kernel) (.inl (by decide)) (by decide +kernel) rfl)
theorem wm_sideOf{want:List ByteArray}{a:UInt8}{id:PidM}{ops:List OpM}(hg:treeGood (wmT want)=true)(ha:authorOk a=true)(hv:vecM [wmP0] a<60000)(hid:nextM [wmP0] a=id)(hp:planM [wmP0] (wmT want) id=ops)(h1:ops.length=2):mgP [wmP0] (wmT want) a=[pgPat id ops]∧mgC [wmP0] (wmT want) a=0:=by
 rcases pg_rec wm_wf1 hg ha hv with⟨h0,_⟩|⟨h2,_⟩|⟨_,hr,_⟩
 · rw [hid,hp,h1] at h0;cases h0
 · rw [hid,hp,h1] at h2;omega
 unfold mgP mgC;rw [hr,hid,hp];exact⟨rfl,rfl⟩
theorem wm_sideQ:mgP [wmP0] (wmT [wmX,wmY]) 2=[pgPat wmQid wmQo]∧mgC [wmP0] (wmT [wmX,wmY]) 2=0:=wm_sideOf wm_good.2.1 (a:=2) (by decide) (by decide +kernel) (show nextM [wmP0] 2=wmQid by decide +kernel) wm_planQ rfl
theorem wm_sideR:mgP [wmP0] (wmT [wmZ,wmX]) 3=[pgPat wmRid wmRo]∧mgC [wmP0] (wmT [wmZ,wmX]) 3=0:=wm_sideOf wm_good.2.2 (a:=3) (by decide) (by decide +kernel) (show nextM [wmP0] 3=wmRid by decide +kernel) wm_planR rfl
def wmQ0:PatchM:=⟨wmQid,[wk28Id],wmQo⟩
def wmR0:PatchM:=⟨wmRid,[wk28Id],wmRo⟩
theorem wm_Q:pgPat wmQid wmQo=wmQ0:=by unfold pgPat;rw [show depsM wmQid wmQo=[wk28Id] by decide +kernel];rfl
theorem wm_R:pgPat wmRid wmRo=wmR0:=by unfold pgPat;rw [show depsM wmRid wmRo=[wk28Id] by decide +kernel];rfl
def wmG:List PatchM:=[wmP0,wmQ0,wmR0]
theorem wm_L2:mgL2 (wmT [wmX]) (wmT [wmX,wmY]) (wmT [wmZ,wmX])=wmG:=by unfold mgL2;rw [wm_mg1,wm_P,wm_sideQ.1,wm_sideR.1,wm_Q,wm_R];rfl
theorem wm_notLong:¬ MgLong (wmT [wmX]) (wmT [wmX,wmY]) (wmT [wmZ,wmX]):=by unfold MgLong;rw [wm_mg1,wm_P,wm_one.2,wm_sideQ.2,wm_sideR.2];rintro(q|q|q) <;> cases q
theorem wm_wf:WfG wmG:=by
 have h:=(sides_check (mg1_wf wm_good.1) (mg1_one wm_good.1) (a:=2) (b:=3) (by decide) (mg_side wm_good.1 wm_good.2.1 rfl) (mg_side wm_good.1 wm_good.2.2 rfl)).2.1;have e:=wm_L2;unfold mgL2 at e
 rwa [e] at h
def wmV3:List VertM:=[⟨wmLx,3,wmF,wmX,false⟩,⟨⟨wmQid,0⟩,3,wmF,wmY,false⟩,⟨⟨wmRid,0⟩,3,wmF,wmZ,false⟩]
def wmR3:List (Nat × Nat):=[(0,1),(2,0)]
theorem wm_lines:linesM wmG wmF=wmV3:=by decide +kernel
theorem wm_rel:relM wmG wmF=wmR3:=by decide +kernel
theorem wm_live:liveF wmG=[wmF]:=by decide +kernel
theorem wm_names:namesM wmG wmF=[⟨⟨wk28Id,1⟩,2,wmF,wmN,false⟩]:=by decide +kernel
theorem wm_all:allM wmG=[⟨wmF,wmN,[],[]⟩]:=calm_one_all wm_wf wm_live wm_names
theorem wm_no1{j:Nat}:¬ Lead wmR3 1 j:=fun h=>by obtain⟨k,hk⟩:=h.from';simp [wmR3] at hk
theorem wm_no2{j:Nat}:¬ Lead wmR3 j 2:=fun h=>by obtain⟨k,hk⟩:=h.into;simp [wmR3] at hk
theorem wm_chn:ChnL wmV3 wmR3 wmV3.length [2,0,1] wmR3:=by
 have h01:Lead wmR3 0 1:=.step (by simp [wmR3]);have h20:Lead wmR3 2 0:=.step (by simp [wmR3]);have hb:∀ a b:Nat,(a=2∧b=0)∨(a=0∧b=1)∨(a=2∧b=1)→BeforeP wmR3 a b:=by
  rintro a b (⟨rfl,rfl⟩|⟨rfl,rfl⟩|⟨rfl,rfl⟩)
  · exact⟨h20,wm_no2⟩
  · exact⟨h01,wm_no1⟩
  exact⟨h20.trans h01,wm_no1⟩
 refine chnL_self (by decide) (fun i j a b hi hj hij=>hb a b ?_) (fun a ha y hy hne hal => ?_) (by decide) (fun i => ?_)
 ·
  match i,j,hij with
  | 0,1,_=>simp at hi hj;omega
  | 0,2,_=>simp at hi hj;omega
  | 1,2,_=>simp at hi hj;omega
  | 0,j+3,_=>simp at hj
  | 1,j+3,_=>simp at hj
  | i+2,j+3,_=>simp at hj
 ·
  have hy:y<3:=hy;rcases hal with e|⟨h1,h2⟩
  · exact hne e.symm
  rcases (by omega:y=0∨y=1∨y=2) with rfl|rfl|rfl
  ·
   have ha:a=2∨a=0∨a=1:=(by simpa using ha);rcases ha with rfl|rfl|rfl
   · exact wm_no2 h2
   · exact hne rfl
   exact wm_no1 h1
  · exact wm_no1 h2
  exact wm_no2 h1
 constructor
 · rintro⟨h,_⟩;have h:i<3:=h;rcases (by omega:i=0∨i=1∨i=2) with rfl|rfl|rfl <;> decide
 intro h;have h:i=2∨i=0∨i=1:=by simpa using h
 rcases h with rfl|rfl|rfl <;> exact⟨by decide,by decide⟩
theorem wm_seen:lnSeen wmV3 wmR3=[wmZ,wmX,wmY]∧lnOdd wmV3 wmR3=0:=by have h:=wm_chn.seen;exact⟨h.1.trans (by decide +kernel),h.2⟩
theorem wm_fileT:fileT wmG ⟨wmF,wmN,[],[]⟩=⟨wmN,[],[wmZ,wmX,wmY]⟩:=by unfold fileT;rw [wm_lines,wm_rel,wm_seen.1];rfl
theorem wm_tree{t:List FileM}(h:IsTree wmG t):t=wmT [wmZ,wmX,wmY]:=by refine tree_one h ⟨?_,by unfold wmT;exact List.pairwise_singleton _ _⟩;rw [wm_all,List.map_singleton,wm_fileT];exact List.Perm.refl _
theorem wm_clean:cleanM wmG=true:=by unfold cleanM;rw [wm_all];unfold oddN;rw [List.all_cons,wm_lines,wm_rel,wm_seen.2];rfl
end Go.Proofs.YtjccmcgglfncdaaGreatDoor
namespace Go.Proofs.YtjccmcgglfncdaaGreatDoor
open Go Go.RowKit
theorem wone_any(v:Value)(l:List ByteArray)(w:World)(hv:SRow w v l) :
  Calls Tryz.prog 73 #[v] w fun e w'=>∃ v',e=.returned v'∧FRow w' v' (wmT l)∧Be w w':=by
 obtain⟨a,c,rfl,h1,h2,_,_⟩:=hv.form;have HV:=Lh hv;obtain⟨n,hn⟩:∃ n,l.length=n:=⟨_,rfl⟩;rw [hn] at HV ⊢;clear hv hn;go_enter Tryz.func73,Tryz.ntmps73;go_wp2;go_ret;have hb:=bnew (w:=w) (.cells #[.string ⟨#[97]⟩,.slice none 0 0,.slice a n c] 71);refine⟨_,rfl,⟨[(⟨wmN,[],l⟩,.slice none 0 0,.slice a n c)],rfl,?_,?_⟩,hb⟩
 · exact(show GOwn encF 3 71 _ 0 _ _ from own_lit w 71 [((⟨wmN,[],l⟩:FileM),(.slice none 0 0:Value),(.slice a n c:Value))] 0 rfl (by show 1≤maxLen;decide) (Nat.zero_le _)).row
 intro x hx;rw [List.mem_singleton.1 hx];exact⟨srow_nil _,HV.o.over hb⟩
def encSm(x:ByteArray):List Value:=[.string x]
theorem sm_map(l:List ByteArray):l.flatMap encSm=l.map fun x=>Value.string x:=by
 induction l with
 | nil=>rfl
 | cons x l ih=>rw [List.flatMap_cons,ih];rfl
theorem lit_row(W:World)(l:List ByteArray)(hl:l.length≤maxLen):SRow (W.alloc (.cells (l.flatMap encSm).toArray 9)) (.slice (some ⟨W.heap.size,0,none⟩) l.length l.length) l:=by have h:=(show GOwn encSm 1 9 _ 0 _ _ from own_lit W 9 l 0 (by rw [sm_map,List.length_map,Nat.mul_one]) hl (Nat.zero_le _)).row;unfold GRow at h;rw [sm_map] at h ⊢;exact h
theorem wm_sizes(l:List ByteArray)(h:∀ x∈l,x.size≤1):SzT (wmT l):=by intro f hf;rw [List.mem_singleton.1 hf];unfold SzS maxLen;exact⟨by show wmN.size≤2 ^ 63 - 1;decide,fun x hx=>absurd hx List.not_mem_nil,fun x hx=>by have:=h x hx;omega⟩
theorem works55_any(w:World)(ht:Tab w):Calls Tryz.prog 28 #[] w fun e w'=>e=.returned (.bool true)∧Be w w':=by
 have HT:=Lh ht;clear ht;go_enter Tryz.func28,Tryz.ntmps28;go_wp2_with fail;have hbA:=bnew (w:=w) (.cells #[.string ⟨#[120]⟩] 9);refine(wone_any _ [wmX] _ (lit_row w [wmX] (by show 1≤maxLen;decide))).mono ?_;rintro e w1 ⟨v1,rfl,hf1,hb1⟩;have HF1:=Lh hf1;have HB1:=Lh (bvo hbA hb1);clear hf1 hb1 hbA;go_wp2_with fail;have hbA2:=bnew (w:=w1) (.cells #[.string ⟨#[120]⟩,.string ⟨#[121]⟩] 9);refine(wone_any _ [wmX,wmY] _ (lit_row w1 [wmX,wmY] (by show 2≤maxLen;decide))).mono ?_;rintro e w2 ⟨v2,rfl,hf2,hb2⟩;have HF2:=Lh hf2;have HBs2:=Lh (bvo hbA2 hb2);have HB2:=Lh (bvo HB1.o HBs2.o);clear hf2 hb2 hbA2;go_wp2_with fail;have hbA3:=bnew (w:=w2) (.cells #[.string ⟨#[122]⟩,.string ⟨#[120]⟩] 9);refine(wone_any _ [wmZ,wmX] _ (lit_row w2 [wmZ,wmX] (by show 2≤maxLen;decide))).mono ?_;rintro e w3 ⟨v3,rfl,hf3,hb3⟩;have HF3:=Lh hf3;have HBs3:=Lh (bvo hbA3 hb3);have HB3:=Lh (bvo HB2.o HBs3.o);clear hf3 hb3 hbA3;have HF13:=Lh ((HF1.o.over HBs2.o).over HBs3.o);have HF23:=Lh (HF2.o.over HBs3.o);have HTh:=Lh (three_any v1 v2 v3 _ _ _ w3 HF13.o HF23.o HF3.o (wm_sizes _ (by decide)) (wm_sizes _ (by decide)) (wm_sizes _ (by decide)) wm_good.1 wm_good.2.1 wm_good.2.2 (HT.o.over HB3.o));go_wp2_with fail;refine HTh.o.mono ?_;rintro e w4 h4;rcases h4 with⟨hl,_⟩|⟨_,v4,t4,rfl,hi4,hf4,hb4⟩
 · exact absurd hl wm_notLong
 rw [wm_L2] at hi4 ⊢;rw [wm_clean];have e4:=wm_tree hi4;subst e4;have HF4:=Lh hf4;have HB4:=Lh (bvo HB3.o hb4);clear hi4 hf4 hb4 HTh;go_wp2_with fail;have hbA5:=bnew (w:=w4) (.cells #[.string ⟨#[122]⟩,.string ⟨#[120]⟩,.string ⟨#[121]⟩] 9);refine(wone_any _ [wmZ,wmX,wmY] _ (lit_row w4 [wmZ,wmX,wmY] (by show 3≤maxLen;decide))).mono ?_;rintro e w5 ⟨v5,rfl,hf5,hb5⟩;have HF5:=Lh hf5;have HBs5:=Lh (bvo hbA5 hb5);have HB5:=Lh (bvo HB4.o HBs5.o);clear hf5 hb5 hbA5;go_wp2_with fail;refine(rsame_any v4 v5 _ _ w5 (HF4.o.over HBs5.o) HF5.o).mono ?_;rw [sameT_t rfl];rintro e w6 ⟨rfl,hb6⟩;have HB6:=Lh (bvo HB5.o hb6);clear hb6;go_wp2;go_ret;exact⟨rfl,HB6.o⟩
attribute [local irreducible] mgL2 MgLong cleanM mgP mgC mg1
theorem mgkeep_any(va vb:Value)(a b:List FileM)(w:World)(ha:FRow w va a)(hb:FRow w vb b)(ht:Tab w) :
  Calls Tryz.prog 6 #[va,vb] w fun e w'=>e=.returned (.bool true)∧Be w w':=by
 have HA:=Lh ha;have HB':=Lh hb;have HT:=Lh ht;clear ha hb ht;go_enter Tryz.func6,Tryz.ntmps6;go_wp2_with fail;refine(few15_any va a w HA.o).mono ?_;rintro e w1 ⟨rfl,hb1⟩;have HB1:=Lh hb1;clear hb1;cases hq1:few15 a with
 | false =>unfold fewV;clear hq1;go_wp2_with fail;refine(works55_any _ (HT.o.over HB1.o)).mono ?_;rintro e w99 ⟨rfl,hb99⟩;have HB99:=Lh (bvo HB1.o hb99);clear hb99;go_wp2;go_ret;exact⟨rfl,HB99.o⟩
 | true =>
  have SA:=Lh (few15_sz hq1);unfold fewV;clear hq1;go_wp2_with fail;refine(few15_any vb b w1 (HB'.out.over HB1.o)).mono ?_;rintro e w2 ⟨rfl,hb2⟩;have HB2:=Lh (bvo HB1.o hb2);clear hb2;cases hq2:few15 b with
  | false =>unfold fewV;clear hq2;go_wp2_with fail;refine(works55_any _ (HT.o.over HB2.o)).mono ?_;rintro e w99 ⟨rfl,hb99⟩;have HB99:=Lh (bvo HB2.o hb99);clear hb99;go_wp2;go_ret;exact⟨rfl,HB99.o⟩
  | true =>
   have SB:=Lh (few15_sz hq2);unfold fewV;clear hq2;go_wp2_with fail;refine(rtgood_any va a w2 (HA.o.over HB2.o) SA.out).mono ?_;rintro e w3 ⟨rfl,hb3⟩;have HB3:=Lh (bvo HB2.o hb3);clear hb3;cases hg1:treeGood a with
   | false =>clear hg1;go_wp2_with fail;refine(works55_any _ (HT.o.over HB3.o)).mono ?_;rintro e w99 ⟨rfl,hb99⟩;have HB99:=Lh (bvo HB3.o hb99);clear hb99;go_wp2;go_ret;exact⟨rfl,HB99.o⟩
   | true =>
    have GA:=Lh hg1;clear hg1;go_wp2_with fail;refine(rtgood_any vb b w3 (HB'.out.over HB3.o) SB.out).mono ?_;rintro e w4 ⟨rfl,hb4⟩;have HB4:=Lh (bvo HB3.o hb4);clear hb4;cases hg2:treeGood b with
    | false =>clear hg2;go_wp2_with fail;refine(works55_any _ (HT.o.over HB4.o)).mono ?_;rintro e w99 ⟨rfl,hb99⟩;have HB99:=Lh (bvo HB4.o hb99);clear hb99;go_wp2;go_ret;exact⟨rfl,HB99.o⟩
    | true =>
     have GB:=Lh hg2;clear hg2;have HLg:=Lh (keep_long GA.out GB.out);have HK1:=Lh (keep_one GA.out GB.out);have HK2:=Lh (keep_two GA.out GB.out);go_wp2_with fail;refine(three_any va va vb a a b w4 (HA.o.over HB4.o) (HA.o.over HB4.o) (HB'.out.over HB4.o) SA.out SA.out SB.out GA.out GA.out GB.out (HT.o.over HB4.o)).mono ?_;rintro e w5 h5;rcases h5 with⟨hl5,rfl,hb5⟩|⟨hl5,v5,t5,rfl,hi5,hf5,hb5⟩
     ·
      have HB5:=Lh (bvo HB4.o hb5);have HL5:=Lh hl5;clear hl5 hb5;go_wp2_with fail;refine(three_any va vb va a b a w5 (HA.o.over HB5.o) (HB'.out.over HB5.o) (HA.o.over HB5.o) SA.out SB.out SA.out GA.out GB.out GA.out (HT.o.over HB5.o)).mono ?_;rintro e w6 h6;rcases h6 with⟨hl6,rfl,hb6⟩|⟨hl6,_⟩
      rotate_left
      · exact absurd (HLg.o.1 HL5.o) hl6
      have HB6:=Lh (bvo HB5.o hb6);clear hl6 hb6;go_wp2_with fail;refine(works55_any _ (HT.o.over HB6.o)).mono ?_;rintro e w99 ⟨rfl,hb99⟩;have HB99:=Lh (bvo HB6.o hb99);clear hb99;go_wp2;go_ret;exact⟨rfl,HB99.o⟩
     ·
      rw [(HK1.o hl5).2];have e5:=tree_one hi5 (HK1.o hl5).1;subst e5;obtain⟨a5,c5,ev5,_⟩:=hf5.form;obtain⟨n5,hn5⟩:∃ n,t5.length=n:=⟨_,rfl⟩;rw [hn5] at ev5;subst ev5;have HF5:=Lh hf5;have HB5:=Lh (bvo HB4.o hb5);have HL5:=Lh hl5;clear hl5 hi5 hf5 hb5 hn5;go_wp2_with fail;refine(three_any va vb va a t5 a w5 (HA.o.over HB5.o) (HB'.out.over HB5.o) (HA.o.over HB5.o) SA.out SB.out SA.out GA.out GB.out GA.out (HT.o.over HB5.o)).mono ?_;rintro e w6 h6;rcases h6 with⟨hl6,_⟩|⟨hl6,v6,t6,rfl,hi6,hf6,hb6⟩
      · exact absurd (HLg.o.2 hl6) HL5.o
      rw [(HK2.o hl6).2];have e6:=tree_one hi6 (HK2.o hl6).1;subst e6;obtain⟨a6,c6,ev6,_⟩:=hf6.form;obtain⟨n6,hn6⟩:∃ n,t6.length=n:=⟨_,rfl⟩;rw [hn6] at ev6;subst ev6;have HF6:=Lh hf6;have HF56:=Lh (HF5.o.over hb6);have HB6:=Lh (bvo HB5.o hb6);clear hl6 hi6 hf6 hb6 hn6;go_wp2_with fail;refine(rsame_any _ vb _ _ w6 HF56.o (HB'.out.over HB6.o)).mono ?_;rw [sameT_t rfl];rintro e w7 ⟨rfl,hb7⟩;have HB7:=Lh (bvo HB6.o hb7);have HF67:=Lh (HF6.o.over hb7);clear hb7;go_wp2_with fail;refine(rsame_any _ vb _ _ w7 HF67.o (HB'.out.over HB7.o)).mono ?_;rw [sameT_t rfl];rintro e w8 ⟨rfl,hb8⟩;have HB8:=Lh (bvo HB7.o hb8);clear hb8;go_wp2_with fail;refine(works55_any _ (HT.o.over HB8.o)).mono ?_;rintro e w99 ⟨rfl,hb99⟩;have HB99:=Lh (bvo HB8.o hb99);clear hb99;go_wp2;go_ret;exact⟨rfl,HB99.o⟩
end Go.Proofs.YtjccmcgglfncdaaGreatDoor
set_option maxRecDepth 100000
set_option maxHeartbeats 40000000
namespace Go.Proofs.YtjccmcgglfncdaaGreatDoor
open Go Go.ChangeShapes Go.WideShapes Go.ChangeAt Go.RowKit
open Go.ChangeMaps (open_string)
theorem own:ownKnob Tryz.prog.godebug=none:=by kernel_rfl
theorem gTab : Tryz.prog.globalNamed "internal/strconv.uint64pow10" = some 1 := by kernel_rfl
theorem gTabT:(Tryz.prog.globals[1]?).map (·.type)=some 353:=by kernel_rfl
theorem tab_eq:(Rows.laid_internal_strconv_uint64pow10:DataW Unit)=Lib.tabData .u64 Lib.pow10Tab:=by kernel_rfl
theorem tab_of{W:World}(hL:laidMet Tryz.prog Rows.mergeKeepsRow.laid W):Tab W:=by have h := hL.filter (fun x => x.1 == "internal/strconv.uint64pow10");rw [show Rows.mergeKeepsRow.laid.filter (fun x => x.1 == "internal/strconv.uint64pow10") = [("internal/strconv.uint64pow10", Rows.laid_internal_strconv_uint64pow10)] from by kernel_rfl, tab_eq] at h;exact Lib.tabIs_of_head gTab gTabT Tryz.underlying353 Tryz.underlying264 (by kernel_rfl) (by kernel_rfl) h
section
variable {H : Type} {enc : TypeId × Value → H} {W : World} {base : Nat} {v : Value} {d : DataW H} {ps : List MemPlace}
theorem tree_arg(hv:Value.okWide Tryz.prog W .any base 27 v)(h:DataW.Trod enc Tryz.prog W 0 (fun _=>true) true 27 v d ps):∃ fs:List FileM,FRow W v fs:=
 frow_of_trod Tryz.underlying27 Tryz.underlying71 (by kernel_rfl) (by kernel_rfl) rfl rfl rfl Tryz.underlying9 Tryz.underlying69 Tryz.underlying9 (by kernel_rfl) hv h
end
theorem contract_MergeKeeps(H:Type)(enc:TypeId × Value→H)(W:World)(base:Nat)(args:Array Value)(ds gs:List (DataW H))(before:List MemPlace)
  (hval:∀(j:Nat) t v,Tryz.f6.params[j]? = some t→args[j]? = some v→Value.okWide Tryz.prog W .any base t v)
  (hW:DataW.Whole enc Tryz.prog Tryz.f6.params.toList Rows.mergeKeepsSpec.vars false W args.toList ds gs before) (hL:laidMet Tryz.prog Rows.mergeKeepsRow.laid W) :
  Calls Tryz.prog 6 args W fun e W'=>∃ v,e=.returned v∧Rows.mergeKeepsSpec.post enc Tryz.prog Tryz.f6 false true false false W args v W':=by have hW':=hW;obtain⟨p,q,hA0,hV,rfl,hfz,hnd⟩:=hW;have hA:DataW.TrodAll enc Tryz.prog W 0 (fun _=>true) true Tryz.f6.params.toList args.toList ds p:=hA0;rw [Tryz.params6] at hA hval;obtain⟨v0,v1,d0,d1,p0,p1,rfl,rfl,rfl,h0,h1⟩:=trodAll_two hA;obtain⟨rfl,rfl⟩:=trodVars_none hV;obtain⟨a,ha⟩:=tree_arg (hval 0 27 v0 rfl rfl) h0;obtain⟨b,hb⟩:=tree_arg (hval 1 27 v1 rfl rfl) h1;refine(mgkeep_any v0 v1 a b W ha hb (tab_of hL)).mono fun e W' ⟨he,hb⟩=>⟨_,he,?_⟩;exact law_post (by kernel_rfl) Tryz.underlying4 rfl laidOut (by kernel_rfl) rfl hW' hb
def putCells(cs:Array Value):Obj→Obj
 | .cells _ t fr=>.cells cs t fr
 | o=>o
def cells_laid_math_bits_deBruijn32tab:Array Value:=#[.int .u8 0,.int .u8 1,.int .u8 28,.int .u8 2,.int .u8 29,.int .u8 14,.int .u8 24,.int .u8 3,.int .u8 30,.int .u8 22,.int .u8 20,.int .u8 15,.int .u8 25,.int .u8 17,.int .u8 4,.int .u8 8,.int .u8 31,.int .u8 27,.int .u8 13,.int .u8 23,.int .u8 21,.int .u8 19,.int .u8 16,.int .u8 7,.int .u8 26,.int .u8 12,.int .u8 18,.int .u8 6,.int .u8 11,.int .u8 5,.int .u8 10,.int .u8 9]
def cells_laid_math_bits_deBruijn64tab:Array Value:=#[.int .u8 0,.int .u8 1,.int .u8 56,.int .u8 2,.int .u8 57,.int .u8 49,.int .u8 28,.int .u8 3,.int .u8 61,.int .u8 58,.int .u8 42,.int .u8 50,.int .u8 38,.int .u8 29,.int .u8 17,.int .u8 4,.int .u8 62,.int .u8 47,.int .u8 59,.int .u8 36,.int .u8 45,.int .u8 43,.int .u8 51,.int .u8 22,.int .u8 53,.int .u8 39,.int .u8 33,.int .u8 30,.int .u8 24,.int .u8 18,.int .u8 12,.int .u8 5,.int .u8 63,.int .u8 55,.int .u8 48,.int .u8 27,.int .u8 60,.int .u8 41,.int .u8 37,.int .u8 16,.int .u8 46,.int .u8 35,.int .u8 44,.int .u8 21,.int .u8 52,.int .u8 32,.int .u8 23,.int .u8 11,.int .u8 54,.int .u8 26,.int .u8 40,.int .u8 15,.int .u8 34,.int .u8 20,.int .u8 31,.int .u8 10,.int .u8 25,.int .u8 14,.int .u8 19,.int .u8 9,.int .u8 13,.int .u8 8,.int .u8 7,.int .u8 6]
def cells_laid_internal_strconv_uint64pow10:Array Value:=#[.int .u64 1,.int .u64 10,.int .u64 100,.int .u64 1000,.int .u64 10000,.int .u64 100000,.int .u64 1000000,.int .u64 10000000,.int .u64 100000000,.int .u64 1000000000,.int .u64 10000000000,.int .u64 100000000000,.int .u64 1000000000000,.int .u64 10000000000000,.int .u64 100000000000000,.int .u64 1000000000000000,.int .u64 10000000000000000,.int .u64 100000000000000000,.int .u64 1000000000000000000,.int .u64 10000000000000000000]
noncomputable def laidWorld(os:Os):World:=
 {(World.holding Tryz.prog os ⟨#[],#[],[]⟩) with heap:=((((World.holding Tryz.prog os ⟨#[],#[],[]⟩).heap.modify 2 (putCells cells_laid_math_bits_deBruijn32tab)).modify 3 (putCells cells_laid_math_bits_deBruijn64tab)).modify 1 (putCells cells_laid_internal_strconv_uint64pow10))}
theorem plain_of{b:Bool}{f0:FuncId}{fn0:Func}{name:String}(h0:Tryz.prog.funcNamed name=some f0)(h1:Tryz.prog.funcs[f0]? = some fn0)(h2:fn0.params.toList.all (fun t => !Tryz.prog.wantsStandIn t)=true)
  (h3:b=Tryz.pinned.checked.prog.looks []) (f:FuncId) (fn:Func) (hf:Tryz.pinned.checked.prog.funcNamed name=some f) (hfn:Tryz.pinned.checked.prog.funcs[f]? = some fn) :
  b=Tryz.pinned.checked.prog.looks []∧∀(j:Nat) t,fn.params[j]? = some t→Tryz.pinned.checked.prog.wantsStandIn t=false:=by
 obtain rfl:f=f0:=Option.some.inj ((show Tryz.prog.funcNamed name=some f0 from h0).symm.trans hf) |>.symm
 obtain rfl:fn=fn0:=(Option.some.inj (h1.symm.trans hfn)).symm;refine⟨h3,fun j t ht => ?_⟩;have:=List.all_eq_true.1 h2 t (by simpa using Array.mem_of_getElem? ht);show Tryz.prog.wantsStandIn t=false;simpa using this
namespace fnMergeKeeps
theorem laid_met(os:Os):laidMet Tryz.prog Rows.mergeKeepsRow.laid ((laidWorld os).forCall (fun _ _=>0) ⟨#[],#[.slice none 0 0,.slice none 0 0],[]⟩).memory:=
 laidMet_of_run' 8 (by kernel_rfl) (by kernel_rfl)
theorem reads(os:Os){H:Type}(enc:TypeId × Value→H):∃ places,DataW.whole enc Tryz.prog ((laidWorld os).forCall (fun _ _=>0) ⟨#[],#[.slice none 0 0,.slice none 0 0],[]⟩).memory Tryz.f6.params.toList Rows.mergeKeepsSpec.vars false (#[.slice none 0 0,.slice none 0 0]:Array Value).toList 8=some ([.nil,.nil],[],places):=
 ⟨[],by kernel_rfl⟩
theorem lifted(os:Os)(started:os.Started)(H:Type)(enc:TypeId × Value→H)(F:Stop.Interp) :
  ReturnsInHanded {} Tryz.checked os 6 .any ((OpenSpec.ofChange Rows.mergeKeepsSpec).preRow enc Tryz.prog Tryz.f6 Rows.mergeKeepsRow.domain false Rows.mergeKeepsRow.laid) (((OpenSpec.ofChange Rows.mergeKeepsSpec).at F).post enc Tryz.prog Tryz.f6 false true false false):=by
 obtain⟨places,hx⟩:=reads os enc;refine returnsInHanded_of_row (C:=Tryz.checked) (s:=OpenSpec.ofChange Rows.mergeKeepsSpec) own started (by kernel_rfl) Tryz.func6
  (witness_row_at (enc:=enc) (C:=Tryz.checked) false (laidWorld os) #[.slice none 0 0,.slice none 0 0] rfl (by kernel_rfl) (by kernel_rfl) (by kernel_rfl)
   (OpenSpec.preRow_of_cond 8 hx (by kernel_rfl) (fun k hk=>by cases hk) (by kernel_rfl) (laid_met os))) ?_
 intro W base args ds gs before hval hW _ _ _ hL _ _;exact contract_MergeKeeps H enc W base args ds gs before hval hW hL
theorem c_laid:laidOutB Tryz.pinned.checked.prog=true:=by kernel_rfl
theorem c_maps:mapsRowed Tryz.pinned.checked.prog=true:=by kernel_rfl
theorem c_in:(Rows.mergeKeepsRow.inPlace == Tryz.pinned.checked.prog.inPlace 6)=true:=by kernel_rfl
theorem c_unf:(Rows.mergeKeepsRow.unfollowed == Tryz.pinned.checked.prog.unfollowed 6)=true:=by kernel_rfl
theorem c_rec:(Rows.mergeKeepsRow.recurses == Tryz.pinned.checked.prog.recurses 6)=true:=by kernel_rfl
theorem c_nam:(Rows.mergeKeepsRow.named == Tryz.pinned.checked.prog.varsNamed 6)=true:=by kernel_rfl
theorem c_keys:(Rows.mergeKeepsRow.plainKeys == Tryz.pinned.checked.prog.plainKeys)=true:=by kernel_rfl
theorem c_heard:Tryz.pinned.checked.prog.stopsHeard=true:=by kernel_rfl
theorem c_may:Tryz.pinned.checked.prog.mayEnter=true:=by kernel_rfl
theorem c_lift:(Rows.mergeKeepsRow.lifted == Tryz.pinned.checked.prog.liftsFinal)=true:=by kernel_rfl
theorem closed:joinedFacts Tryz.pinned.checked.prog 6 Tryz.f6 (OpenSpec.ofChange Rows.mergeKeepsSpec).bare Rows.mergeKeepsRow=true:=by
 unfold joinedFacts;simp only [Bool.and_eq_true]
 repeat' apply And.intro
 all_goals with_reducible first|exact c_laid|exact c_maps|exact c_in|exact c_unf|exact c_rec|exact c_nam|exact c_keys|exact c_heard|exact c_may|exact c_lift|kernel_rfl
theorem said:Rows.MergeKeepsSaid:=
 OpenClaim.holds_of_cond 6 Tryz.f6 rfl rfl rfl rfl rfl rfl rfl ⟨rfl,rfl,rfl,rfl,rfl⟩ rfl rfl rfl rfl rfl (by kernel_rfl) Tryz.func6 closed
  (of_decide_eq_true (by kernel_rfl)) (by unfold Func.isWrapper;first|(rw [if_pos (by decide +kernel)];kernel_rfl)|(rw [if_neg (by decide +kernel)];exact⟨rfl,rfl⟩))
  (fun os started H enc _ F=>by rw [OpenClaim.pre_eq_preRow];exact lifted os started H enc F)
theorem c_wf:Rows.mergeKeepsRow.wfByText (OpenSpec.ofChange Rows.mergeKeepsSpec)=true:=by kernel_rfl
theorem c_main:Tryz.pinned.checked.prog.mainIs=some (Rows.mergeKeepsCard.stood.harness.1,Rows.mergeKeepsCard.stood.harness.2.toList):=by kernel_rfl
theorem c_looks:false=Tryz.pinned.checked.prog.looks []:=by kernel_rfl
theorem c_goes:false=Rows.mergeKeepsRow.goesBy Tryz.pinned.checked.prog:=by kernel_rfl
theorem c_funcNamed : Tryz.prog.funcNamed "bruit/bruitlaw55.MergeKeeps" = some 6 := by kernel_rfl
theorem c_params:Tryz.f6.params.toList.all (fun t => !Tryz.prog.wantsStandIn t)=true:=by kernel_rfl
theorem card:Rows.MergeKeepsCardSaid:=
 Claim7.holds_tied_plain_at .later [] _ _ _ _ said (fun _ h=>by cases h) c_wf (fun _ h=>by cases h) mergeKeeps_row_tie rfl ⟨rfl,rfl⟩ c_main rfl (plain_of c_funcNamed Tryz.func6 c_params c_looks) c_goes
end fnMergeKeeps
end Go.Proofs.YtjccmcgglfncdaaGreatDoor
