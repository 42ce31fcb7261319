/- What is proved: MergeTurns, for every input; of the listed tables the walk needs the powers of ten. -/
import Derived.Test.YtjccmcgglfncdaaGreatDoorUPlC
import Derived.Test.YtjccmcgglfncdaaGreatDoorUEsP
set_option linter.unusedVariables false
set_option linter.unusedSimpArgs false
set_option maxRecDepth 100000
set_option maxHeartbeats 40000000
namespace Go.Proofs.YtjccmcgglfncdaaGreatDoor
open Go Go.RowKit
theorem next_good{L:List PatchM}{a:UInt8}(ha:authorOk a=true)(hv:vecM L a<60000):goodPid (nextM L a)=true∧(nextM L a).author=a∧nextM L a≠noPid:=by
 have e:nextM L a=⟨a,UInt16.ofNat (vecM L a+1)⟩:=by unfold nextM;rw [if_pos ⟨ha,hv⟩]
 unfold authorOk at ha;simp only [Bool.and_eq_true,decide_eq_true_eq] at ha;have h1:(UInt16.ofNat (vecM L a+1)).toNat=vecM L a+1:=by simp;omega
 rw [e];refine⟨?_,rfl,fun q => ?_⟩
 · unfold goodPid;simp only [Bool.and_eq_true,decide_eq_true_eq];rw [h1];omega
 have:=congrArg (fun p:PidM=>p.author.toNat) q;have:a.toNat=0:=this;omega
noncomputable def pgG(L:List PatchM)(t:List FileM)(a:UInt8):List PatchM:=L++[pgPat (nextM L a) (planM L t (nextM L a))]
section
variable {L : List PatchM} {t : List FileM} {a : UInt8}
theorem pl_in(hw:WfG L)(ht:treeGood t=true)(ha:authorOk a=true)(hv:vecM L a<60000)(hl:(planM L t (nextM L a)).length≤200):PlIn L t (nextM L a):=by obtain⟨h1,h2,_⟩:=next_good ha hv;exact⟨⟨hw,h1,by rw [h2],hl⟩,ht⟩
theorem pg_rec(hw:WfG L)(ht:treeGood t=true)(ha:authorOk a=true)(hv:vecM L a<60000) :
  ((planM L t (nextM L a)).length=0∧recI L t (nextM L a)=(none,6)∧IsTree L t∧cleanM L=true) ∨
  (200<(planM L t (nextM L a)).length∧recI L t (nextM L a)=(none,3)) ∨
  ((planM L t (nextM L a)).length≤200∧recI L t (nextM L a)=(some (pgPat (nextM L a) (planM L t (nextM L a))),0)∧CheckOk L (pgPat (nextM L a) (planM L t (nextM L a)))∧checkM L (pgPat (nextM L a) (planM L t (nextM L a)))=0∧WfG (pgG L t a)∧IsTree (pgG L t a) t∧cleanM (pgG L t a)=true∧∀ id',planM (pgG L t a) t id'=[]):=by
 have hno:=(next_good ha hv).2.2
 by_cases h0:(planM L t (nextM L a)).length=0
 · refine .inl ⟨h0,?_,plan_nil hw ht (List.length_eq_zero_iff.1 h0)⟩;unfold recI planR;rw [if_neg hno,if_pos ht,if_pos h0];rfl
 by_cases h1:200<(planM L t (nextM L a)).length
 · refine .inr (.inl ⟨h1,?_⟩);unfold recI planR;rw [if_neg hno,if_pos ht,if_neg h0,if_pos h1];rfl
 have hin:=pl_in hw ht ha hv (by omega);have hne:planM L t (nextM L a)≠[]:=fun e=>h0 (by rw [e];rfl);have hset:=hin.settles hne;have hw2:=hin.inn.wf2 hne;refine .inr (.inr ⟨by omega,?_,hin.inn.checkOk hne,hin.inn.check hne,hw2,(plan_nil hw2 ht (hset noPid)).1,(plan_nil hw2 ht (hset noPid)).2,hset⟩);have hg:goodQ (nextM L a) (depsM (nextM L a) (planM L t (nextM L a))) (planM L t (nextM L a))=true:=(goodQ_eq (pgPat (nextM L a) (planM L t (nextM L a)))).trans (hin.inn.goodP hne);unfold recI planR;rw [if_neg hno,if_pos ht,if_neg h0,if_neg h1,if_pos rfl];exact if_pos hg
end
end Go.Proofs.YtjccmcgglfncdaaGreatDoor
namespace Go.Proofs.YtjccmcgglfncdaaGreatDoor
open Go Go.RowKit
variable{t:List FileM}{a:UInt8}
theorem ties_len_id(l:List VertM)(R:List (Nat × Nat))(id id':PidM)(c c':Nat)(want:List ByteArray):(pgTies l R id c want).length=(pgTies l R id' c' want).length:=by unfold pgTies;rw [List.length_flatMap,List.length_flatMap];congr 1;refine List.map_congr_left fun j _ => ?_;unfold edgesE;split <;> rfl
theorem linesOps_len_id(l:List VertM)(R:List (Nat × Nat))(f f':VidM)(id id':PidM)(c c':Nat)(want:List ByteArray):(linesOps l R f id c want).length=(linesOps l R f' id' c' want).length:=by rw [linesOps_eq,linesOps_eq];unfold pgOps;rw [List.length_append,List.length_append,List.length_append,List.length_append,List.length_map,List.length_map,ties_len_id l R id id' c c']
theorem edTo_len_id(L:List PatchM)(t:List FileM)(id id':PidM):∀ k,(edTo L t id k).length=(edTo L t id' k).length
 | 0=>rfl
 | k+1=>by
  have ih:=edTo_len_id L t id id' k;rcases Nat.lt_or_ge k (allM L).length with hk|hk
  ·
   have hn:=List.getElem?_eq_getElem hk;rw [edTo_succ hn,edTo_succ hn];unfold plEdStep;split
   · exact ih
   rw [List.length_append,List.length_append,ih,linesOps_len_id _ _ _ _ id id' _ (edTo L t id' k).length]
  have h1:∀ i,edTo L t i (k+1)=edTo L t i k:=fun i=>by unfold edTo;rw [List.take_of_length_le (by omega),List.take_of_length_le hk]
  rw [h1,h1];exact ih
theorem newTo_len_id(L:List PatchM)(t:List FileM)(id id':PidM):∀ k,(newTo L t id k).length=(newTo L t id' k).length
 | 0=>edTo_len_id L t id id' _
 | k+1=>by
  have ih:=newTo_len_id L t id id' k;rcases Nat.lt_or_ge k t.length with hk|hk
  ·
   have hn:=List.getElem?_eq_getElem hk;rw [newTo_succ hn,newTo_succ hn];unfold newStep;split
   · exact ih
   rw [List.length_append,List.length_append,ih];unfold fileOps;rw [List.length_cons,List.length_cons,List.length_cons,List.length_cons,linesOps_len_id _ _ _ ⟨id',UInt8.ofNat (newTo L t id' k).length⟩ id id' _ ((newTo L t id' k).length+2)]
  have h1:∀ i,newTo L t i (k+1)=newTo L t i k:=fun i=>by unfold newTo;rw [List.take_of_length_le (by omega),List.take_of_length_le hk]
  rw [h1,h1];exact ih
theorem planM_len_id(L:List PatchM)(t:List FileM)(id id':PidM):(planM L t id).length=(planM L t id').length:=newTo_len_id L t id id' _
noncomputable def mgP(L:List PatchM)(t:List FileM)(a:UInt8):List PatchM:=(recI L t (nextM L a)).1.toList
noncomputable def mgC(L:List PatchM)(t:List FileM)(a:UInt8):Nat:=(recI L t (nextM L a)).2
structure SideIs (L:List PatchM) (t:List FileM) (a:UInt8):Prop where
 code:mgC L t a=0∨mgC L t a=3∨mgC L t a=6
 long:mgC L t a=3↔200<(planM L t (nextM L a)).length
 one:mgP L t a=[]∨∃ p,mgP L t a=[p]∧checkM L p=0∧p.id.author=a∧p.ops.length≤200∧∀ o∈p.ops,∀ m,(∀ f∈t,f.name.size≤m∧∀ s∈f.lines,s.size≤m)→o.text.size≤m
 tree:mgC L t a≠3→IsTree (L++mgP L t a) t∧cleanM (L++mgP L t a)=true∧∀ id,(planM (L++mgP L t a) t id).length=0
 wf:WfG (L++mgP L t a)
 few:(L++mgP L t a).length≤L.length+1
theorem side_is{L:List PatchM}(hw:WfG L)(ht:treeGood t=true)(ha:authorOk a=true)(hv:vecM L a<60000):SideIs L t a:=by
 rcases pg_rec hw ht ha hv with⟨h0,hr,hT,hC⟩|⟨h1,hr⟩|⟨hl,hr,hok,hchk,hw2,hT,hC,hset⟩
 ·
  have e1:mgP L t a=[]:=by unfold mgP;rw [hr];rfl
  have e2:mgC L t a=6:=by unfold mgC;rw [hr]
  refine⟨.inr (.inr e2),by rw [e2];omega,.inl e1,fun _ => ?_,by rw [e1,List.append_nil];exact hw,by rw [e1,List.append_nil];omega⟩;rw [e1,List.append_nil];exact⟨hT,hC,fun id=>by rw [planM_len_id L t id (nextM L a)];exact h0⟩
 ·
  have e1:mgP L t a=[]:=by unfold mgP;rw [hr];rfl
  have e2:mgC L t a=3:=by unfold mgC;rw [hr]
  exact⟨.inr (.inl e2),by rw [e2];omega,.inl e1,fun q=>absurd e2 q,by rw [e1,List.append_nil];exact hw,by rw [e1,List.append_nil];omega⟩
 have e1:mgP L t a=[pgPat (nextM L a) (planM L t (nextM L a))]:=by unfold mgP;rw [hr];rfl
 have e2:mgC L t a=0:=by unfold mgC;rw [hr]
 have eG:L++mgP L t a=pgG L t a:=by rw [e1];rfl
 refine⟨.inl e2,by rw [e2];omega,.inr ⟨_,e1,hchk,(next_good ha hv).2.1,hl,fun o ho m hm=>planM_small L t (nextM L a) hm o ho⟩,fun _ => ?_,by rw [eG];exact hw2,by rw [e1,List.length_append,List.length_singleton];exact Nat.le_refl _⟩;rw [eG];exact⟨hT,hC,fun id=>by rw [hset id];rfl⟩
theorem sides_check{L:List PatchM}(hw:WfG L)(ho:OneId L){u:List FileM}{b:UInt8}(hab:a≠b)(h1:SideIs L t a)(h2:SideIs L u b) :
  (∀(k:Nat) (p:PatchM),(mgP L t a++mgP L u b)[k]? = some p→checkM (L++(mgP L t a++mgP L u b).take k) p=0∧WfG (L++(mgP L t a++mgP L u b).take k)∧p.ops.length≤200)∧WfG (L++(mgP L t a++mgP L u b))∧(mgP L t a++mgP L u b).length≤2:=by
 have hempty:∀(k:Nat) (p:PatchM),([]:List PatchM)[k]? = some p→False:=fun k p h=>by simp at h
 rcases h1.one with e1|⟨p,e1,c1,a1,l1,_⟩
 ·
  rw [e1,List.nil_append];have hw2:=h2.wf;rcases h2.one with e2|⟨q,e2,c2,a2,l2,_⟩
  · rw [e2,List.append_nil];exact⟨fun k p h=>(hempty k p h).elim,hw,by simp⟩
  rw [e2] at hw2 ⊢;refine⟨fun k p h => ?_,hw2,by simp⟩;cases k with
  | zero =>have e:q=p:=Option.some.inj h;subst e;rw [List.take_zero,List.append_nil];exact⟨c2,hw,l2⟩
  | succ k=>exact(hempty k p h).elim
 have hw1:=h1.wf;rw [e1] at hw1 ⊢;rcases h2.one with e2|⟨q,e2,c2,a2,l2,_⟩
 ·
  rw [e2,List.append_nil];refine⟨fun k q h => ?_,hw1,by simp⟩;cases k with
  | zero =>have e:p=q:=Option.some.inj h;subst e;rw [List.take_zero,List.append_nil];exact⟨c1,hw,l1⟩
  | succ k=>exact(hempty k q h).elim
 rw [e2];have hne:p.id≠q.id:=fun e=>hab (by rw [← a1,← a2,e]);have hn:hasM (L++[p]) q.id=false:=by rw [hasM_snoc,(check_ok c2).new];simp [hne]
 have hone:OneId (L++[p]):=one_snoc ho (check_ok c1).new;have hc3:checkM (L++[p]) q=0:=check_up hw hw1 hone (fun x hx=>List.mem_append_left _ hx) c2 hn;have hw3:WfG (L++[p]++[q]):=wf_snoc hw1 (check_ok hc3);have e3:L++([p]++[q])=L++[p]++[q]:=(List.append_assoc _ _ _).symm;refine⟨fun k x h => ?_,by rw [e3];exact hw3,by simp⟩
 match k with
 | 0 =>have e:p=x:=Option.some.inj h;subst e;rw [List.take_zero,List.append_nil];exact⟨c1,hw,l1⟩
 | 1 =>have e:q=x:=Option.some.inj h;subst e;exact⟨hc3,hw1,l2⟩
 | k+2=>exact(hempty k x h).elim
noncomputable def mg1(t:List FileM):List PatchM:=mgP [] t 1
theorem mg1_is(ht:treeGood t=true):SideIs [] t 1:=side_is wf_nil ht rfl (by decide)
theorem mg1_wf(ht:treeGood t=true):WfG (mg1 t):=by have:=(mg1_is ht).wf;rwa [List.nil_append] at this
theorem mg1_one(ht:treeGood t=true):OneId (mg1 t):=by
 rcases (mg1_is ht).one with e|⟨p,e,c,_⟩
 · unfold mg1;rw [e];exact one_nil
 unfold mg1;rw [e];exact one_snoc one_nil (check_ok c).new
theorem mg1_len(ht:treeGood t=true):(mg1 t).length≤1:=by have:=(mg1_is ht).few;rw [List.nil_append] at this;unfold mg1;simpa using this
theorem mg_side{u:List FileM}(ht:treeGood t=true)(hu:treeGood u=true)(ha:authorOk a=true):SideIs (mg1 t) u a:=by
 refine side_is (mg1_wf ht) hu ha ?_;have h1:vecM (mg1 t) a≤(mg1 t).length:=by unfold vecM;exact List.length_filter_le _ _
 have:=mg1_len ht;omega
end Go.Proofs.YtjccmcgglfncdaaGreatDoor
namespace Go.Proofs.YtjccmcgglfncdaaGreatDoor
open Go Go.RowKit
structure SameG (A B:List PatchM):Prop where
 wa:WfG A
 wb:WfG B
 oa:OneId A
 ob:OneId B
 mem:∀ p,p∈A↔p∈B
namespace SameG
variable {A B : List PatchM}
theorem vec(h:SameG A B):vecM A=vecM B:=vecM_same h.oa h.ob h.mem
theorem verts(h:SameG A B):vertsM A=vertsM B:=vertsM_same h.oa h.ob h.mem (wf_len h.wa) (wf_len h.wb)
theorem edges(h:SameG A B):edgesM A=edgesM B:=edgesM_same h.mem
theorem tree(h:SameG A B){t u:List FileM}(ht:IsTree A t)(hu:IsTree B u):t=u:=by obtain⟨h1,h2,_,h4⟩:=graph_same h.oa h.ob h.mem (wf_len h.wa) (wf_len h.wb);exact tree_same h1 h2 h4 ht hu
theorem more(h:SameG A B){s:PatchM}(hc:checkM A s=0):checkM B s=0∧SameG (A++[s]) (B++[s]):=by
 have hn:hasM A s.id=false:=(check_ok hc).new;have hn2:hasM B s.id=false:=by rw [← hasM_same h.mem];exact hn
 have hc2:checkM B s=0:=check_up h.wa h.wb h.ob (fun p hp=>(h.mem p).1 hp) hc hn2;exact⟨hc2,wf_snoc h.wa (check_ok hc),wf_snoc h.wb (check_ok hc2),one_snoc h.oa hn,one_snoc h.ob hn2,fun p=>by rw [List.mem_append,List.mem_append,h.mem p]⟩
end SameG
end Go.Proofs.YtjccmcgglfncdaaGreatDoor
namespace Go.Proofs.YtjccmcgglfncdaaGreatDoor
open Go Go.RowKit
theorem recI_cases(L:List PatchM)(t:List FileM)(id:PidM):(∃ p,(recI L t id).1=some p∧(recI L t id).2=0)∨((recI L t id).1=none∧(recI L t id).2≠0):=by
 unfold recI;split
 · exact .inr ⟨rfl,by decide⟩
 split
 ·
  split
  · exact .inl ⟨_,rfl,rfl⟩
  exact .inr ⟨rfl,by decide⟩
 rename_i h;exact .inr ⟨rfl,h⟩
def PatsW(w:World)(B:Nat)(v:Value)(l:List PatchM):Prop:=∃ xs:List LaidP,xs.map (·.p)=l∧GOwn encPat 4 44 w B v xs∧∀ x∈xs,GOwn encPid 2 25 w B x.dv x.p.deps∧GOwn encOp 8 76 w B x.ov x.p.ops
def sideOk(c:Nat):Bool:=decide (c=0) || decide (c=6)
def SideP(w:World)(o:Option PatchM)(c:Nat)(e:Ending)(w':World):Prop:=∃ v,e=.returned (.tuple #[v,.bool (sideOk c)])∧PatsW w' w.heap.size v o.toList∧Be w w'
attribute [local irreducible] planM planR recI depsM idsM linesM edgesM vecM nextF
theorem side_any(b:Nat)(L:List PatchM)(au:UInt8)(t:List FileM)(tv:Value)(w:World)(m:Nat)(hg:GrIs w b L)(hw:WfG L)(hil:(idsM L).length≤m)(hm:m*m+m*(m+120)+2000≤3900000)(hm1:1≤m)(hm2:m≤1000)(hel:(edgesM L).length≤1000000)(hll:∀ f,(linesM L f).length≤m)
  (ht:FRow w tv t) (hsz:SzT t) (htab:Tab w) :
  Calls Tryz.prog 74 #[.pointer (some ⟨b,0,none⟩),.int .u8 au.toNat,tv] w (SideP w (recI L t (nextF (vecM L) au)).1 (recI L t (nextF (vecM L) au)).2):=by
 have HRec:=Lh (precord_own b L au t tv w m hg hw hil hm hm1 hm2 hel hll ht hsz htab);obtain⟨id,hid⟩:∃ id,nextF (vecM L) au=id:=⟨_,rfl⟩;rw [hid] at HRec ⊢;clear hg hw hil hm hm1 hm2 hel hll ht hsz htab hid;go_enter Tryz.func74,Tryz.ntmps74;go_wp2_with fail;refine HRec.o.mono ?_;rintro e w1 h1;unfold RecOwn at h1;obtain⟨v1,rfl,hp1,hb1⟩:=h1;have hcs:=recI_cases L t id;generalize (recI L t id).1=o at *;generalize (recI L t id).2=c at *;rcases hcs with⟨p,rfl,rfl⟩|⟨rfl,hc⟩
 rotate_left
 ·
  have e1:v1=zPat:=hp1;subst e1;have HB1:=Lh hb1;have d0:((c:Int) != 0)=true:=by rw [bne_iff_ne];omega
  obtain⟨q,hq⟩:∃ q,((c:Int) == 6)=q:=⟨_,rfl⟩;have HQ:Hid (sideOk c=q):=Lh (by rw [← hq];unfold sideOk;rw [decide_eq_false hc,Bool.false_or,Bool.eq_iff_iff,decide_eq_true_eq,beq_iff_eq];omega);clear hp1 hb1 hc;go_wp2_with fail;refine bodyPost_ret (results_tmp2 rfl _ _ _) rfl ?_;unfold SideP;rw [HQ.o];exact⟨_,rfl,⟨[],rfl,gown_nil _ _,fun x hx=>absurd hx List.not_mem_nil⟩,bvo HB1.o (bnew (w:=w1) (.cells #[.int .u8 0,.int .u16 0,.slice none 0 0,.slice none 0 0] 44))⟩
 obtain⟨dv,ov,e1,hd,ho⟩:=hp1;obtain⟨pd,cd,ed⟩:=own_sl hd;obtain⟨po,co,eo⟩:=own_sl ho;subst ed eo;subst e1;have HD:=Lh hd;have HO:=Lh ho;obtain⟨nd,hnd⟩:∃ k,p.deps.length=k:=⟨_,rfl⟩;obtain⟨no,hno⟩:∃ k,p.ops.length=k:=⟨_,rfl⟩;rw [hnd] at HD;rw [hno] at HO;rw [hnd,hno];have HB1:=Lh hb1;clear hd ho hb1 hnd hno;unfold patV;go_upto_region 2 with fail;have HP:=Lh (anw w1 #[.int .u8 p.id.author.toNat,.int .u16 p.id.seq.toNat,.slice pd nd cd,.slice po no co] 44);have HBp:=Lh (bnew (w:=w1) (.cells #[.int .u8 p.id.author.toNat,.int .u16 p.id.seq.toNat,.slice pd nd cd,.slice po no co] 44));generalize w1.alloc (.cells #[.int .u8 p.id.author.toNat,.int .u16 p.id.seq.toNat,.slice pd nd cd,.slice po no co] 44)=w2 at *;have HB2:=Lh (bvo HB1.o HBp.o);obtain⟨p0,p1,p2,p3,sp⟩:=HP.o.c4;go_wp2_with fail;refine bodyPost_ret (results_tmp2 rfl _ _ _) rfl ?_;have HBq:=bnew (w:=w2) (.cells #[.int .u8 p.id.author.toNat,.int .u16 p.id.seq.toNat,.slice pd nd cd,.slice po no co] 44);unfold SideP;refine⟨_,rfl,⟨[⟨p,.slice pd nd cd,.slice po no co⟩],rfl,?_,?_⟩,bvo HB2.o HBq⟩
 · exact own_lit w2 44 [(⟨p,.slice pd nd cd,.slice po no co⟩:LaidP)] w.heap.size rfl (by show 1≤maxLen;decide) HB2.o.size
 intro x hx;rw [List.mem_singleton.1 hx];exact⟨(HD.o.over HBp.o).over HBq,(HO.o.over HBp.o).over HBq⟩
end Go.Proofs.YtjccmcgglfncdaaGreatDoor
