/- What is proved: PlanSays, for every input; of the listed tables the walk needs the powers of ten. -/
import Derived.Test.YtjccmcgglfncdaaGreatDoorPNsA
import Derived.Test.YtjccmcgglfncdaaGreatDoorPNmE
set_option linter.unusedVariables false
set_option linter.unusedSimpArgs false
set_option maxRecDepth 100000
set_option maxHeartbeats 40000000
namespace Go.Proofs.YtjccmcgglfncdaaGreatDoor
open Go Go.RowKit
section
variable{a:ByteArray}{L:List PatchM}{k:Nat}{b s y:TextL}
theorem bytesLess_iff:∀ a b:List UInt8,Op.bytesLess a b=true↔a<b
 | [],[]=>by simp [Op.bytesLess]
 | _ :: _,[]=>by simp [Op.bytesLess]
 | [],_ :: _=>by simp [Op.bytesLess]
 | a :: x,b :: y=>by rw [Op.bytesLess,List.cons_lt_cons_iff,← bytesLess_iff x y];simp
theorem less_t(h:a.data.toList<b):Op.bytesLess a.toList b=true:=by rw [ByteArray.toList_eq,bytesLess_iff];exact h
theorem less_f(h:¬ a.data.toList<b):Op.bytesLess a.toList b=false:=by rw [Bool.eq_false_iff,ne_eq,ByteArray.toList_eq,bytesLess_iff];exact h
theorem same_t{a:TextL}{b:ByteArray}(h:a=b.data.toList):(a == b.toList)=true:=by rw [ByteArray.toList_eq,h];simp
theorem same_f{a:TextL}{b:ByteArray}(h:¬ a=b.data.toList):(a == b.toList)=false:=by rw [ByteArray.toList_eq];exact beq_eq_false_iff_ne.2 h
theorem same_t'(h:b=a.data.toList):(a.toList == b)=true:=by rw [ByteArray.toList_eq,h];simp
theorem same_f'(h:¬ b=a.data.toList):(a.toList == b)=false:=by rw [ByteArray.toList_eq];exact beq_eq_false_iff_ne.2 fun q=>h q.symm
def restT(s:TextL):Bool→List TextL→List TextL
 | true,r=>r.filter fun y=>y≠s
 | false,[]=>[s]
 | false,y :: r=>if s<y then s :: y :: (r.filter fun z=>z≠s) else if y=s then s :: (r.filter fun z=>z≠s) else y :: restT s false r
def putT(s:TextL)(l:List TextL):List TextL:=restT s false l
theorem restT_true(s:TextL)(r:List TextL):restT s true r=r.filter (fun y=>y≠s):=by cases r <;> rfl
theorem restT_nil(s:TextL):restT s false []=[s]:=by simp [restT]
theorem restT_lt(h:s<y)(r:List TextL):restT s false (y :: r)=s :: y :: restT s true r:=by simp [restT,h]
theorem restT_eq(h:y=s)(r:List TextL):restT s false (y :: r)=s :: restT s true r:=by subst h;simp [restT,tl_irrefl]
theorem restT_gt(h1:¬ s<y)(h2:¬ y=s)(r:List TextL):restT s false (y :: r)=y :: restT s false r:=by simp [restT,h1,h2]
theorem restT_yes(h:¬ y=s)(r:List TextL):restT s true (y :: r)=y :: restT s true r:=by simp [restT,h]
theorem restT_no(h:y=s)(r:List TextL):restT s true (y :: r)=restT s true r:=by simp [restT,h]
theorem restT_end(s:TextL):restT s true []=[]:=by simp [restT]
theorem putT_spec(s:TextL):∀ {l:List TextL},RisesT l→RisesT (putT s l)∧∀ z,z∈putT s l↔z=s∨z∈l
 | [],_=>by simp [putT,restT,RisesT]
 | y :: l,h=>by
  obtain⟨h1,h2⟩:=List.pairwise_cons.1 h;unfold putT;rcases Classical.em (s<y) with hs|hs
  ·
   have hf:restT s true l=l:=(restT_true s l).trans (List.filter_eq_self.2 fun z hz=>by have:z≠s:=fun e=>tl_irrefl s (tl_trans hs (e▸h1 z hz));simpa using this);rw [restT_lt hs,hf];refine⟨List.pairwise_cons.2 ⟨fun z hz => ?_,h⟩,fun z=>by simp⟩;rcases List.mem_cons.1 hz with rfl|hz
   · exact hs
   exact tl_trans hs (h1 z hz)
  rcases Classical.em (y=s) with he|he
  · have hf:restT s true l=l:=(restT_true s l).trans (List.filter_eq_self.2 fun z hz=>by have:z≠s:=fun e=>tl_irrefl s (by have:=h1 z hz;rw [e,he] at this;exact this);simpa using this);rw [restT_eq he,hf];subst he;exact⟨h,fun z=>by simp⟩
  obtain⟨g1,g2⟩:=putT_spec s h2;unfold putT at g1 g2;rw [restT_gt hs he];refine⟨List.pairwise_cons.2 ⟨fun z hz => ?_,g1⟩,fun z => ?_⟩
  ·
   rcases (g2 z).1 hz with rfl|hz
   · exact tl_lt_of (tl_not.1 hs) he
   exact h1 z hz
  rw [List.mem_cons,g2 z,List.mem_cons];constructor
  ·
   rintro(h|h|h)
   · exact .inr (.inl h)
   · exact .inl h
   exact .inr (.inr h)
  rintro(h|h|h)
  · exact .inr (.inl h)
  · exact .inl h
  exact .inr (.inr h)
theorem drop_atT{xs:List TextL}(h:xs[k]? = some y):xs.drop k=y :: xs.drop (k+1):=drop_at h
def PtRel(w:World)(l:List TextL)(s:TextL)(v5 v6 v7:Value)(wr:World):Prop:=
 ∃(k:Nat) (M:List TextL) (t:Bool),k≤l.length∧v7=.int .i64 k∧v6=.bool t∧M.length≤k+t.toNat∧Hid (GOwn encT 1 9 wr w.heap.size v5 M)∧Hid (putT s l=M++restT s t (l.drop k))∧Be w wr
def SetOwnT(w:World)(xs:List TextL)(e:Ending)(w':World):Prop:=∃ u,e=.returned u∧GOwn encT 1 9 w' w.heap.size u xs∧Be w w'
attribute [local irreducible] restT putT
theorem rput24_any(v:Value)(l:List TextL)(s:ByteArray)(w:World)(hv:GRow encT 1 w v l)(hl:l.length≤1000000) :
  Calls Tryz.prog 98 #[v,.string s] w (SetOwnT w (putT s.data.toList l)):=by
 obtain⟨a,cap,rfl,h1,h2,hc⟩:=hv.at encT_len;unfold maxLen at h2;have HC:=Lh hc;clear hv hc;go_enter Tryz.func98,Tryz.ntmps98;go_wp2;go_loopw [5,6,7] (fun v5 v6 v7 wr=>PtRel w l s.data.toList v5 v6 v7 wr) (fun _ _ v7 _=>l.length - (intOf v7).toNat)
 case atStart=>exact⟨0,[],false,Nat.zero_le _,rfl,rfl,by simp,gown_nil _ _,(by show _=_;unfold putT;simp),Below.refl _ _⟩
 obtain⟨k,M,t,hk,rfl,rfl,hM,HM,HR,hbl⟩:=hrel;rename World=>wr;have htn:=Bool.toNat_le t;have hN:M.length+1≤1099511627776:=by omega
 have hB:=hbl.size
 by_cases hlt:k<l.length
 rotate_left
 ·
  have hke:k=l.length:=by omega
  subst hke;rw [List.drop_length] at HR;cases t with
  | true =>have HE:Hid (putT s.data.toList l=M):=(by show _=_;rw [HR.o,restT_end];simp);go_wp2;go_ret;exact⟨_,rfl,(by rw [HE.o];exact HM.o),hbl⟩
  | false =>have HE:Hid (putT s.data.toList l=M++[s.data.toList]):=(by show _=_;rw [HR.o,restT_nil]);go_wp2_with (at_builtin;refine apD slStrN rfl _ _ rfl w.heap.size _ _ (drf _) 1 _ _ _ HM.o rfl rfl rfl rfl hN (by decide) hB ?_;intro v2 w2 ho2 hg2);go_ret;exact⟨_,rfl,(by rw [HE.o];exact GOwn.snoc ho2),bgr hbl hB HM.o hg2⟩
 obtain⟨bo,oo,rfl,so,hcw⟩:=HC.o.resolve_left (by omega);obtain⟨y,hy⟩:=gol hlt;have HYa:Hid (∀ W,Be w W→W.cell? ⟨bo,oo+k,none⟩=some (.string ⟨y.toArray⟩)):=Lh fun W hW=>by have:=(hcw k y hy W hW).2 0 _ rfl;rw [Nat.mul_one,Nat.add_zero] at this;exact this
 have HR1:Hid (putT s.data.toList l=M++restT s.data.toList t (y :: l.drop (k+1))):=by show _=_;rw [← drop_atT hy];exact HR.o
 have y0:=HYa.o wr hbl;have so2:=hbl.size;clear hy hcw HR;cases t with
 | true =>
  have hM1:M.length≤k+1:=hM;rcases Classical.em (y=s.data.toList) with he|he
  ·
   have e1:(y == s.toList)=true:=same_t he;have HN:Hid (putT s.data.toList l=M++restT s.data.toList true (l.drop (k+1))):=(by show _=_;rw [HR1.o,restT_no he]);clear he;go_wp2;go_roundw
   case rel=>exact⟨k+1,M,true,hlt,by go_num,rfl,by simp;omega,HM,HN,hbl⟩
   simp [intOf];omega
  have e1:(y == s.toList)=false:=same_f he;have HN:Hid (putT s.data.toList l=(M++[y])++restT s.data.toList true (l.drop (k+1))):=by show _=_;rw [HR1.o,restT_yes he];simp
  clear he;go_wp2_with (at_builtin;refine apD slStrN rfl _ _ rfl w.heap.size _ _ (drf _) 1 _ _ _ HM.o rfl rfl rfl rfl hN (by decide) hB ?_;intro v2 w2 ho2 hg2);go_roundw
  case rel=>exact⟨k+1,M++[y],true,hlt,by go_num,rfl,by simp;omega,GOwn.snoc ho2,HN,bgr hbl hB HM.o hg2⟩
  simp [intOf];omega
 | false =>
  have hM0:M.length≤k:=hM;rcases Classical.em (s.data.toList<y) with hs|hs
  ·
   have he:¬ y=s.data.toList:=fun e=>tl_irrefl y (by rw [e] at hs;exact absurd hs (tl_irrefl _));have b1:Op.bytesLess s.toList y=true:=less_t hs;have e1:(y == s.toList)=false:=same_f he;have HN:Hid (putT s.data.toList l=(M++[s.data.toList]++[y])++restT s.data.toList true (l.drop (k+1))):=(by show _=_;rw [HR1.o,restT_lt hs];simp);have hN2:(M++[s.data.toList]).length+1≤1099511627776:=(by simp;omega);clear he hs;go_upto_region 9 with(at_builtin;refine apD slStrN rfl _ _ rfl w.heap.size _ _ (drf _) 1 _ _ _ HM.o rfl rfl rfl rfl hN (by decide) hB ?_;intro v2 w2 ho2 hg2)
   have HM2:Hid (GOwn encT 1 9 w2 w.heap.size v2 (M++[s.data.toList])):=GOwn.snoc ho2;have hb2:=bgr hbl hB HM.o hg2;have y2:=HYa.o w2 hb2;have hB2:=hb2.size;clear ho2 hg2 y0;go_wp2_with (at_builtin;refine apD slStrN rfl _ _ rfl w.heap.size _ _ (drf _) 1 _ _ _ HM2.o rfl rfl rfl rfl hN2 (by decide) hB2 ?_;intro v3 w3 ho3 hg3);go_roundw
   case rel=>exact⟨k+1,M++[s.data.toList]++[y],true,hlt,by go_num,rfl,by simp;omega,GOwn.snoc ho3,HN,bgr hb2 hB2 HM2.o hg3⟩
   simp [intOf];omega
  have b1:Op.bytesLess s.toList y=false:=less_f hs;rcases Classical.em (y=s.data.toList) with he|he
  ·
   have e1:(y == s.toList)=true:=same_t he;have e2:(s.toList == y)=true:=same_t' he;have HN:Hid (putT s.data.toList l=(M++[s.data.toList])++restT s.data.toList true (l.drop (k+1))):=(by show _=_;rw [HR1.o,restT_eq he];simp);clear he hs;go_upto_region 9 with(at_builtin;refine apD slStrN rfl _ _ rfl w.heap.size _ _ (drf _) 1 _ _ _ HM.o rfl rfl rfl rfl hN (by decide) hB ?_;intro v2 w2 ho2 hg2)
   have HM2:Hid (GOwn encT 1 9 w2 w.heap.size v2 (M++[s.data.toList])):=GOwn.snoc ho2;have hb2:=bgr hbl hB HM.o hg2;have y2:=HYa.o w2 hb2;clear ho2 hg2 y0;go_wp2;go_roundw
   case rel=>exact⟨k+1,M++[s.data.toList],true,hlt,by go_num,rfl,by simp;omega,HM2,HN,hb2⟩
   simp [intOf];omega
  have e1:(y == s.toList)=false:=same_f he;have e2:(s.toList == y)=false:=same_f' he;have HN:Hid (putT s.data.toList l=(M++[y])++restT s.data.toList false (l.drop (k+1))):=by show _=_;rw [HR1.o,restT_gt hs he];simp
  clear he hs;go_wp2_with (at_builtin;refine apD slStrN rfl _ _ rfl w.heap.size _ _ (drf _) 1 _ _ _ HM.o rfl rfl rfl rfl hN (by decide) hB ?_;intro v2 w2 ho2 hg2);go_roundw
  case rel=>exact⟨k+1,M++[y],false,hlt,by go_num,rfl,by simp;omega,GOwn.snoc ho2,HN,bgr hbl hB HM.o hg2⟩
  simp [intOf];omega
def aliveTo(L:List PatchM)(k:Nat):List VidM:=((filesM L).take k).filter fun f => !deadAt L f
theorem aliveTo_yes{u:VidM}(h:(filesM L)[k]? = some u)(hd:deadAt L u=false):aliveTo L (k+1)=aliveTo L k++[u]:=by unfold aliveTo;rw [take_succ' h,List.filter_append];simp [hd]
theorem aliveTo_no{u:VidM}(h:(filesM L)[k]? = some u)(hd:deadAt L u=true):aliveTo L (k+1)=aliveTo L k:=by unfold aliveTo;rw [take_succ' h,List.filter_append];simp [hd]
theorem aliveTo_len(L:List PatchM)(k:Nat):(aliveTo L k).length≤(filesM L).length:=Nat.le_trans (List.length_filter_le _ _) (by rw [List.length_take];omega)
def AvRelN(w2:World)(L:List PatchM)(v3 v5:Value)(wr:World):Prop:=∃ k:Nat,k≤(filesM L).length∧v5=.int .i64 k∧Hid (GOwn encVid 3 74 wr w2.heap.size v3 (aliveTo L k))∧Be w2 wr
theorem deadAt_eq{f:VidM}{x:Option VertM}{y:VertM}(h1:vertM L f=x)(h2:optV x=y):deadAt L f=y.dead:=by unfold deadAt;rw [h1];unfold optV at h2;rw [h2]
attribute [local irreducible] idsM vertM optV filesM aliveTo deadAt
theorem ralive24_any(gv:Value)(xs:List LaidP)(w:World)(hv:Pats w gv xs)(hn:xs.length≤300)(hl:∀ x∈xs,x.p.ops.length≤260)(hil:(idsM (patsOf xs)).length≤100000)(hvl:(vertsM (patsOf xs)).length≤100000) :
  Calls Tryz.prog 96 #[rgV gv] w (SetRes encVid 3 w (aliveTo (patsOf xs) (filesM (patsOf xs)).length)):=by
 have HL:=Lh hl;have HL4:Hid (∀ x∈xs,x.p.ops.length≤40000):=Lh fun x hx=>Nat.le_trans (hl x hx) (by omega);have HFl:=Lh (flTo_all (patsOf xs));have hfl:=filesM_len (patsOf xs);have HV:=Lh hv;obtain⟨a,cap,rfl,h1,h2,hc⟩:=hv.1.at encPat_len;unfold maxLen at h2;have HC:=Lh hc;have HG:=Lh (anw w #[.slice a xs.length cap] 34);have HB:=Lh (bnew (w:=w) (.cells #[.slice a xs.length cap] 34));clear hv hc hl;unfold rgV;go_enter Tryz.func96,Tryz.ntmps96;go_upto_region 1 with fail;generalize (w.alloc (.cells #[.slice a xs.length cap] 34))=w0 at *;obtain⟨g0,sg⟩:=HG.o.c1;have HV0:=Lh (HV.o.over HB.o);go_upto_region 3 with(first|(go_at_call 164;(with_reducible refine(rfiles20_any _ xs _ (HV0.o.over (Below.refl _ _)) hn HL.o hil hvl).mono ?_);rintro e w2 ⟨u2,rfl,hu2,hb2⟩))
 rw [HFl.o] at hu2;obtain⟨a3,cap3,rfl,t1,t2,hc3⟩:=hu2.at encVid_len;unfold maxLen at t2;have HC3:=Lh hc3;have HG2:=Lh (HG.o.over hb2);have HB2:=Lh (bvo HB.o hb2);have HV2:=Lh (HV.o.over HB2.o);clear hu2 hc3 hb2 g0 sg;go_wp2;go_loopw [3,5] (fun v3 v5 wr=>AvRelN w2 (patsOf xs) v3 v5 wr) (fun _ v5 _=>(filesM (patsOf xs)).length - (intOf v5).toNat)
 case atStart=>exact⟨0,by omega,rfl,(by show GOwn _ _ _ _ _ _ _;unfold aliveTo;simp only [List.take_zero,List.filter_nil];exact gown_nil _ _),Below.refl _ _⟩
 obtain⟨k,hk,rfl,HM,hbl⟩:=hrel;rename World=>wr;have hvl:=aliveTo_len (patsOf xs) k
 by_cases hlt:k<(filesM (patsOf xs)).length
 rotate_left
 ·
  obtain rfl:k=(filesM (patsOf xs)).length:=by omega
  have HE2:=Lh HM.o.row;clear HM;go_wp2;go_ret;exact⟨_,rfl,HE2.o,bvo HB2.o hbl⟩
 obtain⟨b3,off3,rfl,sb3,hcb⟩:=HC3.o.resolve_left (by omega);obtain⟨u,hu⟩:=gol hlt;have HX0:=Lh hu;have HUa:=Lh (hcb k u hu);have HU:=Lh (hcb k u hu wr hbl);obtain⟨u0,u1,u2,su⟩:=rc3 HU.o;have HGr:=Lh (HG2.o.over hbl);have HVr:=Lh (HV2.o.over hbl);obtain⟨g0,sg⟩:=HGr.o.c1;generalize hx:vertM (patsOf xs) u=x at *;have HX:=Lh hx;generalize hy:optV x=y at *;have HY:=Lh hy;have HDe:=Lh (deadAt_eq hx hy);clear hy hx hcb hu;go_upto_region 6 with fail;have HS:Hid (∀ w':World,Be wr w'→(w'.cell? ⟨w.heap.size,0,none⟩=some (.slice a xs.length cap)∧w'.cell? ⟨b3,off3+k*3,none⟩=some (.int .u8 u.pid.author.toNat)∧w'.cell? ⟨b3,off3+k*3+1,none⟩=some (.int .u16 u.pid.seq.toNat)∧w'.cell? ⟨b3,off3+k*3+2,none⟩=some (.int .u8 u.n.toNat)∧Be wr w')):=fun w' hb=>⟨(hb.cell (p:=⟨w.heap.size,0,none⟩) sg).trans g0,(hb.cell (p:=⟨b3,off3+k*3,none⟩) su).trans u0,(hb.cell (p:=⟨b3,off3+k*3+1,none⟩) su).trans u1,(hb.cell (p:=⟨b3,off3+k*3+2,none⟩) su).trans u2,hb⟩;go_cut [6] (fun s6 wx=>∃ g2,s6=.pointer (some ⟨g2,0,none⟩)∧Hid (Arr wx g2 [.int .u8 y.id.pid.author.toNat,.int .u16 y.id.pid.seq.toNat,.int .u8 y.id.n.toNat,.int .u8 y.kind.toNat,.int .u8 y.file.pid.author.toNat,.int .u16 y.file.pid.seq.toNat,.int .u8 y.file.n.toNat,.string y.text,.bool y.dead])∧Hid (Be wr wx)∧wr.heap.size≤g2)
 case first =>
  go_region_held3 (fun w'=>w'.cell? ⟨w.heap.size,0,none⟩=some (.slice a xs.length cap)∧w'.cell? ⟨b3,off3+k*3,none⟩=some (.int .u8 u.pid.author.toNat)∧w'.cell? ⟨b3,off3+k*3+1,none⟩=some (.int .u16 u.pid.seq.toNat)∧w'.cell? ⟨b3,off3+k*3+2,none⟩=some (.int .u8 u.n.toNat)∧Be wr w') ((refine HS.o _ ?_;(with_reducible (first|exact(Below.refl _ _).drew|exact HBk.o|exact HBk.o.alloc HBk.o.size _|exact((Below.refl wr.heap.size wr).alloc (Nat.le_refl _) _).drew|exact(((((((((HBk.o.setCell (p:=⟨wr.heap.size,0,none⟩) (Nat.le_refl _) (.int .u8 y.id.pid.author.toNat)).setCell (p:=⟨wr.heap.size,1,none⟩) (Nat.le_refl _) (.int .u16 y.id.pid.seq.toNat)).setCell (p:=⟨wr.heap.size,2,none⟩) (Nat.le_refl _) (.int .u8 y.id.n.toNat)).setCell (p:=⟨wr.heap.size,3,none⟩) (Nat.le_refl _) (.int .u8 y.kind.toNat)).setCell (p:=⟨wr.heap.size,4,none⟩) (Nat.le_refl _) (.int .u8 y.file.pid.author.toNat)).setCell (p:=⟨wr.heap.size,5,none⟩) (Nat.le_refl _) (.int .u16 y.file.pid.seq.toNat)).setCell (p:=⟨wr.heap.size,6,none⟩) (Nat.le_refl _) (.int .u8 y.file.n.toNat)).setCell (p:=⟨wr.heap.size,7,none⟩) (Nat.le_refl _) (.string y.text)).setCell (p:=⟨wr.heap.size,8,none⟩) (Nat.le_refl _) (.bool y.dead))))))
   (first|(go_at_call 131;refine(rvert20_any _ xs u _ (HVr.o.over (by first|exact(Below.refl _ _).drew|exact((Below.refl wr.heap.size wr).alloc (Nat.le_refl _) _).drew)) HL4.o).mono ?_;rintro e w7 ⟨rfl,hb⟩;rw [HX.o,HY.o];have HBk:Hid (Be wr w7):=(by show Be wr w7;with_reducible (first|exact bov (Below.refl wr.heap.size wr).drew (Nat.le_refl _) hb|exact bov (((Below.refl wr.heap.size wr).alloc (Nat.le_refl _) _).drew) (Below.size (((Below.refl wr.heap.size wr).alloc (Nat.le_refl _) _).drew)) hb));have HBb:=Lh hb;obtain⟨hcc,hff⟩:=bcell hb;clear hb))
  ·
   rename_i J K hJ hK hHeld;clear hHeld;refine hK _ _ (Met.intro (hJ _ _ ?_))
   (repeat apply Exists.intro)
   refine⟨?_,rfl⟩;exact⟨_,rfl,Lh (anw _ _ _),Lh (HBk.o.alloc HBk.o.size _),HBk.o.size⟩
  rename_i J K hJ hK hHeld;clear hHeld;refine hK _ _ (Met.intro (hJ _ _ ?_))
  (repeat apply Exists.intro)
  refine⟨?_,rfl⟩;have HZ:Hid (Arr w7 wr.heap.size [.int .u8 0,.int .u16 0,.int .u8 0,.int .u8 0,.int .u8 0,.int .u16 0,.int .u8 0,.string ⟨#[]⟩,.bool false]):=(((anw wr #[.int .u8 0,.int .u16 0,.int .u8 0,.int .u8 0,.int .u8 0,.int .u16 0,.int .u8 0,.string ⟨#[]⟩,.bool false] 101).drew).over HBb.o);exact⟨_,rfl,Lh (((((((((HZ.o.set 0 (.int .u8 y.id.pid.author.toNat)).set 1 (.int .u16 y.id.pid.seq.toNat)).set 2 (.int .u8 y.id.n.toNat)).set 3 (.int .u8 y.kind.toNat)).set 4 (.int .u8 y.file.pid.author.toNat)).set 5 (.int .u16 y.file.pid.seq.toNat)).set 6 (.int .u8 y.file.n.toNat)).set 7 (.string y.text)).set 8 (.bool y.dead)),Lh (((((((((HBk.o.setCell (p:=⟨wr.heap.size,0,none⟩) (Nat.le_refl _) (.int .u8 y.id.pid.author.toNat)).setCell (p:=⟨wr.heap.size,1,none⟩) (Nat.le_refl _) (.int .u16 y.id.pid.seq.toNat)).setCell (p:=⟨wr.heap.size,2,none⟩) (Nat.le_refl _) (.int .u8 y.id.n.toNat)).setCell (p:=⟨wr.heap.size,3,none⟩) (Nat.le_refl _) (.int .u8 y.kind.toNat)).setCell (p:=⟨wr.heap.size,4,none⟩) (Nat.le_refl _) (.int .u8 y.file.pid.author.toNat)).setCell (p:=⟨wr.heap.size,5,none⟩) (Nat.le_refl _) (.int .u16 y.file.pid.seq.toNat)).setCell (p:=⟨wr.heap.size,6,none⟩) (Nat.le_refl _) (.int .u8 y.file.n.toNat)).setCell (p:=⟨wr.heap.size,7,none⟩) (Nat.le_refl _) (.string y.text)).setCell (p:=⟨wr.heap.size,8,none⟩) (Nat.le_refl _) (.bool y.dead)),Nat.le_refl _⟩
 obtain⟨g2,rfl,HA2,HBx,hg2⟩:=hcut;rename World=>w8;have HM8:=Lh (HM.o.over HBx.o);have hb8:=bvo hbl HBx.o;have hB8:=hb8.size;have hN8:(aliveTo (patsOf xs) k).length+1≤1099511627776:=by omega
 clear u0 u1 u2 su g0 sg HS HM HGr;have HU8:=Lh (HUa.o w8 hb8);obtain⟨z0,z1,z2,sz⟩:=rc3 HU8.o;obtain⟨y0,y1,y2,y3,y4,y5,y6,y7,y8,sy⟩:=HA2.o.c9;cases hd:y.dead with
 | true =>
  have HN:=Lh (aliveTo_no HX0.o (HDe.o.trans hd));rw [hd] at y8;clear hd;go_wp2;go_roundw
  case rel=>exact⟨k+1,hlt,by go_num,(by show GOwn _ _ _ _ _ _ _;rw [HN.o];exact HM8.o),hb8⟩
  simp [intOf];omega
 | false =>
  have HN:=Lh (aliveTo_yes HX0.o (HDe.o.trans hd));rw [hd] at y8;clear hd;go_wp2_with (at_builtin;refine apD slVid rfl _ _ rfl w2.heap.size _ _ (drf _) 1 _ _ _ HM8.o rfl rfl rfl rfl hN8 (by decide) hB8 ?_;intro v9 w9 ho9 hg9);go_roundw
  case rel=>exact⟨k+1,hlt,by go_num,(by show GOwn _ _ _ _ _ _ _;rw [HN.o];exact GOwn.snoc ho9),bgr hb8 hB8 HM8.o hg9⟩
  simp [intOf];omega
end
def alsoTo(l:List VertM)(t:ByteArray)(k:Nat):List TextL:=((l.take k).filter fun x=>decide (x.text≠t)).foldl (fun out x=>putT x.text.data.toList out) []
theorem alsoTo_yes{l:List VertM}{k:Nat}{u:VertM}{t:ByteArray}(h:l[k]? = some u)(hd:¬ u.text=t):alsoTo l t (k+1)=putT u.text.data.toList (alsoTo l t k):=by unfold alsoTo;rw [take_succ' h,List.filter_append,List.foldl_append];simp [hd]
theorem alsoTo_no{l:List VertM}{k:Nat}{u:VertM}{t:ByteArray}(h:l[k]? = some u)(hd:u.text=t):alsoTo l t (k+1)=alsoTo l t k:=by unfold alsoTo;rw [take_succ' h,List.filter_append];simp [hd]
theorem foldT_spec:∀(l:List VertM) (out:List TextL),RisesT out→RisesT (l.foldl (fun out x=>putT x.text.data.toList out) out)∧∀ z,z∈l.foldl (fun out x=>putT x.text.data.toList out) out↔z∈out∨∃ x∈l,z=x.text.data.toList
 | [],out,h=>⟨h,fun z=>by simp⟩
 | x :: l,out,h=>by
  obtain⟨p1,p2⟩:=putT_spec x.text.data.toList h;obtain⟨h1,h2⟩:=foldT_spec l (putT x.text.data.toList out) p1;refine⟨h1,fun z => ?_⟩;rw [List.foldl_cons,h2 z,p2 z];constructor
  ·
   rintro((h|h)|⟨y,hy,h⟩)
   · exact .inr ⟨x,List.mem_cons_self ..,h⟩
   · exact .inl h
   exact .inr ⟨y,List.mem_cons_of_mem _ hy,h⟩
  rintro(h|⟨y,hy,h⟩)
  · exact .inl (.inr h)
  rcases List.mem_cons.1 hy with rfl|hy
  · exact .inl (.inl h)
  exact .inr ⟨y,hy,h⟩
theorem alsoTo_all(l:List VertM)(t:ByteArray):alsoTo l t l.length=alsoM l t:=by
 obtain⟨h1,h2⟩:=alsoM_spec l t;obtain⟨g1,g2⟩:=foldT_spec (l.filter fun x=>decide (x.text≠t)) [] List.Pairwise.nil;unfold alsoTo;rw [List.take_length];refine risesT_ext g1 h1 fun z => ?_;rw [g2 z,h2 z];unfold othersM;rw [List.mem_map];constructor
 ·
  rintro(h|⟨x,hx,h⟩)
  · cases h
  exact⟨x,hx,h.symm⟩
 rintro⟨x,hx,h⟩;exact .inr ⟨x,hx,h.symm⟩
theorem alsoTo_one(x:VertM)(l:List VertM):alsoTo (x :: l) x.text 1=[]:=by simp [alsoTo]
theorem alsoTo_len(l:List VertM)(t:ByteArray)(k:Nat):(alsoTo l t k).length≤k:=by
 have:∀(l:List VertM) (out:List TextL),(l.foldl (fun out x=>putT x.text.data.toList out) out).length≤out.length+l.length:=by
  intro l;induction l with
  | nil=>intro out;simp
  | cons x l ih =>
   intro out;have h1:=ih (putT x.text.data.toList out);have h2:∀(s:TextL) (t:Bool) (r:List TextL),(restT s t r).length≤r.length+1:=by
    intro s t r;induction r generalizing t with
    | nil=>cases t <;> simp [restT]
    | cons y r ihr =>
     cases t with
     | true =>have:=List.length_filter_le (fun y=>decide (y≠s)) (y :: r);simp only [restT];omega
     | false =>
      have hf:=List.length_filter_le (fun z=>decide (z≠s)) r;have:=ihr false;simp only [restT];split
      · simp only [List.length_cons];omega
      split
      · simp only [List.length_cons];omega
      simp only [List.length_cons];omega
   have h3:=h2 x.text.data.toList false out;simp only [List.foldl_cons,List.length_cons];unfold putT at h1 ⊢;omega
 have h:=this ((l.take k).filter fun x=>decide (x.text≠t)) [];unfold alsoTo;refine Nat.le_trans h ?_;have:=List.length_filter_le (fun x=>decide (x.text≠t)) (l.take k);rw [List.length_take] at this;simp only [List.length_nil];omega
def firstIs(L:List PatchM)(t:ByteArray)(f:VidM):Bool:=match namesM L f with|y :: _=>decide (y.text=t)|[]=>false
def nmR(L:List PatchM)(pre:List VidM)(f:VidM):NameM:=match namesM L f with
 | []=>⟨f,tilde++textB f,[],[3]⟩
 | x :: l=>⟨f,if pre.any (firstIs L x.text)=true then x.text++(tilde++textB f) else x.text,alsoM (x :: l) x.text,(if(alsoM (x :: l) x.text).length=0 then [] else [2])++(if pre.any (firstIs L x.text)=true then [4] else [])⟩
def allR(L:List PatchM):List VidM→List VidM→List NameM
 | _,[]=>[]
 | pre,f :: r=>nmR L pre f :: allR L (pre++[f]) r
theorem allR_snoc(L:List PatchM)(f:VidM):∀ r pre:List VidM,allR L pre (r++[f])=allR L pre r++[nmR L (pre++r) f]
 | [],pre=>by simp [allR]
 | g :: r,pre=>by rw [List.cons_append,allR,allR,allR_snoc L f r (pre++[g])];simp
theorem any_count(L:List PatchM)(t:ByteArray)(fs:List VidM):fs.any (firstIs L t)=true↔0<(fs.filter (firstIs L t)).length:=by
 rw [List.any_eq_true,List.length_pos_iff_exists_mem];constructor
 · rintro⟨x,h1,h2⟩;exact⟨x,List.mem_filter.2 ⟨h1,h2⟩⟩
 rintro⟨x,h⟩;exact⟨x,(List.mem_filter.1 h).1,(List.mem_filter.1 h).2⟩
theorem allTo_ref(L:List PatchM):∀ k,k≤(filesM L).length→(allTo L k).1=allR L [] (aliveTo L k)∧∀ t,(allTo L k).2 t=((aliveTo L k).filter (firstIs L t)).length
 | 0,_=>⟨by simp [allTo_zero,aliveTo,allR],fun t=>by simp [allTo_zero,aliveTo]⟩
 | k+1,hk=>by
  obtain⟨h1,h2⟩:=allTo_ref L k (by omega);have hf:=List.getElem?_eq_getElem (l:=filesM L) (i:=k) (by omega);rw [allTo_succ hf];cases hd:deadAt L (filesM L)[k] with
  | true =>unfold stepN;rw [if_pos hd,aliveTo_no hf hd];exact⟨h1,h2⟩
  | false =>
   unfold stepN;rw [if_neg (by simp [hd]),aliveTo_yes hf hd];constructor
   ·
    show(allTo L k).1++_=_;rw [allR_snoc,h1,List.nil_append];congr 2;unfold nmR;cases hn:namesM L (filesM L)[k] with
    | nil=>rfl
    | cons x l =>
     simp only [nameOne];have e:(1<(allTo L k).2 x.text+1)↔(aliveTo L k).any (firstIs L x.text)=true:=by rw [any_count,← h2];omega
     by_cases h:(aliveTo L k).any (firstIs L x.text)=true
     · rw [if_pos (e.2 h),if_pos h,if_pos (e.2 h),if_pos h]
     rw [if_neg (fun q=>h (e.1 q)),if_neg h,if_neg (fun q=>h (e.1 q)),if_neg h]
   intro t;rw [List.filter_append,List.length_append,← h2 t];cases hn:namesM L (filesM L)[k] with
   | nil=>simp [bumpL,firstIs,hn]
   | cons x l =>
    simp only [bumpL];unfold bumpT
    by_cases hx:t=x.text
    · subst hx;simp [firstIs,hn]
    rw [if_neg hx];have:firstIs L t (filesM L)[k]=false:=by simp [firstIs,hn];exact fun e=>hx e.symm
    simp [this]
theorem allM_ref(L:List PatchM):allM L=allR L [] (aliveTo L (filesM L).length):=(allTo_ref L _ (Nat.le_refl _)).1
end Go.Proofs.YtjccmcgglfncdaaGreatDoor
