/- What is proved: MergeTurns, for every input; of the listed tables the walk needs the powers of ten. -/
import Derived.Test.YtjccmcgglfncdaaGreatDoorURchA
import Derived.Test.YtjccmcgglfncdaaGreatDoorULcsC
import Derived.Test.YtjccmcgglfncdaaGreatDoorUSomeB
set_option linter.unusedVariables false
set_option linter.unusedSimpArgs false
set_option maxRecDepth 100000
set_option maxHeartbeats 40000000
namespace Go.Proofs.YtjccmcgglfncdaaGreatDoor
open Go Go.RowKit
section
variable{L:List (Nat × Nat)}{FS ws:List Nat}{N b base i k m n r:Nat}{s:Nat × Nat}{B:Nat→Nat × Nat}{P:Nat→Nat→Prop}{w w':World}
theorem encPr_len(p:Nat × Nat):(encP p).length=2:=rfl
theorem slIntI:SlT Tryz.prog 160 3 1 8:=slT_of Tryz.underlying160 (by kernel_rfl) (by decide)
def relF(FS:List Nat)(B:Nat→Nat × Nat):Int→Option (Option Nat):=fun x:Int=>if 0≤x∧x.toNat∈FS then some (some (B x.toNat).1) else none
theorem RelW.mapF(h:RelW w r n m N base FS B P):TMap Tryz.prog 3 numV okInt ptrV w m N (relF FS B):=h.map
theorem relF_yes(hi:i∈FS):ptrV ((relF FS B (i:Int)).getD none)=.pointer (some ⟨(B i).1,0,none⟩):=by unfold relF;simp only [Int.natCast_nonneg,Int.toNat_natCast,hi,and_self,if_true,Option.getD_some,ptrV]
theorem relF_no(hi:i ∉ FS):ptrV ((relF FS B (i:Int)).getD none)=.pointer none:=by unfold relF;simp only [Int.toNat_natCast,hi,and_false,if_false,Option.getD_none,ptrV]
theorem own_int{B off cap x:Nat}{xs:List Nat}{e:TypeId}(h:GOwn encI 1 e w B (.slice (some ⟨b,off,none⟩) n cap) xs)(hx:xs[k]? = some x):b<w.heap.size∧w.cell? ⟨b,off+k,none⟩=some (.int .i64 x):=by
 obtain⟨a,cap',e1,_,_,hc⟩:=h.row.at encI_len;have hlt:=(List.getElem?_eq_some_iff.1 hx).1;cases e1
 rcases hc with h0|⟨b',off',e2,hb,hcell⟩
 · omega
 cases e2
 have:=(hcell k x hx w (Below.refl _ _)).2 0 _ rfl;rw [Nat.mul_one,Nat.add_zero] at this;exact⟨hb,this⟩
theorem own_kept{α:Type}{enc:α→List Value}{sz:Nat}{e:TypeId}{B g:Nat}{v:Value}{xs:List α}(h:GOwn enc sz e w B v xs)(hg:w.grownBy w' (some g))(hn:some g≠v.ownBlock):GOwn enc sz e w' B v xs:=own_grown h hg (.inr fun q=>hn q.symm)
theorem mem_take_succ{x:Nat × Nat}(h:L[k]? = some s):x∈L.take (k+1)↔x∈L.take k∨x=s:=by rw [take_one h];simp
theorem fs_in(h:L[k]? = some s)(hF:∀ i,i∈FS↔∃ j,(i,j)∈L.take k)(hi:s.1∈FS):∀ i,i∈FS↔∃ j,(i,j)∈L.take (k+1):=fun i=>by
 rw [hF i];constructor
 · rintro⟨j,hj⟩;exact⟨j,(mem_take_succ h).2 (.inl hj)⟩
 ·
  rintro⟨j,hj⟩;rcases (mem_take_succ h).1 hj with hj|rfl
  · exact⟨j,hj⟩
  · exact(hF i).1 hi
theorem fs_out(h:L[k]? = some s)(hF:∀ i,i∈FS↔∃ j,(i,j)∈L.take k):∀ i,i∈FS++[s.1]↔∃ j,(i,j)∈L.take (k+1):=fun i=>by
 rw [List.mem_append,List.mem_singleton,hF i];constructor
 ·
  rintro(⟨j,hj⟩|rfl)
  · exact⟨j,(mem_take_succ h).2 (.inl hj)⟩
  · exact⟨s.2,(mem_take_succ h).2 (.inr rfl)⟩
 ·
  rintro⟨j,hj⟩;rcases (mem_take_succ h).1 hj with hj|rfl
  · exact .inl ⟨j,hj⟩
  · exact .inr rfl
theorem RelW.putTo{a:Nat}{e:Ending}(h:RelW w r n m N base FS B (fun i j=>(i,j)∈L.take k))(hi:a∈FS)(hs:L[k]? = some (a,b))(hb:b<n)
  (hws:∀ j,bitW ws j=true↔(a,j)∈L.take k) (hp:PutRes (B a).1 (B a).2 n b ws w e w'):(∃ ok:Bool,e=.returned (.bool ok))∧RelW w' r n m N base FS B (fun i j=>(i,j)∈L.take (k+1))∧w.grownBy w' (some (B a).2):=by
 obtain⟨ok,ws',rfl,h1,h2,h3,h4,_⟩:=hp;refine⟨⟨ok,rfl⟩,h.turn hi h1 h2 h4 (fun j => ?_) (fun i' _ hne j => ?_),h4⟩
 · rw [h3,Bool.or_eq_true,hws,mem_take_succ hs];simp [hb]
 rw [mem_take_succ hs];simp [hne]
def OfRel(w:World)(r n m:Nat)(L:List (Nat × Nat))(v6 v22:Value)(wr:World):Prop:=
 ∃(k N:Nat) (FS:List Nat) (B:Nat→Nat × Nat),k≤L.length∧v22=.int .i64 k∧N≤k∧Hid (RelW wr r n m N m FS B (fun i j=>(i,j)∈L.take k))∧Hid (GOwn encI 1 3 wr m v6 FS) ∧
  Hid (∀ i,i∈FS↔∃ j,(i,j)∈L.take k)∧Hid FS.Nodup∧FS.length≤k∧Hid (Be w wr)
def WhRel(w:World)(r n m N:Nat)(FS:List Nat)(B:Nat→Nat × Nat)(L:List (Nat × Nat))(v6:Value)(v72:Value)(wr:World):Prop:=
 ∃ t:Nat,t≤FS.length∧v72=.int .i64 t∧Hid (RelW wr r n m N m FS B (PVia L FS t 0))∧Hid (GOwn encI 1 3 wr m v6 FS)∧Hid (Be w wr)
def WiRel(w:World)(r n m N t:Nat)(FS:List Nat)(B:Nat→Nat × Nat)(L:List (Nat × Nat))(v6:Value)(v78:Value)(wr:World):Prop:=
 ∃ u:Nat,u≤FS.length∧v78=.int .i64 u∧Hid (RelW wr r n m N m FS B (PVia L FS t u))∧Hid (GOwn encI 1 3 wr m v6 FS)∧Hid (Be w wr)
theorem RelW.orTo{t u:Nat}{e:Ending}{wt:List Nat}(hnd:FS.Nodup)(h:RelW w r n m N base FS B (PVia L FS t u))(hi:i∈FS)(hu:FS[u]? = some i)(ht:FS[t]? = some k)
  (hk:SetOk n ws) (kt:SetOk n wt) (hws:∀ j,bitW ws j=true↔PVia L FS t u i j) (hwt:∀ j,bitW wt j=true↔PVia L FS t u k j) (hbit:bitW ws k=true) (hp:OrRes (B i).1 (B i).2 n ws wt w e w') :
  (∃ ok:Bool,e=.returned (.bool ok))∧RelW w' r n m N base FS B (PVia L FS t (u+1))∧w.grownBy w' (some (B i).2):=by obtain⟨more,rfl,h1,h2⟩:=hp;refine⟨⟨more,rfl⟩,h.turn hi h1 (hk.or kt) h2 (fun j => ?_) (fun i' _ hne j=>pvia_other hu hne),h2⟩;have hb1:=(pvia_at hnd hu).1 ((hws k).1 hbit);rw [bit_or (by rw [hk.len,kt.len]),Bool.or_eq_true,hws,hwt,pvia_at hnd hu,pvia_self ht,pvia_next hu ht];exact⟨fun q=>q.elim .inl fun q=>.inr ⟨hb1,q⟩,fun q=>q.elim .inl fun q=>.inr q.2⟩
theorem RelW.orNo{t u:Nat}(hnd:FS.Nodup)(h:RelW w r n m N base FS B (PVia L FS t u))(hu:FS[u]? = some i)(ht:FS[t]? = some k)
  (hws:∀ j,bitW ws j=true↔PVia L FS t u i j) (hbit:bitW ws k=false):RelW w r n m N base FS B (PVia L FS t (u+1)):=by
 refine h.congr fun i' _ j => ?_
 by_cases hne:i'=i
 · subst hne;rw [pvia_at hnd hu,pvia_next hu ht];refine⟨.inl,fun q=>q.elim id fun q => ?_⟩;have:=(hws k).2 ((pvia_at hnd hu).2 q.1);rw [hbit] at this;cases this
 exact pvia_other hu hne
theorem encW_inj:∀(x y:List Nat),encW x=encW y→x=y
 | [],[],_=>rfl
 | [],_ :: _,h=>by unfold encW at h;simp at h
 | _ :: _,[],h=>by unfold encW at h;simp at h
 | a :: x,b :: y,h=>by unfold encW at h;simp only [List.map_cons,List.cons.injEq,Value.int.injEq,true_and] at h;rw [encW_inj x y h.2,Int.ofNat_inj.1 h.1]
theorem RelW.with'(h:RelW w r n m N base FS B P)(hi:i∈FS)(hk:k∈FS){wt:List Nat}(s:SetAt w (B i).1 (B i).2 n ws)(s':SetAt w (B k).1 (B k).2 n wt):OrWith (B i).1 (B i).2 (B k).1 (B k).2 ws wt:=by
 by_cases he:i=k
 · subst he;refine .inl ⟨rfl,rfl,?_⟩;have hh:=s.words.det s'.words;exact(encW_inj _ _ hh).symm
 exact .inr ⟨fun e=>h.apart k hk i hi (fun q=>he q.symm) e,s'.head_words s,s.head_words s'⟩
theorem RelW.keptLow(h:RelW w r n m N base FS B P)(hg:w.grownBy w' (some k))(hk:k<base):RelW w' r n m N base FS B P:=
 ⟨h.arrT.kept hg (fun e=>by cases e;have:=h.low.1;omega),h.map.kept hg (fun e=>by cases e;have:=h.low.2.1;omega),fun i hi=>by obtain⟨ws,s1,s2⟩:=h.sets i hi;exact⟨ws,s1.grown hg (fun e=>by cases e;have:=(h.low.2.2 i hi).1;omega) (fun e=>by cases e;have:=(h.low.2.2 i hi).2;omega),s2⟩,h.apart,h.low⟩
def RchRes(w:World)(n:Nat)(L:List (Nat × Nat))(e:Ending)(w':World):Prop:=∃ r,e=.returned (.pointer (some ⟨r,0,none⟩))∧w.heap.size≤r∧RelAt w' r n L∧(∀(w2:World) (k:Nat),k<w.heap.size→w'.grownBy w2 (some k)→RelAt w2 r n L)∧Be w w'
theorem rel_start(n:Nat):RelW ((w.alloc (.map #[] 0)).alloc (.cells #[.int .i64 n,.map (some w.heap.size)] 226)) (w.heap.size+1) n w.heap.size 0 w.heap.size [] (fun _=>(0,0)) (fun i j=>(i,j)∈([]:List (Nat × Nat)).take 0):=by
 have e1:(w.alloc (.map #[] 0)).heap.size=w.heap.size+1:=by simp
 refine⟨?_,?_,fun i hi=>absurd hi List.not_mem_nil,fun i hi=>absurd hi List.not_mem_nil,by omega,Nat.le_refl _,fun i hi=>absurd hi List.not_mem_nil⟩
 · have:=arrT_new (w.alloc (.map #[] 0)) [.int .i64 n,.map (some w.heap.size)] 226;rw [e1] at this;exact this
 refine TMap.congr (f:=fun _=>none) ?_ (fun x _=>by simp);exact(TMap.made w).over (bnew _)
theorem RelW.addF{w'':World}{g:Nat}(h:RelW w r n m N base FS B P)(hi:i ∉ FS)(hP:∀ j,¬ P i j)(hn:n≤65536)
  (hb:Be w w') (hB:base≤w.heap.size) (hbb:w.heap.size≤b) (hgg:w.heap.size≤g) (hs:SetAt w' b g n (zerosW n))
  (hm:TMap Tryz.prog 3 numV okInt ptrV w'' m (N+1) (updM (relF FS B) (i:Int) (some b))) (hg:w'.grownBy w'' (some m)) :
  RelW w'' r n m (N+1) base (FS++[i]) (fun x=>if x=i then(b,g) else B x) P:=h.add hi hP hn hb hB hbb hgg hs hm hg
attribute [local irreducible] relF
theorem rchOf_any(n:Nat)(v:Value)(L:List (Nat × Nat))(w:World)(hv:GRow encP 2 w v L)(hL:∀ s∈L,s.1<n∧s.2<n)(hn:n≤65536)(hl:L.length≤1000000) :
  Calls Tryz.prog 92 #[.int .i64 n,v] w (RchRes w n L):=by
 have hmm:=@run_makeMap Tryz.prog;have emin:min (n:Int) 65536=(n:Int):=by omega
 have emax:max (n:Int) 0=(n:Int):=by omega
 obtain⟨a0,cap,rfl,h1,h2,hc⟩:=hv.at encPr_len;unfold maxLen at h2;have HC:=Lh hc;have HL:=Lh hL;have HST:=Lh (rel_start (w:=w) n);have HB0:=Lh ((bnew (w:=w) (.map #[] 0)).alloc (by simp) (.cells #[.int .i64 n,.map (some w.heap.size)] 226));clear hv hc hL;go_enter Tryz.func92,Tryz.ntmps92;go_upto_region 3 with fail;clear hmm;obtain⟨m,hm⟩:∃ m,m=w.heap.size:=⟨_,rfl⟩;obtain⟨r,hr⟩:∃ r,r=w.heap.size+1:=⟨_,rfl⟩;rw [← hr,← hm];rw [← hr,← hm] at HST;rw [← hm] at HB0;generalize (w.alloc (.map #[] 0)).alloc (.cells #[.int .i64 n,.map (some m)] 226)=w0 at *;clear emin emax;rw [hm] at HB0;have hrl:w.heap.size≤r:=by omega
 have hml:w.heap.size≤m:=by omega
 clear hr hm;go_wp2;go_loopw [6,22] (fun v6 v22 wr=>OfRel w r n m L v6 v22 wr) (fun _ v22 _=>L.length - (intOf v22).toNat)
 case atStart=>exact⟨0,0,[],fun _=>(0,0),by omega,rfl,by omega,Lh (by rw [List.take_zero];exact HST.o),gown_nil _ _,Lh (fun i=>by simp),List.nodup_nil,by simp,HB0⟩
 obtain⟨k,N,FS,B,hk,rfl,hN,HR,HF,HI,HD,hfk,HB⟩:=hrel
 by_cases hlt:k<L.length
 rotate_left
 ·
  obtain rfl:k=L.length:=by omega
  obtain⟨a6,cap6,rfl,g1,g2,_⟩:=HF.o.row.at encI_len;unfold maxLen at g2;have HE:=HR.o;rw [List.take_length] at HE;have HI2:=HI.o;rw [List.take_length] at HI2;have HII:=Lh HI2;have HR2:Hid (RelW _ r n m N m FS B (PVia L FS 0 0)):=HE.congr (fun i _ j=>pvia_start);clear HE HR HI HI2;go_wp2;go_loopw [72] (fun v72 wq=>WhRel w r n m N FS B L (.slice a6 FS.length cap6) v72 wq) (fun v72 _=>FS.length - (intOf v72).toNat)
  case atStart=>exact⟨0,by omega,rfl,HR2,HF,HB⟩
  obtain⟨t,ht,rfl,HRo,HFo,HBo⟩:=hrel;rename World=>wo
  by_cases htl:t<FS.length
  rotate_left
  · obtain rfl:t=FS.length:=(by omega);have HRz:Hid (RelW wo r n m N m FS B (Lead L)):=HRo.o.congr (fun i hi j=>pvia_end (fun s hs=>(HII.o s.1).2 ⟨s.2,hs⟩));go_wp2;go_ret;exact⟨r,rfl,hrl,⟨hn,HL.o,m,N,m,FS,B,HRz.o,HII.o⟩,fun w2 k hk hg=>⟨hn,HL.o,m,N,m,FS,B,HRz.o.keptLow hg (by omega),HII.o⟩,HBo.o⟩
  obtain⟨kk,hkk⟩:=gol htl;obtain⟨a7,c7,e7,_,_,hc7⟩:=HFo.o.row.at encI_len;cases e7
  obtain⟨b6,off6,rfl,_,_⟩:=hc7.resolve_left (by omega);have HKK:=Lh hkk;have q0:=(own_int HFo.o hkk).2;have sq:=(own_int HFo.o hkk).1;clear hkk hc7;go_wp2_with fail;clear q0 sq;go_hide hQ;go_loopw [78] (fun v78 wi=>WiRel w r n m N t FS B L (.slice (some ⟨b6,off6,none⟩) FS.length cap6) v78 wi) (fun v78 _=>FS.length - (intOf v78).toNat)
  case atStart=>exact⟨0,by omega,rfl,HRo,HFo,HBo⟩
  obtain⟨u,hu,rfl,HRi,HFi,HBi⟩:=hrel;rename World=>wi
  by_cases hul:u<FS.length
  rotate_left
  ·
   obtain rfl:u=FS.length:=(by omega);have HRz:Hid (RelW wi r n m N m FS B (PVia L FS (t+1) 0)):=HRi.o.congr (fun i hi j=>pvia_row hi);go_wp2;subst hQ;go_wp2;go_roundw
   case rel=>exact⟨t+1,htl,by go_num,HRz,HFi,HBi⟩
   simp [intOf];omega
  obtain⟨i,hi⟩:=gol hul;have HI3:=Lh hi;have him:i∈FS:=List.mem_of_getElem? hi;have hkm:kk∈FS:=List.mem_of_getElem? HKK.o;have q0:=(own_int HFi.o hi).2;have sq:=(own_int HFi.o hi).1;obtain⟨ws,s1,s2,s3⟩:=HRi.o.sets i him;obtain⟨wt,t1,t2,t3⟩:=HRi.o.sets kk hkm;have HS1:=Lh s1;have HS2:=Lh s2;have HS3:=Lh s3;have HT1:=Lh t1;have HT2:=Lh t2;have HT3:=Lh t3;obtain⟨j1,hj1⟩:=(HII.o kk).1 hkm;obtain⟨j2,hj2⟩:=(HII.o i).1 him;have hkn:kk<n:=(HL.o _ hj1).1;have hin:i<n:=(HL.o _ hj2).1;have HOi:=Lh (ok_int (i:=i) (by omega));have HOk:=Lh (ok_int (i:=kk) (by omega));have HLKi:=Lh (relF_yes (B:=B) him);have HLKk:=Lh (relF_yes (B:=B) hkm);have HMI:=Lh (And.intro him hkm);have r1:=HRi.o.arr.k 1 rfl;have sr:=HRi.o.arr.lt;clear hi s1 s2 s3 t1 t2 t3 hj1 hj2 him hkm;cases hb:bitW ws kk with
  | true =>
   have HV:=Lh (has_yes hkn hb);have HBt:=Lh hb;clear hb;go_wp2_with (refine wpList_tlookV keysInt ptrV_inj rfl _ _ _ rfl Tryz.underlying224 none (zero_ptr _) m N (relF FS B) rfl HRi.o.mapF (i:Int) rfl HOi.o _ HLKi.o ?_);refine(mhas_any (B i).1 (B i).2 n kk ws _ HS1.o HS2.o).mono ?_;rintro e w1 ⟨rfl,hw⟩;obtain rfl:=hw.symm;rw [HV.o];go_wp2_with fail;refine wlo 12 fun hcur=>?_;(repeat(first|(refine lxs rfl rfl ?_;simp only [Act.put,Sib,Scs,Scz])|((with_reducible refine lex_tlook keysInt ptrV_inj rfl _ _ _ rfl rfl Tryz.underlying224 none zero_ptr m N (relF FS B) rfl (fun w' hw'=>HRi.o.mapF.over (isOver_below hw')) (i:Int) rfl HOi.o _ HLKi.o ?_);simp only [Act.put,Sib,Scs,Scz])|((with_reducible refine lex_tlook keysInt ptrV_inj rfl _ _ _ rfl rfl Tryz.underlying224 none zero_ptr m N (relF FS B) rfl (fun w' hw'=>HRi.o.mapF.over (isOver_below hw')) (kk:Int) rfl HOk.o _ HLKk.o ?_);simp only [Act.put,Sib,Scs,Scz])|(refine lxo rfl ?_;go_big_quiet_step (fail);refine wpQuiet_nil ?_)|(refine lxl rfl ?_;go_wp2_with (first|fail);refine⟨iov hcur,?_⟩)));refine lxe ?_;clear hcur r1 sr;have HRq:=Lh (HRi.o.over (Below.refl wi.heap.size wi).drew);have HFq:=Lh (HFi.o.over (Below.refl wi.heap.size wi).drew);have HBq:=Lh (HBi.o.drew);have HS1q:=Lh (HS1.o.over (Below.refl wi.heap.size wi).drew);have HT1q:=Lh (HT1.o.over (Below.refl wi.heap.size wi).drew);clear HS1 HT1;generalize wi.drew=wq at *;clear HRi HFi HBi;go_wp2_with fail;refine(mor_any (B i).1 (B i).2 (B kk).1 (B kk).2 n ws wt _ HS1q.o HS2.o HT1q.o HT2.o (HRq.o.with' HMI.o.1 HMI.o.2 HS1q.o HT1q.o)).mono ?_;intro e wz hp;obtain⟨⟨okp,rfl⟩,hrz,hgz⟩:=HRq.o.orTo HD.o HMI.o.1 HI3.o HKK.o HS2.o HT2.o HS3.o HT3.o HBt.o hp;have HRz:=Lh hrz;have HFz:=Lh (own_kept HFq.o hgz (HS1q.o.wordsT.ne HFq.o (by decide)));have HBz:=Lh (HBq.o.grown hgz HBq.o.size fun q hq=>by cases hq;exact Nat.le_trans hml (HRz.o.low.2.2 i HMI.o.1).2);clear hp hrz hgz;go_wp2;go_roundw
   case rel=>exact⟨u+1,hul,by go_num,HRz,HFz,HBz⟩
   simp [intOf];omega
  | false =>
   have HV:=Lh (has_no (n:=n) hb);have HRz:=Lh (HRi.o.orNo HD.o HI3.o HKK.o HS3.o hb);clear hb;go_wp2_with (refine wpList_tlookV keysInt ptrV_inj rfl _ _ _ rfl Tryz.underlying224 none (zero_ptr _) m N (relF FS B) rfl HRi.o.mapF (i:Int) rfl HOi.o _ HLKi.o ?_);refine(mhas_any (B i).1 (B i).2 n kk ws _ HS1.o HS2.o).mono ?_;rintro e w1 ⟨rfl,hw⟩;obtain rfl:=hw.symm;rw [HV.o];go_wp2;go_roundw
   case rel=>exact⟨u+1,hul,by go_num,HRz,HFi,HBi⟩
   simp [intOf];omega
 obtain⟨b0,off,rfl,sb,hcb⟩:=HC.o.resolve_left (by omega);obtain⟨s,hs⟩:=gol hlt;have HX:=Lh (hcb k s hs wr HB.o);have hsn:=HL.o s (List.mem_of_getElem? hs);obtain⟨a,b⟩:=s;have HS:=Lh hs;simp only at hsn;obtain⟨hsn1,hsn2⟩:=hsn;have d1:decide (a<n)=true:=by simp [hsn1]
 have d2:decide (b<n)=true:=by simp [hsn2]
 obtain⟨x0,x1,sx⟩:=rc2 HX.o;clear hcb hs;go_upto_region 7 with fail;have HB8a:=Lh (bnew (w:=wr) (.cells #[.int .i64 a,.int .i64 b] 169));have HA8:=Lh (show ArrT (wr.alloc (.cells #[.int .i64 a,.int .i64 b] 169)) wr.heap.size 169 [.int .i64 a,.int .i64 b] from arrT_new wr [.int .i64 a,.int .i64 b] 169);generalize wr.alloc (.cells #[.int .i64 a,.int .i64 b] 169)=w8 at *;clear x0 x1 sx;have HR8:=Lh (HR.o.over HB8a.o);have HF8:=Lh (HF.o.over HB8a.o);have HB8:=Lh (bvo HB.o HB8a.o);have HOa:=Lh (ok_int (i:=a) (by omega));obtain⟨p0,p1,sp⟩:=HA8.o.arr.c2;have r1:=HR8.o.arr.k 1 rfl;have sr:=HR8.o.arr.lt;go_wp2_with fail;refine(rchFits_any a n _).mono ?_;rintro e w9 ⟨rfl,hw9⟩;obtain rfl:=hw9.symm;rw [d1];go_wp2_with fail;refine(rchFits_any b n _).mono ?_;rintro e w9 ⟨rfl,hw9⟩;obtain rfl:=hw9.symm;rw [d2]
 by_cases ha:a∈FS
 ·
  have HLK:=Lh (relF_yes (B:=B) ha);have HI2:=Lh (fs_in HS.o HI.o ha);go_wp2_with fail;refine wlo 8 fun hcur=>?_;repeat(first|(refine lxs rfl rfl ?_;simp only [Act.put,Sib,Scs,Scz])|((with_reducible refine lex_tlook keysInt ptrV_inj rfl _ _ _ rfl rfl Tryz.underlying224 none zero_ptr m N (relF FS B) rfl (fun w' hw'=>HR8.o.mapF.over (isOver_below hw')) (a:Int) rfl HOa.o _ HLK.o ?_);simp only [Act.put,Sib,Scs,Scz])|(refine lxo rfl ?_;go_big_quiet_step (fail);refine wpQuiet_nil ?_)|(refine lxl rfl ?_;go_wp2_with (first|fail);refine⟨iov hcur,?_⟩))
  refine lxe ?_;clear hcur p0 p1 sp r1 sr;have HR9:=Lh (HR8.o.over (Below.refl w8.heap.size w8).drew);have HF9:=Lh (HF8.o.over (Below.refl w8.heap.size w8).drew);have HB9:=Lh (HB8.o.drew);have HA9:=Lh (HA8.o.over (Below.refl w8.heap.size w8).drew);generalize w8.drew=w9 at *;clear HR8 HF8 HB8 HA8;have HLKp:=Lh (relF_yes (B:=B) ha);obtain⟨p0,p1,sp⟩:=HA9.o.arr.c2;have r1:=HR9.o.arr.k 1 rfl;have sr:=HR9.o.arr.lt;go_wp2_with fail;refine wlo 9 fun hcur=>?_;repeat(first|(refine lxs rfl rfl ?_;simp only [Act.put,Sib,Scs,Scz])|((with_reducible refine lex_tlook keysInt ptrV_inj rfl _ _ _ rfl rfl Tryz.underlying224 none zero_ptr m N (relF FS B) rfl (fun w' hw'=>HR9.o.mapF.over (isOver_below hw')) (a:Int) rfl HOa.o _ HLKp.o ?_);simp only [Act.put,Sib,Scs,Scz])|(refine lxo rfl ?_;go_big_quiet_step (fail);refine wpQuiet_nil ?_)|(refine lxl rfl ?_;go_wp2_with (first|fail);refine⟨iov hcur,?_⟩))
  refine lxe ?_;clear hcur p0 p1 sp r1 sr;have HRq:=Lh (HR9.o.over (Below.refl w9.heap.size w9).drew);have HFq:=Lh (HF9.o.over (Below.refl w9.heap.size w9).drew);have HBq:=Lh (HB9.o.drew);have HAq:=Lh (HA9.o.over (Below.refl w9.heap.size w9).drew);generalize w9.drew=wq at *;clear HR9 HF9 HB9 HA9;obtain⟨ws,s1,s2,s3⟩:=HRq.o.sets a ha;have HS1:=Lh s1;have HS2:=Lh s2;have HS3:=Lh s3;clear s1 s2 s3;go_wp2_with fail;refine(mput_any (B a).1 (B a).2 n b ws _ HS1.o HS2.o).mono ?_;intro e wz hp;obtain⟨⟨okp,rfl⟩,hrz,hgz⟩:=HRq.o.putTo ha HS.o hsn2 HS3.o hp;have HRz:=Lh hrz;have HFz:=Lh (own_kept HFq.o hgz (HS1.o.wordsT.ne HFq.o (by decide)));have HBz:=Lh (HBq.o.grown hgz HBq.o.size fun q hq=>by cases hq;exact Nat.le_trans hml (HRz.o.low.2.2 a ha).2);clear hp hrz hgz;go_wp2;go_roundw
  case rel=>exact⟨k+1,N,FS,B,hlt,by go_num,by omega,HRz,HFz,HI2,HD,by omega,HBz⟩
  simp [intOf];omega
 have HLK:=Lh (relF_no (B:=B) ha);have HI2:=Lh (fs_out HS.o HI.o);have HD2:=Lh (nodup_snocN HD.o ha);have HP:=Lh (show ∀ j,¬ (a,j)∈L.take k from fun j q=>ha ((HI.o a).2 ⟨j,q⟩));go_wp2_with fail;refine wlo 8 fun hcur=>?_;repeat(first|(refine lxs rfl rfl ?_;simp only [Act.put,Sib,Scs,Scz])|((with_reducible refine lex_tlook keysInt ptrV_inj rfl _ _ _ rfl rfl Tryz.underlying224 none zero_ptr m N (relF FS B) rfl (fun w' hw'=>HR8.o.mapF.over (isOver_below hw')) (a:Int) rfl HOa.o _ HLK.o ?_);simp only [Act.put,Sib,Scs,Scz])|(refine lxo rfl ?_;go_big_quiet_step (fail);refine wpQuiet_nil ?_)|(refine lxl rfl ?_;go_wp2_with (first|fail);refine⟨iov hcur,?_⟩))
 refine lxe ?_;clear hcur p0 p1 sp r1 sr;have HR9:=Lh (HR8.o.over (Below.refl w8.heap.size w8).drew);have HF9:=Lh (HF8.o.over (Below.refl w8.heap.size w8).drew);have HB9:=Lh (HB8.o.drew);have HA9:=Lh (HA8.o.over (Below.refl w8.heap.size w8).drew);generalize w8.drew=w9 at *;clear HR8 HF8 HB8 HA8;obtain⟨p0,p1,sp⟩:=HA9.o.arr.c2;have r1:=HR9.o.arr.k 1 rfl;have sr:=HR9.o.arr.lt;go_wp2_with fail;refine wlo 8 fun hcur=>?_;repeat(first|refine lxq ?_|(refine lxl rfl ?_;go_wp2_with (first|(go_at_call 156;(with_reducible refine(mnew_any n _ hn).mono ?_);rintro e w' ⟨bN,gN,rfl,hbN,hgN,hsN,hblN⟩;have hbN2:w9.heap.size≤bN:=Nat.le_trans hcur.size hbN;have hgN2:w9.heap.size≤gN:=Nat.le_trans hcur.size hgN;replace hcur:=bvo hcur hblN;clear hbN hgN hblN));refine⟨iov hcur,?_⟩))
 refine lxe ?_;have HCU:=Lh hcur;have HSN:=Lh hsN;clear hcur hsN;go_upto_region 10 with(refine wpList_tstore keysInt ptrV_inj rfl _ _ _ _ rfl Tryz.underlying224 m N (relF FS B) rfl (HR9.o.mapF.over HCU.o) (by unfold maxLen;omega) (a:Int) rfl HOa.o (some bN) rfl ?_;intro w10 hm10 hg10 hs10)
 clear hs10;have hmz:=HR9.o.map.lt;have HR10:=Lh (HR9.o.addF ha HP.o hn HCU.o (by omega) hbN2 hgN2 HSN.o hm10 hg10);have HF10:=Lh (own_kept (HF9.o.over HCU.o) hg10 ((HR9.o.map.over HCU.o).ne_own (HF9.o.over HCU.o)));have HB10c:=Lh (bvo HB9.o HCU.o);have HB10:=Lh (HB10c.o.grown hg10 HB10c.o.size fun q hq=>by cases hq;exact hml);have HX10:=Lh ((bov (Below.refl w9.heap.size w9) (Nat.le_refl _) HCU.o));have HA10:=Lh ((HA9.o.over HCU.o).kept hg10 (fun e=>(HR9.o.map.over HCU.o).ne_blk (HA9.o.over HCU.o).arr (Option.some.inj e).symm));have hB10:m≤w10.heap.size:=Nat.le_of_lt HR10.o.map.lt;have hN10:FS.length+1≤1099511627776:=by omega
 clear p0 p1 sp r1 sr hm10 hg10;generalize (fun x=>if x=a then(bN,gN) else B x)=B2 at *;obtain⟨p0,sp⟩:=HA10.o.arr.c1;go_wp2_with (at_builtin;refine apD slIntI rfl _ _ rfl m _ _ (drf _) 1 _ _ _ HF10.o rfl rfl rfl rfl hN10 (by decide) hB10 ?_;intro v11 w11 ho11 hg11);have HR11:=Lh (HR10.o.kept HF10.o (by decide) (by decide) (by decide) hg11);have HF11:Hid (GOwn encI 1 3 w11 m v11 (FS++[a])):=GOwn.snoc ho11;have HB11:=Lh (bgr HB10.o HB10.o.size (HF10.o.base hml) hg11);have HA11:=Lh (HA10.o.grown HF10.o (by decide) hg11);have hmem:a∈FS++[a]:=List.mem_append_right _ (List.mem_singleton.2 rfl);have hlen2:(FS++[a]).length≤k+1:=by simp;omega
 clear p0 sp ho11 hg11;generalize FS++[a]=FS2 at *;have HLKp:=Lh (relF_yes (B:=B2) hmem);obtain⟨p0,p1,sp⟩:=HA11.o.arr.c2;have r1:=HR11.o.arr.k 1 rfl;have sr:=HR11.o.arr.lt;go_wp2_with fail;refine wlo 9 fun hcur=>?_;repeat(first|(refine lxs rfl rfl ?_;simp only [Act.put,Sib,Scs,Scz])|((with_reducible refine lex_tlook keysInt ptrV_inj rfl _ _ _ rfl rfl Tryz.underlying224 none zero_ptr m (N+1) (relF FS2 B2) rfl (fun w' hw'=>HR11.o.mapF.over (isOver_below hw')) (a:Int) rfl HOa.o _ HLKp.o ?_);simp only [Act.put,Sib,Scs,Scz])|(refine lxo rfl ?_;go_big_quiet_step (fail);refine wpQuiet_nil ?_)|(refine lxl rfl ?_;go_wp2_with (first|fail);refine⟨iov hcur,?_⟩))
 refine lxe ?_;clear hcur p0 p1 sp r1 sr;have HRq:=Lh (HR11.o.over (Below.refl w11.heap.size w11).drew);have HFq:=Lh (HF11.o.over (Below.refl w11.heap.size w11).drew);have HBq:=Lh (HB11.o.drew);have HAq:=Lh (HA11.o.over (Below.refl w11.heap.size w11).drew);generalize w11.drew=wq at *;clear HR11 HF11 HB11 HA11;obtain⟨ws,s1,s2,s3⟩:=HRq.o.sets a hmem;have HS1:=Lh s1;have HS2:=Lh s2;have HS3:=Lh s3;clear s1 s2 s3;go_wp2_with fail;refine(mput_any (B2 a).1 (B2 a).2 n b ws _ HS1.o HS2.o).mono ?_;intro e wz hp;obtain⟨⟨okp,rfl⟩,hrz,hgz⟩:=HRq.o.putTo hmem HS.o hsn2 HS3.o hp;have HRz:=Lh hrz;have HFz:=Lh (own_kept HFq.o hgz (HS1.o.wordsT.ne HFq.o (by decide)));have HBz:=Lh (HBq.o.grown hgz HBq.o.size fun q hq=>by cases hq;exact Nat.le_trans hml (HRz.o.low.2.2 a hmem).2);clear hp hrz hgz;go_wp2;go_roundw
 case rel=>exact⟨k+1,(N+1),FS2,B2,hlt,by go_num,by omega,HRz,HFz,HI2,HD2,hlen2,HBz⟩
 simp [intOf];omega
end
section
variable{R:List (Nat × Nat)}{ws:List Nat}{go i n:Nat}{B:Nat→Nat × Nat}{w:World}
theorem slzSet:SlZ Tryz.prog 231 227 (.pointer none) 8:=slZ_of Tryz.underlying231 (by kernel_rfl) rfl
theorem ArrT.ne_type{g g':Nat}{e e':TypeId}{cs cs':List Value}(h:ArrT w g e cs)(h':ArrT w g' e' cs')(hn:e≠e'):g≠g':=by rintro rfl;unfold ArrT at *;rw [h] at h';simp only [Option.some.injEq,Obj.cells.injEq] at h';exact hn h'.2.1
abbrev ptrB(b:Nat):Value:=.pointer (some ⟨b,0,none⟩)
def ahV(B:Nat→Nat × Nat)(i n:Nat):List Value:=(List.range n).map fun k=>if k<i then ptrB (B k).1 else .pointer none
theorem ahV_len(B:Nat→Nat × Nat)(i n:Nat):(ahV B i n).length=n:=by unfold ahV;simp
theorem ahV_get{k:Nat}(h:k<n):(ahV B i n)[k]? = some (if k<i then ptrB (B k).1 else .pointer none):=by unfold ahV;simp [h]
theorem ahV_zero(B:Nat→Nat × Nat)(n:Nat):ahV B 0 n=List.replicate n (.pointer none):=by unfold ahV;simp [List.map_const']
theorem ahV_set{B':Nat→Nat × Nat}(hB:∀ k,k<i→B' k=B k):(ahV B i n).set i (ptrB (B' i).1)=ahV B' (i+1) n:=by
 refine List.ext_getElem? fun k => ?_;rw [List.getElem?_set]
 by_cases hk:k<n
 ·
  rw [ahV_get hk,ahV_get hk,ahV_len];rcases Nat.lt_trichotomy k i with h|h|h
  · rw [if_neg (by omega),if_pos h,if_pos (by omega),hB k h]
  · subst h;simp [hk]
  rw [if_neg (by omega),if_neg (by omega),if_neg (by omega)]
 have h1:(ahV B i n)[k]? = none:=List.getElem?_eq_none (by rw [ahV_len];omega);have h2:(ahV B' (i+1) n)[k]? = none:=List.getElem?_eq_none (by rw [ahV_len];omega);rw [h1,h2,ahV_len];split
 ·
  split
  · omega
  rfl
 rfl
structure AhTo (w:World) (go n i:Nat) (R:List (Nat × Nat)) (B:Nat→Nat × Nat):Prop where
 arr:ArrT w go 227 (ahV B i n)
 sets:∀ k,k<i→∃ ws,SetAt w (B k).1 (B k).2 n ws∧SetOk n ws∧∀ j,bitW ws j=true↔j<n∧BeforeP R j k
structure AhMid (w:World) (go n i:Nat) (R:List (Nat × Nat)) (B:Nat→Nat × Nat) (j:Nat) (ws:List Nat):Prop where
 arr:ArrT w go 227 (ahV B (i+1) n)
 sets:∀ k,k<i→∃ ws,SetAt w (B k).1 (B k).2 n ws∧SetOk n ws∧∀ j,bitW ws j=true↔j<n∧BeforeP R j k
 cur:SetAt w (B i).1 (B i).2 n ws
 ok:SetOk n ws
 bits:∀ q,bitW ws q=true↔q<j∧BeforeP R q i
 apart:∀ k,k<i→(B k).2≠(B i).2
theorem AhTo.over{w':World}(h:AhTo w go n i R B)(hb:Be w w'):AhTo w' go n i R B:=
 ⟨h.arr.over hb,fun k hk=>by obtain⟨ws,h1,h2⟩:=h.sets k hk;exact⟨ws,h1.over hb,h2⟩⟩
theorem AhTo.begin'{w1:World}{b g:Nat}(h:AhTo w go n i R B)(hb:Be w w1)(hs:SetAt w1 b g n (zerosW n))(hg:w.heap.size≤g)(hn:n≤65536) :
  AhMid (w1.setCell ⟨go,i,none⟩ (ptrB b)) go n i R (fun k=>if k=i then(b,g) else B k) 0 (zerosW n):=by
 have h1:=h.over hb;have old:∀ k,k<i→(if k=i then(b,g) else B k)=B k:=fun k hk=>if_neg (by omega);refine⟨?_,fun k hk => ?_,?_,zerosW_ok hn,fun q => ?_,fun k hk => ?_⟩
 · have:=h1.arr.set i (ptrB b);have e2:=ahV_set (B:=B) (B':=fun k=>if k=i then(b,g) else B k) (i:=i) (n:=n) old;rw [if_pos rfl] at e2;rw [← e2];exact this
 · obtain⟨ws,s1,s2⟩:=h1.sets k hk;simp only [old k hk];exact⟨ws,s1.apart (s1.headT.ne_type h1.arr (by decide)) (s1.wordsT.ne_type h1.arr (by decide)) _,s2⟩
 · simp only [if_true];exact hs.apart (hs.headT.ne_type h1.arr (by decide)) (hs.wordsT.ne_type h1.arr (by decide)) _
 · rw [zerosW_bit];exact⟨fun q=>(by cases q),fun q=>absurd q.1 (Nat.not_lt_zero _)⟩
 obtain⟨ws,s1,_⟩:=h.sets k hk;have:=s1.words.lt;simp only [old k hk,if_true];omega
theorem AhMid.put{w':World}{j:Nat}{e:Ending}(h:AhMid w go n i R B j ws)(hj:j<n)(hb:BeforeP R j i)(hp:PutRes (B i).1 (B i).2 n j ws w e w') :
  (∃ ok:Bool,e=.returned (.bool ok))∧(∃ ws',AhMid w' go n i R B (j+1) ws')∧w.grownBy w' (some (B i).2):=by
 obtain⟨ok,ws',rfl,h1,h2,h3,h4,_⟩:=hp;refine⟨⟨ok,rfl⟩,⟨ws',h.arr.kept h4 (fun q=>(h.cur.wordsT.ne_type h.arr (by decide)) (Option.some.inj q).symm),fun k hk => ?_,h1,h2,fun q => ?_,h.apart⟩,h4⟩
 · obtain⟨wk,s1,s2⟩:=h.sets k hk;exact⟨wk,s1.grown h4 (fun q=>s1.head_words h.cur (Option.some.inj q)) (fun q=>h.apart k hk (Option.some.inj q)),s2⟩
 rw [h3,Bool.or_eq_true,h.bits];simp only [Bool.and_eq_true,decide_eq_true_iff];constructor
 ·
  rintro(⟨q1,q2⟩|⟨rfl,_⟩)
  · exact⟨by omega,q2⟩
  exact⟨by omega,hb⟩
 rintro⟨q1,q2⟩;rcases Nat.lt_or_ge q j with hl|hl
 · exact .inl ⟨hl,q2⟩
 exact .inr ⟨by omega,hj⟩
theorem AhMid.skip{j:Nat}(h:AhMid w go n i R B j ws)(hb:¬ BeforeP R j i):AhMid w go n i R B (j+1) ws:=
 ⟨h.arr,h.sets,h.cur,h.ok,fun q=>by
  rw [h.bits];constructor
  · rintro⟨q1,q2⟩;exact⟨by omega,q2⟩
  ·
   rintro⟨q1,q2⟩;refine⟨?_,q2⟩;rcases Nat.lt_or_ge q j with hl|hl
   · exact hl
   · obtain rfl:q=j:=(by omega);exact absurd q2 hb,h.apart⟩
theorem AhMid.done(h:AhMid w go n i R B n ws):AhTo w go n (i+1) R B:=
 ⟨h.arr,fun k hk=>by
  rcases Nat.lt_or_ge k i with hl|hl
  · exact h.sets k hl
  · obtain rfl:k=i:=(by omega);exact⟨ws,h.cur,h.ok,h.bits⟩⟩
def AhRes(w:World)(n:Nat)(R:List (Nat × Nat))(e:Ending)(w':World):Prop:=∃ go B,e=.returned (.slice (some ⟨go,0,none⟩) n n)∧w.heap.size≤go∧AhTo w' go n n R B∧Be w w'
def AoRel(w:World)(go n:Nat)(R:List (Nat × Nat))(v11:Value)(wr:World):Prop:=∃(i:Nat) (B:Nat→Nat × Nat),i≤n∧v11=.int .i64 i∧Hid (AhTo wr go n i R B)∧Hid (Be w wr)
def AiRel(w:World)(go n i:Nat)(R:List (Nat × Nat))(B:Nat→Nat × Nat)(v22:Value)(wr:World):Prop:=∃(j:Nat) (ws:List Nat),j≤n∧v22=.int .i64 j∧Hid (AhMid wr go n i R B j ws)∧Hid (Be w wr)
attribute [local irreducible] ahV befB
theorem ahead_any(r n:Nat)(R:List (Nat × Nat))(w:World)(h:RelAt w r n R):Calls Tryz.prog 160 #[.pointer (some ⟨r,0,none⟩)] w (AhRes w n R):=by
 have hn:=h.1;have HH:=Lh h;have HZ:=Lh (ahV_zero (fun _=>(0,0)) n);have hq:8*n≤281474976710656:=by omega
 have hm:n≤maxLen:=by unfold maxLen;omega
 clear h;go_enter Tryz.func160,Tryz.ntmps160;go_wp2_with fail;refine(rchLen_any r n R _ HH.o).mono ?_;rintro e w1 ⟨rfl,hw⟩;obtain rfl:=hw.symm;go_upto_region 2 with(at_make;refine wpList_make_zeros slzSet rfl _ _ rfl w.heap.size n _ rfl rfl rfl hq hm (Nat.le_refl _) ?_;intro w1 ho1 hg1)
 have HB1:=Lh (grown_over' hg1 (fun g hg=>by cases hg));obtain⟨hA,hg⟩:=own_full ho1;have HT0:=Lh (AhTo.mk (R:=R) (B:=fun _=>(0,0)) (i:=0) (n:=n) (by rw [HZ.o];exact hA) (fun k hk=>absurd hk (Nat.not_lt_zero k)));have hgo:w.heap.size<w1.heap.size:=hA.arr.lt;obtain⟨go,hgo1,hgo2⟩:∃ go,w.heap.size=go∧w.heap.size≤go:=⟨_,rfl,Nat.le_refl _⟩;rw [hgo1] at HT0 hgo ⊢;clear hA hg ho1 hg1 hgo1 HZ;go_wp2;go_loopw [11] (fun v11 wr=>AoRel w go n R v11 wr) (fun v11 _=>n - (intOf v11).toNat)
 case atStart=>exact⟨0,_,by omega,rfl,HT0,HB1⟩
 obtain⟨i,B,hi,rfl,HT,HB⟩:=hrel;rename World=>wo;have HRo:=Lh (HH.o.over HB.o);have HOn:=Lh (ahV_len B i n);have sg:=HT.o.arr.arr.lt
 by_cases hlt:i<n
 rotate_left
 ·
  obtain rfl:i=n:=by omega
  go_wp2;go_ret;exact⟨go,B,rfl,hgo2,HT.o,HB.o⟩
 have f0:=HT.o.arr.arr.free i;have c0:=HT.o.arr.arr.cell (ahV_get hlt);go_wp2_with fail;refine(rchLen_any r n R _ HRo.o).mono ?_;rintro e w2 ⟨rfl,hw⟩;obtain rfl:=hw.symm;go_wp2_with fail;refine(mnew_any n _ hn).mono ?_;rintro e w3 ⟨b,g,rfl,hb1,hg1,hs,hb⟩;have hg1x:=hg1;have HM:=Lh (HT.o.begin' hb hs hg1 hn);have HB3:=Lh (bvo HB.o hb);have HA3:=Lh (HT.o.arr.over hb);clear hs hb hb1 hg1 f0 c0 sg;have f0:=HA3.o.arr.free i;have c0:=HA3.o.arr.cell (ahV_get hlt);have sg:=HA3.o.arr.lt;go_upto_region 6 with fail;have HB4:=Lh (HB3.o.setCell (p:=⟨go,i,none⟩) hgo2 (ptrB b));generalize w3.setCell ⟨go,i,none⟩ (ptrB b)=w4 at *;clear f0 c0 sg;obtain⟨B2,hB2⟩:∃ B2,B2=(fun k=>if k=i then(b,g) else B k):=⟨_,rfl⟩;rw [← hB2] at HM;have HLow:Hid (w.heap.size≤(B2 i).2):=by show _≤_;rw [hB2];simp only [if_true];exact Nat.le_trans HB.o.size hg1x
 clear hB2;go_wp2;go_hide hQ;go_loopw [22] (fun v22 wi=>AiRel w go n i R B2 v22 wi) (fun v22 _=>n - (intOf v22).toNat)
 case atStart=>exact⟨0,_,by omega,rfl,HM,HB4⟩
 obtain⟨j,ws,hj,rfl,HM2,HB5⟩:=hrel;rename World=>wr;have HRr:=Lh (HH.o.over HB5.o)
 by_cases hjl:j<n
 rotate_left
 ·
  obtain rfl:j=n:=by omega
  have HD:=Lh HM2.o.done;go_wp2;subst hQ;go_wp2;go_roundw
  case rel=>exact⟨i+1,B2,hlt,by go_num,HD,HB5⟩
  simp [intOf];omega
 cases hbf:befB R j i with
 | true =>
  have HV:=Lh hbf;have HBP:=Lh (befB_iff.1 hbf);clear hbf;have c0:=HM2.o.arr.arr.cell (ahV_get hlt);rw [if_pos (by omega)] at c0;have sg:=HM2.o.arr.arr.lt;go_wp2_with fail;refine(rchBefore_any r n j i R _ HRr.o (by omega) (by omega)).mono ?_;rintro e w5 ⟨rfl,hw⟩;obtain rfl:=hw.symm;rw [HV.o];go_wp2_with fail;refine(mput_any (B2 i).1 (B2 i).2 n j ws _ HM2.o.cur HM2.o.ok).mono ?_;intro e w6 hp;obtain⟨⟨okp,rfl⟩,⟨ws',hm6⟩,hg6⟩:=HM2.o.put hjl HBP.o hp;have HM6:=Lh hm6;have HB6:=Lh (HB5.o.grown hg6 HB5.o.size fun q hq=>by cases hq;exact HLow.o);clear hp hm6 hg6;go_wp2;go_roundw
  case rel=>exact⟨j+1,ws',hjl,by go_num,HM6,HB6⟩
  simp [intOf];omega
 | false =>
  have HV:=Lh hbf;have HM6:=Lh (HM2.o.skip (fun q=>by rw [befB_iff.2 q] at hbf;cases hbf));clear hbf;go_wp2_with fail;refine(rchBefore_any r n j i R _ HRr.o (by omega) (by omega)).mono ?_;rintro e w5 ⟨rfl,hw⟩;obtain rfl:=hw.symm;rw [HV.o];go_wp2;go_roundw
  case rel=>exact⟨j+1,ws,hjl,by go_num,HM6,HB5⟩
  simp [intOf];omega
end
section
theorem irow_at{w:World}{v:Value}{xs:List Nat}(h:GRow encI 1 w v xs):∃ a cap,v=.slice a xs.length cap∧xs.length≤cap∧cap≤maxLen∧(xs.length=0∨∃ b off,a=some ⟨b,off,none⟩∧b<w.heap.size ∧
  ∀(i x:Nat),xs[i]? = some x→∀ W,Be w W→b<W.heap.size∧W.cell? ⟨b,off+i,none⟩=some (.int .i64 x)):=by obtain⟨a,cap,h1,h2,h3,h4⟩:=h.at encI_len;refine⟨a,cap,h1,h2,h3,h4.imp id ?_⟩;rintro⟨b,off,e,hb,hc⟩;refine⟨b,off,e,hb,fun i x hx W hW => ?_⟩;obtain⟨q1,q2⟩:=hc i x hx W hW;have:=q2 0 _ rfl;rw [Nat.mul_one,Nat.add_zero] at this;exact⟨q1,this⟩
theorem prow_at{w:World}{v:Value}{xs:List (Nat × Nat)}(h:GRow encP 2 w v xs):∃ a cap,v=.slice a xs.length cap∧xs.length≤cap∧cap≤maxLen∧(xs.length=0∨∃ b off,a=some ⟨b,off,none⟩∧b<w.heap.size ∧
  ∀ i x,xs[i]? = some x→∀ W,Be w W→b<W.heap.size∧W.cell? ⟨b,off+i*2,none⟩=some (.int .i64 x.1)∧W.cell? ⟨b,off+i*2+1,none⟩=some (.int .i64 x.2)):=by obtain⟨a,cap,h1,h2,h3,h4⟩:=h.at encPr_len;refine⟨a,cap,h1,h2,h3,h4.imp id ?_⟩;rintro⟨b,off,e,hb,hc⟩;refine⟨b,off,e,hb,fun i x hx W hW => ?_⟩;obtain⟨q1,q2⟩:=hc i x hx W hW;exact⟨q1,q2 0 _ rfl,q2 1 _ rfl⟩
def memB(l:List Nat)(i:Nat):Bool:=decide (i∈l)
theorem memB_iff{l:List Nat}{i:Nat}:memB l i=true↔i∈l:=by unfold memB;simp
theorem memB_no{l:List Nat}{i:Nat}:memB l i=false↔i ∉ l:=by unfold memB;simp
attribute [local irreducible] memB
end
section
attribute [local irreducible] memB leadB befB aliB
theorem gown_low{α:Type}{enc:α→List Value}{sz:Nat}{e:TypeId}{w:World}{B:Nat}{v:Value}{xs:List α}(h:GOwn enc sz e w B v xs){k:Nat}(hk:v.ownBlock=some k):B≤k:=by
 rcases h.2 with⟨rfl,_⟩|⟨g,cap,cur,rfl,hB,_⟩
 · simp [Value.ownBlock] at hk
 simp [Value.ownBlock] at hk;omega
end
variable{R:List (Nat × Nat)}{l:List Nat}{g n:Nat}
open Classical in
noncomputable def freeB(R:List (Nat × Nat))(n:Nat)(l:List Nat)(i:Nat):Bool:=decide (∀ j,j<n→BeforeP R j i→j∈l)
theorem freeB_iff{i:Nat}:freeB R n l i=true↔∀ j,j<n→BeforeP R j i→j∈l:=by unfold freeB;simp
def slLen:Value→Nat
 | .slice _ n _=>n
 | _=>0
noncomputable def takeTo(R:List (Nat × Nat))(g k:Nat):List Nat:=takeG R k g
theorem takeTo_zero(R:List (Nat × Nat))(g:Nat):takeTo R g 0=[]:=rfl
theorem takeTo_yes{k:Nat}(h:groupM R k=g):takeTo R g (k+1)=takeTo R g k++[k]:=by unfold takeTo takeG;rw [List.range_succ,List.filter_append];simp [h]
theorem takeTo_no{k:Nat}(h:¬ groupM R k=g):takeTo R g (k+1)=takeTo R g k:=by unfold takeTo takeG;rw [List.range_succ,List.filter_append];simp [h]
theorem takeTo_len(R:List (Nat × Nat))(g k:Nat):(takeTo R g k).length≤k:=by unfold takeTo takeG;exact Nat.le_trans (List.length_filter_le _ _) (by simp)
theorem find_range{p:Nat→Bool}(h:(List.range n).find? p=some g):p g=true∧∀ g',g'<g→p g'=false:=by
 obtain⟨h1,l1,l2,hab,hno⟩:=List.find?_eq_some_iff_append.1 h;refine⟨h1,fun g' hg' => ?_⟩;have hpw:(List.range n).Pairwise (· < ·):=List.pairwise_lt_range;have hgm:g∈List.range n:=List.mem_of_find?_eq_some h;have hmem:g'∈List.range n:=List.mem_range.2 (by have:=List.mem_range.1 hgm;omega);rw [hab] at hmem hpw;rcases List.mem_append.1 hmem with hm|hm
 · have:=hno g' hm;simpa using this
 rcases List.mem_cons.1 hm with e|hm
 · omega
 have:=(List.pairwise_cons.1 (List.pairwise_append.1 hpw).2.1).1 g' hm;omega
theorem pick_is(hg:MayTake R n l g)(hno:∀ g',g'<g→¬ MayTake R n l g'):stepO R n l=l++takeTo R g n:=by
 cases hp:pickM R n l with
 | none =>unfold pickM at hp;have:=(List.find?_eq_none.1 hp) g (List.mem_range.2 hg.1);simp only [decide_eq_true_iff] at this;exact absurd hg this
 | some g2 =>
  have e:g2=g:=by
   have h2:=pick_some hp;unfold pickM at hp;obtain⟨_,h1⟩:=find_range hp;rcases Nat.lt_trichotomy g2 g with h|h|h
   · exact absurd h2 (hno g2 h)
   · exact h
   · have:=h1 g h;simp only [decide_eq_false_iff_not] at this;exact absurd hg this
  unfold stepO takeTo;rw [hp,e]
theorem pick_lt{c:Nat}(hl:(orderTo R n c).length<n)(hno:∀ g',g'<n→¬ MayTake R n (orderTo R n c) g'):False:=by obtain⟨g,hg,_⟩:=step_grows (orderTo_whole R n c) hl;have:=pick_some hg;exact hno g this.1 this
theorem may_of(hg:g<n)(h1:groupM R g=g)(h2:memB l g=false)(h3:freeB R n l g=true):MayTake R n l g:=⟨hg,h1,memB_no.1 h2,freeB_iff.1 h3⟩
theorem not_may(hno:∀ g',g'<g→¬ MayTake R n l g')(h:¬ groupM R g=g∨memB l g=true∨freeB R n l g=false):∀ g',g'<g+1→¬ MayTake R n l g':=fun g' hg'=>by
 rcases Nat.lt_or_ge g' g with hl|hl
 · exact hno g' hl
 ·
  obtain rfl:g'=g:=by omega
  rintro⟨_,q1,q2,q3⟩;rcases h with h|h|h
  · exact h q1
  · exact q2 (memB_iff.1 h)
  · rw [freeB_iff.2 q3] at h;cases h
attribute [local irreducible] memB leadB befB aliB freeB takeTo
theorem own_form{w:World}{B:Nat}{e:TypeId}{v:Value}{xs:List Nat}(h:GOwn encI 1 e w B v xs):∃ p c,v=.slice p xs.length c:=by obtain⟨a,cap,e1,_⟩:=irow_at h.row;exact⟨a,cap,e1⟩
theorem ord_len(R:List (Nat × Nat))(n c:Nat):(orderTo R n c).length≤n:=whole_len (orderTo_whole R n c)
end Go.Proofs.YtjccmcgglfncdaaGreatDoor
set_option maxRecDepth 100000
set_option maxHeartbeats 40000000
namespace Go.Proofs.YtjccmcgglfncdaaGreatDoor
open Go Go.RowKit
variable{R:List (Nat × Nat)}{l ws xs:List Nat}{B g i m n:Nat}{e:TypeId}{v:Value}{w:World}
section
variable {P : Program} {t e : TypeId} {size bytes : Nat} {w : World} {ops : Array Oper} {o : Oper} {rest : List Oper} {a : Act} {Q : Exit → Act → World → Prop}
theorem wpList_append_newK(T:SlT P t e size bytes)(hgd:o.guard=none)(s x:Operand)
  (ho:o.op=.call {callee:=.builtin .append,args:=#[s,x],argTypes:=#[t,t]})
  (base:Nat) (cs:Array Value) (e2:TypeId) {wx:World} (hd:Drawn (w.alloc (.cells cs e2)) wx) (m:Nat) (v:Value) (n:Nat) (xs:List Value) (hown:w.ownsRow base e size v n xs) (hs:a.eval s=v)
  (hx:a.eval x=.slice (some ⟨w.heap.size,0,none⟩) m m) (hcs:cs.size=m*size) (h1:cs.toList.all (fun u=>u.oneCell')=true)
  (hN:n+m≤1099511627776) (hby:bytes≤128) (hbase:base≤w.heap.size)
  (h:∀ v' w',w'.ownsRow base e size v' (n+m) (xs++cs.toList)→w.grownBy w' v.ownBlock→(v'.ownBlock=v.ownBlock∨∃ k,v'.ownBlock=some k∧w.heap.size≤k)→wpList P ops Q rest (a.put o.dst v') w'):wpList P ops Q (o :: rest) a wx:=by
 have hsz:wx.heap.size=w.heap.size+1:=by obtain⟨n,rfl⟩:=hd;simp
 have hmm:m≤maxLen:=by unfold maxLen;omega
 obtain⟨i,z,ht,_⟩:=T.out;refine wpList_append_rowAt T ht hgd s x ho base v n xs (hd.owns (hown.alloc _)) hs _ m cs.toList (hd.row (own_row (World.ownsRow_lit w cs m (Nat.zero_le _) hmm hcs))) hx ?_ hN hby (by omega) fun v' w' h2 h3 h4=>h v' w' h2 (grown_alloc (o:=.cells cs e2) ?_) (h4.imp id fun q=>⟨_,q,by omega⟩)
 · intro u hu;exact List.all_eq_true.1 h1 u hu
 obtain⟨n,rfl⟩:=hd;exact⟨h3.os,h3.tape,h3.output,h3.size,h3.block⟩
end
theorem own_more(h:GOwn encI 1 e w B v (xs++[i])):∃(ys:List Nat) (p:Option Addr) (c:Nat),v=.slice p ys.length c∧ys=xs++[i]:=by obtain⟨p,c,e⟩:=own_form h;exact⟨xs++[i],p,c,e,rfl⟩
structure GrpsAt (w:World) (gb n base:Nat) (F:Nat→List Nat) (vs:List Value):Prop where
 arr:ArrT w gb 160 vs
 len:vs.length=n
 own:∀(g:Nat) (v:Value),vs[g]? = some v→GOwn encI 1 3 w base v (F g)
 apart:∀(g g':Nat) (v v':Value),vs[g]? = some v→vs[g']? = some v'→g≠g'→v.ownBlock=none∨v.ownBlock≠v'.ownBlock
theorem gown_size{α:Type}{enc:α→List Value}{sz:Nat}{xs:List α}(h:GOwn enc sz e w B v xs){k:Nat}(hk:v.ownBlock=some k):k<w.heap.size:=by
 rcases h.2 with⟨rfl,_⟩|⟨g,cap,cur,rfl,_,hg,_⟩
 · cases hk
 cases hk;exact(Array.getElem?_eq_some_iff.1 hg).1
theorem GrpsAt.push{w9:World}{gb base:Nat}{F:Nat→List Nat}{vs:List Value}{v9:Value}(h:GrpsAt w gb n base F vs)(hv:vs[g]? = some v)(ho:GOwn encI 1 3 w9 base v9 (F g++[i]))(hg:w.grownBy w9 v.ownBlock)
  (hb:v9.ownBlock=v.ownBlock∨∃ k,v9.ownBlock=some k∧w.heap.size≤k) {F':Nat→List Nat} (h1:F' g=F g++[i]) (h2:∀ k,k≠g→F' k=F k):GrpsAt (w9.setCell ⟨gb,g,none⟩ v9) gb n base F' (vs.set g v9):=by
 have hov:=h.own g v hv;have hA9:=h.arr.kept hg (h.arr.ne hov (by decide));have oth:∀ k u,vs[k]? = some u→k≠g→GOwn encI 1 3 w9 base u (F k):=fun k u hu hne=>own_grown (h.own k u hu) hg (h.apart k g u v hu hv hne);have ne9:∀ k u,vs[k]? = some u→k≠g→u.ownBlock=none∨u.ownBlock≠v9.ownBlock:=fun k u hu hne=>by
  rcases h.apart k g u v hu hv hne with q|q
  · exact .inl q
  rcases hb with hb|⟨b,hb,hle⟩
  · rw [hb];exact .inr q
  cases hq:u.ownBlock with
  | none=>exact .inl rfl
  | some k2 =>have:=gown_size (h.own k u hu) hq;rw [hb];exact .inr (fun e=>by have:=Option.some.inj e;omega)
 have hgl:=(List.getElem?_eq_some_iff.1 hv).1;have get:∀ k u,(vs.set g v9)[k]? = some u→(k=g∧u=v9)∨(k≠g∧vs[k]? = some u):=fun k u hu=>by
  by_cases e:g=k
  · subst e;rw [List.getElem?_set_self hgl] at hu;exact .inl ⟨rfl,(Option.some.inj hu).symm⟩
  rw [List.getElem?_set_ne e] at hu;exact .inr ⟨fun q=>e q.symm,hu⟩
 refine⟨hA9.set g v9,by rw [List.length_set];exact h.len,fun k u hu => ?_,fun k k' u u' hu hu' hne => ?_⟩
 ·
  rcases get k u hu with⟨rfl,rfl⟩|⟨hk,hu⟩
  · rw [h1];exact own_kept ho (gsc _ _ _) (hA9.ne ho (by decide))
  rw [h2 k hk];exact own_kept (oth k u hu hk) (gsc _ _ _) (hA9.ne (oth k u hu hk) (by decide))
 rcases get k u hu with⟨e1,e2⟩|⟨hk,hu⟩ <;> rcases get k' u' hu' with⟨e3,e4⟩|⟨hk',hu'⟩
 · exact absurd (e1.trans e3.symm) hne
 ·
  rcases ne9 k' u' hu' hk' with q|q
  ·
   rw [e2];cases hq:v9.ownBlock with
   | none=>exact .inl rfl
   | some b=>rw [q];exact .inr (fun e=>by cases e)
  rw [e2];exact .inr (fun e=>q e.symm)
 · rw [e4];exact ne9 k u hu hk
 exact h.apart k k' u u' hu hu' hne
theorem GrpsAt.keep{w':World}{gb base bT gT:Nat}{F:Nat→List Nat}{vs:List Value}(h:GrpsAt w gb n base F vs)(hs:SetAt w bT gT m ws)(hg:w.grownBy w' (some gT)):GrpsAt w' gb n base F vs:=
 ⟨h.arr.kept hg (fun e=>(hs.wordsT.ne_type h.arr (by decide)) (Option.some.inj e).symm),h.len,fun g v hv=>own_kept (h.own g v hv) hg (hs.wordsT.ne (h.own g v hv) (by decide)),h.apart⟩
theorem own_cat{ys:List Nat}(hm:m=ys.length)(h:w.ownsRow B e 1 v (xs.length+m) (xs.flatMap encI++ys.flatMap encI)):GOwn encI 1 e w B v (xs++ys):=by unfold GOwn;rw [List.length_append,List.flatMap_append,← hm];exact h
theorem row_len{ys:List Nat}(hm:m=ys.length)(h:GRow encI 1 w v ys):Row w v m 1 (ys.flatMap encI):=by unfold GRow at h;rw [hm];exact h
theorem oneInts(ys:List Nat):∀ u∈ys.flatMap encI,u.oneCell'=true:=fun u hu=>by obtain⟨x,_,hx⟩:=List.mem_flatMap.1 hu;exact oneI x u hx
theorem own_form2{l2:List Nat}(h:GOwn encI 1 e w B v xs)(hx:xs=l2):∃(p:Option Addr) (c:Nat),v=.slice p l2.length c∧GOwn encI 1 e w B v l2:=by subst hx;obtain⟨p,c,e⟩:=own_form h;exact⟨p,c,e,h⟩
theorem grown_own{α:Type}{enc:α→List Value}{sz:Nat}{w1 w2:World}{row:Option Nat}{xs:List α}(h:w.grownBy w1 row)(ho:GOwn enc sz e w1 B v xs)(hB:w.heap.size≤B)(hg:w1.grownBy w2 v.ownBlock):w.grownBy w2 row:=by refine⟨hg.os.trans h.os,hg.tape.trans h.tape,hg.output.trans h.output,Nat.le_trans h.size hg.size,fun k hk hne => ?_⟩;rw [hg.block k (Nat.lt_of_lt_of_le hk h.size) (fun q=>by have:=gown_low ho q.symm;omega)];exact h.block k hk hne
theorem takeTo_is(R:List (Nat × Nat))(n g:Nat):takeTo R g n=takeG R n g:=rfl
theorem takeTo_nil(h:¬ groupM R g=g):takeTo R g n=[]:=by rw [takeTo_is];refine List.eq_nil_iff_forall_not_mem.2 fun i hi => ?_;have:=(mem_takeG.1 hi).2;exact h (by rw [← this];exact groupM_idem R i)
theorem takeTo_pos(hg:g<n)(h:groupM R g=g):0<(takeTo R g n).length:=by rw [takeTo_is];exact List.length_pos_of_mem (mem_takeG.2 ⟨hg,h⟩)
theorem takeTo_lt(h:i∈takeTo R g n):i<n:=by rw [takeTo_is] at h;exact(mem_takeG.1 h).1
theorem takeTo_step(h:groupM R i=g):takeTo R g (i+1)=takeTo R g i++[i]∧∀ k,k≠g→takeTo R k (i+1)=takeTo R k i:=
 ⟨takeTo_yes h,fun _ hk=>takeTo_no (fun e=>hk (e.symm.trans h))⟩
theorem within_iff{wa wb:List Nat}:withinB n wa wb=true↔∀ i,i<n→bitW wa i=true→bitW wb i=true:=by unfold withinB;simp
theorem has_mem(hg:g<n)(h:∀ j,bitW ws j=true↔j∈l):hasS n ws g=memB l g:=by unfold hasS;rw [Bool.eq_iff_iff,memB_iff,Bool.and_eq_true,h,decide_eq_true_iff];exact⟨And.right,fun q=>⟨hg,q⟩⟩
theorem within_free{wa:List Nat}(ha:∀ j,bitW wa j=true↔j<n∧BeforeP R j g)(h:∀ j,bitW ws j=true↔j∈l):withinB n wa ws=freeB R n l g:=by
 rw [Bool.eq_iff_iff,within_iff,freeB_iff];constructor
 · intro q j hj hb;exact(h j).1 (q j hj ((ha j).2 ⟨hj,hb⟩))
 intro q j hj hb;exact(h j).2 (q j hj ((ha j).1 hb).2)
theorem put_bits{ws' lg:List Nat}{q x:Nat}(hx:lg[q]? = some x)(hxn:x<n)(h:∀ j,bitW ws j=true↔j∈l++lg.take q)(h':∀ j,bitW ws' j=(bitW ws j || (decide (j=x) && decide (x<n)))):∀ j,bitW ws' j=true↔j∈l++lg.take (q+1):=fun j=>by rw [h',Bool.or_eq_true,h,take_one hx];simp [hxn,or_assoc]
def GsRel(w2:World)(R:List (Nat × Nat))(gb n:Nat)(v23:Value)(wr:World):Prop:=∃(i:Nat) (vs:List Value),i≤n∧v23=.int .i64 i∧Hid (GrpsAt wr gb n gb (fun g=>takeTo R g i) vs)∧Hid (Be w2 wr)
structure TopAt (w1 w3:World) (R:List (Nat × Nat)) (bT gT n:Nat) (l:List Nat) (v:Value) (ws:List Nat) (wr:World):Prop where
 own:GOwn encI 1 3 wr w3.heap.size v l
 set:SetAt wr bT gT n ws
 ok:SetOk n ws
 bits:∀ j,bitW ws j=true↔j∈l
 grown:w3.grownBy wr (some gT)
 below:Be w1 wr
def ToRel(w1 w3:World)(R:List (Nat × Nat))(bT gT n:Nat)(v8:Value)(wr:World):Prop:=∃(c:Nat) (l:List Nat) (p:Option Addr) (k:Nat) (ws:List Nat),Hid (l=orderTo R n c)∧v8=.slice p l.length k∧Hid (TopAt w1 w3 R bT gT n l (.slice p l.length k) ws wr)
def TiRel(wo:World)(R:List (Nat × Nat))(n:Nat)(l:List Nat)(p:Option Addr)(k:Nat)(v8 v47:Value)(wr:World):Prop:=∃ g:Nat,g≤n∧v8=.slice p l.length k∧v47=.int .i64 g∧Hid (∀ g',g'<g→¬ MayTake R n l g')∧wr=wo
def TpRel(wo:World)(bT gT n m:Nat)(l lg:List Nat)(v71:Value)(wr:World):Prop:=∃(q:Nat) (ws:List Nat),q≤m∧v71=.int .i64 q∧Hid (SetAt wr bT gT n ws)∧Hid (SetOk n ws)∧Hid (∀ j,bitW ws j=true↔j∈l++lg.take q)∧Hid (wo.grownBy wr (some gT))
attribute [local irreducible] memB leadB befB aliB freeB takeTo withinB hasS ahV
theorem order_any(r n:Nat)(R:List (Nat × Nat))(w:World)(h:RelAt w r n R):Calls Tryz.prog 93 #[.pointer (some ⟨r,0,none⟩)] w (OwnRes encI 1 3 w (orderM R n)):=by
 have hn:=h.1;have HH:=Lh h;have hq:24*n≤281474976710656:=by omega
 have hm:n≤maxLen:=by unfold maxLen;omega
 clear h;go_enter Tryz.func93,Tryz.ntmps93;go_wp2_with fail;refine(ahead_any r n R _ HH.o).mono ?_;rintro e w1 ⟨go,BA,rfl,hgo,hAh,hb1⟩;have HAH:=Lh hAh;have HB1:=Lh hb1;have HH1:=Lh (HH.o.over hb1);clear hAh hb1;go_wp2_with fail;refine(rchLen_any r n R _ HH1.o).mono ?_;rintro e w1' ⟨rfl,hw⟩;obtain rfl:=hw.symm;go_wp2_with fail;refine(mnew_any n _ hn).mono ?_;rintro e w2 ⟨bT,gT,rfl,hbT,hgT,hsT,hb2⟩;have HST:=Lh hsT;have HB2:=Lh hb2;have HH2:=Lh (HH1.o.over hb2);clear hsT hb2;go_wp2_with fail;refine(rchLen_any r n R _ HH2.o).mono ?_;rintro e w2' ⟨rfl,hw⟩;obtain rfl:=hw.symm;go_upto_region 3 with(at_make;refine wpList_make_zeros slzRows rfl _ _ rfl w2.heap.size n _ rfl rfl rfl hq hm (Nat.le_refl _) ?_;intro w3 ho3 hg3)
 have HB3:=Lh (grown_over' hg3 (fun g hg=>by cases hg));obtain⟨hA3,_⟩:=own_full ho3;obtain⟨gb,hgb⟩:∃ gb,gb=w2.heap.size:=⟨_,rfl⟩;rw [← hgb] at hA3;have HG0:Hid (GrpsAt w3 gb n gb (fun g=>takeTo R g 0) (List.replicate n (.slice none 0 0))):=⟨hA3,by simp,fun g v hv=>by
  obtain rfl:=(List.mem_replicate.1 (List.mem_of_getElem? hv)).2;rw [takeTo_zero];exact gown_nil _ _,fun g g' v v' hv _ _=>by
  obtain rfl:=(List.mem_replicate.1 (List.mem_of_getElem? hv)).2;exact .inl rfl⟩
 have HH3:=Lh (HH2.o.over HB3.o);rw [← hgb];have hgl:w2.heap.size≤gb:=by omega
 have hgl3:gb<w3.heap.size:=HG0.o.arr.arr.lt;clear hA3 ho3 hg3 hgb;go_wp2_with fail;refine(rchLen_any r n R _ HH3.o).mono ?_;rintro e w3' ⟨rfl,hw⟩;obtain rfl:=hw.symm;go_wp2;go_loopw [23] (fun v23 wr=>GsRel w2 R gb n v23 wr) (fun v23 _=>n - (intOf v23).toNat)
 case atStart=>exact⟨0,_,by omega,rfl,HG0,HB3⟩
 obtain⟨i,vs,hi,rfl,HG,HB4⟩:=hrel;rename World=>wr;have HHr:=Lh (HH2.o.over HB4.o)
 by_cases hlt:i<n
 ·
  obtain⟨g,hg⟩:∃ g,groupM R i=g:=⟨_,rfl⟩;have hgn:g<n:=by rw [← hg];exact Nat.lt_of_le_of_lt (groupM_le R i) hlt
  have HGR:=Lh hg;have hgv:g<vs.length:=by rw [HG.o.len];exact hgn
  obtain⟨v,hv⟩:=gol hgv;have HV:=Lh hv;have hov:=HG.o.own g v hv;obtain⟨lf,hlf⟩:∃ lf,lf=takeTo R g i:=⟨_,rfl⟩;simp only [← hlf] at hov;have hll:lf.length≤n:=by rw [hlf];exact Nat.le_trans (takeTo_len R g i) hi
  have HLF:=Lh hlf;have HOV:=Lh hov;obtain⟨p,c,rfl⟩:=own_form hov;have c0:=HG.o.arr.arr.cell hv;have sg:=HG.o.arr.arr.lt;have hvl:=HG.o.len;have hN:lf.length+1≤1099511627776:=by omega
  have hB:gb≤wr.heap.size:=Nat.le_of_lt sg;clear hv hov hlf hg;go_wp2_with fail;refine(rchGroup_any r n i R _ HHr.o hlt hn).mono ?_;rintro e w5 ⟨rfl,hw⟩;obtain rfl:=hw.symm;rw [HGR.o];go_wp2_with (at_builtin;refine wpList_append_newK slIntI rfl _ _ rfl gb _ _ (drf _) 1 _ _ _ HOV.o rfl rfl rfl rfl hN (by decide) hB ?_;intro v9 w9 ho9 hg9 hb9;have hO9:=GOwn.snoc (x:=i) ho9;have HG9:=Lh hg9;have HB9:=Lh hb9;have HO9:=Lh hO9;(obtain⟨lf2,p9,c9,e9,hl2⟩:=own_more hO9);clear hl2;have HE9:=Lh e9;(rw [e9]);have hA9:=HG.o.arr.kept hg9 (HG.o.arr.ne HOV.o (by decide));have f9:=hA9.arr.free g;have c90:=hA9.arr.cell HV.o;have s9:=hA9.arr.lt;clear ho9 hg9 hb9 hO9 e9 hA9);have HPU:=Lh (HG.o.push (F':=fun g=>takeTo R g (i+1)) (i:=i) HV.o (by rw [← HLF.o];exact HO9.o) HG9.o HB9.o (takeTo_step HGR.o).1 (takeTo_step HGR.o).2);have HBn:=Lh ((bgr HB4.o HB4.o.size (HOV.o.base hgl) HG9.o).setCell (p:=⟨gb,g,none⟩) hgl v9);rw [HE9.o] at HPU HBn;go_roundw
  case rel=>exact⟨i+1,_,hlt,by go_num,HPU,HBn⟩
  simp [intOf];omega
 obtain rfl:n=i:=by omega
 rename World=>w4;have HSTr:=Lh (HST.o.over HB4.o);have HB5:=Lh (bvo HB2.o HB4.o);have hw4:w.heap.size≤w4.heap.size:=by have:=HB1.o.size;have:=HB2.o.size;have:=HB4.o.size;omega
 have hw14:w1.heap.size≤w4.heap.size:=HB5.o.size;clear HST HB4 HHr HG0 HH3 HB3;go_wp2;go_loopw [8] (fun v8 wr=>ToRel w1 w4 R bT gT n v8 wr) (fun v8 _=>n - slLen v8)
 case atStart=>exact⟨0,[],none,0,zerosW n,rfl,rfl,⟨gown_nil _ _,HSTr.o,zerosW_ok hn,fun j=>by rw [zerosW_bit];simp,World.grownBy.refl _ _,HB5.o⟩⟩
 obtain⟨c,l,p,k,ws,HL,rfl,HT⟩:=hrel;rename World=>wo;have hln:l.length≤n:=by rw [HL.o];exact ord_len R n c
 have HRo:=Lh (HH1.o.over HT.o.below)
 by_cases hlo:l.length<n
 rotate_left
 ·
  have d1:decide ((l.length:Int)<(n:Int))=false:=by simp;omega
  have d2:decide (l.length<n)=false:=by simp;omega
  have HE:Hid (l=orderM R n):=by show _=_;rw [HL.o];exact order_done R n (by rw [← HL.o];omega)
  have HF1:=Lh (HT.o.own.base hw4);have HBe:=Lh (bvo HB1.o HT.o.below);go_wp2_with fail;refine(rchLen_any r n R _ HRo.o).mono ?_;rintro e w5 ⟨rfl,hw⟩;obtain rfl:=hw.symm;go_wp2;go_ret;exact⟨_,rfl,(by rw [← HE.o];exact HF1.o),HBe.o⟩
 have d1:decide ((l.length:Int)<(n:Int))=true:=by simp;omega
 have d2:decide (l.length<n)=true:=by simp [hlo]
 have HPL:Hid ((∀ g',g'<n→¬ MayTake R n l g')→False):=fun q=>pick_lt (R:=R) (n:=n) (c:=c) (by rw [← HL.o];exact hlo) (by rw [← HL.o];exact q);go_wp2_with fail;refine(rchLen_any r n R _ HRo.o).mono ?_;rintro e w5 ⟨rfl,hw⟩;obtain rfl:=hw.symm;go_wp2_with fail;clear d1 d2;go_hide hQ;go_loopw [8,47] (fun v8 v47 wi=>TiRel wo R n l p k v8 v47 wi) (fun _ v47 _=>n - (intOf v47).toNat)
 case atStart=>exact⟨0,by omega,rfl,rfl,Lh (fun g' hg'=>absurd hg' (Nat.not_lt_zero g')),rfl⟩
 obtain⟨g,hg,rfl,rfl,HM,hwx⟩:=hrel;obtain rfl:=hwx;rename World=>wo
 by_cases hlt:g<n
 rotate_left
 ·
  obtain rfl:g=n:=by omega
  exact(HPL.o HM.o).elim
 have HGo:=Lh (HG.o.keep HSTr.o HT.o.grown);obtain⟨v,hv⟩:=gol (xs:=vs) (i:=g) (by rw [HG.o.len];exact hlt);have HV:=Lh hv;have hov:=HGo.o.own g v hv;obtain⟨lg,hlg⟩:∃ lg,lg=takeTo R g n:=⟨_,rfl⟩;simp only [← hlg] at hov;obtain⟨pg,cg,rfl⟩:=own_form hov;obtain⟨m,hmm⟩:∃ m,m=lg.length:=⟨_,rfl⟩;rw [← hmm] at hov;have HOV:=Lh hov;have c0:=HGo.o.arr.arr.cell hv;rw [← hmm] at c0;have sg:=HGo.o.arr.arr.lt;have HLG:=Lh hlg;have HML:=Lh hmm;have hml:m≤n:=by rw [hmm,hlg];exact takeTo_len R g n
 by_cases he:groupM R g=g
 rotate_left
 ·
  have hm0:m=0:=by rw [hmm,hlg,takeTo_nil he];rfl
  have e1:((m:Int) == 0)=true:=by simp [hm0]
  have HN:=Lh (not_may HM.o (.inl he));clear hv hov hmm hlg he hm0;go_wp2;go_roundw
  case rel=>exact⟨g+1,hlt,rfl,by go_num,HN,rfl⟩
  simp [intOf];omega
 have hpos:0<m:=by rw [hmm,hlg];exact takeTo_pos hlt he
 have e1:((m:Int) == 0)=false:=by simp;omega
 have HE2:=Lh he;clear hv hov hmm hlg he;cases hme:memB l g with
 | true =>
  have HMV:=Lh ((has_mem hlt HT.o.bits).trans hme);have HN:=Lh (not_may HM.o (.inr (.inl hme)));clear hme;go_wp2_with fail;refine(mhas_any bT gT n g ws _ HT.o.set HT.o.ok).mono ?_;rintro e w6 ⟨rfl,hw⟩;obtain rfl:=hw.symm;rw [HMV.o];go_wp2;go_roundw
  case rel=>exact⟨g+1,hlt,rfl,by go_num,HN,rfl⟩
  simp [intOf];omega
 | false =>
  have HMV:=Lh ((has_mem hlt HT.o.bits).trans hme);have HAo:=Lh (HAH.o.over HT.o.below);have c1:=HAo.o.arr.arr.cell (ahV_get hlt);rw [if_pos hlt] at c1;have sa:=HAo.o.arr.arr.lt;obtain⟨wa,a1,a2,a3⟩:=HAo.o.sets g hlt;have HA1:=Lh a1;have HA2:=Lh a2;have HWF:=Lh (within_free a3 HT.o.bits);clear a1 a2 a3;cases hfr:freeB R n l g with
  | false =>
   have HWV:=Lh (HWF.o.trans hfr);have HN:=Lh (not_may HM.o (.inr (.inr hfr)));clear hme hfr;go_wp2_with fail;refine(mhas_any bT gT n g ws _ HT.o.set HT.o.ok).mono ?_;rintro e w6 ⟨rfl,hw⟩;obtain rfl:=hw.symm;rw [HMV.o];go_wp2_with fail;refine(mwithin_any (BA g).1 (BA g).2 bT gT n wa ws _ HA1.o HA2.o HT.o.set HT.o.ok).mono ?_;rintro e w7 ⟨rfl,hw⟩;obtain rfl:=hw.symm;rw [HWV.o];go_wp2;go_roundw
   case rel=>exact⟨g+1,hlt,rfl,by go_num,HN,rfl⟩
   simp [intOf];omega
  | true =>
   have HWV:=Lh (HWF.o.trans hfr);have HSTp:=Lh (pick_is (may_of hlt HE2.o hme hfr) HM.o);clear hme hfr;go_wp2_with fail;refine(mhas_any bT gT n g ws _ HT.o.set HT.o.ok).mono ?_;rintro e w6 ⟨rfl,hw⟩;obtain rfl:=hw.symm;rw [HMV.o];go_wp2_with fail;refine(mwithin_any (BA g).1 (BA g).2 bT gT n wa ws _ HA1.o HA2.o HT.o.set HT.o.ok).mono ?_;rintro e w7 ⟨rfl,hw⟩;obtain rfl:=hw.symm;rw [HWV.o];go_wp2_with fail;clear c0 c1 sg sa e1;go_hide hQ2;go_loopw [71] (fun v71 wi=>TpRel wo bT gT n m l lg v71 wi) (fun v71 _=>m - (intOf v71).toNat)
   case atStart=>exact⟨0,ws,by omega,rfl,HT.o.set,HT.o.ok,Lh (by rw [List.take_zero,List.append_nil];exact HT.o.bits),World.grownBy.refl _ _⟩
   obtain⟨q,ws2,hq,rfl,HS2,HO2,HBt,HGw⟩:=hrel;rename World=>wq;have hovq:GOwn encI 1 3 wq gb (.slice pg m cg) lg:=own_kept HOV.o HGw.o (HT.o.set.wordsT.ne HOV.o (by decide))
   by_cases hql:q<m
   ·
    obtain⟨x,hx⟩:=gol (xs:=lg) (i:=q) (by rw [← HML.o];exact hql);have hxn:x<n:=takeTo_lt (R:=R) (g:=g) (by rw [← HLG.o];exact List.mem_of_getElem? hx);obtain⟨a7,c7,e7,_,_,hc7⟩:=irow_at hovq.row;cases e7
    obtain⟨b6,off6,rfl,_,_⟩:=hc7.resolve_left (by rw [← HML.o];omega);have q0:=(own_int hovq hx).2;have sq:=(own_int hovq hx).1;have HX:=Lh hx;clear hx hovq hc7;go_wp2_with fail;refine(mput_any bT gT n x ws2 _ HS2.o HO2.o).mono ?_;rintro e w8 ⟨okp,ws3,rfl,s1,s2,s3,hg8,_⟩;have HS3:=Lh s1;have HO3:=Lh s2;have HBn:=Lh (put_bits HX.o hxn HBt.o s3);have HGn:=Lh (gtr HGw.o hg8);clear s1 s2 s3 hg8;go_wp2;go_roundw
    case rel=>exact⟨q+1,ws3,hql,by go_num,HS3,HO3,HBn,HGn⟩
    simp [intOf];omega
   obtain rfl:q=m:=(by omega);have hbn:=HBt.o;rw [show lg.take q=lg from by rw [HML.o];exact List.take_length] at hbn;have HBn:=Lh hbn;have HF6:=Lh (own_kept HT.o.own HGw.o (HT.o.set.wordsT.ne HT.o.own (by decide)));have HRow:=Lh (row_len HML.o hovq.row);have HGq:=Lh (gtr HT.o.grown HGw.o);have HBq:=Lh (HT.o.below.grown HGw.o HT.o.below.size fun q hq=>by cases hq;exact hgT);have hN:l.length+q≤1099511627776:=(by omega);have hB:w4.heap.size≤wq.heap.size:=HGq.o.size;have hl2:=HSTp.o;rw [← HLG.o] at hl2;have HL2:Hid (stepO R n l=orderTo R n (c+1)):=(by show _=_;rw [HL.o];rfl);have hgrow:l.length<(stepO R n l).length:=(by obtain⟨_,_,_,q⟩:=step_grows (orderTo_whole R n c) (by rw [← HL.o];exact hlo);rw [← HL.o] at q;exact q);generalize stepO R n l=l2 at *;have HCat:=Lh hl2.symm;clear hbn hovq hl2;go_wp2;subst hQ2;go_wp2_with (at_builtin;refine wpList_append_old slIntI rfl _ _ rfl w4.heap.size (.slice p l.length k) l.length (l.flatMap encI) HF6.o rfl (.slice pg q cg) q (lg.flatMap encI) HRow.o rfl (oneInts lg) hN (by decide) hB ?_;intro v9 w9 ho9 hg9;(obtain⟨p9,c9,e9,hO9⟩:=own_form2 (own_cat HML.o ho9) HCat.o);subst e9;have HO9:=Lh hO9;have HG9:=Lh hg9;clear ho9 hg9 hO9);subst hQ;go_wp2;go_roundw
   case rel=>exact⟨c+1,l2,p9,c9,ws2,HL2,rfl,⟨HO9.o,HS2.o.grown HG9.o (HS2.o.headT.ne HF6.o (by decide)) (HS2.o.wordsT.ne HF6.o (by decide)),HO2.o,fun j=>by rw [← HCat.o];exact HBn.o j,grown_own HGq.o HF6.o (Nat.le_refl _) HG9.o,bgr HBq.o HBq.o.size (HF6.o.base hw14) HG9.o⟩⟩
   simp [slLen];omega
end Go.Proofs.YtjccmcgglfncdaaGreatDoor
namespace Go.Proofs.YtjccmcgglfncdaaGreatDoor
open Go Go.RowKit
section
theorem cmpVid_lt1{a b:VidM}(h:packVid a<packVid b):cmpVid a b = -1:=cmpN_lt h
theorem cmpVid_same1(a:VidM):cmpVid a a=0:=cmpN_eq rfl
theorem cmpVid_nlt1{a b:VidM}(h:¬ packVid a<packVid b):decide (cmpVid a b<0)=false:=by rw [decide_eq_false_iff_not];unfold cmpVid;rw [cmpN_neg];exact h
attribute [local irreducible] cmpVid
theorem lcmp_any(x:VertM)(v:VidM)(w:World):Calls Tryz.prog 89 #[vertV x,vidV v] w fun e w'=>e=.returned (.int .i64 (cmpVid x.id v))∧Be w w':=by have HA:=Lh ((anw w (cX x) 101).alloc (.cells (cV v) 74));have HC:=Lh (an2 w (.cells (cX x) 101) (cV v) 74);have HB:=Lh ((bnew (w:=w) (.cells (cX x) 101)).alloc (by simp) (.cells (cV v) 74));unfold vertV vidV;go_enter Tryz.func89,Tryz.ntmps89;go_upto_region 1 with fail;generalize (w.alloc (.cells (cX x) 101)).alloc (.cells (cV v) 74)=w0 at *;obtain⟨c0,c1,c2,c3,c4,c5,c6,c7,c8,sc⟩:=HA.o.c9;obtain⟨d0,d1,d2,sd⟩:=HC.o.c3;go_wp2_with fail;refine(vcmpG x.id v _).mono ?_;rintro e w1 ⟨rfl,hg⟩;have HB1:=Lh (bvo HB.o hg.below);clear hg;go_wp2;go_ret;exact⟨rfl,HB1.o⟩
theorem key_lt{l:List VertM}(hs:Rises vertKey l){a b:Nat}{x y:VertM}(ha:l[a]? = some x)(hb:l[b]? = some y)(h:packVid x.id<packVid y.id):a<b:=by
 obtain⟨h1,e1⟩:=List.getElem?_eq_some_iff.1 ha;obtain⟨h2,e2⟩:=List.getElem?_eq_some_iff.1 hb;rcases Nat.lt_trichotomy a b with q|q|q
 · exact q
 · subst q;rw [e1] at e2;subst e2;omega
 have:=List.pairwise_iff_getElem.1 hs b a h2 h1 q;rw [e1,e2] at this;unfold vertKey at this;omega
theorem key_ge{l:List VertM}(hs:Rises vertKey l){a b:Nat}{x y:VertM}(ha:l[a]? = some x)(hb:l[b]? = some y)(h:¬ packVid x.id<packVid y.id):b≤a:=by obtain⟨h1,e1⟩:=List.getElem?_eq_some_iff.1 ha;obtain⟨h2,e2⟩:=List.getElem?_eq_some_iff.1 hb;refine Nat.le_of_not_lt fun q=>h ?_;have:=List.pairwise_iff_getElem.1 hs a b h1 h2 q;rw [e1,e2] at this;exact this
def BvRel(w0:World)(k0 n:Nat)(iv jv:Value)(wr:World):Prop:=∃ i j:Nat,iv=.int .i64 i∧jv=.int .i64 j∧i≤k0∧k0≤j∧j≤n∧Hid (Be w0 wr)
theorem bsV_any(lv:Value)(l:List VertM)(v:VidM)(w:World)(hv:GRow encVert 9 w lv l)(hs:Rises vertKey l)(hm:v∈l.map (·.id))(hn:l.length≤1000000) :
  Calls Tryz.prog 88 #[lv,vidV v,.func (.func 89) #[] #[]] w fun e w'=>e=.returned (.tuple #[.int .i64 (placeM l v:Int),.bool true])∧Be w w':=by
 obtain⟨a,cap,rfl,h1,h2,hc⟩:=hv.at encVert_len;unfold maxLen at h2;have HC:=Lh hc;have HS:=Lh hs;obtain⟨y,hy,hyv⟩:=place_get hm;obtain⟨k0,hk0⟩:∃ k0,placeM l v=k0:=⟨_,rfl⟩;rw [hk0] at hy ⊢;have hkl:=(List.getElem?_eq_some_iff.1 hy).1;have HY:=Lh hy;have HYV:=Lh hyv;have HF:=Lh (anw w (cV v) 74);have HB:=Lh (bnew (w:=w) (.cells (cV v) 74));clear hv hc hs hm hy hyv hk0;unfold vidV;go_enter Tryz.func88,Tryz.ntmps88;go_upto_region 1 with fail;generalize w.alloc (.cells (cV v) 74)=w0 at *;go_wp2;go_loopw [9,10] (fun v9 v10 wr=>BvRel w0 k0 l.length v9 v10 wr) (fun i j _=>(intOf j).toNat - (intOf i).toNat)
 case atStart=>exact⟨0,l.length,rfl,rfl,by omega,by omega,Nat.le_refl _,Below.refl _ _⟩
 obtain⟨i,j,rfl,rfl,hi,hj,hjl,hbl⟩:=hrel;have HBr:=Lh (bvo HB.o hbl.o);have HFr:=Lh (HF.o.over hbl.o);obtain⟨f0,f1,f2,sf⟩:=HFr.o.c3
 by_cases hlt:i<j
 rotate_left
 ·
  obtain rfl:k0=i:=by omega
  obtain rfl:j=k0:=by omega
  obtain⟨b,off,rfl,sb,hcb⟩:=HC.o.resolve_left (by omega);have HRx:=Lh (hcb j y HY.o wr HBr.o);obtain⟨x0,x1,x2,x3,x4,x5,x6,x7,x8,sx⟩:=rc9 HRx.o;have HE:Hid (cmpVid y.id v=0):=by show _=_;rw [HYV.o];exact cmpVid_same1 v
  have d1:decide ((j:Int)<(l.length:Int))=true:=by simp;omega
  have d2:decide (j<l.length)=true:=by simp [hkl]
  clear hcb;go_wp2_with fail;refine wlo 16 fun hcur=>?_;repeat(first|refine lxq ?_|(refine lxl rfl ?_;go_wp2_with (first|(go_at_call 89;(with_reducible refine(lcmp_any y v _).mono ?_);rintro e w' ⟨rfl,hb⟩;rw [HE.o];have hcur:=bvo hcur hb));refine⟨iov hcur,?_⟩))
  refine lxe ?_;have HB4:=Lh (bvo hbl.o hcur);clear hcur;go_wp2;go_ret2;exact⟨rfl,bvo HB.o HB4.o⟩
 obtain⟨q,hq⟩:∃ q,(i+j) / 2=q:=⟨_,rfl⟩;have eq':((i:Int)+(j:Int)) / 2=(q:Int):=by omega
 have hiq:i≤q:=by omega
 have hqj:q<j:=by omega
 obtain⟨b,off,rfl,sb,hcb⟩:=HC.o.resolve_left (by omega);obtain⟨x,hx⟩:=gol (xs:=l) (i:=q) (by omega);have HX:=Lh hx;have HRx:=Lh (hcb q x hx wr HBr.o);obtain⟨x0,x1,x2,x3,x4,x5,x6,x7,x8,sx⟩:=rc9 HRx.o;clear hcb hx hq
 by_cases hp:packVid x.id<packVid v
 ·
  have HE:=Lh (cmpVid_lt1 hp);have hqk:q<k0:=key_lt HS.o HX.o HY.o (by rw [HYV.o];exact hp);clear hp;go_wp2_with fail;refine wlo 8 fun hcur=>?_;repeat(first|refine lxq ?_|(refine lxl rfl ?_;go_wp2_with (first|(go_at_call 89;(with_reducible refine(lcmp_any x v _).mono ?_);rintro e w' ⟨rfl,hb⟩;rw [HE.o];have hcur:=bvo hcur hb));refine⟨iov hcur,?_⟩))
  refine lxe ?_;have HB4:=Lh (bvo hbl.o hcur);clear hcur;go_wp2;go_roundw
  case rel=>exact⟨q+1,j,by go_num,rfl,hqk,hj,hjl,HB4⟩
  simp [intOf];omega
 have HE:=Lh (cmpVid_nlt1 hp);have hqk:k0≤q:=key_ge HS.o HX.o HY.o (by rw [HYV.o];exact hp);have hnn:=HE.o;clear hp;go_wp2_with fail;refine wlo 8 fun hcur=>?_;repeat(first|refine lxq ?_|(refine lxl rfl ?_;go_wp2_with (first|(go_at_call 89;(with_reducible refine(lcmp_any x v _).mono ?_);rintro e w' ⟨rfl,hb⟩;have hcur:=bvo hcur hb));refine⟨iov hcur,?_⟩))
 refine lxe ?_;have HB4:=Lh (bvo hbl.o hcur);clear hcur;go_wp2;go_roundw
 case rel=>exact⟨i,q,rfl,rfl,hi,hqk,by omega,HB4⟩
 simp [intOf];omega
theorem lat_any(v:VidM)(c s:Nat)(lp:Option Addr)(lc:Nat)(u1 u2:Value)(l:List VertM)(w:World)(hC:Arr w c [.pointer (some ⟨s,0,none⟩)])(hS:Arr w s [.slice lp l.length lc,u1,u2])(hv:GRow encVert 9 w (.slice lp l.length lc) l)
  (hs:Rises vertKey l) (hm:v∈l.map (·.id)) (hn:l.length≤1000000) :
  Calls Tryz.prog 87 #[vidV v,.pointer (some ⟨c,0,none⟩)] w fun e w'=>e=.returned (.int .i64 (placeM l v:Int))∧Be w w':=by
 have HF:=Lh (anw w (cV v) 74);have HB:=Lh (bnew (w:=w) (.cells (cV v) 74));have HC:=Lh (hC.alloc (.cells (cV v) 74));have HS:=Lh (hS.alloc (.cells (cV v) 74));have HV:=Lh (hv.over (bnew (w:=w) (.cells (cV v) 74)));have HR:=Lh (And.intro hs hm);clear hC hS hv hs hm;unfold vidV;go_enter Tryz.func87,Tryz.ntmps87;go_upto_region 1 with fail;generalize w.alloc (.cells (cV v) 74)=w0 at *;obtain⟨f0,f1,f2,sf⟩:=HF.o.c3;obtain⟨c0,sc⟩:=HC.o.c1;obtain⟨s0,ss⟩:=HS.o.c1;refine wlo 11 fun hcur=>?_;repeat(first|refine lxq ?_|(refine lxl rfl ?_;go_wp2_with (first|(go_at_call 88;(with_reducible refine(bsV_any _ l v _ (HV.o.over hcur) HR.o.1 HR.o.2 hn).mono ?_);rintro e w' ⟨rfl,hb⟩;have hcur:=bvo hcur hb));refine⟨iov hcur,?_⟩))
 refine lxe ?_;have HB4:=Lh (bvo HB.o hcur);clear hcur;go_wp2;go_ret;exact⟨rfl,HB4.o⟩
end
def laterP(a b:PidM):Int:=if a=b then 0 else if a.seq.toNat<b.seq.toNat then -1 else if a.seq.toNat=b.seq.toNat∧a.author.toNat<b.author.toNat then -1 else 1
theorem laterP_key(a b:PidM):laterP a b=cmpN (a.seq.toNat*256+a.author.toNat) (b.seq.toNat*256+b.author.toNat):=by
 have h1:=a.author.toNat_lt;have h2:=b.author.toNat_lt;unfold laterP
 by_cases h:a=b
 · rw [if_pos h,h,cmpN_eq rfl]
 have hne:¬ (a.seq.toNat=b.seq.toNat∧a.author.toNat=b.author.toNat):=fun⟨e1,e2⟩=>h (by obtain⟨a1,a2⟩:=a;obtain⟨b1,b2⟩:=b;simp at e1 e2;rw [UInt16.toNat_inj.1 e1,UInt8.toNat_inj.1 e2]);rw [if_neg h]
 by_cases h3:a.seq.toNat<b.seq.toNat
 · rw [if_pos h3,cmpN_lt (by omega)]
 rw [if_neg h3]
 by_cases h4:a.seq.toNat=b.seq.toNat∧a.author.toNat<b.author.toNat
 · rw [if_pos h4,cmpN_lt (by omega)]
 rw [if_neg h4,cmpN_gt (by omega)]
def orI(x y:Int):Int:=if x=0 then y else x
theorem or_lex(A B m n:Nat)(h1:m<256)(h2:n<256):orI (cmpN A B) (cmpN m n)=cmpN (A*256+m) (B*256+n):=by
 unfold orI;rcases Nat.lt_trichotomy A B with h|h|h
 ·
  have h3:A*256+m<B*256+n:=by omega
  rw [cmpN_lt h,cmpN_lt h3,if_neg (by decide)]
 ·
  subst h;rw [cmpN_eq rfl,if_pos rfl];rcases Nat.lt_trichotomy m n with h3|h3|h3
  · have h4:A*256+m<A*256+n:=(by omega);rw [cmpN_lt h3,cmpN_lt h4]
  · subst h3;rw [cmpN_eq rfl,cmpN_eq rfl]
  have h4:A*256+n<A*256+m:=by omega
  rw [cmpN_gt h3,cmpN_gt h4]
 have h3:B*256+n<A*256+m:=by omega
 rw [cmpN_gt h,cmpN_gt h3,if_neg (by decide)]
theorem later_or(a b:VidM):orI (laterP a.pid b.pid) (cmpN a.n.toNat b.n.toNat)=cmpLater a b:=by rw [laterP_key];exact or_lex _ _ _ _ a.n.toNat_lt b.n.toNat_lt
attribute [local irreducible] laterP cmpN orI
theorem platerG(a b:PidM)(w:World):Calls Tryz.prog 215 #[pidV a,pidV b] w fun e w'=>e=.returned (.int .i64 (laterP a b))∧Grew w w':=by
 have HA:=Lh ((anw w (cP a) 25).alloc (.cells (cP b) 25));have HC:=Lh (an2 w (.cells (cP a) 25) (cP b) 25);have HB:=Lh (((Grew.refl w).alloc (.cells (cP a) 25)).alloc (.cells (cP b) 25));have gd:=fun p q xs ys w=>guard_pid .eql p q xs ys w;have s1:(a.seq.toNat:Int)<65536:=by have:=a.seq.toNat_lt;omega
 have s2:(b.seq.toNat:Int)<65536:=by have:=b.seq.toNat_lt;omega
 by_cases h0:a=b
 ·
  have e0:=eql_pid a b true (by simp [h0]);have HV:Hid (laterP a b=0):=by show _=_;unfold laterP;rw [if_pos h0]
  clear h0;unfold pidV at e0 ⊢;go_enter Tryz.func215,Tryz.ntmps215;go_upto_region 1 with fail;generalize (w.alloc (.cells (cP a) 25)).alloc (.cells (cP b) 25)=w0 at *;obtain⟨c0,c1,sc⟩:=HA.o.c2;obtain⟨d0,d1,sd⟩:=HC.o.c2;go_wp2;go_ret;exact⟨ret_int HV.o.symm,HB.o⟩
 have e0:=eql_pid a b false (by simp [h0]);unfold pidV at e0 ⊢
 by_cases h1:a.seq.toNat<b.seq.toNat
 ·
  have d1:decide (a.seq.toNat<b.seq.toNat)=true:=by simpa using h1
  have HV:Hid (laterP a b = -1):=by show _=_;unfold laterP;rw [if_neg h0,if_pos h1]
  clear h0;go_enter Tryz.func215,Tryz.ntmps215;go_upto_region 1 with fail;generalize (w.alloc (.cells (cP a) 25)).alloc (.cells (cP b) 25)=w0 at *;obtain⟨c0,c1,sc⟩:=HA.o.c2;obtain⟨d0,d1,sd⟩:=HC.o.c2;go_wp2;go_ret;exact⟨ret_int HV.o.symm,HB.o⟩
 have d1:decide (a.seq.toNat<b.seq.toNat)=false:=by simpa using h1
 by_cases h2:a.seq.toNat=b.seq.toNat
 rotate_left
 ·
  have d2:((a.seq.toNat:Int) == (b.seq.toNat:Int))=false:=by simp;omega
  have HV:Hid (laterP a b=1):=by show _=_;unfold laterP;rw [if_neg h0,if_neg h1,if_neg (fun q=>h2 q.1)]
  clear h0 h1 h2;go_enter Tryz.func215,Tryz.ntmps215;go_upto_region 1 with fail;generalize (w.alloc (.cells (cP a) 25)).alloc (.cells (cP b) 25)=w0 at *;obtain⟨c0,c1,sc⟩:=HA.o.c2;obtain⟨d0,d1,sd⟩:=HC.o.c2;go_wp2;go_ret;exact⟨ret_int HV.o.symm,HB.o⟩
 have d2:((a.seq.toNat:Int) == (b.seq.toNat:Int))=true:=by simp [h2]
 by_cases h3:a.author.toNat<b.author.toNat
 ·
  have d3:decide (a.author.toNat<b.author.toNat)=true:=by simpa using h3
  have HV:Hid (laterP a b = -1):=by show _=_;unfold laterP;rw [if_neg h0,if_neg h1,if_pos ⟨h2,h3⟩]
  clear h0 h1 h2;go_enter Tryz.func215,Tryz.ntmps215;go_upto_region 1 with fail;generalize (w.alloc (.cells (cP a) 25)).alloc (.cells (cP b) 25)=w0 at *;obtain⟨c0,c1,sc⟩:=HA.o.c2;obtain⟨d0,d1,sd⟩:=HC.o.c2;go_wp2;go_ret;exact⟨ret_int HV.o.symm,HB.o⟩
 have d3:decide (a.author.toNat<b.author.toNat)=false:=by simpa using h3
 have HV:Hid (laterP a b=1):=by show _=_;unfold laterP;rw [if_neg h0,if_neg h1,if_neg (fun q=>h3 q.2)]
 clear h0 h1 h2;go_enter Tryz.func215,Tryz.ntmps215;go_upto_region 1 with fail;generalize (w.alloc (.cells (cP a) 25)).alloc (.cells (cP b) 25)=w0 at *;obtain⟨c0,c1,sc⟩:=HA.o.c2;obtain⟨d0,d1,sd⟩:=HC.o.c2;go_wp2;go_ret;exact⟨ret_int HV.o.symm,HB.o⟩
theorem nan8_any(a:Nat)(w:World):Calls Tryz.prog 266 #[.int .u8 a] w fun e w'=>e=.returned (.bool false)∧w'=w:=by go_enter Tryz.func266,Tryz.ntmps266;go_wp2;go_ret;exact⟨rfl,rfl⟩
theorem compare8_any(a b:Nat)(w:World):Calls Tryz.prog 216 #[.int .u8 a,.int .u8 b] w fun e w'=>e=.returned (.int .i64 (cmpN a b))∧w'=w:=by
 by_cases h1:a<b
 ·
  have HC:=Lh (cmpN_lt h1);have d1:decide (a<b)=true:=by simpa using h1
  go_enter Tryz.func216,Tryz.ntmps216;go_wp2_with (go_at_call 266;(with_reducible refine(nan8_any _ _).mono ?_);rintro e w' ⟨rfl,rfl⟩);go_ret;exact⟨ret_int HC.o.symm,rfl⟩
 have d1:decide (a<b)=false:=by simpa using h1
 by_cases h2:b<a
 ·
  have HC:=Lh (cmpN_gt h2);have d2:decide (b<a)=true:=by simpa using h2
  go_enter Tryz.func216,Tryz.ntmps216;go_wp2_with (go_at_call 266;(with_reducible refine(nan8_any _ _).mono ?_);rintro e w' ⟨rfl,rfl⟩);go_ret;exact⟨ret_int HC.o.symm,rfl⟩
 have HC:=Lh (cmpN_eq (show a=b by omega));have d2:decide (b<a)=false:=by simpa using h2
 go_enter Tryz.func216,Tryz.ntmps216;go_wp2_with (go_at_call 266;(with_reducible refine(nan8_any _ _).mono ?_);rintro e w' ⟨rfl,rfl⟩);go_ret;exact⟨ret_int HC.o.symm,rfl⟩
theorem orInt_any(x y:Int)(b:Nat)(w:World)(hA:Arr w b [.int .i64 x,.int .i64 y]):Calls Tryz.prog 206 #[.slice (some ⟨b,0,none⟩) 2 2] w fun e w'=>e=.returned (.int .i64 (orI x y))∧w'=w:=by
 obtain⟨c0,c1,_⟩:=hA.c2;clear hA;go_enter Tryz.func206,Tryz.ntmps206;go_wp2;go_loopw [8] (fun v8 wr=>∃ k:Nat,k≤2∧v8=.int .i64 k∧Hid (1≤k→x=0)∧Hid (2≤k→y=0)∧wr=w) (fun v8 _=>2 - (intOf v8).toNat)
 case atStart=>exact⟨0,by omega,rfl,Lh (fun h=>by omega),Lh (fun h=>by omega),rfl⟩
 obtain⟨k,hk,rfl,HX,HY,rfl⟩:=hrel
 by_cases k0:k=0
 ·
  subst k0
  by_cases hx:x=0
  ·
   have d:(x == 0)=true:=(by simp [hx]);have H1:Hid (1≤1→x=0):=fun _=>hx;have H2:Hid (2≤1→y=0):=fun h=>by omega
   clear hx;go_wp2;go_roundw
   case rel=>exact⟨1,by omega,by go_num,H1,H2,trivial⟩
   simp [intOf]
  have d:(x == 0)=false:=by simp [hx]
  have HV:Hid (orI x y=x):=by show _=_;unfold orI;rw [if_neg hx]
  clear hx;go_wp2;go_ret;exact⟨ret_int HV.o.symm,rfl⟩
 by_cases k1:k=1
 ·
  subst k1;have hx:=HX.o (Nat.le_refl _)
  by_cases hy:y=0
  ·
   have d:(y == 0)=true:=(by simp [hy]);have H1:Hid (1≤2→x=0):=fun _=>hx;have H2:Hid (2≤2→y=0):=fun _=>hy;clear hx hy;go_wp2;go_roundw
   case rel=>exact⟨2,by omega,by go_num,H1,H2,trivial⟩
   simp [intOf]
  have d:(y == 0)=false:=by simp [hy]
  have HV:Hid (orI x y=y):=by show _=_;unfold orI;rw [if_pos hx]
  clear hx hy;go_wp2;go_ret;exact⟨ret_int HV.o.symm,rfl⟩
 obtain rfl:k=2:=by omega
 have HV:Hid (orI x y=0):=by show _=_;unfold orI;rw [if_pos (HX.o (by omega)),HY.o (Nat.le_refl _)]
 go_wp2;go_ret;exact⟨ret_int HV.o.symm,rfl⟩
theorem vlaterG(a b:VidM)(w:World):Calls Tryz.prog 142 #[vidV a,vidV b] w fun e w'=>e=.returned (.int .i64 (cmpLater a b))∧Grew w w':=by
 have HA:=Lh ((anw w (cV a) 74).alloc (.cells (cV b) 74));have HC:=Lh (an2 w (.cells (cV a) 74) (cV b) 74);have HB:=Lh (((Grew.refl w).alloc (.cells (cV a) 74)).alloc (.cells (cV b) 74));have HV:=Lh (later_or a b);unfold vidV;go_enter Tryz.func142,Tryz.ntmps142;go_upto_region 1 with fail;generalize (w.alloc (.cells (cV a) 74)).alloc (.cells (cV b) 74)=w0 at *;obtain⟨c0,c1,c2,sc⟩:=HA.o.c3;obtain⟨d0,d1,d2,sd⟩:=HC.o.c3;have hcur:Grew w0 w0.drew:=(Grew.refl _).drew;refine wlex (C:=IsGrew w0) 13 [] (by kernel_rfl) (by kernel_rfl) (isGrew_of hcur) ?_;simp only [Tsc,Tz,Dsc,Dz];repeat(first|refine lxq ?_|(refine lxl rfl ?_;go_wp2_with (first|(go_at_call 215;(with_reducible refine(platerG a.pid b.pid _).mono ?_);rintro e w' ⟨rfl,hb⟩;replace hcur:=hcur.trans hb;clear hb)|(go_at_call 216;(with_reducible refine(compare8_any _ _ _).mono ?_);rintro e w' ⟨rfl,rfl⟩)|(go_at_call 206;refine(orInt_any _ _ _ _ (anw _ _ _)).mono ?_;rintro e w' ⟨rfl,rfl⟩));refine⟨isGrew_of (by first|exact hcur|exact hcur.alloc _),?_⟩))
 refine lxe ?_;go_wp2;go_ret;exact⟨ret_int HV.o,HB.o.trans (by first|exact hcur|exact hcur.alloc _)⟩
end Go.Proofs.YtjccmcgglfncdaaGreatDoor
