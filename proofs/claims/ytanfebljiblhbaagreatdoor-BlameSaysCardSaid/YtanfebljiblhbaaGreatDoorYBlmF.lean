/- Part of the proof that of any graph each file's lines, whose they are, and how many lines any author has, are as the document says. No conditions. -/
import Derived.Test.YtanfebljiblhbaaGreatDoorYBlmE
import Derived.Test.YtanfebljiblhbaaGreatDoorYRnB
import Derived.Sort.LoopGhostIn
set_option linter.unusedVariables false
set_option linter.unusedSimpArgs false
set_option maxRecDepth 100000
set_option maxHeartbeats 40000000
namespace Go.Proofs.YtanfebljiblhbaaGreatDoor
open Go Go.RowKit Go.Shelf
variable{L:List PatchM}
attribute [local go_sem] Oper.semAt_some
def cntA(a:UInt8)(t:List TLine):Nat:=(t.filter fun x=>decide (x.id≠noVid) && decide (x.id.pid.author=a)).length
theorem cntA_snoc(a:UInt8)(t:List TLine)(x:TLine):cntA a (t++[x])=cntA a t+if(decide (x.id≠noVid) && decide (x.id.pid.author=a))=true then 1 else 0:=by unfold cntA;rw [List.filter_append,List.length_append,List.filter_cons];split <;> simp
theorem cntA_le(a:UInt8)(t:List TLine):cntA a t≤t.length:=List.length_filter_le _ _
noncomputable def ofN(L:List PatchM)(n:NameM):List TLine:=toldL (linesM L n.file) (relM L n.file)
noncomputable def byTo(L:List PatchM)(a:UInt8)(k:Nat):Nat:=(((allM L).take k).map fun n=>cntA a (ofN L n)).sum
noncomputable def byM(L:List PatchM)(a:UInt8):Nat:=byTo L a (allM L).length
theorem byTo_succ{a:UInt8}{k:Nat}{n:NameM}(h:(allM L)[k]? = some n):byTo L a (k+1)=byTo L a k+cntA a (ofN L n):=by unfold byTo;rw [take_one h,List.map_append,List.sum_append];simp
theorem ofN_few(h:(idsM L).length≤65536)(n:NameM):(ofN L n).length≤262144:=by have h1:=toldL_few (linesM L n.file) (relM L n.file);have h2:=lines_few (file:=n.file) h;unfold ofN;omega
theorem byTo_le(h:(idsM L).length≤65536)(a:UInt8):∀ k,byTo L a k≤k*262144
 | 0=>by simp [byTo]
 | k+1=>by
  rcases Nat.lt_or_ge k (allM L).length with hk|hk
  · obtain⟨n,hn⟩:=gol hk;rw [byTo_succ hn];have:=byTo_le h a k;have:=cntA_le a (ofN L n);have:=ofN_few h n;omega
  have:byTo L a (k+1)=byTo L a k:=by unfold byTo;rw [List.take_of_length_le (by omega),List.take_of_length_le hk]
  have:=byTo_le h a k;omega
def ByI(W0:World)(g:Nat)(c:List (Nat × TLine)→Nat)(O:Nat→Prop)(pre:List (Nat × TLine))(W:World):Prop:=
 (∀ k,O k→W0.heap.size≤k)∧ArrT W g 3 [.int .i64 (c pre:Int)]∧W0.grownBy W (some g)
theorem byi_keep{W0:World}{g:Nat}{c:List (Nat × TLine)→Nat}(hg:g<W0.heap.size)(O O':Nat→Prop)(pre:List (Nat × TLine))(A B:World)(h:ByI W0 g c O pre A)(ho:MidOut O A B)(hn:∀ k,O' k→(O k∨A.heap.size≤k)∧k<B.heap.size):ByI W0 g c O' pre B:=by
 obtain⟨h1,h2,h3⟩:=h;have hno:∀ k,k<W0.heap.size→¬ O k:=fun k q q2=>by have:=h1 k q2;omega
 have hs:=h3.size;refine⟨fun k q => ?_,(ho.block g (by omega) (hno g hg)).trans h2,⟨ho.os.trans h3.os,ho.tape.trans h3.tape,ho.output.trans h3.output,Nat.le_trans h3.size ho.size,fun k q q2=>(ho.block k (by omega) (hno k q)).trans (h3.block k q q2)⟩⟩;rcases (hn k q).1 with q|q
 · exact h1 k q
 omega
def marksD(Ds:List Nat):List Deferred:=Ds.map fun D=>{target:=.collected D,args:=#[]}
def MarksAt(base:Nat)(Ds:List Nat)(W:World):Prop:=(∀ D∈Ds,base≤D∧D<W.heap.size∧W.heap[D]? = some (.deferred (some [])))∧Ds.Pairwise (· > ·)
theorem marks_grown{base g:Nat}{Ds:List Nat}{W W':World}(h:MarksAt base Ds W)(hg:W.grownBy W' (some g))(hb:g<base):MarksAt base Ds W':=
 ⟨fun D hD=>by obtain⟨h1,h2,h3⟩:=h.1 D hD;exact⟨h1,Nat.lt_of_lt_of_le h2 hg.size,(hg.block D h2 (fun e=>by cases e;omega)).trans h3⟩,h.2⟩
theorem leaves_marks{P:Program}{fn:Func}{tmps:Array Value}{R:Ending→World→Prop}{n base:Nat}:∀(Ds:List Nat) (w:World),MarksAt base Ds w→(∀ w',Below base w w'→LeavesIn Fence.wide n P fn tmps R [] .returning w')→LeavesInM Fence.wide n P fn tmps R (marksD Ds) .returning w
 | [],w,_,h=>h w (Below.refl _ _)
 | D :: Ds,w,hm,h=>by obtain⟨hD1,hD2,hD3⟩:=hm.1 D (List.mem_cons_self ..);have hp:=List.pairwise_cons.1 hm.2;refine⟨by simp,.inl ⟨D,_,rfl,run_takeDeferred hD3,leaves_marks Ds _ ⟨fun D' hD' => ?_,hp.2⟩ fun w' hb=>h w' (((Below.refl base w).grown (grownBy_putObj' w D _) (by omega) (fun k e=>by cases e;exact hD1)).trans hb)⟩⟩;obtain⟨q1,q2,q3⟩:=hm.1 D' (List.mem_cons_of_mem _ hD');have:=hp.1 D' hD';exact⟨q1,by rw [World.putObj_size];exact q2,(World.putObj_heap_other (by omega)).trans q3⟩
theorem bby_any(b:Nat)(L:List PatchM)(au:UInt8)(w:World)(hg:GrIs w b L)(hw:WfG L)(hil:(idsM L).length≤65536)(hel:(edgesM L).length≤1000000)(htab:Tab w) :
  Calls Tryz.prog 16 #[.pointer (some ⟨b,0,none⟩),.int .u8 au.toNat] w fun e w'=>e=.returned (.int .i64 (byM L au:Int))∧Below w.heap.size w w':=by
 have e1:=bnew (w:=w) (.cells #[.int .u8 au.toNat] 5);have s1:(w.alloc (.cells #[.int .u8 au.toNat] 5)).heap.size=w.heap.size+1:=by simp
 have a1:=anw w #[.int .u8 au.toNat] 5;obtain⟨W1,hW1⟩:∃ W1,w.alloc (.cells #[.int .u8 au.toNat] 5)=W1:=⟨_,rfl⟩;rw [hW1] at e1 s1 a1;have n2:=arrT_new W1 [.int .i64 0] 3;have e2:=bnew (w:=W1) (.cells #[.int .i64 0] 3);have s2:(W1.alloc (.cells #[.int .i64 0] 3)).heap.size=W1.heap.size+1:=by simp
 change ArrT (W1.alloc (.cells #[.int .i64 0] 3)) _ _ _ at n2;obtain⟨W2,hW2⟩:∃ W2,W1.alloc (.cells #[.int .i64 0] 3)=W2:=⟨_,rfl⟩;rw [hW2] at n2 e2 s2;rw [s1] at n2;have b2:Below w.heap.size w W2:=bvo e1 e2;have HG:=Lh hg;have HW:=Lh hw;have HTab:=Lh htab;have HB2:=Lh b2;have HA2:=Lh (a1.over e2);have HN2:=Lh n2;have H1:=Lh hW1;have H2:=Lh hW2;clear hg hw htab b2 a1 n2 e1 e2 hW1 hW2;refine(callsIn_wide (n:=3)).1 ?_;refine callsIn_of_wp_marks Tryz.func16 rfl trivial ?_ rfl;simp only [Tryz.ntmps16,List.size_toArray,List.length_cons,List.length_nil,Nat.reduceAdd,Nat.reduceSub,Array.replicate_succ,Array.replicate_zero,List.push_toArray,List.append_toArray,List.nil_append,List.cons_append];gi_wp2_with (refine⟨trivial,?_⟩;gi_at_call 34;rw [H1.o,H2.o];refine(callsIn_wide.2 (nall_any b L W2 (HG.o.over HB2.o) HW.o (by omega) (HTab.o.over HB2.o))).mono ?_;rintro e w3 ⟨v3,rfl,⟨xs3,hx3,ho3,hat3⟩,hb3⟩;obtain⟨p3,c3,e3,z1,z2,hc3⟩:=ho3.row.at encN_len;subst e3);have hlx:xs3.length=(allM L).length:=by rw [← hx3,List.length_map]
 have haf:=all_few hil;unfold maxLen at z2;have HN3:=Lh (HN2.o.over hb3);have HA3:=Lh (HA2.o.over hb3);have HO3:=Lh ho3;have HX3:=Lh hx3;have HB3:=Lh (bvo HB2.o hb3);have hs3:=hb3.size;clear hx3 ho3 hat3 hb3 hc3 H1 H2;rw [hlx];gi_wp2;refine wpIn_loop_ghost_k (fun n a W=>∃(k:Nat) (Ds:List Nat) (u7 u9 u14 u15 u16 u17 u18 u19 u20 u23 u24 u25 u26 u27 u28 u29 u30 u31 u32 u33 u34 u35 u36 u37:Value),k≤(allM L).length∧n=(allM L).length - k∧MarksAt w3.heap.size Ds W∧ArrT W (w.heap.size+1) 3 [.int .i64 (byTo L au k:Int)]∧w3.grownBy W (some (w.heap.size+1))∧a={tmps:=#[.pointer (some ⟨b,0,none⟩),.int .u8 au.toNat,undef,.pointer (some ⟨w.heap.size,0,none⟩),.int .i64 0,.pointer (some ⟨w.heap.size+1,0,none⟩),undef,u7,undef,u9,.pointer (some ⟨b,0,none⟩),.slice p3 (allM L).length c3,.int .i64 ((allM L).length:Int),.int .i64 k,u14,u15,u16,u17,u18,u19,u20,undef,undef,u23,u24,u25,u26,u27,u28,u29,u30,u31,u32,u33,u34,u35,u36,u37,undef],defers:=marksD Ds}) (allM L).length ?start ?round
 case start=>exact⟨0,[],undef,undef,undef,undef,undef,undef,undef,undef,undef,undef,undef,undef,undef,undef,undef,undef,undef,undef,undef,undef,undef,undef,undef,undef,Nat.zero_le _,rfl,⟨nofun,List.Pairwise.nil⟩,HN3.o,⟨rfl,rfl,rfl,Nat.le_refl _,fun _ _ _=>rfl⟩,rfl⟩
 rintro n a wr ⟨k,Ds,u7,u9,u14,u15,u16,u17,u18,u19,u20,u23,u24,u25,u26,u27,u28,u29,u30,u31,u32,u33,u34,u35,u36,u37,hk,hn,hM,hA,hgr,rfl⟩ J K hJ hK
 by_cases hlt:k<(allM L).length
 rotate_left
 ·
  obtain rfl:k=(allM L).length:=by omega
  obtain⟨c0,sc⟩:=hA.arr.c1;gi_wp2;refine leaves_marks Ds _ hM fun w' hb => ?_;exact⟨_,results_tmp rfl _ _ _,rfl,((HB3.o.grown hgr HB3.o.size (fun q e=>by cases e;omega))).trans (hb.mono (by omega))⟩
 obtain⟨y,hy⟩:=gol (xs:=xs3) (i:=k) (by omega);have hor:=gown_keep HO3.o hgr (fun q e=>by cases e;omega);obtain⟨p4,c4,e4,_,_,hc4⟩:=hor.row.at encN_len;obtain⟨rfl,_,rfl⟩:=Value.slice.inj e4;obtain⟨bb,ob,rfl,sb,hcb⟩:=hc4.resolve_left (by omega);have hr:=hcb k y hy wr (Below.refl _ _);have y0:wr.cell? ⟨bb,ob+k*6,none⟩=some (.int .u8 y.n.file.pid.author.toNat):=hr.2 0 _ rfl;have y1:wr.cell? ⟨bb,ob+k*6+1,none⟩=some (.int .u16 y.n.file.pid.seq.toNat):=hr.2 1 _ rfl;have y2:wr.cell? ⟨bb,ob+k*6+2,none⟩=some (.int .u8 y.n.file.n.toNat):=hr.2 2 _ rfl;have y3:wr.cell? ⟨bb,ob+k*6+3,none⟩=some (.string y.n.name):=hr.2 3 _ rfl;have y4:wr.cell? ⟨bb,ob+k*6+4,none⟩=some (.slice y.pa y.n.also.length y.ca):=hr.2 4 _ rfl;have y5:wr.cell? ⟨bb,ob+k*6+5,none⟩=some (.slice y.pf y.n.flaws.length y.cf):=hr.2 5 _ rfl;have sy:=hr.1;have HY:Hid ((allM L)[k]? = some y.n):=Lh (by rw [← HX3.o,List.getElem?_map,hy];rfl);have HGr:=Lh hgr;have HBw:Hid (Below w.heap.size w wr):=Lh (HB3.o.grown hgr HB3.o.size (fun q e=>by cases e;omega));clear hor hc4 hcb hr hy hgr e4;have e5:=bnew (w:=wr) (.cells #[.int .u8 y.n.file.pid.author.toNat,.int .u16 y.n.file.pid.seq.toNat,.int .u8 y.n.file.n.toNat,.string y.n.name,.slice y.pa y.n.also.length y.ca,.slice y.pf y.n.flaws.length y.cf] 82);have s5:(wr.alloc (.cells #[.int .u8 y.n.file.pid.author.toNat,.int .u16 y.n.file.pid.seq.toNat,.int .u8 y.n.file.n.toNat,.string y.n.name,.slice y.pa y.n.also.length y.ca,.slice y.pf y.n.flaws.length y.cf] 82)).heap.size=wr.heap.size+1:=by simp
 have a5:=anw wr #[.int .u8 y.n.file.pid.author.toNat,.int .u16 y.n.file.pid.seq.toNat,.int .u8 y.n.file.n.toNat,.string y.n.name,.slice y.pa y.n.also.length y.ca,.slice y.pf y.n.flaws.length y.cf] 82;obtain⟨f0,f1,f2,sf⟩:=a5.c3;gi_wp2_with (refine⟨trivial,?_⟩;gi_at_call 19;refine(callsIn_wide.2 (lines_any (some ⟨b,0,none⟩) y.n.file _)).mono ?_;rintro e w' ⟨rfl,rfl⟩);generalize wr.alloc (.cells #[.int .u8 y.n.file.pid.author.toNat,.int .u16 y.n.file.pid.seq.toNat,.int .u8 y.n.file.n.toNat,.string y.n.name,.slice y.pa y.n.also.length y.ca,.slice y.pf y.n.flaws.length y.cf] 82)=W4 at *;have g3:=anw W4 #[.pointer (some ⟨b,0,none⟩)] 30;have e6:=bnew (w:=W4) (.cells #[.pointer (some ⟨b,0,none⟩)] 30);have s6:(W4.alloc (.cells #[.pointer (some ⟨b,0,none⟩)] 30)).heap.size=W4.heap.size+1:=by simp
 generalize W4.alloc (.cells #[.pointer (some ⟨b,0,none⟩)] 30)=W5 at *;have f4:=anw W5 (cV y.n.file) 27;have e7:=bnew (w:=W5) (.cells (cV y.n.file) 27);have s7:(W5.alloc (.cells (cV y.n.file) 27)).heap.size=W5.heap.size+1:=by simp
 generalize W5.alloc (.cells (cV y.n.file) 27)=W6 at *;rw [s6,s5] at f4;rw [s5] at g3;have g4:=g3.over e7;have e57:Below wr.heap.size wr W6:=bov (bvo e5 e6) (by omega) e7;have G4:=HG.o.over (bvo HBw.o e57);have hA6:=hA.over e57;have hs6:W6.heap.size=wr.heap.size+1+1+1:=by omega
 have hgs:=HGr.o.size;have hA0:Arr W6 w.heap.size [.int .u8 au.toNat]:=(HA3.o.grown HGr.o (by simp)).over e57;have HE:=Lh e57;have HM:=Lh hM;have HJ:=Lh hJ;have HK:=Lh hK;clear e5 e6 e7 g3 f0 f1 f2 sf y0 y1 y2 y3 y4 y5 sy a5 hA hM hJ hK e57;have hofn:=ofN_few hil y.n;have hbt:=byTo_le hil au k;have hkl:k*262144≤65536*262144:=Nat.mul_le_mul_right _ (by omega);refine wpIn_rangeFunc_mid (gf:=51) rfl (enters_of Tryz.func51 (by kernel_rfl) rfl) (lines1_mid (wr.heap.size+1) (wr.heap.size+1+1) b L y.n.file W6 g4 f4 G4 HW.o hil hel) (Below.refl _ _) (fun _=>rfl)
  (ByI W6 (w.heap.size+1) (fun pre=>byTo L au k+cntA au (pre.map (·.2)))) (fun _ _ _ _=>False) (byi_keep (by omega)) (fun _ _ _ _ _ _ h _ _=>h) ?start
  (fun O x a' W=>∃ B,¬ O B∧ArrT W B 42 (tlL x.2)∧a'={tmps:=#[.pointer (some ⟨b,0,none⟩),.int .u8 au.toNat,undef,.pointer (some ⟨w.heap.size,0,none⟩),.int .i64 0,.pointer (some ⟨w.heap.size+1,0,none⟩),undef,.pointer (some ⟨wr.heap.size,0,none⟩),undef,.pointer (some ⟨B,0,none⟩),.pointer (some ⟨b,0,none⟩),.slice (some ⟨bb,ob,none⟩) (allM L).length c3,.int .i64 ((allM L).length:Int),.int .i64 k,.bool true,.pointer (some ⟨bb,ob+k*6,none⟩),.agg #[.int .u8 y.n.file.pid.author.toNat,.int .u16 y.n.file.pid.seq.toNat,.int .u8 y.n.file.n.toNat,.string y.n.name,.slice y.pa y.n.also.length y.ca,.slice y.pf y.n.flaws.length y.cf],.pointer (some ⟨b,0,none⟩),.pointer (some ⟨wr.heap.size,0,none⟩),vidV y.n.file,.func (.func 51) #[] #[.pointer (some ⟨wr.heap.size+1,0,none⟩),.pointer (some ⟨wr.heap.size+1+1,0,none⟩)],.int .i64 x.1,tlV x.2,u23,u24,u25,u26,u27,u28,u29,u30,u31,u32,u33,u34,u35,u36,u37,undef],defers:=[]}) ?ax ?assign ?body ?done ?stop
 case start =>intro O B hO hB;exact⟨fun q h=>(hO q h).1,by show ArrT B _ _ [.int .i64 ((byTo L au k+cntA au []:Nat):Int)];exact hA6.over hB,⟨hB.os,hB.tape,hB.output,hB.size,fun q h _=>hB.block q h⟩⟩
 case ax =>rintro O x a' A B ⟨B0,h1,h2,rfl⟩ ho;exact⟨B0,h1,(ho.block B0 h2.arr.lt h1).trans h2,rfl⟩
 case assign =>
  intro l m O pre x W K hO hi hK;gi_wp2;have hb:=bnew (w:=W) (.cells #[.string x.2.text,.int .u8 x.2.id.pid.author.toNat,.int .u16 x.2.id.pid.seq.toNat,.int .u8 x.2.id.n.toNat] 42);have hs:(W.alloc (.cells #[.string x.2.text,.int .u8 x.2.id.pid.author.toNat,.int .u16 x.2.id.pid.seq.toNat,.int .u8 x.2.id.n.toNat] 42)).heap.size=W.heap.size+1:=by simp
  exact hK _ _ (MidIn.of_below hb fun k q=>(hO k q).2) (byi_keep (by omega) _ _ _ _ _ hi (MidOut.of_below hb) fun k q=>⟨.inl q,by have:=(hO k q).2;omega⟩) ⟨W.heap.size,fun q=>by have:=(hO _ q).2;omega,arrT_new W (tlL x.2) _,rfl⟩
 case body =>
  rintro l m O pre x rest W hx hO ⟨h1,h2,h3⟩ a' ⟨B,hB,hl,rfl⟩;dsimp only;obtain⟨nb,hnb⟩:∃ q,(!decide (x.2.id=noVid))=q:=⟨_,rfl⟩;obtain⟨ab,hab⟩:∃ q,decide (x.2.id.pid.author=au)=q:=⟨_,rfl⟩;have en:∀ w,(binOp .neq 27 (.agg (cV x.2.id)) (.agg #[.int .u8 0,.int .u16 0,.int .u8 0])).run Tryz.prog w=.ok (.bool nb) w:=neq_vid x.2.id noVid nb hnb;have gd:=fun p q xs ys w=>guard_vid .neq p q xs ys w;have e2:((x.2.id.pid.author.toNat:Int) == (au.toNat:Int))=ab:=by rw [← hab,Bool.eq_iff_iff,beq_iff_eq,decide_eq_true_iff];exact⟨fun h=>UInt8.toNat_inj.1 (by omega),fun h=>by rw [h]⟩
  have HC:Hid (byTo L au k+cntA au ((pre++[x]).map (·.2))=byTo L au k+cntA au (pre.map (·.2))+if(nb && ab)=true then 1 else 0):=Lh (by rw [List.map_append,List.map_cons,List.map_nil,cntA_snoc,Nat.add_assoc];rw [← hnb,← hab];simp);have hle:cntA au (pre.map (·.2))≤262144:=by have h6:=congrArg (fun z=>(z.map (·.2)).length) hx;simp only [numF_snd,List.map_append,List.length_append,List.map_cons,List.length_cons] at h6;have h7:=cntA_le au (pre.map (·.2));unfold ofN at hofn;omega
  have c0:=h2.arr.k 0 rfl;have f0:=h2.arr.free 0;have sc:=h2.arr.lt;have hA0w:=hA0.grown h3 (by simp);obtain⟨a0,sa⟩:=hA0w.c1;have l1:=hl.arr.k 1 rfl;have l2:=hl.arr.k 2 rfl;have l3:=hl.arr.k 3 rfl;have sl:=hl.arr.lt;have H1:=Lh h1;have HO:=Lh hO;have H2:=Lh h2;have H3:=Lh h3;clear hx hnb hab h1 hO h2 h3;cases nb with
  | false =>gi_wp2;have hc:byTo L au k+cntA au ((pre++[x]).map (·.2))=byTo L au k+cntA au (pre.map (·.2)):=(by have:=HC.o;simpa using this);refine⟨MidIn.refl _ _,H1.o,?_,H3.o⟩;show ArrT W _ _ [.int .i64 ((byTo L au k+cntA au ((pre++[x]).map (·.2)):Nat):Int)];rw [hc];exact H2.o
  | true =>
   cases ab with
   | false =>gi_wp2;have hc:byTo L au k+cntA au ((pre++[x]).map (·.2))=byTo L au k+cntA au (pre.map (·.2)):=(by have:=HC.o;simpa using this);refine⟨MidIn.refl _ _,H1.o,?_,H3.o⟩;show ArrT W _ _ [.int .i64 ((byTo L au k+cntA au ((pre++[x]).map (·.2)):Nat):Int)];rw [hc];exact H2.o
   | true =>gi_wp2;have hc:byTo L au k+cntA au ((pre++[x]).map (·.2))=byTo L au k+cntA au (pre.map (·.2))+1:=(by have:=HC.o;simpa using this);refine⟨MidIn.of_grown (gsc (g:=w.heap.size+1) W 0 _) (fun q h=>(HO.o q h).2) (fun q e=>by cases e;intro h;have:=(HO.o _ h).1;omega),H1.o,?_,gtr H3.o (gsc (g:=w.heap.size+1) W 0 _)⟩;show ArrT _ _ _ [.int .i64 ((byTo L au k+cntA au ((pre++[x]).map (·.2)):Nat):Int)];rw [hc,Int.natCast_add (byTo L au k+_) 1];exact H2.o.set 0 _
 case done =>
  rintro O W hO ⟨h1,h2,h3⟩ hO0 hK2;gi_wp2;rw [numF_snd] at h2;rw [hs6] at hK2 hO0;have m6:=marks_grown HM.o (grown_lift HE.o (some (w.heap.size+1))) (by omega);have m7:=marks_grown m6 h3 (by omega);have hm:MarksAt w3.heap.size ((wr.heap.size+1+1+1) :: Ds) W:=⟨fun D hD=>by
   rcases List.mem_cons.1 hD with rfl|hD
   · exact⟨by omega,(hO _ hO0).2,hK2⟩
   exact m7.1 D hD,List.pairwise_cons.2 ⟨fun D hD=>by have:=(HM.o.1 D hD).2.1;omega,m7.2⟩⟩
  refine HK.o _ _ ⟨(allM L).length - (k+1),by omega,HJ.o _ _ _ ⟨k+1,(wr.heap.size+1+1+1) :: Ds,_,_,_,_,_,_,_,_,_,_,_,_,_,_,_,_,_,_,_,_,_,_,_,_,hlt,rfl,hm,?_,gtr (gtr HGr.o (grown_lift HE.o _)) h3,rfl⟩⟩;rw [byTo_succ HY.o];exact h2
 case stop =>rintro c O pre W _ _ h _ _;exact h.elim
end Go.Proofs.YtanfebljiblhbaaGreatDoor
