/- What is proved: PlanSays, for every input; of the listed tables the walk needs the powers of ten. -/
import Derived.Test.YtjccmcgglfncdaaGreatDoorPNmB
import Derived.Test.YtjccmcgglfncdaaGreatDoorPRefP
set_option linter.unusedVariables false
set_option linter.unusedSimpArgs false
set_option maxRecDepth 100000
set_option maxHeartbeats 40000000
namespace Go.Proofs.YtjccmcgglfncdaaGreatDoor
open Go Go.RowKit
def insLater(x:VertM):List VertM→List VertM
 | []=>[x]
 | y :: l=>if 0<cmpLater x.id y.id then x :: y :: l else y :: insLater x l
theorem cmpN_pos(a b:Nat):(0<cmpN a b)=(b<a):=by
 rcases Nat.lt_trichotomy a b with h|h|h
 · rw [cmpN_lt h];simp;omega
 · rw [cmpN_eq h];simp;omega
 rw [cmpN_gt h];simp [h]
theorem insLater_perm(x:VertM):∀ l:List VertM,(insLater x l).Perm (x :: l)
 | []=>List.Perm.refl _
 | y :: l=>by
  unfold insLater;split
  · exact List.Perm.refl _
  exact((insLater_perm x l).cons y).trans (List.Perm.swap x y l)
def LaterS(l:List VertM):Prop:=l.Pairwise fun a b=>laterK b.id≤laterK a.id
theorem insLater_sorted(x:VertM):∀ {l:List VertM},LaterS l→LaterS (insLater x l)
 | [],_=>List.pairwise_singleton _ _
 | y :: l,h=>by
  obtain⟨h1,h2⟩:=List.pairwise_cons.1 h;unfold insLater;split
  ·
   rename_i hc;unfold cmpLater at hc;rw [cmpN_pos] at hc;refine List.pairwise_cons.2 ⟨fun z hz => ?_,h⟩;rcases List.mem_cons.1 hz with rfl|hz
   · omega
   have:=h1 z hz;omega
  rename_i hc;unfold cmpLater at hc;rw [cmpN_pos] at hc;refine List.pairwise_cons.2 ⟨fun z hz => ?_,insLater_sorted x h2⟩;rcases List.mem_cons.1 ((insLater_perm x l).mem_iff.1 hz) with rfl|hz
  · omega
  exact h1 z hz
def insAll(l:List VertM):List VertM:=l.foldl (fun out x=>insLater x out) []
theorem insAll_go:∀(l out:List VertM),LaterS out→(l.foldl (fun out x=>insLater x out) out).Perm (l++out)∧LaterS (l.foldl (fun out x=>insLater x out) out)
 | [],out,h=>⟨List.Perm.refl _,h⟩
 | x :: l,out,h=>by obtain⟨h1,h2⟩:=insAll_go l (insLater x out) (insLater_sorted x h);refine⟨h1.trans ?_,h2⟩;exact((insLater_perm x out).append_left l).trans List.perm_middle
theorem insAll_names{L:List PatchM}(hl:∀ p∈L,p.ops.length≤200)(f:VidM):insAll (aliveM L f)=namesM L f:=by obtain⟨h1,h2⟩:=insAll_go (aliveM L f) [] List.Pairwise.nil;rw [List.append_nil] at h1;refine names_eq hl f h1 (h2.imp fun {a b} h => ?_);unfold cmpLater;rw [cmpN_neg];omega
abbrev TextL:Type:=List UInt8
theorem tl_irrefl(a:TextL):¬ a<a:=List.lt_irrefl a
theorem tl_trans{a b c:TextL}(h:a<b)(h':b<c):a<c:=List.lt_trans h h'
theorem tl_total(a b:TextL):a≤b∨b≤a:=List.le_total a b
theorem tl_not{a b:TextL}:¬ a<b↔b≤a:=List.not_lt
theorem tl_antisymm{a b:TextL}(h:a≤b)(h':b≤a):a=b:=List.le_antisymm h h'
theorem tl_lt_of{a b:TextL}(h:a≤b)(hne:a≠b):a<b:=by
 rcases Classical.em (a<b) with h1|h1
 · exact h1
 exact absurd (tl_antisymm h (tl_not.1 h1)) hne
theorem tl_le_of{a b:TextL}(h:a<b):a≤b:=tl_not.1 fun h'=>tl_irrefl a (tl_trans h h')
theorem tl_le_trans{a b c:TextL}(h:a≤b)(h':b≤c):a≤c:=List.le_trans h h'
def RisesT(l:List TextL):Prop:=l.Pairwise fun a b=>a<b
theorem risesT_ext:∀ {l m:List TextL},RisesT l→RisesT m→(∀ x,x∈l↔x∈m)→l=m
 | [],[],_,_,_=>rfl
 | [],y :: m,_,_,h=>absurd ((h y).2 (List.mem_cons_self ..)) (List.not_mem_nil)
 | x :: l,[],_,_,h=>absurd ((h x).1 (List.mem_cons_self ..)) (List.not_mem_nil)
 | x :: l,y :: m,hl,hm,h=>by
  obtain⟨l1,l2⟩:=List.pairwise_cons.1 hl;obtain⟨m1,m2⟩:=List.pairwise_cons.1 hm;have hxy:x=y:=by
   rcases List.mem_cons.1 ((h x).1 (List.mem_cons_self ..)) with e|hx
   · exact e
   rcases List.mem_cons.1 ((h y).2 (List.mem_cons_self ..)) with e|hy
   · exact e.symm
   exact absurd (tl_trans (m1 x hx) (l1 y hy)) (tl_irrefl y)
  subst hxy;refine congrArg _ (risesT_ext l2 m2 fun z=>⟨fun hz => ?_,fun hz => ?_⟩)
  ·
   rcases List.mem_cons.1 ((h z).1 (List.mem_cons_of_mem _ hz)) with rfl|hz'
   · exact absurd (l1 _ hz) (tl_irrefl _)
   exact hz'
  rcases List.mem_cons.1 ((h z).2 (List.mem_cons_of_mem _ hz)) with rfl|hz'
  · exact absurd (m1 _ hz) (tl_irrefl _)
  exact hz'
theorem compact_compL(l:List TextL):∀ m,m≤l.length→Lib.compactUpTo l.toArray m=compL (l.take m)
 | 0,_=>rfl
 | 1,h=>by
  cases l with
  | nil=>simp at h
  | cons x l=>simp [Lib.compactUpTo,Lib.keeps,compL,List.range_succ]
 | m+2,h=>by
  have ih:=compact_compL l (m+1) (by omega);have hx:=List.getElem?_eq_getElem (l:=l) (i:=m) (by omega);have hy:=List.getElem?_eq_getElem (l:=l) (i:=m+1) (by omega);rw [comp_step hx hy,← ih];have e1:l.toArray[m+1]! = l[m+1]:=by rw [getElem!_pos _ _ (by simp;omega)];simp
  have e0:l.toArray[m+1 - 1]! = l[m]:=by rw [getElem!_pos _ _ (by simp;omega)];simp
  unfold Lib.compactUpTo;rw [List.range_succ (n:=m+1),List.filter_append,List.map_append]
  by_cases hxy:l[m]=l[m+1]
  · rw [if_pos hxy];have:Lib.keeps l.toArray (m+1)=false:=(by simp only [Lib.keeps,e1,e0,hxy];simp);simp [this]
  rw [if_neg hxy];have:Lib.keeps l.toArray (m+1)=true:=by simp only [Lib.keeps,e1,e0];simp [Ne.symm hxy]
  rw [List.filter_cons,this];simp only [if_true,List.filter_nil,List.map_cons,List.map_nil];rw [e1]
theorem rises_compT:∀ {l:List TextL},(l.Pairwise fun a b=>a≤b)→RisesT (compL l)
 | [],_=>List.Pairwise.nil
 | [x],_=>List.pairwise_singleton _ _
 | x :: y :: l,h=>by
  have h':=List.pairwise_cons.1 h;have hr:=rises_compT h'.2
  by_cases e:x=y
  · subst e;rw [compL_eq];exact hr
  rw [compL_ne e];refine List.pairwise_cons.2 ⟨fun z hz => ?_,hr⟩;rw [mem_compL] at hz;have hxy:=tl_lt_of (h'.1 y (List.mem_cons_self ..)) e;rcases List.mem_cons.1 hz with rfl|hz
  · exact hxy
  have h3:=(List.pairwise_cons.1 h'.2).1 z hz;refine tl_lt_of (tl_le_trans (tl_le_of hxy) h3) fun q => ?_;subst q;exact absurd hxy (tl_not.2 h3)
theorem alsoM_spec(l:List VertM)(t:ByteArray):RisesT (alsoM l t)∧∀ s,s∈alsoM l t↔s∈othersM l t:=by
 have hs:((othersM l t).mergeSort fun x y=>decide (x≤y)).Pairwise fun a b=>a≤b:=by have:=List.pairwise_mergeSort (le:=fun x y:TextL=>decide (x≤y)) (fun a b c h1 h2=>by simp at *;exact tl_le_trans h1 h2) (fun a b=>by simpa using tl_total a b) (othersM l t);exact this.imp fun h=>by simpa using h
 have he:alsoM l t=compL ((othersM l t).mergeSort fun x y=>decide (x≤y)):=by have:=compact_compL ((othersM l t).mergeSort fun x y=>decide (x≤y)) _ (Nat.le_refl _);rw [List.take_length] at this;exact this
 rw [he];exact⟨rises_compT hs,fun s=>by rw [mem_compL,List.mem_mergeSort]⟩
variable{x:VertM}
theorem later_seq{a b:PidM}(h:¬ a.seq=b.seq):laterP a b=cmpN a.seq.toNat b.seq.toNat:=by
 have h1:=a.author.toNat_lt;have h2:=b.author.toNat_lt;have h3:a.seq.toNat≠b.seq.toNat:=fun e=>h (UInt16.toNat_inj.1 e);rw [laterP_key]
 by_cases hl:a.seq.toNat<b.seq.toNat
 · rw [cmpN_lt hl,cmpN_lt (by omega)]
 rw [cmpN_gt (show b.seq.toNat<a.seq.toNat by omega),cmpN_gt (by omega)]
theorem later_author{a b:PidM}(h:a.seq=b.seq):laterP a b=cmpN a.author.toNat b.author.toNat:=by
 rw [laterP_key,h];rcases Nat.lt_trichotomy a.author.toNat b.author.toNat with hl|hl|hl
 · rw [cmpN_lt hl,cmpN_lt (by omega)]
 · rw [cmpN_eq hl,cmpN_eq (by omega)]
 rw [cmpN_gt hl,cmpN_gt (by omega)]
theorem later_pid{a b:VidM}(h:¬ a.pid=b.pid):cmpLater a b=laterP a.pid b.pid:=by
 rw [← later_or];unfold orI;have:laterP a.pid b.pid≠0:=by unfold laterP;rw [if_neg h];split <;> (try split) <;> decide
 rw [if_neg this]
theorem later_n{a b:VidM}(h:a.pid=b.pid):cmpLater a b=cmpVid a b:=by
 rw [cmpVid_n h,← later_or];unfold orI;have:laterP a.pid b.pid=0:=by unfold laterP;rw [if_pos h]
 rw [if_pos this]
theorem u16_beq(a b:UInt16):((a.toNat:Int) != (b.toNat:Int))=decide (¬ a=b):=by
 by_cases h:a=b
 · simp [h]
 have:a.toNat≠b.toNat:=fun e=>h (UInt16.toNat_inj.1 e);simp [h];omega
attribute [local irreducible] laterP cmpN cmpLater cmpVid
theorem rlaterPid_any(a b:PidM)(w:World):Calls Tryz.prog 168 #[pidV a,pidV b] w fun e w'=>e=.returned (.int .i64 (laterP a b))∧Be w w':=by
 have HB:=Lh ((bnew (w:=w) (.cells (cP a) 25)).alloc (by simp) (.cells (cP b) 25));have l1:=a.author.toNat_lt;have l2:=a.seq.toNat_lt;have l3:=b.author.toNat_lt;have l4:=b.seq.toNat_lt;unfold pidV
 by_cases h:a.seq=b.seq
 ·
  have HC:=Lh (later_author h);have e1:((a.seq.toNat:Int) != (b.seq.toNat:Int))=false:=by rw [u16_beq];simp [h]
  clear h;go_enter Tryz.func168,Tryz.ntmps168;go_wp2_with fail;refine(sign_any a.author.toNat b.author.toNat _).mono ?_;rintro e w1 ⟨rfl,rfl⟩;go_wp2;go_ret;exact⟨ret_int HC.o.symm,HB.o⟩
 have HC:=Lh (later_seq h);have e1:((a.seq.toNat:Int) != (b.seq.toNat:Int))=true:=by rw [u16_beq];simp [h]
 clear h;go_enter Tryz.func168,Tryz.ntmps168;go_wp2_with fail;refine(sign_any a.seq.toNat b.seq.toNat _).mono ?_;rintro e w1 ⟨rfl,rfl⟩;go_wp2;go_ret;exact⟨ret_int HC.o.symm,HB.o⟩
theorem rlaterVid_any(a b:VidM)(w:World):Calls Tryz.prog 100 #[vidV a,vidV b] w fun e w'=>e=.returned (.int .i64 (cmpLater a b))∧Be w w':=by
 have HB:=Lh ((bnew (w:=w) (.cells (cV a) 74)).alloc (by simp) (.cells (cV b) 74));unfold vidV;have gd:=fun p q xs ys w=>guard_pid .neq p q xs ys w
 by_cases h:a.pid=b.pid
 · have HC:=Lh (later_n h);have e1:=neq_pid a.pid b.pid false (by simp [h]);unfold pidV at e1;clear h;go_enter Tryz.func100,Tryz.ntmps100;go_wp2_with fail;refine(rcmpVid_any a b _).mono ?_;rintro e w1 ⟨rfl,hb1⟩;go_wp2;go_ret;exact⟨ret_int HC.o.symm,bvo HB.o hb1⟩
 have HC:=Lh (later_pid h);have e1:=neq_pid a.pid b.pid true (by simp [h]);unfold pidV at e1;clear h;go_enter Tryz.func100,Tryz.ntmps100;go_wp2_with fail;refine(rlaterPid_any a.pid b.pid _).mono ?_;rintro e w1 ⟨rfl,hb1⟩;go_wp2;go_ret;exact⟨ret_int HC.o.symm,bvo HB.o hb1⟩
def restL(x:VertM)(t:Bool)(r:List VertM):List VertM:=if t=true then r else insLater x r
theorem restL_t(x:VertM)(r:List VertM):restL x true r=r:=rfl
theorem restL_f(x:VertM)(r:List VertM):restL x false r=insLater x r:=rfl
theorem insLater_pos{y:VertM}{r:List VertM}(h:0<cmpLater x.id y.id):insLater x (y :: r)=x :: y :: r:=by rw [insLater,if_pos h]
theorem insLater_no{y:VertM}{r:List VertM}(h:¬ 0<cmpLater x.id y.id):insLater x (y :: r)=y :: insLater x r:=by rw [insLater,if_neg h]
def insTo(all:List VertM)(i:Nat):List VertM:=insAll ((all.take i).filter aliveQ)
theorem insTo_yes{all:List VertM}{i:Nat}(h:all[i]? = some x)(hd:x.dead=false):insTo all (i+1)=insLater x (insTo all i):=by unfold insTo insAll;rw [take_succ' h,List.filter_append,List.foldl_append];simp [aliveQ,hd]
theorem insTo_no{all:List VertM}{i:Nat}(h:all[i]? = some x)(hd:x.dead=true):insTo all (i+1)=insTo all i:=by unfold insTo;rw [take_succ' h,List.filter_append];simp [aliveQ,hd]
theorem insTo_len(all:List VertM)(i:Nat):(insTo all i).length≤i:=by have h:=(insAll_go ((all.take i).filter aliveQ) [] List.Pairwise.nil).1.length_eq;unfold insTo insAll;rw [h,List.append_nil];exact Nat.le_trans (List.length_filter_le _ _) (by rw [List.length_take];omega)
theorem insTo_all{L:List PatchM}(hl:∀ p∈L,p.ops.length≤200)(f:VidM):insTo (ofM L f 2) (ofM L f 2).length=namesM L f:=by unfold insTo;rw [List.take_length,aliveM_q,insAll_names hl]
def NoOut(w2:World)(all:List VertM)(v5 v7:Value)(wr:World):Prop:=∃ i:Nat,i≤all.length∧v7=.int .i64 i∧Hid (GOwn encVert 9 101 wr w2.heap.size v5 (insTo all i))∧Be w2 wr
def NoIn(wo:World)(x:VertM)(out:List VertM)(v8 v9 v10:Value)(wr:World):Prop:=
 ∃(k:Nat) (M:List VertM) (t:Bool),k≤out.length∧v10=.int .i64 k∧v9=.bool t∧M.length≤k+t.toNat∧Hid (GOwn encVert 9 101 wr wo.heap.size v8 M)∧Hid (insLater x out=M++restL x t (out.drop k))∧Be wo wr
theorem noIn_start(x:VertM)(out:List VertM):insLater x out=[]++restL x false (out.drop 0):=by simp [restL]
attribute [local irreducible] insLater insTo restL ofM namesM idsM
theorem rnofO_any(gv:Value)(xs:List LaidP)(f:VidM)(w:World)(hv:Pats w gv xs)(hn:xs.length≤300)(hl:∀ x∈xs,x.p.ops.length≤200)(hil:(idsM (patsOf xs)).length≤100000) :
  Calls Tryz.prog 45 #[rgV gv,vidV f] w (SetResO encVert 9 101 w (namesM (patsOf xs) f)):=by
 have HV:=Lh hv;have hol:=ofM_len (patsOf xs) f 2;have hvl:(vertsM (patsOf xs)).length≤100000:=by unfold vertsM;rw [List.length_map];exact hil
 have HE:=Lh (insTo_all (L:=patsOf xs) (fun p hp=>by obtain⟨x,hx,rfl⟩:=List.mem_map.1 hp;exact hl x hx) f);have HL:=Lh hl;obtain⟨a,cap,rfl,h1,h2,hc⟩:=hv.1.at encPat_len;unfold maxLen at h2;have HG:=Lh ((anw w #[.slice a xs.length cap] 34).alloc (.cells (cV f) 74));have HF0:=Lh (an2 w (.cells #[.slice a xs.length cap] 34) (cV f) 74);have HB:=Lh ((bnew (w:=w) (.cells #[.slice a xs.length cap] 34)).alloc (by simp) (.cells (cV f) 74));clear hv hc hl;unfold rgV vidV;go_enter Tryz.func45,Tryz.ntmps45;go_upto_region 1 with fail;generalize (w.alloc (.cells #[.slice a xs.length cap] 34)).alloc (.cells (cV f) 74)=w0 at *;obtain⟨g0,sg⟩:=HG.o.c1;obtain⟨f0,f1,f2,sf⟩:=HF0.o.c3;go_wp2_with fail;refine(rof20_any _ xs f 2 _ (HV.o.over HB.o) hn (fun x hx=>Nat.le_trans (HL.o x hx) (by omega)) hil hvl).mono ?_;rintro e w2 ⟨u2,rfl,hu2,hb2⟩;obtain⟨a6,c6,rfl,t1,t2,hc6⟩:=hu2.at encVert_len;unfold maxLen at t2;have HC:=Lh hc6;have HB2:=Lh (bvo HB.o hb2);generalize ofM (patsOf xs) f 2=all at *;clear hu2 hc6 hb2 g0 sg f0 f1 f2 sf;go_wp2;go_loopw [5,7] (fun v5 v7 wr=>NoOut w2 all v5 v7 wr) (fun _ v7 _=>all.length - (intOf v7).toNat)
 case atStart=>exact⟨0,Nat.zero_le _,rfl,(by show GOwn _ _ _ _ _ _ _;unfold insTo;simp only [List.take_zero,List.filter_nil];exact gown_nil _ _),Below.refl _ _⟩
 rename World=>wo;obtain⟨i,hi,rfl,HO,hbl⟩:=hrel
 by_cases hlt:i<all.length
 rotate_left
 ·
  obtain rfl:i=all.length:=by omega
  have HE2:=HO.o;rw [HE.o] at HE2;go_wp2;go_ret;exact⟨_,rfl,gown_baseS HE2 HB2.o.size,bvo HB2.o hbl⟩
 obtain⟨bl,ol,rfl,sl,hcl⟩:=HC.o.resolve_left (by omega);obtain⟨x,hx⟩:=gol hlt;have HXa:Hid (∀ W,Be wo W→bl<W.heap.size∧∀ j u,(encVert x)[j]? = some u→W.cell? ⟨bl,ol+i*9+j,none⟩=some u):=fun W hW=>hcl i x hx W (bvo hbl hW);have hol2:=insTo_len all i;have HXw:=Lh (HXa.o wo (Below.refl _ _));obtain⟨x0,x1,x2,x3,x4,x5,x6,x7,x8,sX⟩:=rc9 HXw.o;cases hd:x.dead with
 | true =>
  have HF:=Lh (insTo_no hx hd);rw [hd] at x8;clear hd hx hcl;go_wp2;go_roundw
  case rel=>exact⟨i+1,hlt,by go_num,(by show GOwn _ _ _ _ _ _ _;rw [HF.o];exact HO.o),hbl⟩
  simp [intOf];omega
 | false =>
  have HF:=Lh (insTo_yes hx hd);rw [hd] at x8;generalize insTo all i=out at *;obtain⟨ao,co,rfl,o1,o2,hco⟩:=HO.o.row.at encVert_len;unfold maxLen at o2;have HCo:=Lh hco;have HBl:=Lh hbl;clear hx hcl hco hbl hd;go_wp2_with fail;clear x0 x1 x2 x3 x4 x5 x6 x7 x8 sX;go_hide hQ;go_loopw [8,9,10] (fun v8 v9 v10 wi=>NoIn wo x out v8 v9 v10 wi) (fun _ _ v10 _=>out.length - (intOf v10).toNat)
  case atStart=>exact⟨0,[],false,by omega,rfl,rfl,by simp,gown_nil _ _,noIn_start _ _,Below.refl _ _⟩
  rename World=>wr;obtain⟨k,M,t,hk,rfl,rfl,hM,HM,HR,hbi⟩:=hrel;have htn:=Bool.toNat_le t;have hN:M.length+1≤1099511627776:=by omega
  by_cases hk2:k<out.length
  rotate_left
  ·
   have hke:k=out.length:=(by omega);subst hke;rw [List.drop_length] at HR;have HBi:=Lh hbi;have hbw:=bvo HBl.o hbi;cases t with
   | true =>
    have HE:Hid (insLater x out=M):=(by show _=_;rw [HR.o,restL_t];simp);go_wp2;subst hQ;go_wp2;go_roundw
    case rel=>exact⟨i+1,hlt,by go_num,(by show GOwn _ _ _ _ _ _ _;rw [HF.o,HE.o];exact gown_baseS HM.o HBl.o.size),hbw⟩
    simp [intOf];omega
   | false =>
    have HE:Hid (insLater x out=M++[x]):=(by show _=_;rw [HR.o,restL_f];unfold insLater;rfl);have HXw:=Lh (HXa.o wr (HBi.o));obtain⟨x0,x1,x2,x3,x4,x5,x6,x7,x8,sX⟩:=rc9 HXw.o;have hB:=HBi.o.size;go_wp2;subst hQ;go_wp2_with (at_builtin;(first|refine apD slVertP rfl _ _ rfl wo.heap.size _ _ (dad _ _ _) 1 _ _ _ HM.o rfl rfl rfl rfl hN (by decide) hB ?_|refine apD slVertP rfl _ _ rfl wo.heap.size _ _ (drf _) 1 _ _ _ HM.o rfl rfl rfl rfl hN (by decide) hB ?_);intro v2 w2 ho2 hg2);go_roundw
    case rel=>exact⟨i+1,hlt,by go_num,(by show GOwn _ _ _ _ _ _ _;rw [HF.o,HE.o];exact gown_baseS (GOwn.snoc ho2) HBl.o.size),bvo HBl.o (bgr HBi.o hB HM.o hg2)⟩
    simp [intOf];omega
  obtain⟨bo,oo,rfl,so,hcw⟩:=HCo.o.resolve_left (by omega);obtain⟨y,hy⟩:=gol hk2;have HYa:Hid (∀ W,Be wo W→bo<W.heap.size∧∀ j u,(encVert y)[j]? = some u→W.cell? ⟨bo,oo+k*9+j,none⟩=some u):=fun W hW=>hcw k y hy W hW;have HR1:Hid (insLater x out=M++restL x t (y :: out.drop (k+1))):=by show _=_;rw [← drop_at hy];exact HR.o
  have HBi:=Lh hbi;clear hy hcw hbi HR;cases t with
  | true =>
   have hM1:M.length≤k+1:=hM;have HN:Hid (insLater x out=(M++[y])++restL x true (out.drop (k+1))):=(by show _=_;rw [HR1.o,restL_t,restL_t];simp);have HXw:=Lh (HXa.o wr (HBi.o));obtain⟨x0,x1,x2,x3,x4,x5,x6,x7,x8,sX⟩:=rc9 HXw.o;have HYw:=Lh (HYa.o wr (HBi.o));obtain⟨y0,y1,y2,y3,y4,y5,y6,y7,y8,sY⟩:=rc9 HYw.o;have hB:=HBi.o.size;go_upto_region 12 with fail;refine wlo 16 fun hcur=>?_;(repeat refine lxq ?_);refine lxe ?_;have HM5:=Lh (HM.o.over hcur);have HB5:=Lh (bvo HBi.o hcur);have hB5:wo.heap.size≤wr.drew.heap.size:=hB;go_wp2_with (at_builtin;(first|refine apD slVertP rfl _ _ rfl wo.heap.size _ _ (dad _ _ _) 1 _ _ _ HM5.o rfl rfl rfl rfl hN (by decide) hB5 ?_|refine apD slVertP rfl _ _ rfl wo.heap.size _ _ (drf _) 1 _ _ _ HM5.o rfl rfl rfl rfl hN (by decide) hB5 ?_);intro v2 w2 ho2 hg2);go_roundw
   case rel=>exact⟨k+1,M++[y],true,hk2,by go_num,rfl,by simp;omega,GOwn.snoc ho2,HN,bgr HBi.o HBi.o.size HM.o hg2⟩
   simp [intOf];omega
  | false =>
   have hM0:M.length≤k:=hM;have HCL:Hid (∀ W,Calls Tryz.prog 100 #[.agg (cV x.id),.agg (cV y.id)] W fun e w'=>e=.returned (.int .i64 (cmpLater x.id y.id))∧Be W w'):=Lh fun W=>rlaterVid_any x.id y.id W
   by_cases hp:0<cmpLater x.id y.id
   ·
    have d:decide ((0:Int)<cmpLater x.id y.id)=true:=decide_eq_true hp;have HN:Hid (insLater x out=(M++[x]++[y])++restL x true (out.drop (k+1))):=(by show _=_;rw [HR1.o,restL_f,restL_t,insLater_pos hp];simp);have hN2:(M++[x]).length+1≤1099511627776:=(by simp;omega);clear hp;generalize cmpLater x.id y.id=c at *;have HXw:=Lh (HXa.o wr (HBi.o));obtain⟨x0,x1,x2,x3,x4,x5,x6,x7,x8,sX⟩:=rc9 HXw.o;have HYw:=Lh (HYa.o wr (HBi.o));obtain⟨y0,y1,y2,y3,y4,y5,y6,y7,y8,sY⟩:=rc9 HYw.o;go_upto_region 12 with fail;refine wlo 16 fun hcur=>?_;(repeat(first|refine lxq ?_|(refine lxl rfl ?_;go_wp2_with (first|(go_at_call 100;(with_reducible refine(HCL.o _).mono ?_);rintro e w' ⟨rfl,hb⟩;have hcur:=bvo hcur hb));refine⟨iov hcur,?_⟩)));refine lxe ?_;rename World=>w5;have HB5:=Lh (bvo HBi.o hcur);have HM5:=Lh (HM.o.over hcur);have hB5:=HB5.o.size;clear hcur;clear x0 x1 x2 x3 x4 x5 x6 x7 x8 sX;clear y0 y1 y2 y3 y4 y5 y6 y7 y8 sY;have HXw:=Lh (HXa.o w5 (HB5.o));obtain⟨x0,x1,x2,x3,x4,x5,x6,x7,x8,sX⟩:=rc9 HXw.o;go_upto_region 15 with(at_builtin;(first|refine apD slVertP rfl _ _ rfl wo.heap.size _ _ (dad _ _ _) 1 _ _ _ HM5.o rfl rfl rfl rfl hN (by decide) hB5 ?_|refine apD slVertP rfl _ _ rfl wo.heap.size _ _ (drf _) 1 _ _ _ HM5.o rfl rfl rfl rfl hN (by decide) hB5 ?_);intro v2 w2 ho2 hg2)
    have HB2:=Lh (bgr HB5.o hB5 HM5.o hg2);have HM2:Hid (GOwn encVert 9 101 w2 wo.heap.size v2 (M++[x])):=GOwn.snoc ho2;have hB2:=HB2.o.size;clear hg2 ho2;clear x0 x1 x2 x3 x4 x5 x6 x7 x8 sX;have HYw:=Lh (HYa.o w2 (HB2.o));obtain⟨y0,y1,y2,y3,y4,y5,y6,y7,y8,sY⟩:=rc9 HYw.o;go_wp2_with (at_builtin;(first|refine apD slVertP rfl _ _ rfl wo.heap.size _ _ (dad _ _ _) 1 _ _ _ HM2.o rfl rfl rfl rfl hN2 (by decide) hB2 ?_|refine apD slVertP rfl _ _ rfl wo.heap.size _ _ (drf _) 1 _ _ _ HM2.o rfl rfl rfl rfl hN2 (by decide) hB2 ?_);intro v3 w3 ho3 hg3);go_roundw
    case rel=>exact⟨k+1,M++[x]++[y],true,hk2,by go_num,rfl,by simp;omega,GOwn.snoc ho3,HN,bgr HB2.o HB2.o.size HM2.o hg3⟩
    simp [intOf];omega
   have d:decide ((0:Int)<cmpLater x.id y.id)=false:=decide_eq_false hp;have HN:Hid (insLater x out=(M++[y])++restL x false (out.drop (k+1))):=(by show _=_;rw [HR1.o,restL_f,restL_f,insLater_no hp];simp);clear hp;generalize cmpLater x.id y.id=c at *;have HXw:=Lh (HXa.o wr (HBi.o));obtain⟨x0,x1,x2,x3,x4,x5,x6,x7,x8,sX⟩:=rc9 HXw.o;have HYw:=Lh (HYa.o wr (HBi.o));obtain⟨y0,y1,y2,y3,y4,y5,y6,y7,y8,sY⟩:=rc9 HYw.o;go_upto_region 12 with fail;refine wlo 16 fun hcur=>?_;(repeat(first|refine lxq ?_|(refine lxl rfl ?_;go_wp2_with (first|(go_at_call 100;(with_reducible refine(HCL.o _).mono ?_);rintro e w' ⟨rfl,hb⟩;have hcur:=bvo hcur hb));refine⟨iov hcur,?_⟩)));refine lxe ?_;rename World=>w5;have HB5:=Lh (bvo HBi.o hcur);have HM5:=Lh (HM.o.over hcur);have hB5:=HB5.o.size;clear hcur;clear x0 x1 x2 x3 x4 x5 x6 x7 x8 sX;clear y0 y1 y2 y3 y4 y5 y6 y7 y8 sY;have HYw:=Lh (HYa.o w5 (HB5.o));obtain⟨y0,y1,y2,y3,y4,y5,y6,y7,y8,sY⟩:=rc9 HYw.o;go_wp2_with (at_builtin;(first|refine apD slVertP rfl _ _ rfl wo.heap.size _ _ (dad _ _ _) 1 _ _ _ HM5.o rfl rfl rfl rfl hN (by decide) hB5 ?_|refine apD slVertP rfl _ _ rfl wo.heap.size _ _ (drf _) 1 _ _ _ HM5.o rfl rfl rfl rfl hN (by decide) hB5 ?_);intro v2 w2 ho2 hg2);go_roundw
   case rel=>exact⟨k+1,M++[y],false,hk2,by go_num,rfl,by simp;omega,GOwn.snoc ho2,HN,bgr HB5.o hB5 HM5.o hg2⟩
   simp [intOf];omega
theorem rnof_any(gv:Value)(xs:List LaidP)(f:VidM)(w:World)(hv:Pats w gv xs)(hn:xs.length≤300)(hl:∀ x∈xs,x.p.ops.length≤200)(hil:(idsM (patsOf xs)).length≤100000) :
  Calls Tryz.prog 45 #[rgV gv,vidV f] w (SetRes encVert 9 w (namesM (patsOf xs) f)):=(rnofO_any gv xs f w hv hn hl hil).mono fun _ _ h=>h.res
end Go.Proofs.YtjccmcgglfncdaaGreatDoor
