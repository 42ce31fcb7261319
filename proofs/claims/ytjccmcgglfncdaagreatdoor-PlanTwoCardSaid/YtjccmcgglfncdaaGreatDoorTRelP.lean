/- What is proved: PlanTwo, for every input; of the listed tables the walk needs the powers of ten. -/
import Derived.Test.YtjccmcgglfncdaaGreatDoorTGrP
set_option linter.unusedVariables false
set_option linter.unusedSimpArgs false
namespace Go.Proofs.YtjccmcgglfncdaaGreatDoor
section
variable{a b ws:List Nat}{f k n p x:Nat}
def bitW(ws:List Nat)(i:Nat):Bool:=(ws.getD (i / 64) 0).testBit (i % 64)
def SmallW(ws:List Nat):Prop:=∀ x∈ws,x<2 ^ 64
def putW(ws:List Nat)(i:Nat):List Nat:=ws.set (i / 64) (ws.getD (i / 64) 0 ||| 2 ^ (i % 64))
theorem putW_len(ws:List Nat)(i:Nat):(putW ws i).length=ws.length:=by unfold putW;simp
theorem getD_setN{j:Nat}(hk:k<ws.length):(ws.set k x).getD j 0=if j=k then x else ws.getD j 0:=by
 simp only [List.getD_eq_getElem?_getD,List.getElem?_set]
 by_cases h:k=j
 · subst h;simp [hk]
 rw [if_neg h,if_neg (Ne.symm h)]
theorem bit_put{i:Nat}(h:i / 64<ws.length)(j:Nat):bitW (putW ws i) j=(bitW ws j || decide (j=i)):=by
 unfold bitW putW;rw [getD_setN h]
 by_cases hj:j / 64=i / 64
 · rw [if_pos hj,hj,Nat.testBit_or,Nat.testBit_two_pow];congr 1;rw [decide_eq_decide];omega
 rw [if_neg hj];have:¬ j=i:=fun e=>hj (by rw [e]);simp [this]
theorem small_getD(h:SmallW ws)(k:Nat):ws.getD k 0<2 ^ 64:=by
 rw [List.getD_eq_getElem?_getD];cases hk:ws[k]? with
 | none=>exact Nat.two_pow_pos 64
 | some x=>exact h x (List.mem_of_getElem? hk)
theorem small_put(h:SmallW ws)(i:Nat):SmallW (putW ws i):=fun x hx=>by
 rcases List.mem_or_eq_of_mem_set hx with hx|rfl
 · exact h x hx
 · exact Nat.or_lt_two_pow (small_getD h _) (Nat.pow_lt_pow_right (by decide) (Nat.mod_lt _ (by decide)))
theorem bit_zeros(n i:Nat):bitW (List.replicate n 0) i=false:=by
 unfold bitW;have:(List.replicate n 0).getD (i / 64) 0=0:=by rw [List.getD_eq_getElem?_getD,List.getElem?_replicate];split <;> rfl
 rw [this,Nat.zero_testBit]
theorem small_zeros(n:Nat):SmallW (List.replicate n 0):=fun x hx=>by rw [(List.mem_replicate.1 hx).2];exact Nat.two_pow_pos 64
def UpW(n:Nat)(ws:List Nat):Prop:=∀ i,n≤i→bitW ws i=false
def orTo(a b:List Nat)(k:Nat):List Nat:=a.zipIdx.map fun x=>if x.2<k then x.1 ||| b.getD x.2 0 else x.1
theorem orTo_len(a b:List Nat)(k:Nat):(orTo a b k).length=a.length:=by unfold orTo;simp
theorem orTo_get(a b:List Nat)(k j:Nat):(orTo a b k).getD j 0=if j<k∧j<a.length then a.getD j 0 ||| b.getD j 0 else a.getD j 0:=by
 unfold orTo;simp only [List.getD_eq_getElem?_getD,List.getElem?_map,List.getElem?_zipIdx];cases hj:a[j]? with
 | none =>have:=List.getElem?_eq_none_iff.1 hj;rw [if_neg (by omega)];rfl
 | some x =>
  have:=(List.getElem?_eq_some_iff.1 hj).1
  by_cases h:j<k
  · simp [h,this]
  · simp [h]
theorem orTo_zero(a b:List Nat):orTo a b 0=a:=by apply List.ext_getElem?;intro i;unfold orTo;simp only [List.getElem?_map,List.getElem?_zipIdx];cases a[i]? <;> simp
theorem orTo_succ(h:k<a.length):orTo a b (k+1)=(orTo a b k).set k (a.getD k 0 ||| b.getD k 0):=by
 apply List.ext_getElem?;intro i;rw [List.getElem?_set];unfold orTo;simp only [List.getElem?_map,List.getElem?_zipIdx];cases hi:a[i]? with
 | none =>have:=List.getElem?_eq_none_iff.1 hi;simp;omega
 | some x =>
  by_cases hk:k=i
  · subst hk;have hx:a[k]=x:=Option.some.inj ((List.getElem?_eq_getElem h).symm.trans hi);simp [h,List.getD_eq_getElem?_getD,hx]
  ·
   by_cases h1:i<k
   · simp [hk,h1,Nat.lt_succ_of_lt h1]
   · simp [hk,h1,show ¬ i<k+1 by omega]
theorem orTo_at(h:k<a.length):(orTo a b k)[k]? = some (a.getD k 0):=by unfold orTo;have:=List.getElem?_eq_getElem h;simp [List.getElem?_map,List.getElem?_zipIdx,this,List.getD_eq_getElem?_getD]
theorem bit_or(hl:a.length=b.length)(i:Nat):bitW (orTo a b a.length) i=(bitW a i || bitW b i):=by
 unfold bitW;rw [orTo_get]
 by_cases h:i / 64<a.length
 · rw [if_pos ⟨h,h⟩,Nat.testBit_or]
 rw [if_neg (by omega)];have:b.getD (i / 64) 0=0:=by rw [List.getD_eq_getElem?_getD,List.getElem?_eq_none (by omega)];rfl
 rw [this,Nat.zero_testBit,Bool.or_false]
theorem small_or(ha:SmallW a)(hb:SmallW b)(k:Nat):SmallW (orTo a b k):=fun x hx=>by
 unfold orTo at hx;obtain⟨⟨y,j⟩,hy,rfl⟩:=List.mem_map.1 hx;have hy':y∈a:=by have:=List.mem_zipIdx hy;have h2:=this.2.2;rw [h2];exact List.getElem_mem _
 dsimp only;split
 · exact Nat.or_lt_two_pow (ha y hy') (small_getD hb j)
 · exact ha y hy'
def LowB(x p:Nat):Prop:=x.testBit p=true∧∀ q,q<p→x.testBit q=false
theorem lowB_ex(h:x≠0):∃ p,LowB x p:=by
 have hb:∃ i,x.testBit i=true:=Classical.byContradiction fun hn=>h (Nat.eq_of_testBit_eq fun i=>by
  rw [Nat.zero_testBit];cases hi:x.testBit i with
  | false=>rfl
  | true=>exact absurd ⟨i,hi⟩ hn)
 obtain⟨i,hi⟩:=hb;have:∀ m,(∃ i,i≤m∧x.testBit i=true)→∃ p,LowB x p:=by
  intro m;induction m with
  | zero =>rintro⟨i,hi,hb⟩;obtain rfl:i=0:=(by omega);exact⟨0,hb,fun q hq=>absurd hq (Nat.not_lt_zero q)⟩
  | succ m ih =>
   rintro⟨i,hi,hb⟩;rcases Classical.em (∃ j,j≤m∧x.testBit j=true) with h|h
   · exact ih h
   refine⟨i,hb,fun q hq => ?_⟩;cases hq2:x.testBit q with
   | false=>rfl
   | true=>exact absurd ⟨q,by omega,hq2⟩ h
 exact this i ⟨i,Nat.le_refl _,hi⟩
theorem lowB_lt(h:LowB x p)(hx:x<2 ^ n):p<n:=by
 rcases Nat.lt_or_ge p n with hl|hl
 · exact hl
 have:=Nat.testBit_lt_two_pow (Nat.lt_of_lt_of_le hx (Nat.pow_le_pow_right (by decide) hl));rw [h.1] at this;cases this
theorem lowB_high{h:Nat}(hp:LowB x p)(h0:x % 2 ^ h=0):h≤p∧LowB (x / 2 ^ h) (p - h):=by
 have hle:h≤p:=by
  rcases Nat.lt_or_ge p h with hl|hl
  · have:=Nat.testBit_mod_two_pow x h p;rw [h0,Nat.zero_testBit,hp.1] at this;simp [hl] at this
  exact hl
 refine⟨hle,?_,fun q hq => ?_⟩
 · rw [Nat.testBit_div_two_pow,show p - h+h=p by omega];exact hp.1
 rw [Nat.testBit_div_two_pow];exact hp.2 _ (by omega)
theorem lowB_low{h:Nat}(hp:LowB x p)(h0:x % 2 ^ h≠0):p<h:=by
 obtain⟨q,hq⟩:=lowB_ex h0;have h1:=hq.1;rw [Nat.testBit_mod_two_pow] at h1;simp only [Bool.and_eq_true,decide_eq_true_eq] at h1;rcases Nat.lt_or_ge p h with hl|hl
 · exact hl
 have:=hp.2 q (by omega);rw [h1.2] at this;cases this
theorem lowB_zero(h:LowB x 0):x % 2=1:=by have:=h.1;rw [Nat.testBit_zero] at this;simpa using this
def NextP(S:Nat→Bool)(n from':Nat)(r:Int):Prop:=(r = -1∧∀ i,from'≤i→i<n→S i=false)∨∃ i:Nat,r=(i:Int)∧from'≤i∧i<n∧S i=true∧∀ j,from'≤j→j<i→S j=false
theorem cut_bit(x s q:Nat):(x / 2 ^ s*2 ^ s).testBit q=(decide (s≤q) && x.testBit q):=by
 rw [Nat.testBit_mul_two_pow]
 by_cases h:s≤q
 · simp only [h,decide_true,Bool.true_and];rw [Nat.testBit_div_two_pow,show q - s+s=q by omega]
 simp [h]
def cutX(ws:List Nat)(f k:Nat):Nat:=if k=f / 64 then ws.getD k 0 / 2 ^ (f % 64)*2 ^ (f % 64) else ws.getD k 0
theorem cutX_bit{q:Nat}(hk:f / 64≤k)(hq:q<64):(cutX ws f k).testBit q=(decide (f≤64*k+q) && bitW ws (64*k+q)):=by
 have e1:(64*k+q) / 64=k:=by omega
 have e2:(64*k+q) % 64=q:=by omega
 unfold cutX bitW;rw [e1,e2];split
 · rename_i h;rw [cut_bit];congr 1;rw [decide_eq_decide];omega
 rename_i h;have:f≤64*k+q:=by omega
 simp [this]
def NxtAt(ws:List Nat)(f k:Nat):Prop:=∀ j,f≤j→j<64*k→bitW ws j=false
theorem nxt_start(ws:List Nat)(f:Nat):NxtAt ws f (f / 64):=fun j h1 h2=>by omega
theorem nxt_zero(h:NxtAt ws f k)(hk:f / 64≤k)(hz:cutX ws f k=0):NxtAt ws f (k+1):=fun j h1 h2=>by
 rcases Nat.lt_or_ge j (64*k) with hl|hg
 · exact h j h1 hl
 · have hb:=cutX_bit (ws:=ws) hk (q:=j - 64*k) (by omega);rw [hz,Nat.zero_testBit,show 64*k+(j - 64*k)=j by omega] at hb;simpa [h1] using hb.symm
theorem cutX_lt(hs:SmallW ws)(f k:Nat):cutX ws f k<2 ^ 64:=by
 unfold cutX;split
 · exact Nat.lt_of_le_of_lt (Nat.div_mul_le_self _ _) (small_getD hs _)
 exact small_getD hs _
theorem nxt_found(h:NxtAt ws f k)(hk:f / 64≤k)(hs:SmallW ws)(hu:UpW n ws)(hp:LowB (cutX ws f k) p):NextP (bitW ws) n f ((64*k+p:Nat):Int):=by
 have hp64:=lowB_lt hp (cutX_lt hs f k);have hb:=hp.1;rw [cutX_bit hk hp64] at hb;simp only [Bool.and_eq_true,decide_eq_true_eq] at hb;refine .inr ⟨64*k+p,rfl,hb.1,?_,hb.2,fun j h1 h2 => ?_⟩
 ·
  rcases Nat.lt_or_ge (64*k+p) n with hl|hg
  · exact hl
  have:=hu _ hg;rw [hb.2] at this;cases this
 rcases Nat.lt_or_ge j (64*k) with hl|hg
 · exact h j h1 hl
 have h3:=hp.2 (j - 64*k) (by omega);rw [cutX_bit hk (by omega),show 64*k+(j - 64*k)=j by omega] at h3;simpa [h1] using h3
theorem nxt_none(h:NxtAt ws f k)(hn:n≤64*k):NextP (bitW ws) n f (-1):=.inl ⟨rfl,fun j h1 h2=>h j h1 (by omega)⟩
theorem next_past(S:Nat→Bool)(h:n≤f):NextP S n f (-1):=.inl ⟨rfl,fun j h1 h2=>by omega⟩
theorem low_and(x h:Nat):x &&& (2 ^ h - 1)=x % 2 ^ h:=Nat.and_two_pow_sub_one_eq_mod x h
def FirI(p x n half:Nat):Prop:=∃ r,p=n+r∧LowB x r∧r<2*half
theorem fir_start(h:LowB x p)(hx:x<2 ^ 64):FirI p x 0 32:=⟨p,by omega,h,lowB_lt h hx⟩
theorem fir_high{half:Nat}(h:FirI p x n half)(h0:x % 2 ^ half=0):FirI p (x / 2 ^ half) (n+half) (half / 2)∨half % 2=1∧FirI p (x / 2 ^ half) (n+half) ((half+1) / 2):=by
 obtain⟨r,h1,h2,h3⟩:=h;obtain⟨h4,h5⟩:=lowB_high h2 h0;rcases Nat.mod_two_eq_zero_or_one half with e|e
 · exact .inl ⟨r - half,by omega,h5,by omega⟩
 exact .inr ⟨e,r - half,by omega,h5,by omega⟩
theorem fir_low{half:Nat}(h:FirI p x n half)(h0:x % 2 ^ half≠0)(he:half % 2=0):FirI p x n (half / 2):=by obtain⟨r,h1,h2,h3⟩:=h;have:=lowB_low h2 h0;exact⟨r,h1,h2,by omega⟩
theorem fir_low1(h:FirI p x n 1)(h0:x % 2 ^ 1≠0):p=n∧x % 2=1:=by
 obtain⟨r,h1,h2,h3⟩:=h;have:=lowB_low h2 h0;obtain rfl:r=0:=by omega
 exact⟨h1,lowB_zero h2⟩
theorem fir_high1(h:FirI p x n 1)(h0:x % 2 ^ 1=0):p=n+1∧(x / 2 ^ 1) % 2=1:=by
 obtain⟨r,h1,h2,h3⟩:=h;obtain⟨h4,h5⟩:=lowB_high h2 h0;obtain rfl:r=1:=by omega
 exact⟨h1,lowB_zero h5⟩
end
variable{L:List (Nat × Nat)}{K out:List Nat}{g i j k n:Nat}
inductive Lead (L:List (Nat × Nat)):Nat→Nat→Prop
 | step {i j:Nat}:(i,j)∈L→Lead L i j
 | more {i k j:Nat}:Lead L i k→(k,j)∈L→Lead L i j
theorem Lead.trans(h:Lead L i k)(h':Lead L k j):Lead L i j:=by
 induction h' with
 | step h2=>exact .more h h2
 | more _ h2 ih=>exact .more ih h2
theorem Lead.from'(h:Lead L i j):∃ k,(i,k)∈L:=by
 induction h with
 | step h2=>exact⟨_,h2⟩
 | more _ _ ih=>exact ih
theorem Lead.into(h:Lead L i j):∃ k,(k,j)∈L:=by
 cases h with
 | step h2=>exact⟨_,h2⟩
 | more _ h2=>exact⟨_,h2⟩
theorem Lead.lt(hL:∀ s∈L,s.1<n∧s.2<n)(h:Lead L i j):i<n∧j<n:=by obtain⟨k,hk⟩:=h.from';obtain⟨m,hm⟩:=h.into;exact⟨(hL _ hk).1,(hL _ hm).2⟩
inductive Via (L:List (Nat × Nat)) (K:List Nat):Nat→Nat→Prop
 | step {i j:Nat}:(i,j)∈L→Via L K i j
 | join {i k j:Nat}:Via L K i k→k∈K→Via L K k j→Via L K i j
theorem Via.lead(h:Via L K i j):Lead L i j:=by
 induction h with
 | step h=>exact .step h
 | join _ _ _ h1 h2=>exact h1.trans h2
theorem Via.mono{K':List Nat}(hK:∀ k∈K,k∈K')(h:Via L K i j):Via L K' i j:=by
 induction h with
 | step h=>exact .step h
 | join _ hk _ h1 h2=>exact .join h1 (hK _ hk) h2
theorem via_nil:Via L [] i j↔(i,j)∈L:=
 ⟨fun h=>by cases h with|step h=>exact h|join _ hk _=>exact absurd hk (List.not_mem_nil),.step⟩
theorem via_snoc:Via L (K++[k]) i j↔Via L K i j∨(Via L K i k∧Via L K k j):=by
 have up:∀ {i j},Via L K i j→Via L (K++[k]) i j:=fun h=>h.mono fun x hx=>List.mem_append_left _ hx;constructor;rotate_left
 ·
  rintro(h|⟨h1,h2⟩)
  · exact up h
  exact .join (up h1) (List.mem_append_right _ (List.mem_singleton.2 rfl)) (up h2)
 intro h;induction h with
 | step h=>exact .inl (.step h)
 | join _ hm _ h1 h2 =>
  rcases List.mem_append.1 hm with hm|hm
  ·
   rcases h1 with a|⟨a,a'⟩ <;> rcases h2 with b|⟨b,b'⟩
   · exact .inl (.join a hm b)
   · exact .inr ⟨.join a hm b,b'⟩
   · exact .inr ⟨a,.join a' hm b⟩
   exact .inr ⟨a,b'⟩
  rw [List.mem_singleton.1 hm] at h1 h2;have a:Via L K _ k:=h1.elim id And.left;have b:Via L K k _:=h2.elim id And.right;exact .inr ⟨a,b⟩
theorem via_self:Via L (K++[k]) k j↔Via L K k j:=
 via_snoc.trans ⟨fun h=>h.elim id And.right,.inl⟩
theorem via_all(hK:∀ s∈L,s.1∈K):Via L K i j↔Lead L i j:=by
 refine⟨Via.lead,fun h => ?_⟩;induction h with
 | step h=>exact .step h
 | more _ h2 ih=>exact .join ih (hK _ h2) (.step h2)
def AlikeP(L:List (Nat × Nat))(i j:Nat):Prop:=i=j∨(Lead L i j∧Lead L j i)
def BeforeP(L:List (Nat × Nat))(i j:Nat):Prop:=Lead L i j∧¬ Lead L j i
theorem AlikeP.symm(h:AlikeP L i j):AlikeP L j i:=by
 rcases h with rfl|⟨a,b⟩
 · exact .inl rfl
 exact .inr ⟨b,a⟩
theorem AlikeP.trans(h:AlikeP L i j)(h':AlikeP L j k):AlikeP L i k:=by
 rcases h with rfl|⟨a,b⟩
 · exact h'
 rcases h' with rfl|⟨c,d⟩
 · exact .inr ⟨a,b⟩
 exact .inr ⟨a.trans c,d.trans b⟩
theorem BeforeP.trans(h:BeforeP L i j)(h':BeforeP L j k):BeforeP L i k:=
 ⟨h.1.trans h'.1,fun q=>h.2 (h'.1.trans q)⟩
theorem BeforeP.irrefl(h:BeforeP L i i):False:=h.2 h.1
theorem BeforeP.left(h:BeforeP L i j)(ha:AlikeP L i k):BeforeP L k j:=by
 rcases ha with rfl|⟨a,b⟩
 · exact h
 exact⟨b.trans h.1,fun q=>h.2 (q.trans b)⟩
theorem BeforeP.right(h:BeforeP L i j)(ha:AlikeP L j k):BeforeP L i k:=by
 rcases ha with rfl|⟨a,b⟩
 · exact h
 exact⟨h.1.trans a,fun q=>h.2 (a.trans q)⟩
structure IsGroup (L:List (Nat × Nat)) (i g:Nat):Prop where
 alike:AlikeP L i g
 least:∀ j,AlikeP L i j→g≤j
theorem isGroup_one{h:Nat}(a:IsGroup L i g)(b:IsGroup L i h):g=h:=Nat.le_antisymm (a.least _ b.alike) (b.least _ a.alike)
theorem isGroup_ex(L:List (Nat × Nat))(i:Nat):∃ g,IsGroup L i g:=by
 have:∀ m,(∃ g,g≤m∧AlikeP L i g)→∃ g,IsGroup L i g:=by
  intro m;induction m with
  | zero =>rintro⟨g,hg,ha⟩;obtain rfl:g=0:=(by omega);exact⟨0,ha,fun _ _=>Nat.zero_le _⟩
  | succ m ih =>
   rintro⟨g,hg,ha⟩;rcases Classical.em (∃ g',g'≤m∧AlikeP L i g') with h|h
   · exact ih h
   refine⟨g,ha,fun j hj => ?_⟩;rcases Nat.lt_or_ge j g with hlt|hge
   · exact absurd ⟨j,by omega,hj⟩ h
   exact hge
 exact this i ⟨i,Nat.le_refl _,.inl rfl⟩
open Classical in
noncomputable def groupM(L:List (Nat × Nat))(i:Nat):Nat:=Classical.choose (isGroup_ex L i)
theorem groupM_is(L:List (Nat × Nat))(i:Nat):IsGroup L i (groupM L i):=Classical.choose_spec (isGroup_ex L i)
theorem groupM_eq(h:IsGroup L i g):groupM L i=g:=isGroup_one (groupM_is L i) h
theorem groupM_le(L:List (Nat × Nat))(i:Nat):groupM L i≤i:=(groupM_is L i).least i (.inl rfl)
theorem groupM_alike:groupM L i=groupM L j↔AlikeP L i j:=by
 constructor
 · intro h;have h2:=(groupM_is L j).alike;rw [← h] at h2;exact(groupM_is L i).alike.trans h2.symm
 intro h;exact groupM_eq ⟨h.trans (groupM_is L j).alike,fun k hk=>(groupM_is L j).least k (h.symm.trans hk)⟩
theorem groupM_idem(L:List (Nat × Nat))(i:Nat):groupM L (groupM L i)=groupM L i:=groupM_alike.2 (groupM_is L i).alike.symm
def MayTake(L:List (Nat × Nat))(n:Nat)(out:List Nat)(g:Nat):Prop:=g<n∧groupM L g=g∧g ∉ out∧∀ j,j<n→BeforeP L j g→j∈out
open Classical in
noncomputable def pickM(L:List (Nat × Nat))(n:Nat)(out:List Nat):Option Nat:=(List.range n).find? fun g=>decide (MayTake L n out g)
open Classical in
noncomputable def takeG(L:List (Nat × Nat))(n g:Nat):List Nat:=(List.range n).filter fun i=>decide (groupM L i=g)
noncomputable def stepO(L:List (Nat × Nat))(n:Nat)(out:List Nat):List Nat:=match pickM L n out with
 | some g=>out++takeG L n g
 | none=>out
structure Whole (L:List (Nat × Nat)) (n:Nat) (out:List Nat):Prop where
 lt:∀ i∈out,i<n
 nodup:out.Nodup
 groups:∀ i j,i∈out→j<n→AlikeP L i j→j∈out
theorem whole_nil(L:List (Nat × Nat))(n:Nat):Whole L n []:=⟨fun i h=>absurd h (List.not_mem_nil),List.nodup_nil,fun i j h=>absurd h (List.not_mem_nil)⟩
theorem mem_takeG:i∈takeG L n g↔i<n∧groupM L i=g:=by unfold takeG;simp [List.mem_filter,List.mem_range]
theorem pick_some(h:pickM L n out=some g):MayTake L n out g:=by unfold pickM at h;have:=List.find?_some h;simpa using this
theorem whole_step(h:Whole L n out):Whole L n (stepO L n out):=by
 unfold stepO;cases hp:pickM L n out with
 | none=>exact h
 | some g =>
  obtain⟨g1,g2,g3,g4⟩:=pick_some hp;refine⟨fun i hi => ?_,?_,fun i j hi hj ha => ?_⟩
  ·
   rcases List.mem_append.1 hi with hi|hi
   · exact h.lt i hi
   · exact(mem_takeG.1 hi).1
  · refine List.nodup_append.2 ⟨h.nodup,List.Pairwise.filter _ List.nodup_range,fun a ha b hb hab => ?_⟩;subst hab;have h2:=(mem_takeG.1 hb).2;have h3:AlikeP L a g:=(by rw [← h2];exact(groupM_is L a).alike);exact g3 (h.groups a g ha g1 h3)
  ·
   rcases List.mem_append.1 hi with hi|hi
   · exact List.mem_append_left _ (h.groups i j hi hj ha)
   · exact List.mem_append_right _ (mem_takeG.2 ⟨hj,by rw [← (mem_takeG.1 hi).2];exact(groupM_alike.2 ha).symm⟩)
theorem nodup_lenN:∀ {l m:List Nat},l.Nodup→(∀ x∈l,x∈m)→l.length≤m.length
 | [],m,_,_=>Nat.zero_le _
 | x :: l,m,h,hs=>by obtain⟨h1,h2⟩:=List.nodup_cons.1 h;have hx:=hs x (List.mem_cons_self ..);have:=nodup_lenN (m:=m.erase x) h2 fun y hy=>(List.mem_erase_of_ne (fun e=>h1 (by rw [← e];exact hy))).2 (hs y (List.mem_cons_of_mem _ hy));rw [List.length_erase_of_mem hx] at this;have h3:=List.length_pos_of_mem hx;rw [List.length_cons];omega
open Classical in
noncomputable def leftM(L:List (Nat × Nat))(n:Nat)(out:List Nat)(i:Nat):List Nat:=(List.range n).filter fun j=>decide (BeforeP L j i∧j ∉ out)
theorem mem_leftM:j∈leftM L n out i↔j<n∧BeforeP L j i∧j ∉ out:=by unfold leftM;simp only [List.mem_filter,List.mem_range,decide_eq_true_iff]
theorem pick_ex(h:Whole L n out)(hlt:∃ i,i<n∧i ∉ out):∃ g,MayTake L n out g:=by
 have key:∀ m,∀ i,i<n→i ∉ out→(leftM L n out i).length≤m→∃ g,MayTake L n out g:=by
  intro m;induction m with
  | zero =>intro i hi hno hm;refine⟨groupM L i,Nat.lt_of_le_of_lt (groupM_le L i) hi,groupM_idem L i,fun q=>hno (h.groups _ i q hi (groupM_is L i).alike.symm),fun j hj hb=>Classical.byContradiction fun hjo => ?_⟩;have h0:=List.eq_nil_of_length_eq_zero (Nat.le_zero.1 hm);have:j∈leftM L n out i:=mem_leftM.2 ⟨hj,hb.right (groupM_is L i).alike.symm,hjo⟩;rw [h0] at this;exact absurd this (List.not_mem_nil)
  | succ m ih =>
   intro i hi hno hm;rcases Classical.em (∃ j,j<n∧BeforeP L j i∧j ∉ out) with⟨j,hj,hb,hjo⟩|hnone
   ·
    refine ih j hj hjo ?_;have hnd:(j :: leftM L n out j).Nodup:=List.nodup_cons.2 ⟨fun q=>(mem_leftM.1 q).2.1.irrefl,List.Pairwise.filter _ List.nodup_range⟩;have:=nodup_lenN (m:=leftM L n out i) hnd fun x hx=>by
     rcases List.mem_cons.1 hx with rfl|hx
     · exact mem_leftM.2 ⟨hj,hb,hjo⟩
     obtain⟨h1,h2,h3⟩:=mem_leftM.1 hx;exact mem_leftM.2 ⟨h1,h2.trans hb,h3⟩
    rw [List.length_cons] at this;omega
   exact⟨groupM L i,Nat.lt_of_le_of_lt (groupM_le L i) hi,groupM_idem L i,fun q=>hno (h.groups _ i q hi (groupM_is L i).alike.symm),fun j hj hb=>Classical.byContradiction fun hjo =>hnone ⟨j,hj,hb.right (groupM_is L i).alike.symm,hjo⟩⟩
 obtain⟨i,hi,hno⟩:=hlt;exact key _ i hi hno (Nat.le_refl _)
theorem step_grows(h:Whole L n out)(hl:out.length<n):∃ g,pickM L n out=some g∧g∈takeG L n g∧out.length<(stepO L n out).length:=by
 have hex:∃ i,i<n∧i ∉ out:=Classical.byContradiction fun hno=>by have:∀ x∈List.range n,x∈out:=fun x hx=>Classical.byContradiction fun q=>hno ⟨x,List.mem_range.1 hx,q⟩;have:=nodup_lenN List.nodup_range this;rw [List.length_range] at this;omega
 obtain⟨g,hg⟩:=pick_ex h hex;cases hp:pickM L n out with
 | none =>unfold pickM at hp;have:=(List.find?_eq_none.1 hp) g (List.mem_range.2 hg.1);simp only [decide_eq_true_iff] at this;exact absurd hg this
 | some g' =>obtain⟨g1,g2,g3,g4⟩:=pick_some hp;have hm:g'∈takeG L n g':=mem_takeG.2 ⟨g1,g2⟩;refine⟨g',rfl,hm,?_⟩;unfold stepO;rw [hp,List.length_append];have:=List.length_pos_of_mem hm;omega
noncomputable def orderTo(L:List (Nat × Nat))(n:Nat):Nat→List Nat
 | 0=>[]
 | k+1=>stepO L n (orderTo L n k)
noncomputable def orderM(L:List (Nat × Nat))(n:Nat):List Nat:=orderTo L n n
theorem orderTo_whole(L:List (Nat × Nat))(n:Nat):∀ k,Whole L n (orderTo L n k)
 | 0=>whole_nil L n
 | k+1=>whole_step (orderTo_whole L n k)
theorem whole_len(h:Whole L n out):out.length≤n:=by
 have:=nodup_lenN (m:=List.range n) h.nodup fun x hx=>List.mem_range.2 (h.lt x hx)
 rwa [List.length_range] at this
theorem step_full(h:Whole L n out)(hl:out.length=n):stepO L n out=out:=by
 have hall:∀ i,i<n→i∈out:=fun i hi=>Classical.byContradiction fun q=>by
  have:=nodup_lenN (m:=List.range n) (l:=i :: out) (List.nodup_cons.2 ⟨q,h.nodup⟩) fun x hx=>by
   rcases List.mem_cons.1 hx with rfl|hx
   · exact List.mem_range.2 hi
   exact List.mem_range.2 (h.lt x hx)
  rw [List.length_cons,List.length_range] at this;omega
 unfold stepO;cases hp:pickM L n out with
 | none=>rfl
 | some g =>obtain⟨g1,_,g3,_⟩:=pick_some hp;exact absurd (hall g g1) g3
theorem orderTo_len(L:List (Nat × Nat))(n:Nat):∀ k,min k n≤(orderTo L n k).length
 | 0=>by simp [orderTo]
 | k+1=>by
  have ih:=orderTo_len L n k;have hw:=orderTo_whole L n k;show min (k+1) n≤(stepO L n (orderTo L n k)).length;rcases Nat.lt_or_ge (orderTo L n k).length n with hlt|hge
  · obtain⟨g,_,_,h3⟩:=step_grows hw hlt;omega
  have:=whole_len hw;rw [step_full hw (by omega)];omega
theorem order_done(L:List (Nat × Nat))(n:Nat)(h:(orderTo L n k).length=n):orderTo L n k=orderM L n:=by
 have hs:∀ d,orderTo L n (k+d)=orderTo L n k:=by
  intro d;induction d with
  | zero=>rfl
  | succ d ih=>show stepO L n (orderTo L n (k+d))=_;rw [ih,step_full (orderTo_whole L n k) h]
 rcases Nat.le_total k n with hk|hk
 · have:=hs (n - k);rw [show k+(n - k)=n by omega] at this;exact this.symm
 have hn:(orderTo L n n).length=n:=by have h1:=orderTo_len L n n;have h2:=whole_len (orderTo_whole L n n);omega
 have hs2:∀ d,orderTo L n (n+d)=orderTo L n n:=by
  intro d;induction d with
  | zero=>rfl
  | succ d ih=>show stepO L n (orderTo L n (n+d))=_;rw [ih,step_full (orderTo_whole L n n) hn]
 have:=hs2 (k - n);rw [show n+(k - n)=k by omega] at this;exact this
theorem take_one{α:Type}{l:List α}{x:α}(h:l[k]? = some x):l.take (k+1)=l.take k++[x]:=by rw [List.take_add_one,h];rfl
theorem nodup_snocN(h:out.Nodup)(hj:j ∉ out):(out++[j]).Nodup:=
 List.nodup_append.2 ⟨h,List.nodup_cons.2 ⟨List.not_mem_nil,List.nodup_nil⟩,fun a ha b hb e=>hj (by rw [List.mem_singleton.1 hb] at e;rw [← e];exact ha)⟩
def UpL(L:List (Nat × Nat)):Prop:=∀ s∈L,s.1<s.2
theorem up_lead(h:UpL L)(hl:Lead L i j):i<j:=by
 induction hl with
 | step h2=>exact h _ h2
 | more _ h2 ih=>exact Nat.lt_trans ih (h _ h2)
theorem up_alike(h:UpL L):AlikeP L i j↔i=j:=by
 refine⟨fun ha => ?_,.inl⟩;rcases ha with e|⟨h1,h2⟩
 · exact e
 have:=up_lead h h1;have:=up_lead h h2;omega
theorem up_group(h:UpL L)(i:Nat):groupM L i=i:=((up_alike h).1 (groupM_is L i).alike).symm
theorem up_take(h:UpL L)(hg:g<n):takeG L n g=[g]:=by
 have hn:(takeG L n g).Nodup:=List.Pairwise.filter _ List.nodup_range;have hm:∀ i,i∈takeG L n g↔i=g:=fun i=>by rw [mem_takeG,up_group h];exact⟨And.right,fun e=>⟨by rw [e];exact hg,e⟩⟩
 match ht:takeG L n g with
 | []=>have:=(hm g).2 rfl;rw [ht] at this;exact absurd this (List.not_mem_nil)
 | [x]=>have:=(hm x).1 (by rw [ht];exact List.mem_singleton.2 rfl);rw [this]
 | x :: y :: r =>have h1:=(hm x).1 (by rw [ht];exact List.mem_cons_self ..);have h2:=(hm y).1 (by rw [ht];exact List.mem_cons_of_mem _ (List.mem_cons_self ..));rw [ht,h1,h2] at hn;exact absurd (List.mem_cons_self ..) (List.nodup_cons.1 hn).1
theorem up_order(h:UpL L)(n:Nat):orderM L n=List.range n:=by
 have key:∀ k,k≤n→orderTo L n k=List.range k:=by
  intro k;induction k with
  | zero=>intro _;rfl
  | succ k ih =>
   intro hk;show stepO L n (orderTo L n k)=_;rw [ih (by omega)];have hmay:MayTake L n (List.range k) k:=⟨by omega,up_group h k,by simp,fun j _ hb=>List.mem_range.2 (up_lead h hb.1)⟩;have hp:pickM L n (List.range k)=some k:=by
    cases hp:pickM L n (List.range k) with
    | none =>unfold pickM at hp;have:=(List.find?_eq_none.1 hp) k (List.mem_range.2 (by omega));simp only [decide_eq_true_iff] at this;exact absurd hmay this
    | some g =>
     obtain⟨g1,g2,g3,g4⟩:=pick_some hp;have hge:k≤g:=Nat.le_of_not_lt fun q=>g3 (List.mem_range.2 q);rcases Nat.eq_or_lt_of_le hge with e|hlt
     · rw [e]
     unfold pickM at hp;obtain⟨l1,l2,hab,hno⟩:=(List.find?_eq_some_iff_append.1 hp).2;have hk2:k∈l1:=by
      have hmem:k∈List.range n:=List.mem_range.2 (by omega);have hpw:(List.range n).Pairwise (· < ·):=List.pairwise_lt_range;rw [hab] at hmem hpw;rcases List.mem_append.1 hmem with hm|hm
      · exact hm
      rcases List.mem_cons.1 hm with e|hm
      · omega
      have:=(List.pairwise_cons.1 (List.pairwise_append.1 hpw).2.1).1 k hm;omega
     have:=hno k hk2;simp only [Bool.not_eq_true',decide_eq_false_iff_not] at this;exact absurd hmay this
   unfold stepO;rw [hp];show List.range k++takeG L n k=_;rw [up_take h (show k<n by omega),List.range_succ]
 exact key n (Nat.le_refl _)
end Go.Proofs.YtjccmcgglfncdaaGreatDoor
