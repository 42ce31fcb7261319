/- What is proved: MergeTurns, for every input; of the listed tables the walk needs the powers of ten. -/
import Derived.Test.YtjccmcgglfncdaaGreatDoorUGrP
set_option linter.unusedVariables false
set_option linter.unusedSimpArgs false
namespace Go.Proofs.YtjccmcgglfncdaaGreatDoor
variable{a b ws:List Nat}{f k n p x:Nat}
def bitW(ws:List Nat)(i:Nat):Bool:=(ws.getD (i / 64) 0).testBit (i % 64)
def SmallW(ws:List Nat):Prop:=∀ x∈ws,x<2 ^ 64
def putW(ws:List Nat)(i:Nat):List Nat:=ws.set (i / 64) (ws.getD (i / 64) 0 ||| 2 ^ (i % 64))
theorem putW_len(ws:List Nat)(i:Nat):(putW ws i).length=ws.length:=by unfold putW;simp
theorem getD_setN{j:Nat}(hk:k<ws.length):(ws.set k x).getD j 0=if j=k then x else ws.getD j 0:=by
 simp only [List.getD_eq_getElem?_getD,List.getElem?_set]
 by_cases h:k=j
 · subst h;simp [hk]
 rw [if_neg h,if_neg (Ne.symm h)]
theorem bit_put{i:Nat}(h:i / 64<ws.length)(j:Nat):bitW (putW ws i) j=(bitW ws j || decide (j=i)):=by
 unfold bitW putW;rw [getD_setN h]
 by_cases hj:j / 64=i / 64
 · rw [if_pos hj,hj,Nat.testBit_or,Nat.testBit_two_pow];congr 1;rw [decide_eq_decide];omega
 rw [if_neg hj];have:¬ j=i:=fun e=>hj (by rw [e]);simp [this]
theorem small_getD(h:SmallW ws)(k:Nat):ws.getD k 0<2 ^ 64:=by
 rw [List.getD_eq_getElem?_getD];cases hk:ws[k]? with
 | none=>exact Nat.two_pow_pos 64
 | some x=>exact h x (List.mem_of_getElem? hk)
theorem small_put(h:SmallW ws)(i:Nat):SmallW (putW ws i):=fun x hx=>by
 rcases List.mem_or_eq_of_mem_set hx with hx|rfl
 · exact h x hx
 · exact Nat.or_lt_two_pow (small_getD h _) (Nat.pow_lt_pow_right (by decide) (Nat.mod_lt _ (by decide)))
theorem bit_zeros(n i:Nat):bitW (List.replicate n 0) i=false:=by
 unfold bitW;have:(List.replicate n 0).getD (i / 64) 0=0:=by rw [List.getD_eq_getElem?_getD,List.getElem?_replicate];split <;> rfl
 rw [this,Nat.zero_testBit]
theorem small_zeros(n:Nat):SmallW (List.replicate n 0):=fun x hx=>by rw [(List.mem_replicate.1 hx).2];exact Nat.two_pow_pos 64
def UpW(n:Nat)(ws:List Nat):Prop:=∀ i,n≤i→bitW ws i=false
def orTo(a b:List Nat)(k:Nat):List Nat:=a.zipIdx.map fun x=>if x.2<k then x.1 ||| b.getD x.2 0 else x.1
theorem orTo_len(a b:List Nat)(k:Nat):(orTo a b k).length=a.length:=by unfold orTo;simp
theorem orTo_get(a b:List Nat)(k j:Nat):(orTo a b k).getD j 0=if j<k∧j<a.length then a.getD j 0 ||| b.getD j 0 else a.getD j 0:=by
 unfold orTo;simp only [List.getD_eq_getElem?_getD,List.getElem?_map,List.getElem?_zipIdx];cases hj:a[j]? with
 | none =>have:=List.getElem?_eq_none_iff.1 hj;rw [if_neg (by omega)];rfl
 | some x =>
  have:=(List.getElem?_eq_some_iff.1 hj).1
  by_cases h:j<k
  · simp [h,this]
  · simp [h]
theorem orTo_zero(a b:List Nat):orTo a b 0=a:=by apply List.ext_getElem?;intro i;unfold orTo;simp only [List.getElem?_map,List.getElem?_zipIdx];cases a[i]? <;> simp
theorem orTo_succ(h:k<a.length):orTo a b (k+1)=(orTo a b k).set k (a.getD k 0 ||| b.getD k 0):=by
 apply List.ext_getElem?;intro i;rw [List.getElem?_set];unfold orTo;simp only [List.getElem?_map,List.getElem?_zipIdx];cases hi:a[i]? with
 | none =>have:=List.getElem?_eq_none_iff.1 hi;simp;omega
 | some x =>
  by_cases hk:k=i
  · subst hk;have hx:a[k]=x:=Option.some.inj ((List.getElem?_eq_getElem h).symm.trans hi);simp [h,List.getD_eq_getElem?_getD,hx]
  ·
   by_cases h1:i<k
   · simp [hk,h1,Nat.lt_succ_of_lt h1]
   · simp [hk,h1,show ¬ i<k+1 by omega]
theorem orTo_at(h:k<a.length):(orTo a b k)[k]? = some (a.getD k 0):=by unfold orTo;have:=List.getElem?_eq_getElem h;simp [List.getElem?_map,List.getElem?_zipIdx,this,List.getD_eq_getElem?_getD]
theorem bit_or(hl:a.length=b.length)(i:Nat):bitW (orTo a b a.length) i=(bitW a i || bitW b i):=by
 unfold bitW;rw [orTo_get]
 by_cases h:i / 64<a.length
 · rw [if_pos ⟨h,h⟩,Nat.testBit_or]
 rw [if_neg (by omega)];have:b.getD (i / 64) 0=0:=by rw [List.getD_eq_getElem?_getD,List.getElem?_eq_none (by omega)];rfl
 rw [this,Nat.zero_testBit,Bool.or_false]
theorem small_or(ha:SmallW a)(hb:SmallW b)(k:Nat):SmallW (orTo a b k):=fun x hx=>by
 unfold orTo at hx;obtain⟨⟨y,j⟩,hy,rfl⟩:=List.mem_map.1 hx;have hy':y∈a:=by have:=List.mem_zipIdx hy;have h2:=this.2.2;rw [h2];exact List.getElem_mem _
 dsimp only;split
 · exact Nat.or_lt_two_pow (ha y hy') (small_getD hb j)
 · exact ha y hy'
def LowB(x p:Nat):Prop:=x.testBit p=true∧∀ q,q<p→x.testBit q=false
theorem lowB_ex(h:x≠0):∃ p,LowB x p:=by
 have hb:∃ i,x.testBit i=true:=Classical.byContradiction fun hn=>h (Nat.eq_of_testBit_eq fun i=>by
  rw [Nat.zero_testBit];cases hi:x.testBit i with
  | false=>rfl
  | true=>exact absurd ⟨i,hi⟩ hn)
 obtain⟨i,hi⟩:=hb;have:∀ m,(∃ i,i≤m∧x.testBit i=true)→∃ p,LowB x p:=by
  intro m;induction m with
  | zero =>rintro⟨i,hi,hb⟩;obtain rfl:i=0:=(by omega);exact⟨0,hb,fun q hq=>absurd hq (Nat.not_lt_zero q)⟩
  | succ m ih =>
   rintro⟨i,hi,hb⟩;rcases Classical.em (∃ j,j≤m∧x.testBit j=true) with h|h
   · exact ih h
   refine⟨i,hb,fun q hq => ?_⟩;cases hq2:x.testBit q with
   | false=>rfl
   | true=>exact absurd ⟨q,by omega,hq2⟩ h
 exact this i ⟨i,Nat.le_refl _,hi⟩
theorem lowB_lt(h:LowB x p)(hx:x<2 ^ n):p<n:=by
 rcases Nat.lt_or_ge p n with hl|hl
 · exact hl
 have:=Nat.testBit_lt_two_pow (Nat.lt_of_lt_of_le hx (Nat.pow_le_pow_right (by decide) hl));rw [h.1] at this;cases this
theorem lowB_high{h:Nat}(hp:LowB x p)(h0:x % 2 ^ h=0):h≤p∧LowB (x / 2 ^ h) (p - h):=by
 have hle:h≤p:=by
  rcases Nat.lt_or_ge p h with hl|hl
  · have:=Nat.testBit_mod_two_pow x h p;rw [h0,Nat.zero_testBit,hp.1] at this;simp [hl] at this
  exact hl
 refine⟨hle,?_,fun q hq => ?_⟩
 · rw [Nat.testBit_div_two_pow,show p - h+h=p by omega];exact hp.1
 rw [Nat.testBit_div_two_pow];exact hp.2 _ (by omega)
theorem lowB_low{h:Nat}(hp:LowB x p)(h0:x % 2 ^ h≠0):p<h:=by
 obtain⟨q,hq⟩:=lowB_ex h0;have h1:=hq.1;rw [Nat.testBit_mod_two_pow] at h1;simp only [Bool.and_eq_true,decide_eq_true_eq] at h1;rcases Nat.lt_or_ge p h with hl|hl
 · exact hl
 have:=hp.2 q (by omega);rw [h1.2] at this;cases this
theorem lowB_zero(h:LowB x 0):x % 2=1:=by have:=h.1;rw [Nat.testBit_zero] at this;simpa using this
def NextP(S:Nat→Bool)(n from':Nat)(r:Int):Prop:=(r = -1∧∀ i,from'≤i→i<n→S i=false)∨∃ i:Nat,r=(i:Int)∧from'≤i∧i<n∧S i=true∧∀ j,from'≤j→j<i→S j=false
theorem cut_bit(x s q:Nat):(x / 2 ^ s*2 ^ s).testBit q=(decide (s≤q) && x.testBit q):=by
 rw [Nat.testBit_mul_two_pow]
 by_cases h:s≤q
 · simp only [h,decide_true,Bool.true_and];rw [Nat.testBit_div_two_pow,show q - s+s=q by omega]
 simp [h]
def cutX(ws:List Nat)(f k:Nat):Nat:=if k=f / 64 then ws.getD k 0 / 2 ^ (f % 64)*2 ^ (f % 64) else ws.getD k 0
theorem cutX_bit{q:Nat}(hk:f / 64≤k)(hq:q<64):(cutX ws f k).testBit q=(decide (f≤64*k+q) && bitW ws (64*k+q)):=by
 have e1:(64*k+q) / 64=k:=by omega
 have e2:(64*k+q) % 64=q:=by omega
 unfold cutX bitW;rw [e1,e2];split
 · rename_i h;rw [cut_bit];congr 1;rw [decide_eq_decide];omega
 rename_i h;have:f≤64*k+q:=by omega
 simp [this]
def NxtAt(ws:List Nat)(f k:Nat):Prop:=∀ j,f≤j→j<64*k→bitW ws j=false
theorem nxt_start(ws:List Nat)(f:Nat):NxtAt ws f (f / 64):=fun j h1 h2=>by omega
theorem nxt_zero(h:NxtAt ws f k)(hk:f / 64≤k)(hz:cutX ws f k=0):NxtAt ws f (k+1):=fun j h1 h2=>by
 rcases Nat.lt_or_ge j (64*k) with hl|hg
 · exact h j h1 hl
 · have hb:=cutX_bit (ws:=ws) hk (q:=j - 64*k) (by omega);rw [hz,Nat.zero_testBit,show 64*k+(j - 64*k)=j by omega] at hb;simpa [h1] using hb.symm
theorem cutX_lt(hs:SmallW ws)(f k:Nat):cutX ws f k<2 ^ 64:=by
 unfold cutX;split
 · exact Nat.lt_of_le_of_lt (Nat.div_mul_le_self _ _) (small_getD hs _)
 exact small_getD hs _
theorem nxt_found(h:NxtAt ws f k)(hk:f / 64≤k)(hs:SmallW ws)(hu:UpW n ws)(hp:LowB (cutX ws f k) p):NextP (bitW ws) n f ((64*k+p:Nat):Int):=by
 have hp64:=lowB_lt hp (cutX_lt hs f k);have hb:=hp.1;rw [cutX_bit hk hp64] at hb;simp only [Bool.and_eq_true,decide_eq_true_eq] at hb;refine .inr ⟨64*k+p,rfl,hb.1,?_,hb.2,fun j h1 h2 => ?_⟩
 ·
  rcases Nat.lt_or_ge (64*k+p) n with hl|hg
  · exact hl
  have:=hu _ hg;rw [hb.2] at this;cases this
 rcases Nat.lt_or_ge j (64*k) with hl|hg
 · exact h j h1 hl
 have h3:=hp.2 (j - 64*k) (by omega);rw [cutX_bit hk (by omega),show 64*k+(j - 64*k)=j by omega] at h3;simpa [h1] using h3
theorem nxt_none(h:NxtAt ws f k)(hn:n≤64*k):NextP (bitW ws) n f (-1):=.inl ⟨rfl,fun j h1 h2=>h j h1 (by omega)⟩
theorem next_past(S:Nat→Bool)(h:n≤f):NextP S n f (-1):=.inl ⟨rfl,fun j h1 h2=>by omega⟩
theorem low_and(x h:Nat):x &&& (2 ^ h - 1)=x % 2 ^ h:=Nat.and_two_pow_sub_one_eq_mod x h
def FirI(p x n half:Nat):Prop:=∃ r,p=n+r∧LowB x r∧r<2*half
theorem fir_start(h:LowB x p)(hx:x<2 ^ 64):FirI p x 0 32:=⟨p,by omega,h,lowB_lt h hx⟩
theorem fir_high{half:Nat}(h:FirI p x n half)(h0:x % 2 ^ half=0):FirI p (x / 2 ^ half) (n+half) (half / 2)∨half % 2=1∧FirI p (x / 2 ^ half) (n+half) ((half+1) / 2):=by
 obtain⟨r,h1,h2,h3⟩:=h;obtain⟨h4,h5⟩:=lowB_high h2 h0;rcases Nat.mod_two_eq_zero_or_one half with e|e
 · exact .inl ⟨r - half,by omega,h5,by omega⟩
 exact .inr ⟨e,r - half,by omega,h5,by omega⟩
theorem fir_low{half:Nat}(h:FirI p x n half)(h0:x % 2 ^ half≠0)(he:half % 2=0):FirI p x n (half / 2):=by obtain⟨r,h1,h2,h3⟩:=h;have:=lowB_low h2 h0;exact⟨r,h1,h2,by omega⟩
theorem fir_low1(h:FirI p x n 1)(h0:x % 2 ^ 1≠0):p=n∧x % 2=1:=by
 obtain⟨r,h1,h2,h3⟩:=h;have:=lowB_low h2 h0;obtain rfl:r=0:=by omega
 exact⟨h1,lowB_zero h2⟩
theorem fir_high1(h:FirI p x n 1)(h0:x % 2 ^ 1=0):p=n+1∧(x / 2 ^ 1) % 2=1:=by
 obtain⟨r,h1,h2,h3⟩:=h;obtain⟨h4,h5⟩:=lowB_high h2 h0;obtain rfl:r=1:=by omega
 exact⟨h1,lowB_zero h5⟩
end Go.Proofs.YtjccmcgglfncdaaGreatDoor
