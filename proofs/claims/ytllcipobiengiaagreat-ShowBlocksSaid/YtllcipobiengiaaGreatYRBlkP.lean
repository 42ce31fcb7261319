/- The side of a place, found from place to place: plain. The side of a place, found by passes over all pairs: plain. -/
import Derived.Test.YtllcipobiengiaaGreatYBlkP
set_option linter.unusedVariables false
set_option linter.unusedSimpArgs false
namespace Go.Proofs.YtllcipobiengiaaGreat
open Go Go.RowKit

variable {R : List (Nat × Nat)} {l : List Nat}
noncomputable def seenB(R:List (Nat × Nat))(l:List Nat)(m k:Nat):Bool:=(headsM R l m).any fun h=>nearD R l h k
theorem seenB_iff{m k:Nat}:seenB R l m k=true↔∃ h,h∈headsM R l m∧Near R l h k:=by
 unfold seenB
 rw [List.any_eq_true]
 exact⟨fun⟨h,h1,h2⟩=>⟨h,h1,nearD_iff.1 h2⟩,fun⟨h,h1,h2⟩=>⟨h,h1,nearD_iff.2 h2⟩⟩
theorem mem_heads{m h:Nat}:h∈headsM R l m↔h<m∧headB R l h=true:=by
 unfold headsM;rw [List.mem_filter,List.mem_range]
theorem least_near:∀(m k i:Nat),k≤m→Near R l k i→∃ h,h≤k∧headB R l h=true∧Near R l h i
 | 0,k,i,hk,hn=>⟨k,Nat.le_refl _,headB_iff.2 (fun q hq=>absurd hq (by omega)),hn⟩
 | m+1,k,i,hk,hn=>by
  cases hh:headB R l k with
  | true=>exact⟨k,Nat.le_refl _,hh,hn⟩
  | false =>
   have:¬ ∀ q,q<k→¬ Near R l q k:=fun h=>by rw [headB_iff.2 h] at hh;cases hh
   obtain⟨q,hq⟩:=Classical.not_forall.1 this
   obtain⟨hq1,hq2⟩:=Classical.not_imp.1 hq
   obtain⟨h,h1,h2,h3⟩:=least_near m q i (by omega) ((Classical.not_not.1 hq2).trans hn)
   exact⟨h,by omega,h2,h3⟩
theorem seen_head{i:Nat}:seenB R l i i = !headB R l i:=by
 cases hh:headB R l i with
 | true =>
  have:seenB R l i i=false:=by
   rw [Bool.eq_false_iff]
   intro hs
   obtain⟨h,h1,h2⟩:=seenB_iff.1 hs
   exact headB_iff.1 hh h (mem_heads.1 h1).1 h2
  rw [this];rfl
 | false =>
  have:¬ ∀ q,q<i→¬ Near R l q i:=fun h=>by rw [headB_iff.2 h] at hh;cases hh
  obtain⟨q,hq⟩:=Classical.not_forall.1 this
  obtain⟨hq1,hq2⟩:=Classical.not_imp.1 hq
  obtain⟨h,h1,h2,h3⟩:=least_near q q i (Nat.le_refl _) (Classical.not_not.1 hq2)
  rw [seenB_iff.2 ⟨h,mem_heads.2 ⟨by omega,h2⟩,h3⟩];rfl
theorem head_new{i k:Nat}(hi:headB R l i=true)(hk:Near R l i k):seenB R l i k=false:=by
 rw [Bool.eq_false_iff]
 intro hs
 obtain⟨h,h1,h2⟩:=seenB_iff.1 hs
 exact headB_iff.1 hi h (mem_heads.1 h1).1 (h2.trans hk.symm)
theorem seen_next_no{i:Nat}(hi:headB R l i=false):seenB R l (i+1)=seenB R l i:=by
 funext k;unfold seenB;rw [heads_succ,hi];simp
theorem seen_next_yes{i:Nat}(hi:headB R l i=true)(k:Nat):seenB R l (i+1) k=(seenB R l i k || nearD R l i k):=by
 unfold seenB;rw [heads_succ,hi];simp
structure Sd (R:List (Nat × Nat)) (l:List Nat) (i at' k:Nat) (s:List Nat):Prop where
 nodup:s.Nodup
 near:∀ x∈s,Near R l i x
 self:i∈s
 done:∀ a x,a<at'→s[a]? = some x→∀ j,j<l.length→nearB R (l.getD x 0) (l.getD j 0)=true→j∈s
 cur:∀ x,s[at']? = some x→∀ j,j<k→nearB R (l.getD x 0) (l.getD j 0)=true→j∈s
theorem sd_start{i:Nat}(hi:i<l.length):Sd R l i 0 0 [i]:=
 ⟨List.nodup_cons.2 ⟨List.not_mem_nil,List.nodup_nil⟩,fun x hx=>by rw [List.mem_singleton.1 hx];exact .self hi,List.mem_singleton.2 rfl,fun a x ha=>absurd ha (by omega),fun x _ j hj=>absurd hj (by omega)⟩
theorem sd_yes{i at' k u:Nat}{s:List Nat}(h:Sd R l i at' k s)(hu:s[at']? = some u)(hn:nearB R (l.getD u 0) (l.getD k 0)=true)(hk:k<l.length)(hs:k ∉ s):Sd R l i at' (k+1) (s++[k]):=by
 have hat:=(List.getElem?_eq_some_iff.1 hu).1
 refine⟨List.nodup_append.2 ⟨h.nodup,List.nodup_cons.2 ⟨List.not_mem_nil,List.nodup_nil⟩,fun a ha b hb e=>hs (by rw [← List.mem_singleton.1 hb,← e];exact ha)⟩,fun x hx => ?_,List.mem_append_left _ h.self,fun a x ha hx j hj hn' => ?_,fun x hx j hj hn' => ?_⟩
 ·
  rcases List.mem_append.1 hx with hx|hx
  ·
   exact h.near x hx
  ·
   rw [List.mem_singleton.1 hx];exact .more (h.near u (List.mem_of_getElem? hu)) hk hn
 ·
  rw [List.getElem?_append_left (by omega)] at hx
  exact List.mem_append_left _ (h.done a x ha hx j hj hn')
 ·
  rw [List.getElem?_append_left hat] at hx
  rcases Nat.lt_or_ge j k with h1|h1
  ·
   exact List.mem_append_left _ (h.cur x hx j h1 hn')
  ·
   obtain rfl:j=k:=by omega
   exact List.mem_append_right _ (List.mem_singleton.2 rfl)
theorem sd_no{i at' k u:Nat}{s:List Nat}(h:Sd R l i at' k s)(hu:s[at']? = some u)(hn:nearB R (l.getD u 0) (l.getD k 0)=false∨k∈s):Sd R l i at' (k+1) s:=by
 refine⟨h.nodup,h.near,h.self,h.done,fun x hx j hj hn' => ?_⟩
 rcases Nat.lt_or_ge j k with h1|h1
 ·
  exact h.cur x hx j h1 hn'
 ·
  obtain rfl:j=k:=by omega
  rw [hu] at hx
  cases hx
  rcases hn with h2|h2
  ·
   rw [h2] at hn';cases hn'
  ·
   exact h2
theorem sd_next{i at':Nat}{s:List Nat}(h:Sd R l i at' l.length s):Sd R l i (at'+1) 0 s:=by
 refine⟨h.nodup,h.near,h.self,fun a x ha hx j hj hn => ?_,fun x _ j hj=>absurd hj (by omega)⟩
 rcases Nat.lt_or_ge a at' with h1|h1
 ·
  exact h.done a x h1 hx j hj hn
 ·
  obtain rfl:a=at':=by omega
  exact h.cur x hx j hj hn
theorem sd_end{i k:Nat}{s:List Nat}(h:Sd R l i s.length k s)(x:Nat):x∈s↔Near R l i x:=by
 refine⟨h.near x,fun hn => ?_⟩
 induction hn with
 | self _=>exact h.self
 | @more k j h1 h2 h3 ih =>
  obtain⟨a,ha⟩:=List.getElem?_of_mem ih
  exact h.done a k (List.getElem?_eq_some_iff.1 ha).1 ha j h2 h3
theorem sd_len{i at' k:Nat}{s:List Nat}(h:Sd R l i at' k s):s.length≤l.length:=by
 have:=nodup_lenN (m:=List.range l.length) h.nodup fun x hx=>List.mem_range.2 (h.near x hx).right
 rwa [List.length_range] at this
noncomputable def markB(R:List (Nat × Nat))(l:List Nat)(i:Nat)(s:List Nat)(k:Nat):Bool:=seenB R l i k || s.contains k
theorem mark_end{i k:Nat}{s:List Nat}(hi:headB R l i=true)(h:Sd R l i s.length k s)(q:Nat):markB R l i s q=seenB R l (i+1) q:=by
 unfold markB
 rw [seen_next_yes hi]
 congr 1
 rw [Bool.eq_iff_iff,List.contains_iff_mem,nearD_iff,sd_end h]
theorem mark_snoc{i k:Nat}{s:List Nat}(q:Nat):markB R l i (s++[k]) q=if q=k then true else markB R l i s q:=by
 unfold markB
 by_cases h:q=k
 ·
  subst h;rw [if_pos rfl];simp
 ·
  rw [if_neg h]
  congr 1
  rw [Bool.eq_iff_iff,List.contains_iff_mem,List.contains_iff_mem,List.mem_append,List.mem_singleton]
  exact⟨fun e=>e.resolve_right h,.inl⟩
theorem mark_not{i at' k u q:Nat}{s:List Nat}(hi:headB R l i=true)(h:Sd R l i at' k s)(hu:s[at']? = some u)(hq:q<l.length)(hn:nearB R (l.getD u 0) (l.getD q 0)=true):markB R l i s q=s.contains q:=by
 unfold markB
 rw [head_new hi (.more (h.near u (List.mem_of_getElem? hu)) hq hn),Bool.false_or]
end Go.Proofs.YtllcipobiengiaaGreat
namespace Go.Proofs.YtllcipobiengiaaGreat
open Go Go.RowKit

variable {R : List (Nat × Nat)} {l : List Nat}
def onB(ms:List Bool)(q:Nat):Bool:=ms.getD q false
theorem onB_set{ms:List Bool}{k:Nat}(hk:k<ms.length)(q:Nat):onB (ms.set k true) q=if q=k then true else onB ms q:=by
 unfold onB
 rw [List.getD_eq_getElem?_getD,List.getD_eq_getElem?_getD,List.getElem?_set]
 by_cases h:k=q
 ·
  subst h;rw [if_pos rfl,if_pos rfl,if_pos hk];rfl
 ·
  rw [if_neg h,if_neg (fun e=>h e.symm)]
structure Pss (R:List (Nat × Nat)) (l:List Nat) (at':Nat) (ms0:List Bool) (i k:Nat) (ms:List Bool):Prop where
 len:ms.length=l.length
 len0:ms0.length=l.length
 keep:∀ q,onB ms0 q=true→onB ms q=true
 near:∀ q,onB ms q=true→Near R l at' q
 done:∀ i' k',(i'<i∨(i'=i∧k'<k))→k'<l.length→onB ms0 i'=true→nearB R (l.getD i' 0) (l.getD k' 0)=true→onB ms k'=true
theorem pss_start{at':Nat}{ms:List Bool}(hl:ms.length=l.length)(hn:∀ q,onB ms q=true→Near R l at' q):Pss R l at' ms 0 0 ms:=
 ⟨hl,hl,fun _ h=>h,hn,fun i' k' h=>by omega⟩
theorem pss_yes{at' i k:Nat}{ms0 ms:List Bool}(h:Pss R l at' ms0 i k ms)(hi:onB ms i=true)(hk:k<l.length)(hn:nearB R (l.getD i 0) (l.getD k 0)=true):Pss R l at' ms0 i (k+1) (ms.set k true):=by
 have hk2:k<ms.length:=by rw [h.len];exact hk
 refine⟨by rw [List.length_set];exact h.len,h.len0,fun q hq => ?_,fun q hq => ?_,fun i' k' h1 h2 h3 h4 => ?_⟩
 ·
  rw [onB_set hk2];split
  ·
   rfl
  ·
   exact h.keep q hq
 ·
  rw [onB_set hk2] at hq
  split at hq
  ·
   rename_i e;subst e;exact .more (h.near i hi) hk hn
  ·
   exact h.near q hq
 ·
  rw [onB_set hk2]
  split
  ·
   rfl
  ·
   rename_i hne
   exact h.done i' k' (by omega) h2 h3 h4
theorem pss_no{at' i k:Nat}{ms0 ms:List Bool}(h:Pss R l at' ms0 i k ms)(hi:onB ms i=false∨nearB R (l.getD i 0) (l.getD k 0)=false):Pss R l at' ms0 i (k+1) ms:=by
 refine⟨h.len,h.len0,h.keep,h.near,fun i' k' h1 h2 h3 h4 => ?_⟩
 by_cases he:i'=i∧k'=k
 ·
  obtain⟨rfl,rfl⟩:=he
  rcases hi with hi|hi
  ·
   rw [h.keep _ h3] at hi;cases hi
  ·
   rw [h4] at hi;cases hi
 ·
  exact h.done i' k' (by omega) h2 h3 h4
theorem pss_next{at' i:Nat}{ms0 ms:List Bool}(h:Pss R l at' ms0 i l.length ms):Pss R l at' ms0 (i+1) 0 ms:=
 ⟨h.len,h.len0,h.keep,h.near,fun i' k' h1 h2 h3 h4=>h.done i' k' (by omega) h2 h3 h4⟩
def Shut(R:List (Nat × Nat))(l:List Nat)(ms:List Bool):Prop:=∀ i k,i<l.length→k<l.length→onB ms i=true→nearB R (l.getD i 0) (l.getD k 0)=true→onB ms k=true
theorem shut_all{at':Nat}{ms:List Bool}(h:Shut R l ms)(h0:onB ms at'=true){q:Nat}(hn:Near R l at' q):onB ms q=true:=by
 induction hn with
 | self _=>exact h0
 | @more k j h1 h2 h3 ih=>exact h k j h1.right h2 ih h3
def onN(ms:List Bool):Nat:=ms.countP id
theorem count_le:∀ {a b:List Bool},a.length=b.length→(∀ q,onB a q=true→onB b q=true)→onN a≤onN b
 | [],[],_,_=>Nat.le_refl _
 | [],_ :: _,h,_=>by simp at h
 | _ :: _,[],h,_=>by simp at h
 | x :: a,y :: b,h,hq=>by
  have ih:=count_le (a:=a) (b:=b) (by simpa using h) fun q hh=>by
   have:=hq (q+1) (by unfold onB at *;simpa using hh)
   unfold onB at *;simpa using this
  have h0:=hq 0
  unfold onB at h0
  unfold onN at *
  rw [List.countP_cons,List.countP_cons]
  cases x <;> cases y <;> simp at * <;> omega
theorem count_lt:∀ {a b:List Bool} {k:Nat},a.length=b.length→(∀ q,onB a q=true→onB b q=true)→onB a k=false→onB b k=true→onN a+1≤onN b
 | [],[],k,_,_,_,h=>by unfold onB at h;simp at h
 | [],_ :: _,_,h,_,_,_=>by simp at h
 | _ :: _,[],_,h,_,_,_=>by simp at h
 | x :: a,y :: b,0,h,hq,h1,h2=>by
  have ih:=count_le (a:=a) (b:=b) (by simpa using h) fun q hh=>by
   have:=hq (q+1) (by unfold onB at *;simpa using hh)
   unfold onB at *;simpa using this
  unfold onB at h1 h2
  unfold onN at *
  rw [List.countP_cons,List.countP_cons]
  simp at h1 h2
  subst h1;subst h2
  simp;omega
 | x :: a,y :: b,k+1,h,hq,h1,h2=>by
  have ih:=count_lt (a:=a) (b:=b) (k:=k) (by simpa using h) (fun q hh=>by
   have:=hq (q+1) (by unfold onB at *;simpa using hh)
   unfold onB at *;simpa using this) (by unfold onB at *;simpa using h1) (by unfold onB at *;simpa using h2)
  have h0:=hq 0
  unfold onB at h0
  unfold onN at *
  rw [List.countP_cons,List.countP_cons]
  cases x <;> cases y <;> simp at * <;> omega
def Psd(R:List (Nat × Nat))(l:List Nat)(at' p:Nat)(ms:List Bool):Prop:=ms.length=l.length∧onB ms at'=true∧(∀ q,onB ms q=true→Near R l at' q)∧(Shut R l ms∨p+1≤onN ms)
theorem psd_step{at' p:Nat}{ms0 ms:List Bool}(h0:Psd R l at' p ms0)(h:Pss R l at' ms0 l.length 0 ms):Psd R l at' (p+1) ms:=by
 obtain⟨a1,a2,a3,a4⟩:=h0
 refine⟨h.len,h.keep _ a2,h.near,?_⟩
 by_cases hs:Shut R l ms0
 ·
  exact .inl fun i k hi hk h1 h2=>h.keep _ (shut_all hs a2 (.more (h.near i h1) hk h2))
 ·
  refine .inr ?_
  have h4:=a4.resolve_left hs
  unfold Shut at hs
  obtain⟨i,hi⟩:=Classical.not_forall.1 hs
  obtain⟨k,hk⟩:=Classical.not_forall.1 hi
  obtain⟨b1,hk⟩:=Classical.not_imp.1 hk
  obtain⟨b2,hk⟩:=Classical.not_imp.1 hk
  obtain⟨b3,hk⟩:=Classical.not_imp.1 hk
  obtain⟨b4,hk⟩:=Classical.not_imp.1 hk
  have hlt:=count_lt (a:=ms0) (b:=ms) (k:=k) (by rw [h.len0,h.len]) h.keep (by simpa using hk) (h.done i k (.inl b1) b2 b3 b4)
  omega
theorem psd_end{at':Nat}{ms:List Bool}(h:Psd R l at' l.length ms)(q:Nat):onB ms q=true↔Near R l at' q:=by
 obtain⟨a1,a2,a3,a4⟩:=h
 refine⟨a3 q,fun hn => ?_⟩
 rcases a4 with a4|a4
 ·
  exact shut_all a4 a2 hn
 ·
  have:onN ms≤ms.length:=List.countP_le_length
  omega
theorem psd_start{at':Nat}(h:at'<l.length):Psd R l at' 0 ((List.replicate l.length false).set at' true):=by
 have hk:at'<(List.replicate l.length false).length:=by simpa using h
 have hz:∀ q,onB (List.replicate l.length false) q=false:=fun q=>by
  unfold onB;rw [List.getD_eq_getElem?_getD,List.getElem?_replicate];split <;> rfl
 refine⟨by simp,by rw [onB_set hk,if_pos rfl],fun q hq => ?_,.inr ?_⟩
 ·
  rw [onB_set hk] at hq
  split at hq
  ·
   rename_i e;rw [e];exact .self h
  ·
   rw [hz] at hq;cases hq
 ·
  have:=count_lt (a:=List.replicate l.length false) (b:=(List.replicate l.length false).set at' true) (k:=at') (by simp) (fun q hq=>by rw [hz] at hq;cases hq) (hz _) (by rw [onB_set hk,if_pos rfl])
  omega
theorem on_side{at':Nat}{ms:List Bool}(h:Psd R l at' l.length ms):(List.range l.length).filter (onB ms)=sideM R l at':=by
 unfold sideM
 refine List.filter_congr fun q _ => ?_
 rw [Bool.eq_iff_iff,psd_end h,nearD_iff]
end Go.Proofs.YtllcipobiengiaaGreat
