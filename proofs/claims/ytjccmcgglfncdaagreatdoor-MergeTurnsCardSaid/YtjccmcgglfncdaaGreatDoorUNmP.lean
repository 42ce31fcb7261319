/- What is proved: MergeTurns, for every input; of the listed tables the walk needs the powers of ten. -/
import Derived.Test.YtjccmcgglfncdaaGreatDoorULinP
import Derived.Lib.ItoaNum
import Derived.Lib.SlicesCompact
set_option linter.unusedVariables false
set_option linter.unusedSimpArgs false
namespace Go.Proofs.YtjccmcgglfncdaaGreatDoor
open Go Go.RowKit
variable{t:ByteArray}{L:List PatchM}{x:VertM}{f g:VidM}
def textL(v:VidM):List UInt8:=(Lib.decDigits v.pid.author.toNat++46 :: Lib.decDigits v.pid.seq.toNat)++46 :: Lib.decDigits v.n.toNat
def textB(v:VidM):ByteArray:=⟨(textL v).toArray⟩
theorem dec_digit(u:Nat):∀ c∈Lib.decDigits u,48≤c.toNat∧c.toNat≤57:=by
 induction u using Nat.strongRecOn with
 | _ u ih =>
  intro c hc;rw [Lib.decDigits] at hc;split at hc
  · rename_i h;simp at hc;subst hc;simp;omega
  ·
   rename_i h;rw [List.mem_append] at hc;rcases hc with hc|hc
   · exact ih (u / 10) (by omega) c hc
   · simp at hc;subst hc;simp;omega
def valD(l:List UInt8):Nat:=l.foldl (fun n c=>n*10+(c.toNat - 48)) 0
theorem val_dec(u:Nat):valD (Lib.decDigits u)=u:=by
 induction u using Nat.strongRecOn with
 | _ u ih =>
  rw [Lib.decDigits];split
  · rename_i h;simp [valD];omega
  · rename_i h;have:=ih (u / 10) (by omega);unfold valD at this ⊢;rw [List.foldl_append,this];simp;omega
theorem dec_inj{u v:Nat}(h:Lib.decDigits u=Lib.decDigits v):u=v:=by rw [← val_dec u,h,val_dec v]
theorem cut_uniq{c:UInt8}:∀ {a b x y:List UInt8},(∀ z∈a,z≠c)→(∀ z∈b,z≠c)→a++c :: x=b++c :: y→a=b∧x=y
 | [],[],_,_,_,_,h=>⟨rfl,by simpa using h⟩
 | [],z :: b,_,_,_,hb,h=>by simp at h;exact absurd h.1.symm (hb z (List.mem_cons_self ..))
 | z :: a,[],_,_,ha,_,h=>by simp at h;exact absurd h.1 (ha z (List.mem_cons_self ..))
 | z :: a,u :: b,x,y,ha,hb,h=>by simp only [List.cons_append,List.cons.injEq] at h;obtain⟨h1,h2⟩:=h;obtain⟨h3,h4⟩:=cut_uniq (fun q hq=>ha q (List.mem_cons_of_mem _ hq)) (fun q hq=>hb q (List.mem_cons_of_mem _ hq)) h2;exact⟨by rw [h1,h3],h4⟩
theorem dec_no46(u:Nat):∀ c∈Lib.decDigits u,c≠46:=fun c hc e=>by have:=dec_digit u c hc;subst e;revert this;decide
theorem textL_inj{a b:VidM}(h:textL a=textL b):a=b:=by unfold textL at h;rw [List.append_assoc,List.append_assoc,List.cons_append,List.cons_append] at h;obtain⟨h1,h2⟩:=cut_uniq (dec_no46 _) (dec_no46 _) h;obtain⟨h3,h4⟩:=cut_uniq (dec_no46 _) (dec_no46 _) h2;have e1:=UInt8.toNat_inj.1 (dec_inj h1);have e2:=UInt16.toNat_inj.1 (dec_inj h3);have e3:=UInt8.toNat_inj.1 (dec_inj h4);obtain⟨⟨a1,a2⟩,a3⟩:=a;obtain⟨⟨b1,b2⟩,b3⟩:=b;simp at e1 e2 e3;rw [e1,e2,e3]
theorem letter_tilde{s:ByteArray}(h:nameOk s=true):∀ c∈s.data.toList,c≠126:=by intro c hc e;subst e;unfold nameOk at h;simp only [Bool.and_eq_true] at h;have:=List.all_eq_true.1 h.1 126 hc;revert this;decide
theorem name_nonempty{s:ByteArray}(h:nameOk s=true):s.data.toList≠[]:=by
 intro e;unfold nameOk at h;simp only [Bool.and_eq_true,decide_eq_true_eq] at h;have:s.size=0:=by rw [← size_list,e];rfl
 omega
def laterK(v:VidM):Nat:=(v.pid.seq.toNat*256+v.pid.author.toNat)*256+v.n.toNat
def cmpLater(a b:VidM):Int:=cmpN (laterK a) (laterK b)
def revK(v:VidM):Nat:=4294967296 - laterK v
theorem laterK_lt(v:VidM):laterK v<4294967296:=by have h1:=v.pid.author.toNat_lt;have h2:=v.pid.seq.toNat_lt;have h3:=v.n.toNat_lt;unfold laterK;omega
theorem laterK_inj{a b:VidM}(h:laterK a=laterK b):a=b:=by have h1:=a.pid.author.toNat_lt;have h3:=a.n.toNat_lt;have g1:=b.pid.author.toNat_lt;have g3:=b.n.toNat_lt;unfold laterK at h;have e1:a.pid.author=b.pid.author:=UInt8.toNat_inj.1 (by omega);have e2:a.pid.seq=b.pid.seq:=UInt16.toNat_inj.1 (by omega);have e3:a.n=b.n:=UInt8.toNat_inj.1 (by omega);obtain⟨⟨a1,a2⟩,a3⟩:=a;obtain⟨⟨b1,b2⟩,b3⟩:=b;simp at e1 e2 e3;rw [e1,e2,e3]
theorem revK_inj(a b:VidM)(h:revK a=revK b):a=b:=by have h1:=laterK_lt a;have h2:=laterK_lt b;unfold revK at h;exact laterK_inj (by omega)
def aliveM(L:List PatchM)(f:VidM):List VertM:=(ofM L f 2).filter fun v => !v.dead
def namesM(L:List PatchM)(f:VidM):List VertM:=(setS revK ((aliveM L f).map (·.id))).map fun v=>(vertM L v).getD noVert
theorem aliveM_at(hl:∀ p∈L,p.ops.length≤200)(h:x∈aliveM L f):vertM L x.id=some x∧x.kind=2∧x.file=f∧x.dead=false:=by unfold aliveM ofM at h;simp only [List.mem_filter,Bool.and_eq_true,decide_eq_true_eq,Bool.not_eq_true'] at h;exact⟨(mem_vertsM hl x).1 h.1.1,h.1.2.1,h.1.2.2,h.2⟩
theorem names_eq(hl:∀ p∈L,p.ops.length≤200)(f:VidM){out:List VertM}(hp:out.Perm (aliveM L f))(hs:out.Pairwise fun a b=>¬ cmpLater a.id b.id<0):out=namesM L f:=by
 have hat:∀ x∈out,vertM L x.id=some x:=fun x hx=>(aliveM_at hl (hp.mem_iff.1 hx)).1;have hnd:(aliveM L f).Pairwise fun a b=>vertKey a<vertKey b:=by have h1:=rises_vertsM hl;unfold Rises at h1;unfold aliveM ofM;exact(h1.filter _).filter _
 have hnd2:out.Pairwise fun a b=>a.id≠b.id:=by refine hp.symm.pairwise (hnd.imp fun {a b} h e => ?_) (fun {a b} h e=>h e.symm);unfold vertKey at h;rw [e] at h;omega
 have hr:Rises revK (out.map (·.id)):=by unfold Rises;rw [List.pairwise_map];refine(hs.and hnd2).imp fun {a b} h => ?_;obtain⟨h1,h2⟩:=h;have l1:=laterK_lt a.id;have l2:=laterK_lt b.id;have:laterK a.id≠laterK b.id:=fun e=>h2 (laterK_inj e);have:¬ laterK a.id<laterK b.id:=fun e=>h1 (by unfold cmpLater;rw [cmpN,if_pos e];decide);unfold revK;omega
 have he:setS revK ((aliveM L f).map (·.id))=out.map (·.id):=setS_eq revK_inj hr fun x=>by simp only [List.mem_map];exact⟨fun⟨y,h1,h2⟩=>⟨y,hp.mem_iff.1 h1,h2⟩,fun⟨y,h1,h2⟩=>⟨y,hp.mem_iff.2 h1,h2⟩⟩
 unfold namesM;rw [he,List.map_map];refine(List.map_id out).symm.trans (List.map_congr_left fun x hx => ?_);simp [hat x hx]
theorem mem_namesM(hl:∀ p∈L,p.ops.length≤200)(h:x∈namesM L f):x∈aliveM L f:=by unfold namesM at h;obtain⟨v,hv,rfl⟩:=List.mem_map.1 h;rw [mem_setS revK_inj] at hv;obtain⟨y,hy,rfl⟩:=List.mem_map.1 hv;rw [(aliveM_at hl hy).1];exact hy
theorem name_ok(hw:WfG L)(h:x∈namesM L f):nameOk x.text=true:=by
 obtain⟨h1,h2,_,_⟩:=aliveM_at (wf_len hw) (mem_namesM (wf_len hw) h);unfold vertM at h1;cases ho:vertOp L x.id with
 | none=>rw [ho] at h1;cases h1
 | some o =>
  rw [ho] at h1;simp only [Option.map_some,Option.some.injEq] at h1;have hk:o.kind=2:=by rw [← h2,← h1]
  have ht:x.text=o.text:=by rw [← h1]
  unfold vertOp at ho;obtain⟨p,hp,hm⟩:=List.exists_of_findSome?_eq_some ho;unfold madeBy at hm;split at hm
  ·
   cases hq:p.ops[x.id.n.toNat]? with
   | none=>rw [hq] at hm;cases hm
   | some o' =>
    rw [hq] at hm;simp only [Option.filter] at hm;split at hm
    ·
     cases hm
     have h3:=opGood_tail (oneB_parts (goodP_one (hw.good p hp) hq)).1;unfold opTail at h3;rw [if_neg (by rw [hk];decide),if_pos hk] at h3;simp only [Bool.and_eq_true] at h3;rw [ht];exact h3.2
    · cases hm
  · cases hm
structure NameM where
 file:VidM
 name:ByteArray
 also:List (List UInt8)
 flaws:List UInt8
def tilde:ByteArray:=⟨#[126]⟩
def othersM(l:List VertM)(t:ByteArray):List (List UInt8):=(l.filter fun x=>decide (x.text≠t)).map fun x=>x.text.data.toList
def alsoM(l:List VertM)(t:ByteArray):List (List UInt8):=Lib.compact ((othersM l t).mergeSort fun x y=>decide (x≤y))
theorem compact_nil{l:List (List UInt8)}(h:Lib.compact l=[]):l=[]:=by
 cases l with
 | nil=>rfl
 | cons x l =>exfalso;unfold Lib.compact Lib.compactUpTo at h;rw [List.map_eq_nil_iff] at h;have h0:=Lib.keeps_lt_one (x :: l).toArray 0 (by omega);have:(0:Nat)∈(List.range (x :: l).length).filter (Lib.keeps (x :: l).toArray):=List.mem_filter.2 ⟨List.mem_range.2 (by simp),h0⟩;rw [h] at this;cases this
theorem alsoM_nil{l:List VertM}(h:(alsoM l t).length=0):∀ x∈l,x.text=t:=by
 have h1:=compact_nil (List.length_eq_zero_iff.1 h);have h2:(othersM l t).length=0:=by rw [← List.length_mergeSort (le:=fun x y=>decide (x≤y)),h1];rfl
 unfold othersM at h2;rw [List.length_map] at h2;have h3:=List.length_eq_zero_iff.1 h2;intro x hx;rw [List.filter_eq_nil_iff] at h3;have:=h3 x hx;simpa using this
def deadAt(L:List PatchM)(f:VidM):Bool:=((vertM L f).getD noVert).dead
def bumpT(s:ByteArray→Nat)(t:ByteArray):ByteArray→Nat:=fun u=>if u=t then s t+1 else s u
abbrev StN:Type:=List NameM × (ByteArray→Nat)
def nameOne(L:List PatchM)(c:ByteArray→Nat)(f:VidM):List VertM→NameM
 | []=>⟨f,tilde++textB f,[],[3]⟩
 | x :: l=>⟨f,if 1<c x.text+1 then x.text++(tilde++textB f) else x.text,alsoM (x :: l) x.text,
   (if(alsoM (x :: l) x.text).length=0 then [] else [2])++(if 1<c x.text+1 then [4] else [])⟩
def bumpL(c:ByteArray→Nat):List VertM→ByteArray→Nat
 | []=>c
 | x :: _=>bumpT c x.text
def stepN(L:List PatchM)(s:StN)(f:VidM):StN:=
 if deadAt L f=true then s else(s.1++[nameOne L s.2 f (namesM L f)],bumpL s.2 (namesM L f))
def allTo(L:List PatchM)(k:Nat):StN:=((filesM L).take k).foldl (stepN L) ([],fun _=>0)
def allM(L:List PatchM):List NameM:=(allTo L (filesM L).length).1
theorem allTo_zero(L:List PatchM):allTo L 0=([],fun _=>0):=rfl
theorem allTo_succ{k:Nat}(h:(filesM L)[k]? = some f):allTo L (k+1)=stepN L (allTo L k) f:=by unfold allTo;rw [take_succ' h,List.foldl_append];rfl
def FormA(n:NameM):Prop:=n.name=tilde++textB n.file∧n.flaws=[3]
def FormB(c:ByteArray→Nat)(n:NameM):Prop:=nameOk n.name=true∧1≤c n.name
def FormC(n:NameM):Prop:=∃ t,nameOk t=true∧n.name=t++(tilde++textB n.file)∧n.flaws≠[]
theorem ba_apl(a b:ByteArray):(a++b).data.toList=a.data.toList++b.data.toList:=by simp
theorem tilde_list(t:ByteArray)(f:VidM):(t++(tilde++textB f)).data.toList=t.data.toList++126 :: textL f:=by rw [ba_apl,ba_apl];rfl
theorem tilde_list0(f:VidM):(tilde++textB f).data.toList=126 :: textL f:=by rw [ba_apl];rfl
theorem ab_ne(h:nameOk t=true):t≠tilde++textB f:=fun e=>by have h1:=letter_tilde h 126;rw [e,tilde_list0] at h1;exact h1 (List.mem_cons_self ..) rfl
theorem aa_ne(h:f≠g):tilde++textB f≠tilde++textB g:=fun e=>by have:=congrArg (fun s:ByteArray=>s.data.toList) e;simp only [tilde_list0,List.cons.injEq,true_and] at this;exact h (textL_inj this)
theorem cc_ne{u:ByteArray}(ht:nameOk t=true)(hu:nameOk u=true)(h:f≠g):t++(tilde++textB f)≠u++(tilde++textB g):=fun e=>by have:=congrArg (fun s:ByteArray=>s.data.toList) e;simp only [tilde_list] at this;exact h (textL_inj (cut_uniq (letter_tilde ht) (letter_tilde hu) this).2)
theorem ac_ne(ht:nameOk t=true):t++(tilde++textB f)≠tilde++textB g:=fun e=>by
 have:=congrArg (fun s:ByteArray=>s.data.toList) e;simp only [tilde_list,tilde_list0] at this;cases hl:t.data.toList with
 | nil=>exact name_nonempty ht hl
 | cons x l =>rw [hl] at this;simp only [List.cons_append,List.cons.injEq] at this;exact letter_tilde ht x (by rw [hl];exact List.mem_cons_self ..) this.1
theorem bc_ne{u:ByteArray}(ht:nameOk t=true):t≠u++(tilde++textB f):=fun e=>by have h1:=letter_tilde ht 126;rw [e,tilde_list] at h1;exact h1 (by simp) rfl
structure NameOk (L:List PatchM) (n:NameM):Prop where
 alive:deadAt L n.file=false
 file:∃ x,vertM L n.file=some x∧x.kind=1
 given:n.flaws=[]→(∀ x∈namesM L n.file,x.text=n.name)∧namesM L n.file≠[]∧n.also=[]
structure InvN (L:List PatchM) (k:Nat) (s:StN):Prop where
 files:∃ l,l.Sublist ((filesM L).take k)∧s.1.map (·.file)=l
 forms:∀ n∈s.1,FormA n∨FormB s.2 n∨FormC n
 uniq:s.1.Pairwise fun a b=>a.name≠b.name
 ok:∀ n∈s.1,NameOk L n
theorem filesM_at(hl:∀ p∈L,p.ops.length≤200)(h:f∈filesM L):∃ x,vertM L f=some x∧x.kind=1:=by unfold filesM at h;obtain⟨x,hx,rfl⟩:=List.mem_map.1 h;obtain⟨h1,h2⟩:=List.mem_filter.1 hx;exact⟨x,(mem_vertsM hl x).1 h1,by simpa using h2⟩
theorem filesM_rises(hl:∀ p∈L,p.ops.length≤200):(filesM L).Pairwise fun a b=>packVid a<packVid b:=by unfold filesM;rw [List.pairwise_map];exact(rises_vertsM hl).filter _
theorem bump_ge(c:ByteArray→Nat)(t u:ByteArray):c u≤bumpT c t u:=by
 unfold bumpT;split
 · rename_i h;rw [h];omega
 exact Nat.le_refl _
theorem bumpL_ge(c:ByteArray→Nat)(l:List VertM)(u:ByteArray):c u≤bumpL c l u:=by
 cases l with
 | nil=>exact Nat.le_refl _
 | cons x l=>exact bump_ge c x.text u
theorem form_le{c c':ByteArray→Nat}(h:∀ u,c u≤c' u){n:NameM}(hn:FormA n∨FormB c n∨FormC n):FormA n∨FormB c' n∨FormC n:=
 hn.imp id (Or.imp (fun⟨h1,h2⟩=>⟨h1,Nat.le_trans h2 (h _)⟩) id)
theorem inv_zero(L:List PatchM):InvN L 0 ([],fun _=>0):=
 ⟨⟨[],by simp,rfl⟩,fun n hn=>absurd hn (List.not_mem_nil),List.Pairwise.nil,fun n hn=>absurd hn (List.not_mem_nil)⟩
theorem inv_step(hw:WfG L){k:Nat}{s:StN}(h:InvN L k s)(hf:(filesM L)[k]? = some f):InvN L (k+1) (stepN L s f):=by
 have hl:=wf_len hw;have hmem:f∈filesM L:=List.mem_of_getElem? hf;have hnew:∀ n∈s.1,n.file≠f:=by intro n hn e;obtain⟨l,h1,h2⟩:=h.files;have h3:f∈(filesM L).take k:=h1.subset (by rw [← h2];exact List.mem_map.2 ⟨n,hn,e⟩);obtain⟨j,hj,hje⟩:=List.mem_iff_getElem.1 h3;obtain⟨hk,hke⟩:=List.getElem?_eq_some_iff.1 hf;have hr:=List.pairwise_iff_getElem.1 (filesM_rises hl) j k (by simp at hj;omega) hk (by simp at hj;omega);rw [List.getElem_take] at hje;rw [hje,hke] at hr;omega
 unfold stepN
 by_cases hd:deadAt L f=true
 · rw [if_pos hd];obtain⟨l,h1,h2⟩:=h.files;exact⟨⟨l,h1.trans (List.take_sublist_take_left (by omega)),h2⟩,h.forms,h.uniq,h.ok⟩
 rw [if_neg hd];have hfile:∀ l,(nameOne L s.2 f l).file=f:=fun l=>by cases l <;> rfl
 have hforms:FormA (nameOne L s.2 f (namesM L f))∨FormB (bumpL s.2 (namesM L f)) (nameOne L s.2 f (namesM L f))∨FormC (nameOne L s.2 f (namesM L f)):=by
  cases hn:namesM L f with
  | nil=>exact .inl ⟨rfl,rfl⟩
  | cons x l =>
   have hx:nameOk x.text=true:=name_ok hw (f:=f) (by rw [hn];exact List.mem_cons_self ..)
   by_cases hc:1<s.2 x.text+1
   ·
    refine .inr (.inr ⟨x.text,hx,?_,?_⟩)
    · simp only [nameOne];rw [if_pos hc]
    simp only [nameOne];rw [if_pos hc];simp
   refine .inr (.inl ⟨?_,?_⟩)
   · simp only [nameOne];rw [if_neg hc];exact hx
   simp only [nameOne,bumpL];rw [if_neg hc];unfold bumpT;rw [if_pos rfl];omega
 have hne:∀ n∈s.1,n.name≠(nameOne L s.2 f (namesM L f)).name:=by
  intro n hn;have hnf:=hnew n hn;have hform:=h.forms n hn;cases hx0:namesM L f with
  | nil =>
   simp only [nameOne];rcases hform with⟨h1,_⟩|⟨h1,_⟩|⟨t,h1,h2,_⟩
   · rw [h1];exact aa_ne hnf
   · exact ab_ne h1
   rw [h2];exact ac_ne h1
  | cons x l =>
   have hx:nameOk x.text=true:=name_ok hw (f:=f) (by rw [hx0];exact List.mem_cons_self ..);simp only [nameOne]
   by_cases hc:1<s.2 x.text+1
   ·
    rw [if_pos hc];rcases hform with⟨h1,_⟩|⟨h1,_⟩|⟨t,h1,h2,_⟩
    · rw [h1];exact fun e=>ac_ne hx e.symm
    · exact bc_ne h1
    rw [h2];exact cc_ne h1 hx hnf
   rw [if_neg hc];rcases hform with⟨h1,_⟩|⟨h1,h2⟩|⟨t,h1,h2,_⟩
   · rw [h1];exact fun e=>ab_ne hx e.symm
   · intro e;rw [e] at h2;omega
   rw [h2];exact fun e=>bc_ne hx e.symm
 refine⟨?_,?_,?_,?_⟩
 ·
  obtain⟨l,h1,h2⟩:=h.files;refine⟨l++[f],?_,?_⟩
  · rw [take_succ' hf];exact h1.append (List.Sublist.refl _)
  rw [List.map_append,h2];simp [hfile]
 ·
  intro n hn;rcases List.mem_append.1 hn with hn|hn
  · exact form_le (bumpL_ge s.2 _) (h.forms n hn)
  rw [List.mem_singleton.1 hn];exact hforms
 · rw [List.pairwise_append];exact⟨h.uniq,List.pairwise_singleton _ _,fun a ha b hb=>by rw [List.mem_singleton.1 hb];exact hne a ha⟩
 intro n hn;rcases List.mem_append.1 hn with hn|hn
 · exact h.ok n hn
 rw [List.mem_singleton.1 hn];refine⟨by rw [hfile];simpa using hd,by rw [hfile];exact filesM_at hl hmem,?_⟩;rw [hfile];cases hn0:namesM L f with
 | nil=>intro e;simp [nameOne] at e
 | cons x l =>
  intro e;simp only [nameOne] at e ⊢
  by_cases hc:1<s.2 x.text+1
  · rw [if_pos hc] at e;simp at e
  rw [if_neg hc] at e ⊢
  by_cases ha:(alsoM (x :: l) x.text).length=0
  · exact⟨alsoM_nil ha,by simp,List.length_eq_zero_iff.1 ha⟩
  rw [if_neg ha] at e;simp at e
theorem inv_all(hw:WfG L):∀ k,k≤(filesM L).length→InvN L k (allTo L k)
 | 0,_=>inv_zero L
 | k+1,hk=>by have hf:=List.getElem?_eq_getElem (l:=filesM L) (i:=k) (by omega);rw [allTo_succ hf];exact inv_step hw (inv_all hw k (by omega)) hf
structure UnlikeM (L:List PatchM) (all:List NameM):Prop where
 rises:all.Pairwise fun a b=>packVid a.file<packVid b.file
 uniq:all.Pairwise fun a b=>a.name≠b.name
 ok:∀ n∈all,NameOk L n
theorem unlike_all(hw:WfG L):UnlikeM L (allM L):=by have h:=inv_all hw (filesM L).length (Nat.le_refl _);refine⟨?_,h.uniq,h.ok⟩;obtain⟨l,h1,h2⟩:=h.files;have:=(filesM_rises (wf_len hw)).sublist (h1.trans (List.take_sublist _ _));unfold allM;rw [← h2,List.pairwise_map] at this;exact this
end Go.Proofs.YtjccmcgglfncdaaGreatDoor
