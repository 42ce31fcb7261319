/- What is proved: PlanSays, for every input; of the listed tables the walk needs the powers of ten. -/
import Derived.Test.YtjccmcgglfncdaaGreatDoorPEdiQ
import Derived.Lib.ItoaNum
import Derived.Lib.SlicesCompact
set_option linter.unusedVariables false
set_option linter.unusedSimpArgs false
namespace Go.Proofs.YtjccmcgglfncdaaGreatDoor
open Go Go.RowKit
variable{L:List PatchM}{x:VertM}{f:VidM}
def textL(v:VidM):List UInt8:=(Lib.decDigits v.pid.author.toNat++46 :: Lib.decDigits v.pid.seq.toNat)++46 :: Lib.decDigits v.n.toNat
def textB(v:VidM):ByteArray:=⟨(textL v).toArray⟩
def laterK(v:VidM):Nat:=(v.pid.seq.toNat*256+v.pid.author.toNat)*256+v.n.toNat
def cmpLater(a b:VidM):Int:=cmpN (laterK a) (laterK b)
def revK(v:VidM):Nat:=4294967296 - laterK v
theorem laterK_lt(v:VidM):laterK v<4294967296:=by have h1:=v.pid.author.toNat_lt;have h2:=v.pid.seq.toNat_lt;have h3:=v.n.toNat_lt;unfold laterK;omega
theorem laterK_inj{a b:VidM}(h:laterK a=laterK b):a=b:=by have h1:=a.pid.author.toNat_lt;have h3:=a.n.toNat_lt;have g1:=b.pid.author.toNat_lt;have g3:=b.n.toNat_lt;unfold laterK at h;have e1:a.pid.author=b.pid.author:=UInt8.toNat_inj.1 (by omega);have e2:a.pid.seq=b.pid.seq:=UInt16.toNat_inj.1 (by omega);have e3:a.n=b.n:=UInt8.toNat_inj.1 (by omega);obtain⟨⟨a1,a2⟩,a3⟩:=a;obtain⟨⟨b1,b2⟩,b3⟩:=b;simp at e1 e2 e3;rw [e1,e2,e3]
theorem revK_inj(a b:VidM)(h:revK a=revK b):a=b:=by have h1:=laterK_lt a;have h2:=laterK_lt b;unfold revK at h;exact laterK_inj (by omega)
def aliveM(L:List PatchM)(f:VidM):List VertM:=(ofM L f 2).filter fun v => !v.dead
def namesM(L:List PatchM)(f:VidM):List VertM:=(setS revK ((aliveM L f).map (·.id))).map fun v=>(vertM L v).getD noVert
theorem aliveM_at(hl:∀ p∈L,p.ops.length≤200)(h:x∈aliveM L f):vertM L x.id=some x∧x.kind=2∧x.file=f∧x.dead=false:=by unfold aliveM ofM at h;simp only [List.mem_filter,Bool.and_eq_true,decide_eq_true_eq,Bool.not_eq_true'] at h;exact⟨(mem_vertsM hl x).1 h.1.1,h.1.2.1,h.1.2.2,h.2⟩
theorem names_eq(hl:∀ p∈L,p.ops.length≤200)(f:VidM){out:List VertM}(hp:out.Perm (aliveM L f))(hs:out.Pairwise fun a b=>¬ cmpLater a.id b.id<0):out=namesM L f:=by
 have hat:∀ x∈out,vertM L x.id=some x:=fun x hx=>(aliveM_at hl (hp.mem_iff.1 hx)).1;have hnd:(aliveM L f).Pairwise fun a b=>vertKey a<vertKey b:=by have h1:=rises_vertsM hl;unfold Rises at h1;unfold aliveM ofM;exact(h1.filter _).filter _
 have hnd2:out.Pairwise fun a b=>a.id≠b.id:=by refine hp.symm.pairwise (hnd.imp fun {a b} h e => ?_) (fun {a b} h e=>h e.symm);unfold vertKey at h;rw [e] at h;omega
 have hr:Rises revK (out.map (·.id)):=by unfold Rises;rw [List.pairwise_map];refine(hs.and hnd2).imp fun {a b} h => ?_;obtain⟨h1,h2⟩:=h;have l1:=laterK_lt a.id;have l2:=laterK_lt b.id;have:laterK a.id≠laterK b.id:=fun e=>h2 (laterK_inj e);have:¬ laterK a.id<laterK b.id:=fun e=>h1 (by unfold cmpLater;rw [cmpN,if_pos e];decide);unfold revK;omega
 have he:setS revK ((aliveM L f).map (·.id))=out.map (·.id):=setS_eq revK_inj hr fun x=>by simp only [List.mem_map];exact⟨fun⟨y,h1,h2⟩=>⟨y,hp.mem_iff.1 h1,h2⟩,fun⟨y,h1,h2⟩=>⟨y,hp.mem_iff.2 h1,h2⟩⟩
 unfold namesM;rw [he,List.map_map];refine(List.map_id out).symm.trans (List.map_congr_left fun x hx => ?_);simp [hat x hx]
theorem mem_namesM(hl:∀ p∈L,p.ops.length≤200)(h:x∈namesM L f):x∈aliveM L f:=by unfold namesM at h;obtain⟨v,hv,rfl⟩:=List.mem_map.1 h;rw [mem_setS revK_inj] at hv;obtain⟨y,hy,rfl⟩:=List.mem_map.1 hv;rw [(aliveM_at hl hy).1];exact hy
theorem name_ok(hw:WfG L)(h:x∈namesM L f):nameOk x.text=true:=by
 obtain⟨h1,h2,_,_⟩:=aliveM_at (wf_len hw) (mem_namesM (wf_len hw) h);unfold vertM at h1;cases ho:vertOp L x.id with
 | none=>rw [ho] at h1;cases h1
 | some o =>
  rw [ho] at h1;simp only [Option.map_some,Option.some.injEq] at h1;have hk:o.kind=2:=by rw [← h2,← h1]
  have ht:x.text=o.text:=by rw [← h1]
  unfold vertOp at ho;obtain⟨p,hp,hm⟩:=List.exists_of_findSome?_eq_some ho;unfold madeBy at hm;split at hm
  ·
   cases hq:p.ops[x.id.n.toNat]? with
   | none=>rw [hq] at hm;cases hm
   | some o' =>
    rw [hq] at hm;simp only [Option.filter] at hm;split at hm
    ·
     cases hm
     have h3:=opGood_tail (oneB_parts (goodP_one (hw.good p hp) hq)).1;unfold opTail at h3;rw [if_neg (by rw [hk];decide),if_pos hk] at h3;simp only [Bool.and_eq_true] at h3;rw [ht];exact h3.2
    · cases hm
  · cases hm
structure NameM where
 file:VidM
 name:ByteArray
 also:List (List UInt8)
 flaws:List UInt8
def tilde:ByteArray:=⟨#[126]⟩
def othersM(l:List VertM)(t:ByteArray):List (List UInt8):=(l.filter fun x=>decide (x.text≠t)).map fun x=>x.text.data.toList
def alsoM(l:List VertM)(t:ByteArray):List (List UInt8):=Lib.compact ((othersM l t).mergeSort fun x y=>decide (x≤y))
def deadAt(L:List PatchM)(f:VidM):Bool:=((vertM L f).getD noVert).dead
def bumpT(s:ByteArray→Nat)(t:ByteArray):ByteArray→Nat:=fun u=>if u=t then s t+1 else s u
abbrev StN:Type:=List NameM × (ByteArray→Nat)
def nameOne(L:List PatchM)(c:ByteArray→Nat)(f:VidM):List VertM→NameM
 | []=>⟨f,tilde++textB f,[],[3]⟩
 | x :: l=>⟨f,if 1<c x.text+1 then x.text++(tilde++textB f) else x.text,alsoM (x :: l) x.text,
   (if(alsoM (x :: l) x.text).length=0 then [] else [2])++(if 1<c x.text+1 then [4] else [])⟩
def bumpL(c:ByteArray→Nat):List VertM→ByteArray→Nat
 | []=>c
 | x :: _=>bumpT c x.text
def stepN(L:List PatchM)(s:StN)(f:VidM):StN:=
 if deadAt L f=true then s else(s.1++[nameOne L s.2 f (namesM L f)],bumpL s.2 (namesM L f))
def allTo(L:List PatchM)(k:Nat):StN:=((filesM L).take k).foldl (stepN L) ([],fun _=>0)
def allM(L:List PatchM):List NameM:=(allTo L (filesM L).length).1
theorem allTo_zero(L:List PatchM):allTo L 0=([],fun _=>0):=rfl
theorem allTo_succ{k:Nat}(h:(filesM L)[k]? = some f):allTo L (k+1)=stepN L (allTo L k) f:=by unfold allTo;rw [take_succ' h,List.foldl_append];rfl
theorem ba_apl(a b:ByteArray):(a++b).data.toList=a.data.toList++b.data.toList:=by simp
end Go.Proofs.YtjccmcgglfncdaaGreatDoor
