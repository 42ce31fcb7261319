/- The example of layer 27, plain. Contract of the example of layer 27. The reference's sheets: contracts of ref21.place, Order, Alive, Firm. -/
import Derived.Test.YtllcipobiengiaaGreatYFewP
import Derived.Test.YtllcipobiengiaaGreatYMake
namespace Go.Proofs.YtllcipobiengiaaGreat
open Go Go.RowKit

def wkId:PidM:=⟨1,1⟩
def wkF:VidM:=⟨wkId,0⟩
def wkOps:List OpM:=[⟨1,noVid,noVid,⟨#[]⟩⟩,⟨3,wkF,noVid,⟨#[97]⟩⟩,⟨3,wkF,noVid,⟨#[98]⟩⟩,⟨3,wkF,noVid,⟨#[99]⟩⟩,⟨4,⟨wkId,1⟩,⟨wkId,2⟩,⟨#[]⟩⟩,⟨4,⟨wkId,2⟩,⟨wkId,3⟩,⟨#[]⟩⟩]
def wkPat:PatchM:=⟨wkId,[],wkOps⟩
def wkWant:List ByteArray:=[⟨#[97]⟩,⟨#[120]⟩,⟨#[99]⟩]
theorem wkDeps:depsM wkId wkOps=[]:=by decide +kernel
theorem wkGood:goodQ wkId (depsM wkId wkOps) wkOps=true:=by decide +kernel
theorem wkFew:fewL 12 [wkPat]=true:=by decide +kernel
theorem wkG:buildM [wkPat]=[wkPat]:=by decide +kernel
def wkVert(n:UInt8)(t:ByteArray):VertM:=⟨⟨wkId,n⟩,3,wkF,t,false⟩
def wkL:List VertM:=[wkVert 1 ⟨#[97]⟩,wkVert 2 ⟨#[98]⟩,wkVert 3 ⟨#[99]⟩]
theorem wkLines:linesM [wkPat] wkF=wkL:=by decide +kernel
theorem wkRel:relM [wkPat] wkF=[(0,1),(1,2)]:=by decide +kernel
def wkR:List (Nat × Nat):=[(0,1),(1,2)]
theorem wkUp:UpL wkR:=by
 intro s hs
 have:s=(0,1)∨s=(1,2):=by simpa [wkR] using hs
 rcases this with rfl|rfl <;> decide
theorem wkAlive:aliveX wkL wkR=[0,1,2]:=by
 unfold aliveX
 rw [up_order wkUp]
 decide +kernel
theorem wkFirm:firmX wkL wkR=[0,1,2]:=by
 unfold firmX
 rw [wkAlive]
 have h:∀ i,i<3→firmB wkR wkL.length i=true:=fun i hi=>firmB_iff.2 ⟨hi,fun j _ hne ha=>hne ((up_alike wkUp).1 ha).symm⟩
 rw [List.filter_cons_of_pos (h 0 (by decide)),List.filter_cons_of_pos (h 1 (by decide)),List.filter_cons_of_pos (h 2 (by decide)),List.filter_nil]
def wkA:ByteArray:=⟨#[97]⟩
def wkB:ByteArray:=⟨#[98]⟩
def wkC:ByteArray:=⟨#[99]⟩
def wkX:ByteArray:=⟨#[120]⟩
theorem wkBX:¬ wkB=wkX:=by decide +kernel
theorem wkCX:¬ wkC=wkX:=by decide +kernel
theorem wkBC:¬ wkB=wkC:=by decide +kernel
theorem wkPairs:pairs [wkA,wkB,wkC] [wkA,wkX,wkC]=[(0,0),(2,2)]:=by
 have h33:lcsAt [wkA,wkB,wkC] [wkA,wkX,wkC] 3 1=0:=by simp [lcsAt,lcsLen]
 have h22:lcsAt [wkA,wkB,wkC] [wkA,wkX,wkC] 2 2=1:=by simp [lcsAt,lcsLen]
 have h12:lcsAt [wkA,wkB,wkC] [wkA,wkX,wkC] 1 2=1:=by simp [lcsAt,lcsLen,wkBC]
 have h21:lcsAt [wkA,wkB,wkC] [wkA,wkX,wkC] 2 1=1:=by simp [lcsAt,lcsLen,wkCX]
 unfold pairs
 show pairsF [wkA,wkB,wkC] [wkA,wkX,wkC] (5+1) 0 0=_
 rw [pairsF_eq (x:=wkA) (y:=wkA) rfl rfl rfl,pairsF_left (x:=wkB) (y:=wkX) rfl rfl wkBX (by rw [h12,h21];exact Nat.le_refl _),pairsF_right (x:=wkC) (y:=wkX) rfl rfl wkCX (by rw [h22,h33];decide),pairsF_eq (x:=wkC) (y:=wkC) rfl rfl rfl,pairsF_end (by decide)]
theorem wkTexts:([0,1,2]:List Nat).map (textAt wkL)=[⟨#[97]⟩,⟨#[98]⟩,⟨#[99]⟩]:=by decide +kernel
def wkNew:PidM:=⟨1,2⟩
def wkOut:List OpM:=[⟨5,⟨wkId,2⟩,noVid,⟨#[]⟩⟩,⟨3,wkF,noVid,wkX⟩,⟨4,⟨wkId,1⟩,⟨wkNew,1⟩,⟨#[]⟩⟩,⟨4,⟨wkNew,1⟩,⟨wkId,3⟩,⟨#[]⟩⟩]
theorem wkEdit:editM wkL wkR (aliveX wkL wkR) (firmX wkL wkR) wkF wkNew 0 wkWant (pairs ((firmX wkL wkR).map (textAt wkL)) wkWant)=wkOut:=by
 rw [wkFirm,wkAlive,wkTexts,show wkWant=[wkA,wkX,wkC] from rfl,show([⟨#[97]⟩,⟨#[98]⟩,⟨#[99]⟩]:List ByteArray)=[wkA,wkB,wkC] from rfl,wkPairs]
 have hk:keptTo [0,1,2] [(0,0),(2,2)] 3=[0,-1,2]:=by decide +kernel
 have hs:addsTo wkL wkF wkNew 0 [0,-1,2] [wkA,wkX,wkC] (killsE wkL [0,1,2] [0,-1,2]) 3=([⟨5,⟨wkId,2⟩,noVid,⟨#[]⟩⟩,⟨3,wkF,noVid,wkX⟩],[⟨wkId,1⟩,⟨wkNew,1⟩,⟨wkId,3⟩]):=by decide +kernel
 show(addsTo wkL wkF wkNew 0 (keptTo [0,1,2] [(0,0),(2,2)] 3) [wkA,wkX,wkC] (killsE wkL [0,1,2] (keptTo [0,1,2] [(0,0),(2,2)] 3)) 3).1++(List.range 3).flatMap (edgesE wkR (keptTo [0,1,2] [(0,0),(2,2)] 3) (addsTo wkL wkF wkNew 0 (keptTo [0,1,2] [(0,0),(2,2)] 3) [wkA,wkX,wkC] (killsE wkL [0,1,2] (keptTo [0,1,2] [(0,0),(2,2)] 3)) 3).2)=wkOut
 rw [hk,hs]
 have hr:List.range 3=[0,1,2]:=rfl
 rw [hr]
 simp [edgesE,wkOut]
end Go.Proofs.YtllcipobiengiaaGreat
namespace Go.Proofs.YtllcipobiengiaaGreat
open Go Go.RowKit

theorem own_lit27{α:Type}{enc:α→List Value}{sz:Nat}(w:World)(e:TypeId)(xs:List α)(B:Nat)(hl:(xs.flatMap enc).length=xs.length*sz)(hm:xs.length≤maxLen)(hB:B≤w.heap.size):GOwn enc sz e (w.alloc (.cells (xs.flatMap enc).toArray e)) B (.slice (some ⟨w.heap.size,0,none⟩) xs.length xs.length) xs:=
 ⟨hl,.inr ⟨w.heap.size,xs.length,(xs.flatMap enc).toArray,rfl,hB,by rw [heap_alloc_new],Nat.le_refl _,hm,by simp [hl],by rw [← hl];exact List.take_length⟩⟩
theorem srowW(W:World)(b:Nat)(hb:b=W.heap.size):SRow (W.alloc (.cells #[.string ⟨#[97]⟩,.string ⟨#[120]⟩,.string ⟨#[99]⟩] 9)) (.slice (some ⟨b,0,none⟩) 3 3) wkWant:=by
 subst hb
 exact(show GOwn encS1 1 9 (W.alloc (.cells #[.string ⟨#[97]⟩,.string ⟨#[120]⟩,.string ⟨#[99]⟩] 9)) 0 (.slice (some ⟨W.heap.size,0,none⟩) 3 3) wkWant from own_lit27 W 9 wkWant 0 rfl (by decide) (Nat.zero_le _)).row
def WkMk(w:World)(e:Ending)(w':World):Prop:=∃ pd cd po co,e=.returned (.tuple #[.agg #[.int .u8 1,.int .u16 1,.slice pd 0 cd,.slice po 6 co],.int .i64 0])∧GOwn encPid 2 26 w' w.heap.size (.slice pd 0 cd) []∧GOwn encOp 8 58 w' w.heap.size (.slice po 6 co) wkOps∧Below w.heap.size w w'
theorem wkMk(v:Value)(w:World)(hv:GRow encOp 8 w v wkOps):Calls Tryz.prog 22 #[.agg #[.int .u8 1,.int .u16 1],v] w (WkMk w):=by
 have h:=pmake_any wkId v wkOps w hv (by decide) (fun o ho=>Nat.le_trans (show o.text.size≤1 from(by decide +kernel:∀ o∈wkOps,o.text.size≤1) o ho) (by unfold maxLen;omega)) wkGood
 refine h.mono ?_
 rintro e w' ⟨pd,cd,po,co,rfl,h1,h2,h3⟩
 rw [wkDeps] at h1 ⊢
 exact⟨pd,cd,po,co,rfl,h1,h2,h3⟩
theorem rowW(W:World)(b:Nat)(hb:b=W.heap.size):GRow encOp 8 (W.alloc (.cells #[.int .u8 1,.int .u8 0,.int .u16 0,.int .u8 0,.int .u8 0,.int .u16 0,.int .u8 0,.string ⟨#[]⟩,.int .u8 3,.int .u8 1,.int .u16 1,.int .u8 0,.int .u8 0,.int .u16 0,.int .u8 0,.string ⟨#[97]⟩,.int .u8 3,.int .u8 1,.int .u16 1,.int .u8 0,.int .u8 0,.int .u16 0,.int .u8 0,.string ⟨#[98]⟩,.int .u8 3,.int .u8 1,.int .u16 1,.int .u8 0,.int .u8 0,.int .u16 0,.int .u8 0,.string ⟨#[99]⟩,.int .u8 4,.int .u8 1,.int .u16 1,.int .u8 1,.int .u8 1,.int .u16 1,.int .u8 2,.string ⟨#[]⟩,.int .u8 4,.int .u8 1,.int .u16 1,.int .u8 2,.int .u8 1,.int .u16 1,.int .u8 3,.string ⟨#[]⟩] 58)) (.slice (some ⟨b,0,none⟩) 6 6) wkOps:=by
 subst hb
 exact(show GOwn encOp 8 58 (W.alloc (.cells #[.int .u8 1,.int .u8 0,.int .u16 0,.int .u8 0,.int .u8 0,.int .u16 0,.int .u8 0,.string ⟨#[]⟩,.int .u8 3,.int .u8 1,.int .u16 1,.int .u8 0,.int .u8 0,.int .u16 0,.int .u8 0,.string ⟨#[97]⟩,.int .u8 3,.int .u8 1,.int .u16 1,.int .u8 0,.int .u8 0,.int .u16 0,.int .u8 0,.string ⟨#[98]⟩,.int .u8 3,.int .u8 1,.int .u16 1,.int .u8 0,.int .u8 0,.int .u16 0,.int .u8 0,.string ⟨#[99]⟩,.int .u8 4,.int .u8 1,.int .u16 1,.int .u8 1,.int .u8 1,.int .u16 1,.int .u8 2,.string ⟨#[]⟩,.int .u8 4,.int .u8 1,.int .u16 1,.int .u8 2,.int .u8 1,.int .u16 1,.int .u8 3,.string ⟨#[]⟩] 58)) 0 (.slice (some ⟨W.heap.size,0,none⟩) 6 6) wkOps from own_lit27 W 58 wkOps 0 rfl (by decide) (Nat.zero_le _)).row
theorem balloc27{w w':World}(h:Below w.heap.size w w')(o:Obj):Below w.heap.size w (w'.alloc o):=h.alloc h.size o
set_option maxHeartbeats 16000000 in
set_option maxRecDepth 100000 in
theorem works27_any(w:World):Calls Tryz.prog 11 #[] w fun e w'=>e=.returned (.bool true)∧Below w.heap.size w w':=by
 have HA:=Lib.hid (anw w #[.int .u8 1,.int .u16 1] 26)
 have HB:=Lib.hid (bnew (w:=w) (.cells #[.int .u8 1,.int .u16 1] 26))
 go_enter Tryz.func11,Tryz.ntmps11
 go_upto_region 2 with(fail)
 generalize hw0:w.alloc (.cells #[.int .u8 1,.int .u16 1] 26)=w0 at *
 clear hw0
 have i0:=HA.out.cell (j:=0) rfl
 have i1:=HA.out.cell (j:=1) rfl
 have si:=HA.out.lt
 go_wp2_with fail
 refine(pvid_any ⟨1,1⟩ 0 _ (by omega)).mono ?_
 rintro e w1 ⟨rfl,hb1⟩
 have HB1:=Lib.hid (bov HB.out HB.out.size hb1)
 have HA1:=Lib.hid (HA.out.over hb1)
 clear hb1 i0 i1 si
 go_upto_region 3 with(fail)
 have HA2:=Lib.hid (HA1.out.alloc (.cells #[.int .u8 1,.int .u16 1,.int .u8 0] 40))
 have HF2:=Lib.hid (anw w1 #[.int .u8 1,.int .u16 1,.int .u8 0] 40)
 have HB2:=Lib.hid (HB1.out.alloc HB1.out.size (.cells #[.int .u8 1,.int .u16 1,.int .u8 0] 40))
 generalize hw2:w1.alloc (.cells #[.int .u8 1,.int .u16 1,.int .u8 0] 40)=w2 at *
 clear hw2
 have i0:=HA2.out.cell (j:=0) rfl
 have i1:=HA2.out.cell (j:=1) rfl
 have si:=HA2.out.lt
 have j0:=HF2.out.cell (j:=0) rfl
 have j1:=HF2.out.cell (j:=1) rfl
 have j2:=HF2.out.cell (j:=2) rfl
 have sj:=HF2.out.lt
 have HZ:Hid (∀ {W:World},Below w2.heap.size w2 W→w2.heap.size≤W.heap.size):=Lib.hid fun h=>h.size
 have HS:Hid (∀ w':World,Below w2.heap.size w2 w'→(w'.cell? ⟨w.heap.size,0,none⟩=some (.int .u8 1)∧w'.cell? ⟨w.heap.size,1,none⟩=some (.int .u16 1)∧w'.cell? ⟨w1.heap.size,0,none⟩=some (.int .u8 1)∧w'.cell? ⟨w1.heap.size,1,none⟩=some (.int .u16 1)∧w'.cell? ⟨w1.heap.size,2,none⟩=some (.int .u8 0)∧Below w2.heap.size w2 w')):=Lib.hid fun w' hb=>⟨(hb.cell (p:=⟨w.heap.size,0,none⟩) si).trans i0,(hb.cell (p:=⟨w.heap.size,1,none⟩) si).trans i1,(hb.cell (p:=⟨w1.heap.size,0,none⟩) sj).trans j0,(hb.cell (p:=⟨w1.heap.size,1,none⟩) sj).trans j1,(hb.cell (p:=⟨w1.heap.size,2,none⟩) sj).trans j2,hb⟩
 have HQ:Hid (∀ {W u:World},Below w2.heap.size w2 W→Below W.heap.size W u→Below w2.heap.size w2 u):=Lib.hid fun h1 h2=>bov h1 h1.size h2
 have HC1:Hid (∀ W,Calls Tryz.prog 21 #[.agg #[.int .u8 1,.int .u16 1],.int .i64 1] W fun e w'=>e=.returned (.agg #[.int .u8 1,.int .u16 1,.int .u8 1])∧Below W.heap.size W w'):=Lib.hid fun W=>pvid_any ⟨1,1⟩ 1 W (by omega)
 have HC2:Hid (∀ W,Calls Tryz.prog 21 #[.agg #[.int .u8 1,.int .u16 1],.int .i64 2] W fun e w'=>e=.returned (.agg #[.int .u8 1,.int .u16 1,.int .u8 2])∧Below W.heap.size W w'):=Lib.hid fun W=>pvid_any ⟨1,1⟩ 2 W (by omega)
 have HC3:Hid (∀ W,Calls Tryz.prog 21 #[.agg #[.int .u8 1,.int .u16 1],.int .i64 3] W fun e w'=>e=.returned (.agg #[.int .u8 1,.int .u16 1,.int .u8 3])∧Below W.heap.size W w'):=Lib.hid fun W=>pvid_any ⟨1,1⟩ 3 W (by omega)
 have HCM:Hid (∀ v W,GRow encOp 8 W v wkOps→Calls Tryz.prog 22 #[.agg #[.int .u8 1,.int .u16 1],v] W (WkMk W)):=Lib.hid fun v W hv=>wkMk v W hv
 go_cut [3] (fun s wx=>∃ g6 pd cd po co,s=.pointer (some ⟨g6,0,none⟩)∧Hid (ArrT wx g6 61 [.int .u8 1,.int .u16 1,.slice pd 0 cd,.slice po 6 co])∧Hid (GOwn encPid 2 26 wx w2.heap.size (.slice pd 0 cd) [])∧Hid (GOwn encOp 8 58 wx w2.heap.size (.slice po 6 co) wkOps)∧Hid (Below w2.heap.size w2 wx))
 case first =>
  go_region_held3 (fun w'=>w'.cell? ⟨w.heap.size,0,none⟩=some (.int .u8 1)∧w'.cell? ⟨w.heap.size,1,none⟩=some (.int .u16 1)∧w'.cell? ⟨w1.heap.size,0,none⟩=some (.int .u8 1)∧w'.cell? ⟨w1.heap.size,1,none⟩=some (.int .u16 1)∧w'.cell? ⟨w1.heap.size,2,none⟩=some (.int .u8 0)∧Below w2.heap.size w2 w') (first|(refine HS.out _ ?_;((repeat(first|exact Below.refl _ _|exact HBm.out|exact HBv4.out|exact HBv3.out|exact HBv2.out|exact HBv1.out|refine Below.drew ?_|refine balloc27 ?_ _|refine Below.setCell ?_ ?_ _|exact Nat.le_refl _|exact HBm.out.size|exact Nat.le_succ_of_le HBm.out.size|exact HBv4.out.size|exact Nat.le_succ_of_le HBv4.out.size|exact HBv3.out.size|exact Nat.le_succ_of_le HBv3.out.size|exact HBv2.out.size|exact Nat.le_succ_of_le HBv2.out.size|exact HBv1.out.size|exact Nat.le_succ_of_le HBv1.out.size));done)))
   (first|(go_at_call 22;refine(HCM.out _ _ (by first|exact rowW _ _ (by simp)|exact(rowW _ _ (by simp)).over (bnew _))).mono ?_;rintro e u6 ⟨pd,cd,po,co,rfl,ho5,ho6,hb6⟩;have HBm:Hid (Below w2.heap.size w2 u6):=Lib.hid (HQ.out (by with_reducible ((repeat(first|exact Below.refl _ _|exact HBv4.out|refine Below.drew ?_|refine balloc27 ?_ _|refine Below.setCell ?_ ?_ _|exact Nat.le_refl _|exact HBv4.out.size|exact Nat.le_succ_of_le HBv4.out.size));done)) hb6);have HKm:=Lib.hid hb6;obtain⟨hc6,hf6⟩:=bcell hb6;have HO5:=Lib.hid (ho5.base (HZ.out (by with_reducible ((repeat(first|exact Below.refl _ _|exact HBv4.out|refine Below.drew ?_|refine balloc27 ?_ _|refine Below.setCell ?_ ?_ _|exact Nat.le_refl _|exact HBv4.out.size|exact Nat.le_succ_of_le HBv4.out.size));done))));have HO6:=Lib.hid (ho6.base (HZ.out (by with_reducible ((repeat(first|exact Below.refl _ _|exact HBv4.out|refine Below.drew ?_|refine balloc27 ?_ _|refine Below.setCell ?_ ?_ _|exact Nat.le_refl _|exact HBv4.out.size|exact Nat.le_succ_of_le HBv4.out.size));done))));clear ho5 ho6 hb6)|(have hqq:=HBv3;clear hqq;go_at_call 21;refine(HC3.out _).mono ?_;rintro e u4 ⟨rfl,hb5⟩;have HBv4:Hid (Below w2.heap.size w2 u4):=Lib.hid (HQ.out (by with_reducible ((repeat(first|exact Below.refl _ _|exact HBv3.out|exact HBv2.out|exact HBv1.out|refine Below.drew ?_|refine balloc27 ?_ _|refine Below.setCell ?_ ?_ _|exact Nat.le_refl _|exact HBv3.out.size|exact Nat.le_succ_of_le HBv3.out.size|exact HBv2.out.size|exact Nat.le_succ_of_le HBv2.out.size|exact HBv1.out.size|exact Nat.le_succ_of_le HBv1.out.size));done)) hb5);have HKv4:=Lib.hid hb5;have hy4:=hb5.size;(try simp at hy4);(try(have hs5b4:w2.heap.size<u4.heap.size:=(by have h:=hb5.size;(try simp at h);omega)));(try(have hz14:u1.heap.size<u4.heap.size:=(by have h:=hb5.size;(try simp at h);omega)));(try(have hz24:u2.heap.size<u4.heap.size:=(by have h:=hb5.size;(try simp at h);omega)));(try(have hz34:u3.heap.size<u4.heap.size:=(by have h:=hb5.size;(try simp at h);omega)));obtain⟨hc4,hf4⟩:=bcell hb5;clear hb5)|(have hqq:=HBv2;clear hqq;go_at_call 21;refine(HC2.out _).mono ?_;rintro e u3 ⟨rfl,hb5⟩;have HBv3:Hid (Below w2.heap.size w2 u3):=Lib.hid (HQ.out (by with_reducible ((repeat(first|exact Below.refl _ _|exact HBv2.out|exact HBv1.out|refine Below.drew ?_|refine balloc27 ?_ _|refine Below.setCell ?_ ?_ _|exact Nat.le_refl _|exact HBv2.out.size|exact Nat.le_succ_of_le HBv2.out.size|exact HBv1.out.size|exact Nat.le_succ_of_le HBv1.out.size));done)) hb5);have HKv3:=Lib.hid hb5;have hy3:=hb5.size;(try simp at hy3);(try(have hs5b3:w2.heap.size<u3.heap.size:=(by have h:=hb5.size;(try simp at h);omega)));(try(have hz13:u1.heap.size<u3.heap.size:=(by have h:=hb5.size;(try simp at h);omega)));(try(have hz23:u2.heap.size<u3.heap.size:=(by have h:=hb5.size;(try simp at h);omega)));obtain⟨hc3,hf3⟩:=bcell hb5;clear hb5)|(have hqq:=HBv1;clear hqq;go_at_call 21;refine(HC2.out _).mono ?_;rintro e u2 ⟨rfl,hb5⟩;have HBv2:Hid (Below w2.heap.size w2 u2):=Lib.hid (HQ.out (by with_reducible ((repeat(first|exact Below.refl _ _|exact HBv1.out|refine Below.drew ?_|refine balloc27 ?_ _|refine Below.setCell ?_ ?_ _|exact Nat.le_refl _|exact HBv1.out.size|exact Nat.le_succ_of_le HBv1.out.size));done)) hb5);have HKv2:=Lib.hid hb5;have hy2:=hb5.size;(try simp at hy2);(try(have hs5b2:w2.heap.size<u2.heap.size:=(by have h:=hb5.size;(try simp at h);omega)));(try(have hz12:u1.heap.size<u2.heap.size:=(by have h:=hb5.size;(try simp at h);omega)));obtain⟨hc2,hf2⟩:=bcell hb5;clear hb5)|(go_at_call 21;refine(HC1.out _).mono ?_;rintro e u1 ⟨rfl,hb5⟩;have HBv1:Hid (Below w2.heap.size w2 u1):=Lib.hid (HQ.out (by with_reducible ((repeat(first|exact Below.refl _ _|refine Below.drew ?_|refine balloc27 ?_ _|refine Below.setCell ?_ ?_ _|exact Nat.le_refl _|exact HS.out.size|exact Nat.le_succ_of_le HS.out.size));done)) hb5);have HKv1:=Lib.hid hb5;have hy1:=hb5.size;(try simp at hy1);(try(have hs5b1:w2.heap.size<u1.heap.size:=(by have h:=hb5.size;(try simp at h);omega)));obtain⟨hc1,hf1⟩:=bcell hb5;clear hb5))
  ·
   rename_i J K hJ hK hHeld
   clear hHeld
   refine hK _ _ (Met.intro (hJ _ _ ?_))
   (repeat apply Exists.intro)
   refine⟨?_,rfl⟩
   exact⟨_,pd,cd,po,co,rfl,Lib.hid (arrT_new u6 [.int .u8 1,.int .u16 1,.slice pd 0 cd,.slice po 6 co] 61),Lib.hid (HO5.out.over (bnew _)),Lib.hid (HO6.out.over (bnew _)),Lib.hid (balloc27 HBm.out _)⟩
  ·
   rename_i J K hJ hK hHeld
   clear hHeld
   refine hK _ _ (Met.intro (hJ _ _ ?_))
   (repeat apply Exists.intro)
   refine⟨?_,rfl⟩
   have HZ9:Hid (ArrT u6 (u4.heap.size+1) 61 [.int .u8 0,.int .u16 0,.slice none 0 0,.slice none 0 0]):=Lib.hid ((show ArrT ((u4.alloc (.cells #[.int .u8 1,.int .u8 0,.int .u16 0,.int .u8 0,.int .u8 0,.int .u16 0,.int .u8 0,.string ⟨#[]⟩,.int .u8 3,.int .u8 1,.int .u16 1,.int .u8 0,.int .u8 0,.int .u16 0,.int .u8 0,.string ⟨#[97]⟩,.int .u8 3,.int .u8 1,.int .u16 1,.int .u8 0,.int .u8 0,.int .u16 0,.int .u8 0,.string ⟨#[98]⟩,.int .u8 3,.int .u8 1,.int .u16 1,.int .u8 0,.int .u8 0,.int .u16 0,.int .u8 0,.string ⟨#[99]⟩,.int .u8 4,.int .u8 1,.int .u16 1,.int .u8 1,.int .u8 1,.int .u16 1,.int .u8 2,.string ⟨#[]⟩,.int .u8 4,.int .u8 1,.int .u16 1,.int .u8 2,.int .u8 1,.int .u16 1,.int .u8 3,.string ⟨#[]⟩] 58)).alloc (.cells #[.int .u8 0,.int .u16 0,.slice none 0 0,.slice none 0 0] 61)) (u4.heap.size+1) 61 [.int .u8 0,.int .u16 0,.slice none 0 0,.slice none 0 0] from(by have h:=arrT_new (u4.alloc (.cells #[.int .u8 1,.int .u8 0,.int .u16 0,.int .u8 0,.int .u8 0,.int .u16 0,.int .u8 0,.string ⟨#[]⟩,.int .u8 3,.int .u8 1,.int .u16 1,.int .u8 0,.int .u8 0,.int .u16 0,.int .u8 0,.string ⟨#[97]⟩,.int .u8 3,.int .u8 1,.int .u16 1,.int .u8 0,.int .u8 0,.int .u16 0,.int .u8 0,.string ⟨#[98]⟩,.int .u8 3,.int .u8 1,.int .u16 1,.int .u8 0,.int .u8 0,.int .u16 0,.int .u8 0,.string ⟨#[99]⟩,.int .u8 4,.int .u8 1,.int .u16 1,.int .u8 1,.int .u8 1,.int .u16 1,.int .u8 2,.string ⟨#[]⟩,.int .u8 4,.int .u8 1,.int .u16 1,.int .u8 2,.int .u8 1,.int .u16 1,.int .u8 3,.string ⟨#[]⟩] 58)) [.int .u8 0,.int .u16 0,.slice none 0 0,.slice none 0 0] 61;simpa using h)).over HKm.out)
   have nd:(Value.slice pd 0 cd).ownBlock=none∨(Value.slice pd 0 cd).ownBlock≠some (u4.heap.size+1):=.inr (fun q=>(HZ9.out.ne (show World.ownsRow _ _ _ _ _ _ _ from HO5.out) (by decide)) q.symm)
   have no:(Value.slice po 6 co).ownBlock=none∨(Value.slice po 6 co).ownBlock≠some (u4.heap.size+1):=.inr (fun q=>(HZ9.out.ne (show World.ownsRow _ _ _ _ _ _ _ from HO6.out) (by decide)) q.symm)
   exact⟨_,pd,cd,po,co,rfl,Lib.hid ((((HZ9.out.set 0 (.int .u8 1)).set 1 (.int .u16 1)).set 2 (.slice pd 0 cd)).set 3 (.slice po 6 co)),Lib.hid (show GOwn encPid 2 26 _ w2.heap.size (.slice pd 0 cd) [] from own_grown HO5.out (gtr (gtr (gtr (gtr (World.grownBy.refl u6 _) (gsc _ _ _)) (gsc _ _ _)) (gsc _ _ _)) (gsc _ _ _)) nd),Lib.hid (show GOwn encOp 8 58 _ w2.heap.size (.slice po 6 co) wkOps from own_grown HO6.out (gtr (gtr (gtr (gtr (World.grownBy.refl u6 _) (gsc _ _ _)) (gsc _ _ _)) (gsc _ _ _)) (gsc _ _ _)) no),Lib.hid ((((HBm.out.setCell (p:=⟨(u4.heap.size+1),0,none⟩) (Nat.le_succ_of_le HBv4.out.size) (.int .u8 1)).setCell (p:=⟨(u4.heap.size+1),1,none⟩) (Nat.le_succ_of_le HBv4.out.size) (.int .u16 1)).setCell (p:=⟨(u4.heap.size+1),2,none⟩) (Nat.le_succ_of_le HBv4.out.size) (.slice pd 0 cd)).setCell (p:=⟨(u4.heap.size+1),3,none⟩) (Nat.le_succ_of_le HBv4.out.size) (.slice po 6 co))⟩
  ·
   rename_i J K hJ hK hHeld
   clear hHeld
   refine hK _ _ (Met.intro (hJ _ _ ?_))
   (repeat apply Exists.intro)
   refine⟨?_,rfl⟩
   have HZ9:Hid (ArrT u6 u4.heap.size 61 [.int .u8 0,.int .u16 0,.slice none 0 0,.slice none 0 0]):=Lib.hid (((arrT_new u4 [.int .u8 0,.int .u16 0,.slice none 0 0,.slice none 0 0] 61).over (bnew _)).over HKm.out)
   have nd:(Value.slice pd 0 cd).ownBlock=none∨(Value.slice pd 0 cd).ownBlock≠some u4.heap.size:=.inr (fun q=>(HZ9.out.ne (show World.ownsRow _ _ _ _ _ _ _ from HO5.out) (by decide)) q.symm)
   have no:(Value.slice po 6 co).ownBlock=none∨(Value.slice po 6 co).ownBlock≠some u4.heap.size:=.inr (fun q=>(HZ9.out.ne (show World.ownsRow _ _ _ _ _ _ _ from HO6.out) (by decide)) q.symm)
   exact⟨_,pd,cd,po,co,rfl,Lib.hid ((((HZ9.out.set 0 (.int .u8 1)).set 1 (.int .u16 1)).set 2 (.slice pd 0 cd)).set 3 (.slice po 6 co)),Lib.hid (show GOwn encPid 2 26 _ w2.heap.size (.slice pd 0 cd) [] from own_grown HO5.out (gtr (gtr (gtr (gtr (World.grownBy.refl u6 _) (gsc _ _ _)) (gsc _ _ _)) (gsc _ _ _)) (gsc _ _ _)) nd),Lib.hid (show GOwn encOp 8 58 _ w2.heap.size (.slice po 6 co) wkOps from own_grown HO6.out (gtr (gtr (gtr (gtr (World.grownBy.refl u6 _) (gsc _ _ _)) (gsc _ _ _)) (gsc _ _ _)) (gsc _ _ _)) no),Lib.hid ((((HBm.out.setCell (p:=⟨u4.heap.size,0,none⟩) HBv4.out.size (.int .u8 1)).setCell (p:=⟨u4.heap.size,1,none⟩) HBv4.out.size (.int .u16 1)).setCell (p:=⟨u4.heap.size,2,none⟩) HBv4.out.size (.slice pd 0 cd)).setCell (p:=⟨u4.heap.size,3,none⟩) HBv4.out.size (.slice po 6 co))⟩
  ·
   rename_i J K hJ hK hHeld
   clear hHeld
   refine hK _ _ (Met.intro (hJ _ _ ?_))
   (repeat apply Exists.intro)
   refine⟨?_,rfl⟩
   have HZ9:Hid (ArrT u6 u3.heap.size 61 [.int .u8 0,.int .u16 0,.slice none 0 0,.slice none 0 0]):=Lib.hid ((((arrT_new u3 [.int .u8 0,.int .u16 0,.slice none 0 0,.slice none 0 0] 61).over HKv4.out).over (bnew _)).over HKm.out)
   have nd:(Value.slice pd 0 cd).ownBlock=none∨(Value.slice pd 0 cd).ownBlock≠some u3.heap.size:=.inr (fun q=>(HZ9.out.ne (show World.ownsRow _ _ _ _ _ _ _ from HO5.out) (by decide)) q.symm)
   have no:(Value.slice po 6 co).ownBlock=none∨(Value.slice po 6 co).ownBlock≠some u3.heap.size:=.inr (fun q=>(HZ9.out.ne (show World.ownsRow _ _ _ _ _ _ _ from HO6.out) (by decide)) q.symm)
   exact⟨_,pd,cd,po,co,rfl,Lib.hid ((((HZ9.out.set 0 (.int .u8 1)).set 1 (.int .u16 1)).set 2 (.slice pd 0 cd)).set 3 (.slice po 6 co)),Lib.hid (show GOwn encPid 2 26 _ w2.heap.size (.slice pd 0 cd) [] from own_grown HO5.out (gtr (gtr (gtr (gtr (World.grownBy.refl u6 _) (gsc _ _ _)) (gsc _ _ _)) (gsc _ _ _)) (gsc _ _ _)) nd),Lib.hid (show GOwn encOp 8 58 _ w2.heap.size (.slice po 6 co) wkOps from own_grown HO6.out (gtr (gtr (gtr (gtr (World.grownBy.refl u6 _) (gsc _ _ _)) (gsc _ _ _)) (gsc _ _ _)) (gsc _ _ _)) no),Lib.hid ((((HBm.out.setCell (p:=⟨u3.heap.size,0,none⟩) HBv3.out.size (.int .u8 1)).setCell (p:=⟨u3.heap.size,1,none⟩) HBv3.out.size (.int .u16 1)).setCell (p:=⟨u3.heap.size,2,none⟩) HBv3.out.size (.slice pd 0 cd)).setCell (p:=⟨u3.heap.size,3,none⟩) HBv3.out.size (.slice po 6 co))⟩
  ·
   rename_i J K hJ hK hHeld
   clear hHeld
   refine hK _ _ (Met.intro (hJ _ _ ?_))
   (repeat apply Exists.intro)
   refine⟨?_,rfl⟩
   have HZ9:Hid (ArrT u6 u2.heap.size 61 [.int .u8 0,.int .u16 0,.slice none 0 0,.slice none 0 0]):=Lib.hid (((((arrT_new u2 [.int .u8 0,.int .u16 0,.slice none 0 0,.slice none 0 0] 61).over HKv3.out).over HKv4.out).over (bnew _)).over HKm.out)
   have nd:(Value.slice pd 0 cd).ownBlock=none∨(Value.slice pd 0 cd).ownBlock≠some u2.heap.size:=.inr (fun q=>(HZ9.out.ne (show World.ownsRow _ _ _ _ _ _ _ from HO5.out) (by decide)) q.symm)
   have no:(Value.slice po 6 co).ownBlock=none∨(Value.slice po 6 co).ownBlock≠some u2.heap.size:=.inr (fun q=>(HZ9.out.ne (show World.ownsRow _ _ _ _ _ _ _ from HO6.out) (by decide)) q.symm)
   exact⟨_,pd,cd,po,co,rfl,Lib.hid ((((HZ9.out.set 0 (.int .u8 1)).set 1 (.int .u16 1)).set 2 (.slice pd 0 cd)).set 3 (.slice po 6 co)),Lib.hid (show GOwn encPid 2 26 _ w2.heap.size (.slice pd 0 cd) [] from own_grown HO5.out (gtr (gtr (gtr (gtr (World.grownBy.refl u6 _) (gsc _ _ _)) (gsc _ _ _)) (gsc _ _ _)) (gsc _ _ _)) nd),Lib.hid (show GOwn encOp 8 58 _ w2.heap.size (.slice po 6 co) wkOps from own_grown HO6.out (gtr (gtr (gtr (gtr (World.grownBy.refl u6 _) (gsc _ _ _)) (gsc _ _ _)) (gsc _ _ _)) (gsc _ _ _)) no),Lib.hid ((((HBm.out.setCell (p:=⟨u2.heap.size,0,none⟩) HBv2.out.size (.int .u8 1)).setCell (p:=⟨u2.heap.size,1,none⟩) HBv2.out.size (.int .u16 1)).setCell (p:=⟨u2.heap.size,2,none⟩) HBv2.out.size (.slice pd 0 cd)).setCell (p:=⟨u2.heap.size,3,none⟩) HBv2.out.size (.slice po 6 co))⟩
  ·
   rename_i J K hJ hK hHeld
   clear hHeld
   refine hK _ _ (Met.intro (hJ _ _ ?_))
   (repeat apply Exists.intro)
   refine⟨?_,rfl⟩
   have HZ9:Hid (ArrT u6 u1.heap.size 61 [.int .u8 0,.int .u16 0,.slice none 0 0,.slice none 0 0]):=Lib.hid ((((((arrT_new u1 [.int .u8 0,.int .u16 0,.slice none 0 0,.slice none 0 0] 61).over HKv2.out).over HKv3.out).over HKv4.out).over (bnew _)).over HKm.out)
   have nd:(Value.slice pd 0 cd).ownBlock=none∨(Value.slice pd 0 cd).ownBlock≠some u1.heap.size:=.inr (fun q=>(HZ9.out.ne (show World.ownsRow _ _ _ _ _ _ _ from HO5.out) (by decide)) q.symm)
   have no:(Value.slice po 6 co).ownBlock=none∨(Value.slice po 6 co).ownBlock≠some u1.heap.size:=.inr (fun q=>(HZ9.out.ne (show World.ownsRow _ _ _ _ _ _ _ from HO6.out) (by decide)) q.symm)
   exact⟨_,pd,cd,po,co,rfl,Lib.hid ((((HZ9.out.set 0 (.int .u8 1)).set 1 (.int .u16 1)).set 2 (.slice pd 0 cd)).set 3 (.slice po 6 co)),Lib.hid (show GOwn encPid 2 26 _ w2.heap.size (.slice pd 0 cd) [] from own_grown HO5.out (gtr (gtr (gtr (gtr (World.grownBy.refl u6 _) (gsc _ _ _)) (gsc _ _ _)) (gsc _ _ _)) (gsc _ _ _)) nd),Lib.hid (show GOwn encOp 8 58 _ w2.heap.size (.slice po 6 co) wkOps from own_grown HO6.out (gtr (gtr (gtr (gtr (World.grownBy.refl u6 _) (gsc _ _ _)) (gsc _ _ _)) (gsc _ _ _)) (gsc _ _ _)) no),Lib.hid ((((HBm.out.setCell (p:=⟨u1.heap.size,0,none⟩) HBv1.out.size (.int .u8 1)).setCell (p:=⟨u1.heap.size,1,none⟩) HBv1.out.size (.int .u16 1)).setCell (p:=⟨u1.heap.size,2,none⟩) HBv1.out.size (.slice pd 0 cd)).setCell (p:=⟨u1.heap.size,3,none⟩) HBv1.out.size (.slice po 6 co))⟩
  ·
   rename_i J K hJ hK hHeld
   clear hHeld
   refine hK _ _ (Met.intro (hJ _ _ ?_))
   (repeat apply Exists.intro)
   refine⟨?_,rfl⟩
   have HZ9:Hid (ArrT u6 w2.heap.size 61 [.int .u8 0,.int .u16 0,.slice none 0 0,.slice none 0 0]):=Lib.hid (((((((show ArrT (w2.alloc (.cells #[.int .u8 0,.int .u16 0,.slice none 0 0,.slice none 0 0] 61)).drew w2.heap.size 61 [.int .u8 0,.int .u16 0,.slice none 0 0,.slice none 0 0] from arrT_new w2 [.int .u8 0,.int .u16 0,.slice none 0 0,.slice none 0 0] 61).over HKv1.out).over HKv2.out).over HKv3.out).over HKv4.out).over (bnew _)).over HKm.out)
   have nd:(Value.slice pd 0 cd).ownBlock=none∨(Value.slice pd 0 cd).ownBlock≠some w2.heap.size:=.inr (fun q=>(HZ9.out.ne (show World.ownsRow _ _ _ _ _ _ _ from HO5.out) (by decide)) q.symm)
   have no:(Value.slice po 6 co).ownBlock=none∨(Value.slice po 6 co).ownBlock≠some w2.heap.size:=.inr (fun q=>(HZ9.out.ne (show World.ownsRow _ _ _ _ _ _ _ from HO6.out) (by decide)) q.symm)
   exact⟨_,pd,cd,po,co,rfl,Lib.hid ((((HZ9.out.set 0 (.int .u8 1)).set 1 (.int .u16 1)).set 2 (.slice pd 0 cd)).set 3 (.slice po 6 co)),Lib.hid (show GOwn encPid 2 26 _ w2.heap.size (.slice pd 0 cd) [] from own_grown HO5.out (gtr (gtr (gtr (gtr (World.grownBy.refl u6 _) (gsc _ _ _)) (gsc _ _ _)) (gsc _ _ _)) (gsc _ _ _)) nd),Lib.hid (show GOwn encOp 8 58 _ w2.heap.size (.slice po 6 co) wkOps from own_grown HO6.out (gtr (gtr (gtr (gtr (World.grownBy.refl u6 _) (gsc _ _ _)) (gsc _ _ _)) (gsc _ _ _)) (gsc _ _ _)) no),Lib.hid ((((HBm.out.setCell (p:=⟨w2.heap.size,0,none⟩) (Nat.le_refl _) (.int .u8 1)).setCell (p:=⟨w2.heap.size,1,none⟩) (Nat.le_refl _) (.int .u16 1)).setCell (p:=⟨w2.heap.size,2,none⟩) (Nat.le_refl _) (.slice pd 0 cd)).setCell (p:=⟨w2.heap.size,3,none⟩) (Nat.le_refl _) (.slice po 6 co))⟩
 case rest =>
  obtain⟨g3,pd,cd,po,co,rfl,HA3,HD3,HO3,HB3⟩:=hcut
  rename World=>w3
  have HA3:=Lib.hid HA3.out.arr
  have HI3:=Lib.hid (HA2.out.over HB3.out)
  have HF3:=Lib.hid (HF2.out.over HB3.out)
  have HB4:=Lib.hid (bov HB2.out HB2.out.size HB3.out)
  clear i0 i1 si j0 j1 j2 sj HS HZ HQ HC1 HC2 HC3 HCM
  have p0:=HA3.out.cell (j:=0) rfl
  have p1:=HA3.out.cell (j:=1) rfl
  have p2:=HA3.out.cell (j:=2) rfl
  have p3:=HA3.out.cell (j:=3) rfl
  have sp:=HA3.out.lt
  have q0:=HF3.out.cell (j:=0) rfl
  have q1:=HF3.out.cell (j:=1) rfl
  have q2:=HF3.out.cell (j:=2) rfl
  have sq:=HF3.out.lt
  have HZ:Hid (∀ {W:World},Below w3.heap.size w3 W→w3.heap.size≤W.heap.size):=Lib.hid fun h=>h.size
  have HS:Hid (∀ w':World,Below w3.heap.size w3 w'→(w'.cell? ⟨g3,0,none⟩=some (.int .u8 1)∧w'.cell? ⟨g3,1,none⟩=some (.int .u16 1)∧w'.cell? ⟨g3,2,none⟩=some (.slice pd 0 cd)∧w'.cell? ⟨g3,3,none⟩=some (.slice po 6 co)∧w'.cell? ⟨w1.heap.size,0,none⟩=some (.int .u8 1)∧w'.cell? ⟨w1.heap.size,1,none⟩=some (.int .u16 1)∧w'.cell? ⟨w1.heap.size,2,none⟩=some (.int .u8 0)∧Below w3.heap.size w3 w')):=Lib.hid fun w' hb=>⟨(hb.cell (p:=⟨g3,0,none⟩) sp).trans p0,(hb.cell (p:=⟨g3,1,none⟩) sp).trans p1,(hb.cell (p:=⟨g3,2,none⟩) sp).trans p2,(hb.cell (p:=⟨g3,3,none⟩) sp).trans p3,(hb.cell (p:=⟨w1.heap.size,0,none⟩) sq).trans q0,(hb.cell (p:=⟨w1.heap.size,1,none⟩) sq).trans q1,(hb.cell (p:=⟨w1.heap.size,2,none⟩) sq).trans q2,hb⟩
  have HQ:Hid (∀ {W u:World},Below w3.heap.size w3 W→Below W.heap.size W u→Below w3.heap.size w3 u):=Lib.hid fun h1 h2=>bov h1 h1.size h2
  have HPW:Hid (∀(W:World) (b:Nat),Below w3.heap.size w3 W→b=W.heap.size→Pats (W.alloc (.cells #[.int .u8 1,.int .u16 1,.slice pd 0 cd,.slice po 6 co] 61)) (.slice (some ⟨b,0,none⟩) 1 1) [(⟨wkPat,.slice pd 0 cd,.slice po 6 co⟩:LaidP)]):=Lib.hid fun W b hb hbe=>by
   subst hbe
   refine⟨(show GOwn encPat 4 61 (W.alloc (.cells #[.int .u8 1,.int .u16 1,.slice pd 0 cd,.slice po 6 co] 61)) 0 (.slice (some ⟨W.heap.size,0,none⟩) 1 1) [(⟨wkPat,.slice pd 0 cd,.slice po 6 co⟩:LaidP)] from own_lit27 W 61 [(⟨wkPat,.slice pd 0 cd,.slice po 6 co⟩:LaidP)] 0 rfl (by show 1≤maxLen;unfold maxLen;omega) (Nat.zero_le _)).row,fun x hx => ?_⟩
   obtain rfl:x=⟨wkPat,.slice pd 0 cd,.slice po 6 co⟩:=by simpa using hx
   exact⟨((HD3.out.over hb).over (bnew _)).row,((HO3.out.over hb).over (bnew _)).row⟩
  have HCB:Hid (∀ v W,Pats W v [(⟨wkPat,.slice pd 0 cd,.slice po 6 co⟩:LaidP)]→Calls Tryz.prog 12 #[v] W fun e w'=>∃ b,e=.returned (.pointer (some ⟨b,0,none⟩))∧GrIs w' b [wkPat]∧Below W.heap.size W w'):=Lib.hid fun v W h=>by
   refine(build_any v _ 12 (by omega) W h wkFew).mono ?_
   rintro e w' ⟨b,bv,be,n,hn,rfl,hgr⟩
   obtain⟨_,_,_,hG,hb⟩:=hgr
   rw [show([(⟨wkPat,.slice pd 0 cd,.slice po 6 co⟩:LaidP)]).map (·.p)=[wkPat] from rfl,wkG] at hG
   exact⟨b,rfl,⟨bv,be,n,hG⟩,hb⟩
  have HCO:Hid (∀(b:Nat) (W:World),GrIs W b [wkPat]→Calls Tryz.prog 17 #[.pointer (some ⟨b,0,none⟩),.agg #[.int .u8 1,.int .u16 1,.int .u8 0]] W (LofRes W wkL wkR)):=Lib.hid fun b W h=>by
   have h9:=lof_any b [wkPat] wkF W h (by have:=wf_build [wkPat];rwa [wkG] at this) (by decide +kernel) (by decide +kernel)
   rw [wkLines,wkRel] at h9
   exact h9
  have HCE:Hid (∀(s:Nat) (v:Value) (W:World),ShAt W s wkL wkR→SRow W v wkWant→Calls Tryz.prog 16 #[.pointer (some ⟨s,0,none⟩),.agg #[.int .u8 1,.int .u16 1,.int .u8 0],.agg #[.int .u8 1,.int .u16 2],.int .i64 0,v] W (OwnRes encOp 8 58 W wkOut)):=Lib.hid fun s v W h1 h2=>by
   have h9:=eops_any s v wkL wkR wkF wkNew 0 wkWant W h1 (by decide) h2 (by decide) (by omega)
   rw [wkEdit] at h9
   exact h9
  go_upto_region 4 with(fail)
  go_cut [5] (fun s wx=>∃ p9 c9,s=.slice p9 4 c9∧Hid (GOwn encOp 8 58 wx w3.heap.size (.slice p9 4 c9) wkOut)∧Hid (Below w3.heap.size w3 wx))
  case first =>
   go_region_held3 (fun w'=>w'.cell? ⟨g3,0,none⟩=some (.int .u8 1)∧w'.cell? ⟨g3,1,none⟩=some (.int .u16 1)∧w'.cell? ⟨g3,2,none⟩=some (.slice pd 0 cd)∧w'.cell? ⟨g3,3,none⟩=some (.slice po 6 co)∧w'.cell? ⟨w1.heap.size,0,none⟩=some (.int .u8 1)∧w'.cell? ⟨w1.heap.size,1,none⟩=some (.int .u16 1)∧w'.cell? ⟨w1.heap.size,2,none⟩=some (.int .u8 0)∧Below w3.heap.size w3 w') (first|(refine HS.out _ ?_;((repeat(first|exact Below.refl _ _|exact HBvC.out|exact HBvB.out|exact HBvA.out|refine Below.drew ?_|refine balloc27 ?_ _|exact Nat.le_refl _));done)))
    (first|(go_at_call 12;refine(HCB.out _ _ (by first|with_reducible exact(HPW.out _ _ (by((repeat(first|exact Below.refl _ _|refine Below.drew ?_|refine balloc27 ?_ _|exact Nat.le_refl _));done)) (by simp)).over (Below.drew (Below.refl _ _))|with_reducible exact((HPW.out _ _ (by((repeat(first|exact Below.refl _ _|refine Below.drew ?_|refine balloc27 ?_ _|exact Nat.le_refl _));done)) (by simp)).over (bnew _)).over (Below.drew (Below.refl _ _)))).mono ?_;rintro e uA ⟨gb,rfl,hg,hb5⟩;have HBvA:Hid (Below w3.heap.size w3 uA):=Lib.hid (HQ.out (by with_reducible ((repeat(first|exact Below.refl _ _|refine Below.drew ?_|refine balloc27 ?_ _|exact Nat.le_refl _));done)) hb5);have HGA:=Lib.hid hg;have HKA:=Lib.hid hb5;clear hb5 hg)|(have hqq:=HGA;clear hqq;go_at_call 17;refine(HCO.out _ _ (by first|with_reducible exact HGA.out|with_reducible exact HGA.out.over (bnew _))).mono ?_;rintro e uB ⟨sB,rfl,hsz,hsh,hb5⟩;have HBvB:Hid (Below w3.heap.size w3 uB):=Lib.hid (HQ.out (by with_reducible ((repeat(first|exact Below.refl _ _|exact HBvA.out|refine Below.drew ?_|refine balloc27 ?_ _|exact Nat.le_refl _));done)) hb5);have HSB:=Lib.hid hsh;have HKB:=Lib.hid hb5;clear hb5 hsh hsz)|(have hqq:=HSB;clear hqq;go_at_call 16;refine(HCE.out _ _ _ (by first|with_reducible exact HSB.out|with_reducible exact HSB.out.over (bnew _)) (by first|with_reducible exact srowW _ _ (by simp)|with_reducible exact(srowW _ _ (by simp)).over HKB.out|with_reducible exact(((srowW _ _ (by simp)).over (Below.drew (Below.refl _ _))).over HKA.out).over HKB.out|with_reducible exact((((srowW _ _ (by simp)).over (bnew _)).over (Below.drew (Below.refl _ _))).over HKA.out).over HKB.out)).mono ?_;rintro e uC ⟨vC,rfl,hoC,hb5⟩;have HBvC:Hid (Below w3.heap.size w3 uC):=Lib.hid (HQ.out (by with_reducible ((repeat(first|exact Below.refl _ _|exact HBvB.out|refine Below.drew ?_|refine balloc27 ?_ _|exact Nat.le_refl _));done)) hb5);have HOC:=Lib.hid (hoC.base (HZ.out (by with_reducible ((repeat(first|exact Below.refl _ _|exact HBvB.out|refine Below.drew ?_|refine balloc27 ?_ _|exact Nat.le_refl _));done))));clear hb5 hoC;(obtain⟨p9,c9,e9⟩:=oown_form HOC.out);subst e9))
   all_goals (rename_i J K hJ hK hHeld;clear hHeld;refine hK _ _ (Met.intro (hJ _ _ ?_));(repeat apply Exists.intro);refine⟨?_,rfl⟩;exact⟨p9,c9,rfl,HOC,HBvC⟩)
  case rest =>
   obtain⟨p9,c9,rfl,HO9,HB9⟩:=hcut
   rename World=>w4
   have HI4:=Lib.hid (HI3.out.over HB9.out)
   have HB5:=Lib.hid (bov HB4.out HB4.out.size HB9.out)
   obtain⟨gO,cO,eO,hAO⟩:=own_at (show World.ownsRow _ _ _ _ _ _ _ from HO9.out) (by simp [wkOut])
   obtain⟨rfl,hxx,rfl⟩:=Value.slice.inj eO
   clear hxx
   have hnc:=hAO.nc
   have hcm:=hAO.cm
   unfold maxLen at hcm
   have sO:=hAO.lt
   have hnc4:4≤c9:=hnc
   have o0:w4.cell? ⟨gO,0,none⟩=some (.int .u8 5):=hAO.cell (j:=0) rfl
   have o1:w4.cell? ⟨gO,1,none⟩=some (.int .u8 1):=hAO.cell (j:=1) rfl
   have o2:w4.cell? ⟨gO,2,none⟩=some (.int .u16 1):=hAO.cell (j:=2) rfl
   have o3:w4.cell? ⟨gO,3,none⟩=some (.int .u8 2):=hAO.cell (j:=3) rfl
   have o15:w4.cell? ⟨gO,15,none⟩=some (.string ⟨#[120]⟩):=hAO.cell (j:=15) rfl
   have o24:w4.cell? ⟨gO,24,none⟩=some (.int .u8 4):=hAO.cell (j:=24) rfl
   clear p0 p1 p2 p3 sp q0 q1 q2 sq HS hAO eO
   have i0:=HI4.out.cell (j:=0) rfl
   have i1:=HI4.out.cell (j:=1) rfl
   have si:=HI4.out.lt
   have HC2:Hid (∀ W,Calls Tryz.prog 21 #[.agg #[.int .u8 1,.int .u16 1],.int .i64 2] W fun e w'=>e=.returned (.agg #[.int .u8 1,.int .u16 1,.int .u8 2])∧Below W.heap.size W w'):=Lib.hid fun W=>pvid_any ⟨1,1⟩ 2 W (by omega)
   have e1:∀ W,(binOp .eql 40 (.agg #[.int .u8 1,.int .u16 1,.int .u8 2]) (.agg #[.int .u8 1,.int .u16 1,.int .u8 2])).run Tryz.prog W=.ok (.bool true) W:=fun W=>eql_vid ⟨⟨1,1⟩,2⟩ ⟨⟨1,1⟩,2⟩ true rfl W
   have e2:=fun(p q:Operand) W=>guard_vid .eql p q #[.int .u8 1,.int .u16 1,.int .u8 2] #[.int .u8 1,.int .u16 1,.int .u8 2] W
   go_upto_region 5 with(fail)
   have hcur:Below w4.heap.size w4 w4.drew:=(Below.refl _ _).drew
   refine wlex (C:=IsOver w4) 34 [] (by kernel_rfl) (by kernel_rfl) (iov hcur) ?_
   simp only [List.take_succ_cons,List.take_zero,List.drop_succ_cons,List.drop_zero]
   repeat(first|(refine lxs rfl rfl ?_;simp only [Act.put,List.setIfInBounds_toArray,List.set_cons_succ,List.set_cons_zero])|(refine lxo rfl ?_;go_big_quiet_step (fail);refine wpQuiet_nil ?_)|(refine lxl rfl ?_;go_wp2_with (first|(go_at_call 21;(with_reducible refine(HC2.out _).mono ?_);rintro e wF ⟨rfl,hb⟩;replace hcur:=bov hcur hcur.size hb;clear hb));refine⟨iov hcur,?_⟩))
   refine lxe ?_
   go_wp2_with fail
   go_ret
   exact⟨rfl,bov HB5.out HB5.out.size hcur⟩
end Go.Proofs.YtllcipobiengiaaGreat
namespace Go.Proofs.YtllcipobiengiaaGreat
open Go Go.RowKit

theorem place_is:∀ {l:List VertM} {v:VidM} {k:Nat} {x:VertM},l[k]? = some x→x.id=v→(∀ j y,j<k→l[j]? = some y→y.id≠v)→placeM l v=k
 | [],_,k,_,hx,_,_=>by simp at hx
 | y :: l,v,0,x,hx,hid,_=>by
  simp at hx;subst hx
  unfold placeM;rw [List.map_cons,hid,List.idxOf_cons_self]
 | y :: l,v,k+1,x,hx,hid,hno=>by
  have h0:y.id≠v:=hno 0 y (by omega) rfl
  have ih:=place_is (l:=l) (v:=v) (k:=k) (x:=x) (by simpa using hx) hid (fun j z hj hz=>hno (j+1) z (by omega) (by simpa using hz))
  unfold placeM at ih ⊢
  rw [List.map_cons,List.idxOf_cons,ih,show(y.id == v)=false from decide_eq_false h0];rfl
theorem no_step{l:List VertM}{v:VidM}{k:Nat}{x:VertM}(hx:l[k]? = some x)(hne:¬ x.id=v)(hno:∀ j y,j<k→l[j]? = some y→y.id≠v):∀ j y,j<k+1→l[j]? = some y→y.id≠v:=fun j y hj hy=>by
 rcases Nat.lt_or_ge j k with h|h
 ·
  exact hno j y h hy
 ·
  obtain rfl:j=k:=by omega
  rw [hx] at hy;cases hy;exact hne
set_option maxHeartbeats 8000000 in
set_option maxRecDepth 100000 in
theorem r21place_any(lv:Value)(l:List VertM)(v:VidM)(w:World)(hv:GRow encVert 9 w lv l)(hm:v∈l.map (·.id)) :
  Calls Tryz.prog 60 #[lv,vidV v] w fun e w'=>e=.returned (.int .i64 (placeM l v:Int))∧Below w.heap.size w w':=by
 have gd:=fun p q xs ys w=>guard_vid .eql p q xs ys w
 obtain⟨a,cap,rfl,h1,h2,hc⟩:=hv.at encVert_len
 unfold maxLen at h2
 have HC:=Lib.hid hc
 have HM:=Lib.hid (place_get hm)
 have HF:=Lib.hid (anw w #[.int .u8 v.pid.author.toNat,.int .u16 v.pid.seq.toNat,.int .u8 v.n.toNat] 40)
 have HB:=Lib.hid (bnew (w:=w) (.cells #[.int .u8 v.pid.author.toNat,.int .u16 v.pid.seq.toNat,.int .u8 v.n.toNat] 40))
 clear hv hc hm
 unfold vidV
 go_enter Tryz.func60,Tryz.ntmps60
 go_upto_region 1 with(fail)
 generalize hw0:w.alloc (.cells #[.int .u8 v.pid.author.toNat,.int .u16 v.pid.seq.toNat,.int .u8 v.n.toNat] 40)=w0 at *
 clear hw0
 go_wp2_with fail
 go_loopw [5] (fun v5 wr=>∃ k:Nat,k≤l.length∧v5=.int .i64 k∧Hid (∀ j y,j<k→l[j]? = some y→y.id≠v)∧Hid (Below w0.heap.size w0 wr)) (fun v5 _=>l.length - (intOf v5).toNat)
 case atStart=>exact⟨0,by omega,rfl,Lib.hid (fun j y hj=>absurd hj (Nat.not_lt_zero j)),Below.refl _ _⟩
 case round =>
  obtain⟨k,hk,rfl,HN,hbl⟩:=hrel
  rename World=>wr
  have HBr:=Lib.hid (bov HB.out HB.out.size hbl.out)
  have HFr:=Lib.hid (HF.out.over hbl.out)
  have f0:=HFr.out.cell (j:=0) rfl
  have f1:=HFr.out.cell (j:=1) rfl
  have f2:=HFr.out.cell (j:=2) rfl
  have sf:=HFr.out.lt
  by_cases hlt:k<l.length
  ·
   obtain⟨b,off,rfl,sb,hcb⟩:=HC.out.resolve_left (by omega)
   obtain⟨x,hx⟩:=gol hlt
   have HX:=Lib.hid hx
   have HRx:=Lib.hid (hcb k x hx wr HBr.out)
   have x0:wr.cell? ⟨b,off+k*9,none⟩=some (.int .u8 x.id.pid.author.toNat):=(HRx.out).2 0 _ rfl
   have x1:wr.cell? ⟨b,off+k*9+1,none⟩=some (.int .u16 x.id.pid.seq.toNat):=(HRx.out).2 1 _ rfl
   have x2:wr.cell? ⟨b,off+k*9+2,none⟩=some (.int .u8 x.id.n.toNat):=(HRx.out).2 2 _ rfl
   have x3:wr.cell? ⟨b,off+k*9+3,none⟩=some (.int .u8 x.kind.toNat):=(HRx.out).2 3 _ rfl
   have x4:wr.cell? ⟨b,off+k*9+4,none⟩=some (.int .u8 x.file.pid.author.toNat):=(HRx.out).2 4 _ rfl
   have x5:wr.cell? ⟨b,off+k*9+5,none⟩=some (.int .u16 x.file.pid.seq.toNat):=(HRx.out).2 5 _ rfl
   have x6:wr.cell? ⟨b,off+k*9+6,none⟩=some (.int .u8 x.file.n.toNat):=(HRx.out).2 6 _ rfl
   have x7:wr.cell? ⟨b,off+k*9+7,none⟩=some (.string x.text):=(HRx.out).2 7 _ rfl
   have x8:wr.cell? ⟨b,off+k*9+8,none⟩=some (.bool x.dead):=(HRx.out).2 8 _ rfl
   have sx:=HRx.out.1
   clear hcb hx
   by_cases he:x.id=v
   ·
    have e1:=eql_vid x.id v true (by simp [he])
    unfold vidV at e1
    have HV:=Lib.hid (place_is HX.out he HN.out)
    clear he
    go_wp2_with fail
    have hcur:Below wr.heap.size wr wr.drew:=(Below.refl _ _).drew
    refine wlex (C:=IsOver wr) 7 [] (by kernel_rfl) (by kernel_rfl) (iov hcur) ?_
    simp only [List.take_succ_cons,List.take_zero,List.drop_succ_cons,List.drop_zero]
    repeat(first|(refine lxs rfl rfl ?_;simp only [Act.put,List.setIfInBounds_toArray,List.set_cons_succ,List.set_cons_zero])|(refine lxo rfl ?_;go_big_quiet_step (fail);refine wpQuiet_nil ?_)|(refine lxl rfl ?_;go_wp2_with (first|(fail));refine⟨iov hcur,?_⟩))
    refine lxe ?_
    clear hcur
    go_wp2_with fail
    go_ret
    exact⟨ret_int (by rw [HV.out]),HBr.out.drew⟩
   ·
    have e1:=eql_vid x.id v false (by simp [he])
    unfold vidV at e1
    have HN2:=Lib.hid (no_step HX.out he HN.out)
    clear he
    go_wp2_with fail
    have hcur:Below wr.heap.size wr wr.drew:=(Below.refl _ _).drew
    refine wlex (C:=IsOver wr) 7 [] (by kernel_rfl) (by kernel_rfl) (iov hcur) ?_
    simp only [List.take_succ_cons,List.take_zero,List.drop_succ_cons,List.drop_zero]
    repeat(first|(refine lxs rfl rfl ?_;simp only [Act.put,List.setIfInBounds_toArray,List.set_cons_succ,List.set_cons_zero])|(refine lxo rfl ?_;go_big_quiet_step (fail);refine wpQuiet_nil ?_)|(refine lxl rfl ?_;go_wp2_with (first|(fail));refine⟨iov hcur,?_⟩))
    refine lxe ?_
    clear hcur
    go_wp2_with fail
    go_roundw
    case rel=>exact⟨k+1,hlt,by go_num,HN2,Lib.hid hbl.out.drew⟩
    case measure=>simp [intOf];omega
  ·
   obtain⟨y,hy,hyv⟩:=HM.out
   exact absurd hyv (HN.out (placeM l v) y (Nat.lt_of_lt_of_le (List.getElem?_eq_some_iff.1 hy).1 (by omega)) hy)

/-! ### a sheet of the reference -/
abbrev rsV(lv:Value)(n:Nat)(sv:Value):Value:=.agg #[lv,.int .i64 n,sv]
structure RSh (w:World) (lv sv:Value) (l:List VertM) (R:List (Nat × Nat)):Prop where
 row:GRow encVert 9 w lv l
 rel:RRel w l.length sv R
theorem RSh.over{w w':World}{lv sv:Value}{l:List VertM}{R:List (Nat × Nat)}(h:RSh w lv sv l R)(hb:Below w.heap.size w w'):RSh w' lv sv l R:=⟨h.row.over hb,h.rel.over hb⟩
theorem RSh.form{w:World}{lv sv:Value}{l:List VertM}{R:List (Nat × Nat)}(h:RSh w lv sv l R):∃ lp lc sp sc,lv=.slice lp l.length lc∧sv=.slice sp R.length sc∧lc≤maxLen:=by
 obtain⟨a,cap,e1,_,h3,_⟩:=h.row.at encVert_len
 obtain⟨a2,cap2,e2,_⟩:=prow_at h.rel.row
 exact⟨a,cap,a2,cap2,e1,e2,h3⟩
attribute [local irreducible] orderM keptI aliveQL deadQL aliveX aliB firmB
set_option maxHeartbeats 8000000 in
set_option maxRecDepth 100000 in
theorem r21order_any(lv sv:Value)(l:List VertM)(R:List (Nat × Nat))(w:World)(h:RSh w lv sv l R):Calls Tryz.prog 103 #[rsV lv l.length sv] w (OwnRes encI 1 3 w (orderM R l.length)):=by
 obtain⟨lp,lc,sp,sc,rfl,rfl,hlc⟩:=h.form
 unfold maxLen at hlc
 have HS:=Lib.hid (h.over (bnew (w:=w) (.cells #[.slice lp l.length lc,.int .i64 l.length,.slice sp R.length sc] 52)))
 have HG:=Lib.hid (anw w #[.slice lp l.length lc,.int .i64 l.length,.slice sp R.length sc] 52)
 have HB:=Lib.hid (bnew (w:=w) (.cells #[.slice lp l.length lc,.int .i64 l.length,.slice sp R.length sc] 52))
 clear h
 unfold rsV
 go_enter Tryz.func103,Tryz.ntmps103
 go_upto_region 1 with(fail)
 generalize hw0:w.alloc (.cells #[.slice lp l.length lc,.int .i64 l.length,.slice sp R.length sc] 52)=w0 at *
 clear hw0
 have g0:=HG.out.cell (j:=0) rfl
 have g1:=HG.out.cell (j:=1) rfl
 have g2:=HG.out.cell (j:=2) rfl
 have sg:=HG.out.lt
 go_wp2_with fail
 refine(r9order_any l.length _ R _ HS.out.rel).mono ?_
 rintro e w1 ⟨v,rfl,ho,hb⟩
 have HO:=Lib.hid (ho.base HB.out.size)
 have HB1:=Lib.hid (bov HB.out HB.out.size hb)
 clear ho hb
 go_wp2_with fail
 go_ret
 exact⟨_,rfl,HO.out,HB1.out⟩
def AvRel(w1:World)(l:List VertM)(od:List Nat)(v3 v5:Value)(wr:World):Prop:=∃ k:Nat,k≤od.length∧v5=.int .i64 k∧Hid (GOwn encI 1 3 wr w1.heap.size v3 (keptI l od k))∧Hid (Below w1.heap.size w1 wr)
theorem keptI_zero(l:List VertM)(xs:List Nat):keptI l xs 0=[]:=by unfold keptI;rfl
theorem keptI_len(l:List VertM)(xs:List Nat)(k:Nat):(keptI l xs k).length≤xs.length:=by
 unfold keptI
 refine Nat.le_trans (List.length_filter_le _ _) ?_
 rw [List.length_take];exact Nat.min_le_right _ _
theorem aliveX_kept(l:List VertM)(R:List (Nat × Nat)):keptI l (orderM R l.length) (orderM R l.length).length=aliveX l R:=by unfold aliveX;exact keptI_all l _
set_option maxHeartbeats 8000000 in
set_option maxRecDepth 100000 in
theorem r21alive_any(lv sv:Value)(l:List VertM)(R:List (Nat × Nat))(w:World)(h:RSh w lv sv l R):Calls Tryz.prog 53 #[rsV lv l.length sv] w (OwnRes encI 1 3 w (aliveX l R)):=by
 have hroom:=h.rel.room
 obtain⟨lp,lc,sp,sc,rfl,rfl,hlc⟩:=h.form
 unfold maxLen at hlc
 have HS:=Lib.hid (h.over (bnew (w:=w) (.cells #[.slice lp l.length lc,.int .i64 l.length,.slice sp R.length sc] 52)))
 have HG:=Lib.hid (anw w #[.slice lp l.length lc,.int .i64 l.length,.slice sp R.length sc] 52)
 have HB:=Lib.hid (bnew (w:=w) (.cells #[.slice lp l.length lc,.int .i64 l.length,.slice sp R.length sc] 52))
 clear h
 unfold rsV
 go_enter Tryz.func53,Tryz.ntmps53
 go_upto_region 1 with(fail)
 generalize hw0:w.alloc (.cells #[.slice lp l.length lc,.int .i64 l.length,.slice sp R.length sc] 52)=w0 at *
 clear hw0
 have g0:=HG.out.cell (j:=0) rfl
 have g1:=HG.out.cell (j:=1) rfl
 have g2:=HG.out.cell (j:=2) rfl
 have sg:=HG.out.lt
 go_wp2_with fail
 refine(r21order_any _ _ l R _ HS.out).mono ?_
 rintro e w1 ⟨ov,rfl,ho,hb⟩
 obtain⟨a5,c5,rfl,z1,z2,hc5⟩:=irow_at ho.row
 unfold maxLen at z2
 have HC5:=Lib.hid hc5
 have HB1:=Lib.hid hb
 have HG1:=Lib.hid (HG.out.over hb)
 have HS1:=Lib.hid (HS.out.over hb)
 have HOl:Hid (∀ i∈orderM R l.length,i<l.length):=fun i hi=>order_lt hi
 have HAK:=Lib.hid (aliveX_kept l R)
 have hol:(orderM R l.length).length≤1000000:=by rw [orderM_len];omega
 generalize orderM R l.length=od at *
 clear ho hb hc5 g0 g1 g2 sg
 go_wp2_with fail
 go_loopw [3,5] (fun v3 v5 wr=>AvRel w1 l od v3 v5 wr) (fun _ v5 _=>od.length - (intOf v5).toNat)
 case atStart=>exact⟨0,by omega,rfl,Lib.hid (by rw [keptI_zero];exact gown_nil _ _),Below.refl _ _⟩
 case round =>
  obtain⟨k,hk,rfl,HM,hbl⟩:=hrel
  rename World=>wr
  have HGr:=Lib.hid (HG1.out.over hbl.out)
  have g0:=HGr.out.cell (j:=0) rfl
  have g1:=HGr.out.cell (j:=1) rfl
  have g2:=HGr.out.cell (j:=2) rfl
  have sg:=HGr.out.lt
  have hkl:=keptI_len l od k
  by_cases hlt:k<od.length
  ·
   obtain⟨b5,off5,rfl,sb5,hcb5⟩:=HC5.out.resolve_left (by omega)
   obtain⟨i,hi⟩:=gol hlt
   obtain⟨si,i0⟩:=hcb5 k i hi _ hbl.out
   have hil:=HOl.out i (List.mem_of_getElem? hi)
   obtain⟨x,hx⟩:=gol hil
   obtain⟨a7,c7,e7,y1,y2,hc7⟩:=(HS1.out.over hbl.out).row.at encVert_len
   cases e7
   obtain⟨b7,off7,rfl,sb7,hcb7⟩:=hc7.resolve_left (by omega)
   have x8:wr.cell? ⟨b7,off7+i*9+8,none⟩=some (.bool x.dead):=(hcb7 i x hx wr (Below.refl _ _)).2 8 _ rfl
   have HI:=Lib.hid hi
   have HX:=Lib.hid (deadQL_at hx)
   clear hcb5 hi hx hc7 hcb7
   cases hd:x.dead with
   | true =>
    have HN:=Lib.hid (keptI_no HI.out (HX.out.trans hd))
    rw [hd] at x8
    clear hd
    go_wp2_with fail
    have hcur:Below wr.heap.size wr wr.drew:=(Below.refl _ _).drew
    refine wlex (C:=IsOver wr) 10 [] (by kernel_rfl) (by kernel_rfl) (iov hcur) ?_
    simp only [List.take_succ_cons,List.take_zero,List.drop_succ_cons,List.drop_zero]
    repeat(first|(refine lxs rfl rfl ?_;simp only [Act.put,List.setIfInBounds_toArray,List.set_cons_succ,List.set_cons_zero])|(refine lxo rfl ?_;go_big_quiet_step (fail);refine wpQuiet_nil ?_)|(refine lxl rfl ?_;go_wp2_with (first|(fail));refine⟨iov hcur,?_⟩))
    refine lxe ?_
    clear hcur
    go_wp2_with fail
    go_roundw
    case rel=>exact⟨k+1,hlt,by go_num,(by show GOwn _ _ _ _ _ _ _;rw [HN.out];exact HM.out.over (Below.refl _ _).drew),Lib.hid hbl.out.drew⟩
    case measure=>simp [intOf];omega
   | false =>
    have HN:=Lib.hid (keptI_yes HI.out (HX.out.trans hd))
    rw [hd] at x8
    have hN:(keptI l od k).length+1≤1099511627776:=by omega
    have hB:=hbl.out.size
    clear hd
    go_wp2_with fail
    have hcur:Below wr.heap.size wr wr.drew:=(Below.refl _ _).drew
    refine wlex (C:=IsOver wr) 10 [] (by kernel_rfl) (by kernel_rfl) (iov hcur) ?_
    simp only [List.take_succ_cons,List.take_zero,List.drop_succ_cons,List.drop_zero]
    repeat(first|(refine lxs rfl rfl ?_;simp only [Act.put,List.setIfInBounds_toArray,List.set_cons_succ,List.set_cons_zero])|(refine lxo rfl ?_;go_big_quiet_step (fail);refine wpQuiet_nil ?_)|(refine lxl rfl ?_;go_wp2_with (first|(fail));refine⟨iov hcur,?_⟩))
    refine lxe ?_
    clear hcur
    go_wp2_with (at_builtin;(first|refine apD slIntI rfl _ _ rfl w1.heap.size _ _ (dad _ _ _) 1 _ _ _ HM.out rfl rfl rfl rfl hN (by decide) hB ?_|refine apD slIntI rfl _ _ rfl w1.heap.size _ _ (ddw _) 1 _ _ _ HM.out rfl rfl rfl rfl hN (by decide) hB ?_|refine apD slIntI rfl _ _ rfl w1.heap.size _ _ (ddn _ _) 1 _ _ _ HM.out rfl rfl rfl rfl hN (by decide) hB ?_|refine apD slIntI rfl _ _ rfl w1.heap.size _ _ (drf _) 1 _ _ _ HM.out rfl rfl rfl rfl hN (by decide) hB ?_);intro v9 w9 ho9 hg9)
    go_roundw
    case rel=>exact⟨k+1,hlt,by go_num,(by show GOwn _ _ _ _ _ _ _;rw [HN.out];exact GOwn.snoc ho9),bgr hbl.out hB HM.out hg9⟩
    case measure=>simp [intOf];omega
  ·
   obtain rfl:k=od.length:=by omega
   have HE:=HM.out
   rw [HAK.out] at HE
   have HE2:=Lib.hid (HE.base (Nat.le_trans HB.out.size HB1.out.size))
   clear HE
   go_wp2_with fail
   go_ret
   exact⟨_,rfl,HE2.out,bov HB.out HB.out.size (bov HB1.out HB1.out.size hbl.out)⟩
set_option maxHeartbeats 8000000 in
set_option maxRecDepth 100000 in
theorem r21firm_any(lv sv:Value)(l:List VertM)(R:List (Nat × Nat))(i:Nat)(w:World)(h:RSh w lv sv l R)(hi:i<l.length):Calls Tryz.prog 54 #[rsV lv l.length sv,.int .i64 i] w fun e w'=>e=.returned (.bool (firmB R l.length i))∧Below w.heap.size w w':=by
 have d1:decide ((l.length:Int)≤(i:Int))=false:=by simp;omega
 have d2:decide (l.length≤i)=false:=by simp;omega
 have hroom:=h.rel.room
 obtain⟨lp,lc,sp,sc,rfl,rfl,hlc⟩:=h.form
 unfold maxLen at hlc
 have HS:=Lib.hid (h.over (bnew (w:=w) (.cells #[.slice lp l.length lc,.int .i64 l.length,.slice sp R.length sc] 52)))
 have HG:=Lib.hid (anw w #[.slice lp l.length lc,.int .i64 l.length,.slice sp R.length sc] 52)
 have HB:=Lib.hid (bnew (w:=w) (.cells #[.slice lp l.length lc,.int .i64 l.length,.slice sp R.length sc] 52))
 clear h
 unfold rsV
 go_enter Tryz.func54,Tryz.ntmps54
 go_upto_region 1 with(fail)
 generalize hw0:w.alloc (.cells #[.slice lp l.length lc,.int .i64 l.length,.slice sp R.length sc] 52)=w0 at *
 clear hw0
 have g0:=HG.out.cell (j:=0) rfl
 have g1:=HG.out.cell (j:=1) rfl
 have g2:=HG.out.cell (j:=2) rfl
 have sg:=HG.out.lt
 go_wp2_with fail
 clear g0 g1 g2 sg d1 d2
 go_loopw [5] (fun v5 wr=>∃ j:Nat,j≤l.length∧v5=.int .i64 j∧Hid (∀ k,k<j→k≠i→aliB R i k=false)∧Hid (Below w0.heap.size w0 wr)) (fun v5 _=>l.length - (intOf v5).toNat)
 case atStart=>exact⟨0,by omega,rfl,Lib.hid (fun k hk=>absurd hk (Nat.not_lt_zero k)),Below.refl _ _⟩
 case round =>
  obtain⟨j,hj,rfl,HM,hbl⟩:=hrel
  rename World=>wr
  have HGr:=Lib.hid (HG.out.over hbl.out)
  have g0:=HGr.out.cell (j:=0) rfl
  have g1:=HGr.out.cell (j:=1) rfl
  have g2:=HGr.out.cell (j:=2) rfl
  have sg:=HGr.out.lt
  by_cases hlt:j<l.length
  ·
   have d1:decide ((j:Int)<(l.length:Int))=true:=by simp;omega
   have d2:decide (j<l.length)=true:=by simp [hlt]
   by_cases he:j=i
   ·
    have e1:((j:Int) == (i:Int))=true:=by simp [he]
    have e2:((j:Int) != (i:Int))=false:=by simp [he]
    have HN:Hid (∀ k,k<j+1→k≠i→aliB R i k=false):=fun k hk hne=>by
     rcases Nat.lt_or_ge k j with hl|hl
     ·
      exact HM.out k hl hne
     ·
      exact absurd (show k=i by omega) hne
    clear he
    go_wp2_with fail
    go_roundw
    case rel=>exact⟨j+1,hlt,by go_num,HN,hbl⟩
    case measure=>simp [intOf];omega
   ·
    have e1:((j:Int) == (i:Int))=false:=by simp;omega
    have e2:((j:Int) != (i:Int))=true:=by simp;omega
    have HRr:=Lib.hid ((HS.out.over hbl.out).rel)
    cases ha:aliB R i j with
    | true =>
     have HV:=Lib.hid ha
     have HF:=Lib.hid (firmB_no hlt he ha)
     clear ha he
     go_wp2_with fail
     refine(r8ali_any l.length _ R i j _ HRr.out hi).mono ?_
     rintro e w2 ⟨rfl,hb2⟩
     rw [HV.out]
     have HB2:=Lib.hid (bov hbl.out hbl.out.size hb2)
     clear hb2 g0 g1 g2 sg
     go_wp2_with fail
     go_ret
     exact⟨rvl (congrArg Value.bool HF.out.symm),bov HB.out HB.out.size HB2.out⟩
    | false =>
     have HV:=Lib.hid ha
     have HN:Hid (∀ k,k<j+1→k≠i→aliB R i k=false):=fun k hk hne=>by
      rcases Nat.lt_or_ge k j with hl|hl
      ·
       exact HM.out k hl hne
      ·
       obtain rfl:k=j:=by omega
       exact HV.out
     clear ha he
     go_wp2_with fail
     refine(r8ali_any l.length _ R i j _ HRr.out hi).mono ?_
     rintro e w2 ⟨rfl,hb2⟩
     rw [HV.out]
     have HB2:=Lib.hid (bov hbl.out hbl.out.size hb2)
     clear hb2 g0 g1 g2 sg
     go_wp2_with fail
     go_roundw
     case rel=>exact⟨j+1,hlt,by go_num,HN,HB2⟩
     case measure=>simp [intOf];omega
  ·
   obtain rfl:j=l.length:=by omega
   have HF:=Lib.hid (firmB_yes hi HM.out)
   go_wp2_with fail
   go_ret
   exact⟨rvl (congrArg Value.bool HF.out.symm),bov HB.out HB.out.size hbl.out⟩
end Go.Proofs.YtllcipobiengiaaGreat
