/- What is proved: PlanTwo, for every input; of the listed tables the walk needs the powers of ten. -/
import Derived.Test.YtjccmcgglfncdaaGreatDoorTNsD
import Derived.Test.YtjccmcgglfncdaaGreatDoorTTreeD
set_option linter.unusedVariables false
set_option linter.unusedSimpArgs false
set_option maxRecDepth 100000
set_option maxHeartbeats 40000000
namespace Go.Proofs.YtjccmcgglfncdaaGreatDoor
open Go Go.RowKit
section
attribute [local irreducible] allM killsTo edTo newTo planM killsN klTo linesM relM idsM edgesM fileOps linesOps namesM
end
section
attribute [local irreducible] allM planM linesM relM idsM edgesM planR goodQ goodR depsM vecM nextF recI
end
def wk28T:List FileM:=[⟨⟨#[97]⟩,[],[⟨#[120]⟩]⟩]
def wk28Id:PidM:=⟨1,1⟩
def wk28Ops:List OpM:=[⟨1,noVid,noVid,⟨#[]⟩⟩,⟨2,⟨wk28Id,0⟩,noVid,⟨#[97]⟩⟩,⟨3,⟨wk28Id,0⟩,noVid,⟨#[120]⟩⟩]
theorem wk28_next:nextF (vecM []) 1=wk28Id:=by unfold nextF;rw [if_pos ⟨by decide,by decide⟩];rfl
theorem wk28_alive:aliveX [] []=[]:=by unfold aliveX;rfl
theorem wk28_firm:firmX [] []=[]:=by unfold firmX;rfl
theorem wk28_lines(f:VidM)(id:PidM)(c:Nat)(x:ByteArray):linesOps [] [] f id c [x]=[⟨3,f,noVid,x⟩]:=by
 unfold linesOps;rw [wk28_alive,wk28_firm];have hE:∀(k:List Int) (a:List VidM),(List.range 1).flatMap (edgesE [] k a)=[]:=by intro k a;show edgesE [] k a 0++[]=[];unfold edgesE;rw [if_neg (fun h=>absurd h.1 (by decide))];rfl
 show _++(List.range 1).flatMap (edgesE [] _ _)=_;rw [hE];have hp:pairs (List.map (textAt []) []) [x]=[]:=by simp [pairs,pairsF]
 rw [hp];simp [keptTo,killsE,addsTo,stepA]
theorem wk28_all:allM []=[]:=by rfl
theorem wk28_plan:planM [] wk28T wk28Id=wk28Ops:=by
 have h:newTo [] wk28T wk28Id 1=newStep (allM []) wk28Id (newTo [] wk28T wk28Id 0) ⟨⟨#[97]⟩,[],[⟨#[120]⟩]⟩:=newTo_succ rfl;have h0:newTo [] wk28T wk28Id 0=[]:=by show edTo [] wk28T wk28Id (allM []).length=[];rw [wk28_all];show killsTo [] wk28T (allM []).length=[];rw [wk28_all];rfl
 show newTo [] wk28T wk28Id 1=_;rw [h,h0,wk28_all];unfold newStep fileOps;rw [if_neg (by decide),wk28_lines];rfl
theorem wk28_good:goodQ wk28Id (depsM wk28Id wk28Ops) wk28Ops=true:=by decide +kernel
theorem wk28_tree:treeGood wk28T=true:=by decide +kernel
theorem wk28_R:planR [] wk28T wk28Id=(wk28Ops,0):=by unfold planR;rw [if_pos wk28_tree,wk28_plan];rfl
def encS28(x:ByteArray):List Value:=[.string x]
def wk28H(b:Nat):List (FileM × Value × Value):=[(⟨⟨#[97]⟩,[],[⟨#[120]⟩]⟩,.slice none 0 0,.slice (some ⟨b,0,none⟩) 1 1)]
theorem wk28_srow(W:World):SRow (W.alloc (.cells #[.string ⟨#[120]⟩] 9)) (.slice (some ⟨W.heap.size,0,none⟩) 1 1) [⟨#[120]⟩]:=
 (show GOwn encS28 1 9 (W.alloc (.cells #[.string ⟨#[120]⟩] 9)) 0 (.slice (some ⟨W.heap.size,0,none⟩) 1 1) [⟨#[120]⟩] from own_lit W 9 [(⟨#[120]⟩:ByteArray)] 0 rfl (by decide) (Nat.zero_le _)).row
theorem wk28_row(W:World)(b:Nat):GRow encF 3 (W.alloc (.cells #[.string ⟨#[97]⟩,.slice none 0 0,.slice (some ⟨b,0,none⟩) 1 1] 71)) (.slice (some ⟨W.heap.size,0,none⟩) 1 1) (wk28H b):=
 (show GOwn encF 3 71 (W.alloc (.cells #[.string ⟨#[97]⟩,.slice none 0 0,.slice (some ⟨b,0,none⟩) 1 1] 71)) 0 (.slice (some ⟨W.heap.size,0,none⟩) 1 1) (wk28H b) from own_lit W 71 (wk28H b) 0 rfl (by show 1≤maxLen;decide) (Nat.zero_le _)).row
theorem wk28_frow(W:World):FRow ((W.alloc (.cells #[.string ⟨#[120]⟩] 9)).alloc (.cells #[.string ⟨#[97]⟩,.slice none 0 0,.slice (some ⟨W.heap.size,0,none⟩) 1 1] 71)) (.slice (some ⟨W.heap.size+1,0,none⟩) 1 1) wk28T:=by
 refine⟨wk28H W.heap.size,rfl,?_,?_⟩
 ·
  have h:=wk28_row (W.alloc (.cells #[.string ⟨#[120]⟩] 9)) W.heap.size;have s:(W.alloc (.cells #[.string ⟨#[120]⟩] 9)).heap.size=W.heap.size+1:=by simp
  rw [s] at h;exact h
 intro x hx;have e:x=(⟨⟨#[97]⟩,[],[⟨#[120]⟩]⟩,.slice none 0 0,.slice (some ⟨W.heap.size,0,none⟩) 1 1):=by simpa [wk28H] using hx
 subst e;exact⟨srow_nil _,(wk28_srow W).over (bnew _)⟩
theorem wk28_I:recI [] wk28T wk28Id=(some ⟨wk28Id,depsM wk28Id wk28Ops,wk28Ops⟩,0):=by unfold recI;rw [if_neg (by decide),wk28_R,if_pos rfl,if_pos wk28_good]
theorem wk28_size:SzT wk28T:=by
 intro f hf;have e:f=⟨⟨#[97]⟩,[],[⟨#[120]⟩]⟩:=by simpa [wk28T] using hf
 subst e;refine⟨by show 1≤maxLen;decide,(show ∀ x∈([]:List ByteArray),x.size≤maxLen from fun x hx=>absurd hx (by simp)),(show ∀ x∈([⟨#[120]⟩]:List ByteArray),x.size≤maxLen from fun x hx => ?_)⟩;have e:x=⟨#[120]⟩:=by simpa using hx
 subst e;show 1≤maxLen;decide
def Wk28Res(w:World)(e:Ending)(w':World):Prop:=∃ pd,∃ nd:Nat,∃ cd po co,e=.returned (.tuple #[patV wk28Id (.slice pd nd cd) (.slice po 3 co),.int .i64 0])∧GRow encOp 8 w' (.slice po 3 co) wk28Ops∧Be w w'
theorem wk28_rec(b:Nat)(tv:Value)(w:World)(hg:GrIs w b [])(ht:FRow w tv wk28T)(htab:Tab w):Calls Tryz.prog 15 #[.pointer (some ⟨b,0,none⟩),.int .u8 1,tv] w (Wk28Res w):=by refine(precord_any b [] 1 wk28T tv w 1 hg wf_nil (by decide) (by decide) (by decide) (by decide) (by decide) (fun f=>by show 0≤1;omega) ht wk28_size htab).mono ?_;intro e w' h;unfold RecRes at h;rw [wk28_next,wk28_I] at h;obtain⟨v,rfl,⟨dv,ov,rfl,hd,ho⟩,hb⟩:=h;obtain⟨pd,cd,e2,_,_,_⟩:=hd.at encPid_len;subst e2;obtain⟨po,co,e1,_,_,_⟩:=ho.at encOp_len;subst e1;exact⟨pd,_,cd,po,co,rfl,ho,hb⟩
theorem works28_any(w:World)(ht:Tab w):Calls Tryz.prog 10 #[] w fun e w'=>e=.returned (.bool true)∧Be w w':=by
 have HT:=Lh ht;clear ht;go_enter Tryz.func10,Tryz.ntmps10;go_upto_region 2 with(first
  | (go_at_call 15;refine(wk28_rec _ _ _ ((show GrIs _ _ [] from⟨bv,be,0,hg⟩).over ((bnew (w:=w1) _).alloc (by simp) _)) (wk28_frow w1) (HT.o.over (bvo hb ((bnew (w:=w1) _).alloc (by simp) _)))).mono ?_;rintro e w2 ⟨pd,nd,cd,po,co,rfl,ho,hb2⟩;have HO:=Lh ho;have HB2:=Lh (bov (bvo hb ((bnew (w:=w1) _).alloc (by simp) _)) (Below.size (bvo hb ((bnew (w:=w1) _).alloc (by simp) _))) hb2);clear ho hb2 hb hg k1 k2 k3;unfold patV;have HP:=Lh (anw w2 #[.int .u8 0,.int .u16 0,.slice none 0 0,.slice none 0 0] 44);have r0:=HP.o.k 0 rfl;have r1:=HP.o.k 1 rfl;have r2:=HP.o.k 2 rfl;have r3:=HP.o.k 3 rfl;have sr:=HP.o.lt;have rf0:=HP.o.free 0;have rf1:=HP.o.free 1;have rf2:=HP.o.free 2;have rf3:=HP.o.free 3)
  | (go_at_call 32;(with_reducible refine(gnew_any _).mono ?_);rintro e w1 ⟨b,bv,be,rfl,k1,k2,k3,hg,hb⟩))
 obtain⟨_,_,e1,c1,c2,hc⟩:=HO.o.at encOp_len;cases e1
 obtain⟨bo,oo,rfl,so,hcl⟩:=hc.resolve_left (by decide);unfold maxLen at c2;have hbn:=bnew (w:=w2) (.cells #[.int .u8 wk28Id.author.toNat,.int .u16 wk28Id.seq.toNat,.slice pd nd cd,.slice (some ⟨bo,oo,none⟩) 3 co] 44);have c3:3≤co:=c1;have x0:(w2.alloc (.cells #[.int .u8 wk28Id.author.toNat,.int .u16 wk28Id.seq.toNat,.slice pd nd cd,.slice (some ⟨bo,oo,none⟩) 3 co] 44)).cell? ⟨bo,oo,none⟩=some (.int .u8 1):=((hcl 0 _ rfl _ hbn)).2 0 _ rfl;have x1:(w2.alloc (.cells #[.int .u8 wk28Id.author.toNat,.int .u16 wk28Id.seq.toNat,.slice pd nd cd,.slice (some ⟨bo,oo,none⟩) 3 co] 44)).cell? ⟨bo,oo+15,none⟩=some (.string ⟨#[97]⟩):=((hcl 1 _ rfl _ hbn)).2 7 _ rfl;have x2:(w2.alloc (.cells #[.int .u8 wk28Id.author.toNat,.int .u16 wk28Id.seq.toNat,.slice pd nd cd,.slice (some ⟨bo,oo,none⟩) 3 co] 44)).cell? ⟨bo,oo+23,none⟩=some (.string ⟨#[120]⟩):=((hcl 2 _ rfl _ hbn)).2 7 _ rfl;have sx:=(hcl 0 _ rfl _ hbn).1;have HB3:=Lh (bvo HB2.o hbn);clear hcl hbn hc;go_wp2;go_ret;exact⟨rvl rfl,HB3.o⟩
end Go.Proofs.YtjccmcgglfncdaaGreatDoor
