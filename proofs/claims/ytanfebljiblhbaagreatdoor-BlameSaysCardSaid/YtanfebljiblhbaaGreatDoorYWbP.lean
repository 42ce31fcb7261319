/- Part of the proof that of any graph each file's lines, whose they are, and how many lines any author has, are as the document says. No conditions. -/
import Derived.Test.YtanfebljiblhbaaGreatDoorYBlmF
import Derived.Test.YtanfebljiblhbaaGreatDoorYMake
set_option linter.unusedVariables false
set_option linter.unusedSimpArgs false
namespace Go.Proofs.YtanfebljiblhbaaGreatDoor
open Go Go.RowKit
def wbA:PidM:=⟨1,1⟩
def wbB:PidM:=⟨2,1⟩
def wbF:VidM:=⟨wbA,0⟩
def wbOpsP:List OpM:=[⟨1,noVid,noVid,⟨#[]⟩⟩,⟨2,wbF,noVid,⟨#[110]⟩⟩,⟨3,wbF,noVid,⟨#[120]⟩⟩]
def wbOpsQ:List OpM:=[⟨3,wbF,noVid,⟨#[121]⟩⟩,⟨4,⟨wbA,2⟩,⟨wbB,0⟩,⟨#[]⟩⟩]
def wbP:PatchM:=⟨wbA,[],wbOpsP⟩
def wbQ:PatchM:=⟨wbB,[wbA],wbOpsQ⟩
theorem wbDepsP:depsM wbA wbOpsP=[]:=by decide +kernel
theorem wbDepsQ:depsM wbB wbOpsQ=[wbA]:=by decide +kernel
theorem wbGoodP:goodQ wbA (depsM wbA wbOpsP) wbOpsP=true:=by decide +kernel
theorem wbGoodQ:goodQ wbB (depsM wbB wbOpsQ) wbOpsQ=true:=by decide +kernel
def wbG:List PatchM:=[wbP,wbQ]
theorem wbFew:fewL 12 wbG=true:=by decide +kernel
theorem wbBuild:buildM wbG=wbG:=by decide +kernel
theorem wbW:WfG wbG:=by have:=wf_build wbG;rwa [wbBuild] at this
theorem wbIds:(idsM wbG).length≤65536:=by decide +kernel
theorem wbEdges:(edgesM wbG).length≤1000000:=by decide +kernel
def wbX:VidM:=⟨wbA,2⟩
def wbY:VidM:=⟨wbB,0⟩
def wbL:List VertM:=[⟨wbX,3,wbF,⟨#[120]⟩,false⟩,⟨wbY,3,wbF,⟨#[121]⟩,false⟩]
def wbR:List (Nat × Nat):=[(0,1)]
theorem wbLines:linesM wbG wbF=wbL:=by decide +kernel
theorem wbRel:relM wbG wbF=wbR:=by decide +kernel
theorem wbLead{i j:Nat}:Lead wbR i j↔i=0∧j=1:=by
 constructor
 ·
  intro h;obtain⟨k,hk⟩:=h.from';obtain⟨k',hk'⟩:=h.into;have h1:i=0∧k=1:=by simpa [wbR] using hk
  have h2:k'=0∧j=1:=by simpa [wbR] using hk'
  exact⟨h1.1,h2.2⟩
 rintro⟨rfl,rfl⟩;exact .step (by simp [wbR])
theorem wbBefore{i j:Nat}:BeforeP wbR i j↔i=0∧j=1:=by unfold BeforeP;rw [wbLead,wbLead];omega
theorem wbAlive:aliveX wbL wbR=[0,1]:=by unfold aliveX;rw [up_order (L:=wbR) (fun s h=>by simp [wbR] at h;subst h;decide)];decide +kernel
theorem wbBlk:blkM wbR 3 [0,1]=[lineB 0,lineB 1]:=by
 rw [blkM];have h1:piecesM wbR [0,1]=[[0],[1]]:=by
  unfold piecesM;show(piecesTo wbR [0,1] 2).1=_;have:cutB wbR [0,1] 1=true:=by unfold cutB;show(([0]:List Nat).all fun i=>([1]:List Nat).all fun j=>befB wbR i j)=true;have:befB wbR 0 1=true:=befB_iff.2 (wbBefore.2 ⟨rfl,rfl⟩);simp [this]
  unfold piecesTo;unfold piecesTo;simp [piecesTo,this]
 rw [h1];simp [pieceM]
def wbTold:List TLine:=[⟨⟨#[120]⟩,wbX⟩,⟨⟨#[121]⟩,wbY⟩]
theorem wbToldL:toldL (linesM wbG wbF) (relM wbG wbF)=wbTold:=by rw [wbLines,wbRel];unfold toldL lnBlk;rw [wbAlive];show toldAll wbL (blkM wbR 3 [0,1])=_;rw [wbBlk];decide +kernel
theorem wbNames:namesM wbG wbF=[⟨⟨wbA,1⟩,2,wbF,⟨#[110]⟩,false⟩]:=by decide +kernel
theorem wbAlso(x:VertM):alsoM [x] x.text=[]:=by unfold alsoM othersM;simp;decide
theorem wbAll:allM wbG=[⟨wbF,⟨#[110]⟩,[],[]⟩]:=by
 have h1:filesM wbG=[wbF]:=by decide +kernel
 have h2:deadAt wbG wbF=false:=by decide +kernel
 unfold allM;rw [h1];show(allTo wbG 1).1=_;rw [allTo_succ (f:=wbF) (by rw [h1];rfl),allTo_zero];unfold stepN;rw [if_neg (by rw [h2];decide),wbNames];have h3:=wbAlso ⟨⟨wbA,1⟩,2,wbF,⟨#[110]⟩,false⟩;simp only at h3;simp [nameOne,h3]
theorem wbBy:byM wbG 2=1:=by unfold byM byTo;rw [wbAll];show(([⟨wbF,⟨#[110]⟩,[],[]⟩]:List NameM).map fun n=>cntA 2 (ofN wbG n)).sum=1;unfold ofN;simp only [List.map_cons,List.map_nil];rw [wbToldL];decide +kernel
end Go.Proofs.YtanfebljiblhbaaGreatDoor
