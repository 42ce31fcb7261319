/- What is proved: PlanTwo, for every input; of the listed tables the walk needs the powers of ten. -/
import Derived.Test.YtjccmcgglfncdaaGreatDoorTRcR
import Derived.Test.YtjccmcgglfncdaaGreatDoorTLay4
import Derived.Test.YtjccmcgglfncdaaGreatDoorTPgV
set_option linter.unusedVariables false
set_option linter.unusedSimpArgs false
set_option maxRecDepth 100000
set_option maxHeartbeats 40000000
namespace Go.Proofs.YtjccmcgglfncdaaGreatDoor
open Go Go.RowKit
section
variable{a b:ByteArray}{B:Nat}{w:World}
def cmpT(a b:ByteArray):Int:=if ltB a b=true then -1 else if a=b then 0 else 1
theorem cmpT_lt(h:ltB a b=true):cmpT a b = -1:=by unfold cmpT;rw [if_pos h]
theorem cmpT_eq(h:ltB a b=false)(e:a=b):cmpT a b=0:=by unfold cmpT;rw [if_neg (by rw [h];decide),if_pos e]
theorem cmpT_gt(h:ltB a b=false)(e:¬ a=b):cmpT a b=1:=by unfold cmpT;rw [if_neg (by rw [h];decide),if_neg e]
theorem cmpT_neg(a b:ByteArray):cmpT a b<0↔ltB a b=true:=by
 unfold cmpT
 by_cases h:ltB a b=true
 · rw [if_pos h];exact⟨fun _=>h,fun _=>by decide⟩
 rw [if_neg h]
 by_cases e:a=b
 · rw [if_pos e];exact⟨fun q=>absurd q (by decide),fun q=>absurd q h⟩
 rw [if_neg e];exact⟨fun q=>absurd q (by decide),fun q=>absurd q h⟩
theorem swo_text{α:Type}(t:α→ByteArray):Go.Sort.SWO (Go.Proofs.ltOf fun x y:α=>cmpT (t x) (t y)) where
 irrefl x:=by unfold Go.Proofs.ltOf;rw [decide_eq_false_iff_not,cmpT_neg,rcB_irrefl];decide
 trans x y z h1 h2:=by unfold Go.Proofs.ltOf at *;rw [decide_eq_true_eq,cmpT_neg] at *;exact rcB_trans h1 h2
 ntrans x y z h1 h2:=by unfold Go.Proofs.ltOf at *;rw [decide_eq_false_iff_not,cmpT_neg,rcB_iff] at *;exact List.not_lt.2 (List.le_trans (List.not_lt.1 h2) (List.not_lt.1 h1))
attribute [local irreducible] cmpT
structure LaidF where
 f:FileM
 pa:Option Addr
 ca:Nat
 pl:Option Addr
 cl:Nat
instance:Inhabited LaidF:=⟨⟨default,none,0,none,0⟩⟩
def encL(x:LaidF):List Value:=[.string x.f.name,.slice x.pa x.f.also.length x.ca,.slice x.pl x.f.lines.length x.cl]
theorem oneL(x:LaidF):∀ v∈encL x,v.oneCell'=true:=by intro v hv;simp [encL] at hv;rcases hv with rfl|rfl|rfl <;> rfl
theorem slFile:SlT Tryz.prog 27 71 3 64:=slT_of Tryz.underlying27 (by kernel_rfl) (by decide)
def FileAt(w:World)(B:Nat)(x:LaidF):Prop:=GOwn encS1 1 9 w B (.slice x.pa x.f.also.length x.ca) x.f.also∧GOwn encS1 1 9 w B (.slice x.pl x.f.lines.length x.cl) x.f.lines
def FilesL(w:World)(B:Nat)(v:Value)(xs:List LaidF):Prop:=GOwn encL 3 71 w B v xs∧∀ x∈xs,FileAt w B x
def FilesW(w:World)(B:Nat)(v:Value)(t:List FileM):Prop:=∃ xs:List LaidF,xs.map (·.f)=t∧FilesL w B v xs
theorem FilesW.frow{v:Value}{t:List FileM}(h:FilesW w B v t):FRow w v t:=by
 obtain⟨xs,rfl,h2,h3⟩:=h;refine⟨xs.map fun x=>(x.f,.slice x.pa x.f.also.length x.ca,.slice x.pl x.f.lines.length x.cl),by rw [List.map_map];rfl,?_,fun y hy => ?_⟩
 · have:=h2.row;unfold GRow at this;rw [List.flatMap_map,List.length_map];exact this
 obtain⟨x,hx,rfl⟩:=List.mem_map.1 hy;exact⟨srow_of (h3 x hx).1.row,srow_of (h3 x hx).2.row⟩
theorem also_conv{e:TypeId}{p:Option Addr}{c:Nat}{l:List (List UInt8)}(h:GOwn encT 1 e w B (.slice p l.length c) l):GOwn encS1 1 e w B (.slice p (l.map fun t=>(⟨t.toArray⟩:ByteArray)).length c) (l.map fun t=>(⟨t.toArray⟩:ByteArray)):=by
 have e1:l.flatMap encT=(l.map fun t=>(⟨t.toArray⟩:ByteArray)).flatMap encS1:=by rw [List.flatMap_map];rfl
 unfold GOwn at h ⊢;rw [List.length_map,← e1];exact h
theorem isnanS_any(s:ByteArray)(w:World):Calls Tryz.prog 123 #[.string s] w fun e w'=>e=.returned (.bool false)∧w'=w:=by have h:=seq_t (rfl:s=s);go_enter Tryz.func123,Tryz.ntmps123;go_wp2;go_ret;exact⟨by simp,rfl⟩
theorem compT_any(a b:ByteArray)(w:World):Calls Tryz.prog 60 #[.string a,.string b] w fun e w'=>e=.returned (.int .i64 (cmpT a b))∧w'=w:=by
 obtain⟨lt,hlt⟩:∃ q,ltB a b=q:=⟨_,rfl⟩;obtain⟨c,hc⟩:∃ c,cmpT a b=c:=⟨_,rfl⟩;rw [hc];cases lt with
 | true =>rw [cmpT_lt hlt] at hc;subst hc;have hl':Op.bytesLess a.toList b.toList=true:=hlt;clear hlt;go_enter Tryz.func60,Tryz.ntmps60;go_wp2_with (go_at_call 123;(with_reducible refine(isnanS_any _ _).mono ?_);rintro e w' ⟨rfl,rfl⟩);go_ret;exact⟨rfl,rfl⟩
 | false =>
  have hl':Op.bytesLess a.toList b.toList=false:=hlt
  by_cases he:a=b
  · rw [cmpT_eq hlt he] at hc;subst hc;have he':=seq_t he;clear hlt he;go_enter Tryz.func60,Tryz.ntmps60;go_wp2_with (go_at_call 123;(with_reducible refine(isnanS_any _ _).mono ?_);rintro e w' ⟨rfl,rfl⟩);go_ret;exact⟨rfl,rfl⟩
  · rw [cmpT_gt hlt he] at hc;subst hc;have he':=seq_f he;clear hlt he;go_enter Tryz.func60,Tryz.ntmps60;go_wp2_with (go_at_call 123;(with_reducible refine(isnanS_any _ _).mono ?_);rintro e w' ⟨rfl,rfl⟩);go_ret;exact⟨rfl,rfl⟩
def cmpF(x y:LaidF):Int:=cmpT x.f.name y.f.name
theorem treeCmpG(x y:LaidF)(w:World):Calls Tryz.prog 59 #[.agg (encL x).toArray,.agg (encL y).toArray] w fun e w'=>e=.returned (.int .i64 (cmpF x y))∧Grew w w':=by show Calls _ _ #[.agg #[.string x.f.name,.slice x.pa x.f.also.length x.ca,.slice x.pl x.f.lines.length x.cl],.agg #[.string y.f.name,.slice y.pa y.f.also.length y.ca,.slice y.pl y.f.lines.length y.cl]] w _;have HA:=Lh ((anw w #[.string x.f.name,.slice x.pa x.f.also.length x.ca,.slice x.pl x.f.lines.length x.cl] 71).alloc (.cells #[.string y.f.name,.slice y.pa y.f.also.length y.ca,.slice y.pl y.f.lines.length y.cl] 71));have HC:=Lh (an2 w (.cells #[.string x.f.name,.slice x.pa x.f.also.length x.ca,.slice x.pl x.f.lines.length x.cl] 71) #[.string y.f.name,.slice y.pa y.f.also.length y.ca,.slice y.pl y.f.lines.length y.cl] 71);have HB:=Lh (((Grew.refl w).alloc (.cells #[.string x.f.name,.slice x.pa x.f.also.length x.ca,.slice x.pl x.f.lines.length x.cl] 71)).alloc (.cells #[.string y.f.name,.slice y.pa y.f.also.length y.ca,.slice y.pl y.f.lines.length y.cl] 71));go_enter Tryz.func59,Tryz.ntmps59;go_upto_region 1 with fail;generalize (w.alloc (.cells #[.string x.f.name,.slice x.pa x.f.also.length x.ca,.slice x.pl x.f.lines.length x.cl] 71)).alloc (.cells #[.string y.f.name,.slice y.pa y.f.also.length y.ca,.slice y.pl y.f.lines.length y.cl] 71)=w0 at *;obtain⟨c0,sc⟩:=HA.o.c1;obtain⟨d0,sd⟩:=HC.o.c1;go_wp2_with fail;refine(compT_any x.f.name y.f.name _).mono ?_;rintro e w1 ⟨rfl,hg⟩;obtain rfl:=hg.symm;go_wp2;go_ret;exact⟨rfl,HB.o⟩
theorem swoF:Go.Sort.SWO (Go.Proofs.ltOf cmpF):=swo_text fun x:LaidF=>x.f.name
theorem sortFile_any{g cap:Nat}{xs:List LaidF}(h:OwnAt w B 71 3 g xs.length cap (xs.flatMap encL))(hn:xs.length≤1000000000) :
  Calls Tryz.prog 58 #[.slice (some ⟨g,0,none⟩) xs.length cap,.func (.func 59) #[] #[]] w (SortRes cmpF encL 3 71 w B g cap xs):=by
 have hp:Calls Tryz.prog 121 #[.slice (some ⟨g,0,none⟩) xs.length cap,.int .i64 0,.int .i64 xs.length,.int .i64 (Lib.bitLen xs.length:Nat),.func (.func 59) #[] #[]] w (SortRes cmpF encL 3 71 w B g cap xs):=
  sort14_any (P:=Tryz.prog) Tryz.pdqFile (k:=3) (enc:=encL) Tryz.isAgg71 Tryz.sizeOf71 (fun _=>rfl) oneL cmpF swoF 59 (enters_of Tryz.func59 (by kernel_rfl) rfl) (fun x y W=>treeCmpG x y W) h (by omega)
 have HP:=Lh hp;have hl:Calls Tryz.prog 122 #[.int .u64 (xs.length:Int)] w fun e w'=>e=.returned (.int .i64 (Lib.bitLen xs.length:Nat))∧w'=w:=by have h:=Any.bits_Len (Go.Proofs.SlLaysF0.n15.bits Tryz.bitsLen) (xs.length:Int) w (by omega) (by omega);rw [Int.toNat_natCast] at h;exact h
 have HL:=Lh hl;have wr:IntKind.u64.wrap (xs.length:Int)=xs.length:=by simp [IntKind.wrap,IntKind.bits,IntKind.signed];omega
 clear h hp hl;go_enter Tryz.func58,Tryz.ntmps58;go_wp2_with (first|(go_at_call 122;refine HL.o.mono ?_;rintro e w' ⟨rfl,rfl⟩)|(go_at_call 121;refine HP.o.mono ?_;rintro e w' ⟨rfl,hq⟩;have HQ:=Lh hq;clear hq));go_end0;exact⟨rfl,by simpa using HQ.o⟩
theorem sortFile_none(p:Option Addr)(cap:Nat)(w:World) :
  Calls Tryz.prog 58 #[.slice p 0 cap,.func (.func 59) #[] #[]] w fun e w'=>e=.returned (.tuple #[])∧w'=w:=by have hp:∀ lim W,Calls Tryz.prog 121 #[.slice p 0 cap,.int .i64 0,.int .i64 0,.int .i64 lim,.func (.func 59) #[] #[]] W fun e w'=>e=.returned (.tuple #[])∧w'=W:=fun lim W=>AnyF.pdqsortCmpFunc_none (P:=Tryz.prog) Tryz.pdqFile p cap lim _ W;have hl:∀ W,Calls Tryz.prog 122 #[.int .u64 0] W fun e w'=>e=.returned (.int .i64 (Lib.bitLen 0:Nat))∧w'=W:=fun W=>Any.bits_Len (Go.Proofs.SlLaysF0.n15.bits Tryz.bitsLen) 0 W (by omega) (by omega);go_enter Tryz.func58,Tryz.ntmps58;go_wp2_with (first|(go_at_call 122;refine(hl _).mono ?_;rintro e w' ⟨rfl,rfl⟩)|(go_at_call 121;refine(hp _ _).mono ?_;rintro e w' ⟨rfl,rfl⟩));go_end0;exact⟨rfl,rfl⟩
end
section
variable{xs:List LaidF}{L:List PatchM}{B:Nat}{v:Value}{w w':World}
def TreeRes(w:World)(L:List PatchM)(e:Ending)(w':World):Prop:=∃ v t,e=.returned v∧IsTree L t∧FilesW w' w.heap.size v t∧Be w w'
def TrRel(L:List PatchM)(w w2:World)(v3 v11:Value)(wr:World):Prop:=∃(k:Nat) (xs:List LaidF),k≤(allM L).length∧v11=.int .i64 k∧xs.length=k∧Hid (xs.map (·.f)=((allM L).take k).map (fileT L))∧Hid (GOwn encL 3 71 wr w2.heap.size v3 xs)∧Hid (∀ x∈xs,FileAt wr w.heap.size x)∧Hid (Be w2 wr)
theorem all_few{m:Nat}(h:(idsM L).length≤m):(allM L).length≤m:=by have h1:=(allTo_len L (filesM L).length (Nat.le_refl _)).1;have h2:=filesM_len L;unfold allM;omega
theorem tree_sorted(hw:WfG L){ys:List LaidF}(h1:xs.map (·.f)=(allM L).map (fileT L))(hp:ys.Perm xs)(hs:ys.Pairwise fun a b=>¬ cmpF b a<0):IsTree L (ys.map (·.f)):=by
 refine⟨by rw [← h1];exact hp.map _,?_⟩;have hu:(xs.map (·.f)).Pairwise fun a b=>a.name≠b.name:=by rw [h1,List.pairwise_map];exact(unlike_all hw).uniq
 have hu2:(ys.map (·.f)).Pairwise fun a b=>a.name≠b.name:=((hp.map (·.f)).pairwise_iff fun q=>Ne.symm q).2 hu;rw [List.pairwise_map] at hu2 ⊢;refine(hs.and hu2).imp fun {a b} h => ?_;obtain⟨c1,c2⟩:=h;unfold cmpF at c1;rw [cmpT_neg] at c1;exact rcB_total (by simpa using c1) (Ne.symm c2)
theorem FileAt.kept{B':Nat}{x:LaidF}(h:FileAt w B' x)(ho:GOwn encL 3 71 w B v xs)(hg:w.grownBy w' v.ownBlock):FileAt w' B' x:=⟨own_grown h.1 hg (own_apart h.1 ho (by decide)),own_grown h.2 hg (own_apart h.2 ho (by decide))⟩
theorem files_more{B':Nat}(ho:GOwn encL 3 71 w B v xs)(hf:∀ x∈xs,FileAt w B' x){y:LaidF}(hy:FileAt w B' y)(hg:w.grownBy w' v.ownBlock):∀ x∈xs++[y],FileAt w' B' x:=by
 intro x hx;rcases List.mem_append.1 hx with hx|hx
 · exact(hf x hx).kept ho hg
 rw [List.mem_singleton.1 hx];exact hy.kept ho hg
noncomputable def laidF(L:List PatchM)(x:LaidN)(p:Option Addr)(c:Nat):LaidF:=⟨fileT L x.n,x.pa,x.ca,p,c⟩
theorem laidF_enc(L:List PatchM)(x:LaidN)(p:Option Addr)(c n:Nat)(hn:n=(lnSeen (linesM L x.n.file) (relM L x.n.file)).length):encL (laidF L x p c)=[.string x.n.name,.slice x.pa x.n.also.length x.ca,.slice p n c]:=by unfold encL laidF fileT;simp [hn]
theorem laidF_at{n c:Nat}{x:LaidN}{p:Option Addr}(h1:NameAt w B x)(hn:n=(lnSeen (linesM L x.n.file) (relM L x.n.file)).length)(h2:GOwn encS1 1 9 w B (.slice p n c) (lnSeen (linesM L x.n.file) (relM L x.n.file))):FileAt w B (laidF L x p c):=
 ⟨also_conv h1.1,by subst hn;exact h2⟩
theorem name_at{ns:List NameM}(h:Names w B v ns):∃(xs:List LaidN) (a:Option Addr) (cap:Nat),xs.map (·.n)=ns∧v=.slice a ns.length cap∧ns.length≤cap∧cap≤maxLen∧(∀ x∈xs,NameAt w B x)∧(ns.length=0∨∃ b off,a=some ⟨b,off,none⟩∧b<w.heap.size ∧
  ∀ i x,xs[i]? = some x→∀ W,Be w W→b<W.heap.size∧∀ j u,(encN x)[j]? = some u→W.cell? ⟨b,off+i*6+j,none⟩=some u):=by obtain⟨xs,rfl,h2,h3⟩:=h;obtain⟨a,cap,e1,e2,e3,e4⟩:=h2.row.at encN_len;rw [List.length_map];exact⟨xs,a,cap,rfl,e1,e2,e3,h3,e4⟩
theorem NameAt.keep{x:LaidN}(h:NameAt w B x)(hb:Be w w'):NameAt w' B x:=⟨h.1.over hb,h.2.over hb⟩
attribute [local irreducible] allM fileT idsM linesM relM edgesM
theorem rtree_any(b:Nat)(L:List PatchM)(w:World)(hg:GrIs w b L)(hw:WfG L)(hil:(idsM L).length≤65536)(hel:(edgesM L).length≤1000000)(ht:Tab w) :
  Calls Tryz.prog 22 #[.pointer (some ⟨b,0,none⟩)] w (TreeRes w L):=by
 have HG:=Lh hg;have HW:=Lh hw;have HT:=Lh ht;have hal:=all_few hil;have HLL:Hid (∀ f,(linesM L f).length≤65536):=Lh fun f=>lines_few hil;clear hg hw ht;go_enter Tryz.func22,Tryz.ntmps22;go_wp2_with fail;refine(nall_any b L w HG.o HW.o (by omega) HT.o).mono ?_;rintro e w2 ⟨v,rfl,ho,hb⟩;obtain⟨ns,a,cap,hns,rfl,t1,t2,hna,hc⟩:=name_at ho;unfold maxLen at t2;have HNS:=Lh hns;have HNA:=Lh hna;have HC:=Lh hc;have HB2:=Lh hb;have HG2:=Lh (HG.o.over hb);have hs2:=hb.size;clear ho hb hna hc hns;go_wp2;go_loopw [3,11] (fun v3 v11 wr=>TrRel L w w2 v3 v11 wr) (fun _ v11 _=>(allM L).length - (intOf v11).toNat)
 case atStart=>exact⟨0,[],Nat.zero_le _,rfl,rfl,Lh (by rw [List.take_zero];rfl),gown_nil _ _,Lh fun x hx=>absurd hx List.not_mem_nil,Below.refl _ _⟩
 obtain⟨k,xs,hk,rfl,hxk,HX,HO,HF,HB⟩:=hrel;rename World=>wr
 by_cases hlt:k<(allM L).length
 rotate_left
 ·
  obtain rfl:k=(allM L).length:=by omega
  have HXE:Hid (xs.map (·.f)=(allM L).map (fileT L)):=Lh (by rw [HX.o,List.take_length]);have hxl:xs.length≤1000000:=by omega
  clear hxk hlt;rcases own_cases HO.o with⟨hnil,p,c,rfl⟩|⟨hne,g,cp,rfl,hat⟩
  · subst hnil;go_wp2_with fail;refine(sortFile_none p c wr).mono ?_;rintro e w11 ⟨rfl,hw11⟩;obtain rfl:=hw11.symm;go_wp2;go_ret;exact⟨_,[],rfl,tree_sorted (ys:=[]) HW.o HXE.o (List.Perm.refl _) List.Pairwise.nil,⟨[],rfl,HO.o.base hs2,fun x hx=>absurd hx List.not_mem_nil⟩,bov HB2.o hs2 HB.o⟩
  have HAt:=Lh hat;clear hat hne;go_wp2_with fail;refine(sortFile_any HAt.o (by omega)).mono ?_;rintro e w11 ⟨rfl,ys,hp,hs,hat2,hg⟩;have HP:=Lh hp;have HS:=Lh hs;have HO2:Hid (GOwn encL 3 71 w11 w2.heap.size (.slice (some ⟨g,0,none⟩) xs.length cp) ys):=Lh (by unfold GOwn;rw [hp.length_eq];exact hat2.own);have HG11:Hid (wr.grownBy w11 (Value.slice (some ⟨g,0,none⟩) xs.length cp).ownBlock):=Lh hg;clear hp hs hat2 hg;go_wp2;go_ret;exact⟨_,ys.map (·.f),rfl,tree_sorted HW.o HXE.o HP.o (by simpa using HS.o),⟨ys,rfl,HO2.o.base hs2,fun y hy=>(HF.o y (HP.o.mem_iff.1 hy)).kept HO.o HG11.o⟩,bov HB2.o hs2 (bgr HB.o HB.o.size HO.o HG11.o)⟩
 obtain⟨b3,off3,rfl,sb3,hcb⟩:=HC.o.resolve_left (by omega);obtain⟨x,hx⟩:=gol (show k<ns.length by rw [← List.length_map (·.n),HNS.o];exact hlt);have HXk:Hid ((allM L)[k]? = some x.n):=Lh (by rw [← HNS.o,List.getElem?_map,hx];rfl);have HNx:=Lh ((HNA.o x (List.mem_of_getElem? hx)).keep HB.o);have HU:=Lh (hcb k x hx wr HB.o);obtain⟨u0,u1,u2,u3,u4,u5,su⟩:=rc6 HU.o;clear hcb hx;go_upto_region 5 with fail;have HA7:=Lh (anw wr #[.int .u8 x.n.file.pid.author.toNat,.int .u16 x.n.file.pid.seq.toNat,.int .u8 x.n.file.n.toNat,.string x.n.name,.slice x.pa x.n.also.length x.ca,.slice x.pf x.n.flaws.length x.cf] 86);have HB7:=Lh (bnew (w:=wr) (.cells #[.int .u8 x.n.file.pid.author.toNat,.int .u16 x.n.file.pid.seq.toNat,.int .u8 x.n.file.n.toNat,.string x.n.name,.slice x.pa x.n.also.length x.ca,.slice x.pf x.n.flaws.length x.cf] 86));generalize wr.alloc (.cells #[.int .u8 x.n.file.pid.author.toNat,.int .u16 x.n.file.pid.seq.toNat,.int .u8 x.n.file.n.toNat,.string x.n.name,.slice x.pa x.n.also.length x.ca,.slice x.pf x.n.flaws.length x.cf] 86)=w7 at *;clear u0 u1 u2 u3 u4 u5 su;have HBr7:=Lh (bvo HB.o HB7.o);have hsr:=HB.o.size;have hs7:=HB7.o.size;obtain⟨y0,y1,y2,sy⟩:=HA7.o.c3;go_wp2_with fail;refine(lof_any b L x.n.file w7 (HG2.o.over HBr7.o) HW.o hil hel).mono ?_;rintro e w8 ⟨s,rfl,hs8,hS,hb8⟩;have HS:=Lh hS;have HB8:=Lh hb8;have hz8:=hb8.size;clear hS hb8 y0 y1 y2 sy;go_wp2_with fail;refine(slines_any s _ _ w8 HS.o (HLL.o _)).mono ?_;rintro e w9 ⟨v9,rfl,hl9,hb9⟩;obtain⟨p9,c9,rfl⟩:=own_sl hl9;obtain⟨n9,hn9⟩:∃ n,n=(lnSeen (linesM L x.n.file) (relM L x.n.file)).length:=⟨_,rfl⟩;rw [← hn9] at hl9;rw [← hn9];have HN9:=Lh hn9;have hz9:=hb9.size;have HB79:=Lh (bvo HB8.o hb9);have HBr9:=Lh (bvo HB7.o HB79.o);have HY:Hid (FileAt w9 w.heap.size (laidF L x p9 c9)):=Lh (laidF_at (HNx.o.keep HBr9.o) hn9 (hl9.base (by omega)));have HO9:=Lh (HO.o.over HBr9.o);have HF9:Hid (∀ x∈xs,FileAt w9 w.heap.size x):=Lh fun x hx=>⟨(HF.o x hx).1.over HBr9.o,(HF.o x hx).2.over HBr9.o⟩;have HBw9:=Lh (bvo HB.o HBr9.o);have HA9:=Lh (HA7.o.over HB79.o);clear hl9 hb9 hn9 HNx;have y3:=HA9.o.k 3 rfl;have y4:=HA9.o.k 4 rfl;have sy:=HA9.o.lt;have hN9:xs.length+1≤1099511627776:=by omega
 have hB9:w2.heap.size≤w9.heap.size:=by omega
 go_wp2_with (at_builtin;refine apD slFile rfl _ _ rfl w2.heap.size _ _ (drf _) 1 _ _ _ HO9.o rfl rfl rfl rfl hN9 (by decide) hB9 ?_;intro v10 w10 ho10 hg10);go_roundw
 case rel=>exact⟨k+1,xs++[laidF L x p9 c9],hlt,by go_num,by rw [List.length_append,hxk];rfl,Lh (by rw [List.map_append,HX.o,take_succ' HXk.o,List.map_append];rfl),Lh (GOwn.snoc (by rw [laidF_enc L x p9 c9 n9 HN9.o];exact ho10)),Lh (files_more HO9.o HF9.o HY.o hg10),Lh (bgr HBw9.o hB9 HO9.o hg10)⟩
 simp [intOf];omega
end
section
variable{L:List PatchM}{n:NameM}
def encFl(x:FlawM):List Value:=[.int .u8 x.kind.toNat,.int .u8 x.file.pid.author.toNat,.int .u16 x.file.pid.seq.toNat,.int .u8 x.file.n.toNat]
theorem slFlaw:SlT Tryz.prog 125 199 4 8:=slT_of Tryz.underlying125 (by kernel_rfl) (by decide)
theorem flaws_one(L:List PatchM)(c:ByteArray→Nat)(f:VidM):∀ l,(nameOne L c f l).flaws.length≤2
 | []=>by simp only [nameOne];decide
 | x :: l=>by
  simp only [nameOne,List.length_append];have h1:(if(alsoM (x :: l) x.text).length=0 then([]:List UInt8) else [2]).length≤1:=by split <;> decide
  have h2:(if 1<c x.text+1 then([4]:List UInt8) else []).length≤1:=by split <;> decide
  omega
theorem flaws_all(L:List PatchM):∀ k,k≤(filesM L).length→∀ n∈(allTo L k).1,n.flaws.length≤2
 | 0,_=>fun n hn=>by rw [allTo_zero] at hn;cases hn
 | k+1,hk=>fun n hn=>by
  have hf:=List.getElem?_eq_getElem (l:=filesM L) (i:=k) (by omega);rw [allTo_succ hf] at hn;unfold stepN at hn;split at hn
  · exact flaws_all L k (by omega) n hn
  rcases List.mem_append.1 hn with hn|hn
  · exact flaws_all L k (by omega) n hn
  rw [List.mem_singleton.1 hn];exact flaws_one ..
theorem flawsN_few(h:n∈allM L):(flawsN L n).length≤3:=by have:=flaws_all L _ (Nat.le_refl _) n h;unfold flawsN;rw [List.length_append,List.length_map];split <;> simp <;> omega
theorem flat_fewF:∀ {l:List NameM},(∀ n∈l,(flawsN L n).length≤3)→(l.flatMap (flawsN L)).length≤3*l.length
 | [],_=>Nat.le_refl _
 | n :: l,h=>by rw [List.flatMap_cons,List.length_append,List.length_cons];have h1:=h n (List.mem_cons_self ..);have h2:=flat_fewF fun m hm=>h m (List.mem_cons_of_mem n hm);omega
noncomputable def flwTo(L:List PatchM)(k:Nat):List FlawM:=((allM L).take k).flatMap (flawsN L)
theorem flwTo_few(L:List PatchM)(k:Nat):(flwTo L k).length≤3*k:=by have h:=flat_fewF (L:=L) (l:=(allM L).take k) fun n hn=>flawsN_few (List.mem_of_mem_take hn);have:=List.length_take_le k (allM L);unfold flwTo;omega
noncomputable def oddF(L:List PatchM)(n:NameM):List FlawM:=if 0<oddN L n then [⟨1,n.file⟩] else []
def kindsF(n:NameM)(j:Nat):List FlawM:=(n.flaws.take j).map fun k=>⟨k,n.file⟩
theorem flwTo_zero(L:List PatchM):flwTo L 0=[]:=rfl
theorem flwTo_succ{k:Nat}(h:(allM L)[k]? = some n):flwTo L (k+1)=flwTo L k++(oddF L n++kindsF n n.flaws.length):=by unfold flwTo kindsF;rw [take_succ' h,List.flatMap_append,List.take_length];simp [flawsN,oddF]
theorem flwTo_all(L:List PatchM):flwTo L (allM L).length=flawsM L:=by unfold flwTo;rw [List.take_length];rfl
theorem kindsF_zero(n:NameM):kindsF n 0=[]:=rfl
theorem kindsF_succ{j:Nat}{k:UInt8}(h:n.flaws[j]? = some k):kindsF n (j+1)=kindsF n j++[⟨k,n.file⟩]:=by unfold kindsF;rw [take_succ' h,List.map_append];rfl
theorem oddF_yes(h:0<oddN L n):oddF L n=[⟨1,n.file⟩]:=if_pos h
theorem oddF_no(h:¬ 0<oddN L n):oddF L n=[]:=if_neg h
theorem kindsF_few(n:NameM)(j:Nat):(kindsF n j).length≤j:=by unfold kindsF;rw [List.length_map];exact List.length_take_le _ _
def FlRel(L:List PatchM)(w2:World)(v3 v13:Value)(wr:World):Prop:=∃ k:Nat,k≤(allM L).length∧v13=.int .i64 k∧Hid (GOwn encFl 4 199 wr w2.heap.size v3 (flwTo L k))∧Hid (Be w2 wr)
def bxN(x:LaidN):List Value:=[.int .u8 x.n.file.pid.author.toNat,.int .u16 x.n.file.pid.seq.toNat,.int .u8 x.n.file.n.toNat,.string x.n.name,.slice x.pa x.n.also.length x.ca,.slice x.pf x.n.flaws.length x.cf]
def FlkRel(x:LaidN)(pre:List FlawM)(w2:World)(g:Nat)(v3 v36:Value)(wr:World):Prop:=∃ j:Nat,j≤x.n.flaws.length∧v36=.int .i64 j∧Hid (GOwn encFl 4 199 wr w2.heap.size v3 (pre++kindsF x.n j))∧Hid (ArrT wr g 86 (bxN x))∧Hid (Be w2 wr)
def FoCut(x:LaidN)(pre:List FlawM)(w2:World)(g:Nat)(s3:Value)(wx:World):Prop:=Hid (GOwn encFl 4 199 wx w2.heap.size s3 pre)∧Hid (ArrT wx g 86 (bxN x))∧Hid (Be w2 wx)
theorem encU8_len(c:UInt8):(encU8 c).length=1:=rfl
theorem gown_list{α:Type}{enc:α→List Value}{sz:Nat}{e:TypeId}{w:World}{B:Nat}{v:Value}{xs ys:List α}(h:GOwn enc sz e w B v xs)(he:xs=ys):GOwn enc sz e w B v ys:=he▸h
attribute [local irreducible] allM fileT idsM linesM relM edgesM flawsM flwTo kindsF oddF oddN
theorem rflaws_any(b:Nat)(L:List PatchM)(w:World)(hg:GrIs w b L)(hw:WfG L)(hil:(idsM L).length≤65536)(hel:(edgesM L).length≤1000000)(ht:Tab w) :
  Calls Tryz.prog 61 #[.pointer (some ⟨b,0,none⟩)] w (OwnRes encFl 4 199 w (flawsM L)):=by
 have HG:=Lh hg;have HW:=Lh hw;have HT:=Lh ht;have hal:=all_few hil;have HLL:Hid (∀ f,(linesM L f).length≤65536):=Lh fun f=>lines_few hil;clear hg hw ht;go_enter Tryz.func61,Tryz.ntmps61;go_wp2_with fail;refine(nall_any b L w HG.o HW.o (by omega) HT.o).mono ?_;rintro e w2 ⟨v,rfl,ho,hb⟩;obtain⟨ns,a,cap,hns,rfl,t1,t2,hna,hc⟩:=name_at ho;unfold maxLen at t2;have HNS:=Lh hns;have HNA:=Lh hna;have HC:=Lh hc;have HB2:=Lh hb;have HG2:=Lh (HG.o.over hb);have hs2:=hb.size;clear ho hb hna hc hns;go_wp2;go_loopw [3,13] (fun v3 v13 wr=>FlRel L w2 v3 v13 wr) (fun _ v13 _=>(allM L).length - (intOf v13).toNat)
 case atStart=>exact⟨0,Nat.zero_le _,rfl,Lh (by rw [flwTo_zero];exact gown_nil _ _),Below.refl _ _⟩
 obtain⟨k,hk,rfl,HO,HB⟩:=hrel;rename World=>wr
 by_cases hlt:k<(allM L).length
 rotate_left
 ·
  obtain rfl:k=(allM L).length:=by omega
  go_wp2;go_ret;exact⟨_,rfl,gown_list (HO.o.base hs2) (flwTo_all L),bov HB2.o hs2 HB.o⟩
 obtain⟨b3,off3,rfl,sb3,hcb⟩:=HC.o.resolve_left (by omega);obtain⟨x,hx⟩:=gol (show k<ns.length by rw [← List.length_map (·.n),HNS.o];exact hlt);have HXk:Hid ((allM L)[k]? = some x.n):=Lh (by rw [← HNS.o,List.getElem?_map,hx];rfl);have HNx:=Lh (HNA.o x (List.mem_of_getElem? hx)).2;have hfw:x.n.flaws.length≤2:=flaws_all L _ (Nat.le_refl _) x.n (by have:=List.mem_of_getElem? HXk.o;unfold allM at this;exact this);have hft:=flwTo_few L k;have HU:=Lh (hcb k x hx wr HB.o);obtain⟨u0,u1,u2,u3,u4,u5,su⟩:=rc6 HU.o;clear hcb hx;go_upto_region 5 with fail;have HA7:Hid (ArrT (wr.alloc (.cells #[.int .u8 x.n.file.pid.author.toNat,.int .u16 x.n.file.pid.seq.toNat,.int .u8 x.n.file.n.toNat,.string x.n.name,.slice x.pa x.n.also.length x.ca,.slice x.pf x.n.flaws.length x.cf] 86)) wr.heap.size 86 (bxN x)):=Lh (arrT_new wr [.int .u8 x.n.file.pid.author.toNat,.int .u16 x.n.file.pid.seq.toNat,.int .u8 x.n.file.n.toNat,.string x.n.name,.slice x.pa x.n.also.length x.ca,.slice x.pf x.n.flaws.length x.cf] 86);have HB7:=Lh (bnew (w:=wr) (.cells #[.int .u8 x.n.file.pid.author.toNat,.int .u16 x.n.file.pid.seq.toNat,.int .u8 x.n.file.n.toNat,.string x.n.name,.slice x.pa x.n.also.length x.ca,.slice x.pf x.n.flaws.length x.cf] 86));generalize wr.alloc (.cells #[.int .u8 x.n.file.pid.author.toNat,.int .u16 x.n.file.pid.seq.toNat,.int .u8 x.n.file.n.toNat,.string x.n.name,.slice x.pa x.n.also.length x.ca,.slice x.pf x.n.flaws.length x.cf] 86)=w7 at *;clear u0 u1 u2 u3 u4 u5 su;obtain⟨g7,hg7⟩:∃ g,g=wr.heap.size:=⟨_,rfl⟩;rw [← hg7] at HA7 ⊢;have HBr7:=Lh (bvo HB.o HB7.o);have hsr:=HB.o.size;have hs7:=HB7.o.size;have HO7:=Lh (HO.o.over HB7.o);obtain⟨y0,y1,y2,sy⟩:=HA7.o.arr.c3;clear hg7;go_wp2_with fail;refine(lof_any b L x.n.file w7 (HG2.o.over HBr7.o) HW.o hil hel).mono ?_;rintro e w8 ⟨s,rfl,hs8,hS,hb8⟩;have HS:=Lh hS;have HB8:=Lh hb8;have hz8:=hb8.size;clear hS hb8 y0 y1 y2 sy;go_wp2_with fail;refine(slines_any s _ _ w8 HS.o (HLL.o _)).mono ?_;rintro e w9 ⟨v9,rfl,hl9,hb9⟩;have ho9:lnOdd (linesM L x.n.file) (relM L x.n.file)=oddN L x.n:=by unfold oddN;rfl
 rw [ho9];obtain⟨o,ho⟩:∃ o,oddN L x.n=o:=⟨_,rfl⟩;rw [ho];have HOd:=Lh ho;have hz9:=hb9.size;have HB79:=Lh (bvo HB8.o hb9);have HO9:=Lh (HO7.o.over HB79.o);have HBw9:=Lh (bvo HBr7.o HB79.o);have HA9:=Lh (HA7.o.over HB79.o);have hB9:w2.heap.size≤w9.heap.size:=by omega
 obtain⟨p9,c9,rfl⟩:=own_sl hl9;obtain⟨n9,hn9⟩:∃ n,n=(lnSeen (linesM L x.n.file) (relM L x.n.file)).length:=⟨_,rfl⟩;rw [← hn9];clear hl9 hb9 ho ho9 HO HA7 hn9 HO7;obtain⟨y0,y1,y2,sy⟩:=HA9.o.arr.c3;go_upto_if 26 with fail;obtain⟨c,hc⟩:∃ c,decide (0<o)=c:=⟨_,rfl⟩;rw [hc];go_cut [3] (fun s3 wx=>FoCut x (flwTo L k++oddF L x.n) w2 g7 s3 wx)
 case first =>
  cases c with
  | true =>have HD:=Lh (oddF_yes (L:=L) (n:=x.n) (by rw [HOd.o];exact of_decide_eq_true hc));have hN9:(flwTo L k).length+1≤1099511627776:=(by omega);clear hc;go_wp2_with (at_builtin;refine apD slFlaw rfl _ _ rfl w2.heap.size _ _ (drf _) 1 _ _ _ HO9.o rfl rfl rfl rfl hN9 (by decide) hB9 ?_;intro v10 w10 ho10 hg10);go_meet;exact⟨Lh (by rw [HD.o];exact GOwn.snoc (enc:=encFl) (x:=(⟨1,x.n.file⟩:FlawM)) ho10),Lh (HA9.o.grown HO9.o (by decide) hg10),Lh (bgr HBw9.o hB9 HO9.o hg10)⟩
  | false =>have HD:=Lh (oddF_no (L:=L) (n:=x.n) (by rw [HOd.o];exact of_decide_eq_false hc));clear hc;go_wp2;go_meet;exact⟨Lh (by rw [HD.o,List.append_nil];exact HO9.o),HA9,HBw9⟩
 obtain⟨HO10,HA10,HB10⟩:=hcut;rename World=>wc;clear y0 y1 y2 sy HA9 HO9 HBw9 HOd hB9 hc;have y5:=HA10.o.arr.k 5 rfl;have sy:=HA10.o.arr.lt;obtain⟨af,cf,ef,tf1,tf2,hcf⟩:=HNx.o.row.at encU8_len;unfold maxLen at tf2;rw [ef] at y5;have HCf:=Lh hcf;have hod:(oddF L x.n).length≤1:=by unfold oddF;split <;> simp
 clear ef hcf;go_wp2;go_loopw [3,36] (fun v3 v36 wi=>FlkRel x (flwTo L k++oddF L x.n) w2 g7 v3 v36 wi) (fun _ v36 _=>x.n.flaws.length - (intOf v36).toNat)
 case atStart=>exact⟨0,Nat.zero_le _,rfl,Lh (by rw [kindsF_zero,List.append_nil];exact HO10.o),HA10,HB10⟩
 obtain⟨j,hj,rfl,HOj,HAj,HBj⟩:=hrel;rename World=>wj
 by_cases hlj:j<x.n.flaws.length
 ·
  obtain⟨bf,ofs,rfl,sbf,hcb2⟩:=HCf.o.resolve_left (by omega);obtain⟨kd,hkd⟩:=gol hlj;have HKd:=Lh hkd;have z0:wj.cell? ⟨bf,ofs+j,none⟩=some (.int .u8 kd.toNat):=by have h:=(hcb2 j kd hkd wj HBj.o).2 0 _ rfl;rw [Nat.mul_one,Nat.add_zero] at h;exact h
  have sz:=(hcb2 j kd hkd wj HBj.o).1;obtain⟨y0,y1,y2,sy⟩:=HAj.o.arr.c3;have hN:(flwTo L k++oddF L x.n++kindsF x.n j).length+1≤1099511627776:=by rw [List.length_append,List.length_append];have:=kindsF_few x.n j;omega
  have hB:w2.heap.size≤wj.heap.size:=HBj.o.size;clear hcb2 hkd;go_wp2_with (at_builtin;refine apD slFlaw rfl _ _ rfl w2.heap.size _ _ (drf _) 1 _ _ _ HOj.o rfl rfl rfl rfl hN (by decide) hB ?_;intro v11 w11 ho11 hg11);go_roundw
  case rel=>exact⟨j+1,hlj,by go_num,Lh (gown_list (GOwn.snoc (enc:=encFl) (x:=(⟨kd,x.n.file⟩:FlawM)) ho11) (by rw [kindsF_succ HKd.o,List.append_assoc])),Lh (HAj.o.grown HOj.o (by decide) hg11),Lh (bgr HBj.o hB HOj.o hg11)⟩
  simp [intOf];omega
 obtain rfl:j=x.n.flaws.length:=by omega
 go_wp2;go_roundw
 case rel=>exact⟨k+1,hlt,by go_num,Lh (gown_list HOj.o (by rw [flwTo_succ HXk.o,List.append_assoc])),HBj⟩
 simp [intOf];omega
theorem rclean_any(b:Nat)(L:List PatchM)(w:World)(hg:GrIs w b L)(hw:WfG L)(hil:(idsM L).length≤65536)(hel:(edgesM L).length≤1000000)(ht:Tab w) :
  Calls Tryz.prog 23 #[.pointer (some ⟨b,0,none⟩)] w fun e w'=>e=.returned (.bool (decide ((flawsM L).length=0)))∧Be w w':=by
 have HC:=Lh (rflaws_any b L w hg hw hil hel ht);obtain⟨n,hn⟩:∃ n,(flawsM L).length=n:=⟨_,rfl⟩;rw [hn];have HN:=Lh hn;clear hg hw ht hn
 by_cases h0:n=0
 ·
  have d1:((n:Int) == 0)=true:=by simp [h0]
  rw [show decide (n=0)=true from decide_eq_true h0];clear h0;go_enter Tryz.func23,Tryz.ntmps23;go_wp2_with fail;refine HC.o.mono ?_;rintro e w1 ⟨v,rfl,ho,hb⟩;obtain⟨p,c,rfl⟩:=own_sl ho;rw [HN.o];have HB:=Lh hb;clear ho hb;go_wp2;go_ret;exact⟨rfl,HB.o⟩
 have d1:((n:Int) == 0)=false:=by simp [h0]
 rw [show decide (n=0)=false from decide_eq_false h0];clear h0;go_enter Tryz.func23,Tryz.ntmps23;go_wp2_with fail;refine HC.o.mono ?_;rintro e w1 ⟨v,rfl,ho,hb⟩;obtain⟨p,c,rfl⟩:=own_sl ho;rw [HN.o];have HB:=Lh hb;clear ho hb;go_wp2;go_ret;exact⟨rfl,HB.o⟩
end
section
variable{L:List PatchM}{B b be bv m:Nat}
def GrB(w:World)(B b bv be m:Nat)(L:List PatchM):Prop:=B≤b∧B≤bv∧B≤be∧∃ n,n≤m∧GrW w b bv be n (vecM L) (vertM L) (edgeM L)
theorem GrB.over{w W:World}(h:GrB w B b bv be m L)(hb:Be w W):GrB W B b bv be m L:=by obtain⟨h1,h2,h3,n,hn,hG⟩:=h;exact⟨h1,h2,h3,n,hn,hG.over hb⟩
theorem GrB.is{w:World}(h:GrB w B b bv be m L):GrIs w b L:=by obtain⟨_,_,_,n,_,hG⟩:=h;exact⟨bv,be,n,hG⟩
def MgApply(W:World)(B b bv be m:Nat)(L:List PatchM)(p:PatchM)(e:Ending)(w':World):Prop:=e=.returned (.int .i64 0)∧GrB w' B b bv be (m+200) (L++[p])∧Bex b bv be W w'
theorem mg_apply{W:World}(hg:GrB W B b bv be m L)(hw:WfG L)(p:PatchM)(dv ov:Value)(hd:GRow encPid 2 W dv p.deps)(ho:GRow encOp 8 W ov p.ops)(ha:Aside b bv be ov)(hl:p.ops.length≤200)(hm:m≤100000)(hz:∀ o∈p.ops,o.text.size≤maxLen)(hc:checkM L p=0) :
  Calls Tryz.prog 25 #[.pointer (some ⟨b,0,none⟩),patV p.id dv ov] W (MgApply W B b bv be m L p):=by obtain⟨h1,h2,h3,n,hn,hG⟩:=hg;refine(gapply2_L b L hw p dv ov W bv be n hG hd ho ha (by omega) hz (by omega) hc).mono ?_;rintro e w' ⟨rfl,hG',hx⟩;exact⟨rfl,⟨h1,h2,h3,_,by omega,hG'⟩,hx⟩
attribute [local irreducible] planM planR recI depsM idsM linesM edgesM vecM nextM mgP mgC cleanM flawsM allM
end
abbrev TextL:Type:=List UInt8
section
attribute [local irreducible] laterP cmpN cmpLater cmpVid
attribute [local irreducible] ofM namesM idsM
end
section
def restT(s:TextL):Bool→List TextL→List TextL
 | true,r=>r.filter fun y=>y≠s
 | false,[]=>[s]
 | false,y :: r=>if s<y then s :: y :: (r.filter fun z=>z≠s) else if y=s then s :: (r.filter fun z=>z≠s) else y :: restT s false r
def putT(s:TextL)(l:List TextL):List TextL:=restT s false l
attribute [local irreducible] restT putT
attribute [local irreducible] idsM vertM optV filesM deadAt
end
attribute [local irreducible] decB pidB textB
end Go.Proofs.YtjccmcgglfncdaaGreatDoor
namespace Go.Proofs.YtjccmcgglfncdaaGreatDoor
open Go Go.RowKit
section
variable {w7 wi wj : World} {g : Nat} {f : VidM} {nm : ByteArray} {al : List TextL} {fl : List UInt8} {pa : Option Addr} {ca : Nat} {pf : Option Addr} {cf : Nat}
end
attribute [local irreducible] namesM idsM textB putT filesM vertsM
end Go.Proofs.YtjccmcgglfncdaaGreatDoor
