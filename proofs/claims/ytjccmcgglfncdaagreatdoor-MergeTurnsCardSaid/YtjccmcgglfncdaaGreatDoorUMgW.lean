/- What is proved: MergeTurns, for every input; of the listed tables the walk needs the powers of ten. -/
import Derived.Test.YtjccmcgglfncdaaGreatDoorURcR
import Derived.Test.YtjccmcgglfncdaaGreatDoorULay4
import Derived.Test.YtjccmcgglfncdaaGreatDoorUMgA
set_option linter.unusedVariables false
set_option linter.unusedSimpArgs false
set_option maxRecDepth 100000
set_option maxHeartbeats 40000000
namespace Go.Proofs.YtjccmcgglfncdaaGreatDoor
open Go Go.RowKit
section
variable{a b:ByteArray}{B:Nat}{w:World}
def cmpT(a b:ByteArray):Int:=if ltB a b=true then -1 else if a=b then 0 else 1
theorem cmpT_lt(h:ltB a b=true):cmpT a b = -1:=by unfold cmpT;rw [if_pos h]
theorem cmpT_eq(h:ltB a b=false)(e:a=b):cmpT a b=0:=by unfold cmpT;rw [if_neg (by rw [h];decide),if_pos e]
theorem cmpT_gt(h:ltB a b=false)(e:¬ a=b):cmpT a b=1:=by unfold cmpT;rw [if_neg (by rw [h];decide),if_neg e]
theorem cmpT_neg(a b:ByteArray):cmpT a b<0↔ltB a b=true:=by
 unfold cmpT
 by_cases h:ltB a b=true
 · rw [if_pos h];exact⟨fun _=>h,fun _=>by decide⟩
 rw [if_neg h]
 by_cases e:a=b
 · rw [if_pos e];exact⟨fun q=>absurd q (by decide),fun q=>absurd q h⟩
 rw [if_neg e];exact⟨fun q=>absurd q (by decide),fun q=>absurd q h⟩
theorem swo_text{α:Type}(t:α→ByteArray):Go.Sort.SWO (Go.Proofs.ltOf fun x y:α=>cmpT (t x) (t y)) where
 irrefl x:=by unfold Go.Proofs.ltOf;rw [decide_eq_false_iff_not,cmpT_neg,rcB_irrefl];decide
 trans x y z h1 h2:=by unfold Go.Proofs.ltOf at *;rw [decide_eq_true_eq,cmpT_neg] at *;exact rcB_trans h1 h2
 ntrans x y z h1 h2:=by unfold Go.Proofs.ltOf at *;rw [decide_eq_false_iff_not,cmpT_neg,rcB_iff] at *;exact List.not_lt.2 (List.le_trans (List.not_lt.1 h2) (List.not_lt.1 h1))
attribute [local irreducible] cmpT
structure LaidF where
 f:FileM
 pa:Option Addr
 ca:Nat
 pl:Option Addr
 cl:Nat
instance:Inhabited LaidF:=⟨⟨default,none,0,none,0⟩⟩
def encL(x:LaidF):List Value:=[.string x.f.name,.slice x.pa x.f.also.length x.ca,.slice x.pl x.f.lines.length x.cl]
theorem oneL(x:LaidF):∀ v∈encL x,v.oneCell'=true:=by intro v hv;simp [encL] at hv;rcases hv with rfl|rfl|rfl <;> rfl
theorem slFile:SlT Tryz.prog 27 71 3 64:=slT_of Tryz.underlying27 (by kernel_rfl) (by decide)
def FileAt(w:World)(B:Nat)(x:LaidF):Prop:=GOwn encS1 1 9 w B (.slice x.pa x.f.also.length x.ca) x.f.also∧GOwn encS1 1 9 w B (.slice x.pl x.f.lines.length x.cl) x.f.lines
def FilesL(w:World)(B:Nat)(v:Value)(xs:List LaidF):Prop:=GOwn encL 3 71 w B v xs∧∀ x∈xs,FileAt w B x
def FilesW(w:World)(B:Nat)(v:Value)(t:List FileM):Prop:=∃ xs:List LaidF,xs.map (·.f)=t∧FilesL w B v xs
theorem FilesW.frow{v:Value}{t:List FileM}(h:FilesW w B v t):FRow w v t:=by
 obtain⟨xs,rfl,h2,h3⟩:=h;refine⟨xs.map fun x=>(x.f,.slice x.pa x.f.also.length x.ca,.slice x.pl x.f.lines.length x.cl),by rw [List.map_map];rfl,?_,fun y hy => ?_⟩
 · have:=h2.row;unfold GRow at this;rw [List.flatMap_map,List.length_map];exact this
 obtain⟨x,hx,rfl⟩:=List.mem_map.1 hy;exact⟨srow_of (h3 x hx).1.row,srow_of (h3 x hx).2.row⟩
theorem also_conv{e:TypeId}{p:Option Addr}{c:Nat}{l:List (List UInt8)}(h:GOwn encT 1 e w B (.slice p l.length c) l):GOwn encS1 1 e w B (.slice p (l.map fun t=>(⟨t.toArray⟩:ByteArray)).length c) (l.map fun t=>(⟨t.toArray⟩:ByteArray)):=by
 have e1:l.flatMap encT=(l.map fun t=>(⟨t.toArray⟩:ByteArray)).flatMap encS1:=by rw [List.flatMap_map];rfl
 unfold GOwn at h ⊢;rw [List.length_map,← e1];exact h
theorem isnanS_any(s:ByteArray)(w:World):Calls Tryz.prog 123 #[.string s] w fun e w'=>e=.returned (.bool false)∧w'=w:=by have h:=seq_t (rfl:s=s);go_enter Tryz.func123,Tryz.ntmps123;go_wp2;go_ret;exact⟨by simp,rfl⟩
theorem compT_any(a b:ByteArray)(w:World):Calls Tryz.prog 60 #[.string a,.string b] w fun e w'=>e=.returned (.int .i64 (cmpT a b))∧w'=w:=by
 obtain⟨lt,hlt⟩:∃ q,ltB a b=q:=⟨_,rfl⟩;obtain⟨c,hc⟩:∃ c,cmpT a b=c:=⟨_,rfl⟩;rw [hc];cases lt with
 | true =>rw [cmpT_lt hlt] at hc;subst hc;have hl':Op.bytesLess a.toList b.toList=true:=hlt;clear hlt;go_enter Tryz.func60,Tryz.ntmps60;go_wp2_with (go_at_call 123;(with_reducible refine(isnanS_any _ _).mono ?_);rintro e w' ⟨rfl,rfl⟩);go_ret;exact⟨rfl,rfl⟩
 | false =>
  have hl':Op.bytesLess a.toList b.toList=false:=hlt
  by_cases he:a=b
  · rw [cmpT_eq hlt he] at hc;subst hc;have he':=seq_t he;clear hlt he;go_enter Tryz.func60,Tryz.ntmps60;go_wp2_with (go_at_call 123;(with_reducible refine(isnanS_any _ _).mono ?_);rintro e w' ⟨rfl,rfl⟩);go_ret;exact⟨rfl,rfl⟩
  · rw [cmpT_gt hlt he] at hc;subst hc;have he':=seq_f he;clear hlt he;go_enter Tryz.func60,Tryz.ntmps60;go_wp2_with (go_at_call 123;(with_reducible refine(isnanS_any _ _).mono ?_);rintro e w' ⟨rfl,rfl⟩);go_ret;exact⟨rfl,rfl⟩
def cmpF(x y:LaidF):Int:=cmpT x.f.name y.f.name
theorem treeCmpG(x y:LaidF)(w:World):Calls Tryz.prog 59 #[.agg (encL x).toArray,.agg (encL y).toArray] w fun e w'=>e=.returned (.int .i64 (cmpF x y))∧Grew w w':=by show Calls _ _ #[.agg #[.string x.f.name,.slice x.pa x.f.also.length x.ca,.slice x.pl x.f.lines.length x.cl],.agg #[.string y.f.name,.slice y.pa y.f.also.length y.ca,.slice y.pl y.f.lines.length y.cl]] w _;have HA:=Lh ((anw w #[.string x.f.name,.slice x.pa x.f.also.length x.ca,.slice x.pl x.f.lines.length x.cl] 71).alloc (.cells #[.string y.f.name,.slice y.pa y.f.also.length y.ca,.slice y.pl y.f.lines.length y.cl] 71));have HC:=Lh (an2 w (.cells #[.string x.f.name,.slice x.pa x.f.also.length x.ca,.slice x.pl x.f.lines.length x.cl] 71) #[.string y.f.name,.slice y.pa y.f.also.length y.ca,.slice y.pl y.f.lines.length y.cl] 71);have HB:=Lh (((Grew.refl w).alloc (.cells #[.string x.f.name,.slice x.pa x.f.also.length x.ca,.slice x.pl x.f.lines.length x.cl] 71)).alloc (.cells #[.string y.f.name,.slice y.pa y.f.also.length y.ca,.slice y.pl y.f.lines.length y.cl] 71));go_enter Tryz.func59,Tryz.ntmps59;go_upto_region 1 with fail;generalize (w.alloc (.cells #[.string x.f.name,.slice x.pa x.f.also.length x.ca,.slice x.pl x.f.lines.length x.cl] 71)).alloc (.cells #[.string y.f.name,.slice y.pa y.f.also.length y.ca,.slice y.pl y.f.lines.length y.cl] 71)=w0 at *;obtain⟨c0,sc⟩:=HA.o.c1;obtain⟨d0,sd⟩:=HC.o.c1;go_wp2_with fail;refine(compT_any x.f.name y.f.name _).mono ?_;rintro e w1 ⟨rfl,hg⟩;obtain rfl:=hg.symm;go_wp2;go_ret;exact⟨rfl,HB.o⟩
theorem swoF:Go.Sort.SWO (Go.Proofs.ltOf cmpF):=swo_text fun x:LaidF=>x.f.name
theorem sortFile_any{g cap:Nat}{xs:List LaidF}(h:OwnAt w B 71 3 g xs.length cap (xs.flatMap encL))(hn:xs.length≤1000000000) :
  Calls Tryz.prog 58 #[.slice (some ⟨g,0,none⟩) xs.length cap,.func (.func 59) #[] #[]] w (SortRes cmpF encL 3 71 w B g cap xs):=by
 have hp:Calls Tryz.prog 121 #[.slice (some ⟨g,0,none⟩) xs.length cap,.int .i64 0,.int .i64 xs.length,.int .i64 (Lib.bitLen xs.length:Nat),.func (.func 59) #[] #[]] w (SortRes cmpF encL 3 71 w B g cap xs):=
  sort14_any (P:=Tryz.prog) Tryz.pdqFile (k:=3) (enc:=encL) Tryz.isAgg71 Tryz.sizeOf71 (fun _=>rfl) oneL cmpF swoF 59 (enters_of Tryz.func59 (by kernel_rfl) rfl) (fun x y W=>treeCmpG x y W) h (by omega)
 have HP:=Lh hp;have hl:Calls Tryz.prog 122 #[.int .u64 (xs.length:Int)] w fun e w'=>e=.returned (.int .i64 (Lib.bitLen xs.length:Nat))∧w'=w:=by have h:=Any.bits_Len (Go.Proofs.SlLaysF0.n15.bits Tryz.bitsLen) (xs.length:Int) w (by omega) (by omega);rw [Int.toNat_natCast] at h;exact h
 have HL:=Lh hl;have wr:IntKind.u64.wrap (xs.length:Int)=xs.length:=by simp [IntKind.wrap,IntKind.bits,IntKind.signed];omega
 clear h hp hl;go_enter Tryz.func58,Tryz.ntmps58;go_wp2_with (first|(go_at_call 122;refine HL.o.mono ?_;rintro e w' ⟨rfl,rfl⟩)|(go_at_call 121;refine HP.o.mono ?_;rintro e w' ⟨rfl,hq⟩;have HQ:=Lh hq;clear hq));go_end0;exact⟨rfl,by simpa using HQ.o⟩
theorem sortFile_none(p:Option Addr)(cap:Nat)(w:World) :
  Calls Tryz.prog 58 #[.slice p 0 cap,.func (.func 59) #[] #[]] w fun e w'=>e=.returned (.tuple #[])∧w'=w:=by have hp:∀ lim W,Calls Tryz.prog 121 #[.slice p 0 cap,.int .i64 0,.int .i64 0,.int .i64 lim,.func (.func 59) #[] #[]] W fun e w'=>e=.returned (.tuple #[])∧w'=W:=fun lim W=>AnyF.pdqsortCmpFunc_none (P:=Tryz.prog) Tryz.pdqFile p cap lim _ W;have hl:∀ W,Calls Tryz.prog 122 #[.int .u64 0] W fun e w'=>e=.returned (.int .i64 (Lib.bitLen 0:Nat))∧w'=W:=fun W=>Any.bits_Len (Go.Proofs.SlLaysF0.n15.bits Tryz.bitsLen) 0 W (by omega) (by omega);go_enter Tryz.func58,Tryz.ntmps58;go_wp2_with (first|(go_at_call 122;refine(hl _).mono ?_;rintro e w' ⟨rfl,rfl⟩)|(go_at_call 121;refine(hp _ _).mono ?_;rintro e w' ⟨rfl,rfl⟩));go_end0;exact⟨rfl,rfl⟩
end
section
variable{xs:List LaidF}{L:List PatchM}{B:Nat}{v:Value}{w w':World}
def TreeRes(w:World)(L:List PatchM)(e:Ending)(w':World):Prop:=∃ v t,e=.returned v∧IsTree L t∧FilesW w' w.heap.size v t∧Be w w'
def TrRel(L:List PatchM)(w w2:World)(v3 v11:Value)(wr:World):Prop:=∃(k:Nat) (xs:List LaidF),k≤(allM L).length∧v11=.int .i64 k∧xs.length=k∧Hid (xs.map (·.f)=((allM L).take k).map (fileT L))∧Hid (GOwn encL 3 71 wr w2.heap.size v3 xs)∧Hid (∀ x∈xs,FileAt wr w.heap.size x)∧Hid (Be w2 wr)
theorem all_few{m:Nat}(h:(idsM L).length≤m):(allM L).length≤m:=by have h1:=(allTo_len L (filesM L).length (Nat.le_refl _)).1;have h2:=filesM_len L;unfold allM;omega
theorem tree_sorted(hw:WfG L){ys:List LaidF}(h1:xs.map (·.f)=(allM L).map (fileT L))(hp:ys.Perm xs)(hs:ys.Pairwise fun a b=>¬ cmpF b a<0):IsTree L (ys.map (·.f)):=by
 refine⟨by rw [← h1];exact hp.map _,?_⟩;have hu:(xs.map (·.f)).Pairwise fun a b=>a.name≠b.name:=by rw [h1,List.pairwise_map];exact(unlike_all hw).uniq
 have hu2:(ys.map (·.f)).Pairwise fun a b=>a.name≠b.name:=((hp.map (·.f)).pairwise_iff fun q=>Ne.symm q).2 hu;rw [List.pairwise_map] at hu2 ⊢;refine(hs.and hu2).imp fun {a b} h => ?_;obtain⟨c1,c2⟩:=h;unfold cmpF at c1;rw [cmpT_neg] at c1;exact rcB_total (by simpa using c1) (Ne.symm c2)
theorem FileAt.kept{B':Nat}{x:LaidF}(h:FileAt w B' x)(ho:GOwn encL 3 71 w B v xs)(hg:w.grownBy w' v.ownBlock):FileAt w' B' x:=⟨own_grown h.1 hg (own_apart h.1 ho (by decide)),own_grown h.2 hg (own_apart h.2 ho (by decide))⟩
theorem files_more{B':Nat}(ho:GOwn encL 3 71 w B v xs)(hf:∀ x∈xs,FileAt w B' x){y:LaidF}(hy:FileAt w B' y)(hg:w.grownBy w' v.ownBlock):∀ x∈xs++[y],FileAt w' B' x:=by
 intro x hx;rcases List.mem_append.1 hx with hx|hx
 · exact(hf x hx).kept ho hg
 rw [List.mem_singleton.1 hx];exact hy.kept ho hg
noncomputable def laidF(L:List PatchM)(x:LaidN)(p:Option Addr)(c:Nat):LaidF:=⟨fileT L x.n,x.pa,x.ca,p,c⟩
theorem laidF_enc(L:List PatchM)(x:LaidN)(p:Option Addr)(c n:Nat)(hn:n=(lnSeen (linesM L x.n.file) (relM L x.n.file)).length):encL (laidF L x p c)=[.string x.n.name,.slice x.pa x.n.also.length x.ca,.slice p n c]:=by unfold encL laidF fileT;simp [hn]
theorem laidF_at{n c:Nat}{x:LaidN}{p:Option Addr}(h1:NameAt w B x)(hn:n=(lnSeen (linesM L x.n.file) (relM L x.n.file)).length)(h2:GOwn encS1 1 9 w B (.slice p n c) (lnSeen (linesM L x.n.file) (relM L x.n.file))):FileAt w B (laidF L x p c):=
 ⟨also_conv h1.1,by subst hn;exact h2⟩
theorem name_at{ns:List NameM}(h:Names w B v ns):∃(xs:List LaidN) (a:Option Addr) (cap:Nat),xs.map (·.n)=ns∧v=.slice a ns.length cap∧ns.length≤cap∧cap≤maxLen∧(∀ x∈xs,NameAt w B x)∧(ns.length=0∨∃ b off,a=some ⟨b,off,none⟩∧b<w.heap.size ∧
  ∀ i x,xs[i]? = some x→∀ W,Be w W→b<W.heap.size∧∀ j u,(encN x)[j]? = some u→W.cell? ⟨b,off+i*6+j,none⟩=some u):=by obtain⟨xs,rfl,h2,h3⟩:=h;obtain⟨a,cap,e1,e2,e3,e4⟩:=h2.row.at encN_len;rw [List.length_map];exact⟨xs,a,cap,rfl,e1,e2,e3,h3,e4⟩
theorem NameAt.keep{x:LaidN}(h:NameAt w B x)(hb:Be w w'):NameAt w' B x:=⟨h.1.over hb,h.2.over hb⟩
attribute [local irreducible] allM fileT idsM linesM relM edgesM
theorem rtree_any(b:Nat)(L:List PatchM)(w:World)(hg:GrIs w b L)(hw:WfG L)(hil:(idsM L).length≤65536)(hel:(edgesM L).length≤1000000)(ht:Tab w) :
  Calls Tryz.prog 22 #[.pointer (some ⟨b,0,none⟩)] w (TreeRes w L):=by
 have HG:=Lh hg;have HW:=Lh hw;have HT:=Lh ht;have hal:=all_few hil;have HLL:Hid (∀ f,(linesM L f).length≤65536):=Lh fun f=>lines_few hil;clear hg hw ht;go_enter Tryz.func22,Tryz.ntmps22;go_wp2_with fail;refine(nall_any b L w HG.o HW.o (by omega) HT.o).mono ?_;rintro e w2 ⟨v,rfl,ho,hb⟩;obtain⟨ns,a,cap,hns,rfl,t1,t2,hna,hc⟩:=name_at ho;unfold maxLen at t2;have HNS:=Lh hns;have HNA:=Lh hna;have HC:=Lh hc;have HB2:=Lh hb;have HG2:=Lh (HG.o.over hb);have hs2:=hb.size;clear ho hb hna hc hns;go_wp2;go_loopw [3,11] (fun v3 v11 wr=>TrRel L w w2 v3 v11 wr) (fun _ v11 _=>(allM L).length - (intOf v11).toNat)
 case atStart=>exact⟨0,[],Nat.zero_le _,rfl,rfl,Lh (by rw [List.take_zero];rfl),gown_nil _ _,Lh fun x hx=>absurd hx List.not_mem_nil,Below.refl _ _⟩
 obtain⟨k,xs,hk,rfl,hxk,HX,HO,HF,HB⟩:=hrel;rename World=>wr
 by_cases hlt:k<(allM L).length
 rotate_left
 ·
  obtain rfl:k=(allM L).length:=by omega
  have HXE:Hid (xs.map (·.f)=(allM L).map (fileT L)):=Lh (by rw [HX.o,List.take_length]);have hxl:xs.length≤1000000:=by omega
  clear hxk hlt;rcases own_cases HO.o with⟨hnil,p,c,rfl⟩|⟨hne,g,cp,rfl,hat⟩
  · subst hnil;go_wp2_with fail;refine(sortFile_none p c wr).mono ?_;rintro e w11 ⟨rfl,hw11⟩;obtain rfl:=hw11.symm;go_wp2;go_ret;exact⟨_,[],rfl,tree_sorted (ys:=[]) HW.o HXE.o (List.Perm.refl _) List.Pairwise.nil,⟨[],rfl,HO.o.base hs2,fun x hx=>absurd hx List.not_mem_nil⟩,bov HB2.o hs2 HB.o⟩
  have HAt:=Lh hat;clear hat hne;go_wp2_with fail;refine(sortFile_any HAt.o (by omega)).mono ?_;rintro e w11 ⟨rfl,ys,hp,hs,hat2,hg⟩;have HP:=Lh hp;have HS:=Lh hs;have HO2:Hid (GOwn encL 3 71 w11 w2.heap.size (.slice (some ⟨g,0,none⟩) xs.length cp) ys):=Lh (by unfold GOwn;rw [hp.length_eq];exact hat2.own);have HG11:Hid (wr.grownBy w11 (Value.slice (some ⟨g,0,none⟩) xs.length cp).ownBlock):=Lh hg;clear hp hs hat2 hg;go_wp2;go_ret;exact⟨_,ys.map (·.f),rfl,tree_sorted HW.o HXE.o HP.o (by simpa using HS.o),⟨ys,rfl,HO2.o.base hs2,fun y hy=>(HF.o y (HP.o.mem_iff.1 hy)).kept HO.o HG11.o⟩,bov HB2.o hs2 (bgr HB.o HB.o.size HO.o HG11.o)⟩
 obtain⟨b3,off3,rfl,sb3,hcb⟩:=HC.o.resolve_left (by omega);obtain⟨x,hx⟩:=gol (show k<ns.length by rw [← List.length_map (·.n),HNS.o];exact hlt);have HXk:Hid ((allM L)[k]? = some x.n):=Lh (by rw [← HNS.o,List.getElem?_map,hx];rfl);have HNx:=Lh ((HNA.o x (List.mem_of_getElem? hx)).keep HB.o);have HU:=Lh (hcb k x hx wr HB.o);obtain⟨u0,u1,u2,u3,u4,u5,su⟩:=rc6 HU.o;clear hcb hx;go_upto_region 5 with fail;have HA7:=Lh (anw wr #[.int .u8 x.n.file.pid.author.toNat,.int .u16 x.n.file.pid.seq.toNat,.int .u8 x.n.file.n.toNat,.string x.n.name,.slice x.pa x.n.also.length x.ca,.slice x.pf x.n.flaws.length x.cf] 86);have HB7:=Lh (bnew (w:=wr) (.cells #[.int .u8 x.n.file.pid.author.toNat,.int .u16 x.n.file.pid.seq.toNat,.int .u8 x.n.file.n.toNat,.string x.n.name,.slice x.pa x.n.also.length x.ca,.slice x.pf x.n.flaws.length x.cf] 86));generalize wr.alloc (.cells #[.int .u8 x.n.file.pid.author.toNat,.int .u16 x.n.file.pid.seq.toNat,.int .u8 x.n.file.n.toNat,.string x.n.name,.slice x.pa x.n.also.length x.ca,.slice x.pf x.n.flaws.length x.cf] 86)=w7 at *;clear u0 u1 u2 u3 u4 u5 su;have HBr7:=Lh (bvo HB.o HB7.o);have hsr:=HB.o.size;have hs7:=HB7.o.size;obtain⟨y0,y1,y2,sy⟩:=HA7.o.c3;go_wp2_with fail;refine(lof_any b L x.n.file w7 (HG2.o.over HBr7.o) HW.o hil hel).mono ?_;rintro e w8 ⟨s,rfl,hs8,hS,hb8⟩;have HS:=Lh hS;have HB8:=Lh hb8;have hz8:=hb8.size;clear hS hb8 y0 y1 y2 sy;go_wp2_with fail;refine(slines_any s _ _ w8 HS.o (HLL.o _)).mono ?_;rintro e w9 ⟨v9,rfl,hl9,hb9⟩;obtain⟨p9,c9,rfl⟩:=own_sl hl9;obtain⟨n9,hn9⟩:∃ n,n=(lnSeen (linesM L x.n.file) (relM L x.n.file)).length:=⟨_,rfl⟩;rw [← hn9] at hl9;rw [← hn9];have HN9:=Lh hn9;have hz9:=hb9.size;have HB79:=Lh (bvo HB8.o hb9);have HBr9:=Lh (bvo HB7.o HB79.o);have HY:Hid (FileAt w9 w.heap.size (laidF L x p9 c9)):=Lh (laidF_at (HNx.o.keep HBr9.o) hn9 (hl9.base (by omega)));have HO9:=Lh (HO.o.over HBr9.o);have HF9:Hid (∀ x∈xs,FileAt w9 w.heap.size x):=Lh fun x hx=>⟨(HF.o x hx).1.over HBr9.o,(HF.o x hx).2.over HBr9.o⟩;have HBw9:=Lh (bvo HB.o HBr9.o);have HA9:=Lh (HA7.o.over HB79.o);clear hl9 hb9 hn9 HNx;have y3:=HA9.o.k 3 rfl;have y4:=HA9.o.k 4 rfl;have sy:=HA9.o.lt;have hN9:xs.length+1≤1099511627776:=by omega
 have hB9:w2.heap.size≤w9.heap.size:=by omega
 go_wp2_with (at_builtin;refine apD slFile rfl _ _ rfl w2.heap.size _ _ (drf _) 1 _ _ _ HO9.o rfl rfl rfl rfl hN9 (by decide) hB9 ?_;intro v10 w10 ho10 hg10);go_roundw
 case rel=>exact⟨k+1,xs++[laidF L x p9 c9],hlt,by go_num,by rw [List.length_append,hxk];rfl,Lh (by rw [List.map_append,HX.o,take_succ' HXk.o,List.map_append];rfl),Lh (GOwn.snoc (by rw [laidF_enc L x p9 c9 n9 HN9.o];exact ho10)),Lh (files_more HO9.o HF9.o HY.o hg10),Lh (bgr HBw9.o hB9 HO9.o hg10)⟩
 simp [intOf];omega
end
section
variable{L:List PatchM}{n:NameM}
def encFl(x:FlawM):List Value:=[.int .u8 x.kind.toNat,.int .u8 x.file.pid.author.toNat,.int .u16 x.file.pid.seq.toNat,.int .u8 x.file.n.toNat]
theorem slFlaw:SlT Tryz.prog 125 199 4 8:=slT_of Tryz.underlying125 (by kernel_rfl) (by decide)
theorem flaws_one(L:List PatchM)(c:ByteArray→Nat)(f:VidM):∀ l,(nameOne L c f l).flaws.length≤2
 | []=>by simp only [nameOne];decide
 | x :: l=>by
  simp only [nameOne,List.length_append];have h1:(if(alsoM (x :: l) x.text).length=0 then([]:List UInt8) else [2]).length≤1:=by split <;> decide
  have h2:(if 1<c x.text+1 then([4]:List UInt8) else []).length≤1:=by split <;> decide
  omega
theorem flaws_all(L:List PatchM):∀ k,k≤(filesM L).length→∀ n∈(allTo L k).1,n.flaws.length≤2
 | 0,_=>fun n hn=>by rw [allTo_zero] at hn;cases hn
 | k+1,hk=>fun n hn=>by
  have hf:=List.getElem?_eq_getElem (l:=filesM L) (i:=k) (by omega);rw [allTo_succ hf] at hn;unfold stepN at hn;split at hn
  · exact flaws_all L k (by omega) n hn
  rcases List.mem_append.1 hn with hn|hn
  · exact flaws_all L k (by omega) n hn
  rw [List.mem_singleton.1 hn];exact flaws_one ..
theorem flawsN_few(h:n∈allM L):(flawsN L n).length≤3:=by have:=flaws_all L _ (Nat.le_refl _) n h;unfold flawsN;rw [List.length_append,List.length_map];split <;> simp <;> omega
theorem flat_fewF:∀ {l:List NameM},(∀ n∈l,(flawsN L n).length≤3)→(l.flatMap (flawsN L)).length≤3*l.length
 | [],_=>Nat.le_refl _
 | n :: l,h=>by rw [List.flatMap_cons,List.length_append,List.length_cons];have h1:=h n (List.mem_cons_self ..);have h2:=flat_fewF fun m hm=>h m (List.mem_cons_of_mem n hm);omega
noncomputable def flwTo(L:List PatchM)(k:Nat):List FlawM:=((allM L).take k).flatMap (flawsN L)
theorem flwTo_few(L:List PatchM)(k:Nat):(flwTo L k).length≤3*k:=by have h:=flat_fewF (L:=L) (l:=(allM L).take k) fun n hn=>flawsN_few (List.mem_of_mem_take hn);have:=List.length_take_le k (allM L);unfold flwTo;omega
noncomputable def oddF(L:List PatchM)(n:NameM):List FlawM:=if 0<oddN L n then [⟨1,n.file⟩] else []
def kindsF(n:NameM)(j:Nat):List FlawM:=(n.flaws.take j).map fun k=>⟨k,n.file⟩
theorem flwTo_zero(L:List PatchM):flwTo L 0=[]:=rfl
theorem flwTo_succ{k:Nat}(h:(allM L)[k]? = some n):flwTo L (k+1)=flwTo L k++(oddF L n++kindsF n n.flaws.length):=by unfold flwTo kindsF;rw [take_succ' h,List.flatMap_append,List.take_length];simp [flawsN,oddF]
theorem flwTo_all(L:List PatchM):flwTo L (allM L).length=flawsM L:=by unfold flwTo;rw [List.take_length];rfl
theorem kindsF_zero(n:NameM):kindsF n 0=[]:=rfl
theorem kindsF_succ{j:Nat}{k:UInt8}(h:n.flaws[j]? = some k):kindsF n (j+1)=kindsF n j++[⟨k,n.file⟩]:=by unfold kindsF;rw [take_succ' h,List.map_append];rfl
theorem oddF_yes(h:0<oddN L n):oddF L n=[⟨1,n.file⟩]:=if_pos h
theorem oddF_no(h:¬ 0<oddN L n):oddF L n=[]:=if_neg h
theorem kindsF_few(n:NameM)(j:Nat):(kindsF n j).length≤j:=by unfold kindsF;rw [List.length_map];exact List.length_take_le _ _
def FlRel(L:List PatchM)(w2:World)(v3 v13:Value)(wr:World):Prop:=∃ k:Nat,k≤(allM L).length∧v13=.int .i64 k∧Hid (GOwn encFl 4 199 wr w2.heap.size v3 (flwTo L k))∧Hid (Be w2 wr)
def bxN(x:LaidN):List Value:=[.int .u8 x.n.file.pid.author.toNat,.int .u16 x.n.file.pid.seq.toNat,.int .u8 x.n.file.n.toNat,.string x.n.name,.slice x.pa x.n.also.length x.ca,.slice x.pf x.n.flaws.length x.cf]
def FlkRel(x:LaidN)(pre:List FlawM)(w2:World)(g:Nat)(v3 v36:Value)(wr:World):Prop:=∃ j:Nat,j≤x.n.flaws.length∧v36=.int .i64 j∧Hid (GOwn encFl 4 199 wr w2.heap.size v3 (pre++kindsF x.n j))∧Hid (ArrT wr g 86 (bxN x))∧Hid (Be w2 wr)
def FoCut(x:LaidN)(pre:List FlawM)(w2:World)(g:Nat)(s3:Value)(wx:World):Prop:=Hid (GOwn encFl 4 199 wx w2.heap.size s3 pre)∧Hid (ArrT wx g 86 (bxN x))∧Hid (Be w2 wx)
theorem encU8_len(c:UInt8):(encU8 c).length=1:=rfl
theorem gown_list{α:Type}{enc:α→List Value}{sz:Nat}{e:TypeId}{w:World}{B:Nat}{v:Value}{xs ys:List α}(h:GOwn enc sz e w B v xs)(he:xs=ys):GOwn enc sz e w B v ys:=he▸h
attribute [local irreducible] allM fileT idsM linesM relM edgesM flawsM flwTo kindsF oddF oddN
theorem rflaws_any(b:Nat)(L:List PatchM)(w:World)(hg:GrIs w b L)(hw:WfG L)(hil:(idsM L).length≤65536)(hel:(edgesM L).length≤1000000)(ht:Tab w) :
  Calls Tryz.prog 61 #[.pointer (some ⟨b,0,none⟩)] w (OwnRes encFl 4 199 w (flawsM L)):=by
 have HG:=Lh hg;have HW:=Lh hw;have HT:=Lh ht;have hal:=all_few hil;have HLL:Hid (∀ f,(linesM L f).length≤65536):=Lh fun f=>lines_few hil;clear hg hw ht;go_enter Tryz.func61,Tryz.ntmps61;go_wp2_with fail;refine(nall_any b L w HG.o HW.o (by omega) HT.o).mono ?_;rintro e w2 ⟨v,rfl,ho,hb⟩;obtain⟨ns,a,cap,hns,rfl,t1,t2,hna,hc⟩:=name_at ho;unfold maxLen at t2;have HNS:=Lh hns;have HNA:=Lh hna;have HC:=Lh hc;have HB2:=Lh hb;have HG2:=Lh (HG.o.over hb);have hs2:=hb.size;clear ho hb hna hc hns;go_wp2;go_loopw [3,13] (fun v3 v13 wr=>FlRel L w2 v3 v13 wr) (fun _ v13 _=>(allM L).length - (intOf v13).toNat)
 case atStart=>exact⟨0,Nat.zero_le _,rfl,Lh (by rw [flwTo_zero];exact gown_nil _ _),Below.refl _ _⟩
 obtain⟨k,hk,rfl,HO,HB⟩:=hrel;rename World=>wr
 by_cases hlt:k<(allM L).length
 rotate_left
 ·
  obtain rfl:k=(allM L).length:=by omega
  go_wp2;go_ret;exact⟨_,rfl,gown_list (HO.o.base hs2) (flwTo_all L),bov HB2.o hs2 HB.o⟩
 obtain⟨b3,off3,rfl,sb3,hcb⟩:=HC.o.resolve_left (by omega);obtain⟨x,hx⟩:=gol (show k<ns.length by rw [← List.length_map (·.n),HNS.o];exact hlt);have HXk:Hid ((allM L)[k]? = some x.n):=Lh (by rw [← HNS.o,List.getElem?_map,hx];rfl);have HNx:=Lh (HNA.o x (List.mem_of_getElem? hx)).2;have hfw:x.n.flaws.length≤2:=flaws_all L _ (Nat.le_refl _) x.n (by have:=List.mem_of_getElem? HXk.o;unfold allM at this;exact this);have hft:=flwTo_few L k;have HU:=Lh (hcb k x hx wr HB.o);obtain⟨u0,u1,u2,u3,u4,u5,su⟩:=rc6 HU.o;clear hcb hx;go_upto_region 5 with fail;have HA7:Hid (ArrT (wr.alloc (.cells #[.int .u8 x.n.file.pid.author.toNat,.int .u16 x.n.file.pid.seq.toNat,.int .u8 x.n.file.n.toNat,.string x.n.name,.slice x.pa x.n.also.length x.ca,.slice x.pf x.n.flaws.length x.cf] 86)) wr.heap.size 86 (bxN x)):=Lh (arrT_new wr [.int .u8 x.n.file.pid.author.toNat,.int .u16 x.n.file.pid.seq.toNat,.int .u8 x.n.file.n.toNat,.string x.n.name,.slice x.pa x.n.also.length x.ca,.slice x.pf x.n.flaws.length x.cf] 86);have HB7:=Lh (bnew (w:=wr) (.cells #[.int .u8 x.n.file.pid.author.toNat,.int .u16 x.n.file.pid.seq.toNat,.int .u8 x.n.file.n.toNat,.string x.n.name,.slice x.pa x.n.also.length x.ca,.slice x.pf x.n.flaws.length x.cf] 86));generalize wr.alloc (.cells #[.int .u8 x.n.file.pid.author.toNat,.int .u16 x.n.file.pid.seq.toNat,.int .u8 x.n.file.n.toNat,.string x.n.name,.slice x.pa x.n.also.length x.ca,.slice x.pf x.n.flaws.length x.cf] 86)=w7 at *;clear u0 u1 u2 u3 u4 u5 su;obtain⟨g7,hg7⟩:∃ g,g=wr.heap.size:=⟨_,rfl⟩;rw [← hg7] at HA7 ⊢;have HBr7:=Lh (bvo HB.o HB7.o);have hsr:=HB.o.size;have hs7:=HB7.o.size;have HO7:=Lh (HO.o.over HB7.o);obtain⟨y0,y1,y2,sy⟩:=HA7.o.arr.c3;clear hg7;go_wp2_with fail;refine(lof_any b L x.n.file w7 (HG2.o.over HBr7.o) HW.o hil hel).mono ?_;rintro e w8 ⟨s,rfl,hs8,hS,hb8⟩;have HS:=Lh hS;have HB8:=Lh hb8;have hz8:=hb8.size;clear hS hb8 y0 y1 y2 sy;go_wp2_with fail;refine(slines_any s _ _ w8 HS.o (HLL.o _)).mono ?_;rintro e w9 ⟨v9,rfl,hl9,hb9⟩;have ho9:lnOdd (linesM L x.n.file) (relM L x.n.file)=oddN L x.n:=by unfold oddN;rfl
 rw [ho9];obtain⟨o,ho⟩:∃ o,oddN L x.n=o:=⟨_,rfl⟩;rw [ho];have HOd:=Lh ho;have hz9:=hb9.size;have HB79:=Lh (bvo HB8.o hb9);have HO9:=Lh (HO7.o.over HB79.o);have HBw9:=Lh (bvo HBr7.o HB79.o);have HA9:=Lh (HA7.o.over HB79.o);have hB9:w2.heap.size≤w9.heap.size:=by omega
 obtain⟨p9,c9,rfl⟩:=own_sl hl9;obtain⟨n9,hn9⟩:∃ n,n=(lnSeen (linesM L x.n.file) (relM L x.n.file)).length:=⟨_,rfl⟩;rw [← hn9];clear hl9 hb9 ho ho9 HO HA7 hn9 HO7;obtain⟨y0,y1,y2,sy⟩:=HA9.o.arr.c3;go_upto_if 26 with fail;obtain⟨c,hc⟩:∃ c,decide (0<o)=c:=⟨_,rfl⟩;rw [hc];go_cut [3] (fun s3 wx=>FoCut x (flwTo L k++oddF L x.n) w2 g7 s3 wx)
 case first =>
  cases c with
  | true =>have HD:=Lh (oddF_yes (L:=L) (n:=x.n) (by rw [HOd.o];exact of_decide_eq_true hc));have hN9:(flwTo L k).length+1≤1099511627776:=(by omega);clear hc;go_wp2_with (at_builtin;refine apD slFlaw rfl _ _ rfl w2.heap.size _ _ (drf _) 1 _ _ _ HO9.o rfl rfl rfl rfl hN9 (by decide) hB9 ?_;intro v10 w10 ho10 hg10);go_meet;exact⟨Lh (by rw [HD.o];exact GOwn.snoc (enc:=encFl) (x:=(⟨1,x.n.file⟩:FlawM)) ho10),Lh (HA9.o.grown HO9.o (by decide) hg10),Lh (bgr HBw9.o hB9 HO9.o hg10)⟩
  | false =>have HD:=Lh (oddF_no (L:=L) (n:=x.n) (by rw [HOd.o];exact of_decide_eq_false hc));clear hc;go_wp2;go_meet;exact⟨Lh (by rw [HD.o,List.append_nil];exact HO9.o),HA9,HBw9⟩
 obtain⟨HO10,HA10,HB10⟩:=hcut;rename World=>wc;clear y0 y1 y2 sy HA9 HO9 HBw9 HOd hB9 hc;have y5:=HA10.o.arr.k 5 rfl;have sy:=HA10.o.arr.lt;obtain⟨af,cf,ef,tf1,tf2,hcf⟩:=HNx.o.row.at encU8_len;unfold maxLen at tf2;rw [ef] at y5;have HCf:=Lh hcf;have hod:(oddF L x.n).length≤1:=by unfold oddF;split <;> simp
 clear ef hcf;go_wp2;go_loopw [3,36] (fun v3 v36 wi=>FlkRel x (flwTo L k++oddF L x.n) w2 g7 v3 v36 wi) (fun _ v36 _=>x.n.flaws.length - (intOf v36).toNat)
 case atStart=>exact⟨0,Nat.zero_le _,rfl,Lh (by rw [kindsF_zero,List.append_nil];exact HO10.o),HA10,HB10⟩
 obtain⟨j,hj,rfl,HOj,HAj,HBj⟩:=hrel;rename World=>wj
 by_cases hlj:j<x.n.flaws.length
 ·
  obtain⟨bf,ofs,rfl,sbf,hcb2⟩:=HCf.o.resolve_left (by omega);obtain⟨kd,hkd⟩:=gol hlj;have HKd:=Lh hkd;have z0:wj.cell? ⟨bf,ofs+j,none⟩=some (.int .u8 kd.toNat):=by have h:=(hcb2 j kd hkd wj HBj.o).2 0 _ rfl;rw [Nat.mul_one,Nat.add_zero] at h;exact h
  have sz:=(hcb2 j kd hkd wj HBj.o).1;obtain⟨y0,y1,y2,sy⟩:=HAj.o.arr.c3;have hN:(flwTo L k++oddF L x.n++kindsF x.n j).length+1≤1099511627776:=by rw [List.length_append,List.length_append];have:=kindsF_few x.n j;omega
  have hB:w2.heap.size≤wj.heap.size:=HBj.o.size;clear hcb2 hkd;go_wp2_with (at_builtin;refine apD slFlaw rfl _ _ rfl w2.heap.size _ _ (drf _) 1 _ _ _ HOj.o rfl rfl rfl rfl hN (by decide) hB ?_;intro v11 w11 ho11 hg11);go_roundw
  case rel=>exact⟨j+1,hlj,by go_num,Lh (gown_list (GOwn.snoc (enc:=encFl) (x:=(⟨kd,x.n.file⟩:FlawM)) ho11) (by rw [kindsF_succ HKd.o,List.append_assoc])),Lh (HAj.o.grown HOj.o (by decide) hg11),Lh (bgr HBj.o hB HOj.o hg11)⟩
  simp [intOf];omega
 obtain rfl:j=x.n.flaws.length:=by omega
 go_wp2;go_roundw
 case rel=>exact⟨k+1,hlt,by go_num,Lh (gown_list HOj.o (by rw [flwTo_succ HXk.o,List.append_assoc])),HBj⟩
 simp [intOf];omega
theorem rclean_any(b:Nat)(L:List PatchM)(w:World)(hg:GrIs w b L)(hw:WfG L)(hil:(idsM L).length≤65536)(hel:(edgesM L).length≤1000000)(ht:Tab w) :
  Calls Tryz.prog 23 #[.pointer (some ⟨b,0,none⟩)] w fun e w'=>e=.returned (.bool (decide ((flawsM L).length=0)))∧Be w w':=by
 have HC:=Lh (rflaws_any b L w hg hw hil hel ht);obtain⟨n,hn⟩:∃ n,(flawsM L).length=n:=⟨_,rfl⟩;rw [hn];have HN:=Lh hn;clear hg hw ht hn
 by_cases h0:n=0
 ·
  have d1:((n:Int) == 0)=true:=by simp [h0]
  rw [show decide (n=0)=true from decide_eq_true h0];clear h0;go_enter Tryz.func23,Tryz.ntmps23;go_wp2_with fail;refine HC.o.mono ?_;rintro e w1 ⟨v,rfl,ho,hb⟩;obtain⟨p,c,rfl⟩:=own_sl ho;rw [HN.o];have HB:=Lh hb;clear ho hb;go_wp2;go_ret;exact⟨rfl,HB.o⟩
 have d1:((n:Int) == 0)=false:=by simp [h0]
 rw [show decide (n=0)=false from decide_eq_false h0];clear h0;go_enter Tryz.func23,Tryz.ntmps23;go_wp2_with fail;refine HC.o.mono ?_;rintro e w1 ⟨v,rfl,ho,hb⟩;obtain⟨p,c,rfl⟩:=own_sl ho;rw [HN.o];have HB:=Lh hb;clear ho hb;go_wp2;go_ret;exact⟨rfl,HB.o⟩
end
section
variable{t:List FileM}{L:List PatchM}{B b be bv m sz:Nat}{α:Type}{e:TypeId}{v:Value}{W w:World}
theorem results_tmp3{fn:Func}{p q r:Tmp}(h:fn.results=#[.tmp p,.tmp q,.tmp r])(tmps:Array Value)(P:Program)(w:World) :
  (results fn tmps).run P w=.ok (.tuple #[tmps.getD p undef,tmps.getD q undef,tmps.getD r undef]) w:=by simp [results,h]
theorem onesPat{ys:List LaidP}(h:∀ y∈ys,(∃ p n c,y.dv=.slice p n c)∧∃ p n c,y.ov=.slice p n c):∀ u∈ys.flatMap encPat,u.oneCell'=true:=by intro u hu;obtain⟨y,hy,hu⟩:=List.mem_flatMap.1 hu;obtain⟨⟨p,n,c,e1⟩,⟨p2,n2,c2,e2⟩⟩:=h y hy;unfold encPat at hu;rw [e1,e2] at hu;simp only [List.mem_cons,List.not_mem_nil,or_false] at hu;rcases hu with rfl|rfl|rfl|rfl <;> rfl
theorem own_slice4{n:Nat}{xs:List Value}(h:w.ownsRow B e sz v n xs):∃ p m c,v=.slice p m c:=by
 rcases h.2 with⟨rfl,_⟩|⟨g,cap,cur,rfl,_⟩
 · exact⟨_,_,_,rfl⟩
 exact⟨_,_,_,rfl⟩
theorem gown_cat{enc:α→List Value}{N:Nat}{xs ys:List α}(h:w.ownsRow N e sz v (xs.length+ys.length) (xs.flatMap enc++ys.flatMap enc)):GOwn enc sz e w N v (xs++ys):=by unfold GOwn;rw [List.length_append,List.flatMap_append];exact h
theorem gown_aside{enc:α→List Value}{xs:List α}(h:GOwn enc sz e w B v xs)(h1:b<B)(h2:bv<B)(h3:be<B):Aside b bv be v:=fun k hk=>by have:=gown_low h hk;exact⟨by omega,by omega,by omega⟩
structure PatsB (w:World) (b bv be:Nat) (v:Value) (xs:List LaidP):Prop where
 row:GRow encPat 4 w v xs
 aside:Aside b bv be v
 each:∀ x∈xs,(GRow encPid 2 w x.dv x.p.deps∧Aside b bv be x.dv)∧(GRow encOp 8 w x.ov x.p.ops∧Aside b bv be x.ov)
theorem PatsB.bex{xs:List LaidP}(h:PatsB w b bv be v xs)(hx:Bex b bv be w W):PatsB W b bv be v xs:=
 ⟨Row.bex h.row h.aside hx,h.aside,fun x hm=>⟨⟨Row.bex (h.each x hm).1.1 (h.each x hm).1.2 hx,(h.each x hm).1.2⟩,⟨Row.bex (h.each x hm).2.1 (h.each x hm).2.2 hx,(h.each x hm).2.2⟩⟩⟩
def GrB(w:World)(B b bv be m:Nat)(L:List PatchM):Prop:=B≤b∧B≤bv∧B≤be∧∃ n,n≤m∧GrW w b bv be n (vecM L) (vertM L) (edgeM L)
theorem GrB.over(h:GrB w B b bv be m L)(hb:Be w W):GrB W B b bv be m L:=by obtain⟨h1,h2,h3,n,hn,hG⟩:=h;exact⟨h1,h2,h3,n,hn,hG.over hb⟩
theorem GrB.is(h:GrB w B b bv be m L):GrIs w b L:=by obtain⟨_,_,_,n,_,hG⟩:=h;exact⟨bv,be,n,hG⟩
def MgApply(W:World)(B b bv be m:Nat)(L:List PatchM)(p:PatchM)(e:Ending)(w':World):Prop:=e=.returned (.int .i64 0)∧GrB w' B b bv be (m+200) (L++[p])∧Bex b bv be W w'
theorem mg_apply(hg:GrB W B b bv be m L)(hw:WfG L)(p:PatchM)(dv ov:Value)(hd:GRow encPid 2 W dv p.deps)(ho:GRow encOp 8 W ov p.ops)(ha:Aside b bv be ov)(hl:p.ops.length≤200)(hm:m≤100000)(hz:∀ o∈p.ops,o.text.size≤maxLen)(hc:checkM L p=0) :
  Calls Tryz.prog 25 #[.pointer (some ⟨b,0,none⟩),patV p.id dv ov] W (MgApply W B b bv be m L p):=by obtain⟨h1,h2,h3,n,hn,hG⟩:=hg;refine(gapply2_L b L hw p dv ov W bv be n hG hd ho ha (by omega) hz (by omega) hc).mono ?_;rintro e w' ⟨rfl,hG',hx⟩;exact⟨rfl,⟨h1,h2,h3,_,by omega,hG'⟩,hx⟩
def MgRel(w0:World)(B b bv be m:Nat)(L P:List PatchM)(v:Value)(wr:World):Prop:=∃ k:Nat,k≤P.length∧v=.int .i64 k∧Hid (GrB wr B b bv be (m+200*k) (L++P.take k))∧Hid (Bex b bv be w0 wr)
theorem ids_nil:(idsM []).length=0:=rfl
theorem edges_nil:(edgesM []).length=0:=rfl
theorem lines_nil(f:VidM):(linesM [] f).length=0:=rfl
theorem mgC_eq(L:List PatchM)(t:List FileM)(a:UInt8):mgC L t a=(recI L t (nextM L a)).2:=rfl
theorem mgP_eq(L:List PatchM)(t:List FileM)(a:UInt8):mgP L t a=(recI L t (nextM L a)).1.toList:=rfl
theorem mg1_eq(t:List FileM):mg1 t=(recI [] t (nextM [] 1)).1.toList:=rfl
theorem mg1_check(ht:treeGood t=true)(k:Nat)(p:PatchM)(h:(mg1 t)[k]? = some p):checkM ([]++(mg1 t).take k) p=0∧WfG ([]++(mg1 t).take k)∧p.ops.length≤200:=by
 have hl:=mg1_len ht;have hk:=(List.getElem?_eq_some_iff.1 h).1;have e0:k=0:=by omega
 subst e0;rw [List.take_zero,List.append_nil];rcases (mg1_is ht).one with e|⟨q,e,c,_,l,_⟩
 · unfold mg1 at h;rw [e] at h;simp at h
 unfold mg1 at h;rw [e] at h;rw [← (Option.some.inj h:q=p)];exact⟨c,wf_nil,l⟩
theorem mg_small{a:UInt8}(h:SideIs L t a)(hz:SzT t):∀ p∈mgP L t a,∀ o∈p.ops,o.text.size≤maxLen:=by
 intro p hp o ho;rcases h.one with e|⟨q,e,_,_,_,s⟩
 · rw [e] at hp;exact absurd hp List.not_mem_nil
 rw [e] at hp;rw [List.mem_singleton.1 hp] at ho;exact s o ho maxLen fun f hf=>⟨(hz f hf).1,(hz f hf).2.2⟩
theorem mg1_small(ht:treeGood t=true)(hz:SzT t):∀ p∈mg1 t,∀ o∈p.ops,o.text.size≤maxLen:=mg_small (mg1_is ht) hz
theorem mg_ids(n:Nat)(hl:L.length≤n)(hw:WfG L):(idsM L).length≤200*n:=by refine Nat.le_trans (setS_few _) (Nat.le_trans (idsOf_few L 200 (wf_len hw)) (Nat.mul_le_mul_left _ hl))
theorem mg_edges(n:Nat)(hl:L.length≤n)(hw:WfG L):(edgesM L).length≤200*n:=by refine Nat.le_trans (setS_few _) (Nat.le_trans (edgesOf_few L 200 (wf_len hw)) (Nat.mul_le_mul_left _ hl))
theorem mg_lines(L:List PatchM)(f:VidM):(linesM L f).length≤(idsM L).length:=by unfold linesM ofM vertsM;refine Nat.le_trans (List.length_filter_le _ _) ?_;rw [List.length_map];exact Nat.le_refl _
theorem bex_low{w0 w1:World}(h:Be w0 w)(hx:Bex b bv be w w1)(h1:w0.heap.size≤b)(h2:w0.heap.size≤bv)(h3:w0.heap.size≤be):Be w0 w1:=
 h.trans ⟨hx.os,hx.tape,hx.output,hx.size,fun k hk=>hx.block k (Nat.lt_of_lt_of_le hk h.size) (by omega) (by omega) (by omega)⟩
theorem PatsW.over{l:List PatchM}(h:PatsW w B v l)(hb:Be w W):PatsW W B v l:=by obtain⟨xs,h1,h2,h3⟩:=h;exact⟨xs,h1,h2.over hb,fun x hx=>⟨(h3 x hx).1.over hb,(h3 x hx).2.over hb⟩⟩
theorem own_cells{enc:α→List Value}{xs:List α}(h:GOwn enc sz e w B v xs):∃ p c,v=.slice p xs.length c:=by obtain⟨p,c,e⟩:=own_sl h;exact⟨p,c,e⟩
noncomputable def mgL2(ta tb tc:List FileM):List PatchM:=mg1 ta++(mgP (mg1 ta) tb 2++mgP (mg1 ta) tc 3)
def MgLong(ta tb tc:List FileM):Prop:=mgC [] ta 1=3∨mgC (mg1 ta) tb 2=3∨mgC (mg1 ta) tc 3=3
def ThreeRes(w:World)(ta tb tc:List FileM)(e:Ending)(w':World):Prop:=
 (MgLong ta tb tc∧e=.returned (.tuple #[.slice none 0 0,.bool false,.int .i64 3])∧Be w w') ∨
 (¬ MgLong ta tb tc∧∃ v t,e=.returned (.tuple #[v,.bool (cleanM (mgL2 ta tb tc)),.int .i64 0])∧IsTree (mgL2 ta tb tc) t∧FRow w' v t∧Be w w')
attribute [local irreducible] planM planR recI depsM idsM linesM edgesM vecM nextM mgP mgC mg1 cleanM flawsM allM
theorem three_any(va vb vc:Value)(ta tb tc:List FileM)(w:World)(ha:FRow w va ta)(hb:FRow w vb tb)(hc:FRow w vc tc)(sa:SzT ta)(sb:SzT tb)(sc:SzT tc)(ga:treeGood ta=true)(gb:treeGood tb=true)(gc:treeGood tc=true)(htab:Tab w) :
  Calls Tryz.prog 29 #[va,vb,vc] w (ThreeRes w ta tb tc):=by
 obtain⟨a1,c1,e1,_,_,_,_⟩:=ha.form;obtain⟨a2,c2,e2,_,_,_,_⟩:=hb.form;obtain⟨a3,c3,e3,_,_,_,_⟩:=hc.form;obtain⟨n1,hn1⟩:∃ n,ta.length=n:=⟨_,rfl⟩;obtain⟨n2,hn2⟩:∃ n,tb.length=n:=⟨_,rfl⟩;obtain⟨n3,hn3⟩:∃ n,tc.length=n:=⟨_,rfl⟩;rw [hn1] at e1;rw [hn2] at e2;rw [hn3] at e3;subst e1 e2 e3;have HA:=Lh ha;have HBt:=Lh hb;have HC:=Lh hc;have SA:=Lh sa;have SB:=Lh sb;have SC:=Lh sc;have GA:=Lh ga;have GB:=Lh gb;have GC:=Lh gc;have HT:=Lh htab;clear ha hb hc sa sb sc ga gb gc htab hn1 hn2 hn3;go_enter Tryz.func29,Tryz.ntmps29;go_upto_region 2 with fail;have HX:=Lh (anw w #[.slice a1 n1 c1,.slice a2 n2 c2,.slice a3 n3 c3] 27);have HB1:=Lh (bnew (w:=w) (.cells #[.slice a1 n1 c1,.slice a2 n2 c2,.slice a3 n3 c3] 27));obtain⟨g,hg⟩:∃ g,w.heap.size=g:=⟨_,rfl⟩;generalize w.alloc (.cells #[.slice a1 n1 c1,.slice a2 n2 c2,.slice a3 n3 c3] 27)=w1 at *;rw [hg] at HX ⊢;clear hg;go_wp2;go_loopw [28] (fun v28 wr=>∃ k:Nat,k≤3∧v28=.int .i64 k∧Hid (Be w1 wr)) (fun v28 _=>3 - (intOf v28).toNat)
 case atStart=>exact⟨0,by omega,rfl,Below.refl _ _⟩
 obtain⟨k,hk,rfl,HBl⟩:=hrel;rename World=>wr;have HXr:=Lh (HX.o.over HBl.o)
 by_cases hlt:k<3
 ·
  obtain⟨vt,tt,hcell,HF,HS,HGd⟩:∃(vt:Value) (tt:List FileM),wr.cell? ⟨g,k,none⟩=some vt∧Hid (FRow wr vt tt)∧Hid (SzT tt)∧Hid (treeGood tt=true):=by
   have hbl:=bvo HB1.o HBl.o;rcases (by omega:k=0∨k=1∨k=2) with rfl|rfl|rfl
   · exact⟨_,ta,HXr.o.k 0 rfl,HA.o.over hbl,SA,GA⟩
   · exact⟨_,tb,HXr.o.k 1 rfl,HBt.o.over hbl,SB,GB⟩
   exact⟨_,tc,HXr.o.k 2 rfl,HC.o.over hbl,SC,GC⟩
  have sx:=HXr.o.lt;have HGo:=Lh (good_any vt tt wr HF.o HS.o);rw [HGd.o] at HGo;go_wp2_with fail;refine HGo.o.mono ?_;rintro e w2 ⟨rfl,hb2⟩;have HB2:=Lh (bvo HBl.o hb2);clear hb2;go_wp2;go_roundw
  case rel=>exact⟨k+1,hlt,by go_num,HB2⟩
  simp [intOf];omega
 obtain rfl:k=3:=by omega
 have HBr:=Lh (bvo HB1.o HBl.o);clear HXr HBl HX hlt hk;go_wp2_with fail;refine(gnew_any wr).mono ?_;rintro e w3 ⟨b,bv,be,rfl,k1,k2,k3,hG,hb3⟩;obtain⟨B0,hB0⟩:∃ B,wr.heap.size=B:=⟨_,rfl⟩;have hsr:=HBr.o.size;have hs3:=hb3.size;rw [hB0] at k1 k2 k3 hsr hs3;have HG3:Hid (GrB w3 B0 b bv be 0 []):=Lh ⟨k1,k2,k3,0,Nat.le_refl _,hG⟩;have lb1:=hG.arr.lt;have lb2:=hG.verts.lt;have lb3:=hG.edges.lt;have HB3:=Lh (bvo HBr.o hb3);clear hG hb3;have HS1:=Lh (side_any b [] 1 ta (.slice a1 n1 c1) w3 1 HG3.o.is wf_nil (by rw [ids_nil];decide) (by decide) (by decide) (by decide) (by rw [edges_nil];decide) (fun f=>by rw [lines_nil];decide) (HA.o.over HB3.o) SA.out (HT.o.over HB3.o));rw [nextF_eq] at HS1;go_wp2_with fail;refine HS1.o.mono ?_;rintro e w4 ⟨v4,rfl,hp4,hb4⟩;have hC1:(recI [] ta (nextM [] 1)).2=mgC [] ta 1:=(mgC_eq _ _ _).symm;have hP1:(recI [] ta (nextM [] 1)).1.toList=mg1 ta:=(mg1_eq _).symm;rw [hP1] at hp4;rw [hC1];have HS1i:=Lh (mg1_is GA.out);obtain⟨xs,hxs,hxo,hxe⟩:=hp4;have HPB:Hid (PatsB w4 b bv be v4 xs):=Lh ⟨hxo.row,gown_aside hxo (by omega) (by omega) (by omega),fun x hx=>⟨⟨(hxe x hx).1.row,gown_aside (hxe x hx).1 (by omega) (by omega) (by omega)⟩,⟨(hxe x hx).2.row,gown_aside (hxe x hx).2 (by omega) (by omega) (by omega)⟩⟩⟩;have HXs:=Lh hxs;have HG4:=Lh (HG3.o.over hb4);have HB4:=Lh (bvo HB3.o hb4);have hs34:=hb4.size;obtain⟨p4,q4,e4⟩:=own_sl hxo;obtain⟨n4,hn4⟩:∃ n,xs.length=n:=⟨_,rfl⟩;rw [hn4] at e4;subst e4;have HN4:Hid ((mg1 ta).length=n4):=Lh (by rw [← hxs,List.length_map,hn4]);have hn4l:n4≤1:=by have:=mg1_len GA.out;have:=HN4.o;omega
 clear hxs hxo hxe hb4 hn4 hC1 hP1 HS1 HG3;obtain⟨cc1,hcc1⟩:∃ c,mgC [] ta 1=c:=⟨_,rfl⟩;rw [hcc1];go_wp2_with fail;have HCh1:Hid (∀(k:Nat) (p:PatchM),(mg1 ta)[k]? = some p→checkM ([]++(mg1 ta).take k) p=0∧WfG ([]++(mg1 ta).take k)∧p.ops.length≤200):=Lh (mg1_check GA.out);have HZ1:Hid (∀ p∈mg1 ta,∀ o∈p.ops,o.text.size≤maxLen):=Lh (mg1_small GA.out SA.out);have HLx:Hid (xs.length=n4):=Lh (by rw [← HN4.o,← HXs.o,List.length_map]);go_loopw [45] (fun vS wr=>MgRel w4 B0 b bv be 0 [] (mg1 ta) vS wr) (fun vS _=>n4 - (intOf vS).toNat)
 case atStart=>exact⟨0,Nat.zero_le _,rfl,Lh (by rw [List.take_zero,List.append_nil];exact HG4.o),Lh (bex_refl _ _ _ _)⟩
 obtain⟨k,hk,rfl,HGr,HBx⟩:=hrel;rename World=>w5;rw [HN4.o] at hk
 by_cases hlt:k<n4
 ·
  have HPr:=Lh (HPB.o.bex HBx.o);obtain⟨x,hx⟩:=gol (xs:=xs) (i:=k) (by have:=HLx.o;omega);have hm:=List.mem_of_getElem? hx;obtain⟨⟨hd,had⟩,⟨ho,hao⟩⟩:=HPr.o.each x hm;have HPx:Hid ((mg1 ta)[k]? = some x.p):=Lh (by rw [← HXs.o,List.getElem?_map,hx];rfl);have HCk:=Lh (HCh1.o k x.p HPx.o);obtain⟨_,_,e9,_,_,hc9⟩:=HPr.o.row.at encPat_len;obtain⟨e91,e92,e93⟩:=Value.slice.inj e9;subst e91 e93;clear e9 e92;obtain⟨bx,ox,rfl,sx,hcx⟩:=hc9.resolve_left (by have:=HLx.o;omega);obtain⟨pd,cd,ed,_,_,_⟩:=hd.at encPid_len;obtain⟨po,co,eo,_,_,_⟩:=ho.at encOp_len;have f0:w5.cell? ⟨bx,ox+k*4,none⟩=some (.int .u8 x.p.id.author.toNat):=(hcx k x hx w5 (Below.refl _ _)).2 0 _ rfl;have f1:w5.cell? ⟨bx,ox+k*4+1,none⟩=some (.int .u16 x.p.id.seq.toNat):=(hcx k x hx w5 (Below.refl _ _)).2 1 _ rfl;have f2:w5.cell? ⟨bx,ox+k*4+2,none⟩=some x.dv:=(hcx k x hx w5 (Below.refl _ _)).2 2 _ rfl;have f3:w5.cell? ⟨bx,ox+k*4+3,none⟩=some x.ov:=(hcx k x hx w5 (Below.refl _ _)).2 3 _ rfl;obtain⟨nd,hnd⟩:∃ n,x.p.deps.length=n:=⟨_,rfl⟩;obtain⟨no,hno⟩:∃ n,x.p.ops.length=n:=⟨_,rfl⟩;rw [hnd] at ed;rw [hno] at eo;rw [ed] at hd f2;rw [eo] at ho hao f3;have HD:=Lh hd;have HO:=Lh ho;have HAo:=Lh hao;have HZx:Hid (∀ o∈x.p.ops,o.text.size≤maxLen):=Lh (HZ1.o x.p (by have:=List.mem_of_getElem? HPx.o;exact this));clear hcx hc9 hx hm hd had ho hao ed eo hnd hno HPr;go_upto_region 12 with fail;have HPb:=Lh (anw w5 #[.int .u8 x.p.id.author.toNat,.int .u16 x.p.id.seq.toNat,.slice pd nd cd,.slice po no co] 44);have HBn:=Lh (bnew (w:=w5) (.cells #[.int .u8 x.p.id.author.toNat,.int .u16 x.p.id.seq.toNat,.slice pd nd cd,.slice po no co] 44));generalize w5.alloc (.cells #[.int .u8 x.p.id.author.toNat,.int .u16 x.p.id.seq.toNat,.slice pd nd cd,.slice po no co] 44)=wn at *;clear f0 f1 f2 f3 sx;have HAp:=Lh (mg_apply (HGr.o.over HBn.o) HCk.o.2.1 x.p (.slice pd nd cd) (.slice po no co) (HD.o.over HBn.o) (HO.o.over HBn.o) HAo.o HCk.o.2.2 (by omega) HZx.o HCk.o.1);unfold patV at HAp;obtain⟨p0,p1,p2,p3,sp⟩:=HPb.o.c4;go_wp2_with fail;refine HAp.o.mono ?_;rintro e wm ⟨rfl,hgm,hxm⟩;have HGm:Hid (GrB wm B0 b bv be (0+200*(k+1)) ([]++(mg1 ta).take (k+1))):=Lh (by have e9:[]++(mg1 ta).take (k+1)=[]++(mg1 ta).take k++[x.p]:=(by rw [take_one HPx.o,List.append_assoc]);rw [e9,Nat.mul_add,Nat.mul_one,← Nat.add_assoc];exact hgm);have HXm:=Lh ((HBx.o.over HBn.o).trans hxm);clear hgm hxm p0 p1 p2 p3 sp;go_wp2;go_roundw
  case rel=>exact⟨k+1,by rw [HN4.o];exact hlt,by go_num,HGm,HXm⟩
  simp [intOf];omega
 obtain rfl:n4=k:=by omega
 have HGe:Hid (GrB w5 B0 b bv be (0+200*n4) ([]++(mg1 ta))):=Lh (by have h:=HGr.o;rw [List.take_of_length_le (by rw [HN4.o];exact Nat.le_refl _)] at h;exact h);clear hk hlt HGr;have HGe2:Hid (GrB w5 B0 b bv be 200 (mg1 ta)):=Lh (by obtain⟨q1,q2,q3,nn,hnn,hGG⟩:=HGe.o;rw [List.nil_append] at hGG;exact⟨q1,q2,q3,nn,by omega,hGG⟩);have HB5:Hid (Be w w5):=Lh (bex_low HB4.o HBx.o (by omega) (by omega) (by omega));have hs45:=HBx.o.size;clear HGe HBx HPB HLx HXs HG4
 by_cases hc3:cc1=3
 · have HLg:Hid (MgLong ta tb tc):=Lh (.inl (by rw [hcc1];exact hc3));have HSo:Hid (sideOk cc1=false):=Lh (by rw [hc3];rfl);rw [HSo.o];clear hc3 hcc1;go_wp2_with fail;refine bodyPost_ret (results_tmp3 rfl _ _ _) rfl ?_;exact .inl ⟨HLg.o,rfl,HB5.o⟩
 have HSo:Hid (sideOk cc1=true):=Lh (by rcases HS1i.o.code with q|q|q <;> rw [hcc1] at q <;> first|exact absurd q hc3|(rw [q];rfl));have HNc:Hid (mgC [] ta 1≠3):=Lh (by rw [hcc1];exact hc3);rw [HSo.o];clear hc3 hcc1;have HW1:=Lh (mg1_wf GA.out);have HI1:Hid ((idsM (mg1 ta)).length≤200):=Lh (mg_ids 1 (mg1_len GA.out) HW1.o);have HE1:Hid ((edgesM (mg1 ta)).length≤200):=Lh (mg_edges 1 (mg1_len GA.out) HW1.o);have HSd2:=Lh (mg_side GA.out GB.out (a:=2) (by rfl));have HSd3:=Lh (mg_side GA.out GC.out (a:=3) (by rfl));have HS2:=Lh (side_any b (mg1 ta) 2 tb (.slice a2 n2 c2) w5 200 HGe2.o.is HW1.o HI1.o (by decide) (by decide) (by decide) (by have:=HE1.o;omega) (fun f=>Nat.le_trans (mg_lines _ f) HI1.o) (HBt.o.over HB5.o) SB.out (HT.o.over HB5.o));rw [nextF_eq,← mgC_eq] at HS2;go_wp2_with fail;refine HS2.o.mono ?_;rintro e w6 ⟨v6,rfl,hp6,hb6⟩;rw [← mgP_eq] at hp6;have HB56:=Lh hb6;have HB6:=Lh (bvo HB5.o hb6);have HP6:=Lh hp6;have HG6:=Lh (HGe2.o.over hb6);clear hp6 hb6 HS2;have HS3:=Lh (side_any b (mg1 ta) 3 tc (.slice a3 n3 c3) w6 200 HG6.o.is HW1.o HI1.o (by decide) (by decide) (by decide) (by have:=HE1.o;omega) (fun f=>Nat.le_trans (mg_lines _ f) HI1.o) (HC.o.over HB6.o) SC.out (HT.o.over HB6.o));rw [nextF_eq,← mgC_eq] at HS3;go_wp2_with fail;refine HS3.o.mono ?_;rintro e w7 ⟨v7,rfl,hp7,hb7⟩;rw [← mgP_eq] at hp7;have HB57:=Lh (bvo HB56.o hb7);have HB7:=Lh (bvo HB6.o hb7);have HP7:=Lh hp7;have HP67:=Lh (HP6.o.over hb7);have HG7:=Lh (HG6.o.over hb7);have hs56:=HB56.o.size;have hs67:=hb7.size;clear hp7 hb7 HS3 HP6 HG6;obtain⟨xs,hxs,hxo,hxe⟩:=HP67.o;obtain⟨ys,hys,hyo,hye⟩:=HP7.o;obtain⟨p6,q6,e6⟩:=own_sl hxo;obtain⟨p7,q7,e7⟩:=own_sl hyo;obtain⟨n6,hn6⟩:∃ n,xs.length=n:=⟨_,rfl⟩;obtain⟨n7,hn7⟩:∃ n,ys.length=n:=⟨_,rfl⟩;rw [hn6] at e6;rw [hn7] at e7;subst e6 e7;have HCc2:=HSd2.o.code;have HCc3:=HSd3.o.code
 by_cases hl2:mgC (mg1 ta) tb 2=3
 · have HLg:Hid (MgLong ta tb tc):=Lh (.inr (.inl hl2));have HSo2:Hid (sideOk (mgC (mg1 ta) tb 2)=false):=Lh (by rw [hl2];rfl);rw [HSo2.o];clear hl2 HCc2 HCc3 hxs hxo hxe hys hyo hye hn6 hn7;go_wp2_with fail;refine bodyPost_ret (results_tmp3 rfl _ _ _) rfl ?_;exact .inl ⟨HLg.o,rfl,HB7.o⟩
 have HSo2:Hid (sideOk (mgC (mg1 ta) tb 2)=true):=Lh (by rcases HCc2 with q|q|q <;> first|exact absurd q hl2|(rw [q];rfl));rw [HSo2.o]
 by_cases hl3:mgC (mg1 ta) tc 3=3
 · have HLg:Hid (MgLong ta tb tc):=Lh (.inr (.inr hl3));have HSo3:Hid (sideOk (mgC (mg1 ta) tc 3)=false):=Lh (by rw [hl3];rfl);rw [HSo3.o];clear hl2 hl3 HCc2 HCc3 hxs hxo hxe hys hyo hye hn6 hn7;go_wp2_with fail;refine bodyPost_ret (results_tmp3 rfl _ _ _) rfl ?_;exact .inl ⟨HLg.o,rfl,HB7.o⟩
 have HSo3:Hid (sideOk (mgC (mg1 ta) tc 3)=true):=Lh (by rcases HCc3 with q|q|q <;> first|exact absurd q hl3|(rw [q];rfl));rw [HSo3.o];have HNl:Hid (¬ MgLong ta tb tc):=Lh (by rintro(q|q|q);exact HNc.o q;exact hl2 q;exact hl3 q);clear hl2 hl3 HCc2 HCc3;have HCh2:=Lh (sides_check HW1.o (mg1_one GA.out) (by decide) HSd2.o HSd3.o);have hn67:n6+n7≤2:=by have:=HCh2.o.2.2;rw [List.length_append,← hxs,← hys,List.length_map,List.length_map] at this;omega
 have HXo:=Lh hxo;have HYr:=Lh hyo.row;have HXY:Hid ((xs++ys).map (·.p)=mgP (mg1 ta) tb 2++mgP (mg1 ta) tc 3):=Lh (by rw [List.map_append,hxs,hys]);have hn6':=hn6;have hN:n6+n7≤1099511627776:=by omega
 have hbw:w5.heap.size≤w7.heap.size:=by omega
 obtain⟨row,hrow⟩:∃ row,row=(Value.slice p6 n6 q6).ownBlock:=⟨_,rfl⟩;have HRow:=Lh hrow;have HSl:Hid (∀ y∈ys,(∃ p n c,y.dv=.slice p n c)∧∃ p n c,y.ov=.slice p n c):=Lh fun y hy=>by obtain⟨p,c,e⟩:=own_sl (hye y hy).1;obtain⟨p2,c2,e2⟩:=own_sl (hye y hy).2;exact⟨⟨p,_,c,e⟩,⟨p2,_,c2,e2⟩⟩
 have HXe:=Lh hxe;have HYe:=Lh hye;have HYo:=Lh hyo;have HN6:=Lh hn6;have HN7:=Lh hn7;have HOX:Hid (w7.ownsRow w5.heap.size 44 4 (.slice p6 n6 q6) n6 (xs.flatMap encPat)):=Lh (by have h:w7.ownsRow w5.heap.size 44 4 (.slice p6 n6 q6) xs.length (xs.flatMap encPat):=hxo;rw [hn6] at h;exact h);have HRY:Hid (Row w7 (.slice p7 n7 q7) n7 4 (ys.flatMap encPat)):=Lh (by have h:Row w7 (.slice p7 n7 q7) ys.length 4 (ys.flatMap encPat):=hyo.row;rw [hn7] at h;exact h);clear hrow hxo hyo hxe hye hxs hys hn6 hn6' hn7;go_wp2_with (at_builtin;refine wpList_append_old slPat rfl _ _ rfl w5.heap.size _ _ _ HOX.o rfl _ _ _ HRY.o rfl (onesPat HSl.o) hN (by decide) hbw ?_;intro v8 w8 ho8 hg8;obtain⟨p8,n8,q8,rfl⟩:=own_slice4 ho8);rw [← HN6.o,← HN7.o] at ho8;have ho8:GOwn encPat 4 44 w8 w5.heap.size _ (xs++ys):=gown_cat ho8;obtain⟨_,_,e8⟩:=own_cells ho8;obtain⟨e8a,e8b,e8c⟩:=Value.slice.inj e8;have HB58:=Lh (HB57.o.grown hg8 HB57.o.size (fun j hj=>gown_low HXo.o hj));have HG8:=Lh (HGe2.o.over HB58.o);have HB8:=Lh (bvo HB5.o HB58.o);have hs58:=HB58.o.size;have HPB:Hid (PatsB w8 b bv be (.slice p8 n8 q8) (xs++ys)):=Lh ⟨ho8.row,gown_aside ho8 (by omega) (by omega) (by omega),fun x hx=>by
  have hrow:GOwn encPid 2 25 w8 w5.heap.size x.dv x.p.deps∧GOwn encOp 8 76 w8 w5.heap.size x.ov x.p.ops:=by
   rcases List.mem_append.1 hx with hx|hx
   · have h:=HXe.o x hx;exact⟨own_grown h.1 hg8 (own_apart h.1 HXo.o (by decide)),own_grown h.2 hg8 (own_apart h.2 HXo.o (by decide))⟩
   have h:=HYe.o x hx;exact⟨GOwn.base (own_grown h.1 hg8 (own_apart h.1 HXo.o (by decide))) (by omega),GOwn.base (own_grown h.2 hg8 (own_apart h.2 HXo.o (by decide))) (by omega)⟩
  exact⟨⟨hrow.1.row,gown_aside hrow.1 (by omega) (by omega) (by omega)⟩,⟨hrow.2.row,gown_aside hrow.2 (by omega) (by omega) (by omega)⟩⟩⟩
 have HXsL:Hid ((xs++ys).length=n8):=Lh e8b.symm;have HNP:Hid ((mgP (mg1 ta) tb 2++mgP (mg1 ta) tc 3).length=n8):=Lh (by rw [← HXY.o,List.length_map];exact e8b.symm);have HCh3:=Lh HCh2.o.1;have HZ3:Hid (∀ p∈mgP (mg1 ta) tb 2++mgP (mg1 ta) tc 3,∀ o∈p.ops,o.text.size≤maxLen):=Lh fun p hp=>by
  rcases List.mem_append.1 hp with hp|hp
  · exact mg_small HSd2.o SB.out p hp
  exact mg_small HSd3.o SC.out p hp
 have hn8:n8≤2:=by have:=HNP.o;have:=HCh2.o.2.2;omega
 have HW3:=Lh HCh2.o.2.1;clear e8 e8a e8b e8c ho8 hg8 HOX HRY HXo HYr HYo HXe HYe HSl hbw hN;go_loopw [77] (fun vS wr=>MgRel w8 B0 b bv be 200 (mg1 ta) (mgP (mg1 ta) tb 2++mgP (mg1 ta) tc 3) vS wr) (fun vS _=>n8 - (intOf vS).toNat)
 case atStart=>exact⟨0,Nat.zero_le _,rfl,Lh (by rw [List.take_zero,List.append_nil];exact HG8.o),Lh (bex_refl _ _ _ _)⟩
 obtain⟨k,hk,rfl,HGr,HBx⟩:=hrel;rename World=>w9;rw [HNP.o] at hk
 by_cases hlt:k<n8
 rotate_left
 ·
  obtain rfl:n8=k:=by omega
  have HGe:Hid (GrB w9 B0 b bv be (200+200*n8) ((mg1 ta)++(mgP (mg1 ta) tb 2++mgP (mg1 ta) tc 3))):=Lh (by have h:=HGr.o;rw [List.take_of_length_le (by rw [HNP.o];exact Nat.le_refl _)] at h;exact h);clear hk hlt HGr;have HGf:Hid (GrIs w9 b (mgL2 ta tb tc)):=Lh HGe.o.is;have HB9:Hid (Be w w9):=Lh (bex_low HB8.o HBx.o (by omega) (by omega) (by omega));have HWl:Hid (WfG (mgL2 ta tb tc)):=HW3;have HLl:Hid ((mgL2 ta tb tc).length≤3):=Lh (by unfold mgL2;rw [List.length_append];have h1:=mg1_len GA.out;have h2:=HNP.o;omega);have HIl:=Lh (mg_ids 3 HLl.o HWl.o);have HEl:=Lh (mg_edges 3 HLl.o HWl.o);clear HGe HBx HPB;go_wp2_with fail;refine(rtree_any b (mgL2 ta tb tc) w9 HGf.o HWl.o (by have:=HIl.o;omega) (by have:=HEl.o;omega) (HT.o.over HB9.o)).mono ?_;rintro e w10 ⟨v10,tt,rfl,hi10,hf10,hb10⟩;have HI10:=Lh hi10;have HF10:=Lh hf10.frow;have HB10:=Lh (bvo HB9.o hb10);have HGg:=Lh (HGf.o.over hb10);clear hi10 hf10 hb10;go_wp2_with fail;refine(rclean_any b (mgL2 ta tb tc) w10 HGg.o HWl.o (by have:=HIl.o;omega) (by have:=HEl.o;omega) (HT.o.over HB10.o)).mono ?_;rw [show decide ((flawsM (mgL2 ta tb tc)).length=0)=cleanM (mgL2 ta tb tc) from by rw [← flawsM_nil];simp [List.length_eq_zero_iff]];rintro e w11 ⟨rfl,hb11⟩;have HF11:=Lh (HF10.o.over hb11);have HB11:=Lh (bvo HB10.o hb11);clear hb11;go_wp2_with fail;refine bodyPost_ret (results_tmp3 rfl _ _ _) rfl ?_;exact .inr ⟨HNl.o,v10,tt,rfl,HI10.o,HF11.o,HB11.o⟩
 have HPr:=Lh (HPB.o.bex HBx.o);obtain⟨x,hx⟩:=gol (xs:=(xs++ys)) (i:=k) (by have:=HXsL.o;omega);have hm:=List.mem_of_getElem? hx;obtain⟨⟨hd,had⟩,⟨ho,hao⟩⟩:=HPr.o.each x hm;have HPx:Hid ((mgP (mg1 ta) tb 2++mgP (mg1 ta) tc 3)[k]? = some x.p):=Lh (by rw [← HXY.o,List.getElem?_map,hx];rfl);have HCk:=Lh (HCh3.o k x.p HPx.o);obtain⟨_,_,e9,_,_,hc9⟩:=HPr.o.row.at encPat_len;obtain⟨e91,e92,e93⟩:=Value.slice.inj e9;subst e91 e93;clear e9 e92;obtain⟨bx,ox,rfl,sx,hcx⟩:=hc9.resolve_left (by have:=HXsL.o;omega);obtain⟨pd,cd,ed,_,_,_⟩:=hd.at encPid_len;obtain⟨po,co,eo,_,_,_⟩:=ho.at encOp_len;have f0:w9.cell? ⟨bx,ox+k*4,none⟩=some (.int .u8 x.p.id.author.toNat):=(hcx k x hx w9 (Below.refl _ _)).2 0 _ rfl;have f1:w9.cell? ⟨bx,ox+k*4+1,none⟩=some (.int .u16 x.p.id.seq.toNat):=(hcx k x hx w9 (Below.refl _ _)).2 1 _ rfl;have f2:w9.cell? ⟨bx,ox+k*4+2,none⟩=some x.dv:=(hcx k x hx w9 (Below.refl _ _)).2 2 _ rfl;have f3:w9.cell? ⟨bx,ox+k*4+3,none⟩=some x.ov:=(hcx k x hx w9 (Below.refl _ _)).2 3 _ rfl;obtain⟨nd,hnd⟩:∃ n,x.p.deps.length=n:=⟨_,rfl⟩;obtain⟨no,hno⟩:∃ n,x.p.ops.length=n:=⟨_,rfl⟩;rw [hnd] at ed;rw [hno] at eo;rw [ed] at hd f2;rw [eo] at ho hao f3;have HD:=Lh hd;have HO:=Lh ho;have HAo:=Lh hao;have HZx:Hid (∀ o∈x.p.ops,o.text.size≤maxLen):=Lh (HZ3.o x.p (by have:=List.mem_of_getElem? HPx.o;exact this));clear hcx hc9 hx hm hd had ho hao ed eo hnd hno HPr;go_upto_region 23 with fail;have HPb:=Lh (anw w9 #[.int .u8 x.p.id.author.toNat,.int .u16 x.p.id.seq.toNat,.slice pd nd cd,.slice po no co] 44);have HBn:=Lh (bnew (w:=w9) (.cells #[.int .u8 x.p.id.author.toNat,.int .u16 x.p.id.seq.toNat,.slice pd nd cd,.slice po no co] 44));generalize w9.alloc (.cells #[.int .u8 x.p.id.author.toNat,.int .u16 x.p.id.seq.toNat,.slice pd nd cd,.slice po no co] 44)=wn at *;clear f0 f1 f2 f3 sx;have HAp:=Lh (mg_apply (HGr.o.over HBn.o) HCk.o.2.1 x.p (.slice pd nd cd) (.slice po no co) (HD.o.over HBn.o) (HO.o.over HBn.o) HAo.o HCk.o.2.2 (by omega) HZx.o HCk.o.1);unfold patV at HAp;obtain⟨p0,p1,p2,p3,sp⟩:=HPb.o.c4;go_wp2_with fail;refine HAp.o.mono ?_;rintro e wm ⟨rfl,hgm,hxm⟩;have HGm:Hid (GrB wm B0 b bv be (200+200*(k+1)) ((mg1 ta)++(mgP (mg1 ta) tb 2++mgP (mg1 ta) tc 3).take (k+1))):=Lh (by
  have e9:(mg1 ta)++(mgP (mg1 ta) tb 2++mgP (mg1 ta) tc 3).take (k+1)=(mg1 ta)++(mgP (mg1 ta) tb 2++mgP (mg1 ta) tc 3).take k++[x.p]:=by rw [take_one HPx.o,List.append_assoc]
  rw [e9,Nat.mul_add,Nat.mul_one,← Nat.add_assoc];exact hgm)
 have HXm:=Lh ((HBx.o.over HBn.o).trans hxm);clear hgm hxm p0 p1 p2 p3 sp;go_wp2;go_roundw
 case rel=>exact⟨k+1,by rw [HNP.o];exact hlt,by go_num,HGm,HXm⟩
 simp [intOf];omega
end
def wk28T:List FileM:=[⟨⟨#[97]⟩,[],[⟨#[120]⟩]⟩]
def wk28Id:PidM:=⟨1,1⟩
def wk28Ops:List OpM:=[⟨1,noVid,noVid,⟨#[]⟩⟩,⟨2,⟨wk28Id,0⟩,noVid,⟨#[97]⟩⟩,⟨3,⟨wk28Id,0⟩,noVid,⟨#[120]⟩⟩]
theorem wk28_next:nextF (vecM []) 1=wk28Id:=by unfold nextF;rw [if_pos ⟨by decide,by decide⟩];rfl
theorem wk28_alive:aliveX [] []=[]:=by unfold aliveX;rfl
theorem wk28_firm:firmX [] []=[]:=by unfold firmX;rfl
theorem wk28_lines(f:VidM)(id:PidM)(c:Nat)(x:ByteArray):linesOps [] [] f id c [x]=[⟨3,f,noVid,x⟩]:=by
 unfold linesOps;rw [wk28_alive,wk28_firm];have hE:∀(k:List Int) (a:List VidM),(List.range 1).flatMap (edgesE [] k a)=[]:=by intro k a;show edgesE [] k a 0++[]=[];unfold edgesE;rw [if_neg (fun h=>absurd h.1 (by decide))];rfl
 show _++(List.range 1).flatMap (edgesE [] _ _)=_;rw [hE];have hp:pairs (List.map (textAt []) []) [x]=[]:=by simp [pairs,pairsF]
 rw [hp];simp [keptTo,killsE,addsTo,stepA]
theorem wk28_all:allM []=[]:=by rfl
theorem wk28_plan:planM [] wk28T wk28Id=wk28Ops:=by
 have h:newTo [] wk28T wk28Id 1=newStep (allM []) wk28Id (newTo [] wk28T wk28Id 0) ⟨⟨#[97]⟩,[],[⟨#[120]⟩]⟩:=newTo_succ rfl;have h0:newTo [] wk28T wk28Id 0=[]:=by show edTo [] wk28T wk28Id (allM []).length=[];rw [wk28_all];show killsTo [] wk28T (allM []).length=[];rw [wk28_all];rfl
 show newTo [] wk28T wk28Id 1=_;rw [h,h0,wk28_all];unfold newStep fileOps;rw [if_neg (by decide),wk28_lines];rfl
theorem wk28_good:goodQ wk28Id (depsM wk28Id wk28Ops) wk28Ops=true:=by decide +kernel
theorem wk28_tree:treeGood wk28T=true:=by decide +kernel
theorem wk28_R:planR [] wk28T wk28Id=(wk28Ops,0):=by unfold planR;rw [if_pos wk28_tree,wk28_plan];rfl
end Go.Proofs.YtjccmcgglfncdaaGreatDoor
namespace Go.Proofs.YtjccmcgglfncdaaGreatDoor
open Go Go.RowKit
section
variable {a b : List FileM}
end
def wmX:ByteArray:=⟨#[120]⟩
def wmY:ByteArray:=⟨#[121]⟩
def wmZ:ByteArray:=⟨#[122]⟩
def wmN:ByteArray:=⟨#[97]⟩
def wmT(l:List ByteArray):List FileM:=[⟨wmN,[],l⟩]
def wmF:VidM:=⟨wk28Id,0⟩
def wmLx:VidM:=⟨wk28Id,2⟩
noncomputable def wmP:PatchM:=pgPat wk28Id wk28Ops
def wmO(b:UInt8)(t:ByteArray)(e:EdgeM):List OpM:=[⟨3,wmF,noVid,t⟩,⟨4,e.1,e.2,⟨#[]⟩⟩]
def wmQid:PidM:=⟨2,1⟩
def wmRid:PidM:=⟨3,1⟩
def wmQo:List OpM:=wmO 2 wmY (wmLx,⟨wmQid,0⟩)
def wmRo:List OpM:=wmO 3 wmZ (⟨wmRid,0⟩,wmLx)
def wmP0:PatchM:=⟨wk28Id,[],wk28Ops⟩
theorem wm_T:wmT [wmX]=wk28T:=rfl
theorem wm_good:treeGood (wmT [wmX])=true∧treeGood (wmT [wmX,wmY])=true∧treeGood (wmT [wmZ,wmX])=true:=by decide +kernel
theorem wm_next:nextM [] 1=wk28Id:=wk28_next
theorem wm_one:mgP [] (wmT [wmX]) 1=[wmP]∧mgC [] (wmT [wmX]) 1=0:=by
 have h:recI [] (wmT [wmX]) (nextM [] 1)=(some wmP,0):=by rw [wm_next,wm_T];unfold recI;rw [if_neg (by decide),wk28_R,if_pos rfl,if_pos wk28_good];rfl
 unfold mgP mgC;rw [h];exact⟨rfl,rfl⟩
theorem wm_mg1:mg1 (wmT [wmX])=[wmP]:=wm_one.1
theorem wm_deps:depsM wk28Id wk28Ops=[]:=by decide +kernel
theorem wm_P:wmP=wmP0:=by unfold wmP pgPat;rw [wm_deps];rfl
def wmV:List VertM:=[⟨wmLx,3,wmF,wmX,false⟩]
theorem wm_lines1:linesM [wmP0] wmF=wmV:=by decide +kernel
theorem wm_rel1:relM [wmP0] wmF=[]:=by decide +kernel
theorem wm_live1:liveF [wmP0]=[wmF]:=by decide +kernel
theorem wm_names1:namesM [wmP0] wmF=[⟨⟨wk28Id,1⟩,2,wmF,wmN,false⟩]:=by decide +kernel
theorem calm_one{L:List PatchM}{f:VidM}{x:VertM}(hl:liveF L=[f])(hn:namesM L f=[x]):Calm L:=by
 refine⟨fun v hv => ?_,fun v hv u hu _ => ?_⟩
 · rw [hl] at hv;rw [List.mem_singleton.1 hv];unfold ownN;rw [hn];exact⟨by simp,fun y hy=>by rw [List.mem_singleton.1 hy];rfl⟩
 rw [hl] at hv hu;rw [List.mem_singleton.1 hv,List.mem_singleton.1 hu]
theorem calm_one_all{L:List PatchM}(hw:WfG L){f:VidM}{x:VertM}(hl:liveF L=[f])(hn:namesM L f=[x]):allM L=[⟨f,x.text,[],[]⟩]:=by rw [calm_all hw (calm_one hl hn),hl];unfold ownN;rw [List.map_singleton,hn];rfl
theorem wm_wf1:WfG [wmP0]:=by have:=mg1_wf wm_good.1;rwa [wm_mg1,wm_P] at this
theorem wm_all1:allM [wmP0]=[⟨wmF,wmN,[],[]⟩]:=calm_one_all wm_wf1 wm_live1 wm_names1
theorem up_nil:UpL []:=fun s hs=>absurd hs List.not_mem_nil
theorem wm_alive:aliveX wmV []=[0]:=by unfold aliveX;rw [up_order up_nil];rfl
theorem wm_firm:firmX wmV []=[0]:=by unfold firmX;rw [wm_alive];have h:firmB [] wmV.length 0=true:=firmB_iff.2 ⟨by decide,fun j hj hne=>absurd hj (by show ¬ j<1;omega)⟩;rw [List.filter_cons_of_pos h];rfl
theorem wm_edit(id:PidM)(want:List ByteArray)(ps:List (Nat × Nat))(o1 o2:OpM)(k0 k1:Int)(v0 v1:VidM)(hp:pairs [wmX] want=ps)(hl:want.length=2)
  (hk:keptTo [0] ps want.length=[k0,k1]) (hn:k0<0∨k1<0) (ha:addsTo wmV wmF id 0 [k0,k1] want (killsE wmV [0] [k0,k1]) want.length=([o1],[v0,v1])) (h2:o2=⟨4,v0,v1,⟨#[]⟩⟩) :
  linesOps wmV [] wmF id 0 want=[o1,o2]:=by
 unfold linesOps editM;rw [wm_alive,wm_firm];rw [show pairs ([0].map (textAt wmV)) want=ps from hp];simp only;rw [hk,ha,hl];show [o1]++(edgesE [] [k0,k1] [v0,v1] 0++(edgesE [] [k0,k1] [v0,v1] 1++[]))=_;have e0:edgesE [] [k0,k1] [v0,v1] 0=[]:=by unfold edgesE;rw [if_neg (fun h=>absurd h.1 (by decide))]
 have e1:edgesE [] [k0,k1] [v0,v1] 1=[o2]:=by unfold edgesE;rw [if_pos ⟨by decide,by rcases hn with q|q;exact .inl q;exact .inr (.inl q)⟩,h2];rfl
 rw [e0,e1];rfl
theorem wm_plan(id:PidM)(want:List ByteArray)(o1 o2:OpM)(h:linesOps wmV [] wmF id 0 want=[o1,o2]):planM [wmP0] (wmT want) id=[o1,o2]:=by
 have hf:findT (wmT want) wmN=0:=by unfold findT wmT findFrom;rw [if_pos rfl];rfl
 have hK:killsTo [wmP0] (wmT want) (allM [wmP0]).length=[]:=by unfold killsTo;rw [wm_all1];show killsN [wmP0] (wmT want) ⟨wmF,wmN,[],[]⟩++[]=[];unfold killsN;rw [if_neg (by rw [hf];decide),wm_names1];rfl
 have hE:edTo [wmP0] (wmT want) id 1=[o1,o2]:=by
  rw [edTo_succ (n:=⟨wmF,wmN,[],[]⟩) (by rw [wm_all1];rfl),edTo_zero,hK];unfold plEdStep;rw [if_neg (by rw [hf];decide),List.nil_append,wm_lines1,wm_rel1];have hw:((wmT want).getD (findT (wmT want) (⟨wmF,wmN,[],[]⟩:NameM).name).toNat noFile).lines=want:=by rw [show(⟨wmF,wmN,[],[]⟩:NameM).name=wmN from rfl,hf];rfl
  rw [hw];exact h
 show newTo [wmP0] (wmT want) id 1=_;rw [newTo_succ (f:=⟨wmN,[],want⟩) rfl,newTo_zero,wm_all1];unfold newStep;rw [if_pos (by unfold isThere;simp)];exact hE
theorem wm_pairsQ:pairs [wmX] [wmX,wmY]=[(0,0)]:=by simp [pairs,pairsF,wmX,wmY]
theorem wm_pairsR:pairs [wmX] [wmZ,wmX]=[(0,1)]:=by simp [pairs,pairsF,lcsAt,lcsLen,wmX,wmZ]
theorem wm_planQ:planM [wmP0] (wmT [wmX,wmY]) wmQid=wmQo:=wm_plan _ _ _ _ (wm_edit _ _ [(0,0)] _ _ 0 (-1) wmLx ⟨wmQid,0⟩ wm_pairsQ rfl (by decide +kernel) (.inr (by decide)) (by decide +kernel) rfl)
theorem wm_planR:planM [wmP0] (wmT [wmZ,wmX]) wmRid=wmRo:=wm_plan _ _ _ _ (wm_edit _ _ [(0,1)] _ _ (-1) 0 ⟨wmRid,0⟩ wmLx wm_pairsR rfl (by decide +kernel) (.inl (by decide)) (by decide +kernel) rfl)
theorem wm_sideOf{want:List ByteArray}{a:UInt8}{id:PidM}{ops:List OpM}(hg:treeGood (wmT want)=true)(ha:authorOk a=true)(hv:vecM [wmP0] a<60000)(hid:nextM [wmP0] a=id)(hp:planM [wmP0] (wmT want) id=ops)(h1:ops.length=2):mgP [wmP0] (wmT want) a=[pgPat id ops]∧mgC [wmP0] (wmT want) a=0:=by
 rcases pg_rec wm_wf1 hg ha hv with⟨h0,_⟩|⟨h2,_⟩|⟨_,hr,_⟩
 · rw [hid,hp,h1] at h0;cases h0
 · rw [hid,hp,h1] at h2;omega
 unfold mgP mgC;rw [hr,hid,hp];exact⟨rfl,rfl⟩
theorem wm_sideQ:mgP [wmP0] (wmT [wmX,wmY]) 2=[pgPat wmQid wmQo]∧mgC [wmP0] (wmT [wmX,wmY]) 2=0:=wm_sideOf wm_good.2.1 (a:=2) (by decide) (by decide +kernel) (show nextM [wmP0] 2=wmQid by decide +kernel) wm_planQ rfl
theorem wm_sideR:mgP [wmP0] (wmT [wmZ,wmX]) 3=[pgPat wmRid wmRo]∧mgC [wmP0] (wmT [wmZ,wmX]) 3=0:=wm_sideOf wm_good.2.2 (a:=3) (by decide) (by decide +kernel) (show nextM [wmP0] 3=wmRid by decide +kernel) wm_planR rfl
def wmQ0:PatchM:=⟨wmQid,[wk28Id],wmQo⟩
def wmR0:PatchM:=⟨wmRid,[wk28Id],wmRo⟩
theorem wm_Q:pgPat wmQid wmQo=wmQ0:=by unfold pgPat;rw [show depsM wmQid wmQo=[wk28Id] by decide +kernel];rfl
theorem wm_R:pgPat wmRid wmRo=wmR0:=by unfold pgPat;rw [show depsM wmRid wmRo=[wk28Id] by decide +kernel];rfl
def wmG:List PatchM:=[wmP0,wmQ0,wmR0]
theorem wm_L2:mgL2 (wmT [wmX]) (wmT [wmX,wmY]) (wmT [wmZ,wmX])=wmG:=by unfold mgL2;rw [wm_mg1,wm_P,wm_sideQ.1,wm_sideR.1,wm_Q,wm_R];rfl
theorem wm_notLong:¬ MgLong (wmT [wmX]) (wmT [wmX,wmY]) (wmT [wmZ,wmX]):=by unfold MgLong;rw [wm_mg1,wm_P,wm_one.2,wm_sideQ.2,wm_sideR.2];rintro(q|q|q) <;> cases q
theorem wm_wf:WfG wmG:=by
 have h:=(sides_check (mg1_wf wm_good.1) (mg1_one wm_good.1) (a:=2) (b:=3) (by decide) (mg_side wm_good.1 wm_good.2.1 rfl) (mg_side wm_good.1 wm_good.2.2 rfl)).2.1;have e:=wm_L2;unfold mgL2 at e
 rwa [e] at h
def wmV3:List VertM:=[⟨wmLx,3,wmF,wmX,false⟩,⟨⟨wmQid,0⟩,3,wmF,wmY,false⟩,⟨⟨wmRid,0⟩,3,wmF,wmZ,false⟩]
def wmR3:List (Nat × Nat):=[(0,1),(2,0)]
theorem wm_lines:linesM wmG wmF=wmV3:=by decide +kernel
theorem wm_rel:relM wmG wmF=wmR3:=by decide +kernel
theorem wm_live:liveF wmG=[wmF]:=by decide +kernel
theorem wm_names:namesM wmG wmF=[⟨⟨wk28Id,1⟩,2,wmF,wmN,false⟩]:=by decide +kernel
theorem wm_all:allM wmG=[⟨wmF,wmN,[],[]⟩]:=calm_one_all wm_wf wm_live wm_names
theorem wm_no1{j:Nat}:¬ Lead wmR3 1 j:=fun h=>by obtain⟨k,hk⟩:=h.from';simp [wmR3] at hk
theorem wm_no2{j:Nat}:¬ Lead wmR3 j 2:=fun h=>by obtain⟨k,hk⟩:=h.into;simp [wmR3] at hk
theorem wm_chn:ChnL wmV3 wmR3 wmV3.length [2,0,1] wmR3:=by
 have h01:Lead wmR3 0 1:=.step (by simp [wmR3]);have h20:Lead wmR3 2 0:=.step (by simp [wmR3]);have hb:∀ a b:Nat,(a=2∧b=0)∨(a=0∧b=1)∨(a=2∧b=1)→BeforeP wmR3 a b:=by
  rintro a b (⟨rfl,rfl⟩|⟨rfl,rfl⟩|⟨rfl,rfl⟩)
  · exact⟨h20,wm_no2⟩
  · exact⟨h01,wm_no1⟩
  exact⟨h20.trans h01,wm_no1⟩
 refine chnL_self (by decide) (fun i j a b hi hj hij=>hb a b ?_) (fun a ha y hy hne hal => ?_) (by decide) (fun i => ?_)
 ·
  match i,j,hij with
  | 0,1,_=>simp at hi hj;omega
  | 0,2,_=>simp at hi hj;omega
  | 1,2,_=>simp at hi hj;omega
  | 0,j+3,_=>simp at hj
  | 1,j+3,_=>simp at hj
  | i+2,j+3,_=>simp at hj
 ·
  have hy:y<3:=hy;rcases hal with e|⟨h1,h2⟩
  · exact hne e.symm
  rcases (by omega:y=0∨y=1∨y=2) with rfl|rfl|rfl
  ·
   have ha:a=2∨a=0∨a=1:=(by simpa using ha);rcases ha with rfl|rfl|rfl
   · exact wm_no2 h2
   · exact hne rfl
   exact wm_no1 h1
  · exact wm_no1 h2
  exact wm_no2 h1
 constructor
 · rintro⟨h,_⟩;have h:i<3:=h;rcases (by omega:i=0∨i=1∨i=2) with rfl|rfl|rfl <;> decide
 intro h;have h:i=2∨i=0∨i=1:=by simpa using h
 rcases h with rfl|rfl|rfl <;> exact⟨by decide,by decide⟩
theorem wm_seen:lnSeen wmV3 wmR3=[wmZ,wmX,wmY]∧lnOdd wmV3 wmR3=0:=by have h:=wm_chn.seen;exact⟨h.1.trans (by decide +kernel),h.2⟩
theorem wm_fileT:fileT wmG ⟨wmF,wmN,[],[]⟩=⟨wmN,[],[wmZ,wmX,wmY]⟩:=by unfold fileT;rw [wm_lines,wm_rel,wm_seen.1];rfl
theorem wm_tree{t:List FileM}(h:IsTree wmG t):t=wmT [wmZ,wmX,wmY]:=by refine tree_one h ⟨?_,by unfold wmT;exact List.pairwise_singleton _ _⟩;rw [wm_all,List.map_singleton,wm_fileT];exact List.Perm.refl _
theorem wm_clean:cleanM wmG=true:=by unfold cleanM;rw [wm_all];unfold oddN;rw [List.all_cons,wm_lines,wm_rel,wm_seen.2];rfl
end Go.Proofs.YtjccmcgglfncdaaGreatDoor
