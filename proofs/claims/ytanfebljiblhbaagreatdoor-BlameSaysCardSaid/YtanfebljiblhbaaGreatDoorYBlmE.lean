/- Part of the proof that of any graph each file's lines, whose they are, and how many lines any author has, are as the document says. No conditions. -/
import Derived.Test.YtanfebljiblhbaaGreatDoorYBlmP
import Derived.Test.YtanfebljiblhbaaGreatDoorYRfc
import Derived.OwnWalkIn
import Derived.TacticsInMore
import Derived.LoopNIn
import Derived.LoopIn
import Derived.Shelf.RegionOpen
import Derived.Maps.OwnIn
import Derived.RangeFuncBox
import Derived.Shelf.Abstract
set_option linter.unusedVariables false
set_option linter.unusedSimpArgs false
set_option maxRecDepth 100000
set_option maxHeartbeats 40000000
set_option maxRecDepth 100000
set_option maxHeartbeats 40000000
namespace Go.Proofs.YtanfebljiblhbaaGreatDoor
open Go Go.RowKit
variable{l:List VertM}{s:Nat}
attribute [local go_sem] Oper.semAt_some
section
variable {O : Nat → Prop} {A B : World}
theorem Arr.mid{g:Nat}{cs:List Value}(h:Arr A g cs)(hm:MidIn O A B)(ho:O g):Arr B g cs:=by obtain⟨e,h⟩:=h;exact⟨e,(hm.block g ho).trans h⟩
theorem row_mid{α:Type}{enc:α→List Value}{sz:Nat}{v:Value}{xs:List α}(h:GRow enc sz A v xs)(hm:MidIn O A B)(hb:∀ b,v.ownBlock=some b→O b):GRow enc sz B v xs:=by obtain⟨h0,a,cap,rfl,h1,h2,h3,h4⟩:=h;refine⟨h0,a,cap,rfl,h1,h2,h3,fun hp => ?_⟩;obtain⟨b,off,rfl,hb2,hc⟩:=h4 hp;refine⟨b,off,rfl,Nat.lt_of_lt_of_le hb2 hm.size,fun j u hu => ?_⟩;rw [World.cell?_of_block (w:=A) (w':=B) (a:=⟨b,off+j,none⟩) (hm.block b (hb b rfl))];exact hc j u hu
def ShL(O:Nat→Prop)(w:World)(s:Nat)(l:List VertM):Prop:=O s∧∃ lp lc v1 v2,Arr w s [.slice lp l.length lc,v1,v2]∧GRow encVert 9 w (.slice lp l.length lc) l∧∀ b,(Value.slice lp l.length lc).ownBlock=some b→O b
theorem ShL.row(h:ShL O A s l):ShRow A s l:=by obtain⟨_,lp,lc,v1,v2,h1,h2,_⟩:=h;exact⟨lp,lc,v1,v2,h1,h2⟩
theorem ShL.mid(h:ShL O A s l)(hm:MidIn O A B):ShL O B s l:=by obtain⟨hs,lp,lc,v1,v2,h1,h2,h3⟩:=h;exact⟨hs,lp,lc,v1,v2,h1.mid hm hs,row_mid h2 hm h3,h3⟩
theorem bins_mid{xs:List BlL}(h:BIns O A xs)(hm:MidIn O A B):BIns O B xs:=BIns.mono (fun _ h=>h) (fun _ _ hb h=>row_mid h hm hb) xs h
end
theorem shl_of{w w':World}{O:Nat→Prop}{lp:Option Addr}{lc:Nat}{v1 v2:Value}(h1:Arr w' s [.slice lp l.length lc,v1,v2])(hs:w.heap.size≤s)(h2:GOwn encVert 9 86 w' w.heap.size (.slice lp l.length lc) l)
  (hO:∀ k,w.heap.size≤k→k<w'.heap.size→O k):ShL O w' s l:=
 ⟨hO s hs h1.lt,lp,lc,v1,v2,h1,h2.row,fun b hb=>hO b (gown_low h2 hb) (gown_size h2 hb)⟩
abbrev tlV(t:TLine):Value:=.agg #[.string t.text,.int .u8 t.id.pid.author.toNat,.int .u16 t.id.pid.seq.toNat,.int .u8 t.id.n.toNat]
abbrev tlL(t:TLine):List Value:=[.string t.text,.int .u8 t.id.pid.author.toNat,.int .u16 t.id.pid.seq.toNat,.int .u8 t.id.n.toNat]
theorem marks_any(k:Int)(m:ByteArray)(w:World)(h:k=2∧m=markS∨k=3∧m=markT):Calls Tryz.prog 104 #[.int .i64 k] w fun e w'=>e=.returned (.string m)∧w'=w:=by
 rcases h with⟨rfl,rfl⟩|⟨rfl,rfl⟩
 all_goals
  go_enter Tryz.func104,Tryz.ntmps104
  go_wp2
  go_ret
  exact⟨rfl,rfl⟩
def YRes(St Sx:World→Prop)(e:Ending)(w':World):Prop:=(e=.returned (.bool true)∧St w')∨(e=.returned (.bool false)∧Sx w')
theorem clos_any(l B1 B2 k:Nat)(t:TLine)(A:World)(St Sx:World→Prop)(hn:Arr A B1 [.int .i64 k])(hy:Arr A B2 [.func (.yield l) #[] #[]])(hne:B2≠B1)(hk:k<1000000000)
  (hY:∀ m,YieldAt Fence.wide m Tryz.prog l #[.int .i64 k,tlV t] ((A.setCell ⟨B1,0,none⟩ (.int .i64 ((k:Int)+1))).alloc (.cells #[.string t.text,.int .u8 t.id.pid.author.toNat,.int .u16 t.id.pid.seq.toNat,.int .u8 t.id.n.toNat] 42)) (YRes St Sx)) :
  Calls Tryz.prog 55 #[tlV t,.pointer (some ⟨B1,0,none⟩),.pointer (some ⟨B2,0,none⟩)] A (YRes St Sx):=by
 have hl:=hn.lt;refine(callsIn_wide (n:=3)).1 ?_;refine callsIn_of_wp Tryz.func55 rfl trivial ?_ rfl;simp only [Tryz.ntmps55,List.size_toArray,List.length_cons,List.length_nil,Nat.reduceAdd,Nat.reduceSub,Array.replicate_succ,Array.replicate_zero,List.push_toArray,List.append_toArray,List.nil_append,List.cons_append];have n0:=(hn.alloc (.cells #[.string t.text,.int .u8 t.id.pid.author.toNat,.int .u16 t.id.pid.seq.toNat,.int .u8 t.id.n.toNat] 42)).k 0 rfl;have nf:=(hn.alloc (.cells #[.string t.text,.int .u8 t.id.pid.author.toNat,.int .u16 t.id.pid.seq.toNat,.int .u8 t.id.n.toNat] 42)).free 0;have hn2:=(hn.set 0 (.int .i64 ((k:Int)+1))).alloc (.cells #[.string t.text,.int .u8 t.id.pid.author.toNat,.int .u16 t.id.pid.seq.toNat,.int .u8 t.id.n.toNat] 42);have hy2:=(hy.set_other (a:=⟨B1,0,none⟩) hne (.int .i64 ((k:Int)+1))).alloc (.cells #[.string t.text,.int .u8 t.id.pid.author.toNat,.int .u16 t.id.pid.seq.toNat,.int .u8 t.id.n.toNat] 42);have hx2:Arr ((A.setCell ⟨B1,0,none⟩ (.int .i64 ((k:Int)+1))).alloc (.cells #[.string t.text,.int .u8 t.id.pid.author.toNat,.int .u16 t.id.pid.seq.toNat,.int .u8 t.id.n.toNat] 42)) A.heap.size (tlL t):=by have:=anw (A.setCell ⟨B1,0,none⟩ (.int .i64 ((k:Int)+1))) #[.string t.text,.int .u8 t.id.pid.author.toNat,.int .u16 t.id.pid.seq.toNat,.int .u8 t.id.n.toNat] 42;simpa using this
 have m0:=hn2.k 0 rfl;have y0:=hy2.k 0 rfl;obtain⟨x0,x1,x2,x3,sx⟩:=hx2.c4;have ek:(k:Int)+1 - 1=(k:Int):=by omega
 obtain⟨fn,tmps,assign,body,hy3,hR⟩:=hY (3 - 1);clear hY hn2 hy2 hx2;gi_wp2;refine hR.mono ?_;rintro e W' (⟨rfl,h⟩|⟨rfl,h⟩)
 · gi_wp2;go_ret;exact .inl ⟨rfl,h⟩
 gi_wp2;go_ret;exact .inr ⟨rfl,h⟩
end Go.Proofs.YtanfebljiblhbaaGreatDoor
namespace Go.Proofs.YtanfebljiblhbaaGreatDoor
open Go Go.RowKit
variable{x:BlL}{l:List VertM}{j:Nat}
abbrev clV(B1 B2:Nat):Value:=.func (.func 55) #[] #[.pointer (some ⟨B1,0,none⟩),.pointer (some ⟨B2,0,none⟩)]
structure WkC (B1 B2:Nat) (all:List TLine) (St Sx:(Nat→Prop)→List TLine→World→Prop):Prop where
 low:∀ O pre W,St O pre W→∀ k,O k→k<W.heap.size
 new:∀ O pre W W',St O pre W→Below W.heap.size W W'→∃ O',(∀ k,O k→O' k)∧(∀ k,W.heap.size≤k→k<W'.heap.size→O' k)∧St O' pre W'
 call:∀ O pre x W,St O pre W→pre++[x] <+: all →
  Calls Tryz.prog 55 #[tlV x,.pointer (some ⟨B1,0,none⟩),.pointer (some ⟨B2,0,none⟩)] W (YRes (fun W'=>St O (pre++[x]) W'∧MidIn O W W') (Sx O (pre++[x])))
def WkRes(St Sx:(Nat→Prop)→List TLine→World→Prop)(O:Nat→Prop)(pre q:List TLine)(W:World)(e:Ending)(W':World):Prop:=
 (e=.returned (.bool true)∧∃ O',(∀ k,O k→O' k)∧St O' (pre++q) W'∧MidIn O W W')∨(e=.returned (.bool false)∧∃ O' r,r <+: q∧Sx O' (pre++r) W')
def WkIH(l:List VertM)(s B1 B2:Nat)(all:List TLine)(St Sx:(Nat→Prop)→List TLine→World→Prop)(N:Nat):Prop:=
 ∀(O:Nat→Prop) (pre:List TLine) (v:Value) (xs:List BlL) (W:World),SizeOf.sizeOf xs<N→ShL O W s l→GRow encBl 3 W v xs→(∀ b,v.ownBlock=some b→O b)→BIns O W xs→(∀ b∈bareL xs,OkB l.length b)→St O pre W→pre++toldAll l (bareL xs) <+: all →
  Calls Tryz.prog 52 #[.pointer (some ⟨s,0,none⟩),v,clV B1 B2] W (WkRes St Sx O pre (toldAll l (bareL xs)) W)
def BwRel(St:(Nat→Prop)→List TLine→World→Prop)(O:Nat→Prop)(pre:List TLine)(f:Nat→List TLine)(n:Nat)(W:World)(v:Value)(wr:World):Prop:=
 ∃(j:Nat) (O':Nat→Prop),j≤n∧v=.int .i64 j∧Hid (∀ k,O k→O' k)∧Hid (St O' (pre++f j) wr)∧Hid (MidIn O W wr)
theorem okB_inv{n:Nat}{k m:Int}{s:List BlkM}(h:OkB n (.mk k m s)):∃ i:Nat,m=(i:Int)∧i<n∧((k=1∧s=[])∨((k=2∨k=3∨k=4)∧∀ b∈s,OkB n b)):=by
 cases h with
 | line h=>exact⟨_,rfl,h,.inl ⟨rfl,rfl⟩⟩
 | more h1 h2 h3=>exact⟨0,rfl,h2,.inr ⟨h1,h3⟩⟩
theorem told_succ(l:List VertM){xs:List BlL}(h:xs[j]? = some x):toldAll l (bareL (xs.take (j+1)))=toldAll l (bareL (xs.take j))++toldOne l (bareB x):=by rw [take_one h,bareL_snoc,toldAll_append,toldAll_one]
theorem told_pre(l:List VertM)(xs:List BlL)(j:Nat):toldAll l (bareL (xs.take j)) <+: toldAll l (bareL xs):=by refine⟨toldAll l (bareL (xs.drop j)),?_⟩;rw [← toldAll_append,bareL_map,bareL_map,bareL_map,← List.map_append,List.take_append_drop]
theorem toldJ_succ(l:List VertM)(m:ByteArray){sub:List BlL}(h:sub[j]? = some x):toldJoin l m true (bareL (sub.take (j+1)))=toldJoin l m true (bareL (sub.take j))++((if j=0 then [] else [markL7 m])++toldOne l (bareB x)):=by
 have hj:=(List.getElem?_eq_some_iff.1 h).1;rw [take_one h,bareL_snoc,toldJoin_snoc];congr 2;cases j with
 | zero=>rw [List.take_zero,bareL_nil];rfl
 | succ j =>
  have:(bareL (sub.take (j+1))).isEmpty=false:=by
   rw [bareL_map];cases sub with
   | nil=>simp at hj
   | cons y r=>rfl
  rw [this];simp
theorem toldJ_pre(l:List VertM)(m:ByteArray)(sub:List BlL)(d:Nat):∀ j,sub.length=j+d→toldJoin l m true (bareL (sub.take j)) <+: toldJoin l m true (bareL sub):=by
 induction d with
 | zero=>intro j hj;rw [List.take_of_length_le (by omega)];exact List.prefix_refl _
 | succ d ih =>intro j hj;obtain⟨x,hx⟩:=gol (xs:=sub) (i:=j) (by omega);refine List.IsPrefix.trans ?_ (ih (j+1) (by omega));rw [toldJ_succ l m hx];exact List.prefix_append _ _
theorem line_at{i:Nat}{x:VertM}(h:l[i]? = some x):lineT l i=⟨x.text,x.id⟩:=by obtain⟨hi,rfl⟩:=List.getElem?_eq_some_iff.1 h;unfold lineT textAt;simp [List.getD_eq_getElem?_getD,List.getElem?_eq_getElem hi]
theorem toldOne_line{i:Nat}{x:VertM}(h:l[i]? = some x):toldOne l (.mk 1 (i:Int) [])=[⟨x.text,x.id⟩]:=by have hi:=(List.getElem?_eq_some_iff.1 h).1;rw [toldOne_mk,if_pos rfl,if_pos ⟨by omega,by omega⟩,Int.toNat_natCast,line_at h]
theorem blk_one1{w:World}{b off cap:Nat}{xs:List BlL}(h:GRow encBl 3 w (.slice (some ⟨b,off,none⟩) xs.length cap) xs)(hx:xs[j]? = some x):GRow encBl 3 w (.slice (some ⟨b,off+j*3,none⟩) 1 1) [x]:=by
 obtain⟨a2,c2,e,z1,z2,hc⟩:=h.at encBl_len;obtain⟨rfl,_,rfl⟩:=Value.slice.inj e;have hj:=(List.getElem?_eq_some_iff.1 hx).1;obtain⟨b3,off3,e3,hlt,hcb⟩:=hc.resolve_left (by omega);obtain⟨rfl,rfl,_⟩:=Addr.mk.inj (Option.some.inj e3);refine⟨by simp [encBl_len],_,_,rfl,Nat.le_refl _,by unfold maxLen;omega,?_,fun _=>⟨b,off+j*3,rfl,hlt,fun q u hu => ?_⟩⟩
 · intro h0;cases h0
 rw [List.flatMap_cons,List.flatMap_nil,List.append_nil] at hu;exact(hcb j x hx w (Below.refl _ _)).2 q u hu
theorem ShL.mono{O O':Nat→Prop}{w:World}{s:Nat}(h:ShL O w s l)(ho:∀ k,O k→O' k):ShL O' w s l:=by obtain⟨hs,lp,lc,v1,v2,h1,h2,h3⟩:=h;exact⟨ho s hs,lp,lc,v1,v2,h1,h2,fun b hb=>ho b (h3 b hb)⟩
theorem pre_mono{α:Type}{a b c d:List α}(h:a++b <+: d)(hc:c <+: b):a++c <+: d:=((List.prefix_append_right_inj a).2 hc).trans h
attribute [local irreducible] toldJoin toldAll toldOne bareL bareB
theorem bwalk_step(l:List VertM)(s B1 B2:Nat)(all:List TLine)(St Sx:(Nat→Prop)→List TLine→World→Prop)(C:WkC B1 B2 all St Sx)(N:Nat)(ih:WkIH l s B1 B2 all St Sx N):WkIH l s B1 B2 all St Sx (N+1):=by
 intro O pre v xs W hs hS hv hvo hi hok hst hall;obtain⟨a,cap,rfl,h1,h2,hc⟩:=hv.at encBl_len;unfold maxLen at h2;have HC:=Lh hc;have HS:=Lh hS;have HVo:=Lh hvo;have HI:=Lh hi;have HOK:=Lh hok;have HAll:=Lh hall;have HSz:=Lh hs;have HIH:=Lh ih;have HCC:=Lh C;have HLow:=Lh (C.low O pre W hst);have HSt:=Lh hst;clear hv hc hS hvo hi hok hall hs ih C hst;go_enter Tryz.func52,Tryz.ntmps52;go_wp2;go_loopw [15] (fun v15 wr=>BwRel St O pre (fun j=>toldAll l (bareL (xs.take j))) xs.length W v15 wr) (fun v15 _=>xs.length - (intOf v15).toNat)
 case atStart=>exact⟨0,O,Nat.zero_le _,rfl,Lh fun _ h=>h,Lh (by show St O (pre++toldAll l (bareL (xs.take 0))) W;rw [List.take_zero,bareL_nil,toldAll_nil,List.append_nil];exact HSt.o),Lh (MidIn.refl _ _)⟩
 obtain⟨j,O1,hj,rfl,HO1,HS1,HM1⟩:=hrel;rename World=>wr;replace HS1:Hid (St O1 (pre++toldAll l (bareL (xs.take j))) wr):=HS1
 by_cases hlt:j<xs.length
 rotate_left
 ·
  obtain rfl:j=xs.length:=by omega
  have hE:=HS1.o;rw [List.take_length] at hE;have HE:=Lh hE;clear hE HS1;go_wp2;go_ret;exact .inl ⟨rfl,O1,HO1.o,HE.o,HM1.o⟩
 obtain⟨b,off,rfl,sb,hcb⟩:=HC.o.resolve_left (by omega);obtain⟨⟨kd,nm,sv,sub⟩,hx⟩:=gol hlt;have hr:=hcb j _ hx W (Below.refl _ _);have ew:∀ i,wr.cell? ⟨b,i,none⟩=W.cell? ⟨b,i,none⟩:=fun i=>World.cell?_of_block (w:=W) (w':=wr) (a:=⟨b,i,none⟩) (HM1.o.block b (HVo.o b rfl));have sx:b<wr.heap.size:=Nat.lt_of_lt_of_le hr.1 HM1.o.size;have hm:=List.mem_of_getElem? hx;have hin:=bin_mk.1 (bins_mem HI.o hm);obtain⟨a',cap',esv,z1,z2,_⟩:=hin.1.at encBl_len;subst esv;have x0:wr.cell? ⟨b,off+j*3,none⟩=some (.int .i64 kd):=(ew _).trans (hr.2 0 _ rfl);have x1:wr.cell? ⟨b,off+j*3+1,none⟩=some (.int .i64 nm):=(ew _).trans (hr.2 1 _ rfl);have x2:wr.cell? ⟨b,off+j*3+2,none⟩=some (.slice a' sub.length cap'):=(ew _).trans (hr.2 2 _ rfl);unfold maxLen at z2;have HSub:=Lh (row_mid hin.1 HM1.o hin.2.2.1);have HSo:=Lh hin.2.2.1;have HSin:=Lh (bins_mid hin.2.2.2 HM1.o);have HSh:=Lh (HS.o.mid HM1.o);have HSs:Hid (SizeOf.sizeOf sub<N):=Lh (by have:=size_sub hm;have:=HSz.o;omega);have hbm:BlkM.mk kd nm (bareL sub)∈bareL xs:=by rw [bareL_map];exact List.mem_map.2 ⟨_,hm,by rw [bareB_mk]⟩
 obtain⟨i,rfl,hi,hkd⟩:=okB_inv (HOK.o _ hbm);obtain⟨vx,hvx⟩:=gol hi;have HTo:=Lh (told_succ l hx);have HPa:Hid ((pre++toldAll l (bareL (xs.take j)))++toldOne l (bareB (.mk kd (i:Int) (.slice a' sub.length cap') sub)) <+: all):=Lh (by rw [List.append_assoc,← HTo.o];exact pre_mono HAll.o (told_pre l xs (j+1)));rw [bareB_mk] at HTo HPa;have HPj:=Lh (told_pre l xs (j+1));rw [HTo.o] at HPj;have HVx:=Lh hvx;have HK:=Lh hkd;have hLo:∀ k,O k→k<wr.heap.size:=fun k q=>Nat.lt_of_lt_of_le (HLow.o k q) HM1.o.size;have HLo:=Lh hLo;clear hcb hx hr ew hm hin hbm hvx hkd hLo;obtain⟨prej,hpj⟩:∃ q,pre++toldAll l (bareL (xs.take j))=q:=⟨_,rfl⟩;rw [hpj] at HS1 HPa;have HPre:=Lh hpj;clear hpj;obtain⟨g,hg⟩:∃ g,wr.heap.size=g:=⟨_,rfl⟩;have HG:=Lh hg;clear hg;go_upto_region 4 with fail;have HKb:=Lh (anw wr #[.int .i64 kd,.int .i64 i,.slice a' sub.length cap'] 183);have HB3:=Lh (bnew (w:=wr) (.cells #[.int .i64 kd,.int .i64 i,.slice a' sub.length cap'] 183));have hs3:wr.heap.size<(wr.alloc (.cells #[.int .i64 kd,.int .i64 i,.slice a' sub.length cap'] 183)).heap.size:=by simp
 generalize wr.alloc (.cells #[.int .i64 kd,.int .i64 i,.slice a' sub.length cap'] 183)=w3 at *;rw [HG.o] at HKb hs3 ⊢;clear x0 x1 x2 sx;have HSh3:=Lh (HSh.o.row.over HB3.o);rcases HK.o with⟨hk,hsub⟩|⟨hk|hk|hk,hsub⟩
 all_goals
  first|have e1:(kd == 1)=true:=by(simp [hk];done)|have e1:(kd == 1)=false:=by(simp [hk];done)
  first|have e2:(kd == 2)=true:=by(simp [hk];done)|have e2:(kd == 2)=false:=by(simp [hk];done)
  first|have e3:(kd == 3)=true:=by(simp [hk];done)|have e3:(kd == 3)=false:=by(simp [hk];done)
  have HKd:=Lh hk
  have HOs:=Lh hsub
  clear hsub HK hk
  obtain⟨y0,y1,sy⟩:=HKb.o.c2
  go_upto_region 6 with(go_at_call 103;(with_reducible refine(svertR_any s i vx l _ HSh3.o HVx.o).mono ?_);rintro e w4 ⟨rfl,hb4⟩)
  have HVb:=Lh (anw w4 (cX vx) 86)
  have HB5:=Lh (hb4.alloc hb4.size (.cells (cX vx) 86))
  have hs5:w4.heap.size<(w4.alloc (.cells (cX vx) 86)).heap.size:=by simp
  have hs4:=hb4.size
  generalize w4.alloc (.cells (cX vx) 86)=w5 at *
  generalize w4.heap.size=g4 at *
  clear hb4 y0 y1 sy
  have HKc:=Lh (HKb.o.over HB5.o)
  have HB6:Hid (Below wr.heap.size wr w5):=Lh (bvo HB3.o HB5.o)
  obtain⟨O5,hO5,hN5,hS5⟩:=HCC.o.new _ _ _ _ HS1.o HB6.o
  have hgk:O5 g:=hN5 g (by have:=HG.o;omega) (by omega)
  have hgv:O5 g4:=hN5 g4 (by have:=HG.o;omega) hs5
  have HO5:=Lh fun k (q:O k)=>hO5 k (HO1.o k q)
  have HS5:=Lh hS5
  have HM5:Hid (MidIn O W w5):=Lh (HM1.o.trans (MidIn.of_below HB6.o HLo.o))
  have HSub5:=Lh (HSub.o.over HB6.o)
  have HSin5:Hid (BIns O w5 sub):=Lh (HSin.o.over HB6.o)
  have HSh5:Hid (ShL O w5 s l):=Lh (HSh.o.mid (MidIn.of_below HB6.o HLo.o))
  clear hO5 hN5 hS5 hs3 hs4 hs5 HB3 HB5 HB6 HSh3 HSub HSin HSh HKb HG HLo
  have y0:=HKc.o.k 0 rfl
  have y2:=HKc.o.k 2 rfl
  have sy:=HKc.o.lt
  obtain⟨v0,v1,v2,_⟩:=HVb.o.c3
  have v7:=HVb.o.k 7 rfl
  have sv:=HVb.o.lt
 ·
  obtain⟨hk1,hs0⟩:kd=1∧sub=[]:=⟨HKd.o,by have:=HOs.o;rw [bareL_map] at this;exact List.map_eq_nil_iff.1 this⟩;subst hk1;subst hs0;rw [bareL_nil,toldOne_line HVx.o] at HPa HTo HPj;have HCl:=Lh (HCC.o.call O5 prej ⟨vx.text,vx.id⟩ w5 HS5.o HPa.o);go_wp2_with (go_at_call 55;(with_reducible refine HCl.o.mono ?_);clear HCl;rintro e w6 h6;rcases h6 with⟨rfl,h6,hm6⟩|⟨rfl,h6⟩;have z2:=(HKc.o.mid hm6 hgk).k 2 rfl;have sz:=(HKc.o.mid hm6 hgk).lt);rotate_left
  · go_ret;exact .inr ⟨rfl,O5,_,HPj.o,by rw [← List.append_assoc,HPre.o];exact h6⟩
  go_loopw [60] (fun v60 wq=>v60=.int .i64 0∧wq=w6) (fun _ _=>0)
  case atStart=>exact⟨rfl,rfl⟩
  obtain⟨rfl,hw⟩:=hrel;obtain rfl:=hw.symm;go_wp2;go_roundw
  case rel=>exact⟨j+1,O5,hlt,by go_num,HO5,Lh (by show St O5 (pre++toldAll l (bareL (xs.take (j+1)))) _;rw [HTo.o,← List.append_assoc,HPre.o];exact h6),Lh (HM5.o.trans (hm6.mono HO5.o))⟩
  simp [intOf];omega
 ·
  obtain rfl:kd=2:=HKd.o;have HMk:Hid (toldOne l (.mk 2 (i:Int) (bareL sub))=([markL7 markA]++toldJoin l markS true (bareL sub))++[markL7 markE]):=Lh (by rw [toldOne_mk];simp);rw [HMk.o] at HPa HTo HPj;have HCl:=Lh (HCC.o.call O5 prej (markL7 markA) w5 HS5.o (pre_mono HPa.o (by rw [List.append_assoc];exact List.prefix_append _ _)));go_wp2_with (go_at_call 55;refine HCl.o.mono ?_;clear HCl;rintro e w6 h6;rcases h6 with⟨rfl,h6,hm6⟩|⟨rfl,h6⟩;have z0:=(HKc.o.mid hm6 hgk).k 0 rfl;have z2:=(HKc.o.mid hm6 hgk).k 2 rfl;have sz:=(HKc.o.mid hm6 hgk).lt);rotate_left
  · go_ret;exact .inr ⟨rfl,O5,toldAll l (bareL (xs.take j))++[markL7 markA],List.IsPrefix.trans ((List.prefix_append_right_inj _).2 (by rw [List.append_assoc];exact List.prefix_append _ _)) HPj.o,by rw [← List.append_assoc,HPre.o];exact h6⟩
  go_loopw [60] (fun v60 wq=>BwRel St O5 prej (fun k=>[markL7 markA]++toldJoin l markS true (bareL (sub.take k))) sub.length w5 v60 wq) (fun v60 _=>sub.length - (intOf v60).toNat)
  case atStart=>exact⟨0,O5,Nat.zero_le _,rfl,Lh fun _ h=>h,Lh (by show St O5 (prej++([markL7 markA]++toldJoin l markS true (bareL (sub.take 0)))) w6;rw [List.take_zero,bareL_nil,toldJoin_nil,List.append_nil];exact h6),Lh hm6⟩
  obtain⟨k,O6,hk,rfl,HO6,HS6,HM6⟩:=hrel;rename World=>wq;replace HS6:Hid (St O6 (prej++([markL7 markA]++toldJoin l markS true (bareL (sub.take k)))) wq):=HS6;have HKq:=Lh (HKc.o.mid HM6.o hgk);have hg6:=HO6.o g hgk;have HO6a:=Lh fun q (h:O q)=>HO6.o q (HO5.o q h);have HM6a:Hid (MidIn O W wq):=Lh (HM5.o.trans (HM6.o.mono HO5.o));clear y0 y2 sy v0 v1 v2 v7 sv;clear z0 z2 sz;have y0:=HKq.o.k 0 rfl;have y2:=HKq.o.k 2 rfl;have sy:=HKq.o.lt
  by_cases hlt2:k<sub.length
  rotate_left
  ·
   obtain rfl:k=sub.length:=(by omega);have hE:=HS6.o;rw [List.take_length] at hE;have HE:=Lh hE;clear hE HS6;have HCe:=Lh (HCC.o.call O6 _ (markL7 markE) wq HE.o (by rw [List.append_assoc];exact HPa.o));go_wp2_with (go_at_call 55;refine HCe.o.mono ?_;clear HCe;rintro e w8 h6;rcases h6 with⟨rfl,h8,hm8⟩|⟨rfl,h6⟩;have z0:=(HKq.o.mid hm8 hg6).k 0 rfl;have z2:=(HKq.o.mid hm8 hg6).k 2 rfl;have sz:=(HKq.o.mid hm8 hg6).lt);rotate_left
   · go_ret;exact .inr ⟨rfl,O6,_,HPj.o,by rw [← List.append_assoc,HPre.o,← List.append_assoc];exact h6⟩
   go_roundw
   case rel=>exact⟨j+1,O6,hlt,by go_num,HO6a,Lh (by show St O6 (pre++toldAll l (bareL (xs.take (j+1)))) _;rw [HTo.o,← List.append_assoc,HPre.o,← List.append_assoc];exact h8),Lh (HM6a.o.trans (hm8.mono HO6a.o))⟩
   simp [intOf];omega
  obtain⟨b2,off2,rfl,sb2⟩:∃ b off,a'=some ⟨b,off,none⟩∧b<w5.heap.size:=by obtain⟨a3,c3,e3,_,_,h3⟩:=HSub5.o.at encBl_len;obtain⟨rfl,_,_⟩:=Value.slice.inj e3;obtain⟨b3,o3,rfl,h4,_⟩:=h3.resolve_left (by omega);exact⟨b3,o3,rfl,h4⟩
  obtain⟨x2,hx2⟩:=gol hlt2;have hm2:=List.mem_of_getElem? hx2;have hb2:O b2:=HSo.o b2 rfl;have HRow:=Lh (row_mid HSub5.o HM6.o (fun q e=>HO5.o q (HSo.o q e)));have HX1:=Lh (blk_one1 HRow.o hx2);have HTk:=Lh (toldJ_succ l markS hx2);have HPk:Hid ((prej++([markL7 markA]++toldJoin l markS true (bareL (sub.take k))))++((if k=0 then [] else [markL7 markS])++toldOne l (bareB x2)) <+: all):=Lh (by rw [List.append_assoc,List.append_assoc,← HTk.o];exact pre_mono HPa.o (by rw [List.append_assoc];exact(List.prefix_append_right_inj _).2 (List.IsPrefix.trans (toldJ_pre l markS sub (sub.length - (k+1)) (k+1) (by omega)) (List.prefix_append _ _))));have HIk:Hid (∀ pre7 W7,St O6 pre7 W7→MidIn O6 wq W7→pre7++toldOne l (bareB x2) <+: all→Calls Tryz.prog 52 #[.pointer (some ⟨s,0,none⟩),.slice (some ⟨b2,off2+k*3,none⟩) 1 1,clV B1 B2] W7 (WkRes St Sx O6 pre7 (toldOne l (bareB x2)) W7)):=Lh fun pre7 W7 h7 hm7 hp7=>by
   have h9:=HIH.o O6 pre7 _ [x2] W7 (by have:=one_size hm2;have:=HSs.o;omega) ((HSh5.o.mid (HM6.o.mono HO5.o)).mono HO6a.o |>.mid hm7) (row_mid HX1.o hm7 (fun q e=>by cases e;exact HO6a.o b2 hb2)) (fun q e=>by cases e;exact HO6a.o b2 hb2)
    (bins_mid (BIns.mono (fun q h=>HO6a.o q h) (fun _ _ _ h=>h) [x2] (bins_one (bins_mem (bins_mid HSin5.o (HM6.o.mono HO5.o)) hm2))) hm7) (fun y hy=>HOs.o y (by rw [bareL_map] at hy ⊢;rw [List.map_cons,List.map_nil,List.mem_singleton] at hy;exact List.mem_map.2 ⟨x2,hm2,hy.symm⟩)) h7 (by rw [bareL_map,List.map_cons,List.map_nil,toldAll_one];exact hp7)
   rw [bareL_map,List.map_cons,List.map_nil,toldAll_one] at h9;exact h9
  clear hx2 hm2 HRow HX1
  by_cases hk0:k=0
  ·
   have g0:decide ((k:Int) > 0)=false:=decide_eq_false (by omega);have g1:¬ 0<k:=(by omega);have hp:=HPk.o;rw [if_pos hk0,List.nil_append] at hp;have HP7:=Lh hp;have HK0:=Lh hk0;clear hp hk0;go_wp2_with (go_at_call 52;refine(HIk.o _ wq HS6.o (MidIn.refl _ _) HP7.o).mono ?_;clear HIk;rintro e w8 h8;rcases h8 with⟨rfl,O8,hO8,h8,hm8⟩|⟨rfl,O8,r8,hr8,h8⟩);rotate_left
   ·
    go_ret;refine .inr ⟨rfl,O8,toldAll l (bareL (xs.take j))++(([markL7 markA]++toldJoin l markS true (bareL (sub.take k)))++([]++r8)),?_,?_⟩
    · refine List.IsPrefix.trans ((List.prefix_append_right_inj _).2 ?_) HPj.o;rw [List.append_assoc,List.append_assoc];refine(List.prefix_append_right_inj _).2 (List.IsPrefix.trans ?_ (List.IsPrefix.trans (toldJ_pre l markS sub (sub.length - (k+1)) (k+1) (by omega)) (List.prefix_append _ _)));rw [HTk.o];exact(List.prefix_append_right_inj _).2 (by rw [if_pos HK0.o];exact hr8)
    rw [← List.append_assoc,HPre.o];simpa [List.append_assoc] using h8
   go_roundw
   case rel=>exact⟨k+1,O8,hlt2,by go_num,Lh fun q h=>hO8 q (HO6.o q h),Lh (by show St O8 (prej++([markL7 markA]++toldJoin l markS true (bareL (sub.take (k+1))))) _;rw [HTk.o,if_pos HK0.o];simpa [List.append_assoc] using h8),Lh (HM6.o.trans (((MidIn.refl _ _).trans hm8).mono HO6.o))⟩
   simp [intOf];omega
  have g0:decide ((k:Int) > 0)=true:=decide_eq_true (by omega);have g1:0<k:=by omega
  have hp:=HPk.o;rw [if_neg hk0,← List.append_assoc] at hp;have HP7:=Lh hp;clear hp;have HCm:=Lh (HCC.o.call O6 _ (markL7 markS) wq HS6.o (List.IsPrefix.trans (List.prefix_append _ _) HP7.o));go_wp2_with (first|(go_at_call 104;refine(marks_any 2 markS _ (by simp)).mono ?_;rintro e w7 ⟨rfl,hw7⟩;obtain rfl:=hw7.symm)|(go_at_call 55;refine HCm.o.mono ?_;clear HCm;rintro e w7 h6;rcases h6 with⟨rfl,h7,hm7⟩|⟨rfl,h6⟩;have z0:=(HKq.o.mid hm7 hg6).k 0 rfl;have z2:=(HKq.o.mid hm7 hg6).k 2 rfl;have sz:=(HKq.o.mid hm7 hg6).lt)|(go_at_call 52;refine(HIk.o _ w7 h7 hm7 HP7.o).mono ?_;clear HIk;rintro e w8 h8;rcases h8 with⟨rfl,O8,hO8,h8,hm8⟩|⟨rfl,O8,r8,hr8,h8⟩));rotate_left
  ·
   go_ret;refine .inr ⟨rfl,O8,toldAll l (bareL (xs.take j))++(([markL7 markA]++toldJoin l markS true (bareL (sub.take k)))++([markL7 markS]++r8)),?_,?_⟩
   · refine List.IsPrefix.trans ((List.prefix_append_right_inj _).2 ?_) HPj.o;rw [List.append_assoc,List.append_assoc];refine(List.prefix_append_right_inj _).2 (List.IsPrefix.trans ?_ (List.IsPrefix.trans (toldJ_pre l markS sub (sub.length - (k+1)) (k+1) (by omega)) (List.prefix_append _ _)));rw [HTk.o];exact(List.prefix_append_right_inj _).2 (by rw [if_neg hk0];exact(List.prefix_append_right_inj _).2 hr8)
   rw [← List.append_assoc,HPre.o];simpa [List.append_assoc] using h8
  ·
   go_ret;refine .inr ⟨rfl,O6,toldAll l (bareL (xs.take j))++(([markL7 markA]++toldJoin l markS true (bareL (sub.take k)))++[markL7 markS]),?_,?_⟩
   · refine List.IsPrefix.trans ((List.prefix_append_right_inj _).2 ?_) HPj.o;rw [List.append_assoc,List.append_assoc];refine(List.prefix_append_right_inj _).2 (List.IsPrefix.trans ?_ (List.IsPrefix.trans (toldJ_pre l markS sub (sub.length - (k+1)) (k+1) (by omega)) (List.prefix_append _ _)));rw [HTk.o];exact(List.prefix_append_right_inj _).2 (by rw [if_neg hk0];exact List.prefix_append _ _)
   rw [← List.append_assoc,HPre.o];simpa [List.append_assoc] using h6
  go_roundw
  case rel=>exact⟨k+1,O8,hlt2,by go_num,Lh fun q h=>hO8 q (HO6.o q h),Lh (by show St O8 (prej++([markL7 markA]++toldJoin l markS true (bareL (sub.take (k+1))))) _;rw [HTk.o,if_neg hk0];simpa [List.append_assoc] using h8),Lh (HM6.o.trans ((hm7.trans hm8).mono HO6.o))⟩
  simp [intOf];omega
 ·
  obtain rfl:kd=3:=HKd.o;have HMk:Hid (toldOne l (.mk 3 (i:Int) (bareL sub))=([markL7 markA]++toldJoin l markT true (bareL sub))++[markL7 markE]):=Lh (by rw [toldOne_mk];simp);rw [HMk.o] at HPa HTo HPj;have HCl:=Lh (HCC.o.call O5 prej (markL7 markA) w5 HS5.o (pre_mono HPa.o (by rw [List.append_assoc];exact List.prefix_append _ _)));go_wp2_with (go_at_call 55;refine HCl.o.mono ?_;clear HCl;rintro e w6 h6;rcases h6 with⟨rfl,h6,hm6⟩|⟨rfl,h6⟩;have z0:=(HKc.o.mid hm6 hgk).k 0 rfl;have z2:=(HKc.o.mid hm6 hgk).k 2 rfl;have sz:=(HKc.o.mid hm6 hgk).lt);rotate_left
  · go_ret;exact .inr ⟨rfl,O5,toldAll l (bareL (xs.take j))++[markL7 markA],List.IsPrefix.trans ((List.prefix_append_right_inj _).2 (by rw [List.append_assoc];exact List.prefix_append _ _)) HPj.o,by rw [← List.append_assoc,HPre.o];exact h6⟩
  go_loopw [60] (fun v60 wq=>BwRel St O5 prej (fun k=>[markL7 markA]++toldJoin l markT true (bareL (sub.take k))) sub.length w5 v60 wq) (fun v60 _=>sub.length - (intOf v60).toNat)
  case atStart=>exact⟨0,O5,Nat.zero_le _,rfl,Lh fun _ h=>h,Lh (by show St O5 (prej++([markL7 markA]++toldJoin l markT true (bareL (sub.take 0)))) w6;rw [List.take_zero,bareL_nil,toldJoin_nil,List.append_nil];exact h6),Lh hm6⟩
  obtain⟨k,O6,hk,rfl,HO6,HS6,HM6⟩:=hrel;rename World=>wq;replace HS6:Hid (St O6 (prej++([markL7 markA]++toldJoin l markT true (bareL (sub.take k)))) wq):=HS6;have HKq:=Lh (HKc.o.mid HM6.o hgk);have hg6:=HO6.o g hgk;have HO6a:=Lh fun q (h:O q)=>HO6.o q (HO5.o q h);have HM6a:Hid (MidIn O W wq):=Lh (HM5.o.trans (HM6.o.mono HO5.o));clear y0 y2 sy v0 v1 v2 v7 sv;clear z0 z2 sz;have y0:=HKq.o.k 0 rfl;have y2:=HKq.o.k 2 rfl;have sy:=HKq.o.lt
  by_cases hlt2:k<sub.length
  rotate_left
  ·
   obtain rfl:k=sub.length:=(by omega);have hE:=HS6.o;rw [List.take_length] at hE;have HE:=Lh hE;clear hE HS6;have HCe:=Lh (HCC.o.call O6 _ (markL7 markE) wq HE.o (by rw [List.append_assoc];exact HPa.o));go_wp2_with (go_at_call 55;refine HCe.o.mono ?_;clear HCe;rintro e w8 h6;rcases h6 with⟨rfl,h8,hm8⟩|⟨rfl,h6⟩;have z0:=(HKq.o.mid hm8 hg6).k 0 rfl;have z2:=(HKq.o.mid hm8 hg6).k 2 rfl;have sz:=(HKq.o.mid hm8 hg6).lt);rotate_left
   · go_ret;exact .inr ⟨rfl,O6,_,HPj.o,by rw [← List.append_assoc,HPre.o,← List.append_assoc];exact h6⟩
   go_roundw
   case rel=>exact⟨j+1,O6,hlt,by go_num,HO6a,Lh (by show St O6 (pre++toldAll l (bareL (xs.take (j+1)))) _;rw [HTo.o,← List.append_assoc,HPre.o,← List.append_assoc];exact h8),Lh (HM6a.o.trans (hm8.mono HO6a.o))⟩
   simp [intOf];omega
  obtain⟨b2,off2,rfl,sb2⟩:∃ b off,a'=some ⟨b,off,none⟩∧b<w5.heap.size:=by obtain⟨a3,c3,e3,_,_,h3⟩:=HSub5.o.at encBl_len;obtain⟨rfl,_,_⟩:=Value.slice.inj e3;obtain⟨b3,o3,rfl,h4,_⟩:=h3.resolve_left (by omega);exact⟨b3,o3,rfl,h4⟩
  obtain⟨x2,hx2⟩:=gol hlt2;have hm2:=List.mem_of_getElem? hx2;have hb2:O b2:=HSo.o b2 rfl;have HRow:=Lh (row_mid HSub5.o HM6.o (fun q e=>HO5.o q (HSo.o q e)));have HX1:=Lh (blk_one1 HRow.o hx2);have HTk:=Lh (toldJ_succ l markT hx2);have HPk:Hid ((prej++([markL7 markA]++toldJoin l markT true (bareL (sub.take k))))++((if k=0 then [] else [markL7 markT])++toldOne l (bareB x2)) <+: all):=Lh (by rw [List.append_assoc,List.append_assoc,← HTk.o];exact pre_mono HPa.o (by rw [List.append_assoc];exact(List.prefix_append_right_inj _).2 (List.IsPrefix.trans (toldJ_pre l markT sub (sub.length - (k+1)) (k+1) (by omega)) (List.prefix_append _ _))));have HIk:Hid (∀ pre7 W7,St O6 pre7 W7→MidIn O6 wq W7→pre7++toldOne l (bareB x2) <+: all→Calls Tryz.prog 52 #[.pointer (some ⟨s,0,none⟩),.slice (some ⟨b2,off2+k*3,none⟩) 1 1,clV B1 B2] W7 (WkRes St Sx O6 pre7 (toldOne l (bareB x2)) W7)):=Lh fun pre7 W7 h7 hm7 hp7=>by
   have h9:=HIH.o O6 pre7 _ [x2] W7 (by have:=one_size hm2;have:=HSs.o;omega) ((HSh5.o.mid (HM6.o.mono HO5.o)).mono HO6a.o |>.mid hm7) (row_mid HX1.o hm7 (fun q e=>by cases e;exact HO6a.o b2 hb2)) (fun q e=>by cases e;exact HO6a.o b2 hb2)
    (bins_mid (BIns.mono (fun q h=>HO6a.o q h) (fun _ _ _ h=>h) [x2] (bins_one (bins_mem (bins_mid HSin5.o (HM6.o.mono HO5.o)) hm2))) hm7) (fun y hy=>HOs.o y (by rw [bareL_map] at hy ⊢;rw [List.map_cons,List.map_nil,List.mem_singleton] at hy;exact List.mem_map.2 ⟨x2,hm2,hy.symm⟩)) h7 (by rw [bareL_map,List.map_cons,List.map_nil,toldAll_one];exact hp7)
   rw [bareL_map,List.map_cons,List.map_nil,toldAll_one] at h9;exact h9
  clear hx2 hm2 HRow HX1
  by_cases hk0:k=0
  ·
   have g0:decide ((k:Int) > 0)=false:=decide_eq_false (by omega);have g1:¬ 0<k:=(by omega);have hp:=HPk.o;rw [if_pos hk0,List.nil_append] at hp;have HP7:=Lh hp;have HK0:=Lh hk0;clear hp hk0;go_wp2_with (go_at_call 52;refine(HIk.o _ wq HS6.o (MidIn.refl _ _) HP7.o).mono ?_;clear HIk;rintro e w8 h8;rcases h8 with⟨rfl,O8,hO8,h8,hm8⟩|⟨rfl,O8,r8,hr8,h8⟩);rotate_left
   ·
    go_ret;refine .inr ⟨rfl,O8,toldAll l (bareL (xs.take j))++(([markL7 markA]++toldJoin l markT true (bareL (sub.take k)))++([]++r8)),?_,?_⟩
    · refine List.IsPrefix.trans ((List.prefix_append_right_inj _).2 ?_) HPj.o;rw [List.append_assoc,List.append_assoc];refine(List.prefix_append_right_inj _).2 (List.IsPrefix.trans ?_ (List.IsPrefix.trans (toldJ_pre l markT sub (sub.length - (k+1)) (k+1) (by omega)) (List.prefix_append _ _)));rw [HTk.o];exact(List.prefix_append_right_inj _).2 (by rw [if_pos HK0.o];exact hr8)
    rw [← List.append_assoc,HPre.o];simpa [List.append_assoc] using h8
   go_roundw
   case rel=>exact⟨k+1,O8,hlt2,by go_num,Lh fun q h=>hO8 q (HO6.o q h),Lh (by show St O8 (prej++([markL7 markA]++toldJoin l markT true (bareL (sub.take (k+1))))) _;rw [HTk.o,if_pos HK0.o];simpa [List.append_assoc] using h8),Lh (HM6.o.trans (((MidIn.refl _ _).trans hm8).mono HO6.o))⟩
   simp [intOf];omega
  have g0:decide ((k:Int) > 0)=true:=decide_eq_true (by omega);have g1:0<k:=by omega
  have hp:=HPk.o;rw [if_neg hk0,← List.append_assoc] at hp;have HP7:=Lh hp;clear hp;have HCm:=Lh (HCC.o.call O6 _ (markL7 markT) wq HS6.o (List.IsPrefix.trans (List.prefix_append _ _) HP7.o));go_wp2_with (first|(go_at_call 104;refine(marks_any 3 markT _ (by simp)).mono ?_;rintro e w7 ⟨rfl,hw7⟩;obtain rfl:=hw7.symm)|(go_at_call 55;refine HCm.o.mono ?_;clear HCm;rintro e w7 h6;rcases h6 with⟨rfl,h7,hm7⟩|⟨rfl,h6⟩;have z0:=(HKq.o.mid hm7 hg6).k 0 rfl;have z2:=(HKq.o.mid hm7 hg6).k 2 rfl;have sz:=(HKq.o.mid hm7 hg6).lt)|(go_at_call 52;refine(HIk.o _ w7 h7 hm7 HP7.o).mono ?_;clear HIk;rintro e w8 h8;rcases h8 with⟨rfl,O8,hO8,h8,hm8⟩|⟨rfl,O8,r8,hr8,h8⟩));rotate_left
  ·
   go_ret;refine .inr ⟨rfl,O8,toldAll l (bareL (xs.take j))++(([markL7 markA]++toldJoin l markT true (bareL (sub.take k)))++([markL7 markT]++r8)),?_,?_⟩
   · refine List.IsPrefix.trans ((List.prefix_append_right_inj _).2 ?_) HPj.o;rw [List.append_assoc,List.append_assoc];refine(List.prefix_append_right_inj _).2 (List.IsPrefix.trans ?_ (List.IsPrefix.trans (toldJ_pre l markT sub (sub.length - (k+1)) (k+1) (by omega)) (List.prefix_append _ _)));rw [HTk.o];exact(List.prefix_append_right_inj _).2 (by rw [if_neg hk0];exact(List.prefix_append_right_inj _).2 hr8)
   rw [← List.append_assoc,HPre.o];simpa [List.append_assoc] using h8
  ·
   go_ret;refine .inr ⟨rfl,O6,toldAll l (bareL (xs.take j))++(([markL7 markA]++toldJoin l markT true (bareL (sub.take k)))++[markL7 markT]),?_,?_⟩
   · refine List.IsPrefix.trans ((List.prefix_append_right_inj _).2 ?_) HPj.o;rw [List.append_assoc,List.append_assoc];refine(List.prefix_append_right_inj _).2 (List.IsPrefix.trans ?_ (List.IsPrefix.trans (toldJ_pre l markT sub (sub.length - (k+1)) (k+1) (by omega)) (List.prefix_append _ _)));rw [HTk.o];exact(List.prefix_append_right_inj _).2 (by rw [if_neg hk0];exact List.prefix_append _ _)
   rw [← List.append_assoc,HPre.o];simpa [List.append_assoc] using h6
  go_roundw
  case rel=>exact⟨k+1,O8,hlt2,by go_num,Lh fun q h=>hO8 q (HO6.o q h),Lh (by show St O8 (prej++([markL7 markA]++toldJoin l markT true (bareL (sub.take (k+1))))) _;rw [HTk.o,if_neg hk0];simpa [List.append_assoc] using h8),Lh (HM6.o.trans ((hm7.trans hm8).mono HO6.o))⟩
  simp [intOf];omega
 obtain rfl:kd=4:=HKd.o;have HMk:Hid (toldOne l (.mk 4 (i:Int) (bareL sub))=toldAll l (bareL sub)):=Lh (by rw [toldOne_mk];simp);rw [HMk.o] at HPa HTo HPj;go_wp2;go_loopw [60] (fun v60 wq=>BwRel St O5 prej (fun k=>toldAll l (bareL (sub.take k))) sub.length w5 v60 wq) (fun v60 _=>sub.length - (intOf v60).toNat)
 case atStart=>exact⟨0,O5,Nat.zero_le _,rfl,Lh fun _ h=>h,Lh (by show St O5 (prej++(toldAll l (bareL (sub.take 0)))) w5;rw [List.take_zero,bareL_nil,toldAll_nil,List.append_nil];exact HS5.o),Lh (MidIn.refl _ _)⟩
 obtain⟨k,O6,hk,rfl,HO6,HS6,HM6⟩:=hrel;rename World=>wq;replace HS6:Hid (St O6 (prej++(toldAll l (bareL (sub.take k)))) wq):=HS6;have HKq:=Lh (HKc.o.mid HM6.o hgk);have hg6:=HO6.o g hgk;have HO6a:=Lh fun q (h:O q)=>HO6.o q (HO5.o q h);have HM6a:Hid (MidIn O W wq):=Lh (HM5.o.trans (HM6.o.mono HO5.o));clear y0 y2 sy v0 v1 v2 v7 sv;have y0:=HKq.o.k 0 rfl;have y2:=HKq.o.k 2 rfl;have sy:=HKq.o.lt
 by_cases hlt2:k<sub.length
 rotate_left
 ·
  obtain rfl:k=sub.length:=by omega
  have hE:=HS6.o;rw [List.take_length] at hE;have HE:=Lh hE;clear hE HS6;go_wp2;go_roundw
  case rel=>exact⟨j+1,O6,hlt,by go_num,HO6a,Lh (by show St O6 (pre++toldAll l (bareL (xs.take (j+1)))) _;rw [HTo.o,← List.append_assoc,HPre.o];exact HE.o),HM6a⟩
  simp [intOf];omega
 obtain⟨b2,off2,rfl,sb2⟩:∃ b off,a'=some ⟨b,off,none⟩∧b<w5.heap.size:=by obtain⟨a3,c3,e3,_,_,h3⟩:=HSub5.o.at encBl_len;obtain⟨rfl,_,_⟩:=Value.slice.inj e3;obtain⟨b3,o3,rfl,h4,_⟩:=h3.resolve_left (by omega);exact⟨b3,o3,rfl,h4⟩
 obtain⟨x2,hx2⟩:=gol hlt2;have hm2:=List.mem_of_getElem? hx2;have hb2:O b2:=HSo.o b2 rfl;have HRow:=Lh (row_mid HSub5.o HM6.o (fun q e=>HO5.o q (HSo.o q e)));have HX1:=Lh (blk_one1 HRow.o hx2);have HTk:=Lh (told_succ l hx2);have HPk:Hid ((prej++toldAll l (bareL (sub.take k)))++toldOne l (bareB x2) <+: all):=Lh (by rw [List.append_assoc,← HTk.o];exact pre_mono HPa.o (told_pre l sub (k+1)));have HIk:Hid (∀ pre7 W7,St O6 pre7 W7→MidIn O6 wq W7→pre7++toldOne l (bareB x2) <+: all→Calls Tryz.prog 52 #[.pointer (some ⟨s,0,none⟩),.slice (some ⟨b2,off2+k*3,none⟩) 1 1,clV B1 B2] W7 (WkRes St Sx O6 pre7 (toldOne l (bareB x2)) W7)):=Lh fun pre7 W7 h7 hm7 hp7=>by
  have h9:=HIH.o O6 pre7 _ [x2] W7 (by have:=one_size hm2;have:=HSs.o;omega) ((HSh5.o.mid (HM6.o.mono HO5.o)).mono HO6a.o |>.mid hm7) (row_mid HX1.o hm7 (fun q e=>by cases e;exact HO6a.o b2 hb2)) (fun q e=>by cases e;exact HO6a.o b2 hb2)
   (bins_mid (BIns.mono (fun q h=>HO6a.o q h) (fun _ _ _ h=>h) [x2] (bins_one (bins_mem (bins_mid HSin5.o (HM6.o.mono HO5.o)) hm2))) hm7) (fun y hy=>HOs.o y (by rw [bareL_map] at hy ⊢;rw [List.map_cons,List.map_nil,List.mem_singleton] at hy;exact List.mem_map.2 ⟨x2,hm2,hy.symm⟩)) h7 (by rw [bareL_map,List.map_cons,List.map_nil,toldAll_one];exact hp7)
  rw [bareL_map,List.map_cons,List.map_nil,toldAll_one] at h9;exact h9
 clear hx2 hm2 HRow HX1;go_wp2_with (go_at_call 52;refine(HIk.o _ wq HS6.o (MidIn.refl _ _) HPk.o).mono ?_;clear HIk;rintro e w8 h8;rcases h8 with⟨rfl,O8,hO8,h8,hm8⟩|⟨rfl,O8,r8,hr8,h8⟩);rotate_left
 ·
  go_ret;refine .inr ⟨rfl,O8,toldAll l (bareL (xs.take j))++(toldAll l (bareL (sub.take k))++r8),?_,?_⟩
  · refine List.IsPrefix.trans ((List.prefix_append_right_inj _).2 ?_) HPj.o;refine List.IsPrefix.trans ?_ (told_pre l sub (k+1));rw [HTk.o];exact(List.prefix_append_right_inj _).2 hr8
  rw [← List.append_assoc,HPre.o];simpa [List.append_assoc] using h8
 go_roundw
 case rel=>exact⟨k+1,O8,hlt2,by go_num,Lh fun q h=>hO8 q (HO6.o q h),Lh (by show St O8 (prej++(toldAll l (bareL (sub.take (k+1))))) _;rw [HTk.o];simpa [List.append_assoc] using h8),Lh (HM6.o.trans (((MidIn.refl _ _).trans hm8).mono HO6.o))⟩
 simp [intOf];omega
end Go.Proofs.YtanfebljiblhbaaGreatDoor
namespace Go.Proofs.YtanfebljiblhbaaGreatDoor
open Go Go.RowKit
theorem bwalk_all(l:List VertM)(s B1 B2:Nat)(all:List TLine)(St Sx:(Nat→Prop)→List TLine→World→Prop)(C:WkC B1 B2 all St Sx):∀ N,WkIH l s B1 B2 all St Sx N
 | 0=>fun _ _ _ _ _ h=>absurd h (Nat.not_lt_zero _)
 | N+1=>bwalk_step l s B1 B2 all St Sx C N (bwalk_all l s B1 B2 all St Sx C N)
def numF:Nat→List TLine→List (Nat × TLine)
 | _,[]=>[]
 | k,t :: r=>(k,t) :: numF (k+1) r
theorem numF_append:∀(k:Nat) (a b:List TLine),numF k (a++b)=numF k a++numF (k+a.length) b
 | _,[],_=>by simp [numF]
 | k,t :: a,b=>by show(k,t) :: numF (k+1) (a++b)=(k,t) :: (numF (k+1) a++numF (k+(a.length+1)) b);rw [numF_append (k+1) a b,show k+1+a.length=k+(a.length+1) by omega]
theorem numF_snoc(a:List TLine)(x:TLine):numF 0 (a++[x])=numF 0 a++[(a.length,x)]:=by rw [numF_append];simp [numF]
theorem numF_pre{a b:List TLine}(h:a <+: b):numF 0 a <+: numF 0 b:=by obtain⟨c,rfl⟩:=h;rw [numF_append];exact List.prefix_append _ _
noncomputable def toldL(l:List VertM)(R:List (Nat × Nat)):List TLine:=toldAll l (lnBlk l R)
theorem toldL_text(l:List VertM)(R:List (Nat × Nat)):(toldL l R).map (·.text)=lnSeen l R:=tldT_all l _
theorem toldL_few(l:List VertM)(R:List (Nat × Nat)):(toldL l R).length≤4*l.length:=by have h:=(ln_few l R).1;rw [← toldL_text,List.length_map] at h;exact h
abbrev lnE(x:Nat × TLine):Array Value:=#[.int .i64 x.1,tlV x.2]
section
variable {l : Nat} {J Jx : (Nat → Prop) → List (Nat × TLine) → World → Prop} {W : World} {B1 B2 : Nat} {all : List TLine}
def LnSt(l:Nat)(J:(Nat→Prop)→List (Nat × TLine)→World→Prop)(W:World)(B1 B2:Nat)(O:Nat→Prop)(pre:List TLine)(A:World):Prop:=
 (∀ k,O k→W.heap.size≤k∧k<A.heap.size)∧¬ O B1∧O B2∧Arr A B1 [.int .i64 pre.length]∧Arr A B2 [.func (.yield l) #[] #[]]∧J (fun k=>O k∨k=B1) (numF 0 pre) A
def LnSx(Jx:(Nat→Prop)→List (Nat × TLine)→World→Prop)(W:World)(B1:Nat)(O:Nat→Prop)(pre:List TLine)(A:World):Prop:=
 (∀ k,O k→W.heap.size≤k∧k<A.heap.size)∧B1<A.heap.size∧Jx (fun k=>O k∨k=B1) (numF 0 pre) A
theorem ln_wkc(hB1:W.heap.size≤B1)(hall:all.length<1000000000)
  (hJ:∀ O O' pre A B,J O pre A→MidOut O A B→(∀ k,O' k→(O k∨A.heap.size≤k)∧k<B.heap.size)→J O' pre B)
  (hY:∀ O (m':Nat) pre x rest A,numF 0 all=pre++x :: rest→(∀ k,O k→W.heap.size≤k∧k<A.heap.size)→J O pre A →
   YieldAt Fence.wide m' Tryz.prog l (lnE x) A fun e B =>
    (e=.returned (.bool true)∧J O (pre++[x]) B∧MidIn O A B)∨(e=.returned (.bool false)∧Jx O (pre++[x]) B∧MidIn O A B)) :
  WkC B1 B2 all (LnSt l J W B1 B2) (LnSx Jx W B1) where
 low:=fun O pre A h k hk=>(h.1 k hk).2
 new:=fun O pre A A' ⟨h1,h2,h3,h4,h5,h6⟩ hb=>by
  refine⟨fun k=>O k∨(A.heap.size≤k∧k<A'.heap.size),fun k h=>.inl h,fun k h h'=>.inr ⟨h,h'⟩,fun k hk => ?_,fun q => ?_,.inl h3,h4.over hb,h5.over hb,hJ _ _ _ _ _ h6 (MidOut.of_below hb) fun k hk => ?_⟩
  ·
   have:=hb.size;have:=h3;rcases hk with hk|hk
   · have:=h1 k hk;omega
   · have:=h1 B2 h3;omega
  ·
   rcases q with q|q
   · exact h2 q
   · have:=h4.lt;omega
  ·
   have:=hb.size;rcases hk with(hk|hk)|rfl
   · have:=h1 k hk;exact⟨.inl (.inl hk),by omega⟩
   · exact⟨.inr hk.1,hk.2⟩
   · have:=h4.lt;exact⟨.inl (.inr rfl),by omega⟩
 call:=fun O pre x A ⟨h1,h2,h3,h4,h5,h6⟩ hp=>by
  have hne:B2≠B1:=fun e=>h2 (e▸h3);have hk:pre.length<1000000000:=by have:=hp.length_le;simp at this;omega
  obtain⟨A2,hA2⟩:∃ A2,(A.setCell ⟨B1,0,none⟩ (.int .i64 ((pre.length:Int)+1))).alloc (.cells #[.string x.text,.int .u8 x.id.pid.author.toNat,.int .u16 x.id.pid.seq.toNat,.int .u8 x.id.n.toNat] 42)=A2:=⟨_,rfl⟩;have hn2:Arr A2 B1 [.int .i64 ((pre.length:Int)+1)]:=by rw [← hA2];exact(h4.set 0 _).alloc _
  have hy2:Arr A2 B2 [.func (.yield l) #[] #[]]:=by rw [← hA2];exact(h5.set_other (a:=⟨B1,0,none⟩) hne _).alloc _
  have hg1:=gsc (g:=B1) A 0 (.int .i64 ((pre.length:Int)+1));have hs1:(A.setCell ⟨B1,0,none⟩ (.int .i64 ((pre.length:Int)+1))).heap.size=A.heap.size:=by simp
  have hb2:Below (A.setCell ⟨B1,0,none⟩ (.int .i64 ((pre.length:Int)+1))).heap.size (A.setCell ⟨B1,0,none⟩ (.int .i64 ((pre.length:Int)+1))) A2:=by rw [← hA2];exact bnew _
  have hs2:A.heap.size<A2.heap.size:=by rw [← hA2];simp
  have hout:MidOut (fun k=>O k∨k=B1) A A2:=(MidOut.of_grown hg1 (fun r e=>.inr (by cases e;rfl))).trans (MidOut.of_below hb2);have hin:MidIn O A A2:=(MidIn.of_grown hg1 (fun k q=>(h1 k q).2) (fun r e=>by cases e;exact h2)).trans (MidIn.of_below hb2 (fun k q=>by rw [hs1];exact(h1 k q).2));have hbd:∀ k,(O k∨k=B1)→W.heap.size≤k∧k<A2.heap.size:=fun k q=>by
   rcases q with q|rfl
   · have:=h1 k q;omega
   · have:=h4.lt;omega
  have hJ2:J (fun k=>O k∨k=B1) (numF 0 pre) A2:=hJ _ _ _ _ _ h6 hout fun k q=>⟨.inl q,(hbd k q).2⟩;obtain⟨rest,hr⟩:=hp;refine clos_any l B1 B2 pre.length x A _ _ h4 h5 hne hk fun m => ?_;rw [hA2];refine YieldAt.mono (hY _ m (numF 0 pre) (pre.length,x) (numF (pre.length+1) rest) A2 ?_ hbd hJ2) ?_
  · rw [← hr,List.append_assoc,numF_append];simp [numF]
  ·
   rintro e B (⟨rfl,hj,hm⟩|⟨rfl,hj,hm⟩)
   ·
    have hBs:=hm.size;refine .inl ⟨rfl,⟨fun k q => ?_,h2,h3,?_,hy2.mid hm (.inl h3),?_⟩,hin.trans (hm.mono fun k q=>.inl q)⟩
    · have:=h1 k q;omega
    · have:=hn2.mid hm (.inr rfl);simpa using this
    · rw [numF_snoc];exact hj
   ·
    have hBs:=hm.size;refine .inr ⟨rfl,fun k q => ?_,?_,?_⟩
    · have:=h1 k q;omega
    · have:=h4.lt;omega
    · rw [numF_snoc];exact hj
end
end Go.Proofs.YtanfebljiblhbaaGreatDoor
namespace Go.Proofs.YtanfebljiblhbaaGreatDoor
open Go Go.RowKit
section
attribute [local irreducible] toldJoin toldAll toldOne bareL bareB toldL lnBlk aliveX blkM
theorem lines1_gen(gb fb:Nat)(p:Option Addr)(LL:List VertM)(RR:List (Nat × Nat))(file:VidM)(w:World)(hgb:Arr w gb [.pointer p])(hfb:Arr w fb [.int .u8 file.pid.author.toNat,.int .u16 file.pid.seq.toNat,.int .u8 file.n.toNat])
  (hlof:∀ W,Below w.heap.size w W→Calls Tryz.prog 35 #[.pointer p,vidV file] W (LofL W LL RR)) (hll:LL.length≤65536) :
  SeqMid Tryz.prog 51 #[.pointer (some ⟨gb,0,none⟩),.pointer (some ⟨fb,0,none⟩)] lnE (numF 0 (toldL LL RR)) w:=by
 intro l m J Jx W hW hst hJ hJx hY;refine callsIn_wide.2 ?_;show Calls Tryz.prog 51 #[.func (.yield l) #[] #[],.pointer (some ⟨gb,0,none⟩),.pointer (some ⟨fb,0,none⟩)] W _;have HGb:=Lh (hgb.over hW);have HFb:=Lh (hfb.over hW);have HLf:=Lh hlof;have HWw:=Lh hW;have HSt:=Lh hst;have HJ:=Lh hJ;have HY:=Lh hY;clear hgb hfb hlof hW hst hJ hJx hY;go_enter Tryz.func51,Tryz.ntmps51;go_upto_region 1 with fail;have HYb:=Lh (anw W #[.func (.yield l) #[] #[]] 116);have HB1:=Lh (bnew (w:=W) (.cells #[.func (.yield l) #[] #[]] 116));have hs1:(W.alloc (.cells #[.func (.yield l) #[] #[]] 116)).heap.size=W.heap.size+1:=by simp
 generalize W.alloc (.cells #[.func (.yield l) #[] #[]] 116)=w1 at *;have HG1:=Lh (HGb.o.over HB1.o);have HF1:=Lh (HFb.o.over HB1.o);obtain⟨g0,sg⟩:=HG1.o.c1;obtain⟨f0,f1,f2,sf⟩:=HF1.o.c3;go_upto_region 2 with(go_at_call 35;(with_reducible refine(HLf.o _ (bvo HWw.o HB1.o)).mono ?_);rintro e w2 ⟨s,rfl,hs,hsh,hb2,lp,lc,v1,v2,ha,ho⟩)
 have HN:=Lh (anw w2 #[.int .i64 0] 3);have HB3:=Lh (bnew (w:=w2) (.cells #[.int .i64 0] 3));have hs3:(w2.alloc (.cells #[.int .i64 0] 3)).heap.size=w2.heap.size+1:=by simp
 generalize w2.alloc (.cells #[.int .i64 0] 3)=w3 at *;have HS2:Hid (ShL (fun k=>W.heap.size≤k∧k<w2.heap.size) w2 s LL):=Lh (shl_of ha hs ho fun k q1 q2=>⟨by omega,q2⟩);have HSh:=Lh (hsh.over HB3.o);have HB2:=Lh hb2;have hs2:=hb2.size;clear hsh hb2 ha ho g0 sg f0 f1 f2 sf HG1 HF1;go_wp2_with (go_at_call 54;(with_reducible refine(srel_any s _ _ _ HSh.o).mono ?_);rintro e w4 ⟨⟨r,rfl,hr⟩,hw4⟩;obtain rfl:=hw4.symm;have HR:=Lh hr;clear hr);refine(salive_any s _ _ _ HSh.o hll).mono ?_;rw [sares_is];rintro e w4 ⟨v4,rfl,ho4,hb4⟩;have HO4:=Lh ho4;have HB4:=Lh hb4;clear ho4 hb4;go_wp2_with fail;have HF:Hid ((aliveX LL RR).length≤LL.length):=Lh (aliveX_len _ _);have HAl:Hid (∀ i∈aliveX LL RR,i≤1000000):=Lh fun i hi=>by have:=aliveX_lt hi;omega
 refine(bof_any r LL.length RR ((aliveX LL RR).length+1) (aliveX LL RR) v4 _ (Nat.lt_succ_self _) (by have:=HF.o;omega) HAl.o (HR.o.over HB4.o) HO4.o.row).mono ?_;rintro e w5 ⟨v5,xs,rfl,hx5,hr5,hb5⟩;have hs4:=HB4.o.size;have hs5:=hb5.size;have HX:=Lh hx5;have HBl:Hid (bareL xs=lnBlk LL RR):=Lh (hr5.trans (by unfold lnBlk;rfl));have HB35:Hid (Below w3.heap.size w3 w5):=Lh (bvo HB4.o hb5);have HB25:Hid (Below w2.heap.size w2 w5):=Lh (bvo HB3.o HB35.o);clear hx5 hr5 hb5;obtain⟨B1,hB1⟩:∃ B1,w2.heap.size=B1:=⟨_,rfl⟩;rw [hB1] at HN hs3 ⊢;have hBW:Below W.heap.size W w5:=bov (bvo HB1.o HB2.o) (by omega) HB25.o;obtain⟨O0,hO0⟩:∃ O0:Nat→Prop,O0=fun k=>W.heap.size≤k∧k<w5.heap.size∧k≠B1:=⟨_,rfl⟩;have hin:∀ k,W.heap.size≤k→k<w5.heap.size→k≠B1→O0 k:=fun k q1 q2 q3=>by rw [hO0];exact⟨q1,q2,q3⟩
 have HS5:Hid (ShL O0 w5 s LL):=Lh ((HS2.o.mid (MidIn.of_below HB25.o fun k q=>q.2)).mono fun k q=>hin k q.1 (by omega) (by omega));have HW5:=Lh (ln_wkc (W:=W) (B1:=B1) (B2:=W.heap.size) (all:=toldL LL RR) (by omega) (by have:=toldL_few LL RR;omega) HJ.o HY.o);have hst5:LnSt l J W B1 W.heap.size O0 [] w5:=by
  refine⟨fun k q => ?_,fun q => ?_,hin _ (by omega) (by omega) (by omega),?_,?_,?_⟩
  · rw [hO0] at q;exact⟨q.1,q.2.1⟩
  · rw [hO0] at q;exact q.2.2 rfl
  · exact HN.o.over HB35.o
  · exact HYb.o.over (bvo HB2.o HB25.o)
  refine HSt.o _ _ (fun k q => ?_) hBW;rcases q with q|rfl
  · rw [hO0] at q;exact⟨q.1,q.2.1⟩
  omega
 have HSt5:=Lh hst5;have hov:∀ k,v5.ownBlock=some k→O0 k:=fun k q=>by have h1:=gown_low HX.o.own q;have h2:=gown_size HX.o.own q;exact hin k (by omega) h2 (by omega)
 have HOv:=Lh hov;have HIn:Hid (BIns O0 w5 xs):=Lh (BIns.mono (fun k q=>hin k (by have:=q.1;omega) q.2.1 (by have:=q.1;omega)) (fun _ _ _ h=>h) xs HX.o.ins);have HOk:Hid (∀ x∈bareL xs,OkB LL.length x):=Lh fun x hx=>by rw [HBl.o] at hx;unfold lnBlk at hx;exact blk_ok _ _ _ (fun i hi=>aliveX_lt hi) x hx
 have HTl:Hid (toldAll LL (bareL xs)=toldL LL RR):=Lh (by rw [HBl.o];unfold toldL;rfl);have HLow:Hid (∀ k,O0 k→W.heap.size≤k∧k<w5.heap.size):=Lh hst5.1;have hBl:W.heap.size≤B1:=by omega
 clear hst5 hov hin hO0 hB1 HS2 HSh HN HR HO4 HB4 HSt;go_wp2_with (go_at_call 52;refine(bwalk_all _ s B1 W.heap.size _ _ _ HW5.o (SizeOf.sizeOf xs+1) O0 [] v5 xs w5 (Nat.lt_succ_self _) HS5.o HX.o.own.row HOv.o HIn.o HOk.o HSt5.o (by rw [HTl.o,List.nil_append];exact List.prefix_refl _)).mono ?_;rw [HTl.o];rintro e w6 h6;rcases h6 with⟨rfl,O6,hO6,h6,hm6⟩|⟨rfl,O6,r6,hr6,h6⟩)
 ·
  go_end0;rw [List.nil_append] at h6;refine⟨⟨_,rfl⟩,fun k=>O6 k∨k=B1,fun k q => ?_,.inl h6.2.2.2.2.2⟩;rcases q with q|rfl
  · exact h6.1 k q
  exact⟨hBl,h6.2.2.2.1.lt⟩
 go_end0;rw [List.nil_append] at h6;refine⟨⟨_,rfl⟩,fun k=>O6 k∨k=B1,fun k q => ?_,.inr ⟨_,numF_pre hr6,h6.2.2⟩⟩;rcases q with q|rfl
 · exact h6.1 k q
 exact⟨hBl,h6.2.1⟩
theorem lines1_mid(gb fb b:Nat)(L:List PatchM)(file:VidM)(w:World)(hgb:Arr w gb [.pointer (some ⟨b,0,none⟩)])(hfb:Arr w fb [.int .u8 file.pid.author.toNat,.int .u16 file.pid.seq.toNat,.int .u8 file.n.toNat])
  (hg:GrIs w b L) (hw:WfG L) (hil:(idsM L).length≤65536) (hel:(edgesM L).length≤1000000) :
  SeqMid Tryz.prog 51 #[.pointer (some ⟨gb,0,none⟩),.pointer (some ⟨fb,0,none⟩)] lnE (numF 0 (toldL (linesM L file) (relM L file))) w:=
 lines1_gen gb fb (some ⟨b,0,none⟩) _ _ file w hgb hfb (fun W h=>lofL_any b L file W (hg.over h) hw hil hel) (lines_few hil)
theorem lines_any(p:Option Addr)(file:VidM)(w:World):Calls Tryz.prog 19 #[.pointer p,vidV file] w fun e w'=>e=.returned (.func (.func 51) #[] #[.pointer (some ⟨w.heap.size,0,none⟩),.pointer (some ⟨w.heap.size+1,0,none⟩)]) ∧
  w'=(w.alloc (.cells #[.pointer p] 30)).alloc (.cells (cV file) 27):=by go_enter Tryz.func19,Tryz.ntmps19;go_wp2;go_ret;exact⟨rfl,rfl⟩
end
open Go.Shelf
attribute [local go_sem] Oper.semAt_some
theorem slTl:SlT Tryz.prog 37 42 4 24:=slT_of Tryz.underlying37 (by kernel_rfl) (by decide)
theorem encTl_len(t:TLine):(tlL t).length=4:=rfl
theorem own_mid{α:Type}{enc:α→List Value}{sz:Nat}{e:TypeId}{A B:World}{base:Nat}{v:Value}{xs:List α}(h:GOwn enc sz e A base v xs)(hb:∀ b,v.ownBlock=some b→B.heap[b]? = A.heap[b]?):GOwn enc sz e B base v xs:=by
 obtain⟨h1,h2|⟨g,cap,cur,rfl,h3,h4,h5⟩⟩:=h
 · exact⟨h1,.inl h2⟩
 exact⟨h1,.inr ⟨g,cap,cur,rfl,h3,(hb g rfl).trans h4,h5⟩⟩
theorem numF_snd:∀(k:Nat) (z:List TLine),(numF k z).map (·.2)=z
 | _,[]=>rfl
 | k,y :: z=>by simp [numF,numF_snd (k+1) z]
def AlI(w0:World)(go:Nat)(O:Nat→Prop)(pre:List (Nat × TLine))(W:World):Prop:=
 (∀ k,O k→go<k)∧(∃ v,ArrT W go 37 [v]∧GOwn tlL 4 42 W w0.heap.size v (pre.map (·.2))∧∀ k,v.ownBlock=some k→¬ O k)∧Below w0.heap.size w0 W
theorem ali_keep{w0:World}{go:Nat}(hgo:w0.heap.size≤go)(O O':Nat→Prop)(pre:List (Nat × TLine))(A B:World)(h:AlI w0 go O pre A)(ho:MidOut O A B)(hn:∀ k,O' k→(O k∨A.heap.size≤k)∧k<B.heap.size):AlI w0 go O' pre B:=by
 obtain⟨h1,⟨v,h2,h3,h4⟩,h5⟩:=h;have hlt:=h2.arr.lt;refine⟨fun k q => ?_,⟨v,(ho.block go hlt fun q=>absurd (h1 go q) (Nat.lt_irrefl _)).trans h2,own_mid h3 fun k q=>ho.block k (gown_size h3 q) (h4 k q),fun k q q2 => ?_⟩,⟨ho.os.trans h5.os,ho.tape.trans h5.tape,ho.output.trans h5.output,Nat.le_trans h5.size ho.size,fun k q=>(ho.block k ?_ fun q2 => ?_).trans (h5.block k q)⟩⟩
 ·
  rcases (hn k q).1 with q|q
  · exact h1 k q
  omega
 ·
  rcases (hn k q2).1 with q2|q2
  · exact h4 k q q2
  have:=gown_size h3 q;omega
 · have:=h5.size;omega
 have:=h1 k q2;omega
theorem ball_gen(p:Option Addr)(LL:List VertM)(RR:List (Nat × Nat))(file:VidM)(w:World)(hlof:∀ W,Below w.heap.size w W→Calls Tryz.prog 35 #[.pointer p,vidV file] W (LofL W LL RR))(hll:LL.length≤65536) :
  Calls Tryz.prog 14 #[.pointer p,vidV file] w (OwnRes tlL 4 42 w (toldL LL RR)):=by
 obtain⟨i0,z0,ht,hi,hz,hsize,hby,hzs,hsz⟩:=slTl.out;have HI:=Lh (And.intro hi (And.intro hz (And.intro hsize (And.intro hby (And.intro hzs hsz)))));clear ht hi hz hsize hby hzs hsz;refine(callsIn_wide (n:=3)).1 ?_;refine callsIn_of_wp_marks Tryz.func14 rfl trivial ?_ rfl;simp only [Tryz.ntmps14,List.size_toArray,List.length_cons,List.length_nil,Nat.reduceAdd,Nat.reduceSub,Array.replicate_succ,Array.replicate_zero,List.push_toArray,List.append_toArray,List.nil_append,List.cons_append];gi_wp2_with (refine⟨trivial,?_⟩;gi_at_call 19;refine(callsIn_wide.2 (lines_any p file _)).mono ?_;rintro e w' ⟨rfl,rfl⟩);have e1:=bnew (w:=w) (.cells (cV file) 27);have s1:(w.alloc (.cells (cV file) 27)).heap.size=w.heap.size+1:=by simp
 generalize w.alloc (.cells (cV file) 27)=W1 at *;have o2:=arrT_new W1 [.slice none 0 0] 37;have e2:=bnew (w:=W1) (.cells #[.slice none 0 0] 37);have s2:(W1.alloc (.cells #[.slice none 0 0] 37)).heap.size=W1.heap.size+1:=by simp
 change ArrT (W1.alloc (.cells #[.slice none 0 0] 37)) _ _ _ at o2;generalize W1.alloc (.cells #[.slice none 0 0] 37)=W2 at *;have g3:=anw W2 #[.pointer p] 30;have e3:=bnew (w:=W2) (.cells #[.pointer p] 30);have s3:(W2.alloc (.cells #[.pointer p] 30)).heap.size=W2.heap.size+1:=by simp
 generalize W2.alloc (.cells #[.pointer p] 30)=W3 at *;have f4:=anw W3 (cV file) 27;have e4:=bnew (w:=W3) (.cells (cV file) 27);have s4:(W3.alloc (.cells (cV file) 27)).heap.size=W3.heap.size+1:=by simp
 generalize W3.alloc (.cells (cV file) 27)=W4 at *;rw [s3,s2,s1] at f4;rw [s2,s1] at g3;rw [s1] at o2;have o4:=((o2.over e3).over e4);have g4:=g3.over e4;have b4:Below w.heap.size w W4:=bov (bov (bvo e1 e2) (by omega) e3) (by omega) e4;clear e1 e2 e3 e4 o2 g3;refine wpIn_rangeFunc_mid (gf:=51) rfl (enters_of Tryz.func51 (by kernel_rfl) rfl) (lines1_gen (w.heap.size+1+1) (w.heap.size+1+1+1) p LL RR file W4 g4 f4 (fun W h=>hlof W (bvo b4 h)) hll) (Below.refl _ _) (fun _=>rfl)
  (AlI w (w.heap.size+1)) (fun _ _ _ _=>False) (ali_keep (by omega)) (fun _ _ _ _ _ _ h _ _=>h) ?start
  (fun O x a' W=>∃ B,¬ O B∧ArrT W B 42 (tlL x.2)∧a'={tmps:=#[.pointer p,vidV file,undef,.pointer (some ⟨w.heap.size,0,none⟩),.slice none 0 0,.pointer (some ⟨w.heap.size+1,0,none⟩),undef,.pointer (some ⟨B,0,none⟩),.pointer p,vidV file,
   .func (.func 51) #[] #[.pointer (some ⟨w.heap.size+1+1,0,none⟩),.pointer (some ⟨w.heap.size+1+1+1,0,none⟩)],.int .i64 x.1,tlV x.2,undef,undef,undef,undef,undef],defers:=[]}) ?ax ?assign ?body ?done ?stop
 case start =>intro O B hO hB;exact⟨fun k q=>by have:=(hO k q).1;omega,⟨_,o4.over hB,gown_nil _ _,nofun⟩,b4.trans (hB.mono (by omega))⟩
 case ax =>rintro O x a' A B ⟨B0,h1,h2,rfl⟩ ho;exact⟨B0,h1,(ho.block B0 h2.arr.lt h1).trans h2,rfl⟩
 case assign =>
  intro l m O pre x W K hO hi hK;gi_wp2;have hb:=bnew (w:=W) (.cells #[.string x.2.text,.int .u8 x.2.id.pid.author.toNat,.int .u16 x.2.id.pid.seq.toNat,.int .u8 x.2.id.n.toNat] 42);have hs:(W.alloc (.cells #[.string x.2.text,.int .u8 x.2.id.pid.author.toNat,.int .u16 x.2.id.pid.seq.toNat,.int .u8 x.2.id.n.toNat] 42)).heap.size=W.heap.size+1:=by simp
  exact hK _ _ (MidIn.of_below hb fun k q=>(hO k q).2) (ali_keep (by omega) _ _ _ _ _ hi (MidOut.of_below hb) fun k q=>⟨.inl q,by have:=(hO k q).2;omega⟩) ⟨W.heap.size,fun q=>by have:=(hO _ q).2;omega,arrT_new W (tlL x.2) _,rfl⟩
 case body =>
  rintro l m O pre x rest W hx hO ⟨h1,⟨v,h2,h3,h4⟩,h5⟩ a' ⟨B,hB,hl,rfl⟩;have hlen:(pre.map (·.2)).length≤262144:=by
   have h6:=congrArg List.length hx;have h7:=toldL_few LL RR;have h8:=hll;have h9:∀(k:Nat) (z:List TLine),(numF k z).length=z.length:=fun k z=>by
    induction z generalizing k with
    | nil=>rfl
    | cons y z ih=>simp [numF,ih]
   rw [h9,List.length_append,List.length_cons] at h6;rw [List.length_map];omega
  have HX:=Lh hx;have HO:=Lh hO;have H1:=Lh h1;have H4:=Lh h4;clear hx hO h1 h4;obtain⟨c0,sc⟩:=h2.arr.c1;obtain⟨l0,l1,l2,l3,sl⟩:=hl.arr.c4;have hbl:=bnew (w:=W) (.cells #[.string x.2.text,.int .u8 x.2.id.pid.author.toNat,.int .u16 x.2.id.pid.seq.toNat,.int .u8 x.2.id.n.toNat] 42);have hsl:(W.alloc (.cells #[.string x.2.text,.int .u8 x.2.id.pid.author.toNat,.int .u16 x.2.id.pid.seq.toNat,.int .u8 x.2.id.n.toNat] 42)).heap.size=W.heap.size+1:=by simp
  have hnl:=arrT_new W (tlL x.2) 42;have hd:=h2.over hbl;have hd0:=hd.arr.k 0 rfl;have hr:=h3.over hbl;have hne:=hd.ne hr (by decide);have h5s:=h5.size;have HNw:Hid (∀ q u,(tlL x.2)[q]? = some u→(W.alloc (.cells #[.string x.2.text,.int .u8 x.2.id.pid.author.toNat,.int .u16 x.2.id.pid.seq.toNat,.int .u8 x.2.id.n.toNat] 42)).cell? (Addr.add ⟨W.heap.size,0,none⟩ q)=some u):=Lh fun q u hu=>by
   have e:Addr.add ⟨W.heap.size,0,none⟩ q=⟨W.heap.size,q,none⟩:=by
    unfold Addr.add
    by_cases hq:q=0
    · subst hq;rfl
    simp [hq]
   rw [e];exact hnl.arr.cell hu
  gi_wp2_with (gi_at_builtin;refine wpListIn_append_own_at _ rfl _ _ 37 rfl w.heap.size 42 i0 z0 4 24 Tryz.underlying37 HI.o.1 HI.o.2.1 HI.o.2.2.1 HI.o.2.2.2.1 HI.o.2.2.2.2.1 HI.o.2.2.2.2.2 v _ _ rfl hr ⟨W.heap.size,0,none⟩ 1 1 (tlL x.2) rfl rfl HNw.o (by intro u hu;simp at hu;rcases hu with rfl|rfl|rfl|rfl <;> rfl) (by unfold maxLen;omega) (by omega) (by omega) ?_;intro v' w1 hown' hgrow _ hat;obtain⟨g',cap',rfl⟩:=ownsRow_succ hown';have hk:=hd.grown hr (by decide) hgrow;have hk0:=hk.arr.k 0 rfl;have hkf:=hk.arr.free 0;have hks:=hk.arr.lt);have hO:=HO.o;have h1:=H1.o;have h4:=H4.o;have hown9:=hown';have hno:∀ k,(Value.slice (some ⟨g',0,none⟩) ((pre.map (·.2)).length+1) cap').ownBlock=some k→¬ O k:=fun k q q2=>by
   rcases hat with e|e
   · rw [e] at q;exact h4 k q q2
   rw [e] at q;cases q;have:=(hO _ q2).2;omega
  have hgo:¬ O (w.heap.size+1):=fun q=>absurd (h1 _ q) (Nat.lt_irrefl _);have hks':W.heap.size≤w1.heap.size:=by have:=hgrow.size;omega
  have hm1:MidIn O W w1:=(MidIn.of_below hbl fun k q=>(hO k q).2).trans (MidIn.of_grown hgrow (fun k q=>by have:=(hO k q).2;omega) (fun k e=>h4 k e));have hgn:GOwn tlL 4 42 w1 w.heap.size (.slice (some ⟨g',0,none⟩) ((pre.map (·.2)).length+1) cap') ((pre++[x]).map (·.2)):=by rw [List.map_append];exact GOwn.snoc hown9
  have hbw:Below w.heap.size w w1:=bgr (bov h5 h5s hbl) (by omega) hr hgrow;have hne2:=hk.ne hgn (by decide);rw [List.length_map] at hgn hno hne2;refine⟨hm1.trans (MidIn.of_grown (gsc (g:=w.heap.size+1) w1 0 _) (fun k q=>by have:=(hO k q).2;omega) (fun k e=>by cases e;exact hgo)),h1,⟨_,hk.set 0 _,own_set hgn (fun q=>hne2 q.symm) _ _,hno⟩,hbw.setCell (p:=⟨w.heap.size+1,0,none⟩) (Nat.le_succ _) _⟩
 case done =>
  rintro O W hO ⟨h1,⟨v,h2,h3,h4⟩,h5⟩ hO0 hK;obtain⟨c0,sc⟩:=h2.arr.c1;gi_wp2;rw [numF_snd] at h3;have s5:W4.heap.size=w.heap.size+1+1+1+1:=by omega
  rw [s5] at hK hO0;refine⟨by simp,.inl ⟨_,_,rfl,run_takeDeferred hK,?_⟩⟩;refine⟨_,results_tmp rfl _ _ _,v,rfl,own_mid h3 fun k q=>World.putObj_heap_other (fun e=>h4 k q (e▸hO0)),h5.grown (grownBy_putObj' W _ _) h5.size (fun k e=>by cases e;omega)⟩
 case stop =>rintro c O pre W _ _ h _ _;exact h.elim
theorem ball_any(b:Nat)(L:List PatchM)(file:VidM)(w:World)(hg:GrIs w b L)(hw:WfG L)(hil:(idsM L).length≤65536)(hel:(edgesM L).length≤1000000) :
  Calls Tryz.prog 14 #[.pointer (some ⟨b,0,none⟩),vidV file] w (OwnRes tlL 4 42 w (toldL (linesM L file) (relM L file))):=
 ball_gen (some ⟨b,0,none⟩) _ _ file w (fun W h=>lofL_any b L file W (hg.over h) hw hil hel) (lines_few hil)
end Go.Proofs.YtanfebljiblhbaaGreatDoor
