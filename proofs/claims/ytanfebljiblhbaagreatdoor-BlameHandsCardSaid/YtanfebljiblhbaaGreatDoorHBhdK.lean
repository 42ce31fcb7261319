/- A func against nil; a region that draws, in a round. BlameHands. The card of BlameHands closed: for every input the law returns true and leaves its arguments as they were. Of the listed tables the walk needs the powers of ten. -/
import Derived.Sort.QuietThIn
import Derived.Sort.BigQuietIn
import Derived.TacticsIn
import Derived.Test.YtanfebljiblhbaaGreatDoorHWb
import Derived.Test.YtanfebljiblhbaaGreatDoorHCard
import Derived.Stop.LaidErr
set_option linter.unusedVariables false
set_option linter.unusedSimpArgs false
namespace Go.Proofs.YtanfebljiblhbaaGreatDoor
open Go Go.RowKit

theorem eql_nilf(F:Fn)(a c:Array Value)(w:World):(binOp .eql 49 (.func F a c) .nilFunc).run Tryz.prog w=.ok (.bool false) w:=by
 have hu:=Tryz.underlying49
 have h:(Op.equalIn (9999+1) 49 (.func F a c) .nilFunc).run Tryz.prog w=.ok false w:=by
  rw [Op.equalIn]
  simp [go_sem,hu]
 show((do pure (.bool (← Op.equal 49 (.func F a c) .nilFunc)):Sem Value)).run Tryz.prog w=_
 have h2:(Op.equal 49 (.func F a c) .nilFunc).run Tryz.prog w=.ok false w:=h
 simp [Sem.run_bind,h2]
/-- an operation that is no defer statement goes in a round as anywhere -/
def noDefer(o:Oper):Bool:=match o.op with
 | .defer _=>false
 | _=>true
theorem noDefer_out{o:Oper}(h:noDefer o=true):∀ c,o.op≠.defer c:=fun c e=>by
 unfold noDefer at h;rw [e] at h;cases h
theorem wpAnyIn_round{l n:Nat}{P:Program}{md:Region.Mode}{ops:Array Oper}{Q:Exit→Act→World→Prop}(hd:∀(i:Nat) (o:Oper),ops[i]? = some o→noDefer o=true):∀(fuel:Nat) (listed:Array Bool) (a:Act) (w:World),
  wpAnyIn Fence.wide n P md ops Q fuel listed a w→wpAnyIn (Fence.wide.inRound l) n P md ops Q fuel listed a w
 | 0,_,_,_,h=>h
 | fuel+1,listed,a,w,h=>by
  refine⟨h.1,fun i hi => ?_⟩
  have h1:=wpOpIn_mono (fun a w h=>wpAnyIn_round (l:=l) hd fuel _ a w h) (h.2 i hi)
  unfold wpOpIn at h1 ⊢
  cases ho:ops[i]? with
  | none=>rw [ho] at h1;exact h1
  | some o =>
   rw [ho] at h1
   simp only at h1 ⊢
   split
   ·
    rename_i hw
    rw [if_pos hw] at h1
    refine⟨h1.1,?_⟩
    have h2:=h1.2
    rw [Oper.semAt_eq _ _ _ (noDefer_out (hd i o ho))] at h2 ⊢
    exact h2
   ·
    rename_i hw
    rw [if_neg hw] at h1
    exact h1
theorem wpIn_region_quiet_round{l n id:Nat}{P:Program}{Q:Exit→Act→World→Prop}{a:Act}{w:World}{os:List Oper}(hm:P.follows .mixedOrders=true)(hB:Region.lexB .any os.toArray=true)(hd:os.all noDefer=true)
  (h:wpQuietIn Fence.wide n P os.toArray (fun w'=>∃ n,w'=w.drewN n) (fun a'=>∀ w',(∃ n,w'=w.drewN n)→Q .normal a' w') os a):(Code.region id os.toArray true).wpIn (Fence.wide.inRound l) n P Q a w:=by
 simp only [Region.lexB,Bool.and_eq_true] at hB
 refine wpIn_region_any hm (wpAnyIn_round (fun i o ho => ?_) _ _ _ _ (wpAnyIn_of_quiet (C:=fun w'=>∃ n,w'=w.drewN n) (Q:=fun a'=>∀ w',(∃ n,w'=w.drewN n)→Q .normal a' w') rfl (fun _ w' hw' h=>h w' hw') _ _ _ _ ⟨1,rfl⟩ ?_))
 ·
  exact List.all_eq_true.1 hd o (by simpa using Array.mem_of_getElem? ho)
 ·
  have:=wpAnyQIn_lex (F:=Fence.wide) (n:=n) (C:=fun w'=>∃ n,w'=w.drewN n) (md:=.any) hB.1 os 0 (Array.replicate os.length false) a (by simp) (by simpa using hB.2) h
  simpa using this
end Go.Proofs.YtanfebljiblhbaaGreatDoor
namespace Go.Proofs.YtanfebljiblhbaaGreatDoor
open Go Go.RowKit Go.Shelf
attribute [local go_sem] Oper.semAt_some
theorem results_one{fn:Func}{t:Tmp}{ty:TypeId}{tmps:Array Value}{P:Program}{w:World}{a:Addr}{v:Value}(h:fn.results=#[.cell t ty])(ha:tmps.getD t undef=.pointer (some a))(hv:(loadVar ty a).run P w=.ok v w) :
  (results fn tmps).run P w=.ok v w:=by
 have e:(results fn tmps).run P w=((asAddr (tmps.getD t undef)).run P w).andThen fun a w₁=>(loadVar ty a).run P w₁:=by
  simp only [results,h]
  simp only [List.size_toArray,Array.mapM_eq_foldlM,Sem.run_bind,Result.andThen]
  simp [Sem.run_bind,Result.andThen]
  cases (asAddr (tmps[t]?.getD undef)).run P w with
  | ok a w1=>cases hh:(loadVar ty a).run P w1 <;> simp [hh]
  | _=>rfl
 rw [e,ha]
 exact hv
theorem load_bool{w:World}{g:Nat}{b:Bool}(h:w.cell? ⟨g,0,none⟩=some (.bool b)):(loadVar 4 ⟨g,0,none⟩).run Tryz.prog w=.ok (.bool b) w:=by
 have z1:=Tryz.sizeOf4
 have z3:=Tryz.isAgg4
 simp [loadVar,go_sem,h,z1,z3]
theorem numF_split:∀ {z:List TLine} {j:Nat} {pre:List (Nat × TLine)} {x:Nat × TLine} {rest:List (Nat × TLine)},numF j z=pre++x :: rest→x.1=j+pre.length∧z[pre.length]? = some x.2
 | [],j,pre,x,rest,h=>by cases pre <;> simp [numF] at h
 | y :: z,j,[],x,rest,h=>by
  simp only [numF,List.nil_append,List.cons.injEq] at h
  rw [← h.1];exact⟨rfl,rfl⟩
 | y :: z,j,p :: pre,x,rest,h=>by
  simp only [numF,List.cons_append,List.cons.injEq] at h
  obtain⟨h1,h2⟩:=numF_split h.2
  rw [List.length_cons]
  exact⟨by omega,by simpa using h2⟩
theorem numF_len:∀(k:Nat) (z:List TLine),(numF k z).length=z.length
 | _,[]=>rfl
 | k,y :: z=>by simp [numF,numF_len (k+1) z]
theorem marks_below{base:Nat}{Ds:List Nat}{W W':World}(h:MarksAt base Ds W)(hb:Below W.heap.size W W'):MarksAt base Ds W':=
 ⟨fun D hD=>by
  obtain⟨h1,h2,h3⟩:=h.1 D hD
  exact⟨h1,Nat.lt_of_lt_of_le h2 hb.size,(hb.block D h2).trans h3⟩,h.2⟩
theorem marks_cons{base:Nat}{Ds:List Nat}{W W':World}{D:Nat}(h:MarksAt base Ds W)(hb:Below W.heap.size W W')(h1:W.heap.size≤D)(h2:base≤D)(h3:D<W'.heap.size)(h4:W'.heap[D]? = some (.deferred (some []))):MarksAt base (D :: Ds) W':=by
 have h5:=marks_below h hb
 refine⟨fun E hE => ?_,List.pairwise_cons.2 ⟨fun E hE => ?_,h5.2⟩⟩
 ·
  rcases List.mem_cons.1 hE with rfl|hE
  ·
   exact⟨h2,h3,h4⟩
  ·
   exact h5.1 E hE
 ·
  have:=(h.1 E hE).2.1;omega
/-- how many rounds there were: the box n; nothing else has turned -/
abbrev HnI(W0:World)(g:Nat):(Nat→Prop)→List (Nat × TLine)→World→Prop:=ByI W0 g List.length
attribute [local irreducible] idsM filesM linesM relM vertsM edgesM fewL modX lnSeen lnOdd allM toldL byM optV vertM aliveX
set_option maxHeartbeats 40000000 in
set_option maxRecDepth 100000 in
theorem bhd_any(v:Value)(mo:Nat)(hmo:mo<256)(ps:List LaidP)(w:World)(hv:Pats w v ps)(hz:∀ x∈ps,∀ o∈x.p.ops,o.text.size≤maxLen)(ht:Tab w)
  (hwk:∀ W,Tab W→Calls Tryz.prog 10 #[] W fun e w'=>e=.returned (.bool true)∧Below W.heap.size W w') :
  Calls Tryz.prog 4 #[v,.int .u8 mo] w fun e w'=>e=.returned (.bool true)∧Below w.heap.size w w':=by
 have e1:=below_new (w:=w) (.cells #[.int .u8 mo] 5)
 have s1:(w.alloc (.cells #[.int .u8 mo] 5)).heap.size=w.heap.size+1:=by simp
 have a1:=arr_new w #[.int .u8 mo] 5
 obtain⟨W1,hW1⟩:∃ W1,w.alloc (.cells #[.int .u8 mo] 5)=W1:=⟨_,rfl⟩
 rw [hW1] at e1 s1 a1
 have n2:=arrT_new W1 [.bool false] 4
 have e2:=below_new (w:=W1) (.cells #[.bool false] 4)
 have s2:(W1.alloc (.cells #[.bool false] 4)).heap.size=W1.heap.size+1:=by simp
 change ArrT (W1.alloc (.cells #[.bool false] 4)) _ _ _ at n2
 obtain⟨W2,hW2⟩:∃ W2,W1.alloc (.cells #[.bool false] 4)=W2:=⟨_,rfl⟩
 rw [hW2] at n2 e2 s2
 rw [s1] at n2
 have b2:Below w.heap.size w W2:=below_over e1 e1.size e2
 have hfew:=Lib.hid (few20_any v ps 12 (by omega) W2 (hv.over b2) hz)
 have HV:=Lib.hid (hv.over b2)
 have HT:=Lib.hid (ht.over b2)
 have HWk:=Lib.hid hwk
 have HB2:=Lib.hid b2
 have HMO:=Lib.hid hmo
 have HA2:=Lib.hid (a1.over e2)
 have HN2:=Lib.hid n2
 have H1:=Lib.hid hW1
 have H2:=Lib.hid hW2
 have hs2:W2.heap.size=w.heap.size+1+1:=by omega
 clear b2 a1 n2 e1 e2 hW1 hW2 hwk ht s1 s2
 refine(callsIn_wide (n:=3)).1 ?_
 refine callsIn_of_wp_marks Tryz.func4 rfl trivial ?_ rfl
 simp only [Tryz.ntmps4,List.size_toArray,List.length_cons,List.length_nil,Nat.reduceAdd,Nat.reduceSub,Array.replicate_succ,Array.replicate_zero,List.push_toArray,List.append_toArray,List.nil_append,List.cons_append]
 cases hf:fewL 12 (ps.map (·.p)) with
 | false =>
  rw [hf] at hfew
  unfold b01 at hfew
  clear hv hz hf
  gi_wp2_with first|(refine⟨trivial,?_⟩;gi_at_call 9;rw [H1.out,H2.out];refine(callsIn_wide.2 hfew.out).mono ?_;rintro e w1 ⟨rfl,hb1⟩;have HN3:=Lib.hid (HN2.out.over hb1);have HT1:=Lib.hid (HT.out.over hb1);have HB3:=Lib.hid (below_over HB2.out HB2.out.size hb1);clear hb1 hfew)|(refine⟨trivial,?_⟩;gi_at_call 10;refine(callsIn_wide.2 (HWk.out _ HT1.out)).mono ?_;rintro e w2 ⟨rfl,hb2⟩;have HN4:=Lib.hid (HN3.out.over hb2);have HB4:=Lib.hid (below_over HB3.out HB3.out.size hb2);clear hb2;have c0:=HN4.out.arr.cell (j:=0) rfl;have f0:=HN4.out.arr.free 0;have sc:=HN4.out.arr.lt)
  have HN5:=HN4.out.set 0 (.bool true)
  exact⟨_,results_one rfl rfl (load_bool (HN5.arr.cell (j:=0) rfl)),rfl,HB4.out.setCell (p:=⟨w.heap.size+1,0,none⟩) (Nat.le_succ _) _⟩
 | true =>
  rw [hf] at hfew
  unfold b01 at hfew
  have HF:=Lib.hid hf
  clear hv hz hf
  gi_wp2_with first|(refine⟨trivial,?_⟩;gi_at_call 9;rw [H1.out,H2.out];refine(callsIn_wide.2 hfew.out).mono ?_;rintro e w2 ⟨rfl,hb1⟩;have HN3:=Lib.hid (HN2.out.over hb1);have HA3:=Lib.hid (HA2.out.over hb1);have HT2:=Lib.hid (HT.out.over hb1);have HV1:=Lib.hid (HV.out.over hb1);have HB3:=Lib.hid (below_over HB2.out HB2.out.size hb1);have hs3:=hb1.size;clear hb1 hfew)
  refine⟨trivial,?_⟩
  refine(callsIn_wide.2 (build_any v ps 12 (by omega) _ HV1.out HF.out)).mono ?_
  rintro e w3 ⟨b,bv,be,n,hn,rfl,hgr⟩
  have hwf:=wf_build (ps.map (·.p))
  have HMP:Hid (patsOf (modX ps)=buildM (ps.map (·.p))):=Lib.hid (modX_pats ps)
  have HI1:=Lib.hid (few_ids HF.out)
  have HE1:=Lib.hid (few_edges HF.out)
  rw [HMP.out] at HI1 HE1
  generalize buildM (ps.map (·.p))=LL at *
  obtain⟨_,_,_,hG,hb3⟩:=hgr
  have HGI:Hid (GrIs w3 b LL):=Lib.hid ⟨bv,be,n,hG⟩
  have HW:=Lib.hid hwf
  have HN4:=Lib.hid (HN3.out.over hb3)
  have HA4:=Lib.hid (HA3.out.over hb3)
  have HB4:=Lib.hid (below_over HB3.out HB3.out.size hb3)
  have HT3:=Lib.hid (HT2.out.over hb3)
  have HI:Hid ((idsM LL).length≤65536):=Lib.hid (by have:=HI1.out;omega)
  have HE:Hid ((edgesM LL).length≤1000000):=Lib.hid (by have:=HE1.out;omega)
  have haf:(filesM LL).length≤840:=Nat.le_trans (filesM_len _) (by have:=HI1.out;omega)
  have hs4:=hb3.size
  clear hG hb3 hn hwf HV HV1 HMP HF HT HT2 HI1 HE1 HN3 HA3 HB3 HN2 HA2 HB2 H1 H2
  gi_wp2_with first|(refine⟨trivial,?_⟩;gi_at_call 18;refine(callsIn_wide.2 (gfiles_any b LL w3 HGI.out HW.out (by have:=HI.out;omega))).mono ?_;rintro e w4 ⟨v4,rfl,ho4,hb4⟩;obtain⟨p4,c4,e4,z1,z2,hc4⟩:=ho4.row.at encVid_len;subst e4)
  unfold maxLen at z2
  have HC4:=Lib.hid hc4
  have HN5:=Lib.hid (HN4.out.over hb4)
  have HA5:=Lib.hid (HA4.out.over hb4)
  have HB5:=Lib.hid (below_over HB4.out HB4.out.size hb4)
  have HG4:=Lib.hid (HGI.out.over hb4)
  have HT4:=Lib.hid (HT3.out.over hb4)
  have hs5:=hb4.size
  clear ho4 hb4 hc4 HGI HT3 HN4 HA4 HB4
  obtain⟨nf,hnf⟩:∃ n,(filesM LL).length=n:=⟨_,rfl⟩
  have HNF:=Lib.hid hnf
  rw [hnf] at z1 haf HC4 ⊢
  clear hnf
  gi_wp2
  refine wpIn_loop_ghost_k (fun n a W=>∃(i:Nat) (Ds:List Nat) (u8 u9 u10 u11 u12 u13 u22 u23 u24 u25 u26 u27 u28 u29 u30 u31 u32 u33 u34 u35 u36 u37 u38 u39 u40 u41 u42 u43 u44 u45 u46 u47 u48 u49 u50 u51 u52 u53 u54 u55 u56 u57 u58 u59 u60 u61 u62 u63 u64 u65 u66 u67 u68 u69 u70 u71 u72 u73 u74 u75 u76 u77 u78 u79 u80 u81:Value),i≤nf∧n=nf - i∧MarksAt w4.heap.size Ds W∧Below w4.heap.size w4 W∧a={tmps:=#[v,.int .u8 mo,undef,.pointer (some ⟨w.heap.size,0,none⟩),.pointer (some ⟨w.heap.size+1,0,none⟩),.pointer (some ⟨b,0,none⟩),.slice p4 nf c4,.int .i64 i,u8,u9,u10,u11,u12,u13,v,.int .i64 1,.bool false,undef,v,.pointer (some ⟨b,0,none⟩),.pointer (some ⟨b,0,none⟩),.slice p4 nf c4,u22,u23,u24,u25,u26,u27,u28,u29,u30,u31,u32,u33,u34,u35,u36,u37,u38,u39,u40,u41,u42,u43,u44,u45,u46,u47,u48,u49,u50,u51,u52,u53,u54,u55,u56,u57,u58,u59,u60,u61,u62,u63,u64,u65,u66,u67,u68,u69,u70,u71,u72,u73,u74,u75,u76,u77,u78,u79,u80,u81,undef],defers:=marksD Ds}) nf ?start ?round
  case start=>exact⟨0,[],undef,undef,undef,undef,undef,undef,undef,undef,undef,undef,undef,undef,undef,undef,undef,undef,undef,undef,undef,undef,undef,undef,undef,undef,undef,undef,undef,undef,undef,undef,undef,undef,undef,undef,undef,undef,undef,undef,undef,undef,undef,undef,undef,undef,undef,undef,undef,undef,undef,undef,undef,undef,undef,undef,undef,undef,undef,undef,undef,undef,undef,undef,undef,undef,undef,undef,Nat.zero_le _,rfl,⟨nofun,List.Pairwise.nil⟩,Below.refl _ _,rfl⟩
  case round =>
   rintro n a wr ⟨i,Ds,u8,u9,u10,u11,u12,u13,u22,u23,u24,u25,u26,u27,u28,u29,u30,u31,u32,u33,u34,u35,u36,u37,u38,u39,u40,u41,u42,u43,u44,u45,u46,u47,u48,u49,u50,u51,u52,u53,u54,u55,u56,u57,u58,u59,u60,u61,u62,u63,u64,u65,u66,u67,u68,u69,u70,u71,u72,u73,u74,u75,u76,u77,u78,u79,u80,u81,hi,hn,hM,hbr,rfl⟩ J K hJ hK
   have HM:=Lib.hid hM
   have HBr:=Lib.hid hbr
   clear hM hbr
   by_cases hlt:i<nf
   rotate_left
   ·
    obtain rfl:i=nf:=by omega
    gi_wp2_with first|(refine⟨trivial,?_⟩;gi_at_call 10;refine(callsIn_wide.2 (HWk.out _ (HT4.out.over HBr.out))).mono ?_;rintro e w5 ⟨rfl,hb5⟩;have HN6:=Lib.hid ((HN5.out.over HBr.out).over hb5);have HB6:=Lib.hid (below_over HB5.out HB5.out.size (below_over HBr.out HBr.out.size hb5));have HM5:=Lib.hid (marks_below HM.out hb5);clear hb5;have c0:=HN6.out.arr.cell (j:=0) rfl;have f0:=HN6.out.arr.free 0;have sc:=HN6.out.arr.lt)
    have HN7:=HN6.out.set 0 (.bool true)
    refine leaves_marks Ds _ (marks_grown (g:=w.heap.size+1) HM5.out (grown_setCell (g:=w.heap.size+1) w5 0 (.bool true)) (by omega)) fun w' hb => ?_
    exact⟨_,results_one rfl rfl (load_bool ((show ArrT w' (w.heap.size+1) 4 ([.bool false].set 0 (.bool true)) from(hb.block _ (by omega)).trans HN7).arr.cell (j:=0) rfl)),rfl,(HB6.out.setCell (p:=⟨w.heap.size+1,0,none⟩) (Nat.le_succ _) (.bool true)).trans (hb.mono (by omega))⟩
   have HJ:=Lib.hid hJ
   have HK:=Lib.hid hK
   clear hJ hK
   obtain⟨bf,of,rfl,sf0,hcf⟩:=HC4.out.resolve_left (by omega)
   obtain⟨f,hf⟩:=get_of_lt (xs:=filesM LL) (i:=i) (by have:=HNF.out;omega)
   have hr:=hcf i f hf wr HBr.out
   have f0:wr.cell? ⟨bf,of+i*3,none⟩=some (.int .u8 f.pid.author.toNat):=hr.2 0 _ rfl
   have f1:wr.cell? ⟨bf,of+i*3+1,none⟩=some (.int .u16 f.pid.seq.toNat):=hr.2 1 _ rfl
   have f2:wr.cell? ⟨bf,of+i*3+2,none⟩=some (.int .u8 f.n.toNat):=hr.2 2 _ rfl
   have sf:=hr.1
   have HCF:Hid (∀ W,Below w4.heap.size w4 W→bf<W.heap.size∧∀ j u,(encVid f)[j]? = some u→W.cell? ⟨bf,of+i*3+j,none⟩=some u):=Lib.hid fun W hb=>hcf i f hf W hb
   clear hr hcf hf
   obtain⟨T,hT⟩:∃ T,toldL (linesM LL f) (relM LL f)=T:=⟨_,rfl⟩
   have hTl:T.length≤262144:=by
    have h1:=toldL_few (linesM LL f) (relM LL f)
    have h2:=lines_few (file:=f) HI.out
    rw [hT] at h1;omega
   have HAT:Hid (∀ W,Below w4.heap.size w4 W→Calls Tryz.prog 14 #[.pointer (some ⟨b,0,none⟩),vidV f] W (OwnRes tlL 4 42 W T)):=Lib.hid fun W hb=>by
    have h:=ball_any b LL f W (HG4.out.over hb) HW.out HI.out HE.out
    rw [hT] at h;exact h
   have HSq:Hid (∀(gb fb:Nat) (W:World),Below w4.heap.size w4 W→Arr W gb [.pointer (some ⟨b,0,none⟩)]→Arr W fb [.int .u8 f.pid.author.toNat,.int .u16 f.pid.seq.toNat,.int .u8 f.n.toNat]→SeqMid Tryz.prog 51 #[.pointer (some ⟨gb,0,none⟩),.pointer (some ⟨fb,0,none⟩)] lnE (numF 0 T) W):=Lib.hid fun gb fb W hb h1 h2=>by
    have h:=lines1_mid gb fb b LL f W h1 h2 (HG4.out.over hb) HW.out HI.out HE.out
    rw [hT] at h;exact h
   clear hT
   unfold vidV at HAT
   have en:=eql_nilf
   gi_wp2_with first|(refine⟨trivial,?_⟩;gi_at_call 14;refine(callsIn_wide.2 (HAT.out _ HBr.out)).mono ?_;rintro e wA ⟨vA,rfl,hoA,hbA⟩;have HBA:=Lib.hid (below_over HBr.out HBr.out.size hbA);obtain⟨aT,cT,eT⟩:=own_sl hoA;subst eT;have HOA:=Lib.hid hoA;have HrA:=HCF.out wA HBA.out;have HMA:=Lib.hid (marks_below HM.out hbA);clear hoA hbA f0 f1 f2 sf;have f0:wA.cell? ⟨bf,of+i*3,none⟩=some (.int .u8 f.pid.author.toNat):=HrA.2 0 _ rfl;have f1:wA.cell? ⟨bf,of+i*3+1,none⟩=some (.int .u16 f.pid.seq.toNat):=HrA.2 1 _ rfl;have f2:wA.cell? ⟨bf,of+i*3+2,none⟩=some (.int .u8 f.n.toNat):=HrA.2 2 _ rfl;have sf:=HrA.1)|(refine⟨trivial,?_⟩;gi_at_call 19;refine(callsIn_wide.2 (lines_any (some ⟨b,0,none⟩) f _)).mono ?_;rintro e w' ⟨rfl,rfl⟩)
   clear f0 f1 f2 sf HrA
   obtain⟨tl,htl⟩:∃ n,T.length=n:=⟨_,rfl⟩
   have HTL:=Lib.hid htl
   rw [htl] at HOA hTl ⊢
   clear htl
   have x1:=arrT_new wA [.slice aT tl cT] 37
   have e1:=below_new (w:=wA) (.cells #[.slice aT tl cT] 37)
   have s1:(wA.alloc (.cells #[.slice aT tl cT] 37)).heap.size=wA.heap.size+1:=by simp
   change ArrT (wA.alloc (.cells #[.slice aT tl cT] 37)) _ _ _ at x1
   generalize wA.alloc (.cells #[.slice aT tl cT] 37)=V1 at *
   have x2:=arr_new V1 #[.pointer (some ⟨b,0,none⟩)] 30
   have e2:=below_new (w:=V1) (.cells #[.pointer (some ⟨b,0,none⟩)] 30)
   have s2:(V1.alloc (.cells #[.pointer (some ⟨b,0,none⟩)] 30)).heap.size=V1.heap.size+1:=by simp
   generalize V1.alloc (.cells #[.pointer (some ⟨b,0,none⟩)] 30)=V2 at *
   have x3:=arr_new V2 #[.int .u8 f.pid.author.toNat,.int .u16 f.pid.seq.toNat,.int .u8 f.n.toNat] 27
   have e3:=below_new (w:=V2) (.cells #[.int .u8 f.pid.author.toNat,.int .u16 f.pid.seq.toNat,.int .u8 f.n.toNat] 27)
   have s3:(V2.alloc (.cells #[.int .u8 f.pid.author.toNat,.int .u16 f.pid.seq.toNat,.int .u8 f.n.toNat] 27)).heap.size=V2.heap.size+1:=by simp
   generalize V2.alloc (.cells #[.int .u8 f.pid.author.toNat,.int .u16 f.pid.seq.toNat,.int .u8 f.n.toNat] 27)=wC at *
   have hAC:Below wA.heap.size wA wC:=below_over (below_over e1 e1.size e2) (by omega) e3
   rw [s2,s1] at x3
   rw [s1] at x2
   have HX1:=Lib.hid ((x1.over e2).over e3)
   have HX2:=Lib.hid (x2.over e3)
   have HX3:=Lib.hid x3
   have hsC:wC.heap.size=wA.heap.size+1+1+1:=by omega
   have HOC:=Lib.hid (HOA.out.over hAC)
   have HBC:=Lib.hid (below_over HBA.out HBA.out.size hAC)
   have HMC:=Lib.hid (marks_below HMA.out hAC)
   have hsA:=HBA.out.size
   clear x1 x2 x3 e1 e2 e3 s1 s2 s3 hAC HOA HMA
   refine wpIn_loop_ghost_k (fun n a W=>∃(j:Nat) (Es:List Nat) (u11 u12 u13 u22 u23 u24 u25 u26 u27 u28 u29 u30 u31 u32 u33 u34 u35 u36 u37 u38 u39 u40 u41 u42 u43 u44 u45 u46 u47 u48 u49 u50 u51 u52 u53 u54 u55 u56 u57 u58 u59 u60 u61 u62 u63 u64 u65 u66 u67 u68 u69 u70 u71 u72 u73 u74 u75 u76 u77 u78 u79 u80 u81:Value),j≤2∧n=2 - j∧MarksAt w4.heap.size Es W∧Below wC.heap.size wC W∧a={tmps:=#[v,.int .u8 mo,undef,.pointer (some ⟨w.heap.size,0,none⟩),.pointer (some ⟨w.heap.size+1,0,none⟩),.pointer (some ⟨b,0,none⟩),.slice (some ⟨bf,of,none⟩) nf c4,.int .i64 i,.pointer (some ⟨wA.heap.size,0,none⟩),.func (.func 51) #[] #[.pointer (some ⟨wA.heap.size+1,0,none⟩),.pointer (some ⟨wA.heap.size+1+1,0,none⟩)],.int .i64 j,u11,u12,u13,v,.int .i64 1,.bool false,undef,v,.pointer (some ⟨b,0,none⟩),.pointer (some ⟨b,0,none⟩),.slice (some ⟨bf,of,none⟩) nf c4,u22,u23,u24,u25,u26,u27,u28,u29,u30,u31,u32,u33,u34,u35,u36,u37,u38,u39,u40,u41,u42,u43,u44,u45,u46,u47,u48,u49,u50,u51,u52,u53,u54,u55,u56,u57,u58,u59,u60,u61,u62,u63,u64,u65,u66,u67,u68,u69,u70,u71,u72,u73,u74,u75,u76,u77,u78,u79,u80,u81,undef],defers:=marksD Es}) 2 ?start2 ?round2
   case start2=>exact⟨0,Ds,_,_,_,_,_,_,_,_,_,_,_,_,_,_,_,_,_,_,_,_,_,_,_,_,_,_,_,_,_,_,_,_,_,_,_,_,_,_,_,_,_,_,_,_,_,_,_,_,_,_,_,_,_,_,_,_,_,_,_,_,_,_,_,Nat.zero_le _,rfl,HMC.out,Below.refl _ _,rfl⟩
   case round2 =>
    rintro n2 a wq ⟨j,Es,u11,u12,u13,u22,u23,u24,u25,u26,u27,u28,u29,u30,u31,u32,u33,u34,u35,u36,u37,u38,u39,u40,u41,u42,u43,u44,u45,u46,u47,u48,u49,u50,u51,u52,u53,u54,u55,u56,u57,u58,u59,u60,u61,u62,u63,u64,u65,u66,u67,u68,u69,u70,u71,u72,u73,u74,u75,u76,u77,u78,u79,u80,u81,hj,hn2,hM2,hbq,rfl⟩ J2 K2 hJ2 hK2
    have HM2:=Lib.hid hM2
    have HBq:=Lib.hid hbq
    have HJ2:=Lib.hid hJ2
    have HK2:=Lib.hid hK2
    clear hM2 hbq hJ2 hK2
    by_cases hlj:j<2
    rotate_left
    ·
     obtain rfl:j=2:=by omega
     gi_wp2
     refine HK.out _ _ ⟨nf - (i+1),by omega,HJ.out _ _ _ ⟨i+1,Es,_,_,_,_,_,_,_,_,_,_,_,_,_,_,_,_,_,_,_,_,_,_,_,_,_,_,_,_,_,_,_,_,_,_,_,_,_,_,_,_,_,_,_,_,_,_,_,_,_,_,_,_,_,_,_,_,_,_,_,_,_,_,_,_,_,_,hlt,rfl,HM2.out,below_over HBC.out HBC.out.size HBq.out,rfl⟩⟩
    gi_wp2
    have y1:=arrT_new wq [.int .i64 0] 3
    have e1:=below_new (w:=wq) (.cells #[.int .i64 0] 3)
    have s1:(wq.alloc (.cells #[.int .i64 0] 3)).heap.size=wq.heap.size+1:=by simp
    change ArrT (wq.alloc (.cells #[.int .i64 0] 3)) _ _ _ at y1
    generalize wq.alloc (.cells #[.int .i64 0] 3)=wE at *
    have hsq:=HBq.out.size
    have HCE:=Lib.hid (below_over HBq.out hsq e1)
    have H4E:=Lib.hid (below_over HBC.out HBC.out.size HCE.out)
    have HAE:=Lib.hid (HA5.out.over H4E.out)
    have HXE:=Lib.hid (HX1.out.over HCE.out)
    have HOE:=Lib.hid (HOC.out.over HCE.out)
    have hs4:=HBC.out.size
    refine wpIn_rangeFunc_mid (gf:=51) rfl (enters_of Tryz.func51 (by kernel_rfl) rfl) (HSq.out (wA.heap.size+1) (wA.heap.size+1+1) wE H4E.out (HX2.out.over HCE.out) (HX3.out.over HCE.out)) (Below.refl _ _) (fun _=>rfl)
     (HnI wE wq.heap.size) (fun c O pre W=>c=.exit 4∧pre.length=mo∧HnI wE wq.heap.size O pre W) (byi_keep (by omega)) (fun c O O' pre A B h ho hn=>⟨h.1,h.2.1,byi_keep (by omega) _ _ _ _ _ h.2.2 ho hn⟩) ?start3
     (fun O x a' W=>∃ B,¬ O B∧ArrT W B 42 (tlL x.2)∧a'={tmps:=#[v,.int .u8 mo,undef,.pointer (some ⟨w.heap.size,0,none⟩),.pointer (some ⟨w.heap.size+1,0,none⟩),.pointer (some ⟨b,0,none⟩),.slice (some ⟨bf,of,none⟩) nf c4,.int .i64 i,.pointer (some ⟨wA.heap.size,0,none⟩),.func (.func 51) #[] #[.pointer (some ⟨wA.heap.size+1,0,none⟩),.pointer (some ⟨wA.heap.size+1+1,0,none⟩)],.int .i64 j,.pointer (some ⟨wq.heap.size,0,none⟩),.int .i64 x.1,.pointer (some ⟨B,0,none⟩),v,.int .i64 1,.bool false,undef,v,.pointer (some ⟨b,0,none⟩),.pointer (some ⟨b,0,none⟩),.slice (some ⟨bf,of,none⟩) nf c4,u22,u23,u24,u25,u26,u27,u28,u29,u30,u31,u32,u33,u34,u35,u36,u37,u38,u39,u40,u41,.int .i64 j,.bool true,u44,u45,.func (.func 51) #[] #[.pointer (some ⟨wA.heap.size+1,0,none⟩),.pointer (some ⟨wA.heap.size+1+1,0,none⟩)],.int .i64 x.1,tlV x.2,u49,u50,u51,u52,u53,u54,u55,u56,u57,u58,u59,u60,u61,u62,u63,u64,u65,u66,u67,u68,u69,u70,u71,u72,u73,u74,u75,u76,u77,u78,u79,u80,u81,undef],defers:=[]}) ?ax ?assign ?body ?done ?stop
    case start3 =>
     intro O B hO hB
     exact⟨fun q h=>(hO q h).1,y1.over hB,⟨hB.os,hB.tape,hB.output,hB.size,fun q h _=>hB.block q h⟩⟩
    case ax =>
     rintro O x a' A B ⟨B0,h1,h2,rfl⟩ ho
     exact⟨B0,h1,(ho.block B0 h2.arr.lt h1).trans h2,rfl⟩
    case assign =>
     intro l m O pre x W K hO hi hK
     gi_wp2
     have hb:=below_new (w:=W) (.cells #[.string x.2.text,.int .u8 x.2.id.pid.author.toNat,.int .u16 x.2.id.pid.seq.toNat,.int .u8 x.2.id.n.toNat] 42)
     have hs:(W.alloc (.cells #[.string x.2.text,.int .u8 x.2.id.pid.author.toNat,.int .u16 x.2.id.pid.seq.toNat,.int .u8 x.2.id.n.toNat] 42)).heap.size=W.heap.size+1:=by simp
     exact hK _ _ (MidIn.of_below hb fun k q=>(hO k q).2) (byi_keep (by omega) _ _ _ _ _ hi (MidOut.of_below hb) fun k q=>⟨.inl q,by have:=(hO k q).2;omega⟩) ⟨W.heap.size,fun q=>by have:=(hO _ q).2;omega,arrT_new W (tlL x.2) _,rfl⟩
    case body =>
     rintro l m O pre ⟨kx,y⟩ rest W hx hO ⟨h1,h2,h3⟩ a' ⟨B,hB,hl,rfl⟩
     obtain⟨hk0,hyT⟩:=numF_split hx
     have hkt:pre.length<tl:=by have:=(List.getElem?_eq_some_iff.1 hyT).1;have:=HTL.out;omega
     obtain⟨k,hk⟩:∃ k,pre.length=k:=⟨_,rfl⟩
     have hkx:kx=k:=by simp at hk0;omega
     subst hkx
     have HKp:=Lib.hid hk
     rw [hk] at hkt hyT
     have c0:W.cell? ⟨wq.heap.size,0,none⟩=some (.int .i64 kx):=by have:=h2.arr.cell (j:=0) rfl;rwa [hk] at this
     have n0:=h2.arr.free 0
     have sc:=h2.arr.lt
     have hm:=HAE.out.grown h3 (fun e=>by have:=Option.some.inj e;omega)
     have m0:=hm.cell (j:=0) rfl
     have sm:=hm.lt
     have hal:=HXE.out.arr.grown h3 (fun e=>by have:=Option.some.inj e;omega)
     have a0:=hal.cell (j:=0) rfl
     have sa:=hal.lt
     have hrow:GOwn tlL 4 42 W wr.heap.size (.slice aT tl cT) T:=own_grown HOE.out h3 (.inr fun q=>by have:=gown_size HOC.out q;omega)
     obtain⟨p9,c9,e9,_,_,hc9⟩:=hrow.row.at encTl_len
     obtain⟨rfl,e8,rfl⟩:=Value.slice.inj e9
     clear e8
     obtain⟨lb,lo,rfl,sb,hcb⟩:=hc9.resolve_left (by have:=HTL.out;omega)
     have hr:=hcb kx y hyT W (Below.refl _ _)
     have t0:W.cell? ⟨lb,lo+kx*4,none⟩=some (.string y.text):=hr.2 0 _ rfl
     have t1:W.cell? ⟨lb,lo+kx*4+1,none⟩=some (.int .u8 y.id.pid.author.toNat):=hr.2 1 _ rfl
     have t2:W.cell? ⟨lb,lo+kx*4+2,none⟩=some (.int .u16 y.id.pid.seq.toNat):=hr.2 2 _ rfl
     have t3:W.cell? ⟨lb,lo+kx*4+3,none⟩=some (.int .u8 y.id.n.toNat):=hr.2 3 _ rfl
     have l0:=hl.arr.cell (j:=0) rfl
     have l1:=hl.arr.cell (j:=1) rfl
     have l2:=hl.arr.cell (j:=2) rfl
     have l3:=hl.arr.cell (j:=3) rfl
     have sl:=hl.arr.lt
     have en:∀ w,(binOp .neq 42 (tlV y) (tlV y)).run Tryz.prog w=.ok (.bool false) w:=neq_line y y false (by simp)
     have gd:=fun p q xs ys w=>guard_line .neq p q xs ys w
     have dge:decide ((tl:Int)≤(kx:Int))=false:=decide_eq_false (by omega)
     have dge3:decide (tl≤kx)=false:=decide_eq_false (by omega)
     have HO:=Lib.hid hO
     have Hh1:=Lib.hid h1
     have Hh2:=Lib.hid h2
     have Hh3:=Lib.hid h3
     have hmo:=HMO.out
     dsimp only
     dsimp only at l0 l1 l2 l3 en
     clear hx hk hk0 hyT h1 h2 h3 hO hm hal hrow hc9 hcb e9 hr
     gi_upto_region 19 with(fail)
     refine wpIn_region_quiet_round rfl (by kernel_rfl) (by kernel_rfl) ?_
     repeat(gi_big_quiet_step (fail))
     refine wpQuietIn_nil ?_
     intro _ hw'
     obtain⟨nq,hw''⟩:=hw'
     subst hw''
     have hbq:Below W.heap.size W (W.drewN nq):=below_drewN (Below.refl _ _) _
     have h2:=Hh2.out.over hbq
     have h3:=grown_trans Hh3.out (grown_lift hbq (some wq.heap.size))
     have HMq:Hid (MidIn O W (W.drewN nq)):=Lib.hid (MidIn.of_below hbq fun k q=>(HO.out k q).2)
     have HOq:Hid (∀ k,O k→wE.heap.size≤k∧k<(W.drewN nq).heap.size):=Lib.hid fun k q=>⟨(HO.out k q).1,Nat.lt_of_lt_of_le (HO.out k q).2 hbq.size⟩
     clear c0 n0 sc m0 sm a0 sa t0 t1 t2 t3 l0 l1 l2 l3 sl sb en gd dge dge3 hbq
     generalize W.drewN nq=V at *
     rw [HKp.out] at h2
     have c0:=h2.arr.cell (j:=0) rfl
     have n0:=h2.arr.free 0
     have sc:=h2.arr.lt
     have hm:=HAE.out.grown h3 (fun e=>by have:=Option.some.inj e;omega)
     have Hm2:=Lib.hid h2
     have Hm3:=Lib.hid h3
     have HmM:=Lib.hid hm
     clear h2 h3 hm
     gi_upto_region 22 with(fail)
     have hgs:=grown_setCell (g:=wq.heap.size) V 0 (.int .i64 ((kx:Int)+1))
     have h2:=Hm2.out.set 0 (.int .i64 ((kx:Int)+1))
     have H3:=Lib.hid (grown_trans Hm3.out hgs)
     have hm:=HmM.out.grown hgs (fun e=>by have:=Option.some.inj e;omega)
     have HMI:Hid (MidIn O W (V.setCell ⟨wq.heap.size,0,none⟩ (.int .i64 ((kx:Int)+1)))):=Lib.hid (HMq.out.trans (MidIn.of_grown hgs (fun k q=>(HOq.out k q).2) (fun q e=>by cases e;intro h;have:=(HOq.out _ h).1;omega)))
     clear hgs c0 n0 sc
     generalize V.setCell ⟨wq.heap.size,0,none⟩ (.int .i64 ((kx:Int)+1))=V1 at *
     have c0:=h2.arr.cell (j:=0) rfl
     have sc:=h2.arr.lt
     have m0:=hm.cell (j:=0) rfl
     have sm:=hm.lt
     have H2:Hid (HnI wE wq.heap.size O (pre++[(kx,y)]) V1):=Lib.hid ⟨Hh1.out,by
      show ArrT V1 wq.heap.size 3 [.int .i64 (((pre++[(kx,y)]).length:Nat):Int)]
      rw [List.length_append,List.length_cons,List.length_nil,HKp.out]
      exact h2,H3.out⟩
     clear h2 hm
     rcases Classical.em (kx+1=mo) with hq|hq
     ·
      have dq:((kx:Int)+1 == (mo:Int))=true:=by simp;omega
      have HL:Hid ((pre++[(kx,y)]).length=mo):=Lib.hid (by rw [List.length_append,List.length_cons,List.length_nil,HKp.out];exact hq)
      clear hq
      gi_wp2
      exact⟨HMI.out,rfl,HL.out,H2.out⟩
     ·
      have dq:((kx:Int)+1 == (mo:Int))=false:=by simp;omega
      clear hq
      gi_wp2
      exact⟨HMI.out,H2.out⟩
    case done =>
     rintro O W hO ⟨h1,h2,h3⟩ hO0 hKd
     rw [numF_len,HTL.out] at h2
     have c0:=h2.arr.cell (j:=0) rfl
     have sc:=h2.arr.lt
     have hal:=HXE.out.arr.grown h3 (fun e=>by have:=Option.some.inj e;omega)
     have a0:=hal.cell (j:=0) rfl
     have sa:=hal.lt
     have S1:=Lib.hid s1
     clear s1
     gi_wp2
     have s1:=S1.out
     refine HK2.out _ _ ⟨2 - (j+1),by omega,HJ2.out _ _ _ ⟨j+1,wE.heap.size :: Es,_,_,_,_,_,_,_,_,_,_,_,_,_,_,_,_,_,_,_,_,_,_,_,_,_,_,_,_,_,_,_,_,_,_,_,_,_,_,_,_,_,_,_,_,_,_,_,_,_,_,_,_,_,_,_,_,_,_,_,_,_,_,_,hlj,rfl,marks_cons HM2.out (e1.grown h3 e1.size (fun q e=>by cases e;omega)) (by omega) (by omega) (hO _ hO0).2 hKd,HCE.out.grown h3 HCE.out.size (fun q e=>by cases e;omega),rfl⟩⟩
    case stop =>
     rintro c O pre W hO hpre ⟨rfl,hlen,h1,h2,h3⟩ hO0 hKd
     rw [hlen] at h2
     have c0:=h2.arr.cell (j:=0) rfl
     have sc:=h2.arr.lt
     have hm:=HAE.out.grown h3 (fun e=>by have:=Option.some.inj e;omega)
     have m0:=hm.cell (j:=0) rfl
     have sm:=hm.lt
     have hal:=HXE.out.arr.grown h3 (fun e=>by have:=Option.some.inj e;omega)
     have a0:=hal.cell (j:=0) rfl
     have sa:=hal.lt
     have hmo:=HMO.out
     rcases Classical.em (mo=tl) with hq|hq
     rotate_left
     have dq:((mo:Int) == (tl:Int))=false:=by simp;omega
     rotate_left
     subst hq
     all_goals
      have S1:=Lib.hid s1
      clear s1
      gi_wp2
      have s1:=S1.out
      refine HK2.out _ _ ⟨2 - (j+1),by omega,HJ2.out _ _ _ ⟨j+1,wE.heap.size :: Es,_,_,_,_,_,_,_,_,_,_,_,_,_,_,_,_,_,_,_,_,_,_,_,_,_,_,_,_,_,_,_,_,_,_,_,_,_,_,_,_,_,_,_,_,_,_,_,_,_,_,_,_,_,_,_,_,_,_,_,_,_,_,_,hlj,rfl,marks_cons HM2.out (e1.grown h3 e1.size (fun q e=>by cases e;omega)) (by omega) (by omega) (hO _ hO0).2 hKd,HCE.out.grown h3 HCE.out.size (fun q e=>by cases e;omega),rfl⟩⟩
end Go.Proofs.YtanfebljiblhbaaGreatDoor
namespace Go.Proofs.YtanfebljiblhbaaGreatDoor
open Go Go.ChangeShapes Go.WideShapes Go.ChangeAt Go.RowKit
open Go.ChangeMaps (open_string)

theorem own:ownKnob Tryz.prog.godebug=none:=by kernel_rfl
theorem gTab : Tryz.prog.globalNamed "internal/strconv.uint64pow10" = some 0 := by kernel_rfl
theorem gTabT:(Tryz.prog.globals[0]?).map (·.type)=some 334:=by kernel_rfl
theorem tab_eq:(Rows.laid_internal_strconv_uint64pow10:DataW Unit)=Lib.tabData .u64 Lib.pow10Tab:=by kernel_rfl
theorem tab_of{W:World}(hL:laidMet Tryz.prog Rows.blameHandsRow.laid W):Tab W:=by
 have h := hL.filter (fun x => x.1 == "internal/strconv.uint64pow10")
 rw [show Rows.blameHandsRow.laid.filter (fun x => x.1 == "internal/strconv.uint64pow10") = [("internal/strconv.uint64pow10", Rows.laid_internal_strconv_uint64pow10)] from by kernel_rfl, tab_eq] at h
 exact Lib.tabIs_of_head gTab gTabT Tryz.underlying334 Tryz.underlying248 (by kernel_rfl) (by kernel_rfl) h
section
variable {H : Type} {enc : TypeId × Value → H} {W : World} {base : Nat} {v : Value} {d : DataW H} {ps : List MemPlace}
set_option maxRecDepth 100000 in
theorem u8_arg(hv:Value.okWide Tryz.prog W .any base 5 v)(h:DataW.Trod enc Tryz.prog W 0 (fun _=>true) true 5 v d ps):∃ b:UInt8,v=.int .u8 b.toNat:=by
 obtain⟨z,rfl⟩:=okWide_int Tryz.underlying5 hv
 obtain⟨fuel,hf⟩:=h
 have hf':DataW.trod enc Tryz.prog W 0 (fun _=>true) true fuel 5 [.int .u8 z]=some _:=hf
 obtain⟨z',hz,_,hw⟩:=DataW.trod_int Tryz.underlying5 hf'
 simp at hz
 subst hz
 obtain⟨b,rfl⟩:=u8_wf hw
 exact⟨b,rfl⟩
end
set_option maxRecDepth 100000 in
theorem contract_BlameHands(H:Type)(enc:TypeId × Value→H)(W:World)(base:Nat)(args:Array Value)(ds gs:List (DataW H))(before:List MemPlace)
  (hval:∀(j:Nat) t v,Tryz.f4.params[j]? = some t→args[j]? = some v→Value.okWide Tryz.prog W .any base t v)
  (hW:DataW.Whole enc Tryz.prog Tryz.f4.params.toList Rows.blameHandsSpec.vars false W args.toList ds gs before) (hL:laidMet Tryz.prog Rows.blameHandsRow.laid W) :
  Calls Tryz.prog 4 args W fun e W'=>∃ v,e=.returned v∧Rows.blameHandsSpec.post enc Tryz.prog Tryz.f4 false true false false W args v W':=by
 have hW':=hW
 obtain⟨p,q,hA0,hV,rfl,hfz,hnd⟩:=hW
 have hA:DataW.TrodAll enc Tryz.prog W 0 (fun _=>true) true Tryz.f4.params.toList args.toList ds p:=hA0
 rw [Tryz.params4] at hA hval
 obtain⟨v0,v1,d0,d1,p0,p1,rfl,rfl,rfl,h0,h1⟩:=trodAll_two hA
 obtain⟨rfl,rfl⟩:=trodVars_none hV
 obtain⟨ps,hp,hz⟩:=pats_arg (hval 0 22 v0 rfl rfl) h0
 obtain⟨k8,rfl⟩:=u8_arg (hval 1 5 v1 rfl rfl) h1
 refine(bhd_any v0 k8.toNat k8.toNat_lt ps W hp hz (tab_of hL) works49_any).mono fun e W' ⟨he,hb⟩=>⟨_,he,?_⟩
 exact law_post (by kernel_rfl) Tryz.underlying4 rfl laidOut (by kernel_rfl) rfl hW' hb

/-- a row's cells written anew -/
def putCells(cs:Array Value):Obj→Obj
 | .cells _ t fr=>.cells cs t fr
 | o=>o
def cells_laid_math_bits_deBruijn32tab:Array Value:=#[.int .u8 0,.int .u8 1,.int .u8 28,.int .u8 2,.int .u8 29,.int .u8 14,.int .u8 24,.int .u8 3,.int .u8 30,.int .u8 22,.int .u8 20,.int .u8 15,.int .u8 25,.int .u8 17,.int .u8 4,.int .u8 8,.int .u8 31,.int .u8 27,.int .u8 13,.int .u8 23,.int .u8 21,.int .u8 19,.int .u8 16,.int .u8 7,.int .u8 26,.int .u8 12,.int .u8 18,.int .u8 6,.int .u8 11,.int .u8 5,.int .u8 10,.int .u8 9]
def cells_laid_math_bits_deBruijn64tab:Array Value:=#[.int .u8 0,.int .u8 1,.int .u8 56,.int .u8 2,.int .u8 57,.int .u8 49,.int .u8 28,.int .u8 3,.int .u8 61,.int .u8 58,.int .u8 42,.int .u8 50,.int .u8 38,.int .u8 29,.int .u8 17,.int .u8 4,.int .u8 62,.int .u8 47,.int .u8 59,.int .u8 36,.int .u8 45,.int .u8 43,.int .u8 51,.int .u8 22,.int .u8 53,.int .u8 39,.int .u8 33,.int .u8 30,.int .u8 24,.int .u8 18,.int .u8 12,.int .u8 5,.int .u8 63,.int .u8 55,.int .u8 48,.int .u8 27,.int .u8 60,.int .u8 41,.int .u8 37,.int .u8 16,.int .u8 46,.int .u8 35,.int .u8 44,.int .u8 21,.int .u8 52,.int .u8 32,.int .u8 23,.int .u8 11,.int .u8 54,.int .u8 26,.int .u8 40,.int .u8 15,.int .u8 34,.int .u8 20,.int .u8 31,.int .u8 10,.int .u8 25,.int .u8 14,.int .u8 19,.int .u8 9,.int .u8 13,.int .u8 8,.int .u8 7,.int .u8 6]
def cells_laid_internal_strconv_uint64pow10:Array Value:=#[.int .u64 1,.int .u64 10,.int .u64 100,.int .u64 1000,.int .u64 10000,.int .u64 100000,.int .u64 1000000,.int .u64 10000000,.int .u64 100000000,.int .u64 1000000000,.int .u64 10000000000,.int .u64 100000000000,.int .u64 1000000000000,.int .u64 10000000000000,.int .u64 100000000000000,.int .u64 1000000000000000,.int .u64 10000000000000000,.int .u64 100000000000000000,.int .u64 1000000000000000000,.int .u64 10000000000000000000]
/-- a world for the witness -/
noncomputable def laidWorld(os:Os):World:=
 {(World.holding Tryz.prog os ⟨#[],#[],[]⟩) with heap:=((((World.holding Tryz.prog os ⟨#[],#[],[]⟩).heap.modify 2 (putCells cells_laid_math_bits_deBruijn32tab)).modify 3 (putCells cells_laid_math_bits_deBruijn64tab)).modify 0 (putCells cells_laid_internal_strconv_uint64pow10))}
theorem plain_of{b:Bool}{f0:FuncId}{fn0:Func}{name:String}(h0:Tryz.prog.funcNamed name=some f0)(h1:Tryz.prog.funcs[f0]? = some fn0)(h2:fn0.params.toList.all (fun t => !Tryz.prog.wantsStandIn t)=true)
  (h3:b=Tryz.pinned.checked.prog.looks []) (f:FuncId) (fn:Func) (hf:Tryz.pinned.checked.prog.funcNamed name=some f) (hfn:Tryz.pinned.checked.prog.funcs[f]? = some fn) :
  b=Tryz.pinned.checked.prog.looks []∧∀(j:Nat) t,fn.params[j]? = some t→Tryz.pinned.checked.prog.wantsStandIn t=false:=by
 obtain rfl:f=f0:=Option.some.inj ((show Tryz.prog.funcNamed name=some f0 from h0).symm.trans hf) |>.symm
 obtain rfl:fn=fn0:=(Option.some.inj (h1.symm.trans hfn)).symm
 refine⟨h3,fun j t ht => ?_⟩
 have:=List.all_eq_true.1 h2 t (by simpa using Array.mem_of_getElem? ht)
 show Tryz.prog.wantsStandIn t=false
 simpa using this
namespace fnBlameHands
set_option maxRecDepth 100000 in
theorem laid_met(os:Os):laidMet Tryz.prog Rows.blameHandsRow.laid ((laidWorld os).forCall (fun _ _=>0) ⟨#[],#[.slice none 0 0,.int .u8 0],[]⟩).memory:=
 laidMet_of_run' 8 (by kernel_rfl) (by kernel_rfl)
set_option maxRecDepth 100000 in
theorem reads(os:Os){H:Type}(enc:TypeId × Value→H):∃ places,DataW.whole enc Tryz.prog ((laidWorld os).forCall (fun _ _=>0) ⟨#[],#[.slice none 0 0,.int .u8 0],[]⟩).memory Tryz.f4.params.toList Rows.blameHandsSpec.vars false (#[.slice none 0 0,.int .u8 0]:Array Value).toList 8=some ([.nil,.lit (.int .u8 0)],[],places):=
 ⟨[],by kernel_rfl⟩
set_option maxRecDepth 100000 in
theorem lifted(os:Os)(started:os.Started)(H:Type)(enc:TypeId × Value→H)(F:Stop.Interp) :
  ReturnsInHanded {} Tryz.checked os 4 .any ((OpenSpec.ofChange Rows.blameHandsSpec).preRow enc Tryz.prog Tryz.f4 Rows.blameHandsRow.domain false Rows.blameHandsRow.laid) (((OpenSpec.ofChange Rows.blameHandsSpec).at F).post enc Tryz.prog Tryz.f4 false true false false):=by
 obtain⟨places,hx⟩:=reads os enc
 refine returnsInHanded_of_row (C:=Tryz.checked) (s:=OpenSpec.ofChange Rows.blameHandsSpec) own started (by kernel_rfl) Tryz.func4
  (witness_row_at (enc:=enc) (C:=Tryz.checked) false (laidWorld os) #[.slice none 0 0,.int .u8 0] rfl (by kernel_rfl) (by kernel_rfl) (by kernel_rfl)
   (OpenSpec.preRow_of_cond 8 hx (by kernel_rfl) (fun k hk=>by cases hk) (by kernel_rfl) (laid_met os))) ?_
 intro W base args ds gs before hval hW _ _ _ hL _ _
 exact contract_BlameHands H enc W base args ds gs before hval hW hL
theorem c_laid:laidOutB Tryz.pinned.checked.prog=true:=by kernel_rfl
theorem c_maps:mapsRowed Tryz.pinned.checked.prog=true:=by kernel_rfl
theorem c_in:(Rows.blameHandsRow.inPlace == Tryz.pinned.checked.prog.inPlace 4)=true:=by kernel_rfl
theorem c_unf:(Rows.blameHandsRow.unfollowed == Tryz.pinned.checked.prog.unfollowed 4)=true:=by kernel_rfl
theorem c_rec:(Rows.blameHandsRow.recurses == Tryz.pinned.checked.prog.recurses 4)=true:=by kernel_rfl
theorem c_nam:(Rows.blameHandsRow.named == Tryz.pinned.checked.prog.varsNamed 4)=true:=by kernel_rfl
theorem c_keys:(Rows.blameHandsRow.plainKeys == Tryz.pinned.checked.prog.plainKeys)=true:=by kernel_rfl
theorem c_heard:Tryz.pinned.checked.prog.stopsHeard=true:=by kernel_rfl
theorem c_may:Tryz.pinned.checked.prog.mayEnter=true:=by kernel_rfl
theorem c_lift:(Rows.blameHandsRow.lifted == Tryz.pinned.checked.prog.liftsFinal)=true:=by kernel_rfl
/-- the closed facts of the row, the great ones each by itself (the kernel's memory) -/
theorem closed:joinedFacts Tryz.pinned.checked.prog 4 Tryz.f4 (OpenSpec.ofChange Rows.blameHandsSpec).bare Rows.blameHandsRow=true:=by
 unfold joinedFacts
 simp only [Bool.and_eq_true]
 repeat' apply And.intro
 all_goals with_reducible first|exact c_laid|exact c_maps|exact c_in|exact c_unf|exact c_rec|exact c_nam|exact c_keys|exact c_heard|exact c_may|exact c_lift|kernel_rfl
theorem said:Rows.BlameHandsSaid:=
 OpenClaim.holds_of_cond 4 Tryz.f4 rfl rfl rfl rfl rfl rfl rfl ⟨rfl,rfl,rfl,rfl,rfl⟩ rfl rfl rfl rfl rfl (by kernel_rfl) Tryz.func4 closed
  (of_decide_eq_true (by kernel_rfl)) (by unfold Func.isWrapper;first|(rw [if_pos (by decide +kernel)];kernel_rfl)|(rw [if_neg (by decide +kernel)];exact⟨rfl,rfl⟩))
  (fun os started H enc _ F=>by rw [OpenClaim.pre_eq_preRow];exact lifted os started H enc F)
theorem card:Rows.BlameHandsCardSaid:=
 Claim7.holds_tied_plain_at .later [] _ _ _ _ said (fun _ h => by cases h) (by kernel_rfl) (fun _ h => by cases h) blameHands_row_tie rfl ⟨rfl, rfl⟩ (by kernel_rfl) rfl (plain_of (name := "bruit/bruitlaw49.BlameHands") (by kernel_rfl) Tryz.func4 (by kernel_rfl) (by kernel_rfl)) (by kernel_rfl)
end fnBlameHands


end Go.Proofs.YtanfebljiblhbaaGreatDoor
