/- A []api.File that a call has made, with the rows of its files; slices.SortFunc at files by their names. Contract of names.All. Contract of render.Tree. Contracts of render.Flaws and render.Clean. -/
import Derived.Test.YtanfebljiblhbaaGreatDoorZRcS
import Derived.Test.YtanfebljiblhbaaGreatDoorZNmE
import Derived.Test.YtanfebljiblhbaaGreatDoorZLay4
set_option linter.unusedVariables false
set_option linter.unusedSimpArgs false
namespace Go.Proofs.YtanfebljiblhbaaGreatDoor
open Go Go.RowKit

/-! ### texts compared -/
def cmpT(a b:ByteArray):Int:=if ltB a b=true then -1 else if a=b then 0 else 1
theorem cmpT_lt{a b:ByteArray}(h:ltB a b=true):cmpT a b = -1:=by unfold cmpT;rw [if_pos h]
theorem cmpT_eq{a b:ByteArray}(h:ltB a b=false)(e:a=b):cmpT a b=0:=by unfold cmpT;rw [if_neg (by rw [h];decide),if_pos e]
theorem cmpT_gt{a b:ByteArray}(h:ltB a b=false)(e:¬ a=b):cmpT a b=1:=by unfold cmpT;rw [if_neg (by rw [h];decide),if_neg e]
theorem cmpT_neg(a b:ByteArray):cmpT a b<0↔ltB a b=true:=by
 unfold cmpT
 by_cases h:ltB a b=true
 ·
  rw [if_pos h];exact⟨fun _=>h,fun _=>by decide⟩
 ·
  rw [if_neg h]
  by_cases e:a=b
  ·
   rw [if_pos e];exact⟨fun q=>absurd q (by decide),fun q=>absurd q h⟩
  ·
   rw [if_neg e];exact⟨fun q=>absurd q (by decide),fun q=>absurd q h⟩
theorem swo_text{α:Type}(t:α→ByteArray):Go.Sort.SWO (Go.Proofs.ltOf fun x y:α=>cmpT (t x) (t y)) where
 irrefl x:=by unfold Go.Proofs.ltOf;rw [decide_eq_false_iff_not,cmpT_neg,rcB_irrefl];decide
 trans x y z h1 h2:=by
  unfold Go.Proofs.ltOf at *
  rw [decide_eq_true_eq,cmpT_neg] at *
  exact rcB_trans h1 h2
 ntrans x y z h1 h2:=by
  unfold Go.Proofs.ltOf at *
  rw [decide_eq_false_iff_not,cmpT_neg,rcB_iff] at *
  exact List.not_lt.2 (List.le_trans (List.not_lt.1 h2) (List.not_lt.1 h1))
attribute [local irreducible] cmpT
/-! ### files with their rows -/
structure LaidF where
 f:FileM
 pa:Option Addr
 ca:Nat
 pl:Option Addr
 cl:Nat
instance:Inhabited LaidF:=⟨⟨default,none,0,none,0⟩⟩
def encL(x:LaidF):List Value:=[.string x.f.name,.slice x.pa x.f.also.length x.ca,.slice x.pl x.f.lines.length x.cl]
theorem oneL(x:LaidF):∀ v∈encL x,v.oneCell'=true:=by intro v hv;simp [encL] at hv;rcases hv with rfl|rfl|rfl <;> rfl
theorem slFile:SlT Tryz.prog 54 66 3 64:=slT_of Tryz.underlying54 (by kernel_rfl) (by decide)
def FileAt(w:World)(B:Nat)(x:LaidF):Prop:=GOwn encS1 1 9 w B (.slice x.pa x.f.also.length x.ca) x.f.also∧GOwn encS1 1 9 w B (.slice x.pl x.f.lines.length x.cl) x.f.lines
/-- a []File, and the rows of its files: all from block B on -/
def FilesL(w:World)(B:Nat)(v:Value)(xs:List LaidF):Prop:=GOwn encL 3 66 w B v xs∧∀ x∈xs,FileAt w B x
def FilesW(w:World)(B:Nat)(v:Value)(t:List FileM):Prop:=∃ xs:List LaidF,xs.map (·.f)=t∧FilesL w B v xs
theorem FileAt.keep{w w':World}{B:Nat}{x:LaidF}{row:Option Nat}(h:FileAt w B x)(hg:w.grownBy w' row)(hr:∀ k,row=some k→k<B):FileAt w' B x:=⟨gown_keep h.1 hg hr,gown_keep h.2 hg hr⟩
theorem FilesW.keep{w w':World}{B:Nat}{v:Value}{t:List FileM}{row:Option Nat}(h:FilesW w B v t)(hg:w.grownBy w' row)(hr:∀ k,row=some k→k<B):FilesW w' B v t:=by
 obtain⟨xs,h1,h2,h3⟩:=h
 exact⟨xs,h1,gown_keep h2 hg hr,fun x hx=>(h3 x hx).keep hg hr⟩
theorem FilesW.over{w w':World}{B:Nat}{v:Value}{t:List FileM}(h:FilesW w B v t)(hb:Below w.heap.size w w'):FilesW w' B v t:=h.keep (below_none hb) (fun k hk=>by cases hk)
theorem FilesW.base{w:World}{B B':Nat}{v:Value}{t:List FileM}(h:FilesW w B v t)(hB:B'≤B):FilesW w B' v t:=by
 obtain⟨xs,h1,h2,h3⟩:=h
 exact⟨xs,h1,h2.base hB,fun x hx=>⟨(h3 x hx).1.base hB,(h3 x hx).2.base hB⟩⟩
theorem FilesW.frow{w:World}{B:Nat}{v:Value}{t:List FileM}(h:FilesW w B v t):FRow w v t:=by
 obtain⟨xs,rfl,h2,h3⟩:=h
 refine⟨xs.map fun x=>(x.f,.slice x.pa x.f.also.length x.ca,.slice x.pl x.f.lines.length x.cl),by rw [List.map_map];rfl,?_,fun y hy => ?_⟩
 ·
  have:=h2.row
  unfold GRow at this
  rw [List.flatMap_map,List.length_map]
  exact this
 ·
  obtain⟨x,hx,rfl⟩:=List.mem_map.1 hy
  exact⟨srow_of (h3 x hx).1.row,srow_of (h3 x hx).2.row⟩
/-- texts of one kind are texts of the other -/
theorem also_conv{w:World}{B:Nat}{e:TypeId}{p:Option Addr}{c:Nat}{l:List (List UInt8)}(h:GOwn encT 1 e w B (.slice p l.length c) l):GOwn encS1 1 e w B (.slice p (l.map fun t=>(⟨t.toArray⟩:ByteArray)).length c) (l.map fun t=>(⟨t.toArray⟩:ByteArray)):=by
 have e1:l.flatMap encT=(l.map fun t=>(⟨t.toArray⟩:ByteArray)).flatMap encS1:=by rw [List.flatMap_map];rfl
 unfold GOwn at h ⊢
 rw [List.length_map,← e1]
 exact h

/-! ### the order of files -/
set_option maxHeartbeats 1000000 in
theorem isnanS_any(s:ByteArray)(w:World):Calls Tryz.prog 109 #[.string s] w fun e w'=>e=.returned (.bool false)∧w'=w:=by
 have h:=seq_t (rfl:s=s)
 go_enter Tryz.func109,Tryz.ntmps109
 go_wp2
 go_ret
 exact⟨by simp,rfl⟩
set_option maxHeartbeats 1000000 in
theorem compT_any(a b:ByteArray)(w:World):Calls Tryz.prog 59 #[.string a,.string b] w fun e w'=>e=.returned (.int .i64 (cmpT a b))∧w'=w:=by
 obtain⟨lt,hlt⟩:∃ q,ltB a b=q:=⟨_,rfl⟩
 obtain⟨c,hc⟩:∃ c,cmpT a b=c:=⟨_,rfl⟩
 rw [hc]
 cases lt with
 | true =>
  rw [cmpT_lt hlt] at hc
  subst hc
  have hl':Op.bytesLess a.toList b.toList=true:=hlt
  clear hlt
  go_enter Tryz.func59,Tryz.ntmps59
  go_wp2_with (go_at_call 109;(with_reducible refine(isnanS_any _ _).mono ?_);rintro e w' ⟨rfl,rfl⟩)
  go_ret
  exact⟨rfl,rfl⟩
 | false =>
  have hl':Op.bytesLess a.toList b.toList=false:=hlt
  by_cases he:a=b
  ·
   rw [cmpT_eq hlt he] at hc
   subst hc
   have he':=seq_t he
   clear hlt he
   go_enter Tryz.func59,Tryz.ntmps59
   go_wp2_with (go_at_call 109;(with_reducible refine(isnanS_any _ _).mono ?_);rintro e w' ⟨rfl,rfl⟩)
   go_ret
   exact⟨rfl,rfl⟩
  ·
   rw [cmpT_gt hlt he] at hc
   subst hc
   have he':=seq_f he
   clear hlt he
   go_enter Tryz.func59,Tryz.ntmps59
   go_wp2_with (go_at_call 109;(with_reducible refine(isnanS_any _ _).mono ?_);rintro e w' ⟨rfl,rfl⟩)
   go_ret
   exact⟨rfl,rfl⟩
def cmpF(x y:LaidF):Int:=cmpT x.f.name y.f.name
set_option maxHeartbeats 2000000 in
theorem treeCmpG(x y:LaidF)(w:World):Calls Tryz.prog 58 #[.agg (encL x).toArray,.agg (encL y).toArray] w fun e w'=>e=.returned (.int .i64 (cmpF x y))∧Grew w w':=by
 show Calls _ _ #[.agg #[.string x.f.name,.slice x.pa x.f.also.length x.ca,.slice x.pl x.f.lines.length x.cl],.agg #[.string y.f.name,.slice y.pa y.f.also.length y.ca,.slice y.pl y.f.lines.length y.cl]] w _
 have HA:=Lib.hid ((arr_new w #[.string x.f.name,.slice x.pa x.f.also.length x.ca,.slice x.pl x.f.lines.length x.cl] 66).alloc (.cells #[.string y.f.name,.slice y.pa y.f.also.length y.ca,.slice y.pl y.f.lines.length y.cl] 66))
 have HC:=Lib.hid (arr_new2 w (.cells #[.string x.f.name,.slice x.pa x.f.also.length x.ca,.slice x.pl x.f.lines.length x.cl] 66) #[.string y.f.name,.slice y.pa y.f.also.length y.ca,.slice y.pl y.f.lines.length y.cl] 66)
 have HB:=Lib.hid (((Grew.refl w).alloc (.cells #[.string x.f.name,.slice x.pa x.f.also.length x.ca,.slice x.pl x.f.lines.length x.cl] 66)).alloc (.cells #[.string y.f.name,.slice y.pa y.f.also.length y.ca,.slice y.pl y.f.lines.length y.cl] 66))
 go_enter Tryz.func58,Tryz.ntmps58
 go_upto_region 1 with(fail)
 generalize hw0:(w.alloc (.cells #[.string x.f.name,.slice x.pa x.f.also.length x.ca,.slice x.pl x.f.lines.length x.cl] 66)).alloc (.cells #[.string y.f.name,.slice y.pa y.f.also.length y.ca,.slice y.pl y.f.lines.length y.cl] 66)=w0 at *
 clear hw0
 have c0:=HA.out.cell (j:=0) rfl
 have sc:=HA.out.lt
 have d0:=HC.out.cell (j:=0) rfl
 have sd:=HC.out.lt
 go_wp2_with fail
 refine(compT_any x.f.name y.f.name _).mono ?_
 rintro e w1 ⟨rfl,hg⟩
 obtain rfl:=hg.symm
 go_wp2_with fail
 go_ret
 exact⟨rfl,HB.out⟩
theorem swoF:Go.Sort.SWO (Go.Proofs.ltOf cmpF):=swo_text fun x:LaidF=>x.f.name
set_option maxHeartbeats 1000000 in
theorem sortFile_any{w:World}{B g cap:Nat}{xs:List LaidF}(h:OwnAt w B 66 3 g xs.length cap (xs.flatMap encL))(hn:xs.length≤1000000000) :
  Calls Tryz.prog 57 #[.slice (some ⟨g,0,none⟩) xs.length cap,.func (.func 58) #[] #[]] w (SortRes cmpF encL 3 66 w B g cap xs):=by
 have hp:Calls Tryz.prog 107 #[.slice (some ⟨g,0,none⟩) xs.length cap,.int .i64 0,.int .i64 xs.length,.int .i64 (Lib.bitLen xs.length:Nat),.func (.func 58) #[] #[]] w (SortRes cmpF encL 3 66 w B g cap xs):=
  sort14_any (P:=Tryz.prog) Tryz.pdqFile (k:=3) (enc:=encL) Tryz.isAgg66 Tryz.sizeOf66 (fun _=>rfl) oneL cmpF swoF 58 (enters_of Tryz.func58 (by kernel_rfl) rfl) (fun x y W=>treeCmpG x y W) h (by omega)
 have HP:=Lib.hid hp
 have hl:Calls Tryz.prog 108 #[.int .u64 (xs.length:Int)] w fun e w'=>e=.returned (.int .i64 (Lib.bitLen xs.length:Nat))∧w'=w:=by
  have h:=Any.bits_Len (Go.Proofs.SlLaysF0.n15.bits Tryz.bitsLen) (xs.length:Int) w (by omega) (by omega)
  rw [Int.toNat_natCast] at h
  exact h
 have HL:=Lib.hid hl
 have wr:IntKind.u64.wrap (xs.length:Int)=xs.length:=by simp [IntKind.wrap,IntKind.bits,IntKind.signed];omega
 clear h hp hl
 go_enter Tryz.func57,Tryz.ntmps57
 go_wp2_with (first|(go_at_call 108;refine HL.out.mono ?_;rintro e w' ⟨rfl,rfl⟩)|(go_at_call 107;refine HP.out.mono ?_;rintro e w' ⟨rfl,hq⟩;have HQ:=Lib.hid hq;clear hq))
 go_end0
 exact⟨rfl,by simpa using HQ.out⟩
set_option maxHeartbeats 1000000 in
theorem sortFile_none(p:Option Addr)(cap:Nat)(w:World) :
  Calls Tryz.prog 57 #[.slice p 0 cap,.func (.func 58) #[] #[]] w fun e w'=>e=.returned (.tuple #[])∧w'=w:=by
 have hp:∀ lim W,Calls Tryz.prog 107 #[.slice p 0 cap,.int .i64 0,.int .i64 0,.int .i64 lim,.func (.func 58) #[] #[]] W fun e w'=>e=.returned (.tuple #[])∧w'=W:=fun lim W=>AnyF.pdqsortCmpFunc_none (P:=Tryz.prog) Tryz.pdqFile p cap lim _ W
 have hl:∀ W,Calls Tryz.prog 108 #[.int .u64 0] W fun e w'=>e=.returned (.int .i64 (Lib.bitLen 0:Nat))∧w'=W:=fun W=>Any.bits_Len (Go.Proofs.SlLaysF0.n15.bits Tryz.bitsLen) 0 W (by omega) (by omega)
 go_enter Tryz.func57,Tryz.ntmps57
 go_wp2_with (first|(go_at_call 108;refine(hl _).mono ?_;rintro e w' ⟨rfl,rfl⟩)|(go_at_call 107;refine(hp _ _).mono ?_;rintro e w' ⟨rfl,rfl⟩))
 go_end0
 exact⟨rfl,rfl⟩
end Go.Proofs.YtanfebljiblhbaaGreatDoor
namespace Go.Proofs.YtanfebljiblhbaaGreatDoor
open Go Go.RowKit

theorem grown_farN{w w1 w2:World}{row r2:Option Nat}(h:w.grownBy w1 row)(h':w1.grownBy w2 r2)(hr:∀ k,r2=some k→w.heap.size≤k):w.grownBy w2 row:=
 ⟨h'.os.trans h.os,h'.tape.trans h.tape,h'.output.trans h.output,Nat.le_trans h.size h'.size,fun k hk hne=>(h'.block k (Nat.lt_of_lt_of_le hk h.size) (fun q=>by have:=hr k q.symm;omega)).trans (h.block k hk hne)⟩
theorem names_len(L:List PatchM)(f:VidM)(hl:∀ p∈L,p.ops.length≤200):(namesM L f).length≤(idsM L).length:=by
 unfold namesM
 rw [List.length_map]
 refine nodup_len ?_ fun v hv => ?_
 ·
  exact(rises_setS revK_inj _).imp fun {a b} h e=>by rw [e] at h;omega
 ·
  rw [mem_setS revK_inj] at hv
  obtain⟨y,hy,rfl⟩:=List.mem_map.1 hv
  rw [mem_idsM hl,(aliveM_at hl hy).1];rfl
attribute [local irreducible] vertsM idsM filesM namesM alsoM textB allTo vertM
theorem nameOne_nil(L:List PatchM)(c:ByteArray→Nat)(f:VidM):nameOne L c f []=⟨f,tilde++textB f,[],[3]⟩:=rfl
theorem nameOne_cons(L:List PatchM)(c:ByteArray→Nat)(f:VidM)(x:VertM)(l:List VertM){al:List (List UInt8)}(ha:alsoM (x :: l) x.text=al){q:Bool}(hq:decide (0<al.length)=q){r:Bool}(hr:decide (0<c x.text)=r) :
  nameOne L c f (x :: l)=⟨f,if r=true then x.text++(tilde++textB f) else x.text,al,(if q=true then [2] else [])++(if r=true then [4] else [])⟩:=by
 simp only [nameOne,ha]
 have e1:(1<c x.text+1)↔r=true:=by rw [← hr,decide_eq_true_iff];omega
 have e2:(al.length=0)↔¬ q=true:=by rw [← hq,decide_eq_true_iff];omega
 by_cases h1:r=true
 ·
  rw [if_pos (e1.2 h1),if_pos h1,if_pos (e1.2 h1),if_pos h1]
  by_cases h2:q=true
  ·
   rw [if_neg (fun h=>e2.1 h h2),if_pos h2]
  ·
   rw [if_pos (e2.2 h2),if_neg h2]
 ·
  rw [if_neg (fun h=>h1 (e1.1 h)),if_neg h1,if_neg (fun h=>h1 (e1.1 h)),if_neg h1]
  by_cases h2:q=true
  ·
   rw [if_neg (fun h=>e2.1 h h2),if_pos h2]
  ·
   rw [if_pos (e2.2 h2),if_neg h2]
set_option maxHeartbeats 40000000 in
set_option maxRecDepth 100000 in
theorem nall_any(b:Nat)(L:List PatchM)(w:World)(hg:GrIs w b L)(hw:WfG L)(hil:(idsM L).length≤1000000)(ht:Tab w) :
  Calls Tryz.prog 34 #[.pointer (some ⟨b,0,none⟩)] w (AllRes w (allM L)):=by
 have HGA:=Lib.hid hg
 obtain⟨bv,be,nG,hG⟩:=hg
 have HG:=Lib.hid hG
 have HW:=Lib.hid hw
 have hwl:=Lib.hid (wf_len hw)
 have HT:=Lib.hid ht
 have hfl:=Nat.le_trans (filesM_len L) hil
 have HAL:Hid (∀ k,k≤(filesM L).length→(allTo L k).1.length≤k∧∀ t,(allTo L k).2 t≤k):=Lib.hid (allTo_len L)
 have HNO:Hid (∀ f x,x∈namesM L f→nameOk x.text=true):=Lib.hid fun f x hx=>name_ok hw hx
 have hmm:=@run_makeMap Tryz.prog
 have HM0:Hid (TMap Tryz.prog 9 strV okStr intV (w.alloc (.map #[] 0)) w.heap.size 0 (fun _=>none)):=Lib.hid (TMap.made w)
 have HB1:=Lib.hid (below_new (w:=w) (.map #[] 0))
 have hs1:(w.alloc (.map #[] 0)).heap.size=w.heap.size+1:=by simp
 clear hw ht hG
 go_enter Tryz.func34,Tryz.ntmps34
 go_upto_region 3 with(fail)
 generalize hw1:w.alloc (.map #[] 0)=w1 at *
 clear hw1 hmm
 go_wp2_with fail
 refine(gfiles_any b L _ (HGA.out.over HB1.out) HW.out hil).mono ?_
 rintro e w2 ⟨v13,rfl,ho,hb⟩
 have hs2:=hb.size
 have HF0:Hid (GOwn encVid 3 27 w2 (w.heap.size+1) v13 (filesM L)):=Lib.hid (ho.base (by omega))
 have HM2:=Lib.hid (HM0.out.over hb)
 have HB2:=Lib.hid (below_over HB1.out HB1.out.size hb)
 obtain⟨p13,c13,rfl⟩:=own_sl ho
 clear ho hb
 go_wp2_with fail
 go_loopw [3,15] (fun v3 v15 wr=>AllIn L w w.heap.size (.slice p13 (filesM L).length c13) v3 v15 wr) (fun _ v15 _=>(filesM L).length - (intOf v15).toNat)
 case atStart=>exact⟨0,0,fun _=>none,Nat.zero_le _,Nat.le_refl _,rfl,(by show Names _ _ _ _;rw [allTo_zero];exact names_nil _ _),HM2,(by show ∀ t,_;intro t;rw [allTo_zero];rfl),HF0,HB2,by omega⟩
 case round =>
  obtain⟨k,n,f,hk,hnk,rfl,HN,HM,HC,HF,HB,hs⟩:=hrel
  rename World=>wr
  by_cases hlt:k<(filesM L).length
  ·
   obtain⟨fv,hfv⟩:=get_of_lt hlt
   have HSu:=Lib.hid (allTo_succ hfv)
   obtain⟨hal,hac⟩:=HAL.out k hk
   have HAC:=Lib.hid hac
   obtain⟨g13,cap13,he13,hA13⟩:=own_at (show World.ownsRow _ _ _ _ _ _ _ from HF.out) (by omega)
   cases he13
   have p0:wr.cell? ⟨g13,k*3,none⟩=some (.int .u8 fv.pid.author.toNat):=hA13.cell ((flat_get encVid_len _ k 0 fv hfv (by decide)).trans rfl)
   have p1:wr.cell? ⟨g13,k*3+1,none⟩=some (.int .u16 fv.pid.seq.toNat):=hA13.cell ((flat_get encVid_len _ k 1 fv hfv (by decide)).trans rfl)
   have p2:wr.cell? ⟨g13,k*3+2,none⟩=some (.int .u8 fv.n.toNat):=hA13.cell ((flat_get encVid_len _ k 2 fv hfv (by decide)).trans rfl)
   have s13:=hA13.lt
   clear hA13 hfv hac
   go_upto_region 6 with(fail)
   have HA6T:=Lib.hid (arrT_new wr [.int .u8 fv.pid.author.toNat,.int .u16 fv.pid.seq.toNat,.int .u8 fv.n.toNat] 27)
   have HA6:=Lib.hid (arr_new wr #[.int .u8 fv.pid.author.toNat,.int .u16 fv.pid.seq.toNat,.int .u8 fv.n.toNat] 27)
   have HB6:=Lib.hid (below_new (w:=wr) (.cells #[.int .u8 fv.pid.author.toNat,.int .u16 fv.pid.seq.toNat,.int .u8 fv.n.toNat] 27))
   generalize hw6:wr.alloc (.cells #[.int .u8 fv.pid.author.toNat,.int .u16 fv.pid.seq.toNat,.int .u8 fv.n.toNat] 27)=w6 at *
   clear hw6 p0 p1 p2 s13
   have q0:=HA6.out.cell (j:=0) rfl
   have q1:=HA6.out.cell (j:=1) rfl
   have q2:=HA6.out.cell (j:=2) rfl
   have sq:=HA6.out.lt
   have HVT:=Lib.hid (gvert_any b bv be nG _ _ _ fv w6 (HG.out.over (below_over HB.out HB.out.size HB6.out)))
   generalize hy:optV (vertM L fv)=y at *
   have HY:Hid ((vertM L fv).getD noVert=y):=Lib.hid hy
   have HVT2:Hid (Calls Tryz.prog 37 #[.pointer (some ⟨b,0,none⟩),vidV fv] w6 fun e w'=>e=.returned (.tuple #[vertV y,.bool (vertM L fv).isSome])∧Below w6.heap.size w6 w'):=Lib.hid (HVT.out.mono fun e w' h=>by obtain⟨h1,h2⟩:=h;exact⟨by rw [h1,hy],h2⟩)
   clear hy HVT
   go_upto_region 7 with(first|(go_at_call 37;(with_reducible refine HVT2.out.mono ?_);rintro e w7 ⟨rfl,hb7⟩;have HB7:=Lib.hid hb7;clear hb7))
   have hA8:=arr_new w7 #[.int .u8 y.id.pid.author.toNat,.int .u16 y.id.pid.seq.toNat,.int .u8 y.id.n.toNat,.int .u8 y.kind.toNat,.int .u8 y.file.pid.author.toNat,.int .u16 y.file.pid.seq.toNat,.int .u8 y.file.n.toNat,.string y.text,.bool y.dead] 86
   have HA8:=Lib.hid hA8
   have HB8:=Lib.hid (below_new (w:=w7) (.cells #[.int .u8 y.id.pid.author.toNat,.int .u16 y.id.pid.seq.toNat,.int .u8 y.id.n.toNat,.int .u8 y.kind.toNat,.int .u8 y.file.pid.author.toNat,.int .u16 y.file.pid.seq.toNat,.int .u8 y.file.n.toNat,.string y.text,.bool y.dead] 86))
   generalize hw8:w7.alloc (.cells #[.int .u8 y.id.pid.author.toNat,.int .u16 y.id.pid.seq.toNat,.int .u8 y.id.n.toNat,.int .u8 y.kind.toNat,.int .u8 y.file.pid.author.toNat,.int .u16 y.file.pid.seq.toNat,.int .u8 y.file.n.toNat,.string y.text,.bool y.dead] 86)=w8 at *
   clear hw8 hA8 q0 q1 q2 sq HVT2
   have HBr:=Lib.hid (below_over (below_over HB6.out HB6.out.size HB7.out) (by have:=HB6.out.size;have:=HB7.out.size;omega) HB8.out)
   have HN8:=Lib.hid (HN.out.over HBr.out)
   have HM8:=Lib.hid (HM.out.over HBr.out)
   have HF8:=Lib.hid (HF.out.over HBr.out)
   have HBw:=Lib.hid (below_over HB.out HB.out.size HBr.out)
   have HA68T:=Lib.hid (HA6T.out.over (below_over HB7.out HB7.out.size HB8.out))
   have HA68:=Lib.hid (HA6.out.over (below_over HB7.out HB7.out.size HB8.out))
   have hsr:=HBr.out.size
   have hs8:w.heap.size+1≤w8.heap.size:=by omega
   clear HN HM HF
   have y0:=HA8.out.cell (j:=0) rfl
   have y1:=HA8.out.cell (j:=1) rfl
   have y2:=HA8.out.cell (j:=2) rfl
   have y3:=HA8.out.cell (j:=3) rfl
   have y4:=HA8.out.cell (j:=4) rfl
   have y5:=HA8.out.cell (j:=5) rfl
   have y6:=HA8.out.cell (j:=6) rfl
   have y7:=HA8.out.cell (j:=7) rfl
   have y8:=HA8.out.cell (j:=8) rfl
   have sy:=HA8.out.lt
   cases hd:y.dead with
   | true =>
    have HS:=Lib.hid (step_dead (s:=allTo L k) HY.out hd)
    rw [hd] at y8
    clear hd
    go_wp2_with fail
    go_roundw
    case rel=>exact⟨k+1,n,f,hlt,by omega,by go_num,(by show Names _ _ _ _;rw [HSu.out,HS.out];exact HN8.out),HM8,(by show ∀ t,_;rw [HSu.out,HS.out];exact HC.out),HF8,HBw,hs8⟩
    case measure=>simp [intOf];omega
   | false =>
    have HS:=Lib.hid (step_live (s:=allTo L k) HY.out hd)
    rw [hd] at y8
    clear hd
    go_upto_region 8 with(fail)
    clear y0 y1 y2 y3 y4 y5 y6 y7 y8 sy
    have q0:=HA68.out.cell (j:=0) rfl
    have q1:=HA68.out.cell (j:=1) rfl
    have q2:=HA68.out.cell (j:=2) rfl
    have sq:=HA68.out.lt
    have HGA8:=Lib.hid (HGA.out.over HBw.out)
    have HKS:Hid (∀ w':World,Below w8.heap.size w8 w'→(w'.cell? ⟨wr.heap.size,0,none⟩=some (.int .u8 fv.pid.author.toNat)∧w'.cell? ⟨wr.heap.size,1,none⟩=some (.int .u16 fv.pid.seq.toNat)∧w'.cell? ⟨wr.heap.size,2,none⟩=some (.int .u8 fv.n.toNat)∧Below w8.heap.size w8 w')):=fun w' hb=>⟨(hb.cell (p:=⟨wr.heap.size,0,none⟩) sq).trans q0,(hb.cell (p:=⟨wr.heap.size,1,none⟩) sq).trans q1,(hb.cell (p:=⟨wr.heap.size,2,none⟩) sq).trans q2,hb⟩
    go_cut [9,10] (fun s9 s10 wx=>∃ g9,s9=.pointer (some ⟨g9,0,none⟩)∧Hid (ArrT wx g9 82 [.int .u8 fv.pid.author.toNat,.int .u16 fv.pid.seq.toNat,.int .u8 fv.n.toNat,.string ⟨#[]⟩,.slice none 0 0,.slice none 0 0])∧Hid (GOwn encVert 9 86 wx w8.heap.size s10 (namesM L fv))∧Hid (Below w8.heap.size w8 wx)∧w8.heap.size≤g9)
    case first =>
     go_region_held3 (fun w'=>w'.cell? ⟨wr.heap.size,0,none⟩=some (.int .u8 fv.pid.author.toNat)∧w'.cell? ⟨wr.heap.size,1,none⟩=some (.int .u16 fv.pid.seq.toNat)∧w'.cell? ⟨wr.heap.size,2,none⟩=some (.int .u8 fv.n.toNat)∧Below w8.heap.size w8 w') ((refine HKS.out _ ?_;(with_reducible (first|exact(Below.refl _ _).drew|exact HBk.out|exact HBk.out.alloc HBk.out.size _|exact((Below.refl w8.heap.size w8).alloc (Nat.le_refl _) _).drew|exact((((((HBk.out.setCell (p:=⟨w8.heap.size,0,none⟩) (Nat.le_refl _) (.int .u8 fv.pid.author.toNat)).setCell (p:=⟨w8.heap.size,1,none⟩) (Nat.le_refl _) (.int .u16 fv.pid.seq.toNat)).setCell (p:=⟨w8.heap.size,2,none⟩) (Nat.le_refl _) (.int .u8 fv.n.toNat)).setCell (p:=⟨w8.heap.size,3,none⟩) (Nat.le_refl _) (.string ⟨#[]⟩)).setCell (p:=⟨w8.heap.size,4,none⟩) (Nat.le_refl _) (.slice none 0 0)).setCell (p:=⟨w8.heap.size,5,none⟩) (Nat.le_refl _) (.slice none 0 0))))))
      (first|(go_at_call 68;refine(nof_any b L fv _ (HGA8.out.over (by first|exact(Below.refl _ _).drew|exact((Below.refl w8.heap.size w8).alloc (Nat.le_refl _) _).drew)) HW.out hil).mono ?_;rintro e w9 ⟨v10,rfl,ho10,hb⟩;have HBk:Hid (Below w8.heap.size w8 w9):=(by show Below w8.heap.size w8 w9;with_reducible (first|exact below_over (Below.refl w8.heap.size w8).drew (Nat.le_refl _) hb|exact below_over (((Below.refl w8.heap.size w8).alloc (Nat.le_refl _) _).drew) (Below.size (((Below.refl w8.heap.size w8).alloc (Nat.le_refl _) _).drew)) hb));have HBb:=Lib.hid hb;have HO10:=Lib.hid ho10;obtain⟨hcc,hff⟩:=bcell hb;clear hb ho10))
     ·
      rename_i J K hJ hK hHeld
      clear hHeld
      refine hK _ _ (Met.intro (hJ _ _ ?_))
      (repeat apply Exists.intro)
      refine⟨?_,rfl⟩
      exact⟨_,rfl,Lib.hid (arrT_new w9 [.int .u8 fv.pid.author.toNat,.int .u16 fv.pid.seq.toNat,.int .u8 fv.n.toNat,.string ⟨#[]⟩,.slice none 0 0,.slice none 0 0] 82),Lib.hid (HO10.out.over (below_new (w:=w9) (.cells #[.int .u8 fv.pid.author.toNat,.int .u16 fv.pid.seq.toNat,.int .u8 fv.n.toNat,.string ⟨#[]⟩,.slice none 0 0,.slice none 0 0] 82))),Lib.hid (HBk.out.alloc HBk.out.size _),HBk.out.size⟩
     ·
      rename_i J K hJ hK hHeld
      clear hHeld
      refine hK _ _ (Met.intro (hJ _ _ ?_))
      (repeat apply Exists.intro)
      refine⟨?_,rfl⟩
      have HZ:Hid (ArrT w9 w8.heap.size 82 [.int .u8 0,.int .u16 0,.int .u8 0,.string ⟨#[]⟩,.slice none 0 0,.slice none 0 0]):=((show ArrT (w8.alloc (.cells #[.int .u8 0,.int .u16 0,.int .u8 0,.string ⟨#[]⟩,.slice none 0 0,.slice none 0 0] 82)).drew w8.heap.size 82 [.int .u8 0,.int .u16 0,.int .u8 0,.string ⟨#[]⟩,.slice none 0 0,.slice none 0 0] from arrT_new w8 [.int .u8 0,.int .u16 0,.int .u8 0,.string ⟨#[]⟩,.slice none 0 0,.slice none 0 0] 82).over HBb.out)
      have hne:v10.ownBlock=none∨v10.ownBlock≠some w8.heap.size:=.inr (fun q=>(HZ.out.ne (show World.ownsRow _ _ _ _ _ _ _ from HO10.out) (by decide)) q.symm)
      exact⟨_,rfl,Lib.hid ((((((HZ.out.set 0 (.int .u8 fv.pid.author.toNat)).set 1 (.int .u16 fv.pid.seq.toNat)).set 2 (.int .u8 fv.n.toNat)).set 3 (.string ⟨#[]⟩)).set 4 (.slice none 0 0)).set 5 (.slice none 0 0)),Lib.hid (GOwn.base (show GOwn encVert 9 86 _ _ _ _ from own_grown HO10.out (grown_trans (grown_trans (grown_trans (grown_trans (grown_trans (grown_trans (World.grownBy.refl w9 _) (grown_setCell _ _ _)) (grown_setCell _ _ _)) (grown_setCell _ _ _)) (grown_setCell _ _ _)) (grown_setCell _ _ _)) (grown_setCell _ _ _)) hne) (by simp)),Lib.hid ((((((HBk.out.setCell (p:=⟨w8.heap.size,0,none⟩) (Nat.le_refl _) (.int .u8 fv.pid.author.toNat)).setCell (p:=⟨w8.heap.size,1,none⟩) (Nat.le_refl _) (.int .u16 fv.pid.seq.toNat)).setCell (p:=⟨w8.heap.size,2,none⟩) (Nat.le_refl _) (.int .u8 fv.n.toNat)).setCell (p:=⟨w8.heap.size,3,none⟩) (Nat.le_refl _) (.string ⟨#[]⟩)).setCell (p:=⟨w8.heap.size,4,none⟩) (Nat.le_refl _) (.slice none 0 0)).setCell (p:=⟨w8.heap.size,5,none⟩) (Nat.le_refl _) (.slice none 0 0)),Nat.le_refl _⟩
    case rest =>
     obtain⟨g9,rfl,HA9,HO9,HB9,hg9⟩:=hcut
     rename World=>w9
     have HFb9:=Lib.hid (HA68.out.over HB9.out)
     have HT9:=Lib.hid (HT.out.over (below_over HBw.out HBw.out.size HB9.out))
     obtain⟨p10,c10,rfl⟩:=own_sl HO9.out
     have hs9:=HB9.out.size
     have zt:=textB_size fv
     clear q0 q1 q2 sq HKS
     have q0:=HFb9.out.cell (j:=0) rfl
     have q1:=HFb9.out.cell (j:=1) rfl
     have q2:=HFb9.out.cell (j:=2) rfl
     have sq:=HFb9.out.lt
     cases hn:namesM L fv with
     | nil =>
      rw [hn] at HO9 HS
      have HNM:=Lib.hid hn
      clear hn
      go_upto_region 10 with(fail)
      go_wp2_with fail
      refine(vtext_any fv _ HT9.out).mono ?_
      rintro e w10 ⟨rfl,hb10⟩
      have HB10:=Lib.hid (below_over HB9.out HB9.out.size hb10)
      have HA10:=Lib.hid (HA9.out.over hb10)
      have hAS:=(HA10.out.set 3 (.string (tilde++textB fv))).set 5 (.slice (some ⟨w10.heap.size,0,none⟩) 1 1)
      have hBS:=(HB10.out.setCell (p:=⟨g9,3,none⟩) hg9 (.string (tilde++textB fv))).setCell (p:=⟨g9,5,none⟩) hg9 (.slice (some ⟨w10.heap.size,0,none⟩) 1 1)
      have hsS:((w10.setCell ⟨g9,3,none⟩ (.string (tilde++textB fv))).setCell ⟨g9,5,none⟩ (.slice (some ⟨w10.heap.size,0,none⟩) 1 1)).heap.size=w10.heap.size:=by simp
      have HAS:=Lib.hid hAS
      have HBS:=Lib.hid hBS
      clear hAS hBS
      clear hb10 q0 q1 q2 sq
      unfold tilde at *
      generalize hT:textB fv=T at *
      have HTT:=Lib.hid hT
      clear hT
      have c0:=HA10.out.arr.cell (j:=0) rfl
      have c1:=HA10.out.arr.cell (j:=1) rfl
      have c2:=HA10.out.arr.cell (j:=2) rfl
      have c3:=HA10.out.arr.cell (j:=3) rfl
      have c4:=HA10.out.arr.cell (j:=4) rfl
      have c5:=HA10.out.arr.cell (j:=5) rfl
      have sc:=HA10.out.arr.lt
      have cf3:=HA10.out.arr.free 3
      have cf5:=HA10.out.arr.free 5
      go_upto_region 11 with(fail)
      generalize hwS:(w10.setCell ⟨g9,3,none⟩ (.string ((⟨#[126]⟩:ByteArray)++T))).setCell ⟨g9,5,none⟩ (.slice (some ⟨w10.heap.size,0,none⟩) 1 1)=wS at *
      have hL11:=own_lit (enc:=encU8) (sz:=1) wS 5 [3] wS.heap.size rfl (by decide) (Nat.le_refl _)
      rw [hsS] at hL11
      have HL11:Hid (GOwn encU8 1 5 (wS.alloc (.cells #[.int .u8 3] 5)) w10.heap.size (.slice (some ⟨w10.heap.size,0,none⟩) 1 1) [3]):=Lib.hid hL11
      have HA11:=Lib.hid (HAS.out.over (below_new (w:=wS) (.cells #[.int .u8 3] 5)))
      have HB11:=Lib.hid (HBS.out.alloc (by have:=HB10.out.size;omega) (.cells #[.int .u8 3] 5))
      clear hL11
      generalize hw11:wS.alloc (.cells #[.int .u8 3] 5)=w11 at *
      clear hw11 hwS hsS HAS HBS c0 c1 c2 c3 c4 c5 cf3 cf5 sc
      obtain⟨xs,hxs,hO,hNa⟩:=HN8.out.over HB11.out
      have HXS:=Lib.hid hxs
      have HO11:=Lib.hid hO
      have HNa:=Lib.hid hNa
      have hxl:xs.length≤k:=by rw [← hxs,List.length_map] at hal;exact hal
      have hN11:xs.length+1≤1099511627776:=by omega
      have hs11:=HB11.out.size
      have hB11:w.heap.size+1≤w11.heap.size:=by omega
      have HAT:Hid (NameAt w11 (w.heap.size+1) ⟨⟨fv,(⟨#[126]⟩:ByteArray)++T,[],[3]⟩,none,0,some ⟨w10.heap.size,0,none⟩,1⟩):=Lib.hid ⟨gown_nil _ _,HL11.out.base (by have:=HB10.out.size;omega)⟩
      have HE:Hid (nameOne L (allTo L k).2 fv []=⟨fv,(⟨#[126]⟩:ByteArray)++T,[],[3]⟩):=by show _=_;rw [nameOne_nil];unfold tilde;rw [HTT.out]
      have HM11:=Lib.hid (HM8.out.over HB11.out)
      have HF11:=Lib.hid (HF8.out.over HB11.out)
      have HBw11:=Lib.hid (below_over HBw.out HBw.out.size HB11.out)
      clear hxs hO hNa
      have d0:=HA11.out.arr.cell (j:=0) rfl
      have d1:=HA11.out.arr.cell (j:=1) rfl
      have d2:=HA11.out.arr.cell (j:=2) rfl
      have d3:=HA11.out.arr.cell (j:=3) rfl
      have d4:=HA11.out.arr.cell (j:=4) rfl
      have d5:=HA11.out.arr.cell (j:=5) rfl
      have sd:=HA11.out.arr.lt
      go_wp2_with (at_builtin;(first|refine wpList_append_newD slName rfl _ _ rfl (w.heap.size+1) _ _ (drawn_alloc_drewN _ _ _) 1 _ _ _ HO11.out rfl rfl rfl rfl hN11 (by decide) hB11 ?_|refine wpList_append_newD slName rfl _ _ rfl (w.heap.size+1) _ _ (drawn_drew _) 1 _ _ _ HO11.out rfl rfl rfl rfl hN11 (by decide) hB11 ?_|refine wpList_append_newD slName rfl _ _ rfl (w.heap.size+1) _ _ (drawn_drewN _ _) 1 _ _ _ HO11.out rfl rfl rfl rfl hN11 (by decide) hB11 ?_|refine wpList_append_newD slName rfl _ _ rfl (w.heap.size+1) _ _ (drawn_refl _) 1 _ _ _ HO11.out rfl rfl rfl rfl hN11 (by decide) hB11 ?_);intro v12 w12 ho12 hg12)
      have hkb:∀ j,u3.ownBlock=some j→w.heap.size+1≤j:=fun j hj=>gown_base HO11.out hj
      have hNs:=names_snoc (y:=⟨⟨fv,(⟨#[126]⟩:ByteArray)++T,[],[3]⟩,none,0,some ⟨w10.heap.size,0,none⟩,1⟩) HXS.out HO11.out HNa.out HAT.out hg12 ho12
      have HNs:=Lib.hid hNs
      have hs12:=hg12.size
      have HM12:=Lib.hid (HM11.out.kept hg12 (fun q=>by have:=hkb _ q.symm;omega))
      have HF12:=Lib.hid (show GOwn encVid 3 27 _ _ _ _ from own_grown HF11.out hg12 (own_apart HF11.out HO11.out (by decide)))
      have HBw12:=Lib.hid (HBw11.out.grown hg12 HBw11.out.size (fun j hj=>by have:=hkb _ hj;omega))
      clear hNs ho12 hg12
      go_roundw
      case rel=>exact⟨k+1,n,f,hlt,by omega,by go_num,(by show Names _ _ _ _;rw [HSu.out,HS.out,HE.out];exact HNs.out),HM12,(by show ∀ t,_;rw [HSu.out,HS.out];exact HC.out),HF12,HBw12,by omega⟩
      case measure=>simp [intOf];omega
     | cons x l =>
      have hxm:x∈namesM L fv:=by rw [hn];exact List.mem_cons_self ..
      have hno:=HNO.out fv x hxm
      have zx:x.text.size≤16:=by unfold nameOk at hno;simp only [Bool.and_eq_true,decide_eq_true_eq] at hno;exact hno.2.2
      have hok:okStr x.text:=Nat.le_trans zx (by unfold maxLen;omega)
      have hnl:=names_len L fv hwl.out
      rw [hn] at HO9 HS hnl
      have hnl2:l.length+1≤1000000:=by simp at hnl;omega
      obtain⟨gX,capX,heX,hX⟩:=own_at (show World.ownsRow _ _ _ _ _ _ _ from HO9.out) (by simp)
      cases heX
      have HX9:Hid (OwnAt w9 w8.heap.size 86 9 gX (l.length+1) c10 ((x :: l).flatMap encVert)):=Lib.hid hX
      have HXr:Hid (GRow encVert 9 w9 (.slice (some ⟨gX,0,none⟩) (l.length+1) c10) (x :: l)):=Lib.hid hX.row
      have hXl:=hX.lt
      have hXc:=hX.nc
      have hXm:=hX.cm
      unfold maxLen at hXm
      have HFb8T:=HA68T
      clear hn hxm hno hX hnl
      obtain⟨c,hcc⟩:∃ c,(allTo L k).2 x.text=c:=⟨_,rfl⟩
      have hck:c≤k:=by rw [← hcc];exact HAC.out _
      have HCc:=Lib.hid hcc
      have HCx:Hid ((f x.text).getD 0=(c:Int)):=Lib.hid (by have:=HC.out x.text;rw [hcc] at this;exact this)
      have HU:Hid ((updM f x.text ((c:Int)+1) x.text).getD 0=(c:Int)+1):=Lib.hid (by unfold updM;rw [if_pos rfl];rfl)
      clear hcc
      have hcon:=fun w' (hr:GRow encVert 9 w' (.slice (some ⟨gX,0,none⟩) (l.length+1) c10) (x :: l))=>nalso_any _ (x :: l) x w' hr rfl (by simp;omega)
      generalize has:alsoM (x :: l) x.text=al at *
      have HAS:=Lib.hid has
      have HCON:=Lib.hid hcon
      clear has hcon
      have hgne:¬ gX=g9:=fun q=>(HA9.out.ne (show World.ownsRow _ _ _ _ _ _ _ from HX9.out.own) (by decide)) (by rw [q];rfl)
      have hfl8:=HFb8T.out.arr.lt
      have hfbne:¬ wr.heap.size=g9:=by omega
      go_upto_region 12 with(fail)
      have t7:w9.cell? ⟨gX,7,none⟩=some (.string x.text):=HX9.out.cell (j:=7) (u:=.string x.text) rfl
      have hcur:World.grownBy w9 w9.drew (some g9):=⟨rfl,rfl,rfl,Nat.le_refl _,fun _ _ _=>rfl⟩
      refine wp_region_lex (C:=IsKept w9 (some g9)) 10 [] (by kernel_rfl) (by kernel_rfl) (isKept_of hcur) ?_
      simp only [List.take_succ_cons,List.take_zero,List.drop_succ_cons,List.drop_zero]
      repeat(first|(refine lex_skip rfl rfl ?_;simp only [Act.put,List.setIfInBounds_toArray,List.set_cons_succ,List.set_cons_zero])|(refine lex_one rfl ?_;go_big_quiet_step (fail);refine wpQuiet_nil ?_)|(refine lex_loud rfl ?_;go_wp2_with (first|(go_at_call 70;(with_reducible refine(HCON.out _ (HXr.out.over (Below.refl _ _).drew)).mono ?_);rintro e w10 ⟨va,rfl,hoa,hb10⟩;have HB10:Hid (Below w9.heap.size w9 w10):=Lib.hid (below_over (Below.refl _ _).drew (Nat.le_refl _) hb10);replace hcur:=grown_trans hcur (grown_of_below hb10);obtain⟨pa,ca,hva⟩:=own_sl hoa;subst hva;have HOa10:=Lib.hid (show GOwn encT 1 9 w10 w8.heap.size (.slice pa al.length ca) al from hoa.base hs9);have HA10:=Lib.hid (HA9.out.over HB10.out);have c3:=HA10.out.arr.cell (j:=3) rfl;have c4:=HA10.out.arr.cell (j:=4) rfl;have cf3:=HA10.out.arr.free 3;have cf4:=HA10.out.arr.free 4;have sc:=HA10.out.arr.lt;clear hoa hb10));refine⟨isKept_of (by first|exact hcur|exact only_alloc hcur _|exact grown_trans hcur (grown_setCell _ _ _)|exact grown_trans (grown_trans hcur (grown_setCell _ _ _)) (grown_setCell _ _ _)),?_⟩))
      refine lex_end ?_
      clear c3 c4 cf3 cf4 sc t7
      have HA12:=Lib.hid ((HA10.out.set 3 (.string x.text)).set 4 (.slice pa al.length ca))
      have hg12:World.grownBy w10 ((w10.setCell ⟨g9,3,none⟩ (.string x.text)).setCell ⟨g9,4,none⟩ (.slice pa al.length ca)) (some g9):=grown_trans (grown_setCell _ _ _) (grown_setCell _ _ _)
      generalize hw12:((w10.setCell ⟨g9,3,none⟩ (.string x.text)).setCell ⟨g9,4,none⟩ (.slice pa al.length ca))=w12 at *
      clear hw12 hcur
      have HX10:=Lib.hid (HX9.out.over HB10.out)
      have HX12:=Lib.hid (HX10.out.grown hg12 (fun q=>HA10.out.ne (show World.ownsRow _ _ _ _ _ _ _ from HX10.out.own) (by decide) q.symm))
      have neA:(Value.slice pa al.length ca).ownBlock=none∨(Value.slice pa al.length ca).ownBlock≠some g9:=.inr (fun q=>(HA10.out.ne (show World.ownsRow _ _ _ _ _ _ _ from HOa10.out) (by decide)) q.symm)
      have HOa12:=Lib.hid (show GOwn encT 1 9 w12 w8.heap.size (.slice pa al.length ca) al from own_grown HOa10.out hg12 neA)
      have HQ12:Hid (w8.grownBy w12 none):=Lib.hid (grown_farN (below_none (below_over HB9.out hs9 HB10.out)) hg12 (fun j hj=>by cases hj;exact hg9))
      have hs12:=HQ12.out.size
      clear hg12 neA
      have c0:=HA12.out.arr.cell (j:=0) rfl
      have c1:=HA12.out.arr.cell (j:=1) rfl
      have c2:=HA12.out.arr.cell (j:=2) rfl
      have c3:=HA12.out.arr.cell (j:=3) rfl
      have c4:=HA12.out.arr.cell (j:=4) rfl
      have c5:=HA12.out.arr.cell (j:=5) rfl
      have sc:=HA12.out.arr.lt
      have cf5:=HA12.out.arr.free 5
      by_cases hq:0<al.length
      ·
       have d13:decide ((0:Int)<(al.length:Int))=true:=decide_eq_true (by omega)
       have HOf12:Hid (GOwn encU8 1 5 w12 w8.heap.size (.slice none 0 0) []):=Lib.hid (gown_nil _ _)
       have hN14:([]:List UInt8).length+1≤1099511627776:=by decide
       go_upto_region 15 with((at_builtin;(first|refine wpList_append_newD slByte rfl _ _ rfl w8.heap.size _ _ (drawn_alloc_drewN _ _ _) 1 _ _ _ HOf12.out rfl rfl rfl rfl hN14 (by decide) hs12 ?_|refine wpList_append_newD slByte rfl _ _ rfl w8.heap.size _ _ (drawn_drew _) 1 _ _ _ HOf12.out rfl rfl rfl rfl hN14 (by decide) hs12 ?_|refine wpList_append_newD slByte rfl _ _ rfl w8.heap.size _ _ (drawn_drewN _ _) 1 _ _ _ HOf12.out rfl rfl rfl rfl hN14 (by decide) hs12 ?_|refine wpList_append_newD slByte rfl _ _ rfl w8.heap.size _ _ (drawn_refl _) 1 _ _ _ HOf12.out rfl rfl rfl rfl hN14 (by decide) hs12 ?_);intro v13 w13 ho13 hg13);(obtain⟨pf,cf,hpf⟩:=own_sl (show GOwn encU8 1 5 w13 w8.heap.size v13 [2] from GOwn.snoc (xs:=[]) (x:=2) ho13);subst hpf;have HOf13:=Lib.hid (show GOwn encU8 1 5 w13 w8.heap.size (.slice pf 1 cf) [2] from GOwn.snoc (xs:=[]) (x:=2) ho13);have HG13:Hid (w12.grownBy w13 none):=Lib.hid hg13;have HA13:=Lib.hid (HA12.out.kept hg13 (by simp [Value.ownBlock]));have o13:=HA13.out.arr.cell (j:=5) rfl;have o13f:=HA13.out.arr.free 5;have o13s:=HA13.out.arr.lt;clear ho13 hg13))
       clear c0 c1 c2 c3 c4 c5 cf5 sc o13 o13f o13s
       have HA14:=Lib.hid (HA13.out.set 5 (.slice pf 1 cf))
       have hg14:World.grownBy w13 (w13.setCell ⟨g9,5,none⟩ (.slice pf 1 cf)) (some g9):=grown_setCell _ _ _
       generalize hw14:w13.setCell ⟨g9,5,none⟩ (.slice pf 1 cf)=w14 at *
       clear hw14
       have hge:World.grownBy w12 w14 (some g9):=grown_trans (grown_none HG13.out) hg14
       have HX14:=Lib.hid (HX12.out.grown hge (fun q=>HA12.out.ne (show World.ownsRow _ _ _ _ _ _ _ from HX12.out.own) (by decide) q.symm))
       have neA:(Value.slice pa al.length ca).ownBlock=none∨(Value.slice pa al.length ca).ownBlock≠some g9:=.inr (fun q=>(HA12.out.ne (show World.ownsRow _ _ _ _ _ _ _ from HOa12.out) (by decide)) q.symm)
       have neF:(Value.slice pf 1 cf).ownBlock=none∨(Value.slice pf 1 cf).ownBlock≠some g9:=.inr (fun q=>(HA13.out.ne (show World.ownsRow _ _ _ _ _ _ _ from HOf13.out) (by decide)) q.symm)
       have HOa14:=Lib.hid (show GOwn encT 1 9 w14 w8.heap.size (.slice pa al.length ca) al from own_grown HOa12.out hge neA)
       have HOf14:=Lib.hid (show GOwn encU8 1 5 w14 w8.heap.size (.slice pf 1 cf) [2] from own_grown HOf13.out hg14 neF)
       have HQ14:=Lib.hid (grown_farN HQ12.out hge (fun j hj=>by cases hj;exact hg9))
       clear hge hg14 neA neF
       have HM14:=Lib.hid (HM8.out.kept HQ14.out (by simp))
       have HFb14:=Lib.hid (HFb8T.out.kept HQ14.out (by simp))
       have hs14:=HQ14.out.size
       have t7:w14.cell? ⟨gX,7,none⟩=some (.string x.text):=HX14.out.cell (j:=7) (u:=.string x.text) rfl
       have tl:=HX14.out.lt
       go_upto_region 16 with(first|(refine wpList_tlook keysStr int_inj rfl _ _ _ rfl Tryz.underlying144 0 (zero_int _) w.heap.size n f rfl HM14.out x.text rfl hok ?_;rw [HCx.out])|(refine wpList_tstore keysStr int_inj rfl _ _ _ _ rfl Tryz.underlying144 w.heap.size n f rfl HM14.out (by unfold maxLen;omega) x.text rfl hok ((c:Int)+1) rfl ?_;intro w15 hM15 hg15 hs15))
       have HM15:=Lib.hid hM15
       have hgX:=HX14.out.base
       have HA15:=Lib.hid (HA14.out.kept hg15 (fun q=>by have:=Option.some.inj q;omega))
       have HX15:=Lib.hid (HX14.out.grown hg15 (fun q=>by have:=Option.some.inj q;omega))
       have HOa15:=Lib.hid (gown_keep HOa14.out hg15 (fun j hj=>by cases hj;omega))
       have HOf15:=Lib.hid (gown_keep HOf14.out hg15 (fun j hj=>by cases hj;omega))
       have HP15:Hid (w8.grownBy w15 (some w.heap.size)):=Lib.hid (grown_trans (grown_none HQ14.out) hg15)
       have HFb15:=Lib.hid (HFb14.out.kept hg15 (fun q=>by have:=Option.some.inj q;omega))
       have HCn:Hid (∀ t,(updM f x.text ((c:Int)+1) t).getD 0=((bumpT (allTo L k).2 x.text t:Nat):Int)):=Lib.hid (fun t=>by have:=cnt_bump HC.out x.text t;rw [HCc.out] at this;exact this)
       have hs15':=Nat.le_of_eq hs15.symm
       clear hM15 hg15 t7 tl hs15
       have t7:w15.cell? ⟨gX,7,none⟩=some (.string x.text):=HX15.out.cell (j:=7) (u:=.string x.text) rfl
       have tl:=HX15.out.lt
       by_cases hc:0<c
       ·
        have d16:decide ((1:Int)<(c:Int)+1)=true:=decide_eq_true (by omega)
        have HE:Hid (nameOne L (allTo L k).2 fv (x :: l)=⟨fv,x.text++((⟨#[126]⟩:ByteArray)++textB fv),al,[2,4]⟩):=by show _=_;rw [nameOne_cons L _ fv x l HAS.out (q:=true) (decide_eq_true (by omega)) (r:=true) (decide_eq_true (by have:=HCc.out;omega))];rfl
        clear hc
        go_upto_region 17 with(refine wpList_tlook keysStr int_inj rfl _ _ _ rfl Tryz.underlying144 0 (zero_int _) w.heap.size (n+1) _ rfl HM15.out x.text rfl hok ?_;rw [HU.out])
        have HT15:=Lib.hid (HT.out.over (HBw.out.grown HP15.out HBw.out.size (fun j hj=>by cases hj;omega)))
        have HTX:Hid (∀ w',Below w15.heap.size w15 w'→Calls Tryz.prog 69 #[vidV fv] w' fun e w''=>e=.returned (.string (textB fv))∧Below w'.heap.size w' w''):=fun w' hb=>vtext_any fv w' (HT15.out.over hb)
        generalize textB fv=T at *
        clear t7 tl
        have c0:=HA15.out.arr.cell (j:=0) rfl
        have c1:=HA15.out.arr.cell (j:=1) rfl
        have c2:=HA15.out.arr.cell (j:=2) rfl
        have c3:=HA15.out.arr.cell (j:=3) rfl
        have c4:=HA15.out.arr.cell (j:=4) rfl
        have c5:=HA15.out.arr.cell (j:=5) rfl
        have sc:=HA15.out.arr.lt
        have cf3:=HA15.out.arr.free 3
        have q0:=HFb15.out.arr.cell (j:=0) rfl
        have q1:=HFb15.out.arr.cell (j:=1) rfl
        have q2:=HFb15.out.arr.cell (j:=2) rfl
        have sq:=HFb15.out.arr.lt
        have hcur:Below w15.heap.size w15 w15.drew:=(Below.refl _ _).drew
        refine wp_region_lex (C:=IsOver w15) 7 [] (by kernel_rfl) (by kernel_rfl) (isOver_of hcur) ?_
        simp only [List.take_succ_cons,List.take_zero,List.drop_succ_cons,List.drop_zero]
        repeat(first|(refine lex_skip rfl rfl ?_;simp only [Act.put,List.setIfInBounds_toArray,List.set_cons_succ,List.set_cons_zero])|(refine lex_one rfl ?_;go_big_quiet_step (fail);refine wpQuiet_nil ?_)|(refine lex_loud rfl ?_;go_wp2_with (first|(go_at_call 69;(with_reducible refine(HTX.out _ hcur).mono ?_);rintro e w' ⟨rfl,hb⟩;replace hcur:=below_over hcur hcur.size hb;clear hb));refine⟨isOver_of hcur,?_⟩))
        refine lex_end ?_
        rename World=>w16
        have HB16:=Lib.hid hcur
        have HA16:=Lib.hid (HA15.out.over hcur)
        clear c0 c1 c2 c3 c4 c5 cf3 sc q0 q1 q2 sq hcur
        have c0:=HA16.out.arr.cell (j:=0) rfl
        have c1:=HA16.out.arr.cell (j:=1) rfl
        have c2:=HA16.out.arr.cell (j:=2) rfl
        have c3:=HA16.out.arr.cell (j:=3) rfl
        have c4:=HA16.out.arr.cell (j:=4) rfl
        have c5:=HA16.out.arr.cell (j:=5) rfl
        have sc:=HA16.out.arr.lt
        have cf3:=HA16.out.arr.free 3
        go_upto_region 18 with(fail)
        have HA17:=Lib.hid (HA16.out.set 3 (.string (x.text++((⟨#[126]⟩:ByteArray)++T))))
        have hg17:World.grownBy w15 (w16.setCell ⟨g9,3,none⟩ (.string (x.text++((⟨#[126]⟩:ByteArray)++T)))) (some g9):=grown_trans (grown_of_below HB16.out) (grown_setCell _ _ _)
        generalize hw17:w16.setCell ⟨g9,3,none⟩ (.string (x.text++((⟨#[126]⟩:ByteArray)++T)))=w17 at *
        clear hw17 c0 c1 c2 c3 c4 c5 cf3 sc
        have hs17:=hg17.size
        have neA:(Value.slice pa al.length ca).ownBlock=none∨(Value.slice pa al.length ca).ownBlock≠some g9:=.inr (fun q=>(HA15.out.ne (show World.ownsRow _ _ _ _ _ _ _ from HOa15.out) (by decide)) q.symm)
        have neF:(Value.slice pf 1 cf).ownBlock=none∨(Value.slice pf 1 cf).ownBlock≠some g9:=.inr (fun q=>(HA15.out.ne (show World.ownsRow _ _ _ _ _ _ _ from HOf15.out) (by decide)) q.symm)
        have HOa17:=Lib.hid (show GOwn encT 1 9 w17 w8.heap.size (.slice pa al.length ca) al from own_grown HOa15.out hg17 neA)
        have HOf17:=Lib.hid (show GOwn encU8 1 5 w17 w8.heap.size (.slice pf 1 cf) [2] from own_grown HOf15.out hg17 neF)
        have HP17:=Lib.hid (grown_farN HP15.out hg17 (fun j hj=>by cases hj;exact hg9))
        have HM17:=Lib.hid (HM15.out.kept hg17 (fun q=>by have:=Option.some.inj q;omega))
        clear hg17 neA neF
        have c0:=HA17.out.arr.cell (j:=0) rfl
        have c1:=HA17.out.arr.cell (j:=1) rfl
        have c2:=HA17.out.arr.cell (j:=2) rfl
        have c3:=HA17.out.arr.cell (j:=3) rfl
        have c4:=HA17.out.arr.cell (j:=4) rfl
        have c5:=HA17.out.arr.cell (j:=5) rfl
        have sc:=HA17.out.arr.lt
        have cf5:=HA17.out.arr.free 5
        have hN18:([2]:List UInt8).length+1≤1099511627776:=by decide
        have hB18:w8.heap.size≤w17.heap.size:=HP17.out.size
        go_upto_region 19 with((at_builtin;(first|refine wpList_append_newD slByte rfl _ _ rfl w8.heap.size _ _ (drawn_alloc_drewN _ _ _) 1 _ _ _ HOf17.out rfl rfl rfl rfl hN18 (by decide) hB18 ?_|refine wpList_append_newD slByte rfl _ _ rfl w8.heap.size _ _ (drawn_drew _) 1 _ _ _ HOf17.out rfl rfl rfl rfl hN18 (by decide) hB18 ?_|refine wpList_append_newD slByte rfl _ _ rfl w8.heap.size _ _ (drawn_drewN _ _) 1 _ _ _ HOf17.out rfl rfl rfl rfl hN18 (by decide) hB18 ?_|refine wpList_append_newD slByte rfl _ _ rfl w8.heap.size _ _ (drawn_refl _) 1 _ _ _ HOf17.out rfl rfl rfl rfl hN18 (by decide) hB18 ?_);intro v18 w18 ho18 hg18);obtain⟨pf2,cf2,hpf⟩:=own_sl (show GOwn encU8 1 5 w18 w8.heap.size v18 [2,4] from GOwn.snoc (xs:=[2]) (x:=4) ho18);subst hpf;have HOf18:=Lib.hid (show GOwn encU8 1 5 w18 w8.heap.size (.slice pf2 2 cf2) [2,4] from GOwn.snoc (xs:=[2]) (x:=4) ho18);have HA18:=Lib.hid (HA17.out.grown (show World.ownsRow _ _ _ _ _ _ _ from HOf17.out) (by decide) hg18);have HOa18:=Lib.hid (show GOwn encT 1 9 w18 w8.heap.size (.slice pa al.length ca) al from own_grown HOa17.out hg18 (own_apart HOa17.out HOf17.out (by decide)));have hfb:=fun j (hj:(Value.slice pf 1 cf).ownBlock=some j)=>gown_base HOf17.out hj;have HP18:=Lib.hid (grown_farN HP17.out hg18 hfb);have HM18:=Lib.hid (HM17.out.kept hg18 (fun q=>by have:=hfb _ q.symm;omega));have o18:=HA18.out.arr.cell (j:=5) rfl;have o18f:=HA18.out.arr.free 5;have o18s:=HA18.out.arr.lt;clear hfb ho18 hg18)
        clear c0 c1 c2 c3 c4 c5 cf5 sc o18 o18f o18s
        have HAz:=Lib.hid (HA18.out.set 5 (.slice pf2 2 cf2))
        have hgz:World.grownBy w18 (w18.setCell ⟨g9,5,none⟩ (.slice pf2 2 cf2)) (some g9):=grown_setCell _ _ _
        generalize hwz:w18.setCell ⟨g9,5,none⟩ (.slice pf2 2 cf2)=wz at *
        clear hwz
        have neA:(Value.slice pa al.length ca).ownBlock=none∨(Value.slice pa al.length ca).ownBlock≠some g9:=.inr (fun q=>(HA18.out.ne (show World.ownsRow _ _ _ _ _ _ _ from HOa18.out) (by decide)) q.symm)
        have neF:(Value.slice pf2 2 cf2).ownBlock=none∨(Value.slice pf2 2 cf2).ownBlock≠some g9:=.inr (fun q=>(HA18.out.ne (show World.ownsRow _ _ _ _ _ _ _ from HOf18.out) (by decide)) q.symm)
        have HOaz:=Lib.hid (show GOwn encT 1 9 wz w8.heap.size (.slice pa al.length ca) al from own_grown HOa18.out hgz neA)
        have HOfz:=Lib.hid (show GOwn encU8 1 5 wz w8.heap.size (.slice pf2 2 cf2) [2,4] from own_grown HOf18.out hgz neF)
        have HPz:=Lib.hid (grown_farN HP18.out hgz (fun j hj=>by cases hj;exact hg9))
        have HMz:=Lib.hid (HM18.out.kept hgz (fun q=>by have:=Option.some.inj q;omega))
        clear hgz neA neF
        have HNx:=Lib.hid (HN8.out.keep HPz.out (fun j hj=>by cases hj;omega))
        have HFx:=Lib.hid (gown_keep HF8.out HPz.out (fun j hj=>by cases hj;omega))
        have HBx:=Lib.hid (HBw.out.grown HPz.out HBw.out.size (fun j hj=>by cases hj;omega))
        have hsx:=HPz.out.size
        obtain⟨xs,hxs,hO,hNa⟩:=HNx.out
        have HXS:=Lib.hid hxs
        have HOx:=Lib.hid hO
        have HNa:=Lib.hid hNa
        have hxl:xs.length≤k:=by rw [← hxs,List.length_map] at hal;exact hal
        have hNx:xs.length+1≤1099511627776:=by omega
        have hBx:w.heap.size+1≤wz.heap.size:=by omega
        have HAT:Hid (NameAt wz (w.heap.size+1) ⟨⟨fv,x.text++((⟨#[126]⟩:ByteArray)++T),al,[2,4]⟩,pa,ca,pf2,cf2⟩):=Lib.hid ⟨HOaz.out.base (by omega),HOfz.out.base (by omega)⟩
        clear hxs hO hNa
        have d0:=HAz.out.arr.cell (j:=0) rfl
        have d1:=HAz.out.arr.cell (j:=1) rfl
        have d2:=HAz.out.arr.cell (j:=2) rfl
        have d3:=HAz.out.arr.cell (j:=3) rfl
        have d4:=HAz.out.arr.cell (j:=4) rfl
        have d5:=HAz.out.arr.cell (j:=5) rfl
        have sd:=HAz.out.arr.lt
        go_wp2_with (at_builtin;(first|refine wpList_append_newD slName rfl _ _ rfl (w.heap.size+1) _ _ (drawn_alloc_drewN _ _ _) 1 _ _ _ HOx.out rfl rfl rfl rfl hNx (by decide) hBx ?_|refine wpList_append_newD slName rfl _ _ rfl (w.heap.size+1) _ _ (drawn_drew _) 1 _ _ _ HOx.out rfl rfl rfl rfl hNx (by decide) hBx ?_|refine wpList_append_newD slName rfl _ _ rfl (w.heap.size+1) _ _ (drawn_drewN _ _) 1 _ _ _ HOx.out rfl rfl rfl rfl hNx (by decide) hBx ?_|refine wpList_append_newD slName rfl _ _ rfl (w.heap.size+1) _ _ (drawn_refl _) 1 _ _ _ HOx.out rfl rfl rfl rfl hNx (by decide) hBx ?_);intro v19 w19 ho19 hg19)
        have hkb:∀ j,u3.ownBlock=some j→w.heap.size+1≤j:=fun j hj=>gown_base HOx.out hj
        have hNs:=names_snoc (y:=⟨⟨fv,x.text++((⟨#[126]⟩:ByteArray)++T),al,[2,4]⟩,pa,ca,pf2,cf2⟩) HXS.out HOx.out HNa.out HAT.out hg19 ho19
        have HNs:=Lib.hid hNs
        have hs19:=hg19.size
        have HM19:=Lib.hid (HMz.out.kept hg19 (fun q=>by have:=hkb _ q.symm;omega))
        have HF19:=Lib.hid (show GOwn encVid 3 27 _ _ _ _ from own_grown HFx.out hg19 (own_apart HFx.out HOx.out (by decide)))
        have HBw19:=Lib.hid (HBx.out.grown hg19 HBx.out.size (fun j hj=>by have:=hkb _ hj;omega))
        clear hNs ho19 hg19
        go_roundw
        case rel=>exact⟨k+1,n+1,_,hlt,by omega,by go_num,(by show Names _ _ _ _;rw [HSu.out,HS.out,HE.out];exact HNs.out),HM19,(by show ∀ t,_;rw [HSu.out,HS.out];exact HCn.out),HF19,HBw19,by omega⟩
        case measure=>simp [intOf];omega
       ·
        have d16:decide ((1:Int)<(c:Int)+1)=false:=decide_eq_false (by omega)
        have HE:Hid (nameOne L (allTo L k).2 fv (x :: l)=⟨fv,x.text,al,[2]⟩):=by show _=_;rw [nameOne_cons L _ fv x l HAS.out (q:=true) (decide_eq_true (by omega)) (r:=false) (decide_eq_false (by have:=HCc.out;omega))];rfl
        clear hc
        go_upto_region 19 with(refine wpList_tlook keysStr int_inj rfl _ _ _ rfl Tryz.underlying144 0 (zero_int _) w.heap.size (n+1) _ rfl HM15.out x.text rfl hok ?_;rw [HU.out])
        clear t7 tl
        have HNx:=Lib.hid (HN8.out.keep HP15.out (fun j hj=>by cases hj;omega))
        have HFx:=Lib.hid (gown_keep HF8.out HP15.out (fun j hj=>by cases hj;omega))
        have HBx:=Lib.hid (HBw.out.grown HP15.out HBw.out.size (fun j hj=>by cases hj;omega))
        have hsx:=HP15.out.size
        obtain⟨xs,hxs,hO,hNa⟩:=HNx.out
        have HXS:=Lib.hid hxs
        have HOx:=Lib.hid hO
        have HNa:=Lib.hid hNa
        have hxl:xs.length≤k:=by rw [← hxs,List.length_map] at hal;exact hal
        have hNx:xs.length+1≤1099511627776:=by omega
        have hBx:w.heap.size+1≤w15.heap.size:=by omega
        have HAT:Hid (NameAt w15 (w.heap.size+1) ⟨⟨fv,x.text,al,[2]⟩,pa,ca,pf,cf⟩):=Lib.hid ⟨HOa15.out.base (by omega),HOf15.out.base (by omega)⟩
        clear hxs hO hNa
        have d0:=HA15.out.arr.cell (j:=0) rfl
        have d1:=HA15.out.arr.cell (j:=1) rfl
        have d2:=HA15.out.arr.cell (j:=2) rfl
        have d3:=HA15.out.arr.cell (j:=3) rfl
        have d4:=HA15.out.arr.cell (j:=4) rfl
        have d5:=HA15.out.arr.cell (j:=5) rfl
        have sd:=HA15.out.arr.lt
        go_wp2_with (at_builtin;(first|refine wpList_append_newD slName rfl _ _ rfl (w.heap.size+1) _ _ (drawn_alloc_drewN _ _ _) 1 _ _ _ HOx.out rfl rfl rfl rfl hNx (by decide) hBx ?_|refine wpList_append_newD slName rfl _ _ rfl (w.heap.size+1) _ _ (drawn_drew _) 1 _ _ _ HOx.out rfl rfl rfl rfl hNx (by decide) hBx ?_|refine wpList_append_newD slName rfl _ _ rfl (w.heap.size+1) _ _ (drawn_drewN _ _) 1 _ _ _ HOx.out rfl rfl rfl rfl hNx (by decide) hBx ?_|refine wpList_append_newD slName rfl _ _ rfl (w.heap.size+1) _ _ (drawn_refl _) 1 _ _ _ HOx.out rfl rfl rfl rfl hNx (by decide) hBx ?_);intro v19 w19 ho19 hg19)
        have hkb:∀ j,u3.ownBlock=some j→w.heap.size+1≤j:=fun j hj=>gown_base HOx.out hj
        have hNs:=names_snoc (y:=⟨⟨fv,x.text,al,[2]⟩,pa,ca,pf,cf⟩) HXS.out HOx.out HNa.out HAT.out hg19 ho19
        have HNs:=Lib.hid hNs
        have hs19:=hg19.size
        have HM19:=Lib.hid (HM15.out.kept hg19 (fun q=>by have:=hkb _ q.symm;omega))
        have HF19:=Lib.hid (show GOwn encVid 3 27 _ _ _ _ from own_grown HFx.out hg19 (own_apart HFx.out HOx.out (by decide)))
        have HBw19:=Lib.hid (HBx.out.grown hg19 HBx.out.size (fun j hj=>by have:=hkb _ hj;omega))
        clear hNs ho19 hg19
        go_roundw
        case rel=>exact⟨k+1,n+1,_,hlt,by omega,by go_num,(by show Names _ _ _ _;rw [HSu.out,HS.out,HE.out];exact HNs.out),HM19,(by show ∀ t,_;rw [HSu.out,HS.out];exact HCn.out),HF19,HBw19,by omega⟩
        case measure=>simp [intOf];omega
      ·
       have d13:decide ((0:Int)<(al.length:Int))=false:=decide_eq_false (by omega)
       have HOf14:Hid (GOwn encU8 1 5 w12 w8.heap.size (.slice none 0 0) []):=Lib.hid (gown_nil _ _)
       go_upto_region 15 with(fail)
       clear c0 c1 c2 c3 c4 c5 cf5 sc
       have HA14:=HA12
       have HX14:=HX12
       have HOa14:=HOa12
       have HQ14:=HQ12
       clear HA12 HX12 HOa12 HQ12
       generalize w12=w14 at *
       have HM14:=Lib.hid (HM8.out.kept HQ14.out (by simp))
       have HFb14:=Lib.hid (HFb8T.out.kept HQ14.out (by simp))
       have hs14:=HQ14.out.size
       have t7:w14.cell? ⟨gX,7,none⟩=some (.string x.text):=HX14.out.cell (j:=7) (u:=.string x.text) rfl
       have tl:=HX14.out.lt
       go_upto_region 16 with(first|(refine wpList_tlook keysStr int_inj rfl _ _ _ rfl Tryz.underlying144 0 (zero_int _) w.heap.size n f rfl HM14.out x.text rfl hok ?_;rw [HCx.out])|(refine wpList_tstore keysStr int_inj rfl _ _ _ _ rfl Tryz.underlying144 w.heap.size n f rfl HM14.out (by unfold maxLen;omega) x.text rfl hok ((c:Int)+1) rfl ?_;intro w15 hM15 hg15 hs15))
       have HM15:=Lib.hid hM15
       have hgX:=HX14.out.base
       have HA15:=Lib.hid (HA14.out.kept hg15 (fun q=>by have:=Option.some.inj q;omega))
       have HX15:=Lib.hid (HX14.out.grown hg15 (fun q=>by have:=Option.some.inj q;omega))
       have HOa15:=Lib.hid (gown_keep HOa14.out hg15 (fun j hj=>by cases hj;omega))
       have HOf15:=Lib.hid (gown_keep HOf14.out hg15 (fun j hj=>by cases hj;omega))
       have HP15:Hid (w8.grownBy w15 (some w.heap.size)):=Lib.hid (grown_trans (grown_none HQ14.out) hg15)
       have HFb15:=Lib.hid (HFb14.out.kept hg15 (fun q=>by have:=Option.some.inj q;omega))
       have HCn:Hid (∀ t,(updM f x.text ((c:Int)+1) t).getD 0=((bumpT (allTo L k).2 x.text t:Nat):Int)):=Lib.hid (fun t=>by have:=cnt_bump HC.out x.text t;rw [HCc.out] at this;exact this)
       have hs15':=Nat.le_of_eq hs15.symm
       clear hM15 hg15 t7 tl hs15
       have t7:w15.cell? ⟨gX,7,none⟩=some (.string x.text):=HX15.out.cell (j:=7) (u:=.string x.text) rfl
       have tl:=HX15.out.lt
       by_cases hc:0<c
       ·
        have d16:decide ((1:Int)<(c:Int)+1)=true:=decide_eq_true (by omega)
        have HE:Hid (nameOne L (allTo L k).2 fv (x :: l)=⟨fv,x.text++((⟨#[126]⟩:ByteArray)++textB fv),al,[4]⟩):=by show _=_;rw [nameOne_cons L _ fv x l HAS.out (q:=false) (decide_eq_false (by omega)) (r:=true) (decide_eq_true (by have:=HCc.out;omega))];rfl
        clear hc
        go_upto_region 17 with(refine wpList_tlook keysStr int_inj rfl _ _ _ rfl Tryz.underlying144 0 (zero_int _) w.heap.size (n+1) _ rfl HM15.out x.text rfl hok ?_;rw [HU.out])
        have HT15:=Lib.hid (HT.out.over (HBw.out.grown HP15.out HBw.out.size (fun j hj=>by cases hj;omega)))
        have HTX:Hid (∀ w',Below w15.heap.size w15 w'→Calls Tryz.prog 69 #[vidV fv] w' fun e w''=>e=.returned (.string (textB fv))∧Below w'.heap.size w' w''):=fun w' hb=>vtext_any fv w' (HT15.out.over hb)
        generalize textB fv=T at *
        clear t7 tl
        have c0:=HA15.out.arr.cell (j:=0) rfl
        have c1:=HA15.out.arr.cell (j:=1) rfl
        have c2:=HA15.out.arr.cell (j:=2) rfl
        have c3:=HA15.out.arr.cell (j:=3) rfl
        have c4:=HA15.out.arr.cell (j:=4) rfl
        have c5:=HA15.out.arr.cell (j:=5) rfl
        have sc:=HA15.out.arr.lt
        have cf3:=HA15.out.arr.free 3
        have q0:=HFb15.out.arr.cell (j:=0) rfl
        have q1:=HFb15.out.arr.cell (j:=1) rfl
        have q2:=HFb15.out.arr.cell (j:=2) rfl
        have sq:=HFb15.out.arr.lt
        have hcur:Below w15.heap.size w15 w15.drew:=(Below.refl _ _).drew
        refine wp_region_lex (C:=IsOver w15) 7 [] (by kernel_rfl) (by kernel_rfl) (isOver_of hcur) ?_
        simp only [List.take_succ_cons,List.take_zero,List.drop_succ_cons,List.drop_zero]
        repeat(first|(refine lex_skip rfl rfl ?_;simp only [Act.put,List.setIfInBounds_toArray,List.set_cons_succ,List.set_cons_zero])|(refine lex_one rfl ?_;go_big_quiet_step (fail);refine wpQuiet_nil ?_)|(refine lex_loud rfl ?_;go_wp2_with (first|(go_at_call 69;(with_reducible refine(HTX.out _ hcur).mono ?_);rintro e w' ⟨rfl,hb⟩;replace hcur:=below_over hcur hcur.size hb;clear hb));refine⟨isOver_of hcur,?_⟩))
        refine lex_end ?_
        rename World=>w16
        have HB16:=Lib.hid hcur
        have HA16:=Lib.hid (HA15.out.over hcur)
        clear c0 c1 c2 c3 c4 c5 cf3 sc q0 q1 q2 sq hcur
        have c0:=HA16.out.arr.cell (j:=0) rfl
        have c1:=HA16.out.arr.cell (j:=1) rfl
        have c2:=HA16.out.arr.cell (j:=2) rfl
        have c3:=HA16.out.arr.cell (j:=3) rfl
        have c4:=HA16.out.arr.cell (j:=4) rfl
        have c5:=HA16.out.arr.cell (j:=5) rfl
        have sc:=HA16.out.arr.lt
        have cf3:=HA16.out.arr.free 3
        go_upto_region 18 with(fail)
        have HA17:=Lib.hid (HA16.out.set 3 (.string (x.text++((⟨#[126]⟩:ByteArray)++T))))
        have hg17:World.grownBy w15 (w16.setCell ⟨g9,3,none⟩ (.string (x.text++((⟨#[126]⟩:ByteArray)++T)))) (some g9):=grown_trans (grown_of_below HB16.out) (grown_setCell _ _ _)
        generalize hw17:w16.setCell ⟨g9,3,none⟩ (.string (x.text++((⟨#[126]⟩:ByteArray)++T)))=w17 at *
        clear hw17 c0 c1 c2 c3 c4 c5 cf3 sc
        have hs17:=hg17.size
        have neA:(Value.slice pa al.length ca).ownBlock=none∨(Value.slice pa al.length ca).ownBlock≠some g9:=.inr (fun q=>(HA15.out.ne (show World.ownsRow _ _ _ _ _ _ _ from HOa15.out) (by decide)) q.symm)
        have neF:(Value.slice none 0 0).ownBlock=none∨(Value.slice none 0 0).ownBlock≠some g9:=.inr (fun q=>(HA15.out.ne (show World.ownsRow _ _ _ _ _ _ _ from HOf15.out) (by decide)) q.symm)
        have HOa17:=Lib.hid (show GOwn encT 1 9 w17 w8.heap.size (.slice pa al.length ca) al from own_grown HOa15.out hg17 neA)
        have HOf17:=Lib.hid (show GOwn encU8 1 5 w17 w8.heap.size (.slice none 0 0) [] from own_grown HOf15.out hg17 neF)
        have HP17:=Lib.hid (grown_farN HP15.out hg17 (fun j hj=>by cases hj;exact hg9))
        have HM17:=Lib.hid (HM15.out.kept hg17 (fun q=>by have:=Option.some.inj q;omega))
        clear hg17 neA neF
        have c0:=HA17.out.arr.cell (j:=0) rfl
        have c1:=HA17.out.arr.cell (j:=1) rfl
        have c2:=HA17.out.arr.cell (j:=2) rfl
        have c3:=HA17.out.arr.cell (j:=3) rfl
        have c4:=HA17.out.arr.cell (j:=4) rfl
        have c5:=HA17.out.arr.cell (j:=5) rfl
        have sc:=HA17.out.arr.lt
        have cf5:=HA17.out.arr.free 5
        have hN18:([]:List UInt8).length+1≤1099511627776:=by decide
        have hB18:w8.heap.size≤w17.heap.size:=HP17.out.size
        go_upto_region 19 with((at_builtin;(first|refine wpList_append_newD slByte rfl _ _ rfl w8.heap.size _ _ (drawn_alloc_drewN _ _ _) 1 _ _ _ HOf17.out rfl rfl rfl rfl hN18 (by decide) hB18 ?_|refine wpList_append_newD slByte rfl _ _ rfl w8.heap.size _ _ (drawn_drew _) 1 _ _ _ HOf17.out rfl rfl rfl rfl hN18 (by decide) hB18 ?_|refine wpList_append_newD slByte rfl _ _ rfl w8.heap.size _ _ (drawn_drewN _ _) 1 _ _ _ HOf17.out rfl rfl rfl rfl hN18 (by decide) hB18 ?_|refine wpList_append_newD slByte rfl _ _ rfl w8.heap.size _ _ (drawn_refl _) 1 _ _ _ HOf17.out rfl rfl rfl rfl hN18 (by decide) hB18 ?_);intro v18 w18 ho18 hg18);obtain⟨pf2,cf2,hpf⟩:=own_sl (show GOwn encU8 1 5 w18 w8.heap.size v18 [4] from GOwn.snoc (xs:=[]) (x:=4) ho18);subst hpf;have HOf18:=Lib.hid (show GOwn encU8 1 5 w18 w8.heap.size (.slice pf2 1 cf2) [4] from GOwn.snoc (xs:=[]) (x:=4) ho18);have HA18:=Lib.hid (HA17.out.grown (show World.ownsRow _ _ _ _ _ _ _ from HOf17.out) (by decide) hg18);have HOa18:=Lib.hid (show GOwn encT 1 9 w18 w8.heap.size (.slice pa al.length ca) al from own_grown HOa17.out hg18 (own_apart HOa17.out HOf17.out (by decide)));have hfb:=fun j (hj:(Value.slice none 0 0).ownBlock=some j)=>gown_base HOf17.out hj;have HP18:=Lib.hid (grown_farN HP17.out hg18 hfb);have HM18:=Lib.hid (HM17.out.kept hg18 (fun q=>by have:=hfb _ q.symm;omega));have o18:=HA18.out.arr.cell (j:=5) rfl;have o18f:=HA18.out.arr.free 5;have o18s:=HA18.out.arr.lt;clear hfb ho18 hg18)
        clear c0 c1 c2 c3 c4 c5 cf5 sc o18 o18f o18s
        have HAz:=Lib.hid (HA18.out.set 5 (.slice pf2 1 cf2))
        have hgz:World.grownBy w18 (w18.setCell ⟨g9,5,none⟩ (.slice pf2 1 cf2)) (some g9):=grown_setCell _ _ _
        generalize hwz:w18.setCell ⟨g9,5,none⟩ (.slice pf2 1 cf2)=wz at *
        clear hwz
        have neA:(Value.slice pa al.length ca).ownBlock=none∨(Value.slice pa al.length ca).ownBlock≠some g9:=.inr (fun q=>(HA18.out.ne (show World.ownsRow _ _ _ _ _ _ _ from HOa18.out) (by decide)) q.symm)
        have neF:(Value.slice pf2 1 cf2).ownBlock=none∨(Value.slice pf2 1 cf2).ownBlock≠some g9:=.inr (fun q=>(HA18.out.ne (show World.ownsRow _ _ _ _ _ _ _ from HOf18.out) (by decide)) q.symm)
        have HOaz:=Lib.hid (show GOwn encT 1 9 wz w8.heap.size (.slice pa al.length ca) al from own_grown HOa18.out hgz neA)
        have HOfz:=Lib.hid (show GOwn encU8 1 5 wz w8.heap.size (.slice pf2 1 cf2) [4] from own_grown HOf18.out hgz neF)
        have HPz:=Lib.hid (grown_farN HP18.out hgz (fun j hj=>by cases hj;exact hg9))
        have HMz:=Lib.hid (HM18.out.kept hgz (fun q=>by have:=Option.some.inj q;omega))
        clear hgz neA neF
        have HNx:=Lib.hid (HN8.out.keep HPz.out (fun j hj=>by cases hj;omega))
        have HFx:=Lib.hid (gown_keep HF8.out HPz.out (fun j hj=>by cases hj;omega))
        have HBx:=Lib.hid (HBw.out.grown HPz.out HBw.out.size (fun j hj=>by cases hj;omega))
        have hsx:=HPz.out.size
        obtain⟨xs,hxs,hO,hNa⟩:=HNx.out
        have HXS:=Lib.hid hxs
        have HOx:=Lib.hid hO
        have HNa:=Lib.hid hNa
        have hxl:xs.length≤k:=by rw [← hxs,List.length_map] at hal;exact hal
        have hNx:xs.length+1≤1099511627776:=by omega
        have hBx:w.heap.size+1≤wz.heap.size:=by omega
        have HAT:Hid (NameAt wz (w.heap.size+1) ⟨⟨fv,x.text++((⟨#[126]⟩:ByteArray)++T),al,[4]⟩,pa,ca,pf2,cf2⟩):=Lib.hid ⟨HOaz.out.base (by omega),HOfz.out.base (by omega)⟩
        clear hxs hO hNa
        have d0:=HAz.out.arr.cell (j:=0) rfl
        have d1:=HAz.out.arr.cell (j:=1) rfl
        have d2:=HAz.out.arr.cell (j:=2) rfl
        have d3:=HAz.out.arr.cell (j:=3) rfl
        have d4:=HAz.out.arr.cell (j:=4) rfl
        have d5:=HAz.out.arr.cell (j:=5) rfl
        have sd:=HAz.out.arr.lt
        go_wp2_with (at_builtin;(first|refine wpList_append_newD slName rfl _ _ rfl (w.heap.size+1) _ _ (drawn_alloc_drewN _ _ _) 1 _ _ _ HOx.out rfl rfl rfl rfl hNx (by decide) hBx ?_|refine wpList_append_newD slName rfl _ _ rfl (w.heap.size+1) _ _ (drawn_drew _) 1 _ _ _ HOx.out rfl rfl rfl rfl hNx (by decide) hBx ?_|refine wpList_append_newD slName rfl _ _ rfl (w.heap.size+1) _ _ (drawn_drewN _ _) 1 _ _ _ HOx.out rfl rfl rfl rfl hNx (by decide) hBx ?_|refine wpList_append_newD slName rfl _ _ rfl (w.heap.size+1) _ _ (drawn_refl _) 1 _ _ _ HOx.out rfl rfl rfl rfl hNx (by decide) hBx ?_);intro v19 w19 ho19 hg19)
        have hkb:∀ j,u3.ownBlock=some j→w.heap.size+1≤j:=fun j hj=>gown_base HOx.out hj
        have hNs:=names_snoc (y:=⟨⟨fv,x.text++((⟨#[126]⟩:ByteArray)++T),al,[4]⟩,pa,ca,pf2,cf2⟩) HXS.out HOx.out HNa.out HAT.out hg19 ho19
        have HNs:=Lib.hid hNs
        have hs19:=hg19.size
        have HM19:=Lib.hid (HMz.out.kept hg19 (fun q=>by have:=hkb _ q.symm;omega))
        have HF19:=Lib.hid (show GOwn encVid 3 27 _ _ _ _ from own_grown HFx.out hg19 (own_apart HFx.out HOx.out (by decide)))
        have HBw19:=Lib.hid (HBx.out.grown hg19 HBx.out.size (fun j hj=>by have:=hkb _ hj;omega))
        clear hNs ho19 hg19
        go_roundw
        case rel=>exact⟨k+1,n+1,_,hlt,by omega,by go_num,(by show Names _ _ _ _;rw [HSu.out,HS.out,HE.out];exact HNs.out),HM19,(by show ∀ t,_;rw [HSu.out,HS.out];exact HCn.out),HF19,HBw19,by omega⟩
        case measure=>simp [intOf];omega
       ·
        have d16:decide ((1:Int)<(c:Int)+1)=false:=decide_eq_false (by omega)
        have HE:Hid (nameOne L (allTo L k).2 fv (x :: l)=⟨fv,x.text,al,[]⟩):=by show _=_;rw [nameOne_cons L _ fv x l HAS.out (q:=false) (decide_eq_false (by omega)) (r:=false) (decide_eq_false (by have:=HCc.out;omega))];rfl
        clear hc
        go_upto_region 19 with(refine wpList_tlook keysStr int_inj rfl _ _ _ rfl Tryz.underlying144 0 (zero_int _) w.heap.size (n+1) _ rfl HM15.out x.text rfl hok ?_;rw [HU.out])
        clear t7 tl
        have HNx:=Lib.hid (HN8.out.keep HP15.out (fun j hj=>by cases hj;omega))
        have HFx:=Lib.hid (gown_keep HF8.out HP15.out (fun j hj=>by cases hj;omega))
        have HBx:=Lib.hid (HBw.out.grown HP15.out HBw.out.size (fun j hj=>by cases hj;omega))
        have hsx:=HP15.out.size
        obtain⟨xs,hxs,hO,hNa⟩:=HNx.out
        have HXS:=Lib.hid hxs
        have HOx:=Lib.hid hO
        have HNa:=Lib.hid hNa
        have hxl:xs.length≤k:=by rw [← hxs,List.length_map] at hal;exact hal
        have hNx:xs.length+1≤1099511627776:=by omega
        have hBx:w.heap.size+1≤w15.heap.size:=by omega
        have HAT:Hid (NameAt w15 (w.heap.size+1) ⟨⟨fv,x.text,al,[]⟩,pa,ca,none,0⟩):=Lib.hid ⟨HOa15.out.base (by omega),HOf15.out.base (by omega)⟩
        clear hxs hO hNa
        have d0:=HA15.out.arr.cell (j:=0) rfl
        have d1:=HA15.out.arr.cell (j:=1) rfl
        have d2:=HA15.out.arr.cell (j:=2) rfl
        have d3:=HA15.out.arr.cell (j:=3) rfl
        have d4:=HA15.out.arr.cell (j:=4) rfl
        have d5:=HA15.out.arr.cell (j:=5) rfl
        have sd:=HA15.out.arr.lt
        go_wp2_with (at_builtin;(first|refine wpList_append_newD slName rfl _ _ rfl (w.heap.size+1) _ _ (drawn_alloc_drewN _ _ _) 1 _ _ _ HOx.out rfl rfl rfl rfl hNx (by decide) hBx ?_|refine wpList_append_newD slName rfl _ _ rfl (w.heap.size+1) _ _ (drawn_drew _) 1 _ _ _ HOx.out rfl rfl rfl rfl hNx (by decide) hBx ?_|refine wpList_append_newD slName rfl _ _ rfl (w.heap.size+1) _ _ (drawn_drewN _ _) 1 _ _ _ HOx.out rfl rfl rfl rfl hNx (by decide) hBx ?_|refine wpList_append_newD slName rfl _ _ rfl (w.heap.size+1) _ _ (drawn_refl _) 1 _ _ _ HOx.out rfl rfl rfl rfl hNx (by decide) hBx ?_);intro v19 w19 ho19 hg19)
        have hkb:∀ j,u3.ownBlock=some j→w.heap.size+1≤j:=fun j hj=>gown_base HOx.out hj
        have hNs:=names_snoc (y:=⟨⟨fv,x.text,al,[]⟩,pa,ca,none,0⟩) HXS.out HOx.out HNa.out HAT.out hg19 ho19
        have HNs:=Lib.hid hNs
        have hs19:=hg19.size
        have HM19:=Lib.hid (HM15.out.kept hg19 (fun q=>by have:=hkb _ q.symm;omega))
        have HF19:=Lib.hid (show GOwn encVid 3 27 _ _ _ _ from own_grown HFx.out hg19 (own_apart HFx.out HOx.out (by decide)))
        have HBw19:=Lib.hid (HBx.out.grown hg19 HBx.out.size (fun j hj=>by have:=hkb _ hj;omega))
        clear hNs ho19 hg19
        go_roundw
        case rel=>exact⟨k+1,n+1,_,hlt,by omega,by go_num,(by show Names _ _ _ _;rw [HSu.out,HS.out,HE.out];exact HNs.out),HM19,(by show ∀ t,_;rw [HSu.out,HS.out];exact HCn.out),HF19,HBw19,by omega⟩
        case measure=>simp [intOf];omega
  ·
   obtain rfl:k=(filesM L).length:=by omega
   have hE:(allTo L (filesM L).length).1=allM L:=rfl
   have HE:=HN.out.base (Nat.le_succ _)
   rw [hE] at HE
   have HE2:=Lib.hid HE
   clear HE HN
   go_wp2_with fail
   go_ret
   exact⟨_,rfl,HE2.out,HB.out⟩
end Go.Proofs.YtanfebljiblhbaaGreatDoor
namespace Go.Proofs.YtanfebljiblhbaaGreatDoor
open Go Go.RowKit

def TreeRes(w:World)(L:List PatchM)(e:Ending)(w':World):Prop:=∃ v t,e=.returned v∧IsTree L t∧FilesW w' w.heap.size v t∧Below w.heap.size w w'
def TrRel(L:List PatchM)(w w2:World)(v3 v11:Value)(wr:World):Prop:=∃(k:Nat) (xs:List LaidF),k≤(allM L).length∧v11=.int .i64 k∧xs.length=k∧Hid (xs.map (·.f)=((allM L).take k).map (fileT L))∧Hid (GOwn encL 3 66 wr w2.heap.size v3 xs)∧Hid (∀ x∈xs,FileAt wr w.heap.size x)∧Hid (Below w2.heap.size w2 wr)
theorem all_few{L:List PatchM}{m:Nat}(h:(idsM L).length≤m):(allM L).length≤m:=by
 have h1:=(allTo_len L (filesM L).length (Nat.le_refl _)).1
 have h2:=filesM_len L
 unfold allM
 omega
theorem tree_sorted{L:List PatchM}(hw:WfG L){xs ys:List LaidF}(h1:xs.map (·.f)=(allM L).map (fileT L))(hp:ys.Perm xs)(hs:ys.Pairwise fun a b=>¬ cmpF b a<0):IsTree L (ys.map (·.f)):=by
 refine⟨by rw [← h1];exact hp.map _,?_⟩
 have hu:(xs.map (·.f)).Pairwise fun a b=>a.name≠b.name:=by
  rw [h1,List.pairwise_map]
  exact(unlike_all hw).uniq
 have hu2:(ys.map (·.f)).Pairwise fun a b=>a.name≠b.name:=((hp.map (·.f)).pairwise_iff fun q=>Ne.symm q).2 hu
 rw [List.pairwise_map] at hu2 ⊢
 refine(hs.and hu2).imp fun {a b} h => ?_
 obtain⟨c1,c2⟩:=h
 unfold cmpF at c1
 rw [cmpT_neg] at c1
 exact rcB_total (by simpa using c1) (Ne.symm c2)
theorem FileAt.kept{w w':World}{B B':Nat}{v:Value}{xs:List LaidF}{x:LaidF}(h:FileAt w B' x)(ho:GOwn encL 3 66 w B v xs)(hg:w.grownBy w' v.ownBlock):FileAt w' B' x:=⟨own_grown h.1 hg (own_apart h.1 ho (by decide)),own_grown h.2 hg (own_apart h.2 ho (by decide))⟩
theorem files_more{w w':World}{B B':Nat}{v:Value}{xs:List LaidF}(ho:GOwn encL 3 66 w B v xs)(hf:∀ x∈xs,FileAt w B' x){y:LaidF}(hy:FileAt w B' y)(hg:w.grownBy w' v.ownBlock):∀ x∈xs++[y],FileAt w' B' x:=by
 intro x hx
 rcases List.mem_append.1 hx with hx|hx
 ·
  exact(hf x hx).kept ho hg
 ·
  rw [List.mem_singleton.1 hx];exact hy.kept ho hg
noncomputable def laidF(L:List PatchM)(x:LaidN)(p:Option Addr)(c:Nat):LaidF:=⟨fileT L x.n,x.pa,x.ca,p,c⟩
theorem laidF_enc(L:List PatchM)(x:LaidN)(p:Option Addr)(c n:Nat)(hn:n=(lnSeen (linesM L x.n.file) (relM L x.n.file)).length):encL (laidF L x p c)=[.string x.n.name,.slice x.pa x.n.also.length x.ca,.slice p n c]:=by
 unfold encL laidF fileT;simp [hn]
theorem laidF_at{L:List PatchM}{w:World}{B n c:Nat}{x:LaidN}{p:Option Addr}(h1:NameAt w B x)(hn:n=(lnSeen (linesM L x.n.file) (relM L x.n.file)).length)(h2:GOwn encS1 1 9 w B (.slice p n c) (lnSeen (linesM L x.n.file) (relM L x.n.file))):FileAt w B (laidF L x p c):=
 ⟨also_conv h1.1,by subst hn;exact h2⟩
theorem name_at{w:World}{B:Nat}{v:Value}{ns:List NameM}(h:Names w B v ns):∃(xs:List LaidN) (a:Option Addr) (cap:Nat),xs.map (·.n)=ns∧v=.slice a ns.length cap∧ns.length≤cap∧cap≤maxLen∧(∀ x∈xs,NameAt w B x)∧(ns.length=0∨∃ b off,a=some ⟨b,off,none⟩∧b<w.heap.size ∧
  ∀ i x,xs[i]? = some x→∀ W,Below w.heap.size w W→b<W.heap.size∧∀ j u,(encN x)[j]? = some u→W.cell? ⟨b,off+i*6+j,none⟩=some u):=by
 obtain⟨xs,rfl,h2,h3⟩:=h
 obtain⟨a,cap,e1,e2,e3,e4⟩:=h2.row.at encN_len
 rw [List.length_map]
 exact⟨xs,a,cap,rfl,e1,e2,e3,h3,e4⟩
theorem NameAt.keep{w w':World}{B:Nat}{x:LaidN}(h:NameAt w B x)(hb:Below w.heap.size w w'):NameAt w' B x:=⟨h.1.over hb,h.2.over hb⟩
attribute [local irreducible] allM fileT idsM linesM relM edgesM
set_option maxHeartbeats 16000000 in
set_option maxRecDepth 100000 in
theorem rtree_any(b:Nat)(L:List PatchM)(w:World)(hg:GrIs w b L)(hw:WfG L)(hil:(idsM L).length≤65536)(hel:(edgesM L).length≤1000000)(ht:Tab w) :
  Calls Tryz.prog 22 #[.pointer (some ⟨b,0,none⟩)] w (TreeRes w L):=by
 have HG:=Lib.hid hg
 have HW:=Lib.hid hw
 have HT:=Lib.hid ht
 have hal:=all_few hil
 have HLL:Hid (∀ f,(linesM L f).length≤65536):=Lib.hid fun f=>lines_few hil
 clear hg hw ht
 go_enter Tryz.func22,Tryz.ntmps22
 go_wp2_with fail
 refine(nall_any b L w HG.out HW.out (by omega) HT.out).mono ?_
 rintro e w2 ⟨v,rfl,ho,hb⟩
 obtain⟨ns,a,cap,hns,rfl,t1,t2,hna,hc⟩:=name_at ho
 unfold maxLen at t2
 have HNS:=Lib.hid hns
 have HNA:=Lib.hid hna
 have HC:=Lib.hid hc
 have HB2:=Lib.hid hb
 have HG2:=Lib.hid (HG.out.over hb)
 have hs2:=hb.size
 clear ho hb hna hc hns
 go_wp2_with fail
 go_loopw [3,11] (fun v3 v11 wr=>TrRel L w w2 v3 v11 wr) (fun _ v11 _=>(allM L).length - (intOf v11).toNat)
 case atStart=>exact⟨0,[],Nat.zero_le _,rfl,rfl,Lib.hid (by rw [List.take_zero];rfl),gown_nil _ _,Lib.hid fun x hx=>absurd hx List.not_mem_nil,Below.refl _ _⟩
 case round =>
  obtain⟨k,xs,hk,rfl,hxk,HX,HO,HF,HB⟩:=hrel
  rename World=>wr
  by_cases hlt:k<(allM L).length
  ·
   obtain⟨b3,off3,rfl,sb3,hcb⟩:=HC.out.resolve_left (by omega)
   obtain⟨x,hx⟩:=get_of_lt (show k<ns.length by rw [← List.length_map (·.n),HNS.out];exact hlt)
   have HXk:Hid ((allM L)[k]? = some x.n):=Lib.hid (by rw [← HNS.out,List.getElem?_map,hx];rfl)
   have HNx:=Lib.hid ((HNA.out x (List.mem_of_getElem? hx)).keep HB.out)
   have HU:=Lib.hid (hcb k x hx wr HB.out)
   have u0:wr.cell? ⟨b3,off3+k*6,none⟩=some (.int .u8 x.n.file.pid.author.toNat):=(HU.out).2 0 _ rfl
   have u1:wr.cell? ⟨b3,off3+k*6+1,none⟩=some (.int .u16 x.n.file.pid.seq.toNat):=(HU.out).2 1 _ rfl
   have u2:wr.cell? ⟨b3,off3+k*6+2,none⟩=some (.int .u8 x.n.file.n.toNat):=(HU.out).2 2 _ rfl
   have u3:wr.cell? ⟨b3,off3+k*6+3,none⟩=some (.string x.n.name):=(HU.out).2 3 _ rfl
   have u4:wr.cell? ⟨b3,off3+k*6+4,none⟩=some (.slice x.pa x.n.also.length x.ca):=(HU.out).2 4 _ rfl
   have u5:wr.cell? ⟨b3,off3+k*6+5,none⟩=some (.slice x.pf x.n.flaws.length x.cf):=(HU.out).2 5 _ rfl
   have su:=HU.out.1
   clear hcb hx
   go_upto_region 5 with(fail)
   have HA7:=Lib.hid (arr_new wr #[.int .u8 x.n.file.pid.author.toNat,.int .u16 x.n.file.pid.seq.toNat,.int .u8 x.n.file.n.toNat,.string x.n.name,.slice x.pa x.n.also.length x.ca,.slice x.pf x.n.flaws.length x.cf] 82)
   have HB7:=Lib.hid (below_new (w:=wr) (.cells #[.int .u8 x.n.file.pid.author.toNat,.int .u16 x.n.file.pid.seq.toNat,.int .u8 x.n.file.n.toNat,.string x.n.name,.slice x.pa x.n.also.length x.ca,.slice x.pf x.n.flaws.length x.cf] 82))
   generalize hw7:wr.alloc (.cells #[.int .u8 x.n.file.pid.author.toNat,.int .u16 x.n.file.pid.seq.toNat,.int .u8 x.n.file.n.toNat,.string x.n.name,.slice x.pa x.n.also.length x.ca,.slice x.pf x.n.flaws.length x.cf] 82)=w7 at *
   clear hw7 u0 u1 u2 u3 u4 u5 su
   have HBr7:=Lib.hid (below_over HB.out HB.out.size HB7.out)
   have hsr:=HB.out.size
   have hs7:=HB7.out.size
   have y0:=HA7.out.cell (j:=0) rfl
   have y1:=HA7.out.cell (j:=1) rfl
   have y2:=HA7.out.cell (j:=2) rfl
   have sy:=HA7.out.lt
   go_wp2_with fail
   refine(lof_any b L x.n.file w7 (HG2.out.over HBr7.out) HW.out hil hel).mono ?_
   rintro e w8 ⟨s,rfl,hs8,hS,hb8⟩
   have HS:=Lib.hid hS
   have HB8:=Lib.hid hb8
   have hz8:=hb8.size
   clear hS hb8 y0 y1 y2 sy
   go_wp2_with fail
   refine(slines_any s _ _ w8 HS.out (HLL.out _)).mono ?_
   rintro e w9 ⟨v9,rfl,hl9,hb9⟩
   obtain⟨p9,c9,rfl⟩:=own_sl hl9
   obtain⟨n9,hn9⟩:∃ n,n=(lnSeen (linesM L x.n.file) (relM L x.n.file)).length:=⟨_,rfl⟩
   rw [← hn9] at hl9
   rw [← hn9]
   have HN9:=Lib.hid hn9
   have hz9:=hb9.size
   have HB79:=Lib.hid (below_over HB8.out HB8.out.size hb9)
   have HBr9:=Lib.hid (below_over HB7.out HB7.out.size HB79.out)
   have HY:Hid (FileAt w9 w.heap.size (laidF L x p9 c9)):=Lib.hid (laidF_at (HNx.out.keep HBr9.out) hn9 (hl9.base (by omega)))
   have HO9:=Lib.hid (HO.out.over HBr9.out)
   have HF9:Hid (∀ x∈xs,FileAt w9 w.heap.size x):=Lib.hid fun x hx=>⟨(HF.out x hx).1.over HBr9.out,(HF.out x hx).2.over HBr9.out⟩
   have HBw9:=Lib.hid (below_over HB.out HB.out.size HBr9.out)
   have HA9:=Lib.hid (HA7.out.over HB79.out)
   clear hl9 hb9 hn9 HNx
   have y3:=HA9.out.cell (j:=3) rfl
   have y4:=HA9.out.cell (j:=4) rfl
   have sy:=HA9.out.lt
   have hN9:xs.length+1≤1099511627776:=by omega
   have hB9:w2.heap.size≤w9.heap.size:=by omega
   go_wp2_with (at_builtin;(first|refine wpList_append_newD slFile rfl _ _ rfl w2.heap.size _ _ (drawn_alloc_drewN _ _ _) 1 _ _ _ HO9.out rfl rfl rfl rfl hN9 (by decide) hB9 ?_|refine wpList_append_newD slFile rfl _ _ rfl w2.heap.size _ _ (drawn_drew _) 1 _ _ _ HO9.out rfl rfl rfl rfl hN9 (by decide) hB9 ?_|refine wpList_append_newD slFile rfl _ _ rfl w2.heap.size _ _ (drawn_drewN _ _) 1 _ _ _ HO9.out rfl rfl rfl rfl hN9 (by decide) hB9 ?_|refine wpList_append_newD slFile rfl _ _ rfl w2.heap.size _ _ (drawn_refl _) 1 _ _ _ HO9.out rfl rfl rfl rfl hN9 (by decide) hB9 ?_);intro v10 w10 ho10 hg10)
   go_roundw
   case rel=>exact⟨k+1,xs++[laidF L x p9 c9],hlt,by go_num,by rw [List.length_append,hxk];rfl,Lib.hid (by rw [List.map_append,HX.out,take_succ' HXk.out,List.map_append];rfl),Lib.hid (GOwn.snoc (by rw [laidF_enc L x p9 c9 n9 HN9.out];exact ho10)),Lib.hid (files_more HO9.out HF9.out HY.out hg10),Lib.hid (below_grown HBw9.out hB9 HO9.out hg10)⟩
   case measure=>simp [intOf];omega
  ·
   obtain rfl:k=(allM L).length:=by omega
   have HXE:Hid (xs.map (·.f)=(allM L).map (fileT L)):=Lib.hid (by rw [HX.out,List.take_length])
   have hxl:xs.length≤1000000:=by omega
   clear hxk hlt
   rcases own_cases HO.out with⟨hnil,p,c,rfl⟩|⟨hne,g,cp,rfl,hat⟩
   ·
    subst hnil
    go_wp2_with fail
    refine(sortFile_none p c wr).mono ?_
    rintro e w11 ⟨rfl,hw11⟩
    obtain rfl:=hw11.symm
    go_wp2_with fail
    go_ret
    exact⟨_,[],rfl,tree_sorted (ys:=[]) HW.out HXE.out (List.Perm.refl _) List.Pairwise.nil,⟨[],rfl,HO.out.base hs2,fun x hx=>absurd hx List.not_mem_nil⟩,below_over HB2.out hs2 HB.out⟩
   ·
    have HAt:=Lib.hid hat
    clear hat hne
    go_wp2_with fail
    refine(sortFile_any HAt.out (by omega)).mono ?_
    rintro e w11 ⟨rfl,ys,hp,hs,hat2,hg⟩
    have HP:=Lib.hid hp
    have HS:=Lib.hid hs
    have HO2:Hid (GOwn encL 3 66 w11 w2.heap.size (.slice (some ⟨g,0,none⟩) xs.length cp) ys):=Lib.hid (by unfold GOwn;rw [hp.length_eq];exact hat2.own)
    have HG11:Hid (wr.grownBy w11 (Value.slice (some ⟨g,0,none⟩) xs.length cp).ownBlock):=Lib.hid hg
    clear hp hs hat2 hg
    go_wp2_with fail
    go_ret
    exact⟨_,ys.map (·.f),rfl,tree_sorted HW.out HXE.out HP.out (by simpa using HS.out),⟨ys,rfl,HO2.out.base hs2,fun y hy=>(HF.out y (HP.out.mem_iff.1 hy)).kept HO.out HG11.out⟩,below_over HB2.out hs2 (below_grown HB.out HB.out.size HO.out HG11.out)⟩
end Go.Proofs.YtanfebljiblhbaaGreatDoor
namespace Go.Proofs.YtanfebljiblhbaaGreatDoor
open Go Go.RowKit

def encFl(x:FlawM):List Value:=[.int .u8 x.kind.toNat,.int .u8 x.file.pid.author.toNat,.int .u16 x.file.pid.seq.toNat,.int .u8 x.file.n.toNat]
theorem encFl_len(x:FlawM):(encFl x).length=4:=rfl
theorem slFlaw:SlT Tryz.prog 58 129 4 8:=slT_of Tryz.underlying58 (by kernel_rfl) (by decide)
theorem flaws_one(L:List PatchM)(c:ByteArray→Nat)(f:VidM):∀ l,(nameOne L c f l).flaws.length≤2
 | []=>by simp only [nameOne];decide
 | x :: l=>by
  simp only [nameOne,List.length_append]
  have h1:(if(alsoM (x :: l) x.text).length=0 then([]:List UInt8) else [2]).length≤1:=by split <;> decide
  have h2:(if 1<c x.text+1 then([4]:List UInt8) else []).length≤1:=by split <;> decide
  omega
theorem flaws_all(L:List PatchM):∀ k,k≤(filesM L).length→∀ n∈(allTo L k).1,n.flaws.length≤2
 | 0,_=>fun n hn=>by rw [allTo_zero] at hn;cases hn
 | k+1,hk=>fun n hn=>by
  have hf:=List.getElem?_eq_getElem (l:=filesM L) (i:=k) (by omega)
  rw [allTo_succ hf] at hn
  unfold stepN at hn
  split at hn
  ·
   exact flaws_all L k (by omega) n hn
  ·
   rcases List.mem_append.1 hn with hn|hn
   ·
    exact flaws_all L k (by omega) n hn
   ·
    rw [List.mem_singleton.1 hn];exact flaws_one ..
theorem flawsN_few{L:List PatchM}{n:NameM}(h:n∈allM L):(flawsN L n).length≤3:=by
 have:=flaws_all L _ (Nat.le_refl _) n h
 unfold flawsN
 rw [List.length_append,List.length_map]
 split <;> simp <;> omega
theorem flat_fewF{L:List PatchM}:∀ {l:List NameM},(∀ n∈l,(flawsN L n).length≤3)→(l.flatMap (flawsN L)).length≤3*l.length
 | [],_=>Nat.le_refl _
 | n :: l,h=>by
  rw [List.flatMap_cons,List.length_append,List.length_cons]
  have h1:=h n (List.mem_cons_self ..)
  have h2:=flat_fewF fun m hm=>h m (List.mem_cons_of_mem n hm)
  omega
noncomputable def flwTo(L:List PatchM)(k:Nat):List FlawM:=((allM L).take k).flatMap (flawsN L)
theorem flwTo_few(L:List PatchM)(k:Nat):(flwTo L k).length≤3*k:=by
 have h:=flat_fewF (L:=L) (l:=(allM L).take k) fun n hn=>flawsN_few (List.mem_of_mem_take hn)
 have:=List.length_take_le k (allM L)
 unfold flwTo
 omega
noncomputable def oddF(L:List PatchM)(n:NameM):List FlawM:=if 0<oddN L n then [⟨1,n.file⟩] else []
def kindsF(n:NameM)(j:Nat):List FlawM:=(n.flaws.take j).map fun k=>⟨k,n.file⟩
theorem flwTo_zero(L:List PatchM):flwTo L 0=[]:=rfl
theorem flwTo_succ{L:List PatchM}{k:Nat}{n:NameM}(h:(allM L)[k]? = some n):flwTo L (k+1)=flwTo L k++(oddF L n++kindsF n n.flaws.length):=by
 unfold flwTo kindsF;rw [take_succ' h,List.flatMap_append,List.take_length];simp [flawsN,oddF]
theorem flwTo_all(L:List PatchM):flwTo L (allM L).length=flawsM L:=by unfold flwTo;rw [List.take_length];rfl
theorem kindsF_zero(n:NameM):kindsF n 0=[]:=rfl
theorem kindsF_succ{n:NameM}{j:Nat}{k:UInt8}(h:n.flaws[j]? = some k):kindsF n (j+1)=kindsF n j++[⟨k,n.file⟩]:=by unfold kindsF;rw [take_succ' h,List.map_append];rfl
theorem oddF_yes{L:List PatchM}{n:NameM}(h:0<oddN L n):oddF L n=[⟨1,n.file⟩]:=if_pos h
theorem oddF_no{L:List PatchM}{n:NameM}(h:¬ 0<oddN L n):oddF L n=[]:=if_neg h
theorem kindsF_few(n:NameM)(j:Nat):(kindsF n j).length≤j:=by unfold kindsF;rw [List.length_map];exact List.length_take_le _ _
def FlRel(L:List PatchM)(w2:World)(v3 v13:Value)(wr:World):Prop:=∃ k:Nat,k≤(allM L).length∧v13=.int .i64 k∧Hid (GOwn encFl 4 129 wr w2.heap.size v3 (flwTo L k))∧Hid (Below w2.heap.size w2 wr)
def bxN(x:LaidN):List Value:=[.int .u8 x.n.file.pid.author.toNat,.int .u16 x.n.file.pid.seq.toNat,.int .u8 x.n.file.n.toNat,.string x.n.name,.slice x.pa x.n.also.length x.ca,.slice x.pf x.n.flaws.length x.cf]
def FlkRel(x:LaidN)(pre:List FlawM)(w2:World)(g:Nat)(v3 v36:Value)(wr:World):Prop:=∃ j:Nat,j≤x.n.flaws.length∧v36=.int .i64 j∧Hid (GOwn encFl 4 129 wr w2.heap.size v3 (pre++kindsF x.n j))∧Hid (ArrT wr g 82 (bxN x))∧Hid (Below w2.heap.size w2 wr)
def FoCut(x:LaidN)(pre:List FlawM)(w2:World)(g:Nat)(s3:Value)(wx:World):Prop:=Hid (GOwn encFl 4 129 wx w2.heap.size s3 pre)∧Hid (ArrT wx g 82 (bxN x))∧Hid (Below w2.heap.size w2 wx)
theorem encU8_len(c:UInt8):(encU8 c).length=1:=rfl
theorem gown_list{α:Type}{enc:α→List Value}{sz:Nat}{e:TypeId}{w:World}{B:Nat}{v:Value}{xs ys:List α}(h:GOwn enc sz e w B v xs)(he:xs=ys):GOwn enc sz e w B v ys:=he▸h
attribute [local irreducible] allM fileT idsM linesM relM edgesM flawsM flwTo kindsF oddF oddN
set_option maxHeartbeats 16000000 in
set_option maxRecDepth 100000 in
theorem rflaws_any(b:Nat)(L:List PatchM)(w:World)(hg:GrIs w b L)(hw:WfG L)(hil:(idsM L).length≤65536)(hel:(edgesM L).length≤1000000)(ht:Tab w) :
  Calls Tryz.prog 25 #[.pointer (some ⟨b,0,none⟩)] w (OwnRes encFl 4 129 w (flawsM L)):=by
 have HG:=Lib.hid hg
 have HW:=Lib.hid hw
 have HT:=Lib.hid ht
 have hal:=all_few hil
 have HLL:Hid (∀ f,(linesM L f).length≤65536):=Lib.hid fun f=>lines_few hil
 clear hg hw ht
 go_enter Tryz.func25,Tryz.ntmps25
 go_wp2_with fail
 refine(nall_any b L w HG.out HW.out (by omega) HT.out).mono ?_
 rintro e w2 ⟨v,rfl,ho,hb⟩
 obtain⟨ns,a,cap,hns,rfl,t1,t2,hna,hc⟩:=name_at ho
 unfold maxLen at t2
 have HNS:=Lib.hid hns
 have HNA:=Lib.hid hna
 have HC:=Lib.hid hc
 have HB2:=Lib.hid hb
 have HG2:=Lib.hid (HG.out.over hb)
 have hs2:=hb.size
 clear ho hb hna hc hns
 go_wp2_with fail
 go_loopw [3,13] (fun v3 v13 wr=>FlRel L w2 v3 v13 wr) (fun _ v13 _=>(allM L).length - (intOf v13).toNat)
 case atStart=>exact⟨0,Nat.zero_le _,rfl,Lib.hid (by rw [flwTo_zero];exact gown_nil _ _),Below.refl _ _⟩
 case round =>
  obtain⟨k,hk,rfl,HO,HB⟩:=hrel
  rename World=>wr
  by_cases hlt:k<(allM L).length
  ·
   obtain⟨b3,off3,rfl,sb3,hcb⟩:=HC.out.resolve_left (by omega)
   obtain⟨x,hx⟩:=get_of_lt (show k<ns.length by rw [← List.length_map (·.n),HNS.out];exact hlt)
   have HXk:Hid ((allM L)[k]? = some x.n):=Lib.hid (by rw [← HNS.out,List.getElem?_map,hx];rfl)
   have HNx:=Lib.hid (HNA.out x (List.mem_of_getElem? hx)).2
   have hfw:x.n.flaws.length≤2:=flaws_all L _ (Nat.le_refl _) x.n (by have:=List.mem_of_getElem? HXk.out;unfold allM at this;exact this)
   have hft:=flwTo_few L k
   have HU:=Lib.hid (hcb k x hx wr HB.out)
   have u0:wr.cell? ⟨b3,off3+k*6,none⟩=some (.int .u8 x.n.file.pid.author.toNat):=(HU.out).2 0 _ rfl
   have u1:wr.cell? ⟨b3,off3+k*6+1,none⟩=some (.int .u16 x.n.file.pid.seq.toNat):=(HU.out).2 1 _ rfl
   have u2:wr.cell? ⟨b3,off3+k*6+2,none⟩=some (.int .u8 x.n.file.n.toNat):=(HU.out).2 2 _ rfl
   have u3:wr.cell? ⟨b3,off3+k*6+3,none⟩=some (.string x.n.name):=(HU.out).2 3 _ rfl
   have u4:wr.cell? ⟨b3,off3+k*6+4,none⟩=some (.slice x.pa x.n.also.length x.ca):=(HU.out).2 4 _ rfl
   have u5:wr.cell? ⟨b3,off3+k*6+5,none⟩=some (.slice x.pf x.n.flaws.length x.cf):=(HU.out).2 5 _ rfl
   have su:=HU.out.1
   clear hcb hx
   go_upto_region 5 with(fail)
   have HA7:Hid (ArrT (wr.alloc (.cells #[.int .u8 x.n.file.pid.author.toNat,.int .u16 x.n.file.pid.seq.toNat,.int .u8 x.n.file.n.toNat,.string x.n.name,.slice x.pa x.n.also.length x.ca,.slice x.pf x.n.flaws.length x.cf] 82)) wr.heap.size 82 (bxN x)):=Lib.hid (arrT_new wr [.int .u8 x.n.file.pid.author.toNat,.int .u16 x.n.file.pid.seq.toNat,.int .u8 x.n.file.n.toNat,.string x.n.name,.slice x.pa x.n.also.length x.ca,.slice x.pf x.n.flaws.length x.cf] 82)
   have HB7:=Lib.hid (below_new (w:=wr) (.cells #[.int .u8 x.n.file.pid.author.toNat,.int .u16 x.n.file.pid.seq.toNat,.int .u8 x.n.file.n.toNat,.string x.n.name,.slice x.pa x.n.also.length x.ca,.slice x.pf x.n.flaws.length x.cf] 82))
   generalize hw7:wr.alloc (.cells #[.int .u8 x.n.file.pid.author.toNat,.int .u16 x.n.file.pid.seq.toNat,.int .u8 x.n.file.n.toNat,.string x.n.name,.slice x.pa x.n.also.length x.ca,.slice x.pf x.n.flaws.length x.cf] 82)=w7 at *
   clear hw7 u0 u1 u2 u3 u4 u5 su
   obtain⟨g7,hg7⟩:∃ g,g=wr.heap.size:=⟨_,rfl⟩
   rw [← hg7] at HA7 ⊢
   have HBr7:=Lib.hid (below_over HB.out HB.out.size HB7.out)
   have hsr:=HB.out.size
   have hs7:=HB7.out.size
   have HO7:=Lib.hid (HO.out.over HB7.out)
   have y0:=HA7.out.arr.cell (j:=0) rfl
   have y1:=HA7.out.arr.cell (j:=1) rfl
   have y2:=HA7.out.arr.cell (j:=2) rfl
   have sy:=HA7.out.arr.lt
   clear hg7
   go_wp2_with fail
   refine(lof_any b L x.n.file w7 (HG2.out.over HBr7.out) HW.out hil hel).mono ?_
   rintro e w8 ⟨s,rfl,hs8,hS,hb8⟩
   have HS:=Lib.hid hS
   have HB8:=Lib.hid hb8
   have hz8:=hb8.size
   clear hS hb8 y0 y1 y2 sy
   go_wp2_with fail
   refine(slines_any s _ _ w8 HS.out (HLL.out _)).mono ?_
   rintro e w9 ⟨v9,rfl,hl9,hb9⟩
   have ho9:lnOdd (linesM L x.n.file) (relM L x.n.file)=oddN L x.n:=by unfold oddN;rfl
   rw [ho9]
   obtain⟨o,ho⟩:∃ o,oddN L x.n=o:=⟨_,rfl⟩
   rw [ho]
   have HOd:=Lib.hid ho
   have hz9:=hb9.size
   have HB79:=Lib.hid (below_over HB8.out HB8.out.size hb9)
   have HO9:=Lib.hid (HO7.out.over HB79.out)
   have HBw9:=Lib.hid (below_over HBr7.out HBr7.out.size HB79.out)
   have HA9:=Lib.hid (HA7.out.over HB79.out)
   have hB9:w2.heap.size≤w9.heap.size:=by omega
   obtain⟨p9,c9,rfl⟩:=own_sl hl9
   obtain⟨n9,hn9⟩:∃ n,n=(lnSeen (linesM L x.n.file) (relM L x.n.file)).length:=⟨_,rfl⟩
   rw [← hn9]
   clear hl9 hb9 ho ho9 HO HA7 hn9 HO7
   have y0:=HA9.out.arr.cell (j:=0) rfl
   have y1:=HA9.out.arr.cell (j:=1) rfl
   have y2:=HA9.out.arr.cell (j:=2) rfl
   have sy:=HA9.out.arr.lt
   go_upto_if 26 with(fail)
   obtain⟨c,hc⟩:∃ c,decide (0<o)=c:=⟨_,rfl⟩
   rw [hc]
   go_cut [3] (fun s3 wx=>FoCut x (flwTo L k++oddF L x.n) w2 g7 s3 wx)
   case first =>
    cases c with
    | true =>
     have HD:=Lib.hid (oddF_yes (L:=L) (n:=x.n) (by rw [HOd.out];exact of_decide_eq_true hc))
     have hN9:(flwTo L k).length+1≤1099511627776:=by omega
     clear hc
     go_wp2_with (at_builtin;(first|refine wpList_append_newD slFlaw rfl _ _ rfl w2.heap.size _ _ (drawn_alloc_drewN _ _ _) 1 _ _ _ HO9.out rfl rfl rfl rfl hN9 (by decide) hB9 ?_|refine wpList_append_newD slFlaw rfl _ _ rfl w2.heap.size _ _ (drawn_drew _) 1 _ _ _ HO9.out rfl rfl rfl rfl hN9 (by decide) hB9 ?_|refine wpList_append_newD slFlaw rfl _ _ rfl w2.heap.size _ _ (drawn_drewN _ _) 1 _ _ _ HO9.out rfl rfl rfl rfl hN9 (by decide) hB9 ?_|refine wpList_append_newD slFlaw rfl _ _ rfl w2.heap.size _ _ (drawn_refl _) 1 _ _ _ HO9.out rfl rfl rfl rfl hN9 (by decide) hB9 ?_);intro v10 w10 ho10 hg10)
     go_meet
     exact⟨Lib.hid (by rw [HD.out];exact GOwn.snoc (enc:=encFl) (x:=(⟨1,x.n.file⟩:FlawM)) ho10),Lib.hid (HA9.out.grown HO9.out (by decide) hg10),Lib.hid (below_grown HBw9.out hB9 HO9.out hg10)⟩
    | false =>
     have HD:=Lib.hid (oddF_no (L:=L) (n:=x.n) (by rw [HOd.out];exact of_decide_eq_false hc))
     clear hc
     go_wp2_with fail
     go_meet
     exact⟨Lib.hid (by rw [HD.out,List.append_nil];exact HO9.out),HA9,HBw9⟩
   case rest =>
    obtain⟨HO10,HA10,HB10⟩:=hcut
    rename World=>wc
    clear y0 y1 y2 sy HA9 HO9 HBw9 HOd hB9 hc
    have y5:=HA10.out.arr.cell (j:=5) rfl
    have sy:=HA10.out.arr.lt
    obtain⟨af,cf,ef,tf1,tf2,hcf⟩:=HNx.out.row.at encU8_len
    unfold maxLen at tf2
    rw [ef] at y5
    have HCf:=Lib.hid hcf
    have hod:(oddF L x.n).length≤1:=by unfold oddF;split <;> simp
    clear ef hcf
    go_wp2_with fail
    go_loopw [3,36] (fun v3 v36 wi=>FlkRel x (flwTo L k++oddF L x.n) w2 g7 v3 v36 wi) (fun _ v36 _=>x.n.flaws.length - (intOf v36).toNat)
    case atStart=>exact⟨0,Nat.zero_le _,rfl,Lib.hid (by rw [kindsF_zero,List.append_nil];exact HO10.out),HA10,HB10⟩
    case round =>
     obtain⟨j,hj,rfl,HOj,HAj,HBj⟩:=hrel
     rename World=>wj
     by_cases hlj:j<x.n.flaws.length
     ·
      obtain⟨bf,ofs,rfl,sbf,hcb2⟩:=HCf.out.resolve_left (by omega)
      obtain⟨kd,hkd⟩:=get_of_lt hlj
      have HKd:=Lib.hid hkd
      have z0:wj.cell? ⟨bf,ofs+j,none⟩=some (.int .u8 kd.toNat):=by
       have h:=(hcb2 j kd hkd wj HBj.out).2 0 _ rfl
       rw [Nat.mul_one,Nat.add_zero] at h
       exact h
      have sz:=(hcb2 j kd hkd wj HBj.out).1
      have y0:=HAj.out.arr.cell (j:=0) rfl
      have y1:=HAj.out.arr.cell (j:=1) rfl
      have y2:=HAj.out.arr.cell (j:=2) rfl
      have sy:=HAj.out.arr.lt
      have hN:(flwTo L k++oddF L x.n++kindsF x.n j).length+1≤1099511627776:=by rw [List.length_append,List.length_append];have:=kindsF_few x.n j;omega
      have hB:w2.heap.size≤wj.heap.size:=HBj.out.size
      clear hcb2 hkd
      go_wp2_with (at_builtin;(first|refine wpList_append_newD slFlaw rfl _ _ rfl w2.heap.size _ _ (drawn_alloc_drewN _ _ _) 1 _ _ _ HOj.out rfl rfl rfl rfl hN (by decide) hB ?_|refine wpList_append_newD slFlaw rfl _ _ rfl w2.heap.size _ _ (drawn_drew _) 1 _ _ _ HOj.out rfl rfl rfl rfl hN (by decide) hB ?_|refine wpList_append_newD slFlaw rfl _ _ rfl w2.heap.size _ _ (drawn_drewN _ _) 1 _ _ _ HOj.out rfl rfl rfl rfl hN (by decide) hB ?_|refine wpList_append_newD slFlaw rfl _ _ rfl w2.heap.size _ _ (drawn_refl _) 1 _ _ _ HOj.out rfl rfl rfl rfl hN (by decide) hB ?_);intro v11 w11 ho11 hg11)
      go_roundw
      case rel=>exact⟨j+1,hlj,by go_num,Lib.hid (gown_list (GOwn.snoc (enc:=encFl) (x:=(⟨kd,x.n.file⟩:FlawM)) ho11) (by rw [kindsF_succ HKd.out,List.append_assoc])),Lib.hid (HAj.out.grown HOj.out (by decide) hg11),Lib.hid (below_grown HBj.out hB HOj.out hg11)⟩
      case measure=>simp [intOf];omega
     ·
      obtain rfl:j=x.n.flaws.length:=by omega
      go_wp2_with fail
      go_roundw
      case rel=>exact⟨k+1,hlt,by go_num,Lib.hid (gown_list HOj.out (by rw [flwTo_succ HXk.out,List.append_assoc])),HBj⟩
      case measure=>simp [intOf];omega
  ·
   obtain rfl:k=(allM L).length:=by omega
   go_wp2_with fail
   go_ret
   exact⟨_,rfl,gown_list (HO.out.base hs2) (flwTo_all L),below_over HB2.out hs2 HB.out⟩
set_option maxHeartbeats 2000000 in
theorem rclean_any(b:Nat)(L:List PatchM)(w:World)(hg:GrIs w b L)(hw:WfG L)(hil:(idsM L).length≤65536)(hel:(edgesM L).length≤1000000)(ht:Tab w) :
  Calls Tryz.prog 27 #[.pointer (some ⟨b,0,none⟩)] w fun e w'=>e=.returned (.bool (decide ((flawsM L).length=0)))∧Below w.heap.size w w':=by
 have HC:=Lib.hid (rflaws_any b L w hg hw hil hel ht)
 obtain⟨n,hn⟩:∃ n,(flawsM L).length=n:=⟨_,rfl⟩
 rw [hn]
 have HN:=Lib.hid hn
 clear hg hw ht hn
 by_cases h0:n=0
 ·
  have d1:((n:Int) == 0)=true:=by simp [h0]
  rw [show decide (n=0)=true from decide_eq_true h0]
  clear h0
  go_enter Tryz.func27,Tryz.ntmps27
  go_wp2_with fail
  refine HC.out.mono ?_
  rintro e w1 ⟨v,rfl,ho,hb⟩
  obtain⟨p,c,rfl⟩:=own_sl ho
  rw [HN.out]
  have HB:=Lib.hid hb
  clear ho hb
  go_wp2_with fail
  go_ret
  exact⟨rfl,HB.out⟩
 ·
  have d1:((n:Int) == 0)=false:=by simp [h0]
  rw [show decide (n=0)=false from decide_eq_false h0]
  clear h0
  go_enter Tryz.func27,Tryz.ntmps27
  go_wp2_with fail
  refine HC.out.mono ?_
  rintro e w1 ⟨v,rfl,ho,hb⟩
  obtain⟨p,c,rfl⟩:=own_sl ho
  rw [HN.out]
  have HB:=Lib.hid hb
  clear ho hb
  go_wp2_with fail
  go_ret
  exact⟨rfl,HB.out⟩
end Go.Proofs.YtanfebljiblhbaaGreatDoor
