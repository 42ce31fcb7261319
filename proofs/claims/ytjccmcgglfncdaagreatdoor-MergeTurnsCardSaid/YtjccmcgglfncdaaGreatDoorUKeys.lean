/- What is proved: MergeTurns, for every input; of the listed tables the walk needs the powers of ten. -/
import Derived.Test.YtjccmcgglfncdaaGreatDoorULinP
import Derived.Test.YtjccmcgglfncdaaGreatDoorURefs
import Derived.WideKeyEntry
import Derived.RegionTactic
set_option linter.unusedVariables false
set_option linter.unusedSimpArgs false
namespace Go.Proofs.YtjccmcgglfncdaaGreatDoor
open Go Go.RowKit Go.WideElems
open Go.Maps (Keyed)
theorem cells_pidT:Tryz.prog.cellsOf 25=2:=by kernel_rfl
theorem cells_vidT:Tryz.prog.cellsOf 74=3:=by kernel_rfl
theorem cells_opT:Tryz.prog.cellsOf 76=8:=by kernel_rfl
theorem cells_edgeT:Tryz.prog.cellsOf 133=6:=by kernel_rfl
theorem cells_u8T:Tryz.prog.cellsOf 5=1:=by kernel_rfl
theorem cells_u16T:Tryz.prog.cellsOf 23=1:=by kernel_rfl
theorem cells_strT:Tryz.prog.cellsOf 9=1:=by kernel_rfl
theorem wf_u8(a:UInt8):(Lit.int .u8 a.toNat).wf=true:=by have:=a.toNat_lt;simp [Lit.wf,IntKind.min,IntKind.max,IntKind.bits,IntKind.signed];omega
theorem wf_u16(a:UInt16):(Lit.int .u16 a.toNat).wf=true:=by have:=a.toNat_lt;simp [Lit.wf,IntKind.min,IntKind.max,IntKind.bits,IntKind.signed];omega
theorem lits_u8(d:Nat)(a:UInt8):Tryz.prog.keyLits (d+1) 5 [.int .u8 a.toNat]=some [.int .u8 a.toNat]:=by unfold Program.keyLits;rw [Tryz.underlying5];simp [wf_u8]
theorem lits_u16(d:Nat)(a:UInt16):Tryz.prog.keyLits (d+1) 23 [.int .u16 a.toNat]=some [.int .u16 a.toNat]:=by unfold Program.keyLits;rw [Tryz.underlying23];simp [wf_u16]
theorem lits_str(d:Nat)(s:ByteArray)(h:s.size≤maxLen):Tryz.prog.keyLits (d+1) 9 [.string s]=some [.string s.data.toList]:=by unfold Program.keyLits;rw [Tryz.underlying9];simp [h]
theorem lits_pid(d:Nat)(p:PidM):∃ l,Tryz.prog.keyLits (d+2) 25 (encPid p)=some l:=by unfold Program.keyLits;rw [Tryz.underlying25];simp [encPid,cells_pidT,cells_u8T,cells_u16T,lits_u8,lits_u16]
theorem lits_vid(d:Nat)(v:VidM):∃ l,Tryz.prog.keyLits (d+3) 74 (encVid v)=some l:=by unfold Program.keyLits;rw [Tryz.underlying74];obtain⟨l,hl⟩:=lits_pid d v.pid;unfold encPid at hl;simp [encVid,cells_pidT,cells_vidT,cells_u8T,lits_u8,hl]
theorem lits_op(d:Nat)(o:OpM)(h:o.text.size≤maxLen):∃ l,Tryz.prog.keyLits (d+4) 76 (encOp o)=some l:=by unfold Program.keyLits;rw [Tryz.underlying76];obtain⟨l,hl⟩:=lits_vid d o.at';obtain⟨l',hl'⟩:=lits_vid d o.to;unfold encVid at hl hl';simp [encOp,encVid,cells_opT,cells_vidT,cells_u8T,cells_strT,lits_u8,lits_str,h,hl,hl']
def encEdge(e:EdgeM):List Value:=encVid e.1++encVid e.2
abbrev edgeV(e:EdgeM):Value:=.agg #[.int .u8 e.1.pid.author.toNat,.int .u16 e.1.pid.seq.toNat,.int .u8 e.1.n.toNat,.int .u8 e.2.pid.author.toNat,.int .u16 e.2.pid.seq.toNat,.int .u8 e.2.n.toNat]
theorem lits_edge(d:Nat)(e:EdgeM):∃ l,Tryz.prog.keyLits (d+4) 133 (encEdge e)=some l:=by unfold Program.keyLits;rw [Tryz.underlying133];obtain⟨l,hl⟩:=lits_vid d e.1;obtain⟨l',hl'⟩:=lits_vid d e.2;unfold encVid at hl hl';simp [encEdge,encVid,cells_edgeT,cells_vidT,hl,hl',List.range_succ]
theorem many_types:∃ d,Tryz.prog.types.size+1=d+4:=by have:3≤Tryz.prog.types.size:=of_decide_eq_true (by kernel_rfl);exact⟨Tryz.prog.types.size - 3,by omega⟩
theorem laidOut:laidOutB Tryz.prog=true:=by kernel_rfl
theorem key_of{k:TypeId}{cs:Array Value}(hw:(match Tryz.prog.underlying k with|some (.array _ _)|some (.struct _)=>true|_=>false)=true)(hk:Tryz.prog.keyType k=true)(hc:Tryz.prog.cellsOf k=cs.size)
  (h:∃ l,Tryz.prog.keyLits (Tryz.prog.types.size+1) k cs.toList=some l):∃ l,keyOf Tryz.prog k (.agg cs)=some l:=by
 obtain⟨l,hl⟩:=h;unfold keyOf;have hf:(Value.agg cs).formed Tryz.prog k=true:=by
  unfold Value.formed;cases hu:Tryz.prog.underlying k with
  | none=>rw [hu] at hw;cases hw
  | some t=>cases t <;> rw [hu] at hw <;> first|cases hw;done|simp [hc]
 cases hu:Tryz.prog.underlying k with
 | none=>rw [hu] at hw;cases hw
 | some t =>cases t <;> rw [hu] at hw <;> first|(cases hw;done)|(simp only [hk,hf,Bool.and_self,if_true];rw [show(Value.agg cs).cells=cs from rfl,hl];exact⟨_,rfl⟩)
theorem vidV_inj(x y:VidM)(h:vidV x=vidV y):x=y:=by unfold vidV at h;simp only [Value.agg.injEq,Array.mk.injEq,List.cons.injEq,Value.int.injEq,and_true,true_and] at h;obtain⟨⟨a,b⟩,c⟩:=x;obtain⟨⟨a',b'⟩,c'⟩:=y;simp only at h;rw [UInt8.toNat_inj.1 (Int.ofNat.inj h.1),UInt16.toNat_inj.1 (Int.ofNat.inj h.2.1),UInt8.toNat_inj.1 (Int.ofNat.inj h.2.2)]
theorem opV_inj(x y:OpM)(h:opV x=opV y):x=y:=by unfold opV at h;simp only [Value.agg.injEq,Array.mk.injEq,List.cons.injEq,Value.int.injEq,Value.string.injEq,and_true,true_and] at h;obtain⟨k,⟨⟨a,b⟩,c⟩,⟨⟨d,e⟩,f⟩,s⟩:=x;obtain⟨k',⟨⟨a',b'⟩,c'⟩,⟨⟨d',e'⟩,f'⟩,s'⟩:=y;simp only at h;obtain⟨h0,h1,h2,h3,h4,h5,h6,h7⟩:=h;rw [UInt8.toNat_inj.1 (Int.ofNat.inj h0),UInt8.toNat_inj.1 (Int.ofNat.inj h1),UInt16.toNat_inj.1 (Int.ofNat.inj h2),UInt8.toNat_inj.1 (Int.ofNat.inj h3),UInt8.toNat_inj.1 (Int.ofNat.inj h4),UInt16.toNat_inj.1 (Int.ofNat.inj h5),UInt8.toNat_inj.1 (Int.ofNat.inj h6),h7]
theorem edgeV_inj(x y:EdgeM)(h:edgeV x=edgeV y):x=y:=by unfold edgeV at h;simp only [Value.agg.injEq,Array.mk.injEq,List.cons.injEq,Value.int.injEq,and_true,true_and] at h;obtain⟨⟨⟨a,b⟩,c⟩,⟨⟨d,e⟩,f⟩⟩:=x;obtain⟨⟨⟨a',b'⟩,c'⟩,⟨⟨d',e'⟩,f'⟩⟩:=y;simp only at h;obtain⟨h1,h2,h3,h4,h5,h6⟩:=h;rw [UInt8.toNat_inj.1 (Int.ofNat.inj h1),UInt16.toNat_inj.1 (Int.ofNat.inj h2),UInt8.toNat_inj.1 (Int.ofNat.inj h3),UInt8.toNat_inj.1 (Int.ofNat.inj h4),UInt16.toNat_inj.1 (Int.ofNat.inj h5),UInt8.toNat_inj.1 (Int.ofNat.inj h6)]
theorem vertV_inj(x y:VertM)(h:vertV x=vertV y):x=y:=by unfold vertV at h;simp only [Value.agg.injEq,Array.mk.injEq,List.cons.injEq,Value.int.injEq,Value.string.injEq,Value.bool.injEq,and_true,true_and] at h;obtain⟨⟨⟨a,b⟩,c⟩,k,⟨⟨d,e⟩,f⟩,s,q⟩:=x;obtain⟨⟨⟨a',b'⟩,c'⟩,k',⟨⟨d',e'⟩,f'⟩,s',q'⟩:=y;simp only at h;obtain⟨h1,h2,h3,h0,h4,h5,h6,h7,h8⟩:=h;rw [UInt8.toNat_inj.1 (Int.ofNat.inj h0),UInt8.toNat_inj.1 (Int.ofNat.inj h1),UInt16.toNat_inj.1 (Int.ofNat.inj h2),UInt8.toNat_inj.1 (Int.ofNat.inj h3),UInt8.toNat_inj.1 (Int.ofNat.inj h4),UInt16.toNat_inj.1 (Int.ofNat.inj h5),UInt8.toNat_inj.1 (Int.ofNat.inj h6),h7,h8]
theorem lawOp:WideMaps.KeyLaw Tryz.prog 76:=deep_law_laid laidOut (m:=4) (by omega) (of_decide_eq_true (by kernel_rfl)) (by kernel_rfl) (by kernel_rfl)
theorem lawVid:WideMaps.KeyLaw Tryz.prog 74:=deep_law_laid laidOut (m:=3) (by omega) (of_decide_eq_true (by kernel_rfl)) (by kernel_rfl) (by kernel_rfl)
theorem lawEdge:WideMaps.KeyLaw Tryz.prog 133:=deep_law_laid laidOut (m:=4) (by omega) (of_decide_eq_true (by kernel_rfl)) (by kernel_rfl) (by kernel_rfl)
def okOp(o:OpM):Prop:=o.text.size≤maxLen
def okAll{α:Type}(_:α):Prop:=True
theorem keysOp:KeyEnc Tryz.prog 76 opV okOp:=⟨Keyed.of_law lawOp,fun o h=>key_of (by kernel_rfl) (by kernel_rfl) cells_opT (by obtain⟨d,hd⟩:=many_types;rw [hd];exact lits_op d o h),opV_inj⟩
theorem keysVid:KeyEnc Tryz.prog 74 vidV okAll:=⟨Keyed.of_law lawVid,fun v _=>key_of (by kernel_rfl) (by kernel_rfl) cells_vidT (by obtain⟨d,hd⟩:=many_types;rw [hd];exact lits_vid (d+1) v),vidV_inj⟩
theorem keysEdge:KeyEnc Tryz.prog 133 edgeV okAll:=⟨Keyed.of_law lawEdge,fun e _=>key_of (by kernel_rfl) (by kernel_rfl) cells_edgeT (by obtain⟨d,hd⟩:=many_types;rw [hd];exact lits_edge d e),edgeV_inj⟩
section
variable {P : Program} {k : TypeId} {κ ν : Type} {kenc : κ → Value} {ok : κ → Prop} {venc : ν → Value}
theorem TMap.block{w w':World}{b n:Nat}{f:κ→Option ν}(h:TMap P k kenc ok venc w b n f)(hb:w'.heap[b]? = w.heap[b]?):TMap P k kenc ok venc w' b n f:=by obtain⟨D,⟨es,clock,h1,h2⟩,hH⟩:=h;exact⟨D,⟨es,clock,hb.trans h1,h2⟩,hH⟩
theorem TMap.entry[DecidableEq κ](KE:KeyEnc P k kenc ok)(KL:WideMaps.KeyLaw P k)(hv:∀ x y,venc x=venc y→x=y){w:World}{b n:Nat}{f:κ→Option ν}(h:TMap P k kenc ok venc w b n f){t e:TypeId}(ht:P.underlying t=some (.map k e)){zv:ν}
  (hz:∀ u:World,(zeroValue e).run P u=.ok (venc zv) u) (hn:n<maxLen) (x:κ) (hx:ok x) :
  ∃ v0 st w1,(Instr.mapEntry t (.map (some b)) (kenc x)).run P w=.ok (.tuple #[v0,.int .i64 (st:Nat)]) w1∧w.grownBy w1 (some b)∧w1.heap.size=w.heap.size ∧
   (Instr.lookup t (.map (some b)) (kenc x) false).run P w1=.ok (venc ((f x).getD zv)) w1 ∧
   ∀(w2:World) (v:ν),w2.heap[b]? = w1.heap[b]? → ∃ w3,(Instr.entryStore t (.map (some b)) (.int .i64 (st:Nat)) (venc v)).run P w2=.ok () w3∧TMap P k kenc ok venc w3 b (n+1) (updM f x v)∧w2.grownBy w3 (some b)∧w3.heap.size=w2.heap.size:=by
 have hlt:=h.lt;have hst:=fun v=>h.store KE hv ht hn x hx v;have hl0:=h.lookup KE hv ht (hz w) x hx;have hlk:=h.look_ok KE hv ht (hz w) x hx;have hwhole:=h;obtain⟨l,hl⟩:=KE.reads x hx;obtain⟨D,⟨es,clock,hb,F,_,_⟩,hH⟩:=h;obtain⟨v0,st,es1,clock1,h1,h2,h3⟩:=entry_then_store KL ht hz hb F hl;have hg:∀(w:World) (es:Array MapEntry) (clock:Nat) (o:Obj),w.heap[b]? = some (.map es clock)→w.grownBy (Go.ChangeMaps.setBlock w b o) (some b)∧(Go.ChangeMaps.setBlock w b o).heap[b]? = some o∧(Go.ChangeMaps.setBlock w b o).heap.size=w.heap.size:=fun w es clock o hb =>⟨⟨rfl,rfl,rfl,by simp [Go.ChangeMaps.setBlock],fun i _ hi=>Go.ChangeMaps.heap_setBlock_other hb o (fun e=>hi (by rw [e]))⟩,Go.ChangeMaps.heap_setBlock_same hb o,by simp [Go.ChangeMaps.setBlock]⟩;obtain⟨g1,g2,g3⟩:=hg w es clock (.map es1 clock1) hb;have hM1:∃ f1:κ→Option ν,TMap P k kenc ok venc (Go.ChangeMaps.setBlock w b (.map es1 clock1)) b (n+1) f1∧(f1 x).getD zv=(f x).getD zv:=by
  rcases KE.keyed.find w hl es.toList F.keys with⟨q1,q2⟩|⟨j,e0,q1,q2,q3⟩
  ·
   have hrun:(Instr.mapEntry t (.map (some b)) (kenc x)).run P w=.ok (.tuple #[venc zv,goInt clock]) (Go.ChangeMaps.setBlock w b (.map (es.push ⟨kenc x,venc zv,clock⟩) (clock+1))):=(by simp [Instr.mapEntry,run_underlying ht,MapKept.run_getObj_map hb,KE.keyed.check w false hl,q1,hz,MapKept.run_setObj_map _ hb,Result.andThen,Go.ChangeMaps.setBlock]);have hupd:(Instr.mapUpdate t (.map (some b)) (kenc x) (venc zv)).run P w=.ok () (Go.ChangeMaps.setBlock w b (.map (es.push ⟨kenc x,venc zv,clock⟩) (clock+1))):=(by simp [Instr.mapUpdate,run_underlying ht,MapKept.run_getObj_map hb,KE.keyed.check w false hl,q1,MapKept.run_setObj_map _ hb,Result.andThen,Go.ChangeMaps.setBlock]);obtain⟨w',r1,r2,_⟩:=hst zv;rw [hupd] at r1;have e1:=(Result.ok.inj r1).2;rw [h1] at hrun;have e2:=(Result.ok.inj hrun).2;refine⟨_,by rw [e2,e1];exact r2,?_⟩;have:f x=none:=by
    obtain⟨a1,a2⟩:=hH.at' x hx l hl;cases hf:f x with
    | none=>rfl
    | some y =>exfalso;have hl1:=hl0;rw [hf] at hl1;have:(Instr.lookup t (.map (some b)) (kenc x) true).run P w=.ok (.tuple #[venc zv,.bool false]) w:=(by simp [Instr.lookup,run_underlying ht,MapKept.run_getObj_map hb,KE.keyed.check w _ hl,q1,hz,Result.andThen]);rw [hlk] at this;have:=(Result.ok.inj this).1;simp [hf] at this
   simp [updM,this]
  have hj:es[j]? = some e0:=by simpa using q2
  have hsame:es.modify j (fun e=>{e with key:=kenc x})=es:=by apply Array.ext';rw [Array.toList_modify,Go.ChangeMaps.modify_eq_set _ _ _ _ q2];have:({e0 with key:=kenc x}:MapEntry)=e0:=(by rw [← q3]);rw [this];exact set_self _ _ _ q2
  have hrun:(Instr.mapEntry t (.map (some b)) (kenc x)).run P w=.ok (.tuple #[e0.val,goInt e0.born]) (Go.ChangeMaps.setBlock w b (.map es clock)):=by simp [Instr.mapEntry,run_underlying ht,MapKept.run_getObj_map hb,KE.keyed.check w false hl,q1,hj,q3,KE.keyed.stays w hl,hsame,MapKept.run_setObj_map _ hb,Result.andThen,Go.ChangeMaps.setBlock]
  rw [h1] at hrun;have e2:=(Result.ok.inj hrun).2;refine⟨f,?_,rfl⟩;rw [e2];refine(hwhole.block ?_).mono (Nat.le_succ n);rw [(hg w es clock (.map es clock) hb).2.1,hb]
 obtain⟨f1,m1,m2⟩:=hM1;refine⟨v0,st,_,h1,g1,g3,?_,fun w2 v hw2 => ?_⟩
 · rw [← m2];exact m1.lookup KE hv ht (hz _) x hx
 obtain⟨es',clock',r1,r2⟩:=h3 w2 (venc v) (hw2.trans g2);obtain⟨w',s1,s2,_⟩:=hst v;rw [r2] at s1;have e1:=(Result.ok.inj s1).2;obtain⟨k1,k2,k3⟩:=hg w2 es1 clock1 (.map es' clock') (hw2.trans g2);refine⟨_,r1,s2.block ?_,k1,k3⟩;rw [k2,← e1,(hg w es clock (.map es' clock') hb).2.1]
end
end Go.Proofs.YtjccmcgglfncdaaGreatDoor
