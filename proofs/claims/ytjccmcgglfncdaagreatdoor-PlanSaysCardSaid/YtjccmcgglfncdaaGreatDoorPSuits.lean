/- What is proved: PlanSays, for every input; of the listed tables the walk needs the powers of ten. -/
import Derived.Test.YtjccmcgglfncdaaGreatDoorPGrQ
import Derived.Test.YtjccmcgglfncdaaGreatDoorPPDeps
set_option linter.unusedVariables false
set_option linter.unusedSimpArgs false
set_option maxRecDepth 100000
set_option maxHeartbeats 40000000
set_option maxRecDepth 100000
set_option maxHeartbeats 40000000
namespace Go.Proofs.YtjccmcgglfncdaaGreatDoor
open Go Go.RowKit
variable{cs:List Value}{g:Nat}{p:PidM}{a:UInt8}{f:VecM}
section
variable {P : Program} {ty : TypeId} {size : Nat} {w : World} {ops : Array Oper} {rest : List Oper} {o : Oper} {a : Act} {Q : Exit → Act → World → Prop}
theorem run_load_row(T:RowT P ty size)(hA:Arr w g cs)(hl:cs.length=size):(loadVar ty ⟨g,0,none⟩).run P w=.ok (.agg cs.toArray) w:=by obtain⟨d,i,h1,h2,h3,h4⟩:=T.out;obtain⟨e,hg⟩:=hA;exact run_loadVar_row w g e ty cs.toArray (0,0) d hg h1 (by cases d <;> simp_all [isRowD]) (by rw [h3];simp [h4,hl])
theorem lex_load_row{C:World→Prop}{loud:Nat→Bool}{Q:Act→World→Prop}(T:RowT P ty size){k:Nat}{l:List Oper}(hl:loud k=false)(x:Operand)(ho:o.op=.load ty x)
  (hw:Region.wanted o (yielded ops a.tmps)=true)   (hx:a.eval x=.pointer (some ⟨g,0,none⟩)) (hA:∀ w',C w'→Arr w' g cs) (hlen:cs.length=size)
  (h:wpLex P ops C loud Q (k+1) l (a.put o.dst (.agg cs.toArray)) w):wpLex P ops C loud Q k (o :: l) a w:=by unfold wpLex;rw [if_pos hw,hl];refine⟨.agg cs.toArray,fun w' hw' => ?_,h⟩;unfold Oper.quietAt execOp;simp only [ho,hx,Instr.loadAt,Instr.sureAddr,Sem.run_bind,Sem.run_pure,Result.andThen_ok,run_load_row T (hA w' hw') hlen];exact⟨rfl,rfl⟩
theorem wpList_load_arrG(T:RowT P ty size)(hw:Region.wanted o (yielded ops a.tmps)=true)(x:Operand)(ho:o.op=.load ty x)(g:Nat)(cs:List Value)(hA:Arr w g cs)(hx:a.eval x=.pointer (some ⟨g,0,none⟩))(hl:cs.length=size)
  (h:wpList P ops Q rest (a.put o.dst (.agg cs.toArray)) w):wpList P ops Q (o :: rest) a w:=by refine wpList_step fun K hK => ?_;rw [if_pos hw];unfold Oper.wp execOp;simp only [ho,hx,Instr.loadAt,Instr.sureAddr,Sem.run_bind,Sem.run_pure,Result.andThen_ok,run_load_row T hA hl];exact hK _ _ h
theorem run_load_part(hag:∀ w,(isAgg ty).run P w=.ok true w)(hsz:∀ w,(Go.sizeOf ty).run P w=.ok size w){more:List Value}(hA:Arr w g (cs++more))(hl:cs.length=size):(loadVar ty ⟨g,0,none⟩).run P w=.ok (.agg cs.toArray) w:=by have h:=run_loadCells_list (P:=P) (w:=w) ⟨g,0,none⟩ cs (fun j v hv=>by have:=hA.cell (j:=j) (u:=v) (by rw [List.getElem?_append_left (List.getElem?_eq_some_iff.1 hv).1];exact hv);rw [Addr.add_lit,Nat.zero_add];exact this);rw [hl] at h;simp [loadVar,hag,hsz,h]
theorem lex_load_part{C:World→Prop}{loud:Nat→Bool}{Q:Act→World→Prop}(hag:∀ w,(isAgg ty).run P w=.ok true w)(hsz:∀ w,(Go.sizeOf ty).run P w=.ok size w){k:Nat}{l:List Oper}(hl:loud k=false)(x:Operand)(ho:o.op=.load ty x)
  (hw:Region.wanted o (yielded ops a.tmps)=true)  {more:List Value} (hx:a.eval x=.pointer (some ⟨g,0,none⟩)) (hA:∀ w',C w'→Arr w' g (cs++more)) (hlen:cs.length=size)
  (h:wpLex P ops C loud Q (k+1) l (a.put o.dst (.agg cs.toArray)) w):wpLex P ops C loud Q k (o :: l) a w:=by unfold wpLex;rw [if_pos hw,hl];refine⟨.agg cs.toArray,fun w' hw' => ?_,h⟩;unfold Oper.quietAt execOp;simp only [ho,hx,Instr.loadAt,Instr.sureAddr,Sem.run_bind,Sem.run_pure,Result.andThen_ok,run_load_part hag hsz (hA w' hw') hlen];exact⟨rfl,rfl⟩
theorem wpList_store_part(T:RowT P ty size)(hgd:o.guard=none)(x y:Operand)(ho:o.op=.store ty x y)(g:Nat)(cs more new:List Value)(hA:Arr w g (cs++more))(hx:a.eval x=.pointer (some ⟨g,0,none⟩))
  (hy:a.eval y=.agg new.toArray) (hl:cs.length=size) (hn:new.length=size) (h1:new.all (fun u=>u.oneCell')=true)
  (h:Arr (w.setRow g (new++more).toArray) g (new++more)→w.grownBy (w.setRow g (new++more).toArray) (some g)→(w.setRow g (new++more).toArray).heap.size=w.heap.size→wpList P ops Q rest (a.put o.dst undef) (w.setRow g (new++more).toArray)):wpList P ops Q (o :: rest) a w:=by
 refine wpList_plain hgd fun K hK => ?_;have hA':=hA;obtain⟨d,i,_,_,h3,h4⟩:=T.out;obtain⟨e,hg⟩:=hA;have hs:=run_storeCells_at (P:=P) g 0 e new 0 (cs++more).toArray w hg (by simp;omega) (fun v hv=>List.all_eq_true.1 h1 v hv);have ht:((cs++more).toArray.toList.take (0+0)++new++(cs++more).toArray.toList.drop (0+0+new.length)).toArray=(new++more).toArray:=by simp only [Nat.zero_add,List.take_zero,List.nil_append];rw [hn,← hl,List.drop_append_of_le_length (Nat.le_refl _),List.drop_length,List.nil_append]
 rw [ht] at hs;have hc:(Value.agg new.toArray).cells=new.toArray:=rfl;have hr:(storeVar ty ⟨g,0,none⟩ (.agg new.toArray)).run P w=.ok () (w.setRow g (new++more).toArray):=by simp [storeVar,sizeOf,typeInfo,h3,h4,hc,hn,hs]
 unfold Oper.wp execOp;simp only [ho,hx,hy,Instr.storeAt,Instr.sureAddr,Sem.run_bind,Sem.run_pure,Result.andThen_ok,hr];exact hK _ _ (h (hA'.row _) (grown_row _) (by simp))
end
theorem code_gen{P:Program}{c:Code}{Q:Exit→Act→World→Prop}{a:Act}{w:World}(F:World→Prop)(hF:F w)(h:∀ w0,F w0→c.wp P Q a w0):c.wp P Q a w:=h w hF
def vecL(f:VecM):List Value:=(List.range 64).map fun i=>.int .u16 ((f (UInt8.ofNat (i+1)):Nat):Int)
abbrev vecV(f:VecM):Value:=.agg (vecL f).toArray
theorem vecL_len(f:VecM):(vecL f).length=64:=by simp [vecL]
theorem vecL_one(f:VecM):(vecL f).all (fun u=>u.oneCell')=true:=by rw [List.all_eq_true];intro u hu;obtain⟨i,_,rfl⟩:=List.mem_map.1 hu;rfl
theorem vecL_get(f:VecM)(a:UInt8)(h1:1≤a.toNat)(h2:a.toNat≤64):(vecL f)[a.toNat - 1]? = some (.int .u16 ((f a:Nat):Int)):=by
 unfold vecL;rw [List.getElem?_map,List.getElem?_range (by omega)];simp only [Option.map_some];have:UInt8.ofNat (a.toNat - 1+1)=a:=by apply UInt8.toNat_inj.1;simp;omega
 rw [this]
def setV(f:VecM)(a:UInt8)(n:Nat):VecM:=fun b=>if b=a then n else f b
theorem vecL_set(f:VecM)(a:UInt8)(n:Nat)(h1:1≤a.toNat)(h2:a.toNat≤64):(vecL f).set (a.toNat - 1) (.int .u16 n)=vecL (setV f a n):=by
 apply List.ext_getElem?;intro t;rw [List.getElem?_set]
 by_cases ht:t<64
 ·
  have e1:(vecL f)[t]? = some (.int .u16 ((f (UInt8.ofNat (t+1)):Nat):Int)):=by unfold vecL;rw [List.getElem?_map,List.getElem?_range ht];rfl
  have e2:(vecL (setV f a n))[t]? = some (.int .u16 ((setV f a n (UInt8.ofNat (t+1)):Nat):Int)):=by unfold vecL;rw [List.getElem?_map,List.getElem?_range ht];rfl
  rw [e1,e2];unfold setV
  by_cases h:a.toNat - 1=t
  · have:UInt8.ofNat (t+1)=a:=(by apply UInt8.toNat_inj.1;simp;omega);rw [if_pos h,if_pos this,if_pos (by rw [vecL_len];omega)]
  have:¬ UInt8.ofNat (t+1)=a:=fun e=>h (by rw [← e];simp;omega);rw [if_neg h,if_neg this]
 rw [if_neg (by omega),List.getElem?_eq_none (by rw [vecL_len];omega),List.getElem?_eq_none (by rw [vecL_len];omega)]
theorem rowVec:RowT Tryz.prog 54 64:=rowT_of Tryz.underlying54 rfl (by kernel_rfl)
theorem rowPid:RowT Tryz.prog 25 2:=rowT_of Tryz.underlying25 rfl (by kernel_rfl)
def numM(f:VecM)(a:UInt8):Nat:=if authorOk a=true then f a else 0
def hasF(f:VecM)(p:PidM):Bool:=authorOk p.author && (decide (1≤p.seq.toNat) && decide (p.seq.toNat≤f p.author))
def nextF(f:VecM)(a:UInt8):PidM:=if authorOk a=true∧f a<60000 then⟨a,UInt16.ofNat (f a+1)⟩ else noPid
theorem authorOk_yes(h1:1≤a.toNat)(h2:a.toNat≤64):authorOk a=true:=by unfold authorOk;simp [h1,h2]
theorem authorOk_lo(h1:¬ 1≤a.toNat):authorOk a=false:=by unfold authorOk;simp;omega
theorem authorOk_hi(h1:¬ a.toNat≤64):authorOk a=false:=by unfold authorOk;simp;omega
theorem num_yes(f:VecM)(h:authorOk a=true):numM f a=f a:=by unfold numM;rw [if_pos h]
theorem num_no(f:VecM)(h:authorOk a=false):numM f a=0:=by unfold numM;rw [if_neg (by simp [h])]
def NumRes(w:World)(f:VecM)(a:UInt8)(e:Ending)(w':World):Prop:=e=.returned (.tuple #[.int .u16 ((numM f a:Nat):Int),.bool (authorOk a)])∧Be w w'
attribute [local irreducible] vecL authorOk numM
theorem pnumber_any(f:VecM)(a:UInt8)(w:World):Calls Tryz.prog 108 #[vecV f,.int .u8 a.toNat] w (NumRes w f a):=by
 have hal:=a.toNat_lt;have HA:=Lh (anw w (vecL f).toArray 54);have HB:=Lh (bnew (w:=w) (.cells (vecL f).toArray 54));unfold vecV
 by_cases h1:1≤a.toNat
 rotate_left
 ·
  have d1:decide ((a.toNat:Int)<1)=true:=by simp;omega
  have HK:=Lh (authorOk_lo h1);have HN:=Lh (num_no f HK.o);go_enter Tryz.func108,Tryz.ntmps108;go_wp2;go_ret2;exact⟨(by rw [HN.o,HK.o];rfl),HB.o⟩
 have d1:decide ((a.toNat:Int)<1)=false:=by simp;omega
 by_cases h2:a.toNat≤64
 ·
  have d2:decide ((64:Int)<(a.toNat:Int))=false:=by simp;omega
  have HK:=Lh (authorOk_yes h1 h2);have HN:=Lh (num_yes f HK.o);have hc:=HA.o.cell (vecL_get f a h1 h2);have hs:=HA.o.lt;obtain⟨n,hn⟩:∃ n,a.toNat=n+1:=⟨a.toNat - 1,by omega⟩;rw [hn] at hc d1 d2 hal h1 h2 ⊢;simp only [Nat.add_sub_cancel] at hc;have HNn:=Lh hn;clear hn;go_enter Tryz.func108,Tryz.ntmps108;go_wp2;go_ret2;exact⟨(by rw [HN.o,HK.o];rfl),HB.o⟩
 have d2:decide ((64:Int)<(a.toNat:Int))=true:=by simp;omega
 have HK:=Lh (authorOk_hi h2);have HN:=Lh (num_no f HK.o);go_enter Tryz.func108,Tryz.ntmps108;go_wp2;go_ret2;exact⟨(by rw [HN.o,HK.o];rfl),HB.o⟩
theorem has_1(h:authorOk p.author=false):hasF f p=false:=by unfold hasF;rw [h];rfl
theorem has_2(h:¬ 1≤p.seq.toNat):hasF f p=false:=by unfold hasF;simp [h]
theorem has_3(h:¬ p.seq.toNat≤f p.author):hasF f p=false:=by unfold hasF;simp [h]
theorem has_4(h1:authorOk p.author=true)(h2:1≤p.seq.toNat)(h3:p.seq.toNat≤f p.author):hasF f p=true:=by unfold hasF;rw [h1];simp [h2,h3]
attribute [local irreducible] hasF
theorem phas_any(f:VecM)(p:PidM)(w:World):Calls Tryz.prog 124 #[vecV f,pidV p] w fun e w'=>e=.returned (.bool (hasF f p))∧Be w w':=by
 have HA:=Lh ((anw w (vecL f).toArray 54).alloc (.cells (cP p) 25));have HP:=Lh (an2 w (.cells (vecL f).toArray 54) (cP p) 25);have HB:=Lh ((bnew (w:=w) (.cells (vecL f).toArray 54)).alloc (by simp) (.cells (cP p) 25));unfold pidV;go_enter Tryz.func124,Tryz.ntmps124;go_upto_region 1 with fail;generalize (w.alloc (.cells (vecL f).toArray 54)).alloc (.cells (cP p) 25)=w0 at *;obtain⟨p0,p1,sp⟩:=HP.o.c2;go_wp2_with (refine wpList_load_arr rowVec rfl _ rfl _ _ HA.o rfl (vecL_len f) ?_);refine(pnumber_any f p.author _).mono ?_;rintro e w1 ⟨rfl,hb1⟩;have HB1:=Lh (bvo HB.o hb1);have HP1:=Lh (HP.o.over hb1);clear hb1 p0 p1 sp;obtain⟨p0,p1,sp⟩:=HP1.o.c2;cases hk:authorOk p.author with
 | false =>have HH:=Lh (has_1 (f:=f) hk);clear hk;go_wp2;go_ret;exact⟨rvb HH.o,HB1.o⟩
 | true =>
  by_cases h2:1≤p.seq.toNat
  ·
   have d2:decide ((1:Int)≤(p.seq.toNat:Int))=true:=(by simp;omega);have hnum:=num_yes f hk
   by_cases h3:p.seq.toNat≤f p.author
   · have d3:decide (p.seq.toNat≤numM f p.author)=true:=(by rw [hnum];simpa using h3);have HH:=Lh (has_4 hk h2 h3);clear hk hnum;go_wp2;go_ret;exact⟨rvb HH.o,HB1.o⟩
   · have d3:decide (p.seq.toNat≤numM f p.author)=false:=(by rw [hnum];simpa using h3);have HH:=Lh (has_3 h3);clear hk hnum;go_wp2;go_ret;exact⟨rvb HH.o,HB1.o⟩
  · have d2:decide ((1:Int)≤(p.seq.toNat:Int))=false:=(by simp;omega);have HH:=Lh (has_2 (f:=f) h2);clear hk;go_wp2;go_ret;exact⟨rvb HH.o,HB1.o⟩
end Go.Proofs.YtjccmcgglfncdaaGreatDoor
namespace Go.Proofs.YtjccmcgglfncdaaGreatDoor
open Go Go.RowKit
section
variable{a:UInt8}{f:VecM}
theorem nextF_yes(h1:authorOk a=true)(h2:f a<60000):nextF f a=⟨a,UInt16.ofNat (f a+1)⟩:=by unfold nextF;rw [if_pos ⟨h1,h2⟩]
theorem nextF_no1(h1:authorOk a=false):nextF f a=noPid:=by unfold nextF;rw [if_neg (fun h=>by rw [h1] at h;exact absurd h.1 (by decide))]
theorem nextF_no2(h2:¬ f a<60000):nextF f a=noPid:=by unfold nextF;rw [if_neg (fun h=>h2 h.2)]
theorem authorOk_pos(h:authorOk a=true):1≤a.toNat∧a.toNat≤64:=by unfold authorOk at h;simp at h;exact h
theorem pidV_next(h1:authorOk a=true)(h2:f a<60000):pidV (nextF f a)=.agg #[.int .u8 a.toNat,.int .u16 ((f a:Int)+1)]:=by
 rw [nextF_yes h1 h2];unfold pidV;have:((UInt16.ofNat (f a+1)).toNat:Int)=(f a:Int)+1:=by simp;omega
 rw [this]
attribute [local irreducible] vecL authorOk numM nextF
theorem pnext_any(f:VecM)(hf:∀ a,f a≤60000)(a:UInt8)(w:World):Calls Tryz.prog 49 #[vecV f,.int .u8 a.toNat] w fun e w'=>e=.returned (pidV (nextF f a))∧Be w w':=by
 have hfa:=hf a;have HA:=Lh ((anw w (vecL f).toArray 54).alloc (.cells #[.int .u8 0,.int .u16 0] 25));have HR:=Lh (an2 w (.cells (vecL f).toArray 54) #[.int .u8 0,.int .u16 0] 25);have HB:=Lh ((bnew (w:=w) (.cells (vecL f).toArray 54)).alloc (by simp) (.cells #[.int .u8 0,.int .u16 0] 25));clear hf;go_enter Tryz.func49,Tryz.ntmps49;go_upto_region 1 with fail;generalize (w.alloc (.cells (vecL f).toArray 54)).alloc (.cells #[.int .u8 0,.int .u16 0] 25)=w0 at *;go_wp2_with (refine wpList_load_arr rowVec rfl _ rfl _ _ HA.o rfl (vecL_len f) ?_);refine(pnumber_any f a _).mono ?_;rintro e w1 ⟨rfl,hb1⟩;have HB1:=Lh (bvo HB.o hb1);have HR1:=Lh (HR.o.over hb1);clear hb1;obtain⟨r0,r1,_⟩:=HR1.o.c2;have f0:=HR1.o.free 0;have f1:=HR1.o.free 1;have sr:=HR1.o.lt;cases hk:authorOk a with
 | false =>have HN:=Lh (nextF_no1 (f:=f) hk);have HF:=Lh ((HR1.o.set 0 (.int .u8 0)).set 1 (.int .u16 0));have HBF:=Lh ((HB1.o.setCell (p:=⟨w.heap.size+1,0,none⟩) (by simp) (.int .u8 0)).setCell (p:=⟨w.heap.size+1,1,none⟩) (by simp) (.int .u16 0));clear hk;go_wp2_with fail;exact bodyPost_ret (v:=.agg #[.int .u8 0,.int .u16 0]) (results_arr rowPid rfl HF.o rfl rfl) rfl ⟨by rw [HN.o];rfl,HBF.o⟩
 | true =>
  have hnum:=num_yes f hk
  by_cases h2:f a<60000
  · have d2:decide ((60000:Int)≤(numM f a:Int))=false:=(by rw [hnum];simp;omega);have hfi:(f a:Int)<60000:=(by omega);have hf0:(0:Int)≤(f a:Int):=(by omega);have HN:=Lh (pidV_next hk h2);have HF:=Lh ((HR1.o.set 0 (.int .u8 a.toNat)).set 1 (.int .u16 ((f a:Int)+1)));have HBF:=Lh ((HB1.o.setCell (p:=⟨w.heap.size+1,0,none⟩) (by simp) (.int .u8 a.toNat)).setCell (p:=⟨w.heap.size+1,1,none⟩) (by simp) (.int .u16 ((f a:Int)+1)));have HNu:=Lh hnum;rw [hnum] at d2 ⊢;clear hk hnum hfa h2;go_wp2_with fail;exact bodyPost_ret (v:=.agg #[.int .u8 a.toNat,.int .u16 ((f a:Int)+1)]) (results_arr rowPid rfl HF.o rfl rfl) rfl ⟨by rw [HN.o],HBF.o⟩
  · have d2:decide ((60000:Int)≤(numM f a:Int))=true:=(by rw [hnum];simp;omega);have HN:=Lh (nextF_no2 h2);have HF:=Lh ((HR1.o.set 0 (.int .u8 0)).set 1 (.int .u16 0));have HBF:=Lh ((HB1.o.setCell (p:=⟨w.heap.size+1,0,none⟩) (by simp) (.int .u8 0)).setCell (p:=⟨w.heap.size+1,1,none⟩) (by simp) (.int .u16 0));rw [hnum] at d2 ⊢;clear hk hnum hfa h2;go_wp2_with fail;exact bodyPost_ret (v:=.agg #[.int .u8 0,.int .u16 0]) (results_arr rowPid rfl HF.o rfl rfl) rfl ⟨by rw [HN.o];rfl,HBF.o⟩
end
section
theorem rasl{P:Program}{w:World}{ty:TypeId}{size:Nat}(T:RowT P ty size){fn:Func}{p q:Tmp}(h:fn.results=#[.cell p ty,.tmp q]){tmps:Array Value}{g:Nat}{cs:List Value}(hA:Arr w g cs)(hp:tmps.getD p undef=.pointer (some ⟨g,0,none⟩))(hl:cs.length=size){u:Value}(hq:tmps.getD q undef=u) :
  (results fn tmps).run P w=.ok (.tuple #[.agg cs.toArray,u]) w:=by
 obtain⟨d,i,h1,h2,h3,h4⟩:=T.out;obtain⟨e,hg⟩:=hA;subst hq;have hp':tmps[p]?.getD undef=.pointer (some ⟨g,0,none⟩):=by simpa using hp
 simp [results,h,hp',asAddr,run_loadVar_row w g e ty cs.toArray (0,0) d hg h1 (by cases d <;> simp_all [isRowD]) (by rw [h3];simp [h4,hl])]
def PutOk(f:VecM)(p:PidM)(w:World)(e:Ending)(w':World):Prop:=e=.returned (.tuple #[vecV (setV f p.author p.seq.toNat),.bool true])∧Be w w'
attribute [local irreducible] vecL authorOk numM nextF
theorem pput_any(f:VecM)(hf:∀ a,f a≤60000)(p:PidM)(w:World)(ha:authorOk p.author=true)(hp:nextF f p.author=p):Calls Tryz.prog 64 #[vecV f,pidV p] w (PutOk f p w):=by
 have hpa:=authorOk_pos ha;have HF:=Lh hf;have HP0:=Lh hp;have hne:¬ p=noPid:=fun e=>by rw [e] at hpa;exact absurd hpa.1 (by decide)
 have e1:∀ w,(binOp .eql 25 (.agg (cP p)) (.agg #[.int .u8 0,.int .u16 0])).run Tryz.prog w=.ok (.bool false) w:=eql_pid p noPid false (by simp [hne]);have e2:=neq_pid p p false (by simp);unfold pidV at e2;clear hne;have gd:=fun p q xs ys w=>guard_pid .eql p q xs ys w;have gd2:=fun p q xs ys w=>guard_pid .neq p q xs ys w;clear hf hp;unfold pidV;go_enter Tryz.func64,Tryz.ntmps64;go_upto_region 1 with fail;refine code_gen (fun w0=>∃ zs:List Value,zs.length=64∧Arr w0 (w.heap.size+1+1) zs∧Arr w0 w.heap.size (vecL f)∧Arr w0 (w.heap.size+1) [.int .u8 p.author.toNat,.int .u16 p.seq.toNat]∧Be w w0)
  (by
   refine⟨_,?_,arr_new3 w (.cells (vecL f).toArray 54) (.cells (cP p) 25) _ _,((anw w (vecL f).toArray _).alloc _).alloc _,(an2 w (.cells (vecL f).toArray 54) _ _).alloc _,((bnew (w:=w) _).alloc (by simp) _).alloc (by simp;omega) _⟩
   rfl) ?_
 rintro w0 ⟨zs,hzl,hR,hA,hP,hB⟩;have HR:=Lh hR;have HA:=Lh hA;have HP:=Lh hP;have HB:=Lh hB;clear hR hA hP hB;obtain⟨p0,p1,sp⟩:=HP.o.c2;refine wlo 11 fun hcur=>?_;repeat(first|(refine lxs rfl rfl ?_;simp only [Act.put,Sib,Scs,Scz])|((with_reducible refine lex_load_row rowVec rfl _ rfl rfl rfl (fun w' hw'=>HA.o.over (isOver_below hw')) (vecL_len f) ?_);simp only [Act.put,Sib,Scs,Scz])|(refine lxo rfl ?_;go_big_quiet_step (fail);refine wpQuiet_nil ?_)|(refine lxl rfl ?_;go_wp2_with (first|(go_at_call 49;(with_reducible refine(pnext_any f HF.o p.author _).mono ?_);rintro e wA ⟨rfl,hb⟩;rw [HP0.o];have hcur:=bvo hcur hb));refine⟨iov hcur,?_⟩))
 refine lxe ?_;have HB1:=Lh (bvo HB.o hcur);have HA1:=Lh (HA.o.over hcur);have HP1:=Lh (HP.o.over hcur);have HR1:=Lh (HR.o.over hcur);have HVS:=Lh (vecL_set f p.author p.seq.toNat hpa.1 hpa.2);have HVG:=Lh (vecL_get f p.author hpa.1 hpa.2);clear hcur p0 p1 sp;obtain⟨p0,p1,sp⟩:=HP1.o.c2;have c0:=HA1.o.cell HVG.o;have f0:=HA1.o.free (p.author.toNat - 1);have HA2:Hid (Arr (wA.setCell ⟨w.heap.size,p.author.toNat - 1,none⟩ (.int .u16 p.seq.toNat)) w.heap.size (vecL (setV f p.author p.seq.toNat))):=by have:=HA1.o.set (p.author.toNat - 1) (.int .u16 p.seq.toNat);rw [HVS.o] at this;exact this
 have HR2:Hid (Arr (wA.setCell ⟨w.heap.size,p.author.toNat - 1,none⟩ (.int .u16 p.seq.toNat)) (w.heap.size+1+1) zs):=HR1.o.set_other (a:=⟨w.heap.size,p.author.toNat - 1,none⟩) (by simp;omega) _;have HB2:=Lh (HB1.o.setCell (p:=⟨w.heap.size,p.author.toNat - 1,none⟩) (Nat.le_refl _) (.int .u16 p.seq.toNat));obtain⟨n,hn⟩:∃ n,p.author.toNat=n+1:=⟨p.author.toNat - 1,by omega⟩;have HNn:=Lh hn;have hn64:n<64:=by omega
 rw [hn] at p0;rw [hn,Nat.add_sub_cancel] at c0 f0 HA2 HR2 HB2;have sA:=HA1.o.lt;clear hn;go_upto_region 4 with fail;generalize wA.setCell ⟨w.heap.size,n,none⟩ (.int .u16 p.seq.toNat)=w3 at *;clear p0 p1 sp c0 f0;go_wp2_with (first|(refine wpList_load_arr rowVec rfl _ rfl _ _ HA2.o rfl (vecL_len _) ?_)|(refine wpList_put_arr rowVec rfl _ _ rfl _ _ _ HR2.o rfl rfl hzl (vecL_len _) (vecL_one _) ?_;intro w4 HR4 _ hb4 hs4));exact bodyPost_ret (v:=.tuple #[.agg (vecL (setV f p.author p.seq.toNat)).toArray,.bool true]) (rasl rowVec rfl HR4 rfl (vecL_len _) rfl) rfl ⟨rfl,hb4 _ _ (by show w.heap.size≤w.heap.size+1+1;omega) HB2.o⟩
theorem rvof_any(f:VecM)(a:UInt8)(w:World)(hfa:f a≤60000):Calls Tryz.prog 62 #[vecV f,.int .u8 a.toNat] w fun e w'=>e=.returned (.int .i64 ((numM f a:Nat):Int))∧Be w w':=by
 have hal:=a.toNat_lt;have hfi:(f a:Int)≤60000:=by omega
 have hf0:(0:Int)≤(f a:Int):=by omega
 have HA:=Lh (anw w (vecL f).toArray 54);have HB:=Lh (bnew (w:=w) (.cells (vecL f).toArray 54));unfold vecV
 by_cases h1:1≤a.toNat
 rotate_left
 ·
  have d1:decide ((a.toNat:Int)<1)=true:=by simp;omega
  have HN:=Lh (num_no f (authorOk_lo h1));go_enter Tryz.func62,Tryz.ntmps62;go_wp2;go_ret;exact⟨ret_int (by rw [HN.o];rfl),HB.o⟩
 have d1:decide ((a.toNat:Int)<1)=false:=by simp;omega
 by_cases h2:a.toNat≤64
 ·
  have d2:decide ((64:Int)<(a.toNat:Int))=false:=by simp;omega
  have HN:=Lh (num_yes f (authorOk_yes h1 h2));have hc:=HA.o.cell (vecL_get f a h1 h2);have hs:=HA.o.lt;obtain⟨n,hn⟩:∃ n,a.toNat=n+1:=⟨a.toNat - 1,by omega⟩;rw [hn] at hc d1 d2 hal h1 h2 ⊢;simp only [Nat.add_sub_cancel] at hc;have HNn:=Lh hn;clear hn;go_enter Tryz.func62,Tryz.ntmps62;go_wp2;go_ret;exact⟨ret_int (by rw [HN.o]),HB.o⟩
 have d2:decide ((64:Int)<(a.toNat:Int))=true:=by simp;omega
 have HN:=Lh (num_no f (authorOk_hi h2));go_enter Tryz.func62,Tryz.ntmps62;go_wp2;go_ret;exact⟨ret_int (by rw [HN.o];rfl),HB.o⟩
theorem rnext_any(f:VecM)(hf:∀ a,f a≤60000)(a:UInt8)(w:World):Calls Tryz.prog 24 #[vecV f,.int .u8 a.toNat] w fun e w'=>e=.returned (pidV (nextF f a))∧Be w w':=by
 have hfa:=hf a;have hal:=a.toNat_lt;have HA:=Lh ((anw w (vecL f).toArray 54).alloc (.cells #[.int .u8 0,.int .u16 0] 25));have HR:=Lh (an2 w (.cells (vecL f).toArray 54) #[.int .u8 0,.int .u16 0] 25);have HB:=Lh ((bnew (w:=w) (.cells (vecL f).toArray 54)).alloc (by simp) (.cells #[.int .u8 0,.int .u16 0] 25));clear hf;go_enter Tryz.func24,Tryz.ntmps24;go_upto_region 1 with fail;generalize (w.alloc (.cells (vecL f).toArray 54)).alloc (.cells #[.int .u8 0,.int .u16 0] 25)=w0 at *
 by_cases h1:1≤a.toNat
 rotate_left
 ·
  have d1:decide ((a.toNat:Int)<1)=true:=by simp;omega
  have HN:=Lh (nextF_no1 (f:=f) (authorOk_lo h1));obtain⟨r0,r1,_⟩:=HR.o.c2;have f0:=HR.o.free 0;have f1:=HR.o.free 1;have sr:=HR.o.lt;have HF:=Lh ((HR.o.set 0 (.int .u8 0)).set 1 (.int .u16 0));have HBF:=Lh ((HB.o.setCell (p:=⟨w.heap.size+1,0,none⟩) (by simp) (.int .u8 0)).setCell (p:=⟨w.heap.size+1,1,none⟩) (by simp) (.int .u16 0));clear hfa;go_wp2_with fail;exact bodyPost_ret (v:=.agg #[.int .u8 0,.int .u16 0]) (results_arr rowPid rfl HF.o rfl rfl) rfl ⟨by rw [HN.o];rfl,HBF.o⟩
 have d1:decide ((a.toNat:Int)<1)=false:=by simp;omega
 by_cases h2:a.toNat≤64
 rotate_left
 ·
  have d2:decide ((64:Int)<(a.toNat:Int))=true:=by simp;omega
  have HN:=Lh (nextF_no1 (f:=f) (authorOk_hi h2));obtain⟨r0,r1,_⟩:=HR.o.c2;have f0:=HR.o.free 0;have f1:=HR.o.free 1;have sr:=HR.o.lt;have HF:=Lh ((HR.o.set 0 (.int .u8 0)).set 1 (.int .u16 0));have HBF:=Lh ((HB.o.setCell (p:=⟨w.heap.size+1,0,none⟩) (by simp) (.int .u8 0)).setCell (p:=⟨w.heap.size+1,1,none⟩) (by simp) (.int .u16 0));clear hfa;go_wp2_with fail;exact bodyPost_ret (v:=.agg #[.int .u8 0,.int .u16 0]) (results_arr rowPid rfl HF.o rfl rfl) rfl ⟨by rw [HN.o];rfl,HBF.o⟩
 have d2:decide ((64:Int)<(a.toNat:Int))=false:=by simp;omega
 have hk:=authorOk_yes h1 h2;have HK:=Lh hk;have hnum:=num_yes f hk;go_wp2_with (with_reducible refine wpList_load_arrG rowVec rfl _ rfl _ _ HA.o rfl (vecL_len f) ?_);refine(rvof_any f a _ hfa).mono ?_;rintro e w1 ⟨rfl,hb1⟩;have HB1:=Lh (bvo HB.o hb1);have HR1:=Lh (HR.o.over hb1);have HA1:=Lh (HA.o.over hb1);clear hb1;rw [hnum]
 by_cases h3:f a<60000
 ·
  have d3:decide ((60000:Int)≤(f a:Int))=false:=by simp;omega
  have hfi:(f a:Int)<60000:=by omega
  have hf0:(0:Int)≤(f a:Int):=by omega
  have HN:=Lh (pidV_next hk h3);clear hk h3;go_wp2_with (refine wpList_load_arr rowVec rfl _ rfl _ _ HA1.o rfl (vecL_len f) ?_);refine(rvof_any f a _ hfa).mono ?_;rintro e w2 ⟨rfl,hb2⟩;rw [hnum];have HB2:=Lh (bvo HB1.o hb2);have HR2:=Lh (HR1.o.over hb2);clear hb2 hnum;obtain⟨r0,r1,_⟩:=HR2.o.c2;have f0:=HR2.o.free 0;have f1:=HR2.o.free 1;have sr:=HR2.o.lt;have HF:=Lh ((HR2.o.set 0 (.int .u8 a.toNat)).set 1 (.int .u16 ((f a:Int)+1)));have HBF:=Lh ((HB2.o.setCell (p:=⟨w.heap.size+1,0,none⟩) (by simp) (.int .u8 a.toNat)).setCell (p:=⟨w.heap.size+1,1,none⟩) (by simp) (.int .u16 ((f a:Int)+1)));go_wp2_with fail;exact bodyPost_ret (v:=.agg #[.int .u8 a.toNat,.int .u16 ((f a:Int)+1)]) (results_arr rowPid rfl HF.o rfl rfl) rfl ⟨by rw [HN.o],HBF.o⟩
 have d3:decide ((60000:Int)≤(f a:Int))=true:=by simp;omega
 have HN:=Lh (nextF_no2 h3);obtain⟨r0,r1,_⟩:=HR1.o.c2;have f0:=HR1.o.free 0;have f1:=HR1.o.free 1;have sr:=HR1.o.lt;have HF:=Lh ((HR1.o.set 0 (.int .u8 0)).set 1 (.int .u16 0));have HBF:=Lh ((HB1.o.setCell (p:=⟨w.heap.size+1,0,none⟩) (by simp) (.int .u8 0)).setCell (p:=⟨w.heap.size+1,1,none⟩) (by simp) (.int .u16 0));clear hk hfa h3 hnum;go_wp2_with fail;exact bodyPost_ret (v:=.agg #[.int .u8 0,.int .u16 0]) (results_arr rowPid rfl HF.o rfl rfl) rfl ⟨by rw [HN.o];rfl,HBF.o⟩
theorem rput_any(f:VecM)(hf:∀ a,f a≤60000)(p:PidM)(w:World)(ha:authorOk p.author=true)(hp:nextF f p.author=p):Calls Tryz.prog 112 #[vecV f,pidV p] w (PutOk f p w):=by
 have hpa:=authorOk_pos ha;have HF:=Lh hf;have HP0:=Lh hp;have e2:=neq_pid p p false (by simp);unfold pidV at e2;have gd:=fun p q xs ys w=>guard_pid .eql p q xs ys w;have gd2:=fun p q xs ys w=>guard_pid .neq p q xs ys w;clear hf hp;unfold pidV;go_enter Tryz.func112,Tryz.ntmps112;go_upto_region 1 with fail;refine code_gen (fun w0=>∃ zs:List Value,zs.length=64∧Arr w0 (w.heap.size+1+1) zs∧Arr w0 w.heap.size (vecL f)∧Arr w0 (w.heap.size+1) [.int .u8 p.author.toNat,.int .u16 p.seq.toNat]∧Be w w0)
  (by
   refine⟨_,?_,arr_new3 w (.cells (vecL f).toArray 54) (.cells (cP p) 25) _ _,((anw w (vecL f).toArray _).alloc _).alloc _,(an2 w (.cells (vecL f).toArray 54) _ _).alloc _,((bnew (w:=w) _).alloc (by simp) _).alloc (by simp;omega) _⟩
   rfl) ?_
 rintro w0 ⟨zs,hzl,hR,hA,hP,hB⟩;have HR:=Lh hR;have HA:=Lh hA;have HP:=Lh hP;have HB:=Lh hB;clear hR hA hP hB;obtain⟨p0,p1,sp⟩:=HP.o.c2;have d1:decide ((p.author.toNat:Int)<1)=false:=by simp;omega
 have d2:decide ((64:Int)<(p.author.toNat:Int))=false:=by simp;omega
 refine wlo 16 fun hcur=>?_;repeat(first|(refine lxs rfl rfl ?_;simp only [Act.put,Sib,Scs,Scz])|((with_reducible refine lex_load_row rowVec rfl _ rfl rfl rfl (fun w' hw'=>HA.o.over (isOver_below hw')) (vecL_len f) ?_);simp only [Act.put,Sib,Scs,Scz])|(refine lxo rfl ?_;go_big_quiet_step (fail);refine wpQuiet_nil ?_)|(refine lxl rfl ?_;go_wp2_with (first|(go_at_call 24;(with_reducible refine(rnext_any f HF.o p.author _).mono ?_);rintro e wA ⟨rfl,hb⟩;rw [HP0.o];have hcur:=bvo hcur hb));refine⟨iov hcur,?_⟩))
 refine lxe ?_;have HB1:=Lh (bvo HB.o hcur);have HA1:=Lh (HA.o.over hcur);have HP1:=Lh (HP.o.over hcur);have HR1:=Lh (HR.o.over hcur);have HVS:=Lh (vecL_set f p.author p.seq.toNat hpa.1 hpa.2);have HVG:=Lh (vecL_get f p.author hpa.1 hpa.2);clear hcur p0 p1 sp;obtain⟨p0,p1,sp⟩:=HP1.o.c2;have c0:=HA1.o.cell HVG.o;have f0:=HA1.o.free (p.author.toNat - 1);have HA2:Hid (Arr (wA.setCell ⟨w.heap.size,p.author.toNat - 1,none⟩ (.int .u16 p.seq.toNat)) w.heap.size (vecL (setV f p.author p.seq.toNat))):=by have:=HA1.o.set (p.author.toNat - 1) (.int .u16 p.seq.toNat);rw [HVS.o] at this;exact this
 have HR2:Hid (Arr (wA.setCell ⟨w.heap.size,p.author.toNat - 1,none⟩ (.int .u16 p.seq.toNat)) (w.heap.size+1+1) zs):=HR1.o.set_other (a:=⟨w.heap.size,p.author.toNat - 1,none⟩) (by simp;omega) _;have HB2:=Lh (HB1.o.setCell (p:=⟨w.heap.size,p.author.toNat - 1,none⟩) (Nat.le_refl _) (.int .u16 p.seq.toNat));obtain⟨n,hn⟩:∃ n,p.author.toNat=n+1:=⟨p.author.toNat - 1,by omega⟩;have HNn:=Lh hn;have hn64:n<64:=by omega
 rw [hn] at p0;rw [hn,Nat.add_sub_cancel] at c0 f0 HA2 HR2 HB2;have sA:=HA1.o.lt;clear hn;go_upto_region 4 with fail;generalize wA.setCell ⟨w.heap.size,n,none⟩ (.int .u16 p.seq.toNat)=w3 at *;clear p0 p1 sp c0 f0;go_wp2_with (first|(refine wpList_load_arr rowVec rfl _ rfl _ _ HA2.o rfl (vecL_len _) ?_)|(refine wpList_put_arr rowVec rfl _ _ rfl _ _ _ HR2.o rfl rfl hzl (vecL_len _) (vecL_one _) ?_;intro w4 HR4 _ hb4 hs4));exact bodyPost_ret (v:=.tuple #[.agg (vecL (setV f p.author p.seq.toNat)).toArray,.bool true]) (rasl rowVec rfl HR4 rfl (vecL_len _) rfl) rfl ⟨rfl,hb4 _ _ (by show w.heap.size≤w.heap.size+1+1;omega) HB2.o⟩
end
section
variable{α:Type}
def laterOne(id:PidM)(v:VidM):Bool:=decide (v.pid.author=id.author) && decide (id.seq.toNat<v.pid.seq.toNat)
theorem laterB_eq(id:PidM)(o:OpM):laterB id o=(refsM o).any (laterOne id):=rfl
theorem laterFn_any(id:PidM)(v:VidM)(g:Nat)(w:World)(hA:Arr w g (encPid id)) :
  Calls Tryz.prog 243 #[vidV v,.pointer (some ⟨g,0,none⟩)] w fun e w'=>e=.returned (.bool (laterOne id v))∧Be w w':=by
 have i0:=(hA.alloc (.cells (cV v) 74)).k 0 rfl;have i1:=(hA.alloc (.cells (cV v) 74)).k 1 rfl;have sg:=hA.lt;have sg2:¬ g=w.heap.size:=by omega
 clear hA;unfold vidV
 by_cases h1:v.pid.author=id.author
 ·
  have e1:((v.pid.author.toNat:Int) == (id.author.toNat:Int))=true:=by simp [h1]
  by_cases h2:id.seq.toNat<v.pid.seq.toNat
  · have e2:decide (id.seq.toNat<v.pid.seq.toNat)=true:=(by simpa using h2);have HV:Hid (laterOne id v=true):=(by show _=_;unfold laterOne;simp [h1,h2]);clear h1 h2;go_enter Tryz.func243,Tryz.ntmps243;go_wp2;go_ret;exact⟨rvb HV.o,bnew _⟩
  have e2:decide (id.seq.toNat<v.pid.seq.toNat)=false:=by simpa using h2
  have HV:Hid (laterOne id v=false):=by show _=_;unfold laterOne;simp [h1];omega
  clear h1 h2;go_enter Tryz.func243,Tryz.ntmps243;go_wp2;go_ret;exact⟨rvb HV.o,bnew _⟩
 have e1:((v.pid.author.toNat:Int) == (id.author.toNat:Int))=false:=by simp;intro h;exact h1 (UInt8.toNat_inj.1 (by omega))
 have HV:Hid (laterOne id v=false):=by show _=_;unfold laterOne;simp [h1]
 clear h1;go_enter Tryz.func243,Tryz.ntmps243;go_wp2;go_ret;exact⟨rvb HV.o,bnew _⟩
def idxB(f:α→Bool)(l:List α):Int:=match l.findIdx? f with|some i=>(i:Int)|none => -1
def IxRes(w:World)(f:VidM→Bool)(vs:List VidM)(e:Ending)(w':World):Prop:=e=.returned (.int .i64 (idxB f vs))∧Be w w'
theorem idx_hit{f:α→Bool}{l:List α}{k:Nat}{x:α}(h:(l.take k).any f=false)(hx:l[k]? = some x)(hf:f x=true):idxB f l=(k:Int):=by
 have:l.findIdx? f=some k:=by rw [List.findIdx?_eq_some_iff_getElem];obtain⟨hk,e⟩:=List.getElem?_eq_some_iff.1 hx;refine⟨hk,by rw [e];exact hf,fun j hj => ?_⟩;have:=List.any_eq_false.1 h (l[j]) (List.mem_iff_getElem.2 ⟨j,by rw [List.length_take];omega,by simp⟩);simpa using this
 unfold idxB;rw [this]
theorem idx_miss{f:α→Bool}{l:List α}(h:(l.take l.length).any f=false):idxB f l = -1:=by
 rw [List.take_length] at h;have:l.findIdx? f=none:=by rw [List.findIdx?_eq_none_iff];intro x hx;simpa using List.any_eq_false.1 h x hx
 unfold idxB;rw [this]
theorem any_step{f:α→Bool}{l:List α}{k:Nat}{x:α}(h:(l.take k).any f=false)(hx:l[k]? = some x)(hf:f x=false):(l.take (k+1)).any f=false:=by rw [tsg hx,List.any_append,h];simp [hf]
theorem idx_ge(f:α→Bool)(l:List α):decide (0≤idxB f l)=l.any f:=by
 unfold idxB;cases h:l.findIdx? f with
 | none =>
  rw [List.findIdx?_eq_none_iff] at h;have:l.any f=false:=List.any_eq_false.2 fun x hx=>by simp [h x hx]
  rw [this];rfl
 | some i =>rw [List.findIdx?_eq_some_iff_getElem] at h;obtain⟨hk,hf,_⟩:=h;have:l.any f=true:=List.any_eq_true.2 ⟨_,List.getElem_mem hk,hf⟩;rw [this];simp
attribute [local irreducible] laterOne idxB
theorem idxLater_any(id:PidM)(v:Value)(vs:List VidM)(g:Nat)(w:World)(hA:Arr w g (encPid id))(hv:GRow encVid 3 w v vs)(hl:vs.length≤1000) :
  Calls Tryz.prog 287 #[v,.func (.func 243) #[] #[.pointer (some ⟨g,0,none⟩)]] w (IxRes w (laterOne id) vs):=by
 obtain⟨a,cap,rfl,h1,h2,hc⟩:=hv.at encVid_len;unfold maxLen at h2;have HC:=Lh hc;have HA:=Lh hA;clear hv hc hA;go_enter Tryz.func287,Tryz.ntmps287;go_wp2;go_loopw [8] (fun v8 wr=>∃ k:Nat,k≤vs.length∧v8=.int .i64 k∧Hid ((vs.take k).any (laterOne id)=false)∧Be w wr) (fun v8 _=>vs.length - (intOf v8).toNat)
 case atStart=>exact⟨0,by omega,rfl,(by show _=_;simp),Below.refl _ _⟩
 obtain⟨k,hk,rfl,HK,hbl⟩:=hrel
 by_cases hlt:k<vs.length
 rotate_left
 ·
  obtain rfl:k=vs.length:=by omega
  have HI:=Lh (idx_miss HK.o);go_wp2;go_ret;exact⟨ret_int HI.o.symm,hbl⟩
 obtain⟨b,off,rfl,sb,hcb⟩:=HC.o.resolve_left (by omega);obtain⟨u,hu⟩:=gol hlt;have HU:=Lh (hcb k u hu wr hbl);obtain⟨u0,u1,u2,su⟩:=rc3 HU.o;have HX:=Lh hu;clear hcb hu;go_wp2_with fail;refine(laterFn_any id u g _ (HA.o.over hbl)).mono ?_;rintro e w1 ⟨rfl,hb1⟩;have HB1:=Lh (bvo hbl hb1);clear hb1 u0 u1 u2 su;cases hf:laterOne id u with
 | true =>have HI:=Lh (idx_hit HK.o HX.o hf);clear hf;go_wp2;go_ret;exact⟨ret_int HI.o.symm,HB1.o⟩
 | false =>
  have HI:=Lh (any_step HK.o HX.o hf);clear hf;go_wp2;go_roundw
  case rel=>exact⟨k+1,hlt,by go_num,HI,HB1.o⟩
  simp [intOf];omega
theorem conLater_any(id:PidM)(v:Value)(vs:List VidM)(g:Nat)(w:World)(hA:Arr w g (encPid id))(hv:GRow encVid 3 w v vs)(hl:vs.length≤1000) :
  Calls Tryz.prog 242 #[v,.func (.func 243) #[] #[.pointer (some ⟨g,0,none⟩)]] w fun e w'=>e=.returned (.bool (vs.any (laterOne id)))∧Be w w':=by have HI:=Lh (idx_ge (laterOne id) vs);have hcon:=idxLater_any id v vs g w hA hv hl;unfold IxRes at hcon;generalize idxB (laterOne id) vs=r at *;generalize vs.any (laterOne id)=q at *;clear hA hv;go_enter Tryz.func242,Tryz.ntmps242;go_wp2_with fail;refine hcon.mono ?_;rintro e w1 ⟨rfl,hb1⟩;have HB:=Lh hb1;clear hb1 hcon;go_wp2;go_ret;exact⟨rvl (congrArg Value.bool HI.o),HB.o⟩
attribute [local irreducible] laterB refsM
theorem plater_any(id:PidM)(o:OpM)(w:World):Calls Tryz.prog 180 #[pidV id,opV o] w fun e w'=>e=.returned (.bool (laterB id o))∧Be w w':=by have HA:=Lh ((anw w (cP id) 25).alloc (.cells (cO o) 76));have HB:=Lh ((bnew (w:=w) (.cells (cP id) 25)).alloc (by simp) (.cells (cO o) 76));have hrl:=refs_len o;have HL:=Lh (laterB_eq id o);unfold pidV opV;go_enter Tryz.func180,Tryz.ntmps180;go_wp2_with fail;generalize (w.alloc (.cells (cP id) 25)).alloc (.cells (cO o) 76)=w0 at *;refine(prefs_any o _).mono ?_;rintro e w1 ⟨v1,rfl,hv1,hb1⟩;have HV1:=Lh (RefsAt.vrow hv1);have HB1:=Lh hb1;clear hv1 hb1;go_wp2_with fail;refine(conLater_any id v1 (refsM o) _ w1 (HA.o.over HB1.o) HV1.o (by omega)).mono ?_;rintro e w2 ⟨rfl,hb2⟩;rw [← HL.o];have HB2:=Lh hb2;clear hb2;go_wp2;go_ret;exact⟨rfl,bvo HB.o (bvo HB1.o HB2.o)⟩
theorem equalPid_any(v u:Value)(l m:List PidM)(w:World)(hv:GRow encPid 2 w v l)(hu:GRow encPid 2 w u m) :
  Calls Tryz.prog 178 #[v,u] w fun e w'=>e=.returned (.bool (decide (l=m)))∧Be w w':=by
 obtain⟨a,cap,rfl,h1,h2,hc⟩:=hv.at encPid_len;obtain⟨a',cap',rfl,h1',h2',hc'⟩:=hu.at encPid_len;unfold maxLen at h2 h2';have HC:=Lh hc;have HC':=Lh hc';clear hv hu hc hc';have gd:=fun p q xs ys w=>guard_pid .neq p q xs ys w
 by_cases hlen:l.length=m.length
 rotate_left
 ·
  have HN:Hid (decide (l=m)=false):=decide_eq_false (fun h=>hlen (by rw [h]));have hq:((l.length:Int) != (m.length:Int))=true:=by simp;omega
  clear hlen;go_enter Tryz.func178,Tryz.ntmps178;go_wp2;go_ret;exact⟨rvb HN.o,Below.refl _ _⟩
 have HL:=Lh hlen;have hq:((l.length:Int) != (m.length:Int))=false:=by simp [hlen]
 clear hlen;go_enter Tryz.func178,Tryz.ntmps178;go_wp2;go_loopw [13] (fun i wr=>∃ k:Nat,k≤l.length∧i=.int .i64 k∧Hid (l.take k=m.take k)∧Be w wr) (fun i _=>l.length - (intOf i).toNat)
 case atStart=>exact⟨0,by omega,rfl,rfl,Below.refl _ _⟩
 obtain⟨k,hk,rfl,HK,hbl⟩:=hrel
 by_cases hlt:k<l.length
 rotate_left
 ·
  obtain rfl:k=l.length:=by omega
  have HN:Hid (decide (l=m)=true):=decide_eq_true (take_all HL.o HK.o);go_wp2;go_ret;exact⟨rvb HN.o,hbl⟩
 obtain⟨bl,ol,rfl,sl,hcl⟩:=HC.o.resolve_left (by omega);obtain⟨bm,om,rfl,sm,hcm⟩:=HC'.out.resolve_left (by have:=HL.o;omega);obtain⟨x,hx⟩:=gol hlt;obtain⟨y,hy⟩:=gol (xs:=m) (i:=k) (by have:=HL.o;omega);have hkm:k<m.length:=by have:=HL.o;omega
 have x0:wr.cell? ⟨bl,ol+k*2,none⟩=some (.int .u8 x.author.toNat):=((hcl k x hx wr hbl)).2 0 _ rfl;have x1:wr.cell? ⟨bl,ol+k*2+1,none⟩=some (.int .u16 x.seq.toNat):=((hcl k x hx wr hbl)).2 1 _ rfl;have y0:wr.cell? ⟨bm,om+k*2,none⟩=some (.int .u8 y.author.toNat):=((hcm k y hy wr hbl)).2 0 _ rfl;have y1:wr.cell? ⟨bm,om+k*2+1,none⟩=some (.int .u16 y.seq.toNat):=((hcm k y hy wr hbl)).2 1 _ rfl;have sX:=(hcl k x hx wr hbl).1;have sY:=(hcm k y hy wr hbl).1;have HX:=Lh hx;have HY:=Lh hy;clear hcl hcm hx hy
 by_cases hxy:x=y
 ·
  have hne:=neq_pid x y false (by simp [hxy]);unfold pidV at hne;have HK2:Hid (l.take (k+1)=m.take (k+1)):=by show _=_;rw [tsg HX.o,tsg HY.o,HK.o,hxy]
  clear hxy;go_wp2_with fail;refine wlo 9 fun hcur=>?_;repeat refine lxq ?_
  refine lxe ?_;go_wp2;go_roundw
  case rel=>exact⟨k+1,hlt,by go_num,HK2,hbl.drew⟩
  simp [intOf];omega
 have hne:=neq_pid x y true (by simp [hxy]);unfold pidV at hne;have HN:Hid (decide (l=m)=false):=decide_eq_false (take_ne HX.o HY.o hxy);clear hxy;go_wp2_with fail;refine wlo 9 fun hcur=>?_;repeat refine lxq ?_
 refine lxe ?_;go_wp2;go_ret;exact⟨rvb HN.o,hbl.drew⟩
end
variable{ops:List OpM}{o:OpM}{id:PidM}{v:VidM}
abbrev patV(id:PidM)(dv ov:Value):Value:=.agg #[.int .u8 id.author.toNat,.int .u16 id.seq.toNat,dv,ov]
def kindM(id:PidM)(ops:List OpM)(v:VidM):Option UInt8:=if v.pid=id then(ops[v.n.toNat]?).map (·.kind) else none
def kindV(k:Option UInt8):Value:=.tuple #[.int .u8 ((k.getD 0).toNat:Int),.bool k.isSome]
def KindRes(w:World)(k:Option UInt8)(e:Ending)(w':World):Prop:=e=.returned (kindV k)∧Be w w'
theorem kind_far(h:¬ v.pid=id):kindM id ops v=none:=by unfold kindM;rw [if_neg h]
theorem kind_out(h:ops.length≤v.n.toNat):kindM id ops v=none:=by
 unfold kindM;split
 · rw [List.getElem?_eq_none h];rfl
 rfl
theorem kind_in(h:v.pid=id)(ho:ops[v.n.toNat]? = some o):kindM id ops v=some o.kind:=by unfold kindM;rw [if_pos h,ho];rfl
theorem get_op{n:Nat}(h:n<ops.length):∃ o,ops[n]? = some o:=gol h
attribute [local irreducible] kindM
theorem pkind_any(id:PidM)(dv ov:Value)(ops:List OpM)(v:VidM)(w:World)(hv:GRow encOp 8 w ov ops) :
  Calls Tryz.prog 244 #[patV id dv ov,vidV v] w (KindRes w (kindM id ops v)):=by
 obtain⟨a,cap,rfl,h1,h2,hc⟩:=hv.at encOp_len;unfold maxLen at h2;have HC:=Lh hc;have HP:=Lh ((anw w #[.int .u8 id.author.toNat,.int .u16 id.seq.toNat,dv,.slice a ops.length cap] 44).alloc (.cells (cV v) 74));have HV:=Lh (an2 w (.cells #[.int .u8 id.author.toNat,.int .u16 id.seq.toNat,dv,.slice a ops.length cap] 44) (cV v) 74);have HB:=Lh ((bnew (w:=w) (.cells #[.int .u8 id.author.toNat,.int .u16 id.seq.toNat,dv,.slice a ops.length cap] 44)).alloc (by simp) (.cells (cV v) 74));have gd:=fun p q xs ys w=>guard_pid .neq p q xs ys w;have hnl:=v.n.toNat_lt;clear hv hc;unfold patV vidV;go_enter Tryz.func244,Tryz.ntmps244;go_upto_region 1 with fail;generalize (w.alloc (.cells #[.int .u8 id.author.toNat,.int .u16 id.seq.toNat,dv,.slice a ops.length cap] 44)).alloc (.cells (cV v) 74)=w0 at *;obtain⟨p0,p1,p2,p3,sp⟩:=HP.o.c4;obtain⟨v0,v1,v2,sv⟩:=HV.o.c3
 by_cases hp:v.pid=id
 rotate_left
 · have e1:=neq_pid v.pid id true (by simp [hp]);unfold pidV at e1;have HK:=Lh (kind_far (ops:=ops) hp);clear hp;go_wp2;go_ret2;exact⟨(by rw [HK.o];rfl),HB.o⟩
 have e1:=neq_pid v.pid id false (by simp [hp]);unfold pidV at e1
 by_cases hn:ops.length≤v.n.toNat
 ·
  have e2:decide (ops.length≤v.n.toNat)=true:=by simpa using hn
  have HK:=Lh (kind_out (id:=id) hn);clear hp hn;go_wp2;go_ret2;exact⟨(by rw [HK.o];rfl),HB.o⟩
 have e2:decide (ops.length≤v.n.toNat)=false:=by simpa using hn
 obtain⟨b,off,rfl,sb,hcb⟩:=HC.o.resolve_left (by omega);obtain⟨o,ho⟩:=get_op (show v.n.toNat<ops.length by omega);have HO:=Lh (hcb v.n.toNat o ho w0 HB.o);have HK:=Lh (kind_in hp ho);obtain⟨o0,so⟩:=rc1 HO.o;have hlt:v.n.toNat<ops.length:=by omega
 clear hp hn hcb ho;go_wp2;go_ret2;exact⟨(by rw [HK.o];rfl),HB.o⟩
def wantK(o:OpM):UInt8:=if o.kind=4 then 3 else 1
def kindOkB(id:PidM)(ops:List OpM)(o:OpM)(v:VidM):Bool:=match kindM id ops v with|some k=>k == wantK o|none=>true
def sameAtB(id:PidM)(ops:List OpM)(o:OpM):Bool:=if o.kind=4∧o.at'.pid=id∧o.to.pid=id then decide ((ops[o.at'.n.toNat]?).map (·.at')=(ops[o.to.n.toNat]?).map (·.at')) else true
def suitsM(id:PidM)(ops:List OpM)(o:OpM):Bool:=(refsM o).all (kindOkB id ops o) && sameAtB id ops o
theorem want4(h:o.kind.toNat=4):wantK o=3:=by unfold wantK;have:o.kind=4:=(u8_nat _ 4 (by omega)).2 h;rw [if_pos this]
theorem want1(h:¬ o.kind.toNat=4):wantK o=1:=by unfold wantK;have:¬ o.kind=4:=fun e=>h ((u8_nat _ 4 (by omega)).1 e);rw [if_neg this]
theorem suits_no{k:Nat}(hv:(refsM o)[k]? = some v)(h:kindOkB id ops o v=false):suitsM id ops o=false:=by unfold suitsM;have:(refsM o).all (kindOkB id ops o)=false:=List.all_eq_false.2 ⟨v,List.mem_of_getElem? hv,by simp [h]⟩;rw [this];rfl
theorem suits_end(h:((refsM o).take (refsM o).length).all (kindOkB id ops o)=true):suitsM id ops o=sameAtB id ops o:=by rw [List.take_length] at h;unfold suitsM;rw [h];rfl
theorem all_take'{α:Type}{f:α→Bool}{l:List α}{k:Nat}{x:α}(hx:l[k]? = some x)(h:(l.take k).all f=true)(hf:f x=true):(l.take (k+1)).all f=true:=by rw [tsg hx,List.all_append,h];simp [hf]
theorem sameAt_not(h:¬ (o.kind.toNat=4∧o.at'.pid=id∧o.to.pid=id)):sameAtB id ops o=true:=by unfold sameAtB;rw [if_neg];rintro⟨h1,h2,h3⟩;exact h ⟨(u8_nat _ 4 (by omega)).1 h1,h2,h3⟩
theorem sameAt_yes{a b:OpM}(h:o.kind.toNat=4)(h1:o.at'.pid=id)(h2:o.to.pid=id)(ha:ops[o.at'.n.toNat]? = some a)(hb:ops[o.to.n.toNat]? = some b):sameAtB id ops o=decide (a.at'=b.at'):=by unfold sameAtB;rw [if_pos ⟨(u8_nat _ 4 (by omega)).2 h,h1,h2⟩,ha,hb];simp
attribute [local irreducible] refsM kindOkB sameAtB suitsM wantK
theorem psuits_any(id:PidM)(dv ov:Value)(ops:List OpM)(o:OpM)(w:World)(hv:GRow encOp 8 w ov ops)(hown:∀ v∈refsM o,v.pid=id→v.n.toNat<ops.length) :
  Calls Tryz.prog 181 #[patV id dv ov,opV o] w fun e w'=>e=.returned (.bool (suitsM id ops o))∧Be w w':=by
 have HV0:=Lh hv;obtain⟨a,cap,rfl,h1,h2,hc⟩:=hv.at encOp_len;unfold maxLen at h2;have HC:=Lh hc;have HW:=Lh hown;have HP:=Lh ((anw w #[.int .u8 id.author.toNat,.int .u16 id.seq.toNat,dv,.slice a ops.length cap] 44).alloc (.cells (cO o) 76));have HO:=Lh (an2 w (.cells #[.int .u8 id.author.toNat,.int .u16 id.seq.toNat,dv,.slice a ops.length cap] 44) (cO o) 76);have HB:=Lh ((bnew (w:=w) (.cells #[.int .u8 id.author.toNat,.int .u16 id.seq.toNat,dv,.slice a ops.length cap] 44)).alloc (by simp) (.cells (cO o) 76));have gd:=fun p q xs ys w=>guard_pid .eql p q xs ys w;have gd2:=fun p q xs ys w=>guard_vid .eql p q xs ys w;have hrl:=refs_len o;clear hv hc hown;unfold patV opV;go_enter Tryz.func181,Tryz.ntmps181;go_upto_if 12 with fail;generalize (w.alloc (.cells #[.int .u8 id.author.toNat,.int .u16 id.seq.toNat,dv,.slice a ops.length cap] 44)).alloc (.cells (cO o) 76)=w0 at *;have HV:=Lh (HV0.o.over HB.o);go_cut [5] (fun s5 wx=>s5=.int .u8 ((wantK o).toNat:Int)∧wx=w0)
 case first =>
  obtain⟨o0,so⟩:=HO.o.c1
  by_cases h4:o.kind.toNat=4
  · have e1:((o.kind.toNat:Int) == 4)=true:=(by simp;omega);have HWk:=Lh (want4 h4);clear h4;go_wp2;go_meet;exact⟨by rw [HWk.o];rfl,rfl⟩
  have e1:((o.kind.toNat:Int) == 4)=false:=by simp;omega
  have HWk:=Lh (want1 h4);clear h4;go_wp2;go_meet;exact⟨by rw [HWk.o];rfl,rfl⟩
 obtain⟨rfl,rfl⟩:=hcut;rename World=>w0;obtain⟨o0,o1,o2,o3,o4,o5,o6,o7,so⟩:=HO.o.c8;go_wp2_with fail;refine(prefs_any o _).mono ?_;rintro e w1 ⟨v1,rfl,hv1,hb1⟩;obtain⟨a1,cap1,rfl,q1,q2,hc1⟩:=(GRow.at encVid_len (RefsAt.vrow hv1));unfold maxLen at q2;have HC1:=Lh hc1;have HB1:=Lh hb1;clear hv1 hb1 hc1 o0 o1 o2 o3 o4 o5 o6 o7 so;go_wp2;go_loopw [16] (fun v16 wr=>∃ k:Nat,k≤(refsM o).length∧v16=.int .i64 k∧Hid (((refsM o).take k).all (kindOkB id ops o)=true)∧Be w1 wr) (fun v16 _=>(refsM o).length - (intOf v16).toNat)
 case atStart=>exact⟨0,by omega,rfl,(by show _=_;simp),Below.refl _ _⟩
 obtain⟨k,hk,rfl,HK,hbl⟩:=hrel;have HBw:=Lh (bvo HB1.o hbl)
 by_cases hlt:k<(refsM o).length
 ·
  obtain⟨b,off,rfl,sb,hcb⟩:=HC1.o.resolve_left (by omega);obtain⟨v,hv⟩:=gol hlt;have HVd:=Lh (hcb k v hv wr hbl);obtain⟨v0,v1,v2,sv⟩:=rc3 HVd.o;have HX:=Lh hv;have HPw:=Lh ((HP.o.over HBw.o));obtain⟨p0,p1,p2,p3,sp⟩:=HPw.o.c4;have HBv:Hid (Be wr (wr.alloc (.cells (cV v) 74))):=bnew _;have HVw:=Lh ((HV.o.over HBw.o).over HBv.o);clear hcb hv;go_wp2_with fail;refine(pkind_any id dv _ ops v _ HVw.o).mono ?_;rintro e w2 ⟨rfl,hb2⟩;have HB2:=Lh (bov (bvo hbl HBv.o) (by have:=hbl.size;simp;omega) hb2);have HB3:=Lh (bvo HB.o (bvo HB1.o HB2.o));clear hb2 v0 v1 v2 sv p0 p1 p2 p3 sp;unfold kindV;cases hkm:kindM id ops v with
  | none =>
   have HKo:Hid (kindOkB id ops o v=true):=(by show _=_;unfold kindOkB;rw [hkm]);have HN:=Lh (all_take' HX.o HK.o HKo.o);clear hkm;go_wp2;go_roundw
   case rel=>exact⟨k+1,hlt,by go_num,HN,HB2.o⟩
   simp [intOf];omega
  | some q =>
   by_cases hq:q=wantK o
   ·
    have HKo:Hid (kindOkB id ops o v=true):=(by show _=_;unfold kindOkB;rw [hkm];simp [hq]);have HN:=Lh (all_take' HX.o HK.o HKo.o);have e1:((q.toNat:Int) != ((wantK o).toNat:Int))=false:=(by simp [hq]);clear hkm hq;go_wp2;go_roundw
    case rel=>exact⟨k+1,hlt,by go_num,HN,HB2.o⟩
    simp [intOf];omega
   have HKo:Hid (kindOkB id ops o v=false):=(by show _=_;unfold kindOkB;rw [hkm];simp [hq]);have HN:=Lh (suits_no HX.o HKo.o);have e1:((q.toNat:Int) != ((wantK o).toNat:Int))=true:=(by simp;intro h;exact hq (UInt8.toNat_inj.1 (by omega)));clear hkm hq;go_wp2;go_ret;exact⟨rvb HN.o,HB3.o⟩
 obtain rfl:k=(refsM o).length:=by omega
 have HE:=Lh (suits_end HK.o);have HBe:=Lh (bvo HB.o HBw.o);have HOw:=Lh ((HO.o.over HBw.o));have HPw:=Lh ((HP.o.over HBw.o));obtain⟨o0,o1,o2,o3,o4,o5,o6,so⟩:=HOw.o.c7;obtain⟨p0,p1,_⟩:=HPw.o.c2;have p3:=HPw.o.k 3 rfl;have sp:=HPw.o.lt
 by_cases h4:o.kind.toNat=4
 rotate_left
 ·
  have e1:((o.kind.toNat:Int) == 4)=false:=by simp;omega
  have HS:Hid (sameAtB id ops o=true):=sameAt_not (fun h=>h4 h.1);clear h4;go_wp2;go_ret;exact⟨rvl (congrArg Value.bool (HE.o.trans HS.o).symm),HBe.o⟩
 have e1:((o.kind.toNat:Int) == 4)=true:=by simp;omega
 by_cases ha:o.at'.pid=id
 rotate_left
 · have e2:=eql_pid o.at'.pid id false (by simp [ha]);unfold pidV at e2;have HS:Hid (sameAtB id ops o=true):=sameAt_not (fun h=>ha h.2.1);clear h4 ha;go_wp2;go_ret;exact⟨rvl (congrArg Value.bool (HE.o.trans HS.o).symm),HBe.o⟩
 have e2:=eql_pid o.at'.pid id true (by simp [ha]);unfold pidV at e2
 by_cases hb:o.to.pid=id
 rotate_left
 · have e3:=eql_pid o.to.pid id false (by simp [hb]);unfold pidV at e3;have HS:Hid (sameAtB id ops o=true):=sameAt_not (fun h=>hb h.2.2);clear h4 ha hb;go_wp2;go_ret;exact⟨rvl (congrArg Value.bool (HE.o.trans HS.o).symm),HBe.o⟩
 have e3:=eql_pid o.to.pid id true (by simp [hb]);unfold pidV at e3;have hr2:=refs_two h4;have hla:=HW.o o.at' (by rw [hr2];simp) ha;have hlb:=HW.o o.to (by rw [hr2];simp) hb;obtain⟨b,off,rfl,sb,hcb⟩:=HC.o.resolve_left (by omega);obtain⟨x,hx⟩:=get_op hla;obtain⟨y,hy⟩:=get_op hlb;have HXa:=Lh (hcb _ x hx wr HBe.o);have HYa:=Lh (hcb _ y hy wr HBe.o);have HS:=Lh (sameAt_yes h4 ha hb hx hy);have x1:wr.cell? ⟨b,off+o.at'.n.toNat*8+1,none⟩=some (.int .u8 x.at'.pid.author.toNat):=HXa.o.2 1 _ rfl;have x2:wr.cell? ⟨b,off+o.at'.n.toNat*8+2,none⟩=some (.int .u16 x.at'.pid.seq.toNat):=HXa.o.2 2 _ rfl;have x3:wr.cell? ⟨b,off+o.at'.n.toNat*8+3,none⟩=some (.int .u8 x.at'.n.toNat):=HXa.o.2 3 _ rfl;have y1:wr.cell? ⟨b,off+o.to.n.toNat*8+1,none⟩=some (.int .u8 y.at'.pid.author.toNat):=HYa.o.2 1 _ rfl;have y2:wr.cell? ⟨b,off+o.to.n.toNat*8+2,none⟩=some (.int .u16 y.at'.pid.seq.toNat):=HYa.o.2 2 _ rfl;have y3:wr.cell? ⟨b,off+o.to.n.toNat*8+3,none⟩=some (.int .u8 y.at'.n.toNat):=HYa.o.2 3 _ rfl;have sxy:=HXa.o.1;have e4:=eql_vid x.at' y.at' _ rfl;unfold vidV at e4;generalize decide (x.at'=y.at')=q at *;have hna:=o.at'.n.toNat_lt;have hnb:=o.to.n.toNat_lt;clear h4 ha hb hr2 hcb hx hy;go_wp2_with fail;refine wlo 17 fun hcur=>?_;repeat refine lxq ?_
 refine lxe ?_;go_wp2;go_ret;exact⟨rvl (congrArg Value.bool (HE.o.trans HS.o).symm),bvo HB.o (bvo HB1.o hbl.drew)⟩
end Go.Proofs.YtjccmcgglfncdaaGreatDoor
