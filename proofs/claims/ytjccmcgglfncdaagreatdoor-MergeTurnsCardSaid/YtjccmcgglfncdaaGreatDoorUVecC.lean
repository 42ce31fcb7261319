/- What is proved: MergeTurns, for every input; of the listed tables the walk needs the powers of ten. -/
import Derived.Test.YtjccmcgglfncdaaGreatDoorURDeps
import Derived.Test.YtjccmcgglfncdaaGreatDoorUGrQ
set_option linter.unusedVariables false
set_option linter.unusedSimpArgs false
set_option maxRecDepth 100000
set_option maxHeartbeats 40000000
set_option maxRecDepth 100000
set_option maxHeartbeats 40000000
namespace Go.Proofs.YtjccmcgglfncdaaGreatDoor
open Go Go.RowKit
variable{cs:List Value}{g:Nat}{p:PidM}{a:UInt8}{f:VecM}
section
variable {P : Program} {ty : TypeId} {size : Nat} {w : World} {ops : Array Oper} {rest : List Oper} {o : Oper} {a : Act} {Q : Exit → Act → World → Prop}
theorem run_load_row(T:RowT P ty size)(hA:Arr w g cs)(hl:cs.length=size):(loadVar ty ⟨g,0,none⟩).run P w=.ok (.agg cs.toArray) w:=by obtain⟨d,i,h1,h2,h3,h4⟩:=T.out;obtain⟨e,hg⟩:=hA;exact run_loadVar_row w g e ty cs.toArray (0,0) d hg h1 (by cases d <;> simp_all [isRowD]) (by rw [h3];simp [h4,hl])
theorem lex_load_row{C:World→Prop}{loud:Nat→Bool}{Q:Act→World→Prop}(T:RowT P ty size){k:Nat}{l:List Oper}(hl:loud k=false)(x:Operand)(ho:o.op=.load ty x)
  (hw:Region.wanted o (yielded ops a.tmps)=true)   (hx:a.eval x=.pointer (some ⟨g,0,none⟩)) (hA:∀ w',C w'→Arr w' g cs) (hlen:cs.length=size)
  (h:wpLex P ops C loud Q (k+1) l (a.put o.dst (.agg cs.toArray)) w):wpLex P ops C loud Q k (o :: l) a w:=by unfold wpLex;rw [if_pos hw,hl];refine⟨.agg cs.toArray,fun w' hw' => ?_,h⟩;unfold Oper.quietAt execOp;simp only [ho,hx,Instr.loadAt,Instr.sureAddr,Sem.run_bind,Sem.run_pure,Result.andThen_ok,run_load_row T (hA w' hw') hlen];exact⟨rfl,rfl⟩
theorem run_load_part(hag:∀ w,(isAgg ty).run P w=.ok true w)(hsz:∀ w,(Go.sizeOf ty).run P w=.ok size w){more:List Value}(hA:Arr w g (cs++more))(hl:cs.length=size):(loadVar ty ⟨g,0,none⟩).run P w=.ok (.agg cs.toArray) w:=by have h:=run_loadCells_list (P:=P) (w:=w) ⟨g,0,none⟩ cs (fun j v hv=>by have:=hA.cell (j:=j) (u:=v) (by rw [List.getElem?_append_left (List.getElem?_eq_some_iff.1 hv).1];exact hv);rw [Addr.add_lit,Nat.zero_add];exact this);rw [hl] at h;simp [loadVar,hag,hsz,h]
theorem lex_load_part{C:World→Prop}{loud:Nat→Bool}{Q:Act→World→Prop}(hag:∀ w,(isAgg ty).run P w=.ok true w)(hsz:∀ w,(Go.sizeOf ty).run P w=.ok size w){k:Nat}{l:List Oper}(hl:loud k=false)(x:Operand)(ho:o.op=.load ty x)
  (hw:Region.wanted o (yielded ops a.tmps)=true)  {more:List Value} (hx:a.eval x=.pointer (some ⟨g,0,none⟩)) (hA:∀ w',C w'→Arr w' g (cs++more)) (hlen:cs.length=size)
  (h:wpLex P ops C loud Q (k+1) l (a.put o.dst (.agg cs.toArray)) w):wpLex P ops C loud Q k (o :: l) a w:=by unfold wpLex;rw [if_pos hw,hl];refine⟨.agg cs.toArray,fun w' hw' => ?_,h⟩;unfold Oper.quietAt execOp;simp only [ho,hx,Instr.loadAt,Instr.sureAddr,Sem.run_bind,Sem.run_pure,Result.andThen_ok,run_load_part hag hsz (hA w' hw') hlen];exact⟨rfl,rfl⟩
theorem wpList_store_part(T:RowT P ty size)(hgd:o.guard=none)(x y:Operand)(ho:o.op=.store ty x y)(g:Nat)(cs more new:List Value)(hA:Arr w g (cs++more))(hx:a.eval x=.pointer (some ⟨g,0,none⟩))
  (hy:a.eval y=.agg new.toArray) (hl:cs.length=size) (hn:new.length=size) (h1:new.all (fun u=>u.oneCell')=true)
  (h:Arr (w.setRow g (new++more).toArray) g (new++more)→w.grownBy (w.setRow g (new++more).toArray) (some g)→(w.setRow g (new++more).toArray).heap.size=w.heap.size→wpList P ops Q rest (a.put o.dst undef) (w.setRow g (new++more).toArray)):wpList P ops Q (o :: rest) a w:=by
 refine wpList_plain hgd fun K hK => ?_;have hA':=hA;obtain⟨d,i,_,_,h3,h4⟩:=T.out;obtain⟨e,hg⟩:=hA;have hs:=run_storeCells_at (P:=P) g 0 e new 0 (cs++more).toArray w hg (by simp;omega) (fun v hv=>List.all_eq_true.1 h1 v hv);have ht:((cs++more).toArray.toList.take (0+0)++new++(cs++more).toArray.toList.drop (0+0+new.length)).toArray=(new++more).toArray:=by simp only [Nat.zero_add,List.take_zero,List.nil_append];rw [hn,← hl,List.drop_append_of_le_length (Nat.le_refl _),List.drop_length,List.nil_append]
 rw [ht] at hs;have hc:(Value.agg new.toArray).cells=new.toArray:=rfl;have hr:(storeVar ty ⟨g,0,none⟩ (.agg new.toArray)).run P w=.ok () (w.setRow g (new++more).toArray):=by simp [storeVar,sizeOf,typeInfo,h3,h4,hc,hn,hs]
 unfold Oper.wp execOp;simp only [ho,hx,hy,Instr.storeAt,Instr.sureAddr,Sem.run_bind,Sem.run_pure,Result.andThen_ok,hr];exact hK _ _ (h (hA'.row _) (grown_row _) (by simp))
end
theorem code_gen{P:Program}{c:Code}{Q:Exit→Act→World→Prop}{a:Act}{w:World}(F:World→Prop)(hF:F w)(h:∀ w0,F w0→c.wp P Q a w0):c.wp P Q a w:=h w hF
def vecL(f:VecM):List Value:=(List.range 64).map fun i=>.int .u16 ((f (UInt8.ofNat (i+1)):Nat):Int)
abbrev vecV(f:VecM):Value:=.agg (vecL f).toArray
theorem vecL_len(f:VecM):(vecL f).length=64:=by simp [vecL]
theorem vecL_one(f:VecM):(vecL f).all (fun u=>u.oneCell')=true:=by rw [List.all_eq_true];intro u hu;obtain⟨i,_,rfl⟩:=List.mem_map.1 hu;rfl
theorem vecL_get(f:VecM)(a:UInt8)(h1:1≤a.toNat)(h2:a.toNat≤64):(vecL f)[a.toNat - 1]? = some (.int .u16 ((f a:Nat):Int)):=by
 unfold vecL;rw [List.getElem?_map,List.getElem?_range (by omega)];simp only [Option.map_some];have:UInt8.ofNat (a.toNat - 1+1)=a:=by apply UInt8.toNat_inj.1;simp;omega
 rw [this]
def setV(f:VecM)(a:UInt8)(n:Nat):VecM:=fun b=>if b=a then n else f b
theorem vecL_set(f:VecM)(a:UInt8)(n:Nat)(h1:1≤a.toNat)(h2:a.toNat≤64):(vecL f).set (a.toNat - 1) (.int .u16 n)=vecL (setV f a n):=by
 apply List.ext_getElem?;intro t;rw [List.getElem?_set]
 by_cases ht:t<64
 ·
  have e1:(vecL f)[t]? = some (.int .u16 ((f (UInt8.ofNat (t+1)):Nat):Int)):=by unfold vecL;rw [List.getElem?_map,List.getElem?_range ht];rfl
  have e2:(vecL (setV f a n))[t]? = some (.int .u16 ((setV f a n (UInt8.ofNat (t+1)):Nat):Int)):=by unfold vecL;rw [List.getElem?_map,List.getElem?_range ht];rfl
  rw [e1,e2];unfold setV
  by_cases h:a.toNat - 1=t
  · have:UInt8.ofNat (t+1)=a:=(by apply UInt8.toNat_inj.1;simp;omega);rw [if_pos h,if_pos this,if_pos (by rw [vecL_len];omega)]
  have:¬ UInt8.ofNat (t+1)=a:=fun e=>h (by rw [← e];simp;omega);rw [if_neg h,if_neg this]
 rw [if_neg (by omega),List.getElem?_eq_none (by rw [vecL_len];omega),List.getElem?_eq_none (by rw [vecL_len];omega)]
theorem rowVec:RowT Tryz.prog 54 64:=rowT_of Tryz.underlying54 rfl (by kernel_rfl)
theorem rowPid:RowT Tryz.prog 25 2:=rowT_of Tryz.underlying25 rfl (by kernel_rfl)
def numM(f:VecM)(a:UInt8):Nat:=if authorOk a=true then f a else 0
def hasF(f:VecM)(p:PidM):Bool:=authorOk p.author && (decide (1≤p.seq.toNat) && decide (p.seq.toNat≤f p.author))
def nextF(f:VecM)(a:UInt8):PidM:=if authorOk a=true∧f a<60000 then⟨a,UInt16.ofNat (f a+1)⟩ else noPid
theorem authorOk_yes(h1:1≤a.toNat)(h2:a.toNat≤64):authorOk a=true:=by unfold authorOk;simp [h1,h2]
theorem authorOk_lo(h1:¬ 1≤a.toNat):authorOk a=false:=by unfold authorOk;simp;omega
theorem authorOk_hi(h1:¬ a.toNat≤64):authorOk a=false:=by unfold authorOk;simp;omega
theorem num_yes(f:VecM)(h:authorOk a=true):numM f a=f a:=by unfold numM;rw [if_pos h]
theorem num_no(f:VecM)(h:authorOk a=false):numM f a=0:=by unfold numM;rw [if_neg (by simp [h])]
def NumRes(w:World)(f:VecM)(a:UInt8)(e:Ending)(w':World):Prop:=e=.returned (.tuple #[.int .u16 ((numM f a:Nat):Int),.bool (authorOk a)])∧Be w w'
attribute [local irreducible] vecL authorOk numM
theorem pnumber_any(f:VecM)(a:UInt8)(w:World):Calls Tryz.prog 108 #[vecV f,.int .u8 a.toNat] w (NumRes w f a):=by
 have hal:=a.toNat_lt;have HA:=Lh (anw w (vecL f).toArray 54);have HB:=Lh (bnew (w:=w) (.cells (vecL f).toArray 54));unfold vecV
 by_cases h1:1≤a.toNat
 rotate_left
 ·
  have d1:decide ((a.toNat:Int)<1)=true:=by simp;omega
  have HK:=Lh (authorOk_lo h1);have HN:=Lh (num_no f HK.o);go_enter Tryz.func108,Tryz.ntmps108;go_wp2;go_ret2;exact⟨(by rw [HN.o,HK.o];rfl),HB.o⟩
 have d1:decide ((a.toNat:Int)<1)=false:=by simp;omega
 by_cases h2:a.toNat≤64
 ·
  have d2:decide ((64:Int)<(a.toNat:Int))=false:=by simp;omega
  have HK:=Lh (authorOk_yes h1 h2);have HN:=Lh (num_yes f HK.o);have hc:=HA.o.cell (vecL_get f a h1 h2);have hs:=HA.o.lt;obtain⟨n,hn⟩:∃ n,a.toNat=n+1:=⟨a.toNat - 1,by omega⟩;rw [hn] at hc d1 d2 hal h1 h2 ⊢;simp only [Nat.add_sub_cancel] at hc;have HNn:=Lh hn;clear hn;go_enter Tryz.func108,Tryz.ntmps108;go_wp2;go_ret2;exact⟨(by rw [HN.o,HK.o];rfl),HB.o⟩
 have d2:decide ((64:Int)<(a.toNat:Int))=true:=by simp;omega
 have HK:=Lh (authorOk_hi h2);have HN:=Lh (num_no f HK.o);go_enter Tryz.func108,Tryz.ntmps108;go_wp2;go_ret2;exact⟨(by rw [HN.o,HK.o];rfl),HB.o⟩
theorem has_1(h:authorOk p.author=false):hasF f p=false:=by unfold hasF;rw [h];rfl
theorem has_2(h:¬ 1≤p.seq.toNat):hasF f p=false:=by unfold hasF;simp [h]
theorem has_3(h:¬ p.seq.toNat≤f p.author):hasF f p=false:=by unfold hasF;simp [h]
theorem has_4(h1:authorOk p.author=true)(h2:1≤p.seq.toNat)(h3:p.seq.toNat≤f p.author):hasF f p=true:=by unfold hasF;rw [h1];simp [h2,h3]
attribute [local irreducible] hasF
theorem phas_any(f:VecM)(p:PidM)(w:World):Calls Tryz.prog 124 #[vecV f,pidV p] w fun e w'=>e=.returned (.bool (hasF f p))∧Be w w':=by
 have HA:=Lh ((anw w (vecL f).toArray 54).alloc (.cells (cP p) 25));have HP:=Lh (an2 w (.cells (vecL f).toArray 54) (cP p) 25);have HB:=Lh ((bnew (w:=w) (.cells (vecL f).toArray 54)).alloc (by simp) (.cells (cP p) 25));unfold pidV;go_enter Tryz.func124,Tryz.ntmps124;go_upto_region 1 with fail;generalize (w.alloc (.cells (vecL f).toArray 54)).alloc (.cells (cP p) 25)=w0 at *;obtain⟨p0,p1,sp⟩:=HP.o.c2;go_wp2_with (refine wpList_load_arr rowVec rfl _ rfl _ _ HA.o rfl (vecL_len f) ?_);refine(pnumber_any f p.author _).mono ?_;rintro e w1 ⟨rfl,hb1⟩;have HB1:=Lh (bvo HB.o hb1);have HP1:=Lh (HP.o.over hb1);clear hb1 p0 p1 sp;obtain⟨p0,p1,sp⟩:=HP1.o.c2;cases hk:authorOk p.author with
 | false =>have HH:=Lh (has_1 (f:=f) hk);clear hk;go_wp2;go_ret;exact⟨rvb HH.o,HB1.o⟩
 | true =>
  by_cases h2:1≤p.seq.toNat
  ·
   have d2:decide ((1:Int)≤(p.seq.toNat:Int))=true:=(by simp;omega);have hnum:=num_yes f hk
   by_cases h3:p.seq.toNat≤f p.author
   · have d3:decide (p.seq.toNat≤numM f p.author)=true:=(by rw [hnum];simpa using h3);have HH:=Lh (has_4 hk h2 h3);clear hk hnum;go_wp2;go_ret;exact⟨rvb HH.o,HB1.o⟩
   · have d3:decide (p.seq.toNat≤numM f p.author)=false:=(by rw [hnum];simpa using h3);have HH:=Lh (has_3 h3);clear hk hnum;go_wp2;go_ret;exact⟨rvb HH.o,HB1.o⟩
  · have d2:decide ((1:Int)≤(p.seq.toNat:Int))=false:=(by simp;omega);have HH:=Lh (has_2 (f:=f) h2);clear hk;go_wp2;go_ret;exact⟨rvb HH.o,HB1.o⟩
end Go.Proofs.YtjccmcgglfncdaaGreatDoor
namespace Go.Proofs.YtjccmcgglfncdaaGreatDoor
open Go Go.RowKit
section
variable{a:UInt8}{f:VecM}
theorem nextF_yes(h1:authorOk a=true)(h2:f a<60000):nextF f a=⟨a,UInt16.ofNat (f a+1)⟩:=by unfold nextF;rw [if_pos ⟨h1,h2⟩]
theorem nextF_no1(h1:authorOk a=false):nextF f a=noPid:=by unfold nextF;rw [if_neg (fun h=>by rw [h1] at h;exact absurd h.1 (by decide))]
theorem nextF_no2(h2:¬ f a<60000):nextF f a=noPid:=by unfold nextF;rw [if_neg (fun h=>h2 h.2)]
theorem authorOk_pos(h:authorOk a=true):1≤a.toNat∧a.toNat≤64:=by unfold authorOk at h;simp at h;exact h
theorem pidV_next(h1:authorOk a=true)(h2:f a<60000):pidV (nextF f a)=.agg #[.int .u8 a.toNat,.int .u16 ((f a:Int)+1)]:=by
 rw [nextF_yes h1 h2];unfold pidV;have:((UInt16.ofNat (f a+1)).toNat:Int)=(f a:Int)+1:=by simp;omega
 rw [this]
attribute [local irreducible] vecL authorOk numM nextF
theorem pnext_any(f:VecM)(hf:∀ a,f a≤60000)(a:UInt8)(w:World):Calls Tryz.prog 49 #[vecV f,.int .u8 a.toNat] w fun e w'=>e=.returned (pidV (nextF f a))∧Be w w':=by
 have hfa:=hf a;have HA:=Lh ((anw w (vecL f).toArray 54).alloc (.cells #[.int .u8 0,.int .u16 0] 25));have HR:=Lh (an2 w (.cells (vecL f).toArray 54) #[.int .u8 0,.int .u16 0] 25);have HB:=Lh ((bnew (w:=w) (.cells (vecL f).toArray 54)).alloc (by simp) (.cells #[.int .u8 0,.int .u16 0] 25));clear hf;go_enter Tryz.func49,Tryz.ntmps49;go_upto_region 1 with fail;generalize (w.alloc (.cells (vecL f).toArray 54)).alloc (.cells #[.int .u8 0,.int .u16 0] 25)=w0 at *;go_wp2_with (refine wpList_load_arr rowVec rfl _ rfl _ _ HA.o rfl (vecL_len f) ?_);refine(pnumber_any f a _).mono ?_;rintro e w1 ⟨rfl,hb1⟩;have HB1:=Lh (bvo HB.o hb1);have HR1:=Lh (HR.o.over hb1);clear hb1;obtain⟨r0,r1,_⟩:=HR1.o.c2;have f0:=HR1.o.free 0;have f1:=HR1.o.free 1;have sr:=HR1.o.lt;cases hk:authorOk a with
 | false =>have HN:=Lh (nextF_no1 (f:=f) hk);have HF:=Lh ((HR1.o.set 0 (.int .u8 0)).set 1 (.int .u16 0));have HBF:=Lh ((HB1.o.setCell (p:=⟨w.heap.size+1,0,none⟩) (by simp) (.int .u8 0)).setCell (p:=⟨w.heap.size+1,1,none⟩) (by simp) (.int .u16 0));clear hk;go_wp2_with fail;exact bodyPost_ret (v:=.agg #[.int .u8 0,.int .u16 0]) (results_arr rowPid rfl HF.o rfl rfl) rfl ⟨by rw [HN.o];rfl,HBF.o⟩
 | true =>
  have hnum:=num_yes f hk
  by_cases h2:f a<60000
  · have d2:decide ((60000:Int)≤(numM f a:Int))=false:=(by rw [hnum];simp;omega);have hfi:(f a:Int)<60000:=(by omega);have hf0:(0:Int)≤(f a:Int):=(by omega);have HN:=Lh (pidV_next hk h2);have HF:=Lh ((HR1.o.set 0 (.int .u8 a.toNat)).set 1 (.int .u16 ((f a:Int)+1)));have HBF:=Lh ((HB1.o.setCell (p:=⟨w.heap.size+1,0,none⟩) (by simp) (.int .u8 a.toNat)).setCell (p:=⟨w.heap.size+1,1,none⟩) (by simp) (.int .u16 ((f a:Int)+1)));have HNu:=Lh hnum;rw [hnum] at d2 ⊢;clear hk hnum hfa h2;go_wp2_with fail;exact bodyPost_ret (v:=.agg #[.int .u8 a.toNat,.int .u16 ((f a:Int)+1)]) (results_arr rowPid rfl HF.o rfl rfl) rfl ⟨by rw [HN.o],HBF.o⟩
  · have d2:decide ((60000:Int)≤(numM f a:Int))=true:=(by rw [hnum];simp;omega);have HN:=Lh (nextF_no2 h2);have HF:=Lh ((HR1.o.set 0 (.int .u8 0)).set 1 (.int .u16 0));have HBF:=Lh ((HB1.o.setCell (p:=⟨w.heap.size+1,0,none⟩) (by simp) (.int .u8 0)).setCell (p:=⟨w.heap.size+1,1,none⟩) (by simp) (.int .u16 0));rw [hnum] at d2 ⊢;clear hk hnum hfa h2;go_wp2_with fail;exact bodyPost_ret (v:=.agg #[.int .u8 0,.int .u16 0]) (results_arr rowPid rfl HF.o rfl rfl) rfl ⟨by rw [HN.o];rfl,HBF.o⟩
end
theorem rasl{P:Program}{w:World}{ty:TypeId}{size:Nat}(T:RowT P ty size){fn:Func}{p q:Tmp}(h:fn.results=#[.cell p ty,.tmp q]){tmps:Array Value}{g:Nat}{cs:List Value}(hA:Arr w g cs)(hp:tmps.getD p undef=.pointer (some ⟨g,0,none⟩))(hl:cs.length=size){u:Value}(hq:tmps.getD q undef=u) :
  (results fn tmps).run P w=.ok (.tuple #[.agg cs.toArray,u]) w:=by
 obtain⟨d,i,h1,h2,h3,h4⟩:=T.out;obtain⟨e,hg⟩:=hA;subst hq;have hp':tmps[p]?.getD undef=.pointer (some ⟨g,0,none⟩):=by simpa using hp
 simp [results,h,hp',asAddr,run_loadVar_row w g e ty cs.toArray (0,0) d hg h1 (by cases d <;> simp_all [isRowD]) (by rw [h3];simp [h4,hl])]
def PutOk(f:VecM)(p:PidM)(w:World)(e:Ending)(w':World):Prop:=e=.returned (.tuple #[vecV (setV f p.author p.seq.toNat),.bool true])∧Be w w'
attribute [local irreducible] vecL authorOk numM nextF
theorem pput_any(f:VecM)(hf:∀ a,f a≤60000)(p:PidM)(w:World)(ha:authorOk p.author=true)(hp:nextF f p.author=p):Calls Tryz.prog 64 #[vecV f,pidV p] w (PutOk f p w):=by
 have hpa:=authorOk_pos ha;have HF:=Lh hf;have HP0:=Lh hp;have hne:¬ p=noPid:=fun e=>by rw [e] at hpa;exact absurd hpa.1 (by decide)
 have e1:∀ w,(binOp .eql 25 (.agg (cP p)) (.agg #[.int .u8 0,.int .u16 0])).run Tryz.prog w=.ok (.bool false) w:=eql_pid p noPid false (by simp [hne]);have e2:=neq_pid p p false (by simp);unfold pidV at e2;clear hne;have gd:=fun p q xs ys w=>guard_pid .eql p q xs ys w;have gd2:=fun p q xs ys w=>guard_pid .neq p q xs ys w;clear hf hp;unfold pidV;go_enter Tryz.func64,Tryz.ntmps64;go_upto_region 1 with fail;refine code_gen (fun w0=>∃ zs:List Value,zs.length=64∧Arr w0 (w.heap.size+1+1) zs∧Arr w0 w.heap.size (vecL f)∧Arr w0 (w.heap.size+1) [.int .u8 p.author.toNat,.int .u16 p.seq.toNat]∧Be w w0)
  (by
   refine⟨_,?_,arr_new3 w (.cells (vecL f).toArray 54) (.cells (cP p) 25) _ _,((anw w (vecL f).toArray _).alloc _).alloc _,(an2 w (.cells (vecL f).toArray 54) _ _).alloc _,((bnew (w:=w) _).alloc (by simp) _).alloc (by simp;omega) _⟩
   rfl) ?_
 rintro w0 ⟨zs,hzl,hR,hA,hP,hB⟩;have HR:=Lh hR;have HA:=Lh hA;have HP:=Lh hP;have HB:=Lh hB;clear hR hA hP hB;obtain⟨p0,p1,sp⟩:=HP.o.c2;refine wlo 11 fun hcur=>?_;repeat(first|(refine lxs rfl rfl ?_;simp only [Act.put,Sib,Scs,Scz])|((with_reducible refine lex_load_row rowVec rfl _ rfl rfl rfl (fun w' hw'=>HA.o.over (isOver_below hw')) (vecL_len f) ?_);simp only [Act.put,Sib,Scs,Scz])|(refine lxo rfl ?_;go_big_quiet_step (fail);refine wpQuiet_nil ?_)|(refine lxl rfl ?_;go_wp2_with (first|(go_at_call 49;(with_reducible refine(pnext_any f HF.o p.author _).mono ?_);rintro e wA ⟨rfl,hb⟩;rw [HP0.o];have hcur:=bvo hcur hb));refine⟨iov hcur,?_⟩))
 refine lxe ?_;have HB1:=Lh (bvo HB.o hcur);have HA1:=Lh (HA.o.over hcur);have HP1:=Lh (HP.o.over hcur);have HR1:=Lh (HR.o.over hcur);have HVS:=Lh (vecL_set f p.author p.seq.toNat hpa.1 hpa.2);have HVG:=Lh (vecL_get f p.author hpa.1 hpa.2);clear hcur p0 p1 sp;obtain⟨p0,p1,sp⟩:=HP1.o.c2;have c0:=HA1.o.cell HVG.o;have f0:=HA1.o.free (p.author.toNat - 1);have HA2:Hid (Arr (wA.setCell ⟨w.heap.size,p.author.toNat - 1,none⟩ (.int .u16 p.seq.toNat)) w.heap.size (vecL (setV f p.author p.seq.toNat))):=by have:=HA1.o.set (p.author.toNat - 1) (.int .u16 p.seq.toNat);rw [HVS.o] at this;exact this
 have HR2:Hid (Arr (wA.setCell ⟨w.heap.size,p.author.toNat - 1,none⟩ (.int .u16 p.seq.toNat)) (w.heap.size+1+1) zs):=HR1.o.set_other (a:=⟨w.heap.size,p.author.toNat - 1,none⟩) (by simp;omega) _;have HB2:=Lh (HB1.o.setCell (p:=⟨w.heap.size,p.author.toNat - 1,none⟩) (Nat.le_refl _) (.int .u16 p.seq.toNat));obtain⟨n,hn⟩:∃ n,p.author.toNat=n+1:=⟨p.author.toNat - 1,by omega⟩;have HNn:=Lh hn;have hn64:n<64:=by omega
 rw [hn] at p0;rw [hn,Nat.add_sub_cancel] at c0 f0 HA2 HR2 HB2;have sA:=HA1.o.lt;clear hn;go_upto_region 4 with fail;generalize wA.setCell ⟨w.heap.size,n,none⟩ (.int .u16 p.seq.toNat)=w3 at *;clear p0 p1 sp c0 f0;go_wp2_with (first|(refine wpList_load_arr rowVec rfl _ rfl _ _ HA2.o rfl (vecL_len _) ?_)|(refine wpList_put_arr rowVec rfl _ _ rfl _ _ _ HR2.o rfl rfl hzl (vecL_len _) (vecL_one _) ?_;intro w4 HR4 _ hb4 hs4));exact bodyPost_ret (v:=.tuple #[.agg (vecL (setV f p.author p.seq.toNat)).toArray,.bool true]) (rasl rowVec rfl HR4 rfl (vecL_len _) rfl) rfl ⟨rfl,hb4 _ _ (by show w.heap.size≤w.heap.size+1+1;omega) HB2.o⟩
end Go.Proofs.YtjccmcgglfncdaaGreatDoor
