/- Vectors: arrays of 64 numbers; contracts of package vec and of its reference, as far as graphs ask. Contracts of vec.Next, Put; of the reference's Of, Next, Put. Contracts of vec.Put; of the reference's Of, Next, Put. -/
import Derived.Test.YtllcipobiengiaaGreatXRDeps
import Derived.Test.YtllcipobiengiaaGreatXGrQ
set_option linter.unusedVariables false
set_option linter.unusedSimpArgs false
namespace Go.Proofs.YtllcipobiengiaaGreat
open Go Go.RowKit

section
variable {P : Program} {ty : TypeId} {size : Nat} {w : World} {ops : Array Oper} {rest : List Oper} {o : Oper} {a : Act} {Q : Exit → Act → World → Prop}
theorem run_load_row(T:RowT P ty size){g:Nat}{cs:List Value}(hA:Arr w g cs)(hl:cs.length=size):(loadVar ty ⟨g,0,none⟩).run P w=.ok (.agg cs.toArray) w:=by
 obtain⟨d,i,h1,h2,h3,h4⟩:=T.out
 obtain⟨e,hg⟩:=hA
 exact run_loadVar_row w g e ty cs.toArray (0,0) d hg h1 (by cases d <;> simp_all [isRowD]) (by rw [h3];simp [h4,hl])
theorem lex_load_row{C:World→Prop}{loud:Nat→Bool}{Q:Act→World→Prop}(T:RowT P ty size){k:Nat}{l:List Oper}(hl:loud k=false)(x:Operand)(ho:o.op=.load ty x)
  (hw:Region.wanted o (yielded ops a.tmps)=true) {g:Nat} {cs:List Value} (hx:a.eval x=.pointer (some ⟨g,0,none⟩)) (hA:∀ w',C w'→Arr w' g cs) (hlen:cs.length=size)
  (h:wpLex P ops C loud Q (k+1) l (a.put o.dst (.agg cs.toArray)) w):wpLex P ops C loud Q k (o :: l) a w:=by
 unfold wpLex
 rw [if_pos hw,hl]
 refine⟨.agg cs.toArray,fun w' hw' => ?_,h⟩
 unfold Oper.quietAt execOp
 simp only [ho,hx,Instr.loadAt,Instr.sureAddr,Sem.run_bind,Sem.run_pure,Result.andThen_ok,run_load_row T (hA w' hw') hlen]
 exact⟨rfl,rfl⟩
/-- .. behind a guard that lets it by -/
theorem wpList_load_arrG(T:RowT P ty size)(hw:Region.wanted o (yielded ops a.tmps)=true)(x:Operand)(ho:o.op=.load ty x)(g:Nat)(cs:List Value)(hA:Arr w g cs)(hx:a.eval x=.pointer (some ⟨g,0,none⟩))(hl:cs.length=size)
  (h:wpList P ops Q rest (a.put o.dst (.agg cs.toArray)) w):wpList P ops Q (o :: rest) a w:=by
 refine wpList_step fun K hK => ?_
 rw [if_pos hw]
 unfold Oper.wp execOp
 simp only [ho,hx,Instr.loadAt,Instr.sureAddr,Sem.run_bind,Sem.run_pure,Result.andThen_ok,run_load_row T hA hl]
 exact hK _ _ h
/-- an array that begins a block -/
theorem run_load_part(hag:∀ w,(isAgg ty).run P w=.ok true w)(hsz:∀ w,(Go.sizeOf ty).run P w=.ok size w){g:Nat}{cs more:List Value}(hA:Arr w g (cs++more))(hl:cs.length=size):(loadVar ty ⟨g,0,none⟩).run P w=.ok (.agg cs.toArray) w:=by
 have h:=run_loadCells_list (P:=P) (w:=w) ⟨g,0,none⟩ cs (fun j v hv=>by
  have:=hA.cell (j:=j) (u:=v) (by rw [List.getElem?_append_left (List.getElem?_eq_some_iff.1 hv).1];exact hv)
  rw [Addr.add_lit,Nat.zero_add];exact this)
 rw [hl] at h
 simp [loadVar,hag,hsz,h]
theorem lex_load_part{C:World→Prop}{loud:Nat→Bool}{Q:Act→World→Prop}(hag:∀ w,(isAgg ty).run P w=.ok true w)(hsz:∀ w,(Go.sizeOf ty).run P w=.ok size w){k:Nat}{l:List Oper}(hl:loud k=false)(x:Operand)(ho:o.op=.load ty x)
  (hw:Region.wanted o (yielded ops a.tmps)=true) {g:Nat} {cs more:List Value} (hx:a.eval x=.pointer (some ⟨g,0,none⟩)) (hA:∀ w',C w'→Arr w' g (cs++more)) (hlen:cs.length=size)
  (h:wpLex P ops C loud Q (k+1) l (a.put o.dst (.agg cs.toArray)) w):wpLex P ops C loud Q k (o :: l) a w:=by
 unfold wpLex
 rw [if_pos hw,hl]
 refine⟨.agg cs.toArray,fun w' hw' => ?_,h⟩
 unfold Oper.quietAt execOp
 simp only [ho,hx,Instr.loadAt,Instr.sureAddr,Sem.run_bind,Sem.run_pure,Result.andThen_ok,run_load_part hag hsz (hA w' hw') hlen]
 exact⟨rfl,rfl⟩
theorem wpList_store_part(T:RowT P ty size)(hgd:o.guard=none)(x y:Operand)(ho:o.op=.store ty x y)(g:Nat)(cs more new:List Value)(hA:Arr w g (cs++more))(hx:a.eval x=.pointer (some ⟨g,0,none⟩))
  (hy:a.eval y=.agg new.toArray) (hl:cs.length=size) (hn:new.length=size) (h1:new.all (fun u=>u.oneCell')=true)
  (h:Arr (w.setRow g (new++more).toArray) g (new++more)→w.grownBy (w.setRow g (new++more).toArray) (some g)→(w.setRow g (new++more).toArray).heap.size=w.heap.size→wpList P ops Q rest (a.put o.dst undef) (w.setRow g (new++more).toArray)):wpList P ops Q (o :: rest) a w:=by
 refine wpList_plain hgd fun K hK => ?_
 have hA':=hA
 obtain⟨d,i,_,_,h3,h4⟩:=T.out
 obtain⟨e,hg⟩:=hA
 have hs:=run_storeCells_at (P:=P) g 0 e new 0 (cs++more).toArray w hg (by simp;omega) (fun v hv=>List.all_eq_true.1 h1 v hv)
 have ht:((cs++more).toArray.toList.take (0+0)++new++(cs++more).toArray.toList.drop (0+0+new.length)).toArray=(new++more).toArray:=by
  simp only [Nat.zero_add,List.take_zero,List.nil_append]
  rw [hn,← hl,List.drop_append_of_le_length (Nat.le_refl _),List.drop_length,List.nil_append]
 rw [ht] at hs
 have hc:(Value.agg new.toArray).cells=new.toArray:=rfl
 have hr:(storeVar ty ⟨g,0,none⟩ (.agg new.toArray)).run P w=.ok () (w.setRow g (new++more).toArray):=by simp [storeVar,sizeOf,typeInfo,h3,h4,hc,hn,hs]
 unfold Oper.wp execOp
 simp only [ho,hx,hy,Instr.storeAt,Instr.sureAddr,Sem.run_bind,Sem.run_pure,Result.andThen_ok,hr]
 exact hK _ _ (h (hA'.row _) (grown_row _) (by simp))
end

/-- a world of which some facts are told is given a name -/
theorem code_gen{P:Program}{c:Code}{Q:Exit→Act→World→Prop}{a:Act}{w:World}(F:World→Prop)(hF:F w)(h:∀ w0,F w0→c.wp P Q a w0):c.wp P Q a w:=h w hF

/-! ### vectors -/
def vecL(f:VecM):List Value:=(List.range 64).map fun i=>.int .u16 ((f (UInt8.ofNat (i+1)):Nat):Int)
abbrev vecV(f:VecM):Value:=.agg (vecL f).toArray
theorem vecL_len(f:VecM):(vecL f).length=64:=by simp [vecL]
theorem vecL_one(f:VecM):(vecL f).all (fun u=>u.oneCell')=true:=by
 rw [List.all_eq_true]
 intro u hu
 obtain⟨i,_,rfl⟩:=List.mem_map.1 hu
 rfl
theorem vecL_get(f:VecM)(a:UInt8)(h1:1≤a.toNat)(h2:a.toNat≤64):(vecL f)[a.toNat - 1]? = some (.int .u16 ((f a:Nat):Int)):=by
 unfold vecL
 rw [List.getElem?_map,List.getElem?_range (by omega)]
 simp only [Option.map_some]
 have:UInt8.ofNat (a.toNat - 1+1)=a:=by
  apply UInt8.toNat_inj.1;simp;omega
 rw [this]
def setV(f:VecM)(a:UInt8)(n:Nat):VecM:=fun b=>if b=a then n else f b
theorem vecL_set(f:VecM)(a:UInt8)(n:Nat)(h1:1≤a.toNat)(h2:a.toNat≤64):(vecL f).set (a.toNat - 1) (.int .u16 n)=vecL (setV f a n):=by
 apply List.ext_getElem?
 intro t
 rw [List.getElem?_set]
 by_cases ht:t<64
 ·
  have e1:(vecL f)[t]? = some (.int .u16 ((f (UInt8.ofNat (t+1)):Nat):Int)):=by unfold vecL;rw [List.getElem?_map,List.getElem?_range ht];rfl
  have e2:(vecL (setV f a n))[t]? = some (.int .u16 ((setV f a n (UInt8.ofNat (t+1)):Nat):Int)):=by unfold vecL;rw [List.getElem?_map,List.getElem?_range ht];rfl
  rw [e1,e2]
  unfold setV
  by_cases h:a.toNat - 1=t
  ·
   have:UInt8.ofNat (t+1)=a:=by apply UInt8.toNat_inj.1;simp;omega
   rw [if_pos h,if_pos this,if_pos (by rw [vecL_len];omega)]
  ·
   have:¬ UInt8.ofNat (t+1)=a:=fun e=>h (by rw [← e];simp;omega)
   rw [if_neg h,if_neg this]
 ·
  rw [if_neg (by omega),List.getElem?_eq_none (by rw [vecL_len];omega),List.getElem?_eq_none (by rw [vecL_len];omega)]
theorem rowVec:RowT Tryz.prog 69 64:=rowT_of Tryz.underlying69 rfl (by kernel_rfl)
theorem rowPid:RowT Tryz.prog 26 2:=rowT_of Tryz.underlying26 rfl (by kernel_rfl)
def numM(f:VecM)(a:UInt8):Nat:=if authorOk a=true then f a else 0
def hasF(f:VecM)(p:PidM):Bool:=authorOk p.author && (decide (1≤p.seq.toNat) && decide (p.seq.toNat≤f p.author))
def nextF(f:VecM)(a:UInt8):PidM:=if authorOk a=true∧f a<60000 then⟨a,UInt16.ofNat (f a+1)⟩ else noPid
theorem authorOk_yes{a:UInt8}(h1:1≤a.toNat)(h2:a.toNat≤64):authorOk a=true:=by unfold authorOk;simp [h1,h2]
theorem authorOk_lo{a:UInt8}(h1:¬ 1≤a.toNat):authorOk a=false:=by unfold authorOk;simp;omega
theorem authorOk_hi{a:UInt8}(h1:¬ a.toNat≤64):authorOk a=false:=by unfold authorOk;simp;omega
theorem num_yes(f:VecM){a:UInt8}(h:authorOk a=true):numM f a=f a:=by unfold numM;rw [if_pos h]
theorem num_no(f:VecM){a:UInt8}(h:authorOk a=false):numM f a=0:=by unfold numM;rw [if_neg (by simp [h])]
def NumRes(w:World)(f:VecM)(a:UInt8)(e:Ending)(w':World):Prop:=e=.returned (.tuple #[.int .u16 ((numM f a:Nat):Int),.bool (authorOk a)])∧Below w.heap.size w w'
attribute [local irreducible] vecL authorOk numM
set_option maxHeartbeats 4000000 in
set_option maxRecDepth 100000 in
theorem pnumber_any(f:VecM)(a:UInt8)(w:World):Calls Tryz.prog 160 #[vecV f,.int .u8 a.toNat] w (NumRes w f a):=by
 have hal:=a.toNat_lt
 have HA:=Lib.hid (arr_new w (vecL f).toArray 69)
 have HB:=Lib.hid (below_new (w:=w) (.cells (vecL f).toArray 69))
 unfold vecV
 by_cases h1:1≤a.toNat
 ·
  have d1:decide ((a.toNat:Int)<1)=false:=by simp;omega
  by_cases h2:a.toNat≤64
  ·
   have d2:decide ((64:Int)<(a.toNat:Int))=false:=by simp;omega
   have HK:=Lib.hid (authorOk_yes h1 h2)
   have HN:=Lib.hid (num_yes f HK.out)
   have hc:=HA.out.cell (vecL_get f a h1 h2)
   have hs:=HA.out.lt
   obtain⟨n,hn⟩:∃ n,a.toNat=n+1:=⟨a.toNat - 1,by omega⟩
   rw [hn] at hc d1 d2 hal h1 h2 ⊢
   simp only [Nat.add_sub_cancel] at hc
   have HNn:=Lib.hid hn
   clear hn
   go_enter Tryz.func160,Tryz.ntmps160
   go_wp2_with fail
   go_ret2
   exact⟨(by rw [HN.out,HK.out];rfl),HB.out⟩
  ·
   have d2:decide ((64:Int)<(a.toNat:Int))=true:=by simp;omega
   have HK:=Lib.hid (authorOk_hi h2)
   have HN:=Lib.hid (num_no f HK.out)
   go_enter Tryz.func160,Tryz.ntmps160
   go_wp2_with fail
   go_ret2
   exact⟨(by rw [HN.out,HK.out];rfl),HB.out⟩
 ·
  have d1:decide ((a.toNat:Int)<1)=true:=by simp;omega
  have HK:=Lib.hid (authorOk_lo h1)
  have HN:=Lib.hid (num_no f HK.out)
  go_enter Tryz.func160,Tryz.ntmps160
  go_wp2_with fail
  go_ret2
  exact⟨(by rw [HN.out,HK.out];rfl),HB.out⟩
theorem has_1{f:VecM}{p:PidM}(h:authorOk p.author=false):hasF f p=false:=by unfold hasF;rw [h];rfl
theorem has_2{f:VecM}{p:PidM}(h:¬ 1≤p.seq.toNat):hasF f p=false:=by unfold hasF;simp [h]
theorem has_3{f:VecM}{p:PidM}(h:¬ p.seq.toNat≤f p.author):hasF f p=false:=by unfold hasF;simp [h]
theorem has_4{f:VecM}{p:PidM}(h1:authorOk p.author=true)(h2:1≤p.seq.toNat)(h3:p.seq.toNat≤f p.author):hasF f p=true:=by unfold hasF;rw [h1];simp [h2,h3]
attribute [local irreducible] hasF
set_option maxHeartbeats 4000000 in
set_option maxRecDepth 100000 in
theorem phas_any(f:VecM)(p:PidM)(w:World):Calls Tryz.prog 117 #[vecV f,pidV p] w fun e w'=>e=.returned (.bool (hasF f p))∧Below w.heap.size w w':=by
 have HA:=Lib.hid ((arr_new w (vecL f).toArray 69).alloc (.cells #[.int .u8 p.author.toNat,.int .u16 p.seq.toNat] 26))
 have HP:=Lib.hid (arr_new2 w (.cells (vecL f).toArray 69) #[.int .u8 p.author.toNat,.int .u16 p.seq.toNat] 26)
 have HB:=Lib.hid ((below_new (w:=w) (.cells (vecL f).toArray 69)).alloc (by simp) (.cells #[.int .u8 p.author.toNat,.int .u16 p.seq.toNat] 26))
 unfold pidV
 go_enter Tryz.func117,Tryz.ntmps117
 go_upto_region 1 with(fail)
 generalize hw0:(w.alloc (.cells (vecL f).toArray 69)).alloc (.cells #[.int .u8 p.author.toNat,.int .u16 p.seq.toNat] 26)=w0 at *
 clear hw0
 have p0:=HP.out.cell (j:=0) rfl
 have p1:=HP.out.cell (j:=1) rfl
 have sp:=HP.out.lt
 go_wp2_with (refine wpList_load_arr rowVec rfl _ rfl _ _ HA.out rfl (vecL_len f) ?_)
 refine(pnumber_any f p.author _).mono ?_
 rintro e w1 ⟨rfl,hb1⟩
 have HB1:=Lib.hid (below_over HB.out HB.out.size hb1)
 have HP1:=Lib.hid (HP.out.over hb1)
 clear hb1 p0 p1 sp
 have p0:=HP1.out.cell (j:=0) rfl
 have p1:=HP1.out.cell (j:=1) rfl
 have sp:=HP1.out.lt
 cases hk:authorOk p.author with
 | false =>
  have HH:=Lib.hid (has_1 (f:=f) hk)
  clear hk
  go_wp2_with fail
  go_ret
  exact⟨ret_val (congrArg Value.bool HH.out.symm),HB1.out⟩
 | true =>
  by_cases h2:1≤p.seq.toNat
  ·
   have d2:decide ((1:Int)≤(p.seq.toNat:Int))=true:=by simp;omega
   have hnum:=num_yes f hk
   by_cases h3:p.seq.toNat≤f p.author
   ·
    have d3:decide (p.seq.toNat≤numM f p.author)=true:=by rw [hnum];simpa using h3
    have HH:=Lib.hid (has_4 hk h2 h3)
    clear hk hnum
    go_wp2_with fail
    go_ret
    exact⟨ret_val (congrArg Value.bool HH.out.symm),HB1.out⟩
   ·
    have d3:decide (p.seq.toNat≤numM f p.author)=false:=by rw [hnum];simpa using h3
    have HH:=Lib.hid (has_3 h3)
    clear hk hnum
    go_wp2_with fail
    go_ret
    exact⟨ret_val (congrArg Value.bool HH.out.symm),HB1.out⟩
  ·
   have d2:decide ((1:Int)≤(p.seq.toNat:Int))=false:=by simp;omega
   have HH:=Lib.hid (has_2 (f:=f) h2)
   clear hk
   go_wp2_with fail
   go_ret
   exact⟨ret_val (congrArg Value.bool HH.out.symm),HB1.out⟩
end Go.Proofs.YtllcipobiengiaaGreat
namespace Go.Proofs.YtllcipobiengiaaGreat
open Go Go.RowKit

theorem nextF_yes{f:VecM}{a:UInt8}(h1:authorOk a=true)(h2:f a<60000):nextF f a=⟨a,UInt16.ofNat (f a+1)⟩:=by unfold nextF;rw [if_pos ⟨h1,h2⟩]
theorem nextF_no1{f:VecM}{a:UInt8}(h1:authorOk a=false):nextF f a=noPid:=by unfold nextF;rw [if_neg (fun h=>by rw [h1] at h;exact absurd h.1 (by decide))]
theorem nextF_no2{f:VecM}{a:UInt8}(h2:¬ f a<60000):nextF f a=noPid:=by unfold nextF;rw [if_neg (fun h=>h2 h.2)]
theorem authorOk_pos{a:UInt8}(h:authorOk a=true):1≤a.toNat∧a.toNat≤64:=by unfold authorOk at h;simp at h;exact h
theorem pidV_next{f:VecM}{a:UInt8}(h1:authorOk a=true)(h2:f a<60000):pidV (nextF f a)=.agg #[.int .u8 a.toNat,.int .u16 ((f a:Int)+1)]:=by
 rw [nextF_yes h1 h2]
 unfold pidV
 have:((UInt16.ofNat (f a+1)).toNat:Int)=(f a:Int)+1:=by simp;omega
 rw [this]
attribute [local irreducible] vecL authorOk numM nextF
set_option maxHeartbeats 4000000 in
set_option maxRecDepth 100000 in
theorem pnext_any(f:VecM)(hf:∀ a,f a≤60000)(a:UInt8)(w:World):Calls Tryz.prog 118 #[vecV f,.int .u8 a.toNat] w fun e w'=>e=.returned (pidV (nextF f a))∧Below w.heap.size w w':=by
 have hfa:=hf a
 have HA:=Lib.hid ((arr_new w (vecL f).toArray 69).alloc (.cells #[.int .u8 0,.int .u16 0] 26))
 have HR:=Lib.hid (arr_new2 w (.cells (vecL f).toArray 69) #[.int .u8 0,.int .u16 0] 26)
 have HB:=Lib.hid ((below_new (w:=w) (.cells (vecL f).toArray 69)).alloc (by simp) (.cells #[.int .u8 0,.int .u16 0] 26))
 clear hf
 go_enter Tryz.func118,Tryz.ntmps118
 go_upto_region 1 with(fail)
 generalize hw0:(w.alloc (.cells (vecL f).toArray 69)).alloc (.cells #[.int .u8 0,.int .u16 0] 26)=w0 at *
 clear hw0
 go_wp2_with (refine wpList_load_arr rowVec rfl _ rfl _ _ HA.out rfl (vecL_len f) ?_)
 refine(pnumber_any f a _).mono ?_
 rintro e w1 ⟨rfl,hb1⟩
 have HB1:=Lib.hid (below_over HB.out HB.out.size hb1)
 have HR1:=Lib.hid (HR.out.over hb1)
 clear hb1
 have r0:=HR1.out.cell (j:=0) rfl
 have r1:=HR1.out.cell (j:=1) rfl
 have f0:=HR1.out.free 0
 have f1:=HR1.out.free 1
 have sr:=HR1.out.lt
 cases hk:authorOk a with
 | false =>
  have HN:=Lib.hid (nextF_no1 (f:=f) hk)
  have HF:=Lib.hid ((HR1.out.set 0 (.int .u8 0)).set 1 (.int .u16 0))
  have HBF:=Lib.hid ((HB1.out.setCell (p:=⟨w.heap.size+1,0,none⟩) (by simp) (.int .u8 0)).setCell (p:=⟨w.heap.size+1,1,none⟩) (by simp) (.int .u16 0))
  clear hk
  go_wp2_with fail
  exact bodyPost_ret (v:=.agg #[.int .u8 0,.int .u16 0]) (results_arr rowPid rfl HF.out rfl rfl) rfl ⟨by rw [HN.out];rfl,HBF.out⟩
 | true =>
  have hnum:=num_yes f hk
  by_cases h2:f a<60000
  ·
   have d2:decide ((60000:Int)≤(numM f a:Int))=false:=by rw [hnum];simp;omega
   have hfi:(f a:Int)<60000:=by omega
   have hf0:(0:Int)≤(f a:Int):=by omega
   have HN:=Lib.hid (pidV_next hk h2)
   have HF:=Lib.hid ((HR1.out.set 0 (.int .u8 a.toNat)).set 1 (.int .u16 ((f a:Int)+1)))
   have HBF:=Lib.hid ((HB1.out.setCell (p:=⟨w.heap.size+1,0,none⟩) (by simp) (.int .u8 a.toNat)).setCell (p:=⟨w.heap.size+1,1,none⟩) (by simp) (.int .u16 ((f a:Int)+1)))
   have HNu:=Lib.hid hnum
   rw [hnum] at d2 ⊢
   clear hk hnum hfa h2
   go_wp2_with fail
   exact bodyPost_ret (v:=.agg #[.int .u8 a.toNat,.int .u16 ((f a:Int)+1)]) (results_arr rowPid rfl HF.out rfl rfl) rfl ⟨by rw [HN.out],HBF.out⟩
  ·
   have d2:decide ((60000:Int)≤(numM f a:Int))=true:=by rw [hnum];simp;omega
   have HN:=Lib.hid (nextF_no2 h2)
   have HF:=Lib.hid ((HR1.out.set 0 (.int .u8 0)).set 1 (.int .u16 0))
   have HBF:=Lib.hid ((HB1.out.setCell (p:=⟨w.heap.size+1,0,none⟩) (by simp) (.int .u8 0)).setCell (p:=⟨w.heap.size+1,1,none⟩) (by simp) (.int .u16 0))
   rw [hnum] at d2 ⊢
   clear hk hnum hfa h2
   go_wp2_with fail
   exact bodyPost_ret (v:=.agg #[.int .u8 0,.int .u16 0]) (results_arr rowPid rfl HF.out rfl rfl) rfl ⟨by rw [HN.out];rfl,HBF.out⟩
end Go.Proofs.YtllcipobiengiaaGreat
namespace Go.Proofs.YtllcipobiengiaaGreat
open Go Go.RowKit

theorem results_arr_slot{P:Program}{w:World}{ty:TypeId}{size:Nat}(T:RowT P ty size){fn:Func}{p q:Tmp}(h:fn.results=#[.cell p ty,.tmp q]){tmps:Array Value}{g:Nat}{cs:List Value}(hA:Arr w g cs)(hp:tmps.getD p undef=.pointer (some ⟨g,0,none⟩))(hl:cs.length=size){u:Value}(hq:tmps.getD q undef=u) :
  (results fn tmps).run P w=.ok (.tuple #[.agg cs.toArray,u]) w:=by
 obtain⟨d,i,h1,h2,h3,h4⟩:=T.out
 obtain⟨e,hg⟩:=hA
 subst hq
 have hp':tmps[p]?.getD undef=.pointer (some ⟨g,0,none⟩):=by simpa using hp
 simp [results,h,hp',asAddr,run_loadVar_row w g e ty cs.toArray (0,0) d hg h1 (by cases d <;> simp_all [isRowD]) (by rw [h3];simp [h4,hl])]
def PutOk(f:VecM)(p:PidM)(w:World)(e:Ending)(w':World):Prop:=e=.returned (.tuple #[vecV (setV f p.author p.seq.toNat),.bool true])∧Below w.heap.size w w'
attribute [local irreducible] vecL authorOk numM nextF
set_option maxHeartbeats 4000000 in
set_option maxRecDepth 100000 in
theorem pput_any(f:VecM)(hf:∀ a,f a≤60000)(p:PidM)(w:World)(ha:authorOk p.author=true)(hp:nextF f p.author=p):Calls Tryz.prog 70 #[vecV f,pidV p] w (PutOk f p w):=by
 have hpa:=authorOk_pos ha
 have HF:=Lib.hid hf
 have HP0:=Lib.hid hp
 have hne:¬ p=noPid:=fun e=>by rw [e] at hpa;exact absurd hpa.1 (by decide)
 have e1:∀ w,(binOp .eql 26 (.agg #[.int .u8 p.author.toNat,.int .u16 p.seq.toNat]) (.agg #[.int .u8 0,.int .u16 0])).run Tryz.prog w=.ok (.bool false) w:=eql_pid p noPid false (by simp [hne])
 have e2:=neq_pid p p false (by simp)
 unfold pidV at e2
 clear hne
 have gd:=fun p q xs ys w=>guard_pid .eql p q xs ys w
 have gd2:=fun p q xs ys w=>guard_pid .neq p q xs ys w
 clear hf hp
 unfold pidV
 go_enter Tryz.func70,Tryz.ntmps70
 go_upto_region 1 with(fail)
 refine code_gen (fun w0=>∃ zs:List Value,zs.length=64∧Arr w0 (w.heap.size+1+1) zs∧Arr w0 w.heap.size (vecL f)∧Arr w0 (w.heap.size+1) [.int .u8 p.author.toNat,.int .u16 p.seq.toNat]∧Below w.heap.size w w0)
  (by
   refine⟨_,?_,arr_new3 w (.cells (vecL f).toArray 69) (.cells #[.int .u8 p.author.toNat,.int .u16 p.seq.toNat] 26) _ _,((arr_new w (vecL f).toArray _).alloc _).alloc _,(arr_new2 w (.cells (vecL f).toArray 69) _ _).alloc _,((below_new (w:=w) _).alloc (by simp) _).alloc (by simp;omega) _⟩
   rfl) ?_
 rintro w0 ⟨zs,hzl,hR,hA,hP,hB⟩
 have HR:=Lib.hid hR
 have HA:=Lib.hid hA
 have HP:=Lib.hid hP
 have HB:=Lib.hid hB
 clear hR hA hP hB
 have p0:=HP.out.cell (j:=0) rfl
 have p1:=HP.out.cell (j:=1) rfl
 have sp:=HP.out.lt
 have hcur:Below w0.heap.size w0 w0.drew:=(Below.refl _ _).drew
 refine wp_region_lex (C:=IsOver w0) 11 [] (by kernel_rfl) (by kernel_rfl) (isOver_of hcur) ?_
 simp only [List.take_succ_cons,List.take_zero,List.drop_succ_cons,List.drop_zero]
 repeat(first|(refine lex_skip rfl rfl ?_;simp only [Act.put,List.setIfInBounds_toArray,List.set_cons_succ,List.set_cons_zero])|((with_reducible refine lex_load_row rowVec rfl _ rfl rfl rfl (fun w' hw'=>HA.out.over (isOver_below hw')) (vecL_len f) ?_);simp only [Act.put,List.setIfInBounds_toArray,List.set_cons_succ,List.set_cons_zero])|(refine lex_one rfl ?_;go_big_quiet_step (fail);refine wpQuiet_nil ?_)|(refine lex_loud rfl ?_;go_wp2_with (first|(go_at_call 118;(with_reducible refine(pnext_any f HF.out p.author _).mono ?_);rintro e wA ⟨rfl,hb⟩;rw [HP0.out];replace hcur:=below_over hcur hcur.size hb;clear hb));refine⟨isOver_of hcur,?_⟩))
 refine lex_end ?_
 have HB1:=Lib.hid (below_over HB.out HB.out.size hcur)
 have HA1:=Lib.hid (HA.out.over hcur)
 have HP1:=Lib.hid (HP.out.over hcur)
 have HR1:=Lib.hid (HR.out.over hcur)
 have HVS:=Lib.hid (vecL_set f p.author p.seq.toNat hpa.1 hpa.2)
 have HVG:=Lib.hid (vecL_get f p.author hpa.1 hpa.2)
 clear hcur p0 p1 sp
 have p0:=HP1.out.cell (j:=0) rfl
 have p1:=HP1.out.cell (j:=1) rfl
 have sp:=HP1.out.lt
 have c0:=HA1.out.cell HVG.out
 have f0:=HA1.out.free (p.author.toNat - 1)
 have HA2:Hid (Arr (wA.setCell ⟨w.heap.size,p.author.toNat - 1,none⟩ (.int .u16 p.seq.toNat)) w.heap.size (vecL (setV f p.author p.seq.toNat))):=by
  have:=HA1.out.set (p.author.toNat - 1) (.int .u16 p.seq.toNat)
  rw [HVS.out] at this;exact this
 have HR2:Hid (Arr (wA.setCell ⟨w.heap.size,p.author.toNat - 1,none⟩ (.int .u16 p.seq.toNat)) (w.heap.size+1+1) zs):=HR1.out.set_other (a:=⟨w.heap.size,p.author.toNat - 1,none⟩) (by simp;omega) _
 have HB2:=Lib.hid (HB1.out.setCell (p:=⟨w.heap.size,p.author.toNat - 1,none⟩) (Nat.le_refl _) (.int .u16 p.seq.toNat))
 obtain⟨n,hn⟩:∃ n,p.author.toNat=n+1:=⟨p.author.toNat - 1,by omega⟩
 have HNn:=Lib.hid hn
 have hn64:n<64:=by omega
 rw [hn] at p0
 rw [hn,Nat.add_sub_cancel] at c0 f0 HA2 HR2 HB2
 have sA:=HA1.out.lt
 clear hn
 go_upto_region 4 with(fail)
 generalize hw3:wA.setCell ⟨w.heap.size,n,none⟩ (.int .u16 p.seq.toNat)=w3 at *
 clear hw3 p0 p1 sp c0 f0
 go_wp2_with (first|(refine wpList_load_arr rowVec rfl _ rfl _ _ HA2.out rfl (vecL_len _) ?_)|(refine wpList_put_arr rowVec rfl _ _ rfl _ _ _ HR2.out rfl rfl hzl (vecL_len _) (vecL_one _) ?_;intro w4 HR4 _ hb4 hs4))
 exact bodyPost_ret (v:=.tuple #[.agg (vecL (setV f p.author p.seq.toNat)).toArray,.bool true]) (results_arr_slot rowVec rfl HR4 rfl (vecL_len _) rfl) rfl ⟨rfl,hb4 _ _ (by show w.heap.size≤w.heap.size+1+1;omega) HB2.out⟩

set_option maxHeartbeats 4000000 in
set_option maxRecDepth 100000 in
theorem rvof_any(f:VecM)(a:UInt8)(w:World)(hfa:f a≤60000):Calls Tryz.prog 68 #[vecV f,.int .u8 a.toNat] w fun e w'=>e=.returned (.int .i64 ((numM f a:Nat):Int))∧Below w.heap.size w w':=by
 have hal:=a.toNat_lt
 have hfi:(f a:Int)≤60000:=by omega
 have hf0:(0:Int)≤(f a:Int):=by omega
 have HA:=Lib.hid (arr_new w (vecL f).toArray 69)
 have HB:=Lib.hid (below_new (w:=w) (.cells (vecL f).toArray 69))
 unfold vecV
 by_cases h1:1≤a.toNat
 ·
  have d1:decide ((a.toNat:Int)<1)=false:=by simp;omega
  by_cases h2:a.toNat≤64
  ·
   have d2:decide ((64:Int)<(a.toNat:Int))=false:=by simp;omega
   have HN:=Lib.hid (num_yes f (authorOk_yes h1 h2))
   have hc:=HA.out.cell (vecL_get f a h1 h2)
   have hs:=HA.out.lt
   obtain⟨n,hn⟩:∃ n,a.toNat=n+1:=⟨a.toNat - 1,by omega⟩
   rw [hn] at hc d1 d2 hal h1 h2 ⊢
   simp only [Nat.add_sub_cancel] at hc
   have HNn:=Lib.hid hn
   clear hn
   go_enter Tryz.func68,Tryz.ntmps68
   go_wp2_with fail
   go_ret
   exact⟨ret_int (by rw [HN.out]),HB.out⟩
  ·
   have d2:decide ((64:Int)<(a.toNat:Int))=true:=by simp;omega
   have HN:=Lib.hid (num_no f (authorOk_hi h2))
   go_enter Tryz.func68,Tryz.ntmps68
   go_wp2_with fail
   go_ret
   exact⟨ret_int (by rw [HN.out];rfl),HB.out⟩
 ·
  have d1:decide ((a.toNat:Int)<1)=true:=by simp;omega
  have HN:=Lib.hid (num_no f (authorOk_lo h1))
  go_enter Tryz.func68,Tryz.ntmps68
  go_wp2_with fail
  go_ret
  exact⟨ret_int (by rw [HN.out];rfl),HB.out⟩
set_option maxHeartbeats 4000000 in
set_option maxRecDepth 100000 in
theorem rnext_any(f:VecM)(hf:∀ a,f a≤60000)(a:UInt8)(w:World):Calls Tryz.prog 25 #[vecV f,.int .u8 a.toNat] w fun e w'=>e=.returned (pidV (nextF f a))∧Below w.heap.size w w':=by
 have hfa:=hf a
 have hal:=a.toNat_lt
 have HA:=Lib.hid ((arr_new w (vecL f).toArray 69).alloc (.cells #[.int .u8 0,.int .u16 0] 26))
 have HR:=Lib.hid (arr_new2 w (.cells (vecL f).toArray 69) #[.int .u8 0,.int .u16 0] 26)
 have HB:=Lib.hid ((below_new (w:=w) (.cells (vecL f).toArray 69)).alloc (by simp) (.cells #[.int .u8 0,.int .u16 0] 26))
 clear hf
 go_enter Tryz.func25,Tryz.ntmps25
 go_upto_region 1 with(fail)
 generalize hw0:(w.alloc (.cells (vecL f).toArray 69)).alloc (.cells #[.int .u8 0,.int .u16 0] 26)=w0 at *
 clear hw0
 by_cases h1:1≤a.toNat
 ·
  have d1:decide ((a.toNat:Int)<1)=false:=by simp;omega
  by_cases h2:a.toNat≤64
  ·
   have d2:decide ((64:Int)<(a.toNat:Int))=false:=by simp;omega
   have hk:=authorOk_yes h1 h2
   have HK:=Lib.hid hk
   have hnum:=num_yes f hk
   go_wp2_with (with_reducible refine wpList_load_arrG rowVec rfl _ rfl _ _ HA.out rfl (vecL_len f) ?_)
   refine(rvof_any f a _ hfa).mono ?_
   rintro e w1 ⟨rfl,hb1⟩
   have HB1:=Lib.hid (below_over HB.out HB.out.size hb1)
   have HR1:=Lib.hid (HR.out.over hb1)
   have HA1:=Lib.hid (HA.out.over hb1)
   clear hb1
   rw [hnum]
   by_cases h3:f a<60000
   ·
    have d3:decide ((60000:Int)≤(f a:Int))=false:=by simp;omega
    have hfi:(f a:Int)<60000:=by omega
    have hf0:(0:Int)≤(f a:Int):=by omega
    have HN:=Lib.hid (pidV_next hk h3)
    clear hk h3
    go_wp2_with (refine wpList_load_arr rowVec rfl _ rfl _ _ HA1.out rfl (vecL_len f) ?_)
    refine(rvof_any f a _ hfa).mono ?_
    rintro e w2 ⟨rfl,hb2⟩
    rw [hnum]
    have HB2:=Lib.hid (below_over HB1.out HB1.out.size hb2)
    have HR2:=Lib.hid (HR1.out.over hb2)
    clear hb2 hnum
    have r0:=HR2.out.cell (j:=0) rfl
    have r1:=HR2.out.cell (j:=1) rfl
    have f0:=HR2.out.free 0
    have f1:=HR2.out.free 1
    have sr:=HR2.out.lt
    have HF:=Lib.hid ((HR2.out.set 0 (.int .u8 a.toNat)).set 1 (.int .u16 ((f a:Int)+1)))
    have HBF:=Lib.hid ((HB2.out.setCell (p:=⟨w.heap.size+1,0,none⟩) (by simp) (.int .u8 a.toNat)).setCell (p:=⟨w.heap.size+1,1,none⟩) (by simp) (.int .u16 ((f a:Int)+1)))
    go_wp2_with fail
    exact bodyPost_ret (v:=.agg #[.int .u8 a.toNat,.int .u16 ((f a:Int)+1)]) (results_arr rowPid rfl HF.out rfl rfl) rfl ⟨by rw [HN.out],HBF.out⟩
   ·
    have d3:decide ((60000:Int)≤(f a:Int))=true:=by simp;omega
    have HN:=Lib.hid (nextF_no2 h3)
    have r0:=HR1.out.cell (j:=0) rfl
    have r1:=HR1.out.cell (j:=1) rfl
    have f0:=HR1.out.free 0
    have f1:=HR1.out.free 1
    have sr:=HR1.out.lt
    have HF:=Lib.hid ((HR1.out.set 0 (.int .u8 0)).set 1 (.int .u16 0))
    have HBF:=Lib.hid ((HB1.out.setCell (p:=⟨w.heap.size+1,0,none⟩) (by simp) (.int .u8 0)).setCell (p:=⟨w.heap.size+1,1,none⟩) (by simp) (.int .u16 0))
    clear hk hfa h3 hnum
    go_wp2_with fail
    exact bodyPost_ret (v:=.agg #[.int .u8 0,.int .u16 0]) (results_arr rowPid rfl HF.out rfl rfl) rfl ⟨by rw [HN.out];rfl,HBF.out⟩
  ·
   have d2:decide ((64:Int)<(a.toNat:Int))=true:=by simp;omega
   have HN:=Lib.hid (nextF_no1 (f:=f) (authorOk_hi h2))
   have r0:=HR.out.cell (j:=0) rfl
   have r1:=HR.out.cell (j:=1) rfl
   have f0:=HR.out.free 0
   have f1:=HR.out.free 1
   have sr:=HR.out.lt
   have HF:=Lib.hid ((HR.out.set 0 (.int .u8 0)).set 1 (.int .u16 0))
   have HBF:=Lib.hid ((HB.out.setCell (p:=⟨w.heap.size+1,0,none⟩) (by simp) (.int .u8 0)).setCell (p:=⟨w.heap.size+1,1,none⟩) (by simp) (.int .u16 0))
   clear hfa
   go_wp2_with fail
   exact bodyPost_ret (v:=.agg #[.int .u8 0,.int .u16 0]) (results_arr rowPid rfl HF.out rfl rfl) rfl ⟨by rw [HN.out];rfl,HBF.out⟩
 ·
  have d1:decide ((a.toNat:Int)<1)=true:=by simp;omega
  have HN:=Lib.hid (nextF_no1 (f:=f) (authorOk_lo h1))
  have r0:=HR.out.cell (j:=0) rfl
  have r1:=HR.out.cell (j:=1) rfl
  have f0:=HR.out.free 0
  have f1:=HR.out.free 1
  have sr:=HR.out.lt
  have HF:=Lib.hid ((HR.out.set 0 (.int .u8 0)).set 1 (.int .u16 0))
  have HBF:=Lib.hid ((HB.out.setCell (p:=⟨w.heap.size+1,0,none⟩) (by simp) (.int .u8 0)).setCell (p:=⟨w.heap.size+1,1,none⟩) (by simp) (.int .u16 0))
  clear hfa
  go_wp2_with fail
  exact bodyPost_ret (v:=.agg #[.int .u8 0,.int .u16 0]) (results_arr rowPid rfl HF.out rfl rfl) rfl ⟨by rw [HN.out];rfl,HBF.out⟩
end Go.Proofs.YtllcipobiengiaaGreat
