/- Vectors: arrays of 64 numbers; contracts of package vec and of its reference, as far as graphs ask. Contracts of vec.Next, Put; of the reference's Of, Next, Put. Contracts of vec.Put; of the reference's Of, Next, Put. Contracts of patch.later, its closure, slices.ContainsFunc and IndexFunc there; slices.Equal at names. Contracts of patch.kind, suits. -/
import Derived.Test.YtanfebljiblhbaaGreatDoorHGrQ
import Derived.Test.YtanfebljiblhbaaGreatDoorHPDeps
set_option linter.unusedVariables false
set_option linter.unusedSimpArgs false
namespace Go.Proofs.YtanfebljiblhbaaGreatDoor
open Go Go.RowKit

section
variable {P : Program} {ty : TypeId} {size : Nat} {w : World} {ops : Array Oper} {rest : List Oper} {o : Oper} {a : Act} {Q : Exit → Act → World → Prop}
theorem run_load_row(T:RowT P ty size){g:Nat}{cs:List Value}(hA:Arr w g cs)(hl:cs.length=size):(loadVar ty ⟨g,0,none⟩).run P w=.ok (.agg cs.toArray) w:=by
 obtain⟨d,i,h1,h2,h3,h4⟩:=T.out
 obtain⟨e,hg⟩:=hA
 exact run_loadVar_row w g e ty cs.toArray (0,0) d hg h1 (by cases d <;> simp_all [isRowD]) (by rw [h3];simp [h4,hl])
theorem lex_load_row{C:World→Prop}{loud:Nat→Bool}{Q:Act→World→Prop}(T:RowT P ty size){k:Nat}{l:List Oper}(hl:loud k=false)(x:Operand)(ho:o.op=.load ty x)
  (hw:Region.wanted o (yielded ops a.tmps)=true) {g:Nat} {cs:List Value} (hx:a.eval x=.pointer (some ⟨g,0,none⟩)) (hA:∀ w',C w'→Arr w' g cs) (hlen:cs.length=size)
  (h:wpLex P ops C loud Q (k+1) l (a.put o.dst (.agg cs.toArray)) w):wpLex P ops C loud Q k (o :: l) a w:=by
 unfold wpLex
 rw [if_pos hw,hl]
 refine⟨.agg cs.toArray,fun w' hw' => ?_,h⟩
 unfold Oper.quietAt execOp
 simp only [ho,hx,Instr.loadAt,Instr.sureAddr,Sem.run_bind,Sem.run_pure,Result.andThen_ok,run_load_row T (hA w' hw') hlen]
 exact⟨rfl,rfl⟩
/-- an array that begins a block -/
theorem run_load_part(hag:∀ w,(isAgg ty).run P w=.ok true w)(hsz:∀ w,(Go.sizeOf ty).run P w=.ok size w){g:Nat}{cs more:List Value}(hA:Arr w g (cs++more))(hl:cs.length=size):(loadVar ty ⟨g,0,none⟩).run P w=.ok (.agg cs.toArray) w:=by
 have h:=run_loadCells_list (P:=P) (w:=w) ⟨g,0,none⟩ cs (fun j v hv=>by
  have:=hA.cell (j:=j) (u:=v) (by rw [List.getElem?_append_left (List.getElem?_eq_some_iff.1 hv).1];exact hv)
  rw [Addr.add_lit,Nat.zero_add];exact this)
 rw [hl] at h
 simp [loadVar,hag,hsz,h]
theorem lex_load_part{C:World→Prop}{loud:Nat→Bool}{Q:Act→World→Prop}(hag:∀ w,(isAgg ty).run P w=.ok true w)(hsz:∀ w,(Go.sizeOf ty).run P w=.ok size w){k:Nat}{l:List Oper}(hl:loud k=false)(x:Operand)(ho:o.op=.load ty x)
  (hw:Region.wanted o (yielded ops a.tmps)=true) {g:Nat} {cs more:List Value} (hx:a.eval x=.pointer (some ⟨g,0,none⟩)) (hA:∀ w',C w'→Arr w' g (cs++more)) (hlen:cs.length=size)
  (h:wpLex P ops C loud Q (k+1) l (a.put o.dst (.agg cs.toArray)) w):wpLex P ops C loud Q k (o :: l) a w:=by
 unfold wpLex
 rw [if_pos hw,hl]
 refine⟨.agg cs.toArray,fun w' hw' => ?_,h⟩
 unfold Oper.quietAt execOp
 simp only [ho,hx,Instr.loadAt,Instr.sureAddr,Sem.run_bind,Sem.run_pure,Result.andThen_ok,run_load_part hag hsz (hA w' hw') hlen]
 exact⟨rfl,rfl⟩
theorem wpList_store_part(T:RowT P ty size)(hgd:o.guard=none)(x y:Operand)(ho:o.op=.store ty x y)(g:Nat)(cs more new:List Value)(hA:Arr w g (cs++more))(hx:a.eval x=.pointer (some ⟨g,0,none⟩))
  (hy:a.eval y=.agg new.toArray) (hl:cs.length=size) (hn:new.length=size) (h1:new.all (fun u=>u.oneCell')=true)
  (h:Arr (w.setRow g (new++more).toArray) g (new++more)→w.grownBy (w.setRow g (new++more).toArray) (some g)→(w.setRow g (new++more).toArray).heap.size=w.heap.size→wpList P ops Q rest (a.put o.dst undef) (w.setRow g (new++more).toArray)):wpList P ops Q (o :: rest) a w:=by
 refine wpList_plain hgd fun K hK => ?_
 have hA':=hA
 obtain⟨d,i,_,_,h3,h4⟩:=T.out
 obtain⟨e,hg⟩:=hA
 have hs:=run_storeCells_at (P:=P) g 0 e new 0 (cs++more).toArray w hg (by simp;omega) (fun v hv=>List.all_eq_true.1 h1 v hv)
 have ht:((cs++more).toArray.toList.take (0+0)++new++(cs++more).toArray.toList.drop (0+0+new.length)).toArray=(new++more).toArray:=by
  simp only [Nat.zero_add,List.take_zero,List.nil_append]
  rw [hn,← hl,List.drop_append_of_le_length (Nat.le_refl _),List.drop_length,List.nil_append]
 rw [ht] at hs
 have hc:(Value.agg new.toArray).cells=new.toArray:=rfl
 have hr:(storeVar ty ⟨g,0,none⟩ (.agg new.toArray)).run P w=.ok () (w.setRow g (new++more).toArray):=by simp [storeVar,sizeOf,typeInfo,h3,h4,hc,hn,hs]
 unfold Oper.wp execOp
 simp only [ho,hx,hy,Instr.storeAt,Instr.sureAddr,Sem.run_bind,Sem.run_pure,Result.andThen_ok,hr]
 exact hK _ _ (h (hA'.row _) (grown_row _) (by simp))
end

/-- a world of which some facts are told is given a name -/
theorem code_gen{P:Program}{c:Code}{Q:Exit→Act→World→Prop}{a:Act}{w:World}(F:World→Prop)(hF:F w)(h:∀ w0,F w0→c.wp P Q a w0):c.wp P Q a w:=h w hF

/-! ### vectors -/
def vecL(f:VecM):List Value:=(List.range 64).map fun i=>.int .u16 ((f (UInt8.ofNat (i+1)):Nat):Int)
abbrev vecV(f:VecM):Value:=.agg (vecL f).toArray
theorem vecL_len(f:VecM):(vecL f).length=64:=by simp [vecL]
theorem vecL_one(f:VecM):(vecL f).all (fun u=>u.oneCell')=true:=by
 rw [List.all_eq_true]
 intro u hu
 obtain⟨i,_,rfl⟩:=List.mem_map.1 hu
 rfl
theorem vecL_get(f:VecM)(a:UInt8)(h1:1≤a.toNat)(h2:a.toNat≤64):(vecL f)[a.toNat - 1]? = some (.int .u16 ((f a:Nat):Int)):=by
 unfold vecL
 rw [List.getElem?_map,List.getElem?_range (by omega)]
 simp only [Option.map_some]
 have:UInt8.ofNat (a.toNat - 1+1)=a:=by
  apply UInt8.toNat_inj.1;simp;omega
 rw [this]
def setV(f:VecM)(a:UInt8)(n:Nat):VecM:=fun b=>if b=a then n else f b
theorem vecL_set(f:VecM)(a:UInt8)(n:Nat)(h1:1≤a.toNat)(h2:a.toNat≤64):(vecL f).set (a.toNat - 1) (.int .u16 n)=vecL (setV f a n):=by
 apply List.ext_getElem?
 intro t
 rw [List.getElem?_set]
 by_cases ht:t<64
 ·
  have e1:(vecL f)[t]? = some (.int .u16 ((f (UInt8.ofNat (t+1)):Nat):Int)):=by unfold vecL;rw [List.getElem?_map,List.getElem?_range ht];rfl
  have e2:(vecL (setV f a n))[t]? = some (.int .u16 ((setV f a n (UInt8.ofNat (t+1)):Nat):Int)):=by unfold vecL;rw [List.getElem?_map,List.getElem?_range ht];rfl
  rw [e1,e2]
  unfold setV
  by_cases h:a.toNat - 1=t
  ·
   have:UInt8.ofNat (t+1)=a:=by apply UInt8.toNat_inj.1;simp;omega
   rw [if_pos h,if_pos this,if_pos (by rw [vecL_len];omega)]
  ·
   have:¬ UInt8.ofNat (t+1)=a:=fun e=>h (by rw [← e];simp;omega)
   rw [if_neg h,if_neg this]
 ·
  rw [if_neg (by omega),List.getElem?_eq_none (by rw [vecL_len];omega),List.getElem?_eq_none (by rw [vecL_len];omega)]
theorem rowVec:RowT Tryz.prog 135 64:=rowT_of Tryz.underlying135 rfl (by kernel_rfl)
theorem rowPid:RowT Tryz.prog 25 2:=rowT_of Tryz.underlying25 rfl (by kernel_rfl)
def numM(f:VecM)(a:UInt8):Nat:=if authorOk a=true then f a else 0
def hasF(f:VecM)(p:PidM):Bool:=authorOk p.author && (decide (1≤p.seq.toNat) && decide (p.seq.toNat≤f p.author))
def nextF(f:VecM)(a:UInt8):PidM:=if authorOk a=true∧f a<60000 then⟨a,UInt16.ofNat (f a+1)⟩ else noPid
theorem authorOk_yes{a:UInt8}(h1:1≤a.toNat)(h2:a.toNat≤64):authorOk a=true:=by unfold authorOk;simp [h1,h2]
theorem authorOk_lo{a:UInt8}(h1:¬ 1≤a.toNat):authorOk a=false:=by unfold authorOk;simp;omega
theorem authorOk_hi{a:UInt8}(h1:¬ a.toNat≤64):authorOk a=false:=by unfold authorOk;simp;omega
theorem num_yes(f:VecM){a:UInt8}(h:authorOk a=true):numM f a=f a:=by unfold numM;rw [if_pos h]
theorem num_no(f:VecM){a:UInt8}(h:authorOk a=false):numM f a=0:=by unfold numM;rw [if_neg (by simp [h])]
def NumRes(w:World)(f:VecM)(a:UInt8)(e:Ending)(w':World):Prop:=e=.returned (.tuple #[.int .u16 ((numM f a:Nat):Int),.bool (authorOk a)])∧Below w.heap.size w w'
attribute [local irreducible] vecL authorOk numM
set_option maxHeartbeats 4000000 in
set_option maxRecDepth 100000 in
theorem pnumber_any(f:VecM)(a:UInt8)(w:World):Calls Tryz.prog 177 #[vecV f,.int .u8 a.toNat] w (NumRes w f a):=by
 have hal:=a.toNat_lt
 have HA:=Lib.hid (arr_new w (vecL f).toArray 135)
 have HB:=Lib.hid (below_new (w:=w) (.cells (vecL f).toArray 135))
 unfold vecV
 by_cases h1:1≤a.toNat
 ·
  have d1:decide ((a.toNat:Int)<1)=false:=by simp;omega
  by_cases h2:a.toNat≤64
  ·
   have d2:decide ((64:Int)<(a.toNat:Int))=false:=by simp;omega
   have HK:=Lib.hid (authorOk_yes h1 h2)
   have HN:=Lib.hid (num_yes f HK.out)
   have hc:=HA.out.cell (vecL_get f a h1 h2)
   have hs:=HA.out.lt
   obtain⟨n,hn⟩:∃ n,a.toNat=n+1:=⟨a.toNat - 1,by omega⟩
   rw [hn] at hc d1 d2 hal h1 h2 ⊢
   simp only [Nat.add_sub_cancel] at hc
   have HNn:=Lib.hid hn
   clear hn
   go_enter Tryz.func177,Tryz.ntmps177
   go_wp2_with fail
   go_ret2
   exact⟨(by rw [HN.out,HK.out];rfl),HB.out⟩
  ·
   have d2:decide ((64:Int)<(a.toNat:Int))=true:=by simp;omega
   have HK:=Lib.hid (authorOk_hi h2)
   have HN:=Lib.hid (num_no f HK.out)
   go_enter Tryz.func177,Tryz.ntmps177
   go_wp2_with fail
   go_ret2
   exact⟨(by rw [HN.out,HK.out];rfl),HB.out⟩
 ·
  have d1:decide ((a.toNat:Int)<1)=true:=by simp;omega
  have HK:=Lib.hid (authorOk_lo h1)
  have HN:=Lib.hid (num_no f HK.out)
  go_enter Tryz.func177,Tryz.ntmps177
  go_wp2_with fail
  go_ret2
  exact⟨(by rw [HN.out,HK.out];rfl),HB.out⟩
theorem has_1{f:VecM}{p:PidM}(h:authorOk p.author=false):hasF f p=false:=by unfold hasF;rw [h];rfl
theorem has_2{f:VecM}{p:PidM}(h:¬ 1≤p.seq.toNat):hasF f p=false:=by unfold hasF;simp [h]
theorem has_3{f:VecM}{p:PidM}(h:¬ p.seq.toNat≤f p.author):hasF f p=false:=by unfold hasF;simp [h]
theorem has_4{f:VecM}{p:PidM}(h1:authorOk p.author=true)(h2:1≤p.seq.toNat)(h3:p.seq.toNat≤f p.author):hasF f p=true:=by unfold hasF;rw [h1];simp [h2,h3]
attribute [local irreducible] hasF
set_option maxHeartbeats 4000000 in
set_option maxRecDepth 100000 in
theorem phas_any(f:VecM)(p:PidM)(w:World):Calls Tryz.prog 112 #[vecV f,pidV p] w fun e w'=>e=.returned (.bool (hasF f p))∧Below w.heap.size w w':=by
 have HA:=Lib.hid ((arr_new w (vecL f).toArray 135).alloc (.cells #[.int .u8 p.author.toNat,.int .u16 p.seq.toNat] 25))
 have HP:=Lib.hid (arr_new2 w (.cells (vecL f).toArray 135) #[.int .u8 p.author.toNat,.int .u16 p.seq.toNat] 25)
 have HB:=Lib.hid ((below_new (w:=w) (.cells (vecL f).toArray 135)).alloc (by simp) (.cells #[.int .u8 p.author.toNat,.int .u16 p.seq.toNat] 25))
 unfold pidV
 go_enter Tryz.func112,Tryz.ntmps112
 go_upto_region 1 with(fail)
 generalize hw0:(w.alloc (.cells (vecL f).toArray 135)).alloc (.cells #[.int .u8 p.author.toNat,.int .u16 p.seq.toNat] 25)=w0 at *
 clear hw0
 have p0:=HP.out.cell (j:=0) rfl
 have p1:=HP.out.cell (j:=1) rfl
 have sp:=HP.out.lt
 go_wp2_with (refine wpList_load_arr rowVec rfl _ rfl _ _ HA.out rfl (vecL_len f) ?_)
 refine(pnumber_any f p.author _).mono ?_
 rintro e w1 ⟨rfl,hb1⟩
 have HB1:=Lib.hid (below_over HB.out HB.out.size hb1)
 have HP1:=Lib.hid (HP.out.over hb1)
 clear hb1 p0 p1 sp
 have p0:=HP1.out.cell (j:=0) rfl
 have p1:=HP1.out.cell (j:=1) rfl
 have sp:=HP1.out.lt
 cases hk:authorOk p.author with
 | false =>
  have HH:=Lib.hid (has_1 (f:=f) hk)
  clear hk
  go_wp2_with fail
  go_ret
  exact⟨ret_val (congrArg Value.bool HH.out.symm),HB1.out⟩
 | true =>
  by_cases h2:1≤p.seq.toNat
  ·
   have d2:decide ((1:Int)≤(p.seq.toNat:Int))=true:=by simp;omega
   have hnum:=num_yes f hk
   by_cases h3:p.seq.toNat≤f p.author
   ·
    have d3:decide (p.seq.toNat≤numM f p.author)=true:=by rw [hnum];simpa using h3
    have HH:=Lib.hid (has_4 hk h2 h3)
    clear hk hnum
    go_wp2_with fail
    go_ret
    exact⟨ret_val (congrArg Value.bool HH.out.symm),HB1.out⟩
   ·
    have d3:decide (p.seq.toNat≤numM f p.author)=false:=by rw [hnum];simpa using h3
    have HH:=Lib.hid (has_3 h3)
    clear hk hnum
    go_wp2_with fail
    go_ret
    exact⟨ret_val (congrArg Value.bool HH.out.symm),HB1.out⟩
  ·
   have d2:decide ((1:Int)≤(p.seq.toNat:Int))=false:=by simp;omega
   have HH:=Lib.hid (has_2 (f:=f) h2)
   clear hk
   go_wp2_with fail
   go_ret
   exact⟨ret_val (congrArg Value.bool HH.out.symm),HB1.out⟩
end Go.Proofs.YtanfebljiblhbaaGreatDoor
namespace Go.Proofs.YtanfebljiblhbaaGreatDoor
open Go Go.RowKit

theorem nextF_yes{f:VecM}{a:UInt8}(h1:authorOk a=true)(h2:f a<60000):nextF f a=⟨a,UInt16.ofNat (f a+1)⟩:=by unfold nextF;rw [if_pos ⟨h1,h2⟩]
theorem nextF_no1{f:VecM}{a:UInt8}(h1:authorOk a=false):nextF f a=noPid:=by unfold nextF;rw [if_neg (fun h=>by rw [h1] at h;exact absurd h.1 (by decide))]
theorem nextF_no2{f:VecM}{a:UInt8}(h2:¬ f a<60000):nextF f a=noPid:=by unfold nextF;rw [if_neg (fun h=>h2 h.2)]
theorem authorOk_pos{a:UInt8}(h:authorOk a=true):1≤a.toNat∧a.toNat≤64:=by unfold authorOk at h;simp at h;exact h
theorem pidV_next{f:VecM}{a:UInt8}(h1:authorOk a=true)(h2:f a<60000):pidV (nextF f a)=.agg #[.int .u8 a.toNat,.int .u16 ((f a:Int)+1)]:=by
 rw [nextF_yes h1 h2]
 unfold pidV
 have:((UInt16.ofNat (f a+1)).toNat:Int)=(f a:Int)+1:=by simp;omega
 rw [this]
attribute [local irreducible] vecL authorOk numM nextF
set_option maxHeartbeats 4000000 in
set_option maxRecDepth 100000 in
theorem pnext_any(f:VecM)(hf:∀ a,f a≤60000)(a:UInt8)(w:World):Calls Tryz.prog 113 #[vecV f,.int .u8 a.toNat] w fun e w'=>e=.returned (pidV (nextF f a))∧Below w.heap.size w w':=by
 have hfa:=hf a
 have HA:=Lib.hid ((arr_new w (vecL f).toArray 135).alloc (.cells #[.int .u8 0,.int .u16 0] 25))
 have HR:=Lib.hid (arr_new2 w (.cells (vecL f).toArray 135) #[.int .u8 0,.int .u16 0] 25)
 have HB:=Lib.hid ((below_new (w:=w) (.cells (vecL f).toArray 135)).alloc (by simp) (.cells #[.int .u8 0,.int .u16 0] 25))
 clear hf
 go_enter Tryz.func113,Tryz.ntmps113
 go_upto_region 1 with(fail)
 generalize hw0:(w.alloc (.cells (vecL f).toArray 135)).alloc (.cells #[.int .u8 0,.int .u16 0] 25)=w0 at *
 clear hw0
 go_wp2_with (refine wpList_load_arr rowVec rfl _ rfl _ _ HA.out rfl (vecL_len f) ?_)
 refine(pnumber_any f a _).mono ?_
 rintro e w1 ⟨rfl,hb1⟩
 have HB1:=Lib.hid (below_over HB.out HB.out.size hb1)
 have HR1:=Lib.hid (HR.out.over hb1)
 clear hb1
 have r0:=HR1.out.cell (j:=0) rfl
 have r1:=HR1.out.cell (j:=1) rfl
 have f0:=HR1.out.free 0
 have f1:=HR1.out.free 1
 have sr:=HR1.out.lt
 cases hk:authorOk a with
 | false =>
  have HN:=Lib.hid (nextF_no1 (f:=f) hk)
  have HF:=Lib.hid ((HR1.out.set 0 (.int .u8 0)).set 1 (.int .u16 0))
  have HBF:=Lib.hid ((HB1.out.setCell (p:=⟨w.heap.size+1,0,none⟩) (by simp) (.int .u8 0)).setCell (p:=⟨w.heap.size+1,1,none⟩) (by simp) (.int .u16 0))
  clear hk
  go_wp2_with fail
  exact bodyPost_ret (v:=.agg #[.int .u8 0,.int .u16 0]) (results_arr rowPid rfl HF.out rfl rfl) rfl ⟨by rw [HN.out];rfl,HBF.out⟩
 | true =>
  have hnum:=num_yes f hk
  by_cases h2:f a<60000
  ·
   have d2:decide ((60000:Int)≤(numM f a:Int))=false:=by rw [hnum];simp;omega
   have hfi:(f a:Int)<60000:=by omega
   have hf0:(0:Int)≤(f a:Int):=by omega
   have HN:=Lib.hid (pidV_next hk h2)
   have HF:=Lib.hid ((HR1.out.set 0 (.int .u8 a.toNat)).set 1 (.int .u16 ((f a:Int)+1)))
   have HBF:=Lib.hid ((HB1.out.setCell (p:=⟨w.heap.size+1,0,none⟩) (by simp) (.int .u8 a.toNat)).setCell (p:=⟨w.heap.size+1,1,none⟩) (by simp) (.int .u16 ((f a:Int)+1)))
   have HNu:=Lib.hid hnum
   rw [hnum] at d2 ⊢
   clear hk hnum hfa h2
   go_wp2_with fail
   exact bodyPost_ret (v:=.agg #[.int .u8 a.toNat,.int .u16 ((f a:Int)+1)]) (results_arr rowPid rfl HF.out rfl rfl) rfl ⟨by rw [HN.out],HBF.out⟩
  ·
   have d2:decide ((60000:Int)≤(numM f a:Int))=true:=by rw [hnum];simp;omega
   have HN:=Lib.hid (nextF_no2 h2)
   have HF:=Lib.hid ((HR1.out.set 0 (.int .u8 0)).set 1 (.int .u16 0))
   have HBF:=Lib.hid ((HB1.out.setCell (p:=⟨w.heap.size+1,0,none⟩) (by simp) (.int .u8 0)).setCell (p:=⟨w.heap.size+1,1,none⟩) (by simp) (.int .u16 0))
   rw [hnum] at d2 ⊢
   clear hk hnum hfa h2
   go_wp2_with fail
   exact bodyPost_ret (v:=.agg #[.int .u8 0,.int .u16 0]) (results_arr rowPid rfl HF.out rfl rfl) rfl ⟨by rw [HN.out];rfl,HBF.out⟩
end Go.Proofs.YtanfebljiblhbaaGreatDoor
namespace Go.Proofs.YtanfebljiblhbaaGreatDoor
open Go Go.RowKit

theorem results_arr_slot{P:Program}{w:World}{ty:TypeId}{size:Nat}(T:RowT P ty size){fn:Func}{p q:Tmp}(h:fn.results=#[.cell p ty,.tmp q]){tmps:Array Value}{g:Nat}{cs:List Value}(hA:Arr w g cs)(hp:tmps.getD p undef=.pointer (some ⟨g,0,none⟩))(hl:cs.length=size){u:Value}(hq:tmps.getD q undef=u) :
  (results fn tmps).run P w=.ok (.tuple #[.agg cs.toArray,u]) w:=by
 obtain⟨d,i,h1,h2,h3,h4⟩:=T.out
 obtain⟨e,hg⟩:=hA
 subst hq
 have hp':tmps[p]?.getD undef=.pointer (some ⟨g,0,none⟩):=by simpa using hp
 simp [results,h,hp',asAddr,run_loadVar_row w g e ty cs.toArray (0,0) d hg h1 (by cases d <;> simp_all [isRowD]) (by rw [h3];simp [h4,hl])]
def PutOk(f:VecM)(p:PidM)(w:World)(e:Ending)(w':World):Prop:=e=.returned (.tuple #[vecV (setV f p.author p.seq.toNat),.bool true])∧Below w.heap.size w w'
attribute [local irreducible] vecL authorOk numM nextF
set_option maxHeartbeats 4000000 in
set_option maxRecDepth 100000 in
theorem pput_any(f:VecM)(hf:∀ a,f a≤60000)(p:PidM)(w:World)(ha:authorOk p.author=true)(hp:nextF f p.author=p):Calls Tryz.prog 65 #[vecV f,pidV p] w (PutOk f p w):=by
 have hpa:=authorOk_pos ha
 have HF:=Lib.hid hf
 have HP0:=Lib.hid hp
 have hne:¬ p=noPid:=fun e=>by rw [e] at hpa;exact absurd hpa.1 (by decide)
 have e1:∀ w,(binOp .eql 25 (.agg #[.int .u8 p.author.toNat,.int .u16 p.seq.toNat]) (.agg #[.int .u8 0,.int .u16 0])).run Tryz.prog w=.ok (.bool false) w:=eql_pid p noPid false (by simp [hne])
 have e2:=neq_pid p p false (by simp)
 unfold pidV at e2
 clear hne
 have gd:=fun p q xs ys w=>guard_pid .eql p q xs ys w
 have gd2:=fun p q xs ys w=>guard_pid .neq p q xs ys w
 clear hf hp
 unfold pidV
 go_enter Tryz.func65,Tryz.ntmps65
 go_upto_region 1 with(fail)
 refine code_gen (fun w0=>∃ zs:List Value,zs.length=64∧Arr w0 (w.heap.size+1+1) zs∧Arr w0 w.heap.size (vecL f)∧Arr w0 (w.heap.size+1) [.int .u8 p.author.toNat,.int .u16 p.seq.toNat]∧Below w.heap.size w w0)
  (by
   refine⟨_,?_,arr_new3 w (.cells (vecL f).toArray 135) (.cells #[.int .u8 p.author.toNat,.int .u16 p.seq.toNat] 25) _ _,((arr_new w (vecL f).toArray _).alloc _).alloc _,(arr_new2 w (.cells (vecL f).toArray 135) _ _).alloc _,((below_new (w:=w) _).alloc (by simp) _).alloc (by simp;omega) _⟩
   rfl) ?_
 rintro w0 ⟨zs,hzl,hR,hA,hP,hB⟩
 have HR:=Lib.hid hR
 have HA:=Lib.hid hA
 have HP:=Lib.hid hP
 have HB:=Lib.hid hB
 clear hR hA hP hB
 have p0:=HP.out.cell (j:=0) rfl
 have p1:=HP.out.cell (j:=1) rfl
 have sp:=HP.out.lt
 have hcur:Below w0.heap.size w0 w0.drew:=(Below.refl _ _).drew
 refine wp_region_lex (C:=IsOver w0) 11 [] (by kernel_rfl) (by kernel_rfl) (isOver_of hcur) ?_
 simp only [List.take_succ_cons,List.take_zero,List.drop_succ_cons,List.drop_zero]
 repeat(first|(refine lex_skip rfl rfl ?_;simp only [Act.put,List.setIfInBounds_toArray,List.set_cons_succ,List.set_cons_zero])|((with_reducible refine lex_load_row rowVec rfl _ rfl rfl rfl (fun w' hw'=>HA.out.over (isOver_below hw')) (vecL_len f) ?_);simp only [Act.put,List.setIfInBounds_toArray,List.set_cons_succ,List.set_cons_zero])|(refine lex_one rfl ?_;go_big_quiet_step (fail);refine wpQuiet_nil ?_)|(refine lex_loud rfl ?_;go_wp2_with (first|(go_at_call 113;(with_reducible refine(pnext_any f HF.out p.author _).mono ?_);rintro e wA ⟨rfl,hb⟩;rw [HP0.out];replace hcur:=below_over hcur hcur.size hb;clear hb));refine⟨isOver_of hcur,?_⟩))
 refine lex_end ?_
 have HB1:=Lib.hid (below_over HB.out HB.out.size hcur)
 have HA1:=Lib.hid (HA.out.over hcur)
 have HP1:=Lib.hid (HP.out.over hcur)
 have HR1:=Lib.hid (HR.out.over hcur)
 have HVS:=Lib.hid (vecL_set f p.author p.seq.toNat hpa.1 hpa.2)
 have HVG:=Lib.hid (vecL_get f p.author hpa.1 hpa.2)
 clear hcur p0 p1 sp
 have p0:=HP1.out.cell (j:=0) rfl
 have p1:=HP1.out.cell (j:=1) rfl
 have sp:=HP1.out.lt
 have c0:=HA1.out.cell HVG.out
 have f0:=HA1.out.free (p.author.toNat - 1)
 have HA2:Hid (Arr (wA.setCell ⟨w.heap.size,p.author.toNat - 1,none⟩ (.int .u16 p.seq.toNat)) w.heap.size (vecL (setV f p.author p.seq.toNat))):=by
  have:=HA1.out.set (p.author.toNat - 1) (.int .u16 p.seq.toNat)
  rw [HVS.out] at this;exact this
 have HR2:Hid (Arr (wA.setCell ⟨w.heap.size,p.author.toNat - 1,none⟩ (.int .u16 p.seq.toNat)) (w.heap.size+1+1) zs):=HR1.out.set_other (a:=⟨w.heap.size,p.author.toNat - 1,none⟩) (by simp;omega) _
 have HB2:=Lib.hid (HB1.out.setCell (p:=⟨w.heap.size,p.author.toNat - 1,none⟩) (Nat.le_refl _) (.int .u16 p.seq.toNat))
 obtain⟨n,hn⟩:∃ n,p.author.toNat=n+1:=⟨p.author.toNat - 1,by omega⟩
 have HNn:=Lib.hid hn
 have hn64:n<64:=by omega
 rw [hn] at p0
 rw [hn,Nat.add_sub_cancel] at c0 f0 HA2 HR2 HB2
 have sA:=HA1.out.lt
 clear hn
 go_upto_region 4 with(fail)
 generalize hw3:wA.setCell ⟨w.heap.size,n,none⟩ (.int .u16 p.seq.toNat)=w3 at *
 clear hw3 p0 p1 sp c0 f0
 go_wp2_with (first|(refine wpList_load_arr rowVec rfl _ rfl _ _ HA2.out rfl (vecL_len _) ?_)|(refine wpList_put_arr rowVec rfl _ _ rfl _ _ _ HR2.out rfl rfl hzl (vecL_len _) (vecL_one _) ?_;intro w4 HR4 _ hb4 hs4))
 exact bodyPost_ret (v:=.tuple #[.agg (vecL (setV f p.author p.seq.toNat)).toArray,.bool true]) (results_arr_slot rowVec rfl HR4 rfl (vecL_len _) rfl) rfl ⟨rfl,hb4 _ _ (by show w.heap.size≤w.heap.size+1+1;omega) HB2.out⟩

end Go.Proofs.YtanfebljiblhbaaGreatDoor
namespace Go.Proofs.YtanfebljiblhbaaGreatDoor
open Go Go.RowKit

def laterOne(id:PidM)(v:VidM):Bool:=decide (v.pid.author=id.author) && decide (id.seq.toNat<v.pid.seq.toNat)
theorem laterB_eq(id:PidM)(o:OpM):laterB id o=(refsM o).any (laterOne id):=rfl
set_option maxHeartbeats 1000000 in
set_option maxRecDepth 100000 in
theorem laterFn_any(id:PidM)(v:VidM)(g:Nat)(w:World)(hA:Arr w g (encPid id)) :
  Calls Tryz.prog 202 #[vidV v,.pointer (some ⟨g,0,none⟩)] w fun e w'=>e=.returned (.bool (laterOne id v))∧Below w.heap.size w w':=by
 have i0:=(hA.alloc (.cells #[.int .u8 v.pid.author.toNat,.int .u16 v.pid.seq.toNat,.int .u8 v.n.toNat] 27)).cell (j:=0) rfl
 have i1:=(hA.alloc (.cells #[.int .u8 v.pid.author.toNat,.int .u16 v.pid.seq.toNat,.int .u8 v.n.toNat] 27)).cell (j:=1) rfl
 have sg:=hA.lt
 have sg2:¬ g=w.heap.size:=by omega
 clear hA
 unfold vidV
 by_cases h1:v.pid.author=id.author
 ·
  have e1:((v.pid.author.toNat:Int) == (id.author.toNat:Int))=true:=by simp [h1]
  by_cases h2:id.seq.toNat<v.pid.seq.toNat
  ·
   have e2:decide (id.seq.toNat<v.pid.seq.toNat)=true:=by simpa using h2
   have HV:Hid (laterOne id v=true):=by show _=_;unfold laterOne;simp [h1,h2]
   clear h1 h2
   go_enter Tryz.func202,Tryz.ntmps202
   go_wp2_with fail
   go_ret
   exact⟨ret_val (congrArg Value.bool HV.out.symm),below_new _⟩
  ·
   have e2:decide (id.seq.toNat<v.pid.seq.toNat)=false:=by simpa using h2
   have HV:Hid (laterOne id v=false):=by show _=_;unfold laterOne;simp [h1];omega
   clear h1 h2
   go_enter Tryz.func202,Tryz.ntmps202
   go_wp2_with fail
   go_ret
   exact⟨ret_val (congrArg Value.bool HV.out.symm),below_new _⟩
 ·
  have e1:((v.pid.author.toNat:Int) == (id.author.toNat:Int))=false:=by
   simp;intro h;exact h1 (UInt8.toNat_inj.1 (by omega))
  have HV:Hid (laterOne id v=false):=by show _=_;unfold laterOne;simp [h1]
  clear h1
  go_enter Tryz.func202,Tryz.ntmps202
  go_wp2_with fail
  go_ret
  exact⟨ret_val (congrArg Value.bool HV.out.symm),below_new _⟩
/-- the first place at which something holds; -1: none -/
def idxB{α:Type}(f:α→Bool)(l:List α):Int:=match l.findIdx? f with|some i=>(i:Int)|none => -1
def IxRes(w:World)(f:VidM→Bool)(vs:List VidM)(e:Ending)(w':World):Prop:=e=.returned (.int .i64 (idxB f vs))∧Below w.heap.size w w'
theorem idx_hit{α:Type}{f:α→Bool}{l:List α}{k:Nat}{x:α}(h:(l.take k).any f=false)(hx:l[k]? = some x)(hf:f x=true):idxB f l=(k:Int):=by
 have:l.findIdx? f=some k:=by
  rw [List.findIdx?_eq_some_iff_getElem]
  obtain⟨hk,e⟩:=List.getElem?_eq_some_iff.1 hx
  refine⟨hk,by rw [e];exact hf,fun j hj => ?_⟩
  have:=List.any_eq_false.1 h (l[j]) (List.mem_iff_getElem.2 ⟨j,by rw [List.length_take];omega,by simp⟩)
  simpa using this
 unfold idxB;rw [this]
theorem idx_miss{α:Type}{f:α→Bool}{l:List α}(h:(l.take l.length).any f=false):idxB f l = -1:=by
 rw [List.take_length] at h
 have:l.findIdx? f=none:=by
  rw [List.findIdx?_eq_none_iff]
  intro x hx
  simpa using List.any_eq_false.1 h x hx
 unfold idxB;rw [this]
theorem any_step{α:Type}{f:α→Bool}{l:List α}{k:Nat}{x:α}(h:(l.take k).any f=false)(hx:l[k]? = some x)(hf:f x=false):(l.take (k+1)).any f=false:=by
 rw [take_succ_get hx,List.any_append,h];simp [hf]
theorem idx_ge{α:Type}(f:α→Bool)(l:List α):decide (0≤idxB f l)=l.any f:=by
 unfold idxB
 cases h:l.findIdx? f with
 | none =>
  rw [List.findIdx?_eq_none_iff] at h
  have:l.any f=false:=List.any_eq_false.2 fun x hx=>by simp [h x hx]
  rw [this];rfl
 | some i =>
  rw [List.findIdx?_eq_some_iff_getElem] at h
  obtain⟨hk,hf,_⟩:=h
  have:l.any f=true:=List.any_eq_true.2 ⟨_,List.getElem_mem hk,hf⟩
  rw [this];simp
attribute [local irreducible] laterOne idxB
set_option maxHeartbeats 2000000 in
set_option maxRecDepth 100000 in
theorem idxLater_any(id:PidM)(v:Value)(vs:List VidM)(g:Nat)(w:World)(hA:Arr w g (encPid id))(hv:GRow encVid 3 w v vs)(hl:vs.length≤1000) :
  Calls Tryz.prog 250 #[v,.func (.func 202) #[] #[.pointer (some ⟨g,0,none⟩)]] w (IxRes w (laterOne id) vs):=by
 obtain⟨a,cap,rfl,h1,h2,hc⟩:=hv.at encVid_len
 unfold maxLen at h2
 have HC:=Lib.hid hc
 have HA:=Lib.hid hA
 clear hv hc hA
 go_enter Tryz.func250,Tryz.ntmps250
 go_wp2_with fail
 go_loopw [8] (fun v8 wr=>∃ k:Nat,k≤vs.length∧v8=.int .i64 k∧Hid ((vs.take k).any (laterOne id)=false)∧Below w.heap.size w wr) (fun v8 _=>vs.length - (intOf v8).toNat)
 case atStart=>exact⟨0,by omega,rfl,(by show _=_;simp),Below.refl _ _⟩
 case round =>
  obtain⟨k,hk,rfl,HK,hbl⟩:=hrel
  by_cases hlt:k<vs.length
  ·
   obtain⟨b,off,rfl,sb,hcb⟩:=HC.out.resolve_left (by omega)
   obtain⟨u,hu⟩:=get_of_lt hlt
   have HU:=Lib.hid (hcb k u hu wr hbl)
   have u0:wr.cell? ⟨b,off+k*3,none⟩=some (.int .u8 u.pid.author.toNat):=(HU.out).2 0 _ rfl
   have u1:wr.cell? ⟨b,off+k*3+1,none⟩=some (.int .u16 u.pid.seq.toNat):=(HU.out).2 1 _ rfl
   have u2:wr.cell? ⟨b,off+k*3+2,none⟩=some (.int .u8 u.n.toNat):=(HU.out).2 2 _ rfl
   have su:=HU.out.1
   have HX:=Lib.hid hu
   clear hcb hu
   go_wp2_with fail
   refine(laterFn_any id u g _ (HA.out.over hbl)).mono ?_
   rintro e w1 ⟨rfl,hb1⟩
   have HB1:=Lib.hid (below_over hbl hbl.size hb1)
   clear hb1 u0 u1 u2 su
   cases hf:laterOne id u with
   | true =>
    have HI:=Lib.hid (idx_hit HK.out HX.out hf)
    clear hf
    go_wp2_with fail
    go_ret
    exact⟨ret_int HI.out.symm,HB1.out⟩
   | false =>
    have HI:=Lib.hid (any_step HK.out HX.out hf)
    clear hf
    go_wp2_with fail
    go_roundw
    case rel=>exact⟨k+1,hlt,by go_num,HI,HB1.out⟩
    case measure=>simp [intOf];omega
  ·
   obtain rfl:k=vs.length:=by omega
   have HI:=Lib.hid (idx_miss HK.out)
   go_wp2_with fail
   go_ret
   exact⟨ret_int HI.out.symm,hbl⟩
set_option maxHeartbeats 2000000 in
set_option maxRecDepth 100000 in
theorem conLater_any(id:PidM)(v:Value)(vs:List VidM)(g:Nat)(w:World)(hA:Arr w g (encPid id))(hv:GRow encVid 3 w v vs)(hl:vs.length≤1000) :
  Calls Tryz.prog 201 #[v,.func (.func 202) #[] #[.pointer (some ⟨g,0,none⟩)]] w fun e w'=>e=.returned (.bool (vs.any (laterOne id)))∧Below w.heap.size w w':=by
 have HI:=Lib.hid (idx_ge (laterOne id) vs)
 have hcon:=idxLater_any id v vs g w hA hv hl
 unfold IxRes at hcon
 generalize idxB (laterOne id) vs=r at *
 generalize vs.any (laterOne id)=q at *
 clear hA hv
 go_enter Tryz.func201,Tryz.ntmps201
 go_wp2_with fail
 refine hcon.mono ?_
 rintro e w1 ⟨rfl,hb1⟩
 have HB:=Lib.hid hb1
 clear hb1 hcon
 go_wp2_with fail
 go_ret
 exact⟨ret_val (congrArg Value.bool HI.out),HB.out⟩
attribute [local irreducible] laterB refsM
set_option maxHeartbeats 2000000 in
set_option maxRecDepth 100000 in
theorem plater_any(id:PidM)(o:OpM)(w:World):Calls Tryz.prog 144 #[pidV id,opV o] w fun e w'=>e=.returned (.bool (laterB id o))∧Below w.heap.size w w':=by
 have HA:=Lib.hid ((arr_new w #[.int .u8 id.author.toNat,.int .u16 id.seq.toNat] 25).alloc (.cells #[.int .u8 o.kind.toNat,.int .u8 o.at'.pid.author.toNat,.int .u16 o.at'.pid.seq.toNat,.int .u8 o.at'.n.toNat,.int .u8 o.to.pid.author.toNat,.int .u16 o.to.pid.seq.toNat,.int .u8 o.to.n.toNat,.string o.text] 96))
 have HB:=Lib.hid ((below_new (w:=w) (.cells #[.int .u8 id.author.toNat,.int .u16 id.seq.toNat] 25)).alloc (by simp) (.cells #[.int .u8 o.kind.toNat,.int .u8 o.at'.pid.author.toNat,.int .u16 o.at'.pid.seq.toNat,.int .u8 o.at'.n.toNat,.int .u8 o.to.pid.author.toNat,.int .u16 o.to.pid.seq.toNat,.int .u8 o.to.n.toNat,.string o.text] 96))
 have hrl:=refs_len o
 have HL:=Lib.hid (laterB_eq id o)
 unfold pidV opV
 go_enter Tryz.func144,Tryz.ntmps144
 go_wp2_with fail
 generalize hw0:(w.alloc (.cells #[.int .u8 id.author.toNat,.int .u16 id.seq.toNat] 25)).alloc (.cells #[.int .u8 o.kind.toNat,.int .u8 o.at'.pid.author.toNat,.int .u16 o.at'.pid.seq.toNat,.int .u8 o.at'.n.toNat,.int .u8 o.to.pid.author.toNat,.int .u16 o.to.pid.seq.toNat,.int .u8 o.to.n.toNat,.string o.text] 96)=w0 at *
 clear hw0
 refine(prefs_any o _).mono ?_
 rintro e w1 ⟨v1,rfl,hv1,hb1⟩
 have HV1:=Lib.hid (RefsAt.vrow hv1)
 have HB1:=Lib.hid hb1
 clear hv1 hb1
 go_wp2_with fail
 refine(conLater_any id v1 (refsM o) _ w1 (HA.out.over HB1.out) HV1.out (by omega)).mono ?_
 rintro e w2 ⟨rfl,hb2⟩
 rw [← HL.out]
 have HB2:=Lib.hid hb2
 clear hb2
 go_wp2_with fail
 go_ret
 exact⟨rfl,below_over HB.out HB.out.size (below_over HB1.out HB1.out.size HB2.out)⟩

set_option maxHeartbeats 4000000 in
set_option maxRecDepth 100000 in
theorem equalPid_any(v u:Value)(l m:List PidM)(w:World)(hv:GRow encPid 2 w v l)(hu:GRow encPid 2 w u m) :
  Calls Tryz.prog 62 #[v,u] w fun e w'=>e=.returned (.bool (decide (l=m)))∧Below w.heap.size w w':=by
 obtain⟨a,cap,rfl,h1,h2,hc⟩:=hv.at encPid_len
 obtain⟨a',cap',rfl,h1',h2',hc'⟩:=hu.at encPid_len
 unfold maxLen at h2 h2'
 have HC:=Lib.hid hc
 have HC':=Lib.hid hc'
 clear hv hu hc hc'
 have gd:=fun p q xs ys w=>guard_pid .neq p q xs ys w
 by_cases hlen:l.length=m.length
 ·
  have HL:=Lib.hid hlen
  have hq:((l.length:Int) != (m.length:Int))=false:=by simp [hlen]
  clear hlen
  go_enter Tryz.func62,Tryz.ntmps62
  go_wp2_with fail
  go_loopw [13] (fun i wr=>∃ k:Nat,k≤l.length∧i=.int .i64 k∧Hid (l.take k=m.take k)∧Below w.heap.size w wr) (fun i _=>l.length - (intOf i).toNat)
  case atStart=>exact⟨0,by omega,rfl,rfl,Below.refl _ _⟩
  case round =>
   obtain⟨k,hk,rfl,HK,hbl⟩:=hrel
   by_cases hlt:k<l.length
   ·
    obtain⟨bl,ol,rfl,sl,hcl⟩:=HC.out.resolve_left (by omega)
    obtain⟨bm,om,rfl,sm,hcm⟩:=HC'.out.resolve_left (by have:=HL.out;omega)
    obtain⟨x,hx⟩:=get_of_lt hlt
    obtain⟨y,hy⟩:=get_of_lt (xs:=m) (i:=k) (by have:=HL.out;omega)
    have hkm:k<m.length:=by have:=HL.out;omega
    have x0:wr.cell? ⟨bl,ol+k*2,none⟩=some (.int .u8 x.author.toNat):=((hcl k x hx wr hbl)).2 0 _ rfl
    have x1:wr.cell? ⟨bl,ol+k*2+1,none⟩=some (.int .u16 x.seq.toNat):=((hcl k x hx wr hbl)).2 1 _ rfl
    have y0:wr.cell? ⟨bm,om+k*2,none⟩=some (.int .u8 y.author.toNat):=((hcm k y hy wr hbl)).2 0 _ rfl
    have y1:wr.cell? ⟨bm,om+k*2+1,none⟩=some (.int .u16 y.seq.toNat):=((hcm k y hy wr hbl)).2 1 _ rfl
    have sX:=(hcl k x hx wr hbl).1
    have sY:=(hcm k y hy wr hbl).1
    have HX:=Lib.hid hx
    have HY:=Lib.hid hy
    clear hcl hcm hx hy
    by_cases hxy:x=y
    ·
     have hne:=neq_pid x y false (by simp [hxy])
     unfold pidV at hne
     have HK2:Hid (l.take (k+1)=m.take (k+1)):=by show _=_;rw [take_succ_get HX.out,take_succ_get HY.out,HK.out,hxy]
     clear hxy
     go_wp2_with fail
     have hcur:Below wr.heap.size wr wr.drew:=(Below.refl _ _).drew
     refine wp_region_lex (C:=IsOver wr) 9 [] (by kernel_rfl) (by kernel_rfl) (isOver_of hcur) ?_
     simp only [List.take_succ_cons,List.take_zero,List.drop_succ_cons,List.drop_zero]
     repeat(first|(refine lex_skip rfl rfl ?_;simp only [Act.put,List.setIfInBounds_toArray,List.set_cons_succ,List.set_cons_zero])|(refine lex_one rfl ?_;go_big_quiet_step (fail);refine wpQuiet_nil ?_))
     refine lex_end ?_
     go_wp2_with fail
     go_roundw
     case rel=>exact⟨k+1,hlt,by go_num,HK2,hbl.drew⟩
     case measure=>simp [intOf];omega
    ·
     have hne:=neq_pid x y true (by simp [hxy])
     unfold pidV at hne
     have HN:Hid (decide (l=m)=false):=decide_eq_false (take_ne HX.out HY.out hxy)
     clear hxy
     go_wp2_with fail
     have hcur:Below wr.heap.size wr wr.drew:=(Below.refl _ _).drew
     refine wp_region_lex (C:=IsOver wr) 9 [] (by kernel_rfl) (by kernel_rfl) (isOver_of hcur) ?_
     simp only [List.take_succ_cons,List.take_zero,List.drop_succ_cons,List.drop_zero]
     repeat(first|(refine lex_skip rfl rfl ?_;simp only [Act.put,List.setIfInBounds_toArray,List.set_cons_succ,List.set_cons_zero])|(refine lex_one rfl ?_;go_big_quiet_step (fail);refine wpQuiet_nil ?_))
     refine lex_end ?_
     go_wp2_with fail
     go_ret
     exact⟨ret_val (congrArg Value.bool HN.out.symm),hbl.drew⟩
   ·
    obtain rfl:k=l.length:=by omega
    have HN:Hid (decide (l=m)=true):=decide_eq_true (take_all HL.out HK.out)
    go_wp2_with fail
    go_ret
    exact⟨ret_val (congrArg Value.bool HN.out.symm),hbl⟩
 ·
  have HN:Hid (decide (l=m)=false):=decide_eq_false (fun h=>hlen (by rw [h]))
  have hq:((l.length:Int) != (m.length:Int))=true:=by simp;omega
  clear hlen
  go_enter Tryz.func62,Tryz.ntmps62
  go_wp2_with fail
  go_ret
  exact⟨ret_val (congrArg Value.bool HN.out.symm),Below.refl _ _⟩
end Go.Proofs.YtanfebljiblhbaaGreatDoor
namespace Go.Proofs.YtanfebljiblhbaaGreatDoor
open Go Go.RowKit

abbrev patV(id:PidM)(dv ov:Value):Value:=.agg #[.int .u8 id.author.toNat,.int .u16 id.seq.toNat,dv,ov]
/-- the kind of a vertex, if it is of the patch itself -/
def kindM(id:PidM)(ops:List OpM)(v:VidM):Option UInt8:=if v.pid=id then(ops[v.n.toNat]?).map (·.kind) else none
def kindV(k:Option UInt8):Value:=.tuple #[.int .u8 ((k.getD 0).toNat:Int),.bool k.isSome]
def KindRes(w:World)(k:Option UInt8)(e:Ending)(w':World):Prop:=e=.returned (kindV k)∧Below w.heap.size w w'
theorem kind_far{id:PidM}{ops:List OpM}{v:VidM}(h:¬ v.pid=id):kindM id ops v=none:=by unfold kindM;rw [if_neg h]
theorem kind_out{id:PidM}{ops:List OpM}{v:VidM}(h:ops.length≤v.n.toNat):kindM id ops v=none:=by
 unfold kindM;split
 ·
  rw [List.getElem?_eq_none h];rfl
 ·
  rfl
theorem kind_in{id:PidM}{ops:List OpM}{v:VidM}(h:v.pid=id){o:OpM}(ho:ops[v.n.toNat]? = some o):kindM id ops v=some o.kind:=by unfold kindM;rw [if_pos h,ho];rfl
theorem get_op{ops:List OpM}{n:Nat}(h:n<ops.length):∃ o,ops[n]? = some o:=get_of_lt h
attribute [local irreducible] kindM
set_option maxHeartbeats 4000000 in
set_option maxRecDepth 100000 in
theorem pkind_any(id:PidM)(dv ov:Value)(ops:List OpM)(v:VidM)(w:World)(hv:GRow encOp 8 w ov ops) :
  Calls Tryz.prog 203 #[patV id dv ov,vidV v] w (KindRes w (kindM id ops v)):=by
 obtain⟨a,cap,rfl,h1,h2,hc⟩:=hv.at encOp_len
 unfold maxLen at h2
 have HC:=Lib.hid hc
 have HP:=Lib.hid ((arr_new w #[.int .u8 id.author.toNat,.int .u16 id.seq.toNat,dv,.slice a ops.length cap] 71).alloc (.cells #[.int .u8 v.pid.author.toNat,.int .u16 v.pid.seq.toNat,.int .u8 v.n.toNat] 27))
 have HV:=Lib.hid (arr_new2 w (.cells #[.int .u8 id.author.toNat,.int .u16 id.seq.toNat,dv,.slice a ops.length cap] 71) #[.int .u8 v.pid.author.toNat,.int .u16 v.pid.seq.toNat,.int .u8 v.n.toNat] 27)
 have HB:=Lib.hid ((below_new (w:=w) (.cells #[.int .u8 id.author.toNat,.int .u16 id.seq.toNat,dv,.slice a ops.length cap] 71)).alloc (by simp) (.cells #[.int .u8 v.pid.author.toNat,.int .u16 v.pid.seq.toNat,.int .u8 v.n.toNat] 27))
 have gd:=fun p q xs ys w=>guard_pid .neq p q xs ys w
 have hnl:=v.n.toNat_lt
 clear hv hc
 unfold patV vidV
 go_enter Tryz.func203,Tryz.ntmps203
 go_upto_region 1 with(fail)
 generalize hw0:(w.alloc (.cells #[.int .u8 id.author.toNat,.int .u16 id.seq.toNat,dv,.slice a ops.length cap] 71)).alloc (.cells #[.int .u8 v.pid.author.toNat,.int .u16 v.pid.seq.toNat,.int .u8 v.n.toNat] 27)=w0 at *
 clear hw0
 have p0:=HP.out.cell (j:=0) rfl
 have p1:=HP.out.cell (j:=1) rfl
 have p2:=HP.out.cell (j:=2) rfl
 have p3:=HP.out.cell (j:=3) rfl
 have sp:=HP.out.lt
 have v0:=HV.out.cell (j:=0) rfl
 have v1:=HV.out.cell (j:=1) rfl
 have v2:=HV.out.cell (j:=2) rfl
 have sv:=HV.out.lt
 by_cases hp:v.pid=id
 ·
  have e1:=neq_pid v.pid id false (by simp [hp])
  unfold pidV at e1
  by_cases hn:ops.length≤v.n.toNat
  ·
   have e2:decide (ops.length≤v.n.toNat)=true:=by simpa using hn
   have HK:=Lib.hid (kind_out (id:=id) hn)
   clear hp hn
   go_wp2_with fail
   go_ret2
   exact⟨(by rw [HK.out];rfl),HB.out⟩
  ·
   have e2:decide (ops.length≤v.n.toNat)=false:=by simpa using hn
   obtain⟨b,off,rfl,sb,hcb⟩:=HC.out.resolve_left (by omega)
   obtain⟨o,ho⟩:=get_op (show v.n.toNat<ops.length by omega)
   have HO:=Lib.hid (hcb v.n.toNat o ho w0 HB.out)
   have HK:=Lib.hid (kind_in hp ho)
   have o0:w0.cell? ⟨b,off+v.n.toNat*8,none⟩=some (.int .u8 o.kind.toNat):=HO.out.2 0 _ rfl
   have so:=HO.out.1
   have hlt:v.n.toNat<ops.length:=by omega
   clear hp hn hcb ho
   go_wp2_with fail
   go_ret2
   exact⟨(by rw [HK.out];rfl),HB.out⟩
 ·
  have e1:=neq_pid v.pid id true (by simp [hp])
  unfold pidV at e1
  have HK:=Lib.hid (kind_far (ops:=ops) hp)
  clear hp
  go_wp2_with fail
  go_ret2
  exact⟨(by rw [HK.out];rfl),HB.out⟩

def wantK(o:OpM):UInt8:=if o.kind=4 then 3 else 1
def kindOkB(id:PidM)(ops:List OpM)(o:OpM)(v:VidM):Bool:=match kindM id ops v with|some k=>k == wantK o|none=>true
def sameAtB(id:PidM)(ops:List OpM)(o:OpM):Bool:=if o.kind=4∧o.at'.pid=id∧o.to.pid=id then decide ((ops[o.at'.n.toNat]?).map (·.at')=(ops[o.to.n.toNat]?).map (·.at')) else true
def suitsM(id:PidM)(ops:List OpM)(o:OpM):Bool:=(refsM o).all (kindOkB id ops o) && sameAtB id ops o
theorem want4{o:OpM}(h:o.kind.toNat=4):wantK o=3:=by unfold wantK;have:o.kind=4:=(u8_nat _ 4 (by omega)).2 h;rw [if_pos this]
theorem want1{o:OpM}(h:¬ o.kind.toNat=4):wantK o=1:=by unfold wantK;have:¬ o.kind=4:=fun e=>h ((u8_nat _ 4 (by omega)).1 e);rw [if_neg this]
theorem suits_no{id:PidM}{ops:List OpM}{o:OpM}{k:Nat}{v:VidM}(hv:(refsM o)[k]? = some v)(h:kindOkB id ops o v=false):suitsM id ops o=false:=by
 unfold suitsM
 have:(refsM o).all (kindOkB id ops o)=false:=List.all_eq_false.2 ⟨v,List.mem_of_getElem? hv,by simp [h]⟩
 rw [this];rfl
theorem suits_end{id:PidM}{ops:List OpM}{o:OpM}(h:((refsM o).take (refsM o).length).all (kindOkB id ops o)=true):suitsM id ops o=sameAtB id ops o:=by
 rw [List.take_length] at h;unfold suitsM;rw [h];rfl
theorem all_take'{α:Type}{f:α→Bool}{l:List α}{k:Nat}{x:α}(hx:l[k]? = some x)(h:(l.take k).all f=true)(hf:f x=true):(l.take (k+1)).all f=true:=by
 rw [take_succ_get hx,List.all_append,h];simp [hf]
theorem sameAt_not{id:PidM}{ops:List OpM}{o:OpM}(h:¬ (o.kind.toNat=4∧o.at'.pid=id∧o.to.pid=id)):sameAtB id ops o=true:=by
 unfold sameAtB;rw [if_neg];rintro⟨h1,h2,h3⟩;exact h ⟨(u8_nat _ 4 (by omega)).1 h1,h2,h3⟩
theorem sameAt_yes{id:PidM}{ops:List OpM}{o a b:OpM}(h:o.kind.toNat=4)(h1:o.at'.pid=id)(h2:o.to.pid=id)(ha:ops[o.at'.n.toNat]? = some a)(hb:ops[o.to.n.toNat]? = some b):sameAtB id ops o=decide (a.at'=b.at'):=by
 unfold sameAtB;rw [if_pos ⟨(u8_nat _ 4 (by omega)).2 h,h1,h2⟩,ha,hb];simp
attribute [local irreducible] refsM kindOkB sameAtB suitsM wantK
set_option maxHeartbeats 10000000 in
set_option maxRecDepth 100000 in
theorem psuits_any(id:PidM)(dv ov:Value)(ops:List OpM)(o:OpM)(w:World)(hv:GRow encOp 8 w ov ops)(hown:∀ v∈refsM o,v.pid=id→v.n.toNat<ops.length) :
  Calls Tryz.prog 145 #[patV id dv ov,opV o] w fun e w'=>e=.returned (.bool (suitsM id ops o))∧Below w.heap.size w w':=by
 have HV0:=Lib.hid hv
 obtain⟨a,cap,rfl,h1,h2,hc⟩:=hv.at encOp_len
 unfold maxLen at h2
 have HC:=Lib.hid hc
 have HW:=Lib.hid hown
 have HP:=Lib.hid ((arr_new w #[.int .u8 id.author.toNat,.int .u16 id.seq.toNat,dv,.slice a ops.length cap] 71).alloc (.cells #[.int .u8 o.kind.toNat,.int .u8 o.at'.pid.author.toNat,.int .u16 o.at'.pid.seq.toNat,.int .u8 o.at'.n.toNat,.int .u8 o.to.pid.author.toNat,.int .u16 o.to.pid.seq.toNat,.int .u8 o.to.n.toNat,.string o.text] 96))
 have HO:=Lib.hid (arr_new2 w (.cells #[.int .u8 id.author.toNat,.int .u16 id.seq.toNat,dv,.slice a ops.length cap] 71) #[.int .u8 o.kind.toNat,.int .u8 o.at'.pid.author.toNat,.int .u16 o.at'.pid.seq.toNat,.int .u8 o.at'.n.toNat,.int .u8 o.to.pid.author.toNat,.int .u16 o.to.pid.seq.toNat,.int .u8 o.to.n.toNat,.string o.text] 96)
 have HB:=Lib.hid ((below_new (w:=w) (.cells #[.int .u8 id.author.toNat,.int .u16 id.seq.toNat,dv,.slice a ops.length cap] 71)).alloc (by simp) (.cells #[.int .u8 o.kind.toNat,.int .u8 o.at'.pid.author.toNat,.int .u16 o.at'.pid.seq.toNat,.int .u8 o.at'.n.toNat,.int .u8 o.to.pid.author.toNat,.int .u16 o.to.pid.seq.toNat,.int .u8 o.to.n.toNat,.string o.text] 96))
 have gd:=fun p q xs ys w=>guard_pid .eql p q xs ys w
 have gd2:=fun p q xs ys w=>guard_vid .eql p q xs ys w
 have hrl:=refs_len o
 clear hv hc hown
 unfold patV opV
 go_enter Tryz.func145,Tryz.ntmps145
 go_upto_if 12 with(fail)
 generalize hw0:(w.alloc (.cells #[.int .u8 id.author.toNat,.int .u16 id.seq.toNat,dv,.slice a ops.length cap] 71)).alloc (.cells #[.int .u8 o.kind.toNat,.int .u8 o.at'.pid.author.toNat,.int .u16 o.at'.pid.seq.toNat,.int .u8 o.at'.n.toNat,.int .u8 o.to.pid.author.toNat,.int .u16 o.to.pid.seq.toNat,.int .u8 o.to.n.toNat,.string o.text] 96)=w0 at *
 clear hw0
 have HV:=Lib.hid (HV0.out.over HB.out)
 go_cut [5] (fun s5 wx=>s5=.int .u8 ((wantK o).toNat:Int)∧wx=w0)
 case first =>
  have o0:=HO.out.cell (j:=0) rfl
  have so:=HO.out.lt
  by_cases h4:o.kind.toNat=4
  ·
   have e1:((o.kind.toNat:Int) == 4)=true:=by simp;omega
   have HWk:=Lib.hid (want4 h4)
   clear h4
   go_wp2_with fail
   go_meet
   exact⟨by rw [HWk.out];rfl,rfl⟩
  ·
   have e1:((o.kind.toNat:Int) == 4)=false:=by simp;omega
   have HWk:=Lib.hid (want1 h4)
   clear h4
   go_wp2_with fail
   go_meet
   exact⟨by rw [HWk.out];rfl,rfl⟩
 case rest =>
  obtain⟨rfl,rfl⟩:=hcut
  rename World=>w0
  have o0:=HO.out.cell (j:=0) rfl
  have o1:=HO.out.cell (j:=1) rfl
  have o2:=HO.out.cell (j:=2) rfl
  have o3:=HO.out.cell (j:=3) rfl
  have o4:=HO.out.cell (j:=4) rfl
  have o5:=HO.out.cell (j:=5) rfl
  have o6:=HO.out.cell (j:=6) rfl
  have o7:=HO.out.cell (j:=7) rfl
  have so:=HO.out.lt
  go_wp2_with fail
  refine(prefs_any o _).mono ?_
  rintro e w1 ⟨v1,rfl,hv1,hb1⟩
  obtain⟨a1,cap1,rfl,q1,q2,hc1⟩:=(GRow.at encVid_len (RefsAt.vrow hv1))
  unfold maxLen at q2
  have HC1:=Lib.hid hc1
  have HB1:=Lib.hid hb1
  clear hv1 hb1 hc1 o0 o1 o2 o3 o4 o5 o6 o7 so
  go_wp2_with fail
  go_loopw [16] (fun v16 wr=>∃ k:Nat,k≤(refsM o).length∧v16=.int .i64 k∧Hid (((refsM o).take k).all (kindOkB id ops o)=true)∧Below w1.heap.size w1 wr) (fun v16 _=>(refsM o).length - (intOf v16).toNat)
  case atStart=>exact⟨0,by omega,rfl,(by show _=_;simp),Below.refl _ _⟩
  case round =>
   obtain⟨k,hk,rfl,HK,hbl⟩:=hrel
   have HBw:=Lib.hid (below_over HB1.out HB1.out.size hbl)
   by_cases hlt:k<(refsM o).length
   ·
    obtain⟨b,off,rfl,sb,hcb⟩:=HC1.out.resolve_left (by omega)
    obtain⟨v,hv⟩:=get_of_lt hlt
    have HVd:=Lib.hid (hcb k v hv wr hbl)
    have v0:wr.cell? ⟨b,off+k*3,none⟩=some (.int .u8 v.pid.author.toNat):=(HVd.out).2 0 _ rfl
    have v1:wr.cell? ⟨b,off+k*3+1,none⟩=some (.int .u16 v.pid.seq.toNat):=(HVd.out).2 1 _ rfl
    have v2:wr.cell? ⟨b,off+k*3+2,none⟩=some (.int .u8 v.n.toNat):=(HVd.out).2 2 _ rfl
    have sv:=HVd.out.1
    have HX:=Lib.hid hv
    have HPw:=Lib.hid ((HP.out.over HBw.out))
    have p0:=HPw.out.cell (j:=0) rfl
    have p1:=HPw.out.cell (j:=1) rfl
    have p2:=HPw.out.cell (j:=2) rfl
    have p3:=HPw.out.cell (j:=3) rfl
    have sp:=HPw.out.lt
    have HBv:Hid (Below wr.heap.size wr (wr.alloc (.cells #[.int .u8 v.pid.author.toNat,.int .u16 v.pid.seq.toNat,.int .u8 v.n.toNat] 27))):=below_new _
    have HVw:=Lib.hid ((HV.out.over HBw.out).over HBv.out)
    clear hcb hv
    go_wp2_with fail
    refine(pkind_any id dv _ ops v _ HVw.out).mono ?_
    rintro e w2 ⟨rfl,hb2⟩
    have HB2:=Lib.hid (below_over (below_over hbl hbl.size HBv.out) (by have:=hbl.size;simp;omega) hb2)
    have HB3:=Lib.hid (below_over HB.out HB.out.size (below_over HB1.out HB1.out.size HB2.out))
    clear hb2 v0 v1 v2 sv p0 p1 p2 p3 sp
    unfold kindV
    cases hkm:kindM id ops v with
    | none =>
     have HKo:Hid (kindOkB id ops o v=true):=by show _=_;unfold kindOkB;rw [hkm]
     have HN:=Lib.hid (all_take' HX.out HK.out HKo.out)
     clear hkm
     go_wp2_with fail
     go_roundw
     case rel=>exact⟨k+1,hlt,by go_num,HN,HB2.out⟩
     case measure=>simp [intOf];omega
    | some q =>
     by_cases hq:q=wantK o
     ·
      have HKo:Hid (kindOkB id ops o v=true):=by show _=_;unfold kindOkB;rw [hkm];simp [hq]
      have HN:=Lib.hid (all_take' HX.out HK.out HKo.out)
      have e1:((q.toNat:Int) != ((wantK o).toNat:Int))=false:=by simp [hq]
      clear hkm hq
      go_wp2_with fail
      go_roundw
      case rel=>exact⟨k+1,hlt,by go_num,HN,HB2.out⟩
      case measure=>simp [intOf];omega
     ·
      have HKo:Hid (kindOkB id ops o v=false):=by show _=_;unfold kindOkB;rw [hkm];simp [hq]
      have HN:=Lib.hid (suits_no HX.out HKo.out)
      have e1:((q.toNat:Int) != ((wantK o).toNat:Int))=true:=by
       simp;intro h;exact hq (UInt8.toNat_inj.1 (by omega))
      clear hkm hq
      go_wp2_with fail
      go_ret
      exact⟨ret_val (congrArg Value.bool HN.out.symm),HB3.out⟩
   ·
    obtain rfl:k=(refsM o).length:=by omega
    have HE:=Lib.hid (suits_end HK.out)
    have HBe:=Lib.hid (below_over HB.out HB.out.size HBw.out)
    have HOw:=Lib.hid ((HO.out.over HBw.out))
    have HPw:=Lib.hid ((HP.out.over HBw.out))
    have o0:=HOw.out.cell (j:=0) rfl
    have o1:=HOw.out.cell (j:=1) rfl
    have o2:=HOw.out.cell (j:=2) rfl
    have o3:=HOw.out.cell (j:=3) rfl
    have o4:=HOw.out.cell (j:=4) rfl
    have o5:=HOw.out.cell (j:=5) rfl
    have o6:=HOw.out.cell (j:=6) rfl
    have so:=HOw.out.lt
    have p0:=HPw.out.cell (j:=0) rfl
    have p1:=HPw.out.cell (j:=1) rfl
    have p3:=HPw.out.cell (j:=3) rfl
    have sp:=HPw.out.lt
    by_cases h4:o.kind.toNat=4
    ·
     have e1:((o.kind.toNat:Int) == 4)=true:=by simp;omega
     by_cases ha:o.at'.pid=id
     ·
      have e2:=eql_pid o.at'.pid id true (by simp [ha])
      unfold pidV at e2
      by_cases hb:o.to.pid=id
      ·
       have e3:=eql_pid o.to.pid id true (by simp [hb])
       unfold pidV at e3
       have hr2:=refs_two h4
       have hla:=HW.out o.at' (by rw [hr2];simp) ha
       have hlb:=HW.out o.to (by rw [hr2];simp) hb
       obtain⟨b,off,rfl,sb,hcb⟩:=HC.out.resolve_left (by omega)
       obtain⟨x,hx⟩:=get_op hla
       obtain⟨y,hy⟩:=get_op hlb
       have HXa:=Lib.hid (hcb _ x hx wr HBe.out)
       have HYa:=Lib.hid (hcb _ y hy wr HBe.out)
       have HS:=Lib.hid (sameAt_yes h4 ha hb hx hy)
       have x1:wr.cell? ⟨b,off+o.at'.n.toNat*8+1,none⟩=some (.int .u8 x.at'.pid.author.toNat):=HXa.out.2 1 _ rfl
       have x2:wr.cell? ⟨b,off+o.at'.n.toNat*8+2,none⟩=some (.int .u16 x.at'.pid.seq.toNat):=HXa.out.2 2 _ rfl
       have x3:wr.cell? ⟨b,off+o.at'.n.toNat*8+3,none⟩=some (.int .u8 x.at'.n.toNat):=HXa.out.2 3 _ rfl
       have y1:wr.cell? ⟨b,off+o.to.n.toNat*8+1,none⟩=some (.int .u8 y.at'.pid.author.toNat):=HYa.out.2 1 _ rfl
       have y2:wr.cell? ⟨b,off+o.to.n.toNat*8+2,none⟩=some (.int .u16 y.at'.pid.seq.toNat):=HYa.out.2 2 _ rfl
       have y3:wr.cell? ⟨b,off+o.to.n.toNat*8+3,none⟩=some (.int .u8 y.at'.n.toNat):=HYa.out.2 3 _ rfl
       have sxy:=HXa.out.1
       have e4:=eql_vid x.at' y.at' _ rfl
       unfold vidV at e4
       generalize decide (x.at'=y.at')=q at *
       have hna:=o.at'.n.toNat_lt
       have hnb:=o.to.n.toNat_lt
       clear h4 ha hb hr2 hcb hx hy
       go_wp2_with fail
       have hcur:Below wr.heap.size wr wr.drew:=(Below.refl _ _).drew
       refine wp_region_lex (C:=IsOver wr) 17 [] (by kernel_rfl) (by kernel_rfl) (isOver_of hcur) ?_
       simp only [List.take_succ_cons,List.take_zero,List.drop_succ_cons,List.drop_zero]
       repeat(first|(refine lex_skip rfl rfl ?_;simp only [Act.put,List.setIfInBounds_toArray,List.set_cons_succ,List.set_cons_zero])|(refine lex_one rfl ?_;go_big_quiet_step (fail);refine wpQuiet_nil ?_))
       refine lex_end ?_
       go_wp2_with fail
       go_ret
       exact⟨ret_val (congrArg Value.bool (HE.out.trans HS.out).symm),below_over HB.out HB.out.size (below_over HB1.out HB1.out.size hbl.drew)⟩
      ·
       have e3:=eql_pid o.to.pid id false (by simp [hb])
       unfold pidV at e3
       have HS:Hid (sameAtB id ops o=true):=sameAt_not (fun h=>hb h.2.2)
       clear h4 ha hb
       go_wp2_with fail
       go_ret
       exact⟨ret_val (congrArg Value.bool (HE.out.trans HS.out).symm),HBe.out⟩
     ·
      have e2:=eql_pid o.at'.pid id false (by simp [ha])
      unfold pidV at e2
      have HS:Hid (sameAtB id ops o=true):=sameAt_not (fun h=>ha h.2.1)
      clear h4 ha
      go_wp2_with fail
      go_ret
      exact⟨ret_val (congrArg Value.bool (HE.out.trans HS.out).symm),HBe.out⟩
    ·
     have e1:((o.kind.toNat:Int) == 4)=false:=by simp;omega
     have HS:Hid (sameAtB id ops o=true):=sameAt_not (fun h=>h4 h.1)
     clear h4
     go_wp2_with fail
     go_ret
     exact⟨ret_val (congrArg Value.bool (HE.out.trans HS.out).symm),HBe.out⟩
end Go.Proofs.YtanfebljiblhbaaGreatDoor
