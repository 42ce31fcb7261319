/- Slices that are read, rows that a call owns, and the laws of append and make in those words. A variable that is a whole row of cells (an array, a struct): reading and writing it. General words for slices, strings and structs that lie in old memory, and for what a call makes itself. -/
import Derived.Test.YtanfebljiblhbaaGreatDoorHBase
import Derived.Test.YtanfebljiblhbaaGreatDoorHLex
import Derived.Lib.SlBytesConst
import Derived.Stop.BytesEq
set_option linter.unusedVariables false
set_option linter.unusedSimpArgs false
namespace Go.Proofs.YtanfebljiblhbaaGreatDoor
open Go Go.RowKit

/-- the slice v has n elements of sz cells each; the cells hold cs -/
def Row(w:World)(v:Value)(n sz:Nat)(cs:List Value):Prop:=
 cs.length=n*sz∧∃ a cap,v=.slice a n cap∧n≤cap∧cap≤maxLen∧(a=none→cap=0) ∧
  (n≠0→∃ b off,a=some ⟨b,off,none⟩∧b<w.heap.size∧∀ j u,cs[j]? = some u→w.cell? ⟨b,off+j,none⟩=some u)

theorem row_nil(w:World)(sz:Nat):Row w (.slice none 0 0) 0 sz []:=⟨by simp,none,0,rfl,Nat.le_refl _,Nat.zero_le _,fun _=>rfl,fun h=>absurd rfl h⟩
theorem Row.keep{w w':World}{v:Value}{n sz:Nat}{cs:List Value}(h:Row w v n sz cs)(hs:w.heap.size≤w'.heap.size)(hb:∀ b,v.ownBlock=some b→b<w.heap.size→w'.heap[b]? = w.heap[b]?):Row w' v n sz cs:=by
 obtain⟨h1,a,cap,rfl,h2,h3,h4,h5⟩:=h
 refine⟨h1,a,cap,rfl,h2,h3,h4,fun hn => ?_⟩
 obtain⟨b,off,rfl,hlt,hc⟩:=h5 hn
 refine⟨b,off,rfl,Nat.lt_of_lt_of_le hlt hs,fun j u hu => ?_⟩
 rw [World.cell?_of_block (w:=w) (hb b rfl hlt)]
 exact hc j u hu
theorem Row.over{w w':World}{v:Value}{n sz:Nat}{cs:List Value}(h:Row w v n sz cs)(hb:Below w.heap.size w w'):Row w' v n sz cs:=h.keep hb.size fun b _ hlt=>hb.block b hlt
theorem Row.below{B:Nat}{w0 w:World}{v:Value}{n sz:Nat}{cs:List Value}(h:Row w0 v n sz cs)(hB:w0.heap.size≤B)(hb:Below B w0 w):Row w v n sz cs:=h.over (hb.mono hB)
theorem Row.drew{w:World}{v:Value}{n sz:Nat}{cs:List Value}(h:Row w v n sz cs):Row w.drew v n sz cs:=h
theorem own_row{w:World}{base:Nat}{e:TypeId}{sz:Nat}{v:Value}{n:Nat}{cs:List Value}(h:w.ownsRow base e sz v n cs):Row w v n sz cs:=by
 obtain⟨h1,h2⟩:=h
 rcases h2 with⟨rfl,rfl⟩|⟨g,cap,cur,rfl,hb,hg,hn,hm,hs,ht⟩
 ·
  exact⟨h1,none,0,rfl,Nat.le_refl _,Nat.zero_le _,fun _=>rfl,fun h=>absurd rfl h⟩
 ·
  refine⟨h1,_,cap,rfl,hn,hm,(fun h=>by cases h),fun _=>⟨g,0,rfl,(Array.getElem?_eq_some_iff.1 hg).1,fun j u hu => ?_⟩⟩
  have:=World.ownsRow.cells (w:=w) (base:=base) (e:=e) (size:=sz) (v:=.slice (some ⟨g,0,none⟩) n cap) (n:=n) (xs:=cs) ⟨h1,.inr ⟨g,cap,cur,rfl,hb,hg,hn,hm,hs,ht⟩⟩ (g:=g) rfl j u hu
  rw [Addr.add_lit] at this
  exact this

/-- what a slice's type says -/
structure SlT (P:Program) (t e:TypeId) (size bytes:Nat):Prop where
 out:∃ i z,P.underlying t=some (.slice e)∧P.info? e=some i∧i.zero=some z∧i.size=size∧i.bytes=bytes∧z.cells.size=size∧0<size
theorem slT_of{P:Program}{t e:TypeId}{size bytes:Nat}(h1:P.underlying t=some (.slice e))
  (h2:((P.info? e).bind fun i=>i.zero.map fun z=>(i.size,i.bytes,z.cells.size))=some (size,bytes,size)) (h3:0<size):SlT P t e size bytes:=by
 cases hi:P.info? e with
 | none=>simp [hi] at h2
 | some i =>
  cases hz:i.zero with
  | none=>simp [hi,hz] at h2
  | some z =>
   simp [hi,hz] at h2
   exact⟨i,z,h1,hi,hz,h2.1,h2.2.1,h2.2.2,h3⟩

/-- .. whose elements are one cell, z if nothing was stored -/
structure SlZ (P:Program) (t e:TypeId) (z:Value) (bytes:Nat):Prop where
 out:∃ i,P.underlying t=some (.slice e)∧P.info? e=some i∧i.zero=some z∧i.size=1∧i.bytes=bytes∧z.cells=#[z]
theorem slZ_of{P:Program}{t e:TypeId}{z:Value}{bytes:Nat}(h1:P.underlying t=some (.slice e))
  (h2:(P.info? e).map (fun i=>(i.zero,i.size,i.bytes))=some (some z,1,bytes)) (h3:z.cells=#[z]):SlZ P t e z bytes:=by
 cases hi:P.info? e with
 | none=>simp [hi] at h2
 | some i=>simp [hi] at h2;exact⟨i,h1,hi,h2.1,h2.2.1,h2.2.2,h3⟩

section
variable {P : Program} {t e : TypeId} {size bytes : Nat} {w : World} {ops : Array Oper} {rest : List Oper} {o : Oper} {a : Act} {Q : Exit → Act → World → Prop}

theorem wpList_append_row(T:SlT P t e size bytes)(hgd:o.guard=none)(s x:Operand)
  (ho:o.op=.call {callee:=.builtin .append,args:=#[s,x],argTypes:=#[t,t]})
  (base:Nat) (v:Value) (n:Nat) (xs:List Value) (hown:w.ownsRow base e size v n xs) (hs:a.eval s=v)
  (vx:Value) (m:Nat) (news:List Value) (hrow:Row w vx m size news) (hx:a.eval x=vx) (h1:∀ u∈news,u.oneCell'=true)
  (h63:n+m≤maxLen) (hbytes:(n+m)*bytes≤140737488355328) (hbase:base≤w.heap.size)
  (h:∀ v' w',w'.ownsRow base e size v' (n+m) (xs++news)→w.grownBy w' v.ownBlock→wpList P ops Q rest (a.put o.dst v') w'):wpList P ops Q (o :: rest) a w:=by
 obtain⟨i,z,ht,hi,hz,hsize,hby,hzs,hsz⟩:=T.out
 obtain⟨hl,ad,cap,rfl,hmc,_,hnil,hc⟩:=hrow
 cases ad with
 | none =>
  have h0:=hnil rfl
  subst h0
  have hm:m=0:=by omega
  subst hm
  have hn0:news=[]:=List.eq_nil_of_length_eq_zero (by simpa using hl)
  subst hn0
  refine wpList_plain hgd fun K hK => ?_
  have hr:=run_append_owned_none (P:=P) w base t o.type e i size ht hi v n xs hown
  unfold Oper.wp execOp
  simp only [ho,resolve,invoke,builtin,Sem.run_bind,Sem.run_pure,Result.andThen_ok,List.map_toArray,List.map_cons,List.map_nil,hs,hx,hr]
  exact hK _ _ (h v w (by simpa using hown) ⟨rfl,rfl,rfl,Nat.le_refl _,fun _ _ _=>rfl⟩)
 | some ad =>
  refine wpList_append_own w hgd s x t ho base e i z size bytes ht hi hz hsize hby hzs hsz v n xs hs hown ad m cap news hx hl ?_ h1 h63 hbytes hbase fun v' w' h2 h3 _=>h v' w' h2 h3
  intro j u hu
  have hm:m≠0:=by
   intro hm
   rw [hm,Nat.zero_mul] at hl
   rw [List.eq_nil_of_length_eq_zero hl] at hu
   cases hu
  obtain⟨b,off,hb,_,hcell⟩:=hc hm
  cases hb
  rw [Addr.add_lit]
  exact hcell j u hu

theorem wpList_make_zeros{z:Value}(T:SlZ P t e z bytes)(hgd:o.guard=none)(l c:Operand)(hop:o.op=Op.makeSlice t l c)
  (base:Nat) (n:Nat) (C:Int) (hl:a.eval l=.int .i64 C) (hc:a.eval c=.int .i64 C) (hC:C=(n:Int)) (b2:bytes*n≤281474976710656) (b3:n≤maxLen) (b4:base≤w.heap.size)
  (hK:∀ w',w'.ownsRow base e 1 (.slice (some ⟨w.heap.size,0,none⟩) n n) n (List.replicate n z)→w.grownBy w' none→wpList P ops Q rest (a.put o.dst (.slice (some ⟨w.heap.size,0,none⟩) n n)) w') :
  wpList P ops Q (o :: rest) a w:=by
 obtain⟨i,h1,h2,h3,h4,h5,h6⟩:=T.out
 subst h5
 refine wpList_make_full w hgd l c t hop base e i z 1 h1 h2 h3 h4 .i64 .i64 C C n hl hc hC hC b2 b3 b4 fun w' ho hg=>hK w' ?_ hg
 rw [h6,Nat.mul_one,toList_madeCells_one] at ho
 exact ho

/-- what came from a place behind the row's head, in words of the world ahead of the new block -/
theorem grown_alloc{w w':World}{o:Obj}{row:Option Nat}(h:(w.alloc o).grownBy w' row):w.grownBy w' row:=
 ⟨h.os,h.tape,h.output,Nat.le_trans (by simp) h.size,fun k hk hr=>(h.block k (by simp;omega) hr).trans (Below.heap_alloc _ _ _ hk)⟩

/-- 'append(s, x, ..)': the new elements lie in a block of their own -/
theorem wpList_append_new(T:SlT P t e size bytes)(hgd:o.guard=none)(s x:Operand)
  (ho:o.op=.call {callee:=.builtin .append,args:=#[s,x],argTypes:=#[t,t]})
  (base:Nat) (cs:Array Value) (e2:TypeId) (m:Nat) (v:Value) (n:Nat) (xs:List Value) (hown:w.ownsRow base e size v n xs) (hs:a.eval s=v)
  (hx:a.eval x=.slice (some ⟨w.heap.size,0,none⟩) m m) (hcs:cs.size=m*size) (h1:cs.toList.all (fun u=>u.oneCell')=true)
  (hN:n+m≤1099511627776) (hby:bytes≤128) (hbase:base≤w.heap.size)
  (h:∀ v' w',w'.ownsRow base e size v' (n+m) (xs++cs.toList)→w.grownBy w' v.ownBlock→wpList P ops Q rest (a.put o.dst v') w'):wpList P ops Q (o :: rest) a (w.alloc (.cells cs e2)):=by
 have hb:(n+m)*bytes≤1099511627776*128:=Nat.mul_le_mul hN hby
 have hN':n+m≤maxLen:=by unfold maxLen;omega
 refine wpList_append_row T hgd s x ho base v n xs (hown.alloc _) hs _ m cs.toList (own_row (World.ownsRow_lit w cs m (Nat.zero_le _) (by omega) hcs)) hx ?_ hN' (by omega) (by simp;omega) fun v' w' h2 h3=>h v' w' h2 (grown_alloc h3)
 intro u hu
 exact List.all_eq_true.1 h1 u hu
/-- but for draws the same world -/
def Drawn(w w':World):Prop:=∃ n,w'={w with drawn:=n}
theorem drawn_refl(w:World):Drawn w w:=⟨w.drawn,rfl⟩
theorem drawn_drew(w:World):Drawn w w.drew:=⟨w.drawn+1,rfl⟩
theorem drawn_drewN(w:World)(n:Nat):Drawn w (w.drewN n):=⟨w.drawn+n,rfl⟩
theorem drawn_alloc_drewN(w:World)(o:Obj)(n:Nat):Drawn (w.alloc o) ((w.drewN n).alloc o):=⟨w.drawn+n,rfl⟩
theorem Drawn.drew{w w':World}(h:Drawn w w'):Drawn w w'.drew:=by obtain⟨n,rfl⟩:=h;exact⟨n+1,rfl⟩
theorem Drawn.drewN{w w':World}(h:Drawn w w')(m:Nat):Drawn w (w'.drewN m):=by obtain⟨n,rfl⟩:=h;exact⟨n+m,rfl⟩
theorem Drawn.below{w w':World}(h:Drawn w w'){B:Nat}{w0:World}(hb:Below B w0 w):Below B w0 w':=by obtain⟨n,rfl⟩:=h;exact⟨hb.os,hb.tape,hb.output,hb.size,hb.block⟩
theorem Drawn.owns{w w':World}(h:Drawn w w'){B:Nat}{e:TypeId}{sz:Nat}{v:Value}{n:Nat}{cs:List Value}(ho:w.ownsRow B e sz v n cs):w'.ownsRow B e sz v n cs:=by obtain⟨n,rfl⟩:=h;exact ho
theorem Drawn.row{w w':World}(h:Drawn w w'){v:Value}{n sz:Nat}{cs:List Value}(ho:Row w v n sz cs):Row w' v n sz cs:=by obtain⟨n,rfl⟩:=h;exact ho
theorem wpList_append_newD(T:SlT P t e size bytes)(hgd:o.guard=none)(s x:Operand)
  (ho:o.op=.call {callee:=.builtin .append,args:=#[s,x],argTypes:=#[t,t]})
  (base:Nat) (cs:Array Value) (e2:TypeId) {wx:World} (hd:Drawn (w.alloc (.cells cs e2)) wx) (m:Nat) (v:Value) (n:Nat) (xs:List Value) (hown:w.ownsRow base e size v n xs) (hs:a.eval s=v)
  (hx:a.eval x=.slice (some ⟨w.heap.size,0,none⟩) m m) (hcs:cs.size=m*size) (h1:cs.toList.all (fun u=>u.oneCell')=true)
  (hN:n+m≤1099511627776) (hby:bytes≤128) (hbase:base≤w.heap.size)
  (h:∀ v' w',w'.ownsRow base e size v' (n+m) (xs++cs.toList)→w.grownBy w' v.ownBlock→wpList P ops Q rest (a.put o.dst v') w'):wpList P ops Q (o :: rest) a wx:=by
 have hb:(n+m)*bytes≤1099511627776*128:=Nat.mul_le_mul hN hby
 have hN':n+m≤maxLen:=by unfold maxLen;omega
 have hsz:wx.heap.size=w.heap.size+1:=by obtain⟨n,rfl⟩:=hd;simp
 refine wpList_append_row T hgd s x ho base v n xs (hd.owns (hown.alloc _)) hs _ m cs.toList (hd.row (own_row (World.ownsRow_lit w cs m (Nat.zero_le _) (by omega) hcs))) hx ?_ hN' (by omega) (by omega) fun v' w' h2 h3=>h v' w' h2 (grown_alloc (o:=.cells cs e2) ?_)
 ·
  intro u hu
  exact List.all_eq_true.1 h1 u hu
 ·
  obtain⟨n,rfl⟩:=hd
  exact⟨h3.os,h3.tape,h3.output,h3.size,h3.block⟩
/-- 'append(s, t...)': the new elements lie somewhere -/
theorem wpList_append_old(T:SlT P t e size bytes)(hgd:o.guard=none)(s x:Operand)
  (ho:o.op=.call {callee:=.builtin .append,args:=#[s,x],argTypes:=#[t,t]})
  (base:Nat) (v:Value) (n:Nat) (xs:List Value) (hown:w.ownsRow base e size v n xs) (hs:a.eval s=v)
  (vx:Value) (m:Nat) (news:List Value) (hrow:Row w vx m size news) (hx:a.eval x=vx) (h1:∀ u∈news,u.oneCell'=true)
  (hN:n+m≤1099511627776) (hby:bytes≤128) (hbase:base≤w.heap.size)
  (h:∀ v' w',w'.ownsRow base e size v' (n+m) (xs++news)→w.grownBy w' v.ownBlock→wpList P ops Q rest (a.put o.dst v') w'):wpList P ops Q (o :: rest) a w:=by
 have hb:(n+m)*bytes≤1099511627776*128:=Nat.mul_le_mul hN hby
 exact wpList_append_row T hgd s x ho base v n xs hown hs vx m news hrow hx h1 (by unfold maxLen;omega) (by omega) hbase h
end
theorem own_over{w w':World}{B:Nat}{e:TypeId}{sz:Nat}{v:Value}{n:Nat}{cs:List Value}(h:w.ownsRow B e sz v n cs)(hb:Below w.heap.size w w'):w'.ownsRow B e sz v n cs:=
 h.kept (row:=none) ⟨hb.os,hb.tape,hb.output,hb.size,fun k hk _=>hb.block k hk⟩ (by cases h:v.ownBlock <;> simp)
theorem below_over{B:Nat}{w0 w w':World}(h:Below B w0 w)(hB:B≤w.heap.size)(h':Below w.heap.size w w'):Below B w0 w':=h.trans (h'.mono hB)
theorem grown_over'{w w':World}{row:Option Nat}(h:w.grownBy w' row)(hg:∀ g,row=some g→w.heap.size≤g):Below w.heap.size w w':=
 (Below.refl w.heap.size w).grown h (Nat.le_refl _) hg
theorem below_grown{B:Nat}{w0 w w':World}{e:TypeId}{sz:Nat}{v:Value}{n:Nat}{cs:List Value}(hb:Below B w0 w)(hB:B≤w.heap.size)(hown:w.ownsRow B e sz v n cs)(hg:w.grownBy w' v.ownBlock):Below B w0 w':=
 hb.grown hg hB fun k hk=>(hown.lt k hk).1
/-- what lies below the rows' base is as it was -/
theorem Row.grown{B:Nat}{w w':World}{e:TypeId}{sz sz':Nat}{v v2:Value}{n n':Nat}{cs cs':List Value}(h:Row w v2 n' sz' cs')(hown:w.ownsRow B e sz v n cs)(hg:w.grownBy w' v.ownBlock)
  (hne:∀ b,v2.ownBlock=some b→b<B∨some b≠v.ownBlock):Row w' v2 n' sz' cs':=
 h.keep hg.size fun b hb hlt=>hg.block b hlt fun he=>by
  rcases hne b hb with h1|h1
  ·
   have:=(hown.lt b he.symm).1;omega
  ·
   exact h1 he
end Go.Proofs.YtanfebljiblhbaaGreatDoor
namespace Go.Proofs.YtanfebljiblhbaaGreatDoor
open Go Go.RowKit

/-- block g holds just the cells cs, and they may be written -/
def Arr(w:World)(g:Nat)(cs:List Value):Prop:=∃ e,w.heap[g]? = some (.cells cs.toArray e (0,0))
theorem Arr.lt{w:World}{g:Nat}{cs:List Value}(h:Arr w g cs):g<w.heap.size:=by obtain⟨e,h⟩:=h;exact(Array.getElem?_eq_some_iff.1 h).1
theorem Arr.cell{w:World}{g:Nat}{cs:List Value}(h:Arr w g cs){j:Nat}{u:Value}(hu:cs[j]? = some u):w.cell? ⟨g,j,none⟩=some u:=by
 obtain⟨e,h⟩:=h
 rw [cell_of_row w g j cs.toArray e (0,0) h];simpa using hu
theorem Arr.free{w:World}{g:Nat}{cs:List Value}(h:Arr w g cs)(j:Nat):w.frozen? ⟨g,j,none⟩=false:=by
 obtain⟨e,h⟩:=h;exact frozen_of_row w g j cs.toArray e h
theorem Arr.set{w:World}{g:Nat}{cs:List Value}(h:Arr w g cs)(j:Nat)(u:Value):Arr (w.setCell ⟨g,j,none⟩ u) g (cs.set j u):=by
 obtain⟨e,h⟩:=h
 refine⟨e,?_⟩
 rw [heap_setCell_same w g j cs.toArray e u h]
 simp
theorem Arr.set_other{w:World}{g:Nat}{cs:List Value}(h:Arr w g cs){a:Addr}(hn:g≠a.block)(u:Value):Arr (w.setCell a u) g cs:=by
 obtain⟨e,h⟩:=h
 exact⟨e,by rw [heap_setCell_other w a g u hn];exact h⟩
theorem Arr.over{w w':World}{g:Nat}{cs:List Value}(h:Arr w g cs)(hb:Below w.heap.size w w'):Arr w' g cs:=by
 have hl:=h.lt
 obtain⟨e,h⟩:=h
 exact⟨e,by rw [hb.block g hl];exact h⟩
theorem Arr.below{B:Nat}{w w':World}{g:Nat}{cs:List Value}(h:Arr w g cs)(hb:Below B w w')(hg:g<B):Arr w' g cs:=by
 obtain⟨e,h⟩:=h
 exact⟨e,by rw [hb.block g hg];exact h⟩
theorem Arr.drawn{w w':World}{g:Nat}{cs:List Value}(h:Arr w g cs)(hd:Drawn w w'):Arr w' g cs:=by
 obtain⟨n,rfl⟩:=hd;exact h
theorem Arr.drewN{w:World}{g:Nat}{cs:List Value}(h:Arr w g cs)(n:Nat):Arr (w.drewN n) g cs:=h
theorem Arr.drew{w:World}{g:Nat}{cs:List Value}(h:Arr w g cs):Arr w.drew g cs:=h
theorem Arr.grown{w w':World}{g:Nat}{cs:List Value}{row:Option Nat}(h:Arr w g cs)(hg:w.grownBy w' row)(hn:some g≠row):Arr w' g cs:=by
 have hl:=h.lt
 obtain⟨e,h⟩:=h
 exact⟨e,by rw [hg.block g hl hn];exact h⟩
theorem Arr.row{w:World}{g:Nat}{cs:List Value}(h:Arr w g cs)(cs':List Value):Arr (w.setRow g cs'.toArray) g cs':=by
 obtain⟨e,h⟩:=h
 exact⟨e,setRow_heap w g _ _ e _ h⟩
theorem Arr.row_other{w:World}{g g':Nat}{cs:List Value}(h:Arr w g cs)(hn:g≠g')(c:Array Value):Arr (w.setRow g' c) g cs:=by
 obtain⟨e,h⟩:=h
 exact⟨e,by rw [setRow_other w g' g c hn];exact h⟩
theorem arr_new(w:World)(cs:Array Value)(e:TypeId):Arr (w.alloc (.cells cs e)) w.heap.size cs.toList:=⟨e,by rw [heap_alloc_new]⟩
theorem arr_new2(w:World)(o:Obj)(cs:Array Value)(e:TypeId):Arr ((w.alloc o).alloc (.cells cs e)) (w.heap.size+1) cs.toList:=by
 have:=arr_new (w.alloc o) cs e
 simpa using this
theorem arr_new3(w:World)(o o':Obj)(cs:Array Value)(e:TypeId):Arr (((w.alloc o).alloc o').alloc (.cells cs e)) (w.heap.size+1+1) cs.toList:=by
 have:=arr_new2 (w.alloc o) o' cs e
 simpa using this
theorem Arr.alloc{w:World}{g:Nat}{cs:List Value}(h:Arr w g cs)(o:Obj):Arr (w.alloc o) g cs:=h.over ((Below.refl _ _).alloc (Nat.le_refl _) o)
theorem below_setRow{B:Nat}{w0 w:World}(h:Below B w0 w){g:Nat}(hg:B≤g)(c:Array Value):Below B w0 (w.setRow g c):=
 h.trans ⟨rfl,rfl,rfl,by simp,fun k hk=>setRow_other w g k c (by omega)⟩

def isRowD:TypeDesc→Bool
 | .struct _|.array _ _=>true
 | _=>false
/-- what an array's, a struct's type says -/
structure RowT (P:Program) (ty:TypeId) (size:Nat):Prop where
 out:∃ d i,P.underlying ty=some d∧isRowD d=true∧P.info? ty=some i∧i.size=size
theorem rowT_of{P:Program}{ty:TypeId}{size:Nat}{d:TypeDesc}(h1:P.underlying ty=some d)(h2:isRowD d=true)
  (h3:(P.info? ty).map (·.size)=some size):RowT P ty size:=by
 cases hi:P.info? ty with
 | none=>simp [hi] at h3
 | some i=>simp [hi] at h3;exact⟨d,i,h1,h2,hi,h3⟩

section
variable {P : Program} {ty : TypeId} {size : Nat} {w : World} {ops : Array Oper} {rest : List Oper} {o : Oper} {a : Act} {Q : Exit → Act → World → Prop}
theorem wpList_load_arr(T:RowT P ty size)(hgd:o.guard=none)(x:Operand)(ho:o.op=.load ty x)(g:Nat)(cs:List Value)(hA:Arr w g cs)(hx:a.eval x=.pointer (some ⟨g,0,none⟩))(hl:cs.length=size)
  (h:wpList P ops Q rest (a.put o.dst (.agg cs.toArray)) w):wpList P ops Q (o :: rest) a w:=by
 obtain⟨d,i,h1,h2,h3,h4⟩:=T.out
 obtain⟨e,hg⟩:=hA
 exact wpList_load_row hgd ty x ho g hx e cs.toArray (0,0) d hg h1 (by cases d <;> simp_all [isRowD]) (by rw [h3];simp [h4,hl]) h
theorem run_store_arr(T:RowT P ty size){g:Nat}{cs new:List Value}(hA:Arr w g cs)(hl:cs.length=size)(hn:new.length=size)(h1:new.all (fun u=>u.oneCell')=true) :
  (storeVar ty ⟨g,0,none⟩ (.agg new.toArray)).run P w=.ok () (w.setRow g new.toArray):=by
 obtain⟨d,i,_,_,h3,h4⟩:=T.out
 obtain⟨e,hg⟩:=hA
 have hs:=run_storeCells_at (P:=P) g 0 e new 0 cs.toArray w hg (by simp;omega) (fun v hv=>List.all_eq_true.1 h1 v hv)
 have ht:(cs.toArray.toList.take (0+0)++new++cs.toArray.toList.drop (0+0+new.length)).toArray=new.toArray:=by
  simp;omega
 rw [ht] at hs
 have hc:(Value.agg new.toArray).cells=new.toArray:=rfl
 simp [storeVar,sizeOf,typeInfo,h3,h4,hc,hn,hs]
theorem wpList_store_arr(T:RowT P ty size)(hgd:o.guard=none)(x y:Operand)(ho:o.op=.store ty x y)(g:Nat)(cs new:List Value)(hA:Arr w g cs)(hx:a.eval x=.pointer (some ⟨g,0,none⟩))
  (hy:a.eval y=.agg new.toArray) (hl:cs.length=size) (hn:new.length=size) (h1:new.all (fun u=>u.oneCell')=true)
  (h:wpList P ops Q rest (a.put o.dst undef) (w.setRow g new.toArray)):wpList P ops Q (o :: rest) a w:=by
 refine wpList_plain hgd fun K hK => ?_
 have hr:=run_store_arr T hA hl hn h1
 unfold Oper.wp execOp
 simp only [ho,hx,hy,Instr.storeAt,Instr.sureAddr,Sem.run_bind,Sem.run_pure,Result.andThen_ok,hr]
 exact hK _ _ h
theorem wpList_put_arr(T:RowT P ty size)(hgd:o.guard=none)(x y:Operand)(ho:o.op=.store ty x y)(g:Nat)(cs new:List Value)(hA:Arr w g cs)(hx:a.eval x=.pointer (some ⟨g,0,none⟩))
  (hy:a.eval y=.agg new.toArray) (hl:cs.length=size) (hn:new.length=size) (h1:new.all (fun u=>u.oneCell')=true)
  (h:∀ w',Arr w' g new→(∀ g' cs',g'≠g→Arr w g' cs'→Arr w' g' cs')→(∀ B w0,B≤g→Below B w0 w→Below B w0 w')→w'.heap.size=w.heap.size→wpList P ops Q rest (a.put o.dst undef) w'):wpList P ops Q (o :: rest) a w:=
 wpList_store_arr T hgd x y ho g cs new hA hx hy hl hn h1 (h _ (hA.row new) (fun g' cs' hg' h'=>h'.row_other hg' _) (fun B w0 hB hb=>below_setRow hb hB _) (by simp))
theorem results_arr(T:RowT P ty size){fn:Func}{p:Tmp}(h:fn.results=#[.cell p ty]){tmps:Array Value}{g:Nat}{cs:List Value}(hA:Arr w g cs)(hp:tmps.getD p undef=.pointer (some ⟨g,0,none⟩))(hl:cs.length=size) :
  (results fn tmps).run P w=.ok (.agg cs.toArray) w:=by
 obtain⟨d,i,h1,h2,h3,h4⟩:=T.out
 obtain⟨e,hg⟩:=hA
 exact results_cell_row h tmps w g e cs.toArray (0,0) d hp hg h1 (by cases d <;> simp_all [isRowD]) (by rw [h3];simp [h4,hl])
end

/-- block g holds just the cells cs of type e -/
def ArrT(w:World)(g:Nat)(e:TypeId)(cs:List Value):Prop:=w.heap[g]? = some (.cells cs.toArray e (0,0))
theorem ArrT.arr{w:World}{g:Nat}{e:TypeId}{cs:List Value}(h:ArrT w g e cs):Arr w g cs:=⟨e,h⟩
theorem arrT_new(w:World)(cs:List Value)(e:TypeId):ArrT (w.alloc (.cells cs.toArray e)) w.heap.size e cs:=by unfold ArrT;rw [heap_alloc_new]
theorem ArrT.over{w w':World}{g:Nat}{e:TypeId}{cs:List Value}(h:ArrT w g e cs)(hb:Below w.heap.size w w'):ArrT w' g e cs:=by
 unfold ArrT at *
 rw [hb.block g (Array.getElem?_eq_some_iff.1 h).1];exact h
/-- a row of another type is another block -/
theorem ArrT.ne{w:World}{g B:Nat}{e e':TypeId}{cs xs:List Value}{sz n:Nat}{v:Value}(h:ArrT w g e cs)(ho:w.ownsRow B e' sz v n xs)(hn:e'≠e):some g≠v.ownBlock:=by
 rcases ho.2 with⟨rfl,_⟩|⟨g',cap,cur,rfl,_,hg,_⟩
 ·
  simp [Value.ownBlock]
 ·
  intro he
  simp only [Value.ownBlock,Option.some.injEq] at he
  subst he
  unfold ArrT at h
  rw [h] at hg
  simp only [Option.some.injEq,Obj.cells.injEq] at hg
  exact hn hg.2.1.symm
theorem ArrT.grown{w w':World}{g B:Nat}{e e':TypeId}{cs xs:List Value}{sz n:Nat}{v:Value}(h:ArrT w g e cs)(ho:w.ownsRow B e' sz v n xs)(hn:e'≠e)(hg:w.grownBy w' v.ownBlock):ArrT w' g e cs:=by
 have hne:=h.ne ho hn
 unfold ArrT at *
 rw [hg.block g (Array.getElem?_eq_some_iff.1 h).1 hne];exact h
theorem ArrT.set{w:World}{g:Nat}{e:TypeId}{cs:List Value}(h:ArrT w g e cs)(j:Nat)(u:Value):ArrT (w.setCell ⟨g,j,none⟩ u) g e (cs.set j u):=by
 unfold ArrT at *
 show(w.heap.modify g _)[g]? = _
 rw [Array.getElem?_modify,if_pos rfl,h]
 simp
theorem ArrT.kept{w w':World}{g:Nat}{e:TypeId}{cs:List Value}{row:Option Nat}(h:ArrT w g e cs)(hg:w.grownBy w' row)(hn:some g≠row):ArrT w' g e cs:=by
 unfold ArrT at *
 rw [hg.block g (Array.getElem?_eq_some_iff.1 h).1 hn];exact h
theorem ArrT.set_other{w:World}{g:Nat}{e:TypeId}{cs:List Value}(h:ArrT w g e cs){a:Addr}(hn:g≠a.block)(u:Value):ArrT (w.setCell a u) g e cs:=by
 unfold ArrT at *
 show(w.heap.modify a.block _)[g]? = _
 rw [Array.getElem?_modify,if_neg (fun q=>hn q.symm),h]
end Go.Proofs.YtanfebljiblhbaaGreatDoor
namespace Go.Proofs.YtanfebljiblhbaaGreatDoor
open Go Go.RowKit

/-! ### rows whose elements have sz cells -/
theorem flat_len{α:Type}{f:α→List Value}{sz:Nat}(hf:∀ x,(f x).length=sz):∀ xs:List α,(xs.flatMap f).length=xs.length*sz
 | []=>by simp
 | x :: xs=>by simp only [List.flatMap_cons,List.length_append,hf,flat_len hf xs,List.length_cons,Nat.add_mul];omega
theorem flat_get{α:Type}{f:α→List Value}{sz:Nat}(hf:∀ x,(f x).length=sz):∀(xs:List α) (i j:Nat) (x:α),xs[i]? = some x→j<sz→(xs.flatMap f)[i*sz+j]? = (f x)[j]?
 | [],i,j,x,h,_=>by simp at h
 | y :: xs,0,j,x,h,hj=>by
  simp only [List.getElem?_cons_zero,Option.some.injEq] at h
  subst h
  rw [List.flatMap_cons,List.getElem?_append_left (by rw [hf];omega)];simp
 | y :: xs,i+1,j,x,h,hj=>by
  rw [List.flatMap_cons,List.getElem?_append_right (by rw [hf,Nat.add_mul];omega),hf,show(i+1)*sz+j - sz=i*sz+j by rw [Nat.add_mul];omega]
  exact flat_get hf xs i j x (by simpa using h) hj
theorem Row.form{w:World}{v:Value}{n sz:Nat}{cs:List Value}(h:Row w v n sz cs):∃ a cap,v=.slice a n cap∧n≤cap∧cap≤maxLen∧(a=none→cap=0) ∧
  (n=0∨∃ b off,a=some ⟨b,off,none⟩∧b<w.heap.size∧∀ j u,cs[j]? = some u→w.cell? ⟨b,off+j,none⟩=some u):=by
 obtain⟨_,a,cap,rfl,h2,h3,h4,h5⟩:=h
 refine⟨a,cap,rfl,h2,h3,h4,?_⟩
 by_cases hn:n=0
 ·
  exact .inl hn
 ·
  exact .inr (h5 hn)
/-- element i of the row -/
theorem Row.elem{α:Type}{f:α→List Value}{sz:Nat}(hf:∀ x,(f x).length=sz){w:World}{xs:List α}{b off:Nat}(hc:∀ j u,(xs.flatMap f)[j]? = some u→w.cell? ⟨b,off+j,none⟩=some u)
  {i:Nat} {x:α} (hx:xs[i]? = some x) {j:Nat} {u:Value} (hu:(f x)[j]? = some u):w.cell? ⟨b,off+i*sz+j,none⟩=some u:=by
 rw [Nat.add_assoc]
 refine hc _ _ ?_
 have hj:j<sz:=by rw [← hf x];exact(List.getElem?_eq_some_iff.1 hu).1
 rw [flat_get hf xs i j x hx hj];exact hu

theorem take_succ_get{α:Type}{xs:List α}{i:Nat}{x:α}(h:xs[i]? = some x):xs.take (i+1)=xs.take i++[x]:=by
 obtain⟨hi,rfl⟩:=List.getElem?_eq_some_iff.1 h
 exact List.take_succ_eq_append_getElem hi
theorem get_of_lt{α:Type}{xs:List α}{i:Nat}(h:i<xs.length):∃ x,xs[i]? = some x:=⟨xs[i],List.getElem?_eq_getElem h⟩

/-! ### strings -/
def SRow(w:World)(v:Value)(xs:List ByteArray):Prop:=Row w v xs.length 1 (xs.map Value.string)
theorem SRow.over{w w':World}{v:Value}{xs:List ByteArray}(h:SRow w v xs)(hb:Below w.heap.size w w'):SRow w' v xs:=Row.over h hb
theorem SRow.form{w:World}{v:Value}{xs:List ByteArray}(h:SRow w v xs):∃ a cap,v=.slice a xs.length cap∧xs.length≤cap∧cap≤maxLen∧(a=none→cap=0) ∧
  (xs.length=0∨∃ b off,a=some ⟨b,off,none⟩∧b<w.heap.size∧∀ j x,xs[j]? = some x→w.cell? ⟨b,off+j,none⟩=some (.string x)):=by
 obtain⟨a,cap,h1,h2,h3,h4,h5⟩:=Row.form h
 refine⟨a,cap,h1,h2,h3,h4,h5.imp id ?_⟩
 rintro⟨b,off,e1,e2,hc⟩
 exact⟨b,off,e1,e2,fun j x hx=>hc j _ (by simp [hx])⟩
section
variable {P : Program} {t e : TypeId} {size bytes : Nat} {w : World} {ops : Array Oper} {rest : List Oper} {o : Oper} {a : Act} {Q : Exit → Act → World → Prop}
end

theorem slice_row{w:World}{a:Option Addr}{n cap sz l h:Nat}{cs:List Value}(hr:Row w (.slice a n cap) n sz cs)(h1:l≤h)(h2:h≤n):Row w (sliced a l h cap sz) (h - l) sz ((cs.drop (l*sz)).take ((h - l)*sz)):=by
 obtain⟨hl,a',cap',hv,hc,hm,hn,hcell⟩:=hr
 obtain⟨rfl,_,rfl⟩:=Value.slice.inj hv
 have hmul:(h - l)*sz+l*sz≤n*sz:=by rw [← Nat.add_mul];exact Nat.mul_le_mul_right _ (by omega)
 refine⟨by simp;omega,_,_,rfl,by omega,by omega,fun h0 => ?_,fun h0 => ?_⟩
 ·
  by_cases hcl:cap=l
  ·
   omega
  ·
   rw [if_neg hcl] at h0
   cases a with
   | none=>have:=hn rfl;omega
   | some ad=>cases h0
 ·
  obtain⟨b,off,rfl,hb,hcl⟩:=hcell (by omega)
  refine⟨b,off+l*sz,?_,hb,fun j u hu => ?_⟩
  ·
   by_cases hcl':cap=l
   ·
    omega
   ·
    rw [if_neg hcl']
    by_cases h0':l*sz=0
    ·
     simp [Addr.add,h0']
    ·
     simp [Addr.add,h0']
  ·
   have hj:j<(h - l)*sz:=by
    have:=(List.getElem?_eq_some_iff.1 hu).1;simp at this;omega
   have:=hcl (l*sz+j) u (by rw [List.getElem?_take,if_pos hj,List.getElem?_drop] at hu;exact hu)
   rw [← Nat.add_assoc] at this;exact this
section
variable {P : Program} {t e : TypeId} {size bytes : Nat} {w : World} {ops : Array Oper} {rest : List Oper} {o : Oper} {a : Act} {Q : Exit → Act → World → Prop}
/-- a guarded operation that is not wanted -/
theorem lex_skip{C:World→Prop}{loud:Nat→Bool}{Q:Act→World→Prop}{k:Nat}{o:Oper}{l:List Oper}{a:Act}{w:World}{g:Nat × Bool}(hg:o.guard=some g)(hw:Region.wanted o (yielded ops a.tmps)=false)
  (h:wpLex P ops C loud Q (k+1) l (a.put o.dst undef) w):wpLex P ops C loud Q k (o :: l) a w:=by
 unfold wpLex
 rw [if_neg (by rw [hw];decide)];exact h
end

section
variable {P : Program} {t e : TypeId} {size bytes : Nat} {w : World} {ops : Array Oper} {rest : List Oper} {o : Oper} {a : Act} {Q : Exit → Act → World → Prop}
/-- 'append(s, x)' in a world of which the size is told -/
theorem wpList_append_newH(T:SlT P t e size bytes)(hgd:o.guard=none)(s x:Operand)
  (ho:o.op=.call {callee:=.builtin .append,args:=#[s,x],argTypes:=#[t,t]})
  (base:Nat) (cs:Array Value) (e2:TypeId) (H:Nat) (hH:w.heap.size=H) (m:Nat) (v:Value) (n:Nat) (xs:List Value) (hown:w.ownsRow base e size v n xs) (hs:a.eval s=v)
  (hx:a.eval x=.slice (some ⟨H,0,none⟩) m m) (hcs:cs.size=m*size) (h1:cs.toList.all (fun u=>u.oneCell')=true)
  (hN:n+m≤1099511627776) (hby:bytes≤128) (hbase:base≤H)
  (h:∀ v' w',w'.ownsRow base e size v' (n+m) (xs++cs.toList)→w.grownBy w' v.ownBlock→wpList P ops Q rest (a.put o.dst v') w'):wpList P ops Q (o :: rest) a (w.alloc (.cells cs e2)):=by
 subst hH
 exact wpList_append_new T hgd s x ho base cs e2 m v n xs hown hs hx hcs h1 hN hby hbase h
end
end Go.Proofs.YtanfebljiblhbaaGreatDoor
