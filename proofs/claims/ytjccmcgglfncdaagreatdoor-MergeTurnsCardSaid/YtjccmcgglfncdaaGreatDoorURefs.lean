/- What is proved: MergeTurns, for every input; of the listed tables the walk needs the powers of ten. -/
import Derived.Test.YtjccmcgglfncdaaGreatDoorUGen
import Derived.Maps.AppendAt
import Derived.Lib.AppendZeros
import Derived.Laws.CopyRow
import Derived.OwnWalk
import Derived.Test.YtjccmcgglfncdaaGreatDoorUGrP
import Derived.Laws.StructEq
set_option linter.unusedVariables false
set_option linter.unusedSimpArgs false
set_option maxRecDepth 100000
set_option maxHeartbeats 40000000
namespace Go.Proofs.YtjccmcgglfncdaaGreatDoor
open Go Go.RowKit
variable{xs:List Value}{B cap g n sz:Nat}{e:TypeId}{w w1:World}
structure OwnAt (w:World) (B:Nat) (e:TypeId) (sz g n cap:Nat) (xs:List Value):Prop where
 at':∃ junk:List Value,w.heap[g]? = some (.cells (xs++junk).toArray e (0,0))∧(xs++junk).length=cap*sz
 len:xs.length=n*sz
 base:B≤g
 nc:n≤cap
 cm:cap≤maxLen
theorem OwnAt.own(h:OwnAt w B e sz g n cap xs):w.ownsRow B e sz (.slice (some ⟨g,0,none⟩) n cap) n xs:=by obtain⟨junk,h1,h2⟩:=h.at';exact⟨h.len,.inr ⟨g,cap,(xs++junk).toArray,rfl,h.base,h1,h.nc,h.cm,by simpa using h2,by rw [← h.len];simp⟩⟩
theorem own_at{v:Value}(h:w.ownsRow B e sz v n xs)(hn:n≠0):∃ g cap,v=.slice (some ⟨g,0,none⟩) n cap∧OwnAt w B e sz g n cap xs:=by
 obtain⟨h1,h2⟩:=h;rcases h2 with⟨_,h0⟩|⟨g,cap,cur,hv,hb,hg,hnc,hm,hs,ht⟩
 · exact absurd h0 hn
 refine⟨g,cap,hv,⟨cur.toList.drop (n*sz),?_,?_⟩,h1,hb,hnc,hm⟩
 · rw [← ht,List.take_append_drop];exact hg
 rw [← ht,List.take_append_drop];simpa using hs
theorem OwnAt.lt(h:OwnAt w B e sz g n cap xs):g<w.heap.size:=by obtain⟨junk,h1,_⟩:=h.at';exact(Array.getElem?_eq_some_iff.1 h1).1
theorem OwnAt.row(h:OwnAt w B e sz g n cap xs):Row w (.slice (some ⟨g,0,none⟩) n cap) n sz xs:=own_row h.own
theorem OwnAt.take(h:OwnAt w B e sz g n cap xs){k:Nat}(hk:k≤n):OwnAt w B e sz g k cap (xs.take (k*sz)):=by
 obtain⟨junk,h1,h2⟩:=h.at';have:=h.nc;have hl:=h.len;have hm:k*sz≤n*sz:=Nat.mul_le_mul_right _ hk;refine⟨⟨xs.drop (k*sz)++junk,?_,?_⟩,by simp;omega,h.base,by omega,h.cm⟩
 · rw [← List.append_assoc,List.take_append_drop];exact h1
 rw [← List.append_assoc,List.take_append_drop];exact h2
theorem OwnAt.cell(h:OwnAt w B e sz g n cap xs){j:Nat}{u:Value}(hu:xs[j]? = some u):w.cell? ⟨g,j,none⟩=some u:=by obtain⟨junk,h1,_⟩:=h.at';have:=Arr.cell (w:=w) (g:=g) (cs:=xs++junk) ⟨e,h1⟩ (j:=j) (u:=u) (by rw [List.getElem?_append_left (List.getElem?_eq_some_iff.1 hu).1];exact hu);exact this
theorem OwnAt.over{w':World}(h:OwnAt w B e sz g n cap xs)(hb:Be w w'):OwnAt w' B e sz g n cap xs:=by obtain⟨junk,h1,h2⟩:=h.at';exact⟨⟨junk,by rw [hb.block g h.lt];exact h1,h2⟩,h.len,h.base,h.nc,h.cm⟩
theorem OwnAt.drew(h:OwnAt w B e sz g n cap xs):OwnAt w.drew B e sz g n cap xs:=⟨h.at',h.len,h.base,h.nc,h.cm⟩
theorem grown_row(c:Array Value):w.grownBy (w.setRow g c) (some g):=⟨rfl,rfl,rfl,by simp,fun k _ hk=>setRow_other w g k _ (fun e=>hk (by simp [e]))⟩
theorem gtr{w2:World}{row:Option Nat}(h:w.grownBy w1 row)(h':w1.grownBy w2 row):w.grownBy w2 row:=
 ⟨h'.os.trans h.os,h'.tape.trans h.tape,h'.output.trans h.output,Nat.le_trans h.size h'.size,fun k hk hr=>(h'.block k (Nat.lt_of_lt_of_le hk h.size) hr).trans (h.block k hk hr)⟩
theorem grown_none{row:Option Nat}(h:w.grownBy w1 none):w.grownBy w1 row:=⟨h.os,h.tape,h.output,h.size,fun k hk _=>h.block k hk (by simp)⟩
theorem grown_drew{row:Option Nat}(h:w.grownBy w1 row):w.grownBy w1.drew row:=⟨h.os,h.tape,h.output,h.size,h.block⟩
theorem grown_of_below(h:Be w w1){row:Option Nat}:w.grownBy w1 row:=⟨h.os,h.tape,h.output,h.size,fun k hk _=>h.block k hk⟩
theorem OwnAt.put(h:OwnAt w B e sz g n cap xs){P:Program}{o:Nat}{new:List Value}(h1:∀ u∈new,u.oneCell'=true)(ho:o+new.length≤n*sz) :
  ∃ w',(storeCells ⟨g,o,none⟩ new).run P w=.ok () w'∧OwnAt w' B e sz g n cap (xs.take o++new++xs.drop (o+new.length))∧w.grownBy w' (some g)∧w'.heap.size=w.heap.size:=by
 obtain⟨junk,hg,hl⟩:=h.at';have hlen:=h.len;have hs:=run_storeCells_at (P:=P) g o e new 0 (xs++junk).toArray w hg (by simp;omega) h1;refine⟨_,hs,⟨⟨junk,?_,?_⟩,?_,h.base,h.nc,h.cm⟩,grown_row _,by simp⟩
 · rw [setRow_heap w g _ _ e _ hg];simp only [Nat.add_zero,Option.some.injEq,Obj.cells.injEq,and_true];congr 1;rw [List.take_append_of_le_length (by omega),List.drop_append_of_le_length (by omega),List.append_assoc,List.append_assoc,List.append_assoc]
 · simp only [List.length_append,List.length_take,List.length_drop] at *;omega
 simp only [List.length_append,List.length_take,List.length_drop] at *;omega
theorem OwnAt.putBehind(h:OwnAt w B e sz g n cap xs){P:Program}{o:Nat}{new:List Value}(h1:∀ u∈new,u.oneCell'=true)(ho:n*sz≤o)(ho':o+new.length≤cap*sz) :
  ∃ w',(storeCells ⟨g,o,none⟩ new).run P w=.ok () w'∧OwnAt w' B e sz g n cap xs∧w.grownBy w' (some g)∧w'.heap.size=w.heap.size:=by
 obtain⟨junk,hg,hl⟩:=h.at';have hlen:=h.len;have hs:=run_storeCells_at (P:=P) g o e new 0 (xs++junk).toArray w hg (by simp only [List.size_toArray];omega) h1;refine⟨_,hs,⟨⟨(junk.take (o - n*sz))++new++(xs++junk).drop (o+new.length),?_,?_⟩,hlen,h.base,h.nc,h.cm⟩,grown_row _,by simp⟩
 · rw [setRow_heap w g _ _ e _ hg];simp only [Nat.add_zero,Option.some.injEq,Obj.cells.injEq,and_true];congr 1;rw [List.take_append,List.take_of_length_le (by omega),hlen];simp only [List.append_assoc]
 simp only [List.length_append,List.length_take,List.length_drop] at *;omega
section
variable {P : Program} {t e : TypeId} {size bytes : Nat} {w : World} {ops : Array Oper} {rest : List Oper} {o : Oper} {a : Act} {Q : Exit → Act → World → Prop}
theorem wpList_clear_at(T:SlT P t e size bytes)(z:Value)(hz0:((P.info? e).bind (·.zero))=some z)(hz1:∀ k,∀ u∈(Builtin.zeroCells z.cells k).toList,u.oneCell'=true)(hz2:∀ k,(Builtin.zeroCells z.cells k).size=k*size)
  (hgd:o.guard=none) (s:Operand) (ho:o.op=.call {callee:=.builtin .clear,args:=#[s],argTypes:=#[t]})
  (B g n cap:Nat) (xs:List Value) (hown:OwnAt w B e size g n cap xs) (p c1 k c:Nat) (hc1:c1=p*size) (hs:a.eval s=.slice (some ⟨g,c1,none⟩) k c) (hp:n≤p) (hk:p+k≤cap)
  (h:∀ w',OwnAt w' B e size g n cap xs→w.grownBy w' (some g)→w'.heap.size=w.heap.size→wpList P ops Q rest (a.put o.dst (.tuple #[])) w'):wpList P ops Q (o :: rest) a w:=by
 subst hc1;obtain⟨i,z',ht,hi,hz',hsize,hby,hzs,hsz⟩:=T.out;have hpk:(p+k)*size≤cap*size:=Nat.mul_le_mul_right _ hk;have hnp:n*size≤p*size:=Nat.mul_le_mul_right _ hp;rw [Nat.add_mul] at hpk;have hzz:i.zero=some z:=by rw [hi] at hz0;simpa using hz0
 refine wpList_plain hgd fun K hK => ?_;cases k with
 | zero =>
  have hr:(Builtin.clear_ #[t] o.type #[.slice (some ⟨g,p*size,none⟩) 0 c]).run P w=.ok (.tuple #[]) w:=by simp [Builtin.clear_,run_underlying ht]
  unfold Oper.wp execOp;simp only [ho,resolve,invoke,builtin,Sem.run_bind,Sem.run_pure,Result.andThen_ok,List.map_toArray,List.map_cons,List.map_nil,hs,hr];exact hK _ _ (h w hown ⟨rfl,rfl,rfl,Nat.le_refl _,fun _ _ _=>rfl⟩ rfl)
 | succ k =>
  obtain⟨w',hst,h2,h3,h4⟩:=hown.putBehind (P:=P) (o:=p*size) (new:=(Builtin.zeroCells z.cells (k+1)).toList) (hz1 _) hnp (by rw [Array.length_toList,hz2];exact hpk);have hr:(Builtin.clear_ #[t] o.type #[.slice (some ⟨g,p*size,none⟩) (k+1) c]).run P w=.ok (.tuple #[]) w':=by simp [Builtin.clear_,run_underlying ht,zeroValue,typeInfo,hi,hzz,hst]
  unfold Oper.wp execOp;simp only [ho,resolve,invoke,builtin,Sem.run_bind,Sem.run_pure,Result.andThen_ok,List.map_toArray,List.map_cons,List.map_nil,hs,hr];exact hK _ _ (h w' h2 h3 h4)
end
end Go.Proofs.YtjccmcgglfncdaaGreatDoor
namespace Go.Proofs.YtjccmcgglfncdaaGreatDoor
open Go Go.RowKit
section
variable {P : Program} {t e : TypeId} {size bytes : Nat} {w : World} {ops : Array Oper} {rest : List Oper} {o : Oper} {a : Act} {Q : Exit → Act → World → Prop}
theorem run_append_tx{tx e':TypeId}(ht:P.underlying t=some (.slice e))(htx:P.underlying tx=some (.slice e'))(ty:TypeId)(b:Option Addr)(l c:Nat)(v:Value):(Builtin.append_ #[t,tx] ty #[.slice b l c,v]).run P w=(Builtin.append_ #[t,t] ty #[.slice b l c,v]).run P w:=by simp [Builtin.append_,run_underlying ht,run_underlying htx]
theorem own_slice{w:World}{base:Nat}{e:TypeId}{sz n:Nat}{v:Value}{xs:List Value}(h:w.ownsRow base e sz v n xs):∃ b l c,v=.slice b l c:=by
 rcases h.2 with⟨rfl,_⟩|⟨g,cap,cur,rfl,_⟩
 · exact⟨_,_,_,rfl⟩
 exact⟨_,_,_,rfl⟩
theorem run_append_rowAt(T:SlT P t e size bytes)(ty:TypeId)(base:Nat)(v:Value)(n:Nat)(xs:List Value)(hown:w.ownsRow base e size v n xs)(vx:Value)(m:Nat)(news:List Value)(hrow:Row w vx m size news)
  (h1:∀ u∈news,u.oneCell'=true) (hN:n+m≤1099511627776) (hby:bytes≤128) (hbase:base≤w.heap.size) :
  ∃ v' w',(Builtin.append_ #[t,t] ty #[v,vx]).run P w=.ok v' w'∧w'.ownsRow base e size v' (n+m) (xs++news)∧w.grownBy w' v.ownBlock∧(v'.ownBlock=v.ownBlock∨v'.ownBlock=some w.heap.size):=by
 obtain⟨i,z,ht,hi,hz,hsize,hb2,hzs,hsz⟩:=T.out;have hb:(n+m)*bytes≤1099511627776*128:=Nat.mul_le_mul hN hby;obtain⟨hl,ad,cap,rfl,hmc,_,hnil,hc⟩:=hrow;cases ad with
 | none =>
  have h0:=hnil rfl;subst h0;have hm:m=0:=by omega
  subst hm;have hn0:news=[]:=List.eq_nil_of_length_eq_zero (by simpa using hl);subst hn0;have hr:=run_append_owned_none (P:=P) w base t ty e i size ht hi v n xs hown;exact⟨v,w,hr,by simpa using hown,⟨rfl,rfl,rfl,Nat.le_refl _,fun _ _ _=>rfl⟩,.inl rfl⟩
 | some ad =>
  have hcells:∀ j u,news[j]? = some u→w.cell? (ad.add j)=some u:=fun j u hu=>by
   have hm:m≠0:=(by rintro rfl;rw [Nat.zero_mul] at hl;rw [List.eq_nil_of_length_eq_zero hl] at hu;cases hu);obtain⟨b,off,hb',_,hcell⟩:=hc hm;cases hb'
   rw [Addr.add_lit];exact hcell j u hu
  obtain⟨v',w',hr,h2,h3,_,h5⟩:=run_append_own_at (P:=P) w base t ty e i z size bytes ht hi hz hsize hb2 hzs hsz v n xs hown ad m cap news hl hcells h1 (by unfold maxLen;omega) (by omega) hbase;exact⟨v',w',hr,h2,h3,h5⟩
theorem wpList_append_rowAt(T:SlT P t e size bytes){tx e':TypeId}(htx:P.underlying tx=some (.slice e'))(hgd:o.guard=none)(s x:Operand)
  (ho:o.op=.call {callee:=.builtin .append,args:=#[s,x],argTypes:=#[t,tx]})
  (base:Nat) (v:Value) (n:Nat) (xs:List Value) (hown:w.ownsRow base e size v n xs) (hs:a.eval s=v)
  (vx:Value) (m:Nat) (news:List Value) (hrow:Row w vx m size news) (hx:a.eval x=vx) (h1:∀ u∈news,u.oneCell'=true)
  (hN:n+m≤1099511627776) (hby:bytes≤128) (hbase:base≤w.heap.size)
  (h:∀ v' w',w'.ownsRow base e size v' (n+m) (xs++news)→w.grownBy w' v.ownBlock→(v'.ownBlock=v.ownBlock∨v'.ownBlock=some w.heap.size)→wpList P ops Q rest (a.put o.dst v') w'):wpList P ops Q (o :: rest) a w:=by
 obtain⟨v',w',hr,h2,h3,h4⟩:=run_append_rowAt T o.type base v n xs hown vx m news hrow h1 hN hby hbase;obtain⟨i,z,ht,_⟩:=T.out;refine wpList_plain hgd fun K hK => ?_;obtain⟨b0,l0,c0,hv0⟩:=own_slice hown;have hr':(Builtin.append_ #[t,tx] o.type #[v,vx]).run P w=.ok v' w':=by rw [← hr,hv0];exact run_append_tx (w:=w) ht htx o.type b0 l0 c0 vx
 unfold Oper.wp execOp;simp only [ho,resolve,invoke,builtin,Sem.run_bind,Sem.run_pure,Result.andThen_ok,List.map_toArray,List.map_cons,List.map_nil,hs,hx,hr'];exact hK _ _ (h v' w' h2 h3 h4)
end
theorem zero_one{z:Array Value}(hz:∀ u∈z.toList,u.oneCell'=true)(k:Nat):∀ u∈(Builtin.zeroCells z k).toList,u.oneCell'=true:=by
 intro u hu;simp only [Builtin.zeroCells,Array.toList_map,Array.toList_range,List.mem_map,List.mem_range] at hu;obtain⟨i,hi,rfl⟩:=hu;have hs:0<z.size:=by
  rcases Nat.eq_zero_or_pos z.size with h|h
  · rw [h,Nat.mul_zero] at hi;omega
  exact h
 have:=Nat.mod_lt i hs;rw [getElem!_pos z (i % z.size) this];exact hz _ (by simp)
end Go.Proofs.YtjccmcgglfncdaaGreatDoor
namespace Go.Proofs.YtjccmcgglfncdaaGreatDoor
open Go Go.RowKit
section
variable{a:Addr}{xs:List Value}{B b cap g n sz:Nat}{row:Option Nat}{e:TypeId}{w w':World}
def Kept(w:World)(row:Option Nat):Type:={w':World // w.grownBy w' row}
instance (w:World) (row:Option Nat):Nonempty (Kept w row):=⟨⟨w,World.grownBy.refl _ _⟩⟩
def IsKept(w:World)(row:Option Nat):World→Prop:=fun w'=>∃ x:Kept w row,w'=x.1
theorem isKept_of(h:w.grownBy w' row):IsKept w row w':=⟨⟨w',h⟩,rfl⟩
@[go_sem] theorem isKept_all   {p:World→Prop}:(∀ w',IsKept w row w'→p w')↔∀ x:Kept w row,p x.1:=⟨fun h x=>h _ ⟨x,rfl⟩,fun h w' ⟨x,hx⟩=>hx▸h x⟩
@[simp,go_sem] theorem kept_cell   (x:Kept w row)  (h:a.block<w.heap.size) (hn:¬ some a.block=row):World.cell? x.1 a=w.cell? a:=World.cell?_of_block (x.2.block _ h hn)
@[simp,go_sem] theorem kept_frozen   (x:Kept w row)  (h:a.block<w.heap.size) (hn:¬ some a.block=row):World.frozen? x.1 a=w.frozen? a:=by have:=x.2.block _ h hn;unfold World.frozen?;rw [this]
theorem only_alloc{a:World}(h:a.grownBy w row)(o:Obj):a.grownBy (w.alloc o) row:=
 ⟨h.os,h.tape,h.output,Nat.le_trans h.size (by simp),fun i hi hne=>(Below.heap_alloc w o i (Nat.lt_of_lt_of_le hi h.size)).trans (h.block i hi hne)⟩
theorem gsc(w:World)(j:Nat)(u:Value):w.grownBy (w.setCell ⟨g,j,none⟩ u) (some g):=
 ⟨rfl,rfl,rfl,by simp [World.setCell],fun i _ hne=>Below.heap_setCell w ⟨g,j,none⟩ u i (fun h=>hne (by rw [h]))⟩
theorem own_grown{v:Value}(h:w.ownsRow B e sz v n xs)(hg:w.grownBy w' row)(hn:v.ownBlock=none∨v.ownBlock≠row):w'.ownsRow B e sz v n xs:=by
 obtain⟨h1,h2⟩:=h;rcases h2 with⟨rfl,h0⟩|⟨g,cap,cur,rfl,hb,hgh,hnc,hm,hs,ht⟩
 · exact⟨h1,.inl ⟨rfl,h0⟩⟩
 have hne:some g≠row:=by
  rcases hn with hn|hn
  · simp [Value.ownBlock] at hn
  exact hn
 exact⟨h1,.inr ⟨g,cap,cur,rfl,hb,by rw [hg.block g (Array.getElem?_eq_some_iff.1 hgh).1 hne];exact hgh,hnc,hm,hs,ht⟩⟩
theorem OwnAt.grown(h:OwnAt w B e sz g n cap xs)(hg:w.grownBy w' row)(hn:some g≠row):OwnAt w' B e sz g n cap xs:=by obtain⟨junk,h1,h2⟩:=h.at';exact⟨⟨junk,by rw [hg.block g h.lt hn];exact h1,h2⟩,h.len,h.base,h.nc,h.cm⟩
theorem OwnAt.setCell(h:OwnAt w B e sz g n cap xs)(j:Nat)(hj:j<xs.length)(u:Value):OwnAt (w.setCell ⟨g,j,none⟩ u) B e sz g n cap (xs.set j u):=by obtain⟨junk,h1,h2⟩:=h.at';have hs:=setCell_eq_setRow w g j (xs++junk).toArray e (0,0) u h1;refine⟨⟨junk,?_,by simpa using h2⟩,by simpa using h.len,h.base,h.nc,h.cm⟩;rw [hs,setRow_heap w g _ _ e _ h1];simp only [Option.some.injEq,Obj.cells.injEq,and_true];apply Array.ext';simp [List.set_append_left _ _ hj]
theorem OwnAt.free(h:OwnAt w B e sz g n cap xs)(j:Nat):w.frozen? ⟨g,j,none⟩=false:=by obtain⟨junk,h1,_⟩:=h.at';exact Arr.free (w:=w) (g:=g) (cs:=xs++junk) ⟨e,h1⟩ j
def SameAt(w:World)(b:Nat):Type:={w':World // w'.heap[b]? = w.heap[b]?}
instance (w:World) (b:Nat):Nonempty (SameAt w b):=⟨⟨w,rfl⟩⟩
def IsSameAt(w:World)(b:Nat):World→Prop:=fun w'=>∃ x:SameAt w b,w'=x.1
@[go_sem] theorem isSameAt_all   {p:World→Prop}:(∀ w',IsSameAt w b w'→p w')↔∀ x:SameAt w b,p x.1:=⟨fun h x=>h _ ⟨x,rfl⟩,fun h w' ⟨x,hx⟩=>hx▸h x⟩
@[simp,go_sem] theorem same_cell   (x:SameAt w b)  (h:a.block=b):World.cell? x.1 a=w.cell? a:=World.cell?_of_block (by rw [h];exact x.2)
@[simp,go_sem] theorem same_frozen   (x:SameAt w b)  (h:a.block=b):World.frozen? x.1 a=w.frozen? a:=by have:=x.2;unfold World.frozen?;rw [h,this]
end
section
variable{a b:Nat}
def encPid(p:PidM):List Value:=[.int .u8 p.author.toNat,.int .u16 p.seq.toNat]
def encVid(v:VidM):List Value:=[.int .u8 v.pid.author.toNat,.int .u16 v.pid.seq.toNat,.int .u8 v.n.toNat]
abbrev cP(p:PidM):Array Value:=#[.int .u8 p.author.toNat,.int .u16 p.seq.toNat]
abbrev cV(v:VidM):Array Value:=#[.int .u8 v.pid.author.toNat,.int .u16 v.pid.seq.toNat,.int .u8 v.n.toNat]
abbrev pidV(p:PidM):Value:=.agg #[.int .u8 p.author.toNat,.int .u16 p.seq.toNat]
abbrev vidV(v:VidM):Value:=.agg #[.int .u8 v.pid.author.toNat,.int .u16 v.pid.seq.toNat,.int .u8 v.n.toNat]
theorem or_shift(k:Nat)(hb:b<2 ^ k):a*2 ^ k ||| b=a*2 ^ k+b:=by rw [← Nat.shiftLeft_eq,Nat.shiftLeft_add_eq_or_of_lt hb]
theorem or_pid(ha:a<256)(hb:b<65536):bits .or .u32 ((a:Int)*65536) (b:Int)=((a*65536+b:Nat):Int):=by have:=or_u32 (a:=a*65536) (b:=b) (by omega) (by omega);rw [Int.natCast_mul] at this;rw [show((a:Int)*65536)=(a:Int)*((65536:Nat):Int) from rfl,this,or_shift (a:=a) 16 hb]
theorem or_vid(ha:a<16777216)(hb:b<256):bits .or .u32 ((a:Int)*256) (b:Int)=((a*256+b:Nat):Int):=by have:=or_u32 (a:=a*256) (b:=b) (by omega) (by omega);rw [Int.natCast_mul] at this;rw [show((a:Int)*256)=(a:Int)*((256:Nat):Int) from rfl,this,or_shift (a:=a) 8 hb]
theorem bnew{w:World}(o:Obj):Be w (w.alloc o):=(Below.refl _ _).alloc (Nat.le_refl _) o
theorem nan_any(a:Nat)(w:World):Calls Tryz.prog 224 #[.int .u32 (a:Int)] w fun e w'=>e=.returned (.bool false)∧w'=w:=by go_enter Tryz.func224,Tryz.ntmps224;go_wp2;go_ret;exact⟨rfl,rfl⟩
theorem cmpN_lt(h:a<b):cmpN a b = -1:=by unfold cmpN;rw [if_pos h]
theorem cmpN_gt(h:b<a):cmpN a b=1:=by unfold cmpN;rw [if_neg (by omega),if_pos h]
theorem cmpN_eq(h:a=b):cmpN a b=0:=by unfold cmpN;rw [if_neg (by omega),if_neg (by omega)]
attribute [local irreducible] packPid packVid cmpN
theorem compare_any(a b:Nat)(w:World):Calls Tryz.prog 152 #[.int .u32 (a:Int),.int .u32 (b:Int)] w fun e w'=>e=.returned (.int .i64 (cmpN a b))∧w'=w:=by
 by_cases h1:a<b
 ·
  have HC:=Lh (cmpN_lt h1);have d1:decide (a<b)=true:=by simpa using h1
  go_enter Tryz.func152,Tryz.ntmps152;go_wp2_with (go_at_call 224;(with_reducible refine(nan_any _ _).mono ?_);rintro e w' ⟨rfl,rfl⟩);go_ret;exact⟨ret_int HC.o.symm,rfl⟩
 have d1:decide (a<b)=false:=by simpa using h1
 by_cases h2:b<a
 ·
  have HC:=Lh (cmpN_gt h2);have d2:decide (b<a)=true:=by simpa using h2
  go_enter Tryz.func152,Tryz.ntmps152;go_wp2_with (go_at_call 224;(with_reducible refine(nan_any _ _).mono ?_);rintro e w' ⟨rfl,rfl⟩);go_ret;exact⟨ret_int HC.o.symm,rfl⟩
 have d2:decide (b<a)=false:=by simpa using h2
 have HC:=Lh (cmpN_eq (show a=b by omega));go_enter Tryz.func152,Tryz.ntmps152;go_wp2_with (go_at_call 224;(with_reducible refine(nan_any _ _).mono ?_);rintro e w' ⟨rfl,rfl⟩);go_ret;exact⟨ret_int HC.o.symm,rfl⟩
end
theorem fields_of{P:Program}{t:TypeId}{fs:Array Field}(h:P.underlying t=some (.struct fs)):P.fieldsOf t=fs:=by unfold Program.fieldsOf;rw [h]
theorem u8_int(a b:UInt8):((a.toNat:Int)=(b.toNat:Int))=(a=b):=by rw [eq_iff_iff];exact⟨fun h=>UInt8.toNat_inj.1 (by omega),fun h=>by rw [h]⟩
theorem u16_int(a b:UInt16):((a.toNat:Int)=(b.toNat:Int))=(a=b):=by rw [eq_iff_iff];exact⟨fun h=>UInt16.toNat_inj.1 (by omega),fun h=>by rw [h]⟩
theorem stoodPid:Tryz.prog.stoodInHeld 25=false:=by kernel_rfl
theorem guardPid:Tryz.prog.eqGuardType Tryz.prog.depth 25=false:=by kernel_rfl
theorem stoodVid:Tryz.prog.stoodInHeld 74=false:=by kernel_rfl
theorem guardVid:Tryz.prog.eqGuardType Tryz.prog.depth 74=false:=by kernel_rfl
theorem equal_pid(d:Nat)(x y:PidM)(w:World):(Op.equalIn (d+2) 25 (pidV x) (pidV y)).run Tryz.prog w=.ok (decide (x=y)) w:=by
 have hf:=Tryz.underlying25;have hff:=fields_of hf;unfold pidV;rw [run_equalIn_struct (d:=d+1) w 25 _ _ (by rw [hff];exact hf) stoodPid,hff];have i5:=Tryz.underlying5;have i9:=Tryz.underlying23;simp only [go_sem,i5,i9];obtain⟨a,b⟩:=x;obtain⟨a',b'⟩:=y;simp [go_sem,i5,i9,u8_int,u16_int]
 by_cases e1:a=a' <;> by_cases e2:b=b' <;> simp [e1,e2]
theorem eql_pid(x y:PidM)(b:Bool)(h:decide (x=y)=b)(w:World):(binOp .eql 25 (pidV x) (pidV y)).run Tryz.prog w=.ok (.bool b) w:=by unfold pidV;rw [run_eql_struct,show(10000:Nat)=9998+2 from rfl,equal_pid 9998 x y,← h];rfl
theorem neq_pid(x y:PidM)(b:Bool)(h:(!decide (x=y))=b)(w:World):(binOp .neq 25 (pidV x) (pidV y)).run Tryz.prog w=.ok (.bool b) w:=by unfold pidV;rw [run_neq_struct,show(10000:Nat)=9998+2 from rfl,equal_pid 9998 x y,← h];rfl
theorem guard_pid(op:BinOp)(p q:Operand)(xs ys:Array Value)(w:World):(eqGuard op 25 p q (.agg xs) (.agg ys)).run Tryz.prog w=.ok () w:=run_eqGuard_agg w op _ p q xs ys guardPid
theorem equal_vid(d:Nat)(x y:VidM)(w:World):(Op.equalIn (d+4) 74 (vidV x) (vidV y)).run Tryz.prog w=.ok (decide (x=y)) w:=by
 have hf:=Tryz.underlying74;have hff:=fields_of hf;unfold vidV;rw [run_equalIn_struct (d:=d+3) w 74 _ _ (by rw [hff];exact hf) stoodVid,hff];have i5:=Tryz.underlying5;have hp:∀ w,(Op.equalIn (d+3) 25 (.agg (cP x.pid)) (.agg (cP y.pid))).run Tryz.prog w=.ok (decide (x.pid=y.pid)) w:=fun w=>equal_pid (d+1) x.pid y.pid w;have z1:=Tryz.sizeOf25;have z2:=Tryz.sizeOf5;have z3:=Tryz.isAgg25;have z4:=Tryz.isAgg5;simp [go_sem,i5,z1,z2,z3,z4,hp,u8_int];obtain⟨a,b⟩:=x;obtain⟨a',b'⟩:=y
 by_cases e1:a=a' <;> by_cases e2:b=b' <;> simp [e1,e2]
theorem eql_vid(x y:VidM)(b:Bool)(h:decide (x=y)=b)(w:World):(binOp .eql 74 (vidV x) (vidV y)).run Tryz.prog w=.ok (.bool b) w:=by unfold vidV;rw [run_eql_struct,show(10000:Nat)=9996+4 from rfl,equal_vid 9996 x y,← h];rfl
theorem neq_vid(x y:VidM)(b:Bool)(h:(!decide (x=y))=b)(w:World):(binOp .neq 74 (vidV x) (vidV y)).run Tryz.prog w=.ok (.bool b) w:=by unfold vidV;rw [run_neq_struct,show(10000:Nat)=9996+4 from rfl,equal_vid 9996 x y,← h];rfl
theorem guard_vid(op:BinOp)(p q:Operand)(xs ys:Array Value)(w:World):(eqGuard op 74 p q (.agg xs) (.agg ys)).run Tryz.prog w=.ok () w:=run_eqGuard_agg w op _ p q xs ys guardVid
def encOp(o:OpM):List Value:=.int .u8 o.kind.toNat :: (encVid o.at'++(encVid o.to++[.string o.text]))
abbrev cO(o:OpM):Array Value:=#[.int .u8 o.kind.toNat,.int .u8 o.at'.pid.author.toNat,.int .u16 o.at'.pid.seq.toNat,.int .u8 o.at'.n.toNat,.int .u8 o.to.pid.author.toNat,.int .u16 o.to.pid.seq.toNat,.int .u8 o.to.n.toNat,.string o.text]
abbrev cX(v:VertM):Array Value:=#[.int .u8 v.id.pid.author.toNat,.int .u16 v.id.pid.seq.toNat,.int .u8 v.id.n.toNat,.int .u8 v.kind.toNat,.int .u8 v.file.pid.author.toNat,.int .u16 v.file.pid.seq.toNat,.int .u8 v.file.n.toNat,.string v.text,.bool v.dead]
abbrev opV(o:OpM):Value:=.agg #[.int .u8 o.kind.toNat,.int .u8 o.at'.pid.author.toNat,.int .u16 o.at'.pid.seq.toNat,.int .u8 o.at'.n.toNat,
 .int .u8 o.to.pid.author.toNat,.int .u16 o.to.pid.seq.toNat,.int .u8 o.to.n.toNat,.string o.text]
def encVert(v:VertM):List Value:=encVid v.id++(.int .u8 v.kind.toNat :: (encVid v.file++[.string v.text,.bool v.dead]))
abbrev vertV(v:VertM):Value:=.agg #[.int .u8 v.id.pid.author.toNat,.int .u16 v.id.pid.seq.toNat,.int .u8 v.id.n.toNat,.int .u8 v.kind.toNat,
 .int .u8 v.file.pid.author.toNat,.int .u16 v.file.pid.seq.toNat,.int .u8 v.file.n.toNat,.string v.text,.bool v.dead]
section
attribute [local irreducible] packPid packVid cmpN
theorem pgoodPid_any(p:PidM)(w:World):Calls Tryz.prog 177 #[pidV p] w fun e w'=>e=.returned (.bool (goodPid p))∧Be w w':=by
 have HB:=Lh (bnew (w:=w) (.cells (cP p) 25));have HG:Hid (goodPid p=(decide (1≤p.author.toNat) && (decide (p.author.toNat≤64) && (decide (1≤p.seq.toNat) && decide (p.seq.toNat≤60000))))):=rfl;unfold pidV
 by_cases h1:1≤p.author.toNat
 rotate_left
 ·
  have e1:decide ((1:Int)≤(p.author.toNat:Int))=false:=by simp;omega
  have HV:Hid (goodPid p=false):=by show _=_;rw [HG.o];simp;omega
  go_enter Tryz.func177,Tryz.ntmps177;go_wp2;go_ret;exact⟨rvb HV.o,HB.o⟩
 have e1:decide ((1:Int)≤(p.author.toNat:Int))=true:=by simp;omega
 by_cases h2:p.author.toNat≤64
 rotate_left
 ·
  have e2:decide ((p.author.toNat:Int)≤64)=false:=by simp;omega
  have HV:Hid (goodPid p=false):=by show _=_;rw [HG.o];simp [h1];omega
  go_enter Tryz.func177,Tryz.ntmps177;go_wp2;go_ret;exact⟨rvb HV.o,HB.o⟩
 have e2:decide ((p.author.toNat:Int)≤64)=true:=by simp;omega
 by_cases h3:1≤p.seq.toNat
 ·
  have e3:decide ((1:Int)≤(p.seq.toNat:Int))=true:=by simp;omega
  by_cases h4:p.seq.toNat≤60000
  · have e4:decide ((p.seq.toNat:Int)≤60000)=true:=(by simp;omega);have HV:Hid (goodPid p=true):=(by show _=_;rw [HG.o];simp [h1,h2,h3,h4]);go_enter Tryz.func177,Tryz.ntmps177;go_wp2;go_ret;exact⟨rvb HV.o,HB.o⟩
  have e4:decide ((p.seq.toNat:Int)≤60000)=false:=by simp;omega
  have HV:Hid (goodPid p=false):=by show _=_;rw [HG.o];simp [h1,h2,h3];omega
  go_enter Tryz.func177,Tryz.ntmps177;go_wp2;go_ret;exact⟨rvb HV.o,HB.o⟩
 have e3:decide ((1:Int)≤(p.seq.toNat:Int))=false:=by simp;omega
 have HV:Hid (goodPid p=false):=by show _=_;rw [HG.o];simp [h1,h2];omega
 go_enter Tryz.func177,Tryz.ntmps177;go_wp2;go_ret;exact⟨rvb HV.o,HB.o⟩
theorem pgoodVid_any(v:VidM)(w:World):Calls Tryz.prog 241 #[vidV v] w fun e w'=>e=.returned (.bool (goodVid v))∧Be w w':=by
 have HB:=Lh (bnew (w:=w) (.cells (cV v) 74));have HA:=Lh (arrT_new w [.int .u8 v.pid.author.toNat,.int .u16 v.pid.seq.toNat,.int .u8 v.n.toNat] 74);have HG:Hid (goodVid v=(goodPid v.pid && decide (v.n.toNat<200))):=rfl;unfold vidV;cases hg:goodPid v.pid with
 | false =>
  have HV:Hid (goodVid v=false):=by show _=_;rw [HG.o,hg];rfl
  go_enter Tryz.func241,Tryz.ntmps241;go_wp2_with fail;generalize w.alloc (.cells (cV v) 74)=w0 at *;obtain⟨c0,c1,c2,sA⟩:=HA.o.arr.c3;refine(pgoodPid_any v.pid _).mono ?_;rintro e w1 ⟨rfl,hb1⟩;have HA1:=Lh (HA.o.over hb1);obtain⟨k0,k1,k2,sA1⟩:=HA1.o.arr.c3;clear c0 c1 c2 sA;go_wp2;go_ret;exact⟨rvb HV.o,bvo HB.o hb1⟩
 | true =>
  have e1:decide ((v.n.toNat:Int)<200)=decide (v.n.toNat<200):=decide_eq_decide.2 (by omega);have HV:Hid (goodVid v=decide (v.n.toNat<200)):=by show _=_;rw [HG.o,hg];rfl
  go_enter Tryz.func241,Tryz.ntmps241;go_wp2_with fail;generalize w.alloc (.cells (cV v) 74)=w0 at *;obtain⟨c0,c1,c2,sA⟩:=HA.o.arr.c3;refine(pgoodPid_any v.pid _).mono ?_;rintro e w1 ⟨rfl,hb1⟩;have HA1:=Lh (HA.o.over hb1);obtain⟨k0,k1,k2,sA1⟩:=HA1.o.arr.c3;clear c0 c1 c2 sA;go_wp2;go_ret;exact⟨rvb HV.o,bvo HB.o hb1⟩
end
section
attribute [local irreducible] packPid packVid cmpN cmpPid cmpVid
end
variable{o:OpM}{w:World}
theorem u8_nat(a:UInt8)(n:Nat)(h:n<256):a=UInt8.ofNat n↔a.toNat=n:=by
 constructor
 · intro e;rw [e];simp;omega
 intro e;apply UInt8.toNat_inj.1;simp;omega
theorem makes_nat(k:UInt8):makesB k=(decide (1≤k.toNat) && decide (k.toNat≤3)):=by
 unfold makesB;have h1:(k == 1)=decide (k.toNat=1):=by rw [Bool.eq_iff_iff,beq_iff_eq,decide_eq_true_eq];exact u8_nat k 1 (by omega)
 have h2:(k == 2)=decide (k.toNat=2):=by rw [Bool.eq_iff_iff,beq_iff_eq,decide_eq_true_eq];exact u8_nat k 2 (by omega)
 have h3:(k == 3)=decide (k.toNat=3):=by rw [Bool.eq_iff_iff,beq_iff_eq,decide_eq_true_eq];exact u8_nat k 3 (by omega)
 rw [h1,h2,h3];rw [Bool.eq_iff_iff];simp;omega
attribute [local irreducible] makesB
theorem pmakes_any(k:UInt8)(w:World):Calls Tryz.prog 65 #[.int .u8 k.toNat] w fun e w'=>e=.returned (.bool (makesB k))∧w'=w:=by
 have HM:=Lh (makes_nat k)
 by_cases h1:1≤k.toNat
 ·
  have e1:decide ((1:Int)≤(k.toNat:Int))=true:=by simp;omega
  by_cases h2:k.toNat≤3
  · have e2:decide ((k.toNat:Int)≤3)=true:=(by simp;omega);have HV:Hid (makesB k=true):=(by show _=_;rw [HM.o];simp;omega);go_enter Tryz.func65,Tryz.ntmps65;go_wp2;go_ret;exact⟨rvb HV.o,rfl⟩
  have e2:decide ((k.toNat:Int)≤3)=false:=by simp;omega
  have HV:Hid (makesB k=false):=by show _=_;rw [HM.o];simp;omega
  go_enter Tryz.func65,Tryz.ntmps65;go_wp2;go_ret;exact⟨rvb HV.o,rfl⟩
 have e1:decide ((1:Int)≤(k.toNat:Int))=false:=by simp;omega
 have HV:Hid (makesB k=false):=by show _=_;rw [HM.o];simp;omega
 go_enter Tryz.func65,Tryz.ntmps65;go_wp2;go_ret;exact⟨rvb HV.o,rfl⟩
theorem rowT_vid:RowT Tryz.prog 74 3:=rowT_of Tryz.underlying74 rfl (by kernel_rfl)
theorem mod_u8(i:Nat):((i:Int) % 256)=((UInt8.ofNat i).toNat:Int):=by simp
theorem vid_ret{w':World}{p:PidM}{i:Nat}(h:Be w w'):(Ending.returned (.agg #[.int .u8 p.author.toNat,.int .u16 p.seq.toNat,.int .u8 ((i:Int) % 256)])=.returned (vidV ⟨p,UInt8.ofNat i⟩))∧Be w w':=by rw [mod_u8];exact⟨rfl,h⟩
theorem pvid_any(p:PidM)(i:Nat)(w:World)(hi:i<4611686018427387904):Calls Tryz.prog 95 #[pidV p,.int .i64 i] w fun e w'=>e=.returned (vidV ⟨p,UInt8.ofNat i⟩)∧Be w w':=by unfold pidV;go_enter Tryz.func95,Tryz.ntmps95;go_wp2_with fail;exact bodyPost_ret (v:=.agg #[.int .u8 p.author.toNat,.int .u16 p.seq.toNat,.int .u8 ((i:Int) % 256)]) (results_arr rowT_vid rfl (an2 _ _ _ _) rfl rfl) rfl (vid_ret ((bnew _).alloc (by simp) _))
def VRow(w:World)(v:Value)(vs:List VidM):Prop:=Row w v vs.length 3 (vs.flatMap encVid)
theorem row_of_arr{g:Nat}{cs:List Value}{n sz:Nat}(h:Arr w g cs)(hl:cs.length=n*sz)(hn:n≤1000)(h0:n≠0):Row w (.slice (some ⟨g,0,none⟩) n n) n sz cs:=
 ⟨hl,_,n,rfl,Nat.le_refl _,by unfold maxLen;omega,fun h=>(by cases h),fun _=>⟨g,0,rfl,h.lt,fun j u hu=>by rw [Nat.zero_add];exact h.cell hu⟩⟩
def RefsAt(w:World)(v:Value)(vs:List VidM):Prop:=(vs=[]∧v=.slice none 0 0)∨(vs≠[]∧vs.length≤1000∧∃ g,v=.slice (some ⟨g,0,none⟩) vs.length vs.length∧ArrT w g 74 (vs.flatMap encVid))
theorem vid_flat_len:∀ vs:List VidM,(vs.flatMap encVid).length=vs.length*3
 | []=>rfl
 | v :: vs=>by rw [List.flatMap_cons,List.length_append,vid_flat_len vs,List.length_cons];simp [encVid];omega
theorem RefsAt.vrow{v:Value}{vs:List VidM}(h:RefsAt w v vs):VRow w v vs:=by
 rcases h with⟨rfl,rfl⟩|⟨hne,hle,g,rfl,hA⟩
 · exact row_nil w 3
 exact row_of_arr hA.arr (vid_flat_len vs) hle (fun e=>hne (List.eq_nil_of_length_eq_zero e))
def RefsRes(w:World)(vs:List VidM)(e:Ending)(w':World):Prop:=∃ v,e=.returned v∧RefsAt w' v vs∧Be w w'
theorem arrT_at{g:Nat}(cs:Array Value)(e:TypeId)(hg:w.heap.size=g):ArrT (w.alloc (.cells cs e)) g e cs.toList:=by subst hg;exact arrT_new w cs.toList e
theorem refs_one(h:o.kind.toNat=2∨o.kind.toNat=3∨o.kind.toNat=5):refsM o=[o.at']:=by
 unfold refsM;rw [if_pos];rcases h with h|h|h
 · exact .inl ((u8_nat _ 2 (by omega)).2 h)
 · exact .inr (.inl ((u8_nat _ 3 (by omega)).2 h))
 exact .inr (.inr ((u8_nat _ 5 (by omega)).2 h))
theorem refs_two(h:o.kind.toNat=4):refsM o=[o.at',o.to]:=by have h4:o.kind=4:=(u8_nat _ 4 (by omega)).2 h;unfold refsM;rw [h4];rfl
theorem refs_none(h:¬ (o.kind.toNat=2∨o.kind.toNat=3∨o.kind.toNat=4∨o.kind.toNat=5)):refsM o=[]:=by
 unfold refsM;rw [if_neg,if_neg]
 · intro e;exact h (.inr (.inr (.inl ((u8_nat _ 4 (by omega)).1 e))))
 rintro(e|e|e)
 · exact h (.inl ((u8_nat _ 2 (by omega)).1 e))
 · exact h (.inr (.inl ((u8_nat _ 3 (by omega)).1 e)))
 exact h (.inr (.inr (.inr ((u8_nat _ 5 (by omega)).1 e))))
attribute [local irreducible] refsM
theorem prefs_any(o:OpM)(w:World):Calls Tryz.prog 175 #[opV o] w (RefsRes w (refsM o)):=by
 unfold opV
 by_cases h1:o.kind.toNat=2∨o.kind.toNat=3∨o.kind.toNat=5
 ·
  have HR:=Lh (refs_one h1);rcases h1 with h1|h1|h1
  · have e2:((o.kind.toNat:Int) == 2)=true:=(by simp;omega);have e3:((o.kind.toNat:Int) == 3)=false:=(by simp;omega);have e5:((o.kind.toNat:Int) == 5)=false:=(by simp;omega);clear h1;go_enter Tryz.func175,Tryz.ntmps175;go_wp2;go_ret;exact⟨_,rfl,(by rw [HR.o];exact .inr ⟨by simp,by simp,_,rfl,arrT_at _ _ (by simp)⟩),(bnew _).alloc (by simp) _⟩
  · have e2:((o.kind.toNat:Int) == 2)=false:=(by simp;omega);have e3:((o.kind.toNat:Int) == 3)=true:=(by simp;omega);have e5:((o.kind.toNat:Int) == 5)=false:=(by simp;omega);clear h1;go_enter Tryz.func175,Tryz.ntmps175;go_wp2;go_ret;exact⟨_,rfl,(by rw [HR.o];exact .inr ⟨by simp,by simp,_,rfl,arrT_at _ _ (by simp)⟩),(bnew _).alloc (by simp) _⟩
  have e2:((o.kind.toNat:Int) == 2)=false:=by simp;omega
  have e3:((o.kind.toNat:Int) == 3)=false:=by simp;omega
  have e5:((o.kind.toNat:Int) == 5)=true:=by simp;omega
  clear h1;go_enter Tryz.func175,Tryz.ntmps175;go_wp2;go_ret;exact⟨_,rfl,(by rw [HR.o];exact .inr ⟨by simp,by simp,_,rfl,arrT_at _ _ (by simp)⟩),(bnew _).alloc (by simp) _⟩
 by_cases h4:o.kind.toNat=4
 ·
  have HR:=Lh (refs_two h4);have e2:((o.kind.toNat:Int) == 2)=false:=by simp;omega
  have e3:((o.kind.toNat:Int) == 3)=false:=by simp;omega
  have e5:((o.kind.toNat:Int) == 5)=false:=by simp;omega
  have e4:((o.kind.toNat:Int) == 4)=true:=by simp;omega
  clear h1 h4;go_enter Tryz.func175,Tryz.ntmps175;go_wp2;go_ret;exact⟨_,rfl,(by rw [HR.o];exact .inr ⟨by simp,by simp,_,rfl,arrT_at _ _ (by simp)⟩),(bnew _).alloc (by simp) _⟩
 have HR:=Lh (refs_none (o:=o) (by omega));have e2:((o.kind.toNat:Int) == 2)=false:=by simp;omega
 have e3:((o.kind.toNat:Int) == 3)=false:=by simp;omega
 have e5:((o.kind.toNat:Int) == 5)=false:=by simp;omega
 have e4:((o.kind.toNat:Int) == 4)=false:=by simp;omega
 clear h1 h4;go_enter Tryz.func175,Tryz.ntmps175;go_wp2;go_ret;exact⟨_,rfl,(by rw [HR.o];exact .inl ⟨rfl,rfl⟩),bnew _⟩
end Go.Proofs.YtjccmcgglfncdaaGreatDoor
