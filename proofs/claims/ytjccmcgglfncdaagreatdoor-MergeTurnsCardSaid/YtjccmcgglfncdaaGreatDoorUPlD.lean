/- What is proved: MergeTurns, for every input; of the listed tables the walk needs the powers of ten. -/
import Derived.Test.YtjccmcgglfncdaaGreatDoorULay2
import Derived.Lib.AppendIntMem
import Derived.Shelf.SortM.SortNone
import Derived.Maps.Keyed
import Derived.Test.YtjccmcgglfncdaaGreatDoorUPgC
set_option linter.unusedVariables false
set_option linter.unusedSimpArgs false
set_option maxRecDepth 100000
set_option maxHeartbeats 40000000
namespace Go.Proofs.YtjccmcgglfncdaaGreatDoor
open Go Go.RowKit
section
def Tab (w : World) : Prop := Lib.TabIs Tryz.prog w "internal/strconv.uint64pow10" .u64 Lib.pow10Tab
theorem Tab.over{w w':World}(h:Tab w)(hb:Be w w'):Tab w':=Lib.tabBelow_of_tabIs h w' hb
def decB(n:Nat):ByteArray:=⟨(Lib.decDigits n).toArray⟩
theorem dec_len:∀(k u:Nat),u<10 ^ k→(Lib.decDigits u).length≤k+1
 | 0,u,h=>by rw [Lib.decDigits,dif_pos (by simp at h;omega)];simp
 | k+1,u,h=>by
  rw [Lib.decDigits];split
  · simp
  rename_i h10;rw [Nat.pow_succ] at h;have:=dec_len k (u / 10) (by omega);simp;omega
theorem decB_size{u:Nat}(h:u<100000):(decB u).size≤6:=dec_len 5 u (by simpa using h)
theorem itoa_any(n:Nat)(w:World)(hn:n<65536)(ht:Tab w):Calls Tryz.prog 144 #[.int .i64 n] w fun e w'=>e=.returned (.string (decB n))∧Be w w':=by have hcon:=Any.strconv_Itoa (P:=Tryz.prog) Tryz.itoa (n:Int) (by omega) (by omega) w ht;refine hcon.mono ?_;rintro e w' ⟨rfl,k,os,rfl⟩;refine⟨?_,Grew.below ⟨k,os,rfl⟩⟩;rw [Lib.itoa_nonneg];rfl
def pidB(p:PidM):ByteArray:=decB p.author.toNat++⟨#[46]⟩++decB p.seq.toNat
theorem pidB_size(p:PidM):(pidB p).size≤20:=by have h1:=decB_size (u:=p.author.toNat) (by have:=p.author.toNat_lt;omega);have h2:=decB_size (u:=p.seq.toNat) (by have:=p.seq.toNat_lt;omega);unfold pidB;rw [ByteArray.size_append,ByteArray.size_append];have:(⟨#[46]⟩:ByteArray).size=1:=rfl;omega
theorem textB_eq(v:VidM):pidB v.pid++⟨#[46]⟩++decB v.n.toNat=textB v:=by apply ByteArray.ext;apply Array.ext';show _=textL v;simp [textL,pidB,decB]
theorem textB_size(v:VidM):(textB v).size≤40:=by have h1:=pidB_size v.pid;have h2:=decB_size (u:=v.n.toNat) (by have:=v.n.toNat_lt;omega);rw [← textB_eq,ByteArray.size_append,ByteArray.size_append];have:(⟨#[46]⟩:ByteArray).size=1:=rfl;omega
attribute [local irreducible] decB pidB textB
theorem ptext_any(p:PidM)(w:World)(ht:Tab w):Calls Tryz.prog 143 #[pidV p] w fun e w'=>e=.returned (.string (pidB p))∧Be w w':=by
 have HA:=Lh (anw w (cP p) 25);have HB:=Lh (bnew (w:=w) (.cells (cP p) 25));have HT:=Lh (ht.over HB.o);have h1:=p.author.toNat_lt;have h2:=p.seq.toNat_lt;have z1:=decB_size (u:=p.author.toNat) (by omega);have z2:=decB_size (u:=p.seq.toNat) (by omega);have HE:Hid (decB p.author.toNat++⟨#[46]⟩++decB p.seq.toNat=pidB p):=by show _=_;unfold pidB;rfl
 clear ht;unfold pidV;go_enter Tryz.func143,Tryz.ntmps143;go_upto_region 1 with fail;generalize w.alloc (.cells (cP p) 25)=w0 at *;obtain⟨c0,c1,sc⟩:=HA.o.c2;have HC1:Hid (∀ w',Be w0 w'→Calls Tryz.prog 144 #[.int .i64 p.author.toNat] w' fun e w''=>e=.returned (.string (decB p.author.toNat))∧Below w'.heap.size w' w''):=fun w' hb=>itoa_any _ w' (by omega) (HT.o.over hb);have HC2:Hid (∀ w',Be w0 w'→Calls Tryz.prog 144 #[.int .i64 p.seq.toNat] w' fun e w''=>e=.returned (.string (decB p.seq.toNat))∧Below w'.heap.size w' w''):=fun w' hb=>itoa_any _ w' (by omega) (HT.o.over hb);generalize decB p.author.toNat=A at *;generalize decB p.seq.toNat=B at *;refine wlo 11 fun hcur=>?_;repeat(first|refine lxq ?_|(refine lxl rfl ?_;go_wp2_with (first|(go_at_call 144;(with_reducible refine(HC1.o _ hcur).mono ?_);rintro e w' ⟨rfl,hb⟩;have hcur:=bvo hcur hb)|(go_at_call 144;(with_reducible refine(HC2.o _ hcur).mono ?_);rintro e w' ⟨rfl,hb⟩;have hcur:=bvo hcur hb));refine⟨iov hcur,?_⟩))
 refine lxe ?_;go_wp2;go_ret;exact⟨rvl (congrArg Value.string HE.o),bvo HB.o hcur⟩
theorem vtext_any(v:VidM)(w:World)(ht:Tab w):Calls Tryz.prog 80 #[vidV v] w fun e w'=>e=.returned (.string (textB v))∧Be w w':=by
 have HA:=Lh (anw w (cV v) 74);have HB:=Lh (bnew (w:=w) (.cells (cV v) 74));have HT:=Lh (ht.over HB.o);have h1:=v.n.toNat_lt;have z1:=pidB_size v.pid;have z2:=decB_size (u:=v.n.toNat) (by omega);have HE:=Lh (textB_eq v);clear ht;unfold vidV;go_enter Tryz.func80,Tryz.ntmps80;go_upto_region 1 with fail;generalize w.alloc (.cells (cV v) 74)=w0 at *;obtain⟨c0,c1,c2,sc⟩:=HA.o.c3;have HC1:Hid (∀ w',Be w0 w'→Calls Tryz.prog 143 #[.agg (cP v.pid)] w' fun e w''=>e=.returned (.string (pidB v.pid))∧Below w'.heap.size w' w''):=fun w' hb=>ptext_any v.pid w' (HT.o.over hb);have HC2:Hid (∀ w',Be w0 w'→Calls Tryz.prog 144 #[.int .i64 v.n.toNat] w' fun e w''=>e=.returned (.string (decB v.n.toNat))∧Below w'.heap.size w' w''):=fun w' hb=>itoa_any _ w' (by omega) (HT.o.over hb);generalize pidB v.pid=A at *;generalize decB v.n.toNat=B at *;refine wlo 10 fun hcur=>?_;repeat(first|refine lxq ?_|(refine lxl rfl ?_;go_wp2_with (first|(go_at_call 143;(with_reducible refine(HC1.o _ hcur).mono ?_);rintro e w' ⟨rfl,hb⟩;have hcur:=bvo hcur hb)|(go_at_call 144;(with_reducible refine(HC2.o _ hcur).mono ?_);rintro e w' ⟨rfl,hb⟩;have hcur:=bvo hcur hb));refine⟨iov hcur,?_⟩))
 refine lxe ?_;go_wp2;go_ret;exact⟨rvl (congrArg Value.string HE.o),bvo HB.o hcur⟩
end
section
variable{t:ByteArray}{xs:List (List UInt8)}{B cap g:Nat}{w:World}
def encT(t:List UInt8):List Value:=[encStr t]
theorem slStrN:SlT Tryz.prog 69 9 1 16:=slT_of Tryz.underlying69 (by kernel_rfl) (by decide)
theorem encT_map(l:List (List UInt8)):l.flatMap encT=l.map encStr:=by
 induction l with
 | nil=>rfl
 | cons x l ih=>rw [List.flatMap_cons,ih];rfl
theorem putCells_enc{α:Type}[Inhabited α](enc:α→Value)(d:Array α)(c:Array Value):Go.Sort.putCells enc 0 d c=Go.Sort.putCells id 0 (d.map enc) c:=by
 apply Array.ext_getElem?;intro t;simp only [Go.Sort.putCells,Array.getElem?_mapIdx,Array.size_map,Nat.sub_zero,id]
 by_cases h:t<d.size
 · rw [getElem!_pos d t h,getElem!_pos (d.map enc) t (by simpa using h)];simp
 simp [h]
theorem OwnAt.holdsT{e:TypeId}(h:OwnAt w B e 1 g xs.length cap (xs.flatMap encT)):Go.Sort.Holds encStr w g 0 xs.toArray:=by
 intro j hj;rw [Nat.zero_add];refine⟨?_,h.free j⟩;refine h.cell ?_;have hj':j<xs.length:=by simpa using hj
 rw [encT_map,List.getElem?_map,List.getElem?_eq_getElem hj',getElem!_pos xs.toArray j hj];simp
theorem OwnAt.putT{e:TypeId}{ys:List (List UInt8)}(h:OwnAt w B e 1 g xs.length cap (xs.flatMap encT))(hl:ys.length=xs.length)(n:Nat)(os:Array Obj) :
  OwnAt (Go.Sort.grow (Go.Sort.putRow encStr (Go.Sort.ahead w n) g 0 ys.toArray) os) B e 1 g xs.length cap (ys.flatMap encT)∧w.grownBy (Go.Sort.grow (Go.Sort.putRow encStr (Go.Sort.ahead w n) g 0 ys.toArray) os) (some g):=by
 have hlt:=h.lt;obtain⟨junk,h1,h2⟩:=h.at';have hl2:(xs.flatMap encT).length=(ys.flatMap encT).length:=by rw [encT_map,encT_map];simp [hl]
 have hheap:(Go.Sort.putRow encStr (Go.Sort.ahead w n) g 0 ys.toArray).heap[g]? = some (.cells (ys.flatMap encT++junk).toArray e (0,0)):=by unfold Go.Sort.putRow Go.Sort.mapBlock;simp only [Array.getElem?_modify,if_pos];have:(Go.Sort.ahead w n).heap=w.heap:=rfl;rw [this,h1];simp only [Option.map_some,Go.Sort.onCells];rw [putCells_enc,List.map_toArray,← encT_map,putCells_row _ _ _ hl2]
 refine⟨⟨⟨junk,?_,?_⟩,by rw [← hl2];exact h.len,h.base,h.nc,h.cm⟩,?_⟩
 · rw [Go.Sort.heap_grow_old _ _ (by simp [Go.Sort.putRow,Go.Sort.mapBlock];exact hlt)];exact hheap
 · rw [List.length_append,← hl2,← List.length_append];exact h2
 refine⟨rfl,rfl,rfl,by simp [Go.Sort.putRow,Go.Sort.mapBlock,Go.Sort.ahead],fun i hi hne => ?_⟩;rw [Go.Sort.heap_grow_old _ _ (by simp [Go.Sort.putRow,Go.Sort.mapBlock];exact hi)];unfold Go.Sort.putRow Go.Sort.mapBlock;simp only [Array.getElem?_modify];rw [if_neg (fun e=>hne (by rw [e]))];rfl
def sortT(xs:List (List UInt8)):List (List UInt8):=xs.mergeSort fun x y=>decide (x≤y)
theorem sortT_len(xs:List (List UInt8)):(sortT xs).length=xs.length:=List.length_mergeSort _
theorem compact_len(xs:List (List UInt8)):(Lib.compact xs).length≤xs.length:=by unfold Lib.compact Lib.compactUpTo;rw [List.length_map];refine Nat.le_trans (List.length_filter_le _ _) ?_;simp
def SortTRes(w:World)(B g cap:Nat)(xs:List (List UInt8))(r:Ending)(w':World):Prop:=r=.returned (.tuple #[])∧OwnAt w' B 9 1 g xs.length cap ((sortT xs).flatMap encT)∧w.grownBy w' (some g)
theorem sortStr_any(h:OwnAt w B 9 1 g xs.length cap (xs.flatMap encT))(hn:xs.length≤1000000000) :
  Calls Tryz.prog 145 #[.slice (some ⟨g,0,none⟩) xs.length cap] w (SortTRes w B g cap xs):=by have hcon:=AnyM.slices_Sort_string (P:=Tryz.prog) Tryz.sortStr g 0 cap xs w h.holdsT h.lt (by omega);refine hcon.mono ?_;rintro e w' ⟨rfl,n,os,rfl⟩;obtain⟨h1,h2⟩:=h.putT (sortT_len xs) n os;exact⟨rfl,h1,h2⟩
theorem sortStr_none(p:Option Addr)(cap:Nat)(w:World) :
  Calls Tryz.prog 145 #[.slice p 0 cap] w fun e w'=>e=.returned (.tuple #[])∧w'=w:=AnyM.slices_Sort_string_none (P:=Tryz.prog) Tryz.sortStr p cap w
def CompTRes(w:World)(B g:Nat)(xs:List (List UInt8))(e:Ending)(w':World):Prop:=∃ v,e=.returned v∧GOwn encT 1 9 w' B v (Lib.compact xs)∧w.grownBy w' (some g)
theorem compStr_any(h:OwnAt w B 9 1 g xs.length cap (xs.flatMap encT))(hn:xs.length≤1000000000) :
  Calls Tryz.prog 146 #[.slice (some ⟨g,0,none⟩) xs.length cap] w (CompTRes w B g xs):=by have hcon:=AnyG.slices_Compact_string (P:=Tryz.prog) Tryz.compStr g 0 cap xs w h.holdsT (by omega) h.nc;have hcl:=compact_len xs;refine hcon.mono ?_;rintro e w' ⟨rfl,q,rfl⟩;obtain⟨h1,h2⟩:=h.putT (ys:=Lib.compact xs++List.replicate (xs.length - (Lib.compact xs).length) []) (by rw [List.length_append,List.length_replicate];omega) q #[];rw [Go.Sort.grow_empty] at h1 h2;refine⟨_,rfl,?_,h2⟩;have h3:=h1.take hcl;rw [List.flatMap_append,encT_map (Lib.compact xs),List.take_append_of_le_length (by simp),List.take_of_length_le (by simp),← encT_map] at h3;exact h3.own
theorem compStr_none(p:Option Addr)(cap:Nat)(w:World) :
  Calls Tryz.prog 146 #[.slice p 0 cap] w fun e w'=>e=.returned (.slice p 0 cap)∧w'=w:=AnyG.slices_Compact_string_empty (P:=Tryz.prog) Tryz.compStr p cap w
theorem others_yes{xs:List VertM}{k:Nat}{u:VertM}(h:xs[k]? = some u)(hd:¬ u.text=t):othersM (xs.take (k+1)) t=othersM (xs.take k) t++[u.text.data.toList]:=by unfold othersM;rw [take_succ' h,List.filter_append];simp [hd]
theorem others_no{xs:List VertM}{k:Nat}{u:VertM}(h:xs[k]? = some u)(hd:u.text=t):othersM (xs.take (k+1)) t=othersM (xs.take k) t:=by unfold othersM;rw [take_succ' h,List.filter_append];simp [hd]
theorem others_len(xs:List VertM)(k:Nat)(t:ByteArray):(othersM (xs.take k) t).length≤xs.length:=by unfold othersM;rw [List.length_map];exact Nat.le_trans (List.length_filter_le _ _) (by rw [List.length_take];omega)
theorem alsoM_q(xs:List VertM)(t:ByteArray):Lib.compact (sortT (othersM xs t))=alsoM xs t:=rfl
theorem encT_text(s:ByteArray):encT s.data.toList=[.string s]:=rfl
def AlRel(w1:World)(xs:List VertM)(t:ByteArray)(v3 v8:Value)(wr:World):Prop:=∃ k:Nat,k≤xs.length∧v8=.int .i64 k∧Hid (GOwn encT 1 9 wr w1.heap.size v3 (othersM (xs.take k) t))∧Be w1 wr
theorem others_nil{xs:List VertM}(h:othersM xs t=[]):alsoM xs t=[]:=by rw [← alsoM_q,h];simp [sortT,Lib.compact,Lib.compactUpTo]
attribute [local irreducible] othersM alsoM sortT
theorem nalso_any(v:Value)(xs:List VertM)(x0:VertM)(w:World)(hv:GRow encVert 9 w v xs)(h0:xs[0]? = some x0)(hn:xs.length≤1000000) :
  Calls Tryz.prog 81 #[v] w (OwnRes encT 1 9 w (alsoM xs x0.text)):=by
 obtain⟨a,cap,rfl,h1,h2,hc⟩:=hv.at encVert_len;unfold maxLen at h2;have hpos:0<xs.length:=by rcases xs with _|⟨_,_⟩ <;> simp at h0 ⊢
 obtain⟨b,off,rfl,sb,hcb⟩:=hc.resolve_left (by omega);have HC:=Lh hcb;have H0:=Lh h0;have HQ:=Lh (alsoM_q xs x0.text);clear hv hc hcb h0;go_enter Tryz.func81,Tryz.ntmps81;go_wp2;go_loopw [3,8] (fun v3 v8 wr=>AlRel w xs x0.text v3 v8 wr) (fun _ v8 _=>xs.length - (intOf v8).toNat)
 case atStart=>exact⟨0,Nat.zero_le _,rfl,(by show GOwn _ _ _ _ _ _ _;unfold othersM;exact gown_nil _ _),Below.refl _ _⟩
 obtain⟨k,hk,rfl,HM,hbl⟩:=hrel;rename World=>wr;have hol:=others_len xs k x0.text
 by_cases hlt:k<xs.length
 ·
  obtain⟨u,hu⟩:=gol hlt;have HU:=Lh (HC.o k u hu wr hbl);have HX:=Lh hu;obtain⟨u0,u1,u2,u3,u4,u5,u6,u7,u8,su⟩:=rc9 HU.o;clear hu;go_upto_region 5 with fail;have HA7:=Lh (anw wr (cX u) 101);have HB7:=Lh (bnew (w:=wr) (.cells (cX u) 101));generalize wr.alloc (.cells (cX u) 101)=w7 at *;clear u0 u1 u2 u3 u4 u5 u6 u7 u8 su;have hs7:=HB7.o.size;have hsl:=hbl.size;have hb7:=bvo hbl HB7.o;have HZ:=Lh (HC.o 0 x0 H0.o w7 hb7);have q0:w7.cell? ⟨b,off+3+4,none⟩=some (.string x0.text):=by have:=HZ.o.2 7 _ rfl;simpa [Nat.add_assoc] using this
  have q1:w7.cell? ⟨b,off+7,none⟩=some (.string x0.text):=by have:=HZ.o.2 7 _ rfl;simpa [Nat.add_assoc] using this
  have sq:=HZ.o.1;obtain⟨y0,y1,y2,y3,y4,y5,y6,y7,y8,sy⟩:=HA7.o.c9
  by_cases ht:u.text=x0.text
  ·
   have e1:=seq_t ht;have HN:=Lh (others_no HX.o ht);have HMr:=Lh (HM.o.over HB7.o);clear ht;refine wlo 7 fun hcur=>?_;(repeat refine lxq ?_);refine lxe ?_;go_wp2;go_roundw
   case rel=>exact⟨k+1,hlt,by go_num,(by show GOwn _ _ _ _ _ _ _;rw [HN.o];exact HMr.o.over hcur),bvo hb7 hcur⟩
   simp [intOf];omega
  have e1:=seq_f ht;have HN:=Lh (others_yes HX.o ht);clear ht;refine wlo 7 fun hcur=>?_;repeat refine lxq ?_
  refine lxe ?_;have HM8:=Lh ((HM.o.over HB7.o).over hcur);have hb8:=bvo hb7 hcur;have hB8:w.heap.size≤w7.drew.heap.size:=hb8.size;have hN8:(othersM (xs.take k) x0.text).length+1≤1099511627776:=by omega
  have HA8:=Lh (HA7.o.over hcur);clear y0 y1 y2 y3 y4 y5 y6 y7 y8 sy q0 q1 sq hcur;obtain⟨z0,z1,z2,z3,z4,z5,z6,z7,z8,sz⟩:=HA8.o.c9;go_wp2_with (at_builtin;refine apD slStrN rfl _ _ rfl w.heap.size _ _ (dad _ _ _) 1 _ _ _ HM8.o rfl rfl rfl rfl hN8 (by decide) hB8 ?_;intro v9 w9 ho9 hg9);go_roundw
  case rel=>exact⟨k+1,hlt,by go_num,(by show GOwn _ _ _ _ _ _ _;rw [HN.o];exact GOwn.snoc (by rw [encT_text];exact ho9)),bgr hb7 hb7.size (HM.o.over HB7.o) hg9⟩
  simp [intOf];omega
 obtain rfl:k=xs.length:=by omega
 have HO:=HM.o;rw [List.take_length] at HO hol;have HO2:=Lh HO;have HB2:=Lh hbl;clear HM;rcases own_cases HO with⟨hz,p,c,rfl⟩|⟨hne,g,cap2,rfl,hA⟩
 ·
  have HE:=Lh (others_nil hz);have HO3:Hid (GOwn encT 1 9 wr w.heap.size (.slice p 0 c) []):=by show GOwn _ _ _ _ _ _ _;rw [← hz];exact HO2.o
  clear HO hz;go_wp2_with fail;refine(sortStr_none _ _ _).mono ?_;rintro e w2 ⟨rfl,hw2⟩;obtain rfl:=hw2.symm;go_wp2_with fail;refine(compStr_none _ _ _).mono ?_;rintro e w3 ⟨rfl,hw3⟩;obtain rfl:=hw3.symm;go_wp2;go_ret;exact⟨_,rfl,(by rw [HE.o];exact HO3.o),HB2.o⟩
 have HAt:=Lh hA;clear HO hA;go_wp2_with fail;refine(sortStr_any HAt.o (by omega)).mono ?_;rintro e w2 ⟨rfl,hA2,hg2⟩;have hsl:=sortT_len (othersM xs x0.text);rw [← hsl] at hA2;have HA2:=Lh hA2;have HG2:=Lh hg2;have HS:=Lh hsl;clear hA2 hg2 hsl;go_wp2_with fail;rw [← HS.o];refine(compStr_any HA2.o (by have:=HS.o;omega)).mono ?_;rintro e w3 ⟨v3,rfl,ho3,hg3⟩;rw [HQ.o] at ho3;have HO3:=Lh ho3;have HG3:=Lh hg3;clear ho3 hg3;go_wp2;go_ret;exact⟨_,rfl,HO3.o,HB2.o.grown (gtr HG2.o HG3.o) HB2.o.size fun k hk=>by cases hk;exact HAt.o.base⟩
end
section
variable{ns:List NameM}{B sz:Nat}{α:Type}{e:TypeId}{v:Value}{w w':World}
structure LaidN where
 n:NameM
 pa:Option Addr
 ca:Nat
 pf:Option Addr
 cf:Nat
def encU8(c:UInt8):List Value:=[.int .u8 c.toNat]
def encN(x:LaidN):List Value:=[.int .u8 x.n.file.pid.author.toNat,.int .u16 x.n.file.pid.seq.toNat,.int .u8 x.n.file.n.toNat,.string x.n.name,.slice x.pa x.n.also.length x.ca,.slice x.pf x.n.flaws.length x.cf]
theorem encN_len(x:LaidN):(encN x).length=6:=rfl
theorem slName:SlT Tryz.prog 82 86 6 72:=slT_of Tryz.underlying82 (by kernel_rfl) (by decide)
theorem slByte:SlT Tryz.prog 84 5 1 1:=slT_of Tryz.underlying84 (by kernel_rfl) (by decide)
theorem own_sl{enc:α→List Value}{xs:List α}(h:GOwn enc sz e w B v xs):∃ p c,v=.slice p xs.length c:=by
 rcases h.2 with⟨rfl,h0⟩|⟨g,cap,cur,rfl,_⟩
 · exact⟨none,0,by rw [h0]⟩
 exact⟨_,_,rfl⟩
theorem own_apart{β:Type}{enc:α→List Value}{enc':β→List Value}{sz':Nat}{e':TypeId}{B':Nat}{v':Value}{xs:List α}{ys:List β}(h:GOwn enc sz e w B v xs)(h':GOwn enc' sz' e' w B' v' ys)(hne:e≠e'):v.ownBlock=none∨v.ownBlock≠v'.ownBlock:=by
 rcases h.2 with⟨rfl,_⟩|⟨g,cap,cur,rfl,_,hg,_⟩
 · exact .inl rfl
 refine .inr fun q => ?_;rcases h'.2 with⟨rfl,_⟩|⟨g',cap',cur',rfl,_,hg',_⟩
 · simp [Value.ownBlock] at q
 simp only [Value.ownBlock,Option.some.injEq] at q;subst q;rw [hg] at hg';simp only [Option.some.injEq,Obj.cells.injEq] at hg';exact hne hg'.2.1
theorem own_lit{enc:α→List Value}(w:World)(e:TypeId)(xs:List α)(B:Nat)(hl:(xs.flatMap enc).length=xs.length*sz)(hm:xs.length≤maxLen)(hB:B≤w.heap.size):GOwn enc sz e (w.alloc (.cells (xs.flatMap enc).toArray e)) B (.slice (some ⟨w.heap.size,0,none⟩) xs.length xs.length) xs:=
 ⟨hl,.inr ⟨w.heap.size,xs.length,(xs.flatMap enc).toArray,rfl,hB,by rw [heap_alloc_new],Nat.le_refl _,hm,by simp [hl],by rw [← hl];exact List.take_length⟩⟩
def NameAt(w:World)(B:Nat)(x:LaidN):Prop:=GOwn encT 1 9 w B (.slice x.pa x.n.also.length x.ca) x.n.also∧GOwn encU8 1 5 w B (.slice x.pf x.n.flaws.length x.cf) x.n.flaws
def Names(w:World)(B:Nat)(v:Value)(ns:List NameM):Prop:=∃ xs:List LaidN,xs.map (·.n)=ns∧GOwn encN 6 86 w B v xs∧∀ x∈xs,NameAt w B x
theorem gown_keep{enc:α→List Value}{xs:List α}{row:Option Nat}(h:GOwn enc sz e w B v xs)(hg:w.grownBy w' row)(hr:∀ k,row=some k→k<B):GOwn enc sz e w' B v xs:=
 own_grown h hg (by
  cases hv:v.ownBlock with
  | none=>exact .inl rfl
  | some k=>exact .inr fun q=>by have:=gown_base h hv;have:=hr k q.symm;omega)
theorem Names.keep{row:Option Nat}(h:Names w B v ns)(hg:w.grownBy w' row)(hr:∀ k,row=some k→k<B):Names w' B v ns:=by obtain⟨xs,h1,h2,h3⟩:=h;exact⟨xs,h1,gown_keep h2 hg hr,fun x hx=>⟨gown_keep (h3 x hx).1 hg hr,gown_keep (h3 x hx).2 hg hr⟩⟩
theorem Names.over(h:Names w B v ns)(hb:Be w w'):Names w' B v ns:=h.keep (below_none hb) (fun k hk=>by cases hk)
theorem Names.base{B':Nat}(h:Names w B v ns)(hB:B'≤B):Names w B' v ns:=by obtain⟨xs,h1,h2,h3⟩:=h;exact⟨xs,h1,h2.base hB,fun x hx=>⟨(h3 x hx).1.base hB,(h3 x hx).2.base hB⟩⟩
theorem names_nil(w:World)(B:Nat):Names w B (.slice none 0 0) []:=⟨[],rfl,gown_nil _ _,fun x hx=>absurd hx (List.not_mem_nil)⟩
theorem names_snoc{v':Value}{xs:List LaidN}(h1:xs.map (·.n)=ns)(hO:GOwn encN 6 86 w B v xs)(hN:∀ x∈xs,NameAt w B x){y:LaidN}(hy:NameAt w B y)(hg:w.grownBy w' v.ownBlock)
  (ho:w'.ownsRow B 86 6 v' (xs.length+1) (xs.flatMap encN++encN y)):Names w' B v' (ns++[y.n]):=by
 have hk:∀ x,NameAt w B x→NameAt w' B x:=fun x ⟨a,b⟩=>⟨own_grown a hg (own_apart a hO (by decide)),own_grown b hg (own_apart b hO (by decide))⟩;refine⟨xs++[y],by rw [List.map_append,h1];rfl,GOwn.snoc ho,fun x hx => ?_⟩;rcases List.mem_append.1 hx with hx|hx
 · exact hk x (hN x hx)
 rw [List.mem_singleton.1 hx];exact hk y hy
def okStr(s:ByteArray):Prop:=s.size≤maxLen
abbrev strV(s:ByteArray):Value:=.string s
abbrev intV(n:Int):Value:=.int .i64 n
theorem keysStr:KeyEnc Tryz.prog 9 strV okStr:=⟨Maps.string_keyed Tryz.underlying9,fun s hs=>by refine⟨.string s.data.toList,?_⟩;unfold keyOf;rw [Tryz.underlying9];unfold mapKey;rw [Tryz.underlying9];show(if s.size≤maxLen then _ else _)=_;rw [if_pos (show s.size≤maxLen from hs)],fun x y h=>by cases h;rfl⟩
theorem allTo_len(L:List PatchM):∀ k,k≤(filesM L).length→(allTo L k).1.length≤k∧∀ t,(allTo L k).2 t≤k
 | 0,_=>⟨by simp [allTo_zero],fun t=>by simp [allTo_zero]⟩
 | k+1,hk=>by
  obtain⟨h1,h2⟩:=allTo_len L k (by omega);have hf:=List.getElem?_eq_getElem (l:=filesM L) (i:=k) (by omega);rw [allTo_succ hf];unfold stepN;split
  · exact⟨by omega,fun t=>by have:=h2 t;omega⟩
  refine⟨by rw [List.length_append];simp;omega,fun t => ?_⟩;cases namesM L (filesM L)[k] with
  | nil=>have:=h2 t;simp only [bumpL];omega
  | cons x l =>
   simp only [bumpL];unfold bumpT;split
   · have:=h2 x.text;omega
   have:=h2 t;omega
theorem filesM_len(L:List PatchM):(filesM L).length≤(idsM L).length:=by unfold filesM;rw [List.length_map];exact Nat.le_trans (List.length_filter_le _ _) (by unfold vertsM;rw [List.length_map];exact Nat.le_refl _)
def AllIn(L:List PatchM)(w:World)(bm:Nat)(v13 v3 v15:Value)(wr:World):Prop:=
 ∃(k n:Nat) (f:ByteArray→Option Int),k≤(filesM L).length∧n≤k∧v15=.int .i64 k∧Hid (Names wr (bm+1) v3 (allTo L k).1)∧Hid (TMap Tryz.prog 9 strV okStr intV wr bm n f)∧Hid (∀ t,(f t).getD 0=(((allTo L k).2 t:Nat):Int)) ∧
  Hid (GOwn encVid 3 74 wr (bm+1) v13 (filesM L))∧Hid (Be w wr)∧bm+1≤wr.heap.size
def AllRes(w:World)(ns:List NameM)(e:Ending)(w':World):Prop:=∃ v,e=.returned v∧Names w' w.heap.size v ns∧Be w w'
theorem step_dead{L:List PatchM}{s:StN}{f:VidM}{y:VertM}(h1:(vertM L f).getD noVert=y)(h2:y.dead=true):stepN L s f=s:=by unfold stepN deadAt;rw [h1,if_pos h2]
theorem step_live{L:List PatchM}{s:StN}{f:VidM}{y:VertM}(h1:(vertM L f).getD noVert=y)(h2:y.dead=false):stepN L s f=(s.1++[nameOne L s.2 f (namesM L f)],bumpL s.2 (namesM L f)):=by unfold stepN deadAt;rw [h1,if_neg (by simp [h2])]
theorem cnt_bump{f:ByteArray→Option Int}{c:ByteArray→Nat}(h:∀ t,(f t).getD 0=((c t:Nat):Int))(s:ByteArray)(t:ByteArray):(updM f s ((c s:Int)+1) t).getD 0=((bumpT c s t:Nat):Int):=by
 unfold updM bumpT
 by_cases hs:t=s
 · rw [if_pos hs,if_pos hs];simp
 rw [if_neg hs,if_neg hs];exact h t
end
section
theorem grown_farN{w w1 w2:World}{row r2:Option Nat}(h:w.grownBy w1 row)(h':w1.grownBy w2 r2)(hr:∀ k,r2=some k→w.heap.size≤k):w.grownBy w2 row:=
 ⟨h'.os.trans h.os,h'.tape.trans h.tape,h'.output.trans h.output,Nat.le_trans h.size h'.size,fun k hk hne=>(h'.block k (Nat.lt_of_lt_of_le hk h.size) (fun q=>by have:=hr k q.symm;omega)).trans (h.block k hk hne)⟩
theorem names_len(L:List PatchM)(f:VidM)(hl:∀ p∈L,p.ops.length≤200):(namesM L f).length≤(idsM L).length:=by
 unfold namesM;rw [List.length_map];refine nodup_len ?_ fun v hv => ?_
 · exact(rises_setS revK_inj _).imp fun {a b} h e=>by rw [e] at h;omega
 rw [mem_setS revK_inj] at hv;obtain⟨y,hy,rfl⟩:=List.mem_map.1 hv;rw [mem_idsM hl,(aliveM_at hl hy).1];rfl
attribute [local irreducible] vertsM idsM filesM namesM alsoM textB allTo vertM
theorem nameOne_nil(L:List PatchM)(c:ByteArray→Nat)(f:VidM):nameOne L c f []=⟨f,tilde++textB f,[],[3]⟩:=rfl
theorem nameOne_cons(L:List PatchM)(c:ByteArray→Nat)(f:VidM)(x:VertM)(l:List VertM){al:List (List UInt8)}(ha:alsoM (x :: l) x.text=al){q:Bool}(hq:decide (0<al.length)=q){r:Bool}(hr:decide (0<c x.text)=r) :
  nameOne L c f (x :: l)=⟨f,if r=true then x.text++(tilde++textB f) else x.text,al,(if q=true then [2] else [])++(if r=true then [4] else [])⟩:=by
 simp only [nameOne,ha];have e1:(1<c x.text+1)↔r=true:=by rw [← hr,decide_eq_true_iff];omega
 have e2:(al.length=0)↔¬ q=true:=by rw [← hq,decide_eq_true_iff];omega
 by_cases h1:r=true
 ·
  rw [if_pos (e1.2 h1),if_pos h1,if_pos (e1.2 h1),if_pos h1]
  by_cases h2:q=true
  · rw [if_neg (fun h=>e2.1 h h2),if_pos h2]
  rw [if_pos (e2.2 h2),if_neg h2]
 rw [if_neg (fun h=>h1 (e1.1 h)),if_neg h1,if_neg (fun h=>h1 (e1.1 h)),if_neg h1]
 by_cases h2:q=true
 · rw [if_neg (fun h=>e2.1 h h2),if_pos h2]
 rw [if_pos (e2.2 h2),if_neg h2]
theorem nall_any(b:Nat)(L:List PatchM)(w:World)(hg:GrIs w b L)(hw:WfG L)(hil:(idsM L).length≤1000000)(ht:Tab w) :
  Calls Tryz.prog 35 #[.pointer (some ⟨b,0,none⟩)] w (AllRes w (allM L)):=by
 have HGA:=Lh hg;obtain⟨bv,be,nG,hG⟩:=hg;have HG:=Lh hG;have HW:=Lh hw;have hwl:=Lh (wf_len hw);have HT:=Lh ht;have hfl:=Nat.le_trans (filesM_len L) hil;have HAL:Hid (∀ k,k≤(filesM L).length→(allTo L k).1.length≤k∧∀ t,(allTo L k).2 t≤k):=Lh (allTo_len L);have HNO:Hid (∀ f x,x∈namesM L f→nameOk x.text=true):=Lh fun f x hx=>name_ok hw hx;have hmm:=@run_makeMap Tryz.prog;have HM0:Hid (TMap Tryz.prog 9 strV okStr intV (w.alloc (.map #[] 0)) w.heap.size 0 (fun _=>none)):=Lh (TMap.made w);have HB1:=Lh (bnew (w:=w) (.map #[] 0));have hs1:(w.alloc (.map #[] 0)).heap.size=w.heap.size+1:=by simp
 clear hw ht hG;go_enter Tryz.func35,Tryz.ntmps35;go_upto_region 3 with fail;generalize w.alloc (.map #[] 0)=w1 at *;clear hmm;go_wp2_with fail;refine(gfiles_any b L _ (HGA.o.over HB1.o) HW.o hil).mono ?_;rintro e w2 ⟨v13,rfl,ho,hb⟩;have hs2:=hb.size;have HF0:Hid (GOwn encVid 3 74 w2 (w.heap.size+1) v13 (filesM L)):=Lh (ho.base (by omega));have HM2:=Lh (HM0.o.over hb);have HB2:=Lh (bvo HB1.o hb);obtain⟨p13,c13,rfl⟩:=own_sl ho;clear ho hb;go_wp2;go_loopw [3,15] (fun v3 v15 wr=>AllIn L w w.heap.size (.slice p13 (filesM L).length c13) v3 v15 wr) (fun _ v15 _=>(filesM L).length - (intOf v15).toNat)
 case atStart=>exact⟨0,0,fun _=>none,Nat.zero_le _,Nat.le_refl _,rfl,(by show Names _ _ _ _;rw [allTo_zero];exact names_nil _ _),HM2,(by show ∀ t,_;intro t;rw [allTo_zero];rfl),HF0,HB2,by omega⟩
 obtain⟨k,n,f,hk,hnk,rfl,HN,HM,HC,HF,HB,hs⟩:=hrel;rename World=>wr
 by_cases hlt:k<(filesM L).length
 rotate_left
 ·
  obtain rfl:k=(filesM L).length:=by omega
  have hE:(allTo L (filesM L).length).1=allM L:=rfl;have HE:=HN.o.base (Nat.le_succ _);rw [hE] at HE;have HE2:=Lh HE;clear HE HN;go_wp2;go_ret;exact⟨_,rfl,HE2.o,HB.o⟩
 obtain⟨fv,hfv⟩:=gol hlt;have HSu:=Lh (allTo_succ hfv);obtain⟨hal,hac⟩:=HAL.o k hk;have HAC:=Lh hac;obtain⟨g13,cap13,he13,hA13⟩:=own_at (show World.ownsRow _ _ _ _ _ _ _ from HF.o) (by omega);cases he13
 have p0:wr.cell? ⟨g13,k*3,none⟩=some (.int .u8 fv.pid.author.toNat):=hA13.cell ((flat_get encVid_len _ k 0 fv hfv (by decide)).trans rfl);have p1:wr.cell? ⟨g13,k*3+1,none⟩=some (.int .u16 fv.pid.seq.toNat):=hA13.cell ((flat_get encVid_len _ k 1 fv hfv (by decide)).trans rfl);have p2:wr.cell? ⟨g13,k*3+2,none⟩=some (.int .u8 fv.n.toNat):=hA13.cell ((flat_get encVid_len _ k 2 fv hfv (by decide)).trans rfl);have s13:=hA13.lt;clear hA13 hfv hac;go_upto_region 6 with fail;have HA6T:=Lh (arrT_new wr [.int .u8 fv.pid.author.toNat,.int .u16 fv.pid.seq.toNat,.int .u8 fv.n.toNat] 74);have HA6:=Lh (anw wr (cV fv) 74);have HB6:=Lh (bnew (w:=wr) (.cells (cV fv) 74));generalize wr.alloc (.cells (cV fv) 74)=w6 at *;clear p0 p1 p2 s13;obtain⟨q0,q1,q2,sq⟩:=HA6.o.c3;have HVT:=Lh (gvert_any b bv be nG _ _ _ fv w6 (HG.o.over (bvo HB.o HB6.o)));generalize hy:optV (vertM L fv)=y at *;have HY:Hid ((vertM L fv).getD noVert=y):=Lh hy;have HVT2:Hid (Calls Tryz.prog 78 #[.pointer (some ⟨b,0,none⟩),vidV fv] w6 fun e w'=>e=.returned (.tuple #[vertV y,.bool (vertM L fv).isSome])∧Be w6 w'):=Lh (HVT.o.mono fun e w' h=>by obtain⟨h1,h2⟩:=h;exact⟨by rw [h1,hy],h2⟩);clear hy HVT;go_upto_region 7 with(first|(go_at_call 78;(with_reducible refine HVT2.o.mono ?_);rintro e w7 ⟨rfl,hb7⟩;have HB7:=Lh hb7;clear hb7))
 have hA8:=anw w7 (cX y) 101;have HA8:=Lh hA8;have HB8:=Lh (bnew (w:=w7) (.cells (cX y) 101));generalize w7.alloc (.cells (cX y) 101)=w8 at *;clear hA8 q0 q1 q2 sq HVT2;have HBr:=Lh (bov (bvo HB6.o HB7.o) (by have:=HB6.o.size;have:=HB7.o.size;omega) HB8.o);have HN8:=Lh (HN.o.over HBr.o);have HM8:=Lh (HM.o.over HBr.o);have HF8:=Lh (HF.o.over HBr.o);have HBw:=Lh (bvo HB.o HBr.o);have HA68T:=Lh (HA6T.o.over (bvo HB7.o HB8.o));have HA68:=Lh (HA6.o.over (bvo HB7.o HB8.o));have hsr:=HBr.o.size;have hs8:w.heap.size+1≤w8.heap.size:=by omega
 clear HN HM HF;obtain⟨y0,y1,y2,y3,y4,y5,y6,y7,y8,sy⟩:=HA8.o.c9;cases hd:y.dead with
 | true =>
  have HS:=Lh (step_dead (s:=allTo L k) HY.o hd);rw [hd] at y8;clear hd;go_wp2;go_roundw
  case rel=>exact⟨k+1,n,f,hlt,by omega,by go_num,(by show Names _ _ _ _;rw [HSu.o,HS.o];exact HN8.o),HM8,(by show ∀ t,_;rw [HSu.o,HS.o];exact HC.o),HF8,HBw,hs8⟩
  simp [intOf];omega
 | false =>
  have HS:=Lh (step_live (s:=allTo L k) HY.o hd);rw [hd] at y8;clear hd;go_upto_region 8 with fail;clear y0 y1 y2 y3 y4 y5 y6 y7 y8 sy;obtain⟨q0,q1,q2,sq⟩:=HA68.o.c3;have HGA8:=Lh (HGA.o.over HBw.o);have HKS:Hid (∀ w':World,Be w8 w'→(w'.cell? ⟨wr.heap.size,0,none⟩=some (.int .u8 fv.pid.author.toNat)∧w'.cell? ⟨wr.heap.size,1,none⟩=some (.int .u16 fv.pid.seq.toNat)∧w'.cell? ⟨wr.heap.size,2,none⟩=some (.int .u8 fv.n.toNat)∧Be w8 w')):=fun w' hb=>⟨(hb.cell (p:=⟨wr.heap.size,0,none⟩) sq).trans q0,(hb.cell (p:=⟨wr.heap.size,1,none⟩) sq).trans q1,(hb.cell (p:=⟨wr.heap.size,2,none⟩) sq).trans q2,hb⟩;go_cut [9,10] (fun s9 s10 wx=>∃ g9,s9=.pointer (some ⟨g9,0,none⟩)∧Hid (ArrT wx g9 86 [.int .u8 fv.pid.author.toNat,.int .u16 fv.pid.seq.toNat,.int .u8 fv.n.toNat,.string ⟨#[]⟩,.slice none 0 0,.slice none 0 0])∧Hid (GOwn encVert 9 101 wx w8.heap.size s10 (namesM L fv))∧Hid (Be w8 wx)∧w8.heap.size≤g9)
  case first =>
   go_region_held3 (fun w'=>w'.cell? ⟨wr.heap.size,0,none⟩=some (.int .u8 fv.pid.author.toNat)∧w'.cell? ⟨wr.heap.size,1,none⟩=some (.int .u16 fv.pid.seq.toNat)∧w'.cell? ⟨wr.heap.size,2,none⟩=some (.int .u8 fv.n.toNat)∧Be w8 w') ((refine HKS.o _ ?_;(with_reducible (first|exact(Below.refl _ _).drew|exact HBk.o|exact HBk.o.alloc HBk.o.size _|exact((Below.refl w8.heap.size w8).alloc (Nat.le_refl _) _).drew|exact((((((HBk.o.setCell (p:=⟨w8.heap.size,0,none⟩) (Nat.le_refl _) (.int .u8 fv.pid.author.toNat)).setCell (p:=⟨w8.heap.size,1,none⟩) (Nat.le_refl _) (.int .u16 fv.pid.seq.toNat)).setCell (p:=⟨w8.heap.size,2,none⟩) (Nat.le_refl _) (.int .u8 fv.n.toNat)).setCell (p:=⟨w8.heap.size,3,none⟩) (Nat.le_refl _) (.string ⟨#[]⟩)).setCell (p:=⟨w8.heap.size,4,none⟩) (Nat.le_refl _) (.slice none 0 0)).setCell (p:=⟨w8.heap.size,5,none⟩) (Nat.le_refl _) (.slice none 0 0))))))
    (first|(go_at_call 79;refine(nof_any b L fv _ (HGA8.o.over (by first|exact(Below.refl _ _).drew|exact((Below.refl w8.heap.size w8).alloc (Nat.le_refl _) _).drew)) HW.o hil).mono ?_;rintro e w9 ⟨v10,rfl,ho10,hb⟩;have HBk:Hid (Be w8 w9):=(by show Be w8 w9;with_reducible (first|exact bov (Below.refl w8.heap.size w8).drew (Nat.le_refl _) hb|exact bov (((Below.refl w8.heap.size w8).alloc (Nat.le_refl _) _).drew) (Below.size (((Below.refl w8.heap.size w8).alloc (Nat.le_refl _) _).drew)) hb));have HBb:=Lh hb;have HO10:=Lh ho10;obtain⟨hcc,hff⟩:=bcell hb;clear hb ho10))
   ·
    rename_i J K hJ hK hHeld;clear hHeld;refine hK _ _ (Met.intro (hJ _ _ ?_))
    (repeat apply Exists.intro)
    refine⟨?_,rfl⟩;exact⟨_,rfl,Lh (arrT_new w9 [.int .u8 fv.pid.author.toNat,.int .u16 fv.pid.seq.toNat,.int .u8 fv.n.toNat,.string ⟨#[]⟩,.slice none 0 0,.slice none 0 0] 86),Lh (HO10.o.over (bnew (w:=w9) (.cells #[.int .u8 fv.pid.author.toNat,.int .u16 fv.pid.seq.toNat,.int .u8 fv.n.toNat,.string ⟨#[]⟩,.slice none 0 0,.slice none 0 0] 86))),Lh (HBk.o.alloc HBk.o.size _),HBk.o.size⟩
   rename_i J K hJ hK hHeld;clear hHeld;refine hK _ _ (Met.intro (hJ _ _ ?_))
   (repeat apply Exists.intro)
   refine⟨?_,rfl⟩;have HZ:Hid (ArrT w9 w8.heap.size 86 [.int .u8 0,.int .u16 0,.int .u8 0,.string ⟨#[]⟩,.slice none 0 0,.slice none 0 0]):=((show ArrT (w8.alloc (.cells #[.int .u8 0,.int .u16 0,.int .u8 0,.string ⟨#[]⟩,.slice none 0 0,.slice none 0 0] 86)).drew w8.heap.size 86 [.int .u8 0,.int .u16 0,.int .u8 0,.string ⟨#[]⟩,.slice none 0 0,.slice none 0 0] from arrT_new w8 [.int .u8 0,.int .u16 0,.int .u8 0,.string ⟨#[]⟩,.slice none 0 0,.slice none 0 0] 86).over HBb.o);have hne:v10.ownBlock=none∨v10.ownBlock≠some w8.heap.size:=.inr (fun q=>(HZ.o.ne (show World.ownsRow _ _ _ _ _ _ _ from HO10.o) (by decide)) q.symm);exact⟨_,rfl,Lh ((((((HZ.o.set 0 (.int .u8 fv.pid.author.toNat)).set 1 (.int .u16 fv.pid.seq.toNat)).set 2 (.int .u8 fv.n.toNat)).set 3 (.string ⟨#[]⟩)).set 4 (.slice none 0 0)).set 5 (.slice none 0 0)),Lh (GOwn.base (show GOwn encVert 9 101 _ _ _ _ from own_grown HO10.o (gtr (gtr (gtr (gtr (gtr (gtr (World.grownBy.refl w9 _) (gsc _ _ _)) (gsc _ _ _)) (gsc _ _ _)) (gsc _ _ _)) (gsc _ _ _)) (gsc _ _ _)) hne) (by simp)),Lh ((((((HBk.o.setCell (p:=⟨w8.heap.size,0,none⟩) (Nat.le_refl _) (.int .u8 fv.pid.author.toNat)).setCell (p:=⟨w8.heap.size,1,none⟩) (Nat.le_refl _) (.int .u16 fv.pid.seq.toNat)).setCell (p:=⟨w8.heap.size,2,none⟩) (Nat.le_refl _) (.int .u8 fv.n.toNat)).setCell (p:=⟨w8.heap.size,3,none⟩) (Nat.le_refl _) (.string ⟨#[]⟩)).setCell (p:=⟨w8.heap.size,4,none⟩) (Nat.le_refl _) (.slice none 0 0)).setCell (p:=⟨w8.heap.size,5,none⟩) (Nat.le_refl _) (.slice none 0 0)),Nat.le_refl _⟩
  obtain⟨g9,rfl,HA9,HO9,HB9,hg9⟩:=hcut;rename World=>w9;have HFb9:=Lh (HA68.o.over HB9.o);have HT9:=Lh (HT.o.over (bvo HBw.o HB9.o));obtain⟨p10,c10,rfl⟩:=own_sl HO9.o;have hs9:=HB9.o.size;have zt:=textB_size fv;clear q0 q1 q2 sq HKS;obtain⟨q0,q1,q2,sq⟩:=HFb9.o.c3;cases hn:namesM L fv with
  | nil =>
   rw [hn] at HO9 HS;have HNM:=Lh hn;clear hn;go_upto_region 10 with fail;go_wp2_with fail;refine(vtext_any fv _ HT9.o).mono ?_;rintro e w10 ⟨rfl,hb10⟩;have HB10:=Lh (bvo HB9.o hb10);have HA10:=Lh (HA9.o.over hb10);have hAS:=(HA10.o.set 3 (.string (tilde++textB fv))).set 5 (.slice (some ⟨w10.heap.size,0,none⟩) 1 1);have hBS:=(HB10.o.setCell (p:=⟨g9,3,none⟩) hg9 (.string (tilde++textB fv))).setCell (p:=⟨g9,5,none⟩) hg9 (.slice (some ⟨w10.heap.size,0,none⟩) 1 1);have hsS:((w10.setCell ⟨g9,3,none⟩ (.string (tilde++textB fv))).setCell ⟨g9,5,none⟩ (.slice (some ⟨w10.heap.size,0,none⟩) 1 1)).heap.size=w10.heap.size:=(by simp);have HAS:=Lh hAS;have HBS:=Lh hBS;clear hAS hBS;clear hb10 q0 q1 q2 sq;unfold tilde at *;generalize hT:textB fv=T at *;have HTT:=Lh hT;clear hT;obtain⟨c0,c1,c2,c3,c4,c5,sc⟩:=HA10.o.arr.c6;have cf3:=HA10.o.arr.free 3;have cf5:=HA10.o.arr.free 5;go_upto_region 11 with fail;generalize (w10.setCell ⟨g9,3,none⟩ (.string ((⟨#[126]⟩:ByteArray)++T))).setCell ⟨g9,5,none⟩ (.slice (some ⟨w10.heap.size,0,none⟩) 1 1)=wS at *;have hL11:=own_lit (enc:=encU8) (sz:=1) wS 5 [3] wS.heap.size rfl (by decide) (Nat.le_refl _);rw [hsS] at hL11;have HL11:Hid (GOwn encU8 1 5 (wS.alloc (.cells #[.int .u8 3] 5)) w10.heap.size (.slice (some ⟨w10.heap.size,0,none⟩) 1 1) [3]):=Lh hL11;have HA11:=Lh (HAS.o.over (bnew (w:=wS) (.cells #[.int .u8 3] 5)));have HB11:=Lh (HBS.o.alloc (by have:=HB10.o.size;omega) (.cells #[.int .u8 3] 5));clear hL11;generalize wS.alloc (.cells #[.int .u8 3] 5)=w11 at *;clear hsS HAS HBS c0 c1 c2 c3 c4 c5 cf3 cf5 sc;obtain⟨xs,hxs,hO,hNa⟩:=HN8.o.over HB11.o;have HXS:=Lh hxs;have HO11:=Lh hO;have HNa:=Lh hNa;have hxl:xs.length≤k:=(by rw [← hxs,List.length_map] at hal;exact hal);have hN11:xs.length+1≤1099511627776:=(by omega);have hs11:=HB11.o.size;have hB11:w.heap.size+1≤w11.heap.size:=(by omega);have HAT:Hid (NameAt w11 (w.heap.size+1) ⟨⟨fv,(⟨#[126]⟩:ByteArray)++T,[],[3]⟩,none,0,some ⟨w10.heap.size,0,none⟩,1⟩):=Lh ⟨gown_nil _ _,HL11.o.base (by have:=HB10.o.size;omega)⟩;have HE:Hid (nameOne L (allTo L k).2 fv []=⟨fv,(⟨#[126]⟩:ByteArray)++T,[],[3]⟩):=(by show _=_;rw [nameOne_nil];unfold tilde;rw [HTT.o]);have HM11:=Lh (HM8.o.over HB11.o);have HF11:=Lh (HF8.o.over HB11.o);have HBw11:=Lh (bvo HBw.o HB11.o);clear hxs hO hNa;obtain⟨d0,d1,d2,d3,d4,d5,sd⟩:=HA11.o.arr.c6;go_wp2_with (at_builtin;refine apD slName rfl _ _ rfl (w.heap.size+1) _ _ (drf _) 1 _ _ _ HO11.o rfl rfl rfl rfl hN11 (by decide) hB11 ?_;intro v12 w12 ho12 hg12);have hkb:∀ j,u3.ownBlock=some j→w.heap.size+1≤j:=fun j hj=>gown_base HO11.o hj;have hNs:=names_snoc (y:=⟨⟨fv,(⟨#[126]⟩:ByteArray)++T,[],[3]⟩,none,0,some ⟨w10.heap.size,0,none⟩,1⟩) HXS.o HO11.o HNa.o HAT.o hg12 ho12;have HNs:=Lh hNs;have hs12:=hg12.size;have HM12:=Lh (HM11.o.kept hg12 (fun q=>by have:=hkb _ q.symm;omega));have HF12:=Lh (show GOwn encVid 3 74 _ _ _ _ from own_grown HF11.o hg12 (own_apart HF11.o HO11.o (by decide)));have HBw12:=Lh (HBw11.o.grown hg12 HBw11.o.size (fun j hj=>by have:=hkb _ hj;omega));clear hNs ho12 hg12;go_roundw
   case rel=>exact⟨k+1,n,f,hlt,by omega,by go_num,(by show Names _ _ _ _;rw [HSu.o,HS.o,HE.o];exact HNs.o),HM12,(by show ∀ t,_;rw [HSu.o,HS.o];exact HC.o),HF12,HBw12,by omega⟩
   simp [intOf];omega
  | cons x l =>
   have hxm:x∈namesM L fv:=(by rw [hn];exact List.mem_cons_self ..);have hno:=HNO.o fv x hxm;have zx:x.text.size≤16:=(by unfold nameOk at hno;simp only [Bool.and_eq_true,decide_eq_true_eq] at hno;exact hno.2.2);have hok:okStr x.text:=Nat.le_trans zx (by unfold maxLen;omega);have hnl:=names_len L fv hwl.out;rw [hn] at HO9 HS hnl;have hnl2:l.length+1≤1000000:=(by simp at hnl;omega);obtain⟨gX,capX,heX,hX⟩:=own_at (show World.ownsRow _ _ _ _ _ _ _ from HO9.o) (by simp);cases heX
   have HX9:Hid (OwnAt w9 w8.heap.size 101 9 gX (l.length+1) c10 ((x :: l).flatMap encVert)):=Lh hX;have HXr:Hid (GRow encVert 9 w9 (.slice (some ⟨gX,0,none⟩) (l.length+1) c10) (x :: l)):=Lh hX.row;have hXl:=hX.lt;have hXc:=hX.nc;have hXm:=hX.cm;unfold maxLen at hXm;have HFb8T:=HA68T;clear hn hxm hno hX hnl;obtain⟨c,hcc⟩:∃ c,(allTo L k).2 x.text=c:=⟨_,rfl⟩;have hck:c≤k:=(by rw [← hcc];exact HAC.o _);have HCc:=Lh hcc;have HCx:Hid ((f x.text).getD 0=(c:Int)):=Lh (by have:=HC.o x.text;rw [hcc] at this;exact this);have HU:Hid ((updM f x.text ((c:Int)+1) x.text).getD 0=(c:Int)+1):=Lh (by unfold updM;rw [if_pos rfl];rfl);clear hcc;have hcon:=fun w' (hr:GRow encVert 9 w' (.slice (some ⟨gX,0,none⟩) (l.length+1) c10) (x :: l))=>nalso_any _ (x :: l) x w' hr rfl (by simp;omega);generalize has:alsoM (x :: l) x.text=al at *;have HAS:=Lh has;have HCON:=Lh hcon;clear has hcon;have hgne:¬ gX=g9:=fun q=>(HA9.o.ne (show World.ownsRow _ _ _ _ _ _ _ from HX9.o.own) (by decide)) (by rw [q];rfl);have hfl8:=HFb8T.o.arr.lt;have hfbne:¬ wr.heap.size=g9:=(by omega);go_upto_region 12 with fail;have t7:w9.cell? ⟨gX,7,none⟩=some (.string x.text):=HX9.o.cell (j:=7) (u:=.string x.text) rfl;have hcur:World.grownBy w9 w9.drew (some g9):=⟨rfl,rfl,rfl,Nat.le_refl _,fun _ _ _=>rfl⟩;refine wlex (C:=IsKept w9 (some g9)) 10 [] (by kernel_rfl) (by kernel_rfl) (isKept_of hcur) ?_;simp only [Tsc,Tz,Dsc,Dz];(repeat(first|refine lxq ?_|(refine lxl rfl ?_;go_wp2_with (first|(go_at_call 81;(with_reducible refine(HCON.o _ (HXr.o.over (Below.refl _ _).drew)).mono ?_);rintro e w10 ⟨va,rfl,hoa,hb10⟩;have HB10:Hid (Be w9 w10):=Lh (bov (Below.refl _ _).drew (Nat.le_refl _) hb10);replace hcur:=gtr hcur (grown_of_below hb10);obtain⟨pa,ca,hva⟩:=own_sl hoa;subst hva;have HOa10:=Lh (show GOwn encT 1 9 w10 w8.heap.size (.slice pa al.length ca) al from hoa.base hs9);have HA10:=Lh (HA9.o.over HB10.o);have c3:=HA10.o.arr.k 3 rfl;have c4:=HA10.o.arr.k 4 rfl;have cf3:=HA10.o.arr.free 3;have cf4:=HA10.o.arr.free 4;have sc:=HA10.o.arr.lt;clear hoa hb10));refine⟨isKept_of (by first|exact hcur|exact only_alloc hcur _|exact gtr hcur (gsc _ _ _)|exact gtr (gtr hcur (gsc _ _ _)) (gsc _ _ _)),?_⟩)));refine lxe ?_;clear c3 c4 cf3 cf4 sc t7;have HA12:=Lh ((HA10.o.set 3 (.string x.text)).set 4 (.slice pa al.length ca));have hg12:World.grownBy w10 ((w10.setCell ⟨g9,3,none⟩ (.string x.text)).setCell ⟨g9,4,none⟩ (.slice pa al.length ca)) (some g9):=gtr (gsc _ _ _) (gsc _ _ _);generalize ((w10.setCell ⟨g9,3,none⟩ (.string x.text)).setCell ⟨g9,4,none⟩ (.slice pa al.length ca))=w12 at *;clear hcur;have HX10:=Lh (HX9.o.over HB10.o);have HX12:=Lh (HX10.o.grown hg12 (fun q=>HA10.o.ne (show World.ownsRow _ _ _ _ _ _ _ from HX10.o.own) (by decide) q.symm));have neA:(Value.slice pa al.length ca).ownBlock=none∨(Value.slice pa al.length ca).ownBlock≠some g9:=.inr (fun q=>(HA10.o.ne (show World.ownsRow _ _ _ _ _ _ _ from HOa10.o) (by decide)) q.symm);have HOa12:=Lh (show GOwn encT 1 9 w12 w8.heap.size (.slice pa al.length ca) al from own_grown HOa10.o hg12 neA);have HQ12:Hid (w8.grownBy w12 none):=Lh (grown_farN (below_none (bov HB9.o hs9 HB10.o)) hg12 (fun j hj=>by cases hj;exact hg9));have hs12:=HQ12.o.size;clear hg12 neA;obtain⟨c0,c1,c2,c3,c4,c5,sc⟩:=HA12.o.arr.c6;have cf5:=HA12.o.arr.free 5;obtain⟨q,hq⟩:∃ q,decide (0<al.length)=q:=⟨_,rfl⟩;obtain⟨F,hF⟩:∃ F:List UInt8,(if q=true then [2] else [])=F:=⟨_,rfl⟩;have hFl:F.length≤1:=by rw [← hF];split <;> simp
   have HF:=Lh hF;have HQq:=Lh hq;clear hF;go_upto_if 56 with fail;go_cut [] (fun wx=>∃ pf cf,Hid (ArrT wx g9 86 [.int .u8 fv.pid.author.toNat,.int .u16 fv.pid.seq.toNat,.int .u8 fv.n.toNat,.string x.text,.slice pa al.length ca,.slice pf F.length cf])∧Hid (OwnAt wx w8.heap.size 101 9 gX (l.length+1) c10 ((x :: l).flatMap encVert))∧Hid (GOwn encT 1 9 wx w8.heap.size (.slice pa al.length ca) al)∧Hid (GOwn encU8 1 5 wx w8.heap.size (.slice pf F.length cf) F)∧Hid (w8.grownBy wx none))
   case first =>
    cases q with
    | true =>have eF:F=[2]:=HF.o.symm;subst eF;have d13:decide ((0:Int)<(al.length:Int))=true:=decide_eq_true (by have:=of_decide_eq_true hq;omega);have HOf12:Hid (GOwn encU8 1 5 w12 w8.heap.size (.slice none 0 0) []):=Lh (gown_nil _ _);have hN14:([]:List UInt8).length+1≤1099511627776:=(by decide);clear hq;go_wp2_with ((at_builtin;refine apD slByte rfl _ _ rfl w8.heap.size _ _ (drf _) 1 _ _ _ HOf12.o rfl rfl rfl rfl hN14 (by decide) hs12 ?_;intro v13 w13 ho13 hg13);(obtain⟨pf,cf,hpf⟩:=own_sl (show GOwn encU8 1 5 w13 w8.heap.size v13 [2] from GOwn.snoc (xs:=[]) (x:=2) ho13);subst hpf;have HOf13:=Lh (show GOwn encU8 1 5 w13 w8.heap.size (.slice pf 1 cf) [2] from GOwn.snoc (xs:=[]) (x:=2) ho13);have HG13:Hid (w12.grownBy w13 none):=Lh hg13;have HA13:=Lh (HA12.o.kept hg13 (by simp [Value.ownBlock]));have o13:=HA13.o.arr.k 5 rfl;have o13f:=HA13.o.arr.free 5;have o13s:=HA13.o.arr.lt;clear ho13 hg13));clear c0 c1 c2 c3 c4 c5 cf5 sc o13 o13f o13s;have HA14:=Lh (HA13.o.set 5 (.slice pf 1 cf));have hg14:World.grownBy w13 (w13.setCell ⟨g9,5,none⟩ (.slice pf 1 cf)) (some g9):=gsc _ _ _;generalize w13.setCell ⟨g9,5,none⟩ (.slice pf 1 cf)=w14 at *;have hge:World.grownBy w12 w14 (some g9):=gtr (grown_none HG13.o) hg14;have HX14:=Lh (HX12.o.grown hge (fun q=>HA12.o.ne (show World.ownsRow _ _ _ _ _ _ _ from HX12.o.own) (by decide) q.symm));have neA:(Value.slice pa al.length ca).ownBlock=none∨(Value.slice pa al.length ca).ownBlock≠some g9:=.inr (fun q=>(HA12.o.ne (show World.ownsRow _ _ _ _ _ _ _ from HOa12.o) (by decide)) q.symm);have neF:(Value.slice pf 1 cf).ownBlock=none∨(Value.slice pf 1 cf).ownBlock≠some g9:=.inr (fun q=>(HA13.o.ne (show World.ownsRow _ _ _ _ _ _ _ from HOf13.o) (by decide)) q.symm);have HOa14:=Lh (show GOwn encT 1 9 w14 w8.heap.size (.slice pa al.length ca) al from own_grown HOa12.o hge neA);have HOf14:=Lh (show GOwn encU8 1 5 w14 w8.heap.size (.slice pf 1 cf) [2] from own_grown HOf13.o hg14 neF);have HQ14:=Lh (grown_farN HQ12.o hge (fun j hj=>by cases hj;exact hg9));clear hge hg14 neA neF;go_meet;exact⟨pf,cf,HA14,HX14,HOa14,HOf14,HQ14⟩
    | false =>have eF:F=[]:=HF.o.symm;subst eF;have d13:decide ((0:Int)<(al.length:Int))=false:=decide_eq_false (by have:=of_decide_eq_false hq;omega);clear hq;go_wp2;go_meet;exact⟨none,0,HA12,HX12,HOa12,Lh (gown_nil _ _),HQ12⟩
   obtain⟨pf,cf,HA14,HX14,HOa14,HOf14,HQ14⟩:=hcut;rename World=>w14;clear c0 c1 c2 c3 c4 c5 cf5 sc hq HA12 HX12 HOa12 HQ12;have HM14:=Lh (HM8.o.kept HQ14.o (by simp));have HFb14:=Lh (HFb8T.o.kept HQ14.o (by simp));have hs14:=HQ14.o.size;have t7:w14.cell? ⟨gX,7,none⟩=some (.string x.text):=HX14.o.cell (j:=7) (u:=.string x.text) rfl;have tl:=HX14.o.lt;go_upto_region 16 with(first|(refine wpList_tlook keysStr int_inj rfl _ _ _ rfl Tryz.underlying147 0 (zero_int _) w.heap.size n f rfl HM14.o x.text rfl hok ?_;rw [HCx.o])|(refine wpList_tstore keysStr int_inj rfl _ _ _ _ rfl Tryz.underlying147 w.heap.size n f rfl HM14.o (by unfold maxLen;omega) x.text rfl hok ((c:Int)+1) rfl ?_;intro w15 hM15 hg15 hs15))
   have HM15:=Lh hM15;have hgX:=HX14.o.base;have HA15:=Lh (HA14.o.kept hg15 (fun q=>by have:=Option.some.inj q;omega));have HX15:=Lh (HX14.o.grown hg15 (fun q=>by have:=Option.some.inj q;omega));have HOa15:=Lh (gown_keep HOa14.o hg15 (fun j hj=>by cases hj;omega));have HOf15:=Lh (gown_keep HOf14.o hg15 (fun j hj=>by cases hj;omega));have HP15:Hid (w8.grownBy w15 (some w.heap.size)):=Lh (gtr (grown_none HQ14.o) hg15);have HFb15:=Lh (HFb14.o.kept hg15 (fun q=>by have:=Option.some.inj q;omega));have HCn:Hid (∀ t,(updM f x.text ((c:Int)+1) t).getD 0=((bumpT (allTo L k).2 x.text t:Nat):Int)):=Lh (fun t=>by have:=cnt_bump HC.o x.text t;rw [HCc.o] at this;exact this);have hs15':=Nat.le_of_eq hs15.symm;clear hM15 hg15 t7 tl hs15;have t7:w15.cell? ⟨gX,7,none⟩=some (.string x.text):=HX15.o.cell (j:=7) (u:=.string x.text) rfl;have tl:=HX15.o.lt
   by_cases hc:0<c
   rotate_left
   ·
    have d16:decide ((1:Int)<(c:Int)+1)=false:=decide_eq_false (by omega);have HE:Hid (nameOne L (allTo L k).2 fv (x :: l)=⟨fv,x.text,al,F⟩):=(by show _=_;rw [nameOne_cons L _ fv x l HAS.o HQq.o (r:=false) (decide_eq_false (by have:=HCc.o;omega)),HF.o];simp);clear hc;go_upto_region 19 with(refine wpList_tlook keysStr int_inj rfl _ _ _ rfl Tryz.underlying147 0 (zero_int _) w.heap.size (n+1) _ rfl HM15.o x.text rfl hok ?_;rw [HU.o])
    clear t7 tl;have HNx:=Lh (HN8.o.keep HP15.o (fun j hj=>by cases hj;omega));have HFx:=Lh (gown_keep HF8.o HP15.o (fun j hj=>by cases hj;omega));have HBx:=Lh (HBw.o.grown HP15.o HBw.o.size (fun j hj=>by cases hj;omega));have hsx:=HP15.o.size;obtain⟨xs,hxs,hO,hNa⟩:=HNx.o;have HXS:=Lh hxs;have HOx:=Lh hO;have HNa:=Lh hNa;have hxl:xs.length≤k:=(by rw [← hxs,List.length_map] at hal;exact hal);have hNx:xs.length+1≤1099511627776:=(by omega);have hBx:w.heap.size+1≤w15.heap.size:=(by omega);have HAT:Hid (NameAt w15 (w.heap.size+1) ⟨⟨fv,x.text,al,F⟩,pa,ca,pf,cf⟩):=Lh ⟨HOa15.o.base (by omega),HOf15.o.base (by omega)⟩;clear hxs hO hNa;obtain⟨d0,d1,d2,d3,d4,d5,sd⟩:=HA15.o.arr.c6;go_wp2_with (at_builtin;refine apD slName rfl _ _ rfl (w.heap.size+1) _ _ (drf _) 1 _ _ _ HOx.o rfl rfl rfl rfl hNx (by decide) hBx ?_;intro v19 w19 ho19 hg19);have hkb:∀ j,u3.ownBlock=some j→w.heap.size+1≤j:=fun j hj=>gown_base HOx.o hj;have hNs:=names_snoc (y:=⟨⟨fv,x.text,al,F⟩,pa,ca,pf,cf⟩) HXS.o HOx.o HNa.o HAT.o hg19 ho19;have HNs:=Lh hNs;have hs19:=hg19.size;have HM19:=Lh (HM15.o.kept hg19 (fun q=>by have:=hkb _ q.symm;omega));have HF19:=Lh (show GOwn encVid 3 74 _ _ _ _ from own_grown HFx.o hg19 (own_apart HFx.o HOx.o (by decide)));have HBw19:=Lh (HBx.o.grown hg19 HBx.o.size (fun j hj=>by have:=hkb _ hj;omega));clear hNs ho19 hg19;go_roundw
    case rel=>exact⟨k+1,n+1,_,hlt,by omega,by go_num,(by show Names _ _ _ _;rw [HSu.o,HS.o,HE.o];exact HNs.o),HM19,(by show ∀ t,_;rw [HSu.o,HS.o];exact HCn.o),HF19,HBw19,by omega⟩
    simp [intOf];omega
   have d16:decide ((1:Int)<(c:Int)+1)=true:=decide_eq_true (by omega);obtain⟨G,hG⟩:∃ G:List UInt8,F++[4]=G:=⟨_,rfl⟩;have HGG:=Lh hG;clear hG;have HE:Hid (nameOne L (allTo L k).2 fv (x :: l)=⟨fv,x.text++((⟨#[126]⟩:ByteArray)++textB fv),al,G⟩):=(by show _=_;rw [nameOne_cons L _ fv x l HAS.o HQq.o (r:=true) (decide_eq_true (by have:=HCc.o;omega)),HF.o,← HGG.o];rfl);clear hc;go_upto_region 17 with(refine wpList_tlook keysStr int_inj rfl _ _ _ rfl Tryz.underlying147 0 (zero_int _) w.heap.size (n+1) _ rfl HM15.o x.text rfl hok ?_;rw [HU.o])
   have HT15:=Lh (HT.o.over (HBw.o.grown HP15.o HBw.o.size (fun j hj=>by cases hj;omega)));have HTX:Hid (∀ w',Be w15 w'→Calls Tryz.prog 80 #[vidV fv] w' fun e w''=>e=.returned (.string (textB fv))∧Below w'.heap.size w' w''):=fun w' hb=>vtext_any fv w' (HT15.o.over hb);generalize textB fv=T at *;clear t7 tl;obtain⟨c0,c1,c2,c3,c4,c5,sc⟩:=HA15.o.arr.c6;have cf3:=HA15.o.arr.free 3;obtain⟨q0,q1,q2,sq⟩:=HFb15.o.arr.c3;refine wlo 7 fun hcur=>?_;(repeat(first|refine lxq ?_|(refine lxl rfl ?_;go_wp2_with (first|(go_at_call 80;(with_reducible refine(HTX.o _ hcur).mono ?_);rintro e w' ⟨rfl,hb⟩;have hcur:=bvo hcur hb));refine⟨iov hcur,?_⟩)));refine lxe ?_;rename World=>w16;have HB16:=Lh hcur;have HA16:=Lh (HA15.o.over hcur);clear c0 c1 c2 c3 c4 c5 cf3 sc q0 q1 q2 sq hcur;obtain⟨c0,c1,c2,c3,c4,c5,sc⟩:=HA16.o.arr.c6;have cf3:=HA16.o.arr.free 3;go_upto_region 18 with fail;have HA17:=Lh (HA16.o.set 3 (.string (x.text++((⟨#[126]⟩:ByteArray)++T))));have hg17:World.grownBy w15 (w16.setCell ⟨g9,3,none⟩ (.string (x.text++((⟨#[126]⟩:ByteArray)++T)))) (some g9):=gtr (grown_of_below HB16.o) (gsc _ _ _);generalize w16.setCell ⟨g9,3,none⟩ (.string (x.text++((⟨#[126]⟩:ByteArray)++T)))=w17 at *;clear c0 c1 c2 c3 c4 c5 cf3 sc;have hs17:=hg17.size;have neA:(Value.slice pa al.length ca).ownBlock=none∨(Value.slice pa al.length ca).ownBlock≠some g9:=.inr (fun q=>(HA15.o.ne (show World.ownsRow _ _ _ _ _ _ _ from HOa15.o) (by decide)) q.symm);have neF:(Value.slice pf F.length cf).ownBlock=none∨(Value.slice pf F.length cf).ownBlock≠some g9:=.inr (fun q=>(HA15.o.ne (show World.ownsRow _ _ _ _ _ _ _ from HOf15.o) (by decide)) q.symm);have HOa17:=Lh (show GOwn encT 1 9 w17 w8.heap.size (.slice pa al.length ca) al from own_grown HOa15.o hg17 neA);have HOf17:=Lh (show GOwn encU8 1 5 w17 w8.heap.size (.slice pf F.length cf) F from own_grown HOf15.o hg17 neF);have HP17:=Lh (grown_farN HP15.o hg17 (fun j hj=>by cases hj;exact hg9));have HM17:=Lh (HM15.o.kept hg17 (fun q=>by have:=Option.some.inj q;omega));clear hg17 neA neF;obtain⟨c0,c1,c2,c3,c4,c5,sc⟩:=HA17.o.arr.c6;have cf5:=HA17.o.arr.free 5;have hN18:F.length+1≤1099511627776:=(by omega);have hB18:w8.heap.size≤w17.heap.size:=HP17.o.size;go_upto_region 19 with((at_builtin;refine apD slByte rfl _ _ rfl w8.heap.size _ _ (drf _) 1 _ _ _ HOf17.o rfl rfl rfl rfl hN18 (by decide) hB18 ?_;intro v18 w18 ho18 hg18);have hsn:GOwn encU8 1 5 w18 w8.heap.size v18 G:=(by rw [← HGG.o];exact GOwn.snoc (xs:=F) (x:=4) ho18);obtain⟨pf2,cf2,hpf⟩:=own_sl hsn;subst hpf;have HOf18:=Lh hsn;clear hsn;have HA18:=Lh (HA17.o.grown (show World.ownsRow _ _ _ _ _ _ _ from HOf17.o) (by decide) hg18);have HOa18:=Lh (show GOwn encT 1 9 w18 w8.heap.size (.slice pa al.length ca) al from own_grown HOa17.o hg18 (own_apart HOa17.o HOf17.o (by decide)));have hfb:=fun j (hj:(Value.slice pf F.length cf).ownBlock=some j)=>gown_base HOf17.o hj;have HP18:=Lh (grown_farN HP17.o hg18 hfb);have HM18:=Lh (HM17.o.kept hg18 (fun q=>by have:=hfb _ q.symm;omega));have o18:=HA18.o.arr.k 5 rfl;have o18f:=HA18.o.arr.free 5;have o18s:=HA18.o.arr.lt;clear hfb ho18 hg18)
   clear c0 c1 c2 c3 c4 c5 cf5 sc o18 o18f o18s;have HAz:=Lh (HA18.o.set 5 (.slice pf2 G.length cf2));have hgz:World.grownBy w18 (w18.setCell ⟨g9,5,none⟩ (.slice pf2 G.length cf2)) (some g9):=gsc _ _ _;generalize w18.setCell ⟨g9,5,none⟩ (.slice pf2 G.length cf2)=wz at *;have neA:(Value.slice pa al.length ca).ownBlock=none∨(Value.slice pa al.length ca).ownBlock≠some g9:=.inr (fun q=>(HA18.o.ne (show World.ownsRow _ _ _ _ _ _ _ from HOa18.o) (by decide)) q.symm);have neF:(Value.slice pf2 G.length cf2).ownBlock=none∨(Value.slice pf2 G.length cf2).ownBlock≠some g9:=.inr (fun q=>(HA18.o.ne (show World.ownsRow _ _ _ _ _ _ _ from HOf18.o) (by decide)) q.symm);have HOaz:=Lh (show GOwn encT 1 9 wz w8.heap.size (.slice pa al.length ca) al from own_grown HOa18.o hgz neA);have HOfz:=Lh (show GOwn encU8 1 5 wz w8.heap.size (.slice pf2 G.length cf2) G from own_grown HOf18.o hgz neF);have HPz:=Lh (grown_farN HP18.o hgz (fun j hj=>by cases hj;exact hg9));have HMz:=Lh (HM18.o.kept hgz (fun q=>by have:=Option.some.inj q;omega));clear hgz neA neF;have HNx:=Lh (HN8.o.keep HPz.o (fun j hj=>by cases hj;omega));have HFx:=Lh (gown_keep HF8.o HPz.o (fun j hj=>by cases hj;omega));have HBx:=Lh (HBw.o.grown HPz.o HBw.o.size (fun j hj=>by cases hj;omega));have hsx:=HPz.o.size;obtain⟨xs,hxs,hO,hNa⟩:=HNx.o;have HXS:=Lh hxs;have HOx:=Lh hO;have HNa:=Lh hNa;have hxl:xs.length≤k:=(by rw [← hxs,List.length_map] at hal;exact hal);have hNx:xs.length+1≤1099511627776:=(by omega);have hBx:w.heap.size+1≤wz.heap.size:=(by omega);have HAT:Hid (NameAt wz (w.heap.size+1) ⟨⟨fv,x.text++((⟨#[126]⟩:ByteArray)++T),al,G⟩,pa,ca,pf2,cf2⟩):=Lh ⟨HOaz.o.base (by omega),HOfz.o.base (by omega)⟩;clear hxs hO hNa;obtain⟨d0,d1,d2,d3,d4,d5,sd⟩:=HAz.o.arr.c6;go_wp2_with (at_builtin;refine apD slName rfl _ _ rfl (w.heap.size+1) _ _ (drf _) 1 _ _ _ HOx.o rfl rfl rfl rfl hNx (by decide) hBx ?_;intro v19 w19 ho19 hg19);have hkb:∀ j,u3.ownBlock=some j→w.heap.size+1≤j:=fun j hj=>gown_base HOx.o hj;have hNs:=names_snoc (y:=⟨⟨fv,x.text++((⟨#[126]⟩:ByteArray)++T),al,G⟩,pa,ca,pf2,cf2⟩) HXS.o HOx.o HNa.o HAT.o hg19 ho19;have HNs:=Lh hNs;have hs19:=hg19.size;have HM19:=Lh (HMz.o.kept hg19 (fun q=>by have:=hkb _ q.symm;omega));have HF19:=Lh (show GOwn encVid 3 74 _ _ _ _ from own_grown HFx.o hg19 (own_apart HFx.o HOx.o (by decide)));have HBw19:=Lh (HBx.o.grown hg19 HBx.o.size (fun j hj=>by have:=hkb _ hj;omega));clear hNs ho19 hg19;go_roundw
   case rel=>exact⟨k+1,n+1,_,hlt,by omega,by go_num,(by show Names _ _ _ _;rw [HSu.o,HS.o,HE.o];exact HNs.o),HM19,(by show ∀ t,_;rw [HSu.o,HS.o];exact HCn.o),HF19,HBw19,by omega⟩
   simp [intOf];omega
end
theorem allM_few{L:List PatchM}{m:Nat}(h:(idsM L).length≤m):(allM L).length≤m:=by have h1:=(allTo_len L (filesM L).length (Nat.le_refl _)).1;have h2:=filesM_len L;unfold allM;omega
noncomputable def planR(L:List PatchM)(t:List FileM)(id:PidM):List OpM × Nat:=
 if treeGood t=true then(if(planM L t id).length=0 then([],6) else if 200<(planM L t id).length then([],3) else(planM L t id,0)) else([],4)
def PlRes(w:World)(L:List PatchM)(t:List FileM)(id:PidM)(e:Ending)(w':World):Prop:=∃ v,e=.returned (.tuple #[v,.int .i64 ((planR L t id).2:Int)])∧GOwn encOp 8 76 w' w.heap.size v (planR L t id).1∧Be w w'
theorem treeGood_sizes{t:List FileM}(h:treeGood t=true):t.length≤16∧∀ f∈t,f.lines.length≤60:=by unfold treeGood at h;rw [Bool.and_eq_true] at h;refine⟨by simpa using h.1,fun f hf => ?_⟩;obtain⟨i,hi,rfl⟩:=List.getElem_of_mem hf;have h2:=List.all_eq_true.1 h.2 i (by simpa using hi);unfold goodAt at h2;rw [List.getElem?_eq_getElem hi] at h2;simp only [Bool.and_eq_true] at h2;have h3:=h2.1;unfold fileOk at h3;simp only [Bool.and_eq_true,decide_eq_true_eq] at h3;exact h3.2.2.1
theorem isThere_xs{L:List PatchM}{xs:List LaidN}{f:FileM}(h:xs.map (·.n)=allM L):isThere (allM L) f=xs.any fun y=>decide (y.n.name=f.name):=by unfold isThere;rw [← h,List.any_map];rfl
theorem findFrom_some(nm:ByteArray):∀(t:List FileM) (i:Nat),findFrom nm t i = -1∨∃(k:Nat) (f:FileM),findFrom nm t i=((i+k:Nat):Int)∧t[k]? = some f∧f.name=nm
 | [],i=>.inl rfl
 | f :: t,i=>by
  unfold findFrom;split
  · rename_i h;exact .inr ⟨0,f,by simp,rfl,h⟩
  rcases findFrom_some nm t (i+1) with h|⟨k,g,h1,h2,h3⟩
  · exact .inl h
  exact .inr ⟨k+1,g,by rw [h1];omega,by simpa using h2,h3⟩
theorem findT_some{t:List FileM}{nm:ByteArray}(h:¬ findT t nm<0):∃(k:Nat) (f:FileM),findT t nm=(k:Int)∧t[k]? = some f∧f.name=nm:=by
 unfold findT at h ⊢;rcases findFrom_some nm t 0 with h1|⟨k,f,h1,h2,h3⟩
 · omega
 exact⟨k,f,by rw [h1];simp,h2,h3⟩
end Go.Proofs.YtjccmcgglfncdaaGreatDoor
