/- Part of the proof that of any graph each file's lines, whose they are, and how many lines any author has, are as the document says. No conditions. -/
import Derived.Test.YtanfebljiblhbaaGreatDoorYLay2
import Derived.Lib.AppendIntMem
import Derived.Shelf.SortM.SortNone
import Derived.Maps.Keyed
import Derived.Test.YtanfebljiblhbaaGreatDoorYNsA
set_option linter.unusedVariables false
set_option linter.unusedSimpArgs false
set_option maxRecDepth 100000
set_option maxHeartbeats 40000000
namespace Go.Proofs.YtanfebljiblhbaaGreatDoor
open Go Go.RowKit
section
def Tab (w : World) : Prop := Lib.TabIs Tryz.prog w "internal/strconv.uint64pow10" .u64 Lib.pow10Tab
theorem Tab.over{w w':World}(h:Tab w)(hb:Be w w'):Tab w':=Lib.tabBelow_of_tabIs h w' hb
def decB(n:Nat):ByteArray:=⟨(Lib.decDigits n).toArray⟩
theorem dec_len:∀(k u:Nat),u<10 ^ k→(Lib.decDigits u).length≤k+1
 | 0,u,h=>by rw [Lib.decDigits,dif_pos (by simp at h;omega)];simp
 | k+1,u,h=>by
  rw [Lib.decDigits];split
  · simp
  rename_i h10;rw [Nat.pow_succ] at h;have:=dec_len k (u / 10) (by omega);simp;omega
theorem decB_size{u:Nat}(h:u<100000):(decB u).size≤6:=dec_len 5 u (by simpa using h)
theorem itoa_any(n:Nat)(w:World)(hn:n<65536)(ht:Tab w):Calls Tryz.prog 120 #[.int .i64 n] w fun e w'=>e=.returned (.string (decB n))∧Be w w':=by have hcon:=Any.strconv_Itoa (P:=Tryz.prog) Tryz.itoa (n:Int) (by omega) (by omega) w ht;refine hcon.mono ?_;rintro e w' ⟨rfl,k,os,rfl⟩;refine⟨?_,Grew.below ⟨k,os,rfl⟩⟩;rw [Lib.itoa_nonneg];rfl
def pidB(p:PidM):ByteArray:=decB p.author.toNat++⟨#[46]⟩++decB p.seq.toNat
theorem pidB_size(p:PidM):(pidB p).size≤20:=by have h1:=decB_size (u:=p.author.toNat) (by have:=p.author.toNat_lt;omega);have h2:=decB_size (u:=p.seq.toNat) (by have:=p.seq.toNat_lt;omega);unfold pidB;rw [ByteArray.size_append,ByteArray.size_append];have:(⟨#[46]⟩:ByteArray).size=1:=rfl;omega
theorem textB_eq(v:VidM):pidB v.pid++⟨#[46]⟩++decB v.n.toNat=textB v:=by apply ByteArray.ext;apply Array.ext';show _=textL v;simp [textL,pidB,decB]
theorem textB_size(v:VidM):(textB v).size≤40:=by have h1:=pidB_size v.pid;have h2:=decB_size (u:=v.n.toNat) (by have:=v.n.toNat_lt;omega);rw [← textB_eq,ByteArray.size_append,ByteArray.size_append];have:(⟨#[46]⟩:ByteArray).size=1:=rfl;omega
attribute [local irreducible] decB pidB textB
theorem ptext_any(p:PidM)(w:World)(ht:Tab w):Calls Tryz.prog 119 #[pidV p] w fun e w'=>e=.returned (.string (pidB p))∧Be w w':=by
 have HA:=Lh (anw w (cP p) 25);have HB:=Lh (bnew (w:=w) (.cells (cP p) 25));have HT:=Lh (ht.over HB.o);have h1:=p.author.toNat_lt;have h2:=p.seq.toNat_lt;have z1:=decB_size (u:=p.author.toNat) (by omega);have z2:=decB_size (u:=p.seq.toNat) (by omega);have HE:Hid (decB p.author.toNat++⟨#[46]⟩++decB p.seq.toNat=pidB p):=by show _=_;unfold pidB;rfl
 clear ht;unfold pidV;go_enter Tryz.func119,Tryz.ntmps119;go_upto_region 1 with fail;generalize w.alloc (.cells (cP p) 25)=w0 at *;obtain⟨c0,c1,sc⟩:=HA.o.c2;have HC1:Hid (∀ w',Be w0 w'→Calls Tryz.prog 120 #[.int .i64 p.author.toNat] w' fun e w''=>e=.returned (.string (decB p.author.toNat))∧Below w'.heap.size w' w''):=fun w' hb=>itoa_any _ w' (by omega) (HT.o.over hb);have HC2:Hid (∀ w',Be w0 w'→Calls Tryz.prog 120 #[.int .i64 p.seq.toNat] w' fun e w''=>e=.returned (.string (decB p.seq.toNat))∧Below w'.heap.size w' w''):=fun w' hb=>itoa_any _ w' (by omega) (HT.o.over hb);generalize decB p.author.toNat=A at *;generalize decB p.seq.toNat=B at *;refine wlo 11 fun hcur=>?_;repeat(first|refine lxq ?_|(refine lxl rfl ?_;go_wp2_with (first|(go_at_call 120;(with_reducible refine(HC1.o _ hcur).mono ?_);rintro e w' ⟨rfl,hb⟩;have hcur:=bvo hcur hb)|(go_at_call 120;(with_reducible refine(HC2.o _ hcur).mono ?_);rintro e w' ⟨rfl,hb⟩;have hcur:=bvo hcur hb));refine⟨iov hcur,?_⟩))
 refine lxe ?_;go_wp2;go_ret;exact⟨rvl (congrArg Value.string HE.o),bvo HB.o hcur⟩
theorem vtext_any(v:VidM)(w:World)(ht:Tab w):Calls Tryz.prog 69 #[vidV v] w fun e w'=>e=.returned (.string (textB v))∧Be w w':=by
 have HA:=Lh (anw w (cV v) 27);have HB:=Lh (bnew (w:=w) (.cells (cV v) 27));have HT:=Lh (ht.over HB.o);have h1:=v.n.toNat_lt;have z1:=pidB_size v.pid;have z2:=decB_size (u:=v.n.toNat) (by omega);have HE:=Lh (textB_eq v);clear ht;unfold vidV;go_enter Tryz.func69,Tryz.ntmps69;go_upto_region 1 with fail;generalize w.alloc (.cells (cV v) 27)=w0 at *;obtain⟨c0,c1,c2,sc⟩:=HA.o.c3;have HC1:Hid (∀ w',Be w0 w'→Calls Tryz.prog 119 #[.agg (cP v.pid)] w' fun e w''=>e=.returned (.string (pidB v.pid))∧Below w'.heap.size w' w''):=fun w' hb=>ptext_any v.pid w' (HT.o.over hb);have HC2:Hid (∀ w',Be w0 w'→Calls Tryz.prog 120 #[.int .i64 v.n.toNat] w' fun e w''=>e=.returned (.string (decB v.n.toNat))∧Below w'.heap.size w' w''):=fun w' hb=>itoa_any _ w' (by omega) (HT.o.over hb);generalize pidB v.pid=A at *;generalize decB v.n.toNat=B at *;refine wlo 10 fun hcur=>?_;repeat(first|refine lxq ?_|(refine lxl rfl ?_;go_wp2_with (first|(go_at_call 119;(with_reducible refine(HC1.o _ hcur).mono ?_);rintro e w' ⟨rfl,hb⟩;have hcur:=bvo hcur hb)|(go_at_call 120;(with_reducible refine(HC2.o _ hcur).mono ?_);rintro e w' ⟨rfl,hb⟩;have hcur:=bvo hcur hb));refine⟨iov hcur,?_⟩))
 refine lxe ?_;go_wp2;go_ret;exact⟨rvl (congrArg Value.string HE.o),bvo HB.o hcur⟩
end
section
variable{t:ByteArray}{xs:List (List UInt8)}{B cap g:Nat}{w:World}
def encT(t:List UInt8):List Value:=[encStr t]
theorem slStrN:SlT Tryz.prog 64 9 1 16:=slT_of Tryz.underlying64 (by kernel_rfl) (by decide)
theorem encT_len(t:List UInt8):(encT t).length=1:=rfl
theorem encT_map(l:List (List UInt8)):l.flatMap encT=l.map encStr:=by
 induction l with
 | nil=>rfl
 | cons x l ih=>rw [List.flatMap_cons,ih];rfl
theorem putCells_enc{α:Type}[Inhabited α](enc:α→Value)(d:Array α)(c:Array Value):Go.Sort.putCells enc 0 d c=Go.Sort.putCells id 0 (d.map enc) c:=by
 apply Array.ext_getElem?;intro t;simp only [Go.Sort.putCells,Array.getElem?_mapIdx,Array.size_map,Nat.sub_zero,id]
 by_cases h:t<d.size
 · rw [getElem!_pos d t h,getElem!_pos (d.map enc) t (by simpa using h)];simp
 simp [h]
theorem OwnAt.holdsT{e:TypeId}(h:OwnAt w B e 1 g xs.length cap (xs.flatMap encT)):Go.Sort.Holds encStr w g 0 xs.toArray:=by
 intro j hj;rw [Nat.zero_add];refine⟨?_,h.free j⟩;refine h.cell ?_;have hj':j<xs.length:=by simpa using hj
 rw [encT_map,List.getElem?_map,List.getElem?_eq_getElem hj',getElem!_pos xs.toArray j hj];simp
theorem OwnAt.putT{e:TypeId}{ys:List (List UInt8)}(h:OwnAt w B e 1 g xs.length cap (xs.flatMap encT))(hl:ys.length=xs.length)(n:Nat)(os:Array Obj) :
  OwnAt (Go.Sort.grow (Go.Sort.putRow encStr (Go.Sort.ahead w n) g 0 ys.toArray) os) B e 1 g xs.length cap (ys.flatMap encT)∧w.grownBy (Go.Sort.grow (Go.Sort.putRow encStr (Go.Sort.ahead w n) g 0 ys.toArray) os) (some g):=by
 have hlt:=h.lt;obtain⟨junk,h1,h2⟩:=h.at';have hl2:(xs.flatMap encT).length=(ys.flatMap encT).length:=by rw [encT_map,encT_map];simp [hl]
 have hheap:(Go.Sort.putRow encStr (Go.Sort.ahead w n) g 0 ys.toArray).heap[g]? = some (.cells (ys.flatMap encT++junk).toArray e (0,0)):=by unfold Go.Sort.putRow Go.Sort.mapBlock;simp only [Array.getElem?_modify,if_pos];have:(Go.Sort.ahead w n).heap=w.heap:=rfl;rw [this,h1];simp only [Option.map_some,Go.Sort.onCells];rw [putCells_enc,List.map_toArray,← encT_map,putCells_row _ _ _ hl2]
 refine⟨⟨⟨junk,?_,?_⟩,by rw [← hl2];exact h.len,h.base,h.nc,h.cm⟩,?_⟩
 · rw [Go.Sort.heap_grow_old _ _ (by simp [Go.Sort.putRow,Go.Sort.mapBlock];exact hlt)];exact hheap
 · rw [List.length_append,← hl2,← List.length_append];exact h2
 refine⟨rfl,rfl,rfl,by simp [Go.Sort.putRow,Go.Sort.mapBlock,Go.Sort.ahead],fun i hi hne => ?_⟩;rw [Go.Sort.heap_grow_old _ _ (by simp [Go.Sort.putRow,Go.Sort.mapBlock];exact hi)];unfold Go.Sort.putRow Go.Sort.mapBlock;simp only [Array.getElem?_modify];rw [if_neg (fun e=>hne (by rw [e]))];rfl
def sortT(xs:List (List UInt8)):List (List UInt8):=xs.mergeSort fun x y=>decide (x≤y)
theorem sortT_len(xs:List (List UInt8)):(sortT xs).length=xs.length:=List.length_mergeSort _
theorem compact_len(xs:List (List UInt8)):(Lib.compact xs).length≤xs.length:=by unfold Lib.compact Lib.compactUpTo;rw [List.length_map];refine Nat.le_trans (List.length_filter_le _ _) ?_;simp
def SortTRes(w:World)(B g cap:Nat)(xs:List (List UInt8))(r:Ending)(w':World):Prop:=r=.returned (.tuple #[])∧OwnAt w' B 9 1 g xs.length cap ((sortT xs).flatMap encT)∧w.grownBy w' (some g)
theorem sortStr_any(h:OwnAt w B 9 1 g xs.length cap (xs.flatMap encT))(hn:xs.length≤1000000000) :
  Calls Tryz.prog 121 #[.slice (some ⟨g,0,none⟩) xs.length cap] w (SortTRes w B g cap xs):=by have hcon:=AnyM.slices_Sort_string (P:=Tryz.prog) Tryz.sortStr g 0 cap xs w h.holdsT h.lt (by omega);refine hcon.mono ?_;rintro e w' ⟨rfl,n,os,rfl⟩;obtain⟨h1,h2⟩:=h.putT (sortT_len xs) n os;exact⟨rfl,h1,h2⟩
theorem sortStr_none(p:Option Addr)(cap:Nat)(w:World) :
  Calls Tryz.prog 121 #[.slice p 0 cap] w fun e w'=>e=.returned (.tuple #[])∧w'=w:=AnyM.slices_Sort_string_none (P:=Tryz.prog) Tryz.sortStr p cap w
def CompTRes(w:World)(B g:Nat)(xs:List (List UInt8))(e:Ending)(w':World):Prop:=∃ v,e=.returned v∧GOwn encT 1 9 w' B v (Lib.compact xs)∧w.grownBy w' (some g)
theorem compStr_any(h:OwnAt w B 9 1 g xs.length cap (xs.flatMap encT))(hn:xs.length≤1000000000) :
  Calls Tryz.prog 122 #[.slice (some ⟨g,0,none⟩) xs.length cap] w (CompTRes w B g xs):=by have hcon:=AnyG.slices_Compact_string (P:=Tryz.prog) Tryz.compStr g 0 cap xs w h.holdsT (by omega) h.nc;have hcl:=compact_len xs;refine hcon.mono ?_;rintro e w' ⟨rfl,q,rfl⟩;obtain⟨h1,h2⟩:=h.putT (ys:=Lib.compact xs++List.replicate (xs.length - (Lib.compact xs).length) []) (by rw [List.length_append,List.length_replicate];omega) q #[];rw [Go.Sort.grow_empty] at h1 h2;refine⟨_,rfl,?_,h2⟩;have h3:=h1.take hcl;rw [List.flatMap_append,encT_map (Lib.compact xs),List.take_append_of_le_length (by simp),List.take_of_length_le (by simp),← encT_map] at h3;exact h3.own
theorem compStr_none(p:Option Addr)(cap:Nat)(w:World) :
  Calls Tryz.prog 122 #[.slice p 0 cap] w fun e w'=>e=.returned (.slice p 0 cap)∧w'=w:=AnyG.slices_Compact_string_empty (P:=Tryz.prog) Tryz.compStr p cap w
theorem others_yes{xs:List VertM}{k:Nat}{u:VertM}(h:xs[k]? = some u)(hd:¬ u.text=t):othersM (xs.take (k+1)) t=othersM (xs.take k) t++[u.text.data.toList]:=by unfold othersM;rw [take_succ' h,List.filter_append];simp [hd]
theorem others_no{xs:List VertM}{k:Nat}{u:VertM}(h:xs[k]? = some u)(hd:u.text=t):othersM (xs.take (k+1)) t=othersM (xs.take k) t:=by unfold othersM;rw [take_succ' h,List.filter_append];simp [hd]
theorem others_len(xs:List VertM)(k:Nat)(t:ByteArray):(othersM (xs.take k) t).length≤xs.length:=by unfold othersM;rw [List.length_map];exact Nat.le_trans (List.length_filter_le _ _) (by rw [List.length_take];omega)
theorem alsoM_q(xs:List VertM)(t:ByteArray):Lib.compact (sortT (othersM xs t))=alsoM xs t:=rfl
theorem encT_text(s:ByteArray):encT s.data.toList=[.string s]:=rfl
def AlRel(w1:World)(xs:List VertM)(t:ByteArray)(v3 v8:Value)(wr:World):Prop:=∃ k:Nat,k≤xs.length∧v8=.int .i64 k∧Hid (GOwn encT 1 9 wr w1.heap.size v3 (othersM (xs.take k) t))∧Be w1 wr
theorem others_nil{xs:List VertM}(h:othersM xs t=[]):alsoM xs t=[]:=by rw [← alsoM_q,h];simp [sortT,Lib.compact,Lib.compactUpTo]
attribute [local irreducible] othersM alsoM sortT
theorem nalso_any(v:Value)(xs:List VertM)(x0:VertM)(w:World)(hv:GRow encVert 9 w v xs)(h0:xs[0]? = some x0)(hn:xs.length≤1000000) :
  Calls Tryz.prog 70 #[v] w (OwnRes encT 1 9 w (alsoM xs x0.text)):=by
 obtain⟨a,cap,rfl,h1,h2,hc⟩:=hv.at encVert_len;unfold maxLen at h2;have hpos:0<xs.length:=by rcases xs with _|⟨_,_⟩ <;> simp at h0 ⊢
 obtain⟨b,off,rfl,sb,hcb⟩:=hc.resolve_left (by omega);have HC:=Lh hcb;have H0:=Lh h0;have HQ:=Lh (alsoM_q xs x0.text);clear hv hc hcb h0;go_enter Tryz.func70,Tryz.ntmps70;go_wp2;go_loopw [3,8] (fun v3 v8 wr=>AlRel w xs x0.text v3 v8 wr) (fun _ v8 _=>xs.length - (intOf v8).toNat)
 case atStart=>exact⟨0,Nat.zero_le _,rfl,(by show GOwn _ _ _ _ _ _ _;unfold othersM;exact gown_nil _ _),Below.refl _ _⟩
 obtain⟨k,hk,rfl,HM,hbl⟩:=hrel;rename World=>wr;have hol:=others_len xs k x0.text
 by_cases hlt:k<xs.length
 ·
  obtain⟨u,hu⟩:=gol hlt;have HU:=Lh (HC.o k u hu wr hbl);have HX:=Lh hu;obtain⟨u0,u1,u2,u3,u4,u5,u6,u7,u8,su⟩:=rc9 HU.o;clear hu;go_upto_region 5 with fail;have HA7:=Lh (anw wr (cX u) 86);have HB7:=Lh (bnew (w:=wr) (.cells (cX u) 86));generalize wr.alloc (.cells (cX u) 86)=w7 at *;clear u0 u1 u2 u3 u4 u5 u6 u7 u8 su;have hs7:=HB7.o.size;have hsl:=hbl.size;have hb7:=bvo hbl HB7.o;have HZ:=Lh (HC.o 0 x0 H0.o w7 hb7);have q0:w7.cell? ⟨b,off+3+4,none⟩=some (.string x0.text):=by have:=HZ.o.2 7 _ rfl;simpa [Nat.add_assoc] using this
  have q1:w7.cell? ⟨b,off+7,none⟩=some (.string x0.text):=by have:=HZ.o.2 7 _ rfl;simpa [Nat.add_assoc] using this
  have sq:=HZ.o.1;obtain⟨y0,y1,y2,y3,y4,y5,y6,y7,y8,sy⟩:=HA7.o.c9
  by_cases ht:u.text=x0.text
  ·
   have e1:=seq_t ht;have HN:=Lh (others_no HX.o ht);have HMr:=Lh (HM.o.over HB7.o);clear ht;refine wlo 7 fun hcur=>?_;(repeat refine lxq ?_);refine lxe ?_;go_wp2;go_roundw
   case rel=>exact⟨k+1,hlt,by go_num,(by show GOwn _ _ _ _ _ _ _;rw [HN.o];exact HMr.o.over hcur),bvo hb7 hcur⟩
   simp [intOf];omega
  have e1:=seq_f ht;have HN:=Lh (others_yes HX.o ht);clear ht;refine wlo 7 fun hcur=>?_;repeat refine lxq ?_
  refine lxe ?_;have HM8:=Lh ((HM.o.over HB7.o).over hcur);have hb8:=bvo hb7 hcur;have hB8:w.heap.size≤w7.drew.heap.size:=hb8.size;have hN8:(othersM (xs.take k) x0.text).length+1≤1099511627776:=by omega
  have HA8:=Lh (HA7.o.over hcur);clear y0 y1 y2 y3 y4 y5 y6 y7 y8 sy q0 q1 sq hcur;obtain⟨z0,z1,z2,z3,z4,z5,z6,z7,z8,sz⟩:=HA8.o.c9;go_wp2_with (at_builtin;refine apD slStrN rfl _ _ rfl w.heap.size _ _ (dad _ _ _) 1 _ _ _ HM8.o rfl rfl rfl rfl hN8 (by decide) hB8 ?_;intro v9 w9 ho9 hg9);go_roundw
  case rel=>exact⟨k+1,hlt,by go_num,(by show GOwn _ _ _ _ _ _ _;rw [HN.o];exact GOwn.snoc (by rw [encT_text];exact ho9)),bgr hb7 hb7.size (HM.o.over HB7.o) hg9⟩
  simp [intOf];omega
 obtain rfl:k=xs.length:=by omega
 have HO:=HM.o;rw [List.take_length] at HO hol;have HO2:=Lh HO;have HB2:=Lh hbl;clear HM;rcases own_cases HO with⟨hz,p,c,rfl⟩|⟨hne,g,cap2,rfl,hA⟩
 ·
  have HE:=Lh (others_nil hz);have HO3:Hid (GOwn encT 1 9 wr w.heap.size (.slice p 0 c) []):=by show GOwn _ _ _ _ _ _ _;rw [← hz];exact HO2.o
  clear HO hz;go_wp2_with fail;refine(sortStr_none _ _ _).mono ?_;rintro e w2 ⟨rfl,hw2⟩;obtain rfl:=hw2.symm;go_wp2_with fail;refine(compStr_none _ _ _).mono ?_;rintro e w3 ⟨rfl,hw3⟩;obtain rfl:=hw3.symm;go_wp2;go_ret;exact⟨_,rfl,(by rw [HE.o];exact HO3.o),HB2.o⟩
 have HAt:=Lh hA;clear HO hA;go_wp2_with fail;refine(sortStr_any HAt.o (by omega)).mono ?_;rintro e w2 ⟨rfl,hA2,hg2⟩;have hsl:=sortT_len (othersM xs x0.text);rw [← hsl] at hA2;have HA2:=Lh hA2;have HG2:=Lh hg2;have HS:=Lh hsl;clear hA2 hg2 hsl;go_wp2_with fail;rw [← HS.o];refine(compStr_any HA2.o (by have:=HS.o;omega)).mono ?_;rintro e w3 ⟨v3,rfl,ho3,hg3⟩;rw [HQ.o] at ho3;have HO3:=Lh ho3;have HG3:=Lh hg3;clear ho3 hg3;go_wp2;go_ret;exact⟨_,rfl,HO3.o,HB2.o.grown (gtr HG2.o HG3.o) HB2.o.size fun k hk=>by cases hk;exact HAt.o.base⟩
end
section
variable{ns:List NameM}{B sz:Nat}{α:Type}{e:TypeId}{v:Value}{w w':World}
structure LaidN where
 n:NameM
 pa:Option Addr
 ca:Nat
 pf:Option Addr
 cf:Nat
def encU8(c:UInt8):List Value:=[.int .u8 c.toNat]
def encN(x:LaidN):List Value:=[.int .u8 x.n.file.pid.author.toNat,.int .u16 x.n.file.pid.seq.toNat,.int .u8 x.n.file.n.toNat,.string x.n.name,.slice x.pa x.n.also.length x.ca,.slice x.pf x.n.flaws.length x.cf]
theorem encN_len(x:LaidN):(encN x).length=6:=rfl
theorem slName:SlT Tryz.prog 76 82 6 72:=slT_of Tryz.underlying76 (by kernel_rfl) (by decide)
theorem slByte:SlT Tryz.prog 80 5 1 1:=slT_of Tryz.underlying80 (by kernel_rfl) (by decide)
theorem own_sl{enc:α→List Value}{xs:List α}(h:GOwn enc sz e w B v xs):∃ p c,v=.slice p xs.length c:=by
 rcases h.2 with⟨rfl,h0⟩|⟨g,cap,cur,rfl,_⟩
 · exact⟨none,0,by rw [h0]⟩
 exact⟨_,_,rfl⟩
theorem own_apart{β:Type}{enc:α→List Value}{enc':β→List Value}{sz':Nat}{e':TypeId}{B':Nat}{v':Value}{xs:List α}{ys:List β}(h:GOwn enc sz e w B v xs)(h':GOwn enc' sz' e' w B' v' ys)(hne:e≠e'):v.ownBlock=none∨v.ownBlock≠v'.ownBlock:=by
 rcases h.2 with⟨rfl,_⟩|⟨g,cap,cur,rfl,_,hg,_⟩
 · exact .inl rfl
 refine .inr fun q => ?_;rcases h'.2 with⟨rfl,_⟩|⟨g',cap',cur',rfl,_,hg',_⟩
 · simp [Value.ownBlock] at q
 simp only [Value.ownBlock,Option.some.injEq] at q;subst q;rw [hg] at hg';simp only [Option.some.injEq,Obj.cells.injEq] at hg';exact hne hg'.2.1
theorem own_lit{enc:α→List Value}(w:World)(e:TypeId)(xs:List α)(B:Nat)(hl:(xs.flatMap enc).length=xs.length*sz)(hm:xs.length≤maxLen)(hB:B≤w.heap.size):GOwn enc sz e (w.alloc (.cells (xs.flatMap enc).toArray e)) B (.slice (some ⟨w.heap.size,0,none⟩) xs.length xs.length) xs:=
 ⟨hl,.inr ⟨w.heap.size,xs.length,(xs.flatMap enc).toArray,rfl,hB,by rw [heap_alloc_new],Nat.le_refl _,hm,by simp [hl],by rw [← hl];exact List.take_length⟩⟩
def NameAt(w:World)(B:Nat)(x:LaidN):Prop:=GOwn encT 1 9 w B (.slice x.pa x.n.also.length x.ca) x.n.also∧GOwn encU8 1 5 w B (.slice x.pf x.n.flaws.length x.cf) x.n.flaws
def Names(w:World)(B:Nat)(v:Value)(ns:List NameM):Prop:=∃ xs:List LaidN,xs.map (·.n)=ns∧GOwn encN 6 82 w B v xs∧∀ x∈xs,NameAt w B x
theorem gown_keep{enc:α→List Value}{xs:List α}{row:Option Nat}(h:GOwn enc sz e w B v xs)(hg:w.grownBy w' row)(hr:∀ k,row=some k→k<B):GOwn enc sz e w' B v xs:=
 own_grown h hg (by
  cases hv:v.ownBlock with
  | none=>exact .inl rfl
  | some k=>exact .inr fun q=>by have:=gown_base h hv;have:=hr k q.symm;omega)
theorem Names.keep{row:Option Nat}(h:Names w B v ns)(hg:w.grownBy w' row)(hr:∀ k,row=some k→k<B):Names w' B v ns:=by obtain⟨xs,h1,h2,h3⟩:=h;exact⟨xs,h1,gown_keep h2 hg hr,fun x hx=>⟨gown_keep (h3 x hx).1 hg hr,gown_keep (h3 x hx).2 hg hr⟩⟩
theorem Names.over(h:Names w B v ns)(hb:Be w w'):Names w' B v ns:=h.keep (below_none hb) (fun k hk=>by cases hk)
theorem Names.base{B':Nat}(h:Names w B v ns)(hB:B'≤B):Names w B' v ns:=by obtain⟨xs,h1,h2,h3⟩:=h;exact⟨xs,h1,h2.base hB,fun x hx=>⟨(h3 x hx).1.base hB,(h3 x hx).2.base hB⟩⟩
theorem names_nil(w:World)(B:Nat):Names w B (.slice none 0 0) []:=⟨[],rfl,gown_nil _ _,fun x hx=>absurd hx (List.not_mem_nil)⟩
theorem names_snoc{v':Value}{xs:List LaidN}(h1:xs.map (·.n)=ns)(hO:GOwn encN 6 82 w B v xs)(hN:∀ x∈xs,NameAt w B x){y:LaidN}(hy:NameAt w B y)(hg:w.grownBy w' v.ownBlock)
  (ho:w'.ownsRow B 82 6 v' (xs.length+1) (xs.flatMap encN++encN y)):Names w' B v' (ns++[y.n]):=by
 have hk:∀ x,NameAt w B x→NameAt w' B x:=fun x ⟨a,b⟩=>⟨own_grown a hg (own_apart a hO (by decide)),own_grown b hg (own_apart b hO (by decide))⟩;refine⟨xs++[y],by rw [List.map_append,h1];rfl,GOwn.snoc ho,fun x hx => ?_⟩;rcases List.mem_append.1 hx with hx|hx
 · exact hk x (hN x hx)
 rw [List.mem_singleton.1 hx];exact hk y hy
def okStr(s:ByteArray):Prop:=s.size≤maxLen
abbrev strV(s:ByteArray):Value:=.string s
abbrev intV(n:Int):Value:=.int .i64 n
theorem keysStr:KeyEnc Tryz.prog 9 strV okStr:=⟨Maps.string_keyed Tryz.underlying9,fun s hs=>by refine⟨.string s.data.toList,?_⟩;unfold keyOf;rw [Tryz.underlying9];unfold mapKey;rw [Tryz.underlying9];show(if s.size≤maxLen then _ else _)=_;rw [if_pos (show s.size≤maxLen from hs)],fun x y h=>by cases h;rfl⟩
theorem allTo_len(L:List PatchM):∀ k,k≤(filesM L).length→(allTo L k).1.length≤k∧∀ t,(allTo L k).2 t≤k
 | 0,_=>⟨by simp [allTo_zero],fun t=>by simp [allTo_zero]⟩
 | k+1,hk=>by
  obtain⟨h1,h2⟩:=allTo_len L k (by omega);have hf:=List.getElem?_eq_getElem (l:=filesM L) (i:=k) (by omega);rw [allTo_succ hf];unfold stepN;split
  · exact⟨by omega,fun t=>by have:=h2 t;omega⟩
  refine⟨by rw [List.length_append];simp;omega,fun t => ?_⟩;cases namesM L (filesM L)[k] with
  | nil=>have:=h2 t;simp only [bumpL];omega
  | cons x l =>
   simp only [bumpL];unfold bumpT;split
   · have:=h2 x.text;omega
   have:=h2 t;omega
theorem filesM_len(L:List PatchM):(filesM L).length≤(idsM L).length:=by unfold filesM;rw [List.length_map];exact Nat.le_trans (List.length_filter_le _ _) (by unfold vertsM;rw [List.length_map];exact Nat.le_refl _)
def AllIn(L:List PatchM)(w:World)(bm:Nat)(v13 v3 v15:Value)(wr:World):Prop:=
 ∃(k n:Nat) (f:ByteArray→Option Int),k≤(filesM L).length∧n≤k∧v15=.int .i64 k∧Hid (Names wr (bm+1) v3 (allTo L k).1)∧Hid (TMap Tryz.prog 9 strV okStr intV wr bm n f)∧Hid (∀ t,(f t).getD 0=(((allTo L k).2 t:Nat):Int)) ∧
  Hid (GOwn encVid 3 27 wr (bm+1) v13 (filesM L))∧Hid (Be w wr)∧bm+1≤wr.heap.size
def AllRes(w:World)(ns:List NameM)(e:Ending)(w':World):Prop:=∃ v,e=.returned v∧Names w' w.heap.size v ns∧Be w w'
theorem step_dead{L:List PatchM}{s:StN}{f:VidM}{y:VertM}(h1:(vertM L f).getD noVert=y)(h2:y.dead=true):stepN L s f=s:=by unfold stepN deadAt;rw [h1,if_pos h2]
theorem step_live{L:List PatchM}{s:StN}{f:VidM}{y:VertM}(h1:(vertM L f).getD noVert=y)(h2:y.dead=false):stepN L s f=(s.1++[nameOne L s.2 f (namesM L f)],bumpL s.2 (namesM L f)):=by unfold stepN deadAt;rw [h1,if_neg (by simp [h2])]
theorem cnt_bump{f:ByteArray→Option Int}{c:ByteArray→Nat}(h:∀ t,(f t).getD 0=((c t:Nat):Int))(s:ByteArray)(t:ByteArray):(updM f s ((c s:Int)+1) t).getD 0=((bumpT c s t:Nat):Int):=by
 unfold updM bumpT
 by_cases hs:t=s
 · rw [if_pos hs,if_pos hs];simp
 rw [if_neg hs,if_neg hs];exact h t
end
section
variable{a:ByteArray}{L:List PatchM}{k:Nat}{b s y:TextL}
theorem bytesLess_iff:∀ a b:List UInt8,Op.bytesLess a b=true↔a<b
 | [],[]=>by simp [Op.bytesLess]
 | _ :: _,[]=>by simp [Op.bytesLess]
 | [],_ :: _=>by simp [Op.bytesLess]
 | a :: x,b :: y=>by rw [Op.bytesLess,List.cons_lt_cons_iff,← bytesLess_iff x y];simp
theorem less_t(h:a.data.toList<b):Op.bytesLess a.toList b=true:=by rw [ByteArray.toList_eq,bytesLess_iff];exact h
theorem less_f(h:¬ a.data.toList<b):Op.bytesLess a.toList b=false:=by rw [Bool.eq_false_iff,ne_eq,ByteArray.toList_eq,bytesLess_iff];exact h
theorem same_t{a:TextL}{b:ByteArray}(h:a=b.data.toList):(a == b.toList)=true:=by rw [ByteArray.toList_eq,h];simp
theorem same_f{a:TextL}{b:ByteArray}(h:¬ a=b.data.toList):(a == b.toList)=false:=by rw [ByteArray.toList_eq];exact beq_eq_false_iff_ne.2 h
theorem same_t'(h:b=a.data.toList):(a.toList == b)=true:=by rw [ByteArray.toList_eq,h];simp
theorem same_f'(h:¬ b=a.data.toList):(a.toList == b)=false:=by rw [ByteArray.toList_eq];exact beq_eq_false_iff_ne.2 fun q=>h q.symm
def restT(s:TextL):Bool→List TextL→List TextL
 | true,r=>r.filter fun y=>y≠s
 | false,[]=>[s]
 | false,y :: r=>if s<y then s :: y :: (r.filter fun z=>z≠s) else if y=s then s :: (r.filter fun z=>z≠s) else y :: restT s false r
def putT(s:TextL)(l:List TextL):List TextL:=restT s false l
theorem restT_true(s:TextL)(r:List TextL):restT s true r=r.filter (fun y=>y≠s):=by cases r <;> rfl
theorem restT_nil(s:TextL):restT s false []=[s]:=by simp [restT]
theorem restT_lt(h:s<y)(r:List TextL):restT s false (y :: r)=s :: y :: restT s true r:=by simp [restT,h]
theorem restT_eq(h:y=s)(r:List TextL):restT s false (y :: r)=s :: restT s true r:=by subst h;simp [restT,tl_irrefl]
theorem restT_gt(h1:¬ s<y)(h2:¬ y=s)(r:List TextL):restT s false (y :: r)=y :: restT s false r:=by simp [restT,h1,h2]
theorem restT_yes(h:¬ y=s)(r:List TextL):restT s true (y :: r)=y :: restT s true r:=by simp [restT,h]
theorem restT_no(h:y=s)(r:List TextL):restT s true (y :: r)=restT s true r:=by simp [restT,h]
theorem restT_end(s:TextL):restT s true []=[]:=by simp [restT]
theorem putT_spec(s:TextL):∀ {l:List TextL},RisesT l→RisesT (putT s l)∧∀ z,z∈putT s l↔z=s∨z∈l
 | [],_=>by simp [putT,restT,RisesT]
 | y :: l,h=>by
  obtain⟨h1,h2⟩:=List.pairwise_cons.1 h;unfold putT;rcases Classical.em (s<y) with hs|hs
  ·
   have hf:restT s true l=l:=(restT_true s l).trans (List.filter_eq_self.2 fun z hz=>by have:z≠s:=fun e=>tl_irrefl s (tl_trans hs (e▸h1 z hz));simpa using this);rw [restT_lt hs,hf];refine⟨List.pairwise_cons.2 ⟨fun z hz => ?_,h⟩,fun z=>by simp⟩;rcases List.mem_cons.1 hz with rfl|hz
   · exact hs
   exact tl_trans hs (h1 z hz)
  rcases Classical.em (y=s) with he|he
  · have hf:restT s true l=l:=(restT_true s l).trans (List.filter_eq_self.2 fun z hz=>by have:z≠s:=fun e=>tl_irrefl s (by have:=h1 z hz;rw [e,he] at this;exact this);simpa using this);rw [restT_eq he,hf];subst he;exact⟨h,fun z=>by simp⟩
  obtain⟨g1,g2⟩:=putT_spec s h2;unfold putT at g1 g2;rw [restT_gt hs he];refine⟨List.pairwise_cons.2 ⟨fun z hz => ?_,g1⟩,fun z => ?_⟩
  ·
   rcases (g2 z).1 hz with rfl|hz
   · exact tl_lt_of (tl_not.1 hs) he
   exact h1 z hz
  rw [List.mem_cons,g2 z,List.mem_cons];constructor
  ·
   rintro(h|h|h)
   · exact .inr (.inl h)
   · exact .inl h
   exact .inr (.inr h)
  rintro(h|h|h)
  · exact .inr (.inl h)
  · exact .inl h
  exact .inr (.inr h)
theorem drop_atT{xs:List TextL}(h:xs[k]? = some y):xs.drop k=y :: xs.drop (k+1):=drop_at h
def PtRel(w:World)(l:List TextL)(s:TextL)(v5 v6 v7:Value)(wr:World):Prop:=
 ∃(k:Nat) (M:List TextL) (t:Bool),k≤l.length∧v7=.int .i64 k∧v6=.bool t∧M.length≤k+t.toNat∧Hid (GOwn encT 1 9 wr w.heap.size v5 M)∧Hid (putT s l=M++restT s t (l.drop k))∧Be w wr
def SetOwnT(w:World)(xs:List TextL)(e:Ending)(w':World):Prop:=∃ u,e=.returned u∧GOwn encT 1 9 w' w.heap.size u xs∧Be w w'
attribute [local irreducible] restT putT
theorem rput24_any(v:Value)(l:List TextL)(s:ByteArray)(w:World)(hv:GRow encT 1 w v l)(hl:l.length≤1000000) :
  Calls Tryz.prog 100 #[v,.string s] w (SetOwnT w (putT s.data.toList l)):=by
 obtain⟨a,cap,rfl,h1,h2,hc⟩:=hv.at encT_len;unfold maxLen at h2;have HC:=Lh hc;clear hv hc;go_enter Tryz.func100,Tryz.ntmps100;go_wp2;go_loopw [5,6,7] (fun v5 v6 v7 wr=>PtRel w l s.data.toList v5 v6 v7 wr) (fun _ _ v7 _=>l.length - (intOf v7).toNat)
 case atStart=>exact⟨0,[],false,Nat.zero_le _,rfl,rfl,by simp,gown_nil _ _,(by show _=_;unfold putT;simp),Below.refl _ _⟩
 obtain⟨k,M,t,hk,rfl,rfl,hM,HM,HR,hbl⟩:=hrel;rename World=>wr;have htn:=Bool.toNat_le t;have hN:M.length+1≤1099511627776:=by omega
 have hB:=hbl.size
 by_cases hlt:k<l.length
 rotate_left
 ·
  have hke:k=l.length:=by omega
  subst hke;rw [List.drop_length] at HR;cases t with
  | true =>have HE:Hid (putT s.data.toList l=M):=(by show _=_;rw [HR.o,restT_end];simp);go_wp2;go_ret;exact⟨_,rfl,(by rw [HE.o];exact HM.o),hbl⟩
  | false =>have HE:Hid (putT s.data.toList l=M++[s.data.toList]):=(by show _=_;rw [HR.o,restT_nil]);go_wp2_with (at_builtin;refine apD slStrN rfl _ _ rfl w.heap.size _ _ (drf _) 1 _ _ _ HM.o rfl rfl rfl rfl hN (by decide) hB ?_;intro v2 w2 ho2 hg2);go_ret;exact⟨_,rfl,(by rw [HE.o];exact GOwn.snoc ho2),bgr hbl hB HM.o hg2⟩
 obtain⟨bo,oo,rfl,so,hcw⟩:=HC.o.resolve_left (by omega);obtain⟨y,hy⟩:=gol hlt;have HYa:Hid (∀ W,Be w W→W.cell? ⟨bo,oo+k,none⟩=some (.string ⟨y.toArray⟩)):=Lh fun W hW=>by have:=(hcw k y hy W hW).2 0 _ rfl;rw [Nat.mul_one,Nat.add_zero] at this;exact this
 have HR1:Hid (putT s.data.toList l=M++restT s.data.toList t (y :: l.drop (k+1))):=by show _=_;rw [← drop_atT hy];exact HR.o
 have y0:=HYa.o wr hbl;have so2:=hbl.size;clear hy hcw HR;cases t with
 | true =>
  have hM1:M.length≤k+1:=hM;rcases Classical.em (y=s.data.toList) with he|he
  ·
   have e1:(y == s.toList)=true:=same_t he;have HN:Hid (putT s.data.toList l=M++restT s.data.toList true (l.drop (k+1))):=(by show _=_;rw [HR1.o,restT_no he]);clear he;go_wp2;go_roundw
   case rel=>exact⟨k+1,M,true,hlt,by go_num,rfl,by simp;omega,HM,HN,hbl⟩
   simp [intOf];omega
  have e1:(y == s.toList)=false:=same_f he;have HN:Hid (putT s.data.toList l=(M++[y])++restT s.data.toList true (l.drop (k+1))):=by show _=_;rw [HR1.o,restT_yes he];simp
  clear he;go_wp2_with (at_builtin;refine apD slStrN rfl _ _ rfl w.heap.size _ _ (drf _) 1 _ _ _ HM.o rfl rfl rfl rfl hN (by decide) hB ?_;intro v2 w2 ho2 hg2);go_roundw
  case rel=>exact⟨k+1,M++[y],true,hlt,by go_num,rfl,by simp;omega,GOwn.snoc ho2,HN,bgr hbl hB HM.o hg2⟩
  simp [intOf];omega
 | false =>
  have hM0:M.length≤k:=hM;rcases Classical.em (s.data.toList<y) with hs|hs
  ·
   have he:¬ y=s.data.toList:=fun e=>tl_irrefl y (by rw [e] at hs;exact absurd hs (tl_irrefl _));have b1:Op.bytesLess s.toList y=true:=less_t hs;have e1:(y == s.toList)=false:=same_f he;have HN:Hid (putT s.data.toList l=(M++[s.data.toList]++[y])++restT s.data.toList true (l.drop (k+1))):=(by show _=_;rw [HR1.o,restT_lt hs];simp);have hN2:(M++[s.data.toList]).length+1≤1099511627776:=(by simp;omega);clear he hs;go_upto_region 9 with(at_builtin;refine apD slStrN rfl _ _ rfl w.heap.size _ _ (drf _) 1 _ _ _ HM.o rfl rfl rfl rfl hN (by decide) hB ?_;intro v2 w2 ho2 hg2)
   have HM2:Hid (GOwn encT 1 9 w2 w.heap.size v2 (M++[s.data.toList])):=GOwn.snoc ho2;have hb2:=bgr hbl hB HM.o hg2;have y2:=HYa.o w2 hb2;have hB2:=hb2.size;clear ho2 hg2 y0;go_wp2_with (at_builtin;refine apD slStrN rfl _ _ rfl w.heap.size _ _ (drf _) 1 _ _ _ HM2.o rfl rfl rfl rfl hN2 (by decide) hB2 ?_;intro v3 w3 ho3 hg3);go_roundw
   case rel=>exact⟨k+1,M++[s.data.toList]++[y],true,hlt,by go_num,rfl,by simp;omega,GOwn.snoc ho3,HN,bgr hb2 hB2 HM2.o hg3⟩
   simp [intOf];omega
  have b1:Op.bytesLess s.toList y=false:=less_f hs;rcases Classical.em (y=s.data.toList) with he|he
  ·
   have e1:(y == s.toList)=true:=same_t he;have e2:(s.toList == y)=true:=same_t' he;have HN:Hid (putT s.data.toList l=(M++[s.data.toList])++restT s.data.toList true (l.drop (k+1))):=(by show _=_;rw [HR1.o,restT_eq he];simp);clear he hs;go_upto_region 9 with(at_builtin;refine apD slStrN rfl _ _ rfl w.heap.size _ _ (drf _) 1 _ _ _ HM.o rfl rfl rfl rfl hN (by decide) hB ?_;intro v2 w2 ho2 hg2)
   have HM2:Hid (GOwn encT 1 9 w2 w.heap.size v2 (M++[s.data.toList])):=GOwn.snoc ho2;have hb2:=bgr hbl hB HM.o hg2;have y2:=HYa.o w2 hb2;clear ho2 hg2 y0;go_wp2;go_roundw
   case rel=>exact⟨k+1,M++[s.data.toList],true,hlt,by go_num,rfl,by simp;omega,HM2,HN,hb2⟩
   simp [intOf];omega
  have e1:(y == s.toList)=false:=same_f he;have e2:(s.toList == y)=false:=same_f' he;have HN:Hid (putT s.data.toList l=(M++[y])++restT s.data.toList false (l.drop (k+1))):=by show _=_;rw [HR1.o,restT_gt hs he];simp
  clear he hs;go_wp2_with (at_builtin;refine apD slStrN rfl _ _ rfl w.heap.size _ _ (drf _) 1 _ _ _ HM.o rfl rfl rfl rfl hN (by decide) hB ?_;intro v2 w2 ho2 hg2);go_roundw
  case rel=>exact⟨k+1,M++[y],false,hlt,by go_num,rfl,by simp;omega,GOwn.snoc ho2,HN,bgr hbl hB HM.o hg2⟩
  simp [intOf];omega
def aliveTo(L:List PatchM)(k:Nat):List VidM:=((filesM L).take k).filter fun f => !deadAt L f
theorem aliveTo_yes{u:VidM}(h:(filesM L)[k]? = some u)(hd:deadAt L u=false):aliveTo L (k+1)=aliveTo L k++[u]:=by unfold aliveTo;rw [take_succ' h,List.filter_append];simp [hd]
theorem aliveTo_no{u:VidM}(h:(filesM L)[k]? = some u)(hd:deadAt L u=true):aliveTo L (k+1)=aliveTo L k:=by unfold aliveTo;rw [take_succ' h,List.filter_append];simp [hd]
theorem aliveTo_len(L:List PatchM)(k:Nat):(aliveTo L k).length≤(filesM L).length:=Nat.le_trans (List.length_filter_le _ _) (by rw [List.length_take];omega)
def AvRelN(w2:World)(L:List PatchM)(v3 v5:Value)(wr:World):Prop:=∃ k:Nat,k≤(filesM L).length∧v5=.int .i64 k∧Hid (GOwn encVid 3 27 wr w2.heap.size v3 (aliveTo L k))∧Be w2 wr
theorem deadAt_eq{f:VidM}{x:Option VertM}{y:VertM}(h1:vertM L f=x)(h2:optV x=y):deadAt L f=y.dead:=by unfold deadAt;rw [h1];unfold optV at h2;rw [h2]
attribute [local irreducible] idsM vertM optV filesM aliveTo deadAt
theorem ralive24_any(gv:Value)(xs:List LaidP)(w:World)(hv:Pats w gv xs)(hn:xs.length≤300)(hl:∀ x∈xs,x.p.ops.length≤260)(hil:(idsM (patsOf xs)).length≤100000)(hvl:(vertsM (patsOf xs)).length≤100000) :
  Calls Tryz.prog 97 #[rgV gv] w (SetRes encVid 3 w (aliveTo (patsOf xs) (filesM (patsOf xs)).length)):=by
 have HL:=Lh hl;have HL4:Hid (∀ x∈xs,x.p.ops.length≤40000):=Lh fun x hx=>Nat.le_trans (hl x hx) (by omega);have HFl:=Lh (flTo_all (patsOf xs));have hfl:=filesM_len (patsOf xs);have HV:=Lh hv;obtain⟨a,cap,rfl,h1,h2,hc⟩:=hv.1.at encPat_len;unfold maxLen at h2;have HC:=Lh hc;have HG:=Lh (anw w #[.slice a xs.length cap] 33);have HB:=Lh (bnew (w:=w) (.cells #[.slice a xs.length cap] 33));clear hv hc hl;unfold rgV;go_enter Tryz.func97,Tryz.ntmps97;go_upto_region 1 with fail;generalize (w.alloc (.cells #[.slice a xs.length cap] 33))=w0 at *;obtain⟨g0,sg⟩:=HG.o.c1;have HV0:=Lh (HV.o.over HB.o);go_upto_region 3 with(first|(go_at_call 13;(with_reducible refine(rfiles20_any _ xs _ (HV0.o.over (Below.refl _ _)) hn HL.o hil hvl).mono ?_);rintro e w2 ⟨u2,rfl,hu2,hb2⟩))
 rw [HFl.o] at hu2;obtain⟨a3,cap3,rfl,t1,t2,hc3⟩:=hu2.at encVid_len;unfold maxLen at t2;have HC3:=Lh hc3;have HG2:=Lh (HG.o.over hb2);have HB2:=Lh (bvo HB.o hb2);have HV2:=Lh (HV.o.over HB2.o);clear hu2 hc3 hb2 g0 sg;go_wp2;go_loopw [3,5] (fun v3 v5 wr=>AvRelN w2 (patsOf xs) v3 v5 wr) (fun _ v5 _=>(filesM (patsOf xs)).length - (intOf v5).toNat)
 case atStart=>exact⟨0,by omega,rfl,(by show GOwn _ _ _ _ _ _ _;unfold aliveTo;simp only [List.take_zero,List.filter_nil];exact gown_nil _ _),Below.refl _ _⟩
 obtain⟨k,hk,rfl,HM,hbl⟩:=hrel;rename World=>wr;have hvl:=aliveTo_len (patsOf xs) k
 by_cases hlt:k<(filesM (patsOf xs)).length
 rotate_left
 ·
  obtain rfl:k=(filesM (patsOf xs)).length:=by omega
  have HE2:=Lh HM.o.row;clear HM;go_wp2;go_ret;exact⟨_,rfl,HE2.o,bvo HB2.o hbl⟩
 obtain⟨b3,off3,rfl,sb3,hcb⟩:=HC3.o.resolve_left (by omega);obtain⟨u,hu⟩:=gol hlt;have HX0:=Lh hu;have HUa:=Lh (hcb k u hu);have HU:=Lh (hcb k u hu wr hbl);obtain⟨u0,u1,u2,su⟩:=rc3 HU.o;have HGr:=Lh (HG2.o.over hbl);have HVr:=Lh (HV2.o.over hbl);obtain⟨g0,sg⟩:=HGr.o.c1;generalize hx:vertM (patsOf xs) u=x at *;have HX:=Lh hx;generalize hy:optV x=y at *;have HY:=Lh hy;have HDe:=Lh (deadAt_eq hx hy);clear hy hx hcb hu;go_upto_region 6 with fail;have HS:Hid (∀ w':World,Be wr w'→(w'.cell? ⟨w.heap.size,0,none⟩=some (.slice a xs.length cap)∧w'.cell? ⟨b3,off3+k*3,none⟩=some (.int .u8 u.pid.author.toNat)∧w'.cell? ⟨b3,off3+k*3+1,none⟩=some (.int .u16 u.pid.seq.toNat)∧w'.cell? ⟨b3,off3+k*3+2,none⟩=some (.int .u8 u.n.toNat)∧Be wr w')):=fun w' hb=>⟨(hb.cell (p:=⟨w.heap.size,0,none⟩) sg).trans g0,(hb.cell (p:=⟨b3,off3+k*3,none⟩) su).trans u0,(hb.cell (p:=⟨b3,off3+k*3+1,none⟩) su).trans u1,(hb.cell (p:=⟨b3,off3+k*3+2,none⟩) su).trans u2,hb⟩;go_cut [6] (fun s6 wx=>∃ g2,s6=.pointer (some ⟨g2,0,none⟩)∧Hid (Arr wx g2 [.int .u8 y.id.pid.author.toNat,.int .u16 y.id.pid.seq.toNat,.int .u8 y.id.n.toNat,.int .u8 y.kind.toNat,.int .u8 y.file.pid.author.toNat,.int .u16 y.file.pid.seq.toNat,.int .u8 y.file.n.toNat,.string y.text,.bool y.dead])∧Hid (Be wr wx)∧wr.heap.size≤g2)
 case first =>
  go_region_held3 (fun w'=>w'.cell? ⟨w.heap.size,0,none⟩=some (.slice a xs.length cap)∧w'.cell? ⟨b3,off3+k*3,none⟩=some (.int .u8 u.pid.author.toNat)∧w'.cell? ⟨b3,off3+k*3+1,none⟩=some (.int .u16 u.pid.seq.toNat)∧w'.cell? ⟨b3,off3+k*3+2,none⟩=some (.int .u8 u.n.toNat)∧Be wr w') ((refine HS.o _ ?_;(with_reducible (first|exact(Below.refl _ _).drew|exact HBk.o|exact HBk.o.alloc HBk.o.size _|exact((Below.refl wr.heap.size wr).alloc (Nat.le_refl _) _).drew|exact(((((((((HBk.o.setCell (p:=⟨wr.heap.size,0,none⟩) (Nat.le_refl _) (.int .u8 y.id.pid.author.toNat)).setCell (p:=⟨wr.heap.size,1,none⟩) (Nat.le_refl _) (.int .u16 y.id.pid.seq.toNat)).setCell (p:=⟨wr.heap.size,2,none⟩) (Nat.le_refl _) (.int .u8 y.id.n.toNat)).setCell (p:=⟨wr.heap.size,3,none⟩) (Nat.le_refl _) (.int .u8 y.kind.toNat)).setCell (p:=⟨wr.heap.size,4,none⟩) (Nat.le_refl _) (.int .u8 y.file.pid.author.toNat)).setCell (p:=⟨wr.heap.size,5,none⟩) (Nat.le_refl _) (.int .u16 y.file.pid.seq.toNat)).setCell (p:=⟨wr.heap.size,6,none⟩) (Nat.le_refl _) (.int .u8 y.file.n.toNat)).setCell (p:=⟨wr.heap.size,7,none⟩) (Nat.le_refl _) (.string y.text)).setCell (p:=⟨wr.heap.size,8,none⟩) (Nat.le_refl _) (.bool y.dead))))))
   (first|(go_at_call 89;refine(rvert20_any _ xs u _ (HVr.o.over (by first|exact(Below.refl _ _).drew|exact((Below.refl wr.heap.size wr).alloc (Nat.le_refl _) _).drew)) HL4.o).mono ?_;rintro e w7 ⟨rfl,hb⟩;rw [HX.o,HY.o];have HBk:Hid (Be wr w7):=(by show Be wr w7;with_reducible (first|exact bov (Below.refl wr.heap.size wr).drew (Nat.le_refl _) hb|exact bov (((Below.refl wr.heap.size wr).alloc (Nat.le_refl _) _).drew) (Below.size (((Below.refl wr.heap.size wr).alloc (Nat.le_refl _) _).drew)) hb));have HBb:=Lh hb;obtain⟨hcc,hff⟩:=bcell hb;clear hb))
  ·
   rename_i J K hJ hK hHeld;clear hHeld;refine hK _ _ (Met.intro (hJ _ _ ?_))
   (repeat apply Exists.intro)
   refine⟨?_,rfl⟩;exact⟨_,rfl,Lh (anw _ _ _),Lh (HBk.o.alloc HBk.o.size _),HBk.o.size⟩
  rename_i J K hJ hK hHeld;clear hHeld;refine hK _ _ (Met.intro (hJ _ _ ?_))
  (repeat apply Exists.intro)
  refine⟨?_,rfl⟩;have HZ:Hid (Arr w7 wr.heap.size [.int .u8 0,.int .u16 0,.int .u8 0,.int .u8 0,.int .u8 0,.int .u16 0,.int .u8 0,.string ⟨#[]⟩,.bool false]):=(((anw wr #[.int .u8 0,.int .u16 0,.int .u8 0,.int .u8 0,.int .u8 0,.int .u16 0,.int .u8 0,.string ⟨#[]⟩,.bool false] 86).drew).over HBb.o);exact⟨_,rfl,Lh (((((((((HZ.o.set 0 (.int .u8 y.id.pid.author.toNat)).set 1 (.int .u16 y.id.pid.seq.toNat)).set 2 (.int .u8 y.id.n.toNat)).set 3 (.int .u8 y.kind.toNat)).set 4 (.int .u8 y.file.pid.author.toNat)).set 5 (.int .u16 y.file.pid.seq.toNat)).set 6 (.int .u8 y.file.n.toNat)).set 7 (.string y.text)).set 8 (.bool y.dead)),Lh (((((((((HBk.o.setCell (p:=⟨wr.heap.size,0,none⟩) (Nat.le_refl _) (.int .u8 y.id.pid.author.toNat)).setCell (p:=⟨wr.heap.size,1,none⟩) (Nat.le_refl _) (.int .u16 y.id.pid.seq.toNat)).setCell (p:=⟨wr.heap.size,2,none⟩) (Nat.le_refl _) (.int .u8 y.id.n.toNat)).setCell (p:=⟨wr.heap.size,3,none⟩) (Nat.le_refl _) (.int .u8 y.kind.toNat)).setCell (p:=⟨wr.heap.size,4,none⟩) (Nat.le_refl _) (.int .u8 y.file.pid.author.toNat)).setCell (p:=⟨wr.heap.size,5,none⟩) (Nat.le_refl _) (.int .u16 y.file.pid.seq.toNat)).setCell (p:=⟨wr.heap.size,6,none⟩) (Nat.le_refl _) (.int .u8 y.file.n.toNat)).setCell (p:=⟨wr.heap.size,7,none⟩) (Nat.le_refl _) (.string y.text)).setCell (p:=⟨wr.heap.size,8,none⟩) (Nat.le_refl _) (.bool y.dead)),Nat.le_refl _⟩
 obtain⟨g2,rfl,HA2,HBx,hg2⟩:=hcut;rename World=>w8;have HM8:=Lh (HM.o.over HBx.o);have hb8:=bvo hbl HBx.o;have hB8:=hb8.size;have hN8:(aliveTo (patsOf xs) k).length+1≤1099511627776:=by omega
 clear u0 u1 u2 su g0 sg HS HM HGr;have HU8:=Lh (HUa.o w8 hb8);obtain⟨z0,z1,z2,sz⟩:=rc3 HU8.o;obtain⟨y0,y1,y2,y3,y4,y5,y6,y7,y8,sy⟩:=HA2.o.c9;cases hd:y.dead with
 | true =>
  have HN:=Lh (aliveTo_no HX0.o (HDe.o.trans hd));rw [hd] at y8;clear hd;go_wp2;go_roundw
  case rel=>exact⟨k+1,hlt,by go_num,(by show GOwn _ _ _ _ _ _ _;rw [HN.o];exact HM8.o),hb8⟩
  simp [intOf];omega
 | false =>
  have HN:=Lh (aliveTo_yes HX0.o (HDe.o.trans hd));rw [hd] at y8;clear hd;go_wp2_with (at_builtin;refine apD slVid rfl _ _ rfl w2.heap.size _ _ (drf _) 1 _ _ _ HM8.o rfl rfl rfl rfl hN8 (by decide) hB8 ?_;intro v9 w9 ho9 hg9);go_roundw
  case rel=>exact⟨k+1,hlt,by go_num,(by show GOwn _ _ _ _ _ _ _;rw [HN.o];exact GOwn.snoc ho9),bgr hb8 hB8 HM8.o hg9⟩
  simp [intOf];omega
end
def alsoTo(l:List VertM)(t:ByteArray)(k:Nat):List TextL:=((l.take k).filter fun x=>decide (x.text≠t)).foldl (fun out x=>putT x.text.data.toList out) []
theorem alsoTo_yes{l:List VertM}{k:Nat}{u:VertM}{t:ByteArray}(h:l[k]? = some u)(hd:¬ u.text=t):alsoTo l t (k+1)=putT u.text.data.toList (alsoTo l t k):=by unfold alsoTo;rw [take_succ' h,List.filter_append,List.foldl_append];simp [hd]
theorem alsoTo_no{l:List VertM}{k:Nat}{u:VertM}{t:ByteArray}(h:l[k]? = some u)(hd:u.text=t):alsoTo l t (k+1)=alsoTo l t k:=by unfold alsoTo;rw [take_succ' h,List.filter_append];simp [hd]
theorem foldT_spec:∀(l:List VertM) (out:List TextL),RisesT out→RisesT (l.foldl (fun out x=>putT x.text.data.toList out) out)∧∀ z,z∈l.foldl (fun out x=>putT x.text.data.toList out) out↔z∈out∨∃ x∈l,z=x.text.data.toList
 | [],out,h=>⟨h,fun z=>by simp⟩
 | x :: l,out,h=>by
  obtain⟨p1,p2⟩:=putT_spec x.text.data.toList h;obtain⟨h1,h2⟩:=foldT_spec l (putT x.text.data.toList out) p1;refine⟨h1,fun z => ?_⟩;rw [List.foldl_cons,h2 z,p2 z];constructor
  ·
   rintro((h|h)|⟨y,hy,h⟩)
   · exact .inr ⟨x,List.mem_cons_self ..,h⟩
   · exact .inl h
   exact .inr ⟨y,List.mem_cons_of_mem _ hy,h⟩
  rintro(h|⟨y,hy,h⟩)
  · exact .inl (.inr h)
  rcases List.mem_cons.1 hy with rfl|hy
  · exact .inl (.inl h)
  exact .inr ⟨y,hy,h⟩
theorem alsoTo_all(l:List VertM)(t:ByteArray):alsoTo l t l.length=alsoM l t:=by
 obtain⟨h1,h2⟩:=alsoM_spec l t;obtain⟨g1,g2⟩:=foldT_spec (l.filter fun x=>decide (x.text≠t)) [] List.Pairwise.nil;unfold alsoTo;rw [List.take_length];refine risesT_ext g1 h1 fun z => ?_;rw [g2 z,h2 z];unfold othersM;rw [List.mem_map];constructor
 ·
  rintro(h|⟨x,hx,h⟩)
  · cases h
  exact⟨x,hx,h.symm⟩
 rintro⟨x,hx,h⟩;exact .inr ⟨x,hx,h.symm⟩
theorem alsoTo_one(x:VertM)(l:List VertM):alsoTo (x :: l) x.text 1=[]:=by simp [alsoTo]
theorem alsoTo_len(l:List VertM)(t:ByteArray)(k:Nat):(alsoTo l t k).length≤k:=by
 have:∀(l:List VertM) (out:List TextL),(l.foldl (fun out x=>putT x.text.data.toList out) out).length≤out.length+l.length:=by
  intro l;induction l with
  | nil=>intro out;simp
  | cons x l ih =>
   intro out;have h1:=ih (putT x.text.data.toList out);have h2:∀(s:TextL) (t:Bool) (r:List TextL),(restT s t r).length≤r.length+1:=by
    intro s t r;induction r generalizing t with
    | nil=>cases t <;> simp [restT]
    | cons y r ihr =>
     cases t with
     | true =>have:=List.length_filter_le (fun y=>decide (y≠s)) (y :: r);simp only [restT];omega
     | false =>
      have hf:=List.length_filter_le (fun z=>decide (z≠s)) r;have:=ihr false;simp only [restT];split
      · simp only [List.length_cons];omega
      split
      · simp only [List.length_cons];omega
      simp only [List.length_cons];omega
   have h3:=h2 x.text.data.toList false out;simp only [List.foldl_cons,List.length_cons];unfold putT at h1 ⊢;omega
 have h:=this ((l.take k).filter fun x=>decide (x.text≠t)) [];unfold alsoTo;refine Nat.le_trans h ?_;have:=List.length_filter_le (fun x=>decide (x.text≠t)) (l.take k);rw [List.length_take] at this;simp only [List.length_nil];omega
def firstIs(L:List PatchM)(t:ByteArray)(f:VidM):Bool:=match namesM L f with|y :: _=>decide (y.text=t)|[]=>false
def nmR(L:List PatchM)(pre:List VidM)(f:VidM):NameM:=match namesM L f with
 | []=>⟨f,tilde++textB f,[],[3]⟩
 | x :: l=>⟨f,if pre.any (firstIs L x.text)=true then x.text++(tilde++textB f) else x.text,alsoM (x :: l) x.text,(if(alsoM (x :: l) x.text).length=0 then [] else [2])++(if pre.any (firstIs L x.text)=true then [4] else [])⟩
def allR(L:List PatchM):List VidM→List VidM→List NameM
 | _,[]=>[]
 | pre,f :: r=>nmR L pre f :: allR L (pre++[f]) r
theorem allR_snoc(L:List PatchM)(f:VidM):∀ r pre:List VidM,allR L pre (r++[f])=allR L pre r++[nmR L (pre++r) f]
 | [],pre=>by simp [allR]
 | g :: r,pre=>by rw [List.cons_append,allR,allR,allR_snoc L f r (pre++[g])];simp
theorem any_count(L:List PatchM)(t:ByteArray)(fs:List VidM):fs.any (firstIs L t)=true↔0<(fs.filter (firstIs L t)).length:=by
 rw [List.any_eq_true,List.length_pos_iff_exists_mem];constructor
 · rintro⟨x,h1,h2⟩;exact⟨x,List.mem_filter.2 ⟨h1,h2⟩⟩
 rintro⟨x,h⟩;exact⟨x,(List.mem_filter.1 h).1,(List.mem_filter.1 h).2⟩
theorem allTo_ref(L:List PatchM):∀ k,k≤(filesM L).length→(allTo L k).1=allR L [] (aliveTo L k)∧∀ t,(allTo L k).2 t=((aliveTo L k).filter (firstIs L t)).length
 | 0,_=>⟨by simp [allTo_zero,aliveTo,allR],fun t=>by simp [allTo_zero,aliveTo]⟩
 | k+1,hk=>by
  obtain⟨h1,h2⟩:=allTo_ref L k (by omega);have hf:=List.getElem?_eq_getElem (l:=filesM L) (i:=k) (by omega);rw [allTo_succ hf];cases hd:deadAt L (filesM L)[k] with
  | true =>unfold stepN;rw [if_pos hd,aliveTo_no hf hd];exact⟨h1,h2⟩
  | false =>
   unfold stepN;rw [if_neg (by simp [hd]),aliveTo_yes hf hd];constructor
   ·
    show(allTo L k).1++_=_;rw [allR_snoc,h1,List.nil_append];congr 2;unfold nmR;cases hn:namesM L (filesM L)[k] with
    | nil=>rfl
    | cons x l =>
     simp only [nameOne];have e:(1<(allTo L k).2 x.text+1)↔(aliveTo L k).any (firstIs L x.text)=true:=by rw [any_count,← h2];omega
     by_cases h:(aliveTo L k).any (firstIs L x.text)=true
     · rw [if_pos (e.2 h),if_pos h,if_pos (e.2 h),if_pos h]
     rw [if_neg (fun q=>h (e.1 q)),if_neg h,if_neg (fun q=>h (e.1 q)),if_neg h]
   intro t;rw [List.filter_append,List.length_append,← h2 t];cases hn:namesM L (filesM L)[k] with
   | nil=>simp [bumpL,firstIs,hn]
   | cons x l =>
    simp only [bumpL];unfold bumpT
    by_cases hx:t=x.text
    · subst hx;simp [firstIs,hn]
    rw [if_neg hx];have:firstIs L t (filesM L)[k]=false:=by simp [firstIs,hn];exact fun e=>hx e.symm
    simp [this]
theorem allM_ref(L:List PatchM):allM L=allR L [] (aliveTo L (filesM L).length):=(allTo_ref L _ (Nat.le_refl _)).1
end Go.Proofs.YtanfebljiblhbaaGreatDoor
