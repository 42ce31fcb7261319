/- What is proved: PlanTwo, for every input; of the listed tables the walk needs the powers of ten. -/
import Derived.Test.YtjccmcgglfncdaaGreatDoorTLay2
import Derived.Lib.AppendIntMem
import Derived.Test.YtjccmcgglfncdaaGreatDoorTEdV
import Derived.Shelf.SortM.SortNone
import Derived.Maps.Keyed
import Derived.Test.YtjccmcgglfncdaaGreatDoorTTreeE
set_option linter.unusedVariables false
set_option linter.unusedSimpArgs false
set_option maxRecDepth 100000
set_option maxHeartbeats 40000000
namespace Go.Proofs.YtjccmcgglfncdaaGreatDoor
open Go Go.RowKit
section
def Tab (w : World) : Prop := Lib.TabIs Tryz.prog w "internal/strconv.uint64pow10" .u64 Lib.pow10Tab
theorem Tab.over{w w':World}(h:Tab w)(hb:Be w w'):Tab w':=Lib.tabBelow_of_tabIs h w' hb
def decB(n:Nat):ByteArray:=⟨(Lib.decDigits n).toArray⟩
theorem dec_len:∀(k u:Nat),u<10 ^ k→(Lib.decDigits u).length≤k+1
 | 0,u,h=>by rw [Lib.decDigits,dif_pos (by simp at h;omega)];simp
 | k+1,u,h=>by
  rw [Lib.decDigits];split
  · simp
  rename_i h10;rw [Nat.pow_succ] at h;have:=dec_len k (u / 10) (by omega);simp;omega
theorem decB_size{u:Nat}(h:u<100000):(decB u).size≤6:=dec_len 5 u (by simpa using h)
theorem itoa_any(n:Nat)(w:World)(hn:n<65536)(ht:Tab w):Calls Tryz.prog 144 #[.int .i64 n] w fun e w'=>e=.returned (.string (decB n))∧Be w w':=by have hcon:=Any.strconv_Itoa (P:=Tryz.prog) Tryz.itoa (n:Int) (by omega) (by omega) w ht;refine hcon.mono ?_;rintro e w' ⟨rfl,k,os,rfl⟩;refine⟨?_,Grew.below ⟨k,os,rfl⟩⟩;rw [Lib.itoa_nonneg];rfl
def pidB(p:PidM):ByteArray:=decB p.author.toNat++⟨#[46]⟩++decB p.seq.toNat
theorem pidB_size(p:PidM):(pidB p).size≤20:=by have h1:=decB_size (u:=p.author.toNat) (by have:=p.author.toNat_lt;omega);have h2:=decB_size (u:=p.seq.toNat) (by have:=p.seq.toNat_lt;omega);unfold pidB;rw [ByteArray.size_append,ByteArray.size_append];have:(⟨#[46]⟩:ByteArray).size=1:=rfl;omega
theorem textB_eq(v:VidM):pidB v.pid++⟨#[46]⟩++decB v.n.toNat=textB v:=by apply ByteArray.ext;apply Array.ext';show _=textL v;simp [textL,pidB,decB]
theorem textB_size(v:VidM):(textB v).size≤40:=by have h1:=pidB_size v.pid;have h2:=decB_size (u:=v.n.toNat) (by have:=v.n.toNat_lt;omega);rw [← textB_eq,ByteArray.size_append,ByteArray.size_append];have:(⟨#[46]⟩:ByteArray).size=1:=rfl;omega
attribute [local irreducible] decB pidB textB
theorem ptext_any(p:PidM)(w:World)(ht:Tab w):Calls Tryz.prog 143 #[pidV p] w fun e w'=>e=.returned (.string (pidB p))∧Be w w':=by
 have HA:=Lh (anw w (cP p) 25);have HB:=Lh (bnew (w:=w) (.cells (cP p) 25));have HT:=Lh (ht.over HB.o);have h1:=p.author.toNat_lt;have h2:=p.seq.toNat_lt;have z1:=decB_size (u:=p.author.toNat) (by omega);have z2:=decB_size (u:=p.seq.toNat) (by omega);have HE:Hid (decB p.author.toNat++⟨#[46]⟩++decB p.seq.toNat=pidB p):=by show _=_;unfold pidB;rfl
 clear ht;unfold pidV;go_enter Tryz.func143,Tryz.ntmps143;go_upto_region 1 with fail;generalize w.alloc (.cells (cP p) 25)=w0 at *;obtain⟨c0,c1,sc⟩:=HA.o.c2;have HC1:Hid (∀ w',Be w0 w'→Calls Tryz.prog 144 #[.int .i64 p.author.toNat] w' fun e w''=>e=.returned (.string (decB p.author.toNat))∧Below w'.heap.size w' w''):=fun w' hb=>itoa_any _ w' (by omega) (HT.o.over hb);have HC2:Hid (∀ w',Be w0 w'→Calls Tryz.prog 144 #[.int .i64 p.seq.toNat] w' fun e w''=>e=.returned (.string (decB p.seq.toNat))∧Below w'.heap.size w' w''):=fun w' hb=>itoa_any _ w' (by omega) (HT.o.over hb);generalize decB p.author.toNat=A at *;generalize decB p.seq.toNat=B at *;refine wlo 11 fun hcur=>?_;repeat(first|refine lxq ?_|(refine lxl rfl ?_;go_wp2_with (first|(go_at_call 144;(with_reducible refine(HC1.o _ hcur).mono ?_);rintro e w' ⟨rfl,hb⟩;have hcur:=bvo hcur hb)|(go_at_call 144;(with_reducible refine(HC2.o _ hcur).mono ?_);rintro e w' ⟨rfl,hb⟩;have hcur:=bvo hcur hb));refine⟨iov hcur,?_⟩))
 refine lxe ?_;go_wp2;go_ret;exact⟨rvl (congrArg Value.string HE.o),bvo HB.o hcur⟩
theorem vtext_any(v:VidM)(w:World)(ht:Tab w):Calls Tryz.prog 80 #[vidV v] w fun e w'=>e=.returned (.string (textB v))∧Be w w':=by
 have HA:=Lh (anw w (cV v) 74);have HB:=Lh (bnew (w:=w) (.cells (cV v) 74));have HT:=Lh (ht.over HB.o);have h1:=v.n.toNat_lt;have z1:=pidB_size v.pid;have z2:=decB_size (u:=v.n.toNat) (by omega);have HE:=Lh (textB_eq v);clear ht;unfold vidV;go_enter Tryz.func80,Tryz.ntmps80;go_upto_region 1 with fail;generalize w.alloc (.cells (cV v) 74)=w0 at *;obtain⟨c0,c1,c2,sc⟩:=HA.o.c3;have HC1:Hid (∀ w',Be w0 w'→Calls Tryz.prog 143 #[.agg (cP v.pid)] w' fun e w''=>e=.returned (.string (pidB v.pid))∧Below w'.heap.size w' w''):=fun w' hb=>ptext_any v.pid w' (HT.o.over hb);have HC2:Hid (∀ w',Be w0 w'→Calls Tryz.prog 144 #[.int .i64 v.n.toNat] w' fun e w''=>e=.returned (.string (decB v.n.toNat))∧Below w'.heap.size w' w''):=fun w' hb=>itoa_any _ w' (by omega) (HT.o.over hb);generalize pidB v.pid=A at *;generalize decB v.n.toNat=B at *;refine wlo 10 fun hcur=>?_;repeat(first|refine lxq ?_|(refine lxl rfl ?_;go_wp2_with (first|(go_at_call 143;(with_reducible refine(HC1.o _ hcur).mono ?_);rintro e w' ⟨rfl,hb⟩;have hcur:=bvo hcur hb)|(go_at_call 144;(with_reducible refine(HC2.o _ hcur).mono ?_);rintro e w' ⟨rfl,hb⟩;have hcur:=bvo hcur hb));refine⟨iov hcur,?_⟩))
 refine lxe ?_;go_wp2;go_ret;exact⟨rvl (congrArg Value.string HE.o),bvo HB.o hcur⟩
end
section
variable{t:ByteArray}{xs:List (List UInt8)}{B cap g:Nat}{w:World}
def encT(t:List UInt8):List Value:=[encStr t]
theorem slStrN:SlT Tryz.prog 69 9 1 16:=slT_of Tryz.underlying69 (by kernel_rfl) (by decide)
theorem encT_map(l:List (List UInt8)):l.flatMap encT=l.map encStr:=by
 induction l with
 | nil=>rfl
 | cons x l ih=>rw [List.flatMap_cons,ih];rfl
theorem putCells_enc{α:Type}[Inhabited α](enc:α→Value)(d:Array α)(c:Array Value):Go.Sort.putCells enc 0 d c=Go.Sort.putCells id 0 (d.map enc) c:=by
 apply Array.ext_getElem?;intro t;simp only [Go.Sort.putCells,Array.getElem?_mapIdx,Array.size_map,Nat.sub_zero,id]
 by_cases h:t<d.size
 · rw [getElem!_pos d t h,getElem!_pos (d.map enc) t (by simpa using h)];simp
 simp [h]
theorem OwnAt.holdsT{e:TypeId}(h:OwnAt w B e 1 g xs.length cap (xs.flatMap encT)):Go.Sort.Holds encStr w g 0 xs.toArray:=by
 intro j hj;rw [Nat.zero_add];refine⟨?_,h.free j⟩;refine h.cell ?_;have hj':j<xs.length:=by simpa using hj
 rw [encT_map,List.getElem?_map,List.getElem?_eq_getElem hj',getElem!_pos xs.toArray j hj];simp
theorem OwnAt.putT{e:TypeId}{ys:List (List UInt8)}(h:OwnAt w B e 1 g xs.length cap (xs.flatMap encT))(hl:ys.length=xs.length)(n:Nat)(os:Array Obj) :
  OwnAt (Go.Sort.grow (Go.Sort.putRow encStr (Go.Sort.ahead w n) g 0 ys.toArray) os) B e 1 g xs.length cap (ys.flatMap encT)∧w.grownBy (Go.Sort.grow (Go.Sort.putRow encStr (Go.Sort.ahead w n) g 0 ys.toArray) os) (some g):=by
 have hlt:=h.lt;obtain⟨junk,h1,h2⟩:=h.at';have hl2:(xs.flatMap encT).length=(ys.flatMap encT).length:=by rw [encT_map,encT_map];simp [hl]
 have hheap:(Go.Sort.putRow encStr (Go.Sort.ahead w n) g 0 ys.toArray).heap[g]? = some (.cells (ys.flatMap encT++junk).toArray e (0,0)):=by unfold Go.Sort.putRow Go.Sort.mapBlock;simp only [Array.getElem?_modify,if_pos];have:(Go.Sort.ahead w n).heap=w.heap:=rfl;rw [this,h1];simp only [Option.map_some,Go.Sort.onCells];rw [putCells_enc,List.map_toArray,← encT_map,putCells_row _ _ _ hl2]
 refine⟨⟨⟨junk,?_,?_⟩,by rw [← hl2];exact h.len,h.base,h.nc,h.cm⟩,?_⟩
 · rw [Go.Sort.heap_grow_old _ _ (by simp [Go.Sort.putRow,Go.Sort.mapBlock];exact hlt)];exact hheap
 · rw [List.length_append,← hl2,← List.length_append];exact h2
 refine⟨rfl,rfl,rfl,by simp [Go.Sort.putRow,Go.Sort.mapBlock,Go.Sort.ahead],fun i hi hne => ?_⟩;rw [Go.Sort.heap_grow_old _ _ (by simp [Go.Sort.putRow,Go.Sort.mapBlock];exact hi)];unfold Go.Sort.putRow Go.Sort.mapBlock;simp only [Array.getElem?_modify];rw [if_neg (fun e=>hne (by rw [e]))];rfl
def sortT(xs:List (List UInt8)):List (List UInt8):=xs.mergeSort fun x y=>decide (x≤y)
theorem sortT_len(xs:List (List UInt8)):(sortT xs).length=xs.length:=List.length_mergeSort _
theorem compact_len(xs:List (List UInt8)):(Lib.compact xs).length≤xs.length:=by unfold Lib.compact Lib.compactUpTo;rw [List.length_map];refine Nat.le_trans (List.length_filter_le _ _) ?_;simp
def SortTRes(w:World)(B g cap:Nat)(xs:List (List UInt8))(r:Ending)(w':World):Prop:=r=.returned (.tuple #[])∧OwnAt w' B 9 1 g xs.length cap ((sortT xs).flatMap encT)∧w.grownBy w' (some g)
theorem sortStr_any(h:OwnAt w B 9 1 g xs.length cap (xs.flatMap encT))(hn:xs.length≤1000000000) :
  Calls Tryz.prog 145 #[.slice (some ⟨g,0,none⟩) xs.length cap] w (SortTRes w B g cap xs):=by have hcon:=AnyM.slices_Sort_string (P:=Tryz.prog) Tryz.sortStr g 0 cap xs w h.holdsT h.lt (by omega);refine hcon.mono ?_;rintro e w' ⟨rfl,n,os,rfl⟩;obtain⟨h1,h2⟩:=h.putT (sortT_len xs) n os;exact⟨rfl,h1,h2⟩
theorem sortStr_none(p:Option Addr)(cap:Nat)(w:World) :
  Calls Tryz.prog 145 #[.slice p 0 cap] w fun e w'=>e=.returned (.tuple #[])∧w'=w:=AnyM.slices_Sort_string_none (P:=Tryz.prog) Tryz.sortStr p cap w
def CompTRes(w:World)(B g:Nat)(xs:List (List UInt8))(e:Ending)(w':World):Prop:=∃ v,e=.returned v∧GOwn encT 1 9 w' B v (Lib.compact xs)∧w.grownBy w' (some g)
theorem compStr_any(h:OwnAt w B 9 1 g xs.length cap (xs.flatMap encT))(hn:xs.length≤1000000000) :
  Calls Tryz.prog 146 #[.slice (some ⟨g,0,none⟩) xs.length cap] w (CompTRes w B g xs):=by have hcon:=AnyG.slices_Compact_string (P:=Tryz.prog) Tryz.compStr g 0 cap xs w h.holdsT (by omega) h.nc;have hcl:=compact_len xs;refine hcon.mono ?_;rintro e w' ⟨rfl,q,rfl⟩;obtain⟨h1,h2⟩:=h.putT (ys:=Lib.compact xs++List.replicate (xs.length - (Lib.compact xs).length) []) (by rw [List.length_append,List.length_replicate];omega) q #[];rw [Go.Sort.grow_empty] at h1 h2;refine⟨_,rfl,?_,h2⟩;have h3:=h1.take hcl;rw [List.flatMap_append,encT_map (Lib.compact xs),List.take_append_of_le_length (by simp),List.take_of_length_le (by simp),← encT_map] at h3;exact h3.own
theorem compStr_none(p:Option Addr)(cap:Nat)(w:World) :
  Calls Tryz.prog 146 #[.slice p 0 cap] w fun e w'=>e=.returned (.slice p 0 cap)∧w'=w:=AnyG.slices_Compact_string_empty (P:=Tryz.prog) Tryz.compStr p cap w
theorem others_yes{xs:List VertM}{k:Nat}{u:VertM}(h:xs[k]? = some u)(hd:¬ u.text=t):othersM (xs.take (k+1)) t=othersM (xs.take k) t++[u.text.data.toList]:=by unfold othersM;rw [take_succ' h,List.filter_append];simp [hd]
theorem others_no{xs:List VertM}{k:Nat}{u:VertM}(h:xs[k]? = some u)(hd:u.text=t):othersM (xs.take (k+1)) t=othersM (xs.take k) t:=by unfold othersM;rw [take_succ' h,List.filter_append];simp [hd]
theorem others_len(xs:List VertM)(k:Nat)(t:ByteArray):(othersM (xs.take k) t).length≤xs.length:=by unfold othersM;rw [List.length_map];exact Nat.le_trans (List.length_filter_le _ _) (by rw [List.length_take];omega)
theorem alsoM_q(xs:List VertM)(t:ByteArray):Lib.compact (sortT (othersM xs t))=alsoM xs t:=rfl
theorem encT_text(s:ByteArray):encT s.data.toList=[.string s]:=rfl
def AlRel(w1:World)(xs:List VertM)(t:ByteArray)(v3 v8:Value)(wr:World):Prop:=∃ k:Nat,k≤xs.length∧v8=.int .i64 k∧Hid (GOwn encT 1 9 wr w1.heap.size v3 (othersM (xs.take k) t))∧Be w1 wr
theorem others_nil{xs:List VertM}(h:othersM xs t=[]):alsoM xs t=[]:=by rw [← alsoM_q,h];simp [sortT,Lib.compact,Lib.compactUpTo]
attribute [local irreducible] othersM alsoM sortT
theorem nalso_any(v:Value)(xs:List VertM)(x0:VertM)(w:World)(hv:GRow encVert 9 w v xs)(h0:xs[0]? = some x0)(hn:xs.length≤1000000) :
  Calls Tryz.prog 81 #[v] w (OwnRes encT 1 9 w (alsoM xs x0.text)):=by
 obtain⟨a,cap,rfl,h1,h2,hc⟩:=hv.at encVert_len;unfold maxLen at h2;have hpos:0<xs.length:=by rcases xs with _|⟨_,_⟩ <;> simp at h0 ⊢
 obtain⟨b,off,rfl,sb,hcb⟩:=hc.resolve_left (by omega);have HC:=Lh hcb;have H0:=Lh h0;have HQ:=Lh (alsoM_q xs x0.text);clear hv hc hcb h0;go_enter Tryz.func81,Tryz.ntmps81;go_wp2;go_loopw [3,8] (fun v3 v8 wr=>AlRel w xs x0.text v3 v8 wr) (fun _ v8 _=>xs.length - (intOf v8).toNat)
 case atStart=>exact⟨0,Nat.zero_le _,rfl,(by show GOwn _ _ _ _ _ _ _;unfold othersM;exact gown_nil _ _),Below.refl _ _⟩
 obtain⟨k,hk,rfl,HM,hbl⟩:=hrel;rename World=>wr;have hol:=others_len xs k x0.text
 by_cases hlt:k<xs.length
 ·
  obtain⟨u,hu⟩:=gol hlt;have HU:=Lh (HC.o k u hu wr hbl);have HX:=Lh hu;obtain⟨u0,u1,u2,u3,u4,u5,u6,u7,u8,su⟩:=rc9 HU.o;clear hu;go_upto_region 5 with fail;have HA7:=Lh (anw wr (cX u) 101);have HB7:=Lh (bnew (w:=wr) (.cells (cX u) 101));generalize wr.alloc (.cells (cX u) 101)=w7 at *;clear u0 u1 u2 u3 u4 u5 u6 u7 u8 su;have hs7:=HB7.o.size;have hsl:=hbl.size;have hb7:=bvo hbl HB7.o;have HZ:=Lh (HC.o 0 x0 H0.o w7 hb7);have q0:w7.cell? ⟨b,off+3+4,none⟩=some (.string x0.text):=by have:=HZ.o.2 7 _ rfl;simpa [Nat.add_assoc] using this
  have q1:w7.cell? ⟨b,off+7,none⟩=some (.string x0.text):=by have:=HZ.o.2 7 _ rfl;simpa [Nat.add_assoc] using this
  have sq:=HZ.o.1;obtain⟨y0,y1,y2,y3,y4,y5,y6,y7,y8,sy⟩:=HA7.o.c9
  by_cases ht:u.text=x0.text
  ·
   have e1:=seq_t ht;have HN:=Lh (others_no HX.o ht);have HMr:=Lh (HM.o.over HB7.o);clear ht;refine wlo 7 fun hcur=>?_;(repeat refine lxq ?_);refine lxe ?_;go_wp2;go_roundw
   case rel=>exact⟨k+1,hlt,by go_num,(by show GOwn _ _ _ _ _ _ _;rw [HN.o];exact HMr.o.over hcur),bvo hb7 hcur⟩
   simp [intOf];omega
  have e1:=seq_f ht;have HN:=Lh (others_yes HX.o ht);clear ht;refine wlo 7 fun hcur=>?_;repeat refine lxq ?_
  refine lxe ?_;have HM8:=Lh ((HM.o.over HB7.o).over hcur);have hb8:=bvo hb7 hcur;have hB8:w.heap.size≤w7.drew.heap.size:=hb8.size;have hN8:(othersM (xs.take k) x0.text).length+1≤1099511627776:=by omega
  have HA8:=Lh (HA7.o.over hcur);clear y0 y1 y2 y3 y4 y5 y6 y7 y8 sy q0 q1 sq hcur;obtain⟨z0,z1,z2,z3,z4,z5,z6,z7,z8,sz⟩:=HA8.o.c9;go_wp2_with (at_builtin;refine apD slStrN rfl _ _ rfl w.heap.size _ _ (dad _ _ _) 1 _ _ _ HM8.o rfl rfl rfl rfl hN8 (by decide) hB8 ?_;intro v9 w9 ho9 hg9);go_roundw
  case rel=>exact⟨k+1,hlt,by go_num,(by show GOwn _ _ _ _ _ _ _;rw [HN.o];exact GOwn.snoc (by rw [encT_text];exact ho9)),bgr hb7 hb7.size (HM.o.over HB7.o) hg9⟩
  simp [intOf];omega
 obtain rfl:k=xs.length:=by omega
 have HO:=HM.o;rw [List.take_length] at HO hol;have HO2:=Lh HO;have HB2:=Lh hbl;clear HM;rcases own_cases HO with⟨hz,p,c,rfl⟩|⟨hne,g,cap2,rfl,hA⟩
 ·
  have HE:=Lh (others_nil hz);have HO3:Hid (GOwn encT 1 9 wr w.heap.size (.slice p 0 c) []):=by show GOwn _ _ _ _ _ _ _;rw [← hz];exact HO2.o
  clear HO hz;go_wp2_with fail;refine(sortStr_none _ _ _).mono ?_;rintro e w2 ⟨rfl,hw2⟩;obtain rfl:=hw2.symm;go_wp2_with fail;refine(compStr_none _ _ _).mono ?_;rintro e w3 ⟨rfl,hw3⟩;obtain rfl:=hw3.symm;go_wp2;go_ret;exact⟨_,rfl,(by rw [HE.o];exact HO3.o),HB2.o⟩
 have HAt:=Lh hA;clear HO hA;go_wp2_with fail;refine(sortStr_any HAt.o (by omega)).mono ?_;rintro e w2 ⟨rfl,hA2,hg2⟩;have hsl:=sortT_len (othersM xs x0.text);rw [← hsl] at hA2;have HA2:=Lh hA2;have HG2:=Lh hg2;have HS:=Lh hsl;clear hA2 hg2 hsl;go_wp2_with fail;rw [← HS.o];refine(compStr_any HA2.o (by have:=HS.o;omega)).mono ?_;rintro e w3 ⟨v3,rfl,ho3,hg3⟩;rw [HQ.o] at ho3;have HO3:=Lh ho3;have HG3:=Lh hg3;clear ho3 hg3;go_wp2;go_ret;exact⟨_,rfl,HO3.o,HB2.o.grown (gtr HG2.o HG3.o) HB2.o.size fun k hk=>by cases hk;exact HAt.o.base⟩
end
variable{ns:List NameM}{B sz:Nat}{α:Type}{e:TypeId}{v:Value}{w w':World}
structure LaidN where
 n:NameM
 pa:Option Addr
 ca:Nat
 pf:Option Addr
 cf:Nat
def encU8(c:UInt8):List Value:=[.int .u8 c.toNat]
def encN(x:LaidN):List Value:=[.int .u8 x.n.file.pid.author.toNat,.int .u16 x.n.file.pid.seq.toNat,.int .u8 x.n.file.n.toNat,.string x.n.name,.slice x.pa x.n.also.length x.ca,.slice x.pf x.n.flaws.length x.cf]
theorem encN_len(x:LaidN):(encN x).length=6:=rfl
theorem slName:SlT Tryz.prog 82 86 6 72:=slT_of Tryz.underlying82 (by kernel_rfl) (by decide)
theorem slByte:SlT Tryz.prog 84 5 1 1:=slT_of Tryz.underlying84 (by kernel_rfl) (by decide)
theorem own_sl{enc:α→List Value}{xs:List α}(h:GOwn enc sz e w B v xs):∃ p c,v=.slice p xs.length c:=by
 rcases h.2 with⟨rfl,h0⟩|⟨g,cap,cur,rfl,_⟩
 · exact⟨none,0,by rw [h0]⟩
 exact⟨_,_,rfl⟩
theorem own_apart{β:Type}{enc:α→List Value}{enc':β→List Value}{sz':Nat}{e':TypeId}{B':Nat}{v':Value}{xs:List α}{ys:List β}(h:GOwn enc sz e w B v xs)(h':GOwn enc' sz' e' w B' v' ys)(hne:e≠e'):v.ownBlock=none∨v.ownBlock≠v'.ownBlock:=by
 rcases h.2 with⟨rfl,_⟩|⟨g,cap,cur,rfl,_,hg,_⟩
 · exact .inl rfl
 refine .inr fun q => ?_;rcases h'.2 with⟨rfl,_⟩|⟨g',cap',cur',rfl,_,hg',_⟩
 · simp [Value.ownBlock] at q
 simp only [Value.ownBlock,Option.some.injEq] at q;subst q;rw [hg] at hg';simp only [Option.some.injEq,Obj.cells.injEq] at hg';exact hne hg'.2.1
theorem own_lit{enc:α→List Value}(w:World)(e:TypeId)(xs:List α)(B:Nat)(hl:(xs.flatMap enc).length=xs.length*sz)(hm:xs.length≤maxLen)(hB:B≤w.heap.size):GOwn enc sz e (w.alloc (.cells (xs.flatMap enc).toArray e)) B (.slice (some ⟨w.heap.size,0,none⟩) xs.length xs.length) xs:=
 ⟨hl,.inr ⟨w.heap.size,xs.length,(xs.flatMap enc).toArray,rfl,hB,by rw [heap_alloc_new],Nat.le_refl _,hm,by simp [hl],by rw [← hl];exact List.take_length⟩⟩
def NameAt(w:World)(B:Nat)(x:LaidN):Prop:=GOwn encT 1 9 w B (.slice x.pa x.n.also.length x.ca) x.n.also∧GOwn encU8 1 5 w B (.slice x.pf x.n.flaws.length x.cf) x.n.flaws
def Names(w:World)(B:Nat)(v:Value)(ns:List NameM):Prop:=∃ xs:List LaidN,xs.map (·.n)=ns∧GOwn encN 6 86 w B v xs∧∀ x∈xs,NameAt w B x
theorem gown_keep{enc:α→List Value}{xs:List α}{row:Option Nat}(h:GOwn enc sz e w B v xs)(hg:w.grownBy w' row)(hr:∀ k,row=some k→k<B):GOwn enc sz e w' B v xs:=
 own_grown h hg (by
  cases hv:v.ownBlock with
  | none=>exact .inl rfl
  | some k=>exact .inr fun q=>by have:=gown_base h hv;have:=hr k q.symm;omega)
theorem Names.keep{row:Option Nat}(h:Names w B v ns)(hg:w.grownBy w' row)(hr:∀ k,row=some k→k<B):Names w' B v ns:=by obtain⟨xs,h1,h2,h3⟩:=h;exact⟨xs,h1,gown_keep h2 hg hr,fun x hx=>⟨gown_keep (h3 x hx).1 hg hr,gown_keep (h3 x hx).2 hg hr⟩⟩
theorem Names.over(h:Names w B v ns)(hb:Be w w'):Names w' B v ns:=h.keep (below_none hb) (fun k hk=>by cases hk)
theorem Names.base{B':Nat}(h:Names w B v ns)(hB:B'≤B):Names w B' v ns:=by obtain⟨xs,h1,h2,h3⟩:=h;exact⟨xs,h1,h2.base hB,fun x hx=>⟨(h3 x hx).1.base hB,(h3 x hx).2.base hB⟩⟩
theorem names_nil(w:World)(B:Nat):Names w B (.slice none 0 0) []:=⟨[],rfl,gown_nil _ _,fun x hx=>absurd hx (List.not_mem_nil)⟩
theorem names_snoc{v':Value}{xs:List LaidN}(h1:xs.map (·.n)=ns)(hO:GOwn encN 6 86 w B v xs)(hN:∀ x∈xs,NameAt w B x){y:LaidN}(hy:NameAt w B y)(hg:w.grownBy w' v.ownBlock)
  (ho:w'.ownsRow B 86 6 v' (xs.length+1) (xs.flatMap encN++encN y)):Names w' B v' (ns++[y.n]):=by
 have hk:∀ x,NameAt w B x→NameAt w' B x:=fun x ⟨a,b⟩=>⟨own_grown a hg (own_apart a hO (by decide)),own_grown b hg (own_apart b hO (by decide))⟩;refine⟨xs++[y],by rw [List.map_append,h1];rfl,GOwn.snoc ho,fun x hx => ?_⟩;rcases List.mem_append.1 hx with hx|hx
 · exact hk x (hN x hx)
 rw [List.mem_singleton.1 hx];exact hk y hy
def okStr(s:ByteArray):Prop:=s.size≤maxLen
abbrev strV(s:ByteArray):Value:=.string s
abbrev intV(n:Int):Value:=.int .i64 n
theorem keysStr:KeyEnc Tryz.prog 9 strV okStr:=⟨Maps.string_keyed Tryz.underlying9,fun s hs=>by refine⟨.string s.data.toList,?_⟩;unfold keyOf;rw [Tryz.underlying9];unfold mapKey;rw [Tryz.underlying9];show(if s.size≤maxLen then _ else _)=_;rw [if_pos (show s.size≤maxLen from hs)],fun x y h=>by cases h;rfl⟩
theorem allTo_len(L:List PatchM):∀ k,k≤(filesM L).length→(allTo L k).1.length≤k∧∀ t,(allTo L k).2 t≤k
 | 0,_=>⟨by simp [allTo_zero],fun t=>by simp [allTo_zero]⟩
 | k+1,hk=>by
  obtain⟨h1,h2⟩:=allTo_len L k (by omega);have hf:=List.getElem?_eq_getElem (l:=filesM L) (i:=k) (by omega);rw [allTo_succ hf];unfold stepN;split
  · exact⟨by omega,fun t=>by have:=h2 t;omega⟩
  refine⟨by rw [List.length_append];simp;omega,fun t => ?_⟩;cases namesM L (filesM L)[k] with
  | nil=>have:=h2 t;simp only [bumpL];omega
  | cons x l =>
   simp only [bumpL];unfold bumpT;split
   · have:=h2 x.text;omega
   have:=h2 t;omega
theorem filesM_len(L:List PatchM):(filesM L).length≤(idsM L).length:=by unfold filesM;rw [List.length_map];exact Nat.le_trans (List.length_filter_le _ _) (by unfold vertsM;rw [List.length_map];exact Nat.le_refl _)
def AllIn(L:List PatchM)(w:World)(bm:Nat)(v13 v3 v15:Value)(wr:World):Prop:=
 ∃(k n:Nat) (f:ByteArray→Option Int),k≤(filesM L).length∧n≤k∧v15=.int .i64 k∧Hid (Names wr (bm+1) v3 (allTo L k).1)∧Hid (TMap Tryz.prog 9 strV okStr intV wr bm n f)∧Hid (∀ t,(f t).getD 0=(((allTo L k).2 t:Nat):Int)) ∧
  Hid (GOwn encVid 3 74 wr (bm+1) v13 (filesM L))∧Hid (Be w wr)∧bm+1≤wr.heap.size
def AllRes(w:World)(ns:List NameM)(e:Ending)(w':World):Prop:=∃ v,e=.returned v∧Names w' w.heap.size v ns∧Be w w'
theorem step_dead{L:List PatchM}{s:StN}{f:VidM}{y:VertM}(h1:(vertM L f).getD noVert=y)(h2:y.dead=true):stepN L s f=s:=by unfold stepN deadAt;rw [h1,if_pos h2]
theorem step_live{L:List PatchM}{s:StN}{f:VidM}{y:VertM}(h1:(vertM L f).getD noVert=y)(h2:y.dead=false):stepN L s f=(s.1++[nameOne L s.2 f (namesM L f)],bumpL s.2 (namesM L f)):=by unfold stepN deadAt;rw [h1,if_neg (by simp [h2])]
theorem cnt_bump{f:ByteArray→Option Int}{c:ByteArray→Nat}(h:∀ t,(f t).getD 0=((c t:Nat):Int))(s:ByteArray)(t:ByteArray):(updM f s ((c s:Int)+1) t).getD 0=((bumpT c s t:Nat):Int):=by
 unfold updM bumpT
 by_cases hs:t=s
 · rw [if_pos hs,if_pos hs];simp
 rw [if_neg hs,if_neg hs];exact h t
end Go.Proofs.YtjccmcgglfncdaaGreatDoor
set_option maxRecDepth 100000
set_option maxHeartbeats 40000000
namespace Go.Proofs.YtjccmcgglfncdaaGreatDoor
open Go Go.RowKit
structure WkSt (w:World) (N gw b:Nat) (id:PidM) (v:Value) (out:List OpM):Prop where
 box:ArrT w gw 81 [.pointer (some ⟨b,0,none⟩),.int .u8 id.author.toNat,.int .u16 id.seq.toNat,v]
 own:GOwn encOp 8 76 w N v out
 size:N≤w.heap.size
 low:gw<N
section
variable {w w' w1 : World} {N gw b : Nat} {id : PidM} {v v1 : Value} {out o1 : List OpM}
theorem WkSt.over(h:WkSt w N gw b id v out)(hb:Be w w'):WkSt w' N gw b id v out:=⟨h.box.over hb,h.own.over hb,Nat.le_trans h.size hb.size,h.low⟩
theorem WkSt.push(h:WkSt w N gw b id v out)(hg:w.grownBy w1 v.ownBlock)(ho:GOwn encOp 8 76 w1 N v1 o1):WkSt (w1.setCell ⟨gw,3,none⟩ v1) N gw b id v1 o1:=
 ⟨(h.box.grown h.own (by decide) hg).set 3 v1,own_grown ho (gsc (g:=gw) w1 3 v1) (.inr fun q=>by have:=gown_low ho q;have:=h.low;omega),by have:=h.size;have:=hg.size;simp;omega,h.low⟩
theorem WkSt.fr(h:WkSt w N gw b id v out)(hg:w.grownBy w1 v.ownBlock):Fr 76 N gw w (w1.setCell ⟨gw,3,none⟩ v1):=(Fr.of_row h.own hg).trans (Fr.of_box (gsc (g:=gw) w1 3 v1))
end
def WkRes(N gw b:Nat)(id:PidM)(out:List OpM)(w:World)(e:Ending)(w':World):Prop:=e=.returned (.tuple #[])∧∃ v',WkSt w' N gw b id v' out∧Fr 76 N gw w w'
theorem pkill_any(N gw b:Nat)(id:PidM)(x:VidM)(v:Value)(out:List OpM)(w:World)(h:WkSt w N gw b id v out)(hl:out.length≤1000000000) :
  Calls Tryz.prog 82 #[.pointer (some ⟨gw,0,none⟩),vidV x] w (WkRes N gw b id (out++[killOp x]) w):=by
 have HX:=Lh (anw w (cV x) 74);have HXt:=Lh (arrT_new w [.int .u8 x.pid.author.toNat,.int .u16 x.pid.seq.toNat,.int .u8 x.n.toNat] 74);have HE:=Lh (bnew (w:=w) (.cells (cV x) 74));have H1:=Lh (h.over HE.o);clear h;unfold vidV;go_enter Tryz.func82,Tryz.ntmps82;go_upto_region 1 with fail;generalize w.alloc (.cells (cV x) 74)=w0 at *;obtain⟨row,hrow⟩:∃ row,row=v.ownBlock:=⟨_,rfl⟩;have n1:¬ some gw=row:=by rw [hrow];exact H1.o.box.ne H1.o.own (by decide)
 have n2:¬ some w.heap.size=row:=fun e=>by rw [hrow] at e;exact(HXt.o.ne H1.o.own (by decide)) e
 have HROW:=Lh hrow;have HOw:=Lh H1.o.own;have hN:out.length+1≤1099511627776:=by omega
 have hB:=H1.o.size;have g3:=H1.o.box.arr.k 3 rfl;have sg:=H1.o.box.arr.lt;clear hrow;obtain⟨x0,x1,x2,sx⟩:=HX.o.c3;have hcur:World.grownBy w0 w0.drew row:=⟨rfl,rfl,rfl,Nat.le_refl _,fun _ _ _=>rfl⟩;refine wlex (C:=IsKept w0 row) 11 [] (by kernel_rfl) (by kernel_rfl) (isKept_of hcur) ?_;simp only [Tsc,Tz,Dsc,Dz];repeat(first|refine lxq ?_|(refine lxl rfl ?_;go_wp2_with (first|((at_builtin;refine apD slOp rfl _ _ rfl N _ _ (dad _ _ _) 1 _ _ _ HOw.o rfl rfl rfl rfl hN (by decide) hB ?_;intro v9 w9 ho9 hg9);(replace hcur:World.grownBy w0 w9 row:=by rw [HROW.o];exact hg9);(obtain⟨p9,c9,e9⟩:=own_sl (GOwn.snoc (enc:=encOp) (x:=killOp x) ho9));have HO9:Hid (GOwn encOp 8 76 w9 N (.slice p9 (out.length+1) c9) (out++[killOp x])):=Lh (by(have h8:=GOwn.snoc (enc:=encOp) (x:=killOp x) ho9;rw [e9,List.length_append] at h8;exact h8));(rw [List.length_append] at e9;subst e9);have HG9:=Lh hg9;clear ho9 hg9));refine⟨isKept_of (by first|exact hcur|exact only_alloc hcur _|exact gtr hcur (gsc _ _ _)|exact gtr (gtr hcur (gsc _ _ _)) (gsc _ _ _)),?_⟩))
 refine lxe ?_;have HB9:=Lh (H1.o.box.grown H1.o.own (by decide) HG9.o).arr;clear g3 sg x0 x1 x2 sx hcur;have q3:=HB9.o.free 3;have q0:=HB9.o.k 3 rfl;have sq:=HB9.o.lt;go_wp2;go_end0;exact⟨rfl,_,H1.o.push HG9.o HO9.o,(Fr.of_below HE.o).trans (H1.o.fr HG9.o)⟩
def klTo(nm:ByteArray)(xs:List VertM)(k:Nat):List OpM:=((xs.take k).filter fun v=>decide (v.text≠nm)).map fun v=>killOp v.id
theorem klTo_yes{nm:ByteArray}{xs:List VertM}{k:Nat}{x:VertM}(h:xs[k]? = some x)(hx:¬ x.text=nm):klTo nm xs (k+1)=klTo nm xs k++[killOp x.id]:=by unfold klTo;rw [take_one h,List.filter_append,List.map_append];simp [hx]
theorem klTo_no{nm:ByteArray}{xs:List VertM}{k:Nat}{x:VertM}(h:xs[k]? = some x)(hx:x.text=nm):klTo nm xs (k+1)=klTo nm xs k:=by unfold klTo;rw [take_one h,List.filter_append,List.map_append];simp [hx]
theorem klTo_len(nm:ByteArray)(xs:List VertM)(k:Nat):(klTo nm xs k).length≤xs.length:=by unfold klTo;rw [List.length_map];exact Nat.le_trans (List.length_filter_le _ _) (by rw [List.length_take];omega)
def PnRel(N gw b:Nat)(id:PidM)(out:List OpM)(nm:ByteArray)(xs:List VertM)(wA:World)(v25:Value)(wr:World):Prop:=∃(k:Nat) (v':Value),k≤xs.length∧v25=.int .i64 k∧Hid (WkSt wr N gw b id v' (out++klTo nm xs k))∧Hid (Fr 76 N gw wA wr)
attribute [local irreducible] klTo namesM idsM killsN
theorem pnames_any(N gw b:Nat)(id:PidM)(L:List PatchM)(t:List FileM)(tv:Value)(y:LaidN)(v:Value)(out:List OpM)(wG w:World)(hG:GrIs wG b L)(hL:WfG L)(hil:(idsM L).length≤65536)(ht:FRow wG tv t)(hM:wG.heap.size≤gw)
  (hb:Be wG w) (h:WkSt w N gw b id v out) (ho:out.length≤3900000) :
  Calls Tryz.prog 36 #[.pointer (some ⟨gw,0,none⟩),.agg #[.int .u8 y.n.file.pid.author.toNat,.int .u16 y.n.file.pid.seq.toNat,.int .u8 y.n.file.n.toNat,.string y.n.name,.slice y.pa y.n.also.length y.ca,.slice y.pf y.n.flaws.length y.cf],tv] w (WkRes N gw b id (out++killsN L t y.n) w):=by
 have HX:=Lh (arrT_new w [.int .u8 y.n.file.pid.author.toNat,.int .u16 y.n.file.pid.seq.toNat,.int .u8 y.n.file.n.toNat,.string y.n.name,.slice y.pa y.n.also.length y.ca,.slice y.pf y.n.flaws.length y.cf] 86);have HE:=Lh (bnew (w:=w) (.cells #[.int .u8 y.n.file.pid.author.toNat,.int .u16 y.n.file.pid.seq.toNat,.int .u8 y.n.file.n.toNat,.string y.n.name,.slice y.pa y.n.also.length y.ca,.slice y.pf y.n.flaws.length y.cf] 86));have H1:=Lh (h.over HE.o);have hNw:=h.size;have hgN:=h.low;have HBg:=Lh (bvo hb HE.o);have HFi:=Lh (find_any tv t y.n.name _ (ht.over HBg.o));have HOf:Hid (∀ W,Be wG W→Calls Tryz.prog 79 #[.pointer (some ⟨b,0,none⟩),.agg (cV y.n.file)] W (OwnRes encVert 9 101 W (namesM L y.n.file))):=Lh fun W hW=>nof_any b L y.n.file W (hG.over hW) hL (by omega);have hnl:=namesM_few (L:=L) (f:=y.n.file) hil;have hkn:killsN L t y.n=if findT t y.n.name<0 then [killOp y.n.file] else klTo y.n.name (namesM L y.n.file) (namesM L y.n.file).length:=by unfold killsN klTo;rw [List.take_length]
 have HK:=Lh hkn;have hgw:gw≠w.heap.size:=by omega
 clear h hb hG hL ht hkn hil;generalize namesM L y.n.file=xs at *;go_enter Tryz.func36,Tryz.ntmps36;go_upto_region 1 with fail;generalize w.alloc (.cells #[.int .u8 y.n.file.pid.author.toNat,.int .u16 y.n.file.pid.seq.toNat,.int .u8 y.n.file.n.toNat,.string y.n.name,.slice y.pa y.n.also.length y.ca,.slice y.pf y.n.flaws.length y.cf] 86)=w0 at *;obtain⟨x0,x1,x2,x3,sx⟩:=HX.o.arr.c4;go_wp2_with fail;refine HFi.o.mono ?_;rintro e w2 ⟨rfl,hb2⟩;have HX2:=Lh (HX.o.over hb2);have H2:=Lh (H1.o.over hb2);have HBg2:=Lh (bvo HBg.o hb2);have HE2:=Lh (bvo HE.o hb2);clear hb2 HFi x0 x1 x2 x3 sx;obtain⟨x0,x1,x2,x3,sx⟩:=HX2.o.arr.c4
 by_cases hf:findT t y.n.name<0
 · have d1:decide (findT t y.n.name<0)=true:=decide_eq_true hf;have HK2:Hid (killsN L t y.n=[killOp y.n.file]):=Lh (by rw [HK.o,if_pos hf]);generalize findT t y.n.name=ft at *;clear hf;go_wp2_with fail;refine(pkill_any N gw b id y.n.file v out w2 H2.o (by omega)).mono ?_;rintro e w3 ⟨rfl,v3,hS3,hF3⟩;have HS3:=Lh hS3;have HF3:=Lh hF3;clear hS3 hF3;go_wp2;go_end0;exact⟨rfl,v3,by rw [HK2.o];exact HS3.o,(Fr.of_below HE2.o).trans HF3.o⟩
 have d1:decide (findT t y.n.name<0)=false:=decide_eq_false hf;have HK2:Hid (killsN L t y.n=klTo y.n.name xs xs.length):=Lh (by rw [HK.o,if_neg hf]);generalize findT t y.n.name=ft at *;clear hf;obtain⟨g0,sg⟩:=H2.o.box.arr.c1;go_upto_region 3 with fail;refine wlo 9 fun hcur=>?_;repeat(first|refine lxq ?_|(refine lxl rfl ?_;go_wp2_with (first|(go_at_call 79;(with_reducible refine(HOf.o _ (bvo HBg2.o hcur)).mono ?_);rintro e wA ⟨vA,rfl,hoA,hb⟩;(obtain⟨aA,cA,eA⟩:=own_sl hoA);subst eA;have HOA:=Lh (hoA.base hcur.size);replace hcur:=bvo hcur hb;clear hb hoA));refine⟨iov hcur,?_⟩))
 refine lxe ?_;have hne:(Value.slice aA xs.length cA).ownBlock≠some gw:=fun q=>by have h7:=gown_low HOA.o q;have h9:=HE2.o.size;omega
 have HSA:=Lh (H2.o.over hcur);have HXA:=Lh (HX2.o.over hcur);have HEA:=Lh (bvo HE2.o hcur);clear hcur g0 sg x0 x1 x2 x3 sx;go_wp2;go_loopw [25] (fun v25 wr=>PnRel N gw b id out y.n.name xs wA v25 wr) (fun v25 _=>xs.length - (intOf v25).toNat)
 case atStart=>exact⟨0,v,Nat.zero_le _,rfl,Lh (by unfold klTo;simpa using HSA.o),Fr.refl _ _ _ _⟩
 obtain⟨k,v1,hk,rfl,HS,HF⟩:=hrel;rename World=>wr;have HXr:=Lh ((HF.o.arrT HXA.o (by decide) (Ne.symm hgw)).arr);have hkl:=klTo_len y.n.name xs k
 by_cases hlt:k<xs.length
 rotate_left
 ·
  obtain rfl:k=xs.length:=by omega
  go_wp2;go_end0;exact⟨rfl,v1,by rw [HK2.o];exact HS.o,(Fr.of_below HEA.o).trans HF.o⟩
 have hoR:=HF.o.own HOA.o (by decide) hne;obtain⟨a2,c2,e2,_,i2,hc2⟩:=hoR.row.at encVert_len;obtain⟨rfl,e8,rfl⟩:=Value.slice.inj e2;unfold maxLen at i2;obtain⟨bb,ob,rfl,sb,hcb⟩:=hc2.resolve_left (by omega);obtain⟨z,hz⟩:=gol hlt;have hr:=hcb k z hz wr (Below.refl _ _);have z0:wr.cell? ⟨bb,ob+k*9,none⟩=some (.int .u8 z.id.pid.author.toNat):=hr.2 0 _ rfl;have z1:wr.cell? ⟨bb,ob+k*9+1,none⟩=some (.int .u16 z.id.pid.seq.toNat):=hr.2 1 _ rfl;have z2:wr.cell? ⟨bb,ob+k*9+2,none⟩=some (.int .u8 z.id.n.toNat):=hr.2 2 _ rfl;have z3:wr.cell? ⟨bb,ob+k*9+3,none⟩=some (.int .u8 z.kind.toNat):=hr.2 3 _ rfl;have z4:wr.cell? ⟨bb,ob+k*9+4,none⟩=some (.int .u8 z.file.pid.author.toNat):=hr.2 4 _ rfl;have z5:wr.cell? ⟨bb,ob+k*9+5,none⟩=some (.int .u16 z.file.pid.seq.toNat):=hr.2 5 _ rfl;have z6:wr.cell? ⟨bb,ob+k*9+6,none⟩=some (.int .u8 z.file.n.toNat):=hr.2 6 _ rfl;have z7:wr.cell? ⟨bb,ob+k*9+7,none⟩=some (.string z.text):=hr.2 7 _ rfl;have z8:wr.cell? ⟨bb,ob+k*9+8,none⟩=some (.bool z.dead):=hr.2 8 _ rfl;have sz:=hr.1;have HZk:=Lh hz;clear e8 e2 hc2 hcb hz hr hoR;go_upto_region 6 with fail;have HZ:=Lh (anw wr (cX z) 101);have HBz:=Lh (bnew (w:=wr) (.cells (cX z) 101));have HXz:=Lh (HXr.o.over HBz.o);have HSz:=Lh (HS.o.over HBz.o);generalize wr.alloc (.cells (cX z) 101)=wz at *;clear z0 z1 z2 z3 z4 z5 z6 z7 z8 sz;obtain⟨z0,z1,z2,_⟩:=HZ.o.c3;have z7:=HZ.o.k 7 rfl;have sz:=HZ.o.lt;obtain⟨x0,x1,x2,x3,sx⟩:=HXz.o.c4
 by_cases hn:z.text=y.n.name
 ·
  have en:=seq_t hn;have HKk:=Lh (klTo_no HZk.o hn);clear hn;go_wp2;go_roundw
  case rel=>exact⟨k+1,v1,hlt,by go_num,Lh (by rw [HKk.o];exact HSz.o),Lh (HF.o.trans (Fr.of_below HBz.o))⟩
  simp [intOf];omega
 have en:=seq_f hn;have HKk:=Lh (klTo_yes HZk.o hn);clear hn;have hol:(out++klTo y.n.name xs k).length≤1000000000:=by rw [List.length_append];omega
 go_wp2_with fail;refine(pkill_any N gw b id z.id v1 _ wz HSz.o hol).mono ?_;rintro e wB ⟨rfl,v2,hS2,hF2⟩;have HS2:=Lh hS2;have HF2:=Lh hF2;clear hS2 hF2;go_wp2;go_roundw
 case rel=>exact⟨k+1,v2,hlt,by go_num,Lh (by rw [HKk.o,← List.append_assoc];exact HS2.o),Lh ((HF.o.trans (Fr.of_below HBz.o)).trans HF2.o)⟩
 simp [intOf];omega
theorem onesOp(xs:List OpM):∀ u∈xs.flatMap encOp,u.oneCell'=true:=fun u hu=>by obtain⟨x,_,hx⟩:=List.mem_flatMap.1 hu;exact oneOp x u hx
theorem gown_app{w:World}{N:Nat}{v:Value}{out sn:List OpM}(h:w.ownsRow N 76 8 v (out.length+sn.length) (out.flatMap encOp++sn.flatMap encOp)):GOwn encOp 8 76 w N v (out++sn):=by unfold GOwn;rw [List.length_append,List.flatMap_append];exact h
attribute [local irreducible] linesOps
theorem plines_any(N gw b:Nat)(id:PidM)(s:Option Addr)(l:List VertM)(R:List (Nat × Nat))(file:VidM)(wv:Value)(want:List ByteArray)(v:Value)(out:List OpM)(w:World)(hs:ShV w s l R)(hl:l.length≤1000)(hw:SRow w wv want)(hm:want.length≤1000)
  (h:WkSt w N gw b id v out) (ho:out.length≤4000000) :
  Calls Tryz.prog 38 #[.pointer (some ⟨gw,0,none⟩),.pointer s,vidV file,wv] w (WkRes N gw b id (out++linesOps l R file id out.length want) w):=by
 have HX:=Lh (anw w (cV file) 74);have HXt:=Lh (arrT_new w [.int .u8 file.pid.author.toNat,.int .u16 file.pid.seq.toNat,.int .u8 file.n.toNat] 74);have HE:=Lh (bnew (w:=w) (.cells (cV file) 74));obtain⟨p,c,rfl⟩:=own_sl h.own;have H1:=Lh (h.over HE.o);have HSv:=Lh (hs.over HE.o);have HWr:=Lh (hw.over HE.o);have hlo:=linesOps_len l R file id out.length want;clear h hs hw;unfold vidV;go_enter Tryz.func38,Tryz.ntmps38;go_upto_region 1 with fail;generalize w.alloc (.cells (cV file) 74)=w0 at *;have HOp:Hid (∀ W,Be w0 W→Calls Tryz.prog 85 #[.pointer s,.agg (cV file),.agg (cP id),.int .i64 out.length,wv] W (OwnRes encOp 8 76 W (linesOps l R file id out.length want))):=Lh fun W hb=>by have h9:=eopsV_any s wv l R file id out.length want W (HSv.o.over hb) hl (HWr.o.over hb) hm ho;unfold linesOps;exact h9
 obtain⟨sn,hsn⟩:∃ sn,linesOps l R file id out.length want=sn:=⟨_,rfl⟩;rw [hsn] at HOp hlo ⊢;clear hsn;obtain⟨row,hrow⟩:∃ row,row=(Value.slice p out.length c).ownBlock:=⟨_,rfl⟩;have n1:¬ some gw=row:=by rw [hrow];exact H1.o.box.ne H1.o.own (by decide)
 have n2:¬ some w.heap.size=row:=fun e=>by rw [hrow] at e;exact(HXt.o.ne H1.o.own (by decide)) e
 have HROW:=Lh hrow;have hN:out.length+sn.length≤1099511627776:=by omega
 have g1:=H1.o.box.arr.k 1 rfl;have g2:=H1.o.box.arr.k 2 rfl;have g3:=H1.o.box.arr.k 3 rfl;have sg:=H1.o.box.arr.lt;clear hrow;obtain⟨x0,x1,x2,sx⟩:=HX.o.c3;have hcur:World.grownBy w0 w0.drew row:=⟨rfl,rfl,rfl,Nat.le_refl _,fun _ _ _=>rfl⟩;refine wlex (C:=IsKept w0 row) 21 [] (by kernel_rfl) (by kernel_rfl) (isKept_of hcur) ?_;simp only [Tsc,Tz,Dsc,Dz];repeat(first|refine lxq ?_|(refine lxl rfl ?_;go_wp2_with (first|(at_builtin;refine wpList_append_old slOp rfl _ _ rfl N _ _ _ HO5.o rfl _ _ _ HR5.o rfl (onesOp _) hN (by decide) hB5 ?_;intro v9 w9 ho9 hg9;(replace hcur:World.grownBy w0 w9 row:=gtr hcur (by rw [HROW.o];exact hg9));(obtain⟨p9,c9,e9⟩:=own_sl (gown_app ho9));have HO9:Hid (GOwn encOp 8 76 w9 N (.slice p9 (out.length+sn.length) c9) (out++sn)):=Lh (by(have h8:=gown_app ho9;rw [e9,List.length_append] at h8;exact h8));(rw [List.length_append] at e9;subst e9);have HG9:=Lh hg9;clear ho9 hg9)|(go_at_call 85;(with_reducible refine(HOp.o _ (Below.refl _ _).drew).mono ?_);rintro e w5 ⟨v5,rfl,ho,hb⟩;have HBk:Hid (Be w0 w5):=Lh (bov (Below.refl _ _).drew (Nat.le_refl _) hb);have HR5:=Lh ho.row;have H5:=Lh (H1.o.over HBk.o);have HO5:=Lh H5.o.own;have hB5:=H5.o.size;replace hcur:=gtr hcur (grown_of_below hb);clear ho hb));refine⟨isKept_of (by first|exact hcur|exact only_alloc hcur _|exact gtr hcur (gsc _ _ _)|exact gtr (gtr hcur (gsc _ _ _)) (gsc _ _ _)),?_⟩))
 refine lxe ?_;have HB9:=Lh (H5.o.box.grown H5.o.own (by decide) HG9.o).arr;clear g1 g2 g3 sg x0 x1 x2 sx hcur;have q3:=HB9.o.free 3;have q0:=HB9.o.k 3 rfl;have sq:=HB9.o.lt;go_wp2;go_end0;exact⟨rfl,_,H5.o.push HG9.o HO9.o,((Fr.of_below HE.o).trans (Fr.of_below HBk.o)).trans (H5.o.fr HG9.o)⟩
theorem gown_two{w:World}{N:Nat}{v:Value}{out:List OpM}{x y:OpM}(h:w.ownsRow N 76 8 v (out.length+2) (out.flatMap encOp++(encOp x++encOp y))):GOwn encOp 8 76 w N v (out++[x,y]):=gown_app (sn:=[x,y]) (by simpa using h)
end Go.Proofs.YtjccmcgglfncdaaGreatDoor
