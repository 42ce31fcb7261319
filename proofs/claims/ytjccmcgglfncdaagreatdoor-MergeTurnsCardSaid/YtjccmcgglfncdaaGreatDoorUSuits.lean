/- What is proved: MergeTurns, for every input; of the listed tables the walk needs the powers of ten. -/
import Derived.Test.YtjccmcgglfncdaaGreatDoorUGrew
import Derived.Test.YtjccmcgglfncdaaGreatDoorULay
import Derived.Test.YtjccmcgglfncdaaGreatDoorURDeps
set_option linter.unusedVariables false
set_option linter.unusedSimpArgs false
set_option maxRecDepth 100000
set_option maxHeartbeats 40000000
namespace Go.Proofs.YtjccmcgglfncdaaGreatDoor
open Go Go.RowKit
theorem ppackG(p:PidM)(w:World):Calls Tryz.prog 225 #[pidV p] w fun e w'=>e=.returned (.int .u32 (packPid p:Int))∧Grew w w':=by have h1:=p.author.toNat_lt;have h2:=p.seq.toNat_lt;have HO:=Lh (or_pid (show p.author.toNat<256 by omega) (show p.seq.toNat<65536 by omega));unfold pidV;go_enter Tryz.func225,Tryz.ntmps225;go_wp2;go_ret;exact⟨ret_int HO.o,(Grew.refl _).alloc _⟩
theorem vpackG(v:VidM)(w:World):Calls Tryz.prog 153 #[vidV v] w fun e w'=>e=.returned (.int .u32 (packVid v:Int))∧Grew w w':=by
 have h1:=packPid_lt v.pid;have h2:=v.n.toNat_lt;have HO:=Lh (or_vid h1 (show v.n.toNat<256 by omega));have HB:=Lh ((Grew.refl w).alloc (.cells (cV v) 74));have HA:=Lh (arrT_new w [.int .u8 v.pid.author.toNat,.int .u16 v.pid.seq.toNat,.int .u8 v.n.toNat] 74);unfold vidV;go_enter Tryz.func153,Tryz.ntmps153;go_wp2_with fail;generalize w.alloc (.cells (cV v) 74)=w0 at *;obtain⟨c0,c1,c2,sA⟩:=HA.o.arr.c3;have hcur:Grew w0 w0.drew:=(Grew.refl _).drew;refine wlex (C:=IsGrew w0) 9 [] (by kernel_rfl) (by kernel_rfl) (isGrew_of hcur) ?_;simp only [Tsc,Tz,Dsc,Dz];repeat(first|refine lxq ?_|(refine lxl rfl ?_;go_wp2_with (first|(go_at_call 225;(with_reducible refine(ppackG v.pid _).mono ?_);rintro e w' ⟨rfl,hb⟩;replace hcur:=hcur.trans hb;clear hb));refine⟨isGrew_of (by first|exact hcur|exact hcur.alloc _),?_⟩))
 refine lxe ?_;go_wp2;go_ret;exact⟨ret_int HO.o,HB.o.trans hcur⟩
attribute [local irreducible] packPid packVid cmpN
theorem pcmpG(a b:PidM)(w:World):Calls Tryz.prog 239 #[pidV a,pidV b] w fun e w'=>e=.returned (.int .i64 (cmpPid a b))∧Grew w w':=by
 have HA:=Lh ((anw w (cP a) 25).alloc (.cells (cP b) 25));have HC:=Lh (an2 w (.cells (cP a) 25) (cP b) 25);have HB:=Lh (((Grew.refl w).alloc (.cells (cP a) 25)).alloc (.cells (cP b) 25));unfold pidV;go_enter Tryz.func239,Tryz.ntmps239;go_wp2_with fail;generalize (w.alloc (.cells (cP a) 25)).alloc (.cells (cP b) 25)=w0 at *;obtain⟨c0,c1,sA⟩:=HA.o.c2;obtain⟨d0,d1,sC⟩:=HC.o.c2;have hcur:Grew w0 w0.drew:=(Grew.refl _).drew;refine wlex (C:=IsGrew w0) 6 [] (by kernel_rfl) (by kernel_rfl) (isGrew_of hcur) ?_;simp only [Tsc,Tz,Dsc,Dz];repeat(first|refine lxq ?_|(refine lxl rfl ?_;go_wp2_with (first|(go_at_call 225;(with_reducible refine(ppackG _ _).mono ?_);rintro e w' ⟨rfl,hb⟩;replace hcur:=hcur.trans hb;clear hb)|(go_at_call 152;(with_reducible refine(compare_any _ _ _).mono ?_);rintro e w' ⟨rfl,rfl⟩));refine⟨isGrew_of (by first|exact hcur|exact hcur.alloc _),?_⟩))
 refine lxe ?_;go_wp2;go_ret;exact⟨rfl,HB.o.trans hcur⟩
theorem vcmpG(a b:VidM)(w:World):Calls Tryz.prog 90 #[vidV a,vidV b] w fun e w'=>e=.returned (.int .i64 (cmpVid a b))∧Grew w w':=by
 have HA:=Lh ((anw w (cV a) 74).alloc (.cells (cV b) 74));have HC:=Lh (an2 w (.cells (cV a) 74) (cV b) 74);have HB:=Lh (((Grew.refl w).alloc (.cells (cV a) 74)).alloc (.cells (cV b) 74));unfold vidV;go_enter Tryz.func90,Tryz.ntmps90;go_wp2_with fail;generalize (w.alloc (.cells (cV a) 74)).alloc (.cells (cV b) 74)=w0 at *;obtain⟨c0,c1,c2,sA⟩:=HA.o.c3;obtain⟨d0,d1,d2,sC⟩:=HC.o.c3;have hcur:Grew w0 w0.drew:=(Grew.refl _).drew;refine wlex (C:=IsGrew w0) 6 [] (by kernel_rfl) (by kernel_rfl) (isGrew_of hcur) ?_;simp only [Tsc,Tz,Dsc,Dz];repeat(first|refine lxq ?_|(refine lxl rfl ?_;go_wp2_with (first|(go_at_call 153;(with_reducible refine(vpackG _ _).mono ?_);rintro e w' ⟨rfl,hb⟩;replace hcur:=hcur.trans hb;clear hb)|(go_at_call 152;(with_reducible refine(compare_any _ _ _).mono ?_);rintro e w' ⟨rfl,rfl⟩));refine⟨isGrew_of (by first|exact hcur|exact hcur.alloc _),?_⟩))
 refine lxe ?_;go_wp2;go_ret;exact⟨rfl,HB.o.trans hcur⟩
instance:Inhabited VertM:=⟨noVert⟩
theorem cmpN_neg(a b:Nat):(cmpN a b<0)=(a<b):=by
 by_cases h:a<b
 · rw [cmpN_lt h];simp [h]
 by_cases h2:b<a
 · rw [cmpN_gt h2];simp [h]
 rw [cmpN_eq (show a=b by omega)];simp [h]
theorem onePid:∀ x:PidM,∀ v∈encPid x,v.oneCell'=true:=fun x v hv=>by simp [encPid] at hv;rcases hv with rfl|rfl <;> rfl
theorem oneVid:∀ x:VidM,∀ v∈encVid x,v.oneCell'=true:=fun x v hv=>by simp [encVid] at hv;rcases hv with rfl|rfl|rfl <;> rfl
theorem sortPid_any{w:World}{B g cap:Nat}{xs:List PidM}(h:OwnAt w B 25 2 g xs.length cap (xs.flatMap encPid))(hn:xs.length≤1000000000) :
  Calls Tryz.prog 238 #[.slice (some ⟨g,0,none⟩) xs.length cap,.func (.func 239) #[] #[]] w (SortRes cmpPid encPid 2 25 w B g cap xs):=by have hcon:=sortF_any (P:=Tryz.prog) Tryz.sortPid (k:=2) (enc:=encPid) Tryz.isAgg25 Tryz.sizeOf25 (fun _=>rfl) onePid cmpPid (swo_key packPid _ fun x y=>cmpN_neg _ _) 239 (enters_of Tryz.func239 (by kernel_rfl) rfl) (fun x y W=>pcmpG x y W) h (by omega);exact hcon
theorem sortPid_none(p:Option Addr)(cap:Nat)(fv:Value)(w:World) :
  Calls Tryz.prog 238 #[.slice p 0 cap,fv] w fun e w'=>e=.returned (.tuple #[])∧w'=w:=sortF_none Tryz.sortPid p cap fv w
end Go.Proofs.YtjccmcgglfncdaaGreatDoor
set_option maxRecDepth 100000
set_option maxHeartbeats 40000000
namespace Go.Proofs.YtjccmcgglfncdaaGreatDoor
open Go Go.RowKit
variable{α:Type}
def OwnRes(enc:α→List Value)(sz:Nat)(E:TypeId)(w:World)(xs:List α)(e:Ending)(w':World):Prop:=∃ v,e=.returned v∧GOwn enc sz E w' w.heap.size v xs∧Be w w'
theorem slOp:SlT Tryz.prog 36 76 8 32:=slT_of Tryz.underlying36 (by kernel_rfl) (by decide)
theorem oneOp:∀ x:OpM,∀ v∈encOp x,v.oneCell'=true:=fun x v hv=>by simp [encOp,encVid] at hv;rcases hv with rfl|rfl|rfl|rfl|rfl|rfl|rfl|rfl <;> rfl
theorem clonePid(v:Value)(xs:List PidM)(w:World)(hv:GRow encPid 2 w v xs)(hn:xs.length≤1000000) :
  Calls Tryz.prog 237 #[v] w (OwnRes encPid 2 25 w xs):=by
 have HV:=Lh hv;have HB0:=Lh (bnew (w:=w) (.cells #[] 25));obtain⟨hl,a,cap,rfl,hc1,hc2,hnil,_⟩:=hv;cases a with
 | none =>have h0:=hnil rfl;subst h0;have hn0:xs=[]:=List.eq_nil_of_length_eq_zero (by omega);subst hn0;have hkn:=fun w=>Lib.run_eql_slice_nil (P:=Tryz.prog) w 42 25 none 0 0 0 0 Tryz.underlying42;clear hl hc1 hc2;go_enter Tryz.func237,Tryz.ntmps237;go_wp2;go_ret;exact⟨_,rfl,gown_nil _ _,Below.refl _ _⟩
 | some ad =>
  have hkn:=fun w=>Lib.run_eql_slice_nil (P:=Tryz.prog) w 42 25 (some ad) xs.length cap 0 0 Tryz.underlying42;have hN:0+xs.length≤1099511627776:=by omega
  have hO:(w.alloc (.cells #[] 25)).ownsRow w.heap.size 25 2 (.slice (some ⟨w.heap.size,0,none⟩) 0 0) 0 []:=⟨by simp,.inr ⟨w.heap.size,0,#[],rfl,Nat.le_refl _,by rw [heap_alloc_new],Nat.le_refl _,Nat.zero_le _,by simp,by simp⟩⟩;have HO:=Lh hO;have h1:∀ u∈xs.flatMap encPid,u.oneCell'=true:=fun u hu=>by obtain⟨x,_,hx⟩:=List.mem_flatMap.1 hu;exact onePid x u hx
  clear hl hc1 hc2 hO;go_enter Tryz.func237,Tryz.ntmps237;go_wp2_with (at_builtin;refine wpList_append_rowAt slPid (Tryz.underlying42) rfl _ _ rfl w.heap.size _ _ _ HO.o rfl _ _ _ (HV.o.over HB0.o) rfl h1 hN (by decide) (by simp) ?_;intro v2 w2 ho2 hg2 hat2);go_ret;exact⟨_,rfl,by simpa [GOwn] using ho2,HB0.o.grown hg2 HB0.o.size fun k hk=>by simp [Value.ownBlock] at hk;omega⟩
theorem cloneOp(v:Value)(xs:List OpM)(w:World)(hv:GRow encOp 8 w v xs)(hn:xs.length≤1000000) :
  Calls Tryz.prog 110 #[v] w (OwnRes encOp 8 76 w xs):=by
 have HV:=Lh hv;have HB0:=Lh (bnew (w:=w) (.cells #[] 76));obtain⟨hl,a,cap,rfl,hc1,hc2,hnil,_⟩:=hv;cases a with
 | none =>have h0:=hnil rfl;subst h0;have hn0:xs=[]:=List.eq_nil_of_length_eq_zero (by omega);subst hn0;have hkn:=fun w=>Lib.run_eql_slice_nil (P:=Tryz.prog) w 36 76 none 0 0 0 0 Tryz.underlying36;clear hl hc1 hc2;go_enter Tryz.func110,Tryz.ntmps110;go_wp2;go_ret;exact⟨_,rfl,gown_nil _ _,Below.refl _ _⟩
 | some ad =>
  have hkn:=fun w=>Lib.run_eql_slice_nil (P:=Tryz.prog) w 36 76 (some ad) xs.length cap 0 0 Tryz.underlying36;have hN:0+xs.length≤1099511627776:=by omega
  have hO:(w.alloc (.cells #[] 76)).ownsRow w.heap.size 76 8 (.slice (some ⟨w.heap.size,0,none⟩) 0 0) 0 []:=⟨by simp,.inr ⟨w.heap.size,0,#[],rfl,Nat.le_refl _,by rw [heap_alloc_new],Nat.le_refl _,Nat.zero_le _,by simp,by simp⟩⟩;have HO:=Lh hO;have h1:∀ u∈xs.flatMap encOp,u.oneCell'=true:=fun u hu=>by obtain⟨x,_,hx⟩:=List.mem_flatMap.1 hu;exact oneOp x u hx
  clear hl hc1 hc2 hO;go_enter Tryz.func110,Tryz.ntmps110;go_wp2_with (at_builtin;refine wpList_append_rowAt slOp (Tryz.underlying36) rfl _ _ rfl w.heap.size _ _ _ HO.o rfl _ _ _ (HV.o.over HB0.o) rfl h1 hN (by decide) (by simp) ?_;intro v2 w2 ho2 hg2 hat2);go_ret;exact⟨_,rfl,by simpa [GOwn] using ho2,HB0.o.grown hg2 HB0.o.size fun k hk=>by simp [Value.ownBlock] at hk;omega⟩
section
variable {α : Type} [DecidableEq α]
def compL:List α→List α
 | []=>[]
 | x :: l=>match l with
  | []=>[x]
  | y :: _=>if x=y then compL l else x :: compL l
theorem compL_eq(x:α)(l:List α):compL (x :: x :: l)=compL (x :: l):=by rw [compL];simp
theorem compL_ne{x y:α}(h:¬ x=y)(l:List α):compL (x :: y :: l)=x :: compL (y :: l):=by rw [compL];simp [h]
theorem compL_snoc:∀(l:List α) (x y:α),compL (l++[x]++[y])=if x=y then compL (l++[x]) else compL (l++[x])++[y]
 | [],x,y=>by
  by_cases h:x=y
  · subst h;simp [compL]
  simp [compL,h]
 | [z],x,y=>by
  have:=compL_snoc [] x y;simp only [List.nil_append,List.cons_append] at this ⊢
  by_cases h:z=x
  · subst h;rw [compL_eq,compL_eq,this]
  rw [compL_ne h,compL_ne h,this];split <;> rfl
 | z :: u :: l,x,y=>by
  have:=compL_snoc (u :: l) x y;simp only [List.cons_append] at this ⊢
  by_cases h:z=u
  · subst h;rw [compL_eq,compL_eq,this]
  rw [compL_ne h,compL_ne h,this];split <;> rfl
theorem mem_compL:∀(l:List α) (z:α),z∈compL l↔z∈l
 | [],z=>by simp [compL]
 | [x],z=>by simp [compL]
 | x :: y :: l,z=>by
  have:=mem_compL (y :: l) z
  by_cases h:x=y
  · subst h;rw [compL_eq,this];simp
  rw [compL_ne h,List.mem_cons,this];simp
theorem rises_compL{key:α→Nat}(hi:∀ a b,key a=key b→a=b):∀ {l:List α},(l.Pairwise fun a b=>key a≤key b)→Rises key (compL l)
 | [],_=>List.Pairwise.nil
 | [x],_=>List.pairwise_singleton _ _
 | x :: y :: l,h=>by
  have h':=List.pairwise_cons.1 h;have hr:=rises_compL hi h'.2
  by_cases e:x=y
  · subst e;rw [compL_eq];exact hr
  rw [compL_ne e];have hxy:key x<key y:=by
   have:=h'.1 y (by simp);rcases Nat.lt_or_eq_of_le this with h1|h1
   · exact h1
   exact absurd (hi _ _ h1) e
  refine List.pairwise_cons.2 ⟨fun z hz => ?_,hr⟩;rw [mem_compL] at hz;rcases List.mem_cons.1 hz with rfl|hz
  · exact hxy
  exact Nat.lt_of_lt_of_le hxy ((List.pairwise_cons.1 h'.2).1 z hz)
theorem comp_sorted{key:α→Nat}(hi:∀ a b,key a=key b→a=b){l ys:List α}(hp:ys.Perm l)(hs:ys.Pairwise fun a b=>key a≤key b):compL ys=setS key l:=
 (setS_eq hi (rises_compL hi hs) fun x=>(mem_compL _ _).trans (hp.mem_iff)).symm
theorem comp_step{l:List α}{k:Nat}{x y:α}(hx:l[k]? = some x)(hy:l[k+1]? = some y):compL (l.take (k+1+1))=if x=y then compL (l.take (k+1)) else compL (l.take (k+1))++[y]:=by rw [tsg hy,tsg hx,compL_snoc]
end
theorem flat_set{enc:α→List Value}{sz:Nat}(hk:∀ x,(enc x).length=sz)(l:List α)(k:Nat)(x:α)(hl:k<l.length):(l.set k x).flatMap enc=(l.flatMap enc).take (k*sz)++enc x++(l.flatMap enc).drop ((k+1)*sz):=by
 have h1:l=l.take k++l.drop k:=(List.take_append_drop k l).symm;have h2:l.drop k=l[k] :: l.drop (k+1):=List.drop_eq_getElem_cons hl;have ht:((l.take k).flatMap enc).length=k*sz:=by rw [flat_len hk,List.length_take,Nat.min_eq_left (by omega)]
 have hs:l.set k x=l.take k++x :: l.drop (k+1):=by rw [List.set_eq_take_append_cons_drop,if_pos hl]
 rw [hs,List.flatMap_append,List.flatMap_cons];have e1:(l.flatMap enc).take (k*sz)=(l.take k).flatMap enc:=by
  conv=>lhs;rw [h1]
  rw [List.flatMap_append,List.take_append_of_le_length (by omega),List.take_of_length_le (by omega)]
 have e2:(l.flatMap enc).drop ((k+1)*sz)=(l.drop (k+1)).flatMap enc:=by
  conv=>lhs;rw [h1,h2]
  rw [List.flatMap_append,List.flatMap_cons,← List.append_assoc,List.drop_append_of_le_length (by rw [List.length_append,ht,hk,Nat.add_mul];omega),List.drop_of_length_le (by rw [List.length_append,ht,hk,Nat.add_mul];omega),List.nil_append]
 rw [e1,e2,List.append_assoc]
theorem set_two(A:List Value)(k:Nat)(a b:Value)(h:k+2≤A.length):(A.set k a).set (k+1) b=A.take k++[a,b]++A.drop (k+2):=by
 apply List.ext_getElem?;intro t;simp only [List.getElem?_set,List.getElem?_append,List.getElem?_take,List.getElem?_drop,List.length_append,List.length_take,List.length_cons,List.length_nil,List.length_set];have hm:min k A.length=k:=by omega
 rw [hm]
 by_cases h1:t<k
 · rw [if_neg (by omega),if_neg (by omega),if_pos (by omega),if_pos h1,if_pos h1]
 by_cases h2:t=k
 · subst h2;rw [if_neg (by omega),if_pos rfl,if_pos (by omega),if_pos (by omega),if_neg (by omega)];simp
 by_cases h3:t=k+1
 · subst h3;rw [if_pos rfl,if_pos (by omega),if_pos (by omega),if_neg (by omega)];simp
 rw [if_neg (by omega),if_neg (by omega),if_neg (by omega)];congr 1;omega
theorem OwnAt.setPid{w:World}{B g n cap:Nat}{xs:List PidM}(h:OwnAt w B 25 2 g n cap (xs.flatMap encPid))(hx:xs.length=n)(k:Nat)(hk:k<n)(p:PidM) :
  OwnAt ((w.setCell ⟨g,k*2,none⟩ (.int .u8 p.author.toNat)).setCell ⟨g,k*2+1,none⟩ (.int .u16 p.seq.toNat)) B 25 2 g n cap ((xs.set k p).flatMap encPid):=by
 have hl:(xs.flatMap encPid).length=n*2:=by rw [flat_len encPid_len,hx]
 have h1:=h.setCell (k*2) (by rw [hl];omega) (.int .u8 p.author.toNat);have h2:=h1.setCell (k*2+1) (by rw [List.length_set,hl];omega) (.int .u16 p.seq.toNat);rw [set_two _ _ _ _ (by rw [hl];omega)] at h2;rw [flat_set encPid_len xs k p (by omega),show(k+1)*2=k*2+2 by omega];exact h2
theorem oneZ_Pid:∀ u∈((.agg #[.int .u8 0,.int .u16 0]:Value).cells).toList,u.oneCell'=true:=List.all_eq_true.1 rfl
theorem zero_Pid:((Tryz.prog.info? 25).bind (·.zero))=some (.agg #[.int .u8 0,.int .u16 0]):=by kernel_rfl
def CompRes(w:World)(B g:Nat)(xs:List PidM)(e:Ending)(w':World):Prop:=∃ v,e=.returned v∧GOwn encPid 2 25 w' B v (compL xs)∧w.grownBy w' (some g)
def CpA(w:World)(B g cap:Nat)(xs:List PidM)(v3:Value)(wr:World):Prop:=
 ∃ k:Nat,k+1≤xs.length∧v3=.int .i64 ((k+1:Nat):Int)∧Hid (compL (xs.take (k+1))=xs.take (k+1))∧Hid (OwnAt wr B 25 2 g xs.length cap (xs.flatMap encPid))∧w.grownBy wr (some g)
def CpB(w:World)(B g cap:Nat)(xs:List PidM)(k0:Nat)(v3 v5:Value)(wr:World):Prop:=
 ∃(m i:Nat) (zs:List PidM),k0+(i+1)≤xs.length∧m+1≤k0+(i+1)∧v3=.int .i64 m∧v5=.int .i64 ((i+1:Nat):Int)∧zs.length=xs.length∧Hid (zs.take m=compL (xs.take (k0+(i+1))))∧Hid (∀ j,k0+i≤j→zs[j]? = xs[j]?) ∧
  Hid (OwnAt wr B 25 2 g xs.length cap (zs.flatMap encPid))∧w.grownBy wr (some g)
theorem take_set_end{zs:List α}{m:Nat}(h:m<zs.length)(x:α):(zs.set m x).take (m+1)=zs.take m++[x]:=by
 apply List.ext_getElem?;intro t;simp only [List.getElem?_take,List.getElem?_set,List.getElem?_append,List.length_take];rw [Nat.min_eq_left (Nat.le_of_lt h)]
 by_cases h1:t<m
 · rw [if_pos (by omega),if_neg (by omega),if_pos h1,if_pos h1]
 by_cases h2:t=m
 · subst h2;simp;exact h
 rw [if_neg (by omega),if_neg h1];symm;rw [List.getElem?_eq_none_iff];simp;omega
attribute [local irreducible] compL
theorem compactPid_any{w:World}{B g cap:Nat}{xs:List PidM}(h:OwnAt w B 25 2 g xs.length cap (xs.flatMap encPid))(hn:xs.length≤1000000) :
  Calls Tryz.prog 240 #[.slice (some ⟨g,0,none⟩) xs.length cap] w (CompRes w B g xs):=by
 have HA:=Lh h;have hnc:=h.nc;have hcm:=h.cm;unfold maxLen at hcm;clear h;have gd:=fun p q xs ys w=>guard_pid .eql p q xs ys w;have gd2:=fun p q xs ys w=>guard_pid .neq p q xs ys w
 by_cases h2:xs.length<2
 ·
  have d1:decide ((xs.length:Int)<2)=true:=by simp;omega
  have HC:Hid (compL xs=xs):=by
   show _=_;cases xs with
   | nil=>unfold compL;rfl
   | cons x l =>
    cases l with
    | nil=>unfold compL;rfl
    | cons y l=>simp at h2;omega
  clear h2;go_enter Tryz.func240,Tryz.ntmps240;go_wp2;go_ret;exact⟨_,rfl,(by rw [HC.o];exact HA.o.own),World.grownBy.refl _ _⟩
 have d1:decide ((xs.length:Int)<2)=false:=by simp;omega
 have HC1:Hid (compL (xs.take 1)=xs.take 1):=by
  show _=_;cases xs with
  | nil=>simp at h2
  | cons x l=>simp;unfold compL;rfl
 go_enter Tryz.func240,Tryz.ntmps240;go_wp2;go_loopw [3] (fun v3 wr=>CpA w B g cap xs v3 wr) (fun v3 _=>xs.length - (intOf v3).toNat)
 case atStart=>exact⟨0,by omega,rfl,HC1,HA,World.grownBy.refl _ _⟩
 obtain⟨k,hk,rfl,HK,HO,hgr⟩:=hrel
 by_cases hlt:k+1<xs.length
 rotate_left
 ·
  have HE:Hid (compL xs=xs):=by have:=HK.o;rw [List.take_of_length_le (by omega)] at this;exact this
  go_wp2;go_ret;exact⟨_,rfl,(by rw [HE.o];exact HO.o.own),hgr⟩
 obtain⟨x,hx⟩:=gol (show k<xs.length by omega);obtain⟨y,hy⟩:=gol hlt;have x0:wr.cell? ⟨g,k*2,none⟩=some (.int .u8 x.author.toNat):=HO.o.cell ((flat_get encPid_len _ k 0 x hx (by decide)).trans rfl);have x1:wr.cell? ⟨g,k*2+1,none⟩=some (.int .u16 x.seq.toNat):=HO.o.cell ((flat_get encPid_len _ k 1 x hx (by decide)).trans rfl);have y0:wr.cell? ⟨g,(k+1)*2,none⟩=some (.int .u8 y.author.toNat):=HO.o.cell ((flat_get encPid_len _ (k+1) 0 y hy (by decide)).trans rfl);have y1:wr.cell? ⟨g,(k+1)*2+1,none⟩=some (.int .u16 y.seq.toNat):=HO.o.cell ((flat_get encPid_len _ (k+1) 1 y hy (by decide)).trans rfl);have sg:=HO.o.lt;have HS:=Lh (comp_step hx hy);have HXo:=Lh hx;have HYo:=Lh hy;clear hx hy
 by_cases hxy:y=x
 rotate_left
 ·
  have e1:=eql_pid y x false (by simp [hxy]);unfold pidV at e1;have HS2:Hid (compL (xs.take (k+1+1))=xs.take (k+1+1)):=by show _=_;rw [HS.o,if_neg (fun e=>hxy e.symm),HK.o,tsg HYo.o]
  clear hxy;go_wp2_with fail;refine wlo 10 fun hcur=>?_;repeat refine lxq ?_
  refine lxe ?_;clear hcur;go_wp2;go_roundw
  case rel=>exact⟨k+1,by omega,by go_num,HS2,HO.o.drew,grown_drew hgr⟩
  simp [intOf];omega
 have e1:=eql_pid y x true (by simp [hxy]);unfold pidV at e1;have HS2:Hid (compL (xs.take (k+1+1))=xs.take (k+1)):=by show _=_;rw [HS.o,if_pos hxy.symm,HK.o]
 clear hxy;have hcap:¬ cap=k+1:=by omega
 go_wp2_with fail;refine wlo 10 fun hcur=>?_;repeat refine lxq ?_
 refine lxe ?_;clear hcur;go_wp2;go_hide hQ;go_loopw [3,5] (fun v3 v5 wi=>CpB w B g cap xs (k+1) v3 v5 wi) (fun _ v5 _=>xs.length - (intOf v5).toNat)
 case atStart=>exact⟨k+1,0,xs,by omega,by omega,rfl,rfl,rfl,HS2.o.symm,fun j _=>rfl,HO.o.drew,grown_drew hgr⟩
 rename World=>wi;obtain⟨m,i,zs,hi,hm,rfl,rfl,hz,HT,HJ,HI,hgi⟩:=hrel;have si:=HI.o.lt
 by_cases hlt2:i+1<xs.length - (k+1)
 rotate_left
 ·
  have hend:k+1+(i+1)=xs.length:=by omega
  have HE:Hid (zs.take m=compL xs):=by show _=_;rw [HT.o,hend,List.take_length]
  have hlen:(compL xs).length=m:=by rw [← HE.o,List.length_take];omega
  have HL:=Lh hlen;have HTk:=Lh (HI.o.take (k:=m) (by omega));have hcm2:¬ cap=m:=by omega
  have HF:Hid ((zs.flatMap encPid).take (m*2)=(compL xs).flatMap encPid):=by
   show _=_;rw [← HE.o]
   conv=>lhs;rw [← List.take_append_drop m zs,List.flatMap_append]
   have:((zs.take m).flatMap encPid).length=m*2:=(by rw [flat_len encPid_len,List.length_take,Nat.min_eq_left (by omega)]);rw [List.take_append_of_le_length (by omega),List.take_of_length_le (by omega)]
  clear hlen hend;go_wp2;subst hQ;go_wp2_with (refine wpList_clear_at slPid _ zero_Pid (zero_one oneZ_Pid) (fun k=>by rw [size_zeroCells];rfl) rfl _ rfl B g m cap _ HTk.o m _ _ _ rfl rfl (Nat.le_refl _) (by omega) ?_;intro w3 hA3 hg3 hs3);go_ret;refine⟨_,rfl,?_,gtr hgi hg3⟩;show World.ownsRow _ _ _ _ _ _ _;rw [HL.o,← HF.o];exact hA3.own
 obtain⟨p,hp⟩:=gol (show k+1+i<xs.length by omega);obtain⟨q,hq⟩:=gol (show k+1+i+1<xs.length by omega);have hp':=(HJ.o (k+1+i) (by omega)).trans hp;have hq':=(HJ.o (k+1+i+1) (by omega)).trans hq;have p0:wi.cell? ⟨g,(k+1)*2+i*2,none⟩=some (.int .u8 p.author.toNat):=by rw [show(k+1)*2+i*2=(k+1+i)*2+0 by omega];exact HI.o.cell ((flat_get encPid_len _ (k+1+i) 0 p hp' (by decide)).trans rfl)
 have p1:wi.cell? ⟨g,(k+1)*2+i*2+1,none⟩=some (.int .u16 p.seq.toNat):=by rw [show(k+1)*2+i*2+1=(k+1+i)*2+1 by omega];exact HI.o.cell ((flat_get encPid_len _ (k+1+i) 1 p hp' (by decide)).trans rfl)
 have q0:wi.cell? ⟨g,(k+1)*2+(i+1)*2,none⟩=some (.int .u8 q.author.toNat):=by rw [show(k+1)*2+(i+1)*2=(k+1+i+1)*2+0 by omega];exact HI.o.cell ((flat_get encPid_len _ (k+1+i+1) 0 q hq' (by decide)).trans rfl)
 have q1:wi.cell? ⟨g,(k+1)*2+(i+1)*2+1,none⟩=some (.int .u16 q.seq.toNat):=by rw [show(k+1)*2+(i+1)*2+1=(k+1+i+1)*2+1 by omega];exact HI.o.cell ((flat_get encPid_len _ (k+1+i+1) 1 q hq' (by decide)).trans rfl)
 have HSi:=Lh (comp_step hp hq);clear hp hq hp' hq'
 by_cases hpq:q=p
 ·
  have e2:=neq_pid q p false (by simp [hpq]);unfold pidV at e2;have HN:Hid (zs.take m=compL (xs.take (k+1+(i+1+1)))):=by show _=_;rw [HT.o];have:=HSi.o;rw [if_pos hpq.symm] at this;exact this.symm
  clear hpq;go_wp2_with fail;refine wlo 10 fun hcur=>?_;repeat refine lxq ?_
  refine lxe ?_;clear hcur;go_wp2;go_roundw
  case rel=>exact⟨m,i+1,zs,by omega,by omega,rfl,by go_num,hz,HN,fun j hj=>HJ.o j (by omega),HI.o.drew,grown_drew hgi⟩
  simp [intOf];omega
 have e2:=neq_pid q p true (by simp [hpq]);unfold pidV at e2;have hml:m<xs.length:=by omega
 have HN:Hid ((zs.set m q).take (m+1)=compL (xs.take (k+1+(i+1+1)))):=by show _=_;rw [take_set_end (by omega),HT.o];have:=HSi.o;rw [if_neg (fun e=>hpq e.symm)] at this;exact this.symm
 have HJ2:Hid (∀ j,k+1+(i+1)≤j→(zs.set m q)[j]? = xs[j]?):=fun j hj=>by rw [List.getElem?_set,if_neg (by omega)];exact HJ.o j (by omega)
 have HI2:=Lh (HI.o.drew.setPid hz m hml q);have HG2:Hid (w.grownBy ((wi.drew.setCell ⟨g,m*2,none⟩ (.int .u8 q.author.toNat)).setCell ⟨g,m*2+1,none⟩ (.int .u16 q.seq.toNat)) (some g)):=gtr (gtr (grown_drew hgi) (gsc _ _ _)) (gsc _ _ _);have f0:=HI.o.free (m*2);have f1:=HI.o.free (m*2+1);have m0:=HI.o.cell (j:=m*2) (u:=(zs.flatMap encPid)[m*2]'(by rw [flat_len encPid_len];omega)) (List.getElem?_eq_getElem _);have m1:=HI.o.cell (j:=m*2+1) (u:=(zs.flatMap encPid)[m*2+1]'(by rw [flat_len encPid_len];omega)) (List.getElem?_eq_getElem _);generalize (zs.flatMap encPid)[m*2]'(by rw [flat_len encPid_len];omega)=um0 at m0;generalize (zs.flatMap encPid)[m*2+1]'(by rw [flat_len encPid_len];omega)=um1 at m1;clear hpq;go_wp2_with fail;refine wlo 10 fun hcur=>?_;repeat refine lxq ?_
 refine lxe ?_;clear hcur;go_wp2;go_roundw
 case rel=>exact⟨m+1,i+1,zs.set m q,by omega,by omega,by go_num,by go_num,by simpa using hz,HN,HJ2,HI2.o,HG2.o⟩
 simp [intOf];omega
theorem compactNil_any(p:Option Addr)(c:Nat)(w:World) :
  Calls Tryz.prog 240 #[.slice p 0 c] w fun e w'=>e=.returned (.slice p 0 c)∧w'=w:=by go_enter Tryz.func240,Tryz.ntmps240;go_wp2;go_ret;exact⟨rfl,rfl⟩
theorem sorted_pid{ys:List PidM}(h:ys.Pairwise fun a b=>¬ cmpPid b a<0):ys.Pairwise fun a b=>packPid a≤packPid b:=h.imp fun {a b} hab=>by unfold cmpPid at hab;rw [cmpN_neg] at hab;omega
theorem psetPid_any(v:Value)(l:List PidM)(w:World)(hv:GRow encPid 2 w v l)(hl:l.length≤100000) :
  Calls Tryz.prog 176 #[v] w (OwnRes encPid 2 25 w (setS packPid l)):=by
 have HV:=Lh hv;clear hv;go_enter Tryz.func176,Tryz.ntmps176;go_wp2_with fail;refine(clonePid _ _ _ HV.o (by omega)).mono ?_;rintro e w1 ⟨v1,rfl,ho1,hb1⟩;have HB1:=Lh hb1;clear hb1;rcases own_cases ho1 with⟨rfl,p,c,rfl⟩|⟨hne,g,cap,rfl,hA⟩
 · go_wp2_with fail;refine(sortPid_none _ _ _ _).mono ?_;rintro e w2 ⟨rfl,rfl⟩;go_wp2_with fail;refine(compactNil_any _ _ _).mono ?_;rintro e w3 ⟨rfl,rfl⟩;go_wp2;go_ret;exact⟨_,rfl,ho1,HB1.o⟩
 have HA:=Lh hA;clear ho1 hA;go_wp2_with fail;refine(sortPid_any HA.o (by omega)).mono ?_;rintro e w2 ⟨rfl,ys,hp,hs,hA2,hg2⟩;have hyl:=hp.length_eq;rw [← hyl] at hA2;have HA2:=Lh hA2;have HC:=Lh (comp_sorted (fun a b=>packPid_inj) hp (sorted_pid hs));have HG2:=Lh hg2;have HY:=Lh hyl;clear hp hs hA2 hg2 hyl;go_wp2_with fail;rw [← HY.o];refine(compactPid_any HA2.o (by have:=HY.o;omega)).mono ?_;rintro e w3 ⟨v3,rfl,ho3,hg3⟩;go_wp2;go_ret;exact⟨_,rfl,(by rw [← HC.o];exact ho3),HB1.o.grown (gtr HG2.o hg3) HB1.o.size fun k hk=>by cases hk;exact HA.o.base⟩
end Go.Proofs.YtjccmcgglfncdaaGreatDoor
namespace Go.Proofs.YtjccmcgglfncdaaGreatDoor
open Go Go.RowKit
section
theorem GOwn.base{α:Type}{enc:α→List Value}{sz:Nat}{E:TypeId}{w:World}{B B':Nat}{v:Value}{xs:List α}(h:GOwn enc sz E w B v xs)(hB:B'≤B):GOwn enc sz E w B' v xs:=by obtain⟨h1,h2⟩:=h;refine⟨h1,h2.imp id ?_⟩;rintro⟨g,cap,cur,h3,h4,h5⟩;exact⟨g,cap,cur,h3,Nat.le_trans hB h4,h5⟩
attribute [local irreducible] refsM farPids preDep depsTo depsM
theorem pdeps_any(id:PidM)(v:Value)(ops:List OpM)(w:World)(hv:GRow encOp 8 w v ops)(hl:ops.length≤40000) :
  Calls Tryz.prog 109 #[pidV id,v] w (OwnRes encPid 2 25 w (depsM id ops)):=by
 have HA:=Lh (anw w (cP id) 25);have HB:=Lh (bnew (w:=w) (.cells (cP id) 25));obtain⟨a,cap,rfl,h1,h2,hc⟩:=(hv.over HB.o).at encOp_len;unfold maxLen at h2;have HC:=Lh hc;have hdl:=depsTo_len id ops;have hpl:=preDep_len id;have hsl:=id.seq.toNat_lt;have hal:=id.author.toNat_lt;have gd:=fun p q xs ys w=>guard_pid .neq p q xs ys w;clear hv hc;unfold pidV;go_enter Tryz.func109,Tryz.ntmps109;go_upto_if 12 with fail;generalize w.alloc (.cells (cP id) 25)=w0 at *;go_cut [5] (fun s5 wx=>Hid (GOwn encPid 2 25 wx w0.heap.size s5 (preDep id))∧Be w0 wx)
 case first =>
  by_cases g1:1<id.seq.toNat
  · have d1:decide ((1:Int)<(id.seq.toNat:Int))=true:=(by simp;omega);have HP:Hid (preDep id=[⟨id.author,id.seq - 1⟩]):=preDep_yes g1;have HS:=Lh (sub_seq g1);obtain⟨i0,i1,si⟩:=HA.o.c2;have hN:0+1≤1099511627776:=(by decide);have hB0:w0.heap.size≤w0.heap.size:=Nat.le_refl _;go_wp2_with (at_builtin;refine apD slPid rfl _ _ rfl w0.heap.size _ _ (drf _) 1 _ _ _ (World.ownsRow_nil w0 w0.heap.size 25 2) rfl rfl rfl rfl hN (by decide) hB0 ?_;intro v2 w2 ho2 hg2);go_meet;refine⟨?_,grown_over' hg2 (fun g hg=>by simp [Value.ownBlock] at hg)⟩;show GOwn _ _ _ _ _ _ _;rw [HP.o];exact GOwn.snoc (enc:=encPid) (xs:=[]) (x:=(⟨id.author,id.seq - 1⟩:PidM)) (by unfold encPid;rw [HS.o];exact ho2)
  have d1:decide ((1:Int)<(id.seq.toNat:Int))=false:=by simp;omega
  have HP:Hid (preDep id=[]):=preDep_no g1;go_wp2;go_meet;exact⟨(by show GOwn _ _ _ _ _ _ _;rw [HP.o];exact gown_nil _ _),Below.refl _ _⟩
 obtain⟨HO,hbc⟩:=hcut;go_wp2;go_loopw [5,24] (fun v5 v6 wr=>DpOut w0 id ops v5 v6 wr) (fun _ v6 _=>ops.length - (intOf v6).toNat)
 case atStart=>exact⟨0,by omega,rfl,(by show GOwn _ _ _ _ _ _ _;rw [List.take_zero,depsTo_nil];exact HO.o),hbc⟩
 rename World=>wo;obtain⟨i,hi,rfl,HM,hbl⟩:=hrel
 by_cases hlt:i<ops.length
 rotate_left
 ·
  obtain rfl:i=ops.length:=by omega
  have HE:=HM.o;rw [List.take_length] at HE;have HE2:=Lh HE.row;clear HE;go_wp2_with fail;refine(psetPid_any _ _ _ HE2.o (by omega)).mono ?_;rintro e w2 ⟨u,rfl,hu,hb2⟩;have HU:Hid (GOwn encPid 2 25 w2 w.heap.size u (depsM id ops)):=by rw [← depsTo_all];exact hu.base (Nat.le_trans HB.o.size hbl.size)
  clear hu;go_wp2;go_ret;exact⟨_,rfl,HU.o,bov (bvo HB.o hbl) (by have:=HB.o.size;have:=hbl.size;omega) hb2⟩
 obtain⟨b,off,rfl,sb,hcb⟩:=HC.o.resolve_left (by omega);obtain⟨o,ho⟩:=gol hlt;have HOp:=Lh (hcb i o ho wo hbl);have HSu:=Lh (depsTo_succ (id:=id) ho);have hdt:=depsTo_len id (ops.take i);rw [List.length_take] at hdt;obtain⟨o0,o1,o2,o3,o4,o5,o6,o7,so⟩:=rc8 HOp.o;clear hcb ho;go_wp2_with fail;refine(prefs_any o _).mono ?_;rintro e w1 ⟨vr,rfl,hvr,hb1⟩;obtain⟨a2,cap2,e2,q1,q2,_⟩:=(RefsAt.vrow hvr).form;subst e2;unfold maxLen at q2;have HVr:=Lh hvr;have HBo:Hid (Be wo (wo.alloc (.cells (cO o) 76))):=bnew _;have HB1:=Lh (bov (bvo hbl HBo.o) (by have:=hbl.size;simp;omega) hb1);have HM1:=Lh ((HM.o.over HBo.o).over hb1);have hrl:=refs_len o;clear hvr hb1 o0 o1 o2 o3 o4 o5 o6 o7 so;go_wp2;go_hide hQ;go_loopw [5,31] (fun v5 v8 wi=>DpIn w0 id (depsTo id (ops.take i)) (refsM o) (.slice a2 (refsM o).length cap2) v5 v8 wi) (fun _ v8 _=>(refsM o).length - (intOf v8).toNat)
 case atStart=>exact⟨0,by omega,rfl,(by show GOwn _ _ _ _ _ _ _;rw [List.take_zero,farPids_nil,List.append_nil];exact HM1.o),HVr,HB1.o⟩
 rename World=>wr;obtain⟨k,hk,rfl,HM2,HR2,hbi⟩:=hrel;have hfl:=farPids_len id ((refsM o).take k);rw [List.length_take] at hfl;have hN:(depsTo id (ops.take i)++farPids id ((refsM o).take k)).length+1≤1099511627776:=by rw [List.length_append];omega
 by_cases hk2:k<(refsM o).length
 rotate_left
 ·
  obtain rfl:k=(refsM o).length:=by omega
  rw [List.take_length] at HM2;go_wp2;subst hQ;go_wp2;go_roundw
  case rel=>exact⟨i+1,hlt,by go_num,(by show GOwn _ _ _ _ _ _ _;rw [HSu.o];exact HM2.o),hbi⟩
  simp [intOf];omega
 obtain⟨g,rfl,hAr⟩:=refs_at HR2.o (by omega);obtain⟨u,hu⟩:=gol hk2;have HU:=Lh hu;have HAv:=Lh hAr;have HAi:=Lh (HA.o.over hbi);obtain⟨i0,i1,si⟩:=HAi.o.c2;have u0:wr.cell? ⟨g,k*3,none⟩=some (.int .u8 u.pid.author.toNat):=hAr.arr.cell ((flat_get encVid_len _ k 0 u hu (by decide)).trans rfl);have u1:wr.cell? ⟨g,k*3+1,none⟩=some (.int .u16 u.pid.seq.toNat):=hAr.arr.cell ((flat_get encVid_len _ k 1 u hu (by decide)).trans rfl);have u2:wr.cell? ⟨g,k*3+2,none⟩=some (.int .u8 u.n.toNat):=hAr.arr.cell ((flat_get encVid_len _ k 2 u hu (by decide)).trans rfl);have su:=hAr.arr.lt;have hB2:=hbi.size;have HBx:Hid (Be wr (wr.alloc (.cells (cV u) 74))):=bnew _;have hBx:w0.heap.size≤(wr.alloc (.cells (cV u) 74)).heap.size:=by simp;omega
 have HMx:=Lh (HM2.o.over HBx.o);have HRx:=Lh (HR2.o.over HBx.o);have HBb:=Lh (bov hbi hB2 HBx.o);clear hu hAr
 by_cases hp:u.pid=id
 ·
  have e1:=neq_pid u.pid id false (by simp [hp]);unfold pidV at e1;have HN:=Lh (farPids_no HU.o hp);clear hp;go_wp2;go_roundw
  case rel=>exact⟨k+1,hk2,by go_num,(by show GOwn _ _ _ _ _ _ _;rw [HN.o];exact HMx.o),HRx.o,HBb.o⟩
  simp [intOf];omega
 have e1:=neq_pid u.pid id true (by simp [hp]);unfold pidV at e1;have HN:=Lh (farPids_yes HU.o hp);clear hp;have hBx2:w0.heap.size≤wr.heap.size+1:=by omega
 go_wp2_with (at_builtin;refine wpList_append_newH slPid rfl _ _ rfl w0.heap.size _ _ (wr.heap.size+1) (by simp) 1 _ _ _ HMx.o rfl rfl rfl rfl hN (by decide) hBx2 ?_;intro v2 w2 ho2 hg2);go_roundw
 case rel=>exact⟨k+1,hk2,by go_num,(by show GOwn _ _ _ _ _ _ _;rw [HN.o,← List.append_assoc];exact GOwn.snoc ho2),HRx.o.grown HMx.o (by decide) hg2,bgr HBb.o hBx HMx.o hg2⟩
 simp [intOf];omega
end
section
variable{α:Type}
def laterOne(id:PidM)(v:VidM):Bool:=decide (v.pid.author=id.author) && decide (id.seq.toNat<v.pid.seq.toNat)
theorem laterB_eq(id:PidM)(o:OpM):laterB id o=(refsM o).any (laterOne id):=rfl
theorem laterFn_any(id:PidM)(v:VidM)(g:Nat)(w:World)(hA:Arr w g (encPid id)) :
  Calls Tryz.prog 243 #[vidV v,.pointer (some ⟨g,0,none⟩)] w fun e w'=>e=.returned (.bool (laterOne id v))∧Be w w':=by
 have i0:=(hA.alloc (.cells (cV v) 74)).k 0 rfl;have i1:=(hA.alloc (.cells (cV v) 74)).k 1 rfl;have sg:=hA.lt;have sg2:¬ g=w.heap.size:=by omega
 clear hA;unfold vidV
 by_cases h1:v.pid.author=id.author
 ·
  have e1:((v.pid.author.toNat:Int) == (id.author.toNat:Int))=true:=by simp [h1]
  by_cases h2:id.seq.toNat<v.pid.seq.toNat
  · have e2:decide (id.seq.toNat<v.pid.seq.toNat)=true:=(by simpa using h2);have HV:Hid (laterOne id v=true):=(by show _=_;unfold laterOne;simp [h1,h2]);clear h1 h2;go_enter Tryz.func243,Tryz.ntmps243;go_wp2;go_ret;exact⟨rvb HV.o,bnew _⟩
  have e2:decide (id.seq.toNat<v.pid.seq.toNat)=false:=by simpa using h2
  have HV:Hid (laterOne id v=false):=by show _=_;unfold laterOne;simp [h1];omega
  clear h1 h2;go_enter Tryz.func243,Tryz.ntmps243;go_wp2;go_ret;exact⟨rvb HV.o,bnew _⟩
 have e1:((v.pid.author.toNat:Int) == (id.author.toNat:Int))=false:=by simp;intro h;exact h1 (UInt8.toNat_inj.1 (by omega))
 have HV:Hid (laterOne id v=false):=by show _=_;unfold laterOne;simp [h1]
 clear h1;go_enter Tryz.func243,Tryz.ntmps243;go_wp2;go_ret;exact⟨rvb HV.o,bnew _⟩
def idxB(f:α→Bool)(l:List α):Int:=match l.findIdx? f with|some i=>(i:Int)|none => -1
def IxRes(w:World)(f:VidM→Bool)(vs:List VidM)(e:Ending)(w':World):Prop:=e=.returned (.int .i64 (idxB f vs))∧Be w w'
theorem idx_hit{f:α→Bool}{l:List α}{k:Nat}{x:α}(h:(l.take k).any f=false)(hx:l[k]? = some x)(hf:f x=true):idxB f l=(k:Int):=by
 have:l.findIdx? f=some k:=by rw [List.findIdx?_eq_some_iff_getElem];obtain⟨hk,e⟩:=List.getElem?_eq_some_iff.1 hx;refine⟨hk,by rw [e];exact hf,fun j hj => ?_⟩;have:=List.any_eq_false.1 h (l[j]) (List.mem_iff_getElem.2 ⟨j,by rw [List.length_take];omega,by simp⟩);simpa using this
 unfold idxB;rw [this]
theorem idx_miss{f:α→Bool}{l:List α}(h:(l.take l.length).any f=false):idxB f l = -1:=by
 rw [List.take_length] at h;have:l.findIdx? f=none:=by rw [List.findIdx?_eq_none_iff];intro x hx;simpa using List.any_eq_false.1 h x hx
 unfold idxB;rw [this]
theorem any_step{f:α→Bool}{l:List α}{k:Nat}{x:α}(h:(l.take k).any f=false)(hx:l[k]? = some x)(hf:f x=false):(l.take (k+1)).any f=false:=by rw [tsg hx,List.any_append,h];simp [hf]
theorem idx_ge(f:α→Bool)(l:List α):decide (0≤idxB f l)=l.any f:=by
 unfold idxB;cases h:l.findIdx? f with
 | none =>
  rw [List.findIdx?_eq_none_iff] at h;have:l.any f=false:=List.any_eq_false.2 fun x hx=>by simp [h x hx]
  rw [this];rfl
 | some i =>rw [List.findIdx?_eq_some_iff_getElem] at h;obtain⟨hk,hf,_⟩:=h;have:l.any f=true:=List.any_eq_true.2 ⟨_,List.getElem_mem hk,hf⟩;rw [this];simp
attribute [local irreducible] laterOne idxB
theorem idxLater_any(id:PidM)(v:Value)(vs:List VidM)(g:Nat)(w:World)(hA:Arr w g (encPid id))(hv:GRow encVid 3 w v vs)(hl:vs.length≤1000) :
  Calls Tryz.prog 287 #[v,.func (.func 243) #[] #[.pointer (some ⟨g,0,none⟩)]] w (IxRes w (laterOne id) vs):=by
 obtain⟨a,cap,rfl,h1,h2,hc⟩:=hv.at encVid_len;unfold maxLen at h2;have HC:=Lh hc;have HA:=Lh hA;clear hv hc hA;go_enter Tryz.func287,Tryz.ntmps287;go_wp2;go_loopw [8] (fun v8 wr=>∃ k:Nat,k≤vs.length∧v8=.int .i64 k∧Hid ((vs.take k).any (laterOne id)=false)∧Be w wr) (fun v8 _=>vs.length - (intOf v8).toNat)
 case atStart=>exact⟨0,by omega,rfl,(by show _=_;simp),Below.refl _ _⟩
 obtain⟨k,hk,rfl,HK,hbl⟩:=hrel
 by_cases hlt:k<vs.length
 rotate_left
 ·
  obtain rfl:k=vs.length:=by omega
  have HI:=Lh (idx_miss HK.o);go_wp2;go_ret;exact⟨ret_int HI.o.symm,hbl⟩
 obtain⟨b,off,rfl,sb,hcb⟩:=HC.o.resolve_left (by omega);obtain⟨u,hu⟩:=gol hlt;have HU:=Lh (hcb k u hu wr hbl);obtain⟨u0,u1,u2,su⟩:=rc3 HU.o;have HX:=Lh hu;clear hcb hu;go_wp2_with fail;refine(laterFn_any id u g _ (HA.o.over hbl)).mono ?_;rintro e w1 ⟨rfl,hb1⟩;have HB1:=Lh (bvo hbl hb1);clear hb1 u0 u1 u2 su;cases hf:laterOne id u with
 | true =>have HI:=Lh (idx_hit HK.o HX.o hf);clear hf;go_wp2;go_ret;exact⟨ret_int HI.o.symm,HB1.o⟩
 | false =>
  have HI:=Lh (any_step HK.o HX.o hf);clear hf;go_wp2;go_roundw
  case rel=>exact⟨k+1,hlt,by go_num,HI,HB1.o⟩
  simp [intOf];omega
theorem conLater_any(id:PidM)(v:Value)(vs:List VidM)(g:Nat)(w:World)(hA:Arr w g (encPid id))(hv:GRow encVid 3 w v vs)(hl:vs.length≤1000) :
  Calls Tryz.prog 242 #[v,.func (.func 243) #[] #[.pointer (some ⟨g,0,none⟩)]] w fun e w'=>e=.returned (.bool (vs.any (laterOne id)))∧Be w w':=by have HI:=Lh (idx_ge (laterOne id) vs);have hcon:=idxLater_any id v vs g w hA hv hl;unfold IxRes at hcon;generalize idxB (laterOne id) vs=r at *;generalize vs.any (laterOne id)=q at *;clear hA hv;go_enter Tryz.func242,Tryz.ntmps242;go_wp2_with fail;refine hcon.mono ?_;rintro e w1 ⟨rfl,hb1⟩;have HB:=Lh hb1;clear hb1 hcon;go_wp2;go_ret;exact⟨rvl (congrArg Value.bool HI.o),HB.o⟩
attribute [local irreducible] laterB refsM
theorem plater_any(id:PidM)(o:OpM)(w:World):Calls Tryz.prog 180 #[pidV id,opV o] w fun e w'=>e=.returned (.bool (laterB id o))∧Be w w':=by have HA:=Lh ((anw w (cP id) 25).alloc (.cells (cO o) 76));have HB:=Lh ((bnew (w:=w) (.cells (cP id) 25)).alloc (by simp) (.cells (cO o) 76));have hrl:=refs_len o;have HL:=Lh (laterB_eq id o);unfold pidV opV;go_enter Tryz.func180,Tryz.ntmps180;go_wp2_with fail;generalize (w.alloc (.cells (cP id) 25)).alloc (.cells (cO o) 76)=w0 at *;refine(prefs_any o _).mono ?_;rintro e w1 ⟨v1,rfl,hv1,hb1⟩;have HV1:=Lh (RefsAt.vrow hv1);have HB1:=Lh hb1;clear hv1 hb1;go_wp2_with fail;refine(conLater_any id v1 (refsM o) _ w1 (HA.o.over HB1.o) HV1.o (by omega)).mono ?_;rintro e w2 ⟨rfl,hb2⟩;rw [← HL.o];have HB2:=Lh hb2;clear hb2;go_wp2;go_ret;exact⟨rfl,bvo HB.o (bvo HB1.o HB2.o)⟩
theorem equalPid_any(v u:Value)(l m:List PidM)(w:World)(hv:GRow encPid 2 w v l)(hu:GRow encPid 2 w u m) :
  Calls Tryz.prog 178 #[v,u] w fun e w'=>e=.returned (.bool (decide (l=m)))∧Be w w':=by
 obtain⟨a,cap,rfl,h1,h2,hc⟩:=hv.at encPid_len;obtain⟨a',cap',rfl,h1',h2',hc'⟩:=hu.at encPid_len;unfold maxLen at h2 h2';have HC:=Lh hc;have HC':=Lh hc';clear hv hu hc hc';have gd:=fun p q xs ys w=>guard_pid .neq p q xs ys w
 by_cases hlen:l.length=m.length
 rotate_left
 ·
  have HN:Hid (decide (l=m)=false):=decide_eq_false (fun h=>hlen (by rw [h]));have hq:((l.length:Int) != (m.length:Int))=true:=by simp;omega
  clear hlen;go_enter Tryz.func178,Tryz.ntmps178;go_wp2;go_ret;exact⟨rvb HN.o,Below.refl _ _⟩
 have HL:=Lh hlen;have hq:((l.length:Int) != (m.length:Int))=false:=by simp [hlen]
 clear hlen;go_enter Tryz.func178,Tryz.ntmps178;go_wp2;go_loopw [13] (fun i wr=>∃ k:Nat,k≤l.length∧i=.int .i64 k∧Hid (l.take k=m.take k)∧Be w wr) (fun i _=>l.length - (intOf i).toNat)
 case atStart=>exact⟨0,by omega,rfl,rfl,Below.refl _ _⟩
 obtain⟨k,hk,rfl,HK,hbl⟩:=hrel
 by_cases hlt:k<l.length
 rotate_left
 ·
  obtain rfl:k=l.length:=by omega
  have HN:Hid (decide (l=m)=true):=decide_eq_true (take_all HL.o HK.o);go_wp2;go_ret;exact⟨rvb HN.o,hbl⟩
 obtain⟨bl,ol,rfl,sl,hcl⟩:=HC.o.resolve_left (by omega);obtain⟨bm,om,rfl,sm,hcm⟩:=HC'.out.resolve_left (by have:=HL.o;omega);obtain⟨x,hx⟩:=gol hlt;obtain⟨y,hy⟩:=gol (xs:=m) (i:=k) (by have:=HL.o;omega);have hkm:k<m.length:=by have:=HL.o;omega
 have x0:wr.cell? ⟨bl,ol+k*2,none⟩=some (.int .u8 x.author.toNat):=((hcl k x hx wr hbl)).2 0 _ rfl;have x1:wr.cell? ⟨bl,ol+k*2+1,none⟩=some (.int .u16 x.seq.toNat):=((hcl k x hx wr hbl)).2 1 _ rfl;have y0:wr.cell? ⟨bm,om+k*2,none⟩=some (.int .u8 y.author.toNat):=((hcm k y hy wr hbl)).2 0 _ rfl;have y1:wr.cell? ⟨bm,om+k*2+1,none⟩=some (.int .u16 y.seq.toNat):=((hcm k y hy wr hbl)).2 1 _ rfl;have sX:=(hcl k x hx wr hbl).1;have sY:=(hcm k y hy wr hbl).1;have HX:=Lh hx;have HY:=Lh hy;clear hcl hcm hx hy
 by_cases hxy:x=y
 ·
  have hne:=neq_pid x y false (by simp [hxy]);unfold pidV at hne;have HK2:Hid (l.take (k+1)=m.take (k+1)):=by show _=_;rw [tsg HX.o,tsg HY.o,HK.o,hxy]
  clear hxy;go_wp2_with fail;refine wlo 9 fun hcur=>?_;repeat refine lxq ?_
  refine lxe ?_;go_wp2;go_roundw
  case rel=>exact⟨k+1,hlt,by go_num,HK2,hbl.drew⟩
  simp [intOf];omega
 have hne:=neq_pid x y true (by simp [hxy]);unfold pidV at hne;have HN:Hid (decide (l=m)=false):=decide_eq_false (take_ne HX.o HY.o hxy);clear hxy;go_wp2_with fail;refine wlo 9 fun hcur=>?_;repeat refine lxq ?_
 refine lxe ?_;go_wp2;go_ret;exact⟨rvb HN.o,hbl.drew⟩
end
variable{ops:List OpM}{o:OpM}{id:PidM}{v:VidM}
abbrev patV(id:PidM)(dv ov:Value):Value:=.agg #[.int .u8 id.author.toNat,.int .u16 id.seq.toNat,dv,ov]
def kindM(id:PidM)(ops:List OpM)(v:VidM):Option UInt8:=if v.pid=id then(ops[v.n.toNat]?).map (·.kind) else none
def kindV(k:Option UInt8):Value:=.tuple #[.int .u8 ((k.getD 0).toNat:Int),.bool k.isSome]
def KindRes(w:World)(k:Option UInt8)(e:Ending)(w':World):Prop:=e=.returned (kindV k)∧Be w w'
theorem kind_far(h:¬ v.pid=id):kindM id ops v=none:=by unfold kindM;rw [if_neg h]
theorem kind_out(h:ops.length≤v.n.toNat):kindM id ops v=none:=by
 unfold kindM;split
 · rw [List.getElem?_eq_none h];rfl
 rfl
theorem kind_in(h:v.pid=id)(ho:ops[v.n.toNat]? = some o):kindM id ops v=some o.kind:=by unfold kindM;rw [if_pos h,ho];rfl
theorem get_op{n:Nat}(h:n<ops.length):∃ o,ops[n]? = some o:=gol h
attribute [local irreducible] kindM
theorem pkind_any(id:PidM)(dv ov:Value)(ops:List OpM)(v:VidM)(w:World)(hv:GRow encOp 8 w ov ops) :
  Calls Tryz.prog 244 #[patV id dv ov,vidV v] w (KindRes w (kindM id ops v)):=by
 obtain⟨a,cap,rfl,h1,h2,hc⟩:=hv.at encOp_len;unfold maxLen at h2;have HC:=Lh hc;have HP:=Lh ((anw w #[.int .u8 id.author.toNat,.int .u16 id.seq.toNat,dv,.slice a ops.length cap] 44).alloc (.cells (cV v) 74));have HV:=Lh (an2 w (.cells #[.int .u8 id.author.toNat,.int .u16 id.seq.toNat,dv,.slice a ops.length cap] 44) (cV v) 74);have HB:=Lh ((bnew (w:=w) (.cells #[.int .u8 id.author.toNat,.int .u16 id.seq.toNat,dv,.slice a ops.length cap] 44)).alloc (by simp) (.cells (cV v) 74));have gd:=fun p q xs ys w=>guard_pid .neq p q xs ys w;have hnl:=v.n.toNat_lt;clear hv hc;unfold patV vidV;go_enter Tryz.func244,Tryz.ntmps244;go_upto_region 1 with fail;generalize (w.alloc (.cells #[.int .u8 id.author.toNat,.int .u16 id.seq.toNat,dv,.slice a ops.length cap] 44)).alloc (.cells (cV v) 74)=w0 at *;obtain⟨p0,p1,p2,p3,sp⟩:=HP.o.c4;obtain⟨v0,v1,v2,sv⟩:=HV.o.c3
 by_cases hp:v.pid=id
 rotate_left
 · have e1:=neq_pid v.pid id true (by simp [hp]);unfold pidV at e1;have HK:=Lh (kind_far (ops:=ops) hp);clear hp;go_wp2;go_ret2;exact⟨(by rw [HK.o];rfl),HB.o⟩
 have e1:=neq_pid v.pid id false (by simp [hp]);unfold pidV at e1
 by_cases hn:ops.length≤v.n.toNat
 ·
  have e2:decide (ops.length≤v.n.toNat)=true:=by simpa using hn
  have HK:=Lh (kind_out (id:=id) hn);clear hp hn;go_wp2;go_ret2;exact⟨(by rw [HK.o];rfl),HB.o⟩
 have e2:decide (ops.length≤v.n.toNat)=false:=by simpa using hn
 obtain⟨b,off,rfl,sb,hcb⟩:=HC.o.resolve_left (by omega);obtain⟨o,ho⟩:=get_op (show v.n.toNat<ops.length by omega);have HO:=Lh (hcb v.n.toNat o ho w0 HB.o);have HK:=Lh (kind_in hp ho);obtain⟨o0,so⟩:=rc1 HO.o;have hlt:v.n.toNat<ops.length:=by omega
 clear hp hn hcb ho;go_wp2;go_ret2;exact⟨(by rw [HK.o];rfl),HB.o⟩
def wantK(o:OpM):UInt8:=if o.kind=4 then 3 else 1
def kindOkB(id:PidM)(ops:List OpM)(o:OpM)(v:VidM):Bool:=match kindM id ops v with|some k=>k == wantK o|none=>true
def sameAtB(id:PidM)(ops:List OpM)(o:OpM):Bool:=if o.kind=4∧o.at'.pid=id∧o.to.pid=id then decide ((ops[o.at'.n.toNat]?).map (·.at')=(ops[o.to.n.toNat]?).map (·.at')) else true
def suitsM(id:PidM)(ops:List OpM)(o:OpM):Bool:=(refsM o).all (kindOkB id ops o) && sameAtB id ops o
theorem want4(h:o.kind.toNat=4):wantK o=3:=by unfold wantK;have:o.kind=4:=(u8_nat _ 4 (by omega)).2 h;rw [if_pos this]
theorem want1(h:¬ o.kind.toNat=4):wantK o=1:=by unfold wantK;have:¬ o.kind=4:=fun e=>h ((u8_nat _ 4 (by omega)).1 e);rw [if_neg this]
theorem suits_no{k:Nat}(hv:(refsM o)[k]? = some v)(h:kindOkB id ops o v=false):suitsM id ops o=false:=by unfold suitsM;have:(refsM o).all (kindOkB id ops o)=false:=List.all_eq_false.2 ⟨v,List.mem_of_getElem? hv,by simp [h]⟩;rw [this];rfl
theorem suits_end(h:((refsM o).take (refsM o).length).all (kindOkB id ops o)=true):suitsM id ops o=sameAtB id ops o:=by rw [List.take_length] at h;unfold suitsM;rw [h];rfl
theorem all_take'{α:Type}{f:α→Bool}{l:List α}{k:Nat}{x:α}(hx:l[k]? = some x)(h:(l.take k).all f=true)(hf:f x=true):(l.take (k+1)).all f=true:=by rw [tsg hx,List.all_append,h];simp [hf]
theorem sameAt_not(h:¬ (o.kind.toNat=4∧o.at'.pid=id∧o.to.pid=id)):sameAtB id ops o=true:=by unfold sameAtB;rw [if_neg];rintro⟨h1,h2,h3⟩;exact h ⟨(u8_nat _ 4 (by omega)).1 h1,h2,h3⟩
theorem sameAt_yes{a b:OpM}(h:o.kind.toNat=4)(h1:o.at'.pid=id)(h2:o.to.pid=id)(ha:ops[o.at'.n.toNat]? = some a)(hb:ops[o.to.n.toNat]? = some b):sameAtB id ops o=decide (a.at'=b.at'):=by unfold sameAtB;rw [if_pos ⟨(u8_nat _ 4 (by omega)).2 h,h1,h2⟩,ha,hb];simp
attribute [local irreducible] refsM kindOkB sameAtB suitsM wantK
theorem psuits_any(id:PidM)(dv ov:Value)(ops:List OpM)(o:OpM)(w:World)(hv:GRow encOp 8 w ov ops)(hown:∀ v∈refsM o,v.pid=id→v.n.toNat<ops.length) :
  Calls Tryz.prog 181 #[patV id dv ov,opV o] w fun e w'=>e=.returned (.bool (suitsM id ops o))∧Be w w':=by
 have HV0:=Lh hv;obtain⟨a,cap,rfl,h1,h2,hc⟩:=hv.at encOp_len;unfold maxLen at h2;have HC:=Lh hc;have HW:=Lh hown;have HP:=Lh ((anw w #[.int .u8 id.author.toNat,.int .u16 id.seq.toNat,dv,.slice a ops.length cap] 44).alloc (.cells (cO o) 76));have HO:=Lh (an2 w (.cells #[.int .u8 id.author.toNat,.int .u16 id.seq.toNat,dv,.slice a ops.length cap] 44) (cO o) 76);have HB:=Lh ((bnew (w:=w) (.cells #[.int .u8 id.author.toNat,.int .u16 id.seq.toNat,dv,.slice a ops.length cap] 44)).alloc (by simp) (.cells (cO o) 76));have gd:=fun p q xs ys w=>guard_pid .eql p q xs ys w;have gd2:=fun p q xs ys w=>guard_vid .eql p q xs ys w;have hrl:=refs_len o;clear hv hc hown;unfold patV opV;go_enter Tryz.func181,Tryz.ntmps181;go_upto_if 12 with fail;generalize (w.alloc (.cells #[.int .u8 id.author.toNat,.int .u16 id.seq.toNat,dv,.slice a ops.length cap] 44)).alloc (.cells (cO o) 76)=w0 at *;have HV:=Lh (HV0.o.over HB.o);go_cut [5] (fun s5 wx=>s5=.int .u8 ((wantK o).toNat:Int)∧wx=w0)
 case first =>
  obtain⟨o0,so⟩:=HO.o.c1
  by_cases h4:o.kind.toNat=4
  · have e1:((o.kind.toNat:Int) == 4)=true:=(by simp;omega);have HWk:=Lh (want4 h4);clear h4;go_wp2;go_meet;exact⟨by rw [HWk.o];rfl,rfl⟩
  have e1:((o.kind.toNat:Int) == 4)=false:=by simp;omega
  have HWk:=Lh (want1 h4);clear h4;go_wp2;go_meet;exact⟨by rw [HWk.o];rfl,rfl⟩
 obtain⟨rfl,rfl⟩:=hcut;rename World=>w0;obtain⟨o0,o1,o2,o3,o4,o5,o6,o7,so⟩:=HO.o.c8;go_wp2_with fail;refine(prefs_any o _).mono ?_;rintro e w1 ⟨v1,rfl,hv1,hb1⟩;obtain⟨a1,cap1,rfl,q1,q2,hc1⟩:=(GRow.at encVid_len (RefsAt.vrow hv1));unfold maxLen at q2;have HC1:=Lh hc1;have HB1:=Lh hb1;clear hv1 hb1 hc1 o0 o1 o2 o3 o4 o5 o6 o7 so;go_wp2;go_loopw [16] (fun v16 wr=>∃ k:Nat,k≤(refsM o).length∧v16=.int .i64 k∧Hid (((refsM o).take k).all (kindOkB id ops o)=true)∧Be w1 wr) (fun v16 _=>(refsM o).length - (intOf v16).toNat)
 case atStart=>exact⟨0,by omega,rfl,(by show _=_;simp),Below.refl _ _⟩
 obtain⟨k,hk,rfl,HK,hbl⟩:=hrel;have HBw:=Lh (bvo HB1.o hbl)
 by_cases hlt:k<(refsM o).length
 ·
  obtain⟨b,off,rfl,sb,hcb⟩:=HC1.o.resolve_left (by omega);obtain⟨v,hv⟩:=gol hlt;have HVd:=Lh (hcb k v hv wr hbl);obtain⟨v0,v1,v2,sv⟩:=rc3 HVd.o;have HX:=Lh hv;have HPw:=Lh ((HP.o.over HBw.o));obtain⟨p0,p1,p2,p3,sp⟩:=HPw.o.c4;have HBv:Hid (Be wr (wr.alloc (.cells (cV v) 74))):=bnew _;have HVw:=Lh ((HV.o.over HBw.o).over HBv.o);clear hcb hv;go_wp2_with fail;refine(pkind_any id dv _ ops v _ HVw.o).mono ?_;rintro e w2 ⟨rfl,hb2⟩;have HB2:=Lh (bov (bvo hbl HBv.o) (by have:=hbl.size;simp;omega) hb2);have HB3:=Lh (bvo HB.o (bvo HB1.o HB2.o));clear hb2 v0 v1 v2 sv p0 p1 p2 p3 sp;unfold kindV;cases hkm:kindM id ops v with
  | none =>
   have HKo:Hid (kindOkB id ops o v=true):=(by show _=_;unfold kindOkB;rw [hkm]);have HN:=Lh (all_take' HX.o HK.o HKo.o);clear hkm;go_wp2;go_roundw
   case rel=>exact⟨k+1,hlt,by go_num,HN,HB2.o⟩
   simp [intOf];omega
  | some q =>
   by_cases hq:q=wantK o
   ·
    have HKo:Hid (kindOkB id ops o v=true):=(by show _=_;unfold kindOkB;rw [hkm];simp [hq]);have HN:=Lh (all_take' HX.o HK.o HKo.o);have e1:((q.toNat:Int) != ((wantK o).toNat:Int))=false:=(by simp [hq]);clear hkm hq;go_wp2;go_roundw
    case rel=>exact⟨k+1,hlt,by go_num,HN,HB2.o⟩
    simp [intOf];omega
   have HKo:Hid (kindOkB id ops o v=false):=(by show _=_;unfold kindOkB;rw [hkm];simp [hq]);have HN:=Lh (suits_no HX.o HKo.o);have e1:((q.toNat:Int) != ((wantK o).toNat:Int))=true:=(by simp;intro h;exact hq (UInt8.toNat_inj.1 (by omega)));clear hkm hq;go_wp2;go_ret;exact⟨rvb HN.o,HB3.o⟩
 obtain rfl:k=(refsM o).length:=by omega
 have HE:=Lh (suits_end HK.o);have HBe:=Lh (bvo HB.o HBw.o);have HOw:=Lh ((HO.o.over HBw.o));have HPw:=Lh ((HP.o.over HBw.o));obtain⟨o0,o1,o2,o3,o4,o5,o6,so⟩:=HOw.o.c7;obtain⟨p0,p1,_⟩:=HPw.o.c2;have p3:=HPw.o.k 3 rfl;have sp:=HPw.o.lt
 by_cases h4:o.kind.toNat=4
 rotate_left
 ·
  have e1:((o.kind.toNat:Int) == 4)=false:=by simp;omega
  have HS:Hid (sameAtB id ops o=true):=sameAt_not (fun h=>h4 h.1);clear h4;go_wp2;go_ret;exact⟨rvl (congrArg Value.bool (HE.o.trans HS.o).symm),HBe.o⟩
 have e1:((o.kind.toNat:Int) == 4)=true:=by simp;omega
 by_cases ha:o.at'.pid=id
 rotate_left
 · have e2:=eql_pid o.at'.pid id false (by simp [ha]);unfold pidV at e2;have HS:Hid (sameAtB id ops o=true):=sameAt_not (fun h=>ha h.2.1);clear h4 ha;go_wp2;go_ret;exact⟨rvl (congrArg Value.bool (HE.o.trans HS.o).symm),HBe.o⟩
 have e2:=eql_pid o.at'.pid id true (by simp [ha]);unfold pidV at e2
 by_cases hb:o.to.pid=id
 rotate_left
 · have e3:=eql_pid o.to.pid id false (by simp [hb]);unfold pidV at e3;have HS:Hid (sameAtB id ops o=true):=sameAt_not (fun h=>hb h.2.2);clear h4 ha hb;go_wp2;go_ret;exact⟨rvl (congrArg Value.bool (HE.o.trans HS.o).symm),HBe.o⟩
 have e3:=eql_pid o.to.pid id true (by simp [hb]);unfold pidV at e3;have hr2:=refs_two h4;have hla:=HW.o o.at' (by rw [hr2];simp) ha;have hlb:=HW.o o.to (by rw [hr2];simp) hb;obtain⟨b,off,rfl,sb,hcb⟩:=HC.o.resolve_left (by omega);obtain⟨x,hx⟩:=get_op hla;obtain⟨y,hy⟩:=get_op hlb;have HXa:=Lh (hcb _ x hx wr HBe.o);have HYa:=Lh (hcb _ y hy wr HBe.o);have HS:=Lh (sameAt_yes h4 ha hb hx hy);have x1:wr.cell? ⟨b,off+o.at'.n.toNat*8+1,none⟩=some (.int .u8 x.at'.pid.author.toNat):=HXa.o.2 1 _ rfl;have x2:wr.cell? ⟨b,off+o.at'.n.toNat*8+2,none⟩=some (.int .u16 x.at'.pid.seq.toNat):=HXa.o.2 2 _ rfl;have x3:wr.cell? ⟨b,off+o.at'.n.toNat*8+3,none⟩=some (.int .u8 x.at'.n.toNat):=HXa.o.2 3 _ rfl;have y1:wr.cell? ⟨b,off+o.to.n.toNat*8+1,none⟩=some (.int .u8 y.at'.pid.author.toNat):=HYa.o.2 1 _ rfl;have y2:wr.cell? ⟨b,off+o.to.n.toNat*8+2,none⟩=some (.int .u16 y.at'.pid.seq.toNat):=HYa.o.2 2 _ rfl;have y3:wr.cell? ⟨b,off+o.to.n.toNat*8+3,none⟩=some (.int .u8 y.at'.n.toNat):=HYa.o.2 3 _ rfl;have sxy:=HXa.o.1;have e4:=eql_vid x.at' y.at' _ rfl;unfold vidV at e4;generalize decide (x.at'=y.at')=q at *;have hna:=o.at'.n.toNat_lt;have hnb:=o.to.n.toNat_lt;clear h4 ha hb hr2 hcb hx hy;go_wp2_with fail;refine wlo 17 fun hcur=>?_;repeat refine lxq ?_
 refine lxe ?_;go_wp2;go_ret;exact⟨rvl (congrArg Value.bool (HE.o.trans HS.o).symm),bvo HB.o (bvo HB1.o hbl.drew)⟩
end Go.Proofs.YtjccmcgglfncdaaGreatDoor
