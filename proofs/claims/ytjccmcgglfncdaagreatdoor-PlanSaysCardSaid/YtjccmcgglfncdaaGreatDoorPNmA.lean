/- What is proved: PlanSays, for every input; of the listed tables the walk needs the powers of ten. -/
import Derived.Test.YtjccmcgglfncdaaGreatDoorPPDeps
import Derived.Test.YtjccmcgglfncdaaGreatDoorPNmP
set_option linter.unusedVariables false
set_option linter.unusedSimpArgs false
set_option maxRecDepth 100000
set_option maxHeartbeats 40000000
namespace Go.Proofs.YtjccmcgglfncdaaGreatDoor
open Go Go.RowKit
def laterP(a b:PidM):Int:=if a=b then 0 else if a.seq.toNat<b.seq.toNat then -1 else if a.seq.toNat=b.seq.toNat∧a.author.toNat<b.author.toNat then -1 else 1
theorem laterP_key(a b:PidM):laterP a b=cmpN (a.seq.toNat*256+a.author.toNat) (b.seq.toNat*256+b.author.toNat):=by
 have h1:=a.author.toNat_lt;have h2:=b.author.toNat_lt;unfold laterP
 by_cases h:a=b
 · rw [if_pos h,h,cmpN_eq rfl]
 have hne:¬ (a.seq.toNat=b.seq.toNat∧a.author.toNat=b.author.toNat):=fun⟨e1,e2⟩=>h (by obtain⟨a1,a2⟩:=a;obtain⟨b1,b2⟩:=b;simp at e1 e2;rw [UInt16.toNat_inj.1 e1,UInt8.toNat_inj.1 e2]);rw [if_neg h]
 by_cases h3:a.seq.toNat<b.seq.toNat
 · rw [if_pos h3,cmpN_lt (by omega)]
 rw [if_neg h3]
 by_cases h4:a.seq.toNat=b.seq.toNat∧a.author.toNat<b.author.toNat
 · rw [if_pos h4,cmpN_lt (by omega)]
 rw [if_neg h4,cmpN_gt (by omega)]
def orI(x y:Int):Int:=if x=0 then y else x
theorem or_lex(A B m n:Nat)(h1:m<256)(h2:n<256):orI (cmpN A B) (cmpN m n)=cmpN (A*256+m) (B*256+n):=by
 unfold orI;rcases Nat.lt_trichotomy A B with h|h|h
 ·
  have h3:A*256+m<B*256+n:=by omega
  rw [cmpN_lt h,cmpN_lt h3,if_neg (by decide)]
 ·
  subst h;rw [cmpN_eq rfl,if_pos rfl];rcases Nat.lt_trichotomy m n with h3|h3|h3
  · have h4:A*256+m<A*256+n:=(by omega);rw [cmpN_lt h3,cmpN_lt h4]
  · subst h3;rw [cmpN_eq rfl,cmpN_eq rfl]
  have h4:A*256+n<A*256+m:=by omega
  rw [cmpN_gt h3,cmpN_gt h4]
 have h3:B*256+n<A*256+m:=by omega
 rw [cmpN_gt h,cmpN_gt h3,if_neg (by decide)]
theorem later_or(a b:VidM):orI (laterP a.pid b.pid) (cmpN a.n.toNat b.n.toNat)=cmpLater a b:=by rw [laterP_key];exact or_lex _ _ _ _ a.n.toNat_lt b.n.toNat_lt
attribute [local irreducible] laterP cmpN orI
theorem platerG(a b:PidM)(w:World):Calls Tryz.prog 215 #[pidV a,pidV b] w fun e w'=>e=.returned (.int .i64 (laterP a b))∧Grew w w':=by
 have HA:=Lh ((anw w (cP a) 25).alloc (.cells (cP b) 25));have HC:=Lh (an2 w (.cells (cP a) 25) (cP b) 25);have HB:=Lh (((Grew.refl w).alloc (.cells (cP a) 25)).alloc (.cells (cP b) 25));have gd:=fun p q xs ys w=>guard_pid .eql p q xs ys w;have s1:(a.seq.toNat:Int)<65536:=by have:=a.seq.toNat_lt;omega
 have s2:(b.seq.toNat:Int)<65536:=by have:=b.seq.toNat_lt;omega
 by_cases h0:a=b
 ·
  have e0:=eql_pid a b true (by simp [h0]);have HV:Hid (laterP a b=0):=by show _=_;unfold laterP;rw [if_pos h0]
  clear h0;unfold pidV at e0 ⊢;go_enter Tryz.func215,Tryz.ntmps215;go_upto_region 1 with fail;generalize (w.alloc (.cells (cP a) 25)).alloc (.cells (cP b) 25)=w0 at *;obtain⟨c0,c1,sc⟩:=HA.o.c2;obtain⟨d0,d1,sd⟩:=HC.o.c2;go_wp2;go_ret;exact⟨ret_int HV.o.symm,HB.o⟩
 have e0:=eql_pid a b false (by simp [h0]);unfold pidV at e0 ⊢
 by_cases h1:a.seq.toNat<b.seq.toNat
 ·
  have d1:decide (a.seq.toNat<b.seq.toNat)=true:=by simpa using h1
  have HV:Hid (laterP a b = -1):=by show _=_;unfold laterP;rw [if_neg h0,if_pos h1]
  clear h0;go_enter Tryz.func215,Tryz.ntmps215;go_upto_region 1 with fail;generalize (w.alloc (.cells (cP a) 25)).alloc (.cells (cP b) 25)=w0 at *;obtain⟨c0,c1,sc⟩:=HA.o.c2;obtain⟨d0,d1,sd⟩:=HC.o.c2;go_wp2;go_ret;exact⟨ret_int HV.o.symm,HB.o⟩
 have d1:decide (a.seq.toNat<b.seq.toNat)=false:=by simpa using h1
 by_cases h2:a.seq.toNat=b.seq.toNat
 rotate_left
 ·
  have d2:((a.seq.toNat:Int) == (b.seq.toNat:Int))=false:=by simp;omega
  have HV:Hid (laterP a b=1):=by show _=_;unfold laterP;rw [if_neg h0,if_neg h1,if_neg (fun q=>h2 q.1)]
  clear h0 h1 h2;go_enter Tryz.func215,Tryz.ntmps215;go_upto_region 1 with fail;generalize (w.alloc (.cells (cP a) 25)).alloc (.cells (cP b) 25)=w0 at *;obtain⟨c0,c1,sc⟩:=HA.o.c2;obtain⟨d0,d1,sd⟩:=HC.o.c2;go_wp2;go_ret;exact⟨ret_int HV.o.symm,HB.o⟩
 have d2:((a.seq.toNat:Int) == (b.seq.toNat:Int))=true:=by simp [h2]
 by_cases h3:a.author.toNat<b.author.toNat
 ·
  have d3:decide (a.author.toNat<b.author.toNat)=true:=by simpa using h3
  have HV:Hid (laterP a b = -1):=by show _=_;unfold laterP;rw [if_neg h0,if_neg h1,if_pos ⟨h2,h3⟩]
  clear h0 h1 h2;go_enter Tryz.func215,Tryz.ntmps215;go_upto_region 1 with fail;generalize (w.alloc (.cells (cP a) 25)).alloc (.cells (cP b) 25)=w0 at *;obtain⟨c0,c1,sc⟩:=HA.o.c2;obtain⟨d0,d1,sd⟩:=HC.o.c2;go_wp2;go_ret;exact⟨ret_int HV.o.symm,HB.o⟩
 have d3:decide (a.author.toNat<b.author.toNat)=false:=by simpa using h3
 have HV:Hid (laterP a b=1):=by show _=_;unfold laterP;rw [if_neg h0,if_neg h1,if_neg (fun q=>h3 q.2)]
 clear h0 h1 h2;go_enter Tryz.func215,Tryz.ntmps215;go_upto_region 1 with fail;generalize (w.alloc (.cells (cP a) 25)).alloc (.cells (cP b) 25)=w0 at *;obtain⟨c0,c1,sc⟩:=HA.o.c2;obtain⟨d0,d1,sd⟩:=HC.o.c2;go_wp2;go_ret;exact⟨ret_int HV.o.symm,HB.o⟩
theorem nan8_any(a:Nat)(w:World):Calls Tryz.prog 266 #[.int .u8 a] w fun e w'=>e=.returned (.bool false)∧w'=w:=by go_enter Tryz.func266,Tryz.ntmps266;go_wp2;go_ret;exact⟨rfl,rfl⟩
theorem compare8_any(a b:Nat)(w:World):Calls Tryz.prog 216 #[.int .u8 a,.int .u8 b] w fun e w'=>e=.returned (.int .i64 (cmpN a b))∧w'=w:=by
 by_cases h1:a<b
 ·
  have HC:=Lh (cmpN_lt h1);have d1:decide (a<b)=true:=by simpa using h1
  go_enter Tryz.func216,Tryz.ntmps216;go_wp2_with (go_at_call 266;(with_reducible refine(nan8_any _ _).mono ?_);rintro e w' ⟨rfl,rfl⟩);go_ret;exact⟨ret_int HC.o.symm,rfl⟩
 have d1:decide (a<b)=false:=by simpa using h1
 by_cases h2:b<a
 ·
  have HC:=Lh (cmpN_gt h2);have d2:decide (b<a)=true:=by simpa using h2
  go_enter Tryz.func216,Tryz.ntmps216;go_wp2_with (go_at_call 266;(with_reducible refine(nan8_any _ _).mono ?_);rintro e w' ⟨rfl,rfl⟩);go_ret;exact⟨ret_int HC.o.symm,rfl⟩
 have HC:=Lh (cmpN_eq (show a=b by omega));have d2:decide (b<a)=false:=by simpa using h2
 go_enter Tryz.func216,Tryz.ntmps216;go_wp2_with (go_at_call 266;(with_reducible refine(nan8_any _ _).mono ?_);rintro e w' ⟨rfl,rfl⟩);go_ret;exact⟨ret_int HC.o.symm,rfl⟩
theorem orInt_any(x y:Int)(b:Nat)(w:World)(hA:Arr w b [.int .i64 x,.int .i64 y]):Calls Tryz.prog 206 #[.slice (some ⟨b,0,none⟩) 2 2] w fun e w'=>e=.returned (.int .i64 (orI x y))∧w'=w:=by
 obtain⟨c0,c1,_⟩:=hA.c2;clear hA;go_enter Tryz.func206,Tryz.ntmps206;go_wp2;go_loopw [8] (fun v8 wr=>∃ k:Nat,k≤2∧v8=.int .i64 k∧Hid (1≤k→x=0)∧Hid (2≤k→y=0)∧wr=w) (fun v8 _=>2 - (intOf v8).toNat)
 case atStart=>exact⟨0,by omega,rfl,Lh (fun h=>by omega),Lh (fun h=>by omega),rfl⟩
 obtain⟨k,hk,rfl,HX,HY,rfl⟩:=hrel
 by_cases k0:k=0
 ·
  subst k0
  by_cases hx:x=0
  ·
   have d:(x == 0)=true:=(by simp [hx]);have H1:Hid (1≤1→x=0):=fun _=>hx;have H2:Hid (2≤1→y=0):=fun h=>by omega
   clear hx;go_wp2;go_roundw
   case rel=>exact⟨1,by omega,by go_num,H1,H2,trivial⟩
   simp [intOf]
  have d:(x == 0)=false:=by simp [hx]
  have HV:Hid (orI x y=x):=by show _=_;unfold orI;rw [if_neg hx]
  clear hx;go_wp2;go_ret;exact⟨ret_int HV.o.symm,rfl⟩
 by_cases k1:k=1
 ·
  subst k1;have hx:=HX.o (Nat.le_refl _)
  by_cases hy:y=0
  ·
   have d:(y == 0)=true:=(by simp [hy]);have H1:Hid (1≤2→x=0):=fun _=>hx;have H2:Hid (2≤2→y=0):=fun _=>hy;clear hx hy;go_wp2;go_roundw
   case rel=>exact⟨2,by omega,by go_num,H1,H2,trivial⟩
   simp [intOf]
  have d:(y == 0)=false:=by simp [hy]
  have HV:Hid (orI x y=y):=by show _=_;unfold orI;rw [if_pos hx]
  clear hx hy;go_wp2;go_ret;exact⟨ret_int HV.o.symm,rfl⟩
 obtain rfl:k=2:=by omega
 have HV:Hid (orI x y=0):=by show _=_;unfold orI;rw [if_pos (HX.o (by omega)),HY.o (Nat.le_refl _)]
 go_wp2;go_ret;exact⟨ret_int HV.o.symm,rfl⟩
theorem vlaterG(a b:VidM)(w:World):Calls Tryz.prog 142 #[vidV a,vidV b] w fun e w'=>e=.returned (.int .i64 (cmpLater a b))∧Grew w w':=by
 have HA:=Lh ((anw w (cV a) 74).alloc (.cells (cV b) 74));have HC:=Lh (an2 w (.cells (cV a) 74) (cV b) 74);have HB:=Lh (((Grew.refl w).alloc (.cells (cV a) 74)).alloc (.cells (cV b) 74));have HV:=Lh (later_or a b);unfold vidV;go_enter Tryz.func142,Tryz.ntmps142;go_upto_region 1 with fail;generalize (w.alloc (.cells (cV a) 74)).alloc (.cells (cV b) 74)=w0 at *;obtain⟨c0,c1,c2,sc⟩:=HA.o.c3;obtain⟨d0,d1,d2,sd⟩:=HC.o.c3;have hcur:Grew w0 w0.drew:=(Grew.refl _).drew;refine wlex (C:=IsGrew w0) 13 [] (by kernel_rfl) (by kernel_rfl) (isGrew_of hcur) ?_;simp only [Tsc,Tz,Dsc,Dz];repeat(first|refine lxq ?_|(refine lxl rfl ?_;go_wp2_with (first|(go_at_call 215;(with_reducible refine(platerG a.pid b.pid _).mono ?_);rintro e w' ⟨rfl,hb⟩;replace hcur:=hcur.trans hb;clear hb)|(go_at_call 216;(with_reducible refine(compare8_any _ _ _).mono ?_);rintro e w' ⟨rfl,rfl⟩)|(go_at_call 206;refine(orInt_any _ _ _ _ (anw _ _ _)).mono ?_;rintro e w' ⟨rfl,rfl⟩));refine⟨isGrew_of (by first|exact hcur|exact hcur.alloc _),?_⟩))
 refine lxe ?_;go_wp2;go_ret;exact⟨ret_int HV.o,HB.o.trans (by first|exact hcur|exact hcur.alloc _)⟩
end Go.Proofs.YtjccmcgglfncdaaGreatDoor
