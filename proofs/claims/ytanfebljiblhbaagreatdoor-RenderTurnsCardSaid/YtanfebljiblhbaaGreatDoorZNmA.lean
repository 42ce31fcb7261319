/- Contracts of pid.Later, cmp.Compare at bytes, cmp.Or, vid.Later: told by draws and new blocks alone. -/
import Derived.Test.YtanfebljiblhbaaGreatDoorZPDeps
import Derived.Test.YtanfebljiblhbaaGreatDoorZNmP
set_option linter.unusedVariables false
set_option linter.unusedSimpArgs false
namespace Go.Proofs.YtanfebljiblhbaaGreatDoor
open Go Go.RowKit

def laterP(a b:PidM):Int:=if a=b then 0 else if a.seq.toNat<b.seq.toNat then -1 else if a.seq.toNat=b.seq.toNat∧a.author.toNat<b.author.toNat then -1 else 1
theorem laterP_key(a b:PidM):laterP a b=cmpN (a.seq.toNat*256+a.author.toNat) (b.seq.toNat*256+b.author.toNat):=by
 have h1:=a.author.toNat_lt
 have h2:=b.author.toNat_lt
 unfold laterP
 by_cases h:a=b
 ·
  rw [if_pos h,h,cmpN_eq rfl]
 ·
  have hne:¬ (a.seq.toNat=b.seq.toNat∧a.author.toNat=b.author.toNat):=fun⟨e1,e2⟩=>h (by
   obtain⟨a1,a2⟩:=a
   obtain⟨b1,b2⟩:=b
   simp at e1 e2
   rw [UInt16.toNat_inj.1 e1,UInt8.toNat_inj.1 e2])
  rw [if_neg h]
  by_cases h3:a.seq.toNat<b.seq.toNat
  ·
   rw [if_pos h3,cmpN_lt (by omega)]
  ·
   rw [if_neg h3]
   by_cases h4:a.seq.toNat=b.seq.toNat∧a.author.toNat<b.author.toNat
   ·
    rw [if_pos h4,cmpN_lt (by omega)]
   ·
    rw [if_neg h4,cmpN_gt (by omega)]
def orI(x y:Int):Int:=if x=0 then y else x
theorem or_lex(A B m n:Nat)(h1:m<256)(h2:n<256):orI (cmpN A B) (cmpN m n)=cmpN (A*256+m) (B*256+n):=by
 unfold orI
 rcases Nat.lt_trichotomy A B with h|h|h
 ·
  have h3:A*256+m<B*256+n:=by omega
  rw [cmpN_lt h,cmpN_lt h3,if_neg (by decide)]
 ·
  subst h
  rw [cmpN_eq rfl,if_pos rfl]
  rcases Nat.lt_trichotomy m n with h3|h3|h3
  ·
   have h4:A*256+m<A*256+n:=by omega
   rw [cmpN_lt h3,cmpN_lt h4]
  ·
   subst h3
   rw [cmpN_eq rfl,cmpN_eq rfl]
  ·
   have h4:A*256+n<A*256+m:=by omega
   rw [cmpN_gt h3,cmpN_gt h4]
 ·
  have h3:B*256+n<A*256+m:=by omega
  rw [cmpN_gt h,cmpN_gt h3,if_neg (by decide)]
theorem later_or(a b:VidM):orI (laterP a.pid b.pid) (cmpN a.n.toNat b.n.toNat)=cmpLater a b:=by
 rw [laterP_key]
 exact or_lex _ _ _ _ a.n.toNat_lt b.n.toNat_lt
attribute [local irreducible] laterP cmpN orI
set_option maxHeartbeats 4000000 in
set_option maxRecDepth 100000 in
theorem platerG(a b:PidM)(w:World):Calls Tryz.prog 181 #[pidV a,pidV b] w fun e w'=>e=.returned (.int .i64 (laterP a b))∧Grew w w':=by
 have HA:=Lib.hid ((arr_new w #[.int .u8 a.author.toNat,.int .u16 a.seq.toNat] 25).alloc (.cells #[.int .u8 b.author.toNat,.int .u16 b.seq.toNat] 25))
 have HC:=Lib.hid (arr_new2 w (.cells #[.int .u8 a.author.toNat,.int .u16 a.seq.toNat] 25) #[.int .u8 b.author.toNat,.int .u16 b.seq.toNat] 25)
 have HB:=Lib.hid (((Grew.refl w).alloc (.cells #[.int .u8 a.author.toNat,.int .u16 a.seq.toNat] 25)).alloc (.cells #[.int .u8 b.author.toNat,.int .u16 b.seq.toNat] 25))
 have gd:=fun p q xs ys w=>guard_pid .eql p q xs ys w
 have s1:(a.seq.toNat:Int)<65536:=by have:=a.seq.toNat_lt;omega
 have s2:(b.seq.toNat:Int)<65536:=by have:=b.seq.toNat_lt;omega
 by_cases h0:a=b
 ·
  have e0:=eql_pid a b true (by simp [h0])
  have HV:Hid (laterP a b=0):=by show _=_;unfold laterP;rw [if_pos h0]
  clear h0
  unfold pidV at e0 ⊢
  go_enter Tryz.func181,Tryz.ntmps181
  go_upto_region 1 with(fail)
  generalize hw0:(w.alloc (.cells #[.int .u8 a.author.toNat,.int .u16 a.seq.toNat] 25)).alloc (.cells #[.int .u8 b.author.toNat,.int .u16 b.seq.toNat] 25)=w0 at *
  clear hw0
  have c0:=HA.out.cell (j:=0) rfl
  have c1:=HA.out.cell (j:=1) rfl
  have sc:=HA.out.lt
  have d0:=HC.out.cell (j:=0) rfl
  have d1:=HC.out.cell (j:=1) rfl
  have sd:=HC.out.lt
  go_wp2_with fail
  go_ret
  exact⟨ret_int HV.out.symm,HB.out⟩
 ·
  have e0:=eql_pid a b false (by simp [h0])
  unfold pidV at e0 ⊢
  by_cases h1:a.seq.toNat<b.seq.toNat
  ·
   have d1:decide (a.seq.toNat<b.seq.toNat)=true:=by simpa using h1
   have HV:Hid (laterP a b = -1):=by show _=_;unfold laterP;rw [if_neg h0,if_pos h1]
   clear h0
   go_enter Tryz.func181,Tryz.ntmps181
   go_upto_region 1 with(fail)
   generalize hw0:(w.alloc (.cells #[.int .u8 a.author.toNat,.int .u16 a.seq.toNat] 25)).alloc (.cells #[.int .u8 b.author.toNat,.int .u16 b.seq.toNat] 25)=w0 at *
   clear hw0
   have c0:=HA.out.cell (j:=0) rfl
   have c1:=HA.out.cell (j:=1) rfl
   have sc:=HA.out.lt
   have d0:=HC.out.cell (j:=0) rfl
   have d1:=HC.out.cell (j:=1) rfl
   have sd:=HC.out.lt
   go_wp2_with fail
   go_ret
   exact⟨ret_int HV.out.symm,HB.out⟩
  ·
   have d1:decide (a.seq.toNat<b.seq.toNat)=false:=by simpa using h1
   by_cases h2:a.seq.toNat=b.seq.toNat
   ·
    have d2:((a.seq.toNat:Int) == (b.seq.toNat:Int))=true:=by simp [h2]
    by_cases h3:a.author.toNat<b.author.toNat
    ·
     have d3:decide (a.author.toNat<b.author.toNat)=true:=by simpa using h3
     have HV:Hid (laterP a b = -1):=by show _=_;unfold laterP;rw [if_neg h0,if_neg h1,if_pos ⟨h2,h3⟩]
     clear h0 h1 h2
     go_enter Tryz.func181,Tryz.ntmps181
     go_upto_region 1 with(fail)
     generalize hw0:(w.alloc (.cells #[.int .u8 a.author.toNat,.int .u16 a.seq.toNat] 25)).alloc (.cells #[.int .u8 b.author.toNat,.int .u16 b.seq.toNat] 25)=w0 at *
     clear hw0
     have c0:=HA.out.cell (j:=0) rfl
     have c1:=HA.out.cell (j:=1) rfl
     have sc:=HA.out.lt
     have d0:=HC.out.cell (j:=0) rfl
     have d1:=HC.out.cell (j:=1) rfl
     have sd:=HC.out.lt
     go_wp2_with fail
     go_ret
     exact⟨ret_int HV.out.symm,HB.out⟩
    ·
     have d3:decide (a.author.toNat<b.author.toNat)=false:=by simpa using h3
     have HV:Hid (laterP a b=1):=by show _=_;unfold laterP;rw [if_neg h0,if_neg h1,if_neg (fun q=>h3 q.2)]
     clear h0 h1 h2
     go_enter Tryz.func181,Tryz.ntmps181
     go_upto_region 1 with(fail)
     generalize hw0:(w.alloc (.cells #[.int .u8 a.author.toNat,.int .u16 a.seq.toNat] 25)).alloc (.cells #[.int .u8 b.author.toNat,.int .u16 b.seq.toNat] 25)=w0 at *
     clear hw0
     have c0:=HA.out.cell (j:=0) rfl
     have c1:=HA.out.cell (j:=1) rfl
     have sc:=HA.out.lt
     have d0:=HC.out.cell (j:=0) rfl
     have d1:=HC.out.cell (j:=1) rfl
     have sd:=HC.out.lt
     go_wp2_with fail
     go_ret
     exact⟨ret_int HV.out.symm,HB.out⟩
   ·
    have d2:((a.seq.toNat:Int) == (b.seq.toNat:Int))=false:=by simp;omega
    have HV:Hid (laterP a b=1):=by show _=_;unfold laterP;rw [if_neg h0,if_neg h1,if_neg (fun q=>h2 q.1)]
    clear h0 h1 h2
    go_enter Tryz.func181,Tryz.ntmps181
    go_upto_region 1 with(fail)
    generalize hw0:(w.alloc (.cells #[.int .u8 a.author.toNat,.int .u16 a.seq.toNat] 25)).alloc (.cells #[.int .u8 b.author.toNat,.int .u16 b.seq.toNat] 25)=w0 at *
    clear hw0
    have c0:=HA.out.cell (j:=0) rfl
    have c1:=HA.out.cell (j:=1) rfl
    have sc:=HA.out.lt
    have d0:=HC.out.cell (j:=0) rfl
    have d1:=HC.out.cell (j:=1) rfl
    have sd:=HC.out.lt
    go_wp2_with fail
    go_ret
    exact⟨ret_int HV.out.symm,HB.out⟩
set_option maxHeartbeats 4000000 in
set_option maxRecDepth 100000 in
theorem nan8_any(a:Nat)(w:World):Calls Tryz.prog 232 #[.int .u8 a] w fun e w'=>e=.returned (.bool false)∧w'=w:=by
 go_enter Tryz.func232,Tryz.ntmps232
 go_wp2
 go_ret
 exact⟨rfl,rfl⟩
set_option maxHeartbeats 4000000 in
set_option maxRecDepth 100000 in
theorem compare8_any(a b:Nat)(w:World):Calls Tryz.prog 182 #[.int .u8 a,.int .u8 b] w fun e w'=>e=.returned (.int .i64 (cmpN a b))∧w'=w:=by
 by_cases h1:a<b
 ·
  have HC:=Lib.hid (cmpN_lt h1)
  have d1:decide (a<b)=true:=by simpa using h1
  go_enter Tryz.func182,Tryz.ntmps182
  go_wp2_with (go_at_call 232;(with_reducible refine(nan8_any _ _).mono ?_);rintro e w' ⟨rfl,rfl⟩)
  go_ret
  exact⟨ret_int HC.out.symm,rfl⟩
 ·
  have d1:decide (a<b)=false:=by simpa using h1
  by_cases h2:b<a
  ·
   have HC:=Lib.hid (cmpN_gt h2)
   have d2:decide (b<a)=true:=by simpa using h2
   go_enter Tryz.func182,Tryz.ntmps182
   go_wp2_with (go_at_call 232;(with_reducible refine(nan8_any _ _).mono ?_);rintro e w' ⟨rfl,rfl⟩)
   go_ret
   exact⟨ret_int HC.out.symm,rfl⟩
  ·
   have HC:=Lib.hid (cmpN_eq (show a=b by omega))
   have d2:decide (b<a)=false:=by simpa using h2
   go_enter Tryz.func182,Tryz.ntmps182
   go_wp2_with (go_at_call 232;(with_reducible refine(nan8_any _ _).mono ?_);rintro e w' ⟨rfl,rfl⟩)
   go_ret
   exact⟨ret_int HC.out.symm,rfl⟩
set_option maxHeartbeats 4000000 in
set_option maxRecDepth 100000 in
theorem orInt_any(x y:Int)(b:Nat)(w:World)(hA:Arr w b [.int .i64 x,.int .i64 y]):Calls Tryz.prog 180 #[.slice (some ⟨b,0,none⟩) 2 2] w fun e w'=>e=.returned (.int .i64 (orI x y))∧w'=w:=by
 have c0:=hA.cell (j:=0) rfl
 have c1:=hA.cell (j:=1) rfl
 clear hA
 go_enter Tryz.func180,Tryz.ntmps180
 go_wp2_with fail
 go_loopw [8] (fun v8 wr=>∃ k:Nat,k≤2∧v8=.int .i64 k∧Hid (1≤k→x=0)∧Hid (2≤k→y=0)∧wr=w) (fun v8 _=>2 - (intOf v8).toNat)
 case atStart=>exact⟨0,by omega,rfl,Lib.hid (fun h=>by omega),Lib.hid (fun h=>by omega),rfl⟩
 case round =>
  obtain⟨k,hk,rfl,HX,HY,rfl⟩:=hrel
  by_cases k0:k=0
  ·
   subst k0
   by_cases hx:x=0
   ·
    have d:(x == 0)=true:=by simp [hx]
    have H1:Hid (1≤1→x=0):=fun _=>hx
    have H2:Hid (2≤1→y=0):=fun h=>by omega
    clear hx
    go_wp2_with fail
    go_roundw
    case rel=>exact⟨1,by omega,by go_num,H1,H2,trivial⟩
    case measure=>simp [intOf]
   ·
    have d:(x == 0)=false:=by simp [hx]
    have HV:Hid (orI x y=x):=by show _=_;unfold orI;rw [if_neg hx]
    clear hx
    go_wp2_with fail
    go_ret
    exact⟨ret_int HV.out.symm,rfl⟩
  ·
   by_cases k1:k=1
   ·
    subst k1
    have hx:=HX.out (Nat.le_refl _)
    by_cases hy:y=0
    ·
     have d:(y == 0)=true:=by simp [hy]
     have H1:Hid (1≤2→x=0):=fun _=>hx
     have H2:Hid (2≤2→y=0):=fun _=>hy
     clear hx hy
     go_wp2_with fail
     go_roundw
     case rel=>exact⟨2,by omega,by go_num,H1,H2,trivial⟩
     case measure=>simp [intOf]
    ·
     have d:(y == 0)=false:=by simp [hy]
     have HV:Hid (orI x y=y):=by show _=_;unfold orI;rw [if_pos hx]
     clear hx hy
     go_wp2_with fail
     go_ret
     exact⟨ret_int HV.out.symm,rfl⟩
   ·
    obtain rfl:k=2:=by omega
    have HV:Hid (orI x y=0):=by show _=_;unfold orI;rw [if_pos (HX.out (by omega)),HY.out (Nat.le_refl _)]
    go_wp2_with fail
    go_ret
    exact⟨ret_int HV.out.symm,rfl⟩
set_option maxHeartbeats 4000000 in
set_option maxRecDepth 100000 in
theorem vlaterG(a b:VidM)(w:World):Calls Tryz.prog 118 #[vidV a,vidV b] w fun e w'=>e=.returned (.int .i64 (cmpLater a b))∧Grew w w':=by
 have HA:=Lib.hid ((arr_new w #[.int .u8 a.pid.author.toNat,.int .u16 a.pid.seq.toNat,.int .u8 a.n.toNat] 27).alloc (.cells #[.int .u8 b.pid.author.toNat,.int .u16 b.pid.seq.toNat,.int .u8 b.n.toNat] 27))
 have HC:=Lib.hid (arr_new2 w (.cells #[.int .u8 a.pid.author.toNat,.int .u16 a.pid.seq.toNat,.int .u8 a.n.toNat] 27) #[.int .u8 b.pid.author.toNat,.int .u16 b.pid.seq.toNat,.int .u8 b.n.toNat] 27)
 have HB:=Lib.hid (((Grew.refl w).alloc (.cells #[.int .u8 a.pid.author.toNat,.int .u16 a.pid.seq.toNat,.int .u8 a.n.toNat] 27)).alloc (.cells #[.int .u8 b.pid.author.toNat,.int .u16 b.pid.seq.toNat,.int .u8 b.n.toNat] 27))
 have HV:=Lib.hid (later_or a b)
 unfold vidV
 go_enter Tryz.func118,Tryz.ntmps118
 go_upto_region 1 with(fail)
 generalize hw0:(w.alloc (.cells #[.int .u8 a.pid.author.toNat,.int .u16 a.pid.seq.toNat,.int .u8 a.n.toNat] 27)).alloc (.cells #[.int .u8 b.pid.author.toNat,.int .u16 b.pid.seq.toNat,.int .u8 b.n.toNat] 27)=w0 at *
 clear hw0
 have c0:=HA.out.cell (j:=0) rfl
 have c1:=HA.out.cell (j:=1) rfl
 have c2:=HA.out.cell (j:=2) rfl
 have sc:=HA.out.lt
 have d0:=HC.out.cell (j:=0) rfl
 have d1:=HC.out.cell (j:=1) rfl
 have d2:=HC.out.cell (j:=2) rfl
 have sd:=HC.out.lt
 have hcur:Grew w0 w0.drew:=(Grew.refl _).drew
 refine wp_region_lex (C:=IsGrew w0) 13 [] (by kernel_rfl) (by kernel_rfl) (isGrew_of hcur) ?_
 simp only [List.take_succ_cons,List.take_zero,List.drop_succ_cons,List.drop_zero]
 repeat(first|(refine lex_skip rfl rfl ?_;simp only [Act.put,List.setIfInBounds_toArray,List.set_cons_succ,List.set_cons_zero])|(refine lex_one rfl ?_;go_big_quiet_step (fail);refine wpQuiet_nil ?_)|(refine lex_loud rfl ?_;go_wp2_with (first|(go_at_call 181;(with_reducible refine(platerG a.pid b.pid _).mono ?_);rintro e w' ⟨rfl,hb⟩;replace hcur:=hcur.trans hb;clear hb)|(go_at_call 182;(with_reducible refine(compare8_any _ _ _).mono ?_);rintro e w' ⟨rfl,rfl⟩)|(go_at_call 180;refine(orInt_any _ _ _ _ (arr_new _ _ _)).mono ?_;rintro e w' ⟨rfl,rfl⟩));refine⟨isGrew_of (by first|exact hcur|exact hcur.alloc _),?_⟩))
 refine lex_end ?_
 go_wp2_with fail
 go_ret
 exact⟨ret_int HV.out,HB.out.trans (by first|exact hcur|exact hcur.alloc _)⟩
end Go.Proofs.YtanfebljiblhbaaGreatDoor
