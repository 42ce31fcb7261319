/- Cmp of names, told by draws and new blocks alone (as the sort asks); the sort of names. -/
import Derived.Test.YtllcipobiengiaaGreatYRefs
import Derived.Test.YtllcipobiengiaaGreatYGrew
import Derived.Test.YtllcipobiengiaaGreatYLay
set_option linter.unusedVariables false
set_option linter.unusedSimpArgs false
namespace Go.Proofs.YtllcipobiengiaaGreat
open Go Go.RowKit

set_option maxHeartbeats 1000000 in
set_option maxRecDepth 100000 in
theorem ppackG(p:PidM)(w:World):Calls Tryz.prog 136 #[pidV p] w fun e w'=>e=.returned (.int .u32 (packPid p:Int))∧Grew w w':=by
 have h1:=p.author.toNat_lt
 have h2:=p.seq.toNat_lt
 have HO:=Lh (or_pid (show p.author.toNat<256 by omega) (show p.seq.toNat<65536 by omega))
 unfold pidV
 go_enter Tryz.func136,Tryz.ntmps136
 go_wp2_with fail
 go_ret
 exact⟨ret_int HO.out,(Grew.refl _).alloc _⟩

set_option maxHeartbeats 1000000 in
set_option maxRecDepth 100000 in
theorem vpackG(v:VidM)(w:World):Calls Tryz.prog 91 #[vidV v] w fun e w'=>e=.returned (.int .u32 (packVid v:Int))∧Grew w w':=by
 have h1:=packPid_lt v.pid
 have h2:=v.n.toNat_lt
 have HO:=Lh (or_vid h1 (show v.n.toNat<256 by omega))
 have HB:=Lh ((Grew.refl w).alloc (.cells #[.int .u8 v.pid.author.toNat,.int .u16 v.pid.seq.toNat,.int .u8 v.n.toNat] 40))
 have HA:=Lh (arrT_new w [.int .u8 v.pid.author.toNat,.int .u16 v.pid.seq.toNat,.int .u8 v.n.toNat] 40)
 unfold vidV
 go_enter Tryz.func91,Tryz.ntmps91
 go_wp2_with fail
 generalize hw0:w.alloc (.cells #[.int .u8 v.pid.author.toNat,.int .u16 v.pid.seq.toNat,.int .u8 v.n.toNat] 40)=w0 at *
 have c0:=HA.out.arr.k 0 rfl
 have c1:=HA.out.arr.k 1 rfl
 have c2:=HA.out.arr.k 2 rfl
 have sA:=HA.out.arr.lt
 clear hw0
 have hcur:Grew w0 w0.drew:=(Grew.refl _).drew
 refine wlex (C:=IsGrew w0) 9 [] (by kernel_rfl) (by kernel_rfl) (isGrew_of hcur) ?_
 simp only [Tsc,Tz,Dsc,Dz]
 repeat(first|(refine lxs rfl rfl ?_;simp only [Act.put,Sib,Scs,Scz])|(refine lxo rfl ?_;go_big_quiet_step (fail);refine wpQuiet_nil ?_)|(refine lxl rfl ?_;go_wp2_with (first|(go_at_call 136;(with_reducible refine(ppackG v.pid _).mono ?_);rintro e w' ⟨rfl,hb⟩;replace hcur:=hcur.trans hb;clear hb));refine⟨isGrew_of (by first|exact hcur|exact hcur.alloc _),?_⟩))
 refine lxe ?_
 go_wp2_with fail
 go_ret
 exact⟨ret_int HO.out,HB.out.trans hcur⟩

attribute [local irreducible] packPid packVid cmpN
set_option maxHeartbeats 1000000 in
set_option maxRecDepth 100000 in
theorem pcmpG(a b:PidM)(w:World):Calls Tryz.prog 150 #[pidV a,pidV b] w fun e w'=>e=.returned (.int .i64 (cmpPid a b))∧Grew w w':=by
 have HA:=Lh ((anw w #[.int .u8 a.author.toNat,.int .u16 a.seq.toNat] 26).alloc (.cells #[.int .u8 b.author.toNat,.int .u16 b.seq.toNat] 26))
 have HC:=Lh (an2 w (.cells #[.int .u8 a.author.toNat,.int .u16 a.seq.toNat] 26) #[.int .u8 b.author.toNat,.int .u16 b.seq.toNat] 26)
 have HB:=Lh (((Grew.refl w).alloc (.cells #[.int .u8 a.author.toNat,.int .u16 a.seq.toNat] 26)).alloc (.cells #[.int .u8 b.author.toNat,.int .u16 b.seq.toNat] 26))
 unfold pidV
 go_enter Tryz.func150,Tryz.ntmps150
 go_wp2_with fail
 generalize hw0:(w.alloc (.cells #[.int .u8 a.author.toNat,.int .u16 a.seq.toNat] 26)).alloc (.cells #[.int .u8 b.author.toNat,.int .u16 b.seq.toNat] 26)=w0 at *
 have c0:=HA.out.k 0 rfl
 have c1:=HA.out.k 1 rfl
 have sA:=HA.out.lt
 have d0:=HC.out.k 0 rfl
 have d1:=HC.out.k 1 rfl
 have sC:=HC.out.lt
 clear hw0
 have hcur:Grew w0 w0.drew:=(Grew.refl _).drew
 refine wlex (C:=IsGrew w0) 6 [] (by kernel_rfl) (by kernel_rfl) (isGrew_of hcur) ?_
 simp only [Tsc,Tz,Dsc,Dz]
 repeat(first|(refine lxs rfl rfl ?_;simp only [Act.put,Sib,Scs,Scz])|(refine lxo rfl ?_;go_big_quiet_step (fail);refine wpQuiet_nil ?_)|(refine lxl rfl ?_;go_wp2_with (first|(go_at_call 136;(with_reducible refine(ppackG _ _).mono ?_);rintro e w' ⟨rfl,hb⟩;replace hcur:=hcur.trans hb;clear hb)|(go_at_call 90;(with_reducible refine(compare_any _ _ _).mono ?_);rintro e w' ⟨rfl,rfl⟩));refine⟨isGrew_of (by first|exact hcur|exact hcur.alloc _),?_⟩))
 refine lxe ?_
 go_wp2_with fail
 go_ret
 exact⟨rfl,HB.out.trans hcur⟩

set_option maxHeartbeats 1000000 in
set_option maxRecDepth 100000 in
theorem vcmpG(a b:VidM)(w:World):Calls Tryz.prog 49 #[vidV a,vidV b] w fun e w'=>e=.returned (.int .i64 (cmpVid a b))∧Grew w w':=by
 have HA:=Lh ((anw w #[.int .u8 a.pid.author.toNat,.int .u16 a.pid.seq.toNat,.int .u8 a.n.toNat] 40).alloc (.cells #[.int .u8 b.pid.author.toNat,.int .u16 b.pid.seq.toNat,.int .u8 b.n.toNat] 40))
 have HC:=Lh (an2 w (.cells #[.int .u8 a.pid.author.toNat,.int .u16 a.pid.seq.toNat,.int .u8 a.n.toNat] 40) #[.int .u8 b.pid.author.toNat,.int .u16 b.pid.seq.toNat,.int .u8 b.n.toNat] 40)
 have HB:=Lh (((Grew.refl w).alloc (.cells #[.int .u8 a.pid.author.toNat,.int .u16 a.pid.seq.toNat,.int .u8 a.n.toNat] 40)).alloc (.cells #[.int .u8 b.pid.author.toNat,.int .u16 b.pid.seq.toNat,.int .u8 b.n.toNat] 40))
 unfold vidV
 go_enter Tryz.func49,Tryz.ntmps49
 go_wp2_with fail
 generalize hw0:(w.alloc (.cells #[.int .u8 a.pid.author.toNat,.int .u16 a.pid.seq.toNat,.int .u8 a.n.toNat] 40)).alloc (.cells #[.int .u8 b.pid.author.toNat,.int .u16 b.pid.seq.toNat,.int .u8 b.n.toNat] 40)=w0 at *
 have c0:=HA.out.k 0 rfl
 have c1:=HA.out.k 1 rfl
 have c2:=HA.out.k 2 rfl
 have sA:=HA.out.lt
 have d0:=HC.out.k 0 rfl
 have d1:=HC.out.k 1 rfl
 have d2:=HC.out.k 2 rfl
 have sC:=HC.out.lt
 clear hw0
 have hcur:Grew w0 w0.drew:=(Grew.refl _).drew
 refine wlex (C:=IsGrew w0) 6 [] (by kernel_rfl) (by kernel_rfl) (isGrew_of hcur) ?_
 simp only [Tsc,Tz,Dsc,Dz]
 repeat(first|(refine lxs rfl rfl ?_;simp only [Act.put,Sib,Scs,Scz])|(refine lxo rfl ?_;go_big_quiet_step (fail);refine wpQuiet_nil ?_)|(refine lxl rfl ?_;go_wp2_with (first|(go_at_call 91;(with_reducible refine(vpackG _ _).mono ?_);rintro e w' ⟨rfl,hb⟩;replace hcur:=hcur.trans hb;clear hb)|(go_at_call 90;(with_reducible refine(compare_any _ _ _).mono ?_);rintro e w' ⟨rfl,rfl⟩));refine⟨isGrew_of (by first|exact hcur|exact hcur.alloc _),?_⟩))
 refine lxe ?_
 go_wp2_with fail
 go_ret
 exact⟨rfl,HB.out.trans hcur⟩

instance:Inhabited VertM:=⟨noVert⟩
theorem cmpN_neg(a b:Nat):(cmpN a b<0)=(a<b):=by
 by_cases h:a<b
 ·
  rw [cmpN_lt h];simp [h]
 ·
  by_cases h2:b<a
  ·
   rw [cmpN_gt h2];simp [h]
  ·
   rw [cmpN_eq (show a=b by omega)];simp [h]
theorem onePid:∀ x:PidM,∀ v∈encPid x,v.oneCell'=true:=fun x v hv=>by simp [encPid] at hv;rcases hv with rfl|rfl <;> rfl
theorem sortPid_any{w:World}{B g cap:Nat}{xs:List PidM}(h:OwnAt w B 26 2 g xs.length cap (xs.flatMap encPid))(hn:xs.length≤1000000000) :
  Calls Tryz.prog 149 #[.slice (some ⟨g,0,none⟩) xs.length cap,.func (.func 150) #[] #[]] w (SortRes cmpPid encPid 2 26 w B g cap xs):=by
 have hcon:=sortF_any (P:=Tryz.prog) Tryz.sortPid (k:=2) (enc:=encPid) Tryz.isAgg26 Tryz.sizeOf26 (fun _=>rfl) onePid cmpPid (swo_key packPid _ fun x y=>cmpN_neg _ _) 150 (enters_of Tryz.func150 (by kernel_rfl) rfl) (fun x y W=>pcmpG x y W) h (by omega)
 exact hcon
theorem sortPid_none(p:Option Addr)(cap:Nat)(fv:Value)(w:World) :
  Calls Tryz.prog 149 #[.slice p 0 cap,fv] w fun e w'=>e=.returned (.tuple #[])∧w'=w:=sortF_none Tryz.sortPid p cap fv w
end Go.Proofs.YtllcipobiengiaaGreat
