/- Contracts of pid.Later, cmp.Compare at bytes, cmp.Or, vid.Later: told by draws and new blocks alone. -/
import Derived.Test.YtllcipobiengiaaGreatYCmpG
import Derived.Test.YtllcipobiengiaaGreatYNmP
set_option linter.unusedVariables false
set_option linter.unusedSimpArgs false
namespace Go.Proofs.YtllcipobiengiaaGreat
open Go Go.RowKit

def orI(x y:Int):Int:=if x=0 then y else x
attribute [local irreducible] cmpN orI
set_option maxHeartbeats 4000000 in
set_option maxRecDepth 100000 in
theorem orInt_any(x y:Int)(b:Nat)(w:World)(hA:Arr w b [.int .i64 x,.int .i64 y]):Calls Tryz.prog 139 #[.slice (some ⟨b,0,none⟩) 2 2] w fun e w'=>e=.returned (.int .i64 (orI x y))∧w'=w:=by
 have c0:=hA.k 0 rfl
 have c1:=hA.k 1 rfl
 clear hA
 go_enter Tryz.func139,Tryz.ntmps139
 go_wp2_with fail
 go_loopw [8] (fun v8 wr=>∃ k:Nat,k≤2∧v8=.int .i64 k∧Hid (1≤k→x=0)∧Hid (2≤k→y=0)∧wr=w) (fun v8 _=>2 - (intOf v8).toNat)
 case atStart=>exact⟨0,by omega,rfl,Lh (fun h=>by omega),Lh (fun h=>by omega),rfl⟩
 case round =>
  obtain⟨k,hk,rfl,HX,HY,rfl⟩:=hrel
  by_cases k0:k=0
  ·
   subst k0
   by_cases hx:x=0
   ·
    have d:(x == 0)=true:=by simp [hx]
    have H1:Hid (1≤1→x=0):=fun _=>hx
    have H2:Hid (2≤1→y=0):=fun h=>by omega
    clear hx
    go_wp2_with fail
    go_roundw
    case rel=>exact⟨1,by omega,by go_num,H1,H2,trivial⟩
    case measure=>simp [intOf]
   ·
    have d:(x == 0)=false:=by simp [hx]
    have HV:Hid (orI x y=x):=by show _=_;unfold orI;rw [if_neg hx]
    clear hx
    go_wp2_with fail
    go_ret
    exact⟨ret_int HV.out.symm,rfl⟩
  ·
   by_cases k1:k=1
   ·
    subst k1
    have hx:=HX.out (Nat.le_refl _)
    by_cases hy:y=0
    ·
     have d:(y == 0)=true:=by simp [hy]
     have H1:Hid (1≤2→x=0):=fun _=>hx
     have H2:Hid (2≤2→y=0):=fun _=>hy
     clear hx hy
     go_wp2_with fail
     go_roundw
     case rel=>exact⟨2,by omega,by go_num,H1,H2,trivial⟩
     case measure=>simp [intOf]
    ·
     have d:(y == 0)=false:=by simp [hy]
     have HV:Hid (orI x y=y):=by show _=_;unfold orI;rw [if_pos hx]
     clear hx hy
     go_wp2_with fail
     go_ret
     exact⟨ret_int HV.out.symm,rfl⟩
   ·
    obtain rfl:k=2:=by omega
    have HV:Hid (orI x y=0):=by show _=_;unfold orI;rw [if_pos (HX.out (by omega)),HY.out (Nat.le_refl _)]
    go_wp2_with fail
    go_ret
    exact⟨ret_int HV.out.symm,rfl⟩
end Go.Proofs.YtllcipobiengiaaGreat
