/- What is proved: MergeTurns, for every input; of the listed tables the walk needs the powers of ten. -/
import Derived.Test.YtjccmcgglfncdaaGreatDoorURefP
import Derived.Test.YtjccmcgglfncdaaGreatDoorUSomeB
set_option linter.unusedVariables false
set_option linter.unusedSimpArgs false
set_option maxRecDepth 100000
set_option maxHeartbeats 40000000
namespace Go.Proofs.YtjccmcgglfncdaaGreatDoor
open Go Go.RowKit
attribute [local irreducible] vecL
theorem gvec_any(b:Nat)(L:List PatchM)(w:World)(hg:GrIs w b L):Calls Tryz.prog 20 #[.pointer (some ⟨b,0,none⟩)] w fun e w'=>e=.returned (vecV (vecM L))∧Be w w':=by obtain⟨bv,be,n,hG⟩:=hg;have HG:=Lh hG;generalize vecM L=f at *;clear hG;go_enter Tryz.func20,Tryz.ntmps20;go_upto_region 1 with fail;refine code_gen (fun w0=>∃ zs:List Value,zs.length=64∧Arr w0 w.heap.size zs∧Be w w0) (by refine⟨_,?_,anw w _ _,bnew _⟩;rfl) ?_;rintro w0 ⟨zs,hzl,hR,hB⟩;have HR:=Lh hR;have HB:=Lh hB;have HZL:=Lh hzl;have HA:Hid (Arr w0 b (vecL f++[.map (some bv),.map (some be)])):=Lh (HG.o.over HB.o).arr;have sb:=HA.o.lt;clear hR hB hzl;go_wp2_with (first|((with_reducible show wpList _ _ _ ({dst:=_,op:=.load _ _,type:=_,pos:=_,after:=_,guard:=_} :: _) _ _);refine wpList_load_part agg_vec size_vec rfl _ rfl b (vecL f) [.map (some bv),.map (some be)] HA.o rfl (vecL_len f) ?_)|(refine wpList_put_arr rowVec rfl _ _ rfl _ _ _ HR.o rfl rfl HZL.o (vecL_len _) (vecL_one _) ?_;intro w9 HV9 ho9 hb9 hs9;clear hs9));exact bodyPost_ret (v:=.agg (vecL f).toArray) (results_arr rowVec rfl HV9 rfl (vecL_len _)) rfl ⟨rfl,hb9 _ _ (Nat.le_refl _) HB.o⟩
end Go.Proofs.YtjccmcgglfncdaaGreatDoor
