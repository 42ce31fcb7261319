/- Part of the proof that of any graph each file's lines, whose they are, and how many lines any author has, are as the document says. No conditions. -/
import Derived.Shelf.SlGeneric
import Derived.Shelf.SlSortCmp.NoneTotal
import Derived.Ground.SlsfProg
import Derived.Test.YtanfebljiblhbaaGreatDoorProg
set_option linter.unusedVariables false
set_option linter.unusedSimpArgs false
namespace Go.Proofs
set_option maxRecDepth 100000
open Go.Shelf
theorem Tryz.bo{P:Program}{f:FuncId}{c:Func}(h:((P.funcs[f]?.map Func.name).getD "" == "runtime.NumGoroutine")=false)(e:P.funcs[f]? = some {c with name:=(P.funcs[f]?.map Func.name).getD ""}):Bears P f c:=⟨_,h,e⟩
def Tryz.sortPid_ren:Go.Shelf.Ren:=⟨fun|6=>195|15=>108|14=>246|28=>175|29=>176|20=>280|21=>281|22=>282|23=>283|24=>284|25=>285|26=>286|27=>287|46=>308|47=>228|48=>229|49=>309|50=>310|57=>319|n=>n,fun|22=>68|24=>25|25=>254|3=>3|39=>190|0=>0|53=>201|55=>248|4=>4|46=>241|45=>240|50=>151|5=>5|9=>9|66=>282|70=>286|76=>308|77=>309|n=>n,fun|n=>n⟩
theorem Tryz.sortPid:Go.Proofs.SlLaysF0.n6 Tryz.prog Tryz.sortPid_ren:=by constructor;all_goals first|kernel_rfl|exact fun _=>by kernel_rfl|exact Tryz.bo (by kernel_rfl) (by kernel_rfl)
def Tryz.sortVert_ren:Go.Shelf.Ren:=⟨fun|6=>101|15=>108|14=>162|28=>175|29=>176|20=>218|21=>219|22=>220|23=>221|24=>222|25=>223|26=>224|27=>225|46=>260|47=>228|48=>229|49=>261|50=>262|57=>290|n=>n,fun|22=>99|24=>86|25=>181|3=>3|39=>190|0=>0|53=>201|55=>248|4=>4|46=>241|45=>240|50=>151|5=>5|9=>9|66=>282|70=>286|76=>308|77=>309|n=>n,fun|n=>n⟩
theorem Tryz.sortVert:Go.Proofs.SlLaysF0.n6 Tryz.prog Tryz.sortVert_ren:=by constructor;all_goals first|kernel_rfl|exact fun _=>by kernel_rfl|exact Tryz.bo (by kernel_rfl) (by kernel_rfl)
def Tryz.sortEdge_ren:Go.Shelf.Ren:=⟨fun|6=>187|15=>108|14=>243|28=>175|29=>176|20=>272|21=>273|22=>274|23=>275|24=>276|25=>277|26=>278|27=>279|46=>305|47=>228|48=>229|49=>306|50=>307|57=>318|n=>n,fun|22=>156|24=>143|25=>260|3=>3|39=>190|0=>0|53=>201|55=>248|4=>4|46=>241|45=>240|50=>151|5=>5|9=>9|66=>282|70=>286|76=>308|77=>309|n=>n,fun|n=>n⟩
theorem Tryz.sortEdge:Go.Proofs.SlLaysF0.n6 Tryz.prog Tryz.sortEdge_ren:=by constructor;all_goals first|kernel_rfl|exact fun _=>by kernel_rfl|exact Tryz.bo (by kernel_rfl) (by kernel_rfl)
end Go.Proofs
