/- What is proved: MergeTurns, for every input; of the listed tables the walk needs the powers of ten. -/
import Derived.Shelf.SlGeneric
import Derived.Shelf.SlSortCmp.NoneTotal
import Derived.Ground.SlsfProg
import Derived.Test.YtjccmcgglfncdaaGreatDoorProg
set_option linter.unusedVariables false
set_option linter.unusedSimpArgs false
namespace Go.Proofs
set_option maxRecDepth 100000
open Go.Shelf
theorem Tryz.bo{P:Program}{f:FuncId}{c:Func}(h:((P.funcs[f]?.map Func.name).getD "" == "runtime.NumGoroutine")=false)(e:P.funcs[f]? = some {c with name:=(P.funcs[f]?.map Func.name).getD ""}):Bears P f c:=⟨_,h,e⟩
def Tryz.sortPid_ren:Go.Shelf.Ren:=⟨fun|6=>238|15=>122|14=>286|28=>200|29=>201|20=>311|21=>312|22=>313|23=>314|24=>315|25=>316|26=>317|27=>318|46=>329|47=>252|48=>253|49=>330|50=>331|57=>344|n=>n,fun|22=>42|24=>25|25=>238|3=>3|39=>197|0=>0|53=>222|55=>264|4=>4|46=>257|45=>256|50=>163|5=>5|9=>9|66=>300|70=>304|76=>327|77=>328|n=>n,fun|n=>n⟩
theorem Tryz.sortPid:Go.Proofs.SlLaysF0.n6 Tryz.prog Tryz.sortPid_ren:=by constructor;all_goals first|kernel_rfl|exact fun _=>by kernel_rfl|exact Tryz.bo (by kernel_rfl) (by kernel_rfl)
def Tryz.sortVert_ren:Go.Shelf.Ren:=⟨fun|6=>140|15=>122|14=>214|28=>200|29=>201|20=>258|21=>259|22=>260|23=>261|24=>262|25=>263|26=>264|27=>265|46=>300|47=>252|48=>253|49=>301|50=>302|57=>323|n=>n,fun|22=>98|24=>101|25=>212|3=>3|39=>197|0=>0|53=>222|55=>264|4=>4|46=>257|45=>256|50=>163|5=>5|9=>9|66=>300|70=>304|76=>327|77=>328|n=>n,fun|n=>n⟩
theorem Tryz.sortVert:Go.Proofs.SlLaysF0.n6 Tryz.prog Tryz.sortVert_ren:=by constructor;all_goals first|kernel_rfl|exact fun _=>by kernel_rfl|exact Tryz.bo (by kernel_rfl) (by kernel_rfl)
def Tryz.sortEdge_ren:Go.Shelf.Ren:=⟨fun|6=>204|15=>122|14=>256|28=>200|29=>201|20=>291|21=>292|22=>293|23=>294|24=>295|25=>296|26=>297|27=>298|46=>320|47=>252|48=>253|49=>321|50=>322|57=>341|n=>n,fun|22=>139|24=>133|25=>268|3=>3|39=>197|0=>0|53=>222|55=>264|4=>4|46=>257|45=>256|50=>163|5=>5|9=>9|66=>300|70=>304|76=>327|77=>328|n=>n,fun|n=>n⟩
theorem Tryz.sortEdge:Go.Proofs.SlLaysF0.n6 Tryz.prog Tryz.sortEdge_ren:=by constructor;all_goals first|kernel_rfl|exact fun _=>by kernel_rfl|exact Tryz.bo (by kernel_rfl) (by kernel_rfl)
end Go.Proofs
