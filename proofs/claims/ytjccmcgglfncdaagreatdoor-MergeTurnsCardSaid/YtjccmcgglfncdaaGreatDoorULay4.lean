/- What is proved: MergeTurns, for every input; of the listed tables the walk needs the powers of ten. -/
import Derived.Shelf.SlGeneric
import Derived.Shelf.SlSortCmp.NoneTotal
import Derived.Ground.SlsfProg
import Derived.Test.YtjccmcgglfncdaaGreatDoorProg
set_option linter.unusedVariables false
set_option linter.unusedSimpArgs false
namespace Go.Proofs
set_option maxRecDepth 100000
open Go.Shelf
theorem Tryz.bo4{P:Program}{f:FuncId}{c:Func}(h:((P.funcs[f]?.map Func.name).getD "" == "runtime.NumGoroutine")=false)(e:P.funcs[f]? = some {c with name:=(P.funcs[f]?.map Func.name).getD ""}):Bears P f c:=⟨_,h,e⟩
def Tryz.pdqFile_ren:Go.Shelf.Ren:=⟨fun|14=>121|20=>192|21=>193|22=>194|23=>195|24=>196|25=>197|26=>198|27=>199|46=>251|47=>252|48=>253|49=>254|50=>255|15=>122|57=>290|28=>200|29=>201|n=>n,fun|24=>71|22=>26|3=>3|25=>124|4=>4|0=>0|46=>257|45=>256|50=>163|66=>300|39=>197|55=>264|70=>304|76=>327|77=>328|53=>222|5=>5|9=>9|n=>n,fun|n=>n⟩
theorem Tryz.pdqFile:Go.Proofs.SlLaysF0.n14 Tryz.prog Tryz.pdqFile_ren:=by constructor;all_goals first|kernel_rfl|exact fun _=>by kernel_rfl|exact Tryz.bo4 (by kernel_rfl) (by kernel_rfl)
def Tryz.bitsLen_ren:Go.Shelf.Ren:=⟨fun|15=>122|28=>200|29=>201|n=>n,fun|39=>197|3=>3|53=>222|55=>264|4=>4|5=>5|9=>9|n=>n,fun|n=>n⟩
theorem Tryz.bitsLen:Go.Proofs.SlLaysF0.n15 Tryz.prog Tryz.bitsLen_ren:=by constructor;all_goals first|kernel_rfl|exact fun _=>by kernel_rfl|exact Tryz.bo4 (by kernel_rfl) (by kernel_rfl)
end Go.Proofs
