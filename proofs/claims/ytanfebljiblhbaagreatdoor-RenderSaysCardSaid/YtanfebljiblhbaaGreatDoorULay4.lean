/- Part of the proof that any graph's tree, and what is at odds in it, are as the document says. No conditions. -/
import Derived.Shelf.SlGeneric
import Derived.Shelf.SlSortCmp.NoneTotal
import Derived.Ground.SlsfProg
import Derived.Test.YtanfebljiblhbaaGreatDoorProg
set_option linter.unusedVariables false
set_option linter.unusedSimpArgs false
namespace Go.Proofs
set_option maxRecDepth 100000
open Go.Shelf
theorem Tryz.bo4{P:Program}{f:FuncId}{c:Func}(h:((P.funcs[f]?.map Func.name).getD "" == "runtime.NumGoroutine")=false)(e:P.funcs[f]? = some {c with name:=(P.funcs[f]?.map Func.name).getD ""}):Bears P f c:=⟨_,h,e⟩
def Tryz.pdqFile_ren:Go.Shelf.Ren:=⟨fun|14=>107|20=>167|21=>168|22=>169|23=>170|24=>171|25=>172|26=>173|27=>174|46=>227|47=>228|48=>229|49=>230|50=>231|15=>108|57=>264|28=>175|29=>176|n=>n,fun|24=>66|22=>53|3=>3|25=>126|4=>4|0=>0|46=>241|45=>240|50=>151|66=>282|39=>190|55=>248|70=>286|76=>308|77=>309|53=>201|5=>5|9=>9|n=>n,fun|n=>n⟩
theorem Tryz.pdqFile:Go.Proofs.SlLaysF0.n14 Tryz.prog Tryz.pdqFile_ren:=by constructor;all_goals first|kernel_rfl|exact fun _=>by kernel_rfl|exact Tryz.bo4 (by kernel_rfl) (by kernel_rfl)
def Tryz.bitsLen_ren:Go.Shelf.Ren:=⟨fun|15=>108|28=>175|29=>176|n=>n,fun|39=>190|3=>3|53=>201|55=>248|4=>4|5=>5|9=>9|n=>n,fun|n=>n⟩
theorem Tryz.bitsLen:Go.Proofs.SlLaysF0.n15 Tryz.prog Tryz.bitsLen_ren:=by constructor;all_goals first|kernel_rfl|exact fun _=>by kernel_rfl|exact Tryz.bo4 (by kernel_rfl) (by kernel_rfl)
end Go.Proofs
