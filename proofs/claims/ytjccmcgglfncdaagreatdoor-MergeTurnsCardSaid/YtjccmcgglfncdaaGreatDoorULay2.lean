/- What is proved: MergeTurns, for every input; of the listed tables the walk needs the powers of ten. -/
import Derived.Shelf.SlGeneric
import Derived.Shelf.SlicesG.CompactS
import Derived.Shelf.SortM.Plain
import Derived.Shelf.Strconv.Itoa3
import Derived.Ground.NamesProg
import Derived.Ground.SlgmProg
import Derived.Ground.SlgnProg
import Derived.Test.YtjccmcgglfncdaaGreatDoorProg
set_option linter.unusedVariables false
set_option linter.unusedSimpArgs false
namespace Go.Proofs
set_option maxRecDepth 100000
open Go.Shelf
theorem Tryz.bo2{P:Program}{f:FuncId}{c:Func}(h:((P.funcs[f]?.map Func.name).getD "" == "runtime.NumGoroutine")=false)(e:P.funcs[f]? = some {c with name:=(P.funcs[f]?.map Func.name).getD ""}):Bears P f c:=⟨_,h,e⟩
def Tryz.sortStr_ren:Go.Shelf.Ren:=⟨fun|6=>145|8=>122|9=>218|19=>200|20=>201|21=>268|22=>269|23=>270|24=>271|25=>272|26=>273|27=>274|28=>275|29=>276|36=>307|31=>252|32=>253|37=>308|38=>309|39=>123|41=>328|n=>n,fun|27=>69|29=>9|3=>3|32=>197|26=>69|0=>0|44=>222|46=>264|4=>4|36=>257|35=>256|41=>163|5=>5|9=>9|53=>300|57=>304|63=>327|64=>328|n=>n,fun|n=>n⟩
theorem Tryz.sortStr:Go.Proofs.SlLaysM.n6 Tryz.prog Tryz.sortStr_ren:=by constructor;all_goals first|kernel_rfl|exact fun _=>by kernel_rfl|exact Tryz.bo2 (by kernel_rfl) (by kernel_rfl)
def Tryz.compStr_ren:Go.Shelf.Ren:=⟨fun|44=>146|n=>n,fun|25=>69|26=>9|3=>3|4=>4|0=>0|n=>n,fun|n=>n⟩
theorem Tryz.compStr:Go.Proofs.SlLaysN.n44 Tryz.prog Tryz.compStr_ren:=by constructor;all_goals first|kernel_rfl|exact fun _=>by kernel_rfl|exact Tryz.bo2 (by kernel_rfl) (by kernel_rfl)
def Tryz.itoa_ren:Go.Shelf.Ren:=⟨fun|171=>144|243=>217|246=>267|283=>303|284=>304|285=>305|286=>306|129=>201|317=>324|318=>325|319=>326|320=>327|337=>342|338=>343|n=>n,fun|3=>3|9=>9|2=>2|4=>4|171=>337|0=>0|53=>264|37=>84|5=>5|173=>339|212=>353|51=>222|20=>20|213=>354|46=>197|232=>367|233=>368|n=>n,fun|17=>1|18=>2|19=>3|n=>n⟩
theorem Tryz.itoa:Go.Proofs.LaysM.n171 Tryz.prog Tryz.itoa_ren:=by
 constructor;all_goals first|kernel_rfl|exact fun _=>by kernel_rfl|exact Tryz.bo2 (by kernel_rfl) (by kernel_rfl)|constructor
 all_goals first|kernel_rfl|exact fun _=>by kernel_rfl|exact Tryz.bo2 (by kernel_rfl) (by kernel_rfl)
end Go.Proofs
