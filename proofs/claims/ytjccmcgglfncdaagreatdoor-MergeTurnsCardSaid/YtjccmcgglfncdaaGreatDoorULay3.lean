/- What is proved: MergeTurns, for every input; of the listed tables the walk needs the powers of ten. -/
import Derived.Shelf.SlGeneric
import Derived.Shelf.SortM.Plain
import Derived.Ground.SlgmProg
import Derived.Test.YtjccmcgglfncdaaGreatDoorProg
set_option linter.unusedVariables false
set_option linter.unusedSimpArgs false
namespace Go.Proofs
set_option maxRecDepth 100000
open Go.Shelf
theorem Tryz.bo3{P:Program}{f:FuncId}{c:Func}(h:((P.funcs[f]?.map Func.name).getD "" == "runtime.NumGoroutine")=false)(e:P.funcs[f]? = some {c with name:=(P.funcs[f]?.map Func.name).getD ""}):Bears P f c:=⟨_,h,e⟩
def Tryz.sortInt_ren:Go.Shelf.Ren:=⟨fun|5=>289|8=>122|7=>319|19=>200|20=>201|10=>332|11=>333|12=>334|13=>335|14=>336|15=>337|16=>338|17=>339|18=>340|30=>345|31=>252|32=>253|33=>346|34=>347|35=>348|40=>349|n=>n,fun|23=>160|25=>3|3=>3|32=>197|22=>160|0=>0|44=>222|46=>264|4=>4|36=>257|35=>256|41=>163|5=>5|9=>9|53=>300|57=>304|63=>327|64=>328|n=>n,fun|n=>n⟩
theorem Tryz.sortInt:Go.Proofs.SlLaysM.n5 Tryz.prog Tryz.sortInt_ren:=by constructor;all_goals first|kernel_rfl|exact fun _=>by kernel_rfl|exact Tryz.bo3 (by kernel_rfl) (by kernel_rfl)
end Go.Proofs
