/- Part of the proof that of any graph each file's lines, whose they are, and how many lines any author has, are as the document says. No conditions. -/
import Derived.Shelf.SlGeneric
import Derived.Shelf.SlicesG.CompactS
import Derived.Shelf.SortM.Plain
import Derived.Shelf.Strconv.Itoa3
import Derived.Ground.NamesProg
import Derived.Ground.SlgmProg
import Derived.Ground.SlgnProg
import Derived.Test.YtanfebljiblhbaaGreatDoorProg
set_option linter.unusedVariables false
set_option linter.unusedSimpArgs false
namespace Go.Proofs
set_option maxRecDepth 100000
open Go.Shelf
theorem Tryz.bo2{P:Program}{f:FuncId}{c:Func}(h:((P.funcs[f]?.map Func.name).getD "" == "runtime.NumGoroutine")=false)(e:P.funcs[f]? = some {c with name:=(P.funcs[f]?.map Func.name).getD ""}):Bears P f c:=⟨_,h,e⟩
def Tryz.sortStr_ren:Go.Shelf.Ren:=⟨fun|6=>121|8=>108|9=>184|19=>175|20=>176|21=>234|22=>235|23=>236|24=>237|25=>238|26=>239|27=>240|28=>241|29=>242|36=>269|31=>228|32=>229|37=>270|38=>271|39=>109|41=>304|n=>n,fun|27=>64|29=>9|3=>3|32=>190|26=>64|0=>0|44=>201|46=>248|4=>4|36=>241|35=>240|41=>151|5=>5|9=>9|53=>282|57=>286|63=>308|64=>309|n=>n,fun|n=>n⟩
theorem Tryz.sortStr:Go.Proofs.SlLaysM.n6 Tryz.prog Tryz.sortStr_ren:=by constructor;all_goals first|kernel_rfl|exact fun _=>by kernel_rfl|exact Tryz.bo2 (by kernel_rfl) (by kernel_rfl)
def Tryz.compStr_ren:Go.Shelf.Ren:=⟨fun|44=>122|n=>n,fun|25=>64|26=>9|3=>3|4=>4|0=>0|n=>n,fun|n=>n⟩
theorem Tryz.compStr:Go.Proofs.SlLaysN.n44 Tryz.prog Tryz.compStr_ren:=by constructor;all_goals first|kernel_rfl|exact fun _=>by kernel_rfl|exact Tryz.bo2 (by kernel_rfl) (by kernel_rfl)
def Tryz.itoa_ren:Go.Shelf.Ren:=⟨fun|171=>120|243=>183|246=>233|283=>265|284=>266|285=>267|286=>268|129=>176|317=>300|318=>301|319=>302|320=>303|337=>316|338=>317|n=>n,fun|3=>3|9=>9|2=>2|4=>4|171=>311|0=>0|53=>248|37=>80|5=>5|173=>313|212=>334|51=>201|20=>20|213=>335|46=>190|232=>346|233=>347|n=>n,fun|17=>0|18=>2|19=>3|n=>n⟩
theorem Tryz.itoa:Go.Proofs.LaysM.n171 Tryz.prog Tryz.itoa_ren:=by
 constructor;all_goals first|kernel_rfl|exact fun _=>by kernel_rfl|exact Tryz.bo2 (by kernel_rfl) (by kernel_rfl)|constructor
 all_goals first|kernel_rfl|exact fun _=>by kernel_rfl|exact Tryz.bo2 (by kernel_rfl) (by kernel_rfl)
end Go.Proofs
