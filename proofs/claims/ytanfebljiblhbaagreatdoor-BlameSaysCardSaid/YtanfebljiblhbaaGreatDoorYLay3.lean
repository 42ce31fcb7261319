/- Part of the proof that of any graph each file's lines, whose they are, and how many lines any author has, are as the document says. No conditions. -/
import Derived.Shelf.SlGeneric
import Derived.Shelf.SortM.Plain
import Derived.Ground.SlgmProg
import Derived.Test.YtanfebljiblhbaaGreatDoorProg
set_option linter.unusedVariables false
set_option linter.unusedSimpArgs false
namespace Go.Proofs
set_option maxRecDepth 100000
open Go.Shelf
theorem Tryz.bo3{P:Program}{f:FuncId}{c:Func}(h:((P.funcs[f]?.map Func.name).getD "" == "runtime.NumGoroutine")=false)(e:P.funcs[f]? = some {c with name:=(P.funcs[f]?.map Func.name).getD ""}):Bears P f c:=⟨_,h,e⟩
def Tryz.sortInt_ren:Go.Shelf.Ren:=⟨fun|5=>226|8=>108|7=>263|19=>175|20=>176|10=>291|11=>292|12=>293|13=>294|14=>295|15=>296|16=>297|17=>298|18=>299|30=>312|31=>228|32=>229|33=>313|34=>314|35=>315|40=>320|n=>n,fun|23=>89|25=>3|3=>3|32=>190|22=>89|0=>0|44=>201|46=>248|4=>4|36=>241|35=>240|41=>151|5=>5|9=>9|53=>282|57=>286|63=>308|64=>309|n=>n,fun|n=>n⟩
theorem Tryz.sortInt:Go.Proofs.SlLaysM.n5 Tryz.prog Tryz.sortInt_ren:=by constructor;all_goals first|kernel_rfl|exact fun _=>by kernel_rfl|exact Tryz.bo3 (by kernel_rfl) (by kernel_rfl)
end Go.Proofs
