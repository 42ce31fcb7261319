/- Contracts of bruitref50.one: what puts a line; all together. -/
import Derived.Test.YtjbihmglpfdmnaaGreatDoorDiffL
namespace Go.Proofs.YtjbihmglpfdmnaaGreatDoor
open Go Go.RowKit

theorem oneE_def (t : List FileM) (e : EditM) : oneE t e = if e.kind = 1 then oneK1 t e.name else if e.kind = 2 then oneK2 t e.name else if e.kind = 3 then oneK3 t e else if e.kind = 4 then oneK4 t e else ([], 1) := by unfold oneE; rfl
end Go.Proofs.YtjbihmglpfdmnaaGreatDoor
