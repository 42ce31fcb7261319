/- Contract of bruitref15.Good. -/
import Derived.Test.YtjbihmglpfdmnaaGreatDoorTreeC
namespace Go.Proofs.YtjbihmglpfdmnaaGreatDoor
open Go Go.RowKit

end Go.Proofs.YtjbihmglpfdmnaaGreatDoor
