/- Plain words of layer 26: the longest list in common, by suffixes. -/
import Derived.Test.YtllcipobiengiaaGreatZTreeP
namespace Go.Proofs.YtllcipobiengiaaGreat
open Go

end Go.Proofs.YtllcipobiengiaaGreat
