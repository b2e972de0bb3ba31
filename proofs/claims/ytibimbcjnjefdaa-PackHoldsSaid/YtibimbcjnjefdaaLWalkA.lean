/- Chapter 4: the walk of the program's Right. -/
import Derived.Test.YtibimbcjnjefdaaLPure
import Derived.Test.YtibimbcjnjefdaaWWalkA
namespace Go.Proofs.Ytibimbcjnjefdaa
open Go.RowKit Go.Dm

end Go.Proofs.Ytibimbcjnjefdaa
