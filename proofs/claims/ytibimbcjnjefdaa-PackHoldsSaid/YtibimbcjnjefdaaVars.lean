/- What the walks know of the package-level variables. -/
import Derived.Test.YtibimbcjnjefdaaWWalkA
namespace Go.Proofs.Ytibimbcjnjefdaa
open Go.RowKit Go.Dm

end Go.Proofs.Ytibimbcjnjefdaa
