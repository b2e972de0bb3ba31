/- Texts of the base. -/

import Derived.Test.YtefjdmjkofaajaaGreatDoorT24
import Derived.Lib.AtoiErrMem
namespace Go.Dm
open Go Go.RowKit
end Go.Dm
namespace Go.Proofs.YtefjdmjkofaajaaGreatDoor
open Go.RowKit Go.Dm
end Go.Proofs.YtefjdmjkofaajaaGreatDoor
