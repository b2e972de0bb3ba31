/- Texts one behind the other: Chapter 3: the walks of FormatUint at base 10, Text. -/
import Derived.Test.YtefjdmjkofaajaaGreatDoorB14
import Derived.Test.YtefjdmjkofaajaaGreatDoorB18
import Derived.Test.YtefjdmjkofaajaaGreatDoorB3
import Derived.Test.YtefjdmjkofaajaaGreatDoorShelf
import Derived.Lib.AppendIntMem
import Derived.Lib.ItoaMem
import Derived.Lib.LaidTab
namespace Go.Dm
open Go Go.RowKit
end Go.Dm
namespace Go.Proofs.YtefjdmjkofaajaaGreatDoor
open Go.RowKit Go.Dm

end Go.Proofs.YtefjdmjkofaajaaGreatDoor
