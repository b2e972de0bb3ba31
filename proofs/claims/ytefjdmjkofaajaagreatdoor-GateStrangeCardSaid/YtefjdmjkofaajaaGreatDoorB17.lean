/- Texts one behind the other: The law's helper same: two slices of labels hold the same. -/
import Derived.Test.YtefjdmjkofaajaaGreatDoorB16
namespace Go.Dm
open Go Go.RowKit
end Go.Dm
namespace Go.Proofs.YtefjdmjkofaajaaGreatDoor
open Go.RowKit Go.Dm

end Go.Proofs.YtefjdmjkofaajaaGreatDoor
