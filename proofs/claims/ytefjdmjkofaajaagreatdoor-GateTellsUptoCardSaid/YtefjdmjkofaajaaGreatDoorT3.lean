/- Texts of the base. -/

import Derived.Test.YtefjdmjkofaajaaGreatDoorT13
import Derived.Test.YtefjdmjkofaajaaGreatDoorProg
namespace Go.Proofs.YtefjdmjkofaajaaGreatDoor
open Go.RowKit Go.Dm
theorem Tryz.slStr : SlT Tryz.prog 60 9 1 16 := SlT.mk' Tryz.underlying60 (by kernel_rfl) (by decide) (by decide)
end Go.Proofs.YtefjdmjkofaajaaGreatDoor
