/- Texts one behind the other: The type of slices of strings. -/
import Derived.Test.YthmhalcloogniaaGreatDoorT12
import Derived.Test.YthmhalcloogniaaGreatDoorProg
namespace Go.Proofs.YthmhalcloogniaaGreatDoor
open Go.RowKit Go.Dm

theorem Tryz.slStr : SlT Tryz.prog 28 9 1 16 := SlT.mk' Tryz.underlying28 (by kernel_rfl) (by decide) (by decide)

end Go.Proofs.YthmhalcloogniaaGreatDoor
