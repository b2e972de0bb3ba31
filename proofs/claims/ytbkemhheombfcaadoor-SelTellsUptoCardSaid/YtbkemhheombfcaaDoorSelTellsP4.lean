/- Texts one behind the other: The type of slices of strings. -/
import Derived.Test.YtbkemhheombfcaaDoorSelTellsP8
import Derived.Test.YtbkemhheombfcaaDoorProg
namespace Go.Proofs.YtbkemhheombfcaaDoor
open Go.RowKit Go.Dm

theorem Tryd.slStr : SlT Tryd.prog 55 9 1 16 := SlT.mk' Tryd.underlying55 (by kernel_rfl) (by decide) (by decide)

end Go.Proofs.YtbkemhheombfcaaDoor
