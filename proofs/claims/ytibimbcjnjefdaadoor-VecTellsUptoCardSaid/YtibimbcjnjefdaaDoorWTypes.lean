/- The type of slices of strings. -/
import Derived.Test.YtibimbcjnjefdaaDoorTexts
import Derived.Test.YtibimbcjnjefdaaDoorProg
namespace Go.Proofs.YtibimbcjnjefdaaDoor
open Go.RowKit Go.Dm

theorem Tryd.slStr : SlT Tryd.prog 58 9 1 16 := SlT.mk' Tryd.underlying58 (by kernel_rfl) (by decide) (by decide)

end Go.Proofs.YtibimbcjnjefdaaDoor
