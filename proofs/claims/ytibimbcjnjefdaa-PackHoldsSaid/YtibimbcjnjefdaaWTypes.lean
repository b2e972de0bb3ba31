/- The type of slices of strings. -/
import Derived.Test.YtibimbcjnjefdaaTexts
import Derived.Test.YtibimbcjnjefdaaProg
namespace Go.Proofs.Ytibimbcjnjefdaa
open Go.RowKit Go.Dm

theorem Try.slStr : SlT Try.prog 28 9 1 16 := SlT.mk' Try.underlying28 (by kernel_rfl) (by decide) (by decide)

end Go.Proofs.Ytibimbcjnjefdaa
