/- Chapter 1: the walks of the program's Put and PutText. -/
import Derived.Test.YtibimbcjnjefdaaVPure
import Derived.Test.YtibimbcjnjefdaaProg
import Derived.IntWalk
import Derived.OwnWalk
namespace Go.Proofs.Ytibimbcjnjefdaa
open Go.RowKit Go.Dm

theorem Try.slByte : SlT Try.prog 44 5 1 1 := SlT.mk' Try.underlying44 (by kernel_rfl) (by decide) (by decide)

theorem putL_ten' {n : Nat} (h : n ≤ maxLen) : (putL n).length ≤ 10 := putL_ten (show n < _ by unfold maxLen at h; omega)

end Go.Proofs.Ytibimbcjnjefdaa
