/- Texts one behind the other: Slices of pairs of strings among the arguments. -/
import Derived.Test.YthmhalcloogniaaGreatDoorT12
import Derived.Test.YthmhalcloogniaaGreatDoorT5
namespace Go.Dm
open Go Go.RowKit Go.ChangeShapes Go.WideShapes

section
variable {H : Type} {enc : TypeId × Value → H} {P : Program} {W : World}

end
end Go.Dm
