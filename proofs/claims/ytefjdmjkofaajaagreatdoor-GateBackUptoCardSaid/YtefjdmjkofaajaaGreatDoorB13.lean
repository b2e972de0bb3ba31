/- Texts one behind the other: Chapter 3: what Parse finds in a text, in plain terms; Chapter 3: what the document's Number and Parse find, in plain terms. -/
import Derived.Test.YtefjdmjkofaajaaGreatDoorB12
import Derived.Test.YtefjdmjkofaajaaGreatDoorB18
import Derived.Lib.ParseIntBCases
namespace Go.Dm
open Go Go.RowKit

end Go.Dm

namespace Go.Dm
open Go Go.RowKit

end Go.Dm
