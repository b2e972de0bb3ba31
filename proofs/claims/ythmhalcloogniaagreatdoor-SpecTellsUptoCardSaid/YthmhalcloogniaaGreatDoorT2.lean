/- Texts one behind the other: Laws on rows of the call's own: copy, append of zeros, insertion. No program in sight. -/
import Derived.Test.YthmhalcloogniaaGreatDoorT13
import Derived.Lib.Overlaps
import Derived.Lib.AppendZeros
namespace Go.Dm
open Go Go.RowKit

theorem Ext.heap {w w' : World} {k : Nat} {o : Obj} (h : w.heap[k]? = some o) (hx : Ext w w') : w'.heap[k]? = some o := by
  rw [hx.block k (Array.getElem?_eq_some_iff.1 h).1]; exact h

section
variable {P : Program} {w : World} {ops : Array Oper} {rest : List Oper} {o : Oper} {a : Act} {Q : Exit → Act → World → Prop}

end
end Go.Dm
