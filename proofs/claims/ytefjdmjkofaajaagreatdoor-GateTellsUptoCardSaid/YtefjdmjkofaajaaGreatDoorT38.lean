/- Texts of the base. -/

import Derived.Test.YtefjdmjkofaajaaGreatDoorT11
import Derived.HandedShaped
import Derived.ProofKit
import Derived.OpenShut
import Derived.LaidMore
import Derived.Lay
namespace Go.Dm
open Go Go.RowKit
variable {H : Type} {enc : TypeId × Value → H}
theorem pairs_of_trod {P : Program} {w : World} {base : Nat} {spare : Nat → Bool} {held : Bool} {t e : TypeId} {n fuel : Nat} {f0 f1 : Field} {cs : List Value} {l : List (Int × Int)} {k : IntKind} {pl : List MemPlace}
  (ht : P.underlying t = some (.array n e)) (he : P.underlying e = some (.struct #[f0, f1])) (ce : P.cellsOf e = 2) (o0 : f0.offset = 0) (o1 : f1.offset = 1) (c0 : P.cellsOf f0.type = 1) (c1 : P.cellsOf f1.type = 1)
  (u0 : P.underlying f0.type = some (.int k)) (u1 : P.underlying f1.type = some (.int k))
  (h : DataW.trod enc P w base spare held fuel t cs = some (.agg (l.map fun x => .agg [.lit (.int k x.1), .lit (.int k x.2)]), pl)) :
  l.length = n ∧ ∀ i x, l[i]? = some x → cs[i * 2]? = some (.int k x.1) ∧ cs[i * 2 + 1]? = some (.int k x.2) := by
 obtain ⟨xs, m, _, ex, _, hl, hel⟩ := DataW.trod_array ht h
 have e1 := (DataW.agg.inj (Prod.mk.inj ex).1)
 have hln : l.length = n := by
  have := congrArg List.length e1
  simp only [List.length_map] at this
  omega
 refine ⟨hln, fun i x hx => ?_⟩
 have hi : i < l.length := (List.getElem?_eq_some_iff.1 hx).1
 have hE := hel i (by omega)
 rw [ce, List.getElem?_eq_getElem (by omega)] at hE
 obtain ⟨ys, m', _, ey, _, hyl, hyf⟩ := DataW.trod_struct he hE
 have e2 : (DataW.agg [DataW.lit (Lit.int k x.1), DataW.lit (Lit.int k x.2)] : DataW H) = xs[i].1 := by
  have := congrArg (fun z : List (DataW H) => z[i]?) e1
  simp only [List.getElem?_map, hx, Option.map_some] at this
  rw [List.getElem?_eq_getElem (by omega : i < xs.length)] at this
  simpa using this
 rw [ey] at e2
 have e3 := DataW.agg.inj e2
 have g0 := hyf 0 f0 rfl
 have g1 := hyf 1 f1 rfl
 rw [o0, c0] at g0
 rw [o1, c1] at g1
 match ys, hyl, e3, g0, g1 with
 | [y0, y1], _, e3, g0, g1 =>
  simp only [List.map_cons, List.map_nil, List.cons.injEq, and_true] at e3
  obtain ⟨z0, a0, b0, _⟩ := DataW.trod_int u0 (show DataW.trod _ P w base spare held m' f0.type _ = some y0 from g0)
  obtain ⟨z1, a1, b1, _⟩ := DataW.trod_int u1 (show DataW.trod _ P w base spare held m' f1.type _ = some y1 from g1)
  rw [b0, b1] at e3
  simp only [DataW.lit.injEq, Lit.int.injEq, true_and] at e3
  obtain ⟨rfl, rfl⟩ := e3
  constructor
  ·have : (((cs.drop (i * 2)).take 2).drop 0).take 1 = [.int k x.1] := a0
   have := congrArg (fun z : List Value => z[0]?) this
   simpa [List.getElem?_take, List.getElem?_drop] using this
  ·have : (((cs.drop (i * 2)).take 2).drop 1).take 1 = [.int k x.2] := a1
   have := congrArg (fun z : List Value => z[0]?) this
   simpa [List.getElem?_take, List.getElem?_drop] using this
end Go.Dm
