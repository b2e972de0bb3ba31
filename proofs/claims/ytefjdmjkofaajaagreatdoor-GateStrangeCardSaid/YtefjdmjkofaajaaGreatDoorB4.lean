/- Texts one behind the other: A call's contract lifted to a row that lists variables: the contract is handed the reach, what the row lists, and the world's shape. -/
import Derived.Test.YtefjdmjkofaajaaGreatDoorB7
import Derived.HandedShaped
import Derived.ProofKit
import Derived.OpenShut
import Derived.LaidMore
import Derived.Lay
namespace Go.Dm
open Go Go.RowKit
variable {H : Type} {enc : TypeId × Value → H}

theorem handed_listed {a : Assume} {C : Checked} {os : Os} {f : FuncId} {fn : Func} {s : ChangeSpec} {conds : List PathCond} {apart fresh handsOn again : Bool} {X : World → Array Value → Prop}
  (hX : ∀ (w w' : World) (args : Array Value), w.heap = w'.heap → X w args → X w' args)
  (own : ownKnob C.prog.godebug = none) (started : os.Started) (noInit : C.prog.inits.idxOf? f = none) (hfn : C.prog.funcs[f]? = some fn)
  (witness : ∃ (w : World) (tape : Tape) (i : Input), w.os = os ∧ (w.forCall tape i).Shaped C.prog ∧ i.vars = [] ∧ Input.okWide C.prog (w.forCall tape i) .any w.heap.size f i ∧
   ((s.pre enc C.prog fn conds apart (w.forCall tape i).memory i.args ∧ X (w.forCall tape i).memory i.args) ∧ sizedMet enc C.prog fn (OpenSpec.ofChange s) apart (w.forCall tape i).memory i.args) ∧ a.holds C.prog (lone (Frame.enter C.prog f i.args .normal) [] (w.forCall tape i)))
  (contract : ∀ (W : World) (base : Nat) (args : Array Value) (ds gs : List (DataW H)) (before : List MemPlace),
   (∀ (j : Nat) t v, fn.params[j]? = some t → args[j]? = some v → Value.okWide C.prog W .any base t v) →
   DataW.Whole enc C.prog fn.params.toList s.vars apart W args.toList ds gs before →
   (DataW.weightsEach C.prog (fn.params.toList ++ s.plain.varTypes C.prog) (ds ++ gs)).all (· ≤ reachBytes) = true → X W args → W.ShapedOpen C.prog →
   Calls C.prog f args W fun e W' => ∃ v, e = .returned v ∧ s.post enc C.prog fn apart fresh handsOn again W args v W') :
  ReturnsInHanded a C os f .any (fun w args => (s.pre enc C.prog fn conds apart w args ∧ X w args) ∧ sizedMet enc C.prog fn (OpenSpec.ofChange s) apart w args) (s.post enc C.prog fn apart fresh handsOn again) := by
 refine returnsInHanded_of_calls own started noInit witness ?_
 intro w tape i _ hsh _ hok hpre _
 obtain ⟨_, _, _, fn', hfn', _, _, _, _, hval⟩ := hok
 have e : fn' = fn := Option.some.inj (hfn'.symm.trans hfn)
 subst e
 obtain ⟨⟨⟨ds, gs, before, hw, _⟩, hx⟩, hz⟩ := hpre
 have hw' := DataW.Whole.of_heap (w' := w.forCall tape i) (by rfl) hw
 refine (contract (w.forCall tape i) w.heap.size i.args ds gs before hval hw' (hz.weights hw) (hX _ _ _ (by rfl) hx) hsh).mono fun e W' ⟨v, he, hp⟩ => ?_
 subst he
 exact ChangeSpec.post_blind hp

/-- A listed array of pairs of numbers: its cells. -/
theorem pairs_of_trod {P : Program} {w : World} {base : Nat} {spare : Nat → Bool} {held : Bool} {t e : TypeId} {n fuel : Nat} {f0 f1 : Field} {cs : List Value} {l : List (Int × Int)} {k : IntKind} {pl : List MemPlace}
  (ht : P.underlying t = some (.array n e)) (he : P.underlying e = some (.struct #[f0, f1])) (ce : P.cellsOf e = 2) (o0 : f0.offset = 0) (o1 : f1.offset = 1) (c0 : P.cellsOf f0.type = 1) (c1 : P.cellsOf f1.type = 1)
  (u0 : P.underlying f0.type = some (.int k)) (u1 : P.underlying f1.type = some (.int k))
  (h : DataW.trod enc P w base spare held fuel t cs = some (.agg (l.map fun x => .agg [.lit (.int k x.1), .lit (.int k x.2)]), pl)) :
  l.length = n ∧ ∀ i x, l[i]? = some x → cs[i * 2]? = some (.int k x.1) ∧ cs[i * 2 + 1]? = some (.int k x.2) := by
 obtain ⟨xs, m, _, ex, _, hl, hel⟩ := DataW.trod_array ht h
 have e1 := (DataW.agg.inj (Prod.mk.inj ex).1)
 have hln : l.length = n := by
  have := congrArg List.length e1
  simp only [List.length_map] at this
  omega
 refine ⟨hln, fun i x hx => ?_⟩
 have hi : i < l.length := (List.getElem?_eq_some_iff.1 hx).1
 have hE := hel i (by omega)
 rw [ce, List.getElem?_eq_getElem (by omega)] at hE
 obtain ⟨ys, m', _, ey, _, hyl, hyf⟩ := DataW.trod_struct he hE
 have e2 : (DataW.agg [DataW.lit (Lit.int k x.1), DataW.lit (Lit.int k x.2)] : DataW H) = xs[i].1 := by
  have := congrArg (fun z : List (DataW H) => z[i]?) e1
  simp only [List.getElem?_map, hx, Option.map_some] at this
  rw [List.getElem?_eq_getElem (by omega : i < xs.length)] at this
  simpa using this
 rw [ey] at e2
 have e3 := DataW.agg.inj e2
 have g0 := hyf 0 f0 rfl
 have g1 := hyf 1 f1 rfl
 rw [o0, c0] at g0
 rw [o1, c1] at g1
 match ys, hyl, e3, g0, g1 with
 | [y0, y1], _, e3, g0, g1 =>
  simp only [List.map_cons, List.map_nil, List.cons.injEq, and_true] at e3
  obtain ⟨z0, a0, b0, _⟩ := DataW.trod_int u0 (show DataW.trod _ P w base spare held m' f0.type _ = some y0 from g0)
  obtain ⟨z1, a1, b1, _⟩ := DataW.trod_int u1 (show DataW.trod _ P w base spare held m' f1.type _ = some y1 from g1)
  rw [b0, b1] at e3
  simp only [DataW.lit.injEq, Lit.int.injEq, true_and] at e3
  obtain ⟨rfl, rfl⟩ := e3
  constructor
  ·have : (((cs.drop (i * 2)).take 2).drop 0).take 1 = [.int k x.1] := a0
   have := congrArg (fun z : List Value => z[0]?) this
   simpa [List.getElem?_take, List.getElem?_drop] using this
  ·have : (((cs.drop (i * 2)).take 2).drop 1).take 1 = [.int k x.2] := a1
   have := congrArg (fun z : List Value => z[0]?) this
   simpa [List.getElem?_take, List.getElem?_drop] using this

end Go.Dm
