/- Chapter 5: selectors, slices of texts among the arguments. -/
import Derived.Test.YtbkemhheombfcaaDoorLOpen
import Derived.Test.YtbkemhheombfcaaDoorSArgs
import Derived.Test.YtbkemhheombfcaaDoorSWalkC
namespace Go.Proofs.YtbkemhheombfcaaDoor
open Go.RowKit Go.Dm Go.ChangeShapes Go.WideShapes

theorem terms_open {H : Type} {enc : TypeId × Value → H} {W : World} {a : Option Addr} {len cap : Nat} {d : DataW H} {ps : List MemPlace}
    (h : DataW.Trod enc Tryd.prog W 0 (fun _ => true) true 53 (.slice a len cap) d ps) : ∃ R : List RowS, Terms W (.slice a len cap) R ∧ TermsD R d :=
  terms_of_trod Tryd.underlying53 Tryd.underlying57 (by kernel_rfl) rfl rfl rfl (by kernel_rfl) (by kernel_rfl) (by kernel_rfl) Tryd.underlying9 Tryd.underlying4 Tryd.underlying55 Tryd.underlying9 (by kernel_rfl) h

/-- A selector among the arguments: its texts are of a size that a run can hold. -/
theorem openTerms {H : Type} {enc : TypeId × Value → H} {W : World} {ts : List TypeId} {ds : List (DataW H)} {j : Nat} {a : Option Addr} {len cap : Nat} {d : DataW H} {ps : List MemPlace}
    (hsz : (DataW.weightsEach Tryd.prog ts ds).all (· ≤ reachBytes) = true) (ht : ts[j]? = some 53) (hd : ds[j]? = some d)
    (h : DataW.Trod enc Tryd.prog W 0 (fun _ => true) true 53 (.slice a len cap) d ps) : ∃ R : List RowS, Terms W (.slice a len cap) R ∧ R.length ≤ 35184372088832 ∧ FitR R := by
  obtain ⟨R, hx, hc⟩ := terms_open h
  have hw : ∀ n ∈ d.weights Tryd.prog 53, n ≤ reachBytes := fun n hn => of_decide_eq_true (List.all_eq_true.1 hsz _ (DataW.weights_mem_each ht hd _ hn))
  have hb : Tryd.prog.bytesOf 57 = 48 := by kernel_rfl
  have hf := terms_fit Tryd.underlying53 Tryd.underlying57 Tryd.underlying55 (by kernel_rfl) hc hw
  rw [hb] at hf
  refine ⟨R, hx, ?_, hf.2⟩
  have := hf.1
  simp only [reachBytes] at this
  omega

/-- Texts among the arguments. -/
theorem openStrings {H : Type} {enc : TypeId × Value → H} {W : World} {ts : List TypeId} {ds : List (DataW H)} {j : Nat} {a : Option Addr} {len cap : Nat} {d : DataW H} {ps : List MemPlace}
    (hsz : (DataW.weightsEach Tryd.prog ts ds).all (· ≤ reachBytes) = true) (ht : ts[j]? = some 55) (hd : ds[j]? = some d)
    (h : DataW.Trod enc Tryd.prog W 0 (fun _ => true) true 55 (.slice a len cap) d ps) : ∃ xs : List ByteArray, Strs W (.slice a len cap) xs ∧ xs.length ≤ 35184372088832 ∧ ∀ x ∈ xs, x.size ≤ 140737488351232 := by
  have hw : ∀ n ∈ d.weights Tryd.prog 55, n ≤ reachBytes := fun n hn => of_decide_eq_true (List.all_eq_true.1 hsz _ (DataW.weights_mem_each ht hd _ hn))
  obtain ⟨fuel, hf⟩ := h
  obtain ⟨xs, hx, hc⟩ := strs_of_cells Tryd.underlying55 Tryd.underlying9 (by kernel_rfl) (by simpa [Value.cells] using hf)
  exact ⟨xs, hx, strs_fit Tryd.underlying55 (by kernel_rfl) hc hw⟩

end Go.Proofs.YtbkemhheombfcaaDoor
