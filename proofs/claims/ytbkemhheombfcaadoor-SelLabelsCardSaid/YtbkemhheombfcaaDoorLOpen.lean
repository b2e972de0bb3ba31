/- Chapter 4: labels among the arguments. -/
import Derived.Test.YtbkemhheombfcaaDoorWOpen
import Derived.Test.YtbkemhheombfcaaDoorLArgs
namespace Go.Proofs.YtbkemhheombfcaaDoor
open Go.RowKit Go.Dm Go.ChangeShapes Go.WideShapes

theorem pairs_open {H : Type} {enc : TypeId × Value → H} {W : World} {a : Option Addr} {len cap : Nat} {d : DataW H} {ps : List MemPlace}
    (h : DataW.Trod enc Tryd.prog W 0 (fun _ => true) true 24 (.slice a len cap) d ps) :
    ∃ xs : List PairS, Pairs W (.slice a len cap) xs ∧ ((d = .nil ∧ xs = []) ∨ ∃ sp, d = .slice (xs.map pairD) sp) :=
  pairs_of_trod2 Tryd.underlying24 Tryd.underlying29 (by kernel_rfl) rfl rfl (by kernel_rfl) (by kernel_rfl) Tryd.underlying9 Tryd.underlying9 h

/-- Labels among the arguments: their texts are of a size that a run can hold. -/
theorem openPairs {H : Type} {enc : TypeId × Value → H} {W : World} {ts : List TypeId} {ds : List (DataW H)} {j : Nat} {a : Option Addr} {len cap : Nat} {d : DataW H} {ps : List MemPlace}
    (hsz : (DataW.weightsEach Tryd.prog ts ds).all (· ≤ reachBytes) = true) (ht : ts[j]? = some 24) (hd : ds[j]? = some d)
    (h : DataW.Trod enc Tryd.prog W 0 (fun _ => true) true 24 (.slice a len cap) d ps) : ∃ xs : List PairS, Pairs W (.slice a len cap) xs ∧ xs.length ≤ 35184372088832 ∧ FitP xs := by
  obtain ⟨xs, hx, hc⟩ := pairs_open h
  refine ⟨xs, hx, ?_⟩
  rcases hc with ⟨_, rfl⟩ | ⟨sp, rfl⟩
  · exact ⟨by simp, FitP.nil⟩
  · refine ⟨?_, fit_of_weights hsz ht hd Tryd.underlying24 Tryd.underlying29⟩
    have := sized_slice hsz ht hd Tryd.underlying24
    rw [show Tryd.prog.bytesOf 29 = 32 by kernel_rfl, List.length_map] at this
    simp only [reachBytes] at this
    omega

end Go.Proofs.YtbkemhheombfcaaDoor
