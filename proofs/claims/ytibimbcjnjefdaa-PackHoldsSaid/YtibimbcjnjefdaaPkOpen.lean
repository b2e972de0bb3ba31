/- Chapter 13: the laws' arguments. -/
import Derived.Test.YtibimbcjnjefdaaPkArgs
import Derived.Test.YtibimbcjnjefdaaPkWalkF
import Derived.Lib.SmallJoins
import Derived.SizedLaws
import Derived.ProofKit
namespace Go.Proofs.Ytibimbcjnjefdaa
open Go.RowKit Go.Dm Go.ChangeShapes Go.WideShapes

theorem Try.own : ownKnob Try.prog.godebug = none := by kernel_rfl
theorem Try.laidOut : laidOutB Try.prog = true := by kernel_rfl

set_option maxRecDepth 100000 in
theorem Try.openVec {H : Type} {enc : TypeId × Value → H} {W : World} {base : Nat} {v : Value} {d : DataW H} {ps : List MemPlace} (hv : Value.okWide Try.prog W .any base 26 v)
    (h : DataW.Trod enc Try.prog W 0 (fun _ => true) true 26 v d ps) : ∃ a : Vc, OkV a ∧ v = vVal a :=
  open_vec Try.underlying26 Try.underlying24 (by kernel_rfl) (by kernel_rfl) hv h

set_option maxRecDepth 100000 in
theorem Try.openSlots {H : Type} {enc : TypeId × Value → H} {W : World} {ts : List TypeId} {ds : List (DataW H)} {j : Nat} {a : Option Addr} {len cap : Nat} {d : DataW H} {ps : List MemPlace}
    (hsz : (DataW.weightsEach Try.prog ts ds).all (· ≤ reachBytes) = true) (ht : ts[j]? = some 22) (hd : ds[j]? = some d)
    (h : DataW.Trod enc Try.prog W 0 (fun _ => true) true 22 (.slice a len cap) d ps) : ∃ R : List SlotR, Slots W (.slice a len cap) R ∧ R.length * 72 ≤ 140737488351232 ∧ FitK R := by
  obtain ⟨R, hx, hc⟩ := slots_of_trod Try.underlying22 Try.underlying47 (by kernel_rfl) rfl rfl rfl (by kernel_rfl) (by kernel_rfl) (by kernel_rfl)
    Try.underlying9 Try.underlying26 Try.underlying24 (by kernel_rfl)
    Try.underlying45 Try.underlying57 (by kernel_rfl) rfl rfl (by kernel_rfl) (by kernel_rfl) Try.underlying9 Try.underlying9 h
  have hw : ∀ n ∈ d.weights Try.prog 22, n ≤ reachBytes := fun n hn => of_decide_eq_true (List.all_eq_true.1 hsz _ (DataW.weights_mem_each ht hd _ hn))
  have hb : Try.prog.bytesOf 47 = 72 := by kernel_rfl
  have hf := slots_fit Try.underlying22 Try.underlying47 Try.underlying45 (by kernel_rfl) hc hw
  rw [hb] at hf
  exact ⟨R, hx, hf.1, hf.2⟩

/-- A selector among the arguments: its texts are of a size that a run can hold. -/
theorem Try.openTerms {H : Type} {enc : TypeId × Value → H} {W : World} {ts : List TypeId} {ds : List (DataW H)} {j : Nat} {a : Option Addr} {len cap : Nat} {d : DataW H} {ps : List MemPlace}
    (hsz : (DataW.weightsEach Try.prog ts ds).all (· ≤ reachBytes) = true) (ht : ts[j]? = some 23) (hd : ds[j]? = some d)
    (h : DataW.Trod enc Try.prog W 0 (fun _ => true) true 23 (.slice a len cap) d ps) : ∃ R : List RowS, Terms W (.slice a len cap) R ∧ R.length ≤ 2932031007319 ∧ FitR R := by
  obtain ⟨R, hx, hc⟩ := terms_of_trod Try.underlying23 Try.underlying59 (by kernel_rfl) rfl rfl rfl (by kernel_rfl) (by kernel_rfl) (by kernel_rfl) Try.underlying9 Try.underlying4 Try.underlying28 Try.underlying9 (by kernel_rfl) h
  have hw : ∀ n ∈ d.weights Try.prog 23, n ≤ reachBytes := fun n hn => of_decide_eq_true (List.all_eq_true.1 hsz _ (DataW.weights_mem_each ht hd _ hn))
  have hb : Try.prog.bytesOf 59 = 48 := by kernel_rfl
  have hf := terms_fit Try.underlying23 Try.underlying59 Try.underlying28 (by kernel_rfl) hc hw
  rw [hb] at hf
  refine ⟨R, hx, ?_, hf.2⟩
  have := hf.1
  simp only [reachBytes] at this
  omega

end Go.Proofs.Ytibimbcjnjefdaa
