/- Texts of the base. -/

import Derived.Test.YtefjdmjkofaajaaGreatDoorT13
import Derived.Test.YtefjdmjkofaajaaGreatDoorT4
namespace Go.Dm
open Go Go.RowKit Go.ChangeShapes Go.WideShapes
section
variable {H : Type} {enc : TypeId × Value → H} {P : Program} {W : World}
theorem vec_of_cells {t q : TypeId} {fuel : Nat} (ht : P.underlying t = some (.array 4 q)) (hq : P.underlying q = some (.int .u64)) (cq : P.cellsOf q = 1)
  {v0 v1 v2 v3 : Value} {x : DataW H × List MemPlace} (hf : DataW.trod enc P W 0 (fun _ => true) true fuel t [v0, v1, v2, v3] = some x) : ∃ a : Vc, OkV a ∧ v0 = .int .u64 (vG a 0 : Nat) ∧ v1 = .int .u64 (vG a 1 : Nat) ∧ v2 = .int .u64 (vG a 2 : Nat) ∧ v3 = .int .u64 (vG a 3 : Nat) := by
 obtain ⟨xs, m, _, _, _, hl, hel⟩ := DataW.trod_array ht hf
 have one : ∀ i (h : i < 4) (u : Value), ([v0, v1, v2, v3] : List Value)[i]? = some u → ∃ n : Nat, u = .int .u64 (n : Nat) ∧ U64 n := by
  intro i hi u hu
  have hE := hel i hi
  rw [cq, List.getElem?_eq_getElem (by omega)] at hE
  obtain ⟨z, e0, _, w0⟩ := DataW.trod_int hq hE
  have : (([v0, v1, v2, v3] : List Value).drop (i * 1)).take 1 = [u] := by
   match i, hi, hu with
   | 0, _, h => simpa using h
   | 1, _, h => simpa using h
   | 2, _, h => simpa using h
   | 3, _, h => simpa using h
  rw [this] at e0
  simp only [List.cons.injEq, and_true] at e0
  simp [Lit.wf, IntKind.min, IntKind.max, IntKind.signed, IntKind.bits] at w0
  refine ⟨z.toNat, by rw [e0, Int.toNat_of_nonneg (by omega)], by unfold U64; omega⟩
 obtain ⟨a, rfl, ha⟩ := one 0 (by omega) _ rfl
 obtain ⟨b, rfl, hb⟩ := one 1 (by omega) _ rfl
 obtain ⟨c, rfl, hc⟩ := one 2 (by omega) _ rfl
 obtain ⟨d, rfl, hd⟩ := one 3 (by omega) _ rfl
 exact ⟨[a, b, c, d], okV_mk ha hb hc hd, rfl, rfl, rfl, rfl⟩
end
end Go.Dm
