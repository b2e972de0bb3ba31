/- Texts of the base. -/

import Derived.Test.YtefjdmjkofaajaaGreatDoorT42
import Derived.Test.YtefjdmjkofaajaaGreatDoorBulk
namespace Go.Proofs.YtefjdmjkofaajaaGreatDoor
open Go.RowKit Go.Dm Go.ChangeShapes Go.WideShapes
theorem bulk_pair {H : Type} (p : PairS) : Rows.uptoBulk (pairD (H := H) p) = p.1.size + p.2.size + 3 := by
 unfold pairD
 rw [bulk_agg]
 simp only [Rows.uptoBulkAll, bulk_string]
 have h1 : p.1.data.toList.length = p.1.size := by rw [Array.length_toList]; rfl
 have h2 : p.2.data.toList.length = p.2.size := by rw [Array.length_toList]; rfl
 omega
theorem openPairsU {H : Type} {enc : TypeId × Value → H} {W : World} {a : Option Addr} {len cap : Nat} {d : DataW H} {ps : List MemPlace}
  (h : DataW.Trod enc Tryz.prog W 0 (fun _ => true) true 31 (.slice a len cap) d ps) (hb : Rows.uptoBulk d ≤ 1048576) : ∃ xs : List PairS, Pairs W (.slice a len cap) xs ∧ xs.length ≤ 1048576 ∧ FitP xs := by
 obtain ⟨xs, hx, hc⟩ := pairs_open h
 refine ⟨xs, hx, ?_⟩
 rcases hc with ⟨_, rfl⟩ | ⟨sp, rfl⟩
 ·exact ⟨by simp, FitP.nil⟩
 ·rw [bulk_slice] at hb
  refine ⟨?_, fun p hp => ?_⟩
  ·have := bulk_len (xs.map (pairD (H := H)))
   rw [List.length_map] at this
   omega
  ·have := bulk_mem (List.mem_map_of_mem (f := pairD (H := H)) hp)
   rw [bulk_pair] at this
   omega
theorem bulk_strs {H : Type} {xs : List ByteArray} {d : DataW H} (h : StrsD xs d) : xs.length ≤ Rows.uptoBulk d ∧ ∀ x ∈ xs, x.size ≤ Rows.uptoBulk d := by
 rcases h with ⟨_, rfl⟩ | ⟨sp, rfl⟩
 ·simp
 ·rw [bulk_slice]
  constructor
  ·have := bulk_len (xs.map fun x => (.lit (.string x.data.toList) : DataW H))
   rw [List.length_map] at this
   omega
  ·intro x hx
   have := bulk_mem (List.mem_map_of_mem (f := fun x : ByteArray => (.lit (.string x.data.toList) : DataW H)) hx)
   rw [bulk_string] at this
   rw [size_len]
   omega
theorem openTermsU {H : Type} {enc : TypeId × Value → H} {W : World} {a : Option Addr} {len cap : Nat} {d : DataW H} {ps : List MemPlace}
  (h : DataW.Trod enc Tryz.prog W 0 (fun _ => true) true 28 (.slice a len cap) d ps) (hb : Rows.uptoBulk d ≤ 1048576) : ∃ R : List RowS, Terms W (.slice a len cap) R ∧ R.length ≤ 1048576 ∧ FitR R := by
 obtain ⟨R, hx, hc⟩ := terms_open h
 refine ⟨R, hx, ?_⟩
 rcases hc with ⟨_, rfl⟩ | ⟨el, sp, rfl, hl, hi⟩
 ·exact ⟨by simp, fun r hr => by cases hr⟩
 ·rw [bulk_slice] at hb
  refine ⟨?_, fun r hr => ?_⟩
  ·have := bulk_len el
   omega
  ·obtain ⟨i, h, rfl⟩ := List.getElem_of_mem hr
   obtain ⟨x, hx, dv, hxe, hs⟩ := hi i h
   rw [show sAtR R i = R[i] by simp [sAtR, h]] at hxe hs
   have h1 := bulk_mem (List.mem_of_getElem? hx)
   subst hxe
   rw [bulk_agg] at h1
   simp only [Rows.uptoBulkAll, bulk_string] at h1
   have h2 := bulk_strs hs
   have h3 := size_len (rowT R[i]).1
   refine ⟨by omega, by have := h2.1; omega, fun y hy => ?_⟩
   have := h2.2 y hy
   omega
end Go.Proofs.YtefjdmjkofaajaaGreatDoor
