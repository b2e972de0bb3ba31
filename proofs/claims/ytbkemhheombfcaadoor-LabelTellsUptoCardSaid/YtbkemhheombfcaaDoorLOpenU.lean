/- Chapter 4: labels among the arguments, where what is read is of a bound bulk. -/
import Derived.Test.YtbkemhheombfcaaDoorLOpen
import Derived.Test.YtbkemhheombfcaaDoorBulk
namespace Go.Proofs.YtbkemhheombfcaaDoor
open Go.RowKit Go.Dm Go.ChangeShapes Go.WideShapes

theorem bulk_pair {H : Type} (p : PairS) : Rows.uptoBulk (pairD (H := H) p) = p.1.size + p.2.size + 3 := by
  unfold pairD
  rw [bulk_agg]
  simp only [Rows.uptoBulkAll, bulk_string]
  have h1 : p.1.data.toList.length = p.1.size := by rw [Array.length_toList]; rfl
  have h2 : p.2.data.toList.length = p.2.size := by rw [Array.length_toList]; rfl
  omega

theorem openPairsU {H : Type} {enc : TypeId × Value → H} {W : World} {a : Option Addr} {len cap : Nat} {d : DataW H} {ps : List MemPlace}
    (h : DataW.Trod enc Tryd.prog W 0 (fun _ => true) true 24 (.slice a len cap) d ps) (hb : Rows.uptoBulk d ≤ 1048576) : ∃ xs : List PairS, Pairs W (.slice a len cap) xs ∧ xs.length ≤ 1048576 ∧ FitP xs := by
  obtain ⟨xs, hx, hc⟩ := pairs_open h
  refine ⟨xs, hx, ?_⟩
  rcases hc with ⟨_, rfl⟩ | ⟨sp, rfl⟩
  · exact ⟨by simp, FitP.nil⟩
  · rw [bulk_slice] at hb
    refine ⟨?_, fun p hp => ?_⟩
    · have := bulk_len (xs.map (pairD (H := H)))
      rw [List.length_map] at this
      omega
    · have := bulk_mem (List.mem_map_of_mem (f := pairD (H := H)) hp)
      rw [bulk_pair] at this
      omega

end Go.Proofs.YtbkemhheombfcaaDoor
