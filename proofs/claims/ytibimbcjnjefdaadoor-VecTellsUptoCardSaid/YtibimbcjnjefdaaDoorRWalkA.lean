/- Chapter 2: the walks of the document's runes and names. -/
import Derived.Test.YtibimbcjnjefdaaDoorRPure
import Derived.Test.YtibimbcjnjefdaaDoorProg
namespace Go.Dm
open Go Go.RowKit
theorem sAt {s : ByteArray} {k : Nat} (h : k < s.size) : (s[k]).toNat = bAt s.data.toList k := by
  have h' : k < s.data.size := h
  simp only [bAt, List.getD_eq_getElem?_getD, Array.getElem?_toList, Array.getElem?_eq_getElem h', Option.getD_some]
  rfl
theorem not_longC_len {n low high : Nat} {l : Bs} (h : ¬ n ≤ l.length) : ¬ longC n low high l := fun c => h c.1
theorem not_longC_low {n low high : Nat} {l : Bs} (h : bAt l 1 < low) : ¬ longC n low high l := fun c => by have := c.2.1; omega
theorem not_longC_high {n low high : Nat} {l : Bs} (h : high < bAt l 1) : ¬ longC n low high l := fun c => by have := c.2.2.1; omega
theorem not_longC_at {n low high j : Nat} {l : Bs} (h1 : 2 ≤ j) (h2 : j < n) (h : bAt l j < 128 ∨ 191 < bAt l j) : ¬ longC n low high l := fun c => by have := c.2.2.2 j h1 h2; omega
end Go.Dm
namespace Go.Proofs.YtibimbcjnjefdaaDoor
open Go.RowKit Go.Dm

end Go.Proofs.YtibimbcjnjefdaaDoor
