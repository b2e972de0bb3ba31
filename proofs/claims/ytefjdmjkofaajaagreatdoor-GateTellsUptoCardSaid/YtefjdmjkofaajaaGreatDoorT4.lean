/- Texts of the base. -/

import Derived.Test.YtefjdmjkofaajaaGreatDoorT11
import Derived.ProofKit
import Derived.Deep.SlicePairs
import Derived.Lib.SmallJoins
import Derived.SizedLaws
namespace Go.Dm
open Go Go.RowKit Go.ChangeShapes Go.WideShapes
def Nums (w : World) (k : IntKind) (v : Value) (zs : List Int) : Prop := Sl w 1 v zs.length (zs.map (.int k))
def numAt (zs : List Int) (i : Nat) : Int := zs.getD i 0
theorem Nums.ext {w w' : World} {k v zs} (h : Nums w k v zs) (hb : Ext w w') : Nums w' k v zs := Sl.ext h hb
theorem Nums.shape {w : World} {k v zs} (h : Nums w k v zs) : ∃ p cap, v = .slice p zs.length cap ∧ zs.length ≤ cap ∧ cap ≤ maxLen := by
 obtain ⟨p, cap, h1, h2, h3, _⟩ := Sl.shape h
 exact ⟨p, cap, h1, h2, h3⟩
theorem Nums.at {w : World} {k : IntKind} {zs : List Int} {p cap} (h : Nums w k (.slice p zs.length cap) zs) {i : Nat} (hi : i < zs.length) :
  ∃ b off, p = some ⟨b, off, none⟩ ∧ b < w.heap.size ∧ w.cell? ⟨b, off + i, none⟩ = some (.int k (numAt zs i)) := by
 obtain ⟨b, off, hp, hb, h⟩ := Sl.at h (by omega)
 exact ⟨b, off, hp, hb, h i _ (by simp [hi, numAt])⟩
section
variable {H : Type} {enc : TypeId × Value → H} {P : Program} {W : World}
end
end Go.Dm
