/- A slot that stands in a slice, cell by cell. -/
import Derived.Test.YtibimbcjnjefdaaPkWalkC
namespace Go.Dm
open Go Go.RowKit
structure SR (b o : Nat) (node : ByteArray) (V : Nat → Nat) (lv : Value) (w : World) : Prop where
  lt : b < w.heap.size
  c0 : w.cell? ⟨b, o, none⟩ = some (.string node)
  c1 : w.cell? ⟨b, o + 1, none⟩ = some (.int .u64 (V 0 : Nat))
  c2 : w.cell? ⟨b, o + 2, none⟩ = some (.int .u64 (V 1 : Nat))
  c3 : w.cell? ⟨b, o + 3, none⟩ = some (.int .u64 (V 2 : Nat))
  c4 : w.cell? ⟨b, o + 4, none⟩ = some (.int .u64 (V 3 : Nat))
  c5 : w.cell? ⟨b, o + 5, none⟩ = some lv
theorem SR.ext {b o : Nat} {node : ByteArray} {V : Nat → Nat} {lv : Value} {w w' : World} (h : SR b o node V lv w) (hx : Ext w w') : SR b o node V lv w' := by
  have hc : ∀ {i : Nat} {u}, w.cell? ⟨b, i, none⟩ = some u → w'.cell? ⟨b, i, none⟩ = some u := fun {i u} e => by rw [hx.cell (by exact h.lt)]; exact e
  exact ⟨Nat.lt_of_lt_of_le h.lt hx.size, hc h.c0, hc h.c1, hc h.c2, hc h.c3, hc h.c4, hc h.c5⟩
theorem SR.vr {b o : Nat} {node : ByteArray} {V : Nat → Nat} {lv : Value} {w : World} (h : SR b o node V lv w) : VR b o V w := ⟨h.lt, h.c1, h.c2, h.c3, h.c4⟩
theorem Slots.sr {w : World} {xs : List SlotR} {p cap} (h : Slots w (.slice p xs.length cap) xs) {k : Nat} (hk : k < xs.length) :
    ∃ b off, p = some ⟨b, off, none⟩ ∧ SR b (off + k*6) (slAt xs k).1 (vG (slAt xs k).2.1) (slAt xs k).2.2.1 w := by
  obtain ⟨b, off, hp, hb, hc⟩ := h.at hk
  exact ⟨b, off, hp, hb, hc 0 (by omega), hc 1 (by omega), hc 2 (by omega), hc 3 (by omega), hc 4 (by omega), hc 5 (by omega)⟩
end Go.Dm
