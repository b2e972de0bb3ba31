/- Chapter 3: amounts in boxes, written whole. No program in sight. -/
import Derived.Test.YtibimbcjnjefdaaDoorVcWalkA
import Derived.Test.YtibimbcjnjefdaaDoorDrawF
namespace Go.Dm
open Go Go.RowKit

/-- An amount's four cells are written. -/
def put4 (w : World) (b : Nat) (V : Nat → Nat) : World :=
  (((w.setCell ⟨b, 0, none⟩ (.int .u64 (V 0 : Nat))).setCell ⟨b, 1, none⟩ (.int .u64 (V 1 : Nat))).setCell ⟨b, 2, none⟩ (.int .u64 (V 2 : Nat))).setCell ⟨b, 3, none⟩ (.int .u64 (V 3 : Nat))
theorem put4_size (w : World) (b : Nat) (V : Nat → Nat) : (put4 w b V).heap.size = w.heap.size := by simp [put4]
theorem VBox.put {b : Nat} {A : Nat → Nat} {w : World} (h : VBox b A w) (V : Nat → Nat) : VBox b V (put4 w b V) :=
  ((((h.set (k := 0) (v := V 0) (by omega)).set (k := 1) (v := V 1) (by omega)).set (k := 2) (v := V 2) (by omega)).set (k := 3) (v := V 3) (by omega)).congr fun j hj => by
    match j, hj with
    | 0, _ => simp
    | 1, _ => simp
    | 2, _ => simp
    | 3, _ => simp
theorem VBox.put_far {b c : Nat} {A : Nat → Nat} {w : World} (h : VBox b A w) (hc : c ≠ b) (V : Nat → Nat) : VBox b A (put4 w c V) :=
  (((h.far hc _).far hc _).far hc _).far hc _
theorem Ext.put4 {w w' : World} (h : Ext w w') {b : Nat} (hb : w.heap.size ≤ b) (V : Nat → Nat) : Ext w (put4 w' b V) :=
  (((h.setCell (p := ⟨b, 0, none⟩) hb _).setCell (p := ⟨b, 1, none⟩) hb _).setCell (p := ⟨b, 2, none⟩) hb _).setCell (p := ⟨b, 3, none⟩) hb _
/-- The four cells, one by one. -/
structure V4 (b : Nat) (A : Nat → Nat) (w : World) : Prop where
  lt : b < w.heap.size
  c0 : w.cell? ⟨b, 0, none⟩ = some (.int .u64 (A 0 : Nat))
  c1 : w.cell? ⟨b, 1, none⟩ = some (.int .u64 (A 1 : Nat))
  c2 : w.cell? ⟨b, 2, none⟩ = some (.int .u64 (A 2 : Nat))
  c3 : w.cell? ⟨b, 3, none⟩ = some (.int .u64 (A 3 : Nat))
  f0 : w.frozen? ⟨b, 0, none⟩ = false
  f1 : w.frozen? ⟨b, 1, none⟩ = false
  f2 : w.frozen? ⟨b, 2, none⟩ = false
  f3 : w.frozen? ⟨b, 3, none⟩ = false
theorem VBox.four {b : Nat} {A : Nat → Nat} {w : World} (h : VBox b A w) : V4 b A w :=
  ⟨h.lt, h.cell 0 (by omega), h.cell 1 (by omega), h.cell 2 (by omega), h.cell 3 (by omega), h.free 0 (by omega), h.free 1 (by omega), h.free 2 (by omega), h.free 3 (by omega)⟩
theorem V4.ext {b : Nat} {A : Nat → Nat} {w w' : World} (h : V4 b A w) (hx : Ext w w') : V4 b A w' := by
  have hc : ∀ {i : Nat} {u}, w.cell? ⟨b, i, none⟩ = some u → w'.cell? ⟨b, i, none⟩ = some u := fun {i u} e => by rw [hx.cell (by exact h.lt)]; exact e
  have hf : ∀ {i : Nat}, w.frozen? ⟨b, i, none⟩ = false → w'.frozen? ⟨b, i, none⟩ = false := fun {i} e => by rw [hx.frozen (by exact h.lt)]; exact e
  exact ⟨Nat.lt_of_lt_of_le h.lt hx.size, hc h.c0, hc h.c1, hc h.c2, hc h.c3, hf h.f0, hf h.f1, hf h.f2, hf h.f3⟩
end Go.Dm
