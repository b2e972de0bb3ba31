/- Texts one behind the other: Chapter 4: the walk of the program's pair (a label that stands at a place). -/
import Derived.Test.YthmhalcloogniaaGreatDoorT7
import Derived.Test.YthmhalcloogniaaGreatDoorT12
namespace Go.Dm
open Go Go.RowKit

/-- A variable of two cells. -/
structure Cell2 (b : Nat) (x y : Value) (w : World) : Prop where
  lt : b < w.heap.size
  c0 : w.cell? ⟨b, 0, none⟩ = some x
  c1 : w.cell? ⟨b, 1, none⟩ = some y
  f0 : w.frozen? ⟨b, 0, none⟩ = false
  f1 : w.frozen? ⟨b, 1, none⟩ = false
theorem Cell2.ext {b : Nat} {x y : Value} {w w' : World} (h : Cell2 b x y w) (hx : Ext w w') : Cell2 b x y w' :=
  ⟨Nat.lt_of_lt_of_le h.lt hx.size, by rw [hx.cell (by exact h.lt)]; exact h.c0, by rw [hx.cell (by exact h.lt)]; exact h.c1, by rw [hx.frozen (by exact h.lt)]; exact h.f0, by rw [hx.frozen (by exact h.lt)]; exact h.f1⟩
theorem Cell2.set0 {b : Nat} {x y : Value} {w : World} (h : Cell2 b x y w) (u : Value) : Cell2 b u y (w.setCell ⟨b, 0, none⟩ u) :=
  ⟨by rw [World.size_setCell]; exact h.lt, (by first | exact World.cell?_setCell_same _ _ _ h.c0 | exact World.cell?_setCell_same _ _ h.c0),
    (by have hne : (⟨b, 0, none⟩ : Addr) ≠ ⟨b, 1, none⟩ := (by intro e; injection e with _ e; cases e); first | (rw [World.cell?_setCell_other _ _ _ hne]; exact h.c1) | (rw [World.cell?_setCell_other _ _ _ _ hne]; exact h.c1) | (rw [World.cell?_setCell_other (h := hne)]; exact h.c1)),
    by rw [World.frozen?_setCell]; exact h.f0, by rw [World.frozen?_setCell]; exact h.f1⟩
theorem Cell2.set1 {b : Nat} {x y : Value} {w : World} (h : Cell2 b x y w) (u : Value) : Cell2 b x u (w.setCell ⟨b, 1, none⟩ u) :=
  ⟨by rw [World.size_setCell]; exact h.lt,
    (by have hne : (⟨b, 1, none⟩ : Addr) ≠ ⟨b, 0, none⟩ := (by intro e; injection e with _ e; cases e); first | (rw [World.cell?_setCell_other _ _ _ hne]; exact h.c0) | (rw [World.cell?_setCell_other _ _ _ _ hne]; exact h.c0) | (rw [World.cell?_setCell_other (h := hne)]; exact h.c0)),
    (by first | exact World.cell?_setCell_same _ _ _ h.c1 | exact World.cell?_setCell_same _ _ h.c1),
    by rw [World.frozen?_setCell]; exact h.f0, by rw [World.frozen?_setCell]; exact h.f1⟩
theorem Cell2.new (w : World) (x y : Value) (t : TypeId) : Cell2 w.heap.size x y (w.alloc (.cells #[x, y] t)) :=
  ⟨by simp, by simp, by simp, by simp, by simp⟩

theorem atI_drop {α : Type} {g : Bs → Option (α × Nat)} {d : α} {l : Bs} {q n : Nat} (h0 : g [] = none) : atI g d l ((q : Int) + (n : Int)) = match g (l.drop (q + n)) with | some (u, m) => (u, (q : Int) + (n : Int) + (m : Int), true) | none => (d, 0, false) := by
  unfold atI
  rw [show ((q : Int) + (n : Int)).toNat = q + n by omega]
  split
  · rename_i h
    rw [List.drop_eq_nil_of_le (by omega), h0]
  · rfl

theorem getTextL_nil (most : Nat) : getTextL most [] = none := rfl

end Go.Dm
namespace Go.Proofs.YthmhalcloogniaaGreatDoor
open Go.RowKit Go.Dm

end Go.Proofs.YthmhalcloogniaaGreatDoor
