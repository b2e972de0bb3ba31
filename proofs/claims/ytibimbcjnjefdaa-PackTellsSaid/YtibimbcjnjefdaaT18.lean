/- Texts one behind the other: Chapter 1: the walks of the program's Put and PutText; Chapter 1: the walk of the program's Get. -/
import Derived.Test.YtibimbcjnjefdaaT16
import Derived.Test.YtibimbcjnjefdaaProg
import Derived.IntWalk
import Derived.OwnWalk
import Derived.Test.YtibimbcjnjefdaaT11
import Derived.Defers
namespace Go.Proofs.Ytibimbcjnjefdaa
open Go.RowKit Go.Dm

theorem Try.slByte : SlT Try.prog 44 5 1 1 := SlT.mk' Try.underlying44 (by kernel_rfl) (by decide) (by decide)

theorem putL_ten' {n : Nat} (h : n ≤ maxLen) : (putL n).length ≤ 10 := putL_ten (show n < _ by unfold maxLen at h; omega)

end Go.Proofs.Ytibimbcjnjefdaa

namespace Go.Dm
open Go Go.RowKit
/-- A variable: a block whose first cell holds this, and may be written. -/
def Cell (b : Nat) (v : Value) (w : World) : Prop := b < w.heap.size ∧ w.cell? ⟨b, 0, none⟩ = some v ∧ w.frozen? ⟨b, 0, none⟩ = false
theorem Cell.ext {b : Nat} {v : Value} {w w' : World} (h : Cell b v w) (hx : Ext w w') : Cell b v w' :=
  ⟨Nat.lt_of_lt_of_le h.1 hx.size, by rw [hx.cell (by exact h.1)]; exact h.2.1, by rw [hx.frozen (by exact h.1)]; exact h.2.2⟩
theorem Cell.set {b : Nat} {v : Value} {w : World} (h : Cell b v w) (u : Value) : Cell b u (w.setCell ⟨b, 0, none⟩ u) :=
  ⟨by rw [World.size_setCell]; exact h.1, (by first | exact World.cell?_setCell_same _ _ _ h.2.1 | exact World.cell?_setCell_same _ _ h.2.1), by rw [World.frozen?_setCell]; exact h.2.2⟩
theorem Cell.other {b c : Nat} {v : Value} {w : World} (h : Cell b v w) (hbc : b ≠ c) (u : Value) : Cell b v (w.setCell ⟨c, 0, none⟩ u) :=
  ⟨by rw [World.size_setCell]; exact h.1, (by have hne : (⟨c, 0, none⟩ : Addr) ≠ ⟨b, 0, none⟩ := (by intro e; injection e with e; exact hbc e.symm); first | (rw [World.cell?_setCell_other _ _ _ hne]; exact h.2.1) | (rw [World.cell?_setCell_other _ _ _ _ hne]; exact h.2.1) | (rw [World.cell?_setCell_other (h := hne)]; exact h.2.1)), by rw [World.frozen?_setCell]; exact h.2.2⟩
/-- What the deferred function leaves: what was before B stands as it stood; the three cells hold these. -/
def Leaves3 (B : Nat) (w : World) (bn bu bo : Nat) (n u : Int) (c : Bool) (w' : World) : Prop :=
  Below B w w' ∧ Cell bn (.int .i64 n) w' ∧ Cell bu (.int .u64 u) w' ∧ Cell bo (.bool c) w'
theorem below_of_ext {B : Nat} {w w' : World} (h : Ext w w') (hB : B ≤ w.heap.size) : Below B w w' := Below.mono h hB
/-- Both are put out. -/
theorem Leaves3.zero {B : Nat} {w wy : World} {bn bu bo : Nat} {vn vu : Value} (hB : B ≤ bn ∧ B ≤ bu ∧ B ≤ bo) (hb : Below B w wy) (cn : Cell bn vn wy) (cu : Cell bu vu wy) (co : Cell bo (.bool false) wy) (hnu : bn ≠ bu) (hno : bn ≠ bo) (huo : bu ≠ bo) :
    Leaves3 B w bn bu bo 0 0 false ((wy.setCell ⟨bu, 0, none⟩ (.int .u64 0)).setCell ⟨bn, 0, none⟩ (.int .i64 0)) :=
  ⟨(hb.setCell (p := ⟨bu, 0, none⟩) hB.2.1 _).setCell (p := ⟨bn, 0, none⟩) hB.1 _, (cn.other hnu _).set _, (cu.set _).other (Ne.symm hnu) _, (co.other (Ne.symm huo) _).other (Ne.symm hno) _⟩
end Go.Dm
namespace Go.Proofs.Ytibimbcjnjefdaa
open Go.RowKit Go.Dm

/-- The four cells that the deferred function reads. -/
def Four (bn bu bs ba : Nat) (n u at' : Int) (s : ByteArray) (w : World) : Prop := Cell bn (.int .i64 n) w ∧ Cell bu (.int .u64 u) w ∧ Cell bs (.string s) w ∧ Cell ba (.int .i64 at') w
theorem Four.ext {bn bu bs ba : Nat} {n u at' : Int} {s : ByteArray} {w w' : World} (h : Four bn bu bs ba n u at' s w) (hx : Ext w w') : Four bn bu bs ba n u at' s w' :=
  ⟨h.1.ext hx, h.2.1.ext hx, h.2.2.1.ext hx, h.2.2.2.ext hx⟩

end Go.Proofs.Ytibimbcjnjefdaa
