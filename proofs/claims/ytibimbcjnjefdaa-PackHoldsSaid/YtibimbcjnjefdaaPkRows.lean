/- Chapter 13: slots as they lie in a slice. No program in sight. -/
import Derived.Test.YtibimbcjnjefdaaPkPure
namespace Go.Dm
open Go Go.RowKit

def vAt (a : Vc) (k : Nat) : Value := .int .u64 (vG a k : Nat)
def slotOne (r : SlotR) : List Value := [.string r.1, vAt r.2.1 0, vAt r.2.1 1, vAt r.2.1 2, vAt r.2.1 3, r.2.2.1]
def slotVal (r : SlotR) : Value := .agg #[.string r.1, vAt r.2.1 0, vAt r.2.1 1, vAt r.2.1 2, vAt r.2.1 3, r.2.2.1]
def slotCells (R : List SlotR) : List Value := R.flatMap slotOne
theorem slotCells_len (R : List SlotR) : (slotCells R).length = R.length * 6 := by
  induction R with
  | nil => rfl
  | cons x xs ih => simp only [slotCells, slotOne, List.flatMap_cons, List.length_append, List.length_cons, List.length_nil] at *; omega
theorem slotCells_app (a b : List SlotR) : slotCells (a ++ b) = slotCells a ++ slotCells b := by simp [slotCells]
theorem slotCells_at : ∀ (xs : List SlotR) (k : Nat), k < xs.length → ∀ j, j < 6 → (slotCells xs)[k*6+j]? = (slotOne (slAt xs k))[j]?
  | x :: xs, 0, _, j, hj => by
    show (slotOne x ++ slotCells xs)[0*6+j]? = _
    rw [List.getElem?_append_left (by simp [slotOne]; omega)]
    simp [slAt]
  | x :: xs, k+1, h, j, hj => by
    have := slotCells_at xs k (by simpa using h) j hj
    show (slotOne x ++ slotCells xs)[(k+1)*6+j]? = _
    rw [List.getElem?_append_right (by simp [slotOne]; omega)]
    rw [show (k + 1) * 6 + j - (slotOne x).length = k * 6 + j by simp [slotOne]; omega, this]
    simp [slAt]
theorem slotCells_take (R : List SlotR) : ∀ k, k ≤ R.length → (slotCells R).take (k * 6) = slotCells (R.take k) := by
  intro k hk
  have e : R = R.take k ++ R.drop k := (List.take_append_drop k R).symm
  conv => lhs; rw [e]
  rw [slotCells_app, List.take_append_of_le_length (by rw [slotCells_len, List.length_take]; omega), List.take_of_length_le (by rw [slotCells_len, List.length_take]; omega)]

/-- A slice value reads as these slots. -/
structure Slots (w : World) (v : Value) (R : List SlotR) : Prop where
  sl : Sl w 6 v R.length (slotCells R)
  labs : ∀ r ∈ R, Pairs w r.2.2.1 r.2.2.2
  okv : ∀ r ∈ R, OkV r.2.1
theorem Slots.ext {w w' : World} {v R} (h : Slots w v R) (hb : Ext w w') : Slots w' v R := ⟨h.sl.ext hb, fun r hr => (h.labs r hr).ext hb, h.okv⟩
theorem Slots.nil (w : World) : Slots w (.slice none 0 0) [] := ⟨Sl.nil w 6, (fun r hr => by cases hr), (fun r hr => by cases hr)⟩
theorem Slots.shape {w : World} {v R} (h : Slots w v R) : ∃ p cap, v = .slice p R.length cap ∧ R.length ≤ cap ∧ cap ≤ maxLen := by
  obtain ⟨p, cap, h1, h2, h3, _⟩ := Sl.shape h.sl
  exact ⟨p, cap, h1, h2, h3⟩
theorem Slots.at {w : World} {xs : List SlotR} {p cap} (h : Slots w (.slice p xs.length cap) xs) {k : Nat} (hk : k < xs.length) :
    ∃ b off, p = some ⟨b, off, none⟩ ∧ b < w.heap.size ∧ ∀ j, j < 6 → w.cell? ⟨b, off + k*6 + j, none⟩ = (slotOne (slAt xs k))[j]? := by
  obtain ⟨b, off, hp, hb, h⟩ := Sl.at h.sl (by omega)
  refine ⟨b, off, hp, hb, fun j hj => ?_⟩
  have := slotCells_at xs k hk j hj
  obtain ⟨u, hu⟩ : ∃ u, (slotOne (slAt xs k))[j]? = some u := ⟨_, List.getElem?_eq_getElem (by simp [slotOne]; omega)⟩
  rw [hu] at this ⊢
  rw [Nat.add_assoc]
  exact h _ _ this
theorem Slots.lab {w : World} {xs : List SlotR} {v} (h : Slots w v xs) {k : Nat} (hk : k < xs.length) : Pairs w (slAt xs k).2.2.1 (slAt xs k).2.2.2 := h.labs _ (slAt_mem hk)
theorem Slots.ok {w : World} {xs : List SlotR} {v} (h : Slots w v xs) {k : Nat} (hk : k < xs.length) : OkV (slAt xs k).2.1 := h.okv _ (slAt_mem hk)
theorem Slots.of_row {w : World} {B e : Nat} {v : Value} {n : Nat} {l : List SlotR} (h : w.ownsRow B e 6 v n (slotCells l)) (hn : n = l.length)
    (hv : ∀ r ∈ l, Pairs w r.2.2.1 r.2.2.2) (ho : ∀ r ∈ l, OkV r.2.1) : Slots w v l := by
  subst hn
  exact ⟨Sl.of_owns h, hv, ho⟩
theorem Pairs.one {w : World} {v : Value} {ss} (h : Pairs w v ss) : v.oneCell' = true := by
  obtain ⟨p, cap, rfl, _⟩ := h.shape
  rfl
theorem Slots.one {w : World} {v : Value} {R} (h : Slots w v R) : ∀ u ∈ slotCells R, u.oneCell' = true := by
  intro u hu
  obtain ⟨x, hx, hu⟩ := List.mem_flatMap.1 hu
  simp only [slotOne, List.mem_cons, List.mem_nil_iff, or_false] at hu
  rcases hu with rfl | rfl | rfl | rfl | rfl | rfl
  · rfl
  · rfl
  · rfl
  · rfl
  · rfl
  · exact (h.labs x hx).one

/-- Each slot's labels are of a size that a run can hold. -/
def FitK (R : List SlotR) : Prop := ∀ r ∈ R, r.2.2.2.length ≤ 35184372088832
/-- The first slot that is not let. -/
def FirstNo (f : SlotR → Bool) (R : List SlotR) (i : Int) : Prop := (i = -1 ∧ ∀ r ∈ R, f r = true) ∨ ∃ k : Nat, i = k ∧ k < R.length ∧ (∀ j, j < k → f (slAt R j) = true) ∧ f (slAt R k) = false
def letR (T : List RowS) (r : SlotR) : Bool := matchS (T.map rowT) r.2.2.2
end Go.Dm
