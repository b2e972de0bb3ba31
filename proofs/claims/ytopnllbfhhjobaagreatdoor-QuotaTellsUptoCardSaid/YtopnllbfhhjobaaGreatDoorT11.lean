/- Texts one behind the other: Chapter 4 in plain terms: labels. No program in sight. -/
import Derived.Test.YtopnllbfhhjobaaGreatDoorT5
namespace Go.Dm
open Go Go.RowKit

abbrev PairS := ByteArray × ByteArray
abbrev PairL := Bs × Bs
def noPair : PairS := (⟨#[]⟩, ⟨#[]⟩)
def pairAt (l : List PairS) (k : Nat) : PairS := l.getD k noPair
def pairCells (l : List PairS) : List Value := l.flatMap fun p => [.string p.1, .string p.2]
theorem pairCells_at : ∀ (xs : List PairS) (k : Nat), k < xs.length → (pairCells xs)[k*2]? = some (.string (pairAt xs k).1) ∧ (pairCells xs)[k*2+1]? = some (.string (pairAt xs k).2)
  | x :: xs, 0, _ => by simp [pairCells, pairAt]
  | x :: xs, k+1, h => by
    have := pairCells_at xs k (by simpa using h)
    have e : (k+1)*2 = k*2+1+1 := by omega
    have e2 : (k+1)*2+1 = k*2+1+1+1 := by omega
    simp only [e, pairCells, pairAt, List.flatMap_cons, List.cons_append, List.nil_append, List.getElem?_cons_succ, List.getD_cons_succ]
    exact this
theorem pairCells_len (xs : List PairS) : (pairCells xs).length = xs.length * 2 := by
  induction xs with
  | nil => rfl
  | cons x xs ih => simp only [pairCells, List.flatMap_cons, List.length_append, List.length_cons, List.length_nil] at *; omega
theorem pairCells_app (a b : List PairS) : pairCells (a ++ b) = pairCells a ++ pairCells b := by simp [pairCells]
theorem pairCells_one (l : List PairS) : ∀ u ∈ pairCells l, u.oneCell' = true := by
  intro u hu
  obtain ⟨x, _, hx⟩ := List.mem_flatMap.1 hu
  simp only [List.mem_cons, List.mem_nil_iff, or_false] at hx
  rcases hx with rfl | rfl <;> rfl
theorem pairAt_mem {l : List PairS} {k : Nat} (h : k < l.length) : pairAt l k ∈ l := by
  simp only [pairAt, List.getD_eq_getElem?_getD, List.getElem?_eq_getElem h, Option.getD_some]
  exact List.getElem_mem h

/-- A slice value reads as these labels. -/
def Pairs (w : World) (v : Value) (l : List PairS) : Prop := Sl w 2 v l.length (pairCells l)
theorem Pairs.ext {w w' : World} {v l} (h : Pairs w v l) (hb : Ext w w') : Pairs w' v l := Sl.ext h hb
theorem Pairs.nil (w : World) : Pairs w (.slice none 0 0) [] := Sl.nil w 2
theorem Pairs.shape {w : World} {v l} (h : Pairs w v l) : ∃ p cap, v = .slice p l.length cap ∧ l.length ≤ cap ∧ cap ≤ maxLen := by
  obtain ⟨p, cap, h1, h2, h3, _⟩ := Sl.shape h
  exact ⟨p, cap, h1, h2, h3⟩
theorem Pairs.at {w : World} {xs : List PairS} {p cap} (h : Pairs w (.slice p xs.length cap) xs) {k : Nat} (hk : k < xs.length) :
    ∃ b off, p = some ⟨b, off, none⟩ ∧ b < w.heap.size ∧ w.cell? ⟨b, off + k*2, none⟩ = some (.string (pairAt xs k).1) ∧ w.cell? ⟨b, off + k*2 + 1, none⟩ = some (.string (pairAt xs k).2) := by
  obtain ⟨b, off, hp, hb, h⟩ := Sl.at h (by omega)
  have := pairCells_at xs k hk
  exact ⟨b, off, hp, hb, h _ _ this.1, by have := h _ _ this.2; rw [show off + (k*2+1) = off + k*2+1 by omega] at this; exact this⟩
theorem Pairs.cells {w : World} {xs : List PairS} {b off cap} (h : Pairs w (.slice (some ⟨b, off, none⟩) xs.length cap) xs) {k : Nat} (hk : k < xs.length) :
    w.cell? ⟨b, off + k*2, none⟩ = some (.string (pairAt xs k).1) ∧ w.cell? ⟨b, off + k*2 + 1, none⟩ = some (.string (pairAt xs k).2) := by
  obtain ⟨b', off', hp, _, h⟩ := h.at hk
  injection hp with hp
  injection hp with e1 e2
  subst e1 e2
  exact h
theorem Pairs.of_row {w : World} {B e : Nat} {v : Value} {n : Nat} {l : List PairS} (h : w.ownsRow B e 2 v n (pairCells l)) (hn : n = l.length) : Pairs w v l := by
  subst hn
  exact Sl.of_owns h

/-- Each text is of a size that a run can hold. -/
def FitP (l : List PairS) : Prop := ∀ p ∈ l, p.1.size ≤ 140737488351232 ∧ p.2.size ≤ 140737488351232

theorem FitP.nil : FitP [] := fun p hp => by cases hp
def pL (p : PairS) : PairL := (p.1.data.toList, p.2.data.toList)
def labL (l : List PairS) : List PairL := l.map pL
theorem labL_len (l : List PairS) : (labL l).length = l.length := by simp [labL]
def plAt (L : List PairL) (k : Nat) : PairL := L.getD k ([], [])
theorem labL_at (l : List PairS) {k : Nat} (h : k < l.length) : plAt (labL l) k = pL (pairAt l k) := by
  simp [plAt, labL, pairAt, h]

/-- 'a <= b' on texts. -/
def leB (a b : Bs) : Bool := Op.bytesLess a b || a == b

theorem less_iff_lt (x y : Bs) : Op.bytesLess x y = decide (x < y) := by
  induction x generalizing y with
  | nil => cases y <;> simp [Op.bytesLess]
  | cons a x ih =>
    cases y with
    | nil => simp [Op.bytesLess]
    | cons b y =>
      rw [Op.bytesLess, ih, Bool.eq_iff_iff]
      simp [List.cons_lt_cons_iff]

theorem ltB_irrefl (a : Bs) : Op.bytesLess a a = false := by rw [less_iff_lt]; simp
theorem ltB_trans {a b c : Bs} (h1 : Op.bytesLess a b = true) (h2 : Op.bytesLess b c = true) : Op.bytesLess a c = true := by
  rw [less_iff_lt, decide_eq_true_eq] at *
  exact List.lt_trans h1 h2
theorem not_leB (a b : Bs) : (!leB a b) = Op.bytesLess b a := by
  unfold leB
  rw [Bool.eq_iff_iff, Bool.not_eq_true', Bool.or_eq_false_iff, less_iff_lt, less_iff_lt, decide_eq_true_eq, decide_eq_false_iff_not, beq_eq_false_iff_ne]
  constructor
  · rintro ⟨h1, h2⟩
    have h3 := List.not_lt.1 h1
    exact Std.lt_of_le_of_ne h3 (Ne.symm h2)
  · intro h
    exact ⟨fun h' => List.lt_irrefl b (List.lt_trans h h'), fun e => by subst e; exact List.lt_irrefl _ h⟩

/-- P4.1: may the label at a place stand there? -/
def okLab (L : List PairL) (k : Nat) : Bool := rightL (plAt L k).1 && (rightL (plAt L k).2 && (k == 0 || !leB (plAt L k).1 (plAt L (k - 1)).1))
/-- P4.1: may labels be? -/
def rightLab (L : List PairL) : Bool := decide (L.length ≤ 8) && (List.range L.length).all (okLab L)

theorem rightLab_bad {L : List PairL} {k : Nat} (hk : k < L.length) (h : okLab L k = false) : rightLab L = false := by
  unfold rightLab
  rw [Bool.and_eq_false_iff]
  right
  rw [List.all_eq_false]
  exact ⟨k, List.mem_range.2 hk, by rw [h]; simp⟩
theorem rightLab_all {L : List PairL} (h : ∀ k, k < L.length → okLab L k = true) : rightLab L = decide (L.length ≤ 8) := by
  unfold rightLab
  rw [List.all_eq_true.2 (fun k hk => h k (List.mem_range.1 hk)), Bool.and_true]
theorem rightLab_iff {L : List PairL} : rightLab L = true ↔ L.length ≤ 8 ∧ ∀ k, k < L.length → okLab L k = true := by
  unfold rightLab
  rw [Bool.and_eq_true, decide_eq_true_eq, List.all_eq_true]
  exact ⟨fun h => ⟨h.1, fun k hk => h.2 k (List.mem_range.2 hk)⟩, fun h => ⟨h.1, fun k hk => h.2 k (List.mem_range.1 hk)⟩⟩

end Go.Dm
