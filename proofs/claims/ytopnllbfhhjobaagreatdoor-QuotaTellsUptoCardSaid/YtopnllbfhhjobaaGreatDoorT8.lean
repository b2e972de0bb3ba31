/- Texts one behind the other: Chapter 3: the walks of Add, Fits, Times; Chapter 10 in plain terms: a tree of limits. No program in sight; slices.Insert and slices.Clone at []quota.Entry, quota.tree; Chapter 10: the walks of place, above, named, parent, Find; Chapter 10: a block that holds an entry. No program in sight; Chapter 10: the walks of Find; of the place where Set puts. -/
import Derived.Test.YtopnllbfhhjobaaGreatDoorT20
import Derived.Test.YtopnllbfhhjobaaGreatDoorShelf
import Derived.Test.YtopnllbfhhjobaaGreatDoorT5
import Derived.Test.YtopnllbfhhjobaaGreatDoorT6
import Derived.Test.YtopnllbfhhjobaaGreatDoorT9
import Derived.Test.YtopnllbfhhjobaaGreatDoorT7
import Derived.Test.YtopnllbfhhjobaaGreatDoorT17
import Derived.Test.YtopnllbfhhjobaaGreatDoorT3
namespace Go.Dm
open Go Go.RowKit
theorem allV_add (a b : Vc) : allV (fun x y => decide (x + y < 18446744073709551616)) (vG a) (vG b) = vaddOk a b := by
  unfold allV vaddOk vG
  simp [List.range_succ, Bool.and_assoc]
theorem vadd_at {a b : Vc} {k : Nat} (hk : k < 4) : vG (vadd a b) k = vG a k + vG b k := by
  unfold vG vadd
  simp [hk]
def vtimesOk (a : Vc) (n : Nat) : Bool := (List.range 4).all fun k => decide (vG a k * n < 18446744073709551616)
def vtimes (a : Vc) (n : Nat) : Vc := (List.range 4).map fun k => vG a k * n
theorem allV_times (a : Vc) (B : Nat → Nat) (n : Nat) : allV (fun x _ => decide (x * n < 18446744073709551616)) (vG a) B = vtimesOk a n := by
  unfold allV vtimesOk
  simp [List.range_succ, Bool.and_assoc]
theorem vtimes_at {a : Vc} {n k : Nat} (hk : k < 4) : vG (vtimes a n) k = vG a k * n := by
  show (vtimes a n).getD k 0 = _
  unfold vtimes
  simp [hk]
end Go.Dm
namespace Go.Proofs.YtopnllbfhhjobaaGreatDoor
open Go.RowKit Go.Dm

theorem bitsAdd (x y : Nat) (w : World) : (callFunc 97 #[.int .u64 (x : Nat), .int .u64 (y : Nat), .int .u64 0]).run Tryz.prog w =
    .ok (.value (.tuple #[.int .u64 (((x + y) % 18446744073709551616 : Nat) : Int), .int .u64 (((x + y) / 18446744073709551616 : Nat) : Int)])) w := by
  rw [run_callFunc_extern Tryz.func97 (by kernel_rfl) (by kernel_rfl) (by kernel_rfl) (e := add64Entry) (by kernel_rfl), run_add64 (x : Int) (y : Int) 0 (by omega) (by omega) (by omega) (by omega)]
  simp

set_option maxHeartbeats 400000 in
theorem wadd_w : Does 86 (fun x y => x + y) (fun x y => decide (x + y < 18446744073709551616)) := by
  refine ⟨fun _ _ => by kernel_rfl, fun x y w hx hy => ?_⟩
  have hb := bitsAdd x y
  unfold U64 at hx hy
  by_cases h : x + y < 18446744073709551616
  · rw [show (x + y) / 18446744073709551616 = 0 by omega, show (x + y) % 18446744073709551616 = x + y by omega] at hb
    simp only [h, decide_true, if_true]
    go_enter Tryz.func86, Tryz.ntmps86
    go_wp2
    go_ret2
    exact ⟨rfl, Ext.refl _⟩
  · rw [show (x + y) / 18446744073709551616 = 1 by omega] at hb
    simp only [h, decide_false, Bool.false_eq_true, if_false]
    go_enter Tryz.func86, Tryz.ntmps86
    go_wp2
    go_ret2
    exact ⟨rfl, Ext.refl _⟩

set_option maxHeartbeats 1000000 in
theorem vadd_w (a b : Vc) (ha : OkV a) (hb : OkV b) (w : World) :
    Calls Tryz.prog 71 #[vVal a, vVal b] w fun e w' => e = .returned (.tuple #[vVal (vOr (vaddOk a b) (vadd a b)), .bool (vaddOk a b)]) ∧ Ext w w' := by
  have C := fun w1 => both_w _ _ _ wadd_w (vG a) (vG b) ha.u64 hb.u64 w1
  rw [allV_add, vG_or _ (fun k => vG a k + vG b k) (vadd a b) (fun k hk => vadd_at hk)] at C
  unfold vVal
  generalize vG (vOr (vaddOk a b) (vadd a b)) = R at C ⊢
  generalize vaddOk a b = d at C ⊢
  generalize vG a = A at C ⊢
  generalize vG b = B at C ⊢
  have hE : Ext w (((w.alloc (.cells #[.int .u64 (A 0 : Nat), .int .u64 (A 1 : Nat), .int .u64 (A 2 : Nat), .int .u64 (A 3 : Nat)] 25)).alloc (.cells #[.int .u64 (B 0 : Nat), .int .u64 (B 1 : Nat), .int .u64 (B 2 : Nat), .int .u64 (B 3 : Nat)] 25)).alloc (.cells #[.int .u64 (0 : Nat), .int .u64 (0 : Nat), .int .u64 (0 : Nat), .int .u64 (0 : Nat)] 25)) := (((Ext.refl w).alloc _).alloc _).alloc _
  have hv : VBox (w.heap.size + 1 + 1) (fun _ => 0) (((w.alloc (.cells #[.int .u64 (A 0 : Nat), .int .u64 (A 1 : Nat), .int .u64 (A 2 : Nat), .int .u64 (A 3 : Nat)] 25)).alloc (.cells #[.int .u64 (B 0 : Nat), .int .u64 (B 1 : Nat), .int .u64 (B 2 : Nat), .int .u64 (B 3 : Nat)] 25)).alloc (.cells #[.int .u64 (0 : Nat), .int .u64 (0 : Nat), .int .u64 (0 : Nat), .int .u64 (0 : Nat)] 25)) := by
    have h := VBox.new ((w.alloc (.cells #[.int .u64 (A 0 : Nat), .int .u64 (A 1 : Nat), .int .u64 (A 2 : Nat), .int .u64 (A 3 : Nat)] 25)).alloc (.cells #[.int .u64 (B 0 : Nat), .int .u64 (B 1 : Nat), .int .u64 (B 2 : Nat), .int .u64 (B 3 : Nat)] 25)) (fun _ => 0) 25
    rw [World.size_alloc, World.size_alloc] at h
    exact h
  unfold vF at C ⊢
  replace C := Lib.hid C
  go_enter Tryz.func71, Tryz.ntmps71
  go_wp2_with fail
  refine (C.out _).mono ?_; rintro e w1 ⟨rfl, h1⟩
  have v1 := hv.ext h1
  have d0 := v1.cell 0 (by omega)
  have d1 := v1.cell 1 (by omega)
  have d2 := v1.cell 2 (by omega)
  have d3 := v1.cell 3 (by omega)
  have e0 := v1.free 0 (by omega)
  have e1 := v1.free 1 (by omega)
  have e2 := v1.free 2 (by omega)
  have e3 := v1.free 3 (by omega)
  go_wp2
  have z0 := (((v1.set (k := 0) (v := R 0) (by omega)).set (k := 1) (v := R 1) (by omega)).set (k := 2) (v := R 2) (by omega)).set (k := 3) (v := R 3) (by omega)
  have k0 := z0.cell 0 (by omega)
  have k1 := z0.cell 1 (by omega)
  have k2 := z0.cell 2 (by omega)
  have k3 := z0.cell 3 (by omega)
  simp at k0 k1 k2 k3
  refine bodyPost_ret (v := .tuple #[.agg #[.int .u64 (R 0 : Nat), .int .u64 (R 1 : Nat), .int .u64 (R 2 : Nat), .int .u64 (R 3 : Nat)], .bool d]) (by simp [results, Tryz.results71, go_sem, k0, k1, k2, k3]) rfl ?_
  exact ⟨rfl, ((((hE.trans h1).setCell (p := ⟨w.heap.size + 1 + 1, 0, none⟩) (Nat.le_add_right _ 2) _).setCell (p := ⟨w.heap.size + 1 + 1, 1, none⟩) (Nat.le_add_right _ 2) _).setCell (p := ⟨w.heap.size + 1 + 1, 2, none⟩) (Nat.le_add_right _ 2) _).setCell (p := ⟨w.heap.size + 1 + 1, 3, none⟩) (Nat.le_add_right _ 2) _⟩

theorem vfits_w (a b : Vc) (ha : OkV a) (hb : OkV b) (w : World) :
    Calls Tryz.prog 29 #[vVal a, vVal b] w fun e w' => e = .returned (.bool (vfits a b)) ∧ Ext w w' := by
  have C := fun w1 => vsub_w b a hb ha w1
  unfold vVal at C ⊢
  generalize vG (vOr (vfits a b) (vsub b a)) = R at C
  generalize vfits a b = d at C ⊢
  generalize vG a = A at C ⊢
  generalize vG b = B at C ⊢
  have hE : Ext w ((w.alloc (.cells #[.int .u64 (A 0 : Nat), .int .u64 (A 1 : Nat), .int .u64 (A 2 : Nat), .int .u64 (A 3 : Nat)] 25)).alloc (.cells #[.int .u64 (B 0 : Nat), .int .u64 (B 1 : Nat), .int .u64 (B 2 : Nat), .int .u64 (B 3 : Nat)] 25)) := ((Ext.refl w).alloc _).alloc _
  unfold vF at C ⊢
  replace C := Lib.hid C
  go_enter Tryz.func29, Tryz.ntmps29
  go_wp2_with fail
  refine (C.out _).mono ?_; rintro e w1 ⟨rfl, h1⟩
  go_wp2
  go_ret
  exact ⟨rfl, hE.trans (h1.trans ((Ext.refl _).alloc _))⟩

end Go.Proofs.YtopnllbfhhjobaaGreatDoor

namespace Go.Dm
open Go Go.RowKit

/-- An entry: its path, its limit, what is used. -/
abbrev EntQ := ByteArray × Vc × Vc
def noEnt : EntQ := (⟨#[]⟩, noV, noV)
def eAt (l : List EntQ) (k : Nat) : EntQ := l.getD k noEnt
theorem eAt_eq {l : List EntQ} {k : Nat} (h : k < l.length) : eAt l k = l[k] := by simp [eAt, h]
theorem eAt_mem {l : List EntQ} {k : Nat} (h : k < l.length) : eAt l k ∈ l := by rw [eAt_eq h]; exact List.getElem_mem h
def uAt (a : Vc) (k : Nat) : Value := .int .u64 (vG a k : Nat)
def entOne (r : EntQ) : List Value := [.string r.1, uAt r.2.1 0, uAt r.2.1 1, uAt r.2.1 2, uAt r.2.1 3, uAt r.2.2 0, uAt r.2.2 1, uAt r.2.2 2, uAt r.2.2 3]
def entVal (r : EntQ) : Value := .agg #[.string r.1, uAt r.2.1 0, uAt r.2.1 1, uAt r.2.1 2, uAt r.2.1 3, uAt r.2.2 0, uAt r.2.2 1, uAt r.2.2 2, uAt r.2.2 3]
def entCellsQ (R : List EntQ) : List Value := R.flatMap entOne
theorem entCellsQ_len (R : List EntQ) : (entCellsQ R).length = R.length * 9 := by
  induction R with
  | nil => rfl
  | cons x xs ih => simp only [entCellsQ, entOne, List.flatMap_cons, List.length_append, List.length_cons, List.length_nil] at *; omega
theorem entCellsQ_app (a b : List EntQ) : entCellsQ (a ++ b) = entCellsQ a ++ entCellsQ b := by simp [entCellsQ]
theorem entCellsQ_at : ∀ (xs : List EntQ) (k : Nat), k < xs.length → ∀ j, j < 9 → (entCellsQ xs)[k*9+j]? = (entOne (eAt xs k))[j]?
  | x :: xs, 0, _, j, hj => by
    show (entOne x ++ entCellsQ xs)[0*9+j]? = _
    rw [List.getElem?_append_left (by simp [entOne]; omega)]
    simp [eAt]
  | x :: xs, k+1, h, j, hj => by
    have := entCellsQ_at xs k (by simpa using h) j hj
    show (entOne x ++ entCellsQ xs)[(k+1)*9+j]? = _
    rw [List.getElem?_append_right (by simp [entOne]; omega)]
    rw [show (k + 1) * 9 + j - (entOne x).length = k * 9 + j by simp [entOne]; omega, this]
    simp [eAt]
theorem entCellsQ_take (R : List EntQ) : ∀ k, k ≤ R.length → (entCellsQ R).take (k * 9) = entCellsQ (R.take k) := by
  intro k hk
  have e : R = R.take k ++ R.drop k := (List.take_append_drop k R).symm
  conv => lhs; rw [e]
  rw [entCellsQ_app, List.take_append_of_le_length (by rw [entCellsQ_len, List.length_take]; omega), List.take_of_length_le (by rw [entCellsQ_len, List.length_take]; omega)]
theorem entCellsQ_drop (R : List EntQ) : ∀ k, k ≤ R.length → (entCellsQ R).drop (k * 9) = entCellsQ (R.drop k) := by
  intro k hk
  have e : R = R.take k ++ R.drop k := (List.take_append_drop k R).symm
  conv => lhs; rw [e]
  rw [entCellsQ_app, List.drop_append_of_le_length (by rw [entCellsQ_len, List.length_take]; omega), List.drop_eq_nil_of_le (by rw [entCellsQ_len, List.length_take]; omega), List.nil_append]
theorem entCellsQ_one (R : List EntQ) : ∀ u ∈ entCellsQ R, u.oneCell' = true := by
  intro u hu
  obtain ⟨x, _, hu⟩ := List.mem_flatMap.1 hu
  simp only [entOne, uAt, List.mem_cons, List.mem_nil_iff, or_false] at hu
  rcases hu with rfl | rfl | rfl | rfl | rfl | rfl | rfl | rfl | rfl <;> rfl
theorem entOne_one (r : EntQ) : ∀ u ∈ entOne r, u.oneCell' = true := by
  have := entCellsQ_one [r]
  simpa [entCellsQ] using this

/-- A slice value reads as these entries. -/
def Tree (w : World) (v : Value) (R : List EntQ) : Prop := Sl w 9 v R.length (entCellsQ R)
theorem Tree.ext {w w' : World} {v R} (h : Tree w v R) (hb : Ext w w') : Tree w' v R := Sl.ext h hb
theorem Tree.nil (w : World) : Tree w (.slice none 0 0) [] := Sl.nil w 9
theorem Tree.shape {w : World} {v R} (h : Tree w v R) : ∃ p cap, v = .slice p R.length cap ∧ R.length ≤ cap ∧ cap ≤ maxLen := by
  obtain ⟨p, cap, h1, h2, h3, _⟩ := Sl.shape h
  exact ⟨p, cap, h1, h2, h3⟩
theorem Tree.at {w : World} {xs : List EntQ} {p cap} (h : Tree w (.slice p xs.length cap) xs) {k : Nat} (hk : k < xs.length) :
    ∃ b off, p = some ⟨b, off, none⟩ ∧ b < w.heap.size ∧ ∀ j, j < 9 → w.cell? ⟨b, off + k*9 + j, none⟩ = (entOne (eAt xs k))[j]? := by
  obtain ⟨b, off, hp, hb, h⟩ := Sl.at h (by omega)
  refine ⟨b, off, hp, hb, fun j hj => ?_⟩
  have := entCellsQ_at xs k hk j hj
  obtain ⟨u, hu⟩ : ∃ u, (entOne (eAt xs k))[j]? = some u := ⟨_, List.getElem?_eq_getElem (by simp [entOne]; omega)⟩
  rw [hu] at this ⊢
  rw [Nat.add_assoc]
  exact h _ _ this
theorem Tree.of_row {w : World} {B e : Nat} {v : Value} {n : Nat} {l : List EntQ} (h : w.ownsRow B e 9 v n (entCellsQ l)) (hn : n = l.length) : Tree w v l := by
  subst hn
  exact Sl.of_owns h

/-- Of a size that a run can hold, and its amounts are. -/
structure FitT (R : List EntQ) : Prop where
  path : ∀ r ∈ R, r.1.size ≤ 1048576
  lim : ∀ r ∈ R, OkV r.2.1
  used : ∀ r ∈ R, OkV r.2.2
theorem FitT.nil : FitT [] := ⟨by simp, by simp, by simp⟩
theorem FitT.at {R : List EntQ} (h : FitT R) {k : Nat} (hk : k < R.length) : (eAt R k).1.size ≤ 1048576 ∧ OkV (eAt R k).2.1 ∧ OkV (eAt R k).2.2 :=
  ⟨h.path _ (eAt_mem hk), h.lim _ (eAt_mem hk), h.used _ (eAt_mem hk)⟩

/-- Where a path's entry stands; the length: nowhere. -/
def plN (t : List EntQ) (p : ByteArray) : Nat := t.findIdx fun e => decide (e.1 = p)
def plI (t : List EntQ) (p : ByteArray) : Int := if plN t p < t.length then (plN t p : Int) else -1
theorem plN_le (t : List EntQ) (p : ByteArray) : plN t p ≤ t.length := List.findIdx_le_length
theorem plN_hit {t : List EntQ} {p : ByteArray} {k : Nat} (hk : k < t.length) (hn : ∀ j, j < k → (eAt t j).1 ≠ p) (h : (eAt t k).1 = p) : plN t p = k := by
  unfold plN
  rw [List.findIdx_eq hk]
  refine ⟨?_, fun j hj => ?_⟩
  · rw [decide_eq_true_eq, ← eAt_eq hk]; exact h
  · rw [decide_eq_false_iff_not, ← eAt_eq (by omega)]; exact hn j hj
theorem plN_miss {t : List EntQ} {p : ByteArray} (hn : ∀ j, j < t.length → (eAt t j).1 ≠ p) : plN t p = t.length := by
  unfold plN
  rw [List.findIdx_eq_length]
  intro x hx
  obtain ⟨j, hj, rfl⟩ := List.getElem_of_mem hx
  rw [decide_eq_false_iff_not, ← eAt_eq hj]; exact hn j hj
theorem plN_at {t : List EntQ} {p : ByteArray} (h : plN t p < t.length) : (eAt t (plN t p)).1 = p := by
  rw [eAt_eq h]
  have := List.findIdx_getElem (w := h)
  exact of_decide_eq_true this
theorem plI_hit {t : List EntQ} {p : ByteArray} {k : Nat} (hk : k < t.length) (hn : ∀ j, j < k → (eAt t j).1 ≠ p) (h : (eAt t k).1 = p) : plI t p = k := by
  unfold plI; rw [plN_hit hk hn h, if_pos hk]
theorem plI_miss {t : List EntQ} {p : ByteArray} (hn : ∀ j, j < t.length → (eAt t j).1 ≠ p) : plI t p = -1 := by
  unfold plI; rw [plN_miss hn, if_neg (by omega)]

/-- The paths at and above one, the root's ahead. -/
def upsB (p : ByteArray) : List ByteArray := (upsL p.data.toList).map fun l => ⟨l.toArray⟩
def abvB (p : ByteArray) : List ByteArray := ⟨#[]⟩ :: upsB p
theorem upsB_bytes (p : ByteArray) : bytesOf (upsB p) = upsL p.data.toList := by
  unfold bytesOf upsB
  rw [List.map_map]
  conv => rhs; rw [← List.map_id (upsL p.data.toList)]
  apply List.map_congr_left
  intro l _
  rfl
def namB (p : ByteArray) : Bool := decide (p = ⟨#[]⟩) || underL p.data.toList p.data.toList
def parB (p : ByteArray) : ByteArray := strAt (abvB p) ((abvB p).length - 2)
theorem upsB_len (p : ByteArray) : (upsB p).length ≤ 3 := by
  unfold upsB
  rw [List.length_map, upsL, List.length_map, List.length_range]
  unfold partsL
  split
  · simp
  · rename_i h; omega

/-- The first entry that is no less than a path. -/
def upN (t : List EntQ) (p : ByteArray) : Nat := t.findIdx fun e => !Op.bytesLess e.1.data.toList p.data.toList

/-- P10.2. -/
def setT (t : List EntQ) (p : ByteArray) (lim : Vc) : List EntQ × Nat :=
  if namB p = false then (t, 6)
  else if p ≠ ⟨#[]⟩ ∧ plN t (parB p) = t.length then (t, 7)
  else if plN t p = t.length ∧ 16 ≤ t.length then (t, 9)
  else if plN t p < t.length ∧ vfits (eAt t (plN t p)).2.2 lim = false then (t, 10)
  else if plN t p < t.length then (t.set (plN t p) ((eAt t (plN t p)).1, lim, (eAt t (plN t p)).2.2), 0)
  else (t.take (upN t p) ++ (p, lim, noV) :: t.drop (upN t p), 0)

/-- P10.3: what is done of an entry. -/
def chgE (v : Vc) (e : EntQ) : EntQ × Nat :=
  if vaddOk e.2.2 v = false then (e, 5) else if vfits (vadd e.2.2 v) e.2.1 = false then (e, 10) else ((e.1, e.2.1, vadd e.2.2 v), 0)
def rfdE (v : Vc) (e : EntQ) : EntQ × Nat := if vfits v e.2.2 = false then (e, 15) else ((e.1, e.2.1, vsub e.2.2 v), 0)
def eachF (t : List EntQ) (f : EntQ → EntQ × Nat) : List ByteArray → List EntQ → List EntQ × Nat
  | [], out => (out, 0)
  | p :: ps, out => if (f (eAt t (plN t p))).2 = 0 then eachF t f ps (out.set (plN t p) (f (eAt t (plN t p))).1) else (t, (f (eAt t (plN t p))).2)
def lackT (t : List EntQ) (l : List ByteArray) : Bool := l.any fun q => decide (plN t q = t.length)
def eachT (t : List EntQ) (p : ByteArray) (f : EntQ → EntQ × Nat) : List EntQ × Nat :=
  if namB p = false then (t, 6) else if lackT t (abvB p) = true then (t, 7) else eachF t f (abvB p) t
def freeT (t : List EntQ) : List EntQ := t.map fun e => (e.1, e.2.1, noV)
def couldT (t : List EntQ) (p : ByteArray) (v : Vc) : Bool := decide ((eachT (freeT t) p (chgE v)).2 = 0)
/-- P10.4: the sum of what is right below a path. -/
def sumF (q : ByteArray) : List EntQ → Vc → Option Vc
  | [], s => some s
  | x :: xs, s => if x.1 = ⟨#[]⟩ ∨ parB x.1 ≠ q then sumF q xs s else if vaddOk s x.2.2 = true then sumF q xs (vadd s x.2.2) else none
def holdsT (t : List EntQ) (e : EntQ) : Bool := match sumF e.1 t noV with
  | none => false
  | some s => vfits e.2.2 e.2.1 && vfits s e.2.2
def okQ (t : List EntQ) (k : Nat) : Bool :=
  decide (k = 0) || (Op.bytesLess (eAt t (k - 1)).1.data.toList (eAt t k).1.data.toList && (namB (eAt t k).1 && decide (plN t (parB (eAt t k).1) < t.length)))
def rightQ (t : List EntQ) : Bool :=
  decide (1 ≤ t.length ∧ t.length ≤ 16 ∧ (eAt t 0).1 = ⟨#[]⟩) && (List.range t.length).all (okQ t) && t.all (holdsT t)
/-- P10.5. -/
def putE (e : EntQ) : Bs := putT e.1.data.toList ++ putV e.2.1 ++ putV e.2.2
def putQ (t : List EntQ) : Bs := putL t.length ++ t.flatMap putE
end Go.Dm

namespace Go.Proofs.YtopnllbfhhjobaaGreatDoor
open Go.RowKit Go.Dm

theorem Tryz.slEntQ : SlT Tryz.prog 22 38 9 80 := SlT.mk' Tryz.underlying22 (by kernel_rfl) (by decide) (by decide)
theorem Tryz.slTreeQ : SlT Tryz.prog 58 38 9 80 := SlT.mk' Tryz.underlying58 (by kernel_rfl) (by decide) (by decide)

set_option maxHeartbeats 400000 in
theorem qeclone_w (n : Nat) (cs : List Value) (v : Value) (w : World) (hn : n ≤ 1099511627776) (hx : Sl w 9 v n cs) (h1 : ∀ u ∈ cs, u.oneCell' = true) :
    Calls Tryz.prog 30 #[v] w
      fun e w' => ∃ r, e = .returned r ∧ w'.ownsRow w.heap.size 38 9 r n cs ∧ Ext w w' := by
  obtain ⟨p, cap, rfl, hcap, hcm, hp0⟩ := hx.shape
  have he := fun (a : Option Addr) w => Lib.run_eql_slice_nil (P := Tryz.prog) w 22 38 a n cap 0 0 Tryz.underlying22
  cases p with
  | none =>
    have h0 : cap = 0 := hp0 rfl
    subst h0
    clear hp0
    obtain rfl : n = 0 := by omega
    have hcs : cs = [] := List.eq_nil_of_length_eq_zero (by simpa using hx.len)
    go_enter Tryz.func30, Tryz.ntmps30
    go_wp2
    go_ret
    subst hcs
    exact ⟨_, rfl, World.ownsRow_nil _ _ _ _, Ext.refl _⟩
  | some a =>
    have hal := (Ext.refl w).alloc (.cells #[] 38)
    go_enter Tryz.func30, Tryz.ntmps30
    go_wp2_with (at_builtin; go_must (refine wpList_appE rfl _ _ Tryz.slEntQ rfl hal rfl (World.ownsRow_lit w #[] 0 (Nat.le_refl _) (by simp [maxLen]) rfl) rfl (hx.ext hal) h1 (by omega) ?_; intro v' w' ho hx' _))
    go_ret
    exact ⟨_, rfl, by simpa using ho, hx'⟩


set_option maxHeartbeats 400000 in
theorem qtclone_w (n : Nat) (cs : List Value) (v : Value) (w : World) (hn : n ≤ 1099511627776) (hx : Sl w 9 v n cs) (h1 : ∀ u ∈ cs, u.oneCell' = true) :
    Calls Tryz.prog 70 #[v] w
      fun e w' => ∃ r, e = .returned r ∧ w'.ownsRow w.heap.size 38 9 r n cs ∧ Ext w w' := by
  obtain ⟨p, cap, rfl, hcap, hcm, hp0⟩ := hx.shape
  have he := fun (a : Option Addr) w => Lib.run_eql_slice_nil (P := Tryz.prog) w 58 38 a n cap 0 0 Tryz.underlying58
  cases p with
  | none =>
    have h0 : cap = 0 := hp0 rfl
    subst h0
    clear hp0
    obtain rfl : n = 0 := by omega
    have hcs : cs = [] := List.eq_nil_of_length_eq_zero (by simpa using hx.len)
    go_enter Tryz.func70, Tryz.ntmps70
    go_wp2
    go_ret
    subst hcs
    exact ⟨_, rfl, World.ownsRow_nil _ _ _ _, Ext.refl _⟩
  | some a =>
    have hal := (Ext.refl w).alloc (.cells #[] 38)
    go_enter Tryz.func70, Tryz.ntmps70
    go_wp2_with (at_builtin; go_must (refine wpList_appE rfl _ _ Tryz.slTreeQ rfl hal rfl (World.ownsRow_lit w #[] 0 (Nat.le_refl _) (by simp [maxLen]) rfl) rfl (hx.ext hal) h1 (by omega) ?_; intro v' w' ho hx' _))
    go_ret
    exact ⟨_, rfl, by simpa using ho, hx'⟩


theorem qehov_w (w : World) (gu g off lb cb m vc : Nat) (cu cg : Array Value) (hne : gu ≠ g) (hu : w.heap[gu]? = some (.cells cu 38 (0, 0))) (hg : w.heap[g]? = some (.cells cg 38 (0, 0))) (hk : cg.size ≠ 0) :
    (callFunc 65 #[.slice (some ⟨gu, 0, none⟩) m vc, .slice (some ⟨g, off, none⟩) lb cb]).run Tryz.prog w = .ok (.value (.bool false)) w := by
  rw [run_callFunc_extern Tryz.func65 (by kernel_rfl) (by kernel_rfl) (by kernel_rfl) (e := Extern.SlicesOverlaps.overlaps #[22, 22] #[4]) (by kernel_rfl),
    Lib.run_overlaps_apart w 22 4 38 Tryz.underlying22 9 (fun w => by
      obtain ⟨i, z, h1, _, h2, _⟩ := Tryz.slEntQ.info
      simp [sizeOf, typeInfo, h1, h2]) ⟨gu, 0, none⟩ ⟨g, off, none⟩ m vc lb cb hne 38 38 cu.size cg.size (by simp [World.shape?, hu]) (by simp [World.shape?, hg]) hk
      (frozen_of_row w gu 0 cu 38 hu) (frozen_of_row w gu cu.size cu 38 hu)]
  rfl

set_option maxHeartbeats 400000 in
theorem qeinsert_w (w0 : World) (cs vs : List Value) (v : Value) (n i gu : Nat) (w : World) (hn : n ≤ 1099511627776) (hi : i ≤ n) (h0w : Ext w0 w) (ho : w.ownsRow w0.heap.size 38 9 v n cs)
    (hv : vs.length = 9) (hv1 : ∀ u ∈ vs, u.oneCell' = true) (hc1 : ∀ u ∈ cs, u.oneCell' = true) (hu : w.heap[gu]? = some (.cells vs.toArray 38 (0, 0))) (hne : v.ownBlock ≠ some gu) :
    Calls Tryz.prog 33 #[v, .int .i64 i, .slice (some ⟨gu, 0, none⟩) 1 1] w
      fun e w' => ∃ r, e = .returned r ∧ w'.ownsRow w0.heap.size 38 9 r (n + 1) (cs.take (i * 9) ++ (vs ++ cs.drop (i * 9))) ∧ Ext w0 w' := by
  have hx := Sl.of_owns ho
  obtain ⟨p, cap, rfl, hcap, hcm, hp0⟩ := hx.shape
  have hcm' : cap ≤ 9223372036854775807 := by simpa [maxLen] using hcm
  clear hcm
  have hvx : Sl w 9 (.slice (some ⟨gu, 0, none⟩) 1 1) 1 vs := by
    refine ⟨hv, _, _, rfl, Nat.le_refl _, by simp [maxLen], by simp, Or.inr ⟨gu, 0, rfl, (Array.getElem?_eq_some_iff.1 hu).1, fun j u hj => ?_⟩⟩
    rw [cell_of_row w gu _ vs.toArray _ _ hu]
    simpa using hj
  by_cases hin : i = n
  · subst hin
    have hl0 := fun (p : Option Addr) w => run_slice_low (P := Tryz.prog) 22 38 9 Tryz.slEntQ.ht Tryz.slEntQ.hs p i cap i hi w
    have hcl : cs.length = i * 9 := hx.len
    have hHid := Lib.hid hcl; clear hcl
    go_enter Tryz.func33, Tryz.ntmps33
    go_wp2_with (at_builtin; go_must (refine wpList_appE rfl _ _ Tryz.slEntQ rfl h0w rfl ho rfl hvx hv1 (by omega) ?_; intro v' w' ho' hx' _))
    go_ret
    refine ⟨_, rfl, ?_, hx'⟩
    rw [← hHid.out, List.take_length, List.drop_length, List.append_nil]
    exact ho'
  · have hin' : i < n := by omega
    have hneq : ((i : Int) == (n : Int)) = false := by rw [beq_eq_false_iff_ne]; omega
    clear hin hi
    obtain ⟨hlen, hrow⟩ := ho
    rcases hrow with ⟨h0, _⟩ | ⟨g, cap', cur, hg0, hBg, hg, hnc, hcm, hcs, htk⟩
    · simp only [Value.slice.injEq] at h0; omega
    · simp only [Value.slice.injEq, true_and] at hg0
      obtain ⟨rfl, rfl⟩ := hg0
      have hgu : gu ≠ g := fun e => hne (by simp [Value.ownBlock, e])
      clear hne hp0 hcap
      have hxi := hx.drop (Nat.le_of_lt hin')
      rw [dropV_any (by omega), Nat.zero_add] at hxi
      have hd1 : ∀ u ∈ cs.drop (i * 9), u.oneCell' = true := fun u hu => hc1 u (List.mem_of_mem_drop hu)
      have HL := Lib.hid hlen; clear hlen
      have HT := Lib.hid htk; clear htk
      have HS := Lib.hid hcs; clear hcs
      have HV := Lib.hid hv; clear hv
      have hsi := fun w => run_slice_low_at (P := Tryz.prog) 22 38 9 Tryz.slEntQ.ht Tryz.slEntQ.hs g 0 n cap i (by omega) (by omega) w
      simp only [Nat.zero_add] at hsi
      have hcm63 : cap ≤ 9223372036854775807 := hcm'
      clear hcm'
      by_cases hroom : cap < n + 1
      · obtain rfl : cap = n := by omega
        have hsh := fun w => run_slice_high (P := Tryz.prog) 22 38 9 Tryz.slEntQ.ht Tryz.slEntQ.hs (some ⟨g, 0, none⟩) cap cap i (by omega) w
        have e1 : IntKind.i64.wrap ((cap : Int) + 1) = (cap : Int) + 1 := IntWalk.i64_in _ (by omega)
        have e2 : IntKind.i64.wrap ((cap : Int) + 1 - i) = (cap : Int) + 1 - i := IntWalk.i64_in _ (by omega)
        go_enter Tryz.func33, Tryz.ntmps33
        go_wp2_with (first
          | (at_builtin; go_must (
              refine wpList_app_zeros rfl _ _ Tryz.slEntQ Tryz.underlying3 rfl rfl (Sl.take hx (Nat.le_of_lt hin')) (cap + 1 - i) (cap + 1) (by omega) (show Value.int IntKind.i64 ((cap : Int) + 1 - i) = _ by congr 1; omega) (by omega) (by omega) (by omega) ?_
              intro c cur2 hc1' hc2' hc3' hc4'
              have HS2 := Lib.hid hc3'; clear hc3'
              have HT2 := Lib.hid hc4'; clear hc4'
              have hW : Ext w (w.drew.alloc (.cells cur2 38)) := (Ext.drew w).alloc _
              have hg2 : (w.drew.alloc (.cells cur2 38)).heap[w.heap.size]? = some (.cells cur2.toList.toArray 38 (0, 0)) := by rw [Array.toArray_toList]; exact heap_alloc_new w.drew _
              obtain ⟨G2, hG2⟩ : ∃ G2, G2 = w.heap.size := ⟨_, rfl⟩
              have HG2 := Lib.hid hG2
              rw [← hG2] at hg2 ⊢
              clear hG2
              generalize w.drew.alloc (.cells cur2 38) = W2 at *
              have hs2 := fun w => run_slice_low_at (P := Tryz.prog) 22 38 9 Tryz.slEntQ.ht Tryz.slEntQ.hs G2 0 (cap + 1) c i (by omega) (by omega) w
              have hs3 := fun w => run_slice_low_at (P := Tryz.prog) 22 38 9 Tryz.slEntQ.ht Tryz.slEntQ.hs G2 0 (cap + 1) c (i + 1) (by omega) (by omega) w
              simp only [Nat.zero_add, Int.natCast_add, Int.cast_ofNat_Int] at hs2 hs3))
          | (refine wpList_copy rfl _ _ Tryz.slEntQ rfl rfl rfl hg2 (hvx.ext hW) hv1 (by omega) (fun _ => rfl) (by rw [HV.out, Array.length_toList, HS2.out]; omega) ?_
             have hX3 : Ext w (W2.setRow G2 (splice cur2.toList (i * 9) vs).toArray) := hW.setRow (by rw [HG2.out]; exact Nat.le_refl _) _
             have hg3 := setRow_heap W2 G2 cur2.toList.toArray (splice cur2.toList (i * 9) vs).toArray 38 (0, 0) hg2
             generalize W2.setRow G2 (splice cur2.toList (i * 9) vs).toArray = W3 at *
             clear hg2))
        have e3 : IntKind.i64.wrap ((i : Int) + 1) = (i : Int) + 1 := IntWalk.i64_in _ (by omega)
        have hX30 := h0w.trans hX3
        have hB2 : w0.heap.size ≤ G2 := by rw [HG2.out]; exact h0w.size
        try simp only [Act.put, List.setIfInBounds_toArray, List.set_cons_succ, List.set_cons_zero]
        refine Dm.wp_region_ext 9 (Dm.bits 9 0) hX30 (by kernel_rfl) (by kernel_rfl) (by kernel_rfl) ?_
        refine Dm.wpE_take (i := 0) (listed' := (Dm.bits 9 1)) (by kernel_rfl) (by kernel_rfl) rfl (fun _ _ _ _ h => h) ?_; apply Exists.intro; refine And.intro (fun x => ?_) ?_
        · go_big_quiet_step (fail); exact wpQuiet_nil rfl
        refine Dm.wpE_take (i := 1) (listed' := (Dm.bits 9 3)) (by kernel_rfl) (by kernel_rfl) rfl (fun _ _ _ _ h => h) ?_; apply Exists.intro; refine And.intro (fun x => ?_) ?_
        · go_big_quiet_step (fail); exact wpQuiet_nil rfl
        refine Dm.wpE_take (i := 2) (listed' := (Dm.bits 9 7)) (by kernel_rfl) (by kernel_rfl) rfl (fun _ _ _ _ h => h) ?_; apply Exists.intro; refine And.intro (fun x => ?_) ?_
        · go_big_quiet_step (fail); exact wpQuiet_nil rfl
        refine Dm.wpE_take (i := 3) (listed' := (Dm.bits 9 15)) (by kernel_rfl) (by kernel_rfl) rfl (fun _ _ _ _ h => h) ?_; apply Exists.intro; refine And.intro (fun x => ?_) ?_
        · go_big_quiet_step (fail); exact wpQuiet_nil rfl
        refine Dm.wpE_take (i := 4) (listed' := (Dm.bits 9 31)) (by kernel_rfl) (by kernel_rfl) rfl (fun _ _ _ _ h => h) ?_; apply Exists.intro; refine And.intro (fun x => ?_) ?_
        · go_big_quiet_step (fail); exact wpQuiet_nil rfl
        refine Dm.wpE_take (i := 5) (listed' := (Dm.bits 9 63)) (by kernel_rfl) (by kernel_rfl) rfl (fun _ _ _ _ h => h) ?_; apply Exists.intro; refine And.intro (fun x => ?_) ?_
        · go_big_quiet_step (fail); exact wpQuiet_nil rfl
        refine Dm.wpE_take (i := 6) (listed' := (Dm.bits 9 127)) (by kernel_rfl) (by kernel_rfl) rfl (fun _ _ _ _ h => h) ?_; apply Exists.intro; refine And.intro (fun x => ?_) ?_
        · go_big_quiet_step (fail); exact wpQuiet_nil rfl
        refine Dm.wpE_take (i := 7) (listed' := (Dm.bits 9 255)) (by kernel_rfl) (by kernel_rfl) rfl (fun _ _ _ _ h => h) ?_; apply Exists.intro; refine And.intro (fun x => ?_) ?_
        · go_big_quiet_step (fail); exact wpQuiet_nil rfl
        refine Dm.wpE_one (i := 8) (listed' := (Dm.bits 9 511)) (by kernel_rfl) (by kernel_rfl) rfl hX30 (fun w1a hx1a => ?_)
        have hX1a := Ext.trans hX30 hx1a
        refine wpList_copy rfl _ _ Tryz.slEntQ rfl rfl rfl (Ext.heap hg3 hx1a) (hxi.ext (hX3.trans hx1a)) hd1 (by omega) (fun _ => rfl) ?_ ?_
        · rw [List.length_drop, HL.out]; simp only [splice, List.length_append, List.length_take, List.length_drop, HV.out, Array.length_toList, HS2.out]; omega
        have hg4 := setRow_heap w1a G2 _ (splice (splice cur2.toList (i * 9) vs) ((i + 1) * 9) (cs.drop (i * 9))).toArray 38 (0, 0) (Ext.heap hg3 hx1a)
        have hX1b : Ext w0 (w1a.setRow G2 (splice (splice cur2.toList (i * 9) vs) ((i + 1) * 9) (cs.drop (i * 9))).toArray) := hX1a.setRow hB2 _
        generalize w1a.setRow G2 (splice (splice cur2.toList (i * 9) vs) ((i + 1) * 9) (cs.drop (i * 9))).toArray = w1b at *
        refine wpList_nil ?_
        try simp only [Exit.then, Act.put, List.setIfInBounds_toArray, List.set_cons_succ, List.set_cons_zero]
        refine Dm.wpE_done (by kernel_rfl) hX1b (fun w2a hx2a => ?_)
        have hX2a := Ext.trans hX1b hx2a
        replace hg4 := Ext.heap hg4 hx2a
        go_wp2
        go_ret
        refine ⟨_, rfl, ⟨?_, Or.inr ⟨G2, c, _, rfl, hB2, hg4, by omega, hc2', ?_, ?_⟩⟩, hX2a⟩
        · simp only [List.length_append, List.length_take, List.length_drop, HL.out, HV.out]; omega
        · simp only [List.size_toArray, splice, List.length_append, List.length_take, List.length_drop, HV.out, HL.out, Array.length_toList, HS2.out]; omega
        · have := ins1 cur2.toList cs vs (i * 9) (by rw [HL.out]; omega) (by rw [HL.out, HV.out, Array.length_toList, HS2.out]; omega) (by rw [HT2.out])
          rw [HV.out, HL.out] at this
          rw [show (cap + 1) * 9 = cap * 9 + 9 by omega, show (i + 1) * 9 = i * 9 + 9 by omega]
          exact this
      · have hr : n + 1 ≤ cap := by omega
        clear hroom
        have hnr : ¬ ((cap : Int) < (n : Int) + 1) := by omega
        have e1 : IntKind.i64.wrap ((n : Int) + 1) = (n : Int) + 1 := IntWalk.i64_in _ (by omega)
        have e3 : IntKind.i64.wrap ((i : Int) + 1) = (i : Int) + 1 := IntWalk.i64_in _ (by omega)
        have hsn := fun w => run_slice_high (P := Tryz.prog) 22 38 9 Tryz.slEntQ.ht Tryz.slEntQ.hs (some ⟨g, 0, none⟩) n cap (n + 1) hr w
        have hs1 := fun w => run_slice_low_at (P := Tryz.prog) 22 38 9 Tryz.slEntQ.ht Tryz.slEntQ.hs g 0 (n + 1) cap i (by omega) (by omega) w
        have hs2 := fun w => run_slice_low_at (P := Tryz.prog) 22 38 9 Tryz.slEntQ.ht Tryz.slEntQ.hs g 0 (n + 1) cap (i + 1) (by omega) (by omega) w
        simp only [Nat.zero_add, Int.natCast_add, Int.cast_ofNat_Int] at hsn hs1 hs2
        have hov := fun (off lb cb m vc : Nat) => qehov_w w gu g off lb cb m vc _ cur hgu hu hg (by rw [HS.out]; omega)
        go_enter Tryz.func33, Tryz.ntmps33
        go_wp2_with (simp only [hov])
        have hgL : w.heap[g]? = some (.cells cur.toList.toArray 38 (0, 0)) := by rw [Array.toArray_toList]; exact hg
        try simp only [Act.put, List.setIfInBounds_toArray, List.set_cons_succ, List.set_cons_zero]
        refine Dm.wp_region_ext 9 (Dm.bits 9 0) h0w (by kernel_rfl) (by kernel_rfl) (by kernel_rfl) ?_
        refine Dm.wpE_take (i := 0) (listed' := (Dm.bits 9 1)) (by kernel_rfl) (by kernel_rfl) rfl (fun _ _ _ _ h => h) ?_; apply Exists.intro; refine And.intro (fun x => ?_) ?_
        · go_big_quiet_step (fail); exact wpQuiet_nil rfl
        refine Dm.wpE_take (i := 1) (listed' := (Dm.bits 9 3)) (by kernel_rfl) (by kernel_rfl) rfl (fun _ _ _ _ h => h) ?_; apply Exists.intro; refine And.intro (fun x => ?_) ?_
        · go_big_quiet_step (fail); exact wpQuiet_nil rfl
        refine Dm.wpE_take (i := 2) (listed' := (Dm.bits 9 7)) (by kernel_rfl) (by kernel_rfl) rfl (fun _ _ _ _ h => h) ?_; apply Exists.intro; refine And.intro (fun x => ?_) ?_
        · go_big_quiet_step (fail); exact wpQuiet_nil rfl
        refine Dm.wpE_take (i := 3) (listed' := (Dm.bits 9 15)) (by kernel_rfl) (by kernel_rfl) rfl (fun _ _ _ _ h => h) ?_; apply Exists.intro; refine And.intro (fun x => ?_) ?_
        · go_big_quiet_step (fail); exact wpQuiet_nil rfl
        refine Dm.wpE_take (i := 4) (listed' := (Dm.bits 9 31)) (by kernel_rfl) (by kernel_rfl) rfl (fun _ _ _ _ h => h) ?_; apply Exists.intro; refine And.intro (fun x => ?_) ?_
        · go_big_quiet_step (fail); exact wpQuiet_nil rfl
        refine Dm.wpE_take (i := 5) (listed' := (Dm.bits 9 63)) (by kernel_rfl) (by kernel_rfl) rfl (fun _ _ _ _ h => h) ?_; apply Exists.intro; refine And.intro (fun x => ?_) ?_
        · go_big_quiet_step (fail); exact wpQuiet_nil rfl
        refine Dm.wpE_take (i := 6) (listed' := (Dm.bits 9 127)) (by kernel_rfl) (by kernel_rfl) rfl (fun _ _ _ _ h => h) ?_; apply Exists.intro; refine And.intro (fun x => ?_) ?_
        · go_big_quiet_step (fail); exact wpQuiet_nil rfl
        refine Dm.wpE_take (i := 7) (listed' := (Dm.bits 9 255)) (by kernel_rfl) (by kernel_rfl) rfl (fun _ _ _ _ h => h) ?_; apply Exists.intro; refine And.intro (fun x => ?_) ?_
        · go_big_quiet_step (fail); exact wpQuiet_nil rfl
        refine Dm.wpE_one (i := 8) (listed' := (Dm.bits 9 511)) (by kernel_rfl) (by kernel_rfl) rfl h0w (fun w1a hx1a => ?_)
        have hX1a := Ext.trans h0w hx1a
        refine wpList_copy_min rfl _ _ Tryz.slEntQ rfl rfl rfl (Ext.heap hgL hx1a) (m := n - i) (by show min _ _ = _; omega) (hxi.ext hx1a) hd1 (fun _ => rfl) ?_ ?_
        · rw [List.length_drop, HL.out, Array.length_toList, HS.out]; omega
        have hg4 := setRow_heap w1a g _ (splice cur.toList ((i + 1) * 9) (cs.drop (i * 9))).toArray 38 (0, 0) (Ext.heap hgL hx1a)
        have hu4 : (w1a.setRow g (splice cur.toList ((i + 1) * 9) (cs.drop (i * 9))).toArray).heap[gu]? = some (.cells vs.toArray 38 (0, 0)) := by rw [setRow_other _ _ _ _ hgu]; exact Ext.heap hu hx1a
        have hX1b : Ext w0 (w1a.setRow g (splice cur.toList ((i + 1) * 9) (cs.drop (i * 9))).toArray) := hX1a.setRow hBg _
        generalize w1a.setRow g (splice cur.toList ((i + 1) * 9) (cs.drop (i * 9))).toArray = w1b at *
        refine wpList_nil ?_
        try simp only [Exit.then, Act.put, List.setIfInBounds_toArray, List.set_cons_succ, List.set_cons_zero]
        refine Dm.wpE_done (by kernel_rfl) hX1b (fun w2a hx2a => ?_)
        have hX2a := Ext.trans hX1b hx2a
        replace hg4 := Ext.heap hg4 hx2a
        replace hu4 := Ext.heap hu4 hx2a
        have hv4 := Sl.of_block (n := 1) (sz := 9) hu4 HV.out (by simp [maxLen])
        have hl4 : (splice cur.toList ((i + 1) * 9) (cs.drop (i * 9))).length = cap * 9 := by simp only [splice, List.length_append, List.length_take, List.length_drop, HL.out, Array.length_toList, HS.out]; omega
        have HL4 := Lib.hid hl4; clear hl4
        go_wp2_with (refine wpList_copy rfl _ _ Tryz.slEntQ rfl rfl rfl hg4 hv4 hv1 (by omega) (fun _ => rfl) (by rw [HV.out, HL4.out]; omega) ?_)
        go_ret
        refine ⟨_, rfl, ⟨?_, Or.inr ⟨g, cap, _, rfl, hBg, setRow_heap _ _ _ _ _ _ hg4, hr, hcm, ?_, ?_⟩⟩, hX2a.setRow hBg _⟩
        · simp only [List.length_append, List.length_take, List.length_drop, HL.out, HV.out]; omega
        · rw [List.size_toArray, length_splice _ _ _ (by rw [HV.out, HL4.out]; omega), HL4.out]
        · have := ins2 cur.toList cs vs (i * 9) (by rw [HL.out]; omega) (by rw [HL.out, HV.out, Array.length_toList, HS.out]; omega) (by rw [← HT.out, List.take_take, Nat.min_eq_left (by omega)])
          rw [HV.out, HL.out] at this
          rw [show (n + 1) * 9 = n * 9 + 9 by omega, show (i + 1) * 9 = i * 9 + 9 by omega]
          exact this


end Go.Proofs.YtopnllbfhhjobaaGreatDoor

namespace Go.Dm
open Go Go.RowKit
theorem beq_bytes (a b : ByteArray) : (a.toList == b.toList) = decide (a = b) := by
  rw [Bool.eq_iff_iff, decide_eq_true_iff]; exact bytes_eq
end Go.Dm
namespace Go.Proofs.YtopnllbfhhjobaaGreatDoor
open Go.RowKit Go.Dm

set_option maxHeartbeats 1000000 in
theorem qplace1_w (r : EntQ) (p : ByteArray) (c o : Nat) (w : World) (hcl : c < w.heap.size) (hc : w.cell? ⟨c, o, none⟩ = some (.string p)) :
    Calls Tryz.prog 61 #[entVal r, .pointer (some ⟨c, o, none⟩)] w fun e w' => e = .returned (.bool (decide (r.1 = p))) ∧ Ext w w' := by
  have hb := beq_bytes r.1 p
  generalize decide (r.1 = p) = d at *
  obtain ⟨s, l, u⟩ := r
  unfold entVal uAt
  simp only at hb ⊢
  generalize vG l = L
  generalize vG u = U
  have hE : Ext w (w.alloc (.cells #[.string s, .int .u64 (L 0 : Nat), .int .u64 (L 1 : Nat), .int .u64 (L 2 : Nat), .int .u64 (L 3 : Nat), .int .u64 (U 0 : Nat), .int .u64 (U 1 : Nat), .int .u64 (U 2 : Nat), .int .u64 (U 3 : Nat)] 38)) := (Ext.refl _).alloc _
  go_enter Tryz.func61, Tryz.ntmps61
  go_wp2
  go_ret
  exact ⟨by simp, hE⟩

set_option maxHeartbeats 2000000 in
set_option maxRecDepth 100000 in
theorem qindex_w (R : List EntQ) (p : ByteArray) (v : Value) (c o : Nat) (w : World) (hm : R.length ≤ 1099511627776) (hx : Tree w v R) (hcl : c < w.heap.size) (hc : w.cell? ⟨c, o, none⟩ = some (.string p)) :
    Calls Tryz.prog 60 #[v, .func (.func 61) #[] #[.pointer (some ⟨c, o, none⟩)]] w
      fun e w' => e = .returned (.int .i64 (plI R p)) ∧ Ext w w' := by
  obtain ⟨q, cap, rfl, _, _⟩ := hx.shape
  go_enter Tryz.func60, Tryz.ntmps60
  go_wp2
  go_loopw [8] (fun i wr => ∃ k : Nat, k ≤ R.length ∧ i = .int .i64 k ∧ Ext w wr ∧ Hid (∀ j, j < k → (eAt R j).1 ≠ p)) (fun i _ => R.length - (intOf i).toNat)
  case atStart => exact ⟨0, by omega, rfl, Ext.refl w, fun j hj => by omega⟩
  case round =>
    obtain ⟨k, hk', rfl, hb, HN⟩ := hrel
    by_cases hlt : k < R.length
    · obtain ⟨b, off, rfl, hbl, hcs⟩ := (hx.ext hb).at hlt
      have hcl' : c < wr.heap.size := Nat.lt_of_lt_of_le hcl hb.size
      have hc' : wr.cell? ⟨c, o, none⟩ = some (.string p) := by rw [hb.cell (by exact hcl)]; exact hc
      have C := qplace1_w (eAt R k) p c o wr hcl' hc'
      have hY : Hid ((eAt R k).1 = p → plI R p = k) := fun h => plI_hit hlt HN.out h
      have hN2 : Hid ((eAt R k).1 ≠ p → ∀ j, j < k + 1 → (eAt R j).1 ≠ p) := fun h j hj => by
        rcases Nat.lt_succ_iff_lt_or_eq.1 hj with h' | rfl
        · exact HN.out j h'
        · exact h
      have c0 := hcs 0 (by omega)
      have c1 := hcs 1 (by omega)
      have c2 := hcs 2 (by omega)
      have c3 := hcs 3 (by omega)
      have c4 := hcs 4 (by omega)
      have c5 := hcs 5 (by omega)
      have c6 := hcs 6 (by omega)
      have c7 := hcs 7 (by omega)
      have c8 := hcs 8 (by omega)
      simp only [entOne, uAt, List.getElem?_cons_zero, List.getElem?_cons_succ, Nat.add_zero] at c0 c1 c2 c3 c4 c5 c6 c7 c8
      clear hcs
      by_cases he : (eAt R k).1 = p
      · replace hY := Lib.hid (hY.out he)
        rw [decide_eq_true he] at C
        clear hN2 he
        generalize eAt R k = r at *
        obtain ⟨s, l, u⟩ := r
        unfold entVal uAt at C
        simp only at c0 c1 c2 c3 c4 c5 c6 c7 c8 C
        replace C := Lib.hid C
        go_wp2_with fail
        refine C.out.mono ?_; rintro e w1 ⟨rfl, h1⟩
        go_wp2
        go_ret
        exact ⟨by rw [hY.out]; rfl, hb.trans h1⟩
      · replace hN2 := Lib.hid (hN2.out he)
        rw [decide_eq_false he] at C
        clear hY he
        generalize eAt R k = r at c0 c1 c2 c3 c4 c5 c6 c7 c8 C
        obtain ⟨s, l, u⟩ := r
        unfold entVal uAt at C
        simp only at c0 c1 c2 c3 c4 c5 c6 c7 c8 C
        replace C := Lib.hid C
        go_wp2_with fail
        refine C.out.mono ?_; rintro e w1 ⟨rfl, h1⟩
        go_wp2
        go_roundw
        case rel => exact ⟨k + 1, by omega, by go_num, hb.trans h1, hN2⟩
        case measure => simp [intOf]; omega
    · obtain rfl : k = R.length := by omega
      have hY : Hid (plI R p = -1) := plI_miss HN.out
      go_wp2
      go_ret
      exact ⟨by rw [hY.out]; rfl, hb⟩

theorem qplace_w (R : List EntQ) (p : ByteArray) (v : Value) (w : World) (hm : R.length ≤ 1099511627776) (hx : Tree w v R) :
    Calls Tryz.prog 26 #[v, .string p] w fun e w' => e = .returned (.int .i64 (plI R p)) ∧ Ext w w' := by
  obtain ⟨q, cap, rfl, _, _⟩ := hx.shape
  have fin : Ext w (w.alloc (.cells #[.string p] 9)) := (Ext.refl _).alloc _
  have C := qindex_w R p _ w.heap.size 0 _ hm (hx.ext fin) (by simp) (by simp)
  replace C := Lib.hid C
  go_enter Tryz.func26, Tryz.ntmps26
  go_wp2_with fail
  refine C.out.mono ?_; rintro e w' ⟨rfl, hb1⟩
  go_wp2
  go_ret
  exact ⟨rfl, fin.trans hb1⟩

set_option maxHeartbeats 1000000 in
theorem qabove_w (p : ByteArray) (w : World) (hs : p.size < 4294967281) (ht : Vars w) :
    Calls Tryz.prog 63 #[.string p] w fun e w' => ∃ v, e = .returned v ∧ Strs w' v (abvB p) ∧ Ext w w' := by
  go_enter Tryz.func63, Tryz.ntmps63
  go_wp2_with fail
  refine (upsOwn_w p w hs ht).mono ?_; rintro e w1 ⟨r, ss, rfl, hP, ho, hb⟩
  obtain rfl : ss = upsB p := bytesOf_inj (by rw [hP, upsB_bytes])
  clear hP
  have hne : r.ownBlock ≠ some w1.heap.size := fun h => by
    have := (World.ownsRow.lt ho _ h).2
    omega
  have h3 := upsB_len p
  have hal : Ext w1 (w1.alloc (.cells #[.string ⟨#[]⟩] 9)) := (Ext.refl _).alloc _
  have C := qsinsert_w w ((upsB p).map .string) [.string ⟨#[]⟩] r (upsB p).length 0 w1.heap.size (w1.alloc (.cells #[.string ⟨#[]⟩] 9)) (by omega) (by omega) (hb.trans hal) (Ext.row ho hal) rfl (by simp [Value.oneCell']) (fun u hu => by
    obtain ⟨x, _, rfl⟩ := List.mem_map.1 hu
    rfl) (heap_alloc_new w1 _) hne
  have hfin : ∀ (w' : World) (r' : Value), w'.ownsRow w.heap.size 9 1 r' ((upsB p).length + 1) (((upsB p).map .string).take 0 ++ ([.string ⟨#[]⟩] ++ ((upsB p).map .string).drop 0)) → Strs w' r' (abvB p) := fun _ _ h => Strs.of_row (ss := abvB p) h (by simp [abvB])
  replace C := Lib.hid C
  replace hfin := Lib.hid hfin
  obtain ⟨a0, n0, c0, rfl⟩ : ∃ a n c, r = .slice a n c := by
    obtain ⟨q, cap, e, _⟩ := (Sl.of_owns ho).shape
    exact ⟨q, _, cap, e⟩
  go_wp2_with fail
  refine C.out.mono ?_; rintro e w2 ⟨r2, rfl, ho2, h2⟩
  go_wp2
  go_ret
  exact ⟨_, rfl, hfin.out _ _ ho2, h2⟩

theorem qnamed_w (p : ByteArray) (w : World) (hs : p.size < 4294967281) (ht : Vars w) :
    Calls Tryz.prog 27 #[.string p] w fun e w' => e = .returned (.bool (namB p)) ∧ Ext w w' := by
  have C := under_w p p w hs ht
  by_cases h : p = ⟨#[]⟩
  · have hn : namB p = true := by unfold namB; rw [decide_eq_true h]; rfl
    rw [hn]
    clear C hn
    subst h
    go_enter Tryz.func27, Tryz.ntmps27
    go_wp2
    go_ret
    exact ⟨rfl, Ext.refl _⟩
  · have hn : namB p = underL p.data.toList p.data.toList := by unfold namB; rw [decide_eq_false h]; rfl
    rw [hn]
    have hne2 : p.toList.isEmpty = false := by
      rw [List.isEmpty_eq_false_iff, ByteArray.toList_eq]
      intro e
      exact h (mk_bytes e)
    have hne3 : ¬ p.toList = [] := by rw [← List.isEmpty_iff, hne2]; simp
    clear hn h
    generalize underL p.data.toList p.data.toList = d at *
    replace C := Lib.hid C
    go_enter Tryz.func27, Tryz.ntmps27
    go_wp2_with fail
    refine C.out.mono ?_; rintro e w1 ⟨rfl, h1⟩
    go_wp2
    go_ret
    exact ⟨rfl, h1⟩

theorem qparent_w (p : ByteArray) (w : World) (hs : p.size < 4294967281) (ht : Vars w) :
    Calls Tryz.prog 28 #[.string p] w fun e w' => e = .returned (.string (parB p)) ∧ Ext w w' := by
  have C := qabove_w p w hs ht
  have h1 : 1 ≤ (abvB p).length := by simp [abvB]
  have h4 : (abvB p).length ≤ 4 := by have := upsB_len p; simp [abvB]; omega
  have hpar : parB p = strAt (abvB p) ((abvB p).length - 2) := rfl
  generalize abvB p = l at *
  generalize parB p = r at *
  replace C := Lib.hid C
  replace hpar := Lib.hid hpar
  obtain ⟨m, hm⟩ : ∃ m, l.length - 2 = m := ⟨_, rfl⟩
  have hmi : max ((l.length : Int) - 2) 0 = (m : Int) := by omega
  go_enter Tryz.func28, Tryz.ntmps28
  go_wp2_with fail
  refine C.out.mono ?_; rintro e w1 ⟨v, rfl, hx, h1⟩
  obtain ⟨q, cap, rfl, _, _⟩ := hx.shape
  obtain ⟨b, off, rfl, hbl, c0⟩ := hx.at (k := m) (by omega)
  go_wp2
  go_ret
  exact ⟨by rw [hpar.out, hm]; rfl, h1⟩

end Go.Proofs.YtopnllbfhhjobaaGreatDoor

namespace Go.Dm
open Go Go.RowKit

/-- A block that holds an entry, and may be written. -/
structure EBox (b : Nat) (s : ByteArray) (L U : Nat → Nat) (w : World) : Prop where
  lt : b < w.heap.size
  c0 : w.cell? ⟨b, 0, none⟩ = some (.string s)
  c1 : w.cell? ⟨b, 1, none⟩ = some (.int .u64 (L 0 : Nat))
  c2 : w.cell? ⟨b, 2, none⟩ = some (.int .u64 (L 1 : Nat))
  c3 : w.cell? ⟨b, 3, none⟩ = some (.int .u64 (L 2 : Nat))
  c4 : w.cell? ⟨b, 4, none⟩ = some (.int .u64 (L 3 : Nat))
  c5 : w.cell? ⟨b, 5, none⟩ = some (.int .u64 (U 0 : Nat))
  c6 : w.cell? ⟨b, 6, none⟩ = some (.int .u64 (U 1 : Nat))
  c7 : w.cell? ⟨b, 7, none⟩ = some (.int .u64 (U 2 : Nat))
  c8 : w.cell? ⟨b, 8, none⟩ = some (.int .u64 (U 3 : Nat))
  f0 : w.frozen? ⟨b, 0, none⟩ = false
  f1 : w.frozen? ⟨b, 1, none⟩ = false
  f2 : w.frozen? ⟨b, 2, none⟩ = false
  f3 : w.frozen? ⟨b, 3, none⟩ = false
  f4 : w.frozen? ⟨b, 4, none⟩ = false
  f5 : w.frozen? ⟨b, 5, none⟩ = false
  f6 : w.frozen? ⟨b, 6, none⟩ = false
  f7 : w.frozen? ⟨b, 7, none⟩ = false
  f8 : w.frozen? ⟨b, 8, none⟩ = false
theorem EBox.ext {b : Nat} {s : ByteArray} {L U : Nat → Nat} {w w' : World} (h : EBox b s L U w) (hx : Ext w w') : EBox b s L U w' := by
  have hc : ∀ {i : Nat} {u}, w.cell? ⟨b, i, none⟩ = some u → w'.cell? ⟨b, i, none⟩ = some u := fun {i u} e => by rw [hx.cell (by exact h.lt)]; exact e
  have hf : ∀ {i : Nat}, w.frozen? ⟨b, i, none⟩ = false → w'.frozen? ⟨b, i, none⟩ = false := fun {i} e => by rw [hx.frozen (by exact h.lt)]; exact e
  exact ⟨Nat.lt_of_lt_of_le h.lt hx.size, hc h.c0, hc h.c1, hc h.c2, hc h.c3, hc h.c4, hc h.c5, hc h.c6, hc h.c7, hc h.c8, hf h.f0, hf h.f1, hf h.f2, hf h.f3, hf h.f4, hf h.f5, hf h.f6, hf h.f7, hf h.f8⟩
theorem EBox.far {b c i : Nat} {s : ByteArray} {L U : Nat → Nat} {w : World} (h : EBox b s L U w) (hbc : c ≠ b) (u : Value) : EBox b s L U (w.setCell ⟨c, i, none⟩ u) := by
  have hc : ∀ {j : Nat} {x}, w.cell? ⟨b, j, none⟩ = some x → (w.setCell ⟨c, i, none⟩ u).cell? ⟨b, j, none⟩ = some x := fun {j x} e => by
    have hne : (⟨c, i, none⟩ : Addr) ≠ ⟨b, j, none⟩ := by intro e; injection e with e; exact hbc e
    rw [World.cell?_setCell_other (h := hne)]; exact e
  have hf : ∀ {j : Nat}, w.frozen? ⟨b, j, none⟩ = false → (w.setCell ⟨c, i, none⟩ u).frozen? ⟨b, j, none⟩ = false := fun {j} e => by rw [World.frozen?_setCell]; exact e
  exact ⟨by rw [World.size_setCell]; exact h.lt, hc h.c0, hc h.c1, hc h.c2, hc h.c3, hc h.c4, hc h.c5, hc h.c6, hc h.c7, hc h.c8, hf h.f0, hf h.f1, hf h.f2, hf h.f3, hf h.f4, hf h.f5, hf h.f6, hf h.f7, hf h.f8⟩
theorem EBox.new (w : World) (s : ByteArray) (L U : Nat → Nat) (e : TypeId) : EBox w.heap.size s L U (w.alloc (.cells #[.string s, .int .u64 (L 0 : Nat), .int .u64 (L 1 : Nat), .int .u64 (L 2 : Nat), .int .u64 (L 3 : Nat), .int .u64 (U 0 : Nat), .int .u64 (U 1 : Nat), .int .u64 (U 2 : Nat), .int .u64 (U 3 : Nat)] e)) :=
  ⟨by simp, by simp, by simp, by simp, by simp, by simp, by simp, by simp, by simp, by simp, by simp, by simp, by simp, by simp, by simp, by simp, by simp, by simp, by simp⟩
/-- The nine cells are written. -/
def put9 (w : World) (b : Nat) (s : ByteArray) (L U : Nat → Nat) : World :=
  (((((((((w.setCell ⟨b, 0, none⟩ (.string s)).setCell ⟨b, 1, none⟩ (.int .u64 (L 0 : Nat))).setCell ⟨b, 2, none⟩ (.int .u64 (L 1 : Nat))).setCell ⟨b, 3, none⟩ (.int .u64 (L 2 : Nat))).setCell ⟨b, 4, none⟩ (.int .u64 (L 3 : Nat))).setCell ⟨b, 5, none⟩ (.int .u64 (U 0 : Nat))).setCell ⟨b, 6, none⟩ (.int .u64 (U 1 : Nat))).setCell ⟨b, 7, none⟩ (.int .u64 (U 2 : Nat))).setCell ⟨b, 8, none⟩ (.int .u64 (U 3 : Nat)))
theorem put9_size (w : World) (b : Nat) (s : ByteArray) (L U : Nat → Nat) : (put9 w b s L U).heap.size = w.heap.size := by simp [put9]
theorem cell_same {w : World} {b i : Nat} {u x : Value} (h : w.cell? ⟨b, i, none⟩ = some x) : (w.setCell ⟨b, i, none⟩ u).cell? ⟨b, i, none⟩ = some u := by
  first | exact World.cell?_setCell_same _ _ _ h | exact World.cell?_setCell_same _ _ h
theorem cell_other {w : World} {b i j : Nat} {u : Value} (h : i ≠ j) : (w.setCell ⟨b, i, none⟩ u).cell? ⟨b, j, none⟩ = w.cell? ⟨b, j, none⟩ := by
  have hne : (⟨b, i, none⟩ : Addr) ≠ ⟨b, j, none⟩ := by intro e; injection e with _ e; exact h e
  rw [World.cell?_setCell_other (h := hne)]
theorem EBox.put {b : Nat} {s2 : ByteArray} {L2 U2 : Nat → Nat} {w : World} (h : EBox b s2 L2 U2 w) (s3 : ByteArray) (L3 U3 : Nat → Nat) : EBox b s3 L3 U3 (put9 w b s3 L3 U3) := by
  unfold put9
  refine ⟨by simp only [World.size_setCell]; exact h.lt, ?_, ?_, ?_, ?_, ?_, ?_, ?_, ?_, ?_, ?_, ?_, ?_, ?_, ?_, ?_, ?_, ?_, ?_⟩
  · rw [cell_other (show 8 ≠ 0 by omega), cell_other (show 7 ≠ 0 by omega), cell_other (show 6 ≠ 0 by omega), cell_other (show 5 ≠ 0 by omega), cell_other (show 4 ≠ 0 by omega), cell_other (show 3 ≠ 0 by omega), cell_other (show 2 ≠ 0 by omega), cell_other (show 1 ≠ 0 by omega)]; refine cell_same (x := (.string s2)) ?_; exact h.c0
  · rw [cell_other (show 8 ≠ 1 by omega), cell_other (show 7 ≠ 1 by omega), cell_other (show 6 ≠ 1 by omega), cell_other (show 5 ≠ 1 by omega), cell_other (show 4 ≠ 1 by omega), cell_other (show 3 ≠ 1 by omega), cell_other (show 2 ≠ 1 by omega)]; refine cell_same (x := (.int .u64 (L2 0 : Nat))) ?_; rw [cell_other (show 0 ≠ 1 by omega)]; exact h.c1
  · rw [cell_other (show 8 ≠ 2 by omega), cell_other (show 7 ≠ 2 by omega), cell_other (show 6 ≠ 2 by omega), cell_other (show 5 ≠ 2 by omega), cell_other (show 4 ≠ 2 by omega), cell_other (show 3 ≠ 2 by omega)]; refine cell_same (x := (.int .u64 (L2 1 : Nat))) ?_; rw [cell_other (show 1 ≠ 2 by omega), cell_other (show 0 ≠ 2 by omega)]; exact h.c2
  · rw [cell_other (show 8 ≠ 3 by omega), cell_other (show 7 ≠ 3 by omega), cell_other (show 6 ≠ 3 by omega), cell_other (show 5 ≠ 3 by omega), cell_other (show 4 ≠ 3 by omega)]; refine cell_same (x := (.int .u64 (L2 2 : Nat))) ?_; rw [cell_other (show 2 ≠ 3 by omega), cell_other (show 1 ≠ 3 by omega), cell_other (show 0 ≠ 3 by omega)]; exact h.c3
  · rw [cell_other (show 8 ≠ 4 by omega), cell_other (show 7 ≠ 4 by omega), cell_other (show 6 ≠ 4 by omega), cell_other (show 5 ≠ 4 by omega)]; refine cell_same (x := (.int .u64 (L2 3 : Nat))) ?_; rw [cell_other (show 3 ≠ 4 by omega), cell_other (show 2 ≠ 4 by omega), cell_other (show 1 ≠ 4 by omega), cell_other (show 0 ≠ 4 by omega)]; exact h.c4
  · rw [cell_other (show 8 ≠ 5 by omega), cell_other (show 7 ≠ 5 by omega), cell_other (show 6 ≠ 5 by omega)]; refine cell_same (x := (.int .u64 (U2 0 : Nat))) ?_; rw [cell_other (show 4 ≠ 5 by omega), cell_other (show 3 ≠ 5 by omega), cell_other (show 2 ≠ 5 by omega), cell_other (show 1 ≠ 5 by omega), cell_other (show 0 ≠ 5 by omega)]; exact h.c5
  · rw [cell_other (show 8 ≠ 6 by omega), cell_other (show 7 ≠ 6 by omega)]; refine cell_same (x := (.int .u64 (U2 1 : Nat))) ?_; rw [cell_other (show 5 ≠ 6 by omega), cell_other (show 4 ≠ 6 by omega), cell_other (show 3 ≠ 6 by omega), cell_other (show 2 ≠ 6 by omega), cell_other (show 1 ≠ 6 by omega), cell_other (show 0 ≠ 6 by omega)]; exact h.c6
  · rw [cell_other (show 8 ≠ 7 by omega)]; refine cell_same (x := (.int .u64 (U2 2 : Nat))) ?_; rw [cell_other (show 6 ≠ 7 by omega), cell_other (show 5 ≠ 7 by omega), cell_other (show 4 ≠ 7 by omega), cell_other (show 3 ≠ 7 by omega), cell_other (show 2 ≠ 7 by omega), cell_other (show 1 ≠ 7 by omega), cell_other (show 0 ≠ 7 by omega)]; exact h.c7
  · refine cell_same (x := (.int .u64 (U2 3 : Nat))) ?_; rw [cell_other (show 7 ≠ 8 by omega), cell_other (show 6 ≠ 8 by omega), cell_other (show 5 ≠ 8 by omega), cell_other (show 4 ≠ 8 by omega), cell_other (show 3 ≠ 8 by omega), cell_other (show 2 ≠ 8 by omega), cell_other (show 1 ≠ 8 by omega), cell_other (show 0 ≠ 8 by omega)]; exact h.c8
  · simp only [World.frozen?_setCell]; exact h.f0
  · simp only [World.frozen?_setCell]; exact h.f1
  · simp only [World.frozen?_setCell]; exact h.f2
  · simp only [World.frozen?_setCell]; exact h.f3
  · simp only [World.frozen?_setCell]; exact h.f4
  · simp only [World.frozen?_setCell]; exact h.f5
  · simp only [World.frozen?_setCell]; exact h.f6
  · simp only [World.frozen?_setCell]; exact h.f7
  · simp only [World.frozen?_setCell]; exact h.f8
theorem Ext.put9 {w w' : World} (h : Ext w w') {b : Nat} (hb : w.heap.size ≤ b) (s : ByteArray) (L U : Nat → Nat) : Ext w (put9 w' b s L U) := by
  unfold Dm.put9
  exact (((((((((h.setCell (p := ⟨b, 0, none⟩) hb _).setCell (p := ⟨b, 1, none⟩) hb _).setCell (p := ⟨b, 2, none⟩) hb _).setCell (p := ⟨b, 3, none⟩) hb _).setCell (p := ⟨b, 4, none⟩) hb _).setCell (p := ⟨b, 5, none⟩) hb _).setCell (p := ⟨b, 6, none⟩) hb _).setCell (p := ⟨b, 7, none⟩) hb _).setCell (p := ⟨b, 8, none⟩) hb _)
end Go.Dm

namespace Go.Dm
open Go Go.RowKit
/-- The first entry that is no less. -/
theorem upN_hit {t : List EntQ} {p : ByteArray} {k : Nat} (hk : k < t.length) (hn : ∀ j, j < k → Op.bytesLess (eAt t j).1.data.toList p.data.toList = true) (h : Op.bytesLess (eAt t k).1.data.toList p.data.toList = false) : upN t p = k := by
  unfold upN
  rw [List.findIdx_eq hk]
  refine ⟨?_, fun j hj => ?_⟩
  · rw [← eAt_eq hk, h]; rfl
  · rw [← eAt_eq (by omega), hn j hj]; rfl
theorem upN_miss {t : List EntQ} {p : ByteArray} (hn : ∀ j, j < t.length → Op.bytesLess (eAt t j).1.data.toList p.data.toList = true) : upN t p = t.length := by
  unfold upN
  rw [List.findIdx_eq_length]
  intro x hx
  obtain ⟨j, hj, rfl⟩ := List.getElem_of_mem hx
  rw [← eAt_eq hj, hn j hj]; rfl
theorem upN_le (t : List EntQ) (p : ByteArray) : upN t p ≤ t.length := List.findIdx_le_length
def upI (t : List EntQ) (p : ByteArray) : Int := if upN t p < t.length then (upN t p : Int) else -1
/-- What Find tells. -/
def findQ (t : List EntQ) (p : ByteArray) : EntQ × Bool := if plN t p < t.length then (eAt t (plN t p), true) else (noEnt, false)
end Go.Dm
namespace Go.Proofs.YtopnllbfhhjobaaGreatDoor
open Go.RowKit Go.Dm

set_option maxHeartbeats 2000000 in
set_option maxRecDepth 100000 in
theorem qfind_w (R : List EntQ) (p : ByteArray) (v : Value) (w : World) (hm : R.length ≤ 1099511627776) (hx : Tree w v R) :
    Calls Tryz.prog 14 #[v, .string p] w fun e w' => e = .returned (.tuple #[entVal (findQ R p).1, .bool (findQ R p).2]) ∧ Ext w w' := by
  obtain ⟨q, cap, rfl, _, _⟩ := hx.shape
  have hE : Ext w (w.alloc (.cells #[.string ⟨#[]⟩, .int .u64 0, .int .u64 0, .int .u64 0, .int .u64 0, .int .u64 0, .int .u64 0, .int .u64 0, .int .u64 0] 38)) := (Ext.refl _).alloc _
  have hB : EBox w.heap.size ⟨#[]⟩ (fun _ => 0) (fun _ => 0) (w.alloc (.cells #[.string ⟨#[]⟩, .int .u64 0, .int .u64 0, .int .u64 0, .int .u64 0, .int .u64 0, .int .u64 0, .int .u64 0, .int .u64 0] 38)) := EBox.new w _ _ _ _
  have C := qplace_w R p _ _ hm (hx.ext hE)
  by_cases h : plN R p < R.length
  · have hf : findQ R p = (eAt R (plN R p), true) := by unfold findQ; rw [if_pos h]
    have hp : plI R p = (plN R p : Int) := by unfold plI; rw [if_pos h]
    rw [hf]
    rw [hp] at C
    clear hf hp
    generalize plN R p = k at *
    obtain ⟨⟨s, l, u⟩, hr⟩ : ∃ r, eAt R k = r := ⟨_, rfl⟩
    rw [hr]
    unfold entVal uAt
    simp only
    replace hr := Lib.hid hr
    replace C := Lib.hid C
    go_enter Tryz.func14, Tryz.ntmps14
    go_wp2_with fail
    refine C.out.mono ?_; rintro e w1 ⟨rfl, h1⟩
    have hb := hE.trans h1
    obtain ⟨b, off, rfl, hbl, hcs⟩ := (hx.ext hb).at h
    rw [hr.out] at hcs
    have c0 := hcs 0 (by omega)
    have c1 := hcs 1 (by omega)
    have c2 := hcs 2 (by omega)
    have c3 := hcs 3 (by omega)
    have c4 := hcs 4 (by omega)
    have c5 := hcs 5 (by omega)
    have c6 := hcs 6 (by omega)
    have c7 := hcs 7 (by omega)
    have c8 := hcs 8 (by omega)
    simp only [entOne, uAt, List.getElem?_cons_zero, List.getElem?_cons_succ, Nat.add_zero] at c0 c1 c2 c3 c4 c5 c6 c7 c8
    clear hcs
    have hB1 := hB.ext h1
    obtain ⟨_, z0, z1, z2, z3, z4, z5, z6, z7, z8, f0, f1, f2, f3, f4, f5, f6, f7, f8⟩ := hB1
    change World.cell? _ _ = some (.int .u64 0) at z1 z2 z3 z4 z5 z6 z7 z8
    go_wp2
    have hP := (hB.ext h1).put s (vG l) (vG u)
    unfold put9 at hP
    obtain ⟨_, k0, k1, k2, k3, k4, k5, k6, k7, k8, _, _, _, _, _, _, _, _, _⟩ := hP
    refine bodyPost_ret (v := .tuple #[.agg #[.string s, .int .u64 (vG l 0 : Nat), .int .u64 (vG l 1 : Nat), .int .u64 (vG l 2 : Nat), .int .u64 (vG l 3 : Nat), .int .u64 (vG u 0 : Nat), .int .u64 (vG u 1 : Nat), .int .u64 (vG u 2 : Nat), .int .u64 (vG u 3 : Nat)], .bool true]) (by simp [results, Tryz.results14, go_sem, k0, k1, k2, k3, k4, k5, k6, k7, k8]) rfl ?_
    exact ⟨rfl, hb.put9 (b := w.heap.size) (Nat.le_refl _) s (vG l) (vG u)⟩
  · have hf : findQ R p = (noEnt, false) := by unfold findQ; rw [if_neg h]
    have hp : plI R p = -1 := by unfold plI; rw [if_neg h]
    rw [hf]
    rw [hp] at C
    clear hf hp
    replace C := Lib.hid C
    go_enter Tryz.func14, Tryz.ntmps14
    go_wp2_with fail
    refine C.out.mono ?_; rintro e w1 ⟨rfl, h1⟩
    have hB1 := hB.ext h1
    obtain ⟨_, z0, z1, z2, z3, z4, z5, z6, z7, z8, f0, f1, f2, f3, f4, f5, f6, f7, f8⟩ := hB1
    change World.cell? _ _ = some (.int .u64 0) at z1 z2 z3 z4 z5 z6 z7 z8
    go_wp2
    have hP := (hB.ext h1).put ⟨#[]⟩ (fun _ => 0) (fun _ => 0)
    unfold put9 at hP
    obtain ⟨_, k0, k1, k2, k3, k4, k5, k6, k7, k8, _, _, _, _, _, _, _, _, _⟩ := hP
    simp only [Int.cast_ofNat_Int] at k0 k1 k2 k3 k4 k5 k6 k7 k8
    refine bodyPost_ret (v := .tuple #[.agg #[.string ⟨#[]⟩, .int .u64 0, .int .u64 0, .int .u64 0, .int .u64 0, .int .u64 0, .int .u64 0, .int .u64 0, .int .u64 0], .bool false]) (by simp [results, Tryz.results14, go_sem, k0, k1, k2, k3, k4, k5, k6, k7, k8]) rfl ?_
    exact ⟨rfl, (hE.trans h1).put9 (b := w.heap.size) (Nat.le_refl _) ⟨#[]⟩ (fun _ => 0) (fun _ => 0)⟩

end Go.Proofs.YtopnllbfhhjobaaGreatDoor
