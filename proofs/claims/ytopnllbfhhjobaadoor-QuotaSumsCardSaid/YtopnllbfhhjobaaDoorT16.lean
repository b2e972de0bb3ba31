/- Texts one behind the other: Chapter 10: the laws' eight paths; a tree over them as a state. No program in sight. -/
import Derived.Test.YtopnllbfhhjobaaDoorT10
namespace Go.Dm
open Go Go.RowKit

def pathsB : List ByteArray := [⟨#[]⟩, ⟨#[97]⟩, ⟨#[97, 47, 98]⟩, ⟨#[97, 47, 98, 47, 99]⟩, ⟨#[97, 47, 120]⟩, ⟨#[98]⟩, ⟨#[98, 47, 121]⟩, ⟨#[206, 177, 206, 178]⟩]
def pth (k : Nat) : ByteArray := strAt pathsB k
/-- The paths at and above the k-th, by their numbers. -/
def abvK : Nat → List Nat
  | 0 => [0] | 1 => [0, 1] | 2 => [0, 1, 2] | 3 => [0, 1, 2, 3] | 4 => [0, 1, 4] | 5 => [0, 5] | 6 => [0, 5, 6] | 7 => [0, 7] | _ => []
def parK : Nat → Nat
  | 2 => 1 | 3 => 2 | 4 => 1 | 6 => 5 | _ => 0
theorem ups_pth : ∀ k, k < 8 → upsL (pth k).data.toList = ((abvK k).drop 1).map fun j => (pth j).data.toList
  | 0, _ => by decide +kernel
  | 1, _ => by decide +kernel
  | 2, _ => by decide +kernel
  | 3, _ => by decide +kernel
  | 4, _ => by decide +kernel
  | 5, _ => by decide +kernel
  | 6, _ => by decide +kernel
  | 7, _ => by decide +kernel
theorem abvK_head : ∀ k, k < 8 → abvK k = 0 :: (abvK k).drop 1
  | 0, _ => rfl | 1, _ => rfl | 2, _ => rfl | 3, _ => rfl | 4, _ => rfl | 5, _ => rfl | 6, _ => rfl | 7, _ => rfl
theorem abv_pth {k : Nat} (hk : k < 8) : abvB (pth k) = (abvK k).map pth := by
  have h : upsB (pth k) = ((abvK k).drop 1).map pth := by
    unfold upsB
    rw [ups_pth k hk, List.map_map]
    rfl
  unfold abvB
  rw [h]
  conv => rhs; rw [abvK_head k hk]
  rfl
theorem par_pth : ∀ k, k < 8 → parB (pth k) = pth (parK k) := fun k hk => by
  unfold parB
  rw [abv_pth hk]
  match k, hk with
  | 0, _ => rfl
  | 1, _ => rfl
  | 2, _ => rfl
  | 3, _ => rfl
  | 4, _ => rfl
  | 5, _ => rfl
  | 6, _ => rfl
  | 7, _ => rfl
theorem nam_pth : ∀ k, k < 8 → namB (pth k) = true := fun k hk => by
  unfold namB
  rcases Nat.eq_zero_or_pos k with rfl | h0
  · rw [decide_eq_true (show pth 0 = ⟨#[]⟩ from rfl)]; rfl
  · have : underL (pth k).data.toList (pth k).data.toList = true := by
      unfold underL
      rw [ups_pth k hk]
      match k, hk, h0 with
      | 1, _, _ => decide +kernel
      | 2, _, _ => decide +kernel
      | 3, _, _ => decide +kernel
      | 4, _, _ => decide +kernel
      | 5, _, _ => decide +kernel
      | 6, _, _ => decide +kernel
      | 7, _, _ => decide +kernel
    rw [this, Bool.or_true]
theorem less_pth : ∀ i, i < 8 → ∀ j, j < 8 → Op.bytesLess (pth i).data.toList (pth j).data.toList = decide (i < j) := by decide +kernel
theorem pth_inj {i j : Nat} (hi : i < 8) (hj : j < 8) (h : pth i = pth j) : i = j := by
  have h1 := less_pth i hi j hj
  have h2 := less_pth j hj i hi
  rw [h] at h1 h2
  rw [h1] at h2
  simp only [decide_eq_decide] at h2
  omega
theorem pth_len : ∀ k, (pth k).size ≤ 5 := fun k => by
  unfold pth strAt
  match k with
  | 0 => decide
  | 1 => decide
  | 2 => decide
  | 3 => decide
  | 4 => decide
  | 5 => decide
  | 6 => decide
  | 7 => decide
  | k + 8 => simp [pathsB, List.getD_eq_getElem?_getD]
theorem pth_nil {k : Nat} (hk : k < 8) : pth k = ⟨#[]⟩ ↔ k = 0 := ⟨fun h => pth_inj hk (by omega) h, fun h => by rw [h]; rfl⟩
theorem abvK_lt : ∀ k, k < 8 → ∀ j ∈ abvK k, j < 8 := by decide
theorem abvK_nodup : ∀ k, k < 8 → (abvK k).Nodup := by decide
theorem abvK_self : ∀ k, k < 8 → k ∈ abvK k := by decide
theorem parK_lt : ∀ k, k < 8 → parK k < 8 := by decide
theorem parK_abv : ∀ p, p < 8 → ∀ k ∈ abvK p, parK k ∈ abvK p := by decide

/-- A tree over the eight paths: of each its limit and what is used, if it is there. -/
abbrev StQ := Nat → Option (Vc × Vc)
def rowQ (S : StQ) (k : Nat) : List EntQ := match S k with
  | none => []
  | some x => [(pth k, x.1, x.2)]
def conc (S : StQ) : List EntQ := (List.range 8).flatMap (rowQ S)
def loQ (S : StQ) (k : Nat) : List EntQ := (List.range k).flatMap (rowQ S)
def hiQ (S : StQ) (k : Nat) : List EntQ := (List.range' (k + 1) (7 - k)).flatMap (rowQ S)
def updQ (S : StQ) (k : Nat) (x : Option (Vc × Vc)) : StQ := fun j => if j = k then x else S j
theorem range_split : ∀ k, k < 8 → List.range 8 = List.range k ++ k :: List.range' (k + 1) (7 - k) := by decide
theorem conc_split (S : StQ) {k : Nat} (hk : k < 8) : conc S = loQ S k ++ (rowQ S k ++ hiQ S k) := by
  unfold conc
  rw [range_split k hk, List.flatMap_append, List.flatMap_cons]
  rfl
theorem rowQ_upd_self (S : StQ) (k : Nat) (x) : rowQ (updQ S k (some x)) k = [(pth k, x.1, x.2)] := by simp [rowQ, updQ]
theorem rowQ_upd_other (S : StQ) {k j : Nat} (x) (h : j ≠ k) : rowQ (updQ S k x) j = rowQ S j := by simp [rowQ, updQ, h]
theorem flatMap_same {α β : Type} {f g : α → List β} : ∀ {l : List α}, (∀ x ∈ l, f x = g x) → l.flatMap f = l.flatMap g
  | [], _ => rfl
  | x :: l, h => by
    rw [List.flatMap_cons, List.flatMap_cons, h x (by simp), flatMap_same fun y hy => h y (List.mem_cons_of_mem _ hy)]
theorem loQ_upd (S : StQ) (k : Nat) (x) : loQ (updQ S k x) k = loQ S k := flatMap_same fun j hj => rowQ_upd_other S x (by have := List.mem_range.1 hj; omega)
theorem hiQ_upd (S : StQ) (k : Nat) (x) : hiQ (updQ S k x) k = hiQ S k := flatMap_same fun j hj => rowQ_upd_other S x (by have := List.mem_range'.1 hj; omega)
theorem conc_upd (S : StQ) {k : Nat} (hk : k < 8) (x : Vc × Vc) : conc (updQ S k (some x)) = loQ S k ++ ((pth k, x.1, x.2) :: hiQ S k) := by
  rw [conc_split _ hk, loQ_upd, hiQ_upd, rowQ_upd_self]; rfl
theorem rowQ_mem {S : StQ} {j : Nat} {e : EntQ} (h : e ∈ rowQ S j) : e.1 = pth j ∧ S j = some e.2 := by
  unfold rowQ at h
  split at h
  · cases h
  · rename_i x hx
    rw [List.mem_singleton] at h
    subst h
    exact ⟨rfl, hx⟩
theorem loQ_mem {S : StQ} {k : Nat} {e : EntQ} (h : e ∈ loQ S k) : ∃ j, j < k ∧ e.1 = pth j ∧ S j = some e.2 := by
  obtain ⟨j, hj, he⟩ := List.mem_flatMap.1 h
  exact ⟨j, List.mem_range.1 hj, rowQ_mem he⟩
theorem hiQ_mem {S : StQ} {k : Nat} {e : EntQ} (hk : k < 8) (h : e ∈ hiQ S k) : ∃ j, k < j ∧ j < 8 ∧ e.1 = pth j ∧ S j = some e.2 := by
  obtain ⟨j, hj, he⟩ := List.mem_flatMap.1 h
  have := List.mem_range'.1 hj
  obtain ⟨i, hi, rfl⟩ := this
  exact ⟨_, by omega, by omega, rowQ_mem he⟩
theorem conc_mem {S : StQ} {e : EntQ} (h : e ∈ conc S) : ∃ j, j < 8 ∧ e.1 = pth j ∧ S j = some e.2 := by
  obtain ⟨j, hj, he⟩ := List.mem_flatMap.1 h
  exact ⟨j, List.mem_range.1 hj, rowQ_mem he⟩
theorem mem_conc {S : StQ} {j : Nat} (hj : j < 8) {x : Vc × Vc} (h : S j = some x) : ((pth j, x.1, x.2) : EntQ) ∈ conc S :=
  List.mem_flatMap.2 ⟨j, List.mem_range.2 hj, by simp [rowQ, h]⟩
theorem conc_len (S : StQ) : (conc S).length ≤ 8 := by
  unfold conc
  have : ∀ l : List Nat, (l.flatMap (rowQ S)).length ≤ l.length := by
    intro l
    induction l with
    | nil => simp
    | cons a l ih =>
      rw [List.flatMap_cons, List.length_append, List.length_cons]
      have : (rowQ S a).length ≤ 1 := by unfold rowQ; split <;> simp
      omega
  have := this (List.range 8)
  rwa [List.length_range] at this

/-- Where a path's entry stands. -/
theorem pl_conc {S : StQ} {k : Nat} (hk : k < 8) {x : Vc × Vc} (h : S k = some x) :
    plN (conc S) (pth k) = (loQ S k).length ∧ (loQ S k).length < (conc S).length ∧ eAt (conc S) (loQ S k).length = (pth k, x.1, x.2) ∧
      ∀ y : Vc × Vc, (conc S).set (loQ S k).length (pth k, y.1, y.2) = conc (updQ S k (some y)) := by
  have hr : rowQ S k = [(pth k, x.1, x.2)] := by simp [rowQ, h]
  have hc : conc S = loQ S k ++ ((pth k, x.1, x.2) :: hiQ S k) := by rw [conc_split S hk, hr]; rfl
  have hl : (loQ S k).length < (conc S).length := by rw [hc, List.length_append, List.length_cons]; omega
  have ha : eAt (conc S) (loQ S k).length = (pth k, x.1, x.2) := by
    rw [eAt_eq hl]
    simp [hc]
  refine ⟨plN_hit hl (fun j hj he => ?_) (by rw [ha]), hl, ha, fun y => ?_⟩
  · rw [eAt_eq (by omega)] at he
    have hm : (conc S)[j] ∈ loQ S k := by
      have : (conc S)[j]'(by omega) = (loQ S k)[j] := by simp [hc, List.getElem_append_left hj]
      rw [this]; exact List.getElem_mem hj
    obtain ⟨i, hi, e1, _⟩ := loQ_mem hm
    rw [e1] at he
    have := pth_inj (by omega) hk he
    omega
  · rw [conc_upd S hk, hc]
    simp
theorem pl_none {S : StQ} {k : Nat} (hk : k < 8) (h : S k = none) : plN (conc S) (pth k) = (conc S).length := by
  refine plN_miss fun j hj he => ?_
  obtain ⟨i, hi, e1, e2⟩ := conc_mem (eAt_mem hj)
  rw [e1] at he
  have := pth_inj hi hk he
  subst this
  rw [h] at e2
  cases e2
/-- Where a new entry is put. -/
theorem up_conc {S : StQ} {k : Nat} (hk : k < 8) (h : S k = none) (y : Vc × Vc) : (conc S).take (upN (conc S) (pth k)) ++ (pth k, y.1, y.2) :: (conc S).drop (upN (conc S) (pth k)) = conc (updQ S k (some y)) := by
  have hr : rowQ S k = [] := by simp [rowQ, h]
  have hc : conc S = loQ S k ++ hiQ S k := by rw [conc_split S hk, hr]; rfl
  have hu : upN (conc S) (pth k) = (loQ S k).length := by
    unfold upN
    rw [hc, List.findIdx_append]
    have hlo : (loQ S k).findIdx (fun e => !Op.bytesLess e.1.data.toList (pth k).data.toList) = (loQ S k).length := by
      rw [List.findIdx_eq_length]
      intro e he
      obtain ⟨j, hj, e1, _⟩ := loQ_mem he
      rw [e1, less_pth j (by omega) k hk, decide_eq_true hj]; rfl
    rw [hlo, if_neg (by omega)]
    have hhi : (hiQ S k).findIdx (fun e => !Op.bytesLess e.1.data.toList (pth k).data.toList) = 0 := by
      cases hh : hiQ S k with
      | nil => rfl
      | cons e l =>
        obtain ⟨j, hj, hj8, e1, _⟩ := hiQ_mem hk (show e ∈ hiQ S k by rw [hh]; simp)
        rw [List.findIdx_cons, e1, less_pth j hj8 k hk, decide_eq_false (by omega)]; rfl
    rw [hhi, Nat.zero_add]
  rw [hu, conc_upd S hk, hc]
  simp
end Go.Dm
