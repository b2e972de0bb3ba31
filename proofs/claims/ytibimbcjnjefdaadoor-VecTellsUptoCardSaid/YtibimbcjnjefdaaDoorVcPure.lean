/- Chapter 3 in plain terms: amounts of four kinds. No program in sight. -/
import Derived.Test.YtibimbcjnjefdaaDoorVPure
namespace Go.Dm
open Go Go.RowKit

/-- An amount: four numbers. -/
abbrev Vc := List Nat
structure OkV (a : Vc) : Prop where
  len : a.length = 4
  u64 : ∀ k, U64 (a.getD k 0)
def noV : Vc := [0, 0, 0, 0]
theorem okV_mk {a b c d : Nat} (ha : U64 a) (hb : U64 b) (hc : U64 c) (hd : U64 d) : OkV [a, b, c, d] := by
  refine ⟨rfl, fun k => ?_⟩
  match k with
  | 0 => exact ha
  | 1 => exact hb
  | 2 => exact hc
  | 3 => exact hd
  | k + 4 => show U64 0; unfold U64; omega
theorem OkV.ex {a : Vc} (h : OkV a) : ∃ x y z u, a = [x, y, z, u] ∧ U64 x ∧ U64 y ∧ U64 z ∧ U64 u := by
  obtain ⟨hl, hu⟩ := h
  match a, hl, hu with
  | [x, y, z, u], _, hu => exact ⟨x, y, z, u, rfl, hu 0, hu 1, hu 2, hu 3⟩
theorem okV_no : OkV noV := okV_mk (by unfold U64; omega) (by unfold U64; omega) (by unfold U64; omega) (by unfold U64; omega)

/-- An amount as a value, by its numbers. -/
def vF (A : Nat → Nat) : Value := .agg #[.int .u64 (A 0 : Nat), .int .u64 (A 1 : Nat), .int .u64 (A 2 : Nat), .int .u64 (A 3 : Nat)]
def vG (a : Vc) (k : Nat) : Nat := a.getD k 0
def vVal (a : Vc) : Value := vF (vG a)
theorem vF_eq {A B : Nat → Nat} (h : ∀ k, k < 4 → A k = B k) : vF A = vF B := by
  unfold vF; rw [h 0 (by omega), h 1 (by omega), h 2 (by omega), h 3 (by omega)]

/-- Does an amount fit where this is free? (b in a) -/
def vfits (b a : Vc) : Bool := (List.range 4).all fun k => decide (b.getD k 0 ≤ a.getD k 0)
def vsub (a b : Vc) : Vc := (List.range 4).map fun k => a.getD k 0 - b.getD k 0
def vaddOk (a b : Vc) : Bool := (List.range 4).all fun k => decide (a.getD k 0 + b.getD k 0 < 18446744073709551616)
def vadd (a b : Vc) : Vc := (List.range 4).map fun k => a.getD k 0 + b.getD k 0
/-- What is told of two. -/
def vOr (ok : Bool) (v : Vc) : Vc := if ok then v else noV
/-- P3.1: which is less, from the first kind on. -/
def vordF : List Nat → List Nat → Int
  | x :: xs, y :: ys => if x < y then -1 else if y < x then 1 else vordF xs ys
  | _, _ => 0
def vord (a b : Vc) : Int := vordF a b
/-- P3.2: how many are held, up to m. -/
def vholdF (a b : Vc) (m : Nat) : Nat → Nat
  | 0 => m
  | k + 1 => if b.getD k 0 = 0 then vholdF a b m k else min (vholdF a b m k) (a.getD k 0 / b.getD k 0)
def vholds (a b : Vc) (m : Nat) : Nat := vholdF a b m 4

theorem vsub_ok {a b : Vc} (ha : OkV a) : OkV (vsub a b) := by
  obtain ⟨x, y, z, u, rfl, h1, h2, h3, h4⟩ := ha.ex
  exact okV_mk (by unfold U64 at *; simp; omega) (by unfold U64 at *; simp; omega) (by unfold U64 at *; simp; omega) (by unfold U64 at *; simp; omega)
theorem vfits_iff {a b : Vc} : vfits b a = true ↔ ∀ k, k < 4 → b.getD k 0 ≤ a.getD k 0 := by
  unfold vfits; rw [List.all_eq_true]; simp
theorem vsub_at {a b : Vc} {k : Nat} (hk : k < 4) : (vsub a b).getD k 0 = a.getD k 0 - b.getD k 0 := by
  unfold vsub; simp [hk]
theorem vfits_no {b : Vc} (hb : OkV b) (h : b ≠ noV) : vfits b noV = false := by
  obtain ⟨x, y, z, u, rfl, _⟩ := hb.ex
  cases e : vfits [x, y, z, u] noV with
  | false => rfl
  | true =>
    rw [vfits_iff] at e
    have h0 := e 0 (by omega); have h1 := e 1 (by omega); have h2 := e 2 (by omega); have h3 := e 3 (by omega)
    simp [noV] at h0 h1 h2 h3
    exact absurd (by simp [noV, h0, h1, h2, h3]) h

theorem vholdF_le (a b : Vc) (m : Nat) : ∀ k, vholdF a b m k ≤ m
  | 0 => Nat.le_refl _
  | k + 1 => by
    have := vholdF_le a b m k
    unfold vholdF; split <;> omega
theorem vholds_le (a b : Vc) (m : Nat) : vholds a b m ≤ m := vholdF_le a b m 4
theorem vholdF_min (a b : Vc) {m n : Nat} (h : m ≤ n) : ∀ k, vholdF a b m k = min m (vholdF a b n k)
  | 0 => by simp only [vholdF]; omega
  | k + 1 => by
    have := vholdF_min a b h k
    unfold vholdF; split <;> omega
/-- Fewer asked for: as many, up to these. -/
theorem vholds_min (a b : Vc) {m n : Nat} (h : m ≤ n) : vholds a b m = min m (vholds a b n) := vholdF_min a b h 4
theorem vholdF_step (a b : Vc) (m : Nat) : ∀ k, k ≤ 4 → (∀ j, j < k → b.getD j 0 ≤ a.getD j 0) → vholdF a b (m + 1) k = vholdF (vsub a b) b m k + 1
  | 0, _, _ => rfl
  | k + 1, hk, hf => by
    have ih := vholdF_step a b m k (by omega) fun j hj => hf j (by omega)
    have h := hf k (by omega)
    unfold vholdF
    rw [vsub_at (by omega)]
    split
    · exact ih
    · have hd : a.getD k 0 / b.getD k 0 = (a.getD k 0 - b.getD k 0) / b.getD k 0 + 1 := by
        conv => lhs; rw [show a.getD k 0 = a.getD k 0 - b.getD k 0 + b.getD k 0 by omega]
        rw [Nat.add_div_right _ (by omega)]
      rw [hd]
      omega
/-- Where one fits, one less is held of what is left. -/
theorem vholds_step {a b : Vc} (m : Nat) (h : vfits b a = true) : vholds a b (m + 1) = vholds (vsub a b) b m + 1 :=
  vholdF_step a b m 4 (by omega) fun j hj => vfits_iff.1 h j hj
theorem vholdF_zero (a b : Vc) (m : Nat) : ∀ k, (∃ j, j < k ∧ a.getD j 0 < b.getD j 0) → vholdF a b m k = 0
  | 0, h => by obtain ⟨j, hj, _⟩ := h; omega
  | k + 1, h => by
    obtain ⟨j, hj, hl⟩ := h
    unfold vholdF
    by_cases e : j = k
    · subst e
      rw [if_neg (by omega), Nat.div_eq_of_lt hl]; exact Nat.min_zero _
    · have := vholdF_zero a b m k ⟨j, by omega, hl⟩
      rw [this]
      split
      · rfl
      · exact Nat.zero_min _
theorem vholds_zero {a b : Vc} (m : Nat) (h : vfits b a = false) : vholds a b m = 0 := by
  apply vholdF_zero
  rw [← Bool.not_eq_true, vfits_iff] at h
  obtain ⟨k, hk⟩ := Classical.not_forall.1 h
  rw [Classical.not_imp] at hk
  exact ⟨k, hk.1, by omega⟩
end Go.Dm
