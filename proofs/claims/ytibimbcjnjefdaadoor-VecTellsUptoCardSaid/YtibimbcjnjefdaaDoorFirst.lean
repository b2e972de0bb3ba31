/- The first place where something holds. No program in sight. -/
import Derived.Test.YtibimbcjnjefdaaDoorBase
namespace Go.Dm
open Go Go.RowKit
/-- The first place where something holds. -/
def firstP {α : Type} (p : α → Bool) : List α → Option Nat
  | [] => none
  | x :: l => if p x then some 0 else (firstP p l).map (· + 1)

def placeI (o : Option Nat) : Int := match o with | some k => k | none => -1

theorem firstP_hit {α : Type} {p : α → Bool} (d : α) : ∀ {l : List α} {k : Nat}, k < l.length → (∀ j, j < k → p (l.getD j d) = false) → p (l.getD k d) = true → firstP p l = some k
  | x :: l, 0, _, _, h1 => by simp at h1; simp [firstP, h1]
  | x :: l, k+1, hk, h0, h1 => by
    have hx : p x = false := h0 0 (by omega)
    have := firstP_hit d (l := l) (k := k) (by simpa using hk) (fun j hj => h0 (j+1) (by omega)) h1
    simp [firstP, hx, this]

theorem firstP_miss {α : Type} {p : α → Bool} (d : α) : ∀ {l : List α}, (∀ j, j < l.length → p (l.getD j d) = false) → firstP p l = none
  | [], _ => rfl
  | x :: l, h => by
    have hx : p x = false := h 0 (by simp)
    have := firstP_miss d (l := l) (fun j hj => h (j+1) (by simpa using hj))
    simp [firstP, hx, this]

theorem firstP_any {α : Type} (p : α → Bool) : ∀ l : List α, (0 : Int) ≤ placeI (firstP p l) ↔ l.any p = true
  | [] => by simp [firstP, placeI]
  | x :: l => by
    have ih := firstP_any p l
    unfold firstP
    cases hx : p x with
    | true => simp [placeI, hx]
    | false =>
      simp only [Bool.false_eq_true, if_false, List.any_cons, hx, Bool.false_or]
      rw [← ih]
      cases firstP p l with
      | none => simp [placeI]
      | some k => simp only [Option.map_some, placeI]; omega

theorem firstP_some {α : Type} (d : α) {p : α → Bool} : ∀ {l : List α} {k : Nat}, firstP p l = some k → k < l.length ∧ p (l.getD k d) = true ∧ ∀ j, j < k → p (l.getD j d) = false
  | x :: l, k, h => by
    unfold firstP at h
    cases hx : p x with
    | true =>
      rw [hx, if_pos rfl] at h
      injection h with h
      subst h
      exact ⟨by simp, by simpa using hx, fun j hj => by omega⟩
    | false =>
      rw [hx] at h
      simp only [Bool.false_eq_true, if_false] at h
      cases hq : firstP p l with
      | none => rw [hq] at h; cases h
      | some m =>
        rw [hq] at h
        injection h with h
        subst h
        obtain ⟨h1, h2, h3⟩ := firstP_some d hq
        refine ⟨by simpa using h1, by simpa using h2, fun j (hj : j < m + 1) => ?_⟩
        cases j with
        | zero => simpa using hx
        | succ j => simpa using h3 j (by omega)

theorem firstP_none {α : Type} {p : α → Bool} : ∀ {l : List α}, firstP p l = none ↔ l.any p = false
  | [] => by simp [firstP]
  | x :: l => by
    unfold firstP
    cases hx : p x with
    | true => simp [hx]
    | false =>
      simp only [Bool.false_eq_true, if_false, List.any_cons, hx, Bool.false_or]
      rw [← firstP_none (l := l)]
      cases firstP p l <;> simp
end Go.Dm
