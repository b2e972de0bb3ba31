/- Chapter 3: the plain laws of order, sums, fits. No program in sight. -/
import Derived.Test.YtibimbcjnjefdaaDoorVcWalkD
namespace Go.Dm
open Go Go.RowKit

theorem vordF_cases : ∀ xs ys : List Nat, vordF xs ys = -1 ∨ vordF xs ys = 0 ∨ vordF xs ys = 1
  | [], _ => by simp [vordF]
  | _ :: _, [] => by simp [vordF]
  | x :: xs, y :: ys => by
    unfold vordF
    split
    · exact Or.inl rfl
    · split
      · exact Or.inr (Or.inr rfl)
      · exact vordF_cases xs ys
theorem vordF_flip : ∀ xs ys : List Nat, vordF ys xs = - vordF xs ys
  | [], [] => by simp [vordF]
  | [], _ :: _ => by simp [vordF]
  | _ :: _, [] => by simp [vordF]
  | x :: xs, y :: ys => by
    have ih := vordF_flip xs ys
    simp only [vordF]
    by_cases h : x < y
    · rw [if_pos h, if_neg (by omega), if_pos h]; rfl
    · rw [if_neg h]
      by_cases h' : y < x
      · rw [if_pos h', if_pos h', if_neg h]
      · rw [if_neg h', if_neg h', if_neg h]; exact ih
theorem vordF_zero : ∀ xs ys : List Nat, xs.length = ys.length → (vordF xs ys = 0 ↔ xs = ys)
  | [], [], _ => by simp [vordF]
  | x :: xs, y :: ys, h => by
    have ih := vordF_zero xs ys (by simpa using h)
    simp only [vordF]
    by_cases h1 : x < y
    · rw [if_pos h1]; simp; omega
    · rw [if_neg h1]
      by_cases h2 : y < x
      · rw [if_pos h2]; simp; omega
      · rw [if_neg h2, ih]
        have : x = y := by omega
        simp [this]
theorem vordF_trans : ∀ xs ys zs : List Nat, xs.length = ys.length → ys.length = zs.length → vordF xs ys = -1 → vordF ys zs = -1 → vordF xs zs = -1
  | [], _, _, _, _, h, _ => by simp [vordF] at h
  | _ :: _, [], _, h, _, _, _ => by simp at h
  | _ :: _, _ :: _, [], _, h, _, _ => by simp at h
  | x :: xs, y :: ys, z :: zs, h1, h2, h3, h4 => by
    have ih := vordF_trans xs ys zs (by simpa using h1) (by simpa using h2)
    simp only [vordF] at h3 h4 ⊢
    split at h3
    · split at h4
      · rw [if_pos (by omega)]
      · split at h4
        · simp at h4
        · rw [if_pos (by omega)]
    · split at h3
      · simp at h3
      · split at h4
        · rw [if_pos (by omega)]
        · split at h4
          · simp at h4
          · rw [if_neg (by omega), if_neg (by omega)]; exact ih h3 h4
theorem vord_cases (a b : Vc) : vord a b = -1 ∨ vord a b = 0 ∨ vord a b = 1 := vordF_cases a b
theorem vord_flip (a b : Vc) : vord b a = - vord a b := vordF_flip a b
theorem vord_zero {a b : Vc} (ha : OkV a) (hb : OkV b) : vord a b = 0 ↔ a = b := vordF_zero a b (ha.len.trans hb.len.symm)
theorem vord_trans {a b c : Vc} (ha : OkV a) (hb : OkV b) (hc : OkV c) (h1 : vord a b = -1) (h2 : vord b c = -1) : vord a c = -1 :=
  vordF_trans a b c (ha.len.trans hb.len.symm) (hb.len.trans hc.len.symm) h1 h2

theorem vfits_four {a b : Vc} : vfits a b = true ↔ vG a 0 ≤ vG b 0 ∧ vG a 1 ≤ vG b 1 ∧ vG a 2 ≤ vG b 2 ∧ vG a 3 ≤ vG b 3 := by
  rw [vfits_iff]
  constructor
  · intro h
    exact ⟨h 0 (by omega), h 1 (by omega), h 2 (by omega), h 3 (by omega)⟩
  · intro ⟨h0, h1, h2, h3⟩ k hk
    match k, hk with
    | 0, _ => exact h0
    | 1, _ => exact h1
    | 2, _ => exact h2
    | 3, _ => exact h3
theorem vG_eq {a b : Vc} (ha : OkV a) (hb : OkV b) : a = b ↔ vG a 0 = vG b 0 ∧ vG a 1 = vG b 1 ∧ vG a 2 = vG b 2 ∧ vG a 3 = vG b 3 := by
  obtain ⟨x, y, z, u, rfl, _⟩ := ha.ex
  obtain ⟨x', y', z', u', rfl, _⟩ := hb.ex
  simp [vG]
theorem vfits_refl (a : Vc) : vfits a a = true := by rw [vfits_four]; omega
theorem vfits_no_le (a : Vc) : vfits noV a = true := by rw [vfits_four]; simp [noV, vG]
theorem vfits_both {a b : Vc} (ha : OkV a) (hb : OkV b) : (vfits a b && vfits b a) = decide (a = b) := by
  rw [Bool.eq_iff_iff, Bool.and_eq_true, vfits_four, vfits_four, decide_eq_true_eq, vG_eq ha hb]
  omega
theorem vfits_trans {a b c : Vc} (h1 : vfits a b = true) (h2 : vfits b c = true) : vfits a c = true := by
  rw [vfits_four] at *; omega
theorem vord_four {a b : Vc} (ha : OkV a) (hb : OkV b) : vord a b = vordF [vG a 0, vG a 1, vG a 2, vG a 3] [vG b 0, vG b 1, vG b 2, vG b 3] := by
  obtain ⟨x, y, z, u, rfl, _⟩ := ha.ex
  obtain ⟨x', y', z', u', rfl, _⟩ := hb.ex
  rfl
theorem vord_fits {a b : Vc} (ha : OkV a) (hb : OkV b) (h : vfits a b = true) : vord a b = -1 ∨ vord a b = 0 := by
  rw [vfits_four] at h
  rw [vord_four ha hb]
  generalize vG a 0 = x0 at *
  generalize vG a 1 = x1 at *
  generalize vG a 2 = x2 at *
  generalize vG a 3 = x3 at *
  simp only [vordF]
  repeat (split; · first | exact Or.inl rfl | omega)
  first | exact Or.inr rfl | (repeat (split <;> try omega))

end Go.Dm
