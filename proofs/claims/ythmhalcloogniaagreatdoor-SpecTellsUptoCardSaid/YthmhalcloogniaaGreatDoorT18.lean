/- Texts one behind the other: Chapter 1 in plain terms: the document's way to get a number. No program in sight. -/
import Derived.Test.YthmhalcloogniaaGreatDoorT12
namespace Go.Dm
open Go Go.RowKit

theorem scan_cons (a : UInt8) (t : Bs) : ∀ k, scanV (a :: t) (k + 1) = a.toNat % 128 + 128 * scanV t k
  | 0 => by simp [scanV, bAt]
  | k + 1 => by
    rw [scanV, scan_cons a t k, scanV, Nat.mul_add, Nat.pow_succ]
    have hS : bAt (a :: t) (k + 1) = bAt t k := rfl
    rw [hS]
    have : (bAt t k % 128) * (128 ^ k * 128) = 128 * ((bAt t k % 128) * 128 ^ k) := by
      rw [← Nat.mul_assoc, Nat.mul_comm]
    omega
theorem scan_pos {l : Bs} {k : Nat} (h1 : bAt l k < 128) (h0 : bAt l k ≠ 0) : 1 ≤ scanV l (k + 1) := by
  rw [scanV]
  have : 1 ≤ (bAt l k % 128) * 128 ^ k := Nat.mul_pos (by omega) (Nat.pow_pos (by decide))
  omega
theorem u8_eq {a : UInt8} {n : Nat} (h : n = a.toNat) : UInt8.ofNat n = a := by subst h; exact UInt8.ofNat_toNat
/-- Bytes that end as a number's do are those of the number. -/
theorem putL_scan : ∀ (k : Nat) (l : Bs), k < l.length → (∀ i, i < k → endsAt l i = false) → bAt l k < 128 → (0 < k → bAt l k ≠ 0) → putL (scanV l (k + 1)) = l.take (k + 1)
  | 0, l, hl, _, he, _ => by
    cases l with
    | nil => simp at hl
    | cons a t =>
      have ha : bAt (a :: t) 0 = a.toNat := rfl
      rw [ha] at he
      have hs : scanV (a :: t) (0 + 1) = a.toNat := by rw [scan_cons]; simp only [scanV]; omega
      rw [hs, putL_small he, u8_eq rfl]; rfl
  | k + 1, l, hl, hn, he, h0 => by
    cases l with
    | nil => simp at hl
    | cons a t =>
      have ha : bAt (a :: t) 0 = a.toNat := rfl
      have hS : ∀ i, bAt (a :: t) (i + 1) = bAt t i := fun i => rfl
      have h128 : 128 ≤ a.toNat := by
        have := hn 0 (by omega)
        simp only [endsAt, ha, decide_eq_false_iff_not] at this
        omega
      have hlt : a.toNat < 256 := a.toNat_lt
      have hp := scan_pos (l := t) (k := k) (by rw [← hS]; exact he) (by rw [← hS]; exact h0 (by omega))
      have ih := putL_scan k t (by simpa using hl) (fun i hi => by have := hn (i + 1) (by omega); simp only [endsAt, hS] at this ⊢; exact this) (by rw [← hS]; exact he) (fun _ => by rw [← hS]; exact h0 (by omega))
      rw [scan_cons, putL_big (by omega), show (a.toNat % 128 + 128 * scanV t (k + 1)) / 128 = scanV t (k + 1) by omega, ih, u8_eq (a := a) (by omega), List.take_succ_cons]
theorem putL_last : ∀ (n u : Nat), (putL u).length = n + 1 → 0 < n → bAt (putL u) n ≠ 0
  | 0, _, _, h => by omega
  | n + 1, u, h, _ => by
    have hs : 128 ≤ u := by
      apply Decidable.byContradiction
      intro hb
      rw [putL_small (by omega)] at h
      simp at h
    rw [putL_big hs] at h ⊢
    have hl : (putL (u / 128)).length = n + 1 := by simpa using h
    show bAt (putL (u / 128)) n ≠ 0
    by_cases h0 : n = 0
    · subst h0
      have hs2 : u / 128 < 128 := by
        apply Decidable.byContradiction
        intro hb
        rw [putL_big (by omega)] at hl
        have := putL_pos (u / 128 / 128)
        rw [List.length_cons] at hl; omega
      rw [putL_small hs2]
      show (UInt8.ofNat (u / 128)).toNat ≠ 0
      rw [UInt8.toNat_ofNat_of_lt' (by show _ < 256; omega)]
      omega
    · exact putL_last n _ hl (by omega)

theorem scan_u64 {l : Bs} {k : Nat} (hk : k < 10) (h9 : k = 9 → bAt l k % 128 ≤ 1) : U64 (scanV l (k + 1)) := by
  rw [scanV]
  have h1 := scanV_lt l k
  have h2 : bAt l k % 128 ≤ 127 := by omega
  generalize bAt l k % 128 = d at *
  show _ < 18446744073709551616
  rcases (by omega : k ≤ 8 ∨ k = 9) with hk8 | rfl
  · have h3 : (128 : Nat) ^ k ≤ 128 ^ 8 := Nat.pow_le_pow_right (by decide) hk8
    have h4 : d * 128 ^ k ≤ 127 * 128 ^ 8 := Nat.mul_le_mul h2 h3
    have : (128 : Nat) ^ 8 = 72057594037927936 := by decide
    omega
  · have h3 := h9 rfl
    have : (128 : Nat) ^ 9 = 9223372036854775808 := by decide
    rw [this] at h1 ⊢
    have h4 : d * 9223372036854775808 ≤ 1 * 9223372036854775808 := Nat.mul_le_mul_right _ h3
    omega

/-- A number is got where its bytes stand. -/
theorem getL_built {l : Bs} {k : Nat} (hk : k < 10) (hl : k < l.length) (hn : ∀ i, i < k → endsAt l i = false) (he : bAt l k < 128) (h9 : k = 9 → bAt l k % 128 ≤ 1) (h0 : 0 < k → bAt l k ≠ 0) : getL l = some (scanV l (k + 1), k + 1) := by
  have hp := putL_scan k l hl hn he h0
  refine getL_iff.2 ⟨scan_u64 hk h9, ?_, hp, by omega⟩
  rw [hp, List.length_take]; omega

/-- What is got. -/
theorem getL_find {l : Bs} {u n : Nat} (h : getL l = some (u, n)) : ∃ k, n = k + 1 ∧ k < 10 ∧ k < l.length ∧ (∀ i, i < k → endsAt l i = false) ∧ bAt l k < 128 ∧ scanV l (k + 1) = u ∧ U64 u ∧ (0 < k → bAt l k ≠ 0) := by
  obtain ⟨hu, rfl, hp, hl⟩ := getL_iff.1 h
  obtain ⟨n, hn⟩ : ∃ n, (putL u).length = n + 1 := ⟨(putL u).length - 1, by have := putL_pos u; omega⟩
  obtain ⟨h1, h2, h3⟩ := putL_shape n u hn
  have h4 := putL_last n u hn
  have h10 := putL_ten hu
  rw [hn] at hp hl h10
  have hat : ∀ j, j < n + 1 → bAt (putL u) j = bAt l j := fun j hj => by rw [hp, bAt_take' l hj]
  rw [hat n (by omega)] at h2 h4
  refine ⟨n, hn, by omega, by omega, fun i hi => ?_, h2, ?_, hu, h4⟩
  · have := h1 i hi
    rw [hat i (by omega)] at this
    simp only [endsAt, decide_eq_false_iff_not]; omega
  · rw [← scanV_take l (n + 1) (n + 1) (Nat.le_refl _), ← hp]; exact h3

/-- A tenth byte that is too great. -/
theorem getL_great {l : Bs} (hn : ∀ i, i < 9 → endsAt l i = false) (h : 1 < bAt l 9 % 128) : getL l = none := by
  cases hg : getL l with
  | none => rfl
  | some x =>
    exfalso
    obtain ⟨u, n⟩ := x
    obtain ⟨k, _, hk, hl, hk1, hk2, hk3, hk4, _⟩ := getL_find hg
    have hk9 : k = 9 := by
      apply Decidable.byContradiction
      intro hne
      have := hn k (by omega)
      simp only [endsAt, decide_eq_false_iff_not] at this
      omega
    subst hk9
    rw [scanV] at hk3
    have h3 : 2 * 128 ^ 9 ≤ (bAt l 9 % 128) * 128 ^ 9 := Nat.mul_le_mul_right _ (by omega)
    have : (128 : Nat) ^ 9 = 9223372036854775808 := by decide
    rw [this] at h3 hk3
    unfold U64 at hk4
    omega
/-- A last byte that says nothing. -/
theorem getL_empty {l : Bs} {k : Nat} (hk : 0 < k) (hn : ∀ i, i < k → endsAt l i = false) (h : bAt l k = 0) : getL l = none := by
  cases hg : getL l with
  | none => rfl
  | some x =>
    exfalso
    obtain ⟨u, n⟩ := x
    obtain ⟨j, _, _, _, hj1, hj2, _, _, hj4⟩ := getL_find hg
    have : j = k := by
      rcases Nat.lt_trichotomy j k with h' | h' | h'
      · have := hn j h'
        simp only [endsAt, decide_eq_false_iff_not] at this
        omega
      · exact h'
      · have := hj1 k h'
        simp only [endsAt, decide_eq_false_iff_not] at this
        omega
    subst this
    exact hj4 hk h
theorem ref_wrap {l : Bs} {j : Nat} (hj : j < 10) (h9 : j = 9 → bAt l j % 128 ≤ 1) :
    IntKind.u64.wrap (((scanV l j : Nat) : Int) + IntKind.u64.wrap (((bAt l j % 128 : Nat) : Int) * 2 ^ (7 * j))) = ((scanV l (j + 1) : Nat) : Int) := by
  have hw : ∀ n : Nat, IntKind.u64.wrap (n : Int) = ((n % 18446744073709551616 : Nat) : Int) := by
    intro n
    simp only [IntKind.wrap, IntKind.bits, IntKind.signed]
    simp
  have h1 := scan_u64 hj h9
  unfold U64 at h1
  have h2 : scanV l (j + 1) = scanV l j + (bAt l j % 128) * 128 ^ j := rfl
  rw [show (((bAt l j % 128 : Nat) : Int) * 2 ^ (7 * j)) = ((bAt l j % 128 * 128 ^ j : Nat) : Int) by rw [← pow7]; push_cast; rfl, hw, Nat.mod_eq_of_lt (by omega), ← Int.natCast_add, hw, ← h2, Nat.mod_eq_of_lt h1]
end Go.Dm
