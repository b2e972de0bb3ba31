/- Chapter 3: the plain laws of sums, times, holds. No program in sight. -/
import Derived.Test.YtibimbcjnjefdaaDoorVcLaws
namespace Go.Dm
open Go Go.RowKit

theorem vaddOk_four {a b : Vc} : vaddOk a b = true ↔ vG a 0 + vG b 0 < 18446744073709551616 ∧ vG a 1 + vG b 1 < 18446744073709551616 ∧ vG a 2 + vG b 2 < 18446744073709551616 ∧ vG a 3 + vG b 3 < 18446744073709551616 := by
  rw [← allV_add]; simp [allV, and_assoc]
theorem vtimesOk_four {a : Vc} {n : Nat} : vtimesOk a n = true ↔ vG a 0 * n < 18446744073709551616 ∧ vG a 1 * n < 18446744073709551616 ∧ vG a 2 * n < 18446744073709551616 ∧ vG a 3 * n < 18446744073709551616 := by
  rw [← allV_times a (fun _ => 0)]; simp [allV, and_assoc]
theorem vadd_eta (a b : Vc) : vadd a b = [vG a 0 + vG b 0, vG a 1 + vG b 1, vG a 2 + vG b 2, vG a 3 + vG b 3] := rfl
theorem vsub_eta (a b : Vc) : vsub a b = [vG a 0 - vG b 0, vG a 1 - vG b 1, vG a 2 - vG b 2, vG a 3 - vG b 3] := rfl
theorem vtimes_eta (a : Vc) (n : Nat) : vtimes a n = [vG a 0 * n, vG a 1 * n, vG a 2 * n, vG a 3 * n] := rfl
theorem vadd_okV {a b : Vc} (h : vaddOk a b = true) : OkV (vadd a b) := by
  rw [vaddOk_four] at h
  rw [vadd_eta]
  exact okV_mk h.1 h.2.1 h.2.2.1 h.2.2.2
theorem vtimes_okV {a : Vc} {n : Nat} (h : vtimesOk a n = true) : OkV (vtimes a n) := by
  rw [vtimesOk_four] at h
  rw [vtimes_eta]
  exact okV_mk h.1 h.2.1 h.2.2.1 h.2.2.2
theorem okV_or {ok : Bool} {v : Vc} (h : ok = true → OkV v) : OkV (vOr ok v) := by
  unfold vOr
  cases ok with
  | false => exact okV_no
  | true => exact h rfl
theorem vadd_or_okV (a b : Vc) : OkV (vOr (vaddOk a b) (vadd a b)) := okV_or vadd_okV
theorem vsub_or_okV {a : Vc} (ha : OkV a) (b : Vc) : OkV (vOr (vfits b a) (vsub a b)) := okV_or fun _ => vsub_ok ha
theorem vtimes_or_okV (a : Vc) (n : Nat) : OkV (vOr (vtimesOk a n) (vtimes a n)) := okV_or vtimes_okV
theorem vaddOk_comm (a b : Vc) : vaddOk b a = vaddOk a b := by
  rw [Bool.eq_iff_iff, vaddOk_four, vaddOk_four]; omega
theorem vadd_comm (a b : Vc) : vadd b a = vadd a b := by
  rw [vadd_eta, vadd_eta, Nat.add_comm, Nat.add_comm (vG b 1), Nat.add_comm (vG b 2), Nat.add_comm (vG b 3)]
theorem vsub_add {a b : Vc} (ha : OkV a) : vsub (vadd a b) b = a ∧ vfits b (vadd a b) = true ∧ vfits a (vadd a b) = true := by
  refine ⟨?_, ?_, ?_⟩
  · obtain ⟨x, y, z, u, rfl, _⟩ := ha.ex
    simp [vsub_eta, vadd_eta, vG]
  · rw [vfits_four, vadd_eta]; simp [vG]
  · rw [vfits_four, vadd_eta]; simp [vG]
theorem vadd_sub {a b : Vc} (ha : OkV a) (h : vfits b a = true) : vadd (vsub a b) b = a ∧ vaddOk (vsub a b) b = true := by
  rw [vfits_four] at h
  refine ⟨?_, ?_⟩
  · obtain ⟨x, y, z, u, rfl, _⟩ := ha.ex
    simp [vsub_eta, vadd_eta, vG] at h ⊢
    omega
  · obtain ⟨x, y, z, u, rfl, h1, h2, h3, h4⟩ := ha.ex
    unfold U64 at h1 h2 h3 h4
    rw [vaddOk_four]
    simp [vsub_eta, vG] at h ⊢
    omega
/-- One more. -/
theorem vtimes_step (a : Vc) (i : Nat) : vadd (vtimes a i) a = vtimes a (i + 1) := by
  simp only [vadd_eta, vtimes_eta, Nat.mul_succ]; rfl
theorem vtimesOk_step (a : Vc) (i : Nat) : vaddOk (vtimes a i) a = vtimesOk a (i + 1) := by
  rw [Bool.eq_iff_iff, vaddOk_four, vtimesOk_four]
  simp only [vtimes_eta, Nat.mul_succ]
  simp [vG]
theorem vtimesOk_mono {a : Vc} {i n : Nat} (h : i ≤ n) (hn : vtimesOk a n = true) : vtimesOk a i = true := by
  rw [vtimesOk_four] at *
  have := fun x => Nat.mul_le_mul_left x h
  have h0 := this (vG a 0); have h1 := this (vG a 1); have h2 := this (vG a 2); have h3 := this (vG a 3)
  omega
theorem vtimes_zero (a : Vc) : vtimes a 0 = noV := by simp [vtimes_eta, noV]
theorem vtimesOk_zero (a : Vc) : vtimesOk a 0 = true := by rw [vtimesOk_four]; simp
/-- So many are held, and no more. -/
theorem vholdF_iff (a b : Vc) (m k : Nat) : ∀ i, k ≤ vholdF a b m i ↔ k ≤ m ∧ ∀ j, j < i → vG b j * k ≤ vG a j
  | 0 => by simp [vholdF]
  | i + 1 => by
    have ih := vholdF_iff a b m k i
    have hs : (∀ j, j < i + 1 → vG b j * k ≤ vG a j) ↔ (∀ j, j < i → vG b j * k ≤ vG a j) ∧ vG b i * k ≤ vG a i := by
      constructor
      · intro h; exact ⟨fun j hj => h j (by omega), h i (by omega)⟩
      · intro ⟨h, hi⟩ j hj
        by_cases e : j = i
        · rw [e]; exact hi
        · exact h j (by omega)
    rw [vholdF_sub, hs]
    by_cases h0 : vG b i = 0
    · rw [if_pos h0, ih, h0]; simp
    · rw [if_neg h0, Nat.le_min, ih, Nat.le_div_iff_mul_le (by omega), Nat.mul_comm k]
      constructor
      · intro ⟨⟨h1, h2⟩, h3⟩; exact ⟨h1, h2, h3⟩
      · intro ⟨h1, h2, h3⟩; exact ⟨⟨h1, h2⟩, h3⟩
theorem vholds_iff {a b : Vc} {m k : Nat} : k ≤ vholds a b m ↔ k ≤ m ∧ vfits (vtimes b k) a = true := by
  unfold vholds
  rw [vholdF_iff, vfits_iff]
  constructor
  · intro ⟨h1, h2⟩
    refine ⟨h1, fun j hj => ?_⟩
    have := vtimes_at (a := b) (n := k) hj
    unfold vG at this h2
    rw [this]; exact h2 j hj
  · intro ⟨h1, h2⟩
    refine ⟨h1, fun j hj => ?_⟩
    have := vtimes_at (a := b) (n := k) hj
    have h := h2 j hj
    unfold vG at this ⊢
    rw [this] at h; exact h
theorem vholds_fit {a b : Vc} (ha : OkV a) (m : Nat) : vtimesOk b (vholds a b m) = true ∧ vfits (vtimes b (vholds a b m)) a = true := by
  have h := (vholds_iff (a := a) (b := b) (m := m) (k := vholds a b m)).1 (Nat.le_refl _)
  refine ⟨?_, h.2⟩
  have h4 := vfits_four.1 h.2
  rw [vtimes_at (by omega), vtimes_at (by omega), vtimes_at (by omega), vtimes_at (by omega)] at h4
  rw [vtimesOk_four]
  have u := ha.u64
  have u0 := u 0; have u1 := u 1; have u2 := u 2; have u3 := u 3
  unfold U64 at u0 u1 u2 u3
  unfold vG at *
  omega
theorem vholds_more {a b : Vc} {m : Nat} (h : vholds a b m < m) : vfits (vtimes b (vholds a b m + 1)) a = false := by
  cases e : vfits (vtimes b (vholds a b m + 1)) a with
  | false => rfl
  | true => have := (vholds_iff (a := a) (b := b) (m := m) (k := vholds a b m + 1)).2 ⟨h, e⟩; omega
theorem vholds_none (a : Vc) (m : Nat) : vholds a noV m = m := by
  apply Nat.le_antisymm (vholds_le a noV m)
  rw [vholds_iff]
  refine ⟨Nat.le_refl _, ?_⟩
  rw [vfits_four, vtimes_eta]; simp [vG, noV]

end Go.Dm
