/- Chapter 2, plain laws: what it is to be under; names hold no slash. No program in sight. -/
import Derived.Test.YtibimbcjnjefdaaDoorWPathL
namespace Go.Dm
open Go Go.RowKit

theorem joinP_inj {P Q : List Bs} (hP : P ≠ []) (hQ : Q ≠ []) (h1 : ∀ p ∈ P, (47 : UInt8) ∉ p) (h2 : ∀ p ∈ Q, (47 : UInt8) ∉ p) (h : joinP P = joinP Q) : P = Q := by
  rw [← splitL_joinP hP h1, h, splitL_joinP hQ h2]

/-- To be under: to go on from. -/
theorem under_iff {P Q : List Bs} (hP : P ≠ []) (h1 : ∀ p ∈ P, (47 : UInt8) ∉ p) (h3 : Q.length ≤ 3) (h2 : ∀ p ∈ Q, Name p) : underL (joinP P) (joinP Q) = true ↔ P <+: Q := by
  unfold underL
  rw [upsL_joinP h3 h2, List.contains_iff_mem, List.mem_map]
  constructor
  · rintro ⟨k, hk, e⟩
    have hk := List.mem_range.1 hk
    have hne : Q.take (k + 1) ≠ [] := by
      intro h0
      have := congrArg List.length h0
      simp at this
      rw [this] at hk; simp at hk
    have := joinP_inj hne hP (fun p hp => (h2 p (List.mem_of_mem_take hp)).plain) h1 e
    rw [← this]
    exact List.take_prefix _ _
  · intro hpre
    have hl : 0 < P.length := List.length_pos_iff.2 hP
    have hle := hpre.length_le
    refine ⟨P.length - 1, List.mem_range.2 (by omega), ?_⟩
    rw [show P.length - 1 + 1 = P.length by omega, ← List.prefix_iff_eq_take.1 hpre]

theorem under_nil_left {l : Bs} : underL [] l = false := by
  unfold underL upsL
  rw [Bool.eq_false_iff, Ne, List.contains_iff_mem, List.mem_map]
  rintro ⟨k, hk, e⟩
  have hk := List.mem_range.1 hk
  rcases partsL_cases l with h | h
  · rw [h] at hk; simp at hk
  · have hall : ∀ p ∈ partsL l, p ≠ [] := by
      intro p hp hn
      subst hn
      unfold partsL at hp
      split at hp
      · cases hp
      · rename_i hno
        exact hno (Or.inr (List.any_eq_true.2 ⟨[], hp, by rw [right_nil]; rfl⟩))
    cases hP : partsL l with
    | nil => rw [hP] at hk; simp at hk
    | cons p ps =>
      rw [hP, List.take_succ_cons, Lib.join_cons] at e
      have := hall p (by rw [hP]; simp)
      exact this (List.append_eq_nil_iff.1 e).1

theorem under_nil_right {a : Bs} : underL a [] = false := rfl

theorem letterB_plain {r : Nat} (h : (letterB r || markB r) = true) : r ≠ 47 ∧ r < 2048 := by
  simp only [letterB, markB, Bool.or_eq_true, Bool.and_eq_true, decide_eq_true_eq, beq_iff_eq] at h
  omega

theorem head_bAt {l : Bs} (h : l ≠ []) : ∃ a t, l = a :: t ∧ bAt l 0 = a.toNat := by
  cases l with
  | nil => exact absurd rfl h
  | cons a t => exact ⟨a, t, rfl, rfl⟩

/-- A name's runes are of one byte or two, and none is a slash. -/
theorem okL_step_plain {b : Bool} {l : Bs} (h : l ≠ []) (hr : (letterB (runeL l) || (!b && markB (runeL l))) = true) : (47 : UInt8) ∉ l.take (wideL l) := by
  have hlm := letterB_plain (r := runeL l) (by cases b <;> simp_all)
  obtain ⟨hne, hlt⟩ := hlm
  unfold wideL runeL decL at *
  obtain ⟨a, t, rfl, ha⟩ := head_bAt h
  split
  · rename_i h0
    rw [if_pos h0] at hne
    simp only at hne
    intro hm
    simp at hm
    subst hm
    exact hne (by rw [ha]; rfl)
  · rename_i h0
    rw [if_neg h0] at hne hlt
    split
    · rename_i h1
      rw [if_pos h1] at hne hlt
      simp only [Bool.and_eq_true, beq_iff_eq] at h1
      split
      · rename_i h2
        rw [if_pos h2] at hne hlt
        have hc := contB_lt h1.2
        cases t with
        | nil => simp at hc
        | cons c t =>
          intro hm
          simp at hm
          have hcc : c.toNat / 64 = 2 := by
            have := h1.2
            simp only [contB, Bool.and_eq_true, beq_iff_eq] at this
            exact this.2
          rcases hm with rfl | rfl
          · rw [ha] at h0; exact h0 (by decide)
          · revert hcc; decide
      · rename_i h2
        rw [if_neg h2] at hlt
        simp only at hlt; omega
    · rename_i h1
      rw [if_neg h1] at hlt
      split
      · rename_i h3
        rw [if_pos h3] at hlt
        split
        · rename_i h4
          rw [if_pos h4] at hlt
          simp only [Bool.and_eq_true, decide_eq_true_eq] at h4
          simp only at hlt; omega
        · rename_i h4
          rw [if_neg h4] at hlt
          simp only at hlt; omega
      · rename_i h3
        rw [if_neg h3] at hlt
        split
        · rename_i h5
          rw [if_pos h5] at hlt
          split
          · rename_i h6
            rw [if_pos h6] at hlt
            simp only [Bool.and_eq_true, decide_eq_true_eq] at h6
            simp only at hlt; omega
          · rename_i h6
            rw [if_neg h6] at hlt
            simp only at hlt; omega
        · rename_i h5
          rw [if_neg h5] at hlt
          simp only at hlt; omega

theorem okL_plain : ∀ (n : Nat) (b : Bool) (l : Bs), l.length ≤ n → okL b l = true → (47 : UInt8) ∉ l := by
  intro n
  induction n with
  | zero =>
    intro b l hl _
    have : l = [] := List.length_eq_zero_iff.1 (by omega)
    subst this
    simp
  | succ n ih =>
    intro b l hl hok
    by_cases h : l = []
    · subst h; simp
    · rw [okL_step b h, Bool.and_eq_true] at hok
      have h1 := okL_step_plain h hok.1
      have hw := wideL_pos l
      have h2 := ih false (l.drop (wideL l)) (by rw [List.length_drop]; omega) hok.2
      rw [← List.take_append_drop (wideL l) l, List.mem_append]
      rintro (h' | h')
      · exact h1 h'
      · exact h2 h'

theorem right_plain {l : Bs} (h : rightL l = true) : (47 : UInt8) ∉ l := by
  unfold rightL at h
  simp only [Bool.and_eq_true] at h
  exact okL_plain _ true l (Nat.le_refl _) h.1.1

theorem name_of_right {p : Bs} (h : rightL p = true) : Name p := ⟨h, right_plain h⟩

/-- The names of a path, if it is one. -/
theorem partsL_names {l : Bs} : ∀ p ∈ partsL l, Name p := by
  intro p hp
  unfold partsL at hp
  split at hp
  · cases hp
  · rename_i hno
    refine name_of_right ?_
    cases hr : rightL p with
    | true => rfl
    | false => exact absurd (Or.inr (List.any_eq_true.2 ⟨p, hp, by rw [hr]; rfl⟩)) hno

theorem partsL_join {l : Bs} (h : partsL l ≠ []) : joinP (partsL l) = l := by
  rcases partsL_cases l with h0 | h0
  · exact absurd h0 h
  · rw [h0]; exact join_splitL l

theorem right_parts {l : Bs} (h : rightL l = true) : partsL l = [l] := by
  have hs := splitL_none (right_plain h)
  rw [partsL_some (by rw [hs]; simp) (by rw [hs]; simpa using h), hs]

/-- A name is a path of one. -/
theorem right_one (l : Bs) : rightL l = decide ((partsL l).length = 1) := by
  cases hr : rightL l with
  | true => rw [right_parts hr]; rfl
  | false =>
    symm
    rw [decide_eq_false_iff_not]
    intro h1
    have hne : partsL l ≠ [] := by intro h0; rw [h0] at h1; cases h1
    have hj := partsL_join hne
    match hP : partsL l, h1 with
    | [p], _ =>
      rw [hP, joinP_one] at hj
      subst hj
      have := (partsL_names (l := p) p (by rw [hP]; simp)).right
      rw [hr] at this
      cases this

theorem under_self {l : Bs} (h : partsL l ≠ []) : underL l l = true := by
  have hj := partsL_join h
  have := (under_iff h (fun p hp => (partsL_names p hp).plain) (partsL_three l) (fun p hp => partsL_names p hp)).2 (List.prefix_refl (partsL l))
  rwa [hj] at this

theorem under_none {a l : Bs} (h : partsL l = []) : underL a l = false := by
  unfold underL upsL
  rw [h]
  rfl

end Go.Dm
