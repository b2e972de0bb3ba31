/- Texts one behind the other: Chapter 2, the document's answer in plain terms: how long the first rune is, and what it is. No program in sight. -/
import Derived.Test.YthmhalcloogniaaGreatDoorB21
namespace Go.Dm
open Go Go.RowKit

/-- How many bytes the first rune has; none, if none is one. -/
def longL (l : Bs) : Nat := if l.isEmpty then 0 else if bAt l 0 < 128 then 1 else if wideL l = 1 then 0 else wideL l

theorem contB_iff {l : Bs} {k : Nat} : contB l k = true ↔ k < l.length ∧ 128 ≤ bAt l k ∧ bAt l k ≤ 191 := by
  unfold contB
  rw [Bool.and_eq_true, decide_eq_true_eq, beq_iff_eq]
  constructor
  · rintro ⟨h1, h2⟩; omega
  · rintro ⟨h1, h2⟩; omega

/-- What the walk meets: a rune of n bytes whose second one lies so. -/
def longC (n low high : Nat) (l : Bs) : Prop := n ≤ l.length ∧ low ≤ bAt l 1 ∧ bAt l 1 ≤ high ∧ ∀ j, 2 ≤ j → j < n → 128 ≤ bAt l j ∧ bAt l j ≤ 191

theorem contB_no {l : Bs} {k : Nat} (h : ¬ (k < l.length ∧ 128 ≤ bAt l k ∧ bAt l k ≤ 191)) : contB l k = false := by
  rw [Bool.eq_false_iff, Ne, contB_iff]; exact h

theorem long_head {l : Bs} (h : 0 < l.length) (h1 : bAt l 0 < 128) : longL l = 1 := by
  have : l.isEmpty = false := by cases l <;> simp_all
  simp [longL, this, h1]

theorem longL_wide {l : Bs} (h : 0 < l.length) (h1 : ¬ bAt l 0 < 128) : longL l = if wideL l = 1 then 0 else wideL l := by
  have : l.isEmpty = false := by cases l <;> simp_all
  simp [longL, this, h1]

theorem wide_bad {l : Bs} (h1 : ¬ bAt l 0 < 128) (h2 : bAt l 0 < 194 ∨ 244 < bAt l 0) : wideL l = 1 := by
  have hb := bAt_lt l 0
  unfold wideL decL
  rw [if_neg h1]
  split
  · rename_i h
    simp only [Bool.and_eq_true, beq_iff_eq] at h
    split
    · have hb1 := (contB_iff.1 h.2).2
      simp only; omega
    · rfl
  · split
    · rename_i h
      simp only [Bool.and_eq_true, beq_iff_eq] at h
      omega
    · split
      · rename_i h
        simp only [Bool.and_eq_true, beq_iff_eq] at h
        split
        · rename_i hv
          simp only [Bool.and_eq_true, decide_eq_true_eq, Utf8.valid, Bool.or_eq_true] at hv
          simp only; omega
        · rfl
      · rfl

theorem wide_2 {l : Bs} (h : 194 ≤ bAt l 0 ∧ bAt l 0 ≤ 223) : wideL l = if contB l 1 = true then 2 else 1 := by
  unfold wideL decL
  rw [if_neg (by omega)]
  cases hc : contB l 1 with
  | true =>
    have h6 : (bAt l 0 / 32 == 6) = true := by rw [beq_iff_eq]; omega
    rw [h6, Bool.true_and, if_pos rfl, if_pos (by omega), if_pos rfl]
  | false =>
    have e1 : (bAt l 0 / 16 == 14) = false := by rw [beq_eq_false_iff_ne]; omega
    have e2 : (bAt l 0 / 8 == 30) = false := by rw [beq_eq_false_iff_ne]; omega
    simp [e1, e2]

theorem wide_3 {l : Bs} (h : 224 ≤ bAt l 0 ∧ bAt l 0 ≤ 239) : wideL l = if (contB l 1 && contB l 2) = true ∧ (bAt l 0 = 224 → 160 ≤ bAt l 1) ∧ (bAt l 0 = 237 → bAt l 1 ≤ 159) then 3 else 1 := by
  unfold wideL decL
  have e0 : (bAt l 0 / 32 == 6) = false := by rw [beq_eq_false_iff_ne]; omega
  have e1 : (bAt l 0 / 16 == 14) = true := by rw [beq_iff_eq]; omega
  have e2 : (bAt l 0 / 8 == 30) = false := by rw [beq_eq_false_iff_ne]; omega
  rw [if_neg (by omega), e0, e1, e2]
  simp only [Bool.false_and, Bool.true_and, Bool.false_eq_true, if_false]
  cases hc : (contB l 1 && contB l 2) with
  | false => simp
  | true =>
    rw [Bool.and_eq_true, contB_iff, contB_iff] at hc
    simp only [if_true, true_and]
    split
    · rename_i hv
      simp only [Bool.and_eq_true, decide_eq_true_eq, Utf8.valid, Bool.or_eq_true] at hv
      rw [if_pos (by omega)]
    · rename_i hv
      simp only [Bool.and_eq_true, decide_eq_true_eq, Utf8.valid, Bool.or_eq_true] at hv
      rw [if_neg (by omega)]

theorem wide_4 {l : Bs} (h : 240 ≤ bAt l 0 ∧ bAt l 0 ≤ 244) : wideL l = if (contB l 1 && contB l 2 && contB l 3) = true ∧ (bAt l 0 = 240 → 144 ≤ bAt l 1) ∧ (bAt l 0 = 244 → bAt l 1 ≤ 143) then 4 else 1 := by
  unfold wideL decL
  have e0 : (bAt l 0 / 32 == 6) = false := by rw [beq_eq_false_iff_ne]; omega
  have e1 : (bAt l 0 / 16 == 14) = false := by rw [beq_eq_false_iff_ne]; omega
  have e2 : (bAt l 0 / 8 == 30) = true := by rw [beq_iff_eq]; omega
  rw [if_neg (by omega), e0, e1, e2]
  simp only [Bool.false_and, Bool.true_and, Bool.false_eq_true, if_false]
  cases hc : (contB l 1 && contB l 2 && contB l 3) with
  | false => simp
  | true =>
    rw [Bool.and_eq_true, Bool.and_eq_true, contB_iff, contB_iff, contB_iff] at hc
    simp only [if_true, true_and]
    split
    · rename_i hv
      simp only [Bool.and_eq_true, decide_eq_true_eq, Utf8.valid, Bool.or_eq_true] at hv
      rw [if_pos (by omega)]
    · rename_i hv
      simp only [Bool.and_eq_true, decide_eq_true_eq, Utf8.valid, Bool.or_eq_true] at hv
      rw [if_neg (by omega)]

/-- What the second byte must be, by the first. -/
def lowOf (a : Nat) : Nat := if a = 224 then 160 else if a = 240 then 144 else 128
def highOf (a : Nat) : Nat := if a = 237 then 159 else if a = 244 then 143 else 191
def sizeOf' (a : Nat) : Nat := if 240 ≤ a then 4 else if 224 ≤ a then 3 else 2

theorem long_bad {l : Bs} (h : 0 < l.length) (h1 : ¬ bAt l 0 < 128) (h2 : bAt l 0 < 194 ∨ 244 < bAt l 0) : longL l = 0 := by
  rw [longL_wide h h1, wide_bad h1 h2, if_pos rfl]

theorem long_yes {l : Bs} (h : 0 < l.length) (h1 : 194 ≤ bAt l 0) (h2 : bAt l 0 ≤ 244) (hc : longC (sizeOf' (bAt l 0)) (lowOf (bAt l 0)) (highOf (bAt l 0)) l) : longL l = sizeOf' (bAt l 0) := by
  obtain ⟨g1, g2, g3, g4⟩ := hc
  rw [longL_wide h (by omega)]
  unfold sizeOf' lowOf highOf at *
  by_cases c4 : 240 ≤ bAt l 0
  · rw [if_pos c4] at g1 g4 ⊢
    have hlo : 128 ≤ bAt l 1 ∧ (bAt l 0 = 240 → 144 ≤ bAt l 1) := by
      rw [if_neg (by omega)] at g2; split at g2 <;> omega
    have hhi : bAt l 1 ≤ 191 ∧ (bAt l 0 = 244 → bAt l 1 ≤ 143) := by
      rw [if_neg (by omega)] at g3; split at g3 <;> omega
    have h2' := g4 2 (by omega) (by omega)
    have h3' := g4 3 (by omega) (by omega)
    have hw4 : wideL l = 4 := by
      rw [wide_4 (by omega)]
      refine if_pos ⟨?_, hlo.2, hhi.2⟩
      rw [Bool.and_eq_true, Bool.and_eq_true, contB_iff, contB_iff, contB_iff]
      exact ⟨⟨⟨by omega, hlo.1, hhi.1⟩, by omega, h2'⟩, by omega, h3'⟩
    rw [hw4]
    rfl
  · rw [if_neg c4] at g1 g4 ⊢
    by_cases c3 : 224 ≤ bAt l 0
    · rw [if_pos c3] at g1 g4 ⊢
      have hlo : 128 ≤ bAt l 1 ∧ (bAt l 0 = 224 → 160 ≤ bAt l 1) := by
        split at g2
        · omega
        · rw [if_neg (by omega)] at g2; omega
      have hhi : bAt l 1 ≤ 191 ∧ (bAt l 0 = 237 → bAt l 1 ≤ 159) := by
        split at g3
        · omega
        · rw [if_neg (by omega)] at g3; omega
      have h2' := g4 2 (by omega) (by omega)
      have hw3 : wideL l = 3 := by
        rw [wide_3 (by omega)]
        refine if_pos ⟨?_, hlo.2, hhi.2⟩
        rw [Bool.and_eq_true, contB_iff, contB_iff]
        exact ⟨⟨by omega, hlo.1, hhi.1⟩, by omega, h2'⟩
      rw [hw3]
      rfl
    · rw [if_neg c3] at g1 ⊢
      rw [if_neg (by omega), if_neg (by omega)] at g2 g3
      rw [wide_2 (by omega), if_pos (contB_iff.2 ⟨by omega, by omega, by omega⟩)]
      rfl

theorem long_no {l : Bs} (h : 0 < l.length) (h1 : 194 ≤ bAt l 0) (h2 : bAt l 0 ≤ 244) (hc : ¬ longC (sizeOf' (bAt l 0)) (lowOf (bAt l 0)) (highOf (bAt l 0)) l) : longL l = 0 := by
  rw [longL_wide h (by omega), if_pos]
  unfold sizeOf' lowOf highOf at hc
  by_cases c4 : 240 ≤ bAt l 0
  · rw [wide_4 (by omega), if_neg]
    intro hw
    rw [Bool.and_eq_true, Bool.and_eq_true, contB_iff, contB_iff, contB_iff] at hw
    apply hc
    rw [if_pos c4, if_neg (c := bAt l 0 = 224) (by omega), if_neg (c := bAt l 0 = 237) (by omega)]
    refine ⟨by omega, ?_, ?_, ?_⟩
    · split <;> omega
    · split <;> omega
    · intro j hj1 hj2
      obtain rfl | rfl : j = 2 ∨ j = 3 := by omega
      · omega
      · omega
  · by_cases c3 : 224 ≤ bAt l 0
    · rw [wide_3 (by omega), if_neg]
      intro hw
      rw [Bool.and_eq_true, contB_iff, contB_iff] at hw
      apply hc
      rw [if_neg c4, if_pos c3, if_neg (c := bAt l 0 = 240) (by omega), if_neg (c := bAt l 0 = 244) (by omega)]
      refine ⟨by omega, ?_, ?_, ?_⟩
      · split <;> omega
      · split <;> omega
      · intro j hj1 hj2
        obtain rfl : j = 2 := by omega
        omega
    · rw [wide_2 (by omega), if_neg]
      intro hw
      rw [contB_iff] at hw
      apply hc
      rw [if_neg c4, if_neg c3, if_neg (c := bAt l 0 = 224) (by omega), if_neg (c := bAt l 0 = 240) (by omega), if_neg (c := bAt l 0 = 237) (by omega), if_neg (c := bAt l 0 = 244) (by omega)]
      exact ⟨by omega, by omega, by omega, fun j _ _ => by omega⟩

theorem longL_nil : longL [] = 0 := rfl

theorem long_max {l : Bs} (h : l ≠ []) : max (longL l) 1 = wideL l := by
  have h0 : 0 < l.length := List.length_pos_iff.2 h
  have hw := wideL_pos l
  by_cases h1 : bAt l 0 < 128
  · rw [long_head h0 h1]
    unfold wideL decL
    rw [if_pos h1]
    rfl
  · rw [longL_wide h0 h1]
    split <;> omega

theorem long_le (l : Bs) : longL l ≤ l.length := by
  by_cases h : l = []
  · subst h; simp [longL]
  · have := long_max h
    have := wideL_le h
    omega

/-- Where none is a rune none is a letter, nor a mark. -/
theorem long_zero {l : Bs} (h : l ≠ []) (h0 : longL l = 0) : letterB (runeL l) = false ∧ markB (runeL l) = false := by
  have hl : 0 < l.length := List.length_pos_iff.2 h
  have h1 : ¬ bAt l 0 < 128 := by intro h1; rw [long_head hl h1] at h0; cases h0
  have hw : wideL l = 1 := by have := long_max h; omega
  have hr : runeL l = 65533 := by
    unfold wideL runeL decL at *
    rw [if_neg h1] at hw ⊢
    split at hw
    · split at hw
      · simp at hw
      · rename_i h2 h3; rw [if_pos h2, if_neg h3]
    · rename_i h2
      rw [if_neg h2]
      split at hw
      · split at hw
        · simp at hw
        · rename_i h3 h4; rw [if_pos h3, if_neg h4]
      · rename_i h3
        rw [if_neg h3]
        split at hw
        · split at hw
          · simp at hw
          · rename_i h4 h5; rw [if_pos h4, if_neg h5]
        · rename_i h4; rw [if_neg h4]
  rw [hr]
  exact ⟨by decide, by decide⟩

theorem long_wide {l : Bs} (h : longL l ≠ 0) : wideL l = longL l := by
  have hne : l ≠ [] := by intro e; subst e; exact h rfl
  have := long_max hne
  omega

/-- What a rune is, by its bytes. -/
theorem rune_1 {l : Bs} (h : longL l = 1) : runeL l = bAt l 0 ∧ bAt l 0 < 128 := by
  have hne : l ≠ [] := by intro e; subst e; cases h
  have hl : 0 < l.length := List.length_pos_iff.2 hne
  have h1 : bAt l 0 < 128 := by
    apply Decidable.byContradiction
    intro h1
    rw [longL_wide hl h1] at h
    split at h
    · cases h
    · contradiction
  refine ⟨?_, h1⟩
  unfold runeL decL
  rw [if_pos h1]

theorem long_not_small {l : Bs} (h : 2 ≤ longL l) : 194 ≤ bAt l 0 ∧ bAt l 0 ≤ 244 ∧ longL l = sizeOf' (bAt l 0) ∧ longC (sizeOf' (bAt l 0)) (lowOf (bAt l 0)) (highOf (bAt l 0)) l := by
  have hne : l ≠ [] := by intro e; subst e; simp [longL] at h
  have hl : 0 < l.length := List.length_pos_iff.2 hne
  have h1 : ¬ bAt l 0 < 128 := by intro h1; rw [long_head hl h1] at h; omega
  have h2 : ¬ (bAt l 0 < 194 ∨ 244 < bAt l 0) := by intro h2; rw [long_bad hl h1 h2] at h; omega
  by_cases hc : longC (sizeOf' (bAt l 0)) (lowOf (bAt l 0)) (highOf (bAt l 0)) l
  · exact ⟨by omega, by omega, long_yes hl (by omega) (by omega) hc, hc⟩
  · rw [long_no hl (by omega) (by omega) hc] at h; omega

theorem rune_2 {l : Bs} (h : longL l = 2) : runeL l = bAt l 0 % 32 * 64 + bAt l 1 % 64 := by
  obtain ⟨h1, h2, h3, g1, g2, g3, _⟩ := long_not_small (l := l) (by omega)
  rw [h3] at h
  have hlt : bAt l 0 < 224 := by
    unfold sizeOf' at h
    split at h
    · cases h
    · split at h
      · cases h
      · omega
  unfold lowOf at g2
  unfold highOf at g3
  rw [if_neg (by omega), if_neg (by omega)] at g2 g3
  rw [h] at g1
  have hc : contB l 1 = true := contB_iff.2 ⟨by omega, g2, g3⟩
  have h6 : (bAt l 0 / 32 == 6) = true := by rw [beq_iff_eq]; omega
  unfold runeL decL
  rw [if_neg (by omega), h6, hc, Bool.and_self, if_pos rfl, if_pos (by omega)]

theorem rune_3 {l : Bs} (h : 3 ≤ longL l) : 2048 ≤ runeL l := by
  have hw := long_wide (l := l) (by omega)
  rw [← hw] at h
  unfold wideL at h
  unfold runeL
  generalize hd : decL l = d at *
  unfold decL at hd
  split at hd
  · subst hd; simp at h
  · split at hd
    · split at hd <;> (subst hd; simp at h)
    · split at hd
      · split at hd
        · rename_i hv
          simp only [Bool.and_eq_true, decide_eq_true_eq] at hv
          subst hd; exact hv.1
        · subst hd; simp at h
      · split at hd
        · split at hd
          · rename_i hv
            simp only [Bool.and_eq_true, decide_eq_true_eq] at hv
            subst hd; simp only; omega
          · subst hd; simp at h
        · subst hd; simp at h

/-- Is a rune, by its bytes, one that a name may begin with? -/
def letterR (r : Bs) : Bool := if r.length = 1 then decide (97 ≤ bAt r 0) && decide (bAt r 0 ≤ 122) else if r.length = 2 then
  (decide (945 ≤ bAt r 0 % 32 * 64 + bAt r 1 % 64) && decide (bAt r 0 % 32 * 64 + bAt r 1 % 64 ≤ 969)) || (decide (1072 ≤ bAt r 0 % 32 * 64 + bAt r 1 % 64) && decide (bAt r 0 % 32 * 64 + bAt r 1 % 64 ≤ 1103)) else false

theorem bAt_take (l : Bs) {n k : Nat} (h : k < n) : bAt (l.take n) k = bAt l k := by
  simp [bAt, List.getD_eq_getElem?_getD, h]

theorem letter_take {l : Bs} (h : longL l ≠ 0) : letterR (l.take (longL l)) = letterB (runeL l) := by
  have hle := long_le l
  have hlen : (l.take (longL l)).length = longL l := by rw [List.length_take]; omega
  unfold letterR
  rw [hlen]
  by_cases h1 : longL l = 1
  · rw [if_pos h1, bAt_take l (by omega), (rune_1 h1).1]
    have := (rune_1 h1).2
    unfold letterB
    have e1 : decide (945 ≤ bAt l 0) = false := by rw [decide_eq_false_iff_not]; omega
    have e2 : decide (1072 ≤ bAt l 0) = false := by rw [decide_eq_false_iff_not]; omega
    simp [e1, e2]
  · rw [if_neg h1]
    by_cases h2 : longL l = 2
    · rw [if_pos h2, bAt_take l (by omega), bAt_take l (by omega), ← rune_2 h2]
      have : 128 ≤ runeL l := by
        have := rune_2 h2
        have := (long_not_small (l := l) (by omega)).1
        have h3 := (long_not_small (l := l) (by omega)).2.1
        have h4 := (long_not_small (l := l) (by omega)).2.2.1
        rw [h2] at h4
        unfold sizeOf' at h4
        split at h4
        · cases h4
        · split at h4
          · cases h4
          · omega
      unfold letterB
      have e1 : decide (runeL l ≤ 122) = false := by rw [decide_eq_false_iff_not]; omega
      simp [e1]
    · rw [if_neg h2]
      have := rune_3 (l := l) (by omega)
      unfold letterB
      have e1 : decide (runeL l ≤ 122) = false := by rw [decide_eq_false_iff_not]; omega
      have e2 : decide (runeL l ≤ 969) = false := by rw [decide_eq_false_iff_not]; omega
      have e3 : decide (runeL l ≤ 1103) = false := by rw [decide_eq_false_iff_not]; omega
      simp [e1, e2, e3]

/-- Is it a digit or a dash? -/
def markR (r : Bs) (n : Nat) : Bool := (r == [45]) || (n == 1 && (decide (48 ≤ bAt r 0) && decide (bAt r 0 ≤ 57)))

theorem mark_take {l : Bs} (h : longL l ≠ 0) : markR (l.take (longL l)) (longL l) = markB (runeL l) := by
  have hle := long_le l
  have hlen : (l.take (longL l)).length = longL l := by rw [List.length_take]; omega
  unfold markR markB
  by_cases h1 : longL l = 1
  · have hb : (l.take (longL l) == [45]) = (runeL l == 45) := by
      rw [Bool.eq_iff_iff, beq_iff_eq, beq_iff_eq, h1, (rune_1 h1).1]
      cases l with
      | nil => simp [longL] at h1
      | cons a t =>
        show [a] = [45] ↔ a.toNat = 45
        constructor
        · intro h; injection h with h; rw [h]; rfl
        · intro h; rw [show a = 45 from UInt8.toNat_inj.1 h]
    rw [hb, h1, bAt_take l (by omega), (rune_1 h1).1]
    simp only [beq_self_eq_true, Bool.true_and]
    rw [Bool.or_comm]
  · have hb : (l.take (longL l) == [45]) = false := by
      rw [beq_eq_false_iff_ne]
      intro h
      rw [h] at hlen
      simp at hlen; omega
    have hn : (longL l == 1) = false := by rw [beq_eq_false_iff_ne]; exact h1
    have hr : 128 ≤ runeL l := by
      by_cases h2 : longL l = 2
      · have := rune_2 h2
        have := (long_not_small (l := l) (by omega)).1
        have h3 := (long_not_small (l := l) (by omega)).2.1
        have h4 := (long_not_small (l := l) (by omega)).2.2.1
        rw [h2] at h4
        unfold sizeOf' at h4
        split at h4
        · cases h4
        · split at h4
          · cases h4
          · omega
      · have := rune_3 (l := l) (by omega); omega
    have e1 : decide (runeL l ≤ 57) = false := by rw [decide_eq_false_iff_not]; omega
    have e2 : (runeL l == 45) = false := by rw [beq_eq_false_iff_ne]; omega
    rw [hb, hn, e1, e2]
    simp

end Go.Dm
