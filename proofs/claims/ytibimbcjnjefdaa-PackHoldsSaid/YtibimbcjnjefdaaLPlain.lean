/- Chapter 2 in plain terms: a byte that may not stand in a name. No program in sight. -/
import Derived.Test.YtibimbcjnjefdaaLWalkD
namespace Go.Dm
open Go Go.RowKit

/-- A byte that stands in no name. -/
def NoName (c : UInt8) : Prop := (letterB c.toNat || markB c.toNat) = false ∧ c.toNat < 128

theorem okL_step_no {c : UInt8} (hc : NoName c) {b : Bool} {l : Bs} (h : l ≠ []) (hr : (letterB (runeL l) || (!b && markB (runeL l))) = true) : c ∉ l.take (wideL l) := by
  have hlm : (letterB (runeL l) || markB (runeL l)) = true := by cases b <;> simp_all
  obtain ⟨hne, hlt⟩ := letterB_plain hlm
  obtain ⟨hc1, hc2⟩ := hc
  unfold wideL runeL decL at *
  obtain ⟨a, t, rfl, ha⟩ := head_bAt h
  split
  · rename_i h0
    rw [if_pos h0] at hlm
    simp only at hlm
    intro hm
    simp at hm
    subst hm
    rw [ha] at hlm
    rw [hlm] at hc1
    cases hc1
  · rename_i h0
    rw [if_neg h0] at hne hlt
    split
    · rename_i h1
      rw [if_pos h1] at hne hlt
      simp only [Bool.and_eq_true, beq_iff_eq] at h1
      split
      · rename_i h2
        rw [if_pos h2] at hne hlt
        have hcb := contB_lt h1.2
        cases t with
        | nil => simp at hcb
        | cons d t =>
          intro hm
          simp at hm
          have hcc : d.toNat / 64 = 2 := by
            have := h1.2
            simp only [contB, Bool.and_eq_true, beq_iff_eq] at this
            exact this.2
          rcases hm with rfl | rfl
          · rw [ha] at h0; exact h0 (by first | exact decide_eq_true hc2 | exact hc2)
          · omega
      · rename_i h2
        rw [if_neg h2] at hlt
        simp only at hlt; omega
    · rename_i h1
      rw [if_neg h1] at hlt
      split
      · rename_i h3
        rw [if_pos h3] at hlt
        split
        · rename_i h4
          rw [if_pos h4] at hlt
          simp only [Bool.and_eq_true, decide_eq_true_eq] at h4
          simp only at hlt; omega
        · rename_i h4
          rw [if_neg h4] at hlt
          simp only at hlt; omega
      · rename_i h3
        rw [if_neg h3] at hlt
        split
        · rename_i h5
          rw [if_pos h5] at hlt
          split
          · rename_i h6
            rw [if_pos h6] at hlt
            simp only [Bool.and_eq_true, decide_eq_true_eq] at h6
            simp only at hlt; omega
          · rename_i h6
            rw [if_neg h6] at hlt
            simp only at hlt; omega
        · rename_i h5
          rw [if_neg h5] at hlt
          simp only at hlt; omega

theorem okL_no {c : UInt8} (hc : NoName c) : ∀ (n : Nat) (b : Bool) (l : Bs), l.length ≤ n → okL b l = true → c ∉ l := by
  intro n
  induction n with
  | zero =>
    intro b l hl _
    have : l = [] := List.length_eq_zero_iff.1 (by omega)
    subst this
    simp
  | succ n ih =>
    intro b l hl hok
    by_cases h : l = []
    · subst h; simp
    · rw [okL_step b h, Bool.and_eq_true] at hok
      have h1 := okL_step_no hc h hok.1
      have hw := wideL_pos l
      have h2 := ih false (l.drop (wideL l)) (by rw [List.length_drop]; omega) hok.2
      rw [← List.take_append_drop (wideL l) l, List.mem_append]
      rintro (h' | h')
      · exact h1 h'
      · exact h2 h'

theorem right_no {c : UInt8} (hc : NoName c) {l : Bs} (h : rightL l = true) : c ∉ l := by
  unfold rightL at h
  simp only [Bool.and_eq_true] at h
  exact okL_no hc _ true l (Nat.le_refl _) h.1.1
theorem no_comma {l : Bs} (h : rightL l = true) : (44 : UInt8) ∉ l := right_no ⟨by decide, by decide⟩ h
theorem no_is {l : Bs} (h : rightL l = true) : (61 : UInt8) ∉ l := right_no ⟨by decide, by decide⟩ h
theorem no_not {l : Bs} (h : rightL l = true) : (33 : UInt8) ∉ l := right_no ⟨by decide, by decide⟩ h
theorem no_bar {l : Bs} (h : rightL l = true) : (124 : UInt8) ∉ l := right_no ⟨by decide, by decide⟩ h

/-- Right labels are of names. -/
theorem rightLab_names {L : List PairL} (h : rightLab L = true) : ∀ p ∈ L, rightL p.1 = true ∧ rightL p.2 = true := by
  intro p hp
  obtain ⟨k, hk, rfl⟩ := List.getElem_of_mem hp
  have := (rightLab_iff.1 h).2 k hk
  have he : plAt L k = L[k] := by simp [plAt, hk]
  unfold okLab at this
  rw [he, Bool.and_eq_true, Bool.and_eq_true] at this
  exact ⟨this.1, this.2.1⟩
theorem read_show {p : PairL} (h : (61 : UInt8) ∉ p.1) : readP (showP p) = p := by
  unfold readP showP
  rw [cutC_at h]
theorem textLab_one {L : List PairL} (hr : rightLab L = true) (h : L ≠ []) : textLab L = Lib.join (L.map showP) [44] := by
  unfold textLab
  rw [if_pos hr, if_neg h]
theorem textLab_nil : textLab [] = [45] := rfl
theorem parsed_text {L : List PairL} (hr : rightLab L = true) (h : L ≠ []) : parsedLab (textLab L) = L := by
  have hn := rightLab_names hr
  unfold parsedLab
  rw [textLab_one hr h, splitC_join (by simpa using h) (fun p hp => ?_), List.map_map]
  · conv => rhs; rw [← List.map_id L]
    refine List.map_congr_left fun p hp => ?_
    exact read_show (no_is (hn p hp).1)
  · obtain ⟨q, hq, rfl⟩ := List.mem_map.1 hp
    have := hn q hq
    unfold showP
    rw [List.mem_append, List.mem_cons]
    rintro (h1 | h1 | h1)
    · exact no_comma this.1 h1
    · exact absurd h1 (by decide)
    · exact no_comma this.2 h1
/-- What is shown is parsed. -/
theorem parse_text {L : List PairL} (hr : rightLab L = true) : parseLab (textLab L) = (L, true) := by
  by_cases h : L = []
  · subst h; rfl
  · have hne : textLab L ≠ [45] := by
      rw [textLab_one hr h]
      cases L with
      | nil => exact absurd rfl h
      | cons p L =>
        intro e
        have hm : (61 : UInt8) ∈ Lib.join ((p :: L).map showP) [44] := by
          rw [List.map_cons, Lib.join_cons]
          simp [showP]
        rw [e] at hm
        simp at hm
    have hp := parsed_text hr h
    rw [parseLab_good hne (by rw [hp]; exact hr), hp]
theorem text_inj {L M : List PairL} (hL : rightLab L = true) (hM : rightLab M = true) (h : textLab L = textLab M) : L = M := by
  have h1 := parse_text hL
  rw [h, parse_text hM] at h1
  exact ((Prod.mk.inj h1).1).symm

theorem join_len {c : UInt8} {n : Nat} : ∀ {xs : List Bs}, (∀ x ∈ xs, x.length ≤ n) → (Lib.join xs [c]).length ≤ (n + 1) * xs.length
  | [], _ => by simp [Lib.join]
  | [p], h => by
    have := h p (by simp)
    rw [Lib.join_one]; simp only [List.length_cons, List.length_nil]; omega
  | p :: q :: ns, h => by
    have : Lib.join (p :: q :: ns) [c] = p ++ c :: Lib.join (q :: ns) [c] := by simp [Lib.join_cons, Lib.joinTail]
    have h1 := h p (by simp)
    have ih := join_len (c := c) (xs := q :: ns) (fun x hx => h x (List.mem_cons_of_mem _ hx))
    rw [this, List.length_append, List.length_cons, List.length_cons, Nat.mul_add]; omega
theorem textLab_short {L : List PairL} (hr : rightLab L = true) : (textLab L).length ≤ 1000 := by
  by_cases h : L = []
  · subst h; decide
  · have h8 := (rightLab_iff.1 hr).1
    rw [textLab_one hr h]
    have := join_len (c := 44) (n := 65) (xs := L.map showP) (fun x hx => by
      obtain ⟨p, hp, rfl⟩ := List.mem_map.1 hx
      have h2 := rightLab_names hr p hp
      have h3 := right_len h2.1
      have h4 := right_len h2.2
      simp only [showP, List.length_append, List.length_cons]; omega)
    rw [List.length_map] at this
    omega

/-- A pair that shows as a piece that is no pair's is not right: the piece's bytes are those of the pair. -/
theorem show_read {x : Bs} (h : rightL (readP x).2 = true) : showP (readP x) = x := by
  unfold showP readP at *
  rcases cut_atC 61 x with h1 | ⟨p, r, h1, rfl⟩
  · rw [cutC_none h1] at h
    rw [right_nil] at h; cases h
  · rw [cutC_at h1]
/-- What is parsed shows as it was. -/
theorem text_parse {t : Bs} {L : List PairL} (h : parseLab t = (L, true)) : rightLab L = true ∧ textLab L = t := by
  by_cases h45 : t = [45]
  · subst h45
    obtain rfl := (Prod.mk.inj h).1
    exact ⟨rfl, rfl⟩
  · cases hr : rightLab (parsedLab t) with
    | false => rw [parseLab_bad h45 hr] at h; cases (Prod.mk.inj h).2
    | true =>
      rw [parseLab_good h45 hr] at h
      obtain rfl := (Prod.mk.inj h).1
      refine ⟨hr, ?_⟩
      have hn := rightLab_names hr
      have hne : parsedLab t ≠ [] := by unfold parsedLab; simpa using splitC_ne 44 t
      rw [textLab_one hr hne]
      unfold parsedLab at *
      rw [List.map_map]
      have e : (splitC 44 t).map (showP ∘ readP) = splitC 44 t := by
        conv => rhs; rw [← List.map_id (splitC 44 t)]
        refine List.map_congr_left fun x hx => ?_
        exact show_read (hn _ (List.mem_map_of_mem hx)).2
      rw [e, join_splitC]
theorem parse_no {t : Bs} {L : List PairL} (h : parseLab t = (L, false)) : L = [] := by
  by_cases h45 : t = [45]
  · subst h45; cases h
  · cases hr : rightLab (parsedLab t) with
    | false => rw [parseLab_bad h45 hr] at h; exact ((Prod.mk.inj h).1).symm
    | true => rw [parseLab_good h45 hr] at h; cases h
end Go.Dm
