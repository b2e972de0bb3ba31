/- Chapters 1 and 4 in plain terms: what is got is what was put. No program in sight. -/
import Derived.Test.YtbkemhheombfcaaDoorVWalkG
import Derived.Test.YtbkemhheombfcaaDoorLWalkB
import Derived.Test.YtbkemhheombfcaaDoorLWalkC
namespace Go.Dm
open Go Go.RowKit

/-- l begins with a. -/
def Begins (a l : Bs) : Prop := ∃ t, a ++ t = l

theorem begins_take {a l : Bs} : Begins a l ↔ a = l.take a.length ∧ a.length ≤ l.length := by
  constructor
  · rintro ⟨t, rfl⟩
    exact ⟨by rw [List.take_left], by rw [List.length_append]; omega⟩
  · rintro ⟨h1, h2⟩
    exact ⟨l.drop a.length, by conv => lhs; lhs; rw [h1]
                               exact List.take_append_drop _ _⟩

theorem begins_app {a b l : Bs} : Begins (a ++ b) l ↔ Begins a l ∧ Begins b (l.drop a.length) := by
  constructor
  · rintro ⟨t, rfl⟩
    exact ⟨⟨b ++ t, by simp⟩, ⟨t, by simp⟩⟩
  · rintro ⟨⟨t, rfl⟩, ⟨u, h⟩⟩
    rw [List.drop_left] at h
    exact ⟨u, by simp [h]⟩
theorem begins_nil (l : Bs) : Begins [] l := ⟨l, rfl⟩
theorem Begins.drop_len {a l : Bs} (h : Begins a l) : l.length = a.length + (l.drop a.length).length := by
  obtain ⟨t, rfl⟩ := h
  simp

theorem getL_begins {l : Bs} {u n : Nat} : getL l = some (u, n) ↔ U64 u ∧ n = (putL u).length ∧ Begins (putL u) l := by
  rw [getL_iff, begins_take]
  constructor
  · rintro ⟨h1, rfl, h3, h4⟩; exact ⟨h1, rfl, h3, h4⟩
  · rintro ⟨h1, rfl, h3, h4⟩; exact ⟨h1, rfl, h3, h4⟩
theorem getText_begins {most : Nat} {l t : Bs} {n : Nat} (hl : U64 l.length) : getTextL most l = some (t, n) ↔ t.length ≤ most ∧ n = (putT t).length ∧ Begins (putT t) l := by
  rw [getTextL_iff hl, begins_take]
  unfold putT
  constructor
  · rintro ⟨h1, rfl, h3, h4⟩; exact ⟨h1, rfl, h3, h4⟩
  · rintro ⟨h1, rfl, h3, h4⟩; exact ⟨h1, rfl, h3, h4⟩
theorem U64.drop {l : Bs} (h : U64 l.length) (k : Nat) : U64 (l.drop k).length := by
  rw [List.length_drop]; exact Nat.lt_of_le_of_lt (Nat.sub_le _ _) h

/-- A label's bytes. -/
def putPair (p : PairL) : Bs := putT p.1 ++ putT p.2
def fitPair (p : PairL) : Prop := p.1.length ≤ 32 ∧ p.2.length ≤ 32
theorem getPair_begins {l : Bs} {p : PairL} {n : Nat} (hl : U64 l.length) : getPairL l = some (p, n) ↔ fitPair p ∧ n = (putPair p).length ∧ Begins (putPair p) l := by
  unfold putPair fitPair
  rw [begins_app, List.length_append]
  constructor
  · intro h
    unfold getPairL at h
    cases h1 : getTextL 32 l with
    | none => rw [h1] at h; cases h
    | some x =>
      obtain ⟨k, i⟩ := x
      rw [h1] at h
      simp only at h
      cases h2 : getTextL 32 (l.drop i) with
      | none => rw [h2] at h; cases h
      | some y =>
        obtain ⟨v, j⟩ := y
        rw [h2] at h
        injection h with h
        injection h with e1 e2
        subst e1 e2
        obtain ⟨a1, rfl, a3⟩ := (getText_begins hl).1 h1
        obtain ⟨b1, rfl, b3⟩ := (getText_begins (hl.drop _)).1 h2
        exact ⟨⟨a1, b1⟩, rfl, a3, b3⟩
  · rintro ⟨⟨a1, b1⟩, rfl, a3, b3⟩
    unfold getPairL
    rw [(getText_begins hl).2 ⟨a1, rfl, a3⟩]
    simp only
    rw [(getText_begins (hl.drop _)).2 ⟨b1, rfl, b3⟩]

theorem putP_pair (L : List PairL) : putP L = L.flatMap putPair := rfl
theorem putP_snoc (L : List PairL) (p : PairL) : putP (L ++ [p]) = putP L ++ putPair p := by simp [putP, putPair]

theorem reads_begins {l : Bs} {q : Nat} (hl : U64 l.length) : ∀ (i : Nat) (L : List PairL) (r : Nat), readsL getPairL l q i = some (L, r) ↔ L.length = i ∧ (∀ p ∈ L, fitPair p) ∧ r = q + (putP L).length ∧ Begins (putP L) (l.drop q)
  | 0, L, r => by
    constructor
    · intro h
      injection h with h
      injection h with h1 h2
      subst h1 h2
      exact ⟨rfl, (fun p hp => by simp at hp), rfl, begins_nil _⟩
    · rintro ⟨h1, _, h3, _⟩
      obtain rfl := List.length_eq_zero_iff.1 h1
      subst h3
      rfl
  | i + 1, L, r => by
    constructor
    · intro h
      rw [readsL] at h
      cases h1 : readsL getPairL l q i with
      | none => rw [h1] at h; cases h
      | some x =>
        obtain ⟨K, k⟩ := x
        rw [h1] at h
        simp only at h
        cases h2 : getPairL (l.drop k) with
        | none => rw [h2] at h; cases h
        | some y =>
          obtain ⟨p, m⟩ := y
          rw [h2] at h
          injection h with h
          injection h with e1 e2
          subst e1 e2
          obtain ⟨a1, a2, rfl, a4⟩ := (reads_begins hl i K k).1 h1
          obtain ⟨b1, rfl, b3⟩ := (getPair_begins (hl.drop _)).1 h2
          refine ⟨by simp [a1], fun x hx => ?_, by rw [putP_snoc, List.length_append]; omega, ?_⟩
          · rcases List.mem_append.1 hx with hx | hx
            · exact a2 x hx
            · rw [List.mem_singleton] at hx; subst hx; exact b1
          · rw [putP_snoc, begins_app, List.drop_drop]
            exact ⟨a4, b3⟩
    · rintro ⟨h1, h2, rfl, h4⟩
      rcases List.eq_nil_or_concat L with rfl | ⟨K, p, rfl⟩
      · simp at h1
      · rw [List.concat_eq_append] at *
        rw [putP_snoc, begins_app, List.drop_drop] at h4
        have hK := (reads_begins hl i K (q + (putP K).length)).2 ⟨by simpa using h1, fun x hx => h2 x (List.mem_append_left _ hx), rfl, h4.1⟩
        have hp := (getPair_begins (hl.drop _)).2 ⟨h2 p (by simp), rfl, h4.2⟩
        rw [readsL, hK]
        simp only [hp]
        rw [putP_snoc, List.length_append]
        simp [Nat.add_assoc]

theorem some_begins {l : Bs} {L : List PairL} {n : Nat} (hl : U64 l.length) : someL getPairL 8 l = some (L, n) ↔ L.length ≤ 8 ∧ (∀ p ∈ L, fitPair p) ∧ n = (putL L.length ++ putP L).length ∧ Begins (putL L.length ++ putP L) l := by
  rw [begins_app, List.length_append]
  constructor
  · intro h
    cases hg : getL l with
    | none => rw [someL_none hg] at h; cases h
    | some x =>
      obtain ⟨u, k⟩ := x
      rw [someL_some hg] at h
      split at h
      · rename_i hu
        obtain ⟨a1, rfl, a3⟩ := getL_begins.1 hg
        obtain ⟨rfl, b2, rfl, b4⟩ := (reads_begins hl _ _ _).1 h
        exact ⟨hu, b2, rfl, a3, b4⟩
      · cases h
  · rintro ⟨h1, h2, rfl, h4, h5⟩
    have hg := getL_begins.2 ⟨show U64 L.length from Nat.lt_of_le_of_lt h1 (by decide), rfl, h4⟩
    rw [someL_some hg, if_pos h1]
    exact (reads_begins hl _ _ _).2 ⟨rfl, h2, rfl, h5⟩

theorem right_fits {L : List PairL} (h : rightLab L = true) : L.length ≤ 8 ∧ ∀ p ∈ L, fitPair p := by
  obtain ⟨h1, h2⟩ := rightLab_iff.1 h
  refine ⟨h1, fun p hp => ?_⟩
  obtain ⟨k, hk, rfl⟩ := List.getElem_of_mem hp
  have := h2 k hk
  have he : plAt L k = L[k] := by simp [plAt, hk]
  unfold okLab at this
  rw [he, Bool.and_eq_true, Bool.and_eq_true] at this
  exact ⟨right_len this.1, right_len this.2.1⟩

/-- What is got is right, and what was put; what was put is got. -/
theorem getLab_begins {l : Bs} {L : List PairL} {n : Nat} (hl : U64 l.length) : getLabL l = some (L, n) ↔ rightLab L = true ∧ n = (putLab L).length ∧ Begins (putLab L) l := by
  constructor
  · intro h
    unfold getLabL at h
    cases hg : someL getPairL 8 l with
    | none => rw [hg] at h; cases h
    | some x =>
      obtain ⟨K, k⟩ := x
      rw [hg] at h
      simp only at h
      split at h
      · rename_i hr
        injection h with h
        injection h with e1 e2
        subst e1 e2
        obtain ⟨_, _, rfl, h4⟩ := (some_begins hl).1 hg
        unfold putLab
        rw [if_pos hr]
        exact ⟨hr, rfl, h4⟩
      · cases h
  · rintro ⟨hr, rfl, h3⟩
    unfold putLab at *
    rw [if_pos hr] at *
    obtain ⟨f1, f2⟩ := right_fits hr
    have hg := (some_begins hl).2 ⟨f1, f2, rfl, h3⟩
    unfold getLabL
    rw [hg]
    simp only
    rw [if_pos hr]

end Go.Dm
