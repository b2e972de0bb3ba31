/- Texts one behind the other: Chapter 4: the walk of the program's some (a list of labels that stands at a place); Chapter 4: the walk of the program's Get (labels that stand at a place); Chapters 1 and 4 in plain terms: what is got is what was put. No program in sight. -/
import Derived.Test.YthmhalcloogniaaGreatDoorB10
import Derived.Test.YthmhalcloogniaaGreatDoorB6
namespace Go.Dm
open Go Go.RowKit

/-- So many things, one behind the other, from a place on. -/
def readsL {α : Type} (g : Bs → Option (α × Nat)) (l : Bs) (q : Nat) : Nat → Option (List α × Nat)
  | 0 => some ([], q)
  | i + 1 => match readsL g l q i with
    | some (xs, r) => match g (l.drop r) with
      | some (x, m) => some (xs ++ [x], r + m)
      | none => none
    | none => none

theorem readsL_none {α : Type} {g : Bs → Option (α × Nat)} {l : Bs} {q i : Nat} (h : readsL g l q i = none) : ∀ {j}, i ≤ j → readsL g l q j = none
  | 0, hj => by obtain rfl : i = 0 := by omega
                exact h
  | j + 1, hj => by
    rcases Nat.lt_or_ge i (j + 1) with h1 | h1
    · rw [readsL, readsL_none h (by omega)]
    · obtain rfl : i = j + 1 := by omega
      exact h

/-- The list that stands first. -/
def someL {α : Type} (g : Bs → Option (α × Nat)) (most : Nat) (l : Bs) : Option (List α × Nat) :=
  match getL l with
  | some (u, n) => if u ≤ most then readsL g l n u else none
  | none => none

theorem someL_none {α : Type} {g : Bs → Option (α × Nat)} {most : Nat} {l : Bs} (h : getL l = none) : someL g most l = none := by
  unfold someL; rw [h]
theorem someL_some {α : Type} {g : Bs → Option (α × Nat)} {most : Nat} {l : Bs} {u n : Nat} (h : getL l = some (u, n)) : someL g most l = if u ≤ most then readsL g l n u else none := by
  unfold someL; rw [h]
theorem someI_no {α : Type} {g : Bs → Option (α × Nat)} {most : Nat} {l : Bs} {p : Int} (h : (getI l p).2.2 = false) : atI (someL g most) [] l p = ([], 0, false) := by
  unfold atI
  by_cases hp : p < 0 ∨ (l.length : Int) ≤ p
  · rw [if_pos hp]
  · rw [if_neg hp]
    rw [getI_at] at h
    unfold atI at h
    rw [if_neg hp] at h
    cases hg : getL (l.drop p.toNat) with
    | none => rw [someL_none hg]
    | some x => rw [hg] at h; cases h

theorem getPairL_nil : getPairL [] = none := rfl
theorem getPairL_fit {l : Bs} {k v : Bs} {n : Nat} (h : getPairL l = some ((k, v), n)) : k.length ≤ 32 ∧ v.length ≤ 32 := by
  have one : ∀ {l t : Bs} {n : Nat}, getTextL 32 l = some (t, n) → t.length ≤ 32 := by
    intro l t n h
    cases hg : getL l with
    | none => rw [getTextL_none hg] at h; cases h
    | some x =>
      obtain ⟨u, m⟩ := x
      rw [getTextL_some hg] at h
      split at h
      · rename_i hc
        injection h with h
        injection h with h1 _
        rw [← h1, List.length_take]; omega
      · cases h
  unfold getPairL at h
  cases h1 : getTextL 32 l with
  | none => rw [h1] at h; cases h
  | some x =>
    obtain ⟨a, i⟩ := x
    rw [h1] at h
    simp only at h
    cases h2 : getTextL 32 (l.drop i) with
    | none => rw [h2] at h; cases h
    | some y =>
      obtain ⟨b, j⟩ := y
      rw [h2] at h
      injection h with h
      injection h with h _
      injection h with e1 e2
      exact ⟨e1 ▸ one h1, e2 ▸ one h2⟩
theorem readsL_stop {l : Bs} {q n k r : Nat} {xs : List PairL} (h : readsL getPairL (l.drop q) n k = some (xs, r)) (hb : (atI getPairL ([], []) l ((q : Int) + (r : Int))).2.2 = false) : readsL getPairL (l.drop q) n (k + 1) = none := by
  rw [atI_drop getPairL_nil] at hb
  rw [readsL, h]
  simp only [List.drop_drop]
  cases hg : getPairL (l.drop (q + r)) with
  | none => rfl
  | some x => rw [hg] at hb; cases hb
theorem readsL_go {l : Bs} {q n k r : Nat} {xs : List PairS} {P : PairS} {at' : Int} (h : readsL getPairL (l.drop q) n k = some (labL xs, r)) (hb : atI getPairL ([], []) l ((q : Int) + (r : Int)) = (pL P, at', true)) :
    ∃ r2 : Nat, at' = (q : Int) + (r2 : Int) ∧ P.1.size ≤ 32 ∧ P.2.size ≤ 32 ∧ readsL getPairL (l.drop q) n (k + 1) = some (labL (xs ++ [P]), r2) := by
  rw [atI_drop getPairL_nil] at hb
  cases hg : getPairL (l.drop (q + r)) with
  | none => rw [hg] at hb; injection hb with _ hb; injection hb with _ hb; cases hb
  | some x =>
    obtain ⟨x, m⟩ := x
    rw [hg] at hb
    injection hb with e1 hb
    injection hb with e2 _
    subst e1
    refine ⟨r + m, by rw [← e2]; omega, ?_, ?_, ?_⟩
    · exact (getPairL_fit (k := (pL P).1) (v := (pL P).2) hg).1
    · exact (getPairL_fit (k := (pL P).1) (v := (pL P).2) hg).2
    · rw [readsL, h]
      simp only [List.drop_drop, hg]
      simp [labL]
theorem fit_snoc {l : List PairS} {P : PairS} (h : FitP l) (h1 : P.1.size ≤ 140737488351232) (h2 : P.2.size ≤ 140737488351232) : FitP (l ++ [P]) := by
  intro p hp
  rcases List.mem_append.1 hp with hp | hp
  · exact h p hp
  · rw [List.mem_singleton] at hp; subst hp; exact ⟨h1, h2⟩
end Go.Dm
namespace Go.Proofs.YthmhalcloogniaaGreatDoor
open Go.RowKit Go.Dm

end Go.Proofs.YthmhalcloogniaaGreatDoor

namespace Go.Dm
open Go Go.RowKit

/-- The labels that stand first. -/
def getLabL (l : Bs) : Option (List PairL × Nat) :=
  match someL getPairL 8 l with
  | some (xs, n) => if rightLab xs = true then some (xs, n) else none
  | none => none
theorem getLab_no {l : Bs} {p : Int} (h : (atI (someL getPairL 8) [] l p).2.2 = false) : atI getLabL [] l p = ([], 0, false) := by
  unfold atI at *
  split
  · rfl
  · rename_i hp
    rw [if_neg hp] at h
    unfold getLabL
    cases hg : someL getPairL 8 (l.drop p.toNat) with
    | none => rfl
    | some x => rw [hg] at h; cases h
theorem getLab_yes {l : Bs} {p : Int} {xs : List PairL} {n : Int} (h : atI (someL getPairL 8) [] l p = (xs, n, true)) : atI getLabL [] l p = if rightLab xs = true then (xs, n, true) else ([], 0, false) := by
  unfold atI at *
  split
  · rename_i hp
    rw [if_pos hp] at h
    injection h with _ h; injection h with _ h; cases h
  · rename_i hp
    rw [if_neg hp] at h
    unfold getLabL
    cases hg : someL getPairL 8 (l.drop p.toNat) with
    | none => rw [hg] at h; injection h with _ h; injection h with _ h; cases h
    | some x =>
      obtain ⟨ys, m⟩ := x
      rw [hg] at h
      injection h with e1 h
      injection h with e2 _
      subst e1 e2
      simp only
      by_cases hr : rightLab ys = true
      · rw [if_pos hr, if_pos hr]
      · rw [if_neg hr, if_neg hr]
end Go.Dm
namespace Go.Proofs.YthmhalcloogniaaGreatDoor
open Go.RowKit Go.Dm

end Go.Proofs.YthmhalcloogniaaGreatDoor

namespace Go.Dm
open Go Go.RowKit

/-- l begins with a. -/
def Begins (a l : Bs) : Prop := ∃ t, a ++ t = l

theorem begins_take {a l : Bs} : Begins a l ↔ a = l.take a.length ∧ a.length ≤ l.length := by
  constructor
  · rintro ⟨t, rfl⟩
    exact ⟨by rw [List.take_left], by rw [List.length_append]; omega⟩
  · rintro ⟨h1, h2⟩
    exact ⟨l.drop a.length, by conv => lhs; lhs; rw [h1]
                               exact List.take_append_drop _ _⟩

theorem begins_app {a b l : Bs} : Begins (a ++ b) l ↔ Begins a l ∧ Begins b (l.drop a.length) := by
  constructor
  · rintro ⟨t, rfl⟩
    exact ⟨⟨b ++ t, by simp⟩, ⟨t, by simp⟩⟩
  · rintro ⟨⟨t, rfl⟩, ⟨u, h⟩⟩
    rw [List.drop_left] at h
    exact ⟨u, by simp [h]⟩
theorem begins_nil (l : Bs) : Begins [] l := ⟨l, rfl⟩
theorem Begins.drop_len {a l : Bs} (h : Begins a l) : l.length = a.length + (l.drop a.length).length := by
  obtain ⟨t, rfl⟩ := h
  simp

theorem getL_begins {l : Bs} {u n : Nat} : getL l = some (u, n) ↔ U64 u ∧ n = (putL u).length ∧ Begins (putL u) l := by
  rw [getL_iff, begins_take]
  constructor
  · rintro ⟨h1, rfl, h3, h4⟩; exact ⟨h1, rfl, h3, h4⟩
  · rintro ⟨h1, rfl, h3, h4⟩; exact ⟨h1, rfl, h3, h4⟩
theorem getText_begins {most : Nat} {l t : Bs} {n : Nat} (hl : U64 l.length) : getTextL most l = some (t, n) ↔ t.length ≤ most ∧ n = (putT t).length ∧ Begins (putT t) l := by
  rw [getTextL_iff hl, begins_take]
  unfold putT
  constructor
  · rintro ⟨h1, rfl, h3, h4⟩; exact ⟨h1, rfl, h3, h4⟩
  · rintro ⟨h1, rfl, h3, h4⟩; exact ⟨h1, rfl, h3, h4⟩
theorem U64.drop {l : Bs} (h : U64 l.length) (k : Nat) : U64 (l.drop k).length := by
  rw [List.length_drop]; exact Nat.lt_of_le_of_lt (Nat.sub_le _ _) h

/-- A label's bytes. -/
def putPair (p : PairL) : Bs := putT p.1 ++ putT p.2
def fitPair (p : PairL) : Prop := p.1.length ≤ 32 ∧ p.2.length ≤ 32
theorem getPair_begins {l : Bs} {p : PairL} {n : Nat} (hl : U64 l.length) : getPairL l = some (p, n) ↔ fitPair p ∧ n = (putPair p).length ∧ Begins (putPair p) l := by
  unfold putPair fitPair
  rw [begins_app, List.length_append]
  constructor
  · intro h
    unfold getPairL at h
    cases h1 : getTextL 32 l with
    | none => rw [h1] at h; cases h
    | some x =>
      obtain ⟨k, i⟩ := x
      rw [h1] at h
      simp only at h
      cases h2 : getTextL 32 (l.drop i) with
      | none => rw [h2] at h; cases h
      | some y =>
        obtain ⟨v, j⟩ := y
        rw [h2] at h
        injection h with h
        injection h with e1 e2
        subst e1 e2
        obtain ⟨a1, rfl, a3⟩ := (getText_begins hl).1 h1
        obtain ⟨b1, rfl, b3⟩ := (getText_begins (hl.drop _)).1 h2
        exact ⟨⟨a1, b1⟩, rfl, a3, b3⟩
  · rintro ⟨⟨a1, b1⟩, rfl, a3, b3⟩
    unfold getPairL
    rw [(getText_begins hl).2 ⟨a1, rfl, a3⟩]
    simp only
    rw [(getText_begins (hl.drop _)).2 ⟨b1, rfl, b3⟩]

theorem putP_pair (L : List PairL) : putP L = L.flatMap putPair := rfl
theorem putP_snoc (L : List PairL) (p : PairL) : putP (L ++ [p]) = putP L ++ putPair p := by simp [putP, putPair]

theorem reads_begins {l : Bs} {q : Nat} (hl : U64 l.length) : ∀ (i : Nat) (L : List PairL) (r : Nat), readsL getPairL l q i = some (L, r) ↔ L.length = i ∧ (∀ p ∈ L, fitPair p) ∧ r = q + (putP L).length ∧ Begins (putP L) (l.drop q)
  | 0, L, r => by
    constructor
    · intro h
      injection h with h
      injection h with h1 h2
      subst h1 h2
      exact ⟨rfl, (fun p hp => by simp at hp), rfl, begins_nil _⟩
    · rintro ⟨h1, _, h3, _⟩
      obtain rfl := List.length_eq_zero_iff.1 h1
      subst h3
      rfl
  | i + 1, L, r => by
    constructor
    · intro h
      rw [readsL] at h
      cases h1 : readsL getPairL l q i with
      | none => rw [h1] at h; cases h
      | some x =>
        obtain ⟨K, k⟩ := x
        rw [h1] at h
        simp only at h
        cases h2 : getPairL (l.drop k) with
        | none => rw [h2] at h; cases h
        | some y =>
          obtain ⟨p, m⟩ := y
          rw [h2] at h
          injection h with h
          injection h with e1 e2
          subst e1 e2
          obtain ⟨a1, a2, rfl, a4⟩ := (reads_begins hl i K k).1 h1
          obtain ⟨b1, rfl, b3⟩ := (getPair_begins (hl.drop _)).1 h2
          refine ⟨by simp [a1], fun x hx => ?_, by rw [putP_snoc, List.length_append]; omega, ?_⟩
          · rcases List.mem_append.1 hx with hx | hx
            · exact a2 x hx
            · rw [List.mem_singleton] at hx; subst hx; exact b1
          · rw [putP_snoc, begins_app, List.drop_drop]
            exact ⟨a4, b3⟩
    · rintro ⟨h1, h2, rfl, h4⟩
      rcases List.eq_nil_or_concat L with rfl | ⟨K, p, rfl⟩
      · simp at h1
      · rw [List.concat_eq_append] at *
        rw [putP_snoc, begins_app, List.drop_drop] at h4
        have hK := (reads_begins hl i K (q + (putP K).length)).2 ⟨by simpa using h1, fun x hx => h2 x (List.mem_append_left _ hx), rfl, h4.1⟩
        have hp := (getPair_begins (hl.drop _)).2 ⟨h2 p (by simp), rfl, h4.2⟩
        rw [readsL, hK]
        simp only [hp]
        rw [putP_snoc, List.length_append]
        simp [Nat.add_assoc]

theorem some_begins {l : Bs} {L : List PairL} {n : Nat} (hl : U64 l.length) : someL getPairL 8 l = some (L, n) ↔ L.length ≤ 8 ∧ (∀ p ∈ L, fitPair p) ∧ n = (putL L.length ++ putP L).length ∧ Begins (putL L.length ++ putP L) l := by
  rw [begins_app, List.length_append]
  constructor
  · intro h
    cases hg : getL l with
    | none => rw [someL_none hg] at h; cases h
    | some x =>
      obtain ⟨u, k⟩ := x
      rw [someL_some hg] at h
      split at h
      · rename_i hu
        obtain ⟨a1, rfl, a3⟩ := getL_begins.1 hg
        obtain ⟨rfl, b2, rfl, b4⟩ := (reads_begins hl _ _ _).1 h
        exact ⟨hu, b2, rfl, a3, b4⟩
      · cases h
  · rintro ⟨h1, h2, rfl, h4, h5⟩
    have hg := getL_begins.2 ⟨show U64 L.length from Nat.lt_of_le_of_lt h1 (by decide), rfl, h4⟩
    rw [someL_some hg, if_pos h1]
    exact (reads_begins hl _ _ _).2 ⟨rfl, h2, rfl, h5⟩

theorem right_fits {L : List PairL} (h : rightLab L = true) : L.length ≤ 8 ∧ ∀ p ∈ L, fitPair p := by
  obtain ⟨h1, h2⟩ := rightLab_iff.1 h
  refine ⟨h1, fun p hp => ?_⟩
  obtain ⟨k, hk, rfl⟩ := List.getElem_of_mem hp
  have := h2 k hk
  have he : plAt L k = L[k] := by simp [plAt, hk]
  unfold okLab at this
  rw [he, Bool.and_eq_true, Bool.and_eq_true] at this
  exact ⟨right_len this.1, right_len this.2.1⟩

/-- What is got is right, and what was put; what was put is got. -/
theorem getLab_begins {l : Bs} {L : List PairL} {n : Nat} (hl : U64 l.length) : getLabL l = some (L, n) ↔ rightLab L = true ∧ n = (putLab L).length ∧ Begins (putLab L) l := by
  constructor
  · intro h
    unfold getLabL at h
    cases hg : someL getPairL 8 l with
    | none => rw [hg] at h; cases h
    | some x =>
      obtain ⟨K, k⟩ := x
      rw [hg] at h
      simp only at h
      split at h
      · rename_i hr
        injection h with h
        injection h with e1 e2
        subst e1 e2
        obtain ⟨_, _, rfl, h4⟩ := (some_begins hl).1 hg
        unfold putLab
        rw [if_pos hr]
        exact ⟨hr, rfl, h4⟩
      · cases h
  · rintro ⟨hr, rfl, h3⟩
    unfold putLab at *
    rw [if_pos hr] at *
    obtain ⟨f1, f2⟩ := right_fits hr
    have hg := (some_begins hl).2 ⟨f1, f2, rfl, h3⟩
    unfold getLabL
    rw [hg]
    simp only
    rw [if_pos hr]

end Go.Dm
