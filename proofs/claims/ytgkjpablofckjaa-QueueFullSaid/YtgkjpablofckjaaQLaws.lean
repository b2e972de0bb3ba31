/- Chapter 14, the plain laws: what is pushed stays right, in order, and comes back where it stood. No program in sight. -/
import Derived.Test.YtgkjpablofckjaaQPure
namespace Go.Dm
open Go Go.RowKit

theorem ahead_irrefl (a : Ent) : aheadB a a = false := by simp [aheadB]

theorem ahead_asymm {a b : Ent} (h : aheadB a b = true) : aheadB b a = false := by
  simp only [aheadB, Bool.or_eq_true, Bool.and_eq_true, decide_eq_true_eq, beq_iff_eq, Bool.or_eq_false_iff, decide_eq_false_iff_not, Bool.and_eq_false_iff, beq_eq_false_iff_ne] at *
  omega

theorem ahead_total {a b : Ent} (h : a.1 ≠ b.1) : aheadB a b = true ∨ aheadB b a = true := by
  simp only [aheadB, Bool.or_eq_true, Bool.and_eq_true, decide_eq_true_eq, beq_iff_eq]
  omega

theorem ahead_unlike (a b : Ent) : aheadB a b = true ∨ aheadB b a = true ∨ a = b := by
  simp only [aheadB, Bool.or_eq_true, Bool.and_eq_true, decide_eq_true_eq, beq_iff_eq]
  by_cases h1 : a.1 = b.1 <;> by_cases h2 : a.2 = b.2
  · exact Or.inr (Or.inr (Prod.ext h1 h2))
  · omega
  · omega
  · omega

theorem ahead_trans {a b c : Ent} (h : aheadB a b = true) (h' : aheadB b c = true) : aheadB a c = true := by
  simp only [aheadB, Bool.or_eq_true, Bool.and_eq_true, decide_eq_true_eq, beq_iff_eq] at *
  omega

/-- A queue that may be. -/
structure Good (q : List Ent) : Prop where
  order : q.Pairwise fun x y => aheadB x y = true
  fine : ∀ x ∈ q, wrongB x = false
  ids : q.Pairwise fun x y => x.1 ≠ y.1
  len : q.length ≤ 32

theorem good_nil : Good [] := ⟨.nil, by simp, .nil, by simp⟩

theorem Good.sub {q q' : List Ent} (h : Good q) (hs : q'.Sublist q) : Good q' :=
  ⟨h.order.sublist hs, fun x hx => h.fine x (hs.subset hx), h.ids.sublist hs, Nat.le_trans hs.length_le h.len⟩

theorem idxOf_none {id : Int} : ∀ {q : List Ent}, idxOf id q = none → ∀ x ∈ q, x.1 ≠ id
  | [], _, x, hx => by cases hx
  | y :: q, h, x, hx => by
    unfold idxOf at h
    split at h
    · cases h
    · rename_i hy
      rcases List.mem_cons.1 hx with rfl | hx
      · simpa using hy
      · exact idxOf_none (by simpa using h) x hx

theorem idxOf_some {id : Int} : ∀ {q : List Ent} {k : Nat}, idxOf id q = some k → (ent q k).1 = id
  | y :: q, k, h => by
    unfold idxOf at h
    split at h
    · rename_i hy
      injection h with h
      subst h
      simpa [ent] using hy
    · cases hi : idxOf id q with
      | none => simp [hi] at h
      | some j =>
        simp [hi] at h
        subst h
        have := idxOf_some hi
        simpa [ent] using this

theorem ent_mem {q : List Ent} {k : Nat} (h : k < q.length) : ent q k ∈ q := by
  simp only [ent, List.getD_eq_getElem?_getD, List.getElem?_eq_getElem h, Option.getD_some]
  exact List.getElem_mem h

theorem idxOf_mem {id : Int} {q : List Ent} (h : ∃ x ∈ q, x.1 = id) : ∃ k, idxOf id q = some k := by
  cases hi : idxOf id q with
  | some k => exact ⟨k, rfl⟩
  | none =>
    obtain ⟨x, hx, he⟩ := h
    exact absurd he (idxOf_none hi x hx)

theorem pair_ent {R : Ent → Ent → Prop} {q : List Ent} (h : q.Pairwise R) {i k : Nat} (hik : i < k) (hk : k < q.length) : R (ent q i) (ent q k) := by
  have := (List.pairwise_iff_getElem.1 h) i k (by omega) hk hik
  simpa [ent, List.getD_eq_getElem?_getD, hk, show i < q.length by omega] using this

theorem Good.place {q : List Ent} (h : Good q) {k : Nat} (hk : k < q.length) : idxOf (ent q k).1 q = some k := by
  apply idxOf_hit hk
  · intro j hj
    have := pair_ent h.ids hj hk
    simpa using this
  · simp

theorem Good.right {q : List Ent} (h : Good q) : rightB q = true := by
  unfold rightB
  rw [Bool.and_eq_true]
  refine ⟨List.all_eq_true.2 fun k hk => ?_, decide_eq_true h.len⟩
  have hk := List.mem_range.1 hk
  unfold okAt
  rw [h.fine _ (ent_mem hk), h.place hk]
  cases k with
  | zero => simp
  | succ j => simp [pair_ent h.order (Nat.lt_succ_self j) hk]

theorem placeF_behind {e : Ent} : ∀ {q : List Ent} {j : Nat}, j < placeF e q → aheadB e (ent q j) = false
  | x :: q, j, h => by
    unfold placeF at h
    split at h
    · omega
    · rename_i hx
      cases j with
      | zero => simpa [ent] using hx
      | succ j => exact placeF_behind (q := q) (j := j) (by omega)

theorem placeF_ahead {e : Ent} : ∀ {q : List Ent}, placeF e q < q.length → aheadB e (ent q (placeF e q)) = true
  | x :: q, h => by
    unfold placeF at h ⊢
    split at h
    · rename_i hx; simp [hx, ent]
    · rename_i hx
      simp only [hx]
      have := placeF_ahead (e := e) (q := q) (by simp at h; omega)
      simpa [ent] using this

theorem mem_take_ent {q : List Ent} {p : Nat} {x : Ent} (h : x ∈ q.take p) : ∃ j, j < p ∧ j < q.length ∧ x = ent q j := by
  obtain ⟨j, hj, rfl⟩ := List.mem_iff_getElem.1 h
  simp only [List.length_take] at hj
  exact ⟨j, by omega, by omega, by simp [ent, show j < q.length by omega]⟩

theorem mem_drop_ent {q : List Ent} {p : Nat} {x : Ent} (h : x ∈ q.drop p) : ∃ j, p ≤ j ∧ j < q.length ∧ x = ent q j := by
  obtain ⟨j, hj, rfl⟩ := List.mem_iff_getElem.1 h
  simp only [List.length_drop] at hj
  exact ⟨p + j, by omega, by omega, by simp [ent, show p + j < q.length by omega]⟩

theorem Good.push {q : List Ent} (h : Good q) (e : Ent) : Good (pushF q e).1 := by
  unfold pushF
  cases hw : wrongB e with
  | true => simpa using h
  | false =>
    cases hi : idxOf e.1 q with
    | some k => simpa using h
    | none =>
      by_cases hl : 32 ≤ q.length
      · simpa [hl] using h
      · have hne := idxOf_none hi
        have hsub1 : (q.take (placeF e q)).Sublist q := List.take_sublist _ _
        have hsub2 : (q.drop (placeF e q)).Sublist q := List.drop_sublist _ _
        have hcross : ∀ R : Ent → Ent → Prop, q.Pairwise R → ∀ a ∈ q.take (placeF e q), ∀ b ∈ q.drop (placeF e q), R a b := by
          intro R hR a ha b hb
          obtain ⟨i, hi1, hi2, rfl⟩ := mem_take_ent ha
          obtain ⟨j, hj1, hj2, rfl⟩ := mem_drop_ent hb
          exact pair_ent hR (by omega) hj2
        have hA : ∀ a ∈ q.take (placeF e q), aheadB a e = true := by
          intro a ha
          obtain ⟨i, hi1, hi2, rfl⟩ := mem_take_ent ha
          have h1 := placeF_behind hi1
          rcases ahead_total (hne _ (ent_mem hi2)) with h2 | h2
          · exact h2
          · rw [h2] at h1; cases h1
        have hB : ∀ b ∈ q.drop (placeF e q), aheadB e b = true := by
          intro b hb
          obtain ⟨j, hj1, hj2, rfl⟩ := mem_drop_ent hb
          have h1 := placeF_ahead (e := e) (q := q) (by omega)
          rcases Nat.lt_or_ge (placeF e q) j with h3 | h3
          · exact ahead_trans h1 (pair_ent h.order h3 hj2)
          · have : j = placeF e q := by omega
            rw [this]; exact h1
        simp only [hl, Bool.false_eq_true, if_false, Option.isSome_none]
        refine ⟨?_, ?_, ?_, ?_⟩
        · rw [List.pairwise_append]
          refine ⟨h.order.sublist hsub1, List.pairwise_cons.2 ⟨hB, h.order.sublist hsub2⟩, fun a ha b hb => ?_⟩
          rcases List.mem_cons.1 hb with rfl | hb
          · exact hA a ha
          · exact hcross _ h.order a ha b hb
        · intro x hx
          rcases List.mem_append.1 hx with hx | hx
          · exact h.fine x (hsub1.subset hx)
          · rcases List.mem_cons.1 hx with rfl | hx
            · exact hw
            · exact h.fine x (hsub2.subset hx)
        · rw [List.pairwise_append]
          refine ⟨h.ids.sublist hsub1, List.pairwise_cons.2 ⟨fun b hb he => hne b (hsub2.subset hb) he.symm, h.ids.sublist hsub2⟩, fun a ha b hb => ?_⟩
          rcases List.mem_cons.1 hb with rfl | hb
          · exact hne a (hsub1.subset ha)
          · exact hcross _ h.ids a ha b hb
        · have := placeF_le e q
          simp only [List.length_append, List.length_take, List.length_cons, List.length_drop]; omega

theorem Good.take {q : List Ent} (h : Good q) (id : Int) : Good (takeF q id).1 := by
  unfold takeF
  split
  · exact h
  · rename_i k hk
    apply h.sub
    have : q.drop (k + 1) = (q.drop k).drop 1 := by rw [List.drop_drop]
    calc (q.take k ++ q.drop (k + 1)).Sublist (q.take k ++ q.drop k) := List.Sublist.append_left (by rw [this]; exact List.drop_sublist _ _) _
      _ = q := List.take_append_drop k q

theorem Good.order_at {q : List Ent} (h : Good q) {i k : Nat} (hi : i < q.length) (hk : k < q.length) : aheadB (ent q i) (ent q k) = decide (i < k) := by
  rcases Nat.lt_trichotomy i k with h1 | h1 | h1
  · rw [decide_eq_true h1]; exact pair_ent h.order h1 hk
  · subst h1; rw [decide_eq_false (Nat.lt_irrefl _)]; exact ahead_irrefl _
  · rw [decide_eq_false (by omega)]; exact ahead_asymm (pair_ent h.order h1 hi)

theorem foldl_good (l : List Ent) : ∀ q : List Ent, Good q → Good (l.foldl (fun q e => (pushF q e).1) q) := by
  induction l with
  | nil => exact fun q h => h
  | cons e l ih => exact fun q h => ih _ (h.push e)

/-- Who goes, and comes back, stands where they stood. -/
theorem Good.back {q : List Ent} (h : Good q) {k : Nat} (hk : k < q.length) :
    takeF q (ent q k).1 = (q.take k ++ q.drop (k + 1), true) ∧ pushF (q.take k ++ q.drop (k + 1)) (ent q k) = (q, 0) ∧ idxOf (ent q k).1 (q.take k ++ q.drop (k + 1)) = none := by
  have hsplit : q = q.take k ++ ent q k :: q.drop (k + 1) := by
    have := List.take_append_drop k q
    rw [List.drop_eq_getElem_cons hk] at this
    have he : ent q k = q[k] := by simp [ent, hk]
    rw [he]
    exact this.symm
  have hids : ∀ x ∈ q.take k ++ q.drop (k + 1), x.1 ≠ (ent q k).1 := by
    intro x hx
    rcases List.mem_append.1 hx with hx | hx
    · obtain ⟨i, hi1, hi2, rfl⟩ := mem_take_ent hx
      exact pair_ent h.ids hi1 hk
    · obtain ⟨j, hj1, hj2, rfl⟩ := mem_drop_ent hx
      exact (pair_ent h.ids (by omega) hj2).symm
  have hno : idxOf (ent q k).1 (q.take k ++ q.drop (k + 1)) = none := by
    cases hi : idxOf (ent q k).1 (q.take k ++ q.drop (k + 1)) with
    | none => rfl
    | some j => exact absurd (idxOf_some hi) (hids _ (ent_mem (idxOf_lt hi)))
  have hlen : (q.take k ++ q.drop (k + 1)).length + 1 = q.length := by
    simp only [List.length_append, List.length_take, List.length_drop]; omega
  have htl : (q.take k).length = k := by simp; omega
  have hpl : placeF (ent q k) (q.take k ++ q.drop (k + 1)) = k := by
    have hlt : ∀ j, j < k → ent (q.take k ++ q.drop (k + 1)) j = ent q j := by
      intro j hj
      simp only [ent, List.getD_eq_getElem?_getD]
      rw [List.getElem?_append_left (by rw [htl]; exact hj), List.getElem?_take, if_pos hj]
    have hbeh : ∀ j, j < k → aheadB (ent q k) (ent (q.take k ++ q.drop (k + 1)) j) = false := fun j hj => by
      rw [hlt j hj]; exact ahead_asymm (pair_ent h.order hj hk)
    by_cases hend : k + 1 = q.length
    · have hl : (q.take k ++ q.drop (k + 1)).length = k := by omega
      rw [placeF_miss (fun j hj => hbeh j (by omega)), hl]
    · refine placeF_hit (by omega) hbeh ?_
      have he : ent (q.take k ++ q.drop (k + 1)) k = ent q (k + 1) := by
        simp only [ent, List.getD_eq_getElem?_getD]
        rw [List.getElem?_append_right (by rw [htl]; exact Nat.le_refl _), htl, Nat.sub_self, List.getElem?_drop]
      rw [he]
      exact pair_ent h.order (Nat.lt_succ_self k) (by omega)
  refine ⟨by simp [takeF, h.place hk], ?_, hno⟩
  rw [pushF_ok (h.fine _ (ent_mem hk)) hno (by have := h.len; omega), hpl]
  have e1 : (q.take k ++ q.drop (k + 1)).take k = q.take k := by rw [List.take_left' htl]
  have e2 : (q.take k ++ q.drop (k + 1)).drop k = q.drop (k + 1) := by rw [List.drop_left' htl]
  rw [e1, e2, ← hsplit]

/-- Who comes in another order stands in the same. -/
theorem Good.turned {q : List Ent} (h : Good q) {k : Nat} (hk : k < q.length) : (pushF (q.drop (k + 1)) (ent q k)).1 = q.drop k := by
  have hg := h.sub (List.drop_sublist k q)
  have hd : q.drop k = ent q k :: q.drop (k + 1) := by
    rw [List.drop_eq_getElem_cons hk]
    simp [ent, hk]
  rw [hd] at hg
  have := hg.back (k := 0) (by simp)
  have he : ent (ent q k :: q.drop (k + 1)) 0 = ent q k := rfl
  simp only [he, List.take_zero, List.nil_append, List.drop_succ_cons, List.drop_zero] at this
  rw [this.2.1, hd]

end Go.Dm
