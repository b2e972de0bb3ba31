/- Chapter 4, plain laws: made labels are right. No program in sight. -/
import Derived.Test.YtbkemhheombfcaaDoorLWalkE
namespace Go.Dm
open Go Go.RowKit

/-- Labels whose keys rise, all of whose texts are names. -/
def Rising : List PairS → Prop
  | [] => True
  | [p] => rightL p.1.data.toList = true ∧ rightL p.2.data.toList = true
  | p :: q :: l => (rightL p.1.data.toList = true ∧ rightL p.2.data.toList = true) ∧ Op.bytesLess p.1.data.toList q.1.data.toList = true ∧ Rising (q :: l)

/-- All are names, and each key is ahead of each later one. -/
def Up (l : List PairS) : Prop := (∀ p ∈ l, rightL p.1.data.toList = true ∧ rightL p.2.data.toList = true) ∧ l.Pairwise fun p q => Op.bytesLess p.1.data.toList q.1.data.toList = true

theorem pairAt_get {l : List PairS} {k : Nat} (h : k < l.length) : pairAt l k = l[k] := by simp [pairAt, h]

theorem okLab_iff {l : List PairS} {k : Nat} (h : k < l.length) : okLab (labL l) k = true ↔ rightL (pairAt l k).1.data.toList = true ∧ rightL (pairAt l k).2.data.toList = true ∧ (k = 0 ∨ Op.bytesLess (pairAt l (k - 1)).1.data.toList (pairAt l k).1.data.toList = true) := by
  unfold okLab
  rw [labL_at l h, labL_at l (by omega : k - 1 < l.length), not_leB]
  simp only [Bool.and_eq_true, Bool.or_eq_true, beq_iff_eq]
  exact Iff.rfl

theorem up_of_steps {l : List PairS} (h : ∀ k, k + 1 < l.length → Op.bytesLess (pairAt l k).1.data.toList (pairAt l (k + 1)).1.data.toList = true) : l.Pairwise fun p q => Op.bytesLess p.1.data.toList q.1.data.toList = true := by
  have far : ∀ d i, i + d + 1 < l.length → Op.bytesLess (pairAt l i).1.data.toList (pairAt l (i + d + 1)).1.data.toList = true := by
    intro d
    induction d with
    | zero => intro i hi; exact h i hi
    | succ d ih =>
      intro i hi
      exact ltB_trans (ih i (by omega)) (h (i + d + 1) (by omega))
  rw [List.pairwise_iff_getElem]
  intro i j hi hj hij
  have := far (j - i - 1) i (by omega)
  rw [show i + (j - i - 1) + 1 = j by omega, pairAt_get hi, pairAt_get hj] at this
  exact this

/-- Right labels, in plain words. -/
theorem right_up {l : List PairS} : rightLab (labL l) = true ↔ l.length ≤ 8 ∧ Up l := by
  rw [rightLab_iff, labL_len]
  constructor
  · rintro ⟨h8, h⟩
    refine ⟨h8, fun p hp => ?_, up_of_steps fun k hk => ?_⟩
    · obtain ⟨k, hk, rfl⟩ := List.getElem_of_mem hp
      have := (okLab_iff hk).1 (h k hk)
      rw [pairAt_get hk] at this
      exact ⟨this.1, this.2.1⟩
    · have := (okLab_iff hk).1 (h (k + 1) hk)
      exact this.2.2.resolve_left (by omega)
  · rintro ⟨h8, h1, h2⟩
    refine ⟨h8, fun k hk => (okLab_iff hk).2 ?_⟩
    have hm := h1 _ (pairAt_mem hk)
    refine ⟨hm.1, hm.2, ?_⟩
    by_cases h0 : k = 0
    · exact Or.inl h0
    · right
      rw [List.pairwise_iff_getElem] at h2
      have := h2 (k - 1) k (by omega) hk (by omega)
      rwa [← pairAt_get (by omega), ← pairAt_get hk] at this

theorem keys_right : ∀ k, k < 8 → rightL (strAt keysB k).data.toList = true := by decide +kernel
theorem keys_up : ∀ i, i < 8 → ∀ j, j < 8 → i < j → Op.bytesLess (strAt keysB i).data.toList (strAt keysB j).data.toList = true := by decide +kernel
theorem keys_small : ∀ k, k < 8 → (strAt keysB k).size ≤ 6 := by decide +kernel

/-- What is made: names by place, the places rising. -/
theorem madeTo_form (zs : List Int) (h : ∀ z ∈ zs, 0 ≤ z ∧ z ≤ 255) : ∀ k, k ≤ 8 → ∃ is : List (Nat × Nat), madeTo zs k = is.map (fun i => (strAt keysB i.1, strAt keysB i.2)) ∧ (∀ i ∈ is, i.1 < k ∧ i.2 < 8) ∧ is.Pairwise fun i j => i.1 < j.1
  | 0, _ => ⟨[], rfl, by simp, List.Pairwise.nil⟩
  | k + 1, hk => by
    obtain ⟨is, h1, h2, h3⟩ := madeTo_form zs h k (by omega)
    unfold madeTo madeOne
    split
    · refine ⟨is ++ [(k, ((numAt zs k / 3) % 8).toNat)], by rw [h1, List.map_append]; rfl, ?_, ?_⟩
      · intro i hi
        rcases List.mem_append.1 hi with hi | hi
        · have := h2 i hi; omega
        · rw [List.mem_singleton.1 hi]
          simp only
          omega
      · rw [List.pairwise_append]
        refine ⟨h3, List.pairwise_singleton _ _, fun i hi j hj => ?_⟩
        rw [List.mem_singleton.1 hj]
        exact (h2 i hi).1
    · exact ⟨is, by rw [h1, List.append_nil], fun i hi => by have := h2 i hi; omega, h3⟩

theorem made_up (zs : List Int) (h : ∀ z ∈ zs, 0 ≤ z ∧ z ≤ 255) : Up (madeP zs) := by
  obtain ⟨is, h1, h2, h3⟩ := madeTo_form zs h (min zs.length 8) (by omega)
  unfold madeP
  rw [h1]
  refine ⟨fun p hp => ?_, ?_⟩
  · obtain ⟨i, hi, rfl⟩ := List.mem_map.1 hp
    have := h2 i hi
    exact ⟨keys_right _ (by omega), keys_right _ this.2⟩
  · rw [List.pairwise_map]
    refine List.Pairwise.imp_of_mem ?_ h3
    intro i j hi hj hij
    exact keys_up _ (by have := h2 i hi; omega) _ (by have := h2 j hj; omega) hij

theorem made_fit (zs : List Int) (h : ∀ z ∈ zs, 0 ≤ z ∧ z ≤ 255) : FitP (madeP zs) := by
  obtain ⟨is, h1, h2, _⟩ := madeTo_form zs h (min zs.length 8) (by omega)
  unfold madeP
  rw [h1]
  intro p hp
  obtain ⟨i, hi, rfl⟩ := List.mem_map.1 hp
  have := h2 i hi
  have k1 := keys_small i.1 (by omega)
  have k2 := keys_small i.2 this.2
  exact ⟨by simp only; omega, by simp only; omega⟩

theorem made_right4 (zs : List Int) (h : ∀ z ∈ zs, 0 ≤ z ∧ z ≤ 255) : rightLab (labL (madeP zs)) = true := right_up.2 ⟨madeP_len zs, made_up zs h⟩

theorem keyIs_iff {key : ByteArray} {p : PairS} : keyIs key p = true ↔ p.1 = key := bytes_eq

theorem up_ne {l : List PairS} (h : Up l) {i j : Nat} (hi : i < l.length) (hj : j < l.length) (hij : i ≠ j) : (pairAt l i).1 ≠ (pairAt l j).1 := by
  have h2 := h.2
  rw [List.pairwise_iff_getElem] at h2
  rw [pairAt_get hi, pairAt_get hj]
  intro e
  rcases Nat.lt_or_gt_of_ne hij with hl | hl
  · have := h2 i j hi hj hl
    rw [e, ltB_irrefl] at this
    cases this
  · have := h2 j i hj hi hl
    rw [e, ltB_irrefl] at this
    cases this

/-- Each is found by its key. -/
theorem find_at {l : List PairS} (h : Up l) {k : Nat} (hk : k < l.length) : findB l (pairAt l k).1 = ((pairAt l k).2, true) := by
  have : firstP (keyIs (pairAt l k).1) l = some k := firstP_hit noPair hk (fun j hj => by
    rw [Bool.eq_false_iff, Ne, keyIs_iff]
    exact up_ne h (by omega) hk (by omega)) (keyIs_iff.2 rfl)
  unfold findB
  rw [this]

theorem find_none {l : List PairS} {key : ByteArray} (h : l.any (keyIs key) = false) : findB l key = (⟨#[]⟩, false) := by
  unfold findB
  rw [firstP_none.2 h]
theorem find_some {l : List PairS} {key : ByteArray} (h : l.any (keyIs key) = true) : (findB l key).2 = true := by
  unfold findB
  cases hf : firstP (keyIs key) l with
  | none => rw [firstP_none] at hf; rw [hf] at h; cases h
  | some k => rfl

/-- With one twice they are not right. -/
theorem twice_bad {l : List PairS} (h : 0 < l.length) : rightLab (labL (l ++ [pairAt l (l.length - 1)])) = false := by
  rw [Bool.eq_false_iff, Ne, right_up]
  rintro ⟨_, h2⟩
  have := up_ne h2 (i := l.length - 1) (j := l.length) (by simp; omega) (by simp) (by omega)
  apply this
  have e1 : pairAt (l ++ [pairAt l (l.length - 1)]) (l.length - 1) = pairAt l (l.length - 1) := by
    simp only [pairAt, List.getD_eq_getElem?_getD]
    rw [List.getElem?_append_left (by omega)]
  have e2 : pairAt (l ++ [pairAt l (l.length - 1)]) l.length = pairAt l (l.length - 1) := by simp [pairAt]
  rw [e1, e2]

/-- In another order they are right just if there is one alone. -/
theorem turned_right {l : List PairS} (h8 : l.length ≤ 8) (h : Up l) (h0 : 0 < l.length) : rightLab (labL (l.drop 1 ++ [pairAt l 0])) = decide (l.length = 1) := by
  match l, h, h0, h8 with
  | [p], h, _, _ =>
    have hr : rightLab (labL [p]) = true := right_up.2 ⟨by simp, h⟩
    exact hr
  | p :: q :: l, h, _, _ =>
    have : decide ((p :: q :: l).length = 1) = false := by simp
    rw [this, Bool.eq_false_iff, Ne, right_up]
    rintro ⟨_, h2⟩
    have hq := List.pairwise_cons.1 h.2
    have h3 := h2.2
    rw [List.pairwise_append] at h3
    have h4 := h3.2.2 q (by simp) p (by simp [pairAt])
    have h5 := hq.1 q (by simp)
    have := ltB_trans h4 h5
    rw [ltB_irrefl] at this
    cases this
end Go.Dm
