/- Texts one behind the other: Chapter 4, plain laws: made labels are right. No program in sight; Chapter 4, plain laws: of what is put no beginning is got. No program in sight; Chapter 4, plain laws of what is put and got at a place. No program in sight; Chapter 5 in plain terms: what is got of a selector is what was put. No program in sight; Chapter 5 in plain terms: what is shown is parsed. No program in sight. -/
import Derived.Test.YthmhalcloogniaaGreatDoorB13
import Derived.Test.YthmhalcloogniaaGreatDoorB12
import Derived.Test.YthmhalcloogniaaGreatDoorB6
import Derived.Test.YthmhalcloogniaaGreatDoorB11
namespace Go.Dm
open Go Go.RowKit

/-- Labels whose keys rise, all of whose texts are names. -/
def Rising : List PairS → Prop
  | [] => True
  | [p] => rightL p.1.data.toList = true ∧ rightL p.2.data.toList = true
  | p :: q :: l => (rightL p.1.data.toList = true ∧ rightL p.2.data.toList = true) ∧ Op.bytesLess p.1.data.toList q.1.data.toList = true ∧ Rising (q :: l)

/-- All are names, and each key is ahead of each later one. -/
def Up (l : List PairS) : Prop := (∀ p ∈ l, rightL p.1.data.toList = true ∧ rightL p.2.data.toList = true) ∧ l.Pairwise fun p q => Op.bytesLess p.1.data.toList q.1.data.toList = true

theorem pairAt_get {l : List PairS} {k : Nat} (h : k < l.length) : pairAt l k = l[k] := by simp [pairAt, h]

theorem okLab_iff {l : List PairS} {k : Nat} (h : k < l.length) : okLab (labL l) k = true ↔ rightL (pairAt l k).1.data.toList = true ∧ rightL (pairAt l k).2.data.toList = true ∧ (k = 0 ∨ Op.bytesLess (pairAt l (k - 1)).1.data.toList (pairAt l k).1.data.toList = true) := by
  unfold okLab
  rw [labL_at l h, labL_at l (by omega : k - 1 < l.length), not_leB]
  simp only [Bool.and_eq_true, Bool.or_eq_true, beq_iff_eq]
  exact Iff.rfl

theorem up_of_steps {l : List PairS} (h : ∀ k, k + 1 < l.length → Op.bytesLess (pairAt l k).1.data.toList (pairAt l (k + 1)).1.data.toList = true) : l.Pairwise fun p q => Op.bytesLess p.1.data.toList q.1.data.toList = true := by
  have far : ∀ d i, i + d + 1 < l.length → Op.bytesLess (pairAt l i).1.data.toList (pairAt l (i + d + 1)).1.data.toList = true := by
    intro d
    induction d with
    | zero => intro i hi; exact h i hi
    | succ d ih =>
      intro i hi
      exact ltB_trans (ih i (by omega)) (h (i + d + 1) (by omega))
  rw [List.pairwise_iff_getElem]
  intro i j hi hj hij
  have := far (j - i - 1) i (by omega)
  rw [show i + (j - i - 1) + 1 = j by omega, pairAt_get hi, pairAt_get hj] at this
  exact this

/-- Right labels, in plain words. -/
theorem right_up {l : List PairS} : rightLab (labL l) = true ↔ l.length ≤ 8 ∧ Up l := by
  rw [rightLab_iff, labL_len]
  constructor
  · rintro ⟨h8, h⟩
    refine ⟨h8, fun p hp => ?_, up_of_steps fun k hk => ?_⟩
    · obtain ⟨k, hk, rfl⟩ := List.getElem_of_mem hp
      have := (okLab_iff hk).1 (h k hk)
      rw [pairAt_get hk] at this
      exact ⟨this.1, this.2.1⟩
    · have := (okLab_iff hk).1 (h (k + 1) hk)
      exact this.2.2.resolve_left (by omega)
  · rintro ⟨h8, h1, h2⟩
    refine ⟨h8, fun k hk => (okLab_iff hk).2 ?_⟩
    have hm := h1 _ (pairAt_mem hk)
    refine ⟨hm.1, hm.2, ?_⟩
    by_cases h0 : k = 0
    · exact Or.inl h0
    · right
      rw [List.pairwise_iff_getElem] at h2
      have := h2 (k - 1) k (by omega) hk (by omega)
      rwa [← pairAt_get (by omega), ← pairAt_get hk] at this

theorem keys_right : ∀ k, k < 8 → rightL (strAt keysB k).data.toList = true := by decide +kernel
theorem keys_up : ∀ i, i < 8 → ∀ j, j < 8 → i < j → Op.bytesLess (strAt keysB i).data.toList (strAt keysB j).data.toList = true := by decide +kernel
theorem keys_small : ∀ k, k < 8 → (strAt keysB k).size ≤ 6 := by decide +kernel

/-- What is made: names by place, the places rising. -/
theorem madeTo_form (zs : List Int) (h : ∀ z ∈ zs, 0 ≤ z ∧ z ≤ 255) : ∀ k, k ≤ 8 → ∃ is : List (Nat × Nat), madeTo zs k = is.map (fun i => (strAt keysB i.1, strAt keysB i.2)) ∧ (∀ i ∈ is, i.1 < k ∧ i.2 < 8) ∧ is.Pairwise fun i j => i.1 < j.1
  | 0, _ => ⟨[], rfl, by simp, List.Pairwise.nil⟩
  | k + 1, hk => by
    obtain ⟨is, h1, h2, h3⟩ := madeTo_form zs h k (by omega)
    unfold madeTo madeOne
    split
    · refine ⟨is ++ [(k, ((numAt zs k / 3) % 8).toNat)], by rw [h1, List.map_append]; rfl, ?_, ?_⟩
      · intro i hi
        rcases List.mem_append.1 hi with hi | hi
        · have := h2 i hi; omega
        · rw [List.mem_singleton.1 hi]
          simp only
          omega
      · rw [List.pairwise_append]
        refine ⟨h3, List.pairwise_singleton _ _, fun i hi j hj => ?_⟩
        rw [List.mem_singleton.1 hj]
        exact (h2 i hi).1
    · exact ⟨is, by rw [h1, List.append_nil], fun i hi => by have := h2 i hi; omega, h3⟩

theorem made_up (zs : List Int) (h : ∀ z ∈ zs, 0 ≤ z ∧ z ≤ 255) : Up (madeP zs) := by
  obtain ⟨is, h1, h2, h3⟩ := madeTo_form zs h (min zs.length 8) (by omega)
  unfold madeP
  rw [h1]
  refine ⟨fun p hp => ?_, ?_⟩
  · obtain ⟨i, hi, rfl⟩ := List.mem_map.1 hp
    have := h2 i hi
    exact ⟨keys_right _ (by omega), keys_right _ this.2⟩
  · rw [List.pairwise_map]
    refine List.Pairwise.imp_of_mem ?_ h3
    intro i j hi hj hij
    exact keys_up _ (by have := h2 i hi; omega) _ (by have := h2 j hj; omega) hij

theorem made_fit (zs : List Int) (h : ∀ z ∈ zs, 0 ≤ z ∧ z ≤ 255) : FitP (madeP zs) := by
  obtain ⟨is, h1, h2, _⟩ := madeTo_form zs h (min zs.length 8) (by omega)
  unfold madeP
  rw [h1]
  intro p hp
  obtain ⟨i, hi, rfl⟩ := List.mem_map.1 hp
  have := h2 i hi
  have k1 := keys_small i.1 (by omega)
  have k2 := keys_small i.2 this.2
  exact ⟨by simp only; omega, by simp only; omega⟩

theorem made_right4 (zs : List Int) (h : ∀ z ∈ zs, 0 ≤ z ∧ z ≤ 255) : rightLab (labL (madeP zs)) = true := right_up.2 ⟨madeP_len zs, made_up zs h⟩

theorem keyIs_iff {key : ByteArray} {p : PairS} : keyIs key p = true ↔ p.1 = key := bytes_eq

theorem up_ne {l : List PairS} (h : Up l) {i j : Nat} (hi : i < l.length) (hj : j < l.length) (hij : i ≠ j) : (pairAt l i).1 ≠ (pairAt l j).1 := by
  have h2 := h.2
  rw [List.pairwise_iff_getElem] at h2
  rw [pairAt_get hi, pairAt_get hj]
  intro e
  rcases Nat.lt_or_gt_of_ne hij with hl | hl
  · have := h2 i j hi hj hl
    rw [e, ltB_irrefl] at this
    cases this
  · have := h2 j i hj hi hl
    rw [e, ltB_irrefl] at this
    cases this

/-- Each is found by its key. -/
theorem find_at {l : List PairS} (h : Up l) {k : Nat} (hk : k < l.length) : findB l (pairAt l k).1 = ((pairAt l k).2, true) := by
  have : firstP (keyIs (pairAt l k).1) l = some k := firstP_hit noPair hk (fun j hj => by
    rw [Bool.eq_false_iff, Ne, keyIs_iff]
    exact up_ne h (by omega) hk (by omega)) (keyIs_iff.2 rfl)
  unfold findB
  rw [this]

theorem find_none {l : List PairS} {key : ByteArray} (h : l.any (keyIs key) = false) : findB l key = (⟨#[]⟩, false) := by
  unfold findB
  rw [firstP_none.2 h]
theorem find_some {l : List PairS} {key : ByteArray} (h : l.any (keyIs key) = true) : (findB l key).2 = true := by
  unfold findB
  cases hf : firstP (keyIs key) l with
  | none => rw [firstP_none] at hf; rw [hf] at h; cases h
  | some k => rfl

/-- With one twice they are not right. -/
theorem twice_bad {l : List PairS} (h : 0 < l.length) : rightLab (labL (l ++ [pairAt l (l.length - 1)])) = false := by
  rw [Bool.eq_false_iff, Ne, right_up]
  rintro ⟨_, h2⟩
  have := up_ne h2 (i := l.length - 1) (j := l.length) (by simp; omega) (by simp) (by omega)
  apply this
  have e1 : pairAt (l ++ [pairAt l (l.length - 1)]) (l.length - 1) = pairAt l (l.length - 1) := by
    simp only [pairAt, List.getD_eq_getElem?_getD]
    rw [List.getElem?_append_left (by omega)]
  have e2 : pairAt (l ++ [pairAt l (l.length - 1)]) l.length = pairAt l (l.length - 1) := by simp [pairAt]
  rw [e1, e2]

/-- In another order they are right just if there is one alone. -/
theorem turned_right {l : List PairS} (h8 : l.length ≤ 8) (h : Up l) (h0 : 0 < l.length) : rightLab (labL (l.drop 1 ++ [pairAt l 0])) = decide (l.length = 1) := by
  match l, h, h0, h8 with
  | [p], h, _, _ =>
    have hr : rightLab (labL [p]) = true := right_up.2 ⟨by simp, h⟩
    exact hr
  | p :: q :: l, h, _, _ =>
    have : decide ((p :: q :: l).length = 1) = false := by simp
    rw [this, Bool.eq_false_iff, Ne, right_up]
    rintro ⟨_, h2⟩
    have hq := List.pairwise_cons.1 h.2
    have h3 := h2.2
    rw [List.pairwise_append] at h3
    have h4 := h3.2.2 q (by simp) p (by simp [pairAt])
    have h5 := hq.1 q (by simp)
    have := ltB_trans h4 h5
    rw [ltB_irrefl] at this
    cases this
end Go.Dm

namespace Go.Dm
open Go Go.RowKit

theorem putT_short {t : Bs} (h : t.length ≤ 32) : (putT t).length ≤ 42 := by
  have := putL_ten (u := t.length) (Nat.lt_of_le_of_lt h (by decide))
  rw [putT, List.length_append]; omega
theorem putP_short : ∀ {L : List PairL}, (∀ p ∈ L, fitPair p) → (putP L).length ≤ 84 * L.length
  | [], _ => by simp [putP]
  | p :: L, h => by
    have h1 := putT_short (h p (by simp)).1
    have h2 := putT_short (h p (by simp)).2
    have ih := putP_short (L := L) (fun q hq => h q (by simp [hq]))
    have e : putP (p :: L) = (putT p.1 ++ putT p.2) ++ putP L := by simp [putP]
    rw [e, List.length_append, List.length_append, List.length_cons]; omega
theorem putLab_short {L : List PairL} (hr : rightLab L = true) : 1 ≤ (putLab L).length ∧ (putLab L).length ≤ 700 := by
  obtain ⟨f1, f2⟩ := right_fits hr
  have h1 := putP_short f2
  have h2 := putL_ten (u := L.length) (Nat.lt_of_le_of_lt f1 (by decide))
  have h3 := putL_pos L.length
  unfold putLab
  rw [if_pos hr, List.length_append]; omega
theorem u64_of {n : Nat} (h : n ≤ 281474976710656) : U64 n := Nat.lt_of_le_of_lt h (by decide)

/-- Labels that are put stand where they are put. -/
theorem getLab_put {L : List PairL} (hr : rightLab L = true) {rest : Bs} (hl : U64 (putLab L ++ rest).length) : getLabL (putLab L ++ rest) = some (L, (putLab L).length) :=
  (getLab_begins hl).2 ⟨hr, rfl, ⟨rest, rfl⟩⟩
theorem getLabI_put {L : List PairL} (hr : rightLab L = true) {ahead rest : Bs} (hl : U64 (putLab L ++ rest).length) : atI getLabL [] (ahead ++ (putLab L ++ rest)) (ahead.length : Int) = (L, (ahead.length : Int) + ((putLab L).length : Int), true) := by
  unfold atI
  have := (putLab_short hr).1
  rw [if_neg (by rw [List.length_append, List.length_append]; omega), Int.toNat_natCast, List.drop_left, getLab_put hr hl]
theorem getLabI_zero {L : List PairL} (hr : rightLab L = true) {rest : Bs} (hl : U64 (putLab L ++ rest).length) : atI getLabL [] (putLab L ++ rest) 0 = (L, ((putLab L).length : Int), true) := by
  have := getLabI_put hr (ahead := []) hl
  rw [List.nil_append, List.length_nil, Int.natCast_zero, Int.zero_add] at this
  exact this
theorem getI_end {l : Bs} {p : Int} (hp : p < 0 ∨ (l.length : Int) ≤ p) {x : List PairL} {n : Int} {b : Bool} (h : atI getLabL [] l p = (x, n, b)) : b = false := by
  unfold atI at h
  rw [if_pos hp] at h
  injection h with _ h
  injection h with _ h
  exact h.symm
/-- No beginning is got. -/
theorem getLab_torn {L : List PairL} (hr : rightLab L = true) {m : Nat} (hm : m < (putLab L).length) : (atI getLabL [] ((putLab L).take m) 0).2.2 = false := by
  have hs := (putLab_short hr).2
  unfold atI
  split
  · rfl
  · rw [show ((0 : Int)).toNat = 0 from rfl, List.drop_zero]
    cases h : getLabL ((putLab L).take m) with
    | none => rfl
    | some x =>
      exfalso
      obtain ⟨K, n⟩ := x
      obtain ⟨h1, h2, t, h3⟩ := (getLab_begins (u64_of (by rw [List.length_take]; omega))).1 h
      have e1 : getLabL (putLab L) = some (K, n) := (getLab_begins (u64_of (by omega))).2 ⟨h1, h2, t ++ (putLab L).drop m, by rw [← List.append_assoc, h3, List.take_append_drop]⟩
      have e2 := getLab_put hr (rest := []) (u64_of (by simp; omega))
      rw [List.append_nil, e1] at e2
      injection e2 with e2
      injection e2 with _ e2
      have := congrArg List.length h3
      rw [List.length_append, List.length_take] at this
      omega
theorem size_zero {S T : ByteArray} (h : T = S ++ ⟨#[0]⟩) : T.size = S.size + 1 := by
  subst h; rw [ByteArray.size_append]; rfl
theorem data_zero {S T : ByteArray} (h : T = S ++ ⟨#[0]⟩) : T.data.toList = S.data.toList ++ [0] := by
  subst h; simp
theorem append_zero (S : ByteArray) : (S ++ ⟨#[0]⟩ : ByteArray).data.toList = S.data.toList ++ [0] := by simp
end Go.Dm

namespace Go.Dm
open Go Go.RowKit

theorem getLabI_yes {s : Bs} {p n : Int} {L : List PairL} (hU : U64 s.length) (h : atI getLabL [] s p = (L, n, true)) :
    ∃ q m : Nat, p = (q : Int) ∧ n = ((q + m : Nat) : Int) ∧ q + m ≤ s.length ∧ rightLab L = true ∧ (s.drop q).take m = putLab L := by
  unfold atI at h
  split at h
  · cases h
  · rename_i hp
    cases hg : getLabL (s.drop p.toNat) with
    | none => rw [hg] at h; cases h
    | some x =>
      obtain ⟨K, m⟩ := x
      rw [hg] at h
      injection h with h1 h2
      injection h2 with h2 _
      subst h1
      obtain ⟨a1, rfl, t, a3⟩ := (getLab_begins (hU.drop _)).1 hg
      refine ⟨p.toNat, (putLab K).length, by omega, by omega, ?_, a1, by rw [← a3, List.take_left]⟩
      have := congrArg List.length a3
      rw [List.length_append, List.length_drop] at this
      omega
theorem getLabI_no {s : Bs} {p n : Int} {L : List PairL} (h : atI getLabL [] s p = (L, n, false)) : L = [] ∧ n = 0 := by
  unfold atI at h
  split at h
  · injection h with h1 h2
    injection h2 with h2 _
    exact ⟨h1.symm, h2.symm⟩
  · cases hg : getLabL (s.drop p.toNat) with
    | none =>
      rw [hg] at h
      injection h with h1 h2
      injection h2 with h2 _
      exact ⟨h1.symm, h2.symm⟩
    | some x => rw [hg] at h; cases h

/-- Two that are put one behind the other stand there. -/
theorem back_one {A B : List PairL} (hA : rightLab A = true) (hB : rightLab B = true) {S ahead behind : Bs} (hS : S = ((ahead ++ putLab A) ++ putLab B) ++ behind) (_ha : ahead.length ≤ 140737488351232) (hb : behind.length ≤ 140737488351232) :
    atI getLabL [] S (ahead.length : Int) = (A, (ahead.length : Int) + ((putLab A).length : Int), true) := by
  have h1 := putLab_short hA
  have h2 := putLab_short hB
  rw [hS, List.append_assoc, List.append_assoc]
  exact getLabI_put hA (u64_of (by simp only [List.length_append]; omega))
theorem back_two {A B : List PairL} (hA : rightLab A = true) (hB : rightLab B = true) {S ahead behind : Bs} (hS : S = ((ahead ++ putLab A) ++ putLab B) ++ behind) (_ha : ahead.length ≤ 140737488351232) (hb : behind.length ≤ 140737488351232) :
    atI getLabL [] S ((ahead.length : Int) + ((putLab A).length : Int)) = (B, ((ahead.length : Int) + ((putLab A).length : Int)) + ((putLab B).length : Int), true) := by
  have h1 := putLab_short hA
  have h2 := putLab_short hB
  rw [hS, List.append_assoc]
  have := getLabI_put hB (ahead := ahead ++ putLab A) (rest := behind) (u64_of (by simp only [List.length_append]; omega))
  rw [List.length_append, Int.natCast_add] at this
  exact this
/-- What is put alike is the same. -/
theorem put_inj {A B : List PairL} (hA : rightLab A = true) (hB : rightLab B = true) (h : putLab A = putLab B) : A = B := by
  have h1 := getLab_put hA (rest := []) (u64_of (by have := putLab_short hA; simp; omega))
  rw [h, getLab_put hB (u64_of (by have := putLab_short hB; simp; omega))] at h1
  injection h1 with h1
  injection h1 with h1 _
  exact h1.symm
end Go.Dm

namespace Go.Dm
open Go Go.RowKit

section
variable {α : Type} {g : Bs → Option (α × Nat)} {put : α → Bs} {fit : α → Prop}
theorem reads_beginsG (G : ∀ (l : Bs) (x : α) (n : Nat), U64 l.length → (g l = some (x, n) ↔ fit x ∧ n = (put x).length ∧ Begins (put x) l)) {l : Bs} {q : Nat} (hl : U64 l.length) :
    ∀ (i : Nat) (L : List α) (r : Nat), readsL g l q i = some (L, r) ↔ L.length = i ∧ (∀ p ∈ L, fit p) ∧ r = q + (L.flatMap put).length ∧ Begins (L.flatMap put) (l.drop q)
  | 0, L, r => by
    constructor
    · intro h
      injection h with h
      injection h with h1 h2
      subst h1 h2
      exact ⟨rfl, (fun p hp => by simp at hp), rfl, begins_nil _⟩
    · rintro ⟨h1, _, h3, _⟩
      obtain rfl := List.length_eq_zero_iff.1 h1
      subst h3
      rfl
  | i + 1, L, r => by
    have snoc : ∀ (K : List α) (p : α), (K ++ [p]).flatMap put = K.flatMap put ++ put p := fun K p => by simp
    constructor
    · intro h
      rw [readsL] at h
      cases h1 : readsL g l q i with
      | none => rw [h1] at h; cases h
      | some x =>
        obtain ⟨K, k⟩ := x
        rw [h1] at h
        simp only at h
        cases h2 : g (l.drop k) with
        | none => rw [h2] at h; cases h
        | some y =>
          obtain ⟨p, m⟩ := y
          rw [h2] at h
          injection h with h
          injection h with e1 e2
          subst e1 e2
          obtain ⟨a1, a2, rfl, a4⟩ := (reads_beginsG G hl i K k).1 h1
          obtain ⟨b1, rfl, b3⟩ := (G _ _ _ (hl.drop _)).1 h2
          refine ⟨by simp [a1], fun x hx => ?_, by rw [snoc, List.length_append]; omega, ?_⟩
          · rcases List.mem_append.1 hx with hx | hx
            · exact a2 x hx
            · rw [List.mem_singleton] at hx; subst hx; exact b1
          · rw [snoc, begins_app, List.drop_drop]
            exact ⟨a4, b3⟩
    · rintro ⟨h1, h2, rfl, h4⟩
      rcases List.eq_nil_or_concat L with rfl | ⟨K, p, rfl⟩
      · simp at h1
      · rw [List.concat_eq_append] at *
        rw [snoc, begins_app, List.drop_drop] at h4
        have hK := (reads_beginsG G hl i K (q + (K.flatMap put).length)).2 ⟨by simpa using h1, fun x hx => h2 x (List.mem_append_left _ hx), rfl, h4.1⟩
        have hp := (G _ _ _ (hl.drop _)).2 ⟨h2 p (by simp), rfl, h4.2⟩
        rw [readsL, hK]
        simp only [hp]
        rw [snoc, List.length_append]
        simp [Nat.add_assoc]
theorem some_beginsG (G : ∀ (l : Bs) (x : α) (n : Nat), U64 l.length → (g l = some (x, n) ↔ fit x ∧ n = (put x).length ∧ Begins (put x) l)) {most : Nat} (hm : U64 most) {l : Bs} {L : List α} {n : Nat} (hl : U64 l.length) :
    someL g most l = some (L, n) ↔ L.length ≤ most ∧ (∀ p ∈ L, fit p) ∧ n = (putL L.length ++ L.flatMap put).length ∧ Begins (putL L.length ++ L.flatMap put) l := by
  rw [begins_app, List.length_append]
  constructor
  · intro h
    cases hg : getL l with
    | none => rw [someL_none hg] at h; cases h
    | some x =>
      obtain ⟨u, k⟩ := x
      rw [someL_some hg] at h
      split at h
      · rename_i hu
        obtain ⟨a1, rfl, a3⟩ := getL_begins.1 hg
        obtain ⟨rfl, b2, rfl, b4⟩ := (reads_beginsG G hl _ _ _).1 h
        exact ⟨hu, b2, rfl, a3, b4⟩
      · cases h
  · rintro ⟨h1, h2, rfl, h4, h5⟩
    have hg := getL_begins.2 ⟨show U64 L.length from Nat.lt_of_le_of_lt h1 hm, rfl, h4⟩
    rw [someL_some hg, if_pos h1]
    exact (reads_beginsG G hl _ _ _).2 ⟨rfl, h2, rfl, h5⟩
end

abbrev TermB := Bs × Bool × List Bs
def numB (T : TermB) : Nat := 2 * T.2.2.length + (if T.2.1 then 1 else 0)
def putTerm (T : TermB) : Bs := (putT T.1 ++ putL (numB T)) ++ T.2.2.flatMap putT
def fitTerm (T : TermB) : Prop := T.1.length ≤ 32 ∧ T.2.2.length ≤ 4 ∧ ∀ x ∈ T.2.2, x.length ≤ 32
theorem term_begins (l : Bs) (T : TermB) (n : Nat) (hl : U64 l.length) : getTermL l = some (T, n) ↔ fitTerm T ∧ n = (putTerm T).length ∧ Begins (putTerm T) l := by
  unfold putTerm
  rw [begins_app, begins_app, List.length_append, List.length_append]
  constructor
  · intro h
    have hf := getTermL_fit h
    refine ⟨hf, ?_⟩
    cases hT : getTextL 32 l with
    | none => rw [getTermL_no1 hT] at h; cases h
    | some x =>
      obtain ⟨k, n1⟩ := x
      cases hN : getL (l.drop n1) with
      | none => rw [getTermL_no2 hT hN] at h; cases h
      | some x =>
        obtain ⟨u, m⟩ := x
        rw [getTermL_mid hT hN] at h
        split at h
        · cases hr : readsL (getTextL 32) l (n1 + m) (u / 2) with
          | none => rw [hr] at h; cases h
          | some y =>
            obtain ⟨vs, r⟩ := y
            rw [hr] at h
            injection h with h
            injection h with h1 h2
            subst h1 h2
            obtain ⟨a1, rfl, a3⟩ := (getText_begins hl).1 hT
            obtain ⟨b1, rfl, b3⟩ := getL_begins.1 hN
            obtain ⟨c1, c2, rfl, c4⟩ := (reads_beginsG (g := getTextL 32) (put := putT) (fit := fun t => t.length ≤ 32) (fun l x n hl => getText_begins hl) hl _ _ _).1 hr
            have hu : numB (k, u % 2 == 1, vs) = u := by
              unfold numB
              simp only
              by_cases h1 : u % 2 = 1
              · rw [if_pos (by simpa using h1)]; omega
              · rw [if_neg (by simpa using h1)]; omega
            rw [hu]
            exact ⟨rfl, ⟨a3, b3⟩, c4⟩
        · cases h
  · rintro ⟨⟨f1, f2, f3⟩, rfl, ⟨h1, h2⟩, h3⟩
    obtain ⟨k, no, vs⟩ := T
    simp only at f1 f2 f3 h1 h2 h3
    have hT := (getText_begins hl).2 ⟨f1, rfl, h1⟩
    have hu9 : numB (k, no, vs) ≤ 9 := by unfold numB; simp only; split <;> omega
    have hN := getL_begins.2 ⟨show U64 (numB (k, no, vs)) from Nat.lt_of_le_of_lt hu9 (by decide), rfl, h2⟩
    have hd : numB (k, no, vs) / 2 = vs.length := by unfold numB; simp only; split <;> omega
    have hm : (numB (k, no, vs) % 2 == 1) = no := by
      unfold numB; simp only
      cases no with
      | true => simp
      | false => simp
    have hr := (reads_beginsG (g := getTextL 32) (put := putT) (fit := fun t => t.length ≤ 32) (fun l x n hl => getText_begins hl) hl vs.length vs _).2 ⟨rfl, f3, rfl, h3⟩
    rw [getTermL_mid hT hN, if_pos hu9, hd, hr, hm]

def unT (t : TermS) : TermB := (bS t.1, t.2.1, t.2.2.map bS)
theorem mk_bS (x : ByteArray) : (⟨(bS x).toArray⟩ : ByteArray) = x := by cases x; simp [bS]
theorem mk_un (t : TermS) : mkT (unT t) = t := by
  obtain ⟨k, no, vs⟩ := t
  have e : (vs.map bS).map (fun x => (⟨x.toArray⟩ : ByteArray)) = vs := by
    rw [List.map_map]
    conv => rhs; rw [← List.map_id vs]
    exact List.map_congr_left fun x _ => mk_bS x
  show ((⟨(bS k).toArray⟩ : ByteArray), no, (vs.map bS).map (fun x => (⟨x.toArray⟩ : ByteArray))) = (k, no, vs)
  rw [e, mk_bS]
theorem un_mk (T : TermB) : unT (mkT T) = T := by
  obtain ⟨k, no, vs⟩ := T
  have e : (vs.map (fun x => (⟨x.toArray⟩ : ByteArray))).map bS = vs := by
    rw [List.map_map]
    conv => rhs; rw [← List.map_id vs]
    exact List.map_congr_left fun x _ => rfl
  show (bS ⟨k.toArray⟩, no, (vs.map (fun x => (⟨x.toArray⟩ : ByteArray))).map bS) = (k, no, vs)
  rw [e]; rfl
theorem mk_uns (S : List TermS) : (S.map unT).map mkT = S := by
  rw [List.map_map]
  conv => rhs; rw [← List.map_id S]
  exact List.map_congr_left fun t _ => mk_un t
theorem un_mks (T : List TermB) : (T.map mkT).map unT = T := by
  rw [List.map_map]
  conv => rhs; rw [← List.map_id T]
  exact List.map_congr_left fun t _ => un_mk t
theorem putTerm_un (t : TermS) : putTerm (unT t) = putTm t := by
  unfold putTerm putTm unT numB numT putVals
  simp only [List.length_map]
  rw [List.flatMap_map]
theorem putTerms_un (S : List TermS) : (S.map unT).flatMap putTerm = putTms S := by
  rw [List.flatMap_map]
  unfold putTms
  congr 1
  funext t
  exact putTerm_un t
theorem rightS_fit {S : List TermS} (h : rightS S = true) : S.length ≤ 4 ∧ ∀ p ∈ S.map unT, fitTerm p := by
  obtain ⟨h1, h2⟩ := rightS_iff.1 h
  refine ⟨h1, fun p hp => ?_⟩
  obtain ⟨t, ht, rfl⟩ := List.mem_map.1 hp
  obtain ⟨f1, f2, f3⟩ := rightT_sizes (h2 t ht)
  refine ⟨f1, by show (t.2.2.map bS).length ≤ 4; rw [List.length_map]; exact f2, fun x hx => ?_⟩
  obtain ⟨y, hy, rfl⟩ := List.mem_map.1 hx
  exact f3 y hy
/-- What is got is right, and what was put; what was put is got. -/
theorem sel_begins {l : Bs} {S : List TermS} {n : Nat} (hl : U64 l.length) : getSelL l = some (S.map unT, n) ↔ rightS S = true ∧ n = (putS S).length ∧ Begins (putS S) l := by
  have hput : rightS S = true → putS S = putL (S.map unT).length ++ (S.map unT).flatMap putTerm := fun hr => by
    unfold putS; rw [if_pos hr, putTerms_un, List.length_map]
  constructor
  · intro h
    cases hg : someL getTermL 4 l with
    | none => rw [getSelL_none hg] at h; cases h
    | some x =>
      obtain ⟨K, k⟩ := x
      rw [getSelL_some hg] at h
      split at h
      · rename_i hr
        injection h with h
        injection h with e1 e2
        subst e1 e2
        rw [mk_uns] at hr
        obtain ⟨_, _, rfl, h4⟩ := (some_beginsG term_begins (most := 4) (u64_of (by decide)) hl).1 hg
        rw [hput hr]
        exact ⟨hr, rfl, h4⟩
      · cases h
  · rintro ⟨hr, rfl, h3⟩
    obtain ⟨f1, f2⟩ := rightS_fit hr
    rw [hput hr] at h3 ⊢
    have hg := (some_beginsG term_begins (most := 4) (u64_of (by decide)) hl).2 ⟨by rw [List.length_map]; exact f1, f2, rfl, h3⟩
    rw [getSelL_some hg, mk_uns, if_pos hr]

theorem putTms_short : ∀ {S : List TermS}, (∀ t ∈ S, rightT t = true) → (putTms S).length ≤ 230 * S.length
  | [], _ => by simp [putTms]
  | t :: S, h => by
    obtain ⟨f1, f2, f3⟩ := rightT_sizes (h t (by simp))
    have h1 := putT_short (t := bS t.1) f1
    have h2 := putL_ten (u := numT t) (Nat.lt_of_le_of_lt (show numT t ≤ 9 by unfold numT; split <;> omega) (by decide))
    have h3 : ∀ (vs : List ByteArray), (∀ x ∈ vs, x.size ≤ 32) → (putVals vs).length ≤ 42 * vs.length := by
      intro vs
      induction vs with
      | nil => intro _; simp [putVals]
      | cons v vs ih =>
        intro hv
        have a1 := putT_short (t := bS v) (hv v (by simp))
        have a2 := ih (fun x hx => hv x (by simp [hx]))
        have e : putVals (v :: vs) = putT (bS v) ++ putVals vs := by simp [putVals]
        rw [e, List.length_append, List.length_cons]; omega
    have h4 := h3 _ f3
    have ih := putTms_short (S := S) (fun q hq => h q (by simp [hq]))
    have e : putTms (t :: S) = putTm t ++ putTms S := by simp [putTms]
    have e2 : (putTm t).length = (putT (bS t.1)).length + (putL (numT t)).length + (putVals t.2.2).length := by unfold putTm; rw [List.length_append, List.length_append]
    rw [e, List.length_append, List.length_cons, e2]; omega
theorem putS_short {S : List TermS} (hr : rightS S = true) : 1 ≤ (putS S).length ∧ (putS S).length ≤ 1000 := by
  obtain ⟨f1, f2⟩ := rightS_iff.1 hr
  have h1 := putTms_short f2
  have h2 := putL_ten (u := S.length) (Nat.lt_of_le_of_lt f1 (by decide))
  have h3 := putL_pos S.length
  unfold putS
  rw [if_pos hr, List.length_append]; omega
theorem putS_bad {S : List TermS} (hr : rightS S = false) : putS S = [] := by unfold putS; rw [hr]; rfl
theorem textS_bad {S : List TermS} (hr : rightS S = false) : textS S = [63] := by unfold textS; rw [hr]; rfl
theorem getSel_put {S : List TermS} (hr : rightS S = true) {rest : Bs} (hl : U64 (putS S ++ rest).length) : getSelL (putS S ++ rest) = some (S.map unT, (putS S).length) :=
  (sel_begins hl).2 ⟨hr, rfl, ⟨rest, rfl⟩⟩
theorem getSelI_put {S : List TermS} (hr : rightS S = true) {ahead rest : Bs} (hl : U64 (putS S ++ rest).length) : atI getSelL [] (ahead ++ (putS S ++ rest)) (ahead.length : Int) = (S.map unT, (ahead.length : Int) + ((putS S).length : Int), true) := by
  unfold atI
  have := (putS_short hr).1
  rw [if_neg (by rw [List.length_append, List.length_append]; omega), Int.toNat_natCast, List.drop_left, getSel_put hr hl]
theorem sback_one {A B : List TermS} (hA : rightS A = true) (hB : rightS B = true) {S ahead behind : Bs} (hS : S = ((ahead ++ putS A) ++ putS B) ++ behind) (hb : behind.length ≤ 140737488351232) :
    atI getSelL [] S (ahead.length : Int) = (A.map unT, (ahead.length : Int) + ((putS A).length : Int), true) := by
  have h1 := putS_short hA
  have h2 := putS_short hB
  rw [hS, List.append_assoc, List.append_assoc]
  exact getSelI_put hA (u64_of (by simp only [List.length_append]; omega))
theorem sback_two {A B : List TermS} (hA : rightS A = true) (hB : rightS B = true) {S ahead behind : Bs} (hS : S = ((ahead ++ putS A) ++ putS B) ++ behind) (hb : behind.length ≤ 140737488351232) :
    atI getSelL [] S ((ahead.length : Int) + ((putS A).length : Int)) = (B.map unT, ((ahead.length : Int) + ((putS A).length : Int)) + ((putS B).length : Int), true) := by
  have h1 := putS_short hA
  have h2 := putS_short hB
  rw [hS, List.append_assoc]
  have := getSelI_put hB (ahead := ahead ++ putS A) (rest := behind) (u64_of (by simp only [List.length_append]; omega))
  rw [List.length_append, Int.natCast_add] at this
  exact this
theorem sput_inj {A B : List TermS} (hA : rightS A = true) (hB : rightS B = true) (h : putS A = putS B) : A = B := by
  have h1 := getSel_put hA (rest := []) (u64_of (by have := putS_short hA; simp; omega))
  rw [h, getSel_put hB (u64_of (by have := putS_short hB; simp; omega))] at h1
  injection h1 with h1
  injection h1 with h1 _
  have := congrArg (List.map mkT) h1
  rw [mk_uns, mk_uns] at this
  exact this.symm
theorem getSelI_yes {s : Bs} {p n : Int} {T : List TermB} (hU : U64 s.length) (h : atI getSelL [] s p = (T, n, true)) :
    ∃ q m : Nat, p = (q : Int) ∧ n = ((q + m : Nat) : Int) ∧ q + m ≤ s.length ∧ rightS (T.map mkT) = true ∧ (s.drop q).take m = putS (T.map mkT) := by
  unfold atI at h
  split at h
  · cases h
  · rename_i hp
    cases hg : getSelL (s.drop p.toNat) with
    | none => rw [hg] at h; cases h
    | some x =>
      obtain ⟨K, m⟩ := x
      rw [hg] at h
      injection h with h1 h2
      injection h2 with h2 _
      subst h1
      rw [← un_mks K] at hg
      obtain ⟨a1, rfl, t, a3⟩ := (sel_begins (hU.drop _)).1 hg
      refine ⟨p.toNat, (putS (K.map mkT)).length, by omega, by omega, ?_, a1, by rw [← a3, List.take_left]⟩
      have := congrArg List.length a3
      rw [List.length_append, List.length_drop] at this
      omega
theorem getSelI_not {s : Bs} {p n : Int} {T : List TermB} (h : atI getSelL [] s p = (T, n, false)) : T = [] ∧ n = 0 := by
  unfold atI at h
  split at h
  · injection h with h1 h2
    injection h2 with h2 _
    exact ⟨h1.symm, h2.symm⟩
  · cases hg : getSelL (s.drop p.toNat) with
    | none =>
      rw [hg] at h
      injection h with h1 h2
      injection h2 with h2 _
      exact ⟨h1.symm, h2.symm⟩
    | some x => rw [hg] at h; cases h
end Go.Dm

namespace Go.Dm
open Go Go.RowKit

theorem head_no {c : UInt8} {l : Bs} (h : c ∉ l) : l.head? ≠ some c := fun e => h (List.mem_of_mem_head? (by rw [e]; rfl))
theorem last_no {c : UInt8} {l : Bs} (h : c ∉ l) : l.getLast? ≠ some c := fun e => h (List.mem_of_mem_getLast? (by rw [e]; rfl))
/-- A term as it is read is that term. -/
theorem term_text {t : TermS} (h : rightT t = true) : termL (textTm t) = unT t := by
  obtain ⟨k, no, vs⟩ := t
  have hk := (rightT_iff.1 h).2.1
  have hv := rightT_val h
  simp only at hk hv
  have k1 := no_not hk
  have k2 := no_is hk
  have hne : bS k ≠ [] := fun e => by rw [e, right_nil] at hk; cases hk
  unfold textTm unT
  simp only
  by_cases h0 : vs = []
  · subst h0
    cases no with
    | true => simp [termL]
    | false =>
      simp only [List.isEmpty_nil, if_true, Bool.false_eq_true, if_false, List.map_nil]
      unfold termL
      rw [if_neg (head_no k1), cutC_none k2, if_pos rfl]
  · have hvs : (splitC 124 (joinB vs 124)) = vs.map bS := by
      unfold joinB
      rw [splitC_join (by simpa using h0) (fun p hp => ?_)]
      · rfl
      · obtain ⟨x, hx, rfl⟩ := List.mem_map.1 hp
        exact no_bar (hv x hx)
    have he : vs.isEmpty = false := List.isEmpty_eq_false_iff.2 h0
    rw [he]
    obtain ⟨a, l, hal⟩ : ∃ a l, bS k = a :: l := by
      cases hb : bS k with
      | nil => exact absurd hb hne
      | cons a l => exact ⟨a, l, rfl⟩
    have ha : a ≠ 33 := fun e => k1 (by rw [hal, e]; simp)
    cases no with
    | true =>
      have e1 : bS k ++ 33 :: 61 :: joinB vs 124 = (bS k ++ [33]) ++ 61 :: joinB vs 124 := by simp
      have h61 : (61 : UInt8) ∉ bS k ++ [33] := by
        rw [List.mem_append]; rintro (h | h)
        · exact k2 h
        · exact absurd h (by decide)
      simp only [Bool.false_eq_true, if_false, if_true]
      unfold termL
      rw [if_neg (by rw [hal]; simpa using ha), e1, cutC_at h61]
      simp only [Bool.true_eq_false, if_false]
      rw [if_pos (by simp), hvs]
      simp
    | false =>
      simp only [Bool.false_eq_true, if_false]
      unfold termL
      rw [if_neg (by rw [hal]; simpa using ha), cutC_at k2]
      simp only [Bool.true_eq_false, if_false]
      rw [if_neg (last_no k1), hvs]
theorem term_no_comma {t : TermS} (h : rightT t = true) : (44 : UInt8) ∉ textTm t := by
  have hk := no_comma (rightT_iff.1 h).2.1
  have hj : (44 : UInt8) ∉ joinB t.2.2 124 := by
    have hv := rightT_val h
    generalize t.2.2 = vs at hv
    unfold joinB
    induction vs with
    | nil => simp [Lib.join]
    | cons v vs ih =>
      have h1 := no_comma (hv v (by simp))
      have ih := ih (fun x hx => hv x (by simp [hx]))
      cases vs with
      | nil => rw [List.map_cons, List.map_nil, Lib.join_one]; exact h1
      | cons w ws =>
        have : Lib.join ((v :: w :: ws).map (·.data.toList)) [124] = v.data.toList ++ 124 :: Lib.join ((w :: ws).map (·.data.toList)) [124] := by simp [Lib.join_cons, Lib.joinTail]
        rw [this, List.mem_append, List.mem_cons]
        rintro (h | h | h)
        · exact h1 h
        · exact absurd h (by decide)
        · exact ih h
  unfold textTm
  split
  · split
    · rw [List.mem_cons]; rintro (h | h)
      · exact absurd h (by decide)
      · exact hk h
    · exact hk
  · split
    · rw [List.mem_append, List.mem_cons, List.mem_cons]; rintro (h | h | h | h)
      · exact hk h
      · exact absurd h (by decide)
      · exact absurd h (by decide)
      · exact hj h
    · rw [List.mem_append, List.mem_cons]; rintro (h | h | h)
      · exact hk h
      · exact absurd h (by decide)
      · exact hj h
theorem textS_many {S : List TermS} (hr : rightS S = true) (h : S ≠ []) : textS S = Lib.join (S.map textTm) [44] := by
  unfold textS
  rw [if_pos hr, if_neg (by simpa using h)]
theorem terms_text {S : List TermS} (hr : rightS S = true) (h : S ≠ []) : termsL (textS S) = S := by
  have hn := (rightS_iff.1 hr).2
  unfold termsL
  rw [textS_many hr h, splitC_join (by simpa using h) (fun p hp => ?_), List.map_map]
  · conv => rhs; rw [← List.map_id S]
    refine List.map_congr_left fun t ht => ?_
    show mkT (termL (textTm t)) = t
    rw [term_text (hn t ht), mk_un]
  · obtain ⟨t, ht, rfl⟩ := List.mem_map.1 hp
    exact term_no_comma (hn t ht)
theorem sparse_text {S : List TermS} (hr : rightS S = true) : parseS (textS S) = (S, true) := by
  by_cases h : S = []
  · subst h; rfl
  · have ht := terms_text hr h
    have hne : textS S ≠ [45] := by
      intro e
      rw [e] at ht
      have : termsL [45] = [(⟨#[45]⟩, false, [])] := by decide +kernel
      rw [this] at ht
      rw [← ht] at hr
      exact absurd hr (by decide +kernel)
    rw [parseS_good hne (by rw [ht]; exact hr) (by rw [ht]), ht]
theorem stext_inj {A B : List TermS} (hA : rightS A = true) (hB : rightS B = true) (h : textS A = textS B) : A = B := by
  have h1 := sparse_text hA
  rw [h, sparse_text hB] at h1
  exact ((Prod.mk.inj h1).1).symm
theorem stext_parse {t : Bs} {S : List TermS} (h : parseS t = (S, true)) : rightS S = true ∧ textS S = t := by
  unfold parseS at h
  split at h
  · rename_i h45
    obtain rfl := (Prod.mk.inj h).1
    subst h45
    exact ⟨rfl, rfl⟩
  · split at h
    · rename_i hr
      obtain rfl := (Prod.mk.inj h).1
      exact hr
    · cases (Prod.mk.inj h).2
theorem sparse_no {t : Bs} {S : List TermS} (h : parseS t = (S, false)) : S = [] := by
  unfold parseS at h
  split at h
  · cases (Prod.mk.inj h).2
  · split at h
    · cases (Prod.mk.inj h).2
    · exact ((Prod.mk.inj h).1).symm
theorem textS_wrong {S : List TermS} (hr : rightS S = true) : textS S ≠ [63] := fun e => by
  have h := sparse_text hr
  rw [e] at h
  have : parseS [63] = ([], false) := by decide +kernel
  rw [this] at h
  cases (Prod.mk.inj h).2
theorem putS_some {S : List TermS} (hr : rightS S = true) : putS S ≠ [] := fun e => by
  have := (putS_short hr).1
  rw [e] at this
  simp at this
theorem textS_short {S : List TermS} (hr : rightS S = true) : (textS S).length ≤ 1000 := by
  by_cases h : S = []
  · subst h; decide
  · have h4 := (rightS_iff.1 hr).1
    rw [textS_many hr h]
    have := join_len (c := 44) (n := 170) (xs := S.map textTm) (fun x hx => by
      obtain ⟨t, ht, rfl⟩ := List.mem_map.1 hx
      exact textTmB_short (rightT_sizes ((rightS_iff.1 hr).2 t ht)))
    rw [List.length_map] at this
    omega
end Go.Dm
