/- Texts one behind the other: Chapter 5 in plain terms: the document's terms of a text. No program in sight. -/
import Derived.Test.YthmhalcloogniaaGreatDoorT27
import Derived.Test.YthmhalcloogniaaGreatDoorT9
namespace Go.Dm
open Go Go.RowKit

/-- The document's term of a text. -/
def oneL (x : Bs) : TermB :=
  if x.head? = some 33 then (x.drop 1, true, [])
  else match splitC 61 x with
    | [p, r] => if p.getLast? = some 33 then (p.dropLast, true, splitC 124 r) else (p, false, splitC 124 r)
    | _ => (x, false, [])
theorem oneL_pre {x : Bs} (h : x.head? = some 33) : oneL x = (x.drop 1, true, []) := by unfold oneL; rw [if_pos h]
theorem oneL_two {x p r : Bs} (h : ¬ x.head? = some 33) (h2 : splitC 61 x = [p, r]) : oneL x = if p.getLast? = some 33 then (p.dropLast, true, splitC 124 r) else (p, false, splitC 124 r) := by
  unfold oneL; rw [if_neg h, h2]
theorem oneL_other {x : Bs} (h : ¬ x.head? = some 33) (h2 : (splitC 61 x).length ≠ 2) : oneL x = (x, false, []) := by
  unfold oneL; rw [if_neg h]
  split
  · rename_i p r e; rw [e] at h2; exact absurd rfl h2
  · rfl
theorem mem_split {c d : UInt8} (hcd : c ≠ d) : ∀ {l : Bs}, c ∈ l → ∃ p ∈ splitC d l, c ∈ p
  | a :: l, h => by
    unfold splitC
    split
    · rename_i ha
      rcases List.mem_cons.1 h with rfl | h
      · exact absurd ha hcd
      · obtain ⟨p, hp, hc⟩ := mem_split hcd h
        exact ⟨p, List.mem_cons_of_mem _ hp, hc⟩
    · split
      · rename_i he
        exact absurd he (splitC_ne d l)
      · rename_i p ps he
        rcases List.mem_cons.1 h with rfl | h
        · exact ⟨c :: p, by simp, by simp⟩
        · obtain ⟨q, hq, hc⟩ := mem_split hcd h
          rw [he] at hq
          rcases List.mem_cons.1 hq with rfl | hq
          · exact ⟨a :: q, by simp, by simp [hc]⟩
          · exact ⟨q, List.mem_cons_of_mem _ hq, hc⟩
theorem one_term (x : Bs) : oneL x = termL x ∨ (rightT (mkT (oneL x)) = false ∧ rightT (mkT (termL x)) = false) := by
  by_cases h : x.head? = some 33
  · left; rw [oneL_pre h]; unfold termL; rw [if_pos h]
  · rcases cut_atC 61 x with h1 | ⟨p, r, h1, rfl⟩
    · left
      rw [oneL_other h (by rw [splitC_none h1]; simp)]
      unfold termL
      rw [if_neg h, cutC_none h1, if_pos rfl]
    · have ht : termL (p ++ 61 :: r) = if p.getLast? = some 33 then (p.dropLast, true, splitC 124 r) else (p, false, splitC 124 r) := by
        unfold termL
        rw [if_neg h, cutC_at h1]
        simp only [Bool.true_eq_false, if_false]
      by_cases h2 : (61 : UInt8) ∈ r
      · right
        have hn : (splitC 61 (p ++ 61 :: r)).length ≠ 2 := by
          rw [splitC_at h1, List.length_cons]
          rcases cut_atC 61 r with h3 | ⟨p2, r2, h3, rfl⟩
          · exact absurd h2 h3
          · rw [splitC_at h3, List.length_cons]
            have := splitC_ne 61 r2
            have : (splitC 61 r2).length ≠ 0 := fun e => this (List.length_eq_zero_iff.1 e)
            omega
        constructor
        · rw [oneL_other h hn, Bool.eq_false_iff, Ne]
          intro hr
          have hk : rightL (p ++ 61 :: r) = true := (rightT_iff.1 hr).2.1
          exact no_is hk (by simp)
        · rw [ht, Bool.eq_false_iff, Ne]
          intro hr
          obtain ⟨v, hv, hc⟩ := mem_split (c := 61) (d := 124) (by decide) h2
          have hm : (⟨v.toArray⟩ : ByteArray) ∈ (mkT (if p.getLast? = some 33 then (p.dropLast, true, splitC 124 r) else (p, false, splitC 124 r))).2.2 := by
            split
            · exact List.mem_map_of_mem (f := fun x : Bs => (⟨x.toArray⟩ : ByteArray)) hv
            · exact List.mem_map_of_mem (f := fun x : Bs => (⟨x.toArray⟩ : ByteArray)) hv
          have : rightL v = true := rightT_val hr _ hm
          exact no_is this hc
      · left
        rw [oneL_two h (by rw [splitC_at h1, splitC_none h2]), ht]
def onesL (t : Bs) : List TermS := (splitC 44 t).map fun x => mkT (oneL x)
theorem ones_terms (t : Bs) : onesL t = termsL t ∨ (rightS (onesL t) = false ∧ rightS (termsL t) = false) := by
  by_cases h : ∀ x ∈ splitC 44 t, oneL x = termL x
  · left
    exact List.map_congr_left fun x hx => by rw [h x hx]
  · right
    obtain ⟨x, hx, hne⟩ : ∃ x ∈ splitC 44 t, oneL x ≠ termL x := by
      apply Classical.byContradiction
      intro hc
      exact h fun x hx => Classical.byContradiction fun hn => hc ⟨x, hx, hn⟩
    obtain ⟨h1, h2⟩ := (one_term x).resolve_left hne
    constructor
    · rw [Bool.eq_false_iff, Ne, rightS_iff]
      rintro ⟨_, ha⟩
      rw [ha _ (List.mem_map_of_mem (f := fun x => mkT (oneL x)) hx)] at h1
      cases h1
    · rw [Bool.eq_false_iff, Ne, rightS_iff]
      rintro ⟨_, ha⟩
      rw [ha _ (List.mem_map_of_mem (f := fun x => mkT (termL x)) hx)] at h2
      cases h2
theorem parseO_bad {t : Bs} (h : t ≠ [45]) (hr : rightS (onesL t) = false) : parseS t = ([], false) := by
  rcases ones_terms t with e | ⟨_, e⟩
  · exact parseS_bad h (by rw [← e]; exact hr)
  · exact parseS_bad h e
theorem parseO_other {t : Bs} (h : t ≠ [45]) (hr : rightS (onesL t) = true) (ht : textS (onesL t) ≠ t) : parseS t = ([], false) := by
  rcases ones_terms t with e | ⟨e, _⟩
  · exact parseS_other h (by rw [← e]; exact ht)
  · rw [hr] at e; cases e
theorem parseO_good {t : Bs} (h : t ≠ [45]) (hr : rightS (onesL t) = true) (ht : textS (onesL t) = t) : parseS t = (onesL t, true) := by
  rcases ones_terms t with e | ⟨e, _⟩
  · rw [e] at hr ht ⊢
    exact parseS_good h hr ht
  · rw [hr] at e; cases e
theorem oneL_fit (x : ByteArray) : (mkT (oneL x.data.toList)).1.size ≤ x.size ∧ (mkT (oneL x.data.toList)).2.2.length ≤ x.size + 1 ∧ ∀ y ∈ (mkT (oneL x.data.toList)).2.2, y.size ≤ x.size := by
  rcases one_term x.data.toList with e | ⟨_, _⟩
  · rw [e]; exact termL_fit x
  · have hx := size_len x
    by_cases h : x.data.toList.head? = some 33
    · rw [oneL_pre h]
      refine ⟨?_, by simp [mkT], by simp [mkT]⟩
      show (x.data.toList.drop 1).length ≤ x.size
      rw [List.length_drop]; omega
    · by_cases h2 : (splitC 61 x.data.toList).length = 2
      · obtain ⟨p, r, e⟩ : ∃ p r, splitC 61 x.data.toList = [p, r] := by
          match splitC 61 x.data.toList, h2 with
          | [p, r], _ => exact ⟨p, r, rfl⟩
        have hp : p.length ≤ x.data.toList.length := mem_splitC_len (c := 61) (by rw [e]; simp)
        have hr : r.length ≤ x.data.toList.length := mem_splitC_len (c := 61) (by rw [e]; simp)
        have hn := splitC_count 124 r
        have hv : ∀ y ∈ (splitC 124 r).map (fun x => (⟨x.toArray⟩ : ByteArray)), y.size ≤ x.size := by
          intro y hy
          obtain ⟨z, hz, rfl⟩ := List.mem_map.1 hy
          have := mem_splitC_len hz
          show z.length ≤ x.size
          omega
        rw [oneL_two h e]
        split
        · refine ⟨?_, (by show (List.map (fun x : Bs => (⟨x.toArray⟩ : ByteArray)) (splitC 124 r)).length ≤ x.size + 1; rw [List.length_map]; omega), hv⟩
          show p.dropLast.length ≤ x.size
          rw [List.length_dropLast]; omega
        · refine ⟨?_, (by show (List.map (fun x : Bs => (⟨x.toArray⟩ : ByteArray)) (splitC 124 r)).length ≤ x.size + 1; rw [List.length_map]; omega), hv⟩
          show p.length ≤ x.size
          omega
      · rw [oneL_other h h2]
        refine ⟨?_, by simp [mkT], by simp [mkT]⟩
        show x.data.toList.length ≤ x.size
        omega
theorem suf33_idx {x : ByteArray} (h : x.size - 1 < x.size) : (((x[x.size - 1]'h).toNat : Int) == 33) = suf33 x := by
  have hb : ((x[x.size - 1]'h).toNat : Int) = (bAt x.data.toList (x.size - 1) : Int) := by rw [sAt h]
  rw [hb, size_len]
  unfold suf33
  have hl : x.data.toList ≠ [] := fun e => by have : x.size = 0 := by rw [size_len, e]; rfl
                                              omega
  obtain ⟨l, a, e⟩ : ∃ l a, x.data.toList = l ++ [a] := ⟨_, _, (List.dropLast_concat_getLast hl).symm⟩
  rw [e, Bool.eq_iff_iff, beq_iff_eq, beq_iff_eq]
  simp only [bAt, List.length_append, List.length_cons, List.length_nil, Nat.zero_add, Nat.add_sub_cancel, List.getLast?_append, List.getLast?_singleton, Option.some_or, Option.some.injEq]
  rw [List.getD_eq_getElem?_getD, List.getElem?_append_right (Nat.le_refl _)]
  simp only [Nat.sub_self, List.getElem?_cons_zero, Option.getD_some]
  constructor
  · intro h; exact UInt8.toNat_inj.1 (by show a.toNat = 33; omega)
  · rintro rfl; rfl
theorem pre33_idx {x : ByteArray} (h : 0 < x.size) : (((x[0]'h).toNat : Int) == 33) = pre33 x := by
  have hb : ((x[0]'h).toNat : Int) = (bAt x.data.toList 0 : Int) := by rw [sAt h]
  rw [hb]
  have hl : 0 < x.data.toList.length := h
  unfold pre33
  cases hx : x.data.toList with
  | nil => rw [hx] at hl; simp at hl
  | cons a l =>
    rw [Bool.eq_iff_iff, beq_iff_eq, beq_iff_eq]
    simp only [bAt, List.getD_cons_zero, List.head?_cons, Option.some.injEq]
    constructor
    · intro h; exact UInt8.toNat_inj.1 (by show a.toNat = 33; omega)
    · rintro rfl; rfl
end Go.Dm
