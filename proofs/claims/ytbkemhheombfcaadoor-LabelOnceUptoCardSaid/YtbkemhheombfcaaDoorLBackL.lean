/- Chapter 4, plain laws of what is put and got at a place. No program in sight. -/
import Derived.Test.YtbkemhheombfcaaDoorLTornL
import Derived.Test.YtbkemhheombfcaaDoorLPlain
namespace Go.Dm
open Go Go.RowKit

theorem getLabI_yes {s : Bs} {p n : Int} {L : List PairL} (hU : U64 s.length) (h : atI getLabL [] s p = (L, n, true)) :
    ∃ q m : Nat, p = (q : Int) ∧ n = ((q + m : Nat) : Int) ∧ q + m ≤ s.length ∧ rightLab L = true ∧ (s.drop q).take m = putLab L := by
  unfold atI at h
  split at h
  · cases h
  · rename_i hp
    cases hg : getLabL (s.drop p.toNat) with
    | none => rw [hg] at h; cases h
    | some x =>
      obtain ⟨K, m⟩ := x
      rw [hg] at h
      injection h with h1 h2
      injection h2 with h2 _
      subst h1
      obtain ⟨a1, rfl, t, a3⟩ := (getLab_begins (hU.drop _)).1 hg
      refine ⟨p.toNat, (putLab K).length, by omega, by omega, ?_, a1, by rw [← a3, List.take_left]⟩
      have := congrArg List.length a3
      rw [List.length_append, List.length_drop] at this
      omega
theorem getLabI_no {s : Bs} {p n : Int} {L : List PairL} (h : atI getLabL [] s p = (L, n, false)) : L = [] ∧ n = 0 := by
  unfold atI at h
  split at h
  · injection h with h1 h2
    injection h2 with h2 _
    exact ⟨h1.symm, h2.symm⟩
  · cases hg : getLabL (s.drop p.toNat) with
    | none =>
      rw [hg] at h
      injection h with h1 h2
      injection h2 with h2 _
      exact ⟨h1.symm, h2.symm⟩
    | some x => rw [hg] at h; cases h

/-- Two that are put one behind the other stand there. -/
theorem back_one {A B : List PairL} (hA : rightLab A = true) (hB : rightLab B = true) {S ahead behind : Bs} (hS : S = ((ahead ++ putLab A) ++ putLab B) ++ behind) (_ha : ahead.length ≤ 140737488351232) (hb : behind.length ≤ 140737488351232) :
    atI getLabL [] S (ahead.length : Int) = (A, (ahead.length : Int) + ((putLab A).length : Int), true) := by
  have h1 := putLab_short hA
  have h2 := putLab_short hB
  rw [hS, List.append_assoc, List.append_assoc]
  exact getLabI_put hA (u64_of (by simp only [List.length_append]; omega))
theorem back_two {A B : List PairL} (hA : rightLab A = true) (hB : rightLab B = true) {S ahead behind : Bs} (hS : S = ((ahead ++ putLab A) ++ putLab B) ++ behind) (_ha : ahead.length ≤ 140737488351232) (hb : behind.length ≤ 140737488351232) :
    atI getLabL [] S ((ahead.length : Int) + ((putLab A).length : Int)) = (B, ((ahead.length : Int) + ((putLab A).length : Int)) + ((putLab B).length : Int), true) := by
  have h1 := putLab_short hA
  have h2 := putLab_short hB
  rw [hS, List.append_assoc]
  have := getLabI_put hB (ahead := ahead ++ putLab A) (rest := behind) (u64_of (by simp only [List.length_append]; omega))
  rw [List.length_append, Int.natCast_add] at this
  exact this
/-- What is put alike is the same. -/
theorem put_inj {A B : List PairL} (hA : rightLab A = true) (hB : rightLab B = true) (h : putLab A = putLab B) : A = B := by
  have h1 := getLab_put hA (rest := []) (u64_of (by have := putLab_short hA; simp; omega))
  rw [h, getLab_put hB (u64_of (by have := putLab_short hB; simp; omega))] at h1
  injection h1 with h1
  injection h1 with h1 _
  exact h1.symm
end Go.Dm
