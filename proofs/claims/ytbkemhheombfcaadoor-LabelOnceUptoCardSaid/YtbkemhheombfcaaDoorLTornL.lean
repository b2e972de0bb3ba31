/- Chapter 4, plain laws: of what is put no beginning is got. No program in sight. -/
import Derived.Test.YtbkemhheombfcaaDoorVRead
import Derived.Test.YtbkemhheombfcaaDoorLSame
import Derived.Test.YtbkemhheombfcaaDoorLMade
import Derived.Test.YtbkemhheombfcaaDoorLRight
namespace Go.Dm
open Go Go.RowKit

theorem putT_short {t : Bs} (h : t.length ≤ 32) : (putT t).length ≤ 42 := by
  have := putL_ten (u := t.length) (Nat.lt_of_le_of_lt h (by decide))
  rw [putT, List.length_append]; omega
theorem putP_short : ∀ {L : List PairL}, (∀ p ∈ L, fitPair p) → (putP L).length ≤ 84 * L.length
  | [], _ => by simp [putP]
  | p :: L, h => by
    have h1 := putT_short (h p (by simp)).1
    have h2 := putT_short (h p (by simp)).2
    have ih := putP_short (L := L) (fun q hq => h q (by simp [hq]))
    have e : putP (p :: L) = (putT p.1 ++ putT p.2) ++ putP L := by simp [putP]
    rw [e, List.length_append, List.length_append, List.length_cons]; omega
theorem putLab_short {L : List PairL} (hr : rightLab L = true) : 1 ≤ (putLab L).length ∧ (putLab L).length ≤ 700 := by
  obtain ⟨f1, f2⟩ := right_fits hr
  have h1 := putP_short f2
  have h2 := putL_ten (u := L.length) (Nat.lt_of_le_of_lt f1 (by decide))
  have h3 := putL_pos L.length
  unfold putLab
  rw [if_pos hr, List.length_append]; omega
theorem u64_of {n : Nat} (h : n ≤ 281474976710656) : U64 n := Nat.lt_of_le_of_lt h (by decide)

/-- Labels that are put stand where they are put. -/
theorem getLab_put {L : List PairL} (hr : rightLab L = true) {rest : Bs} (hl : U64 (putLab L ++ rest).length) : getLabL (putLab L ++ rest) = some (L, (putLab L).length) :=
  (getLab_begins hl).2 ⟨hr, rfl, ⟨rest, rfl⟩⟩
theorem getLabI_put {L : List PairL} (hr : rightLab L = true) {ahead rest : Bs} (hl : U64 (putLab L ++ rest).length) : atI getLabL [] (ahead ++ (putLab L ++ rest)) (ahead.length : Int) = (L, (ahead.length : Int) + ((putLab L).length : Int), true) := by
  unfold atI
  have := (putLab_short hr).1
  rw [if_neg (by rw [List.length_append, List.length_append]; omega), Int.toNat_natCast, List.drop_left, getLab_put hr hl]
theorem getLabI_zero {L : List PairL} (hr : rightLab L = true) {rest : Bs} (hl : U64 (putLab L ++ rest).length) : atI getLabL [] (putLab L ++ rest) 0 = (L, ((putLab L).length : Int), true) := by
  have := getLabI_put hr (ahead := []) hl
  rw [List.nil_append, List.length_nil, Int.natCast_zero, Int.zero_add] at this
  exact this
theorem getI_end {l : Bs} {p : Int} (hp : p < 0 ∨ (l.length : Int) ≤ p) {x : List PairL} {n : Int} {b : Bool} (h : atI getLabL [] l p = (x, n, b)) : b = false := by
  unfold atI at h
  rw [if_pos hp] at h
  injection h with _ h
  injection h with _ h
  exact h.symm
/-- No beginning is got. -/
theorem getLab_torn {L : List PairL} (hr : rightLab L = true) {m : Nat} (hm : m < (putLab L).length) : (atI getLabL [] ((putLab L).take m) 0).2.2 = false := by
  have hs := (putLab_short hr).2
  unfold atI
  split
  · rfl
  · rw [show ((0 : Int)).toNat = 0 from rfl, List.drop_zero]
    cases h : getLabL ((putLab L).take m) with
    | none => rfl
    | some x =>
      exfalso
      obtain ⟨K, n⟩ := x
      obtain ⟨h1, h2, t, h3⟩ := (getLab_begins (u64_of (by rw [List.length_take]; omega))).1 h
      have e1 : getLabL (putLab L) = some (K, n) := (getLab_begins (u64_of (by omega))).2 ⟨h1, h2, t ++ (putLab L).drop m, by rw [← List.append_assoc, h3, List.take_append_drop]⟩
      have e2 := getLab_put hr (rest := []) (u64_of (by simp; omega))
      rw [List.append_nil, e1] at e2
      injection e2 with e2
      injection e2 with _ e2
      have := congrArg List.length h3
      rw [List.length_append, List.length_take] at this
      omega
theorem size_zero {S T : ByteArray} (h : T = S ++ ⟨#[0]⟩) : T.size = S.size + 1 := by
  subst h; rw [ByteArray.size_append]; rfl
theorem data_zero {S T : ByteArray} (h : T = S ++ ⟨#[0]⟩) : T.data.toList = S.data.toList ++ [0] := by
  subst h; simp
theorem append_zero (S : ByteArray) : (S ++ ⟨#[0]⟩ : ByteArray).data.toList = S.data.toList ++ [0] := by simp
end Go.Dm
