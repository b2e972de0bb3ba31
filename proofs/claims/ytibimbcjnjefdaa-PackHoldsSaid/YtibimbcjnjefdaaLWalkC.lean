/- Chapter 4: the walks of the program's Put and Text. -/
import Derived.Test.YtibimbcjnjefdaaLWalkB
namespace Go.Dm
open Go Go.RowKit
theorem putT_len (t : Bs) (h : t.length ≤ 140737488351232) : (putT t).length ≤ 140737488351242 := by
  have := putL_ten (u := t.length) (show t.length < _ by omega)
  unfold putT
  rw [List.length_append]; omega
def textB (t : ByteArray) : ByteArray := ⟨(putT t.data.toList).toArray⟩
theorem textB_size (t : ByteArray) (h : t.size ≤ 140737488351232) : (textB t).size ≤ 140737488351242 := by
  rw [size_len]
  exact putT_len _ (by rw [← size_len]; exact h)

/-- A label as it is read. -/
def showB (p : PairS) : ByteArray := (p.1 ++ ⟨#[61]⟩) ++ p.2
theorem showB_bytes (p : PairS) : (showB p).data.toList = showP (pL p) := by
  unfold showB
  rw [data_append, data_append, List.append_assoc]; rfl
theorem showB_all (l : List PairS) : (l.map showB).map (·.data.toList) = (labL l).map showP := by
  rw [List.map_map, labL, List.map_map]
  exact List.map_congr_left fun p _ => showB_bytes p
theorem take_snocP {l : List PairS} {k : Nat} (hk : k < l.length) : l.take (k + 1) = l.take k ++ [pairAt l k] := by
  rw [List.take_succ_eq_append_getElem hk]
  simp [hk, pairAt]

/-- A name has at most 32 bytes. -/
theorem okL_len : ∀ (n : Nat) (b : Bool) (l : Bs), l.length ≤ n → okL b l = true → l.length ≤ 2 * countL l := by
  intro n
  induction n with
  | zero => intro b l hl _; omega
  | succ n ih =>
    intro b l hl hok
    by_cases h : l = []
    · subst h; simp
    · rw [okL_step b h, Bool.and_eq_true] at hok
      have hw := wideL_pos l
      have h2 := ih false (l.drop (wideL l)) (by rw [List.length_drop]; omega) hok.2
      rw [List.length_drop] at h2
      have hle := wideL_le h
      have hw2 : wideL l ≤ 2 := by
        have hlm := (letterB_plain (r := runeL l) (by have := hok.1; cases b <;> simp_all)).2
        unfold wideL runeL decL at *
        repeat' split
        all_goals first
          | (simp only; omega)
          | skip
        all_goals simp_all
        all_goals omega
      rw [countL_step h]; omega
theorem right_len {l : Bs} (h : rightL l = true) : l.length ≤ 32 := by
  unfold rightL at h
  simp only [Bool.and_eq_true, decide_eq_true_eq] at h
  have := okL_len l.length true l (Nat.le_refl _) h.1.1
  omega
end Go.Dm
namespace Go.Proofs.Ytibimbcjnjefdaa
open Go.RowKit Go.Dm

end Go.Proofs.Ytibimbcjnjefdaa
