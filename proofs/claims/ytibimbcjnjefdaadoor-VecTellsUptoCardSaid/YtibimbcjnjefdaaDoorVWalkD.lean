/- Chapter 1: the walk of the program's GetText. -/
import Derived.Test.YtibimbcjnjefdaaDoorVWalkC
namespace Go.Dm
open Go Go.RowKit

theorem results3 {fn : Func} {t u v : Tmp} (h : fn.results = #[.tmp t, .tmp u, .tmp v]) (tmps : Array Value) (P : Program) (w : World) :
    (results fn tmps).run P w = .ok (.tuple #[tmps.getD t undef, tmps.getD u undef, tmps.getD v undef]) w := by
  simp [results, h]

/-- What a reader finds at a place of a text. -/
def atI {α : Type} (g : Bs → Option (α × Nat)) (d : α) (l : Bs) (p : Int) : α × Int × Bool :=
  if p < 0 ∨ (l.length : Int) ≤ p then (d, 0, false) else
    match g (l.drop p.toNat) with
    | some (u, n) => (u, p + n, true)
    | none => (d, 0, false)

theorem getI_at (l : Bs) (p : Int) : getI l p = atI getL 0 l p := by
  unfold getI atI
  split
  · rfl
  · cases getL (l.drop p.toNat) <;> rfl

/-- The text that stands first. -/
def getTextL (most : Nat) (l : Bs) : Option (Bs × Nat) :=
  match getL l with
  | some (u, n) => if u ≤ most ∧ u ≤ l.length - n then some ((l.drop n).take u, n + u) else none
  | none => none

theorem getTextL_none {most : Nat} {l : Bs} (h : getL l = none) : getTextL most l = none := by
  unfold getTextL; rw [h]
theorem getTextL_some {most : Nat} {l : Bs} {u n : Nat} (h : getL l = some (u, n)) : getTextL most l = if u ≤ most ∧ u ≤ l.length - n then some ((l.drop n).take u, n + u) else none := by
  unfold getTextL; rw [h]

/-- What is got is what was put. -/
theorem getTextL_iff {most : Nat} {l t : Bs} {n : Nat} (hl : U64 l.length) : getTextL most l = some (t, n) ↔ t.length ≤ most ∧ n = (putL t.length ++ t).length ∧ putL t.length ++ t = l.take n ∧ n ≤ l.length := by
  constructor
  · intro h
    cases hg : getL l with
    | none => rw [getTextL_none hg] at h; cases h
    | some x =>
      obtain ⟨u, m⟩ := x
      rw [getTextL_some hg] at h
      split at h
      · rename_i hc
        injection h with h
        injection h with h1 h2
        obtain ⟨e1, e2, e3, e4⟩ := getL_iff.1 hg
        have hlen : t.length = u := by rw [← h1, List.length_take, List.length_drop]; omega
        subst h2
        rw [hlen, List.length_append, ← e2, hlen]
        refine ⟨hc.1, rfl, ?_, by omega⟩
        rw [e3, ← h1, List.take_add]
      · cases h
  · rintro ⟨h1, rfl, h3, h4⟩
    have hu : U64 t.length := by
      rw [List.length_append] at h4
      exact Nat.lt_of_le_of_lt (by omega) hl
    have hlen : (putL t.length ++ t).length = (putL t.length).length + t.length := List.length_append
    have hg : getL l = some (t.length, (putL t.length).length) := by
      refine getL_iff.2 ⟨hu, rfl, ?_, by omega⟩
      have := congrArg (List.take (putL t.length).length) h3
      rw [List.take_left, List.take_take, Nat.min_eq_left (by omega)] at this
      exact this
    rw [getTextL_some hg, if_pos ⟨h1, by omega⟩]
    have : t = (l.drop (putL t.length).length).take t.length := by
      have := congrArg (List.drop (putL t.length).length) h3
      rw [List.drop_left, hlen, List.drop_take] at this
      rw [Nat.add_sub_cancel_left] at this
      exact this
    rw [hlen]
    congr 2
    exact this.symm
end Go.Dm
namespace Go.Proofs.YtibimbcjnjefdaaDoor
open Go.RowKit Go.Dm

end Go.Proofs.YtibimbcjnjefdaaDoor
