/- Chapter 1: the walk of the program's GetText. -/
import Derived.Test.YtbkemhheombfcaaDoorVWalkC
namespace Go.Dm
open Go Go.RowKit

theorem results3 {fn : Func} {t u v : Tmp} (h : fn.results = #[.tmp t, .tmp u, .tmp v]) (tmps : Array Value) (P : Program) (w : World) :
    (results fn tmps).run P w = .ok (.tuple #[tmps.getD t undef, tmps.getD u undef, tmps.getD v undef]) w := by
  simp [results, h]

/-- What a reader finds at a place of a text. -/
def atI {α : Type} (g : Bs → Option (α × Nat)) (d : α) (l : Bs) (p : Int) : α × Int × Bool :=
  if p < 0 ∨ (l.length : Int) ≤ p then (d, 0, false) else
    match g (l.drop p.toNat) with
    | some (u, n) => (u, p + n, true)
    | none => (d, 0, false)

theorem getI_at (l : Bs) (p : Int) : getI l p = atI getL 0 l p := by
  unfold getI atI
  split
  · rfl
  · cases getL (l.drop p.toNat) <;> rfl

/-- The text that stands first. -/
def getTextL (most : Nat) (l : Bs) : Option (Bs × Nat) :=
  match getL l with
  | some (u, n) => if u ≤ most ∧ u ≤ l.length - n then some ((l.drop n).take u, n + u) else none
  | none => none

theorem getTextL_none {most : Nat} {l : Bs} (h : getL l = none) : getTextL most l = none := by
  unfold getTextL; rw [h]
theorem getTextL_some {most : Nat} {l : Bs} {u n : Nat} (h : getL l = some (u, n)) : getTextL most l = if u ≤ most ∧ u ≤ l.length - n then some ((l.drop n).take u, n + u) else none := by
  unfold getTextL; rw [h]

/-- What is got is what was put. -/
theorem getTextL_iff {most : Nat} {l t : Bs} {n : Nat} (hl : U64 l.length) : getTextL most l = some (t, n) ↔ t.length ≤ most ∧ n = (putL t.length ++ t).length ∧ putL t.length ++ t = l.take n ∧ n ≤ l.length := by
  constructor
  · intro h
    cases hg : getL l with
    | none => rw [getTextL_none hg] at h; cases h
    | some x =>
      obtain ⟨u, m⟩ := x
      rw [getTextL_some hg] at h
      split at h
      · rename_i hc
        injection h with h
        injection h with h1 h2
        obtain ⟨e1, e2, e3, e4⟩ := getL_iff.1 hg
        have hlen : t.length = u := by rw [← h1, List.length_take, List.length_drop]; omega
        subst h2
        rw [hlen, List.length_append, ← e2, hlen]
        refine ⟨hc.1, rfl, ?_, by omega⟩
        rw [e3, ← h1, List.take_add]
      · cases h
  · rintro ⟨h1, rfl, h3, h4⟩
    have hu : U64 t.length := by
      rw [List.length_append] at h4
      exact Nat.lt_of_le_of_lt (by omega) hl
    have hlen : (putL t.length ++ t).length = (putL t.length).length + t.length := List.length_append
    have hg : getL l = some (t.length, (putL t.length).length) := by
      refine getL_iff.2 ⟨hu, rfl, ?_, by omega⟩
      have := congrArg (List.take (putL t.length).length) h3
      rw [List.take_left, List.take_take, Nat.min_eq_left (by omega)] at this
      exact this
    rw [getTextL_some hg, if_pos ⟨h1, by omega⟩]
    have : t = (l.drop (putL t.length).length).take t.length := by
      have := congrArg (List.drop (putL t.length).length) h3
      rw [List.drop_left, hlen, List.drop_take] at this
      rw [Nat.add_sub_cancel_left] at this
      exact this
    rw [hlen]
    congr 2
    exact this.symm
end Go.Dm
namespace Go.Proofs.YtbkemhheombfcaaDoor
open Go.RowKit Go.Dm

set_option maxHeartbeats 4000000 in
set_option maxRecDepth 100000 in
theorem wgettext_w (s : ByteArray) (p : Int) (most : Nat) (w : World) (hs : s.size ≤ 281474976710656) (hm : most ≤ 140737488355328) :
    Calls Tryd.prog 92 #[.string s, .int .i64 p, .int .i64 most] w fun e w' => e = .returned (.tuple #[.string ⟨(atI (getTextL most) [] s.data.toList p).1.toArray⟩, .int .i64 (atI (getTextL most) [] s.data.toList p).2.1, .bool (atI (getTextL most) [] s.data.toList p).2.2]) ∧ Ext w w' := by
  have hln : s.data.toList.length = s.size := rfl
  have C := wget_w s p w hs
  cases hc : (getI s.data.toList p).2.2 with
  | false =>
    have hT : atI (getTextL most) [] s.data.toList p = ([], 0, false) := by
      unfold atI
      by_cases h : p < 0 ∨ (s.data.toList.length : Int) ≤ p
      · rw [if_pos h]
      · rw [if_neg h]
        rw [getI_at] at hc
        unfold atI at hc
        rw [if_neg h] at hc
        cases hg : getL (s.data.toList.drop p.toNat) with
        | none => rw [getTextL_none hg]
        | some x => rw [hg] at hc; cases hc
    rw [hT]
    rw [hc] at C
    clear hT hc
    go_enter Tryd.func92, Tryd.ntmps92
    go_wp2_with (refine C.mono ?_; rintro e w' ⟨rfl, hb⟩)
    refine bodyPost_ret (results3 rfl _ _ _) rfl ?_
    exact ⟨rfl, hb⟩
  | true =>
    have hin : ¬ (p < 0 ∨ (s.data.toList.length : Int) ≤ p) := fun h => by rw [getI_out h] at hc; cases hc
    obtain ⟨q, rfl⟩ : ∃ q : Nat, p = (q : Int) := ⟨p.toNat, by omega⟩
    rw [hln] at hin
    have hq : q < s.size := by omega
    rw [getI_in (by rw [hln]; exact hq)] at C hc
    unfold atI
    rw [if_neg (by rw [hln]; exact hin), show ((q : Int)).toNat = q from rfl]
    cases hg : getL (s.data.toList.drop q) with
    | none => rw [hg] at hc; cases hc
    | some x =>
      obtain ⟨u, n⟩ := x
      rw [hg] at C
      rw [getTextL_some hg]
      obtain ⟨l1, l2, l3, l4⟩ := getL_len hg
      rw [List.length_drop, hln] at l2 ⊢
      clear hc hg hin
      simp only at C
      by_cases hu : u ≤ most ∧ u ≤ s.size - q - n
      · rw [if_pos hu]
        clear hm hq
        go_enter Tryd.func92, Tryd.ntmps92
        go_wp2_with (refine C.mono ?_; rintro e w' ⟨rfl, hb⟩)
        all_goals
          refine bodyPost_ret (results3 rfl _ _ _) rfl ?_
          refine ⟨?_, hb⟩
          have he : (s.extract (q + n) (q + n + u)).data.toList = (s.data.toList.drop (q + n)).take u := by rw [Lib.extract_data]; congr 1; omega
          rw [← mk_bytes he, ← Int.add_assoc]
          rfl
      · rw [if_neg hu]
        go_enter Tryd.func92, Tryd.ntmps92
        go_wp2_with (refine C.mono ?_; rintro e w' ⟨rfl, hb⟩)
        all_goals
          refine bodyPost_ret (results3 rfl _ _ _) rfl ?_
          exact ⟨rfl, hb⟩

end Go.Proofs.YtbkemhheombfcaaDoor
