/- Chapter 1: the walk of the document's GetText. -/
import Derived.Test.YtbkemhheombfcaaDoorVRefB
namespace Go.Proofs.YtbkemhheombfcaaDoor
open Go.RowKit Go.Dm

set_option maxHeartbeats 4000000 in
set_option maxRecDepth 100000 in
theorem rgettext_w (s : ByteArray) (p : Int) (most : Nat) (w : World) (hs : s.size ≤ 281474976710656) (hm : most ≤ 140737488355328) :
    Calls Tryd.prog 61 #[.string s, .int .i64 p, .int .i64 most] w fun e w' => e = .returned (.tuple #[.string ⟨(atI (getTextL most) [] s.data.toList p).1.toArray⟩, .int .i64 (atI (getTextL most) [] s.data.toList p).2.1, .bool (atI (getTextL most) [] s.data.toList p).2.2]) ∧ Ext w w' := by
  have hln : s.data.toList.length = s.size := rfl
  have C := rget_w s p w hs
  cases hc : (getI s.data.toList p).2.2 with
  | false =>
    have hT : atI (getTextL most) [] s.data.toList p = ([], 0, false) := by
      unfold atI
      by_cases h : p < 0 ∨ (s.data.toList.length : Int) ≤ p
      · rw [if_pos h]
      · rw [if_neg h]
        rw [getI_at] at hc
        unfold atI at hc
        rw [if_neg h] at hc
        cases hg : getL (s.data.toList.drop p.toNat) with
        | none => rw [getTextL_none hg]
        | some x => rw [hg] at hc; cases hc
    rw [hT]
    rw [hc] at C
    clear hT hc
    go_enter Tryd.func61, Tryd.ntmps61
    go_wp2_with (refine C.mono ?_; rintro e w' ⟨rfl, hb⟩)
    refine bodyPost_ret (results3 rfl _ _ _) rfl ?_
    exact ⟨rfl, hb⟩
  | true =>
    have hin : ¬ (p < 0 ∨ (s.data.toList.length : Int) ≤ p) := fun h => by rw [getI_out h] at hc; cases hc
    obtain ⟨q, rfl⟩ : ∃ q : Nat, p = (q : Int) := ⟨p.toNat, by omega⟩
    rw [hln] at hin
    have hq : q < s.size := by omega
    rw [getI_in (by rw [hln]; exact hq)] at C hc
    unfold atI
    rw [if_neg (by rw [hln]; exact hin), show ((q : Int)).toNat = q from rfl]
    cases hg : getL (s.data.toList.drop q) with
    | none => rw [hg] at hc; cases hc
    | some x =>
      obtain ⟨u, n⟩ := x
      rw [hg] at C
      rw [getTextL_some hg]
      obtain ⟨l1, l2, l3, l4⟩ := getL_len hg
      rw [List.length_drop, hln] at l2 ⊢
      have l5 : u < 18446744073709551616 := l4
      clear hc hg hin l4
      simp only at C
      have hwm : IntKind.u64.wrap (most : Int) = (most : Int) := by
        simp only [IntKind.wrap, IntKind.bits, IntKind.signed]
        simp; omega
      have hwl : IntKind.u64.wrap ((s.size : Int) - ((q : Int) + (n : Int))) = ((s.size - q - n : Nat) : Int) := by
        rw [show (s.size : Int) - ((q : Int) + (n : Int)) = ((s.size - q - n : Nat) : Int) by omega]
        simp only [IntKind.wrap, IntKind.bits, IntKind.signed]
        simp; omega
      by_cases hu : u ≤ most ∧ u ≤ s.size - q - n
      · rw [if_pos hu]
        clear hm hq
        go_enter Tryd.func61, Tryd.ntmps61
        go_wp2_with (refine C.mono ?_; rintro e w' ⟨rfl, hb⟩)
        all_goals
          refine bodyPost_ret (results3 rfl _ _ _) rfl ?_
          refine ⟨?_, hb⟩
          have he : (s.extract (q + n) (q + n + u)).data.toList = (s.data.toList.drop (q + n)).take u := by rw [Lib.extract_data]; congr 1; omega
          rw [show ((s.data.toList.drop q).drop n).take u = (s.extract (q + n) (q + n + u)).data.toList by rw [he, List.drop_drop]]
          first | rfl | (rw [← Int.add_assoc]; rfl) | (rw [Int.natCast_add, ← Int.add_assoc]; rfl)
      · rw [if_neg hu]
        go_enter Tryd.func61, Tryd.ntmps61
        go_wp2_with (refine C.mono ?_; rintro e w' ⟨rfl, hb⟩)
        all_goals
          refine bodyPost_ret (results3 rfl _ _ _) rfl ?_
          exact ⟨rfl, hb⟩

end Go.Proofs.YtbkemhheombfcaaDoor
