/- The law's helper same: two slices of labels hold the same. -/
import Derived.Test.YtbkemhheombfcaaDoorLWalkF
namespace Go.Dm
open Go Go.RowKit
theorem pairAt_ext {l m : List PairS} (hlen : l.length = m.length) (h : ∀ k, k < l.length → pairAt l k = pairAt m k) : l = m := by
  apply List.ext_getElem hlen
  intro i h1 h2
  have := h i h1
  simpa [pairAt, h1, h2] using this
end Go.Dm
namespace Go.Proofs.YtbkemhheombfcaaDoor
open Go.RowKit Go.Dm

set_option maxHeartbeats 2000000 in
theorem same_w (l m : List PairS) (v v2 : Value) (w : World) (hl : l.length ≤ 35184372088832) (hx : Pairs w v l) (hy : Pairs w v2 m) :
    Calls Tryd.prog 32 #[v, v2] w fun e w' => e = .returned (.bool (decide (l = m))) ∧ Ext w w' := by
  obtain ⟨q, cap, rfl, hcap, hcm⟩ := hx.shape
  obtain ⟨q2, cap2, rfl, hcap2, hcm2⟩ := hy.shape
  by_cases hlen : l.length = m.length
  · have heq : (∀ k, k < l.length → pairAt l k = pairAt m k) → decide (l = m) = true := fun h => decide_eq_true (pairAt_ext hlen h)
    have hneq : ∀ k, k < l.length → pairAt l k ≠ pairAt m k → decide (l = m) = false := fun k hk h => decide_eq_false (fun e => h (by rw [e]))
    generalize decide (l = m) = d at *
    replace heq := Lib.hid heq
    replace hneq := Lib.hid hneq
    have hlt' : ∀ k, k < l.length → k < m.length := fun k h => hlen ▸ h
    have hlenI : ((m.length : Nat) : Int) = ((l.length : Nat) : Int) := by rw [hlen]
    go_enter Tryd.func32, Tryd.ntmps32
    go_wp2
    go_loopw [5] (fun i' wr => ∃ k : Nat, k ≤ l.length ∧ i' = .int .i64 k ∧ Ext w wr ∧ Hid (∀ j, j < k → pairAt l j = pairAt m j)) (fun i' _ => l.length - (intOf i').toNat)
    case atStart => exact ⟨0, by omega, rfl, Ext.refl _, fun j hj => by omega⟩
    case round =>
      obtain ⟨k, hk, rfl, hb, HN⟩ := hrel
      by_cases hlt : k < l.length
      · have hlt2 := hlt' k hlt
        obtain ⟨b, off, rfl, hbl, c0, c1⟩ := (hx.ext hb).at hlt
        obtain ⟨b2, off2, rfl, hbl2, d0, d1⟩ := (hy.ext hb).at hlt2
        have hq : ∀ U, (Op.equalIn 10000 29 (.agg #[.string (pairAt l k).1, .string (pairAt l k).2]) (.agg #[.string (pairAt m k).1, .string (pairAt m k).2])).run Tryd.prog U = .ok (decide (pairAt l k = pairAt m k)) U := fun U => by
          rw [Tryd.eq_pair]
          congr 1
          rw [Bool.eq_iff_iff, Bool.and_eq_true, bytes_eq, bytes_eq, decide_eq_true_eq]
          exact ⟨fun h => Prod.ext h.1 h.2, fun h => by rw [h]; exact ⟨rfl, rfl⟩⟩
        by_cases he : pairAt l k = pairAt m k
        · have HN2 : Hid (∀ j, j < k + 1 → pairAt l j = pairAt m j) := fun j hj => by
            rcases Nat.lt_succ_iff_lt_or_eq.1 hj with h | rfl
            · exact HN.out j h
            · exact he
          rw [decide_eq_true he] at hq
          replace he := Lib.hid he
          go_wp2_with fail
          refine Dm.wp_region_grow (by kernel_rfl) (by kernel_rfl) ?_
          repeat (go_big_quiet_step (fail))
          refine wpQuiet_nil ?_
          intro U hU
          have hU' := hb.trans hU
          go_wp2
          go_roundw
          case rel => exact ⟨k + 1, by omega, by go_num, hU', HN2⟩
          case measure => simp [intOf]; omega
        · rw [decide_eq_false he] at hq
          have hd := hneq.out k hlt he
          replace he := Lib.hid he
          subst hd
          go_wp2_with fail
          refine Dm.wp_region_grow (by kernel_rfl) (by kernel_rfl) ?_
          repeat (go_big_quiet_step (fail))
          refine wpQuiet_nil ?_
          intro U hU
          have hU' := hb.trans hU
          go_wp2
          go_ret
          exact ⟨rfl, hU'⟩
      · obtain rfl : k = l.length := by omega
        have hd := heq.out HN.out
        subst hd
        go_wp2
        go_ret
        exact ⟨rfl, hb⟩
  · rw [decide_eq_false (fun e => hlen (by rw [e]))]
    have hlenI : ¬ ((l.length : Nat) : Int) = ((m.length : Nat) : Int) := by omega
    go_enter Tryd.func32, Tryd.ntmps32
    go_wp2
    go_ret
    exact ⟨rfl, Ext.refl _⟩

end Go.Proofs.YtbkemhheombfcaaDoor
