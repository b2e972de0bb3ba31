/- Chapter 5: the walks of a term's holds, and of Match. -/
import Derived.Test.YtibimbcjnjefdaaSWalkA
namespace Go.Proofs.Ytibimbcjnjefdaa
open Go.RowKit Go.Dm

theorem meth_present (w : World) : (method 224 102 (.agg #[]) "demesne/sel.holds").run Try.prog w = .ok (67, .agg #[]) w := by kernel_rfl
theorem meth_oneOf (a : Option Addr) (n c : Nat) (w : World) : (method 224 103 (.slice a n c) "demesne/sel.holds").run Try.prog w = .ok (68, .slice a n c) w := by kernel_rfl

set_option maxHeartbeats 1000000 in
set_option maxRecDepth 100000 in
theorem tholds_w (key : ByteArray) (no : Bool) (vals : List ByteArray) (v : Value) (p : List PairS) (vp : Value) (w : World) (hm : vals.length ≤ 35184372088832) (hx : Strs w v vals) (hpm : p.length ≤ 35184372088832) (hp : Pairs w vp p) :
    Calls Try.prog 31 #[.agg #[.string key, .bool no, v], vp] w fun e w' => e = .returned (.bool (holdsS p (key, no, vals))) ∧ Ext w w' := by
  have hz : ∀ f, (findB p key) = f → holdsS p (key, no, vals) = ((f.2 && (vals.isEmpty || inB vals f.1)) != no) := fun f h => by unfold holdsS; rw [h]
  have C := fun w1 (h : Pairs w1 vp p) => find_w p key vp w1 hpm h
  generalize hF : findB p key = F at *
  obtain ⟨x, b⟩ := F
  have hz' := hz _ rfl
  simp only at hz' C
  replace hz' := Lib.hid hz'
  clear hz hF
  have mP := meth_present
  have mO := meth_oneOf
  have hW : Ext w (w.alloc (.cells #[.string key, .bool no, v] 59)) := (Ext.refl _).alloc _
  replace C := Lib.hid C
  obtain ⟨q, cap, rfl, _, _⟩ := hx.shape
  go_enter Try.func31, Try.ntmps31
  go_wp2_with fail
  refine (C.out _ (hp.ext hW)).mono ?_; rintro e w1 ⟨rfl, h1⟩
  clear C
  have e1 := hW.trans h1
  obtain ⟨gs, g⟩ := h1.box
  have g0 := g 0 _ rfl
  have g1 := g 1 _ rfl
  have g2 := g 2 _ rfl
  clear g
  have x1 := hx.ext e1
  cases b with
  | false =>
    go_wp2_with fail
    refine Dm.wp_region_grow (by kernel_rfl) (by kernel_rfl) ?_
    repeat (go_big_quiet_step (fail))
    refine wpQuiet_nil ?_
    intro U hU
    go_wp2
    go_ret
    exact ⟨by rw [hz'.out]; cases no <;> rfl, e1.trans hU⟩
  | true =>
    have CO := Lib.hid (fun U (hU : Ext w1 U) => oholds_w vals x _ U hm (x1.ext hU))
    cases hvs : vals.isEmpty with
    | true =>
      obtain rfl := List.isEmpty_iff.1 hvs
      have CR : Hid (∀ U, Ext w1 U → Calls Try.prog 44 #[.agg #[.string key, .bool no, .slice q 0 cap]] U fun e w' => e = .returned (.iface 102 (.agg #[])) ∧ Ext U w') := fun U hU => rule_w key no [] _ U (x1.ext hU)
      go_wp2_with fail
      refine Dm.wp_region_grow (by kernel_rfl) (by kernel_rfl) ?_
      repeat (go_big_quiet_step (first
        | (go_at_call 44; with_reducible exact Calls.quietE (CR.out _ (ext_grow _ _)))
        | (go_at_call 67; with_reducible exact Calls.quietE (pholds_w x _))))
      refine wpQuiet_nil ?_
      intro U hU
      go_wp2
      go_ret
      exact ⟨by rw [hz'.out]; cases no <;> rfl, e1.trans hU⟩
    | false =>
      have CR : Hid (∀ U, Ext w1 U → Calls Try.prog 44 #[.agg #[.string key, .bool no, .slice q vals.length cap]] U fun e w' => e = .returned (.iface 103 (.slice q vals.length cap)) ∧ Ext U w') := fun U hU => by
        have := rule_w key no vals _ U (x1.ext hU)
        rw [hvs] at this
        exact this
      go_wp2_with fail
      refine Dm.wp_region_grow (by kernel_rfl) (by kernel_rfl) ?_
      repeat (go_big_quiet_step (first
        | (go_at_call 44; with_reducible exact Calls.quietE (CR.out _ (ext_grow _ _)))
        | (go_at_call 68; with_reducible exact Calls.quietE (CO.out _ (ext_grow _ _)))))
      refine wpQuiet_nil ?_
      intro U hU
      go_wp2
      go_ret
      exact ⟨by rw [hz'.out, hvs]; rfl, e1.trans hU⟩

end Go.Proofs.Ytibimbcjnjefdaa
