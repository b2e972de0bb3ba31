/- Texts one behind the other: Chapter 5: the walks of a term's rule, of holds, and of Match; Chapter 5: the walks of a term's holds, and of Match. -/
import Derived.Test.YtbkemhheombfcaaDoorSelTellsP5
namespace Go.Proofs.YtbkemhheombfcaaDoor
open Go.RowKit Go.Dm

set_option maxHeartbeats 400000 in
theorem oindex_w (vals : List ByteArray) (x : ByteArray) (v : Value) (w : World) (hm : vals.length ≤ 35184372088832) (hx : Strs w v vals) :
    Calls Tryd.prog 146 #[v, .string x] w fun e w' => ∃ i : Int, e = .returned (.int .i64 i) ∧ decide (0 ≤ i) = inB vals x ∧ Ext w w' := by
  obtain ⟨q, cap, rfl, _, _⟩ := hx.shape
  have hhit := fun k (hk : k < vals.length) h => inB_hit (x := x) hk h
  have hmiss := inB_miss (vals := vals) (x := x)
  generalize inB vals x = d at *
  replace hhit := Lib.hid hhit
  replace hmiss := Lib.hid hmiss
  go_enter Tryd.func146, Tryd.ntmps146
  go_wp2
  go_loopw [4, 8] (fun z i wr => ∃ k : Nat, k ≤ vals.length ∧ i = .int .i64 k ∧ z = .int .i64 0 ∧ Ext w wr ∧ Hid (∀ j, j < k → (x.toList == (strAt vals j).toList) = false)) (fun _ i _ => vals.length - (intOf i).toNat)
  case atStart => exact ⟨0, by omega, rfl, rfl, Ext.refl w, fun j hj => by omega⟩
  case round =>
    obtain ⟨k, hk, rfl, rfl, hb, HN⟩ := hrel
    by_cases hlt : k < vals.length
    · obtain ⟨b, off, rfl, hbl, c0⟩ := (hx.ext hb).at hlt
      cases hq : (x.toList == (strAt vals k).toList) with
      | true =>
        have hd := hhit.out k hlt hq
        subst hd
        go_wp2
        go_ret
        exact ⟨_, rfl, by first | omega | simp, hb⟩
      | false =>
        have hN2 : Hid (∀ j, j < k + 1 → (x.toList == (strAt vals j).toList) = false) := fun j hj => by
          rcases Nat.lt_succ_iff_lt_or_eq.1 hj with h | rfl
          · exact HN.out j h
          · exact hq
        go_wp2
        go_roundw
        case rel => exact ⟨k + 1, by omega, by go_num, rfl, hb, hN2⟩
        case measure => simp [intOf]; omega
    · obtain rfl : k = vals.length := by omega
      have hd := hmiss.out HN.out
      subst hd
      go_wp2
      go_ret
      exact ⟨-1, rfl, by first | omega | simp, hb⟩

set_option maxHeartbeats 400000 in
theorem ocontains_w (vals : List ByteArray) (x : ByteArray) (v : Value) (w : World) (hm : vals.length ≤ 35184372088832) (hx : Strs w v vals) :
    Calls Tryd.prog 145 #[v, .string x] w fun e w' => e = .returned (.bool (inB vals x)) ∧ Ext w w' := by
  go_enter Tryd.func145, Tryd.ntmps145
  go_wp2_with fail
  refine (oindex_w vals x v w hm hx).mono ?_; rintro e w1 ⟨i, rfl, hi, h1⟩
  go_wp2
  go_ret
  exact ⟨by rw [← hi]; rfl, h1⟩

set_option maxHeartbeats 400000 in
theorem oholds_w (vals : List ByteArray) (x : ByteArray) (v : Value) (w : World) (hm : vals.length ≤ 35184372088832) (hx : Strs w v vals) :
    Calls Tryd.prog 144 #[v, .string x] w fun e w' => e = .returned (.bool (inB vals x)) ∧ Ext w w' := by
  go_enter Tryd.func144, Tryd.ntmps144
  go_wp2_with fail
  refine (ocontains_w vals x v w hm hx).mono ?_; rintro e w1 ⟨rfl, h1⟩
  go_wp2
  go_ret
  exact ⟨rfl, h1⟩

set_option maxHeartbeats 400000 in
theorem pholds_w (x : ByteArray) (w : World) :
    Calls Tryd.prog 147 #[.agg #[], .string x] w fun e w' => e = .returned (.bool true) ∧ Ext w w' := by
  go_enter Tryd.func147, Tryd.ntmps147
  go_wp2
  go_ret
  exact ⟨rfl, (Ext.refl _).alloc _⟩

set_option maxHeartbeats 400000 in
theorem rule_w (key : ByteArray) (no : Bool) (vals : List ByteArray) (v : Value) (w : World) (hx : Strs w v vals) :
    Calls Tryd.prog 100 #[.agg #[.string key, .bool no, v]] w fun e w' => e = .returned (if vals.isEmpty then .iface 149 (.agg #[]) else .iface 143 v) ∧ Ext w w' := by
  obtain ⟨q, cap, rfl, _, _⟩ := hx.shape
  cases vals with
  | nil =>
    go_enter Tryd.func100, Tryd.ntmps100
    go_wp2
    go_ret
    exact ⟨rfl, (Ext.refl _).alloc _⟩
  | cons a vals =>
    generalize hn : (a :: vals).length = n
    have hn0 : ((n : Int) == 0) = false := by rw [beq_eq_false_iff_ne]; simp at hn; omega
    clear hx
    go_enter Tryd.func100, Tryd.ntmps100
    go_wp2
    go_ret
    exact ⟨rfl, (Ext.refl _).alloc _⟩

end Go.Proofs.YtbkemhheombfcaaDoor

namespace Go.Proofs.YtbkemhheombfcaaDoor
open Go.RowKit Go.Dm

theorem meth_present (w : World) : (method 280 149 (.agg #[]) "demesne/sel.holds").run Tryd.prog w = .ok (147, .agg #[]) w := by kernel_rfl
theorem meth_oneOf (a : Option Addr) (n c : Nat) (w : World) : (method 280 143 (.slice a n c) "demesne/sel.holds").run Tryd.prog w = .ok (144, .slice a n c) w := by kernel_rfl

set_option maxHeartbeats 1000000 in
set_option maxRecDepth 100000 in
theorem tholds_w (key : ByteArray) (no : Bool) (vals : List ByteArray) (v : Value) (p : List PairS) (vp : Value) (w : World) (hm : vals.length ≤ 35184372088832) (hx : Strs w v vals) (hpm : p.length ≤ 35184372088832) (hp : Pairs w vp p) :
    Calls Tryd.prog 71 #[.agg #[.string key, .bool no, v], vp] w fun e w' => e = .returned (.bool (holdsS p (key, no, vals))) ∧ Ext w w' := by
  have hz : ∀ f, (findB p key) = f → holdsS p (key, no, vals) = ((f.2 && (vals.isEmpty || inB vals f.1)) != no) := fun f h => by unfold holdsS; rw [h]
  have C := fun w1 (h : Pairs w1 vp p) => find_w p key vp w1 hpm h
  generalize hF : findB p key = F at *
  obtain ⟨x, b⟩ := F
  have hz' := hz _ rfl
  simp only at hz' C
  replace hz' := Lib.hid hz'
  clear hz hF
  have mP := meth_present
  have mO := meth_oneOf
  have hW : Ext w (w.alloc (.cells #[.string key, .bool no, v] 57)) := (Ext.refl _).alloc _
  replace C := Lib.hid C
  obtain ⟨q, cap, rfl, _, _⟩ := hx.shape
  go_enter Tryd.func71, Tryd.ntmps71
  go_wp2_with fail
  refine (C.out _ (hp.ext hW)).mono ?_; rintro e w1 ⟨rfl, h1⟩
  clear C
  have e1 := hW.trans h1
  obtain ⟨gs, g⟩ := h1.box
  have g0 := g 0 _ rfl
  have g1 := g 1 _ rfl
  have g2 := g 2 _ rfl
  clear g
  have x1 := hx.ext e1
  cases b with
  | false =>
    go_wp2_with fail
    refine Dm.wp_region_grow (by kernel_rfl) (by kernel_rfl) ?_
    repeat (go_big_quiet_step (fail))
    refine wpQuiet_nil ?_
    intro U hU
    go_wp2
    go_ret
    exact ⟨by rw [hz'.out]; cases no <;> rfl, e1.trans hU⟩
  | true =>
    have CO := Lib.hid (fun U (hU : Ext w1 U) => oholds_w vals x _ U hm (x1.ext hU))
    cases hvs : vals.isEmpty with
    | true =>
      obtain rfl := List.isEmpty_iff.1 hvs
      have CR : Hid (∀ U, Ext w1 U → Calls Tryd.prog 100 #[.agg #[.string key, .bool no, .slice q 0 cap]] U fun e w' => e = .returned (.iface 149 (.agg #[])) ∧ Ext U w') := fun U hU => rule_w key no [] _ U (x1.ext hU)
      go_wp2_with fail
      refine Dm.wp_region_grow (by kernel_rfl) (by kernel_rfl) ?_
      repeat (go_big_quiet_step (first
        | (go_at_call 100; with_reducible exact Calls.quietE (CR.out _ (ext_grow _ _)))
        | (go_at_call 147; with_reducible exact Calls.quietE (pholds_w x _))))
      refine wpQuiet_nil ?_
      intro U hU
      go_wp2
      go_ret
      exact ⟨by rw [hz'.out]; cases no <;> rfl, e1.trans hU⟩
    | false =>
      have CR : Hid (∀ U, Ext w1 U → Calls Tryd.prog 100 #[.agg #[.string key, .bool no, .slice q vals.length cap]] U fun e w' => e = .returned (.iface 143 (.slice q vals.length cap)) ∧ Ext U w') := fun U hU => by
        have := rule_w key no vals _ U (x1.ext hU)
        rw [hvs] at this
        exact this
      go_wp2_with fail
      refine Dm.wp_region_grow (by kernel_rfl) (by kernel_rfl) ?_
      repeat (go_big_quiet_step (first
        | (go_at_call 100; with_reducible exact Calls.quietE (CR.out _ (ext_grow _ _)))
        | (go_at_call 144; with_reducible exact Calls.quietE (CO.out _ (ext_grow _ _)))))
      refine wpQuiet_nil ?_
      intro U hU
      go_wp2
      go_ret
      exact ⟨by rw [hz'.out, hvs]; rfl, e1.trans hU⟩

end Go.Proofs.YtbkemhheombfcaaDoor
