/- Chapter 5: the walks of a term's rule, of holds, and of Match. -/
import Derived.Test.YtibimbcjnjefdaaSPure
namespace Go.Proofs.Ytibimbcjnjefdaa
open Go.RowKit Go.Dm

set_option maxHeartbeats 400000 in
theorem oindex_w (vals : List ByteArray) (x : ByteArray) (v : Value) (w : World) (hm : vals.length ≤ 35184372088832) (hx : Strs w v vals) :
    Calls Try.prog 70 #[v, .string x] w fun e w' => ∃ i : Int, e = .returned (.int .i64 i) ∧ decide (0 ≤ i) = inB vals x ∧ Ext w w' := by
  obtain ⟨q, cap, rfl, _, _⟩ := hx.shape
  have hhit := fun k (hk : k < vals.length) h => inB_hit (x := x) hk h
  have hmiss := inB_miss (vals := vals) (x := x)
  generalize inB vals x = d at *
  replace hhit := Lib.hid hhit
  replace hmiss := Lib.hid hmiss
  go_enter Try.func70, Try.ntmps70
  go_wp2
  go_loopw [4, 8] (fun z i wr => ∃ k : Nat, k ≤ vals.length ∧ i = .int .i64 k ∧ z = .int .i64 0 ∧ Ext w wr ∧ Hid (∀ j, j < k → (x.toList == (strAt vals j).toList) = false)) (fun _ i _ => vals.length - (intOf i).toNat)
  case atStart => exact ⟨0, by omega, rfl, rfl, Ext.refl w, fun j hj => by omega⟩
  case round =>
    obtain ⟨k, hk, rfl, rfl, hb, HN⟩ := hrel
    by_cases hlt : k < vals.length
    · obtain ⟨b, off, rfl, hbl, c0⟩ := (hx.ext hb).at hlt
      cases hq : (x.toList == (strAt vals k).toList) with
      | true =>
        have hd := hhit.out k hlt hq
        subst hd
        go_wp2
        go_ret
        exact ⟨_, rfl, by first | omega | simp, hb⟩
      | false =>
        have hN2 : Hid (∀ j, j < k + 1 → (x.toList == (strAt vals j).toList) = false) := fun j hj => by
          rcases Nat.lt_succ_iff_lt_or_eq.1 hj with h | rfl
          · exact HN.out j h
          · exact hq
        go_wp2
        go_roundw
        case rel => exact ⟨k + 1, by omega, by go_num, rfl, hb, hN2⟩
        case measure => simp [intOf]; omega
    · obtain rfl : k = vals.length := by omega
      have hd := hmiss.out HN.out
      subst hd
      go_wp2
      go_ret
      exact ⟨-1, rfl, by first | omega | simp, hb⟩

set_option maxHeartbeats 400000 in
theorem ocontains_w (vals : List ByteArray) (x : ByteArray) (v : Value) (w : World) (hm : vals.length ≤ 35184372088832) (hx : Strs w v vals) :
    Calls Try.prog 69 #[v, .string x] w fun e w' => e = .returned (.bool (inB vals x)) ∧ Ext w w' := by
  go_enter Try.func69, Try.ntmps69
  go_wp2_with fail
  refine (oindex_w vals x v w hm hx).mono ?_; rintro e w1 ⟨i, rfl, hi, h1⟩
  go_wp2
  go_ret
  exact ⟨by rw [← hi]; rfl, h1⟩

set_option maxHeartbeats 400000 in
theorem oholds_w (vals : List ByteArray) (x : ByteArray) (v : Value) (w : World) (hm : vals.length ≤ 35184372088832) (hx : Strs w v vals) :
    Calls Try.prog 68 #[v, .string x] w fun e w' => e = .returned (.bool (inB vals x)) ∧ Ext w w' := by
  go_enter Try.func68, Try.ntmps68
  go_wp2_with fail
  refine (ocontains_w vals x v w hm hx).mono ?_; rintro e w1 ⟨rfl, h1⟩
  go_wp2
  go_ret
  exact ⟨rfl, h1⟩

set_option maxHeartbeats 400000 in
theorem pholds_w (x : ByteArray) (w : World) :
    Calls Try.prog 67 #[.agg #[], .string x] w fun e w' => e = .returned (.bool true) ∧ Ext w w' := by
  go_enter Try.func67, Try.ntmps67
  go_wp2
  go_ret
  exact ⟨rfl, (Ext.refl _).alloc _⟩

set_option maxHeartbeats 400000 in
theorem rule_w (key : ByteArray) (no : Bool) (vals : List ByteArray) (v : Value) (w : World) (hx : Strs w v vals) :
    Calls Try.prog 44 #[.agg #[.string key, .bool no, v]] w fun e w' => e = .returned (if vals.isEmpty then .iface 102 (.agg #[]) else .iface 103 v) ∧ Ext w w' := by
  obtain ⟨q, cap, rfl, _, _⟩ := hx.shape
  cases vals with
  | nil =>
    go_enter Try.func44, Try.ntmps44
    go_wp2
    go_ret
    exact ⟨rfl, (Ext.refl _).alloc _⟩
  | cons a vals =>
    generalize hn : (a :: vals).length = n
    have hn0 : ((n : Int) == 0) = false := by rw [beq_eq_false_iff_ne]; simp at hn; omega
    clear hx
    go_enter Try.func44, Try.ntmps44
    go_wp2
    go_ret
    exact ⟨rfl, (Ext.refl _).alloc _⟩

end Go.Proofs.Ytibimbcjnjefdaa
