/- Texts one behind the other: Chapter 5: the walk of Same. -/
import Derived.Test.YtefjdmjkofaajaaGreatDoorB16
namespace Go.Dm
open Go Go.RowKit
theorem sAtR_ext {T U : List RowS} (hlen : T.length = U.length) (h : ∀ k, k < T.length → rowT (sAtR T k) = rowT (sAtR U k)) : T.map rowT = U.map rowT := by
 apply List.ext_getElem (by simpa using hlen)
 intro i h1 h2
 simp only [List.length_map] at h1 h2
 have := h i h1
 simpa [sAtR, h1, h2] using this
theorem sAtR_ne {T U : List RowS} {k : Nat} (h1 : k < T.length) (h2 : k < U.length) (h : rowT (sAtR T k) ≠ rowT (sAtR U k)) : T.map rowT ≠ U.map rowT := fun e => by
 have := congrArg (fun l => l[k]?) e
 simp [sAtR, h1, h2] at this h
 exact h this
end Go.Dm
namespace Go.Proofs.YtefjdmjkofaajaaGreatDoor
open Go.RowKit Go.Dm

set_option maxHeartbeats 400000 in
theorem equalS_w (l m : List ByteArray) (v v2 : Value) (w : World) (hl : l.length ≤ 35184372088832) (hx : Strs w v l) (hy : Strs w v2 m) :
  Calls Tryz.prog 165 #[v, v2] w fun e w' => e = .returned (.bool (decide (l = m))) ∧ Ext w w' := by
 obtain ⟨q, cap, rfl, hcap, hcm⟩ := hx.shape
 obtain ⟨q2, cap2, rfl, hcap2, hcm2⟩ := hy.shape
 by_cases hlen : l.length = m.length
 ·have heq : (∀ k, k < l.length → strAt l k = strAt m k) → decide (l = m) = true := fun h => decide_eq_true (strs_eq hlen h)
  have hneq : ∀ k, k < l.length → strAt l k ≠ strAt m k → decide (l = m) = false := fun k hk h => decide_eq_false (fun e => h (by rw [e]))
  generalize decide (l = m) = d at *
  replace heq := Lib.hid heq
  replace hneq := Lib.hid hneq
  have hlt' : ∀ k, k < l.length → k < m.length := fun k h => hlen ▸ h
  have hlenI : ((m.length : Nat) : Int) = ((l.length : Nat) : Int) := by rw [hlen]
  go_enter Tryz.func165, Tryz.ntmps165
  go_wp2
  go_loopw [13] (fun i' wr => ∃ k : Nat, k ≤ l.length ∧ i' = .int .i64 k ∧ Ext w wr ∧ Hid (∀ j, j < k → strAt l j = strAt m j)) (fun i' _ => l.length - (intOf i').toNat)
  case atStart => exact ⟨0, by omega, rfl, Ext.refl _, fun j hj => by omega⟩
  case round =>
   obtain ⟨k, hk, rfl, hb, HN⟩ := hrel
   by_cases hlt : k < l.length
   ·have hlt2 := hlt' k hlt
    obtain ⟨b, off, rfl, hbl, c0⟩ := (hx.ext hb).at hlt
    obtain ⟨b2, off2, rfl, hbl2, d0⟩ := (hy.ext hb).at hlt2
    cases q1 : ((strAt l k).toList == (strAt m k).toList) with
    | false =>
     have hd := hneq.out k hlt (fun h => by rw [h] at q1; simp at q1)
     subst hd
     go_wp2_with fail
     refine Dm.wp_region_grow (by kernel_rfl) (by kernel_rfl) ?_
     repeat (go_big_quiet_step (fail))
     refine wpQuiet_nil ?_
     intro U hU
     have hU' := hb.trans hU
     go_wp2
     go_ret
     exact ⟨rfl, hU'⟩
    | true =>
     have he := bytes_eq.1 q1
     have HN2 : Hid (∀ j, j < k + 1 → strAt l j = strAt m j) := fun j hj => by
      rcases Nat.lt_succ_iff_lt_or_eq.1 hj with h | rfl
      ·exact HN.out j h
      ·exact he
     replace he := Lib.hid he
     go_wp2_with fail
     refine Dm.wp_region_grow (by kernel_rfl) (by kernel_rfl) ?_
     repeat (go_big_quiet_step (fail))
     refine wpQuiet_nil ?_
     intro U hU
     have hU' := hb.trans hU
     go_wp2
     go_roundw
     case rel => exact ⟨k + 1, by omega, by go_num, hU', HN2⟩
     case measure => simp [intOf]; omega
   ·obtain rfl : k = l.length := by omega
    have hd := heq.out HN.out
    subst hd
    go_wp2
    go_ret
    exact ⟨rfl, hb⟩
 ·rw [decide_eq_false (fun e => hlen (by rw [e]))]
  have hlenI : ¬ ((l.length : Nat) : Int) = ((m.length : Nat) : Int) := by omega
  go_enter Tryz.func165, Tryz.ntmps165
  go_wp2
  go_ret
  exact ⟨rfl, Ext.refl _⟩

set_option maxHeartbeats 1000000 in
theorem tsame_w (r s : RowS) (w : World) (hl : r.2.2.2.length ≤ 35184372088832) (hx : Strs w r.2.2.1 r.2.2.2) (hy : Strs w s.2.2.1 s.2.2.2) :
  Calls Tryz.prog 145 #[.agg #[.string r.1, .bool r.2.1, r.2.2.1], .agg #[.string s.1, .bool s.2.1, s.2.2.1]] w fun e w' => e = .returned (.bool (decide (rowT r = rowT s))) ∧ Ext w w' := by
 obtain ⟨key, no, v, vals⟩ := r
 obtain ⟨key', no', v', vals'⟩ := s
 simp only at hl hx hy
 have hW : Ext w ((w.alloc (.cells #[.string key, .bool no, v] 179)).alloc (.cells #[.string key', .bool no', v'] 179)) := ((Ext.refl _).alloc _).alloc _
 have C := equalS_w vals vals' v v' _ hl (hx.ext hW) (hy.ext hW)
 show Calls Tryz.prog 145 #[.agg #[.string key, .bool no, v], .agg #[.string key', .bool no', v']] w fun e w' => e = .returned (.bool (decide ((key, no, vals) = (key', no', vals')))) ∧ Ext w w'
 have hd : decide ((key, no, vals) = (key', no', vals')) = ((key.toList == key'.toList) && ((no == no') && decide (vals = vals'))) := by
  rw [Bool.eq_iff_iff, Bool.and_eq_true, Bool.and_eq_true, decide_eq_true_eq, decide_eq_true_eq, bytes_eq, beq_iff_eq, Prod.mk.injEq, Prod.mk.injEq]
 rw [hd]
 clear hd
 generalize decide (vals = vals') = d at *
 obtain ⟨q, cap, rfl, _, _⟩ := hx.shape
 obtain ⟨q2, cap2, rfl, _, _⟩ := hy.shape
 cases q1 : (key.toList == key'.toList) with
 | false =>
  rw [Bool.false_and]
  clear C
  go_enter Tryz.func145, Tryz.ntmps145
  go_wp2
  go_ret
  exact ⟨rfl, hW⟩
 | true =>
  rw [Bool.true_and]
  by_cases hn : no = no'
  ·subst hn
   go_enter Tryz.func145, Tryz.ntmps145
   go_wp2_with fail
   refine C.mono ?_; rintro e w1 ⟨rfl, h1⟩
   go_wp2
   go_ret
   exact ⟨by simp, hW.trans h1⟩
  ·have hb : (no == no') = false := by rw [beq_eq_false_iff_ne]; exact hn
   rw [hb, Bool.false_and]
   clear C hn
   go_enter Tryz.func145, Tryz.ntmps145
   go_wp2
   go_ret
   exact ⟨rfl, hW⟩

set_option maxHeartbeats 2000000 in
theorem equalF_w (T U : List RowS) (v v2 : Value) (w : World) (hl : T.length ≤ 35184372088832) (hf : FitR T) (hx : Terms w v T) (hy : Terms w v2 U) :
  Calls Tryz.prog 144 #[v, v2, .func (.func 145) #[] #[]] w fun e w' => e = .returned (.bool (decide (T.map rowT = U.map rowT))) ∧ Ext w w' := by
 obtain ⟨q, cap, rfl, hcap, hcm⟩ := hx.shape
 obtain ⟨q2, cap2, rfl, hcap2, hcm2⟩ := hy.shape
 by_cases hlen : T.length = U.length
 ·have heq : (∀ k, k < T.length → rowT (sAtR T k) = rowT (sAtR U k)) → decide (T.map rowT = U.map rowT) = true := fun h => decide_eq_true (sAtR_ext hlen h)
  have hneq : ∀ k, k < T.length → rowT (sAtR T k) ≠ rowT (sAtR U k) → decide (T.map rowT = U.map rowT) = false := fun k hk h => decide_eq_false (sAtR_ne hk (hlen ▸ hk) h)
  generalize decide (T.map rowT = U.map rowT) = d at *
  replace heq := Lib.hid heq
  replace hneq := Lib.hid hneq
  have hlt' : ∀ k, k < T.length → k < U.length := fun k h => hlen ▸ h
  have hlenI : ((U.length : Nat) : Int) = ((T.length : Nat) : Int) := by rw [hlen]
  replace hlen := Lib.hid hlen
  go_enter Tryz.func144, Tryz.ntmps144
  go_wp2
  go_loopw [17] (fun i' wr => ∃ k : Nat, k ≤ T.length ∧ i' = .int .i64 k ∧ Ext w wr ∧ Hid (∀ j, j < k → rowT (sAtR T j) = rowT (sAtR U j))) (fun i' _ => T.length - (intOf i').toNat)
  case atStart => exact ⟨0, by omega, rfl, Ext.refl _, fun j hj => by omega⟩
  case round =>
   obtain ⟨k, hk, rfl, hb, HN⟩ := hrel
   by_cases hlt : k < T.length
   ·have hlt2 := hlt' k hlt
    obtain ⟨b, off, rfl, hbl, c0, c1, c2⟩ := (hx.ext hb).at hlt
    obtain ⟨b2, off2, rfl, hbl2, d0, d1, d2⟩ := (hy.ext hb).at hlt2
    have hn := hneq.out k hlt
    have HN2 : rowT (sAtR T k) = rowT (sAtR U k) → Hid (∀ j, j < k + 1 → rowT (sAtR T j) = rowT (sAtR U j)) := fun he j hj => by
     rcases Nat.lt_succ_iff_lt_or_eq.1 hj with h | rfl
     ·exact HN.out j h
     ·exact he
    have vx := (hx.ext hb).val hlt
    have vy := (hy.ext hb).val hlt2
    have hfl := (hf _ (sAtR_mem hlt)).2.1
    generalize sAtR T k = r at *
    generalize sAtR U k = s at *
    obtain ⟨k1, n1, v1, vals1⟩ := r
    obtain ⟨k2, n2, v2, vals2⟩ := s
    simp only at vx vy hfl c0 c1 c2 d0 d1 d2
    obtain ⟨q3, cap3, rfl, _, _⟩ := vx.shape
    obtain ⟨q4, cap4, rfl, _, _⟩ := vy.shape
    have hW := ((Ext.refl wr).alloc (.cells #[.string k1, .bool n1, .slice q3 vals1.length cap3] 179)).alloc (.cells #[.string k2, .bool n2, .slice q4 vals2.length cap4] 179)
    have C := tsame_w (k1, n1, .slice q3 vals1.length cap3, vals1) (k2, n2, .slice q4 vals2.length cap4, vals2) _ hfl (vx.ext hW) (vy.ext hW)
    simp only at C
    by_cases he : rowT (k1, n1, .slice q3 vals1.length cap3, vals1) = rowT (k2, n2, .slice q4 vals2.length cap4, vals2)
    ·have hN2 := HN2 he
     rw [decide_eq_true he] at C
     clear hn HN2 he
     go_wp2_with fail
     refine C.mono ?_; rintro e w1 ⟨rfl, h1⟩
     go_wp2
     go_roundw
     case rel => exact ⟨k + 1, by omega, by go_num, hb.trans (hW.trans h1), hN2⟩
     case measure => simp [intOf]; omega
    ·have hd := hn he
     subst hd
     rw [decide_eq_false he] at C
     clear hn HN2 he
     go_wp2_with fail
     refine C.mono ?_; rintro e w1 ⟨rfl, h1⟩
     go_wp2
     go_ret
     exact ⟨rfl, hb.trans (hW.trans h1)⟩
   ·obtain rfl : k = T.length := by omega
    have hd := heq.out HN.out
    subst hd
    go_wp2
    go_ret
    exact ⟨rfl, hb⟩
 ·have hne : decide (T.map rowT = U.map rowT) = false := decide_eq_false (fun e => hlen (by have := congrArg List.length e; simpa using this))
  rw [hne]
  have hlenI : ¬ ((T.length : Nat) : Int) = ((U.length : Nat) : Int) := by omega
  go_enter Tryz.func144, Tryz.ntmps144
  go_wp2
  go_ret
  exact ⟨rfl, Ext.refl _⟩

set_option maxHeartbeats 400000 in
theorem ssame_w (T U : List RowS) (v v2 : Value) (w : World) (hl : T.length ≤ 35184372088832) (hf : FitR T) (hx : Terms w v T) (hy : Terms w v2 U) :
  Calls Tryz.prog 123 #[v, v2] w fun e w' => e = .returned (.bool (decide (T.map rowT = U.map rowT))) ∧ Ext w w' := by
 have C := equalF_w T U v v2 w hl hf hx hy
 generalize decide (T.map rowT = U.map rowT) = d at *
 go_enter Tryz.func123, Tryz.ntmps123
 go_wp2_with fail
 refine C.mono ?_; rintro e w1 ⟨rfl, h1⟩
 go_wp2
 go_ret
 exact ⟨rfl, h1⟩

end Go.Proofs.YtefjdmjkofaajaaGreatDoor
