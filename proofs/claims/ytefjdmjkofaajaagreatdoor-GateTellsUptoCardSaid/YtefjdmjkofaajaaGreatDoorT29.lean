/- Texts of the base. -/

import Derived.Test.YtefjdmjkofaajaaGreatDoorT8
import Derived.Test.YtefjdmjkofaajaaGreatDoorT15
import Derived.Test.YtefjdmjkofaajaaGreatDoorT28
namespace Go.Dm
open Go Go.RowKit
theorem sAtR_ext {T U : List RowS} (hlen : T.length = U.length) (h : ∀ k, k < T.length → rowT (sAtR T k) = rowT (sAtR U k)) : T.map rowT = U.map rowT := by
 apply List.ext_getElem (by simpa using hlen)
 intro i h1 h2
 simp only [List.length_map] at h1 h2
 have := h i h1
 simpa [sAtR, h1, h2] using this
theorem sAtR_ne {T U : List RowS} {k : Nat} (h1 : k < T.length) (h2 : k < U.length) (h : rowT (sAtR T k) ≠ rowT (sAtR U k)) : T.map rowT ≠ U.map rowT := fun e => by
 have := congrArg (fun l => l[k]?) e
 simp [sAtR, h1, h2] at this h
 exact h this
end Go.Dm
namespace Go.Proofs.YtefjdmjkofaajaaGreatDoor
open Go.RowKit Go.Dm
set_option maxHeartbeats 400000 in
theorem equalS_w (l m : List ByteArray) (v v2 : Value) (w : World) (hl : l.length ≤ 35184372088832) (hx : Strs w v l) (hy : Strs w v2 m) :
  Calls Tryz.prog 165 #[v, v2] w fun e w' => e = .returned (.bool (decide (l = m))) ∧ Ext w w' := by
 obtain ⟨q, cap, rfl, hcap, hcm⟩ := hx.shape
 obtain ⟨q2, cap2, rfl, hcap2, hcm2⟩ := hy.shape
 by_cases hlen : l.length = m.length
 ·have heq : (∀ k, k < l.length → strAt l k = strAt m k) → decide (l = m) = true := fun h => decide_eq_true (strs_eq hlen h)
  have hneq : ∀ k, k < l.length → strAt l k ≠ strAt m k → decide (l = m) = false := fun k hk h => decide_eq_false (fun e => h (by rw [e]))
  generalize decide (l = m) = d at *
  replace heq := Lib.hid heq
  replace hneq := Lib.hid hneq
  have hlt' : ∀ k, k < l.length → k < m.length := fun k h => hlen ▸ h
  have hlenI : ((m.length : Nat) : Int) = ((l.length : Nat) : Int) := by rw [hlen]
  go_enter Tryz.func165, Tryz.ntmps165
  go_wp2
  go_loopw [13] (fun i' wr => ∃ k : Nat, k ≤ l.length ∧ i' = .int .i64 k ∧ Ext w wr ∧ Hid (∀ j, j < k → strAt l j = strAt m j)) (fun i' _ => l.length - (intOf i').toNat)
  case atStart => exact ⟨0, by omega, rfl, Ext.refl _, fun j hj => by omega⟩
  case round =>
   obtain ⟨k, hk, rfl, hb, HN⟩ := hrel
   by_cases hlt : k < l.length
   ·have hlt2 := hlt' k hlt
    obtain ⟨b, off, rfl, hbl, c0⟩ := (hx.ext hb).at hlt
    obtain ⟨b2, off2, rfl, hbl2, d0⟩ := (hy.ext hb).at hlt2
    cases q1 : ((strAt l k).toList == (strAt m k).toList) with
    | false =>
     have hd := hneq.out k hlt (fun h => by rw [h] at q1; simp at q1)
     subst hd
     go_wp2_with fail
     refine Dm.wp_region_grow (by kernel_rfl) (by kernel_rfl) ?_
     repeat (go_big_quiet_step (fail))
     refine wpQuiet_nil ?_
     intro U hU
     have hU' := hb.trans hU
     go_wp2
     go_ret
     exact ⟨rfl, hU'⟩
    | true =>
     have he := bytes_eq.1 q1
     have HN2 : Hid (∀ j, j < k + 1 → strAt l j = strAt m j) := fun j hj => by
      rcases Nat.lt_succ_iff_lt_or_eq.1 hj with h | rfl
      ·exact HN.out j h
      ·exact he
     replace he := Lib.hid he
     go_wp2_with fail
     refine Dm.wp_region_grow (by kernel_rfl) (by kernel_rfl) ?_
     repeat (go_big_quiet_step (fail))
     refine wpQuiet_nil ?_
     intro U hU
     have hU' := hb.trans hU
     go_wp2
     go_roundw
     case rel => exact ⟨k + 1, by omega, by go_num, hU', HN2⟩
     case measure => simp [intOf]; omega
   ·obtain rfl : k = l.length := by omega
    have hd := heq.out HN.out
    subst hd
    go_wp2
    go_ret
    exact ⟨rfl, hb⟩
 ·rw [decide_eq_false (fun e => hlen (by rw [e]))]
  have hlenI : ¬ ((l.length : Nat) : Int) = ((m.length : Nat) : Int) := by omega
  go_enter Tryz.func165, Tryz.ntmps165
  go_wp2
  go_ret
  exact ⟨rfl, Ext.refl _⟩
set_option maxHeartbeats 1000000 in
theorem tsame_w (r s : RowS) (w : World) (hl : r.2.2.2.length ≤ 35184372088832) (hx : Strs w r.2.2.1 r.2.2.2) (hy : Strs w s.2.2.1 s.2.2.2) :
  Calls Tryz.prog 145 #[.agg #[.string r.1, .bool r.2.1, r.2.2.1], .agg #[.string s.1, .bool s.2.1, s.2.2.1]] w fun e w' => e = .returned (.bool (decide (rowT r = rowT s))) ∧ Ext w w' := by
 obtain ⟨key, no, v, vals⟩ := r
 obtain ⟨key', no', v', vals'⟩ := s
 simp only at hl hx hy
 have hW : Ext w ((w.alloc (.cells #[.string key, .bool no, v] 179)).alloc (.cells #[.string key', .bool no', v'] 179)) := ((Ext.refl _).alloc _).alloc _
 have C := equalS_w vals vals' v v' _ hl (hx.ext hW) (hy.ext hW)
 show Calls Tryz.prog 145 #[.agg #[.string key, .bool no, v], .agg #[.string key', .bool no', v']] w fun e w' => e = .returned (.bool (decide ((key, no, vals) = (key', no', vals')))) ∧ Ext w w'
 have hd : decide ((key, no, vals) = (key', no', vals')) = ((key.toList == key'.toList) && ((no == no') && decide (vals = vals'))) := by
  rw [Bool.eq_iff_iff, Bool.and_eq_true, Bool.and_eq_true, decide_eq_true_eq, decide_eq_true_eq, bytes_eq, beq_iff_eq, Prod.mk.injEq, Prod.mk.injEq]
 rw [hd]
 clear hd
 generalize decide (vals = vals') = d at *
 obtain ⟨q, cap, rfl, _, _⟩ := hx.shape
 obtain ⟨q2, cap2, rfl, _, _⟩ := hy.shape
 cases q1 : (key.toList == key'.toList) with
 | false =>
  rw [Bool.false_and]
  clear C
  go_enter Tryz.func145, Tryz.ntmps145
  go_wp2
  go_ret
  exact ⟨rfl, hW⟩
 | true =>
  rw [Bool.true_and]
  by_cases hn : no = no'
  ·subst hn
   go_enter Tryz.func145, Tryz.ntmps145
   go_wp2_with fail
   refine C.mono ?_; rintro e w1 ⟨rfl, h1⟩
   go_wp2
   go_ret
   exact ⟨by simp, hW.trans h1⟩
  ·have hb : (no == no') = false := by rw [beq_eq_false_iff_ne]; exact hn
   rw [hb, Bool.false_and]
   clear C hn
   go_enter Tryz.func145, Tryz.ntmps145
   go_wp2
   go_ret
   exact ⟨rfl, hW⟩
set_option maxHeartbeats 2000000 in
theorem equalF_w (T U : List RowS) (v v2 : Value) (w : World) (hl : T.length ≤ 35184372088832) (hf : FitR T) (hx : Terms w v T) (hy : Terms w v2 U) :
  Calls Tryz.prog 144 #[v, v2, .func (.func 145) #[] #[]] w fun e w' => e = .returned (.bool (decide (T.map rowT = U.map rowT))) ∧ Ext w w' := by
 obtain ⟨q, cap, rfl, hcap, hcm⟩ := hx.shape
 obtain ⟨q2, cap2, rfl, hcap2, hcm2⟩ := hy.shape
 by_cases hlen : T.length = U.length
 ·have heq : (∀ k, k < T.length → rowT (sAtR T k) = rowT (sAtR U k)) → decide (T.map rowT = U.map rowT) = true := fun h => decide_eq_true (sAtR_ext hlen h)
  have hneq : ∀ k, k < T.length → rowT (sAtR T k) ≠ rowT (sAtR U k) → decide (T.map rowT = U.map rowT) = false := fun k hk h => decide_eq_false (sAtR_ne hk (hlen ▸ hk) h)
  generalize decide (T.map rowT = U.map rowT) = d at *
  replace heq := Lib.hid heq
  replace hneq := Lib.hid hneq
  have hlt' : ∀ k, k < T.length → k < U.length := fun k h => hlen ▸ h
  have hlenI : ((U.length : Nat) : Int) = ((T.length : Nat) : Int) := by rw [hlen]
  replace hlen := Lib.hid hlen
  go_enter Tryz.func144, Tryz.ntmps144
  go_wp2
  go_loopw [17] (fun i' wr => ∃ k : Nat, k ≤ T.length ∧ i' = .int .i64 k ∧ Ext w wr ∧ Hid (∀ j, j < k → rowT (sAtR T j) = rowT (sAtR U j))) (fun i' _ => T.length - (intOf i').toNat)
  case atStart => exact ⟨0, by omega, rfl, Ext.refl _, fun j hj => by omega⟩
  case round =>
   obtain ⟨k, hk, rfl, hb, HN⟩ := hrel
   by_cases hlt : k < T.length
   ·have hlt2 := hlt' k hlt
    obtain ⟨b, off, rfl, hbl, c0, c1, c2⟩ := (hx.ext hb).at hlt
    obtain ⟨b2, off2, rfl, hbl2, d0, d1, d2⟩ := (hy.ext hb).at hlt2
    have hn := hneq.out k hlt
    have HN2 : rowT (sAtR T k) = rowT (sAtR U k) → Hid (∀ j, j < k + 1 → rowT (sAtR T j) = rowT (sAtR U j)) := fun he j hj => by
     rcases Nat.lt_succ_iff_lt_or_eq.1 hj with h | rfl
     ·exact HN.out j h
     ·exact he
    have vx := (hx.ext hb).val hlt
    have vy := (hy.ext hb).val hlt2
    have hfl := (hf _ (sAtR_mem hlt)).2.1
    generalize sAtR T k = r at *
    generalize sAtR U k = s at *
    obtain ⟨k1, n1, v1, vals1⟩ := r
    obtain ⟨k2, n2, v2, vals2⟩ := s
    simp only at vx vy hfl c0 c1 c2 d0 d1 d2
    obtain ⟨q3, cap3, rfl, _, _⟩ := vx.shape
    obtain ⟨q4, cap4, rfl, _, _⟩ := vy.shape
    have hW := ((Ext.refl wr).alloc (.cells #[.string k1, .bool n1, .slice q3 vals1.length cap3] 179)).alloc (.cells #[.string k2, .bool n2, .slice q4 vals2.length cap4] 179)
    have C := tsame_w (k1, n1, .slice q3 vals1.length cap3, vals1) (k2, n2, .slice q4 vals2.length cap4, vals2) _ hfl (vx.ext hW) (vy.ext hW)
    simp only at C
    by_cases he : rowT (k1, n1, .slice q3 vals1.length cap3, vals1) = rowT (k2, n2, .slice q4 vals2.length cap4, vals2)
    ·have hN2 := HN2 he
     rw [decide_eq_true he] at C
     clear hn HN2 he
     go_wp2_with fail
     refine C.mono ?_; rintro e w1 ⟨rfl, h1⟩
     go_wp2
     go_roundw
     case rel => exact ⟨k + 1, by omega, by go_num, hb.trans (hW.trans h1), hN2⟩
     case measure => simp [intOf]; omega
    ·have hd := hn he
     subst hd
     rw [decide_eq_false he] at C
     clear hn HN2 he
     go_wp2_with fail
     refine C.mono ?_; rintro e w1 ⟨rfl, h1⟩
     go_wp2
     go_ret
     exact ⟨rfl, hb.trans (hW.trans h1)⟩
   ·obtain rfl : k = T.length := by omega
    have hd := heq.out HN.out
    subst hd
    go_wp2
    go_ret
    exact ⟨rfl, hb⟩
 ·have hne : decide (T.map rowT = U.map rowT) = false := decide_eq_false (fun e => hlen (by have := congrArg List.length e; simpa using this))
  rw [hne]
  have hlenI : ¬ ((T.length : Nat) : Int) = ((U.length : Nat) : Int) := by omega
  go_enter Tryz.func144, Tryz.ntmps144
  go_wp2
  go_ret
  exact ⟨rfl, Ext.refl _⟩
set_option maxHeartbeats 400000 in
theorem ssame_w (T U : List RowS) (v v2 : Value) (w : World) (hl : T.length ≤ 35184372088832) (hf : FitR T) (hx : Terms w v T) (hy : Terms w v2 U) :
  Calls Tryz.prog 123 #[v, v2] w fun e w' => e = .returned (.bool (decide (T.map rowT = U.map rowT))) ∧ Ext w w' := by
 have C := equalF_w T U v v2 w hl hf hx hy
 generalize decide (T.map rowT = U.map rowT) = d at *
 go_enter Tryz.func123, Tryz.ntmps123
 go_wp2_with fail
 refine C.mono ?_; rintro e w1 ⟨rfl, h1⟩
 go_wp2
 go_ret
 exact ⟨rfl, h1⟩
end Go.Proofs.YtefjdmjkofaajaaGreatDoor
namespace Go.Dm
open Go Go.RowKit
theorem row_eq {k1 k2 : ByteArray} {n1 n2 : Bool} {v1 v2 : Value} {s1 s2 : List ByteArray} : rowT (k1, n1, v1, s1) = rowT (k2, n2, v2, s2) ↔ k1 = k2 ∧ n1 = n2 ∧ s1 = s2 := by
  simp only [rowT, Prod.mk.injEq]
end Go.Dm
namespace Go.Proofs.YtefjdmjkofaajaaGreatDoor
open Go.RowKit Go.Dm
set_option maxHeartbeats 4000000 in
set_option maxRecDepth 100000 in
theorem smsame_w (T U : List RowS) (v v2 : Value) (w : World) (hl : T.length ≤ 35184372088832) (hf : FitR T) (hx : Terms w v T) (hy : Terms w v2 U) :
    Calls Tryz.prog 119 #[v, v2] w fun e w' => e = .returned (.bool (decide (T.map rowT = U.map rowT))) ∧ Ext w w' := by
  obtain ⟨q, cap, rfl, hcap, hcm⟩ := hx.shape
  obtain ⟨q2, cap2, rfl, hcap2, hcm2⟩ := hy.shape
  by_cases hlen : T.length = U.length
  · have hbad : ∀ k, k < T.length → rowT (sAtR T k) ≠ rowT (sAtR U k) → decide (T.map rowT = U.map rowT) = false := fun k hk h => decide_eq_false (sAtR_ne hk (by omega) h)
    have hgood : (∀ k, k < T.length → rowT (sAtR T k) = rowT (sAtR U k)) → decide (T.map rowT = U.map rowT) = true := fun h => decide_eq_true (sAtR_ext hlen h)
    generalize decide (T.map rowT = U.map rowT) = d at *
    have hl1 : T.length ≤ U.length := by omega
    have hl2 : U.length ≤ T.length := by omega
    have hlb : ((T.length : Int) == (U.length : Int)) = true := by rw [beq_iff_eq]; omega
    replace hlen := Lib.hid hlen
    replace hbad := Lib.hid hbad
    replace hgood := Lib.hid hgood
    go_enter Tryz.func119, Tryz.ntmps119
    go_wp2
    have hlbn : ((T.length : Int) != (U.length : Int)) = false := by rw [bne_eq_false_iff_eq]; omega
    simp only [hlbn]
    go_loopw [5] (fun i' wr => ∃ k : Nat, k ≤ T.length ∧ i' = .int .i64 k ∧ Ext w wr ∧ Hid (∀ j, j < k → rowT (sAtR T j) = rowT (sAtR U j))) (fun i' _ => T.length - (intOf i').toNat)
    case atStart => exact ⟨0, by omega, rfl, Ext.refl _, fun j hj => by omega⟩
    case round =>
      obtain ⟨k, hk, rfl, hb, HN⟩ := hrel
      by_cases hlt : k < T.length
      · obtain ⟨b, off, rfl, hbl, c0, c1, c2⟩ := (hx.ext hb).at hlt
        obtain ⟨b', off', rfl, hbl', d0, d1, d2⟩ := (hy.ext hb).at (k := k) (by omega)
        have vx := (hx.ext hb).val hlt
        have vy := (hy.ext hb).val (k := k) (by omega)
        have hfk := hf _ (sAtR_mem hlt)
        have hB := hbad.out k hlt
        have hG : rowT (sAtR T k) = rowT (sAtR U k) → Hid (∀ j, j < k + 1 → rowT (sAtR T j) = rowT (sAtR U j)) := fun h j hj => by
          rcases Nat.lt_succ_iff_lt_or_eq.1 hj with h' | rfl
          · exact HN.out j h'
          · exact h
        have cx := fun w' (h : Ext wr w') => (hx.ext (hb.trans h)).cells hlt
        have cy := fun w' (h : Ext wr w') => (hy.ext (hb.trans h)).cells (k := k) (by omega)
        generalize sAtR T k = r at *
        generalize sAtR U k = r' at *
        obtain ⟨k1, n1, v1, vs1⟩ := r
        obtain ⟨k2, n2, v2, vs2⟩ := r'
        have vx : Strs wr v1 vs1 := vx
        have vy : Strs wr v2 vs2 := vy
        have hf2 : vs1.length ≤ 35184372088832 := hfk.2.1
        simp only at c0 c1 c2 d0 d1 d2 cx cy
        obtain ⟨q3, cap3, rfl, _, _⟩ := vx.shape
        obtain ⟨q4, cap4, rfl, _, _⟩ := vy.shape
        have hk2e : (k1.toList == k2.toList) = true → k1 = k2 := bytes_eq.1
        have hk2n : (k1.toList == k2.toList) = false → k1 ≠ k2 := fun h e => by rw [bytes_eq.2 e] at h; cases h
        replace cx := Lib.hid cx
        replace cy := Lib.hid cy
        replace hB := Lib.hid hB
        replace hG := Lib.hid hG
        cases hkq : (k1.toList == k2.toList) with
        | false =>
          have hd := hB.out (fun e => hk2n hkq (row_eq.1 e).1)
          subst hd
          clear hk2e hk2n cx cy
          go_wp2_with fail
          refine Dm.wp_region_grow (by kernel_rfl) (by kernel_rfl) ?_
          repeat (go_big_quiet_step (fail))
          refine wpQuiet_nil ?_
          intro V hV
          go_wp2
          go_ret
          exact ⟨rfl, hb.trans hV⟩
        | true =>
          have hke := Lib.hid (hk2e hkq)
          clear hk2e hk2n
          by_cases hn : n1 = n2
          · subst hn
            by_cases hvl : vs1.length = vs2.length
            · have hv1 : vs1.length ≤ vs2.length := by omega
              have hv2 : vs2.length ≤ vs1.length := by omega
              have hvb : ((vs1.length : Int) == (vs2.length : Int)) = true := by rw [beq_iff_eq]; omega
              have hB2 : Hid (∀ m, m < vs1.length → ((strAt vs1 m).toList == (strAt vs2 m).toList) = false → d = false) := fun m hm h => hB.out (fun e => by
                have := (row_eq.1 e).2.2
                rw [this, bytes_eq.2 rfl] at h
                cases h)
              have hG2 : Hid ((∀ m, m < vs1.length → ((strAt vs1 m).toList == (strAt vs2 m).toList) = true) → Hid (∀ j, j < k + 1 → rowT (sAtR T j) = rowT (sAtR U j))) := fun h => hG.out (row_eq.2 ⟨hke.out, rfl, strs_eq hvl (fun m hm => bytes_eq.1 (h m hm))⟩)
              replace hvl := Lib.hid hvl
              go_wp2_with fail
              refine Dm.wp_region_grow (by kernel_rfl) (by kernel_rfl) ?_
              repeat (go_big_quiet_step (fail))
              refine wpQuiet_nil ?_
              intro V hV
              have hE1 := hb.trans hV
              clear c0 c1 c2 d0 d1 d2
              go_wp2
              go_loopw [6] (fun i' wq => ∃ m : Nat, m ≤ vs1.length ∧ i' = .int .i64 m ∧ Ext V wq ∧ Hid (∀ j, j < m → ((strAt vs1 j).toList == (strAt vs2 j).toList) = true)) (fun i' _ => vs1.length - (intOf i').toNat)
              case atStart => exact ⟨0, by omega, rfl, Ext.refl _, fun j hj => by omega⟩
              case round =>
                obtain ⟨m, hm, rfl, hbq, HM⟩ := hrel
                have er := hV.trans hbq
                have eR := hE1.trans hbq
                obtain ⟨xb, x0, x1, x2⟩ := cx.out _ er
                obtain ⟨yb, y0, y1, y2⟩ := cy.out _ er
                by_cases hltm : m < vs1.length
                · obtain ⟨b3, off3, rfl, hbl3, z0⟩ := (vx.ext er).at hltm
                  obtain ⟨b4, off4, rfl, hbl4, z1⟩ := (vy.ext er).at (k := m) (by omega)
                  cases hq : ((strAt vs1 m).toList == (strAt vs2 m).toList) with
                  | false =>
                    have hd := hB2.out m hltm hq
                    subst hd
                    go_wp2_with fail
                    refine Dm.wp_region_grow (by kernel_rfl) (by kernel_rfl) ?_
                    repeat (go_big_quiet_step (fail))
                    refine wpQuiet_nil ?_
                    intro X hX
                    go_wp2
                    go_ret
                    exact ⟨rfl, eR.trans hX⟩
                  | true =>
                    have HM2 : Hid (∀ j, j < m + 1 → ((strAt vs1 j).toList == (strAt vs2 j).toList) = true) := fun j hj => by
                      rcases Nat.lt_succ_iff_lt_or_eq.1 hj with h' | rfl
                      · exact HM.out j h'
                      · exact hq
                    go_wp2_with fail
                    refine Dm.wp_region_grow (by kernel_rfl) (by kernel_rfl) ?_
                    repeat (go_big_quiet_step (fail))
                    refine wpQuiet_nil ?_
                    intro X hX
                    go_wp2
                    go_roundw
                    case rel => exact ⟨m + 1, by omega, by go_num, hbq.trans hX, HM2⟩
                    case measure => simp [intOf]; omega
                · obtain rfl : m = vs1.length := by omega
                  have hg := hG2.out HM.out
                  clear HM
                  go_wp2
                  go_roundw
                  case rel => exact ⟨k + 1, by omega, by go_num, eR, hg⟩
                  case measure => simp [intOf]; omega
            · have hd := hB.out (fun e => hvl (by rw [(row_eq.1 e).2.2]))
              subst hd
              have hvb : ((vs1.length : Int) == (vs2.length : Int)) = false := by rw [beq_eq_false_iff_ne]; omega
              clear hvl cx cy
              go_wp2_with fail
              refine Dm.wp_region_grow (by kernel_rfl) (by kernel_rfl) ?_
              repeat (go_big_quiet_step (fail))
              refine wpQuiet_nil ?_
              intro V hV
              go_wp2
              go_ret
              exact ⟨rfl, hb.trans hV⟩
          · have hd := hB.out (fun e => hn (row_eq.1 e).2.1)
            subst hd
            clear cx cy
            cases n1 <;> cases n2
            all_goals first
              | (exact absurd rfl hn)
              | (clear hn
                 go_wp2_with fail
                 refine Dm.wp_region_grow (by kernel_rfl) (by kernel_rfl) ?_
                 repeat (go_big_quiet_step (fail))
                 refine wpQuiet_nil ?_
                 intro V hV
                 go_wp2
                 go_ret
                 exact ⟨rfl, hb.trans hV⟩)
      · obtain rfl : k = T.length := by omega
        have hd := hgood.out HN.out
        subst hd
        go_wp2
        go_ret
        exact ⟨rfl, hb⟩
  · have hz : decide (T.map rowT = U.map rowT) = false := decide_eq_false (fun e => hlen (by have := congrArg List.length e; simpa using this))
    generalize decide (T.map rowT = U.map rowT) = d at *
    subst hz
    have hlb : ((T.length : Int) == (U.length : Int)) = false := by rw [beq_eq_false_iff_ne]; omega
    clear hlen
    go_enter Tryz.func119, Tryz.ntmps119
    go_wp2
    go_ret
    exact ⟨rfl, Ext.refl _⟩
theorem Tryz.slTerm2 : SlT Tryz.prog 40 180 3 48 := SlT.mk' Tryz.underlying40 (by kernel_rfl) (by decide) (by decide)
set_option maxHeartbeats 4000000 in
set_option maxRecDepth 100000 in
theorem smgetO_w (s : ByteArray) (p : Int) (w : World) (hs : s.size ≤ 281474976710656) :
  Calls Tryz.prog 118 #[.string s, .int .i64 p] w fun e w' => ∃ r R n b, e = .returned (.tuple #[r, .int .i64 n, .bool b]) ∧ Terms w' r R ∧ FitR R ∧ R.length ≤ 4 ∧
   (∃ T, R.map rowT = T.map mkT ∧ atI getSelL [] s.data.toList p = (T, n, b)) ∧ OwnT w.heap.size r R ∧ Ext w w' := by
 have hln : s.data.toList.length = s.size := rfl
 have nothing : ∀ w', Ext w w' → atI getSelL [] s.data.toList p = ([], 0, false) → ∃ r R n b, Ending.returned (.tuple #[.slice none 0 0, .int .i64 0, .bool false]) = Ending.returned (.tuple #[r, .int .i64 n, .bool b]) ∧ Terms w' r R ∧ FitR R ∧ R.length ≤ 4 ∧
   (∃ T, R.map rowT = T.map mkT ∧ atI getSelL [] s.data.toList p = (T, n, b)) ∧ OwnT w.heap.size r R ∧ Ext w w' := fun w' h hz => ⟨_, [], 0, false, rfl, Terms.nil _, (fun r hr => by cases hr), by simp, ⟨[], rfl, hz⟩, OwnT.nil _, h⟩
 have C := rget_w s p w hs
 by_cases hc : (getI s.data.toList p).2.2 = true ∧ (getI s.data.toList p).1 ≤ 4
 ·obtain ⟨hc1, hc2⟩ := hc
  have hin : ¬ (p < 0 ∨ (s.data.toList.length : Int) ≤ p) := fun h => by rw [getI_out h] at hc1; cases hc1
  obtain ⟨q, rfl⟩ : ∃ q : Nat, p = (q : Int) := ⟨p.toNat, by omega⟩
  have hI := getI_in (l := s.data.toList) (k := q) (by omega)
  have hz : atI getSelL [] s.data.toList (q : Int) = _ := atI_pos getSelL_nil
  obtain ⟨u, n, hg, hI, hu⟩ : ∃ u n, getL (s.data.toList.drop q) = some (u, n) ∧ getI s.data.toList (q : Int) = (u, (q : Int) + (n : Int), true) ∧ u ≤ 4 := by
   cases hg : getL (s.data.toList.drop q) with
   | none => rw [hg] at hI; rw [hI] at hc1; cases hc1
   | some x =>
    obtain ⟨u, n⟩ := x
    rw [hg] at hI
    rw [hI] at hc2
    exact ⟨u, n, rfl, hI, hc2⟩
  have hN : Hid (readsL getTermL (s.data.toList.drop q) n u = none → atI getSelL [] s.data.toList (q : Int) = ([], 0, false)) := fun h => by
   rw [hz, getSelL_none (by rw [someL_some hg, if_pos hu, h])]
  have hY : Hid (∀ T r, readsL getTermL (s.data.toList.drop q) n u = some (T, r) → atI getSelL [] s.data.toList (q : Int) = if rightS (T.map mkT) = true then (T, (q : Int) + (r : Int), true) else ([], 0, false)) := fun T r h => by
   rw [hz, getSelL_some (by rw [someL_some hg, if_pos hu, h])]
   by_cases hr : rightS (T.map mkT) = true
   ·rw [if_pos hr, if_pos hr]
   ·rw [if_neg hr, if_neg hr]
  have e0 : (q : Int) + (n : Int) = ((q + n : Nat) : Int) := by omega
  rw [hI] at C
  simp only at C
  rw [e0] at C
  have hwu : IntKind.i64.wrap (u : Int) = (u : Int) := by rw [IntKind.wrap_i64]; omega
  have hu4 : decide ((4 : Int) < (u : Int)) = false := decide_eq_false (by omega)
  clear hz hg hc1 hc2 hin hI e0
  replace nothing := Lib.hid nothing
  go_enter Tryz.func118, Tryz.ntmps118
  go_wp2_with fail
  refine C.mono ?_; rintro e w1 ⟨rfl, h1⟩
  clear C
  go_wp2
  go_loopw [1, 9, 10] (fun a' v i' wr => ∃ (j : Nat) (R : List RowS) (T : List (Bs × Bool × List Bs)) (r : Nat), j ≤ u ∧ i' = .int .i64 j ∧ a' = .int .i64 ((q + r : Nat) : Int) ∧ TRow 180 w.heap.size wr v j R ∧
   Ext w wr ∧ Hid (R.map rowT = T.map mkT ∧ R.length = j ∧ FitR R ∧ ∀ x ∈ R, ∀ c, x.2.2.1.ownBlock = some c → w.heap.size ≤ c) ∧ Hid (readsL getTermL (s.data.toList.drop q) n j = some (T, r))) (fun _ _ i' _ => u - (intOf i').toNat)
  case atStart => exact ⟨0, [], [], n, by omega, rfl, rfl, TRow.nil _ _ _, h1, ⟨rfl, rfl, (fun r hr => by cases hr), fun r hr => by cases hr⟩, rfl⟩
  case round =>
   obtain ⟨j, R, T, r, hj, rfl, rfl, hRow, hEr, hRT, HR⟩ := hrel
   by_cases hlt : j < u
   ·have hst := readsL_succ HR.out
    rw [List.drop_drop] at hst
    replace hst := Lib.hid hst
    have C := smterm_w s (q + r) wr hs
    unfold noTermV at C
    go_wp2_with fail
    refine C.mono ?_; rintro e w5 ⟨h5, hcase⟩
    clear C
    rcases hcase with ⟨T5, r5, row, hT5, rfl, hrow, hv, hown⟩ | ⟨hno, rfl⟩
    ·have hap := hRow.apart_new hown
     obtain ⟨k1, n1, v1, vals1⟩ := row
     have hv : Strs w5 v1 vals1 := hv
     have hst' : Hid (readsL getTermL (s.data.toList.drop q) n (j + 1) = some (T ++ [T5], r + r5)) := by
      show _ = _
      rw [hst.out, hT5]
     have hRT' : Hid ((R ++ [(k1, n1, v1, vals1)]).map rowT = (T ++ [T5]).map mkT ∧ (R ++ [(k1, n1, v1, vals1)]).length = j + 1 ∧ FitR (R ++ [(k1, n1, v1, vals1)]) ∧ ∀ x ∈ R ++ [(k1, n1, v1, vals1)], ∀ c, x.2.2.1.ownBlock = some c → w.heap.size ≤ c) := by
      obtain ⟨x1, x2, x3, x4⟩ := hRT.out
      refine ⟨by rw [List.map_append, List.map_append, x1]; simp only [List.map_cons, List.map_nil, hrow], by simp [x2], fun y hy => ?_, fun y hy c hc => ?_⟩
      ·rcases List.mem_append.1 hy with hy | hy
       ·exact x3 y hy
       ·rw [List.mem_singleton.1 hy, hrow]; exact mkT_fit (getTermL_fit hT5)
      ·rcases List.mem_append.1 hy with hy | hy
       ·exact x4 y hy c hc
       ·rw [List.mem_singleton.1 hy] at hc
        have h1 := hown c hc
        have h2 := hEr.size
        omega
     obtain ⟨q3, cap3, rfl, _, _⟩ := hv.shape
     have ha := h5.trans ((Ext.refl w5).alloc (.cells #[.string k1, .bool n1, .slice q3 vals1.length cap3] 180))
     have hv6 := hv.ext ((Ext.refl w5).alloc (.cells #[.string k1, .bool n1, .slice q3 vals1.length cap3] 180))
     generalize hw6 : w5.alloc (.cells #[.string k1, .bool n1, .slice q3 vals1.length cap3] 180) = w6 at ha hv6
     have ha7 := ha.trans ((Ext.refl w6).alloc (.cells #[.string k1, .bool n1, .slice q3 vals1.length cap3] 180))
     have hb7 := hEr.trans ha7
     have ho7 := hRow.ext ha7
     have hv7 := hv6.ext ((Ext.refl w6).alloc (.cells #[.string k1, .bool n1, .slice q3 vals1.length cap3] 180))
     have hl7 := Sl.lit w6 180 3 1 #[.string k1, .bool n1, .slice q3 vals1.length cap3] rfl (by simp [maxLen])
     have hap7 : (k1, n1, Value.slice q3 vals1.length cap3, vals1).2.2.2 = [] ∨ Apart (k1, n1, Value.slice q3 vals1.length cap3, vals1).2.2.1 _ := Or.inr hap
     replace hap7 := Lib.hid hap7
     rw [← hw6] at hb7 ho7 hv7 hl7
     simp only [World.size_alloc] at hl7
     clear hst hT5 hrow hown hv hw6 ha7 ha hap
     go_wp2_with (at_builtin; refine wpList_appT rfl _ _ Tryz.slTerm2 rfl hb7 rfl ho7 (r := (k1, n1, .slice q3 vals1.length cap3, vals1)) rfl hl7 hv7 hap7.out (by omega) ?_; intro v8 w8 ho8 hb8 _)
     go_roundw
     case rel => exact ⟨j + 1, R ++ [(k1, n1, .slice q3 vals1.length cap3, vals1)], T ++ [T5], r + r5, by omega, by go_num, by go_num, ho8, hb8, hRT', hst'⟩
     case measure => simp [intOf]; omega
    ·have hno' := hst.out
     rw [hno] at hno'
     have hz' := hN.out (readsL_none hno' (show j + 1 ≤ u by omega))
     replace hz' := Lib.hid hz'
     clear hno hno' hst
     have hE5 := hEr.trans (h5.trans ((Ext.refl w5).alloc (.cells #[.string ⟨#[]⟩, .bool false, .slice none 0 0] 180)))
     go_wp2_with fail
     refine bodyPost_ret (results3 rfl _ _ _) rfl ?_
     exact nothing.out _ hE5 hz'.out
   ·obtain rfl : j = u := by omega
    obtain ⟨qv, capv, rfl⟩ := row_shape hRow.row
    obtain ⟨x1, x2, x3, x4⟩ := hRT.out
    have hOw : OwnT w.heap.size _ R := ⟨fun c e => (hRow.lt e).1, x4⟩
    have hT := hRow.terms x2.symm
    have CR := smright_w R _ wr x3 hT
    have hYY := hY.out T r HR.out
    rw [x1] at CR
    clear hRT hY hN
    cases hR : rightS (T.map mkT) with
    | false =>
     rw [hR] at CR hYY
     rw [if_neg (by simp)] at hYY
     replace hYY := Lib.hid hYY
     go_wp2_with fail
     refine CR.mono ?_; rintro e w3 ⟨rfl, h3⟩
     go_wp2_with fail
     refine bodyPost_ret (results3 rfl _ _ _) rfl ?_
     exact nothing.out _ (hEr.trans h3) hYY.out
    | true =>
     rw [hR] at CR hYY
     rw [if_pos rfl] at hYY
     have e1 : (q : Int) + (r : Int) = ((q + r : Nat) : Int) := by omega
     rw [e1] at hYY
     have hT4 : T.length ≤ 4 := by have := (rightS_iff.1 hR).1; rwa [List.length_map] at this
     have hR4 : R.length ≤ 4 := by have := congrArg List.length x1; rw [List.length_map, List.length_map] at this; omega
     replace hYY := Lib.hid hYY
     replace x1 := Lib.hid x1
     clear hR hT4 e1 HR
     go_wp2_with fail
     refine CR.mono ?_; rintro e w3 ⟨rfl, h3⟩
     go_wp2_with fail
     refine bodyPost_ret (results3 rfl _ _ _) rfl ?_
     exact ⟨_, R, _, true, rfl, hT.ext h3, x3, hR4, ⟨T, x1.out, hYY.out⟩, hOw, hEr.trans h3⟩
 ·have hz : atI getSelL [] s.data.toList p = ([], 0, false) := by
   by_cases h2 : (getI s.data.toList p).2.2 = true
   ·have hin : ¬ (p < 0 ∨ (s.data.toList.length : Int) ≤ p) := fun h => by rw [getI_out h] at h2; cases h2
    obtain ⟨q, rfl⟩ : ∃ q : Nat, p = (q : Int) := ⟨p.toNat, by omega⟩
    rw [getI_in (by omega)] at h2 hc
    rw [atI_pos getSelL_nil]
    cases hg : getL (s.data.toList.drop q) with
    | none => rw [hg] at h2; cases h2
    | some x =>
     obtain ⟨u, n⟩ := x
     rw [hg] at hc
     rw [getSelL_none (by rw [someL_some hg, if_neg (fun h => hc ⟨rfl, h⟩)])]
   ·exact getSelI_no (by simpa using h2)
  have hov : (getI s.data.toList p).2.2 = true → decide ((4 : Int) < ((getI s.data.toList p).1 : Int)) = true := fun h => decide_eq_true (by
   have : ¬ (getI s.data.toList p).1 ≤ 4 := fun h' => hc ⟨h, h'⟩
   omega)
  generalize (getI s.data.toList p).1 = u at *
  generalize (getI s.data.toList p).2.1 = n at *
  generalize (getI s.data.toList p).2.2 = o at *
  replace hz := Lib.hid hz
  replace nothing := Lib.hid nothing
  clear hc
  cases o with
  | false =>
   clear hov
   go_enter Tryz.func118, Tryz.ntmps118
   go_wp2_with fail
   refine C.mono ?_; rintro e w1 ⟨rfl, h1⟩
   go_wp2_with fail
   refine bodyPost_ret (results3 rfl _ _ _) rfl ?_
   exact nothing.out _ h1 hz.out
  | true =>
   replace hov := hov rfl
   go_enter Tryz.func118, Tryz.ntmps118
   go_wp2_with fail
   refine C.mono ?_; rintro e w1 ⟨rfl, h1⟩
   go_wp2_with fail
   refine bodyPost_ret (results3 rfl _ _ _) rfl ?_
   exact nothing.out _ h1 hz.out
end Go.Proofs.YtefjdmjkofaajaaGreatDoor
