/- Texts one behind the other: Chapter 5: the walk of Same; Chapter 5: the walk of the laws' examples. -/
import Derived.Test.YtbkemhheombfcaaDoorSelBackP19
import Derived.Test.YtbkemhheombfcaaDoorSelBackP16
namespace Go.Dm
open Go Go.RowKit
theorem sAtR_ext {T U : List RowS} (hlen : T.length = U.length) (h : ∀ k, k < T.length → rowT (sAtR T k) = rowT (sAtR U k)) : T.map rowT = U.map rowT := by
  apply List.ext_getElem (by simpa using hlen)
  intro i h1 h2
  simp only [List.length_map] at h1 h2
  have := h i h1
  simpa [sAtR, h1, h2] using this
theorem sAtR_ne {T U : List RowS} {k : Nat} (h1 : k < T.length) (h2 : k < U.length) (h : rowT (sAtR T k) ≠ rowT (sAtR U k)) : T.map rowT ≠ U.map rowT := fun e => by
  have := congrArg (fun l => l[k]?) e
  simp [sAtR, h1, h2] at this h
  exact h this
end Go.Dm
namespace Go.Proofs.YtbkemhheombfcaaDoor
open Go.RowKit Go.Dm

set_option maxHeartbeats 400000 in
theorem equalS_w (l m : List ByteArray) (v v2 : Value) (w : World) (hl : l.length ≤ 35184372088832) (hx : Strs w v l) (hy : Strs w v2 m) :
    Calls Tryd.prog 104 #[v, v2] w fun e w' => e = .returned (.bool (decide (l = m))) ∧ Ext w w' := by
  obtain ⟨q, cap, rfl, hcap, hcm⟩ := hx.shape
  obtain ⟨q2, cap2, rfl, hcap2, hcm2⟩ := hy.shape
  by_cases hlen : l.length = m.length
  · have heq : (∀ k, k < l.length → strAt l k = strAt m k) → decide (l = m) = true := fun h => decide_eq_true (strs_eq hlen h)
    have hneq : ∀ k, k < l.length → strAt l k ≠ strAt m k → decide (l = m) = false := fun k hk h => decide_eq_false (fun e => h (by rw [e]))
    generalize decide (l = m) = d at *
    replace heq := Lib.hid heq
    replace hneq := Lib.hid hneq
    have hlt' : ∀ k, k < l.length → k < m.length := fun k h => hlen ▸ h
    have hlenI : ((m.length : Nat) : Int) = ((l.length : Nat) : Int) := by rw [hlen]
    go_enter Tryd.func104, Tryd.ntmps104
    go_wp2
    go_loopw [13] (fun i' wr => ∃ k : Nat, k ≤ l.length ∧ i' = .int .i64 k ∧ Ext w wr ∧ Hid (∀ j, j < k → strAt l j = strAt m j)) (fun i' _ => l.length - (intOf i').toNat)
    case atStart => exact ⟨0, by omega, rfl, Ext.refl _, fun j hj => by omega⟩
    case round =>
      obtain ⟨k, hk, rfl, hb, HN⟩ := hrel
      by_cases hlt : k < l.length
      · have hlt2 := hlt' k hlt
        obtain ⟨b, off, rfl, hbl, c0⟩ := (hx.ext hb).at hlt
        obtain ⟨b2, off2, rfl, hbl2, d0⟩ := (hy.ext hb).at hlt2
        cases q1 : ((strAt l k).toList == (strAt m k).toList) with
        | false =>
          have hd := hneq.out k hlt (fun h => by rw [h] at q1; simp at q1)
          subst hd
          go_wp2_with fail
          refine Dm.wp_region_grow (by kernel_rfl) (by kernel_rfl) ?_
          repeat (go_big_quiet_step (fail))
          refine wpQuiet_nil ?_
          intro U hU
          have hU' := hb.trans hU
          go_wp2
          go_ret
          exact ⟨rfl, hU'⟩
        | true =>
          have he := bytes_eq.1 q1
          have HN2 : Hid (∀ j, j < k + 1 → strAt l j = strAt m j) := fun j hj => by
            rcases Nat.lt_succ_iff_lt_or_eq.1 hj with h | rfl
            · exact HN.out j h
            · exact he
          replace he := Lib.hid he
          go_wp2_with fail
          refine Dm.wp_region_grow (by kernel_rfl) (by kernel_rfl) ?_
          repeat (go_big_quiet_step (fail))
          refine wpQuiet_nil ?_
          intro U hU
          have hU' := hb.trans hU
          go_wp2
          go_roundw
          case rel => exact ⟨k + 1, by omega, by go_num, hU', HN2⟩
          case measure => simp [intOf]; omega
      · obtain rfl : k = l.length := by omega
        have hd := heq.out HN.out
        subst hd
        go_wp2
        go_ret
        exact ⟨rfl, hb⟩
  · rw [decide_eq_false (fun e => hlen (by rw [e]))]
    have hlenI : ¬ ((l.length : Nat) : Int) = ((m.length : Nat) : Int) := by omega
    go_enter Tryd.func104, Tryd.ntmps104
    go_wp2
    go_ret
    exact ⟨rfl, Ext.refl _⟩

set_option maxHeartbeats 1000000 in
theorem tsame_w (r s : RowS) (w : World) (hl : r.2.2.2.length ≤ 35184372088832) (hx : Strs w r.2.2.1 r.2.2.2) (hy : Strs w s.2.2.1 s.2.2.2) :
    Calls Tryd.prog 82 #[.agg #[.string r.1, .bool r.2.1, r.2.2.1], .agg #[.string s.1, .bool s.2.1, s.2.2.1]] w fun e w' => e = .returned (.bool (decide (rowT r = rowT s))) ∧ Ext w w' := by
  obtain ⟨key, no, v, vals⟩ := r
  obtain ⟨key', no', v', vals'⟩ := s
  simp only at hl hx hy
  have hW : Ext w ((w.alloc (.cells #[.string key, .bool no, v] 57)).alloc (.cells #[.string key', .bool no', v'] 57)) := ((Ext.refl _).alloc _).alloc _
  have C := equalS_w vals vals' v v' _ hl (hx.ext hW) (hy.ext hW)
  show Calls Tryd.prog 82 #[.agg #[.string key, .bool no, v], .agg #[.string key', .bool no', v']] w fun e w' => e = .returned (.bool (decide ((key, no, vals) = (key', no', vals')))) ∧ Ext w w'
  have hd : decide ((key, no, vals) = (key', no', vals')) = ((key.toList == key'.toList) && ((no == no') && decide (vals = vals'))) := by
    rw [Bool.eq_iff_iff, Bool.and_eq_true, Bool.and_eq_true, decide_eq_true_eq, decide_eq_true_eq, bytes_eq, beq_iff_eq, Prod.mk.injEq, Prod.mk.injEq]
  rw [hd]
  clear hd
  generalize decide (vals = vals') = d at *
  obtain ⟨q, cap, rfl, _, _⟩ := hx.shape
  obtain ⟨q2, cap2, rfl, _, _⟩ := hy.shape
  cases q1 : (key.toList == key'.toList) with
  | false =>
    rw [Bool.false_and]
    clear C
    go_enter Tryd.func82, Tryd.ntmps82
    go_wp2
    go_ret
    exact ⟨rfl, hW⟩
  | true =>
    rw [Bool.true_and]
    by_cases hn : no = no'
    · subst hn
      go_enter Tryd.func82, Tryd.ntmps82
      go_wp2_with fail
      refine C.mono ?_; rintro e w1 ⟨rfl, h1⟩
      go_wp2
      go_ret
      exact ⟨by simp, hW.trans h1⟩
    · have hb : (no == no') = false := by rw [beq_eq_false_iff_ne]; exact hn
      rw [hb, Bool.false_and]
      clear C hn
      go_enter Tryd.func82, Tryd.ntmps82
      go_wp2
      go_ret
      exact ⟨rfl, hW⟩

set_option maxHeartbeats 2000000 in
theorem equalF_w (T U : List RowS) (v v2 : Value) (w : World) (hl : T.length ≤ 35184372088832) (hf : FitR T) (hx : Terms w v T) (hy : Terms w v2 U) :
    Calls Tryd.prog 81 #[v, v2, .func (.func 82) #[] #[]] w fun e w' => e = .returned (.bool (decide (T.map rowT = U.map rowT))) ∧ Ext w w' := by
  obtain ⟨q, cap, rfl, hcap, hcm⟩ := hx.shape
  obtain ⟨q2, cap2, rfl, hcap2, hcm2⟩ := hy.shape
  by_cases hlen : T.length = U.length
  · have heq : (∀ k, k < T.length → rowT (sAtR T k) = rowT (sAtR U k)) → decide (T.map rowT = U.map rowT) = true := fun h => decide_eq_true (sAtR_ext hlen h)
    have hneq : ∀ k, k < T.length → rowT (sAtR T k) ≠ rowT (sAtR U k) → decide (T.map rowT = U.map rowT) = false := fun k hk h => decide_eq_false (sAtR_ne hk (hlen ▸ hk) h)
    generalize decide (T.map rowT = U.map rowT) = d at *
    replace heq := Lib.hid heq
    replace hneq := Lib.hid hneq
    have hlt' : ∀ k, k < T.length → k < U.length := fun k h => hlen ▸ h
    have hlenI : ((U.length : Nat) : Int) = ((T.length : Nat) : Int) := by rw [hlen]
    replace hlen := Lib.hid hlen
    go_enter Tryd.func81, Tryd.ntmps81
    go_wp2
    go_loopw [17] (fun i' wr => ∃ k : Nat, k ≤ T.length ∧ i' = .int .i64 k ∧ Ext w wr ∧ Hid (∀ j, j < k → rowT (sAtR T j) = rowT (sAtR U j))) (fun i' _ => T.length - (intOf i').toNat)
    case atStart => exact ⟨0, by omega, rfl, Ext.refl _, fun j hj => by omega⟩
    case round =>
      obtain ⟨k, hk, rfl, hb, HN⟩ := hrel
      by_cases hlt : k < T.length
      · have hlt2 := hlt' k hlt
        obtain ⟨b, off, rfl, hbl, c0, c1, c2⟩ := (hx.ext hb).at hlt
        obtain ⟨b2, off2, rfl, hbl2, d0, d1, d2⟩ := (hy.ext hb).at hlt2
        have hn := hneq.out k hlt
        have HN2 : rowT (sAtR T k) = rowT (sAtR U k) → Hid (∀ j, j < k + 1 → rowT (sAtR T j) = rowT (sAtR U j)) := fun he j hj => by
          rcases Nat.lt_succ_iff_lt_or_eq.1 hj with h | rfl
          · exact HN.out j h
          · exact he
        have vx := (hx.ext hb).val hlt
        have vy := (hy.ext hb).val hlt2
        have hfl := (hf _ (sAtR_mem hlt)).2.1
        generalize sAtR T k = r at *
        generalize sAtR U k = s at *
        obtain ⟨k1, n1, v1, vals1⟩ := r
        obtain ⟨k2, n2, v2, vals2⟩ := s
        simp only at vx vy hfl c0 c1 c2 d0 d1 d2
        obtain ⟨q3, cap3, rfl, _, _⟩ := vx.shape
        obtain ⟨q4, cap4, rfl, _, _⟩ := vy.shape
        have hW := ((Ext.refl wr).alloc (.cells #[.string k1, .bool n1, .slice q3 vals1.length cap3] 57)).alloc (.cells #[.string k2, .bool n2, .slice q4 vals2.length cap4] 57)
        have C := tsame_w (k1, n1, .slice q3 vals1.length cap3, vals1) (k2, n2, .slice q4 vals2.length cap4, vals2) _ hfl (vx.ext hW) (vy.ext hW)
        simp only at C
        by_cases he : rowT (k1, n1, .slice q3 vals1.length cap3, vals1) = rowT (k2, n2, .slice q4 vals2.length cap4, vals2)
        · have hN2 := HN2 he
          rw [decide_eq_true he] at C
          clear hn HN2 he
          go_wp2_with fail
          refine C.mono ?_; rintro e w1 ⟨rfl, h1⟩
          go_wp2
          go_roundw
          case rel => exact ⟨k + 1, by omega, by go_num, hb.trans (hW.trans h1), hN2⟩
          case measure => simp [intOf]; omega
        · have hd := hn he
          subst hd
          rw [decide_eq_false he] at C
          clear hn HN2 he
          go_wp2_with fail
          refine C.mono ?_; rintro e w1 ⟨rfl, h1⟩
          go_wp2
          go_ret
          exact ⟨rfl, hb.trans (hW.trans h1)⟩
      · obtain rfl : k = T.length := by omega
        have hd := heq.out HN.out
        subst hd
        go_wp2
        go_ret
        exact ⟨rfl, hb⟩
  · have hne : decide (T.map rowT = U.map rowT) = false := decide_eq_false (fun e => hlen (by have := congrArg List.length e; simpa using this))
    rw [hne]
    have hlenI : ¬ ((T.length : Nat) : Int) = ((U.length : Nat) : Int) := by omega
    go_enter Tryd.func81, Tryd.ntmps81
    go_wp2
    go_ret
    exact ⟨rfl, Ext.refl _⟩

set_option maxHeartbeats 400000 in
theorem ssame_w (T U : List RowS) (v v2 : Value) (w : World) (hl : T.length ≤ 35184372088832) (hf : FitR T) (hx : Terms w v T) (hy : Terms w v2 U) :
    Calls Tryd.prog 45 #[v, v2] w fun e w' => e = .returned (.bool (decide (T.map rowT = U.map rowT))) ∧ Ext w w' := by
  have C := equalF_w T U v v2 w hl hf hx hy
  generalize decide (T.map rowT = U.map rowT) = d at *
  go_enter Tryd.func45, Tryd.ntmps45
  go_wp2_with fail
  refine C.mono ?_; rintro e w1 ⟨rfl, h1⟩
  go_wp2
  go_ret
  exact ⟨rfl, h1⟩

end Go.Proofs.YtbkemhheombfcaaDoor

namespace Go.Dm
open Go Go.RowKit
theorem rows_cons {R : List RowS} {t : TermS} {T : List TermS} (h : R.map rowT = t :: T) : ∃ (v : Value) (R' : List RowS), R = (t.1, t.2.1, v, t.2.2) :: R' ∧ R'.map rowT = T := by
  match R, h with
  | r :: R', h =>
    simp only [List.map_cons, List.cons.injEq] at h
    obtain ⟨h1, h2⟩ := h
    refine ⟨r.2.2.1, R', ?_, h2⟩
    rw [← h1]; rfl
theorem rows_nil {R : List RowS} (h : R.map rowT = []) : R = [] := List.map_eq_nil_iff.1 h
theorem fitR_small {R : List RowS} (h : ∀ t ∈ R.map rowT, t.1.size ≤ 1000 ∧ t.2.2.length ≤ 1000 ∧ ∀ x ∈ t.2.2, x.size ≤ 1000) : FitR R := fun r hr => by
  have := h _ (List.mem_map_of_mem hr)
  refine ⟨by omega, by omega, fun x hx => ?_⟩
  have := this.2.2 x hx
  omega
end Go.Dm
namespace Go.Proofs.YtbkemhheombfcaaDoor
open Go.RowKit Go.Dm

set_option maxHeartbeats 2000000 in
set_option maxRecDepth 100000 in
theorem sexamples_w (w : World) (ht : Vars w) :
    Calls Tryd.prog 33 #[] w fun e w' => e = .returned (.bool true) ∧ Ext w w' := by
  have P1 : Hid (parseS [122, 111, 110, 101, 33, 61, 97, 124, 98, 44, 33, 103, 112, 117, 44, 100, 105, 115, 107] = ([(⟨#[122, 111, 110, 101]⟩, true, [⟨#[97]⟩, ⟨#[98]⟩]), (⟨#[103, 112, 117]⟩, true, []), (⟨#[100, 105, 115, 107]⟩, false, [])], true)) := by show _ = _; decide +kernel
  have P2 : Hid (parseS [122, 111, 110, 101, 61, 98, 124, 97] = ([], false)) := by show _ = _; decide +kernel
  go_enter Tryd.func33, Tryd.ntmps33
  go_wp2_with fail
  refine (sparse_w _ w (by decide) ht).mono ?_; rintro e w1 ⟨r1, l1, b1, rfl, hx1, hl1, _, _, e1⟩
  rw [show parseS (⟨#[122, 111, 110, 101, 33, 61, 97, 124, 98, 44, 33, 103, 112, 117, 44, 100, 105, 115, 107]⟩ : ByteArray).data.toList = _ from P1.out] at hl1
  obtain ⟨hq1, rfl⟩ := Prod.mk.inj hl1
  obtain ⟨v0, R0, rfl, ha1⟩ := rows_cons hq1
  obtain ⟨v1, R1, rfl, ha2⟩ := rows_cons ha1
  obtain ⟨v2, R2, rfl, ha3⟩ := rows_cons ha2
  obtain rfl := rows_nil ha3
  clear hl1 hq1 ha1 ha2 ha3
  simp only at hx1
  go_wp2_with fail
  refine (sparse_w _ w1 (by decide) (ht.ext e1)).mono ?_; rintro e w2 ⟨r2, l2, b2, rfl, hx2, hl2, _, _, h2⟩
  have e2 := e1.trans h2
  rw [show parseS (⟨#[122, 111, 110, 101, 61, 98, 124, 97]⟩ : ByteArray).data.toList = _ from P2.out] at hl2
  obtain ⟨hq2, rfl⟩ := Prod.mk.inj hl2
  obtain rfl := rows_nil hq2
  clear hl2 hq2 hx2
  have hx := hx1.ext h2
  clear hx1
  obtain ⟨q1, cap1, rfl, hc1, hm1⟩ := hx.shape
  have vx0 := hx.val (k := 0) (by simp)
  have vx1 := hx.val (k := 1) (by simp)
  have vx2 := hx.val (k := 2) (by simp)
  obtain ⟨g1, o1, rfl, hg1, a0, a1, a2⟩ := hx.at (k := 0) (by simp)
  obtain ⟨_, _, eg, _, b0, b1, b2⟩ := hx.at (k := 1) (by simp)
  injection eg with eg; injection eg with eg1 eg2
  subst eg1 eg2
  obtain ⟨_, _, eg, _, c0, c1, c2⟩ := hx.at (k := 2) (by simp)
  injection eg with eg; injection eg with eg1 eg2
  subst eg1 eg2
  simp only [sAtR, List.getD_cons_zero, List.getD_cons_succ] at vx0 vx1 vx2 a0 a1 a2 b0 b1 b2 c0 c1 c2
  rw [Nat.zero_mul, Nat.add_zero] at a0 a1 a2
  obtain ⟨p0, k0, rfl, _, _⟩ := vx0.shape
  obtain ⟨p1, k1, rfl, _, _⟩ := vx1.shape
  obtain ⟨p2, k2, rfl, _, _⟩ := vx2.shape
  simp only [List.length_cons, List.length_nil, Nat.zero_add, Nat.reduceAdd] at hc1 hm1
  clear P1 P2
  obtain ⟨R, hRe⟩ : ∃ R : List RowS, R = [(⟨#[122, 111, 110, 101]⟩, true, .slice p0 2 k0, [⟨#[97]⟩, ⟨#[98]⟩]), (⟨#[103, 112, 117]⟩, true, .slice p1 0 k1, []), (⟨#[100, 105, 115, 107]⟩, false, .slice p2 0 k2, [])] := ⟨_, rfl⟩
  have hx : Terms w2 (.slice (some ⟨g1, o1, none⟩) R.length cap1) R := by rw [hRe]; exact hx
  have hRl : Hid (R.length = 3) := by show _ = _; rw [hRe]; rfl
  have hd2 := hx.drop (k := 2) (by rw [hRl.out]; omega)
  have hd1 := hx.drop (k := 1) (by rw [hRl.out]; omega)
  rw [hRl.out] at hx hd2 hd1
  rw [dropV_any (by omega)] at hd2 hd1
  have hd2 : Terms w2 (.slice (some ⟨g1, o1 + 6, none⟩) 1 (cap1 - 2)) (R.drop 2) := hd2
  have hd1 : Terms w2 (.slice (some ⟨g1, o1 + 3, none⟩) 2 (cap1 - 1)) (R.drop 1) := hd1
  have hRT : Hid (R.map rowT = [(⟨#[122, 111, 110, 101]⟩, true, [⟨#[97]⟩, ⟨#[98]⟩]), (⟨#[103, 112, 117]⟩, true, []), (⟨#[100, 105, 115, 107]⟩, false, [])]) := by show _ = _; rw [hRe]; rfl
  have hR2 : Hid ((R.drop 2).map rowT = [(⟨#[100, 105, 115, 107]⟩, false, [])]) := by show _ = _; rw [hRe]; rfl
  have hF : FitR R := fitR_small (by rw [hRT.out]; decide +kernel)
  have hF2 : FitR (R.drop 2) := fun r hr => hF r (List.mem_of_mem_drop hr)
  have T1 : Hid (textS (R.map rowT) = [122, 111, 110, 101, 33, 61, 97, 124, 98, 44, 33, 103, 112, 117, 44, 100, 105, 115, 107]) := by show _ = _; rw [hRT.out]; decide +kernel
  have M1 : Hid (matchS (R.map rowT) [(⟨#[100, 105, 115, 107]⟩, ⟨#[115, 115, 100]⟩), (⟨#[122, 111, 110, 101]⟩, ⟨#[99]⟩)] = true) := by show _ = _; rw [hRT.out]; decide +kernel
  have M2 : Hid (matchS (R.map rowT) [(⟨#[100, 105, 115, 107]⟩, ⟨#[115, 115, 100]⟩), (⟨#[122, 111, 110, 101]⟩, ⟨#[97]⟩)] = false) := by show _ = _; rw [hRT.out]; decide +kernel
  have M3 : Hid (matchS (R.map rowT) [(⟨#[100, 105, 115, 107]⟩, ⟨#[120]⟩)] = true) := by show _ = _; rw [hRT.out]; decide +kernel
  have U1 : Hid (putS ((R.drop 2).map rowT) = [1, 4, 100, 105, 115, 107, 0]) := by show _ = _; rw [hR2.out]; decide +kernel
  have S2 : Hid (decide (R.map rowT = (R.drop 1).map rowT) = false) := by show _ = _; rw [List.map_drop, hRT.out]; decide +kernel
  clear hRe
  go_wp2_with fail
  refine (stext_w R _ w2 (by rw [hRl.out]; decide) hF hx (ht.tabs.ext e2)).mono ?_; rintro e w3 ⟨rfl, h3⟩
  have e3 := e2.trans h3
  rw [T1.out]
  have a3 := (Ext.refl w3).alloc (.cells #[.string ⟨#[100, 105, 115, 107]⟩, .string ⟨#[115, 115, 100]⟩, .string ⟨#[122, 111, 110, 101]⟩, .string ⟨#[99]⟩] 29)
  have hp3 : Pairs (w3.alloc (.cells #[.string ⟨#[100, 105, 115, 107]⟩, .string ⟨#[115, 115, 100]⟩, .string ⟨#[122, 111, 110, 101]⟩, .string ⟨#[99]⟩] 29)) (.slice (some ⟨w3.heap.size, 0, none⟩) 2 2) [(⟨#[100, 105, 115, 107]⟩, ⟨#[115, 115, 100]⟩), (⟨#[122, 111, 110, 101]⟩, ⟨#[99]⟩)] := Sl.lit w3 29 2 2 #[.string ⟨#[100, 105, 115, 107]⟩, .string ⟨#[115, 115, 100]⟩, .string ⟨#[122, 111, 110, 101]⟩, .string ⟨#[99]⟩] rfl (by simp [maxLen])
  have CM := match_w R _ _ _ _ (by rw [hRl.out]; decide) hF (hx.ext (h3.trans a3)) (by decide) hp3
  rw [M1.out] at CM
  clear hp3
  go_wp2_with fail
  refine CM.mono ?_; rintro e w4 ⟨rfl, h4⟩
  clear CM
  have hh4 := h3.trans (a3.trans h4)
  have a4 := (Ext.refl w4).alloc (.cells #[.string ⟨#[100, 105, 115, 107]⟩, .string ⟨#[115, 115, 100]⟩, .string ⟨#[122, 111, 110, 101]⟩, .string ⟨#[97]⟩] 29)
  have hp4 : Pairs (w4.alloc (.cells #[.string ⟨#[100, 105, 115, 107]⟩, .string ⟨#[115, 115, 100]⟩, .string ⟨#[122, 111, 110, 101]⟩, .string ⟨#[97]⟩] 29)) (.slice (some ⟨w4.heap.size, 0, none⟩) 2 2) [(⟨#[100, 105, 115, 107]⟩, ⟨#[115, 115, 100]⟩), (⟨#[122, 111, 110, 101]⟩, ⟨#[97]⟩)] := Sl.lit w4 29 2 2 #[.string ⟨#[100, 105, 115, 107]⟩, .string ⟨#[115, 115, 100]⟩, .string ⟨#[122, 111, 110, 101]⟩, .string ⟨#[97]⟩] rfl (by simp [maxLen])
  have CM := match_w R _ _ _ _ (by rw [hRl.out]; decide) hF (hx.ext (hh4.trans a4)) (by decide) hp4
  rw [M2.out] at CM
  clear hp4
  go_wp2_with fail
  refine CM.mono ?_; rintro e w5 ⟨rfl, h5⟩
  clear CM
  have hh5 := hh4.trans (a4.trans h5)
  have a5 := (Ext.refl w5).alloc (.cells #[.string ⟨#[100, 105, 115, 107]⟩, .string ⟨#[120]⟩] 29)
  have hp5 : Pairs (w5.alloc (.cells #[.string ⟨#[100, 105, 115, 107]⟩, .string ⟨#[120]⟩] 29)) (.slice (some ⟨w5.heap.size, 0, none⟩) 1 1) [(⟨#[100, 105, 115, 107]⟩, ⟨#[120]⟩)] := Sl.lit w5 29 2 1 #[.string ⟨#[100, 105, 115, 107]⟩, .string ⟨#[120]⟩] rfl (by simp [maxLen])
  have CM := match_w R _ _ _ _ (by rw [hRl.out]; decide) hF (hx.ext (hh5.trans a5)) (by decide) hp5
  rw [M3.out] at CM
  clear hp5
  go_wp2_with fail
  refine CM.mono ?_; rintro e w6 ⟨rfl, h6⟩
  clear CM
  have hh6 := hh5.trans (a5.trans h6)
  go_wp2_with fail
  refine (match_w [] [] _ _ w6 (by decide) fitR_nil (Terms.nil _) (by decide) (Pairs.nil _)).mono ?_; rintro e w7 ⟨rfl, h7⟩
  rw [match_nil]
  have hh7 := hh6.trans h7
  go_wp2_with fail
  refine (sput_w (R.drop 2) _ w7 (by rw [List.length_drop, hRl.out]; decide) hF2 (hd2.ext hh7) (ht.tabs.ext (e2.trans hh7))).mono ?_; rintro e w8 ⟨rfl, h8⟩
  rw [U1.out]
  have hh8 := hh7.trans h8
  go_wp2_with fail
  refine (ssame_w R R _ _ w8 (by rw [hRl.out]; decide) hF (hx.ext hh8) (hx.ext hh8)).mono ?_; rintro e w9 ⟨rfl, h9⟩
  rw [show decide (R.map rowT = R.map rowT) = true by simp]
  have hh9 := hh8.trans h9
  go_wp2_with fail
  refine (ssame_w R (R.drop 1) _ _ w9 (by rw [hRl.out]; decide) hF (hx.ext hh9) (hd1.ext hh9)).mono ?_; rintro e w10 ⟨rfl, h10⟩
  rw [S2.out]
  have hh10 := hh9.trans h10
  go_wp2
  go_ret
  exact ⟨rfl, e2.trans hh10⟩

end Go.Proofs.YtbkemhheombfcaaDoor
