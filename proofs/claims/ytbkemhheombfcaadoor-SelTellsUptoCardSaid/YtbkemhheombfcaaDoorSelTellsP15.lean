/- Texts one behind the other: Chapter 5: the walk of the document's Right. -/
import Derived.Test.YtbkemhheombfcaaDoorSelTellsP16
namespace Go.Proofs.YtbkemhheombfcaaDoor
open Go.RowKit Go.Dm

set_option maxHeartbeats 4000000 in
set_option maxRecDepth 100000 in
theorem smright_w (R : List RowS) (v : Value) (w : World) (hf : FitR R) (hx : Terms w v R) :
    Calls Tryd.prog 42 #[v] w fun e w' => e = .returned (.bool (rightS (R.map rowT))) ∧ Ext w w' := by
  obtain ⟨q, cap, rfl, hcap, hcm⟩ := hx.shape
  by_cases h4 : R.length ≤ 4
  · have hbad : ∀ k, k < R.length → rightT (rowT (sAtR R k)) = false → rightS (R.map rowT) = false := fun k hk h => by
      unfold rightS; rw [allR_hit hk h, Bool.and_false]
    have hgood : (∀ k, k < R.length → rightT (rowT (sAtR R k)) = true) → rightS (R.map rowT) = true := fun h => by
      unfold rightS; rw [allR_miss h, decide_eq_true (by rw [List.length_map]; exact h4)]; rfl
    generalize rightS (R.map rowT) = d at *
    replace hbad := Lib.hid hbad
    replace hgood := Lib.hid hgood
    go_enter Tryd.func42, Tryd.ntmps42
    go_wp2
    go_loopw [3] (fun i' wr => ∃ k : Nat, k ≤ R.length ∧ i' = .int .i64 k ∧ Ext w wr ∧ Hid (∀ j, j < k → rightT (rowT (sAtR R j)) = true)) (fun i' _ => R.length - (intOf i').toNat)
    case atStart => exact ⟨0, by omega, rfl, Ext.refl _, fun j hj => by omega⟩
    case round =>
      obtain ⟨k, hk, rfl, hb, HN⟩ := hrel
      by_cases hlt : k < R.length
      · obtain ⟨b, off, rfl, hbl, c0, c1, c2⟩ := (hx.ext hb).at hlt
        have vx := (hx.ext hb).val hlt
        have hfk := hf _ (sAtR_mem hlt)
        have hB := hbad.out k hlt
        have hG : rightT (rowT (sAtR R k)) = true → Hid (∀ j, j < k + 1 → rightT (rowT (sAtR R j)) = true) := fun h j hj => by
          rcases Nat.lt_succ_iff_lt_or_eq.1 hj with h' | rfl
          · exact HN.out j h'
          · exact h
        generalize sAtR R k = r at *
        obtain ⟨k1, n1, v1, vals1⟩ := r
        have vx : Strs wr v1 vals1 := vx
        simp only at c0 c1 c2
        obtain ⟨q3, cap3, rfl, _, _⟩ := vx.shape
        obtain ⟨hf1, hf2, hf3⟩ := hfk
        have hf1 : k1.size ≤ 140737488351232 := hf1
        have hf2 : vals1.length ≤ 35184372088832 := hf2
        have hf3 : ∀ x ∈ vals1, x.size ≤ 140737488351232 := hf3
        have hvb : ∀ m, m < vals1.length → okVal vals1 m = false → rightT (rowT (k1, n1, .slice q3 vals1.length cap3, vals1)) = false := fun m hm h => rightT_bad (t := (k1, n1, vals1)) hm h
        have hva : (∀ m, m < vals1.length → okVal vals1 m = true) → rightT (rowT (k1, n1, .slice q3 vals1.length cap3, vals1)) = (rightL k1.data.toList && decide (vals1.length ≤ 4)) := fun h => rightT_all (t := (k1, n1, vals1)) h
        have hkb : (rightL k1.data.toList && decide (vals1.length ≤ 4)) = false → rightT (rowT (k1, n1, .slice q3 vals1.length cap3, vals1)) = false := fun h => by
          rw [Bool.eq_false_iff, Ne, rightT_iff]
          rintro ⟨_, h2, h3⟩
          have h2 : rightL k1.data.toList = true := h2
          have h3 : vals1.length ≤ 4 := h3
          rw [h2, decide_eq_true h3] at h
          cases h
        generalize rightT (rowT (k1, n1, .slice q3 vals1.length cap3, vals1)) = t at *
        have C := rright_fit k1 wr hf1
        generalize rightL k1.data.toList = rk at *
        replace hvb := Lib.hid hvb
        replace hva := Lib.hid hva
        cases rk with
        | false =>
          have ht := hkb rfl
          subst ht
          have hd := hB rfl
          subst hd
          clear hB hG hkb
          go_wp2_with fail
          refine C.mono ?_; rintro e w1 ⟨rfl, h1⟩
          go_wp2
          go_ret
          exact ⟨rfl, hb.trans h1⟩
        | true =>
          by_cases hl4 : vals1.length ≤ 4
          · replace hB := Lib.hid hB
            replace hG := Lib.hid hG
            clear hkb
            go_wp2_with fail
            refine C.mono ?_; rintro e w1 ⟨rfl, h1⟩
            clear C
            have hE1 := hb.trans h1
            go_wp2
            go_loopw [5] (fun i' wq => ∃ m : Nat, m ≤ vals1.length ∧ i' = .int .i64 m ∧ Ext w1 wq ∧ Hid (∀ j, j < m → okVal vals1 j = true)) (fun i' _ => vals1.length - (intOf i').toNat)
            case atStart => exact ⟨0, by omega, rfl, Ext.refl _, fun j hj => by omega⟩
            case round =>
              obtain ⟨m, hm, rfl, hbq, HM⟩ := hrel
              have er := h1.trans hbq
              have eR := hE1.trans hbq
              by_cases hltm : m < vals1.length
              · obtain ⟨b3, off3, rfl, hbl3, d0⟩ := (vx.ext er).at hltm
                have hfm := hf3 _ (strAt_mem hltm)
                have hB2 := hvb.out m hltm
                have hG2 : okVal vals1 m = true → Hid (∀ j, j < m + 1 → okVal vals1 j = true) := fun h j hj => by
                  rcases Nat.lt_succ_iff_lt_or_eq.1 hj with h' | rfl
                  · exact HM.out j h'
                  · exact h
                have hok : ∀ c1 c2, rightL (strAt vals1 m).data.toList = c1 → (m == 0 || !leB (bS (strAt vals1 m)) (bS (strAt vals1 (m - 1)))) = c2 → okVal vals1 m = (c1 && c2) := by
                  intro c1 c2 e1 e2
                  unfold okVal
                  rw [← e1, ← e2]; rfl
                have CV : ∀ c, rightL (strAt vals1 m).data.toList = c → Hid (∀ U, Calls Tryd.prog 66 #[.string (strAt vals1 m)] U fun e w' => e = .returned (.bool c) ∧ Ext U w') := by
                  intro c h U
                  rw [← h]
                  exact rright_fit _ U hfm
                cases q1 : rightL (strAt vals1 m).data.toList with
                | false =>
                  have CV := CV _ q1
                  have ht := hB2 (hok _ _ q1 rfl)
                  have hd := hB.out ht
                  subst hd
                  clear hok hG2 hB2 q1
                  go_wp2_with fail
                  refine Dm.wp_region_grow (by kernel_rfl) (by kernel_rfl) ?_
                  repeat (go_big_quiet_step (first
                    | (go_at_call 66; with_reducible exact Calls.quietE (CV.out _))))
                  refine wpQuiet_nil ?_
                  intro U hU
                  go_wp2
                  go_ret
                  exact ⟨rfl, eR.trans hU⟩
                | true =>
                  have CV := CV _ q1
                  by_cases h0 : m = 0
                  · subst h0
                    have hg := hG2 (hok _ true q1 rfl)
                    rw [Nat.add_zero] at d0
                    clear hok hG2 hB2 q1
                    go_wp2_with fail
                    refine Dm.wp_region_grow (by kernel_rfl) (by kernel_rfl) ?_
                    repeat (go_big_quiet_step (first
                      | (go_at_call 66; with_reducible exact Calls.quietE (CV.out _))))
                    refine wpQuiet_nil ?_
                    intro U hU
                    go_wp2
                    go_roundw
                    case rel => exact ⟨1, by omega, rfl, hbq.trans hU, hg⟩
                    case measure => simp [intOf]; omega
                  · obtain ⟨j, rfl⟩ : ∃ j, m = j + 1 := ⟨m - 1, by omega⟩
                    obtain ⟨_, d1⟩ := (vx.ext er).cells (k := j) (by omega)
                    have hj0 : decide ((0 : Int) < (j : Int) + 1) = true := decide_eq_true (by omega)
                    have hle : ∀ c c', Op.bytesLess (strAt vals1 (j + 1)).toList (strAt vals1 j).toList = c → ((strAt vals1 (j + 1)).toList == (strAt vals1 j).toList) = c' → (j + 1 == 0 || !leB (bS (strAt vals1 (j + 1))) (bS (strAt vals1 (j + 1 - 1)))) = !(c || c') := by
                      intro c c' e1 e2
                      rw [ByteArray.toList_eq, ByteArray.toList_eq] at e1 e2
                      rw [← e1, ← e2]
                      rfl
                    cases q2 : Op.bytesLess (strAt vals1 (j + 1)).toList (strAt vals1 j).toList with
                    | true =>
                      have ht := hB2 (hok _ _ q1 (hle _ _ q2 rfl))
                      have hd := hB.out ht
                      subst hd
                      clear hok hG2 hB2 q1 hle
                      go_wp2_with fail
                      refine Dm.wp_region_grow (by kernel_rfl) (by kernel_rfl) ?_
                      repeat (go_big_quiet_step (first
                        | (go_at_call 66; with_reducible exact Calls.quietE (CV.out _))))
                      refine wpQuiet_nil ?_
                      intro U hU
                      go_wp2
                      go_ret
                      exact ⟨rfl, eR.trans hU⟩
                    | false =>
                      cases q3 : ((strAt vals1 (j + 1)).toList == (strAt vals1 j).toList) with
                      | true =>
                        have ht := hB2 (hok _ _ q1 (hle _ _ q2 q3))
                        have hd := hB.out ht
                        subst hd
                        clear hok hG2 hB2 q1 hle
                        go_wp2_with fail
                        refine Dm.wp_region_grow (by kernel_rfl) (by kernel_rfl) ?_
                        repeat (go_big_quiet_step (first
                          | (go_at_call 66; with_reducible exact Calls.quietE (CV.out _))))
                        refine wpQuiet_nil ?_
                        intro U hU
                        go_wp2
                        go_ret
                        exact ⟨rfl, eR.trans hU⟩
                      | false =>
                        have hg := hG2 (hok _ _ q1 (hle _ _ q2 q3))
                        clear hok hG2 hB2 q1 hle
                        go_wp2_with fail
                        refine Dm.wp_region_grow (by kernel_rfl) (by kernel_rfl) ?_
                        repeat (go_big_quiet_step (first
                          | (go_at_call 66; with_reducible exact Calls.quietE (CV.out _))))
                        refine wpQuiet_nil ?_
                        intro U hU
                        go_wp2
                        go_roundw
                        case rel => exact ⟨j + 1 + 1, by omega, by go_num, hbq.trans hU, hg⟩
                        case measure => simp [intOf]; omega
              · obtain rfl : m = vals1.length := by omega
                have ht := hva.out HM.out
                rw [decide_eq_true hl4] at ht
                have hg := hG.out ht
                clear HM
                go_wp2
                go_roundw
                case rel => exact ⟨k + 1, by omega, by go_num, eR, hg⟩
                case measure => simp [intOf]; omega
          · have ht := hkb (by rw [decide_eq_false hl4]; rfl)
            subst ht
            have hd := hB rfl
            subst hd
            have hl4' : decide ((4 : Int) < (vals1.length : Int)) = true := decide_eq_true (by omega)
            clear hB hG hkb
            go_wp2_with fail
            refine C.mono ?_; rintro e w1 ⟨rfl, h1⟩
            go_wp2
            go_ret
            exact ⟨rfl, hb.trans h1⟩
      · obtain rfl : k = R.length := by omega
        have hd := hgood.out HN.out
        subst hd
        go_wp2
        go_ret
        exact ⟨rfl, hb⟩
  · have hz : rightS (R.map rowT) = false := by
      unfold rightS; rw [decide_eq_false (by rw [List.length_map]; exact h4)]; rfl
    generalize rightS (R.map rowT) = d at *
    subst hz
    go_enter Tryd.func42, Tryd.ntmps42
    go_wp2
    go_ret
    exact ⟨rfl, Ext.refl _⟩

end Go.Proofs.YtbkemhheombfcaaDoor
