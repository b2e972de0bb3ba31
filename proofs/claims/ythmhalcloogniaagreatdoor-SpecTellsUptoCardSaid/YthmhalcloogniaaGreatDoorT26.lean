/- Texts one behind the other: Chapter 5: the walk of the document's Right; Chapter 5: the walk of the document's Put. -/
import Derived.Test.YthmhalcloogniaaGreatDoorT25
namespace Go.Proofs.YthmhalcloogniaaGreatDoor
open Go.RowKit Go.Dm

set_option maxHeartbeats 4000000 in
set_option maxRecDepth 100000 in
theorem smright_w (R : List RowS) (v : Value) (w : World) (hf : FitR R) (hx : Terms w v R) :
    Calls Tryz.prog 53 #[v] w fun e w' => e = .returned (.bool (rightS (R.map rowT))) ∧ Ext w w' := by
  obtain ⟨q, cap, rfl, hcap, hcm⟩ := hx.shape
  by_cases h4 : R.length ≤ 4
  · have hbad : ∀ k, k < R.length → rightT (rowT (sAtR R k)) = false → rightS (R.map rowT) = false := fun k hk h => by
      unfold rightS; rw [allR_hit hk h, Bool.and_false]
    have hgood : (∀ k, k < R.length → rightT (rowT (sAtR R k)) = true) → rightS (R.map rowT) = true := fun h => by
      unfold rightS; rw [allR_miss h, decide_eq_true (by rw [List.length_map]; exact h4)]; rfl
    generalize rightS (R.map rowT) = d at *
    replace hbad := Lib.hid hbad
    replace hgood := Lib.hid hgood
    go_enter Tryz.func53, Tryz.ntmps53
    go_wp2
    go_loopw [3] (fun i' wr => ∃ k : Nat, k ≤ R.length ∧ i' = .int .i64 k ∧ Ext w wr ∧ Hid (∀ j, j < k → rightT (rowT (sAtR R j)) = true)) (fun i' _ => R.length - (intOf i').toNat)
    case atStart => exact ⟨0, by omega, rfl, Ext.refl _, fun j hj => by omega⟩
    case round =>
      obtain ⟨k, hk, rfl, hb, HN⟩ := hrel
      by_cases hlt : k < R.length
      · obtain ⟨b, off, rfl, hbl, c0, c1, c2⟩ := (hx.ext hb).at hlt
        have vx := (hx.ext hb).val hlt
        have hfk := hf _ (sAtR_mem hlt)
        have hB := hbad.out k hlt
        have hG : rightT (rowT (sAtR R k)) = true → Hid (∀ j, j < k + 1 → rightT (rowT (sAtR R j)) = true) := fun h j hj => by
          rcases Nat.lt_succ_iff_lt_or_eq.1 hj with h' | rfl
          · exact HN.out j h'
          · exact h
        generalize sAtR R k = r at *
        obtain ⟨k1, n1, v1, vals1⟩ := r
        have vx : Strs wr v1 vals1 := vx
        simp only at c0 c1 c2
        obtain ⟨q3, cap3, rfl, _, _⟩ := vx.shape
        obtain ⟨hf1, hf2, hf3⟩ := hfk
        have hf1 : k1.size ≤ 140737488351232 := hf1
        have hf2 : vals1.length ≤ 35184372088832 := hf2
        have hf3 : ∀ x ∈ vals1, x.size ≤ 140737488351232 := hf3
        have hvb : ∀ m, m < vals1.length → okVal vals1 m = false → rightT (rowT (k1, n1, .slice q3 vals1.length cap3, vals1)) = false := fun m hm h => rightT_bad (t := (k1, n1, vals1)) hm h
        have hva : (∀ m, m < vals1.length → okVal vals1 m = true) → rightT (rowT (k1, n1, .slice q3 vals1.length cap3, vals1)) = (rightL k1.data.toList && decide (vals1.length ≤ 4)) := fun h => rightT_all (t := (k1, n1, vals1)) h
        have hkb : (rightL k1.data.toList && decide (vals1.length ≤ 4)) = false → rightT (rowT (k1, n1, .slice q3 vals1.length cap3, vals1)) = false := fun h => by
          rw [Bool.eq_false_iff, Ne, rightT_iff]
          rintro ⟨_, h2, h3⟩
          have h2 : rightL k1.data.toList = true := h2
          have h3 : vals1.length ≤ 4 := h3
          rw [h2, decide_eq_true h3] at h
          cases h
        generalize rightT (rowT (k1, n1, .slice q3 vals1.length cap3, vals1)) = t at *
        have C := rright_fit k1 wr hf1
        generalize rightL k1.data.toList = rk at *
        replace hvb := Lib.hid hvb
        replace hva := Lib.hid hva
        cases rk with
        | false =>
          have ht := hkb rfl
          subst ht
          have hd := hB rfl
          subst hd
          clear hB hG hkb
          go_wp2_with fail
          refine C.mono ?_; rintro e w1 ⟨rfl, h1⟩
          go_wp2
          go_ret
          exact ⟨rfl, hb.trans h1⟩
        | true =>
          by_cases hl4 : vals1.length ≤ 4
          · replace hB := Lib.hid hB
            replace hG := Lib.hid hG
            clear hkb
            go_wp2_with fail
            refine C.mono ?_; rintro e w1 ⟨rfl, h1⟩
            clear C
            have hE1 := hb.trans h1
            go_wp2
            go_loopw [5] (fun i' wq => ∃ m : Nat, m ≤ vals1.length ∧ i' = .int .i64 m ∧ Ext w1 wq ∧ Hid (∀ j, j < m → okVal vals1 j = true)) (fun i' _ => vals1.length - (intOf i').toNat)
            case atStart => exact ⟨0, by omega, rfl, Ext.refl _, fun j hj => by omega⟩
            case round =>
              obtain ⟨m, hm, rfl, hbq, HM⟩ := hrel
              have er := h1.trans hbq
              have eR := hE1.trans hbq
              by_cases hltm : m < vals1.length
              · obtain ⟨b3, off3, rfl, hbl3, d0⟩ := (vx.ext er).at hltm
                have hfm := hf3 _ (strAt_mem hltm)
                have hB2 := hvb.out m hltm
                have hG2 : okVal vals1 m = true → Hid (∀ j, j < m + 1 → okVal vals1 j = true) := fun h j hj => by
                  rcases Nat.lt_succ_iff_lt_or_eq.1 hj with h' | rfl
                  · exact HM.out j h'
                  · exact h
                have hok : ∀ c1 c2, rightL (strAt vals1 m).data.toList = c1 → (m == 0 || !leB (bS (strAt vals1 m)) (bS (strAt vals1 (m - 1)))) = c2 → okVal vals1 m = (c1 && c2) := by
                  intro c1 c2 e1 e2
                  unfold okVal
                  rw [← e1, ← e2]; rfl
                have CV : ∀ c, rightL (strAt vals1 m).data.toList = c → Hid (∀ U, Calls Tryz.prog 93 #[.string (strAt vals1 m)] U fun e w' => e = .returned (.bool c) ∧ Ext U w') := by
                  intro c h U
                  rw [← h]
                  exact rright_fit _ U hfm
                cases q1 : rightL (strAt vals1 m).data.toList with
                | false =>
                  have CV := CV _ q1
                  have ht := hB2 (hok _ _ q1 rfl)
                  have hd := hB.out ht
                  subst hd
                  clear hok hG2 hB2 q1
                  go_wp2_with fail
                  refine Dm.wp_region_grow (by kernel_rfl) (by kernel_rfl) ?_
                  repeat (go_big_quiet_step (first
                    | (go_at_call 93; with_reducible exact Calls.quietE (CV.out _))))
                  refine wpQuiet_nil ?_
                  intro U hU
                  go_wp2
                  go_ret
                  exact ⟨rfl, eR.trans hU⟩
                | true =>
                  have CV := CV _ q1
                  by_cases h0 : m = 0
                  · subst h0
                    have hg := hG2 (hok _ true q1 rfl)
                    rw [Nat.add_zero] at d0
                    clear hok hG2 hB2 q1
                    go_wp2_with fail
                    refine Dm.wp_region_grow (by kernel_rfl) (by kernel_rfl) ?_
                    repeat (go_big_quiet_step (first
                      | (go_at_call 93; with_reducible exact Calls.quietE (CV.out _))))
                    refine wpQuiet_nil ?_
                    intro U hU
                    go_wp2
                    go_roundw
                    case rel => exact ⟨1, by omega, rfl, hbq.trans hU, hg⟩
                    case measure => simp [intOf]; omega
                  · obtain ⟨j, rfl⟩ : ∃ j, m = j + 1 := ⟨m - 1, by omega⟩
                    obtain ⟨_, d1⟩ := (vx.ext er).cells (k := j) (by omega)
                    have hj0 : decide ((0 : Int) < (j : Int) + 1) = true := decide_eq_true (by omega)
                    have hle : ∀ c c', Op.bytesLess (strAt vals1 (j + 1)).toList (strAt vals1 j).toList = c → ((strAt vals1 (j + 1)).toList == (strAt vals1 j).toList) = c' → (j + 1 == 0 || !leB (bS (strAt vals1 (j + 1))) (bS (strAt vals1 (j + 1 - 1)))) = !(c || c') := by
                      intro c c' e1 e2
                      rw [ByteArray.toList_eq, ByteArray.toList_eq] at e1 e2
                      rw [← e1, ← e2]
                      rfl
                    cases q2 : Op.bytesLess (strAt vals1 (j + 1)).toList (strAt vals1 j).toList with
                    | true =>
                      have ht := hB2 (hok _ _ q1 (hle _ _ q2 rfl))
                      have hd := hB.out ht
                      subst hd
                      clear hok hG2 hB2 q1 hle
                      go_wp2_with fail
                      refine Dm.wp_region_grow (by kernel_rfl) (by kernel_rfl) ?_
                      repeat (go_big_quiet_step (first
                        | (go_at_call 93; with_reducible exact Calls.quietE (CV.out _))))
                      refine wpQuiet_nil ?_
                      intro U hU
                      go_wp2
                      go_ret
                      exact ⟨rfl, eR.trans hU⟩
                    | false =>
                      cases q3 : ((strAt vals1 (j + 1)).toList == (strAt vals1 j).toList) with
                      | true =>
                        have ht := hB2 (hok _ _ q1 (hle _ _ q2 q3))
                        have hd := hB.out ht
                        subst hd
                        clear hok hG2 hB2 q1 hle
                        go_wp2_with fail
                        refine Dm.wp_region_grow (by kernel_rfl) (by kernel_rfl) ?_
                        repeat (go_big_quiet_step (first
                          | (go_at_call 93; with_reducible exact Calls.quietE (CV.out _))))
                        refine wpQuiet_nil ?_
                        intro U hU
                        go_wp2
                        go_ret
                        exact ⟨rfl, eR.trans hU⟩
                      | false =>
                        have hg := hG2 (hok _ _ q1 (hle _ _ q2 q3))
                        clear hok hG2 hB2 q1 hle
                        go_wp2_with fail
                        refine Dm.wp_region_grow (by kernel_rfl) (by kernel_rfl) ?_
                        repeat (go_big_quiet_step (first
                          | (go_at_call 93; with_reducible exact Calls.quietE (CV.out _))))
                        refine wpQuiet_nil ?_
                        intro U hU
                        go_wp2
                        go_roundw
                        case rel => exact ⟨j + 1 + 1, by omega, by go_num, hbq.trans hU, hg⟩
                        case measure => simp [intOf]; omega
              · obtain rfl : m = vals1.length := by omega
                have ht := hva.out HM.out
                rw [decide_eq_true hl4] at ht
                have hg := hG.out ht
                clear HM
                go_wp2
                go_roundw
                case rel => exact ⟨k + 1, by omega, by go_num, eR, hg⟩
                case measure => simp [intOf]; omega
          · have ht := hkb (by rw [decide_eq_false hl4]; rfl)
            subst ht
            have hd := hB rfl
            subst hd
            have hl4' : decide ((4 : Int) < (vals1.length : Int)) = true := decide_eq_true (by omega)
            clear hB hG hkb
            go_wp2_with fail
            refine C.mono ?_; rintro e w1 ⟨rfl, h1⟩
            go_wp2
            go_ret
            exact ⟨rfl, hb.trans h1⟩
      · obtain rfl : k = R.length := by omega
        have hd := hgood.out HN.out
        subst hd
        go_wp2
        go_ret
        exact ⟨rfl, hb⟩
  · have hz : rightS (R.map rowT) = false := by
      unfold rightS; rw [decide_eq_false (by rw [List.length_map]; exact h4)]; rfl
    generalize rightS (R.map rowT) = d at *
    subst hz
    go_enter Tryz.func53, Tryz.ntmps53
    go_wp2
    go_ret
    exact ⟨rfl, Ext.refl _⟩

end Go.Proofs.YthmhalcloogniaaGreatDoor

namespace Go.Proofs.YthmhalcloogniaaGreatDoor
open Go.RowKit Go.Dm

theorem wrap_u64 {x : Int} (h : 0 ≤ x) (h' : x < 18446744073709551616) : IntKind.u64.wrap x = x := by
  simp only [IntKind.wrap, IntKind.bits, IntKind.signed]
  simp; omega

set_option maxHeartbeats 4000000 in
set_option maxRecDepth 100000 in
theorem smput_w (R : List RowS) (v : Value) (w : World) (hf : FitR R) (hx : Terms w v R) :
    Calls Tryz.prog 62 #[v] w fun e w' => e = .returned (.string ⟨(putS (R.map rowT)).toArray⟩) ∧ Ext w w' := by
  obtain ⟨q, cap, rfl, hcap, hcm⟩ := hx.shape
  have C := smright_w R _ w hf hx
  cases hR : rightS (R.map rowT) with
  | false =>
    have hz : Hid (putS (R.map rowT) = []) := by show _ = _; unfold putS; rw [hR]; rfl
    rw [hR] at C
    clear hR
    go_enter Tryz.func62, Tryz.ntmps62
    go_wp2_with fail
    refine C.mono ?_; rintro e w1 ⟨rfl, h1⟩
    go_wp2
    go_ret
    exact ⟨by rw [hz.out]; rfl, h1⟩
  | true =>
    have hz : Hid (putS (R.map rowT) = putL R.length ++ putTms (R.map rowT)) := by show _ = _; unfold putS; rw [hR, List.length_map]; rfl
    have h4 : R.length ≤ 4 := by have := (rightS_iff.1 hR).1; rwa [List.length_map] at this
    have hsh : Hid (∀ k, k < R.length → ShortT (rowT (sAtR R k))) := fun k hk => rightT_sizes ((rightS_iff.1 hR).2 _ (List.mem_map_of_mem (sAtR_mem hk)))
    have hU : U64 R.length := show R.length < _ by omega
    have hpl := putL_ten hU
    have hwl : IntKind.u64.wrap (R.length : Int) = (R.length : Int) := wrap_u64 (by omega) (by omega)
    rw [hR] at C
    clear hR
    go_enter Tryz.func62, Tryz.ntmps62
    go_wp2_with fail
    refine C.mono ?_; rintro e w1 ⟨rfl, h1⟩
    clear C
    go_wp2_with fail
    refine (rput_w R.length w1 hU).mono ?_; rintro e w2 ⟨rfl, h2⟩
    have e2 := h1.trans h2
    clear hwl
    go_wp2
    go_loopw [3, 4] (fun s' i' wr => ∃ (k : Nat) (b : ByteArray), k ≤ R.length ∧ i' = .int .i64 k ∧ s' = .string b ∧ b.size ≤ 10 + k * 220 ∧ Ext w2 wr ∧ Hid (b.data.toList = putL R.length ++ putTms ((R.take k).map rowT))) (fun _ i' _ => R.length - (intOf i').toNat)
    case atStart => exact ⟨0, ⟨(putL R.length).toArray⟩, by omega, rfl, rfl, by rw [size_len]; exact hpl, Ext.refl _, by show _ = _; simp [putTms]⟩
    case round =>
      obtain ⟨k, b, hk, rfl, rfl, hbs, hb, HB⟩ := hrel
      have er := e2.trans hb
      by_cases hlt : k < R.length
      · obtain ⟨bb, off, rfl, hbl, c0, c1, c2⟩ := (hx.ext er).at hlt
        have vx := (hx.ext er).val hlt
        obtain ⟨hf1, hf2, hf3⟩ := hsh.out k hlt
        have hst : Hid (∀ x : Bs, x = putTm (rowT (sAtR R k)) → b.data.toList ++ x = putL R.length ++ putTms ((R.take (k + 1)).map rowT)) := fun x hx => by
          rw [hx, HB.out, rowT_take hlt, putTms_step, List.append_assoc]
        have hcell := fun w' (h : Ext wr w') => (hx.ext (er.trans h)).cells hlt
        generalize sAtR R k = r at *
        obtain ⟨k1, n1, v1, vals1⟩ := r
        have vx : Strs wr v1 vals1 := vx
        have hf1 : k1.size ≤ 32 := hf1
        have hf2 : vals1.length ≤ 4 := hf2
        have hf3 : ∀ x ∈ vals1, x.size ≤ 32 := hf3
        simp only at c0 c1 c2 hcell
        obtain ⟨q3, cap3, rfl, _, _⟩ := vx.shape
        have hst : Hid (b.data.toList ++ ((putT (bS k1) ++ putL (numT (k1, n1, vals1))) ++ putVals vals1) = putL R.length ++ putTms ((R.take (k + 1)).map rowT)) := hst.out _ rfl
        obtain ⟨N, hN⟩ : ∃ N : Nat, N = numT (k1, n1, vals1) := ⟨_, rfl⟩
        have hN9 : N ≤ 9 := by rw [hN]; unfold numT; simp only; split <;> omega
        have hNu : U64 N := show N < _ by omega
        have CN := fun U => rput_w N U hNu
        have sN : (⟨(putL N).toArray⟩ : ByteArray).size ≤ 10 := by rw [size_len]; exact putL_ten hNu
        have hNI : (N : Int) = if n1 then (vals1.length : Int) * 2 + 1 else (vals1.length : Int) * 2 := by
          rw [hN]; unfold numT; cases n1 <;> simp <;> omega
        have hw1 : IntKind.u64.wrap (vals1.length : Int) = (vals1.length : Int) := wrap_u64 (by omega) (by omega)
        have hw2 : IntKind.u64.wrap ((vals1.length : Int) * 2) = (vals1.length : Int) * 2 := wrap_u64 (by omega) (by omega)
        have hw3 : IntKind.u64.wrap ((vals1.length : Int) * 2 + 1) = (vals1.length : Int) * 2 + 1 := wrap_u64 (by omega) (by omega)
        have CK : ∀ U, Calls Tryz.prog 59 #[.string k1] U fun e w' => e = .returned (.string (textB k1)) ∧ Ext U w' := fun U => rputtext_w _ U (by omega)
        have sK : (textB k1).size ≤ 42 := textB32s hf1
        have hst2 : Hid (∀ b2 : ByteArray, b2.data.toList = ((b ++ textB k1) ++ (⟨(putL N).toArray⟩ : ByteArray)).data.toList ++ putVals vals1 → b2.data.toList = putL R.length ++ putTms ((R.take (k + 1)).map rowT)) := fun b2 h => by
          rw [h, ← hst.out, data_append, data_append, ← hN]
          simp [textB, bS]
        rw [hNI] at CN
        have hb0 : ((b ++ textB k1) ++ (⟨(putL N).toArray⟩ : ByteArray)).size ≤ b.size + 52 := by rw [ByteArray.size_append, ByteArray.size_append]; omega
        have hb1 : (b ++ textB k1).size ≤ b.size + 42 := by rw [ByteArray.size_append]; omega
        generalize (⟨(putL N).toArray⟩ : ByteArray) = tn at *
        generalize textB k1 = tk at *
        clear hN hNI hNu hst hN9
        replace CK := Lib.hid CK
        replace hcell := Lib.hid hcell
        cases n1
        all_goals
          simp only [Bool.false_eq_true, if_false, if_true] at CN
          have CN := Lib.hid CN
          go_wp2_with fail
          refine (CK.out _).mono ?_; rintro e w3 ⟨rfl, h3⟩
          go_wp2_with fail
          refine (CN.out _).mono ?_; rintro e w4 ⟨rfl, h4'⟩
          have h34 := h3.trans h4'
          clear c0 c1 c2 hw1 hw2 hw3
          go_wp2
          generalize hB0 : (b ++ tk) ++ tn = B0 at *
          replace hB0 := Lib.hid hB0
          go_loopw [3, 6] (fun s' i' wq => ∃ (m : Nat) (b2 : ByteArray), m ≤ vals1.length ∧ i' = .int .i64 m ∧ s' = .string b2 ∧ b2.size ≤ b.size + 52 + m * 42 ∧ Ext w4 wq ∧ Hid (b2.data.toList = B0.data.toList ++ putVals (vals1.take m))) (fun _ i' _ => vals1.length - (intOf i').toNat)
          case atStart => exact ⟨0, B0, by omega, rfl, rfl, by omega, Ext.refl _, by show _ = _; simp [putVals]⟩
          case round =>
            obtain ⟨m, b2, hm, rfl, rfl, hbs2, hbq, HB2⟩ := hrel
            have eq := h34.trans hbq
            obtain ⟨xb, x0, x1, x2⟩ := hcell.out _ eq
            by_cases hltm : m < vals1.length
            · obtain ⟨b3, off3, rfl, hbl3, d0⟩ := (vx.ext eq).at hltm
              have s1 : (strAt vals1 m).size ≤ 32 := hf3 _ (strAt_mem hltm)
              have s2 : (textB (strAt vals1 m)).size ≤ 42 := textB32s s1
              have C : Calls Tryz.prog 59 #[.string (strAt vals1 m)] wr fun e w' => e = .returned (.string (textB (strAt vals1 m))) ∧ Ext wr w' := rputtext_w (strAt vals1 m) wr (by omega)
              have hst3 : Hid ((b2 ++ textB (strAt vals1 m)).data.toList = B0.data.toList ++ putVals (vals1.take (m + 1))) := by
                show _ = _
                rw [data_append, HB2.out, putVals_step hltm, List.append_assoc]; rfl
              generalize textB (strAt vals1 m) = t1 at *
              go_wp2_with fail
              refine C.mono ?_; rintro e w5 ⟨rfl, h5⟩
              go_wp2
              go_roundw
              case rel => exact ⟨m + 1, _, by omega, by go_num, rfl, by rw [ByteArray.size_append]; omega, hbq.trans h5, hst3⟩
              case measure => simp [intOf]; omega
            · obtain rfl : m = vals1.length := by omega
              have hfin : Hid (b2.data.toList = putL R.length ++ putTms ((R.take (k + 1)).map rowT)) := hst2.out b2 (by have := HB2.out; rw [List.take_length] at this; exact this)
              clear HB2
              go_wp2
              go_roundw
              case rel => exact ⟨k + 1, b2, by omega, by go_num, rfl, by omega, hb.trans eq, hfin⟩
              case measure => simp [intOf]; omega
      · obtain rfl : k = R.length := by omega
        have h := HB.out
        rw [List.take_length, ← hz.out] at h
        have hz' := Lib.hid (mk_bytes h)
        clear h
        go_wp2
        go_ret
        exact ⟨by rw [← hz'.out]; rfl, er⟩

end Go.Proofs.YthmhalcloogniaaGreatDoor
