/- Texts one behind the other: Chapter 5: the walk of the document's Text. -/
import Derived.Test.YtbkemhheombfcaaDoorSelTellsP23
import Derived.Test.YtbkemhheombfcaaDoorSelTellsP19
import Derived.Test.YtbkemhheombfcaaDoorSelTellsP22
namespace Go.Dm
open Go Go.RowKit
/-- A text of a few terms. -/
def showsS (S : List TermS) : Bs := Lib.join (S.map textTm) [44]
theorem showsS_one (t : TermS) : showsS [t] = textTm t := Lib.join_one _ _
theorem showsS_snoc {S : List TermS} (t : TermS) (h : S ≠ []) : showsS (S ++ [t]) = showsS S ++ 44 :: textTm t := by
  unfold showsS
  rw [List.map_append, List.map_cons, List.map_nil, join_snocC _ (by simpa using h)]
theorem joinB_step0 {vs : List ByteArray} {c : UInt8} (h : 0 < vs.length) : joinB (vs.take 1) c = (strAt vs 0).data.toList := by
  rw [List.take_succ_eq_append_getElem h]
  simp [joinB, Lib.join_one, strAt, h]
theorem joinB_step {vs : List ByteArray} {c : UInt8} {m : Nat} (h0 : 0 < m) (h : m < vs.length) : joinB (vs.take (m + 1)) c = joinB (vs.take m) c ++ c :: (strAt vs m).data.toList := by
  unfold joinB
  rw [List.take_succ_eq_append_getElem h, List.map_append, List.map_cons, List.map_nil, join_snocC]
  · simp [strAt, h]
  · intro e
    have := congrArg List.length e
    rw [List.length_map, List.length_take, List.length_nil] at this
    omega
theorem joinB_nil (c : UInt8) : joinB [] c = [] := rfl
/-- What stands ahead of a term's values. -/
def headT (t : TermS) : Bs := if t.2.2.isEmpty then (if t.2.1 then 33 :: bS t.1 else bS t.1) else if t.2.1 then bS t.1 ++ [33, 61] else bS t.1 ++ [61]
theorem text_head (t : TermS) : textTm t = headT t ++ joinB t.2.2 124 := by
  obtain ⟨k, n, vs⟩ := t
  unfold textTm headT
  simp only
  cases hv : vs.isEmpty with
  | true =>
    rw [List.isEmpty_iff.1 hv, joinB_nil]
    cases n <;> simp
  | false => cases n <;> simp
theorem textTm_ne {t : TermS} (h : rightT t = true) : textTm t ≠ [] := by
  have hk := (rightT_iff.1 h).2.1
  have hne : bS t.1 ≠ [] := fun e => by rw [e, right_nil] at hk; cases hk
  unfold textTm
  split
  · split
    · simp
    · exact hne
  · split <;> simp
end Go.Dm
namespace Go.Proofs.YtbkemhheombfcaaDoor
open Go.RowKit Go.Dm

set_option maxHeartbeats 8000000 in
set_option maxRecDepth 100000 in
theorem smtext_w (R : List RowS) (v : Value) (w : World) (hf : FitR R) (hx : Terms w v R) :
    Calls Tryd.prog 49 #[v] w fun e w' => e = .returned (.string ⟨(textS (R.map rowT)).toArray⟩) ∧ Ext w w' := by
  obtain ⟨q, cap, rfl, hcap, hcm⟩ := hx.shape
  have C := smright_w R _ w hf hx
  cases hR : rightS (R.map rowT) with
  | false =>
    have hz : Hid (textS (R.map rowT) = [63]) := by show _ = _; unfold textS; rw [hR]; rfl
    rw [hR] at C
    clear hR
    go_enter Tryd.func49, Tryd.ntmps49
    go_wp2_with fail
    refine C.mono ?_; rintro e w1 ⟨rfl, h1⟩
    go_wp2
    go_ret
    exact ⟨by rw [hz.out]; rfl, h1⟩
  | true =>
    have h4 : R.length ≤ 4 := by have := (rightS_iff.1 hR).1; rwa [List.length_map] at this
    have hsh : Hid (∀ k, k < R.length → ShortT (rowT (sAtR R k))) := fun k hk => rightT_sizes ((rightS_iff.1 hR).2 _ (List.mem_map_of_mem (sAtR_mem hk)))
    have hne : Hid (∀ k, k < R.length → textTm (rowT (sAtR R k)) ≠ []) := fun k hk => textTm_ne ((rightS_iff.1 hR).2 _ (List.mem_map_of_mem (sAtR_mem hk)))
    have hN := Lib.hid (fun h : R.length = 0 => (show textS (R.map rowT) = [45] by rw [List.length_eq_zero_iff.1 h]; rfl))
    have hY := Lib.hid (fun h : R.length ≠ 0 => (show textS (R.map rowT) = showsS (R.map rowT) from textS_many hR (by intro e; exact h (by have := congrArg List.length e; simpa using this))))
    rw [hR] at C
    clear hR
    go_enter Tryd.func49, Tryd.ntmps49
    go_wp2_with fail
    refine C.mono ?_; rintro e w1 ⟨rfl, h1⟩
    clear C
    go_wp2
    go_loopw [3, 4] (fun s' i' wr => ∃ (k : Nat) (b : ByteArray), k ≤ R.length ∧ i' = .int .i64 k ∧ s' = .string b ∧ b.size ≤ k * 210 ∧ Ext w1 wr ∧ Hid (b.data.toList = showsS ((R.take k).map rowT) ∧ (0 < k → b.data.toList ≠ []))) (fun _ i' _ => R.length - (intOf i').toNat)
    case atStart => exact ⟨0, ⟨#[]⟩, by omega, rfl, rfl, by decide, Ext.refl _, rfl, fun h => by omega⟩
    case round =>
      obtain ⟨k, b, hk, rfl, rfl, hbs, hb, HB⟩ := hrel
      have er := h1.trans hb
      by_cases hlt : k < R.length
      · obtain ⟨bb, off, rfl, hbl, c0, c1, c2⟩ := (hx.ext er).at hlt
        have vx := (hx.ext er).val hlt
        obtain ⟨hf1, hf2, hf3⟩ := hsh.out k hlt
        obtain ⟨P, hP⟩ : ∃ P : ByteArray, P = if 0 < k then b ++ (⟨#[44]⟩ : ByteArray) else b := ⟨_, rfl⟩
        have hPs : P.size ≤ k * 210 + 1 := by
          rw [hP]; split
          · rw [ByteArray.size_append]; have : (⟨#[44]⟩ : ByteArray).size = 1 := rfl; omega
          · omega
        have hst : Hid (∀ b2 : ByteArray, b2.data.toList = P.data.toList ++ textTm (rowT (sAtR R k)) → b2.data.toList = showsS ((R.take (k + 1)).map rowT) ∧ (0 < k + 1 → b2.data.toList ≠ [])) := fun b2 h2 => by
          obtain ⟨HB1, HB2⟩ := HB.out
          refine ⟨?_, fun _ e => ?_⟩
          · rw [h2, hP, rowT_take hlt]
            by_cases h0 : 0 < k
            · rw [if_pos h0, data_append, HB1, showsS_snoc]
              · simp
              · intro e
                have := congrArg List.length e
                rw [List.length_map, List.length_take, List.length_nil] at this
                omega
            · obtain rfl : k = 0 := by omega
              rw [if_neg h0]
              have HB1 : b.data.toList = [] := HB1
              rw [HB1, List.nil_append, List.take_zero, List.map_nil, List.nil_append, showsS_one]
          · rw [h2] at e
            exact hne.out k hlt (List.append_eq_nil_iff.1 e).2
        generalize sAtR R k = r at *
        obtain ⟨k1, n1, v1, vals1⟩ := r
        have vx : Strs wr v1 vals1 := vx
        have hf1 : k1.size ≤ 32 := hf1
        have hf2 : vals1.length ≤ 4 := hf2
        have hf3 : ∀ x ∈ vals1, x.size ≤ 32 := hf3
        simp only at c0 c1 c2
        obtain ⟨q3, cap3, rfl, _, _⟩ := vx.shape
        have hst2 : Hid (∀ S0 b2 : ByteArray, S0.data.toList = P.data.toList ++ headT (k1, n1, vals1) → b2.data.toList = S0.data.toList ++ joinB vals1 124 → b2.data.toList = showsS ((R.take (k + 1)).map rowT) ∧ (0 < k + 1 → b2.data.toList ≠ [])) := fun S0 b2 h1 h2 => hst.out b2 (by rw [h2, h1, List.append_assoc, ← text_head (k1, n1, vals1)]; rfl)
        have hA := (Ext.refl wr).alloc (.cells #[.string k1, .bool n1, .slice q3 vals1.length cap3] 107)
        have K5 := Cell3.new wr (.string k1) (.bool n1) (.slice q3 vals1.length cap3) 107
        clear hst
        obtain ⟨S0, hS0⟩ : ∃ S0 : ByteArray, S0 = if vals1.isEmpty then (if n1 then (P ++ (⟨#[33]⟩ : ByteArray)) ++ k1 else P ++ k1) else (if n1 then (P ++ k1) ++ (⟨#[33, 61]⟩ : ByteArray) else (P ++ k1) ++ (⟨#[61]⟩ : ByteArray)) := ⟨_, rfl⟩
        have s1 : (⟨#[33]⟩ : ByteArray).size = 1 := rfl
        have s2 : (⟨#[33, 61]⟩ : ByteArray).size = 2 := rfl
        have s3 : (⟨#[61]⟩ : ByteArray).size = 1 := rfl
        have hS0s : S0.size ≤ k * 210 + 35 := by
          rw [hS0]
          split
          · split <;> simp only [ByteArray.size_append] <;> omega
          · split <;> simp only [ByteArray.size_append] <;> omega
        have hS0d : Hid (S0.data.toList = P.data.toList ++ headT (k1, n1, vals1)) := by
          show _ = _
          rw [hS0]
          unfold headT
          simp only
          split
          · split <;> simp [bS]
          · split <;> simp [bS]
        have z1 : (P ++ k1).size ≤ k * 210 + 33 := by rw [ByteArray.size_append]; omega
        have z2 : (P ++ (⟨#[33]⟩ : ByteArray)).size ≤ k * 210 + 2 := by rw [ByteArray.size_append]; omega
        have sc : (⟨#[44]⟩ : ByteArray).size = 1 := rfl
        have hin : (vals1.isEmpty = true ∧ ((vals1.length : Int) == 0) = true) ∨ (vals1.isEmpty = false ∧ ((vals1.length : Int) == 0) = false) := by
          cases hv : vals1.isEmpty with
          | true => left; rw [List.isEmpty_iff.1 hv]; exact ⟨rfl, rfl⟩
          | false =>
            right
            refine ⟨rfl, ?_⟩
            rw [beq_eq_false_iff_ne]
            intro e
            have : vals1 = [] := List.length_eq_zero_iff.1 (by omega)
            rw [this] at hv; cases hv
        by_cases h0 : 0 < k
        · have hk0 : decide ((0 : Int) < (k : Int)) = true := decide_eq_true (by omega)
          rw [if_pos h0] at hP
          subst hP
          rcases hin with ⟨hv, hv2⟩ | ⟨hv, hv2⟩
          · rw [hv] at hS0
            cases n1
            · simp only [if_true, Bool.false_eq_true, if_false] at hS0
              go_wp2
              rw [← hS0]
              generalize wr.alloc (.cells #[.string k1, .bool false, .slice q3 vals1.length cap3] 107) = wA at *
              replace hS0 := Lib.hid hS0
              go_loopw [3, 6] (fun s' i' wq => ∃ (m : Nat) (b2 : ByteArray), m ≤ vals1.length ∧ i' = .int .i64 m ∧ s' = .string b2 ∧ b2.size ≤ k * 210 + 35 + m * 33 ∧ Ext wA wq ∧ Hid (b2.data.toList = S0.data.toList ++ joinB (vals1.take m) 124)) (fun _ i' _ => vals1.length - (intOf i').toNat)
              case atStart => exact ⟨0, S0, by omega, rfl, rfl, by omega, Ext.refl _, by show _ = _; rw [List.take_zero, joinB_nil, List.append_nil]⟩
              case round =>
                obtain ⟨m, b2, hm, rfl, rfl, hbs2, hbq, HB2⟩ := hrel
                obtain ⟨kl, kc0, kc1, kc2, _, _, _⟩ := K5.ext hbq
                by_cases hltm : m < vals1.length
                · obtain ⟨b3, off3, rfl, hbl3, d0⟩ := (vx.ext (hA.trans hbq)).at hltm
                  have s4 : (strAt vals1 m).size ≤ 32 := hf3 _ (strAt_mem hltm)
                  by_cases hm0 : 0 < m
                  · have hst3 : Hid (((b2 ++ (⟨#[124]⟩ : ByteArray)) ++ strAt vals1 m).data.toList = S0.data.toList ++ joinB (vals1.take (m + 1)) 124) := by
                      show _ = _
                      rw [joinB_step hm0 hltm, data_append, data_append, HB2.out]; simp
                    have s5 : (⟨#[124]⟩ : ByteArray).size = 1 := rfl
                    have z5 : (b2 ++ (⟨#[124]⟩ : ByteArray)).size ≤ k * 210 + 35 + m * 33 + 1 := by rw [ByteArray.size_append]; omega
                    have z6 : ((b2 ++ (⟨#[124]⟩ : ByteArray)) ++ strAt vals1 m).size ≤ k * 210 + 35 + (m + 1) * 33 := by rw [ByteArray.size_append]; omega
                    have hm0d : decide ((0 : Int) < (m : Int)) = true := decide_eq_true (by omega)
                    generalize strAt vals1 m = t1 at *
                    clear s5
                    go_wp2
                    go_roundw
                    case rel => exact ⟨m + 1, _, by omega, by go_num, rfl, z6, hbq, hst3⟩
                    case measure => simp [intOf]; omega
                  · obtain rfl : m = 0 := by omega
                    have hst3 : Hid ((b2 ++ strAt vals1 0).data.toList = S0.data.toList ++ joinB (vals1.take 1) 124) := by
                      show _ = _
                      have h2 := HB2.out
                      rw [List.take_zero, joinB_nil, List.append_nil] at h2
                      rw [joinB_step0 hltm, data_append, h2]
                    have z6 : (b2 ++ strAt vals1 0).size ≤ k * 210 + 35 + 1 * 33 := by rw [ByteArray.size_append]; omega
                    rw [Nat.add_zero] at d0
                    generalize strAt vals1 0 = t1 at *
                    go_wp2
                    go_roundw
                    case rel => exact ⟨1, _, by omega, rfl, rfl, z6, hbq, hst3⟩
                    case measure => simp [intOf]; omega
                · obtain rfl : m = vals1.length := by omega
                  have hfin : Hid (b2.data.toList = showsS ((R.take (k + 1)).map rowT) ∧ (0 < k + 1 → b2.data.toList ≠ [])) := hst2.out S0 b2 hS0d.out (by have := HB2.out; rw [List.take_length] at this; exact this)
                  clear HB2
                  go_wp2
                  go_roundw
                  case rel => exact ⟨k + 1, b2, by omega, by go_num, rfl, by omega, hb.trans (hA.trans hbq), hfin⟩
                  case measure => simp [intOf]; omega
            · simp only [if_true] at hS0
              go_wp2
              rw [← hS0]
              generalize wr.alloc (.cells #[.string k1, .bool true, .slice q3 vals1.length cap3] 107) = wA at *
              replace hS0 := Lib.hid hS0
              go_loopw [3, 6] (fun s' i' wq => ∃ (m : Nat) (b2 : ByteArray), m ≤ vals1.length ∧ i' = .int .i64 m ∧ s' = .string b2 ∧ b2.size ≤ k * 210 + 35 + m * 33 ∧ Ext wA wq ∧ Hid (b2.data.toList = S0.data.toList ++ joinB (vals1.take m) 124)) (fun _ i' _ => vals1.length - (intOf i').toNat)
              case atStart => exact ⟨0, S0, by omega, rfl, rfl, by omega, Ext.refl _, by show _ = _; rw [List.take_zero, joinB_nil, List.append_nil]⟩
              case round =>
                obtain ⟨m, b2, hm, rfl, rfl, hbs2, hbq, HB2⟩ := hrel
                obtain ⟨kl, kc0, kc1, kc2, _, _, _⟩ := K5.ext hbq
                by_cases hltm : m < vals1.length
                · obtain ⟨b3, off3, rfl, hbl3, d0⟩ := (vx.ext (hA.trans hbq)).at hltm
                  have s4 : (strAt vals1 m).size ≤ 32 := hf3 _ (strAt_mem hltm)
                  by_cases hm0 : 0 < m
                  · have hst3 : Hid (((b2 ++ (⟨#[124]⟩ : ByteArray)) ++ strAt vals1 m).data.toList = S0.data.toList ++ joinB (vals1.take (m + 1)) 124) := by
                      show _ = _
                      rw [joinB_step hm0 hltm, data_append, data_append, HB2.out]; simp
                    have s5 : (⟨#[124]⟩ : ByteArray).size = 1 := rfl
                    have z5 : (b2 ++ (⟨#[124]⟩ : ByteArray)).size ≤ k * 210 + 35 + m * 33 + 1 := by rw [ByteArray.size_append]; omega
                    have z6 : ((b2 ++ (⟨#[124]⟩ : ByteArray)) ++ strAt vals1 m).size ≤ k * 210 + 35 + (m + 1) * 33 := by rw [ByteArray.size_append]; omega
                    have hm0d : decide ((0 : Int) < (m : Int)) = true := decide_eq_true (by omega)
                    generalize strAt vals1 m = t1 at *
                    clear s5
                    go_wp2
                    go_roundw
                    case rel => exact ⟨m + 1, _, by omega, by go_num, rfl, z6, hbq, hst3⟩
                    case measure => simp [intOf]; omega
                  · obtain rfl : m = 0 := by omega
                    have hst3 : Hid ((b2 ++ strAt vals1 0).data.toList = S0.data.toList ++ joinB (vals1.take 1) 124) := by
                      show _ = _
                      have h2 := HB2.out
                      rw [List.take_zero, joinB_nil, List.append_nil] at h2
                      rw [joinB_step0 hltm, data_append, h2]
                    have z6 : (b2 ++ strAt vals1 0).size ≤ k * 210 + 35 + 1 * 33 := by rw [ByteArray.size_append]; omega
                    rw [Nat.add_zero] at d0
                    generalize strAt vals1 0 = t1 at *
                    go_wp2
                    go_roundw
                    case rel => exact ⟨1, _, by omega, rfl, rfl, z6, hbq, hst3⟩
                    case measure => simp [intOf]; omega
                · obtain rfl : m = vals1.length := by omega
                  have hfin : Hid (b2.data.toList = showsS ((R.take (k + 1)).map rowT) ∧ (0 < k + 1 → b2.data.toList ≠ [])) := hst2.out S0 b2 hS0d.out (by have := HB2.out; rw [List.take_length] at this; exact this)
                  clear HB2
                  go_wp2
                  go_roundw
                  case rel => exact ⟨k + 1, b2, by omega, by go_num, rfl, by omega, hb.trans (hA.trans hbq), hfin⟩
                  case measure => simp [intOf]; omega
          · rw [hv] at hS0
            cases n1
            · simp only [Bool.false_eq_true, if_false] at hS0
              go_wp2
              rw [← hS0]
              generalize wr.alloc (.cells #[.string k1, .bool false, .slice q3 vals1.length cap3] 107) = wA at *
              replace hS0 := Lib.hid hS0
              go_loopw [3, 6] (fun s' i' wq => ∃ (m : Nat) (b2 : ByteArray), m ≤ vals1.length ∧ i' = .int .i64 m ∧ s' = .string b2 ∧ b2.size ≤ k * 210 + 35 + m * 33 ∧ Ext wA wq ∧ Hid (b2.data.toList = S0.data.toList ++ joinB (vals1.take m) 124)) (fun _ i' _ => vals1.length - (intOf i').toNat)
              case atStart => exact ⟨0, S0, by omega, rfl, rfl, by omega, Ext.refl _, by show _ = _; rw [List.take_zero, joinB_nil, List.append_nil]⟩
              case round =>
                obtain ⟨m, b2, hm, rfl, rfl, hbs2, hbq, HB2⟩ := hrel
                obtain ⟨kl, kc0, kc1, kc2, _, _, _⟩ := K5.ext hbq
                by_cases hltm : m < vals1.length
                · obtain ⟨b3, off3, rfl, hbl3, d0⟩ := (vx.ext (hA.trans hbq)).at hltm
                  have s4 : (strAt vals1 m).size ≤ 32 := hf3 _ (strAt_mem hltm)
                  by_cases hm0 : 0 < m
                  · have hst3 : Hid (((b2 ++ (⟨#[124]⟩ : ByteArray)) ++ strAt vals1 m).data.toList = S0.data.toList ++ joinB (vals1.take (m + 1)) 124) := by
                      show _ = _
                      rw [joinB_step hm0 hltm, data_append, data_append, HB2.out]; simp
                    have s5 : (⟨#[124]⟩ : ByteArray).size = 1 := rfl
                    have z5 : (b2 ++ (⟨#[124]⟩ : ByteArray)).size ≤ k * 210 + 35 + m * 33 + 1 := by rw [ByteArray.size_append]; omega
                    have z6 : ((b2 ++ (⟨#[124]⟩ : ByteArray)) ++ strAt vals1 m).size ≤ k * 210 + 35 + (m + 1) * 33 := by rw [ByteArray.size_append]; omega
                    have hm0d : decide ((0 : Int) < (m : Int)) = true := decide_eq_true (by omega)
                    generalize strAt vals1 m = t1 at *
                    clear s5
                    go_wp2
                    go_roundw
                    case rel => exact ⟨m + 1, _, by omega, by go_num, rfl, z6, hbq, hst3⟩
                    case measure => simp [intOf]; omega
                  · obtain rfl : m = 0 := by omega
                    have hst3 : Hid ((b2 ++ strAt vals1 0).data.toList = S0.data.toList ++ joinB (vals1.take 1) 124) := by
                      show _ = _
                      have h2 := HB2.out
                      rw [List.take_zero, joinB_nil, List.append_nil] at h2
                      rw [joinB_step0 hltm, data_append, h2]
                    have z6 : (b2 ++ strAt vals1 0).size ≤ k * 210 + 35 + 1 * 33 := by rw [ByteArray.size_append]; omega
                    rw [Nat.add_zero] at d0
                    generalize strAt vals1 0 = t1 at *
                    go_wp2
                    go_roundw
                    case rel => exact ⟨1, _, by omega, rfl, rfl, z6, hbq, hst3⟩
                    case measure => simp [intOf]; omega
                · obtain rfl : m = vals1.length := by omega
                  have hfin : Hid (b2.data.toList = showsS ((R.take (k + 1)).map rowT) ∧ (0 < k + 1 → b2.data.toList ≠ [])) := hst2.out S0 b2 hS0d.out (by have := HB2.out; rw [List.take_length] at this; exact this)
                  clear HB2
                  go_wp2
                  go_roundw
                  case rel => exact ⟨k + 1, b2, by omega, by go_num, rfl, by omega, hb.trans (hA.trans hbq), hfin⟩
                  case measure => simp [intOf]; omega
            · simp only [if_true, Bool.false_eq_true, if_false] at hS0
              go_wp2
              rw [← hS0]
              generalize wr.alloc (.cells #[.string k1, .bool true, .slice q3 vals1.length cap3] 107) = wA at *
              replace hS0 := Lib.hid hS0
              go_loopw [3, 6] (fun s' i' wq => ∃ (m : Nat) (b2 : ByteArray), m ≤ vals1.length ∧ i' = .int .i64 m ∧ s' = .string b2 ∧ b2.size ≤ k * 210 + 35 + m * 33 ∧ Ext wA wq ∧ Hid (b2.data.toList = S0.data.toList ++ joinB (vals1.take m) 124)) (fun _ i' _ => vals1.length - (intOf i').toNat)
              case atStart => exact ⟨0, S0, by omega, rfl, rfl, by omega, Ext.refl _, by show _ = _; rw [List.take_zero, joinB_nil, List.append_nil]⟩
              case round =>
                obtain ⟨m, b2, hm, rfl, rfl, hbs2, hbq, HB2⟩ := hrel
                obtain ⟨kl, kc0, kc1, kc2, _, _, _⟩ := K5.ext hbq
                by_cases hltm : m < vals1.length
                · obtain ⟨b3, off3, rfl, hbl3, d0⟩ := (vx.ext (hA.trans hbq)).at hltm
                  have s4 : (strAt vals1 m).size ≤ 32 := hf3 _ (strAt_mem hltm)
                  by_cases hm0 : 0 < m
                  · have hst3 : Hid (((b2 ++ (⟨#[124]⟩ : ByteArray)) ++ strAt vals1 m).data.toList = S0.data.toList ++ joinB (vals1.take (m + 1)) 124) := by
                      show _ = _
                      rw [joinB_step hm0 hltm, data_append, data_append, HB2.out]; simp
                    have s5 : (⟨#[124]⟩ : ByteArray).size = 1 := rfl
                    have z5 : (b2 ++ (⟨#[124]⟩ : ByteArray)).size ≤ k * 210 + 35 + m * 33 + 1 := by rw [ByteArray.size_append]; omega
                    have z6 : ((b2 ++ (⟨#[124]⟩ : ByteArray)) ++ strAt vals1 m).size ≤ k * 210 + 35 + (m + 1) * 33 := by rw [ByteArray.size_append]; omega
                    have hm0d : decide ((0 : Int) < (m : Int)) = true := decide_eq_true (by omega)
                    generalize strAt vals1 m = t1 at *
                    clear s5
                    go_wp2
                    go_roundw
                    case rel => exact ⟨m + 1, _, by omega, by go_num, rfl, z6, hbq, hst3⟩
                    case measure => simp [intOf]; omega
                  · obtain rfl : m = 0 := by omega
                    have hst3 : Hid ((b2 ++ strAt vals1 0).data.toList = S0.data.toList ++ joinB (vals1.take 1) 124) := by
                      show _ = _
                      have h2 := HB2.out
                      rw [List.take_zero, joinB_nil, List.append_nil] at h2
                      rw [joinB_step0 hltm, data_append, h2]
                    have z6 : (b2 ++ strAt vals1 0).size ≤ k * 210 + 35 + 1 * 33 := by rw [ByteArray.size_append]; omega
                    rw [Nat.add_zero] at d0
                    generalize strAt vals1 0 = t1 at *
                    go_wp2
                    go_roundw
                    case rel => exact ⟨1, _, by omega, rfl, rfl, z6, hbq, hst3⟩
                    case measure => simp [intOf]; omega
                · obtain rfl : m = vals1.length := by omega
                  have hfin : Hid (b2.data.toList = showsS ((R.take (k + 1)).map rowT) ∧ (0 < k + 1 → b2.data.toList ≠ [])) := hst2.out S0 b2 hS0d.out (by have := HB2.out; rw [List.take_length] at this; exact this)
                  clear HB2
                  go_wp2
                  go_roundw
                  case rel => exact ⟨k + 1, b2, by omega, by go_num, rfl, by omega, hb.trans (hA.trans hbq), hfin⟩
                  case measure => simp [intOf]; omega
        · obtain rfl : k = 0 := by omega
          rw [if_neg h0] at hP
          subst hP
          rw [Nat.zero_mul, Nat.add_zero] at c0 c1 c2
          rcases hin with ⟨hv, hv2⟩ | ⟨hv, hv2⟩
          · rw [hv] at hS0
            cases n1
            · simp only [if_true, Bool.false_eq_true, if_false] at hS0
              go_wp2
              rw [← hS0]
              generalize wr.alloc (.cells #[.string k1, .bool false, .slice q3 vals1.length cap3] 107) = wA at *
              replace hS0 := Lib.hid hS0
              go_loopw [3, 6] (fun s' i' wq => ∃ (m : Nat) (b2 : ByteArray), m ≤ vals1.length ∧ i' = .int .i64 m ∧ s' = .string b2 ∧ b2.size ≤ 0 * 210 + 35 + m * 33 ∧ Ext wA wq ∧ Hid (b2.data.toList = S0.data.toList ++ joinB (vals1.take m) 124)) (fun _ i' _ => vals1.length - (intOf i').toNat)
              case atStart => exact ⟨0, S0, by omega, rfl, rfl, by omega, Ext.refl _, by show _ = _; rw [List.take_zero, joinB_nil, List.append_nil]⟩
              case round =>
                obtain ⟨m, b2, hm, rfl, rfl, hbs2, hbq, HB2⟩ := hrel
                obtain ⟨kl, kc0, kc1, kc2, _, _, _⟩ := K5.ext hbq
                by_cases hltm : m < vals1.length
                · obtain ⟨b3, off3, rfl, hbl3, d0⟩ := (vx.ext (hA.trans hbq)).at hltm
                  have s4 : (strAt vals1 m).size ≤ 32 := hf3 _ (strAt_mem hltm)
                  by_cases hm0 : 0 < m
                  · have hst3 : Hid (((b2 ++ (⟨#[124]⟩ : ByteArray)) ++ strAt vals1 m).data.toList = S0.data.toList ++ joinB (vals1.take (m + 1)) 124) := by
                      show _ = _
                      rw [joinB_step hm0 hltm, data_append, data_append, HB2.out]; simp
                    have s5 : (⟨#[124]⟩ : ByteArray).size = 1 := rfl
                    have z5 : (b2 ++ (⟨#[124]⟩ : ByteArray)).size ≤ 0 * 210 + 35 + m * 33 + 1 := by rw [ByteArray.size_append]; omega
                    have z6 : ((b2 ++ (⟨#[124]⟩ : ByteArray)) ++ strAt vals1 m).size ≤ 0 * 210 + 35 + (m + 1) * 33 := by rw [ByteArray.size_append]; omega
                    have hm0d : decide ((0 : Int) < (m : Int)) = true := decide_eq_true (by omega)
                    generalize strAt vals1 m = t1 at *
                    clear s5
                    go_wp2
                    go_roundw
                    case rel => exact ⟨m + 1, _, by omega, by go_num, rfl, z6, hbq, hst3⟩
                    case measure => simp [intOf]; omega
                  · obtain rfl : m = 0 := by omega
                    have hst3 : Hid ((b2 ++ strAt vals1 0).data.toList = S0.data.toList ++ joinB (vals1.take 1) 124) := by
                      show _ = _
                      have h2 := HB2.out
                      rw [List.take_zero, joinB_nil, List.append_nil] at h2
                      rw [joinB_step0 hltm, data_append, h2]
                    have z6 : (b2 ++ strAt vals1 0).size ≤ 0 * 210 + 35 + 1 * 33 := by rw [ByteArray.size_append]; omega
                    rw [Nat.add_zero] at d0
                    generalize strAt vals1 0 = t1 at *
                    go_wp2
                    go_roundw
                    case rel => exact ⟨1, _, by omega, rfl, rfl, z6, hbq, hst3⟩
                    case measure => simp [intOf]; omega
                · obtain rfl : m = vals1.length := by omega
                  have hfin : Hid (b2.data.toList = showsS ((R.take (0 + 1)).map rowT) ∧ (0 < 0 + 1 → b2.data.toList ≠ [])) := hst2.out S0 b2 hS0d.out (by have := HB2.out; rw [List.take_length] at this; exact this)
                  clear HB2
                  go_wp2
                  go_roundw
                  case rel => exact ⟨0 + 1, b2, by omega, by go_num, rfl, by omega, hb.trans (hA.trans hbq), hfin⟩
                  case measure => simp [intOf]; omega
            · simp only [if_true] at hS0
              go_wp2
              rw [← hS0]
              generalize wr.alloc (.cells #[.string k1, .bool true, .slice q3 vals1.length cap3] 107) = wA at *
              replace hS0 := Lib.hid hS0
              go_loopw [3, 6] (fun s' i' wq => ∃ (m : Nat) (b2 : ByteArray), m ≤ vals1.length ∧ i' = .int .i64 m ∧ s' = .string b2 ∧ b2.size ≤ 0 * 210 + 35 + m * 33 ∧ Ext wA wq ∧ Hid (b2.data.toList = S0.data.toList ++ joinB (vals1.take m) 124)) (fun _ i' _ => vals1.length - (intOf i').toNat)
              case atStart => exact ⟨0, S0, by omega, rfl, rfl, by omega, Ext.refl _, by show _ = _; rw [List.take_zero, joinB_nil, List.append_nil]⟩
              case round =>
                obtain ⟨m, b2, hm, rfl, rfl, hbs2, hbq, HB2⟩ := hrel
                obtain ⟨kl, kc0, kc1, kc2, _, _, _⟩ := K5.ext hbq
                by_cases hltm : m < vals1.length
                · obtain ⟨b3, off3, rfl, hbl3, d0⟩ := (vx.ext (hA.trans hbq)).at hltm
                  have s4 : (strAt vals1 m).size ≤ 32 := hf3 _ (strAt_mem hltm)
                  by_cases hm0 : 0 < m
                  · have hst3 : Hid (((b2 ++ (⟨#[124]⟩ : ByteArray)) ++ strAt vals1 m).data.toList = S0.data.toList ++ joinB (vals1.take (m + 1)) 124) := by
                      show _ = _
                      rw [joinB_step hm0 hltm, data_append, data_append, HB2.out]; simp
                    have s5 : (⟨#[124]⟩ : ByteArray).size = 1 := rfl
                    have z5 : (b2 ++ (⟨#[124]⟩ : ByteArray)).size ≤ 0 * 210 + 35 + m * 33 + 1 := by rw [ByteArray.size_append]; omega
                    have z6 : ((b2 ++ (⟨#[124]⟩ : ByteArray)) ++ strAt vals1 m).size ≤ 0 * 210 + 35 + (m + 1) * 33 := by rw [ByteArray.size_append]; omega
                    have hm0d : decide ((0 : Int) < (m : Int)) = true := decide_eq_true (by omega)
                    generalize strAt vals1 m = t1 at *
                    clear s5
                    go_wp2
                    go_roundw
                    case rel => exact ⟨m + 1, _, by omega, by go_num, rfl, z6, hbq, hst3⟩
                    case measure => simp [intOf]; omega
                  · obtain rfl : m = 0 := by omega
                    have hst3 : Hid ((b2 ++ strAt vals1 0).data.toList = S0.data.toList ++ joinB (vals1.take 1) 124) := by
                      show _ = _
                      have h2 := HB2.out
                      rw [List.take_zero, joinB_nil, List.append_nil] at h2
                      rw [joinB_step0 hltm, data_append, h2]
                    have z6 : (b2 ++ strAt vals1 0).size ≤ 0 * 210 + 35 + 1 * 33 := by rw [ByteArray.size_append]; omega
                    rw [Nat.add_zero] at d0
                    generalize strAt vals1 0 = t1 at *
                    go_wp2
                    go_roundw
                    case rel => exact ⟨1, _, by omega, rfl, rfl, z6, hbq, hst3⟩
                    case measure => simp [intOf]; omega
                · obtain rfl : m = vals1.length := by omega
                  have hfin : Hid (b2.data.toList = showsS ((R.take (0 + 1)).map rowT) ∧ (0 < 0 + 1 → b2.data.toList ≠ [])) := hst2.out S0 b2 hS0d.out (by have := HB2.out; rw [List.take_length] at this; exact this)
                  clear HB2
                  go_wp2
                  go_roundw
                  case rel => exact ⟨0 + 1, b2, by omega, by go_num, rfl, by omega, hb.trans (hA.trans hbq), hfin⟩
                  case measure => simp [intOf]; omega
          · rw [hv] at hS0
            cases n1
            · simp only [Bool.false_eq_true, if_false] at hS0
              go_wp2
              rw [← hS0]
              generalize wr.alloc (.cells #[.string k1, .bool false, .slice q3 vals1.length cap3] 107) = wA at *
              replace hS0 := Lib.hid hS0
              go_loopw [3, 6] (fun s' i' wq => ∃ (m : Nat) (b2 : ByteArray), m ≤ vals1.length ∧ i' = .int .i64 m ∧ s' = .string b2 ∧ b2.size ≤ 0 * 210 + 35 + m * 33 ∧ Ext wA wq ∧ Hid (b2.data.toList = S0.data.toList ++ joinB (vals1.take m) 124)) (fun _ i' _ => vals1.length - (intOf i').toNat)
              case atStart => exact ⟨0, S0, by omega, rfl, rfl, by omega, Ext.refl _, by show _ = _; rw [List.take_zero, joinB_nil, List.append_nil]⟩
              case round =>
                obtain ⟨m, b2, hm, rfl, rfl, hbs2, hbq, HB2⟩ := hrel
                obtain ⟨kl, kc0, kc1, kc2, _, _, _⟩ := K5.ext hbq
                by_cases hltm : m < vals1.length
                · obtain ⟨b3, off3, rfl, hbl3, d0⟩ := (vx.ext (hA.trans hbq)).at hltm
                  have s4 : (strAt vals1 m).size ≤ 32 := hf3 _ (strAt_mem hltm)
                  by_cases hm0 : 0 < m
                  · have hst3 : Hid (((b2 ++ (⟨#[124]⟩ : ByteArray)) ++ strAt vals1 m).data.toList = S0.data.toList ++ joinB (vals1.take (m + 1)) 124) := by
                      show _ = _
                      rw [joinB_step hm0 hltm, data_append, data_append, HB2.out]; simp
                    have s5 : (⟨#[124]⟩ : ByteArray).size = 1 := rfl
                    have z5 : (b2 ++ (⟨#[124]⟩ : ByteArray)).size ≤ 0 * 210 + 35 + m * 33 + 1 := by rw [ByteArray.size_append]; omega
                    have z6 : ((b2 ++ (⟨#[124]⟩ : ByteArray)) ++ strAt vals1 m).size ≤ 0 * 210 + 35 + (m + 1) * 33 := by rw [ByteArray.size_append]; omega
                    have hm0d : decide ((0 : Int) < (m : Int)) = true := decide_eq_true (by omega)
                    generalize strAt vals1 m = t1 at *
                    clear s5
                    go_wp2
                    go_roundw
                    case rel => exact ⟨m + 1, _, by omega, by go_num, rfl, z6, hbq, hst3⟩
                    case measure => simp [intOf]; omega
                  · obtain rfl : m = 0 := by omega
                    have hst3 : Hid ((b2 ++ strAt vals1 0).data.toList = S0.data.toList ++ joinB (vals1.take 1) 124) := by
                      show _ = _
                      have h2 := HB2.out
                      rw [List.take_zero, joinB_nil, List.append_nil] at h2
                      rw [joinB_step0 hltm, data_append, h2]
                    have z6 : (b2 ++ strAt vals1 0).size ≤ 0 * 210 + 35 + 1 * 33 := by rw [ByteArray.size_append]; omega
                    rw [Nat.add_zero] at d0
                    generalize strAt vals1 0 = t1 at *
                    go_wp2
                    go_roundw
                    case rel => exact ⟨1, _, by omega, rfl, rfl, z6, hbq, hst3⟩
                    case measure => simp [intOf]; omega
                · obtain rfl : m = vals1.length := by omega
                  have hfin : Hid (b2.data.toList = showsS ((R.take (0 + 1)).map rowT) ∧ (0 < 0 + 1 → b2.data.toList ≠ [])) := hst2.out S0 b2 hS0d.out (by have := HB2.out; rw [List.take_length] at this; exact this)
                  clear HB2
                  go_wp2
                  go_roundw
                  case rel => exact ⟨0 + 1, b2, by omega, by go_num, rfl, by omega, hb.trans (hA.trans hbq), hfin⟩
                  case measure => simp [intOf]; omega
            · simp only [if_true, Bool.false_eq_true, if_false] at hS0
              go_wp2
              rw [← hS0]
              generalize wr.alloc (.cells #[.string k1, .bool true, .slice q3 vals1.length cap3] 107) = wA at *
              replace hS0 := Lib.hid hS0
              go_loopw [3, 6] (fun s' i' wq => ∃ (m : Nat) (b2 : ByteArray), m ≤ vals1.length ∧ i' = .int .i64 m ∧ s' = .string b2 ∧ b2.size ≤ 0 * 210 + 35 + m * 33 ∧ Ext wA wq ∧ Hid (b2.data.toList = S0.data.toList ++ joinB (vals1.take m) 124)) (fun _ i' _ => vals1.length - (intOf i').toNat)
              case atStart => exact ⟨0, S0, by omega, rfl, rfl, by omega, Ext.refl _, by show _ = _; rw [List.take_zero, joinB_nil, List.append_nil]⟩
              case round =>
                obtain ⟨m, b2, hm, rfl, rfl, hbs2, hbq, HB2⟩ := hrel
                obtain ⟨kl, kc0, kc1, kc2, _, _, _⟩ := K5.ext hbq
                by_cases hltm : m < vals1.length
                · obtain ⟨b3, off3, rfl, hbl3, d0⟩ := (vx.ext (hA.trans hbq)).at hltm
                  have s4 : (strAt vals1 m).size ≤ 32 := hf3 _ (strAt_mem hltm)
                  by_cases hm0 : 0 < m
                  · have hst3 : Hid (((b2 ++ (⟨#[124]⟩ : ByteArray)) ++ strAt vals1 m).data.toList = S0.data.toList ++ joinB (vals1.take (m + 1)) 124) := by
                      show _ = _
                      rw [joinB_step hm0 hltm, data_append, data_append, HB2.out]; simp
                    have s5 : (⟨#[124]⟩ : ByteArray).size = 1 := rfl
                    have z5 : (b2 ++ (⟨#[124]⟩ : ByteArray)).size ≤ 0 * 210 + 35 + m * 33 + 1 := by rw [ByteArray.size_append]; omega
                    have z6 : ((b2 ++ (⟨#[124]⟩ : ByteArray)) ++ strAt vals1 m).size ≤ 0 * 210 + 35 + (m + 1) * 33 := by rw [ByteArray.size_append]; omega
                    have hm0d : decide ((0 : Int) < (m : Int)) = true := decide_eq_true (by omega)
                    generalize strAt vals1 m = t1 at *
                    clear s5
                    go_wp2
                    go_roundw
                    case rel => exact ⟨m + 1, _, by omega, by go_num, rfl, z6, hbq, hst3⟩
                    case measure => simp [intOf]; omega
                  · obtain rfl : m = 0 := by omega
                    have hst3 : Hid ((b2 ++ strAt vals1 0).data.toList = S0.data.toList ++ joinB (vals1.take 1) 124) := by
                      show _ = _
                      have h2 := HB2.out
                      rw [List.take_zero, joinB_nil, List.append_nil] at h2
                      rw [joinB_step0 hltm, data_append, h2]
                    have z6 : (b2 ++ strAt vals1 0).size ≤ 0 * 210 + 35 + 1 * 33 := by rw [ByteArray.size_append]; omega
                    rw [Nat.add_zero] at d0
                    generalize strAt vals1 0 = t1 at *
                    go_wp2
                    go_roundw
                    case rel => exact ⟨1, _, by omega, rfl, rfl, z6, hbq, hst3⟩
                    case measure => simp [intOf]; omega
                · obtain rfl : m = vals1.length := by omega
                  have hfin : Hid (b2.data.toList = showsS ((R.take (0 + 1)).map rowT) ∧ (0 < 0 + 1 → b2.data.toList ≠ [])) := hst2.out S0 b2 hS0d.out (by have := HB2.out; rw [List.take_length] at this; exact this)
                  clear HB2
                  go_wp2
                  go_roundw
                  case rel => exact ⟨0 + 1, b2, by omega, by go_num, rfl, by omega, hb.trans (hA.trans hbq), hfin⟩
                  case measure => simp [intOf]; omega
      · obtain rfl : k = R.length := by omega
        obtain ⟨h, h'⟩ := HB.out
        rw [List.take_length] at h
        by_cases hl0 : R.length = 0
        · have hz := hN.out hl0
          have hb0 : b.data.toList = [] := by rw [h, List.length_eq_zero_iff.1 hl0]; rfl
          obtain rfl : b = ⟨#[]⟩ := mk_bytes hb0
          replace hz := Lib.hid hz
          clear h h' hl0
          go_wp2
          go_ret
          exact ⟨by rw [hz.out]; rfl, er⟩
        · have hz := hY.out hl0
          have hne : b.toList.isEmpty = false := by
            rw [ByteArray.toList_eq, List.isEmpty_eq_false_iff]
            exact h' (by omega)
          rw [← h] at hz
          replace hz := Lib.hid hz
          clear h h' hl0
          go_wp2
          go_ret
          exact ⟨by rw [hz.out]; rfl, er⟩

end Go.Proofs.YtbkemhheombfcaaDoor
