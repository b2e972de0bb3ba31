/- LabelRight, walked: labels are right just if they are at most eight, keys and values are names, and the keys rise; else they are put as nothing. -/
import Derived.Test.YtbkemhheombfcaaDoorLWalkF
namespace Go.Dm
open Go Go.RowKit

/-- So far all may stand where they stand. -/
def fitsTo (L : List PairL) (k : Nat) : Bool := decide (L.length ≤ 8) && (List.range k).all (okLab L)
theorem fitsTo_zero (L : List PairL) : fitsTo L 0 = decide (L.length ≤ 8) := by simp [fitsTo]
theorem fitsTo_step (L : List PairL) (k : Nat) : fitsTo L (k + 1) = (fitsTo L k && okLab L k) := by
  simp [fitsTo, List.range_succ, Bool.and_assoc]
theorem fitsTo_all (L : List PairL) : fitsTo L L.length = rightLab L := rfl

theorem putLab_ne {L : List PairL} (h : rightLab L = true) : putLab L ≠ [] := by
  unfold putLab
  rw [h, if_pos rfl]
  intro e
  have := putL_pos L.length
  rw [(List.append_eq_nil_iff.1 e).1] at this
  simp at this

theorem textLab_ne {L : List PairL} (h : rightLab L = true) : textLab L ≠ [63] := by
  unfold textLab
  rw [h, if_pos rfl]
  split
  · simp
  · rename_i hne
    cases L with
    | nil => exact absurd rfl hne
    | cons p L =>
      intro e
      have hm : (61 : UInt8) ∈ Lib.join ((p :: L).map showP) [44] := by
        rw [List.map_cons, Lib.join_cons]
        simp [showP]
      rw [e] at hm
      simp at hm
end Go.Dm
namespace Go.Proofs.YtbkemhheombfcaaDoor
open Go.RowKit Go.Dm

set_option maxHeartbeats 4000000 in
set_option maxRecDepth 100000 in
theorem labelRight_w (l : List PairS) (v : Value) (w : World) (hm : l.length ≤ 35184372088832) (hf : FitP l) (hx : Pairs w v l) (ht : Vars w) :
    Calls Tryd.prog 4 #[v] w fun e w' => e = .returned (.bool true) ∧ Ext w w' := by
  obtain ⟨q, cap, rfl, hcap, hcm⟩ := hx.shape
  have hd8 : decide ((l.length : Int) ≤ 8) = fitsTo (labL l) 0 := by rw [fitsTo_zero, labL_len]; exact decide_eq_decide.2 (by omega)
  go_enter Tryd.func4, Tryd.ntmps4
  go_wp2_with fail
  refine (lexamples_w w ht).mono ?_; rintro e w1 ⟨rfl, e1⟩
  go_wp2
  clear hd8
  go_loopw [4, 5] (fun g i' wr => ∃ (k : Nat) (c : Bool), k ≤ l.length ∧ i' = .int .i64 k ∧ Ext w1 wr ∧ g = .bool c ∧ Hid (fitsTo (labL l) k = c)) (fun _ i' _ => l.length - (intOf i').toNat)
  case atStart => exact ⟨0, _, by omega, rfl, Ext.refl _, rfl, rfl⟩
  case round =>
    obtain ⟨k, c, hk, rfl, hb, rfl, HC⟩ := hrel
    have fr := e1.trans hb
    by_cases hlt : k < l.length
    · have hstep := fitsTo_step (labL l) k
      rw [HC.out] at hstep
      cases c with
      | false =>
        replace hstep := Lib.hid (hstep.trans (Bool.false_and _))
        go_wp2_with fail
        refine Dm.wp_region_grow (by kernel_rfl) (by kernel_rfl) ?_
        repeat (go_big_quiet_step (fail))
        refine wpQuiet_nil ?_
        intro U hU
        have hU' := hb.trans hU
        go_wp2
        go_roundw
        case rel => exact ⟨k + 1, false, by omega, by go_num, hU', rfl, hstep⟩
        case measure => simp [intOf]; omega
      | true =>
        rw [Bool.true_and] at hstep
        obtain ⟨b, off, rfl, hbl, c0, c1⟩ := (hx.ext fr).at hlt
        have hfk := hf _ (pairAt_mem hlt)
        have hok : ∀ c1 c2 c3, rightL (pairAt l k).1.data.toList = c1 → rightL (pairAt l k).2.data.toList = c2 → (k == 0 || !leB (pairAt l k).1.data.toList (pairAt l (k-1)).1.data.toList) = c3 → Hid (fitsTo (labL l) (k + 1) = (c1 && (c2 && c3))) := by
          intro c1 c2 c3 e1 e2 e3
          show _ = _
          rw [hstep]
          unfold okLab
          rw [labL_at l hlt, labL_at l (by omega : k - 1 < l.length), ← e1, ← e2, ← e3]
          rfl
        have C1 : ∀ c, rightL (pairAt l k).1.data.toList = c → Hid (∀ U, Ext wr U → Calls Tryd.prog 19 #[.string (pairAt l k).1] U fun e w' => e = .returned (.bool c) ∧ Ext U w') := by
          intro c h U hU
          rw [← h]
          exact right_fit _ U hfk.1 (ht.tabs.ext (fr.trans hU))
        have C2 : ∀ c, rightL (pairAt l k).2.data.toList = c → Hid (∀ U, Ext wr U → Calls Tryd.prog 19 #[.string (pairAt l k).2] U fun e w' => e = .returned (.bool c) ∧ Ext U w') := by
          intro c h U hU
          rw [← h]
          exact right_fit _ U hfk.2 (ht.tabs.ext (fr.trans hU))
        replace hok := Lib.hid hok
        clear hstep
        cases h1 : rightL (pairAt l k).1.data.toList with
        | false =>
          replace C1 := C1 _ h1
          replace C2 := C2 _ rfl
          have hS := hok.out _ _ _ h1 rfl rfl
          clear h1 hok
          go_wp2_with fail
          refine Dm.wp_region_grow (by kernel_rfl) (by kernel_rfl) ?_
          repeat (go_big_quiet_step (first
            | (go_at_call 19; with_reducible exact Calls.quietE (C1.out _ (ext_grow _ _)))
            | (go_at_call 19; with_reducible exact Calls.quietE (C2.out _ (ext_grow _ _)))))
          refine wpQuiet_nil ?_
          intro U hU
          have hU' := hb.trans hU
          go_wp2
          go_roundw
          case rel => exact ⟨k + 1, false, by omega, by go_num, hU', rfl, hS⟩
          case measure => simp [intOf]; omega
        | true =>
          replace C1 := C1 _ h1
          cases h2 : rightL (pairAt l k).2.data.toList with
          | false =>
            replace C2 := C2 _ h2
            have hS := hok.out _ _ _ h1 h2 rfl
            clear h1 h2 hok
            go_wp2_with fail
            refine Dm.wp_region_grow (by kernel_rfl) (by kernel_rfl) ?_
            repeat (go_big_quiet_step (first
              | (go_at_call 19; with_reducible exact Calls.quietE (C1.out _ (ext_grow _ _)))
              | (go_at_call 19; with_reducible exact Calls.quietE (C2.out _ (ext_grow _ _)))))
            refine wpQuiet_nil ?_
            intro U hU
            have hU' := hb.trans hU
            go_wp2
            go_roundw
            case rel => exact ⟨k + 1, false, by omega, by go_num, hU', rfl, hS⟩
            case measure => simp [intOf]; omega
          | true =>
            replace C2 := C2 _ h2
            by_cases h0 : k = 0
            · subst h0
              have hS := hok.out _ _ true h1 h2 rfl
              clear h1 h2 hok
              rw [Nat.zero_mul, Nat.add_zero] at c0 c1
              go_wp2_with fail
              refine Dm.wp_region_grow (by kernel_rfl) (by kernel_rfl) ?_
              repeat (go_big_quiet_step (first
                | (go_at_call 19; with_reducible exact Calls.quietE (C1.out _ (ext_grow _ _)))
                | (go_at_call 19; with_reducible exact Calls.quietE (C2.out _ (ext_grow _ _)))))
              refine wpQuiet_nil ?_
              intro U hU
              have hU' := hb.trans hU
              go_wp2
              go_roundw
              case rel => exact ⟨1, true, by omega, rfl, hU', rfl, hS⟩
              case measure => simp [intOf]; omega
            · obtain ⟨j, rfl⟩ : ∃ j, k = j + 1 := ⟨k - 1, by omega⟩
              obtain ⟨d0, _⟩ := (hx.ext fr).cells (k := j) (by omega)
              have hjb : (((j + 1 : Nat) : Int) == 0) = false := by rw [beq_eq_false_iff_ne]; omega
              have hjb' : ((j : Int) + 1 == 0) = false := by rw [beq_eq_false_iff_ne]; omega
              have hlt' : ∀ c, Op.bytesLess (pairAt l j).1.toList (pairAt l (j + 1)).1.toList = c → (j + 1 == 0 || !leB (pairAt l (j + 1)).1.data.toList (pairAt l (j + 1 - 1)).1.data.toList) = c := by
                intro c e1
                rw [ByteArray.toList_eq, ByteArray.toList_eq] at e1
                rw [not_leB, ← e1]
                rfl
              cases q1 : Op.bytesLess (pairAt l j).1.toList (pairAt l (j + 1)).1.toList with
              | false =>
                have hS := hok.out _ _ _ h1 h2 (hlt' _ q1)
                clear h1 h2 hok hlt'
                go_wp2_with fail
                refine Dm.wp_region_grow (by kernel_rfl) (by kernel_rfl) ?_
                repeat (go_big_quiet_step (first
                  | (go_at_call 19; with_reducible exact Calls.quietE (C1.out _ (ext_grow _ _)))
                  | (go_at_call 19; with_reducible exact Calls.quietE (C2.out _ (ext_grow _ _)))))
                refine wpQuiet_nil ?_
                intro U hU
                have hU' := hb.trans hU
                go_wp2
                go_roundw
                case rel => exact ⟨j + 1 + 1, false, by omega, by go_num, hU', rfl, hS⟩
                case measure => simp [intOf]; omega
              | true =>
                have hS := hok.out _ _ _ h1 h2 (hlt' _ q1)
                clear h1 h2 hok hlt'
                go_wp2_with fail
                refine Dm.wp_region_grow (by kernel_rfl) (by kernel_rfl) ?_
                repeat (go_big_quiet_step (first
                  | (go_at_call 19; with_reducible exact Calls.quietE (C1.out _ (ext_grow _ _)))
                  | (go_at_call 19; with_reducible exact Calls.quietE (C2.out _ (ext_grow _ _)))))
                refine wpQuiet_nil ?_
                intro U hU
                have hU' := hb.trans hU
                go_wp2
                go_roundw
                case rel => exact ⟨j + 1 + 1, true, by omega, by go_num, hU', rfl, hS⟩
                case measure => simp [intOf]; omega
    · obtain rfl : k = l.length := by omega
      have hR : rightLab (labL l) = c := by rw [← HC.out, ← labL_len, fitsTo_all]
      have CR := lright_w l _ wr hm hf (hx.ext fr) (ht.tabs.ext fr)
      rw [hR] at CR
      go_wp2_with fail
      refine CR.mono ?_; rintro e w2 ⟨rfl, h2⟩
      clear CR
      have f2 := fr.trans h2
      go_wp2_with fail
      refine (lput_w l _ w2 hm hf (hx.ext f2) (ht.tabs.ext f2)).mono ?_; rintro e w3 ⟨rfl, h3⟩
      have f3 := f2.trans h3
      have CT := ltext_w l _ w3 hm hf (hx.ext f3) (ht.tabs.ext f3)
      cases c with
      | false =>
        have hz : Hid (putLab (labL l) = []) := by show _ = _; unfold putLab; rw [hR]; rfl
        have hz2 : textLab (labL l) = [63] := by unfold textLab; rw [hR]; rfl
        rw [hz2] at CT
        rw [hz.out]
        clear hR hz2
        go_wp2_with fail
        refine CT.mono ?_; rintro e w4 ⟨rfl, h4⟩
        go_wp2
        go_ret
        exact ⟨rfl, f3.trans h4⟩
      | true =>
        have n1 := putLab_ne hR
        have n2 := textLab_ne hR
        have n1a : (⟨(putLab (labL l)).toArray⟩ : ByteArray).toList.isEmpty = false := by rw [ByteArray.toList_eq, List.isEmpty_eq_false_iff]; simpa using n1
        have n2a : ((⟨(textLab (labL l)).toArray⟩ : ByteArray).toList == [63]) = false := by rw [ByteArray.toList_eq, beq_eq_false_iff_ne]; simpa using n2
        have n2b : ¬ (⟨(textLab (labL l)).toArray⟩ : ByteArray).toList = [63] := by rw [ByteArray.toList_eq]; simpa using n2
        generalize (⟨(putLab (labL l)).toArray⟩ : ByteArray) = A at *
        generalize (⟨(textLab (labL l)).toArray⟩ : ByteArray) = B at *
        clear hR n1 n2
        go_wp2_with fail
        refine CT.mono ?_; rintro e w4 ⟨rfl, h4⟩
        go_wp2
        go_ret
        exact ⟨rfl, f3.trans h4⟩

end Go.Proofs.YtbkemhheombfcaaDoor
