/- Texts one behind the other: Chapter 2: the walks of the document's Count, letter, Right; Chapter 4: the walks of the document's Right, Find, Put, Text. -/
import Derived.Test.YtbkemhheombfcaaDoorSelTellsP12
import Derived.Test.YtbkemhheombfcaaDoorSelTellsP5
import Derived.IntWalk
import Derived.Test.YtbkemhheombfcaaDoorSelTellsP8
import Derived.Test.YtbkemhheombfcaaDoorSelTellsP17
import Derived.Test.YtbkemhheombfcaaDoorSelTellsP13
namespace Go.Dm
open Go Go.RowKit

theorem count_round {l : Bs} {at' k : Nat} (h : at' < l.length) (hk : countL l = k + countL (l.drop at')) : countL l = (k + 1) + countL (l.drop (at' + wideL (l.drop at'))) ∧ at' + wideL (l.drop at') ≤ l.length ∧ max (longL (l.drop at')) 1 = wideL (l.drop at') ∧ 1 ≤ wideL (l.drop at') := by
  have hne : l.drop at' ≠ [] := by rw [Ne, List.drop_eq_nil_iff]; omega
  have h1 := wideL_le hne
  rw [List.length_drop] at h1
  refine ⟨?_, by omega, long_max hne, wideL_pos _⟩
  rw [hk, countL_step hne, List.drop_drop]; omega
end Go.Dm
namespace Go.Proofs.YtbkemhheombfcaaDoor
open Go.RowKit Go.Dm

set_option maxHeartbeats 1000000 in
theorem rcount_w (s : ByteArray) (w : World) (hs : s.size < 9223372036854775807) :
    Calls Tryd.prog 96 #[.string s] w fun e w' => e = .returned (.int .i64 (countL s.data.toList)) ∧ Ext w w' := by
  go_enter Tryd.func96, Tryd.ntmps96
  go_wp2
  go_loopw [3, 4] (fun n i' wr => ∃ (at' k : Nat), at' ≤ s.size ∧ k ≤ at' ∧ i' = .int .i64 at' ∧ n = .int .i64 k ∧ Ext w wr ∧ Hid (countL s.data.toList = k + countL (s.data.toList.drop at'))) (fun _ i' _ => s.size - (intOf i').toNat)
  case atStart => exact ⟨0, 0, by omega, by omega, rfl, rfl, Ext.refl _, by show _ = _; rw [List.drop_zero, Nat.zero_add]⟩
  case round =>
    obtain ⟨at', k, ha, hk, rfl, rfl, hb, HK⟩ := hrel
    by_cases hlt : at' < s.size
    · obtain ⟨r1, r2, r3, r4⟩ := count_round (by rw [← size_len]; exact hlt) HK.out
      have hex : (s.extract at' s.size).data.toList = s.data.toList.drop at' := Lib.extract_to_end s at'
      have hse : (s.extract at' s.size).size < 9223372036854775807 := by rw [size_len, hex, List.length_drop, ← size_len]; omega
      rw [← size_len] at r2
      rw [← hex] at r1 r2 r3 r4
      have r3 : max (longL (s.extract at' s.size).data.toList : Int) 1 = (wideL (s.extract at' s.size).data.toList : Int) := by omega
      have C := long_w (s.extract at' s.size) wr hse
      replace r1 := Lib.hid r1
      clear hex hse
      generalize longL (s.extract at' s.size).data.toList = L at *
      generalize wideL (s.extract at' s.size).data.toList = W at *
      go_wp2_with fail
      refine C.mono ?_; rintro e w2 ⟨rfl, h2⟩
      clear C
      go_wp2
      go_roundw
      case rel => exact ⟨at' + W, k + 1, by omega, by omega, by go_num, by go_num, hb.trans h2, r1⟩
      case measure => simp [intOf]; omega
    · go_wp2
      go_ret
      obtain rfl : at' = s.size := by omega
      have := HK.out
      rw [List.drop_eq_nil_iff.2 (by rw [← size_len]; omega), countL_nil, Nat.add_zero] at this
      exact ⟨by rw [this]; rfl, hb⟩

theorem letterR_one {s : ByteArray} (h1 : s.size = 1) : letterR s.data.toList = (decide (97 ≤ bAt s.data.toList 0) && decide (bAt s.data.toList 0 ≤ 122)) := by
  unfold letterR; rw [← size_len, if_pos h1]

set_option maxHeartbeats 1000000 in
theorem letter_w (s : ByteArray) (w : World) (hs : s.size < 9223372036854775807) :
    Calls Tryd.prog 98 #[.string s] w fun e w' => e = .returned (.bool (letterR s.data.toList)) ∧ Ext w w' := by
  by_cases h1 : s.size = 1
  · have hb : ((s.size : Int) == 1) = true := by rw [beq_iff_eq]; omega
    have h0 : 0 < s.size := by omega
    obtain ⟨a, ha⟩ : ∃ a : Int, ((s[0]'h0).toNat : Int) = a := ⟨_, rfl⟩
    have hz : Hid (letterR s.data.toList = (decide (97 ≤ a) && decide (a ≤ 122))) := by
      show _ = _
      rw [letterR_one h1, ← ha, sAt]
      congr 1 <;> exact decide_eq_decide.2 (by omega)
    clear h1
    by_cases c : 97 ≤ a
    · rw [decide_eq_true c] at hz
      go_enter Tryd.func98, Tryd.ntmps98
      go_wp2
      go_ret
      exact ⟨by rw [hz.out]; rfl, Ext.refl _⟩
    · rw [decide_eq_false c] at hz
      go_enter Tryd.func98, Tryd.ntmps98
      go_wp2
      go_ret
      exact ⟨by rw [hz.out]; rfl, Ext.refl _⟩
  · have hb : ((s.size : Int) == 1) = false := by rw [beq_eq_false_iff_ne]; omega
    by_cases h2 : s.size = 2
    · have hb2 : ((s.size : Int) != 2) = false := by simp; omega
      have h0 : 0 < s.size := by omega
      have h10 : 1 < s.size := by omega
      obtain ⟨a, ha⟩ : ∃ a : Int, ((s[0]'h0).toNat : Int) = a := ⟨_, rfl⟩
      obtain ⟨b, hb'⟩ : ∃ b : Int, ((s[1]'h10).toNat : Int) = b := ⟨_, rfl⟩
      have ha0 : 0 ≤ a ∧ a ≤ 255 := by rw [← ha, sAt]; have := bAt_lt s.data.toList 0; omega
      have hb0 : 0 ≤ b ∧ b ≤ 255 := by rw [← hb', sAt]; have := bAt_lt s.data.toList 1; omega
      have hz : Hid (letterR s.data.toList = ((decide (945 ≤ a % 32 * 64 + b % 64) && decide (a % 32 * 64 + b % 64 ≤ 969)) || (decide (1072 ≤ a % 32 * 64 + b % 64) && decide (a % 32 * 64 + b % 64 ≤ 1103)))) := by
        show _ = _
        unfold letterR
        rw [← size_len, if_neg h1, if_pos h2, ← ha, ← hb', sAt, sAt]
        congr 1 <;> congr 1 <;> exact decide_eq_decide.2 (by omega)
      clear h1 h2
      obtain ⟨p, hp⟩ : ∃ p : Int, a % 32 = p := ⟨_, rfl⟩
      obtain ⟨q, hq⟩ : ∃ q : Int, b % 64 = q := ⟨_, rfl⟩
      have hp' : a.tmod 32 = p := by rw [Int.tmod_eq_emod_of_nonneg ha0.1]; exact hp
      have hq' : b.tmod 64 = q := by rw [Int.tmod_eq_emod_of_nonneg hb0.1]; exact hq
      have hpb : 0 ≤ p ∧ p ≤ 31 := by omega
      have hqb : 0 ≤ q ∧ q ≤ 63 := by omega
      rw [hp, hq] at hz
      obtain ⟨n, hn⟩ : ∃ n : Int, p * 64 + q = n := ⟨_, rfl⟩
      rw [hn] at hz
      have hw1 : IntKind.i64.wrap (p * 64) = p * 64 := IntWalk.i64_in _ (by omega)
      have hw2 : IntKind.i64.wrap (p * 64 + q) = n := by rw [← hn]; exact IntWalk.i64_in _ (by omega)
      go_enter Tryd.func98, Tryd.ntmps98
      go_wp2_with fail
      refine Dm.wp_region_grow (by kernel_rfl) (by kernel_rfl) ?_
      repeat (go_big_quiet_step (fail))
      refine wpQuiet_nil ?_
      intro W hW'
      clear hw1 hw2 hn hp hq hp' hq' ha hb'
      by_cases c1 : 945 ≤ n
      · by_cases c2 : n ≤ 969
        · have hv : letterR s.data.toList = true := by rw [hz.out]; simp; omega
          replace hv := Lib.hid hv
          go_wp2
          go_ret
          exact ⟨by rw [hv.out]; rfl, hW'⟩
        · by_cases c3 : 1072 ≤ n
          · by_cases c4 : n ≤ 1103
            · have hv : letterR s.data.toList = true := by rw [hz.out]; simp; omega
              replace hv := Lib.hid hv
              go_wp2
              go_ret
              exact ⟨by rw [hv.out]; rfl, hW'⟩
            · have hv : letterR s.data.toList = false := by rw [hz.out]; simp; omega
              replace hv := Lib.hid hv
              go_wp2
              go_ret
              exact ⟨by rw [hv.out]; rfl, hW'⟩
          · have hv : letterR s.data.toList = false := by rw [hz.out]; simp; omega
            replace hv := Lib.hid hv
            go_wp2
            go_ret
            exact ⟨by rw [hv.out]; rfl, hW'⟩
      · have hv : letterR s.data.toList = false := by rw [hz.out]; simp; omega
        replace hv := Lib.hid hv
        go_wp2
        go_ret
        exact ⟨by rw [hv.out]; rfl, hW'⟩
    · have hb2 : ((s.size : Int) != 2) = true := by simp; omega
      have hz : Hid (letterR s.data.toList = false) := by show _ = _; unfold letterR; rw [← size_len, if_neg h1, if_neg h2]
      clear h1 h2
      go_enter Tryd.func98, Tryd.ntmps98
      go_wp2
      go_ret
      exact ⟨by rw [hz.out]; rfl, Ext.refl _⟩

set_option maxHeartbeats 2000000 in
theorem rright_w (s : ByteArray) (w : World) (hs : s.size < 9223372036854775807) :
    Calls Tryd.prog 66 #[.string s] w fun e w' => e = .returned (.bool (rightL s.data.toList)) ∧ Ext w w' := by
  by_cases h0 : s.size = 0
  · have hb : ((s.size : Int) == 0) = true := by rw [beq_iff_eq]; omega
    have hz : Hid (rightL s.data.toList = false) := by
      show _ = _
      rw [show s.data.toList = [] from List.length_eq_zero_iff.1 (by rw [← size_len]; exact h0)]; rfl
    clear h0
    go_enter Tryd.func66, Tryd.ntmps66
    go_wp2
    go_ret
    exact ⟨by rw [hz.out]; rfl, Ext.refl _⟩
  · have hb : ((s.size : Int) == 0) = false := by rw [beq_eq_false_iff_ne]; omega
    have hne : s.data.toList.isEmpty = false := by
      rw [List.isEmpty_eq_false_iff]
      intro h; apply h0; rw [size_len, h]; rfl
    go_enter Tryd.func66, Tryd.ntmps66
    go_wp2_with fail
    refine (rcount_w s w hs).mono ?_; rintro e w1 ⟨rfl, e1⟩
    by_cases h16 : countL s.data.toList ≤ 16
    · go_wp2
      go_loopw [3] (fun i' wr => ∃ pos : Nat, pos ≤ s.size ∧ i' = .int .i64 pos ∧ Ext w1 wr ∧ Hid (okL true s.data.toList = okL (pos == 0) (s.data.toList.drop pos))) (fun i' _ => s.size - (intOf i').toNat)
      case atStart => exact ⟨0, by omega, rfl, Ext.refl _, rfl⟩
      case round =>
        obtain ⟨pos, hps, rfl, hbw, HK⟩ := hrel
        have fr := e1.trans hbw
        by_cases hp : pos < s.size
        · have HR := Lib.hid (right_round hp HK.out)
          have HB := Lib.hid (right_bad hp HK.out)
          have hex : (s.extract pos s.size).data.toList = s.data.toList.drop pos := Lib.extract_to_end s pos
          have hse : (s.extract pos s.size).size < 9223372036854775807 := by rw [size_len, hex, List.length_drop, ← size_len]; omega
          have CL := long_w (s.extract pos s.size) wr hse
          rw [hex] at CL
          have hned : s.data.toList.drop pos ≠ [] := by rw [Ne, List.drop_eq_nil_iff, ← size_len]; omega
          have hle := long_le (s.data.toList.drop pos)
          rw [List.length_drop, ← size_len] at hle
          by_cases hz : longL (s.data.toList.drop pos) = 0
          · have h2 := long_zero hned hz
            have hB := Lib.hid (HB.out (by rw [h2.1, h2.2]; simp))
            rw [hz] at CL
            clear hz hle h2 hex hse hned
            go_wp2_with fail
            refine CL.mono ?_; rintro e w2 ⟨rfl, h2⟩
            go_wp2
            go_ret
            exact ⟨by rw [hB.out]; rfl, fr.trans h2⟩
          · have hlt := letter_take hz
            have hmk := mark_take hz
            have hww := long_wide hz
            rw [hww] at HR
            have hxd : (s.extract pos (pos + longL (s.data.toList.drop pos))).data.toList = (s.data.toList.drop pos).take (longL (s.data.toList.drop pos)) := by rw [Lib.extract_data]; congr 1; omega
            have hxs : (s.extract pos (pos + longL (s.data.toList.drop pos))).size = longL (s.data.toList.drop pos) := by rw [size_len, hxd, List.length_take, List.length_drop, ← size_len]; omega
            rw [← hxd] at hlt hmk
            generalize longL (s.data.toList.drop pos) = n at *
            generalize runeL (s.data.toList.drop pos) = r at *
            have hn0 : ((n : Int) == 0) = false := by rw [beq_eq_false_iff_ne]; omega
            have hpn : pos + n ≤ s.size := by omega
            clear hex hse hned hww hxd
            obtain ⟨X, hXe⟩ : ∃ X, s.extract pos (pos + n) = X := ⟨_, rfl⟩
            rw [hXe] at hlt hmk hxs
            have hlet := letter_w X
            rw [hlt] at hlet
            have hXs : X.size < 9223372036854775807 := by omega
            have hmk' : markB r = ((X.data.toList == [45]) || (n == 1 && (decide (48 ≤ bAt X.data.toList 0) && decide (bAt X.data.toList 0 ≤ 57)))) := hmk.symm
            replace hmk' := Lib.hid hmk'
            clear hmk hlt
            by_cases hd : X.data.toList = [45]
            · have hm : Hid (markB r = true) := by show _ = _; rw [hmk'.out, hd]; rfl
              have hX45 : X = ⟨#[45]⟩ := by rw [mk_bytes hd]
              subst hX45
              clear hd hmk'
              go_wp2_with fail
              refine CL.mono ?_; rintro e w2 ⟨rfl, h2⟩
              clear CL
              go_wp2_with fail
              refine (hlet w2 hXs).mono ?_; rintro e w3 ⟨rfl, h3⟩
              have f3 := hbw.trans (h2.trans h3)
              clear hlet
              cases hl : letterB r with
              | true =>
                rw [hl, Bool.true_or] at HR
                have hst := HR.out rfl
                clear HB
                go_wp2
                go_roundw
                case rel => exact ⟨pos + n, by omega, by go_num, f3, hst.2⟩
                case measure => simp [intOf]; omega
              | false =>
                rw [hl, Bool.false_or, hm.out] at HR HB
                by_cases h0p : pos = 0
                · have hpz : ((pos : Int) == 0) = true := by rw [beq_iff_eq]; omega
                  have hB := Lib.hid (HB.out (by rw [h0p]; rfl))
                  clear h0p HR HB
                  go_wp2
                  go_ret
                  exact ⟨by rw [hB.out]; rfl, e1.trans f3⟩
                · have hpz : ((pos : Int) == 0) = false := by rw [beq_eq_false_iff_ne]; omega
                  have hpz' : (pos == 0) = false := by rw [beq_eq_false_iff_ne]; exact h0p
                  rw [hpz'] at HR HB
                  clear hpz' h0p
                  have hst := HR.out rfl
                  clear HB HR
                  go_wp2
                  go_roundw
                  case rel => exact ⟨pos + n, by omega, by go_num, f3, hst.2⟩
                  case measure => simp [intOf]; omega
            · have hdb : (X.data.toList == [45]) = false := by rw [beq_eq_false_iff_ne]; exact hd
              have hXt : (X.toList == [45]) = false := by rw [ByteArray.toList_eq]; exact hdb
              have hXt' : ¬ X.toList = [45] := by rw [ByteArray.toList_eq]; exact hd
              by_cases h1 : n = 1
              · have hn1 : ((n : Int) == 1) = true := by rw [beq_iff_eq]; omega
                have hX0 : 0 < X.size := by omega
                obtain ⟨a, ha⟩ : ∃ a : Int, ((X[0]'hX0).toNat : Int) = a := ⟨_, rfl⟩
                have hab : (bAt X.data.toList 0 : Int) = a := by rw [← sAt hX0]; exact ha
                by_cases c1 : 48 ≤ a
                · by_cases c2 : a ≤ 57
                  · have hm : Hid (markB r = true) := by show _ = _; rw [hmk'.out, hdb, h1, decide_eq_true (by omega), decide_eq_true (by omega)]; rfl
                    clear hab hd hdb hmk' h1
                    go_wp2_with fail
                    refine CL.mono ?_; rintro e w2 ⟨rfl, h2⟩
                    clear CL
                    go_wp2_with fail
                    refine (hlet w2 hXs).mono ?_; rintro e w3 ⟨rfl, h3⟩
                    have f3 := hbw.trans (h2.trans h3)
                    clear hlet
                    cases hl : letterB r with
                    | true =>
                      rw [hl, Bool.true_or] at HR
                      have hst := HR.out rfl
                      clear HB
                      go_wp2
                      go_roundw
                      case rel => exact ⟨pos + n, by omega, by go_num, f3, hst.2⟩
                      case measure => simp [intOf]; omega
                    | false =>
                      rw [hl, Bool.false_or, hm.out] at HR HB
                      by_cases h0p : pos = 0
                      · have hpz : ((pos : Int) == 0) = true := by rw [beq_iff_eq]; omega
                        have hB := Lib.hid (HB.out (by rw [h0p]; rfl))
                        clear h0p HR HB
                        go_wp2
                        go_ret
                        exact ⟨by rw [hB.out]; rfl, e1.trans f3⟩
                      · have hpz : ((pos : Int) == 0) = false := by rw [beq_eq_false_iff_ne]; omega
                        have hpz' : (pos == 0) = false := by rw [beq_eq_false_iff_ne]; exact h0p
                        rw [hpz'] at HR HB
                        clear hpz' h0p
                        have hst := HR.out rfl
                        clear HB HR
                        go_wp2
                        go_roundw
                        case rel => exact ⟨pos + n, by omega, by go_num, f3, hst.2⟩
                        case measure => simp [intOf]; omega
                  · have hm : Hid (markB r = false) := by show _ = _; rw [hmk'.out, hdb, h1, decide_eq_true (p := 48 ≤ bAt X.data.toList 0) (by omega), decide_eq_false (by omega)]; rfl
                    have c2b : decide (a ≤ 57) = false := decide_eq_false c2
                    clear hab hd hdb hmk' h1
                    go_wp2_with fail
                    refine CL.mono ?_; rintro e w2 ⟨rfl, h2⟩
                    clear CL
                    go_wp2_with fail
                    refine (hlet w2 hXs).mono ?_; rintro e w3 ⟨rfl, h3⟩
                    have f3 := hbw.trans (h2.trans h3)
                    clear hlet
                    cases hl : letterB r with
                    | true =>
                      rw [hl, Bool.true_or] at HR
                      have hst := HR.out rfl
                      clear HB
                      go_wp2
                      go_roundw
                      case rel => exact ⟨pos + n, by omega, by go_num, f3, hst.2⟩
                      case measure => simp [intOf]; omega
                    | false =>
                      rw [hl, Bool.false_or, hm.out] at HR HB
                      by_cases h0p : pos = 0
                      · have hpz : ((pos : Int) == 0) = true := by rw [beq_iff_eq]; omega
                        have hB := Lib.hid (HB.out (by rw [h0p]; rfl))
                        clear h0p HR HB
                        go_wp2
                        go_ret
                        exact ⟨by rw [hB.out]; rfl, e1.trans f3⟩
                      · have hpz : ((pos : Int) == 0) = false := by rw [beq_eq_false_iff_ne]; omega
                        have hpz' : (pos == 0) = false := by rw [beq_eq_false_iff_ne]; exact h0p
                        rw [hpz'] at HR HB
                        clear hpz' h0p
                        have hB := Lib.hid (HB.out rfl)
                        clear HB HR
                        go_wp2
                        go_ret
                        exact ⟨by rw [hB.out]; rfl, e1.trans f3⟩
                · have hm : Hid (markB r = false) := by show _ = _; rw [hmk'.out, hdb, h1, decide_eq_false (p := 48 ≤ bAt X.data.toList 0) (by omega)]; rfl
                  clear hab hd hdb hmk' h1
                  go_wp2_with fail
                  refine CL.mono ?_; rintro e w2 ⟨rfl, h2⟩
                  clear CL
                  go_wp2_with fail
                  refine (hlet w2 hXs).mono ?_; rintro e w3 ⟨rfl, h3⟩
                  have f3 := hbw.trans (h2.trans h3)
                  clear hlet
                  cases hl : letterB r with
                  | true =>
                    rw [hl, Bool.true_or] at HR
                    have hst := HR.out rfl
                    clear HB
                    go_wp2
                    go_roundw
                    case rel => exact ⟨pos + n, by omega, by go_num, f3, hst.2⟩
                    case measure => simp [intOf]; omega
                  | false =>
                    rw [hl, Bool.false_or, hm.out] at HR HB
                    by_cases h0p : pos = 0
                    · have hpz : ((pos : Int) == 0) = true := by rw [beq_iff_eq]; omega
                      have hB := Lib.hid (HB.out (by rw [h0p]; rfl))
                      clear h0p HR HB
                      go_wp2
                      go_ret
                      exact ⟨by rw [hB.out]; rfl, e1.trans f3⟩
                    · have hpz : ((pos : Int) == 0) = false := by rw [beq_eq_false_iff_ne]; omega
                      have hpz' : (pos == 0) = false := by rw [beq_eq_false_iff_ne]; exact h0p
                      rw [hpz'] at HR HB
                      clear hpz' h0p
                      have hB := Lib.hid (HB.out rfl)
                      clear HB HR
                      go_wp2
                      go_ret
                      exact ⟨by rw [hB.out]; rfl, e1.trans f3⟩
              · have hn1 : ((n : Int) == 1) = false := by rw [beq_eq_false_iff_ne]; omega
                have hm : Hid (markB r = false) := by show _ = _; rw [hmk'.out, hdb, show (n == 1) = false by rw [beq_eq_false_iff_ne]; exact h1]; rfl
                clear hd hdb hmk' h1
                go_wp2_with fail
                refine CL.mono ?_; rintro e w2 ⟨rfl, h2⟩
                clear CL
                go_wp2_with fail
                refine (hlet w2 hXs).mono ?_; rintro e w3 ⟨rfl, h3⟩
                have f3 := hbw.trans (h2.trans h3)
                clear hlet
                cases hl : letterB r with
                | true =>
                  rw [hl, Bool.true_or] at HR
                  have hst := HR.out rfl
                  clear HB
                  go_wp2
                  go_roundw
                  case rel => exact ⟨pos + n, by omega, by go_num, f3, hst.2⟩
                  case measure => simp [intOf]; omega
                | false =>
                  rw [hl, Bool.false_or, hm.out] at HR HB
                  by_cases h0p : pos = 0
                  · have hpz : ((pos : Int) == 0) = true := by rw [beq_iff_eq]; omega
                    have hB := Lib.hid (HB.out (by rw [h0p]; rfl))
                    clear h0p HR HB
                    go_wp2
                    go_ret
                    exact ⟨by rw [hB.out]; rfl, e1.trans f3⟩
                  · have hpz : ((pos : Int) == 0) = false := by rw [beq_eq_false_iff_ne]; omega
                    have hpz' : (pos == 0) = false := by rw [beq_eq_false_iff_ne]; exact h0p
                    rw [hpz'] at HR HB
                    clear hpz' h0p
                    have hB := Lib.hid (HB.out rfl)
                    clear HB HR
                    go_wp2
                    go_ret
                    exact ⟨by rw [hB.out]; rfl, e1.trans f3⟩
        · go_wp2
          go_ret
          obtain rfl : pos = s.size := by omega
          refine ⟨?_, fr⟩
          have := HK.out
          rw [List.drop_eq_nil_iff.2 (by rw [← size_len]; omega)] at this
          unfold rightL
          rw [this, hne, decide_eq_true h16]
          rfl
    · have hz : Hid (rightL s.data.toList = false) := by show _ = _; unfold rightL; rw [decide_eq_false h16, Bool.and_false]
      go_wp2
      go_ret
      exact ⟨by rw [hz.out]; rfl, e1⟩

end Go.Proofs.YtbkemhheombfcaaDoor

namespace Go.Dm
open Go Go.RowKit
theorem rightLab_long {L : List PairL} (h : ¬ L.length ≤ 8) : rightLab L = false := by
  rw [Bool.eq_false_iff, Ne, rightLab_iff]
  exact fun hh => h hh.1
theorem join_snocC {c : UInt8} : ∀ {ns : List Bs} (p : Bs), ns ≠ [] → Lib.join (ns ++ [p]) [c] = Lib.join ns [c] ++ c :: p
  | [], _, h => absurd rfl h
  | [q], p, _ => by simp [Lib.join_cons, Lib.joinTail]
  | q :: r :: ns, p, _ => by
    have e : ∀ l : List Bs, Lib.join (q :: r :: l) [c] = q ++ c :: Lib.join (r :: l) [c] := fun l => by simp [Lib.join_cons, Lib.joinTail]
    rw [List.cons_append, List.cons_append, e, ← List.cons_append, join_snocC p (by simp), e]
    simp
/-- A text of a few labels. -/
def shows (L : List PairL) : Bs := Lib.join (L.map showP) [44]
theorem shows_one (p : PairL) : shows [p] = showP p := Lib.join_one _ _
theorem shows_snoc {L : List PairL} (p : PairL) (h : L ≠ []) : shows (L ++ [p]) = shows L ++ 44 :: showP p := by
  unfold shows
  rw [List.map_append, List.map_cons, List.map_nil, join_snocC _ (by simpa using h)]
theorem take_snocL {L : List PairL} {k : Nat} (hk : k < L.length) : L.take (k + 1) = L.take k ++ [plAt L k] := by
  rw [List.take_succ_eq_append_getElem hk]
  simp [hk, plAt]
theorem shows_step0 {L : List PairL} (hk : 0 < L.length) : shows (L.take 1) = showP (plAt L 0) := by
  rw [take_snocL hk]; exact shows_one _
theorem shows_step {L : List PairL} {k : Nat} (h0 : 0 < k) (hk : k < L.length) : shows (L.take (k + 1)) = shows (L.take k) ++ 44 :: showP (plAt L k) := by
  rw [take_snocL hk, shows_snoc]
  intro e
  have := congrArg List.length e
  rw [List.length_take, List.length_nil] at this
  omega
theorem rightLab_at {l : List PairS} (h : rightLab (labL l) = true) {k : Nat} (hk : k < l.length) : (pairAt l k).1.size ≤ 32 ∧ (pairAt l k).2.size ≤ 32 := by
  have hm : pL (pairAt l k) ∈ labL l := List.mem_map_of_mem (pairAt_mem hk)
  have := rightLab_names h _ hm
  have h1 := right_len this.1
  have h2 := right_len this.2
  exact ⟨h1, h2⟩
end Go.Dm
namespace Go.Proofs.YtbkemhheombfcaaDoor
open Go.RowKit Go.Dm

theorem rright_fit (s : ByteArray) (w : World) (hs : s.size ≤ 140737488351232) :
    Calls Tryd.prog 66 #[.string s] w fun e w' => e = .returned (.bool (rightL s.data.toList)) ∧ Ext w w' := rright_w s w (by omega)

set_option maxHeartbeats 2000000 in
theorem mright_w (l : List PairS) (v : Value) (w : World) (hf : FitP l) (hx : Pairs w v l) :
    Calls Tryd.prog 29 #[v] w fun e w' => e = .returned (.bool (rightLab (labL l))) ∧ Ext w w' := by
  obtain ⟨q, cap, rfl, hcap, hcm⟩ := hx.shape
  by_cases h8 : l.length ≤ 8
  · have hall : (∀ j, j < l.length → okLab (labL l) j = true) → rightLab (labL l) = true := fun h => rightLab_iff.2 ⟨by rw [labL_len]; exact h8, fun j hj => h j (by rw [labL_len] at hj; exact hj)⟩
    replace hall := Lib.hid hall
    go_enter Tryd.func29, Tryd.ntmps29
    go_wp2
    go_loopw [3] (fun i' wr => ∃ k : Nat, k ≤ l.length ∧ i' = .int .i64 k ∧ Ext w wr ∧ Hid (∀ j, j < k → okLab (labL l) j = true)) (fun i' _ => l.length - (intOf i').toNat)
    case atStart => exact ⟨0, by omega, rfl, Ext.refl _, fun j hj => by omega⟩
    case round =>
      obtain ⟨k, hk, rfl, hb, HN⟩ := hrel
      by_cases hlt : k < l.length
      · obtain ⟨b, off, rfl, hbl, c0, c1⟩ := (hx.ext hb).at hlt
        have hfk := hf _ (pairAt_mem hlt)
        have hok : ∀ c1 c2 c3, rightL (pairAt l k).1.data.toList = c1 → rightL (pairAt l k).2.data.toList = c2 → (k == 0 || !leB (pairAt l k).1.data.toList (pairAt l (k-1)).1.data.toList) = c3 → okLab (labL l) k = (c1 && (c2 && c3)) := by
          intro c1 c2 c3 e1 e2 e3
          unfold okLab
          rw [labL_at l hlt, labL_at l (by omega : k - 1 < l.length), ← e1, ← e2, ← e3]
          rfl
        have hbad : okLab (labL l) k = false → rightLab (labL l) = false := fun h => rightLab_bad (by rw [labL_len]; exact hlt) h
        have hgood : okLab (labL l) k = true → ∀ j, j < k + 1 → okLab (labL l) j = true := fun h j hj => by
          rcases Nat.lt_succ_iff_lt_or_eq.1 hj with h' | rfl
          · exact HN.out j h'
          · exact h
        have C1 : ∀ c, rightL (pairAt l k).1.data.toList = c → Hid (∀ U, Ext wr U → Calls Tryd.prog 66 #[.string (pairAt l k).1] U fun e w' => e = .returned (.bool c) ∧ Ext U w') := by
          intro c h U hU
          rw [← h]
          exact rright_fit _ U hfk.1
        have C2 : ∀ c, rightL (pairAt l k).2.data.toList = c → Hid (∀ U, Ext wr U → Calls Tryd.prog 66 #[.string (pairAt l k).2] U fun e w' => e = .returned (.bool c) ∧ Ext U w') := by
          intro c h U hU
          rw [← h]
          exact rright_fit _ U hfk.2
        replace hok := Lib.hid hok
        replace hbad := Lib.hid hbad
        replace hgood := Lib.hid hgood
        cases h1 : rightL (pairAt l k).1.data.toList with
        | false =>
          replace C1 := C1 _ h1
          replace C2 := C2 _ rfl
          have hB := Lib.hid (hbad.out (hok.out _ _ _ h1 rfl rfl))
          clear h1
          go_wp2_with fail
          refine Dm.wp_region_grow (by kernel_rfl) (by kernel_rfl) ?_
          repeat (go_big_quiet_step (first
            | (go_at_call 66; with_reducible exact Calls.quietE (C1.out _ (ext_grow _ _)))
            | (go_at_call 66; with_reducible exact Calls.quietE (C2.out _ (ext_grow _ _)))))
          refine wpQuiet_nil ?_
          intro U hU
          have hU' := hb.trans hU
          go_wp2
          go_ret
          exact ⟨by rw [hB.out]; rfl, hU'⟩
        | true =>
          replace C1 := C1 _ h1
          cases h2 : rightL (pairAt l k).2.data.toList with
          | false =>
            replace C2 := C2 _ h2
            have hB := Lib.hid (hbad.out (hok.out _ _ _ h1 h2 rfl))
            clear h1 h2
            go_wp2_with fail
            refine Dm.wp_region_grow (by kernel_rfl) (by kernel_rfl) ?_
            repeat (go_big_quiet_step (first
              | (go_at_call 66; with_reducible exact Calls.quietE (C1.out _ (ext_grow _ _)))
              | (go_at_call 66; with_reducible exact Calls.quietE (C2.out _ (ext_grow _ _)))))
            refine wpQuiet_nil ?_
            intro U hU
            have hU' := hb.trans hU
            go_wp2
            go_ret
            exact ⟨by rw [hB.out]; rfl, hU'⟩
          | true =>
            replace C2 := C2 _ h2
            by_cases h0 : k = 0
            · subst h0
              have hG := Lib.hid (hgood.out (hok.out _ _ true h1 h2 rfl))
              clear h1 h2 hok hbad hgood
              rw [Nat.zero_mul, Nat.add_zero] at c0 c1
              go_wp2_with fail
              refine Dm.wp_region_grow (by kernel_rfl) (by kernel_rfl) ?_
              repeat (go_big_quiet_step (first
                | (go_at_call 66; with_reducible exact Calls.quietE (C1.out _ (ext_grow _ _)))
                | (go_at_call 66; with_reducible exact Calls.quietE (C2.out _ (ext_grow _ _)))))
              refine wpQuiet_nil ?_
              intro U hU
              have hU' := hb.trans hU
              go_wp2
              go_roundw
              case rel => exact ⟨1, by omega, rfl, hU', hG⟩
              case measure => simp [intOf]; omega
            · obtain ⟨j, rfl⟩ : ∃ j, k = j + 1 := ⟨k - 1, by omega⟩
              obtain ⟨d0, _⟩ := (hx.ext hb).cells (k := j) (by omega)
              have hj0 : decide ((0 : Int) < (j : Int) + 1) = true := decide_eq_true (by omega)
              have hle : ∀ c c', Op.bytesLess (pairAt l (j + 1)).1.toList (pairAt l j).1.toList = c → ((pairAt l (j + 1)).1.toList == (pairAt l j).1.toList) = c' → (j + 1 == 0 || !leB (pairAt l (j + 1)).1.data.toList (pairAt l (j + 1 - 1)).1.data.toList) = !(c || c') := by
                intro c c' e1 e2
                rw [ByteArray.toList_eq, ByteArray.toList_eq] at e1 e2
                rw [← e1, ← e2]
                rfl
              cases q1 : Op.bytesLess (pairAt l (j + 1)).1.toList (pairAt l j).1.toList with
              | true =>
                have hB := Lib.hid (hbad.out (hok.out _ _ _ h1 h2 (hle _ _ q1 rfl)))
                clear h1 h2 hok hbad hgood hle
                go_wp2_with fail
                refine Dm.wp_region_grow (by kernel_rfl) (by kernel_rfl) ?_
                repeat (go_big_quiet_step (first
                  | (go_at_call 66; with_reducible exact Calls.quietE (C1.out _ (ext_grow _ _)))
                  | (go_at_call 66; with_reducible exact Calls.quietE (C2.out _ (ext_grow _ _)))))
                refine wpQuiet_nil ?_
                intro U hU
                have hU' := hb.trans hU
                go_wp2
                go_ret
                exact ⟨by rw [hB.out]; rfl, hU'⟩
              | false =>
                cases q2 : ((pairAt l (j + 1)).1.toList == (pairAt l j).1.toList) with
                | true =>
                  have hB := Lib.hid (hbad.out (hok.out _ _ _ h1 h2 (hle _ _ q1 q2)))
                  clear h1 h2 hok hbad hgood hle
                  go_wp2_with fail
                  refine Dm.wp_region_grow (by kernel_rfl) (by kernel_rfl) ?_
                  repeat (go_big_quiet_step (first
                    | (go_at_call 66; with_reducible exact Calls.quietE (C1.out _ (ext_grow _ _)))
                    | (go_at_call 66; with_reducible exact Calls.quietE (C2.out _ (ext_grow _ _)))))
                  refine wpQuiet_nil ?_
                  intro U hU
                  have hU' := hb.trans hU
                  go_wp2
                  go_ret
                  exact ⟨by rw [hB.out]; rfl, hU'⟩
                | false =>
                  have hG := Lib.hid (hgood.out (hok.out _ _ _ h1 h2 (hle _ _ q1 q2)))
                  clear h1 h2 hok hbad hgood hle
                  go_wp2_with fail
                  refine Dm.wp_region_grow (by kernel_rfl) (by kernel_rfl) ?_
                  repeat (go_big_quiet_step (first
                    | (go_at_call 66; with_reducible exact Calls.quietE (C1.out _ (ext_grow _ _)))
                    | (go_at_call 66; with_reducible exact Calls.quietE (C2.out _ (ext_grow _ _)))))
                  refine wpQuiet_nil ?_
                  intro U hU
                  have hU' := hb.trans hU
                  go_wp2
                  go_roundw
                  case rel => exact ⟨j + 1 + 1, by omega, by go_num, hU', hG⟩
                  case measure => simp [intOf]; omega
      · obtain rfl : k = l.length := by omega
        have hz := Lib.hid (hall.out HN.out)
        go_wp2
        go_ret
        exact ⟨by rw [hz.out]; rfl, hb⟩
  · have hz := Lib.hid (rightLab_long (L := labL l) (by rw [labL_len]; exact h8))
    go_enter Tryd.func29, Tryd.ntmps29
    go_wp2
    go_ret
    exact ⟨by rw [hz.out]; rfl, Ext.refl _⟩

set_option maxHeartbeats 1000000 in
theorem mfind_w (l : List PairS) (key : ByteArray) (v : Value) (w : World) (hm : l.length ≤ 35184372088832) (hx : Pairs w v l) :
    Calls Tryd.prog 23 #[v, .string key] w fun e w' => e = .returned (.tuple #[.string (findB l key).1, .bool (findB l key).2]) ∧ Ext w w' := by
  obtain ⟨q, cap, rfl, _, _⟩ := hx.shape
  have hhit : ∀ k, k < l.length → (∀ j, j < k → keyIs key (pairAt l j) = false) → keyIs key (pairAt l k) = true → findB l key = ((pairAt l k).2, true) := fun k hk h1 h2 => by
    unfold findB; rw [firstP_hit noPair hk h1 h2]
  have hmiss : (∀ j, j < l.length → keyIs key (pairAt l j) = false) → findB l key = (⟨#[]⟩, false) := fun h => by
    unfold findB; rw [firstP_miss noPair h]
  generalize findB l key = F at *
  replace hhit := Lib.hid hhit
  replace hmiss := Lib.hid hmiss
  go_enter Tryd.func23, Tryd.ntmps23
  go_wp2
  go_loopw [6] (fun i' wr => ∃ k : Nat, k ≤ l.length ∧ i' = .int .i64 k ∧ Ext w wr ∧ Hid (∀ j, j < k → keyIs key (pairAt l j) = false)) (fun i' _ => l.length - (intOf i').toNat)
  case atStart => exact ⟨0, by omega, rfl, Ext.refl _, fun j hj => by omega⟩
  case round =>
    obtain ⟨k, hk, rfl, hb, HN⟩ := hrel
    by_cases hlt : k < l.length
    · obtain ⟨b, off, rfl, hbl, c0, c1⟩ := (hx.ext hb).at hlt
      cases hkey : keyIs key (pairAt l k) with
      | true =>
        have hz := Lib.hid (hhit.out k hlt HN.out hkey)
        have hkb : ((pairAt l k).1.toList == key.toList) = true := hkey
        clear hkey
        go_wp2
        go_ret2
        exact ⟨by rw [hz.out]; rfl, hb⟩
      | false =>
        have hkb : ((pairAt l k).1.toList == key.toList) = false := hkey
        have hN2 : Hid (∀ j, j < k + 1 → keyIs key (pairAt l j) = false) := fun j hj => by
          rcases Nat.lt_succ_iff_lt_or_eq.1 hj with h | rfl
          · exact HN.out j h
          · exact hkey
        clear hkey
        go_wp2
        go_roundw
        case rel => exact ⟨k + 1, by omega, by go_num, hb, hN2⟩
        case measure => simp [intOf]; omega
    · obtain rfl : k = l.length := by omega
      have hz := Lib.hid (hmiss.out HN.out)
      go_wp2
      go_ret2
      exact ⟨by rw [hz.out]; rfl, hb⟩

end Go.Proofs.YtbkemhheombfcaaDoor
