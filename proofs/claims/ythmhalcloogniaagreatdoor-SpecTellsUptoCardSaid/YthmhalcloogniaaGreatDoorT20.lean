/- Texts one behind the other: Chapter 2: the walks of the document's Count, letter, Right; Chapter 4: the walks of the document's Right, Find, Put, Text; Chapter 2: the walks of the document's Parts, Ups, Under. -/
import Derived.Test.YthmhalcloogniaaGreatDoorT7
import Derived.Test.YthmhalcloogniaaGreatDoorT10
import Derived.IntWalk
import Derived.Test.YthmhalcloogniaaGreatDoorT12
import Derived.Test.YthmhalcloogniaaGreatDoorT19
import Derived.Test.YthmhalcloogniaaGreatDoorT4
import Derived.OwnWalk
namespace Go.Dm
open Go Go.RowKit

theorem count_round {l : Bs} {at' k : Nat} (h : at' < l.length) (hk : countL l = k + countL (l.drop at')) : countL l = (k + 1) + countL (l.drop (at' + wideL (l.drop at'))) ∧ at' + wideL (l.drop at') ≤ l.length ∧ max (longL (l.drop at')) 1 = wideL (l.drop at') ∧ 1 ≤ wideL (l.drop at') := by
  have hne : l.drop at' ≠ [] := by rw [Ne, List.drop_eq_nil_iff]; omega
  have h1 := wideL_le hne
  rw [List.length_drop] at h1
  refine ⟨?_, by omega, long_max hne, wideL_pos _⟩
  rw [hk, countL_step hne, List.drop_drop]; omega
end Go.Dm
namespace Go.Proofs.YthmhalcloogniaaGreatDoor
open Go.RowKit Go.Dm

set_option maxHeartbeats 1000000 in
theorem rcount_w (s : ByteArray) (w : World) (hs : s.size < 9223372036854775807) :
    Calls Tryz.prog 123 #[.string s] w fun e w' => e = .returned (.int .i64 (countL s.data.toList)) ∧ Ext w w' := by
  go_enter Tryz.func123, Tryz.ntmps123
  go_wp2
  go_loopw [3, 4] (fun n i' wr => ∃ (at' k : Nat), at' ≤ s.size ∧ k ≤ at' ∧ i' = .int .i64 at' ∧ n = .int .i64 k ∧ Ext w wr ∧ Hid (countL s.data.toList = k + countL (s.data.toList.drop at'))) (fun _ i' _ => s.size - (intOf i').toNat)
  case atStart => exact ⟨0, 0, by omega, by omega, rfl, rfl, Ext.refl _, by show _ = _; rw [List.drop_zero, Nat.zero_add]⟩
  case round =>
    obtain ⟨at', k, ha, hk, rfl, rfl, hb, HK⟩ := hrel
    by_cases hlt : at' < s.size
    · obtain ⟨r1, r2, r3, r4⟩ := count_round (by rw [← size_len]; exact hlt) HK.out
      have hex : (s.extract at' s.size).data.toList = s.data.toList.drop at' := Lib.extract_to_end s at'
      have hse : (s.extract at' s.size).size < 9223372036854775807 := by rw [size_len, hex, List.length_drop, ← size_len]; omega
      rw [← size_len] at r2
      rw [← hex] at r1 r2 r3 r4
      have r3 : max (longL (s.extract at' s.size).data.toList : Int) 1 = (wideL (s.extract at' s.size).data.toList : Int) := by omega
      have C := long_w (s.extract at' s.size) wr hse
      replace r1 := Lib.hid r1
      clear hex hse
      generalize longL (s.extract at' s.size).data.toList = L at *
      generalize wideL (s.extract at' s.size).data.toList = W at *
      go_wp2_with fail
      refine C.mono ?_; rintro e w2 ⟨rfl, h2⟩
      clear C
      go_wp2
      go_roundw
      case rel => exact ⟨at' + W, k + 1, by omega, by omega, by go_num, by go_num, hb.trans h2, r1⟩
      case measure => simp [intOf]; omega
    · go_wp2
      go_ret
      obtain rfl : at' = s.size := by omega
      have := HK.out
      rw [List.drop_eq_nil_iff.2 (by rw [← size_len]; omega), countL_nil, Nat.add_zero] at this
      exact ⟨by rw [this]; rfl, hb⟩

theorem letterR_one {s : ByteArray} (h1 : s.size = 1) : letterR s.data.toList = (decide (97 ≤ bAt s.data.toList 0) && decide (bAt s.data.toList 0 ≤ 122)) := by
  unfold letterR; rw [← size_len, if_pos h1]

set_option maxHeartbeats 1000000 in
theorem letter_w (s : ByteArray) (w : World) (hs : s.size < 9223372036854775807) :
    Calls Tryz.prog 125 #[.string s] w fun e w' => e = .returned (.bool (letterR s.data.toList)) ∧ Ext w w' := by
  by_cases h1 : s.size = 1
  · have hb : ((s.size : Int) == 1) = true := by rw [beq_iff_eq]; omega
    have h0 : 0 < s.size := by omega
    obtain ⟨a, ha⟩ : ∃ a : Int, ((s[0]'h0).toNat : Int) = a := ⟨_, rfl⟩
    have hz : Hid (letterR s.data.toList = (decide (97 ≤ a) && decide (a ≤ 122))) := by
      show _ = _
      rw [letterR_one h1, ← ha, sAt]
      congr 1 <;> exact decide_eq_decide.2 (by omega)
    clear h1
    by_cases c : 97 ≤ a
    · rw [decide_eq_true c] at hz
      go_enter Tryz.func125, Tryz.ntmps125
      go_wp2
      go_ret
      exact ⟨by rw [hz.out]; rfl, Ext.refl _⟩
    · rw [decide_eq_false c] at hz
      go_enter Tryz.func125, Tryz.ntmps125
      go_wp2
      go_ret
      exact ⟨by rw [hz.out]; rfl, Ext.refl _⟩
  · have hb : ((s.size : Int) == 1) = false := by rw [beq_eq_false_iff_ne]; omega
    by_cases h2 : s.size = 2
    · have hb2 : ((s.size : Int) != 2) = false := by simp; omega
      have h0 : 0 < s.size := by omega
      have h10 : 1 < s.size := by omega
      obtain ⟨a, ha⟩ : ∃ a : Int, ((s[0]'h0).toNat : Int) = a := ⟨_, rfl⟩
      obtain ⟨b, hb'⟩ : ∃ b : Int, ((s[1]'h10).toNat : Int) = b := ⟨_, rfl⟩
      have ha0 : 0 ≤ a ∧ a ≤ 255 := by rw [← ha, sAt]; have := bAt_lt s.data.toList 0; omega
      have hb0 : 0 ≤ b ∧ b ≤ 255 := by rw [← hb', sAt]; have := bAt_lt s.data.toList 1; omega
      have hz : Hid (letterR s.data.toList = ((decide (945 ≤ a % 32 * 64 + b % 64) && decide (a % 32 * 64 + b % 64 ≤ 969)) || (decide (1072 ≤ a % 32 * 64 + b % 64) && decide (a % 32 * 64 + b % 64 ≤ 1103)))) := by
        show _ = _
        unfold letterR
        rw [← size_len, if_neg h1, if_pos h2, ← ha, ← hb', sAt, sAt]
        congr 1 <;> congr 1 <;> exact decide_eq_decide.2 (by omega)
      clear h1 h2
      obtain ⟨p, hp⟩ : ∃ p : Int, a % 32 = p := ⟨_, rfl⟩
      obtain ⟨q, hq⟩ : ∃ q : Int, b % 64 = q := ⟨_, rfl⟩
      have hp' : a.tmod 32 = p := by rw [Int.tmod_eq_emod_of_nonneg ha0.1]; exact hp
      have hq' : b.tmod 64 = q := by rw [Int.tmod_eq_emod_of_nonneg hb0.1]; exact hq
      have hpb : 0 ≤ p ∧ p ≤ 31 := by omega
      have hqb : 0 ≤ q ∧ q ≤ 63 := by omega
      rw [hp, hq] at hz
      obtain ⟨n, hn⟩ : ∃ n : Int, p * 64 + q = n := ⟨_, rfl⟩
      rw [hn] at hz
      have hw1 : IntKind.i64.wrap (p * 64) = p * 64 := IntWalk.i64_in _ (by omega)
      have hw2 : IntKind.i64.wrap (p * 64 + q) = n := by rw [← hn]; exact IntWalk.i64_in _ (by omega)
      go_enter Tryz.func125, Tryz.ntmps125
      go_wp2_with fail
      refine Dm.wp_region_grow (by kernel_rfl) (by kernel_rfl) ?_
      repeat (go_big_quiet_step (fail))
      refine wpQuiet_nil ?_
      intro W hW'
      clear hw1 hw2 hn hp hq hp' hq' ha hb'
      by_cases c1 : 945 ≤ n
      · by_cases c2 : n ≤ 969
        · have hv : letterR s.data.toList = true := by rw [hz.out]; simp; omega
          replace hv := Lib.hid hv
          go_wp2
          go_ret
          exact ⟨by rw [hv.out]; rfl, hW'⟩
        · by_cases c3 : 1072 ≤ n
          · by_cases c4 : n ≤ 1103
            · have hv : letterR s.data.toList = true := by rw [hz.out]; simp; omega
              replace hv := Lib.hid hv
              go_wp2
              go_ret
              exact ⟨by rw [hv.out]; rfl, hW'⟩
            · have hv : letterR s.data.toList = false := by rw [hz.out]; simp; omega
              replace hv := Lib.hid hv
              go_wp2
              go_ret
              exact ⟨by rw [hv.out]; rfl, hW'⟩
          · have hv : letterR s.data.toList = false := by rw [hz.out]; simp; omega
            replace hv := Lib.hid hv
            go_wp2
            go_ret
            exact ⟨by rw [hv.out]; rfl, hW'⟩
      · have hv : letterR s.data.toList = false := by rw [hz.out]; simp; omega
        replace hv := Lib.hid hv
        go_wp2
        go_ret
        exact ⟨by rw [hv.out]; rfl, hW'⟩
    · have hb2 : ((s.size : Int) != 2) = true := by simp; omega
      have hz : Hid (letterR s.data.toList = false) := by show _ = _; unfold letterR; rw [← size_len, if_neg h1, if_neg h2]
      clear h1 h2
      go_enter Tryz.func125, Tryz.ntmps125
      go_wp2
      go_ret
      exact ⟨by rw [hz.out]; rfl, Ext.refl _⟩

set_option maxHeartbeats 2000000 in
theorem rright_w (s : ByteArray) (w : World) (hs : s.size < 9223372036854775807) :
    Calls Tryz.prog 93 #[.string s] w fun e w' => e = .returned (.bool (rightL s.data.toList)) ∧ Ext w w' := by
  by_cases h0 : s.size = 0
  · have hb : ((s.size : Int) == 0) = true := by rw [beq_iff_eq]; omega
    have hz : Hid (rightL s.data.toList = false) := by
      show _ = _
      rw [show s.data.toList = [] from List.length_eq_zero_iff.1 (by rw [← size_len]; exact h0)]; rfl
    clear h0
    go_enter Tryz.func93, Tryz.ntmps93
    go_wp2
    go_ret
    exact ⟨by rw [hz.out]; rfl, Ext.refl _⟩
  · have hb : ((s.size : Int) == 0) = false := by rw [beq_eq_false_iff_ne]; omega
    have hne : s.data.toList.isEmpty = false := by
      rw [List.isEmpty_eq_false_iff]
      intro h; apply h0; rw [size_len, h]; rfl
    go_enter Tryz.func93, Tryz.ntmps93
    go_wp2_with fail
    refine (rcount_w s w hs).mono ?_; rintro e w1 ⟨rfl, e1⟩
    by_cases h16 : countL s.data.toList ≤ 16
    · go_wp2
      go_loopw [3] (fun i' wr => ∃ pos : Nat, pos ≤ s.size ∧ i' = .int .i64 pos ∧ Ext w1 wr ∧ Hid (okL true s.data.toList = okL (pos == 0) (s.data.toList.drop pos))) (fun i' _ => s.size - (intOf i').toNat)
      case atStart => exact ⟨0, by omega, rfl, Ext.refl _, rfl⟩
      case round =>
        obtain ⟨pos, hps, rfl, hbw, HK⟩ := hrel
        have fr := e1.trans hbw
        by_cases hp : pos < s.size
        · have HR := Lib.hid (right_round hp HK.out)
          have HB := Lib.hid (right_bad hp HK.out)
          have hex : (s.extract pos s.size).data.toList = s.data.toList.drop pos := Lib.extract_to_end s pos
          have hse : (s.extract pos s.size).size < 9223372036854775807 := by rw [size_len, hex, List.length_drop, ← size_len]; omega
          have CL := long_w (s.extract pos s.size) wr hse
          rw [hex] at CL
          have hned : s.data.toList.drop pos ≠ [] := by rw [Ne, List.drop_eq_nil_iff, ← size_len]; omega
          have hle := long_le (s.data.toList.drop pos)
          rw [List.length_drop, ← size_len] at hle
          by_cases hz : longL (s.data.toList.drop pos) = 0
          · have h2 := long_zero hned hz
            have hB := Lib.hid (HB.out (by rw [h2.1, h2.2]; simp))
            rw [hz] at CL
            clear hz hle h2 hex hse hned
            go_wp2_with fail
            refine CL.mono ?_; rintro e w2 ⟨rfl, h2⟩
            go_wp2
            go_ret
            exact ⟨by rw [hB.out]; rfl, fr.trans h2⟩
          · have hlt := letter_take hz
            have hmk := mark_take hz
            have hww := long_wide hz
            rw [hww] at HR
            have hxd : (s.extract pos (pos + longL (s.data.toList.drop pos))).data.toList = (s.data.toList.drop pos).take (longL (s.data.toList.drop pos)) := by rw [Lib.extract_data]; congr 1; omega
            have hxs : (s.extract pos (pos + longL (s.data.toList.drop pos))).size = longL (s.data.toList.drop pos) := by rw [size_len, hxd, List.length_take, List.length_drop, ← size_len]; omega
            rw [← hxd] at hlt hmk
            generalize longL (s.data.toList.drop pos) = n at *
            generalize runeL (s.data.toList.drop pos) = r at *
            have hn0 : ((n : Int) == 0) = false := by rw [beq_eq_false_iff_ne]; omega
            have hpn : pos + n ≤ s.size := by omega
            clear hex hse hned hww hxd
            obtain ⟨X, hXe⟩ : ∃ X, s.extract pos (pos + n) = X := ⟨_, rfl⟩
            rw [hXe] at hlt hmk hxs
            have hlet := letter_w X
            rw [hlt] at hlet
            have hXs : X.size < 9223372036854775807 := by omega
            have hmk' : markB r = ((X.data.toList == [45]) || (n == 1 && (decide (48 ≤ bAt X.data.toList 0) && decide (bAt X.data.toList 0 ≤ 57)))) := hmk.symm
            replace hmk' := Lib.hid hmk'
            clear hmk hlt
            by_cases hd : X.data.toList = [45]
            · have hm : Hid (markB r = true) := by show _ = _; rw [hmk'.out, hd]; rfl
              have hX45 : X = ⟨#[45]⟩ := by rw [mk_bytes hd]
              subst hX45
              clear hd hmk'
              go_wp2_with fail
              refine CL.mono ?_; rintro e w2 ⟨rfl, h2⟩
              clear CL
              go_wp2_with fail
              refine (hlet w2 hXs).mono ?_; rintro e w3 ⟨rfl, h3⟩
              have f3 := hbw.trans (h2.trans h3)
              clear hlet
              cases hl : letterB r with
              | true =>
                rw [hl, Bool.true_or] at HR
                have hst := HR.out rfl
                clear HB
                go_wp2
                go_roundw
                case rel => exact ⟨pos + n, by omega, by go_num, f3, hst.2⟩
                case measure => simp [intOf]; omega
              | false =>
                rw [hl, Bool.false_or, hm.out] at HR HB
                by_cases h0p : pos = 0
                · have hpz : ((pos : Int) == 0) = true := by rw [beq_iff_eq]; omega
                  have hB := Lib.hid (HB.out (by rw [h0p]; rfl))
                  clear h0p HR HB
                  go_wp2
                  go_ret
                  exact ⟨by rw [hB.out]; rfl, e1.trans f3⟩
                · have hpz : ((pos : Int) == 0) = false := by rw [beq_eq_false_iff_ne]; omega
                  have hpz' : (pos == 0) = false := by rw [beq_eq_false_iff_ne]; exact h0p
                  rw [hpz'] at HR HB
                  clear hpz' h0p
                  have hst := HR.out rfl
                  clear HB HR
                  go_wp2
                  go_roundw
                  case rel => exact ⟨pos + n, by omega, by go_num, f3, hst.2⟩
                  case measure => simp [intOf]; omega
            · have hdb : (X.data.toList == [45]) = false := by rw [beq_eq_false_iff_ne]; exact hd
              have hXt : (X.toList == [45]) = false := by rw [ByteArray.toList_eq]; exact hdb
              have hXt' : ¬ X.toList = [45] := by rw [ByteArray.toList_eq]; exact hd
              by_cases h1 : n = 1
              · have hn1 : ((n : Int) == 1) = true := by rw [beq_iff_eq]; omega
                have hX0 : 0 < X.size := by omega
                obtain ⟨a, ha⟩ : ∃ a : Int, ((X[0]'hX0).toNat : Int) = a := ⟨_, rfl⟩
                have hab : (bAt X.data.toList 0 : Int) = a := by rw [← sAt hX0]; exact ha
                by_cases c1 : 48 ≤ a
                · by_cases c2 : a ≤ 57
                  · have hm : Hid (markB r = true) := by show _ = _; rw [hmk'.out, hdb, h1, decide_eq_true (by omega), decide_eq_true (by omega)]; rfl
                    clear hab hd hdb hmk' h1
                    go_wp2_with fail
                    refine CL.mono ?_; rintro e w2 ⟨rfl, h2⟩
                    clear CL
                    go_wp2_with fail
                    refine (hlet w2 hXs).mono ?_; rintro e w3 ⟨rfl, h3⟩
                    have f3 := hbw.trans (h2.trans h3)
                    clear hlet
                    cases hl : letterB r with
                    | true =>
                      rw [hl, Bool.true_or] at HR
                      have hst := HR.out rfl
                      clear HB
                      go_wp2
                      go_roundw
                      case rel => exact ⟨pos + n, by omega, by go_num, f3, hst.2⟩
                      case measure => simp [intOf]; omega
                    | false =>
                      rw [hl, Bool.false_or, hm.out] at HR HB
                      by_cases h0p : pos = 0
                      · have hpz : ((pos : Int) == 0) = true := by rw [beq_iff_eq]; omega
                        have hB := Lib.hid (HB.out (by rw [h0p]; rfl))
                        clear h0p HR HB
                        go_wp2
                        go_ret
                        exact ⟨by rw [hB.out]; rfl, e1.trans f3⟩
                      · have hpz : ((pos : Int) == 0) = false := by rw [beq_eq_false_iff_ne]; omega
                        have hpz' : (pos == 0) = false := by rw [beq_eq_false_iff_ne]; exact h0p
                        rw [hpz'] at HR HB
                        clear hpz' h0p
                        have hst := HR.out rfl
                        clear HB HR
                        go_wp2
                        go_roundw
                        case rel => exact ⟨pos + n, by omega, by go_num, f3, hst.2⟩
                        case measure => simp [intOf]; omega
                  · have hm : Hid (markB r = false) := by show _ = _; rw [hmk'.out, hdb, h1, decide_eq_true (p := 48 ≤ bAt X.data.toList 0) (by omega), decide_eq_false (by omega)]; rfl
                    have c2b : decide (a ≤ 57) = false := decide_eq_false c2
                    clear hab hd hdb hmk' h1
                    go_wp2_with fail
                    refine CL.mono ?_; rintro e w2 ⟨rfl, h2⟩
                    clear CL
                    go_wp2_with fail
                    refine (hlet w2 hXs).mono ?_; rintro e w3 ⟨rfl, h3⟩
                    have f3 := hbw.trans (h2.trans h3)
                    clear hlet
                    cases hl : letterB r with
                    | true =>
                      rw [hl, Bool.true_or] at HR
                      have hst := HR.out rfl
                      clear HB
                      go_wp2
                      go_roundw
                      case rel => exact ⟨pos + n, by omega, by go_num, f3, hst.2⟩
                      case measure => simp [intOf]; omega
                    | false =>
                      rw [hl, Bool.false_or, hm.out] at HR HB
                      by_cases h0p : pos = 0
                      · have hpz : ((pos : Int) == 0) = true := by rw [beq_iff_eq]; omega
                        have hB := Lib.hid (HB.out (by rw [h0p]; rfl))
                        clear h0p HR HB
                        go_wp2
                        go_ret
                        exact ⟨by rw [hB.out]; rfl, e1.trans f3⟩
                      · have hpz : ((pos : Int) == 0) = false := by rw [beq_eq_false_iff_ne]; omega
                        have hpz' : (pos == 0) = false := by rw [beq_eq_false_iff_ne]; exact h0p
                        rw [hpz'] at HR HB
                        clear hpz' h0p
                        have hB := Lib.hid (HB.out rfl)
                        clear HB HR
                        go_wp2
                        go_ret
                        exact ⟨by rw [hB.out]; rfl, e1.trans f3⟩
                · have hm : Hid (markB r = false) := by show _ = _; rw [hmk'.out, hdb, h1, decide_eq_false (p := 48 ≤ bAt X.data.toList 0) (by omega)]; rfl
                  clear hab hd hdb hmk' h1
                  go_wp2_with fail
                  refine CL.mono ?_; rintro e w2 ⟨rfl, h2⟩
                  clear CL
                  go_wp2_with fail
                  refine (hlet w2 hXs).mono ?_; rintro e w3 ⟨rfl, h3⟩
                  have f3 := hbw.trans (h2.trans h3)
                  clear hlet
                  cases hl : letterB r with
                  | true =>
                    rw [hl, Bool.true_or] at HR
                    have hst := HR.out rfl
                    clear HB
                    go_wp2
                    go_roundw
                    case rel => exact ⟨pos + n, by omega, by go_num, f3, hst.2⟩
                    case measure => simp [intOf]; omega
                  | false =>
                    rw [hl, Bool.false_or, hm.out] at HR HB
                    by_cases h0p : pos = 0
                    · have hpz : ((pos : Int) == 0) = true := by rw [beq_iff_eq]; omega
                      have hB := Lib.hid (HB.out (by rw [h0p]; rfl))
                      clear h0p HR HB
                      go_wp2
                      go_ret
                      exact ⟨by rw [hB.out]; rfl, e1.trans f3⟩
                    · have hpz : ((pos : Int) == 0) = false := by rw [beq_eq_false_iff_ne]; omega
                      have hpz' : (pos == 0) = false := by rw [beq_eq_false_iff_ne]; exact h0p
                      rw [hpz'] at HR HB
                      clear hpz' h0p
                      have hB := Lib.hid (HB.out rfl)
                      clear HB HR
                      go_wp2
                      go_ret
                      exact ⟨by rw [hB.out]; rfl, e1.trans f3⟩
              · have hn1 : ((n : Int) == 1) = false := by rw [beq_eq_false_iff_ne]; omega
                have hm : Hid (markB r = false) := by show _ = _; rw [hmk'.out, hdb, show (n == 1) = false by rw [beq_eq_false_iff_ne]; exact h1]; rfl
                clear hd hdb hmk' h1
                go_wp2_with fail
                refine CL.mono ?_; rintro e w2 ⟨rfl, h2⟩
                clear CL
                go_wp2_with fail
                refine (hlet w2 hXs).mono ?_; rintro e w3 ⟨rfl, h3⟩
                have f3 := hbw.trans (h2.trans h3)
                clear hlet
                cases hl : letterB r with
                | true =>
                  rw [hl, Bool.true_or] at HR
                  have hst := HR.out rfl
                  clear HB
                  go_wp2
                  go_roundw
                  case rel => exact ⟨pos + n, by omega, by go_num, f3, hst.2⟩
                  case measure => simp [intOf]; omega
                | false =>
                  rw [hl, Bool.false_or, hm.out] at HR HB
                  by_cases h0p : pos = 0
                  · have hpz : ((pos : Int) == 0) = true := by rw [beq_iff_eq]; omega
                    have hB := Lib.hid (HB.out (by rw [h0p]; rfl))
                    clear h0p HR HB
                    go_wp2
                    go_ret
                    exact ⟨by rw [hB.out]; rfl, e1.trans f3⟩
                  · have hpz : ((pos : Int) == 0) = false := by rw [beq_eq_false_iff_ne]; omega
                    have hpz' : (pos == 0) = false := by rw [beq_eq_false_iff_ne]; exact h0p
                    rw [hpz'] at HR HB
                    clear hpz' h0p
                    have hB := Lib.hid (HB.out rfl)
                    clear HB HR
                    go_wp2
                    go_ret
                    exact ⟨by rw [hB.out]; rfl, e1.trans f3⟩
        · go_wp2
          go_ret
          obtain rfl : pos = s.size := by omega
          refine ⟨?_, fr⟩
          have := HK.out
          rw [List.drop_eq_nil_iff.2 (by rw [← size_len]; omega)] at this
          unfold rightL
          rw [this, hne, decide_eq_true h16]
          rfl
    · have hz : Hid (rightL s.data.toList = false) := by show _ = _; unfold rightL; rw [decide_eq_false h16, Bool.and_false]
      go_wp2
      go_ret
      exact ⟨by rw [hz.out]; rfl, e1⟩

end Go.Proofs.YthmhalcloogniaaGreatDoor

namespace Go.Dm
open Go Go.RowKit
theorem join_snocC {c : UInt8} : ∀ {ns : List Bs} (p : Bs), ns ≠ [] → Lib.join (ns ++ [p]) [c] = Lib.join ns [c] ++ c :: p
  | [], _, h => absurd rfl h
  | [q], p, _ => by simp [Lib.join_cons, Lib.joinTail]
  | q :: r :: ns, p, _ => by
    have e : ∀ l : List Bs, Lib.join (q :: r :: l) [c] = q ++ c :: Lib.join (r :: l) [c] := fun l => by simp [Lib.join_cons, Lib.joinTail]
    rw [List.cons_append, List.cons_append, e, ← List.cons_append, join_snocC p (by simp), e]
    simp
end Go.Dm
namespace Go.Proofs.YthmhalcloogniaaGreatDoor
open Go.RowKit Go.Dm

theorem rright_fit (s : ByteArray) (w : World) (hs : s.size ≤ 140737488351232) :
    Calls Tryz.prog 93 #[.string s] w fun e w' => e = .returned (.bool (rightL s.data.toList)) ∧ Ext w w' := rright_w s w (by omega)

end Go.Proofs.YthmhalcloogniaaGreatDoor

namespace Go.Dm
open Go Go.RowKit

/-- Where the cutting of a text stands: pieces behind it, the next one begun at f, looked through up to i. -/
def PS (l : Bs) (out : List Bs) (f i : Nat) : Prop :=
  (∀ p ∈ out, rightL p = true) ∧ out.length ≤ 3 ∧ i ≤ l.length + 1 ∧ (i ≤ l.length → f ≤ i ∧ (47 : UInt8) ∉ (l.drop f).take (i - f) ∧ splitL l = out ++ splitL (l.drop f)) ∧ (l.length < i → splitL l = out)

theorem PS.start (l : Bs) : PS l [] 0 0 := ⟨by simp, by simp, by omega, fun _ => ⟨by omega, by simp, by simp⟩, fun h => by omega⟩

theorem byte_getP {l : Bs} {i : Nat} (h : i < l.length) : bAt l i = (l[i]).toNat := by
  simp [bAt, List.getD_eq_getElem?_getD, h]

theorem drop_cutP {l : Bs} {f i : Nat} (hf : f ≤ i) (hi : i < l.length) : l.drop f = (l.drop f).take (i - f) ++ l[i] :: l.drop (i + 1) := by
  have h1 := List.take_append_drop (i - f) (l.drop f)
  rw [List.drop_drop, show f + (i - f) = i by omega, List.drop_eq_getElem_cons hi] at h1
  exact h1.symm

theorem PS.on {l : Bs} {out : List Bs} {f i : Nat} (h : PS l out f i) (hi : i < l.length) (hb : bAt l i ≠ 47) : PS l out f (i + 1) := by
  obtain ⟨h1, h2, h3, h4, h5⟩ := h
  obtain ⟨g1, g2, g3⟩ := h4 (by omega)
  refine ⟨h1, h2, by omega, fun _ => ⟨by omega, ?_, g3⟩, fun h => by omega⟩
  have hlt : i - f < (l.drop f).length := by rw [List.length_drop]; omega
  rw [show i + 1 - f = (i - f) + 1 by omega, List.take_succ_eq_append_getElem hlt, List.mem_append, List.mem_singleton]
  rintro (h | h)
  · exact g2 h
  · rw [List.getElem_drop] at h
    apply hb
    rw [byte_getP hi]
    have : l[f + (i - f)] = l[i] := by congr 1; omega
    rw [← this, ← h]; rfl

/-- What stands before a slash, or the end. -/
theorem PS.cut {l : Bs} {out : List Bs} {f i : Nat} (h : PS l out f i) (hi : i = l.length ∨ (i < l.length ∧ bAt l i = 47)) :
    ∃ rest, splitL l = out ++ (l.drop f).take (i - f) :: rest ∧ (rest = [] ∧ i = l.length ∨ (i < l.length ∧ rest = splitL (l.drop (i + 1)))) := by
  obtain ⟨h1, h2, h3, h4, h5⟩ := h
  rcases hi with rfl | ⟨hi, hb⟩
  · obtain ⟨g1, g2, g3⟩ := h4 (by omega)
    have he : (l.drop f).take (l.length - f) = l.drop f := List.take_of_length_le (by rw [List.length_drop]; omega)
    rw [he] at g2 ⊢
    exact ⟨[], by rw [g3, splitL_none g2], Or.inl ⟨rfl, rfl⟩⟩
  · obtain ⟨g1, g2, g3⟩ := h4 (by omega)
    have hc := drop_cutP g1 hi
    have h47 : l[i] = 47 := UInt8.toNat_inj.1 (by rw [← byte_getP hi, hb]; rfl)
    rw [h47] at hc
    refine ⟨splitL (l.drop (i + 1)), ?_, Or.inr ⟨hi, rfl⟩⟩
    rw [g3]
    congr 1
    conv => lhs; rw [hc]
    exact splitL_at g2

theorem PS.bad {l : Bs} {out : List Bs} {f i : Nat} (h : PS l out f i) (hi : i = l.length ∨ (i < l.length ∧ bAt l i = 47)) (hr : rightL ((l.drop f).take (i - f)) = false) : partsL l = [] := by
  obtain ⟨rest, h1, _⟩ := h.cut hi
  exact partsL_wrong (p := (l.drop f).take (i - f)) (by rw [h1]; simp) hr

theorem PS.full {l : Bs} {out : List Bs} {f i : Nat} (h : PS l out f i) (hi : i = l.length ∨ (i < l.length ∧ bAt l i = 47)) (hr : out.length = 3) : partsL l = [] := by
  obtain ⟨rest, h1, _⟩ := h.cut hi
  exact partsL_long (by rw [h1]; simp; omega)

theorem PS.next {l : Bs} {out : List Bs} {f i : Nat} (h : PS l out f i) (hi : i = l.length ∨ (i < l.length ∧ bAt l i = 47)) (hr : rightL ((l.drop f).take (i - f)) = true) (h3 : out.length ≠ 3) :
    PS l (out ++ [(l.drop f).take (i - f)]) (i + 1) (i + 1) := by
  obtain ⟨rest, g1, g2⟩ := h.cut hi
  obtain ⟨h1, h2, _⟩ := h
  refine ⟨?_, by simp; omega, by omega, fun hlt => ⟨by omega, by simp, ?_⟩, fun hgt => ?_⟩
  · intro p hp
    rcases List.mem_append.1 hp with hp | hp
    · exact h1 p hp
    · rw [List.mem_singleton.1 hp]; exact hr
  · rcases g2 with ⟨_, g2⟩ | ⟨_, g2⟩
    · omega
    · rw [g1, g2]; simp
  · rcases g2 with ⟨g2, _⟩ | ⟨g2, _⟩
    · rw [g1, g2]
    · omega

theorem PS.done {l : Bs} {out : List Bs} {f i : Nat} (h : PS l out f i) (hi : l.length < i) : partsL l = out := by
  obtain ⟨h1, h2, _, _, h5⟩ := h
  have := h5 hi
  rw [partsL_some (by rw [this]; exact h2) (by rw [this]; exact h1), this]

theorem bytesOf_snocP {xs : List ByteArray} {x : ByteArray} : bytesOf (xs ++ [x]) = bytesOf xs ++ [x.data.toList] := by simp [bytesOf]
theorem bytesOf_lenP (xs : List ByteArray) : (bytesOf xs).length = xs.length := by simp [bytesOf]
end Go.Dm
namespace Go.Proofs.YthmhalcloogniaaGreatDoor
open Go.RowKit Go.Dm

set_option maxHeartbeats 4000000 in
theorem rparts_w (s : ByteArray) (w : World) (hs : s.size < 9223372036854775806) :
    Calls Tryz.prog 52 #[.string s] w fun e w' => ∃ r, e = .returned r ∧ Texts w' r (partsL s.data.toList) ∧ Ext w w' := by
  go_enter Tryz.func52, Tryz.ntmps52
  go_wp2
  go_loopw [3, 4, 5] (fun v f' i' wr => ∃ (f i : Nat) (xs : List ByteArray), f' = .int .i64 f ∧ i' = .int .i64 i ∧ i ≤ s.size + 1 ∧ f ≤ i ∧ xs.length ≤ 3 ∧ Ext w wr ∧ wr.ownsRow w.heap.size 9 1 v xs.length (xs.map .string) ∧ Hid (PS s.data.toList (bytesOf xs) f i)) (fun _ _ i' _ => s.size + 1 - (intOf i').toNat)
  case atStart => exact ⟨0, 0, [], rfl, rfl, by omega, by omega, by simp, Ext.refl _, World.ownsRow_nil _ _ _ _, PS.start _⟩
  case round =>
    obtain ⟨f, i, xs, rfl, rfl, hi, hf, hx3, hb, ho, HP⟩ := hrel
    by_cases hle : i ≤ s.size
    · -- the rest of the round, at the end of a piece
      have hpiece : (i = s.size ∨ (∃ h : i < s.size, (s[i]).toNat = 47)) → Hid (i = s.data.toList.length ∨ (i < s.data.toList.length ∧ bAt s.data.toList i = 47)) := by
        rintro (h | ⟨h, e⟩)
        · exact Or.inl (by rw [← size_len]; exact h)
        · exact Or.inr ⟨by rw [← size_len]; exact h, by rw [← sAt h]; exact e⟩
      have hxd : (s.extract f i).data.toList = (s.data.toList.drop f).take (i - f) := Lib.extract_data s f i
      have hxs : (s.extract f i).size < 9223372036854775807 := by rw [size_len, hxd, List.length_take, List.length_drop, ← size_len]; omega
      by_cases hlt : i < s.size
      · obtain ⟨b, hbt⟩ : ∃ b : Int, ((s[i]'hlt).toNat : Int) = b := ⟨_, rfl⟩
        by_cases h47 : b = 47
        · subst h47
          have hc := hpiece (Or.inr ⟨hlt, by omega⟩)
          have CR := rright_w (s.extract f i) wr hxs
          rw [hxd] at CR
          obtain ⟨q, cap, rfl, hqc, hqm⟩ := (Strs.of_row ho rfl).shape
          cases hr : rightL ((s.data.toList.drop f).take (i - f)) with
          | true =>
            rw [hr] at CR
            by_cases h3 : xs.length = 3
            · have hz := Lib.hid (HP.out.full hc.out (by rw [bytesOf_lenP]; exact h3))
              have h3b : ((xs.length : Int) == 3) = true := by rw [beq_iff_eq]; omega
              clear h3 hxd
              go_wp2_with fail
              refine CR.mono ?_; rintro e w2 ⟨rfl, h2⟩
              go_wp2
              go_ret
              exact ⟨_, rfl, by rw [hz.out]; exact Texts.nil _, hb.trans h2⟩
            · have h3b : ((xs.length : Int) == 3) = false := by rw [beq_eq_false_iff_ne]; omega
              have hst := HP.out.next hc.out hr (by rw [bytesOf_lenP]; exact h3)
              rw [← hxd, ← bytesOf_snocP] at hst
              replace hst := Lib.hid hst
              have hx3' : xs.length < 3 := by omega
              clear h3 hxd hr
              go_wp2_with fail
              refine CR.mono ?_; rintro e w2 ⟨rfl, h2⟩
              clear CR
              have hb2 := hb.trans h2
              have ho4 := Ext.row (Ext.row ho h2) ((Ext.refl w2).alloc (.cells #[.string (s.extract f i)] 9))
              have hb4 := hb2.trans ((Ext.refl w2).alloc (.cells #[.string (s.extract f i)] 9))
              have hl4 := Sl.lit w2 9 1 1 #[.string (s.extract f i)] rfl (by simp [maxLen])
              clear ho
              go_wp2_with (at_builtin; refine wpList_appE rfl _ _ Tryz.slStr rfl hb4 rfl ho4 rfl hl4 (strs_one [s.extract f i]) (by omega) ?_; intro v5 w5 ho5 hb5 _)
              go_roundw
              case rel => exact ⟨i + 1, i + 1, xs ++ [s.extract f i], by go_num, by go_num, by omega, by omega, by simp; omega, hb5, by rw [List.length_append, List.map_append]; exact ho5, hst⟩
              case measure => simp [intOf]; omega
          | false =>
            rw [hr] at CR
            have hz := Lib.hid (HP.out.bad hc.out hr)
            clear hxd hr
            go_wp2_with fail
            refine CR.mono ?_; rintro e w2 ⟨rfl, h2⟩
            go_wp2
            go_ret
            exact ⟨_, rfl, by rw [hz.out]; exact Texts.nil _, hb.trans h2⟩
        · have hbn : (b != 47) = true := by rw [bne_iff_ne]; exact h47
          have hst := Lib.hid (HP.out.on (by rw [← size_len]; exact hlt) (by rw [← sAt hlt]; omega))
          clear h47
          go_wp2
          go_roundw
          case rel => exact ⟨f, i + 1, xs, rfl, by go_num, by omega, by omega, hx3, hb, ho, hst⟩
          case measure => simp [intOf]; omega
      · have hc := hpiece (Or.inl (by omega))
        have CR := rright_w (s.extract f i) wr hxs
        rw [hxd] at CR
        obtain ⟨q, cap, rfl, hqc, hqm⟩ := (Strs.of_row ho rfl).shape
        cases hr : rightL ((s.data.toList.drop f).take (i - f)) with
        | true =>
          rw [hr] at CR
          by_cases h3 : xs.length = 3
          · have hz := Lib.hid (HP.out.full hc.out (by rw [bytesOf_lenP]; exact h3))
            have h3b : ((xs.length : Int) == 3) = true := by rw [beq_iff_eq]; omega
            clear h3 hxd
            go_wp2_with fail
            refine CR.mono ?_; rintro e w2 ⟨rfl, h2⟩
            go_wp2
            go_ret
            exact ⟨_, rfl, by rw [hz.out]; exact Texts.nil _, hb.trans h2⟩
          · have h3b : ((xs.length : Int) == 3) = false := by rw [beq_eq_false_iff_ne]; omega
            have hst := HP.out.next hc.out hr (by rw [bytesOf_lenP]; exact h3)
            rw [← hxd, ← bytesOf_snocP] at hst
            replace hst := Lib.hid hst
            have hx3' : xs.length < 3 := by omega
            clear h3 hxd hr
            go_wp2_with fail
            refine CR.mono ?_; rintro e w2 ⟨rfl, h2⟩
            clear CR
            have hb2 := hb.trans h2
            have ho4 := Ext.row (Ext.row ho h2) ((Ext.refl w2).alloc (.cells #[.string (s.extract f i)] 9))
            have hb4 := hb2.trans ((Ext.refl w2).alloc (.cells #[.string (s.extract f i)] 9))
            have hl4 := Sl.lit w2 9 1 1 #[.string (s.extract f i)] rfl (by simp [maxLen])
            clear ho
            go_wp2_with (at_builtin; refine wpList_appE rfl _ _ Tryz.slStr rfl hb4 rfl ho4 rfl hl4 (strs_one [s.extract f i]) (by omega) ?_; intro v5 w5 ho5 hb5 _)
            go_roundw
            case rel => exact ⟨i + 1, i + 1, xs ++ [s.extract f i], by go_num, by go_num, by omega, by omega, by simp; omega, hb5, by rw [List.length_append, List.map_append]; exact ho5, hst⟩
            case measure => simp [intOf]; omega
        | false =>
          rw [hr] at CR
          have hz := Lib.hid (HP.out.bad hc.out hr)
          clear hxd hr
          go_wp2_with fail
          refine CR.mono ?_; rintro e w2 ⟨rfl, h2⟩
          go_wp2
          go_ret
          exact ⟨_, rfl, by rw [hz.out]; exact Texts.nil _, hb.trans h2⟩
    · go_wp2
      go_ret
      exact ⟨_, rfl, ⟨xs, Strs.of_row ho rfl, (HP.out.done (by rw [← size_len]; omega)).symm⟩, hb⟩

end Go.Proofs.YthmhalcloogniaaGreatDoor
