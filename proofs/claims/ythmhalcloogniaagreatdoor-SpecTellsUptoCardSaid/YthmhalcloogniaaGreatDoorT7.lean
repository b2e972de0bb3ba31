/- Texts one behind the other: Chapter 2: the walks of the document's runes and names; Chapter 1: the walk of the program's Get, whole; Chapter 1: the walk of the program's GetText. -/
import Derived.Test.YthmhalcloogniaaGreatDoorT12
import Derived.Test.YthmhalcloogniaaGreatDoorProg
import Derived.Test.YthmhalcloogniaaGreatDoorT6
namespace Go.Dm
open Go Go.RowKit
theorem sAt {s : ByteArray} {k : Nat} (h : k < s.size) : (s[k]).toNat = bAt s.data.toList k := by
  have h' : k < s.data.size := h
  simp only [bAt, List.getD_eq_getElem?_getD, Array.getElem?_toList, Array.getElem?_eq_getElem h', Option.getD_some]
  rfl
theorem not_longC_len {n low high : Nat} {l : Bs} (h : ¬ n ≤ l.length) : ¬ longC n low high l := fun c => h c.1
theorem not_longC_low {n low high : Nat} {l : Bs} (h : bAt l 1 < low) : ¬ longC n low high l := fun c => by have := c.2.1; omega
theorem not_longC_high {n low high : Nat} {l : Bs} (h : high < bAt l 1) : ¬ longC n low high l := fun c => by have := c.2.2.1; omega
theorem not_longC_at {n low high j : Nat} {l : Bs} (h1 : 2 ≤ j) (h2 : j < n) (h : bAt l j < 128 ∨ 191 < bAt l j) : ¬ longC n low high l := fun c => by have := c.2.2.2 j h1 h2; omega
end Go.Dm
namespace Go.Proofs.YthmhalcloogniaaGreatDoor
open Go.RowKit Go.Dm

set_option maxHeartbeats 1000000 in
theorem longA_w (s : ByteArray) (w : World) (hs : s.size < 9223372036854775807) (h0 : 0 < s.size) (a : Int) (hlo : 194 ≤ a) (hhi : a ≤ 223) (ha : ((s[0]'h0).toNat : Int) = a) :
    Calls Tryz.prog 124 #[.string s] w fun e w' => e = .returned (.int .i64 (longL s.data.toList)) ∧ Ext w w' := by
  have hb : (bAt s.data.toList 0 : Int) = a := by rw [← sAt h0]; exact ha
  have hn0 : ((s.size : Int) == 0) = false := by rw [beq_eq_false_iff_ne]; omega
  have hl0 : 0 < s.data.toList.length := by rw [← size_len]; exact h0
  have e1 : sizeOf' (bAt s.data.toList 0) = 2 := by unfold sizeOf'; (repeat' split) <;> omega
  have e2 : lowOf (bAt s.data.toList 0) = 128 := by unfold lowOf; (repeat' split) <;> omega
  have e3 : highOf (bAt s.data.toList 0) = 191 := by unfold highOf; (repeat' split) <;> omega
  have HY := long_yes hl0 (by omega) (by omega)
  have HN := long_no hl0 (by omega) (by omega)
  rw [e1, e2, e3] at HY HN
  replace HY := Lib.hid HY
  replace HN := Lib.hid HN
  clear e1 e2 e3 hb
  have b224 : (a == 224) = false := by rw [beq_eq_false_iff_ne]; omega
  have b237 : (a == 237) = false := by rw [beq_eq_false_iff_ne]; omega
  have b240 : (a == 240) = false := by rw [beq_eq_false_iff_ne]; omega
  have b244 : (a == 244) = false := by rw [beq_eq_false_iff_ne]; omega
  by_cases hn : 2 ≤ s.size
  · obtain ⟨b, hb⟩ : ∃ b : Int, ((s[1]'(by omega)).toNat : Int) = b := ⟨_, rfl⟩
    have hb1 : (bAt s.data.toList 1 : Int) = b := by rw [← sAt (by omega)]; exact hb
    by_cases hlw : b < 128
    · have hz := Lib.hid (HN.out (not_longC_low (by omega)))
      clear hb1 hl0
      go_enter Tryz.func124, Tryz.ntmps124
      go_wp2
      go_ret
      exact ⟨by rw [hz.out]; rfl, Ext.refl _⟩
    · by_cases hhg : 191 < b
      · have hz := Lib.hid (HN.out (not_longC_high (by omega)))
        clear hb1 hl0
        go_enter Tryz.func124, Tryz.ntmps124
        go_wp2
        go_ret
        exact ⟨by rw [hz.out]; rfl, Ext.refl _⟩
      · replace hb1 := Lib.hid hb1
        clear hl0
        go_enter Tryz.func124, Tryz.ntmps124
        go_wp2
        go_loop [7] (fun i' => ∃ i : Nat, 2 ≤ i ∧ i ≤ 2 ∧ i' = .int .i64 i ∧ Hid (∀ j, 2 ≤ j → j < i → 128 ≤ bAt s.data.toList j ∧ bAt s.data.toList j ≤ 191)) (fun i' => 2 - (intOf i').toNat)
        case atStart => exact ⟨2, by omega, by omega, rfl, fun j h1 h2 => by omega⟩
        case round =>
          obtain ⟨i, hi2, hin, rfl, HC⟩ := hrel
          obtain rfl : i = 2 := by omega
          have hz := Lib.hid (HY.out ⟨by rw [← size_len]; exact hn, by have := hb1.out; omega, by have := hb1.out; omega, HC.out⟩)
          go_wp2
          go_ret
          exact ⟨by rw [hz.out]; rfl, Ext.refl _⟩
  · have hz := Lib.hid (HN.out (not_longC_len (by rw [← size_len]; exact hn)))
    clear hl0
    go_enter Tryz.func124, Tryz.ntmps124
    go_wp2
    go_ret
    exact ⟨by rw [hz.out]; rfl, Ext.refl _⟩

set_option maxHeartbeats 1000000 in
theorem longB_w (s : ByteArray) (w : World) (hs : s.size < 9223372036854775807) (h0 : 0 < s.size) (ha : ((s[0]'h0).toNat : Int) = 224) :
    Calls Tryz.prog 124 #[.string s] w fun e w' => e = .returned (.int .i64 (longL s.data.toList)) ∧ Ext w w' := by
  have hb : (bAt s.data.toList 0 : Int) = 224 := by rw [← sAt h0]; exact ha
  have hn0 : ((s.size : Int) == 0) = false := by rw [beq_eq_false_iff_ne]; omega
  have hl0 : 0 < s.data.toList.length := by rw [← size_len]; exact h0
  have e1 : sizeOf' (bAt s.data.toList 0) = 3 := by unfold sizeOf'; (repeat' split) <;> omega
  have e2 : lowOf (bAt s.data.toList 0) = 160 := by unfold lowOf; (repeat' split) <;> omega
  have e3 : highOf (bAt s.data.toList 0) = 191 := by unfold highOf; (repeat' split) <;> omega
  have HY := long_yes hl0 (by omega) (by omega)
  have HN := long_no hl0 (by omega) (by omega)
  rw [e1, e2, e3] at HY HN
  replace HY := Lib.hid HY
  replace HN := Lib.hid HN
  clear e1 e2 e3 hb
  by_cases hn : 3 ≤ s.size
  · obtain ⟨b, hb⟩ : ∃ b : Int, ((s[1]'(by omega)).toNat : Int) = b := ⟨_, rfl⟩
    have hb1 : (bAt s.data.toList 1 : Int) = b := by rw [← sAt (by omega)]; exact hb
    by_cases hlw : b < 160
    · have hz := Lib.hid (HN.out (not_longC_low (by omega)))
      clear hb1 hl0
      go_enter Tryz.func124, Tryz.ntmps124
      go_wp2
      go_ret
      exact ⟨by rw [hz.out]; rfl, Ext.refl _⟩
    · by_cases hhg : 191 < b
      · have hz := Lib.hid (HN.out (not_longC_high (by omega)))
        clear hb1 hl0
        go_enter Tryz.func124, Tryz.ntmps124
        go_wp2
        go_ret
        exact ⟨by rw [hz.out]; rfl, Ext.refl _⟩
      · replace hb1 := Lib.hid hb1
        clear hl0
        go_enter Tryz.func124, Tryz.ntmps124
        go_wp2
        go_loop [7] (fun i' => ∃ i : Nat, 2 ≤ i ∧ i ≤ 3 ∧ i' = .int .i64 i ∧ Hid (∀ j, 2 ≤ j → j < i → 128 ≤ bAt s.data.toList j ∧ bAt s.data.toList j ≤ 191)) (fun i' => 3 - (intOf i').toNat)
        case atStart => exact ⟨2, by omega, by omega, rfl, fun j h1 h2 => by omega⟩
        case round =>
          obtain ⟨i, hi2, hin, rfl, HC⟩ := hrel
          by_cases hlt : i < 3
          · have hsi : i < s.size := by omega
            obtain ⟨c, hc⟩ : ∃ c : Int, ((s[i]'hsi).toNat : Int) = c := ⟨_, rfl⟩
            have hc1 : (bAt s.data.toList i : Int) = c := by rw [← sAt hsi]; exact hc
            by_cases c1 : c < 128
            · have hz := Lib.hid (HN.out (not_longC_at hi2 hlt (by omega)))
              clear hc1
              go_wp2
              go_ret
              exact ⟨by rw [hz.out]; rfl, Ext.refl _⟩
            · by_cases c2 : 191 < c
              · have hz := Lib.hid (HN.out (not_longC_at hi2 hlt (by omega)))
                clear hc1
                go_wp2
                go_ret
                exact ⟨by rw [hz.out]; rfl, Ext.refl _⟩
              · have hst : Hid (∀ j, 2 ≤ j → j < i + 1 → 128 ≤ bAt s.data.toList j ∧ bAt s.data.toList j ≤ 191) := fun j h1 h2 => by
                  by_cases hj : j < i
                  · exact HC.out j h1 hj
                  · obtain rfl : j = i := by omega
                    omega
                clear hc1
                go_wp2
                go_round
                case rel => exact ⟨i + 1, by omega, by omega, by go_num, hst⟩
                case measure => simp [intOf]; omega
          · obtain rfl : i = 3 := by omega
            have hz := Lib.hid (HY.out ⟨by rw [← size_len]; exact hn, by have := hb1.out; omega, by have := hb1.out; omega, HC.out⟩)
            go_wp2
            go_ret
            exact ⟨by rw [hz.out]; rfl, Ext.refl _⟩
  · have hz := Lib.hid (HN.out (not_longC_len (by rw [← size_len]; exact hn)))
    clear hl0
    go_enter Tryz.func124, Tryz.ntmps124
    go_wp2
    go_ret
    exact ⟨by rw [hz.out]; rfl, Ext.refl _⟩

set_option maxHeartbeats 1000000 in
theorem longD_w (s : ByteArray) (w : World) (hs : s.size < 9223372036854775807) (h0 : 0 < s.size) (a : Int) (hlo : 225 ≤ a) (hhi : a ≤ 239) (hne : a ≠ 237) (ha : ((s[0]'h0).toNat : Int) = a) :
    Calls Tryz.prog 124 #[.string s] w fun e w' => e = .returned (.int .i64 (longL s.data.toList)) ∧ Ext w w' := by
  have hb : (bAt s.data.toList 0 : Int) = a := by rw [← sAt h0]; exact ha
  have hn0 : ((s.size : Int) == 0) = false := by rw [beq_eq_false_iff_ne]; omega
  have hl0 : 0 < s.data.toList.length := by rw [← size_len]; exact h0
  have e1 : sizeOf' (bAt s.data.toList 0) = 3 := by unfold sizeOf'; (repeat' split) <;> omega
  have e2 : lowOf (bAt s.data.toList 0) = 128 := by unfold lowOf; (repeat' split) <;> omega
  have e3 : highOf (bAt s.data.toList 0) = 191 := by unfold highOf; (repeat' split) <;> omega
  have HY := long_yes hl0 (by omega) (by omega)
  have HN := long_no hl0 (by omega) (by omega)
  rw [e1, e2, e3] at HY HN
  replace HY := Lib.hid HY
  replace HN := Lib.hid HN
  clear e1 e2 e3 hb
  have b224 : (a == 224) = false := by rw [beq_eq_false_iff_ne]; omega
  have b237 : (a == 237) = false := by rw [beq_eq_false_iff_ne]; omega
  have b240 : (a == 240) = false := by rw [beq_eq_false_iff_ne]; omega
  have b244 : (a == 244) = false := by rw [beq_eq_false_iff_ne]; omega
  by_cases hn : 3 ≤ s.size
  · obtain ⟨b, hb⟩ : ∃ b : Int, ((s[1]'(by omega)).toNat : Int) = b := ⟨_, rfl⟩
    have hb1 : (bAt s.data.toList 1 : Int) = b := by rw [← sAt (by omega)]; exact hb
    by_cases hlw : b < 128
    · have hz := Lib.hid (HN.out (not_longC_low (by omega)))
      clear hb1 hl0
      go_enter Tryz.func124, Tryz.ntmps124
      go_wp2
      go_ret
      exact ⟨by rw [hz.out]; rfl, Ext.refl _⟩
    · by_cases hhg : 191 < b
      · have hz := Lib.hid (HN.out (not_longC_high (by omega)))
        clear hb1 hl0
        go_enter Tryz.func124, Tryz.ntmps124
        go_wp2
        go_ret
        exact ⟨by rw [hz.out]; rfl, Ext.refl _⟩
      · replace hb1 := Lib.hid hb1
        clear hl0
        go_enter Tryz.func124, Tryz.ntmps124
        go_wp2
        go_loop [7] (fun i' => ∃ i : Nat, 2 ≤ i ∧ i ≤ 3 ∧ i' = .int .i64 i ∧ Hid (∀ j, 2 ≤ j → j < i → 128 ≤ bAt s.data.toList j ∧ bAt s.data.toList j ≤ 191)) (fun i' => 3 - (intOf i').toNat)
        case atStart => exact ⟨2, by omega, by omega, rfl, fun j h1 h2 => by omega⟩
        case round =>
          obtain ⟨i, hi2, hin, rfl, HC⟩ := hrel
          by_cases hlt : i < 3
          · have hsi : i < s.size := by omega
            obtain ⟨c, hc⟩ : ∃ c : Int, ((s[i]'hsi).toNat : Int) = c := ⟨_, rfl⟩
            have hc1 : (bAt s.data.toList i : Int) = c := by rw [← sAt hsi]; exact hc
            by_cases c1 : c < 128
            · have hz := Lib.hid (HN.out (not_longC_at hi2 hlt (by omega)))
              clear hc1
              go_wp2
              go_ret
              exact ⟨by rw [hz.out]; rfl, Ext.refl _⟩
            · by_cases c2 : 191 < c
              · have hz := Lib.hid (HN.out (not_longC_at hi2 hlt (by omega)))
                clear hc1
                go_wp2
                go_ret
                exact ⟨by rw [hz.out]; rfl, Ext.refl _⟩
              · have hst : Hid (∀ j, 2 ≤ j → j < i + 1 → 128 ≤ bAt s.data.toList j ∧ bAt s.data.toList j ≤ 191) := fun j h1 h2 => by
                  by_cases hj : j < i
                  · exact HC.out j h1 hj
                  · obtain rfl : j = i := by omega
                    omega
                clear hc1
                go_wp2
                go_round
                case rel => exact ⟨i + 1, by omega, by omega, by go_num, hst⟩
                case measure => simp [intOf]; omega
          · obtain rfl : i = 3 := by omega
            have hz := Lib.hid (HY.out ⟨by rw [← size_len]; exact hn, by have := hb1.out; omega, by have := hb1.out; omega, HC.out⟩)
            go_wp2
            go_ret
            exact ⟨by rw [hz.out]; rfl, Ext.refl _⟩
  · have hz := Lib.hid (HN.out (not_longC_len (by rw [← size_len]; exact hn)))
    clear hl0
    go_enter Tryz.func124, Tryz.ntmps124
    go_wp2
    go_ret
    exact ⟨by rw [hz.out]; rfl, Ext.refl _⟩

set_option maxHeartbeats 1000000 in
theorem longE_w (s : ByteArray) (w : World) (hs : s.size < 9223372036854775807) (h0 : 0 < s.size) (ha : ((s[0]'h0).toNat : Int) = 237) :
    Calls Tryz.prog 124 #[.string s] w fun e w' => e = .returned (.int .i64 (longL s.data.toList)) ∧ Ext w w' := by
  have hb : (bAt s.data.toList 0 : Int) = 237 := by rw [← sAt h0]; exact ha
  have hn0 : ((s.size : Int) == 0) = false := by rw [beq_eq_false_iff_ne]; omega
  have hl0 : 0 < s.data.toList.length := by rw [← size_len]; exact h0
  have e1 : sizeOf' (bAt s.data.toList 0) = 3 := by unfold sizeOf'; (repeat' split) <;> omega
  have e2 : lowOf (bAt s.data.toList 0) = 128 := by unfold lowOf; (repeat' split) <;> omega
  have e3 : highOf (bAt s.data.toList 0) = 159 := by unfold highOf; (repeat' split) <;> omega
  have HY := long_yes hl0 (by omega) (by omega)
  have HN := long_no hl0 (by omega) (by omega)
  rw [e1, e2, e3] at HY HN
  replace HY := Lib.hid HY
  replace HN := Lib.hid HN
  clear e1 e2 e3 hb
  by_cases hn : 3 ≤ s.size
  · obtain ⟨b, hb⟩ : ∃ b : Int, ((s[1]'(by omega)).toNat : Int) = b := ⟨_, rfl⟩
    have hb1 : (bAt s.data.toList 1 : Int) = b := by rw [← sAt (by omega)]; exact hb
    by_cases hlw : b < 128
    · have hz := Lib.hid (HN.out (not_longC_low (by omega)))
      clear hb1 hl0
      go_enter Tryz.func124, Tryz.ntmps124
      go_wp2
      go_ret
      exact ⟨by rw [hz.out]; rfl, Ext.refl _⟩
    · by_cases hhg : 159 < b
      · have hz := Lib.hid (HN.out (not_longC_high (by omega)))
        clear hb1 hl0
        go_enter Tryz.func124, Tryz.ntmps124
        go_wp2
        go_ret
        exact ⟨by rw [hz.out]; rfl, Ext.refl _⟩
      · replace hb1 := Lib.hid hb1
        clear hl0
        go_enter Tryz.func124, Tryz.ntmps124
        go_wp2
        go_loop [7] (fun i' => ∃ i : Nat, 2 ≤ i ∧ i ≤ 3 ∧ i' = .int .i64 i ∧ Hid (∀ j, 2 ≤ j → j < i → 128 ≤ bAt s.data.toList j ∧ bAt s.data.toList j ≤ 191)) (fun i' => 3 - (intOf i').toNat)
        case atStart => exact ⟨2, by omega, by omega, rfl, fun j h1 h2 => by omega⟩
        case round =>
          obtain ⟨i, hi2, hin, rfl, HC⟩ := hrel
          by_cases hlt : i < 3
          · have hsi : i < s.size := by omega
            obtain ⟨c, hc⟩ : ∃ c : Int, ((s[i]'hsi).toNat : Int) = c := ⟨_, rfl⟩
            have hc1 : (bAt s.data.toList i : Int) = c := by rw [← sAt hsi]; exact hc
            by_cases c1 : c < 128
            · have hz := Lib.hid (HN.out (not_longC_at hi2 hlt (by omega)))
              clear hc1
              go_wp2
              go_ret
              exact ⟨by rw [hz.out]; rfl, Ext.refl _⟩
            · by_cases c2 : 191 < c
              · have hz := Lib.hid (HN.out (not_longC_at hi2 hlt (by omega)))
                clear hc1
                go_wp2
                go_ret
                exact ⟨by rw [hz.out]; rfl, Ext.refl _⟩
              · have hst : Hid (∀ j, 2 ≤ j → j < i + 1 → 128 ≤ bAt s.data.toList j ∧ bAt s.data.toList j ≤ 191) := fun j h1 h2 => by
                  by_cases hj : j < i
                  · exact HC.out j h1 hj
                  · obtain rfl : j = i := by omega
                    omega
                clear hc1
                go_wp2
                go_round
                case rel => exact ⟨i + 1, by omega, by omega, by go_num, hst⟩
                case measure => simp [intOf]; omega
          · obtain rfl : i = 3 := by omega
            have hz := Lib.hid (HY.out ⟨by rw [← size_len]; exact hn, by have := hb1.out; omega, by have := hb1.out; omega, HC.out⟩)
            go_wp2
            go_ret
            exact ⟨by rw [hz.out]; rfl, Ext.refl _⟩
  · have hz := Lib.hid (HN.out (not_longC_len (by rw [← size_len]; exact hn)))
    clear hl0
    go_enter Tryz.func124, Tryz.ntmps124
    go_wp2
    go_ret
    exact ⟨by rw [hz.out]; rfl, Ext.refl _⟩

set_option maxHeartbeats 1000000 in
theorem longF_w (s : ByteArray) (w : World) (hs : s.size < 9223372036854775807) (h0 : 0 < s.size) (ha : ((s[0]'h0).toNat : Int) = 240) :
    Calls Tryz.prog 124 #[.string s] w fun e w' => e = .returned (.int .i64 (longL s.data.toList)) ∧ Ext w w' := by
  have hb : (bAt s.data.toList 0 : Int) = 240 := by rw [← sAt h0]; exact ha
  have hn0 : ((s.size : Int) == 0) = false := by rw [beq_eq_false_iff_ne]; omega
  have hl0 : 0 < s.data.toList.length := by rw [← size_len]; exact h0
  have e1 : sizeOf' (bAt s.data.toList 0) = 4 := by unfold sizeOf'; (repeat' split) <;> omega
  have e2 : lowOf (bAt s.data.toList 0) = 144 := by unfold lowOf; (repeat' split) <;> omega
  have e3 : highOf (bAt s.data.toList 0) = 191 := by unfold highOf; (repeat' split) <;> omega
  have HY := long_yes hl0 (by omega) (by omega)
  have HN := long_no hl0 (by omega) (by omega)
  rw [e1, e2, e3] at HY HN
  replace HY := Lib.hid HY
  replace HN := Lib.hid HN
  clear e1 e2 e3 hb
  by_cases hn : 4 ≤ s.size
  · obtain ⟨b, hb⟩ : ∃ b : Int, ((s[1]'(by omega)).toNat : Int) = b := ⟨_, rfl⟩
    have hb1 : (bAt s.data.toList 1 : Int) = b := by rw [← sAt (by omega)]; exact hb
    by_cases hlw : b < 144
    · have hz := Lib.hid (HN.out (not_longC_low (by omega)))
      clear hb1 hl0
      go_enter Tryz.func124, Tryz.ntmps124
      go_wp2
      go_ret
      exact ⟨by rw [hz.out]; rfl, Ext.refl _⟩
    · by_cases hhg : 191 < b
      · have hz := Lib.hid (HN.out (not_longC_high (by omega)))
        clear hb1 hl0
        go_enter Tryz.func124, Tryz.ntmps124
        go_wp2
        go_ret
        exact ⟨by rw [hz.out]; rfl, Ext.refl _⟩
      · replace hb1 := Lib.hid hb1
        clear hl0
        go_enter Tryz.func124, Tryz.ntmps124
        go_wp2
        go_loop [7] (fun i' => ∃ i : Nat, 2 ≤ i ∧ i ≤ 4 ∧ i' = .int .i64 i ∧ Hid (∀ j, 2 ≤ j → j < i → 128 ≤ bAt s.data.toList j ∧ bAt s.data.toList j ≤ 191)) (fun i' => 4 - (intOf i').toNat)
        case atStart => exact ⟨2, by omega, by omega, rfl, fun j h1 h2 => by omega⟩
        case round =>
          obtain ⟨i, hi2, hin, rfl, HC⟩ := hrel
          by_cases hlt : i < 4
          · have hsi : i < s.size := by omega
            obtain ⟨c, hc⟩ : ∃ c : Int, ((s[i]'hsi).toNat : Int) = c := ⟨_, rfl⟩
            have hc1 : (bAt s.data.toList i : Int) = c := by rw [← sAt hsi]; exact hc
            by_cases c1 : c < 128
            · have hz := Lib.hid (HN.out (not_longC_at hi2 hlt (by omega)))
              clear hc1
              go_wp2
              go_ret
              exact ⟨by rw [hz.out]; rfl, Ext.refl _⟩
            · by_cases c2 : 191 < c
              · have hz := Lib.hid (HN.out (not_longC_at hi2 hlt (by omega)))
                clear hc1
                go_wp2
                go_ret
                exact ⟨by rw [hz.out]; rfl, Ext.refl _⟩
              · have hst : Hid (∀ j, 2 ≤ j → j < i + 1 → 128 ≤ bAt s.data.toList j ∧ bAt s.data.toList j ≤ 191) := fun j h1 h2 => by
                  by_cases hj : j < i
                  · exact HC.out j h1 hj
                  · obtain rfl : j = i := by omega
                    omega
                clear hc1
                go_wp2
                go_round
                case rel => exact ⟨i + 1, by omega, by omega, by go_num, hst⟩
                case measure => simp [intOf]; omega
          · obtain rfl : i = 4 := by omega
            have hz := Lib.hid (HY.out ⟨by rw [← size_len]; exact hn, by have := hb1.out; omega, by have := hb1.out; omega, HC.out⟩)
            go_wp2
            go_ret
            exact ⟨by rw [hz.out]; rfl, Ext.refl _⟩
  · have hz := Lib.hid (HN.out (not_longC_len (by rw [← size_len]; exact hn)))
    clear hl0
    go_enter Tryz.func124, Tryz.ntmps124
    go_wp2
    go_ret
    exact ⟨by rw [hz.out]; rfl, Ext.refl _⟩

set_option maxHeartbeats 1000000 in
theorem longG_w (s : ByteArray) (w : World) (hs : s.size < 9223372036854775807) (h0 : 0 < s.size) (a : Int) (hlo : 241 ≤ a) (hhi : a ≤ 243) (ha : ((s[0]'h0).toNat : Int) = a) :
    Calls Tryz.prog 124 #[.string s] w fun e w' => e = .returned (.int .i64 (longL s.data.toList)) ∧ Ext w w' := by
  have hb : (bAt s.data.toList 0 : Int) = a := by rw [← sAt h0]; exact ha
  have hn0 : ((s.size : Int) == 0) = false := by rw [beq_eq_false_iff_ne]; omega
  have hl0 : 0 < s.data.toList.length := by rw [← size_len]; exact h0
  have e1 : sizeOf' (bAt s.data.toList 0) = 4 := by unfold sizeOf'; (repeat' split) <;> omega
  have e2 : lowOf (bAt s.data.toList 0) = 128 := by unfold lowOf; (repeat' split) <;> omega
  have e3 : highOf (bAt s.data.toList 0) = 191 := by unfold highOf; (repeat' split) <;> omega
  have HY := long_yes hl0 (by omega) (by omega)
  have HN := long_no hl0 (by omega) (by omega)
  rw [e1, e2, e3] at HY HN
  replace HY := Lib.hid HY
  replace HN := Lib.hid HN
  clear e1 e2 e3 hb
  have b224 : (a == 224) = false := by rw [beq_eq_false_iff_ne]; omega
  have b237 : (a == 237) = false := by rw [beq_eq_false_iff_ne]; omega
  have b240 : (a == 240) = false := by rw [beq_eq_false_iff_ne]; omega
  have b244 : (a == 244) = false := by rw [beq_eq_false_iff_ne]; omega
  by_cases hn : 4 ≤ s.size
  · obtain ⟨b, hb⟩ : ∃ b : Int, ((s[1]'(by omega)).toNat : Int) = b := ⟨_, rfl⟩
    have hb1 : (bAt s.data.toList 1 : Int) = b := by rw [← sAt (by omega)]; exact hb
    by_cases hlw : b < 128
    · have hz := Lib.hid (HN.out (not_longC_low (by omega)))
      clear hb1 hl0
      go_enter Tryz.func124, Tryz.ntmps124
      go_wp2
      go_ret
      exact ⟨by rw [hz.out]; rfl, Ext.refl _⟩
    · by_cases hhg : 191 < b
      · have hz := Lib.hid (HN.out (not_longC_high (by omega)))
        clear hb1 hl0
        go_enter Tryz.func124, Tryz.ntmps124
        go_wp2
        go_ret
        exact ⟨by rw [hz.out]; rfl, Ext.refl _⟩
      · replace hb1 := Lib.hid hb1
        clear hl0
        go_enter Tryz.func124, Tryz.ntmps124
        go_wp2
        go_loop [7] (fun i' => ∃ i : Nat, 2 ≤ i ∧ i ≤ 4 ∧ i' = .int .i64 i ∧ Hid (∀ j, 2 ≤ j → j < i → 128 ≤ bAt s.data.toList j ∧ bAt s.data.toList j ≤ 191)) (fun i' => 4 - (intOf i').toNat)
        case atStart => exact ⟨2, by omega, by omega, rfl, fun j h1 h2 => by omega⟩
        case round =>
          obtain ⟨i, hi2, hin, rfl, HC⟩ := hrel
          by_cases hlt : i < 4
          · have hsi : i < s.size := by omega
            obtain ⟨c, hc⟩ : ∃ c : Int, ((s[i]'hsi).toNat : Int) = c := ⟨_, rfl⟩
            have hc1 : (bAt s.data.toList i : Int) = c := by rw [← sAt hsi]; exact hc
            by_cases c1 : c < 128
            · have hz := Lib.hid (HN.out (not_longC_at hi2 hlt (by omega)))
              clear hc1
              go_wp2
              go_ret
              exact ⟨by rw [hz.out]; rfl, Ext.refl _⟩
            · by_cases c2 : 191 < c
              · have hz := Lib.hid (HN.out (not_longC_at hi2 hlt (by omega)))
                clear hc1
                go_wp2
                go_ret
                exact ⟨by rw [hz.out]; rfl, Ext.refl _⟩
              · have hst : Hid (∀ j, 2 ≤ j → j < i + 1 → 128 ≤ bAt s.data.toList j ∧ bAt s.data.toList j ≤ 191) := fun j h1 h2 => by
                  by_cases hj : j < i
                  · exact HC.out j h1 hj
                  · obtain rfl : j = i := by omega
                    omega
                clear hc1
                go_wp2
                go_round
                case rel => exact ⟨i + 1, by omega, by omega, by go_num, hst⟩
                case measure => simp [intOf]; omega
          · obtain rfl : i = 4 := by omega
            have hz := Lib.hid (HY.out ⟨by rw [← size_len]; exact hn, by have := hb1.out; omega, by have := hb1.out; omega, HC.out⟩)
            go_wp2
            go_ret
            exact ⟨by rw [hz.out]; rfl, Ext.refl _⟩
  · have hz := Lib.hid (HN.out (not_longC_len (by rw [← size_len]; exact hn)))
    clear hl0
    go_enter Tryz.func124, Tryz.ntmps124
    go_wp2
    go_ret
    exact ⟨by rw [hz.out]; rfl, Ext.refl _⟩

set_option maxHeartbeats 1000000 in
theorem longH_w (s : ByteArray) (w : World) (hs : s.size < 9223372036854775807) (h0 : 0 < s.size) (ha : ((s[0]'h0).toNat : Int) = 244) :
    Calls Tryz.prog 124 #[.string s] w fun e w' => e = .returned (.int .i64 (longL s.data.toList)) ∧ Ext w w' := by
  have hb : (bAt s.data.toList 0 : Int) = 244 := by rw [← sAt h0]; exact ha
  have hn0 : ((s.size : Int) == 0) = false := by rw [beq_eq_false_iff_ne]; omega
  have hl0 : 0 < s.data.toList.length := by rw [← size_len]; exact h0
  have e1 : sizeOf' (bAt s.data.toList 0) = 4 := by unfold sizeOf'; (repeat' split) <;> omega
  have e2 : lowOf (bAt s.data.toList 0) = 128 := by unfold lowOf; (repeat' split) <;> omega
  have e3 : highOf (bAt s.data.toList 0) = 143 := by unfold highOf; (repeat' split) <;> omega
  have HY := long_yes hl0 (by omega) (by omega)
  have HN := long_no hl0 (by omega) (by omega)
  rw [e1, e2, e3] at HY HN
  replace HY := Lib.hid HY
  replace HN := Lib.hid HN
  clear e1 e2 e3 hb
  by_cases hn : 4 ≤ s.size
  · obtain ⟨b, hb⟩ : ∃ b : Int, ((s[1]'(by omega)).toNat : Int) = b := ⟨_, rfl⟩
    have hb1 : (bAt s.data.toList 1 : Int) = b := by rw [← sAt (by omega)]; exact hb
    by_cases hlw : b < 128
    · have hz := Lib.hid (HN.out (not_longC_low (by omega)))
      clear hb1 hl0
      go_enter Tryz.func124, Tryz.ntmps124
      go_wp2
      go_ret
      exact ⟨by rw [hz.out]; rfl, Ext.refl _⟩
    · by_cases hhg : 143 < b
      · have hz := Lib.hid (HN.out (not_longC_high (by omega)))
        clear hb1 hl0
        go_enter Tryz.func124, Tryz.ntmps124
        go_wp2
        go_ret
        exact ⟨by rw [hz.out]; rfl, Ext.refl _⟩
      · replace hb1 := Lib.hid hb1
        clear hl0
        go_enter Tryz.func124, Tryz.ntmps124
        go_wp2
        go_loop [7] (fun i' => ∃ i : Nat, 2 ≤ i ∧ i ≤ 4 ∧ i' = .int .i64 i ∧ Hid (∀ j, 2 ≤ j → j < i → 128 ≤ bAt s.data.toList j ∧ bAt s.data.toList j ≤ 191)) (fun i' => 4 - (intOf i').toNat)
        case atStart => exact ⟨2, by omega, by omega, rfl, fun j h1 h2 => by omega⟩
        case round =>
          obtain ⟨i, hi2, hin, rfl, HC⟩ := hrel
          by_cases hlt : i < 4
          · have hsi : i < s.size := by omega
            obtain ⟨c, hc⟩ : ∃ c : Int, ((s[i]'hsi).toNat : Int) = c := ⟨_, rfl⟩
            have hc1 : (bAt s.data.toList i : Int) = c := by rw [← sAt hsi]; exact hc
            by_cases c1 : c < 128
            · have hz := Lib.hid (HN.out (not_longC_at hi2 hlt (by omega)))
              clear hc1
              go_wp2
              go_ret
              exact ⟨by rw [hz.out]; rfl, Ext.refl _⟩
            · by_cases c2 : 191 < c
              · have hz := Lib.hid (HN.out (not_longC_at hi2 hlt (by omega)))
                clear hc1
                go_wp2
                go_ret
                exact ⟨by rw [hz.out]; rfl, Ext.refl _⟩
              · have hst : Hid (∀ j, 2 ≤ j → j < i + 1 → 128 ≤ bAt s.data.toList j ∧ bAt s.data.toList j ≤ 191) := fun j h1 h2 => by
                  by_cases hj : j < i
                  · exact HC.out j h1 hj
                  · obtain rfl : j = i := by omega
                    omega
                clear hc1
                go_wp2
                go_round
                case rel => exact ⟨i + 1, by omega, by omega, by go_num, hst⟩
                case measure => simp [intOf]; omega
          · obtain rfl : i = 4 := by omega
            have hz := Lib.hid (HY.out ⟨by rw [← size_len]; exact hn, by have := hb1.out; omega, by have := hb1.out; omega, HC.out⟩)
            go_wp2
            go_ret
            exact ⟨by rw [hz.out]; rfl, Ext.refl _⟩
  · have hz := Lib.hid (HN.out (not_longC_len (by rw [← size_len]; exact hn)))
    clear hl0
    go_enter Tryz.func124, Tryz.ntmps124
    go_wp2
    go_ret
    exact ⟨by rw [hz.out]; rfl, Ext.refl _⟩

set_option maxHeartbeats 1000000 in
theorem long_w (s : ByteArray) (w : World) (hs : s.size < 9223372036854775807) :
    Calls Tryz.prog 124 #[.string s] w fun e w' => e = .returned (.int .i64 (longL s.data.toList)) ∧ Ext w w' := by
  by_cases h0 : s.size = 0
  · have hz : longL s.data.toList = 0 := by
      have : s.data.toList = [] := List.length_eq_zero_iff.1 (by rw [← size_len]; exact h0)
      rw [this]; rfl
    have hn : ((s.size : Int) == 0) = true := by rw [beq_iff_eq]; omega
    replace hz := Lib.hid hz
    clear h0
    go_enter Tryz.func124, Tryz.ntmps124
    go_wp2
    go_ret
    exact ⟨by rw [hz.out]; rfl, Ext.refl _⟩
  · have hn : ((s.size : Int) == 0) = false := by rw [beq_eq_false_iff_ne]; omega
    have h00 : 0 < s.size := by omega
    have hl0 : 0 < s.data.toList.length := by rw [← size_len]; exact h00
    obtain ⟨a, ha⟩ : ∃ a : Int, ((s[0]'h00).toNat : Int) = a := ⟨_, rfl⟩
    have hb : (bAt s.data.toList 0 : Int) = a := by rw [← sAt h00]; exact ha
    by_cases h1 : a < 128
    · have hz := Lib.hid (long_head hl0 (by omega))
      clear hb hl0
      go_enter Tryz.func124, Tryz.ntmps124
      go_wp2
      go_ret
      exact ⟨by rw [hz.out]; rfl, Ext.refl _⟩
    · by_cases h2 : a < 194
      · have hz := Lib.hid (long_bad hl0 (by omega) (by omega))
        clear hb hl0
        go_enter Tryz.func124, Tryz.ntmps124
        go_wp2
        go_ret
        exact ⟨by rw [hz.out]; rfl, Ext.refl _⟩
      · by_cases h3 : 244 < a
        · have hz := Lib.hid (long_bad hl0 (by omega) (by omega))
          clear hb hl0
          go_enter Tryz.func124, Tryz.ntmps124
          go_wp2
          go_ret
          exact ⟨by rw [hz.out]; rfl, Ext.refl _⟩
        · by_cases c1 : a ≤ 223
          · exact longA_w s w hs h00 a (by omega) c1 ha
          · by_cases c2 : a = 224
            · exact longB_w s w hs h00 (ha.trans c2)
            · by_cases c3 : a = 237
              · exact longE_w s w hs h00 (ha.trans c3)
              · by_cases c4 : a ≤ 239
                · exact longD_w s w hs h00 a (by omega) c4 c3 ha
                · by_cases c5 : a = 240
                  · exact longF_w s w hs h00 (ha.trans c5)
                  · by_cases c6 : a = 244
                    · exact longH_w s w hs h00 (ha.trans c6)
                    · exact longG_w s w hs h00 a (by omega) (by omega) ha

end Go.Proofs.YthmhalcloogniaaGreatDoor

namespace Go.Dm
open Go Go.RowKit
/-- The variables that Get keeps, in five blocks from B on. -/
structure Kept (B : Nat) (s : ByteArray) (at' : Int) (u n : Int) (w : World) : Prop where
  s : Cell B (.string s) w
  a : Cell (B + 1) (.int .i64 at') w
  u : Cell (B + 1 + 1) (.int .u64 u) w
  n : Cell (B + 1 + 1 + 1) (.int .i64 n) w
  o : Cell (B + 1 + 1 + 1 + 1) (.bool false) w
theorem Kept.ext {B : Nat} {s : ByteArray} {at' u n : Int} {w w' : World} (h : Kept B s at' u n w) (hx : Ext w w') : Kept B s at' u n w' :=
  ⟨h.s.ext hx, h.a.ext hx, h.u.ext hx, h.n.ext hx, h.o.ext hx⟩
theorem Kept.setU {B : Nat} {s : ByteArray} {at' u n : Int} {w : World} (h : Kept B s at' u n w) (v : Int) : Kept B s at' v n (w.setCell ⟨B + 1 + 1, 0, none⟩ (.int .u64 v)) :=
  ⟨h.s.other (by omega) _, h.a.other (by omega) _, h.u.set _, h.n.other (by omega) _, h.o.other (by omega) _⟩
theorem Kept.setN {B : Nat} {s : ByteArray} {at' u n : Int} {w : World} (h : Kept B s at' u n w) (v : Int) : Kept B s at' u v (w.setCell ⟨B + 1 + 1 + 1, 0, none⟩ (.int .i64 v)) :=
  ⟨h.s.other (by omega) _, h.a.other (by omega) _, h.u.other (by omega) _, h.n.set _, h.o.other (by omega) _⟩
theorem Kept.four {B : Nat} {s : ByteArray} {at' u n : Int} {w : World} (h : Kept B s at' u n w) : Go.Dm.Cell (B + 1 + 1 + 1) (.int .i64 n) w ∧ Go.Dm.Cell (B + 1 + 1) (.int .u64 u) w ∧ Go.Dm.Cell B (.string s) w ∧ Go.Dm.Cell (B + 1) (.int .i64 at') w := ⟨h.n, h.u, h.s, h.a⟩
theorem Cell.new (w : World) (v : Value) (t : TypeId) : Cell w.heap.size v (w.alloc (.cells #[v] t)) :=
  ⟨by simp, by simp, by simp⟩
/-- The five variables are laid. -/
def laid5 (w : World) (s : ByteArray) (p : Int) (t0 t1 t2 t3 t4 : TypeId) : World :=
  ((((w.alloc (.cells #[.string s] t0)).alloc (.cells #[.int .i64 p] t1)).alloc (.cells #[.int .u64 0] t2)).alloc (.cells #[.int .i64 0] t3)).alloc (.cells #[.bool false] t4)
theorem laid5_ext (w : World) (s : ByteArray) (p : Int) (t0 t1 t2 t3 t4 : TypeId) : Ext w (laid5 w s p t0 t1 t2 t3 t4) :=
  (((((Ext.refl w).alloc _).alloc _).alloc _).alloc _).alloc _
theorem laid5_kept (w : World) (s : ByteArray) (p : Int) (t0 t1 t2 t3 t4 : TypeId) : Kept w.heap.size s p 0 0 (laid5 w s p t0 t1 t2 t3 t4) := by
  have c0 := Cell.new w (.string s) t0
  have c1 := Cell.new (w.alloc (.cells #[.string s] t0)) (.int .i64 p) t1
  have c2 := Cell.new ((w.alloc (.cells #[.string s] t0)).alloc (.cells #[.int .i64 p] t1)) (.int .u64 0) t2
  have c3 := Cell.new (((w.alloc (.cells #[.string s] t0)).alloc (.cells #[.int .i64 p] t1)).alloc (.cells #[.int .u64 0] t2)) (.int .i64 0) t3
  have c4 := Cell.new ((((w.alloc (.cells #[.string s] t0)).alloc (.cells #[.int .i64 p] t1)).alloc (.cells #[.int .u64 0] t2)).alloc (.cells #[.int .i64 0] t3)) (.bool false) t4
  simp only [World.size_alloc] at c1 c2 c3 c4
  exact ⟨c0.ext ((((((Ext.refl _).alloc _).alloc _).alloc _).alloc _)), c1.ext (((((Ext.refl _).alloc _).alloc _).alloc _)), c2.ext ((((Ext.refl _).alloc _).alloc _)), c3.ext (((Ext.refl _).alloc _)), c4⟩
theorem below_door {w wr wz wy w'' : World} {a b : Addr} {x y : Value} (hL : Below w.heap.size ((wy.setCell a y)) w'') (hb : Below w.heap.size w wr) (hxz : Ext wr wz) (hxy : Ext (wz.setCell b x) wy) (hB : w.heap.size < wr.heap.size)
    (ha : w.heap.size ≤ a.block := by first | omega | (simp; omega)) (hbb : w.heap.size ≤ b.block := by first | omega | (simp; omega)) : Ext w w'' := by
  have h1 := hxz.size
  have h2 := hxy.size
  rw [World.size_setCell] at h2
  exact ((((hb.trans (below_of_ext hxz (by omega))).setCell (p := b) hbb x).trans (below_of_ext hxy (by rw [World.size_setCell]; omega))).setCell (p := a) ha y).trans hL
end Go.Dm
namespace Go.Proofs.YthmhalcloogniaaGreatDoor
open Go.RowKit Go.Dm

set_option maxHeartbeats 4000000 in
set_option maxRecDepth 100000 in
theorem wget_in (s : ByteArray) (p : Nat) (w : World) (hs : s.size ≤ 281474976710656) (hp : p < s.size) :
    Calls Tryz.prog 35 #[.string s, .int .i64 p] w fun e w' => e = .returned (.tuple #[.int .u64 (getI s.data.toList p).1, .int .i64 (getI s.data.toList p).2.1, .bool (getI s.data.toList p).2.2]) ∧ Ext w w' := by
  have hmf : ∀ (fn : Fn) (first cap : Array Value) (w : World), (Instr.makeFunc fn first cap).run Tryz.prog w = .ok (.func fn first cap) w := fun _ _ _ _ => rfl
  go_enter_defers Tryz.func35, Tryz.ntmps35
  have hK := laid5_kept w s p 9 3 22 3 4
  have hE := laid5_ext w s p 9 3 22 3 4
  go_wp2
  change Code.wp _ _ _ _ (laid5 w s p 9 3 22 3 4)
  generalize laid5 w s p 9 3 22 3 4 = W at hK hE
  go_loopw [7] (fun i' wr => ∃ (k j : Nat), k = p + j ∧ k ≤ s.size ∧ j ≤ 10 ∧ i' = .int .i64 k ∧ Below w.heap.size w wr ∧ Kept w.heap.size s p ((scanV (s.data.toList.drop p) j % 18446744073709551616 : Nat) : Int) 0 wr ∧ Hid (∀ i, i < j → endsAt (s.data.toList.drop p) i = false)) (fun i' _ => s.size - (intOf i').toNat)
  case atStart => exact ⟨p, 0, by omega, by omega, by omega, rfl, hE, hK, fun i hi => by omega⟩
  case round =>
    obtain ⟨k, j, hkj, hks, hj, rfl, hb, hK, HN⟩ := hrel
    by_cases hlt : k < s.size
    · by_cases hj10 : j < 10
      · have hk10 : k < p + 10 := by omega
        obtain ⟨b, hbk⟩ : ∃ b : Int, ((s[k]'hlt).toNat : Int) = b := ⟨_, rfl⟩
        have hb0 : 0 ≤ b ∧ b ≤ 255 := by rw [← hbk, sAt hlt]; have := bAt_lt s.data.toList k; omega
        have hkp : (k : Int) - (p : Int) = (j : Int) := by omega
        generalize hX : ((scanV (s.data.toList.drop p) j % 18446744073709551616 : Nat) : Int) = X at hK
        replace hkj := Lib.hid hkj
        replace hX := Lib.hid hX
        replace hbk := Lib.hid hbk
        obtain ⟨⟨s1, s2, _⟩, ⟨a1, a2, _⟩, ⟨u1, u2, _⟩, ⟨n1, n2, _⟩, _⟩ := id hK
        go_wp2_with fail
        try simp only [Act.put, List.setIfInBounds_toArray, List.set_cons_succ, List.set_cons_zero]
        refine Dm.wp_region_finN (I := (Kept w.heap.size s p X 0)) (z := 12) 13 (Dm.bits 13 0) (by kernel_rfl) (by kernel_rfl) (by kernel_rfl) ?_
        refine Dm.wpF_take (i := 0) (listed' := (Dm.bits 13 1)) (fun _ _ h hx => h.ext hx) hK (by kernel_rfl) (by kernel_rfl) rfl (fun _ _ _ _ h => h) ?_; apply Exists.intro; refine And.intro (fun wq hwq => ?_) ?_
        · obtain ⟨⟨s1, s2, _⟩, ⟨a1, a2, _⟩, ⟨u1, u2, _⟩, ⟨n1, n2, _⟩, _⟩ := hwq; go_big_quiet_step (fail); exact wpQuiet_nil rfl
        refine Dm.wpF_take (i := 1) (listed' := (Dm.bits 13 3)) (fun _ _ h hx => h.ext hx) hK (by kernel_rfl) (by kernel_rfl) rfl (fun _ _ _ _ h => h) ?_; apply Exists.intro; refine And.intro (fun wq hwq => ?_) ?_
        · obtain ⟨⟨s1, s2, _⟩, ⟨a1, a2, _⟩, ⟨u1, u2, _⟩, ⟨n1, n2, _⟩, _⟩ := hwq; go_big_quiet_step (fail); exact wpQuiet_nil rfl
        refine Dm.wpF_take (i := 2) (listed' := (Dm.bits 13 7)) (fun _ _ h hx => h.ext hx) hK (by kernel_rfl) (by kernel_rfl) rfl (fun _ _ _ _ h => h) ?_; apply Exists.intro; refine And.intro (fun wq hwq => ?_) ?_
        · obtain ⟨⟨s1, s2, _⟩, ⟨a1, a2, _⟩, ⟨u1, u2, _⟩, ⟨n1, n2, _⟩, _⟩ := hwq; go_big_quiet_step (fail); exact wpQuiet_nil rfl
        refine Dm.wpF_take (i := 3) (listed' := (Dm.bits 13 15)) (fun _ _ h hx => h.ext hx) hK (by kernel_rfl) (by kernel_rfl) rfl (fun _ _ _ _ h => h) ?_; apply Exists.intro; refine And.intro (fun wq hwq => ?_) ?_
        · obtain ⟨⟨s1, s2, _⟩, ⟨a1, a2, _⟩, ⟨u1, u2, _⟩, ⟨n1, n2, _⟩, _⟩ := hwq; go_big_quiet_step (fail); exact wpQuiet_nil rfl
        refine Dm.wpF_take (i := 4) (listed' := (Dm.bits 13 31)) (fun _ _ h hx => h.ext hx) hK (by kernel_rfl) (by kernel_rfl) rfl (fun _ _ _ _ h => h) ?_; apply Exists.intro; refine And.intro (fun wq hwq => ?_) ?_
        · obtain ⟨⟨s1, s2, _⟩, ⟨a1, a2, _⟩, ⟨u1, u2, _⟩, ⟨n1, n2, _⟩, _⟩ := hwq; go_big_quiet_step (fail); exact wpQuiet_nil rfl
        refine Dm.wpF_take (i := 5) (listed' := (Dm.bits 13 63)) (fun _ _ h hx => h.ext hx) hK (by kernel_rfl) (by kernel_rfl) rfl (fun _ _ _ _ h => h) ?_; apply Exists.intro; refine And.intro (fun wq hwq => ?_) ?_
        · obtain ⟨⟨s1, s2, _⟩, ⟨a1, a2, _⟩, ⟨u1, u2, _⟩, ⟨n1, n2, _⟩, _⟩ := hwq; go_big_quiet_step (fail); exact wpQuiet_nil rfl
        refine Dm.wpF_take (i := 6) (listed' := (Dm.bits 13 127)) (fun _ _ h hx => h.ext hx) hK (by kernel_rfl) (by kernel_rfl) rfl (fun _ _ _ _ h => h) ?_; apply Exists.intro; refine And.intro (fun wq hwq => ?_) ?_
        · obtain ⟨⟨s1, s2, _⟩, ⟨a1, a2, _⟩, ⟨u1, u2, _⟩, ⟨n1, n2, _⟩, _⟩ := hwq; go_big_quiet_step (fail); exact wpQuiet_nil rfl
        refine Dm.wpF_take (i := 7) (listed' := (Dm.bits 13 255)) (fun _ _ h hx => h.ext hx) hK (by kernel_rfl) (by kernel_rfl) rfl (fun _ _ _ _ h => h) ?_; apply Exists.intro; refine And.intro (fun wq hwq => ?_) ?_
        · obtain ⟨⟨s1, s2, _⟩, ⟨a1, a2, _⟩, ⟨u1, u2, _⟩, ⟨n1, n2, _⟩, _⟩ := hwq; go_big_quiet_step (fail); exact wpQuiet_nil rfl
        refine Dm.wpF_take (i := 8) (listed' := (Dm.bits 13 511)) (fun _ _ h hx => h.ext hx) hK (by kernel_rfl) (by kernel_rfl) rfl (fun _ _ _ _ h => h) ?_; apply Exists.intro; refine And.intro (fun wq hwq => ?_) ?_
        · obtain ⟨⟨s1, s2, _⟩, ⟨a1, a2, _⟩, ⟨u1, u2, _⟩, ⟨n1, n2, _⟩, _⟩ := hwq; go_big_quiet_step (fail); exact wpQuiet_nil rfl
        refine Dm.wpF_take (i := 9) (listed' := (Dm.bits 13 1023)) (fun _ _ h hx => h.ext hx) hK (by kernel_rfl) (by kernel_rfl) rfl (fun _ _ _ _ h => h) ?_; apply Exists.intro; refine And.intro (fun wq hwq => ?_) ?_
        · obtain ⟨⟨s1, s2, _⟩, ⟨a1, a2, _⟩, ⟨u1, u2, _⟩, ⟨n1, n2, _⟩, _⟩ := hwq; go_big_quiet_step (fail); exact wpQuiet_nil rfl
        refine Dm.wpF_take (i := 10) (listed' := (Dm.bits 13 2047)) (fun _ _ h hx => h.ext hx) hK (by kernel_rfl) (by kernel_rfl) rfl (fun _ _ _ _ h => h) ?_; apply Exists.intro; refine And.intro (fun wq hwq => ?_) ?_
        · obtain ⟨⟨s1, s2, _⟩, ⟨a1, a2, _⟩, ⟨u1, u2, _⟩, ⟨n1, n2, _⟩, _⟩ := hwq; go_big_quiet_step (fail); exact wpQuiet_nil rfl
        refine Dm.wpF_take (i := 11) (listed' := (Dm.bits 13 4095)) (fun _ _ h hx => h.ext hx) hK (by kernel_rfl) (by kernel_rfl) rfl (fun _ _ _ _ h => h) ?_; apply Exists.intro; refine And.intro (fun wq hwq => ?_) ?_
        · obtain ⟨⟨s1, s2, _⟩, ⟨a1, a2, _⟩, ⟨u1, u2, _⟩, ⟨n1, n2, _⟩, _⟩ := hwq; go_big_quiet_step (fail); exact wpQuiet_nil rfl
        refine Dm.wpF_one (i := 12) (listed' := (Dm.bits 13 8191)) (by kernel_rfl) (by kernel_rfl) rfl (fun wz hxz => ?_)
        have hKz := hK.ext hxz
        obtain ⟨v1, v2, v3⟩ := id hKz.u
        replace hKz := Lib.hid hKz
        go_wp2_with fail
        first | refine ⟨fun h => absurd rfl h, ?_⟩ | skip
        refine Dm.wpF_done (by kernel_rfl) (fun wy hxy => ?_)
        refine Dm.NoPanic.back ?_
        have E : Go.bits .or .u64 X (IntKind.u64.wrap (IntKind.u64.wrap (Go.bits .andNot .u8 ((s[k]'hlt).toNat : Int) 128) * 2 ^ (7 * j))) = ((scanV (s.data.toList.drop p) (j + 1) % 18446744073709551616 : Nat) : Int) := by
          have hX' := hX.out
          have hbd : bAt (s.data.toList.drop p) j = bAt s.data.toList k := by rw [hkj.out]; simp [bAt, List.getD_eq_getElem?_getD]
          rw [← hX', sAt hlt, ← hbd]
          exact scan_step _ (bAt_lt _ _)
        rw [E] at hxy; simp only [E]; clear E
        have hK2 := ((hKz.out).setU ((scanV (s.data.toList.drop p) (j + 1) % 18446744073709551616 : Nat) : Int)).ext hxy
        obtain ⟨⟨s1, s2, _⟩, ⟨a1, a2, _⟩, ⟨u1, u2, _⟩, ⟨n1, n2, n3⟩, _⟩ := id hK2
        go_wp2_with fail
        case roundEnd =>
          rename_i hge
          have hsz := hK.s.1
          have hsz2 := hxz.size
          have hsz3 := hxy.size
          rw [World.size_setCell] at hsz3
          have HB : Below w.heap.size w wy := ((hb.trans (below_of_ext hxz (Nat.le_of_lt hsz))).setCell (p := ⟨w.heap.size + 1 + 1, 0, none⟩) (by show w.heap.size ≤ w.heap.size + 1 + 1; omega) _).trans (below_of_ext hxy (by rw [World.size_setCell]; omega))
          have hkj' := hkj.out
          refine ⟨⟨k + 1, j + 1, by omega, by omega, by omega, by push_cast; rfl, HB, hK2, Lib.hid (fun i hi => ?_)⟩, by simp only [intOf]; omega⟩
          rcases Nat.lt_or_ge i j with h | h
          · exact HN.out i h
          · have : i = j := by omega
            subst this
            have hbd : bAt (s.data.toList.drop p) i = bAt s.data.toList k := by rw [hkj']; simp [bAt, List.getD_eq_getElem?_getD]
            rw [sAt hlt] at hge
            unfold endsAt
            rw [hbd, decide_eq_false_iff_not]; omega
        rename_i hle
        have hK3 := hK2.setN ((k : Int) + 1)
        refine leaves_cons (f := 79) (args := #[.pointer (some ⟨w.heap.size + 1 + 1 + 1, 0, none⟩), .pointer (some ⟨w.heap.size + 1 + 1, 0, none⟩), .pointer (some ⟨w.heap.size, 0, none⟩), .pointer (some ⟨w.heap.size + 1, 0, none⟩), .pointer (some ⟨w.heap.size + 1 + 1 + 1 + 1, 0, none⟩)]) (by simp) (by simp [go_sem]) ?_
        have hkj' := hkj.out
        have hU : U64 (scanV (s.data.toList.drop p) (j + 1) % 18446744073709551616) := Nat.mod_lt _ (by decide)
        have hK4 : Kept w.heap.size s p ((scanV (s.data.toList.drop p) (j + 1) % 18446744073709551616 : Nat) : Int) ((k + 1 : Nat) : Int) (wy.setCell ⟨w.heap.size + 1 + 1 + 1, 0, none⟩ (.int .i64 ((k : Int) + 1))) := by rw [show ((k + 1 : Nat) : Int) = (k : Int) + 1 by push_cast; rfl]; exact hK3
        refine (get1_yes w.heap.size s p (k + 1) _ _ _ _ _ _ _ _ ⟨by omega, by omega, by omega⟩ (by rw [World.size_setCell]; omega) hU (by omega) (by omega) rfl hK4.four hK4.o (by omega) (by omega) (by omega)).mono ?_
        rintro e u' w'' ⟨rfl, rfl, hL⟩
        obtain ⟨hL1, ⟨hL2a, hL2, _⟩, ⟨hL3a, hL3, _⟩, ⟨hL4a, hL4, _⟩⟩ := hL
        simp [Leaves, settle, results, Tryz.results35, go_sem, hL2, hL3, hL4]
        have hbd : bAt (s.data.toList.drop p) j = bAt s.data.toList k := by rw [hkj']; simp [bAt, List.getD_eq_getElem?_getD]
        have hen : endsAt (s.data.toList.drop p) j = true := by rw [sAt hlt] at hle; unfold endsAt; rw [hbd, decide_eq_true_eq]; omega
        have hln : s.data.toList.length = s.size := rfl
        have G := getI_in (l := s.data.toList) (k := p) (by rw [hln]; exact hp)
        rw [getL_at hj10 (by rw [List.length_drop, hln]; omega) HN.out hen] at G
        have hjj : k + 1 - p = j + 1 := by omega
        refine ⟨?_, below_door hL1 hb hxz hxy hK.s.1⟩
        rw [G, hjj]
        split
        · rename_i hc; simp only [hc, decide_true]; refine ⟨by omega, by omega, trivial⟩
        · rename_i hc; simp [hc]
      · have hkp : (k : Int) = (p : Int) + 10 := by omega
        replace hkj := Lib.hid hkj
        obtain ⟨⟨s1, s2, _⟩, ⟨a1, a2, _⟩, ⟨u1, u2, _⟩, ⟨n1, n2, _⟩, _⟩ := id hK
        have hlk : ¬ (k : Int) < (p : Int) + 10 := by omega
        replace hkp := Lib.hid hkp
        go_wp2_with fail
        refine leaves_cons (f := 79) (args := #[.pointer (some ⟨w.heap.size + 1 + 1 + 1, 0, none⟩), .pointer (some ⟨w.heap.size + 1 + 1, 0, none⟩), .pointer (some ⟨w.heap.size, 0, none⟩), .pointer (some ⟨w.heap.size + 1, 0, none⟩), .pointer (some ⟨w.heap.size + 1 + 1 + 1 + 1, 0, none⟩)]) (by simp) (by simp [go_sem]) ?_
        refine (get1_no w.heap.size _ _ _ _ _ _ _ ⟨by omega, by omega, by omega⟩ (Nat.le_of_lt s1) hK.n hK.u hK.o (by omega) (by omega) (by omega)).mono ?_
        rintro e u' w'' ⟨rfl, rfl, hL⟩
        obtain ⟨hL1, ⟨hL2a, hL2, _⟩, ⟨hL3a, hL3, _⟩, ⟨hL4a, hL4, _⟩⟩ := hL
        have hln : s.data.toList.length = s.size := rfl
        have hkj' := hkj.out
        have G := getI_in (l := s.data.toList) (k := p) (by rw [hln]; exact hp)
        rw [getL_no (fun i hi => HN.out i (by rw [List.length_drop, hln] at hi; omega))] at G
        simp [Leaves, settle, results, Tryz.results35, go_sem, hL2, hL3, hL4, G]
        exact hb.trans hL1
    · have hks : k = s.size := by omega
      subst hks
      replace hkj := Lib.hid hkj
      obtain ⟨⟨s1, s2, _⟩, ⟨a1, a2, _⟩, ⟨u1, u2, _⟩, ⟨n1, n2, _⟩, _⟩ := id hK
      go_wp2_with fail
      refine leaves_cons (f := 79) (args := #[.pointer (some ⟨w.heap.size + 1 + 1 + 1, 0, none⟩), .pointer (some ⟨w.heap.size + 1 + 1, 0, none⟩), .pointer (some ⟨w.heap.size, 0, none⟩), .pointer (some ⟨w.heap.size + 1, 0, none⟩), .pointer (some ⟨w.heap.size + 1 + 1 + 1 + 1, 0, none⟩)]) (by simp) (by simp [go_sem]) ?_
      refine (get1_no w.heap.size _ _ _ _ _ _ _ ⟨by omega, by omega, by omega⟩ (Nat.le_of_lt s1) hK.n hK.u hK.o (by omega) (by omega) (by omega)).mono ?_
      rintro e u' w'' ⟨rfl, rfl, hL⟩
      obtain ⟨hL1, ⟨hL2a, hL2, _⟩, ⟨hL3a, hL3, _⟩, ⟨hL4a, hL4, _⟩⟩ := hL
      have hln : s.data.toList.length = s.size := rfl
      have hkj' := hkj.out
      have G := getI_in (l := s.data.toList) (k := p) (by rw [hln]; exact hp)
      rw [getL_no (fun i hi => HN.out i (by rw [List.length_drop, hln] at hi; omega))] at G
      simp [Leaves, settle, results, Tryz.results35, go_sem, hL2, hL3, hL4, G]
      exact hb.trans hL1


set_option maxHeartbeats 4000000 in
set_option maxRecDepth 100000 in
theorem wget_out (s : ByteArray) (p : Int) (w : World) (hp : p < 0 ∨ (s.size : Int) ≤ p) :
    Calls Tryz.prog 35 #[.string s, .int .i64 p] w fun e w' => e = .returned (.tuple #[.int .u64 (getI s.data.toList p).1, .int .i64 (getI s.data.toList p).2.1, .bool (getI s.data.toList p).2.2]) ∧ Ext w w' := by
  have hmf : ∀ (fn : Fn) (first cap : Array Value) (w : World), (Instr.makeFunc fn first cap).run Tryz.prog w = .ok (.func fn first cap) w := fun _ _ _ _ => rfl
  have hln : s.data.toList.length = s.size := rfl
  have G := getI_out (l := s.data.toList) (at' := p) (by rw [hln]; exact hp)
  rw [G]
  clear G
  go_enter_defers Tryz.func35, Tryz.ntmps35
  have hK := laid5_kept w s p 9 3 22 3 4
  have hE := laid5_ext w s p 9 3 22 3 4
  rcases hp with hp | hp
  · go_wp2
    change bodyPostD _ _ _ _ _ (laid5 w s p 9 3 22 3 4)
    generalize laid5 w s p 9 3 22 3 4 = wr at hK hE
    have s1 := hK.s.1
    refine leaves_cons (f := 79) (args := #[.pointer (some ⟨w.heap.size + 1 + 1 + 1, 0, none⟩), .pointer (some ⟨w.heap.size + 1 + 1, 0, none⟩), .pointer (some ⟨w.heap.size, 0, none⟩), .pointer (some ⟨w.heap.size + 1, 0, none⟩), .pointer (some ⟨w.heap.size + 1 + 1 + 1 + 1, 0, none⟩)]) (by simp) (by simp [go_sem]) ?_
    refine (get1_no w.heap.size _ _ _ _ _ _ _ ⟨by omega, by omega, by omega⟩ (Nat.le_of_lt s1) hK.n hK.u hK.o (by omega) (by omega) (by omega)).mono ?_
    rintro e u' w'' ⟨rfl, rfl, hL⟩
    obtain ⟨hL1, ⟨hL2a, hL2, _⟩, ⟨hL3a, hL3, _⟩, ⟨hL4a, hL4, _⟩⟩ := hL
    simp [Leaves, settle, results, Tryz.results35, go_sem, hL2, hL3, hL4]
    exact Below.trans hE hL1
  · go_wp2
    change bodyPostD _ _ _ _ _ (laid5 w s p 9 3 22 3 4)
    generalize laid5 w s p 9 3 22 3 4 = wr at hK hE
    have s1 := hK.s.1
    refine leaves_cons (f := 79) (args := #[.pointer (some ⟨w.heap.size + 1 + 1 + 1, 0, none⟩), .pointer (some ⟨w.heap.size + 1 + 1, 0, none⟩), .pointer (some ⟨w.heap.size, 0, none⟩), .pointer (some ⟨w.heap.size + 1, 0, none⟩), .pointer (some ⟨w.heap.size + 1 + 1 + 1 + 1, 0, none⟩)]) (by simp) (by simp [go_sem]) ?_
    refine (get1_no w.heap.size _ _ _ _ _ _ _ ⟨by omega, by omega, by omega⟩ (Nat.le_of_lt s1) hK.n hK.u hK.o (by omega) (by omega) (by omega)).mono ?_
    rintro e u' w'' ⟨rfl, rfl, hL⟩
    obtain ⟨hL1, ⟨hL2a, hL2, _⟩, ⟨hL3a, hL3, _⟩, ⟨hL4a, hL4, _⟩⟩ := hL
    simp [Leaves, settle, results, Tryz.results35, go_sem, hL2, hL3, hL4]
    exact Below.trans hE hL1

/-- The program's Get, at any place of a text. -/
theorem wget_w (s : ByteArray) (p : Int) (w : World) (hs : s.size ≤ 281474976710656) :
    Calls Tryz.prog 35 #[.string s, .int .i64 p] w fun e w' => e = .returned (.tuple #[.int .u64 (getI s.data.toList p).1, .int .i64 (getI s.data.toList p).2.1, .bool (getI s.data.toList p).2.2]) ∧ Ext w w' := by
  by_cases h : p < 0 ∨ (s.size : Int) ≤ p
  · exact wget_out s p w h
  · obtain ⟨q, rfl⟩ : ∃ q : Nat, p = (q : Int) := ⟨p.toNat, by omega⟩
    exact wget_in s q w hs (by omega)

end Go.Proofs.YthmhalcloogniaaGreatDoor

namespace Go.Dm
open Go Go.RowKit

theorem results3 {fn : Func} {t u v : Tmp} (h : fn.results = #[.tmp t, .tmp u, .tmp v]) (tmps : Array Value) (P : Program) (w : World) :
    (results fn tmps).run P w = .ok (.tuple #[tmps.getD t undef, tmps.getD u undef, tmps.getD v undef]) w := by
  simp [results, h]

/-- What a reader finds at a place of a text. -/
def atI {α : Type} (g : Bs → Option (α × Nat)) (d : α) (l : Bs) (p : Int) : α × Int × Bool :=
  if p < 0 ∨ (l.length : Int) ≤ p then (d, 0, false) else
    match g (l.drop p.toNat) with
    | some (u, n) => (u, p + n, true)
    | none => (d, 0, false)

theorem getI_at (l : Bs) (p : Int) : getI l p = atI getL 0 l p := by
  unfold getI atI
  split
  · rfl
  · cases getL (l.drop p.toNat) <;> rfl

/-- The text that stands first. -/
def getTextL (most : Nat) (l : Bs) : Option (Bs × Nat) :=
  match getL l with
  | some (u, n) => if u ≤ most ∧ u ≤ l.length - n then some ((l.drop n).take u, n + u) else none
  | none => none

theorem getTextL_none {most : Nat} {l : Bs} (h : getL l = none) : getTextL most l = none := by
  unfold getTextL; rw [h]
theorem getTextL_some {most : Nat} {l : Bs} {u n : Nat} (h : getL l = some (u, n)) : getTextL most l = if u ≤ most ∧ u ≤ l.length - n then some ((l.drop n).take u, n + u) else none := by
  unfold getTextL; rw [h]

/-- What is got is what was put. -/
theorem getTextL_iff {most : Nat} {l t : Bs} {n : Nat} (hl : U64 l.length) : getTextL most l = some (t, n) ↔ t.length ≤ most ∧ n = (putL t.length ++ t).length ∧ putL t.length ++ t = l.take n ∧ n ≤ l.length := by
  constructor
  · intro h
    cases hg : getL l with
    | none => rw [getTextL_none hg] at h; cases h
    | some x =>
      obtain ⟨u, m⟩ := x
      rw [getTextL_some hg] at h
      split at h
      · rename_i hc
        injection h with h
        injection h with h1 h2
        obtain ⟨e1, e2, e3, e4⟩ := getL_iff.1 hg
        have hlen : t.length = u := by rw [← h1, List.length_take, List.length_drop]; omega
        subst h2
        rw [hlen, List.length_append, ← e2, hlen]
        refine ⟨hc.1, rfl, ?_, by omega⟩
        rw [e3, ← h1, List.take_add]
      · cases h
  · rintro ⟨h1, rfl, h3, h4⟩
    have hu : U64 t.length := by
      rw [List.length_append] at h4
      exact Nat.lt_of_le_of_lt (by omega) hl
    have hlen : (putL t.length ++ t).length = (putL t.length).length + t.length := List.length_append
    have hg : getL l = some (t.length, (putL t.length).length) := by
      refine getL_iff.2 ⟨hu, rfl, ?_, by omega⟩
      have := congrArg (List.take (putL t.length).length) h3
      rw [List.take_left, List.take_take, Nat.min_eq_left (by omega)] at this
      exact this
    rw [getTextL_some hg, if_pos ⟨h1, by omega⟩]
    have : t = (l.drop (putL t.length).length).take t.length := by
      have := congrArg (List.drop (putL t.length).length) h3
      rw [List.drop_left, hlen, List.drop_take] at this
      rw [Nat.add_sub_cancel_left] at this
      exact this
    rw [hlen]
    congr 2
    exact this.symm
end Go.Dm
namespace Go.Proofs.YthmhalcloogniaaGreatDoor
open Go.RowKit Go.Dm

set_option maxHeartbeats 4000000 in
set_option maxRecDepth 100000 in
theorem wgettext_w (s : ByteArray) (p : Int) (most : Nat) (w : World) (hs : s.size ≤ 281474976710656) (hm : most ≤ 140737488355328) :
    Calls Tryz.prog 33 #[.string s, .int .i64 p, .int .i64 most] w fun e w' => e = .returned (.tuple #[.string ⟨(atI (getTextL most) [] s.data.toList p).1.toArray⟩, .int .i64 (atI (getTextL most) [] s.data.toList p).2.1, .bool (atI (getTextL most) [] s.data.toList p).2.2]) ∧ Ext w w' := by
  have hln : s.data.toList.length = s.size := rfl
  have C := wget_w s p w hs
  cases hc : (getI s.data.toList p).2.2 with
  | false =>
    have hT : atI (getTextL most) [] s.data.toList p = ([], 0, false) := by
      unfold atI
      by_cases h : p < 0 ∨ (s.data.toList.length : Int) ≤ p
      · rw [if_pos h]
      · rw [if_neg h]
        rw [getI_at] at hc
        unfold atI at hc
        rw [if_neg h] at hc
        cases hg : getL (s.data.toList.drop p.toNat) with
        | none => rw [getTextL_none hg]
        | some x => rw [hg] at hc; cases hc
    rw [hT]
    rw [hc] at C
    clear hT hc
    go_enter Tryz.func33, Tryz.ntmps33
    go_wp2_with (refine C.mono ?_; rintro e w' ⟨rfl, hb⟩)
    refine bodyPost_ret (results3 rfl _ _ _) rfl ?_
    exact ⟨rfl, hb⟩
  | true =>
    have hin : ¬ (p < 0 ∨ (s.data.toList.length : Int) ≤ p) := fun h => by rw [getI_out h] at hc; cases hc
    obtain ⟨q, rfl⟩ : ∃ q : Nat, p = (q : Int) := ⟨p.toNat, by omega⟩
    rw [hln] at hin
    have hq : q < s.size := by omega
    rw [getI_in (by rw [hln]; exact hq)] at C hc
    unfold atI
    rw [if_neg (by rw [hln]; exact hin), show ((q : Int)).toNat = q from rfl]
    cases hg : getL (s.data.toList.drop q) with
    | none => rw [hg] at hc; cases hc
    | some x =>
      obtain ⟨u, n⟩ := x
      rw [hg] at C
      rw [getTextL_some hg]
      obtain ⟨l1, l2, l3, l4⟩ := getL_len hg
      rw [List.length_drop, hln] at l2 ⊢
      clear hc hg hin
      simp only at C
      by_cases hu : u ≤ most ∧ u ≤ s.size - q - n
      · rw [if_pos hu]
        clear hm hq
        go_enter Tryz.func33, Tryz.ntmps33
        go_wp2_with (refine C.mono ?_; rintro e w' ⟨rfl, hb⟩)
        all_goals
          refine bodyPost_ret (results3 rfl _ _ _) rfl ?_
          refine ⟨?_, hb⟩
          have he : (s.extract (q + n) (q + n + u)).data.toList = (s.data.toList.drop (q + n)).take u := by rw [Lib.extract_data]; congr 1; omega
          rw [← mk_bytes he, ← Int.add_assoc]
          rfl
      · rw [if_neg hu]
        go_enter Tryz.func33, Tryz.ntmps33
        go_wp2_with (refine C.mono ?_; rintro e w' ⟨rfl, hb⟩)
        all_goals
          refine bodyPost_ret (results3 rfl _ _ _) rfl ?_
          exact ⟨rfl, hb⟩

end Go.Proofs.YthmhalcloogniaaGreatDoor
