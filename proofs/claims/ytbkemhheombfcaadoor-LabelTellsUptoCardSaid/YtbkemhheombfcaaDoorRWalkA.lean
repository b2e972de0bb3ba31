/- Chapter 2: the walks of the document's runes and names. -/
import Derived.Test.YtbkemhheombfcaaDoorRPure
import Derived.Test.YtbkemhheombfcaaDoorProg
namespace Go.Dm
open Go Go.RowKit
theorem sAt {s : ByteArray} {k : Nat} (h : k < s.size) : (s[k]).toNat = bAt s.data.toList k := by
  have h' : k < s.data.size := h
  simp only [bAt, List.getD_eq_getElem?_getD, Array.getElem?_toList, Array.getElem?_eq_getElem h', Option.getD_some]
  rfl
theorem not_longC_len {n low high : Nat} {l : Bs} (h : ¬ n ≤ l.length) : ¬ longC n low high l := fun c => h c.1
theorem not_longC_low {n low high : Nat} {l : Bs} (h : bAt l 1 < low) : ¬ longC n low high l := fun c => by have := c.2.1; omega
theorem not_longC_high {n low high : Nat} {l : Bs} (h : high < bAt l 1) : ¬ longC n low high l := fun c => by have := c.2.2.1; omega
theorem not_longC_at {n low high j : Nat} {l : Bs} (h1 : 2 ≤ j) (h2 : j < n) (h : bAt l j < 128 ∨ 191 < bAt l j) : ¬ longC n low high l := fun c => by have := c.2.2.2 j h1 h2; omega
end Go.Dm
namespace Go.Proofs.YtbkemhheombfcaaDoor
open Go.RowKit Go.Dm

set_option maxHeartbeats 1000000 in
theorem longA_w (s : ByteArray) (w : World) (hs : s.size < 9223372036854775807) (h0 : 0 < s.size) (a : Int) (hlo : 194 ≤ a) (hhi : a ≤ 223) (ha : ((s[0]'h0).toNat : Int) = a) :
    Calls Tryd.prog 97 #[.string s] w fun e w' => e = .returned (.int .i64 (longL s.data.toList)) ∧ Ext w w' := by
  have hb : (bAt s.data.toList 0 : Int) = a := by rw [← sAt h0]; exact ha
  have hn0 : ((s.size : Int) == 0) = false := by rw [beq_eq_false_iff_ne]; omega
  have hl0 : 0 < s.data.toList.length := by rw [← size_len]; exact h0
  have e1 : sizeOf' (bAt s.data.toList 0) = 2 := by unfold sizeOf'; (repeat' split) <;> omega
  have e2 : lowOf (bAt s.data.toList 0) = 128 := by unfold lowOf; (repeat' split) <;> omega
  have e3 : highOf (bAt s.data.toList 0) = 191 := by unfold highOf; (repeat' split) <;> omega
  have HY := long_yes hl0 (by omega) (by omega)
  have HN := long_no hl0 (by omega) (by omega)
  rw [e1, e2, e3] at HY HN
  replace HY := Lib.hid HY
  replace HN := Lib.hid HN
  clear e1 e2 e3 hb
  have b224 : (a == 224) = false := by rw [beq_eq_false_iff_ne]; omega
  have b237 : (a == 237) = false := by rw [beq_eq_false_iff_ne]; omega
  have b240 : (a == 240) = false := by rw [beq_eq_false_iff_ne]; omega
  have b244 : (a == 244) = false := by rw [beq_eq_false_iff_ne]; omega
  by_cases hn : 2 ≤ s.size
  · obtain ⟨b, hb⟩ : ∃ b : Int, ((s[1]'(by omega)).toNat : Int) = b := ⟨_, rfl⟩
    have hb1 : (bAt s.data.toList 1 : Int) = b := by rw [← sAt (by omega)]; exact hb
    by_cases hlw : b < 128
    · have hz := Lib.hid (HN.out (not_longC_low (by omega)))
      clear hb1 hl0
      go_enter Tryd.func97, Tryd.ntmps97
      go_wp2
      go_ret
      exact ⟨by rw [hz.out]; rfl, Ext.refl _⟩
    · by_cases hhg : 191 < b
      · have hz := Lib.hid (HN.out (not_longC_high (by omega)))
        clear hb1 hl0
        go_enter Tryd.func97, Tryd.ntmps97
        go_wp2
        go_ret
        exact ⟨by rw [hz.out]; rfl, Ext.refl _⟩
      · replace hb1 := Lib.hid hb1
        clear hl0
        go_enter Tryd.func97, Tryd.ntmps97
        go_wp2
        go_loop [7] (fun i' => ∃ i : Nat, 2 ≤ i ∧ i ≤ 2 ∧ i' = .int .i64 i ∧ Hid (∀ j, 2 ≤ j → j < i → 128 ≤ bAt s.data.toList j ∧ bAt s.data.toList j ≤ 191)) (fun i' => 2 - (intOf i').toNat)
        case atStart => exact ⟨2, by omega, by omega, rfl, fun j h1 h2 => by omega⟩
        case round =>
          obtain ⟨i, hi2, hin, rfl, HC⟩ := hrel
          obtain rfl : i = 2 := by omega
          have hz := Lib.hid (HY.out ⟨by rw [← size_len]; exact hn, by have := hb1.out; omega, by have := hb1.out; omega, HC.out⟩)
          go_wp2
          go_ret
          exact ⟨by rw [hz.out]; rfl, Ext.refl _⟩
  · have hz := Lib.hid (HN.out (not_longC_len (by rw [← size_len]; exact hn)))
    clear hl0
    go_enter Tryd.func97, Tryd.ntmps97
    go_wp2
    go_ret
    exact ⟨by rw [hz.out]; rfl, Ext.refl _⟩

set_option maxHeartbeats 1000000 in
theorem longB_w (s : ByteArray) (w : World) (hs : s.size < 9223372036854775807) (h0 : 0 < s.size) (ha : ((s[0]'h0).toNat : Int) = 224) :
    Calls Tryd.prog 97 #[.string s] w fun e w' => e = .returned (.int .i64 (longL s.data.toList)) ∧ Ext w w' := by
  have hb : (bAt s.data.toList 0 : Int) = 224 := by rw [← sAt h0]; exact ha
  have hn0 : ((s.size : Int) == 0) = false := by rw [beq_eq_false_iff_ne]; omega
  have hl0 : 0 < s.data.toList.length := by rw [← size_len]; exact h0
  have e1 : sizeOf' (bAt s.data.toList 0) = 3 := by unfold sizeOf'; (repeat' split) <;> omega
  have e2 : lowOf (bAt s.data.toList 0) = 160 := by unfold lowOf; (repeat' split) <;> omega
  have e3 : highOf (bAt s.data.toList 0) = 191 := by unfold highOf; (repeat' split) <;> omega
  have HY := long_yes hl0 (by omega) (by omega)
  have HN := long_no hl0 (by omega) (by omega)
  rw [e1, e2, e3] at HY HN
  replace HY := Lib.hid HY
  replace HN := Lib.hid HN
  clear e1 e2 e3 hb
  by_cases hn : 3 ≤ s.size
  · obtain ⟨b, hb⟩ : ∃ b : Int, ((s[1]'(by omega)).toNat : Int) = b := ⟨_, rfl⟩
    have hb1 : (bAt s.data.toList 1 : Int) = b := by rw [← sAt (by omega)]; exact hb
    by_cases hlw : b < 160
    · have hz := Lib.hid (HN.out (not_longC_low (by omega)))
      clear hb1 hl0
      go_enter Tryd.func97, Tryd.ntmps97
      go_wp2
      go_ret
      exact ⟨by rw [hz.out]; rfl, Ext.refl _⟩
    · by_cases hhg : 191 < b
      · have hz := Lib.hid (HN.out (not_longC_high (by omega)))
        clear hb1 hl0
        go_enter Tryd.func97, Tryd.ntmps97
        go_wp2
        go_ret
        exact ⟨by rw [hz.out]; rfl, Ext.refl _⟩
      · replace hb1 := Lib.hid hb1
        clear hl0
        go_enter Tryd.func97, Tryd.ntmps97
        go_wp2
        go_loop [7] (fun i' => ∃ i : Nat, 2 ≤ i ∧ i ≤ 3 ∧ i' = .int .i64 i ∧ Hid (∀ j, 2 ≤ j → j < i → 128 ≤ bAt s.data.toList j ∧ bAt s.data.toList j ≤ 191)) (fun i' => 3 - (intOf i').toNat)
        case atStart => exact ⟨2, by omega, by omega, rfl, fun j h1 h2 => by omega⟩
        case round =>
          obtain ⟨i, hi2, hin, rfl, HC⟩ := hrel
          by_cases hlt : i < 3
          · have hsi : i < s.size := by omega
            obtain ⟨c, hc⟩ : ∃ c : Int, ((s[i]'hsi).toNat : Int) = c := ⟨_, rfl⟩
            have hc1 : (bAt s.data.toList i : Int) = c := by rw [← sAt hsi]; exact hc
            by_cases c1 : c < 128
            · have hz := Lib.hid (HN.out (not_longC_at hi2 hlt (by omega)))
              clear hc1
              go_wp2
              go_ret
              exact ⟨by rw [hz.out]; rfl, Ext.refl _⟩
            · by_cases c2 : 191 < c
              · have hz := Lib.hid (HN.out (not_longC_at hi2 hlt (by omega)))
                clear hc1
                go_wp2
                go_ret
                exact ⟨by rw [hz.out]; rfl, Ext.refl _⟩
              · have hst : Hid (∀ j, 2 ≤ j → j < i + 1 → 128 ≤ bAt s.data.toList j ∧ bAt s.data.toList j ≤ 191) := fun j h1 h2 => by
                  by_cases hj : j < i
                  · exact HC.out j h1 hj
                  · obtain rfl : j = i := by omega
                    omega
                clear hc1
                go_wp2
                go_round
                case rel => exact ⟨i + 1, by omega, by omega, by go_num, hst⟩
                case measure => simp [intOf]; omega
          · obtain rfl : i = 3 := by omega
            have hz := Lib.hid (HY.out ⟨by rw [← size_len]; exact hn, by have := hb1.out; omega, by have := hb1.out; omega, HC.out⟩)
            go_wp2
            go_ret
            exact ⟨by rw [hz.out]; rfl, Ext.refl _⟩
  · have hz := Lib.hid (HN.out (not_longC_len (by rw [← size_len]; exact hn)))
    clear hl0
    go_enter Tryd.func97, Tryd.ntmps97
    go_wp2
    go_ret
    exact ⟨by rw [hz.out]; rfl, Ext.refl _⟩

set_option maxHeartbeats 1000000 in
theorem longD_w (s : ByteArray) (w : World) (hs : s.size < 9223372036854775807) (h0 : 0 < s.size) (a : Int) (hlo : 225 ≤ a) (hhi : a ≤ 239) (hne : a ≠ 237) (ha : ((s[0]'h0).toNat : Int) = a) :
    Calls Tryd.prog 97 #[.string s] w fun e w' => e = .returned (.int .i64 (longL s.data.toList)) ∧ Ext w w' := by
  have hb : (bAt s.data.toList 0 : Int) = a := by rw [← sAt h0]; exact ha
  have hn0 : ((s.size : Int) == 0) = false := by rw [beq_eq_false_iff_ne]; omega
  have hl0 : 0 < s.data.toList.length := by rw [← size_len]; exact h0
  have e1 : sizeOf' (bAt s.data.toList 0) = 3 := by unfold sizeOf'; (repeat' split) <;> omega
  have e2 : lowOf (bAt s.data.toList 0) = 128 := by unfold lowOf; (repeat' split) <;> omega
  have e3 : highOf (bAt s.data.toList 0) = 191 := by unfold highOf; (repeat' split) <;> omega
  have HY := long_yes hl0 (by omega) (by omega)
  have HN := long_no hl0 (by omega) (by omega)
  rw [e1, e2, e3] at HY HN
  replace HY := Lib.hid HY
  replace HN := Lib.hid HN
  clear e1 e2 e3 hb
  have b224 : (a == 224) = false := by rw [beq_eq_false_iff_ne]; omega
  have b237 : (a == 237) = false := by rw [beq_eq_false_iff_ne]; omega
  have b240 : (a == 240) = false := by rw [beq_eq_false_iff_ne]; omega
  have b244 : (a == 244) = false := by rw [beq_eq_false_iff_ne]; omega
  by_cases hn : 3 ≤ s.size
  · obtain ⟨b, hb⟩ : ∃ b : Int, ((s[1]'(by omega)).toNat : Int) = b := ⟨_, rfl⟩
    have hb1 : (bAt s.data.toList 1 : Int) = b := by rw [← sAt (by omega)]; exact hb
    by_cases hlw : b < 128
    · have hz := Lib.hid (HN.out (not_longC_low (by omega)))
      clear hb1 hl0
      go_enter Tryd.func97, Tryd.ntmps97
      go_wp2
      go_ret
      exact ⟨by rw [hz.out]; rfl, Ext.refl _⟩
    · by_cases hhg : 191 < b
      · have hz := Lib.hid (HN.out (not_longC_high (by omega)))
        clear hb1 hl0
        go_enter Tryd.func97, Tryd.ntmps97
        go_wp2
        go_ret
        exact ⟨by rw [hz.out]; rfl, Ext.refl _⟩
      · replace hb1 := Lib.hid hb1
        clear hl0
        go_enter Tryd.func97, Tryd.ntmps97
        go_wp2
        go_loop [7] (fun i' => ∃ i : Nat, 2 ≤ i ∧ i ≤ 3 ∧ i' = .int .i64 i ∧ Hid (∀ j, 2 ≤ j → j < i → 128 ≤ bAt s.data.toList j ∧ bAt s.data.toList j ≤ 191)) (fun i' => 3 - (intOf i').toNat)
        case atStart => exact ⟨2, by omega, by omega, rfl, fun j h1 h2 => by omega⟩
        case round =>
          obtain ⟨i, hi2, hin, rfl, HC⟩ := hrel
          by_cases hlt : i < 3
          · have hsi : i < s.size := by omega
            obtain ⟨c, hc⟩ : ∃ c : Int, ((s[i]'hsi).toNat : Int) = c := ⟨_, rfl⟩
            have hc1 : (bAt s.data.toList i : Int) = c := by rw [← sAt hsi]; exact hc
            by_cases c1 : c < 128
            · have hz := Lib.hid (HN.out (not_longC_at hi2 hlt (by omega)))
              clear hc1
              go_wp2
              go_ret
              exact ⟨by rw [hz.out]; rfl, Ext.refl _⟩
            · by_cases c2 : 191 < c
              · have hz := Lib.hid (HN.out (not_longC_at hi2 hlt (by omega)))
                clear hc1
                go_wp2
                go_ret
                exact ⟨by rw [hz.out]; rfl, Ext.refl _⟩
              · have hst : Hid (∀ j, 2 ≤ j → j < i + 1 → 128 ≤ bAt s.data.toList j ∧ bAt s.data.toList j ≤ 191) := fun j h1 h2 => by
                  by_cases hj : j < i
                  · exact HC.out j h1 hj
                  · obtain rfl : j = i := by omega
                    omega
                clear hc1
                go_wp2
                go_round
                case rel => exact ⟨i + 1, by omega, by omega, by go_num, hst⟩
                case measure => simp [intOf]; omega
          · obtain rfl : i = 3 := by omega
            have hz := Lib.hid (HY.out ⟨by rw [← size_len]; exact hn, by have := hb1.out; omega, by have := hb1.out; omega, HC.out⟩)
            go_wp2
            go_ret
            exact ⟨by rw [hz.out]; rfl, Ext.refl _⟩
  · have hz := Lib.hid (HN.out (not_longC_len (by rw [← size_len]; exact hn)))
    clear hl0
    go_enter Tryd.func97, Tryd.ntmps97
    go_wp2
    go_ret
    exact ⟨by rw [hz.out]; rfl, Ext.refl _⟩

set_option maxHeartbeats 1000000 in
theorem longE_w (s : ByteArray) (w : World) (hs : s.size < 9223372036854775807) (h0 : 0 < s.size) (ha : ((s[0]'h0).toNat : Int) = 237) :
    Calls Tryd.prog 97 #[.string s] w fun e w' => e = .returned (.int .i64 (longL s.data.toList)) ∧ Ext w w' := by
  have hb : (bAt s.data.toList 0 : Int) = 237 := by rw [← sAt h0]; exact ha
  have hn0 : ((s.size : Int) == 0) = false := by rw [beq_eq_false_iff_ne]; omega
  have hl0 : 0 < s.data.toList.length := by rw [← size_len]; exact h0
  have e1 : sizeOf' (bAt s.data.toList 0) = 3 := by unfold sizeOf'; (repeat' split) <;> omega
  have e2 : lowOf (bAt s.data.toList 0) = 128 := by unfold lowOf; (repeat' split) <;> omega
  have e3 : highOf (bAt s.data.toList 0) = 159 := by unfold highOf; (repeat' split) <;> omega
  have HY := long_yes hl0 (by omega) (by omega)
  have HN := long_no hl0 (by omega) (by omega)
  rw [e1, e2, e3] at HY HN
  replace HY := Lib.hid HY
  replace HN := Lib.hid HN
  clear e1 e2 e3 hb
  by_cases hn : 3 ≤ s.size
  · obtain ⟨b, hb⟩ : ∃ b : Int, ((s[1]'(by omega)).toNat : Int) = b := ⟨_, rfl⟩
    have hb1 : (bAt s.data.toList 1 : Int) = b := by rw [← sAt (by omega)]; exact hb
    by_cases hlw : b < 128
    · have hz := Lib.hid (HN.out (not_longC_low (by omega)))
      clear hb1 hl0
      go_enter Tryd.func97, Tryd.ntmps97
      go_wp2
      go_ret
      exact ⟨by rw [hz.out]; rfl, Ext.refl _⟩
    · by_cases hhg : 159 < b
      · have hz := Lib.hid (HN.out (not_longC_high (by omega)))
        clear hb1 hl0
        go_enter Tryd.func97, Tryd.ntmps97
        go_wp2
        go_ret
        exact ⟨by rw [hz.out]; rfl, Ext.refl _⟩
      · replace hb1 := Lib.hid hb1
        clear hl0
        go_enter Tryd.func97, Tryd.ntmps97
        go_wp2
        go_loop [7] (fun i' => ∃ i : Nat, 2 ≤ i ∧ i ≤ 3 ∧ i' = .int .i64 i ∧ Hid (∀ j, 2 ≤ j → j < i → 128 ≤ bAt s.data.toList j ∧ bAt s.data.toList j ≤ 191)) (fun i' => 3 - (intOf i').toNat)
        case atStart => exact ⟨2, by omega, by omega, rfl, fun j h1 h2 => by omega⟩
        case round =>
          obtain ⟨i, hi2, hin, rfl, HC⟩ := hrel
          by_cases hlt : i < 3
          · have hsi : i < s.size := by omega
            obtain ⟨c, hc⟩ : ∃ c : Int, ((s[i]'hsi).toNat : Int) = c := ⟨_, rfl⟩
            have hc1 : (bAt s.data.toList i : Int) = c := by rw [← sAt hsi]; exact hc
            by_cases c1 : c < 128
            · have hz := Lib.hid (HN.out (not_longC_at hi2 hlt (by omega)))
              clear hc1
              go_wp2
              go_ret
              exact ⟨by rw [hz.out]; rfl, Ext.refl _⟩
            · by_cases c2 : 191 < c
              · have hz := Lib.hid (HN.out (not_longC_at hi2 hlt (by omega)))
                clear hc1
                go_wp2
                go_ret
                exact ⟨by rw [hz.out]; rfl, Ext.refl _⟩
              · have hst : Hid (∀ j, 2 ≤ j → j < i + 1 → 128 ≤ bAt s.data.toList j ∧ bAt s.data.toList j ≤ 191) := fun j h1 h2 => by
                  by_cases hj : j < i
                  · exact HC.out j h1 hj
                  · obtain rfl : j = i := by omega
                    omega
                clear hc1
                go_wp2
                go_round
                case rel => exact ⟨i + 1, by omega, by omega, by go_num, hst⟩
                case measure => simp [intOf]; omega
          · obtain rfl : i = 3 := by omega
            have hz := Lib.hid (HY.out ⟨by rw [← size_len]; exact hn, by have := hb1.out; omega, by have := hb1.out; omega, HC.out⟩)
            go_wp2
            go_ret
            exact ⟨by rw [hz.out]; rfl, Ext.refl _⟩
  · have hz := Lib.hid (HN.out (not_longC_len (by rw [← size_len]; exact hn)))
    clear hl0
    go_enter Tryd.func97, Tryd.ntmps97
    go_wp2
    go_ret
    exact ⟨by rw [hz.out]; rfl, Ext.refl _⟩

set_option maxHeartbeats 1000000 in
theorem longF_w (s : ByteArray) (w : World) (hs : s.size < 9223372036854775807) (h0 : 0 < s.size) (ha : ((s[0]'h0).toNat : Int) = 240) :
    Calls Tryd.prog 97 #[.string s] w fun e w' => e = .returned (.int .i64 (longL s.data.toList)) ∧ Ext w w' := by
  have hb : (bAt s.data.toList 0 : Int) = 240 := by rw [← sAt h0]; exact ha
  have hn0 : ((s.size : Int) == 0) = false := by rw [beq_eq_false_iff_ne]; omega
  have hl0 : 0 < s.data.toList.length := by rw [← size_len]; exact h0
  have e1 : sizeOf' (bAt s.data.toList 0) = 4 := by unfold sizeOf'; (repeat' split) <;> omega
  have e2 : lowOf (bAt s.data.toList 0) = 144 := by unfold lowOf; (repeat' split) <;> omega
  have e3 : highOf (bAt s.data.toList 0) = 191 := by unfold highOf; (repeat' split) <;> omega
  have HY := long_yes hl0 (by omega) (by omega)
  have HN := long_no hl0 (by omega) (by omega)
  rw [e1, e2, e3] at HY HN
  replace HY := Lib.hid HY
  replace HN := Lib.hid HN
  clear e1 e2 e3 hb
  by_cases hn : 4 ≤ s.size
  · obtain ⟨b, hb⟩ : ∃ b : Int, ((s[1]'(by omega)).toNat : Int) = b := ⟨_, rfl⟩
    have hb1 : (bAt s.data.toList 1 : Int) = b := by rw [← sAt (by omega)]; exact hb
    by_cases hlw : b < 144
    · have hz := Lib.hid (HN.out (not_longC_low (by omega)))
      clear hb1 hl0
      go_enter Tryd.func97, Tryd.ntmps97
      go_wp2
      go_ret
      exact ⟨by rw [hz.out]; rfl, Ext.refl _⟩
    · by_cases hhg : 191 < b
      · have hz := Lib.hid (HN.out (not_longC_high (by omega)))
        clear hb1 hl0
        go_enter Tryd.func97, Tryd.ntmps97
        go_wp2
        go_ret
        exact ⟨by rw [hz.out]; rfl, Ext.refl _⟩
      · replace hb1 := Lib.hid hb1
        clear hl0
        go_enter Tryd.func97, Tryd.ntmps97
        go_wp2
        go_loop [7] (fun i' => ∃ i : Nat, 2 ≤ i ∧ i ≤ 4 ∧ i' = .int .i64 i ∧ Hid (∀ j, 2 ≤ j → j < i → 128 ≤ bAt s.data.toList j ∧ bAt s.data.toList j ≤ 191)) (fun i' => 4 - (intOf i').toNat)
        case atStart => exact ⟨2, by omega, by omega, rfl, fun j h1 h2 => by omega⟩
        case round =>
          obtain ⟨i, hi2, hin, rfl, HC⟩ := hrel
          by_cases hlt : i < 4
          · have hsi : i < s.size := by omega
            obtain ⟨c, hc⟩ : ∃ c : Int, ((s[i]'hsi).toNat : Int) = c := ⟨_, rfl⟩
            have hc1 : (bAt s.data.toList i : Int) = c := by rw [← sAt hsi]; exact hc
            by_cases c1 : c < 128
            · have hz := Lib.hid (HN.out (not_longC_at hi2 hlt (by omega)))
              clear hc1
              go_wp2
              go_ret
              exact ⟨by rw [hz.out]; rfl, Ext.refl _⟩
            · by_cases c2 : 191 < c
              · have hz := Lib.hid (HN.out (not_longC_at hi2 hlt (by omega)))
                clear hc1
                go_wp2
                go_ret
                exact ⟨by rw [hz.out]; rfl, Ext.refl _⟩
              · have hst : Hid (∀ j, 2 ≤ j → j < i + 1 → 128 ≤ bAt s.data.toList j ∧ bAt s.data.toList j ≤ 191) := fun j h1 h2 => by
                  by_cases hj : j < i
                  · exact HC.out j h1 hj
                  · obtain rfl : j = i := by omega
                    omega
                clear hc1
                go_wp2
                go_round
                case rel => exact ⟨i + 1, by omega, by omega, by go_num, hst⟩
                case measure => simp [intOf]; omega
          · obtain rfl : i = 4 := by omega
            have hz := Lib.hid (HY.out ⟨by rw [← size_len]; exact hn, by have := hb1.out; omega, by have := hb1.out; omega, HC.out⟩)
            go_wp2
            go_ret
            exact ⟨by rw [hz.out]; rfl, Ext.refl _⟩
  · have hz := Lib.hid (HN.out (not_longC_len (by rw [← size_len]; exact hn)))
    clear hl0
    go_enter Tryd.func97, Tryd.ntmps97
    go_wp2
    go_ret
    exact ⟨by rw [hz.out]; rfl, Ext.refl _⟩

set_option maxHeartbeats 1000000 in
theorem longG_w (s : ByteArray) (w : World) (hs : s.size < 9223372036854775807) (h0 : 0 < s.size) (a : Int) (hlo : 241 ≤ a) (hhi : a ≤ 243) (ha : ((s[0]'h0).toNat : Int) = a) :
    Calls Tryd.prog 97 #[.string s] w fun e w' => e = .returned (.int .i64 (longL s.data.toList)) ∧ Ext w w' := by
  have hb : (bAt s.data.toList 0 : Int) = a := by rw [← sAt h0]; exact ha
  have hn0 : ((s.size : Int) == 0) = false := by rw [beq_eq_false_iff_ne]; omega
  have hl0 : 0 < s.data.toList.length := by rw [← size_len]; exact h0
  have e1 : sizeOf' (bAt s.data.toList 0) = 4 := by unfold sizeOf'; (repeat' split) <;> omega
  have e2 : lowOf (bAt s.data.toList 0) = 128 := by unfold lowOf; (repeat' split) <;> omega
  have e3 : highOf (bAt s.data.toList 0) = 191 := by unfold highOf; (repeat' split) <;> omega
  have HY := long_yes hl0 (by omega) (by omega)
  have HN := long_no hl0 (by omega) (by omega)
  rw [e1, e2, e3] at HY HN
  replace HY := Lib.hid HY
  replace HN := Lib.hid HN
  clear e1 e2 e3 hb
  have b224 : (a == 224) = false := by rw [beq_eq_false_iff_ne]; omega
  have b237 : (a == 237) = false := by rw [beq_eq_false_iff_ne]; omega
  have b240 : (a == 240) = false := by rw [beq_eq_false_iff_ne]; omega
  have b244 : (a == 244) = false := by rw [beq_eq_false_iff_ne]; omega
  by_cases hn : 4 ≤ s.size
  · obtain ⟨b, hb⟩ : ∃ b : Int, ((s[1]'(by omega)).toNat : Int) = b := ⟨_, rfl⟩
    have hb1 : (bAt s.data.toList 1 : Int) = b := by rw [← sAt (by omega)]; exact hb
    by_cases hlw : b < 128
    · have hz := Lib.hid (HN.out (not_longC_low (by omega)))
      clear hb1 hl0
      go_enter Tryd.func97, Tryd.ntmps97
      go_wp2
      go_ret
      exact ⟨by rw [hz.out]; rfl, Ext.refl _⟩
    · by_cases hhg : 191 < b
      · have hz := Lib.hid (HN.out (not_longC_high (by omega)))
        clear hb1 hl0
        go_enter Tryd.func97, Tryd.ntmps97
        go_wp2
        go_ret
        exact ⟨by rw [hz.out]; rfl, Ext.refl _⟩
      · replace hb1 := Lib.hid hb1
        clear hl0
        go_enter Tryd.func97, Tryd.ntmps97
        go_wp2
        go_loop [7] (fun i' => ∃ i : Nat, 2 ≤ i ∧ i ≤ 4 ∧ i' = .int .i64 i ∧ Hid (∀ j, 2 ≤ j → j < i → 128 ≤ bAt s.data.toList j ∧ bAt s.data.toList j ≤ 191)) (fun i' => 4 - (intOf i').toNat)
        case atStart => exact ⟨2, by omega, by omega, rfl, fun j h1 h2 => by omega⟩
        case round =>
          obtain ⟨i, hi2, hin, rfl, HC⟩ := hrel
          by_cases hlt : i < 4
          · have hsi : i < s.size := by omega
            obtain ⟨c, hc⟩ : ∃ c : Int, ((s[i]'hsi).toNat : Int) = c := ⟨_, rfl⟩
            have hc1 : (bAt s.data.toList i : Int) = c := by rw [← sAt hsi]; exact hc
            by_cases c1 : c < 128
            · have hz := Lib.hid (HN.out (not_longC_at hi2 hlt (by omega)))
              clear hc1
              go_wp2
              go_ret
              exact ⟨by rw [hz.out]; rfl, Ext.refl _⟩
            · by_cases c2 : 191 < c
              · have hz := Lib.hid (HN.out (not_longC_at hi2 hlt (by omega)))
                clear hc1
                go_wp2
                go_ret
                exact ⟨by rw [hz.out]; rfl, Ext.refl _⟩
              · have hst : Hid (∀ j, 2 ≤ j → j < i + 1 → 128 ≤ bAt s.data.toList j ∧ bAt s.data.toList j ≤ 191) := fun j h1 h2 => by
                  by_cases hj : j < i
                  · exact HC.out j h1 hj
                  · obtain rfl : j = i := by omega
                    omega
                clear hc1
                go_wp2
                go_round
                case rel => exact ⟨i + 1, by omega, by omega, by go_num, hst⟩
                case measure => simp [intOf]; omega
          · obtain rfl : i = 4 := by omega
            have hz := Lib.hid (HY.out ⟨by rw [← size_len]; exact hn, by have := hb1.out; omega, by have := hb1.out; omega, HC.out⟩)
            go_wp2
            go_ret
            exact ⟨by rw [hz.out]; rfl, Ext.refl _⟩
  · have hz := Lib.hid (HN.out (not_longC_len (by rw [← size_len]; exact hn)))
    clear hl0
    go_enter Tryd.func97, Tryd.ntmps97
    go_wp2
    go_ret
    exact ⟨by rw [hz.out]; rfl, Ext.refl _⟩

set_option maxHeartbeats 1000000 in
theorem longH_w (s : ByteArray) (w : World) (hs : s.size < 9223372036854775807) (h0 : 0 < s.size) (ha : ((s[0]'h0).toNat : Int) = 244) :
    Calls Tryd.prog 97 #[.string s] w fun e w' => e = .returned (.int .i64 (longL s.data.toList)) ∧ Ext w w' := by
  have hb : (bAt s.data.toList 0 : Int) = 244 := by rw [← sAt h0]; exact ha
  have hn0 : ((s.size : Int) == 0) = false := by rw [beq_eq_false_iff_ne]; omega
  have hl0 : 0 < s.data.toList.length := by rw [← size_len]; exact h0
  have e1 : sizeOf' (bAt s.data.toList 0) = 4 := by unfold sizeOf'; (repeat' split) <;> omega
  have e2 : lowOf (bAt s.data.toList 0) = 128 := by unfold lowOf; (repeat' split) <;> omega
  have e3 : highOf (bAt s.data.toList 0) = 143 := by unfold highOf; (repeat' split) <;> omega
  have HY := long_yes hl0 (by omega) (by omega)
  have HN := long_no hl0 (by omega) (by omega)
  rw [e1, e2, e3] at HY HN
  replace HY := Lib.hid HY
  replace HN := Lib.hid HN
  clear e1 e2 e3 hb
  by_cases hn : 4 ≤ s.size
  · obtain ⟨b, hb⟩ : ∃ b : Int, ((s[1]'(by omega)).toNat : Int) = b := ⟨_, rfl⟩
    have hb1 : (bAt s.data.toList 1 : Int) = b := by rw [← sAt (by omega)]; exact hb
    by_cases hlw : b < 128
    · have hz := Lib.hid (HN.out (not_longC_low (by omega)))
      clear hb1 hl0
      go_enter Tryd.func97, Tryd.ntmps97
      go_wp2
      go_ret
      exact ⟨by rw [hz.out]; rfl, Ext.refl _⟩
    · by_cases hhg : 143 < b
      · have hz := Lib.hid (HN.out (not_longC_high (by omega)))
        clear hb1 hl0
        go_enter Tryd.func97, Tryd.ntmps97
        go_wp2
        go_ret
        exact ⟨by rw [hz.out]; rfl, Ext.refl _⟩
      · replace hb1 := Lib.hid hb1
        clear hl0
        go_enter Tryd.func97, Tryd.ntmps97
        go_wp2
        go_loop [7] (fun i' => ∃ i : Nat, 2 ≤ i ∧ i ≤ 4 ∧ i' = .int .i64 i ∧ Hid (∀ j, 2 ≤ j → j < i → 128 ≤ bAt s.data.toList j ∧ bAt s.data.toList j ≤ 191)) (fun i' => 4 - (intOf i').toNat)
        case atStart => exact ⟨2, by omega, by omega, rfl, fun j h1 h2 => by omega⟩
        case round =>
          obtain ⟨i, hi2, hin, rfl, HC⟩ := hrel
          by_cases hlt : i < 4
          · have hsi : i < s.size := by omega
            obtain ⟨c, hc⟩ : ∃ c : Int, ((s[i]'hsi).toNat : Int) = c := ⟨_, rfl⟩
            have hc1 : (bAt s.data.toList i : Int) = c := by rw [← sAt hsi]; exact hc
            by_cases c1 : c < 128
            · have hz := Lib.hid (HN.out (not_longC_at hi2 hlt (by omega)))
              clear hc1
              go_wp2
              go_ret
              exact ⟨by rw [hz.out]; rfl, Ext.refl _⟩
            · by_cases c2 : 191 < c
              · have hz := Lib.hid (HN.out (not_longC_at hi2 hlt (by omega)))
                clear hc1
                go_wp2
                go_ret
                exact ⟨by rw [hz.out]; rfl, Ext.refl _⟩
              · have hst : Hid (∀ j, 2 ≤ j → j < i + 1 → 128 ≤ bAt s.data.toList j ∧ bAt s.data.toList j ≤ 191) := fun j h1 h2 => by
                  by_cases hj : j < i
                  · exact HC.out j h1 hj
                  · obtain rfl : j = i := by omega
                    omega
                clear hc1
                go_wp2
                go_round
                case rel => exact ⟨i + 1, by omega, by omega, by go_num, hst⟩
                case measure => simp [intOf]; omega
          · obtain rfl : i = 4 := by omega
            have hz := Lib.hid (HY.out ⟨by rw [← size_len]; exact hn, by have := hb1.out; omega, by have := hb1.out; omega, HC.out⟩)
            go_wp2
            go_ret
            exact ⟨by rw [hz.out]; rfl, Ext.refl _⟩
  · have hz := Lib.hid (HN.out (not_longC_len (by rw [← size_len]; exact hn)))
    clear hl0
    go_enter Tryd.func97, Tryd.ntmps97
    go_wp2
    go_ret
    exact ⟨by rw [hz.out]; rfl, Ext.refl _⟩

set_option maxHeartbeats 1000000 in
theorem long_w (s : ByteArray) (w : World) (hs : s.size < 9223372036854775807) :
    Calls Tryd.prog 97 #[.string s] w fun e w' => e = .returned (.int .i64 (longL s.data.toList)) ∧ Ext w w' := by
  by_cases h0 : s.size = 0
  · have hz : longL s.data.toList = 0 := by
      have : s.data.toList = [] := List.length_eq_zero_iff.1 (by rw [← size_len]; exact h0)
      rw [this]; rfl
    have hn : ((s.size : Int) == 0) = true := by rw [beq_iff_eq]; omega
    replace hz := Lib.hid hz
    clear h0
    go_enter Tryd.func97, Tryd.ntmps97
    go_wp2
    go_ret
    exact ⟨by rw [hz.out]; rfl, Ext.refl _⟩
  · have hn : ((s.size : Int) == 0) = false := by rw [beq_eq_false_iff_ne]; omega
    have h00 : 0 < s.size := by omega
    have hl0 : 0 < s.data.toList.length := by rw [← size_len]; exact h00
    obtain ⟨a, ha⟩ : ∃ a : Int, ((s[0]'h00).toNat : Int) = a := ⟨_, rfl⟩
    have hb : (bAt s.data.toList 0 : Int) = a := by rw [← sAt h00]; exact ha
    by_cases h1 : a < 128
    · have hz := Lib.hid (long_head hl0 (by omega))
      clear hb hl0
      go_enter Tryd.func97, Tryd.ntmps97
      go_wp2
      go_ret
      exact ⟨by rw [hz.out]; rfl, Ext.refl _⟩
    · by_cases h2 : a < 194
      · have hz := Lib.hid (long_bad hl0 (by omega) (by omega))
        clear hb hl0
        go_enter Tryd.func97, Tryd.ntmps97
        go_wp2
        go_ret
        exact ⟨by rw [hz.out]; rfl, Ext.refl _⟩
      · by_cases h3 : 244 < a
        · have hz := Lib.hid (long_bad hl0 (by omega) (by omega))
          clear hb hl0
          go_enter Tryd.func97, Tryd.ntmps97
          go_wp2
          go_ret
          exact ⟨by rw [hz.out]; rfl, Ext.refl _⟩
        · by_cases c1 : a ≤ 223
          · exact longA_w s w hs h00 a (by omega) c1 ha
          · by_cases c2 : a = 224
            · exact longB_w s w hs h00 (ha.trans c2)
            · by_cases c3 : a = 237
              · exact longE_w s w hs h00 (ha.trans c3)
              · by_cases c4 : a ≤ 239
                · exact longD_w s w hs h00 a (by omega) c4 c3 ha
                · by_cases c5 : a = 240
                  · exact longF_w s w hs h00 (ha.trans c5)
                  · by_cases c6 : a = 244
                    · exact longH_w s w hs h00 (ha.trans c6)
                    · exact longG_w s w hs h00 a (by omega) (by omega) ha

end Go.Proofs.YtbkemhheombfcaaDoor
