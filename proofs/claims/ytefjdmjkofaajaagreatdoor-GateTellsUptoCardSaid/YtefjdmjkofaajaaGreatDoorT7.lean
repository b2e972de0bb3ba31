/- Texts of the base. -/

import Derived.Test.YtefjdmjkofaajaaGreatDoorT13
import Derived.Test.YtefjdmjkofaajaaGreatDoorProg
import Derived.Test.YtefjdmjkofaajaaGreatDoorT5
namespace Go.Dm
open Go Go.RowKit
theorem sAt {s : ByteArray} {k : Nat} (h : k < s.size) : (s[k]).toNat = bAt s.data.toList k := by
 have h' : k < s.data.size := h
 simp only [bAt, List.getD_eq_getElem?_getD, Array.getElem?_toList, Array.getElem?_eq_getElem h', Option.getD_some]
 rfl
theorem not_longC_len {n low high : Nat} {l : Bs} (h : ¬ n ≤ l.length) : ¬ longC n low high l := fun c => h c.1
theorem not_longC_low {n low high : Nat} {l : Bs} (h : bAt l 1 < low) : ¬ longC n low high l := fun c => by have := c.2.1; omega
theorem not_longC_high {n low high : Nat} {l : Bs} (h : high < bAt l 1) : ¬ longC n low high l := fun c => by have := c.2.2.1; omega
theorem not_longC_at {n low high j : Nat} {l : Bs} (h1 : 2 ≤ j) (h2 : j < n) (h : bAt l j < 128 ∨ 191 < bAt l j) : ¬ longC n low high l := fun c => by have := c.2.2.2 j h1 h2; omega
end Go.Dm
namespace Go.Proofs.YtefjdmjkofaajaaGreatDoor
open Go.RowKit Go.Dm
set_option maxHeartbeats 1000000 in
theorem longA_w (s : ByteArray) (w : World) (hs : s.size < 9223372036854775807) (h0 : 0 < s.size) (a : Int) (hlo : 194 ≤ a) (hhi : a ≤ 223) (ha : ((s[0]'h0).toNat : Int) = a) :
  Calls Tryz.prog 111 #[.string s] w fun e w' => e = .returned (.int .i64 (longL s.data.toList)) ∧ Ext w w' := by
 have hb : (bAt s.data.toList 0 : Int) = a := by rw [← sAt h0]; exact ha
 have hn0 : ((s.size : Int) == 0) = false := by rw [beq_eq_false_iff_ne]; omega
 have hl0 : 0 < s.data.toList.length := by rw [← size_len]; exact h0
 have e1 : sizeOf' (bAt s.data.toList 0) = 2 := by unfold sizeOf'; (repeat' split) <;> omega
 have e2 : lowOf (bAt s.data.toList 0) = 128 := by unfold lowOf; (repeat' split) <;> omega
 have e3 : highOf (bAt s.data.toList 0) = 191 := by unfold highOf; (repeat' split) <;> omega
 have HY := long_yes hl0 (by omega) (by omega)
 have HN := long_no hl0 (by omega) (by omega)
 rw [e1, e2, e3] at HY HN
 replace HY := Lib.hid HY
 replace HN := Lib.hid HN
 clear e1 e2 e3 hb
 have b224 : (a == 224) = false := by rw [beq_eq_false_iff_ne]; omega
 have b237 : (a == 237) = false := by rw [beq_eq_false_iff_ne]; omega
 have b240 : (a == 240) = false := by rw [beq_eq_false_iff_ne]; omega
 have b244 : (a == 244) = false := by rw [beq_eq_false_iff_ne]; omega
 by_cases hn : 2 ≤ s.size
 ·obtain ⟨b, hb⟩ : ∃ b : Int, ((s[1]'(by omega)).toNat : Int) = b := ⟨_, rfl⟩
  have hb1 : (bAt s.data.toList 1 : Int) = b := by rw [← sAt (by omega)]; exact hb
  by_cases hlw : b < 128
  ·have hz := Lib.hid (HN.out (not_longC_low (by omega)))
   clear hb1 hl0
   go_enter Tryz.func111, Tryz.ntmps111
   go_wp2
   go_ret
   exact ⟨by rw [hz.out]; rfl, Ext.refl _⟩
  ·by_cases hhg : 191 < b
   ·have hz := Lib.hid (HN.out (not_longC_high (by omega)))
    clear hb1 hl0
    go_enter Tryz.func111, Tryz.ntmps111
    go_wp2
    go_ret
    exact ⟨by rw [hz.out]; rfl, Ext.refl _⟩
   ·replace hb1 := Lib.hid hb1
    clear hl0
    go_enter Tryz.func111, Tryz.ntmps111
    go_wp2
    go_loop [7] (fun i' => ∃ i : Nat, 2 ≤ i ∧ i ≤ 2 ∧ i' = .int .i64 i ∧ Hid (∀ j, 2 ≤ j → j < i → 128 ≤ bAt s.data.toList j ∧ bAt s.data.toList j ≤ 191)) (fun i' => 2 - (intOf i').toNat)
    case atStart => exact ⟨2, by omega, by omega, rfl, fun j h1 h2 => by omega⟩
    case round =>
     obtain ⟨i, hi2, hin, rfl, HC⟩ := hrel
     obtain rfl : i = 2 := by omega
     have hz := Lib.hid (HY.out ⟨by rw [← size_len]; exact hn, by have := hb1.out; omega, by have := hb1.out; omega, HC.out⟩)
     go_wp2
     go_ret
     exact ⟨by rw [hz.out]; rfl, Ext.refl _⟩
 ·have hz := Lib.hid (HN.out (not_longC_len (by rw [← size_len]; exact hn)))
  clear hl0
  go_enter Tryz.func111, Tryz.ntmps111
  go_wp2
  go_ret
  exact ⟨by rw [hz.out]; rfl, Ext.refl _⟩
set_option maxHeartbeats 1000000 in
theorem longB_w (s : ByteArray) (w : World) (hs : s.size < 9223372036854775807) (h0 : 0 < s.size) (ha : ((s[0]'h0).toNat : Int) = 224) :
  Calls Tryz.prog 111 #[.string s] w fun e w' => e = .returned (.int .i64 (longL s.data.toList)) ∧ Ext w w' := by
 have hb : (bAt s.data.toList 0 : Int) = 224 := by rw [← sAt h0]; exact ha
 have hn0 : ((s.size : Int) == 0) = false := by rw [beq_eq_false_iff_ne]; omega
 have hl0 : 0 < s.data.toList.length := by rw [← size_len]; exact h0
 have e1 : sizeOf' (bAt s.data.toList 0) = 3 := by unfold sizeOf'; (repeat' split) <;> omega
 have e2 : lowOf (bAt s.data.toList 0) = 160 := by unfold lowOf; (repeat' split) <;> omega
 have e3 : highOf (bAt s.data.toList 0) = 191 := by unfold highOf; (repeat' split) <;> omega
 have HY := long_yes hl0 (by omega) (by omega)
 have HN := long_no hl0 (by omega) (by omega)
 rw [e1, e2, e3] at HY HN
 replace HY := Lib.hid HY
 replace HN := Lib.hid HN
 clear e1 e2 e3 hb
 by_cases hn : 3 ≤ s.size
 ·obtain ⟨b, hb⟩ : ∃ b : Int, ((s[1]'(by omega)).toNat : Int) = b := ⟨_, rfl⟩
  have hb1 : (bAt s.data.toList 1 : Int) = b := by rw [← sAt (by omega)]; exact hb
  by_cases hlw : b < 160
  ·have hz := Lib.hid (HN.out (not_longC_low (by omega)))
   clear hb1 hl0
   go_enter Tryz.func111, Tryz.ntmps111
   go_wp2
   go_ret
   exact ⟨by rw [hz.out]; rfl, Ext.refl _⟩
  ·by_cases hhg : 191 < b
   ·have hz := Lib.hid (HN.out (not_longC_high (by omega)))
    clear hb1 hl0
    go_enter Tryz.func111, Tryz.ntmps111
    go_wp2
    go_ret
    exact ⟨by rw [hz.out]; rfl, Ext.refl _⟩
   ·replace hb1 := Lib.hid hb1
    clear hl0
    go_enter Tryz.func111, Tryz.ntmps111
    go_wp2
    go_loop [7] (fun i' => ∃ i : Nat, 2 ≤ i ∧ i ≤ 3 ∧ i' = .int .i64 i ∧ Hid (∀ j, 2 ≤ j → j < i → 128 ≤ bAt s.data.toList j ∧ bAt s.data.toList j ≤ 191)) (fun i' => 3 - (intOf i').toNat)
    case atStart => exact ⟨2, by omega, by omega, rfl, fun j h1 h2 => by omega⟩
    case round =>
     obtain ⟨i, hi2, hin, rfl, HC⟩ := hrel
     by_cases hlt : i < 3
     ·have hsi : i < s.size := by omega
      obtain ⟨c, hc⟩ : ∃ c : Int, ((s[i]'hsi).toNat : Int) = c := ⟨_, rfl⟩
      have hc1 : (bAt s.data.toList i : Int) = c := by rw [← sAt hsi]; exact hc
      by_cases c1 : c < 128
      ·have hz := Lib.hid (HN.out (not_longC_at hi2 hlt (by omega)))
       clear hc1
       go_wp2
       go_ret
       exact ⟨by rw [hz.out]; rfl, Ext.refl _⟩
      ·by_cases c2 : 191 < c
       ·have hz := Lib.hid (HN.out (not_longC_at hi2 hlt (by omega)))
        clear hc1
        go_wp2
        go_ret
        exact ⟨by rw [hz.out]; rfl, Ext.refl _⟩
       ·have hst : Hid (∀ j, 2 ≤ j → j < i + 1 → 128 ≤ bAt s.data.toList j ∧ bAt s.data.toList j ≤ 191) := fun j h1 h2 => by
         by_cases hj : j < i
         ·exact HC.out j h1 hj
         ·obtain rfl : j = i := by omega
          omega
        clear hc1
        go_wp2
        go_round
        case rel => exact ⟨i + 1, by omega, by omega, by go_num, hst⟩
        case measure => simp [intOf]; omega
     ·obtain rfl : i = 3 := by omega
      have hz := Lib.hid (HY.out ⟨by rw [← size_len]; exact hn, by have := hb1.out; omega, by have := hb1.out; omega, HC.out⟩)
      go_wp2
      go_ret
      exact ⟨by rw [hz.out]; rfl, Ext.refl _⟩
 ·have hz := Lib.hid (HN.out (not_longC_len (by rw [← size_len]; exact hn)))
  clear hl0
  go_enter Tryz.func111, Tryz.ntmps111
  go_wp2
  go_ret
  exact ⟨by rw [hz.out]; rfl, Ext.refl _⟩
set_option maxHeartbeats 1000000 in
theorem longD_w (s : ByteArray) (w : World) (hs : s.size < 9223372036854775807) (h0 : 0 < s.size) (a : Int) (hlo : 225 ≤ a) (hhi : a ≤ 239) (hne : a ≠ 237) (ha : ((s[0]'h0).toNat : Int) = a) :
  Calls Tryz.prog 111 #[.string s] w fun e w' => e = .returned (.int .i64 (longL s.data.toList)) ∧ Ext w w' := by
 have hb : (bAt s.data.toList 0 : Int) = a := by rw [← sAt h0]; exact ha
 have hn0 : ((s.size : Int) == 0) = false := by rw [beq_eq_false_iff_ne]; omega
 have hl0 : 0 < s.data.toList.length := by rw [← size_len]; exact h0
 have e1 : sizeOf' (bAt s.data.toList 0) = 3 := by unfold sizeOf'; (repeat' split) <;> omega
 have e2 : lowOf (bAt s.data.toList 0) = 128 := by unfold lowOf; (repeat' split) <;> omega
 have e3 : highOf (bAt s.data.toList 0) = 191 := by unfold highOf; (repeat' split) <;> omega
 have HY := long_yes hl0 (by omega) (by omega)
 have HN := long_no hl0 (by omega) (by omega)
 rw [e1, e2, e3] at HY HN
 replace HY := Lib.hid HY
 replace HN := Lib.hid HN
 clear e1 e2 e3 hb
 have b224 : (a == 224) = false := by rw [beq_eq_false_iff_ne]; omega
 have b237 : (a == 237) = false := by rw [beq_eq_false_iff_ne]; omega
 have b240 : (a == 240) = false := by rw [beq_eq_false_iff_ne]; omega
 have b244 : (a == 244) = false := by rw [beq_eq_false_iff_ne]; omega
 by_cases hn : 3 ≤ s.size
 ·obtain ⟨b, hb⟩ : ∃ b : Int, ((s[1]'(by omega)).toNat : Int) = b := ⟨_, rfl⟩
  have hb1 : (bAt s.data.toList 1 : Int) = b := by rw [← sAt (by omega)]; exact hb
  by_cases hlw : b < 128
  ·have hz := Lib.hid (HN.out (not_longC_low (by omega)))
   clear hb1 hl0
   go_enter Tryz.func111, Tryz.ntmps111
   go_wp2
   go_ret
   exact ⟨by rw [hz.out]; rfl, Ext.refl _⟩
  ·by_cases hhg : 191 < b
   ·have hz := Lib.hid (HN.out (not_longC_high (by omega)))
    clear hb1 hl0
    go_enter Tryz.func111, Tryz.ntmps111
    go_wp2
    go_ret
    exact ⟨by rw [hz.out]; rfl, Ext.refl _⟩
   ·replace hb1 := Lib.hid hb1
    clear hl0
    go_enter Tryz.func111, Tryz.ntmps111
    go_wp2
    go_loop [7] (fun i' => ∃ i : Nat, 2 ≤ i ∧ i ≤ 3 ∧ i' = .int .i64 i ∧ Hid (∀ j, 2 ≤ j → j < i → 128 ≤ bAt s.data.toList j ∧ bAt s.data.toList j ≤ 191)) (fun i' => 3 - (intOf i').toNat)
    case atStart => exact ⟨2, by omega, by omega, rfl, fun j h1 h2 => by omega⟩
    case round =>
     obtain ⟨i, hi2, hin, rfl, HC⟩ := hrel
     by_cases hlt : i < 3
     ·have hsi : i < s.size := by omega
      obtain ⟨c, hc⟩ : ∃ c : Int, ((s[i]'hsi).toNat : Int) = c := ⟨_, rfl⟩
      have hc1 : (bAt s.data.toList i : Int) = c := by rw [← sAt hsi]; exact hc
      by_cases c1 : c < 128
      ·have hz := Lib.hid (HN.out (not_longC_at hi2 hlt (by omega)))
       clear hc1
       go_wp2
       go_ret
       exact ⟨by rw [hz.out]; rfl, Ext.refl _⟩
      ·by_cases c2 : 191 < c
       ·have hz := Lib.hid (HN.out (not_longC_at hi2 hlt (by omega)))
        clear hc1
        go_wp2
        go_ret
        exact ⟨by rw [hz.out]; rfl, Ext.refl _⟩
       ·have hst : Hid (∀ j, 2 ≤ j → j < i + 1 → 128 ≤ bAt s.data.toList j ∧ bAt s.data.toList j ≤ 191) := fun j h1 h2 => by
         by_cases hj : j < i
         ·exact HC.out j h1 hj
         ·obtain rfl : j = i := by omega
          omega
        clear hc1
        go_wp2
        go_round
        case rel => exact ⟨i + 1, by omega, by omega, by go_num, hst⟩
        case measure => simp [intOf]; omega
     ·obtain rfl : i = 3 := by omega
      have hz := Lib.hid (HY.out ⟨by rw [← size_len]; exact hn, by have := hb1.out; omega, by have := hb1.out; omega, HC.out⟩)
      go_wp2
      go_ret
      exact ⟨by rw [hz.out]; rfl, Ext.refl _⟩
 ·have hz := Lib.hid (HN.out (not_longC_len (by rw [← size_len]; exact hn)))
  clear hl0
  go_enter Tryz.func111, Tryz.ntmps111
  go_wp2
  go_ret
  exact ⟨by rw [hz.out]; rfl, Ext.refl _⟩
set_option maxHeartbeats 1000000 in
theorem longE_w (s : ByteArray) (w : World) (hs : s.size < 9223372036854775807) (h0 : 0 < s.size) (ha : ((s[0]'h0).toNat : Int) = 237) :
  Calls Tryz.prog 111 #[.string s] w fun e w' => e = .returned (.int .i64 (longL s.data.toList)) ∧ Ext w w' := by
 have hb : (bAt s.data.toList 0 : Int) = 237 := by rw [← sAt h0]; exact ha
 have hn0 : ((s.size : Int) == 0) = false := by rw [beq_eq_false_iff_ne]; omega
 have hl0 : 0 < s.data.toList.length := by rw [← size_len]; exact h0
 have e1 : sizeOf' (bAt s.data.toList 0) = 3 := by unfold sizeOf'; (repeat' split) <;> omega
 have e2 : lowOf (bAt s.data.toList 0) = 128 := by unfold lowOf; (repeat' split) <;> omega
 have e3 : highOf (bAt s.data.toList 0) = 159 := by unfold highOf; (repeat' split) <;> omega
 have HY := long_yes hl0 (by omega) (by omega)
 have HN := long_no hl0 (by omega) (by omega)
 rw [e1, e2, e3] at HY HN
 replace HY := Lib.hid HY
 replace HN := Lib.hid HN
 clear e1 e2 e3 hb
 by_cases hn : 3 ≤ s.size
 ·obtain ⟨b, hb⟩ : ∃ b : Int, ((s[1]'(by omega)).toNat : Int) = b := ⟨_, rfl⟩
  have hb1 : (bAt s.data.toList 1 : Int) = b := by rw [← sAt (by omega)]; exact hb
  by_cases hlw : b < 128
  ·have hz := Lib.hid (HN.out (not_longC_low (by omega)))
   clear hb1 hl0
   go_enter Tryz.func111, Tryz.ntmps111
   go_wp2
   go_ret
   exact ⟨by rw [hz.out]; rfl, Ext.refl _⟩
  ·by_cases hhg : 159 < b
   ·have hz := Lib.hid (HN.out (not_longC_high (by omega)))
    clear hb1 hl0
    go_enter Tryz.func111, Tryz.ntmps111
    go_wp2
    go_ret
    exact ⟨by rw [hz.out]; rfl, Ext.refl _⟩
   ·replace hb1 := Lib.hid hb1
    clear hl0
    go_enter Tryz.func111, Tryz.ntmps111
    go_wp2
    go_loop [7] (fun i' => ∃ i : Nat, 2 ≤ i ∧ i ≤ 3 ∧ i' = .int .i64 i ∧ Hid (∀ j, 2 ≤ j → j < i → 128 ≤ bAt s.data.toList j ∧ bAt s.data.toList j ≤ 191)) (fun i' => 3 - (intOf i').toNat)
    case atStart => exact ⟨2, by omega, by omega, rfl, fun j h1 h2 => by omega⟩
    case round =>
     obtain ⟨i, hi2, hin, rfl, HC⟩ := hrel
     by_cases hlt : i < 3
     ·have hsi : i < s.size := by omega
      obtain ⟨c, hc⟩ : ∃ c : Int, ((s[i]'hsi).toNat : Int) = c := ⟨_, rfl⟩
      have hc1 : (bAt s.data.toList i : Int) = c := by rw [← sAt hsi]; exact hc
      by_cases c1 : c < 128
      ·have hz := Lib.hid (HN.out (not_longC_at hi2 hlt (by omega)))
       clear hc1
       go_wp2
       go_ret
       exact ⟨by rw [hz.out]; rfl, Ext.refl _⟩
      ·by_cases c2 : 191 < c
       ·have hz := Lib.hid (HN.out (not_longC_at hi2 hlt (by omega)))
        clear hc1
        go_wp2
        go_ret
        exact ⟨by rw [hz.out]; rfl, Ext.refl _⟩
       ·have hst : Hid (∀ j, 2 ≤ j → j < i + 1 → 128 ≤ bAt s.data.toList j ∧ bAt s.data.toList j ≤ 191) := fun j h1 h2 => by
         by_cases hj : j < i
         ·exact HC.out j h1 hj
         ·obtain rfl : j = i := by omega
          omega
        clear hc1
        go_wp2
        go_round
        case rel => exact ⟨i + 1, by omega, by omega, by go_num, hst⟩
        case measure => simp [intOf]; omega
     ·obtain rfl : i = 3 := by omega
      have hz := Lib.hid (HY.out ⟨by rw [← size_len]; exact hn, by have := hb1.out; omega, by have := hb1.out; omega, HC.out⟩)
      go_wp2
      go_ret
      exact ⟨by rw [hz.out]; rfl, Ext.refl _⟩
 ·have hz := Lib.hid (HN.out (not_longC_len (by rw [← size_len]; exact hn)))
  clear hl0
  go_enter Tryz.func111, Tryz.ntmps111
  go_wp2
  go_ret
  exact ⟨by rw [hz.out]; rfl, Ext.refl _⟩
set_option maxHeartbeats 1000000 in
theorem longF_w (s : ByteArray) (w : World) (hs : s.size < 9223372036854775807) (h0 : 0 < s.size) (ha : ((s[0]'h0).toNat : Int) = 240) :
  Calls Tryz.prog 111 #[.string s] w fun e w' => e = .returned (.int .i64 (longL s.data.toList)) ∧ Ext w w' := by
 have hb : (bAt s.data.toList 0 : Int) = 240 := by rw [← sAt h0]; exact ha
 have hn0 : ((s.size : Int) == 0) = false := by rw [beq_eq_false_iff_ne]; omega
 have hl0 : 0 < s.data.toList.length := by rw [← size_len]; exact h0
 have e1 : sizeOf' (bAt s.data.toList 0) = 4 := by unfold sizeOf'; (repeat' split) <;> omega
 have e2 : lowOf (bAt s.data.toList 0) = 144 := by unfold lowOf; (repeat' split) <;> omega
 have e3 : highOf (bAt s.data.toList 0) = 191 := by unfold highOf; (repeat' split) <;> omega
 have HY := long_yes hl0 (by omega) (by omega)
 have HN := long_no hl0 (by omega) (by omega)
 rw [e1, e2, e3] at HY HN
 replace HY := Lib.hid HY
 replace HN := Lib.hid HN
 clear e1 e2 e3 hb
 by_cases hn : 4 ≤ s.size
 ·obtain ⟨b, hb⟩ : ∃ b : Int, ((s[1]'(by omega)).toNat : Int) = b := ⟨_, rfl⟩
  have hb1 : (bAt s.data.toList 1 : Int) = b := by rw [← sAt (by omega)]; exact hb
  by_cases hlw : b < 144
  ·have hz := Lib.hid (HN.out (not_longC_low (by omega)))
   clear hb1 hl0
   go_enter Tryz.func111, Tryz.ntmps111
   go_wp2
   go_ret
   exact ⟨by rw [hz.out]; rfl, Ext.refl _⟩
  ·by_cases hhg : 191 < b
   ·have hz := Lib.hid (HN.out (not_longC_high (by omega)))
    clear hb1 hl0
    go_enter Tryz.func111, Tryz.ntmps111
    go_wp2
    go_ret
    exact ⟨by rw [hz.out]; rfl, Ext.refl _⟩
   ·replace hb1 := Lib.hid hb1
    clear hl0
    go_enter Tryz.func111, Tryz.ntmps111
    go_wp2
    go_loop [7] (fun i' => ∃ i : Nat, 2 ≤ i ∧ i ≤ 4 ∧ i' = .int .i64 i ∧ Hid (∀ j, 2 ≤ j → j < i → 128 ≤ bAt s.data.toList j ∧ bAt s.data.toList j ≤ 191)) (fun i' => 4 - (intOf i').toNat)
    case atStart => exact ⟨2, by omega, by omega, rfl, fun j h1 h2 => by omega⟩
    case round =>
     obtain ⟨i, hi2, hin, rfl, HC⟩ := hrel
     by_cases hlt : i < 4
     ·have hsi : i < s.size := by omega
      obtain ⟨c, hc⟩ : ∃ c : Int, ((s[i]'hsi).toNat : Int) = c := ⟨_, rfl⟩
      have hc1 : (bAt s.data.toList i : Int) = c := by rw [← sAt hsi]; exact hc
      by_cases c1 : c < 128
      ·have hz := Lib.hid (HN.out (not_longC_at hi2 hlt (by omega)))
       clear hc1
       go_wp2
       go_ret
       exact ⟨by rw [hz.out]; rfl, Ext.refl _⟩
      ·by_cases c2 : 191 < c
       ·have hz := Lib.hid (HN.out (not_longC_at hi2 hlt (by omega)))
        clear hc1
        go_wp2
        go_ret
        exact ⟨by rw [hz.out]; rfl, Ext.refl _⟩
       ·have hst : Hid (∀ j, 2 ≤ j → j < i + 1 → 128 ≤ bAt s.data.toList j ∧ bAt s.data.toList j ≤ 191) := fun j h1 h2 => by
         by_cases hj : j < i
         ·exact HC.out j h1 hj
         ·obtain rfl : j = i := by omega
          omega
        clear hc1
        go_wp2
        go_round
        case rel => exact ⟨i + 1, by omega, by omega, by go_num, hst⟩
        case measure => simp [intOf]; omega
     ·obtain rfl : i = 4 := by omega
      have hz := Lib.hid (HY.out ⟨by rw [← size_len]; exact hn, by have := hb1.out; omega, by have := hb1.out; omega, HC.out⟩)
      go_wp2
      go_ret
      exact ⟨by rw [hz.out]; rfl, Ext.refl _⟩
 ·have hz := Lib.hid (HN.out (not_longC_len (by rw [← size_len]; exact hn)))
  clear hl0
  go_enter Tryz.func111, Tryz.ntmps111
  go_wp2
  go_ret
  exact ⟨by rw [hz.out]; rfl, Ext.refl _⟩
set_option maxHeartbeats 1000000 in
theorem longG_w (s : ByteArray) (w : World) (hs : s.size < 9223372036854775807) (h0 : 0 < s.size) (a : Int) (hlo : 241 ≤ a) (hhi : a ≤ 243) (ha : ((s[0]'h0).toNat : Int) = a) :
  Calls Tryz.prog 111 #[.string s] w fun e w' => e = .returned (.int .i64 (longL s.data.toList)) ∧ Ext w w' := by
 have hb : (bAt s.data.toList 0 : Int) = a := by rw [← sAt h0]; exact ha
 have hn0 : ((s.size : Int) == 0) = false := by rw [beq_eq_false_iff_ne]; omega
 have hl0 : 0 < s.data.toList.length := by rw [← size_len]; exact h0
 have e1 : sizeOf' (bAt s.data.toList 0) = 4 := by unfold sizeOf'; (repeat' split) <;> omega
 have e2 : lowOf (bAt s.data.toList 0) = 128 := by unfold lowOf; (repeat' split) <;> omega
 have e3 : highOf (bAt s.data.toList 0) = 191 := by unfold highOf; (repeat' split) <;> omega
 have HY := long_yes hl0 (by omega) (by omega)
 have HN := long_no hl0 (by omega) (by omega)
 rw [e1, e2, e3] at HY HN
 replace HY := Lib.hid HY
 replace HN := Lib.hid HN
 clear e1 e2 e3 hb
 have b224 : (a == 224) = false := by rw [beq_eq_false_iff_ne]; omega
 have b237 : (a == 237) = false := by rw [beq_eq_false_iff_ne]; omega
 have b240 : (a == 240) = false := by rw [beq_eq_false_iff_ne]; omega
 have b244 : (a == 244) = false := by rw [beq_eq_false_iff_ne]; omega
 by_cases hn : 4 ≤ s.size
 ·obtain ⟨b, hb⟩ : ∃ b : Int, ((s[1]'(by omega)).toNat : Int) = b := ⟨_, rfl⟩
  have hb1 : (bAt s.data.toList 1 : Int) = b := by rw [← sAt (by omega)]; exact hb
  by_cases hlw : b < 128
  ·have hz := Lib.hid (HN.out (not_longC_low (by omega)))
   clear hb1 hl0
   go_enter Tryz.func111, Tryz.ntmps111
   go_wp2
   go_ret
   exact ⟨by rw [hz.out]; rfl, Ext.refl _⟩
  ·by_cases hhg : 191 < b
   ·have hz := Lib.hid (HN.out (not_longC_high (by omega)))
    clear hb1 hl0
    go_enter Tryz.func111, Tryz.ntmps111
    go_wp2
    go_ret
    exact ⟨by rw [hz.out]; rfl, Ext.refl _⟩
   ·replace hb1 := Lib.hid hb1
    clear hl0
    go_enter Tryz.func111, Tryz.ntmps111
    go_wp2
    go_loop [7] (fun i' => ∃ i : Nat, 2 ≤ i ∧ i ≤ 4 ∧ i' = .int .i64 i ∧ Hid (∀ j, 2 ≤ j → j < i → 128 ≤ bAt s.data.toList j ∧ bAt s.data.toList j ≤ 191)) (fun i' => 4 - (intOf i').toNat)
    case atStart => exact ⟨2, by omega, by omega, rfl, fun j h1 h2 => by omega⟩
    case round =>
     obtain ⟨i, hi2, hin, rfl, HC⟩ := hrel
     by_cases hlt : i < 4
     ·have hsi : i < s.size := by omega
      obtain ⟨c, hc⟩ : ∃ c : Int, ((s[i]'hsi).toNat : Int) = c := ⟨_, rfl⟩
      have hc1 : (bAt s.data.toList i : Int) = c := by rw [← sAt hsi]; exact hc
      by_cases c1 : c < 128
      ·have hz := Lib.hid (HN.out (not_longC_at hi2 hlt (by omega)))
       clear hc1
       go_wp2
       go_ret
       exact ⟨by rw [hz.out]; rfl, Ext.refl _⟩
      ·by_cases c2 : 191 < c
       ·have hz := Lib.hid (HN.out (not_longC_at hi2 hlt (by omega)))
        clear hc1
        go_wp2
        go_ret
        exact ⟨by rw [hz.out]; rfl, Ext.refl _⟩
       ·have hst : Hid (∀ j, 2 ≤ j → j < i + 1 → 128 ≤ bAt s.data.toList j ∧ bAt s.data.toList j ≤ 191) := fun j h1 h2 => by
         by_cases hj : j < i
         ·exact HC.out j h1 hj
         ·obtain rfl : j = i := by omega
          omega
        clear hc1
        go_wp2
        go_round
        case rel => exact ⟨i + 1, by omega, by omega, by go_num, hst⟩
        case measure => simp [intOf]; omega
     ·obtain rfl : i = 4 := by omega
      have hz := Lib.hid (HY.out ⟨by rw [← size_len]; exact hn, by have := hb1.out; omega, by have := hb1.out; omega, HC.out⟩)
      go_wp2
      go_ret
      exact ⟨by rw [hz.out]; rfl, Ext.refl _⟩
 ·have hz := Lib.hid (HN.out (not_longC_len (by rw [← size_len]; exact hn)))
  clear hl0
  go_enter Tryz.func111, Tryz.ntmps111
  go_wp2
  go_ret
  exact ⟨by rw [hz.out]; rfl, Ext.refl _⟩
set_option maxHeartbeats 1000000 in
theorem longH_w (s : ByteArray) (w : World) (hs : s.size < 9223372036854775807) (h0 : 0 < s.size) (ha : ((s[0]'h0).toNat : Int) = 244) :
  Calls Tryz.prog 111 #[.string s] w fun e w' => e = .returned (.int .i64 (longL s.data.toList)) ∧ Ext w w' := by
 have hb : (bAt s.data.toList 0 : Int) = 244 := by rw [← sAt h0]; exact ha
 have hn0 : ((s.size : Int) == 0) = false := by rw [beq_eq_false_iff_ne]; omega
 have hl0 : 0 < s.data.toList.length := by rw [← size_len]; exact h0
 have e1 : sizeOf' (bAt s.data.toList 0) = 4 := by unfold sizeOf'; (repeat' split) <;> omega
 have e2 : lowOf (bAt s.data.toList 0) = 128 := by unfold lowOf; (repeat' split) <;> omega
 have e3 : highOf (bAt s.data.toList 0) = 143 := by unfold highOf; (repeat' split) <;> omega
 have HY := long_yes hl0 (by omega) (by omega)
 have HN := long_no hl0 (by omega) (by omega)
 rw [e1, e2, e3] at HY HN
 replace HY := Lib.hid HY
 replace HN := Lib.hid HN
 clear e1 e2 e3 hb
 by_cases hn : 4 ≤ s.size
 ·obtain ⟨b, hb⟩ : ∃ b : Int, ((s[1]'(by omega)).toNat : Int) = b := ⟨_, rfl⟩
  have hb1 : (bAt s.data.toList 1 : Int) = b := by rw [← sAt (by omega)]; exact hb
  by_cases hlw : b < 128
  ·have hz := Lib.hid (HN.out (not_longC_low (by omega)))
   clear hb1 hl0
   go_enter Tryz.func111, Tryz.ntmps111
   go_wp2
   go_ret
   exact ⟨by rw [hz.out]; rfl, Ext.refl _⟩
  ·by_cases hhg : 143 < b
   ·have hz := Lib.hid (HN.out (not_longC_high (by omega)))
    clear hb1 hl0
    go_enter Tryz.func111, Tryz.ntmps111
    go_wp2
    go_ret
    exact ⟨by rw [hz.out]; rfl, Ext.refl _⟩
   ·replace hb1 := Lib.hid hb1
    clear hl0
    go_enter Tryz.func111, Tryz.ntmps111
    go_wp2
    go_loop [7] (fun i' => ∃ i : Nat, 2 ≤ i ∧ i ≤ 4 ∧ i' = .int .i64 i ∧ Hid (∀ j, 2 ≤ j → j < i → 128 ≤ bAt s.data.toList j ∧ bAt s.data.toList j ≤ 191)) (fun i' => 4 - (intOf i').toNat)
    case atStart => exact ⟨2, by omega, by omega, rfl, fun j h1 h2 => by omega⟩
    case round =>
     obtain ⟨i, hi2, hin, rfl, HC⟩ := hrel
     by_cases hlt : i < 4
     ·have hsi : i < s.size := by omega
      obtain ⟨c, hc⟩ : ∃ c : Int, ((s[i]'hsi).toNat : Int) = c := ⟨_, rfl⟩
      have hc1 : (bAt s.data.toList i : Int) = c := by rw [← sAt hsi]; exact hc
      by_cases c1 : c < 128
      ·have hz := Lib.hid (HN.out (not_longC_at hi2 hlt (by omega)))
       clear hc1
       go_wp2
       go_ret
       exact ⟨by rw [hz.out]; rfl, Ext.refl _⟩
      ·by_cases c2 : 191 < c
       ·have hz := Lib.hid (HN.out (not_longC_at hi2 hlt (by omega)))
        clear hc1
        go_wp2
        go_ret
        exact ⟨by rw [hz.out]; rfl, Ext.refl _⟩
       ·have hst : Hid (∀ j, 2 ≤ j → j < i + 1 → 128 ≤ bAt s.data.toList j ∧ bAt s.data.toList j ≤ 191) := fun j h1 h2 => by
         by_cases hj : j < i
         ·exact HC.out j h1 hj
         ·obtain rfl : j = i := by omega
          omega
        clear hc1
        go_wp2
        go_round
        case rel => exact ⟨i + 1, by omega, by omega, by go_num, hst⟩
        case measure => simp [intOf]; omega
     ·obtain rfl : i = 4 := by omega
      have hz := Lib.hid (HY.out ⟨by rw [← size_len]; exact hn, by have := hb1.out; omega, by have := hb1.out; omega, HC.out⟩)
      go_wp2
      go_ret
      exact ⟨by rw [hz.out]; rfl, Ext.refl _⟩
 ·have hz := Lib.hid (HN.out (not_longC_len (by rw [← size_len]; exact hn)))
  clear hl0
  go_enter Tryz.func111, Tryz.ntmps111
  go_wp2
  go_ret
  exact ⟨by rw [hz.out]; rfl, Ext.refl _⟩
set_option maxHeartbeats 1000000 in
theorem long_w (s : ByteArray) (w : World) (hs : s.size < 9223372036854775807) :
  Calls Tryz.prog 111 #[.string s] w fun e w' => e = .returned (.int .i64 (longL s.data.toList)) ∧ Ext w w' := by
 by_cases h0 : s.size = 0
 ·have hz : longL s.data.toList = 0 := by
   have : s.data.toList = [] := List.length_eq_zero_iff.1 (by rw [← size_len]; exact h0)
   rw [this]; rfl
  have hn : ((s.size : Int) == 0) = true := by rw [beq_iff_eq]; omega
  replace hz := Lib.hid hz
  clear h0
  go_enter Tryz.func111, Tryz.ntmps111
  go_wp2
  go_ret
  exact ⟨by rw [hz.out]; rfl, Ext.refl _⟩
 ·have hn : ((s.size : Int) == 0) = false := by rw [beq_eq_false_iff_ne]; omega
  have h00 : 0 < s.size := by omega
  have hl0 : 0 < s.data.toList.length := by rw [← size_len]; exact h00
  obtain ⟨a, ha⟩ : ∃ a : Int, ((s[0]'h00).toNat : Int) = a := ⟨_, rfl⟩
  have hb : (bAt s.data.toList 0 : Int) = a := by rw [← sAt h00]; exact ha
  by_cases h1 : a < 128
  ·have hz := Lib.hid (long_head hl0 (by omega))
   clear hb hl0
   go_enter Tryz.func111, Tryz.ntmps111
   go_wp2
   go_ret
   exact ⟨by rw [hz.out]; rfl, Ext.refl _⟩
  ·by_cases h2 : a < 194
   ·have hz := Lib.hid (long_bad hl0 (by omega) (by omega))
    clear hb hl0
    go_enter Tryz.func111, Tryz.ntmps111
    go_wp2
    go_ret
    exact ⟨by rw [hz.out]; rfl, Ext.refl _⟩
   ·by_cases h3 : 244 < a
    ·have hz := Lib.hid (long_bad hl0 (by omega) (by omega))
     clear hb hl0
     go_enter Tryz.func111, Tryz.ntmps111
     go_wp2
     go_ret
     exact ⟨by rw [hz.out]; rfl, Ext.refl _⟩
    ·by_cases c1 : a ≤ 223
     ·exact longA_w s w hs h00 a (by omega) c1 ha
     ·by_cases c2 : a = 224
      ·exact longB_w s w hs h00 (ha.trans c2)
      ·by_cases c3 : a = 237
       ·exact longE_w s w hs h00 (ha.trans c3)
       ·by_cases c4 : a ≤ 239
        ·exact longD_w s w hs h00 a (by omega) c4 c3 ha
        ·by_cases c5 : a = 240
         ·exact longF_w s w hs h00 (ha.trans c5)
         ·by_cases c6 : a = 244
          ·exact longH_w s w hs h00 (ha.trans c6)
          ·exact longG_w s w hs h00 a (by omega) (by omega) ha
end Go.Proofs.YtefjdmjkofaajaaGreatDoor
namespace Go.Dm
open Go Go.RowKit
structure Kept (B : Nat) (s : ByteArray) (at' : Int) (u n : Int) (w : World) : Prop where
 s : Cell B (.string s) w
 a : Cell (B + 1) (.int .i64 at') w
 u : Cell (B + 1 + 1) (.int .u64 u) w
 n : Cell (B + 1 + 1 + 1) (.int .i64 n) w
 o : Cell (B + 1 + 1 + 1 + 1) (.bool false) w
theorem Kept.ext {B : Nat} {s : ByteArray} {at' u n : Int} {w w' : World} (h : Kept B s at' u n w) (hx : Ext w w') : Kept B s at' u n w' :=
 ⟨h.s.ext hx, h.a.ext hx, h.u.ext hx, h.n.ext hx, h.o.ext hx⟩
theorem Kept.setU {B : Nat} {s : ByteArray} {at' u n : Int} {w : World} (h : Kept B s at' u n w) (v : Int) : Kept B s at' v n (w.setCell ⟨B + 1 + 1, 0, none⟩ (.int .u64 v)) :=
 ⟨h.s.other (by omega) _, h.a.other (by omega) _, h.u.set _, h.n.other (by omega) _, h.o.other (by omega) _⟩
theorem Kept.setN {B : Nat} {s : ByteArray} {at' u n : Int} {w : World} (h : Kept B s at' u n w) (v : Int) : Kept B s at' u v (w.setCell ⟨B + 1 + 1 + 1, 0, none⟩ (.int .i64 v)) :=
 ⟨h.s.other (by omega) _, h.a.other (by omega) _, h.u.other (by omega) _, h.n.set _, h.o.other (by omega) _⟩
theorem Kept.four {B : Nat} {s : ByteArray} {at' u n : Int} {w : World} (h : Kept B s at' u n w) : Go.Dm.Cell (B + 1 + 1 + 1) (.int .i64 n) w ∧ Go.Dm.Cell (B + 1 + 1) (.int .u64 u) w ∧ Go.Dm.Cell B (.string s) w ∧ Go.Dm.Cell (B + 1) (.int .i64 at') w := ⟨h.n, h.u, h.s, h.a⟩
theorem Cell.new (w : World) (v : Value) (t : TypeId) : Cell w.heap.size v (w.alloc (.cells #[v] t)) :=
 ⟨by simp, by simp, by simp⟩
def laid5 (w : World) (s : ByteArray) (p : Int) (t0 t1 t2 t3 t4 : TypeId) : World :=
 ((((w.alloc (.cells #[.string s] t0)).alloc (.cells #[.int .i64 p] t1)).alloc (.cells #[.int .u64 0] t2)).alloc (.cells #[.int .i64 0] t3)).alloc (.cells #[.bool false] t4)
theorem laid5_ext (w : World) (s : ByteArray) (p : Int) (t0 t1 t2 t3 t4 : TypeId) : Ext w (laid5 w s p t0 t1 t2 t3 t4) :=
 (((((Ext.refl w).alloc _).alloc _).alloc _).alloc _).alloc _
theorem laid5_kept (w : World) (s : ByteArray) (p : Int) (t0 t1 t2 t3 t4 : TypeId) : Kept w.heap.size s p 0 0 (laid5 w s p t0 t1 t2 t3 t4) := by
 have c0 := Cell.new w (.string s) t0
 have c1 := Cell.new (w.alloc (.cells #[.string s] t0)) (.int .i64 p) t1
 have c2 := Cell.new ((w.alloc (.cells #[.string s] t0)).alloc (.cells #[.int .i64 p] t1)) (.int .u64 0) t2
 have c3 := Cell.new (((w.alloc (.cells #[.string s] t0)).alloc (.cells #[.int .i64 p] t1)).alloc (.cells #[.int .u64 0] t2)) (.int .i64 0) t3
 have c4 := Cell.new ((((w.alloc (.cells #[.string s] t0)).alloc (.cells #[.int .i64 p] t1)).alloc (.cells #[.int .u64 0] t2)).alloc (.cells #[.int .i64 0] t3)) (.bool false) t4
 simp only [World.size_alloc] at c1 c2 c3 c4
 exact ⟨c0.ext ((((((Ext.refl _).alloc _).alloc _).alloc _).alloc _)), c1.ext (((((Ext.refl _).alloc _).alloc _).alloc _)), c2.ext ((((Ext.refl _).alloc _).alloc _)), c3.ext (((Ext.refl _).alloc _)), c4⟩
theorem below_door {w wr wz wy w'' : World} {a b : Addr} {x y : Value} (hL : Below w.heap.size ((wy.setCell a y)) w'') (hb : Below w.heap.size w wr) (hxz : Ext wr wz) (hxy : Ext (wz.setCell b x) wy) (hB : w.heap.size < wr.heap.size)
  (ha : w.heap.size ≤ a.block := by first | omega | (simp; omega)) (hbb : w.heap.size ≤ b.block := by first | omega | (simp; omega)) : Ext w w'' := by
 have h1 := hxz.size
 have h2 := hxy.size
 rw [World.size_setCell] at h2
 exact ((((hb.trans (below_of_ext hxz (by omega))).setCell (p := b) hbb x).trans (below_of_ext hxy (by rw [World.size_setCell]; omega))).setCell (p := a) ha y).trans hL
end Go.Dm
namespace Go.Proofs.YtefjdmjkofaajaaGreatDoor
open Go.RowKit Go.Dm
set_option maxHeartbeats 4000000 in
set_option maxRecDepth 100000 in
theorem wget_in (s : ByteArray) (p : Nat) (w : World) (hs : s.size ≤ 281474976710656) (hp : p < s.size) :
  Calls Tryz.prog 81 #[.string s, .int .i64 p] w fun e w' => e = .returned (.tuple #[.int .u64 (getI s.data.toList p).1, .int .i64 (getI s.data.toList p).2.1, .bool (getI s.data.toList p).2.2]) ∧ Ext w w' := by
 have hmf : ∀ (fn : Fn) (first cap : Array Value) (w : World), (Instr.makeFunc fn first cap).run Tryz.prog w = .ok (.func fn first cap) w := fun _ _ _ _ => rfl
 go_enter_defers Tryz.func81, Tryz.ntmps81
 have hK := laid5_kept w s p 9 3 25 3 4
 have hE := laid5_ext w s p 9 3 25 3 4
 go_wp2
 change Code.wp _ _ _ _ (laid5 w s p 9 3 25 3 4)
 generalize laid5 w s p 9 3 25 3 4 = W at hK hE
 go_loopw [7] (fun i' wr => ∃ (k j : Nat), k = p + j ∧ k ≤ s.size ∧ j ≤ 10 ∧ i' = .int .i64 k ∧ Below w.heap.size w wr ∧ Kept w.heap.size s p ((scanV (s.data.toList.drop p) j % 18446744073709551616 : Nat) : Int) 0 wr ∧ Hid (∀ i, i < j → endsAt (s.data.toList.drop p) i = false)) (fun i' _ => s.size - (intOf i').toNat)
 case atStart => exact ⟨p, 0, by omega, by omega, by omega, rfl, hE, hK, fun i hi => by omega⟩
 case round =>
  obtain ⟨k, j, hkj, hks, hj, rfl, hb, hK, HN⟩ := hrel
  by_cases hlt : k < s.size
  ·by_cases hj10 : j < 10
   ·have hk10 : k < p + 10 := by omega
    obtain ⟨b, hbk⟩ : ∃ b : Int, ((s[k]'hlt).toNat : Int) = b := ⟨_, rfl⟩
    have hb0 : 0 ≤ b ∧ b ≤ 255 := by rw [← hbk, sAt hlt]; have := bAt_lt s.data.toList k; omega
    have hkp : (k : Int) - (p : Int) = (j : Int) := by omega
    generalize hX : ((scanV (s.data.toList.drop p) j % 18446744073709551616 : Nat) : Int) = X at hK
    replace hkj := Lib.hid hkj
    replace hX := Lib.hid hX
    replace hbk := Lib.hid hbk
    obtain ⟨⟨s1, s2, _⟩, ⟨a1, a2, _⟩, ⟨u1, u2, _⟩, ⟨n1, n2, _⟩, _⟩ := id hK
    go_wp2_with fail
    refine sx_ ?_
    refine rfN_ (Kept w.heap.size s p X 0) 12 13 ?_
    refine tfs (List.range' 0 12) 4095 1 (fun _ _ h hx => h.ext hx) hK ?_ (hq := by intro wq hwq; obtain ⟨⟨s1, s2, _⟩, ⟨a1, a2, _⟩, ⟨u1, u2, _⟩, ⟨n1, n2, _⟩, _⟩ := hwq; (repeat go_big_quiet_step (fail)); exact wpQuiet_nil rfl)
    refine f1_ 12 8191 fun wz hxz => ?_
    have hKz := hK.ext hxz
    obtain ⟨v1, v2, v3⟩ := id hKz.u
    replace hKz := Lib.hid hKz
    go_wp2_with fail
    first | refine ⟨fun h => absurd h (by decide), ?_⟩ | skip
    refine fd_ fun wy hxy => ?_
    refine Dm.NoPanic.back ?_
    have E : Go.bits .or .u64 X (IntKind.u64.wrap (IntKind.u64.wrap (Go.bits .andNot .u8 ((s[k]'hlt).toNat : Int) 128) * 2 ^ (7 * j))) = ((scanV (s.data.toList.drop p) (j + 1) % 18446744073709551616 : Nat) : Int) := by
     have hX' := hX.out
     have hbd : bAt (s.data.toList.drop p) j = bAt s.data.toList k := by rw [hkj.out]; simp [bAt, List.getD_eq_getElem?_getD]
     rw [← hX', sAt hlt, ← hbd]
     exact scan_step _ (bAt_lt _ _)
    rw [E] at hxy; simp only [E]; clear E
    have hK2 := ((hKz.out).setU ((scanV (s.data.toList.drop p) (j + 1) % 18446744073709551616 : Nat) : Int)).ext hxy
    obtain ⟨⟨s1, s2, _⟩, ⟨a1, a2, _⟩, ⟨u1, u2, _⟩, ⟨n1, n2, n3⟩, _⟩ := id hK2
    go_wp2_with fail
    case roundEnd =>
     rename_i hge
     have hsz := hK.s.1
     have hsz2 := hxz.size
     have hsz3 := hxy.size
     rw [World.size_setCell] at hsz3
     have HB : Below w.heap.size w wy := ((hb.trans (below_of_ext hxz (Nat.le_of_lt hsz))).setCell (p := ⟨w.heap.size + 1 + 1, 0, none⟩) (by show w.heap.size ≤ w.heap.size + 1 + 1; omega) _).trans (below_of_ext hxy (by rw [World.size_setCell]; omega))
     have hkj' := hkj.out
     refine ⟨⟨k + 1, j + 1, by omega, by omega, by omega, by push_cast; rfl, HB, hK2, Lib.hid (fun i hi => ?_)⟩, by simp only [intOf]; omega⟩
     rcases Nat.lt_or_ge i j with h | h
     ·exact HN.out i h
     ·have : i = j := by omega
      subst this
      have hbd : bAt (s.data.toList.drop p) i = bAt s.data.toList k := by rw [hkj']; simp [bAt, List.getD_eq_getElem?_getD]
      rw [sAt hlt] at hge
      unfold endsAt
      rw [hbd, decide_eq_false_iff_not]; omega
    rename_i hle
    have hK3 := hK2.setN ((k : Int) + 1)
    refine leaves_cons (f := 114) (args := #[.pointer (some ⟨w.heap.size + 1 + 1 + 1, 0, none⟩), .pointer (some ⟨w.heap.size + 1 + 1, 0, none⟩), .pointer (some ⟨w.heap.size, 0, none⟩), .pointer (some ⟨w.heap.size + 1, 0, none⟩), .pointer (some ⟨w.heap.size + 1 + 1 + 1 + 1, 0, none⟩)]) (by simp) (by simp [go_sem]) ?_
    have hkj' := hkj.out
    have hU : U64 (scanV (s.data.toList.drop p) (j + 1) % 18446744073709551616) := Nat.mod_lt _ (by decide)
    have hK4 : Kept w.heap.size s p ((scanV (s.data.toList.drop p) (j + 1) % 18446744073709551616 : Nat) : Int) ((k + 1 : Nat) : Int) (wy.setCell ⟨w.heap.size + 1 + 1 + 1, 0, none⟩ (.int .i64 ((k : Int) + 1))) := by rw [show ((k + 1 : Nat) : Int) = (k : Int) + 1 by push_cast; rfl]; exact hK3
    refine (get1_yes w.heap.size s p (k + 1) _ _ _ _ _ _ _ _ ⟨by omega, by omega, by omega⟩ (by rw [World.size_setCell]; omega) hU (by omega) (by omega) rfl hK4.four hK4.o (by omega) (by omega) (by omega)).mono ?_
    rintro e u' w'' ⟨rfl, rfl, hL⟩
    obtain ⟨hL1, ⟨hL2a, hL2, _⟩, ⟨hL3a, hL3, _⟩, ⟨hL4a, hL4, _⟩⟩ := hL
    simp [Leaves, settle, results, Tryz.results81, go_sem, hL2, hL3, hL4]
    have hbd : bAt (s.data.toList.drop p) j = bAt s.data.toList k := by rw [hkj']; simp [bAt, List.getD_eq_getElem?_getD]
    have hen : endsAt (s.data.toList.drop p) j = true := by rw [sAt hlt] at hle; unfold endsAt; rw [hbd, decide_eq_true_eq]; omega
    have hln : s.data.toList.length = s.size := rfl
    have G := getI_in (l := s.data.toList) (k := p) (by rw [hln]; exact hp)
    rw [getL_at hj10 (by rw [List.length_drop, hln]; omega) HN.out hen] at G
    have hjj : k + 1 - p = j + 1 := by omega
    refine ⟨?_, below_door hL1 hb hxz hxy hK.s.1⟩
    rw [G, hjj]
    split
    ·rename_i hc; simp only [hc, decide_true]; refine ⟨by omega, by omega, trivial⟩
    ·rename_i hc; simp [hc]
   ·have hkp : (k : Int) = (p : Int) + 10 := by omega
    replace hkj := Lib.hid hkj
    obtain ⟨⟨s1, s2, _⟩, ⟨a1, a2, _⟩, ⟨u1, u2, _⟩, ⟨n1, n2, _⟩, _⟩ := id hK
    have hlk : ¬ (k : Int) < (p : Int) + 10 := by omega
    replace hkp := Lib.hid hkp
    go_wp2_with fail
    refine leaves_cons (f := 114) (args := #[.pointer (some ⟨w.heap.size + 1 + 1 + 1, 0, none⟩), .pointer (some ⟨w.heap.size + 1 + 1, 0, none⟩), .pointer (some ⟨w.heap.size, 0, none⟩), .pointer (some ⟨w.heap.size + 1, 0, none⟩), .pointer (some ⟨w.heap.size + 1 + 1 + 1 + 1, 0, none⟩)]) (by simp) (by simp [go_sem]) ?_
    refine (get1_no w.heap.size _ _ _ _ _ _ _ ⟨by omega, by omega, by omega⟩ (Nat.le_of_lt s1) hK.n hK.u hK.o (by omega) (by omega) (by omega)).mono ?_
    rintro e u' w'' ⟨rfl, rfl, hL⟩
    obtain ⟨hL1, ⟨hL2a, hL2, _⟩, ⟨hL3a, hL3, _⟩, ⟨hL4a, hL4, _⟩⟩ := hL
    have hln : s.data.toList.length = s.size := rfl
    have hkj' := hkj.out
    have G := getI_in (l := s.data.toList) (k := p) (by rw [hln]; exact hp)
    rw [getL_no (fun i hi => HN.out i (by rw [List.length_drop, hln] at hi; omega))] at G
    simp [Leaves, settle, results, Tryz.results81, go_sem, hL2, hL3, hL4, G]
    exact hb.trans hL1
  ·have hks : k = s.size := by omega
   subst hks
   replace hkj := Lib.hid hkj
   obtain ⟨⟨s1, s2, _⟩, ⟨a1, a2, _⟩, ⟨u1, u2, _⟩, ⟨n1, n2, _⟩, _⟩ := id hK
   go_wp2_with fail
   refine leaves_cons (f := 114) (args := #[.pointer (some ⟨w.heap.size + 1 + 1 + 1, 0, none⟩), .pointer (some ⟨w.heap.size + 1 + 1, 0, none⟩), .pointer (some ⟨w.heap.size, 0, none⟩), .pointer (some ⟨w.heap.size + 1, 0, none⟩), .pointer (some ⟨w.heap.size + 1 + 1 + 1 + 1, 0, none⟩)]) (by simp) (by simp [go_sem]) ?_
   refine (get1_no w.heap.size _ _ _ _ _ _ _ ⟨by omega, by omega, by omega⟩ (Nat.le_of_lt s1) hK.n hK.u hK.o (by omega) (by omega) (by omega)).mono ?_
   rintro e u' w'' ⟨rfl, rfl, hL⟩
   obtain ⟨hL1, ⟨hL2a, hL2, _⟩, ⟨hL3a, hL3, _⟩, ⟨hL4a, hL4, _⟩⟩ := hL
   have hln : s.data.toList.length = s.size := rfl
   have hkj' := hkj.out
   have G := getI_in (l := s.data.toList) (k := p) (by rw [hln]; exact hp)
   rw [getL_no (fun i hi => HN.out i (by rw [List.length_drop, hln] at hi; omega))] at G
   simp [Leaves, settle, results, Tryz.results81, go_sem, hL2, hL3, hL4, G]
   exact hb.trans hL1
set_option maxHeartbeats 4000000 in
set_option maxRecDepth 100000 in
theorem wget_out (s : ByteArray) (p : Int) (w : World) (hp : p < 0 ∨ (s.size : Int) ≤ p) :
  Calls Tryz.prog 81 #[.string s, .int .i64 p] w fun e w' => e = .returned (.tuple #[.int .u64 (getI s.data.toList p).1, .int .i64 (getI s.data.toList p).2.1, .bool (getI s.data.toList p).2.2]) ∧ Ext w w' := by
 have hmf : ∀ (fn : Fn) (first cap : Array Value) (w : World), (Instr.makeFunc fn first cap).run Tryz.prog w = .ok (.func fn first cap) w := fun _ _ _ _ => rfl
 have hln : s.data.toList.length = s.size := rfl
 have G := getI_out (l := s.data.toList) (at' := p) (by rw [hln]; exact hp)
 rw [G]
 clear G
 go_enter_defers Tryz.func81, Tryz.ntmps81
 have hK := laid5_kept w s p 9 3 25 3 4
 have hE := laid5_ext w s p 9 3 25 3 4
 rcases hp with hp | hp
 ·go_wp2
  change bodyPostD _ _ _ _ _ (laid5 w s p 9 3 25 3 4)
  generalize laid5 w s p 9 3 25 3 4 = wr at hK hE
  have s1 := hK.s.1
  refine leaves_cons (f := 114) (args := #[.pointer (some ⟨w.heap.size + 1 + 1 + 1, 0, none⟩), .pointer (some ⟨w.heap.size + 1 + 1, 0, none⟩), .pointer (some ⟨w.heap.size, 0, none⟩), .pointer (some ⟨w.heap.size + 1, 0, none⟩), .pointer (some ⟨w.heap.size + 1 + 1 + 1 + 1, 0, none⟩)]) (by simp) (by simp [go_sem]) ?_
  refine (get1_no w.heap.size _ _ _ _ _ _ _ ⟨by omega, by omega, by omega⟩ (Nat.le_of_lt s1) hK.n hK.u hK.o (by omega) (by omega) (by omega)).mono ?_
  rintro e u' w'' ⟨rfl, rfl, hL⟩
  obtain ⟨hL1, ⟨hL2a, hL2, _⟩, ⟨hL3a, hL3, _⟩, ⟨hL4a, hL4, _⟩⟩ := hL
  simp [Leaves, settle, results, Tryz.results81, go_sem, hL2, hL3, hL4]
  exact Below.trans hE hL1
 ·go_wp2
  change bodyPostD _ _ _ _ _ (laid5 w s p 9 3 25 3 4)
  generalize laid5 w s p 9 3 25 3 4 = wr at hK hE
  have s1 := hK.s.1
  refine leaves_cons (f := 114) (args := #[.pointer (some ⟨w.heap.size + 1 + 1 + 1, 0, none⟩), .pointer (some ⟨w.heap.size + 1 + 1, 0, none⟩), .pointer (some ⟨w.heap.size, 0, none⟩), .pointer (some ⟨w.heap.size + 1, 0, none⟩), .pointer (some ⟨w.heap.size + 1 + 1 + 1 + 1, 0, none⟩)]) (by simp) (by simp [go_sem]) ?_
  refine (get1_no w.heap.size _ _ _ _ _ _ _ ⟨by omega, by omega, by omega⟩ (Nat.le_of_lt s1) hK.n hK.u hK.o (by omega) (by omega) (by omega)).mono ?_
  rintro e u' w'' ⟨rfl, rfl, hL⟩
  obtain ⟨hL1, ⟨hL2a, hL2, _⟩, ⟨hL3a, hL3, _⟩, ⟨hL4a, hL4, _⟩⟩ := hL
  simp [Leaves, settle, results, Tryz.results81, go_sem, hL2, hL3, hL4]
  exact Below.trans hE hL1
theorem wget_w (s : ByteArray) (p : Int) (w : World) (hs : s.size ≤ 281474976710656) :
  Calls Tryz.prog 81 #[.string s, .int .i64 p] w fun e w' => e = .returned (.tuple #[.int .u64 (getI s.data.toList p).1, .int .i64 (getI s.data.toList p).2.1, .bool (getI s.data.toList p).2.2]) ∧ Ext w w' := by
 by_cases h : p < 0 ∨ (s.size : Int) ≤ p
 ·exact wget_out s p w h
 ·obtain ⟨q, rfl⟩ : ∃ q : Nat, p = (q : Int) := ⟨p.toNat, by omega⟩
  exact wget_in s q w hs (by omega)
end Go.Proofs.YtefjdmjkofaajaaGreatDoor
namespace Go.Dm
open Go Go.RowKit
theorem results3 {fn : Func} {t u v : Tmp} (h : fn.results = #[.tmp t, .tmp u, .tmp v]) (tmps : Array Value) (P : Program) (w : World) :
  (results fn tmps).run P w = .ok (.tuple #[tmps.getD t undef, tmps.getD u undef, tmps.getD v undef]) w := by
 simp [results, h]
def atI {α : Type} (g : Bs → Option (α × Nat)) (d : α) (l : Bs) (p : Int) : α × Int × Bool :=
 if p < 0 ∨ (l.length : Int) ≤ p then (d, 0, false) else
  match g (l.drop p.toNat) with
  | some (u, n) => (u, p + n, true)
  | none => (d, 0, false)
theorem getI_at (l : Bs) (p : Int) : getI l p = atI getL 0 l p := by
 unfold getI atI
 split
 ·rfl
 ·cases getL (l.drop p.toNat) <;> rfl
def getTextL (most : Nat) (l : Bs) : Option (Bs × Nat) :=
 match getL l with
 | some (u, n) => if u ≤ most ∧ u ≤ l.length - n then some ((l.drop n).take u, n + u) else none
 | none => none
theorem getTextL_none {most : Nat} {l : Bs} (h : getL l = none) : getTextL most l = none := by
 unfold getTextL; rw [h]
theorem getTextL_some {most : Nat} {l : Bs} {u n : Nat} (h : getL l = some (u, n)) : getTextL most l = if u ≤ most ∧ u ≤ l.length - n then some ((l.drop n).take u, n + u) else none := by
 unfold getTextL; rw [h]
theorem getTextL_iff {most : Nat} {l t : Bs} {n : Nat} (hl : U64 l.length) : getTextL most l = some (t, n) ↔ t.length ≤ most ∧ n = (putL t.length ++ t).length ∧ putL t.length ++ t = l.take n ∧ n ≤ l.length := by
 constructor
 ·intro h
  cases hg : getL l with
  | none => rw [getTextL_none hg] at h; cases h
  | some x =>
   obtain ⟨u, m⟩ := x
   rw [getTextL_some hg] at h
   split at h
   ·rename_i hc
    injection h with h
    injection h with h1 h2
    obtain ⟨e1, e2, e3, e4⟩ := getL_iff.1 hg
    have hlen : t.length = u := by rw [← h1, List.length_take, List.length_drop]; omega
    subst h2
    rw [hlen, List.length_append, ← e2, hlen]
    refine ⟨hc.1, rfl, ?_, by omega⟩
    rw [e3, ← h1, List.take_add]
   ·cases h
 ·rintro ⟨h1, rfl, h3, h4⟩
  have hu : U64 t.length := by
   rw [List.length_append] at h4
   exact Nat.lt_of_le_of_lt (by omega) hl
  have hlen : (putL t.length ++ t).length = (putL t.length).length + t.length := List.length_append
  have hg : getL l = some (t.length, (putL t.length).length) := by
   refine getL_iff.2 ⟨hu, rfl, ?_, by omega⟩
   have := congrArg (List.take (putL t.length).length) h3
   rw [List.take_left, List.take_take, Nat.min_eq_left (by omega)] at this
   exact this
  rw [getTextL_some hg, if_pos ⟨h1, by omega⟩]
  have : t = (l.drop (putL t.length).length).take t.length := by
   have := congrArg (List.drop (putL t.length).length) h3
   rw [List.drop_left, hlen, List.drop_take] at this
   rw [Nat.add_sub_cancel_left] at this
   exact this
  rw [hlen]
  congr 2
  exact this.symm
end Go.Dm
namespace Go.Proofs.YtefjdmjkofaajaaGreatDoor
open Go.RowKit Go.Dm
set_option maxHeartbeats 4000000 in
set_option maxRecDepth 100000 in
theorem wgettext_w (s : ByteArray) (p : Int) (most : Nat) (w : World) (hs : s.size ≤ 281474976710656) (hm : most ≤ 140737488355328) :
  Calls Tryz.prog 80 #[.string s, .int .i64 p, .int .i64 most] w fun e w' => e = .returned (.tuple #[.string ⟨(atI (getTextL most) [] s.data.toList p).1.toArray⟩, .int .i64 (atI (getTextL most) [] s.data.toList p).2.1, .bool (atI (getTextL most) [] s.data.toList p).2.2]) ∧ Ext w w' := by
 have hln : s.data.toList.length = s.size := rfl
 have C := wget_w s p w hs
 cases hc : (getI s.data.toList p).2.2 with
 | false =>
  have hT : atI (getTextL most) [] s.data.toList p = ([], 0, false) := by
   unfold atI
   by_cases h : p < 0 ∨ (s.data.toList.length : Int) ≤ p
   ·rw [if_pos h]
   ·rw [if_neg h]
    rw [getI_at] at hc
    unfold atI at hc
    rw [if_neg h] at hc
    cases hg : getL (s.data.toList.drop p.toNat) with
    | none => rw [getTextL_none hg]
    | some x => rw [hg] at hc; cases hc
  rw [hT]
  rw [hc] at C
  clear hT hc
  go_enter Tryz.func80, Tryz.ntmps80
  go_wp2_with (refine C.mono ?_; rintro e w' ⟨rfl, hb⟩)
  refine bodyPost_ret (results3 rfl _ _ _) rfl ?_
  exact ⟨rfl, hb⟩
 | true =>
  have hin : ¬ (p < 0 ∨ (s.data.toList.length : Int) ≤ p) := fun h => by rw [getI_out h] at hc; cases hc
  obtain ⟨q, rfl⟩ : ∃ q : Nat, p = (q : Int) := ⟨p.toNat, by omega⟩
  rw [hln] at hin
  have hq : q < s.size := by omega
  rw [getI_in (by rw [hln]; exact hq)] at C hc
  unfold atI
  rw [if_neg (by rw [hln]; exact hin), show ((q : Int)).toNat = q from rfl]
  cases hg : getL (s.data.toList.drop q) with
  | none => rw [hg] at hc; cases hc
  | some x =>
   obtain ⟨u, n⟩ := x
   rw [hg] at C
   rw [getTextL_some hg]
   obtain ⟨l1, l2, l3, l4⟩ := getL_len hg
   rw [List.length_drop, hln] at l2 ⊢
   clear hc hg hin
   simp only at C
   by_cases hu : u ≤ most ∧ u ≤ s.size - q - n
   ·rw [if_pos hu]
    clear hm hq
    go_enter Tryz.func80, Tryz.ntmps80
    go_wp2_with (refine C.mono ?_; rintro e w' ⟨rfl, hb⟩)
    all_goals
     refine bodyPost_ret (results3 rfl _ _ _) rfl ?_
     refine ⟨?_, hb⟩
     have he : (s.extract (q + n) (q + n + u)).data.toList = (s.data.toList.drop (q + n)).take u := by rw [Lib.extract_data]; congr 1; omega
     rw [← mk_bytes he, ← Int.add_assoc]
     rfl
   ·rw [if_neg hu]
    go_enter Tryz.func80, Tryz.ntmps80
    go_wp2_with (refine C.mono ?_; rintro e w' ⟨rfl, hb⟩)
    all_goals
     refine bodyPost_ret (results3 rfl _ _ _) rfl ?_
     exact ⟨rfl, hb⟩
end Go.Proofs.YtefjdmjkofaajaaGreatDoor
namespace Go.Dm
open Go Go.RowKit
structure Cell2 (b : Nat) (x y : Value) (w : World) : Prop where
 lt : b < w.heap.size
 c0 : w.cell? ⟨b, 0, none⟩ = some x
 c1 : w.cell? ⟨b, 1, none⟩ = some y
 f0 : w.frozen? ⟨b, 0, none⟩ = false
 f1 : w.frozen? ⟨b, 1, none⟩ = false
theorem Cell2.ext {b : Nat} {x y : Value} {w w' : World} (h : Cell2 b x y w) (hx : Ext w w') : Cell2 b x y w' :=
 ⟨Nat.lt_of_lt_of_le h.lt hx.size, by rw [hx.cell (by exact h.lt)]; exact h.c0, by rw [hx.cell (by exact h.lt)]; exact h.c1, by rw [hx.frozen (by exact h.lt)]; exact h.f0, by rw [hx.frozen (by exact h.lt)]; exact h.f1⟩
theorem Cell2.set0 {b : Nat} {x y : Value} {w : World} (h : Cell2 b x y w) (u : Value) : Cell2 b u y (w.setCell ⟨b, 0, none⟩ u) :=
 ⟨by rw [World.size_setCell]; exact h.lt, (by first | exact World.cell?_setCell_same _ _ _ h.c0 | exact World.cell?_setCell_same _ _ h.c0),
  (by have hne : (⟨b, 0, none⟩ : Addr) ≠ ⟨b, 1, none⟩ := (by intro e; injection e with _ e; cases e); first | (rw [World.cell?_setCell_other _ _ _ hne]; exact h.c1) | (rw [World.cell?_setCell_other _ _ _ _ hne]; exact h.c1) | (rw [World.cell?_setCell_other (h := hne)]; exact h.c1)),
  by rw [World.frozen?_setCell]; exact h.f0, by rw [World.frozen?_setCell]; exact h.f1⟩
theorem Cell2.set1 {b : Nat} {x y : Value} {w : World} (h : Cell2 b x y w) (u : Value) : Cell2 b x u (w.setCell ⟨b, 1, none⟩ u) :=
 ⟨by rw [World.size_setCell]; exact h.lt,
  (by have hne : (⟨b, 1, none⟩ : Addr) ≠ ⟨b, 0, none⟩ := (by intro e; injection e with _ e; cases e); first | (rw [World.cell?_setCell_other _ _ _ hne]; exact h.c0) | (rw [World.cell?_setCell_other _ _ _ _ hne]; exact h.c0) | (rw [World.cell?_setCell_other (h := hne)]; exact h.c0)),
  (by first | exact World.cell?_setCell_same _ _ _ h.c1 | exact World.cell?_setCell_same _ _ h.c1),
  by rw [World.frozen?_setCell]; exact h.f0, by rw [World.frozen?_setCell]; exact h.f1⟩
theorem Cell2.new (w : World) (x y : Value) (t : TypeId) : Cell2 w.heap.size x y (w.alloc (.cells #[x, y] t)) :=
 ⟨by simp, by simp, by simp, by simp, by simp⟩
def getPairL (l : Bs) : Option (PairL × Nat) :=
 match getTextL 32 l with
 | some (k, n) => match getTextL 32 (l.drop n) with
  | some (v, m) => some ((k, v), n + m)
  | none => none
 | none => none
theorem atI_drop {α : Type} {g : Bs → Option (α × Nat)} {d : α} {l : Bs} {q n : Nat} (h0 : g [] = none) : atI g d l ((q : Int) + (n : Int)) = match g (l.drop (q + n)) with | some (u, m) => (u, (q : Int) + (n : Int) + (m : Int), true) | none => (d, 0, false) := by
 unfold atI
 rw [show ((q : Int) + (n : Int)).toNat = q + n by omega]
 split
 ·rename_i h
  rw [List.drop_eq_nil_of_le (by omega), h0]
 ·rfl
theorem getTextL_nil (most : Nat) : getTextL most [] = none := rfl
theorem getPairI_no1 {l : Bs} {p : Int} (h : (atI (getTextL 32) [] l p).2.2 = false) : (atI getPairL ([], []) l p).2.2 = false := by
 unfold atI at *
 split
 ·rfl
 ·rename_i hp
  rw [if_neg hp] at h
  unfold getPairL
  cases hg : getTextL 32 (l.drop p.toNat) with
  | none => rfl
  | some x => rw [hg] at h; cases h
theorem getPairI_two {l : Bs} {p : Int} (h : (atI (getTextL 32) [] l p).2.2 = true) :
  (atI getPairL ([], []) l p).2.2 = (atI (getTextL 32) [] l (atI (getTextL 32) [] l p).2.1).2.2 ∧
  ((atI (getTextL 32) [] l (atI (getTextL 32) [] l p).2.1).2.2 = true → atI getPairL ([], []) l p = (((atI (getTextL 32) [] l p).1, (atI (getTextL 32) [] l (atI (getTextL 32) [] l p).2.1).1), (atI (getTextL 32) [] l (atI (getTextL 32) [] l p).2.1).2.1, true)) := by
 have hin : ¬ (p < 0 ∨ (l.length : Int) ≤ p) := fun hp => by unfold atI at h; rw [if_pos hp] at h; cases h
 obtain ⟨q, rfl⟩ : ∃ q : Nat, p = (q : Int) := ⟨p.toNat, by omega⟩
 have e1 : atI (getTextL 32) [] l (q : Int) = match getTextL 32 (l.drop q) with | some (u, m) => (u, (q : Int) + (m : Int), true) | none => ([], 0, false) := by
  unfold atI; rw [if_neg hin, show ((q : Int)).toNat = q from rfl]; cases getTextL 32 (l.drop q) <;> rfl
 have e2 : atI getPairL ([], []) l (q : Int) = match getPairL (l.drop q) with | some (u, m) => (u, (q : Int) + (m : Int), true) | none => (([], []), 0, false) := by
  unfold atI; rw [if_neg hin, show ((q : Int)).toNat = q from rfl]; cases getPairL (l.drop q) <;> rfl
 rw [e2]
 rw [e1] at h ⊢
 unfold getPairL
 cases hg : getTextL 32 (l.drop q) with
 | none => rw [hg] at h; cases h
 | some x =>
  obtain ⟨k, n⟩ := x
  simp only
  rw [atI_drop (getTextL_nil 32), List.drop_drop]
  cases hg2 : getTextL 32 (l.drop (q + n)) with
  | none => simp
  | some y =>
   obtain ⟨v, m⟩ := y
   simp [Int.add_assoc]
end Go.Dm
namespace Go.Proofs.YtefjdmjkofaajaaGreatDoor
open Go.RowKit Go.Dm
set_option maxHeartbeats 4000000 in
set_option maxRecDepth 100000 in
theorem lpair_w (s : ByteArray) (p : Int) (w : World) (hs : s.size ≤ 281474976710656) :
  Calls Tryz.prog 117 #[.string s, .int .i64 p] w fun e w' => ∃ (P : PairS) (n : Int) (b : Bool), e = .returned (.tuple #[.agg #[.string P.1, .string P.2], .int .i64 n, .bool b]) ∧ b = (atI getPairL ([], []) s.data.toList p).2.2 ∧ (b = true → atI getPairL ([], []) s.data.toList p = (pL P, n, true)) ∧ Ext w w' := by
 have hA : Ext w (w.alloc (.cells #[.string ⟨#[]⟩, .string ⟨#[]⟩] 126)) := (Ext.refl _).alloc _
 have K := Cell2.new w (.string ⟨#[]⟩) (.string ⟨#[]⟩) 126
 have C1 : Calls Tryz.prog 80 #[.string s, .int .i64 p, .int .i64 32] (w.alloc (.cells #[.string ⟨#[]⟩, .string ⟨#[]⟩] 126)) _ := wgettext_w s p 32 _ hs (by omega)
 have HP := getPairI_no1 (l := s.data.toList) (p := p)
 have HQ := getPairI_two (l := s.data.toList) (p := p)
 generalize hT : atI (getTextL 32) [] s.data.toList p = T at C1 HP HQ
 obtain ⟨t, n, b⟩ := T
 simp only at C1 HP HQ
 cases b with
 | false =>
  replace HP := HP rfl
  clear HQ hT
  rw [HP]
  replace HP := Lib.hid HP
  go_enter Tryz.func117, Tryz.ntmps117
  go_wp2_with fail
  refine C1.mono ?_; rintro e w1 ⟨rfl, h1⟩
  have K1 := K.ext h1
  have K2 := K1.set0 (.string ⟨t.toArray⟩)
  obtain ⟨q1, q2, q3, q4, q5⟩ := K1
  obtain ⟨r1, r2, r3, r4, r5⟩ := id K2
  have K3 := (K2.set0 (.string ⟨t.toArray⟩)).set1 (.string ⟨#[]⟩)
  go_wp2_with fail
  obtain ⟨_, k3, k4, _, _⟩ := K3
  refine bodyPost_ret (v := .tuple #[.agg #[.string ⟨t.toArray⟩, .string ⟨#[]⟩], .int .i64 n, .bool false]) (by simp [results, Tryz.results117, go_sem, k3, k4]) rfl ?_
  have hB := Below.trans hA (Below.mono h1 hA.size)
  exact ⟨(⟨t.toArray⟩, ⟨#[]⟩), n, false, rfl, rfl, (fun h => by cases h), ((hB.setCell (p := ⟨w.heap.size, 0, none⟩) (Nat.le_refl _) _).setCell (p := ⟨w.heap.size, 0, none⟩) (Nat.le_refl _) _).setCell (p := ⟨w.heap.size, 1, none⟩) (Nat.le_refl _) _⟩
 | true =>
  clear HP hT
  obtain ⟨HP, HR⟩ := HQ rfl
  clear HQ
  generalize hT2 : atI (getTextL 32) [] s.data.toList n = T2 at HP HR
  obtain ⟨t2, n2, b2⟩ := T2
  simp only at HP HR
  rw [HP]
  replace HP := Lib.hid HP
  replace HR := Lib.hid HR
  replace hT2 := Lib.hid hT2
  go_enter Tryz.func117, Tryz.ntmps117
  go_wp2_with fail
  refine C1.mono ?_; rintro e w1 ⟨rfl, h1⟩
  have K1 := K.ext h1
  have K2 := K1.set0 (.string ⟨t.toArray⟩)
  obtain ⟨q1, q2, q3, q4, q5⟩ := id K1
  have hB := (Below.trans hA (Below.mono h1 hA.size)).setCell (p := ⟨w.heap.size, 0, none⟩) (Nat.le_refl _) (.string ⟨t.toArray⟩)
  go_wp2_with fail
  have C2 : Calls Tryz.prog 80 #[.string s, .int .i64 n, .int .i64 32] (w1.setCell ⟨w.heap.size, 0, none⟩ (.string ⟨t.toArray⟩)) _ := wgettext_w s n 32 _ hs (by omega)
  rw [hT2.out] at C2
  refine C2.mono ?_; rintro e w2 ⟨rfl, h2⟩
  replace K2 := K2.ext h2
  replace hB := Below.trans hB (Below.mono h2 (by rw [World.size_setCell]; omega))
  have K3 := K2.set1 (.string ⟨t2.toArray⟩)
  obtain ⟨p1, p2, p3, p4, p5⟩ := K2
  obtain ⟨r1, r2, r3, r4, r5⟩ := id K3
  have K4 := (K3.set0 (.string ⟨t.toArray⟩)).set1 (.string ⟨t2.toArray⟩)
  go_wp2_with fail
  obtain ⟨_, k3, k4, _, _⟩ := K4
  refine bodyPost_ret (v := .tuple #[.agg #[.string ⟨t.toArray⟩, .string ⟨t2.toArray⟩], .int .i64 n2, .bool b2]) (by simp [results, Tryz.results117, go_sem, k3, k4]) rfl ?_
  exact ⟨(⟨t.toArray⟩, ⟨t2.toArray⟩), n2, b2, rfl, rfl, (fun h => by rw [HR.out h]; simp [pL]), ((hB.setCell (p := ⟨w.heap.size, 1, none⟩) (Nat.le_refl _) _).setCell (p := ⟨w.heap.size, 0, none⟩) (Nat.le_refl _) _).setCell (p := ⟨w.heap.size, 1, none⟩) (Nat.le_refl _) _⟩
end Go.Proofs.YtefjdmjkofaajaaGreatDoor
namespace Go.Dm
open Go Go.RowKit
theorem or128m (x : Nat) : Go.bits BinOp.or IntKind.u8 ((x : Int) % 128) 128 = ((UInt8.ofNat (x % 128 + 128)).toNat : Int) := by
 have := or128 (x % 128) (by omega)
 rw [u8_ofNat (by omega), show ((x : Int) % 128) = ((x % 128 : Nat) : Int) by omega, this]
 omega
theorem run_string_sl {P : Program} {w : World} {src dst e : Nat} {v : Value} {n : Nat} {l : Bs} (hs : P.underlying src = some (.slice e)) (he : P.underlying e = some (.int .u8)) (hd : P.underlying dst = some .string)
  (h : Sl w 1 v n (bCells l)) (hn : n = l.length) (hl : l ≠ []) : (convert src dst v).run P w = .ok (.string ⟨l.toArray⟩) w := by
 subst hn
 obtain ⟨p, cap, rfl, _, _, _, hx⟩ := h.2
 have h0 : 0 < l.length := List.length_pos_iff.2 hl
 obtain ⟨b, off, rfl, hb, hc⟩ := hx.resolve_left (by omega)
 exact run_convert_bytes_back w src dst e ⟨b, off, none⟩ cap l hs he hd (fun j hj => by
  have := hc j (.int .u8 (l[j].toNat : Int)) (by simp [bCells, hj])
  unfold Addr.add
  split
  ·rename_i h0; subst h0; simpa using this
  ·exact this)
end Go.Dm
namespace Go.Proofs.YtefjdmjkofaajaaGreatDoor
open Go.RowKit Go.Dm
set_option maxHeartbeats 2000000 in
set_option maxRecDepth 100000 in
theorem rput_w (u : Nat) (w : World) (hu : U64 u) :
  Calls Tryz.prog 44 #[.int .u64 u] w fun e w' => e = .returned (.string ⟨(putL u).toArray⟩) ∧ Ext w w' := by
 go_enter Tryz.func44, Tryz.ntmps44
 go_wp2
 go_loopw [0, 3] (fun u' v wr => ∃ (x : Nat) (b : ByteArray), U64 x ∧ b.size ≤ 10 ∧ u' = .int .u64 x ∧ v = .string b ∧ Ext w wr ∧ Hid (putL u = b.data.toList ++ putL x)) (fun u' _ _ => (intOf u').toNat)
 case atStart => exact ⟨u, ⟨#[]⟩, hu, by decide, rfl, rfl, Ext.refl _, rfl⟩
 case round =>
  obtain ⟨x, b, hx, hl, rfl, rfl, hb, HP⟩ := hrel
  by_cases h : 128 ≤ x
  ·have hst := HP.out
   rw [putL_big h] at hst
   have hbits := or128m x
   generalize UInt8.ofNat (x % 128 + 128) = y at *
   replace hst := Lib.hid hst
   have hl9 : b.size ≤ 9 := by
    have h1 := congrArg List.length hst.out
    have h2 := putL_ten hu
    have h3 := putL_pos (x / 128)
    rw [h1, List.length_append, List.length_cons, ← size_len] at h2
    omega
   have hl4 := Sl.lit wr 5 1 1 #[.int .u8 (y.toNat : Int)] rfl (by simp [maxLen])
   have hcv := run_string_sl (l := [y]) (dst := 9) Tryz.underlying70 Tryz.underlying5 Tryz.underlying9 hl4 rfl (by simp)
   have hb4 := hb.trans ((Ext.refl wr).alloc (.cells #[.int .u8 (y.toNat : Int)] 5))
   have hst2 : Hid (putL u = (b ++ ⟨[y].toArray⟩).data.toList ++ putL (x / 128)) := by
    show _ = _
    rw [hst.out, data_append]; simp
   have hs2 : (b ++ ⟨[y].toArray⟩).size ≤ 10 := by rw [ByteArray.size_append]; show b.size + 1 ≤ 10; omega
   have hwr : IntKind.u64.wrap ((x : Int) / 128) = ((x / 128 : Nat) : Int) := by
    have hx' : x < 18446744073709551616 := hx
    rw [show ((x : Int) / 128) = ((x / 128 : Nat) : Int) by omega]
    simp only [IntKind.wrap, IntKind.bits, IntKind.signed]
    simp; omega
   clear hst hl4
   go_wp2
   go_roundw
   case rel => exact ⟨x / 128, _, hx.div _, hs2, by simp, rfl, hb4, hst2⟩
   case measure => simp [intOf]; omega
  ·have hst := HP.out
   rw [putL_small (u := x) (by omega)] at hst
   obtain ⟨y, hyx, hy⟩ : ∃ y : UInt8, x = y.toNat ∧ UInt8.ofNat x = y := ⟨UInt8.ofNat x, (UInt8.toNat_ofNat_of_lt' (by show x < 256; omega)).symm, rfl⟩
   rw [hy] at hst
   subst hyx
   clear hy
   replace hst := Lib.hid hst
   have hl4 := Sl.lit wr 5 1 1 #[.int .u8 (y.toNat : Int)] rfl (by simp [maxLen])
   have hcv := run_string_sl (l := [y]) (dst := 9) Tryz.underlying70 Tryz.underlying5 Tryz.underlying9 hl4 rfl (by simp)
   have hb4 := hb.trans ((Ext.refl wr).alloc (.cells #[.int .u8 (y.toNat : Int)] 5))
   have hst2 : Hid ((⟨(putL u).toArray⟩ : ByteArray) = b ++ ⟨[y].toArray⟩) := by
    show _ = _
    refine (mk_bytes ?_).symm
    rw [hst.out, data_append]
   clear hst hl4
   go_wp2
   go_ret
   exact ⟨by rw [hst2.out]; rfl, hb4⟩
set_option maxRecDepth 100000 in
theorem rputtext_w (t : ByteArray) (w : World) (ht : t.size ≤ 140737488355328) :
  Calls Tryz.prog 48 #[.string t] w fun e w' => e = .returned (.string ⟨(putT t.data.toList).toArray⟩) ∧ Ext w w' := by
 have h10 := putL_ten (u := t.size) (show t.size < _ by omega)
 have hU : U64 t.size := show t.size < _ by omega
 have hX : Hid ((⟨(putL t.size).toArray⟩ : ByteArray) ++ t = ⟨(putT t.data.toList).toArray⟩) := by
  show _ = _
  refine mk_bytes ?_
  rw [data_append, putT, ← size_len]
 have hp : (⟨(putL t.size).toArray⟩ : ByteArray).size ≤ 10 := by rw [size_len]; exact h10
 clear h10
 go_enter Tryz.func48, Tryz.ntmps48
 go_wp2_with fail
 refine (rput_w t.size w hU).mono ?_; rintro e w1 ⟨rfl, h1⟩
 generalize (⟨(putL t.size).toArray⟩ : ByteArray) = p at *
 go_wp2
 go_ret
 exact ⟨by rw [← hX.out]; rfl, h1⟩
end Go.Proofs.YtefjdmjkofaajaaGreatDoor
namespace Go.Dm
open Go Go.RowKit
theorem getI_none {l : Bs} {p : Nat} (h : getL (l.drop p) = none) : getI l p = (0, 0, false) := by
 unfold getI
 split
 ·rfl
 ·rw [Int.toNat_natCast, h]
theorem getI_some {l : Bs} {p u n : Nat} (hp : p < l.length) (h : getL (l.drop p) = some (u, n)) : getI l p = (u, (p : Int) + n, true) := by
 rw [getI_in hp, h]
theorem wrap_nine {L : Bs} {b : Nat} (hb : b = bAt L 9) (h : U64 (scanV L 10)) : IntKind.u64.wrap (((scanV L 9 : Nat) : Int) + (b : Int) % 128 * 9223372036854775808) = ((scanV L 10 : Nat) : Int) := by
 have h2 : scanV L 10 = scanV L 9 + (bAt L 9 % 128) * 128 ^ 9 := rfl
 rw [show (128 : Nat) ^ 9 = 9223372036854775808 by decide, ← hb] at h2
 have h' : scanV L 10 < 18446744073709551616 := h
 rw [show ((scanV L 9 : Nat) : Int) + (b : Int) % 128 * 9223372036854775808 = ((scanV L 10 : Nat) : Int) by omega]
 simp only [IntKind.wrap, IntKind.bits, IntKind.signed]
 simp; omega
end Go.Dm
namespace Go.Proofs.YtefjdmjkofaajaaGreatDoor
open Go.RowKit Go.Dm
set_option maxHeartbeats 4000000 in
set_option maxRecDepth 100000 in
theorem rget_w (s : ByteArray) (p : Int) (w : World) (hs : s.size ≤ 281474976710656) :
  Calls Tryz.prog 87 #[.string s, .int .i64 p] w fun e w' => e = .returned (.tuple #[.int .u64 (getI s.data.toList p).1, .int .i64 (getI s.data.toList p).2.1, .bool (getI s.data.toList p).2.2]) ∧ Ext w w' := by
 have hln : s.data.toList.length = s.size := rfl
 by_cases h : p < 0 ∨ (s.size : Int) ≤ p
 ·have G := getI_out (l := s.data.toList) (at' := p) (by rw [hln]; exact h)
  rw [G]
  clear G
  rcases h with h | h
  ·go_enter Tryz.func87, Tryz.ntmps87
   go_wp2
   refine bodyPost_ret (results3 rfl _ _ _) rfl ?_
   exact ⟨rfl, Ext.refl _⟩
  ·go_enter Tryz.func87, Tryz.ntmps87
   go_wp2
   refine bodyPost_ret (results3 rfl _ _ _) rfl ?_
   exact ⟨rfl, Ext.refl _⟩
 ·obtain ⟨q, rfl⟩ : ∃ q : Nat, p = (q : Int) := ⟨p.toNat, by omega⟩
  have hq : q < s.size := by omega
  have HN0 : getL (s.data.toList.drop q) = none → getI s.data.toList q = (0, 0, false) := getI_none
  have HS0 : ∀ u n, getL (s.data.toList.drop q) = some (u, n) → getI s.data.toList q = (u, (q : Int) + n, true) := fun u n => getI_some (by rw [hln]; exact hq)
  generalize getI s.data.toList q = G at *
  have hll : (s.data.toList.drop q).length = s.size - q := by rw [List.length_drop, hln]
  have hbat : ∀ j, bAt (s.data.toList.drop q) j = bAt s.data.toList (q + j) := fun j => by simp [bAt, List.getD_eq_getElem?_getD]
  generalize s.data.toList.drop q = L at *
  replace HN0 := Lib.hid HN0
  replace HS0 := Lib.hid HS0
  replace hll := Lib.hid hll
  replace hbat := Lib.hid hbat
  clear h hln
  go_enter Tryz.func87, Tryz.ntmps87
  go_wp2
  have hd1 : decide (s.size ≤ q) = false := decide_eq_false (by omega)
  have hd2 : decide ((q : Int) < 0) = false := decide_eq_false (by omega)
  simp only [hd1, hd2, Bool.or_false]
  clear hd1 hd2
  go_loopw [7, 8] (fun u' i' wr => ∃ j : Nat, j ≤ 10 ∧ q + j ≤ s.size ∧ i' = .int .i64 j ∧ u' = .int .u64 ((scanV L j : Nat) : Int) ∧ Ext w wr ∧ Hid (∀ i, i < j → endsAt L i = false)) (fun _ i' _ => 10 - (intOf i').toNat)
  case atStart => exact ⟨0, by omega, by omega, rfl, rfl, Ext.refl _, fun i hi => by omega⟩
  case round =>
   obtain ⟨j, hj, hjs, rfl, rfl, hb, HN⟩ := hrel
   by_cases hj10 : j < 10
   ·by_cases hlt : q + j < s.size
    ·have hb1 : ((s[q + j]'hlt).toNat : Nat) = bAt L j := by rw [hbat.out, ← sAt hlt]
     have hb2 := bAt_lt L j
     obtain ⟨b, hbb⟩ : ∃ b : Nat, b = bAt L j := ⟨_, rfl⟩
     rw [← hbb] at hb1 hb2
     have hW := @ref_wrap L j hj10
     rw [← hbb] at hW
     have hsc := @scan_u64 L j hj10
     rw [← hbb] at hsc
     have hS : Hid (∀ h9 : (j = 9 → b % 128 ≤ 1), b < 128 → (0 < j → b ≠ 0) → G = (scanV L (j + 1), (q : Int) + ((j + 1 : Nat) : Int), true)) := fun h9 h1 h2 =>
      HS0.out _ _ (getL_built hj10 (by rw [hll.out]; omega) HN.out (by rw [← hbb]; exact h1) (by rw [← hbb]; exact h9) (by rw [← hbb]; exact h2))
     have hG : Hid (j = 9 → 1 < b % 128 → G = (0, 0, false)) := fun h1 h2 => by
      subst h1
      exact HN0.out (getL_great HN.out (by rw [← hbb]; exact h2))
     have hZ : Hid (0 < j → b = 0 → G = (0, 0, false)) := fun h1 h2 => HN0.out (getL_empty h1 HN.out (by rw [← hbb]; exact h2))
     have hN : Hid (128 ≤ b → ∀ i, i < j + 1 → endsAt L i = false) := fun h i hi => by
      rcases Nat.lt_succ_iff_lt_or_eq.1 hi with h' | rfl
      ·exact HN.out i h'
      ·unfold endsAt; rw [← hbb, decide_eq_false_iff_not]; omega
     replace hbb := Lib.hid hbb
     by_cases h9 : j = 9
     ·subst h9
      by_cases hd : 1 < b % 128
      ·have hz := Lib.hid (hG.out rfl hd)
       clear hS hG hZ hN hW hsc
       go_wp2
       refine bodyPost_ret (results3 rfl _ _ _) rfl ?_
       exact ⟨by rw [hz.out]; rfl, hb⟩
      ·have hW' := hW (fun _ => by omega)
       have hsc' := hsc (fun _ => by omega)
       have hd' : ¬ 1 < b % 128 := hd
       have hW9 : IntKind.u64.wrap (((scanV L 9 : Nat) : Int) + (b : Int) % 128 * 9223372036854775808) = ((scanV L 10 : Nat) : Int) := wrap_nine hbb.out hsc'
       have hS' := hS.out (fun _ => by omega)
       clear hG hW hsc hW' hS
       by_cases h128 : 128 ≤ b
       ·have hN' := hN.out h128
        replace hN' := Lib.hid hN'
        clear hS' hZ hN
        go_wp2
        go_roundw
        case rel => exact ⟨10, by omega, by omega, by go_num, by first | rw [hW9] | rfl, hb, hN'⟩
        case measure => simp [intOf]
       ·by_cases hb0 : b = 0
        ·have hz := Lib.hid (hZ.out (by omega) hb0)
         have hbz : ((b : Int) == 0) = true := by rw [beq_iff_eq]; omega
         clear hS' hZ hN hb0
         go_wp2
         refine bodyPost_ret (results3 rfl _ _ _) rfl ?_
         exact ⟨by rw [hz.out]; rfl, hb⟩
        ·have hz := Lib.hid (hS' (by omega) (fun _ => hb0))
         have hbz : ((b : Int) == 0) = false := by rw [beq_eq_false_iff_ne]; omega
         clear hS' hZ hN hb0
         go_wp2
         refine bodyPost_ret (results3 rfl _ _ _) rfl ?_
         refine ⟨?_, hb⟩
         rw [hz.out]
         rfl
     ·have hj8 : j ≤ 8 := by omega
      have h9b : ((j : Int) == 9) = false := by rw [beq_eq_false_iff_ne]; omega
      have hW' := hW (fun h => absurd h h9)
      have hsc' := hsc (fun h => absurd h h9)
      have hWj : IntKind.u64.wrap (((scanV L j : Nat) : Int) + IntKind.u64.wrap ((b : Int) % 128 * 2 ^ (7 * j))) = ((scanV L (j + 1) : Nat) : Int) := hW'
      have hS' := hS.out (fun h => absurd h h9)
      clear hG hW hsc hW' hS
      by_cases h128 : 128 ≤ b
      ·have hN' := hN.out h128
       replace hN' := Lib.hid hN'
       clear hS' hZ hN
       go_wp2
       go_roundw
       case rel => exact ⟨j + 1, by omega, by omega, by go_num, by first | rw [hWj] | rfl, hb, hN'⟩
       case measure => simp [intOf]; omega
      ·by_cases hb0 : 0 < j ∧ b = 0
       ·have hz := Lib.hid (hZ.out hb0.1 hb0.2)
        have hbz : ((b : Int) == 0) = true := by rw [beq_iff_eq]; omega
        have hj0 := hb0.1
        clear hS' hZ hN hb0
        go_wp2
        refine bodyPost_ret (results3 rfl _ _ _) rfl ?_
        exact ⟨by rw [hz.out]; rfl, hb⟩
       ·have hz := Lib.hid (hS' (by omega) (fun h e => hb0 ⟨h, e⟩))
        by_cases hj0 : 0 < j
        ·have hbz : ((b : Int) == 0) = false := by rw [beq_eq_false_iff_ne]; omega
         clear hS' hZ hN hb0
         go_wp2
         refine bodyPost_ret (results3 rfl _ _ _) rfl ?_
         refine ⟨?_, hb⟩
         rw [hz.out, show (q : Int) + ((j + 1 : Nat) : Int) = (q : Int) + (j : Int) + 1 by omega]
         rfl
        ·clear hS' hZ hN hb0
         go_wp2
         refine bodyPost_ret (results3 rfl _ _ _) rfl ?_
         refine ⟨?_, hb⟩
         rw [hz.out, show (q : Int) + ((j + 1 : Nat) : Int) = (q : Int) + (j : Int) + 1 by omega]
         rfl
    ·have hqs : q + j = s.size := by omega
     have hz : Hid (G = (0, 0, false)) := HN0.out (getL_no fun i hi => HN.out i (by rw [hll.out] at hi; omega))
     go_wp2
     refine bodyPost_ret (results3 rfl _ _ _) rfl ?_
     exact ⟨by rw [hz.out]; rfl, hb⟩
   ·obtain rfl : j = 10 := by omega
    have hz : Hid (G = (0, 0, false)) := HN0.out (getL_no fun i hi => HN.out i (by omega))
    go_wp2
    refine bodyPost_ret (results3 rfl _ _ _) rfl ?_
    exact ⟨by rw [hz.out]; rfl, hb⟩
set_option maxHeartbeats 4000000 in
set_option maxRecDepth 100000 in
theorem rgettext_w (s : ByteArray) (p : Int) (most : Nat) (w : World) (hs : s.size ≤ 281474976710656) (hm : most ≤ 140737488355328) :
  Calls Tryz.prog 86 #[.string s, .int .i64 p, .int .i64 most] w fun e w' => e = .returned (.tuple #[.string ⟨(atI (getTextL most) [] s.data.toList p).1.toArray⟩, .int .i64 (atI (getTextL most) [] s.data.toList p).2.1, .bool (atI (getTextL most) [] s.data.toList p).2.2]) ∧ Ext w w' := by
 have hln : s.data.toList.length = s.size := rfl
 have C := rget_w s p w hs
 cases hc : (getI s.data.toList p).2.2 with
 | false =>
  have hT : atI (getTextL most) [] s.data.toList p = ([], 0, false) := by
   unfold atI
   by_cases h : p < 0 ∨ (s.data.toList.length : Int) ≤ p
   ·rw [if_pos h]
   ·rw [if_neg h]
    rw [getI_at] at hc
    unfold atI at hc
    rw [if_neg h] at hc
    cases hg : getL (s.data.toList.drop p.toNat) with
    | none => rw [getTextL_none hg]
    | some x => rw [hg] at hc; cases hc
  rw [hT]
  rw [hc] at C
  clear hT hc
  go_enter Tryz.func86, Tryz.ntmps86
  go_wp2_with (refine C.mono ?_; rintro e w' ⟨rfl, hb⟩)
  refine bodyPost_ret (results3 rfl _ _ _) rfl ?_
  exact ⟨rfl, hb⟩
 | true =>
  have hin : ¬ (p < 0 ∨ (s.data.toList.length : Int) ≤ p) := fun h => by rw [getI_out h] at hc; cases hc
  obtain ⟨q, rfl⟩ : ∃ q : Nat, p = (q : Int) := ⟨p.toNat, by omega⟩
  rw [hln] at hin
  have hq : q < s.size := by omega
  rw [getI_in (by rw [hln]; exact hq)] at C hc
  unfold atI
  rw [if_neg (by rw [hln]; exact hin), show ((q : Int)).toNat = q from rfl]
  cases hg : getL (s.data.toList.drop q) with
  | none => rw [hg] at hc; cases hc
  | some x =>
   obtain ⟨u, n⟩ := x
   rw [hg] at C
   rw [getTextL_some hg]
   obtain ⟨l1, l2, l3, l4⟩ := getL_len hg
   rw [List.length_drop, hln] at l2 ⊢
   have l5 : u < 18446744073709551616 := l4
   clear hc hg hin l4
   simp only at C
   have hwm : IntKind.u64.wrap (most : Int) = (most : Int) := by
    simp only [IntKind.wrap, IntKind.bits, IntKind.signed]
    simp; omega
   have hwl : IntKind.u64.wrap ((s.size : Int) - ((q : Int) + (n : Int))) = ((s.size - q - n : Nat) : Int) := by
    rw [show (s.size : Int) - ((q : Int) + (n : Int)) = ((s.size - q - n : Nat) : Int) by omega]
    simp only [IntKind.wrap, IntKind.bits, IntKind.signed]
    simp; omega
   by_cases hu : u ≤ most ∧ u ≤ s.size - q - n
   ·rw [if_pos hu]
    clear hm hq
    go_enter Tryz.func86, Tryz.ntmps86
    go_wp2_with (refine C.mono ?_; rintro e w' ⟨rfl, hb⟩)
    all_goals
     refine bodyPost_ret (results3 rfl _ _ _) rfl ?_
     refine ⟨?_, hb⟩
     have he : (s.extract (q + n) (q + n + u)).data.toList = (s.data.toList.drop (q + n)).take u := by rw [Lib.extract_data]; congr 1; omega
     rw [show ((s.data.toList.drop q).drop n).take u = (s.extract (q + n) (q + n + u)).data.toList by rw [he, List.drop_drop]]
     first | rfl | (rw [← Int.add_assoc]; rfl) | (rw [Int.natCast_add, ← Int.add_assoc]; rfl)
   ·rw [if_neg hu]
    go_enter Tryz.func86, Tryz.ntmps86
    go_wp2_with (refine C.mono ?_; rintro e w' ⟨rfl, hb⟩)
    all_goals
     refine bodyPost_ret (results3 rfl _ _ _) rfl ?_
     exact ⟨rfl, hb⟩
end Go.Proofs.YtefjdmjkofaajaaGreatDoor
