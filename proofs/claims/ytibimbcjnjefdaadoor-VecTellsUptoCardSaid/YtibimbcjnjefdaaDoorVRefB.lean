/- Chapter 1: the walks of the document's Get and GetText. -/
import Derived.Test.YtibimbcjnjefdaaDoorVRefA
namespace Go.Dm
open Go Go.RowKit
theorem getI_none {l : Bs} {p : Nat} (h : getL (l.drop p) = none) : getI l p = (0, 0, false) := by
  unfold getI
  split
  · rfl
  · rw [Int.toNat_natCast, h]
theorem getI_some {l : Bs} {p u n : Nat} (hp : p < l.length) (h : getL (l.drop p) = some (u, n)) : getI l p = (u, (p : Int) + n, true) := by
  rw [getI_in hp, h]
theorem wrap_nine {L : Bs} {b : Nat} (hb : b = bAt L 9) (h : U64 (scanV L 10)) : IntKind.u64.wrap (((scanV L 9 : Nat) : Int) + (b : Int) % 128 * 9223372036854775808) = ((scanV L 10 : Nat) : Int) := by
  have h2 : scanV L 10 = scanV L 9 + (bAt L 9 % 128) * 128 ^ 9 := rfl
  rw [show (128 : Nat) ^ 9 = 9223372036854775808 by decide, ← hb] at h2
  have h' : scanV L 10 < 18446744073709551616 := h
  rw [show ((scanV L 9 : Nat) : Int) + (b : Int) % 128 * 9223372036854775808 = ((scanV L 10 : Nat) : Int) by omega]
  simp only [IntKind.wrap, IntKind.bits, IntKind.signed]
  simp; omega
end Go.Dm
namespace Go.Proofs.YtibimbcjnjefdaaDoor
open Go.RowKit Go.Dm

set_option maxHeartbeats 4000000 in
set_option maxRecDepth 100000 in
theorem rget_w (s : ByteArray) (p : Int) (w : World) (hs : s.size ≤ 281474976710656) :
    Calls Tryd.prog 41 #[.string s, .int .i64 p] w fun e w' => e = .returned (.tuple #[.int .u64 (getI s.data.toList p).1, .int .i64 (getI s.data.toList p).2.1, .bool (getI s.data.toList p).2.2]) ∧ Ext w w' := by
  have hln : s.data.toList.length = s.size := rfl
  by_cases h : p < 0 ∨ (s.size : Int) ≤ p
  · have G := getI_out (l := s.data.toList) (at' := p) (by rw [hln]; exact h)
    rw [G]
    clear G
    rcases h with h | h
    · go_enter Tryd.func41, Tryd.ntmps41
      go_wp2
      refine bodyPost_ret (results3 rfl _ _ _) rfl ?_
      exact ⟨rfl, Ext.refl _⟩
    · go_enter Tryd.func41, Tryd.ntmps41
      go_wp2
      refine bodyPost_ret (results3 rfl _ _ _) rfl ?_
      exact ⟨rfl, Ext.refl _⟩
  · obtain ⟨q, rfl⟩ : ∃ q : Nat, p = (q : Int) := ⟨p.toNat, by omega⟩
    have hq : q < s.size := by omega
    have HN0 : getL (s.data.toList.drop q) = none → getI s.data.toList q = (0, 0, false) := getI_none
    have HS0 : ∀ u n, getL (s.data.toList.drop q) = some (u, n) → getI s.data.toList q = (u, (q : Int) + n, true) := fun u n => getI_some (by rw [hln]; exact hq)
    generalize getI s.data.toList q = G at *
    have hll : (s.data.toList.drop q).length = s.size - q := by rw [List.length_drop, hln]
    have hbat : ∀ j, bAt (s.data.toList.drop q) j = bAt s.data.toList (q + j) := fun j => by simp [bAt, List.getD_eq_getElem?_getD]
    generalize s.data.toList.drop q = L at *
    replace HN0 := Lib.hid HN0
    replace HS0 := Lib.hid HS0
    replace hll := Lib.hid hll
    replace hbat := Lib.hid hbat
    clear h hln
    go_enter Tryd.func41, Tryd.ntmps41
    go_wp2
    have hd1 : decide (s.size ≤ q) = false := decide_eq_false (by omega)
    have hd2 : decide ((q : Int) < 0) = false := decide_eq_false (by omega)
    simp only [hd1, hd2, Bool.or_false]
    clear hd1 hd2
    go_loopw [7, 8] (fun u' i' wr => ∃ j : Nat, j ≤ 10 ∧ q + j ≤ s.size ∧ i' = .int .i64 j ∧ u' = .int .u64 ((scanV L j : Nat) : Int) ∧ Ext w wr ∧ Hid (∀ i, i < j → endsAt L i = false)) (fun _ i' _ => 10 - (intOf i').toNat)
    case atStart => exact ⟨0, by omega, by omega, rfl, rfl, Ext.refl _, fun i hi => by omega⟩
    case round =>
      obtain ⟨j, hj, hjs, rfl, rfl, hb, HN⟩ := hrel
      by_cases hj10 : j < 10
      · by_cases hlt : q + j < s.size
        · have hb1 : ((s[q + j]'hlt).toNat : Nat) = bAt L j := by rw [hbat.out, ← sAt hlt]
          have hb2 := bAt_lt L j
          obtain ⟨b, hbb⟩ : ∃ b : Nat, b = bAt L j := ⟨_, rfl⟩
          rw [← hbb] at hb1 hb2
          have hW := @ref_wrap L j hj10
          rw [← hbb] at hW
          have hsc := @scan_u64 L j hj10
          rw [← hbb] at hsc
          have hS : Hid (∀ h9 : (j = 9 → b % 128 ≤ 1), b < 128 → (0 < j → b ≠ 0) → G = (scanV L (j + 1), (q : Int) + ((j + 1 : Nat) : Int), true)) := fun h9 h1 h2 =>
            HS0.out _ _ (getL_built hj10 (by rw [hll.out]; omega) HN.out (by rw [← hbb]; exact h1) (by rw [← hbb]; exact h9) (by rw [← hbb]; exact h2))
          have hG : Hid (j = 9 → 1 < b % 128 → G = (0, 0, false)) := fun h1 h2 => by
            subst h1
            exact HN0.out (getL_great HN.out (by rw [← hbb]; exact h2))
          have hZ : Hid (0 < j → b = 0 → G = (0, 0, false)) := fun h1 h2 => HN0.out (getL_empty h1 HN.out (by rw [← hbb]; exact h2))
          have hN : Hid (128 ≤ b → ∀ i, i < j + 1 → endsAt L i = false) := fun h i hi => by
            rcases Nat.lt_succ_iff_lt_or_eq.1 hi with h' | rfl
            · exact HN.out i h'
            · unfold endsAt; rw [← hbb, decide_eq_false_iff_not]; omega
          replace hbb := Lib.hid hbb
          by_cases h9 : j = 9
          · subst h9
            by_cases hd : 1 < b % 128
            · have hz := Lib.hid (hG.out rfl hd)
              clear hS hG hZ hN hW hsc
              go_wp2
              refine bodyPost_ret (results3 rfl _ _ _) rfl ?_
              exact ⟨by rw [hz.out]; rfl, hb⟩
            · have hW' := hW (fun _ => by omega)
              have hsc' := hsc (fun _ => by omega)
              have hd' : ¬ 1 < b % 128 := hd
              have hW9 : IntKind.u64.wrap (((scanV L 9 : Nat) : Int) + (b : Int) % 128 * 9223372036854775808) = ((scanV L 10 : Nat) : Int) := wrap_nine hbb.out hsc'
              have hS' := hS.out (fun _ => by omega)
              clear hG hW hsc hW' hS
              by_cases h128 : 128 ≤ b
              · have hN' := hN.out h128
                replace hN' := Lib.hid hN'
                clear hS' hZ hN
                go_wp2
                go_roundw
                case rel => exact ⟨10, by omega, by omega, by go_num, by first | rw [hW9] | rfl, hb, hN'⟩
                case measure => simp [intOf]
              · by_cases hb0 : b = 0
                · have hz := Lib.hid (hZ.out (by omega) hb0)
                  have hbz : ((b : Int) == 0) = true := by rw [beq_iff_eq]; omega
                  clear hS' hZ hN hb0
                  go_wp2
                  refine bodyPost_ret (results3 rfl _ _ _) rfl ?_
                  exact ⟨by rw [hz.out]; rfl, hb⟩
                · have hz := Lib.hid (hS' (by omega) (fun _ => hb0))
                  have hbz : ((b : Int) == 0) = false := by rw [beq_eq_false_iff_ne]; omega
                  clear hS' hZ hN hb0
                  go_wp2
                  refine bodyPost_ret (results3 rfl _ _ _) rfl ?_
                  refine ⟨?_, hb⟩
                  rw [hz.out]
                  rfl
          · have hj8 : j ≤ 8 := by omega
            have h9b : ((j : Int) == 9) = false := by rw [beq_eq_false_iff_ne]; omega
            have hW' := hW (fun h => absurd h h9)
            have hsc' := hsc (fun h => absurd h h9)
            have hWj : IntKind.u64.wrap (((scanV L j : Nat) : Int) + IntKind.u64.wrap ((b : Int) % 128 * 2 ^ (7 * j))) = ((scanV L (j + 1) : Nat) : Int) := hW'
            have hS' := hS.out (fun h => absurd h h9)
            clear hG hW hsc hW' hS
            by_cases h128 : 128 ≤ b
            · have hN' := hN.out h128
              replace hN' := Lib.hid hN'
              clear hS' hZ hN
              go_wp2
              go_roundw
              case rel => exact ⟨j + 1, by omega, by omega, by go_num, by first | rw [hWj] | rfl, hb, hN'⟩
              case measure => simp [intOf]; omega
            · by_cases hb0 : 0 < j ∧ b = 0
              · have hz := Lib.hid (hZ.out hb0.1 hb0.2)
                have hbz : ((b : Int) == 0) = true := by rw [beq_iff_eq]; omega
                have hj0 := hb0.1
                clear hS' hZ hN hb0
                go_wp2
                refine bodyPost_ret (results3 rfl _ _ _) rfl ?_
                exact ⟨by rw [hz.out]; rfl, hb⟩
              · have hz := Lib.hid (hS' (by omega) (fun h e => hb0 ⟨h, e⟩))
                by_cases hj0 : 0 < j
                · have hbz : ((b : Int) == 0) = false := by rw [beq_eq_false_iff_ne]; omega
                  clear hS' hZ hN hb0
                  go_wp2
                  refine bodyPost_ret (results3 rfl _ _ _) rfl ?_
                  refine ⟨?_, hb⟩
                  rw [hz.out, show (q : Int) + ((j + 1 : Nat) : Int) = (q : Int) + (j : Int) + 1 by omega]
                  rfl
                · clear hS' hZ hN hb0
                  go_wp2
                  refine bodyPost_ret (results3 rfl _ _ _) rfl ?_
                  refine ⟨?_, hb⟩
                  rw [hz.out, show (q : Int) + ((j + 1 : Nat) : Int) = (q : Int) + (j : Int) + 1 by omega]
                  rfl
        · have hqs : q + j = s.size := by omega
          have hz : Hid (G = (0, 0, false)) := HN0.out (getL_no fun i hi => HN.out i (by rw [hll.out] at hi; omega))
          go_wp2
          refine bodyPost_ret (results3 rfl _ _ _) rfl ?_
          exact ⟨by rw [hz.out]; rfl, hb⟩
      · obtain rfl : j = 10 := by omega
        have hz : Hid (G = (0, 0, false)) := HN0.out (getL_no fun i hi => HN.out i (by omega))
        go_wp2
        refine bodyPost_ret (results3 rfl _ _ _) rfl ?_
        exact ⟨by rw [hz.out]; rfl, hb⟩

end Go.Proofs.YtibimbcjnjefdaaDoor
