/- Texts one behind the other: Chapter 1: the walks of the document's Put, PutText, Get; Chapter 1: the walks of the document's Get and GetText; Chapter 1: the walk of the document's GetText. -/
import Derived.Test.YthmhalcloogniaaGreatDoorT18
import Derived.Test.YthmhalcloogniaaGreatDoorT6
import Derived.Test.YthmhalcloogniaaGreatDoorT7
namespace Go.Dm
open Go Go.RowKit
theorem or128m (x : Nat) : Go.bits BinOp.or IntKind.u8 ((x : Int) % 128) 128 = ((UInt8.ofNat (x % 128 + 128)).toNat : Int) := by
  have := or128 (x % 128) (by omega)
  rw [u8_ofNat (by omega), show ((x : Int) % 128) = ((x % 128 : Nat) : Int) by omega, this]
  omega
/-- 'string(b)' of a slice that reads so. -/
theorem run_string_sl {P : Program} {w : World} {src dst e : Nat} {v : Value} {n : Nat} {l : Bs} (hs : P.underlying src = some (.slice e)) (he : P.underlying e = some (.int .u8)) (hd : P.underlying dst = some .string)
    (h : Sl w 1 v n (bCells l)) (hn : n = l.length) (hl : l ≠ []) : (convert src dst v).run P w = .ok (.string ⟨l.toArray⟩) w := by
  subst hn
  obtain ⟨p, cap, rfl, _, _, _, hx⟩ := h.2
  have h0 : 0 < l.length := List.length_pos_iff.2 hl
  obtain ⟨b, off, rfl, hb, hc⟩ := hx.resolve_left (by omega)
  exact run_convert_bytes_back w src dst e ⟨b, off, none⟩ cap l hs he hd (fun j hj => by
    have := hc j (.int .u8 (l[j].toNat : Int)) (by simp [bCells, hj])
    unfold Addr.add
    split
    · rename_i h0; subst h0; simpa using this
    · exact this)
end Go.Dm
namespace Go.Proofs.YthmhalcloogniaaGreatDoor
open Go.RowKit Go.Dm

set_option maxHeartbeats 2000000 in
set_option maxRecDepth 100000 in
theorem rput_w (u : Nat) (w : World) (hu : U64 u) :
    Calls Tryz.prog 61 #[.int .u64 u] w fun e w' => e = .returned (.string ⟨(putL u).toArray⟩) ∧ Ext w w' := by
  go_enter Tryz.func61, Tryz.ntmps61
  go_wp2
  go_loopw [0, 3] (fun u' v wr => ∃ (x : Nat) (b : ByteArray), U64 x ∧ b.size ≤ 10 ∧ u' = .int .u64 x ∧ v = .string b ∧ Ext w wr ∧ Hid (putL u = b.data.toList ++ putL x)) (fun u' _ _ => (intOf u').toNat)
  case atStart => exact ⟨u, ⟨#[]⟩, hu, by decide, rfl, rfl, Ext.refl _, rfl⟩
  case round =>
    obtain ⟨x, b, hx, hl, rfl, rfl, hb, HP⟩ := hrel
    by_cases h : 128 ≤ x
    · have hst := HP.out
      rw [putL_big h] at hst
      have hbits := or128m x
      generalize UInt8.ofNat (x % 128 + 128) = y at *
      replace hst := Lib.hid hst
      have hl9 : b.size ≤ 9 := by
        have h1 := congrArg List.length hst.out
        have h2 := putL_ten hu
        have h3 := putL_pos (x / 128)
        rw [h1, List.length_append, List.length_cons, ← size_len] at h2
        omega
      have hl4 := Sl.lit wr 5 1 1 #[.int .u8 (y.toNat : Int)] rfl (by simp [maxLen])
      have hcv := run_string_sl (l := [y]) (dst := 9) Tryz.underlying56 Tryz.underlying5 Tryz.underlying9 hl4 rfl (by simp)
      have hb4 := hb.trans ((Ext.refl wr).alloc (.cells #[.int .u8 (y.toNat : Int)] 5))
      have hst2 : Hid (putL u = (b ++ ⟨[y].toArray⟩).data.toList ++ putL (x / 128)) := by
        show _ = _
        rw [hst.out, data_append]; simp
      have hs2 : (b ++ ⟨[y].toArray⟩).size ≤ 10 := by rw [ByteArray.size_append]; show b.size + 1 ≤ 10; omega
      have hwr : IntKind.u64.wrap ((x : Int) / 128) = ((x / 128 : Nat) : Int) := by
        have hx' : x < 18446744073709551616 := hx
        rw [show ((x : Int) / 128) = ((x / 128 : Nat) : Int) by omega]
        simp only [IntKind.wrap, IntKind.bits, IntKind.signed]
        simp; omega
      clear hst hl4
      go_wp2
      go_roundw
      case rel => exact ⟨x / 128, _, hx.div _, hs2, by simp, rfl, hb4, hst2⟩
      case measure => simp [intOf]; omega
    · have hst := HP.out
      rw [putL_small (u := x) (by omega)] at hst
      obtain ⟨y, hyx, hy⟩ : ∃ y : UInt8, x = y.toNat ∧ UInt8.ofNat x = y := ⟨UInt8.ofNat x, (UInt8.toNat_ofNat_of_lt' (by show x < 256; omega)).symm, rfl⟩
      rw [hy] at hst
      subst hyx
      clear hy
      replace hst := Lib.hid hst
      have hl4 := Sl.lit wr 5 1 1 #[.int .u8 (y.toNat : Int)] rfl (by simp [maxLen])
      have hcv := run_string_sl (l := [y]) (dst := 9) Tryz.underlying56 Tryz.underlying5 Tryz.underlying9 hl4 rfl (by simp)
      have hb4 := hb.trans ((Ext.refl wr).alloc (.cells #[.int .u8 (y.toNat : Int)] 5))
      have hst2 : Hid ((⟨(putL u).toArray⟩ : ByteArray) = b ++ ⟨[y].toArray⟩) := by
        show _ = _
        refine (mk_bytes ?_).symm
        rw [hst.out, data_append]
      clear hst hl4
      go_wp2
      go_ret
      exact ⟨by rw [hst2.out]; rfl, hb4⟩

set_option maxRecDepth 100000 in
theorem rputtext_w (t : ByteArray) (w : World) (ht : t.size ≤ 140737488355328) :
    Calls Tryz.prog 59 #[.string t] w fun e w' => e = .returned (.string ⟨(putT t.data.toList).toArray⟩) ∧ Ext w w' := by
  have h10 := putL_ten (u := t.size) (show t.size < _ by omega)
  have hU : U64 t.size := show t.size < _ by omega
  have hX : Hid ((⟨(putL t.size).toArray⟩ : ByteArray) ++ t = ⟨(putT t.data.toList).toArray⟩) := by
    show _ = _
    refine mk_bytes ?_
    rw [data_append, putT, ← size_len]
  have hp : (⟨(putL t.size).toArray⟩ : ByteArray).size ≤ 10 := by rw [size_len]; exact h10
  clear h10
  go_enter Tryz.func59, Tryz.ntmps59
  go_wp2_with fail
  refine (rput_w t.size w hU).mono ?_; rintro e w1 ⟨rfl, h1⟩
  generalize (⟨(putL t.size).toArray⟩ : ByteArray) = p at *
  go_wp2
  go_ret
  exact ⟨by rw [← hX.out]; rfl, h1⟩

end Go.Proofs.YthmhalcloogniaaGreatDoor

namespace Go.Dm
open Go Go.RowKit
theorem getI_none {l : Bs} {p : Nat} (h : getL (l.drop p) = none) : getI l p = (0, 0, false) := by
  unfold getI
  split
  · rfl
  · rw [Int.toNat_natCast, h]
theorem getI_some {l : Bs} {p u n : Nat} (hp : p < l.length) (h : getL (l.drop p) = some (u, n)) : getI l p = (u, (p : Int) + n, true) := by
  rw [getI_in hp, h]
theorem wrap_nine {L : Bs} {b : Nat} (hb : b = bAt L 9) (h : U64 (scanV L 10)) : IntKind.u64.wrap (((scanV L 9 : Nat) : Int) + (b : Int) % 128 * 9223372036854775808) = ((scanV L 10 : Nat) : Int) := by
  have h2 : scanV L 10 = scanV L 9 + (bAt L 9 % 128) * 128 ^ 9 := rfl
  rw [show (128 : Nat) ^ 9 = 9223372036854775808 by decide, ← hb] at h2
  have h' : scanV L 10 < 18446744073709551616 := h
  rw [show ((scanV L 9 : Nat) : Int) + (b : Int) % 128 * 9223372036854775808 = ((scanV L 10 : Nat) : Int) by omega]
  simp only [IntKind.wrap, IntKind.bits, IntKind.signed]
  simp; omega
end Go.Dm
namespace Go.Proofs.YthmhalcloogniaaGreatDoor
open Go.RowKit Go.Dm

set_option maxHeartbeats 4000000 in
set_option maxRecDepth 100000 in
theorem rget_w (s : ByteArray) (p : Int) (w : World) (hs : s.size ≤ 281474976710656) :
    Calls Tryz.prog 39 #[.string s, .int .i64 p] w fun e w' => e = .returned (.tuple #[.int .u64 (getI s.data.toList p).1, .int .i64 (getI s.data.toList p).2.1, .bool (getI s.data.toList p).2.2]) ∧ Ext w w' := by
  have hln : s.data.toList.length = s.size := rfl
  by_cases h : p < 0 ∨ (s.size : Int) ≤ p
  · have G := getI_out (l := s.data.toList) (at' := p) (by rw [hln]; exact h)
    rw [G]
    clear G
    rcases h with h | h
    · go_enter Tryz.func39, Tryz.ntmps39
      go_wp2
      refine bodyPost_ret (results3 rfl _ _ _) rfl ?_
      exact ⟨rfl, Ext.refl _⟩
    · go_enter Tryz.func39, Tryz.ntmps39
      go_wp2
      refine bodyPost_ret (results3 rfl _ _ _) rfl ?_
      exact ⟨rfl, Ext.refl _⟩
  · obtain ⟨q, rfl⟩ : ∃ q : Nat, p = (q : Int) := ⟨p.toNat, by omega⟩
    have hq : q < s.size := by omega
    have HN0 : getL (s.data.toList.drop q) = none → getI s.data.toList q = (0, 0, false) := getI_none
    have HS0 : ∀ u n, getL (s.data.toList.drop q) = some (u, n) → getI s.data.toList q = (u, (q : Int) + n, true) := fun u n => getI_some (by rw [hln]; exact hq)
    generalize getI s.data.toList q = G at *
    have hll : (s.data.toList.drop q).length = s.size - q := by rw [List.length_drop, hln]
    have hbat : ∀ j, bAt (s.data.toList.drop q) j = bAt s.data.toList (q + j) := fun j => by simp [bAt, List.getD_eq_getElem?_getD]
    generalize s.data.toList.drop q = L at *
    replace HN0 := Lib.hid HN0
    replace HS0 := Lib.hid HS0
    replace hll := Lib.hid hll
    replace hbat := Lib.hid hbat
    clear h hln
    go_enter Tryz.func39, Tryz.ntmps39
    go_wp2
    have hd1 : decide (s.size ≤ q) = false := decide_eq_false (by omega)
    have hd2 : decide ((q : Int) < 0) = false := decide_eq_false (by omega)
    simp only [hd1, hd2, Bool.or_false]
    clear hd1 hd2
    go_loopw [7, 8] (fun u' i' wr => ∃ j : Nat, j ≤ 10 ∧ q + j ≤ s.size ∧ i' = .int .i64 j ∧ u' = .int .u64 ((scanV L j : Nat) : Int) ∧ Ext w wr ∧ Hid (∀ i, i < j → endsAt L i = false)) (fun _ i' _ => 10 - (intOf i').toNat)
    case atStart => exact ⟨0, by omega, by omega, rfl, rfl, Ext.refl _, fun i hi => by omega⟩
    case round =>
      obtain ⟨j, hj, hjs, rfl, rfl, hb, HN⟩ := hrel
      by_cases hj10 : j < 10
      · by_cases hlt : q + j < s.size
        · have hb1 : ((s[q + j]'hlt).toNat : Nat) = bAt L j := by rw [hbat.out, ← sAt hlt]
          have hb2 := bAt_lt L j
          obtain ⟨b, hbb⟩ : ∃ b : Nat, b = bAt L j := ⟨_, rfl⟩
          rw [← hbb] at hb1 hb2
          have hW := @ref_wrap L j hj10
          rw [← hbb] at hW
          have hsc := @scan_u64 L j hj10
          rw [← hbb] at hsc
          have hS : Hid (∀ h9 : (j = 9 → b % 128 ≤ 1), b < 128 → (0 < j → b ≠ 0) → G = (scanV L (j + 1), (q : Int) + ((j + 1 : Nat) : Int), true)) := fun h9 h1 h2 =>
            HS0.out _ _ (getL_built hj10 (by rw [hll.out]; omega) HN.out (by rw [← hbb]; exact h1) (by rw [← hbb]; exact h9) (by rw [← hbb]; exact h2))
          have hG : Hid (j = 9 → 1 < b % 128 → G = (0, 0, false)) := fun h1 h2 => by
            subst h1
            exact HN0.out (getL_great HN.out (by rw [← hbb]; exact h2))
          have hZ : Hid (0 < j → b = 0 → G = (0, 0, false)) := fun h1 h2 => HN0.out (getL_empty h1 HN.out (by rw [← hbb]; exact h2))
          have hN : Hid (128 ≤ b → ∀ i, i < j + 1 → endsAt L i = false) := fun h i hi => by
            rcases Nat.lt_succ_iff_lt_or_eq.1 hi with h' | rfl
            · exact HN.out i h'
            · unfold endsAt; rw [← hbb, decide_eq_false_iff_not]; omega
          replace hbb := Lib.hid hbb
          by_cases h9 : j = 9
          · subst h9
            by_cases hd : 1 < b % 128
            · have hz := Lib.hid (hG.out rfl hd)
              clear hS hG hZ hN hW hsc
              go_wp2
              refine bodyPost_ret (results3 rfl _ _ _) rfl ?_
              exact ⟨by rw [hz.out]; rfl, hb⟩
            · have hW' := hW (fun _ => by omega)
              have hsc' := hsc (fun _ => by omega)
              have hd' : ¬ 1 < b % 128 := hd
              have hW9 : IntKind.u64.wrap (((scanV L 9 : Nat) : Int) + (b : Int) % 128 * 9223372036854775808) = ((scanV L 10 : Nat) : Int) := wrap_nine hbb.out hsc'
              have hS' := hS.out (fun _ => by omega)
              clear hG hW hsc hW' hS
              by_cases h128 : 128 ≤ b
              · have hN' := hN.out h128
                replace hN' := Lib.hid hN'
                clear hS' hZ hN
                go_wp2
                go_roundw
                case rel => exact ⟨10, by omega, by omega, by go_num, by first | rw [hW9] | rfl, hb, hN'⟩
                case measure => simp [intOf]
              · by_cases hb0 : b = 0
                · have hz := Lib.hid (hZ.out (by omega) hb0)
                  have hbz : ((b : Int) == 0) = true := by rw [beq_iff_eq]; omega
                  clear hS' hZ hN hb0
                  go_wp2
                  refine bodyPost_ret (results3 rfl _ _ _) rfl ?_
                  exact ⟨by rw [hz.out]; rfl, hb⟩
                · have hz := Lib.hid (hS' (by omega) (fun _ => hb0))
                  have hbz : ((b : Int) == 0) = false := by rw [beq_eq_false_iff_ne]; omega
                  clear hS' hZ hN hb0
                  go_wp2
                  refine bodyPost_ret (results3 rfl _ _ _) rfl ?_
                  refine ⟨?_, hb⟩
                  rw [hz.out]
                  rfl
          · have hj8 : j ≤ 8 := by omega
            have h9b : ((j : Int) == 9) = false := by rw [beq_eq_false_iff_ne]; omega
            have hW' := hW (fun h => absurd h h9)
            have hsc' := hsc (fun h => absurd h h9)
            have hWj : IntKind.u64.wrap (((scanV L j : Nat) : Int) + IntKind.u64.wrap ((b : Int) % 128 * 2 ^ (7 * j))) = ((scanV L (j + 1) : Nat) : Int) := hW'
            have hS' := hS.out (fun h => absurd h h9)
            clear hG hW hsc hW' hS
            by_cases h128 : 128 ≤ b
            · have hN' := hN.out h128
              replace hN' := Lib.hid hN'
              clear hS' hZ hN
              go_wp2
              go_roundw
              case rel => exact ⟨j + 1, by omega, by omega, by go_num, by first | rw [hWj] | rfl, hb, hN'⟩
              case measure => simp [intOf]; omega
            · by_cases hb0 : 0 < j ∧ b = 0
              · have hz := Lib.hid (hZ.out hb0.1 hb0.2)
                have hbz : ((b : Int) == 0) = true := by rw [beq_iff_eq]; omega
                have hj0 := hb0.1
                clear hS' hZ hN hb0
                go_wp2
                refine bodyPost_ret (results3 rfl _ _ _) rfl ?_
                exact ⟨by rw [hz.out]; rfl, hb⟩
              · have hz := Lib.hid (hS' (by omega) (fun h e => hb0 ⟨h, e⟩))
                by_cases hj0 : 0 < j
                · have hbz : ((b : Int) == 0) = false := by rw [beq_eq_false_iff_ne]; omega
                  clear hS' hZ hN hb0
                  go_wp2
                  refine bodyPost_ret (results3 rfl _ _ _) rfl ?_
                  refine ⟨?_, hb⟩
                  rw [hz.out, show (q : Int) + ((j + 1 : Nat) : Int) = (q : Int) + (j : Int) + 1 by omega]
                  rfl
                · clear hS' hZ hN hb0
                  go_wp2
                  refine bodyPost_ret (results3 rfl _ _ _) rfl ?_
                  refine ⟨?_, hb⟩
                  rw [hz.out, show (q : Int) + ((j + 1 : Nat) : Int) = (q : Int) + (j : Int) + 1 by omega]
                  rfl
        · have hqs : q + j = s.size := by omega
          have hz : Hid (G = (0, 0, false)) := HN0.out (getL_no fun i hi => HN.out i (by rw [hll.out] at hi; omega))
          go_wp2
          refine bodyPost_ret (results3 rfl _ _ _) rfl ?_
          exact ⟨by rw [hz.out]; rfl, hb⟩
      · obtain rfl : j = 10 := by omega
        have hz : Hid (G = (0, 0, false)) := HN0.out (getL_no fun i hi => HN.out i (by omega))
        go_wp2
        refine bodyPost_ret (results3 rfl _ _ _) rfl ?_
        exact ⟨by rw [hz.out]; rfl, hb⟩

end Go.Proofs.YthmhalcloogniaaGreatDoor

namespace Go.Proofs.YthmhalcloogniaaGreatDoor
open Go.RowKit Go.Dm

set_option maxHeartbeats 4000000 in
set_option maxRecDepth 100000 in
theorem rgettext_w (s : ByteArray) (p : Int) (most : Nat) (w : World) (hs : s.size ≤ 281474976710656) (hm : most ≤ 140737488355328) :
    Calls Tryz.prog 37 #[.string s, .int .i64 p, .int .i64 most] w fun e w' => e = .returned (.tuple #[.string ⟨(atI (getTextL most) [] s.data.toList p).1.toArray⟩, .int .i64 (atI (getTextL most) [] s.data.toList p).2.1, .bool (atI (getTextL most) [] s.data.toList p).2.2]) ∧ Ext w w' := by
  have hln : s.data.toList.length = s.size := rfl
  have C := rget_w s p w hs
  cases hc : (getI s.data.toList p).2.2 with
  | false =>
    have hT : atI (getTextL most) [] s.data.toList p = ([], 0, false) := by
      unfold atI
      by_cases h : p < 0 ∨ (s.data.toList.length : Int) ≤ p
      · rw [if_pos h]
      · rw [if_neg h]
        rw [getI_at] at hc
        unfold atI at hc
        rw [if_neg h] at hc
        cases hg : getL (s.data.toList.drop p.toNat) with
        | none => rw [getTextL_none hg]
        | some x => rw [hg] at hc; cases hc
    rw [hT]
    rw [hc] at C
    clear hT hc
    go_enter Tryz.func37, Tryz.ntmps37
    go_wp2_with (refine C.mono ?_; rintro e w' ⟨rfl, hb⟩)
    refine bodyPost_ret (results3 rfl _ _ _) rfl ?_
    exact ⟨rfl, hb⟩
  | true =>
    have hin : ¬ (p < 0 ∨ (s.data.toList.length : Int) ≤ p) := fun h => by rw [getI_out h] at hc; cases hc
    obtain ⟨q, rfl⟩ : ∃ q : Nat, p = (q : Int) := ⟨p.toNat, by omega⟩
    rw [hln] at hin
    have hq : q < s.size := by omega
    rw [getI_in (by rw [hln]; exact hq)] at C hc
    unfold atI
    rw [if_neg (by rw [hln]; exact hin), show ((q : Int)).toNat = q from rfl]
    cases hg : getL (s.data.toList.drop q) with
    | none => rw [hg] at hc; cases hc
    | some x =>
      obtain ⟨u, n⟩ := x
      rw [hg] at C
      rw [getTextL_some hg]
      obtain ⟨l1, l2, l3, l4⟩ := getL_len hg
      rw [List.length_drop, hln] at l2 ⊢
      have l5 : u < 18446744073709551616 := l4
      clear hc hg hin l4
      simp only at C
      have hwm : IntKind.u64.wrap (most : Int) = (most : Int) := by
        simp only [IntKind.wrap, IntKind.bits, IntKind.signed]
        simp; omega
      have hwl : IntKind.u64.wrap ((s.size : Int) - ((q : Int) + (n : Int))) = ((s.size - q - n : Nat) : Int) := by
        rw [show (s.size : Int) - ((q : Int) + (n : Int)) = ((s.size - q - n : Nat) : Int) by omega]
        simp only [IntKind.wrap, IntKind.bits, IntKind.signed]
        simp; omega
      by_cases hu : u ≤ most ∧ u ≤ s.size - q - n
      · rw [if_pos hu]
        clear hm hq
        go_enter Tryz.func37, Tryz.ntmps37
        go_wp2_with (refine C.mono ?_; rintro e w' ⟨rfl, hb⟩)
        all_goals
          refine bodyPost_ret (results3 rfl _ _ _) rfl ?_
          refine ⟨?_, hb⟩
          have he : (s.extract (q + n) (q + n + u)).data.toList = (s.data.toList.drop (q + n)).take u := by rw [Lib.extract_data]; congr 1; omega
          rw [show ((s.data.toList.drop q).drop n).take u = (s.extract (q + n) (q + n + u)).data.toList by rw [he, List.drop_drop]]
          first | rfl | (rw [← Int.add_assoc]; rfl) | (rw [Int.natCast_add, ← Int.add_assoc]; rfl)
      · rw [if_neg hu]
        go_enter Tryz.func37, Tryz.ntmps37
        go_wp2_with (refine C.mono ?_; rintro e w' ⟨rfl, hb⟩)
        all_goals
          refine bodyPost_ret (results3 rfl _ _ _) rfl ?_
          exact ⟨rfl, hb⟩

end Go.Proofs.YthmhalcloogniaaGreatDoor
