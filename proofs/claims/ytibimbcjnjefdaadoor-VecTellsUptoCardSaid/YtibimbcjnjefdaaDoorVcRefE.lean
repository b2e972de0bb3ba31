/- Chapter 3: the walks of the document's Digits, Number. -/
import Derived.Test.YtibimbcjnjefdaaDoorVcRefD
import Derived.Test.YtibimbcjnjefdaaDoorVRefA
import Derived.Test.YtibimbcjnjefdaaDoorVRefL
namespace Go.Dm
open Go Go.RowKit
theorem dec_big {x : Nat} (h : 9 < x) : Lib.decDigits x = Lib.decDigits (x / 10) ++ [UInt8.ofNat (48 + x % 10)] := by
  rw [Lib.decDigits, dif_neg (by omega)]
theorem dec_small {x : Nat} (h : x ≤ 9) : Lib.decDigits x = [UInt8.ofNat (48 + x)] := by
  rw [Lib.decDigits, dif_pos (by omega)]
theorem fold_wrap {x b : Nat} (hb : 48 ≤ b) : IntKind.u64.wrap (IntKind.u64.wrap ((x : Int) * 10) + ((b : Int) - 48)) = (((x * 10 + (b - 48)) % 18446744073709551616 : Nat) : Int) := by
  simp only [IntKind.wrap, IntKind.bits, IntKind.signed]
  simp; omega
end Go.Dm
namespace Go.Proofs.YtibimbcjnjefdaaDoor
open Go.RowKit Go.Dm

set_option maxHeartbeats 2000000 in
set_option maxRecDepth 100000 in
theorem r03digits_w (u : Nat) (hu : U64 u) (w : World) :
    Calls Tryd.prog 50 #[.int .u64 (u : Nat)] w fun e w' => e = .returned (.string ⟨(Lib.decDigits u).toArray⟩) ∧ Ext w w' := by
  have h20 := dec_le hu
  generalize hD : Lib.decDigits u = D at *
  replace hD := Lib.hid hD
  go_enter Tryd.func50, Tryd.ntmps50
  go_wp2
  go_loopw [0, 3] (fun u' v wr => ∃ (x : Nat) (b : ByteArray), U64 x ∧ b.size ≤ 20 ∧ u' = .int .u64 x ∧ v = .string b ∧ Ext w wr ∧ Hid (D = Lib.decDigits x ++ b.data.toList)) (fun u' _ _ => (intOf u').toNat)
  case atStart => exact ⟨u, ⟨#[]⟩, hu, by decide, rfl, rfl, Ext.refl _, by show _ = _; rw [← hD.out]; simp⟩
  case round =>
    obtain ⟨x, b, hx, hl, rfl, rfl, hb, HP⟩ := hrel
    have hx' : x < 18446744073709551616 := hx
    by_cases h : 9 < x
    · have hst := HP.out
      rw [dec_big h] at hst
      obtain ⟨y, hy⟩ : ∃ y : UInt8, UInt8.ofNat (48 + x % 10) = y := ⟨_, rfl⟩
      have hyx : (48 + (x : Int) % 10) = (y.toNat : Int) := by
        rw [← hy, UInt8.toNat_ofNat_of_lt' (by show 48 + x % 10 < 256; omega)]; omega
      rw [hy] at hst
      clear hy
      replace hst := Lib.hid hst
      have hl9 : b.size ≤ 19 := by
        have h1 := congrArg List.length hst.out
        have h3 := List.length_pos_iff.2 (dec_ne (u := x / 10))
        simp only [List.length_append, List.length_cons, List.length_nil, ← size_len] at h1
        omega
      have hl4 := Sl.lit wr 5 1 1 #[.int .u8 (y.toNat : Int)] rfl (by simp [maxLen])
      have hcv := run_string_sl (l := [y]) (dst := 9) Tryd.underlying76 Tryd.underlying5 Tryd.underlying9 hl4 rfl (by simp)
      have hb4 := hb.trans ((Ext.refl wr).alloc (.cells #[.int .u8 (y.toNat : Int)] 5))
      have hst2 : Hid (D = Lib.decDigits (x / 10) ++ ((⟨[y].toArray⟩ : ByteArray) ++ b).data.toList) := by
        show _ = _
        rw [hst.out, data_append]; simp
      have hs2 : ((⟨[y].toArray⟩ : ByteArray) ++ b).size ≤ 20 := by rw [ByteArray.size_append]; show 1 + b.size ≤ 20; omega
      have hwr : IntKind.u64.wrap ((x : Int) / 10) = ((x / 10 : Nat) : Int) := by
        rw [show ((x : Int) / 10) = ((x / 10 : Nat) : Int) by omega]
        simp only [IntKind.wrap, IntKind.bits, IntKind.signed]
        simp; omega
      clear hst hl4 HP
      go_wp2
      go_roundw
      case rel => exact ⟨x / 10, _, hx.div _, hs2, by simp, rfl, hb4, hst2⟩
      case measure => simp [intOf]; omega
    · have hst := HP.out
      rw [dec_small (x := x) (by omega)] at hst
      obtain ⟨y, hy⟩ : ∃ y : UInt8, UInt8.ofNat (48 + x) = y := ⟨_, rfl⟩
      have hyx : (48 + (x : Int)) = (y.toNat : Int) := by
        rw [← hy, UInt8.toNat_ofNat_of_lt' (by show 48 + x < 256; omega)]; omega
      rw [hy] at hst
      clear hy
      replace hst := Lib.hid hst
      have hl4 := Sl.lit wr 5 1 1 #[.int .u8 (y.toNat : Int)] rfl (by simp [maxLen])
      have hcv := run_string_sl (l := [y]) (dst := 9) Tryd.underlying76 Tryd.underlying5 Tryd.underlying9 hl4 rfl (by simp)
      have hb4 := hb.trans ((Ext.refl wr).alloc (.cells #[.int .u8 (y.toNat : Int)] 5))
      have hst2 : Hid ((⟨D.toArray⟩ : ByteArray) = (⟨[y].toArray⟩ : ByteArray) ++ b) := by
        show _ = _
        refine (mk_bytes ?_).symm
        rw [hst.out, data_append]
      clear hst hl4 HP
      go_wp2
      go_ret
      exact ⟨by rw [hst2.out]; rfl, hb4⟩

set_option maxHeartbeats 2000000 in
set_option maxRecDepth 100000 in
theorem r03number_w (s : ByteArray) (hs : s.size ≤ 281474976710656) (w : World) :
    Calls Tryd.prog 44 #[.string s] w fun e w' => e = .returned (.tuple #[.int .u64 (numV s.data.toList).1, .bool (numV s.data.toList).2]) ∧ Ext w w' := by
  have hln : s.data.toList.length = s.size := rfl
  by_cases h0 : s.size = 0
  · have hz : Hid (numV s.data.toList = (0, false)) := by
      show _ = _
      have he : s.data.toList = [] := List.length_eq_zero_iff.1 (hln.trans h0)
      rw [he, numV_nil]
    have h0b : ((s.size : Int) == 0) = true := by rw [beq_iff_eq]; omega
    go_enter Tryd.func44, Tryd.ntmps44
    go_wp2
    go_ret2
    exact ⟨by rw [hz.out]; rfl, Ext.refl _⟩
  · have h0b : ((s.size : Int) == 0) = false := by rw [beq_eq_false_iff_ne]; omega
    by_cases h20 : 20 < s.size
    · have hz : Hid (numV s.data.toList = (0, false)) := numV_long (by rw [hln]; exact h20)
      go_enter Tryd.func44, Tryd.ntmps44
      go_wp2
      go_ret2
      exact ⟨by rw [hz.out]; rfl, Ext.refl _⟩
    · have hN : numV s.data.toList = if Lib.decDigits (foldD 0 s.data.toList) = s.data.toList then (foldD 0 s.data.toList, true) else (0, false) := rfl
      have hodd : ∀ k (h : k < s.size), ((s[k]'h).toNat < 48 ∨ 57 < (s[k]'h).toNat) → numV s.data.toList = (0, false) := fun k h hh => numV_odd (b := s[k]'h) (List.getElem_mem (l := s.data.toList) (n := k) (by rw [hln]; exact h)) hh
      have hstep : ∀ k (h : k < s.size), foldD 0 (s.data.toList.take (k + 1)) = (foldD 0 (s.data.toList.take k) * 10 + ((s[k]'h).toNat - 48)) % 18446744073709551616 := fun k h => by
        rw [List.take_succ_eq_append_getElem (show k < s.data.toList.length by rw [hln]; exact h), foldD_snoc]
        rfl
      have hall : foldD 0 (s.data.toList.take s.size) = foldD 0 s.data.toList := by rw [List.take_of_length_le (by rw [hln]; omega)]
      have hfz : foldD 0 (s.data.toList.take 0) = 0 := rfl
      have hfu : ∀ k, U64 (foldD 0 (s.data.toList.take k)) := fun k => foldD_u64 (by unfold U64; omega) _
      obtain ⟨F, hF⟩ : ∃ F : Nat → Nat, ∀ k, foldD 0 (s.data.toList.take k) = F k := ⟨fun k => foldD 0 (s.data.toList.take k), fun _ => rfl⟩
      simp only [hF] at hstep hall hfz hfu
      rw [← hall] at hN
      clear hF hall
      generalize numV s.data.toList = V at *
      have CD := fun (U : World) => r03digits_w (F s.size) (hfu _) U
      replace hN := Lib.hid hN
      replace hodd := Lib.hid hodd
      replace hstep := Lib.hid hstep
      replace hfz := Lib.hid hfz
      replace CD := Lib.hid CD
      clear hln
      go_enter Tryd.func44, Tryd.ntmps44
      go_wp2
      go_loopw [4, 5] (fun n' i' wr => ∃ k : Nat, k ≤ s.size ∧ i' = .int .i64 k ∧ n' = .int .u64 (F k : Nat) ∧ Ext w wr) (fun _ i' _ => s.size - (intOf i').toNat)
      case atStart => exact ⟨0, by omega, rfl, by rw [hfz.out]; rfl, Ext.refl _⟩
      case round =>
        obtain ⟨k, hk, rfl, rfl, hb⟩ := hrel
        by_cases hlt : k < s.size
        · have hs1 := hstep.out k hlt
          have ho := hodd.out k hlt
          obtain ⟨b, hbb⟩ : ∃ b : Nat, (s[k]'hlt).toNat = b := ⟨_, rfl⟩
          have hb2 : b < 256 := by rw [← hbb]; exact UInt8.toNat_lt _
          rw [hbb] at hs1 ho
          by_cases h1 : b < 48
          · have hz := Lib.hid (ho (Or.inl h1))
            clear ho hs1
            go_wp2
            go_ret2
            exact ⟨by rw [hz.out]; rfl, hb⟩
          · by_cases h2 : 57 < b
            · have hz := Lib.hid (ho (Or.inr h2))
              clear ho hs1
              go_wp2
              go_ret2
              exact ⟨by rw [hz.out]; rfl, hb⟩
            · have hW := fold_wrap (x := F k) (b := b) (by omega)
              rw [← hs1] at hW
              clear ho hs1
              have hfk := hfu (k + 1)
              go_wp2
              go_roundw
              case rel => exact ⟨k + 1, by omega, by go_num, by first | rw [hW] | rfl, hb⟩
              case measure => simp [intOf]; omega
        · obtain rfl : k = s.size := by omega
          by_cases hc : Lib.decDigits (F s.size) = s.data.toList
          · have hz : Hid (V = (F s.size, true)) := by show _ = _; rw [hN.out, if_pos hc]
            have htx : (⟨(Lib.decDigits (F s.size)).toArray⟩ : ByteArray) = s := (mk_bytes hc.symm).symm
            have CT := CD.out
            rw [htx] at CT
            have hq : (s.toList == s.toList) = true := by simp
            replace CT := Lib.hid CT
            clear hN hodd CD
            go_wp2_with fail
            refine (CT.out wr).mono ?_; rintro e w3 ⟨rfl, h3⟩
            go_wp2
            go_ret2
            exact ⟨by rw [hz.out]; rfl, hb.trans h3⟩
          · have hz : Hid (V = (0, false)) := by show _ = _; rw [hN.out, if_neg hc]
            have hq : ((⟨(Lib.decDigits (F s.size)).toArray⟩ : ByteArray).toList == s.toList) = false :=
              Bool.eq_false_iff.2 fun h => hc (congrArg (fun b : ByteArray => b.data.toList) (bytes_eq.1 h))
            have CT := CD.out
            generalize (⟨(Lib.decDigits (F s.size)).toArray⟩ : ByteArray) = tx at *
            replace CT := Lib.hid CT
            clear hN hodd CD
            go_wp2_with fail
            refine (CT.out wr).mono ?_; rintro e w3 ⟨rfl, h3⟩
            go_wp2
            go_ret2
            exact ⟨by rw [hz.out]; rfl, hb.trans h3⟩

end Go.Proofs.YtibimbcjnjefdaaDoor
