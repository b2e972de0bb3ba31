/- Chapter 1: the walks of the document's Put, PutText, Get. -/
import Derived.Test.YtibimbcjnjefdaaDoorVRefL
import Derived.Test.YtibimbcjnjefdaaDoorVWalkA
import Derived.Test.YtibimbcjnjefdaaDoorVWalkD
namespace Go.Dm
open Go Go.RowKit
theorem or128m (x : Nat) : Go.bits BinOp.or IntKind.u8 ((x : Int) % 128) 128 = ((UInt8.ofNat (x % 128 + 128)).toNat : Int) := by
  have := or128 (x % 128) (by omega)
  rw [u8_ofNat (by omega), show ((x : Int) % 128) = ((x % 128 : Nat) : Int) by omega, this]
  omega
/-- 'string(b)' of a slice that reads so. -/
theorem run_string_sl {P : Program} {w : World} {src dst e : Nat} {v : Value} {n : Nat} {l : Bs} (hs : P.underlying src = some (.slice e)) (he : P.underlying e = some (.int .u8)) (hd : P.underlying dst = some .string)
    (h : Sl w 1 v n (bCells l)) (hn : n = l.length) (hl : l ≠ []) : (convert src dst v).run P w = .ok (.string ⟨l.toArray⟩) w := by
  subst hn
  obtain ⟨p, cap, rfl, _, _, _, hx⟩ := h.2
  have h0 : 0 < l.length := List.length_pos_iff.2 hl
  obtain ⟨b, off, rfl, hb, hc⟩ := hx.resolve_left (by omega)
  exact run_convert_bytes_back w src dst e ⟨b, off, none⟩ cap l hs he hd (fun j hj => by
    have := hc j (.int .u8 (l[j].toNat : Int)) (by simp [bCells, hj])
    unfold Addr.add
    split
    · rename_i h0; subst h0; simpa using this
    · exact this)
end Go.Dm
namespace Go.Proofs.YtibimbcjnjefdaaDoor
open Go.RowKit Go.Dm

set_option maxHeartbeats 2000000 in
set_option maxRecDepth 100000 in
theorem rput_w (u : Nat) (w : World) (hu : U64 u) :
    Calls Tryd.prog 47 #[.int .u64 u] w fun e w' => e = .returned (.string ⟨(putL u).toArray⟩) ∧ Ext w w' := by
  go_enter Tryd.func47, Tryd.ntmps47
  go_wp2
  go_loopw [0, 3] (fun u' v wr => ∃ (x : Nat) (b : ByteArray), U64 x ∧ b.size ≤ 10 ∧ u' = .int .u64 x ∧ v = .string b ∧ Ext w wr ∧ Hid (putL u = b.data.toList ++ putL x)) (fun u' _ _ => (intOf u').toNat)
  case atStart => exact ⟨u, ⟨#[]⟩, hu, by decide, rfl, rfl, Ext.refl _, rfl⟩
  case round =>
    obtain ⟨x, b, hx, hl, rfl, rfl, hb, HP⟩ := hrel
    by_cases h : 128 ≤ x
    · have hst := HP.out
      rw [putL_big h] at hst
      have hbits := or128m x
      generalize UInt8.ofNat (x % 128 + 128) = y at *
      replace hst := Lib.hid hst
      have hl9 : b.size ≤ 9 := by
        have h1 := congrArg List.length hst.out
        have h2 := putL_ten hu
        have h3 := putL_pos (x / 128)
        rw [h1, List.length_append, List.length_cons, ← size_len] at h2
        omega
      have hl4 := Sl.lit wr 5 1 1 #[.int .u8 (y.toNat : Int)] rfl (by simp [maxLen])
      have hcv := run_string_sl (l := [y]) (dst := 9) Tryd.underlying76 Tryd.underlying5 Tryd.underlying9 hl4 rfl (by simp)
      have hb4 := hb.trans ((Ext.refl wr).alloc (.cells #[.int .u8 (y.toNat : Int)] 5))
      have hst2 : Hid (putL u = (b ++ ⟨[y].toArray⟩).data.toList ++ putL (x / 128)) := by
        show _ = _
        rw [hst.out, data_append]; simp
      have hs2 : (b ++ ⟨[y].toArray⟩).size ≤ 10 := by rw [ByteArray.size_append]; show b.size + 1 ≤ 10; omega
      have hwr : IntKind.u64.wrap ((x : Int) / 128) = ((x / 128 : Nat) : Int) := by
        have hx' : x < 18446744073709551616 := hx
        rw [show ((x : Int) / 128) = ((x / 128 : Nat) : Int) by omega]
        simp only [IntKind.wrap, IntKind.bits, IntKind.signed]
        simp; omega
      clear hst hl4
      go_wp2
      go_roundw
      case rel => exact ⟨x / 128, _, hx.div _, hs2, by simp, rfl, hb4, hst2⟩
      case measure => simp [intOf]; omega
    · have hst := HP.out
      rw [putL_small (u := x) (by omega)] at hst
      obtain ⟨y, hyx, hy⟩ : ∃ y : UInt8, x = y.toNat ∧ UInt8.ofNat x = y := ⟨UInt8.ofNat x, (UInt8.toNat_ofNat_of_lt' (by show x < 256; omega)).symm, rfl⟩
      rw [hy] at hst
      subst hyx
      clear hy
      replace hst := Lib.hid hst
      have hl4 := Sl.lit wr 5 1 1 #[.int .u8 (y.toNat : Int)] rfl (by simp [maxLen])
      have hcv := run_string_sl (l := [y]) (dst := 9) Tryd.underlying76 Tryd.underlying5 Tryd.underlying9 hl4 rfl (by simp)
      have hb4 := hb.trans ((Ext.refl wr).alloc (.cells #[.int .u8 (y.toNat : Int)] 5))
      have hst2 : Hid ((⟨(putL u).toArray⟩ : ByteArray) = b ++ ⟨[y].toArray⟩) := by
        show _ = _
        refine (mk_bytes ?_).symm
        rw [hst.out, data_append]
      clear hst hl4
      go_wp2
      go_ret
      exact ⟨by rw [hst2.out]; rfl, hb4⟩

end Go.Proofs.YtibimbcjnjefdaaDoor
