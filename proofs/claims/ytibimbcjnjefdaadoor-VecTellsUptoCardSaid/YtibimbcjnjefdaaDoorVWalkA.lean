/- Chapter 1: the walks of the program's Put and PutText. -/
import Derived.Test.YtibimbcjnjefdaaDoorVPure
import Derived.Test.YtibimbcjnjefdaaDoorProg
import Derived.IntWalk
import Derived.OwnWalk
namespace Go.Proofs.YtibimbcjnjefdaaDoor
open Go.RowKit Go.Dm

theorem Tryd.slByte : SlT Tryd.prog 76 5 1 1 := SlT.mk' Tryd.underlying76 (by kernel_rfl) (by decide) (by decide)

set_option maxHeartbeats 2000000 in
set_option maxRecDepth 100000 in
theorem put_w (u : Nat) (w : World) (hu : U64 u) :
    Calls Tryd.prog 46 #[.int .u64 u] w fun e w' => e = .returned (.string ⟨(putL u).toArray⟩) ∧ Ext w w' := by
  go_enter Tryd.func46, Tryd.ntmps46
  go_wp2
  go_loopw [0, 3] (fun u' v wr => ∃ (x : Nat) (l : Bs), U64 x ∧ l.length ≤ 10 ∧ u' = .int .u64 x ∧ Ext w wr ∧ wr.ownsRow w.heap.size 5 1 v l.length (bCells l) ∧ Hid (putL u = l ++ putL x)) (fun u' _ _ => (intOf u').toNat)
  case atStart => exact ⟨u, [], hu, by simp, rfl, Ext.refl _, World.ownsRow_nil _ _ _ _, rfl⟩
  case round =>
    obtain ⟨x, l, hx, hl, rfl, hb, ho, HP⟩ := hrel
    by_cases h : 128 ≤ x
    · have hst := HP.out
      rw [putL_big h] at hst
      have hbits := or128' x
      generalize UInt8.ofNat (x % 128 + 128) = y at *
      replace hst := Lib.hid hst
      have hl9 : l.length ≤ 9 := by
        have h1 := congrArg List.length hst.out
        have h2 := putL_ten hu
        have h3 := putL_pos (x / 128)
        rw [h1, List.length_append, List.length_cons] at h2
        omega
      have ho4 := Ext.row ho ((Ext.refl wr).alloc (.cells #[.int .u8 (y.toNat : Int)] 5))
      have hb4 := hb.trans ((Ext.refl wr).alloc (.cells #[.int .u8 (y.toNat : Int)] 5))
      have hl4 := Sl.lit wr 5 1 1 #[.int .u8 (y.toNat : Int)] rfl (by simp [maxLen])
      clear ho
      go_wp2_with (at_builtin; refine wpList_appE rfl _ _ Tryd.slByte rfl hb4 rfl ho4 rfl hl4 (bCells_one [y]) (by omega) ?_; intro v5 w5 ho5 hb5 _)
      refine ⟨⟨x / 128, l ++ [y], hx.div _, by simp; omega, by simp, hb5, ?_, ?_⟩, ?_⟩
      · rw [List.length_append, bCells_app]; exact ho5
      · show _ = _
        rw [hst.out]; simp
      · simp [intOf]; omega
    · have hst := HP.out
      rw [putL_small (u := x) (by omega)] at hst
      obtain ⟨y, hyx, hy⟩ : ∃ y : UInt8, x = y.toNat ∧ UInt8.ofNat x = y := ⟨UInt8.ofNat x, (UInt8.toNat_ofNat_of_lt' (by show x < 256; omega)).symm, rfl⟩
      rw [hy] at hst
      subst hyx
      clear hy
      replace hst := Lib.hid hst
      have ho4 := Ext.row ho ((Ext.refl wr).alloc (.cells #[.int .u8 (y.toNat : Int)] 5))
      have hb4 := hb.trans ((Ext.refl wr).alloc (.cells #[.int .u8 (y.toNat : Int)] 5))
      have hl4 := Sl.lit wr 5 1 1 #[.int .u8 (y.toNat : Int)] rfl (by simp [maxLen])
      clear ho
      go_wp2_with (at_builtin; refine wpList_appE rfl _ _ Tryd.slByte rfl hb4 rfl ho4 rfl hl4 (bCells_one [y]) (by omega) ?_; intro v5 w5 ho5 hb5 _; have hcv := run_string_row (l := l ++ [y]) (dst := 9) Tryd.underlying76 Tryd.underlying5 Tryd.underlying9 (by rw [bCells_app]; exact ho5) (by simp) (by simp))
      go_ret
      exact ⟨by rw [hst.out]; rfl, hb5⟩

theorem putL_ten' {n : Nat} (h : n ≤ maxLen) : (putL n).length ≤ 10 := putL_ten (show n < _ by unfold maxLen at h; omega)

end Go.Proofs.YtibimbcjnjefdaaDoor
