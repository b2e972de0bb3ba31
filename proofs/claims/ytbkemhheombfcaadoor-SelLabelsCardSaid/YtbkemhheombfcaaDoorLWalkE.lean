/- Chapter 4: the walk of the laws' made labels. -/
import Derived.Test.YtbkemhheombfcaaDoorLWalkD
import Derived.Test.YtbkemhheombfcaaDoorNums
namespace Go.Dm
open Go Go.RowKit

/-- What keys and values are made of. -/
def keysB : List ByteArray := [⟨#[97]⟩, ⟨#[97, 98]⟩, ⟨#[98]⟩, ⟨#[99, 45, 49]⟩, ⟨#[100, 105, 115, 107]⟩, ⟨#[122, 111, 110, 101]⟩, ⟨#[206, 177, 206, 178]⟩, ⟨#[208, 180, 208, 190, 208, 188]⟩]
def madeOne (z : Int) (k : Nat) : List PairS := if 0 < z % 3 then [(strAt keysB k, strAt keysB ((z / 3) % 8).toNat)] else []
/-- Labels by bytes. -/
def madeTo (zs : List Int) : Nat → List PairS
  | 0 => []
  | k + 1 => madeTo zs k ++ madeOne (numAt zs k) k
def madeP (zs : List Int) : List PairS := madeTo zs (min zs.length 8)

theorem madeTo_len (zs : List Int) : ∀ k, (madeTo zs k).length ≤ k
  | 0 => by simp [madeTo]
  | k + 1 => by
    have := madeTo_len zs k
    unfold madeTo madeOne
    split <;> simp <;> omega
theorem madeP_len (zs : List Int) : (madeP zs).length ≤ 8 := by
  have := madeTo_len zs (min zs.length 8)
  unfold madeP; omega
end Go.Dm
namespace Go.Proofs.YtbkemhheombfcaaDoor
open Go.RowKit Go.Dm

set_option maxHeartbeats 2000000 in
set_option maxRecDepth 100000 in
theorem lmade_w (zs : List Int) (v : Value) (w : World) (hz : ∀ z ∈ zs, 0 ≤ z ∧ z ≤ 255) (hx : Nums w .u8 v zs) :
    Calls Tryd.prog 16 #[v] w fun e w' => ∃ r, e = .returned r ∧ Pairs w' r (madeP zs) ∧ Ext w w' := by
  obtain ⟨q, cap, rfl, hcap, hcm⟩ := hx.shape
  have hzl : zs.length ≤ maxLen := by omega
  unfold maxLen at hcm hzl
  have hA := Sl.lit w 9 1 8 (keysB.map Value.string).toArray rfl (by simp [maxLen])
  have hal : Ext w (w.alloc (.cells (keysB.map Value.string).toArray 9)) := (Ext.refl w).alloc _
  go_enter Tryd.func16, Tryd.ntmps16
  go_wp2
  generalize hW0 : w.alloc (.cells (keysB.map Value.string).toArray 9) = W0 at *
  have hW0' : Hid (W0 = W0) := rfl
  go_loopw [3, 5] (fun r i' wr => ∃ k : Nat, k ≤ zs.length ∧ k ≤ 8 ∧ i' = .int .i64 k ∧ Ext W0 wr ∧ wr.ownsRow W0.heap.size 29 2 r (madeTo zs k).length (pairCells (madeTo zs k))) (fun _ i' _ => 8 - (intOf i').toNat)
  case atStart => exact ⟨0, by omega, by omega, rfl, by subst hW0; exact Ext.refl _, World.ownsRow_nil _ _ _ _⟩
  case round =>
    obtain ⟨k, hk, h8, rfl, hb, ho⟩ := hrel
    by_cases hlt : k < zs.length
    · by_cases hl8 : k < 8
      · have hxr := hx.ext (hal.trans hb)
        obtain ⟨b, off, rfl, hbl, c0⟩ := hxr.at hlt
        have hzk : 0 ≤ numAt zs k ∧ numAt zs k ≤ 255 := hz _ (by simp [numAt, hlt])
        have hst : madeTo zs (k + 1) = madeTo zs k ++ madeOne (numAt zs k) k := rfl
        obtain ⟨z, hzn⟩ : ∃ z, numAt zs k = z := ⟨_, rfl⟩
        rw [hzn] at c0 hzk hst
        replace hzn := hzn
        obtain ⟨r, hr⟩ : ∃ r : Int, z % 3 = r := ⟨_, rfl⟩
        have hr' : z.tmod 3 = r := by rw [Int.tmod_eq_emod_of_nonneg hzk.1]; exact hr
        by_cases h0 : 0 < r
        · have hzn' := hzn
          obtain ⟨y, hy⟩ : ∃ y : Int, z / 3 = y := ⟨_, rfl⟩
          have hy' : z.tdiv 3 = y := by rw [Int.tdiv_eq_ediv_of_nonneg hzk.1]; exact hy
          have hyb : 0 ≤ y ∧ y ≤ 85 := by omega
          obtain ⟨j, hj, hjq⟩ : ∃ j : Nat, j < 8 ∧ y % 8 = (j : Int) := ⟨(y % 8).toNat, by omega, by omega⟩
          have hjq' : y.tmod 8 = (j : Int) := by rw [Int.tmod_eq_emod_of_nonneg hyb.1]; exact hjq
          have hst' : Hid (madeTo zs (k + 1) = madeTo zs k ++ [(strAt keysB k, strAt keysB j)]) := by
            show _ = _
            rw [hst]; unfold madeOne; rw [hr, if_pos h0, hy, hjq, Int.toNat_natCast]
          clear hst
          have hAr : Strs W0 (.slice (some ⟨w.heap.size, 0, none⟩) 8 8) keysB := hA
          obtain ⟨b2, off2, e2, hbl2, c2⟩ := (hx.ext hal).at hlt
          injection e2 with e2
          injection e2 with e21 e22
          subst e21 e22
          rw [hzn] at c2
          obtain ⟨hAl, hAk⟩ := hAr.cells (k := k) hl8
          obtain ⟨_, hAj⟩ := hAr.cells (k := j) hj
          rw [Nat.zero_add] at hAk hAj
          have hml := madeTo_len zs k
          clear hzn hzn'
          generalize strAt keysB k = s1 at *
          generalize strAt keysB j = s2 at *
          go_wp2_with fail
          try simp only [Act.put, List.setIfInBounds_toArray, List.set_cons_succ, List.set_cons_zero]
          refine Dm.wp_region_ext 18 (Dm.bits 18 0) hb (by kernel_rfl) (by kernel_rfl) (by kernel_rfl) ?_
          refine Dm.wpE_take (i := 0) (listed' := (Dm.bits 18 1)) (by kernel_rfl) (by kernel_rfl) rfl (fun _ _ _ _ h => h) ?_; apply Exists.intro; refine And.intro (fun x => ?_) ?_
          · go_big_quiet_step (fail); exact wpQuiet_nil rfl
          refine Dm.wpE_take (i := 1) (listed' := (Dm.bits 18 3)) (by kernel_rfl) (by kernel_rfl) rfl (fun _ _ _ _ h => h) ?_; apply Exists.intro; refine And.intro (fun x => ?_) ?_
          · go_big_quiet_step (fail); exact wpQuiet_nil rfl
          refine Dm.wpE_take (i := 2) (listed' := (Dm.bits 18 7)) (by kernel_rfl) (by kernel_rfl) rfl (fun _ _ _ _ h => h) ?_; apply Exists.intro; refine And.intro (fun x => ?_) ?_
          · go_big_quiet_step (fail); exact wpQuiet_nil rfl
          refine Dm.wpE_take (i := 3) (listed' := (Dm.bits 18 15)) (by kernel_rfl) (by kernel_rfl) rfl (fun _ _ _ _ h => h) ?_; apply Exists.intro; refine And.intro (fun x => ?_) ?_
          · go_big_quiet_step (fail); exact wpQuiet_nil rfl
          refine Dm.wpE_take (i := 4) (listed' := (Dm.bits 18 31)) (by kernel_rfl) (by kernel_rfl) rfl (fun _ _ _ _ h => h) ?_; apply Exists.intro; refine And.intro (fun x => ?_) ?_
          · go_big_quiet_step (fail); exact wpQuiet_nil rfl
          refine Dm.wpE_take (i := 5) (listed' := (Dm.bits 18 63)) (by kernel_rfl) (by kernel_rfl) rfl (fun _ _ _ _ h => h) ?_; apply Exists.intro; refine And.intro (fun x => ?_) ?_
          · go_big_quiet_step (fail); exact wpQuiet_nil rfl
          refine Dm.wpE_take (i := 6) (listed' := (Dm.bits 18 127)) (by kernel_rfl) (by kernel_rfl) rfl (fun _ _ _ _ h => h) ?_; apply Exists.intro; refine And.intro (fun x => ?_) ?_
          · go_big_quiet_step (fail); exact wpQuiet_nil rfl
          refine Dm.wpE_take (i := 7) (listed' := (Dm.bits 18 255)) (by kernel_rfl) (by kernel_rfl) rfl (fun _ _ _ _ h => h) ?_; apply Exists.intro; refine And.intro (fun x => ?_) ?_
          · go_big_quiet_step (fail); exact wpQuiet_nil rfl
          refine Dm.wpE_take (i := 8) (listed' := (Dm.bits 18 511)) (by kernel_rfl) (by kernel_rfl) rfl (fun _ _ _ _ h => h) ?_; apply Exists.intro; refine And.intro (fun x => ?_) ?_
          · go_big_quiet_step (fail); exact wpQuiet_nil rfl
          refine Dm.wpE_take (i := 9) (listed' := (Dm.bits 18 1023)) (by kernel_rfl) (by kernel_rfl) rfl (fun _ _ _ _ h => h) ?_; apply Exists.intro; refine And.intro (fun x => ?_) ?_
          · go_big_quiet_step (fail); exact wpQuiet_nil rfl
          refine Dm.wpE_take (i := 10) (listed' := (Dm.bits 18 2047)) (by kernel_rfl) (by kernel_rfl) rfl (fun _ _ _ _ h => h) ?_; apply Exists.intro; refine And.intro (fun x => ?_) ?_
          · go_big_quiet_step (fail); exact wpQuiet_nil rfl
          refine Dm.wpE_take (i := 11) (listed' := (Dm.bits 18 4095)) (by kernel_rfl) (by kernel_rfl) rfl (fun _ _ _ _ h => h) ?_; apply Exists.intro; refine And.intro (fun x => ?_) ?_
          · go_big_quiet_step (fail); exact wpQuiet_nil rfl
          refine Dm.wpE_take (i := 12) (listed' := (Dm.bits 18 8191)) (by kernel_rfl) (by kernel_rfl) rfl (fun _ _ _ _ h => h) ?_; apply Exists.intro; refine And.intro (fun x => ?_) ?_
          · go_big_quiet_step (fail); exact wpQuiet_nil rfl
          refine Dm.wpE_take (i := 13) (listed' := (Dm.bits 18 16383)) (by kernel_rfl) (by kernel_rfl) rfl (fun _ _ _ _ h => h) ?_; apply Exists.intro; refine And.intro (fun x => ?_) ?_
          · go_big_quiet_step (fail); exact wpQuiet_nil rfl
          refine Dm.wpE_take (i := 14) (listed' := (Dm.bits 18 32767)) (by kernel_rfl) (by kernel_rfl) rfl (fun _ _ _ _ h => h) ?_; apply Exists.intro; refine And.intro (fun x => ?_) ?_
          · go_big_quiet_step (fail); exact wpQuiet_nil rfl
          refine Dm.wpE_one (i := 15) (listed' := (Dm.bits 18 65535)) (by kernel_rfl) (by kernel_rfl) rfl hb (fun w1a hx1a => ?_)
          have hX1a := Ext.trans hb hx1a
          have hoa := Ext.row ho hx1a
          go_wp2_with fail
          have hl := Sl.lit w1a 29 2 1 #[.string s1, .string s2] rfl (by simp [maxLen])
          have hs1 := (Ext.refl w1a).alloc (.cells #[.string s1, .string s2] 29)
          generalize w1a.alloc (.cells #[.string s1, .string s2] 29) = w1b at *
          have hX1b := Ext.trans hX1a hs1
          replace hoa := Ext.row hoa hs1
          try simp only [Exit.then, Act.put, List.setIfInBounds_toArray, List.set_cons_succ, List.set_cons_zero]
          refine Dm.wpE_one (i := 16) (listed' := (Dm.bits 18 131071)) (by kernel_rfl) (by kernel_rfl) rfl hX1b (fun w2a hx2a => ?_)
          have hX2a := Ext.trans hX1b hx2a
          replace hl := hl.ext hx2a
          refine wpList_appE rfl _ _ Tryd.slPair rfl hX2a rfl (Ext.row hoa hx2a) rfl hl (pairCells_one [(s1, s2)]) (by omega) ?_
          intro v2 w2b ho3 hX2b _
          refine wpList_nil ?_
          try simp only [Exit.then, Act.put, List.setIfInBounds_toArray, List.set_cons_succ, List.set_cons_zero]
          refine Dm.wpE_take (i := 17) (listed' := (Dm.bits 18 262143)) (by kernel_rfl) (by kernel_rfl) rfl (fun _ _ _ _ h => h) ?_; apply Exists.intro; refine And.intro (fun x => ?_) ?_
          · go_big_quiet_step (fail); exact wpQuiet_nil rfl
          refine Dm.wpE_done (by kernel_rfl) hX2b (fun w3a hx3a => ?_)
          have hX3a := Ext.trans hX2b hx3a
          replace ho3 := Ext.row ho3 hx3a
          go_wp2
          go_roundw
          case rel => exact ⟨k + 1, by omega, by omega, by go_num, hX3a, by rw [hst'.out, List.length_append, pairCells_app]; exact ho3⟩
          case measure => simp [intOf]; omega
        · have hst' : Hid (madeTo zs (k + 1) = madeTo zs k) := by
            show _ = _
            rw [hst]; unfold madeOne; rw [hr, if_neg h0, List.append_nil]
          clear hst hzn
          go_wp2
          go_roundw
          case rel => exact ⟨k + 1, by omega, by omega, by go_num, hb, by rw [hst'.out]; exact ho⟩
          case measure => simp [intOf]; omega
      · go_wp2
        go_ret
        have : min zs.length 8 = k := by omega
        exact ⟨_, rfl, by unfold madeP; rw [this]; exact Pairs.of_row ho rfl, hal.trans hb⟩
    · go_wp2
      go_ret
      have : min zs.length 8 = k := by omega
      exact ⟨_, rfl, by unfold madeP; rw [this]; exact Pairs.of_row ho rfl, hal.trans hb⟩

end Go.Proofs.YtbkemhheombfcaaDoor
