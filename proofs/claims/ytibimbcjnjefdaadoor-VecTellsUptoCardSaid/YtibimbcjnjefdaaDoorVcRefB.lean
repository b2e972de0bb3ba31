/- Chapter 3: the walks of the document's Holds; of refV. -/
import Derived.Test.YtibimbcjnjefdaaDoorVcRefA
namespace Go.Proofs.YtibimbcjnjefdaaDoor
open Go.RowKit Go.Dm

set_option maxHeartbeats 2000000 in
set_option maxRecDepth 100000 in
theorem r03holds_w (a b : Vc) (ha : OkV a) (hb : OkV b) (m : Int) (M : Nat) (hM : M ≤ 9223372036854775807) (hmM : m = M ∨ (m < 0 ∧ M = 0)) (w : World) :
    Calls Tryd.prog 27 #[vVal a, vVal b, .int .i64 m] w fun e w' => e = .returned (.int .i64 (vholds a b M : Nat)) ∧ Ext w w' := by
  have hle := vholdF_le a b M
  have hst := fun k => vholdF_sub a b M k
  unfold vholds vVal
  have h0 : vholdF a b M 0 = M := rfl
  generalize vholdF a b M = F at *
  have huA : ∀ k, U64 (vG a k) := ha.u64
  have huB : ∀ k, U64 (vG b k) := hb.u64
  generalize vG a = A at *
  generalize vG b = B at *
  clear ha hb
  replace hle := Lib.hid hle
  replace hst := Lib.hid hst
  have hx0 : VBox w.heap.size A ((w.alloc (.cells #[.int .u64 (A 0 : Nat), .int .u64 (A 1 : Nat), .int .u64 (A 2 : Nat), .int .u64 (A 3 : Nat)] 28)).alloc (.cells #[.int .u64 (B 0 : Nat), .int .u64 (B 1 : Nat), .int .u64 (B 2 : Nat), .int .u64 (B 3 : Nat)] 28)) :=
    (VBox.new w A _).ext ((Ext.refl _).alloc _)
  have hx1 := VBox.new (w.alloc (.cells #[.int .u64 (A 0 : Nat), .int .u64 (A 1 : Nat), .int .u64 (A 2 : Nat), .int .u64 (A 3 : Nat)] 28)) B 28
  rw [World.size_alloc] at hx1
  unfold vF
  replace h0 := Lib.hid h0
  rcases hmM with hmM | ⟨hneg, rfl⟩
  · subst hmM
    go_enter Tryd.func27, Tryd.ntmps27
    go_wp2
    go_loopw [7, 8] (fun n i wr => ∃ k : Nat, k ≤ 4 ∧ i = .int .i64 k ∧ n = .int .u64 (F k : Nat) ∧ Ext w wr ∧ VBox w.heap.size A wr ∧ VBox (w.heap.size + 1) B wr) (fun _ i _ => 4 - (intOf i).toNat)
    case atStart => exact ⟨0, by omega, rfl, by rw [h0.out], ((Ext.refl w).alloc _).alloc _, hx0, hx1⟩
    case round =>
      obtain ⟨k, hk, rfl, rfl, hx, v1, v2⟩ := hrel
      by_cases hlt : k < 4
      · have c1 := v1.cell k hlt
        have c2 := v2.cell k hlt
        have l1 := v1.lt
        have l2 := v2.lt
        have hs := hst.out k
        by_cases hz : B k = 0
        · rw [if_pos hz] at hs
          rw [hz] at c2
          replace hs := Lib.hid hs
          go_wp2
          go_roundw
          case rel => exact ⟨k + 1, by omega, by go_num, by rw [hs.out], hx, v1, v2⟩
          case measure => simp [intOf]; omega
        · rw [if_neg hz] at hs
          replace hs := Lib.hid hs
          have hp : 0 < B k := Nat.pos_of_ne_zero hz
          have hmin := minV (x := A k) (y := B k) (f := F k) (huA k)
          go_wp2_with fail
          refine Dm.wp_region_grow (by kernel_rfl) (by kernel_rfl) ?_
          repeat (go_big_quiet_step (fail))
          refine wpQuiet_nil ?_
          intro U hU
          have u1 := v1.ext hU
          have u2 := v2.ext hU
          have hxU := hx.trans hU
          go_wp2
          exact ⟨⟨k + 1, by omega, by go_num, by rw [hs.out], hxU, u1, u2⟩, by simp [intOf]; omega⟩
      · obtain rfl : k = 4 := by omega
        have hF := hle.out 4
        go_wp2
        go_ret
        exact ⟨rfl, hx⟩
  · go_enter Tryd.func27, Tryd.ntmps27
    go_wp2
    go_loopw [7, 8] (fun n i wr => ∃ k : Nat, k ≤ 4 ∧ i = .int .i64 k ∧ n = .int .u64 (F k : Nat) ∧ Ext w wr ∧ VBox w.heap.size A wr ∧ VBox (w.heap.size + 1) B wr) (fun _ i _ => 4 - (intOf i).toNat)
    case atStart => exact ⟨0, by omega, rfl, by rw [h0.out]; rfl, ((Ext.refl w).alloc _).alloc _, hx0, hx1⟩
    case round =>
      obtain ⟨k, hk, rfl, rfl, hx, v1, v2⟩ := hrel
      by_cases hlt : k < 4
      · have c1 := v1.cell k hlt
        have c2 := v2.cell k hlt
        have l1 := v1.lt
        have l2 := v2.lt
        have hs := hst.out k
        by_cases hz : B k = 0
        · rw [if_pos hz] at hs
          rw [hz] at c2
          replace hs := Lib.hid hs
          go_wp2
          go_roundw
          case rel => exact ⟨k + 1, by omega, by go_num, by rw [hs.out], hx, v1, v2⟩
          case measure => simp [intOf]; omega
        · rw [if_neg hz] at hs
          replace hs := Lib.hid hs
          have hp : 0 < B k := Nat.pos_of_ne_zero hz
          have hmin := minV (x := A k) (y := B k) (f := F k) (huA k)
          go_wp2_with fail
          refine Dm.wp_region_grow (by kernel_rfl) (by kernel_rfl) ?_
          repeat (go_big_quiet_step (fail))
          refine wpQuiet_nil ?_
          intro U hU
          have u1 := v1.ext hU
          have u2 := v2.ext hU
          have hxU := hx.trans hU
          go_wp2
          exact ⟨⟨k + 1, by omega, by go_num, by rw [hs.out], hxU, u1, u2⟩, by simp [intOf]; omega⟩
      · obtain rfl : k = 4 := by omega
        have hF := hle.out 4
        go_wp2
        go_ret
        exact ⟨rfl, hx⟩

end Go.Proofs.YtibimbcjnjefdaaDoor
