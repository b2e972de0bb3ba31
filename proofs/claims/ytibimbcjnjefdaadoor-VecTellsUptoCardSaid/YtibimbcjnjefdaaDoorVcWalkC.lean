/- Chapter 3: the walks of Order, Holds. -/
import Derived.Test.YtibimbcjnjefdaaDoorVcWalkB
namespace Go.Dm
open Go Go.RowKit
theorem OkV.eta {a : Vc} (h : OkV a) : a = [vG a 0, vG a 1, vG a 2, vG a 3] := by
  obtain ⟨x, y, z, u, rfl, _⟩ := h.ex
  rfl
theorem VBox.us {b : Nat} {A : Nat → Nat} {w : World} (h : VBox b A w) : Us w (.slice (some ⟨b, 0, none⟩) 4 4) [A 0, A 1, A 2, A 3] := by
  refine ⟨rfl, some ⟨b, 0, none⟩, 4, rfl, Nat.le_refl _, by simp [maxLen], (fun e => by cases e), Or.inr ⟨b, 0, rfl, h.lt, fun j u hj => ?_⟩⟩
  match j with
  | 0 => simp at hj; subst hj; simpa using h.cell 0 (by omega)
  | 1 => simp at hj; subst hj; simpa using h.cell 1 (by omega)
  | 2 => simp at hj; subst hj; simpa using h.cell 2 (by omega)
  | 3 => simp at hj; subst hj; simpa using h.cell 3 (by omega)
  | j + 4 => simp at hj
theorem minV {x y f : Nat} (hx : U64 x) : (if IntKind.u64.wrap ((x : Int) / (y : Int)) < (f : Int) then IntKind.u64.wrap ((x : Int) / (y : Int)) else (f : Int)) = ((min f (x / y) : Nat) : Int) := by
  have h1 : (x : Int) / (y : Int) = ((x / y : Nat) : Int) := (Int.natCast_ediv x y).symm
  have h2 : x / y ≤ x := Nat.div_le_self _ _
  have h3 : IntKind.u64.wrap ((x / y : Nat) : Int) = ((x / y : Nat) : Int) := by
    rw [IntKind.wrap_u64]; unfold U64 at hx; generalize x / y = q at h2 ⊢; omega
  rw [h1, h3]
  split <;> omega
theorem vholdF_sub (a b : Vc) (m k : Nat) : vholdF a b m (k + 1) = if vG b k = 0 then vholdF a b m k else min (vholdF a b m k) (vG a k / vG b k) := rfl
end Go.Dm
namespace Go.Proofs.YtibimbcjnjefdaaDoor
open Go.RowKit Go.Dm

set_option maxHeartbeats 1000000 in
theorem vorder_w (a b : Vc) (ha : OkV a) (hb : OkV b) (w : World) :
    Calls Tryd.prog 22 #[vVal a, vVal b] w fun e w' => e = .returned (.int .i64 (vord a b)) ∧ Ext w w' := by
  have hv : vord a b = vordF [vG a 0, vG a 1, vG a 2, vG a 3] [vG b 0, vG b 1, vG b 2, vG b 3] := by
    unfold vord; rw [← ha.eta, ← hb.eta]
  rw [hv]
  clear hv
  unfold vVal
  generalize vG a = A
  generalize vG b = B
  have hE : Ext w ((w.alloc (.cells #[.int .u64 (A 0 : Nat), .int .u64 (A 1 : Nat), .int .u64 (A 2 : Nat), .int .u64 (A 3 : Nat)] 24)).alloc (.cells #[.int .u64 (B 0 : Nat), .int .u64 (B 1 : Nat), .int .u64 (B 2 : Nat), .int .u64 (B 3 : Nat)] 24)) := ((Ext.refl w).alloc _).alloc _
  have v1 := (VBox.new w A 24).ext ((Ext.refl _).alloc (.cells #[.int .u64 (B 0 : Nat), .int .u64 (B 1 : Nat), .int .u64 (B 2 : Nat), .int .u64 (B 3 : Nat)] 24))
  have v2 := VBox.new (w.alloc (.cells #[.int .u64 (A 0 : Nat), .int .u64 (A 1 : Nat), .int .u64 (A 2 : Nat), .int .u64 (A 3 : Nat)] 24)) B 24
  rw [World.size_alloc] at v2
  have C := Lib.hid (fun U (hU : Ext ((w.alloc (.cells #[.int .u64 (A 0 : Nat), .int .u64 (A 1 : Nat), .int .u64 (A 2 : Nat), .int .u64 (A 3 : Nat)] 24)).alloc (.cells #[.int .u64 (B 0 : Nat), .int .u64 (B 1 : Nat), .int .u64 (B 2 : Nat), .int .u64 (B 3 : Nat)] 24)) U) =>
    compare_w [A 0, A 1, A 2, A 3] [B 0, B 1, B 2, B 3] (.slice (some ⟨w.heap.size, 0, none⟩) 4 4) (.slice (some ⟨w.heap.size + 1, 0, none⟩) 4 4) U rfl (by simp) (v1.ext hU).us (v2.ext hU).us)
  generalize vordF [A 0, A 1, A 2, A 3] [B 0, B 1, B 2, B 3] = r at C ⊢
  unfold vF
  go_enter Tryd.func22, Tryd.ntmps22
  go_wp2_with fail
  refine Dm.wp_region_grow (by kernel_rfl) (by kernel_rfl) ?_
  repeat (go_big_quiet_step (first
    | (go_at_call 45; with_reducible exact Calls.quietE (C.out _ (ext_grow _ _)))))
  refine wpQuiet_nil ?_
  intro U hU
  go_wp2
  go_ret
  exact ⟨rfl, hE.trans hU⟩

set_option maxHeartbeats 2000000 in
set_option maxRecDepth 100000 in
theorem vholdsN_w (a b : Vc) (ha : OkV a) (hb : OkV b) (m : Int) (M : Nat) (hM : M ≤ 9223372036854775807) (hmM : m = M ∨ (m < 0 ∧ M = 0)) (w : World) :
    Calls Tryd.prog 26 #[vVal a, vVal b, .int .i64 m] w fun e w' => e = .returned (.int .i64 (vholds a b M : Nat)) ∧ Ext w w' := by
  have hle := vholdF_le a b M
  have hst := fun k => vholdF_sub a b M k
  unfold vholds vVal
  have h0 : vholdF a b M 0 = M := rfl
  generalize vholdF a b M = F at *
  have huA : ∀ k, U64 (vG a k) := ha.u64
  have huB : ∀ k, U64 (vG b k) := hb.u64
  generalize vG a = A at *
  generalize vG b = B at *
  replace hle := Lib.hid hle
  replace hst := Lib.hid hst
  have hx0 : VBox w.heap.size A ((w.alloc (.cells #[.int .u64 (A 0 : Nat), .int .u64 (A 1 : Nat), .int .u64 (A 2 : Nat), .int .u64 (A 3 : Nat)] 24)).alloc (.cells #[.int .u64 (B 0 : Nat), .int .u64 (B 1 : Nat), .int .u64 (B 2 : Nat), .int .u64 (B 3 : Nat)] 24)) :=
    (VBox.new w A _).ext ((Ext.refl _).alloc _)
  unfold vF
  rcases hmM with hmM | ⟨hneg, rfl⟩
  · subst hmM
    clear ha hb
    replace h0 := Lib.hid h0
    go_enter Tryd.func26, Tryd.ntmps26
    go_wp2
    go_loopw [7, 14] (fun n i wr => ∃ k : Nat, k ≤ 4 ∧ i = .int .i64 k ∧ n = .int .u64 (F k : Nat) ∧ Ext w wr ∧ VBox w.heap.size A wr) (fun _ i _ => 4 - (intOf i).toNat)
    case atStart => exact ⟨0, by omega, rfl, by rw [h0.out], ((Ext.refl w).alloc _).alloc _, hx0⟩
    case round =>
      obtain ⟨k, hk, rfl, rfl, hx, v1⟩ := hrel
      by_cases hlt : k < 4
      · have hix := fun w => idxVec B hlt w
        have c1 := v1.cell k hlt
        have hs := hst.out k
        by_cases hz : B k = 0
        · rw [if_pos hz] at hs
          rw [hz] at hix
          replace hs := Lib.hid hs
          go_wp2
          go_roundw
          case rel => exact ⟨k + 1, by omega, by go_num, by rw [hs.out], hx, v1⟩
          case measure => simp [intOf]; omega
        · rw [if_neg hz] at hs
          replace hs := Lib.hid hs
          have hp : 0 < B k := Nat.pos_of_ne_zero hz
          have hmin := minV (x := A k) (y := B k) (f := F k) (huA k)
          go_wp2
          exact ⟨⟨k + 1, by omega, by simp, by rw [hs.out], hx, v1⟩, by simp [intOf]; omega⟩
      · obtain rfl : k = 4 := by omega
        have hF := hle.out 4
        go_wp2
        go_ret
        exact ⟨rfl, hx⟩
  · replace h0 := Lib.hid h0
    clear ha hb
    go_enter Tryd.func26, Tryd.ntmps26
    go_wp2
    go_loopw [7, 14] (fun n i wr => ∃ k : Nat, k ≤ 4 ∧ i = .int .i64 k ∧ n = .int .u64 (F k : Nat) ∧ Ext w wr ∧ VBox w.heap.size A wr) (fun _ i _ => 4 - (intOf i).toNat)
    case atStart => exact ⟨0, by omega, rfl, by rw [h0.out]; rfl, ((Ext.refl w).alloc _).alloc _, hx0⟩
    case round =>
      obtain ⟨k, hk, rfl, rfl, hx, v1⟩ := hrel
      by_cases hlt : k < 4
      · have hix := fun w => idxVec B hlt w
        have c1 := v1.cell k hlt
        have hs := hst.out k
        by_cases hz : B k = 0
        · rw [if_pos hz] at hs
          rw [hz] at hix
          replace hs := Lib.hid hs
          go_wp2
          go_roundw
          case rel => exact ⟨k + 1, by omega, by go_num, by rw [hs.out], hx, v1⟩
          case measure => simp [intOf]; omega
        · rw [if_neg hz] at hs
          replace hs := Lib.hid hs
          have hp : 0 < B k := Nat.pos_of_ne_zero hz
          have hmin := minV (x := A k) (y := B k) (f := F k) (huA k)
          go_wp2
          exact ⟨⟨k + 1, by omega, by simp, by rw [hs.out], hx, v1⟩, by simp [intOf]; omega⟩
      · obtain rfl : k = 4 := by omega
        have hF := hle.out 4
        go_wp2
        go_ret
        exact ⟨rfl, hx⟩

theorem vholds_w (a b : Vc) (ha : OkV a) (hb : OkV b) (m : Int) (hm : m ≤ 9223372036854775807) (w : World) :
    Calls Tryd.prog 26 #[vVal a, vVal b, .int .i64 m] w fun e w' => e = .returned (.int .i64 (vholds a b m.toNat : Nat)) ∧ Ext w w' :=
  vholdsN_w a b ha hb m m.toNat (by omega) (by omega) w

end Go.Proofs.YtibimbcjnjefdaaDoor
