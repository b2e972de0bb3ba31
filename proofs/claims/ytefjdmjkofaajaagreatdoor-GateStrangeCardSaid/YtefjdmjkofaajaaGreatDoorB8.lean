/- Texts one behind the other: Chapter 6: the walk of words. -/
import Derived.Test.YtefjdmjkofaajaaGreatDoorB14
import Derived.Deep.Cut
namespace Go.Dm
open Go Go.RowKit
/-- Four cells that are read. -/
structure Rd4 (b a0 a1 a2 a3 : Nat) (v0 v1 v2 v3 : Value) (w : World) : Prop where
 lt : b < w.heap.size
 c0 : w.cell? ⟨b, a0, none⟩ = some v0
 c1 : w.cell? ⟨b, a1, none⟩ = some v1
 c2 : w.cell? ⟨b, a2, none⟩ = some v2
 c3 : w.cell? ⟨b, a3, none⟩ = some v3
theorem Rd4.ext {b a0 a1 a2 a3 : Nat} {v0 v1 v2 v3 : Value} {w w' : World} (h : Rd4 b a0 a1 a2 a3 v0 v1 v2 v3 w) (hx : Ext w w') : Rd4 b a0 a1 a2 a3 v0 v1 v2 v3 w' := by
 have hc : ∀ {i : Nat} {u}, w.cell? ⟨b, i, none⟩ = some u → w'.cell? ⟨b, i, none⟩ = some u := fun {i u} e => by rw [hx.cell (by exact h.lt)]; exact e
 exact ⟨Nat.lt_of_lt_of_le h.lt hx.size, hc h.c0, hc h.c1, hc h.c2, hc h.c3⟩
abbrev headZ (z0 z1 z2 z3 : Int) : Int := orW (orW (orW (z0 * 16777216) (z1 * 65536)) (z2 * 256)) z3
theorem wordsW_set {B : List Int} {k : Nat} (hk : k < 64) (z : Int) : (wordsW B k ++ List.replicate (64 - k) 0).set k z = wordsW B k ++ [z] ++ List.replicate (64 - (k + 1)) 0 := by
 rw [show 64 - k = (64 - (k + 1)) + 1 by omega, List.replicate_succ, List.set_append_right _ _ (by rw [wordsW_len]; omega), wordsW_len, Nat.sub_self, List.set_cons_zero]
 simp
end Go.Dm
namespace Go.Proofs.YtefjdmjkofaajaaGreatDoor
open Go.RowKit Go.Dm

set_option maxHeartbeats 2000000 in
set_option maxRecDepth 100000 in
theorem words_w (B : List Int) (hB : B.length = 64) (hr : ∀ i, 0 ≤ at0 B i ∧ at0 B i ≤ 255) (w : World) :
  Calls Tryz.prog 135 #[.agg (cellsI .u8 B)] w fun e w' => e = .returned (.agg (cellsI .u32 (wordsW B 64))) ∧ Ext w w' := by
 have hA := AB.new w 174 .u8 B
 have hE : Ext w (w.alloc (.cells (cellsI .u8 B) 174)) := (Ext.refl _).alloc _
 generalize hW1 : w.alloc (.cells (cellsI .u8 B) 174) = w1 at *
 have hR : AB w1.heap.size 202 .u32 (List.replicate 64 0) (w1.alloc (.cells #[.int .u32 0, .int .u32 0, .int .u32 0, .int .u32 0, .int .u32 0, .int .u32 0, .int .u32 0, .int .u32 0, .int .u32 0, .int .u32 0, .int .u32 0, .int .u32 0, .int .u32 0, .int .u32 0, .int .u32 0, .int .u32 0, .int .u32 0, .int .u32 0, .int .u32 0, .int .u32 0, .int .u32 0, .int .u32 0, .int .u32 0, .int .u32 0, .int .u32 0, .int .u32 0, .int .u32 0, .int .u32 0, .int .u32 0, .int .u32 0, .int .u32 0, .int .u32 0, .int .u32 0, .int .u32 0, .int .u32 0, .int .u32 0, .int .u32 0, .int .u32 0, .int .u32 0, .int .u32 0, .int .u32 0, .int .u32 0, .int .u32 0, .int .u32 0, .int .u32 0, .int .u32 0, .int .u32 0, .int .u32 0, .int .u32 0, .int .u32 0, .int .u32 0, .int .u32 0, .int .u32 0, .int .u32 0, .int .u32 0, .int .u32 0, .int .u32 0, .int .u32 0, .int .u32 0, .int .u32 0, .int .u32 0, .int .u32 0, .int .u32 0, .int .u32 0] 202)) := AB.new w1 202 .u32 (List.replicate 64 0)
 have e2 : Ext w1 (w1.alloc (.cells #[.int .u32 0, .int .u32 0, .int .u32 0, .int .u32 0, .int .u32 0, .int .u32 0, .int .u32 0, .int .u32 0, .int .u32 0, .int .u32 0, .int .u32 0, .int .u32 0, .int .u32 0, .int .u32 0, .int .u32 0, .int .u32 0, .int .u32 0, .int .u32 0, .int .u32 0, .int .u32 0, .int .u32 0, .int .u32 0, .int .u32 0, .int .u32 0, .int .u32 0, .int .u32 0, .int .u32 0, .int .u32 0, .int .u32 0, .int .u32 0, .int .u32 0, .int .u32 0, .int .u32 0, .int .u32 0, .int .u32 0, .int .u32 0, .int .u32 0, .int .u32 0, .int .u32 0, .int .u32 0, .int .u32 0, .int .u32 0, .int .u32 0, .int .u32 0, .int .u32 0, .int .u32 0, .int .u32 0, .int .u32 0, .int .u32 0, .int .u32 0, .int .u32 0, .int .u32 0, .int .u32 0, .int .u32 0, .int .u32 0, .int .u32 0, .int .u32 0, .int .u32 0, .int .u32 0, .int .u32 0, .int .u32 0, .int .u32 0, .int .u32 0, .int .u32 0] 202)) := (Ext.refl _).alloc _
 replace hA := hA.ext e2
 replace hE := hE.trans e2
 clear e2
 generalize hW2 : w1.alloc (.cells #[.int .u32 0, .int .u32 0, .int .u32 0, .int .u32 0, .int .u32 0, .int .u32 0, .int .u32 0, .int .u32 0, .int .u32 0, .int .u32 0, .int .u32 0, .int .u32 0, .int .u32 0, .int .u32 0, .int .u32 0, .int .u32 0, .int .u32 0, .int .u32 0, .int .u32 0, .int .u32 0, .int .u32 0, .int .u32 0, .int .u32 0, .int .u32 0, .int .u32 0, .int .u32 0, .int .u32 0, .int .u32 0, .int .u32 0, .int .u32 0, .int .u32 0, .int .u32 0, .int .u32 0, .int .u32 0, .int .u32 0, .int .u32 0, .int .u32 0, .int .u32 0, .int .u32 0, .int .u32 0, .int .u32 0, .int .u32 0, .int .u32 0, .int .u32 0, .int .u32 0, .int .u32 0, .int .u32 0, .int .u32 0, .int .u32 0, .int .u32 0, .int .u32 0, .int .u32 0, .int .u32 0, .int .u32 0, .int .u32 0, .int .u32 0, .int .u32 0, .int .u32 0, .int .u32 0, .int .u32 0, .int .u32 0, .int .u32 0, .int .u32 0, .int .u32 0] 202) = w2 at *
 have hC : AB w2.heap.size 202 .u32 (List.replicate 64 0) (w2.alloc (.cells #[.int .u32 0, .int .u32 0, .int .u32 0, .int .u32 0, .int .u32 0, .int .u32 0, .int .u32 0, .int .u32 0, .int .u32 0, .int .u32 0, .int .u32 0, .int .u32 0, .int .u32 0, .int .u32 0, .int .u32 0, .int .u32 0, .int .u32 0, .int .u32 0, .int .u32 0, .int .u32 0, .int .u32 0, .int .u32 0, .int .u32 0, .int .u32 0, .int .u32 0, .int .u32 0, .int .u32 0, .int .u32 0, .int .u32 0, .int .u32 0, .int .u32 0, .int .u32 0, .int .u32 0, .int .u32 0, .int .u32 0, .int .u32 0, .int .u32 0, .int .u32 0, .int .u32 0, .int .u32 0, .int .u32 0, .int .u32 0, .int .u32 0, .int .u32 0, .int .u32 0, .int .u32 0, .int .u32 0, .int .u32 0, .int .u32 0, .int .u32 0, .int .u32 0, .int .u32 0, .int .u32 0, .int .u32 0, .int .u32 0, .int .u32 0, .int .u32 0, .int .u32 0, .int .u32 0, .int .u32 0, .int .u32 0, .int .u32 0, .int .u32 0, .int .u32 0] 202)) := AB.new w2 202 .u32 (List.replicate 64 0)
 have e2 : Ext w2 (w2.alloc (.cells #[.int .u32 0, .int .u32 0, .int .u32 0, .int .u32 0, .int .u32 0, .int .u32 0, .int .u32 0, .int .u32 0, .int .u32 0, .int .u32 0, .int .u32 0, .int .u32 0, .int .u32 0, .int .u32 0, .int .u32 0, .int .u32 0, .int .u32 0, .int .u32 0, .int .u32 0, .int .u32 0, .int .u32 0, .int .u32 0, .int .u32 0, .int .u32 0, .int .u32 0, .int .u32 0, .int .u32 0, .int .u32 0, .int .u32 0, .int .u32 0, .int .u32 0, .int .u32 0, .int .u32 0, .int .u32 0, .int .u32 0, .int .u32 0, .int .u32 0, .int .u32 0, .int .u32 0, .int .u32 0, .int .u32 0, .int .u32 0, .int .u32 0, .int .u32 0, .int .u32 0, .int .u32 0, .int .u32 0, .int .u32 0, .int .u32 0, .int .u32 0, .int .u32 0, .int .u32 0, .int .u32 0, .int .u32 0, .int .u32 0, .int .u32 0, .int .u32 0, .int .u32 0, .int .u32 0, .int .u32 0, .int .u32 0, .int .u32 0, .int .u32 0, .int .u32 0] 202)) := (Ext.refl _).alloc _
 replace hA := hA.ext e2
 replace hR := hR.ext e2
 replace hE := hE.trans e2
 clear e2
 generalize hW3 : w2.alloc (.cells #[.int .u32 0, .int .u32 0, .int .u32 0, .int .u32 0, .int .u32 0, .int .u32 0, .int .u32 0, .int .u32 0, .int .u32 0, .int .u32 0, .int .u32 0, .int .u32 0, .int .u32 0, .int .u32 0, .int .u32 0, .int .u32 0, .int .u32 0, .int .u32 0, .int .u32 0, .int .u32 0, .int .u32 0, .int .u32 0, .int .u32 0, .int .u32 0, .int .u32 0, .int .u32 0, .int .u32 0, .int .u32 0, .int .u32 0, .int .u32 0, .int .u32 0, .int .u32 0, .int .u32 0, .int .u32 0, .int .u32 0, .int .u32 0, .int .u32 0, .int .u32 0, .int .u32 0, .int .u32 0, .int .u32 0, .int .u32 0, .int .u32 0, .int .u32 0, .int .u32 0, .int .u32 0, .int .u32 0, .int .u32 0, .int .u32 0, .int .u32 0, .int .u32 0, .int .u32 0, .int .u32 0, .int .u32 0, .int .u32 0, .int .u32 0, .int .u32 0, .int .u32 0, .int .u32 0, .int .u32 0, .int .u32 0, .int .u32 0, .int .u32 0, .int .u32 0] 202) = w3 at *
 have hsz := size_cellsI .u8 B
 rw [hB] at hsz
 have hb12 : w.heap.size < w1.heap.size := by rw [← hW1, World.size_alloc]; omega
 have hb23 : w1.heap.size < w2.heap.size := by rw [← hW2, World.size_alloc]; omega
 go_enter Tryz.func135, Tryz.ntmps135
 go_wp2
 clear hW1 hW2 hW3 hsz
 obtain ⟨bA, hbA⟩ : ∃ x, x = w.heap.size := ⟨_, rfl⟩
 obtain ⟨bR, hbR⟩ : ∃ x, x = w1.heap.size := ⟨_, rfl⟩
 obtain ⟨bC, hbC⟩ : ∃ x, x = w2.heap.size := ⟨_, rfl⟩
 have hwA : w.heap.size ≤ bA := by omega
 rw [← hbA, ← hbR] at hb12
 rw [← hbR, ← hbC] at hb23
 rw [← hbA] at hA
 rw [← hbR] at hR
 rw [← hbC] at hC
 rw [← hbA, ← hbR, ← hbC]
 clear hbA hbR hbC
 go_loopw [7] (fun i wr => ∃ k : Nat, k ≤ 64 ∧ i = .int .i64 k ∧ Ext w wr ∧ AB bA 174 .u8 B wr ∧ AB bR 202 .u32 (List.replicate 64 0) wr ∧ AB bC 202 .u32 (wordsW B k ++ List.replicate (64 - k) 0) wr) (fun i _ => 64 - (intOf i).toNat)
 case atStart => exact ⟨0, by omega, rfl, hE, hA, hR, hC⟩
 case round =>
  obtain ⟨k, hk, rfl, h1, h2, h3, h4⟩ := hrel
  by_cases hlt : k < 64
  ·have hwl := wordsW_len B k
   have hCl : k < (wordsW B k ++ List.replicate (64 - k) 0).length := by simp [hwl]; omega
   by_cases h16 : k < 16
   ·have a4 : 4 * k + 3 < B.length := by omega
    have HI : Rd4 bA (4 * k) (4 * k + 1) (4 * k + 2) (4 * k + 3) (.int .u8 (at0 B (4 * k))) (.int .u8 (at0 B (4 * k + 1))) (.int .u8 (at0 B (4 * k + 2))) (.int .u8 (at0 B (4 * k + 3))) wr :=
     ⟨h2.lt, h2.cell (by omega), h2.cell (by omega), h2.cell (by omega), h2.cell (by omega)⟩
    have hnew : (wordsW B k ++ List.replicate (64 - k) 0).set k (headW B k) = wordsW B (k + 1) ++ List.replicate (64 - (k + 1)) 0 := by
     rw [wordsW_set hlt]
     simp [wordsW, h16]
    unfold headW at hnew
    obtain ⟨r00, r01⟩ := hr (4 * k)
    obtain ⟨r10, r11⟩ := hr (4 * k + 1)
    obtain ⟨r20, r21⟩ := hr (4 * k + 2)
    obtain ⟨r30, r31⟩ := hr (4 * k + 3)
    generalize at0 B (4 * k) = z0 at *
    generalize at0 B (4 * k + 1) = z1 at *
    generalize at0 B (4 * k + 2) = z2 at *
    generalize at0 B (4 * k + 3) = z3 at *
    replace hnew := Lib.hid hnew
    go_upto_region 6 with fail
    have ke : Hid (IntKind.i64.wrap (k : Int) = k) := wrap_nat (by omega)
    try simp only [Act.put, List.setIfInBounds_toArray, List.set_cons_succ, List.set_cons_zero]
    refine Dm.wp_region_fin (I := (Rd4 bA (4 * k) (4 * k + 1) (4 * k + 2) (4 * k + 3) (.int .u8 z0) (.int .u8 z1) (.int .u8 z2) (.int .u8 z3))) (z := 31) 32 (Dm.bits 32 0) (by kernel_rfl) (by kernel_rfl) (by kernel_rfl) ?_
    refine Dm.wpF_take (i := 0) (listed' := (Dm.bits 32 1)) (fun _ _ h hx => h.ext hx) HI (by kernel_rfl) (by kernel_rfl) rfl (fun _ _ _ _ h => h) ?_; apply Exists.intro; refine And.intro (fun wq hwq => ?_) ?_
    ·obtain ⟨q0, q1, q2, q3, q4⟩ := hwq; go_big_quiet_step (fail); exact wpQuiet_nil rfl
    refine Dm.wpF_take (i := 1) (listed' := (Dm.bits 32 3)) (fun _ _ h hx => h.ext hx) HI (by kernel_rfl) (by kernel_rfl) rfl (fun _ _ _ _ h => h) ?_; apply Exists.intro; refine And.intro (fun wq hwq => ?_) ?_
    ·obtain ⟨q0, q1, q2, q3, q4⟩ := hwq; go_big_quiet_step (fail); exact wpQuiet_nil rfl
    refine Dm.wpF_take (i := 2) (listed' := (Dm.bits 32 7)) (fun _ _ h hx => h.ext hx) HI (by kernel_rfl) (by kernel_rfl) rfl (fun _ _ _ _ h => h) ?_; apply Exists.intro; refine And.intro (fun wq hwq => ?_) ?_
    ·obtain ⟨q0, q1, q2, q3, q4⟩ := hwq; go_big_quiet_step (fail); exact wpQuiet_nil rfl
    refine Dm.wpF_take (i := 3) (listed' := (Dm.bits 32 15)) (fun _ _ h hx => h.ext hx) HI (by kernel_rfl) (by kernel_rfl) rfl (fun _ _ _ _ h => h) ?_; apply Exists.intro; refine And.intro (fun wq hwq => ?_) ?_
    ·obtain ⟨q0, q1, q2, q3, q4⟩ := hwq; go_big_quiet_step (fail); exact wpQuiet_nil rfl
    refine Dm.wpF_take (i := 4) (listed' := (Dm.bits 32 31)) (fun _ _ h hx => h.ext hx) HI (by kernel_rfl) (by kernel_rfl) rfl (fun _ _ _ _ h => h) ?_; apply Exists.intro; refine And.intro (fun wq hwq => ?_) ?_
    ·obtain ⟨q0, q1, q2, q3, q4⟩ := hwq; go_big_quiet_step (fail); exact wpQuiet_nil rfl
    refine Dm.wpF_take (i := 5) (listed' := (Dm.bits 32 63)) (fun _ _ h hx => h.ext hx) HI (by kernel_rfl) (by kernel_rfl) rfl (fun _ _ _ _ h => h) ?_; apply Exists.intro; refine And.intro (fun wq hwq => ?_) ?_
    ·obtain ⟨q0, q1, q2, q3, q4⟩ := hwq; go_big_quiet_step (fail); exact wpQuiet_nil rfl
    refine Dm.wpF_take (i := 6) (listed' := (Dm.bits 32 127)) (fun _ _ h hx => h.ext hx) HI (by kernel_rfl) (by kernel_rfl) rfl (fun _ _ _ _ h => h) ?_; apply Exists.intro; refine And.intro (fun wq hwq => ?_) ?_
    ·obtain ⟨q0, q1, q2, q3, q4⟩ := hwq; go_big_quiet_step (fail); exact wpQuiet_nil rfl
    refine Dm.wpF_take (i := 7) (listed' := (Dm.bits 32 255)) (fun _ _ h hx => h.ext hx) HI (by kernel_rfl) (by kernel_rfl) rfl (fun _ _ _ _ h => h) ?_; apply Exists.intro; refine And.intro (fun wq hwq => ?_) ?_
    ·obtain ⟨q0, q1, q2, q3, q4⟩ := hwq; go_big_quiet_step (fail); exact wpQuiet_nil rfl
    refine Dm.wpF_take (i := 8) (listed' := (Dm.bits 32 511)) (fun _ _ h hx => h.ext hx) HI (by kernel_rfl) (by kernel_rfl) rfl (fun _ _ _ _ h => h) ?_; apply Exists.intro; refine And.intro (fun wq hwq => ?_) ?_
    ·obtain ⟨q0, q1, q2, q3, q4⟩ := hwq; go_big_quiet_step (fail); exact wpQuiet_nil rfl
    refine Dm.wpF_take (i := 9) (listed' := (Dm.bits 32 1023)) (fun _ _ h hx => h.ext hx) HI (by kernel_rfl) (by kernel_rfl) rfl (fun _ _ _ _ h => h) ?_; apply Exists.intro; refine And.intro (fun wq hwq => ?_) ?_
    ·obtain ⟨q0, q1, q2, q3, q4⟩ := hwq; go_big_quiet_step (fail); exact wpQuiet_nil rfl
    refine Dm.wpF_take (i := 10) (listed' := (Dm.bits 32 2047)) (fun _ _ h hx => h.ext hx) HI (by kernel_rfl) (by kernel_rfl) rfl (fun _ _ _ _ h => h) ?_; apply Exists.intro; refine And.intro (fun wq hwq => ?_) ?_
    ·obtain ⟨q0, q1, q2, q3, q4⟩ := hwq; go_big_quiet_step (fail); exact wpQuiet_nil rfl
    refine Dm.wpF_take (i := 11) (listed' := (Dm.bits 32 4095)) (fun _ _ h hx => h.ext hx) HI (by kernel_rfl) (by kernel_rfl) rfl (fun _ _ _ _ h => h) ?_; apply Exists.intro; refine And.intro (fun wq hwq => ?_) ?_
    ·obtain ⟨q0, q1, q2, q3, q4⟩ := hwq; go_big_quiet_step (fail); exact wpQuiet_nil rfl
    refine Dm.wpF_take (i := 12) (listed' := (Dm.bits 32 8191)) (fun _ _ h hx => h.ext hx) HI (by kernel_rfl) (by kernel_rfl) rfl (fun _ _ _ _ h => h) ?_; apply Exists.intro; refine And.intro (fun wq hwq => ?_) ?_
    ·obtain ⟨q0, q1, q2, q3, q4⟩ := hwq; go_big_quiet_step (fail); exact wpQuiet_nil rfl
    refine Dm.wpF_take (i := 13) (listed' := (Dm.bits 32 16383)) (fun _ _ h hx => h.ext hx) HI (by kernel_rfl) (by kernel_rfl) rfl (fun _ _ _ _ h => h) ?_; apply Exists.intro; refine And.intro (fun wq hwq => ?_) ?_
    ·obtain ⟨q0, q1, q2, q3, q4⟩ := hwq; go_big_quiet_step (fail); exact wpQuiet_nil rfl
    refine Dm.wpF_take (i := 14) (listed' := (Dm.bits 32 32767)) (fun _ _ h hx => h.ext hx) HI (by kernel_rfl) (by kernel_rfl) rfl (fun _ _ _ _ h => h) ?_; apply Exists.intro; refine And.intro (fun wq hwq => ?_) ?_
    ·obtain ⟨q0, q1, q2, q3, q4⟩ := hwq; go_big_quiet_step (fail); exact wpQuiet_nil rfl
    refine Dm.wpF_take (i := 15) (listed' := (Dm.bits 32 65535)) (fun _ _ h hx => h.ext hx) HI (by kernel_rfl) (by kernel_rfl) rfl (fun _ _ _ _ h => h) ?_; apply Exists.intro; refine And.intro (fun wq hwq => ?_) ?_
    ·obtain ⟨q0, q1, q2, q3, q4⟩ := hwq; go_big_quiet_step (fail); exact wpQuiet_nil rfl
    refine Dm.wpF_take (i := 16) (listed' := (Dm.bits 32 131071)) (fun _ _ h hx => h.ext hx) HI (by kernel_rfl) (by kernel_rfl) rfl (fun _ _ _ _ h => h) ?_; apply Exists.intro; refine And.intro (fun wq hwq => ?_) ?_
    ·obtain ⟨q0, q1, q2, q3, q4⟩ := hwq; go_big_quiet_step (fail); exact wpQuiet_nil rfl
    refine Dm.wpF_take (i := 17) (listed' := (Dm.bits 32 262143)) (fun _ _ h hx => h.ext hx) HI (by kernel_rfl) (by kernel_rfl) rfl (fun _ _ _ _ h => h) ?_; apply Exists.intro; refine And.intro (fun wq hwq => ?_) ?_
    ·obtain ⟨q0, q1, q2, q3, q4⟩ := hwq; go_big_quiet_step (fail); exact wpQuiet_nil rfl
    refine Dm.wpF_take (i := 18) (listed' := (Dm.bits 32 524287)) (fun _ _ h hx => h.ext hx) HI (by kernel_rfl) (by kernel_rfl) rfl (fun _ _ _ _ h => h) ?_; apply Exists.intro; refine And.intro (fun wq hwq => ?_) ?_
    ·obtain ⟨q0, q1, q2, q3, q4⟩ := hwq; go_big_quiet_step (fail); exact wpQuiet_nil rfl
    refine Dm.wpF_take (i := 19) (listed' := (Dm.bits 32 1048575)) (fun _ _ h hx => h.ext hx) HI (by kernel_rfl) (by kernel_rfl) rfl (fun _ _ _ _ h => h) ?_; apply Exists.intro; refine And.intro (fun wq hwq => ?_) ?_
    ·obtain ⟨q0, q1, q2, q3, q4⟩ := hwq; go_big_quiet_step (fail); exact wpQuiet_nil rfl
    refine Dm.wpF_take (i := 20) (listed' := (Dm.bits 32 2097151)) (fun _ _ h hx => h.ext hx) HI (by kernel_rfl) (by kernel_rfl) rfl (fun _ _ _ _ h => h) ?_; apply Exists.intro; refine And.intro (fun wq hwq => ?_) ?_
    ·obtain ⟨q0, q1, q2, q3, q4⟩ := hwq; go_big_quiet_step (fail); exact wpQuiet_nil rfl
    refine Dm.wpF_take (i := 21) (listed' := (Dm.bits 32 4194303)) (fun _ _ h hx => h.ext hx) HI (by kernel_rfl) (by kernel_rfl) rfl (fun _ _ _ _ h => h) ?_; apply Exists.intro; refine And.intro (fun wq hwq => ?_) ?_
    ·obtain ⟨q0, q1, q2, q3, q4⟩ := hwq; go_big_quiet_step (fail); exact wpQuiet_nil rfl
    refine Dm.wpF_take (i := 22) (listed' := (Dm.bits 32 8388607)) (fun _ _ h hx => h.ext hx) HI (by kernel_rfl) (by kernel_rfl) rfl (fun _ _ _ _ h => h) ?_; apply Exists.intro; refine And.intro (fun wq hwq => ?_) ?_
    ·obtain ⟨q0, q1, q2, q3, q4⟩ := hwq; go_big_quiet_step (fail); exact wpQuiet_nil rfl
    refine Dm.wpF_take (i := 23) (listed' := (Dm.bits 32 16777215)) (fun _ _ h hx => h.ext hx) HI (by kernel_rfl) (by kernel_rfl) rfl (fun _ _ _ _ h => h) ?_; apply Exists.intro; refine And.intro (fun wq hwq => ?_) ?_
    ·obtain ⟨q0, q1, q2, q3, q4⟩ := hwq; go_big_quiet_step (fail); exact wpQuiet_nil rfl
    refine Dm.wpF_take (i := 24) (listed' := (Dm.bits 32 33554431)) (fun _ _ h hx => h.ext hx) HI (by kernel_rfl) (by kernel_rfl) rfl (fun _ _ _ _ h => h) ?_; apply Exists.intro; refine And.intro (fun wq hwq => ?_) ?_
    ·obtain ⟨q0, q1, q2, q3, q4⟩ := hwq; go_big_quiet_step (fail); exact wpQuiet_nil rfl
    refine Dm.wpF_take (i := 25) (listed' := (Dm.bits 32 67108863)) (fun _ _ h hx => h.ext hx) HI (by kernel_rfl) (by kernel_rfl) rfl (fun _ _ _ _ h => h) ?_; apply Exists.intro; refine And.intro (fun wq hwq => ?_) ?_
    ·obtain ⟨q0, q1, q2, q3, q4⟩ := hwq; go_big_quiet_step (fail); exact wpQuiet_nil rfl
    refine Dm.wpF_take (i := 26) (listed' := (Dm.bits 32 134217727)) (fun _ _ h hx => h.ext hx) HI (by kernel_rfl) (by kernel_rfl) rfl (fun _ _ _ _ h => h) ?_; apply Exists.intro; refine And.intro (fun wq hwq => ?_) ?_
    ·obtain ⟨q0, q1, q2, q3, q4⟩ := hwq; go_big_quiet_step (fail); exact wpQuiet_nil rfl
    refine Dm.wpF_take (i := 27) (listed' := (Dm.bits 32 268435455)) (fun _ _ h hx => h.ext hx) HI (by kernel_rfl) (by kernel_rfl) rfl (fun _ _ _ _ h => h) ?_; apply Exists.intro; refine And.intro (fun wq hwq => ?_) ?_
    ·obtain ⟨q0, q1, q2, q3, q4⟩ := hwq; go_big_quiet_step (fail); exact wpQuiet_nil rfl
    refine Dm.wpF_take (i := 28) (listed' := (Dm.bits 32 536870911)) (fun _ _ h hx => h.ext hx) HI (by kernel_rfl) (by kernel_rfl) rfl (fun _ _ _ _ h => h) ?_; apply Exists.intro; refine And.intro (fun wq hwq => ?_) ?_
    ·obtain ⟨q0, q1, q2, q3, q4⟩ := hwq; go_big_quiet_step (fail); exact wpQuiet_nil rfl
    refine Dm.wpF_take (i := 29) (listed' := (Dm.bits 32 1073741823)) (fun _ _ h hx => h.ext hx) HI (by kernel_rfl) (by kernel_rfl) rfl (fun _ _ _ _ h => h) ?_; apply Exists.intro; refine And.intro (fun wq hwq => ?_) ?_
    ·obtain ⟨q0, q1, q2, q3, q4⟩ := hwq; go_big_quiet_step (fail); exact wpQuiet_nil rfl
    refine Dm.wpF_take (i := 30) (listed' := (Dm.bits 32 2147483647)) (fun _ _ h hx => h.ext hx) HI (by kernel_rfl) (by kernel_rfl) rfl (fun _ _ _ _ h => h) ?_; apply Exists.intro; refine And.intro (fun wq hwq => ?_) ?_
    ·obtain ⟨q0, q1, q2, q3, q4⟩ := hwq; go_big_quiet_step (fail); exact wpQuiet_nil rfl
    refine Dm.wpF_one (i := 31) (listed' := (Dm.bits 32 4294967295)) (by kernel_rfl) (by kernel_rfl) rfl (fun wz hxz => ?_)
    have cC := (h4.ext hxz).cell hCl
    have fC := (h4.ext hxz).free k
    have lC := (h4.ext hxz).lt
    go_wp2_with fail
    first | refine ⟨fun h => absurd rfl h, ?_⟩ | skip
    refine Dm.wpF_done (by kernel_rfl) (fun wy hxy => ?_)
    clear cC fC lC HI
    have hxy : Ext (wz.setCell ⟨bC, k, none⟩ (.int .u32 (headZ z0 z1 z2 z3))) wy := hxy
    have g4 := hnew.out ▸ (h4.ext hxz).set k (headZ z0 z1 z2 z3)
    have g4 := AB.ext g4 hxy
    have g3 := ((h3.ext hxz).far (c := bC) (i := k) (by omega) (.int .u32 (headZ z0 z1 z2 z3))).ext hxy
    have g2 := ((h2.ext hxz).far (c := bC) (i := k) (by omega) (.int .u32 (headZ z0 z1 z2 z3))).ext hxy
    have g1 := Ext.trans (show Ext w (wz.setCell ⟨bC, k, none⟩ (.int .u32 (headZ z0 z1 z2 z3))) from Below.setCell (h1.trans hxz) (by show _ ≤ bC; omega) _) hxy
    clear h1 h2 h3 h4 hxz hxy hnew
    go_wp2
    go_roundw
    case rel => exact ⟨k + 1, by omega, by go_num, g1, g2, g3, g4⟩
    case measure => simp [intOf]; omega
   ·have n1 : k - 15 < k := by omega
    have n2 : k - 2 < k := by omega
    have n3 : k - 16 < k := by omega
    have n4 : k - 7 < k := by omega
    have hat : ∀ j, j < k → (wordsW B k ++ List.replicate (64 - k) 0).getD j 0 = at0 (wordsW B k) j := fun j hj => by
     unfold at0
     simp [List.getD_eq_getElem?_getD, List.getElem?_append_left, hwl, hj]
    have HI : Rd4 bC (k - 15) (k - 2) (k - 16) (k - 7) (.int .u32 (at0 (wordsW B k) (k - 15))) (.int .u32 (at0 (wordsW B k) (k - 2))) (.int .u32 (at0 (wordsW B k) (k - 16))) (.int .u32 (at0 (wordsW B k) (k - 7))) wr :=
     ⟨h4.lt, by rw [← hat _ n1]; exact h4.cell (by omega), by rw [← hat _ n2]; exact h4.cell (by omega), by rw [← hat _ n3]; exact h4.cell (by omega), by rw [← hat _ n4]; exact h4.cell (by omega)⟩
    have hnew : (wordsW B k ++ List.replicate (64 - k) 0).set k (madeW (at0 (wordsW B k) (k - 16)) (at0 (wordsW B k) (k - 15)) (at0 (wordsW B k) (k - 7)) (at0 (wordsW B k) (k - 2))) = wordsW B (k + 1) ++ List.replicate (64 - (k + 1)) 0 := by
     rw [wordsW_set hlt]
     simp [wordsW, h16]
    clear hat hwl
    generalize wordsW B k ++ List.replicate (64 - k) 0 = WL at *
    obtain ⟨WN, hWN⟩ : ∃ WN, wordsW B (k + 1) ++ List.replicate (64 - (k + 1)) 0 = WN := ⟨_, rfl⟩
    rw [hWN] at hnew
    replace hWN := Lib.hid hWN
    generalize at0 (wordsW B k) (k - 16) = za at *
    generalize at0 (wordsW B k) (k - 15) = zx at *
    generalize at0 (wordsW B k) (k - 7) = zb at *
    generalize at0 (wordsW B k) (k - 2) = zy at *
    replace hnew := Lib.hid hnew
    have T7 := fun U => turn_w zx 7 (by omega) U
    have T18 := fun U => turn_w zx 18 (by omega) U
    have T17 := fun U => turn_w zy 17 (by omega) U
    have T19 := fun U => turn_w zy 19 (by omega) U
    replace T7 := Lib.hid T7
    replace T18 := Lib.hid T18
    replace T17 := Lib.hid T17
    replace T19 := Lib.hid T19
    go_upto_region 7 with fail
    have e15 : (k : Int) - 15 = ((k - 15 : Nat) : Int) := by omega
    have e2 : (k : Int) - 2 = ((k - 2 : Nat) : Int) := by omega
    have e16 : (k : Int) - 16 = ((k - 16 : Nat) : Int) := by omega
    have e7 : (k : Int) - 7 = ((k - 7 : Nat) : Int) := by omega
    obtain ⟨i1, i2, i3, i4, i5⟩ := id HI
    try simp only [Act.put, List.setIfInBounds_toArray, List.set_cons_succ, List.set_cons_zero]
    refine Dm.wp_region_ext 10 (Dm.bits 10 0) (Ext.refl wr) (by kernel_rfl) (by kernel_rfl) (by kernel_rfl) ?_
    refine Dm.wpE_take (i := 0) (listed' := (Dm.bits 10 1)) (by kernel_rfl) (by kernel_rfl) rfl (fun _ _ _ _ h => h) ?_; apply Exists.intro; refine And.intro (fun x => ?_) ?_
    ·go_big_quiet_step (fail); exact wpQuiet_nil rfl
    refine Dm.wpE_take (i := 1) (listed' := (Dm.bits 10 3)) (by kernel_rfl) (by kernel_rfl) rfl (fun _ _ _ _ h => h) ?_; apply Exists.intro; refine And.intro (fun x => ?_) ?_
    ·go_big_quiet_step (fail); exact wpQuiet_nil rfl
    refine Dm.wpE_take (i := 2) (listed' := (Dm.bits 10 7)) (by kernel_rfl) (by kernel_rfl) rfl (fun _ _ _ _ h => h) ?_; apply Exists.intro; refine And.intro (fun x => ?_) ?_
    ·go_big_quiet_step (fail); exact wpQuiet_nil rfl
    refine Dm.wpE_take (i := 3) (listed' := (Dm.bits 10 15)) (by kernel_rfl) (by kernel_rfl) rfl (fun _ _ _ _ h => h) ?_; apply Exists.intro; refine And.intro (fun x => ?_) ?_
    ·go_big_quiet_step (fail); exact wpQuiet_nil rfl
    refine Dm.wpE_take (i := 4) (listed' := (Dm.bits 10 31)) (by kernel_rfl) (by kernel_rfl) rfl (fun _ _ _ _ h => h) ?_; apply Exists.intro; refine And.intro (fun x => ?_) ?_
    ·go_big_quiet_step (fail); exact wpQuiet_nil rfl
    refine Dm.wpE_take (i := 5) (listed' := (Dm.bits 10 63)) (by kernel_rfl) (by kernel_rfl) rfl (fun _ _ _ _ h => h) ?_; apply Exists.intro; refine And.intro (fun x => ?_) ?_
    ·go_big_quiet_step (fail); exact wpQuiet_nil rfl
    refine Dm.wpE_take (i := 6) (listed' := (Dm.bits 10 127)) (by kernel_rfl) (by kernel_rfl) rfl (fun _ _ _ _ h => h) ?_; apply Exists.intro; refine And.intro (fun x => ?_) ?_
    ·go_big_quiet_step (fail); exact wpQuiet_nil rfl
    refine Dm.wpE_take (i := 7) (listed' := (Dm.bits 10 255)) (by kernel_rfl) (by kernel_rfl) rfl (fun _ _ _ _ h => h) ?_; apply Exists.intro; refine And.intro (fun x => ?_) ?_
    ·go_big_quiet_step (fail); exact wpQuiet_nil rfl
    refine Dm.wpE_take (i := 8) (listed' := (Dm.bits 10 511)) (by kernel_rfl) (by kernel_rfl) rfl (fun _ _ _ _ h => h) ?_; apply Exists.intro; refine And.intro (fun x => ?_) ?_
    ·go_big_quiet_step (fail); exact wpQuiet_nil rfl
    refine Dm.wpE_take (i := 9) (listed' := (Dm.bits 10 1023)) (by kernel_rfl) (by kernel_rfl) rfl (fun _ _ _ _ h => h) ?_; apply Exists.intro; refine And.intro (fun x => ?_) ?_
    ·go_big_quiet_step (fail); exact wpQuiet_nil rfl
    refine Dm.wpE_done (by kernel_rfl) (Ext.refl wr) (fun w1a hx1a => ?_)
    have hX1a := Ext.trans (Ext.refl wr) hx1a
    go_upto_region 8 with fail
    clear i1 i2 i3 i4 i5 hx1a
    replace HI := HI.ext hX1a
    replace h1 := h1.trans hX1a
    replace h2 := h2.ext hX1a
    replace h3 := h3.ext hX1a
    replace h4 := h4.ext hX1a
    try simp only [Act.put, List.setIfInBounds_toArray, List.set_cons_succ, List.set_cons_zero]
    refine Dm.wp_region_fin (I := (Rd4 bC (k - 15) (k - 2) (k - 16) (k - 7) (.int .u32 zx) (.int .u32 zy) (.int .u32 za) (.int .u32 zb))) (z := 29) 30 (Dm.bits 30 0) (by kernel_rfl) (by kernel_rfl) (by kernel_rfl) ?_
    refine Dm.wpF_take (i := 0) (listed' := (Dm.bits 30 1)) (fun _ _ h hx => h.ext hx) HI (by kernel_rfl) (by kernel_rfl) rfl (fun _ _ _ _ h => h) ?_; apply Exists.intro; refine And.intro (fun wq hwq => ?_) ?_
    ·obtain ⟨q0, q1, q2, q3, q4⟩ := hwq; go_big_quiet_step ((go_at_call 136; with_reducible first | exact Calls.quietE (T7.out _) | exact Calls.quietE (T18.out _) | exact Calls.quietE (T17.out _) | exact Calls.quietE (T19.out _))); exact wpQuiet_nil rfl
    refine Dm.wpF_take (i := 1) (listed' := (Dm.bits 30 3)) (fun _ _ h hx => h.ext hx) HI (by kernel_rfl) (by kernel_rfl) rfl (fun _ _ _ _ h => h) ?_; apply Exists.intro; refine And.intro (fun wq hwq => ?_) ?_
    ·obtain ⟨q0, q1, q2, q3, q4⟩ := hwq; go_big_quiet_step ((go_at_call 136; with_reducible first | exact Calls.quietE (T7.out _) | exact Calls.quietE (T18.out _) | exact Calls.quietE (T17.out _) | exact Calls.quietE (T19.out _))); exact wpQuiet_nil rfl
    refine Dm.wpF_take (i := 2) (listed' := (Dm.bits 30 7)) (fun _ _ h hx => h.ext hx) HI (by kernel_rfl) (by kernel_rfl) rfl (fun _ _ _ _ h => h) ?_; apply Exists.intro; refine And.intro (fun wq hwq => ?_) ?_
    ·obtain ⟨q0, q1, q2, q3, q4⟩ := hwq; go_big_quiet_step ((go_at_call 136; with_reducible first | exact Calls.quietE (T7.out _) | exact Calls.quietE (T18.out _) | exact Calls.quietE (T17.out _) | exact Calls.quietE (T19.out _))); exact wpQuiet_nil rfl
    refine Dm.wpF_take (i := 3) (listed' := (Dm.bits 30 15)) (fun _ _ h hx => h.ext hx) HI (by kernel_rfl) (by kernel_rfl) rfl (fun _ _ _ _ h => h) ?_; apply Exists.intro; refine And.intro (fun wq hwq => ?_) ?_
    ·obtain ⟨q0, q1, q2, q3, q4⟩ := hwq; go_big_quiet_step ((go_at_call 136; with_reducible first | exact Calls.quietE (T7.out _) | exact Calls.quietE (T18.out _) | exact Calls.quietE (T17.out _) | exact Calls.quietE (T19.out _))); exact wpQuiet_nil rfl
    refine Dm.wpF_take (i := 4) (listed' := (Dm.bits 30 31)) (fun _ _ h hx => h.ext hx) HI (by kernel_rfl) (by kernel_rfl) rfl (fun _ _ _ _ h => h) ?_; apply Exists.intro; refine And.intro (fun wq hwq => ?_) ?_
    ·obtain ⟨q0, q1, q2, q3, q4⟩ := hwq; go_big_quiet_step ((go_at_call 136; with_reducible first | exact Calls.quietE (T7.out _) | exact Calls.quietE (T18.out _) | exact Calls.quietE (T17.out _) | exact Calls.quietE (T19.out _))); exact wpQuiet_nil rfl
    refine Dm.wpF_take (i := 5) (listed' := (Dm.bits 30 63)) (fun _ _ h hx => h.ext hx) HI (by kernel_rfl) (by kernel_rfl) rfl (fun _ _ _ _ h => h) ?_; apply Exists.intro; refine And.intro (fun wq hwq => ?_) ?_
    ·obtain ⟨q0, q1, q2, q3, q4⟩ := hwq; go_big_quiet_step ((go_at_call 136; with_reducible first | exact Calls.quietE (T7.out _) | exact Calls.quietE (T18.out _) | exact Calls.quietE (T17.out _) | exact Calls.quietE (T19.out _))); exact wpQuiet_nil rfl
    refine Dm.wpF_take (i := 6) (listed' := (Dm.bits 30 127)) (fun _ _ h hx => h.ext hx) HI (by kernel_rfl) (by kernel_rfl) rfl (fun _ _ _ _ h => h) ?_; apply Exists.intro; refine And.intro (fun wq hwq => ?_) ?_
    ·obtain ⟨q0, q1, q2, q3, q4⟩ := hwq; go_big_quiet_step ((go_at_call 136; with_reducible first | exact Calls.quietE (T7.out _) | exact Calls.quietE (T18.out _) | exact Calls.quietE (T17.out _) | exact Calls.quietE (T19.out _))); exact wpQuiet_nil rfl
    refine Dm.wpF_take (i := 7) (listed' := (Dm.bits 30 255)) (fun _ _ h hx => h.ext hx) HI (by kernel_rfl) (by kernel_rfl) rfl (fun _ _ _ _ h => h) ?_; apply Exists.intro; refine And.intro (fun wq hwq => ?_) ?_
    ·obtain ⟨q0, q1, q2, q3, q4⟩ := hwq; go_big_quiet_step ((go_at_call 136; with_reducible first | exact Calls.quietE (T7.out _) | exact Calls.quietE (T18.out _) | exact Calls.quietE (T17.out _) | exact Calls.quietE (T19.out _))); exact wpQuiet_nil rfl
    refine Dm.wpF_take (i := 8) (listed' := (Dm.bits 30 511)) (fun _ _ h hx => h.ext hx) HI (by kernel_rfl) (by kernel_rfl) rfl (fun _ _ _ _ h => h) ?_; apply Exists.intro; refine And.intro (fun wq hwq => ?_) ?_
    ·obtain ⟨q0, q1, q2, q3, q4⟩ := hwq; go_big_quiet_step ((go_at_call 136; with_reducible first | exact Calls.quietE (T7.out _) | exact Calls.quietE (T18.out _) | exact Calls.quietE (T17.out _) | exact Calls.quietE (T19.out _))); exact wpQuiet_nil rfl
    refine Dm.wpF_take (i := 9) (listed' := (Dm.bits 30 1023)) (fun _ _ h hx => h.ext hx) HI (by kernel_rfl) (by kernel_rfl) rfl (fun _ _ _ _ h => h) ?_; apply Exists.intro; refine And.intro (fun wq hwq => ?_) ?_
    ·obtain ⟨q0, q1, q2, q3, q4⟩ := hwq; go_big_quiet_step ((go_at_call 136; with_reducible first | exact Calls.quietE (T7.out _) | exact Calls.quietE (T18.out _) | exact Calls.quietE (T17.out _) | exact Calls.quietE (T19.out _))); exact wpQuiet_nil rfl
    refine Dm.wpF_take (i := 10) (listed' := (Dm.bits 30 2047)) (fun _ _ h hx => h.ext hx) HI (by kernel_rfl) (by kernel_rfl) rfl (fun _ _ _ _ h => h) ?_; apply Exists.intro; refine And.intro (fun wq hwq => ?_) ?_
    ·obtain ⟨q0, q1, q2, q3, q4⟩ := hwq; go_big_quiet_step ((go_at_call 136; with_reducible first | exact Calls.quietE (T7.out _) | exact Calls.quietE (T18.out _) | exact Calls.quietE (T17.out _) | exact Calls.quietE (T19.out _))); exact wpQuiet_nil rfl
    refine Dm.wpF_take (i := 11) (listed' := (Dm.bits 30 4095)) (fun _ _ h hx => h.ext hx) HI (by kernel_rfl) (by kernel_rfl) rfl (fun _ _ _ _ h => h) ?_; apply Exists.intro; refine And.intro (fun wq hwq => ?_) ?_
    ·obtain ⟨q0, q1, q2, q3, q4⟩ := hwq; go_big_quiet_step ((go_at_call 136; with_reducible first | exact Calls.quietE (T7.out _) | exact Calls.quietE (T18.out _) | exact Calls.quietE (T17.out _) | exact Calls.quietE (T19.out _))); exact wpQuiet_nil rfl
    refine Dm.wpF_take (i := 12) (listed' := (Dm.bits 30 8191)) (fun _ _ h hx => h.ext hx) HI (by kernel_rfl) (by kernel_rfl) rfl (fun _ _ _ _ h => h) ?_; apply Exists.intro; refine And.intro (fun wq hwq => ?_) ?_
    ·obtain ⟨q0, q1, q2, q3, q4⟩ := hwq; go_big_quiet_step ((go_at_call 136; with_reducible first | exact Calls.quietE (T7.out _) | exact Calls.quietE (T18.out _) | exact Calls.quietE (T17.out _) | exact Calls.quietE (T19.out _))); exact wpQuiet_nil rfl
    refine Dm.wpF_take (i := 13) (listed' := (Dm.bits 30 16383)) (fun _ _ h hx => h.ext hx) HI (by kernel_rfl) (by kernel_rfl) rfl (fun _ _ _ _ h => h) ?_; apply Exists.intro; refine And.intro (fun wq hwq => ?_) ?_
    ·obtain ⟨q0, q1, q2, q3, q4⟩ := hwq; go_big_quiet_step ((go_at_call 136; with_reducible first | exact Calls.quietE (T7.out _) | exact Calls.quietE (T18.out _) | exact Calls.quietE (T17.out _) | exact Calls.quietE (T19.out _))); exact wpQuiet_nil rfl
    refine Dm.wpF_take (i := 14) (listed' := (Dm.bits 30 32767)) (fun _ _ h hx => h.ext hx) HI (by kernel_rfl) (by kernel_rfl) rfl (fun _ _ _ _ h => h) ?_; apply Exists.intro; refine And.intro (fun wq hwq => ?_) ?_
    ·obtain ⟨q0, q1, q2, q3, q4⟩ := hwq; go_big_quiet_step ((go_at_call 136; with_reducible first | exact Calls.quietE (T7.out _) | exact Calls.quietE (T18.out _) | exact Calls.quietE (T17.out _) | exact Calls.quietE (T19.out _))); exact wpQuiet_nil rfl
    refine Dm.wpF_take (i := 15) (listed' := (Dm.bits 30 65535)) (fun _ _ h hx => h.ext hx) HI (by kernel_rfl) (by kernel_rfl) rfl (fun _ _ _ _ h => h) ?_; apply Exists.intro; refine And.intro (fun wq hwq => ?_) ?_
    ·obtain ⟨q0, q1, q2, q3, q4⟩ := hwq; go_big_quiet_step ((go_at_call 136; with_reducible first | exact Calls.quietE (T7.out _) | exact Calls.quietE (T18.out _) | exact Calls.quietE (T17.out _) | exact Calls.quietE (T19.out _))); exact wpQuiet_nil rfl
    refine Dm.wpF_take (i := 16) (listed' := (Dm.bits 30 131071)) (fun _ _ h hx => h.ext hx) HI (by kernel_rfl) (by kernel_rfl) rfl (fun _ _ _ _ h => h) ?_; apply Exists.intro; refine And.intro (fun wq hwq => ?_) ?_
    ·obtain ⟨q0, q1, q2, q3, q4⟩ := hwq; go_big_quiet_step ((go_at_call 136; with_reducible first | exact Calls.quietE (T7.out _) | exact Calls.quietE (T18.out _) | exact Calls.quietE (T17.out _) | exact Calls.quietE (T19.out _))); exact wpQuiet_nil rfl
    refine Dm.wpF_take (i := 17) (listed' := (Dm.bits 30 262143)) (fun _ _ h hx => h.ext hx) HI (by kernel_rfl) (by kernel_rfl) rfl (fun _ _ _ _ h => h) ?_; apply Exists.intro; refine And.intro (fun wq hwq => ?_) ?_
    ·obtain ⟨q0, q1, q2, q3, q4⟩ := hwq; go_big_quiet_step ((go_at_call 136; with_reducible first | exact Calls.quietE (T7.out _) | exact Calls.quietE (T18.out _) | exact Calls.quietE (T17.out _) | exact Calls.quietE (T19.out _))); exact wpQuiet_nil rfl
    refine Dm.wpF_take (i := 18) (listed' := (Dm.bits 30 524287)) (fun _ _ h hx => h.ext hx) HI (by kernel_rfl) (by kernel_rfl) rfl (fun _ _ _ _ h => h) ?_; apply Exists.intro; refine And.intro (fun wq hwq => ?_) ?_
    ·obtain ⟨q0, q1, q2, q3, q4⟩ := hwq; go_big_quiet_step ((go_at_call 136; with_reducible first | exact Calls.quietE (T7.out _) | exact Calls.quietE (T18.out _) | exact Calls.quietE (T17.out _) | exact Calls.quietE (T19.out _))); exact wpQuiet_nil rfl
    refine Dm.wpF_take (i := 19) (listed' := (Dm.bits 30 1048575)) (fun _ _ h hx => h.ext hx) HI (by kernel_rfl) (by kernel_rfl) rfl (fun _ _ _ _ h => h) ?_; apply Exists.intro; refine And.intro (fun wq hwq => ?_) ?_
    ·obtain ⟨q0, q1, q2, q3, q4⟩ := hwq; go_big_quiet_step ((go_at_call 136; with_reducible first | exact Calls.quietE (T7.out _) | exact Calls.quietE (T18.out _) | exact Calls.quietE (T17.out _) | exact Calls.quietE (T19.out _))); exact wpQuiet_nil rfl
    refine Dm.wpF_take (i := 20) (listed' := (Dm.bits 30 2097151)) (fun _ _ h hx => h.ext hx) HI (by kernel_rfl) (by kernel_rfl) rfl (fun _ _ _ _ h => h) ?_; apply Exists.intro; refine And.intro (fun wq hwq => ?_) ?_
    ·obtain ⟨q0, q1, q2, q3, q4⟩ := hwq; go_big_quiet_step ((go_at_call 136; with_reducible first | exact Calls.quietE (T7.out _) | exact Calls.quietE (T18.out _) | exact Calls.quietE (T17.out _) | exact Calls.quietE (T19.out _))); exact wpQuiet_nil rfl
    refine Dm.wpF_take (i := 21) (listed' := (Dm.bits 30 4194303)) (fun _ _ h hx => h.ext hx) HI (by kernel_rfl) (by kernel_rfl) rfl (fun _ _ _ _ h => h) ?_; apply Exists.intro; refine And.intro (fun wq hwq => ?_) ?_
    ·obtain ⟨q0, q1, q2, q3, q4⟩ := hwq; go_big_quiet_step ((go_at_call 136; with_reducible first | exact Calls.quietE (T7.out _) | exact Calls.quietE (T18.out _) | exact Calls.quietE (T17.out _) | exact Calls.quietE (T19.out _))); exact wpQuiet_nil rfl
    refine Dm.wpF_take (i := 22) (listed' := (Dm.bits 30 8388607)) (fun _ _ h hx => h.ext hx) HI (by kernel_rfl) (by kernel_rfl) rfl (fun _ _ _ _ h => h) ?_; apply Exists.intro; refine And.intro (fun wq hwq => ?_) ?_
    ·obtain ⟨q0, q1, q2, q3, q4⟩ := hwq; go_big_quiet_step ((go_at_call 136; with_reducible first | exact Calls.quietE (T7.out _) | exact Calls.quietE (T18.out _) | exact Calls.quietE (T17.out _) | exact Calls.quietE (T19.out _))); exact wpQuiet_nil rfl
    refine Dm.wpF_take (i := 23) (listed' := (Dm.bits 30 16777215)) (fun _ _ h hx => h.ext hx) HI (by kernel_rfl) (by kernel_rfl) rfl (fun _ _ _ _ h => h) ?_; apply Exists.intro; refine And.intro (fun wq hwq => ?_) ?_
    ·obtain ⟨q0, q1, q2, q3, q4⟩ := hwq; go_big_quiet_step ((go_at_call 136; with_reducible first | exact Calls.quietE (T7.out _) | exact Calls.quietE (T18.out _) | exact Calls.quietE (T17.out _) | exact Calls.quietE (T19.out _))); exact wpQuiet_nil rfl
    refine Dm.wpF_take (i := 24) (listed' := (Dm.bits 30 33554431)) (fun _ _ h hx => h.ext hx) HI (by kernel_rfl) (by kernel_rfl) rfl (fun _ _ _ _ h => h) ?_; apply Exists.intro; refine And.intro (fun wq hwq => ?_) ?_
    ·obtain ⟨q0, q1, q2, q3, q4⟩ := hwq; go_big_quiet_step ((go_at_call 136; with_reducible first | exact Calls.quietE (T7.out _) | exact Calls.quietE (T18.out _) | exact Calls.quietE (T17.out _) | exact Calls.quietE (T19.out _))); exact wpQuiet_nil rfl
    refine Dm.wpF_take (i := 25) (listed' := (Dm.bits 30 67108863)) (fun _ _ h hx => h.ext hx) HI (by kernel_rfl) (by kernel_rfl) rfl (fun _ _ _ _ h => h) ?_; apply Exists.intro; refine And.intro (fun wq hwq => ?_) ?_
    ·obtain ⟨q0, q1, q2, q3, q4⟩ := hwq; go_big_quiet_step ((go_at_call 136; with_reducible first | exact Calls.quietE (T7.out _) | exact Calls.quietE (T18.out _) | exact Calls.quietE (T17.out _) | exact Calls.quietE (T19.out _))); exact wpQuiet_nil rfl
    refine Dm.wpF_take (i := 26) (listed' := (Dm.bits 30 134217727)) (fun _ _ h hx => h.ext hx) HI (by kernel_rfl) (by kernel_rfl) rfl (fun _ _ _ _ h => h) ?_; apply Exists.intro; refine And.intro (fun wq hwq => ?_) ?_
    ·obtain ⟨q0, q1, q2, q3, q4⟩ := hwq; go_big_quiet_step ((go_at_call 136; with_reducible first | exact Calls.quietE (T7.out _) | exact Calls.quietE (T18.out _) | exact Calls.quietE (T17.out _) | exact Calls.quietE (T19.out _))); exact wpQuiet_nil rfl
    refine Dm.wpF_take (i := 27) (listed' := (Dm.bits 30 268435455)) (fun _ _ h hx => h.ext hx) HI (by kernel_rfl) (by kernel_rfl) rfl (fun _ _ _ _ h => h) ?_; apply Exists.intro; refine And.intro (fun wq hwq => ?_) ?_
    ·obtain ⟨q0, q1, q2, q3, q4⟩ := hwq; go_big_quiet_step ((go_at_call 136; with_reducible first | exact Calls.quietE (T7.out _) | exact Calls.quietE (T18.out _) | exact Calls.quietE (T17.out _) | exact Calls.quietE (T19.out _))); exact wpQuiet_nil rfl
    refine Dm.wpF_take (i := 28) (listed' := (Dm.bits 30 536870911)) (fun _ _ h hx => h.ext hx) HI (by kernel_rfl) (by kernel_rfl) rfl (fun _ _ _ _ h => h) ?_; apply Exists.intro; refine And.intro (fun wq hwq => ?_) ?_
    ·obtain ⟨q0, q1, q2, q3, q4⟩ := hwq; go_big_quiet_step ((go_at_call 136; with_reducible first | exact Calls.quietE (T7.out _) | exact Calls.quietE (T18.out _) | exact Calls.quietE (T17.out _) | exact Calls.quietE (T19.out _))); exact wpQuiet_nil rfl
    refine Dm.wpF_one (i := 29) (listed' := (Dm.bits 30 1073741823)) (by kernel_rfl) (by kernel_rfl) rfl (fun wz hxz => ?_)
    have cC := (h4.ext hxz).cell hCl
    have fC := (h4.ext hxz).free k
    have lC := (h4.ext hxz).lt
    go_wp2_with fail
    first | refine ⟨fun h => absurd rfl h, ?_⟩ | skip
    refine Dm.wpF_done (by kernel_rfl) (fun wy hxy => ?_)
    clear cC fC lC HI
    have hxy : Ext (wz.setCell ⟨bC, k, none⟩ (.int .u32 (madeW za zx zb zy))) wy := hxy
    have g4 := hnew.out ▸ (h4.ext hxz).set k (madeW za zx zb zy)
    have g4 := AB.ext g4 hxy
    rw [← hWN.out] at g4
    have g3 := ((h3.ext hxz).far (c := bC) (i := k) (by omega) (.int .u32 (madeW za zx zb zy))).ext hxy
    have g2 := ((h2.ext hxz).far (c := bC) (i := k) (by omega) (.int .u32 (madeW za zx zb zy))).ext hxy
    have g1 := Ext.trans (show Ext w (wz.setCell ⟨bC, k, none⟩ (.int .u32 (madeW za zx zb zy))) from Below.setCell (h1.trans hxz) (by show _ ≤ bC; omega) _) hxy
    clear h1 h2 h3 h4 hxz hxy hnew e15 e2 e16 e7 hX1a
    go_wp2
    go_roundw
    case rel => exact ⟨k + 1, by omega, by go_num, g1, g2, g3, g4⟩
    case measure => simp [intOf]; omega
  ·have hge : ¬ ((k : Int) < 64) := by omega
   have h4 : AB bC 202 .u32 (wordsW B 64) wr := by
    have e : k = 64 := by omega
    rw [e, Nat.sub_self, List.replicate_zero, List.append_nil] at h4
    exact h4
   have hlen := wordsW_len B 64
   obtain ⟨WF, hWF⟩ : ∃ WF, wordsW B 64 = WF := ⟨_, rfl⟩
   rw [hWF] at h4 hlen
   replace hWF := Lib.hid hWF
   have sF : (cellsI .u32 WF).size = 64 := by rw [size_cellsI]; exact hlen
   have sR : (cellsI .u32 (List.replicate 64 0)).size = 64 := by rw [size_cellsI]; rfl
   have hout := h3.setRow WF
   have hxo : Ext w (wr.setRow bR (cellsI .u32 WF)) := Ext.setRow h1 (by omega) _
   go_wp2_with (first | (refine wpList_load_row rfl _ _ rfl bC rfl _ _ _ _ h4 Tryz.underlying202 rfl (by rw [sF]; kernel_rfl) ?_) | (refine wpList_store_row rfl _ _ _ rfl bR _ rfl rfl _ _ h3 (by rw [sF]; kernel_rfl) (by rw [sF, sR]) (one_cellsI _ _) ?_))
   refine bodyPost_ret (v := .agg (cellsI .u32 WF)) (results_cell_row rfl _ _ _ _ _ _ _ rfl hout Tryz.underlying202 rfl (by rw [sF]; kernel_rfl)) rfl ?_
   exact ⟨by rw [hWF.out], hxo⟩
end Go.Proofs.YtefjdmjkofaajaaGreatDoor
