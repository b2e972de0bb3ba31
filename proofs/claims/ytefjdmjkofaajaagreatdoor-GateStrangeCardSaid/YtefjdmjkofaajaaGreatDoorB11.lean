/- Texts one behind the other: Chapter 6: the walk of padded. -/
import Derived.Test.YtefjdmjkofaajaaGreatDoorB9
import Derived.Test.YtefjdmjkofaajaaGreatDoorB14
import Derived.Test.YtefjdmjkofaajaaGreatDoorB15
namespace Go.Proofs.YtefjdmjkofaajaaGreatDoor
open Go.RowKit Go.Dm

set_option maxHeartbeats 1000000 in
set_option maxRecDepth 100000 in
theorem padded_w (s : ByteArray) (hs : s.size ≤ 281474976710656) (w : World) :
  Calls Tryz.prog 107 #[.string s] w fun e w' => e = .returned (.string ⟨(padB s.data.toList).toArray⟩) ∧ Ext w w' := by
 have hA : AB w.heap.size 200 .u8 (List.replicate 8 0) (w.alloc (.cells #[.int .u8 0, .int .u8 0, .int .u8 0, .int .u8 0, .int .u8 0, .int .u8 0, .int .u8 0, .int .u8 0] 200)) := AB.new w 200 .u8 (List.replicate 8 0)
 have hE : Ext w (w.alloc (.cells #[.int .u8 0, .int .u8 0, .int .u8 0, .int .u8 0, .int .u8 0, .int .u8 0, .int .u8 0, .int .u8 0] 200)) := (Ext.refl _).alloc _
 generalize hW1 : w.alloc (.cells #[.int .u8 0, .int .u8 0, .int .u8 0, .int .u8 0, .int .u8 0, .int .u8 0, .int .u8 0, .int .u8 0] 200) = w1 at *
 obtain ⟨bA, hbA⟩ : ∃ x, x = w.heap.size := ⟨_, rfl⟩
 have hwA : w.heap.size ≤ bA := by omega
 rw [← hbA] at hA
 replace hbA := hbA.symm
 obtain ⟨z, hz⟩ : ∃ z : Nat, z = (119 - s.size % 64) % 64 := ⟨_, rfl⟩
 obtain ⟨n, hn⟩ : ∃ n : Nat, n = s.size * 8 := ⟨_, rfl⟩
 have hz1 : (119 - (s.size : Int) % 64) % 64 = (z : Int) := by omega
 have hz2 : Int.tmod (s.size : Int) 64 = (s.size : Int) % 64 := Int.tmod_eq_emod_of_nonneg (by omega)
 have hz3 : Int.tmod (119 - (s.size : Int) % 64) 64 = (z : Int) := by rw [Int.tmod_eq_emod_of_nonneg (by omega)]; exact hz1
 have hn1 : (s.size : Int) * 8 = (n : Int) := by omega
 have hn2 : n ≤ 18446744073709551615 := by omega
 replace hz := Lib.hid hz
 replace hn := Lib.hid hn
 clear hz1
 go_enter Tryz.func107, Tryz.ntmps107
 go_upto_region 4 with fail
 clear hW1 hbA hz2 hz3 hn1
 go_wp2
 go_loopw [16] (fun i wr => ∃ k : Nat, k ≤ 8 ∧ i = .int .i64 k ∧ Ext w wr ∧ AB bA 200 .u8 (oct n k) wr) (fun i _ => 8 - (intOf i).toNat)
 case atStart => exact ⟨0, by omega, rfl, hE, hA⟩
 case round =>
  obtain ⟨k, hk, rfl, h1, h2⟩ := hrel
  by_cases hlt : k < 8
  ·have hst := oct_set n hlt
   have hcl : k < (oct n k).length := by rw [oct_len n hk]; exact hlt
   have cA := h2.cell hcl
   have fA := h2.free k
   have lA := h2.lt
   have e1 : IntKind.i64.wrap (7 - (k : Int)) = ((7 - k : Nat) : Int) := by rw [IntKind.wrap_i64]; omega
   go_upto_region 7 with fail
   go_wp2
   go_roundw
   case rel => exact ⟨k + 1, by omega, by go_num, Below.setCell h1 (by show _ ≤ bA; omega) _, hst ▸ h2.set k _⟩
   case measure => simp [intOf]; omega
  ·have hge : ¬ ((k : Int) < 8) := by omega
   have h2 : AB bA 200 .u8 ((be8 n).map (fun b => (b.toNat : Int))) wr := by
    have e : k = 8 := by omega
    rw [e, oct_all] at h2
    exact h2
   have hpad : padB s.data.toList = s.data.toList ++ 128 :: (List.replicate z 0 ++ be8 n) := by rw [hz.out, hn.out]; rfl
   have hSl : Sl wr 1 (.slice (some ⟨bA, 0, none⟩) 8 8) 8 (bCells (be8 n)) := by
    have h := Sl.of_block (vs := bCells (be8 n)) (n := 8) (sz := 1) (show wr.heap[bA]? = _ from h2) rfl (by simp [maxLen])
    exact h
   have hz64 : z ≤ 63 := by have := hz.out; omega
   have RP := fun U => Tryz.strings_Repeat ⟨#[0]⟩ z U (by omega) (by show 1 * z ≤ _; omega)
   have hrz : (⟨(Lib.repeatL (⟨#[0]⟩ : ByteArray).data.toList z).toArray⟩ : ByteArray) = ⟨(List.replicate z 0).toArray⟩ := by
    congr 2
    exact repeat_one 0 z
   rw [hrz] at RP
   generalize hzr : (⟨(List.replicate z 0).toArray⟩ : ByteArray) = zr at *
   have hzl : zr.size = z := by rw [← hzr]; exact List.length_replicate
   replace RP := Lib.hid RP
   replace hpad := Lib.hid hpad
   replace hzr := Lib.hid hzr
   obtain ⟨oc, hoc⟩ : ∃ oc : ByteArray, oc = ⟨(be8 n).toArray⟩ := ⟨_, rfl⟩
   have CV := fun U (h : Sl U 1 (.slice (some ⟨bA, 0, none⟩) 8 8) 8 (bCells (be8 n))) => run_string_sl (P := Tryz.prog) Tryz.underlying70 Tryz.underlying5 Tryz.underlying9 h (show 8 = (be8 n).length from rfl) (by simp [be8])
   have CW := fun U p (h : Sl U 1 p 1 (bCells [128])) => run_string_sl (P := Tryz.prog) Tryz.underlying70 Tryz.underlying5 Tryz.underlying9 h (show 1 = ([128] : Bs).length from rfl) (by simp)
   rw [← hoc] at CV
   have hol : oc.size = 8 := by rw [hoc]; rfl
   replace CV := Lib.hid CV
   replace CW := Lib.hid CW
   replace hoc := Lib.hid hoc
   replace hSl := Lib.hid hSl
   go_upto_region 9 with fail
   try simp only [Act.put, List.setIfInBounds_toArray, List.set_cons_succ, List.set_cons_zero]
   refine Dm.wp_region_ext 11 (Dm.bits 11 0) (Ext.refl wr) (by kernel_rfl) (by kernel_rfl) (by kernel_rfl) ?_
   refine Dm.wpE_take (i := 0) (listed' := (Dm.bits 11 1)) (by kernel_rfl) (by kernel_rfl) rfl (fun _ _ _ _ h => h) ?_; apply Exists.intro; refine And.intro (fun x => ?_) ?_
   ·go_big_quiet_step ((go_at_call 134; with_reducible exact Calls.quietE (RP.out _))); exact wpQuiet_nil rfl
   refine Dm.wpE_take (i := 4) (listed' := (Dm.bits 11 17)) (by kernel_rfl) (by kernel_rfl) rfl (fun _ _ _ _ h => h) ?_; apply Exists.intro; refine And.intro (fun x => ?_) ?_
   ·go_big_quiet_step ((go_at_call 134; with_reducible exact Calls.quietE (RP.out _))); exact wpQuiet_nil rfl
   refine Dm.wpE_take (i := 5) (listed' := (Dm.bits 11 49)) (by kernel_rfl) (by kernel_rfl) rfl (fun _ _ _ _ h => h) ?_; apply Exists.intro; refine And.intro (fun x => ?_) ?_
   ·go_big_quiet_step ((go_at_call 134; with_reducible exact Calls.quietE (RP.out _))); exact wpQuiet_nil rfl
   refine Dm.wpE_take (i := 7) (listed' := (Dm.bits 11 177)) (by kernel_rfl) (by kernel_rfl) rfl (fun _ _ _ _ h => h) ?_; apply Exists.intro; refine And.intro (fun x => ?_) ?_
   ·go_big_quiet_step ((go_at_call 134; with_reducible exact Calls.quietE (RP.out _))); exact wpQuiet_nil rfl
   refine Dm.wpE_two (i := 1) (j := 8) (li := (Dm.bits 11 179)) (lj := (Dm.bits 11 433)) (by kernel_rfl) (by kernel_rfl) (by kernel_rfl) rfl rfl (Ext.refl wr) (fun w1a hx1a => ?_) (fun w1a hx1a => ?_)
   ·
    have hX1a := Ext.trans (Ext.refl wr) hx1a
    go_wp2_with fail
    have hs1 : Ext w1a (w1a.alloc (.cells #[.int .u8 128] 5)) := (Ext.refl _).alloc _
    have hb1 : Sl (w1a.alloc (.cells #[.int .u8 128] 5)) 1 (.slice (some ⟨w1a.heap.size, 0, none⟩) 1 1) 1 (bCells [128]) := Sl.lit w1a 5 1 1 #[.int .u8 128] rfl (by simp [maxLen])
    have hX1b := Ext.trans hX1a hs1
    generalize w1a.alloc (.cells #[.int .u8 128] 5) = w1b at *
    generalize w1a.heap.size = b1 at *
    try simp only [Exit.then, Act.put, List.setIfInBounds_toArray, List.set_cons_succ, List.set_cons_zero]
    refine Dm.wpE_two (i := 2) (j := 8) (li := (Dm.bits 11 183)) (lj := (Dm.bits 11 435)) (by kernel_rfl) (by kernel_rfl) (by kernel_rfl) rfl rfl hX1b (fun w2a hx2a => ?_) (fun w2a hx2a => ?_)
    ·
     have hX2a := Ext.trans hX1b hx2a
     replace hb1 := hb1.ext hx2a
     have cw := CW.out w2a _ hb1
     go_wp2_with fail
     clear cw
     obtain ⟨w2b, hw2⟩ : ∃ x, x = w2a := ⟨_, rfl⟩
     subst hw2
     have hX2b := hX2a
     try simp only [Exit.then, Act.put, List.setIfInBounds_toArray, List.set_cons_succ, List.set_cons_zero]
     refine Dm.wpE_take (i := 3) (listed' := (Dm.bits 11 191)) (by kernel_rfl) (by kernel_rfl) rfl (fun _ _ _ _ h => h) ?_; apply Exists.intro; refine And.intro (fun x => ?_) ?_
     ·go_big_quiet_step ((go_at_call 134; with_reducible exact Calls.quietE (RP.out _))); exact wpQuiet_nil rfl
     refine Dm.wpE_take (i := 6) (listed' := (Dm.bits 11 255)) (by kernel_rfl) (by kernel_rfl) rfl (fun _ _ _ _ h => h) ?_; apply Exists.intro; refine And.intro (fun x => ?_) ?_
     ·go_big_quiet_step ((go_at_call 134; with_reducible exact Calls.quietE (RP.out _))); exact wpQuiet_nil rfl
     refine Dm.wpE_one (i := 8) (listed' := (Dm.bits 11 511)) (by kernel_rfl) (by kernel_rfl) rfl hX2b (fun w3a hx3a => ?_)
     have hX3a := Ext.trans hX2b hx3a
     have cv := CV.out w3a (hSl.out.ext hX3a)
     go_wp2_with fail
     clear cv
     obtain ⟨w3b, hw2⟩ : ∃ x, x = w3a := ⟨_, rfl⟩
     subst hw2
     have hX3b := hX3a
     try simp only [Exit.then, Act.put, List.setIfInBounds_toArray, List.set_cons_succ, List.set_cons_zero]
     refine Dm.wpE_take (i := 9) (listed' := (Dm.bits 11 1023)) (by kernel_rfl) (by kernel_rfl) rfl (fun _ _ _ _ h => h) ?_; apply Exists.intro; refine And.intro (fun x => ?_) ?_
     ·go_big_quiet_step ((go_at_call 134; with_reducible exact Calls.quietE (RP.out _))); exact wpQuiet_nil rfl
     refine Dm.wpE_take (i := 10) (listed' := (Dm.bits 11 2047)) (by kernel_rfl) (by kernel_rfl) rfl (fun _ _ _ _ h => h) ?_; apply Exists.intro; refine And.intro (fun x => ?_) ?_
     ·go_big_quiet_step ((go_at_call 134; with_reducible exact Calls.quietE (RP.out _))); exact wpQuiet_nil rfl
     refine Dm.wpE_done (by kernel_rfl) hX3b (fun w4a hx4a => ?_)
     have hX4a := Ext.trans hX3b hx4a
     go_wp2
     go_ret
     refine ⟨?_, h1.trans hX4a⟩
     show Ending.returned (Value.string (s ++ ⟨#[128]⟩ ++ zr ++ oc)) = _
     rw [hpad.out]
     refine congrArg (fun x => Ending.returned (Value.string x)) (mk_bytes ?_)
     rw [data_append, data_append, data_append, hoc.out, ← hzr.out]
     simp
    ·
     have hX2a := Ext.trans hX1b hx2a
     replace hb1 := hb1.ext hx2a
     have cv := CV.out w2a (hSl.out.ext hX2a)
     go_wp2_with fail
     clear cv
     obtain ⟨w2b, hw2⟩ : ∃ x, x = w2a := ⟨_, rfl⟩
     subst hw2
     have hX2b := hX2a
     try simp only [Exit.then, Act.put, List.setIfInBounds_toArray, List.set_cons_succ, List.set_cons_zero]
     refine Dm.wpE_one (i := 2) (listed' := (Dm.bits 11 439)) (by kernel_rfl) (by kernel_rfl) rfl hX2b (fun w5a hx5a => ?_)
     have hX5a := Ext.trans hX2b hx5a
     replace hb1 := hb1.ext hx5a
     have cw := CW.out w5a _ hb1
     go_wp2_with fail
     clear cw
     obtain ⟨w5b, hw2⟩ : ∃ x, x = w5a := ⟨_, rfl⟩
     subst hw2
     have hX5b := hX5a
     try simp only [Exit.then, Act.put, List.setIfInBounds_toArray, List.set_cons_succ, List.set_cons_zero]
     refine Dm.wpE_take (i := 3) (listed' := (Dm.bits 11 447)) (by kernel_rfl) (by kernel_rfl) rfl (fun _ _ _ _ h => h) ?_; apply Exists.intro; refine And.intro (fun x => ?_) ?_
     ·go_big_quiet_step ((go_at_call 134; with_reducible exact Calls.quietE (RP.out _))); exact wpQuiet_nil rfl
     refine Dm.wpE_take (i := 6) (listed' := (Dm.bits 11 511)) (by kernel_rfl) (by kernel_rfl) rfl (fun _ _ _ _ h => h) ?_; apply Exists.intro; refine And.intro (fun x => ?_) ?_
     ·go_big_quiet_step ((go_at_call 134; with_reducible exact Calls.quietE (RP.out _))); exact wpQuiet_nil rfl
     refine Dm.wpE_take (i := 9) (listed' := (Dm.bits 11 1023)) (by kernel_rfl) (by kernel_rfl) rfl (fun _ _ _ _ h => h) ?_; apply Exists.intro; refine And.intro (fun x => ?_) ?_
     ·go_big_quiet_step ((go_at_call 134; with_reducible exact Calls.quietE (RP.out _))); exact wpQuiet_nil rfl
     refine Dm.wpE_take (i := 10) (listed' := (Dm.bits 11 2047)) (by kernel_rfl) (by kernel_rfl) rfl (fun _ _ _ _ h => h) ?_; apply Exists.intro; refine And.intro (fun x => ?_) ?_
     ·go_big_quiet_step ((go_at_call 134; with_reducible exact Calls.quietE (RP.out _))); exact wpQuiet_nil rfl
     refine Dm.wpE_done (by kernel_rfl) hX5b (fun w6a hx6a => ?_)
     have hX6a := Ext.trans hX5b hx6a
     go_wp2
     go_ret
     refine ⟨?_, h1.trans hX6a⟩
     show Ending.returned (Value.string (s ++ ⟨#[128]⟩ ++ zr ++ oc)) = _
     rw [hpad.out]
     refine congrArg (fun x => Ending.returned (Value.string x)) (mk_bytes ?_)
     rw [data_append, data_append, data_append, hoc.out, ← hzr.out]
     simp
   ·
    have hX1a := Ext.trans (Ext.refl wr) hx1a
    have cv := CV.out w1a (hSl.out.ext hX1a)
    go_wp2_with fail
    clear cv
    obtain ⟨w1b, hw2⟩ : ∃ x, x = w1a := ⟨_, rfl⟩
    subst hw2
    have hX1b := hX1a
    try simp only [Exit.then, Act.put, List.setIfInBounds_toArray, List.set_cons_succ, List.set_cons_zero]
    refine Dm.wpE_one (i := 1) (listed' := (Dm.bits 11 435)) (by kernel_rfl) (by kernel_rfl) rfl hX1b (fun w7a hx7a => ?_)
    have hX7a := Ext.trans hX1b hx7a
    go_wp2_with fail
    have hs7 : Ext w7a (w7a.alloc (.cells #[.int .u8 128] 5)) := (Ext.refl _).alloc _
    have hb1 : Sl (w7a.alloc (.cells #[.int .u8 128] 5)) 1 (.slice (some ⟨w7a.heap.size, 0, none⟩) 1 1) 1 (bCells [128]) := Sl.lit w7a 5 1 1 #[.int .u8 128] rfl (by simp [maxLen])
    have hX7b := Ext.trans hX7a hs7
    generalize w7a.alloc (.cells #[.int .u8 128] 5) = w7b at *
    generalize w7a.heap.size = b1 at *
    try simp only [Exit.then, Act.put, List.setIfInBounds_toArray, List.set_cons_succ, List.set_cons_zero]
    refine Dm.wpE_one (i := 2) (listed' := (Dm.bits 11 439)) (by kernel_rfl) (by kernel_rfl) rfl hX7b (fun w8a hx8a => ?_)
    have hX8a := Ext.trans hX7b hx8a
    replace hb1 := hb1.ext hx8a
    have cw := CW.out w8a _ hb1
    go_wp2_with fail
    clear cw
    obtain ⟨w8b, hw2⟩ : ∃ x, x = w8a := ⟨_, rfl⟩
    subst hw2
    have hX8b := hX8a
    try simp only [Exit.then, Act.put, List.setIfInBounds_toArray, List.set_cons_succ, List.set_cons_zero]
    refine Dm.wpE_take (i := 3) (listed' := (Dm.bits 11 447)) (by kernel_rfl) (by kernel_rfl) rfl (fun _ _ _ _ h => h) ?_; apply Exists.intro; refine And.intro (fun x => ?_) ?_
    ·go_big_quiet_step ((go_at_call 134; with_reducible exact Calls.quietE (RP.out _))); exact wpQuiet_nil rfl
    refine Dm.wpE_take (i := 6) (listed' := (Dm.bits 11 511)) (by kernel_rfl) (by kernel_rfl) rfl (fun _ _ _ _ h => h) ?_; apply Exists.intro; refine And.intro (fun x => ?_) ?_
    ·go_big_quiet_step ((go_at_call 134; with_reducible exact Calls.quietE (RP.out _))); exact wpQuiet_nil rfl
    refine Dm.wpE_take (i := 9) (listed' := (Dm.bits 11 1023)) (by kernel_rfl) (by kernel_rfl) rfl (fun _ _ _ _ h => h) ?_; apply Exists.intro; refine And.intro (fun x => ?_) ?_
    ·go_big_quiet_step ((go_at_call 134; with_reducible exact Calls.quietE (RP.out _))); exact wpQuiet_nil rfl
    refine Dm.wpE_take (i := 10) (listed' := (Dm.bits 11 2047)) (by kernel_rfl) (by kernel_rfl) rfl (fun _ _ _ _ h => h) ?_; apply Exists.intro; refine And.intro (fun x => ?_) ?_
    ·go_big_quiet_step ((go_at_call 134; with_reducible exact Calls.quietE (RP.out _))); exact wpQuiet_nil rfl
    refine Dm.wpE_done (by kernel_rfl) hX8b (fun w9a hx9a => ?_)
    have hX9a := Ext.trans hX8b hx9a
    go_wp2
    go_ret
    refine ⟨?_, h1.trans hX9a⟩
    show Ending.returned (Value.string (s ++ ⟨#[128]⟩ ++ zr ++ oc)) = _
    rw [hpad.out]
    refine congrArg (fun x => Ending.returned (Value.string x)) (mk_bytes ?_)
    rw [data_append, data_append, data_append, hoc.out, ← hzr.out]
    simp
end Go.Proofs.YtefjdmjkofaajaaGreatDoor
