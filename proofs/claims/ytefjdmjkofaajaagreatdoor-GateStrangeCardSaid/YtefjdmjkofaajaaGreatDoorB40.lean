/- Texts one behind the other: Chapter 18: the walk of Get (IC); Chapter 18: the walk of Get, whole; Chapter 19: the walk of Needs. -/
import Derived.Test.YtefjdmjkofaajaaGreatDoorB37
import Derived.Test.YtefjdmjkofaajaaGreatDoorB32
import Derived.Test.YtefjdmjkofaajaaGreatDoorB38
import Derived.Test.YtefjdmjkofaajaaGreatDoorB39
namespace Go.Proofs.YtefjdmjkofaajaaGreatDoor
open Go.RowKit Go.Dm

set_option maxHeartbeats 4000000 in
set_option maxRecDepth 100000 in
theorem aget_c0 (s : ByteArray) (p : Int) (w : World) (hs : s.size ≤ 281474976710656) (hv : Vars w) (hok : (getI s.data.toList p).2.2 = true) (h13 : (getI s.data.toList p).1 ≤ 13) (hfd : (knownF ((getI s.data.toList p).1 : Nat)).getD noFld = (false, false, false, false, true, false)) :
  Calls Tryz.prog 40 #[.string s, .int .i64 p] w fun e_ w' => GotO w.heap.size w' (finO (rdF s.data.toList (false, false, false, false, true, false) ((getI s.data.toList p).1 : Nat) (getI s.data.toList p).2.1)) e_ ∧ Ext w w' := by
 have hU : U64 s.data.toList.length := Nat.lt_of_le_of_lt (show s.size ≤ _ from hs) (by decide)
 have C1 := fun U => wget_w s p U hs
 have hkf := getI_fit (l := s.data.toList) (p := p) hs
 obtain ⟨⟨k, q, b⟩, hr⟩ : ∃ r, getI s.data.toList p = r := ⟨_, rfl⟩
 rw [hr] at C1 hok h13 hfd hkf ⊢
 simp only at C1 hok h13 hfd hkf ⊢
 subst hok
 clear hr
 have hk : -9223372036854775808 ≤ (k : Int) ∧ (k : Int) ≤ 9223372036854775807 := by omega
 have CK := fun U => aknown_w U
 have hlook := fun (U : World) B (h : MapK U B 13 knownF) => h.look1 hk
 rw [hfd] at hlook
 unfold fldV at hlook
 simp only at hlook
 clear hfd
 have CX := fun U (h : Ext w U) => xgetO_w s q U hs (hv.ext h)
 obtain ⟨⟨⟨xs, xd, xm, xt⟩, qx, bx⟩, rx⟩ : ∃ r, getX s.data.toList q = r := ⟨_, rfl⟩
 rw [rx] at CX
 unfold GotXO spVal at CX
 simp only at CX
 have hxo : bx = true → xs.size ≤ 98 := fun h => by
  have h2 := (getX_iff hU).1 (show getX s.data.toList q = ((xs, xd, xm, xt), qx, true) from h ▸ rx)
  have h3 := (under_short (chkX_iff.1 h2.1).1).1
  exact h3
 obtain ⟨G, hGd⟩ : ∃ g, rdF s.data.toList (false, false, false, false, true, false) ((k : Nat) : Int) q = g := ⟨_, rfl⟩
 rw [hGd]
 replace hGd := Lib.hid hGd
 replace CK := Lib.hid CK
 replace C1 := Lib.hid C1
 replace hlook := Lib.hid hlook
 replace CX := Lib.hid CX
 obtain ⟨w1, hW1, hA, hE, -⟩ := new_row w 33 [.int .i64 0, .int .u64 0, .int .u64 0, .string ⟨#[]⟩, .int .u64 0, .int .u64 0, .int .u64 0, .int .u64 0, .string ⟨#[]⟩, .int .u64 0, .int .u64 0, .int .u64 0, .int .u64 0, .int .i64 0, .int .i64 0, .int .i64 0, .slice none 0 0, .slice none 0 0]
 obtain ⟨bA, hbA⟩ : ∃ x, w.heap.size = x := ⟨_, rfl⟩
 have hwA : w.heap.size ≤ bA := by omega
 rw [hbA] at hA
 go_enter Tryz.func40, Tryz.ntmps40
 go_upto_region 1 with fail
 clear hW1 hbA
 go_wp2_with fail
 refine (C1.out _).mono ?_; rintro e_ w2 ⟨rfl, h2⟩
 replace hA := hA.ext h2
 replace hE := hE.trans h2
 clear h2
 have al := hA.lt
 have a0 : w2.cell? ⟨bA, 0, none⟩ = some (.int .i64 0) := hA.cell 0
 have af0 := hA.free 0
 go_upto_region 5 with fail
 clear al a0 af0
 have hA' : RB bA 33 [.int .i64 (k : Nat), .int .u64 0, .int .u64 0, .string ⟨#[]⟩, .int .u64 0, .int .u64 0, .int .u64 0, .int .u64 0, .string ⟨#[]⟩, .int .u64 0, .int .u64 0, .int .u64 0, .int .u64 0, .int .i64 0, .int .i64 0, .int .i64 0, .slice none 0 0, .slice none 0 0] (w2.setCell ⟨bA, 0, none⟩ (.int .i64 (k : Nat))) := hA.set 0 (.int .i64 (k : Nat))
 have hE' : Ext w (w2.setCell ⟨bA, 0, none⟩ (.int .i64 (k : Nat))) := Below.setCell hE (p := ⟨bA, 0, none⟩) hwA _
 clear hA hE
 have hA := hA'
 have hE := hE'
 clear hA' hE'
 generalize w2.setCell ⟨bA, 0, none⟩ (.int .i64 (k : Nat)) = w3 at *
 have al := hA.lt
 have a0 : w3.cell? ⟨bA, 0, none⟩ = some (.int .i64 (k : Nat)) := hA.cell 0
 refine region_cut (fun a_ a' w' => ∃ bM bF : Nat, a' = ((((a_.put (some 26) (.map (some bM))).put (some 27) (.pointer (some ⟨bA, 0, none⟩))).put (some 28) (.int .i64 (k : Nat))).put (some 29) (.agg #[.bool false, .bool false, .bool false, .bool false, .bool true, .bool false])).put (some 8) (.pointer (some ⟨bF, 0, none⟩)) ∧ RB bF 108 [.bool false, .bool false, .bool false, .bool false, .bool true, .bool false] w' ∧ w3.heap.size ≤ bF ∧ Ext w3 w') ?_ ?_
 ·skip
  try simp only [Act.put, List.setIfInBounds_toArray, List.set_cons_succ, List.set_cons_zero]
  refine Dm.wp_region_ext 6 (Dm.bits 6 0) (Ext.refl w3) (by kernel_rfl) (by kernel_rfl) (by kernel_rfl) ?_
  refine Dm.wpE_take (i := 1) (listed' := (Dm.bits 6 2)) (by kernel_rfl) (by kernel_rfl) rfl (fun _ _ _ _ h => h) ?_; apply Exists.intro; refine And.intro (fun x => ?_) ?_
  ·go_big_quiet_step (fail); exact wpQuiet_nil rfl
  refine Dm.wpE_take (i := 2) (listed' := (Dm.bits 6 6)) (by kernel_rfl) (by kernel_rfl) rfl (fun _ _ _ _ h => h) ?_; apply Exists.intro; refine And.intro (fun x => ?_) ?_
  ·go_big_quiet_step (fail); exact wpQuiet_nil rfl
  refine Dm.wpE_two (i := 0) (j := 4) (li := (Dm.bits 6 7)) (lj := (Dm.bits 6 22)) (by kernel_rfl) (by kernel_rfl) (by kernel_rfl) rfl rfl (Ext.refl w3) (fun w1a hx1a => ?_) (fun w1a hx1a => ?_)
  ·
   have hX1a := Ext.trans (Ext.refl w3) hx1a
   go_wp2_with (go_at_call 55; go_must (refine (CK.out w1a).mono ?_; rintro e_ w1b ⟨bM, rfl, hM, hs1⟩))
   have hX1b := Ext.trans hX1a hs1
   try simp only [Exit.then, Act.put, List.setIfInBounds_toArray, List.set_cons_succ, List.set_cons_zero]
   refine Dm.wpE_two (i := 3) (j := 4) (li := (Dm.bits 6 15)) (lj := (Dm.bits 6 23)) (by kernel_rfl) (by kernel_rfl) (by kernel_rfl) rfl rfl hX1b (fun w2a hx2a => ?_) (fun w2a hx2a => ?_)
   ·
    have hX2a := Ext.trans hX1b hx2a
    replace hM := hM.ext hx2a
    have hlk := hlook.out _ _ hM
    go_wp2_with fail
    clear hlk hM
    obtain ⟨w2b, hw2⟩ : ∃ x, x = w2a := ⟨_, rfl⟩
    subst hw2
    have hX2b := hX2a
    try simp only [Exit.then, Act.put, List.setIfInBounds_toArray, List.set_cons_succ, List.set_cons_zero]
    refine Dm.wpE_one (i := 4) (listed' := (Dm.bits 6 31)) (by kernel_rfl) (by kernel_rfl) rfl hX2b (fun w3a hx3a => ?_)
    have hX3a := Ext.trans hX2b hx3a
    have hF : RB w3a.heap.size 108 [.bool false, .bool false, .bool false, .bool false, .bool false, .bool false] (w3a.alloc (.cells #[.bool false, .bool false, .bool false, .bool false, .bool false, .bool false] 108)) := RB.new w3a 108 [.bool false, .bool false, .bool false, .bool false, .bool false, .bool false]
    have hbF := (hX3a).size
    go_wp2_with fail
    have hs3 : Ext w3a (w3a.alloc (.cells #[.bool false, .bool false, .bool false, .bool false, .bool false, .bool false] 108)) := (Ext.refl _).alloc _
    have hX3b := Ext.trans hX3a hs3
    generalize w3a.alloc (.cells #[.bool false, .bool false, .bool false, .bool false, .bool false, .bool false] 108) = w3b at *
    generalize w3a.heap.size = bF at *
    try simp only [Exit.then, Act.put, List.setIfInBounds_toArray, List.set_cons_succ, List.set_cons_zero]
    refine Dm.wpE_one (i := 5) (listed' := (Dm.bits 6 63)) (by kernel_rfl) (by kernel_rfl) rfl hX3b (fun w4a hx4a => ?_)
    have hX4a := Ext.trans hX3b hx4a
    replace hF := hF.ext hx4a
    have hG := hF.setRow [.bool false, .bool false, .bool false, .bool false, .bool true, .bool false]
    go_wp2_with (refine wpList_store_row (cells := #[.bool false, .bool false, .bool false, .bool false, .bool true, .bool false]) rfl 108 _ _ rfl bF rfl rfl _ _ hF (by kernel_rfl) rfl (by first | rfl | decide | simp [Value.oneCell']) ?_)
    change RB bF 108 [.bool false, .bool false, .bool false, .bool false, .bool true, .bool false] (w4a.setRow bF #[.bool false, .bool false, .bool false, .bool false, .bool true, .bool false]) at hG
    have hX4b : Ext w3 (w4a.setRow bF #[.bool false, .bool false, .bool false, .bool false, .bool true, .bool false]) := Ext.setRow hX4a hbF _
    clear hF
    generalize w4a.setRow bF #[.bool false, .bool false, .bool false, .bool false, .bool true, .bool false] = w4b at *
    try simp only [Act.put]
    refine Dm.wpE_done (by kernel_rfl) hX4b (fun w5a hx5a => ?_)
    have hX5a := Ext.trans hX4b hx5a
    replace hG := hG.ext hx5a
    exact ⟨bM, bF, rfl, hG, hbF, hX5a⟩
   ·
    have hX2a := Ext.trans hX1b hx2a
    replace hM := hM.ext hx2a
    have hF : RB w2a.heap.size 108 [.bool false, .bool false, .bool false, .bool false, .bool false, .bool false] (w2a.alloc (.cells #[.bool false, .bool false, .bool false, .bool false, .bool false, .bool false] 108)) := RB.new w2a 108 [.bool false, .bool false, .bool false, .bool false, .bool false, .bool false]
    have hbF := (hX2a).size
    go_wp2_with fail
    have hs2 : Ext w2a (w2a.alloc (.cells #[.bool false, .bool false, .bool false, .bool false, .bool false, .bool false] 108)) := (Ext.refl _).alloc _
    have hX2b := Ext.trans hX2a hs2
    generalize w2a.alloc (.cells #[.bool false, .bool false, .bool false, .bool false, .bool false, .bool false] 108) = w2b at *
    generalize w2a.heap.size = bF at *
    replace hM := hM.ext hs2
    try simp only [Exit.then, Act.put, List.setIfInBounds_toArray, List.set_cons_succ, List.set_cons_zero]
    refine Dm.wpE_one (i := 3) (listed' := (Dm.bits 6 31)) (by kernel_rfl) (by kernel_rfl) rfl hX2b (fun w6a hx6a => ?_)
    have hX6a := Ext.trans hX2b hx6a
    replace hM := hM.ext hx6a
    replace hF := hF.ext hx6a
    have hlk := hlook.out _ _ hM
    go_wp2_with fail
    clear hlk hM
    obtain ⟨w6b, hw2⟩ : ∃ x, x = w6a := ⟨_, rfl⟩
    subst hw2
    have hX6b := hX6a
    try simp only [Exit.then, Act.put, List.setIfInBounds_toArray, List.set_cons_succ, List.set_cons_zero]
    refine Dm.wpE_one (i := 5) (listed' := (Dm.bits 6 63)) (by kernel_rfl) (by kernel_rfl) rfl hX6b (fun w7a hx7a => ?_)
    have hX7a := Ext.trans hX6b hx7a
    replace hF := hF.ext hx7a
    have hG := hF.setRow [.bool false, .bool false, .bool false, .bool false, .bool true, .bool false]
    go_wp2_with (refine wpList_store_row (cells := #[.bool false, .bool false, .bool false, .bool false, .bool true, .bool false]) rfl 108 _ _ rfl bF rfl rfl _ _ hF (by kernel_rfl) rfl (by first | rfl | decide | simp [Value.oneCell']) ?_)
    change RB bF 108 [.bool false, .bool false, .bool false, .bool false, .bool true, .bool false] (w7a.setRow bF #[.bool false, .bool false, .bool false, .bool false, .bool true, .bool false]) at hG
    have hX7b : Ext w3 (w7a.setRow bF #[.bool false, .bool false, .bool false, .bool false, .bool true, .bool false]) := Ext.setRow hX7a hbF _
    clear hF
    generalize w7a.setRow bF #[.bool false, .bool false, .bool false, .bool false, .bool true, .bool false] = w7b at *
    try simp only [Act.put]
    refine Dm.wpE_done (by kernel_rfl) hX7b (fun w8a hx8a => ?_)
    have hX8a := Ext.trans hX7b hx8a
    replace hG := hG.ext hx8a
    exact ⟨bM, bF, rfl, hG, hbF, hX8a⟩
  ·
   have hX1a := Ext.trans (Ext.refl w3) hx1a
   have hF : RB w1a.heap.size 108 [.bool false, .bool false, .bool false, .bool false, .bool false, .bool false] (w1a.alloc (.cells #[.bool false, .bool false, .bool false, .bool false, .bool false, .bool false] 108)) := RB.new w1a 108 [.bool false, .bool false, .bool false, .bool false, .bool false, .bool false]
   have hbF := (hX1a).size
   go_wp2_with fail
   have hs1 : Ext w1a (w1a.alloc (.cells #[.bool false, .bool false, .bool false, .bool false, .bool false, .bool false] 108)) := (Ext.refl _).alloc _
   have hX1b := Ext.trans hX1a hs1
   generalize w1a.alloc (.cells #[.bool false, .bool false, .bool false, .bool false, .bool false, .bool false] 108) = w1b at *
   generalize w1a.heap.size = bF at *
   try simp only [Exit.then, Act.put, List.setIfInBounds_toArray, List.set_cons_succ, List.set_cons_zero]
   refine Dm.wpE_one (i := 0) (listed' := (Dm.bits 6 23)) (by kernel_rfl) (by kernel_rfl) rfl hX1b (fun w9a hx9a => ?_)
   have hX9a := Ext.trans hX1b hx9a
   replace hF := hF.ext hx9a
   go_wp2_with (go_at_call 55; go_must (refine (CK.out w9a).mono ?_; rintro e_ w9b ⟨bM, rfl, hM, hs9⟩))
   have hX9b := Ext.trans hX9a hs9
   replace hF := hF.ext hs9
   try simp only [Exit.then, Act.put, List.setIfInBounds_toArray, List.set_cons_succ, List.set_cons_zero]
   refine Dm.wpE_one (i := 3) (listed' := (Dm.bits 6 31)) (by kernel_rfl) (by kernel_rfl) rfl hX9b (fun w10a hx10a => ?_)
   have hX10a := Ext.trans hX9b hx10a
   replace hF := hF.ext hx10a
   replace hM := hM.ext hx10a
   have hlk := hlook.out _ _ hM
   go_wp2_with fail
   clear hlk hM
   obtain ⟨w10b, hw2⟩ : ∃ x, x = w10a := ⟨_, rfl⟩
   subst hw2
   have hX10b := hX10a
   try simp only [Exit.then, Act.put, List.setIfInBounds_toArray, List.set_cons_succ, List.set_cons_zero]
   refine Dm.wpE_one (i := 5) (listed' := (Dm.bits 6 63)) (by kernel_rfl) (by kernel_rfl) rfl hX10b (fun w11a hx11a => ?_)
   have hX11a := Ext.trans hX10b hx11a
   replace hF := hF.ext hx11a
   have hG := hF.setRow [.bool false, .bool false, .bool false, .bool false, .bool true, .bool false]
   go_wp2_with (refine wpList_store_row (cells := #[.bool false, .bool false, .bool false, .bool false, .bool true, .bool false]) rfl 108 _ _ rfl bF rfl rfl _ _ hF (by kernel_rfl) rfl (by first | rfl | decide | simp [Value.oneCell']) ?_)
   change RB bF 108 [.bool false, .bool false, .bool false, .bool false, .bool true, .bool false] (w11a.setRow bF #[.bool false, .bool false, .bool false, .bool false, .bool true, .bool false]) at hG
   have hX11b : Ext w3 (w11a.setRow bF #[.bool false, .bool false, .bool false, .bool false, .bool true, .bool false]) := Ext.setRow hX11a hbF _
   clear hF
   generalize w11a.setRow bF #[.bool false, .bool false, .bool false, .bool false, .bool true, .bool false] = w11b at *
   try simp only [Act.put]
   refine Dm.wpE_done (by kernel_rfl) hX11b (fun w12a hx12a => ?_)
   have hX12a := Ext.trans hX11b hx12a
   replace hG := hG.ext hx12a
   exact ⟨bM, bF, rfl, hG, hbF, hX12a⟩
 rintro a_ w4 ⟨bM, bF, rfl, hG, hbF, h4⟩
 simp only [Act.put, List.setIfInBounds_toArray, List.set_cons_succ, List.set_cons_zero]
 have hAF : bA ≠ bF := by omega
 clear a0 al hbF
 replace hA := hA.ext h4
 replace hE := hE.trans h4
 clear h4
 have gl := hG.lt
 have g0 : w4.cell? ⟨bF, 0, none⟩ = some (.bool false) := hG.cell 0
 have g1 : w4.cell? ⟨bF, 1, none⟩ = some (.bool false) := hG.cell 1
 have g2 : w4.cell? ⟨bF, 2, none⟩ = some (.bool false) := hG.cell 2
 have g3 : w4.cell? ⟨bF, 3, none⟩ = some (.bool false) := hG.cell 3
 have g4 : w4.cell? ⟨bF, 4, none⟩ = some (.bool true) := hG.cell 4
 have g5 : w4.cell? ⟨bF, 5, none⟩ = some (.bool false) := hG.cell 5
 go_wp2_with fail
 refine (CX.out _ hE).mono ?_; rintro e_ w6 ⟨⟨v_, R, rfl, hT, hfR, hl4, hRT, hxd, hOT⟩, h6⟩
 subst hRT
 obtain ⟨qv, cv, rfl, _, _⟩ := hT.shape
 have hbT := hA.lt
 have hbE := hE.size
 clear gl g0 g1 g2 g3 g4 g5
 replace hA := hA.ext h6
 replace hG := hG.ext h6
 replace hE := hE.trans h6
 clear h6
 have al := hA.lt
 have a8 : w6.cell? ⟨bA, 8, none⟩ = some (.string ⟨#[]⟩) := hA.cell 8
 have af8 := hA.free 8
 have a9 : w6.cell? ⟨bA, 9, none⟩ = some (.int .u64 0) := hA.cell 9
 have af9 := hA.free 9
 have a10 : w6.cell? ⟨bA, 10, none⟩ = some (.int .u64 0) := hA.cell 10
 have af10 := hA.free 10
 have a11 : w6.cell? ⟨bA, 11, none⟩ = some (.int .u64 0) := hA.cell 11
 have af11 := hA.free 11
 have a12 : w6.cell? ⟨bA, 12, none⟩ = some (.int .u64 0) := hA.cell 12
 have af12 := hA.free 12
 have a13 : w6.cell? ⟨bA, 13, none⟩ = some (.int .i64 0) := hA.cell 13
 have af13 := hA.free 13
 have a14 : w6.cell? ⟨bA, 14, none⟩ = some (.int .i64 0) := hA.cell 14
 have af14 := hA.free 14
 have a15 : w6.cell? ⟨bA, 15, none⟩ = some (.int .i64 0) := hA.cell 15
 have af15 := hA.free 15
 have a16 : w6.cell? ⟨bA, 16, none⟩ = some (.slice none 0 0) := hA.cell 16
 have af16 := hA.free 16
 go_upto_region 16 with fail
 clear al a8 af8 a9 af9 a10 af10 a11 af11 a12 af12 a13 af13 a14 af14 a15 af15 a16 af16
 have hA' : RB bA 33 [.int .i64 (k : Nat), .int .u64 0, .int .u64 0, .string ⟨#[]⟩, .int .u64 0, .int .u64 0, .int .u64 0, .int .u64 0, .string xs, .int .u64 (vG xd 0 : Nat), .int .u64 (vG xd 1 : Nat), .int .u64 (vG xd 2 : Nat), .int .u64 (vG xd 3 : Nat), .int .i64 xm.1, .int .i64 xm.2.1, .int .i64 xm.2.2, .slice qv R.length cv, .slice none 0 0] (((((((((w6.setCell ⟨bA, 8, none⟩ (.string xs)).setCell ⟨bA, 9, none⟩ (.int .u64 (vG xd 0 : Nat))).setCell ⟨bA, 10, none⟩ (.int .u64 (vG xd 1 : Nat))).setCell ⟨bA, 11, none⟩ (.int .u64 (vG xd 2 : Nat))).setCell ⟨bA, 12, none⟩ (.int .u64 (vG xd 3 : Nat))).setCell ⟨bA, 13, none⟩ (.int .i64 xm.1)).setCell ⟨bA, 14, none⟩ (.int .i64 xm.2.1)).setCell ⟨bA, 15, none⟩ (.int .i64 xm.2.2)).setCell ⟨bA, 16, none⟩ (.slice qv R.length cv)) := (((((((((hA.set 8 (.string xs)).set 9 (.int .u64 (vG xd 0 : Nat))).set 10 (.int .u64 (vG xd 1 : Nat))).set 11 (.int .u64 (vG xd 2 : Nat))).set 12 (.int .u64 (vG xd 3 : Nat))).set 13 (.int .i64 xm.1)).set 14 (.int .i64 xm.2.1)).set 15 (.int .i64 xm.2.2)).set 16 (.slice qv R.length cv))
 have hG' : RB bF 108 [.bool false, .bool false, .bool false, .bool false, .bool true, .bool false] (((((((((w6.setCell ⟨bA, 8, none⟩ (.string xs)).setCell ⟨bA, 9, none⟩ (.int .u64 (vG xd 0 : Nat))).setCell ⟨bA, 10, none⟩ (.int .u64 (vG xd 1 : Nat))).setCell ⟨bA, 11, none⟩ (.int .u64 (vG xd 2 : Nat))).setCell ⟨bA, 12, none⟩ (.int .u64 (vG xd 3 : Nat))).setCell ⟨bA, 13, none⟩ (.int .i64 xm.1)).setCell ⟨bA, 14, none⟩ (.int .i64 xm.2.1)).setCell ⟨bA, 15, none⟩ (.int .i64 xm.2.2)).setCell ⟨bA, 16, none⟩ (.slice qv R.length cv)) := (((((((((hG.far (c := bA) (i := 8) hAF (.string xs)).far (c := bA) (i := 9) hAF (.int .u64 (vG xd 0 : Nat))).far (c := bA) (i := 10) hAF (.int .u64 (vG xd 1 : Nat))).far (c := bA) (i := 11) hAF (.int .u64 (vG xd 2 : Nat))).far (c := bA) (i := 12) hAF (.int .u64 (vG xd 3 : Nat))).far (c := bA) (i := 13) hAF (.int .i64 xm.1)).far (c := bA) (i := 14) hAF (.int .i64 xm.2.1)).far (c := bA) (i := 15) hAF (.int .i64 xm.2.2)).far (c := bA) (i := 16) hAF (.slice qv R.length cv))
 have hE' : Ext w (((((((((w6.setCell ⟨bA, 8, none⟩ (.string xs)).setCell ⟨bA, 9, none⟩ (.int .u64 (vG xd 0 : Nat))).setCell ⟨bA, 10, none⟩ (.int .u64 (vG xd 1 : Nat))).setCell ⟨bA, 11, none⟩ (.int .u64 (vG xd 2 : Nat))).setCell ⟨bA, 12, none⟩ (.int .u64 (vG xd 3 : Nat))).setCell ⟨bA, 13, none⟩ (.int .i64 xm.1)).setCell ⟨bA, 14, none⟩ (.int .i64 xm.2.1)).setCell ⟨bA, 15, none⟩ (.int .i64 xm.2.2)).setCell ⟨bA, 16, none⟩ (.slice qv R.length cv)) := (Below.setCell (Below.setCell (Below.setCell (Below.setCell (Below.setCell (Below.setCell (Below.setCell (Below.setCell (Below.setCell hE (p := ⟨bA, 8, none⟩) hwA (.string xs)) (p := ⟨bA, 9, none⟩) hwA (.int .u64 (vG xd 0 : Nat))) (p := ⟨bA, 10, none⟩) hwA (.int .u64 (vG xd 1 : Nat))) (p := ⟨bA, 11, none⟩) hwA (.int .u64 (vG xd 2 : Nat))) (p := ⟨bA, 12, none⟩) hwA (.int .u64 (vG xd 3 : Nat))) (p := ⟨bA, 13, none⟩) hwA (.int .i64 xm.1)) (p := ⟨bA, 14, none⟩) hwA (.int .i64 xm.2.1)) (p := ⟨bA, 15, none⟩) hwA (.int .i64 xm.2.2)) (p := ⟨bA, 16, none⟩) hwA (.slice qv R.length cv))
 have hT' : Terms (((((((((w6.setCell ⟨bA, 8, none⟩ (.string xs)).setCell ⟨bA, 9, none⟩ (.int .u64 (vG xd 0 : Nat))).setCell ⟨bA, 10, none⟩ (.int .u64 (vG xd 1 : Nat))).setCell ⟨bA, 11, none⟩ (.int .u64 (vG xd 2 : Nat))).setCell ⟨bA, 12, none⟩ (.int .u64 (vG xd 3 : Nat))).setCell ⟨bA, 13, none⟩ (.int .i64 xm.1)).setCell ⟨bA, 14, none⟩ (.int .i64 xm.2.1)).setCell ⟨bA, 15, none⟩ (.int .i64 xm.2.2)).setCell ⟨bA, 16, none⟩ (.slice qv R.length cv)) (.slice qv R.length cv) R := hT.off hOT hbT ((((((((((Off.refl bA w6).setCell 8 (.string xs)).setCell 9 (.int .u64 (vG xd 0 : Nat))).setCell 10 (.int .u64 (vG xd 1 : Nat))).setCell 11 (.int .u64 (vG xd 2 : Nat))).setCell 12 (.int .u64 (vG xd 3 : Nat))).setCell 13 (.int .i64 xm.1)).setCell 14 (.int .i64 xm.2.1)).setCell 15 (.int .i64 xm.2.2)).setCell 16 (.slice qv R.length cv))
 clear hT
 have hT := hT'
 clear hT'
 clear hA hG hE
 have hA := hA'
 have hG := hG'
 have hE := hE'
 clear hA' hG' hE'
 generalize (((((((((w6.setCell ⟨bA, 8, none⟩ (.string xs)).setCell ⟨bA, 9, none⟩ (.int .u64 (vG xd 0 : Nat))).setCell ⟨bA, 10, none⟩ (.int .u64 (vG xd 1 : Nat))).setCell ⟨bA, 11, none⟩ (.int .u64 (vG xd 2 : Nat))).setCell ⟨bA, 12, none⟩ (.int .u64 (vG xd 3 : Nat))).setCell ⟨bA, 13, none⟩ (.int .i64 xm.1)).setCell ⟨bA, 14, none⟩ (.int .i64 xm.2.1)).setCell ⟨bA, 15, none⟩ (.int .i64 xm.2.2)).setCell ⟨bA, 16, none⟩ (.slice qv R.length cv)) = w7 at *
 cases bx with
 | false =>
  have gl := hG.lt
  have g0 : w7.cell? ⟨bF, 0, none⟩ = some (.bool false) := hG.cell 0
  have g1 : w7.cell? ⟨bF, 1, none⟩ = some (.bool false) := hG.cell 1
  have g2 : w7.cell? ⟨bF, 2, none⟩ = some (.bool false) := hG.cell 2
  have g3 : w7.cell? ⟨bF, 3, none⟩ = some (.bool false) := hG.cell 3
  have g4 : w7.cell? ⟨bF, 4, none⟩ = some (.bool true) := hG.cell 4
  have g5 : w7.cell? ⟨bF, 5, none⟩ = some (.bool false) := hG.cell 5
  have hZ := hA.setRow [.int .i64 0, .int .u64 0, .int .u64 0, .string ⟨#[]⟩, .int .u64 0, .int .u64 0, .int .u64 0, .int .u64 0, .string ⟨#[]⟩, .int .u64 0, .int .u64 0, .int .u64 0, .int .u64 0, .int .i64 0, .int .i64 0, .int .i64 0, .slice none 0 0, .slice none 0 0]
  go_wp2_with (first | (refine wpList_load_row rfl 33 _ rfl bA rfl _ _ _ _ hA Tryz.underlying33 rfl (by kernel_rfl) ?_) | (refine wpList_store_row (cells := #[.int .i64 0, .int .u64 0, .int .u64 0, .string ⟨#[]⟩, .int .u64 0, .int .u64 0, .int .u64 0, .int .u64 0, .string ⟨#[]⟩, .int .u64 0, .int .u64 0, .int .u64 0, .int .u64 0, .int .i64 0, .int .i64 0, .int .i64 0, .slice none 0 0, .slice none 0 0]) rfl 33 _ _ rfl bA rfl rfl _ _ hA (by kernel_rfl) rfl (by first | rfl | decide | simp [Value.oneCell']) ?_))
  refine bodyPost_ret (results_row3 (p := 4) (t := 5) (u := 6) rfl _ _ _ _ _ _ _ rfl hZ Tryz.underlying33 rfl (by kernel_rfl)) rfl ?_
  have hGe : G = ((((k : Nat) : Int), (0, 0), ⟨#[]⟩, noV, (xs, xd, xm, R.map rowT), []), qx, false) := by rw [← hGd.out]; simp only [rdF, rdA, rdT, rdV, rdX, rdL, cond_true, cond_false, Bool.and_false, rx]; first | done | rfl
  subst hGe
  exact ⟨GotO.no _ _ _ (fun h => by cases h.1), Ext.setRow hE hwA _⟩
 | true =>
  have CR : Calls Tryz.prog 25 #[.agg #[.int .i64 (k : Nat), .int .u64 0, .int .u64 0, .string ⟨#[]⟩, .int .u64 0, .int .u64 0, .int .u64 0, .int .u64 0, .string xs, .int .u64 (vG xd 0 : Nat), .int .u64 (vG xd 1 : Nat), .int .u64 (vG xd 2 : Nat), .int .u64 (vG xd 3 : Nat), .int .i64 xm.1, .int .i64 xm.2.1, .int .i64 xm.2.2, .slice qv R.length cv, .slice none 0 0]] w7 fun e_ w' => e_ = .returned (.bool (rightO (((k : Nat) : Int), (0, 0), ⟨#[]⟩, noV, (xs, xd, xm, R.map rowT), []))) ∧ Ext w7 w' :=
   aright_w k 0 0 ⟨#[]⟩ noV xs xd xm (.slice qv R.length cv) (.slice none 0 0) R [] w7 hk okV_no (Nat.lt_of_le_of_lt (hxo (by first | rfl | trivial)) (by decide)) hxd (by omega) hfR hT (by show (0 : Nat) ≤ _; omega) FitP.nil (Pairs.nil _) (hv.ext hE)
  have hGe : G = ((((k : Nat) : Int), (0, 0), ⟨#[]⟩, noV, (xs, xd, xm, R.map rowT), []), qx, true) := by rw [← hGd.out]; simp only [rdF, rdA, rdT, rdV, rdX, rdL, cond_true, cond_false, Bool.and_false, rx]; first | done | rfl
  subst hGe
  have hGN := fun U => GotO.no w.heap.size U (((((k : Nat) : Int), (0, 0), ⟨#[]⟩, noV, (xs, xd, xm, R.map rowT), []), qx, true) : OpQ × Int × Bool)
  have hGY : rightO (((k : Nat) : Int), (0, 0), ⟨#[]⟩, noV, (xs, xd, xm, R.map rowT), []) = true → finO ((((k : Nat) : Int), (0, 0), ⟨#[]⟩, noV, (xs, xd, xm, R.map rowT), []), qx, true) = ((((k : Nat) : Int), (0, 0), ⟨#[]⟩, noV, (xs, xd, xm, R.map rowT), []), qx, true) := fun h => by unfold finO; rw [if_pos ⟨rfl, h⟩]
  have hOk : OkO (((k : Nat) : Int), (0, 0), ⟨#[]⟩, noV, (xs, xd, xm, R.map rowT), []) := ⟨hk, u64_zero, u64_zero, okV_no, (Nat.lt_of_le_of_lt (hxo (by first | rfl | trivial)) (by decide)), hxd, (by show (0 : Nat) ≤ _; omega), FitP.nil⟩
  cases hro : rightO (((k : Nat) : Int), (0, 0), ⟨#[]⟩, noV, (xs, xd, xm, R.map rowT), []) with
  | false =>
   replace hGN := Lib.hid (fun U => hGN U (fun h => by rw [hro] at h; cases h.2))
   rw [hro] at CR
   replace CR := Lib.hid CR
   clear hro hGY
   have gl := hG.lt
   have g0 : w7.cell? ⟨bF, 0, none⟩ = some (.bool false) := hG.cell 0
   have g1 : w7.cell? ⟨bF, 1, none⟩ = some (.bool false) := hG.cell 1
   have g2 : w7.cell? ⟨bF, 2, none⟩ = some (.bool false) := hG.cell 2
   have g3 : w7.cell? ⟨bF, 3, none⟩ = some (.bool false) := hG.cell 3
   have g4 : w7.cell? ⟨bF, 4, none⟩ = some (.bool true) := hG.cell 4
   have g5 : w7.cell? ⟨bF, 5, none⟩ = some (.bool false) := hG.cell 5
   go_wp2_with (refine wpList_load_row_g (by kernel_rfl) 33 _ rfl bA rfl _ _ _ _ hA Tryz.underlying33 rfl (by kernel_rfl) ?_)
   refine CR.out.mono ?_; rintro e_ wq ⟨rfl, hq⟩
   clear gl g0 g1 g2 g3 g4 g5
   replace hA := hA.ext hq
   replace hE := hE.trans hq
   have hZ := hA.setRow [.int .i64 0, .int .u64 0, .int .u64 0, .string ⟨#[]⟩, .int .u64 0, .int .u64 0, .int .u64 0, .int .u64 0, .string ⟨#[]⟩, .int .u64 0, .int .u64 0, .int .u64 0, .int .u64 0, .int .i64 0, .int .i64 0, .int .i64 0, .slice none 0 0, .slice none 0 0]
   go_wp2_with (refine wpList_store_row (cells := #[.int .i64 0, .int .u64 0, .int .u64 0, .string ⟨#[]⟩, .int .u64 0, .int .u64 0, .int .u64 0, .int .u64 0, .string ⟨#[]⟩, .int .u64 0, .int .u64 0, .int .u64 0, .int .u64 0, .int .i64 0, .int .i64 0, .int .i64 0, .slice none 0 0, .slice none 0 0]) rfl 33 _ _ rfl bA rfl rfl _ _ hA (by kernel_rfl) rfl (by first | rfl | decide | simp [Value.oneCell']) ?_)
   refine bodyPost_ret (results_row3 (p := 4) (t := 5) (u := 6) rfl _ _ _ _ _ _ _ rfl hZ Tryz.underlying33 rfl (by kernel_rfl)) rfl ?_
   exact ⟨hGN.out _, Ext.setRow hE hwA _⟩
  | true =>
   have hFe := Lib.hid (hGY hro)
   rw [hro] at CR
   replace CR := Lib.hid CR
   clear hro hGN hGY
   have gl := hG.lt
   have g0 : w7.cell? ⟨bF, 0, none⟩ = some (.bool false) := hG.cell 0
   have g1 : w7.cell? ⟨bF, 1, none⟩ = some (.bool false) := hG.cell 1
   have g2 : w7.cell? ⟨bF, 2, none⟩ = some (.bool false) := hG.cell 2
   have g3 : w7.cell? ⟨bF, 3, none⟩ = some (.bool false) := hG.cell 3
   have g4 : w7.cell? ⟨bF, 4, none⟩ = some (.bool true) := hG.cell 4
   have g5 : w7.cell? ⟨bF, 5, none⟩ = some (.bool false) := hG.cell 5
   go_wp2_with (refine wpList_load_row_g (by kernel_rfl) 33 _ rfl bA rfl _ _ _ _ hA Tryz.underlying33 rfl (by kernel_rfl) ?_)
   refine CR.out.mono ?_; rintro e_ wq ⟨rfl, hq⟩
   clear gl g0 g1 g2 g3 g4 g5
   replace hA := hA.ext hq
   replace hE := hE.trans hq
   replace hT := hT.ext hq
   have hZ := hA.setRow [.int .i64 (k : Nat), .int .u64 0, .int .u64 0, .string ⟨#[]⟩, .int .u64 0, .int .u64 0, .int .u64 0, .int .u64 0, .string xs, .int .u64 (vG xd 0 : Nat), .int .u64 (vG xd 1 : Nat), .int .u64 (vG xd 2 : Nat), .int .u64 (vG xd 3 : Nat), .int .i64 xm.1, .int .i64 xm.2.1, .int .i64 xm.2.2, .slice qv R.length cv, .slice none 0 0]
   go_wp2_with (first | (refine wpList_load_row rfl 33 _ rfl bA rfl _ _ _ _ hA Tryz.underlying33 rfl (by kernel_rfl) ?_) | (refine wpList_store_row (cells := #[.int .i64 (k : Nat), .int .u64 0, .int .u64 0, .string ⟨#[]⟩, .int .u64 0, .int .u64 0, .int .u64 0, .int .u64 0, .string xs, .int .u64 (vG xd 0 : Nat), .int .u64 (vG xd 1 : Nat), .int .u64 (vG xd 2 : Nat), .int .u64 (vG xd 3 : Nat), .int .i64 xm.1, .int .i64 xm.2.1, .int .i64 xm.2.2, .slice qv R.length cv, .slice none 0 0]) rfl 33 _ _ rfl bA rfl rfl _ _ hA (by kernel_rfl) rfl (by first | rfl | decide | simp [Value.oneCell']) ?_))
   refine bodyPost_ret (results_row3 (p := 4) (t := 5) (u := 6) rfl _ _ _ _ _ _ _ rfl hZ Tryz.underlying33 rfl (by kernel_rfl)) rfl ?_
   refine ⟨?_, Ext.setRow hE hwA _⟩
   rw [hFe.out]
   refine ⟨.slice qv R.length cv, .slice none 0 0, R, rfl, ?_, hfR, (by omega), rfl, ?_, hOk, hOT.le hbE, (fun c h => by cases h)⟩
   ·exact hT.off hOT hbT ((Off.refl bA wq).setRow _)
   ·exact Pairs.nil _

set_option maxHeartbeats 4000000 in
set_option maxRecDepth 100000 in
theorem aget_c5 (s : ByteArray) (p : Int) (w : World) (hs : s.size ≤ 281474976710656) (hv : Vars w) (hok : (getI s.data.toList p).2.2 = true) (h13 : (getI s.data.toList p).1 ≤ 13) (hfd : (knownF ((getI s.data.toList p).1 : Nat)).getD noFld = (false, false, false, true, false, false)) :
  Calls Tryz.prog 40 #[.string s, .int .i64 p] w fun e_ w' => GotO w.heap.size w' (finO (rdF s.data.toList (false, false, false, true, false, false) ((getI s.data.toList p).1 : Nat) (getI s.data.toList p).2.1)) e_ ∧ Ext w w' := by
 have hU : U64 s.data.toList.length := Nat.lt_of_le_of_lt (show s.size ≤ _ from hs) (by decide)
 have C1 := fun U => wget_w s p U hs
 have hkf := getI_fit (l := s.data.toList) (p := p) hs
 obtain ⟨⟨k, q, b⟩, hr⟩ : ∃ r, getI s.data.toList p = r := ⟨_, rfl⟩
 rw [hr] at C1 hok h13 hfd hkf ⊢
 simp only at C1 hok h13 hfd hkf ⊢
 subst hok
 clear hr
 have hk : -9223372036854775808 ≤ (k : Int) ∧ (k : Int) ≤ 9223372036854775807 := by omega
 have CK := fun U => aknown_w U
 have hlook := fun (U : World) B (h : MapK U B 13 knownF) => h.look1 hk
 rw [hfd] at hlook
 unfold fldV at hlook
 simp only at hlook
 clear hfd
 have CV := fun U => vget_w s q U hs
 obtain ⟨⟨d, qd, bd⟩, rd⟩ : ∃ r, getV s.data.toList q = r := ⟨_, rfl⟩
 rw [rd] at CV
 have hdo : bd = true → OkV d := fun h => ((getV_iff hU).1 (h ▸ rd)).1
 unfold vVal vF at CV
 simp only at CV
 obtain ⟨G, hGd⟩ : ∃ g, rdF s.data.toList (false, false, false, true, false, false) ((k : Nat) : Int) q = g := ⟨_, rfl⟩
 rw [hGd]
 replace hGd := Lib.hid hGd
 replace CK := Lib.hid CK
 replace C1 := Lib.hid C1
 replace hlook := Lib.hid hlook
 replace CV := Lib.hid CV
 obtain ⟨w1, hW1, hA, hE, -⟩ := new_row w 33 [.int .i64 0, .int .u64 0, .int .u64 0, .string ⟨#[]⟩, .int .u64 0, .int .u64 0, .int .u64 0, .int .u64 0, .string ⟨#[]⟩, .int .u64 0, .int .u64 0, .int .u64 0, .int .u64 0, .int .i64 0, .int .i64 0, .int .i64 0, .slice none 0 0, .slice none 0 0]
 obtain ⟨bA, hbA⟩ : ∃ x, w.heap.size = x := ⟨_, rfl⟩
 have hwA : w.heap.size ≤ bA := by omega
 rw [hbA] at hA
 go_enter Tryz.func40, Tryz.ntmps40
 go_upto_region 1 with fail
 clear hW1 hbA
 go_wp2_with fail
 refine (C1.out _).mono ?_; rintro e_ w2 ⟨rfl, h2⟩
 replace hA := hA.ext h2
 replace hE := hE.trans h2
 clear h2
 have al := hA.lt
 have a0 : w2.cell? ⟨bA, 0, none⟩ = some (.int .i64 0) := hA.cell 0
 have af0 := hA.free 0
 go_upto_region 5 with fail
 clear al a0 af0
 have hA' : RB bA 33 [.int .i64 (k : Nat), .int .u64 0, .int .u64 0, .string ⟨#[]⟩, .int .u64 0, .int .u64 0, .int .u64 0, .int .u64 0, .string ⟨#[]⟩, .int .u64 0, .int .u64 0, .int .u64 0, .int .u64 0, .int .i64 0, .int .i64 0, .int .i64 0, .slice none 0 0, .slice none 0 0] (w2.setCell ⟨bA, 0, none⟩ (.int .i64 (k : Nat))) := hA.set 0 (.int .i64 (k : Nat))
 have hE' : Ext w (w2.setCell ⟨bA, 0, none⟩ (.int .i64 (k : Nat))) := Below.setCell hE (p := ⟨bA, 0, none⟩) hwA _
 clear hA hE
 have hA := hA'
 have hE := hE'
 clear hA' hE'
 generalize w2.setCell ⟨bA, 0, none⟩ (.int .i64 (k : Nat)) = w3 at *
 have al := hA.lt
 have a0 : w3.cell? ⟨bA, 0, none⟩ = some (.int .i64 (k : Nat)) := hA.cell 0
 refine region_cut (fun a_ a' w' => ∃ bM bF : Nat, a' = ((((a_.put (some 26) (.map (some bM))).put (some 27) (.pointer (some ⟨bA, 0, none⟩))).put (some 28) (.int .i64 (k : Nat))).put (some 29) (.agg #[.bool false, .bool false, .bool false, .bool true, .bool false, .bool false])).put (some 8) (.pointer (some ⟨bF, 0, none⟩)) ∧ RB bF 108 [.bool false, .bool false, .bool false, .bool true, .bool false, .bool false] w' ∧ w3.heap.size ≤ bF ∧ Ext w3 w') ?_ ?_
 ·skip
  try simp only [Act.put, List.setIfInBounds_toArray, List.set_cons_succ, List.set_cons_zero]
  refine Dm.wp_region_ext 6 (Dm.bits 6 0) (Ext.refl w3) (by kernel_rfl) (by kernel_rfl) (by kernel_rfl) ?_
  refine Dm.wpE_take (i := 1) (listed' := (Dm.bits 6 2)) (by kernel_rfl) (by kernel_rfl) rfl (fun _ _ _ _ h => h) ?_; apply Exists.intro; refine And.intro (fun x => ?_) ?_
  ·go_big_quiet_step (fail); exact wpQuiet_nil rfl
  refine Dm.wpE_take (i := 2) (listed' := (Dm.bits 6 6)) (by kernel_rfl) (by kernel_rfl) rfl (fun _ _ _ _ h => h) ?_; apply Exists.intro; refine And.intro (fun x => ?_) ?_
  ·go_big_quiet_step (fail); exact wpQuiet_nil rfl
  refine Dm.wpE_two (i := 0) (j := 4) (li := (Dm.bits 6 7)) (lj := (Dm.bits 6 22)) (by kernel_rfl) (by kernel_rfl) (by kernel_rfl) rfl rfl (Ext.refl w3) (fun w1a hx1a => ?_) (fun w1a hx1a => ?_)
  ·
   have hX1a := Ext.trans (Ext.refl w3) hx1a
   go_wp2_with (go_at_call 55; go_must (refine (CK.out w1a).mono ?_; rintro e_ w1b ⟨bM, rfl, hM, hs1⟩))
   have hX1b := Ext.trans hX1a hs1
   try simp only [Exit.then, Act.put, List.setIfInBounds_toArray, List.set_cons_succ, List.set_cons_zero]
   refine Dm.wpE_two (i := 3) (j := 4) (li := (Dm.bits 6 15)) (lj := (Dm.bits 6 23)) (by kernel_rfl) (by kernel_rfl) (by kernel_rfl) rfl rfl hX1b (fun w2a hx2a => ?_) (fun w2a hx2a => ?_)
   ·
    have hX2a := Ext.trans hX1b hx2a
    replace hM := hM.ext hx2a
    have hlk := hlook.out _ _ hM
    go_wp2_with fail
    clear hlk hM
    obtain ⟨w2b, hw2⟩ : ∃ x, x = w2a := ⟨_, rfl⟩
    subst hw2
    have hX2b := hX2a
    try simp only [Exit.then, Act.put, List.setIfInBounds_toArray, List.set_cons_succ, List.set_cons_zero]
    refine Dm.wpE_one (i := 4) (listed' := (Dm.bits 6 31)) (by kernel_rfl) (by kernel_rfl) rfl hX2b (fun w3a hx3a => ?_)
    have hX3a := Ext.trans hX2b hx3a
    have hF : RB w3a.heap.size 108 [.bool false, .bool false, .bool false, .bool false, .bool false, .bool false] (w3a.alloc (.cells #[.bool false, .bool false, .bool false, .bool false, .bool false, .bool false] 108)) := RB.new w3a 108 [.bool false, .bool false, .bool false, .bool false, .bool false, .bool false]
    have hbF := (hX3a).size
    go_wp2_with fail
    have hs3 : Ext w3a (w3a.alloc (.cells #[.bool false, .bool false, .bool false, .bool false, .bool false, .bool false] 108)) := (Ext.refl _).alloc _
    have hX3b := Ext.trans hX3a hs3
    generalize w3a.alloc (.cells #[.bool false, .bool false, .bool false, .bool false, .bool false, .bool false] 108) = w3b at *
    generalize w3a.heap.size = bF at *
    try simp only [Exit.then, Act.put, List.setIfInBounds_toArray, List.set_cons_succ, List.set_cons_zero]
    refine Dm.wpE_one (i := 5) (listed' := (Dm.bits 6 63)) (by kernel_rfl) (by kernel_rfl) rfl hX3b (fun w4a hx4a => ?_)
    have hX4a := Ext.trans hX3b hx4a
    replace hF := hF.ext hx4a
    have hG := hF.setRow [.bool false, .bool false, .bool false, .bool true, .bool false, .bool false]
    go_wp2_with (refine wpList_store_row (cells := #[.bool false, .bool false, .bool false, .bool true, .bool false, .bool false]) rfl 108 _ _ rfl bF rfl rfl _ _ hF (by kernel_rfl) rfl (by first | rfl | decide | simp [Value.oneCell']) ?_)
    change RB bF 108 [.bool false, .bool false, .bool false, .bool true, .bool false, .bool false] (w4a.setRow bF #[.bool false, .bool false, .bool false, .bool true, .bool false, .bool false]) at hG
    have hX4b : Ext w3 (w4a.setRow bF #[.bool false, .bool false, .bool false, .bool true, .bool false, .bool false]) := Ext.setRow hX4a hbF _
    clear hF
    generalize w4a.setRow bF #[.bool false, .bool false, .bool false, .bool true, .bool false, .bool false] = w4b at *
    try simp only [Act.put]
    refine Dm.wpE_done (by kernel_rfl) hX4b (fun w5a hx5a => ?_)
    have hX5a := Ext.trans hX4b hx5a
    replace hG := hG.ext hx5a
    exact ⟨bM, bF, rfl, hG, hbF, hX5a⟩
   ·
    have hX2a := Ext.trans hX1b hx2a
    replace hM := hM.ext hx2a
    have hF : RB w2a.heap.size 108 [.bool false, .bool false, .bool false, .bool false, .bool false, .bool false] (w2a.alloc (.cells #[.bool false, .bool false, .bool false, .bool false, .bool false, .bool false] 108)) := RB.new w2a 108 [.bool false, .bool false, .bool false, .bool false, .bool false, .bool false]
    have hbF := (hX2a).size
    go_wp2_with fail
    have hs2 : Ext w2a (w2a.alloc (.cells #[.bool false, .bool false, .bool false, .bool false, .bool false, .bool false] 108)) := (Ext.refl _).alloc _
    have hX2b := Ext.trans hX2a hs2
    generalize w2a.alloc (.cells #[.bool false, .bool false, .bool false, .bool false, .bool false, .bool false] 108) = w2b at *
    generalize w2a.heap.size = bF at *
    replace hM := hM.ext hs2
    try simp only [Exit.then, Act.put, List.setIfInBounds_toArray, List.set_cons_succ, List.set_cons_zero]
    refine Dm.wpE_one (i := 3) (listed' := (Dm.bits 6 31)) (by kernel_rfl) (by kernel_rfl) rfl hX2b (fun w6a hx6a => ?_)
    have hX6a := Ext.trans hX2b hx6a
    replace hM := hM.ext hx6a
    replace hF := hF.ext hx6a
    have hlk := hlook.out _ _ hM
    go_wp2_with fail
    clear hlk hM
    obtain ⟨w6b, hw2⟩ : ∃ x, x = w6a := ⟨_, rfl⟩
    subst hw2
    have hX6b := hX6a
    try simp only [Exit.then, Act.put, List.setIfInBounds_toArray, List.set_cons_succ, List.set_cons_zero]
    refine Dm.wpE_one (i := 5) (listed' := (Dm.bits 6 63)) (by kernel_rfl) (by kernel_rfl) rfl hX6b (fun w7a hx7a => ?_)
    have hX7a := Ext.trans hX6b hx7a
    replace hF := hF.ext hx7a
    have hG := hF.setRow [.bool false, .bool false, .bool false, .bool true, .bool false, .bool false]
    go_wp2_with (refine wpList_store_row (cells := #[.bool false, .bool false, .bool false, .bool true, .bool false, .bool false]) rfl 108 _ _ rfl bF rfl rfl _ _ hF (by kernel_rfl) rfl (by first | rfl | decide | simp [Value.oneCell']) ?_)
    change RB bF 108 [.bool false, .bool false, .bool false, .bool true, .bool false, .bool false] (w7a.setRow bF #[.bool false, .bool false, .bool false, .bool true, .bool false, .bool false]) at hG
    have hX7b : Ext w3 (w7a.setRow bF #[.bool false, .bool false, .bool false, .bool true, .bool false, .bool false]) := Ext.setRow hX7a hbF _
    clear hF
    generalize w7a.setRow bF #[.bool false, .bool false, .bool false, .bool true, .bool false, .bool false] = w7b at *
    try simp only [Act.put]
    refine Dm.wpE_done (by kernel_rfl) hX7b (fun w8a hx8a => ?_)
    have hX8a := Ext.trans hX7b hx8a
    replace hG := hG.ext hx8a
    exact ⟨bM, bF, rfl, hG, hbF, hX8a⟩
  ·
   have hX1a := Ext.trans (Ext.refl w3) hx1a
   have hF : RB w1a.heap.size 108 [.bool false, .bool false, .bool false, .bool false, .bool false, .bool false] (w1a.alloc (.cells #[.bool false, .bool false, .bool false, .bool false, .bool false, .bool false] 108)) := RB.new w1a 108 [.bool false, .bool false, .bool false, .bool false, .bool false, .bool false]
   have hbF := (hX1a).size
   go_wp2_with fail
   have hs1 : Ext w1a (w1a.alloc (.cells #[.bool false, .bool false, .bool false, .bool false, .bool false, .bool false] 108)) := (Ext.refl _).alloc _
   have hX1b := Ext.trans hX1a hs1
   generalize w1a.alloc (.cells #[.bool false, .bool false, .bool false, .bool false, .bool false, .bool false] 108) = w1b at *
   generalize w1a.heap.size = bF at *
   try simp only [Exit.then, Act.put, List.setIfInBounds_toArray, List.set_cons_succ, List.set_cons_zero]
   refine Dm.wpE_one (i := 0) (listed' := (Dm.bits 6 23)) (by kernel_rfl) (by kernel_rfl) rfl hX1b (fun w9a hx9a => ?_)
   have hX9a := Ext.trans hX1b hx9a
   replace hF := hF.ext hx9a
   go_wp2_with (go_at_call 55; go_must (refine (CK.out w9a).mono ?_; rintro e_ w9b ⟨bM, rfl, hM, hs9⟩))
   have hX9b := Ext.trans hX9a hs9
   replace hF := hF.ext hs9
   try simp only [Exit.then, Act.put, List.setIfInBounds_toArray, List.set_cons_succ, List.set_cons_zero]
   refine Dm.wpE_one (i := 3) (listed' := (Dm.bits 6 31)) (by kernel_rfl) (by kernel_rfl) rfl hX9b (fun w10a hx10a => ?_)
   have hX10a := Ext.trans hX9b hx10a
   replace hF := hF.ext hx10a
   replace hM := hM.ext hx10a
   have hlk := hlook.out _ _ hM
   go_wp2_with fail
   clear hlk hM
   obtain ⟨w10b, hw2⟩ : ∃ x, x = w10a := ⟨_, rfl⟩
   subst hw2
   have hX10b := hX10a
   try simp only [Exit.then, Act.put, List.setIfInBounds_toArray, List.set_cons_succ, List.set_cons_zero]
   refine Dm.wpE_one (i := 5) (listed' := (Dm.bits 6 63)) (by kernel_rfl) (by kernel_rfl) rfl hX10b (fun w11a hx11a => ?_)
   have hX11a := Ext.trans hX10b hx11a
   replace hF := hF.ext hx11a
   have hG := hF.setRow [.bool false, .bool false, .bool false, .bool true, .bool false, .bool false]
   go_wp2_with (refine wpList_store_row (cells := #[.bool false, .bool false, .bool false, .bool true, .bool false, .bool false]) rfl 108 _ _ rfl bF rfl rfl _ _ hF (by kernel_rfl) rfl (by first | rfl | decide | simp [Value.oneCell']) ?_)
   change RB bF 108 [.bool false, .bool false, .bool false, .bool true, .bool false, .bool false] (w11a.setRow bF #[.bool false, .bool false, .bool false, .bool true, .bool false, .bool false]) at hG
   have hX11b : Ext w3 (w11a.setRow bF #[.bool false, .bool false, .bool false, .bool true, .bool false, .bool false]) := Ext.setRow hX11a hbF _
   clear hF
   generalize w11a.setRow bF #[.bool false, .bool false, .bool false, .bool true, .bool false, .bool false] = w11b at *
   try simp only [Act.put]
   refine Dm.wpE_done (by kernel_rfl) hX11b (fun w12a hx12a => ?_)
   have hX12a := Ext.trans hX11b hx12a
   replace hG := hG.ext hx12a
   exact ⟨bM, bF, rfl, hG, hbF, hX12a⟩
 rintro a_ w4 ⟨bM, bF, rfl, hG, hbF, h4⟩
 simp only [Act.put, List.setIfInBounds_toArray, List.set_cons_succ, List.set_cons_zero]
 have hAF : bA ≠ bF := by omega
 clear a0 al hbF
 replace hA := hA.ext h4
 replace hE := hE.trans h4
 clear h4
 have gl := hG.lt
 have g0 : w4.cell? ⟨bF, 0, none⟩ = some (.bool false) := hG.cell 0
 have g1 : w4.cell? ⟨bF, 1, none⟩ = some (.bool false) := hG.cell 1
 have g2 : w4.cell? ⟨bF, 2, none⟩ = some (.bool false) := hG.cell 2
 have g3 : w4.cell? ⟨bF, 3, none⟩ = some (.bool true) := hG.cell 3
 have g4 : w4.cell? ⟨bF, 4, none⟩ = some (.bool false) := hG.cell 4
 have g5 : w4.cell? ⟨bF, 5, none⟩ = some (.bool false) := hG.cell 5
 go_wp2_with fail
 refine (CV.out _).mono ?_; rintro e_ w6 ⟨rfl, h6⟩
 clear gl g0 g1 g2 g3 g4 g5
 replace hA := hA.ext h6
 replace hG := hG.ext h6
 replace hE := hE.trans h6
 clear h6
 have al := hA.lt
 have a4 : w6.cell? ⟨bA, 4, none⟩ = some (.int .u64 0) := hA.cell 4
 have af4 := hA.free 4
 have a5 : w6.cell? ⟨bA, 5, none⟩ = some (.int .u64 0) := hA.cell 5
 have af5 := hA.free 5
 have a6 : w6.cell? ⟨bA, 6, none⟩ = some (.int .u64 0) := hA.cell 6
 have af6 := hA.free 6
 have a7 : w6.cell? ⟨bA, 7, none⟩ = some (.int .u64 0) := hA.cell 7
 have af7 := hA.free 7
 go_upto_region 14 with fail
 clear al a4 af4 a5 af5 a6 af6 a7 af7
 have hA' : RB bA 33 [.int .i64 (k : Nat), .int .u64 0, .int .u64 0, .string ⟨#[]⟩, .int .u64 (vG d 0 : Nat), .int .u64 (vG d 1 : Nat), .int .u64 (vG d 2 : Nat), .int .u64 (vG d 3 : Nat), .string ⟨#[]⟩, .int .u64 0, .int .u64 0, .int .u64 0, .int .u64 0, .int .i64 0, .int .i64 0, .int .i64 0, .slice none 0 0, .slice none 0 0] ((((w6.setCell ⟨bA, 4, none⟩ (.int .u64 (vG d 0 : Nat))).setCell ⟨bA, 5, none⟩ (.int .u64 (vG d 1 : Nat))).setCell ⟨bA, 6, none⟩ (.int .u64 (vG d 2 : Nat))).setCell ⟨bA, 7, none⟩ (.int .u64 (vG d 3 : Nat))) := ((((hA.set 4 (.int .u64 (vG d 0 : Nat))).set 5 (.int .u64 (vG d 1 : Nat))).set 6 (.int .u64 (vG d 2 : Nat))).set 7 (.int .u64 (vG d 3 : Nat)))
 have hG' : RB bF 108 [.bool false, .bool false, .bool false, .bool true, .bool false, .bool false] ((((w6.setCell ⟨bA, 4, none⟩ (.int .u64 (vG d 0 : Nat))).setCell ⟨bA, 5, none⟩ (.int .u64 (vG d 1 : Nat))).setCell ⟨bA, 6, none⟩ (.int .u64 (vG d 2 : Nat))).setCell ⟨bA, 7, none⟩ (.int .u64 (vG d 3 : Nat))) := ((((hG.far (c := bA) (i := 4) hAF (.int .u64 (vG d 0 : Nat))).far (c := bA) (i := 5) hAF (.int .u64 (vG d 1 : Nat))).far (c := bA) (i := 6) hAF (.int .u64 (vG d 2 : Nat))).far (c := bA) (i := 7) hAF (.int .u64 (vG d 3 : Nat)))
 have hE' : Ext w ((((w6.setCell ⟨bA, 4, none⟩ (.int .u64 (vG d 0 : Nat))).setCell ⟨bA, 5, none⟩ (.int .u64 (vG d 1 : Nat))).setCell ⟨bA, 6, none⟩ (.int .u64 (vG d 2 : Nat))).setCell ⟨bA, 7, none⟩ (.int .u64 (vG d 3 : Nat))) := (Below.setCell (Below.setCell (Below.setCell (Below.setCell hE (p := ⟨bA, 4, none⟩) hwA (.int .u64 (vG d 0 : Nat))) (p := ⟨bA, 5, none⟩) hwA (.int .u64 (vG d 1 : Nat))) (p := ⟨bA, 6, none⟩) hwA (.int .u64 (vG d 2 : Nat))) (p := ⟨bA, 7, none⟩) hwA (.int .u64 (vG d 3 : Nat)))
 clear hA hG hE
 have hA := hA'
 have hG := hG'
 have hE := hE'
 clear hA' hG' hE'
 generalize ((((w6.setCell ⟨bA, 4, none⟩ (.int .u64 (vG d 0 : Nat))).setCell ⟨bA, 5, none⟩ (.int .u64 (vG d 1 : Nat))).setCell ⟨bA, 6, none⟩ (.int .u64 (vG d 2 : Nat))).setCell ⟨bA, 7, none⟩ (.int .u64 (vG d 3 : Nat))) = w7 at *
 cases bd with
 | false =>
  have gl := hG.lt
  have g0 : w7.cell? ⟨bF, 0, none⟩ = some (.bool false) := hG.cell 0
  have g1 : w7.cell? ⟨bF, 1, none⟩ = some (.bool false) := hG.cell 1
  have g2 : w7.cell? ⟨bF, 2, none⟩ = some (.bool false) := hG.cell 2
  have g3 : w7.cell? ⟨bF, 3, none⟩ = some (.bool true) := hG.cell 3
  have g4 : w7.cell? ⟨bF, 4, none⟩ = some (.bool false) := hG.cell 4
  have g5 : w7.cell? ⟨bF, 5, none⟩ = some (.bool false) := hG.cell 5
  have hZ := hA.setRow [.int .i64 0, .int .u64 0, .int .u64 0, .string ⟨#[]⟩, .int .u64 0, .int .u64 0, .int .u64 0, .int .u64 0, .string ⟨#[]⟩, .int .u64 0, .int .u64 0, .int .u64 0, .int .u64 0, .int .i64 0, .int .i64 0, .int .i64 0, .slice none 0 0, .slice none 0 0]
  go_wp2_with (first | (refine wpList_load_row rfl 33 _ rfl bA rfl _ _ _ _ hA Tryz.underlying33 rfl (by kernel_rfl) ?_) | (refine wpList_store_row (cells := #[.int .i64 0, .int .u64 0, .int .u64 0, .string ⟨#[]⟩, .int .u64 0, .int .u64 0, .int .u64 0, .int .u64 0, .string ⟨#[]⟩, .int .u64 0, .int .u64 0, .int .u64 0, .int .u64 0, .int .i64 0, .int .i64 0, .int .i64 0, .slice none 0 0, .slice none 0 0]) rfl 33 _ _ rfl bA rfl rfl _ _ hA (by kernel_rfl) rfl (by first | rfl | decide | simp [Value.oneCell']) ?_))
  refine bodyPost_ret (results_row3 (p := 4) (t := 5) (u := 6) rfl _ _ _ _ _ _ _ rfl hZ Tryz.underlying33 rfl (by kernel_rfl)) rfl ?_
  have hGe : G = ((((k : Nat) : Int), (0, 0), ⟨#[]⟩, d, noSp, []), qd, false) := by rw [← hGd.out]; simp only [rdF, rdA, rdT, rdV, rdX, rdL, cond_true, cond_false, Bool.and_true, Bool.and_false, rd]; first | done | rfl
  subst hGe
  exact ⟨GotO.no _ _ _ (fun h => by cases h.1), Ext.setRow hE hwA _⟩
 | true =>
  have CR : Calls Tryz.prog 25 #[.agg #[.int .i64 (k : Nat), .int .u64 0, .int .u64 0, .string ⟨#[]⟩, .int .u64 (vG d 0 : Nat), .int .u64 (vG d 1 : Nat), .int .u64 (vG d 2 : Nat), .int .u64 (vG d 3 : Nat), .string ⟨#[]⟩, .int .u64 0, .int .u64 0, .int .u64 0, .int .u64 0, .int .i64 0, .int .i64 0, .int .i64 0, .slice none 0 0, .slice none 0 0]] w7 fun e_ w' => e_ = .returned (.bool (rightO (((k : Nat) : Int), (0, 0), ⟨#[]⟩, d, noSp, []))) ∧ Ext w7 w' :=
   aright_w k 0 0 ⟨#[]⟩ d ⟨#[]⟩ noV (0, 0, 0) (.slice none 0 0) (.slice none 0 0) [] [] w7 hk (hdo (by first | rfl | trivial)) (by show (0 : Nat) < _; decide) okV_no (by show (0 : Nat) ≤ _; omega) (fun r hr => by cases hr) (Terms.nil _) (by show (0 : Nat) ≤ _; omega) FitP.nil (Pairs.nil _) (hv.ext hE)
  have hGe : G = ((((k : Nat) : Int), (0, 0), ⟨#[]⟩, d, noSp, []), qd, true) := by rw [← hGd.out]; simp only [rdF, rdA, rdT, rdV, rdX, rdL, cond_true, cond_false, Bool.and_true, Bool.and_false, rd]; first | done | rfl
  subst hGe
  have hGN := fun U => GotO.no w.heap.size U (((((k : Nat) : Int), (0, 0), ⟨#[]⟩, d, noSp, []), qd, true) : OpQ × Int × Bool)
  have hGY : rightO (((k : Nat) : Int), (0, 0), ⟨#[]⟩, d, noSp, []) = true → finO ((((k : Nat) : Int), (0, 0), ⟨#[]⟩, d, noSp, []), qd, true) = ((((k : Nat) : Int), (0, 0), ⟨#[]⟩, d, noSp, []), qd, true) := fun h => by unfold finO; rw [if_pos ⟨rfl, h⟩]
  have hOk : OkO (((k : Nat) : Int), (0, 0), ⟨#[]⟩, d, noSp, []) := ⟨hk, u64_zero, u64_zero, (hdo (by first | rfl | trivial)), (by show (0 : Nat) < _; decide), okV_no, (by show (0 : Nat) ≤ _; omega), FitP.nil⟩
  cases hro : rightO (((k : Nat) : Int), (0, 0), ⟨#[]⟩, d, noSp, []) with
  | false =>
   replace hGN := Lib.hid (fun U => hGN U (fun h => by rw [hro] at h; cases h.2))
   rw [hro] at CR
   replace CR := Lib.hid CR
   clear hro hGY
   have gl := hG.lt
   have g0 : w7.cell? ⟨bF, 0, none⟩ = some (.bool false) := hG.cell 0
   have g1 : w7.cell? ⟨bF, 1, none⟩ = some (.bool false) := hG.cell 1
   have g2 : w7.cell? ⟨bF, 2, none⟩ = some (.bool false) := hG.cell 2
   have g3 : w7.cell? ⟨bF, 3, none⟩ = some (.bool true) := hG.cell 3
   have g4 : w7.cell? ⟨bF, 4, none⟩ = some (.bool false) := hG.cell 4
   have g5 : w7.cell? ⟨bF, 5, none⟩ = some (.bool false) := hG.cell 5
   go_wp2_with (refine wpList_load_row_g (by kernel_rfl) 33 _ rfl bA rfl _ _ _ _ hA Tryz.underlying33 rfl (by kernel_rfl) ?_)
   refine CR.out.mono ?_; rintro e_ wq ⟨rfl, hq⟩
   clear gl g0 g1 g2 g3 g4 g5
   replace hA := hA.ext hq
   replace hE := hE.trans hq
   have hZ := hA.setRow [.int .i64 0, .int .u64 0, .int .u64 0, .string ⟨#[]⟩, .int .u64 0, .int .u64 0, .int .u64 0, .int .u64 0, .string ⟨#[]⟩, .int .u64 0, .int .u64 0, .int .u64 0, .int .u64 0, .int .i64 0, .int .i64 0, .int .i64 0, .slice none 0 0, .slice none 0 0]
   go_wp2_with (refine wpList_store_row (cells := #[.int .i64 0, .int .u64 0, .int .u64 0, .string ⟨#[]⟩, .int .u64 0, .int .u64 0, .int .u64 0, .int .u64 0, .string ⟨#[]⟩, .int .u64 0, .int .u64 0, .int .u64 0, .int .u64 0, .int .i64 0, .int .i64 0, .int .i64 0, .slice none 0 0, .slice none 0 0]) rfl 33 _ _ rfl bA rfl rfl _ _ hA (by kernel_rfl) rfl (by first | rfl | decide | simp [Value.oneCell']) ?_)
   refine bodyPost_ret (results_row3 (p := 4) (t := 5) (u := 6) rfl _ _ _ _ _ _ _ rfl hZ Tryz.underlying33 rfl (by kernel_rfl)) rfl ?_
   exact ⟨hGN.out _, Ext.setRow hE hwA _⟩
  | true =>
   have hFe := Lib.hid (hGY hro)
   rw [hro] at CR
   replace CR := Lib.hid CR
   clear hro hGN hGY
   have gl := hG.lt
   have g0 : w7.cell? ⟨bF, 0, none⟩ = some (.bool false) := hG.cell 0
   have g1 : w7.cell? ⟨bF, 1, none⟩ = some (.bool false) := hG.cell 1
   have g2 : w7.cell? ⟨bF, 2, none⟩ = some (.bool false) := hG.cell 2
   have g3 : w7.cell? ⟨bF, 3, none⟩ = some (.bool true) := hG.cell 3
   have g4 : w7.cell? ⟨bF, 4, none⟩ = some (.bool false) := hG.cell 4
   have g5 : w7.cell? ⟨bF, 5, none⟩ = some (.bool false) := hG.cell 5
   go_wp2_with (refine wpList_load_row_g (by kernel_rfl) 33 _ rfl bA rfl _ _ _ _ hA Tryz.underlying33 rfl (by kernel_rfl) ?_)
   refine CR.out.mono ?_; rintro e_ wq ⟨rfl, hq⟩
   clear gl g0 g1 g2 g3 g4 g5
   replace hA := hA.ext hq
   replace hE := hE.trans hq
   have hZ := hA.setRow [.int .i64 (k : Nat), .int .u64 0, .int .u64 0, .string ⟨#[]⟩, .int .u64 (vG d 0 : Nat), .int .u64 (vG d 1 : Nat), .int .u64 (vG d 2 : Nat), .int .u64 (vG d 3 : Nat), .string ⟨#[]⟩, .int .u64 0, .int .u64 0, .int .u64 0, .int .u64 0, .int .i64 0, .int .i64 0, .int .i64 0, .slice none 0 0, .slice none 0 0]
   go_wp2_with (first | (refine wpList_load_row rfl 33 _ rfl bA rfl _ _ _ _ hA Tryz.underlying33 rfl (by kernel_rfl) ?_) | (refine wpList_store_row (cells := #[.int .i64 (k : Nat), .int .u64 0, .int .u64 0, .string ⟨#[]⟩, .int .u64 (vG d 0 : Nat), .int .u64 (vG d 1 : Nat), .int .u64 (vG d 2 : Nat), .int .u64 (vG d 3 : Nat), .string ⟨#[]⟩, .int .u64 0, .int .u64 0, .int .u64 0, .int .u64 0, .int .i64 0, .int .i64 0, .int .i64 0, .slice none 0 0, .slice none 0 0]) rfl 33 _ _ rfl bA rfl rfl _ _ hA (by kernel_rfl) rfl (by first | rfl | decide | simp [Value.oneCell']) ?_))
   refine bodyPost_ret (results_row3 (p := 4) (t := 5) (u := 6) rfl _ _ _ _ _ _ _ rfl hZ Tryz.underlying33 rfl (by kernel_rfl)) rfl ?_
   refine ⟨?_, Ext.setRow hE hwA _⟩
   rw [hFe.out]
   refine ⟨.slice none 0 0, .slice none 0 0, [], rfl, ?_, (fun r hr => by cases hr), (by show (0 : Nat) ≤ _; omega), rfl, ?_, hOk, OwnT.nil _, (fun c h => by cases h)⟩
   ·exact Terms.nil _
   ·exact Pairs.nil _

end Go.Proofs.YtefjdmjkofaajaaGreatDoor

namespace Go.Proofs.YtefjdmjkofaajaaGreatDoor
open Go.RowKit Go.Dm
theorem aget_w (s : ByteArray) (p : Int) (w : World) (hs : s.size ≤ 281474976710656) (hv : Vars w) :
  Calls Tryz.prog 40 #[.string s, .int .i64 p] w fun e_ w' => GotO w.heap.size w' (getO s.data.toList p) e_ ∧ Ext w w' := by
 unfold getO
 by_cases hno : (getI s.data.toList p).2.2 = false ∨ 13 < (getI s.data.toList p).1
 ·rw [if_pos hno]
  exact aget_no s p w hs hno
 ·rw [if_neg hno]
  have hok : (getI s.data.toList p).2.2 = true := by
   cases h : (getI s.data.toList p).2.2 with
   | true => rfl
   | false => exact absurd (Or.inl h) hno
  have h13 : (getI s.data.toList p).1 ≤ 13 := by
   rcases Nat.lt_or_ge 13 (getI s.data.toList p).1 with h | h
   ·exact absurd (Or.inr h) hno
   ·exact h
  have hfl : isFld ((knownF ((getI s.data.toList p).1 : Nat)).getD noFld) := by
   cases h : knownF ((getI s.data.toList p).1 : Nat) with
   | none => exact Or.inr (Or.inr (Or.inr (Or.inr (Or.inr (Or.inr (Or.inr rfl))))))
   | some f => exact knownF_is h
  rcases hfl with h | h | h | h | h | h | h | h
  ·rw [h]; exact aget_c0 s p w hs hv hok h13 h
  ·rw [h]; exact aget_c1 s p w hs hv hok h13 h
  ·rw [h]; exact aget_c2 s p w hs hv hok h13 h
  ·rw [h]; exact aget_c3 s p w hs hv hok h13 h
  ·rw [h]; exact aget_c4 s p w hs hv hok h13 h
  ·rw [h]; exact aget_c5 s p w hs hv hok h13 h
  ·rw [h]; exact aget_c6 s p w hs hv hok h13 h
  ·rw [h]; exact aget_c7 s p w hs hv hok h13 h
end Go.Proofs.YtefjdmjkofaajaaGreatDoor

namespace Go.Dm
open Go Go.RowKit
def rightsN : List Nat := [0, 1, 1, 4, 2, 2, 2, 2, 2]
/-- P19.1: the right that a kind needs; 0: none is enough. -/
def needsK (k : Int) : Nat := if k < 0 then 0 else rightsN.getD k.toNat 0
/-- A value that holds an op of a kind, whatever its other fields. -/
def KindAt (V : Value) (k : Int) : Prop := ∃ v1 v2 v3 v4 v5 v6 v7 v8 v9 v10 v11 v12 v13 v14 v15 v16 v17 : Value, V = .agg #[.int .i64 k, v1, v2, v3, v4, v5, v6, v7, v8, v9, v10, v11, v12, v13, v14, v15, v16, v17]
def needsV (k : Int) : Value := .tuple #[.int .u64 (needsK k : Nat), .bool (decide (needsK k ≠ 0))]
theorem needsK_out {k : Int} (h : k < 0 ∨ 9 ≤ k) : needsK k = 0 := by
 unfold needsK
 by_cases h0 : k < 0
 ·rw [if_pos h0]
 ·rw [if_neg h0, List.getD_eq_getElem?_getD, List.getElem?_eq_none (by show 9 ≤ k.toNat; omega)]; rfl
end Go.Dm
namespace Go.Proofs.YtefjdmjkofaajaaGreatDoor
open Go.RowKit Go.Dm
/-- What is known of the rights that ops need. -/
structure GateV (w : World) : Prop where
 lt : 0 < w.heap.size
 at_ : ∀ {k : Nat}, k < 9 → w.cell? ⟨0, k, none⟩ = some (.int .u64 (rightsN.getD k 0 : Nat))
theorem GateV.ext {w w' : World} (h : GateV w) (hx : Ext w w') : GateV w' :=
 ⟨Nat.lt_of_lt_of_le h.lt hx.size, fun hk => by rw [hx.cell (by exact h.lt)]; exact h.at_ hk⟩

set_option maxHeartbeats 2000000 in
set_option maxRecDepth 100000 in
theorem needs_w (k : Int) (V : Value) (w : World) (hV : KindAt V k) (hg : GateV w) :
  Calls Tryz.prog 13 #[V] w fun e w' => e = .returned (needsV k) ∧ Ext w w' := by
 obtain ⟨v1, v2, v3, v4, v5, v6, v7, v8, v9, v10, v11, v12, v13, v14, v15, v16, v17, rfl⟩ := hV
 have hA : RB w.heap.size 33 [.int .i64 k, v1, v2, v3, v4, v5, v6, v7, v8, v9, v10, v11, v12, v13, v14, v15, v16, v17] (w.alloc (.cells #[.int .i64 k, v1, v2, v3, v4, v5, v6, v7, v8, v9, v10, v11, v12, v13, v14, v15, v16, v17] 33)) := RB.new w 33 [.int .i64 k, v1, v2, v3, v4, v5, v6, v7, v8, v9, v10, v11, v12, v13, v14, v15, v16, v17]
 have hE : Ext w (w.alloc (.cells #[.int .i64 k, v1, v2, v3, v4, v5, v6, v7, v8, v9, v10, v11, v12, v13, v14, v15, v16, v17] 33)) := (Ext.refl _).alloc _
 replace hg := hg.ext hE
 generalize hW1 : w.alloc (.cells #[.int .i64 k, v1, v2, v3, v4, v5, v6, v7, v8, v9, v10, v11, v12, v13, v14, v15, v16, v17] 33) = w1 at *
 obtain ⟨bA, hbA⟩ : ∃ x, w.heap.size = x := ⟨_, rfl⟩
 rw [hbA] at hA
 have al := hA.lt
 have a0 : w1.cell? ⟨bA, 0, none⟩ = some (.int .i64 k) := hA.cell 0
 have gl := hg.lt
 unfold needsV
 by_cases h0 : k < 0
 ·rw [needsK_out (Or.inl h0)]
  go_enter Tryz.func13, Tryz.ntmps13
  go_wp2
  refine bodyPost_ret (results_tmp2 rfl _ _ _) rfl ?_
  exact ⟨rfl, hE⟩
 ·by_cases h9 : 9 ≤ k
  ·rw [needsK_out (Or.inr h9)]
   go_enter Tryz.func13, Tryz.ntmps13
   go_wp2
   refine bodyPost_ret (results_tmp2 rfl _ _ _) rfl ?_
   exact ⟨rfl, hE⟩
  ·obtain ⟨j, rfl⟩ : ∃ j : Nat, k = (j : Int) := ⟨k.toNat, by omega⟩
   have hj : j < 9 := by omega
   have hc := hg.at_ hj
   have hn : needsK (j : Int) = rightsN.getD j 0 := by unfold needsK; rw [if_neg h0]; rfl
   rw [hn]
   generalize rightsN.getD j 0 = c at *
   clear hn
   by_cases hc0 : c = 0
   ·subst hc0
    go_enter Tryz.func13, Tryz.ntmps13
    go_wp2
    refine bodyPost_ret (results_tmp2 rfl _ _ _) rfl ?_
    exact ⟨rfl, hE⟩
   ·have hci : ¬ ((c : Int) = 0) := by omega
    go_enter Tryz.func13, Tryz.ntmps13
    go_wp2
    refine bodyPost_ret (results_tmp2 rfl _ _ _) rfl ?_
    exact ⟨by simp [], hE⟩
end Go.Proofs.YtefjdmjkofaajaaGreatDoor
