/- Texts one behind the other: Chapter 18: the walk of Get (IB). -/
import Derived.Test.YtefjdmjkofaajaaGreatDoorB37
import Derived.Test.YtefjdmjkofaajaaGreatDoorB32
namespace Go.Proofs.YtefjdmjkofaajaaGreatDoor
open Go.RowKit Go.Dm

set_option maxHeartbeats 4000000 in
set_option maxRecDepth 100000 in
theorem aget_c1 (s : ByteArray) (p : Int) (w : World) (hs : s.size ≤ 281474976710656) (hv : Vars w) (hok : (getI s.data.toList p).2.2 = true) (h13 : (getI s.data.toList p).1 ≤ 13) (hfd : (knownF ((getI s.data.toList p).1 : Nat)).getD noFld = (true, false, false, false, false, false)) :
  Calls Tryz.prog 40 #[.string s, .int .i64 p] w fun e_ w' => GotO w.heap.size w' (finO (rdF s.data.toList (true, false, false, false, false, false) ((getI s.data.toList p).1 : Nat) (getI s.data.toList p).2.1)) e_ ∧ Ext w w' := by
 have hU : U64 s.data.toList.length := Nat.lt_of_le_of_lt (show s.size ≤ _ from hs) (by decide)
 have C1 := fun U => wget_w s p U hs
 have hkf := getI_fit (l := s.data.toList) (p := p) hs
 obtain ⟨⟨k, q, b⟩, hr⟩ : ∃ r, getI s.data.toList p = r := ⟨_, rfl⟩
 rw [hr] at C1 hok h13 hfd hkf ⊢
 simp only at C1 hok h13 hfd hkf ⊢
 subst hok
 clear hr
 have hk : -9223372036854775808 ≤ (k : Int) ∧ (k : Int) ≤ 9223372036854775807 := by omega
 have CK := fun U => aknown_w U
 have hlook := fun (U : World) B (h : MapK U B 13 knownF) => h.look1 hk
 rw [hfd] at hlook
 unfold fldV at hlook
 simp only at hlook
 clear hfd
 have CI := fun U => wget_w s q U hs
 have fa := getI_fit (l := s.data.toList) (p := q) hs
 obtain ⟨⟨a, qa, ba⟩, ra⟩ : ∃ r, getI s.data.toList q = r := ⟨_, rfl⟩
 rw [ra] at CI fa
 simp only at CI fa
 obtain ⟨G, hGd⟩ : ∃ g, rdF s.data.toList (true, false, false, false, false, false) ((k : Nat) : Int) q = g := ⟨_, rfl⟩
 rw [hGd]
 replace hGd := Lib.hid hGd
 replace CK := Lib.hid CK
 replace C1 := Lib.hid C1
 replace hlook := Lib.hid hlook
 replace CI := Lib.hid CI
 obtain ⟨w1, hW1, hA, hE, -⟩ := new_row w 33 [.int .i64 0, .int .u64 0, .int .u64 0, .string ⟨#[]⟩, .int .u64 0, .int .u64 0, .int .u64 0, .int .u64 0, .string ⟨#[]⟩, .int .u64 0, .int .u64 0, .int .u64 0, .int .u64 0, .int .i64 0, .int .i64 0, .int .i64 0, .slice none 0 0, .slice none 0 0]
 obtain ⟨bA, hbA⟩ : ∃ x, w.heap.size = x := ⟨_, rfl⟩
 have hwA : w.heap.size ≤ bA := by omega
 rw [hbA] at hA
 go_enter Tryz.func40, Tryz.ntmps40
 go_upto_region 1 with fail
 clear hW1 hbA
 go_wp2_with fail
 refine (C1.out _).mono ?_; rintro e_ w2 ⟨rfl, h2⟩
 replace hA := hA.ext h2
 replace hE := hE.trans h2
 clear h2
 have al := hA.lt
 have a0 : w2.cell? ⟨bA, 0, none⟩ = some (.int .i64 0) := hA.cell 0
 have af0 := hA.free 0
 go_upto_region 5 with fail
 clear al a0 af0
 have hA' : RB bA 33 [.int .i64 (k : Nat), .int .u64 0, .int .u64 0, .string ⟨#[]⟩, .int .u64 0, .int .u64 0, .int .u64 0, .int .u64 0, .string ⟨#[]⟩, .int .u64 0, .int .u64 0, .int .u64 0, .int .u64 0, .int .i64 0, .int .i64 0, .int .i64 0, .slice none 0 0, .slice none 0 0] (w2.setCell ⟨bA, 0, none⟩ (.int .i64 (k : Nat))) := hA.set 0 (.int .i64 (k : Nat))
 have hE' : Ext w (w2.setCell ⟨bA, 0, none⟩ (.int .i64 (k : Nat))) := Below.setCell hE (p := ⟨bA, 0, none⟩) hwA _
 clear hA hE
 have hA := hA'
 have hE := hE'
 clear hA' hE'
 generalize w2.setCell ⟨bA, 0, none⟩ (.int .i64 (k : Nat)) = w3 at *
 have al := hA.lt
 have a0 : w3.cell? ⟨bA, 0, none⟩ = some (.int .i64 (k : Nat)) := hA.cell 0
 refine region_cut (fun a_ a' w' => ∃ bM bF : Nat, a' = ((((a_.put (some 26) (.map (some bM))).put (some 27) (.pointer (some ⟨bA, 0, none⟩))).put (some 28) (.int .i64 (k : Nat))).put (some 29) (.agg #[.bool true, .bool false, .bool false, .bool false, .bool false, .bool false])).put (some 8) (.pointer (some ⟨bF, 0, none⟩)) ∧ RB bF 108 [.bool true, .bool false, .bool false, .bool false, .bool false, .bool false] w' ∧ w3.heap.size ≤ bF ∧ Ext w3 w') ?_ ?_
 ·skip
  try simp only [Act.put, List.setIfInBounds_toArray, List.set_cons_succ, List.set_cons_zero]
  refine Dm.wp_region_ext 6 (Dm.bits 6 0) (Ext.refl w3) (by kernel_rfl) (by kernel_rfl) (by kernel_rfl) ?_
  refine Dm.wpE_take (i := 1) (listed' := (Dm.bits 6 2)) (by kernel_rfl) (by kernel_rfl) rfl (fun _ _ _ _ h => h) ?_; apply Exists.intro; refine And.intro (fun x => ?_) ?_
  ·go_big_quiet_step (fail); exact wpQuiet_nil rfl
  refine Dm.wpE_take (i := 2) (listed' := (Dm.bits 6 6)) (by kernel_rfl) (by kernel_rfl) rfl (fun _ _ _ _ h => h) ?_; apply Exists.intro; refine And.intro (fun x => ?_) ?_
  ·go_big_quiet_step (fail); exact wpQuiet_nil rfl
  refine Dm.wpE_two (i := 0) (j := 4) (li := (Dm.bits 6 7)) (lj := (Dm.bits 6 22)) (by kernel_rfl) (by kernel_rfl) (by kernel_rfl) rfl rfl (Ext.refl w3) (fun w1a hx1a => ?_) (fun w1a hx1a => ?_)
  ·
   have hX1a := Ext.trans (Ext.refl w3) hx1a
   go_wp2_with (go_at_call 55; go_must (refine (CK.out w1a).mono ?_; rintro e_ w1b ⟨bM, rfl, hM, hs1⟩))
   have hX1b := Ext.trans hX1a hs1
   try simp only [Exit.then, Act.put, List.setIfInBounds_toArray, List.set_cons_succ, List.set_cons_zero]
   refine Dm.wpE_two (i := 3) (j := 4) (li := (Dm.bits 6 15)) (lj := (Dm.bits 6 23)) (by kernel_rfl) (by kernel_rfl) (by kernel_rfl) rfl rfl hX1b (fun w2a hx2a => ?_) (fun w2a hx2a => ?_)
   ·
    have hX2a := Ext.trans hX1b hx2a
    replace hM := hM.ext hx2a
    have hlk := hlook.out _ _ hM
    go_wp2_with fail
    clear hlk hM
    obtain ⟨w2b, hw2⟩ : ∃ x, x = w2a := ⟨_, rfl⟩
    subst hw2
    have hX2b := hX2a
    try simp only [Exit.then, Act.put, List.setIfInBounds_toArray, List.set_cons_succ, List.set_cons_zero]
    refine Dm.wpE_one (i := 4) (listed' := (Dm.bits 6 31)) (by kernel_rfl) (by kernel_rfl) rfl hX2b (fun w3a hx3a => ?_)
    have hX3a := Ext.trans hX2b hx3a
    have hF : RB w3a.heap.size 108 [.bool false, .bool false, .bool false, .bool false, .bool false, .bool false] (w3a.alloc (.cells #[.bool false, .bool false, .bool false, .bool false, .bool false, .bool false] 108)) := RB.new w3a 108 [.bool false, .bool false, .bool false, .bool false, .bool false, .bool false]
    have hbF := (hX3a).size
    go_wp2_with fail
    have hs3 : Ext w3a (w3a.alloc (.cells #[.bool false, .bool false, .bool false, .bool false, .bool false, .bool false] 108)) := (Ext.refl _).alloc _
    have hX3b := Ext.trans hX3a hs3
    generalize w3a.alloc (.cells #[.bool false, .bool false, .bool false, .bool false, .bool false, .bool false] 108) = w3b at *
    generalize w3a.heap.size = bF at *
    try simp only [Exit.then, Act.put, List.setIfInBounds_toArray, List.set_cons_succ, List.set_cons_zero]
    refine Dm.wpE_one (i := 5) (listed' := (Dm.bits 6 63)) (by kernel_rfl) (by kernel_rfl) rfl hX3b (fun w4a hx4a => ?_)
    have hX4a := Ext.trans hX3b hx4a
    replace hF := hF.ext hx4a
    have hG := hF.setRow [.bool true, .bool false, .bool false, .bool false, .bool false, .bool false]
    go_wp2_with (refine wpList_store_row (cells := #[.bool true, .bool false, .bool false, .bool false, .bool false, .bool false]) rfl 108 _ _ rfl bF rfl rfl _ _ hF (by kernel_rfl) rfl (by first | rfl | decide | simp [Value.oneCell']) ?_)
    change RB bF 108 [.bool true, .bool false, .bool false, .bool false, .bool false, .bool false] (w4a.setRow bF #[.bool true, .bool false, .bool false, .bool false, .bool false, .bool false]) at hG
    have hX4b : Ext w3 (w4a.setRow bF #[.bool true, .bool false, .bool false, .bool false, .bool false, .bool false]) := Ext.setRow hX4a hbF _
    clear hF
    generalize w4a.setRow bF #[.bool true, .bool false, .bool false, .bool false, .bool false, .bool false] = w4b at *
    try simp only [Act.put]
    refine Dm.wpE_done (by kernel_rfl) hX4b (fun w5a hx5a => ?_)
    have hX5a := Ext.trans hX4b hx5a
    replace hG := hG.ext hx5a
    exact ⟨bM, bF, rfl, hG, hbF, hX5a⟩
   ·
    have hX2a := Ext.trans hX1b hx2a
    replace hM := hM.ext hx2a
    have hF : RB w2a.heap.size 108 [.bool false, .bool false, .bool false, .bool false, .bool false, .bool false] (w2a.alloc (.cells #[.bool false, .bool false, .bool false, .bool false, .bool false, .bool false] 108)) := RB.new w2a 108 [.bool false, .bool false, .bool false, .bool false, .bool false, .bool false]
    have hbF := (hX2a).size
    go_wp2_with fail
    have hs2 : Ext w2a (w2a.alloc (.cells #[.bool false, .bool false, .bool false, .bool false, .bool false, .bool false] 108)) := (Ext.refl _).alloc _
    have hX2b := Ext.trans hX2a hs2
    generalize w2a.alloc (.cells #[.bool false, .bool false, .bool false, .bool false, .bool false, .bool false] 108) = w2b at *
    generalize w2a.heap.size = bF at *
    replace hM := hM.ext hs2
    try simp only [Exit.then, Act.put, List.setIfInBounds_toArray, List.set_cons_succ, List.set_cons_zero]
    refine Dm.wpE_one (i := 3) (listed' := (Dm.bits 6 31)) (by kernel_rfl) (by kernel_rfl) rfl hX2b (fun w6a hx6a => ?_)
    have hX6a := Ext.trans hX2b hx6a
    replace hM := hM.ext hx6a
    replace hF := hF.ext hx6a
    have hlk := hlook.out _ _ hM
    go_wp2_with fail
    clear hlk hM
    obtain ⟨w6b, hw2⟩ : ∃ x, x = w6a := ⟨_, rfl⟩
    subst hw2
    have hX6b := hX6a
    try simp only [Exit.then, Act.put, List.setIfInBounds_toArray, List.set_cons_succ, List.set_cons_zero]
    refine Dm.wpE_one (i := 5) (listed' := (Dm.bits 6 63)) (by kernel_rfl) (by kernel_rfl) rfl hX6b (fun w7a hx7a => ?_)
    have hX7a := Ext.trans hX6b hx7a
    replace hF := hF.ext hx7a
    have hG := hF.setRow [.bool true, .bool false, .bool false, .bool false, .bool false, .bool false]
    go_wp2_with (refine wpList_store_row (cells := #[.bool true, .bool false, .bool false, .bool false, .bool false, .bool false]) rfl 108 _ _ rfl bF rfl rfl _ _ hF (by kernel_rfl) rfl (by first | rfl | decide | simp [Value.oneCell']) ?_)
    change RB bF 108 [.bool true, .bool false, .bool false, .bool false, .bool false, .bool false] (w7a.setRow bF #[.bool true, .bool false, .bool false, .bool false, .bool false, .bool false]) at hG
    have hX7b : Ext w3 (w7a.setRow bF #[.bool true, .bool false, .bool false, .bool false, .bool false, .bool false]) := Ext.setRow hX7a hbF _
    clear hF
    generalize w7a.setRow bF #[.bool true, .bool false, .bool false, .bool false, .bool false, .bool false] = w7b at *
    try simp only [Act.put]
    refine Dm.wpE_done (by kernel_rfl) hX7b (fun w8a hx8a => ?_)
    have hX8a := Ext.trans hX7b hx8a
    replace hG := hG.ext hx8a
    exact ⟨bM, bF, rfl, hG, hbF, hX8a⟩
  ·
   have hX1a := Ext.trans (Ext.refl w3) hx1a
   have hF : RB w1a.heap.size 108 [.bool false, .bool false, .bool false, .bool false, .bool false, .bool false] (w1a.alloc (.cells #[.bool false, .bool false, .bool false, .bool false, .bool false, .bool false] 108)) := RB.new w1a 108 [.bool false, .bool false, .bool false, .bool false, .bool false, .bool false]
   have hbF := (hX1a).size
   go_wp2_with fail
   have hs1 : Ext w1a (w1a.alloc (.cells #[.bool false, .bool false, .bool false, .bool false, .bool false, .bool false] 108)) := (Ext.refl _).alloc _
   have hX1b := Ext.trans hX1a hs1
   generalize w1a.alloc (.cells #[.bool false, .bool false, .bool false, .bool false, .bool false, .bool false] 108) = w1b at *
   generalize w1a.heap.size = bF at *
   try simp only [Exit.then, Act.put, List.setIfInBounds_toArray, List.set_cons_succ, List.set_cons_zero]
   refine Dm.wpE_one (i := 0) (listed' := (Dm.bits 6 23)) (by kernel_rfl) (by kernel_rfl) rfl hX1b (fun w9a hx9a => ?_)
   have hX9a := Ext.trans hX1b hx9a
   replace hF := hF.ext hx9a
   go_wp2_with (go_at_call 55; go_must (refine (CK.out w9a).mono ?_; rintro e_ w9b ⟨bM, rfl, hM, hs9⟩))
   have hX9b := Ext.trans hX9a hs9
   replace hF := hF.ext hs9
   try simp only [Exit.then, Act.put, List.setIfInBounds_toArray, List.set_cons_succ, List.set_cons_zero]
   refine Dm.wpE_one (i := 3) (listed' := (Dm.bits 6 31)) (by kernel_rfl) (by kernel_rfl) rfl hX9b (fun w10a hx10a => ?_)
   have hX10a := Ext.trans hX9b hx10a
   replace hF := hF.ext hx10a
   replace hM := hM.ext hx10a
   have hlk := hlook.out _ _ hM
   go_wp2_with fail
   clear hlk hM
   obtain ⟨w10b, hw2⟩ : ∃ x, x = w10a := ⟨_, rfl⟩
   subst hw2
   have hX10b := hX10a
   try simp only [Exit.then, Act.put, List.setIfInBounds_toArray, List.set_cons_succ, List.set_cons_zero]
   refine Dm.wpE_one (i := 5) (listed' := (Dm.bits 6 63)) (by kernel_rfl) (by kernel_rfl) rfl hX10b (fun w11a hx11a => ?_)
   have hX11a := Ext.trans hX10b hx11a
   replace hF := hF.ext hx11a
   have hG := hF.setRow [.bool true, .bool false, .bool false, .bool false, .bool false, .bool false]
   go_wp2_with (refine wpList_store_row (cells := #[.bool true, .bool false, .bool false, .bool false, .bool false, .bool false]) rfl 108 _ _ rfl bF rfl rfl _ _ hF (by kernel_rfl) rfl (by first | rfl | decide | simp [Value.oneCell']) ?_)
   change RB bF 108 [.bool true, .bool false, .bool false, .bool false, .bool false, .bool false] (w11a.setRow bF #[.bool true, .bool false, .bool false, .bool false, .bool false, .bool false]) at hG
   have hX11b : Ext w3 (w11a.setRow bF #[.bool true, .bool false, .bool false, .bool false, .bool false, .bool false]) := Ext.setRow hX11a hbF _
   clear hF
   generalize w11a.setRow bF #[.bool true, .bool false, .bool false, .bool false, .bool false, .bool false] = w11b at *
   try simp only [Act.put]
   refine Dm.wpE_done (by kernel_rfl) hX11b (fun w12a hx12a => ?_)
   have hX12a := Ext.trans hX11b hx12a
   replace hG := hG.ext hx12a
   exact ⟨bM, bF, rfl, hG, hbF, hX12a⟩
 rintro a_ w4 ⟨bM, bF, rfl, hG, hbF, h4⟩
 simp only [Act.put, List.setIfInBounds_toArray, List.set_cons_succ, List.set_cons_zero]
 have hAF : bA ≠ bF := by omega
 clear a0 al hbF
 replace hA := hA.ext h4
 replace hE := hE.trans h4
 clear h4
 have gl := hG.lt
 have g0 : w4.cell? ⟨bF, 0, none⟩ = some (.bool true) := hG.cell 0
 have g1 : w4.cell? ⟨bF, 1, none⟩ = some (.bool false) := hG.cell 1
 have g2 : w4.cell? ⟨bF, 2, none⟩ = some (.bool false) := hG.cell 2
 have g3 : w4.cell? ⟨bF, 3, none⟩ = some (.bool false) := hG.cell 3
 have g4 : w4.cell? ⟨bF, 4, none⟩ = some (.bool false) := hG.cell 4
 have g5 : w4.cell? ⟨bF, 5, none⟩ = some (.bool false) := hG.cell 5
 go_wp2_with fail
 refine (CI.out _).mono ?_; rintro e_ w6 ⟨rfl, h6⟩
 clear gl g0 g1 g2 g3 g4 g5
 replace hA := hA.ext h6
 replace hG := hG.ext h6
 replace hE := hE.trans h6
 clear h6
 have al := hA.lt
 have a1 : w6.cell? ⟨bA, 1, none⟩ = some (.int .u64 0) := hA.cell 1
 have af1 := hA.free 1
 go_upto_region 8 with fail
 clear al a1 af1
 have hA' : RB bA 33 [.int .i64 (k : Nat), .int .u64 (a : Nat), .int .u64 0, .string ⟨#[]⟩, .int .u64 0, .int .u64 0, .int .u64 0, .int .u64 0, .string ⟨#[]⟩, .int .u64 0, .int .u64 0, .int .u64 0, .int .u64 0, .int .i64 0, .int .i64 0, .int .i64 0, .slice none 0 0, .slice none 0 0] (w6.setCell ⟨bA, 1, none⟩ (.int .u64 (a : Nat))) := (hA.set 1 (.int .u64 (a : Nat)))
 have hG' : RB bF 108 [.bool true, .bool false, .bool false, .bool false, .bool false, .bool false] (w6.setCell ⟨bA, 1, none⟩ (.int .u64 (a : Nat))) := (hG.far (c := bA) (i := 1) hAF (.int .u64 (a : Nat)))
 have hE' : Ext w (w6.setCell ⟨bA, 1, none⟩ (.int .u64 (a : Nat))) := (Below.setCell hE (p := ⟨bA, 1, none⟩) hwA (.int .u64 (a : Nat)))
 clear hA hG hE
 have hA := hA'
 have hG := hG'
 have hE := hE'
 clear hA' hG' hE'
 generalize (w6.setCell ⟨bA, 1, none⟩ (.int .u64 (a : Nat))) = w7 at *
 cases ba with
 | false =>
  have gl := hG.lt
  have g0 : w7.cell? ⟨bF, 0, none⟩ = some (.bool true) := hG.cell 0
  have g1 : w7.cell? ⟨bF, 1, none⟩ = some (.bool false) := hG.cell 1
  have g2 : w7.cell? ⟨bF, 2, none⟩ = some (.bool false) := hG.cell 2
  have g3 : w7.cell? ⟨bF, 3, none⟩ = some (.bool false) := hG.cell 3
  have g4 : w7.cell? ⟨bF, 4, none⟩ = some (.bool false) := hG.cell 4
  have g5 : w7.cell? ⟨bF, 5, none⟩ = some (.bool false) := hG.cell 5
  have hZ := hA.setRow [.int .i64 0, .int .u64 0, .int .u64 0, .string ⟨#[]⟩, .int .u64 0, .int .u64 0, .int .u64 0, .int .u64 0, .string ⟨#[]⟩, .int .u64 0, .int .u64 0, .int .u64 0, .int .u64 0, .int .i64 0, .int .i64 0, .int .i64 0, .slice none 0 0, .slice none 0 0]
  go_wp2_with (first | (refine wpList_load_row rfl 33 _ rfl bA rfl _ _ _ _ hA Tryz.underlying33 rfl (by kernel_rfl) ?_) | (refine wpList_store_row (cells := #[.int .i64 0, .int .u64 0, .int .u64 0, .string ⟨#[]⟩, .int .u64 0, .int .u64 0, .int .u64 0, .int .u64 0, .string ⟨#[]⟩, .int .u64 0, .int .u64 0, .int .u64 0, .int .u64 0, .int .i64 0, .int .i64 0, .int .i64 0, .slice none 0 0, .slice none 0 0]) rfl 33 _ _ rfl bA rfl rfl _ _ hA (by kernel_rfl) rfl (by first | rfl | decide | simp [Value.oneCell']) ?_))
  refine bodyPost_ret (results_row3 (p := 4) (t := 5) (u := 6) rfl _ _ _ _ _ _ _ rfl hZ Tryz.underlying33 rfl (by kernel_rfl)) rfl ?_
  have hGe : G = ((((k : Nat) : Int), (a, 0), ⟨#[]⟩, noV, noSp, []), qa, false) := by rw [← hGd.out]; simp only [rdF, rdA, rdT, rdV, rdX, rdL, cond_true, cond_false, Bool.and_false, ra]; first | done | rfl
  subst hGe
  exact ⟨GotO.no _ _ _ (fun h => by cases h.1), Ext.setRow hE hwA _⟩
 | true =>
  have CR : Calls Tryz.prog 25 #[.agg #[.int .i64 (k : Nat), .int .u64 (a : Nat), .int .u64 0, .string ⟨#[]⟩, .int .u64 0, .int .u64 0, .int .u64 0, .int .u64 0, .string ⟨#[]⟩, .int .u64 0, .int .u64 0, .int .u64 0, .int .u64 0, .int .i64 0, .int .i64 0, .int .i64 0, .slice none 0 0, .slice none 0 0]] w7 fun e_ w' => e_ = .returned (.bool (rightO (((k : Nat) : Int), (a, 0), ⟨#[]⟩, noV, noSp, []))) ∧ Ext w7 w' :=
   aright_w k a 0 ⟨#[]⟩ noV ⟨#[]⟩ noV (0, 0, 0) (.slice none 0 0) (.slice none 0 0) [] [] w7 hk okV_no (by show (0 : Nat) < _; decide) okV_no (by show (0 : Nat) ≤ _; omega) (fun r hr => by cases hr) (Terms.nil _) (by show (0 : Nat) ≤ _; omega) FitP.nil (Pairs.nil _) (hv.ext hE)
  have hGe : G = ((((k : Nat) : Int), (a, 0), ⟨#[]⟩, noV, noSp, []), qa, true) := by rw [← hGd.out]; simp only [rdF, rdA, rdT, rdV, rdX, rdL, cond_true, cond_false, Bool.and_false, ra]; first | done | rfl
  subst hGe
  have hGN := fun U => GotO.no w.heap.size U (((((k : Nat) : Int), (a, 0), ⟨#[]⟩, noV, noSp, []), qa, true) : OpQ × Int × Bool)
  have hGY : rightO (((k : Nat) : Int), (a, 0), ⟨#[]⟩, noV, noSp, []) = true → finO ((((k : Nat) : Int), (a, 0), ⟨#[]⟩, noV, noSp, []), qa, true) = ((((k : Nat) : Int), (a, 0), ⟨#[]⟩, noV, noSp, []), qa, true) := fun h => by unfold finO; rw [if_pos ⟨rfl, h⟩]
  have hOk : OkO (((k : Nat) : Int), (a, 0), ⟨#[]⟩, noV, noSp, []) := ⟨hk, fa, u64_zero, okV_no, (by show (0 : Nat) < _; decide), okV_no, (by show (0 : Nat) ≤ _; omega), FitP.nil⟩
  cases hro : rightO (((k : Nat) : Int), (a, 0), ⟨#[]⟩, noV, noSp, []) with
  | false =>
   replace hGN := Lib.hid (fun U => hGN U (fun h => by rw [hro] at h; cases h.2))
   rw [hro] at CR
   replace CR := Lib.hid CR
   clear hro hGY
   have gl := hG.lt
   have g0 : w7.cell? ⟨bF, 0, none⟩ = some (.bool true) := hG.cell 0
   have g1 : w7.cell? ⟨bF, 1, none⟩ = some (.bool false) := hG.cell 1
   have g2 : w7.cell? ⟨bF, 2, none⟩ = some (.bool false) := hG.cell 2
   have g3 : w7.cell? ⟨bF, 3, none⟩ = some (.bool false) := hG.cell 3
   have g4 : w7.cell? ⟨bF, 4, none⟩ = some (.bool false) := hG.cell 4
   have g5 : w7.cell? ⟨bF, 5, none⟩ = some (.bool false) := hG.cell 5
   go_wp2_with (refine wpList_load_row_g (by kernel_rfl) 33 _ rfl bA rfl _ _ _ _ hA Tryz.underlying33 rfl (by kernel_rfl) ?_)
   refine CR.out.mono ?_; rintro e_ wq ⟨rfl, hq⟩
   clear gl g0 g1 g2 g3 g4 g5
   replace hA := hA.ext hq
   replace hE := hE.trans hq
   have hZ := hA.setRow [.int .i64 0, .int .u64 0, .int .u64 0, .string ⟨#[]⟩, .int .u64 0, .int .u64 0, .int .u64 0, .int .u64 0, .string ⟨#[]⟩, .int .u64 0, .int .u64 0, .int .u64 0, .int .u64 0, .int .i64 0, .int .i64 0, .int .i64 0, .slice none 0 0, .slice none 0 0]
   go_wp2_with (refine wpList_store_row (cells := #[.int .i64 0, .int .u64 0, .int .u64 0, .string ⟨#[]⟩, .int .u64 0, .int .u64 0, .int .u64 0, .int .u64 0, .string ⟨#[]⟩, .int .u64 0, .int .u64 0, .int .u64 0, .int .u64 0, .int .i64 0, .int .i64 0, .int .i64 0, .slice none 0 0, .slice none 0 0]) rfl 33 _ _ rfl bA rfl rfl _ _ hA (by kernel_rfl) rfl (by first | rfl | decide | simp [Value.oneCell']) ?_)
   refine bodyPost_ret (results_row3 (p := 4) (t := 5) (u := 6) rfl _ _ _ _ _ _ _ rfl hZ Tryz.underlying33 rfl (by kernel_rfl)) rfl ?_
   exact ⟨hGN.out _, Ext.setRow hE hwA _⟩
  | true =>
   have hFe := Lib.hid (hGY hro)
   rw [hro] at CR
   replace CR := Lib.hid CR
   clear hro hGN hGY
   have gl := hG.lt
   have g0 : w7.cell? ⟨bF, 0, none⟩ = some (.bool true) := hG.cell 0
   have g1 : w7.cell? ⟨bF, 1, none⟩ = some (.bool false) := hG.cell 1
   have g2 : w7.cell? ⟨bF, 2, none⟩ = some (.bool false) := hG.cell 2
   have g3 : w7.cell? ⟨bF, 3, none⟩ = some (.bool false) := hG.cell 3
   have g4 : w7.cell? ⟨bF, 4, none⟩ = some (.bool false) := hG.cell 4
   have g5 : w7.cell? ⟨bF, 5, none⟩ = some (.bool false) := hG.cell 5
   go_wp2_with (refine wpList_load_row_g (by kernel_rfl) 33 _ rfl bA rfl _ _ _ _ hA Tryz.underlying33 rfl (by kernel_rfl) ?_)
   refine CR.out.mono ?_; rintro e_ wq ⟨rfl, hq⟩
   clear gl g0 g1 g2 g3 g4 g5
   replace hA := hA.ext hq
   replace hE := hE.trans hq
   have hZ := hA.setRow [.int .i64 (k : Nat), .int .u64 (a : Nat), .int .u64 0, .string ⟨#[]⟩, .int .u64 0, .int .u64 0, .int .u64 0, .int .u64 0, .string ⟨#[]⟩, .int .u64 0, .int .u64 0, .int .u64 0, .int .u64 0, .int .i64 0, .int .i64 0, .int .i64 0, .slice none 0 0, .slice none 0 0]
   go_wp2_with (first | (refine wpList_load_row rfl 33 _ rfl bA rfl _ _ _ _ hA Tryz.underlying33 rfl (by kernel_rfl) ?_) | (refine wpList_store_row (cells := #[.int .i64 (k : Nat), .int .u64 (a : Nat), .int .u64 0, .string ⟨#[]⟩, .int .u64 0, .int .u64 0, .int .u64 0, .int .u64 0, .string ⟨#[]⟩, .int .u64 0, .int .u64 0, .int .u64 0, .int .u64 0, .int .i64 0, .int .i64 0, .int .i64 0, .slice none 0 0, .slice none 0 0]) rfl 33 _ _ rfl bA rfl rfl _ _ hA (by kernel_rfl) rfl (by first | rfl | decide | simp [Value.oneCell']) ?_))
   refine bodyPost_ret (results_row3 (p := 4) (t := 5) (u := 6) rfl _ _ _ _ _ _ _ rfl hZ Tryz.underlying33 rfl (by kernel_rfl)) rfl ?_
   refine ⟨?_, Ext.setRow hE hwA _⟩
   rw [hFe.out]
   refine ⟨.slice none 0 0, .slice none 0 0, [], rfl, ?_, (fun r hr => by cases hr), (by show (0 : Nat) ≤ _; omega), rfl, ?_, hOk, OwnT.nil _, (fun c h => by cases h)⟩
   ·exact Terms.nil _
   ·exact Pairs.nil _

set_option maxHeartbeats 4000000 in
set_option maxRecDepth 100000 in
theorem aget_c3 (s : ByteArray) (p : Int) (w : World) (hs : s.size ≤ 281474976710656) (hv : Vars w) (hok : (getI s.data.toList p).2.2 = true) (h13 : (getI s.data.toList p).1 ≤ 13) (hfd : (knownF ((getI s.data.toList p).1 : Nat)).getD noFld = (false, true, false, false, false, false)) :
  Calls Tryz.prog 40 #[.string s, .int .i64 p] w fun e_ w' => GotO w.heap.size w' (finO (rdF s.data.toList (false, true, false, false, false, false) ((getI s.data.toList p).1 : Nat) (getI s.data.toList p).2.1)) e_ ∧ Ext w w' := by
 have hU : U64 s.data.toList.length := Nat.lt_of_le_of_lt (show s.size ≤ _ from hs) (by decide)
 have C1 := fun U => wget_w s p U hs
 have hkf := getI_fit (l := s.data.toList) (p := p) hs
 obtain ⟨⟨k, q, b⟩, hr⟩ : ∃ r, getI s.data.toList p = r := ⟨_, rfl⟩
 rw [hr] at C1 hok h13 hfd hkf ⊢
 simp only at C1 hok h13 hfd hkf ⊢
 subst hok
 clear hr
 have hk : -9223372036854775808 ≤ (k : Int) ∧ (k : Int) ≤ 9223372036854775807 := by omega
 have CK := fun U => aknown_w U
 have hlook := fun (U : World) B (h : MapK U B 13 knownF) => h.look1 hk
 rw [hfd] at hlook
 unfold fldV at hlook
 simp only at hlook
 clear hfd
 have CI := fun U => wget_w s q U hs
 have fa := getI_fit (l := s.data.toList) (p := q) hs
 obtain ⟨⟨a, qa, ba⟩, ra⟩ : ∃ r, getI s.data.toList q = r := ⟨_, rfl⟩
 rw [ra] at CI fa
 simp only at CI fa
 obtain ⟨G, hGd⟩ : ∃ g, rdF s.data.toList (false, true, false, false, false, false) ((k : Nat) : Int) q = g := ⟨_, rfl⟩
 rw [hGd]
 replace hGd := Lib.hid hGd
 replace CK := Lib.hid CK
 replace C1 := Lib.hid C1
 replace hlook := Lib.hid hlook
 replace CI := Lib.hid CI
 obtain ⟨w1, hW1, hA, hE, -⟩ := new_row w 33 [.int .i64 0, .int .u64 0, .int .u64 0, .string ⟨#[]⟩, .int .u64 0, .int .u64 0, .int .u64 0, .int .u64 0, .string ⟨#[]⟩, .int .u64 0, .int .u64 0, .int .u64 0, .int .u64 0, .int .i64 0, .int .i64 0, .int .i64 0, .slice none 0 0, .slice none 0 0]
 obtain ⟨bA, hbA⟩ : ∃ x, w.heap.size = x := ⟨_, rfl⟩
 have hwA : w.heap.size ≤ bA := by omega
 rw [hbA] at hA
 go_enter Tryz.func40, Tryz.ntmps40
 go_upto_region 1 with fail
 clear hW1 hbA
 go_wp2_with fail
 refine (C1.out _).mono ?_; rintro e_ w2 ⟨rfl, h2⟩
 replace hA := hA.ext h2
 replace hE := hE.trans h2
 clear h2
 have al := hA.lt
 have a0 : w2.cell? ⟨bA, 0, none⟩ = some (.int .i64 0) := hA.cell 0
 have af0 := hA.free 0
 go_upto_region 5 with fail
 clear al a0 af0
 have hA' : RB bA 33 [.int .i64 (k : Nat), .int .u64 0, .int .u64 0, .string ⟨#[]⟩, .int .u64 0, .int .u64 0, .int .u64 0, .int .u64 0, .string ⟨#[]⟩, .int .u64 0, .int .u64 0, .int .u64 0, .int .u64 0, .int .i64 0, .int .i64 0, .int .i64 0, .slice none 0 0, .slice none 0 0] (w2.setCell ⟨bA, 0, none⟩ (.int .i64 (k : Nat))) := hA.set 0 (.int .i64 (k : Nat))
 have hE' : Ext w (w2.setCell ⟨bA, 0, none⟩ (.int .i64 (k : Nat))) := Below.setCell hE (p := ⟨bA, 0, none⟩) hwA _
 clear hA hE
 have hA := hA'
 have hE := hE'
 clear hA' hE'
 generalize w2.setCell ⟨bA, 0, none⟩ (.int .i64 (k : Nat)) = w3 at *
 have al := hA.lt
 have a0 : w3.cell? ⟨bA, 0, none⟩ = some (.int .i64 (k : Nat)) := hA.cell 0
 refine region_cut (fun a_ a' w' => ∃ bM bF : Nat, a' = ((((a_.put (some 26) (.map (some bM))).put (some 27) (.pointer (some ⟨bA, 0, none⟩))).put (some 28) (.int .i64 (k : Nat))).put (some 29) (.agg #[.bool false, .bool true, .bool false, .bool false, .bool false, .bool false])).put (some 8) (.pointer (some ⟨bF, 0, none⟩)) ∧ RB bF 108 [.bool false, .bool true, .bool false, .bool false, .bool false, .bool false] w' ∧ w3.heap.size ≤ bF ∧ Ext w3 w') ?_ ?_
 ·skip
  try simp only [Act.put, List.setIfInBounds_toArray, List.set_cons_succ, List.set_cons_zero]
  refine Dm.wp_region_ext 6 (Dm.bits 6 0) (Ext.refl w3) (by kernel_rfl) (by kernel_rfl) (by kernel_rfl) ?_
  refine Dm.wpE_take (i := 1) (listed' := (Dm.bits 6 2)) (by kernel_rfl) (by kernel_rfl) rfl (fun _ _ _ _ h => h) ?_; apply Exists.intro; refine And.intro (fun x => ?_) ?_
  ·go_big_quiet_step (fail); exact wpQuiet_nil rfl
  refine Dm.wpE_take (i := 2) (listed' := (Dm.bits 6 6)) (by kernel_rfl) (by kernel_rfl) rfl (fun _ _ _ _ h => h) ?_; apply Exists.intro; refine And.intro (fun x => ?_) ?_
  ·go_big_quiet_step (fail); exact wpQuiet_nil rfl
  refine Dm.wpE_two (i := 0) (j := 4) (li := (Dm.bits 6 7)) (lj := (Dm.bits 6 22)) (by kernel_rfl) (by kernel_rfl) (by kernel_rfl) rfl rfl (Ext.refl w3) (fun w1a hx1a => ?_) (fun w1a hx1a => ?_)
  ·
   have hX1a := Ext.trans (Ext.refl w3) hx1a
   go_wp2_with (go_at_call 55; go_must (refine (CK.out w1a).mono ?_; rintro e_ w1b ⟨bM, rfl, hM, hs1⟩))
   have hX1b := Ext.trans hX1a hs1
   try simp only [Exit.then, Act.put, List.setIfInBounds_toArray, List.set_cons_succ, List.set_cons_zero]
   refine Dm.wpE_two (i := 3) (j := 4) (li := (Dm.bits 6 15)) (lj := (Dm.bits 6 23)) (by kernel_rfl) (by kernel_rfl) (by kernel_rfl) rfl rfl hX1b (fun w2a hx2a => ?_) (fun w2a hx2a => ?_)
   ·
    have hX2a := Ext.trans hX1b hx2a
    replace hM := hM.ext hx2a
    have hlk := hlook.out _ _ hM
    go_wp2_with fail
    clear hlk hM
    obtain ⟨w2b, hw2⟩ : ∃ x, x = w2a := ⟨_, rfl⟩
    subst hw2
    have hX2b := hX2a
    try simp only [Exit.then, Act.put, List.setIfInBounds_toArray, List.set_cons_succ, List.set_cons_zero]
    refine Dm.wpE_one (i := 4) (listed' := (Dm.bits 6 31)) (by kernel_rfl) (by kernel_rfl) rfl hX2b (fun w3a hx3a => ?_)
    have hX3a := Ext.trans hX2b hx3a
    have hF : RB w3a.heap.size 108 [.bool false, .bool false, .bool false, .bool false, .bool false, .bool false] (w3a.alloc (.cells #[.bool false, .bool false, .bool false, .bool false, .bool false, .bool false] 108)) := RB.new w3a 108 [.bool false, .bool false, .bool false, .bool false, .bool false, .bool false]
    have hbF := (hX3a).size
    go_wp2_with fail
    have hs3 : Ext w3a (w3a.alloc (.cells #[.bool false, .bool false, .bool false, .bool false, .bool false, .bool false] 108)) := (Ext.refl _).alloc _
    have hX3b := Ext.trans hX3a hs3
    generalize w3a.alloc (.cells #[.bool false, .bool false, .bool false, .bool false, .bool false, .bool false] 108) = w3b at *
    generalize w3a.heap.size = bF at *
    try simp only [Exit.then, Act.put, List.setIfInBounds_toArray, List.set_cons_succ, List.set_cons_zero]
    refine Dm.wpE_one (i := 5) (listed' := (Dm.bits 6 63)) (by kernel_rfl) (by kernel_rfl) rfl hX3b (fun w4a hx4a => ?_)
    have hX4a := Ext.trans hX3b hx4a
    replace hF := hF.ext hx4a
    have hG := hF.setRow [.bool false, .bool true, .bool false, .bool false, .bool false, .bool false]
    go_wp2_with (refine wpList_store_row (cells := #[.bool false, .bool true, .bool false, .bool false, .bool false, .bool false]) rfl 108 _ _ rfl bF rfl rfl _ _ hF (by kernel_rfl) rfl (by first | rfl | decide | simp [Value.oneCell']) ?_)
    change RB bF 108 [.bool false, .bool true, .bool false, .bool false, .bool false, .bool false] (w4a.setRow bF #[.bool false, .bool true, .bool false, .bool false, .bool false, .bool false]) at hG
    have hX4b : Ext w3 (w4a.setRow bF #[.bool false, .bool true, .bool false, .bool false, .bool false, .bool false]) := Ext.setRow hX4a hbF _
    clear hF
    generalize w4a.setRow bF #[.bool false, .bool true, .bool false, .bool false, .bool false, .bool false] = w4b at *
    try simp only [Act.put]
    refine Dm.wpE_done (by kernel_rfl) hX4b (fun w5a hx5a => ?_)
    have hX5a := Ext.trans hX4b hx5a
    replace hG := hG.ext hx5a
    exact ⟨bM, bF, rfl, hG, hbF, hX5a⟩
   ·
    have hX2a := Ext.trans hX1b hx2a
    replace hM := hM.ext hx2a
    have hF : RB w2a.heap.size 108 [.bool false, .bool false, .bool false, .bool false, .bool false, .bool false] (w2a.alloc (.cells #[.bool false, .bool false, .bool false, .bool false, .bool false, .bool false] 108)) := RB.new w2a 108 [.bool false, .bool false, .bool false, .bool false, .bool false, .bool false]
    have hbF := (hX2a).size
    go_wp2_with fail
    have hs2 : Ext w2a (w2a.alloc (.cells #[.bool false, .bool false, .bool false, .bool false, .bool false, .bool false] 108)) := (Ext.refl _).alloc _
    have hX2b := Ext.trans hX2a hs2
    generalize w2a.alloc (.cells #[.bool false, .bool false, .bool false, .bool false, .bool false, .bool false] 108) = w2b at *
    generalize w2a.heap.size = bF at *
    replace hM := hM.ext hs2
    try simp only [Exit.then, Act.put, List.setIfInBounds_toArray, List.set_cons_succ, List.set_cons_zero]
    refine Dm.wpE_one (i := 3) (listed' := (Dm.bits 6 31)) (by kernel_rfl) (by kernel_rfl) rfl hX2b (fun w6a hx6a => ?_)
    have hX6a := Ext.trans hX2b hx6a
    replace hM := hM.ext hx6a
    replace hF := hF.ext hx6a
    have hlk := hlook.out _ _ hM
    go_wp2_with fail
    clear hlk hM
    obtain ⟨w6b, hw2⟩ : ∃ x, x = w6a := ⟨_, rfl⟩
    subst hw2
    have hX6b := hX6a
    try simp only [Exit.then, Act.put, List.setIfInBounds_toArray, List.set_cons_succ, List.set_cons_zero]
    refine Dm.wpE_one (i := 5) (listed' := (Dm.bits 6 63)) (by kernel_rfl) (by kernel_rfl) rfl hX6b (fun w7a hx7a => ?_)
    have hX7a := Ext.trans hX6b hx7a
    replace hF := hF.ext hx7a
    have hG := hF.setRow [.bool false, .bool true, .bool false, .bool false, .bool false, .bool false]
    go_wp2_with (refine wpList_store_row (cells := #[.bool false, .bool true, .bool false, .bool false, .bool false, .bool false]) rfl 108 _ _ rfl bF rfl rfl _ _ hF (by kernel_rfl) rfl (by first | rfl | decide | simp [Value.oneCell']) ?_)
    change RB bF 108 [.bool false, .bool true, .bool false, .bool false, .bool false, .bool false] (w7a.setRow bF #[.bool false, .bool true, .bool false, .bool false, .bool false, .bool false]) at hG
    have hX7b : Ext w3 (w7a.setRow bF #[.bool false, .bool true, .bool false, .bool false, .bool false, .bool false]) := Ext.setRow hX7a hbF _
    clear hF
    generalize w7a.setRow bF #[.bool false, .bool true, .bool false, .bool false, .bool false, .bool false] = w7b at *
    try simp only [Act.put]
    refine Dm.wpE_done (by kernel_rfl) hX7b (fun w8a hx8a => ?_)
    have hX8a := Ext.trans hX7b hx8a
    replace hG := hG.ext hx8a
    exact ⟨bM, bF, rfl, hG, hbF, hX8a⟩
  ·
   have hX1a := Ext.trans (Ext.refl w3) hx1a
   have hF : RB w1a.heap.size 108 [.bool false, .bool false, .bool false, .bool false, .bool false, .bool false] (w1a.alloc (.cells #[.bool false, .bool false, .bool false, .bool false, .bool false, .bool false] 108)) := RB.new w1a 108 [.bool false, .bool false, .bool false, .bool false, .bool false, .bool false]
   have hbF := (hX1a).size
   go_wp2_with fail
   have hs1 : Ext w1a (w1a.alloc (.cells #[.bool false, .bool false, .bool false, .bool false, .bool false, .bool false] 108)) := (Ext.refl _).alloc _
   have hX1b := Ext.trans hX1a hs1
   generalize w1a.alloc (.cells #[.bool false, .bool false, .bool false, .bool false, .bool false, .bool false] 108) = w1b at *
   generalize w1a.heap.size = bF at *
   try simp only [Exit.then, Act.put, List.setIfInBounds_toArray, List.set_cons_succ, List.set_cons_zero]
   refine Dm.wpE_one (i := 0) (listed' := (Dm.bits 6 23)) (by kernel_rfl) (by kernel_rfl) rfl hX1b (fun w9a hx9a => ?_)
   have hX9a := Ext.trans hX1b hx9a
   replace hF := hF.ext hx9a
   go_wp2_with (go_at_call 55; go_must (refine (CK.out w9a).mono ?_; rintro e_ w9b ⟨bM, rfl, hM, hs9⟩))
   have hX9b := Ext.trans hX9a hs9
   replace hF := hF.ext hs9
   try simp only [Exit.then, Act.put, List.setIfInBounds_toArray, List.set_cons_succ, List.set_cons_zero]
   refine Dm.wpE_one (i := 3) (listed' := (Dm.bits 6 31)) (by kernel_rfl) (by kernel_rfl) rfl hX9b (fun w10a hx10a => ?_)
   have hX10a := Ext.trans hX9b hx10a
   replace hF := hF.ext hx10a
   replace hM := hM.ext hx10a
   have hlk := hlook.out _ _ hM
   go_wp2_with fail
   clear hlk hM
   obtain ⟨w10b, hw2⟩ : ∃ x, x = w10a := ⟨_, rfl⟩
   subst hw2
   have hX10b := hX10a
   try simp only [Exit.then, Act.put, List.setIfInBounds_toArray, List.set_cons_succ, List.set_cons_zero]
   refine Dm.wpE_one (i := 5) (listed' := (Dm.bits 6 63)) (by kernel_rfl) (by kernel_rfl) rfl hX10b (fun w11a hx11a => ?_)
   have hX11a := Ext.trans hX10b hx11a
   replace hF := hF.ext hx11a
   have hG := hF.setRow [.bool false, .bool true, .bool false, .bool false, .bool false, .bool false]
   go_wp2_with (refine wpList_store_row (cells := #[.bool false, .bool true, .bool false, .bool false, .bool false, .bool false]) rfl 108 _ _ rfl bF rfl rfl _ _ hF (by kernel_rfl) rfl (by first | rfl | decide | simp [Value.oneCell']) ?_)
   change RB bF 108 [.bool false, .bool true, .bool false, .bool false, .bool false, .bool false] (w11a.setRow bF #[.bool false, .bool true, .bool false, .bool false, .bool false, .bool false]) at hG
   have hX11b : Ext w3 (w11a.setRow bF #[.bool false, .bool true, .bool false, .bool false, .bool false, .bool false]) := Ext.setRow hX11a hbF _
   clear hF
   generalize w11a.setRow bF #[.bool false, .bool true, .bool false, .bool false, .bool false, .bool false] = w11b at *
   try simp only [Act.put]
   refine Dm.wpE_done (by kernel_rfl) hX11b (fun w12a hx12a => ?_)
   have hX12a := Ext.trans hX11b hx12a
   replace hG := hG.ext hx12a
   exact ⟨bM, bF, rfl, hG, hbF, hX12a⟩
 rintro a_ w4 ⟨bM, bF, rfl, hG, hbF, h4⟩
 simp only [Act.put, List.setIfInBounds_toArray, List.set_cons_succ, List.set_cons_zero]
 have hAF : bA ≠ bF := by omega
 clear a0 al hbF
 replace hA := hA.ext h4
 replace hE := hE.trans h4
 clear h4
 have gl := hG.lt
 have g0 : w4.cell? ⟨bF, 0, none⟩ = some (.bool false) := hG.cell 0
 have g1 : w4.cell? ⟨bF, 1, none⟩ = some (.bool true) := hG.cell 1
 have g2 : w4.cell? ⟨bF, 2, none⟩ = some (.bool false) := hG.cell 2
 have g3 : w4.cell? ⟨bF, 3, none⟩ = some (.bool false) := hG.cell 3
 have g4 : w4.cell? ⟨bF, 4, none⟩ = some (.bool false) := hG.cell 4
 have g5 : w4.cell? ⟨bF, 5, none⟩ = some (.bool false) := hG.cell 5
 go_wp2_with fail
 refine (CI.out _).mono ?_; rintro e_ w6 ⟨rfl, h6⟩
 clear gl g0 g1 g2 g3 g4 g5
 replace hA := hA.ext h6
 replace hG := hG.ext h6
 replace hE := hE.trans h6
 clear h6
 have al := hA.lt
 have a2 : w6.cell? ⟨bA, 2, none⟩ = some (.int .u64 0) := hA.cell 2
 have af2 := hA.free 2
 go_upto_region 10 with fail
 clear al a2 af2
 have hA' : RB bA 33 [.int .i64 (k : Nat), .int .u64 0, .int .u64 (a : Nat), .string ⟨#[]⟩, .int .u64 0, .int .u64 0, .int .u64 0, .int .u64 0, .string ⟨#[]⟩, .int .u64 0, .int .u64 0, .int .u64 0, .int .u64 0, .int .i64 0, .int .i64 0, .int .i64 0, .slice none 0 0, .slice none 0 0] (w6.setCell ⟨bA, 2, none⟩ (.int .u64 (a : Nat))) := (hA.set 2 (.int .u64 (a : Nat)))
 have hG' : RB bF 108 [.bool false, .bool true, .bool false, .bool false, .bool false, .bool false] (w6.setCell ⟨bA, 2, none⟩ (.int .u64 (a : Nat))) := (hG.far (c := bA) (i := 2) hAF (.int .u64 (a : Nat)))
 have hE' : Ext w (w6.setCell ⟨bA, 2, none⟩ (.int .u64 (a : Nat))) := (Below.setCell hE (p := ⟨bA, 2, none⟩) hwA (.int .u64 (a : Nat)))
 clear hA hG hE
 have hA := hA'
 have hG := hG'
 have hE := hE'
 clear hA' hG' hE'
 generalize (w6.setCell ⟨bA, 2, none⟩ (.int .u64 (a : Nat))) = w7 at *
 cases ba with
 | false =>
  have gl := hG.lt
  have g0 : w7.cell? ⟨bF, 0, none⟩ = some (.bool false) := hG.cell 0
  have g1 : w7.cell? ⟨bF, 1, none⟩ = some (.bool true) := hG.cell 1
  have g2 : w7.cell? ⟨bF, 2, none⟩ = some (.bool false) := hG.cell 2
  have g3 : w7.cell? ⟨bF, 3, none⟩ = some (.bool false) := hG.cell 3
  have g4 : w7.cell? ⟨bF, 4, none⟩ = some (.bool false) := hG.cell 4
  have g5 : w7.cell? ⟨bF, 5, none⟩ = some (.bool false) := hG.cell 5
  have hZ := hA.setRow [.int .i64 0, .int .u64 0, .int .u64 0, .string ⟨#[]⟩, .int .u64 0, .int .u64 0, .int .u64 0, .int .u64 0, .string ⟨#[]⟩, .int .u64 0, .int .u64 0, .int .u64 0, .int .u64 0, .int .i64 0, .int .i64 0, .int .i64 0, .slice none 0 0, .slice none 0 0]
  go_wp2_with (first | (refine wpList_load_row rfl 33 _ rfl bA rfl _ _ _ _ hA Tryz.underlying33 rfl (by kernel_rfl) ?_) | (refine wpList_store_row (cells := #[.int .i64 0, .int .u64 0, .int .u64 0, .string ⟨#[]⟩, .int .u64 0, .int .u64 0, .int .u64 0, .int .u64 0, .string ⟨#[]⟩, .int .u64 0, .int .u64 0, .int .u64 0, .int .u64 0, .int .i64 0, .int .i64 0, .int .i64 0, .slice none 0 0, .slice none 0 0]) rfl 33 _ _ rfl bA rfl rfl _ _ hA (by kernel_rfl) rfl (by first | rfl | decide | simp [Value.oneCell']) ?_))
  refine bodyPost_ret (results_row3 (p := 4) (t := 5) (u := 6) rfl _ _ _ _ _ _ _ rfl hZ Tryz.underlying33 rfl (by kernel_rfl)) rfl ?_
  have hGe : G = ((((k : Nat) : Int), (0, a), ⟨#[]⟩, noV, noSp, []), qa, false) := by rw [← hGd.out]; simp only [rdF, rdA, rdT, rdV, rdX, rdL, cond_true, cond_false, Bool.and_false, ra]; first | done | rfl
  subst hGe
  exact ⟨GotO.no _ _ _ (fun h => by cases h.1), Ext.setRow hE hwA _⟩
 | true =>
  have CR : Calls Tryz.prog 25 #[.agg #[.int .i64 (k : Nat), .int .u64 0, .int .u64 (a : Nat), .string ⟨#[]⟩, .int .u64 0, .int .u64 0, .int .u64 0, .int .u64 0, .string ⟨#[]⟩, .int .u64 0, .int .u64 0, .int .u64 0, .int .u64 0, .int .i64 0, .int .i64 0, .int .i64 0, .slice none 0 0, .slice none 0 0]] w7 fun e_ w' => e_ = .returned (.bool (rightO (((k : Nat) : Int), (0, a), ⟨#[]⟩, noV, noSp, []))) ∧ Ext w7 w' :=
   aright_w k 0 a ⟨#[]⟩ noV ⟨#[]⟩ noV (0, 0, 0) (.slice none 0 0) (.slice none 0 0) [] [] w7 hk okV_no (by show (0 : Nat) < _; decide) okV_no (by show (0 : Nat) ≤ _; omega) (fun r hr => by cases hr) (Terms.nil _) (by show (0 : Nat) ≤ _; omega) FitP.nil (Pairs.nil _) (hv.ext hE)
  have hGe : G = ((((k : Nat) : Int), (0, a), ⟨#[]⟩, noV, noSp, []), qa, true) := by rw [← hGd.out]; simp only [rdF, rdA, rdT, rdV, rdX, rdL, cond_true, cond_false, Bool.and_false, ra]; first | done | rfl
  subst hGe
  have hGN := fun U => GotO.no w.heap.size U (((((k : Nat) : Int), (0, a), ⟨#[]⟩, noV, noSp, []), qa, true) : OpQ × Int × Bool)
  have hGY : rightO (((k : Nat) : Int), (0, a), ⟨#[]⟩, noV, noSp, []) = true → finO ((((k : Nat) : Int), (0, a), ⟨#[]⟩, noV, noSp, []), qa, true) = ((((k : Nat) : Int), (0, a), ⟨#[]⟩, noV, noSp, []), qa, true) := fun h => by unfold finO; rw [if_pos ⟨rfl, h⟩]
  have hOk : OkO (((k : Nat) : Int), (0, a), ⟨#[]⟩, noV, noSp, []) := ⟨hk, u64_zero, fa, okV_no, (by show (0 : Nat) < _; decide), okV_no, (by show (0 : Nat) ≤ _; omega), FitP.nil⟩
  cases hro : rightO (((k : Nat) : Int), (0, a), ⟨#[]⟩, noV, noSp, []) with
  | false =>
   replace hGN := Lib.hid (fun U => hGN U (fun h => by rw [hro] at h; cases h.2))
   rw [hro] at CR
   replace CR := Lib.hid CR
   clear hro hGY
   have gl := hG.lt
   have g0 : w7.cell? ⟨bF, 0, none⟩ = some (.bool false) := hG.cell 0
   have g1 : w7.cell? ⟨bF, 1, none⟩ = some (.bool true) := hG.cell 1
   have g2 : w7.cell? ⟨bF, 2, none⟩ = some (.bool false) := hG.cell 2
   have g3 : w7.cell? ⟨bF, 3, none⟩ = some (.bool false) := hG.cell 3
   have g4 : w7.cell? ⟨bF, 4, none⟩ = some (.bool false) := hG.cell 4
   have g5 : w7.cell? ⟨bF, 5, none⟩ = some (.bool false) := hG.cell 5
   go_wp2_with (refine wpList_load_row_g (by kernel_rfl) 33 _ rfl bA rfl _ _ _ _ hA Tryz.underlying33 rfl (by kernel_rfl) ?_)
   refine CR.out.mono ?_; rintro e_ wq ⟨rfl, hq⟩
   clear gl g0 g1 g2 g3 g4 g5
   replace hA := hA.ext hq
   replace hE := hE.trans hq
   have hZ := hA.setRow [.int .i64 0, .int .u64 0, .int .u64 0, .string ⟨#[]⟩, .int .u64 0, .int .u64 0, .int .u64 0, .int .u64 0, .string ⟨#[]⟩, .int .u64 0, .int .u64 0, .int .u64 0, .int .u64 0, .int .i64 0, .int .i64 0, .int .i64 0, .slice none 0 0, .slice none 0 0]
   go_wp2_with (refine wpList_store_row (cells := #[.int .i64 0, .int .u64 0, .int .u64 0, .string ⟨#[]⟩, .int .u64 0, .int .u64 0, .int .u64 0, .int .u64 0, .string ⟨#[]⟩, .int .u64 0, .int .u64 0, .int .u64 0, .int .u64 0, .int .i64 0, .int .i64 0, .int .i64 0, .slice none 0 0, .slice none 0 0]) rfl 33 _ _ rfl bA rfl rfl _ _ hA (by kernel_rfl) rfl (by first | rfl | decide | simp [Value.oneCell']) ?_)
   refine bodyPost_ret (results_row3 (p := 4) (t := 5) (u := 6) rfl _ _ _ _ _ _ _ rfl hZ Tryz.underlying33 rfl (by kernel_rfl)) rfl ?_
   exact ⟨hGN.out _, Ext.setRow hE hwA _⟩
  | true =>
   have hFe := Lib.hid (hGY hro)
   rw [hro] at CR
   replace CR := Lib.hid CR
   clear hro hGN hGY
   have gl := hG.lt
   have g0 : w7.cell? ⟨bF, 0, none⟩ = some (.bool false) := hG.cell 0
   have g1 : w7.cell? ⟨bF, 1, none⟩ = some (.bool true) := hG.cell 1
   have g2 : w7.cell? ⟨bF, 2, none⟩ = some (.bool false) := hG.cell 2
   have g3 : w7.cell? ⟨bF, 3, none⟩ = some (.bool false) := hG.cell 3
   have g4 : w7.cell? ⟨bF, 4, none⟩ = some (.bool false) := hG.cell 4
   have g5 : w7.cell? ⟨bF, 5, none⟩ = some (.bool false) := hG.cell 5
   go_wp2_with (refine wpList_load_row_g (by kernel_rfl) 33 _ rfl bA rfl _ _ _ _ hA Tryz.underlying33 rfl (by kernel_rfl) ?_)
   refine CR.out.mono ?_; rintro e_ wq ⟨rfl, hq⟩
   clear gl g0 g1 g2 g3 g4 g5
   replace hA := hA.ext hq
   replace hE := hE.trans hq
   have hZ := hA.setRow [.int .i64 (k : Nat), .int .u64 0, .int .u64 (a : Nat), .string ⟨#[]⟩, .int .u64 0, .int .u64 0, .int .u64 0, .int .u64 0, .string ⟨#[]⟩, .int .u64 0, .int .u64 0, .int .u64 0, .int .u64 0, .int .i64 0, .int .i64 0, .int .i64 0, .slice none 0 0, .slice none 0 0]
   go_wp2_with (first | (refine wpList_load_row rfl 33 _ rfl bA rfl _ _ _ _ hA Tryz.underlying33 rfl (by kernel_rfl) ?_) | (refine wpList_store_row (cells := #[.int .i64 (k : Nat), .int .u64 0, .int .u64 (a : Nat), .string ⟨#[]⟩, .int .u64 0, .int .u64 0, .int .u64 0, .int .u64 0, .string ⟨#[]⟩, .int .u64 0, .int .u64 0, .int .u64 0, .int .u64 0, .int .i64 0, .int .i64 0, .int .i64 0, .slice none 0 0, .slice none 0 0]) rfl 33 _ _ rfl bA rfl rfl _ _ hA (by kernel_rfl) rfl (by first | rfl | decide | simp [Value.oneCell']) ?_))
   refine bodyPost_ret (results_row3 (p := 4) (t := 5) (u := 6) rfl _ _ _ _ _ _ _ rfl hZ Tryz.underlying33 rfl (by kernel_rfl)) rfl ?_
   refine ⟨?_, Ext.setRow hE hwA _⟩
   rw [hFe.out]
   refine ⟨.slice none 0 0, .slice none 0 0, [], rfl, ?_, (fun r hr => by cases hr), (by show (0 : Nat) ≤ _; omega), rfl, ?_, hOk, OwnT.nil _, (fun c h => by cases h)⟩
   ·exact Terms.nil _
   ·exact Pairs.nil _

set_option maxHeartbeats 4000000 in
set_option maxRecDepth 100000 in
theorem aget_c4 (s : ByteArray) (p : Int) (w : World) (hs : s.size ≤ 281474976710656) (hv : Vars w) (hok : (getI s.data.toList p).2.2 = true) (h13 : (getI s.data.toList p).1 ≤ 13) (hfd : (knownF ((getI s.data.toList p).1 : Nat)).getD noFld = (false, false, true, false, false, false)) :
  Calls Tryz.prog 40 #[.string s, .int .i64 p] w fun e_ w' => GotO w.heap.size w' (finO (rdF s.data.toList (false, false, true, false, false, false) ((getI s.data.toList p).1 : Nat) (getI s.data.toList p).2.1)) e_ ∧ Ext w w' := by
 have hU : U64 s.data.toList.length := Nat.lt_of_le_of_lt (show s.size ≤ _ from hs) (by decide)
 have C1 := fun U => wget_w s p U hs
 have hkf := getI_fit (l := s.data.toList) (p := p) hs
 obtain ⟨⟨k, q, b⟩, hr⟩ : ∃ r, getI s.data.toList p = r := ⟨_, rfl⟩
 rw [hr] at C1 hok h13 hfd hkf ⊢
 simp only at C1 hok h13 hfd hkf ⊢
 subst hok
 clear hr
 have hk : -9223372036854775808 ≤ (k : Int) ∧ (k : Int) ≤ 9223372036854775807 := by omega
 have CK := fun U => aknown_w U
 have hlook := fun (U : World) B (h : MapK U B 13 knownF) => h.look1 hk
 rw [hfd] at hlook
 unfold fldV at hlook
 simp only at hlook
 clear hfd
 have CT := fun U => wgettext_w s q 98 U hs (by omega)
 obtain ⟨⟨t, qt, bt⟩, rt⟩ : ∃ r, atI (getTextL 98) [] s.data.toList q = r := ⟨_, rfl⟩
 rw [rt] at CT
 simp only at CT
 obtain ⟨G, hGd⟩ : ∃ g, rdF s.data.toList (false, false, true, false, false, false) ((k : Nat) : Int) q = g := ⟨_, rfl⟩
 rw [hGd]
 replace hGd := Lib.hid hGd
 replace CK := Lib.hid CK
 replace C1 := Lib.hid C1
 replace hlook := Lib.hid hlook
 replace CT := Lib.hid CT
 obtain ⟨w1, hW1, hA, hE, -⟩ := new_row w 33 [.int .i64 0, .int .u64 0, .int .u64 0, .string ⟨#[]⟩, .int .u64 0, .int .u64 0, .int .u64 0, .int .u64 0, .string ⟨#[]⟩, .int .u64 0, .int .u64 0, .int .u64 0, .int .u64 0, .int .i64 0, .int .i64 0, .int .i64 0, .slice none 0 0, .slice none 0 0]
 obtain ⟨bA, hbA⟩ : ∃ x, w.heap.size = x := ⟨_, rfl⟩
 have hwA : w.heap.size ≤ bA := by omega
 rw [hbA] at hA
 go_enter Tryz.func40, Tryz.ntmps40
 go_upto_region 1 with fail
 clear hW1 hbA
 go_wp2_with fail
 refine (C1.out _).mono ?_; rintro e_ w2 ⟨rfl, h2⟩
 replace hA := hA.ext h2
 replace hE := hE.trans h2
 clear h2
 have al := hA.lt
 have a0 : w2.cell? ⟨bA, 0, none⟩ = some (.int .i64 0) := hA.cell 0
 have af0 := hA.free 0
 go_upto_region 5 with fail
 clear al a0 af0
 have hA' : RB bA 33 [.int .i64 (k : Nat), .int .u64 0, .int .u64 0, .string ⟨#[]⟩, .int .u64 0, .int .u64 0, .int .u64 0, .int .u64 0, .string ⟨#[]⟩, .int .u64 0, .int .u64 0, .int .u64 0, .int .u64 0, .int .i64 0, .int .i64 0, .int .i64 0, .slice none 0 0, .slice none 0 0] (w2.setCell ⟨bA, 0, none⟩ (.int .i64 (k : Nat))) := hA.set 0 (.int .i64 (k : Nat))
 have hE' : Ext w (w2.setCell ⟨bA, 0, none⟩ (.int .i64 (k : Nat))) := Below.setCell hE (p := ⟨bA, 0, none⟩) hwA _
 clear hA hE
 have hA := hA'
 have hE := hE'
 clear hA' hE'
 generalize w2.setCell ⟨bA, 0, none⟩ (.int .i64 (k : Nat)) = w3 at *
 have al := hA.lt
 have a0 : w3.cell? ⟨bA, 0, none⟩ = some (.int .i64 (k : Nat)) := hA.cell 0
 refine region_cut (fun a_ a' w' => ∃ bM bF : Nat, a' = ((((a_.put (some 26) (.map (some bM))).put (some 27) (.pointer (some ⟨bA, 0, none⟩))).put (some 28) (.int .i64 (k : Nat))).put (some 29) (.agg #[.bool false, .bool false, .bool true, .bool false, .bool false, .bool false])).put (some 8) (.pointer (some ⟨bF, 0, none⟩)) ∧ RB bF 108 [.bool false, .bool false, .bool true, .bool false, .bool false, .bool false] w' ∧ w3.heap.size ≤ bF ∧ Ext w3 w') ?_ ?_
 ·skip
  try simp only [Act.put, List.setIfInBounds_toArray, List.set_cons_succ, List.set_cons_zero]
  refine Dm.wp_region_ext 6 (Dm.bits 6 0) (Ext.refl w3) (by kernel_rfl) (by kernel_rfl) (by kernel_rfl) ?_
  refine Dm.wpE_take (i := 1) (listed' := (Dm.bits 6 2)) (by kernel_rfl) (by kernel_rfl) rfl (fun _ _ _ _ h => h) ?_; apply Exists.intro; refine And.intro (fun x => ?_) ?_
  ·go_big_quiet_step (fail); exact wpQuiet_nil rfl
  refine Dm.wpE_take (i := 2) (listed' := (Dm.bits 6 6)) (by kernel_rfl) (by kernel_rfl) rfl (fun _ _ _ _ h => h) ?_; apply Exists.intro; refine And.intro (fun x => ?_) ?_
  ·go_big_quiet_step (fail); exact wpQuiet_nil rfl
  refine Dm.wpE_two (i := 0) (j := 4) (li := (Dm.bits 6 7)) (lj := (Dm.bits 6 22)) (by kernel_rfl) (by kernel_rfl) (by kernel_rfl) rfl rfl (Ext.refl w3) (fun w1a hx1a => ?_) (fun w1a hx1a => ?_)
  ·
   have hX1a := Ext.trans (Ext.refl w3) hx1a
   go_wp2_with (go_at_call 55; go_must (refine (CK.out w1a).mono ?_; rintro e_ w1b ⟨bM, rfl, hM, hs1⟩))
   have hX1b := Ext.trans hX1a hs1
   try simp only [Exit.then, Act.put, List.setIfInBounds_toArray, List.set_cons_succ, List.set_cons_zero]
   refine Dm.wpE_two (i := 3) (j := 4) (li := (Dm.bits 6 15)) (lj := (Dm.bits 6 23)) (by kernel_rfl) (by kernel_rfl) (by kernel_rfl) rfl rfl hX1b (fun w2a hx2a => ?_) (fun w2a hx2a => ?_)
   ·
    have hX2a := Ext.trans hX1b hx2a
    replace hM := hM.ext hx2a
    have hlk := hlook.out _ _ hM
    go_wp2_with fail
    clear hlk hM
    obtain ⟨w2b, hw2⟩ : ∃ x, x = w2a := ⟨_, rfl⟩
    subst hw2
    have hX2b := hX2a
    try simp only [Exit.then, Act.put, List.setIfInBounds_toArray, List.set_cons_succ, List.set_cons_zero]
    refine Dm.wpE_one (i := 4) (listed' := (Dm.bits 6 31)) (by kernel_rfl) (by kernel_rfl) rfl hX2b (fun w3a hx3a => ?_)
    have hX3a := Ext.trans hX2b hx3a
    have hF : RB w3a.heap.size 108 [.bool false, .bool false, .bool false, .bool false, .bool false, .bool false] (w3a.alloc (.cells #[.bool false, .bool false, .bool false, .bool false, .bool false, .bool false] 108)) := RB.new w3a 108 [.bool false, .bool false, .bool false, .bool false, .bool false, .bool false]
    have hbF := (hX3a).size
    go_wp2_with fail
    have hs3 : Ext w3a (w3a.alloc (.cells #[.bool false, .bool false, .bool false, .bool false, .bool false, .bool false] 108)) := (Ext.refl _).alloc _
    have hX3b := Ext.trans hX3a hs3
    generalize w3a.alloc (.cells #[.bool false, .bool false, .bool false, .bool false, .bool false, .bool false] 108) = w3b at *
    generalize w3a.heap.size = bF at *
    try simp only [Exit.then, Act.put, List.setIfInBounds_toArray, List.set_cons_succ, List.set_cons_zero]
    refine Dm.wpE_one (i := 5) (listed' := (Dm.bits 6 63)) (by kernel_rfl) (by kernel_rfl) rfl hX3b (fun w4a hx4a => ?_)
    have hX4a := Ext.trans hX3b hx4a
    replace hF := hF.ext hx4a
    have hG := hF.setRow [.bool false, .bool false, .bool true, .bool false, .bool false, .bool false]
    go_wp2_with (refine wpList_store_row (cells := #[.bool false, .bool false, .bool true, .bool false, .bool false, .bool false]) rfl 108 _ _ rfl bF rfl rfl _ _ hF (by kernel_rfl) rfl (by first | rfl | decide | simp [Value.oneCell']) ?_)
    change RB bF 108 [.bool false, .bool false, .bool true, .bool false, .bool false, .bool false] (w4a.setRow bF #[.bool false, .bool false, .bool true, .bool false, .bool false, .bool false]) at hG
    have hX4b : Ext w3 (w4a.setRow bF #[.bool false, .bool false, .bool true, .bool false, .bool false, .bool false]) := Ext.setRow hX4a hbF _
    clear hF
    generalize w4a.setRow bF #[.bool false, .bool false, .bool true, .bool false, .bool false, .bool false] = w4b at *
    try simp only [Act.put]
    refine Dm.wpE_done (by kernel_rfl) hX4b (fun w5a hx5a => ?_)
    have hX5a := Ext.trans hX4b hx5a
    replace hG := hG.ext hx5a
    exact ⟨bM, bF, rfl, hG, hbF, hX5a⟩
   ·
    have hX2a := Ext.trans hX1b hx2a
    replace hM := hM.ext hx2a
    have hF : RB w2a.heap.size 108 [.bool false, .bool false, .bool false, .bool false, .bool false, .bool false] (w2a.alloc (.cells #[.bool false, .bool false, .bool false, .bool false, .bool false, .bool false] 108)) := RB.new w2a 108 [.bool false, .bool false, .bool false, .bool false, .bool false, .bool false]
    have hbF := (hX2a).size
    go_wp2_with fail
    have hs2 : Ext w2a (w2a.alloc (.cells #[.bool false, .bool false, .bool false, .bool false, .bool false, .bool false] 108)) := (Ext.refl _).alloc _
    have hX2b := Ext.trans hX2a hs2
    generalize w2a.alloc (.cells #[.bool false, .bool false, .bool false, .bool false, .bool false, .bool false] 108) = w2b at *
    generalize w2a.heap.size = bF at *
    replace hM := hM.ext hs2
    try simp only [Exit.then, Act.put, List.setIfInBounds_toArray, List.set_cons_succ, List.set_cons_zero]
    refine Dm.wpE_one (i := 3) (listed' := (Dm.bits 6 31)) (by kernel_rfl) (by kernel_rfl) rfl hX2b (fun w6a hx6a => ?_)
    have hX6a := Ext.trans hX2b hx6a
    replace hM := hM.ext hx6a
    replace hF := hF.ext hx6a
    have hlk := hlook.out _ _ hM
    go_wp2_with fail
    clear hlk hM
    obtain ⟨w6b, hw2⟩ : ∃ x, x = w6a := ⟨_, rfl⟩
    subst hw2
    have hX6b := hX6a
    try simp only [Exit.then, Act.put, List.setIfInBounds_toArray, List.set_cons_succ, List.set_cons_zero]
    refine Dm.wpE_one (i := 5) (listed' := (Dm.bits 6 63)) (by kernel_rfl) (by kernel_rfl) rfl hX6b (fun w7a hx7a => ?_)
    have hX7a := Ext.trans hX6b hx7a
    replace hF := hF.ext hx7a
    have hG := hF.setRow [.bool false, .bool false, .bool true, .bool false, .bool false, .bool false]
    go_wp2_with (refine wpList_store_row (cells := #[.bool false, .bool false, .bool true, .bool false, .bool false, .bool false]) rfl 108 _ _ rfl bF rfl rfl _ _ hF (by kernel_rfl) rfl (by first | rfl | decide | simp [Value.oneCell']) ?_)
    change RB bF 108 [.bool false, .bool false, .bool true, .bool false, .bool false, .bool false] (w7a.setRow bF #[.bool false, .bool false, .bool true, .bool false, .bool false, .bool false]) at hG
    have hX7b : Ext w3 (w7a.setRow bF #[.bool false, .bool false, .bool true, .bool false, .bool false, .bool false]) := Ext.setRow hX7a hbF _
    clear hF
    generalize w7a.setRow bF #[.bool false, .bool false, .bool true, .bool false, .bool false, .bool false] = w7b at *
    try simp only [Act.put]
    refine Dm.wpE_done (by kernel_rfl) hX7b (fun w8a hx8a => ?_)
    have hX8a := Ext.trans hX7b hx8a
    replace hG := hG.ext hx8a
    exact ⟨bM, bF, rfl, hG, hbF, hX8a⟩
  ·
   have hX1a := Ext.trans (Ext.refl w3) hx1a
   have hF : RB w1a.heap.size 108 [.bool false, .bool false, .bool false, .bool false, .bool false, .bool false] (w1a.alloc (.cells #[.bool false, .bool false, .bool false, .bool false, .bool false, .bool false] 108)) := RB.new w1a 108 [.bool false, .bool false, .bool false, .bool false, .bool false, .bool false]
   have hbF := (hX1a).size
   go_wp2_with fail
   have hs1 : Ext w1a (w1a.alloc (.cells #[.bool false, .bool false, .bool false, .bool false, .bool false, .bool false] 108)) := (Ext.refl _).alloc _
   have hX1b := Ext.trans hX1a hs1
   generalize w1a.alloc (.cells #[.bool false, .bool false, .bool false, .bool false, .bool false, .bool false] 108) = w1b at *
   generalize w1a.heap.size = bF at *
   try simp only [Exit.then, Act.put, List.setIfInBounds_toArray, List.set_cons_succ, List.set_cons_zero]
   refine Dm.wpE_one (i := 0) (listed' := (Dm.bits 6 23)) (by kernel_rfl) (by kernel_rfl) rfl hX1b (fun w9a hx9a => ?_)
   have hX9a := Ext.trans hX1b hx9a
   replace hF := hF.ext hx9a
   go_wp2_with (go_at_call 55; go_must (refine (CK.out w9a).mono ?_; rintro e_ w9b ⟨bM, rfl, hM, hs9⟩))
   have hX9b := Ext.trans hX9a hs9
   replace hF := hF.ext hs9
   try simp only [Exit.then, Act.put, List.setIfInBounds_toArray, List.set_cons_succ, List.set_cons_zero]
   refine Dm.wpE_one (i := 3) (listed' := (Dm.bits 6 31)) (by kernel_rfl) (by kernel_rfl) rfl hX9b (fun w10a hx10a => ?_)
   have hX10a := Ext.trans hX9b hx10a
   replace hF := hF.ext hx10a
   replace hM := hM.ext hx10a
   have hlk := hlook.out _ _ hM
   go_wp2_with fail
   clear hlk hM
   obtain ⟨w10b, hw2⟩ : ∃ x, x = w10a := ⟨_, rfl⟩
   subst hw2
   have hX10b := hX10a
   try simp only [Exit.then, Act.put, List.setIfInBounds_toArray, List.set_cons_succ, List.set_cons_zero]
   refine Dm.wpE_one (i := 5) (listed' := (Dm.bits 6 63)) (by kernel_rfl) (by kernel_rfl) rfl hX10b (fun w11a hx11a => ?_)
   have hX11a := Ext.trans hX10b hx11a
   replace hF := hF.ext hx11a
   have hG := hF.setRow [.bool false, .bool false, .bool true, .bool false, .bool false, .bool false]
   go_wp2_with (refine wpList_store_row (cells := #[.bool false, .bool false, .bool true, .bool false, .bool false, .bool false]) rfl 108 _ _ rfl bF rfl rfl _ _ hF (by kernel_rfl) rfl (by first | rfl | decide | simp [Value.oneCell']) ?_)
   change RB bF 108 [.bool false, .bool false, .bool true, .bool false, .bool false, .bool false] (w11a.setRow bF #[.bool false, .bool false, .bool true, .bool false, .bool false, .bool false]) at hG
   have hX11b : Ext w3 (w11a.setRow bF #[.bool false, .bool false, .bool true, .bool false, .bool false, .bool false]) := Ext.setRow hX11a hbF _
   clear hF
   generalize w11a.setRow bF #[.bool false, .bool false, .bool true, .bool false, .bool false, .bool false] = w11b at *
   try simp only [Act.put]
   refine Dm.wpE_done (by kernel_rfl) hX11b (fun w12a hx12a => ?_)
   have hX12a := Ext.trans hX11b hx12a
   replace hG := hG.ext hx12a
   exact ⟨bM, bF, rfl, hG, hbF, hX12a⟩
 rintro a_ w4 ⟨bM, bF, rfl, hG, hbF, h4⟩
 simp only [Act.put, List.setIfInBounds_toArray, List.set_cons_succ, List.set_cons_zero]
 have hAF : bA ≠ bF := by omega
 clear a0 al hbF
 replace hA := hA.ext h4
 replace hE := hE.trans h4
 clear h4
 have gl := hG.lt
 have g0 : w4.cell? ⟨bF, 0, none⟩ = some (.bool false) := hG.cell 0
 have g1 : w4.cell? ⟨bF, 1, none⟩ = some (.bool false) := hG.cell 1
 have g2 : w4.cell? ⟨bF, 2, none⟩ = some (.bool true) := hG.cell 2
 have g3 : w4.cell? ⟨bF, 3, none⟩ = some (.bool false) := hG.cell 3
 have g4 : w4.cell? ⟨bF, 4, none⟩ = some (.bool false) := hG.cell 4
 have g5 : w4.cell? ⟨bF, 5, none⟩ = some (.bool false) := hG.cell 5
 go_wp2_with fail
 refine (CT.out _).mono ?_; rintro e_ w6 ⟨rfl, h6⟩
 clear gl g0 g1 g2 g3 g4 g5
 replace hA := hA.ext h6
 replace hG := hG.ext h6
 replace hE := hE.trans h6
 clear h6
 have al := hA.lt
 have a3 : w6.cell? ⟨bA, 3, none⟩ = some (.string ⟨#[]⟩) := hA.cell 3
 have af3 := hA.free 3
 go_upto_region 12 with fail
 clear al a3 af3
 have hA' : RB bA 33 [.int .i64 (k : Nat), .int .u64 0, .int .u64 0, .string ⟨t.toArray⟩, .int .u64 0, .int .u64 0, .int .u64 0, .int .u64 0, .string ⟨#[]⟩, .int .u64 0, .int .u64 0, .int .u64 0, .int .u64 0, .int .i64 0, .int .i64 0, .int .i64 0, .slice none 0 0, .slice none 0 0] (w6.setCell ⟨bA, 3, none⟩ (.string ⟨t.toArray⟩)) := (hA.set 3 (.string ⟨t.toArray⟩))
 have hG' : RB bF 108 [.bool false, .bool false, .bool true, .bool false, .bool false, .bool false] (w6.setCell ⟨bA, 3, none⟩ (.string ⟨t.toArray⟩)) := (hG.far (c := bA) (i := 3) hAF (.string ⟨t.toArray⟩))
 have hE' : Ext w (w6.setCell ⟨bA, 3, none⟩ (.string ⟨t.toArray⟩)) := (Below.setCell hE (p := ⟨bA, 3, none⟩) hwA (.string ⟨t.toArray⟩))
 clear hA hG hE
 have hA := hA'
 have hG := hG'
 have hE := hE'
 clear hA' hG' hE'
 generalize (w6.setCell ⟨bA, 3, none⟩ (.string ⟨t.toArray⟩)) = w7 at *
 cases bt with
 | false =>
  have gl := hG.lt
  have g0 : w7.cell? ⟨bF, 0, none⟩ = some (.bool false) := hG.cell 0
  have g1 : w7.cell? ⟨bF, 1, none⟩ = some (.bool false) := hG.cell 1
  have g2 : w7.cell? ⟨bF, 2, none⟩ = some (.bool true) := hG.cell 2
  have g3 : w7.cell? ⟨bF, 3, none⟩ = some (.bool false) := hG.cell 3
  have g4 : w7.cell? ⟨bF, 4, none⟩ = some (.bool false) := hG.cell 4
  have g5 : w7.cell? ⟨bF, 5, none⟩ = some (.bool false) := hG.cell 5
  have hZ := hA.setRow [.int .i64 0, .int .u64 0, .int .u64 0, .string ⟨#[]⟩, .int .u64 0, .int .u64 0, .int .u64 0, .int .u64 0, .string ⟨#[]⟩, .int .u64 0, .int .u64 0, .int .u64 0, .int .u64 0, .int .i64 0, .int .i64 0, .int .i64 0, .slice none 0 0, .slice none 0 0]
  go_wp2_with (first | (refine wpList_load_row rfl 33 _ rfl bA rfl _ _ _ _ hA Tryz.underlying33 rfl (by kernel_rfl) ?_) | (refine wpList_store_row (cells := #[.int .i64 0, .int .u64 0, .int .u64 0, .string ⟨#[]⟩, .int .u64 0, .int .u64 0, .int .u64 0, .int .u64 0, .string ⟨#[]⟩, .int .u64 0, .int .u64 0, .int .u64 0, .int .u64 0, .int .i64 0, .int .i64 0, .int .i64 0, .slice none 0 0, .slice none 0 0]) rfl 33 _ _ rfl bA rfl rfl _ _ hA (by kernel_rfl) rfl (by first | rfl | decide | simp [Value.oneCell']) ?_))
  refine bodyPost_ret (results_row3 (p := 4) (t := 5) (u := 6) rfl _ _ _ _ _ _ _ rfl hZ Tryz.underlying33 rfl (by kernel_rfl)) rfl ?_
  have hGe : G = ((((k : Nat) : Int), (0, 0), ⟨t.toArray⟩, noV, noSp, []), qt, false) := by rw [← hGd.out]; simp only [rdF, rdA, rdT, rdV, rdX, rdL, cond_true, cond_false, Bool.and_false, rt]; first | done | rfl
  subst hGe
  exact ⟨GotO.no _ _ _ (fun h => by cases h.1), Ext.setRow hE hwA _⟩
 | true =>
  have CR : Calls Tryz.prog 25 #[.agg #[.int .i64 (k : Nat), .int .u64 0, .int .u64 0, .string ⟨t.toArray⟩, .int .u64 0, .int .u64 0, .int .u64 0, .int .u64 0, .string ⟨#[]⟩, .int .u64 0, .int .u64 0, .int .u64 0, .int .u64 0, .int .i64 0, .int .i64 0, .int .i64 0, .slice none 0 0, .slice none 0 0]] w7 fun e_ w' => e_ = .returned (.bool (rightO (((k : Nat) : Int), (0, 0), ⟨t.toArray⟩, noV, noSp, []))) ∧ Ext w7 w' :=
   aright_w k 0 0 ⟨t.toArray⟩ noV ⟨#[]⟩ noV (0, 0, 0) (.slice none 0 0) (.slice none 0 0) [] [] w7 hk okV_no (by show (0 : Nat) < _; decide) okV_no (by show (0 : Nat) ≤ _; omega) (fun r hr => by cases hr) (Terms.nil _) (by show (0 : Nat) ≤ _; omega) FitP.nil (Pairs.nil _) (hv.ext hE)
  have hGe : G = ((((k : Nat) : Int), (0, 0), ⟨t.toArray⟩, noV, noSp, []), qt, true) := by rw [← hGd.out]; simp only [rdF, rdA, rdT, rdV, rdX, rdL, cond_true, cond_false, Bool.and_false, rt]; first | done | rfl
  subst hGe
  have hGN := fun U => GotO.no w.heap.size U (((((k : Nat) : Int), (0, 0), ⟨t.toArray⟩, noV, noSp, []), qt, true) : OpQ × Int × Bool)
  have hGY : rightO (((k : Nat) : Int), (0, 0), ⟨t.toArray⟩, noV, noSp, []) = true → finO ((((k : Nat) : Int), (0, 0), ⟨t.toArray⟩, noV, noSp, []), qt, true) = ((((k : Nat) : Int), (0, 0), ⟨t.toArray⟩, noV, noSp, []), qt, true) := fun h => by unfold finO; rw [if_pos ⟨rfl, h⟩]
  have hOk : OkO (((k : Nat) : Int), (0, 0), ⟨t.toArray⟩, noV, noSp, []) := ⟨hk, u64_zero, u64_zero, okV_no, (by show (0 : Nat) < _; decide), okV_no, (by show (0 : Nat) ≤ _; omega), FitP.nil⟩
  cases hro : rightO (((k : Nat) : Int), (0, 0), ⟨t.toArray⟩, noV, noSp, []) with
  | false =>
   replace hGN := Lib.hid (fun U => hGN U (fun h => by rw [hro] at h; cases h.2))
   rw [hro] at CR
   replace CR := Lib.hid CR
   clear hro hGY
   have gl := hG.lt
   have g0 : w7.cell? ⟨bF, 0, none⟩ = some (.bool false) := hG.cell 0
   have g1 : w7.cell? ⟨bF, 1, none⟩ = some (.bool false) := hG.cell 1
   have g2 : w7.cell? ⟨bF, 2, none⟩ = some (.bool true) := hG.cell 2
   have g3 : w7.cell? ⟨bF, 3, none⟩ = some (.bool false) := hG.cell 3
   have g4 : w7.cell? ⟨bF, 4, none⟩ = some (.bool false) := hG.cell 4
   have g5 : w7.cell? ⟨bF, 5, none⟩ = some (.bool false) := hG.cell 5
   go_wp2_with (refine wpList_load_row_g (by kernel_rfl) 33 _ rfl bA rfl _ _ _ _ hA Tryz.underlying33 rfl (by kernel_rfl) ?_)
   refine CR.out.mono ?_; rintro e_ wq ⟨rfl, hq⟩
   clear gl g0 g1 g2 g3 g4 g5
   replace hA := hA.ext hq
   replace hE := hE.trans hq
   have hZ := hA.setRow [.int .i64 0, .int .u64 0, .int .u64 0, .string ⟨#[]⟩, .int .u64 0, .int .u64 0, .int .u64 0, .int .u64 0, .string ⟨#[]⟩, .int .u64 0, .int .u64 0, .int .u64 0, .int .u64 0, .int .i64 0, .int .i64 0, .int .i64 0, .slice none 0 0, .slice none 0 0]
   go_wp2_with (refine wpList_store_row (cells := #[.int .i64 0, .int .u64 0, .int .u64 0, .string ⟨#[]⟩, .int .u64 0, .int .u64 0, .int .u64 0, .int .u64 0, .string ⟨#[]⟩, .int .u64 0, .int .u64 0, .int .u64 0, .int .u64 0, .int .i64 0, .int .i64 0, .int .i64 0, .slice none 0 0, .slice none 0 0]) rfl 33 _ _ rfl bA rfl rfl _ _ hA (by kernel_rfl) rfl (by first | rfl | decide | simp [Value.oneCell']) ?_)
   refine bodyPost_ret (results_row3 (p := 4) (t := 5) (u := 6) rfl _ _ _ _ _ _ _ rfl hZ Tryz.underlying33 rfl (by kernel_rfl)) rfl ?_
   exact ⟨hGN.out _, Ext.setRow hE hwA _⟩
  | true =>
   have hFe := Lib.hid (hGY hro)
   rw [hro] at CR
   replace CR := Lib.hid CR
   clear hro hGN hGY
   have gl := hG.lt
   have g0 : w7.cell? ⟨bF, 0, none⟩ = some (.bool false) := hG.cell 0
   have g1 : w7.cell? ⟨bF, 1, none⟩ = some (.bool false) := hG.cell 1
   have g2 : w7.cell? ⟨bF, 2, none⟩ = some (.bool true) := hG.cell 2
   have g3 : w7.cell? ⟨bF, 3, none⟩ = some (.bool false) := hG.cell 3
   have g4 : w7.cell? ⟨bF, 4, none⟩ = some (.bool false) := hG.cell 4
   have g5 : w7.cell? ⟨bF, 5, none⟩ = some (.bool false) := hG.cell 5
   go_wp2_with (refine wpList_load_row_g (by kernel_rfl) 33 _ rfl bA rfl _ _ _ _ hA Tryz.underlying33 rfl (by kernel_rfl) ?_)
   refine CR.out.mono ?_; rintro e_ wq ⟨rfl, hq⟩
   clear gl g0 g1 g2 g3 g4 g5
   replace hA := hA.ext hq
   replace hE := hE.trans hq
   have hZ := hA.setRow [.int .i64 (k : Nat), .int .u64 0, .int .u64 0, .string ⟨t.toArray⟩, .int .u64 0, .int .u64 0, .int .u64 0, .int .u64 0, .string ⟨#[]⟩, .int .u64 0, .int .u64 0, .int .u64 0, .int .u64 0, .int .i64 0, .int .i64 0, .int .i64 0, .slice none 0 0, .slice none 0 0]
   go_wp2_with (first | (refine wpList_load_row rfl 33 _ rfl bA rfl _ _ _ _ hA Tryz.underlying33 rfl (by kernel_rfl) ?_) | (refine wpList_store_row (cells := #[.int .i64 (k : Nat), .int .u64 0, .int .u64 0, .string ⟨t.toArray⟩, .int .u64 0, .int .u64 0, .int .u64 0, .int .u64 0, .string ⟨#[]⟩, .int .u64 0, .int .u64 0, .int .u64 0, .int .u64 0, .int .i64 0, .int .i64 0, .int .i64 0, .slice none 0 0, .slice none 0 0]) rfl 33 _ _ rfl bA rfl rfl _ _ hA (by kernel_rfl) rfl (by first | rfl | decide | simp [Value.oneCell']) ?_))
   refine bodyPost_ret (results_row3 (p := 4) (t := 5) (u := 6) rfl _ _ _ _ _ _ _ rfl hZ Tryz.underlying33 rfl (by kernel_rfl)) rfl ?_
   refine ⟨?_, Ext.setRow hE hwA _⟩
   rw [hFe.out]
   refine ⟨.slice none 0 0, .slice none 0 0, [], rfl, ?_, (fun r hr => by cases hr), (by show (0 : Nat) ≤ _; omega), rfl, ?_, hOk, OwnT.nil _, (fun c h => by cases h)⟩
   ·exact Terms.nil _
   ·exact Pairs.nil _

end Go.Proofs.YtefjdmjkofaajaaGreatDoor
