/- Texts one behind the other: Chapter 18: the walk of Get (ID). -/
import Derived.Test.YtefjdmjkofaajaaGreatDoorB37
import Derived.Test.YtefjdmjkofaajaaGreatDoorB32
namespace Go.Proofs.YtefjdmjkofaajaaGreatDoor
open Go.RowKit Go.Dm

set_option maxHeartbeats 4000000 in
set_option maxRecDepth 100000 in
theorem aget_c2 (s : ByteArray) (p : Int) (w : World) (hs : s.size ≤ 281474976710656) (hv : Vars w) (hok : (getI s.data.toList p).2.2 = true) (h13 : (getI s.data.toList p).1 ≤ 13) (hfd : (knownF ((getI s.data.toList p).1 : Nat)).getD noFld = (false, false, true, true, false, false)) :
  Calls Tryz.prog 40 #[.string s, .int .i64 p] w fun e_ w' => GotO w.heap.size w' (finO (rdF s.data.toList (false, false, true, true, false, false) ((getI s.data.toList p).1 : Nat) (getI s.data.toList p).2.1)) e_ ∧ Ext w w' := by
 have hU : U64 s.data.toList.length := Nat.lt_of_le_of_lt (show s.size ≤ _ from hs) (by decide)
 have C1 := fun U => wget_w s p U hs
 have hkf := getI_fit (l := s.data.toList) (p := p) hs
 obtain ⟨⟨k, q, b⟩, hr⟩ : ∃ r, getI s.data.toList p = r := ⟨_, rfl⟩
 rw [hr] at C1 hok h13 hfd hkf ⊢
 simp only at C1 hok h13 hfd hkf ⊢
 subst hok
 clear hr
 have hk : -9223372036854775808 ≤ (k : Int) ∧ (k : Int) ≤ 9223372036854775807 := by omega
 have CK := fun U => aknown_w U
 have hlook := fun (U : World) B (h : MapK U B 13 knownF) => h.look1 hk
 rw [hfd] at hlook
 unfold fldV at hlook
 simp only at hlook
 clear hfd
 have CT := fun U => wgettext_w s q 98 U hs (by omega)
 obtain ⟨⟨t, qt, bt⟩, rt⟩ : ∃ r, atI (getTextL 98) [] s.data.toList q = r := ⟨_, rfl⟩
 rw [rt] at CT
 simp only at CT
 have CV := fun U => vget_w s qt U hs
 obtain ⟨⟨d, qd, bd⟩, rd⟩ : ∃ r, getV s.data.toList qt = r := ⟨_, rfl⟩
 rw [rd] at CV
 have hdo : bd = true → OkV d := fun h => ((getV_iff hU).1 (h ▸ rd)).1
 unfold vVal vF at CV
 simp only at CV
 obtain ⟨G, hGd⟩ : ∃ g, rdF s.data.toList (false, false, true, true, false, false) ((k : Nat) : Int) q = g := ⟨_, rfl⟩
 rw [hGd]
 replace hGd := Lib.hid hGd
 replace CK := Lib.hid CK
 replace C1 := Lib.hid C1
 replace hlook := Lib.hid hlook
 replace CT := Lib.hid CT
 replace CV := Lib.hid CV
 obtain ⟨w1, hW1, hA, hE, -⟩ := new_row w 33 [.int .i64 0, .int .u64 0, .int .u64 0, .string ⟨#[]⟩, .int .u64 0, .int .u64 0, .int .u64 0, .int .u64 0, .string ⟨#[]⟩, .int .u64 0, .int .u64 0, .int .u64 0, .int .u64 0, .int .i64 0, .int .i64 0, .int .i64 0, .slice none 0 0, .slice none 0 0]
 obtain ⟨bA, hbA⟩ : ∃ x, w.heap.size = x := ⟨_, rfl⟩
 have hwA : w.heap.size ≤ bA := by omega
 rw [hbA] at hA
 go_enter Tryz.func40, Tryz.ntmps40
 go_upto_region 1 with fail
 clear hW1 hbA
 go_wp2_with fail
 refine (C1.out _).mono ?_; rintro e_ w2 ⟨rfl, h2⟩
 replace hA := hA.ext h2
 replace hE := hE.trans h2
 clear h2
 have al := hA.lt
 have a0 : w2.cell? ⟨bA, 0, none⟩ = some (.int .i64 0) := hA.cell 0
 have af0 := hA.free 0
 go_upto_region 5 with fail
 clear al a0 af0
 have hA' : RB bA 33 [.int .i64 (k : Nat), .int .u64 0, .int .u64 0, .string ⟨#[]⟩, .int .u64 0, .int .u64 0, .int .u64 0, .int .u64 0, .string ⟨#[]⟩, .int .u64 0, .int .u64 0, .int .u64 0, .int .u64 0, .int .i64 0, .int .i64 0, .int .i64 0, .slice none 0 0, .slice none 0 0] (w2.setCell ⟨bA, 0, none⟩ (.int .i64 (k : Nat))) := hA.set 0 (.int .i64 (k : Nat))
 have hE' : Ext w (w2.setCell ⟨bA, 0, none⟩ (.int .i64 (k : Nat))) := Below.setCell hE (p := ⟨bA, 0, none⟩) hwA _
 clear hA hE
 have hA := hA'
 have hE := hE'
 clear hA' hE'
 generalize w2.setCell ⟨bA, 0, none⟩ (.int .i64 (k : Nat)) = w3 at *
 have al := hA.lt
 have a0 : w3.cell? ⟨bA, 0, none⟩ = some (.int .i64 (k : Nat)) := hA.cell 0
 refine region_cut (fun a_ a' w' => ∃ bM bF : Nat, a' = ((((a_.put (some 26) (.map (some bM))).put (some 27) (.pointer (some ⟨bA, 0, none⟩))).put (some 28) (.int .i64 (k : Nat))).put (some 29) (.agg #[.bool false, .bool false, .bool true, .bool true, .bool false, .bool false])).put (some 8) (.pointer (some ⟨bF, 0, none⟩)) ∧ RB bF 108 [.bool false, .bool false, .bool true, .bool true, .bool false, .bool false] w' ∧ w3.heap.size ≤ bF ∧ Ext w3 w') ?_ ?_
 ·skip
  try simp only [Act.put, List.setIfInBounds_toArray, List.set_cons_succ, List.set_cons_zero]
  refine Dm.wp_region_ext 6 (Dm.bits 6 0) (Ext.refl w3) (by kernel_rfl) (by kernel_rfl) (by kernel_rfl) ?_
  refine Dm.wpE_take (i := 1) (listed' := (Dm.bits 6 2)) (by kernel_rfl) (by kernel_rfl) rfl (fun _ _ _ _ h => h) ?_; apply Exists.intro; refine And.intro (fun x => ?_) ?_
  ·go_big_quiet_step (fail); exact wpQuiet_nil rfl
  refine Dm.wpE_take (i := 2) (listed' := (Dm.bits 6 6)) (by kernel_rfl) (by kernel_rfl) rfl (fun _ _ _ _ h => h) ?_; apply Exists.intro; refine And.intro (fun x => ?_) ?_
  ·go_big_quiet_step (fail); exact wpQuiet_nil rfl
  refine Dm.wpE_two (i := 0) (j := 4) (li := (Dm.bits 6 7)) (lj := (Dm.bits 6 22)) (by kernel_rfl) (by kernel_rfl) (by kernel_rfl) rfl rfl (Ext.refl w3) (fun w1a hx1a => ?_) (fun w1a hx1a => ?_)
  ·
   have hX1a := Ext.trans (Ext.refl w3) hx1a
   go_wp2_with (go_at_call 55; go_must (refine (CK.out w1a).mono ?_; rintro e_ w1b ⟨bM, rfl, hM, hs1⟩))
   have hX1b := Ext.trans hX1a hs1
   try simp only [Exit.then, Act.put, List.setIfInBounds_toArray, List.set_cons_succ, List.set_cons_zero]
   refine Dm.wpE_two (i := 3) (j := 4) (li := (Dm.bits 6 15)) (lj := (Dm.bits 6 23)) (by kernel_rfl) (by kernel_rfl) (by kernel_rfl) rfl rfl hX1b (fun w2a hx2a => ?_) (fun w2a hx2a => ?_)
   ·
    have hX2a := Ext.trans hX1b hx2a
    replace hM := hM.ext hx2a
    have hlk := hlook.out _ _ hM
    go_wp2_with fail
    clear hlk hM
    obtain ⟨w2b, hw2⟩ : ∃ x, x = w2a := ⟨_, rfl⟩
    subst hw2
    have hX2b := hX2a
    try simp only [Exit.then, Act.put, List.setIfInBounds_toArray, List.set_cons_succ, List.set_cons_zero]
    refine Dm.wpE_one (i := 4) (listed' := (Dm.bits 6 31)) (by kernel_rfl) (by kernel_rfl) rfl hX2b (fun w3a hx3a => ?_)
    have hX3a := Ext.trans hX2b hx3a
    have hF : RB w3a.heap.size 108 [.bool false, .bool false, .bool false, .bool false, .bool false, .bool false] (w3a.alloc (.cells #[.bool false, .bool false, .bool false, .bool false, .bool false, .bool false] 108)) := RB.new w3a 108 [.bool false, .bool false, .bool false, .bool false, .bool false, .bool false]
    have hbF := (hX3a).size
    go_wp2_with fail
    have hs3 : Ext w3a (w3a.alloc (.cells #[.bool false, .bool false, .bool false, .bool false, .bool false, .bool false] 108)) := (Ext.refl _).alloc _
    have hX3b := Ext.trans hX3a hs3
    generalize w3a.alloc (.cells #[.bool false, .bool false, .bool false, .bool false, .bool false, .bool false] 108) = w3b at *
    generalize w3a.heap.size = bF at *
    try simp only [Exit.then, Act.put, List.setIfInBounds_toArray, List.set_cons_succ, List.set_cons_zero]
    refine Dm.wpE_one (i := 5) (listed' := (Dm.bits 6 63)) (by kernel_rfl) (by kernel_rfl) rfl hX3b (fun w4a hx4a => ?_)
    have hX4a := Ext.trans hX3b hx4a
    replace hF := hF.ext hx4a
    have hG := hF.setRow [.bool false, .bool false, .bool true, .bool true, .bool false, .bool false]
    go_wp2_with (refine wpList_store_row (cells := #[.bool false, .bool false, .bool true, .bool true, .bool false, .bool false]) rfl 108 _ _ rfl bF rfl rfl _ _ hF (by kernel_rfl) rfl (by first | rfl | decide | simp [Value.oneCell']) ?_)
    change RB bF 108 [.bool false, .bool false, .bool true, .bool true, .bool false, .bool false] (w4a.setRow bF #[.bool false, .bool false, .bool true, .bool true, .bool false, .bool false]) at hG
    have hX4b : Ext w3 (w4a.setRow bF #[.bool false, .bool false, .bool true, .bool true, .bool false, .bool false]) := Ext.setRow hX4a hbF _
    clear hF
    generalize w4a.setRow bF #[.bool false, .bool false, .bool true, .bool true, .bool false, .bool false] = w4b at *
    try simp only [Act.put]
    refine Dm.wpE_done (by kernel_rfl) hX4b (fun w5a hx5a => ?_)
    have hX5a := Ext.trans hX4b hx5a
    replace hG := hG.ext hx5a
    exact ⟨bM, bF, rfl, hG, hbF, hX5a⟩
   ·
    have hX2a := Ext.trans hX1b hx2a
    replace hM := hM.ext hx2a
    have hF : RB w2a.heap.size 108 [.bool false, .bool false, .bool false, .bool false, .bool false, .bool false] (w2a.alloc (.cells #[.bool false, .bool false, .bool false, .bool false, .bool false, .bool false] 108)) := RB.new w2a 108 [.bool false, .bool false, .bool false, .bool false, .bool false, .bool false]
    have hbF := (hX2a).size
    go_wp2_with fail
    have hs2 : Ext w2a (w2a.alloc (.cells #[.bool false, .bool false, .bool false, .bool false, .bool false, .bool false] 108)) := (Ext.refl _).alloc _
    have hX2b := Ext.trans hX2a hs2
    generalize w2a.alloc (.cells #[.bool false, .bool false, .bool false, .bool false, .bool false, .bool false] 108) = w2b at *
    generalize w2a.heap.size = bF at *
    replace hM := hM.ext hs2
    try simp only [Exit.then, Act.put, List.setIfInBounds_toArray, List.set_cons_succ, List.set_cons_zero]
    refine Dm.wpE_one (i := 3) (listed' := (Dm.bits 6 31)) (by kernel_rfl) (by kernel_rfl) rfl hX2b (fun w6a hx6a => ?_)
    have hX6a := Ext.trans hX2b hx6a
    replace hM := hM.ext hx6a
    replace hF := hF.ext hx6a
    have hlk := hlook.out _ _ hM
    go_wp2_with fail
    clear hlk hM
    obtain ⟨w6b, hw2⟩ : ∃ x, x = w6a := ⟨_, rfl⟩
    subst hw2
    have hX6b := hX6a
    try simp only [Exit.then, Act.put, List.setIfInBounds_toArray, List.set_cons_succ, List.set_cons_zero]
    refine Dm.wpE_one (i := 5) (listed' := (Dm.bits 6 63)) (by kernel_rfl) (by kernel_rfl) rfl hX6b (fun w7a hx7a => ?_)
    have hX7a := Ext.trans hX6b hx7a
    replace hF := hF.ext hx7a
    have hG := hF.setRow [.bool false, .bool false, .bool true, .bool true, .bool false, .bool false]
    go_wp2_with (refine wpList_store_row (cells := #[.bool false, .bool false, .bool true, .bool true, .bool false, .bool false]) rfl 108 _ _ rfl bF rfl rfl _ _ hF (by kernel_rfl) rfl (by first | rfl | decide | simp [Value.oneCell']) ?_)
    change RB bF 108 [.bool false, .bool false, .bool true, .bool true, .bool false, .bool false] (w7a.setRow bF #[.bool false, .bool false, .bool true, .bool true, .bool false, .bool false]) at hG
    have hX7b : Ext w3 (w7a.setRow bF #[.bool false, .bool false, .bool true, .bool true, .bool false, .bool false]) := Ext.setRow hX7a hbF _
    clear hF
    generalize w7a.setRow bF #[.bool false, .bool false, .bool true, .bool true, .bool false, .bool false] = w7b at *
    try simp only [Act.put]
    refine Dm.wpE_done (by kernel_rfl) hX7b (fun w8a hx8a => ?_)
    have hX8a := Ext.trans hX7b hx8a
    replace hG := hG.ext hx8a
    exact ⟨bM, bF, rfl, hG, hbF, hX8a⟩
  ·
   have hX1a := Ext.trans (Ext.refl w3) hx1a
   have hF : RB w1a.heap.size 108 [.bool false, .bool false, .bool false, .bool false, .bool false, .bool false] (w1a.alloc (.cells #[.bool false, .bool false, .bool false, .bool false, .bool false, .bool false] 108)) := RB.new w1a 108 [.bool false, .bool false, .bool false, .bool false, .bool false, .bool false]
   have hbF := (hX1a).size
   go_wp2_with fail
   have hs1 : Ext w1a (w1a.alloc (.cells #[.bool false, .bool false, .bool false, .bool false, .bool false, .bool false] 108)) := (Ext.refl _).alloc _
   have hX1b := Ext.trans hX1a hs1
   generalize w1a.alloc (.cells #[.bool false, .bool false, .bool false, .bool false, .bool false, .bool false] 108) = w1b at *
   generalize w1a.heap.size = bF at *
   try simp only [Exit.then, Act.put, List.setIfInBounds_toArray, List.set_cons_succ, List.set_cons_zero]
   refine Dm.wpE_one (i := 0) (listed' := (Dm.bits 6 23)) (by kernel_rfl) (by kernel_rfl) rfl hX1b (fun w9a hx9a => ?_)
   have hX9a := Ext.trans hX1b hx9a
   replace hF := hF.ext hx9a
   go_wp2_with (go_at_call 55; go_must (refine (CK.out w9a).mono ?_; rintro e_ w9b ⟨bM, rfl, hM, hs9⟩))
   have hX9b := Ext.trans hX9a hs9
   replace hF := hF.ext hs9
   try simp only [Exit.then, Act.put, List.setIfInBounds_toArray, List.set_cons_succ, List.set_cons_zero]
   refine Dm.wpE_one (i := 3) (listed' := (Dm.bits 6 31)) (by kernel_rfl) (by kernel_rfl) rfl hX9b (fun w10a hx10a => ?_)
   have hX10a := Ext.trans hX9b hx10a
   replace hF := hF.ext hx10a
   replace hM := hM.ext hx10a
   have hlk := hlook.out _ _ hM
   go_wp2_with fail
   clear hlk hM
   obtain ⟨w10b, hw2⟩ : ∃ x, x = w10a := ⟨_, rfl⟩
   subst hw2
   have hX10b := hX10a
   try simp only [Exit.then, Act.put, List.setIfInBounds_toArray, List.set_cons_succ, List.set_cons_zero]
   refine Dm.wpE_one (i := 5) (listed' := (Dm.bits 6 63)) (by kernel_rfl) (by kernel_rfl) rfl hX10b (fun w11a hx11a => ?_)
   have hX11a := Ext.trans hX10b hx11a
   replace hF := hF.ext hx11a
   have hG := hF.setRow [.bool false, .bool false, .bool true, .bool true, .bool false, .bool false]
   go_wp2_with (refine wpList_store_row (cells := #[.bool false, .bool false, .bool true, .bool true, .bool false, .bool false]) rfl 108 _ _ rfl bF rfl rfl _ _ hF (by kernel_rfl) rfl (by first | rfl | decide | simp [Value.oneCell']) ?_)
   change RB bF 108 [.bool false, .bool false, .bool true, .bool true, .bool false, .bool false] (w11a.setRow bF #[.bool false, .bool false, .bool true, .bool true, .bool false, .bool false]) at hG
   have hX11b : Ext w3 (w11a.setRow bF #[.bool false, .bool false, .bool true, .bool true, .bool false, .bool false]) := Ext.setRow hX11a hbF _
   clear hF
   generalize w11a.setRow bF #[.bool false, .bool false, .bool true, .bool true, .bool false, .bool false] = w11b at *
   try simp only [Act.put]
   refine Dm.wpE_done (by kernel_rfl) hX11b (fun w12a hx12a => ?_)
   have hX12a := Ext.trans hX11b hx12a
   replace hG := hG.ext hx12a
   exact ⟨bM, bF, rfl, hG, hbF, hX12a⟩
 rintro a_ w4 ⟨bM, bF, rfl, hG, hbF, h4⟩
 simp only [Act.put, List.setIfInBounds_toArray, List.set_cons_succ, List.set_cons_zero]
 have hAF : bA ≠ bF := by omega
 clear a0 al hbF
 replace hA := hA.ext h4
 replace hE := hE.trans h4
 clear h4
 have gl := hG.lt
 have g0 : w4.cell? ⟨bF, 0, none⟩ = some (.bool false) := hG.cell 0
 have g1 : w4.cell? ⟨bF, 1, none⟩ = some (.bool false) := hG.cell 1
 have g2 : w4.cell? ⟨bF, 2, none⟩ = some (.bool true) := hG.cell 2
 have g3 : w4.cell? ⟨bF, 3, none⟩ = some (.bool true) := hG.cell 3
 have g4 : w4.cell? ⟨bF, 4, none⟩ = some (.bool false) := hG.cell 4
 have g5 : w4.cell? ⟨bF, 5, none⟩ = some (.bool false) := hG.cell 5
 go_wp2_with fail
 refine (CT.out _).mono ?_; rintro e_ w6 ⟨rfl, h6⟩
 clear gl g0 g1 g2 g3 g4 g5
 replace hA := hA.ext h6
 replace hG := hG.ext h6
 replace hE := hE.trans h6
 clear h6
 have al := hA.lt
 have a3 : w6.cell? ⟨bA, 3, none⟩ = some (.string ⟨#[]⟩) := hA.cell 3
 have af3 := hA.free 3
 go_upto_region 12 with fail
 clear al a3 af3
 have hA' : RB bA 33 [.int .i64 (k : Nat), .int .u64 0, .int .u64 0, .string ⟨t.toArray⟩, .int .u64 0, .int .u64 0, .int .u64 0, .int .u64 0, .string ⟨#[]⟩, .int .u64 0, .int .u64 0, .int .u64 0, .int .u64 0, .int .i64 0, .int .i64 0, .int .i64 0, .slice none 0 0, .slice none 0 0] (w6.setCell ⟨bA, 3, none⟩ (.string ⟨t.toArray⟩)) := (hA.set 3 (.string ⟨t.toArray⟩))
 have hG' : RB bF 108 [.bool false, .bool false, .bool true, .bool true, .bool false, .bool false] (w6.setCell ⟨bA, 3, none⟩ (.string ⟨t.toArray⟩)) := (hG.far (c := bA) (i := 3) hAF (.string ⟨t.toArray⟩))
 have hE' : Ext w (w6.setCell ⟨bA, 3, none⟩ (.string ⟨t.toArray⟩)) := (Below.setCell hE (p := ⟨bA, 3, none⟩) hwA (.string ⟨t.toArray⟩))
 clear hA hG hE
 have hA := hA'
 have hG := hG'
 have hE := hE'
 clear hA' hG' hE'
 generalize (w6.setCell ⟨bA, 3, none⟩ (.string ⟨t.toArray⟩)) = w7 at *
 cases bt with
 | false =>
  have gl := hG.lt
  have g0 : w7.cell? ⟨bF, 0, none⟩ = some (.bool false) := hG.cell 0
  have g1 : w7.cell? ⟨bF, 1, none⟩ = some (.bool false) := hG.cell 1
  have g2 : w7.cell? ⟨bF, 2, none⟩ = some (.bool true) := hG.cell 2
  have g3 : w7.cell? ⟨bF, 3, none⟩ = some (.bool true) := hG.cell 3
  have g4 : w7.cell? ⟨bF, 4, none⟩ = some (.bool false) := hG.cell 4
  have g5 : w7.cell? ⟨bF, 5, none⟩ = some (.bool false) := hG.cell 5
  have hZ := hA.setRow [.int .i64 0, .int .u64 0, .int .u64 0, .string ⟨#[]⟩, .int .u64 0, .int .u64 0, .int .u64 0, .int .u64 0, .string ⟨#[]⟩, .int .u64 0, .int .u64 0, .int .u64 0, .int .u64 0, .int .i64 0, .int .i64 0, .int .i64 0, .slice none 0 0, .slice none 0 0]
  go_wp2_with (first | (refine wpList_load_row rfl 33 _ rfl bA rfl _ _ _ _ hA Tryz.underlying33 rfl (by kernel_rfl) ?_) | (refine wpList_store_row (cells := #[.int .i64 0, .int .u64 0, .int .u64 0, .string ⟨#[]⟩, .int .u64 0, .int .u64 0, .int .u64 0, .int .u64 0, .string ⟨#[]⟩, .int .u64 0, .int .u64 0, .int .u64 0, .int .u64 0, .int .i64 0, .int .i64 0, .int .i64 0, .slice none 0 0, .slice none 0 0]) rfl 33 _ _ rfl bA rfl rfl _ _ hA (by kernel_rfl) rfl (by first | rfl | decide | simp [Value.oneCell']) ?_))
  refine bodyPost_ret (results_row3 (p := 4) (t := 5) (u := 6) rfl _ _ _ _ _ _ _ rfl hZ Tryz.underlying33 rfl (by kernel_rfl)) rfl ?_
  have hGe : G = ((((k : Nat) : Int), (0, 0), ⟨t.toArray⟩, noV, noSp, []), qt, false) := by rw [← hGd.out]; simp only [rdF, rdA, rdT, rdV, rdX, rdL, cond_true, cond_false, Bool.and_true, Bool.and_false, rt]; first | done | rfl
  subst hGe
  exact ⟨GotO.no _ _ _ (fun h => by cases h.1), Ext.setRow hE hwA _⟩
 | true =>
  have gl := hG.lt
  have g0 : w7.cell? ⟨bF, 0, none⟩ = some (.bool false) := hG.cell 0
  have g1 : w7.cell? ⟨bF, 1, none⟩ = some (.bool false) := hG.cell 1
  have g2 : w7.cell? ⟨bF, 2, none⟩ = some (.bool true) := hG.cell 2
  have g3 : w7.cell? ⟨bF, 3, none⟩ = some (.bool true) := hG.cell 3
  have g4 : w7.cell? ⟨bF, 4, none⟩ = some (.bool false) := hG.cell 4
  have g5 : w7.cell? ⟨bF, 5, none⟩ = some (.bool false) := hG.cell 5
  go_wp2_with fail
  refine (CV.out _).mono ?_; rintro e_ w8 ⟨rfl, h8⟩
  clear gl g0 g1 g2 g3 g4 g5
  replace hA := hA.ext h8
  replace hG := hG.ext h8
  replace hE := hE.trans h8
  clear h8
  have al := hA.lt
  have a4 : w8.cell? ⟨bA, 4, none⟩ = some (.int .u64 0) := hA.cell 4
  have af4 := hA.free 4
  have a5 : w8.cell? ⟨bA, 5, none⟩ = some (.int .u64 0) := hA.cell 5
  have af5 := hA.free 5
  have a6 : w8.cell? ⟨bA, 6, none⟩ = some (.int .u64 0) := hA.cell 6
  have af6 := hA.free 6
  have a7 : w8.cell? ⟨bA, 7, none⟩ = some (.int .u64 0) := hA.cell 7
  have af7 := hA.free 7
  go_upto_region 14 with fail
  clear al a4 af4 a5 af5 a6 af6 a7 af7
  have hA' : RB bA 33 [.int .i64 (k : Nat), .int .u64 0, .int .u64 0, .string ⟨t.toArray⟩, .int .u64 (vG d 0 : Nat), .int .u64 (vG d 1 : Nat), .int .u64 (vG d 2 : Nat), .int .u64 (vG d 3 : Nat), .string ⟨#[]⟩, .int .u64 0, .int .u64 0, .int .u64 0, .int .u64 0, .int .i64 0, .int .i64 0, .int .i64 0, .slice none 0 0, .slice none 0 0] ((((w8.setCell ⟨bA, 4, none⟩ (.int .u64 (vG d 0 : Nat))).setCell ⟨bA, 5, none⟩ (.int .u64 (vG d 1 : Nat))).setCell ⟨bA, 6, none⟩ (.int .u64 (vG d 2 : Nat))).setCell ⟨bA, 7, none⟩ (.int .u64 (vG d 3 : Nat))) := ((((hA.set 4 (.int .u64 (vG d 0 : Nat))).set 5 (.int .u64 (vG d 1 : Nat))).set 6 (.int .u64 (vG d 2 : Nat))).set 7 (.int .u64 (vG d 3 : Nat)))
  have hG' : RB bF 108 [.bool false, .bool false, .bool true, .bool true, .bool false, .bool false] ((((w8.setCell ⟨bA, 4, none⟩ (.int .u64 (vG d 0 : Nat))).setCell ⟨bA, 5, none⟩ (.int .u64 (vG d 1 : Nat))).setCell ⟨bA, 6, none⟩ (.int .u64 (vG d 2 : Nat))).setCell ⟨bA, 7, none⟩ (.int .u64 (vG d 3 : Nat))) := ((((hG.far (c := bA) (i := 4) hAF (.int .u64 (vG d 0 : Nat))).far (c := bA) (i := 5) hAF (.int .u64 (vG d 1 : Nat))).far (c := bA) (i := 6) hAF (.int .u64 (vG d 2 : Nat))).far (c := bA) (i := 7) hAF (.int .u64 (vG d 3 : Nat)))
  have hE' : Ext w ((((w8.setCell ⟨bA, 4, none⟩ (.int .u64 (vG d 0 : Nat))).setCell ⟨bA, 5, none⟩ (.int .u64 (vG d 1 : Nat))).setCell ⟨bA, 6, none⟩ (.int .u64 (vG d 2 : Nat))).setCell ⟨bA, 7, none⟩ (.int .u64 (vG d 3 : Nat))) := (Below.setCell (Below.setCell (Below.setCell (Below.setCell hE (p := ⟨bA, 4, none⟩) hwA (.int .u64 (vG d 0 : Nat))) (p := ⟨bA, 5, none⟩) hwA (.int .u64 (vG d 1 : Nat))) (p := ⟨bA, 6, none⟩) hwA (.int .u64 (vG d 2 : Nat))) (p := ⟨bA, 7, none⟩) hwA (.int .u64 (vG d 3 : Nat)))
  clear hA hG hE
  have hA := hA'
  have hG := hG'
  have hE := hE'
  clear hA' hG' hE'
  generalize ((((w8.setCell ⟨bA, 4, none⟩ (.int .u64 (vG d 0 : Nat))).setCell ⟨bA, 5, none⟩ (.int .u64 (vG d 1 : Nat))).setCell ⟨bA, 6, none⟩ (.int .u64 (vG d 2 : Nat))).setCell ⟨bA, 7, none⟩ (.int .u64 (vG d 3 : Nat))) = w9 at *
  cases bd with
  | false =>
   have gl := hG.lt
   have g0 : w9.cell? ⟨bF, 0, none⟩ = some (.bool false) := hG.cell 0
   have g1 : w9.cell? ⟨bF, 1, none⟩ = some (.bool false) := hG.cell 1
   have g2 : w9.cell? ⟨bF, 2, none⟩ = some (.bool true) := hG.cell 2
   have g3 : w9.cell? ⟨bF, 3, none⟩ = some (.bool true) := hG.cell 3
   have g4 : w9.cell? ⟨bF, 4, none⟩ = some (.bool false) := hG.cell 4
   have g5 : w9.cell? ⟨bF, 5, none⟩ = some (.bool false) := hG.cell 5
   have hZ := hA.setRow [.int .i64 0, .int .u64 0, .int .u64 0, .string ⟨#[]⟩, .int .u64 0, .int .u64 0, .int .u64 0, .int .u64 0, .string ⟨#[]⟩, .int .u64 0, .int .u64 0, .int .u64 0, .int .u64 0, .int .i64 0, .int .i64 0, .int .i64 0, .slice none 0 0, .slice none 0 0]
   go_wp2_with (first | (refine wpList_load_row rfl 33 _ rfl bA rfl _ _ _ _ hA Tryz.underlying33 rfl (by kernel_rfl) ?_) | (refine wpList_store_row (cells := #[.int .i64 0, .int .u64 0, .int .u64 0, .string ⟨#[]⟩, .int .u64 0, .int .u64 0, .int .u64 0, .int .u64 0, .string ⟨#[]⟩, .int .u64 0, .int .u64 0, .int .u64 0, .int .u64 0, .int .i64 0, .int .i64 0, .int .i64 0, .slice none 0 0, .slice none 0 0]) rfl 33 _ _ rfl bA rfl rfl _ _ hA (by kernel_rfl) rfl (by first | rfl | decide | simp [Value.oneCell']) ?_))
   refine bodyPost_ret (results_row3 (p := 4) (t := 5) (u := 6) rfl _ _ _ _ _ _ _ rfl hZ Tryz.underlying33 rfl (by kernel_rfl)) rfl ?_
   have hGe : G = ((((k : Nat) : Int), (0, 0), ⟨t.toArray⟩, d, noSp, []), qd, false) := by rw [← hGd.out]; simp only [rdF, rdA, rdT, rdV, rdX, rdL, cond_true, cond_false, Bool.and_true, Bool.and_false, rt, rd]; first | done | rfl
   subst hGe
   exact ⟨GotO.no _ _ _ (fun h => by cases h.1), Ext.setRow hE hwA _⟩
  | true =>
   have CR : Calls Tryz.prog 25 #[.agg #[.int .i64 (k : Nat), .int .u64 0, .int .u64 0, .string ⟨t.toArray⟩, .int .u64 (vG d 0 : Nat), .int .u64 (vG d 1 : Nat), .int .u64 (vG d 2 : Nat), .int .u64 (vG d 3 : Nat), .string ⟨#[]⟩, .int .u64 0, .int .u64 0, .int .u64 0, .int .u64 0, .int .i64 0, .int .i64 0, .int .i64 0, .slice none 0 0, .slice none 0 0]] w9 fun e_ w' => e_ = .returned (.bool (rightO (((k : Nat) : Int), (0, 0), ⟨t.toArray⟩, d, noSp, []))) ∧ Ext w9 w' :=
    aright_w k 0 0 ⟨t.toArray⟩ d ⟨#[]⟩ noV (0, 0, 0) (.slice none 0 0) (.slice none 0 0) [] [] w9 hk (hdo (by first | rfl | trivial)) (by show (0 : Nat) < _; decide) okV_no (by show (0 : Nat) ≤ _; omega) (fun r hr => by cases hr) (Terms.nil _) (by show (0 : Nat) ≤ _; omega) FitP.nil (Pairs.nil _) (hv.ext hE)
   have hGe : G = ((((k : Nat) : Int), (0, 0), ⟨t.toArray⟩, d, noSp, []), qd, true) := by rw [← hGd.out]; simp only [rdF, rdA, rdT, rdV, rdX, rdL, cond_true, cond_false, Bool.and_true, Bool.and_false, rt, rd]; first | done | rfl
   subst hGe
   have hGN := fun U => GotO.no w.heap.size U (((((k : Nat) : Int), (0, 0), ⟨t.toArray⟩, d, noSp, []), qd, true) : OpQ × Int × Bool)
   have hGY : rightO (((k : Nat) : Int), (0, 0), ⟨t.toArray⟩, d, noSp, []) = true → finO ((((k : Nat) : Int), (0, 0), ⟨t.toArray⟩, d, noSp, []), qd, true) = ((((k : Nat) : Int), (0, 0), ⟨t.toArray⟩, d, noSp, []), qd, true) := fun h => by unfold finO; rw [if_pos ⟨rfl, h⟩]
   have hOk : OkO (((k : Nat) : Int), (0, 0), ⟨t.toArray⟩, d, noSp, []) := ⟨hk, u64_zero, u64_zero, (hdo (by first | rfl | trivial)), (by show (0 : Nat) < _; decide), okV_no, (by show (0 : Nat) ≤ _; omega), FitP.nil⟩
   cases hro : rightO (((k : Nat) : Int), (0, 0), ⟨t.toArray⟩, d, noSp, []) with
   | false =>
    replace hGN := Lib.hid (fun U => hGN U (fun h => by rw [hro] at h; cases h.2))
    rw [hro] at CR
    replace CR := Lib.hid CR
    clear hro hGY
    have gl := hG.lt
    have g0 : w9.cell? ⟨bF, 0, none⟩ = some (.bool false) := hG.cell 0
    have g1 : w9.cell? ⟨bF, 1, none⟩ = some (.bool false) := hG.cell 1
    have g2 : w9.cell? ⟨bF, 2, none⟩ = some (.bool true) := hG.cell 2
    have g3 : w9.cell? ⟨bF, 3, none⟩ = some (.bool true) := hG.cell 3
    have g4 : w9.cell? ⟨bF, 4, none⟩ = some (.bool false) := hG.cell 4
    have g5 : w9.cell? ⟨bF, 5, none⟩ = some (.bool false) := hG.cell 5
    go_wp2_with (refine wpList_load_row_g (by kernel_rfl) 33 _ rfl bA rfl _ _ _ _ hA Tryz.underlying33 rfl (by kernel_rfl) ?_)
    refine CR.out.mono ?_; rintro e_ wq ⟨rfl, hq⟩
    clear gl g0 g1 g2 g3 g4 g5
    replace hA := hA.ext hq
    replace hE := hE.trans hq
    have hZ := hA.setRow [.int .i64 0, .int .u64 0, .int .u64 0, .string ⟨#[]⟩, .int .u64 0, .int .u64 0, .int .u64 0, .int .u64 0, .string ⟨#[]⟩, .int .u64 0, .int .u64 0, .int .u64 0, .int .u64 0, .int .i64 0, .int .i64 0, .int .i64 0, .slice none 0 0, .slice none 0 0]
    go_wp2_with (refine wpList_store_row (cells := #[.int .i64 0, .int .u64 0, .int .u64 0, .string ⟨#[]⟩, .int .u64 0, .int .u64 0, .int .u64 0, .int .u64 0, .string ⟨#[]⟩, .int .u64 0, .int .u64 0, .int .u64 0, .int .u64 0, .int .i64 0, .int .i64 0, .int .i64 0, .slice none 0 0, .slice none 0 0]) rfl 33 _ _ rfl bA rfl rfl _ _ hA (by kernel_rfl) rfl (by first | rfl | decide | simp [Value.oneCell']) ?_)
    refine bodyPost_ret (results_row3 (p := 4) (t := 5) (u := 6) rfl _ _ _ _ _ _ _ rfl hZ Tryz.underlying33 rfl (by kernel_rfl)) rfl ?_
    exact ⟨hGN.out _, Ext.setRow hE hwA _⟩
   | true =>
    have hFe := Lib.hid (hGY hro)
    rw [hro] at CR
    replace CR := Lib.hid CR
    clear hro hGN hGY
    have gl := hG.lt
    have g0 : w9.cell? ⟨bF, 0, none⟩ = some (.bool false) := hG.cell 0
    have g1 : w9.cell? ⟨bF, 1, none⟩ = some (.bool false) := hG.cell 1
    have g2 : w9.cell? ⟨bF, 2, none⟩ = some (.bool true) := hG.cell 2
    have g3 : w9.cell? ⟨bF, 3, none⟩ = some (.bool true) := hG.cell 3
    have g4 : w9.cell? ⟨bF, 4, none⟩ = some (.bool false) := hG.cell 4
    have g5 : w9.cell? ⟨bF, 5, none⟩ = some (.bool false) := hG.cell 5
    go_wp2_with (refine wpList_load_row_g (by kernel_rfl) 33 _ rfl bA rfl _ _ _ _ hA Tryz.underlying33 rfl (by kernel_rfl) ?_)
    refine CR.out.mono ?_; rintro e_ wq ⟨rfl, hq⟩
    clear gl g0 g1 g2 g3 g4 g5
    replace hA := hA.ext hq
    replace hE := hE.trans hq
    have hZ := hA.setRow [.int .i64 (k : Nat), .int .u64 0, .int .u64 0, .string ⟨t.toArray⟩, .int .u64 (vG d 0 : Nat), .int .u64 (vG d 1 : Nat), .int .u64 (vG d 2 : Nat), .int .u64 (vG d 3 : Nat), .string ⟨#[]⟩, .int .u64 0, .int .u64 0, .int .u64 0, .int .u64 0, .int .i64 0, .int .i64 0, .int .i64 0, .slice none 0 0, .slice none 0 0]
    go_wp2_with (first | (refine wpList_load_row rfl 33 _ rfl bA rfl _ _ _ _ hA Tryz.underlying33 rfl (by kernel_rfl) ?_) | (refine wpList_store_row (cells := #[.int .i64 (k : Nat), .int .u64 0, .int .u64 0, .string ⟨t.toArray⟩, .int .u64 (vG d 0 : Nat), .int .u64 (vG d 1 : Nat), .int .u64 (vG d 2 : Nat), .int .u64 (vG d 3 : Nat), .string ⟨#[]⟩, .int .u64 0, .int .u64 0, .int .u64 0, .int .u64 0, .int .i64 0, .int .i64 0, .int .i64 0, .slice none 0 0, .slice none 0 0]) rfl 33 _ _ rfl bA rfl rfl _ _ hA (by kernel_rfl) rfl (by first | rfl | decide | simp [Value.oneCell']) ?_))
    refine bodyPost_ret (results_row3 (p := 4) (t := 5) (u := 6) rfl _ _ _ _ _ _ _ rfl hZ Tryz.underlying33 rfl (by kernel_rfl)) rfl ?_
    refine ⟨?_, Ext.setRow hE hwA _⟩
    rw [hFe.out]
    refine ⟨.slice none 0 0, .slice none 0 0, [], rfl, ?_, (fun r hr => by cases hr), (by show (0 : Nat) ≤ _; omega), rfl, ?_, hOk, OwnT.nil _, (fun c h => by cases h)⟩
    ·exact Terms.nil _
    ·exact Pairs.nil _

set_option maxHeartbeats 4000000 in
set_option maxRecDepth 100000 in
theorem aget_c6 (s : ByteArray) (p : Int) (w : World) (hs : s.size ≤ 281474976710656) (hv : Vars w) (hok : (getI s.data.toList p).2.2 = true) (h13 : (getI s.data.toList p).1 ≤ 13) (hfd : (knownF ((getI s.data.toList p).1 : Nat)).getD noFld = (false, false, true, true, false, true)) :
  Calls Tryz.prog 40 #[.string s, .int .i64 p] w fun e_ w' => GotO w.heap.size w' (finO (rdF s.data.toList (false, false, true, true, false, true) ((getI s.data.toList p).1 : Nat) (getI s.data.toList p).2.1)) e_ ∧ Ext w w' := by
 have hU : U64 s.data.toList.length := Nat.lt_of_le_of_lt (show s.size ≤ _ from hs) (by decide)
 have C1 := fun U => wget_w s p U hs
 have hkf := getI_fit (l := s.data.toList) (p := p) hs
 obtain ⟨⟨k, q, b⟩, hr⟩ : ∃ r, getI s.data.toList p = r := ⟨_, rfl⟩
 rw [hr] at C1 hok h13 hfd hkf ⊢
 simp only at C1 hok h13 hfd hkf ⊢
 subst hok
 clear hr
 have hk : -9223372036854775808 ≤ (k : Int) ∧ (k : Int) ≤ 9223372036854775807 := by omega
 have CK := fun U => aknown_w U
 have hlook := fun (U : World) B (h : MapK U B 13 knownF) => h.look1 hk
 rw [hfd] at hlook
 unfold fldV at hlook
 simp only at hlook
 clear hfd
 have CT := fun U => wgettext_w s q 98 U hs (by omega)
 obtain ⟨⟨t, qt, bt⟩, rt⟩ : ∃ r, atI (getTextL 98) [] s.data.toList q = r := ⟨_, rfl⟩
 rw [rt] at CT
 simp only at CT
 have CV := fun U => vget_w s qt U hs
 obtain ⟨⟨d, qd, bd⟩, rd⟩ : ∃ r, getV s.data.toList qt = r := ⟨_, rfl⟩
 rw [rd] at CV
 have hdo : bd = true → OkV d := fun h => ((getV_iff hU).1 (h ▸ rd)).1
 unfold vVal vF at CV
 simp only at CV
 have CB_ := fun U (h : Ext w U) => lgetO_w s qd U hs (hv.tabs.ext h)
 obtain ⟨G, hGd⟩ : ∃ g, rdF s.data.toList (false, false, true, true, false, true) ((k : Nat) : Int) q = g := ⟨_, rfl⟩
 rw [hGd]
 replace hGd := Lib.hid hGd
 replace CK := Lib.hid CK
 replace C1 := Lib.hid C1
 replace hlook := Lib.hid hlook
 replace CT := Lib.hid CT
 replace CV := Lib.hid CV
 replace CB_ := Lib.hid CB_
 obtain ⟨w1, hW1, hA, hE, -⟩ := new_row w 33 [.int .i64 0, .int .u64 0, .int .u64 0, .string ⟨#[]⟩, .int .u64 0, .int .u64 0, .int .u64 0, .int .u64 0, .string ⟨#[]⟩, .int .u64 0, .int .u64 0, .int .u64 0, .int .u64 0, .int .i64 0, .int .i64 0, .int .i64 0, .slice none 0 0, .slice none 0 0]
 obtain ⟨bA, hbA⟩ : ∃ x, w.heap.size = x := ⟨_, rfl⟩
 have hwA : w.heap.size ≤ bA := by omega
 rw [hbA] at hA
 go_enter Tryz.func40, Tryz.ntmps40
 go_upto_region 1 with fail
 clear hW1 hbA
 go_wp2_with fail
 refine (C1.out _).mono ?_; rintro e_ w2 ⟨rfl, h2⟩
 replace hA := hA.ext h2
 replace hE := hE.trans h2
 clear h2
 have al := hA.lt
 have a0 : w2.cell? ⟨bA, 0, none⟩ = some (.int .i64 0) := hA.cell 0
 have af0 := hA.free 0
 go_upto_region 5 with fail
 clear al a0 af0
 have hA' : RB bA 33 [.int .i64 (k : Nat), .int .u64 0, .int .u64 0, .string ⟨#[]⟩, .int .u64 0, .int .u64 0, .int .u64 0, .int .u64 0, .string ⟨#[]⟩, .int .u64 0, .int .u64 0, .int .u64 0, .int .u64 0, .int .i64 0, .int .i64 0, .int .i64 0, .slice none 0 0, .slice none 0 0] (w2.setCell ⟨bA, 0, none⟩ (.int .i64 (k : Nat))) := hA.set 0 (.int .i64 (k : Nat))
 have hE' : Ext w (w2.setCell ⟨bA, 0, none⟩ (.int .i64 (k : Nat))) := Below.setCell hE (p := ⟨bA, 0, none⟩) hwA _
 clear hA hE
 have hA := hA'
 have hE := hE'
 clear hA' hE'
 generalize w2.setCell ⟨bA, 0, none⟩ (.int .i64 (k : Nat)) = w3 at *
 have al := hA.lt
 have a0 : w3.cell? ⟨bA, 0, none⟩ = some (.int .i64 (k : Nat)) := hA.cell 0
 refine region_cut (fun a_ a' w' => ∃ bM bF : Nat, a' = ((((a_.put (some 26) (.map (some bM))).put (some 27) (.pointer (some ⟨bA, 0, none⟩))).put (some 28) (.int .i64 (k : Nat))).put (some 29) (.agg #[.bool false, .bool false, .bool true, .bool true, .bool false, .bool true])).put (some 8) (.pointer (some ⟨bF, 0, none⟩)) ∧ RB bF 108 [.bool false, .bool false, .bool true, .bool true, .bool false, .bool true] w' ∧ w3.heap.size ≤ bF ∧ Ext w3 w') ?_ ?_
 ·skip
  try simp only [Act.put, List.setIfInBounds_toArray, List.set_cons_succ, List.set_cons_zero]
  refine Dm.wp_region_ext 6 (Dm.bits 6 0) (Ext.refl w3) (by kernel_rfl) (by kernel_rfl) (by kernel_rfl) ?_
  refine Dm.wpE_take (i := 1) (listed' := (Dm.bits 6 2)) (by kernel_rfl) (by kernel_rfl) rfl (fun _ _ _ _ h => h) ?_; apply Exists.intro; refine And.intro (fun x => ?_) ?_
  ·go_big_quiet_step (fail); exact wpQuiet_nil rfl
  refine Dm.wpE_take (i := 2) (listed' := (Dm.bits 6 6)) (by kernel_rfl) (by kernel_rfl) rfl (fun _ _ _ _ h => h) ?_; apply Exists.intro; refine And.intro (fun x => ?_) ?_
  ·go_big_quiet_step (fail); exact wpQuiet_nil rfl
  refine Dm.wpE_two (i := 0) (j := 4) (li := (Dm.bits 6 7)) (lj := (Dm.bits 6 22)) (by kernel_rfl) (by kernel_rfl) (by kernel_rfl) rfl rfl (Ext.refl w3) (fun w1a hx1a => ?_) (fun w1a hx1a => ?_)
  ·
   have hX1a := Ext.trans (Ext.refl w3) hx1a
   go_wp2_with (go_at_call 55; go_must (refine (CK.out w1a).mono ?_; rintro e_ w1b ⟨bM, rfl, hM, hs1⟩))
   have hX1b := Ext.trans hX1a hs1
   try simp only [Exit.then, Act.put, List.setIfInBounds_toArray, List.set_cons_succ, List.set_cons_zero]
   refine Dm.wpE_two (i := 3) (j := 4) (li := (Dm.bits 6 15)) (lj := (Dm.bits 6 23)) (by kernel_rfl) (by kernel_rfl) (by kernel_rfl) rfl rfl hX1b (fun w2a hx2a => ?_) (fun w2a hx2a => ?_)
   ·
    have hX2a := Ext.trans hX1b hx2a
    replace hM := hM.ext hx2a
    have hlk := hlook.out _ _ hM
    go_wp2_with fail
    clear hlk hM
    obtain ⟨w2b, hw2⟩ : ∃ x, x = w2a := ⟨_, rfl⟩
    subst hw2
    have hX2b := hX2a
    try simp only [Exit.then, Act.put, List.setIfInBounds_toArray, List.set_cons_succ, List.set_cons_zero]
    refine Dm.wpE_one (i := 4) (listed' := (Dm.bits 6 31)) (by kernel_rfl) (by kernel_rfl) rfl hX2b (fun w3a hx3a => ?_)
    have hX3a := Ext.trans hX2b hx3a
    have hF : RB w3a.heap.size 108 [.bool false, .bool false, .bool false, .bool false, .bool false, .bool false] (w3a.alloc (.cells #[.bool false, .bool false, .bool false, .bool false, .bool false, .bool false] 108)) := RB.new w3a 108 [.bool false, .bool false, .bool false, .bool false, .bool false, .bool false]
    have hbF := (hX3a).size
    go_wp2_with fail
    have hs3 : Ext w3a (w3a.alloc (.cells #[.bool false, .bool false, .bool false, .bool false, .bool false, .bool false] 108)) := (Ext.refl _).alloc _
    have hX3b := Ext.trans hX3a hs3
    generalize w3a.alloc (.cells #[.bool false, .bool false, .bool false, .bool false, .bool false, .bool false] 108) = w3b at *
    generalize w3a.heap.size = bF at *
    try simp only [Exit.then, Act.put, List.setIfInBounds_toArray, List.set_cons_succ, List.set_cons_zero]
    refine Dm.wpE_one (i := 5) (listed' := (Dm.bits 6 63)) (by kernel_rfl) (by kernel_rfl) rfl hX3b (fun w4a hx4a => ?_)
    have hX4a := Ext.trans hX3b hx4a
    replace hF := hF.ext hx4a
    have hG := hF.setRow [.bool false, .bool false, .bool true, .bool true, .bool false, .bool true]
    go_wp2_with (refine wpList_store_row (cells := #[.bool false, .bool false, .bool true, .bool true, .bool false, .bool true]) rfl 108 _ _ rfl bF rfl rfl _ _ hF (by kernel_rfl) rfl (by first | rfl | decide | simp [Value.oneCell']) ?_)
    change RB bF 108 [.bool false, .bool false, .bool true, .bool true, .bool false, .bool true] (w4a.setRow bF #[.bool false, .bool false, .bool true, .bool true, .bool false, .bool true]) at hG
    have hX4b : Ext w3 (w4a.setRow bF #[.bool false, .bool false, .bool true, .bool true, .bool false, .bool true]) := Ext.setRow hX4a hbF _
    clear hF
    generalize w4a.setRow bF #[.bool false, .bool false, .bool true, .bool true, .bool false, .bool true] = w4b at *
    try simp only [Act.put]
    refine Dm.wpE_done (by kernel_rfl) hX4b (fun w5a hx5a => ?_)
    have hX5a := Ext.trans hX4b hx5a
    replace hG := hG.ext hx5a
    exact ⟨bM, bF, rfl, hG, hbF, hX5a⟩
   ·
    have hX2a := Ext.trans hX1b hx2a
    replace hM := hM.ext hx2a
    have hF : RB w2a.heap.size 108 [.bool false, .bool false, .bool false, .bool false, .bool false, .bool false] (w2a.alloc (.cells #[.bool false, .bool false, .bool false, .bool false, .bool false, .bool false] 108)) := RB.new w2a 108 [.bool false, .bool false, .bool false, .bool false, .bool false, .bool false]
    have hbF := (hX2a).size
    go_wp2_with fail
    have hs2 : Ext w2a (w2a.alloc (.cells #[.bool false, .bool false, .bool false, .bool false, .bool false, .bool false] 108)) := (Ext.refl _).alloc _
    have hX2b := Ext.trans hX2a hs2
    generalize w2a.alloc (.cells #[.bool false, .bool false, .bool false, .bool false, .bool false, .bool false] 108) = w2b at *
    generalize w2a.heap.size = bF at *
    replace hM := hM.ext hs2
    try simp only [Exit.then, Act.put, List.setIfInBounds_toArray, List.set_cons_succ, List.set_cons_zero]
    refine Dm.wpE_one (i := 3) (listed' := (Dm.bits 6 31)) (by kernel_rfl) (by kernel_rfl) rfl hX2b (fun w6a hx6a => ?_)
    have hX6a := Ext.trans hX2b hx6a
    replace hM := hM.ext hx6a
    replace hF := hF.ext hx6a
    have hlk := hlook.out _ _ hM
    go_wp2_with fail
    clear hlk hM
    obtain ⟨w6b, hw2⟩ : ∃ x, x = w6a := ⟨_, rfl⟩
    subst hw2
    have hX6b := hX6a
    try simp only [Exit.then, Act.put, List.setIfInBounds_toArray, List.set_cons_succ, List.set_cons_zero]
    refine Dm.wpE_one (i := 5) (listed' := (Dm.bits 6 63)) (by kernel_rfl) (by kernel_rfl) rfl hX6b (fun w7a hx7a => ?_)
    have hX7a := Ext.trans hX6b hx7a
    replace hF := hF.ext hx7a
    have hG := hF.setRow [.bool false, .bool false, .bool true, .bool true, .bool false, .bool true]
    go_wp2_with (refine wpList_store_row (cells := #[.bool false, .bool false, .bool true, .bool true, .bool false, .bool true]) rfl 108 _ _ rfl bF rfl rfl _ _ hF (by kernel_rfl) rfl (by first | rfl | decide | simp [Value.oneCell']) ?_)
    change RB bF 108 [.bool false, .bool false, .bool true, .bool true, .bool false, .bool true] (w7a.setRow bF #[.bool false, .bool false, .bool true, .bool true, .bool false, .bool true]) at hG
    have hX7b : Ext w3 (w7a.setRow bF #[.bool false, .bool false, .bool true, .bool true, .bool false, .bool true]) := Ext.setRow hX7a hbF _
    clear hF
    generalize w7a.setRow bF #[.bool false, .bool false, .bool true, .bool true, .bool false, .bool true] = w7b at *
    try simp only [Act.put]
    refine Dm.wpE_done (by kernel_rfl) hX7b (fun w8a hx8a => ?_)
    have hX8a := Ext.trans hX7b hx8a
    replace hG := hG.ext hx8a
    exact ⟨bM, bF, rfl, hG, hbF, hX8a⟩
  ·
   have hX1a := Ext.trans (Ext.refl w3) hx1a
   have hF : RB w1a.heap.size 108 [.bool false, .bool false, .bool false, .bool false, .bool false, .bool false] (w1a.alloc (.cells #[.bool false, .bool false, .bool false, .bool false, .bool false, .bool false] 108)) := RB.new w1a 108 [.bool false, .bool false, .bool false, .bool false, .bool false, .bool false]
   have hbF := (hX1a).size
   go_wp2_with fail
   have hs1 : Ext w1a (w1a.alloc (.cells #[.bool false, .bool false, .bool false, .bool false, .bool false, .bool false] 108)) := (Ext.refl _).alloc _
   have hX1b := Ext.trans hX1a hs1
   generalize w1a.alloc (.cells #[.bool false, .bool false, .bool false, .bool false, .bool false, .bool false] 108) = w1b at *
   generalize w1a.heap.size = bF at *
   try simp only [Exit.then, Act.put, List.setIfInBounds_toArray, List.set_cons_succ, List.set_cons_zero]
   refine Dm.wpE_one (i := 0) (listed' := (Dm.bits 6 23)) (by kernel_rfl) (by kernel_rfl) rfl hX1b (fun w9a hx9a => ?_)
   have hX9a := Ext.trans hX1b hx9a
   replace hF := hF.ext hx9a
   go_wp2_with (go_at_call 55; go_must (refine (CK.out w9a).mono ?_; rintro e_ w9b ⟨bM, rfl, hM, hs9⟩))
   have hX9b := Ext.trans hX9a hs9
   replace hF := hF.ext hs9
   try simp only [Exit.then, Act.put, List.setIfInBounds_toArray, List.set_cons_succ, List.set_cons_zero]
   refine Dm.wpE_one (i := 3) (listed' := (Dm.bits 6 31)) (by kernel_rfl) (by kernel_rfl) rfl hX9b (fun w10a hx10a => ?_)
   have hX10a := Ext.trans hX9b hx10a
   replace hF := hF.ext hx10a
   replace hM := hM.ext hx10a
   have hlk := hlook.out _ _ hM
   go_wp2_with fail
   clear hlk hM
   obtain ⟨w10b, hw2⟩ : ∃ x, x = w10a := ⟨_, rfl⟩
   subst hw2
   have hX10b := hX10a
   try simp only [Exit.then, Act.put, List.setIfInBounds_toArray, List.set_cons_succ, List.set_cons_zero]
   refine Dm.wpE_one (i := 5) (listed' := (Dm.bits 6 63)) (by kernel_rfl) (by kernel_rfl) rfl hX10b (fun w11a hx11a => ?_)
   have hX11a := Ext.trans hX10b hx11a
   replace hF := hF.ext hx11a
   have hG := hF.setRow [.bool false, .bool false, .bool true, .bool true, .bool false, .bool true]
   go_wp2_with (refine wpList_store_row (cells := #[.bool false, .bool false, .bool true, .bool true, .bool false, .bool true]) rfl 108 _ _ rfl bF rfl rfl _ _ hF (by kernel_rfl) rfl (by first | rfl | decide | simp [Value.oneCell']) ?_)
   change RB bF 108 [.bool false, .bool false, .bool true, .bool true, .bool false, .bool true] (w11a.setRow bF #[.bool false, .bool false, .bool true, .bool true, .bool false, .bool true]) at hG
   have hX11b : Ext w3 (w11a.setRow bF #[.bool false, .bool false, .bool true, .bool true, .bool false, .bool true]) := Ext.setRow hX11a hbF _
   clear hF
   generalize w11a.setRow bF #[.bool false, .bool false, .bool true, .bool true, .bool false, .bool true] = w11b at *
   try simp only [Act.put]
   refine Dm.wpE_done (by kernel_rfl) hX11b (fun w12a hx12a => ?_)
   have hX12a := Ext.trans hX11b hx12a
   replace hG := hG.ext hx12a
   exact ⟨bM, bF, rfl, hG, hbF, hX12a⟩
 rintro a_ w4 ⟨bM, bF, rfl, hG, hbF, h4⟩
 simp only [Act.put, List.setIfInBounds_toArray, List.set_cons_succ, List.set_cons_zero]
 have hAF : bA ≠ bF := by omega
 clear a0 al hbF
 replace hA := hA.ext h4
 replace hE := hE.trans h4
 clear h4
 have gl := hG.lt
 have g0 : w4.cell? ⟨bF, 0, none⟩ = some (.bool false) := hG.cell 0
 have g1 : w4.cell? ⟨bF, 1, none⟩ = some (.bool false) := hG.cell 1
 have g2 : w4.cell? ⟨bF, 2, none⟩ = some (.bool true) := hG.cell 2
 have g3 : w4.cell? ⟨bF, 3, none⟩ = some (.bool true) := hG.cell 3
 have g4 : w4.cell? ⟨bF, 4, none⟩ = some (.bool false) := hG.cell 4
 have g5 : w4.cell? ⟨bF, 5, none⟩ = some (.bool true) := hG.cell 5
 go_wp2_with fail
 refine (CT.out _).mono ?_; rintro e_ w6 ⟨rfl, h6⟩
 clear gl g0 g1 g2 g3 g4 g5
 replace hA := hA.ext h6
 replace hG := hG.ext h6
 replace hE := hE.trans h6
 clear h6
 have al := hA.lt
 have a3 : w6.cell? ⟨bA, 3, none⟩ = some (.string ⟨#[]⟩) := hA.cell 3
 have af3 := hA.free 3
 go_upto_region 12 with fail
 clear al a3 af3
 have hA' : RB bA 33 [.int .i64 (k : Nat), .int .u64 0, .int .u64 0, .string ⟨t.toArray⟩, .int .u64 0, .int .u64 0, .int .u64 0, .int .u64 0, .string ⟨#[]⟩, .int .u64 0, .int .u64 0, .int .u64 0, .int .u64 0, .int .i64 0, .int .i64 0, .int .i64 0, .slice none 0 0, .slice none 0 0] (w6.setCell ⟨bA, 3, none⟩ (.string ⟨t.toArray⟩)) := (hA.set 3 (.string ⟨t.toArray⟩))
 have hG' : RB bF 108 [.bool false, .bool false, .bool true, .bool true, .bool false, .bool true] (w6.setCell ⟨bA, 3, none⟩ (.string ⟨t.toArray⟩)) := (hG.far (c := bA) (i := 3) hAF (.string ⟨t.toArray⟩))
 have hE' : Ext w (w6.setCell ⟨bA, 3, none⟩ (.string ⟨t.toArray⟩)) := (Below.setCell hE (p := ⟨bA, 3, none⟩) hwA (.string ⟨t.toArray⟩))
 clear hA hG hE
 have hA := hA'
 have hG := hG'
 have hE := hE'
 clear hA' hG' hE'
 generalize (w6.setCell ⟨bA, 3, none⟩ (.string ⟨t.toArray⟩)) = w7 at *
 cases bt with
 | false =>
  have gl := hG.lt
  have g0 : w7.cell? ⟨bF, 0, none⟩ = some (.bool false) := hG.cell 0
  have g1 : w7.cell? ⟨bF, 1, none⟩ = some (.bool false) := hG.cell 1
  have g2 : w7.cell? ⟨bF, 2, none⟩ = some (.bool true) := hG.cell 2
  have g3 : w7.cell? ⟨bF, 3, none⟩ = some (.bool true) := hG.cell 3
  have g4 : w7.cell? ⟨bF, 4, none⟩ = some (.bool false) := hG.cell 4
  have g5 : w7.cell? ⟨bF, 5, none⟩ = some (.bool true) := hG.cell 5
  have hZ := hA.setRow [.int .i64 0, .int .u64 0, .int .u64 0, .string ⟨#[]⟩, .int .u64 0, .int .u64 0, .int .u64 0, .int .u64 0, .string ⟨#[]⟩, .int .u64 0, .int .u64 0, .int .u64 0, .int .u64 0, .int .i64 0, .int .i64 0, .int .i64 0, .slice none 0 0, .slice none 0 0]
  go_wp2_with (first | (refine wpList_load_row rfl 33 _ rfl bA rfl _ _ _ _ hA Tryz.underlying33 rfl (by kernel_rfl) ?_) | (refine wpList_store_row (cells := #[.int .i64 0, .int .u64 0, .int .u64 0, .string ⟨#[]⟩, .int .u64 0, .int .u64 0, .int .u64 0, .int .u64 0, .string ⟨#[]⟩, .int .u64 0, .int .u64 0, .int .u64 0, .int .u64 0, .int .i64 0, .int .i64 0, .int .i64 0, .slice none 0 0, .slice none 0 0]) rfl 33 _ _ rfl bA rfl rfl _ _ hA (by kernel_rfl) rfl (by first | rfl | decide | simp [Value.oneCell']) ?_))
  refine bodyPost_ret (results_row3 (p := 4) (t := 5) (u := 6) rfl _ _ _ _ _ _ _ rfl hZ Tryz.underlying33 rfl (by kernel_rfl)) rfl ?_
  have hGe : G = ((((k : Nat) : Int), (0, 0), ⟨t.toArray⟩, noV, noSp, []), qt, false) := by rw [← hGd.out]; simp only [rdF, rdA, rdT, rdV, rdX, rdL, cond_true, cond_false, Bool.and_true, rt]; first | done | rfl
  subst hGe
  exact ⟨GotO.no _ _ _ (fun h => by cases h.1), Ext.setRow hE hwA _⟩
 | true =>
  have gl := hG.lt
  have g0 : w7.cell? ⟨bF, 0, none⟩ = some (.bool false) := hG.cell 0
  have g1 : w7.cell? ⟨bF, 1, none⟩ = some (.bool false) := hG.cell 1
  have g2 : w7.cell? ⟨bF, 2, none⟩ = some (.bool true) := hG.cell 2
  have g3 : w7.cell? ⟨bF, 3, none⟩ = some (.bool true) := hG.cell 3
  have g4 : w7.cell? ⟨bF, 4, none⟩ = some (.bool false) := hG.cell 4
  have g5 : w7.cell? ⟨bF, 5, none⟩ = some (.bool true) := hG.cell 5
  go_wp2_with fail
  refine (CV.out _).mono ?_; rintro e_ w8 ⟨rfl, h8⟩
  clear gl g0 g1 g2 g3 g4 g5
  replace hA := hA.ext h8
  replace hG := hG.ext h8
  replace hE := hE.trans h8
  clear h8
  have al := hA.lt
  have a4 : w8.cell? ⟨bA, 4, none⟩ = some (.int .u64 0) := hA.cell 4
  have af4 := hA.free 4
  have a5 : w8.cell? ⟨bA, 5, none⟩ = some (.int .u64 0) := hA.cell 5
  have af5 := hA.free 5
  have a6 : w8.cell? ⟨bA, 6, none⟩ = some (.int .u64 0) := hA.cell 6
  have af6 := hA.free 6
  have a7 : w8.cell? ⟨bA, 7, none⟩ = some (.int .u64 0) := hA.cell 7
  have af7 := hA.free 7
  go_upto_region 14 with fail
  clear al a4 af4 a5 af5 a6 af6 a7 af7
  have hA' : RB bA 33 [.int .i64 (k : Nat), .int .u64 0, .int .u64 0, .string ⟨t.toArray⟩, .int .u64 (vG d 0 : Nat), .int .u64 (vG d 1 : Nat), .int .u64 (vG d 2 : Nat), .int .u64 (vG d 3 : Nat), .string ⟨#[]⟩, .int .u64 0, .int .u64 0, .int .u64 0, .int .u64 0, .int .i64 0, .int .i64 0, .int .i64 0, .slice none 0 0, .slice none 0 0] ((((w8.setCell ⟨bA, 4, none⟩ (.int .u64 (vG d 0 : Nat))).setCell ⟨bA, 5, none⟩ (.int .u64 (vG d 1 : Nat))).setCell ⟨bA, 6, none⟩ (.int .u64 (vG d 2 : Nat))).setCell ⟨bA, 7, none⟩ (.int .u64 (vG d 3 : Nat))) := ((((hA.set 4 (.int .u64 (vG d 0 : Nat))).set 5 (.int .u64 (vG d 1 : Nat))).set 6 (.int .u64 (vG d 2 : Nat))).set 7 (.int .u64 (vG d 3 : Nat)))
  have hG' : RB bF 108 [.bool false, .bool false, .bool true, .bool true, .bool false, .bool true] ((((w8.setCell ⟨bA, 4, none⟩ (.int .u64 (vG d 0 : Nat))).setCell ⟨bA, 5, none⟩ (.int .u64 (vG d 1 : Nat))).setCell ⟨bA, 6, none⟩ (.int .u64 (vG d 2 : Nat))).setCell ⟨bA, 7, none⟩ (.int .u64 (vG d 3 : Nat))) := ((((hG.far (c := bA) (i := 4) hAF (.int .u64 (vG d 0 : Nat))).far (c := bA) (i := 5) hAF (.int .u64 (vG d 1 : Nat))).far (c := bA) (i := 6) hAF (.int .u64 (vG d 2 : Nat))).far (c := bA) (i := 7) hAF (.int .u64 (vG d 3 : Nat)))
  have hE' : Ext w ((((w8.setCell ⟨bA, 4, none⟩ (.int .u64 (vG d 0 : Nat))).setCell ⟨bA, 5, none⟩ (.int .u64 (vG d 1 : Nat))).setCell ⟨bA, 6, none⟩ (.int .u64 (vG d 2 : Nat))).setCell ⟨bA, 7, none⟩ (.int .u64 (vG d 3 : Nat))) := (Below.setCell (Below.setCell (Below.setCell (Below.setCell hE (p := ⟨bA, 4, none⟩) hwA (.int .u64 (vG d 0 : Nat))) (p := ⟨bA, 5, none⟩) hwA (.int .u64 (vG d 1 : Nat))) (p := ⟨bA, 6, none⟩) hwA (.int .u64 (vG d 2 : Nat))) (p := ⟨bA, 7, none⟩) hwA (.int .u64 (vG d 3 : Nat)))
  clear hA hG hE
  have hA := hA'
  have hG := hG'
  have hE := hE'
  clear hA' hG' hE'
  generalize ((((w8.setCell ⟨bA, 4, none⟩ (.int .u64 (vG d 0 : Nat))).setCell ⟨bA, 5, none⟩ (.int .u64 (vG d 1 : Nat))).setCell ⟨bA, 6, none⟩ (.int .u64 (vG d 2 : Nat))).setCell ⟨bA, 7, none⟩ (.int .u64 (vG d 3 : Nat))) = w9 at *
  cases bd with
  | false =>
   have gl := hG.lt
   have g0 : w9.cell? ⟨bF, 0, none⟩ = some (.bool false) := hG.cell 0
   have g1 : w9.cell? ⟨bF, 1, none⟩ = some (.bool false) := hG.cell 1
   have g2 : w9.cell? ⟨bF, 2, none⟩ = some (.bool true) := hG.cell 2
   have g3 : w9.cell? ⟨bF, 3, none⟩ = some (.bool true) := hG.cell 3
   have g4 : w9.cell? ⟨bF, 4, none⟩ = some (.bool false) := hG.cell 4
   have g5 : w9.cell? ⟨bF, 5, none⟩ = some (.bool true) := hG.cell 5
   have hZ := hA.setRow [.int .i64 0, .int .u64 0, .int .u64 0, .string ⟨#[]⟩, .int .u64 0, .int .u64 0, .int .u64 0, .int .u64 0, .string ⟨#[]⟩, .int .u64 0, .int .u64 0, .int .u64 0, .int .u64 0, .int .i64 0, .int .i64 0, .int .i64 0, .slice none 0 0, .slice none 0 0]
   go_wp2_with (first | (refine wpList_load_row rfl 33 _ rfl bA rfl _ _ _ _ hA Tryz.underlying33 rfl (by kernel_rfl) ?_) | (refine wpList_store_row (cells := #[.int .i64 0, .int .u64 0, .int .u64 0, .string ⟨#[]⟩, .int .u64 0, .int .u64 0, .int .u64 0, .int .u64 0, .string ⟨#[]⟩, .int .u64 0, .int .u64 0, .int .u64 0, .int .u64 0, .int .i64 0, .int .i64 0, .int .i64 0, .slice none 0 0, .slice none 0 0]) rfl 33 _ _ rfl bA rfl rfl _ _ hA (by kernel_rfl) rfl (by first | rfl | decide | simp [Value.oneCell']) ?_))
   refine bodyPost_ret (results_row3 (p := 4) (t := 5) (u := 6) rfl _ _ _ _ _ _ _ rfl hZ Tryz.underlying33 rfl (by kernel_rfl)) rfl ?_
   have hGe : G = ((((k : Nat) : Int), (0, 0), ⟨t.toArray⟩, d, noSp, []), qd, false) := by rw [← hGd.out]; simp only [rdF, rdA, rdT, rdV, rdX, rdL, cond_true, cond_false, Bool.and_true, rt, rd]; first | done | rfl
   subst hGe
   exact ⟨GotO.no _ _ _ (fun h => by cases h.1), Ext.setRow hE hwA _⟩
  | true =>
   have gl := hG.lt
   have g0 : w9.cell? ⟨bF, 0, none⟩ = some (.bool false) := hG.cell 0
   have g1 : w9.cell? ⟨bF, 1, none⟩ = some (.bool false) := hG.cell 1
   have g2 : w9.cell? ⟨bF, 2, none⟩ = some (.bool true) := hG.cell 2
   have g3 : w9.cell? ⟨bF, 3, none⟩ = some (.bool true) := hG.cell 3
   have g4 : w9.cell? ⟨bF, 4, none⟩ = some (.bool false) := hG.cell 4
   have g5 : w9.cell? ⟨bF, 5, none⟩ = some (.bool true) := hG.cell 5
   go_wp2_with fail
   refine (CB_.out _ hE).mono ?_; rintro e_ w10 ⟨v_, LB, qb, bb, rfl, hP, hFP, hl8, hat, hOP, h10⟩
   obtain ⟨ql, cl, rfl, _, _⟩ := hP.shape
   have hbP := hA.lt
   have hbE := hE.size
   clear gl g0 g1 g2 g3 g4 g5
   replace hA := hA.ext h10
   replace hG := hG.ext h10
   replace hE := hE.trans h10
   clear h10
   have al := hA.lt
   have a17 : w10.cell? ⟨bA, 17, none⟩ = some (.slice none 0 0) := hA.cell 17
   have af17 := hA.free 17
   go_upto_region 18 with fail
   clear al a17 af17
   have hA' : RB bA 33 [.int .i64 (k : Nat), .int .u64 0, .int .u64 0, .string ⟨t.toArray⟩, .int .u64 (vG d 0 : Nat), .int .u64 (vG d 1 : Nat), .int .u64 (vG d 2 : Nat), .int .u64 (vG d 3 : Nat), .string ⟨#[]⟩, .int .u64 0, .int .u64 0, .int .u64 0, .int .u64 0, .int .i64 0, .int .i64 0, .int .i64 0, .slice none 0 0, .slice ql LB.length cl] (w10.setCell ⟨bA, 17, none⟩ (.slice ql LB.length cl)) := (hA.set 17 (.slice ql LB.length cl))
   have hG' : RB bF 108 [.bool false, .bool false, .bool true, .bool true, .bool false, .bool true] (w10.setCell ⟨bA, 17, none⟩ (.slice ql LB.length cl)) := (hG.far (c := bA) (i := 17) hAF (.slice ql LB.length cl))
   have hE' : Ext w (w10.setCell ⟨bA, 17, none⟩ (.slice ql LB.length cl)) := (Below.setCell hE (p := ⟨bA, 17, none⟩) hwA (.slice ql LB.length cl))
   have hP' : Pairs (w10.setCell ⟨bA, 17, none⟩ (.slice ql LB.length cl)) (.slice ql LB.length cl) LB := hP.off hOP hbP ((Off.refl bA w10).setCell 17 (.slice ql LB.length cl))
   clear hP
   have hP := hP'
   clear hP'
   clear hA hG hE
   have hA := hA'
   have hG := hG'
   have hE := hE'
   clear hA' hG' hE'
   generalize (w10.setCell ⟨bA, 17, none⟩ (.slice ql LB.length cl)) = w11 at *
   cases bb with
   | false =>
    have gl := hG.lt
    have g0 : w11.cell? ⟨bF, 0, none⟩ = some (.bool false) := hG.cell 0
    have g1 : w11.cell? ⟨bF, 1, none⟩ = some (.bool false) := hG.cell 1
    have g2 : w11.cell? ⟨bF, 2, none⟩ = some (.bool true) := hG.cell 2
    have g3 : w11.cell? ⟨bF, 3, none⟩ = some (.bool true) := hG.cell 3
    have g4 : w11.cell? ⟨bF, 4, none⟩ = some (.bool false) := hG.cell 4
    have g5 : w11.cell? ⟨bF, 5, none⟩ = some (.bool true) := hG.cell 5
    have hZ := hA.setRow [.int .i64 0, .int .u64 0, .int .u64 0, .string ⟨#[]⟩, .int .u64 0, .int .u64 0, .int .u64 0, .int .u64 0, .string ⟨#[]⟩, .int .u64 0, .int .u64 0, .int .u64 0, .int .u64 0, .int .i64 0, .int .i64 0, .int .i64 0, .slice none 0 0, .slice none 0 0]
    go_wp2_with (first | (refine wpList_load_row rfl 33 _ rfl bA rfl _ _ _ _ hA Tryz.underlying33 rfl (by kernel_rfl) ?_) | (refine wpList_store_row (cells := #[.int .i64 0, .int .u64 0, .int .u64 0, .string ⟨#[]⟩, .int .u64 0, .int .u64 0, .int .u64 0, .int .u64 0, .string ⟨#[]⟩, .int .u64 0, .int .u64 0, .int .u64 0, .int .u64 0, .int .i64 0, .int .i64 0, .int .i64 0, .slice none 0 0, .slice none 0 0]) rfl 33 _ _ rfl bA rfl rfl _ _ hA (by kernel_rfl) rfl (by first | rfl | decide | simp [Value.oneCell']) ?_))
    refine bodyPost_ret (results_row3 (p := 4) (t := 5) (u := 6) rfl _ _ _ _ _ _ _ rfl hZ Tryz.underlying33 rfl (by kernel_rfl)) rfl ?_
    have hGe : G = ((((k : Nat) : Int), (0, 0), ⟨t.toArray⟩, d, noSp, LB), qb, false) := by rw [← hGd.out]; simp only [rdF, rdA, rdT, rdV, rdX, rdL, cond_true, cond_false, Bool.and_true, rt, rd, hat, unP_lab]; first | done | rfl
    subst hGe
    exact ⟨GotO.no _ _ _ (fun h => by cases h.1), Ext.setRow hE hwA _⟩
   | true =>
    have CR : Calls Tryz.prog 25 #[.agg #[.int .i64 (k : Nat), .int .u64 0, .int .u64 0, .string ⟨t.toArray⟩, .int .u64 (vG d 0 : Nat), .int .u64 (vG d 1 : Nat), .int .u64 (vG d 2 : Nat), .int .u64 (vG d 3 : Nat), .string ⟨#[]⟩, .int .u64 0, .int .u64 0, .int .u64 0, .int .u64 0, .int .i64 0, .int .i64 0, .int .i64 0, .slice none 0 0, .slice ql LB.length cl]] w11 fun e_ w' => e_ = .returned (.bool (rightO (((k : Nat) : Int), (0, 0), ⟨t.toArray⟩, d, noSp, LB))) ∧ Ext w11 w' :=
     aright_w k 0 0 ⟨t.toArray⟩ d ⟨#[]⟩ noV (0, 0, 0) (.slice none 0 0) (.slice ql LB.length cl) [] LB w11 hk (hdo (by first | rfl | trivial)) (by show (0 : Nat) < _; decide) okV_no (by show (0 : Nat) ≤ _; omega) (fun r hr => by cases hr) (Terms.nil _) (Nat.le_trans hl8 (by decide)) hFP hP (hv.ext hE)
    have hGe : G = ((((k : Nat) : Int), (0, 0), ⟨t.toArray⟩, d, noSp, LB), qb, true) := by rw [← hGd.out]; simp only [rdF, rdA, rdT, rdV, rdX, rdL, cond_true, cond_false, Bool.and_true, rt, rd, hat, unP_lab]; first | done | rfl
    subst hGe
    have hGN := fun U => GotO.no w.heap.size U (((((k : Nat) : Int), (0, 0), ⟨t.toArray⟩, d, noSp, LB), qb, true) : OpQ × Int × Bool)
    have hGY : rightO (((k : Nat) : Int), (0, 0), ⟨t.toArray⟩, d, noSp, LB) = true → finO ((((k : Nat) : Int), (0, 0), ⟨t.toArray⟩, d, noSp, LB), qb, true) = ((((k : Nat) : Int), (0, 0), ⟨t.toArray⟩, d, noSp, LB), qb, true) := fun h => by unfold finO; rw [if_pos ⟨rfl, h⟩]
    have hOk : OkO (((k : Nat) : Int), (0, 0), ⟨t.toArray⟩, d, noSp, LB) := ⟨hk, u64_zero, u64_zero, (hdo (by first | rfl | trivial)), (by show (0 : Nat) < _; decide), okV_no, (Nat.le_trans hl8 (by decide)), hFP⟩
    cases hro : rightO (((k : Nat) : Int), (0, 0), ⟨t.toArray⟩, d, noSp, LB) with
    | false =>
     replace hGN := Lib.hid (fun U => hGN U (fun h => by rw [hro] at h; cases h.2))
     rw [hro] at CR
     replace CR := Lib.hid CR
     clear hro hGY
     have gl := hG.lt
     have g0 : w11.cell? ⟨bF, 0, none⟩ = some (.bool false) := hG.cell 0
     have g1 : w11.cell? ⟨bF, 1, none⟩ = some (.bool false) := hG.cell 1
     have g2 : w11.cell? ⟨bF, 2, none⟩ = some (.bool true) := hG.cell 2
     have g3 : w11.cell? ⟨bF, 3, none⟩ = some (.bool true) := hG.cell 3
     have g4 : w11.cell? ⟨bF, 4, none⟩ = some (.bool false) := hG.cell 4
     have g5 : w11.cell? ⟨bF, 5, none⟩ = some (.bool true) := hG.cell 5
     go_wp2_with (refine wpList_load_row_g (by kernel_rfl) 33 _ rfl bA rfl _ _ _ _ hA Tryz.underlying33 rfl (by kernel_rfl) ?_)
     refine CR.out.mono ?_; rintro e_ wq ⟨rfl, hq⟩
     clear gl g0 g1 g2 g3 g4 g5
     replace hA := hA.ext hq
     replace hE := hE.trans hq
     have hZ := hA.setRow [.int .i64 0, .int .u64 0, .int .u64 0, .string ⟨#[]⟩, .int .u64 0, .int .u64 0, .int .u64 0, .int .u64 0, .string ⟨#[]⟩, .int .u64 0, .int .u64 0, .int .u64 0, .int .u64 0, .int .i64 0, .int .i64 0, .int .i64 0, .slice none 0 0, .slice none 0 0]
     go_wp2_with (refine wpList_store_row (cells := #[.int .i64 0, .int .u64 0, .int .u64 0, .string ⟨#[]⟩, .int .u64 0, .int .u64 0, .int .u64 0, .int .u64 0, .string ⟨#[]⟩, .int .u64 0, .int .u64 0, .int .u64 0, .int .u64 0, .int .i64 0, .int .i64 0, .int .i64 0, .slice none 0 0, .slice none 0 0]) rfl 33 _ _ rfl bA rfl rfl _ _ hA (by kernel_rfl) rfl (by first | rfl | decide | simp [Value.oneCell']) ?_)
     refine bodyPost_ret (results_row3 (p := 4) (t := 5) (u := 6) rfl _ _ _ _ _ _ _ rfl hZ Tryz.underlying33 rfl (by kernel_rfl)) rfl ?_
     exact ⟨hGN.out _, Ext.setRow hE hwA _⟩
    | true =>
     have hFe := Lib.hid (hGY hro)
     rw [hro] at CR
     replace CR := Lib.hid CR
     clear hro hGN hGY
     have gl := hG.lt
     have g0 : w11.cell? ⟨bF, 0, none⟩ = some (.bool false) := hG.cell 0
     have g1 : w11.cell? ⟨bF, 1, none⟩ = some (.bool false) := hG.cell 1
     have g2 : w11.cell? ⟨bF, 2, none⟩ = some (.bool true) := hG.cell 2
     have g3 : w11.cell? ⟨bF, 3, none⟩ = some (.bool true) := hG.cell 3
     have g4 : w11.cell? ⟨bF, 4, none⟩ = some (.bool false) := hG.cell 4
     have g5 : w11.cell? ⟨bF, 5, none⟩ = some (.bool true) := hG.cell 5
     go_wp2_with (refine wpList_load_row_g (by kernel_rfl) 33 _ rfl bA rfl _ _ _ _ hA Tryz.underlying33 rfl (by kernel_rfl) ?_)
     refine CR.out.mono ?_; rintro e_ wq ⟨rfl, hq⟩
     clear gl g0 g1 g2 g3 g4 g5
     replace hA := hA.ext hq
     replace hE := hE.trans hq
     replace hP := hP.ext hq
     have hZ := hA.setRow [.int .i64 (k : Nat), .int .u64 0, .int .u64 0, .string ⟨t.toArray⟩, .int .u64 (vG d 0 : Nat), .int .u64 (vG d 1 : Nat), .int .u64 (vG d 2 : Nat), .int .u64 (vG d 3 : Nat), .string ⟨#[]⟩, .int .u64 0, .int .u64 0, .int .u64 0, .int .u64 0, .int .i64 0, .int .i64 0, .int .i64 0, .slice none 0 0, .slice ql LB.length cl]
     go_wp2_with (first | (refine wpList_load_row rfl 33 _ rfl bA rfl _ _ _ _ hA Tryz.underlying33 rfl (by kernel_rfl) ?_) | (refine wpList_store_row (cells := #[.int .i64 (k : Nat), .int .u64 0, .int .u64 0, .string ⟨t.toArray⟩, .int .u64 (vG d 0 : Nat), .int .u64 (vG d 1 : Nat), .int .u64 (vG d 2 : Nat), .int .u64 (vG d 3 : Nat), .string ⟨#[]⟩, .int .u64 0, .int .u64 0, .int .u64 0, .int .u64 0, .int .i64 0, .int .i64 0, .int .i64 0, .slice none 0 0, .slice ql LB.length cl]) rfl 33 _ _ rfl bA rfl rfl _ _ hA (by kernel_rfl) rfl (by first | rfl | decide | simp [Value.oneCell']) ?_))
     refine bodyPost_ret (results_row3 (p := 4) (t := 5) (u := 6) rfl _ _ _ _ _ _ _ rfl hZ Tryz.underlying33 rfl (by kernel_rfl)) rfl ?_
     refine ⟨?_, Ext.setRow hE hwA _⟩
     rw [hFe.out]
     refine ⟨.slice none 0 0, .slice ql LB.length cl, [], rfl, ?_, (fun r hr => by cases hr), (by show (0 : Nat) ≤ _; omega), rfl, ?_, hOk, OwnT.nil _, (fun c h => Nat.le_trans hbE (hOP c h))⟩
     ·exact Terms.nil _
     ·exact hP.off hOP hbP ((Off.refl bA wq).setRow _)

end Go.Proofs.YtefjdmjkofaajaaGreatDoor
