/- Texts one behind the other: Chapter 18: the walk of Right, an unknown kind. -/
import Derived.Test.YtefjdmjkofaajaaGreatDoorB19
import Derived.Test.YtefjdmjkofaajaaGreatDoorB23
namespace Go.Proofs.YtefjdmjkofaajaaGreatDoor
open Go.RowKit Go.Dm

set_option maxHeartbeats 4000000 in
set_option maxRecDepth 100000 in
theorem aright_cA (k : Int) (i n : Nat) (p : ByteArray) (d : Vc) (s : ByteArray) (e : Vc) (m : Nums3) (v l : Value) (R : List RowS) (P : List PairS) (w : World)
  (hk : -9223372036854775808 ≤ k ∧ k ≤ 9223372036854775807) (hd : OkV d) (hs : s.size < 4294967281) (he : OkV e) (hm : R.length ≤ 35184372088832) (hf : FitR R) (hx : Terms w v R) (hpm : P.length ≤ 35184372088832) (hfp : FitP P) (hy : Pairs w l P) (hv : Vars w)
  (h1 : (knownF k).isSome = false) :
  Calls Tryz.prog 25 #[opV k i n p (vG d) s (vG e) m v l] w fun e_ w' => e_ = .returned (.bool (rightO (k, (i, n), p, d, (s, e, m, R.map rowT), P))) ∧ Ext w w' := by
 obtain ⟨qv, cv, rfl, _, _⟩ := hx.shape
 obtain ⟨ql, cl, rfl, _, _⟩ := hy.shape
 have CK := fun U => aknown_w U
 have CB_ := fun f (hf : isFld f) U => bare_w f hf k i n p (vG d) s (vG e) m qv ql R.length cv P.length cl U
 have CS := fun f U (h : Ext w U) => samebare_w f k i n p d s e m _ _ R P U hd he hm hf (hx.ext h) hpm (hy.ext h)
 have CC := fun U (h : Ext w U) => xcheck_w s e m _ R U hs he hm hf (hx.ext h) (hv.ext h)
 have CL := fun U (h : Ext w U) => lright_w P _ U hpm hfp (hy.ext h) (hv.tabs.ext h)
 have hro : rightO (k, (i, n), p, d, (s, e, m, R.map rowT), P) = match knownF k with | none => false | some f => eqO (k, (i, n), p, d, (s, e, m, R.map rowT), P) (bareO f (k, (i, n), p, d, (s, e, m, R.map rowT), P)) && ((!f.2.2.2.2.1 || decide (chkX (s, e, m, R.map rowT) = 0)) && (decide (p.size ≤ 98) && rightLab (labL P))) := rfl
 obtain ⟨ro, hr⟩ : ∃ b, rightO (k, (i, n), p, d, (s, e, m, R.map rowT), P) = b := ⟨_, rfl⟩
 rw [hr] at hro
 have hkf := fun f (h : knownF k = some f) => knownF_is h
 have hlook := fun (U : World) B (h : MapK U B 13 knownF) => h.look hk
 unfold spVal at CC
 generalize chkX (s, e, m, R.map rowT) = ck at *
 generalize rightLab (labL P) = rl at *
 obtain ⟨f0, hf0⟩ : ∃ f, (knownF k).getD noFld = f := ⟨_, rfl⟩
 obtain ⟨ok, hok⟩ : ∃ b, (knownF k).isSome = b := ⟨_, rfl⟩
 rw [hf0, hok] at hlook
 rw [hok] at h1
 have hcase : (ok = false ∧ ro = false) ∨ (ok = true ∧ isFld f0 ∧ ro = (eqO (k, (i, n), p, d, (s, e, m, R.map rowT), P) (bareO f0 (k, (i, n), p, d, (s, e, m, R.map rowT), P)) && ((!f0.2.2.2.2.1 || decide (ck = 0)) && (decide (p.size ≤ 98) && rl)))) := by
  cases h : knownF k with
  | none => rw [h] at hro hok; exact Or.inl ⟨hok.symm, hro⟩
  | some f =>
   rw [h] at hro hok hf0
   have : f = f0 := hf0
   subst this
   exact Or.inr ⟨hok.symm, hkf _ h, hro⟩
 clear hro hkf hf0 hok
 obtain ⟨b0, b1, b2, b3, b4, b5⟩ := f0
 unfold fldV at hlook CB_
 simp only at hlook hcase
 have CB_ := CB_ (b0, b1, b2, b3, b4, b5)
 have CS := CS (b0, b1, b2, b3, b4, b5)
 generalize eqO (k, (i, n), p, d, (s, e, m, R.map rowT), P) (bareO (b0, b1, b2, b3, b4, b5) (k, (i, n), p, d, (s, e, m, R.map rowT), P)) = eq at *
 obtain ⟨BV, hBV⟩ : ∃ x, bareV (b0, b1, b2, b3, b4, b5) k i n p (vG d) s (vG e) m (.slice qv R.length cv) (.slice ql P.length cl) = x := ⟨_, rfl⟩
 rw [hBV] at CB_ CS
 unfold opV at CB_ CS ⊢
 simp only at CB_
 try simp only at h1 h2 h3
 try simp only at h3
 obtain ⟨w1, hW1, hA, hE, -⟩ := new_row w 33 [.int .i64 k, .int .u64 (i : Nat), .int .u64 (n : Nat), .string p, .int .u64 ((vG d) 0 : Nat), .int .u64 ((vG d) 1 : Nat), .int .u64 ((vG d) 2 : Nat), .int .u64 ((vG d) 3 : Nat), .string s, .int .u64 ((vG e) 0 : Nat), .int .u64 ((vG e) 1 : Nat), .int .u64 ((vG e) 2 : Nat), .int .u64 ((vG e) 3 : Nat), .int .i64 m.1, .int .i64 m.2.1, .int .i64 m.2.2, .slice qv R.length cv, .slice ql P.length cl]
 obtain ⟨bA, hbA⟩ : ∃ x, w.heap.size = x := ⟨_, rfl⟩
 have hwA : w.heap.size ≤ bA := by omega
 rw [hbA] at hA
 have al := hA.lt
 have a0 : w1.cell? ⟨bA, 0, none⟩ = some (.int .i64 k) := hA.cell 0
 replace CK := Lib.hid CK
 replace CB_ := Lib.hid CB_
 replace CS := Lib.hid CS
 replace CC := Lib.hid CC
 replace CL := Lib.hid CL
 replace hlook := Lib.hid hlook
 replace hcase := Lib.hid hcase
 replace hr := Lib.hid hr
 replace hBV := Lib.hid hBV
 go_enter Tryz.func25, Tryz.ntmps25
 go_upto_region 1 with fail
 clear hW1 hbA
 refine region_cut (fun a_ a' w' => ∃ bM bF : Nat, a' = ((((((((a_.put (some 6) (.map (some bM))).put (some 7) (.pointer (some ⟨bA, 0, none⟩))).put (some 8) (.int .i64 k)).put (some 9) (.tuple #[.agg #[.bool b0, .bool b1, .bool b2, .bool b3, .bool b4, .bool b5], .bool false])).put (some 5) (.tuple #[.agg #[.bool b0, .bool b1, .bool b2, .bool b3, .bool b4, .bool b5], .bool false])).put (some 10) (.agg #[.bool b0, .bool b1, .bool b2, .bool b3, .bool b4, .bool b5])).put (some 11) (.bool false)).put (some 3) (.pointer (some ⟨bF, 0, none⟩))).put (some 4) (.bool false) ∧ RB bF 108 [.bool b0, .bool b1, .bool b2, .bool b3, .bool b4, .bool b5] w' ∧ Ext w1 w') ?_ ?_
 ·skip
  try simp only [Act.put, List.setIfInBounds_toArray, List.set_cons_succ, List.set_cons_zero]
  refine Dm.wp_region_ext 10 (Dm.bits 10 0) (Ext.refl w1) (by kernel_rfl) (by kernel_rfl) (by kernel_rfl) ?_
  refine tks [1, 2] 6 8 ?_
  refine Dm.wpE_two (i := 0) (j := 7) (li := (Dm.bits 10 7)) (lj := (Dm.bits 10 134)) (by kernel_rfl) (by kernel_rfl) (by kernel_rfl) rfl rfl (Ext.refl w1) (fun w1a hx1a => ?_) (fun w1a hx1a => ?_)
  ·
   have hX1a := Ext.trans (Ext.refl w1) hx1a
   go_wp2_with (go_at_call 55; go_must (refine (CK.out w1a).mono ?_; rintro e_ w1b ⟨bM, rfl, hM, hs1⟩))
   have hX1b := Ext.trans hX1a hs1
   try simp only [Exit.then, Act.put, List.setIfInBounds_toArray, List.set_cons_succ, List.set_cons_zero]
   refine Dm.wpE_two (i := 3) (j := 7) (li := (Dm.bits 10 15)) (lj := (Dm.bits 10 135)) (by kernel_rfl) (by kernel_rfl) (by kernel_rfl) rfl rfl hX1b (fun w2a hx2a => ?_) (fun w2a hx2a => ?_)
   ·
    have hX2a := Ext.trans hX1b hx2a
    replace hM := hM.ext hx2a
    have hlk := hlook.out _ _ hM
    go_wp2_with fail
    clear hlk hM
    obtain ⟨w2b, hw2⟩ : ∃ x, x = w2a := ⟨_, rfl⟩
    subst hw2
    have hX2b := hX2a
    try simp only [Exit.then, Act.put, List.setIfInBounds_toArray, List.set_cons_succ, List.set_cons_zero]
    refine tks [4, 5, 6] 127 3 ?_
    refine Dm.wpE_one (i := 7) (listed' := (Dm.bits 10 255)) (by kernel_rfl) (by kernel_rfl) rfl hX2b (fun w3a hx3a => ?_)
    have hX3a := Ext.trans hX2b hx3a
    have hF : RB w3a.heap.size 108 [.bool false, .bool false, .bool false, .bool false, .bool false, .bool false] (w3a.alloc (.cells #[.bool false, .bool false, .bool false, .bool false, .bool false, .bool false] 108)) := RB.new w3a 108 [.bool false, .bool false, .bool false, .bool false, .bool false, .bool false]
    have hbF := (hX3a).size
    go_wp2_with fail
    have hs3 : Ext w3a (w3a.alloc (.cells #[.bool false, .bool false, .bool false, .bool false, .bool false, .bool false] 108)) := (Ext.refl _).alloc _
    have hX3b := Ext.trans hX3a hs3
    generalize w3a.alloc (.cells #[.bool false, .bool false, .bool false, .bool false, .bool false, .bool false] 108) = w3b at *
    generalize w3a.heap.size = bF at *
    try simp only [Exit.then, Act.put, List.setIfInBounds_toArray, List.set_cons_succ, List.set_cons_zero]
    refine Dm.wpE_one (i := 8) (listed' := (Dm.bits 10 511)) (by kernel_rfl) (by kernel_rfl) rfl hX3b (fun w4a hx4a => ?_)
    have hX4a := Ext.trans hX3b hx4a
    replace hF := hF.ext hx4a
    have hG := hF.setRow [.bool b0, .bool b1, .bool b2, .bool b3, .bool b4, .bool b5]
    go_wp2_with (refine wpList_store_row (cells := #[.bool b0, .bool b1, .bool b2, .bool b3, .bool b4, .bool b5]) rfl 108 _ _ rfl bF rfl rfl _ _ hF (by kernel_rfl) rfl (by first | rfl | decide | simp [Value.oneCell']) ?_)
    change RB bF 108 [.bool b0, .bool b1, .bool b2, .bool b3, .bool b4, .bool b5] (w4a.setRow bF #[.bool b0, .bool b1, .bool b2, .bool b3, .bool b4, .bool b5]) at hG
    have hX4b : Ext w1 (w4a.setRow bF #[.bool b0, .bool b1, .bool b2, .bool b3, .bool b4, .bool b5]) := Ext.setRow hX4a hbF _
    clear hF
    generalize w4a.setRow bF #[.bool b0, .bool b1, .bool b2, .bool b3, .bool b4, .bool b5] = w4b at *
    try simp only [Act.put]
    refine tks [9] 1023 0 ?_
    refine Dm.wpE_done (by kernel_rfl) hX4b (fun w5a hx5a => ?_)
    have hX5a := Ext.trans hX4b hx5a
    replace hG := hG.ext hx5a
    exact ⟨bM, bF, rfl, hG, hX5a⟩
   ·
    have hX2a := Ext.trans hX1b hx2a
    replace hM := hM.ext hx2a
    have hF : RB w2a.heap.size 108 [.bool false, .bool false, .bool false, .bool false, .bool false, .bool false] (w2a.alloc (.cells #[.bool false, .bool false, .bool false, .bool false, .bool false, .bool false] 108)) := RB.new w2a 108 [.bool false, .bool false, .bool false, .bool false, .bool false, .bool false]
    have hbF := (hX2a).size
    go_wp2_with fail
    have hs2 : Ext w2a (w2a.alloc (.cells #[.bool false, .bool false, .bool false, .bool false, .bool false, .bool false] 108)) := (Ext.refl _).alloc _
    have hX2b := Ext.trans hX2a hs2
    generalize w2a.alloc (.cells #[.bool false, .bool false, .bool false, .bool false, .bool false, .bool false] 108) = w2b at *
    generalize w2a.heap.size = bF at *
    replace hM := hM.ext hs2
    try simp only [Exit.then, Act.put, List.setIfInBounds_toArray, List.set_cons_succ, List.set_cons_zero]
    refine Dm.wpE_one (i := 3) (listed' := (Dm.bits 10 143)) (by kernel_rfl) (by kernel_rfl) rfl hX2b (fun w6a hx6a => ?_)
    have hX6a := Ext.trans hX2b hx6a
    replace hM := hM.ext hx6a
    replace hF := hF.ext hx6a
    have hlk := hlook.out _ _ hM
    go_wp2_with fail
    clear hlk hM
    obtain ⟨w6b, hw2⟩ : ∃ x, x = w6a := ⟨_, rfl⟩
    subst hw2
    have hX6b := hX6a
    try simp only [Exit.then, Act.put, List.setIfInBounds_toArray, List.set_cons_succ, List.set_cons_zero]
    refine tks [4, 5, 6] 255 2 ?_
    refine Dm.wpE_one (i := 8) (listed' := (Dm.bits 10 511)) (by kernel_rfl) (by kernel_rfl) rfl hX6b (fun w7a hx7a => ?_)
    have hX7a := Ext.trans hX6b hx7a
    replace hF := hF.ext hx7a
    have hG := hF.setRow [.bool b0, .bool b1, .bool b2, .bool b3, .bool b4, .bool b5]
    go_wp2_with (refine wpList_store_row (cells := #[.bool b0, .bool b1, .bool b2, .bool b3, .bool b4, .bool b5]) rfl 108 _ _ rfl bF rfl rfl _ _ hF (by kernel_rfl) rfl (by first | rfl | decide | simp [Value.oneCell']) ?_)
    change RB bF 108 [.bool b0, .bool b1, .bool b2, .bool b3, .bool b4, .bool b5] (w7a.setRow bF #[.bool b0, .bool b1, .bool b2, .bool b3, .bool b4, .bool b5]) at hG
    have hX7b : Ext w1 (w7a.setRow bF #[.bool b0, .bool b1, .bool b2, .bool b3, .bool b4, .bool b5]) := Ext.setRow hX7a hbF _
    clear hF
    generalize w7a.setRow bF #[.bool b0, .bool b1, .bool b2, .bool b3, .bool b4, .bool b5] = w7b at *
    try simp only [Act.put]
    refine tks [9] 1023 0 ?_
    refine Dm.wpE_done (by kernel_rfl) hX7b (fun w8a hx8a => ?_)
    have hX8a := Ext.trans hX7b hx8a
    replace hG := hG.ext hx8a
    exact ⟨bM, bF, rfl, hG, hX8a⟩
  ·
   have hX1a := Ext.trans (Ext.refl w1) hx1a
   have hF : RB w1a.heap.size 108 [.bool false, .bool false, .bool false, .bool false, .bool false, .bool false] (w1a.alloc (.cells #[.bool false, .bool false, .bool false, .bool false, .bool false, .bool false] 108)) := RB.new w1a 108 [.bool false, .bool false, .bool false, .bool false, .bool false, .bool false]
   have hbF := (hX1a).size
   go_wp2_with fail
   have hs1 : Ext w1a (w1a.alloc (.cells #[.bool false, .bool false, .bool false, .bool false, .bool false, .bool false] 108)) := (Ext.refl _).alloc _
   have hX1b := Ext.trans hX1a hs1
   generalize w1a.alloc (.cells #[.bool false, .bool false, .bool false, .bool false, .bool false, .bool false] 108) = w1b at *
   generalize w1a.heap.size = bF at *
   try simp only [Exit.then, Act.put, List.setIfInBounds_toArray, List.set_cons_succ, List.set_cons_zero]
   refine Dm.wpE_one (i := 0) (listed' := (Dm.bits 10 135)) (by kernel_rfl) (by kernel_rfl) rfl hX1b (fun w9a hx9a => ?_)
   have hX9a := Ext.trans hX1b hx9a
   replace hF := hF.ext hx9a
   go_wp2_with (go_at_call 55; go_must (refine (CK.out w9a).mono ?_; rintro e_ w9b ⟨bM, rfl, hM, hs9⟩))
   have hX9b := Ext.trans hX9a hs9
   replace hF := hF.ext hs9
   try simp only [Exit.then, Act.put, List.setIfInBounds_toArray, List.set_cons_succ, List.set_cons_zero]
   refine Dm.wpE_one (i := 3) (listed' := (Dm.bits 10 143)) (by kernel_rfl) (by kernel_rfl) rfl hX9b (fun w10a hx10a => ?_)
   have hX10a := Ext.trans hX9b hx10a
   replace hF := hF.ext hx10a
   replace hM := hM.ext hx10a
   have hlk := hlook.out _ _ hM
   go_wp2_with fail
   clear hlk hM
   obtain ⟨w10b, hw2⟩ : ∃ x, x = w10a := ⟨_, rfl⟩
   subst hw2
   have hX10b := hX10a
   try simp only [Exit.then, Act.put, List.setIfInBounds_toArray, List.set_cons_succ, List.set_cons_zero]
   refine tks [4, 5, 6] 255 2 ?_
   refine Dm.wpE_one (i := 8) (listed' := (Dm.bits 10 511)) (by kernel_rfl) (by kernel_rfl) rfl hX10b (fun w11a hx11a => ?_)
   have hX11a := Ext.trans hX10b hx11a
   replace hF := hF.ext hx11a
   have hG := hF.setRow [.bool b0, .bool b1, .bool b2, .bool b3, .bool b4, .bool b5]
   go_wp2_with (refine wpList_store_row (cells := #[.bool b0, .bool b1, .bool b2, .bool b3, .bool b4, .bool b5]) rfl 108 _ _ rfl bF rfl rfl _ _ hF (by kernel_rfl) rfl (by first | rfl | decide | simp [Value.oneCell']) ?_)
   change RB bF 108 [.bool b0, .bool b1, .bool b2, .bool b3, .bool b4, .bool b5] (w11a.setRow bF #[.bool b0, .bool b1, .bool b2, .bool b3, .bool b4, .bool b5]) at hG
   have hX11b : Ext w1 (w11a.setRow bF #[.bool b0, .bool b1, .bool b2, .bool b3, .bool b4, .bool b5]) := Ext.setRow hX11a hbF _
   clear hF
   generalize w11a.setRow bF #[.bool b0, .bool b1, .bool b2, .bool b3, .bool b4, .bool b5] = w11b at *
   try simp only [Act.put]
   refine tks [9] 1023 0 ?_
   refine Dm.wpE_done (by kernel_rfl) hX11b (fun w12a hx12a => ?_)
   have hX12a := Ext.trans hX11b hx12a
   replace hG := hG.ext hx12a
   exact ⟨bM, bF, rfl, hG, hX12a⟩
 rintro a_ wr ⟨bM, bF, rfl, hG, hX⟩
 simp only [Act.put, List.setIfInBounds_toArray, List.set_cons_succ, List.set_cons_zero]
 clear a0 al CK hlook
 replace hA := hA.ext hX
 replace hE := hE.trans hX
 go_upto_region 2 with fail
 have al := hA.lt
 have gl := hG.lt
 subst h1
 rcases hcase.out with ⟨hok0, hro0⟩ | ⟨hok0, hfd, hro0⟩
 rotate_left
 ·cases hok0
 subst hro0
 clear hcase
 try simp only [Act.put, List.setIfInBounds_toArray, List.set_cons_succ, List.set_cons_zero]
 refine Dm.wp_region_ext 20 (Dm.bits 20 0) (Ext.refl wr) (by kernel_rfl) (by kernel_rfl) (by kernel_rfl) ?_
 refine tks (List.range' 0 20) 1048575 0 (hq := by intro x; (iterate 3 go_big_quiet_step (fail)); (iterate 6 go_big_quiet_skip); go_big_quiet_step (fail); go_big_quiet_step (fail); (iterate 8 go_big_quiet_skip); go_big_quiet_step (fail); exact wpQuiet_nil rfl) ?_
 refine Dm.wpE_done (by kernel_rfl) (Ext.refl wr) (fun w1a hx1a => ?_)
 have hX1a := Ext.trans (Ext.refl wr) hx1a
 go_wp2
 go_ret
 exact ⟨by rw [hr.out]; rfl, hE.trans hX1a⟩

end Go.Proofs.YtefjdmjkofaajaaGreatDoor
