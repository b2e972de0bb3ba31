/- Texts one behind the other: Chapter 18: the walk of Right, a job; Chapter 18: the walk of Right, whole; Chapter 18: what is put of an op; the walk of the closure of Put; Chapter 18: the walk of Put; Chapter 18: the op that stands at a place; a block that is written apart from slices. -/
import Derived.Test.YtefjdmjkofaajaaGreatDoorB19
import Derived.Test.YtefjdmjkofaajaaGreatDoorB23
import Derived.Test.YtefjdmjkofaajaaGreatDoorB20
import Derived.Test.YtefjdmjkofaajaaGreatDoorB21
import Derived.Test.YtefjdmjkofaajaaGreatDoorB22
import Derived.Test.YtefjdmjkofaajaaGreatDoorB26
import Derived.Test.YtefjdmjkofaajaaGreatDoorB17
import Derived.Test.YtefjdmjkofaajaaGreatDoorB24
namespace Go.Proofs.YtefjdmjkofaajaaGreatDoor
open Go.RowKit Go.Dm

set_option maxHeartbeats 4000000 in
set_option maxRecDepth 100000 in
theorem aright_cD (k : Int) (i n : Nat) (p : ByteArray) (d : Vc) (s : ByteArray) (e : Vc) (m : Nums3) (v l : Value) (R : List RowS) (P : List PairS) (w : World)
  (hk : -9223372036854775808 ≤ k ∧ k ≤ 9223372036854775807) (hd : OkV d) (hs : s.size < 4294967281) (he : OkV e) (hm : R.length ≤ 35184372088832) (hf : FitR R) (hx : Terms w v R) (hpm : P.length ≤ 35184372088832) (hfp : FitP P) (hy : Pairs w l P) (hv : Vars w)
  (h1 : (knownF k).isSome = true) (h2 : eqO (k, (i, n), p, d, (s, e, m, R.map rowT), P) (bareO ((knownF k).getD noFld) (k, (i, n), p, d, (s, e, m, R.map rowT), P)) = true) (h3 : ((knownF k).getD noFld).2.2.2.2.1 = true) (h4 : chkX (s, e, m, R.map rowT) = 0) :
  Calls Tryz.prog 25 #[opV k i n p (vG d) s (vG e) m v l] w fun e_ w' => e_ = .returned (.bool (rightO (k, (i, n), p, d, (s, e, m, R.map rowT), P))) ∧ Ext w w' := by
 obtain ⟨qv, cv, rfl, _, _⟩ := hx.shape
 obtain ⟨ql, cl, rfl, _, _⟩ := hy.shape
 have CK := fun U => aknown_w U
 have CB_ := fun f (hf : isFld f) U => bare_w f hf k i n p (vG d) s (vG e) m qv ql R.length cv P.length cl U
 have CS := fun f U (h : Ext w U) => samebare_w f k i n p d s e m _ _ R P U hd he hm hf (hx.ext h) hpm (hy.ext h)
 have CC := fun U (h : Ext w U) => xcheck_w s e m _ R U hs he hm hf (hx.ext h) (hv.ext h)
 have CL := fun U (h : Ext w U) => lright_w P _ U hpm hfp (hy.ext h) (hv.tabs.ext h)
 have hro : rightO (k, (i, n), p, d, (s, e, m, R.map rowT), P) = match knownF k with | none => false | some f => eqO (k, (i, n), p, d, (s, e, m, R.map rowT), P) (bareO f (k, (i, n), p, d, (s, e, m, R.map rowT), P)) && ((!f.2.2.2.2.1 || decide (chkX (s, e, m, R.map rowT) = 0)) && (decide (p.size ≤ 98) && rightLab (labL P))) := rfl
 obtain ⟨ro, hr⟩ : ∃ b, rightO (k, (i, n), p, d, (s, e, m, R.map rowT), P) = b := ⟨_, rfl⟩
 rw [hr] at hro
 have hkf := fun f (h : knownF k = some f) => knownF_is h
 have hlook := fun (U : World) B (h : MapK U B 13 knownF) => h.look hk
 unfold spVal at CC
 generalize chkX (s, e, m, R.map rowT) = ck at *
 generalize rightLab (labL P) = rl at *
 obtain ⟨f0, hf0⟩ : ∃ f, (knownF k).getD noFld = f := ⟨_, rfl⟩
 obtain ⟨ok, hok⟩ : ∃ b, (knownF k).isSome = b := ⟨_, rfl⟩
 rw [hf0, hok] at hlook
 rw [hok] at h1
 rw [hf0] at h2
 rw [hf0] at h3
 have hcase : (ok = false ∧ ro = false) ∨ (ok = true ∧ isFld f0 ∧ ro = (eqO (k, (i, n), p, d, (s, e, m, R.map rowT), P) (bareO f0 (k, (i, n), p, d, (s, e, m, R.map rowT), P)) && ((!f0.2.2.2.2.1 || decide (ck = 0)) && (decide (p.size ≤ 98) && rl)))) := by
  cases h : knownF k with
  | none => rw [h] at hro hok; exact Or.inl ⟨hok.symm, hro⟩
  | some f =>
   rw [h] at hro hok hf0
   have : f = f0 := hf0
   subst this
   exact Or.inr ⟨hok.symm, hkf _ h, hro⟩
 clear hro hkf hf0 hok
 obtain ⟨b0, b1, b2, b3, b4, b5⟩ := f0
 unfold fldV at hlook CB_
 simp only at hlook hcase
 have CB_ := CB_ (b0, b1, b2, b3, b4, b5)
 have CS := CS (b0, b1, b2, b3, b4, b5)
 generalize eqO (k, (i, n), p, d, (s, e, m, R.map rowT), P) (bareO (b0, b1, b2, b3, b4, b5) (k, (i, n), p, d, (s, e, m, R.map rowT), P)) = eq at *
 obtain ⟨BV, hBV⟩ : ∃ x, bareV (b0, b1, b2, b3, b4, b5) k i n p (vG d) s (vG e) m (.slice qv R.length cv) (.slice ql P.length cl) = x := ⟨_, rfl⟩
 rw [hBV] at CB_ CS
 unfold opV at CB_ CS ⊢
 simp only at CB_
 try simp only at h1 h2 h3
 try simp only at h3
 obtain ⟨w1, hW1, hA, hE, -⟩ := new_row w 33 [.int .i64 k, .int .u64 (i : Nat), .int .u64 (n : Nat), .string p, .int .u64 ((vG d) 0 : Nat), .int .u64 ((vG d) 1 : Nat), .int .u64 ((vG d) 2 : Nat), .int .u64 ((vG d) 3 : Nat), .string s, .int .u64 ((vG e) 0 : Nat), .int .u64 ((vG e) 1 : Nat), .int .u64 ((vG e) 2 : Nat), .int .u64 ((vG e) 3 : Nat), .int .i64 m.1, .int .i64 m.2.1, .int .i64 m.2.2, .slice qv R.length cv, .slice ql P.length cl]
 obtain ⟨bA, hbA⟩ : ∃ x, w.heap.size = x := ⟨_, rfl⟩
 have hwA : w.heap.size ≤ bA := by omega
 rw [hbA] at hA
 have al := hA.lt
 have a0 : w1.cell? ⟨bA, 0, none⟩ = some (.int .i64 k) := hA.cell 0
 replace h3 := Lib.hid h3
 replace h4 := Lib.hid h4
 replace CK := Lib.hid CK
 replace CB_ := Lib.hid CB_
 replace CS := Lib.hid CS
 replace CC := Lib.hid CC
 replace CL := Lib.hid CL
 replace hlook := Lib.hid hlook
 replace hcase := Lib.hid hcase
 replace hr := Lib.hid hr
 replace hBV := Lib.hid hBV
 go_enter Tryz.func25, Tryz.ntmps25
 go_upto_region 1 with fail
 clear hW1 hbA
 refine region_cut (fun a_ a' w' => ∃ bM bF : Nat, a' = ((((((((a_.put (some 6) (.map (some bM))).put (some 7) (.pointer (some ⟨bA, 0, none⟩))).put (some 8) (.int .i64 k)).put (some 9) (.tuple #[.agg #[.bool b0, .bool b1, .bool b2, .bool b3, .bool b4, .bool b5], .bool true])).put (some 5) (.tuple #[.agg #[.bool b0, .bool b1, .bool b2, .bool b3, .bool b4, .bool b5], .bool true])).put (some 10) (.agg #[.bool b0, .bool b1, .bool b2, .bool b3, .bool b4, .bool b5])).put (some 11) (.bool true)).put (some 3) (.pointer (some ⟨bF, 0, none⟩))).put (some 4) (.bool true) ∧ RB bF 108 [.bool b0, .bool b1, .bool b2, .bool b3, .bool b4, .bool b5] w' ∧ Ext w1 w') ?_ ?_
 ·skip
  try simp only [Act.put, List.setIfInBounds_toArray, List.set_cons_succ, List.set_cons_zero]
  refine Dm.wp_region_ext 10 (Dm.bits 10 0) (Ext.refl w1) (by kernel_rfl) (by kernel_rfl) (by kernel_rfl) ?_
  refine tks [1, 2] 6 8 ?_
  refine Dm.wpE_two (i := 0) (j := 7) (li := (Dm.bits 10 7)) (lj := (Dm.bits 10 134)) (by kernel_rfl) (by kernel_rfl) (by kernel_rfl) rfl rfl (Ext.refl w1) (fun w1a hx1a => ?_) (fun w1a hx1a => ?_)
  ·
   have hX1a := Ext.trans (Ext.refl w1) hx1a
   go_wp2_with (go_at_call 55; go_must (refine (CK.out w1a).mono ?_; rintro e_ w1b ⟨bM, rfl, hM, hs1⟩))
   have hX1b := Ext.trans hX1a hs1
   try simp only [Exit.then, Act.put, List.setIfInBounds_toArray, List.set_cons_succ, List.set_cons_zero]
   refine Dm.wpE_two (i := 3) (j := 7) (li := (Dm.bits 10 15)) (lj := (Dm.bits 10 135)) (by kernel_rfl) (by kernel_rfl) (by kernel_rfl) rfl rfl hX1b (fun w2a hx2a => ?_) (fun w2a hx2a => ?_)
   ·
    have hX2a := Ext.trans hX1b hx2a
    replace hM := hM.ext hx2a
    have hlk := hlook.out _ _ hM
    go_wp2_with fail
    clear hlk hM
    obtain ⟨w2b, hw2⟩ : ∃ x, x = w2a := ⟨_, rfl⟩
    subst hw2
    have hX2b := hX2a
    try simp only [Exit.then, Act.put, List.setIfInBounds_toArray, List.set_cons_succ, List.set_cons_zero]
    refine tks [4, 5, 6] 127 3 ?_
    refine Dm.wpE_one (i := 7) (listed' := (Dm.bits 10 255)) (by kernel_rfl) (by kernel_rfl) rfl hX2b (fun w3a hx3a => ?_)
    have hX3a := Ext.trans hX2b hx3a
    have hF : RB w3a.heap.size 108 [.bool false, .bool false, .bool false, .bool false, .bool false, .bool false] (w3a.alloc (.cells #[.bool false, .bool false, .bool false, .bool false, .bool false, .bool false] 108)) := RB.new w3a 108 [.bool false, .bool false, .bool false, .bool false, .bool false, .bool false]
    have hbF := (hX3a).size
    go_wp2_with fail
    have hs3 : Ext w3a (w3a.alloc (.cells #[.bool false, .bool false, .bool false, .bool false, .bool false, .bool false] 108)) := (Ext.refl _).alloc _
    have hX3b := Ext.trans hX3a hs3
    generalize w3a.alloc (.cells #[.bool false, .bool false, .bool false, .bool false, .bool false, .bool false] 108) = w3b at *
    generalize w3a.heap.size = bF at *
    try simp only [Exit.then, Act.put, List.setIfInBounds_toArray, List.set_cons_succ, List.set_cons_zero]
    refine Dm.wpE_one (i := 8) (listed' := (Dm.bits 10 511)) (by kernel_rfl) (by kernel_rfl) rfl hX3b (fun w4a hx4a => ?_)
    have hX4a := Ext.trans hX3b hx4a
    replace hF := hF.ext hx4a
    have hG := hF.setRow [.bool b0, .bool b1, .bool b2, .bool b3, .bool b4, .bool b5]
    go_wp2_with (refine wpList_store_row (cells := #[.bool b0, .bool b1, .bool b2, .bool b3, .bool b4, .bool b5]) rfl 108 _ _ rfl bF rfl rfl _ _ hF (by kernel_rfl) rfl (by first | rfl | decide | simp [Value.oneCell']) ?_)
    change RB bF 108 [.bool b0, .bool b1, .bool b2, .bool b3, .bool b4, .bool b5] (w4a.setRow bF #[.bool b0, .bool b1, .bool b2, .bool b3, .bool b4, .bool b5]) at hG
    have hX4b : Ext w1 (w4a.setRow bF #[.bool b0, .bool b1, .bool b2, .bool b3, .bool b4, .bool b5]) := Ext.setRow hX4a hbF _
    clear hF
    generalize w4a.setRow bF #[.bool b0, .bool b1, .bool b2, .bool b3, .bool b4, .bool b5] = w4b at *
    try simp only [Act.put]
    refine tks [9] 1023 0 ?_
    refine Dm.wpE_done (by kernel_rfl) hX4b (fun w5a hx5a => ?_)
    have hX5a := Ext.trans hX4b hx5a
    replace hG := hG.ext hx5a
    exact ⟨bM, bF, rfl, hG, hX5a⟩
   ·
    have hX2a := Ext.trans hX1b hx2a
    replace hM := hM.ext hx2a
    have hF : RB w2a.heap.size 108 [.bool false, .bool false, .bool false, .bool false, .bool false, .bool false] (w2a.alloc (.cells #[.bool false, .bool false, .bool false, .bool false, .bool false, .bool false] 108)) := RB.new w2a 108 [.bool false, .bool false, .bool false, .bool false, .bool false, .bool false]
    have hbF := (hX2a).size
    go_wp2_with fail
    have hs2 : Ext w2a (w2a.alloc (.cells #[.bool false, .bool false, .bool false, .bool false, .bool false, .bool false] 108)) := (Ext.refl _).alloc _
    have hX2b := Ext.trans hX2a hs2
    generalize w2a.alloc (.cells #[.bool false, .bool false, .bool false, .bool false, .bool false, .bool false] 108) = w2b at *
    generalize w2a.heap.size = bF at *
    replace hM := hM.ext hs2
    try simp only [Exit.then, Act.put, List.setIfInBounds_toArray, List.set_cons_succ, List.set_cons_zero]
    refine Dm.wpE_one (i := 3) (listed' := (Dm.bits 10 143)) (by kernel_rfl) (by kernel_rfl) rfl hX2b (fun w6a hx6a => ?_)
    have hX6a := Ext.trans hX2b hx6a
    replace hM := hM.ext hx6a
    replace hF := hF.ext hx6a
    have hlk := hlook.out _ _ hM
    go_wp2_with fail
    clear hlk hM
    obtain ⟨w6b, hw2⟩ : ∃ x, x = w6a := ⟨_, rfl⟩
    subst hw2
    have hX6b := hX6a
    try simp only [Exit.then, Act.put, List.setIfInBounds_toArray, List.set_cons_succ, List.set_cons_zero]
    refine tks [4, 5, 6] 255 2 ?_
    refine Dm.wpE_one (i := 8) (listed' := (Dm.bits 10 511)) (by kernel_rfl) (by kernel_rfl) rfl hX6b (fun w7a hx7a => ?_)
    have hX7a := Ext.trans hX6b hx7a
    replace hF := hF.ext hx7a
    have hG := hF.setRow [.bool b0, .bool b1, .bool b2, .bool b3, .bool b4, .bool b5]
    go_wp2_with (refine wpList_store_row (cells := #[.bool b0, .bool b1, .bool b2, .bool b3, .bool b4, .bool b5]) rfl 108 _ _ rfl bF rfl rfl _ _ hF (by kernel_rfl) rfl (by first | rfl | decide | simp [Value.oneCell']) ?_)
    change RB bF 108 [.bool b0, .bool b1, .bool b2, .bool b3, .bool b4, .bool b5] (w7a.setRow bF #[.bool b0, .bool b1, .bool b2, .bool b3, .bool b4, .bool b5]) at hG
    have hX7b : Ext w1 (w7a.setRow bF #[.bool b0, .bool b1, .bool b2, .bool b3, .bool b4, .bool b5]) := Ext.setRow hX7a hbF _
    clear hF
    generalize w7a.setRow bF #[.bool b0, .bool b1, .bool b2, .bool b3, .bool b4, .bool b5] = w7b at *
    try simp only [Act.put]
    refine tks [9] 1023 0 ?_
    refine Dm.wpE_done (by kernel_rfl) hX7b (fun w8a hx8a => ?_)
    have hX8a := Ext.trans hX7b hx8a
    replace hG := hG.ext hx8a
    exact ⟨bM, bF, rfl, hG, hX8a⟩
  ·
   have hX1a := Ext.trans (Ext.refl w1) hx1a
   have hF : RB w1a.heap.size 108 [.bool false, .bool false, .bool false, .bool false, .bool false, .bool false] (w1a.alloc (.cells #[.bool false, .bool false, .bool false, .bool false, .bool false, .bool false] 108)) := RB.new w1a 108 [.bool false, .bool false, .bool false, .bool false, .bool false, .bool false]
   have hbF := (hX1a).size
   go_wp2_with fail
   have hs1 : Ext w1a (w1a.alloc (.cells #[.bool false, .bool false, .bool false, .bool false, .bool false, .bool false] 108)) := (Ext.refl _).alloc _
   have hX1b := Ext.trans hX1a hs1
   generalize w1a.alloc (.cells #[.bool false, .bool false, .bool false, .bool false, .bool false, .bool false] 108) = w1b at *
   generalize w1a.heap.size = bF at *
   try simp only [Exit.then, Act.put, List.setIfInBounds_toArray, List.set_cons_succ, List.set_cons_zero]
   refine Dm.wpE_one (i := 0) (listed' := (Dm.bits 10 135)) (by kernel_rfl) (by kernel_rfl) rfl hX1b (fun w9a hx9a => ?_)
   have hX9a := Ext.trans hX1b hx9a
   replace hF := hF.ext hx9a
   go_wp2_with (go_at_call 55; go_must (refine (CK.out w9a).mono ?_; rintro e_ w9b ⟨bM, rfl, hM, hs9⟩))
   have hX9b := Ext.trans hX9a hs9
   replace hF := hF.ext hs9
   try simp only [Exit.then, Act.put, List.setIfInBounds_toArray, List.set_cons_succ, List.set_cons_zero]
   refine Dm.wpE_one (i := 3) (listed' := (Dm.bits 10 143)) (by kernel_rfl) (by kernel_rfl) rfl hX9b (fun w10a hx10a => ?_)
   have hX10a := Ext.trans hX9b hx10a
   replace hF := hF.ext hx10a
   replace hM := hM.ext hx10a
   have hlk := hlook.out _ _ hM
   go_wp2_with fail
   clear hlk hM
   obtain ⟨w10b, hw2⟩ : ∃ x, x = w10a := ⟨_, rfl⟩
   subst hw2
   have hX10b := hX10a
   try simp only [Exit.then, Act.put, List.setIfInBounds_toArray, List.set_cons_succ, List.set_cons_zero]
   refine tks [4, 5, 6] 255 2 ?_
   refine Dm.wpE_one (i := 8) (listed' := (Dm.bits 10 511)) (by kernel_rfl) (by kernel_rfl) rfl hX10b (fun w11a hx11a => ?_)
   have hX11a := Ext.trans hX10b hx11a
   replace hF := hF.ext hx11a
   have hG := hF.setRow [.bool b0, .bool b1, .bool b2, .bool b3, .bool b4, .bool b5]
   go_wp2_with (refine wpList_store_row (cells := #[.bool b0, .bool b1, .bool b2, .bool b3, .bool b4, .bool b5]) rfl 108 _ _ rfl bF rfl rfl _ _ hF (by kernel_rfl) rfl (by first | rfl | decide | simp [Value.oneCell']) ?_)
   change RB bF 108 [.bool b0, .bool b1, .bool b2, .bool b3, .bool b4, .bool b5] (w11a.setRow bF #[.bool b0, .bool b1, .bool b2, .bool b3, .bool b4, .bool b5]) at hG
   have hX11b : Ext w1 (w11a.setRow bF #[.bool b0, .bool b1, .bool b2, .bool b3, .bool b4, .bool b5]) := Ext.setRow hX11a hbF _
   clear hF
   generalize w11a.setRow bF #[.bool b0, .bool b1, .bool b2, .bool b3, .bool b4, .bool b5] = w11b at *
   try simp only [Act.put]
   refine tks [9] 1023 0 ?_
   refine Dm.wpE_done (by kernel_rfl) hX11b (fun w12a hx12a => ?_)
   have hX12a := Ext.trans hX11b hx12a
   replace hG := hG.ext hx12a
   exact ⟨bM, bF, rfl, hG, hX12a⟩
 rintro a_ wr ⟨bM, bF, rfl, hG, hX⟩
 simp only [Act.put, List.setIfInBounds_toArray, List.set_cons_succ, List.set_cons_zero]
 clear a0 al CK hlook
 replace hA := hA.ext hX
 replace hE := hE.trans hX
 go_upto_region 2 with fail
 have al := hA.lt
 have a8 : wr.cell? ⟨bA, 8, none⟩ = some (.string s) := hA.cell 8
 have a9 : wr.cell? ⟨bA, 9, none⟩ = some (.int .u64 ((vG e) 0 : Nat)) := hA.cell 9
 have a10 : wr.cell? ⟨bA, 10, none⟩ = some (.int .u64 ((vG e) 1 : Nat)) := hA.cell 10
 have a11 : wr.cell? ⟨bA, 11, none⟩ = some (.int .u64 ((vG e) 2 : Nat)) := hA.cell 11
 have a12 : wr.cell? ⟨bA, 12, none⟩ = some (.int .u64 ((vG e) 3 : Nat)) := hA.cell 12
 have a13 : wr.cell? ⟨bA, 13, none⟩ = some (.int .i64 m.1) := hA.cell 13
 have a14 : wr.cell? ⟨bA, 14, none⟩ = some (.int .i64 m.2.1) := hA.cell 14
 have a15 : wr.cell? ⟨bA, 15, none⟩ = some (.int .i64 m.2.2) := hA.cell 15
 have a16 : wr.cell? ⟨bA, 16, none⟩ = some (.slice qv R.length cv) := hA.cell 16
 have gl := hG.lt
 have g4 : wr.cell? ⟨bF, 4, none⟩ = some (.bool b4) := hG.cell 4
 subst h1
 subst h2
 have h3 := h3.out
 subst h3
 have h4 := h4.out
 subst h4
 rcases hcase.out with ⟨hok0, hro0⟩ | ⟨hok0, hfd, hro0⟩
 ·cases hok0
 obtain rfl : ro = (decide (p.size ≤ 98) && rl) := by rw [hro0]; simp
 clear hro0 hcase
 try simp only [Act.put, List.setIfInBounds_toArray, List.set_cons_succ, List.set_cons_zero]
 refine Dm.wp_region_ext 20 (Dm.bits 20 0) (Ext.refl wr) (by kernel_rfl) (by kernel_rfl) (by kernel_rfl) ?_
 refine tks (List.range' 0 20) 1048575 0 (hq := by intro x; (iterate 3 go_big_quiet_step (fail)); (iterate 2 go_big_quiet_want; refine quiet_load_row 33 _ rfl bA rfl _ _ _ _ (fun _ hw => by obtain ⟨_, rfl⟩ := hw; exact hA.ext (by repeat (first | assumption | exact Ext.refl _ | refine Ext.trans ?_ (ext_grow _ _)))) Tryz.underlying33 rfl (by kernel_rfl) ?_; simp only [Act.put, List.setIfInBounds_toArray, List.set_cons_succ, List.set_cons_zero]; go_big_quiet_on); go_big_quiet_want; refine quiet_load_row 108 _ rfl bF rfl _ _ _ _ (fun _ hw => by obtain ⟨_, rfl⟩ := hw; exact hG.ext (by repeat (first | assumption | exact Ext.refl _ | refine Ext.trans ?_ (ext_grow _ _)))) Tryz.underlying108 rfl (by kernel_rfl) ?_; simp only [Act.put, List.setIfInBounds_toArray, List.set_cons_succ, List.set_cons_zero]; go_big_quiet_on; (iterate 2 go_big_quiet_step ((first | (go_at_call 57; with_reducible exact Calls.quietE (CB_.out hfd _)) | (go_at_call 56; with_reducible exact Calls.quietE (CS.out _ (hE.trans (by repeat (first | assumption | exact Ext.refl _ | refine Ext.trans ?_ (ext_grow _ _)))))) | (go_at_call 58; with_reducible exact Calls.quietE (CC.out _ (hE.trans (by repeat (first | assumption | exact Ext.refl _ | refine Ext.trans ?_ (ext_grow _ _))))))))); (iterate 8 go_big_quiet_step (fail)); go_big_quiet_step ((first | (go_at_call 57; with_reducible exact Calls.quietE (CB_.out hfd _)) | (go_at_call 56; with_reducible exact Calls.quietE (CS.out _ (hE.trans (by repeat (first | assumption | exact Ext.refl _ | refine Ext.trans ?_ (ext_grow _ _)))))) | (go_at_call 58; with_reducible exact Calls.quietE (CC.out _ (hE.trans (by repeat (first | assumption | exact Ext.refl _ | refine Ext.trans ?_ (ext_grow _ _)))))))); (iterate 3 go_big_quiet_step (fail)); exact wpQuiet_nil rfl) ?_
 refine Dm.wpE_done (by kernel_rfl) (Ext.refl wr) (fun w1a hx1a => ?_)
 have hX1a := Ext.trans (Ext.refl wr) hx1a
 clear al gl a8 a9 a10 a11 a12 a13 a14 a15 a16 g4
 replace hA := hA.ext hX1a
 replace hE := hE.trans hX1a
 have al := hA.lt
 have a3 : _ = some (Value.string p) := hA.cell 3
 have a17 : _ = some (Value.slice ql P.length cl) := hA.cell 17
 by_cases h98 : p.size ≤ 98
 ·have h98i : (p.size : Int) ≤ 98 := by omega
  go_wp2_with fail
  refine (CL.out _ hE).mono ?_; rintro e_ w9 ⟨rfl, h9⟩
  go_wp2
  go_ret
  exact ⟨by rw [hr.out]; simp [h98], hE.trans h9⟩
 ·have h98i : ¬ (p.size : Int) ≤ 98 := by omega
  go_wp2
  go_ret
  exact ⟨by rw [hr.out]; simp [h98], hE⟩

set_option maxHeartbeats 4000000 in
set_option maxRecDepth 100000 in
theorem aright_cE (k : Int) (i n : Nat) (p : ByteArray) (d : Vc) (s : ByteArray) (e : Vc) (m : Nums3) (v l : Value) (R : List RowS) (P : List PairS) (w : World)
  (hk : -9223372036854775808 ≤ k ∧ k ≤ 9223372036854775807) (hd : OkV d) (hs : s.size < 4294967281) (he : OkV e) (hm : R.length ≤ 35184372088832) (hf : FitR R) (hx : Terms w v R) (hpm : P.length ≤ 35184372088832) (hfp : FitP P) (hy : Pairs w l P) (hv : Vars w)
  (h1 : (knownF k).isSome = true) (h2 : eqO (k, (i, n), p, d, (s, e, m, R.map rowT), P) (bareO ((knownF k).getD noFld) (k, (i, n), p, d, (s, e, m, R.map rowT), P)) = true) (h3 : ((knownF k).getD noFld).2.2.2.2.1 = true) (h4 : ¬ chkX (s, e, m, R.map rowT) = 0) :
  Calls Tryz.prog 25 #[opV k i n p (vG d) s (vG e) m v l] w fun e_ w' => e_ = .returned (.bool (rightO (k, (i, n), p, d, (s, e, m, R.map rowT), P))) ∧ Ext w w' := by
 obtain ⟨qv, cv, rfl, _, _⟩ := hx.shape
 obtain ⟨ql, cl, rfl, _, _⟩ := hy.shape
 have CK := fun U => aknown_w U
 have CB_ := fun f (hf : isFld f) U => bare_w f hf k i n p (vG d) s (vG e) m qv ql R.length cv P.length cl U
 have CS := fun f U (h : Ext w U) => samebare_w f k i n p d s e m _ _ R P U hd he hm hf (hx.ext h) hpm (hy.ext h)
 have CC := fun U (h : Ext w U) => xcheck_w s e m _ R U hs he hm hf (hx.ext h) (hv.ext h)
 have CL := fun U (h : Ext w U) => lright_w P _ U hpm hfp (hy.ext h) (hv.tabs.ext h)
 have hro : rightO (k, (i, n), p, d, (s, e, m, R.map rowT), P) = match knownF k with | none => false | some f => eqO (k, (i, n), p, d, (s, e, m, R.map rowT), P) (bareO f (k, (i, n), p, d, (s, e, m, R.map rowT), P)) && ((!f.2.2.2.2.1 || decide (chkX (s, e, m, R.map rowT) = 0)) && (decide (p.size ≤ 98) && rightLab (labL P))) := rfl
 obtain ⟨ro, hr⟩ : ∃ b, rightO (k, (i, n), p, d, (s, e, m, R.map rowT), P) = b := ⟨_, rfl⟩
 rw [hr] at hro
 have hkf := fun f (h : knownF k = some f) => knownF_is h
 have hlook := fun (U : World) B (h : MapK U B 13 knownF) => h.look hk
 unfold spVal at CC
 generalize chkX (s, e, m, R.map rowT) = ck at *
 generalize rightLab (labL P) = rl at *
 obtain ⟨f0, hf0⟩ : ∃ f, (knownF k).getD noFld = f := ⟨_, rfl⟩
 obtain ⟨ok, hok⟩ : ∃ b, (knownF k).isSome = b := ⟨_, rfl⟩
 rw [hf0, hok] at hlook
 rw [hok] at h1
 rw [hf0] at h2
 rw [hf0] at h3
 have hcase : (ok = false ∧ ro = false) ∨ (ok = true ∧ isFld f0 ∧ ro = (eqO (k, (i, n), p, d, (s, e, m, R.map rowT), P) (bareO f0 (k, (i, n), p, d, (s, e, m, R.map rowT), P)) && ((!f0.2.2.2.2.1 || decide (ck = 0)) && (decide (p.size ≤ 98) && rl)))) := by
  cases h : knownF k with
  | none => rw [h] at hro hok; exact Or.inl ⟨hok.symm, hro⟩
  | some f =>
   rw [h] at hro hok hf0
   have : f = f0 := hf0
   subst this
   exact Or.inr ⟨hok.symm, hkf _ h, hro⟩
 clear hro hkf hf0 hok
 obtain ⟨b0, b1, b2, b3, b4, b5⟩ := f0
 unfold fldV at hlook CB_
 simp only at hlook hcase
 have CB_ := CB_ (b0, b1, b2, b3, b4, b5)
 have CS := CS (b0, b1, b2, b3, b4, b5)
 generalize eqO (k, (i, n), p, d, (s, e, m, R.map rowT), P) (bareO (b0, b1, b2, b3, b4, b5) (k, (i, n), p, d, (s, e, m, R.map rowT), P)) = eq at *
 obtain ⟨BV, hBV⟩ : ∃ x, bareV (b0, b1, b2, b3, b4, b5) k i n p (vG d) s (vG e) m (.slice qv R.length cv) (.slice ql P.length cl) = x := ⟨_, rfl⟩
 rw [hBV] at CB_ CS
 unfold opV at CB_ CS ⊢
 simp only at CB_
 try simp only at h1 h2 h3
 try simp only at h3
 obtain ⟨w1, hW1, hA, hE, -⟩ := new_row w 33 [.int .i64 k, .int .u64 (i : Nat), .int .u64 (n : Nat), .string p, .int .u64 ((vG d) 0 : Nat), .int .u64 ((vG d) 1 : Nat), .int .u64 ((vG d) 2 : Nat), .int .u64 ((vG d) 3 : Nat), .string s, .int .u64 ((vG e) 0 : Nat), .int .u64 ((vG e) 1 : Nat), .int .u64 ((vG e) 2 : Nat), .int .u64 ((vG e) 3 : Nat), .int .i64 m.1, .int .i64 m.2.1, .int .i64 m.2.2, .slice qv R.length cv, .slice ql P.length cl]
 obtain ⟨bA, hbA⟩ : ∃ x, w.heap.size = x := ⟨_, rfl⟩
 have hwA : w.heap.size ≤ bA := by omega
 rw [hbA] at hA
 have al := hA.lt
 have a0 : w1.cell? ⟨bA, 0, none⟩ = some (.int .i64 k) := hA.cell 0
 replace h3 := Lib.hid h3
 replace CK := Lib.hid CK
 replace CB_ := Lib.hid CB_
 replace CS := Lib.hid CS
 replace CC := Lib.hid CC
 replace CL := Lib.hid CL
 replace hlook := Lib.hid hlook
 replace hcase := Lib.hid hcase
 replace hr := Lib.hid hr
 replace hBV := Lib.hid hBV
 go_enter Tryz.func25, Tryz.ntmps25
 go_upto_region 1 with fail
 clear hW1 hbA
 refine region_cut (fun a_ a' w' => ∃ bM bF : Nat, a' = ((((((((a_.put (some 6) (.map (some bM))).put (some 7) (.pointer (some ⟨bA, 0, none⟩))).put (some 8) (.int .i64 k)).put (some 9) (.tuple #[.agg #[.bool b0, .bool b1, .bool b2, .bool b3, .bool b4, .bool b5], .bool true])).put (some 5) (.tuple #[.agg #[.bool b0, .bool b1, .bool b2, .bool b3, .bool b4, .bool b5], .bool true])).put (some 10) (.agg #[.bool b0, .bool b1, .bool b2, .bool b3, .bool b4, .bool b5])).put (some 11) (.bool true)).put (some 3) (.pointer (some ⟨bF, 0, none⟩))).put (some 4) (.bool true) ∧ RB bF 108 [.bool b0, .bool b1, .bool b2, .bool b3, .bool b4, .bool b5] w' ∧ Ext w1 w') ?_ ?_
 ·skip
  try simp only [Act.put, List.setIfInBounds_toArray, List.set_cons_succ, List.set_cons_zero]
  refine Dm.wp_region_ext 10 (Dm.bits 10 0) (Ext.refl w1) (by kernel_rfl) (by kernel_rfl) (by kernel_rfl) ?_
  refine tks [1, 2] 6 8 ?_
  refine Dm.wpE_two (i := 0) (j := 7) (li := (Dm.bits 10 7)) (lj := (Dm.bits 10 134)) (by kernel_rfl) (by kernel_rfl) (by kernel_rfl) rfl rfl (Ext.refl w1) (fun w1a hx1a => ?_) (fun w1a hx1a => ?_)
  ·
   have hX1a := Ext.trans (Ext.refl w1) hx1a
   go_wp2_with (go_at_call 55; go_must (refine (CK.out w1a).mono ?_; rintro e_ w1b ⟨bM, rfl, hM, hs1⟩))
   have hX1b := Ext.trans hX1a hs1
   try simp only [Exit.then, Act.put, List.setIfInBounds_toArray, List.set_cons_succ, List.set_cons_zero]
   refine Dm.wpE_two (i := 3) (j := 7) (li := (Dm.bits 10 15)) (lj := (Dm.bits 10 135)) (by kernel_rfl) (by kernel_rfl) (by kernel_rfl) rfl rfl hX1b (fun w2a hx2a => ?_) (fun w2a hx2a => ?_)
   ·
    have hX2a := Ext.trans hX1b hx2a
    replace hM := hM.ext hx2a
    have hlk := hlook.out _ _ hM
    go_wp2_with fail
    clear hlk hM
    obtain ⟨w2b, hw2⟩ : ∃ x, x = w2a := ⟨_, rfl⟩
    subst hw2
    have hX2b := hX2a
    try simp only [Exit.then, Act.put, List.setIfInBounds_toArray, List.set_cons_succ, List.set_cons_zero]
    refine tks [4, 5, 6] 127 3 ?_
    refine Dm.wpE_one (i := 7) (listed' := (Dm.bits 10 255)) (by kernel_rfl) (by kernel_rfl) rfl hX2b (fun w3a hx3a => ?_)
    have hX3a := Ext.trans hX2b hx3a
    have hF : RB w3a.heap.size 108 [.bool false, .bool false, .bool false, .bool false, .bool false, .bool false] (w3a.alloc (.cells #[.bool false, .bool false, .bool false, .bool false, .bool false, .bool false] 108)) := RB.new w3a 108 [.bool false, .bool false, .bool false, .bool false, .bool false, .bool false]
    have hbF := (hX3a).size
    go_wp2_with fail
    have hs3 : Ext w3a (w3a.alloc (.cells #[.bool false, .bool false, .bool false, .bool false, .bool false, .bool false] 108)) := (Ext.refl _).alloc _
    have hX3b := Ext.trans hX3a hs3
    generalize w3a.alloc (.cells #[.bool false, .bool false, .bool false, .bool false, .bool false, .bool false] 108) = w3b at *
    generalize w3a.heap.size = bF at *
    try simp only [Exit.then, Act.put, List.setIfInBounds_toArray, List.set_cons_succ, List.set_cons_zero]
    refine Dm.wpE_one (i := 8) (listed' := (Dm.bits 10 511)) (by kernel_rfl) (by kernel_rfl) rfl hX3b (fun w4a hx4a => ?_)
    have hX4a := Ext.trans hX3b hx4a
    replace hF := hF.ext hx4a
    have hG := hF.setRow [.bool b0, .bool b1, .bool b2, .bool b3, .bool b4, .bool b5]
    go_wp2_with (refine wpList_store_row (cells := #[.bool b0, .bool b1, .bool b2, .bool b3, .bool b4, .bool b5]) rfl 108 _ _ rfl bF rfl rfl _ _ hF (by kernel_rfl) rfl (by first | rfl | decide | simp [Value.oneCell']) ?_)
    change RB bF 108 [.bool b0, .bool b1, .bool b2, .bool b3, .bool b4, .bool b5] (w4a.setRow bF #[.bool b0, .bool b1, .bool b2, .bool b3, .bool b4, .bool b5]) at hG
    have hX4b : Ext w1 (w4a.setRow bF #[.bool b0, .bool b1, .bool b2, .bool b3, .bool b4, .bool b5]) := Ext.setRow hX4a hbF _
    clear hF
    generalize w4a.setRow bF #[.bool b0, .bool b1, .bool b2, .bool b3, .bool b4, .bool b5] = w4b at *
    try simp only [Act.put]
    refine tks [9] 1023 0 ?_
    refine Dm.wpE_done (by kernel_rfl) hX4b (fun w5a hx5a => ?_)
    have hX5a := Ext.trans hX4b hx5a
    replace hG := hG.ext hx5a
    exact ⟨bM, bF, rfl, hG, hX5a⟩
   ·
    have hX2a := Ext.trans hX1b hx2a
    replace hM := hM.ext hx2a
    have hF : RB w2a.heap.size 108 [.bool false, .bool false, .bool false, .bool false, .bool false, .bool false] (w2a.alloc (.cells #[.bool false, .bool false, .bool false, .bool false, .bool false, .bool false] 108)) := RB.new w2a 108 [.bool false, .bool false, .bool false, .bool false, .bool false, .bool false]
    have hbF := (hX2a).size
    go_wp2_with fail
    have hs2 : Ext w2a (w2a.alloc (.cells #[.bool false, .bool false, .bool false, .bool false, .bool false, .bool false] 108)) := (Ext.refl _).alloc _
    have hX2b := Ext.trans hX2a hs2
    generalize w2a.alloc (.cells #[.bool false, .bool false, .bool false, .bool false, .bool false, .bool false] 108) = w2b at *
    generalize w2a.heap.size = bF at *
    replace hM := hM.ext hs2
    try simp only [Exit.then, Act.put, List.setIfInBounds_toArray, List.set_cons_succ, List.set_cons_zero]
    refine Dm.wpE_one (i := 3) (listed' := (Dm.bits 10 143)) (by kernel_rfl) (by kernel_rfl) rfl hX2b (fun w6a hx6a => ?_)
    have hX6a := Ext.trans hX2b hx6a
    replace hM := hM.ext hx6a
    replace hF := hF.ext hx6a
    have hlk := hlook.out _ _ hM
    go_wp2_with fail
    clear hlk hM
    obtain ⟨w6b, hw2⟩ : ∃ x, x = w6a := ⟨_, rfl⟩
    subst hw2
    have hX6b := hX6a
    try simp only [Exit.then, Act.put, List.setIfInBounds_toArray, List.set_cons_succ, List.set_cons_zero]
    refine tks [4, 5, 6] 255 2 ?_
    refine Dm.wpE_one (i := 8) (listed' := (Dm.bits 10 511)) (by kernel_rfl) (by kernel_rfl) rfl hX6b (fun w7a hx7a => ?_)
    have hX7a := Ext.trans hX6b hx7a
    replace hF := hF.ext hx7a
    have hG := hF.setRow [.bool b0, .bool b1, .bool b2, .bool b3, .bool b4, .bool b5]
    go_wp2_with (refine wpList_store_row (cells := #[.bool b0, .bool b1, .bool b2, .bool b3, .bool b4, .bool b5]) rfl 108 _ _ rfl bF rfl rfl _ _ hF (by kernel_rfl) rfl (by first | rfl | decide | simp [Value.oneCell']) ?_)
    change RB bF 108 [.bool b0, .bool b1, .bool b2, .bool b3, .bool b4, .bool b5] (w7a.setRow bF #[.bool b0, .bool b1, .bool b2, .bool b3, .bool b4, .bool b5]) at hG
    have hX7b : Ext w1 (w7a.setRow bF #[.bool b0, .bool b1, .bool b2, .bool b3, .bool b4, .bool b5]) := Ext.setRow hX7a hbF _
    clear hF
    generalize w7a.setRow bF #[.bool b0, .bool b1, .bool b2, .bool b3, .bool b4, .bool b5] = w7b at *
    try simp only [Act.put]
    refine tks [9] 1023 0 ?_
    refine Dm.wpE_done (by kernel_rfl) hX7b (fun w8a hx8a => ?_)
    have hX8a := Ext.trans hX7b hx8a
    replace hG := hG.ext hx8a
    exact ⟨bM, bF, rfl, hG, hX8a⟩
  ·
   have hX1a := Ext.trans (Ext.refl w1) hx1a
   have hF : RB w1a.heap.size 108 [.bool false, .bool false, .bool false, .bool false, .bool false, .bool false] (w1a.alloc (.cells #[.bool false, .bool false, .bool false, .bool false, .bool false, .bool false] 108)) := RB.new w1a 108 [.bool false, .bool false, .bool false, .bool false, .bool false, .bool false]
   have hbF := (hX1a).size
   go_wp2_with fail
   have hs1 : Ext w1a (w1a.alloc (.cells #[.bool false, .bool false, .bool false, .bool false, .bool false, .bool false] 108)) := (Ext.refl _).alloc _
   have hX1b := Ext.trans hX1a hs1
   generalize w1a.alloc (.cells #[.bool false, .bool false, .bool false, .bool false, .bool false, .bool false] 108) = w1b at *
   generalize w1a.heap.size = bF at *
   try simp only [Exit.then, Act.put, List.setIfInBounds_toArray, List.set_cons_succ, List.set_cons_zero]
   refine Dm.wpE_one (i := 0) (listed' := (Dm.bits 10 135)) (by kernel_rfl) (by kernel_rfl) rfl hX1b (fun w9a hx9a => ?_)
   have hX9a := Ext.trans hX1b hx9a
   replace hF := hF.ext hx9a
   go_wp2_with (go_at_call 55; go_must (refine (CK.out w9a).mono ?_; rintro e_ w9b ⟨bM, rfl, hM, hs9⟩))
   have hX9b := Ext.trans hX9a hs9
   replace hF := hF.ext hs9
   try simp only [Exit.then, Act.put, List.setIfInBounds_toArray, List.set_cons_succ, List.set_cons_zero]
   refine Dm.wpE_one (i := 3) (listed' := (Dm.bits 10 143)) (by kernel_rfl) (by kernel_rfl) rfl hX9b (fun w10a hx10a => ?_)
   have hX10a := Ext.trans hX9b hx10a
   replace hF := hF.ext hx10a
   replace hM := hM.ext hx10a
   have hlk := hlook.out _ _ hM
   go_wp2_with fail
   clear hlk hM
   obtain ⟨w10b, hw2⟩ : ∃ x, x = w10a := ⟨_, rfl⟩
   subst hw2
   have hX10b := hX10a
   try simp only [Exit.then, Act.put, List.setIfInBounds_toArray, List.set_cons_succ, List.set_cons_zero]
   refine tks [4, 5, 6] 255 2 ?_
   refine Dm.wpE_one (i := 8) (listed' := (Dm.bits 10 511)) (by kernel_rfl) (by kernel_rfl) rfl hX10b (fun w11a hx11a => ?_)
   have hX11a := Ext.trans hX10b hx11a
   replace hF := hF.ext hx11a
   have hG := hF.setRow [.bool b0, .bool b1, .bool b2, .bool b3, .bool b4, .bool b5]
   go_wp2_with (refine wpList_store_row (cells := #[.bool b0, .bool b1, .bool b2, .bool b3, .bool b4, .bool b5]) rfl 108 _ _ rfl bF rfl rfl _ _ hF (by kernel_rfl) rfl (by first | rfl | decide | simp [Value.oneCell']) ?_)
   change RB bF 108 [.bool b0, .bool b1, .bool b2, .bool b3, .bool b4, .bool b5] (w11a.setRow bF #[.bool b0, .bool b1, .bool b2, .bool b3, .bool b4, .bool b5]) at hG
   have hX11b : Ext w1 (w11a.setRow bF #[.bool b0, .bool b1, .bool b2, .bool b3, .bool b4, .bool b5]) := Ext.setRow hX11a hbF _
   clear hF
   generalize w11a.setRow bF #[.bool b0, .bool b1, .bool b2, .bool b3, .bool b4, .bool b5] = w11b at *
   try simp only [Act.put]
   refine tks [9] 1023 0 ?_
   refine Dm.wpE_done (by kernel_rfl) hX11b (fun w12a hx12a => ?_)
   have hX12a := Ext.trans hX11b hx12a
   replace hG := hG.ext hx12a
   exact ⟨bM, bF, rfl, hG, hX12a⟩
 rintro a_ wr ⟨bM, bF, rfl, hG, hX⟩
 simp only [Act.put, List.setIfInBounds_toArray, List.set_cons_succ, List.set_cons_zero]
 clear a0 al CK hlook
 replace hA := hA.ext hX
 replace hE := hE.trans hX
 go_upto_region 2 with fail
 have al := hA.lt
 have a8 : wr.cell? ⟨bA, 8, none⟩ = some (.string s) := hA.cell 8
 have a9 : wr.cell? ⟨bA, 9, none⟩ = some (.int .u64 ((vG e) 0 : Nat)) := hA.cell 9
 have a10 : wr.cell? ⟨bA, 10, none⟩ = some (.int .u64 ((vG e) 1 : Nat)) := hA.cell 10
 have a11 : wr.cell? ⟨bA, 11, none⟩ = some (.int .u64 ((vG e) 2 : Nat)) := hA.cell 11
 have a12 : wr.cell? ⟨bA, 12, none⟩ = some (.int .u64 ((vG e) 3 : Nat)) := hA.cell 12
 have a13 : wr.cell? ⟨bA, 13, none⟩ = some (.int .i64 m.1) := hA.cell 13
 have a14 : wr.cell? ⟨bA, 14, none⟩ = some (.int .i64 m.2.1) := hA.cell 14
 have a15 : wr.cell? ⟨bA, 15, none⟩ = some (.int .i64 m.2.2) := hA.cell 15
 have a16 : wr.cell? ⟨bA, 16, none⟩ = some (.slice qv R.length cv) := hA.cell 16
 have gl := hG.lt
 have g4 : wr.cell? ⟨bF, 4, none⟩ = some (.bool b4) := hG.cell 4
 subst h1
 subst h2
 have h3 := h3.out
 subst h3
 rcases hcase.out with ⟨hok0, hro0⟩ | ⟨hok0, hfd, hro0⟩
 ·cases hok0
 obtain rfl : ro = false := by rw [hro0]; simp [h4]
 clear hro0 hcase
 have hcki : ¬ ((ck : Int) = 0) := by omega
 try simp only [Act.put, List.setIfInBounds_toArray, List.set_cons_succ, List.set_cons_zero]
 refine Dm.wp_region_ext 20 (Dm.bits 20 0) (Ext.refl wr) (by kernel_rfl) (by kernel_rfl) (by kernel_rfl) ?_
 refine tks (List.range' 0 20) 1048575 0 (hq := by intro x; (iterate 3 go_big_quiet_step (fail)); (iterate 2 go_big_quiet_want; refine quiet_load_row 33 _ rfl bA rfl _ _ _ _ (fun _ hw => by obtain ⟨_, rfl⟩ := hw; exact hA.ext (by repeat (first | assumption | exact Ext.refl _ | refine Ext.trans ?_ (ext_grow _ _)))) Tryz.underlying33 rfl (by kernel_rfl) ?_; simp only [Act.put, List.setIfInBounds_toArray, List.set_cons_succ, List.set_cons_zero]; go_big_quiet_on); go_big_quiet_want; refine quiet_load_row 108 _ rfl bF rfl _ _ _ _ (fun _ hw => by obtain ⟨_, rfl⟩ := hw; exact hG.ext (by repeat (first | assumption | exact Ext.refl _ | refine Ext.trans ?_ (ext_grow _ _)))) Tryz.underlying108 rfl (by kernel_rfl) ?_; simp only [Act.put, List.setIfInBounds_toArray, List.set_cons_succ, List.set_cons_zero]; go_big_quiet_on; (iterate 2 go_big_quiet_step ((first | (go_at_call 57; with_reducible exact Calls.quietE (CB_.out hfd _)) | (go_at_call 56; with_reducible exact Calls.quietE (CS.out _ (hE.trans (by repeat (first | assumption | exact Ext.refl _ | refine Ext.trans ?_ (ext_grow _ _)))))) | (go_at_call 58; with_reducible exact Calls.quietE (CC.out _ (hE.trans (by repeat (first | assumption | exact Ext.refl _ | refine Ext.trans ?_ (ext_grow _ _))))))))); (iterate 8 go_big_quiet_step (fail)); go_big_quiet_step ((first | (go_at_call 57; with_reducible exact Calls.quietE (CB_.out hfd _)) | (go_at_call 56; with_reducible exact Calls.quietE (CS.out _ (hE.trans (by repeat (first | assumption | exact Ext.refl _ | refine Ext.trans ?_ (ext_grow _ _)))))) | (go_at_call 58; with_reducible exact Calls.quietE (CC.out _ (hE.trans (by repeat (first | assumption | exact Ext.refl _ | refine Ext.trans ?_ (ext_grow _ _)))))))); (iterate 3 go_big_quiet_step (fail)); exact wpQuiet_nil rfl) ?_
 refine Dm.wpE_done (by kernel_rfl) (Ext.refl wr) (fun w1a hx1a => ?_)
 have hX1a := Ext.trans (Ext.refl wr) hx1a
 go_wp2
 go_ret
 exact ⟨by rw [hr.out]; rfl, hE.trans hX1a⟩

end Go.Proofs.YtefjdmjkofaajaaGreatDoor

namespace Go.Proofs.YtefjdmjkofaajaaGreatDoor
open Go.RowKit Go.Dm

theorem aright_w (k : Int) (i n : Nat) (p : ByteArray) (d : Vc) (s : ByteArray) (e : Vc) (m : Nums3) (v l : Value) (R : List RowS) (P : List PairS) (w : World)
  (hk : -9223372036854775808 ≤ k ∧ k ≤ 9223372036854775807) (hd : OkV d) (hs : s.size < 4294967281) (he : OkV e) (hm : R.length ≤ 35184372088832) (hf : FitR R) (hx : Terms w v R) (hpm : P.length ≤ 35184372088832) (hfp : FitP P) (hy : Pairs w l P) (hv : Vars w) :
  Calls Tryz.prog 25 #[opV k i n p (vG d) s (vG e) m v l] w fun e_ w' => e_ = .returned (.bool (rightO (k, (i, n), p, d, (s, e, m, R.map rowT), P))) ∧ Ext w w' := by
 cases h1 : (knownF k).isSome with
 | false => exact aright_cA k i n p d s e m v l R P w hk hd hs he hm hf hx hpm hfp hy hv h1
 | true =>
  cases h2 : eqO (k, (i, n), p, d, (s, e, m, R.map rowT), P) (bareO ((knownF k).getD noFld) (k, (i, n), p, d, (s, e, m, R.map rowT), P)) with
  | false => exact aright_cB k i n p d s e m v l R P w hk hd hs he hm hf hx hpm hfp hy hv h1 h2
  | true =>
   cases h3 : ((knownF k).getD noFld).2.2.2.2.1 with
   | false => exact aright_cC k i n p d s e m v l R P w hk hd hs he hm hf hx hpm hfp hy hv h1 h2 h3
   | true =>
    by_cases h4 : chkX (s, e, m, R.map rowT) = 0
    ·exact aright_cD k i n p d s e m v l R P w hk hd hs he hm hf hx hpm hfp hy hv h1 h2 h3 h4
    ·exact aright_cE k i n p d s e m v l R P w hk hd hs he hm hf hx hpm hfp hy hv h1 h2 h3 h4
end Go.Proofs.YtefjdmjkofaajaaGreatDoor

namespace Go.Dm
open Go Go.RowKit
/-- What is put of an op whose kind has such fields, behind its kind. -/
def putsOf (f : Fld) (o : OpQ) : Bs := cond f.1 (putL o.2.1.1) [] ++ (cond f.2.1 (putL o.2.1.2) [] ++ (cond f.2.2.1 (putT o.2.2.1.data.toList) [] ++ (cond f.2.2.2.1 (putV o.2.2.2.1) [] ++ (cond f.2.2.2.2.1 (putX o.2.2.2.2.1) [] ++ cond f.2.2.2.2.2 (putLab (labL o.2.2.2.2.2)) []))))
/-- P18.2. -/
def putO (o : OpQ) : Bs := if rightO o = true then putL o.1.toNat ++ putsOf ((knownF o.1).getD noFld) o else []
/-- A text in a block of its own, added to if so. -/
def addW (b : Bool) (c : Nat) (S T : ByteArray) (w : World) : World := cond b (w.setCell ⟨c, 0, none⟩ (.string (S ++ T))) w
theorem RB.add {c : Nat} {t : TypeId} {S : ByteArray} {w : World} (h : RB c t [.string S] w) (b : Bool) (T : ByteArray) : RB c t [.string (cond b (S ++ T) S)] (addW b c S T w) := by
 cases b
 ·exact h
 ·exact h.set 0 (.string (S ++ T))
theorem RB.addFar {c d : Nat} {t : TypeId} {cs : List Value} {w : World} (h : RB d t cs w) (hcd : c ≠ d) (b : Bool) (S T : ByteArray) : RB d t cs (addW b c S T w) := by
 cases b
 ·exact h
 ·exact h.far hcd _
theorem Ext.addW {w0 w : World} (h : Ext w0 w) {c : Nat} (hc : w0.heap.size ≤ c) (b : Bool) (S T : ByteArray) : Ext w0 (addW b c S T w) := by
 cases b
 ·exact h
 ·exact Below.setCell h hc _
theorem add_data (b : Bool) (S T : ByteArray) : (cond b (S ++ T) S).data.toList = S.data.toList ++ cond b T.data.toList [] := by
 cases b
 ·simp
 ·exact data_append S T
theorem add_size (b : Bool) (S T : ByteArray) : (cond b (S ++ T) S).size ≤ S.size + T.size := by
 cases b
 ·show S.size ≤ _; omega
 ·show (S ++ T).size ≤ _; rw [ByteArray.size_append]; omega
theorem putX_short {x : SpQ} (ho : OkV x.2.1) : (putX x).length ≤ 1200 := by
 by_cases h : chkX x = 0
 ·rw [putX_ok h]; exact putB_short h ho
 ·rw [putX_bad h]; simp
theorem putV_40 {a : Vc} (h : OkV a) : (putV a).length ≤ 40 := by rw [← putVF_four]; exact putVF_len h 4
theorem putLab_700 (L : List PairL) : (putLab L).length ≤ 700 := by
 cases h : rightLab L with
 | true => exact (putLab_short h).2
 | false => unfold putLab; rw [h]; simp
end Go.Dm
namespace Go.Proofs.YtefjdmjkofaajaaGreatDoor
open Go.RowKit Go.Dm

theorem add_w (b : Bool) (S T : ByteArray) (c : Nat) (w : World) (hc : RB c 9 [.string S] w) (hs : S.size + T.size ≤ 140737488355328) :
  Calls Tryz.prog 65 #[.bool b, .string T, .pointer (some ⟨c, 0, none⟩)] w fun e w' => e = .returned (.tuple #[]) ∧ w' = addW b c S T w := by
 have cl := hc.lt
 have c0 : w.cell? ⟨c, 0, none⟩ = some (.string S) := hc.cell 0
 have cf : w.frozen? ⟨c, 0, none⟩ = false := hc.free 0
 cases b with
 | false =>
  go_enter Tryz.func65, Tryz.ntmps65
  go_wp2
  first | go_end0 | refine bodyPost_end (v := .tuple #[]) rfl rfl ?_
  exact ⟨rfl, rfl⟩
 | true =>
  go_enter Tryz.func65, Tryz.ntmps65
  go_wp2
  first | go_end0 | refine bodyPost_end (v := .tuple #[]) rfl rfl ?_
  exact ⟨rfl, rfl⟩
end Go.Proofs.YtefjdmjkofaajaaGreatDoor

namespace Go.Proofs.YtefjdmjkofaajaaGreatDoor
open Go.RowKit Go.Dm

set_option maxHeartbeats 4000000 in
set_option maxRecDepth 100000 in
theorem aput_no (k : Int) (i n : Nat) (p : ByteArray) (d : Vc) (s : ByteArray) (e : Vc) (m : Nums3) (v l : Value) (R : List RowS) (P : List PairS) (w : World)
  (hk : -9223372036854775808 ≤ k ∧ k ≤ 9223372036854775807) (hd : OkV d) (hs : s.size < 4294967281) (he : OkV e) (hm : R.length ≤ 35184372088832) (hf : FitR R) (hx : Terms w v R) (hpm : P.length ≤ 35184372088832) (hfp : FitP P) (hy : Pairs w l P) (hv : Vars w)
  (hro : rightO (k, (i, n), p, d, (s, e, m, R.map rowT), P) = false) :
  Calls Tryz.prog 27 #[opV k i n p (vG d) s (vG e) m v l] w fun e_ w' => e_ = .returned (.string ⟨(putO (k, (i, n), p, d, (s, e, m, R.map rowT), P)).toArray⟩) ∧ Ext w w' := by
  obtain ⟨qv, cv, rfl, _, _⟩ := hx.shape
  obtain ⟨ql, cl, rfl, _, _⟩ := hy.shape
  have CR := fun U (h : Ext w U) => aright_w k i n p d s e m _ _ R P U hk hd hs he hm hf (hx.ext h) hpm hfp (hy.ext h) (hv.ext h)
  rw [show putO (k, (i, n), p, d, (s, e, m, R.map rowT), P) = [] by unfold putO; rw [hro]; rfl]
  rw [hro] at CR
  unfold opV at CR ⊢
  obtain ⟨w1, hW1, hA, hE, -⟩ := new_row w 33 [.int .i64 k, .int .u64 (i : Nat), .int .u64 (n : Nat), .string p, .int .u64 ((vG d) 0 : Nat), .int .u64 ((vG d) 1 : Nat), .int .u64 ((vG d) 2 : Nat), .int .u64 ((vG d) 3 : Nat), .string s, .int .u64 ((vG e) 0 : Nat), .int .u64 ((vG e) 1 : Nat), .int .u64 ((vG e) 2 : Nat), .int .u64 ((vG e) 3 : Nat), .int .i64 m.1, .int .i64 m.2.1, .int .i64 m.2.2, .slice qv R.length cv, .slice ql P.length cl]
  obtain ⟨bA, hbA⟩ : ∃ x, w.heap.size = x := ⟨_, rfl⟩
  have hwA : w.heap.size ≤ bA := by omega
  rw [hbA] at hA
  replace CR := Lib.hid CR
  have al := hA.lt
  go_enter Tryz.func27, Tryz.ntmps27
  go_upto_region 1 with fail
  clear hW1 hbA
  go_wp2_with (refine wpList_load_row rfl 33 _ rfl bA rfl _ _ _ _ hA Tryz.underlying33 rfl (by kernel_rfl) ?_)
  refine (CR.out _ hE).mono ?_; rintro e_ w2 ⟨rfl, h2⟩
  go_wp2
  go_ret
  exact ⟨rfl, hE.trans h2⟩

set_option maxHeartbeats 8000000 in
set_option maxRecDepth 100000 in
theorem aput_yes (k : Nat) (i n : Nat) (p : ByteArray) (d : Vc) (s : ByteArray) (e : Vc) (m : Nums3) (v l : Value) (R : List RowS) (P : List PairS) (w : World)
  (hk13 : k ≤ 13) (hi : U64 i) (hn : U64 n) (hp98 : p.size ≤ 98) (hd : OkV d) (hs : s.size < 4294967281) (he : OkV e) (hm : R.length ≤ 35184372088832) (hf : FitR R) (hx : Terms w v R) (hpm : P.length ≤ 35184372088832) (hfp : FitP P) (hy : Pairs w l P) (hv : Vars w)
  (hro : rightO (↑k, (i, n), p, d, (s, e, m, R.map rowT), P) = true) :
  Calls Tryz.prog 27 #[opV k i n p (vG d) s (vG e) m v l] w fun e_ w' => e_ = .returned (.string ⟨(putO (↑k, (i, n), p, d, (s, e, m, R.map rowT), P)).toArray⟩) ∧ Ext w w' := by
  have hk : -9223372036854775808 ≤ (k : Int) ∧ (k : Int) ≤ 9223372036854775807 := by omega
  obtain ⟨qv, cv, rfl, _, _⟩ := hx.shape
  obtain ⟨ql, cl, rfl, _, _⟩ := hy.shape
  have CR := fun U (h : Ext w U) => aright_w k i n p d s e m _ _ R P U hk hd hs he hm hf (hx.ext h) hpm hfp (hy.ext h) (hv.ext h)
  rw [hro] at CR
  have CK := fun U => aknown_w U
  have hlook := fun (U : World) B (h : MapK U B 13 knownF) => h.look1 hk
  have hU : U64 k := Nat.lt_of_le_of_lt hk13 (by decide)
  have C0 := fun U => put_w k U hU
  have C1 := fun U => put_w i U hi
  have C2 := fun U => put_w n U hn
  have C3 := fun U => puttext_w p U (by omega)
  have C4 := fun U => vput_w d hd U
  have C5 := fun U (h : Ext w U) => xput_w s e m _ R U hs he hm hf (hx.ext h) (hv.ext h)
  have C6 := fun U (h : Ext w U) => lput_w P _ U hpm hfp (hy.ext h) (hv.tabs.ext h)
  have hput : ∀ S : ByteArray, S.data.toList = (((((((⟨(putL k).toArray⟩ : ByteArray).data.toList ++ cond ((knownF k).getD noFld).1 (⟨(putL i).toArray⟩ : ByteArray).data.toList []) ++ cond ((knownF k).getD noFld).2.1 (⟨(putL n).toArray⟩ : ByteArray).data.toList []) ++ cond ((knownF k).getD noFld).2.2.1 (⟨(putT p.data.toList).toArray⟩ : ByteArray).data.toList []) ++ cond ((knownF k).getD noFld).2.2.2.1 (⟨(putV d).toArray⟩ : ByteArray).data.toList []) ++ cond ((knownF k).getD noFld).2.2.2.2.1 (⟨(putX (s, e, m, R.map rowT)).toArray⟩ : ByteArray).data.toList []) ++ cond ((knownF k).getD noFld).2.2.2.2.2 (⟨(putLab (labL P)).toArray⟩ : ByteArray).data.toList []) → (⟨(putO (↑k, (i, n), p, d, (s, e, m, R.map rowT), P)).toArray⟩ : ByteArray) = S := fun S h => by
   refine (mk_bytes ?_).symm
   rw [h]
   unfold putO putsOf
   rw [if_pos hro]
   simp [List.append_assoc]
  have z0 : (⟨(putL k).toArray⟩ : ByteArray).size ≤ 1200 := by rw [size_len]; have := putL_ten hU; show (putL k).length ≤ _; omega
  have z1 : (⟨(putL i).toArray⟩ : ByteArray).size ≤ 1200 := by rw [size_len]; have := putL_ten hi; show (putL i).length ≤ _; omega
  have z2 : (⟨(putL n).toArray⟩ : ByteArray).size ≤ 1200 := by rw [size_len]; have := putL_ten hn; show (putL n).length ≤ _; omega
  have z3 : (⟨(putT p.data.toList).toArray⟩ : ByteArray).size ≤ 1200 := by
   rw [size_len]
   have := putL_ten (u := p.data.toList.length) (Nat.lt_of_le_of_lt (show p.data.toList.length ≤ 98 from hp98) (by decide))
   have h9 : p.data.toList.length ≤ 98 := hp98
   show (putL p.data.toList.length ++ p.data.toList).length ≤ _
   rw [List.length_append]; omega
  have z4 : (⟨(putV d).toArray⟩ : ByteArray).size ≤ 1200 := by rw [size_len]; have := putV_40 hd; show (putV d).length ≤ _; omega
  have z5 : (⟨(putX (s, e, m, R.map rowT)).toArray⟩ : ByteArray).size ≤ 1200 := by rw [size_len]; exact putX_short (x := (s, e, m, R.map rowT)) he
  have z6 : (⟨(putLab (labL P)).toArray⟩ : ByteArray).size ≤ 1200 := by rw [size_len]; have := putLab_700 (labL P); show (putLab (labL P)).length ≤ _; omega
  generalize (⟨(putL k).toArray⟩ : ByteArray) = T0 at *
  generalize (⟨(putL i).toArray⟩ : ByteArray) = T1 at *
  generalize (⟨(putL n).toArray⟩ : ByteArray) = T2 at *
  generalize (⟨(putT p.data.toList).toArray⟩ : ByteArray) = T3 at *
  generalize (⟨(putV d).toArray⟩ : ByteArray) = T4 at *
  generalize (⟨(putX (s, e, m, R.map rowT)).toArray⟩ : ByteArray) = T5 at *
  generalize (⟨(putLab (labL P)).toArray⟩ : ByteArray) = T6 at *
  generalize (⟨(putO (↑k, (i, n), p, d, (s, e, m, R.map rowT), P)).toArray⟩ : ByteArray) = TT at *
  generalize (knownF k).getD noFld = f0 at *
  obtain ⟨b0, b1, b2, b3, b4, b5⟩ := f0
  unfold fldV at hlook
  simp only at hlook hput
  unfold vVal vF at C4
  unfold spVal at C5
  have hmf : ∀ (fn : Fn) (first cap : Array Value) (w : World), (Instr.makeFunc fn first cap).run Tryz.prog w = .ok (.func fn first cap) w := fun _ _ _ _ => rfl
  replace hput := Lib.hid hput
  replace hlook := Lib.hid hlook
  replace CK := Lib.hid CK
  replace C0 := Lib.hid C0
  replace C1 := Lib.hid C1
  replace C2 := Lib.hid C2
  replace C3 := Lib.hid C3
  replace C4 := Lib.hid C4
  replace C5 := Lib.hid C5
  replace C6 := Lib.hid C6
  clear hro hk hU
  unfold opV at CR ⊢
  obtain ⟨w1, hW1, hA, hE, -⟩ := new_row w 33 [.int .i64 k, .int .u64 (i : Nat), .int .u64 (n : Nat), .string p, .int .u64 ((vG d) 0 : Nat), .int .u64 ((vG d) 1 : Nat), .int .u64 ((vG d) 2 : Nat), .int .u64 ((vG d) 3 : Nat), .string s, .int .u64 ((vG e) 0 : Nat), .int .u64 ((vG e) 1 : Nat), .int .u64 ((vG e) 2 : Nat), .int .u64 ((vG e) 3 : Nat), .int .i64 m.1, .int .i64 m.2.1, .int .i64 m.2.2, .slice qv R.length cv, .slice ql P.length cl]
  obtain ⟨bA, hbA⟩ : ∃ x, w.heap.size = x := ⟨_, rfl⟩
  have hwA : w.heap.size ≤ bA := by omega
  rw [hbA] at hA
  replace CR := Lib.hid CR
  have al := hA.lt
  go_enter Tryz.func27, Tryz.ntmps27
  go_upto_region 1 with fail
  clear hW1 hbA
  go_wp2_with (refine wpList_load_row rfl 33 _ rfl bA rfl _ _ _ _ hA Tryz.underlying33 rfl (by kernel_rfl) ?_)
  refine (CR.out _ hE).mono ?_; rintro e_ w2 ⟨rfl, h2⟩
  replace hA := hA.ext h2
  replace hE := hE.trans h2
  clear al h2
  go_upto_region 3 with fail
  have al := hA.lt
  have a0 : w2.cell? ⟨bA, 0, none⟩ = some (.int .i64 (k : Nat)) := hA.cell 0
  refine region_cut (fun a_ a' w' => ∃ bM bF : Nat, a' = ((((a_.put (some 9) (.map (some bM))).put (some 10) (.pointer (some ⟨bA, 0, none⟩))).put (some 11) (.int .i64 (k : Nat))).put (some 12) (.agg #[.bool b0, .bool b1, .bool b2, .bool b3, .bool b4, .bool b5])).put (some 3) (.pointer (some ⟨bF, 0, none⟩)) ∧ RB bF 108 [.bool b0, .bool b1, .bool b2, .bool b3, .bool b4, .bool b5] w' ∧ Ext w2 w') ?_ ?_
  ·skip
   try simp only [Act.put, List.setIfInBounds_toArray, List.set_cons_succ, List.set_cons_zero]
   refine Dm.wp_region_ext 6 (Dm.bits 6 0) (Ext.refl w2) (by kernel_rfl) (by kernel_rfl) (by kernel_rfl) ?_
   refine tks [1, 2] 6 4 ?_
   refine Dm.wpE_two (i := 0) (j := 4) (li := (Dm.bits 6 7)) (lj := (Dm.bits 6 22)) (by kernel_rfl) (by kernel_rfl) (by kernel_rfl) rfl rfl (Ext.refl w2) (fun w1a hx1a => ?_) (fun w1a hx1a => ?_)
   ·
    have hX1a := Ext.trans (Ext.refl w2) hx1a
    go_wp2_with (go_at_call 55; go_must (refine (CK.out w1a).mono ?_; rintro e_ w1b ⟨bM, rfl, hM, hs1⟩))
    have hX1b := Ext.trans hX1a hs1
    try simp only [Exit.then, Act.put, List.setIfInBounds_toArray, List.set_cons_succ, List.set_cons_zero]
    refine Dm.wpE_two (i := 3) (j := 4) (li := (Dm.bits 6 15)) (lj := (Dm.bits 6 23)) (by kernel_rfl) (by kernel_rfl) (by kernel_rfl) rfl rfl hX1b (fun w2a hx2a => ?_) (fun w2a hx2a => ?_)
    ·
     have hX2a := Ext.trans hX1b hx2a
     replace hM := hM.ext hx2a
     have hlk := hlook.out _ _ hM
     go_wp2_with fail
     clear hlk hM
     obtain ⟨w2b, hw2⟩ : ∃ x, x = w2a := ⟨_, rfl⟩
     subst hw2
     have hX2b := hX2a
     try simp only [Exit.then, Act.put, List.setIfInBounds_toArray, List.set_cons_succ, List.set_cons_zero]
     refine Dm.wpE_one (i := 4) (listed' := (Dm.bits 6 31)) (by kernel_rfl) (by kernel_rfl) rfl hX2b (fun w3a hx3a => ?_)
     have hX3a := Ext.trans hX2b hx3a
     have hF : RB w3a.heap.size 108 [.bool false, .bool false, .bool false, .bool false, .bool false, .bool false] (w3a.alloc (.cells #[.bool false, .bool false, .bool false, .bool false, .bool false, .bool false] 108)) := RB.new w3a 108 [.bool false, .bool false, .bool false, .bool false, .bool false, .bool false]
     have hbF := (hX3a).size
     go_wp2_with fail
     have hs3 : Ext w3a (w3a.alloc (.cells #[.bool false, .bool false, .bool false, .bool false, .bool false, .bool false] 108)) := (Ext.refl _).alloc _
     have hX3b := Ext.trans hX3a hs3
     generalize w3a.alloc (.cells #[.bool false, .bool false, .bool false, .bool false, .bool false, .bool false] 108) = w3b at *
     generalize w3a.heap.size = bF at *
     try simp only [Exit.then, Act.put, List.setIfInBounds_toArray, List.set_cons_succ, List.set_cons_zero]
     refine Dm.wpE_one (i := 5) (listed' := (Dm.bits 6 63)) (by kernel_rfl) (by kernel_rfl) rfl hX3b (fun w4a hx4a => ?_)
     have hX4a := Ext.trans hX3b hx4a
     replace hF := hF.ext hx4a
     have hG := hF.setRow [.bool b0, .bool b1, .bool b2, .bool b3, .bool b4, .bool b5]
     go_wp2_with (refine wpList_store_row (cells := #[.bool b0, .bool b1, .bool b2, .bool b3, .bool b4, .bool b5]) rfl 108 _ _ rfl bF rfl rfl _ _ hF (by kernel_rfl) rfl (by first | rfl | decide | simp [Value.oneCell']) ?_)
     change RB bF 108 [.bool b0, .bool b1, .bool b2, .bool b3, .bool b4, .bool b5] (w4a.setRow bF #[.bool b0, .bool b1, .bool b2, .bool b3, .bool b4, .bool b5]) at hG
     have hX4b : Ext w2 (w4a.setRow bF #[.bool b0, .bool b1, .bool b2, .bool b3, .bool b4, .bool b5]) := Ext.setRow hX4a hbF _
     clear hF
     generalize w4a.setRow bF #[.bool b0, .bool b1, .bool b2, .bool b3, .bool b4, .bool b5] = w4b at *
     try simp only [Act.put]
     refine Dm.wpE_done (by kernel_rfl) hX4b (fun w5a hx5a => ?_)
     have hX5a := Ext.trans hX4b hx5a
     replace hG := hG.ext hx5a
     exact ⟨bM, bF, rfl, hG, hX5a⟩
    ·
     have hX2a := Ext.trans hX1b hx2a
     replace hM := hM.ext hx2a
     have hF : RB w2a.heap.size 108 [.bool false, .bool false, .bool false, .bool false, .bool false, .bool false] (w2a.alloc (.cells #[.bool false, .bool false, .bool false, .bool false, .bool false, .bool false] 108)) := RB.new w2a 108 [.bool false, .bool false, .bool false, .bool false, .bool false, .bool false]
     have hbF := (hX2a).size
     go_wp2_with fail
     have hs2 : Ext w2a (w2a.alloc (.cells #[.bool false, .bool false, .bool false, .bool false, .bool false, .bool false] 108)) := (Ext.refl _).alloc _
     have hX2b := Ext.trans hX2a hs2
     generalize w2a.alloc (.cells #[.bool false, .bool false, .bool false, .bool false, .bool false, .bool false] 108) = w2b at *
     generalize w2a.heap.size = bF at *
     replace hM := hM.ext hs2
     try simp only [Exit.then, Act.put, List.setIfInBounds_toArray, List.set_cons_succ, List.set_cons_zero]
     refine Dm.wpE_one (i := 3) (listed' := (Dm.bits 6 31)) (by kernel_rfl) (by kernel_rfl) rfl hX2b (fun w6a hx6a => ?_)
     have hX6a := Ext.trans hX2b hx6a
     replace hM := hM.ext hx6a
     replace hF := hF.ext hx6a
     have hlk := hlook.out _ _ hM
     go_wp2_with fail
     clear hlk hM
     obtain ⟨w6b, hw2⟩ : ∃ x, x = w6a := ⟨_, rfl⟩
     subst hw2
     have hX6b := hX6a
     try simp only [Exit.then, Act.put, List.setIfInBounds_toArray, List.set_cons_succ, List.set_cons_zero]
     refine Dm.wpE_one (i := 5) (listed' := (Dm.bits 6 63)) (by kernel_rfl) (by kernel_rfl) rfl hX6b (fun w7a hx7a => ?_)
     have hX7a := Ext.trans hX6b hx7a
     replace hF := hF.ext hx7a
     have hG := hF.setRow [.bool b0, .bool b1, .bool b2, .bool b3, .bool b4, .bool b5]
     go_wp2_with (refine wpList_store_row (cells := #[.bool b0, .bool b1, .bool b2, .bool b3, .bool b4, .bool b5]) rfl 108 _ _ rfl bF rfl rfl _ _ hF (by kernel_rfl) rfl (by first | rfl | decide | simp [Value.oneCell']) ?_)
     change RB bF 108 [.bool b0, .bool b1, .bool b2, .bool b3, .bool b4, .bool b5] (w7a.setRow bF #[.bool b0, .bool b1, .bool b2, .bool b3, .bool b4, .bool b5]) at hG
     have hX7b : Ext w2 (w7a.setRow bF #[.bool b0, .bool b1, .bool b2, .bool b3, .bool b4, .bool b5]) := Ext.setRow hX7a hbF _
     clear hF
     generalize w7a.setRow bF #[.bool b0, .bool b1, .bool b2, .bool b3, .bool b4, .bool b5] = w7b at *
     try simp only [Act.put]
     refine Dm.wpE_done (by kernel_rfl) hX7b (fun w8a hx8a => ?_)
     have hX8a := Ext.trans hX7b hx8a
     replace hG := hG.ext hx8a
     exact ⟨bM, bF, rfl, hG, hX8a⟩
   ·
    have hX1a := Ext.trans (Ext.refl w2) hx1a
    have hF : RB w1a.heap.size 108 [.bool false, .bool false, .bool false, .bool false, .bool false, .bool false] (w1a.alloc (.cells #[.bool false, .bool false, .bool false, .bool false, .bool false, .bool false] 108)) := RB.new w1a 108 [.bool false, .bool false, .bool false, .bool false, .bool false, .bool false]
    have hbF := (hX1a).size
    go_wp2_with fail
    have hs1 : Ext w1a (w1a.alloc (.cells #[.bool false, .bool false, .bool false, .bool false, .bool false, .bool false] 108)) := (Ext.refl _).alloc _
    have hX1b := Ext.trans hX1a hs1
    generalize w1a.alloc (.cells #[.bool false, .bool false, .bool false, .bool false, .bool false, .bool false] 108) = w1b at *
    generalize w1a.heap.size = bF at *
    try simp only [Exit.then, Act.put, List.setIfInBounds_toArray, List.set_cons_succ, List.set_cons_zero]
    refine Dm.wpE_one (i := 0) (listed' := (Dm.bits 6 23)) (by kernel_rfl) (by kernel_rfl) rfl hX1b (fun w9a hx9a => ?_)
    have hX9a := Ext.trans hX1b hx9a
    replace hF := hF.ext hx9a
    go_wp2_with (go_at_call 55; go_must (refine (CK.out w9a).mono ?_; rintro e_ w9b ⟨bM, rfl, hM, hs9⟩))
    have hX9b := Ext.trans hX9a hs9
    replace hF := hF.ext hs9
    try simp only [Exit.then, Act.put, List.setIfInBounds_toArray, List.set_cons_succ, List.set_cons_zero]
    refine Dm.wpE_one (i := 3) (listed' := (Dm.bits 6 31)) (by kernel_rfl) (by kernel_rfl) rfl hX9b (fun w10a hx10a => ?_)
    have hX10a := Ext.trans hX9b hx10a
    replace hF := hF.ext hx10a
    replace hM := hM.ext hx10a
    have hlk := hlook.out _ _ hM
    go_wp2_with fail
    clear hlk hM
    obtain ⟨w10b, hw2⟩ : ∃ x, x = w10a := ⟨_, rfl⟩
    subst hw2
    have hX10b := hX10a
    try simp only [Exit.then, Act.put, List.setIfInBounds_toArray, List.set_cons_succ, List.set_cons_zero]
    refine Dm.wpE_one (i := 5) (listed' := (Dm.bits 6 63)) (by kernel_rfl) (by kernel_rfl) rfl hX10b (fun w11a hx11a => ?_)
    have hX11a := Ext.trans hX10b hx11a
    replace hF := hF.ext hx11a
    have hG := hF.setRow [.bool b0, .bool b1, .bool b2, .bool b3, .bool b4, .bool b5]
    go_wp2_with (refine wpList_store_row (cells := #[.bool b0, .bool b1, .bool b2, .bool b3, .bool b4, .bool b5]) rfl 108 _ _ rfl bF rfl rfl _ _ hF (by kernel_rfl) rfl (by first | rfl | decide | simp [Value.oneCell']) ?_)
    change RB bF 108 [.bool b0, .bool b1, .bool b2, .bool b3, .bool b4, .bool b5] (w11a.setRow bF #[.bool b0, .bool b1, .bool b2, .bool b3, .bool b4, .bool b5]) at hG
    have hX11b : Ext w2 (w11a.setRow bF #[.bool b0, .bool b1, .bool b2, .bool b3, .bool b4, .bool b5]) := Ext.setRow hX11a hbF _
    clear hF
    generalize w11a.setRow bF #[.bool b0, .bool b1, .bool b2, .bool b3, .bool b4, .bool b5] = w11b at *
    try simp only [Act.put]
    refine Dm.wpE_done (by kernel_rfl) hX11b (fun w12a hx12a => ?_)
    have hX12a := Ext.trans hX11b hx12a
    replace hG := hG.ext hx12a
    exact ⟨bM, bF, rfl, hG, hX12a⟩
  rintro a_ wr ⟨bM, bF, rfl, hG, hX⟩
  simp only [Act.put, List.setIfInBounds_toArray, List.set_cons_succ, List.set_cons_zero]
  clear a0 al CK hlook
  replace hA := hA.ext hX
  replace hE := hE.trans hX
  clear hX
  have al := hA.lt
  have a0 : wr.cell? ⟨bA, 0, none⟩ = some (.int .i64 (k : Nat)) := hA.cell 0
  go_wp2_with fail
  refine (C0.out _).mono ?_; rintro e_ w5 ⟨rfl, h5⟩
  clear al a0
  replace hA := hA.ext h5
  replace hG := hG.ext h5
  replace hE := hE.trans h5
  have hS := RB.new w5 9 [.string T0]
  have e6 : Ext w5 (w5.alloc (.cells #[.string T0] 9)) := (Ext.refl w5).alloc _
  have hSA : w5.heap.size ≠ bA := by have := hA.lt; omega
  have hSG : w5.heap.size ≠ bF := by have := hG.lt; omega
  have hwS : w.heap.size ≤ w5.heap.size := hE.size
  go_upto_region 5 with fail
  change RB w5.heap.size 9 [.string T0] (w5.alloc (.cells #[.string T0] 9)) at hS
  replace hA := hA.ext e6
  replace hG := hG.ext e6
  replace hE := hE.trans e6
  clear e6
  generalize w5.alloc (.cells #[.string T0] 9) = w6 at *
  generalize w5.heap.size = bS at *
  go_upto_region 6 with fail
  have HI : Rd1 bF 0 (.bool b0) w6 ∧ Rd1 bA 1 (.int .u64 (i : Nat)) w6 ∧ Ext w w6 := ⟨⟨hG.lt, hG.cell 0⟩, ⟨hA.lt, hA.cell 1⟩, hE⟩
  try simp only [Act.put, List.setIfInBounds_toArray, List.set_cons_succ, List.set_cons_zero]
  refine Dm.wp_region_fin (I := (fun U => Rd1 bF 0 (.bool b0) U ∧ Rd1 bA 1 (.int .u64 (i : Nat)) U ∧ Ext w U)) (z := 6) 7 (Dm.bits 7 0) (by kernel_rfl) (by kernel_rfl) (by kernel_rfl) ?_
  refine tts [0, 1, 2, 3, 4, 5] 63 1 (fun _ _ h hx => ⟨h.1.ext hx, h.2.1.ext hx, h.2.2.trans hx⟩) HI ?_ (hq := by intro wq hwq; obtain ⟨⟨ql0, qc0⟩, ⟨ql1, qc1⟩, qE⟩ := hwq; (repeat go_big_quiet_step ((go_at_call 63; with_reducible exact Calls.quietE (C1.out _)))); exact wpQuiet_nil rfl)
  refine Dm.wpF_one (i := 6) (listed' := (Dm.bits 7 127)) (by kernel_rfl) (by kernel_rfl) rfl (fun wz hxz => ?_)
  go_wp2_with (go_at_call 65; go_must (refine (add_w b0 T0 T1 bS wz (hS.ext hxz) (by omega)).mono ?_; rintro e_ wc ⟨rfl, rfl⟩))
  first | refine ⟨fun h => absurd rfl h, ?_⟩ | skip
  refine Dm.wpF_done (by kernel_rfl) (fun wy hxy => ?_)
  have kS := ((hS.ext hxz).add b0 T1).ext hxy
  have kA := ((hA.ext hxz).addFar hSA b0 T0 T1).ext hxy
  have kG := ((hG.ext hxz).addFar hSG b0 T0 T1).ext hxy
  have kE := ((hE.trans hxz).addW hwS b0 T0 T1).trans hxy
  have zT0 := add_size b0 T0 T1
  have dT0 := Lib.hid (add_data b0 T0 T1)
  clear HI hA hG hS hE hxz hxy
  have hA := kA
  have hG := kG
  have hS := kS
  have hE := kE
  clear kA kG kS kE
  generalize cond b0 (T0 ++ T1) T0 = S1 at *
  obtain ⟨wa, rfl⟩ : ∃ x, x = wy := ⟨_, rfl⟩
  go_upto_region 7 with fail
  have HI : Rd1 bF 1 (.bool b1) wa ∧ Rd1 bA 2 (.int .u64 (n : Nat)) wa ∧ Ext w wa := ⟨⟨hG.lt, hG.cell 1⟩, ⟨hA.lt, hA.cell 2⟩, hE⟩
  try simp only [Act.put, List.setIfInBounds_toArray, List.set_cons_succ, List.set_cons_zero]
  refine Dm.wp_region_fin (I := (fun U => Rd1 bF 1 (.bool b1) U ∧ Rd1 bA 2 (.int .u64 (n : Nat)) U ∧ Ext w U)) (z := 6) 7 (Dm.bits 7 0) (by kernel_rfl) (by kernel_rfl) (by kernel_rfl) ?_
  refine tts [0, 1, 2, 3, 4, 5] 63 1 (fun _ _ h hx => ⟨h.1.ext hx, h.2.1.ext hx, h.2.2.trans hx⟩) HI ?_ (hq := by intro wq hwq; obtain ⟨⟨ql0, qc0⟩, ⟨ql1, qc1⟩, qE⟩ := hwq; (repeat go_big_quiet_step ((go_at_call 63; with_reducible exact Calls.quietE (C2.out _)))); exact wpQuiet_nil rfl)
  refine Dm.wpF_one (i := 6) (listed' := (Dm.bits 7 127)) (by kernel_rfl) (by kernel_rfl) rfl (fun wz hxz => ?_)
  go_wp2_with (go_at_call 65; go_must (refine (add_w b1 S1 T2 bS wz (hS.ext hxz) (by omega)).mono ?_; rintro e_ wc ⟨rfl, rfl⟩))
  first | refine ⟨fun h => absurd rfl h, ?_⟩ | skip
  refine Dm.wpF_done (by kernel_rfl) (fun wy hxy => ?_)
  have kS := ((hS.ext hxz).add b1 T2).ext hxy
  have kA := ((hA.ext hxz).addFar hSA b1 S1 T2).ext hxy
  have kG := ((hG.ext hxz).addFar hSG b1 S1 T2).ext hxy
  have kE := ((hE.trans hxz).addW hwS b1 S1 T2).trans hxy
  have zS1 := add_size b1 S1 T2
  have dS1 := Lib.hid (add_data b1 S1 T2)
  clear HI hA hG hS hE hxz hxy
  have hA := kA
  have hG := kG
  have hS := kS
  have hE := kE
  clear kA kG kS kE
  generalize cond b1 (S1 ++ T2) S1 = S2 at *
  obtain ⟨wb, rfl⟩ : ∃ x, x = wy := ⟨_, rfl⟩
  go_upto_region 8 with fail
  have HI : Rd1 bF 2 (.bool b2) wb ∧ Rd1 bA 3 (.string p) wb ∧ Ext w wb := ⟨⟨hG.lt, hG.cell 2⟩, ⟨hA.lt, hA.cell 3⟩, hE⟩
  try simp only [Act.put, List.setIfInBounds_toArray, List.set_cons_succ, List.set_cons_zero]
  refine Dm.wp_region_fin (I := (fun U => Rd1 bF 2 (.bool b2) U ∧ Rd1 bA 3 (.string p) U ∧ Ext w U)) (z := 6) 7 (Dm.bits 7 0) (by kernel_rfl) (by kernel_rfl) (by kernel_rfl) ?_
  refine tts [0, 1, 2, 3, 4, 5] 63 1 (fun _ _ h hx => ⟨h.1.ext hx, h.2.1.ext hx, h.2.2.trans hx⟩) HI ?_ (hq := by intro wq hwq; obtain ⟨⟨ql0, qc0⟩, ⟨ql1, qc1⟩, qE⟩ := hwq; (repeat go_big_quiet_step ((go_at_call 62; with_reducible exact Calls.quietE (C3.out _)))); exact wpQuiet_nil rfl)
  refine Dm.wpF_one (i := 6) (listed' := (Dm.bits 7 127)) (by kernel_rfl) (by kernel_rfl) rfl (fun wz hxz => ?_)
  go_wp2_with (go_at_call 65; go_must (refine (add_w b2 S2 T3 bS wz (hS.ext hxz) (by omega)).mono ?_; rintro e_ wc ⟨rfl, rfl⟩))
  first | refine ⟨fun h => absurd rfl h, ?_⟩ | skip
  refine Dm.wpF_done (by kernel_rfl) (fun wy hxy => ?_)
  have kS := ((hS.ext hxz).add b2 T3).ext hxy
  have kA := ((hA.ext hxz).addFar hSA b2 S2 T3).ext hxy
  have kG := ((hG.ext hxz).addFar hSG b2 S2 T3).ext hxy
  have kE := ((hE.trans hxz).addW hwS b2 S2 T3).trans hxy
  have zS2 := add_size b2 S2 T3
  have dS2 := Lib.hid (add_data b2 S2 T3)
  clear HI hA hG hS hE hxz hxy
  have hA := kA
  have hG := kG
  have hS := kS
  have hE := kE
  clear kA kG kS kE
  generalize cond b2 (S2 ++ T3) S2 = S3 at *
  obtain ⟨wc1, rfl⟩ : ∃ x, x = wy := ⟨_, rfl⟩
  go_upto_region 9 with fail
  have HI : Rd1 bF 3 (.bool b3) wc1 ∧ Rd1 bA 4 (.int .u64 ((vG d) 0 : Nat)) wc1 ∧ Rd1 bA 5 (.int .u64 ((vG d) 1 : Nat)) wc1 ∧ Rd1 bA 6 (.int .u64 ((vG d) 2 : Nat)) wc1 ∧ Rd1 bA 7 (.int .u64 ((vG d) 3 : Nat)) wc1 ∧ Ext w wc1 := ⟨⟨hG.lt, hG.cell 3⟩, ⟨hA.lt, hA.cell 4⟩, ⟨hA.lt, hA.cell 5⟩, ⟨hA.lt, hA.cell 6⟩, ⟨hA.lt, hA.cell 7⟩, hE⟩
  try simp only [Act.put, List.setIfInBounds_toArray, List.set_cons_succ, List.set_cons_zero]
  refine Dm.wp_region_fin (I := (fun U => Rd1 bF 3 (.bool b3) U ∧ Rd1 bA 4 (.int .u64 ((vG d) 0 : Nat)) U ∧ Rd1 bA 5 (.int .u64 ((vG d) 1 : Nat)) U ∧ Rd1 bA 6 (.int .u64 ((vG d) 2 : Nat)) U ∧ Rd1 bA 7 (.int .u64 ((vG d) 3 : Nat)) U ∧ Ext w U)) (z := 6) 7 (Dm.bits 7 0) (by kernel_rfl) (by kernel_rfl) (by kernel_rfl) ?_
  refine tts [0, 1, 2, 3, 4, 5] 63 1 (fun _ _ h hx => ⟨h.1.ext hx, h.2.1.ext hx, h.2.2.1.ext hx, h.2.2.2.1.ext hx, h.2.2.2.2.1.ext hx, h.2.2.2.2.2.trans hx⟩) HI ?_ (hq := by intro wq hwq; obtain ⟨⟨ql0, qc0⟩, ⟨ql1, qc1⟩, ⟨ql2, qc2⟩, ⟨ql3, qc3⟩, ⟨ql4, qc4⟩, qE⟩ := hwq; (repeat go_big_quiet_step ((go_at_call 66; with_reducible exact Calls.quietE (C4.out _)))); exact wpQuiet_nil rfl)
  refine Dm.wpF_one (i := 6) (listed' := (Dm.bits 7 127)) (by kernel_rfl) (by kernel_rfl) rfl (fun wz hxz => ?_)
  go_wp2_with (go_at_call 65; go_must (refine (add_w b3 S3 T4 bS wz (hS.ext hxz) (by omega)).mono ?_; rintro e_ wc ⟨rfl, rfl⟩))
  first | refine ⟨fun h => absurd rfl h, ?_⟩ | skip
  refine Dm.wpF_done (by kernel_rfl) (fun wy hxy => ?_)
  have kS := ((hS.ext hxz).add b3 T4).ext hxy
  have kA := ((hA.ext hxz).addFar hSA b3 S3 T4).ext hxy
  have kG := ((hG.ext hxz).addFar hSG b3 S3 T4).ext hxy
  have kE := ((hE.trans hxz).addW hwS b3 S3 T4).trans hxy
  have zS3 := add_size b3 S3 T4
  have dS3 := Lib.hid (add_data b3 S3 T4)
  clear HI hA hG hS hE hxz hxy
  have hA := kA
  have hG := kG
  have hS := kS
  have hE := kE
  clear kA kG kS kE
  generalize cond b3 (S3 ++ T4) S3 = S4 at *
  obtain ⟨wd, rfl⟩ : ∃ x, x = wy := ⟨_, rfl⟩
  go_upto_region 10 with fail
  have HI : Rd1 bF 4 (.bool b4) wd ∧ Rd1 bA 8 (.string s) wd ∧ Rd1 bA 9 (.int .u64 ((vG e) 0 : Nat)) wd ∧ Rd1 bA 10 (.int .u64 ((vG e) 1 : Nat)) wd ∧ Rd1 bA 11 (.int .u64 ((vG e) 2 : Nat)) wd ∧ Rd1 bA 12 (.int .u64 ((vG e) 3 : Nat)) wd ∧ Rd1 bA 13 (.int .i64 m.1) wd ∧ Rd1 bA 14 (.int .i64 m.2.1) wd ∧ Rd1 bA 15 (.int .i64 m.2.2) wd ∧ Rd1 bA 16 (.slice qv R.length cv) wd ∧ Ext w wd := ⟨⟨hG.lt, hG.cell 4⟩, ⟨hA.lt, hA.cell 8⟩, ⟨hA.lt, hA.cell 9⟩, ⟨hA.lt, hA.cell 10⟩, ⟨hA.lt, hA.cell 11⟩, ⟨hA.lt, hA.cell 12⟩, ⟨hA.lt, hA.cell 13⟩, ⟨hA.lt, hA.cell 14⟩, ⟨hA.lt, hA.cell 15⟩, ⟨hA.lt, hA.cell 16⟩, hE⟩
  try simp only [Act.put, List.setIfInBounds_toArray, List.set_cons_succ, List.set_cons_zero]
  refine Dm.wp_region_fin (I := (fun U => Rd1 bF 4 (.bool b4) U ∧ Rd1 bA 8 (.string s) U ∧ Rd1 bA 9 (.int .u64 ((vG e) 0 : Nat)) U ∧ Rd1 bA 10 (.int .u64 ((vG e) 1 : Nat)) U ∧ Rd1 bA 11 (.int .u64 ((vG e) 2 : Nat)) U ∧ Rd1 bA 12 (.int .u64 ((vG e) 3 : Nat)) U ∧ Rd1 bA 13 (.int .i64 m.1) U ∧ Rd1 bA 14 (.int .i64 m.2.1) U ∧ Rd1 bA 15 (.int .i64 m.2.2) U ∧ Rd1 bA 16 (.slice qv R.length cv) U ∧ Ext w U)) (z := 6) 7 (Dm.bits 7 0) (by kernel_rfl) (by kernel_rfl) (by kernel_rfl) ?_
  refine tts [0, 1, 2, 3, 4, 5] 63 1 (fun _ _ h hx => ⟨h.1.ext hx, h.2.1.ext hx, h.2.2.1.ext hx, h.2.2.2.1.ext hx, h.2.2.2.2.1.ext hx, h.2.2.2.2.2.1.ext hx, h.2.2.2.2.2.2.1.ext hx, h.2.2.2.2.2.2.2.1.ext hx, h.2.2.2.2.2.2.2.2.1.ext hx, h.2.2.2.2.2.2.2.2.2.1.ext hx, h.2.2.2.2.2.2.2.2.2.2.trans hx⟩) HI ?_ (hq := by intro wq hwq; obtain ⟨⟨ql0, qc0⟩, ⟨ql1, qc1⟩, ⟨ql2, qc2⟩, ⟨ql3, qc3⟩, ⟨ql4, qc4⟩, ⟨ql5, qc5⟩, ⟨ql6, qc6⟩, ⟨ql7, qc7⟩, ⟨ql8, qc8⟩, ⟨ql9, qc9⟩, qE⟩ := hwq; (repeat go_big_quiet_step ((go_at_call 67; with_reducible exact Calls.quietE (C5.out _ (qE.trans (by repeat (first | assumption | exact Ext.refl _ | refine Ext.trans ?_ (ext_grow _ _)))))))); exact wpQuiet_nil rfl)
  refine Dm.wpF_one (i := 6) (listed' := (Dm.bits 7 127)) (by kernel_rfl) (by kernel_rfl) rfl (fun wz hxz => ?_)
  go_wp2_with (go_at_call 65; go_must (refine (add_w b4 S4 T5 bS wz (hS.ext hxz) (by omega)).mono ?_; rintro e_ wc ⟨rfl, rfl⟩))
  first | refine ⟨fun h => absurd rfl h, ?_⟩ | skip
  refine Dm.wpF_done (by kernel_rfl) (fun wy hxy => ?_)
  have kS := ((hS.ext hxz).add b4 T5).ext hxy
  have kA := ((hA.ext hxz).addFar hSA b4 S4 T5).ext hxy
  have kG := ((hG.ext hxz).addFar hSG b4 S4 T5).ext hxy
  have kE := ((hE.trans hxz).addW hwS b4 S4 T5).trans hxy
  have zS4 := add_size b4 S4 T5
  have dS4 := Lib.hid (add_data b4 S4 T5)
  clear HI hA hG hS hE hxz hxy
  have hA := kA
  have hG := kG
  have hS := kS
  have hE := kE
  clear kA kG kS kE
  generalize cond b4 (S4 ++ T5) S4 = S5 at *
  obtain ⟨we, rfl⟩ : ∃ x, x = wy := ⟨_, rfl⟩
  go_upto_region 11 with fail
  have HI : Rd1 bF 5 (.bool b5) we ∧ Rd1 bA 17 (.slice ql P.length cl) we ∧ Ext w we := ⟨⟨hG.lt, hG.cell 5⟩, ⟨hA.lt, hA.cell 17⟩, hE⟩
  try simp only [Act.put, List.setIfInBounds_toArray, List.set_cons_succ, List.set_cons_zero]
  refine Dm.wp_region_fin (I := (fun U => Rd1 bF 5 (.bool b5) U ∧ Rd1 bA 17 (.slice ql P.length cl) U ∧ Ext w U)) (z := 6) 7 (Dm.bits 7 0) (by kernel_rfl) (by kernel_rfl) (by kernel_rfl) ?_
  refine tts [0, 1, 2, 3, 4, 5] 63 1 (fun _ _ h hx => ⟨h.1.ext hx, h.2.1.ext hx, h.2.2.trans hx⟩) HI ?_ (hq := by intro wq hwq; obtain ⟨⟨ql0, qc0⟩, ⟨ql1, qc1⟩, qE⟩ := hwq; (repeat go_big_quiet_step ((go_at_call 68; with_reducible exact Calls.quietE (C6.out _ (qE.trans (by repeat (first | assumption | exact Ext.refl _ | refine Ext.trans ?_ (ext_grow _ _)))))))); exact wpQuiet_nil rfl)
  refine Dm.wpF_one (i := 6) (listed' := (Dm.bits 7 127)) (by kernel_rfl) (by kernel_rfl) rfl (fun wz hxz => ?_)
  go_wp2_with (go_at_call 65; go_must (refine (add_w b5 S5 T6 bS wz (hS.ext hxz) (by omega)).mono ?_; rintro e_ wc ⟨rfl, rfl⟩))
  first | refine ⟨fun h => absurd rfl h, ?_⟩ | skip
  refine Dm.wpF_done (by kernel_rfl) (fun wy hxy => ?_)
  have kS := ((hS.ext hxz).add b5 T6).ext hxy
  have kA := ((hA.ext hxz).addFar hSA b5 S5 T6).ext hxy
  have kG := ((hG.ext hxz).addFar hSG b5 S5 T6).ext hxy
  have kE := ((hE.trans hxz).addW hwS b5 S5 T6).trans hxy
  have zS5 := add_size b5 S5 T6
  have dS5 := Lib.hid (add_data b5 S5 T6)
  clear HI hA hG hS hE hxz hxy
  have hA := kA
  have hG := kG
  have hS := kS
  have hE := kE
  clear kA kG kS kE
  generalize cond b5 (S5 ++ T6) S5 = S6 at *
  obtain ⟨wf, rfl⟩ : ∃ x, x = wy := ⟨_, rfl⟩
  skip
  have sl := hS.lt
  have s0 : wf.cell? ⟨bS, 0, none⟩ = some (.string S6) := hS.cell 0
  go_wp2
  go_ret
  exact ⟨by rw [hput.out S6 (by rw [dS5.out, dS4.out, dS3.out, dS2.out, dS1.out, dT0.out])]; rfl, hE⟩

end Go.Proofs.YtefjdmjkofaajaaGreatDoor

namespace Go.Dm
open Go Go.RowKit
theorem knownF_range {z : Int} {f : Fld} (h : knownF z = some f) : 1 ≤ z ∧ z ≤ 13 := by
 simp only [knownF, putKF] at h
 by_cases e13 : z = 13
 ·exact ⟨by omega, by omega⟩
 rw [if_neg e13] at h
 by_cases e12 : z = 12
 ·exact ⟨by omega, by omega⟩
 rw [if_neg e12] at h
 by_cases e11 : z = 11
 ·exact ⟨by omega, by omega⟩
 rw [if_neg e11] at h
 by_cases e10 : z = 10
 ·exact ⟨by omega, by omega⟩
 rw [if_neg e10] at h
 by_cases e9 : z = 9
 ·exact ⟨by omega, by omega⟩
 rw [if_neg e9] at h
 by_cases e8 : z = 8
 ·exact ⟨by omega, by omega⟩
 rw [if_neg e8] at h
 by_cases e7 : z = 7
 ·exact ⟨by omega, by omega⟩
 rw [if_neg e7] at h
 by_cases e6 : z = 6
 ·exact ⟨by omega, by omega⟩
 rw [if_neg e6] at h
 by_cases e5 : z = 5
 ·exact ⟨by omega, by omega⟩
 rw [if_neg e5] at h
 by_cases e4 : z = 4
 ·exact ⟨by omega, by omega⟩
 rw [if_neg e4] at h
 by_cases e3 : z = 3
 ·exact ⟨by omega, by omega⟩
 rw [if_neg e3] at h
 by_cases e2 : z = 2
 ·exact ⟨by omega, by omega⟩
 rw [if_neg e2] at h
 by_cases e1 : z = 1
 ·exact ⟨by omega, by omega⟩
 rw [if_neg e1] at h
 cases h
theorem rightO_kind {o : OpQ} (h : rightO o = true) : ∃ k : Nat, o.1 = (k : Int) ∧ 1 ≤ k ∧ k ≤ 13 ∧ o.2.2.1.size ≤ 98 := by
 unfold rightO at h
 cases hk : knownF o.1 with
 | none => rw [hk] at h; cases h
 | some f =>
  rw [hk] at h
  simp only [Bool.and_eq_true, decide_eq_true_eq] at h
  have := knownF_range hk
  exact ⟨o.1.toNat, by omega, by omega, by omega, h.2.2.1⟩
/-- What may have been written is one block. -/
def Off (b : Nat) (w w' : World) : Prop := w.heap.size ≤ w'.heap.size ∧ ∀ c, c ≠ b → w'.heap[c]? = w.heap[c]?
theorem Off.refl (b : Nat) (w : World) : Off b w w := ⟨Nat.le_refl _, fun _ _ => rfl⟩
theorem Off.setCell {b : Nat} {w0 w : World} (h : Off b w0 w) (i : Nat) (u : Value) : Off b w0 (w.setCell ⟨b, i, none⟩ u) :=
 ⟨by rw [World.size_setCell]; exact h.1, fun c hc => by
  rw [← h.2 c hc]
  simp only [World.setCell, Array.getElem?_modify, if_neg (Ne.symm hc)]⟩
theorem Off.setRow {b : Nat} {w0 w : World} (h : Off b w0 w) (cs : Array Value) : Off b w0 (w.setRow b cs) :=
 ⟨by show _ ≤ (w.heap.modify b _).size; rw [Array.size_modify]; exact h.1, fun c hc => by
  rw [← h.2 c hc]
  simp only [World.setRow, Array.getElem?_modify, if_neg (Ne.symm hc)]⟩
theorem Sl.off {w w' : World} {b sz n : Nat} {v : Value} {cs : List Value} (h : Sl w sz v n cs) (ho : Off b w w') (ha : ∀ c, v.ownBlock = some c → c ≠ b) : Sl w' sz v n cs := by
 obtain ⟨hl, p, cap, hv, hn, hm, hz, h⟩ := h
 refine ⟨hl, p, cap, hv, hn, hm, hz, ?_⟩
 rcases h with h | ⟨c, off, hp, hlt, h⟩
 ·exact Or.inl h
 subst hv hp
 have hc := ha c rfl
 refine Or.inr ⟨c, off, rfl, Nat.lt_of_lt_of_le hlt ho.1, fun j u hj => ?_⟩
 have := h j u hj
 simpa [World.cell?, ho.2 c hc] using this
theorem Terms.off {w w' : World} {v : Value} {R : List RowS} {B b : Nat} (h : Terms w v R) (hO : OwnT B v R) (hb : b < B) (ho : Off b w w') : Terms w' v R :=
 ⟨Sl.off h.1 ho (fun c hc => by have := hO.1 c hc; omega), fun r hr => Sl.off (h.2 r hr) ho (fun c hc => by have := hO.2 r hr c hc; omega)⟩
theorem Pairs.off {w w' : World} {v : Value} {L : List PairS} {B b : Nat} (h : Pairs w v L) (hO : ∀ c, v.ownBlock = some c → B ≤ c) (hb : b < B) (ho : Off b w w') : Pairs w' v L :=
 Sl.off h ho (fun c hc => by have := hO c hc; omega)
theorem results_row3 {P : Program} {fn : Func} {p t u : Tmp} {ty : TypeId} (h : fn.results = #[.cell p ty, .tmp t, .tmp u]) (tmps : Array Value) (w : World) (g : Nat) (tt : TypeId) (cs : Array Value) (fr : Nat × Nat) (d : TypeDesc)
  (hp : tmps.getD p undef = .pointer (some ⟨g, 0, none⟩)) (hg : w.heap[g]? = some (.cells cs tt fr))
  (hu : P.underlying ty = some d) (hd : (match d with | .struct _ | .array _ _ => true | _ => false) = true) (hi : (P.info? ty).map (·.size) = some cs.size) :
  (results fn tmps).run P w = .ok (.tuple #[.agg cs, tmps.getD t undef, tmps.getD u undef]) w := by
 have hp' : tmps[p]?.getD undef = .pointer (some ⟨g, 0, none⟩) := by simpa using hp
 simp [results, h, hp', asAddr, run_loadVar_row w g tt ty cs fr d hg hu hd hi]
def opQ0 (k : Int) : OpQ := (k, (0, 0), ⟨#[]⟩, noV, noSp, [])
def noO : OpQ × Int × Bool := (opQ0 0, 0, false)
def unP (x : PairL) : PairS := (⟨x.1.toArray⟩, ⟨x.2.toArray⟩)
theorem unP_lab (l : List PairS) : (labL l).map unP = l := by
 unfold labL
 rw [List.map_map]
 conv => rhs; rw [← List.map_id l]
 refine List.map_congr_left fun x _ => ?_
 obtain ⟨⟨⟨a⟩⟩, ⟨⟨b⟩⟩⟩ := x
 rfl
def rdA (l : Bs) (b : Bool) (q : Int) (ok : Bool) : Nat × Int × Bool := cond b (getI l q) (0, q, ok)
def rdT (l : Bs) (b : Bool) (q : Int) (ok : Bool) : Bs × Int × Bool := cond b (atI (getTextL 98) [] l q) ([], q, ok)
def rdV (l : Bs) (b : Bool) (q : Int) (ok : Bool) : Vc × Int × Bool := cond (ok && b) (getV l q) (noV, q, ok)
def rdX (l : Bs) (b : Bool) (q : Int) (ok : Bool) : SpQ × Int × Bool := cond b (getX l q) (noSp, q, ok)
def rdL (l : Bs) (b : Bool) (q : Int) (ok : Bool) : List PairL × Int × Bool := cond (ok && b) (atI getLabL [] l q) ([], q, ok)
/-- The fields of an op, one behind the other. -/
def rdF (l : Bs) (f : Fld) (k q : Int) : OpQ × Int × Bool :=
 let a := rdA l f.1 q true
 let b := rdA l f.2.1 a.2.1 a.2.2
 let t := rdT l f.2.2.1 b.2.1 b.2.2
 let v := rdV l f.2.2.2.1 t.2.1 t.2.2
 let x := rdX l f.2.2.2.2.1 v.2.1 v.2.2
 let y := rdL l f.2.2.2.2.2 x.2.1 x.2.2
 ((k, (a.1, b.1), ⟨t.1.toArray⟩, v.1, x.1, y.1.map unP), y.2.1, y.2.2)
def finO (s : OpQ × Int × Bool) : OpQ × Int × Bool := if s.2.2 = true ∧ rightO s.1 = true then s else noO
/-- P18.3: the op that stands at a place. -/
def getO (l : Bs) (p : Int) : OpQ × Int × Bool :=
 if (getI l p).2.2 = false ∨ 13 < (getI l p).1 then noO else finO (rdF l ((knownF ((getI l p).1 : Nat)).getD noFld) ((getI l p).1 : Nat) (getI l p).2.1)
/-- What is known of an op that was got, besides. -/
structure OkO (o : OpQ) : Prop where
 k : -9223372036854775808 ≤ o.1 ∧ o.1 ≤ 9223372036854775807
 i : U64 o.2.1.1
 n : U64 o.2.1.2
 d : OkV o.2.2.2.1
 s : o.2.2.2.2.1.1.size < 4294967281
 e : OkV o.2.2.2.2.1.2.1
 p : o.2.2.2.2.2.length ≤ 35184372088832
 f : FitP o.2.2.2.2.2
theorem OkO.zero : OkO (opQ0 0) := ⟨by show (_ : Int) ≤ 0 ∧ (0 : Int) ≤ _; omega, by show (0 : Nat) < _; decide, by show (0 : Nat) < _; decide, okV_no, by show (0 : Nat) < _; decide, okV_no, by show (0 : Nat) ≤ _; omega, FitP.nil⟩
/-- How an op that was got reads. -/
def GotO (B : Nat) (w : World) (G : OpQ × Int × Bool) (e : Ending) : Prop :=
 ∃ v l R, e = .returned (.tuple #[opV G.1.1 G.1.2.1.1 G.1.2.1.2 G.1.2.2.1 (vG G.1.2.2.2.1) G.1.2.2.2.2.1.1 (vG G.1.2.2.2.2.1.2.1) G.1.2.2.2.2.1.2.2.1 v l, .int .i64 G.2.1, .bool G.2.2]) ∧
  Terms w v R ∧ FitR R ∧ R.length ≤ 35184372088832 ∧ R.map rowT = G.1.2.2.2.2.1.2.2.2 ∧ Pairs w l G.1.2.2.2.2.2 ∧ OkO G.1 ∧ OwnT B v R ∧ (∀ c, l.ownBlock = some c → B ≤ c)
end Go.Dm
namespace Go.Proofs.YtefjdmjkofaajaaGreatDoor
open Go.RowKit Go.Dm
theorem aput_w (k : Int) (i n : Nat) (p : ByteArray) (d : Vc) (s : ByteArray) (e : Vc) (m : Nums3) (v l : Value) (R : List RowS) (P : List PairS) (w : World)
  (hk : -9223372036854775808 ≤ k ∧ k ≤ 9223372036854775807) (hi : U64 i) (hn : U64 n) (hd : OkV d) (hs : s.size < 4294967281) (he : OkV e) (hm : R.length ≤ 35184372088832) (hf : FitR R) (hx : Terms w v R) (hpm : P.length ≤ 35184372088832) (hfp : FitP P) (hy : Pairs w l P) (hv : Vars w) :
  Calls Tryz.prog 27 #[opV k i n p (vG d) s (vG e) m v l] w fun e_ w' => e_ = .returned (.string ⟨(putO (k, (i, n), p, d, (s, e, m, R.map rowT), P)).toArray⟩) ∧ Ext w w' := by
 cases hro : rightO (k, (i, n), p, d, (s, e, m, R.map rowT), P) with
 | false => exact aput_no k i n p d s e m v l R P w hk hd hs he hm hf hx hpm hfp hy hv hro
 | true =>
  obtain ⟨k', hk', h1, h13, h98⟩ := rightO_kind hro
  obtain rfl : k = (k' : Int) := hk'
  exact aput_yes k' i n p d s e m v l R P w h13 hi hn h98 hd hs he hm hf hx hpm hfp hy hv hro
end Go.Proofs.YtefjdmjkofaajaaGreatDoor
