/- Texts of the base. -/

import Derived.Test.YtefjdmjkofaajaaGreatDoorT17
import Derived.Test.YtefjdmjkofaajaaGreatDoorT14
import Derived.Deep.Cut
namespace Go.Proofs.YtefjdmjkofaajaaGreatDoor
open Go.RowKit Go.Dm
set_option maxHeartbeats 4000000 in
set_option maxRecDepth 100000 in
theorem aget_w (s : ByteArray) (p : Int) (w : World) (hs : s.size ≤ 281474976710656) (hv : Vars w) :
  Calls Tryz.prog 40 #[.string s, .int .i64 p] w fun e_ w' => GotO w.heap.size w' (getO s.data.toList p) e_ ∧ Ext w w' := by
 have hU : U64 s.data.toList.length := Nat.lt_of_le_of_lt (show s.size ≤ _ from hs) (by decide)
 unfold getO
 have C1 := fun U => wget_w s p U hs
 obtain ⟨⟨k, q, b⟩, hr⟩ : ∃ r, getI s.data.toList p = r := ⟨_, rfl⟩
 rw [hr] at C1 ⊢
 simp only at C1 ⊢
 clear hr
 obtain ⟨f, hf⟩ : ∃ f, (knownF (k : Nat)).getD noFld = f := ⟨_, rfl⟩
 have hlook := fun (U : World) B (h : MapK U B 13 knownF) (hk : -9223372036854775808 ≤ (k : Int) ∧ (k : Int) ≤ 9223372036854775807) => h.look1 hk
 rw [hf] at hlook ⊢
 clear hf
 obtain ⟨c0, c1, c2, c3, c4, c5⟩ := f
 unfold fldV at hlook
 simp only at hlook
 replace hlook := Lib.hid hlook
 rw [← leftF_all]
 obtain ⟨RR, hR⟩ : ∃ r, (if b = false ∨ 13 < k then noO else finO (leftF s.data.toList (c0, c1, c2, c3, c4, c5) 6 (opQ0 k, q, true))) = r := ⟨_, rfl⟩
 rw [hR]
 replace hR := Lib.hid hR
 obtain ⟨w1, hW1, hA, hE, -⟩ := new_row w 33 zOp
 obtain ⟨bA, hbA⟩ : ∃ x, w.heap.size = x := ⟨_, rfl⟩
 have hwA : w.heap.size ≤ bA := by omega
 rw [hbA] at hA
 go_enter Tryz.func40, Tryz.ntmps40
 go_upto_region 1 with fail
 clear hW1 hbA
 go_wp2_with fail
 refine (C1 _).mono ?_; rintro e_ w2 ⟨rfl, h2⟩
 replace hA := hA.ext h2
 replace hE := hE.trans h2
 clear h2 C1
 by_cases h13 : b = true ∧ k ≤ 13
 rotate_left
 ·have hR0 : noO = RR := by
   rw [← hR.out, if_pos]
   cases b with
   | false => exact Or.inl rfl
   | true => exact Or.inr (by have := not_and.1 h13 rfl; omega)
  subst hR0
  clear hR
  have hZ := hA.setRow zOp
  clear hlook
  have hk13 : b = true → 13 < k := fun h => by have := not_and.1 h13 h; omega
  clear h13
  cases b
  case' true => have hk13 := hk13 rfl
  all_goals
   go_wp2_with (refine wpList_store_row (cells := zOp.toArray) rfl 33 _ _ rfl bA rfl rfl _ _ hA (by kernel_rfl) rfl (by first | rfl | decide | simp [Value.oneCell']) ?_)
   refine bodyPost_ret (results_row3 (p := 4) (t := 5) (u := 6) rfl _ _ _ _ _ _ _ rfl hZ Tryz.underlying33 rfl (by kernel_rfl)) rfl ?_
   exact ⟨GotO.none_ _ _, Ext.setRow hE hwA _⟩
 obtain ⟨rfl, h13⟩ := h13
 replace hR := Lib.hid ((if_neg (show ¬ (true = false ∨ 13 < k) by rintro (h | h); (cases h); omega)).symm.trans hR.out)
 have hk : -9223372036854775808 ≤ (k : Int) ∧ (k : Int) ≤ 9223372036854775807 := by omega
 replace hlook := Lib.hid (fun U B h => hlook.out U B h hk)
 obtain ⟨G, hG⟩ : ∃ g, leftF s.data.toList (c0, c1, c2, c3, c4, c5) 6 (opQ0 k, q, true) = g := ⟨_, rfl⟩
 replace hR := Lib.hid (show finO G = RR by rw [← hG]; exact hR.out)
 replace hG := Lib.hid hG
 have al := hA.lt
 have a0 := hA.at 0 rfl
 have af0 := hA.free 0
 go_upto_region 5 with fail
 clear al a0 af0
 have hA' := hA.set 0 (.int .i64 (k : Nat))
 have hE' : Ext w (w2.setCell ⟨bA, 0, none⟩ (.int .i64 (k : Nat))) := Below.setCell hE (p := ⟨bA, 0, none⟩) hwA _
 clear hA hE
 generalize w2.setCell ⟨bA, 0, none⟩ (.int .i64 (k : Nat)) = w3 at *
 have hA : RB bA 33 (cellsO k 0 0 ⟨#[]⟩ noV ⟨#[]⟩ noV (0, 0, 0) (.slice none 0 0) (.slice none 0 0)) w3 := hA'
 have hE := hE'
 clear hA' hE'
 have al := hA.lt
 have a0 := hA.at 0 rfl
 refine region_cut (fun a_ a' w' => ∃ bM bF : Nat, a' = ((((a_.put (some 26) (.map (some bM))).put (some 27) (.pointer (some ⟨bA, 0, none⟩))).put (some 28) (.int .i64 (k : Nat))).put (some 29) (.agg #[.bool c0, .bool c1, .bool c2, .bool c3, .bool c4, .bool c5])).put (some 8) (.pointer (some ⟨bF, 0, none⟩)) ∧ RB bF 108 [.bool c0, .bool c1, .bool c2, .bool c3, .bool c4, .bool c5] w' ∧ w3.heap.size ≤ bF ∧ Ext w3 w') ?_ ?_
 ·skip
  refine sx_ ?_
  refine rg_ 6 (Ext.refl w3) ?_
  refine tks [1, 2] 6 4 ?_
  refine k2_ 0 4 7 22 (Ext.refl w3) (fun w1a hx1a hX1a => ?_) fun w1a hx1a hX1a => ?_
  ·
   go_wp2_with (go_at_call 55; go_must (refine (aknown_w w1a).mono ?_; rintro e_ w1b ⟨bM, rfl, hM, hs1⟩))
   have hX1b := Ext.trans hX1a hs1
   refine sx_ ?_
   refine k2_ 3 4 15 23 hX1b (fun w2a hx2a hX2a => ?_) fun w2a hx2a hX2a => ?_
   ·
    replace hM := hM.ext hx2a
    have hlk := hlook.out _ _ hM
    go_wp2_with fail
    clear hlk hM
    obtain ⟨w2b, hw2⟩ : ∃ x, x = w2a := ⟨_, rfl⟩
    subst hw2
    have hX2b := hX2a
    refine sx_ ?_
    refine k1_ 4 31 hX2b fun w3a hx3a hX3a => ?_
    have hF : RB w3a.heap.size 108 [.bool false, .bool false, .bool false, .bool false, .bool false, .bool false] (w3a.alloc (.cells #[.bool false, .bool false, .bool false, .bool false, .bool false, .bool false] 108)) := RB.new w3a 108 [.bool false, .bool false, .bool false, .bool false, .bool false, .bool false]
    have hbF := (hX3a).size
    go_wp2_with fail
    have hs3 : Ext w3a (w3a.alloc (.cells #[.bool false, .bool false, .bool false, .bool false, .bool false, .bool false] 108)) := (Ext.refl _).alloc _
    have hX3b := Ext.trans hX3a hs3
    generalize w3a.alloc (.cells #[.bool false, .bool false, .bool false, .bool false, .bool false, .bool false] 108) = w3b at *
    generalize w3a.heap.size = bF at *
    refine sx_ ?_
    refine k1_ 5 63 hX3b fun w4a hx4a hX4a => ?_
    replace hF := hF.ext hx4a
    have hG5 := hF.setRow [.bool c0, .bool c1, .bool c2, .bool c3, .bool c4, .bool c5]
    go_wp2_with (refine wpList_store_row (cells := #[.bool c0, .bool c1, .bool c2, .bool c3, .bool c4, .bool c5]) rfl 108 _ _ rfl bF rfl rfl _ _ hF (by kernel_rfl) rfl (by first | rfl | decide | simp [Value.oneCell']) ?_)
    change RB bF 108 [.bool c0, .bool c1, .bool c2, .bool c3, .bool c4, .bool c5] (w4a.setRow bF #[.bool c0, .bool c1, .bool c2, .bool c3, .bool c4, .bool c5]) at hG5
    have hX4b : Ext w3 (w4a.setRow bF #[.bool c0, .bool c1, .bool c2, .bool c3, .bool c4, .bool c5]) := Ext.setRow hX4a hbF _
    clear hF
    generalize w4a.setRow bF #[.bool c0, .bool c1, .bool c2, .bool c3, .bool c4, .bool c5] = w4b at *
    refine sx_ ?_
    refine kd_ hX4b fun w5a hx5a hX5a => ?_
    replace hG5 := hG5.ext hx5a
    exact ⟨bM, bF, rfl, hG5, hbF, hX5a⟩
   ·
    replace hM := hM.ext hx2a
    have hF : RB w2a.heap.size 108 [.bool false, .bool false, .bool false, .bool false, .bool false, .bool false] (w2a.alloc (.cells #[.bool false, .bool false, .bool false, .bool false, .bool false, .bool false] 108)) := RB.new w2a 108 [.bool false, .bool false, .bool false, .bool false, .bool false, .bool false]
    have hbF := (hX2a).size
    go_wp2_with fail
    have hs2 : Ext w2a (w2a.alloc (.cells #[.bool false, .bool false, .bool false, .bool false, .bool false, .bool false] 108)) := (Ext.refl _).alloc _
    have hX2b := Ext.trans hX2a hs2
    generalize w2a.alloc (.cells #[.bool false, .bool false, .bool false, .bool false, .bool false, .bool false] 108) = w2b at *
    generalize w2a.heap.size = bF at *
    replace hM := hM.ext hs2
    refine sx_ ?_
    refine k1_ 3 31 hX2b fun w6a hx6a hX6a => ?_
    replace hM := hM.ext hx6a
    replace hF := hF.ext hx6a
    have hlk := hlook.out _ _ hM
    go_wp2_with fail
    clear hlk hM
    obtain ⟨w6b, hw2⟩ : ∃ x, x = w6a := ⟨_, rfl⟩
    subst hw2
    have hX6b := hX6a
    refine sx_ ?_
    refine k1_ 5 63 hX6b fun w7a hx7a hX7a => ?_
    replace hF := hF.ext hx7a
    have hG5 := hF.setRow [.bool c0, .bool c1, .bool c2, .bool c3, .bool c4, .bool c5]
    go_wp2_with (refine wpList_store_row (cells := #[.bool c0, .bool c1, .bool c2, .bool c3, .bool c4, .bool c5]) rfl 108 _ _ rfl bF rfl rfl _ _ hF (by kernel_rfl) rfl (by first | rfl | decide | simp [Value.oneCell']) ?_)
    change RB bF 108 [.bool c0, .bool c1, .bool c2, .bool c3, .bool c4, .bool c5] (w7a.setRow bF #[.bool c0, .bool c1, .bool c2, .bool c3, .bool c4, .bool c5]) at hG5
    have hX7b : Ext w3 (w7a.setRow bF #[.bool c0, .bool c1, .bool c2, .bool c3, .bool c4, .bool c5]) := Ext.setRow hX7a hbF _
    clear hF
    generalize w7a.setRow bF #[.bool c0, .bool c1, .bool c2, .bool c3, .bool c4, .bool c5] = w7b at *
    refine sx_ ?_
    refine kd_ hX7b fun w8a hx8a hX8a => ?_
    replace hG5 := hG5.ext hx8a
    exact ⟨bM, bF, rfl, hG5, hbF, hX8a⟩
  ·
   have hF : RB w1a.heap.size 108 [.bool false, .bool false, .bool false, .bool false, .bool false, .bool false] (w1a.alloc (.cells #[.bool false, .bool false, .bool false, .bool false, .bool false, .bool false] 108)) := RB.new w1a 108 [.bool false, .bool false, .bool false, .bool false, .bool false, .bool false]
   have hbF := (hX1a).size
   go_wp2_with fail
   have hs1 : Ext w1a (w1a.alloc (.cells #[.bool false, .bool false, .bool false, .bool false, .bool false, .bool false] 108)) := (Ext.refl _).alloc _
   have hX1b := Ext.trans hX1a hs1
   generalize w1a.alloc (.cells #[.bool false, .bool false, .bool false, .bool false, .bool false, .bool false] 108) = w1b at *
   generalize w1a.heap.size = bF at *
   refine sx_ ?_
   refine k1_ 0 23 hX1b fun w9a hx9a hX9a => ?_
   replace hF := hF.ext hx9a
   go_wp2_with (go_at_call 55; go_must (refine (aknown_w w9a).mono ?_; rintro e_ w9b ⟨bM, rfl, hM, hs9⟩))
   have hX9b := Ext.trans hX9a hs9
   replace hF := hF.ext hs9
   refine sx_ ?_
   refine k1_ 3 31 hX9b fun w10a hx10a hX10a => ?_
   replace hF := hF.ext hx10a
   replace hM := hM.ext hx10a
   have hlk := hlook.out _ _ hM
   go_wp2_with fail
   clear hlk hM
   obtain ⟨w10b, hw2⟩ : ∃ x, x = w10a := ⟨_, rfl⟩
   subst hw2
   have hX10b := hX10a
   refine sx_ ?_
   refine k1_ 5 63 hX10b fun w11a hx11a hX11a => ?_
   replace hF := hF.ext hx11a
   have hG5 := hF.setRow [.bool c0, .bool c1, .bool c2, .bool c3, .bool c4, .bool c5]
   go_wp2_with (refine wpList_store_row (cells := #[.bool c0, .bool c1, .bool c2, .bool c3, .bool c4, .bool c5]) rfl 108 _ _ rfl bF rfl rfl _ _ hF (by kernel_rfl) rfl (by first | rfl | decide | simp [Value.oneCell']) ?_)
   change RB bF 108 [.bool c0, .bool c1, .bool c2, .bool c3, .bool c4, .bool c5] (w11a.setRow bF #[.bool c0, .bool c1, .bool c2, .bool c3, .bool c4, .bool c5]) at hG5
   have hX11b : Ext w3 (w11a.setRow bF #[.bool c0, .bool c1, .bool c2, .bool c3, .bool c4, .bool c5]) := Ext.setRow hX11a hbF _
   clear hF
   generalize w11a.setRow bF #[.bool c0, .bool c1, .bool c2, .bool c3, .bool c4, .bool c5] = w11b at *
   refine sx_ ?_
   refine kd_ hX11b fun w12a hx12a hX12a => ?_
   replace hG5 := hG5.ext hx12a
   exact ⟨bM, bF, rfl, hG5, hbF, hX12a⟩
 rintro a_ w4 ⟨bM, bF, rfl, hF, hbF, h4⟩
 simp only [Act.put, List.setIfInBounds_toArray, List.set_cons_succ, List.set_cons_zero]
 have h : HoldO bF 108 [.bool c0, .bool c1, .bool c2, .bool c3, .bool c4, .bool c5] bA 33 w w4 (cellsO k 0 0 ⟨#[]⟩ noV ⟨#[]⟩ noV (0, 0, 0) (.slice none 0 0) (.slice none 0 0)) (.slice none 0 0) (.slice none 0 0) [] [] :=
  ⟨hF, hA.ext h4, by omega, hwA, hE.trans h4, Terms.nil _, Pairs.nil _, OwnT.nil _, fun c h => by cases h⟩
 have hOk : OkO (k, (0, 0), ⟨#[]⟩, noV, (⟨#[]⟩, noV, (0, 0, 0), List.map rowT []), []) := ⟨hk, u64_zero, u64_zero, okV_no, (by show (0 : Nat) < _; decide), okV_no, (by show (0 : Nat) ≤ _; decide), FitP.nil⟩
 clear a0 al hbF hA hE hF h4 hlook hk
 have hcut : AtO s.data.toList (c0, c1, c2, c3, c4, c5) 6 G bF 108 [.bool c0, .bool c1, .bool c2, .bool c3, .bool c4, .bool c5] bA 33 w k (.int .i64 q) (.bool true) w4 := ⟨0, 0, ⟨#[]⟩, noV, ⟨#[]⟩, noV, (0, 0, 0), _, _, [], [], q, true, rfl, rfl, h, hOk, (fun r hr => by cases hr), by simp, by show (0 : Nat) ≤ _; decide, hG⟩
 clear h hOk hG
 obtain ⟨i, n, t, d, y, e, m, v, x, R, P, q1, ok, e1, e2, h, hO, hf, hl, hy, hG⟩ := hcut
 simp only [Value.int.injEq, Value.bool.injEq, true_and] at e1 e2
 subst e1 e2
 obtain ⟨gl, g0, g1, g2, g3, g4, g5⟩ := h.hc.six
 go_upto_if 31 with fail
 go_cut [5, 6] from 9 (fun u1 u2 W => AtO s.data.toList (c0, c1, c2, c3, c4, c5) 5 G bF 108 [.bool c0, .bool c1, .bool c2, .bool c3, .bool c4, .bool c5] bA 33 w k u1 u2 W)
 case first =>
  cases hb : c0 with
  | false =>
   go_wp2_with fail
   go_meet
   case rel => exact ⟨i, n, t, d, y, e, m, v, x, R, P, q, true, rfl, rfl, h, hO, hf, hl, hy, Lib.hid (by rw [← hG.out]; show _ = leftF _ _ 5 (stA _ _ _); unfold stA; simp only [hb, cond_false])⟩
  | true =>
   have C := fun U (_ : Ext w U) => wget_w s q U hs
   have fa := getI_fit (l := s.data.toList) (p := q) hs
   obtain ⟨⟨a, qa, ba⟩, ra⟩ : ∃ r, getI s.data.toList q = r := ⟨_, rfl⟩
   rw [ra] at C fa
   simp only at C fa
   go_wp2_with fail
   refine (C _ h.hE).mono ?_; rintro e_ W1 ⟨rfl, h1⟩
   clear gl g0 g1 g2 g3 g4 g5 C
   replace h := h.ext h1
   have ol := RB.lt h.hb
   have o1 := h.hb.at 1 rfl
   have of1 := h.hb.free 1
   go_wp2_with fail
   go_meet
   case rel => exact ⟨a, n, t, d, y, e, m, v, x, R, P, qa, ba, rfl, rfl, h.put [(1, .int .u64 (a : Nat))], ⟨hO.k, fa, hO.n, hO.d, hO.s, hO.e, hO.p, hO.f⟩, hf, hl, hy, Lib.hid (by rw [← hG.out]; show _ = leftF _ _ 5 (stA _ _ _); unfold stA; simp only [hb, cond_true]; rw [ra])⟩
 clear gl g0 g1 g2 g3 g4 g5 h hO hf hl hy hG
 obtain ⟨i, n, t, d, y, e, m, v, x, R, P, q, ok, rfl, rfl, h, hO, hf, hl, hy, hG⟩ := hcut
 obtain ⟨gl, g0, g1, g2, g3, g4, g5⟩ := h.hc.six
 go_upto_if 41 with fail
 go_cut [5, 6] from 9 (fun u1 u2 W => AtO s.data.toList (c0, c1, c2, c3, c4, c5) 4 G bF 108 [.bool c0, .bool c1, .bool c2, .bool c3, .bool c4, .bool c5] bA 33 w k u1 u2 W)
 case first =>
  cases hb : c1 with
  | false =>
   go_wp2_with fail
   go_meet
   case rel => exact ⟨i, n, t, d, y, e, m, v, x, R, P, q, ok, rfl, rfl, h, hO, hf, hl, hy, Lib.hid (by rw [← hG.out]; show _ = leftF _ _ 4 (stB _ _ _); unfold stB; simp only [hb, cond_false])⟩
  | true =>
   have C := fun U (_ : Ext w U) => wget_w s q U hs
   have fa := getI_fit (l := s.data.toList) (p := q) hs
   obtain ⟨⟨a, qa, ba⟩, ra⟩ : ∃ r, getI s.data.toList q = r := ⟨_, rfl⟩
   rw [ra] at C fa
   simp only at C fa
   go_wp2_with fail
   refine (C _ h.hE).mono ?_; rintro e_ W1 ⟨rfl, h1⟩
   clear gl g0 g1 g2 g3 g4 g5 C
   replace h := h.ext h1
   have ol := RB.lt h.hb
   have o2 := h.hb.at 2 rfl
   have of2 := h.hb.free 2
   go_wp2_with fail
   go_meet
   case rel => exact ⟨i, a, t, d, y, e, m, v, x, R, P, qa, ba, rfl, rfl, h.put [(2, .int .u64 (a : Nat))], ⟨hO.k, hO.i, fa, hO.d, hO.s, hO.e, hO.p, hO.f⟩, hf, hl, hy, Lib.hid (by rw [← hG.out]; show _ = leftF _ _ 4 (stB _ _ _); unfold stB; simp only [hb, cond_true]; rw [ra])⟩
 clear gl g0 g1 g2 g3 g4 g5 h hO hf hl hy hG
 obtain ⟨i, n, t, d, y, e, m, v, x, R, P, q, ok, rfl, rfl, h, hO, hf, hl, hy, hG⟩ := hcut
 obtain ⟨gl, g0, g1, g2, g3, g4, g5⟩ := h.hc.six
 go_upto_if 51 with fail
 go_cut [5, 6] from 9 (fun u1 u2 W => AtO s.data.toList (c0, c1, c2, c3, c4, c5) 3 G bF 108 [.bool c0, .bool c1, .bool c2, .bool c3, .bool c4, .bool c5] bA 33 w k u1 u2 W)
 case first =>
  cases hb : c2 with
  | false =>
   go_wp2_with fail
   go_meet
   case rel => exact ⟨i, n, t, d, y, e, m, v, x, R, P, q, ok, rfl, rfl, h, hO, hf, hl, hy, Lib.hid (by rw [← hG.out]; show _ = leftF _ _ 3 (stT _ _ _); unfold stT; simp only [hb, cond_false])⟩
  | true =>
   have C := fun U (_ : Ext w U) => wgettext_w s q 98 U hs (by omega)
   obtain ⟨⟨a, qa, ba⟩, ra⟩ : ∃ r, atI (getTextL 98) [] s.data.toList q = r := ⟨_, rfl⟩
   rw [ra] at C
   simp only at C
   go_wp2_with fail
   refine (C _ h.hE).mono ?_; rintro e_ W1 ⟨rfl, h1⟩
   clear gl g0 g1 g2 g3 g4 g5 C
   replace h := h.ext h1
   have ol := RB.lt h.hb
   have o3 := h.hb.at 3 rfl
   have of3 := h.hb.free 3
   go_wp2_with fail
   go_meet
   case rel => exact ⟨i, n, ⟨a.toArray⟩, d, y, e, m, v, x, R, P, qa, ba, rfl, rfl, h.put [(3, .string ⟨a.toArray⟩)], ⟨hO.k, hO.i, hO.n, hO.d, hO.s, hO.e, hO.p, hO.f⟩, hf, hl, hy, Lib.hid (by rw [← hG.out]; show _ = leftF _ _ 3 (stT _ _ _); unfold stT; simp only [hb, cond_true]; rw [ra])⟩
 clear gl g0 g1 g2 g3 g4 g5 h hO hf hl hy hG
 obtain ⟨i, n, t, d, y, e, m, v, x, R, P, q, ok, rfl, rfl, h, hO, hf, hl, hy, hG⟩ := hcut
 obtain ⟨gl, g0, g1, g2, g3, g4, g5⟩ := h.hc.six
 go_upto_region 12 with fail
 go_cut [64] from 9 (fun r w' => r = .bool (ok && c3) ∧ w' = wc)
 case first => cases ok <;> (go_wp2_with fail; go_meet; case rel => exact ⟨rfl, rfl⟩)
 obtain ⟨rfl, rfl⟩ := hcut
 go_upto_if 64 with fail
 go_cut [5, 6] from 9 (fun u1 u2 W => AtO s.data.toList (c0, c1, c2, c3, c4, c5) 2 G bF 108 [.bool c0, .bool c1, .bool c2, .bool c3, .bool c4, .bool c5] bA 33 w k u1 u2 W)
 case first =>
  cases hb : (ok && c3) with
  | false =>
   go_wp2_with fail
   go_meet
   case rel => exact ⟨i, n, t, d, y, e, m, v, x, R, P, q, ok, rfl, rfl, h, hO, hf, hl, hy, Lib.hid (by rw [← hG.out]; show _ = leftF _ _ 2 (stV _ _ _); unfold stV; simp only [hb, cond_false])⟩
  | true =>
   have C := fun U (_ : Ext w U) => vget_w s q U hs
   have fa := getV_fit (l := s.data.toList) (q := q) hU
   obtain ⟨⟨a, qa, ba⟩, ra⟩ : ∃ r, getV s.data.toList q = r := ⟨_, rfl⟩
   rw [ra] at C fa
   unfold vVal vF at C
   simp only at C fa
   go_wp2_with fail
   refine (C _ h.hE).mono ?_; rintro e_ W1 ⟨rfl, h1⟩
   clear gl g0 g1 g2 g3 g4 g5 C
   replace h := h.ext h1
   have ol := RB.lt h.hb
   have o4 := h.hb.at 4 rfl
   have of4 := h.hb.free 4
   have o5 := h.hb.at 5 rfl
   have of5 := h.hb.free 5
   have o6 := h.hb.at 6 rfl
   have of6 := h.hb.free 6
   have o7 := h.hb.at 7 rfl
   have of7 := h.hb.free 7
   go_wp2_with fail
   go_meet
   case rel => exact ⟨i, n, t, a, y, e, m, v, x, R, P, qa, ba, rfl, rfl, h.put [(4, .int .u64 (vG a 0 : Nat)), (5, .int .u64 (vG a 1 : Nat)), (6, .int .u64 (vG a 2 : Nat)), (7, .int .u64 (vG a 3 : Nat))], ⟨hO.k, hO.i, hO.n, fa, hO.s, hO.e, hO.p, hO.f⟩, hf, hl, hy, Lib.hid (by rw [← hG.out]; show _ = leftF _ _ 2 (stV _ _ _); unfold stV; simp only [hb, cond_true]; rw [ra])⟩
 clear gl g0 g1 g2 g3 g4 g5 h hO hf hl hy hG
 obtain ⟨i, n, t, d, y, e, m, v, x, R, P, q, ok, rfl, rfl, h, hO, hf, hl, hy, hG⟩ := hcut
 obtain ⟨gl, g0, g1, g2, g3, g4, g5⟩ := h.hc.six
 go_upto_if 74 with fail
 go_cut [5, 6] from 9 (fun u1 u2 W => AtO s.data.toList (c0, c1, c2, c3, c4, c5) 1 G bF 108 [.bool c0, .bool c1, .bool c2, .bool c3, .bool c4, .bool c5] bA 33 w k u1 u2 W)
 case first =>
  cases hb : c4 with
  | false =>
   go_wp2_with fail
   go_meet
   case rel => exact ⟨i, n, t, d, y, e, m, v, x, R, P, q, ok, rfl, rfl, h, hO, hf, hl, hy, Lib.hid (by rw [← hG.out]; show _ = leftF _ _ 1 (stX _ _ _); unfold stX; simp only [hb, cond_false])⟩
  | true =>
   have C := fun U (hx : Ext w U) => xgetO_w s q U hs (hv.ext hx)
   have fa := getX_fit (l := s.data.toList) (q := q) hU
   obtain ⟨⟨⟨y1, e1, m1, t1⟩, qa, ba⟩, ra⟩ : ∃ r, getX s.data.toList q = r := ⟨_, rfl⟩
   rw [ra] at C fa
   unfold GotXO spVal at C
   simp only at C fa
   have hbB := RB.lt h.hb
   go_wp2_with fail
   refine (C _ h.hE).mono ?_; rintro e_ W1 ⟨⟨v1, R1, rfl, hT, hfR, hl4, hRT, hxd, hOT⟩, h1⟩
   subst hRT
   obtain ⟨qv, cv, rfl, _, _⟩ := hT.shape
   clear gl g0 g1 g2 g3 g4 g5 C
   replace h := h.ext h1
   replace h := h.terms hT hOT hbB
   have ol := RB.lt h.hb
   have o8 := h.hb.at 8 rfl
   have of8 := h.hb.free 8
   have o9 := h.hb.at 9 rfl
   have of9 := h.hb.free 9
   have o10 := h.hb.at 10 rfl
   have of10 := h.hb.free 10
   have o11 := h.hb.at 11 rfl
   have of11 := h.hb.free 11
   have o12 := h.hb.at 12 rfl
   have of12 := h.hb.free 12
   have o13 := h.hb.at 13 rfl
   have of13 := h.hb.free 13
   have o14 := h.hb.at 14 rfl
   have of14 := h.hb.free 14
   have o15 := h.hb.at 15 rfl
   have of15 := h.hb.free 15
   have o16 := h.hb.at 16 rfl
   have of16 := h.hb.free 16
   go_wp2_with fail
   go_meet
   case rel => exact ⟨i, n, t, d, y1, e1, m1, _, x, R1, P, qa, ba, rfl, rfl, h.put [(8, .string y1), (9, .int .u64 (vG e1 0 : Nat)), (10, .int .u64 (vG e1 1 : Nat)), (11, .int .u64 (vG e1 2 : Nat)), (12, .int .u64 (vG e1 3 : Nat)), (13, .int .i64 m1.1), (14, .int .i64 m1.2.1), (15, .int .i64 m1.2.2), (16, .slice qv R1.length cv)], ⟨hO.k, hO.i, hO.n, hO.d, Nat.lt_of_le_of_lt fa (by decide), hxd, hO.p, hO.f⟩, hfR, hl4, fa, Lib.hid (by rw [← hG.out]; show _ = leftF _ _ 1 (stX _ _ _); unfold stX; simp only [hb, cond_true]; rw [ra])⟩
 clear gl g0 g1 g2 g3 g4 g5 h hO hf hl hy hG
 obtain ⟨i, n, t, d, y, e, m, v, x, R, P, q, ok, rfl, rfl, h, hO, hf, hl, hy, hG⟩ := hcut
 obtain ⟨gl, g0, g1, g2, g3, g4, g5⟩ := h.hc.six
 go_upto_region 16 with fail
 go_cut [87] from 9 (fun r w' => r = .bool (ok && c5) ∧ w' = wc)
 case first => cases ok <;> (go_wp2_with fail; go_meet; case rel => exact ⟨rfl, rfl⟩)
 obtain ⟨rfl, rfl⟩ := hcut
 go_upto_if 87 with fail
 go_cut [5, 6] from 9 (fun u1 u2 W => AtO s.data.toList (c0, c1, c2, c3, c4, c5) 0 G bF 108 [.bool c0, .bool c1, .bool c2, .bool c3, .bool c4, .bool c5] bA 33 w k u1 u2 W)
 case first =>
  cases hb : (ok && c5) with
  | false =>
   go_wp2_with fail
   go_meet
   case rel => exact ⟨i, n, t, d, y, e, m, v, x, R, P, q, ok, rfl, rfl, h, hO, hf, hl, hy, Lib.hid (by rw [← hG.out]; show _ = stL _ _ _; unfold stL; simp only [hb, cond_false]; rfl)⟩
  | true =>
   have C := fun U (hx : Ext w U) => lgetO_w s q U hs (hv.tabs.ext hx)
   have hbB := RB.lt h.hb
   go_wp2_with fail
   refine (C _ h.hE).mono ?_; rintro e_ W1 ⟨x1, P1, qa, ba, rfl, hP, hFP, hl8, ra, hOP, h1⟩
   obtain ⟨ql, cl, rfl, _, _⟩ := hP.shape
   clear gl g0 g1 g2 g3 g4 g5 C
   replace h := h.ext h1
   replace h := h.pairs hP hOP hbB
   have ol := RB.lt h.hb
   have o17 := h.hb.at 17 rfl
   have of17 := h.hb.free 17
   go_wp2_with fail
   go_meet
   case rel => exact ⟨i, n, t, d, y, e, m, v, _, R, P1, qa, ba, rfl, rfl, h.put [(17, .slice ql P1.length cl)], ⟨hO.k, hO.i, hO.n, hO.d, hO.s, hO.e, Nat.le_trans hl8 (by decide), hFP⟩, hf, hl, hy, Lib.hid (by rw [← hG.out]; show _ = stL _ _ _; unfold stL; simp only [hb, cond_true]; rw [ra, unP_lab]; rfl)⟩
 clear gl g0 g1 g2 g3 g4 g5 h hO hf hl hy hG
 obtain ⟨i, n, t, d, y, e, m, v, x, R, P, q, ok, rfl, rfl, h, hO, hf, hl, hy, hG⟩ := hcut
 have hRR : Hid (finO ((k, (i, n), t, d, (y, e, m, R.map rowT), P), q, ok) = RR) := Lib.hid ((congrArg finO (show (((k, (i, n), t, d, (y, e, m, R.map rowT), P), q, ok) : OpQ × Int × Bool) = G from hG.out)).trans hR.out)
 clear hG hR
 have hA := h.hb
 cases ok with
 | false =>
  have hZ := hA.setRow zOp
  go_wp2_with ((refine wpList_store_row (cells := zOp.toArray) rfl 33 _ _ rfl bA rfl rfl _ _ hA (by kernel_rfl) rfl (by first | rfl | decide | simp [Value.oneCell']) ?_); refine Hid.out ?_)
  refine Lib.hid ?_
  repeat go_step
  refine bodyPost_ret (results_row3 (p := 4) (t := 5) (u := 6) rfl _ _ _ _ _ _ _ rfl hZ Tryz.underlying33 rfl (by kernel_rfl)) rfl ?_
  exact ⟨hRR.out ▸ GotO.no _ _ _ (fun h => by cases h.1), Ext.setRow h.hE hwA _⟩
 | true =>
  have CR := aright_w k i n t d y e m v x R P wc hO.k hO.d hO.s hO.e (by omega) hf h.hT hO.p hO.f h.hP (hv.ext h.hE)
  unfold opV at CR
  obtain ⟨qv, cv, rfl, _, _⟩ := h.hT.shape
  obtain ⟨ql, cl, rfl, _, _⟩ := h.hP.shape
  cases hro : rightO (k, (i, n), t, d, (y, e, m, R.map rowT), P) with
  | false =>
   have hg : ∀ U, GotO w.heap.size U RR _ := fun U => hRR.out ▸ GotO.no w.heap.size U (((k, (i, n), t, d, (y, e, m, R.map rowT), P), q, true) : OpQ × Int × Bool) (fun h => by rw [hro] at h; cases h.2)
   rw [hro] at CR
   clear hro
   replace hg := Lib.hid hg
   go_wp2_with (refine wpList_load_row_g (by kernel_rfl) 33 _ rfl bA rfl _ _ _ _ hA Tryz.underlying33 rfl (by kernel_rfl) ?_)
   refine CR.mono ?_; rintro e_ wq ⟨rfl, hq⟩
   clear CR
   replace h := h.ext hq
   have hA := h.hb
   have hZ := hA.setRow zOp
   go_wp2_with ((refine wpList_store_row (cells := zOp.toArray) rfl 33 _ _ rfl bA rfl rfl _ _ hA (by kernel_rfl) rfl (by first | rfl | decide | simp [Value.oneCell']) ?_); refine Hid.out ?_)
   refine Lib.hid ?_
   repeat go_step
   refine bodyPost_ret (results_row3 (p := 4) (t := 5) (u := 6) rfl _ _ _ _ _ _ _ rfl hZ Tryz.underlying33 rfl (by kernel_rfl)) rfl ?_
   exact ⟨hg.out _, Ext.setRow h.hE hwA _⟩
  | true =>
   have hFe : Hid (RR = (((k, (i, n), t, d, (y, e, m, R.map rowT), P), q, true) : OpQ × Int × Bool)) := Lib.hid (by rw [← hRR.out]; unfold finO; rw [if_pos ⟨rfl, hro⟩])
   rw [hro] at CR
   clear hro
   go_wp2_with (refine wpList_load_row_g (by kernel_rfl) 33 _ rfl bA rfl _ _ _ _ hA Tryz.underlying33 rfl (by kernel_rfl) ?_)
   refine CR.mono ?_; rintro e_ wq ⟨rfl, hq⟩
   clear CR
   replace h := h.ext hq
   have hA := h.hb
   have hZ := hA.setRow (cellsO k i n t d y e m (.slice qv R.length cv) (.slice ql P.length cl))
   go_wp2_with (first | (refine wpList_load_row rfl 33 _ rfl bA rfl _ _ _ _ hA Tryz.underlying33 rfl (by kernel_rfl) ?_) | (refine wpList_store_row (cells := (cellsO k i n t d y e m (.slice qv R.length cv) (.slice ql P.length cl)).toArray) rfl 33 _ _ rfl bA rfl rfl _ _ hA (by kernel_rfl) rfl (by first | rfl | decide | simp [Value.oneCell']) ?_; refine Hid.out ?_))
   refine Lib.hid ?_
   repeat go_step
   refine bodyPost_ret (results_row3 (p := 4) (t := 5) (u := 6) rfl _ _ _ _ _ _ _ rfl hZ Tryz.underlying33 rfl (by kernel_rfl)) rfl ?_
   refine ⟨?_, Ext.setRow h.hE hwA _⟩
   rw [hFe.out]
   have hof := (Off.refl bA wq).setRow (cellsO k i n t d y e m (.slice qv R.length cv) (.slice ql P.length cl)).toArray
   exact ⟨.slice qv R.length cv, .slice ql P.length cl, R, rfl, h.hT.off h.oT (Nat.lt_succ_self _) hof, hf, by omega, rfl, h.hP.off h.oL (Nat.lt_succ_self _) hof, hO, h.oT.le (Nat.le_succ_of_le h.le), fun c hc => Nat.le_trans (Nat.le_succ_of_le h.le) (h.oL c hc)⟩
end Go.Proofs.YtefjdmjkofaajaaGreatDoor
namespace Go.Dm
open Go Go.RowKit
def rightsN : List Nat := [0, 1, 1, 4, 2, 2, 2, 2, 2]
def needsK (k : Int) : Nat := if k < 0 then 0 else rightsN.getD k.toNat 0
def KindAt (V : Value) (k : Int) : Prop := ∃ v1 v2 v3 v4 v5 v6 v7 v8 v9 v10 v11 v12 v13 v14 v15 v16 v17 : Value, V = .agg #[.int .i64 k, v1, v2, v3, v4, v5, v6, v7, v8, v9, v10, v11, v12, v13, v14, v15, v16, v17]
def needsV (k : Int) : Value := .tuple #[.int .u64 (needsK k : Nat), .bool (decide (needsK k ≠ 0))]
theorem needsK_out {k : Int} (h : k < 0 ∨ 9 ≤ k) : needsK k = 0 := by
 unfold needsK
 by_cases h0 : k < 0
 ·rw [if_pos h0]
 ·rw [if_neg h0, List.getD_eq_getElem?_getD, List.getElem?_eq_none (by show 9 ≤ k.toNat; omega)]; rfl
end Go.Dm
namespace Go.Proofs.YtefjdmjkofaajaaGreatDoor
open Go.RowKit Go.Dm
structure GateV (w : World) : Prop where
 lt : 0 < w.heap.size
 at_ : ∀ {k : Nat}, k < 9 → w.cell? ⟨0, k, none⟩ = some (.int .u64 (rightsN.getD k 0 : Nat))
theorem GateV.ext {w w' : World} (h : GateV w) (hx : Ext w w') : GateV w' :=
 ⟨Nat.lt_of_lt_of_le h.lt hx.size, fun hk => by rw [hx.cell (by exact h.lt)]; exact h.at_ hk⟩
set_option maxHeartbeats 2000000 in
set_option maxRecDepth 100000 in
theorem needs_w (k : Int) (V : Value) (w : World) (hV : KindAt V k) (hg : GateV w) :
  Calls Tryz.prog 13 #[V] w fun e w' => e = .returned (needsV k) ∧ Ext w w' := by
 obtain ⟨v1, v2, v3, v4, v5, v6, v7, v8, v9, v10, v11, v12, v13, v14, v15, v16, v17, rfl⟩ := hV
 have hA : RB w.heap.size 33 [.int .i64 k, v1, v2, v3, v4, v5, v6, v7, v8, v9, v10, v11, v12, v13, v14, v15, v16, v17] (w.alloc (.cells #[.int .i64 k, v1, v2, v3, v4, v5, v6, v7, v8, v9, v10, v11, v12, v13, v14, v15, v16, v17] 33)) := RB.new w 33 [.int .i64 k, v1, v2, v3, v4, v5, v6, v7, v8, v9, v10, v11, v12, v13, v14, v15, v16, v17]
 have hE : Ext w (w.alloc (.cells #[.int .i64 k, v1, v2, v3, v4, v5, v6, v7, v8, v9, v10, v11, v12, v13, v14, v15, v16, v17] 33)) := (Ext.refl _).alloc _
 replace hg := hg.ext hE
 generalize hW1 : w.alloc (.cells #[.int .i64 k, v1, v2, v3, v4, v5, v6, v7, v8, v9, v10, v11, v12, v13, v14, v15, v16, v17] 33) = w1 at *
 obtain ⟨bA, hbA⟩ : ∃ x, w.heap.size = x := ⟨_, rfl⟩
 rw [hbA] at hA
 have al := hA.lt
 have a0 : w1.cell? ⟨bA, 0, none⟩ = some (.int .i64 k) := hA.cell 0
 have gl := hg.lt
 unfold needsV
 by_cases h0 : k < 0
 ·rw [needsK_out (Or.inl h0)]
  go_enter Tryz.func13, Tryz.ntmps13
  go_wp2
  refine bodyPost_ret (results_tmp2 rfl _ _ _) rfl ?_
  exact ⟨rfl, hE⟩
 ·by_cases h9 : 9 ≤ k
  ·rw [needsK_out (Or.inr h9)]
   go_enter Tryz.func13, Tryz.ntmps13
   go_wp2
   refine bodyPost_ret (results_tmp2 rfl _ _ _) rfl ?_
   exact ⟨rfl, hE⟩
  ·obtain ⟨j, rfl⟩ : ∃ j : Nat, k = (j : Int) := ⟨k.toNat, by omega⟩
   have hj : j < 9 := by omega
   have hc := hg.at_ hj
   have hn : needsK (j : Int) = rightsN.getD j 0 := by unfold needsK; rw [if_neg h0]; rfl
   rw [hn]
   generalize rightsN.getD j 0 = c at *
   clear hn
   by_cases hc0 : c = 0
   ·subst hc0
    go_enter Tryz.func13, Tryz.ntmps13
    go_wp2
    refine bodyPost_ret (results_tmp2 rfl _ _ _) rfl ?_
    exact ⟨rfl, hE⟩
   ·have hci : ¬ ((c : Int) = 0) := by omega
    go_enter Tryz.func13, Tryz.ntmps13
    go_wp2
    refine bodyPost_ret (results_tmp2 rfl _ _ _) rfl ?_
    exact ⟨by simp [hc0], hE⟩
end Go.Proofs.YtefjdmjkofaajaaGreatDoor
