/- Texts of the base. -/

import Derived.Test.YtefjdmjkofaajaaGreatDoorT23
import Derived.Test.YtefjdmjkofaajaaGreatDoorT7
import Derived.Test.YtefjdmjkofaajaaGreatDoorT24
import Derived.Test.YtefjdmjkofaajaaGreatDoorT29
import Derived.Deep.Cut
namespace Go.Proofs.YtefjdmjkofaajaaGreatDoor
open Go.RowKit Go.Dm
set_option maxHeartbeats 8000000 in
set_option maxRecDepth 100000 in
theorem rgetxO_w (s : ByteArray) (p : Int) (w : World) (hs : s.size ≤ 281474976710656) :
  Calls Tryz.prog 89 #[.string s, .int .i64 p] w fun e w' => GotXO w.heap.size w' (getX s.data.toList p) e ∧ Ext w w' := by
 have hU : U64 s.data.toList.length := Nat.lt_of_le_of_lt (show s.size ≤ _ from hs) (by decide)
 have C1 := fun U => rgettext_w s p 98 U hs (by omega)
 obtain ⟨⟨t, q1, b1⟩, r1⟩ : ∃ r, atI (getTextL 98) [] s.data.toList p = r := ⟨_, rfl⟩
 have C2 := fun U => r03get_w s q1 U hs
 obtain ⟨⟨d, q2, b2⟩, r2⟩ : ∃ r, getV s.data.toList q1 = r := ⟨_, rfl⟩
 have C3 := fun U => rget_w s q2 U hs
 obtain ⟨⟨c, q3, b3⟩, r3⟩ : ∃ r, getI s.data.toList q2 = r := ⟨_, rfl⟩
 have C4 := fun U => rget_w s q3 U hs
 obtain ⟨⟨m, q4, b4⟩, r4⟩ : ∃ r, getI s.data.toList q3 = r := ⟨_, rfl⟩
 have C5 := fun U => rget_w s q4 U hs
 obtain ⟨⟨k, q5, b5⟩, r5⟩ : ∃ r, getI s.data.toList q4 = r := ⟨_, rfl⟩
 have C6 := fun U => smgetO_w s q5 U hs
 obtain ⟨⟨T6, q6, b6⟩, r6⟩ : ∃ r, atI getSelL [] s.data.toList q5 = r := ⟨_, rfl⟩
 rw [r1] at C1
 rw [r2] at C2
 rw [r3] at C3
 rw [r4] at C4
 rw [r5] at C5
 rw [r6] at C6
 obtain ⟨tb, htb⟩ : ∃ tb : ByteArray, tb = ⟨t.toArray⟩ := ⟨_, rfl⟩
 have e1 : getX s.data.toList p = if b1 = false then (noSp, 0, false) else if b2 = false then (noSp, 0, false) else if b3 = false ∨ 100 < c then (noSp, 0, false) else if b4 = false ∨ 100 < m then (noSp, 0, false) else if b5 = false ∨ 100 < k then (noSp, 0, false) else if b6 = false then (noSp, 0, false) else if chkX (tb, d, ((c : Int), (m : Int), (k : Int)), T6.map mkT) = 0 then ((tb, d, ((c : Int), (m : Int), (k : Int)), T6.map mkT), q6, true) else (noSp, 0, false) := by
  unfold getX
  rw [r1]
  unfold getX2
  rw [r2]
  unfold getX3
  rw [r3]
  unfold getX4
  rw [r4]
  unfold getX5
  rw [r5]
  unfold getX6
  rw [r6, htb]
 have hT : b1 = true → tb.size ≤ 98 := fun hb => by
  subst hb
  have := ((text_iff hU).1 r1).1
  rw [htb]
  show t.toArray.size ≤ 98
  rw [List.size_toArray]; exact this
 have hD : b2 = true → OkV d := fun hb => by
  subst hb
  exact ((getV_iff hU).1 r2).1
 have hc8 : chkX (tb, d, ((c : Int), (m : Int), (k : Int)), T6.map mkT) = 0 → c ≤ 8 ∧ m ≤ 9 ∧ k ≤ 100 := fun h => by
  have := inNum_iff.1 (chkX_iff.1 h).2.1
  simp only at this
  omega
 simp only at C1 C2 C3 C4 C5 C6
 rw [← htb] at C1
 generalize getX s.data.toList p = G at *
 unfold vVal vF at C2
 clear r1 r2 r3 r4 r5 r6 hU htb
 obtain ⟨D, hDe⟩ : ∃ D, vG d = D := ⟨_, rfl⟩
 rw [hDe] at C2
 replace C1 := Lib.hid C1
 replace C2 := Lib.hid C2
 replace C3 := Lib.hid C3
 replace C4 := Lib.hid C4
 replace C5 := Lib.hid C5
 replace C6 := Lib.hid C6
 replace e1 := Lib.hid e1
 replace hT := Lib.hid hT
 replace hD := Lib.hid hD
 replace hDe := Lib.hid hDe
 replace hc8 := Lib.hid hc8
 have hB : CB w.heap.size [.string ⟨#[]⟩, .int .u64 0, .int .u64 0, .int .u64 0, .int .u64 0, .int .i64 0, .int .i64 0, .int .i64 0, .slice none 0 0] (w.alloc (.cells #[.string ⟨#[]⟩, .int .u64 0, .int .u64 0, .int .u64 0, .int .u64 0, .int .i64 0, .int .i64 0, .int .i64 0, .slice none 0 0] 42)) := CB.new w #[.string ⟨#[]⟩, .int .u64 0, .int .u64 0, .int .u64 0, .int .u64 0, .int .i64 0, .int .i64 0, .int .i64 0, .slice none 0 0] 42
 have hE : Ext w (w.alloc (.cells #[.string ⟨#[]⟩, .int .u64 0, .int .u64 0, .int .u64 0, .int .u64 0, .int .i64 0, .int .i64 0, .int .i64 0, .slice none 0 0] 42)) := (Ext.refl _).alloc _
 go_enter Tryz.func89, Tryz.ntmps89
 go_wp2_with fail
 refine (C1.out _).mono ?_; rintro e w1 ⟨rfl, h1⟩
 replace hB := hB.ext h1
 replace hE := hE.trans h1
 clear h1
 cases b1 with
 | false =>
  obtain rfl : G = (noSp, 0, false) := by rw [e1.out, if_pos rfl]
  obtain ⟨xl, x0, x1, x2, x3, x4, x5, x6, x7, x8, xf0, xf1, xf2, xf3, xf4, xf5, xf6, xf7, xf8⟩ := hB.cells9
  go_wp2
  clear xl x0 xf0 x1 xf1 x2 xf2 x3 xf3 x4 xf4 x5 xf5 x6 xf6 x7 xf7 x8 xf8
  have hz := hB.put9 (.string ⟨#[]⟩) (.int .u64 0) (.int .u64 0) (.int .u64 0) (.int .u64 0) (.int .i64 0) (.int .i64 0) (.int .i64 0) (.slice none 0 0)
  obtain ⟨_, k0, k1, k2, k3, k4, k5, k6, k7, k8, _, _, _, _, _, _, _, _, _⟩ := hz.cells9
  refine bodyPost_ret (v := .tuple #[.agg #[.string ⟨#[]⟩, .int .u64 0, .int .u64 0, .int .u64 0, .int .u64 0, .int .i64 0, .int .i64 0, .int .i64 0, .slice none 0 0], .int .i64 0, .bool false]) (by simp [results, Tryz.results89, go_sem, k0, k1, k2, k3, k4, k5, k6, k7, k8]) rfl ?_
  exact ⟨GotXO.no _ _, Ext.cput9 hE (b := w.heap.size) (Nat.le_refl _) _ _ _ _ _ _ _ _ _⟩
 | true =>
  have hts := hT.out (by trivial)
  go_wp2_with fail
  refine (C2.out _).mono ?_; rintro e w3 ⟨rfl, h3⟩
  replace hB := hB.ext h3
  replace hE := hE.trans h3
  have ee := (Ext.refl w3).alloc (.cells #[.int .u64 (D 0 : Nat), .int .u64 (D 1 : Nat), .int .u64 (D 2 : Nat), .int .u64 (D 3 : Nat)] 39)
  have bV := VBox.new w3 D 39
  replace hB := hB.ext ee
  replace hE := hE.trans ee
  clear h3 ee
  cases b2 with
  | false =>
   obtain rfl : G = (noSp, 0, false) := by rw [e1.out, if_neg (by simp), if_pos rfl]
   go_upto_region 6 with fail
   generalize w3.alloc (.cells #[.int .u64 (D 0 : Nat), .int .u64 (D 1 : Nat), .int .u64 (D 2 : Nat), .int .u64 (D 3 : Nat)] 39) = w4 at *
   obtain ⟨xl, x0, x1, x2, x3, x4, x5, x6, x7, x8, xf0, xf1, xf2, xf3, xf4, xf5, xf6, xf7, xf8⟩ := hB.cells9
   go_wp2
   clear xl x0 xf0 x1 xf1 x2 xf2 x3 xf3 x4 xf4 x5 xf5 x6 xf6 x7 xf7 x8 xf8
   have hz := hB.put9 (.string ⟨#[]⟩) (.int .u64 0) (.int .u64 0) (.int .u64 0) (.int .u64 0) (.int .i64 0) (.int .i64 0) (.int .i64 0) (.slice none 0 0)
   obtain ⟨_, k0, k1, k2, k3, k4, k5, k6, k7, k8, _, _, _, _, _, _, _, _, _⟩ := hz.cells9
   refine bodyPost_ret (v := .tuple #[.agg #[.string ⟨#[]⟩, .int .u64 0, .int .u64 0, .int .u64 0, .int .u64 0, .int .i64 0, .int .i64 0, .int .i64 0, .slice none 0 0], .int .i64 0, .bool false]) (by simp [results, Tryz.results89, go_sem, k0, k1, k2, k3, k4, k5, k6, k7, k8]) rfl ?_
   exact ⟨GotXO.no _ _, Ext.cput9 hE (b := w.heap.size) (Nat.le_refl _) _ _ _ _ _ _ _ _ _⟩
  | true =>
   have hdo := hD.out (by trivial)
   go_wp2_with fail
   generalize hw4 : w3.alloc (.cells #[.int .u64 (D 0 : Nat), .int .u64 (D 1 : Nat), .int .u64 (D 2 : Nat), .int .u64 (D 3 : Nat)] 39) = w4 at *
   generalize hbv : w3.heap.size = bv at *
   clear hw4 hbv
   refine (C3.out _).mono ?_; rintro e w5 ⟨rfl, h5⟩
   go_wp2_with fail
   refine (C4.out _).mono ?_; rintro e w6 ⟨rfl, h6⟩
   go_wp2_with fail
   refine (C5.out _).mono ?_; rintro e w7 ⟨rfl, h7⟩
   go_wp2_with fail
   refine (C6.out _).mono ?_; rintro e w8 ⟨r, R, n, bb, rfl, hx, hf, hl, ⟨T, hRT, hTe⟩, hown, h8⟩
   injection hTe with ea eb
   injection eb with eb ec
   subst ea eb ec
   obtain ⟨qr, cr, rfl, _, _⟩ := hx.shape
   have h58 := ((h5.trans h6).trans h7)
   have hlB := (hB.ext h58).lt
   replace hB := hB.ext (h58.trans h8)
   replace hE := hE.trans (h58.trans h8)
   replace bV := bV.ext (h58.trans h8)
   clear h5 h6 h7 h8 h58 C1 C2 C3 C4 C5 C6
   obtain ⟨bad, hbad⟩ : ∃ bad : Bool, bad = (!b3 || !b4 || !b5 || !b6 || decide (8 < c) || decide (9 < m) || decide (100 < k)) := ⟨_, rfl⟩
   replace hbad := Lib.hid hbad
   replace hRT := Lib.hid hRT
   go_upto_region 11 with fail
   go_cut [98] from 25 (fun r w' => r = .bool bad ∧ w' = w8)
   case first =>
    cases b3 with
    | false => go_wp2; go_meet; case rel => exact ⟨by rw [hbad.out]; simp, rfl⟩
    | true =>
     cases b4 with
     | false => go_wp2; go_meet; case rel => exact ⟨by rw [hbad.out]; simp, rfl⟩
     | true =>
      cases b5 with
      | false => go_wp2; go_meet; case rel => exact ⟨by rw [hbad.out]; simp, rfl⟩
      | true =>
       cases b6 with
       | false => go_wp2; go_meet; case rel => exact ⟨by rw [hbad.out]; simp, rfl⟩
       | true =>
        by_cases a1 : 8 < c
        ·have a1i : (8 : Int) < (c : Int) := by omega
         go_wp2; go_meet; case rel => exact ⟨by rw [hbad.out]; simp [a1], rfl⟩
        ·have a1i : ¬ (8 : Int) < (c : Int) := by omega
         by_cases a2 : 9 < m
         ·have a2i : (9 : Int) < (m : Int) := by omega
          go_wp2; go_meet; case rel => exact ⟨by rw [hbad.out]; simp [a2], rfl⟩
         ·have a2i : ¬ (9 : Int) < (m : Int) := by omega
          by_cases a3 : 100 < k
          ·have a3i : (100 : Int) < (k : Int) := by omega
           go_wp2; go_meet; case rel => exact ⟨by rw [hbad.out]; simp [a3], rfl⟩
          ·have a3i : ¬ (100 : Int) < (k : Int) := by omega
           go_wp2; go_meet; case rel => exact ⟨by rw [hbad.out]; simp [a1, a2, a3], rfl⟩
   case rest =>
    obtain ⟨rfl, hwc⟩ := hcut
    rw [hwc]
    clear hwc wc
    cases bad with
    | true =>
     obtain rfl : G = (noSp, 0, false) := by
      have hb := hbad.out
      rw [e1.out, if_neg (by simp), if_neg (by simp)]
      by_cases g3 : b3 = false ∨ 100 < c
      ·rw [if_pos g3]
      ·rw [if_neg g3]
       by_cases g4 : b4 = false ∨ 100 < m
       ·rw [if_pos g4]
       ·rw [if_neg g4]
        by_cases g5 : b5 = false ∨ 100 < k
        ·rw [if_pos g5]
        ·rw [if_neg g5]
         by_cases g6 : b6 = false
         ·rw [if_pos g6]
         ·rw [if_neg g6, if_neg]
          intro h
          have := hc8.out h
          simp only [not_or, Bool.not_eq_false] at g3 g4 g5 g6
          rw [g3.1, g4.1, g5.1, g6] at hb
          simp at hb
          omega
     obtain ⟨xl, x0, x1, x2, x3, x4, x5, x6, x7, x8, xf0, xf1, xf2, xf3, xf4, xf5, xf6, xf7, xf8⟩ := hB.cells9
     go_wp2
     clear xl x0 xf0 x1 xf1 x2 xf2 x3 xf3 x4 xf4 x5 xf5 x6 xf6 x7 xf7 x8 xf8
     have hz := hB.put9 (.string ⟨#[]⟩) (.int .u64 0) (.int .u64 0) (.int .u64 0) (.int .u64 0) (.int .i64 0) (.int .i64 0) (.int .i64 0) (.slice none 0 0)
     obtain ⟨_, k0, k1, k2, k3, k4, k5, k6, k7, k8, _, _, _, _, _, _, _, _, _⟩ := hz.cells9
     refine bodyPost_ret (v := .tuple #[.agg #[.string ⟨#[]⟩, .int .u64 0, .int .u64 0, .int .u64 0, .int .u64 0, .int .i64 0, .int .i64 0, .int .i64 0, .slice none 0 0], .int .i64 0, .bool false]) (by simp [results, Tryz.results89, go_sem, k0, k1, k2, k3, k4, k5, k6, k7, k8]) rfl ?_
     exact ⟨GotXO.no _ _, Ext.cput9 hE (b := w.heap.size) (Nat.le_refl _) _ _ _ _ _ _ _ _ _⟩
    | false =>
     have hb := hbad.out
     simp only [Bool.false_eq, Bool.or_eq_false_iff, Bool.not_eq_false', decide_eq_false_iff_not] at hb
     obtain ⟨⟨⟨⟨⟨⟨g3, g4⟩, g5⟩, g6⟩, g7⟩, g8⟩, g9⟩ := hb
     have hG : G = if chkX (tb, d, ((c : Int), (m : Int), (k : Int)), R.map rowT) = 0 then ((tb, d, ((c : Int), (m : Int), (k : Int)), R.map rowT), q6, true) else (noSp, 0, false) := by
      rw [e1.out, if_neg (by simp), if_neg (by simp), if_neg (by rw [g3]; simp; omega), if_neg (by rw [g4]; simp; omega), if_neg (by rw [g5]; simp; omega), if_neg (by rw [g6]; simp), hRT.out]
     have hc9 : c ≤ 8 := by omega
     have hm9 : m ≤ 9 := by omega
     have hk9 : k ≤ 100 := by omega
     clear g3 g4 g5 g6 g7 g8 g9 hRT e1 hbad hc8
     have CK := fun v U (h : Ext w8 U) (hy : Terms U v R) => rcheck_w tb d ((c : Int), (m : Int), (k : Int)) v R U (by omega) hdo hf hy
     have CK := CK (.slice qr R.length cr)
     unfold spVal at CK
     rw [hDe.out] at CK
     simp only at CK
     have bX := XBox.new w8 tb D ((c : Int), (m : Int), (k : Int)) (.slice qr R.length cr) 42
     simp only at bX
     have ee := (Ext.refl w8).alloc (.cells #[.string tb, .int .u64 (D 0 : Nat), .int .u64 (D 1 : Nat), .int .u64 (D 2 : Nat), .int .u64 (D 3 : Nat), .int .i64 (c : Nat), .int .i64 (m : Nat), .int .i64 (k : Nat), .slice qr R.length cr] 42)
     have hx2 := hx.ext ee
     have CK2 := fun U (h : Ext (w8.alloc (.cells #[.string tb, .int .u64 (D 0 : Nat), .int .u64 (D 1 : Nat), .int .u64 (D 2 : Nat), .int .u64 (D 3 : Nat), .int .i64 (c : Nat), .int .i64 (m : Nat), .int .i64 (k : Nat), .slice qr R.length cr] 42)) U) => CK U (ee.trans h) (hx2.ext h)
     replace CK2 := Lib.hid CK2
     replace hG := Lib.hid hG
     clear CK
     have hlw := hE.size
     replace hB := hB.ext ee
     replace hE := hE.trans ee
     clear ee
     obtain ⟨_, y0, y1, y2, y3, _, _, _, _⟩ := bV.four
     go_upto_region 14 with fail
     generalize hw9 : w8.alloc (.cells #[.string tb, .int .u64 (D 0 : Nat), .int .u64 (D 1 : Nat), .int .u64 (D 2 : Nat), .int .u64 (D 3 : Nat), .int .i64 (c : Nat), .int .i64 (m : Nat), .int .i64 (k : Nat), .slice qr R.length cr] 42) = w9 at *
     generalize hb8 : w8.heap.size = b8 at *
     clear y0 y1 y2 y3
     obtain ⟨xl, x0, x1, x2, x3, x4, x5, x6, x7, x8⟩ := bX.cells
     go_wp2_with fail
     clear xl x0 x1 x2 x3 x4 x5 x6 x7 x8
     refine (CK2.out _ (Ext.refl _)).mono ?_; rintro e wa ⟨rfl, ha⟩
     replace hB := hB.ext ha
     replace hE := hE.trans ha
     replace bX := bX.ext ha
     replace hx2 := hx2.ext ha
     clear ha hw9 CK2
     by_cases hk : chkX (tb, d, ((c : Int), (m : Int), (k : Int)), R.map rowT) = 0
     ·obtain rfl := (hG.out.trans (if_pos hk))
      rw [hk]
      obtain ⟨xl, x0, x1, x2, x3, x4, x5, x6, x7, x8⟩ := bX.cells
      obtain ⟨rl, r0, r1, r2, r3, r4, r5, r6, r7, r8, rf0, rf1, rf2, rf3, rf4, rf5, rf6, rf7, rf8⟩ := hB.cells9
      go_wp2
      clear xl x0 x1 x2 x3 x4 x5 x6 x7 x8
      clear rl r0 rf0 r1 rf1 r2 rf2 r3 rf3 r4 rf4 r5 rf5 r6 rf6 r7 rf7 r8 rf8
      have hz := hB.put9 (.string tb) (.int .u64 (D 0 : Nat)) (.int .u64 (D 1 : Nat)) (.int .u64 (D 2 : Nat)) (.int .u64 (D 3 : Nat)) (.int .i64 (c : Nat)) (.int .i64 (m : Nat)) (.int .i64 (k : Nat)) (.slice qr R.length cr)
      obtain ⟨_, k0, k1, k2, k3, k4, k5, k6, k7, k8, _, _, _, _, _, _, _, _, _⟩ := hz.cells9
      refine bodyPost_ret (v := .tuple #[.agg #[.string tb, .int .u64 (D 0 : Nat), .int .u64 (D 1 : Nat), .int .u64 (D 2 : Nat), .int .u64 (D 3 : Nat), .int .i64 (c : Nat), .int .i64 (m : Nat), .int .i64 (k : Nat), .slice qr R.length cr], .int .i64 q6, .bool true]) (by simp [results, Tryz.results89, go_sem, k0, k1, k2, k3, k4, k5, k6, k7, k8]) rfl ?_
      refine ⟨⟨.slice qr R.length cr, R, by rw [hDe.out]; rfl, ?_, hf, hl, rfl, hdo, hown.le (Nat.le_of_lt hlB)⟩, Ext.cput9 hE (b := w.heap.size) (Nat.le_refl _) _ _ _ _ _ _ _ _ _⟩
      exact ((((((((hx2.set hown hlB _).set hown hlB _).set hown hlB _).set hown hlB _).set hown hlB _).set hown hlB _).set hown hlB _).set hown hlB _).set hown hlB _
     ·obtain rfl := (hG.out.trans (if_neg hk))
      generalize chkX (tb, d, ((c : Int), (m : Int), (k : Int)), R.map rowT) = K at *
      have hKb : ((K : Int) != 0) = true := by simp; omega
      have hKi : ¬ ((K : Int) = 0) := by omega
      obtain ⟨xl, x0, x1, x2, x3, x4, x5, x6, x7, x8, xf0, xf1, xf2, xf3, xf4, xf5, xf6, xf7, xf8⟩ := hB.cells9
      go_wp2
      clear xl x0 xf0 x1 xf1 x2 xf2 x3 xf3 x4 xf4 x5 xf5 x6 xf6 x7 xf7 x8 xf8
      have hz := hB.put9 (.string ⟨#[]⟩) (.int .u64 0) (.int .u64 0) (.int .u64 0) (.int .u64 0) (.int .i64 0) (.int .i64 0) (.int .i64 0) (.slice none 0 0)
      obtain ⟨_, k0, k1, k2, k3, k4, k5, k6, k7, k8, _, _, _, _, _, _, _, _, _⟩ := hz.cells9
      refine bodyPost_ret (v := .tuple #[.agg #[.string ⟨#[]⟩, .int .u64 0, .int .u64 0, .int .u64 0, .int .u64 0, .int .i64 0, .int .i64 0, .int .i64 0, .slice none 0 0], .int .i64 0, .bool false]) (by simp [results, Tryz.results89, go_sem, k0, k1, k2, k3, k4, k5, k6, k7, k8]) rfl ?_
      exact ⟨GotXO.no _ _, Ext.cput9 hE (b := w.heap.size) (Nat.le_refl _) _ _ _ _ _ _ _ _ _⟩
end Go.Proofs.YtefjdmjkofaajaaGreatDoor
