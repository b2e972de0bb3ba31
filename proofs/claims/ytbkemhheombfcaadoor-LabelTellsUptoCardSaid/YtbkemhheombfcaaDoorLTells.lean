/- LabelTells, walked: of any labels, any key, bytes, text all is told as the chapter says. -/
import Derived.Test.YtbkemhheombfcaaDoorMRefD
import Derived.Test.YtbkemhheombfcaaDoorMRefE
import Derived.Test.YtbkemhheombfcaaDoorLRight
namespace Go.Proofs.YtbkemhheombfcaaDoor
open Go.RowKit Go.Dm

theorem samel_true (l : List PairS) (v v2 : Value) (w : World) (hl : l.length ≤ 35184372088832) (hx : Pairs w v l) (hy : Pairs w v2 l) :
    Calls Tryd.prog 28 #[v, v2] w fun e w' => e = .returned (.bool true) ∧ Ext w w' := by
  have := samel_w l l v v2 w hl hx hy
  rw [decide_eq_true rfl] at this
  exact this

set_option maxHeartbeats 4000000 in
set_option maxRecDepth 100000 in
theorem labelTells_w (l : List PairS) (key s : ByteArray) (p : Int) (t : ByteArray) (v : Value) (w : World) (hm : l.length ≤ 1048576 ∧ FitP l) (hx : Pairs w v l)
    (_hk : key.size ≤ 1048576) (hs : s.size ≤ 1048576) (hts : t.size ≤ 1048576) (ht : Vars w) :
    Calls Tryd.prog 5 #[v, .string key, .string s, .int .i64 p, .string t] w fun e w' => e = .returned (.bool true) ∧ Ext w w' := by
  obtain ⟨q, cap, rfl, hcap, hcm⟩ := hx.shape
  obtain ⟨hm, hF⟩ := hm
  obtain ⟨F, hFF⟩ : ∃ F, F = findB l key := ⟨_, rfl⟩
  have CF := fun v w1 (h : Pairs w1 v l) => find_w l key v w1 (by omega) h
  have CM := fun v w1 (h : Pairs w1 v l) => mfind_w l key v w1 (by omega) h
  rw [← hFF] at CF CM
  obtain ⟨F1, F2⟩ := F
  simp only at CF CM
  clear hFF
  obtain ⟨R, hR⟩ : ∃ R, R = rightLab (labL l) := ⟨_, rfl⟩
  have CR := fun v w1 (e1 : Ext w w1) (h : Pairs w1 v l) => lright_w l v w1 (by omega) hF h (ht.tabs.ext e1)
  have CR' := fun v w1 (h : Pairs w1 v l) => mright_w l v w1 hF h
  rw [← hR] at CR CR'
  obtain ⟨A, hA⟩ : ∃ A : ByteArray, A = ⟨(putLab (labL l)).toArray⟩ := ⟨_, rfl⟩
  have CP := fun v w1 (e1 : Ext w w1) (h : Pairs w1 v l) => lput_w l v w1 (by omega) hF h (ht.tabs.ext e1)
  have CP' := fun v w1 (h : Pairs w1 v l) => mput_w l v w1 hF h
  rw [← hA] at CP CP'
  obtain ⟨B, hB⟩ : ∃ A : ByteArray, A = ⟨(textLab (labL l)).toArray⟩ := ⟨_, rfl⟩
  have CT := fun v w1 (e1 : Ext w w1) (h : Pairs w1 v l) => ltext_w l v w1 (by omega) hF h (ht.tabs.ext e1)
  have CT' := fun v w1 (h : Pairs w1 v l) => mtext_w l v w1 hF h
  rw [← hB] at CT CT'
  clear hR hA hB hF
  replace CF := Lib.hid CF
  replace CM := Lib.hid CM
  replace CR := Lib.hid CR
  replace CR' := Lib.hid CR'
  replace CP := Lib.hid CP
  replace CP' := Lib.hid CP'
  replace CT := Lib.hid CT
  replace CT' := Lib.hid CT'
  go_enter Tryd.func5, Tryd.ntmps5
  go_wp2_with fail
  refine (lexamples_w w ht).mono ?_; rintro e w1 ⟨rfl, e1⟩
  go_wp2_with fail
  refine (refl_w l _ w1 (by omega) (hx.ext e1)).mono ?_; rintro e w2 ⟨r2, rfl, hr, h2⟩
  have e2 := e1.trans h2
  obtain ⟨qr, capr, rfl, hcr, hmr⟩ := hr.shape
  have x2 := hx.ext e2
  clear hx
  go_wp2_with fail
  refine (CF.out _ w2 x2).mono ?_; rintro e w3 ⟨rfl, h3⟩
  have e3 := e2.trans h3
  go_wp2_with fail
  refine (CM.out _ w3 (hr.ext h3)).mono ?_; rintro e w4 ⟨rfl, h4⟩
  have e4 := e3.trans h4
  clear CF CM
  go_wp2_with fail
  refine (lget_w s p w4 (by omega) (ht.tabs.ext e4)).mono ?_
  rintro e w5 ⟨r5, l5, n5, b5, rfl, hx5, hF5, h85, hG5, h5⟩
  have e5 := e4.trans h5
  go_wp2_with fail
  refine (mget_w s p w5 (by omega)).mono ?_
  rintro e w6 ⟨r6, l6, n6, b6, rfl, hx6, hG6, h6⟩
  have e6 := e5.trans h6
  rw [hG5] at hG6
  injection hG6 with g1 g2
  injection g2 with g2 g3
  subst g2 g3
  have g4 := labL_inj g1
  subst g4
  clear hG5 g1 hF5
  go_wp2_with fail
  refine (lparse_w t w6 (by omega) (ht.ext e6)).mono ?_
  rintro e w7 ⟨r7, l7, b7, rfl, hx7, hP7, hF7, h87, h7⟩
  have e7 := e6.trans h7
  go_wp2_with fail
  refine (mparse_w t w7 hts).mono ?_
  rintro e w8 ⟨r8, l8, b8, rfl, hx8, hP8, h8⟩
  have e8 := e7.trans h8
  rw [← hP7] at hP8
  injection hP8 with g1 g2
  subst g2
  have g4 := labL_inj g1
  subst g4
  clear hP7 g1 hF7
  have x8 : Pairs w8 _ l := (((((x2.ext h3).ext h4).ext h5).ext h6).ext h7).ext h8
  have y8 : Pairs w8 _ l := (((((hr.ext h3).ext h4).ext h5).ext h6).ext h7).ext h8
  have p8 := ((hx5.ext h6).ext h7).ext h8
  have q8 := (hx6.ext h7).ext h8
  have r8 := hx7.ext h8
  clear x2 hr hx5 hx6 hx7
  go_wp2_with fail
  refine (samel_true _ _ _ w8 (by omega) p8 q8).mono ?_; rintro e w9 ⟨rfl, h9⟩
  have e9 := e8.trans h9
  go_wp2_with fail
  refine (samel_true _ _ _ w9 (by omega) (r8.ext h9) (hx8.ext h9)).mono ?_; rintro e w10 ⟨rfl, h10⟩
  have e10 := e9.trans h10
  have x10 := (x8.ext h9).ext h10
  have y10 := (y8.ext h9).ext h10
  clear p8 q8 r8 hx8 x8 y8
  go_wp2_with fail
  refine (CR.out _ w10 e10 x10).mono ?_; rintro e w11 ⟨rfl, h11⟩
  have e11 := e10.trans h11
  go_wp2_with fail
  refine (CR'.out _ w11 (y10.ext h11)).mono ?_; rintro e w12 ⟨rfl, h12⟩
  have e12 := e11.trans h12
  have H12 := h11.trans h12
  clear CR CR'
  go_wp2_with fail
  refine (CP.out _ w12 e12 (x10.ext H12)).mono ?_; rintro e w13 ⟨rfl, h13⟩
  have e13 := e12.trans h13
  have H13 := H12.trans h13
  go_wp2_with fail
  refine (CP'.out _ w13 (y10.ext H13)).mono ?_; rintro e w14 ⟨rfl, h14⟩
  have e14 := e13.trans h14
  have H14 := H13.trans h14
  clear CP CP'
  go_wp2_with fail
  refine (CT.out _ w14 e14 (x10.ext H14)).mono ?_; rintro e w15 ⟨rfl, h15⟩
  have e15 := e14.trans h15
  have H15 := H14.trans h15
  go_wp2_with fail
  refine (CT'.out _ w15 (y10.ext H15)).mono ?_; rintro e w16 ⟨rfl, h16⟩
  go_wp2
  go_ret
  exact ⟨rfl, e15.trans h16⟩

end Go.Proofs.YtbkemhheombfcaaDoor
