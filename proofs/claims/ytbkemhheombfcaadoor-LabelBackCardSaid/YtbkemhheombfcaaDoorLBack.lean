/- LabelBack, walked: what is put of labels that are right is got where it stands, what is shown is parsed; two are put and shown alike just if they are the same. -/
import Derived.Test.YtbkemhheombfcaaDoorLBackL
namespace Go.Dm
open Go Go.RowKit
theorem four_size {a b c d S : ByteArray} (h : S = ((a ++ b) ++ c) ++ d) : S.size = a.size + b.size + c.size + d.size := by
  subst h; simp only [ByteArray.size_append]
theorem four_data {a b c d S : ByteArray} (h : S = ((a ++ b) ++ c) ++ d) : S.data.toList = ((a.data.toList ++ b.data.toList) ++ c.data.toList) ++ d.data.toList := by
  subst h; simp only [data_append]
theorem text_same {A B : ByteArray} {L M : Bs} (hA : A.data.toList = L) (hB : B.data.toList = M) : (A.toList == B.toList) = decide (L = M) := by
  rw [ByteArray.toList_eq, ByteArray.toList_eq, hA, hB, Bool.eq_iff_iff, beq_iff_eq, decide_eq_true_eq]
end Go.Dm
namespace Go.Proofs.YtbkemhheombfcaaDoor
open Go.RowKit Go.Dm

theorem same_true (l : List PairS) (v v2 : Value) (w : World) (hl : l.length ≤ 35184372088832) (hx : Pairs w v l) (hy : Pairs w v2 l) :
    Calls Tryd.prog 32 #[v, v2] w fun e w' => e = .returned (.bool true) ∧ Ext w w' := by
  have := same_w l l v v2 w hl hx hy
  rw [decide_eq_true rfl] at this
  exact this

set_option maxHeartbeats 4000000 in
set_option maxRecDepth 100000 in
theorem labelBack_w (zs ys : List Int) (ahead behind : ByteArray) (v u : Value) (w : World) (hz : ∀ z ∈ zs, 0 ≤ z ∧ z ≤ 255) (_hm : zs.length ≤ 140737488355328) (hx0 : Nums w .u8 v zs)
    (hz' : ∀ z ∈ ys, 0 ≤ z ∧ z ≤ 255) (_hm' : ys.length ≤ 140737488355328) (hy0 : Nums w .u8 u ys) (ha : ahead.size ≤ 140737488351232) (hb : behind.size ≤ 140737488351232) (ht : Vars w) :
    Calls Tryd.prog 6 #[v, u, .string ahead, .string behind] w fun e w' => e = .returned (.bool true) ∧ Ext w w' := by
  obtain ⟨qz, capz, rfl, _, _⟩ := hx0.shape
  obtain ⟨qy, capy, rfl, _, _⟩ := hy0.shape
  have hR := made_right4 zs hz
  have hF := made_fit zs hz
  have CM := fun w1 (e1 : Ext w w1) => lmade_w zs _ w1 hz (hx0.ext e1)
  have hR' := made_right4 ys hz'
  have hF' := made_fit ys hz'
  have CM' := fun w1 (e1 : Ext w w1) => lmade_w ys _ w1 hz' (hy0.ext e1)
  have h8l := madeP_len zs
  have h8m := madeP_len ys
  generalize madeP zs = l at *
  generalize madeP ys = m at *
  obtain ⟨n1, n2⟩ := putLab_short hR
  obtain ⟨n3, n4⟩ := putLab_short hR'
  have n5 := textLab_short hR
  have CP := fun w1 v1 (e1 : Ext w w1) (hp : Pairs w1 v1 l) => lput_w l v1 w1 (by omega) hF hp (ht.tabs.ext e1)
  have CP' := fun w1 v1 (e1 : Ext w w1) (hp : Pairs w1 v1 m) => lput_w m v1 w1 (by omega) hF' hp (ht.tabs.ext e1)
  have CT := fun w1 v1 (e1 : Ext w w1) (hp : Pairs w1 v1 l) => ltext_w l v1 w1 (by omega) hF hp (ht.tabs.ext e1)
  have CT' := fun w1 v1 (e1 : Ext w w1) (hp : Pairs w1 v1 m) => ltext_w m v1 w1 (by omega) hF' hp (ht.tabs.ext e1)
  have CR := fun w1 v1 (e1 : Ext w w1) (hp : Pairs w1 v1 l) => lright_w l v1 w1 (by omega) hF hp (ht.tabs.ext e1)
  rw [hR] at CR
  obtain ⟨S, hS⟩ : ∃ S : ByteArray, S = ⟨(putLab (labL l)).toArray⟩ := ⟨_, rfl⟩
  obtain ⟨S', hS'⟩ : ∃ S : ByteArray, S = ⟨(putLab (labL m)).toArray⟩ := ⟨_, rfl⟩
  obtain ⟨T, hT⟩ : ∃ S : ByteArray, S = ⟨(textLab (labL l)).toArray⟩ := ⟨_, rfl⟩
  obtain ⟨T', hT'⟩ : ∃ S : ByteArray, S = ⟨(textLab (labL m)).toArray⟩ := ⟨_, rfl⟩
  rw [← hS] at CP
  rw [← hS'] at CP'
  rw [← hT] at CT
  rw [← hT'] at CT'
  have hSd : S.data.toList = putLab (labL l) := by rw [hS]
  have hSd' : S'.data.toList = putLab (labL m) := by rw [hS']
  have hTd : T.data.toList = textLab (labL l) := by rw [hT]
  have hTd' : T'.data.toList = textLab (labL m) := by rw [hT']
  have hSs : S.size = (putLab (labL l)).length := by rw [← hSd]; rfl
  have hSs' : S'.size = (putLab (labL m)).length := by rw [← hSd']; rfl
  have hTs : T.size = (textLab (labL l)).length := by rw [← hTd]; rfl
  have E1 : (S.toList == S'.toList) = decide (l = m) := by
    rw [text_same hSd hSd']
    exact decide_eq_decide.2 ⟨fun h => labL_inj (put_inj hR hR' h), fun h => by rw [h]⟩
  have E2 : (T.toList == T'.toList) = decide (l = m) := by
    rw [text_same hTd hTd']
    exact decide_eq_decide.2 ⟨fun h => labL_inj (text_inj hR hR' h), fun h => by rw [h]⟩
  have HG1 : ∀ X : ByteArray, X = ((ahead ++ S) ++ S') ++ behind → atI getLabL [] X.data.toList (ahead.size : Int) = (labL l, (ahead.size : Int) + (S.size : Int), true) := fun X hX => by
    have h := four_data hX
    rw [hSd, hSd'] at h
    rw [hSs]
    exact back_one hR hR' h ha hb
  have HG2 : ∀ X : ByteArray, X = ((ahead ++ S) ++ S') ++ behind → atI getLabL [] X.data.toList ((ahead.size : Int) + (S.size : Int)) = (labL m, ((ahead.size : Int) + (S.size : Int)) + (S'.size : Int), true) := fun X hX => by
    have h := four_data hX
    rw [hSd, hSd'] at h
    rw [hSs, hSs']
    exact back_two hR hR' h ha hb
  have HP : parseLab T.data.toList = (labL l, true) := by rw [hTd]; exact parse_text hR
  rw [← hSs] at n1 n2
  rw [← hSs'] at n3 n4
  rw [← hTs] at n5
  have CS := fun w1 v1 v2 (hp : Pairs w1 v1 l) (hq : Pairs w1 v2 m) => same_w l m v1 v2 w1 (by omega) hp hq
  have CI := fun (k : List PairS) (h : k.length ≤ 8) w1 v1 v2 (hp : Pairs w1 v1 k) (hq : Pairs w1 v2 k) => same_true k v1 v2 w1 (by omega) hp hq
  generalize hd : decide (l = m) = d at *
  clear hd hSd hSd' hTd hTd' hSs hSs' hTs hS hS' hT hT' hR hR' hz hz' hx0 hy0
  replace CM := Lib.hid CM
  replace CM' := Lib.hid CM'
  replace CP := Lib.hid CP
  replace CP' := Lib.hid CP'
  replace CT := Lib.hid CT
  replace CT' := Lib.hid CT'
  replace CR := Lib.hid CR
  replace CS := Lib.hid CS
  replace CI := Lib.hid CI
  replace HG1 := Lib.hid HG1
  replace HG2 := Lib.hid HG2
  replace HP := Lib.hid HP
  go_enter Tryd.func6, Tryd.ntmps6
  go_wp2_with fail
  refine (lexamples_w w ht).mono ?_; rintro e w1 ⟨rfl, e1⟩
  go_wp2_with fail
  refine (CM.out w1 e1).mono ?_; rintro e w2 ⟨r2, rfl, hx, h2⟩
  have e2 := e1.trans h2
  clear CM
  obtain ⟨q, cap, rfl, hcap, hcm⟩ := hx.shape
  go_wp2_with fail
  refine (CM'.out w2 e2).mono ?_; rintro e w3 ⟨r3, rfl, hy, h3⟩
  have e3 := e2.trans h3
  have hx3 := hx.ext h3
  clear CM' hx
  obtain ⟨q', cap', rfl, hcap', hcm'⟩ := hy.shape
  go_wp2_with fail
  refine (CP.out w3 _ e3 hx3).mono ?_; rintro e w4 ⟨rfl, h4⟩
  have e4 := e3.trans h4
  go_wp2_with fail
  refine (CP'.out w4 _ e4 (hy.ext h4)).mono ?_; rintro e w5 ⟨rfl, h5⟩
  have e5 := e4.trans h5
  have x5 := hx3.ext (h4.trans h5)
  have y5 := hy.ext (h4.trans h5)
  clear hx3 hy
  go_wp2_with fail
  obtain ⟨X, hX⟩ : ∃ X : ByteArray, X = ((ahead ++ S) ++ S') ++ behind := ⟨_, rfl⟩
  rw [← hX]
  have G1 := HG1.out X hX
  have G2 := HG2.out X hX
  have hXs := four_size hX
  have hXl : X.size ≤ ahead.size + S.size + S'.size + behind.size := by omega
  have hXg : ahead.size + S.size + S'.size + behind.size ≤ X.size := by omega
  clear hX HG1 HG2 hXs
  refine (lget_w X (ahead.size : Int) w5 (by omega) (ht.tabs.ext e5)).mono ?_
  rintro e w6 ⟨r6, l6, n6, b6, rfl, hx6, hF6, h86, hG6, h6⟩
  have e6 := e5.trans h6
  rw [G1] at hG6
  injection hG6 with g1 g2
  injection g2 with g2 g3
  subst g2 g3
  have g4 := labL_inj g1.symm
  subst g4
  clear g1 G1 hF6 h86
  go_wp2_with fail
  refine (lget_w X ((ahead.size : Int) + (S.size : Int)) w6 (by omega) (ht.tabs.ext e6)).mono ?_
  rintro e w7 ⟨r7, l7, n7, b7, rfl, hx7, hF7, h87, hG7, h7⟩
  have e7 := e6.trans h7
  rw [G2] at hG7
  injection hG7 with g1 g2
  injection g2 with g2 g3
  subst g3
  have g4 := labL_inj g1.symm
  subst g4
  have hq : (n7 == (X.size : Int) - (behind.size : Int)) = true := by rw [beq_iff_eq]; omega
  replace g2 := Lib.hid g2
  clear g1 G2 hF7 h87
  go_wp2_with fail
  refine (CT.out w7 _ e7 ((x5.ext h6).ext h7)).mono ?_; rintro e w8 ⟨rfl, h8⟩
  have e8 := e7.trans h8
  go_wp2_with fail
  refine (lparse_w T w8 (by omega) (ht.ext e8)).mono ?_; rintro e w9 ⟨r9, l9, b9, rfl, hx9, hP9, hF9, h89, h9⟩
  have e9 := e8.trans h9
  rw [HP.out] at hP9
  injection hP9 with g1 g3
  subst g3
  have g4 := labL_inj g1
  subst g4
  clear g1 HP hF9 h89
  have x9 := ((x5.ext h6).ext h7).ext (h8.trans h9)
  have y9 := ((y5.ext h6).ext h7).ext (h8.trans h9)
  have hx69 := (hx6.ext h7).ext (h8.trans h9)
  have hx79 := hx7.ext (h8.trans h9)
  clear x5 y5 hx6 hx7
  go_wp2_with fail
  refine (CS.out w9 _ _ x9 y9).mono ?_; rintro e w10 ⟨rfl, h10⟩
  have e10 := e9.trans h10
  go_wp2_with fail
  refine (CR.out w10 _ e10 (x9.ext h10)).mono ?_; rintro e w11 ⟨rfl, h11⟩
  have e11 := e10.trans h11
  have H11 := h10.trans h11
  go_wp2_with fail
  refine (CI.out _ h8l w11 _ _ (hx69.ext H11) (x9.ext H11)).mono ?_; rintro e w12 ⟨rfl, h12⟩
  have e12 := e11.trans h12
  have H12 := H11.trans h12
  go_wp2_with fail
  refine (CI.out _ h8m w12 _ _ (hx79.ext H12) (y9.ext H12)).mono ?_; rintro e w13 ⟨rfl, h13⟩
  have e13 := e12.trans h13
  have H13 := H12.trans h13
  go_wp2_with fail
  refine (CI.out _ h8l w13 _ _ (hx9.ext H13) (x9.ext H13)).mono ?_; rintro e w14 ⟨rfl, h14⟩
  have e14 := e13.trans h14
  have H14 := H13.trans h14
  go_wp2_with fail
  refine (CP.out w14 _ e14 (x9.ext H14)).mono ?_; rintro e w15 ⟨rfl, h15⟩
  have e15 := e14.trans h15
  have H15 := H14.trans h15
  go_wp2_with fail
  refine (CP'.out w15 _ e15 (y9.ext H15)).mono ?_; rintro e w16 ⟨rfl, h16⟩
  have e16 := e15.trans h16
  have H16 := H15.trans h16
  go_wp2_with fail
  refine (CT.out w16 _ e16 (x9.ext H16)).mono ?_; rintro e w17 ⟨rfl, h17⟩
  have e17 := e16.trans h17
  have H17 := H16.trans h17
  go_wp2_with fail
  refine (CT'.out w17 _ e17 (y9.ext H17)).mono ?_; rintro e w18 ⟨rfl, h18⟩
  go_wp2
  go_ret
  exact ⟨rfl, e17.trans h18⟩
end Go.Proofs.YtbkemhheombfcaaDoor
