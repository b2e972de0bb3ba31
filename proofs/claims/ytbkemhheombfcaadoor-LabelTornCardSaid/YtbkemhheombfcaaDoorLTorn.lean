/- LabelTorn, walked: of what is put no beginning is got; nor what stands a byte further on. -/
import Derived.Test.YtbkemhheombfcaaDoorLTornL
namespace Go.Proofs.YtbkemhheombfcaaDoor
open Go.RowKit Go.Dm

set_option maxHeartbeats 4000000 in
set_option maxRecDepth 100000 in
theorem labelTorn_w (zs : List Int) (c : Nat) (v : Value) (w : World) (hz : ∀ z ∈ zs, 0 ≤ z ∧ z ≤ 255) (hc : c ≤ 255) (hx0 : Nums w .u8 v zs) (ht : Vars w) :
    Calls Tryd.prog 8 #[v, .int .u8 c] w fun e w' => e = .returned (.bool true) ∧ Ext w w' := by
  obtain ⟨qz, capz, rfl, _, _⟩ := hx0.shape
  have hR := made_right4 zs hz
  have hF := made_fit zs hz
  have h8 := madeP_len zs
  have CM := fun w1 (e1 : Ext w w1) => lmade_w zs _ w1 hz (hx0.ext e1)
  generalize madeP zs = l at *
  obtain ⟨n1, n2⟩ := putLab_short hR
  have T1 := fun m hm => getLab_torn hR (m := m) hm
  have T2 := getLabI_zero hR (rest := [0]) (u64_of (by simp; omega))
  have CP := fun w1 v1 (e1 : Ext w w1) (hp : Pairs w1 v1 l) => lput_w l v1 w1 (by omega) hF hp (ht.tabs.ext e1)
  obtain ⟨S, hS⟩ : ∃ S : ByteArray, S = ⟨(putLab (labL l)).toArray⟩ := ⟨_, rfl⟩
  have hSd : S.data.toList = putLab (labL l) := by rw [hS]
  have hSs : S.size = (putLab (labL l)).length := by rw [← hSd]; rfl
  rw [← hS] at CP
  rw [← hSd] at T1 T2
  rw [← hSs] at n1 n2
  have hSe : S.toList.isEmpty = false := by
    rw [ByteArray.toList_eq, List.isEmpty_eq_false_iff]
    intro e
    have e2 : S.data.toList.length = S.size := rfl
    rw [e, List.length_nil] at e2
    omega
  have hre : c % S.size < S.size := Nat.mod_lt _ (by omega)
  replace CM := Lib.hid CM
  replace CP := Lib.hid CP
  replace T1 := Lib.hid T1
  replace T2 := Lib.hid T2
  replace hSd := Lib.hid hSd
  replace hSs := Lib.hid hSs
  clear hz hx0 hS hR
  go_enter Tryd.func8, Tryd.ntmps8
  go_wp2_with fail
  refine (lexamples_w w ht).mono ?_; rintro e w1 ⟨rfl, e1⟩
  go_wp2_with fail
  refine (CM.out w1 e1).mono ?_; rintro e w2 ⟨r2, rfl, hx, h2⟩
  have e2 := e1.trans h2
  clear CM
  obtain ⟨q, cap, rfl, hcap, hcm⟩ := hx.shape
  go_wp2_with fail
  refine (CP.out w2 _ e2 hx).mono ?_; rintro e w3 ⟨rfl, h3⟩
  have e3 := e2.trans h3
  have hx3 := hx.ext h3
  clear CP
  go_wp2_with fail
  refine (lget_w (S.extract 0 (S.size - 1 - c % S.size)) 0 w3 (by rw [ByteArray.size_extract]; omega) (ht.tabs.ext e3)).mono ?_
  rintro e w4 ⟨r4, l4, n4, b4, rfl, hx4, hF4, h84, hG4, h4⟩
  have hb4 : b4 = false := by
    have := T1.out (S.size - 1 - c % S.size) (by show _ < S.size; omega)
    rw [Lib.extract_data, List.drop_zero, Nat.sub_zero] at hG4
    rw [hG4] at this
    exact this
  subst hb4
  have e4 := e3.trans h4
  clear hG4 hx4 hF4 h84
  go_wp2_with fail
  refine (lget_w S (S.size : Int) w4 (by omega) (ht.tabs.ext e4)).mono ?_
  rintro e w5 ⟨r5, l5, n5, b5, rfl, hx5, hF5, h85, hG5, h5⟩
  have hb5 : b5 = false := getI_end (Or.inr (Int.le_refl (S.size : Int))) hG5
  subst hb5
  have e5 := e4.trans h5
  clear hG5 hx5 hF5 h85
  go_wp2_with fail
  refine (lget_w S (-1) w5 (by omega) (ht.tabs.ext e5)).mono ?_
  rintro e w6 ⟨r6, l6, n6, b6, rfl, hx6, hF6, h86, hG6, h6⟩
  have hb6 : b6 = false := getI_end (Or.inl (by omega)) hG6
  subst hb6
  have e6 := e5.trans h6
  clear hG6 hx6 hF6 h86
  go_wp2_with fail
  obtain ⟨T, hT⟩ : ∃ T : ByteArray, T = S ++ ⟨#[0]⟩ := ⟨_, rfl⟩
  rw [← hT]
  have hTs := size_zero hT
  have hTd := data_zero hT
  clear hT
  refine (lget_w T 0 w6 (by rw [hTs]; omega) (ht.tabs.ext e6)).mono ?_
  rintro e w7 ⟨r7, l7, n7, b7, rfl, hx7, hF7, h87, hG7, h7⟩
  have e7 := e6.trans h7
  rw [hTd] at hG7
  have hG8 := hG7.symm.trans T2.out
  clear hG7 hTs hTd
  injection hG8 with g1 g2
  injection g2 with g2 g3
  subst g2 g3
  have g4 := labL_inj g1
  subst g4
  clear g1
  have CS := same_w l7 l7 r7 _ w7 (by omega) hx7 (hx3.ext (((h4.trans h5).trans h6).trans h7))
  rw [decide_eq_true rfl] at CS
  go_wp2_with fail
  refine CS.mono ?_; rintro e w8 ⟨rfl, h8⟩
  go_wp2
  go_ret
  exact ⟨rfl, e7.trans h8⟩

theorem labelTorn_t (zs : List Int) (c : Int) (v : Value) (w : World) (hz : ∀ z ∈ zs, 0 ≤ z ∧ z ≤ 255) (_hm : zs.length ≤ 140737488355328) (hx0 : Nums w .u8 v zs) (hc : 0 ≤ c ∧ c ≤ 255) (ht : Vars w) :
    Calls Tryd.prog 8 #[v, .int .u8 c] w fun e w' => e = .returned (.bool true) ∧ Ext w w' := by
  obtain ⟨n, rfl⟩ : ∃ n : Nat, c = (n : Int) := ⟨c.toNat, by omega⟩
  exact labelTorn_w zs n v w hz (by omega) hx0 ht

end Go.Proofs.YtbkemhheombfcaaDoor
