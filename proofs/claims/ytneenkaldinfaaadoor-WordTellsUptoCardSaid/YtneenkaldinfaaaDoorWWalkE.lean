/- Chapter 2: the walk of the laws' examples. -/
import Derived.Test.YtneenkaldinfaaaDoorWWalkD
namespace Go.Proofs.YtneenkaldinfaaaDoor
open Go.RowKit Go.Dm

theorem bytesOf_inj : ∀ {xs ys : List ByteArray}, bytesOf xs = bytesOf ys → xs = ys
  | [], [], _ => rfl
  | ⟨a⟩ :: xs, ⟨b⟩ :: ys, h => by
    simp only [bytesOf, List.map_cons, List.cons.injEq] at h
    have := bytesOf_inj (xs := xs) (ys := ys) h.2
    rw [Array.toList_inj.1 h.1, this]

set_option maxHeartbeats 4000000 in
set_option maxRecDepth 100000 in
theorem examples_w (w : World) (ht : Vars w) :
    Calls Tryd.prog 9 #[] w fun e w' => e = .returned (.bool true) ∧ Ext w w' := by
  have U1 : Hid (upsL [97, 47, 98] = [[97], [97, 47, 98]]) := by show _ = _; decide +kernel
  have P1 : Hid (partsL [116, 101, 97, 109, 47, 120, 45, 50] = [[116, 101, 97, 109], [120, 45, 50]]) := by show _ = _; decide +kernel
  go_enter Tryd.func9, Tryd.ntmps9
  go_wp2_with fail
  refine (ups_w _ w (by decide) ht).mono ?_; rintro e w1 ⟨r1, rfl, ⟨ss, hx, hP⟩, hb1⟩
  rw [show upsL (⟨#[97, 47, 98]⟩ : ByteArray).data.toList = [[97], [97, 47, 98]] from U1.out] at hP
  obtain rfl : ss = [⟨#[97]⟩, ⟨#[97, 47, 98]⟩] := by
    exact bytesOf_inj hP
  go_wp2_with fail
  refine (parts_w _ w1 (by decide) (ht.ext hb1)).mono ?_; rintro e w2 ⟨r2, rfl, ⟨ss2, hx2, hP2⟩, hb2⟩
  rw [show partsL (⟨#[116, 101, 97, 109, 47, 120, 45, 50]⟩ : ByteArray).data.toList = [[116, 101, 97, 109], [120, 45, 50]] from P1.out] at hP2
  obtain rfl : ss2 = [⟨#[116, 101, 97, 109]⟩, ⟨#[120, 45, 50]⟩] := by
    exact bytesOf_inj hP2
  clear hP hP2
  have hx := hx.ext hb2
  obtain ⟨q, cap, rfl, hcap, hcm⟩ := hx.shape
  obtain ⟨q2, cap2, rfl, hcap2, hcm2⟩ := hx2.shape
  obtain ⟨b, off, rfl, hbl, c0⟩ := hx.at (k := 0) (by decide)
  have c1 := (hx.cells (k := 1) (by decide)).2
  obtain ⟨b2, off2, rfl, hbl2, d0⟩ := hx2.at (k := 0) (by decide)
  have d1 := (hx2.cells (k := 1) (by decide)).2
  have hb := hb1.trans hb2
  simp only [strAt, List.getD_cons_zero, List.getD_cons_succ, Nat.add_zero] at c0 c1 d0 d1
  clear hcap hcap2 hcm hcm2
  go_wp2_with fail
  refine (right_w ⟨#[206, 177, 206, 178]⟩ w2 (by decide) (ht.tabs.ext hb)).mono ?_; rintro e w3 ⟨rfl, h3⟩
  have e3 := hb.trans h3
  rw [show rightL (⟨#[206, 177, 206, 178]⟩ : ByteArray).data.toList = true by decide +kernel]
  go_wp2_with fail
  refine (right_w ⟨#[208, 180, 208, 190, 208, 188]⟩ w3 (by decide) (ht.tabs.ext e3)).mono ?_; rintro e w4 ⟨rfl, h4⟩
  have e4 := e3.trans h4
  rw [show rightL (⟨#[208, 180, 208, 190, 208, 188]⟩ : ByteArray).data.toList = true by decide +kernel]
  go_wp2_with fail
  refine (right_w ⟨#[50, 97]⟩ w4 (by decide) (ht.tabs.ext e4)).mono ?_; rintro e w5 ⟨rfl, h5⟩
  have e5 := e4.trans h5
  rw [show rightL (⟨#[50, 97]⟩ : ByteArray).data.toList = false by decide +kernel]
  go_wp2_with fail
  refine (right_w ⟨#[]⟩ w5 (by decide) (ht.tabs.ext e5)).mono ?_; rintro e w6 ⟨rfl, h6⟩
  have e6 := e5.trans h6
  rw [show rightL (⟨#[]⟩ : ByteArray).data.toList = false by decide +kernel]
  go_wp2_with fail
  refine (right_w ⟨#[65]⟩ w6 (by decide) (ht.tabs.ext e6)).mono ?_; rintro e w7 ⟨rfl, h7⟩
  have e7 := e6.trans h7
  rw [show rightL (⟨#[65]⟩ : ByteArray).data.toList = false by decide +kernel]
  go_wp2_with fail
  refine (right_w ⟨#[97, 98, 99, 100, 101, 102, 103, 104, 105, 106, 107, 108, 109, 110, 111, 112]⟩ w7 (by decide) (ht.tabs.ext e7)).mono ?_; rintro e w8 ⟨rfl, h8⟩
  have e8 := e7.trans h8
  rw [show rightL (⟨#[97, 98, 99, 100, 101, 102, 103, 104, 105, 106, 107, 108, 109, 110, 111, 112]⟩ : ByteArray).data.toList = true by decide +kernel]
  go_wp2_with fail
  refine (right_w ⟨#[97, 98, 99, 100, 101, 102, 103, 104, 105, 106, 107, 108, 109, 110, 111, 112, 113]⟩ w8 (by decide) (ht.tabs.ext e8)).mono ?_; rintro e w9 ⟨rfl, h9⟩
  have e9 := e8.trans h9
  rw [show rightL (⟨#[97, 98, 99, 100, 101, 102, 103, 104, 105, 106, 107, 108, 109, 110, 111, 112, 113]⟩ : ByteArray).data.toList = false by decide +kernel]
  go_wp2_with fail
  refine (count_w ⟨#[206, 177, 206, 178, 255]⟩ w9 (by decide)).mono ?_; rintro e w10 ⟨rfl, h10⟩
  have e10 := e9.trans h10
  rw [show countL (⟨#[206, 177, 206, 178, 255]⟩ : ByteArray).data.toList = 3 by decide +kernel]
  go_wp2_with fail
  refine (under_w ⟨#[97]⟩ ⟨#[97, 47, 98]⟩ w10 (by decide) (ht.ext e10)).mono ?_; rintro e w11 ⟨rfl, h11⟩
  have e11 := e10.trans h11
  rw [show underL (⟨#[97]⟩ : ByteArray).data.toList (⟨#[97, 47, 98]⟩ : ByteArray).data.toList = true by decide +kernel]
  go_wp2_with fail
  refine (under_w ⟨#[97, 47, 98]⟩ ⟨#[97]⟩ w11 (by decide) (ht.ext e11)).mono ?_; rintro e w12 ⟨rfl, h12⟩
  have e12 := e11.trans h12
  rw [show underL (⟨#[97, 47, 98]⟩ : ByteArray).data.toList (⟨#[97]⟩ : ByteArray).data.toList = false by decide +kernel]
  go_wp2_with fail
  refine (parts_w ⟨#[97, 47, 98, 47, 99, 47, 100]⟩ w12 (by decide) (ht.ext e12)).mono ?_; rintro e w13 ⟨r3, rfl, ⟨ss3, hx3, hP3⟩, h13⟩
  have e13 := e12.trans h13
  rw [show partsL (⟨#[97, 47, 98, 47, 99, 47, 100]⟩ : ByteArray).data.toList = [] by decide +kernel] at hP3
  obtain rfl : ss3 = [] := bytesOf_inj hP3
  obtain ⟨q3, cap3, rfl, _, _⟩ := hx3.shape
  go_wp2
  go_ret
  exact ⟨rfl, e13⟩

end Go.Proofs.YtneenkaldinfaaaDoor
