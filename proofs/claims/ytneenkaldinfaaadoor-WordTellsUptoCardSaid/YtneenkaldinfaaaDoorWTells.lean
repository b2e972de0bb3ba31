/- WordTells, walked: of any texts all is told as the chapter says. -/
import Derived.Test.YtneenkaldinfaaaDoorRWalkC
import Derived.Test.YtneenkaldinfaaaDoorWWalkE
namespace Go.Proofs.YtneenkaldinfaaaDoor
open Go.RowKit Go.Dm

theorem texts_same {w : World} {u v : Value} {L : List Bs} (h : Texts w u L) (h' : Texts w v L) : ∃ ss, Strs w u ss ∧ Strs w v ss ∧ ss.length = L.length := by
  obtain ⟨a, h1, h2⟩ := h
  obtain ⟨b, h3, h4⟩ := h'
  obtain rfl : a = b := bytesOf_inj (h2.trans h4.symm)
  exact ⟨a, h1, h3, by rw [← h2, bytesOf_len]⟩

set_option maxHeartbeats 4000000 in
set_option maxRecDepth 100000 in
theorem tells_w (a b : ByteArray) (w : World) (ha : a.size ≤ 1048576) (hb : b.size ≤ 1048576) (ht : Vars w) :
    Calls Tryd.prog 3 #[.string a, .string b] w fun e w' => e = .returned (.bool true) ∧ Ext w w' := by
  have hp3 := partsL_three a.data.toList
  have hu3 : (upsL a.data.toList).length ≤ 3 := by rw [upsL_len]; exact hp3
  go_enter Tryd.func3, Tryd.ntmps3
  go_wp2_with fail
  refine (examples_w w ht).mono ?_; rintro e w1 ⟨rfl, e1⟩
  go_wp2_with fail
  refine (right_w a w1 (by omega) (ht.tabs.ext e1)).mono ?_; rintro e w2 ⟨rfl, h2⟩
  have e2 := e1.trans h2
  go_wp2_with fail
  refine (rright_w a w2 (by omega)).mono ?_; rintro e w3 ⟨rfl, h3⟩
  have e3 := e2.trans h3
  go_wp2_with fail
  refine (count_w a w3 (by omega)).mono ?_; rintro e w4 ⟨rfl, h4⟩
  have e4 := e3.trans h4
  go_wp2_with fail
  refine (rcount_w a w4 (by omega)).mono ?_; rintro e w5 ⟨rfl, h5⟩
  have e5 := e4.trans h5
  go_wp2_with fail
  refine (parts_w a w5 (by omega) (ht.ext e5)).mono ?_; rintro e w6 ⟨r6, rfl, hx6, h6⟩
  have e6 := e5.trans h6
  go_wp2_with fail
  refine (rparts_w a w6 (by omega)).mono ?_; rintro e w7 ⟨r7, rfl, hx7, h7⟩
  have e7 := e6.trans h7
  obtain ⟨ss, hs1, hs2, hsl⟩ := texts_same (hx6.ext h7) hx7
  have C := same_w ss ss r6 r7 w7 (by omega) hs1 hs2
  rw [decide_eq_true rfl] at C
  clear hx6 hx7 hs1 hs2 hsl
  go_wp2_with fail
  refine C.mono ?_; rintro e w8 ⟨rfl, h8⟩
  clear C
  have e8 := e7.trans h8
  go_wp2_with fail
  refine (ups_w a w8 (by omega) (ht.ext e8)).mono ?_; rintro e w9 ⟨r9, rfl, hx9, h9⟩
  have e9 := e8.trans h9
  go_wp2_with fail
  refine (rups_w a w9 ha).mono ?_; rintro e w10 ⟨r10, rfl, hx10, h10⟩
  have e10 := e9.trans h10
  obtain ⟨ss', hs1, hs2, hsl⟩ := texts_same (hx9.ext h10) hx10
  have C := same_w ss' ss' r9 r10 w10 (by omega) hs1 hs2
  rw [decide_eq_true rfl] at C
  clear hx9 hx10 hs1 hs2 hsl
  go_wp2_with fail
  refine C.mono ?_; rintro e w11 ⟨rfl, h11⟩
  clear C
  have e11 := e10.trans h11
  go_wp2_with fail
  refine (under_w a b w11 (by omega) (ht.ext e11)).mono ?_; rintro e w12 ⟨rfl, h12⟩
  have e12 := e11.trans h12
  go_wp2_with fail
  refine (runder_w a b w12 hb).mono ?_; rintro e w13 ⟨rfl, h13⟩
  go_wp2
  go_ret
  exact ⟨rfl, e12.trans h13⟩

end Go.Proofs.YtneenkaldinfaaaDoor
