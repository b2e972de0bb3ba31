/- WordNames holds: what is made of letters, digits and dashes, and begins with a letter, is a name. The tables lie as the program's text lays them (the card ties them); no other condition. -/
import Derived.Test.YtneenkaldinfaaaDoorWWalkE
import Derived.Test.YtneenkaldinfaaaDoorWLaws
namespace Go.Proofs.YtneenkaldinfaaaDoor
open Go.RowKit Go.Dm

set_option maxHeartbeats 4000000 in
set_option maxRecDepth 100000 in
theorem names_w (zs : List Int) (v : Value) (w : World) (hz : ∀ z ∈ zs, 0 ≤ z ∧ z ≤ 255) (hm : zs.length ≤ 140737488355328) (hx : Nums w .u8 v zs) (ht : Vars w) :
    Calls Tryd.prog 4 #[v] w fun e w' => e = .returned (.bool true) ∧ Ext w w' := by
  obtain ⟨q, cap, rfl, hcap, hcm⟩ := hx.shape
  have h0 : ∀ z ∈ zs, 0 ≤ z := fun z h => (hz z h).1
  go_enter Tryd.func4, Tryd.ntmps4
  go_wp2_with fail
  refine (examples_w w ht).mono ?_; rintro e w1 ⟨rfl, e1⟩
  go_wp2_with fail
  refine (made_w zs _ _ hz hm (hx.ext e1)).mono ?_; rintro e w2 ⟨_, rfl, ⟨s, rfl, hs⟩, h2⟩
  have e2 := e1.trans h2
  have hsl : s.size ≤ 31 := by rw [size_len, hs]; exact madeL_len zs
  have hR := made_right zs h0
  have hN : ((madeN zs : Int) == 1 + min (zs.length : Int) 15) = true := by
    rw [beq_iff_eq]; unfold madeN; omega
  have hlt : (1 + min (zs.length : Int) 15 < 16) ↔ madeN zs < 16 := by unfold madeN; omega
  have b1 : rightL ((⟨#[48]⟩ : ByteArray) ++ s).data.toList = false := by rw [data_append]; exact ahead_bad (a := 48) _ (by decide) (by decide)
  have b2 : rightL ((⟨#[45]⟩ : ByteArray) ++ s).data.toList = false := by rw [data_append]; exact ahead_bad (a := 45) _ (by decide) (by decide)
  have b3 : rightL (s ++ (⟨#[32]⟩ : ByteArray)).data.toList = false := by rw [data_append, hs]; exact made_bad zs h0 (by decide)
  have b4 : rightL (s ++ (⟨#[65]⟩ : ByteArray)).data.toList = false := by rw [data_append, hs]; exact made_bad zs h0 (by decide)
  have b5 : rightL (s ++ (⟨#[47]⟩ : ByteArray)).data.toList = false := by rw [data_append, hs]; exact made_bad zs h0 (by decide)
  have b6 : rightL (s ++ (⟨#[122]⟩ : ByteArray)).data.toList = decide (madeN zs < 16) := by rw [data_append, hs]; exact made_z zs h0
  have B := Lib.hid (And.intro b1 (And.intro b2 (And.intro b3 (And.intro b4 (And.intro b5 b6)))))
  clear b1 b2 b3 b4 b5 b6
  have z1 : ((⟨#[48]⟩ : ByteArray) ++ s).size ≤ 32 := by rw [ByteArray.size_append]; show 1 + s.size ≤ 32; omega
  have z2 : ((⟨#[45]⟩ : ByteArray) ++ s).size ≤ 32 := by rw [ByteArray.size_append]; show 1 + s.size ≤ 32; omega
  have z3 : ∀ a : UInt8, (s ++ (⟨#[a]⟩ : ByteArray)).size ≤ 32 := fun a => by rw [ByteArray.size_append]; show s.size + 1 ≤ 32; omega
  have Z := Lib.hid (And.intro z1 (And.intro z2 z3))
  clear z1 z2 z3
  go_wp2_with fail
  refine (right_w s w2 (by omega) (ht.tabs.ext e2)).mono ?_; rintro e w3 ⟨rfl, h3⟩
  have e3 := e2.trans h3
  rw [hs, hR.1]
  go_wp2_with fail
  refine (count_w s w3 (by omega)).mono ?_; rintro e w4 ⟨rfl, h4⟩
  have e4 := e3.trans h4
  rw [hs, hR.2]
  clear hR
  go_wp2_with fail
  refine (right_w _ w4 (by have := Z.out.1; omega) (ht.tabs.ext e4)).mono ?_; rintro e w5 ⟨rfl, h5⟩
  have e5 := e4.trans h5
  rw [B.out.1]
  go_wp2_with fail
  refine (right_w _ w5 (by have := Z.out.2.1; omega) (ht.tabs.ext e5)).mono ?_; rintro e w6 ⟨rfl, h6⟩
  have e6 := e5.trans h6
  rw [B.out.2.1]
  go_wp2_with fail
  refine (right_w _ w6 (by have := Z.out.2.2 32; omega) (ht.tabs.ext e6)).mono ?_; rintro e w7 ⟨rfl, h7⟩
  have e7 := e6.trans h7
  rw [B.out.2.2.1]
  go_wp2_with fail
  refine (right_w _ w7 (by have := Z.out.2.2 65; omega) (ht.tabs.ext e7)).mono ?_; rintro e w8 ⟨rfl, h8⟩
  have e8 := e7.trans h8
  rw [B.out.2.2.2.1]
  go_wp2_with fail
  refine (right_w _ w8 (by have := Z.out.2.2 47; omega) (ht.tabs.ext e8)).mono ?_; rintro e w9 ⟨rfl, h9⟩
  have e9 := e8.trans h9
  rw [B.out.2.2.2.2.1]
  go_wp2_with fail
  refine (right_w _ w9 (by have := Z.out.2.2 122; omega) (ht.tabs.ext e9)).mono ?_; rintro e w10 ⟨rfl, h10⟩
  have e10 := e9.trans h10
  rw [B.out.2.2.2.2.2]
  have h32 : (s.size : Int) ≤ 32 := by omega
  by_cases h16 : madeN zs < 16
  · have hl := hlt.2 h16
    rw [decide_eq_true h16]
    clear hlt h16 hN
    go_wp2
    go_ret
    exact ⟨rfl, e10⟩
  · have hl : ¬ (1 + min (zs.length : Int) 15 < 16) := fun h => h16 (hlt.1 h)
    rw [decide_eq_false h16]
    clear hlt h16 hN
    go_wp2
    go_ret
    exact ⟨by show Ending.returned (Value.bool (!decide (1 + min (zs.length : Int) 15 < 16))) = _; rw [decide_eq_false (by omega)]; rfl, e10⟩

end Go.Proofs.YtneenkaldinfaaaDoor
