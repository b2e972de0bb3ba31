/- SelMatches, walked: a selector matches just if each of its terms does alone; no terms match all. -/
import Derived.Test.YtbkemhheombfcaaDoorSExam
namespace Go.Proofs.YtbkemhheombfcaaDoor
open Go.RowKit Go.Dm

set_option maxHeartbeats 2000000 in
set_option maxRecDepth 100000 in
theorem selMatches_w (R : List RowS) (p : List PairS) (v vp : Value) (w : World) (hm : R.length ≤ 35184372088832) (hf : FitR R) (hx : Terms w v R) (hpm : p.length ≤ 35184372088832) (_hpf : FitP p) (hp : Pairs w vp p) (ht : Vars w) :
    Calls Tryd.prog 9 #[v, vp] w fun e w' => e = .returned (.bool true) ∧ Ext w w' := by
  obtain ⟨q, cap, rfl, hcap, hcm⟩ := hx.shape
  obtain ⟨qp, capp, rfl, _, _⟩ := hp.shape
  have CM := fun w1 (h1 : Ext w w1) => match_w R p _ _ w1 hm hf (hx.ext h1) hpm (hp.ext h1)
  have C1 := fun k (hk : k < R.length) w1 (v : Value) (hv : Terms w1 v [sAtR R k]) (h1 : Ext w w1) => match_w [sAtR R k] p v _ w1 (by simp) (fitR_one hf hk) hv hpm (hp.ext h1)
  have C0 := fun w1 (h1 : Ext w w1) => match_w [] p _ _ w1 (by simp) fitR_nil (Terms.nil w1) hpm (hp.ext h1)
  rw [match_nil] at C0
  replace CM := Lib.hid CM
  replace C1 := Lib.hid C1
  replace C0 := Lib.hid C0
  go_enter Tryd.func9, Tryd.ntmps9
  go_wp2_with fail
  refine (sexamples_w w ht).mono ?_; rintro e w1 ⟨rfl, e1⟩
  go_wp2
  go_loopw [6, 7] (fun g i' wr => ∃ (k : Nat) (c : Bool), k ≤ R.length ∧ i' = .int .i64 k ∧ Ext w1 wr ∧ g = .bool c ∧ Hid (matchS ((R.take k).map rowT) p = c)) (fun _ i' _ => R.length - (intOf i').toNat)
  case atStart => exact ⟨0, true, by omega, rfl, Ext.refl _, rfl, rfl⟩
  case round =>
    obtain ⟨k, c, hk, rfl, hb, rfl, HC⟩ := hrel
    have fr := e1.trans hb
    by_cases hlt : k < R.length
    · obtain ⟨b, off, rfl, _⟩ := hx.at hlt
      have hst := match_step (p := p) hlt
      rw [HC.out] at hst
      cases c with
      | false =>
        replace hst := Lib.hid hst
        go_wp2
        go_roundw
        case rel => exact ⟨k + 1, false, by omega, by go_num, hb, rfl, by show _ = _; rw [hst.out]; rfl⟩
        case measure => simp [intOf]; omega
      | true =>
        have hs := (hx.ext fr).sub hlt
        have hsl := fun w => run_slice_sub (P := Tryd.prog) 53 57 3 Tryd.slTerm.ht Tryd.slTerm.hs b off R.length cap k (k + 1) (by omega) (by omega) (by omega) w
        rw [Nat.add_sub_cancel_left] at hsl
        have hkw : IntKind.i64.wrap ((k : Int) + 1) = ((k + 1 : Nat) : Int) := by rw [IntKind.wrap_i64]; omega
        have CS := C1.out k hlt wr _ hs fr
        rw [match_one] at CS
        generalize holdsS p (rowT (sAtR R k)) = d at *
        replace hst := Lib.hid hst
        go_wp2_with fail
        refine CS.mono ?_; rintro e w3 ⟨rfl, h3⟩
        go_wp2
        go_roundw
        case rel => exact ⟨k + 1, d, by omega, by go_num, hb.trans h3, rfl, by show _ = _; rw [hst.out]; rfl⟩
        case measure => simp [intOf]; omega
    · obtain rfl : k = R.length := by omega
      have hall := HC.out
      rw [List.take_length] at hall
      have C := CM.out wr fr
      rw [hall] at C
      clear hall HC
      go_wp2_with fail
      refine C.mono ?_; rintro e w3 ⟨rfl, h3⟩
      cases c with
      | false =>
        go_wp2_with fail
        refine (C0.out w3 (fr.trans h3)).mono ?_; rintro e w4 ⟨rfl, h4⟩
        go_wp2
        go_ret
        exact ⟨rfl, fr.trans (h3.trans h4)⟩
      | true =>
        go_wp2_with fail
        refine (C0.out w3 (fr.trans h3)).mono ?_; rintro e w4 ⟨rfl, h4⟩
        go_wp2
        go_ret
        exact ⟨rfl, fr.trans (h3.trans h4)⟩

end Go.Proofs.YtbkemhheombfcaaDoor
