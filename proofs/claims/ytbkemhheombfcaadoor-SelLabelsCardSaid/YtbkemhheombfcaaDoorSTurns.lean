/- SelTurns, walked: with its Not turned a term matches just what it did not; one of a few values matches what one of them alone does; one of none what has the key. -/
import Derived.Test.YtbkemhheombfcaaDoorSExam
namespace Go.Proofs.YtbkemhheombfcaaDoor
open Go.RowKit Go.Dm

theorem fit_term {k : ByteArray} {n : Bool} {v : Value} {vs : List ByteArray} (hk : k.size ≤ 140737488351232) (hl : vs.length ≤ 35184372088832) (hv : ∀ x ∈ vs, x.size ≤ 140737488351232) : FitR [(k, n, v, vs)] := fun r hr => by
  rw [List.mem_singleton.1 hr]; exact ⟨hk, hl, hv⟩

/-- One term, laid in a row of its own. -/
theorem terms_lit {w : World} {e s : Nat} {k : ByteArray} {n : Bool} {v : Value} {vs : List ByteArray} (hs : w.heap.size = s) (hv : Strs w v vs) : Terms (w.alloc (.cells #[.string k, .bool n, v] e)) (.slice (some ⟨s, 0, none⟩) 1 1) [(k, n, v, vs)] := by
  subst hs
  refine ⟨Sl.lit w e 3 1 #[.string k, .bool n, v] rfl (by simp [maxLen]), fun r hr => ?_⟩
  rw [List.mem_singleton.1 hr]
  exact hv.ext ((Ext.refl w).alloc _)

set_option maxHeartbeats 4000000 in
set_option maxRecDepth 100000 in
theorem selTurns_w (key : ByteArray) (xs : List ByteArray) (p : List PairS) (v vp : Value) (w : World) (hk : key.size ≤ 140737488351232) (hm : xs.length ≤ 35184372088832) (hf : ∀ x ∈ xs, x.size ≤ 140737488351232) (hx : Strs w v xs)
    (hpm : p.length ≤ 35184372088832) (_hpf : FitP p) (hp : Pairs w vp p) (ht : Vars w) :
    Calls Tryd.prog 10 #[.string key, v, vp] w fun e w' => e = .returned (.bool true) ∧ Ext w w' := by
  obtain ⟨q, cap, rfl, hcap, hcm⟩ := hx.shape
  obtain ⟨qp, capp, rfl, _, _⟩ := hp.shape
  obtain ⟨n, hn⟩ : ∃ n, n = min xs.length 20 := ⟨_, rfl⟩
  have hn1 : n ≤ xs.length := by omega
  have hn2 : n ≤ 20 := by omega
  have hmin : min (xs.length : Int) 20 = (n : Int) := by omega
  have hsh := fun w => run_slice_high (P := Tryd.prog) 55 9 1 Tryd.slStr.ht (by kernel_rfl) q xs.length cap n (by omega) w
  have hys := hx.take hn1
  have hfy : ∀ x ∈ xs.take n, x.size ≤ 140737488351232 := fun x h => hf x (List.mem_of_mem_take h)
  have hyl : (xs.take n).length = n := by rw [List.length_take]; omega
  generalize xs.take n = ys at *
  clear hx hf hn
  subst hyl
  have CM := fun (no : Bool) w1 (u : Value) (h1 : Ext w w1) (hv : Terms w1 u [(key, no, .slice q ys.length cap, ys)]) => match_w [(key, no, .slice q ys.length cap, ys)] p u _ w1 (by simp) (fit_term hk (by omega) hfy) hv hpm (hp.ext h1)
  have CN := fun w1 (u : Value) (h1 : Ext w w1) (hv : Terms w1 u [(key, false, .slice none 0 0, [])]) => match_w [(key, false, .slice none 0 0, [])] p u _ w1 (by simp) (fit_term hk (by simp) (by simp)) hv hpm (hp.ext h1)
  have CO := fun w1 (u : Value) (b off c k : Nat) (_ : k < ys.length) (h1 : Ext w w1) (hv : Terms w1 u [(key, false, .slice (some ⟨b, off, none⟩) 1 c, [strAt ys k])]) => match_w [(key, false, .slice (some ⟨b, off, none⟩) 1 c, [strAt ys k])] p u _ w1 (by simp) (fit_term hk (by simp) (fun x hx => by rw [List.mem_singleton.1 hx]; exact hfy _ (strAt_mem ‹_›))) hv hpm (hp.ext h1)
  simp only [match_one, rowT] at CM CN CO
  rw [holds_none] at CN
  replace CM := Lib.hid CM
  replace CN := Lib.hid CN
  replace CO := Lib.hid CO
  go_enter Tryd.func10, Tryd.ntmps10
  go_wp2_with fail
  refine (sexamples_w w ht).mono ?_; rintro e w1 ⟨rfl, e1⟩
  go_wp2_with fail
  have sA : ((w1.alloc (.cells #[.string key, .bool false, .slice q ys.length cap] 57)).alloc (.cells #[.string key, .bool true, .slice q ys.length cap] 57)).heap.size = w1.heap.size + 1 + 1 := by simp
  have eA : Ext w ((w1.alloc (.cells #[.string key, .bool false, .slice q ys.length cap] 57)).alloc (.cells #[.string key, .bool true, .slice q ys.length cap] 57)) := e1.trans (((Ext.refl w1).alloc _).alloc _)
  have K := Cell3.new (w1.alloc (.cells #[.string key, .bool false, .slice q ys.length cap] 57)) (.string key) (.bool true) (.slice q ys.length cap) 57
  rw [World.size_alloc] at K
  generalize (w1.alloc (.cells #[.string key, .bool false, .slice q ys.length cap] 57)).alloc (.cells #[.string key, .bool true, .slice q ys.length cap] 57) = wA at *
  have hA2 := (Ext.refl wA).alloc (.cells #[.string key, .bool false, .slice q ys.length cap] 57)
  refine (CM.out false _ _ (eA.trans hA2) (terms_lit sA (hys.ext eA))).mono ?_; rintro e w2 ⟨rfl, h2⟩
  have e2 := (eA.trans hA2).trans h2
  have K2 := (K.ext hA2).ext h2
  have HN : holdsS p (key, true, ys) = !holdsS p (key, false, ys) := holds_turned p key ys
  have HS : ys ≠ [] → holdsS p (key, false, ys) = ys.any fun v => holdsS p (key, false, [v]) := holds_some
  have HH : holdsS p (key, false, ys) = true → (findB p key).2 = true := holds_has
  generalize holdsS p (key, false, ys) = y at *
  have CT := fun w1 u h1 hv => CM.out true w1 u h1 hv
  rw [HN] at CT
  replace CT := Lib.hid CT
  replace HS := Lib.hid HS
  replace HH := Lib.hid HH
  clear HN CM hsh hmin K hA2 sA eA
  go_wp2
  go_loopw [11, 12] (fun g i' wr => ∃ (k : Nat) (c : Bool), k ≤ ys.length ∧ i' = .int .i64 k ∧ Ext w2 wr ∧ g = .bool c ∧ Hid ((ys.take k).any (fun v => holdsS p (key, false, [v])) = c)) (fun _ i' _ => ys.length - (intOf i').toNat)
  case atStart => exact ⟨0, false, by omega, rfl, Ext.refl _, rfl, rfl⟩
  case round =>
    obtain ⟨k, c, hk, rfl, hb, rfl, HC⟩ := hrel
    have fr := e2.trans hb
    by_cases hlt : k < ys.length
    · have hst := any_step (fun v => holdsS p (key, false, [v])) hlt
      rw [HC.out] at hst
      cases c with
      | true =>
        replace hst := Lib.hid hst
        go_wp2
        go_roundw
        case rel => exact ⟨k + 1, true, by omega, by go_num, hb, rfl, by show _ = _; rw [hst.out]; rfl⟩
        case measure => simp [intOf]; omega
      | false =>
        obtain ⟨b, off, rfl, _⟩ := (hys.ext fr).at hlt
        have hs := (hys.ext fr).sub hlt
        have hsl := fun w => run_slice_sub (P := Tryd.prog) 55 9 1 Tryd.slStr.ht (by kernel_rfl) b off ys.length cap k (k + 1) (by omega) (by omega) (by omega) w
        rw [Nat.add_sub_cancel_left, Nat.mul_one] at hsl
        have hkw : IntKind.i64.wrap ((k : Int) + 1) = ((k + 1 : Nat) : Int) := by rw [IntKind.wrap_i64]; omega
        have hA3 := (Ext.refl wr).alloc (.cells #[.string key, .bool false, .slice (some ⟨b, off + k, none⟩) 1 (cap - k)] 57)
        have CS := CO.out _ _ b (off + k) (cap - k) k hlt (fr.trans hA3) (terms_lit rfl hs)
        generalize holdsS p (key, false, [strAt ys k]) = d at *
        replace hst := Lib.hid hst
        go_wp2_with fail
        refine CS.mono ?_; rintro e w3 ⟨rfl, h3⟩
        go_wp2
        go_roundw
        case rel => exact ⟨k + 1, d, by omega, by go_num, hb.trans (hA3.trans h3), rfl, by show _ = _; rw [hst.out]; rfl⟩
        case measure => simp [intOf]; omega
    · obtain rfl : k = ys.length := by omega
      have hall := HC.out
      rw [List.take_length] at hall
      have A : ys.length = 0 ∨ (ys.length ≠ 0 ∧ y = c) := by
        by_cases h0 : ys.length = 0
        · exact Or.inl h0
        · exact Or.inr ⟨h0, by rw [HS.out (fun e => h0 (by rw [e]; rfl)), hall]⟩
      have CF := find_w p key _ wr hpm (hp.ext fr)
      generalize (findB p key).1 = fv at *
      generalize (findB p key).2 = has at *
      have K4 := fun w' (h : Ext wr w') => ((K2.ext hb).ext h)
      clear hall HC HS
      replace K4 := Lib.hid K4
      go_wp2_with fail
      refine CF.mono ?_; rintro e w3 ⟨rfl, h3⟩
      have f3 := fr.trans h3
      obtain ⟨q1, q2, q3, q4, _, _, _⟩ := K4.out w3 h3
      have hA3 := (Ext.refl w3).alloc (.cells #[.string key, .bool true, .slice q ys.length cap] 57)
      have CT3 := CT.out _ _ (f3.trans hA3) (terms_lit rfl (hys.ext f3))
      have CN3 := fun w4 (h4 : Ext (w3.alloc (.cells #[.string key, .bool true, .slice q ys.length cap] 57)) w4) => CN.out (w4.alloc (.cells #[.string key, .bool false, .slice none 0 0] 57)) _ (((f3.trans hA3).trans h4).trans ((Ext.refl w4).alloc _)) (terms_lit rfl (Strs.nil _))
      have hA4 := fun w4 => (Ext.refl w4).alloc (.cells #[.string key, .bool false, .slice none 0 0] 57)
      replace CN3 := Lib.hid CN3
      replace hA4 := Lib.hid hA4
      rcases A with h0 | ⟨h0, rfl⟩
      · have h0b : ((ys.length : Int) == 0) = true := by rw [beq_iff_eq]; omega
        clear h0
        cases y <;> cases has
        all_goals first
          | (exact absurd (HH.out rfl) (by decide))
          | (go_wp2_with fail
             refine CT3.mono ?_; rintro e w4 ⟨rfl, h4⟩
             go_wp2_with fail
             refine (CN3.out w4 h4).mono ?_; rintro e w5 ⟨rfl, h5⟩
             go_wp2
             go_ret
             exact ⟨rfl, (((f3.trans hA3).trans h4).trans (hA4.out w4)).trans h5⟩)
      · have h0b : ((ys.length : Int) == 0) = false := by rw [beq_eq_false_iff_ne]; omega
        clear h0
        cases y <;> cases has
        all_goals first
          | (exact absurd (HH.out rfl) (by decide))
          | (go_wp2_with fail
             refine CT3.mono ?_; rintro e w4 ⟨rfl, h4⟩
             go_wp2_with fail
             refine (CN3.out w4 h4).mono ?_; rintro e w5 ⟨rfl, h5⟩
             go_wp2
             go_ret
             exact ⟨rfl, (((f3.trans hA3).trans h4).trans (hA4.out w4)).trans h5⟩)

end Go.Proofs.YtbkemhheombfcaaDoor
