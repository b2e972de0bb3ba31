/- Chapter 3: the walk of VecHolds. -/
import Derived.Test.YtibimbcjnjefdaaDoorVcExam
import Derived.Test.YtibimbcjnjefdaaDoorVcLawsB
namespace Go.Proofs.YtibimbcjnjefdaaDoor
open Go.RowKit Go.Dm

set_option maxHeartbeats 4000000 in
set_option maxRecDepth 100000 in
theorem vecHolds_w (a b : Vc) (m : Nat) (w : World) (oa : OkV a) (ob : OkV b) (hm : m ≤ 255) (hv : VarsV w) :
    Calls Tryd.prog 7 #[vVal a, vVal b, .int .u8 (m : Nat)] w fun e w' => e = .returned (.bool true) ∧ Ext w w' := by
  have hn := vholds_le a b m
  have hfit := vholds_fit (b := b) oa m
  have CE := fun U h => vexamples_w U h
  have C1 := fun U => vholdsN_w a b oa ob (m : Nat) m (by omega) (Or.inl rfl) U
  have C2 := fun U => vtimes_w b (vholds a b m) ob (by unfold U64; omega) U
  rw [hfit.1] at C2
  have C3 := fun U => vtimes_w b (vholds a b m + 1) ob (by unfold U64; omega) U
  have C4 := fun U => vfits_w _ a (vtimes_okV hfit.1) oa U
  rw [hfit.2] at C4
  have C5 := fun U => vfits_w _ a (vtimes_or_okV b (vholds a b m + 1)) oa U
  have C6 : ∀ U, Calls Tryd.prog 26 #[vVal a, .agg #[.int .u64 0, .int .u64 0, .int .u64 0, .int .u64 0], .int .i64 (m : Nat)] U fun e w' => e = .returned (.int .i64 (vholds a noV m : Nat)) ∧ Ext U w' := fun U => vholdsN_w a noV oa okV_no (m : Nat) m (by omega) (Or.inl rfl) U
  rw [vholds_none] at C6
  have C7 := fun U => vholdsN_w a b oa ob (-1) 0 (by omega) (Or.inr ⟨by omega, rfl⟩) U
  rw [show vholds a b 0 = 0 by have := vholds_le a b 0; omega] at C7
  have K : vholds a b m = m ∨ (vholds a b m < m ∧ (vtimesOk b (vholds a b m + 1) = false ∨ (vtimesOk b (vholds a b m + 1) = true ∧ vfits (vOr (vtimesOk b (vholds a b m + 1)) (vtimes b (vholds a b m + 1))) a = false))) := by
    by_cases h : vholds a b m = m
    · exact Or.inl h
    · refine Or.inr ⟨by omega, ?_⟩
      cases e : vtimesOk b (vholds a b m + 1) with
      | false => exact Or.inl rfl
      | true => exact Or.inr ⟨rfl, by simp [vOr, vholds_more (a := a) (b := b) (m := m) (by omega)]⟩
  have e2 : vOr true (vtimes b (vholds a b m)) = vtimes b (vholds a b m) := rfl
  rw [e2] at C2
  clear hfit oa ob e2
  generalize vfits (vOr (vtimesOk b (vholds a b m + 1)) (vtimes b (vholds a b m + 1))) a = y at *
  generalize vOr (vtimesOk b (vholds a b m + 1)) (vtimes b (vholds a b m + 1)) = u at *
  generalize vtimesOk b (vholds a b m + 1) = ok at *
  generalize vtimes b (vholds a b m) = v at *
  generalize vholds a b m = n at *
  have hA := VBox.new w (vG a) 24
  replace hA := hA.ext ((Ext.refl _).alloc (.cells #[.int .u64 (vG b 0 : Nat), .int .u64 (vG b 1 : Nat), .int .u64 (vG b 2 : Nat), .int .u64 (vG b 3 : Nat)] 24))
  change VBox (w.heap.size) (vG a) ((w.alloc (.cells #[.int .u64 (vG a 0 : Nat), .int .u64 (vG a 1 : Nat), .int .u64 (vG a 2 : Nat), .int .u64 (vG a 3 : Nat)] 24)).alloc (.cells #[.int .u64 (vG b 0 : Nat), .int .u64 (vG b 1 : Nat), .int .u64 (vG b 2 : Nat), .int .u64 (vG b 3 : Nat)] 24)) at hA
  have hB := VBox.new (w.alloc (.cells #[.int .u64 (vG a 0 : Nat), .int .u64 (vG a 1 : Nat), .int .u64 (vG a 2 : Nat), .int .u64 (vG a 3 : Nat)] 24)) (vG b) 24
  simp only [World.size_alloc] at hB
  change VBox (w.heap.size + 1) (vG b) ((w.alloc (.cells #[.int .u64 (vG a 0 : Nat), .int .u64 (vG a 1 : Nat), .int .u64 (vG a 2 : Nat), .int .u64 (vG a 3 : Nat)] 24)).alloc (.cells #[.int .u64 (vG b 0 : Nat), .int .u64 (vG b 1 : Nat), .int .u64 (vG b 2 : Nat), .int .u64 (vG b 3 : Nat)] 24)) at hB
  have hE : Ext w ((w.alloc (.cells #[.int .u64 (vG a 0 : Nat), .int .u64 (vG a 1 : Nat), .int .u64 (vG a 2 : Nat), .int .u64 (vG a 3 : Nat)] 24)).alloc (.cells #[.int .u64 (vG b 0 : Nat), .int .u64 (vG b 1 : Nat), .int .u64 (vG b 2 : Nat), .int .u64 (vG b 3 : Nat)] 24)) := (((Ext.refl w).alloc _).alloc _)
  unfold vVal vF at C1 C2 C3 C4 C5 C6 C7
  replace CE := Lib.hid CE
  replace C1 := Lib.hid C1
  replace C2 := Lib.hid C2
  replace C3 := Lib.hid C3
  replace C4 := Lib.hid C4
  replace C5 := Lib.hid C5
  replace C6 := Lib.hid C6
  replace C7 := Lib.hid C7
  unfold vVal vF
  go_enter Tryd.func7, Tryd.ntmps7
  obtain ⟨_, zhA0, zhA1, zhA2, zhA3, _, _, _, _⟩ := hA.four
  obtain ⟨_, zhB0, zhB1, zhB2, zhB3, _, _, _, _⟩ := hB.four
  go_wp2_with fail
  refine (CE.out _ (hv.ext hE)).mono ?_; rintro e w1 ⟨rfl, h1⟩
  clear zhA0 zhA1 zhA2 zhA3 zhB0 zhB1 zhB2 zhB3
  replace hA := hA.ext h1
  replace hB := hB.ext h1
  replace hE := hE.trans h1
  clear h1
  obtain ⟨_, zhA0, zhA1, zhA2, zhA3, _, _, _, _⟩ := hA.four
  obtain ⟨_, zhB0, zhB1, zhB2, zhB3, _, _, _, _⟩ := hB.four
  go_wp2_with fail
  refine (C1.out _).mono ?_; rintro e w2 ⟨rfl, h2⟩
  clear zhA0 zhA1 zhA2 zhA3 zhB0 zhB1 zhB2 zhB3
  replace hA := hA.ext h2
  replace hB := hB.ext h2
  replace hE := hE.trans h2
  clear h2
  obtain ⟨_, zhA0, zhA1, zhA2, zhA3, _, _, _, _⟩ := hA.four
  obtain ⟨_, zhB0, zhB1, zhB2, zhB3, _, _, _, _⟩ := hB.four
  go_wp2_with fail
  refine (C2.out _).mono ?_; rintro e w3 ⟨rfl, h3⟩
  clear zhA0 zhA1 zhA2 zhA3 zhB0 zhB1 zhB2 zhB3
  replace hA := hA.ext h3
  replace hB := hB.ext h3
  replace hE := hE.trans h3
  clear h3
  obtain ⟨_, zhA0, zhA1, zhA2, zhA3, _, _, _, _⟩ := hA.four
  obtain ⟨_, zhB0, zhB1, zhB2, zhB3, _, _, _, _⟩ := hB.four
  have hXn := VBox.new w3 (vG v) 24
  go_wp2_with fail
  refine (C3.out _).mono ?_; rintro e w4 ⟨rfl, h4⟩
  clear zhA0 zhA1 zhA2 zhA3 zhB0 zhB1 zhB2 zhB3
  have hX := hXn.ext h4
  replace h4 := ((Ext.refl w3).alloc (.cells #[.int .u64 (vG v 0 : Nat), .int .u64 (vG v 1 : Nat), .int .u64 (vG v 2 : Nat), .int .u64 (vG v 3 : Nat)] 24)).trans h4
  clear hXn
  replace hA := hA.ext h4
  replace hB := hB.ext h4
  replace hE := hE.trans h4
  clear h4
  obtain ⟨_, zhA0, zhA1, zhA2, zhA3, _, _, _, _⟩ := hA.four
  obtain ⟨_, zhB0, zhB1, zhB2, zhB3, _, _, _, _⟩ := hB.four
  obtain ⟨_, zhX0, zhX1, zhX2, zhX3, _, _, _, _⟩ := hX.four
  have hYn := VBox.new w4 (vG u) 24
  go_wp2_with fail
  refine (C4.out _).mono ?_; rintro e w5 ⟨rfl, h5⟩
  clear zhA0 zhA1 zhA2 zhA3 zhB0 zhB1 zhB2 zhB3 zhX0 zhX1 zhX2 zhX3
  have hY := hYn.ext h5
  replace h5 := ((Ext.refl w4).alloc (.cells #[.int .u64 (vG u 0 : Nat), .int .u64 (vG u 1 : Nat), .int .u64 (vG u 2 : Nat), .int .u64 (vG u 3 : Nat)] 24)).trans h5
  clear hYn
  replace hA := hA.ext h5
  replace hB := hB.ext h5
  replace hX := hX.ext h5
  replace hE := hE.trans h5
  clear h5
  rcases K with rfl | ⟨hlt, rfl | ⟨rfl, rfl⟩⟩
  · obtain ⟨_, zhA0, zhA1, zhA2, zhA3, _, _, _, _⟩ := hA.four
    obtain ⟨_, zhB0, zhB1, zhB2, zhB3, _, _, _, _⟩ := hB.four
    obtain ⟨_, zhX0, zhX1, zhX2, zhX3, _, _, _, _⟩ := hX.four
    obtain ⟨_, zhY0, zhY1, zhY2, zhY3, _, _, _, _⟩ := hY.four
    go_wp2_with fail
    refine (C6.out _).mono ?_; rintro e w6 ⟨rfl, h6⟩
    clear zhA0 zhA1 zhA2 zhA3 zhB0 zhB1 zhB2 zhB3 zhX0 zhX1 zhX2 zhX3 zhY0 zhY1 zhY2 zhY3
    replace hA := hA.ext h6
    replace hB := hB.ext h6
    replace hX := hX.ext h6
    replace hY := hY.ext h6
    replace hE := hE.trans h6
    clear h6
    obtain ⟨_, zhA0, zhA1, zhA2, zhA3, _, _, _, _⟩ := hA.four
    obtain ⟨_, zhB0, zhB1, zhB2, zhB3, _, _, _, _⟩ := hB.four
    obtain ⟨_, zhX0, zhX1, zhX2, zhX3, _, _, _, _⟩ := hX.four
    obtain ⟨_, zhY0, zhY1, zhY2, zhY3, _, _, _, _⟩ := hY.four
    go_wp2_with fail
    refine (C7.out _).mono ?_; rintro e w7 ⟨rfl, h7⟩
    clear zhA0 zhA1 zhA2 zhA3 zhB0 zhB1 zhB2 zhB3 zhX0 zhX1 zhX2 zhX3 zhY0 zhY1 zhY2 zhY3
    replace hA := hA.ext h7
    replace hB := hB.ext h7
    replace hX := hX.ext h7
    replace hY := hY.ext h7
    replace hE := hE.trans h7
    clear h7
    obtain ⟨_, zhA0, zhA1, zhA2, zhA3, _, _, _, _⟩ := hA.four
    obtain ⟨_, zhB0, zhB1, zhB2, zhB3, _, _, _, _⟩ := hB.four
    obtain ⟨_, zhX0, zhX1, zhX2, zhX3, _, _, _, _⟩ := hX.four
    obtain ⟨_, zhY0, zhY1, zhY2, zhY3, _, _, _, _⟩ := hY.four
    go_wp2
    go_ret
    exact ⟨rfl, hE⟩
  · obtain ⟨_, zhA0, zhA1, zhA2, zhA3, _, _, _, _⟩ := hA.four
    obtain ⟨_, zhB0, zhB1, zhB2, zhB3, _, _, _, _⟩ := hB.four
    obtain ⟨_, zhX0, zhX1, zhX2, zhX3, _, _, _, _⟩ := hX.four
    obtain ⟨_, zhY0, zhY1, zhY2, zhY3, _, _, _, _⟩ := hY.four
    go_wp2_with fail
    refine (C6.out _).mono ?_; rintro e w6 ⟨rfl, h6⟩
    clear zhA0 zhA1 zhA2 zhA3 zhB0 zhB1 zhB2 zhB3 zhX0 zhX1 zhX2 zhX3 zhY0 zhY1 zhY2 zhY3
    replace hA := hA.ext h6
    replace hB := hB.ext h6
    replace hX := hX.ext h6
    replace hY := hY.ext h6
    replace hE := hE.trans h6
    clear h6
    obtain ⟨_, zhA0, zhA1, zhA2, zhA3, _, _, _, _⟩ := hA.four
    obtain ⟨_, zhB0, zhB1, zhB2, zhB3, _, _, _, _⟩ := hB.four
    obtain ⟨_, zhX0, zhX1, zhX2, zhX3, _, _, _, _⟩ := hX.four
    obtain ⟨_, zhY0, zhY1, zhY2, zhY3, _, _, _, _⟩ := hY.four
    go_wp2_with fail
    refine (C7.out _).mono ?_; rintro e w7 ⟨rfl, h7⟩
    clear zhA0 zhA1 zhA2 zhA3 zhB0 zhB1 zhB2 zhB3 zhX0 zhX1 zhX2 zhX3 zhY0 zhY1 zhY2 zhY3
    replace hA := hA.ext h7
    replace hB := hB.ext h7
    replace hX := hX.ext h7
    replace hY := hY.ext h7
    replace hE := hE.trans h7
    clear h7
    obtain ⟨_, zhA0, zhA1, zhA2, zhA3, _, _, _, _⟩ := hA.four
    obtain ⟨_, zhB0, zhB1, zhB2, zhB3, _, _, _, _⟩ := hB.four
    obtain ⟨_, zhX0, zhX1, zhX2, zhX3, _, _, _, _⟩ := hX.four
    obtain ⟨_, zhY0, zhY1, zhY2, zhY3, _, _, _, _⟩ := hY.four
    go_wp2
    go_ret
    exact ⟨rfl, hE⟩
  · obtain ⟨_, zhA0, zhA1, zhA2, zhA3, _, _, _, _⟩ := hA.four
    obtain ⟨_, zhB0, zhB1, zhB2, zhB3, _, _, _, _⟩ := hB.four
    obtain ⟨_, zhX0, zhX1, zhX2, zhX3, _, _, _, _⟩ := hX.four
    obtain ⟨_, zhY0, zhY1, zhY2, zhY3, _, _, _, _⟩ := hY.four
    go_wp2_with fail
    refine (C5.out _).mono ?_; rintro e w6 ⟨rfl, h6⟩
    clear zhA0 zhA1 zhA2 zhA3 zhB0 zhB1 zhB2 zhB3 zhX0 zhX1 zhX2 zhX3 zhY0 zhY1 zhY2 zhY3
    replace hA := hA.ext h6
    replace hB := hB.ext h6
    replace hX := hX.ext h6
    replace hY := hY.ext h6
    replace hE := hE.trans h6
    clear h6
    obtain ⟨_, zhA0, zhA1, zhA2, zhA3, _, _, _, _⟩ := hA.four
    obtain ⟨_, zhB0, zhB1, zhB2, zhB3, _, _, _, _⟩ := hB.four
    obtain ⟨_, zhX0, zhX1, zhX2, zhX3, _, _, _, _⟩ := hX.four
    obtain ⟨_, zhY0, zhY1, zhY2, zhY3, _, _, _, _⟩ := hY.four
    go_wp2_with fail
    refine (C6.out _).mono ?_; rintro e w7 ⟨rfl, h7⟩
    clear zhA0 zhA1 zhA2 zhA3 zhB0 zhB1 zhB2 zhB3 zhX0 zhX1 zhX2 zhX3 zhY0 zhY1 zhY2 zhY3
    replace hA := hA.ext h7
    replace hB := hB.ext h7
    replace hX := hX.ext h7
    replace hY := hY.ext h7
    replace hE := hE.trans h7
    clear h7
    obtain ⟨_, zhA0, zhA1, zhA2, zhA3, _, _, _, _⟩ := hA.four
    obtain ⟨_, zhB0, zhB1, zhB2, zhB3, _, _, _, _⟩ := hB.four
    obtain ⟨_, zhX0, zhX1, zhX2, zhX3, _, _, _, _⟩ := hX.four
    obtain ⟨_, zhY0, zhY1, zhY2, zhY3, _, _, _, _⟩ := hY.four
    go_wp2_with fail
    refine (C7.out _).mono ?_; rintro e w8 ⟨rfl, h8⟩
    clear zhA0 zhA1 zhA2 zhA3 zhB0 zhB1 zhB2 zhB3 zhX0 zhX1 zhX2 zhX3 zhY0 zhY1 zhY2 zhY3
    replace hA := hA.ext h8
    replace hB := hB.ext h8
    replace hX := hX.ext h8
    replace hY := hY.ext h8
    replace hE := hE.trans h8
    clear h8
    obtain ⟨_, zhA0, zhA1, zhA2, zhA3, _, _, _, _⟩ := hA.four
    obtain ⟨_, zhB0, zhB1, zhB2, zhB3, _, _, _, _⟩ := hB.four
    obtain ⟨_, zhX0, zhX1, zhX2, zhX3, _, _, _, _⟩ := hX.four
    obtain ⟨_, zhY0, zhY1, zhY2, zhY3, _, _, _, _⟩ := hY.four
    go_wp2
    go_ret
    exact ⟨rfl, hE⟩

end Go.Proofs.YtibimbcjnjefdaaDoor
