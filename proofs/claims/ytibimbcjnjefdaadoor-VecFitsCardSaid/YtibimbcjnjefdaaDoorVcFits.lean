/- Chapter 3: the walk of VecFits. -/
import Derived.Test.YtibimbcjnjefdaaDoorVcExam
import Derived.Test.YtibimbcjnjefdaaDoorVcLaws
namespace Go.Proofs.YtibimbcjnjefdaaDoor
open Go.RowKit Go.Dm

set_option maxHeartbeats 4000000 in
set_option maxRecDepth 100000 in
theorem vecFits_w (a b c : Vc) (w : World) (oa : OkV a) (ob : OkV b) (oc : OkV c) (hv : VarsV w) :
    Calls Tryd.prog 5 #[vVal a, vVal b, vVal c] w fun e w' => e = .returned (.bool true) ∧ Ext w w' := by
  have CE := fun U h => vexamples_w U h
  have CAA := fun U => vfits_w a a oa oa U
  rw [vfits_refl] at CAA
  have CAB := fun U => vfits_w a b oa ob U
  have CBA := fun U => vfits_w b a ob oa U
  have CBC := fun U => vfits_w b c ob oc U
  have CAC := fun U => vfits_w a c oa oc U
  have CNA : ∀ U, Calls Tryd.prog 24 #[.agg #[.int .u64 0, .int .u64 0, .int .u64 0, .int .u64 0], vVal a] U fun e w' => e = .returned (.bool (vfits noV a)) ∧ Ext U w' := fun U => vfits_w noV a okV_no oa U
  rw [vfits_no_le] at CNA
  have CO := fun U => vorder_w a b oa ob U
  have q1 := fun U => run_eql_vals (P := Tryd.prog) Tryd.underlying24 Tryd.underlying22 (by kernel_rfl) oa ob U
  have K : (vfits a b = false ∧ decide (a = b) = false ∧ (¬ vG a 0 ≤ vG b 0 ∨ (vG a 0 ≤ vG b 0 ∧ ¬ vG a 1 ≤ vG b 1) ∨ (vG a 0 ≤ vG b 0 ∧ vG a 1 ≤ vG b 1 ∧ ¬ vG a 2 ≤ vG b 2) ∨ (vG a 0 ≤ vG b 0 ∧ vG a 1 ≤ vG b 1 ∧ vG a 2 ≤ vG b 2 ∧ ¬ vG a 3 ≤ vG b 3))) ∨
      (vfits a b = true ∧ decide (a = b) = vfits b a ∧ (vord a b = -1 ∨ vord a b = 0) ∧ (vG a 0 ≤ vG b 0 ∧ vG a 1 ≤ vG b 1 ∧ vG a 2 ≤ vG b 2 ∧ vG a 3 ≤ vG b 3) ∧ (vfits b c = false ∨ (vfits b c = true ∧ vfits a c = true))) := by
    have hb := vfits_both oa ob
    cases h : vfits a b with
    | false =>
      refine Or.inl ⟨rfl, by rw [← hb, h]; rfl, ?_⟩
      have h4 : ¬ (vG a 0 ≤ vG b 0 ∧ vG a 1 ≤ vG b 1 ∧ vG a 2 ≤ vG b 2 ∧ vG a 3 ≤ vG b 3) := fun e => by rw [vfits_four.2 e] at h; cases h
      omega
    | true =>
      refine Or.inr ⟨rfl, by rw [← hb, h]; rfl, vord_fits oa ob h, vfits_four.1 h, ?_⟩
      cases h' : vfits b c with
      | false => exact Or.inl rfl
      | true => exact Or.inr ⟨rfl, vfits_trans h h'⟩
  generalize vfits a b = x at *
  generalize vfits b a = y at *
  generalize vfits b c = z at *
  generalize vfits a c = t at *
  generalize vord a b = o at *
  generalize decide (a = b) = d at *
  have hA := VBox.new w (vG a) 24
  replace hA := hA.ext (((Ext.refl _).alloc (.cells #[.int .u64 (vG b 0 : Nat), .int .u64 (vG b 1 : Nat), .int .u64 (vG b 2 : Nat), .int .u64 (vG b 3 : Nat)] 24)).alloc (.cells #[.int .u64 (vG c 0 : Nat), .int .u64 (vG c 1 : Nat), .int .u64 (vG c 2 : Nat), .int .u64 (vG c 3 : Nat)] 24))
  change VBox (w.heap.size) (vG a) (((w.alloc (.cells #[.int .u64 (vG a 0 : Nat), .int .u64 (vG a 1 : Nat), .int .u64 (vG a 2 : Nat), .int .u64 (vG a 3 : Nat)] 24)).alloc (.cells #[.int .u64 (vG b 0 : Nat), .int .u64 (vG b 1 : Nat), .int .u64 (vG b 2 : Nat), .int .u64 (vG b 3 : Nat)] 24)).alloc (.cells #[.int .u64 (vG c 0 : Nat), .int .u64 (vG c 1 : Nat), .int .u64 (vG c 2 : Nat), .int .u64 (vG c 3 : Nat)] 24)) at hA
  have hB := VBox.new (w.alloc (.cells #[.int .u64 (vG a 0 : Nat), .int .u64 (vG a 1 : Nat), .int .u64 (vG a 2 : Nat), .int .u64 (vG a 3 : Nat)] 24)) (vG b) 24
  simp only [World.size_alloc] at hB
  replace hB := hB.ext ((Ext.refl _).alloc (.cells #[.int .u64 (vG c 0 : Nat), .int .u64 (vG c 1 : Nat), .int .u64 (vG c 2 : Nat), .int .u64 (vG c 3 : Nat)] 24))
  change VBox (w.heap.size + 1) (vG b) (((w.alloc (.cells #[.int .u64 (vG a 0 : Nat), .int .u64 (vG a 1 : Nat), .int .u64 (vG a 2 : Nat), .int .u64 (vG a 3 : Nat)] 24)).alloc (.cells #[.int .u64 (vG b 0 : Nat), .int .u64 (vG b 1 : Nat), .int .u64 (vG b 2 : Nat), .int .u64 (vG b 3 : Nat)] 24)).alloc (.cells #[.int .u64 (vG c 0 : Nat), .int .u64 (vG c 1 : Nat), .int .u64 (vG c 2 : Nat), .int .u64 (vG c 3 : Nat)] 24)) at hB
  have hC := VBox.new ((w.alloc (.cells #[.int .u64 (vG a 0 : Nat), .int .u64 (vG a 1 : Nat), .int .u64 (vG a 2 : Nat), .int .u64 (vG a 3 : Nat)] 24)).alloc (.cells #[.int .u64 (vG b 0 : Nat), .int .u64 (vG b 1 : Nat), .int .u64 (vG b 2 : Nat), .int .u64 (vG b 3 : Nat)] 24)) (vG c) 24
  simp only [World.size_alloc] at hC
  change VBox (w.heap.size + 1 + 1) (vG c) (((w.alloc (.cells #[.int .u64 (vG a 0 : Nat), .int .u64 (vG a 1 : Nat), .int .u64 (vG a 2 : Nat), .int .u64 (vG a 3 : Nat)] 24)).alloc (.cells #[.int .u64 (vG b 0 : Nat), .int .u64 (vG b 1 : Nat), .int .u64 (vG b 2 : Nat), .int .u64 (vG b 3 : Nat)] 24)).alloc (.cells #[.int .u64 (vG c 0 : Nat), .int .u64 (vG c 1 : Nat), .int .u64 (vG c 2 : Nat), .int .u64 (vG c 3 : Nat)] 24)) at hC
  have hE : Ext w (((w.alloc (.cells #[.int .u64 (vG a 0 : Nat), .int .u64 (vG a 1 : Nat), .int .u64 (vG a 2 : Nat), .int .u64 (vG a 3 : Nat)] 24)).alloc (.cells #[.int .u64 (vG b 0 : Nat), .int .u64 (vG b 1 : Nat), .int .u64 (vG b 2 : Nat), .int .u64 (vG b 3 : Nat)] 24)).alloc (.cells #[.int .u64 (vG c 0 : Nat), .int .u64 (vG c 1 : Nat), .int .u64 (vG c 2 : Nat), .int .u64 (vG c 3 : Nat)] 24)) := ((((Ext.refl w).alloc _).alloc _).alloc _)
  clear oa ob oc
  unfold vVal vF at CAA CAB CBA CBC CAC CNA CO q1
  replace CE := Lib.hid CE
  replace CAA := Lib.hid CAA
  replace CAB := Lib.hid CAB
  replace CBA := Lib.hid CBA
  replace CBC := Lib.hid CBC
  replace CAC := Lib.hid CAC
  replace CNA := Lib.hid CNA
  replace CO := Lib.hid CO
  unfold vVal vF
  go_enter Tryd.func5, Tryd.ntmps5
  obtain ⟨_, zhA0, zhA1, zhA2, zhA3, _, _, _, _⟩ := hA.four
  obtain ⟨_, zhB0, zhB1, zhB2, zhB3, _, _, _, _⟩ := hB.four
  obtain ⟨_, zhC0, zhC1, zhC2, zhC3, _, _, _, _⟩ := hC.four
  go_wp2_with fail
  refine (CE.out _ (hv.ext hE)).mono ?_; rintro e w1 ⟨rfl, h1⟩
  clear zhA0 zhA1 zhA2 zhA3 zhB0 zhB1 zhB2 zhB3 zhC0 zhC1 zhC2 zhC3
  replace hA := hA.ext h1
  replace hB := hB.ext h1
  replace hC := hC.ext h1
  replace hE := hE.trans h1
  clear h1
  obtain ⟨_, zhA0, zhA1, zhA2, zhA3, _, _, _, _⟩ := hA.four
  obtain ⟨_, zhB0, zhB1, zhB2, zhB3, _, _, _, _⟩ := hB.four
  obtain ⟨_, zhC0, zhC1, zhC2, zhC3, _, _, _, _⟩ := hC.four
  go_wp2_with fail
  refine (CAB.out _).mono ?_; rintro e w2 ⟨rfl, h2⟩
  clear zhA0 zhA1 zhA2 zhA3 zhB0 zhB1 zhB2 zhB3 zhC0 zhC1 zhC2 zhC3
  replace hA := hA.ext h2
  replace hB := hB.ext h2
  replace hC := hC.ext h2
  replace hE := hE.trans h2
  clear h2
  rcases K with ⟨rfl, rfl, hk | ⟨h0, hk⟩ | ⟨h0, h1, hk⟩ | ⟨h0, h1, h2, hk⟩⟩ | ⟨rfl, rfl, ho, ⟨h0, h1, h2, h3⟩, hz⟩
  · obtain ⟨_, zhA0, zhA1, zhA2, zhA3, _, _, _, _⟩ := hA.four
    obtain ⟨_, zhB0, zhB1, zhB2, zhB3, _, _, _, _⟩ := hB.four
    obtain ⟨_, zhC0, zhC1, zhC2, zhC3, _, _, _, _⟩ := hC.four
    go_wp2_with fail
    refine (CAA.out _).mono ?_; rintro e w3 ⟨rfl, h3⟩
    clear zhA0 zhA1 zhA2 zhA3 zhB0 zhB1 zhB2 zhB3 zhC0 zhC1 zhC2 zhC3
    replace hA := hA.ext h3
    replace hB := hB.ext h3
    replace hC := hC.ext h3
    replace hE := hE.trans h3
    clear h3
    obtain ⟨_, zhA0, zhA1, zhA2, zhA3, _, _, _, _⟩ := hA.four
    obtain ⟨_, zhB0, zhB1, zhB2, zhB3, _, _, _, _⟩ := hB.four
    obtain ⟨_, zhC0, zhC1, zhC2, zhC3, _, _, _, _⟩ := hC.four
    go_wp2_with fail
    refine (CAB.out _).mono ?_; rintro e w4 ⟨rfl, h4⟩
    clear zhA0 zhA1 zhA2 zhA3 zhB0 zhB1 zhB2 zhB3 zhC0 zhC1 zhC2 zhC3
    replace hA := hA.ext h4
    replace hB := hB.ext h4
    replace hC := hC.ext h4
    replace hE := hE.trans h4
    clear h4
    obtain ⟨_, zhA0, zhA1, zhA2, zhA3, _, _, _, _⟩ := hA.four
    obtain ⟨_, zhB0, zhB1, zhB2, zhB3, _, _, _, _⟩ := hB.four
    obtain ⟨_, zhC0, zhC1, zhC2, zhC3, _, _, _, _⟩ := hC.four
    go_wp2_with fail
    refine (CNA.out _).mono ?_; rintro e w5 ⟨rfl, h5⟩
    clear zhA0 zhA1 zhA2 zhA3 zhB0 zhB1 zhB2 zhB3 zhC0 zhC1 zhC2 zhC3
    replace hA := hA.ext h5
    replace hB := hB.ext h5
    replace hC := hC.ext h5
    replace hE := hE.trans h5
    clear h5
    obtain ⟨_, zhA0, zhA1, zhA2, zhA3, _, _, _, _⟩ := hA.four
    obtain ⟨_, zhB0, zhB1, zhB2, zhB3, _, _, _, _⟩ := hB.four
    obtain ⟨_, zhC0, zhC1, zhC2, zhC3, _, _, _, _⟩ := hC.four
    go_wp2_with fail
    refine (CAB.out _).mono ?_; rintro e w6 ⟨rfl, h6⟩
    clear zhA0 zhA1 zhA2 zhA3 zhB0 zhB1 zhB2 zhB3 zhC0 zhC1 zhC2 zhC3
    replace hA := hA.ext h6
    replace hB := hB.ext h6
    replace hC := hC.ext h6
    replace hE := hE.trans h6
    clear h6
    obtain ⟨_, zhA0, zhA1, zhA2, zhA3, _, _, _, _⟩ := hA.four
    obtain ⟨_, zhB0, zhB1, zhB2, zhB3, _, _, _, _⟩ := hB.four
    obtain ⟨_, zhC0, zhC1, zhC2, zhC3, _, _, _, _⟩ := hC.four
    go_wp2_with fail
    refine (CAB.out _).mono ?_; rintro e w7 ⟨rfl, h7⟩
    clear zhA0 zhA1 zhA2 zhA3 zhB0 zhB1 zhB2 zhB3 zhC0 zhC1 zhC2 zhC3
    replace hA := hA.ext h7
    replace hB := hB.ext h7
    replace hC := hC.ext h7
    replace hE := hE.trans h7
    clear h7
    obtain ⟨_, zhA0, zhA1, zhA2, zhA3, _, _, _, _⟩ := hA.four
    obtain ⟨_, zhB0, zhB1, zhB2, zhB3, _, _, _, _⟩ := hB.four
    obtain ⟨_, zhC0, zhC1, zhC2, zhC3, _, _, _, _⟩ := hC.four
    go_wp2
    go_ret
    exact ⟨rfl, hE⟩
  · obtain ⟨_, zhA0, zhA1, zhA2, zhA3, _, _, _, _⟩ := hA.four
    obtain ⟨_, zhB0, zhB1, zhB2, zhB3, _, _, _, _⟩ := hB.four
    obtain ⟨_, zhC0, zhC1, zhC2, zhC3, _, _, _, _⟩ := hC.four
    go_wp2_with fail
    refine (CAA.out _).mono ?_; rintro e w3 ⟨rfl, h3⟩
    clear zhA0 zhA1 zhA2 zhA3 zhB0 zhB1 zhB2 zhB3 zhC0 zhC1 zhC2 zhC3
    replace hA := hA.ext h3
    replace hB := hB.ext h3
    replace hC := hC.ext h3
    replace hE := hE.trans h3
    clear h3
    obtain ⟨_, zhA0, zhA1, zhA2, zhA3, _, _, _, _⟩ := hA.four
    obtain ⟨_, zhB0, zhB1, zhB2, zhB3, _, _, _, _⟩ := hB.four
    obtain ⟨_, zhC0, zhC1, zhC2, zhC3, _, _, _, _⟩ := hC.four
    go_wp2_with fail
    refine (CAB.out _).mono ?_; rintro e w4 ⟨rfl, h4⟩
    clear zhA0 zhA1 zhA2 zhA3 zhB0 zhB1 zhB2 zhB3 zhC0 zhC1 zhC2 zhC3
    replace hA := hA.ext h4
    replace hB := hB.ext h4
    replace hC := hC.ext h4
    replace hE := hE.trans h4
    clear h4
    obtain ⟨_, zhA0, zhA1, zhA2, zhA3, _, _, _, _⟩ := hA.four
    obtain ⟨_, zhB0, zhB1, zhB2, zhB3, _, _, _, _⟩ := hB.four
    obtain ⟨_, zhC0, zhC1, zhC2, zhC3, _, _, _, _⟩ := hC.four
    go_wp2_with fail
    refine (CNA.out _).mono ?_; rintro e w5 ⟨rfl, h5⟩
    clear zhA0 zhA1 zhA2 zhA3 zhB0 zhB1 zhB2 zhB3 zhC0 zhC1 zhC2 zhC3
    replace hA := hA.ext h5
    replace hB := hB.ext h5
    replace hC := hC.ext h5
    replace hE := hE.trans h5
    clear h5
    obtain ⟨_, zhA0, zhA1, zhA2, zhA3, _, _, _, _⟩ := hA.four
    obtain ⟨_, zhB0, zhB1, zhB2, zhB3, _, _, _, _⟩ := hB.four
    obtain ⟨_, zhC0, zhC1, zhC2, zhC3, _, _, _, _⟩ := hC.four
    go_wp2_with fail
    refine (CAB.out _).mono ?_; rintro e w6 ⟨rfl, h6⟩
    clear zhA0 zhA1 zhA2 zhA3 zhB0 zhB1 zhB2 zhB3 zhC0 zhC1 zhC2 zhC3
    replace hA := hA.ext h6
    replace hB := hB.ext h6
    replace hC := hC.ext h6
    replace hE := hE.trans h6
    clear h6
    obtain ⟨_, zhA0, zhA1, zhA2, zhA3, _, _, _, _⟩ := hA.four
    obtain ⟨_, zhB0, zhB1, zhB2, zhB3, _, _, _, _⟩ := hB.four
    obtain ⟨_, zhC0, zhC1, zhC2, zhC3, _, _, _, _⟩ := hC.four
    go_wp2_with fail
    refine (CAB.out _).mono ?_; rintro e w7 ⟨rfl, h7⟩
    clear zhA0 zhA1 zhA2 zhA3 zhB0 zhB1 zhB2 zhB3 zhC0 zhC1 zhC2 zhC3
    replace hA := hA.ext h7
    replace hB := hB.ext h7
    replace hC := hC.ext h7
    replace hE := hE.trans h7
    clear h7
    obtain ⟨_, zhA0, zhA1, zhA2, zhA3, _, _, _, _⟩ := hA.four
    obtain ⟨_, zhB0, zhB1, zhB2, zhB3, _, _, _, _⟩ := hB.four
    obtain ⟨_, zhC0, zhC1, zhC2, zhC3, _, _, _, _⟩ := hC.four
    go_wp2
    go_ret
    exact ⟨rfl, hE⟩
  · obtain ⟨_, zhA0, zhA1, zhA2, zhA3, _, _, _, _⟩ := hA.four
    obtain ⟨_, zhB0, zhB1, zhB2, zhB3, _, _, _, _⟩ := hB.four
    obtain ⟨_, zhC0, zhC1, zhC2, zhC3, _, _, _, _⟩ := hC.four
    go_wp2_with fail
    refine (CAA.out _).mono ?_; rintro e w3 ⟨rfl, h3⟩
    clear zhA0 zhA1 zhA2 zhA3 zhB0 zhB1 zhB2 zhB3 zhC0 zhC1 zhC2 zhC3
    replace hA := hA.ext h3
    replace hB := hB.ext h3
    replace hC := hC.ext h3
    replace hE := hE.trans h3
    clear h3
    obtain ⟨_, zhA0, zhA1, zhA2, zhA3, _, _, _, _⟩ := hA.four
    obtain ⟨_, zhB0, zhB1, zhB2, zhB3, _, _, _, _⟩ := hB.four
    obtain ⟨_, zhC0, zhC1, zhC2, zhC3, _, _, _, _⟩ := hC.four
    go_wp2_with fail
    refine (CAB.out _).mono ?_; rintro e w4 ⟨rfl, h4⟩
    clear zhA0 zhA1 zhA2 zhA3 zhB0 zhB1 zhB2 zhB3 zhC0 zhC1 zhC2 zhC3
    replace hA := hA.ext h4
    replace hB := hB.ext h4
    replace hC := hC.ext h4
    replace hE := hE.trans h4
    clear h4
    obtain ⟨_, zhA0, zhA1, zhA2, zhA3, _, _, _, _⟩ := hA.four
    obtain ⟨_, zhB0, zhB1, zhB2, zhB3, _, _, _, _⟩ := hB.four
    obtain ⟨_, zhC0, zhC1, zhC2, zhC3, _, _, _, _⟩ := hC.four
    go_wp2_with fail
    refine (CNA.out _).mono ?_; rintro e w5 ⟨rfl, h5⟩
    clear zhA0 zhA1 zhA2 zhA3 zhB0 zhB1 zhB2 zhB3 zhC0 zhC1 zhC2 zhC3
    replace hA := hA.ext h5
    replace hB := hB.ext h5
    replace hC := hC.ext h5
    replace hE := hE.trans h5
    clear h5
    obtain ⟨_, zhA0, zhA1, zhA2, zhA3, _, _, _, _⟩ := hA.four
    obtain ⟨_, zhB0, zhB1, zhB2, zhB3, _, _, _, _⟩ := hB.four
    obtain ⟨_, zhC0, zhC1, zhC2, zhC3, _, _, _, _⟩ := hC.four
    go_wp2_with fail
    refine (CAB.out _).mono ?_; rintro e w6 ⟨rfl, h6⟩
    clear zhA0 zhA1 zhA2 zhA3 zhB0 zhB1 zhB2 zhB3 zhC0 zhC1 zhC2 zhC3
    replace hA := hA.ext h6
    replace hB := hB.ext h6
    replace hC := hC.ext h6
    replace hE := hE.trans h6
    clear h6
    obtain ⟨_, zhA0, zhA1, zhA2, zhA3, _, _, _, _⟩ := hA.four
    obtain ⟨_, zhB0, zhB1, zhB2, zhB3, _, _, _, _⟩ := hB.four
    obtain ⟨_, zhC0, zhC1, zhC2, zhC3, _, _, _, _⟩ := hC.four
    go_wp2_with fail
    refine (CAB.out _).mono ?_; rintro e w7 ⟨rfl, h7⟩
    clear zhA0 zhA1 zhA2 zhA3 zhB0 zhB1 zhB2 zhB3 zhC0 zhC1 zhC2 zhC3
    replace hA := hA.ext h7
    replace hB := hB.ext h7
    replace hC := hC.ext h7
    replace hE := hE.trans h7
    clear h7
    obtain ⟨_, zhA0, zhA1, zhA2, zhA3, _, _, _, _⟩ := hA.four
    obtain ⟨_, zhB0, zhB1, zhB2, zhB3, _, _, _, _⟩ := hB.four
    obtain ⟨_, zhC0, zhC1, zhC2, zhC3, _, _, _, _⟩ := hC.four
    go_wp2
    go_ret
    exact ⟨rfl, hE⟩
  · obtain ⟨_, zhA0, zhA1, zhA2, zhA3, _, _, _, _⟩ := hA.four
    obtain ⟨_, zhB0, zhB1, zhB2, zhB3, _, _, _, _⟩ := hB.four
    obtain ⟨_, zhC0, zhC1, zhC2, zhC3, _, _, _, _⟩ := hC.four
    go_wp2_with fail
    refine (CAA.out _).mono ?_; rintro e w3 ⟨rfl, h3⟩
    clear zhA0 zhA1 zhA2 zhA3 zhB0 zhB1 zhB2 zhB3 zhC0 zhC1 zhC2 zhC3
    replace hA := hA.ext h3
    replace hB := hB.ext h3
    replace hC := hC.ext h3
    replace hE := hE.trans h3
    clear h3
    obtain ⟨_, zhA0, zhA1, zhA2, zhA3, _, _, _, _⟩ := hA.four
    obtain ⟨_, zhB0, zhB1, zhB2, zhB3, _, _, _, _⟩ := hB.four
    obtain ⟨_, zhC0, zhC1, zhC2, zhC3, _, _, _, _⟩ := hC.four
    go_wp2_with fail
    refine (CAB.out _).mono ?_; rintro e w4 ⟨rfl, h4⟩
    clear zhA0 zhA1 zhA2 zhA3 zhB0 zhB1 zhB2 zhB3 zhC0 zhC1 zhC2 zhC3
    replace hA := hA.ext h4
    replace hB := hB.ext h4
    replace hC := hC.ext h4
    replace hE := hE.trans h4
    clear h4
    obtain ⟨_, zhA0, zhA1, zhA2, zhA3, _, _, _, _⟩ := hA.four
    obtain ⟨_, zhB0, zhB1, zhB2, zhB3, _, _, _, _⟩ := hB.four
    obtain ⟨_, zhC0, zhC1, zhC2, zhC3, _, _, _, _⟩ := hC.four
    go_wp2_with fail
    refine (CNA.out _).mono ?_; rintro e w5 ⟨rfl, h5⟩
    clear zhA0 zhA1 zhA2 zhA3 zhB0 zhB1 zhB2 zhB3 zhC0 zhC1 zhC2 zhC3
    replace hA := hA.ext h5
    replace hB := hB.ext h5
    replace hC := hC.ext h5
    replace hE := hE.trans h5
    clear h5
    obtain ⟨_, zhA0, zhA1, zhA2, zhA3, _, _, _, _⟩ := hA.four
    obtain ⟨_, zhB0, zhB1, zhB2, zhB3, _, _, _, _⟩ := hB.four
    obtain ⟨_, zhC0, zhC1, zhC2, zhC3, _, _, _, _⟩ := hC.four
    go_wp2_with fail
    refine (CAB.out _).mono ?_; rintro e w6 ⟨rfl, h6⟩
    clear zhA0 zhA1 zhA2 zhA3 zhB0 zhB1 zhB2 zhB3 zhC0 zhC1 zhC2 zhC3
    replace hA := hA.ext h6
    replace hB := hB.ext h6
    replace hC := hC.ext h6
    replace hE := hE.trans h6
    clear h6
    obtain ⟨_, zhA0, zhA1, zhA2, zhA3, _, _, _, _⟩ := hA.four
    obtain ⟨_, zhB0, zhB1, zhB2, zhB3, _, _, _, _⟩ := hB.four
    obtain ⟨_, zhC0, zhC1, zhC2, zhC3, _, _, _, _⟩ := hC.four
    go_wp2_with fail
    refine (CAB.out _).mono ?_; rintro e w7 ⟨rfl, h7⟩
    clear zhA0 zhA1 zhA2 zhA3 zhB0 zhB1 zhB2 zhB3 zhC0 zhC1 zhC2 zhC3
    replace hA := hA.ext h7
    replace hB := hB.ext h7
    replace hC := hC.ext h7
    replace hE := hE.trans h7
    clear h7
    obtain ⟨_, zhA0, zhA1, zhA2, zhA3, _, _, _, _⟩ := hA.four
    obtain ⟨_, zhB0, zhB1, zhB2, zhB3, _, _, _, _⟩ := hB.four
    obtain ⟨_, zhC0, zhC1, zhC2, zhC3, _, _, _, _⟩ := hC.four
    go_wp2
    go_ret
    exact ⟨rfl, hE⟩
  cases d <;> rcases ho with rfl | rfl <;> rcases hz with rfl | ⟨rfl, rfl⟩
  · obtain ⟨_, zhA0, zhA1, zhA2, zhA3, _, _, _, _⟩ := hA.four
    obtain ⟨_, zhB0, zhB1, zhB2, zhB3, _, _, _, _⟩ := hB.four
    obtain ⟨_, zhC0, zhC1, zhC2, zhC3, _, _, _, _⟩ := hC.four
    go_wp2_with fail
    refine (CBA.out _).mono ?_; rintro e w3 ⟨rfl, h3⟩
    clear zhA0 zhA1 zhA2 zhA3 zhB0 zhB1 zhB2 zhB3 zhC0 zhC1 zhC2 zhC3
    replace hA := hA.ext h3
    replace hB := hB.ext h3
    replace hC := hC.ext h3
    replace hE := hE.trans h3
    clear h3
    obtain ⟨_, zhA0, zhA1, zhA2, zhA3, _, _, _, _⟩ := hA.four
    obtain ⟨_, zhB0, zhB1, zhB2, zhB3, _, _, _, _⟩ := hB.four
    obtain ⟨_, zhC0, zhC1, zhC2, zhC3, _, _, _, _⟩ := hC.four
    go_wp2_with fail
    refine (CAA.out _).mono ?_; rintro e w4 ⟨rfl, h4⟩
    clear zhA0 zhA1 zhA2 zhA3 zhB0 zhB1 zhB2 zhB3 zhC0 zhC1 zhC2 zhC3
    replace hA := hA.ext h4
    replace hB := hB.ext h4
    replace hC := hC.ext h4
    replace hE := hE.trans h4
    clear h4
    obtain ⟨_, zhA0, zhA1, zhA2, zhA3, _, _, _, _⟩ := hA.four
    obtain ⟨_, zhB0, zhB1, zhB2, zhB3, _, _, _, _⟩ := hB.four
    obtain ⟨_, zhC0, zhC1, zhC2, zhC3, _, _, _, _⟩ := hC.four
    go_wp2_with fail
    refine (CAB.out _).mono ?_; rintro e w5 ⟨rfl, h5⟩
    clear zhA0 zhA1 zhA2 zhA3 zhB0 zhB1 zhB2 zhB3 zhC0 zhC1 zhC2 zhC3
    replace hA := hA.ext h5
    replace hB := hB.ext h5
    replace hC := hC.ext h5
    replace hE := hE.trans h5
    clear h5
    obtain ⟨_, zhA0, zhA1, zhA2, zhA3, _, _, _, _⟩ := hA.four
    obtain ⟨_, zhB0, zhB1, zhB2, zhB3, _, _, _, _⟩ := hB.four
    obtain ⟨_, zhC0, zhC1, zhC2, zhC3, _, _, _, _⟩ := hC.four
    go_wp2_with fail
    refine (CBC.out _).mono ?_; rintro e w6 ⟨rfl, h6⟩
    clear zhA0 zhA1 zhA2 zhA3 zhB0 zhB1 zhB2 zhB3 zhC0 zhC1 zhC2 zhC3
    replace hA := hA.ext h6
    replace hB := hB.ext h6
    replace hC := hC.ext h6
    replace hE := hE.trans h6
    clear h6
    obtain ⟨_, zhA0, zhA1, zhA2, zhA3, _, _, _, _⟩ := hA.four
    obtain ⟨_, zhB0, zhB1, zhB2, zhB3, _, _, _, _⟩ := hB.four
    obtain ⟨_, zhC0, zhC1, zhC2, zhC3, _, _, _, _⟩ := hC.four
    go_wp2_with fail
    refine (CNA.out _).mono ?_; rintro e w7 ⟨rfl, h7⟩
    clear zhA0 zhA1 zhA2 zhA3 zhB0 zhB1 zhB2 zhB3 zhC0 zhC1 zhC2 zhC3
    replace hA := hA.ext h7
    replace hB := hB.ext h7
    replace hC := hC.ext h7
    replace hE := hE.trans h7
    clear h7
    obtain ⟨_, zhA0, zhA1, zhA2, zhA3, _, _, _, _⟩ := hA.four
    obtain ⟨_, zhB0, zhB1, zhB2, zhB3, _, _, _, _⟩ := hB.four
    obtain ⟨_, zhC0, zhC1, zhC2, zhC3, _, _, _, _⟩ := hC.four
    go_wp2_with fail
    refine (CAB.out _).mono ?_; rintro e w8 ⟨rfl, h8⟩
    clear zhA0 zhA1 zhA2 zhA3 zhB0 zhB1 zhB2 zhB3 zhC0 zhC1 zhC2 zhC3
    replace hA := hA.ext h8
    replace hB := hB.ext h8
    replace hC := hC.ext h8
    replace hE := hE.trans h8
    clear h8
    obtain ⟨_, zhA0, zhA1, zhA2, zhA3, _, _, _, _⟩ := hA.four
    obtain ⟨_, zhB0, zhB1, zhB2, zhB3, _, _, _, _⟩ := hB.four
    obtain ⟨_, zhC0, zhC1, zhC2, zhC3, _, _, _, _⟩ := hC.four
    go_wp2_with fail
    refine (CAB.out _).mono ?_; rintro e w9 ⟨rfl, h9⟩
    clear zhA0 zhA1 zhA2 zhA3 zhB0 zhB1 zhB2 zhB3 zhC0 zhC1 zhC2 zhC3
    replace hA := hA.ext h9
    replace hB := hB.ext h9
    replace hC := hC.ext h9
    replace hE := hE.trans h9
    clear h9
    obtain ⟨_, zhA0, zhA1, zhA2, zhA3, _, _, _, _⟩ := hA.four
    obtain ⟨_, zhB0, zhB1, zhB2, zhB3, _, _, _, _⟩ := hB.four
    obtain ⟨_, zhC0, zhC1, zhC2, zhC3, _, _, _, _⟩ := hC.four
    go_wp2_with fail
    refine (CO.out _).mono ?_; rintro e w10 ⟨rfl, h10⟩
    clear zhA0 zhA1 zhA2 zhA3 zhB0 zhB1 zhB2 zhB3 zhC0 zhC1 zhC2 zhC3
    replace hA := hA.ext h10
    replace hB := hB.ext h10
    replace hC := hC.ext h10
    replace hE := hE.trans h10
    clear h10
    obtain ⟨_, zhA0, zhA1, zhA2, zhA3, _, _, _, _⟩ := hA.four
    obtain ⟨_, zhB0, zhB1, zhB2, zhB3, _, _, _, _⟩ := hB.four
    obtain ⟨_, zhC0, zhC1, zhC2, zhC3, _, _, _, _⟩ := hC.four
    go_wp2
    go_ret
    exact ⟨rfl, hE⟩
  · obtain ⟨_, zhA0, zhA1, zhA2, zhA3, _, _, _, _⟩ := hA.four
    obtain ⟨_, zhB0, zhB1, zhB2, zhB3, _, _, _, _⟩ := hB.four
    obtain ⟨_, zhC0, zhC1, zhC2, zhC3, _, _, _, _⟩ := hC.four
    go_wp2_with fail
    refine (CBA.out _).mono ?_; rintro e w3 ⟨rfl, h3⟩
    clear zhA0 zhA1 zhA2 zhA3 zhB0 zhB1 zhB2 zhB3 zhC0 zhC1 zhC2 zhC3
    replace hA := hA.ext h3
    replace hB := hB.ext h3
    replace hC := hC.ext h3
    replace hE := hE.trans h3
    clear h3
    obtain ⟨_, zhA0, zhA1, zhA2, zhA3, _, _, _, _⟩ := hA.four
    obtain ⟨_, zhB0, zhB1, zhB2, zhB3, _, _, _, _⟩ := hB.four
    obtain ⟨_, zhC0, zhC1, zhC2, zhC3, _, _, _, _⟩ := hC.four
    go_wp2_with fail
    refine (CAA.out _).mono ?_; rintro e w4 ⟨rfl, h4⟩
    clear zhA0 zhA1 zhA2 zhA3 zhB0 zhB1 zhB2 zhB3 zhC0 zhC1 zhC2 zhC3
    replace hA := hA.ext h4
    replace hB := hB.ext h4
    replace hC := hC.ext h4
    replace hE := hE.trans h4
    clear h4
    obtain ⟨_, zhA0, zhA1, zhA2, zhA3, _, _, _, _⟩ := hA.four
    obtain ⟨_, zhB0, zhB1, zhB2, zhB3, _, _, _, _⟩ := hB.four
    obtain ⟨_, zhC0, zhC1, zhC2, zhC3, _, _, _, _⟩ := hC.four
    go_wp2_with fail
    refine (CAB.out _).mono ?_; rintro e w5 ⟨rfl, h5⟩
    clear zhA0 zhA1 zhA2 zhA3 zhB0 zhB1 zhB2 zhB3 zhC0 zhC1 zhC2 zhC3
    replace hA := hA.ext h5
    replace hB := hB.ext h5
    replace hC := hC.ext h5
    replace hE := hE.trans h5
    clear h5
    obtain ⟨_, zhA0, zhA1, zhA2, zhA3, _, _, _, _⟩ := hA.four
    obtain ⟨_, zhB0, zhB1, zhB2, zhB3, _, _, _, _⟩ := hB.four
    obtain ⟨_, zhC0, zhC1, zhC2, zhC3, _, _, _, _⟩ := hC.four
    go_wp2_with fail
    refine (CBC.out _).mono ?_; rintro e w6 ⟨rfl, h6⟩
    clear zhA0 zhA1 zhA2 zhA3 zhB0 zhB1 zhB2 zhB3 zhC0 zhC1 zhC2 zhC3
    replace hA := hA.ext h6
    replace hB := hB.ext h6
    replace hC := hC.ext h6
    replace hE := hE.trans h6
    clear h6
    obtain ⟨_, zhA0, zhA1, zhA2, zhA3, _, _, _, _⟩ := hA.four
    obtain ⟨_, zhB0, zhB1, zhB2, zhB3, _, _, _, _⟩ := hB.four
    obtain ⟨_, zhC0, zhC1, zhC2, zhC3, _, _, _, _⟩ := hC.four
    go_wp2_with fail
    refine (CAC.out _).mono ?_; rintro e w7 ⟨rfl, h7⟩
    clear zhA0 zhA1 zhA2 zhA3 zhB0 zhB1 zhB2 zhB3 zhC0 zhC1 zhC2 zhC3
    replace hA := hA.ext h7
    replace hB := hB.ext h7
    replace hC := hC.ext h7
    replace hE := hE.trans h7
    clear h7
    obtain ⟨_, zhA0, zhA1, zhA2, zhA3, _, _, _, _⟩ := hA.four
    obtain ⟨_, zhB0, zhB1, zhB2, zhB3, _, _, _, _⟩ := hB.four
    obtain ⟨_, zhC0, zhC1, zhC2, zhC3, _, _, _, _⟩ := hC.four
    go_wp2_with fail
    refine (CNA.out _).mono ?_; rintro e w8 ⟨rfl, h8⟩
    clear zhA0 zhA1 zhA2 zhA3 zhB0 zhB1 zhB2 zhB3 zhC0 zhC1 zhC2 zhC3
    replace hA := hA.ext h8
    replace hB := hB.ext h8
    replace hC := hC.ext h8
    replace hE := hE.trans h8
    clear h8
    obtain ⟨_, zhA0, zhA1, zhA2, zhA3, _, _, _, _⟩ := hA.four
    obtain ⟨_, zhB0, zhB1, zhB2, zhB3, _, _, _, _⟩ := hB.four
    obtain ⟨_, zhC0, zhC1, zhC2, zhC3, _, _, _, _⟩ := hC.four
    go_wp2_with fail
    refine (CAB.out _).mono ?_; rintro e w9 ⟨rfl, h9⟩
    clear zhA0 zhA1 zhA2 zhA3 zhB0 zhB1 zhB2 zhB3 zhC0 zhC1 zhC2 zhC3
    replace hA := hA.ext h9
    replace hB := hB.ext h9
    replace hC := hC.ext h9
    replace hE := hE.trans h9
    clear h9
    obtain ⟨_, zhA0, zhA1, zhA2, zhA3, _, _, _, _⟩ := hA.four
    obtain ⟨_, zhB0, zhB1, zhB2, zhB3, _, _, _, _⟩ := hB.four
    obtain ⟨_, zhC0, zhC1, zhC2, zhC3, _, _, _, _⟩ := hC.four
    go_wp2_with fail
    refine (CAB.out _).mono ?_; rintro e w10 ⟨rfl, h10⟩
    clear zhA0 zhA1 zhA2 zhA3 zhB0 zhB1 zhB2 zhB3 zhC0 zhC1 zhC2 zhC3
    replace hA := hA.ext h10
    replace hB := hB.ext h10
    replace hC := hC.ext h10
    replace hE := hE.trans h10
    clear h10
    obtain ⟨_, zhA0, zhA1, zhA2, zhA3, _, _, _, _⟩ := hA.four
    obtain ⟨_, zhB0, zhB1, zhB2, zhB3, _, _, _, _⟩ := hB.four
    obtain ⟨_, zhC0, zhC1, zhC2, zhC3, _, _, _, _⟩ := hC.four
    go_wp2_with fail
    refine (CO.out _).mono ?_; rintro e w11 ⟨rfl, h11⟩
    clear zhA0 zhA1 zhA2 zhA3 zhB0 zhB1 zhB2 zhB3 zhC0 zhC1 zhC2 zhC3
    replace hA := hA.ext h11
    replace hB := hB.ext h11
    replace hC := hC.ext h11
    replace hE := hE.trans h11
    clear h11
    obtain ⟨_, zhA0, zhA1, zhA2, zhA3, _, _, _, _⟩ := hA.four
    obtain ⟨_, zhB0, zhB1, zhB2, zhB3, _, _, _, _⟩ := hB.four
    obtain ⟨_, zhC0, zhC1, zhC2, zhC3, _, _, _, _⟩ := hC.four
    go_wp2
    go_ret
    exact ⟨rfl, hE⟩
  · obtain ⟨_, zhA0, zhA1, zhA2, zhA3, _, _, _, _⟩ := hA.four
    obtain ⟨_, zhB0, zhB1, zhB2, zhB3, _, _, _, _⟩ := hB.four
    obtain ⟨_, zhC0, zhC1, zhC2, zhC3, _, _, _, _⟩ := hC.four
    go_wp2_with fail
    refine (CBA.out _).mono ?_; rintro e w3 ⟨rfl, h3⟩
    clear zhA0 zhA1 zhA2 zhA3 zhB0 zhB1 zhB2 zhB3 zhC0 zhC1 zhC2 zhC3
    replace hA := hA.ext h3
    replace hB := hB.ext h3
    replace hC := hC.ext h3
    replace hE := hE.trans h3
    clear h3
    obtain ⟨_, zhA0, zhA1, zhA2, zhA3, _, _, _, _⟩ := hA.four
    obtain ⟨_, zhB0, zhB1, zhB2, zhB3, _, _, _, _⟩ := hB.four
    obtain ⟨_, zhC0, zhC1, zhC2, zhC3, _, _, _, _⟩ := hC.four
    go_wp2_with fail
    refine (CAA.out _).mono ?_; rintro e w4 ⟨rfl, h4⟩
    clear zhA0 zhA1 zhA2 zhA3 zhB0 zhB1 zhB2 zhB3 zhC0 zhC1 zhC2 zhC3
    replace hA := hA.ext h4
    replace hB := hB.ext h4
    replace hC := hC.ext h4
    replace hE := hE.trans h4
    clear h4
    obtain ⟨_, zhA0, zhA1, zhA2, zhA3, _, _, _, _⟩ := hA.four
    obtain ⟨_, zhB0, zhB1, zhB2, zhB3, _, _, _, _⟩ := hB.four
    obtain ⟨_, zhC0, zhC1, zhC2, zhC3, _, _, _, _⟩ := hC.four
    go_wp2_with fail
    refine (CAB.out _).mono ?_; rintro e w5 ⟨rfl, h5⟩
    clear zhA0 zhA1 zhA2 zhA3 zhB0 zhB1 zhB2 zhB3 zhC0 zhC1 zhC2 zhC3
    replace hA := hA.ext h5
    replace hB := hB.ext h5
    replace hC := hC.ext h5
    replace hE := hE.trans h5
    clear h5
    obtain ⟨_, zhA0, zhA1, zhA2, zhA3, _, _, _, _⟩ := hA.four
    obtain ⟨_, zhB0, zhB1, zhB2, zhB3, _, _, _, _⟩ := hB.four
    obtain ⟨_, zhC0, zhC1, zhC2, zhC3, _, _, _, _⟩ := hC.four
    go_wp2_with fail
    refine (CBC.out _).mono ?_; rintro e w6 ⟨rfl, h6⟩
    clear zhA0 zhA1 zhA2 zhA3 zhB0 zhB1 zhB2 zhB3 zhC0 zhC1 zhC2 zhC3
    replace hA := hA.ext h6
    replace hB := hB.ext h6
    replace hC := hC.ext h6
    replace hE := hE.trans h6
    clear h6
    obtain ⟨_, zhA0, zhA1, zhA2, zhA3, _, _, _, _⟩ := hA.four
    obtain ⟨_, zhB0, zhB1, zhB2, zhB3, _, _, _, _⟩ := hB.four
    obtain ⟨_, zhC0, zhC1, zhC2, zhC3, _, _, _, _⟩ := hC.four
    go_wp2_with fail
    refine (CNA.out _).mono ?_; rintro e w7 ⟨rfl, h7⟩
    clear zhA0 zhA1 zhA2 zhA3 zhB0 zhB1 zhB2 zhB3 zhC0 zhC1 zhC2 zhC3
    replace hA := hA.ext h7
    replace hB := hB.ext h7
    replace hC := hC.ext h7
    replace hE := hE.trans h7
    clear h7
    obtain ⟨_, zhA0, zhA1, zhA2, zhA3, _, _, _, _⟩ := hA.four
    obtain ⟨_, zhB0, zhB1, zhB2, zhB3, _, _, _, _⟩ := hB.four
    obtain ⟨_, zhC0, zhC1, zhC2, zhC3, _, _, _, _⟩ := hC.four
    go_wp2_with fail
    refine (CAB.out _).mono ?_; rintro e w8 ⟨rfl, h8⟩
    clear zhA0 zhA1 zhA2 zhA3 zhB0 zhB1 zhB2 zhB3 zhC0 zhC1 zhC2 zhC3
    replace hA := hA.ext h8
    replace hB := hB.ext h8
    replace hC := hC.ext h8
    replace hE := hE.trans h8
    clear h8
    obtain ⟨_, zhA0, zhA1, zhA2, zhA3, _, _, _, _⟩ := hA.four
    obtain ⟨_, zhB0, zhB1, zhB2, zhB3, _, _, _, _⟩ := hB.four
    obtain ⟨_, zhC0, zhC1, zhC2, zhC3, _, _, _, _⟩ := hC.four
    go_wp2_with fail
    refine (CAB.out _).mono ?_; rintro e w9 ⟨rfl, h9⟩
    clear zhA0 zhA1 zhA2 zhA3 zhB0 zhB1 zhB2 zhB3 zhC0 zhC1 zhC2 zhC3
    replace hA := hA.ext h9
    replace hB := hB.ext h9
    replace hC := hC.ext h9
    replace hE := hE.trans h9
    clear h9
    obtain ⟨_, zhA0, zhA1, zhA2, zhA3, _, _, _, _⟩ := hA.four
    obtain ⟨_, zhB0, zhB1, zhB2, zhB3, _, _, _, _⟩ := hB.four
    obtain ⟨_, zhC0, zhC1, zhC2, zhC3, _, _, _, _⟩ := hC.four
    go_wp2_with fail
    refine (CO.out _).mono ?_; rintro e w10 ⟨rfl, h10⟩
    clear zhA0 zhA1 zhA2 zhA3 zhB0 zhB1 zhB2 zhB3 zhC0 zhC1 zhC2 zhC3
    replace hA := hA.ext h10
    replace hB := hB.ext h10
    replace hC := hC.ext h10
    replace hE := hE.trans h10
    clear h10
    obtain ⟨_, zhA0, zhA1, zhA2, zhA3, _, _, _, _⟩ := hA.four
    obtain ⟨_, zhB0, zhB1, zhB2, zhB3, _, _, _, _⟩ := hB.four
    obtain ⟨_, zhC0, zhC1, zhC2, zhC3, _, _, _, _⟩ := hC.four
    go_wp2
    go_ret
    exact ⟨rfl, hE⟩
  · obtain ⟨_, zhA0, zhA1, zhA2, zhA3, _, _, _, _⟩ := hA.four
    obtain ⟨_, zhB0, zhB1, zhB2, zhB3, _, _, _, _⟩ := hB.four
    obtain ⟨_, zhC0, zhC1, zhC2, zhC3, _, _, _, _⟩ := hC.four
    go_wp2_with fail
    refine (CBA.out _).mono ?_; rintro e w3 ⟨rfl, h3⟩
    clear zhA0 zhA1 zhA2 zhA3 zhB0 zhB1 zhB2 zhB3 zhC0 zhC1 zhC2 zhC3
    replace hA := hA.ext h3
    replace hB := hB.ext h3
    replace hC := hC.ext h3
    replace hE := hE.trans h3
    clear h3
    obtain ⟨_, zhA0, zhA1, zhA2, zhA3, _, _, _, _⟩ := hA.four
    obtain ⟨_, zhB0, zhB1, zhB2, zhB3, _, _, _, _⟩ := hB.four
    obtain ⟨_, zhC0, zhC1, zhC2, zhC3, _, _, _, _⟩ := hC.four
    go_wp2_with fail
    refine (CAA.out _).mono ?_; rintro e w4 ⟨rfl, h4⟩
    clear zhA0 zhA1 zhA2 zhA3 zhB0 zhB1 zhB2 zhB3 zhC0 zhC1 zhC2 zhC3
    replace hA := hA.ext h4
    replace hB := hB.ext h4
    replace hC := hC.ext h4
    replace hE := hE.trans h4
    clear h4
    obtain ⟨_, zhA0, zhA1, zhA2, zhA3, _, _, _, _⟩ := hA.four
    obtain ⟨_, zhB0, zhB1, zhB2, zhB3, _, _, _, _⟩ := hB.four
    obtain ⟨_, zhC0, zhC1, zhC2, zhC3, _, _, _, _⟩ := hC.four
    go_wp2_with fail
    refine (CAB.out _).mono ?_; rintro e w5 ⟨rfl, h5⟩
    clear zhA0 zhA1 zhA2 zhA3 zhB0 zhB1 zhB2 zhB3 zhC0 zhC1 zhC2 zhC3
    replace hA := hA.ext h5
    replace hB := hB.ext h5
    replace hC := hC.ext h5
    replace hE := hE.trans h5
    clear h5
    obtain ⟨_, zhA0, zhA1, zhA2, zhA3, _, _, _, _⟩ := hA.four
    obtain ⟨_, zhB0, zhB1, zhB2, zhB3, _, _, _, _⟩ := hB.four
    obtain ⟨_, zhC0, zhC1, zhC2, zhC3, _, _, _, _⟩ := hC.four
    go_wp2_with fail
    refine (CBC.out _).mono ?_; rintro e w6 ⟨rfl, h6⟩
    clear zhA0 zhA1 zhA2 zhA3 zhB0 zhB1 zhB2 zhB3 zhC0 zhC1 zhC2 zhC3
    replace hA := hA.ext h6
    replace hB := hB.ext h6
    replace hC := hC.ext h6
    replace hE := hE.trans h6
    clear h6
    obtain ⟨_, zhA0, zhA1, zhA2, zhA3, _, _, _, _⟩ := hA.four
    obtain ⟨_, zhB0, zhB1, zhB2, zhB3, _, _, _, _⟩ := hB.four
    obtain ⟨_, zhC0, zhC1, zhC2, zhC3, _, _, _, _⟩ := hC.four
    go_wp2_with fail
    refine (CAC.out _).mono ?_; rintro e w7 ⟨rfl, h7⟩
    clear zhA0 zhA1 zhA2 zhA3 zhB0 zhB1 zhB2 zhB3 zhC0 zhC1 zhC2 zhC3
    replace hA := hA.ext h7
    replace hB := hB.ext h7
    replace hC := hC.ext h7
    replace hE := hE.trans h7
    clear h7
    obtain ⟨_, zhA0, zhA1, zhA2, zhA3, _, _, _, _⟩ := hA.four
    obtain ⟨_, zhB0, zhB1, zhB2, zhB3, _, _, _, _⟩ := hB.four
    obtain ⟨_, zhC0, zhC1, zhC2, zhC3, _, _, _, _⟩ := hC.four
    go_wp2_with fail
    refine (CNA.out _).mono ?_; rintro e w8 ⟨rfl, h8⟩
    clear zhA0 zhA1 zhA2 zhA3 zhB0 zhB1 zhB2 zhB3 zhC0 zhC1 zhC2 zhC3
    replace hA := hA.ext h8
    replace hB := hB.ext h8
    replace hC := hC.ext h8
    replace hE := hE.trans h8
    clear h8
    obtain ⟨_, zhA0, zhA1, zhA2, zhA3, _, _, _, _⟩ := hA.four
    obtain ⟨_, zhB0, zhB1, zhB2, zhB3, _, _, _, _⟩ := hB.four
    obtain ⟨_, zhC0, zhC1, zhC2, zhC3, _, _, _, _⟩ := hC.four
    go_wp2_with fail
    refine (CAB.out _).mono ?_; rintro e w9 ⟨rfl, h9⟩
    clear zhA0 zhA1 zhA2 zhA3 zhB0 zhB1 zhB2 zhB3 zhC0 zhC1 zhC2 zhC3
    replace hA := hA.ext h9
    replace hB := hB.ext h9
    replace hC := hC.ext h9
    replace hE := hE.trans h9
    clear h9
    obtain ⟨_, zhA0, zhA1, zhA2, zhA3, _, _, _, _⟩ := hA.four
    obtain ⟨_, zhB0, zhB1, zhB2, zhB3, _, _, _, _⟩ := hB.four
    obtain ⟨_, zhC0, zhC1, zhC2, zhC3, _, _, _, _⟩ := hC.four
    go_wp2_with fail
    refine (CAB.out _).mono ?_; rintro e w10 ⟨rfl, h10⟩
    clear zhA0 zhA1 zhA2 zhA3 zhB0 zhB1 zhB2 zhB3 zhC0 zhC1 zhC2 zhC3
    replace hA := hA.ext h10
    replace hB := hB.ext h10
    replace hC := hC.ext h10
    replace hE := hE.trans h10
    clear h10
    obtain ⟨_, zhA0, zhA1, zhA2, zhA3, _, _, _, _⟩ := hA.four
    obtain ⟨_, zhB0, zhB1, zhB2, zhB3, _, _, _, _⟩ := hB.four
    obtain ⟨_, zhC0, zhC1, zhC2, zhC3, _, _, _, _⟩ := hC.four
    go_wp2_with fail
    refine (CO.out _).mono ?_; rintro e w11 ⟨rfl, h11⟩
    clear zhA0 zhA1 zhA2 zhA3 zhB0 zhB1 zhB2 zhB3 zhC0 zhC1 zhC2 zhC3
    replace hA := hA.ext h11
    replace hB := hB.ext h11
    replace hC := hC.ext h11
    replace hE := hE.trans h11
    clear h11
    obtain ⟨_, zhA0, zhA1, zhA2, zhA3, _, _, _, _⟩ := hA.four
    obtain ⟨_, zhB0, zhB1, zhB2, zhB3, _, _, _, _⟩ := hB.four
    obtain ⟨_, zhC0, zhC1, zhC2, zhC3, _, _, _, _⟩ := hC.four
    go_wp2
    go_ret
    exact ⟨rfl, hE⟩
  · obtain ⟨_, zhA0, zhA1, zhA2, zhA3, _, _, _, _⟩ := hA.four
    obtain ⟨_, zhB0, zhB1, zhB2, zhB3, _, _, _, _⟩ := hB.four
    obtain ⟨_, zhC0, zhC1, zhC2, zhC3, _, _, _, _⟩ := hC.four
    go_wp2_with fail
    refine (CBA.out _).mono ?_; rintro e w3 ⟨rfl, h3⟩
    clear zhA0 zhA1 zhA2 zhA3 zhB0 zhB1 zhB2 zhB3 zhC0 zhC1 zhC2 zhC3
    replace hA := hA.ext h3
    replace hB := hB.ext h3
    replace hC := hC.ext h3
    replace hE := hE.trans h3
    clear h3
    obtain ⟨_, zhA0, zhA1, zhA2, zhA3, _, _, _, _⟩ := hA.four
    obtain ⟨_, zhB0, zhB1, zhB2, zhB3, _, _, _, _⟩ := hB.four
    obtain ⟨_, zhC0, zhC1, zhC2, zhC3, _, _, _, _⟩ := hC.four
    go_wp2_with fail
    refine (CAA.out _).mono ?_; rintro e w4 ⟨rfl, h4⟩
    clear zhA0 zhA1 zhA2 zhA3 zhB0 zhB1 zhB2 zhB3 zhC0 zhC1 zhC2 zhC3
    replace hA := hA.ext h4
    replace hB := hB.ext h4
    replace hC := hC.ext h4
    replace hE := hE.trans h4
    clear h4
    obtain ⟨_, zhA0, zhA1, zhA2, zhA3, _, _, _, _⟩ := hA.four
    obtain ⟨_, zhB0, zhB1, zhB2, zhB3, _, _, _, _⟩ := hB.four
    obtain ⟨_, zhC0, zhC1, zhC2, zhC3, _, _, _, _⟩ := hC.four
    go_wp2_with fail
    refine (CAB.out _).mono ?_; rintro e w5 ⟨rfl, h5⟩
    clear zhA0 zhA1 zhA2 zhA3 zhB0 zhB1 zhB2 zhB3 zhC0 zhC1 zhC2 zhC3
    replace hA := hA.ext h5
    replace hB := hB.ext h5
    replace hC := hC.ext h5
    replace hE := hE.trans h5
    clear h5
    obtain ⟨_, zhA0, zhA1, zhA2, zhA3, _, _, _, _⟩ := hA.four
    obtain ⟨_, zhB0, zhB1, zhB2, zhB3, _, _, _, _⟩ := hB.four
    obtain ⟨_, zhC0, zhC1, zhC2, zhC3, _, _, _, _⟩ := hC.four
    go_wp2_with fail
    refine (CBC.out _).mono ?_; rintro e w6 ⟨rfl, h6⟩
    clear zhA0 zhA1 zhA2 zhA3 zhB0 zhB1 zhB2 zhB3 zhC0 zhC1 zhC2 zhC3
    replace hA := hA.ext h6
    replace hB := hB.ext h6
    replace hC := hC.ext h6
    replace hE := hE.trans h6
    clear h6
    obtain ⟨_, zhA0, zhA1, zhA2, zhA3, _, _, _, _⟩ := hA.four
    obtain ⟨_, zhB0, zhB1, zhB2, zhB3, _, _, _, _⟩ := hB.four
    obtain ⟨_, zhC0, zhC1, zhC2, zhC3, _, _, _, _⟩ := hC.four
    go_wp2_with fail
    refine (CNA.out _).mono ?_; rintro e w7 ⟨rfl, h7⟩
    clear zhA0 zhA1 zhA2 zhA3 zhB0 zhB1 zhB2 zhB3 zhC0 zhC1 zhC2 zhC3
    replace hA := hA.ext h7
    replace hB := hB.ext h7
    replace hC := hC.ext h7
    replace hE := hE.trans h7
    clear h7
    obtain ⟨_, zhA0, zhA1, zhA2, zhA3, _, _, _, _⟩ := hA.four
    obtain ⟨_, zhB0, zhB1, zhB2, zhB3, _, _, _, _⟩ := hB.four
    obtain ⟨_, zhC0, zhC1, zhC2, zhC3, _, _, _, _⟩ := hC.four
    go_wp2_with fail
    refine (CAB.out _).mono ?_; rintro e w8 ⟨rfl, h8⟩
    clear zhA0 zhA1 zhA2 zhA3 zhB0 zhB1 zhB2 zhB3 zhC0 zhC1 zhC2 zhC3
    replace hA := hA.ext h8
    replace hB := hB.ext h8
    replace hC := hC.ext h8
    replace hE := hE.trans h8
    clear h8
    obtain ⟨_, zhA0, zhA1, zhA2, zhA3, _, _, _, _⟩ := hA.four
    obtain ⟨_, zhB0, zhB1, zhB2, zhB3, _, _, _, _⟩ := hB.four
    obtain ⟨_, zhC0, zhC1, zhC2, zhC3, _, _, _, _⟩ := hC.four
    go_wp2_with fail
    refine (CAB.out _).mono ?_; rintro e w9 ⟨rfl, h9⟩
    clear zhA0 zhA1 zhA2 zhA3 zhB0 zhB1 zhB2 zhB3 zhC0 zhC1 zhC2 zhC3
    replace hA := hA.ext h9
    replace hB := hB.ext h9
    replace hC := hC.ext h9
    replace hE := hE.trans h9
    clear h9
    obtain ⟨_, zhA0, zhA1, zhA2, zhA3, _, _, _, _⟩ := hA.four
    obtain ⟨_, zhB0, zhB1, zhB2, zhB3, _, _, _, _⟩ := hB.four
    obtain ⟨_, zhC0, zhC1, zhC2, zhC3, _, _, _, _⟩ := hC.four
    go_wp2_with fail
    refine (CO.out _).mono ?_; rintro e w10 ⟨rfl, h10⟩
    clear zhA0 zhA1 zhA2 zhA3 zhB0 zhB1 zhB2 zhB3 zhC0 zhC1 zhC2 zhC3
    replace hA := hA.ext h10
    replace hB := hB.ext h10
    replace hC := hC.ext h10
    replace hE := hE.trans h10
    clear h10
    obtain ⟨_, zhA0, zhA1, zhA2, zhA3, _, _, _, _⟩ := hA.four
    obtain ⟨_, zhB0, zhB1, zhB2, zhB3, _, _, _, _⟩ := hB.four
    obtain ⟨_, zhC0, zhC1, zhC2, zhC3, _, _, _, _⟩ := hC.four
    go_wp2
    go_ret
    exact ⟨rfl, hE⟩
  · obtain ⟨_, zhA0, zhA1, zhA2, zhA3, _, _, _, _⟩ := hA.four
    obtain ⟨_, zhB0, zhB1, zhB2, zhB3, _, _, _, _⟩ := hB.four
    obtain ⟨_, zhC0, zhC1, zhC2, zhC3, _, _, _, _⟩ := hC.four
    go_wp2_with fail
    refine (CBA.out _).mono ?_; rintro e w3 ⟨rfl, h3⟩
    clear zhA0 zhA1 zhA2 zhA3 zhB0 zhB1 zhB2 zhB3 zhC0 zhC1 zhC2 zhC3
    replace hA := hA.ext h3
    replace hB := hB.ext h3
    replace hC := hC.ext h3
    replace hE := hE.trans h3
    clear h3
    obtain ⟨_, zhA0, zhA1, zhA2, zhA3, _, _, _, _⟩ := hA.four
    obtain ⟨_, zhB0, zhB1, zhB2, zhB3, _, _, _, _⟩ := hB.four
    obtain ⟨_, zhC0, zhC1, zhC2, zhC3, _, _, _, _⟩ := hC.four
    go_wp2_with fail
    refine (CAA.out _).mono ?_; rintro e w4 ⟨rfl, h4⟩
    clear zhA0 zhA1 zhA2 zhA3 zhB0 zhB1 zhB2 zhB3 zhC0 zhC1 zhC2 zhC3
    replace hA := hA.ext h4
    replace hB := hB.ext h4
    replace hC := hC.ext h4
    replace hE := hE.trans h4
    clear h4
    obtain ⟨_, zhA0, zhA1, zhA2, zhA3, _, _, _, _⟩ := hA.four
    obtain ⟨_, zhB0, zhB1, zhB2, zhB3, _, _, _, _⟩ := hB.four
    obtain ⟨_, zhC0, zhC1, zhC2, zhC3, _, _, _, _⟩ := hC.four
    go_wp2_with fail
    refine (CAB.out _).mono ?_; rintro e w5 ⟨rfl, h5⟩
    clear zhA0 zhA1 zhA2 zhA3 zhB0 zhB1 zhB2 zhB3 zhC0 zhC1 zhC2 zhC3
    replace hA := hA.ext h5
    replace hB := hB.ext h5
    replace hC := hC.ext h5
    replace hE := hE.trans h5
    clear h5
    obtain ⟨_, zhA0, zhA1, zhA2, zhA3, _, _, _, _⟩ := hA.four
    obtain ⟨_, zhB0, zhB1, zhB2, zhB3, _, _, _, _⟩ := hB.four
    obtain ⟨_, zhC0, zhC1, zhC2, zhC3, _, _, _, _⟩ := hC.four
    go_wp2_with fail
    refine (CBC.out _).mono ?_; rintro e w6 ⟨rfl, h6⟩
    clear zhA0 zhA1 zhA2 zhA3 zhB0 zhB1 zhB2 zhB3 zhC0 zhC1 zhC2 zhC3
    replace hA := hA.ext h6
    replace hB := hB.ext h6
    replace hC := hC.ext h6
    replace hE := hE.trans h6
    clear h6
    obtain ⟨_, zhA0, zhA1, zhA2, zhA3, _, _, _, _⟩ := hA.four
    obtain ⟨_, zhB0, zhB1, zhB2, zhB3, _, _, _, _⟩ := hB.four
    obtain ⟨_, zhC0, zhC1, zhC2, zhC3, _, _, _, _⟩ := hC.four
    go_wp2_with fail
    refine (CAC.out _).mono ?_; rintro e w7 ⟨rfl, h7⟩
    clear zhA0 zhA1 zhA2 zhA3 zhB0 zhB1 zhB2 zhB3 zhC0 zhC1 zhC2 zhC3
    replace hA := hA.ext h7
    replace hB := hB.ext h7
    replace hC := hC.ext h7
    replace hE := hE.trans h7
    clear h7
    obtain ⟨_, zhA0, zhA1, zhA2, zhA3, _, _, _, _⟩ := hA.four
    obtain ⟨_, zhB0, zhB1, zhB2, zhB3, _, _, _, _⟩ := hB.four
    obtain ⟨_, zhC0, zhC1, zhC2, zhC3, _, _, _, _⟩ := hC.four
    go_wp2_with fail
    refine (CNA.out _).mono ?_; rintro e w8 ⟨rfl, h8⟩
    clear zhA0 zhA1 zhA2 zhA3 zhB0 zhB1 zhB2 zhB3 zhC0 zhC1 zhC2 zhC3
    replace hA := hA.ext h8
    replace hB := hB.ext h8
    replace hC := hC.ext h8
    replace hE := hE.trans h8
    clear h8
    obtain ⟨_, zhA0, zhA1, zhA2, zhA3, _, _, _, _⟩ := hA.four
    obtain ⟨_, zhB0, zhB1, zhB2, zhB3, _, _, _, _⟩ := hB.four
    obtain ⟨_, zhC0, zhC1, zhC2, zhC3, _, _, _, _⟩ := hC.four
    go_wp2_with fail
    refine (CAB.out _).mono ?_; rintro e w9 ⟨rfl, h9⟩
    clear zhA0 zhA1 zhA2 zhA3 zhB0 zhB1 zhB2 zhB3 zhC0 zhC1 zhC2 zhC3
    replace hA := hA.ext h9
    replace hB := hB.ext h9
    replace hC := hC.ext h9
    replace hE := hE.trans h9
    clear h9
    obtain ⟨_, zhA0, zhA1, zhA2, zhA3, _, _, _, _⟩ := hA.four
    obtain ⟨_, zhB0, zhB1, zhB2, zhB3, _, _, _, _⟩ := hB.four
    obtain ⟨_, zhC0, zhC1, zhC2, zhC3, _, _, _, _⟩ := hC.four
    go_wp2_with fail
    refine (CAB.out _).mono ?_; rintro e w10 ⟨rfl, h10⟩
    clear zhA0 zhA1 zhA2 zhA3 zhB0 zhB1 zhB2 zhB3 zhC0 zhC1 zhC2 zhC3
    replace hA := hA.ext h10
    replace hB := hB.ext h10
    replace hC := hC.ext h10
    replace hE := hE.trans h10
    clear h10
    obtain ⟨_, zhA0, zhA1, zhA2, zhA3, _, _, _, _⟩ := hA.four
    obtain ⟨_, zhB0, zhB1, zhB2, zhB3, _, _, _, _⟩ := hB.four
    obtain ⟨_, zhC0, zhC1, zhC2, zhC3, _, _, _, _⟩ := hC.four
    go_wp2_with fail
    refine (CO.out _).mono ?_; rintro e w11 ⟨rfl, h11⟩
    clear zhA0 zhA1 zhA2 zhA3 zhB0 zhB1 zhB2 zhB3 zhC0 zhC1 zhC2 zhC3
    replace hA := hA.ext h11
    replace hB := hB.ext h11
    replace hC := hC.ext h11
    replace hE := hE.trans h11
    clear h11
    obtain ⟨_, zhA0, zhA1, zhA2, zhA3, _, _, _, _⟩ := hA.four
    obtain ⟨_, zhB0, zhB1, zhB2, zhB3, _, _, _, _⟩ := hB.four
    obtain ⟨_, zhC0, zhC1, zhC2, zhC3, _, _, _, _⟩ := hC.four
    go_wp2
    go_ret
    exact ⟨rfl, hE⟩
  · obtain ⟨_, zhA0, zhA1, zhA2, zhA3, _, _, _, _⟩ := hA.four
    obtain ⟨_, zhB0, zhB1, zhB2, zhB3, _, _, _, _⟩ := hB.four
    obtain ⟨_, zhC0, zhC1, zhC2, zhC3, _, _, _, _⟩ := hC.four
    go_wp2_with fail
    refine (CBA.out _).mono ?_; rintro e w3 ⟨rfl, h3⟩
    clear zhA0 zhA1 zhA2 zhA3 zhB0 zhB1 zhB2 zhB3 zhC0 zhC1 zhC2 zhC3
    replace hA := hA.ext h3
    replace hB := hB.ext h3
    replace hC := hC.ext h3
    replace hE := hE.trans h3
    clear h3
    obtain ⟨_, zhA0, zhA1, zhA2, zhA3, _, _, _, _⟩ := hA.four
    obtain ⟨_, zhB0, zhB1, zhB2, zhB3, _, _, _, _⟩ := hB.four
    obtain ⟨_, zhC0, zhC1, zhC2, zhC3, _, _, _, _⟩ := hC.four
    go_wp2_with fail
    refine (CAA.out _).mono ?_; rintro e w4 ⟨rfl, h4⟩
    clear zhA0 zhA1 zhA2 zhA3 zhB0 zhB1 zhB2 zhB3 zhC0 zhC1 zhC2 zhC3
    replace hA := hA.ext h4
    replace hB := hB.ext h4
    replace hC := hC.ext h4
    replace hE := hE.trans h4
    clear h4
    obtain ⟨_, zhA0, zhA1, zhA2, zhA3, _, _, _, _⟩ := hA.four
    obtain ⟨_, zhB0, zhB1, zhB2, zhB3, _, _, _, _⟩ := hB.four
    obtain ⟨_, zhC0, zhC1, zhC2, zhC3, _, _, _, _⟩ := hC.four
    go_wp2_with fail
    refine (CAB.out _).mono ?_; rintro e w5 ⟨rfl, h5⟩
    clear zhA0 zhA1 zhA2 zhA3 zhB0 zhB1 zhB2 zhB3 zhC0 zhC1 zhC2 zhC3
    replace hA := hA.ext h5
    replace hB := hB.ext h5
    replace hC := hC.ext h5
    replace hE := hE.trans h5
    clear h5
    obtain ⟨_, zhA0, zhA1, zhA2, zhA3, _, _, _, _⟩ := hA.four
    obtain ⟨_, zhB0, zhB1, zhB2, zhB3, _, _, _, _⟩ := hB.four
    obtain ⟨_, zhC0, zhC1, zhC2, zhC3, _, _, _, _⟩ := hC.four
    go_wp2_with fail
    refine (CBC.out _).mono ?_; rintro e w6 ⟨rfl, h6⟩
    clear zhA0 zhA1 zhA2 zhA3 zhB0 zhB1 zhB2 zhB3 zhC0 zhC1 zhC2 zhC3
    replace hA := hA.ext h6
    replace hB := hB.ext h6
    replace hC := hC.ext h6
    replace hE := hE.trans h6
    clear h6
    obtain ⟨_, zhA0, zhA1, zhA2, zhA3, _, _, _, _⟩ := hA.four
    obtain ⟨_, zhB0, zhB1, zhB2, zhB3, _, _, _, _⟩ := hB.four
    obtain ⟨_, zhC0, zhC1, zhC2, zhC3, _, _, _, _⟩ := hC.four
    go_wp2_with fail
    refine (CNA.out _).mono ?_; rintro e w7 ⟨rfl, h7⟩
    clear zhA0 zhA1 zhA2 zhA3 zhB0 zhB1 zhB2 zhB3 zhC0 zhC1 zhC2 zhC3
    replace hA := hA.ext h7
    replace hB := hB.ext h7
    replace hC := hC.ext h7
    replace hE := hE.trans h7
    clear h7
    obtain ⟨_, zhA0, zhA1, zhA2, zhA3, _, _, _, _⟩ := hA.four
    obtain ⟨_, zhB0, zhB1, zhB2, zhB3, _, _, _, _⟩ := hB.four
    obtain ⟨_, zhC0, zhC1, zhC2, zhC3, _, _, _, _⟩ := hC.four
    go_wp2_with fail
    refine (CAB.out _).mono ?_; rintro e w8 ⟨rfl, h8⟩
    clear zhA0 zhA1 zhA2 zhA3 zhB0 zhB1 zhB2 zhB3 zhC0 zhC1 zhC2 zhC3
    replace hA := hA.ext h8
    replace hB := hB.ext h8
    replace hC := hC.ext h8
    replace hE := hE.trans h8
    clear h8
    obtain ⟨_, zhA0, zhA1, zhA2, zhA3, _, _, _, _⟩ := hA.four
    obtain ⟨_, zhB0, zhB1, zhB2, zhB3, _, _, _, _⟩ := hB.four
    obtain ⟨_, zhC0, zhC1, zhC2, zhC3, _, _, _, _⟩ := hC.four
    go_wp2_with fail
    refine (CAB.out _).mono ?_; rintro e w9 ⟨rfl, h9⟩
    clear zhA0 zhA1 zhA2 zhA3 zhB0 zhB1 zhB2 zhB3 zhC0 zhC1 zhC2 zhC3
    replace hA := hA.ext h9
    replace hB := hB.ext h9
    replace hC := hC.ext h9
    replace hE := hE.trans h9
    clear h9
    obtain ⟨_, zhA0, zhA1, zhA2, zhA3, _, _, _, _⟩ := hA.four
    obtain ⟨_, zhB0, zhB1, zhB2, zhB3, _, _, _, _⟩ := hB.four
    obtain ⟨_, zhC0, zhC1, zhC2, zhC3, _, _, _, _⟩ := hC.four
    go_wp2_with fail
    refine (CO.out _).mono ?_; rintro e w10 ⟨rfl, h10⟩
    clear zhA0 zhA1 zhA2 zhA3 zhB0 zhB1 zhB2 zhB3 zhC0 zhC1 zhC2 zhC3
    replace hA := hA.ext h10
    replace hB := hB.ext h10
    replace hC := hC.ext h10
    replace hE := hE.trans h10
    clear h10
    obtain ⟨_, zhA0, zhA1, zhA2, zhA3, _, _, _, _⟩ := hA.four
    obtain ⟨_, zhB0, zhB1, zhB2, zhB3, _, _, _, _⟩ := hB.four
    obtain ⟨_, zhC0, zhC1, zhC2, zhC3, _, _, _, _⟩ := hC.four
    go_wp2
    go_ret
    exact ⟨rfl, hE⟩
  · obtain ⟨_, zhA0, zhA1, zhA2, zhA3, _, _, _, _⟩ := hA.four
    obtain ⟨_, zhB0, zhB1, zhB2, zhB3, _, _, _, _⟩ := hB.four
    obtain ⟨_, zhC0, zhC1, zhC2, zhC3, _, _, _, _⟩ := hC.four
    go_wp2_with fail
    refine (CBA.out _).mono ?_; rintro e w3 ⟨rfl, h3⟩
    clear zhA0 zhA1 zhA2 zhA3 zhB0 zhB1 zhB2 zhB3 zhC0 zhC1 zhC2 zhC3
    replace hA := hA.ext h3
    replace hB := hB.ext h3
    replace hC := hC.ext h3
    replace hE := hE.trans h3
    clear h3
    obtain ⟨_, zhA0, zhA1, zhA2, zhA3, _, _, _, _⟩ := hA.four
    obtain ⟨_, zhB0, zhB1, zhB2, zhB3, _, _, _, _⟩ := hB.four
    obtain ⟨_, zhC0, zhC1, zhC2, zhC3, _, _, _, _⟩ := hC.four
    go_wp2_with fail
    refine (CAA.out _).mono ?_; rintro e w4 ⟨rfl, h4⟩
    clear zhA0 zhA1 zhA2 zhA3 zhB0 zhB1 zhB2 zhB3 zhC0 zhC1 zhC2 zhC3
    replace hA := hA.ext h4
    replace hB := hB.ext h4
    replace hC := hC.ext h4
    replace hE := hE.trans h4
    clear h4
    obtain ⟨_, zhA0, zhA1, zhA2, zhA3, _, _, _, _⟩ := hA.four
    obtain ⟨_, zhB0, zhB1, zhB2, zhB3, _, _, _, _⟩ := hB.four
    obtain ⟨_, zhC0, zhC1, zhC2, zhC3, _, _, _, _⟩ := hC.four
    go_wp2_with fail
    refine (CAB.out _).mono ?_; rintro e w5 ⟨rfl, h5⟩
    clear zhA0 zhA1 zhA2 zhA3 zhB0 zhB1 zhB2 zhB3 zhC0 zhC1 zhC2 zhC3
    replace hA := hA.ext h5
    replace hB := hB.ext h5
    replace hC := hC.ext h5
    replace hE := hE.trans h5
    clear h5
    obtain ⟨_, zhA0, zhA1, zhA2, zhA3, _, _, _, _⟩ := hA.four
    obtain ⟨_, zhB0, zhB1, zhB2, zhB3, _, _, _, _⟩ := hB.four
    obtain ⟨_, zhC0, zhC1, zhC2, zhC3, _, _, _, _⟩ := hC.four
    go_wp2_with fail
    refine (CBC.out _).mono ?_; rintro e w6 ⟨rfl, h6⟩
    clear zhA0 zhA1 zhA2 zhA3 zhB0 zhB1 zhB2 zhB3 zhC0 zhC1 zhC2 zhC3
    replace hA := hA.ext h6
    replace hB := hB.ext h6
    replace hC := hC.ext h6
    replace hE := hE.trans h6
    clear h6
    obtain ⟨_, zhA0, zhA1, zhA2, zhA3, _, _, _, _⟩ := hA.four
    obtain ⟨_, zhB0, zhB1, zhB2, zhB3, _, _, _, _⟩ := hB.four
    obtain ⟨_, zhC0, zhC1, zhC2, zhC3, _, _, _, _⟩ := hC.four
    go_wp2_with fail
    refine (CAC.out _).mono ?_; rintro e w7 ⟨rfl, h7⟩
    clear zhA0 zhA1 zhA2 zhA3 zhB0 zhB1 zhB2 zhB3 zhC0 zhC1 zhC2 zhC3
    replace hA := hA.ext h7
    replace hB := hB.ext h7
    replace hC := hC.ext h7
    replace hE := hE.trans h7
    clear h7
    obtain ⟨_, zhA0, zhA1, zhA2, zhA3, _, _, _, _⟩ := hA.four
    obtain ⟨_, zhB0, zhB1, zhB2, zhB3, _, _, _, _⟩ := hB.four
    obtain ⟨_, zhC0, zhC1, zhC2, zhC3, _, _, _, _⟩ := hC.four
    go_wp2_with fail
    refine (CNA.out _).mono ?_; rintro e w8 ⟨rfl, h8⟩
    clear zhA0 zhA1 zhA2 zhA3 zhB0 zhB1 zhB2 zhB3 zhC0 zhC1 zhC2 zhC3
    replace hA := hA.ext h8
    replace hB := hB.ext h8
    replace hC := hC.ext h8
    replace hE := hE.trans h8
    clear h8
    obtain ⟨_, zhA0, zhA1, zhA2, zhA3, _, _, _, _⟩ := hA.four
    obtain ⟨_, zhB0, zhB1, zhB2, zhB3, _, _, _, _⟩ := hB.four
    obtain ⟨_, zhC0, zhC1, zhC2, zhC3, _, _, _, _⟩ := hC.four
    go_wp2_with fail
    refine (CAB.out _).mono ?_; rintro e w9 ⟨rfl, h9⟩
    clear zhA0 zhA1 zhA2 zhA3 zhB0 zhB1 zhB2 zhB3 zhC0 zhC1 zhC2 zhC3
    replace hA := hA.ext h9
    replace hB := hB.ext h9
    replace hC := hC.ext h9
    replace hE := hE.trans h9
    clear h9
    obtain ⟨_, zhA0, zhA1, zhA2, zhA3, _, _, _, _⟩ := hA.four
    obtain ⟨_, zhB0, zhB1, zhB2, zhB3, _, _, _, _⟩ := hB.four
    obtain ⟨_, zhC0, zhC1, zhC2, zhC3, _, _, _, _⟩ := hC.four
    go_wp2_with fail
    refine (CAB.out _).mono ?_; rintro e w10 ⟨rfl, h10⟩
    clear zhA0 zhA1 zhA2 zhA3 zhB0 zhB1 zhB2 zhB3 zhC0 zhC1 zhC2 zhC3
    replace hA := hA.ext h10
    replace hB := hB.ext h10
    replace hC := hC.ext h10
    replace hE := hE.trans h10
    clear h10
    obtain ⟨_, zhA0, zhA1, zhA2, zhA3, _, _, _, _⟩ := hA.four
    obtain ⟨_, zhB0, zhB1, zhB2, zhB3, _, _, _, _⟩ := hB.four
    obtain ⟨_, zhC0, zhC1, zhC2, zhC3, _, _, _, _⟩ := hC.four
    go_wp2_with fail
    refine (CO.out _).mono ?_; rintro e w11 ⟨rfl, h11⟩
    clear zhA0 zhA1 zhA2 zhA3 zhB0 zhB1 zhB2 zhB3 zhC0 zhC1 zhC2 zhC3
    replace hA := hA.ext h11
    replace hB := hB.ext h11
    replace hC := hC.ext h11
    replace hE := hE.trans h11
    clear h11
    obtain ⟨_, zhA0, zhA1, zhA2, zhA3, _, _, _, _⟩ := hA.four
    obtain ⟨_, zhB0, zhB1, zhB2, zhB3, _, _, _, _⟩ := hB.four
    obtain ⟨_, zhC0, zhC1, zhC2, zhC3, _, _, _, _⟩ := hC.four
    go_wp2
    go_ret
    exact ⟨rfl, hE⟩

end Go.Proofs.YtibimbcjnjefdaaDoor
