/- Chapter 3: the walk of VecOrder. -/
import Derived.Test.YtibimbcjnjefdaaDoorVcExam
import Derived.Test.YtibimbcjnjefdaaDoorVcLaws
namespace Go.Proofs.YtibimbcjnjefdaaDoor
open Go.RowKit Go.Dm

set_option maxHeartbeats 2000000 in
set_option maxRecDepth 100000 in
theorem vecOrder_w (a b c : Vc) (w : World) (oa : OkV a) (ob : OkV b) (oc : OkV c) (hv : VarsV w) :
    Calls Tryd.prog 6 #[vVal a, vVal b, vVal c] w fun e w' => e = .returned (.bool true) ∧ Ext w w' := by
  have CE := fun U h => vexamples_w U h
  have C1 := fun U => vorder_w a b oa ob U
  have C2 := fun U => vorder_w b a ob oa U
  have C3 := fun U => vorder_w b c ob oc U
  have C4 := fun U => vorder_w a c oa oc U
  have q1 := fun U => run_eql_vals (P := Tryd.prog) Tryd.underlying24 Tryd.underlying22 (by kernel_rfl) oa ob U
  have K : (vord a b = 1 ∧ vord b a = -1 ∧ decide (a = b) = false) ∨ (vord a b = 0 ∧ vord b a = 0 ∧ decide (a = b) = true) ∨ (vord a b = -1 ∧ vord b a = 1 ∧ decide (a = b) = false ∧ (vord b c = 0 ∨ vord b c = 1 ∨ (vord b c = -1 ∧ vord a c = -1))) := by
    have hz := vord_zero oa ob
    have hf := vord_flip a b
    rcases vord_cases a b with h | h | h
    · refine Or.inr (Or.inr ⟨h, by omega, by simp; intro e; have := hz.2 e; omega, ?_⟩)
      rcases vord_cases b c with h' | h' | h'
      · exact Or.inr (Or.inr ⟨h', vord_trans oa ob oc h h'⟩)
      · exact Or.inl h'
      · exact Or.inr (Or.inl h')
    · exact Or.inr (Or.inl ⟨h, by omega, by simpa using hz.1 h⟩)
    · exact Or.inl ⟨h, by omega, by simp; intro e; have := hz.2 e; omega⟩
  generalize vord a b = p at *
  generalize vord b a = q at *
  generalize vord b c = r at *
  generalize vord a c = s at *
  generalize decide (a = b) = d at *
  have hA := VBox.new w (vG a) 24
  replace hA := hA.ext (((Ext.refl _).alloc (.cells #[.int .u64 (vG b 0 : Nat), .int .u64 (vG b 1 : Nat), .int .u64 (vG b 2 : Nat), .int .u64 (vG b 3 : Nat)] 24)).alloc (.cells #[.int .u64 (vG c 0 : Nat), .int .u64 (vG c 1 : Nat), .int .u64 (vG c 2 : Nat), .int .u64 (vG c 3 : Nat)] 24))
  change VBox (w.heap.size) (vG a) (((w.alloc (.cells #[.int .u64 (vG a 0 : Nat), .int .u64 (vG a 1 : Nat), .int .u64 (vG a 2 : Nat), .int .u64 (vG a 3 : Nat)] 24)).alloc (.cells #[.int .u64 (vG b 0 : Nat), .int .u64 (vG b 1 : Nat), .int .u64 (vG b 2 : Nat), .int .u64 (vG b 3 : Nat)] 24)).alloc (.cells #[.int .u64 (vG c 0 : Nat), .int .u64 (vG c 1 : Nat), .int .u64 (vG c 2 : Nat), .int .u64 (vG c 3 : Nat)] 24)) at hA
  have hB := VBox.new (w.alloc (.cells #[.int .u64 (vG a 0 : Nat), .int .u64 (vG a 1 : Nat), .int .u64 (vG a 2 : Nat), .int .u64 (vG a 3 : Nat)] 24)) (vG b) 24
  simp only [World.size_alloc] at hB
  replace hB := hB.ext ((Ext.refl _).alloc (.cells #[.int .u64 (vG c 0 : Nat), .int .u64 (vG c 1 : Nat), .int .u64 (vG c 2 : Nat), .int .u64 (vG c 3 : Nat)] 24))
  change VBox (w.heap.size + 1) (vG b) (((w.alloc (.cells #[.int .u64 (vG a 0 : Nat), .int .u64 (vG a 1 : Nat), .int .u64 (vG a 2 : Nat), .int .u64 (vG a 3 : Nat)] 24)).alloc (.cells #[.int .u64 (vG b 0 : Nat), .int .u64 (vG b 1 : Nat), .int .u64 (vG b 2 : Nat), .int .u64 (vG b 3 : Nat)] 24)).alloc (.cells #[.int .u64 (vG c 0 : Nat), .int .u64 (vG c 1 : Nat), .int .u64 (vG c 2 : Nat), .int .u64 (vG c 3 : Nat)] 24)) at hB
  have hC := VBox.new ((w.alloc (.cells #[.int .u64 (vG a 0 : Nat), .int .u64 (vG a 1 : Nat), .int .u64 (vG a 2 : Nat), .int .u64 (vG a 3 : Nat)] 24)).alloc (.cells #[.int .u64 (vG b 0 : Nat), .int .u64 (vG b 1 : Nat), .int .u64 (vG b 2 : Nat), .int .u64 (vG b 3 : Nat)] 24)) (vG c) 24
  simp only [World.size_alloc] at hC
  change VBox (w.heap.size + 1 + 1) (vG c) (((w.alloc (.cells #[.int .u64 (vG a 0 : Nat), .int .u64 (vG a 1 : Nat), .int .u64 (vG a 2 : Nat), .int .u64 (vG a 3 : Nat)] 24)).alloc (.cells #[.int .u64 (vG b 0 : Nat), .int .u64 (vG b 1 : Nat), .int .u64 (vG b 2 : Nat), .int .u64 (vG b 3 : Nat)] 24)).alloc (.cells #[.int .u64 (vG c 0 : Nat), .int .u64 (vG c 1 : Nat), .int .u64 (vG c 2 : Nat), .int .u64 (vG c 3 : Nat)] 24)) at hC
  have hE : Ext w (((w.alloc (.cells #[.int .u64 (vG a 0 : Nat), .int .u64 (vG a 1 : Nat), .int .u64 (vG a 2 : Nat), .int .u64 (vG a 3 : Nat)] 24)).alloc (.cells #[.int .u64 (vG b 0 : Nat), .int .u64 (vG b 1 : Nat), .int .u64 (vG b 2 : Nat), .int .u64 (vG b 3 : Nat)] 24)).alloc (.cells #[.int .u64 (vG c 0 : Nat), .int .u64 (vG c 1 : Nat), .int .u64 (vG c 2 : Nat), .int .u64 (vG c 3 : Nat)] 24)) := ((((Ext.refl w).alloc _).alloc _).alloc _)
  clear oa ob oc
  unfold vVal vF at C1 C2 C3 C4 q1
  replace CE := Lib.hid CE
  replace C1 := Lib.hid C1
  replace C2 := Lib.hid C2
  replace C3 := Lib.hid C3
  replace C4 := Lib.hid C4
  unfold vVal vF
  go_enter Tryd.func6, Tryd.ntmps6
  obtain ⟨_, zhA0, zhA1, zhA2, zhA3, _, _, _, _⟩ := hA.four
  obtain ⟨_, zhB0, zhB1, zhB2, zhB3, _, _, _, _⟩ := hB.four
  obtain ⟨_, zhC0, zhC1, zhC2, zhC3, _, _, _, _⟩ := hC.four
  go_wp2_with fail
  refine (CE.out _ (hv.ext hE)).mono ?_; rintro e w1 ⟨rfl, h1⟩
  clear zhA0 zhA1 zhA2 zhA3 zhB0 zhB1 zhB2 zhB3 zhC0 zhC1 zhC2 zhC3
  replace hA := hA.ext h1
  replace hB := hB.ext h1
  replace hC := hC.ext h1
  replace hE := hE.trans h1
  clear h1
  obtain ⟨_, zhA0, zhA1, zhA2, zhA3, _, _, _, _⟩ := hA.four
  obtain ⟨_, zhB0, zhB1, zhB2, zhB3, _, _, _, _⟩ := hB.four
  obtain ⟨_, zhC0, zhC1, zhC2, zhC3, _, _, _, _⟩ := hC.four
  go_wp2_with fail
  refine (C1.out _).mono ?_; rintro e w2 ⟨rfl, h2⟩
  clear zhA0 zhA1 zhA2 zhA3 zhB0 zhB1 zhB2 zhB3 zhC0 zhC1 zhC2 zhC3
  replace hA := hA.ext h2
  replace hB := hB.ext h2
  replace hC := hC.ext h2
  replace hE := hE.trans h2
  clear h2
  obtain ⟨_, zhA0, zhA1, zhA2, zhA3, _, _, _, _⟩ := hA.four
  obtain ⟨_, zhB0, zhB1, zhB2, zhB3, _, _, _, _⟩ := hB.four
  obtain ⟨_, zhC0, zhC1, zhC2, zhC3, _, _, _, _⟩ := hC.four
  go_wp2_with fail
  refine (C2.out _).mono ?_; rintro e w3 ⟨rfl, h3⟩
  clear zhA0 zhA1 zhA2 zhA3 zhB0 zhB1 zhB2 zhB3 zhC0 zhC1 zhC2 zhC3
  replace hA := hA.ext h3
  replace hB := hB.ext h3
  replace hC := hC.ext h3
  replace hE := hE.trans h3
  clear h3
  rcases K with ⟨rfl, rfl, rfl⟩ | ⟨rfl, rfl, rfl⟩ | ⟨rfl, rfl, rfl, rfl | rfl | ⟨rfl, rfl⟩⟩
  · obtain ⟨_, zhA0, zhA1, zhA2, zhA3, _, _, _, _⟩ := hA.four
    obtain ⟨_, zhB0, zhB1, zhB2, zhB3, _, _, _, _⟩ := hB.four
    obtain ⟨_, zhC0, zhC1, zhC2, zhC3, _, _, _, _⟩ := hC.four
    go_wp2
    go_ret
    exact ⟨rfl, hE⟩
  · obtain ⟨_, zhA0, zhA1, zhA2, zhA3, _, _, _, _⟩ := hA.four
    obtain ⟨_, zhB0, zhB1, zhB2, zhB3, _, _, _, _⟩ := hB.four
    obtain ⟨_, zhC0, zhC1, zhC2, zhC3, _, _, _, _⟩ := hC.four
    go_wp2
    go_ret
    exact ⟨rfl, hE⟩
  · obtain ⟨_, zhA0, zhA1, zhA2, zhA3, _, _, _, _⟩ := hA.four
    obtain ⟨_, zhB0, zhB1, zhB2, zhB3, _, _, _, _⟩ := hB.four
    obtain ⟨_, zhC0, zhC1, zhC2, zhC3, _, _, _, _⟩ := hC.four
    go_wp2_with fail
    refine (C3.out _).mono ?_; rintro e w4 ⟨rfl, h4⟩
    clear zhA0 zhA1 zhA2 zhA3 zhB0 zhB1 zhB2 zhB3 zhC0 zhC1 zhC2 zhC3
    replace hA := hA.ext h4
    replace hB := hB.ext h4
    replace hC := hC.ext h4
    replace hE := hE.trans h4
    clear h4
    obtain ⟨_, zhA0, zhA1, zhA2, zhA3, _, _, _, _⟩ := hA.four
    obtain ⟨_, zhB0, zhB1, zhB2, zhB3, _, _, _, _⟩ := hB.four
    obtain ⟨_, zhC0, zhC1, zhC2, zhC3, _, _, _, _⟩ := hC.four
    go_wp2
    go_ret
    exact ⟨rfl, hE⟩
  · obtain ⟨_, zhA0, zhA1, zhA2, zhA3, _, _, _, _⟩ := hA.four
    obtain ⟨_, zhB0, zhB1, zhB2, zhB3, _, _, _, _⟩ := hB.four
    obtain ⟨_, zhC0, zhC1, zhC2, zhC3, _, _, _, _⟩ := hC.four
    go_wp2_with fail
    refine (C3.out _).mono ?_; rintro e w4 ⟨rfl, h4⟩
    clear zhA0 zhA1 zhA2 zhA3 zhB0 zhB1 zhB2 zhB3 zhC0 zhC1 zhC2 zhC3
    replace hA := hA.ext h4
    replace hB := hB.ext h4
    replace hC := hC.ext h4
    replace hE := hE.trans h4
    clear h4
    obtain ⟨_, zhA0, zhA1, zhA2, zhA3, _, _, _, _⟩ := hA.four
    obtain ⟨_, zhB0, zhB1, zhB2, zhB3, _, _, _, _⟩ := hB.four
    obtain ⟨_, zhC0, zhC1, zhC2, zhC3, _, _, _, _⟩ := hC.four
    go_wp2
    go_ret
    exact ⟨rfl, hE⟩
  · obtain ⟨_, zhA0, zhA1, zhA2, zhA3, _, _, _, _⟩ := hA.four
    obtain ⟨_, zhB0, zhB1, zhB2, zhB3, _, _, _, _⟩ := hB.four
    obtain ⟨_, zhC0, zhC1, zhC2, zhC3, _, _, _, _⟩ := hC.four
    go_wp2_with fail
    refine (C3.out _).mono ?_; rintro e w4 ⟨rfl, h4⟩
    clear zhA0 zhA1 zhA2 zhA3 zhB0 zhB1 zhB2 zhB3 zhC0 zhC1 zhC2 zhC3
    replace hA := hA.ext h4
    replace hB := hB.ext h4
    replace hC := hC.ext h4
    replace hE := hE.trans h4
    clear h4
    obtain ⟨_, zhA0, zhA1, zhA2, zhA3, _, _, _, _⟩ := hA.four
    obtain ⟨_, zhB0, zhB1, zhB2, zhB3, _, _, _, _⟩ := hB.four
    obtain ⟨_, zhC0, zhC1, zhC2, zhC3, _, _, _, _⟩ := hC.four
    go_wp2_with fail
    refine (C4.out _).mono ?_; rintro e w5 ⟨rfl, h5⟩
    clear zhA0 zhA1 zhA2 zhA3 zhB0 zhB1 zhB2 zhB3 zhC0 zhC1 zhC2 zhC3
    replace hA := hA.ext h5
    replace hB := hB.ext h5
    replace hC := hC.ext h5
    replace hE := hE.trans h5
    clear h5
    obtain ⟨_, zhA0, zhA1, zhA2, zhA3, _, _, _, _⟩ := hA.four
    obtain ⟨_, zhB0, zhB1, zhB2, zhB3, _, _, _, _⟩ := hB.four
    obtain ⟨_, zhC0, zhC1, zhC2, zhC3, _, _, _, _⟩ := hC.four
    go_wp2
    go_ret
    exact ⟨rfl, hE⟩

end Go.Proofs.YtibimbcjnjefdaaDoor
