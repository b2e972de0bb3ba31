/- Chapter 3: the walk of VecSums. -/
import Derived.Test.YtibimbcjnjefdaaDoorVcExam
import Derived.Test.YtibimbcjnjefdaaDoorVcLawsB
namespace Go.Proofs.YtibimbcjnjefdaaDoor
open Go.RowKit Go.Dm

set_option maxHeartbeats 4000000 in
set_option maxRecDepth 100000 in
theorem vecSums_w (a b : Vc) (w : World) (oa : OkV a) (ob : OkV b) (hv : VarsV w) :
    Calls Tryd.prog 4 #[vVal a, vVal b] w fun e w' => e = .returned (.bool true) ∧ Ext w w' := by
  have CE := fun U h => vexamples_w U h
  have oc := vadd_or_okV a b
  have of := vsub_or_okV oa b
  have C1 := fun U => vadd_w a b oa ob U
  have C2 := fun U => vadd_w b a ob oa U
  rw [vaddOk_comm, vadd_comm] at C2
  have C3 := fun U => vsub_w _ b oc ob U
  have C4 := fun U => vsub_w a b oa ob U
  have C5 := fun U => vadd_w _ b of ob U
  have C6 := fun U => vfits_w a _ oa oc U
  have C7 := fun U => vfits_w b a ob oa U
  have oe := vsub_or_okV oc b
  have og := vadd_or_okV (vOr (vfits b a) (vsub a b)) b
  have q1 := fun U => run_neq_vals (P := Tryd.prog) Tryd.underlying24 Tryd.underlying22 (by kernel_rfl) oc oc U
  have q2 := fun U => run_neq_vals (P := Tryd.prog) Tryd.underlying24 Tryd.underlying22 (by kernel_rfl) oe oa U
  have q3 : ∀ U, (binOp .neq 24 (vVal (vOr (vaddOk a b) (vadd a b))) (.agg #[.int .u64 0, .int .u64 0, .int .u64 0, .int .u64 0])).run Tryd.prog U = _ := fun U => run_neq_vals (P := Tryd.prog) Tryd.underlying24 Tryd.underlying22 (by kernel_rfl) oc okV_no U
  have q4 := fun U => run_eql_vals (P := Tryd.prog) Tryd.underlying24 Tryd.underlying22 (by kernel_rfl) og oa U
  have q5 : ∀ U, (binOp .eql 24 (vVal (vOr (vfits b a) (vsub a b))) (.agg #[.int .u64 0, .int .u64 0, .int .u64 0, .int .u64 0])).run Tryd.prog U = _ := fun U => run_eql_vals (P := Tryd.prog) Tryd.underlying24 Tryd.underlying22 (by kernel_rfl) of okV_no U
  simp only [decide_true, Bool.not_true] at q1
  have K1 : (vaddOk a b = true ∧ vfits b (vOr (vaddOk a b) (vadd a b)) = true ∧ vfits a (vOr (vaddOk a b) (vadd a b)) = true ∧ decide (vOr (vfits b (vOr (vaddOk a b) (vadd a b))) (vsub (vOr (vaddOk a b) (vadd a b)) b) = a) = true) ∨
      (vaddOk a b = false ∧ decide (vOr (vaddOk a b) (vadd a b) = noV) = true) := by
    cases h : vaddOk a b with
    | false => exact Or.inr ⟨rfl, by simp [vOr]⟩
    | true =>
      have := vsub_add (a := a) (b := b) oa
      refine Or.inl ⟨rfl, ?_⟩
      simp [vOr, this.1, this.2.1, this.2.2]
  have K2 : (vfits b a = true ∧ vaddOk (vOr (vfits b a) (vsub a b)) b = true ∧ decide (vOr (vaddOk (vOr (vfits b a) (vsub a b)) b) (vadd (vOr (vfits b a) (vsub a b)) b) = a) = true) ∨
      (vfits b a = false ∧ decide (vOr (vfits b a) (vsub a b) = noV) = true) := by
    cases h : vfits b a with
    | false => exact Or.inr ⟨rfl, by simp [vOr]⟩
    | true =>
      have := vadd_sub oa h
      refine Or.inl ⟨rfl, ?_⟩
      simp [vOr, this.1, this.2]
  clear oa ob oc of oe og
  generalize vOr (vaddOk (vOr (vfits b a) (vsub a b)) b) (vadd (vOr (vfits b a) (vsub a b)) b) = gg at *
  generalize vaddOk (vOr (vfits b a) (vsub a b)) b = sm at *
  generalize vOr (vfits b a) (vsub a b) = ff at *
  generalize vfits b a = ft at *
  generalize vOr (vfits b (vOr (vaddOk a b) (vadd a b))) (vsub (vOr (vaddOk a b) (vadd a b)) b) = ee at *
  generalize vfits b (vOr (vaddOk a b) (vadd a b)) = bk at *
  generalize vfits a (vOr (vaddOk a b) (vadd a b)) = x at *
  generalize vOr (vaddOk a b) (vadd a b) = cc at *
  generalize vaddOk a b = ok at *
  generalize decide (gg = a) = d4 at *
  generalize decide (ff = noV) = d5 at *
  generalize decide (ee = a) = d2 at *
  generalize decide (cc = noV) = d3 at *
  have hA := VBox.new w (vG a) 24
  replace hA := hA.ext ((Ext.refl _).alloc (.cells #[.int .u64 (vG b 0 : Nat), .int .u64 (vG b 1 : Nat), .int .u64 (vG b 2 : Nat), .int .u64 (vG b 3 : Nat)] 24))
  change VBox (w.heap.size) (vG a) ((w.alloc (.cells #[.int .u64 (vG a 0 : Nat), .int .u64 (vG a 1 : Nat), .int .u64 (vG a 2 : Nat), .int .u64 (vG a 3 : Nat)] 24)).alloc (.cells #[.int .u64 (vG b 0 : Nat), .int .u64 (vG b 1 : Nat), .int .u64 (vG b 2 : Nat), .int .u64 (vG b 3 : Nat)] 24)) at hA
  have hB := VBox.new (w.alloc (.cells #[.int .u64 (vG a 0 : Nat), .int .u64 (vG a 1 : Nat), .int .u64 (vG a 2 : Nat), .int .u64 (vG a 3 : Nat)] 24)) (vG b) 24
  simp only [World.size_alloc] at hB
  change VBox (w.heap.size + 1) (vG b) ((w.alloc (.cells #[.int .u64 (vG a 0 : Nat), .int .u64 (vG a 1 : Nat), .int .u64 (vG a 2 : Nat), .int .u64 (vG a 3 : Nat)] 24)).alloc (.cells #[.int .u64 (vG b 0 : Nat), .int .u64 (vG b 1 : Nat), .int .u64 (vG b 2 : Nat), .int .u64 (vG b 3 : Nat)] 24)) at hB
  have hE : Ext w ((w.alloc (.cells #[.int .u64 (vG a 0 : Nat), .int .u64 (vG a 1 : Nat), .int .u64 (vG a 2 : Nat), .int .u64 (vG a 3 : Nat)] 24)).alloc (.cells #[.int .u64 (vG b 0 : Nat), .int .u64 (vG b 1 : Nat), .int .u64 (vG b 2 : Nat), .int .u64 (vG b 3 : Nat)] 24)) := (((Ext.refl w).alloc _).alloc _)
  unfold vVal vF at C1 C2 C3 C4 C5 C6 C7 q1 q2 q3 q4 q5
  replace CE := Lib.hid CE
  replace C1 := Lib.hid C1
  replace C2 := Lib.hid C2
  replace C3 := Lib.hid C3
  replace C4 := Lib.hid C4
  replace C5 := Lib.hid C5
  replace C6 := Lib.hid C6
  replace C7 := Lib.hid C7
  unfold vVal vF
  go_enter Tryd.func4, Tryd.ntmps4
  obtain ⟨_, zhA0, zhA1, zhA2, zhA3, _, _, _, _⟩ := hA.four
  obtain ⟨_, zhB0, zhB1, zhB2, zhB3, _, _, _, _⟩ := hB.four
  go_wp2_with fail
  refine (CE.out _ (hv.ext hE)).mono ?_; rintro e w1 ⟨rfl, h1⟩
  clear zhA0 zhA1 zhA2 zhA3 zhB0 zhB1 zhB2 zhB3
  replace hA := hA.ext h1
  replace hB := hB.ext h1
  replace hE := hE.trans h1
  clear h1
  obtain ⟨_, zhA0, zhA1, zhA2, zhA3, _, _, _, _⟩ := hA.four
  obtain ⟨_, zhB0, zhB1, zhB2, zhB3, _, _, _, _⟩ := hB.four
  go_wp2_with fail
  refine (C1.out _).mono ?_; rintro e w2 ⟨rfl, h2⟩
  clear zhA0 zhA1 zhA2 zhA3 zhB0 zhB1 zhB2 zhB3
  replace hA := hA.ext h2
  replace hB := hB.ext h2
  replace hE := hE.trans h2
  clear h2
  obtain ⟨_, zhA0, zhA1, zhA2, zhA3, _, _, _, _⟩ := hA.four
  obtain ⟨_, zhB0, zhB1, zhB2, zhB3, _, _, _, _⟩ := hB.four
  have hCn := VBox.new w2 (vG cc) 24
  go_wp2_with fail
  refine (C2.out _).mono ?_; rintro e w3 ⟨rfl, h3⟩
  clear zhA0 zhA1 zhA2 zhA3 zhB0 zhB1 zhB2 zhB3
  have hC := hCn.ext h3
  replace h3 := ((Ext.refl w2).alloc (.cells #[.int .u64 (vG cc 0 : Nat), .int .u64 (vG cc 1 : Nat), .int .u64 (vG cc 2 : Nat), .int .u64 (vG cc 3 : Nat)] 24)).trans h3
  clear hCn
  replace hA := hA.ext h3
  replace hB := hB.ext h3
  replace hE := hE.trans h3
  clear h3
  obtain ⟨_, zhA0, zhA1, zhA2, zhA3, _, _, _, _⟩ := hA.four
  obtain ⟨_, zhB0, zhB1, zhB2, zhB3, _, _, _, _⟩ := hB.four
  obtain ⟨_, zhC0, zhC1, zhC2, zhC3, _, _, _, _⟩ := hC.four
  have hDn := VBox.new w3 (vG cc) 24
  go_wp2_with fail
  refine (C3.out _).mono ?_; rintro e w4 ⟨rfl, h4⟩
  clear zhA0 zhA1 zhA2 zhA3 zhB0 zhB1 zhB2 zhB3 zhC0 zhC1 zhC2 zhC3
  have hD := hDn.ext h4
  replace h4 := ((Ext.refl w3).alloc (.cells #[.int .u64 (vG cc 0 : Nat), .int .u64 (vG cc 1 : Nat), .int .u64 (vG cc 2 : Nat), .int .u64 (vG cc 3 : Nat)] 24)).trans h4
  clear hDn
  replace hA := hA.ext h4
  replace hB := hB.ext h4
  replace hC := hC.ext h4
  replace hE := hE.trans h4
  clear h4
  obtain ⟨_, zhA0, zhA1, zhA2, zhA3, _, _, _, _⟩ := hA.four
  obtain ⟨_, zhB0, zhB1, zhB2, zhB3, _, _, _, _⟩ := hB.four
  obtain ⟨_, zhC0, zhC1, zhC2, zhC3, _, _, _, _⟩ := hC.four
  obtain ⟨_, zhD0, zhD1, zhD2, zhD3, _, _, _, _⟩ := hD.four
  have hIn := VBox.new w4 (vG ee) 24
  go_wp2_with fail
  refine (C4.out _).mono ?_; rintro e w5 ⟨rfl, h5⟩
  clear zhA0 zhA1 zhA2 zhA3 zhB0 zhB1 zhB2 zhB3 zhC0 zhC1 zhC2 zhC3 zhD0 zhD1 zhD2 zhD3
  have hI := hIn.ext h5
  replace h5 := ((Ext.refl w4).alloc (.cells #[.int .u64 (vG ee 0 : Nat), .int .u64 (vG ee 1 : Nat), .int .u64 (vG ee 2 : Nat), .int .u64 (vG ee 3 : Nat)] 24)).trans h5
  clear hIn
  replace hA := hA.ext h5
  replace hB := hB.ext h5
  replace hC := hC.ext h5
  replace hD := hD.ext h5
  replace hE := hE.trans h5
  clear h5
  obtain ⟨_, zhA0, zhA1, zhA2, zhA3, _, _, _, _⟩ := hA.four
  obtain ⟨_, zhB0, zhB1, zhB2, zhB3, _, _, _, _⟩ := hB.four
  obtain ⟨_, zhC0, zhC1, zhC2, zhC3, _, _, _, _⟩ := hC.four
  obtain ⟨_, zhD0, zhD1, zhD2, zhD3, _, _, _, _⟩ := hD.four
  obtain ⟨_, zhI0, zhI1, zhI2, zhI3, _, _, _, _⟩ := hI.four
  have hFn := VBox.new w5 (vG ff) 24
  go_wp2_with fail
  refine (C5.out _).mono ?_; rintro e w6 ⟨rfl, h6⟩
  clear zhA0 zhA1 zhA2 zhA3 zhB0 zhB1 zhB2 zhB3 zhC0 zhC1 zhC2 zhC3 zhD0 zhD1 zhD2 zhD3 zhI0 zhI1 zhI2 zhI3
  have hF := hFn.ext h6
  replace h6 := ((Ext.refl w5).alloc (.cells #[.int .u64 (vG ff 0 : Nat), .int .u64 (vG ff 1 : Nat), .int .u64 (vG ff 2 : Nat), .int .u64 (vG ff 3 : Nat)] 24)).trans h6
  clear hFn
  replace hA := hA.ext h6
  replace hB := hB.ext h6
  replace hC := hC.ext h6
  replace hD := hD.ext h6
  replace hI := hI.ext h6
  replace hE := hE.trans h6
  clear h6
  rcases K1 with ⟨rfl, rfl, rfl, rfl⟩ | ⟨rfl, rfl⟩ <;> rcases K2 with ⟨rfl, rfl, rfl⟩ | ⟨rfl, rfl⟩
  · obtain ⟨_, zhA0, zhA1, zhA2, zhA3, _, _, _, _⟩ := hA.four
    obtain ⟨_, zhB0, zhB1, zhB2, zhB3, _, _, _, _⟩ := hB.four
    obtain ⟨_, zhC0, zhC1, zhC2, zhC3, _, _, _, _⟩ := hC.four
    obtain ⟨_, zhD0, zhD1, zhD2, zhD3, _, _, _, _⟩ := hD.four
    obtain ⟨_, zhI0, zhI1, zhI2, zhI3, _, _, _, _⟩ := hI.four
    obtain ⟨_, zhF0, zhF1, zhF2, zhF3, _, _, _, _⟩ := hF.four
    have hGn := (VBox.new w6 (vG gg) 24).ext ((Ext.refl _).alloc (.cells #[.int .u64 0, .int .u64 0, .int .u64 0, .int .u64 0] 24))
    have hZn := VBox.new (w6.alloc (.cells #[.int .u64 (vG gg 0 : Nat), .int .u64 (vG gg 1 : Nat), .int .u64 (vG gg 2 : Nat), .int .u64 (vG gg 3 : Nat)] 24)) (fun _ => 0) 24
    change VBox _ _ ((w6.alloc (.cells #[.int .u64 (vG gg 0 : Nat), .int .u64 (vG gg 1 : Nat), .int .u64 (vG gg 2 : Nat), .int .u64 (vG gg 3 : Nat)] 24)).alloc (.cells #[.int .u64 0, .int .u64 0, .int .u64 0, .int .u64 0] 24)) at hGn hZn
    simp only [World.size_alloc] at hZn
    go_wp2_with fail
    refine (C6.out _).mono ?_; rintro e w7 ⟨rfl, h7⟩
    clear zhA0 zhA1 zhA2 zhA3 zhB0 zhB1 zhB2 zhB3 zhC0 zhC1 zhC2 zhC3 zhD0 zhD1 zhD2 zhD3 zhI0 zhI1 zhI2 zhI3 zhF0 zhF1 zhF2 zhF3
    have hG := hGn.ext h7
    have hZ := hZn.ext h7
    replace h7 := (((Ext.refl w6).alloc _).alloc _).trans h7
    clear hGn hZn
    replace hA := hA.ext h7
    replace hB := hB.ext h7
    replace hC := hC.ext h7
    replace hD := hD.ext h7
    replace hI := hI.ext h7
    replace hF := hF.ext h7
    replace hE := hE.trans h7
    clear h7
    obtain ⟨_, zhA0, zhA1, zhA2, zhA3, _, _, _, _⟩ := hA.four
    obtain ⟨_, zhB0, zhB1, zhB2, zhB3, _, _, _, _⟩ := hB.four
    obtain ⟨_, zhC0, zhC1, zhC2, zhC3, _, _, _, _⟩ := hC.four
    obtain ⟨_, zhD0, zhD1, zhD2, zhD3, _, _, _, _⟩ := hD.four
    obtain ⟨_, zhI0, zhI1, zhI2, zhI3, _, _, _, _⟩ := hI.four
    obtain ⟨_, zhF0, zhF1, zhF2, zhF3, _, _, _, _⟩ := hF.four
    obtain ⟨_, zhG0, zhG1, zhG2, zhG3, _, _, _, _⟩ := hG.four
    obtain ⟨_, zhZ0, zhZ1, zhZ2, zhZ3, _, _, _, _⟩ := hZ.four
    change World.cell? _ _ = some (.int .u64 0) at zhZ0
    change World.cell? _ _ = some (.int .u64 0) at zhZ1
    change World.cell? _ _ = some (.int .u64 0) at zhZ2
    change World.cell? _ _ = some (.int .u64 0) at zhZ3
    go_wp2_with fail
    refine (C7.out _).mono ?_; rintro e w8 ⟨rfl, h8⟩
    clear zhA0 zhA1 zhA2 zhA3 zhB0 zhB1 zhB2 zhB3 zhC0 zhC1 zhC2 zhC3 zhD0 zhD1 zhD2 zhD3 zhI0 zhI1 zhI2 zhI3 zhF0 zhF1 zhF2 zhF3 zhG0 zhG1 zhG2 zhG3 zhZ0 zhZ1 zhZ2 zhZ3
    replace hA := hA.ext h8
    replace hB := hB.ext h8
    replace hC := hC.ext h8
    replace hD := hD.ext h8
    replace hI := hI.ext h8
    replace hF := hF.ext h8
    replace hG := hG.ext h8
    replace hZ := hZ.ext h8
    replace hE := hE.trans h8
    clear h8
    obtain ⟨_, zhA0, zhA1, zhA2, zhA3, _, _, _, _⟩ := hA.four
    obtain ⟨_, zhB0, zhB1, zhB2, zhB3, _, _, _, _⟩ := hB.four
    obtain ⟨_, zhC0, zhC1, zhC2, zhC3, _, _, _, _⟩ := hC.four
    obtain ⟨_, zhD0, zhD1, zhD2, zhD3, _, _, _, _⟩ := hD.four
    obtain ⟨_, zhI0, zhI1, zhI2, zhI3, _, _, _, _⟩ := hI.four
    obtain ⟨_, zhF0, zhF1, zhF2, zhF3, _, _, _, _⟩ := hF.four
    obtain ⟨_, zhG0, zhG1, zhG2, zhG3, _, _, _, _⟩ := hG.four
    obtain ⟨_, zhZ0, zhZ1, zhZ2, zhZ3, _, _, _, _⟩ := hZ.four
    change World.cell? _ _ = some (.int .u64 0) at zhZ0
    change World.cell? _ _ = some (.int .u64 0) at zhZ1
    change World.cell? _ _ = some (.int .u64 0) at zhZ2
    change World.cell? _ _ = some (.int .u64 0) at zhZ3
    go_wp2
    go_ret
    exact ⟨rfl, hE⟩
  · obtain ⟨_, zhA0, zhA1, zhA2, zhA3, _, _, _, _⟩ := hA.four
    obtain ⟨_, zhB0, zhB1, zhB2, zhB3, _, _, _, _⟩ := hB.four
    obtain ⟨_, zhC0, zhC1, zhC2, zhC3, _, _, _, _⟩ := hC.four
    obtain ⟨_, zhD0, zhD1, zhD2, zhD3, _, _, _, _⟩ := hD.four
    obtain ⟨_, zhI0, zhI1, zhI2, zhI3, _, _, _, _⟩ := hI.four
    obtain ⟨_, zhF0, zhF1, zhF2, zhF3, _, _, _, _⟩ := hF.four
    have hGn := (VBox.new w6 (vG gg) 24).ext ((Ext.refl _).alloc (.cells #[.int .u64 0, .int .u64 0, .int .u64 0, .int .u64 0] 24))
    have hZn := VBox.new (w6.alloc (.cells #[.int .u64 (vG gg 0 : Nat), .int .u64 (vG gg 1 : Nat), .int .u64 (vG gg 2 : Nat), .int .u64 (vG gg 3 : Nat)] 24)) (fun _ => 0) 24
    change VBox _ _ ((w6.alloc (.cells #[.int .u64 (vG gg 0 : Nat), .int .u64 (vG gg 1 : Nat), .int .u64 (vG gg 2 : Nat), .int .u64 (vG gg 3 : Nat)] 24)).alloc (.cells #[.int .u64 0, .int .u64 0, .int .u64 0, .int .u64 0] 24)) at hGn hZn
    simp only [World.size_alloc] at hZn
    go_wp2_with fail
    refine (C6.out _).mono ?_; rintro e w7 ⟨rfl, h7⟩
    clear zhA0 zhA1 zhA2 zhA3 zhB0 zhB1 zhB2 zhB3 zhC0 zhC1 zhC2 zhC3 zhD0 zhD1 zhD2 zhD3 zhI0 zhI1 zhI2 zhI3 zhF0 zhF1 zhF2 zhF3
    have hG := hGn.ext h7
    have hZ := hZn.ext h7
    replace h7 := (((Ext.refl w6).alloc _).alloc _).trans h7
    clear hGn hZn
    replace hA := hA.ext h7
    replace hB := hB.ext h7
    replace hC := hC.ext h7
    replace hD := hD.ext h7
    replace hI := hI.ext h7
    replace hF := hF.ext h7
    replace hE := hE.trans h7
    clear h7
    obtain ⟨_, zhA0, zhA1, zhA2, zhA3, _, _, _, _⟩ := hA.four
    obtain ⟨_, zhB0, zhB1, zhB2, zhB3, _, _, _, _⟩ := hB.four
    obtain ⟨_, zhC0, zhC1, zhC2, zhC3, _, _, _, _⟩ := hC.four
    obtain ⟨_, zhD0, zhD1, zhD2, zhD3, _, _, _, _⟩ := hD.four
    obtain ⟨_, zhI0, zhI1, zhI2, zhI3, _, _, _, _⟩ := hI.four
    obtain ⟨_, zhF0, zhF1, zhF2, zhF3, _, _, _, _⟩ := hF.four
    obtain ⟨_, zhG0, zhG1, zhG2, zhG3, _, _, _, _⟩ := hG.four
    obtain ⟨_, zhZ0, zhZ1, zhZ2, zhZ3, _, _, _, _⟩ := hZ.four
    change World.cell? _ _ = some (.int .u64 0) at zhZ0
    change World.cell? _ _ = some (.int .u64 0) at zhZ1
    change World.cell? _ _ = some (.int .u64 0) at zhZ2
    change World.cell? _ _ = some (.int .u64 0) at zhZ3
    go_wp2_with fail
    refine (C7.out _).mono ?_; rintro e w8 ⟨rfl, h8⟩
    clear zhA0 zhA1 zhA2 zhA3 zhB0 zhB1 zhB2 zhB3 zhC0 zhC1 zhC2 zhC3 zhD0 zhD1 zhD2 zhD3 zhI0 zhI1 zhI2 zhI3 zhF0 zhF1 zhF2 zhF3 zhG0 zhG1 zhG2 zhG3 zhZ0 zhZ1 zhZ2 zhZ3
    replace hA := hA.ext h8
    replace hB := hB.ext h8
    replace hC := hC.ext h8
    replace hD := hD.ext h8
    replace hI := hI.ext h8
    replace hF := hF.ext h8
    replace hG := hG.ext h8
    replace hZ := hZ.ext h8
    replace hE := hE.trans h8
    clear h8
    obtain ⟨_, zhA0, zhA1, zhA2, zhA3, _, _, _, _⟩ := hA.four
    obtain ⟨_, zhB0, zhB1, zhB2, zhB3, _, _, _, _⟩ := hB.four
    obtain ⟨_, zhC0, zhC1, zhC2, zhC3, _, _, _, _⟩ := hC.four
    obtain ⟨_, zhD0, zhD1, zhD2, zhD3, _, _, _, _⟩ := hD.four
    obtain ⟨_, zhI0, zhI1, zhI2, zhI3, _, _, _, _⟩ := hI.four
    obtain ⟨_, zhF0, zhF1, zhF2, zhF3, _, _, _, _⟩ := hF.four
    obtain ⟨_, zhG0, zhG1, zhG2, zhG3, _, _, _, _⟩ := hG.four
    obtain ⟨_, zhZ0, zhZ1, zhZ2, zhZ3, _, _, _, _⟩ := hZ.four
    change World.cell? _ _ = some (.int .u64 0) at zhZ0
    change World.cell? _ _ = some (.int .u64 0) at zhZ1
    change World.cell? _ _ = some (.int .u64 0) at zhZ2
    change World.cell? _ _ = some (.int .u64 0) at zhZ3
    go_wp2
    go_ret
    exact ⟨rfl, hE⟩
  · obtain ⟨_, zhA0, zhA1, zhA2, zhA3, _, _, _, _⟩ := hA.four
    obtain ⟨_, zhB0, zhB1, zhB2, zhB3, _, _, _, _⟩ := hB.four
    obtain ⟨_, zhC0, zhC1, zhC2, zhC3, _, _, _, _⟩ := hC.four
    obtain ⟨_, zhD0, zhD1, zhD2, zhD3, _, _, _, _⟩ := hD.four
    obtain ⟨_, zhI0, zhI1, zhI2, zhI3, _, _, _, _⟩ := hI.four
    obtain ⟨_, zhF0, zhF1, zhF2, zhF3, _, _, _, _⟩ := hF.four
    have hGn := (VBox.new w6 (vG gg) 24).ext ((Ext.refl _).alloc (.cells #[.int .u64 0, .int .u64 0, .int .u64 0, .int .u64 0] 24))
    have hZn := VBox.new (w6.alloc (.cells #[.int .u64 (vG gg 0 : Nat), .int .u64 (vG gg 1 : Nat), .int .u64 (vG gg 2 : Nat), .int .u64 (vG gg 3 : Nat)] 24)) (fun _ => 0) 24
    change VBox _ _ ((w6.alloc (.cells #[.int .u64 (vG gg 0 : Nat), .int .u64 (vG gg 1 : Nat), .int .u64 (vG gg 2 : Nat), .int .u64 (vG gg 3 : Nat)] 24)).alloc (.cells #[.int .u64 0, .int .u64 0, .int .u64 0, .int .u64 0] 24)) at hGn hZn
    simp only [World.size_alloc] at hZn
    go_wp2_with fail
    refine (C7.out _).mono ?_; rintro e w7 ⟨rfl, h7⟩
    clear zhA0 zhA1 zhA2 zhA3 zhB0 zhB1 zhB2 zhB3 zhC0 zhC1 zhC2 zhC3 zhD0 zhD1 zhD2 zhD3 zhI0 zhI1 zhI2 zhI3 zhF0 zhF1 zhF2 zhF3
    have hG := hGn.ext h7
    have hZ := hZn.ext h7
    replace h7 := (((Ext.refl w6).alloc _).alloc _).trans h7
    clear hGn hZn
    replace hA := hA.ext h7
    replace hB := hB.ext h7
    replace hC := hC.ext h7
    replace hD := hD.ext h7
    replace hI := hI.ext h7
    replace hF := hF.ext h7
    replace hE := hE.trans h7
    clear h7
    obtain ⟨_, zhA0, zhA1, zhA2, zhA3, _, _, _, _⟩ := hA.four
    obtain ⟨_, zhB0, zhB1, zhB2, zhB3, _, _, _, _⟩ := hB.four
    obtain ⟨_, zhC0, zhC1, zhC2, zhC3, _, _, _, _⟩ := hC.four
    obtain ⟨_, zhD0, zhD1, zhD2, zhD3, _, _, _, _⟩ := hD.four
    obtain ⟨_, zhI0, zhI1, zhI2, zhI3, _, _, _, _⟩ := hI.four
    obtain ⟨_, zhF0, zhF1, zhF2, zhF3, _, _, _, _⟩ := hF.four
    obtain ⟨_, zhG0, zhG1, zhG2, zhG3, _, _, _, _⟩ := hG.four
    obtain ⟨_, zhZ0, zhZ1, zhZ2, zhZ3, _, _, _, _⟩ := hZ.four
    change World.cell? _ _ = some (.int .u64 0) at zhZ0
    change World.cell? _ _ = some (.int .u64 0) at zhZ1
    change World.cell? _ _ = some (.int .u64 0) at zhZ2
    change World.cell? _ _ = some (.int .u64 0) at zhZ3
    go_wp2
    go_ret
    exact ⟨rfl, hE⟩
  · obtain ⟨_, zhA0, zhA1, zhA2, zhA3, _, _, _, _⟩ := hA.four
    obtain ⟨_, zhB0, zhB1, zhB2, zhB3, _, _, _, _⟩ := hB.four
    obtain ⟨_, zhC0, zhC1, zhC2, zhC3, _, _, _, _⟩ := hC.four
    obtain ⟨_, zhD0, zhD1, zhD2, zhD3, _, _, _, _⟩ := hD.four
    obtain ⟨_, zhI0, zhI1, zhI2, zhI3, _, _, _, _⟩ := hI.four
    obtain ⟨_, zhF0, zhF1, zhF2, zhF3, _, _, _, _⟩ := hF.four
    have hGn := (VBox.new w6 (vG gg) 24).ext ((Ext.refl _).alloc (.cells #[.int .u64 0, .int .u64 0, .int .u64 0, .int .u64 0] 24))
    have hZn := VBox.new (w6.alloc (.cells #[.int .u64 (vG gg 0 : Nat), .int .u64 (vG gg 1 : Nat), .int .u64 (vG gg 2 : Nat), .int .u64 (vG gg 3 : Nat)] 24)) (fun _ => 0) 24
    change VBox _ _ ((w6.alloc (.cells #[.int .u64 (vG gg 0 : Nat), .int .u64 (vG gg 1 : Nat), .int .u64 (vG gg 2 : Nat), .int .u64 (vG gg 3 : Nat)] 24)).alloc (.cells #[.int .u64 0, .int .u64 0, .int .u64 0, .int .u64 0] 24)) at hGn hZn
    simp only [World.size_alloc] at hZn
    go_wp2_with fail
    refine (C7.out _).mono ?_; rintro e w7 ⟨rfl, h7⟩
    clear zhA0 zhA1 zhA2 zhA3 zhB0 zhB1 zhB2 zhB3 zhC0 zhC1 zhC2 zhC3 zhD0 zhD1 zhD2 zhD3 zhI0 zhI1 zhI2 zhI3 zhF0 zhF1 zhF2 zhF3
    have hG := hGn.ext h7
    have hZ := hZn.ext h7
    replace h7 := (((Ext.refl w6).alloc _).alloc _).trans h7
    clear hGn hZn
    replace hA := hA.ext h7
    replace hB := hB.ext h7
    replace hC := hC.ext h7
    replace hD := hD.ext h7
    replace hI := hI.ext h7
    replace hF := hF.ext h7
    replace hE := hE.trans h7
    clear h7
    obtain ⟨_, zhA0, zhA1, zhA2, zhA3, _, _, _, _⟩ := hA.four
    obtain ⟨_, zhB0, zhB1, zhB2, zhB3, _, _, _, _⟩ := hB.four
    obtain ⟨_, zhC0, zhC1, zhC2, zhC3, _, _, _, _⟩ := hC.four
    obtain ⟨_, zhD0, zhD1, zhD2, zhD3, _, _, _, _⟩ := hD.four
    obtain ⟨_, zhI0, zhI1, zhI2, zhI3, _, _, _, _⟩ := hI.four
    obtain ⟨_, zhF0, zhF1, zhF2, zhF3, _, _, _, _⟩ := hF.four
    obtain ⟨_, zhG0, zhG1, zhG2, zhG3, _, _, _, _⟩ := hG.four
    obtain ⟨_, zhZ0, zhZ1, zhZ2, zhZ3, _, _, _, _⟩ := hZ.four
    change World.cell? _ _ = some (.int .u64 0) at zhZ0
    change World.cell? _ _ = some (.int .u64 0) at zhZ1
    change World.cell? _ _ = some (.int .u64 0) at zhZ2
    change World.cell? _ _ = some (.int .u64 0) at zhZ3
    go_wp2
    go_ret
    exact ⟨rfl, hE⟩

end Go.Proofs.YtibimbcjnjefdaaDoor
