/- Chapter 3: the walk of the laws' examples. -/
import Derived.Test.YtibimbcjnjefdaaDoorVcWalkE
import Derived.Test.YtibimbcjnjefdaaDoorVcPut
import Derived.Test.YtibimbcjnjefdaaDoorVcParse
import Derived.Test.YtibimbcjnjefdaaDoorVcEql
namespace Go.Proofs.YtibimbcjnjefdaaDoor
open Go.RowKit Go.Dm

set_option maxHeartbeats 4000000 in
set_option maxRecDepth 100000 in
theorem vexamples_w (w : World) (hv : VarsV w) :
    Calls Tryd.prog 10 #[] w fun e w' => e = .returned (.bool true) ∧ Ext w w' := by
  have oA : OkV [5, 9, 0, 0] := okV_mk (by unfold U64; omega) (by unfold U64; omega) (by unfold U64; omega) (by unfold U64; omega)
  have oB : OkV [2, 3, 0, 0] := okV_mk (by unfold U64; omega) (by unfold U64; omega) (by unfold U64; omega) (by unfold U64; omega)
  have oC : OkV [7, 12, 0, 0] := okV_mk (by unfold U64; omega) (by unfold U64; omega) (by unfold U64; omega) (by unfold U64; omega)
  have oT : OkV [6, 9, 0, 0] := okV_mk (by unfold U64; omega) (by unfold U64; omega) (by unfold U64; omega) (by unfold U64; omega)
  have C1 := fun U => vadd_w [5, 9, 0, 0] [2, 3, 0, 0] oA oB U
  rw [show vaddOk [5, 9, 0, 0] [2, 3, 0, 0] = true by kernel_rfl, show vOr true (vadd [5, 9, 0, 0] [2, 3, 0, 0]) = [7, 12, 0, 0] by kernel_rfl] at C1
  have C2 := fun U => vsub_w [7, 12, 0, 0] [2, 3, 0, 0] oC oB U
  rw [show vfits [2, 3, 0, 0] [7, 12, 0, 0] = true by kernel_rfl, show vOr true (vsub [7, 12, 0, 0] [2, 3, 0, 0]) = [5, 9, 0, 0] by kernel_rfl] at C2
  have C3 := fun U => vsub_w [2, 3, 0, 0] [5, 9, 0, 0] oB oA U
  rw [show vfits [5, 9, 0, 0] [2, 3, 0, 0] = false by kernel_rfl] at C3
  have C4 := fun U => vtimes_w [2, 3, 0, 0] 3 oB (by unfold U64; omega) U
  rw [show vtimesOk [2, 3, 0, 0] 3 = true by kernel_rfl, show vOr true (vtimes [2, 3, 0, 0] 3) = [6, 9, 0, 0] by kernel_rfl] at C4
  have hTA : textV [5, 9, 0, 0] = [53, 58, 57, 58, 48, 58, 48] := by kernel_rfl
  have hTB : textV [2, 3, 0, 0] = [50, 58, 51, 58, 48, 58, 48] := by kernel_rfl
  have C5 := fun U (h : VarsV U) => vparse_w ⟨#[53, 58, 57, 58, 48, 58, 48]⟩ U (by decide) h
  rw [show parseV ((⟨#[53, 58, 57, 58, 48, 58, 48]⟩ : ByteArray).data.toList) = ([5, 9, 0, 0], true) by rw [← parseV_text oA, hTA]] at C5
  have C6 := fun U => vput_w [5, 9, 0, 0] oA U
  rw [show putV [5, 9, 0, 0] = [5, 9, 0, 0] by kernel_rfl] at C6
  have C7 := fun U => vget_w (⟨#[120]⟩ ++ ⟨([5, 9, 0, 0] : Bs).toArray⟩) 1 U (by decide)
  rw [show getV ((⟨#[120]⟩ ++ ⟨([5, 9, 0, 0] : Bs).toArray⟩ : ByteArray)).data.toList 1 = ([5, 9, 0, 0], 5, true) by kernel_rfl] at C7
  have C8 := fun U => vholdsN_w [5, 9, 0, 0] [2, 3, 0, 0] oA oB 8 8 (by omega) (Or.inl rfl) U
  rw [show vholds [5, 9, 0, 0] [2, 3, 0, 0] 8 = 2 by kernel_rfl] at C8
  have C9 := fun U => vfits_w [2, 3, 0, 0] [5, 9, 0, 0] oB oA U
  rw [show vfits [2, 3, 0, 0] [5, 9, 0, 0] = true by kernel_rfl] at C9
  have C10 := fun U => vfits_w [5, 9, 0, 0] [2, 3, 0, 0] oA oB U
  rw [show vfits [5, 9, 0, 0] [2, 3, 0, 0] = false by kernel_rfl] at C10
  have C11 := fun U => vorder_w [2, 3, 0, 0] [5, 9, 0, 0] oB oA U
  rw [show vord [2, 3, 0, 0] [5, 9, 0, 0] = -1 by kernel_rfl] at C11
  have C12 := fun U h => vtext_w [2, 3, 0, 0] oB U h
  rw [hTB] at C12
  have hq : ∀ {x y : Vc} (_ : OkV x) (_ : OkV y) (U : World), (binOp .eql 24 (vVal x) (vVal y)).run Tryd.prog U = .ok (.bool (decide (x = y))) U := fun hx hy U => run_eql_vals Tryd.underlying24 Tryd.underlying22 (by kernel_rfl) hx hy U
  have q1 : ∀ U, (binOp .eql 24 (vVal [7, 12, 0, 0]) (.agg #[.int .u64 7, .int .u64 12, .int .u64 0, .int .u64 0])).run Tryd.prog U = .ok (.bool true) U := fun U => hq oC oC U
  have q2 : ∀ U, (binOp .eql 24 (vVal [6, 9, 0, 0]) (.agg #[.int .u64 6, .int .u64 9, .int .u64 0, .int .u64 0])).run Tryd.prog U = .ok (.bool true) U := fun U => hq oT oT U
  have q3 : ∀ U, (binOp .eql 24 (vVal [5, 9, 0, 0]) (vVal [5, 9, 0, 0])).run Tryd.prog U = .ok (.bool true) U := fun U => (hq oA oA U).trans (by simp)
  have hA := VBox.new w (vG [5, 9, 0, 0]) 24
  have hB := VBox.new (w.alloc (.cells #[.int .u64 5, .int .u64 9, .int .u64 0, .int .u64 0] 24)) (vG [2, 3, 0, 0]) 24
  rw [World.size_alloc] at hB
  have hE : Ext w ((w.alloc (.cells #[.int .u64 5, .int .u64 9, .int .u64 0, .int .u64 0] 24)).alloc (.cells #[.int .u64 2, .int .u64 3, .int .u64 0, .int .u64 0] 24)) := ((Ext.refl w).alloc _).alloc _
  replace hA := hA.ext ((Ext.refl _).alloc (.cells #[.int .u64 2, .int .u64 3, .int .u64 0, .int .u64 0] 24))
  change VBox w.heap.size (vG [5, 9, 0, 0]) ((w.alloc (.cells #[.int .u64 5, .int .u64 9, .int .u64 0, .int .u64 0] 24)).alloc (.cells #[.int .u64 2, .int .u64 3, .int .u64 0, .int .u64 0] 24)) at hA
  change VBox (w.heap.size + 1) (vG [2, 3, 0, 0]) ((w.alloc (.cells #[.int .u64 5, .int .u64 9, .int .u64 0, .int .u64 0] 24)).alloc (.cells #[.int .u64 2, .int .u64 3, .int .u64 0, .int .u64 0] 24)) at hB
  clear hq oA oB oC oT hTA hTB
  unfold vVal vF at C1 C2 C3 C4 C5 C6 C7 C8 C9 C10 C11 C12 q1 q2 q3
  have P1 := C1 ((w.alloc (.cells #[.int .u64 5, .int .u64 9, .int .u64 0, .int .u64 0] 24)).alloc (.cells #[.int .u64 2, .int .u64 3, .int .u64 0, .int .u64 0] 24))
  replace P1 : Calls Tryd.prog 11 #[.agg #[.int .u64 5, .int .u64 9, .int .u64 0, .int .u64 0], .agg #[.int .u64 2, .int .u64 3, .int .u64 0, .int .u64 0]] _ _ := P1
  replace P1 := Lib.hid P1
  replace C1 := Lib.hid C1
  replace C2 := Lib.hid C2
  replace C3 := Lib.hid C3
  replace C4 := Lib.hid C4
  replace C5 := Lib.hid C5
  replace C6 := Lib.hid C6
  replace C7 := Lib.hid C7
  replace C8 := Lib.hid C8
  replace C9 := Lib.hid C9
  replace C10 := Lib.hid C10
  replace C11 := Lib.hid C11
  replace C12 := Lib.hid C12
  go_enter Tryd.func10, Tryd.ntmps10
  go_wp2_with fail
  refine P1.out.mono ?_; rintro e w1 ⟨rfl, h1⟩
  replace hA := hA.ext h1
  replace hB := hB.ext h1
  replace hE := hE.trans h1
  clear h1 P1 C1
  generalize ([5, 9, 0, 0] : Vc) = a at *
  generalize ([2, 3, 0, 0] : Vc) = b at *
  generalize ([7, 12, 0, 0] : Vc) = c at *
  generalize ([6, 9, 0, 0] : Vc) = t at *
  generalize vOr false (vsub b a) = nv at *
  obtain ⟨_, zhA0, zhA1, zhA2, zhA3, _, _, _, _⟩ := hA.four
  obtain ⟨_, zhB0, zhB1, zhB2, zhB3, _, _, _, _⟩ := hB.four
  have hCn := VBox.new w1 (vG c) 24
  go_wp2_with fail
  refine (C2.out _).mono ?_; rintro e w2 ⟨rfl, h2⟩
  clear zhA0 zhA1 zhA2 zhA3 zhB0 zhB1 zhB2 zhB3
  have hC := hCn.ext h2
  replace h2 := ((Ext.refl w1).alloc (.cells #[.int .u64 (vG c 0 : Nat), .int .u64 (vG c 1 : Nat), .int .u64 (vG c 2 : Nat), .int .u64 (vG c 3 : Nat)] 24)).trans h2
  clear hCn
  replace hA := hA.ext h2
  replace hB := hB.ext h2
  replace hE := hE.trans h2
  clear h2
  obtain ⟨_, zhA0, zhA1, zhA2, zhA3, _, _, _, _⟩ := hA.four
  obtain ⟨_, zhB0, zhB1, zhB2, zhB3, _, _, _, _⟩ := hB.four
  obtain ⟨_, zhC0, zhC1, zhC2, zhC3, _, _, _, _⟩ := hC.four
  have hDn := VBox.new w2 (vG a) 24
  go_wp2_with fail
  refine (C3.out _).mono ?_; rintro e w3 ⟨rfl, h3⟩
  clear zhA0 zhA1 zhA2 zhA3 zhB0 zhB1 zhB2 zhB3 zhC0 zhC1 zhC2 zhC3
  have hD := hDn.ext h3
  replace h3 := ((Ext.refl w2).alloc (.cells #[.int .u64 (vG a 0 : Nat), .int .u64 (vG a 1 : Nat), .int .u64 (vG a 2 : Nat), .int .u64 (vG a 3 : Nat)] 24)).trans h3
  clear hDn
  replace hA := hA.ext h3
  replace hB := hB.ext h3
  replace hC := hC.ext h3
  replace hE := hE.trans h3
  clear h3
  obtain ⟨_, zhA0, zhA1, zhA2, zhA3, _, _, _, _⟩ := hA.four
  obtain ⟨_, zhB0, zhB1, zhB2, zhB3, _, _, _, _⟩ := hB.four
  obtain ⟨_, zhC0, zhC1, zhC2, zhC3, _, _, _, _⟩ := hC.four
  obtain ⟨_, zhD0, zhD1, zhD2, zhD3, _, _, _, _⟩ := hD.four
  have hNn := VBox.new w3 (vG nv) 24
  go_wp2_with fail
  refine (C4.out _).mono ?_; rintro e w4 ⟨rfl, h4⟩
  clear zhA0 zhA1 zhA2 zhA3 zhB0 zhB1 zhB2 zhB3 zhC0 zhC1 zhC2 zhC3 zhD0 zhD1 zhD2 zhD3
  have hN := hNn.ext h4
  replace h4 := ((Ext.refl w3).alloc (.cells #[.int .u64 (vG nv 0 : Nat), .int .u64 (vG nv 1 : Nat), .int .u64 (vG nv 2 : Nat), .int .u64 (vG nv 3 : Nat)] 24)).trans h4
  clear hNn
  replace hA := hA.ext h4
  replace hB := hB.ext h4
  replace hC := hC.ext h4
  replace hD := hD.ext h4
  replace hE := hE.trans h4
  clear h4
  obtain ⟨_, zhA0, zhA1, zhA2, zhA3, _, _, _, _⟩ := hA.four
  obtain ⟨_, zhB0, zhB1, zhB2, zhB3, _, _, _, _⟩ := hB.four
  obtain ⟨_, zhC0, zhC1, zhC2, zhC3, _, _, _, _⟩ := hC.four
  obtain ⟨_, zhD0, zhD1, zhD2, zhD3, _, _, _, _⟩ := hD.four
  obtain ⟨_, zhN0, zhN1, zhN2, zhN3, _, _, _, _⟩ := hN.four
  have hTn := VBox.new w4 (vG t) 24
  go_wp2_with fail
  refine (C5.out _ (hv.ext (hE.trans ((Ext.refl _).alloc _)))).mono ?_; rintro e w5 ⟨rfl, h5⟩
  clear zhA0 zhA1 zhA2 zhA3 zhB0 zhB1 zhB2 zhB3 zhC0 zhC1 zhC2 zhC3 zhD0 zhD1 zhD2 zhD3 zhN0 zhN1 zhN2 zhN3
  have hT := hTn.ext h5
  replace h5 := ((Ext.refl w4).alloc (.cells #[.int .u64 (vG t 0 : Nat), .int .u64 (vG t 1 : Nat), .int .u64 (vG t 2 : Nat), .int .u64 (vG t 3 : Nat)] 24)).trans h5
  clear hTn
  replace hA := hA.ext h5
  replace hB := hB.ext h5
  replace hC := hC.ext h5
  replace hD := hD.ext h5
  replace hN := hN.ext h5
  replace hE := hE.trans h5
  clear h5
  obtain ⟨_, zhA0, zhA1, zhA2, zhA3, _, _, _, _⟩ := hA.four
  obtain ⟨_, zhB0, zhB1, zhB2, zhB3, _, _, _, _⟩ := hB.four
  obtain ⟨_, zhC0, zhC1, zhC2, zhC3, _, _, _, _⟩ := hC.four
  obtain ⟨_, zhD0, zhD1, zhD2, zhD3, _, _, _, _⟩ := hD.four
  obtain ⟨_, zhN0, zhN1, zhN2, zhN3, _, _, _, _⟩ := hN.four
  obtain ⟨_, zhT0, zhT1, zhT2, zhT3, _, _, _, _⟩ := hT.four
  have hPn := VBox.new w5 (vG a) 24
  go_wp2_with fail
  refine (C6.out _).mono ?_; rintro e w6 ⟨rfl, h6⟩
  clear zhA0 zhA1 zhA2 zhA3 zhB0 zhB1 zhB2 zhB3 zhC0 zhC1 zhC2 zhC3 zhD0 zhD1 zhD2 zhD3 zhN0 zhN1 zhN2 zhN3 zhT0 zhT1 zhT2 zhT3
  have hP := hPn.ext h6
  replace h6 := ((Ext.refl w5).alloc (.cells #[.int .u64 (vG a 0 : Nat), .int .u64 (vG a 1 : Nat), .int .u64 (vG a 2 : Nat), .int .u64 (vG a 3 : Nat)] 24)).trans h6
  clear hPn
  replace hA := hA.ext h6
  replace hB := hB.ext h6
  replace hC := hC.ext h6
  replace hD := hD.ext h6
  replace hN := hN.ext h6
  replace hT := hT.ext h6
  replace hE := hE.trans h6
  clear h6
  obtain ⟨_, zhA0, zhA1, zhA2, zhA3, _, _, _, _⟩ := hA.four
  obtain ⟨_, zhB0, zhB1, zhB2, zhB3, _, _, _, _⟩ := hB.four
  obtain ⟨_, zhC0, zhC1, zhC2, zhC3, _, _, _, _⟩ := hC.four
  obtain ⟨_, zhD0, zhD1, zhD2, zhD3, _, _, _, _⟩ := hD.four
  obtain ⟨_, zhN0, zhN1, zhN2, zhN3, _, _, _, _⟩ := hN.four
  obtain ⟨_, zhT0, zhT1, zhT2, zhT3, _, _, _, _⟩ := hT.four
  obtain ⟨_, zhP0, zhP1, zhP2, zhP3, _, _, _, _⟩ := hP.four
  go_wp2_with fail
  refine (C7.out _).mono ?_; rintro e w7 ⟨rfl, h7⟩
  clear zhA0 zhA1 zhA2 zhA3 zhB0 zhB1 zhB2 zhB3 zhC0 zhC1 zhC2 zhC3 zhD0 zhD1 zhD2 zhD3 zhN0 zhN1 zhN2 zhN3 zhT0 zhT1 zhT2 zhT3 zhP0 zhP1 zhP2 zhP3
  replace hA := hA.ext h7
  replace hB := hB.ext h7
  replace hC := hC.ext h7
  replace hD := hD.ext h7
  replace hN := hN.ext h7
  replace hT := hT.ext h7
  replace hP := hP.ext h7
  replace hE := hE.trans h7
  clear h7
  obtain ⟨_, zhA0, zhA1, zhA2, zhA3, _, _, _, _⟩ := hA.four
  obtain ⟨_, zhB0, zhB1, zhB2, zhB3, _, _, _, _⟩ := hB.four
  obtain ⟨_, zhC0, zhC1, zhC2, zhC3, _, _, _, _⟩ := hC.four
  obtain ⟨_, zhD0, zhD1, zhD2, zhD3, _, _, _, _⟩ := hD.four
  obtain ⟨_, zhN0, zhN1, zhN2, zhN3, _, _, _, _⟩ := hN.four
  obtain ⟨_, zhT0, zhT1, zhT2, zhT3, _, _, _, _⟩ := hT.four
  obtain ⟨_, zhP0, zhP1, zhP2, zhP3, _, _, _, _⟩ := hP.four
  have hGn := VBox.new w7 (vG a) 24
  go_wp2_with fail
  refine (C8.out _).mono ?_; rintro e w8 ⟨rfl, h8⟩
  clear zhA0 zhA1 zhA2 zhA3 zhB0 zhB1 zhB2 zhB3 zhC0 zhC1 zhC2 zhC3 zhD0 zhD1 zhD2 zhD3 zhN0 zhN1 zhN2 zhN3 zhT0 zhT1 zhT2 zhT3 zhP0 zhP1 zhP2 zhP3
  have hG := hGn.ext h8
  replace h8 := ((Ext.refl w7).alloc (.cells #[.int .u64 (vG a 0 : Nat), .int .u64 (vG a 1 : Nat), .int .u64 (vG a 2 : Nat), .int .u64 (vG a 3 : Nat)] 24)).trans h8
  clear hGn
  replace hA := hA.ext h8
  replace hB := hB.ext h8
  replace hC := hC.ext h8
  replace hD := hD.ext h8
  replace hN := hN.ext h8
  replace hT := hT.ext h8
  replace hP := hP.ext h8
  replace hE := hE.trans h8
  clear h8
  obtain ⟨_, zhA0, zhA1, zhA2, zhA3, _, _, _, _⟩ := hA.four
  obtain ⟨_, zhB0, zhB1, zhB2, zhB3, _, _, _, _⟩ := hB.four
  obtain ⟨_, zhC0, zhC1, zhC2, zhC3, _, _, _, _⟩ := hC.four
  obtain ⟨_, zhD0, zhD1, zhD2, zhD3, _, _, _, _⟩ := hD.four
  obtain ⟨_, zhN0, zhN1, zhN2, zhN3, _, _, _, _⟩ := hN.four
  obtain ⟨_, zhT0, zhT1, zhT2, zhT3, _, _, _, _⟩ := hT.four
  obtain ⟨_, zhP0, zhP1, zhP2, zhP3, _, _, _, _⟩ := hP.four
  obtain ⟨_, zhG0, zhG1, zhG2, zhG3, _, _, _, _⟩ := hG.four
  go_wp2_with fail
  refine (C9.out _).mono ?_; rintro e w9 ⟨rfl, h9⟩
  clear zhA0 zhA1 zhA2 zhA3 zhB0 zhB1 zhB2 zhB3 zhC0 zhC1 zhC2 zhC3 zhD0 zhD1 zhD2 zhD3 zhN0 zhN1 zhN2 zhN3 zhT0 zhT1 zhT2 zhT3 zhP0 zhP1 zhP2 zhP3 zhG0 zhG1 zhG2 zhG3
  replace hA := hA.ext h9
  replace hB := hB.ext h9
  replace hC := hC.ext h9
  replace hD := hD.ext h9
  replace hN := hN.ext h9
  replace hT := hT.ext h9
  replace hP := hP.ext h9
  replace hG := hG.ext h9
  replace hE := hE.trans h9
  clear h9
  obtain ⟨_, zhA0, zhA1, zhA2, zhA3, _, _, _, _⟩ := hA.four
  obtain ⟨_, zhB0, zhB1, zhB2, zhB3, _, _, _, _⟩ := hB.four
  obtain ⟨_, zhC0, zhC1, zhC2, zhC3, _, _, _, _⟩ := hC.four
  obtain ⟨_, zhD0, zhD1, zhD2, zhD3, _, _, _, _⟩ := hD.four
  obtain ⟨_, zhN0, zhN1, zhN2, zhN3, _, _, _, _⟩ := hN.four
  obtain ⟨_, zhT0, zhT1, zhT2, zhT3, _, _, _, _⟩ := hT.four
  obtain ⟨_, zhP0, zhP1, zhP2, zhP3, _, _, _, _⟩ := hP.four
  obtain ⟨_, zhG0, zhG1, zhG2, zhG3, _, _, _, _⟩ := hG.four
  go_wp2_with fail
  refine (C10.out _).mono ?_; rintro e w10 ⟨rfl, h10⟩
  clear zhA0 zhA1 zhA2 zhA3 zhB0 zhB1 zhB2 zhB3 zhC0 zhC1 zhC2 zhC3 zhD0 zhD1 zhD2 zhD3 zhN0 zhN1 zhN2 zhN3 zhT0 zhT1 zhT2 zhT3 zhP0 zhP1 zhP2 zhP3 zhG0 zhG1 zhG2 zhG3
  replace hA := hA.ext h10
  replace hB := hB.ext h10
  replace hC := hC.ext h10
  replace hD := hD.ext h10
  replace hN := hN.ext h10
  replace hT := hT.ext h10
  replace hP := hP.ext h10
  replace hG := hG.ext h10
  replace hE := hE.trans h10
  clear h10
  obtain ⟨_, zhA0, zhA1, zhA2, zhA3, _, _, _, _⟩ := hA.four
  obtain ⟨_, zhB0, zhB1, zhB2, zhB3, _, _, _, _⟩ := hB.four
  obtain ⟨_, zhC0, zhC1, zhC2, zhC3, _, _, _, _⟩ := hC.four
  obtain ⟨_, zhD0, zhD1, zhD2, zhD3, _, _, _, _⟩ := hD.four
  obtain ⟨_, zhN0, zhN1, zhN2, zhN3, _, _, _, _⟩ := hN.four
  obtain ⟨_, zhT0, zhT1, zhT2, zhT3, _, _, _, _⟩ := hT.four
  obtain ⟨_, zhP0, zhP1, zhP2, zhP3, _, _, _, _⟩ := hP.four
  obtain ⟨_, zhG0, zhG1, zhG2, zhG3, _, _, _, _⟩ := hG.four
  go_wp2_with fail
  refine (C11.out _).mono ?_; rintro e w11 ⟨rfl, h11⟩
  clear zhA0 zhA1 zhA2 zhA3 zhB0 zhB1 zhB2 zhB3 zhC0 zhC1 zhC2 zhC3 zhD0 zhD1 zhD2 zhD3 zhN0 zhN1 zhN2 zhN3 zhT0 zhT1 zhT2 zhT3 zhP0 zhP1 zhP2 zhP3 zhG0 zhG1 zhG2 zhG3
  replace hA := hA.ext h11
  replace hB := hB.ext h11
  replace hC := hC.ext h11
  replace hD := hD.ext h11
  replace hN := hN.ext h11
  replace hT := hT.ext h11
  replace hP := hP.ext h11
  replace hG := hG.ext h11
  replace hE := hE.trans h11
  clear h11
  obtain ⟨_, zhA0, zhA1, zhA2, zhA3, _, _, _, _⟩ := hA.four
  obtain ⟨_, zhB0, zhB1, zhB2, zhB3, _, _, _, _⟩ := hB.four
  obtain ⟨_, zhC0, zhC1, zhC2, zhC3, _, _, _, _⟩ := hC.four
  obtain ⟨_, zhD0, zhD1, zhD2, zhD3, _, _, _, _⟩ := hD.four
  obtain ⟨_, zhN0, zhN1, zhN2, zhN3, _, _, _, _⟩ := hN.four
  obtain ⟨_, zhT0, zhT1, zhT2, zhT3, _, _, _, _⟩ := hT.four
  obtain ⟨_, zhP0, zhP1, zhP2, zhP3, _, _, _, _⟩ := hP.four
  obtain ⟨_, zhG0, zhG1, zhG2, zhG3, _, _, _, _⟩ := hG.four
  go_wp2_with fail
  refine (C12.out _ (hv.ext hE).tab).mono ?_; rintro e w12 ⟨rfl, h12⟩
  clear zhA0 zhA1 zhA2 zhA3 zhB0 zhB1 zhB2 zhB3 zhC0 zhC1 zhC2 zhC3 zhD0 zhD1 zhD2 zhD3 zhN0 zhN1 zhN2 zhN3 zhT0 zhT1 zhT2 zhT3 zhP0 zhP1 zhP2 zhP3 zhG0 zhG1 zhG2 zhG3
  replace hA := hA.ext h12
  replace hB := hB.ext h12
  replace hC := hC.ext h12
  replace hD := hD.ext h12
  replace hN := hN.ext h12
  replace hT := hT.ext h12
  replace hP := hP.ext h12
  replace hG := hG.ext h12
  replace hE := hE.trans h12
  clear h12
  obtain ⟨_, zhA0, zhA1, zhA2, zhA3, _, _, _, _⟩ := hA.four
  obtain ⟨_, zhB0, zhB1, zhB2, zhB3, _, _, _, _⟩ := hB.four
  obtain ⟨_, zhC0, zhC1, zhC2, zhC3, _, _, _, _⟩ := hC.four
  obtain ⟨_, zhD0, zhD1, zhD2, zhD3, _, _, _, _⟩ := hD.four
  obtain ⟨_, zhN0, zhN1, zhN2, zhN3, _, _, _, _⟩ := hN.four
  obtain ⟨_, zhT0, zhT1, zhT2, zhT3, _, _, _, _⟩ := hT.four
  obtain ⟨_, zhP0, zhP1, zhP2, zhP3, _, _, _, _⟩ := hP.four
  obtain ⟨_, zhG0, zhG1, zhG2, zhG3, _, _, _, _⟩ := hG.four
  go_wp2
  go_ret
  exact ⟨rfl, hE⟩

end Go.Proofs.YtibimbcjnjefdaaDoor
