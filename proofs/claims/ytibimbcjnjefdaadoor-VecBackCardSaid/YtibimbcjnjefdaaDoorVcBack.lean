/- Chapter 3: the walk of VecBack. -/
import Derived.Test.YtibimbcjnjefdaaDoorVcExam
import Derived.Test.YtibimbcjnjefdaaDoorVcBackL
import Derived.Test.YtibimbcjnjefdaaDoorDraw
namespace Go.Dm
open Go Go.RowKit
theorem four_size {a b c d S : ByteArray} (h : S = ((a ++ b) ++ c) ++ d) : S.size = a.size + b.size + c.size + d.size := by
  subst h; simp only [ByteArray.size_append]
theorem four_data {a b c d S : ByteArray} (h : S = ((a ++ b) ++ c) ++ d) : S.data.toList = a.data.toList ++ (b.data.toList ++ (c.data.toList ++ d.data.toList)) := by
  subst h; simp
theorem text_same {A B : ByteArray} {L M : Bs} (hA : A.data.toList = L) (hB : B.data.toList = M) : (A.toList == B.toList) = decide (L = M) := by
  rw [ByteArray.toList_eq, ByteArray.toList_eq, hA, hB, Bool.eq_iff_iff, beq_iff_eq, decide_eq_true_eq]
end Go.Dm
namespace Go.Proofs.YtibimbcjnjefdaaDoor
open Go.RowKit Go.Dm

set_option maxHeartbeats 4000000 in
set_option maxRecDepth 100000 in
theorem vecBack_w (a b : Vc) (ahead behind : ByteArray) (w : World) (oa : OkV a) (ob : OkV b) (ha : ahead.size ≤ 140737488351232) (hb : behind.size ≤ 140737488351232) (hv : VarsV w) :
    Calls Tryd.prog 9 #[vVal a, vVal b, .string ahead, .string behind] w fun e w' => e = .returned (.bool true) ∧ Ext w w' := by
  have CE := fun U h => vexamples_w U h
  have n1 := putV_len oa
  have n2 := putV_len ob
  have n3 := textV_len oa
  have CP := fun U => vput_w a oa U
  have CP2 := fun U => vput_w b ob U
  have CT := fun U (h : Ext w U) => vtext_w a oa U (hv.ext h).tab
  have CT2 := fun U (h : Ext w U) => vtext_w b ob U (hv.ext h).tab
  have q1 := fun U => run_eql_vals (P := Tryd.prog) Tryd.underlying24 Tryd.underlying22 (by kernel_rfl) oa oa U
  have q2 := fun U => run_eql_vals (P := Tryd.prog) Tryd.underlying24 Tryd.underlying22 (by kernel_rfl) ob ob U
  have q3 := fun U => run_eql_vals (P := Tryd.prog) Tryd.underlying24 Tryd.underlying22 (by kernel_rfl) oa ob U
  simp only [decide_true] at q1 q2
  obtain ⟨S, hS⟩ : ∃ S : ByteArray, S = ⟨(putV a).toArray⟩ := ⟨_, rfl⟩
  obtain ⟨S', hS'⟩ : ∃ S : ByteArray, S = ⟨(putV b).toArray⟩ := ⟨_, rfl⟩
  obtain ⟨T, hT⟩ : ∃ S : ByteArray, S = ⟨(textV a).toArray⟩ := ⟨_, rfl⟩
  obtain ⟨T', hT'⟩ : ∃ S : ByteArray, S = ⟨(textV b).toArray⟩ := ⟨_, rfl⟩
  rw [← hS] at CP
  rw [← hS'] at CP2
  rw [← hT] at CT
  rw [← hT'] at CT2
  have hSd : S.data.toList = putV a := by rw [hS]
  have hSd' : S'.data.toList = putV b := by rw [hS']
  have hTd : T.data.toList = textV a := by rw [hT]
  have hTd' : T'.data.toList = textV b := by rw [hT']
  have hSs : S.size = (putV a).length := by rw [← hSd]; rfl
  have hSs' : S'.size = (putV b).length := by rw [← hSd']; rfl
  have hTs : T.size = (textV a).length := by rw [← hTd]; rfl
  have E1 : (S.toList == S'.toList) = decide (a = b) := by
    rw [text_same hSd hSd']
    exact decide_eq_decide.2 ⟨fun h => putV_inj oa ob h, fun h => by rw [h]⟩
  have E2 : (T.toList == T'.toList) = decide (a = b) := by
    rw [text_same hTd hTd']
    exact decide_eq_decide.2 ⟨fun h => textV_inj oa ob h, fun h => by rw [h]⟩
  have HG1 : ∀ X : ByteArray, X = ((ahead ++ S) ++ S') ++ behind → getV X.data.toList (ahead.size : Int) = (a, (ahead.size : Int) + (S.size : Int), true) := fun X hX => by
    have h := four_data hX
    rw [hSd, hSd'] at h
    rw [hSs, h]
    exact getV_put oa _ _
  have HG2 : ∀ X : ByteArray, X = ((ahead ++ S) ++ S') ++ behind → getV X.data.toList ((ahead.size : Int) + (S.size : Int)) = (b, ((ahead.size : Int) + (S.size : Int)) + (S'.size : Int), true) := fun X hX => by
    have h := four_data hX
    rw [hSd, hSd'] at h
    have := getV_put ob (ahead.data.toList ++ putV a) behind.data.toList
    rw [List.length_append, Int.natCast_add, List.append_assoc] at this
    rw [hSs, hSs', h]
    exact this
  have CR := fun U (h : VarsV U) => vparse_w T U (by omega) h
  rw [hTd, parseV_text oa] at CR
  have CR2 := fun U (h : VarsV U) => vparse_w (T ++ ⟨#[58, 48]⟩) U (by rw [ByteArray.size_append]; have : (⟨#[58, 48]⟩ : ByteArray).size = 2 := rfl; omega) h
  rw [show (T ++ ⟨#[58, 48]⟩ : ByteArray).data.toList = textV a ++ [58, 48] by rw [← hTd]; simp, parseV_long] at CR2
  replace CR2 : ∀ U, VarsV U → Calls Tryd.prog 20 #[.string (T ++ ⟨#[58, 48]⟩)] U fun e w' => e = .returned (.tuple #[.agg #[.int .u64 0, .int .u64 0, .int .u64 0, .int .u64 0], .bool false]) ∧ Ext U w' := CR2
  rw [← hSs] at n1
  rw [← hSs'] at n2
  rw [← hTs] at n3
  generalize decide (a = b) = d at *
  clear hSd hSd' hTd hTd' hSs hSs' hTs hS hS' hT hT' oa ob
  have hA := VBox.new w (vG a) 24
  replace hA := hA.ext ((Ext.refl _).alloc (.cells #[.int .u64 (vG b 0 : Nat), .int .u64 (vG b 1 : Nat), .int .u64 (vG b 2 : Nat), .int .u64 (vG b 3 : Nat)] 24))
  change VBox (w.heap.size) (vG a) ((w.alloc (.cells #[.int .u64 (vG a 0 : Nat), .int .u64 (vG a 1 : Nat), .int .u64 (vG a 2 : Nat), .int .u64 (vG a 3 : Nat)] 24)).alloc (.cells #[.int .u64 (vG b 0 : Nat), .int .u64 (vG b 1 : Nat), .int .u64 (vG b 2 : Nat), .int .u64 (vG b 3 : Nat)] 24)) at hA
  have hB := VBox.new (w.alloc (.cells #[.int .u64 (vG a 0 : Nat), .int .u64 (vG a 1 : Nat), .int .u64 (vG a 2 : Nat), .int .u64 (vG a 3 : Nat)] 24)) (vG b) 24
  simp only [World.size_alloc] at hB
  change VBox (w.heap.size + 1) (vG b) ((w.alloc (.cells #[.int .u64 (vG a 0 : Nat), .int .u64 (vG a 1 : Nat), .int .u64 (vG a 2 : Nat), .int .u64 (vG a 3 : Nat)] 24)).alloc (.cells #[.int .u64 (vG b 0 : Nat), .int .u64 (vG b 1 : Nat), .int .u64 (vG b 2 : Nat), .int .u64 (vG b 3 : Nat)] 24)) at hB
  have hE : Ext w ((w.alloc (.cells #[.int .u64 (vG a 0 : Nat), .int .u64 (vG a 1 : Nat), .int .u64 (vG a 2 : Nat), .int .u64 (vG a 3 : Nat)] 24)).alloc (.cells #[.int .u64 (vG b 0 : Nat), .int .u64 (vG b 1 : Nat), .int .u64 (vG b 2 : Nat), .int .u64 (vG b 3 : Nat)] 24)) := (((Ext.refl w).alloc _).alloc _)
  unfold vVal vF at CP CP2 CT CT2 CR q1 q2 q3
  replace CE := Lib.hid CE
  replace CP := Lib.hid CP
  replace CP2 := Lib.hid CP2
  replace CT := Lib.hid CT
  replace CT2 := Lib.hid CT2
  replace CR := Lib.hid CR
  replace CR2 := Lib.hid CR2
  replace HG1 := Lib.hid HG1
  replace HG2 := Lib.hid HG2
  unfold vVal vF
  go_enter Tryd.func9, Tryd.ntmps9
  obtain ⟨_, zhA0, zhA1, zhA2, zhA3, _, _, _, _⟩ := hA.four
  obtain ⟨_, zhB0, zhB1, zhB2, zhB3, _, _, _, _⟩ := hB.four
  go_wp2_with fail
  refine (CE.out _ (hv.ext hE)).mono ?_; rintro e w1 ⟨rfl, h1⟩
  clear zhA0 zhA1 zhA2 zhA3 zhB0 zhB1 zhB2 zhB3
  replace hA := hA.ext h1
  replace hB := hB.ext h1
  replace hE := hE.trans h1
  clear h1
  obtain ⟨_, zhA0, zhA1, zhA2, zhA3, _, _, _, _⟩ := hA.four
  obtain ⟨_, zhB0, zhB1, zhB2, zhB3, _, _, _, _⟩ := hB.four
  go_wp2_with fail
  refine Dm.wp_region_grow (by kernel_rfl) (by kernel_rfl) ?_
  repeat (go_big_quiet_step (first
    | (go_at_call 28; first | (with_reducible exact Calls.quietE (CP.out _)) | (with_reducible exact Calls.quietE (CP2.out _)))))
  refine wpQuiet_nil ?_
  intro w2 h2
  clear zhA0 zhA1 zhA2 zhA3 zhB0 zhB1 zhB2 zhB3
  replace hA := hA.ext h2
  replace hB := hB.ext h2
  replace hE := hE.trans h2
  clear h2
  obtain ⟨_, zhA0, zhA1, zhA2, zhA3, _, _, _, _⟩ := hA.four
  obtain ⟨_, zhB0, zhB1, zhB2, zhB3, _, _, _, _⟩ := hB.four
  go_wp2_with fail
  obtain ⟨X, hX⟩ : ∃ X : ByteArray, X = ((ahead ++ S) ++ S') ++ behind := ⟨_, rfl⟩
  rw [← hX]
  have G1 := HG1.out X hX
  have G2 := HG2.out X hX
  have hXs := four_size hX
  have hXl : X.size ≤ ahead.size + S.size + S'.size + behind.size := by omega
  have hXg : ahead.size + S.size + S'.size + behind.size ≤ X.size := by omega
  have hq : (((ahead.size : Int) + (S.size : Int)) + (S'.size : Int) == (X.size : Int) - (behind.size : Int)) = true := by rw [beq_iff_eq]; omega
  clear hX HG1 HG2 hXs
  have CG1 := fun U => vget_w X (ahead.size : Int) U (by omega)
  rw [G1] at CG1
  have CG2 := fun U => vget_w X ((ahead.size : Int) + (S.size : Int)) U (by omega)
  rw [G2] at CG2
  clear G1 G2
  unfold vVal vF at CG1 CG2
  replace CG1 := Lib.hid CG1
  replace CG2 := Lib.hid CG2
  clear zhA0 zhA1 zhA2 zhA3 zhB0 zhB1 zhB2 zhB3
  obtain ⟨_, zhA0, zhA1, zhA2, zhA3, _, _, _, _⟩ := hA.four
  obtain ⟨_, zhB0, zhB1, zhB2, zhB3, _, _, _, _⟩ := hB.four
  refine (CG1.out _).mono ?_; rintro e w3 ⟨rfl, h3⟩
  clear zhA0 zhA1 zhA2 zhA3 zhB0 zhB1 zhB2 zhB3
  replace hA := hA.ext h3
  replace hB := hB.ext h3
  replace hE := hE.trans h3
  clear h3
  obtain ⟨_, zhA0, zhA1, zhA2, zhA3, _, _, _, _⟩ := hA.four
  obtain ⟨_, zhB0, zhB1, zhB2, zhB3, _, _, _, _⟩ := hB.four
  have hXn := VBox.new w3 (vG a) 24
  go_wp2_with fail
  refine (CG2.out _).mono ?_; rintro e w4 ⟨rfl, h4⟩
  clear zhA0 zhA1 zhA2 zhA3 zhB0 zhB1 zhB2 zhB3
  have hX := hXn.ext h4
  replace h4 := ((Ext.refl w3).alloc (.cells #[.int .u64 (vG a 0 : Nat), .int .u64 (vG a 1 : Nat), .int .u64 (vG a 2 : Nat), .int .u64 (vG a 3 : Nat)] 24)).trans h4
  clear hXn
  replace hA := hA.ext h4
  replace hB := hB.ext h4
  replace hE := hE.trans h4
  clear h4
  obtain ⟨_, zhA0, zhA1, zhA2, zhA3, _, _, _, _⟩ := hA.four
  obtain ⟨_, zhB0, zhB1, zhB2, zhB3, _, _, _, _⟩ := hB.four
  obtain ⟨_, zhX0, zhX1, zhX2, zhX3, _, _, _, _⟩ := hX.four
  have hYn := VBox.new w4 (vG b) 24
  go_wp2_with fail
  refine (CT.out _ (hE.trans ((Ext.refl _).alloc _))).mono ?_; rintro e w5 ⟨rfl, h5⟩
  clear zhA0 zhA1 zhA2 zhA3 zhB0 zhB1 zhB2 zhB3 zhX0 zhX1 zhX2 zhX3
  have hY := hYn.ext h5
  replace h5 := ((Ext.refl w4).alloc (.cells #[.int .u64 (vG b 0 : Nat), .int .u64 (vG b 1 : Nat), .int .u64 (vG b 2 : Nat), .int .u64 (vG b 3 : Nat)] 24)).trans h5
  clear hYn
  replace hA := hA.ext h5
  replace hB := hB.ext h5
  replace hX := hX.ext h5
  replace hE := hE.trans h5
  clear h5
  obtain ⟨_, zhA0, zhA1, zhA2, zhA3, _, _, _, _⟩ := hA.four
  obtain ⟨_, zhB0, zhB1, zhB2, zhB3, _, _, _, _⟩ := hB.four
  obtain ⟨_, zhX0, zhX1, zhX2, zhX3, _, _, _, _⟩ := hX.four
  obtain ⟨_, zhY0, zhY1, zhY2, zhY3, _, _, _, _⟩ := hY.four
  go_wp2_with fail
  refine (CR.out _ (hv.ext hE)).mono ?_; rintro e w6 ⟨rfl, h6⟩
  clear zhA0 zhA1 zhA2 zhA3 zhB0 zhB1 zhB2 zhB3 zhX0 zhX1 zhX2 zhX3 zhY0 zhY1 zhY2 zhY3
  replace hA := hA.ext h6
  replace hB := hB.ext h6
  replace hX := hX.ext h6
  replace hY := hY.ext h6
  replace hE := hE.trans h6
  clear h6
  obtain ⟨_, zhA0, zhA1, zhA2, zhA3, _, _, _, _⟩ := hA.four
  obtain ⟨_, zhB0, zhB1, zhB2, zhB3, _, _, _, _⟩ := hB.four
  obtain ⟨_, zhX0, zhX1, zhX2, zhX3, _, _, _, _⟩ := hX.four
  obtain ⟨_, zhY0, zhY1, zhY2, zhY3, _, _, _, _⟩ := hY.four
  have hPn := VBox.new w6 (vG a) 24
  go_wp2_with fail
  refine (CT.out _ (hE.trans ((Ext.refl _).alloc _))).mono ?_; rintro e w7 ⟨rfl, h7⟩
  clear zhA0 zhA1 zhA2 zhA3 zhB0 zhB1 zhB2 zhB3 zhX0 zhX1 zhX2 zhX3 zhY0 zhY1 zhY2 zhY3
  have hP := hPn.ext h7
  replace h7 := ((Ext.refl w6).alloc (.cells #[.int .u64 (vG a 0 : Nat), .int .u64 (vG a 1 : Nat), .int .u64 (vG a 2 : Nat), .int .u64 (vG a 3 : Nat)] 24)).trans h7
  clear hPn
  replace hA := hA.ext h7
  replace hB := hB.ext h7
  replace hX := hX.ext h7
  replace hY := hY.ext h7
  replace hE := hE.trans h7
  clear h7
  obtain ⟨_, zhA0, zhA1, zhA2, zhA3, _, _, _, _⟩ := hA.four
  obtain ⟨_, zhB0, zhB1, zhB2, zhB3, _, _, _, _⟩ := hB.four
  obtain ⟨_, zhX0, zhX1, zhX2, zhX3, _, _, _, _⟩ := hX.four
  obtain ⟨_, zhY0, zhY1, zhY2, zhY3, _, _, _, _⟩ := hY.four
  obtain ⟨_, zhP0, zhP1, zhP2, zhP3, _, _, _, _⟩ := hP.four
  go_wp2_with fail
  refine (CR2.out _ (hv.ext hE)).mono ?_; rintro e w8 ⟨rfl, h8⟩
  clear zhA0 zhA1 zhA2 zhA3 zhB0 zhB1 zhB2 zhB3 zhX0 zhX1 zhX2 zhX3 zhY0 zhY1 zhY2 zhY3 zhP0 zhP1 zhP2 zhP3
  replace hA := hA.ext h8
  replace hB := hB.ext h8
  replace hX := hX.ext h8
  replace hY := hY.ext h8
  replace hP := hP.ext h8
  replace hE := hE.trans h8
  clear h8
  have hQ := VBox.new w8 (vG noV) 24
  change VBox _ _ (w8.alloc (.cells #[.int .u64 0, .int .u64 0, .int .u64 0, .int .u64 0] 24)) at hQ
  have hQe : Ext w8 (w8.alloc (.cells #[.int .u64 0, .int .u64 0, .int .u64 0, .int .u64 0] 24)) := (Ext.refl _).alloc _
  replace hA := hA.ext hQe
  replace hB := hB.ext hQe
  replace hX := hX.ext hQe
  replace hY := hY.ext hQe
  replace hP := hP.ext hQe
  replace hE := hE.trans hQe
  clear hQe hQ
  go_wp2_with fail
  generalize w8.alloc (.cells #[.int .u64 0, .int .u64 0, .int .u64 0, .int .u64 0] 24) = w9 at *
  obtain ⟨_, zhA0, zhA1, zhA2, zhA3, _, _, _, _⟩ := hA.four
  obtain ⟨_, zhB0, zhB1, zhB2, zhB3, _, _, _, _⟩ := hB.four
  obtain ⟨_, zhX0, zhX1, zhX2, zhX3, _, _, _, _⟩ := hX.four
  obtain ⟨_, zhY0, zhY1, zhY2, zhY3, _, _, _, _⟩ := hY.four
  obtain ⟨_, zhP0, zhP1, zhP2, zhP3, _, _, _, _⟩ := hP.four
  refine Dm.wp_region_grow (by kernel_rfl) (by kernel_rfl) ?_
  repeat (go_big_quiet_step (first
    | (go_at_call 28; first | (with_reducible exact Calls.quietE (CP.out _)) | (with_reducible exact Calls.quietE (CP2.out _)))
    | (go_at_call 30; first | (with_reducible exact Calls.quietE (CT.out _ (hE.trans (ext_grow _ _)))) | (with_reducible exact Calls.quietE (CT2.out _ (hE.trans (ext_grow _ _)))))))
  refine wpQuiet_nil ?_
  intro U hU
  go_wp2
  go_ret
  exact ⟨rfl, hE.trans hU⟩

end Go.Proofs.YtibimbcjnjefdaaDoor
