/- Chapter 3: the walk of VecTells. -/
import Derived.Test.YtibimbcjnjefdaaDoorVcExam
import Derived.Test.YtibimbcjnjefdaaDoorVcLawsB
import Derived.Test.YtibimbcjnjefdaaDoorVcRefB
import Derived.Test.YtibimbcjnjefdaaDoorVcRefC
import Derived.Test.YtibimbcjnjefdaaDoorVcRefG
namespace Go.Proofs.YtibimbcjnjefdaaDoor
open Go.RowKit Go.Dm

theorem getI_u64 (l : Bs) (p : Int) : U64 (getI l p).1 := by
  unfold getI
  split
  · show (0 : Nat) < _; omega
  · cases h : getL (l.drop p.toNat) with
    | none => show (0 : Nat) < _; omega
    | some x => exact (getL_len h).2.2.2
theorem getVF_okV {l : Bs} {p : Int} : ∀ {k ns q}, getVF l p k = some (ns, q) → ∀ x ∈ ns, U64 x
  | 0, ns, q, h => by simp [getVF] at h; rw [h.1]; simp
  | k + 1, ns, q, h => by
    unfold getVF at h
    cases e : getVF l p k with
    | none => rw [e] at h; simp at h
    | some x =>
      obtain ⟨ms, r⟩ := x
      rw [e] at h
      simp only at h
      split at h
      · simp at h
        rw [← h.1]
        intro x hx
        rcases List.mem_append.1 hx with hx | hx
        · exact getVF_okV e x hx
        · rw [List.mem_singleton.1 hx]; exact getI_u64 _ _
      · simp at h
theorem getV_okV (l : Bs) (p : Int) : OkV (getV l p).1 := by
  unfold getV
  cases h : getVF l p 4 with
  | none => exact okV_no
  | some x =>
    obtain ⟨ns, q⟩ := x
    refine ⟨getVF_len h, fun k => ?_⟩
    show U64 (ns.getD k 0)
    rw [List.getD_eq_getElem?_getD]
    cases e : ns[k]? with
    | none => show (0 : Nat) < _; omega
    | some x => exact getVF_okV h x (List.mem_of_getElem? e)

set_option maxHeartbeats 8000000 in
set_option maxRecDepth 100000 in
theorem vecTells_w (a b : Vc) (n : Nat) (m : Int) (s : ByteArray) (p : Int) (t : ByteArray) (w : World) (oa : OkV a) (ob : OkV b) (hn : U64 n) (hm : -9223372036854775808 ≤ m ∧ m ≤ 9223372036854775807) (hs : s.size ≤ 1048576) (ht : t.size ≤ 1048576) (hv : VarsV w) :
    Calls Tryd.prog 3 #[vVal a, vVal b, .int .u64 (n : Nat), .int .i64 m, .string s, .int .i64 p, .string t] w fun e w' => e = .returned (.bool true) ∧ Ext w w' := by
  have CE := fun U h => vexamples_w U h
  have oc := vadd_or_okV a b
  have oe := vsub_or_okV oa b
  have oi := vtimes_or_okV a n
  have om := getV_okV s.data.toList p
  have op : OkV (parseV t.data.toList).1 := by
    unfold parseV
    split
    · exact parseA_ok _
    · exact okV_no
  have C1 := fun U => vadd_w a b oa ob U
  have C2 := fun U => vsub_w a b oa ob U
  have C3 := fun U => vtimes_w a n oa hn U
  have D1 := fun U => r03add_w a b oa ob U
  have D2 := fun U => r03sub_w a b oa ob U
  have D3 := fun U => r03times_w a n oa hn U
  have RA := fun U => refv3_w a U
  have RB := fun U => refv3_w b U
  have RC := fun U => refv3_w (vOr (vaddOk a b) (vadd a b)) U
  have RE := fun U => refv3_w (vOr (vfits b a) (vsub a b)) U
  have RI := fun U => refv3_w (vOr (vtimesOk a n) (vtimes a n)) U
  have RM := fun U => refv3_w (getV s.data.toList p).1 U
  have RP := fun U => refv3_w (parseV t.data.toList).1 U
  have G1 := fun U => vget_w s p U (by omega)
  have G2 := fun U => r03get_w s p U (by omega)
  have P1 := fun U h => vparse_w t U (by omega) h
  have P2 := fun U => r03parse_w t U (by omega)
  have O1 := fun U => vorder_w a b oa ob U
  have O2 := fun U => r03order_w a b oa ob U
  have F1 := fun U => vfits_w a b oa ob U
  have F2 := fun U => r03fits_w a b U
  have H1 := fun U => vholds_w a b oa ob m hm.2 U
  have H2 := fun U => r03holds_w a b oa ob m m.toNat (by omega) (by omega) U
  have U1 := fun U => vput_w a oa U
  have U2 := fun U => r03put_w a oa U
  have T1 := fun U h => vtext_w a oa U h
  have T2 := fun U => r03text_w a oa U
  have q1 := fun U => run_neq_vals (P := Tryd.prog) Tryd.underlying28 Tryd.underlying22 (by kernel_rfl) oc oc U
  have q2 := fun U => run_neq_vals (P := Tryd.prog) Tryd.underlying28 Tryd.underlying22 (by kernel_rfl) oe oe U
  have q3 := fun U => run_neq_vals (P := Tryd.prog) Tryd.underlying28 Tryd.underlying22 (by kernel_rfl) oi oi U
  have q4 := fun U => run_neq_vals (P := Tryd.prog) Tryd.underlying28 Tryd.underlying22 (by kernel_rfl) om om U
  have q5 := fun U => run_neq_vals (P := Tryd.prog) Tryd.underlying28 Tryd.underlying22 (by kernel_rfl) op op U
  simp only [decide_true, Bool.not_true] at q1 q2 q3 q4 q5
  clear oa ob oc oe oi om op
  generalize vOr (vaddOk a b) (vadd a b) = cc at *
  generalize vaddOk a b = okc at *
  generalize vOr (vfits b a) (vsub a b) = ee at *
  generalize vfits b a = oke at *
  generalize vOr (vtimesOk a n) (vtimes a n) = ii at *
  generalize vtimesOk a n = oki at *
  generalize getV s.data.toList p = gm at *
  obtain ⟨mm, nx, okm⟩ := gm
  generalize parseV t.data.toList = gp at *
  obtain ⟨pp, okp⟩ := gp
  generalize vord a b = vo at *
  generalize vfits a b = vf at *
  generalize vholds a b m.toNat = vh at *
  generalize (⟨(putV a).toArray⟩ : ByteArray) = pt at *
  generalize (⟨(textV a).toArray⟩ : ByteArray) = tx at *
  simp only at G1 G2 P1 P2 RM RP q4 q5
  unfold vVal vF at C1 C2 C3 D1 D2 D3 RA RB RC RE RI RM RP G1 G2 P1 P2 O1 O2 F1 F2 H1 H2 U1 U2 T1 T2 q1 q2 q3 q4 q5
  replace CE := Lib.hid CE
  replace C1 := Lib.hid C1
  replace C2 := Lib.hid C2
  replace C3 := Lib.hid C3
  replace D1 := Lib.hid D1
  replace D2 := Lib.hid D2
  replace D3 := Lib.hid D3
  replace RA := Lib.hid RA
  replace RB := Lib.hid RB
  replace RC := Lib.hid RC
  replace RE := Lib.hid RE
  replace RI := Lib.hid RI
  replace RM := Lib.hid RM
  replace RP := Lib.hid RP
  replace G1 := Lib.hid G1
  replace G2 := Lib.hid G2
  replace P1 := Lib.hid P1
  replace P2 := Lib.hid P2
  replace O1 := Lib.hid O1
  replace O2 := Lib.hid O2
  replace F1 := Lib.hid F1
  replace F2 := Lib.hid F2
  replace H1 := Lib.hid H1
  replace H2 := Lib.hid H2
  replace U1 := Lib.hid U1
  replace U2 := Lib.hid U2
  replace T1 := Lib.hid T1
  replace T2 := Lib.hid T2
  unfold vVal vF
  go_enter Tryd.func3, Tryd.ntmps3
  have hA := VBox.new w (vG a) 24
  replace hA := hA.ext ((Ext.refl _).alloc (.cells #[.int .u64 (vG b 0 : Nat), .int .u64 (vG b 1 : Nat), .int .u64 (vG b 2 : Nat), .int .u64 (vG b 3 : Nat)] 24))
  change VBox (w.heap.size) (vG a) ((w.alloc (.cells #[.int .u64 (vG a 0 : Nat), .int .u64 (vG a 1 : Nat), .int .u64 (vG a 2 : Nat), .int .u64 (vG a 3 : Nat)] 24)).alloc (.cells #[.int .u64 (vG b 0 : Nat), .int .u64 (vG b 1 : Nat), .int .u64 (vG b 2 : Nat), .int .u64 (vG b 3 : Nat)] 24)) at hA
  have hB := VBox.new (w.alloc (.cells #[.int .u64 (vG a 0 : Nat), .int .u64 (vG a 1 : Nat), .int .u64 (vG a 2 : Nat), .int .u64 (vG a 3 : Nat)] 24)) (vG b) 24
  simp only [World.size_alloc] at hB
  change VBox (w.heap.size + 1) (vG b) ((w.alloc (.cells #[.int .u64 (vG a 0 : Nat), .int .u64 (vG a 1 : Nat), .int .u64 (vG a 2 : Nat), .int .u64 (vG a 3 : Nat)] 24)).alloc (.cells #[.int .u64 (vG b 0 : Nat), .int .u64 (vG b 1 : Nat), .int .u64 (vG b 2 : Nat), .int .u64 (vG b 3 : Nat)] 24)) at hB
  have hE : Ext w ((w.alloc (.cells #[.int .u64 (vG a 0 : Nat), .int .u64 (vG a 1 : Nat), .int .u64 (vG a 2 : Nat), .int .u64 (vG a 3 : Nat)] 24)).alloc (.cells #[.int .u64 (vG b 0 : Nat), .int .u64 (vG b 1 : Nat), .int .u64 (vG b 2 : Nat), .int .u64 (vG b 3 : Nat)] 24)) := (((Ext.refl w).alloc _).alloc _)
  obtain ⟨_, zhA0, zhA1, zhA2, zhA3, _, _, _, _⟩ := hA.four
  obtain ⟨_, zhB0, zhB1, zhB2, zhB3, _, _, _, _⟩ := hB.four
  go_wp2_with fail
  refine (CE.out _ (hv.ext hE)).mono ?_; rintro e w1 ⟨rfl, h1⟩
  clear zhA0 zhA1 zhA2 zhA3 zhB0 zhB1 zhB2 zhB3
  replace hA := hA.ext h1
  replace hB := hB.ext h1
  replace hE := hE.trans h1
  clear h1
  obtain ⟨_, zhA0, zhA1, zhA2, zhA3, _, _, _, _⟩ := hA.four
  obtain ⟨_, zhB0, zhB1, zhB2, zhB3, _, _, _, _⟩ := hB.four
  go_wp2_with fail
  refine (C1.out _).mono ?_; rintro e w2 ⟨rfl, h2⟩
  clear zhA0 zhA1 zhA2 zhA3 zhB0 zhB1 zhB2 zhB3
  replace hA := hA.ext h2
  replace hB := hB.ext h2
  replace hE := hE.trans h2
  clear h2
  obtain ⟨_, zhA0, zhA1, zhA2, zhA3, _, _, _, _⟩ := hA.four
  obtain ⟨_, zhB0, zhB1, zhB2, zhB3, _, _, _, _⟩ := hB.four
  have hC := VBox.new w2 (vG cc) 24
  have hEn := (Ext.refl w2).alloc (.cells #[.int .u64 (vG cc 0 : Nat), .int .u64 (vG cc 1 : Nat), .int .u64 (vG cc 2 : Nat), .int .u64 (vG cc 3 : Nat)] 24)
  go_wp2_with fail
  clear zhA0 zhA1 zhA2 zhA3 zhB0 zhB1 zhB2 zhB3
  generalize w2.alloc (.cells #[.int .u64 (vG cc 0 : Nat), .int .u64 (vG cc 1 : Nat), .int .u64 (vG cc 2 : Nat), .int .u64 (vG cc 3 : Nat)] 24) = w3 at *
  replace hA := hA.ext hEn
  replace hB := hB.ext hEn
  replace hE := hE.trans hEn
  clear hEn
  obtain ⟨zhAl, zhA0, zhA1, zhA2, zhA3, _, _, _, _⟩ := hA.four
  obtain ⟨zhBl, zhB0, zhB1, zhB2, zhB3, _, _, _, _⟩ := hB.four
  obtain ⟨zhCl, zhC0, zhC1, zhC2, zhC3, _, _, _, _⟩ := hC.four
  try simp only [Act.put, List.setIfInBounds_toArray, List.set_cons_succ, List.set_cons_zero]
  refine Dm.wp_region_ext 11 (Dm.bits 11 0) (Ext.refl w3) (by kernel_rfl) (by kernel_rfl) (by kernel_rfl) ?_
  refine Dm.wpE_take (i := 0) (listed' := (Dm.bits 11 1)) (by kernel_rfl) (by kernel_rfl) rfl (fun _ _ _ _ h => h) ?_; apply Exists.intro; refine And.intro (fun x => ?_) ?_
  · go_big_quiet_step ((first | (go_at_call 13; with_reducible exact Calls.quietE (RA.out _)) | (go_at_call 13; with_reducible exact Calls.quietE (RB.out _)) | (go_at_call 12; with_reducible exact Calls.quietE (D1.out _)))); exact wpQuiet_nil rfl
  refine Dm.wpE_take (i := 1) (listed' := (Dm.bits 11 3)) (by kernel_rfl) (by kernel_rfl) rfl (fun _ _ _ _ h => h) ?_; apply Exists.intro; refine And.intro (fun x => ?_) ?_
  · go_big_quiet_step ((first | (go_at_call 13; with_reducible exact Calls.quietE (RA.out _)) | (go_at_call 13; with_reducible exact Calls.quietE (RB.out _)) | (go_at_call 12; with_reducible exact Calls.quietE (D1.out _)))); exact wpQuiet_nil rfl
  refine Dm.wpE_take (i := 2) (listed' := (Dm.bits 11 7)) (by kernel_rfl) (by kernel_rfl) rfl (fun _ _ _ _ h => h) ?_; apply Exists.intro; refine And.intro (fun x => ?_) ?_
  · go_big_quiet_step ((first | (go_at_call 13; with_reducible exact Calls.quietE (RA.out _)) | (go_at_call 13; with_reducible exact Calls.quietE (RB.out _)) | (go_at_call 12; with_reducible exact Calls.quietE (D1.out _)))); exact wpQuiet_nil rfl
  refine Dm.wpE_take (i := 3) (listed' := (Dm.bits 11 15)) (by kernel_rfl) (by kernel_rfl) rfl (fun _ _ _ _ h => h) ?_; apply Exists.intro; refine And.intro (fun x => ?_) ?_
  · go_big_quiet_step ((first | (go_at_call 13; with_reducible exact Calls.quietE (RA.out _)) | (go_at_call 13; with_reducible exact Calls.quietE (RB.out _)) | (go_at_call 12; with_reducible exact Calls.quietE (D1.out _)))); exact wpQuiet_nil rfl
  refine Dm.wpE_take (i := 4) (listed' := (Dm.bits 11 31)) (by kernel_rfl) (by kernel_rfl) rfl (fun _ _ _ _ h => h) ?_; apply Exists.intro; refine And.intro (fun x => ?_) ?_
  · go_big_quiet_step ((first | (go_at_call 13; with_reducible exact Calls.quietE (RA.out _)) | (go_at_call 13; with_reducible exact Calls.quietE (RB.out _)) | (go_at_call 12; with_reducible exact Calls.quietE (D1.out _)))); exact wpQuiet_nil rfl
  refine Dm.wpE_take (i := 5) (listed' := (Dm.bits 11 63)) (by kernel_rfl) (by kernel_rfl) rfl (fun _ _ _ _ h => h) ?_; apply Exists.intro; refine And.intro (fun x => ?_) ?_
  · go_big_quiet_step ((first | (go_at_call 13; with_reducible exact Calls.quietE (RA.out _)) | (go_at_call 13; with_reducible exact Calls.quietE (RB.out _)) | (go_at_call 12; with_reducible exact Calls.quietE (D1.out _)))); exact wpQuiet_nil rfl
  refine Dm.wpE_take (i := 6) (listed' := (Dm.bits 11 127)) (by kernel_rfl) (by kernel_rfl) rfl (fun _ _ _ _ h => h) ?_; apply Exists.intro; refine And.intro (fun x => ?_) ?_
  · go_big_quiet_step ((first | (go_at_call 13; with_reducible exact Calls.quietE (RA.out _)) | (go_at_call 13; with_reducible exact Calls.quietE (RB.out _)) | (go_at_call 12; with_reducible exact Calls.quietE (D1.out _)))); exact wpQuiet_nil rfl
  refine Dm.wpE_take (i := 7) (listed' := (Dm.bits 11 255)) (by kernel_rfl) (by kernel_rfl) rfl (fun _ _ _ _ h => h) ?_; apply Exists.intro; refine And.intro (fun x => ?_) ?_
  · go_big_quiet_step ((first | (go_at_call 13; with_reducible exact Calls.quietE (RA.out _)) | (go_at_call 13; with_reducible exact Calls.quietE (RB.out _)) | (go_at_call 12; with_reducible exact Calls.quietE (D1.out _)))); exact wpQuiet_nil rfl
  refine Dm.wpE_one (i := 8) (listed' := (Dm.bits 11 511)) (by kernel_rfl) (by kernel_rfl) rfl (Ext.refl w3) (fun w1a hx1a => ?_)
  have hX1a := Ext.trans (Ext.refl w3) hx1a
  have hz := VBox.new w1a (fun _ => 0) 28
  have hzl := (hX1a).size
  go_wp2_with fail
  have hs1 := (Ext.refl w1a).alloc (.cells #[.int .u64 0, .int .u64 0, .int .u64 0, .int .u64 0] 28)
  have hX1b := Ext.trans hX1a hs1
  change VBox _ _ (w1a.alloc (.cells #[.int .u64 0, .int .u64 0, .int .u64 0, .int .u64 0] 28)) at hz
  generalize w1a.alloc (.cells #[.int .u64 0, .int .u64 0, .int .u64 0, .int .u64 0] 28) = w1b at *
  generalize w1a.heap.size = bhD at *
  try simp only [Exit.then, Act.put]
  refine Dm.wpE_one (i := 9) (listed' := (Dm.bits 11 1023)) (by kernel_rfl) (by kernel_rfl) rfl hX1b (fun w2a hx2a => ?_)
  have hX2a := Ext.trans hX1b hx2a
  replace hz := hz.ext hx2a
  obtain ⟨_, y0, y1, y2, y3, x0, x1, x2, x3⟩ := hz.four
  have hD := hz.put (vG cc)
  have hX2b := Ext.put4 hX2a (b := bhD) (by omega) (vG cc)
  go_wp2_with fail
  clear y0 y1 y2 y3 x0 x1 x2 x3
  unfold Dm.put4 at hD hX2b
  generalize (((w2a.setCell ⟨bhD, 0, none⟩ (.int .u64 (vG cc 0 : Nat))).setCell ⟨bhD, 1, none⟩ (.int .u64 (vG cc 1 : Nat))).setCell ⟨bhD, 2, none⟩ (.int .u64 (vG cc 2 : Nat))).setCell ⟨bhD, 3, none⟩ (.int .u64 (vG cc 3 : Nat)) = w2b at *
  try simp only [Exit.then, Act.put]
  refine Dm.wpE_take (i := 10) (listed' := (Dm.bits 11 2047)) (by kernel_rfl) (by kernel_rfl) rfl (fun _ _ _ _ h => h) ?_; apply Exists.intro; refine And.intro (fun x => ?_) ?_
  · go_big_quiet_step ((first | (go_at_call 13; with_reducible exact Calls.quietE (RA.out _)) | (go_at_call 13; with_reducible exact Calls.quietE (RB.out _)) | (go_at_call 12; with_reducible exact Calls.quietE (D1.out _)))); exact wpQuiet_nil rfl
  refine Dm.wpE_done (by kernel_rfl) hX2b (fun w3a hx3a => ?_)
  have hX3a := Ext.trans hX2b hx3a
  replace hD := hD.ext hx3a
  clear zhAl zhA0 zhA1 zhA2 zhA3 zhBl zhB0 zhB1 zhB2 zhB3 zhCl zhC0 zhC1 zhC2 zhC3
  replace hA := hA.ext hX3a
  replace hB := hB.ext hX3a
  replace hC := hC.ext hX3a
  replace hE := hE.trans hX3a
  generalize w3a = w4 at *
  obtain ⟨_, zhA0, zhA1, zhA2, zhA3, _, _, _, _⟩ := hA.four
  obtain ⟨_, zhB0, zhB1, zhB2, zhB3, _, _, _, _⟩ := hB.four
  obtain ⟨_, zhC0, zhC1, zhC2, zhC3, _, _, _, _⟩ := hC.four
  obtain ⟨_, zhD0, zhD1, zhD2, zhD3, _, _, _, _⟩ := hD.four
  go_wp2_with fail
  refine (C2.out _).mono ?_; rintro e w5 ⟨rfl, h5⟩
  clear zhA0 zhA1 zhA2 zhA3 zhB0 zhB1 zhB2 zhB3 zhC0 zhC1 zhC2 zhC3 zhD0 zhD1 zhD2 zhD3
  replace hA := hA.ext h5
  replace hB := hB.ext h5
  replace hC := hC.ext h5
  replace hD := hD.ext h5
  replace hE := hE.trans h5
  clear h5
  obtain ⟨_, zhA0, zhA1, zhA2, zhA3, _, _, _, _⟩ := hA.four
  obtain ⟨_, zhB0, zhB1, zhB2, zhB3, _, _, _, _⟩ := hB.four
  obtain ⟨_, zhC0, zhC1, zhC2, zhC3, _, _, _, _⟩ := hC.four
  obtain ⟨_, zhD0, zhD1, zhD2, zhD3, _, _, _, _⟩ := hD.four
  have hF := VBox.new w5 (vG ee) 24
  have hEn := (Ext.refl w5).alloc (.cells #[.int .u64 (vG ee 0 : Nat), .int .u64 (vG ee 1 : Nat), .int .u64 (vG ee 2 : Nat), .int .u64 (vG ee 3 : Nat)] 24)
  go_wp2_with fail
  clear zhA0 zhA1 zhA2 zhA3 zhB0 zhB1 zhB2 zhB3 zhC0 zhC1 zhC2 zhC3 zhD0 zhD1 zhD2 zhD3
  generalize w5.alloc (.cells #[.int .u64 (vG ee 0 : Nat), .int .u64 (vG ee 1 : Nat), .int .u64 (vG ee 2 : Nat), .int .u64 (vG ee 3 : Nat)] 24) = w6 at *
  replace hA := hA.ext hEn
  replace hB := hB.ext hEn
  replace hC := hC.ext hEn
  replace hD := hD.ext hEn
  replace hE := hE.trans hEn
  clear hEn
  obtain ⟨zhAl, zhA0, zhA1, zhA2, zhA3, _, _, _, _⟩ := hA.four
  obtain ⟨zhBl, zhB0, zhB1, zhB2, zhB3, _, _, _, _⟩ := hB.four
  obtain ⟨zhCl, zhC0, zhC1, zhC2, zhC3, _, _, _, _⟩ := hC.four
  obtain ⟨zhDl, zhD0, zhD1, zhD2, zhD3, _, _, _, _⟩ := hD.four
  obtain ⟨zhFl, zhF0, zhF1, zhF2, zhF3, _, _, _, _⟩ := hF.four
  try simp only [Act.put, List.setIfInBounds_toArray, List.set_cons_succ, List.set_cons_zero]
  refine Dm.wp_region_ext 11 (Dm.bits 11 0) (Ext.refl w6) (by kernel_rfl) (by kernel_rfl) (by kernel_rfl) ?_
  refine Dm.wpE_take (i := 0) (listed' := (Dm.bits 11 1)) (by kernel_rfl) (by kernel_rfl) rfl (fun _ _ _ _ h => h) ?_; apply Exists.intro; refine And.intro (fun x => ?_) ?_
  · go_big_quiet_step ((first | (go_at_call 13; with_reducible exact Calls.quietE (RA.out _)) | (go_at_call 13; with_reducible exact Calls.quietE (RB.out _)) | (go_at_call 15; with_reducible exact Calls.quietE (D2.out _)))); exact wpQuiet_nil rfl
  refine Dm.wpE_take (i := 1) (listed' := (Dm.bits 11 3)) (by kernel_rfl) (by kernel_rfl) rfl (fun _ _ _ _ h => h) ?_; apply Exists.intro; refine And.intro (fun x => ?_) ?_
  · go_big_quiet_step ((first | (go_at_call 13; with_reducible exact Calls.quietE (RA.out _)) | (go_at_call 13; with_reducible exact Calls.quietE (RB.out _)) | (go_at_call 15; with_reducible exact Calls.quietE (D2.out _)))); exact wpQuiet_nil rfl
  refine Dm.wpE_take (i := 2) (listed' := (Dm.bits 11 7)) (by kernel_rfl) (by kernel_rfl) rfl (fun _ _ _ _ h => h) ?_; apply Exists.intro; refine And.intro (fun x => ?_) ?_
  · go_big_quiet_step ((first | (go_at_call 13; with_reducible exact Calls.quietE (RA.out _)) | (go_at_call 13; with_reducible exact Calls.quietE (RB.out _)) | (go_at_call 15; with_reducible exact Calls.quietE (D2.out _)))); exact wpQuiet_nil rfl
  refine Dm.wpE_take (i := 3) (listed' := (Dm.bits 11 15)) (by kernel_rfl) (by kernel_rfl) rfl (fun _ _ _ _ h => h) ?_; apply Exists.intro; refine And.intro (fun x => ?_) ?_
  · go_big_quiet_step ((first | (go_at_call 13; with_reducible exact Calls.quietE (RA.out _)) | (go_at_call 13; with_reducible exact Calls.quietE (RB.out _)) | (go_at_call 15; with_reducible exact Calls.quietE (D2.out _)))); exact wpQuiet_nil rfl
  refine Dm.wpE_take (i := 4) (listed' := (Dm.bits 11 31)) (by kernel_rfl) (by kernel_rfl) rfl (fun _ _ _ _ h => h) ?_; apply Exists.intro; refine And.intro (fun x => ?_) ?_
  · go_big_quiet_step ((first | (go_at_call 13; with_reducible exact Calls.quietE (RA.out _)) | (go_at_call 13; with_reducible exact Calls.quietE (RB.out _)) | (go_at_call 15; with_reducible exact Calls.quietE (D2.out _)))); exact wpQuiet_nil rfl
  refine Dm.wpE_take (i := 5) (listed' := (Dm.bits 11 63)) (by kernel_rfl) (by kernel_rfl) rfl (fun _ _ _ _ h => h) ?_; apply Exists.intro; refine And.intro (fun x => ?_) ?_
  · go_big_quiet_step ((first | (go_at_call 13; with_reducible exact Calls.quietE (RA.out _)) | (go_at_call 13; with_reducible exact Calls.quietE (RB.out _)) | (go_at_call 15; with_reducible exact Calls.quietE (D2.out _)))); exact wpQuiet_nil rfl
  refine Dm.wpE_take (i := 6) (listed' := (Dm.bits 11 127)) (by kernel_rfl) (by kernel_rfl) rfl (fun _ _ _ _ h => h) ?_; apply Exists.intro; refine And.intro (fun x => ?_) ?_
  · go_big_quiet_step ((first | (go_at_call 13; with_reducible exact Calls.quietE (RA.out _)) | (go_at_call 13; with_reducible exact Calls.quietE (RB.out _)) | (go_at_call 15; with_reducible exact Calls.quietE (D2.out _)))); exact wpQuiet_nil rfl
  refine Dm.wpE_take (i := 7) (listed' := (Dm.bits 11 255)) (by kernel_rfl) (by kernel_rfl) rfl (fun _ _ _ _ h => h) ?_; apply Exists.intro; refine And.intro (fun x => ?_) ?_
  · go_big_quiet_step ((first | (go_at_call 13; with_reducible exact Calls.quietE (RA.out _)) | (go_at_call 13; with_reducible exact Calls.quietE (RB.out _)) | (go_at_call 15; with_reducible exact Calls.quietE (D2.out _)))); exact wpQuiet_nil rfl
  refine Dm.wpE_one (i := 8) (listed' := (Dm.bits 11 511)) (by kernel_rfl) (by kernel_rfl) rfl (Ext.refl w6) (fun w1a hx1a => ?_)
  have hX1a := Ext.trans (Ext.refl w6) hx1a
  have hz := VBox.new w1a (fun _ => 0) 28
  have hzl := (hX1a).size
  go_wp2_with fail
  have hs1 := (Ext.refl w1a).alloc (.cells #[.int .u64 0, .int .u64 0, .int .u64 0, .int .u64 0] 28)
  have hX1b := Ext.trans hX1a hs1
  change VBox _ _ (w1a.alloc (.cells #[.int .u64 0, .int .u64 0, .int .u64 0, .int .u64 0] 28)) at hz
  generalize w1a.alloc (.cells #[.int .u64 0, .int .u64 0, .int .u64 0, .int .u64 0] 28) = w1b at *
  generalize w1a.heap.size = bhG at *
  try simp only [Exit.then, Act.put]
  refine Dm.wpE_one (i := 9) (listed' := (Dm.bits 11 1023)) (by kernel_rfl) (by kernel_rfl) rfl hX1b (fun w2a hx2a => ?_)
  have hX2a := Ext.trans hX1b hx2a
  replace hz := hz.ext hx2a
  obtain ⟨_, y0, y1, y2, y3, x0, x1, x2, x3⟩ := hz.four
  have hG := hz.put (vG ee)
  have hX2b := Ext.put4 hX2a (b := bhG) (by omega) (vG ee)
  go_wp2_with fail
  clear y0 y1 y2 y3 x0 x1 x2 x3
  unfold Dm.put4 at hG hX2b
  generalize (((w2a.setCell ⟨bhG, 0, none⟩ (.int .u64 (vG ee 0 : Nat))).setCell ⟨bhG, 1, none⟩ (.int .u64 (vG ee 1 : Nat))).setCell ⟨bhG, 2, none⟩ (.int .u64 (vG ee 2 : Nat))).setCell ⟨bhG, 3, none⟩ (.int .u64 (vG ee 3 : Nat)) = w2b at *
  try simp only [Exit.then, Act.put]
  refine Dm.wpE_take (i := 10) (listed' := (Dm.bits 11 2047)) (by kernel_rfl) (by kernel_rfl) rfl (fun _ _ _ _ h => h) ?_; apply Exists.intro; refine And.intro (fun x => ?_) ?_
  · go_big_quiet_step ((first | (go_at_call 13; with_reducible exact Calls.quietE (RA.out _)) | (go_at_call 13; with_reducible exact Calls.quietE (RB.out _)) | (go_at_call 15; with_reducible exact Calls.quietE (D2.out _)))); exact wpQuiet_nil rfl
  refine Dm.wpE_done (by kernel_rfl) hX2b (fun w3a hx3a => ?_)
  have hX3a := Ext.trans hX2b hx3a
  replace hG := hG.ext hx3a
  clear zhAl zhA0 zhA1 zhA2 zhA3 zhBl zhB0 zhB1 zhB2 zhB3 zhCl zhC0 zhC1 zhC2 zhC3 zhDl zhD0 zhD1 zhD2 zhD3 zhFl zhF0 zhF1 zhF2 zhF3
  replace hA := hA.ext hX3a
  replace hB := hB.ext hX3a
  replace hC := hC.ext hX3a
  replace hD := hD.ext hX3a
  replace hF := hF.ext hX3a
  replace hE := hE.trans hX3a
  generalize w3a = w7 at *
  obtain ⟨_, zhA0, zhA1, zhA2, zhA3, _, _, _, _⟩ := hA.four
  obtain ⟨_, zhB0, zhB1, zhB2, zhB3, _, _, _, _⟩ := hB.four
  obtain ⟨_, zhC0, zhC1, zhC2, zhC3, _, _, _, _⟩ := hC.four
  obtain ⟨_, zhD0, zhD1, zhD2, zhD3, _, _, _, _⟩ := hD.four
  obtain ⟨_, zhF0, zhF1, zhF2, zhF3, _, _, _, _⟩ := hF.four
  obtain ⟨_, zhG0, zhG1, zhG2, zhG3, _, _, _, _⟩ := hG.four
  go_wp2_with fail
  refine (C3.out _).mono ?_; rintro e w8 ⟨rfl, h8⟩
  clear zhA0 zhA1 zhA2 zhA3 zhB0 zhB1 zhB2 zhB3 zhC0 zhC1 zhC2 zhC3 zhD0 zhD1 zhD2 zhD3 zhF0 zhF1 zhF2 zhF3 zhG0 zhG1 zhG2 zhG3
  replace hA := hA.ext h8
  replace hB := hB.ext h8
  replace hC := hC.ext h8
  replace hD := hD.ext h8
  replace hF := hF.ext h8
  replace hG := hG.ext h8
  replace hE := hE.trans h8
  clear h8
  obtain ⟨_, zhA0, zhA1, zhA2, zhA3, _, _, _, _⟩ := hA.four
  obtain ⟨_, zhB0, zhB1, zhB2, zhB3, _, _, _, _⟩ := hB.four
  obtain ⟨_, zhC0, zhC1, zhC2, zhC3, _, _, _, _⟩ := hC.four
  obtain ⟨_, zhD0, zhD1, zhD2, zhD3, _, _, _, _⟩ := hD.four
  obtain ⟨_, zhF0, zhF1, zhF2, zhF3, _, _, _, _⟩ := hF.four
  obtain ⟨_, zhG0, zhG1, zhG2, zhG3, _, _, _, _⟩ := hG.four
  have hIn := VBox.new w8 (vG ii) 24
  go_wp2_with fail
  refine (RA.out _).mono ?_; rintro e w9 ⟨rfl, h9⟩
  clear zhA0 zhA1 zhA2 zhA3 zhB0 zhB1 zhB2 zhB3 zhC0 zhC1 zhC2 zhC3 zhD0 zhD1 zhD2 zhD3 zhF0 zhF1 zhF2 zhF3 zhG0 zhG1 zhG2 zhG3
  have hI := hIn.ext h9
  replace h9 := ((Ext.refl w8).alloc (.cells #[.int .u64 (vG ii 0 : Nat), .int .u64 (vG ii 1 : Nat), .int .u64 (vG ii 2 : Nat), .int .u64 (vG ii 3 : Nat)] 24)).trans h9
  clear hIn
  replace hA := hA.ext h9
  replace hB := hB.ext h9
  replace hC := hC.ext h9
  replace hD := hD.ext h9
  replace hF := hF.ext h9
  replace hG := hG.ext h9
  replace hE := hE.trans h9
  clear h9
  obtain ⟨_, zhA0, zhA1, zhA2, zhA3, _, _, _, _⟩ := hA.four
  obtain ⟨_, zhB0, zhB1, zhB2, zhB3, _, _, _, _⟩ := hB.four
  obtain ⟨_, zhC0, zhC1, zhC2, zhC3, _, _, _, _⟩ := hC.four
  obtain ⟨_, zhD0, zhD1, zhD2, zhD3, _, _, _, _⟩ := hD.four
  obtain ⟨_, zhF0, zhF1, zhF2, zhF3, _, _, _, _⟩ := hF.four
  obtain ⟨_, zhG0, zhG1, zhG2, zhG3, _, _, _, _⟩ := hG.four
  obtain ⟨_, zhI0, zhI1, zhI2, zhI3, _, _, _, _⟩ := hI.four
  go_wp2_with fail
  refine (D3.out _).mono ?_; rintro e w10 ⟨rfl, h10⟩
  clear zhA0 zhA1 zhA2 zhA3 zhB0 zhB1 zhB2 zhB3 zhC0 zhC1 zhC2 zhC3 zhD0 zhD1 zhD2 zhD3 zhF0 zhF1 zhF2 zhF3 zhG0 zhG1 zhG2 zhG3 zhI0 zhI1 zhI2 zhI3
  replace hA := hA.ext h10
  replace hB := hB.ext h10
  replace hC := hC.ext h10
  replace hD := hD.ext h10
  replace hF := hF.ext h10
  replace hG := hG.ext h10
  replace hI := hI.ext h10
  replace hE := hE.trans h10
  clear h10
  obtain ⟨_, zhA0, zhA1, zhA2, zhA3, _, _, _, _⟩ := hA.four
  obtain ⟨_, zhB0, zhB1, zhB2, zhB3, _, _, _, _⟩ := hB.four
  obtain ⟨_, zhC0, zhC1, zhC2, zhC3, _, _, _, _⟩ := hC.four
  obtain ⟨_, zhD0, zhD1, zhD2, zhD3, _, _, _, _⟩ := hD.four
  obtain ⟨_, zhF0, zhF1, zhF2, zhF3, _, _, _, _⟩ := hF.four
  obtain ⟨_, zhG0, zhG1, zhG2, zhG3, _, _, _, _⟩ := hG.four
  obtain ⟨_, zhI0, zhI1, zhI2, zhI3, _, _, _, _⟩ := hI.four
  have hK := VBox.new w10 (vG ii) 28
  have hEn := (Ext.refl w10).alloc (.cells #[.int .u64 (vG ii 0 : Nat), .int .u64 (vG ii 1 : Nat), .int .u64 (vG ii 2 : Nat), .int .u64 (vG ii 3 : Nat)] 28)
  go_wp2_with fail
  clear zhA0 zhA1 zhA2 zhA3 zhB0 zhB1 zhB2 zhB3 zhC0 zhC1 zhC2 zhC3 zhD0 zhD1 zhD2 zhD3 zhF0 zhF1 zhF2 zhF3 zhG0 zhG1 zhG2 zhG3 zhI0 zhI1 zhI2 zhI3
  generalize w10.alloc (.cells #[.int .u64 (vG ii 0 : Nat), .int .u64 (vG ii 1 : Nat), .int .u64 (vG ii 2 : Nat), .int .u64 (vG ii 3 : Nat)] 28) = w11 at *
  replace hA := hA.ext hEn
  replace hB := hB.ext hEn
  replace hC := hC.ext hEn
  replace hD := hD.ext hEn
  replace hF := hF.ext hEn
  replace hG := hG.ext hEn
  replace hI := hI.ext hEn
  replace hE := hE.trans hEn
  clear hEn
  obtain ⟨zhAl, zhA0, zhA1, zhA2, zhA3, _, _, _, _⟩ := hA.four
  obtain ⟨zhBl, zhB0, zhB1, zhB2, zhB3, _, _, _, _⟩ := hB.four
  obtain ⟨zhCl, zhC0, zhC1, zhC2, zhC3, _, _, _, _⟩ := hC.four
  obtain ⟨zhDl, zhD0, zhD1, zhD2, zhD3, _, _, _, _⟩ := hD.four
  obtain ⟨zhFl, zhF0, zhF1, zhF2, zhF3, _, _, _, _⟩ := hF.four
  obtain ⟨zhGl, zhG0, zhG1, zhG2, zhG3, _, _, _, _⟩ := hG.four
  obtain ⟨zhIl, zhI0, zhI1, zhI2, zhI3, _, _, _, _⟩ := hI.four
  obtain ⟨zhKl, zhK0, zhK1, zhK2, zhK3, _, _, _, _⟩ := hK.four
  refine Dm.wp_region_grow (by kernel_rfl) (by kernel_rfl) ?_
  repeat (go_big_quiet_step (first
    | (go_at_call 13; with_reducible exact Calls.quietE (RC.out _))
    | (go_at_call 13; with_reducible exact Calls.quietE (RE.out _))
    | (go_at_call 13; with_reducible exact Calls.quietE (RI.out _))))
  refine wpQuiet_nil ?_
  intro w12 h12
  clear zhAl zhA0 zhA1 zhA2 zhA3 zhBl zhB0 zhB1 zhB2 zhB3 zhCl zhC0 zhC1 zhC2 zhC3 zhDl zhD0 zhD1 zhD2 zhD3 zhFl zhF0 zhF1 zhF2 zhF3 zhGl zhG0 zhG1 zhG2 zhG3 zhIl zhI0 zhI1 zhI2 zhI3 zhKl zhK0 zhK1 zhK2 zhK3
  replace hA := hA.ext h12
  replace hB := hB.ext h12
  replace hC := hC.ext h12
  replace hD := hD.ext h12
  replace hF := hF.ext h12
  replace hG := hG.ext h12
  replace hI := hI.ext h12
  replace hK := hK.ext h12
  replace hE := hE.trans h12
  clear h12
  obtain ⟨_, zhA0, zhA1, zhA2, zhA3, _, _, _, _⟩ := hA.four
  obtain ⟨_, zhB0, zhB1, zhB2, zhB3, _, _, _, _⟩ := hB.four
  obtain ⟨_, zhC0, zhC1, zhC2, zhC3, _, _, _, _⟩ := hC.four
  obtain ⟨_, zhD0, zhD1, zhD2, zhD3, _, _, _, _⟩ := hD.four
  obtain ⟨_, zhF0, zhF1, zhF2, zhF3, _, _, _, _⟩ := hF.four
  obtain ⟨_, zhG0, zhG1, zhG2, zhG3, _, _, _, _⟩ := hG.four
  obtain ⟨_, zhI0, zhI1, zhI2, zhI3, _, _, _, _⟩ := hI.four
  obtain ⟨_, zhK0, zhK1, zhK2, zhK3, _, _, _, _⟩ := hK.four
  go_wp2_with fail
  refine (G1.out _).mono ?_; rintro e w13 ⟨rfl, h13⟩
  clear zhA0 zhA1 zhA2 zhA3 zhB0 zhB1 zhB2 zhB3 zhC0 zhC1 zhC2 zhC3 zhD0 zhD1 zhD2 zhD3 zhF0 zhF1 zhF2 zhF3 zhG0 zhG1 zhG2 zhG3 zhI0 zhI1 zhI2 zhI3 zhK0 zhK1 zhK2 zhK3
  replace hA := hA.ext h13
  replace hB := hB.ext h13
  replace hC := hC.ext h13
  replace hD := hD.ext h13
  replace hF := hF.ext h13
  replace hG := hG.ext h13
  replace hI := hI.ext h13
  replace hK := hK.ext h13
  replace hE := hE.trans h13
  clear h13
  obtain ⟨_, zhA0, zhA1, zhA2, zhA3, _, _, _, _⟩ := hA.four
  obtain ⟨_, zhB0, zhB1, zhB2, zhB3, _, _, _, _⟩ := hB.four
  obtain ⟨_, zhC0, zhC1, zhC2, zhC3, _, _, _, _⟩ := hC.four
  obtain ⟨_, zhD0, zhD1, zhD2, zhD3, _, _, _, _⟩ := hD.four
  obtain ⟨_, zhF0, zhF1, zhF2, zhF3, _, _, _, _⟩ := hF.four
  obtain ⟨_, zhG0, zhG1, zhG2, zhG3, _, _, _, _⟩ := hG.four
  obtain ⟨_, zhI0, zhI1, zhI2, zhI3, _, _, _, _⟩ := hI.four
  obtain ⟨_, zhK0, zhK1, zhK2, zhK3, _, _, _, _⟩ := hK.four
  have hMn := VBox.new w13 (vG mm) 24
  go_wp2_with fail
  refine (G2.out _).mono ?_; rintro e w14 ⟨rfl, h14⟩
  clear zhA0 zhA1 zhA2 zhA3 zhB0 zhB1 zhB2 zhB3 zhC0 zhC1 zhC2 zhC3 zhD0 zhD1 zhD2 zhD3 zhF0 zhF1 zhF2 zhF3 zhG0 zhG1 zhG2 zhG3 zhI0 zhI1 zhI2 zhI3 zhK0 zhK1 zhK2 zhK3
  have hM := hMn.ext h14
  replace h14 := ((Ext.refl w13).alloc (.cells #[.int .u64 (vG mm 0 : Nat), .int .u64 (vG mm 1 : Nat), .int .u64 (vG mm 2 : Nat), .int .u64 (vG mm 3 : Nat)] 24)).trans h14
  clear hMn
  replace hA := hA.ext h14
  replace hB := hB.ext h14
  replace hC := hC.ext h14
  replace hD := hD.ext h14
  replace hF := hF.ext h14
  replace hG := hG.ext h14
  replace hI := hI.ext h14
  replace hK := hK.ext h14
  replace hE := hE.trans h14
  clear h14
  obtain ⟨_, zhA0, zhA1, zhA2, zhA3, _, _, _, _⟩ := hA.four
  obtain ⟨_, zhB0, zhB1, zhB2, zhB3, _, _, _, _⟩ := hB.four
  obtain ⟨_, zhC0, zhC1, zhC2, zhC3, _, _, _, _⟩ := hC.four
  obtain ⟨_, zhD0, zhD1, zhD2, zhD3, _, _, _, _⟩ := hD.four
  obtain ⟨_, zhF0, zhF1, zhF2, zhF3, _, _, _, _⟩ := hF.four
  obtain ⟨_, zhG0, zhG1, zhG2, zhG3, _, _, _, _⟩ := hG.four
  obtain ⟨_, zhI0, zhI1, zhI2, zhI3, _, _, _, _⟩ := hI.four
  obtain ⟨_, zhK0, zhK1, zhK2, zhK3, _, _, _, _⟩ := hK.four
  obtain ⟨_, zhM0, zhM1, zhM2, zhM3, _, _, _, _⟩ := hM.four
  have hOn := VBox.new w14 (vG mm) 28
  go_wp2_with fail
  refine (P1.out _ (hv.ext (hE.trans ((Ext.refl _).alloc _)))).mono ?_; rintro e w15 ⟨rfl, h15⟩
  clear zhA0 zhA1 zhA2 zhA3 zhB0 zhB1 zhB2 zhB3 zhC0 zhC1 zhC2 zhC3 zhD0 zhD1 zhD2 zhD3 zhF0 zhF1 zhF2 zhF3 zhG0 zhG1 zhG2 zhG3 zhI0 zhI1 zhI2 zhI3 zhK0 zhK1 zhK2 zhK3 zhM0 zhM1 zhM2 zhM3
  have hO := hOn.ext h15
  replace h15 := ((Ext.refl w14).alloc (.cells #[.int .u64 (vG mm 0 : Nat), .int .u64 (vG mm 1 : Nat), .int .u64 (vG mm 2 : Nat), .int .u64 (vG mm 3 : Nat)] 28)).trans h15
  clear hOn
  replace hA := hA.ext h15
  replace hB := hB.ext h15
  replace hC := hC.ext h15
  replace hD := hD.ext h15
  replace hF := hF.ext h15
  replace hG := hG.ext h15
  replace hI := hI.ext h15
  replace hK := hK.ext h15
  replace hM := hM.ext h15
  replace hE := hE.trans h15
  clear h15
  obtain ⟨_, zhA0, zhA1, zhA2, zhA3, _, _, _, _⟩ := hA.four
  obtain ⟨_, zhB0, zhB1, zhB2, zhB3, _, _, _, _⟩ := hB.four
  obtain ⟨_, zhC0, zhC1, zhC2, zhC3, _, _, _, _⟩ := hC.four
  obtain ⟨_, zhD0, zhD1, zhD2, zhD3, _, _, _, _⟩ := hD.four
  obtain ⟨_, zhF0, zhF1, zhF2, zhF3, _, _, _, _⟩ := hF.four
  obtain ⟨_, zhG0, zhG1, zhG2, zhG3, _, _, _, _⟩ := hG.four
  obtain ⟨_, zhI0, zhI1, zhI2, zhI3, _, _, _, _⟩ := hI.four
  obtain ⟨_, zhK0, zhK1, zhK2, zhK3, _, _, _, _⟩ := hK.four
  obtain ⟨_, zhM0, zhM1, zhM2, zhM3, _, _, _, _⟩ := hM.four
  obtain ⟨_, zhO0, zhO1, zhO2, zhO3, _, _, _, _⟩ := hO.four
  have hPn := VBox.new w15 (vG pp) 24
  go_wp2_with fail
  refine (P2.out _).mono ?_; rintro e w16 ⟨rfl, h16⟩
  clear zhA0 zhA1 zhA2 zhA3 zhB0 zhB1 zhB2 zhB3 zhC0 zhC1 zhC2 zhC3 zhD0 zhD1 zhD2 zhD3 zhF0 zhF1 zhF2 zhF3 zhG0 zhG1 zhG2 zhG3 zhI0 zhI1 zhI2 zhI3 zhK0 zhK1 zhK2 zhK3 zhM0 zhM1 zhM2 zhM3 zhO0 zhO1 zhO2 zhO3
  have hP := hPn.ext h16
  replace h16 := ((Ext.refl w15).alloc (.cells #[.int .u64 (vG pp 0 : Nat), .int .u64 (vG pp 1 : Nat), .int .u64 (vG pp 2 : Nat), .int .u64 (vG pp 3 : Nat)] 24)).trans h16
  clear hPn
  replace hA := hA.ext h16
  replace hB := hB.ext h16
  replace hC := hC.ext h16
  replace hD := hD.ext h16
  replace hF := hF.ext h16
  replace hG := hG.ext h16
  replace hI := hI.ext h16
  replace hK := hK.ext h16
  replace hM := hM.ext h16
  replace hO := hO.ext h16
  replace hE := hE.trans h16
  clear h16
  obtain ⟨_, zhA0, zhA1, zhA2, zhA3, _, _, _, _⟩ := hA.four
  obtain ⟨_, zhB0, zhB1, zhB2, zhB3, _, _, _, _⟩ := hB.four
  obtain ⟨_, zhC0, zhC1, zhC2, zhC3, _, _, _, _⟩ := hC.four
  obtain ⟨_, zhD0, zhD1, zhD2, zhD3, _, _, _, _⟩ := hD.four
  obtain ⟨_, zhF0, zhF1, zhF2, zhF3, _, _, _, _⟩ := hF.four
  obtain ⟨_, zhG0, zhG1, zhG2, zhG3, _, _, _, _⟩ := hG.four
  obtain ⟨_, zhI0, zhI1, zhI2, zhI3, _, _, _, _⟩ := hI.four
  obtain ⟨_, zhK0, zhK1, zhK2, zhK3, _, _, _, _⟩ := hK.four
  obtain ⟨_, zhM0, zhM1, zhM2, zhM3, _, _, _, _⟩ := hM.four
  obtain ⟨_, zhO0, zhO1, zhO2, zhO3, _, _, _, _⟩ := hO.four
  obtain ⟨_, zhP0, zhP1, zhP2, zhP3, _, _, _, _⟩ := hP.four
  have hQn := VBox.new w16 (vG pp) 28
  go_wp2_with fail
  refine (O1.out _).mono ?_; rintro e w17 ⟨rfl, h17⟩
  clear zhA0 zhA1 zhA2 zhA3 zhB0 zhB1 zhB2 zhB3 zhC0 zhC1 zhC2 zhC3 zhD0 zhD1 zhD2 zhD3 zhF0 zhF1 zhF2 zhF3 zhG0 zhG1 zhG2 zhG3 zhI0 zhI1 zhI2 zhI3 zhK0 zhK1 zhK2 zhK3 zhM0 zhM1 zhM2 zhM3 zhO0 zhO1 zhO2 zhO3 zhP0 zhP1 zhP2 zhP3
  have hQ := hQn.ext h17
  replace h17 := ((Ext.refl w16).alloc (.cells #[.int .u64 (vG pp 0 : Nat), .int .u64 (vG pp 1 : Nat), .int .u64 (vG pp 2 : Nat), .int .u64 (vG pp 3 : Nat)] 28)).trans h17
  clear hQn
  replace hA := hA.ext h17
  replace hB := hB.ext h17
  replace hC := hC.ext h17
  replace hD := hD.ext h17
  replace hF := hF.ext h17
  replace hG := hG.ext h17
  replace hI := hI.ext h17
  replace hK := hK.ext h17
  replace hM := hM.ext h17
  replace hO := hO.ext h17
  replace hP := hP.ext h17
  replace hE := hE.trans h17
  clear h17
  obtain ⟨_, zhA0, zhA1, zhA2, zhA3, _, _, _, _⟩ := hA.four
  obtain ⟨_, zhB0, zhB1, zhB2, zhB3, _, _, _, _⟩ := hB.four
  obtain ⟨_, zhC0, zhC1, zhC2, zhC3, _, _, _, _⟩ := hC.four
  obtain ⟨_, zhD0, zhD1, zhD2, zhD3, _, _, _, _⟩ := hD.four
  obtain ⟨_, zhF0, zhF1, zhF2, zhF3, _, _, _, _⟩ := hF.four
  obtain ⟨_, zhG0, zhG1, zhG2, zhG3, _, _, _, _⟩ := hG.four
  obtain ⟨_, zhI0, zhI1, zhI2, zhI3, _, _, _, _⟩ := hI.four
  obtain ⟨_, zhK0, zhK1, zhK2, zhK3, _, _, _, _⟩ := hK.four
  obtain ⟨_, zhM0, zhM1, zhM2, zhM3, _, _, _, _⟩ := hM.four
  obtain ⟨_, zhO0, zhO1, zhO2, zhO3, _, _, _, _⟩ := hO.four
  obtain ⟨_, zhP0, zhP1, zhP2, zhP3, _, _, _, _⟩ := hP.four
  obtain ⟨_, zhQ0, zhQ1, zhQ2, zhQ3, _, _, _, _⟩ := hQ.four
  go_wp2_with fail
  clear zhA0 zhA1 zhA2 zhA3 zhB0 zhB1 zhB2 zhB3 zhC0 zhC1 zhC2 zhC3 zhD0 zhD1 zhD2 zhD3 zhF0 zhF1 zhF2 zhF3 zhG0 zhG1 zhG2 zhG3 zhI0 zhI1 zhI2 zhI3 zhK0 zhK1 zhK2 zhK3 zhM0 zhM1 zhM2 zhM3 zhO0 zhO1 zhO2 zhO3 zhP0 zhP1 zhP2 zhP3 zhQ0 zhQ1 zhQ2 zhQ3
  obtain ⟨zhAl, zhA0, zhA1, zhA2, zhA3, _, _, _, _⟩ := hA.four
  obtain ⟨zhBl, zhB0, zhB1, zhB2, zhB3, _, _, _, _⟩ := hB.four
  obtain ⟨zhCl, zhC0, zhC1, zhC2, zhC3, _, _, _, _⟩ := hC.four
  obtain ⟨zhDl, zhD0, zhD1, zhD2, zhD3, _, _, _, _⟩ := hD.four
  obtain ⟨zhFl, zhF0, zhF1, zhF2, zhF3, _, _, _, _⟩ := hF.four
  obtain ⟨zhGl, zhG0, zhG1, zhG2, zhG3, _, _, _, _⟩ := hG.four
  obtain ⟨zhIl, zhI0, zhI1, zhI2, zhI3, _, _, _, _⟩ := hI.four
  obtain ⟨zhKl, zhK0, zhK1, zhK2, zhK3, _, _, _, _⟩ := hK.four
  obtain ⟨zhMl, zhM0, zhM1, zhM2, zhM3, _, _, _, _⟩ := hM.four
  obtain ⟨zhOl, zhO0, zhO1, zhO2, zhO3, _, _, _, _⟩ := hO.four
  obtain ⟨zhPl, zhP0, zhP1, zhP2, zhP3, _, _, _, _⟩ := hP.four
  obtain ⟨zhQl, zhQ0, zhQ1, zhQ2, zhQ3, _, _, _, _⟩ := hQ.four
  refine Dm.wp_region_grow (by kernel_rfl) (by kernel_rfl) ?_
  repeat (go_big_quiet_step (first
    | (go_at_call 13; with_reducible exact Calls.quietE (RA.out _))
    | (go_at_call 13; with_reducible exact Calls.quietE (RB.out _))
    | (go_at_call 23; with_reducible exact Calls.quietE (O2.out _))))
  refine wpQuiet_nil ?_
  intro w18 h18
  clear zhAl zhA0 zhA1 zhA2 zhA3 zhBl zhB0 zhB1 zhB2 zhB3 zhCl zhC0 zhC1 zhC2 zhC3 zhDl zhD0 zhD1 zhD2 zhD3 zhFl zhF0 zhF1 zhF2 zhF3 zhGl zhG0 zhG1 zhG2 zhG3 zhIl zhI0 zhI1 zhI2 zhI3 zhKl zhK0 zhK1 zhK2 zhK3 zhMl zhM0 zhM1 zhM2 zhM3 zhOl zhO0 zhO1 zhO2 zhO3 zhPl zhP0 zhP1 zhP2 zhP3 zhQl zhQ0 zhQ1 zhQ2 zhQ3
  replace hA := hA.ext h18
  replace hB := hB.ext h18
  replace hC := hC.ext h18
  replace hD := hD.ext h18
  replace hF := hF.ext h18
  replace hG := hG.ext h18
  replace hI := hI.ext h18
  replace hK := hK.ext h18
  replace hM := hM.ext h18
  replace hO := hO.ext h18
  replace hP := hP.ext h18
  replace hQ := hQ.ext h18
  replace hE := hE.trans h18
  clear h18
  obtain ⟨_, zhA0, zhA1, zhA2, zhA3, _, _, _, _⟩ := hA.four
  obtain ⟨_, zhB0, zhB1, zhB2, zhB3, _, _, _, _⟩ := hB.four
  obtain ⟨_, zhC0, zhC1, zhC2, zhC3, _, _, _, _⟩ := hC.four
  obtain ⟨_, zhD0, zhD1, zhD2, zhD3, _, _, _, _⟩ := hD.four
  obtain ⟨_, zhF0, zhF1, zhF2, zhF3, _, _, _, _⟩ := hF.four
  obtain ⟨_, zhG0, zhG1, zhG2, zhG3, _, _, _, _⟩ := hG.four
  obtain ⟨_, zhI0, zhI1, zhI2, zhI3, _, _, _, _⟩ := hI.four
  obtain ⟨_, zhK0, zhK1, zhK2, zhK3, _, _, _, _⟩ := hK.four
  obtain ⟨_, zhM0, zhM1, zhM2, zhM3, _, _, _, _⟩ := hM.four
  obtain ⟨_, zhO0, zhO1, zhO2, zhO3, _, _, _, _⟩ := hO.four
  obtain ⟨_, zhP0, zhP1, zhP2, zhP3, _, _, _, _⟩ := hP.four
  obtain ⟨_, zhQ0, zhQ1, zhQ2, zhQ3, _, _, _, _⟩ := hQ.four
  go_wp2_with fail
  clear zhA0 zhA1 zhA2 zhA3 zhB0 zhB1 zhB2 zhB3 zhC0 zhC1 zhC2 zhC3 zhD0 zhD1 zhD2 zhD3 zhF0 zhF1 zhF2 zhF3 zhG0 zhG1 zhG2 zhG3 zhI0 zhI1 zhI2 zhI3 zhK0 zhK1 zhK2 zhK3 zhM0 zhM1 zhM2 zhM3 zhO0 zhO1 zhO2 zhO3 zhP0 zhP1 zhP2 zhP3 zhQ0 zhQ1 zhQ2 zhQ3
  obtain ⟨zhAl, zhA0, zhA1, zhA2, zhA3, _, _, _, _⟩ := hA.four
  obtain ⟨zhBl, zhB0, zhB1, zhB2, zhB3, _, _, _, _⟩ := hB.four
  obtain ⟨zhCl, zhC0, zhC1, zhC2, zhC3, _, _, _, _⟩ := hC.four
  obtain ⟨zhDl, zhD0, zhD1, zhD2, zhD3, _, _, _, _⟩ := hD.four
  obtain ⟨zhFl, zhF0, zhF1, zhF2, zhF3, _, _, _, _⟩ := hF.four
  obtain ⟨zhGl, zhG0, zhG1, zhG2, zhG3, _, _, _, _⟩ := hG.four
  obtain ⟨zhIl, zhI0, zhI1, zhI2, zhI3, _, _, _, _⟩ := hI.four
  obtain ⟨zhKl, zhK0, zhK1, zhK2, zhK3, _, _, _, _⟩ := hK.four
  obtain ⟨zhMl, zhM0, zhM1, zhM2, zhM3, _, _, _, _⟩ := hM.four
  obtain ⟨zhOl, zhO0, zhO1, zhO2, zhO3, _, _, _, _⟩ := hO.four
  obtain ⟨zhPl, zhP0, zhP1, zhP2, zhP3, _, _, _, _⟩ := hP.four
  obtain ⟨zhQl, zhQ0, zhQ1, zhQ2, zhQ3, _, _, _, _⟩ := hQ.four
  refine Dm.wp_region_grow (by kernel_rfl) (by kernel_rfl) ?_
  repeat (go_big_quiet_step (first
    | (go_at_call 13; with_reducible exact Calls.quietE (RM.out _))
    | (go_at_call 13; with_reducible exact Calls.quietE (RP.out _))))
  refine wpQuiet_nil ?_
  intro w19 h19
  clear zhAl zhA0 zhA1 zhA2 zhA3 zhBl zhB0 zhB1 zhB2 zhB3 zhCl zhC0 zhC1 zhC2 zhC3 zhDl zhD0 zhD1 zhD2 zhD3 zhFl zhF0 zhF1 zhF2 zhF3 zhGl zhG0 zhG1 zhG2 zhG3 zhIl zhI0 zhI1 zhI2 zhI3 zhKl zhK0 zhK1 zhK2 zhK3 zhMl zhM0 zhM1 zhM2 zhM3 zhOl zhO0 zhO1 zhO2 zhO3 zhPl zhP0 zhP1 zhP2 zhP3 zhQl zhQ0 zhQ1 zhQ2 zhQ3
  replace hA := hA.ext h19
  replace hB := hB.ext h19
  replace hC := hC.ext h19
  replace hD := hD.ext h19
  replace hF := hF.ext h19
  replace hG := hG.ext h19
  replace hI := hI.ext h19
  replace hK := hK.ext h19
  replace hM := hM.ext h19
  replace hO := hO.ext h19
  replace hP := hP.ext h19
  replace hQ := hQ.ext h19
  replace hE := hE.trans h19
  clear h19
  obtain ⟨_, zhA0, zhA1, zhA2, zhA3, _, _, _, _⟩ := hA.four
  obtain ⟨_, zhB0, zhB1, zhB2, zhB3, _, _, _, _⟩ := hB.four
  obtain ⟨_, zhC0, zhC1, zhC2, zhC3, _, _, _, _⟩ := hC.four
  obtain ⟨_, zhD0, zhD1, zhD2, zhD3, _, _, _, _⟩ := hD.four
  obtain ⟨_, zhF0, zhF1, zhF2, zhF3, _, _, _, _⟩ := hF.four
  obtain ⟨_, zhG0, zhG1, zhG2, zhG3, _, _, _, _⟩ := hG.four
  obtain ⟨_, zhI0, zhI1, zhI2, zhI3, _, _, _, _⟩ := hI.four
  obtain ⟨_, zhK0, zhK1, zhK2, zhK3, _, _, _, _⟩ := hK.four
  obtain ⟨_, zhM0, zhM1, zhM2, zhM3, _, _, _, _⟩ := hM.four
  obtain ⟨_, zhO0, zhO1, zhO2, zhO3, _, _, _, _⟩ := hO.four
  obtain ⟨_, zhP0, zhP1, zhP2, zhP3, _, _, _, _⟩ := hP.four
  obtain ⟨_, zhQ0, zhQ1, zhQ2, zhQ3, _, _, _, _⟩ := hQ.four
  go_wp2_with fail
  clear zhA0 zhA1 zhA2 zhA3 zhB0 zhB1 zhB2 zhB3 zhC0 zhC1 zhC2 zhC3 zhD0 zhD1 zhD2 zhD3 zhF0 zhF1 zhF2 zhF3 zhG0 zhG1 zhG2 zhG3 zhI0 zhI1 zhI2 zhI3 zhK0 zhK1 zhK2 zhK3 zhM0 zhM1 zhM2 zhM3 zhO0 zhO1 zhO2 zhO3 zhP0 zhP1 zhP2 zhP3 zhQ0 zhQ1 zhQ2 zhQ3
  have hvE := hv.ext hE
  have TX := Lib.hid (fun (U : World) (h : Ext w19 U) => T1.out U (tabIs_ext hvE.tab h))
  obtain ⟨zhAl, zhA0, zhA1, zhA2, zhA3, _, _, _, _⟩ := hA.four
  obtain ⟨zhBl, zhB0, zhB1, zhB2, zhB3, _, _, _, _⟩ := hB.four
  obtain ⟨zhCl, zhC0, zhC1, zhC2, zhC3, _, _, _, _⟩ := hC.four
  obtain ⟨zhDl, zhD0, zhD1, zhD2, zhD3, _, _, _, _⟩ := hD.four
  obtain ⟨zhFl, zhF0, zhF1, zhF2, zhF3, _, _, _, _⟩ := hF.four
  obtain ⟨zhGl, zhG0, zhG1, zhG2, zhG3, _, _, _, _⟩ := hG.four
  obtain ⟨zhIl, zhI0, zhI1, zhI2, zhI3, _, _, _, _⟩ := hI.four
  obtain ⟨zhKl, zhK0, zhK1, zhK2, zhK3, _, _, _, _⟩ := hK.four
  obtain ⟨zhMl, zhM0, zhM1, zhM2, zhM3, _, _, _, _⟩ := hM.four
  obtain ⟨zhOl, zhO0, zhO1, zhO2, zhO3, _, _, _, _⟩ := hO.four
  obtain ⟨zhPl, zhP0, zhP1, zhP2, zhP3, _, _, _, _⟩ := hP.four
  obtain ⟨zhQl, zhQ0, zhQ1, zhQ2, zhQ3, _, _, _, _⟩ := hQ.four
  refine Dm.wp_region_grow (by kernel_rfl) (by kernel_rfl) ?_
  repeat (go_big_quiet_step (first
    | (go_at_call 13; with_reducible exact Calls.quietE (RA.out _))
    | (go_at_call 13; with_reducible exact Calls.quietE (RB.out _))
    | (go_at_call 24; with_reducible exact Calls.quietE (F1.out _))
    | (go_at_call 25; with_reducible exact Calls.quietE (F2.out _))
    | (go_at_call 26; with_reducible exact Calls.quietE (H1.out _))
    | (go_at_call 27; with_reducible exact Calls.quietE (H2.out _))
    | (go_at_call 28; with_reducible exact Calls.quietE (U1.out _))
    | (go_at_call 29; with_reducible exact Calls.quietE (U2.out _))
    | (go_at_call 30; with_reducible exact Calls.quietE (TX.out _ (ext_grow _ _)))
    | (go_at_call 30; with_reducible exact Calls.quietE (TX.out _ (Ext.trans (ext_grow _ _) (ext_grow _ _))))
    | (go_at_call 31; with_reducible exact Calls.quietE (T2.out _))))
  refine wpQuiet_nil ?_
  intro w20 h20
  clear zhAl zhA0 zhA1 zhA2 zhA3 zhBl zhB0 zhB1 zhB2 zhB3 zhCl zhC0 zhC1 zhC2 zhC3 zhDl zhD0 zhD1 zhD2 zhD3 zhFl zhF0 zhF1 zhF2 zhF3 zhGl zhG0 zhG1 zhG2 zhG3 zhIl zhI0 zhI1 zhI2 zhI3 zhKl zhK0 zhK1 zhK2 zhK3 zhMl zhM0 zhM1 zhM2 zhM3 zhOl zhO0 zhO1 zhO2 zhO3 zhPl zhP0 zhP1 zhP2 zhP3 zhQl zhQ0 zhQ1 zhQ2 zhQ3
  replace hA := hA.ext h20
  replace hB := hB.ext h20
  replace hC := hC.ext h20
  replace hD := hD.ext h20
  replace hF := hF.ext h20
  replace hG := hG.ext h20
  replace hI := hI.ext h20
  replace hK := hK.ext h20
  replace hM := hM.ext h20
  replace hO := hO.ext h20
  replace hP := hP.ext h20
  replace hQ := hQ.ext h20
  replace hE := hE.trans h20
  clear h20
  obtain ⟨_, zhA0, zhA1, zhA2, zhA3, _, _, _, _⟩ := hA.four
  obtain ⟨_, zhB0, zhB1, zhB2, zhB3, _, _, _, _⟩ := hB.four
  obtain ⟨_, zhC0, zhC1, zhC2, zhC3, _, _, _, _⟩ := hC.four
  obtain ⟨_, zhD0, zhD1, zhD2, zhD3, _, _, _, _⟩ := hD.four
  obtain ⟨_, zhF0, zhF1, zhF2, zhF3, _, _, _, _⟩ := hF.four
  obtain ⟨_, zhG0, zhG1, zhG2, zhG3, _, _, _, _⟩ := hG.four
  obtain ⟨_, zhI0, zhI1, zhI2, zhI3, _, _, _, _⟩ := hI.four
  obtain ⟨_, zhK0, zhK1, zhK2, zhK3, _, _, _, _⟩ := hK.four
  obtain ⟨_, zhM0, zhM1, zhM2, zhM3, _, _, _, _⟩ := hM.four
  obtain ⟨_, zhO0, zhO1, zhO2, zhO3, _, _, _, _⟩ := hO.four
  obtain ⟨_, zhP0, zhP1, zhP2, zhP3, _, _, _, _⟩ := hP.four
  obtain ⟨_, zhQ0, zhQ1, zhQ2, zhQ3, _, _, _, _⟩ := hQ.four
  go_wp2
  go_ret
  exact ⟨rfl, hE⟩

end Go.Proofs.YtibimbcjnjefdaaDoor
