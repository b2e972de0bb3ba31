/- Texts one behind the other: Chapter 11: the walk of the program's Text. -/
import Derived.Test.YthmhalcloogniaaGreatDoorT23
namespace Go.Proofs.YthmhalcloogniaaGreatDoor
open Go.RowKit Go.Dm

theorem itoa_w (n : Int) (h : 0 ≤ n ∧ n ≤ 100) (w : World) (htab : Tab10 Tryz.prog w) :
    Calls Tryz.prog 64 #[.int .i64 n] w fun e w' => e = .returned (.string ⟨(Lib.decDigits n.toNat).toArray⟩) ∧ Ext w w' := by
  refine (Tryz.strconv_Itoa n (by omega) (by omega) w htab).mono ?_
  rintro e w' ⟨rfl, k, os, rfl⟩
  refine ⟨?_, Lib.below_grow w.heap.size w (Nat.le_refl _) k os⟩
  unfold Lib.itoa
  rw [if_neg (by omega)]

set_option maxHeartbeats 4000000 in
set_option maxRecDepth 100000 in
theorem xtext_w (s : ByteArray) (d : Vc) (n : Nums3) (v : Value) (R : List RowS) (w : World) (hs : s.size < 4294967281) (hd : OkV d) (hm : R.length ≤ 35184372088832) (hf : FitR R) (hx : Terms w v R) (ht : Vars w) (htab : Tab10 Tryz.prog w) :
    Calls Tryz.prog 24 #[spVal s (vG d) n v] w fun e w' => e = .returned (.string ⟨(textX (s, d, n, R.map rowT)).toArray⟩) ∧ Ext w w' := by
  have C1 := fun U (h : Ext w U) => xcheck_w s d n v R U hs hd hm hf (hx.ext h) (ht.ext h)
  have hX := XBox.new w s (vG d) n v 27
  have hE : Ext w (w.alloc (.cells #[.string s, .int .u64 (vG d 0 : Nat), .int .u64 (vG d 1 : Nat), .int .u64 (vG d 2 : Nat), .int .u64 (vG d 3 : Nat), .int .i64 n.1, .int .i64 n.2.1, .int .i64 n.2.2, v] 27)) := (Ext.refl _).alloc _
  by_cases hchk : chkX (s, d, n, R.map rowT) = 0
  · rw [hchk] at C1
    obtain ⟨hu, hn, hr, _⟩ := chkX_iff.1 hchk
    obtain ⟨n1, n2, n3, n4, n5, n6⟩ := inNum_iff.1 hn
    simp only at n1 n2 n3 n4 n5 n6
    have hj := wordsS_join hchk
    have hjl := textX_len hchk hd
    have CV := fun U (h : Ext w U) => vtext_w d hd U (tabIs_ext htab h)
    have CS := fun U (h : Ext w U) => stext_w R v U hm hf (hx.ext h) (ht.tabs.ext h)
    have I1 := fun U (h : Ext w U) => itoa_w n.1 (by omega) U (tabIs_ext htab h)
    have I2 := fun U (h : Ext w U) => itoa_w n.2.1 (by omega) U (tabIs_ext htab h)
    have I3 := fun U (h : Ext w U) => itoa_w n.2.2 (by omega) U (tabIs_ext htab h)
    have hw6 : wordsS (s, d, n, R.map rowT) = [s, ⟨(textV d).toArray⟩, ⟨(Lib.decDigits n.1.toNat).toArray⟩, ⟨(Lib.decDigits n.2.1.toNat).toArray⟩, ⟨(Lib.decDigits n.2.2.toNat).toArray⟩, ⟨(textS (R.map rowT)).toArray⟩] := by
      unfold wordsS wordsX
      simp only [List.map_cons, List.map_nil]
    generalize textX (s, d, n, R.map rowT) = tx at *
    generalize (⟨(textV d).toArray⟩ : ByteArray) = t1 at *
    generalize (⟨(Lib.decDigits n.1.toNat).toArray⟩ : ByteArray) = t2 at *
    generalize (⟨(Lib.decDigits n.2.1.toNat).toArray⟩ : ByteArray) = t3 at *
    generalize (⟨(Lib.decDigits n.2.2.toNat).toArray⟩ : ByteArray) = t4 at *
    generalize (⟨(textS (R.map rowT)).toArray⟩ : ByteArray) = t5 at *
    have CJ := fun (U : World) vv (hv : Strs U vv [s, t1, t2, t3, t4, t5]) => join_w [s, t1, t2, t3, t4, t5] 32 vv U hv (by simp) (by simp) (by rw [← hw6, hj]; omega)
    rw [← hw6, hj, hw6] at CJ
    have hN := fun U : World => (Sl.lit U 9 1 6 #[.string s, .string t1, .string t2, .string t3, .string t4, .string t5] rfl (by simp [maxLen]) : Strs _ _ [s, t1, t2, t3, t4, t5])
    clear hw6 hj hn hu hr hchk
    unfold vVal at CV
    generalize vG d = D at *
    unfold vF at CV
    unfold spVal at *
    generalize hW0 : w.alloc (.cells #[.string s, .int .u64 (D 0 : Nat), .int .u64 (D 1 : Nat), .int .u64 (D 2 : Nat), .int .u64 (D 3 : Nat), .int .i64 n.1, .int .i64 n.2.1, .int .i64 n.2.2, v] 27) = W at *
    replace C1 := Lib.hid C1
    replace CV := Lib.hid CV
    replace CS := Lib.hid CS
    replace I1 := Lib.hid I1
    replace I2 := Lib.hid I2
    replace I3 := Lib.hid I3
    replace CJ := Lib.hid CJ
    replace hN := Lib.hid hN
    obtain ⟨xl, x0, x1, x2, x3, x4, x5, x6, x7, x8⟩ := hX.cells
    go_enter Tryz.func24, Tryz.ntmps24
    go_wp2_with fail
    refine (C1.out _ hE).mono ?_; rintro e w1 ⟨rfl, h1⟩
    clear xl x0 x1 x2 x3 x4 x5 x6 x7 x8
    have hX1 := hX.ext h1
    have hE1 := hE.trans h1
    clear hX hE h1
    obtain ⟨xl, x0, x1, x2, x3, x4, x5, x6, x7, x8⟩ := hX1.cells
    go_wp2_with fail
    try simp only [Act.put, List.setIfInBounds_toArray, List.set_cons_succ, List.set_cons_zero]
    refine Dm.wp_region_ext 19 (Dm.bits 19 0) (Ext.refl w1) (by kernel_rfl) (by kernel_rfl) (by kernel_rfl) ?_
    refine Dm.wpE_take (i := 0) (listed' := (Dm.bits 19 1)) (by kernel_rfl) (by kernel_rfl) rfl (fun _ _ _ _ h => h) ?_; apply Exists.intro; refine And.intro (fun x => ?_) ?_
    · go_big_quiet_step ((first | (go_at_call 63; with_reducible exact Calls.quietE (CV.out _ (Ext.trans hE1 (by repeat (first | assumption | exact Ext.refl _ | refine Ext.trans ?_ (ext_grow _ _)))))) | (go_at_call 64; with_reducible exact Calls.quietE (I1.out _ (Ext.trans hE1 (by repeat (first | assumption | exact Ext.refl _ | refine Ext.trans ?_ (ext_grow _ _)))))) | (go_at_call 64; with_reducible exact Calls.quietE (I2.out _ (Ext.trans hE1 (by repeat (first | assumption | exact Ext.refl _ | refine Ext.trans ?_ (ext_grow _ _)))))) | (go_at_call 64; with_reducible exact Calls.quietE (I3.out _ (Ext.trans hE1 (by repeat (first | assumption | exact Ext.refl _ | refine Ext.trans ?_ (ext_grow _ _)))))) | (go_at_call 65; with_reducible exact Calls.quietE (CS.out _ (Ext.trans hE1 (by repeat (first | assumption | exact Ext.refl _ | refine Ext.trans ?_ (ext_grow _ _)))))))); exact wpQuiet_nil rfl
    refine Dm.wpE_take (i := 1) (listed' := (Dm.bits 19 3)) (by kernel_rfl) (by kernel_rfl) rfl (fun _ _ _ _ h => h) ?_; apply Exists.intro; refine And.intro (fun x => ?_) ?_
    · go_big_quiet_step ((first | (go_at_call 63; with_reducible exact Calls.quietE (CV.out _ (Ext.trans hE1 (by repeat (first | assumption | exact Ext.refl _ | refine Ext.trans ?_ (ext_grow _ _)))))) | (go_at_call 64; with_reducible exact Calls.quietE (I1.out _ (Ext.trans hE1 (by repeat (first | assumption | exact Ext.refl _ | refine Ext.trans ?_ (ext_grow _ _)))))) | (go_at_call 64; with_reducible exact Calls.quietE (I2.out _ (Ext.trans hE1 (by repeat (first | assumption | exact Ext.refl _ | refine Ext.trans ?_ (ext_grow _ _)))))) | (go_at_call 64; with_reducible exact Calls.quietE (I3.out _ (Ext.trans hE1 (by repeat (first | assumption | exact Ext.refl _ | refine Ext.trans ?_ (ext_grow _ _)))))) | (go_at_call 65; with_reducible exact Calls.quietE (CS.out _ (Ext.trans hE1 (by repeat (first | assumption | exact Ext.refl _ | refine Ext.trans ?_ (ext_grow _ _)))))))); exact wpQuiet_nil rfl
    refine Dm.wpE_take (i := 2) (listed' := (Dm.bits 19 7)) (by kernel_rfl) (by kernel_rfl) rfl (fun _ _ _ _ h => h) ?_; apply Exists.intro; refine And.intro (fun x => ?_) ?_
    · go_big_quiet_step ((first | (go_at_call 63; with_reducible exact Calls.quietE (CV.out _ (Ext.trans hE1 (by repeat (first | assumption | exact Ext.refl _ | refine Ext.trans ?_ (ext_grow _ _)))))) | (go_at_call 64; with_reducible exact Calls.quietE (I1.out _ (Ext.trans hE1 (by repeat (first | assumption | exact Ext.refl _ | refine Ext.trans ?_ (ext_grow _ _)))))) | (go_at_call 64; with_reducible exact Calls.quietE (I2.out _ (Ext.trans hE1 (by repeat (first | assumption | exact Ext.refl _ | refine Ext.trans ?_ (ext_grow _ _)))))) | (go_at_call 64; with_reducible exact Calls.quietE (I3.out _ (Ext.trans hE1 (by repeat (first | assumption | exact Ext.refl _ | refine Ext.trans ?_ (ext_grow _ _)))))) | (go_at_call 65; with_reducible exact Calls.quietE (CS.out _ (Ext.trans hE1 (by repeat (first | assumption | exact Ext.refl _ | refine Ext.trans ?_ (ext_grow _ _)))))))); exact wpQuiet_nil rfl
    refine Dm.wpE_take (i := 3) (listed' := (Dm.bits 19 15)) (by kernel_rfl) (by kernel_rfl) rfl (fun _ _ _ _ h => h) ?_; apply Exists.intro; refine And.intro (fun x => ?_) ?_
    · go_big_quiet_step ((first | (go_at_call 63; with_reducible exact Calls.quietE (CV.out _ (Ext.trans hE1 (by repeat (first | assumption | exact Ext.refl _ | refine Ext.trans ?_ (ext_grow _ _)))))) | (go_at_call 64; with_reducible exact Calls.quietE (I1.out _ (Ext.trans hE1 (by repeat (first | assumption | exact Ext.refl _ | refine Ext.trans ?_ (ext_grow _ _)))))) | (go_at_call 64; with_reducible exact Calls.quietE (I2.out _ (Ext.trans hE1 (by repeat (first | assumption | exact Ext.refl _ | refine Ext.trans ?_ (ext_grow _ _)))))) | (go_at_call 64; with_reducible exact Calls.quietE (I3.out _ (Ext.trans hE1 (by repeat (first | assumption | exact Ext.refl _ | refine Ext.trans ?_ (ext_grow _ _)))))) | (go_at_call 65; with_reducible exact Calls.quietE (CS.out _ (Ext.trans hE1 (by repeat (first | assumption | exact Ext.refl _ | refine Ext.trans ?_ (ext_grow _ _)))))))); exact wpQuiet_nil rfl
    refine Dm.wpE_take (i := 4) (listed' := (Dm.bits 19 31)) (by kernel_rfl) (by kernel_rfl) rfl (fun _ _ _ _ h => h) ?_; apply Exists.intro; refine And.intro (fun x => ?_) ?_
    · go_big_quiet_step ((first | (go_at_call 63; with_reducible exact Calls.quietE (CV.out _ (Ext.trans hE1 (by repeat (first | assumption | exact Ext.refl _ | refine Ext.trans ?_ (ext_grow _ _)))))) | (go_at_call 64; with_reducible exact Calls.quietE (I1.out _ (Ext.trans hE1 (by repeat (first | assumption | exact Ext.refl _ | refine Ext.trans ?_ (ext_grow _ _)))))) | (go_at_call 64; with_reducible exact Calls.quietE (I2.out _ (Ext.trans hE1 (by repeat (first | assumption | exact Ext.refl _ | refine Ext.trans ?_ (ext_grow _ _)))))) | (go_at_call 64; with_reducible exact Calls.quietE (I3.out _ (Ext.trans hE1 (by repeat (first | assumption | exact Ext.refl _ | refine Ext.trans ?_ (ext_grow _ _)))))) | (go_at_call 65; with_reducible exact Calls.quietE (CS.out _ (Ext.trans hE1 (by repeat (first | assumption | exact Ext.refl _ | refine Ext.trans ?_ (ext_grow _ _)))))))); exact wpQuiet_nil rfl
    refine Dm.wpE_take (i := 5) (listed' := (Dm.bits 19 63)) (by kernel_rfl) (by kernel_rfl) rfl (fun _ _ _ _ h => h) ?_; apply Exists.intro; refine And.intro (fun x => ?_) ?_
    · go_big_quiet_step ((first | (go_at_call 63; with_reducible exact Calls.quietE (CV.out _ (Ext.trans hE1 (by repeat (first | assumption | exact Ext.refl _ | refine Ext.trans ?_ (ext_grow _ _)))))) | (go_at_call 64; with_reducible exact Calls.quietE (I1.out _ (Ext.trans hE1 (by repeat (first | assumption | exact Ext.refl _ | refine Ext.trans ?_ (ext_grow _ _)))))) | (go_at_call 64; with_reducible exact Calls.quietE (I2.out _ (Ext.trans hE1 (by repeat (first | assumption | exact Ext.refl _ | refine Ext.trans ?_ (ext_grow _ _)))))) | (go_at_call 64; with_reducible exact Calls.quietE (I3.out _ (Ext.trans hE1 (by repeat (first | assumption | exact Ext.refl _ | refine Ext.trans ?_ (ext_grow _ _)))))) | (go_at_call 65; with_reducible exact Calls.quietE (CS.out _ (Ext.trans hE1 (by repeat (first | assumption | exact Ext.refl _ | refine Ext.trans ?_ (ext_grow _ _)))))))); exact wpQuiet_nil rfl
    refine Dm.wpE_take (i := 6) (listed' := (Dm.bits 19 127)) (by kernel_rfl) (by kernel_rfl) rfl (fun _ _ _ _ h => h) ?_; apply Exists.intro; refine And.intro (fun x => ?_) ?_
    · go_big_quiet_step ((first | (go_at_call 63; with_reducible exact Calls.quietE (CV.out _ (Ext.trans hE1 (by repeat (first | assumption | exact Ext.refl _ | refine Ext.trans ?_ (ext_grow _ _)))))) | (go_at_call 64; with_reducible exact Calls.quietE (I1.out _ (Ext.trans hE1 (by repeat (first | assumption | exact Ext.refl _ | refine Ext.trans ?_ (ext_grow _ _)))))) | (go_at_call 64; with_reducible exact Calls.quietE (I2.out _ (Ext.trans hE1 (by repeat (first | assumption | exact Ext.refl _ | refine Ext.trans ?_ (ext_grow _ _)))))) | (go_at_call 64; with_reducible exact Calls.quietE (I3.out _ (Ext.trans hE1 (by repeat (first | assumption | exact Ext.refl _ | refine Ext.trans ?_ (ext_grow _ _)))))) | (go_at_call 65; with_reducible exact Calls.quietE (CS.out _ (Ext.trans hE1 (by repeat (first | assumption | exact Ext.refl _ | refine Ext.trans ?_ (ext_grow _ _)))))))); exact wpQuiet_nil rfl
    refine Dm.wpE_take (i := 7) (listed' := (Dm.bits 19 255)) (by kernel_rfl) (by kernel_rfl) rfl (fun _ _ _ _ h => h) ?_; apply Exists.intro; refine And.intro (fun x => ?_) ?_
    · go_big_quiet_step ((first | (go_at_call 63; with_reducible exact Calls.quietE (CV.out _ (Ext.trans hE1 (by repeat (first | assumption | exact Ext.refl _ | refine Ext.trans ?_ (ext_grow _ _)))))) | (go_at_call 64; with_reducible exact Calls.quietE (I1.out _ (Ext.trans hE1 (by repeat (first | assumption | exact Ext.refl _ | refine Ext.trans ?_ (ext_grow _ _)))))) | (go_at_call 64; with_reducible exact Calls.quietE (I2.out _ (Ext.trans hE1 (by repeat (first | assumption | exact Ext.refl _ | refine Ext.trans ?_ (ext_grow _ _)))))) | (go_at_call 64; with_reducible exact Calls.quietE (I3.out _ (Ext.trans hE1 (by repeat (first | assumption | exact Ext.refl _ | refine Ext.trans ?_ (ext_grow _ _)))))) | (go_at_call 65; with_reducible exact Calls.quietE (CS.out _ (Ext.trans hE1 (by repeat (first | assumption | exact Ext.refl _ | refine Ext.trans ?_ (ext_grow _ _)))))))); exact wpQuiet_nil rfl
    refine Dm.wpE_take (i := 8) (listed' := (Dm.bits 19 511)) (by kernel_rfl) (by kernel_rfl) rfl (fun _ _ _ _ h => h) ?_; apply Exists.intro; refine And.intro (fun x => ?_) ?_
    · go_big_quiet_step ((first | (go_at_call 63; with_reducible exact Calls.quietE (CV.out _ (Ext.trans hE1 (by repeat (first | assumption | exact Ext.refl _ | refine Ext.trans ?_ (ext_grow _ _)))))) | (go_at_call 64; with_reducible exact Calls.quietE (I1.out _ (Ext.trans hE1 (by repeat (first | assumption | exact Ext.refl _ | refine Ext.trans ?_ (ext_grow _ _)))))) | (go_at_call 64; with_reducible exact Calls.quietE (I2.out _ (Ext.trans hE1 (by repeat (first | assumption | exact Ext.refl _ | refine Ext.trans ?_ (ext_grow _ _)))))) | (go_at_call 64; with_reducible exact Calls.quietE (I3.out _ (Ext.trans hE1 (by repeat (first | assumption | exact Ext.refl _ | refine Ext.trans ?_ (ext_grow _ _)))))) | (go_at_call 65; with_reducible exact Calls.quietE (CS.out _ (Ext.trans hE1 (by repeat (first | assumption | exact Ext.refl _ | refine Ext.trans ?_ (ext_grow _ _)))))))); exact wpQuiet_nil rfl
    refine Dm.wpE_take (i := 9) (listed' := (Dm.bits 19 1023)) (by kernel_rfl) (by kernel_rfl) rfl (fun _ _ _ _ h => h) ?_; apply Exists.intro; refine And.intro (fun x => ?_) ?_
    · go_big_quiet_step ((first | (go_at_call 63; with_reducible exact Calls.quietE (CV.out _ (Ext.trans hE1 (by repeat (first | assumption | exact Ext.refl _ | refine Ext.trans ?_ (ext_grow _ _)))))) | (go_at_call 64; with_reducible exact Calls.quietE (I1.out _ (Ext.trans hE1 (by repeat (first | assumption | exact Ext.refl _ | refine Ext.trans ?_ (ext_grow _ _)))))) | (go_at_call 64; with_reducible exact Calls.quietE (I2.out _ (Ext.trans hE1 (by repeat (first | assumption | exact Ext.refl _ | refine Ext.trans ?_ (ext_grow _ _)))))) | (go_at_call 64; with_reducible exact Calls.quietE (I3.out _ (Ext.trans hE1 (by repeat (first | assumption | exact Ext.refl _ | refine Ext.trans ?_ (ext_grow _ _)))))) | (go_at_call 65; with_reducible exact Calls.quietE (CS.out _ (Ext.trans hE1 (by repeat (first | assumption | exact Ext.refl _ | refine Ext.trans ?_ (ext_grow _ _)))))))); exact wpQuiet_nil rfl
    refine Dm.wpE_take (i := 10) (listed' := (Dm.bits 19 2047)) (by kernel_rfl) (by kernel_rfl) rfl (fun _ _ _ _ h => h) ?_; apply Exists.intro; refine And.intro (fun x => ?_) ?_
    · go_big_quiet_step ((first | (go_at_call 63; with_reducible exact Calls.quietE (CV.out _ (Ext.trans hE1 (by repeat (first | assumption | exact Ext.refl _ | refine Ext.trans ?_ (ext_grow _ _)))))) | (go_at_call 64; with_reducible exact Calls.quietE (I1.out _ (Ext.trans hE1 (by repeat (first | assumption | exact Ext.refl _ | refine Ext.trans ?_ (ext_grow _ _)))))) | (go_at_call 64; with_reducible exact Calls.quietE (I2.out _ (Ext.trans hE1 (by repeat (first | assumption | exact Ext.refl _ | refine Ext.trans ?_ (ext_grow _ _)))))) | (go_at_call 64; with_reducible exact Calls.quietE (I3.out _ (Ext.trans hE1 (by repeat (first | assumption | exact Ext.refl _ | refine Ext.trans ?_ (ext_grow _ _)))))) | (go_at_call 65; with_reducible exact Calls.quietE (CS.out _ (Ext.trans hE1 (by repeat (first | assumption | exact Ext.refl _ | refine Ext.trans ?_ (ext_grow _ _)))))))); exact wpQuiet_nil rfl
    refine Dm.wpE_take (i := 11) (listed' := (Dm.bits 19 4095)) (by kernel_rfl) (by kernel_rfl) rfl (fun _ _ _ _ h => h) ?_; apply Exists.intro; refine And.intro (fun x => ?_) ?_
    · go_big_quiet_step ((first | (go_at_call 63; with_reducible exact Calls.quietE (CV.out _ (Ext.trans hE1 (by repeat (first | assumption | exact Ext.refl _ | refine Ext.trans ?_ (ext_grow _ _)))))) | (go_at_call 64; with_reducible exact Calls.quietE (I1.out _ (Ext.trans hE1 (by repeat (first | assumption | exact Ext.refl _ | refine Ext.trans ?_ (ext_grow _ _)))))) | (go_at_call 64; with_reducible exact Calls.quietE (I2.out _ (Ext.trans hE1 (by repeat (first | assumption | exact Ext.refl _ | refine Ext.trans ?_ (ext_grow _ _)))))) | (go_at_call 64; with_reducible exact Calls.quietE (I3.out _ (Ext.trans hE1 (by repeat (first | assumption | exact Ext.refl _ | refine Ext.trans ?_ (ext_grow _ _)))))) | (go_at_call 65; with_reducible exact Calls.quietE (CS.out _ (Ext.trans hE1 (by repeat (first | assumption | exact Ext.refl _ | refine Ext.trans ?_ (ext_grow _ _)))))))); exact wpQuiet_nil rfl
    refine Dm.wpE_take (i := 12) (listed' := (Dm.bits 19 8191)) (by kernel_rfl) (by kernel_rfl) rfl (fun _ _ _ _ h => h) ?_; apply Exists.intro; refine And.intro (fun x => ?_) ?_
    · go_big_quiet_step ((first | (go_at_call 63; with_reducible exact Calls.quietE (CV.out _ (Ext.trans hE1 (by repeat (first | assumption | exact Ext.refl _ | refine Ext.trans ?_ (ext_grow _ _)))))) | (go_at_call 64; with_reducible exact Calls.quietE (I1.out _ (Ext.trans hE1 (by repeat (first | assumption | exact Ext.refl _ | refine Ext.trans ?_ (ext_grow _ _)))))) | (go_at_call 64; with_reducible exact Calls.quietE (I2.out _ (Ext.trans hE1 (by repeat (first | assumption | exact Ext.refl _ | refine Ext.trans ?_ (ext_grow _ _)))))) | (go_at_call 64; with_reducible exact Calls.quietE (I3.out _ (Ext.trans hE1 (by repeat (first | assumption | exact Ext.refl _ | refine Ext.trans ?_ (ext_grow _ _)))))) | (go_at_call 65; with_reducible exact Calls.quietE (CS.out _ (Ext.trans hE1 (by repeat (first | assumption | exact Ext.refl _ | refine Ext.trans ?_ (ext_grow _ _)))))))); exact wpQuiet_nil rfl
    refine Dm.wpE_take (i := 13) (listed' := (Dm.bits 19 16383)) (by kernel_rfl) (by kernel_rfl) rfl (fun _ _ _ _ h => h) ?_; apply Exists.intro; refine And.intro (fun x => ?_) ?_
    · go_big_quiet_step ((first | (go_at_call 63; with_reducible exact Calls.quietE (CV.out _ (Ext.trans hE1 (by repeat (first | assumption | exact Ext.refl _ | refine Ext.trans ?_ (ext_grow _ _)))))) | (go_at_call 64; with_reducible exact Calls.quietE (I1.out _ (Ext.trans hE1 (by repeat (first | assumption | exact Ext.refl _ | refine Ext.trans ?_ (ext_grow _ _)))))) | (go_at_call 64; with_reducible exact Calls.quietE (I2.out _ (Ext.trans hE1 (by repeat (first | assumption | exact Ext.refl _ | refine Ext.trans ?_ (ext_grow _ _)))))) | (go_at_call 64; with_reducible exact Calls.quietE (I3.out _ (Ext.trans hE1 (by repeat (first | assumption | exact Ext.refl _ | refine Ext.trans ?_ (ext_grow _ _)))))) | (go_at_call 65; with_reducible exact Calls.quietE (CS.out _ (Ext.trans hE1 (by repeat (first | assumption | exact Ext.refl _ | refine Ext.trans ?_ (ext_grow _ _)))))))); exact wpQuiet_nil rfl
    refine Dm.wpE_take (i := 14) (listed' := (Dm.bits 19 32767)) (by kernel_rfl) (by kernel_rfl) rfl (fun _ _ _ _ h => h) ?_; apply Exists.intro; refine And.intro (fun x => ?_) ?_
    · go_big_quiet_step ((first | (go_at_call 63; with_reducible exact Calls.quietE (CV.out _ (Ext.trans hE1 (by repeat (first | assumption | exact Ext.refl _ | refine Ext.trans ?_ (ext_grow _ _)))))) | (go_at_call 64; with_reducible exact Calls.quietE (I1.out _ (Ext.trans hE1 (by repeat (first | assumption | exact Ext.refl _ | refine Ext.trans ?_ (ext_grow _ _)))))) | (go_at_call 64; with_reducible exact Calls.quietE (I2.out _ (Ext.trans hE1 (by repeat (first | assumption | exact Ext.refl _ | refine Ext.trans ?_ (ext_grow _ _)))))) | (go_at_call 64; with_reducible exact Calls.quietE (I3.out _ (Ext.trans hE1 (by repeat (first | assumption | exact Ext.refl _ | refine Ext.trans ?_ (ext_grow _ _)))))) | (go_at_call 65; with_reducible exact Calls.quietE (CS.out _ (Ext.trans hE1 (by repeat (first | assumption | exact Ext.refl _ | refine Ext.trans ?_ (ext_grow _ _)))))))); exact wpQuiet_nil rfl
    refine Dm.wpE_take (i := 15) (listed' := (Dm.bits 19 65535)) (by kernel_rfl) (by kernel_rfl) rfl (fun _ _ _ _ h => h) ?_; apply Exists.intro; refine And.intro (fun x => ?_) ?_
    · go_big_quiet_step ((first | (go_at_call 63; with_reducible exact Calls.quietE (CV.out _ (Ext.trans hE1 (by repeat (first | assumption | exact Ext.refl _ | refine Ext.trans ?_ (ext_grow _ _)))))) | (go_at_call 64; with_reducible exact Calls.quietE (I1.out _ (Ext.trans hE1 (by repeat (first | assumption | exact Ext.refl _ | refine Ext.trans ?_ (ext_grow _ _)))))) | (go_at_call 64; with_reducible exact Calls.quietE (I2.out _ (Ext.trans hE1 (by repeat (first | assumption | exact Ext.refl _ | refine Ext.trans ?_ (ext_grow _ _)))))) | (go_at_call 64; with_reducible exact Calls.quietE (I3.out _ (Ext.trans hE1 (by repeat (first | assumption | exact Ext.refl _ | refine Ext.trans ?_ (ext_grow _ _)))))) | (go_at_call 65; with_reducible exact Calls.quietE (CS.out _ (Ext.trans hE1 (by repeat (first | assumption | exact Ext.refl _ | refine Ext.trans ?_ (ext_grow _ _)))))))); exact wpQuiet_nil rfl
    refine Dm.wpE_take (i := 16) (listed' := (Dm.bits 19 131071)) (by kernel_rfl) (by kernel_rfl) rfl (fun _ _ _ _ h => h) ?_; apply Exists.intro; refine And.intro (fun x => ?_) ?_
    · go_big_quiet_step ((first | (go_at_call 63; with_reducible exact Calls.quietE (CV.out _ (Ext.trans hE1 (by repeat (first | assumption | exact Ext.refl _ | refine Ext.trans ?_ (ext_grow _ _)))))) | (go_at_call 64; with_reducible exact Calls.quietE (I1.out _ (Ext.trans hE1 (by repeat (first | assumption | exact Ext.refl _ | refine Ext.trans ?_ (ext_grow _ _)))))) | (go_at_call 64; with_reducible exact Calls.quietE (I2.out _ (Ext.trans hE1 (by repeat (first | assumption | exact Ext.refl _ | refine Ext.trans ?_ (ext_grow _ _)))))) | (go_at_call 64; with_reducible exact Calls.quietE (I3.out _ (Ext.trans hE1 (by repeat (first | assumption | exact Ext.refl _ | refine Ext.trans ?_ (ext_grow _ _)))))) | (go_at_call 65; with_reducible exact Calls.quietE (CS.out _ (Ext.trans hE1 (by repeat (first | assumption | exact Ext.refl _ | refine Ext.trans ?_ (ext_grow _ _)))))))); exact wpQuiet_nil rfl
    refine Dm.wpE_one (i := 17) (listed' := (Dm.bits 19 262143)) (by kernel_rfl) (by kernel_rfl) rfl (Ext.refl w1) (fun w1a hx1a => ?_)
    have hX1a := Ext.trans (Ext.refl w1) hx1a
    go_wp2_with fail
    have hl := hN.out w1a
    have hs1 := (Ext.refl w1a).alloc (.cells #[.string s, .string t1, .string t2, .string t3, .string t4, .string t5] 9)
    have hX1b := Ext.trans hX1a hs1
    generalize w1a.alloc (.cells #[.string s, .string t1, .string t2, .string t3, .string t4, .string t5] 9) = w1b at *
    try simp only [Exit.then, Act.put, List.setIfInBounds_toArray, List.set_cons_succ, List.set_cons_zero]
    refine Dm.wpE_take (i := 18) (listed' := (Dm.bits 19 524287)) (by kernel_rfl) (by kernel_rfl) rfl (fun _ _ _ _ h => h) ?_; apply Exists.intro; refine And.intro (fun x => ?_) ?_
    · go_big_quiet_step ((first | (go_at_call 63; with_reducible exact Calls.quietE (CV.out _ (Ext.trans hE1 (by repeat (first | assumption | exact Ext.refl _ | refine Ext.trans ?_ (ext_grow _ _)))))) | (go_at_call 64; with_reducible exact Calls.quietE (I1.out _ (Ext.trans hE1 (by repeat (first | assumption | exact Ext.refl _ | refine Ext.trans ?_ (ext_grow _ _)))))) | (go_at_call 64; with_reducible exact Calls.quietE (I2.out _ (Ext.trans hE1 (by repeat (first | assumption | exact Ext.refl _ | refine Ext.trans ?_ (ext_grow _ _)))))) | (go_at_call 64; with_reducible exact Calls.quietE (I3.out _ (Ext.trans hE1 (by repeat (first | assumption | exact Ext.refl _ | refine Ext.trans ?_ (ext_grow _ _)))))) | (go_at_call 65; with_reducible exact Calls.quietE (CS.out _ (Ext.trans hE1 (by repeat (first | assumption | exact Ext.refl _ | refine Ext.trans ?_ (ext_grow _ _)))))))); exact wpQuiet_nil rfl
    refine Dm.wpE_done (by kernel_rfl) hX1b (fun w2a hx2a => ?_)
    have hX2a := Ext.trans hX1b hx2a
    replace hl := hl.ext hx2a
    have CJ1 := CJ.out _ _ hl
    replace CJ1 := Lib.hid CJ1
    go_wp2_with fail
    refine CJ1.out.mono ?_; rintro e w5 ⟨rfl, h5⟩
    go_wp2
    go_ret
    exact ⟨rfl, (hE1.trans hX2a).trans h5⟩
  · have htx : textX (s, d, n, R.map rowT) = [63] := by unfold textX; rw [if_neg hchk]
    rw [htx]
    clear htx
    generalize chkX (s, d, n, R.map rowT) = K at *
    have hK : ¬ ((K : Int) = 0) := by omega
    generalize vG d = D at *
    unfold spVal at *
    replace C1 := Lib.hid C1
    generalize hW0 : w.alloc (.cells #[.string s, .int .u64 (D 0 : Nat), .int .u64 (D 1 : Nat), .int .u64 (D 2 : Nat), .int .u64 (D 3 : Nat), .int .i64 n.1, .int .i64 n.2.1, .int .i64 n.2.2, v] 27) = W at *
    obtain ⟨xl, x0, x1, x2, x3, x4, x5, x6, x7, x8⟩ := hX.cells
    go_enter Tryz.func24, Tryz.ntmps24
    go_wp2_with fail
    refine (C1.out _ hE).mono ?_; rintro e w1 ⟨rfl, h1⟩
    go_wp2
    go_ret
    exact ⟨rfl, hE.trans h1⟩
end Go.Proofs.YthmhalcloogniaaGreatDoor
