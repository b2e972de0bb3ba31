/- Texts one behind the other: Chapter 11: the walk of SpecOnce. -/
import Derived.Test.YthmhalcloogniaaGreatDoorB28
import Derived.Test.YthmhalcloogniaaGreatDoorB27
import Derived.Deep.Cut
namespace Go.Proofs.YthmhalcloogniaaGreatDoor
open Go.RowKit Go.Dm
set_option maxHeartbeats 8000000 in
set_option maxRecDepth 100000 in
theorem specOnce_w (s : ByteArray) (z : Int) (ws : List ByteArray) (va : Value) (w : World) (hs : s.size ≤ 1048576) (hm : ws.length ≤ 1048576 ∧ ∀ x ∈ ws, x.size ≤ 1048576) (hx : Strs w va ws) (ht : Vars w) (hv : VarsV w) :
    Calls Tryz.prog 6 #[.string s, .int .i64 z, va] w fun e w' => e = .returned (.bool true) ∧ Ext w w' := by
  obtain ⟨qw, capw, rfl, _, _⟩ := hx.shape
  have hU : U64 s.data.toList.length := Nat.lt_of_le_of_lt (show s.size ≤ _ from hs) (by decide)
  have CE := fun U (h : Ext w U) => xexamples_w U (ht.ext h) (hv.ext h)
  have CG := fun U (h : Ext w U) => xget_w s z U (by omega) (ht.ext h)
  have CP := fun U (h : Ext w U) => xparse_w ws _ U hm.1 hm.2 (hx.ext h) (ht.ext h) (hv.ext h)
  have hG1 := fun x n (h : getX s.data.toList z = (x, n, true)) => getX_yes hU h
  have hG2 := fun x n (h : getX s.data.toList z = (x, n, false)) => getX_no h
  have hP1 := fun x (h : parseX (bytesOf ws) = (x, true)) => parseX_text h
  have hP2 := fun x (h : parseX (bytesOf ws) = (x, false)) => parseX_no h
  generalize getX s.data.toList z = G at *
  generalize parseX (bytesOf ws) = Q at *
  obtain ⟨⟨s1, d1, n1, T1⟩, nx, ok⟩ := G
  obtain ⟨⟨s2, d2, n2, T2⟩, pk⟩ := Q
  have F1 : ok = true → chkX (s1, d1, n1, T1) = 0 ∧ ∃ q m : Nat, z = q ∧ nx = m ∧ q < m ∧ m ≤ s.size ∧ (⟨(putX (s1, d1, n1, T1)).toArray⟩ : ByteArray) = s.extract q m := by
    rintro rfl
    obtain ⟨h1, _, q, m, h2, h3, h4, h5, h6⟩ := hG1 _ _ rfl
    refine ⟨h1, q, m, h2, h3, h4, h5, ?_⟩
    rw [← h6]
    exact (mk_bytes (Lib.extract_data s q m)).symm
  have F2 : ok = false → nx = 0 := by
    rintro rfl
    exact (hG2 _ _ rfl).2
  have F3 : pk = true → chkX (s2, d2, n2, T2) = 0 ∧ ws.length = 6 ∧ textX (s2, d2, n2, T2) = Lib.join (bytesOf ws) [32] := by
    rintro rfl
    obtain ⟨h1, _, h2, h3⟩ := hP1 _ rfl
    exact ⟨h1, by simpa [bytesOf] using h2, h3⟩
  have F4 : pk = false → (s2, d2, n2, T2) = noSp := by
    rintro rfl
    exact hP2 _ rfl
  unfold GotX at CG
  unfold GotP at CP
  simp only at CG CP
  obtain ⟨D1, hD1⟩ : ∃ D, vG d1 = D := ⟨_, rfl⟩
  obtain ⟨D2, hD2⟩ : ∃ D, vG d2 = D := ⟨_, rfl⟩
  rw [hD1] at CG
  rw [hD2] at CP
  unfold spVal at CG CP
  clear hG1 hG2 hP1 hP2 hU
  replace CE := Lib.hid CE
  replace CG := Lib.hid CG
  replace CP := Lib.hid CP
  replace F1 := Lib.hid F1
  replace F2 := Lib.hid F2
  replace F3 := Lib.hid F3
  replace F4 := Lib.hid F4
  replace hD1 := Lib.hid hD1
  replace hD2 := Lib.hid hD2
  go_enter Tryz.func6, Tryz.ntmps6
  go_wp2_with fail
  refine (CE.out _ (Ext.refl _)).mono ?_; rintro e w1 ⟨rfl, hE⟩
  go_wp2_with fail
  refine (CG.out _ hE).mono ?_; rintro e w2 ⟨⟨v1, R1, rfl, hy1, hf1, hl1, hT1, ho1⟩, h2⟩
  replace hE := hE.trans h2
  obtain ⟨q1, c1, rfl, _, _⟩ := hy1.shape
  clear h2 CE CG
  have bX := XBox.new w2 s1 D1 n1 (.slice q1 R1.length c1) 27
  have e3 := (Ext.refl w2).alloc (.cells #[.string s1, .int .u64 (D1 0 : Nat), .int .u64 (D1 1 : Nat), .int .u64 (D1 2 : Nat), .int .u64 (D1 3 : Nat), .int .i64 n1.1, .int .i64 n1.2.1, .int .i64 n1.2.2, .slice q1 R1.length c1] 27)
  replace hE := hE.trans e3
  replace hy1 := hy1.ext e3
  clear e3
  go_wp2_with fail
  generalize hw3 : w2.alloc (.cells #[.string s1, .int .u64 (D1 0 : Nat), .int .u64 (D1 1 : Nat), .int .u64 (D1 2 : Nat), .int .u64 (D1 3 : Nat), .int .i64 n1.1, .int .i64 n1.2.1, .int .i64 n1.2.2, .slice q1 R1.length c1] 27) = w3 at *
  generalize hb1 : w2.heap.size = b1 at *
  refine (CP.out _ hE).mono ?_; rintro e w4 ⟨⟨v2, R2, rfl, hy2, hf2, hl2, hT2, ho2⟩, h4⟩
  replace hE := hE.trans h4
  replace bX := bX.ext h4
  replace hy1 := hy1.ext h4
  obtain ⟨q2, c2, rfl, _, _⟩ := hy2.shape
  clear h4 CP hw3 hb1
  have bY := XBox.new w4 s2 D2 n2 (.slice q2 R2.length c2) 27
  have e5 := (Ext.refl w4).alloc (.cells #[.string s2, .int .u64 (D2 0 : Nat), .int .u64 (D2 1 : Nat), .int .u64 (D2 2 : Nat), .int .u64 (D2 3 : Nat), .int .i64 n2.1, .int .i64 n2.2.1, .int .i64 n2.2.2, .slice q2 R2.length c2] 27)
  replace hE := hE.trans e5
  replace bX := bX.ext e5
  replace hy1 := hy1.ext e5
  replace hy2 := hy2.ext e5
  clear e5
  replace hT1 := Lib.hid hT1
  replace hT2 := Lib.hid hT2
  go_upto_region 6 with fail
  generalize hw5 : w4.alloc (.cells #[.string s2, .int .u64 (D2 0 : Nat), .int .u64 (D2 1 : Nat), .int .u64 (D2 2 : Nat), .int .u64 (D2 3 : Nat), .int .i64 n2.1, .int .i64 n2.2.1, .int .i64 n2.2.2, .slice q2 R2.length c2] 27) = w5 at *
  generalize hb2 : w4.heap.size = b2 at *
  clear hw5 hb2
  go_cut [54] from 15 (fun r w' => r = .bool false ∧ Ext w5 w')
  case first =>
    cases ok with
    | true =>
      obtain ⟨hc, qa, qm, rfl, rfl, hlt, hle, hput⟩ := F1.out rfl
      have hU98 := (under_short (chkX_iff.1 hc).1).1
      have hs1 : s1.size ≤ 98 := hU98
      have CK := fun U (h : Ext w5 U) => xcheck_w s1 d1 n1 (.slice q1 R1.length c1) R1 U (by omega) ho1 (by omega) hf1 (hy1.ext h) (ht.ext (hE.trans h))
      have CU := fun U (h : Ext w5 U) => xput_w s1 d1 n1 (.slice q1 R1.length c1) R1 U (by omega) ho1 (by omega) hf1 (hy1.ext h) (ht.ext (hE.trans h))
      rw [hT1.out, hc, hD1.out] at CK
      rw [hT1.out, hput, hD1.out] at CU
      unfold spVal at CK CU
      clear hc hput hU98 hs1
      replace CK := Lib.hid CK
      replace CU := Lib.hid CU
      have hq0 : ¬ ((qa : Int) < 0) := by omega
      have hgt : ¬ ((s.size : Int) < (qm : Int)) := by omega
      obtain ⟨xl, x0, x1, x2, x3, x4, x5, x6, x7, x8⟩ := bX.cells
      try simp only [Act.put, List.setIfInBounds_toArray, List.set_cons_succ, List.set_cons_zero]
      refine Dm.wp_region_ext 25 (Dm.bits 25 0) (Ext.refl w5) (by kernel_rfl) (by kernel_rfl) (by kernel_rfl) ?_
      refine Dm.wpE_take (i := 0) (listed' := (Dm.bits 25 1)) (by kernel_rfl) (by kernel_rfl) rfl (fun _ _ _ _ h => h) ?_; apply Exists.intro; refine And.intro (fun x => ?_) ?_
      · go_big_quiet_step ((first | (go_at_call 19; with_reducible exact Calls.quietE (CK.out _ (by repeat (first | assumption | exact Ext.refl _ | refine Ext.trans ?_ (ext_grow _ _))))) | (go_at_call 22; with_reducible exact Calls.quietE (CU.out _ (by repeat (first | assumption | exact Ext.refl _ | refine Ext.trans ?_ (ext_grow _ _))))))); exact wpQuiet_nil rfl
      refine Dm.wpE_take (i := 1) (listed' := (Dm.bits 25 3)) (by kernel_rfl) (by kernel_rfl) rfl (fun _ _ _ _ h => h) ?_; apply Exists.intro; refine And.intro (fun x => ?_) ?_
      · go_big_quiet_step ((first | (go_at_call 19; with_reducible exact Calls.quietE (CK.out _ (by repeat (first | assumption | exact Ext.refl _ | refine Ext.trans ?_ (ext_grow _ _))))) | (go_at_call 22; with_reducible exact Calls.quietE (CU.out _ (by repeat (first | assumption | exact Ext.refl _ | refine Ext.trans ?_ (ext_grow _ _))))))); exact wpQuiet_nil rfl
      refine Dm.wpE_take (i := 2) (listed' := (Dm.bits 25 7)) (by kernel_rfl) (by kernel_rfl) rfl (fun _ _ _ _ h => h) ?_; apply Exists.intro; refine And.intro (fun x => ?_) ?_
      · go_big_quiet_step ((first | (go_at_call 19; with_reducible exact Calls.quietE (CK.out _ (by repeat (first | assumption | exact Ext.refl _ | refine Ext.trans ?_ (ext_grow _ _))))) | (go_at_call 22; with_reducible exact Calls.quietE (CU.out _ (by repeat (first | assumption | exact Ext.refl _ | refine Ext.trans ?_ (ext_grow _ _))))))); exact wpQuiet_nil rfl
      refine Dm.wpE_take (i := 3) (listed' := (Dm.bits 25 15)) (by kernel_rfl) (by kernel_rfl) rfl (fun _ _ _ _ h => h) ?_; apply Exists.intro; refine And.intro (fun x => ?_) ?_
      · go_big_quiet_step ((first | (go_at_call 19; with_reducible exact Calls.quietE (CK.out _ (by repeat (first | assumption | exact Ext.refl _ | refine Ext.trans ?_ (ext_grow _ _))))) | (go_at_call 22; with_reducible exact Calls.quietE (CU.out _ (by repeat (first | assumption | exact Ext.refl _ | refine Ext.trans ?_ (ext_grow _ _))))))); exact wpQuiet_nil rfl
      refine Dm.wpE_take (i := 4) (listed' := (Dm.bits 25 31)) (by kernel_rfl) (by kernel_rfl) rfl (fun _ _ _ _ h => h) ?_; apply Exists.intro; refine And.intro (fun x => ?_) ?_
      · go_big_quiet_step ((first | (go_at_call 19; with_reducible exact Calls.quietE (CK.out _ (by repeat (first | assumption | exact Ext.refl _ | refine Ext.trans ?_ (ext_grow _ _))))) | (go_at_call 22; with_reducible exact Calls.quietE (CU.out _ (by repeat (first | assumption | exact Ext.refl _ | refine Ext.trans ?_ (ext_grow _ _))))))); exact wpQuiet_nil rfl
      refine Dm.wpE_take (i := 5) (listed' := (Dm.bits 25 63)) (by kernel_rfl) (by kernel_rfl) rfl (fun _ _ _ _ h => h) ?_; apply Exists.intro; refine And.intro (fun x => ?_) ?_
      · go_big_quiet_step ((first | (go_at_call 19; with_reducible exact Calls.quietE (CK.out _ (by repeat (first | assumption | exact Ext.refl _ | refine Ext.trans ?_ (ext_grow _ _))))) | (go_at_call 22; with_reducible exact Calls.quietE (CU.out _ (by repeat (first | assumption | exact Ext.refl _ | refine Ext.trans ?_ (ext_grow _ _))))))); exact wpQuiet_nil rfl
      refine Dm.wpE_take (i := 6) (listed' := (Dm.bits 25 127)) (by kernel_rfl) (by kernel_rfl) rfl (fun _ _ _ _ h => h) ?_; apply Exists.intro; refine And.intro (fun x => ?_) ?_
      · go_big_quiet_step ((first | (go_at_call 19; with_reducible exact Calls.quietE (CK.out _ (by repeat (first | assumption | exact Ext.refl _ | refine Ext.trans ?_ (ext_grow _ _))))) | (go_at_call 22; with_reducible exact Calls.quietE (CU.out _ (by repeat (first | assumption | exact Ext.refl _ | refine Ext.trans ?_ (ext_grow _ _))))))); exact wpQuiet_nil rfl
      refine Dm.wpE_take (i := 7) (listed' := (Dm.bits 25 255)) (by kernel_rfl) (by kernel_rfl) rfl (fun _ _ _ _ h => h) ?_; apply Exists.intro; refine And.intro (fun x => ?_) ?_
      · go_big_quiet_step ((first | (go_at_call 19; with_reducible exact Calls.quietE (CK.out _ (by repeat (first | assumption | exact Ext.refl _ | refine Ext.trans ?_ (ext_grow _ _))))) | (go_at_call 22; with_reducible exact Calls.quietE (CU.out _ (by repeat (first | assumption | exact Ext.refl _ | refine Ext.trans ?_ (ext_grow _ _))))))); exact wpQuiet_nil rfl
      refine Dm.wpE_take (i := 8) (listed' := (Dm.bits 25 511)) (by kernel_rfl) (by kernel_rfl) rfl (fun _ _ _ _ h => h) ?_; apply Exists.intro; refine And.intro (fun x => ?_) ?_
      · go_big_quiet_step ((first | (go_at_call 19; with_reducible exact Calls.quietE (CK.out _ (by repeat (first | assumption | exact Ext.refl _ | refine Ext.trans ?_ (ext_grow _ _))))) | (go_at_call 22; with_reducible exact Calls.quietE (CU.out _ (by repeat (first | assumption | exact Ext.refl _ | refine Ext.trans ?_ (ext_grow _ _))))))); exact wpQuiet_nil rfl
      refine Dm.wpE_take (i := 9) (listed' := (Dm.bits 25 1023)) (by kernel_rfl) (by kernel_rfl) rfl (fun _ _ _ _ h => h) ?_; apply Exists.intro; refine And.intro (fun x => ?_) ?_
      · go_big_quiet_step ((first | (go_at_call 19; with_reducible exact Calls.quietE (CK.out _ (by repeat (first | assumption | exact Ext.refl _ | refine Ext.trans ?_ (ext_grow _ _))))) | (go_at_call 22; with_reducible exact Calls.quietE (CU.out _ (by repeat (first | assumption | exact Ext.refl _ | refine Ext.trans ?_ (ext_grow _ _))))))); exact wpQuiet_nil rfl
      refine Dm.wpE_take (i := 10) (listed' := (Dm.bits 25 2047)) (by kernel_rfl) (by kernel_rfl) rfl (fun _ _ _ _ h => h) ?_; apply Exists.intro; refine And.intro (fun x => ?_) ?_
      · go_big_quiet_step ((first | (go_at_call 19; with_reducible exact Calls.quietE (CK.out _ (by repeat (first | assumption | exact Ext.refl _ | refine Ext.trans ?_ (ext_grow _ _))))) | (go_at_call 22; with_reducible exact Calls.quietE (CU.out _ (by repeat (first | assumption | exact Ext.refl _ | refine Ext.trans ?_ (ext_grow _ _))))))); exact wpQuiet_nil rfl
      refine Dm.wpE_take (i := 11) (listed' := (Dm.bits 25 4095)) (by kernel_rfl) (by kernel_rfl) rfl (fun _ _ _ _ h => h) ?_; apply Exists.intro; refine And.intro (fun x => ?_) ?_
      · go_big_quiet_step ((first | (go_at_call 19; with_reducible exact Calls.quietE (CK.out _ (by repeat (first | assumption | exact Ext.refl _ | refine Ext.trans ?_ (ext_grow _ _))))) | (go_at_call 22; with_reducible exact Calls.quietE (CU.out _ (by repeat (first | assumption | exact Ext.refl _ | refine Ext.trans ?_ (ext_grow _ _))))))); exact wpQuiet_nil rfl
      refine Dm.wpE_take (i := 12) (listed' := (Dm.bits 25 8191)) (by kernel_rfl) (by kernel_rfl) rfl (fun _ _ _ _ h => h) ?_; apply Exists.intro; refine And.intro (fun x => ?_) ?_
      · go_big_quiet_step ((first | (go_at_call 19; with_reducible exact Calls.quietE (CK.out _ (by repeat (first | assumption | exact Ext.refl _ | refine Ext.trans ?_ (ext_grow _ _))))) | (go_at_call 22; with_reducible exact Calls.quietE (CU.out _ (by repeat (first | assumption | exact Ext.refl _ | refine Ext.trans ?_ (ext_grow _ _))))))); exact wpQuiet_nil rfl
      refine Dm.wpE_take (i := 13) (listed' := (Dm.bits 25 16383)) (by kernel_rfl) (by kernel_rfl) rfl (fun _ _ _ _ h => h) ?_; apply Exists.intro; refine And.intro (fun x => ?_) ?_
      · go_big_quiet_step ((first | (go_at_call 19; with_reducible exact Calls.quietE (CK.out _ (by repeat (first | assumption | exact Ext.refl _ | refine Ext.trans ?_ (ext_grow _ _))))) | (go_at_call 22; with_reducible exact Calls.quietE (CU.out _ (by repeat (first | assumption | exact Ext.refl _ | refine Ext.trans ?_ (ext_grow _ _))))))); exact wpQuiet_nil rfl
      refine Dm.wpE_take (i := 14) (listed' := (Dm.bits 25 32767)) (by kernel_rfl) (by kernel_rfl) rfl (fun _ _ _ _ h => h) ?_; apply Exists.intro; refine And.intro (fun x => ?_) ?_
      · go_big_quiet_step ((first | (go_at_call 19; with_reducible exact Calls.quietE (CK.out _ (by repeat (first | assumption | exact Ext.refl _ | refine Ext.trans ?_ (ext_grow _ _))))) | (go_at_call 22; with_reducible exact Calls.quietE (CU.out _ (by repeat (first | assumption | exact Ext.refl _ | refine Ext.trans ?_ (ext_grow _ _))))))); exact wpQuiet_nil rfl
      refine Dm.wpE_take (i := 15) (listed' := (Dm.bits 25 65535)) (by kernel_rfl) (by kernel_rfl) rfl (fun _ _ _ _ h => h) ?_; apply Exists.intro; refine And.intro (fun x => ?_) ?_
      · go_big_quiet_step ((first | (go_at_call 19; with_reducible exact Calls.quietE (CK.out _ (by repeat (first | assumption | exact Ext.refl _ | refine Ext.trans ?_ (ext_grow _ _))))) | (go_at_call 22; with_reducible exact Calls.quietE (CU.out _ (by repeat (first | assumption | exact Ext.refl _ | refine Ext.trans ?_ (ext_grow _ _))))))); exact wpQuiet_nil rfl
      refine Dm.wpE_take (i := 16) (listed' := (Dm.bits 25 131071)) (by kernel_rfl) (by kernel_rfl) rfl (fun _ _ _ _ h => h) ?_; apply Exists.intro; refine And.intro (fun x => ?_) ?_
      · go_big_quiet_step ((first | (go_at_call 19; with_reducible exact Calls.quietE (CK.out _ (by repeat (first | assumption | exact Ext.refl _ | refine Ext.trans ?_ (ext_grow _ _))))) | (go_at_call 22; with_reducible exact Calls.quietE (CU.out _ (by repeat (first | assumption | exact Ext.refl _ | refine Ext.trans ?_ (ext_grow _ _))))))); exact wpQuiet_nil rfl
      refine Dm.wpE_take (i := 17) (listed' := (Dm.bits 25 262143)) (by kernel_rfl) (by kernel_rfl) rfl (fun _ _ _ _ h => h) ?_; apply Exists.intro; refine And.intro (fun x => ?_) ?_
      · go_big_quiet_step ((first | (go_at_call 19; with_reducible exact Calls.quietE (CK.out _ (by repeat (first | assumption | exact Ext.refl _ | refine Ext.trans ?_ (ext_grow _ _))))) | (go_at_call 22; with_reducible exact Calls.quietE (CU.out _ (by repeat (first | assumption | exact Ext.refl _ | refine Ext.trans ?_ (ext_grow _ _))))))); exact wpQuiet_nil rfl
      refine Dm.wpE_take (i := 18) (listed' := (Dm.bits 25 524287)) (by kernel_rfl) (by kernel_rfl) rfl (fun _ _ _ _ h => h) ?_; apply Exists.intro; refine And.intro (fun x => ?_) ?_
      · go_big_quiet_step ((first | (go_at_call 19; with_reducible exact Calls.quietE (CK.out _ (by repeat (first | assumption | exact Ext.refl _ | refine Ext.trans ?_ (ext_grow _ _))))) | (go_at_call 22; with_reducible exact Calls.quietE (CU.out _ (by repeat (first | assumption | exact Ext.refl _ | refine Ext.trans ?_ (ext_grow _ _))))))); exact wpQuiet_nil rfl
      refine Dm.wpE_take (i := 19) (listed' := (Dm.bits 25 1048575)) (by kernel_rfl) (by kernel_rfl) rfl (fun _ _ _ _ h => h) ?_; apply Exists.intro; refine And.intro (fun x => ?_) ?_
      · go_big_quiet_step ((first | (go_at_call 19; with_reducible exact Calls.quietE (CK.out _ (by repeat (first | assumption | exact Ext.refl _ | refine Ext.trans ?_ (ext_grow _ _))))) | (go_at_call 22; with_reducible exact Calls.quietE (CU.out _ (by repeat (first | assumption | exact Ext.refl _ | refine Ext.trans ?_ (ext_grow _ _))))))); exact wpQuiet_nil rfl
      refine Dm.wpE_take (i := 20) (listed' := (Dm.bits 25 2097151)) (by kernel_rfl) (by kernel_rfl) rfl (fun _ _ _ _ h => h) ?_; apply Exists.intro; refine And.intro (fun x => ?_) ?_
      · go_big_quiet_step ((first | (go_at_call 19; with_reducible exact Calls.quietE (CK.out _ (by repeat (first | assumption | exact Ext.refl _ | refine Ext.trans ?_ (ext_grow _ _))))) | (go_at_call 22; with_reducible exact Calls.quietE (CU.out _ (by repeat (first | assumption | exact Ext.refl _ | refine Ext.trans ?_ (ext_grow _ _))))))); exact wpQuiet_nil rfl
      refine Dm.wpE_take (i := 21) (listed' := (Dm.bits 25 4194303)) (by kernel_rfl) (by kernel_rfl) rfl (fun _ _ _ _ h => h) ?_; apply Exists.intro; refine And.intro (fun x => ?_) ?_
      · go_big_quiet_step ((first | (go_at_call 19; with_reducible exact Calls.quietE (CK.out _ (by repeat (first | assumption | exact Ext.refl _ | refine Ext.trans ?_ (ext_grow _ _))))) | (go_at_call 22; with_reducible exact Calls.quietE (CU.out _ (by repeat (first | assumption | exact Ext.refl _ | refine Ext.trans ?_ (ext_grow _ _))))))); exact wpQuiet_nil rfl
      refine Dm.wpE_take (i := 22) (listed' := (Dm.bits 25 8388607)) (by kernel_rfl) (by kernel_rfl) rfl (fun _ _ _ _ h => h) ?_; apply Exists.intro; refine And.intro (fun x => ?_) ?_
      · go_big_quiet_step ((first | (go_at_call 19; with_reducible exact Calls.quietE (CK.out _ (by repeat (first | assumption | exact Ext.refl _ | refine Ext.trans ?_ (ext_grow _ _))))) | (go_at_call 22; with_reducible exact Calls.quietE (CU.out _ (by repeat (first | assumption | exact Ext.refl _ | refine Ext.trans ?_ (ext_grow _ _))))))); exact wpQuiet_nil rfl
      refine Dm.wpE_take (i := 23) (listed' := (Dm.bits 25 16777215)) (by kernel_rfl) (by kernel_rfl) rfl (fun _ _ _ _ h => h) ?_; apply Exists.intro; refine And.intro (fun x => ?_) ?_
      · go_big_quiet_step ((first | (go_at_call 19; with_reducible exact Calls.quietE (CK.out _ (by repeat (first | assumption | exact Ext.refl _ | refine Ext.trans ?_ (ext_grow _ _))))) | (go_at_call 22; with_reducible exact Calls.quietE (CU.out _ (by repeat (first | assumption | exact Ext.refl _ | refine Ext.trans ?_ (ext_grow _ _))))))); exact wpQuiet_nil rfl
      refine Dm.wpE_take (i := 24) (listed' := (Dm.bits 25 33554431)) (by kernel_rfl) (by kernel_rfl) rfl (fun _ _ _ _ h => h) ?_; apply Exists.intro; refine And.intro (fun x => ?_) ?_
      · go_big_quiet_step ((first | (go_at_call 19; with_reducible exact Calls.quietE (CK.out _ (by repeat (first | assumption | exact Ext.refl _ | refine Ext.trans ?_ (ext_grow _ _))))) | (go_at_call 22; with_reducible exact Calls.quietE (CU.out _ (by repeat (first | assumption | exact Ext.refl _ | refine Ext.trans ?_ (ext_grow _ _))))))); exact wpQuiet_nil rfl
      refine Dm.wpE_done (by kernel_rfl) (Ext.refl w5) (fun w1a hx1a => ?_)
      have hX1a := Ext.trans (Ext.refl w5) hx1a
      go_wp2_with fail
      go_meet
      case rel => exact ⟨rfl, hX1a⟩
    | false =>
      try simp only [Act.put, List.setIfInBounds_toArray, List.set_cons_succ, List.set_cons_zero]
      refine Dm.wp_region_ext 25 (Dm.bits 25 0) (Ext.refl w5) (by kernel_rfl) (by kernel_rfl) (by kernel_rfl) ?_
      refine Dm.wpE_take (i := 0) (listed' := (Dm.bits 25 1)) (by kernel_rfl) (by kernel_rfl) rfl (fun _ _ _ _ h => h) ?_; apply Exists.intro; refine And.intro (fun x => ?_) ?_
      · go_big_quiet_step (fail); exact wpQuiet_nil rfl
      refine Dm.wpE_take (i := 1) (listed' := (Dm.bits 25 3)) (by kernel_rfl) (by kernel_rfl) rfl (fun _ _ _ _ h => h) ?_; apply Exists.intro; refine And.intro (fun x => ?_) ?_
      · go_big_quiet_step (fail); exact wpQuiet_nil rfl
      refine Dm.wpE_take (i := 2) (listed' := (Dm.bits 25 7)) (by kernel_rfl) (by kernel_rfl) rfl (fun _ _ _ _ h => h) ?_; apply Exists.intro; refine And.intro (fun x => ?_) ?_
      · go_big_quiet_skip; exact wpQuiet_nil rfl
      refine Dm.wpE_take (i := 3) (listed' := (Dm.bits 25 15)) (by kernel_rfl) (by kernel_rfl) rfl (fun _ _ _ _ h => h) ?_; apply Exists.intro; refine And.intro (fun x => ?_) ?_
      · go_big_quiet_skip; exact wpQuiet_nil rfl
      refine Dm.wpE_take (i := 4) (listed' := (Dm.bits 25 31)) (by kernel_rfl) (by kernel_rfl) rfl (fun _ _ _ _ h => h) ?_; apply Exists.intro; refine And.intro (fun x => ?_) ?_
      · go_big_quiet_skip; exact wpQuiet_nil rfl
      refine Dm.wpE_take (i := 5) (listed' := (Dm.bits 25 63)) (by kernel_rfl) (by kernel_rfl) rfl (fun _ _ _ _ h => h) ?_; apply Exists.intro; refine And.intro (fun x => ?_) ?_
      · go_big_quiet_skip; exact wpQuiet_nil rfl
      refine Dm.wpE_take (i := 6) (listed' := (Dm.bits 25 127)) (by kernel_rfl) (by kernel_rfl) rfl (fun _ _ _ _ h => h) ?_; apply Exists.intro; refine And.intro (fun x => ?_) ?_
      · go_big_quiet_skip; exact wpQuiet_nil rfl
      refine Dm.wpE_take (i := 7) (listed' := (Dm.bits 25 255)) (by kernel_rfl) (by kernel_rfl) rfl (fun _ _ _ _ h => h) ?_; apply Exists.intro; refine And.intro (fun x => ?_) ?_
      · go_big_quiet_skip; exact wpQuiet_nil rfl
      refine Dm.wpE_take (i := 8) (listed' := (Dm.bits 25 511)) (by kernel_rfl) (by kernel_rfl) rfl (fun _ _ _ _ h => h) ?_; apply Exists.intro; refine And.intro (fun x => ?_) ?_
      · go_big_quiet_skip; exact wpQuiet_nil rfl
      refine Dm.wpE_take (i := 9) (listed' := (Dm.bits 25 1023)) (by kernel_rfl) (by kernel_rfl) rfl (fun _ _ _ _ h => h) ?_; apply Exists.intro; refine And.intro (fun x => ?_) ?_
      · go_big_quiet_skip; exact wpQuiet_nil rfl
      refine Dm.wpE_take (i := 10) (listed' := (Dm.bits 25 2047)) (by kernel_rfl) (by kernel_rfl) rfl (fun _ _ _ _ h => h) ?_; apply Exists.intro; refine And.intro (fun x => ?_) ?_
      · go_big_quiet_skip; exact wpQuiet_nil rfl
      refine Dm.wpE_take (i := 11) (listed' := (Dm.bits 25 4095)) (by kernel_rfl) (by kernel_rfl) rfl (fun _ _ _ _ h => h) ?_; apply Exists.intro; refine And.intro (fun x => ?_) ?_
      · go_big_quiet_skip; exact wpQuiet_nil rfl
      refine Dm.wpE_take (i := 12) (listed' := (Dm.bits 25 8191)) (by kernel_rfl) (by kernel_rfl) rfl (fun _ _ _ _ h => h) ?_; apply Exists.intro; refine And.intro (fun x => ?_) ?_
      · go_big_quiet_skip; exact wpQuiet_nil rfl
      refine Dm.wpE_take (i := 13) (listed' := (Dm.bits 25 16383)) (by kernel_rfl) (by kernel_rfl) rfl (fun _ _ _ _ h => h) ?_; apply Exists.intro; refine And.intro (fun x => ?_) ?_
      · go_big_quiet_skip; exact wpQuiet_nil rfl
      refine Dm.wpE_take (i := 14) (listed' := (Dm.bits 25 32767)) (by kernel_rfl) (by kernel_rfl) rfl (fun _ _ _ _ h => h) ?_; apply Exists.intro; refine And.intro (fun x => ?_) ?_
      · go_big_quiet_skip; exact wpQuiet_nil rfl
      refine Dm.wpE_take (i := 15) (listed' := (Dm.bits 25 65535)) (by kernel_rfl) (by kernel_rfl) rfl (fun _ _ _ _ h => h) ?_; apply Exists.intro; refine And.intro (fun x => ?_) ?_
      · go_big_quiet_skip; exact wpQuiet_nil rfl
      refine Dm.wpE_take (i := 16) (listed' := (Dm.bits 25 131071)) (by kernel_rfl) (by kernel_rfl) rfl (fun _ _ _ _ h => h) ?_; apply Exists.intro; refine And.intro (fun x => ?_) ?_
      · go_big_quiet_skip; exact wpQuiet_nil rfl
      refine Dm.wpE_take (i := 17) (listed' := (Dm.bits 25 262143)) (by kernel_rfl) (by kernel_rfl) rfl (fun _ _ _ _ h => h) ?_; apply Exists.intro; refine And.intro (fun x => ?_) ?_
      · go_big_quiet_skip; exact wpQuiet_nil rfl
      refine Dm.wpE_take (i := 18) (listed' := (Dm.bits 25 524287)) (by kernel_rfl) (by kernel_rfl) rfl (fun _ _ _ _ h => h) ?_; apply Exists.intro; refine And.intro (fun x => ?_) ?_
      · go_big_quiet_skip; exact wpQuiet_nil rfl
      refine Dm.wpE_take (i := 19) (listed' := (Dm.bits 25 1048575)) (by kernel_rfl) (by kernel_rfl) rfl (fun _ _ _ _ h => h) ?_; apply Exists.intro; refine And.intro (fun x => ?_) ?_
      · go_big_quiet_skip; exact wpQuiet_nil rfl
      refine Dm.wpE_take (i := 20) (listed' := (Dm.bits 25 2097151)) (by kernel_rfl) (by kernel_rfl) rfl (fun _ _ _ _ h => h) ?_; apply Exists.intro; refine And.intro (fun x => ?_) ?_
      · go_big_quiet_skip; exact wpQuiet_nil rfl
      refine Dm.wpE_take (i := 21) (listed' := (Dm.bits 25 4194303)) (by kernel_rfl) (by kernel_rfl) rfl (fun _ _ _ _ h => h) ?_; apply Exists.intro; refine And.intro (fun x => ?_) ?_
      · go_big_quiet_skip; exact wpQuiet_nil rfl
      refine Dm.wpE_take (i := 22) (listed' := (Dm.bits 25 8388607)) (by kernel_rfl) (by kernel_rfl) rfl (fun _ _ _ _ h => h) ?_; apply Exists.intro; refine And.intro (fun x => ?_) ?_
      · go_big_quiet_skip; exact wpQuiet_nil rfl
      refine Dm.wpE_take (i := 23) (listed' := (Dm.bits 25 16777215)) (by kernel_rfl) (by kernel_rfl) rfl (fun _ _ _ _ h => h) ?_; apply Exists.intro; refine And.intro (fun x => ?_) ?_
      · go_big_quiet_skip; exact wpQuiet_nil rfl
      refine Dm.wpE_take (i := 24) (listed' := (Dm.bits 25 33554431)) (by kernel_rfl) (by kernel_rfl) rfl (fun _ _ _ _ h => h) ?_; apply Exists.intro; refine And.intro (fun x => ?_) ?_
      · go_big_quiet_step (fail); exact wpQuiet_nil rfl
      refine Dm.wpE_done (by kernel_rfl) (Ext.refl w5) (fun w1a hx1a => ?_)
      have hX1a := Ext.trans (Ext.refl w5) hx1a
      go_wp2_with fail
      go_meet
      case rel => exact ⟨rfl, hX1a⟩
  case rest =>
    obtain ⟨rfl, h6⟩ := hcut
    generalize wc = w6 at *
    replace hE := hE.trans h6
    replace bY := bY.ext h6
    replace hy2 := hy2.ext h6
    clear h6 bX hy1 hf1 hl1 hT1 ho1 F1
    cases pk with
    | false =>
      have F5 : (s2, d2, n2, T2) = noSp := F4.out rfl
      have CS := fun U (h : Ext w6 U) => xsame_w s2 d2 n2 (.slice q2 R2.length c2) R2 ⟨#[]⟩ noV (0, 0, 0) (.slice none 0 0) [] U ho2 okV_no (by omega) hf2 (hy2.ext h) (Terms.nil U)
      rw [hT2.out, F5, show sameX noSp ((⟨#[]⟩ : ByteArray), noV, ((0 : Int), (0 : Int), (0 : Int)), List.map rowT []) = true from sameX_iff.2 rfl, hD2.out] at CS
      unfold spVal at CS
      change ∀ U, Ext w6 U → Calls Tryz.prog _ #[_, .agg #[.string ⟨#[]⟩, .int .u64 0, .int .u64 0, .int .u64 0, .int .u64 0, .int .i64 0, .int .i64 0, .int .i64 0, .slice none 0 0]] U _ at CS
      replace CS := Lib.hid CS
      clear F5
      obtain ⟨xl, x0, x1, x2, x3, x4, x5, x6, x7, x8⟩ := bY.cells
      cases ok with
      | true =>
        go_wp2_with fail
        refine (CS.out _ (Ext.refl _)).mono ?_; rintro e w7 ⟨rfl, h7⟩
        go_wp2
        go_ret
        exact ⟨rfl, hE.trans h7⟩
      | false =>
        obtain rfl := F2.out rfl
        go_wp2_with fail
        refine (CS.out _ (Ext.refl _)).mono ?_; rintro e w7 ⟨rfl, h7⟩
        go_wp2
        go_ret
        exact ⟨rfl, hE.trans h7⟩
    | true =>
      obtain ⟨hc, h6, htx⟩ := F3.out rfl
      have hU98 := (under_short (chkX_iff.1 hc).1).1
      have hs2 : s2.size ≤ 98 := hU98
      have CK := fun U (h : Ext w6 U) => xcheck_w s2 d2 n2 (.slice q2 R2.length c2) R2 U (by omega) ho2 (by omega) hf2 (hy2.ext h) (ht.ext (hE.trans h))
      have CT := fun U (h : Ext w6 U) => xtext_w s2 d2 n2 (.slice q2 R2.length c2) R2 U (by omega) ho2 (by omega) hf2 (hy2.ext h) (ht.ext (hE.trans h)) (hv.ext (hE.trans h)).tab
      rw [hT2.out, hc, hD2.out] at CK
      rw [hT2.out, htx, hD2.out] at CT
      unfold spVal at CK CT
      have hbl : (bytesOf ws).length = 6 := by simp [bytesOf, h6]
      have hW := fun k (hk : k < 6) => wordAt_bytes (ws := ws) (k := k) (by omega)
      have hsz := fun k (hk : k < 6) => hm.2 _ (strAt_mem (show k < ws.length by omega))
      have hx0 := Lib.hid hx
      generalize bytesOf ws = B at *
      clear hc htx hU98 hs2
      replace CK := Lib.hid CK
      replace CT := Lib.hid CT
      replace hbl := Lib.hid hbl
      replace hW := Lib.hid hW
      replace hsz := Lib.hid hsz
      go_wp2
      go_loopw [13, 14] (fun t i wr => ∃ (k : Nat) (b : ByteArray), k ≤ 6 ∧ i = .int .i64 k ∧ t = .string b ∧ wr = w6 ∧ b.size ≤ k * 1048577 ∧ Hid (b.data.toList = Lib.join (B.take k) [32])) (fun _ i _ => 6 - (intOf i).toNat)
      case atStart => exact ⟨0, ⟨#[]⟩, by omega, rfl, rfl, rfl, (by show (0 : Nat) ≤ _; omega), rfl⟩
      case round =>
        obtain ⟨k, b, hk, rfl, rfl, rfl, hbs, hb⟩ := hrel
        by_cases hlt : k < 6
        · have hc0 := hx0.out.ext hE
          obtain ⟨bb, off, rfl, hbl2, c0⟩ := hc0.at (k := k) (by omega)
          have hw := hW.out k hlt
          have hz := hsz.out k hlt
          generalize strAt ws k = t at *
          by_cases h0 : k = 0
          · subst h0
            have hnx : Hid ((b ++ t).data.toList = Lib.join (B.take 1) [32]) := by
              show _ = _
              rw [data_append, hb.out, join_step0 (by have := hbl.out; omega), hw]; rfl
            have hsn : (b ++ t).size ≤ 1 * 1048577 := by rw [ByteArray.size_append]; omega
            rw [Nat.add_zero] at c0
            clear hw
            go_wp2
            go_roundw
            case rel => exact ⟨1, b ++ t, by omega, (by first | rfl | trivial), (by first | rfl | trivial), (by first | rfl | trivial), hsn, hnx⟩
            case measure => simp [intOf]
          · have hnx : Hid (((b ++ ⟨#[32]⟩) ++ t).data.toList = Lib.join (B.take (k + 1)) [32]) := by
              show _ = _
              rw [data_append, data_append, hb.out, join_step h0 (by have := hbl.out; omega), hw, List.append_assoc]; rfl
            have hsn : ((b ++ ⟨#[32]⟩) ++ t).size ≤ (k + 1) * 1048577 := by
              rw [ByteArray.size_append, ByteArray.size_append]
              have : (⟨#[32]⟩ : ByteArray).size = 1 := rfl
              omega
            have hk0 : 0 < k := by omega
            have hbx : b.size ≤ 6291462 := by omega
            clear hw
            go_wp2
            go_roundw
            case rel => exact ⟨k + 1, (b ++ ⟨#[32]⟩) ++ t, by omega, by go_num, (by first | rfl | trivial), (by first | rfl | trivial), hsn, hnx⟩
            case measure => simp [intOf]; omega
        · obtain rfl : k = 6 := by omega
          have hbt : b = ⟨(Lib.join B [32]).toArray⟩ := mk_bytes (by rw [hb.out, List.take_of_length_le (by have := hbl.out; omega)])
          rw [← hbt] at CT
          clear hbt
          obtain ⟨xl, x0, x1, x2, x3, x4, x5, x6, x7, x8⟩ := bY.cells
          go_wp2_with fail
          refine (CK.out _ (Ext.refl _)).mono ?_; rintro e w7 ⟨rfl, h7⟩
          clear xl x0 x1 x2 x3 x4 x5 x6 x7 x8
          replace bY := bY.ext h7
          obtain ⟨xl, x0, x1, x2, x3, x4, x5, x6, x7, x8⟩ := bY.cells
          go_wp2_with fail
          refine (CT.out _ h7).mono ?_; rintro e w8 ⟨rfl, h8⟩
          go_wp2
          go_ret
          exact ⟨rfl, (hE.trans h7).trans h8⟩
end Go.Proofs.YthmhalcloogniaaGreatDoor
