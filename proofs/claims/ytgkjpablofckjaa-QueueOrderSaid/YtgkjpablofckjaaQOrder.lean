/- QueueOrder holds: to be ahead is an order of unlike ones, and who is ahead stands ahead; no condition. -/
import Derived.Test.YtgkjpablofckjaaQRight
namespace Go.Proofs.Ytgkjpablofckjaa
open Go.RowKit Go.Dm

theorem boxes3 {w w' : World} (a b c : Ent) (t : TypeId) (h : Ext (((w.alloc (.cells #[.int .u64 a.1, .int .i64 a.2] t)).alloc (.cells #[.int .u64 b.1, .int .i64 b.2] t)).alloc (.cells #[.int .u64 c.1, .int .i64 c.2] t)) w') :
    w.heap.size + 1 + 1 < w'.heap.size ∧ w'.cell? ⟨w.heap.size, 0, none⟩ = some (.int .u64 a.1) ∧ w'.cell? ⟨w.heap.size, 1, none⟩ = some (.int .i64 a.2) ∧
      w'.cell? ⟨w.heap.size + 1, 0, none⟩ = some (.int .u64 b.1) ∧ w'.cell? ⟨w.heap.size + 1, 1, none⟩ = some (.int .i64 b.2) ∧
      w'.cell? ⟨w.heap.size + 1 + 1, 0, none⟩ = some (.int .u64 c.1) ∧ w'.cell? ⟨w.heap.size + 1 + 1, 1, none⟩ = some (.int .i64 c.2) := by
  have hB := Ext.trans ((Ext.refl _).alloc _) h
  have hA := Ext.trans ((Ext.refl _).alloc _) hB
  obtain ⟨gs, g⟩ := hA.box
  obtain ⟨gs', g'⟩ := hB.box
  obtain ⟨gs'', g''⟩ := h.box
  simp only [World.size_alloc] at gs' g' gs'' g''
  exact ⟨gs'', g 0 _ rfl, g 1 _ rfl, g' 0 _ rfl, g' 1 _ rfl, g'' 0 _ rfl, g'' 1 _ rfl⟩

set_option maxHeartbeats 4000000 in
set_option maxRecDepth 100000 in
theorem orderLaw_w (l : List Ent) (a b c : Ent) (v : Value) (w : World) (hm : l.length ≤ 8796093022208) (hx : Ents w v l) :
    Calls Try.prog 5 #[v, .agg #[.int .u64 a.1, .int .i64 a.2], .agg #[.int .u64 b.1, .int .i64 b.2], .agg #[.int .u64 c.1, .int .i64 c.2]] w fun e w' => e = .returned (.bool true) ∧ Ext w w' := by
  obtain ⟨q, cap, rfl, hcap, hcm⟩ := hx.shape
  have H0 := Lib.hid (pushedF_good l)
  have hl0 := H0.out.len
  have hb0 : Ext w (((w.alloc (.cells #[.int .u64 a.1, .int .i64 a.2] 25)).alloc (.cells #[.int .u64 b.1, .int .i64 b.2] 25)).alloc (.cells #[.int .u64 c.1, .int .i64 c.2] 25)) := (((Ext.refl w).alloc _).alloc _).alloc _
  go_enter Try.func5, Try.ntmps5
  go_wp2_with fail
  refine (examples_w _).mono ?_; rintro e w1 ⟨rfl, hb1⟩
  go_wp2_with fail
  refine (pushed_w l _ _ hm (hx.ext (hb0.trans hb1))).mono ?_; rintro e w2 ⟨r, rfl, hr2, hb2⟩
  have hC : Ext (((w.alloc (.cells #[.int .u64 a.1, .int .i64 a.2] 25)).alloc (.cells #[.int .u64 b.1, .int .i64 b.2] 25)).alloc (.cells #[.int .u64 c.1, .int .i64 c.2] 25)) w2 := hb1.trans hb2
  have hB : Ext ((w.alloc (.cells #[.int .u64 a.1, .int .i64 a.2] 25)).alloc (.cells #[.int .u64 b.1, .int .i64 b.2] 25)) w2 := Ext.trans ((Ext.refl _).alloc _) hC
  have hA : Ext (w.alloc (.cells #[.int .u64 a.1, .int .i64 a.2] 25)) w2 := Ext.trans ((Ext.refl _).alloc _) hB
  have hw := hb0.trans hC
  clear hb1 hb2 hb0
  obtain ⟨Q, hQ⟩ : ∃ Q, Q = pushedF l := ⟨_, rfl⟩
  rw [← hQ] at hr2 H0 hl0
  clear hQ
  obtain ⟨rq, rcap, rfl, hrcap, hrcm⟩ := hr2.shape
  go_wp2
  go_loopw [11] (fun i' wr => ∃ i : Nat, i ≤ Q.length ∧ i' = .int .i64 i ∧ Ext w2 wr) (fun i' _ => Q.length - (intOf i').toNat)
  case atStart => exact ⟨0, by omega, rfl, Ext.refl _⟩
  case round =>
    obtain ⟨i, hi, rfl, hbi⟩ := hrel
    obtain ⟨wo, rfl⟩ : ∃ wo : World, wo = wr := ⟨_, rfl⟩
    by_cases hlt : i < Q.length
    · go_wp2
      go_loopw [12] (fun k' wk => ∃ k : Nat, k ≤ Q.length ∧ k' = .int .i64 k ∧ Ext w2 wk) (fun k' _ => Q.length - (intOf k').toNat)
      case atStart => exact ⟨0, by omega, rfl, hbi⟩
      case round =>
        obtain ⟨k, hk, rfl, hbk⟩ := hrel
        by_cases hkt : k < Q.length
        · have hxr := hr2.ext hbk
          obtain ⟨b', off, rfl, hbl, c0, c1⟩ := hxr.at hlt
          obtain ⟨_, d0, d1⟩ := hxr.cells hkt
          have C1 : Hid (∀ U, Calls Try.prog 20 #[.agg #[.int .u64 (ent Q i).1, .int .i64 (ent Q i).2], .agg #[.int .u64 (ent Q k).1, .int .i64 (ent Q k).2]] U fun e w' => e = .returned (.bool (decide (i < k))) ∧ Ext U w') := fun U => by
            have := ahead_w (ent Q i).1 (ent Q i).2 (ent Q k).1 (ent Q k).2 U
            rwa [show aheadB ((ent Q i).1, (ent Q i).2) ((ent Q k).1, (ent Q k).2) = decide (i < k) from H0.out.order_at hlt hkt] at this
          by_cases hik : i < k
          · rw [decide_eq_true hik] at C1
            go_wp2_with fail
            refine Dm.wp_region_grow (by kernel_rfl) (by kernel_rfl) ?_
            repeat (go_big_quiet_step ((go_at_call 20; exact Calls.quietE (C1.out _))))
            refine wpQuiet_nil ?_
            intro W hW'
            go_wp2
            go_roundw
            case rel => exact ⟨k + 1, by omega, by go_num, hbk.trans hW'⟩
            case measure => simp [intOf]; omega
          · rw [decide_eq_false hik] at C1
            go_wp2_with fail
            refine Dm.wp_region_grow (by kernel_rfl) (by kernel_rfl) ?_
            repeat (go_big_quiet_step ((go_at_call 20; exact Calls.quietE (C1.out _))))
            refine wpQuiet_nil ?_
            intro W hW'
            go_wp2
            go_roundw
            case rel => exact ⟨k + 1, by omega, by go_num, hbk.trans hW'⟩
            case measure => simp [intOf]; omega
        · go_wp2
          go_roundw
          case rel => exact ⟨i + 1, by omega, by go_num, hbk⟩
          case measure => simp [intOf]; omega
    · have C : Hid (∀ (x y : Ent) U, Calls Try.prog 20 #[.agg #[.int .u64 x.1, .int .i64 x.2], .agg #[.int .u64 y.1, .int .i64 y.2]] U fun e w' => e = .returned (.bool (aheadB x y)) ∧ Ext U w') := fun x y U => by
        have := ahead_w x.1 x.2 y.1 y.2 U
        exact this
      obtain ⟨gs, g0, g1, g2, g3, g4, g5⟩ := boxes3 a b c _ (hC.trans hbi)
      have CAA : Hid (∀ U, Calls Try.prog 20 #[.agg #[.int .u64 a.1, .int .i64 a.2], .agg #[.int .u64 a.1, .int .i64 a.2]] U fun e w' => e = .returned (.bool (aheadB a a)) ∧ Ext U w') := fun U => C.out a a U
      have CAB : Hid (∀ U, Calls Try.prog 20 #[.agg #[.int .u64 a.1, .int .i64 a.2], .agg #[.int .u64 b.1, .int .i64 b.2]] U fun e w' => e = .returned (.bool (aheadB a b)) ∧ Ext U w') := fun U => C.out a b U
      have CBA : Hid (∀ U, Calls Try.prog 20 #[.agg #[.int .u64 b.1, .int .i64 b.2], .agg #[.int .u64 a.1, .int .i64 a.2]] U fun e w' => e = .returned (.bool (aheadB b a)) ∧ Ext U w') := fun U => C.out b a U
      have CBC : Hid (∀ U, Calls Try.prog 20 #[.agg #[.int .u64 b.1, .int .i64 b.2], .agg #[.int .u64 c.1, .int .i64 c.2]] U fun e w' => e = .returned (.bool (aheadB b c)) ∧ Ext U w') := fun U => C.out b c U
      have CAC : Hid (∀ U, Calls Try.prog 20 #[.agg #[.int .u64 a.1, .int .i64 a.2], .agg #[.int .u64 c.1, .int .i64 c.2]] U fun e w' => e = .returned (.bool (aheadB a c)) ∧ Ext U w') := fun U => C.out a c U
      rw [ahead_irrefl a] at CAA
      cases h1 : aheadB a b with
      | true =>
        rw [ahead_asymm h1] at CBA
        rw [h1] at CAB
        cases h3 : aheadB b c with
        | true =>
          rw [h3] at CBC
          rw [ahead_trans h1 h3] at CAC
          go_wp2_with fail
          refine (CAA.out _).mono ?_; rintro e y0 ⟨rfl, h_0⟩
          have x0 := hbi.trans h_0
          clear gs g0 g1 g2 g3 g4 g5
          obtain ⟨gs, g0, g1, g2, g3, g4, g5⟩ := boxes3 _ _ _ _ (hC.trans x0)
          go_wp2_with fail
          refine (CAB.out _).mono ?_; rintro e y1 ⟨rfl, h_1⟩
          have x1 := x0.trans h_1
          clear gs g0 g1 g2 g3 g4 g5
          obtain ⟨gs, g0, g1, g2, g3, g4, g5⟩ := boxes3 _ _ _ _ (hC.trans x1)
          go_wp2_with fail
          refine (CBA.out _).mono ?_; rintro e y2 ⟨rfl, h_2⟩
          have x2 := x1.trans h_2
          clear gs g0 g1 g2 g3 g4 g5
          obtain ⟨gs, g0, g1, g2, g3, g4, g5⟩ := boxes3 _ _ _ _ (hC.trans x2)
          go_wp2_with fail
          refine (CAB.out _).mono ?_; rintro e y3 ⟨rfl, h_3⟩
          have x3 := x2.trans h_3
          clear gs g0 g1 g2 g3 g4 g5
          obtain ⟨gs, g0, g1, g2, g3, g4, g5⟩ := boxes3 _ _ _ _ (hC.trans x3)
          go_wp2_with fail
          refine (CAB.out _).mono ?_; rintro e y4 ⟨rfl, h_4⟩
          have x4 := x3.trans h_4
          clear gs g0 g1 g2 g3 g4 g5
          obtain ⟨gs, g0, g1, g2, g3, g4, g5⟩ := boxes3 _ _ _ _ (hC.trans x4)
          go_wp2_with fail
          refine (CBC.out _).mono ?_; rintro e y5 ⟨rfl, h_5⟩
          have x5 := x4.trans h_5
          clear gs g0 g1 g2 g3 g4 g5
          obtain ⟨gs, g0, g1, g2, g3, g4, g5⟩ := boxes3 _ _ _ _ (hC.trans x5)
          go_wp2_with fail
          refine (CAC.out _).mono ?_; rintro e y6 ⟨rfl, h_6⟩
          have x6 := x5.trans h_6
          clear gs g0 g1 g2 g3 g4 g5
          obtain ⟨gs, g0, g1, g2, g3, g4, g5⟩ := boxes3 _ _ _ _ (hC.trans x6)
          go_wp2
          go_ret
          exact ⟨rfl, hw.trans x6⟩
        | false =>
          rw [h3] at CBC
          go_wp2_with fail
          refine (CAA.out _).mono ?_; rintro e y0 ⟨rfl, h_0⟩
          have x0 := hbi.trans h_0
          clear gs g0 g1 g2 g3 g4 g5
          obtain ⟨gs, g0, g1, g2, g3, g4, g5⟩ := boxes3 _ _ _ _ (hC.trans x0)
          go_wp2_with fail
          refine (CAB.out _).mono ?_; rintro e y1 ⟨rfl, h_1⟩
          have x1 := x0.trans h_1
          clear gs g0 g1 g2 g3 g4 g5
          obtain ⟨gs, g0, g1, g2, g3, g4, g5⟩ := boxes3 _ _ _ _ (hC.trans x1)
          go_wp2_with fail
          refine (CBA.out _).mono ?_; rintro e y2 ⟨rfl, h_2⟩
          have x2 := x1.trans h_2
          clear gs g0 g1 g2 g3 g4 g5
          obtain ⟨gs, g0, g1, g2, g3, g4, g5⟩ := boxes3 _ _ _ _ (hC.trans x2)
          go_wp2_with fail
          refine (CAB.out _).mono ?_; rintro e y3 ⟨rfl, h_3⟩
          have x3 := x2.trans h_3
          clear gs g0 g1 g2 g3 g4 g5
          obtain ⟨gs, g0, g1, g2, g3, g4, g5⟩ := boxes3 _ _ _ _ (hC.trans x3)
          go_wp2_with fail
          refine (CAB.out _).mono ?_; rintro e y4 ⟨rfl, h_4⟩
          have x4 := x3.trans h_4
          clear gs g0 g1 g2 g3 g4 g5
          obtain ⟨gs, g0, g1, g2, g3, g4, g5⟩ := boxes3 _ _ _ _ (hC.trans x4)
          go_wp2_with fail
          refine (CBC.out _).mono ?_; rintro e y5 ⟨rfl, h_5⟩
          have x5 := x4.trans h_5
          clear gs g0 g1 g2 g3 g4 g5
          obtain ⟨gs, g0, g1, g2, g3, g4, g5⟩ := boxes3 _ _ _ _ (hC.trans x5)
          go_wp2
          go_ret
          exact ⟨rfl, hw.trans x5⟩
      | false =>
        cases h2 : aheadB b a with
        | true =>
          rw [h1] at CAB
          rw [h2] at CBA
          go_wp2_with fail
          refine (CAA.out _).mono ?_; rintro e y0 ⟨rfl, h_0⟩
          have x0 := hbi.trans h_0
          clear gs g0 g1 g2 g3 g4 g5
          obtain ⟨gs, g0, g1, g2, g3, g4, g5⟩ := boxes3 _ _ _ _ (hC.trans x0)
          go_wp2_with fail
          refine (CAB.out _).mono ?_; rintro e y1 ⟨rfl, h_1⟩
          have x1 := x0.trans h_1
          clear gs g0 g1 g2 g3 g4 g5
          obtain ⟨gs, g0, g1, g2, g3, g4, g5⟩ := boxes3 _ _ _ _ (hC.trans x1)
          go_wp2_with fail
          refine (CAB.out _).mono ?_; rintro e y2 ⟨rfl, h_2⟩
          have x2 := x1.trans h_2
          clear gs g0 g1 g2 g3 g4 g5
          obtain ⟨gs, g0, g1, g2, g3, g4, g5⟩ := boxes3 _ _ _ _ (hC.trans x2)
          go_wp2_with fail
          refine (CBA.out _).mono ?_; rintro e y3 ⟨rfl, h_3⟩
          have x3 := x2.trans h_3
          clear gs g0 g1 g2 g3 g4 g5
          obtain ⟨gs, g0, g1, g2, g3, g4, g5⟩ := boxes3 _ _ _ _ (hC.trans x3)
          go_wp2_with fail
          refine (CAB.out _).mono ?_; rintro e y4 ⟨rfl, h_4⟩
          have x4 := x3.trans h_4
          clear gs g0 g1 g2 g3 g4 g5
          obtain ⟨gs, g0, g1, g2, g3, g4, g5⟩ := boxes3 _ _ _ _ (hC.trans x4)
          go_wp2
          go_ret
          exact ⟨rfl, hw.trans x4⟩
        | false =>
          have h5 : a = b := by
            rcases ahead_unlike a b with h | h | h
            · rw [h] at h1; cases h1
            · rw [h] at h2; cases h2
            · exact h
          rw [h1] at CAB
          rw [h2] at CBA
          subst h5
          go_wp2_with fail
          refine (CAA.out _).mono ?_; rintro e y0 ⟨rfl, h_0⟩
          have x0 := hbi.trans h_0
          clear gs g0 g1 g2 g3 g4 g5
          obtain ⟨gs, g0, g1, g2, g3, g4, g5⟩ := boxes3 _ _ _ _ (hC.trans x0)
          go_wp2_with fail
          refine (CAB.out _).mono ?_; rintro e y1 ⟨rfl, h_1⟩
          have x1 := x0.trans h_1
          clear gs g0 g1 g2 g3 g4 g5
          obtain ⟨gs, g0, g1, g2, g3, g4, g5⟩ := boxes3 _ _ _ _ (hC.trans x1)
          go_wp2_with fail
          refine (CAB.out _).mono ?_; rintro e y2 ⟨rfl, h_2⟩
          have x2 := x1.trans h_2
          clear gs g0 g1 g2 g3 g4 g5
          obtain ⟨gs, g0, g1, g2, g3, g4, g5⟩ := boxes3 _ _ _ _ (hC.trans x2)
          go_wp2_with fail
          refine (CBA.out _).mono ?_; rintro e y3 ⟨rfl, h_3⟩
          have x3 := x2.trans h_3
          clear gs g0 g1 g2 g3 g4 g5
          obtain ⟨gs, g0, g1, g2, g3, g4, g5⟩ := boxes3 _ _ _ _ (hC.trans x3)
          go_wp2_with fail
          refine (CAB.out _).mono ?_; rintro e y4 ⟨rfl, h_4⟩
          have x4 := x3.trans h_4
          clear gs g0 g1 g2 g3 g4 g5
          obtain ⟨gs, g0, g1, g2, g3, g4, g5⟩ := boxes3 _ _ _ _ (hC.trans x4)
          go_wp2
          go_ret
          exact ⟨rfl, hw.trans x4⟩


open Go.ChangeShapes Go.WideShapes Go.ChangeAt in
set_option maxRecDepth 100000 in
theorem queueOrder_lifted (os : Os) (started : os.Started) (H : Type) (enc : TypeId × Value → H) :
    ReturnsInHanded {} Try.checked os 5 .any (Rows.queueOrderSpec.pre6 enc Try.prog Try.f5 Rows.queueOrderRow.domain false) (Rows.queueOrderSpec.post enc Try.prog Try.f5 false true false false) := by
  refine returnsInHanded_of_change_sized (C := Try.checked) Try.own started (by kernel_rfl) Try.func5
    (ChangeSpec.witness6 (enc := enc) (C := Try.checked) false ⟨#[], #[.slice none 0 0, .agg #[.int .u64 0, .int .i64 0], .agg #[.int .u64 0, .int .i64 0], .agg #[.int .u64 0, .int .i64 0]], []⟩ 8 (by kernel_rfl) (by kernel_rfl) (by kernel_rfl) (by kernel_rfl)) ?_
  intro W base args ds gs before hval0 hW hcnd hsz0 _
  have hsz : (DataW.weightsEach Try.prog (Try.f5.params.toList ++ Rows.queueOrderSpec.plain.varTypes Try.prog) (ds ++ gs)).all (· ≤ reachBytes) = true := hsz0
  clear hsz0
  have hval : ∀ (j : Nat) t v, Try.f5.params[j]? = some t → args[j]? = some v → Value.okWide Try.prog W .any base t v := hval0
  have hW' := hW
  obtain ⟨p, q, hA0, hV, rfl, hfz, hnd⟩ := hW
  have hA : DataW.TrodAll enc Try.prog W 0 (fun _ => true) true Try.f5.params.toList args.toList ds p := hA0
  rw [Try.params5] at hA hval hsz
  obtain ⟨v0, vs0, d0, ds0, p0, q0, hargs, rfl, rfl, h0, r0⟩ := trodAll_cons hA
  obtain ⟨v1, vs1, d1, ds1, p1, q1, rfl, rfl, rfl, h1, r1⟩ := trodAll_cons r0
  obtain ⟨v2, vs2, d2, ds2, p2, q2, rfl, rfl, rfl, h2, r2⟩ := trodAll_cons r1
  obtain ⟨v3, vs3, d3, ds3, p3, q3, rfl, rfl, rfl, h3, r3⟩ := trodAll_cons r2
  obtain ⟨rfl, rfl, rfl⟩ := trodAll_nil r3
  obtain rfl : args = #[v0, v1, v2, v3] := by cases args; simp_all
  obtain ⟨rfl, rfl⟩ := trodVars_none hV
  have k0 := h0
  have lt0 : ∀ x ∈ p0, x.block < W.heap.size := by obtain ⟨m, hm⟩ := k0; exact DataW.trod_lt m _ _ _ hm
  have k1 := h1
  have lt1 : ∀ x ∈ p1, x.block < W.heap.size := by obtain ⟨m, hm⟩ := k1; exact DataW.trod_lt m _ _ _ hm
  have k2 := h2
  have lt2 : ∀ x ∈ p2, x.block < W.heap.size := by obtain ⟨m, hm⟩ := k2; exact DataW.trod_lt m _ _ _ hm
  have k3 := h3
  have lt3 : ∀ x ∈ p3, x.block < W.heap.size := by obtain ⟨m, hm⟩ := k3; exact DataW.trod_lt m _ _ _ hm
  obtain ⟨a0, len0, cap0, rfl⟩ := okWide_slice Try.underlying22 (hval 0 22 v0 rfl rfl)
  obtain ⟨xs0, hx0, hm0⟩ := Try.openEnts (j := 0) hsz rfl rfl h0
  obtain ⟨e1, rfl, lo1, hi1⟩ := Try.openEnt (hval 1 25 v1 rfl rfl) h1
  obtain ⟨e2, rfl, lo2, hi2⟩ := Try.openEnt (hval 2 25 v2 rfl rfl) h2
  obtain ⟨e3, rfl, lo3, hi3⟩ := Try.openEnt (hval 3 25 v3 rfl rfl) h3
  clear hA0 hval0
  refine (orderLaw_w xs0 e1 e2 e3 _ W hm0 hx0).mono fun e W' ⟨he, bel⟩ => ?_
  subst he
  exact ⟨_, rfl, _, _, _, [], _, [], hW', trodAll_mk1 (shut_bool Try.underlying4 _), (trodAll_cons_mk (Below.trod Try.laidOut (by kernel_rfl) (of_decide_eq_true (by kernel_rfl)) k0 bel lt0) (trodAll_cons_mk (Below.trod Try.laidOut (by kernel_rfl) (of_decide_eq_true (by kernel_rfl)) k1 bel lt1) (trodAll_cons_mk (Below.trod Try.laidOut (by kernel_rfl) (of_decide_eq_true (by kernel_rfl)) k2 bel lt2) (trodAll_cons_mk (Below.trod Try.laidOut (by kernel_rfl) (of_decide_eq_true (by kernel_rfl)) k3 bel lt3) trodAll_mk0)))), rfl, Below.frame bel _, fun h => by cases h⟩

theorem queueOrder_holds : Rows.QueueOrderSaid :=
  OpenClaim.holds_of_wide 5 Try.f5 rfl rfl rfl rfl rfl rfl rfl ⟨rfl, rfl, rfl, rfl, rfl⟩ rfl rfl rfl rfl rfl (by kernel_rfl) Try.func5 (by kernel_rfl)
    (of_decide_eq_true (by kernel_rfl)) (by unfold Func.isWrapper; first | (rw [if_pos (by decide +kernel)]; kernel_rfl) | (rw [if_neg (by decide +kernel)]; exact ⟨rfl, rfl⟩))
    (fun os started H enc _ => queueOrder_lifted os started H enc)

end Go.Proofs.Ytgkjpablofckjaa
