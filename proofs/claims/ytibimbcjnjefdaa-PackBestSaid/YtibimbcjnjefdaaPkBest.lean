/- PackBest is true at every input: the first copy goes where the least is left. -/
import Derived.Test.YtibimbcjnjefdaaPkOpen
import Derived.Test.YtibimbcjnjefdaaPkSlotR
import Derived.Test.YtibimbcjnjefdaaRows
namespace Go.Dm
open Go Go.RowKit
def atI : Option (Nat × Vc) → Int | none => -1 | some (i, _) => i
end Go.Dm
namespace Go.Proofs.Ytibimbcjnjefdaa
open Go.RowKit Go.Dm

theorem fit_one (f : SlotR → Bool) (d : Vc) (R : List SlotR) : fitI f d 1 R = (bestS f d R).map fun q => [(slAt R q.1).1] := by
  unfold fitI
  rw [if_neg (by decide), show (1 : Int).toNat = 0 + 1 from rfl, fit_succ]
  cases bestS f d R with
  | none => rfl
  | some q => obtain ⟨i, v⟩ := q; rfl

set_option maxHeartbeats 4000000 in
set_option maxRecDepth 100000 in
theorem packbest_w (R : List SlotR) (T : List RowS) (d : Vc) (v vx : Value) (w : World) (hm : R.length * 72 ≤ 140737488351232) (hk : FitK R) (hx : Slots w v R) (hT : T.length ≤ 2932031007319) (hf : FitR T) (ht : Terms w vx T) (hd : OkV d) :
    Calls Try.prog 6 #[v, vx, vVal d] w fun e w' => e = .returned (.bool true) ∧ Ext w w' := by
  obtain ⟨p, cap, rfl, _, _⟩ := hx.shape
  obtain ⟨q, cap2, rfl, _, _⟩ := ht.shape
  have hB0 := VBox.new w (vG d) 26
  have hW : Ext w (w.alloc (.cells #[.int .u64 (vG d 0 : Nat), .int .u64 (vG d 1 : Nat), .int .u64 (vG d 2 : Nat), .int .u64 (vG d 3 : Nat)] 26)) := (Ext.refl _).alloc _
  have CE := kexamples_w (w.alloc (.cells #[.int .u64 (vG d 0 : Nat), .int .u64 (vG d 1 : Nat), .int .u64 (vG d 2 : Nat), .int .u64 (vG d 3 : Nat)] 26))
  have CF := fun (w1 : World) (h : Ext w w1) => kfit_w T R (.slice p R.length cap) (.slice q T.length cap2) d hd 1 w1 (by omega) hf (ht.ext h) (by omega) hk (hx.ext h)
  have CM := fun (w1 : World) (h : Ext w w1) (lv : Value) (l : List PairS) (hl : l.length ≤ 35184372088832) (hp : Pairs w1 lv l) => match_w T l (.slice q T.length cap2) lv w1 (by omega) hf (ht.ext h) hl hp
  have hVs := fun (a : Vc) (ha : OkV a) w => vsub_w a d ha hd w
  simp only [fit_one] at CF
  unfold vVal vF at CF
  unfold vVal at hVs ⊢
  replace CF := Lib.hid CF
  replace CM := Lib.hid CM
  go_enter Try.func6, Try.ntmps6
  unfold vF
  go_wp2_with fail
  refine CE.mono ?_; rintro e w1 ⟨rfl, h1⟩
  replace hB0 := hB0.ext h1
  replace h1 := hW.trans h1
  clear CE hW
  obtain ⟨_, b0, b1, b2, b3, _, _, _, _⟩ := hB0.four
  go_wp2_with fail
  refine (CF.out w1 h1).mono ?_; rintro e w2 ⟨vo, rfl, hso, h2⟩
  replace hB0 := hB0.ext h2
  replace h1 := h1.trans h2
  obtain ⟨po, capo, rfl, _, _⟩ := hso.shape
  clear b0 b1 b2 b3 CF h2
  go_wp2
  go_loopw [10, 11] (fun t i wr => ∃ (k : Nat) (s : Option (Nat × Vc)), k ≤ R.length ∧ i = .int .i64 k ∧ t = .int .i64 (atI s) ∧ Ext w2 wr ∧ Hid (bestF (letR T) d R k = s)) (fun _ i _ => R.length - (intOf i).toNat)
  case atStart => exact ⟨0, none, by omega, rfl, rfl, Ext.refl _, rfl⟩
  case round =>
    obtain ⟨k, s, hk', rfl, rfl, hb, HBs⟩ := hrel
    have hwr := h1.trans hb
    have v3 := hB0.ext hb
    by_cases hlt : k < R.length
    · obtain ⟨b, off, rfl, hSR⟩ := (hx.ext hwr).sr hlt
      have hR := hSR.vr
      have hok := hx.ok hlt
      have hstep : bestF (letR T) d R (k + 1) = bestStep (letR T) d (bestF (letR T) d R k) k (slAt R k) := rfl
      rw [HBs.out] at hstep
      unfold bestStep at hstep
      have CS := hVs (slAt R k).2.1 hok
      have hlab := (hx.ext hwr).lab hlt
      have hkl : (slAt R k).2.2.2.length ≤ 35184372088832 := hk _ (slAt_mem hlt)
      obtain ⟨pq, pc, hpe, _, _⟩ := hlab.shape
      have CMk := fun (U : World) (h : Ext wr U) => CM.out U (hwr.trans h) _ _ hkl (hlab.ext h)
      have hcf : matchS (T.map rowT) (slAt R k).2.2.2 = letR T (slAt R k) := rfl
      simp only [hcf] at CMk
      have hfst := fun i v => best_some (f := letR T) (d := d) (l := R) (k := k) (i := i) (v := v)
      simp only [HBs.out] at hfst
      generalize letR T (slAt R k) = cm at *
      have hVo : OkV (vOr (vfits d (slAt R k).2.1) (vsub (slAt R k).2.1 d)) := by
        cases vfits d (slAt R k).2.1 with
        | false => exact okV_no
        | true => exact vsub_ok hok
      have hVt : vfits d (slAt R k).2.1 = true → vOr (vfits d (slAt R k).2.1) (vsub (slAt R k).2.1 d) = vsub (slAt R k).2.1 d := fun h => by rw [h]; rfl
      have CB : ∀ i v, s = some (i, v) → ∃ o2, SR b (off + i*6) (slAt R i).1 (vG (slAt R i).2.1) (slAt R i).2.2.1 wr ∧ o2 = 0 ∧ OkV v ∧ i < R.length ∧ ∀ U, Calls Try.prog 19 #[vF (vG (slAt R i).2.1), vF (vG d)] U fun e w' => e = .returned (.tuple #[vF (vG v), .bool true]) ∧ Ext U w' := by
        intro i v hs
        have h := hfst i v hs
        have hi : i < R.length := by omega
        obtain ⟨b', off', hp', hSR'⟩ := (hx.ext hwr).sr hi
        simp only [Option.some.injEq, Addr.mk.injEq] at hp'
        obtain ⟨rfl, rfl, _⟩ := hp'
        have C := hVs (slAt R i).2.1 (hx.ok hi)
        rw [h.2.2.1, show vOr true (vsub (slAt R i).2.1 d) = vsub (slAt R i).2.1 d from rfl, ← h.2.2.2] at C
        exact ⟨0, hSR', rfl, by rw [h.2.2.2]; exact vsub_ok (hx.ok hi), hi, C⟩
      replace CB := Lib.hid CB
      clear hfst
      generalize (slAt R k).2.1 = fr at *
      generalize (slAt R k).2.2.1 = lv at *
      generalize (slAt R k).2.2.2 = ls at *
      generalize (slAt R k).1 = node at *
      subst hpe
      generalize vOr (vfits d fr) (vsub fr d) = V at *
      generalize vsub fr d = V' at *
      generalize vfits d fr = c at *
      have HI : VR b (off + k * 6) (vG fr) wr ∧ V4 w.heap.size (vG d) wr := ⟨hR, v3.four⟩
      unfold vF at CS
      replace CS := Lib.hid CS
      replace hstep := Lib.hid hstep
      replace hVt := Lib.hid hVt
      replace CMk := Lib.hid CMk
      go_wp2_with fail
      try simp only [Act.put, List.setIfInBounds_toArray, List.set_cons_succ, List.set_cons_zero]
      refine Dm.wp_region_fin (I := (fun U => VR b (off + k * 6) (vG fr) U ∧ V4 w.heap.size (vG d) U)) (z := 12) 13 (Dm.bits 13 0) (by kernel_rfl) (by kernel_rfl) (by kernel_rfl) ?_
      refine Dm.wpF_take (i := 0) (listed' := (Dm.bits 13 1)) (fun _ _ h hx => ⟨h.1.ext hx, V4.ext h.2 hx⟩) HI (by kernel_rfl) (by kernel_rfl) rfl (fun _ _ _ _ h => h) ?_; apply Exists.intro; refine And.intro (fun wq hwq => ?_) ?_
      · obtain ⟨⟨_, a0, a1, a2, a3⟩, ⟨_, b0, b1, b2, b3, _, _, _, _⟩⟩ := hwq; go_big_quiet_step (((go_at_call 19; exact Calls.quietE (CS.out _)))); exact wpQuiet_nil rfl
      refine Dm.wpF_take (i := 1) (listed' := (Dm.bits 13 3)) (fun _ _ h hx => ⟨h.1.ext hx, V4.ext h.2 hx⟩) HI (by kernel_rfl) (by kernel_rfl) rfl (fun _ _ _ _ h => h) ?_; apply Exists.intro; refine And.intro (fun wq hwq => ?_) ?_
      · obtain ⟨⟨_, a0, a1, a2, a3⟩, ⟨_, b0, b1, b2, b3, _, _, _, _⟩⟩ := hwq; go_big_quiet_step (((go_at_call 19; exact Calls.quietE (CS.out _)))); exact wpQuiet_nil rfl
      refine Dm.wpF_take (i := 2) (listed' := (Dm.bits 13 7)) (fun _ _ h hx => ⟨h.1.ext hx, V4.ext h.2 hx⟩) HI (by kernel_rfl) (by kernel_rfl) rfl (fun _ _ _ _ h => h) ?_; apply Exists.intro; refine And.intro (fun wq hwq => ?_) ?_
      · obtain ⟨⟨_, a0, a1, a2, a3⟩, ⟨_, b0, b1, b2, b3, _, _, _, _⟩⟩ := hwq; go_big_quiet_step (((go_at_call 19; exact Calls.quietE (CS.out _)))); exact wpQuiet_nil rfl
      refine Dm.wpF_take (i := 3) (listed' := (Dm.bits 13 15)) (fun _ _ h hx => ⟨h.1.ext hx, V4.ext h.2 hx⟩) HI (by kernel_rfl) (by kernel_rfl) rfl (fun _ _ _ _ h => h) ?_; apply Exists.intro; refine And.intro (fun wq hwq => ?_) ?_
      · obtain ⟨⟨_, a0, a1, a2, a3⟩, ⟨_, b0, b1, b2, b3, _, _, _, _⟩⟩ := hwq; go_big_quiet_step (((go_at_call 19; exact Calls.quietE (CS.out _)))); exact wpQuiet_nil rfl
      refine Dm.wpF_take (i := 4) (listed' := (Dm.bits 13 31)) (fun _ _ h hx => ⟨h.1.ext hx, V4.ext h.2 hx⟩) HI (by kernel_rfl) (by kernel_rfl) rfl (fun _ _ _ _ h => h) ?_; apply Exists.intro; refine And.intro (fun wq hwq => ?_) ?_
      · obtain ⟨⟨_, a0, a1, a2, a3⟩, ⟨_, b0, b1, b2, b3, _, _, _, _⟩⟩ := hwq; go_big_quiet_step (((go_at_call 19; exact Calls.quietE (CS.out _)))); exact wpQuiet_nil rfl
      refine Dm.wpF_take (i := 5) (listed' := (Dm.bits 13 63)) (fun _ _ h hx => ⟨h.1.ext hx, V4.ext h.2 hx⟩) HI (by kernel_rfl) (by kernel_rfl) rfl (fun _ _ _ _ h => h) ?_; apply Exists.intro; refine And.intro (fun wq hwq => ?_) ?_
      · obtain ⟨⟨_, a0, a1, a2, a3⟩, ⟨_, b0, b1, b2, b3, _, _, _, _⟩⟩ := hwq; go_big_quiet_step (((go_at_call 19; exact Calls.quietE (CS.out _)))); exact wpQuiet_nil rfl
      refine Dm.wpF_take (i := 6) (listed' := (Dm.bits 13 127)) (fun _ _ h hx => ⟨h.1.ext hx, V4.ext h.2 hx⟩) HI (by kernel_rfl) (by kernel_rfl) rfl (fun _ _ _ _ h => h) ?_; apply Exists.intro; refine And.intro (fun wq hwq => ?_) ?_
      · obtain ⟨⟨_, a0, a1, a2, a3⟩, ⟨_, b0, b1, b2, b3, _, _, _, _⟩⟩ := hwq; go_big_quiet_step (((go_at_call 19; exact Calls.quietE (CS.out _)))); exact wpQuiet_nil rfl
      refine Dm.wpF_take (i := 7) (listed' := (Dm.bits 13 255)) (fun _ _ h hx => ⟨h.1.ext hx, V4.ext h.2 hx⟩) HI (by kernel_rfl) (by kernel_rfl) rfl (fun _ _ _ _ h => h) ?_; apply Exists.intro; refine And.intro (fun wq hwq => ?_) ?_
      · obtain ⟨⟨_, a0, a1, a2, a3⟩, ⟨_, b0, b1, b2, b3, _, _, _, _⟩⟩ := hwq; go_big_quiet_step (((go_at_call 19; exact Calls.quietE (CS.out _)))); exact wpQuiet_nil rfl
      refine Dm.wpF_take (i := 8) (listed' := (Dm.bits 13 511)) (fun _ _ h hx => ⟨h.1.ext hx, V4.ext h.2 hx⟩) HI (by kernel_rfl) (by kernel_rfl) rfl (fun _ _ _ _ h => h) ?_; apply Exists.intro; refine And.intro (fun wq hwq => ?_) ?_
      · obtain ⟨⟨_, a0, a1, a2, a3⟩, ⟨_, b0, b1, b2, b3, _, _, _, _⟩⟩ := hwq; go_big_quiet_step (((go_at_call 19; exact Calls.quietE (CS.out _)))); exact wpQuiet_nil rfl
      refine Dm.wpF_take (i := 9) (listed' := (Dm.bits 13 1023)) (fun _ _ h hx => ⟨h.1.ext hx, V4.ext h.2 hx⟩) HI (by kernel_rfl) (by kernel_rfl) rfl (fun _ _ _ _ h => h) ?_; apply Exists.intro; refine And.intro (fun wq hwq => ?_) ?_
      · obtain ⟨⟨_, a0, a1, a2, a3⟩, ⟨_, b0, b1, b2, b3, _, _, _, _⟩⟩ := hwq; go_big_quiet_step (((go_at_call 19; exact Calls.quietE (CS.out _)))); exact wpQuiet_nil rfl
      refine Dm.wpF_one (i := 10) (listed' := (Dm.bits 13 2047)) (by kernel_rfl) (by kernel_rfl) rfl (fun wm10 hxm10 => ?_)
      have ha := hxm10.trans ((Ext.refl wm10).alloc (.cells #[.int .u64 (0 : Nat), .int .u64 (0 : Nat), .int .u64 (0 : Nat), .int .u64 (0 : Nat)] 26))
      have v8 := VBox.new wm10 (fun _ => 0) 26
      have hz8 : w.heap.size + 1 ≤ wm10.heap.size ∧ b < wm10.heap.size ∧ w2.heap.size ≤ wm10.heap.size ∧ wr.heap.size ≤ wm10.heap.size := by have := v3.lt; have := hR.lt; have := hxm10.size; have := hb.size; omega
      have b3a := (v3.ext ha)
      have hba := hb.trans ha
      have HIa : VR b (off + k * 6) (vG fr) (wm10.alloc (.cells #[.int .u64 (0 : Nat), .int .u64 (0 : Nat), .int .u64 (0 : Nat), .int .u64 (0 : Nat)] 26)) ∧ V4 w.heap.size (vG d) (wm10.alloc (.cells #[.int .u64 (0 : Nat), .int .u64 (0 : Nat), .int .u64 (0 : Nat), .int .u64 (0 : Nat)] 26)) := ⟨hR.ext ha, v3.four.ext ha⟩
      go_wp2_with fail
      generalize wm10.heap.size = B8 at *
      generalize wm10.alloc (.cells #[.int .u64 (0 : Nat), .int .u64 (0 : Nat), .int .u64 (0 : Nat), .int .u64 (0 : Nat)] 26) = w6 at *
      refine ⟨(by first | exact HIa | exact fun _ => HIa), ?_⟩
      replace HI := HIa
      try simp only [Act.put, List.setIfInBounds_toArray, List.set_cons_succ, List.set_cons_zero]
      refine Dm.wpF_one (i := 11) (listed' := (Dm.bits 13 4095)) (by kernel_rfl) (by kernel_rfl) rfl (fun wm11 hxm11 => ?_)
      have v8b := (v8.ext hxm11).put (vG V)
      have v3b := (v3.ext (ha.trans hxm11)).put_far (c := B8) (by omega) (vG V)
      have hbb := (hb.trans (ha.trans hxm11)).put4 (b := B8) (by omega) (vG V)
      have hww : Ext wr (put4 wm11 B8 (vG V)) := (ha.trans hxm11).put4 (b := B8) (by omega) (vG V)
      have HIb : VR b (off + k * 6) (vG fr) (put4 wm11 B8 (vG V)) ∧ V4 w.heap.size (vG d) (put4 wm11 B8 (vG V)) := ⟨(hR.ext (ha.trans hxm11)).far_put (by omega) (vG V), v3b.four⟩
      obtain ⟨_, z0, z1, z2, z3, y0, y1, y2, y3⟩ := (v8.ext hxm11).four
      go_wp2_with fail
      clear z0 z1 z2 z3 y0 y1 y2 y3
      change (_ → VR b (off + k * 6) (vG fr) (put4 wm11 B8 (vG V)) ∧ V4 w.heap.size (vG d) (put4 wm11 B8 (vG V))) ∧ wpF _ _ _ _ _ _ _ _ _ (put4 wm11 B8 (vG V))
      generalize put4 wm11 B8 (vG V) = w7 at *
      refine ⟨(by first | exact HIb | exact fun _ => HIb), ?_⟩
      replace HI := HIb
      try simp only [Act.put, List.setIfInBounds_toArray, List.set_cons_succ, List.set_cons_zero]
      refine Dm.wpF_one (i := 12) (listed' := (Dm.bits 13 8191)) (by kernel_rfl) (by kernel_rfl) rfl (fun wz hxz => ?_)
      skip
      go_wp2_with fail
      first | refine ⟨fun h => absurd rfl h, ?_⟩ | skip
      refine Dm.wpF_done (by kernel_rfl) (fun wy hxy => ?_)
      have hby := hbb.trans (hxz.trans hxy)
      have hwy := hww.trans (hxz.trans hxy)
      have v3y := v3b.ext (hxz.trans hxy)
      have v8y := v8b.ext (hxz.trans hxy)
      clear HI HIb hbb hww v3b v8b v8 b3a hba HIa ha hxz hxy hR CS
      cases c with
      | false =>
        have hst2 : Hid (bestF (letR T) d R (k + 1) = s) := by
          show _ = _
          rw [hstep.out]; simp
        clear hstep CB CMk
        go_wp2
        go_roundw
        case rel => exact ⟨k + 1, s, by omega, by go_num, rfl, hby, hst2⟩
        case measure => simp [intOf]; omega
      | true =>
        have hVV := hVt.out rfl
        subst hVV
        clear hVt
        have hSRy := hSR.ext hwy
        obtain ⟨_, c0, c1, c2, c3, c4, c5⟩ := id hSRy
        go_wp2_with fail
        refine (CMk.out wy hwy).mono ?_; rintro e w8 ⟨rfl, h8⟩
        clear c0 c1 c2 c3 c4 c5 CMk
        replace hby := hby.trans h8
        replace hwy := hwy.trans h8
        replace v3y := v3y.ext h8
        replace v8y := v8y.ext h8
        clear h8 hSRy
        cases cm with
        | false =>
          have hst2 : Hid (bestF (letR T) d R (k + 1) = s) := by
            show _ = _
            rw [hstep.out]; simp
          clear hstep CB
          go_wp2
          go_roundw
          case rel => exact ⟨k + 1, s, by omega, by go_num, rfl, hby, hst2⟩
          case measure => simp [intOf]; omega
        | true =>
          cases s with
          | none =>
            have hst2 : Hid (bestF (letR T) d R (k + 1) = some (k, V)) := by
              show _ = _
              rw [hstep.out]; rfl
            have hat : atI none = -1 := rfl
            clear hstep CB
            go_wp2
            go_roundw
            case rel => exact ⟨k + 1, some (k, V), by omega, by go_num, rfl, hby, hst2⟩
            case measure => simp [intOf]; omega
          | some qq =>
            obtain ⟨j, qv⟩ := qq
            obtain ⟨_, hSj, _, hOq, hj, CSj⟩ := CB.out j qv rfl
            have hat : atI (some (j, qv)) = (j : Int) := rfl
            have hst3 := hstep.out
            rw [if_pos (by rfl)] at hst3
            simp only at hst3
            replace hst3 := Lib.hid hst3
            have hSjy := hSj.ext hwy
            have hRj := hSjy.vr
            obtain ⟨_, c0, c1, c2, c3, c4, c5⟩ := id hSjy
            obtain ⟨_, y0, y1, y2, y3, _, _, _, _⟩ := v3y.four
            unfold vF at CSj
            replace CSj := Lib.hid CSj
            clear CB hstep
            generalize (slAt R j).2.1 = fj at *
            have HI : VR b (off + j * 6) (vG fj) w8 ∧ V4 w.heap.size (vG d) w8 := ⟨hRj, v3y.four⟩
            go_wp2_with fail
            try simp only [Act.put, List.setIfInBounds_toArray, List.set_cons_succ, List.set_cons_zero]
            refine Dm.wp_region_fin (I := (fun U => VR b (off + j * 6) (vG fj) U ∧ V4 w.heap.size (vG d) U)) (z := 12) 13 (Dm.bits 13 0) (by kernel_rfl) (by kernel_rfl) (by kernel_rfl) ?_
            refine Dm.wpF_take (i := 0) (listed' := (Dm.bits 13 1)) (fun _ _ h hx => ⟨h.1.ext hx, V4.ext h.2 hx⟩) HI (by kernel_rfl) (by kernel_rfl) rfl (fun _ _ _ _ h => h) ?_; apply Exists.intro; refine And.intro (fun wq hwq => ?_) ?_
            · obtain ⟨⟨_, a0, a1, a2, a3⟩, ⟨_, b0, b1, b2, b3, _, _, _, _⟩⟩ := hwq; go_big_quiet_step (((go_at_call 19; exact Calls.quietE (CSj.out _)))); exact wpQuiet_nil rfl
            refine Dm.wpF_take (i := 1) (listed' := (Dm.bits 13 3)) (fun _ _ h hx => ⟨h.1.ext hx, V4.ext h.2 hx⟩) HI (by kernel_rfl) (by kernel_rfl) rfl (fun _ _ _ _ h => h) ?_; apply Exists.intro; refine And.intro (fun wq hwq => ?_) ?_
            · obtain ⟨⟨_, a0, a1, a2, a3⟩, ⟨_, b0, b1, b2, b3, _, _, _, _⟩⟩ := hwq; go_big_quiet_step (((go_at_call 19; exact Calls.quietE (CSj.out _)))); exact wpQuiet_nil rfl
            refine Dm.wpF_take (i := 2) (listed' := (Dm.bits 13 7)) (fun _ _ h hx => ⟨h.1.ext hx, V4.ext h.2 hx⟩) HI (by kernel_rfl) (by kernel_rfl) rfl (fun _ _ _ _ h => h) ?_; apply Exists.intro; refine And.intro (fun wq hwq => ?_) ?_
            · obtain ⟨⟨_, a0, a1, a2, a3⟩, ⟨_, b0, b1, b2, b3, _, _, _, _⟩⟩ := hwq; go_big_quiet_step (((go_at_call 19; exact Calls.quietE (CSj.out _)))); exact wpQuiet_nil rfl
            refine Dm.wpF_take (i := 3) (listed' := (Dm.bits 13 15)) (fun _ _ h hx => ⟨h.1.ext hx, V4.ext h.2 hx⟩) HI (by kernel_rfl) (by kernel_rfl) rfl (fun _ _ _ _ h => h) ?_; apply Exists.intro; refine And.intro (fun wq hwq => ?_) ?_
            · obtain ⟨⟨_, a0, a1, a2, a3⟩, ⟨_, b0, b1, b2, b3, _, _, _, _⟩⟩ := hwq; go_big_quiet_step (((go_at_call 19; exact Calls.quietE (CSj.out _)))); exact wpQuiet_nil rfl
            refine Dm.wpF_take (i := 4) (listed' := (Dm.bits 13 31)) (fun _ _ h hx => ⟨h.1.ext hx, V4.ext h.2 hx⟩) HI (by kernel_rfl) (by kernel_rfl) rfl (fun _ _ _ _ h => h) ?_; apply Exists.intro; refine And.intro (fun wq hwq => ?_) ?_
            · obtain ⟨⟨_, a0, a1, a2, a3⟩, ⟨_, b0, b1, b2, b3, _, _, _, _⟩⟩ := hwq; go_big_quiet_step (((go_at_call 19; exact Calls.quietE (CSj.out _)))); exact wpQuiet_nil rfl
            refine Dm.wpF_take (i := 5) (listed' := (Dm.bits 13 63)) (fun _ _ h hx => ⟨h.1.ext hx, V4.ext h.2 hx⟩) HI (by kernel_rfl) (by kernel_rfl) rfl (fun _ _ _ _ h => h) ?_; apply Exists.intro; refine And.intro (fun wq hwq => ?_) ?_
            · obtain ⟨⟨_, a0, a1, a2, a3⟩, ⟨_, b0, b1, b2, b3, _, _, _, _⟩⟩ := hwq; go_big_quiet_step (((go_at_call 19; exact Calls.quietE (CSj.out _)))); exact wpQuiet_nil rfl
            refine Dm.wpF_take (i := 6) (listed' := (Dm.bits 13 127)) (fun _ _ h hx => ⟨h.1.ext hx, V4.ext h.2 hx⟩) HI (by kernel_rfl) (by kernel_rfl) rfl (fun _ _ _ _ h => h) ?_; apply Exists.intro; refine And.intro (fun wq hwq => ?_) ?_
            · obtain ⟨⟨_, a0, a1, a2, a3⟩, ⟨_, b0, b1, b2, b3, _, _, _, _⟩⟩ := hwq; go_big_quiet_step (((go_at_call 19; exact Calls.quietE (CSj.out _)))); exact wpQuiet_nil rfl
            refine Dm.wpF_take (i := 7) (listed' := (Dm.bits 13 255)) (fun _ _ h hx => ⟨h.1.ext hx, V4.ext h.2 hx⟩) HI (by kernel_rfl) (by kernel_rfl) rfl (fun _ _ _ _ h => h) ?_; apply Exists.intro; refine And.intro (fun wq hwq => ?_) ?_
            · obtain ⟨⟨_, a0, a1, a2, a3⟩, ⟨_, b0, b1, b2, b3, _, _, _, _⟩⟩ := hwq; go_big_quiet_step (((go_at_call 19; exact Calls.quietE (CSj.out _)))); exact wpQuiet_nil rfl
            refine Dm.wpF_take (i := 8) (listed' := (Dm.bits 13 511)) (fun _ _ h hx => ⟨h.1.ext hx, V4.ext h.2 hx⟩) HI (by kernel_rfl) (by kernel_rfl) rfl (fun _ _ _ _ h => h) ?_; apply Exists.intro; refine And.intro (fun wq hwq => ?_) ?_
            · obtain ⟨⟨_, a0, a1, a2, a3⟩, ⟨_, b0, b1, b2, b3, _, _, _, _⟩⟩ := hwq; go_big_quiet_step (((go_at_call 19; exact Calls.quietE (CSj.out _)))); exact wpQuiet_nil rfl
            refine Dm.wpF_take (i := 9) (listed' := (Dm.bits 13 1023)) (fun _ _ h hx => ⟨h.1.ext hx, V4.ext h.2 hx⟩) HI (by kernel_rfl) (by kernel_rfl) rfl (fun _ _ _ _ h => h) ?_; apply Exists.intro; refine And.intro (fun wq hwq => ?_) ?_
            · obtain ⟨⟨_, a0, a1, a2, a3⟩, ⟨_, b0, b1, b2, b3, _, _, _, _⟩⟩ := hwq; go_big_quiet_step (((go_at_call 19; exact Calls.quietE (CSj.out _)))); exact wpQuiet_nil rfl
            refine Dm.wpF_one (i := 10) (listed' := (Dm.bits 13 2047)) (by kernel_rfl) (by kernel_rfl) rfl (fun wm10 hxm10 => ?_)
            have ha := hxm10.trans ((Ext.refl wm10).alloc (.cells #[.int .u64 (0 : Nat), .int .u64 (0 : Nat), .int .u64 (0 : Nat), .int .u64 (0 : Nat)] 26))
            have v14 := VBox.new wm10 (fun _ => 0) 26
            have hz14 : w.heap.size + 1 ≤ wm10.heap.size ∧ b < wm10.heap.size ∧ w2.heap.size ≤ wm10.heap.size ∧ w8.heap.size ≤ wm10.heap.size ∧ B8 < wm10.heap.size := by have := v3y.lt; have := hRj.lt; have := hxm10.size; have := hby.size; have := v8y.lt; omega
            have b3a := (v3y.ext ha)
            have HIa : VR b (off + j * 6) (vG fj) (wm10.alloc (.cells #[.int .u64 (0 : Nat), .int .u64 (0 : Nat), .int .u64 (0 : Nat), .int .u64 (0 : Nat)] 26)) ∧ V4 w.heap.size (vG d) (wm10.alloc (.cells #[.int .u64 (0 : Nat), .int .u64 (0 : Nat), .int .u64 (0 : Nat), .int .u64 (0 : Nat)] 26)) := ⟨hRj.ext ha, v3y.four.ext ha⟩
            go_wp2_with fail
            generalize wm10.heap.size = B14 at *
            generalize wm10.alloc (.cells #[.int .u64 (0 : Nat), .int .u64 (0 : Nat), .int .u64 (0 : Nat), .int .u64 (0 : Nat)] 26) = w13 at *
            refine ⟨(by first | exact HIa | exact fun _ => HIa), ?_⟩
            replace HI := HIa
            try simp only [Act.put, List.setIfInBounds_toArray, List.set_cons_succ, List.set_cons_zero]
            refine Dm.wpF_one (i := 11) (listed' := (Dm.bits 13 4095)) (by kernel_rfl) (by kernel_rfl) rfl (fun wm11 hxm11 => ?_)
            have v14b := (v14.ext hxm11).put (vG qv)
            have v8b := (v8y.ext (ha.trans hxm11)).put_far (c := B14) (by omega) (vG qv)
            have v3b := (v3y.ext (ha.trans hxm11)).put_far (c := B14) (by omega) (vG qv)
            have hww : Ext w8 (put4 wm11 B14 (vG qv)) := (ha.trans hxm11).put4 (b := B14) (by omega) (vG qv)
            have HIb : VR b (off + j * 6) (vG fj) (put4 wm11 B14 (vG qv)) ∧ V4 w.heap.size (vG d) (put4 wm11 B14 (vG qv)) := ⟨(hRj.ext (ha.trans hxm11)).far_put (by omega) (vG qv), v3b.four⟩
            obtain ⟨_, z0, z1, z2, z3, x0, x1, x2, x3⟩ := (v14.ext hxm11).four
            go_wp2_with fail
            clear z0 z1 z2 z3 x0 x1 x2 x3
            change (_ → VR b (off + j * 6) (vG fj) (put4 wm11 B14 (vG qv)) ∧ V4 w.heap.size (vG d) (put4 wm11 B14 (vG qv))) ∧ wpF _ _ _ _ _ _ _ _ _ (put4 wm11 B14 (vG qv))
            generalize put4 wm11 B14 (vG qv) = w14 at *
            refine ⟨(by first | exact HIb | exact fun _ => HIb), ?_⟩
            replace HI := HIb
            try simp only [Act.put, List.setIfInBounds_toArray, List.set_cons_succ, List.set_cons_zero]
            refine Dm.wpF_one (i := 12) (listed' := (Dm.bits 13 8191)) (by kernel_rfl) (by kernel_rfl) rfl (fun wz hxz => ?_)
            skip
            go_wp2_with fail
            first | refine ⟨fun h => absurd rfl h, ?_⟩ | skip
            refine Dm.wpF_done (by kernel_rfl) (fun wy hxy => ?_)
            have hwz := hww.trans (hxz.trans hxy)
            have v8z := v8b.ext (hxz.trans hxy)
            have v14z := v14b.ext (hxz.trans hxy)
            have hbz := hby.trans hwz
            clear HI HIb hww v3b v14b v8b v14 b3a HIa ha hxz hxy CSj
            have CO := vorder_w V qv hVo hOq wy
            unfold vVal vF at CO
            obtain ⟨_, z0, z1, z2, z3, _, _, _, _⟩ := v8z.four
            obtain ⟨_, x0, x1, x2, x3, _, _, _, _⟩ := v14z.four
            by_cases hneg : vord V qv < 0
            · have hst2 : Hid (bestF (letR T) d R (k + 1) = some (k, V)) := by
                show _ = _
                rw [hst3.out, if_pos hneg]
              generalize vord V qv = o at CO hneg
              clear hst3
              go_wp2_with fail
              refine CO.mono ?_; rintro e w9 ⟨rfl, h9⟩
              clear z0 z1 z2 z3 x0 x1 x2 x3 CO
              go_wp2
              go_roundw
              case rel => exact ⟨k + 1, some (k, V), by omega, by go_num, rfl, hbz.trans h9, hst2⟩
              case measure => simp [intOf]; omega
            · have hst2 : Hid (bestF (letR T) d R (k + 1) = some (j, qv)) := by
                show _ = _
                rw [hst3.out, if_neg hneg]
              generalize vord V qv = o at CO hneg
              clear hst3
              go_wp2_with fail
              refine CO.mono ?_; rintro e w9 ⟨rfl, h9⟩
              clear z0 z1 z2 z3 x0 x1 x2 x3 CO
              go_wp2
              go_roundw
              case rel => exact ⟨k + 1, some (j, qv), by omega, by go_num, rfl, hbz.trans h9, hst2⟩
              case measure => simp [intOf]; omega
    · obtain rfl : k = R.length := by omega
      have hS : bestS (letR T) d R = s := HBs.out
      clear HBs
      cases s with
      | none =>
        have hat : atI none = -1 := rfl
        go_wp2_with fail
        go_ret
        exact ⟨rfl, hwr⟩
      | some qq =>
        obtain ⟨j, qv⟩ := qq
        have hat : atI (some (j, qv)) = (j : Int) := rfl
        have hlen1 : ((Option.map (fun q => [(slAt R q.fst).fst]) (bestS (letR T) d R)).getD []).length = 1 := by rw [hS]; rfl
        have hsm : (bestS (letR T) d R).isSome = true := by rw [hS]; rfl
        have hj := bestS_lt hS
        have hso2 : Strs wr (.slice po 1 capo) [(slAt R j).1] := by
          rw [hlen1, hS] at hso
          exact hso.ext hb
        obtain ⟨b2, off2, rfl, _, hc0⟩ := Strs.at (ss := [(slAt R j).1]) hso2 (k := 0) (by simp)
        have hs0 : strAt [(slAt R j).1] 0 = (slAt R j).1 := rfl
        rw [hs0, Nat.add_zero] at hc0
        obtain ⟨b, off, rfl, hSj⟩ := (hx.ext hwr).sr hj
        obtain ⟨_, c0, _, _, _, _, _⟩ := hSj
        clear hS hso hso2 hs0
        generalize bestS (letR T) d R = bs at *
        generalize (slAt R j).1 = node at *
        go_wp2_with fail
        refine Dm.wp_region_grow (by kernel_rfl) (by kernel_rfl) ?_
        repeat (go_big_quiet_step (fail))
        refine wpQuiet_nil ?_
        intro U hU
        have hU' := hwr.trans hU
        go_wp2
        go_ret
        exact ⟨rfl, hU'⟩

open Go.ChangeShapes Go.WideShapes Go.ChangeAt in
set_option maxRecDepth 100000 in
theorem packBest_lifted (os : Os) (started : os.Started) (H : Type) (enc : TypeId × Value → H) :
    ReturnsInHanded {} Try.checked os 6 .any (Rows.packBestSpec.pre6 enc Try.prog Try.f6 Rows.packBestRow.domain false) (Rows.packBestSpec.post enc Try.prog Try.f6 false true false false) := by
  refine returnsInHanded_of_change_sized (C := Try.checked) Try.own started (by kernel_rfl) Try.func6
    (ChangeSpec.witness6 (enc := enc) (C := Try.checked) false ⟨#[], #[.slice none 0 0, .slice none 0 0, .agg #[.int .u64 0, .int .u64 0, .int .u64 0, .int .u64 0]], []⟩ 8 (by kernel_rfl) (by kernel_rfl) (by kernel_rfl) (by kernel_rfl)) ?_
  intro W base args ds gs before hval0 hW hcnd hsz0 _
  have hsz : (DataW.weightsEach Try.prog (Try.f6.params.toList ++ Rows.packBestSpec.plain.varTypes Try.prog) (ds ++ gs)).all (· ≤ reachBytes) = true := hsz0
  clear hsz0
  have hval : ∀ (j : Nat) t v, Try.f6.params[j]? = some t → args[j]? = some v → Value.okWide Try.prog W .any base t v := hval0
  have hW' := hW
  obtain ⟨p, q, hA0, hV, rfl, hfz, hnd⟩ := hW
  have hA : DataW.TrodAll enc Try.prog W 0 (fun _ => true) true Try.f6.params.toList args.toList ds p := hA0
  rw [Try.params6] at hA hval hsz
  obtain ⟨v0, vs0, d0, ds0, p0, q0, hargs, rfl, rfl, h0, r0⟩ := trodAll_cons hA
  obtain ⟨v1, vs1, d1, ds1, p1, q1, rfl, rfl, rfl, h1, r1⟩ := trodAll_cons r0
  obtain ⟨v2, vs2, d2, ds2, p2, q2, rfl, rfl, rfl, h2, r2⟩ := trodAll_cons r1
  obtain ⟨rfl, rfl, rfl⟩ := trodAll_nil r2
  obtain rfl : args = #[v0, v1, v2] := by cases args; simp_all
  obtain ⟨rfl, rfl⟩ := trodVars_none hV
  have k0 := h0
  have lt0 : ∀ x ∈ p0, x.block < W.heap.size := by obtain ⟨m, hm⟩ := k0; exact DataW.trod_lt m _ _ _ hm
  have k1 := h1
  have lt1 : ∀ x ∈ p1, x.block < W.heap.size := by obtain ⟨m, hm⟩ := k1; exact DataW.trod_lt m _ _ _ hm
  have k2 := h2
  have lt2 : ∀ x ∈ p2, x.block < W.heap.size := by obtain ⟨m, hm⟩ := k2; exact DataW.trod_lt m _ _ _ hm
  obtain ⟨a0, len0, cap0, rfl⟩ := okWide_slice Try.underlying22 (hval 0 22 v0 rfl rfl)
  obtain ⟨xs0, hx0, hm0, hf0⟩ := Try.openSlots (j := 0) hsz rfl rfl h0
  obtain ⟨a1, len1, cap1, rfl⟩ := okWide_slice Try.underlying23 (hval 1 23 v1 rfl rfl)
  obtain ⟨xs1, hx1, hm1, hf1⟩ := Try.openTerms (j := 1) hsz rfl rfl h1
  obtain ⟨e2, hd2, rfl⟩ := Try.openVec (hval 2 26 v2 rfl rfl) h2
  clear hA0 hval0
  refine (packbest_w xs0 xs1 e2 _ _ W hm0 hf0 hx0 hm1 hf1 hx1 hd2).mono fun e W' ⟨he, bel⟩ => ?_
  subst he
  exact ⟨_, rfl, _, _, _, [], _, [], hW', trodAll_mk1 (shut_bool Try.underlying4 _), (trodAll_cons_mk (Below.trod Try.laidOut (by kernel_rfl) (of_decide_eq_true (by kernel_rfl)) k0 bel lt0) (trodAll_cons_mk (Below.trod Try.laidOut (by kernel_rfl) (of_decide_eq_true (by kernel_rfl)) k1 bel lt1) (trodAll_cons_mk (Below.trod Try.laidOut (by kernel_rfl) (of_decide_eq_true (by kernel_rfl)) k2 bel lt2) trodAll_mk0))), rfl, Below.frame bel _, fun h => by cases h⟩

theorem packBest_holds : Rows.PackBestSaid :=
  OpenClaim.holds_of_wide 6 Try.f6 rfl rfl rfl rfl rfl rfl rfl ⟨rfl, rfl, rfl, rfl, rfl⟩ rfl rfl rfl rfl rfl (by kernel_rfl) Try.func6 (by kernel_rfl)
    (of_decide_eq_true (by kernel_rfl)) (by unfold Func.isWrapper; first | (rw [if_pos (by decide +kernel)]; kernel_rfl) | (rw [if_neg (by decide +kernel)]; exact ⟨rfl, rfl⟩))
    (fun os started H enc _ => packBest_lifted os started H enc)

end Go.Proofs.Ytibimbcjnjefdaa
