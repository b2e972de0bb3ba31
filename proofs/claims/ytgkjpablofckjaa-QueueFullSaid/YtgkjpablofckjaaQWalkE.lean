/- Chapter 14: the walks of Right, of the program and of the reference. -/
import Derived.Test.YtgkjpablofckjaaQWalkD
namespace Go.Proofs.Ytgkjpablofckjaa
open Go.RowKit Go.Dm

theorem rightB_no {xs : List Ent} {k : Nat} (hk : k < xs.length) (h : okAt xs k = false) : rightB xs = false := by
  unfold rightB
  rw [Bool.and_eq_false_iff]
  left
  rw [Bool.eq_false_iff]
  intro ha
  rw [List.all_eq_true] at ha
  have := ha k (List.mem_range.2 hk)
  rw [h] at this
  cases this

theorem rightB_end {xs : List Ent} (h : ∀ j, j < xs.length → okAt xs j = true) : rightB xs = decide (xs.length ≤ 32) := by
  unfold rightB
  rw [List.all_eq_true.2 (fun j hj => h j (List.mem_range.1 hj)), Bool.true_and]

theorem okAt_wrong {xs : List Ent} {k : Nat} (h : wrongB (ent xs k) = true) : okAt xs k = false := by simp [okAt, h]
theorem okAt_idx {xs : List Ent} {k : Nat} (h : idxOf (ent xs k).1 xs ≠ some k) : okAt xs k = false := by simp [okAt, h]
theorem okAt_behind {xs : List Ent} {j : Nat} (h : aheadB (ent xs j) (ent xs (j + 1)) = false) : okAt xs (j + 1) = false := by simp [okAt, h]
theorem okAt_zero {xs : List Ent} (h1 : wrongB (ent xs 0) = false) (h2 : idxOf (ent xs 0).1 xs = some 0) : okAt xs 0 = true := by simp [okAt, h1, h2]
theorem okAt_succ {xs : List Ent} {j : Nat} (h1 : wrongB (ent xs (j + 1)) = false) (h2 : idxOf (ent xs (j + 1)).1 xs = some (j + 1)) (h3 : aheadB (ent xs j) (ent xs (j + 1)) = true) : okAt xs (j + 1) = true := by simp [okAt, h1, h2, h3]

theorem optI_ne {o : Option Nat} {k : Nat} (h : o ≠ some k) : (optI o != (k : Int)) = true := by
  cases o with
  | none => simp only [optI, bne_iff_ne]; omega
  | some j => simp only [optI, bne_iff_ne]; intro e; apply h; congr 1; omega

set_option maxHeartbeats 1000000 in
theorem right_w (xs : List Ent) (v : Value) (w : World) (hm : xs.length ≤ 8796093022208) (hx : Ents w v xs) :
    Calls Try.prog 18 #[v] w fun e w' => e = .returned (.bool (rightB xs)) ∧ Ext w w' := by
  obtain ⟨q, cap, rfl, hcap, hcm⟩ := hx.shape
  go_enter Try.func18, Try.ntmps18
  go_wp2
  go_loopw [7] (fun i' wr => ∃ k : Nat, k ≤ xs.length ∧ i' = .int .i64 k ∧ Ext w wr ∧ Hid (∀ j, j < k → okAt xs j = true)) (fun i' _ => xs.length - (intOf i').toNat)
  case atStart => exact ⟨0, by omega, rfl, Ext.refl _, fun j hj => by omega⟩
  case round =>
    obtain ⟨k, hk, rfl, hb, HN⟩ := hrel
    by_cases hlt : k < xs.length
    · have hxr := hx.ext hb
      obtain ⟨b, off, rfl, hbl, c0, c1⟩ := hxr.at hlt
      have hW : True := trivial
      cases hw : wrongB (ent xs k) with
      | true =>
        have HCw : Hid (∀ W, Calls Try.prog 24 #[.agg #[.int .u64 (ent xs k).1, .int .i64 (ent xs k).2]] W fun e w' => e = .returned (.bool true) ∧ Ext W w') := fun W => by
          have := wrong_w (ent xs k).1 (ent xs k).2 W
          rwa [show wrongB ((ent xs k).1, (ent xs k).2) = true from hw] at this
        have HW := Lib.hid hw; clear hw
        go_wp2_with fail
        have HS : Hid (∀ W, Ext (wr.alloc (.cells #[.int .u64 (ent xs k).1, .int .i64 (ent xs k).2] 25)) W → Ext w W) := fun W h => hb.trans (Ext.trans ((Ext.refl _).alloc _) h)
        refine Dm.wp_region_grow (by kernel_rfl) (by kernel_rfl) ?_
        repeat (go_big_quiet_step (first
          | (go_at_call 24; exact Calls.quietE (HCw.out _))
          | (go_at_call 16; exact Calls.quietE (HCp.out _ (ext_grow _ _)))
          | (go_at_call 20; exact Calls.quietE (HCa.out _))))
        refine wpQuiet_nil ?_
        intro W hW'
        replace hW := HS.out _ hW'
        go_wp2
        go_ret
        exact ⟨by rw [rightB_no hlt (okAt_wrong HW.out)]; rfl, hW⟩
      | false =>
        have HCw : Hid (∀ W, Calls Try.prog 24 #[.agg #[.int .u64 (ent xs k).1, .int .i64 (ent xs k).2]] W fun e w' => e = .returned (.bool false) ∧ Ext W w') := fun W => by
          have := wrong_w (ent xs k).1 (ent xs k).2 W
          rwa [show wrongB ((ent xs k).1, (ent xs k).2) = false from hw] at this
        have HW := Lib.hid hw; clear hw
        by_cases hid : idxOf (ent xs k).1 xs = some k
        case neg =>
          have hne := optI_ne hid
          have HI := Lib.hid hid; clear hid
          have HCp : Hid (∀ W, Ext (wr.alloc (.cells #[.int .u64 (ent xs k).1, .int .i64 (ent xs k).2] 25)) W → Calls Try.prog 16 #[.slice (some ⟨b, off, none⟩) xs.length cap, .int .u64 (ent xs k).1] W fun e w' => e = .returned (.int .i64 (optI (idxOf (ent xs k).1 xs))) ∧ Ext W w') := fun W h =>
            place_w xs _ _ W (by omega) (hxr.ext (Ext.trans ((Ext.refl _).alloc _) h))
          go_wp2_with fail
          have HS : Hid (∀ W, Ext (wr.alloc (.cells #[.int .u64 (ent xs k).1, .int .i64 (ent xs k).2] 25)) W → Ext w W) := fun W h => hb.trans (Ext.trans ((Ext.refl _).alloc _) h)
          refine Dm.wp_region_grow (by kernel_rfl) (by kernel_rfl) ?_
          repeat (go_big_quiet_step (first
            | (go_at_call 24; exact Calls.quietE (HCw.out _))
            | (go_at_call 16; exact Calls.quietE (HCp.out _ (ext_grow _ _)))
            | (go_at_call 20; exact Calls.quietE (HCa.out _))))
          refine wpQuiet_nil ?_
          intro W hW'
          replace hW := HS.out _ hW'
          go_wp2
          go_ret
          exact ⟨by rw [rightB_no hlt (okAt_idx HI.out)]; rfl, hW⟩
        case pos =>
          have HCp : Hid (∀ W, Ext (wr.alloc (.cells #[.int .u64 (ent xs k).1, .int .i64 (ent xs k).2] 25)) W → Calls Try.prog 16 #[.slice (some ⟨b, off, none⟩) xs.length cap, .int .u64 (ent xs k).1] W fun e w' => e = .returned (.int .i64 (k : Int)) ∧ Ext W w') := fun W h => by
            have := place_w xs (ent xs k).1 _ W (by omega) (hxr.ext (Ext.trans ((Ext.refl _).alloc _) h))
            rwa [hid] at this
          have HI := Lib.hid hid; clear hid
          rcases Nat.eq_zero_or_pos k with rfl | hpos
          · simp only [Nat.zero_mul, Nat.add_zero] at c0 c1
            go_wp2_with fail
            have HS : Hid (∀ W, Ext (wr.alloc (.cells #[.int .u64 (ent xs 0).1, .int .i64 (ent xs 0).2] 25)) W → Ext w W) := fun W h => hb.trans (Ext.trans ((Ext.refl _).alloc _) h)
            refine Dm.wp_region_grow (by kernel_rfl) (by kernel_rfl) ?_
            repeat (go_big_quiet_step (first
              | (go_at_call 24; exact Calls.quietE (HCw.out _))
              | (go_at_call 16; exact Calls.quietE (HCp.out _ (ext_grow _ _)))
              | (go_at_call 20; exact Calls.quietE (HCa.out _))))
            refine wpQuiet_nil ?_
            intro W hW'
            replace hW := HS.out _ hW'
            go_wp2
            go_roundw
            case rel => exact ⟨0 + 1, by omega, by go_num, hW, fun j hj => by
              rcases Nat.lt_succ_iff_lt_or_eq.1 hj with h | rfl
              · exact HN.out j h
              · exact okAt_zero HW.out HI.out⟩
            case measure => simp [intOf]; omega
          · obtain ⟨j, rfl⟩ : ∃ j, k = j + 1 := ⟨k - 1, by omega⟩
            have c2 := (hxr.cells (k := j) (by omega)).2.1
            have c3 := (hxr.cells (k := j) (by omega)).2.2
            cases ha : aheadB (ent xs j) (ent xs (j + 1)) with
            | false =>
              have HCa : Hid (∀ W, Calls Try.prog 20 #[.agg #[.int .u64 (ent xs j).1, .int .i64 (ent xs j).2], .agg #[.int .u64 (ent xs (j + 1)).1, .int .i64 (ent xs (j + 1)).2]] W fun e w' => e = .returned (.bool false) ∧ Ext W w') := fun W => by
                have := ahead_w (ent xs j).1 (ent xs j).2 (ent xs (j + 1)).1 (ent xs (j + 1)).2 W
                rwa [show aheadB ((ent xs j).1, (ent xs j).2) ((ent xs (j + 1)).1, (ent xs (j + 1)).2) = false from ha] at this
              have HA := Lib.hid ha; clear ha
              go_wp2_with fail
              have HS : Hid (∀ W, Ext (wr.alloc (.cells #[.int .u64 (ent xs (j + 1)).1, .int .i64 (ent xs (j + 1)).2] 25)) W → Ext w W) := fun W h => hb.trans (Ext.trans ((Ext.refl _).alloc _) h)
              refine Dm.wp_region_grow (by kernel_rfl) (by kernel_rfl) ?_
              repeat (go_big_quiet_step (first
                | (go_at_call 24; exact Calls.quietE (HCw.out _))
                | (go_at_call 16; exact Calls.quietE (HCp.out _ (ext_grow _ _)))
                | (go_at_call 20; exact Calls.quietE (HCa.out _))))
              refine wpQuiet_nil ?_
              intro W hW'
              replace hW := HS.out _ hW'
              go_wp2
              go_ret
              exact ⟨by rw [rightB_no hlt (okAt_behind HA.out)]; rfl, hW⟩
            | true =>
              have HCa : Hid (∀ W, Calls Try.prog 20 #[.agg #[.int .u64 (ent xs j).1, .int .i64 (ent xs j).2], .agg #[.int .u64 (ent xs (j + 1)).1, .int .i64 (ent xs (j + 1)).2]] W fun e w' => e = .returned (.bool true) ∧ Ext W w') := fun W => by
                have := ahead_w (ent xs j).1 (ent xs j).2 (ent xs (j + 1)).1 (ent xs (j + 1)).2 W
                rwa [show aheadB ((ent xs j).1, (ent xs j).2) ((ent xs (j + 1)).1, (ent xs (j + 1)).2) = true from ha] at this
              have HA := Lib.hid ha; clear ha
              go_wp2_with fail
              have HS : Hid (∀ W, Ext (wr.alloc (.cells #[.int .u64 (ent xs (j + 1)).1, .int .i64 (ent xs (j + 1)).2] 25)) W → Ext w W) := fun W h => hb.trans (Ext.trans ((Ext.refl _).alloc _) h)
              refine Dm.wp_region_grow (by kernel_rfl) (by kernel_rfl) ?_
              repeat (go_big_quiet_step (first
                | (go_at_call 24; exact Calls.quietE (HCw.out _))
                | (go_at_call 16; exact Calls.quietE (HCp.out _ (ext_grow _ _)))
                | (go_at_call 20; exact Calls.quietE (HCa.out _))))
              refine wpQuiet_nil ?_
              intro W hW'
              replace hW := HS.out _ hW'
              go_wp2
              go_roundw
              case rel => exact ⟨(j + 1) + 1, by omega, by go_num, hW, fun j hj => by
                rcases Nat.lt_succ_iff_lt_or_eq.1 hj with h | rfl
                · exact HN.out j h
                · exact okAt_succ HW.out HI.out HA.out⟩
              case measure => simp [intOf]; omega
    · go_wp2
      go_ret
      obtain rfl : k = xs.length := by omega
      refine ⟨?_, hb⟩
      have e : decide ((xs.length : Int) ≤ 32) = decide (xs.length ≤ 32) := by apply decide_eq_decide.2; omega
      rw [rightB_end HN.out, ← e]
      rfl

theorem rightB_long {xs : List Ent} (h : 32 < xs.length) : rightB xs = false := by
  unfold rightB
  rw [show decide (xs.length ≤ 32) = false from decide_eq_false (by omega), Bool.and_false]

set_option maxHeartbeats 1000000 in
theorem rright_w (xs : List Ent) (v : Value) (w : World) (hm : xs.length ≤ 8796093022208) (hx : Ents w v xs) :
    Calls Try.prog 19 #[v] w fun e w' => e = .returned (.bool (rightB xs)) ∧ Ext w w' := by
  obtain ⟨q, cap, rfl, hcap, hcm⟩ := hx.shape
  by_cases hlong : 32 < xs.length
  · have HL := Lib.hid (rightB_long hlong)
    go_enter Try.func19, Try.ntmps19
    go_wp2
    go_ret
    exact ⟨by rw [HL.out]; rfl, Ext.refl _⟩
  go_enter Try.func19, Try.ntmps19
  go_wp2
  go_loopw [3] (fun i' wr => ∃ k : Nat, k ≤ xs.length ∧ i' = .int .i64 k ∧ Ext w wr ∧ Hid (∀ j, j < k → okAt xs j = true)) (fun i' _ => xs.length - (intOf i').toNat)
  case atStart => exact ⟨0, by omega, rfl, Ext.refl _, fun j hj => by omega⟩
  case round =>
    obtain ⟨k, hk, rfl, hb, HN⟩ := hrel
    by_cases hlt : k < xs.length
    · have hxr := hx.ext hb
      obtain ⟨b, off, rfl, hbl, c0, c1⟩ := hxr.at hlt
      have hW : True := trivial
      cases hlo : decide ((ent xs k).2 < 0) with
      | true =>
        have HW := Lib.hid (wrongB_low (e := ent xs k) (by simpa using hlo))
        go_wp2_with fail
        refine Dm.wp_region_grow (by kernel_rfl) (by kernel_rfl) ?_
        repeat (go_big_quiet_step (first
          | (go_at_call 17; exact Calls.quietE (HCp.out _ (ext_grow _ _)))
          | (go_at_call 21; exact Calls.quietE (HCa.out _))))
        refine wpQuiet_nil ?_
        intro W hW'
        replace hW := hb.trans hW'
        go_wp2
        go_ret
        exact ⟨by rw [rightB_no hlt (okAt_wrong HW.out)]; rfl, hW⟩
      | false =>
        cases hhi : decide (9 < (ent xs k).2) with
        | true =>
          have HW := Lib.hid (wrongB_high (e := ent xs k) (by simpa using hhi))
          go_wp2_with fail
          refine Dm.wp_region_grow (by kernel_rfl) (by kernel_rfl) ?_
          repeat (go_big_quiet_step (first
            | (go_at_call 17; exact Calls.quietE (HCp.out _ (ext_grow _ _)))
            | (go_at_call 21; exact Calls.quietE (HCa.out _))))
          refine wpQuiet_nil ?_
          intro W hW'
          replace hW := hb.trans hW'
          go_wp2
          go_ret
          exact ⟨by rw [rightB_no hlt (okAt_wrong HW.out)]; rfl, hW⟩
        | false =>
          have HW := Lib.hid (wrongB_no (e := ent xs k) (by have := of_decide_eq_false hlo; omega) (by have := of_decide_eq_false hhi; omega))
          have HCp0 : Hid (∀ W, Ext wr W → Calls Try.prog 17 #[.slice (some ⟨b, off, none⟩) xs.length cap, .int .u64 (ent xs k).1] W fun e w' => e = .returned (.int .i64 (optI (idxOf (ent xs k).1 xs))) ∧ Ext W w') := fun W h =>
            rplace_w xs _ _ W (by omega) (hxr.ext h)
          have HCp1 : Hid (idxOf (ent xs k).1 xs = some k → ∀ W, Ext wr W → Calls Try.prog 17 #[.slice (some ⟨b, off, none⟩) xs.length cap, .int .u64 (ent xs k).1] W fun e w' => e = .returned (.int .i64 (k : Int)) ∧ Ext W w') := fun hi W h => by
            have := HCp0.out W h
            rwa [hi] at this
          rcases Nat.eq_zero_or_pos k with rfl | hpos
          · simp only [Nat.zero_mul, Nat.add_zero] at c0 c1
            by_cases hid : idxOf (ent xs 0).1 xs = some 0
            · have HCp : Hid (∀ W, Ext wr W → Calls Try.prog 17 #[.slice (some ⟨b, off, none⟩) xs.length cap, .int .u64 (ent xs 0).1] W fun e w' => e = .returned (.int .i64 0) ∧ Ext W w') := HCp1.out hid
              have HI := Lib.hid hid; clear hid
              go_wp2_with fail
              refine Dm.wp_region_grow (by kernel_rfl) (by kernel_rfl) ?_
              repeat (go_big_quiet_step (first
                | (go_at_call 17; exact Calls.quietE (HCp.out _ (ext_grow _ _)))
                | (go_at_call 21; exact Calls.quietE (HCa.out _))))
              refine wpQuiet_nil ?_
              intro W hW'
              replace hW := hb.trans hW'
              go_wp2
              go_roundw
              case rel => exact ⟨0 + 1, by omega, by go_num, hW, fun j hj => by
                rcases Nat.lt_succ_iff_lt_or_eq.1 hj with h | rfl
                · exact HN.out j h
                · exact okAt_zero HW.out HI.out⟩
              case measure => simp [intOf]; omega
            · have HCp := HCp0
              have hne := optI_ne hid
              simp only [Int.cast_ofNat_Int] at hne
              have HI := Lib.hid hid; clear hid
              go_wp2_with fail
              refine Dm.wp_region_grow (by kernel_rfl) (by kernel_rfl) ?_
              repeat (go_big_quiet_step (first
                | (go_at_call 17; exact Calls.quietE (HCp.out _ (ext_grow _ _)))
                | (go_at_call 21; exact Calls.quietE (HCa.out _))))
              refine wpQuiet_nil ?_
              intro W hW'
              replace hW := hb.trans hW'
              go_wp2
              go_ret
              exact ⟨by rw [rightB_no hlt (okAt_idx HI.out)]; rfl, hW⟩
          · obtain ⟨j, rfl⟩ : ∃ j, k = j + 1 := ⟨k - 1, by omega⟩
            have c2 := (hxr.cells (k := j) (by omega)).2.1
            have c3 := (hxr.cells (k := j) (by omega)).2.2
            cases ha : aheadB (ent xs j) (ent xs (j + 1)) with
            | false =>
              have HCa : Hid (∀ W, Calls Try.prog 21 #[.agg #[.int .u64 (ent xs j).1, .int .i64 (ent xs j).2], .agg #[.int .u64 (ent xs (j + 1)).1, .int .i64 (ent xs (j + 1)).2]] W fun e w' => e = .returned (.bool false) ∧ Ext W w') := fun W => by
                have := rahead_w (ent xs j).1 (ent xs j).2 (ent xs (j + 1)).1 (ent xs (j + 1)).2 W
                rwa [show aheadB ((ent xs j).1, (ent xs j).2) ((ent xs (j + 1)).1, (ent xs (j + 1)).2) = false from ha] at this
              have HA := Lib.hid ha; clear ha
              go_wp2_with fail
              refine Dm.wp_region_grow (by kernel_rfl) (by kernel_rfl) ?_
              repeat (go_big_quiet_step (first
                | (go_at_call 17; exact Calls.quietE (HCp.out _ (ext_grow _ _)))
                | (go_at_call 21; exact Calls.quietE (HCa.out _))))
              refine wpQuiet_nil ?_
              intro W hW'
              replace hW := hb.trans hW'
              go_wp2
              go_ret
              exact ⟨by rw [rightB_no hlt (okAt_behind HA.out)]; rfl, hW⟩
            | true =>
              have HCa : Hid (∀ W, Calls Try.prog 21 #[.agg #[.int .u64 (ent xs j).1, .int .i64 (ent xs j).2], .agg #[.int .u64 (ent xs (j + 1)).1, .int .i64 (ent xs (j + 1)).2]] W fun e w' => e = .returned (.bool true) ∧ Ext W w') := fun W => by
                have := rahead_w (ent xs j).1 (ent xs j).2 (ent xs (j + 1)).1 (ent xs (j + 1)).2 W
                rwa [show aheadB ((ent xs j).1, (ent xs j).2) ((ent xs (j + 1)).1, (ent xs (j + 1)).2) = true from ha] at this
              have HA := Lib.hid ha; clear ha
              by_cases hid : idxOf (ent xs (j + 1)).1 xs = some (j + 1)
              · have HCp : Hid (∀ W, Ext wr W → Calls Try.prog 17 #[.slice (some ⟨b, off, none⟩) xs.length cap, .int .u64 (ent xs (j + 1)).1] W fun e w' => e = .returned (.int .i64 ((j : Int) + 1)) ∧ Ext W w') := HCp1.out hid
                have HI := Lib.hid hid; clear hid
                go_wp2_with fail
                refine Dm.wp_region_grow (by kernel_rfl) (by kernel_rfl) ?_
                repeat (go_big_quiet_step (first
                  | (go_at_call 17; exact Calls.quietE (HCp.out _ (ext_grow _ _)))
                  | (go_at_call 21; exact Calls.quietE (HCa.out _))))
                refine wpQuiet_nil ?_
                intro W hW'
                replace hW := hb.trans hW'
                go_wp2
                go_roundw
                case rel => exact ⟨(j + 1) + 1, by omega, by go_num, hW, fun j hj => by
                  rcases Nat.lt_succ_iff_lt_or_eq.1 hj with h | rfl
                  · exact HN.out j h
                  · exact okAt_succ HW.out HI.out HA.out⟩
                case measure => simp [intOf]; omega
              · have HCp := HCp0
                have hne := optI_ne hid
                simp only [Int.natCast_add, Int.cast_ofNat_Int] at hne
                have HI := Lib.hid hid; clear hid
                go_wp2_with fail
                refine Dm.wp_region_grow (by kernel_rfl) (by kernel_rfl) ?_
                repeat (go_big_quiet_step (first
                  | (go_at_call 17; exact Calls.quietE (HCp.out _ (ext_grow _ _)))
                  | (go_at_call 21; exact Calls.quietE (HCa.out _))))
                refine wpQuiet_nil ?_
                intro W hW'
                replace hW := hb.trans hW'
                go_wp2
                go_ret
                exact ⟨by rw [rightB_no hlt (okAt_idx HI.out)]; rfl, hW⟩
    · go_wp2
      go_ret
      obtain rfl : k = xs.length := by omega
      refine ⟨?_, hb⟩
      rw [rightB_end HN.out, show decide (xs.length ≤ 32) = true from decide_eq_true (by omega)]
      rfl

end Go.Proofs.Ytgkjpablofckjaa
