/- Chapter 14: the walks of the laws' helpers: refQ, sameQ, same, pushed. -/
import Derived.Test.YtgkjpablofckjaaQWalkE
namespace Go.Proofs.Ytgkjpablofckjaa
open Go.RowKit Go.Dm

theorem take_snoc {xs : List Ent} {k : Nat} (h : k < xs.length) : xs.take (k + 1) = xs.take k ++ [ent xs k] := by
  rw [List.take_succ_eq_append_getElem h]
  simp [ent, h]

set_option maxHeartbeats 1000000 in
theorem refQ_w (xs : List Ent) (v : Value) (w : World) (hm : xs.length ≤ 8796093022208) (hx : Ents w v xs) :
    Calls Try.prog 10 #[v] w fun e w' => ∃ r, e = .returned r ∧ Ents w' r xs ∧ Ext w w' := by
  obtain ⟨q, cap, rfl, hcap, hcm⟩ := hx.shape
  go_enter Try.func10, Try.ntmps10
  go_wp2
  go_loopw [3, 4] (fun r i' wr => ∃ k : Nat, k ≤ xs.length ∧ i' = .int .i64 k ∧ Ext w wr ∧ wr.ownsRow w.heap.size 34 2 r k (entCells (xs.take k))) (fun _ i' _ => xs.length - (intOf i').toNat)
  case atStart => exact ⟨0, by omega, rfl, Ext.refl _, World.ownsRow_nil _ _ _ _⟩
  case round =>
    obtain ⟨k, hk, rfl, hb, ho⟩ := hrel
    by_cases hlt : k < xs.length
    · obtain ⟨b, off, rfl, hbl, c0, c1⟩ := hx.at hlt
      go_wp2_with fail
      try simp only [Act.put, List.setIfInBounds_toArray, List.set_cons_succ, List.set_cons_zero]
      refine Dm.wp_region_ext 15 (Dm.bits 15 0) hb (by kernel_rfl) (by kernel_rfl) (by kernel_rfl) ?_
      refine Dm.wpE_take (i := 0) (listed' := (Dm.bits 15 1)) (by kernel_rfl) (by kernel_rfl) rfl (fun _ _ _ _ h => h) ?_; apply Exists.intro; refine And.intro (fun x => ?_) ?_
      · go_big_quiet_step (fail); exact wpQuiet_nil rfl
      refine Dm.wpE_take (i := 1) (listed' := (Dm.bits 15 3)) (by kernel_rfl) (by kernel_rfl) rfl (fun _ _ _ _ h => h) ?_; apply Exists.intro; refine And.intro (fun x => ?_) ?_
      · go_big_quiet_step (fail); exact wpQuiet_nil rfl
      refine Dm.wpE_take (i := 2) (listed' := (Dm.bits 15 7)) (by kernel_rfl) (by kernel_rfl) rfl (fun _ _ _ _ h => h) ?_; apply Exists.intro; refine And.intro (fun x => ?_) ?_
      · go_big_quiet_step (fail); exact wpQuiet_nil rfl
      refine Dm.wpE_take (i := 3) (listed' := (Dm.bits 15 15)) (by kernel_rfl) (by kernel_rfl) rfl (fun _ _ _ _ h => h) ?_; apply Exists.intro; refine And.intro (fun x => ?_) ?_
      · go_big_quiet_step (fail); exact wpQuiet_nil rfl
      refine Dm.wpE_take (i := 4) (listed' := (Dm.bits 15 31)) (by kernel_rfl) (by kernel_rfl) rfl (fun _ _ _ _ h => h) ?_; apply Exists.intro; refine And.intro (fun x => ?_) ?_
      · go_big_quiet_step (fail); exact wpQuiet_nil rfl
      refine Dm.wpE_take (i := 5) (listed' := (Dm.bits 15 63)) (by kernel_rfl) (by kernel_rfl) rfl (fun _ _ _ _ h => h) ?_; apply Exists.intro; refine And.intro (fun x => ?_) ?_
      · go_big_quiet_step (fail); exact wpQuiet_nil rfl
      refine Dm.wpE_take (i := 6) (listed' := (Dm.bits 15 127)) (by kernel_rfl) (by kernel_rfl) rfl (fun _ _ _ _ h => h) ?_; apply Exists.intro; refine And.intro (fun x => ?_) ?_
      · go_big_quiet_step (fail); exact wpQuiet_nil rfl
      refine Dm.wpE_take (i := 7) (listed' := (Dm.bits 15 255)) (by kernel_rfl) (by kernel_rfl) rfl (fun _ _ _ _ h => h) ?_; apply Exists.intro; refine And.intro (fun x => ?_) ?_
      · go_big_quiet_step (fail); exact wpQuiet_nil rfl
      refine Dm.wpE_take (i := 8) (listed' := (Dm.bits 15 511)) (by kernel_rfl) (by kernel_rfl) rfl (fun _ _ _ _ h => h) ?_; apply Exists.intro; refine And.intro (fun x => ?_) ?_
      · go_big_quiet_step (fail); exact wpQuiet_nil rfl
      refine Dm.wpE_take (i := 9) (listed' := (Dm.bits 15 1023)) (by kernel_rfl) (by kernel_rfl) rfl (fun _ _ _ _ h => h) ?_; apply Exists.intro; refine And.intro (fun x => ?_) ?_
      · go_big_quiet_step (fail); exact wpQuiet_nil rfl
      refine Dm.wpE_take (i := 10) (listed' := (Dm.bits 15 2047)) (by kernel_rfl) (by kernel_rfl) rfl (fun _ _ _ _ h => h) ?_; apply Exists.intro; refine And.intro (fun x => ?_) ?_
      · go_big_quiet_step (fail); exact wpQuiet_nil rfl
      refine Dm.wpE_take (i := 11) (listed' := (Dm.bits 15 4095)) (by kernel_rfl) (by kernel_rfl) rfl (fun _ _ _ _ h => h) ?_; apply Exists.intro; refine And.intro (fun x => ?_) ?_
      · go_big_quiet_step (fail); exact wpQuiet_nil rfl
      refine Dm.wpE_one (i := 12) (listed' := (Dm.bits 15 8191)) (by kernel_rfl) (by kernel_rfl) rfl hb (fun w1a hx1a => ?_)
      have hX1a := Ext.trans hb hx1a
      have hoa := Ext.row ho hx1a
      go_wp2_with fail
      have hl := Sl.lit w1a 34 2 1 #[.int .u64 (ent xs k).1, .int .i64 (ent xs k).2] rfl (by simp [maxLen])
      have hs1 := (Ext.refl w1a).alloc (.cells #[.int .u64 (ent xs k).1, .int .i64 (ent xs k).2] 34)
      generalize w1a.alloc (.cells #[.int .u64 (ent xs k).1, .int .i64 (ent xs k).2] 34) = w1b at *
      have hX1b := Ext.trans hX1a hs1
      replace hoa := Ext.row hoa hs1
      try simp only [Exit.then, Act.put, List.setIfInBounds_toArray, List.set_cons_succ, List.set_cons_zero]
      refine Dm.wpE_one (i := 13) (listed' := (Dm.bits 15 16383)) (by kernel_rfl) (by kernel_rfl) rfl hX1b (fun w2a hx2a => ?_)
      have hX2a := Ext.trans hX1b hx2a
      replace hl := hl.ext hx2a
      refine wpList_appE rfl _ _ Try.slREnt rfl hX2a rfl (Ext.row hoa hx2a) rfl hl (entCells_one [ent xs k]) (by omega) ?_
      intro v2 w2b ho3 hX2b _
      refine wpList_nil ?_
      try simp only [Exit.then, Act.put, List.setIfInBounds_toArray, List.set_cons_succ, List.set_cons_zero]
      refine Dm.wpE_take (i := 14) (listed' := (Dm.bits 15 32767)) (by kernel_rfl) (by kernel_rfl) rfl (fun _ _ _ _ h => h) ?_; apply Exists.intro; refine And.intro (fun x => ?_) ?_
      · go_big_quiet_step (fail); exact wpQuiet_nil rfl
      refine Dm.wpE_done (by kernel_rfl) hX2b (fun w3a hx3a => ?_)
      have hX3a := Ext.trans hX2b hx3a
      replace ho3 := Ext.row ho3 hx3a
      go_wp2
      go_roundw
      case rel => exact ⟨k + 1, by omega, by go_num, hX3a, by rw [take_snoc hlt, entCells_append]; exact ho3⟩
      case measure => simp [intOf]; omega
    · go_wp2
      go_ret
      obtain rfl : k = xs.length := by omega
      rw [List.take_length] at ho
      exact ⟨_, rfl, Ents.of_row ho rfl rfl, hb⟩

theorem ents_eq {xs ys : List Ent} (hl : xs.length = ys.length) (h : ∀ j, j < xs.length → ent xs j = ent ys j) : xs = ys := by
  apply List.ext_getElem hl
  intro i h1 h2
  have := h i h1
  simpa [ent, h1, h2] using this

set_option maxHeartbeats 1000000 in
theorem same_w (xs ys : List Ent) (v u : Value) (w : World) (hm : xs.length ≤ 8796093022208) (hx : Ents w v xs) (hy : Ents w u ys) :
    Calls Try.prog 23 #[v, u] w fun e w' => e = .returned (.bool (decide (xs = ys))) ∧ Ext w w' := by
  obtain ⟨q, cap, rfl, hcap, hcm⟩ := hx.shape
  obtain ⟨q', cap', rfl, hcap', hcm'⟩ := hy.shape
  by_cases hlen : xs.length = ys.length
  · have hne : ((xs.length : Int) != (ys.length : Int)) = false := by simp [hlen]
    have HL := Lib.hid hlen; clear hlen
    go_enter Try.func23, Try.ntmps23
    go_wp2
    go_loopw [5] (fun i' wr => ∃ k : Nat, k ≤ xs.length ∧ i' = .int .i64 k ∧ Ext w wr ∧ Hid (∀ j, j < k → ent xs j = ent ys j)) (fun i' _ => xs.length - (intOf i').toNat)
    case atStart => exact ⟨0, by omega, rfl, Ext.refl _, fun j hj => by omega⟩
    case round =>
      obtain ⟨k, hk, rfl, hb, HN⟩ := hrel
      by_cases hlt : k < xs.length
      · have hlt' : k < ys.length := by have := HL.out; omega
        have hxr := hx.ext hb
        obtain ⟨b, off, rfl, hbl, c0, c1⟩ := hxr.at hlt
        have hyr := hy.ext hb
        obtain ⟨b', off', rfl, hbl', c0', c1'⟩ := hyr.at hlt'
        cases h1 : ((ent xs k).1 == (ent ys k).1) with
        | false =>
          have HE : Hid (xs ≠ ys) := fun e => by rw [e] at h1; simp at h1
          go_wp2_with fail
          refine Dm.wp_region_grow (by kernel_rfl) (by kernel_rfl) ?_
          repeat (go_big_quiet_step (fail))
          refine wpQuiet_nil ?_
          intro W hW'
          go_wp2
          go_ret
          exact ⟨by rw [decide_eq_false HE.out]; rfl, hb.trans hW'⟩
        | true =>
          cases h2 : ((ent xs k).2 == (ent ys k).2) with
          | false =>
            have HE : Hid (xs ≠ ys) := fun e => by rw [e] at h2; simp at h2
            go_wp2_with fail
            refine Dm.wp_region_grow (by kernel_rfl) (by kernel_rfl) ?_
            repeat (go_big_quiet_step (fail))
            refine wpQuiet_nil ?_
            intro W hW'
            go_wp2
            go_ret
            exact ⟨by rw [decide_eq_false HE.out]; rfl, hb.trans hW'⟩
          | true =>
            have HE : Hid (ent xs k = ent ys k) := Prod.ext (by simpa using h1) (by simpa using h2)
            go_wp2_with fail
            refine Dm.wp_region_grow (by kernel_rfl) (by kernel_rfl) ?_
            repeat (go_big_quiet_step (fail))
            refine wpQuiet_nil ?_
            intro W hW'
            go_wp2
            go_roundw
            case rel => exact ⟨k + 1, by omega, by go_num, hb.trans hW', fun j hj => by
              rcases Nat.lt_succ_iff_lt_or_eq.1 hj with h | rfl
              · exact HN.out j h
              · exact HE.out⟩
            case measure => simp [intOf]; omega
      · go_wp2
        go_ret
        obtain rfl : k = xs.length := by omega
        exact ⟨by rw [decide_eq_true (ents_eq HL.out HN.out)]; rfl, hb⟩
  · have hne : ((xs.length : Int) != (ys.length : Int)) = true := by rw [bne_iff_ne]; omega
    go_enter Try.func23, Try.ntmps23
    go_wp2
    go_ret
    exact ⟨by rw [decide_eq_false (fun h => hlen (congrArg _ h))]; rfl, Ext.refl _⟩

set_option maxHeartbeats 1000000 in
theorem sameQ_w (xs ys : List Ent) (v u : Value) (w : World) (hm : xs.length ≤ 8796093022208) (hx0 : Ents w v xs) (hy : Ents w u ys) :
    Calls Try.prog 15 #[v, u] w fun e w' => e = .returned (.bool (decide (xs = ys))) ∧ Ext w w' := by
  obtain ⟨q', cap', rfl, hcap', hcm'⟩ := hy.shape
  by_cases hlen : xs.length = ys.length
  · have hne : ((xs.length : Int) != (ys.length : Int)) = false := by simp [hlen]
    have HL := Lib.hid hlen; clear hlen
    go_enter Try.func15, Try.ntmps15
    go_wp2_with (go_at_call 10; go_must (refine (refQ_w xs _ _ hm hx0).mono ?_; rintro e w1 ⟨r, rfl, hx, hb0⟩; obtain ⟨q, cap, rfl, hcap, hcm⟩ := hx.shape; replace hy := hy.ext hb0))
    go_loopw [6] (fun i' wr => ∃ k : Nat, k ≤ xs.length ∧ i' = .int .i64 k ∧ Ext w1 wr ∧ Hid (∀ j, j < k → ent xs j = ent ys j)) (fun i' _ => xs.length - (intOf i').toNat)
    case atStart => exact ⟨0, by omega, rfl, Ext.refl _, fun j hj => by omega⟩
    case round =>
      obtain ⟨k, hk, rfl, hb, HN⟩ := hrel
      by_cases hlt : k < xs.length
      · have hlt' : k < ys.length := by have := HL.out; omega
        have hxr := hx.ext hb
        obtain ⟨b, off, rfl, hbl, c0, c1⟩ := hxr.at hlt
        have hyr := hy.ext hb
        obtain ⟨b', off', rfl, hbl', c0', c1'⟩ := hyr.at hlt'
        cases h1 : ((ent xs k).1 == (ent ys k).1) with
        | false =>
          have HE : Hid (xs ≠ ys) := fun e => by rw [e] at h1; simp at h1
          go_wp2_with fail
          refine Dm.wp_region_grow (by kernel_rfl) (by kernel_rfl) ?_
          repeat (go_big_quiet_step (fail))
          refine wpQuiet_nil ?_
          intro W hW'
          go_wp2
          go_ret
          exact ⟨by rw [decide_eq_false HE.out]; rfl, hb0.trans (hb.trans hW')⟩
        | true =>
          cases h2 : ((ent xs k).2 == (ent ys k).2) with
          | false =>
            have HE : Hid (xs ≠ ys) := fun e => by rw [e] at h2; simp at h2
            go_wp2_with fail
            refine Dm.wp_region_grow (by kernel_rfl) (by kernel_rfl) ?_
            repeat (go_big_quiet_step (fail))
            refine wpQuiet_nil ?_
            intro W hW'
            go_wp2
            go_ret
            exact ⟨by rw [decide_eq_false HE.out]; rfl, hb0.trans (hb.trans hW')⟩
          | true =>
            have HE : Hid (ent xs k = ent ys k) := Prod.ext (by simpa using h1) (by simpa using h2)
            go_wp2_with fail
            refine Dm.wp_region_grow (by kernel_rfl) (by kernel_rfl) ?_
            repeat (go_big_quiet_step (fail))
            refine wpQuiet_nil ?_
            intro W hW'
            go_wp2
            go_roundw
            case rel => exact ⟨k + 1, by omega, by go_num, hb.trans hW', fun j hj => by
              rcases Nat.lt_succ_iff_lt_or_eq.1 hj with h | rfl
              · exact HN.out j h
              · exact HE.out⟩
            case measure => simp [intOf]; omega
      · go_wp2
        go_ret
        obtain rfl : k = xs.length := by omega
        exact ⟨by rw [decide_eq_true (ents_eq HL.out HN.out)]; rfl, hb0.trans hb⟩
  · have hne : ((xs.length : Int) != (ys.length : Int)) = true := by rw [bne_iff_ne]; omega
    go_enter Try.func15, Try.ntmps15
    go_wp2_with (go_at_call 10; go_must (refine (refQ_w xs _ _ hm hx0).mono ?_; rintro e w1 ⟨r, rfl, hx, hb0⟩; obtain ⟨q, cap, rfl, hcap, hcm⟩ := hx.shape; replace hy := hy.ext hb0))
    go_ret
    exact ⟨by rw [decide_eq_false (fun h => hlen (congrArg _ h))]; rfl, hb0⟩

end Go.Proofs.Ytgkjpablofckjaa
