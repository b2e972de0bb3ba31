/- Chapter 14: the walks of the program's Push, Take, Right. -/
import Derived.Test.YtgkjpablofckjaaInsQ
namespace Go.Proofs.Ytgkjpablofckjaa
open Go.RowKit Go.Dm

set_option maxHeartbeats 400000 in
theorem oplace_w (xs : List Ent) (i p : Int) (v : Value) (w : World) (hm : xs.length ≤ 8796093022208) (hx : Ents w v xs) :
    Calls Try.prog 27 #[.agg #[.func (.func 20) #[] #[]], v, .agg #[.int .u64 i, .int .i64 p]] w
      fun e w' => e = .returned (.int .i64 (placeF (i, p) xs : Nat)) ∧ Ext w w' := by
  obtain ⟨q, cap, rfl, hcap, hcm⟩ := hx.shape
  have fin : Ext w ((w.alloc (.cells #[.func (.func 20) #[] #[]] 58)).alloc (.cells #[.int .u64 i, .int .i64 p] 25)) := ((Ext.refl _).alloc _).alloc _
  go_enter Try.func27, Try.ntmps27
  go_wp2
  go_loopw [11] (fun i' wr => ∃ k : Nat, k ≤ xs.length ∧ i' = .int .i64 k ∧ Ext ((w.alloc (.cells #[.func (.func 20) #[] #[]] 58)).alloc (.cells #[.int .u64 i, .int .i64 p] 25)) wr ∧ Hid (∀ j, j < k → aheadB (i, p) (ent xs j) = false)) (fun i' _ => xs.length - (intOf i').toNat)
  case atStart => exact ⟨0, by omega, rfl, Ext.refl _, fun j hj => by omega⟩
  case round =>
    obtain ⟨k, hk, rfl, hb, HN⟩ := hrel
    by_cases hlt : k < xs.length
    · obtain ⟨b, off, rfl, hbl, c0, c1⟩ := ((hx.ext fin).ext hb).at hlt
      have hb2 : Ext (w.alloc (.cells #[.func (.func 20) #[] #[]] 58)) wr := Ext.trans ((Ext.refl _).alloc _) hb
      obtain ⟨gs, g⟩ := hb2.box
      have g0 := g 0 _ rfl
      obtain ⟨gs', g'⟩ := hb.box
      have g1 := g' 0 _ rfl
      have g2 := g' 1 _ rfl
      clear g g'
      simp only [World.size_alloc] at gs' g1 g2
      go_wp2_with (go_at_call 20; go_must (refine (ahead_w _ _ _ _ _).mono ?_; rintro e w' ⟨rfl, hb1⟩))
      · rename_i ht
        go_ret
        exact ⟨by rw [placeF_hit hlt HN.out ht]; rfl, (fin.trans hb).trans (Ext.trans ((Ext.refl _).alloc _) hb1)⟩
      · rename_i ht
        go_roundw
        case rel => exact ⟨k + 1, by omega, by go_num, hb.trans (Ext.trans ((Ext.refl _).alloc _) hb1), fun j hj => by
          rcases Nat.lt_succ_iff_lt_or_eq.1 hj with h | rfl
          · exact HN.out j h
          · exact ht⟩
        case measure => simp [intOf]; omega
    · go_wp2
      go_ret
      obtain rfl : k = xs.length := by omega
      exact ⟨by rw [placeF_miss HN.out]; rfl, fin.trans hb⟩

set_option maxHeartbeats 400000 in
theorem push_w (xs : List Ent) (i p : Int) (v : Value) (w : World) (hm : xs.length ≤ 8796093022208) (hx : Ents w v xs) :
    Calls Try.prog 11 #[v, .agg #[.int .u64 i, .int .i64 p]] w
      fun e w' => ∃ r, e = .returned (.tuple #[r, .int .i64 (pushF xs (i, p)).2]) ∧ Ents w' r (pushF xs (i, p)).1 ∧ Ext w w' := by
  obtain ⟨q, cap, rfl, hcap, hcm⟩ := hx.shape
  have fin : Ext w (w.alloc (.cells #[.int .u64 i, .int .i64 p] 25)) := (Ext.refl _).alloc _
  cases hw : wrongB (i, p) with
  | true =>
    have HP := Lib.hid (pushF_arg (q := xs) hw)
    have HW := Lib.hid hw; clear hw
    go_enter Try.func11, Try.ntmps11
    go_wp2_with (go_at_call 24; go_must (have hc := wrong_w i p (w.alloc (.cells #[.int .u64 i, .int .i64 p] 25)); rw [HW.out] at hc; refine hc.mono ?_; clear hc; rintro e w1 ⟨rfl, hb1⟩))
    go_ret2
    rw [HP.out]
    exact ⟨_, rfl, hx.ext (fin.trans hb1), fin.trans hb1⟩
  | false =>
    have hx0 := hx.ext fin
    cases hk : idxOf i xs with
    | some k =>
      have HP := Lib.hid (pushF_twice hw hk)
      have HW := Lib.hid hw; clear hw
      have HK := Lib.hid hk; clear hk
      go_enter Try.func11, Try.ntmps11
      go_wp2_with (first
        | (go_at_call 24; go_must (have hc := wrong_w i p (w.alloc (.cells #[.int .u64 i, .int .i64 p] 25)); rw [HW.out] at hc; refine hc.mono ?_; clear hc; rintro e w1 ⟨rfl, hb1⟩; obtain ⟨gs, g⟩ := hb1.box; have g0 := g 0 _ rfl; clear g))
        | (go_at_call 16; go_must (have hp := place_w xs i _ w1 (by omega) (hx0.ext hb1); rw [HK.out] at hp; refine hp.mono ?_; clear hp; rintro e w2 ⟨rfl, hb2⟩; simp only [optI])))
      go_ret2
      rw [HP.out]
      exact ⟨_, rfl, (hx0.ext hb1).ext hb2, (fin.trans hb1).trans hb2⟩
    | none =>
      by_cases hl : 32 ≤ xs.length
      · have HP := Lib.hid (pushF_full hw hk hl)
        have HW := Lib.hid hw; clear hw
        have HK := Lib.hid hk; clear hk
        go_enter Try.func11, Try.ntmps11
        go_wp2_with (first
          | (go_at_call 24; go_must (have hc := wrong_w i p (w.alloc (.cells #[.int .u64 i, .int .i64 p] 25)); rw [HW.out] at hc; refine hc.mono ?_; clear hc; rintro e w1 ⟨rfl, hb1⟩; obtain ⟨gs, g⟩ := hb1.box; have g0 := g 0 _ rfl; clear g))
          | (go_at_call 16; go_must (have hp := place_w xs i _ w1 (by omega) (hx0.ext hb1); rw [HK.out] at hp; refine hp.mono ?_; clear hp; rintro e w2 ⟨rfl, hb2⟩; simp only [optI])))
        go_ret2
        rw [HP.out]
        exact ⟨_, rfl, (hx0.ext hb1).ext hb2, (fin.trans hb1).trans hb2⟩
      · have hl' : xs.length < 32 := by omega
        have HP := Lib.hid (pushF_ok hw hk hl')
        have HW := Lib.hid hw; clear hw
        have HK := Lib.hid hk; clear hk
        go_enter Try.func11, Try.ntmps11
        go_wp2_with (first
          | (go_at_call 24; go_must (have hc := wrong_w i p (w.alloc (.cells #[.int .u64 i, .int .i64 p] 25)); rw [HW.out] at hc; refine hc.mono ?_; clear hc; rintro e w1 ⟨rfl, hb1⟩; obtain ⟨gs, g⟩ := hb1.box; have g0 := g 0 _ rfl; clear g))
          | (go_at_call 16; go_must (have hp := place_w xs i _ w1 (by omega) (hx0.ext hb1); rw [HK.out] at hp; refine hp.mono ?_; clear hp; rintro e W ⟨rfl, hb2⟩; simp only [optI])))
        have hbW := hb1.trans hb2
        have hxW := hx0.ext hbW
        clear g0 gs
        obtain ⟨gs, g⟩ := hbW.box
        have g0 := g 0 _ rfl
        have g1 := g 1 _ rfl
        clear g
        try simp only [Act.put, List.setIfInBounds_toArray, List.set_cons_succ, List.set_cons_zero]
        refine Dm.wp_region_ext 11 (Dm.bits 11 0) (Ext.refl _) (by kernel_rfl) (by kernel_rfl) (by kernel_rfl) ?_
        refine Dm.wpE_take (i := 0) (listed' := (Dm.bits 11 1)) (by kernel_rfl) (by kernel_rfl) rfl (fun _ _ _ _ h => h) ?_; apply Exists.intro; refine And.intro (fun x => ?_) ?_
        · go_big_quiet_step (((go_at_call 27; exact Calls.quietE (oplace_w xs i p _ _ (by omega) ((hxW.ext (ext_grow _ _)).ext (ext_grow _ _)))))); exact wpQuiet_nil rfl
        refine Dm.wpE_take (i := 2) (listed' := (Dm.bits 11 5)) (by kernel_rfl) (by kernel_rfl) rfl (fun _ _ _ _ h => h) ?_; apply Exists.intro; refine And.intro (fun x => ?_) ?_
        · go_big_quiet_step (((go_at_call 27; exact Calls.quietE (oplace_w xs i p _ _ (by omega) ((hxW.ext (ext_grow _ _)).ext (ext_grow _ _)))))); exact wpQuiet_nil rfl
        refine Dm.wpE_take (i := 3) (listed' := (Dm.bits 11 13)) (by kernel_rfl) (by kernel_rfl) rfl (fun _ _ _ _ h => h) ?_; apply Exists.intro; refine And.intro (fun x => ?_) ?_
        · go_big_quiet_step (((go_at_call 27; exact Calls.quietE (oplace_w xs i p _ _ (by omega) ((hxW.ext (ext_grow _ _)).ext (ext_grow _ _)))))); exact wpQuiet_nil rfl
        refine Dm.wpE_take (i := 4) (listed' := (Dm.bits 11 29)) (by kernel_rfl) (by kernel_rfl) rfl (fun _ _ _ _ h => h) ?_; apply Exists.intro; refine And.intro (fun x => ?_) ?_
        · go_big_quiet_step (((go_at_call 27; exact Calls.quietE (oplace_w xs i p _ _ (by omega) ((hxW.ext (ext_grow _ _)).ext (ext_grow _ _)))))); exact wpQuiet_nil rfl
        refine Dm.wpE_take (i := 6) (listed' := (Dm.bits 11 93)) (by kernel_rfl) (by kernel_rfl) rfl (fun _ _ _ _ h => h) ?_; apply Exists.intro; refine And.intro (fun x => ?_) ?_
        · go_big_quiet_step (((go_at_call 27; exact Calls.quietE (oplace_w xs i p _ _ (by omega) ((hxW.ext (ext_grow _ _)).ext (ext_grow _ _)))))); exact wpQuiet_nil rfl
        refine Dm.wpE_two (i := 1) (j := 7) (li := (Dm.bits 11 95)) (lj := (Dm.bits 11 221)) (by kernel_rfl) (by kernel_rfl) (by kernel_rfl) rfl rfl (Ext.refl _) (fun w1a hx1a => ?_) (fun w1a hx1a => ?_)
        ·
          have hX1a := Ext.trans (Ext.refl _) hx1a
          go_wp2_with (go_at_call 26; go_must (refine (clone_w xs.length _ _ _ (by omega) (hxW.ext hX1a) (entCells_one _)).mono ?_; rintro e w1b ⟨r1, rfl, ho1, hs1⟩))
          try (have hne : r1.ownBlock ≠ some gu := fun e => by have h1 := (ho1.lt _ e).1; have h2 := (Array.getElem?_eq_some_iff.1 hgu).1; omega)
          replace ho1 := rowMono ho1 hX1a.size
          have hX1b := Ext.trans hX1a hs1
          try simp only [Exit.then, Act.put, List.setIfInBounds_toArray, List.set_cons_succ, List.set_cons_zero]
          refine Dm.wpE_take (i := 5) (listed' := (Dm.bits 11 127)) (by kernel_rfl) (by kernel_rfl) rfl (fun _ _ _ _ h => h) ?_; apply Exists.intro; refine And.intro (fun x => ?_) ?_
          · go_big_quiet_step (((go_at_call 27; exact Calls.quietE (oplace_w xs i p _ _ (by omega) ((hxW.ext (ext_grow _ _)).ext (ext_grow _ _)))))); exact wpQuiet_nil rfl
          refine Dm.wpE_one (i := 7) (listed' := (Dm.bits 11 255)) (by kernel_rfl) (by kernel_rfl) rfl hX1b (fun w2a hx2a => ?_)
          have hX2a := Ext.trans hX1b hx2a
          replace ho1 := Ext.row ho1 hx2a
          go_wp2_with fail
          have hs2 := (Ext.refl w2a).alloc (.cells #[.int .u64 i, .int .i64 p] 25)
          have hgu : (w2a.alloc (.cells #[.int .u64 i, .int .i64 p] 25)).heap[w2a.heap.size]? = some (.cells [.int .u64 i, .int .i64 p].toArray 25 (0, 0)) := heap_alloc_new _ _
          try (have hne : r1.ownBlock ≠ some w2a.heap.size := fun e => by have := (ho1.lt _ e).2; omega)
          generalize w2a.heap.size = gu at *
          generalize w2a.alloc (.cells #[.int .u64 i, .int .i64 p] 25) = w2b at *
          have hX2b := Ext.trans hX2a hs2
          replace ho1 := Ext.row ho1 hs2
          try simp only [Exit.then, Act.put, List.setIfInBounds_toArray, List.set_cons_succ, List.set_cons_zero]
          refine Dm.wpE_one (i := 8) (listed' := (Dm.bits 11 511)) (by kernel_rfl) (by kernel_rfl) rfl hX2b (fun w3a hx3a => ?_)
          have hX3a := Ext.trans hX2b hx3a
          replace ho1 := Ext.row ho1 hx3a
          replace hgu := Ext.heap hgu hx3a
          go_wp2_with (go_at_call 25; go_must (refine (insert_w W (entCells xs) _ r1 xs.length (placeF (i, p) xs) gu _ (by omega) (placeF_le _ _) hX3a ho1 rfl (entCells_one [(i, p)]) (entCells_one _) hgu hne).mono ?_; rintro e w3b ⟨r2, rfl, ho2, hX3b⟩))
          try simp only [Exit.then, Act.put, List.setIfInBounds_toArray, List.set_cons_succ, List.set_cons_zero]
          refine Dm.wpE_take (i := 9) (listed' := (Dm.bits 11 1023)) (by kernel_rfl) (by kernel_rfl) rfl (fun _ _ _ _ h => h) ?_; apply Exists.intro; refine And.intro (fun x => ?_) ?_
          · go_big_quiet_step (((go_at_call 27; exact Calls.quietE (oplace_w xs i p _ _ (by omega) ((hxW.ext (ext_grow _ _)).ext (ext_grow _ _)))))); exact wpQuiet_nil rfl
          refine Dm.wpE_take (i := 10) (listed' := (Dm.bits 11 2047)) (by kernel_rfl) (by kernel_rfl) rfl (fun _ _ _ _ h => h) ?_; apply Exists.intro; refine And.intro (fun x => ?_) ?_
          · go_big_quiet_step (((go_at_call 27; exact Calls.quietE (oplace_w xs i p _ _ (by omega) ((hxW.ext (ext_grow _ _)).ext (ext_grow _ _)))))); exact wpQuiet_nil rfl
          refine Dm.wpE_done (by kernel_rfl) hX3b (fun w4a hx4a => ?_)
          have hX4a := Ext.trans hX3b hx4a
          replace ho2 := Ext.row ho2 hx4a
          go_wp2
          go_ret2
          rw [HP.out]
          refine ⟨r2, rfl, Ents.of_row ho2 ?_ ?_, (fin.trans hbW).trans hX4a⟩
          · have := placeF_le (i, p) xs
            simp only [List.length_append, List.length_take, List.length_cons, List.length_drop]; omega
          · rw [entCells_append, ← entCells_take, entCells_cons (i, p) (List.drop _ xs), ← entCells_drop]; rfl
        ·
          have hX1a := Ext.trans (Ext.refl _) hx1a
          go_wp2_with fail
          have hs1 := (Ext.refl w1a).alloc (.cells #[.int .u64 i, .int .i64 p] 25)
          have hgu : (w1a.alloc (.cells #[.int .u64 i, .int .i64 p] 25)).heap[w1a.heap.size]? = some (.cells [.int .u64 i, .int .i64 p].toArray 25 (0, 0)) := heap_alloc_new _ _
          try (have hne : r1.ownBlock ≠ some w1a.heap.size := fun e => by have := (ho1.lt _ e).2; omega)
          generalize w1a.heap.size = gu at *
          generalize w1a.alloc (.cells #[.int .u64 i, .int .i64 p] 25) = w1b at *
          have hX1b := Ext.trans hX1a hs1
          try simp only [Exit.then, Act.put, List.setIfInBounds_toArray, List.set_cons_succ, List.set_cons_zero]
          refine Dm.wpE_one (i := 1) (listed' := (Dm.bits 11 223)) (by kernel_rfl) (by kernel_rfl) rfl hX1b (fun w5a hx5a => ?_)
          have hX5a := Ext.trans hX1b hx5a
          replace hgu := Ext.heap hgu hx5a
          go_wp2_with (go_at_call 26; go_must (refine (clone_w xs.length _ _ _ (by omega) (hxW.ext hX5a) (entCells_one _)).mono ?_; rintro e w5b ⟨r1, rfl, ho1, hs5⟩))
          try (have hne : r1.ownBlock ≠ some gu := fun e => by have h1 := (ho1.lt _ e).1; have h2 := (Array.getElem?_eq_some_iff.1 hgu).1; omega)
          replace ho1 := rowMono ho1 hX5a.size
          have hX5b := Ext.trans hX5a hs5
          replace hgu := Ext.heap hgu hs5
          try simp only [Exit.then, Act.put, List.setIfInBounds_toArray, List.set_cons_succ, List.set_cons_zero]
          refine Dm.wpE_take (i := 5) (listed' := (Dm.bits 11 255)) (by kernel_rfl) (by kernel_rfl) rfl (fun _ _ _ _ h => h) ?_; apply Exists.intro; refine And.intro (fun x => ?_) ?_
          · go_big_quiet_step (((go_at_call 27; exact Calls.quietE (oplace_w xs i p _ _ (by omega) ((hxW.ext (ext_grow _ _)).ext (ext_grow _ _)))))); exact wpQuiet_nil rfl
          refine Dm.wpE_one (i := 8) (listed' := (Dm.bits 11 511)) (by kernel_rfl) (by kernel_rfl) rfl hX5b (fun w6a hx6a => ?_)
          have hX6a := Ext.trans hX5b hx6a
          replace hgu := Ext.heap hgu hx6a
          replace ho1 := Ext.row ho1 hx6a
          go_wp2_with (go_at_call 25; go_must (refine (insert_w W (entCells xs) _ r1 xs.length (placeF (i, p) xs) gu _ (by omega) (placeF_le _ _) hX6a ho1 rfl (entCells_one [(i, p)]) (entCells_one _) hgu hne).mono ?_; rintro e w6b ⟨r2, rfl, ho2, hX6b⟩))
          try simp only [Exit.then, Act.put, List.setIfInBounds_toArray, List.set_cons_succ, List.set_cons_zero]
          refine Dm.wpE_take (i := 9) (listed' := (Dm.bits 11 1023)) (by kernel_rfl) (by kernel_rfl) rfl (fun _ _ _ _ h => h) ?_; apply Exists.intro; refine And.intro (fun x => ?_) ?_
          · go_big_quiet_step (((go_at_call 27; exact Calls.quietE (oplace_w xs i p _ _ (by omega) ((hxW.ext (ext_grow _ _)).ext (ext_grow _ _)))))); exact wpQuiet_nil rfl
          refine Dm.wpE_take (i := 10) (listed' := (Dm.bits 11 2047)) (by kernel_rfl) (by kernel_rfl) rfl (fun _ _ _ _ h => h) ?_; apply Exists.intro; refine And.intro (fun x => ?_) ?_
          · go_big_quiet_step (((go_at_call 27; exact Calls.quietE (oplace_w xs i p _ _ (by omega) ((hxW.ext (ext_grow _ _)).ext (ext_grow _ _)))))); exact wpQuiet_nil rfl
          refine Dm.wpE_done (by kernel_rfl) hX6b (fun w7a hx7a => ?_)
          have hX7a := Ext.trans hX6b hx7a
          replace ho2 := Ext.row ho2 hx7a
          go_wp2
          go_ret2
          rw [HP.out]
          refine ⟨r2, rfl, Ents.of_row ho2 ?_ ?_, (fin.trans hbW).trans hX7a⟩
          · have := placeF_le (i, p) xs
            simp only [List.length_append, List.length_take, List.length_cons, List.length_drop]; omega
          · rw [entCells_append, ← entCells_take, entCells_cons (i, p) (List.drop _ xs), ← entCells_drop]; rfl

end Go.Proofs.Ytgkjpablofckjaa
