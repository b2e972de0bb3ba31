/- Chapter 14: the walks of the reference's Push and Take. -/
import Derived.Test.YtgkjpablofckjaaQWalkA
namespace Go.Proofs.Ytgkjpablofckjaa
open Go.RowKit Go.Dm

theorem Try.slEnt : SlT Try.prog 22 25 2 16 := SlT.mk' Try.underlying22 (by kernel_rfl) (by decide) (by decide)
theorem Try.slREnt : SlT Try.prog 27 34 2 16 := SlT.mk' Try.underlying27 (by kernel_rfl) (by decide) (by decide)

set_option maxHeartbeats 400000 in
theorem rpush_w (xs : List Ent) (i p : Int) (v : Value) (w : World) (hm : xs.length ≤ 8796093022208) (hx : Ents w v xs) :
    Calls Try.prog 12 #[v, .agg #[.int .u64 i, .int .i64 p]] w
      fun e w' => ∃ r, e = .returned (.tuple #[r, .int .i64 (pushF xs (i, p)).2]) ∧ Ents w' r (pushF xs (i, p)).1 ∧ Ext w w' := by
  obtain ⟨q, cap, rfl, hcap, hcm⟩ := hx.shape
  have fin : Ext w (w.alloc (.cells #[.int .u64 i, .int .i64 p] 34)) := (Below.refl _ _).alloc (Nat.le_refl _) _
  have hx' := hx.ext fin
  go_enter Try.func12, Try.ntmps12
  go_wp2_with (go_at_call 17; refine (rplace_w xs i _ _ (by omega) hx').mono ?_; rintro e w' ⟨rfl, hb1⟩)
  · go_ret2
    have hw : wrongB (i, p) = true := by
      rename_i h
      rcases h with h | h
      · exact wrongB_low h
      · exact wrongB_high h
    rw [pushF_arg hw]
    exact ⟨_, rfl, hx', fin⟩
  · go_ret2
    obtain ⟨k, hk⟩ := optI_pos (o := idxOf i xs) (by assumption)
    rw [pushF_twice (wrongB_no (e := (i, p)) (by omega) (by simp; omega)) hk]
    exact ⟨_, rfl, hx'.ext hb1, fin.trans hb1⟩
  · go_ret2
    have hn := optI_neg (o := idxOf i xs) (by assumption)
    rw [pushF_full (wrongB_no (e := (i, p)) (by omega) (by simp; omega)) hn (by omega)]
    exact ⟨_, rfl, hx'.ext hb1, fin.trans hb1⟩
  · have hn := optI_neg (o := idxOf i xs) (by assumption)
    have HP : Hid (pushF xs (i, p) = (xs.take (placeF (i, p) xs) ++ (i, p) :: xs.drop (placeF (i, p) xs), 0)) :=
      pushF_ok (wrongB_no (e := (i, p)) (by omega) (by simp; omega)) hn (by omega)
    clear hn
    go_loopw [6] (fun i' wr => ∃ k : Nat, k ≤ xs.length ∧ i' = .int .i64 k ∧ Ext w' wr ∧ Hid (∀ j, j < k → aheadB (i, p) (ent xs j) = false)) (fun i' _ => xs.length - (intOf i').toNat)
    case atStart => exact ⟨0, by omega, rfl, Ext.refl _, fun j hj => by omega⟩
    case round =>
      obtain ⟨k, hk, rfl, hb, HN⟩ := hrel
      have hbx := Ext.trans hb1 hb
      by_cases hlt : k < xs.length
      case' pos =>
        obtain ⟨b, off, rfl, hbl, c0, c1⟩ := (hx'.ext hbx).at hlt
        obtain ⟨gs, g⟩ := hbx.box
        have g0 := g 0 _ rfl
        have g1 := g 1 _ rfl
        clear g
        go_wp2_with fail
        refine Dm.wp_region_grow (by kernel_rfl) (by kernel_rfl) ?_
        repeat (go_big_quiet_step ((go_at_call 21; exact Calls.quietE (rahead_w _ _ _ _ _))))
        refine wpQuiet_nil ?_
        intro w1 hx1
        clear c0 c1 g0 g1
        go_wp2_with fail
        · rename_i ht
          go_roundw
          case rel => exact ⟨k + 1, by omega, by go_num, hb.trans hx1, fun j hj => by
            rcases Nat.lt_succ_iff_lt_or_eq.1 hj with h | rfl
            · exact HN.out j h
            · simpa using ht⟩
          case measure => simp [intOf]; omega
        have HK : Hid (placeF (i, p) xs = k) := placeF_hit hlt HN.out (by
          have ht : (!aheadB (i, p) ((ent xs k).1, (ent xs k).2)) = false := by assumption
          simpa using ht)
        have hW := hbx.trans hx1
      case' neg =>
        go_wp2_with fail
        refine Dm.wp_region_grow (by kernel_rfl) (by kernel_rfl) ?_
        repeat (go_big_quiet_step (fail))
        refine wpQuiet_nil ?_
        intro w1 hx1
        go_wp2_with fail
        have HK : Hid (placeF (i, p) xs = k) := by obtain rfl : k = xs.length := by omega
                                                   exact placeF_miss HN.out
        have hW := hbx.trans hx1
      all_goals
        rename World => W
        have hxW := hx'.ext hW
        obtain ⟨gs, g⟩ := hW.box
        have g0 := g 0 _ rfl
        have g1 := g 1 _ rfl
        clear g HN
        have hsl := fun (p : Option Addr) w => run_slice_high (P := Try.prog) 27 34 2 Try.slREnt.ht Try.slREnt.hs p xs.length cap k (by omega) w
        have hsh := fun (p : Option Addr) w => run_slice_low (P := Try.prog) 27 34 2 Try.slREnt.ht Try.slREnt.hs p xs.length cap k hk w
        try simp only [Act.put, List.setIfInBounds_toArray, List.set_cons_succ, List.set_cons_zero]
        refine Dm.wp_region_ext 13 (Dm.bits 13 0) (Ext.refl _) (by kernel_rfl) (by kernel_rfl) (by kernel_rfl) ?_
        refine Dm.wpE_take (i := 0) (listed' := (Dm.bits 13 1)) (by kernel_rfl) (by kernel_rfl) rfl (fun _ _ _ _ h => h) ?_; apply Exists.intro; refine And.intro (fun x => ?_) ?_
        · go_big_quiet_step (fail); exact wpQuiet_nil rfl
        refine Dm.wpE_take (i := 1) (listed' := (Dm.bits 13 3)) (by kernel_rfl) (by kernel_rfl) rfl (fun _ _ _ _ h => h) ?_; apply Exists.intro; refine And.intro (fun x => ?_) ?_
        · go_big_quiet_step (fail); exact wpQuiet_nil rfl
        refine Dm.wpE_take (i := 2) (listed' := (Dm.bits 13 7)) (by kernel_rfl) (by kernel_rfl) rfl (fun _ _ _ _ h => h) ?_; apply Exists.intro; refine And.intro (fun x => ?_) ?_
        · go_big_quiet_step (fail); exact wpQuiet_nil rfl
        refine Dm.wpE_take (i := 4) (listed' := (Dm.bits 13 23)) (by kernel_rfl) (by kernel_rfl) rfl (fun _ _ _ _ h => h) ?_; apply Exists.intro; refine And.intro (fun x => ?_) ?_
        · go_big_quiet_step (fail); exact wpQuiet_nil rfl
        refine Dm.wpE_take (i := 7) (listed' := (Dm.bits 13 151)) (by kernel_rfl) (by kernel_rfl) rfl (fun _ _ _ _ h => h) ?_; apply Exists.intro; refine And.intro (fun x => ?_) ?_
        · go_big_quiet_step (fail); exact wpQuiet_nil rfl
        refine Dm.wpE_take (i := 8) (listed' := (Dm.bits 13 407)) (by kernel_rfl) (by kernel_rfl) rfl (fun _ _ _ _ h => h) ?_; apply Exists.intro; refine And.intro (fun x => ?_) ?_
        · go_big_quiet_step (fail); exact wpQuiet_nil rfl
        refine Dm.wpE_take (i := 9) (listed' := (Dm.bits 13 919)) (by kernel_rfl) (by kernel_rfl) rfl (fun _ _ _ _ h => h) ?_; apply Exists.intro; refine And.intro (fun x => ?_) ?_
        · go_big_quiet_step (fail); exact wpQuiet_nil rfl
        refine Dm.wpE_two (i := 3) (j := 5) (li := (Dm.bits 13 927)) (lj := (Dm.bits 13 951)) (by kernel_rfl) (by kernel_rfl) (by kernel_rfl) rfl rfl (Ext.refl _) (fun w1a hx1a => ?_) (fun w1a hx1a => ?_)
        ·
          have hX1a := Ext.trans (Ext.refl _) hx1a
          refine wpList_appE rfl _ _ Try.slREnt rfl hX1a rfl (World.ownsRow_nil _ _ _ _) rfl (Sl.take (hxW.ext hX1a) hk) (by rw [entCells_take]; exact entCells_one _) (by omega) ?_
          intro v1 w1b ho1 hX1b hs1
          replace hs1 := hs1 rfl
          try (replace hl := hl.ext hs1)
          refine wpList_nil ?_
          try simp only [Exit.then, Act.put, List.setIfInBounds_toArray, List.set_cons_succ, List.set_cons_zero]
          refine Dm.wpE_one (i := 5) (listed' := (Dm.bits 13 959)) (by kernel_rfl) (by kernel_rfl) rfl hX1b (fun w2a hx2a => ?_)
          have hX2a := Ext.trans hX1b hx2a
          replace ho1 := Ext.row ho1 hx2a
          go_wp2_with fail
          have hl := Sl.lit w2a 34 2 1 #[.int .u64 i, .int .i64 p] rfl (by simp [maxLen])
          have hs2 := (Ext.refl w2a).alloc (.cells #[.int .u64 i, .int .i64 p] 34)
          generalize w2a.alloc (.cells #[.int .u64 i, .int .i64 p] 34) = w2b at *
          have hX2b := Ext.trans hX2a hs2
          replace ho1 := Ext.row ho1 hs2
          try simp only [Exit.then, Act.put, List.setIfInBounds_toArray, List.set_cons_succ, List.set_cons_zero]
          refine Dm.wpE_one (i := 6) (listed' := (Dm.bits 13 1023)) (by kernel_rfl) (by kernel_rfl) rfl hX2b (fun w3a hx3a => ?_)
          have hX3a := Ext.trans hX2b hx3a
          replace ho1 := Ext.row ho1 hx3a
          replace hl := hl.ext hx3a
          refine wpList_appE rfl _ _ Try.slREnt rfl hX3a rfl ho1 rfl hl (entCells_one [(i, p)]) (by omega) ?_
          intro v2 w3b ho2 hX3b _
          refine wpList_nil ?_
          try simp only [Exit.then, Act.put, List.setIfInBounds_toArray, List.set_cons_succ, List.set_cons_zero]
          refine Dm.wpE_one (i := 10) (listed' := (Dm.bits 13 2047)) (by kernel_rfl) (by kernel_rfl) rfl hX3b (fun w4a hx4a => ?_)
          have hX4a := Ext.trans hX3b hx4a
          replace ho2 := Ext.row ho2 hx4a
          refine wpList_appE rfl _ _ Try.slREnt rfl hX4a rfl ho2 rfl (Sl.drop (hxW.ext hX4a) hk) (by rw [entCells_drop]; exact entCells_one _) (by omega) ?_
          intro v3 w4b ho3 hX4b _
          refine wpList_nil ?_
          try simp only [Exit.then, Act.put, List.setIfInBounds_toArray, List.set_cons_succ, List.set_cons_zero]
          refine Dm.wpE_take (i := 11) (listed' := (Dm.bits 13 4095)) (by kernel_rfl) (by kernel_rfl) rfl (fun _ _ _ _ h => h) ?_; apply Exists.intro; refine And.intro (fun x => ?_) ?_
          · go_big_quiet_step (fail); exact wpQuiet_nil rfl
          refine Dm.wpE_take (i := 12) (listed' := (Dm.bits 13 8191)) (by kernel_rfl) (by kernel_rfl) rfl (fun _ _ _ _ h => h) ?_; apply Exists.intro; refine And.intro (fun x => ?_) ?_
          · go_big_quiet_step (fail); exact wpQuiet_nil rfl
          refine Dm.wpE_done (by kernel_rfl) hX4b (fun w5a hx5a => ?_)
          have hX5a := Ext.trans hX4b hx5a
          replace ho3 := Ext.row ho3 hx5a
          go_wp2
          go_ret2
          rw [HP.out, HK.out]
          refine ⟨v3, rfl, Ents.of_row ho3 ?_ ?_, (fin.trans hW).trans hX5a⟩
          · simp only [List.length_append, List.length_take, List.length_cons, List.length_drop]; omega
          · rw [entCells_append, entCells_cons, ← entCells_take, ← entCells_drop, List.nil_append, List.append_assoc]
        ·
          have hX1a := Ext.trans (Ext.refl _) hx1a
          go_wp2_with fail
          have hl := Sl.lit w1a 34 2 1 #[.int .u64 i, .int .i64 p] rfl (by simp [maxLen])
          have hs1 := (Ext.refl w1a).alloc (.cells #[.int .u64 i, .int .i64 p] 34)
          generalize w1a.alloc (.cells #[.int .u64 i, .int .i64 p] 34) = w1b at *
          have hX1b := Ext.trans hX1a hs1
          try simp only [Exit.then, Act.put, List.setIfInBounds_toArray, List.set_cons_succ, List.set_cons_zero]
          refine Dm.wpE_one (i := 3) (listed' := (Dm.bits 13 959)) (by kernel_rfl) (by kernel_rfl) rfl hX1b (fun w6a hx6a => ?_)
          have hX6a := Ext.trans hX1b hx6a
          replace hl := hl.ext hx6a
          refine wpList_appE rfl _ _ Try.slREnt rfl hX6a rfl (World.ownsRow_nil _ _ _ _) rfl (Sl.take (hxW.ext hX6a) hk) (by rw [entCells_take]; exact entCells_one _) (by omega) ?_
          intro v1 w6b ho1 hX6b hs6
          replace hs6 := hs6 rfl
          try (replace hl := hl.ext hs6)
          refine wpList_nil ?_
          try simp only [Exit.then, Act.put, List.setIfInBounds_toArray, List.set_cons_succ, List.set_cons_zero]
          refine Dm.wpE_one (i := 6) (listed' := (Dm.bits 13 1023)) (by kernel_rfl) (by kernel_rfl) rfl hX6b (fun w7a hx7a => ?_)
          have hX7a := Ext.trans hX6b hx7a
          replace hl := hl.ext hx7a
          replace ho1 := Ext.row ho1 hx7a
          refine wpList_appE rfl _ _ Try.slREnt rfl hX7a rfl ho1 rfl hl (entCells_one [(i, p)]) (by omega) ?_
          intro v2 w7b ho2 hX7b _
          refine wpList_nil ?_
          try simp only [Exit.then, Act.put, List.setIfInBounds_toArray, List.set_cons_succ, List.set_cons_zero]
          refine Dm.wpE_one (i := 10) (listed' := (Dm.bits 13 2047)) (by kernel_rfl) (by kernel_rfl) rfl hX7b (fun w8a hx8a => ?_)
          have hX8a := Ext.trans hX7b hx8a
          replace ho2 := Ext.row ho2 hx8a
          refine wpList_appE rfl _ _ Try.slREnt rfl hX8a rfl ho2 rfl (Sl.drop (hxW.ext hX8a) hk) (by rw [entCells_drop]; exact entCells_one _) (by omega) ?_
          intro v3 w8b ho3 hX8b _
          refine wpList_nil ?_
          try simp only [Exit.then, Act.put, List.setIfInBounds_toArray, List.set_cons_succ, List.set_cons_zero]
          refine Dm.wpE_take (i := 11) (listed' := (Dm.bits 13 4095)) (by kernel_rfl) (by kernel_rfl) rfl (fun _ _ _ _ h => h) ?_; apply Exists.intro; refine And.intro (fun x => ?_) ?_
          · go_big_quiet_step (fail); exact wpQuiet_nil rfl
          refine Dm.wpE_take (i := 12) (listed' := (Dm.bits 13 8191)) (by kernel_rfl) (by kernel_rfl) rfl (fun _ _ _ _ h => h) ?_; apply Exists.intro; refine And.intro (fun x => ?_) ?_
          · go_big_quiet_step (fail); exact wpQuiet_nil rfl
          refine Dm.wpE_done (by kernel_rfl) hX8b (fun w9a hx9a => ?_)
          have hX9a := Ext.trans hX8b hx9a
          replace ho3 := Ext.row ho3 hx9a
          go_wp2
          go_ret2
          rw [HP.out, HK.out]
          refine ⟨v3, rfl, Ents.of_row ho3 ?_ ?_, (fin.trans hW).trans hX9a⟩
          · simp only [List.length_append, List.length_take, List.length_cons, List.length_drop]; omega
          · rw [entCells_append, entCells_cons, ← entCells_take, ← entCells_drop, List.nil_append, List.append_assoc]
  · go_ret2
    rw [pushF_arg (wrongB_low (by assumption))]
    exact ⟨_, rfl, hx', fin⟩

set_option maxHeartbeats 400000 in
theorem rtake_w (xs : List Ent) (id : Int) (v : Value) (w : World) (hm : xs.length ≤ 8796093022208) (hx : Ents w v xs) :
    Calls Try.prog 14 #[v, .int .u64 id] w
      fun e w' => ∃ r, e = .returned (.tuple #[r, .bool (takeF xs id).2]) ∧ Ents w' r (takeF xs id).1 ∧ Ext w w' := by
  obtain ⟨q, cap, rfl, hcap, hcm⟩ := hx.shape
  cases hk : idxOf id xs with
  | none =>
    have HT := Lib.hid (show takeF xs id = (xs, false) by simp [takeF, hk])
    have HK := Lib.hid hk; clear hk
    go_enter Try.func14, Try.ntmps14
    go_wp2_with (go_at_call 17; have hp := rplace_w xs id _ w (by omega) hx; rw [HK.out] at hp; refine hp.mono ?_; clear hp; rintro e w' ⟨rfl, hb1⟩; simp only [optI])
    go_ret2
    rw [HT.out]
    exact ⟨_, rfl, hx.ext hb1, hb1⟩
  | some k =>
    have hlt := idxOf_lt hk
    have HT := Lib.hid (show takeF xs id = (xs.take k ++ xs.drop (k + 1), true) by simp [takeF, hk])
    have HK := Lib.hid hk; clear hk
    go_enter Try.func14, Try.ntmps14
    go_wp2_with (go_at_call 17; have hp := rplace_w xs id _ w (by omega) hx; rw [HK.out] at hp; refine hp.mono ?_; clear hp; rintro e w' ⟨rfl, hb1⟩; simp only [optI])
    have hxW := hx.ext hb1
    have hsl := fun (p : Option Addr) w => run_slice_high (P := Try.prog) 27 34 2 Try.slREnt.ht Try.slREnt.hs p xs.length cap k (by omega) w
    have hsh := fun (p : Option Addr) w => run_slice_low (P := Try.prog) 27 34 2 Try.slREnt.ht Try.slREnt.hs p xs.length cap (k + 1) (by omega) w
    simp only [Int.natCast_add, Int.cast_ofNat_Int] at hsh
    try simp only [Act.put, List.setIfInBounds_toArray, List.set_cons_succ, List.set_cons_zero]
    refine Dm.wp_region_ext 11 (Dm.bits 11 0) (Ext.refl _) (by kernel_rfl) (by kernel_rfl) (by kernel_rfl) ?_
    refine Dm.wpE_take (i := 0) (listed' := (Dm.bits 11 1)) (by kernel_rfl) (by kernel_rfl) rfl (fun _ _ _ _ h => h) ?_; apply Exists.intro; refine And.intro (fun x => ?_) ?_
    · go_big_quiet_step (fail); exact wpQuiet_nil rfl
    refine Dm.wpE_take (i := 1) (listed' := (Dm.bits 11 3)) (by kernel_rfl) (by kernel_rfl) rfl (fun _ _ _ _ h => h) ?_; apply Exists.intro; refine And.intro (fun x => ?_) ?_
    · go_big_quiet_step (fail); exact wpQuiet_nil rfl
    refine Dm.wpE_take (i := 2) (listed' := (Dm.bits 11 7)) (by kernel_rfl) (by kernel_rfl) rfl (fun _ _ _ _ h => h) ?_; apply Exists.intro; refine And.intro (fun x => ?_) ?_
    · go_big_quiet_step (fail); exact wpQuiet_nil rfl
    refine Dm.wpE_take (i := 4) (listed' := (Dm.bits 11 23)) (by kernel_rfl) (by kernel_rfl) rfl (fun _ _ _ _ h => h) ?_; apply Exists.intro; refine And.intro (fun x => ?_) ?_
    · go_big_quiet_step (fail); exact wpQuiet_nil rfl
    refine Dm.wpE_take (i := 5) (listed' := (Dm.bits 11 55)) (by kernel_rfl) (by kernel_rfl) rfl (fun _ _ _ _ h => h) ?_; apply Exists.intro; refine And.intro (fun x => ?_) ?_
    · go_big_quiet_step (fail); exact wpQuiet_nil rfl
    refine Dm.wpE_take (i := 6) (listed' := (Dm.bits 11 119)) (by kernel_rfl) (by kernel_rfl) rfl (fun _ _ _ _ h => h) ?_; apply Exists.intro; refine And.intro (fun x => ?_) ?_
    · go_big_quiet_step (fail); exact wpQuiet_nil rfl
    refine Dm.wpE_take (i := 7) (listed' := (Dm.bits 11 247)) (by kernel_rfl) (by kernel_rfl) rfl (fun _ _ _ _ h => h) ?_; apply Exists.intro; refine And.intro (fun x => ?_) ?_
    · go_big_quiet_step (fail); exact wpQuiet_nil rfl
    refine Dm.wpE_one (i := 3) (listed' := (Dm.bits 11 255)) (by kernel_rfl) (by kernel_rfl) rfl (Ext.refl _) (fun w1a hx1a => ?_)
    have hX1a := Ext.trans (Ext.refl _) hx1a
    refine wpList_appE rfl _ _ Try.slREnt rfl hX1a rfl (World.ownsRow_nil _ _ _ _) rfl (Sl.take (hxW.ext hX1a) (Nat.le_of_lt hlt)) (by rw [entCells_take]; exact entCells_one _) (by omega) ?_
    intro v1 w1b ho1 hX1b hs1
    replace hs1 := hs1 rfl
    refine wpList_nil ?_
    try simp only [Exit.then, Act.put, List.setIfInBounds_toArray, List.set_cons_succ, List.set_cons_zero]
    refine Dm.wpE_one (i := 8) (listed' := (Dm.bits 11 511)) (by kernel_rfl) (by kernel_rfl) rfl hX1b (fun w2a hx2a => ?_)
    have hX2a := Ext.trans hX1b hx2a
    replace ho1 := Ext.row ho1 hx2a
    refine wpList_appE rfl _ _ Try.slREnt rfl hX2a rfl ho1 rfl (Sl.drop (hxW.ext hX2a) hlt) (by rw [entCells_drop]; exact entCells_one _) (by omega) ?_
    intro v2 w2b ho2 hX2b _
    refine wpList_nil ?_
    try simp only [Exit.then, Act.put, List.setIfInBounds_toArray, List.set_cons_succ, List.set_cons_zero]
    refine Dm.wpE_take (i := 9) (listed' := (Dm.bits 11 1023)) (by kernel_rfl) (by kernel_rfl) rfl (fun _ _ _ _ h => h) ?_; apply Exists.intro; refine And.intro (fun x => ?_) ?_
    · go_big_quiet_step (fail); exact wpQuiet_nil rfl
    refine Dm.wpE_take (i := 10) (listed' := (Dm.bits 11 2047)) (by kernel_rfl) (by kernel_rfl) rfl (fun _ _ _ _ h => h) ?_; apply Exists.intro; refine And.intro (fun x => ?_) ?_
    · go_big_quiet_step (fail); exact wpQuiet_nil rfl
    refine Dm.wpE_done (by kernel_rfl) hX2b (fun w3a hx3a => ?_)
    have hX3a := Ext.trans hX2b hx3a
    replace ho2 := Ext.row ho2 hx3a
    go_wp2
    go_ret2
    rw [HT.out]
    refine ⟨v2, rfl, Ents.of_row ho2 ?_ ?_, hb1.trans hX3a⟩
    · simp only [List.length_append, List.length_take, List.length_drop]; omega
    · rw [entCells_append, ← entCells_take, ← entCells_drop, List.nil_append]

end Go.Proofs.Ytgkjpablofckjaa
