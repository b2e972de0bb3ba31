/- LabelFinds, walked: of labels that are right each is found by its key, and no key beside; in another order, or with one twice, they are not right. -/
import Derived.Test.YtbkemhheombfcaaDoorLWalkF
import Derived.Test.YtbkemhheombfcaaDoorLMade
import Derived.Deep.DeepCutAuto
namespace Go.Dm
open Go Go.RowKit
theorem any_take_step {l : List PairS} {key : ByteArray} {k : Nat} (hk : k < l.length) : (l.take (k + 1)).any (keyIs key) = ((l.take k).any (keyIs key) || keyIs key (pairAt l k)) := by
  rw [List.take_succ_eq_append_getElem hk, List.any_append, pairAt_get hk]; simp
theorem fit_app {a b : List PairS} (h : FitP a) (h' : FitP b) : FitP (a ++ b) := fun p hp => by
  rcases List.mem_append.1 hp with hp | hp
  · exact h p hp
  · exact h' p hp
theorem fit_drop {a : List PairS} (h : FitP a) (k : Nat) : FitP (a.drop k) := fun p hp => h p (List.mem_of_mem_drop hp)
theorem fit_at {l : List PairS} (h : FitP l) {k : Nat} (hk : k < l.length) : FitP [pairAt l k] := fun p hp => by
  rw [List.mem_singleton.1 hp]; exact h _ (pairAt_mem hk)
end Go.Dm
namespace Go.Proofs.YtbkemhheombfcaaDoor
open Go.RowKit Go.Dm

set_option maxHeartbeats 4000000 in
set_option maxRecDepth 100000 in
theorem labelFinds_w (zs : List Int) (key : ByteArray) (v : Value) (w : World) (hz : ∀ z ∈ zs, 0 ≤ z ∧ z ≤ 255) (hx0 : Nums w .u8 v zs) (ht : Vars w) :
    Calls Tryd.prog 3 #[v, .string key] w fun e w' => e = .returned (.bool true) ∧ Ext w w' := by
  obtain ⟨qz, capz, rfl, _, _⟩ := hx0.shape
  have hU := made_up zs hz
  have hF := made_fit zs hz
  have h8 := madeP_len zs
  have CM := fun w1 (e1 : Ext w w1) => lmade_w zs _ w1 hz (hx0.ext e1)
  generalize madeP zs = l at *
  replace hU := Lib.hid hU
  replace CM := Lib.hid CM
  clear hz hx0
  go_enter Tryd.func3, Tryd.ntmps3
  go_wp2_with fail
  refine (lexamples_w w ht).mono ?_; rintro e w1 ⟨rfl, e1⟩
  go_wp2_with fail
  refine (CM.out w1 e1).mono ?_; rintro e w2 ⟨r2, rfl, hx, h2⟩
  have e2 := e1.trans h2
  clear CM
  obtain ⟨q, cap, rfl, hcap, hcm⟩ := hx.shape
  go_wp2
  go_loopw [7, 8] (fun g i' wr => ∃ (k : Nat) (c : Bool), k ≤ l.length ∧ i' = .int .i64 k ∧ Ext w2 wr ∧ g = .bool c ∧ Hid ((l.take k).any (keyIs key) = c)) (fun _ i' _ => l.length - (intOf i').toNat)
  case atStart => exact ⟨0, false, by omega, rfl, Ext.refl _, rfl, rfl⟩
  case round =>
    obtain ⟨k, c, hk, rfl, hb, rfl, HC⟩ := hrel
    have fr := e2.trans hb
    by_cases hlt : k < l.length
    · obtain ⟨b, off, rfl, hbl, c0, c1⟩ := (hx.ext hb).at hlt
      have hst := any_take_step (key := key) hlt
      rw [HC.out] at hst
      have CF := find_w l (pairAt l k).1 _ wr (by omega) (hx.ext hb)
      rw [find_at hU.out hlt] at CF
      replace hst := Lib.hid hst
      go_wp2_with fail
      refine CF.mono ?_; rintro e w3 ⟨rfl, h3⟩
      clear CF
      obtain ⟨d0, d1⟩ := (hx.ext (hb.trans h3)).cells hlt
      have hb3 := hb.trans h3
      have hbl3 : b < w3.heap.size := Nat.lt_of_lt_of_le hbl h3.size
      clear c0 c1 hbl
      cases c with
      | true =>
        go_wp2
        go_roundw
        case rel => exact ⟨k + 1, true, by omega, by go_num, hb3, rfl, by show _ = _; rw [hst.out]; rfl⟩
        case measure => simp [intOf]; omega
      | false =>
        cases hq : ((pairAt l k).1.toList == key.toList) with
        | true =>
          go_wp2
          go_roundw
          case rel => exact ⟨k + 1, true, by omega, by go_num, hb3, rfl, by show _ = _; rw [hst.out, Bool.false_or]; exact hq⟩
          case measure => simp [intOf]; omega
        | false =>
          go_wp2
          go_roundw
          case rel => exact ⟨k + 1, false, by omega, by go_num, hb3, rfl, by show _ = _; rw [hst.out, Bool.false_or]; exact hq⟩
          case measure => simp [intOf]; omega
    · obtain rfl : k = l.length := by omega
      have hany := HC.out
      rw [List.take_length] at hany
      have CF := find_w l key _ wr (by omega) (hx.ext hb)
      have hfb : c = false → findB l key = (⟨#[]⟩, false) := fun h => find_none (by rw [hany, h])
      have hft : c = true → (findB l key).2 = true := fun h => find_some (by rw [hany, h])
      obtain ⟨fv, hfv, hfe⟩ : ∃ x, findB l key = (x, c) ∧ (c = false → x = ⟨#[]⟩) := by
        cases c with
        | false => exact ⟨⟨#[]⟩, hfb rfl, fun _ => rfl⟩
        | true => exact ⟨(findB l key).1, Prod.ext rfl (hft rfl), fun h => by cases h⟩
      rw [hfv] at CF
      clear hany HC hfb hft hfv
      replace hfe := Lib.hid hfe
      go_wp2_with fail
      refine CF.mono ?_; rintro e w3 ⟨rfl, h3⟩
      clear CF
      have f3 := fr.trans h3
      have hx3 := hx.ext (hb.trans h3)
      by_cases h0 : l.length = 0
      · have h0b : ((l.length : Int) == 0) = true := by rw [beq_iff_eq]; omega
        clear h0
        cases c with
        | true =>
          go_wp2
          go_ret
          exact ⟨rfl, f3⟩
        | false =>
          obtain rfl := hfe.out rfl
          go_wp2
          go_ret
          exact ⟨rfl, f3⟩
      · have h0b : ((l.length : Int) == 0) = false := by rw [beq_eq_false_iff_ne]; omega
        obtain ⟨m, hm⟩ : ∃ m, l.length = m + 1 := ⟨l.length - 1, by omega⟩
        have hml : m < l.length := by omega
        have hlm : (l.length : Int) - 1 = (m : Int) := by omega
        have hlw : IntKind.i64.wrap ((l.length : Int) - 1) = (m : Int) := by rw [hlm]; exact IntWalk.i64_in _ (by omega)
        have htw := twice_bad (l := l) (by omega)
        rw [show l.length - 1 = m by omega] at htw
        have htu := turned_right h8 hU.out (by omega)
        have h0l : 0 < l.length := by omega
        have hdl : (l.drop 1).length = l.length - 1 := by simp
        replace hm := Lib.hid hm
        replace htw := Lib.hid htw
        replace htu := Lib.hid htu
        replace hdl := Lib.hid hdl
        clear h0
        obtain ⟨b, off, rfl, hbl, c0, c1⟩ := hx3.at hml
        obtain ⟨d0, d1⟩ := hx3.cells h0l
        rw [Nat.zero_mul, Nat.add_zero] at d0 d1
        cases c with
        | true =>
          go_wp2
          go_cut [13] (fun r w' => Ext w3 w' ∧ Pairs w' r (l ++ [pairAt l m]))
          case first =>
            try simp only [Act.put, List.setIfInBounds_toArray, List.set_cons_succ, List.set_cons_zero]
            refine Dm.wp_region_ext 11 (Dm.bits 11 0) (Ext.refl _) (by kernel_rfl) (by kernel_rfl) (by kernel_rfl) ?_
            refine Dm.wpE_take (i := 0) (listed' := (Dm.bits 11 1)) (by kernel_rfl) (by kernel_rfl) rfl (fun _ _ _ _ h => h) ?_; apply Exists.intro; refine And.intro (fun x => ?_) ?_
            · go_big_quiet_step (fail); exact wpQuiet_nil rfl
            refine Dm.wpE_take (i := 2) (listed' := (Dm.bits 11 5)) (by kernel_rfl) (by kernel_rfl) rfl (fun _ _ _ _ h => h) ?_; apply Exists.intro; refine And.intro (fun x => ?_) ?_
            · go_big_quiet_step (fail); exact wpQuiet_nil rfl
            refine Dm.wpE_take (i := 3) (listed' := (Dm.bits 11 13)) (by kernel_rfl) (by kernel_rfl) rfl (fun _ _ _ _ h => h) ?_; apply Exists.intro; refine And.intro (fun x => ?_) ?_
            · go_big_quiet_step (fail); exact wpQuiet_nil rfl
            refine Dm.wpE_take (i := 4) (listed' := (Dm.bits 11 29)) (by kernel_rfl) (by kernel_rfl) rfl (fun _ _ _ _ h => h) ?_; apply Exists.intro; refine And.intro (fun x => ?_) ?_
            · go_big_quiet_step (fail); exact wpQuiet_nil rfl
            refine Dm.wpE_take (i := 5) (listed' := (Dm.bits 11 61)) (by kernel_rfl) (by kernel_rfl) rfl (fun _ _ _ _ h => h) ?_; apply Exists.intro; refine And.intro (fun x => ?_) ?_
            · go_big_quiet_step (fail); exact wpQuiet_nil rfl
            refine Dm.wpE_take (i := 6) (listed' := (Dm.bits 11 125)) (by kernel_rfl) (by kernel_rfl) rfl (fun _ _ _ _ h => h) ?_; apply Exists.intro; refine And.intro (fun x => ?_) ?_
            · go_big_quiet_step (fail); exact wpQuiet_nil rfl
            refine Dm.wpE_take (i := 7) (listed' := (Dm.bits 11 253)) (by kernel_rfl) (by kernel_rfl) rfl (fun _ _ _ _ h => h) ?_; apply Exists.intro; refine And.intro (fun x => ?_) ?_
            · go_big_quiet_step (fail); exact wpQuiet_nil rfl
            refine Dm.wpE_two (i := 1) (j := 8) (li := (Dm.bits 11 255)) (lj := (Dm.bits 11 509)) (by kernel_rfl) (by kernel_rfl) (by kernel_rfl) rfl rfl (Ext.refl _) (fun w1a hx1a => ?_) (fun w1a hx1a => ?_)
            ·
              have hX1a := Ext.trans (Ext.refl _) hx1a
              refine wpList_appE rfl _ _ Tryd.slPair rfl hX1a rfl (World.ownsRow_nil _ _ _ _) rfl (hx3.ext hX1a) (pairCells_one _) (by omega) ?_
              intro r1 w1b ho1 hX1b hg1
              have hs1 := hg1 rfl
              simp only [Nat.zero_add, List.nil_append] at ho1
              refine wpList_nil ?_
              try simp only [Exit.then, Act.put, List.setIfInBounds_toArray, List.set_cons_succ, List.set_cons_zero]
              refine Dm.wpE_one (i := 8) (listed' := (Dm.bits 11 511)) (by kernel_rfl) (by kernel_rfl) rfl hX1b (fun w2a hx2a => ?_)
              have hX2a := Ext.trans hX1b hx2a
              replace ho1 := Ext.row ho1 hx2a
              go_wp2_with fail
              have hl := Sl.lit w2a 29 2 1 #[.string (pairAt l m).1, .string (pairAt l m).2] rfl (by simp [maxLen])
              have hs2 := (Ext.refl w2a).alloc (.cells #[.string (pairAt l m).1, .string (pairAt l m).2] 29)
              generalize w2a.alloc (.cells #[.string (pairAt l m).1, .string (pairAt l m).2] 29) = w2b at *
              have hX2b := Ext.trans hX2a hs2
              replace ho1 := Ext.row ho1 hs2
              try simp only [Exit.then, Act.put, List.setIfInBounds_toArray, List.set_cons_succ, List.set_cons_zero]
              refine Dm.wpE_one (i := 9) (listed' := (Dm.bits 11 1023)) (by kernel_rfl) (by kernel_rfl) rfl hX2b (fun w3a hx3a => ?_)
              have hX3a := Ext.trans hX2b hx3a
              replace ho1 := Ext.row ho1 hx3a
              replace hl := hl.ext hx3a
              refine wpList_appE rfl _ _ Tryd.slPair rfl hX3a rfl ho1 rfl hl (pairCells_one [pairAt l m]) (by omega) ?_
              intro r2 w3b ho2 hX3b _
              refine wpList_nil ?_
              try simp only [Exit.then, Act.put, List.setIfInBounds_toArray, List.set_cons_succ, List.set_cons_zero]
              refine Dm.wpE_take (i := 10) (listed' := (Dm.bits 11 2047)) (by kernel_rfl) (by kernel_rfl) rfl (fun _ _ _ _ h => h) ?_; apply Exists.intro; refine And.intro (fun x => ?_) ?_
              · go_big_quiet_step (fail); exact wpQuiet_nil rfl
              refine Dm.wpE_done (by kernel_rfl) hX3b (fun w4a hx4a => ?_)
              have hX4a := Ext.trans hX3b hx4a
              replace ho2 := Ext.row ho2 hx4a
              go_wp2_with fail
              go_meet
              exact ⟨hX4a, Pairs.of_row (by rw [pairCells_app]; exact ho2) (by simp)⟩
            ·
              have hX1a := Ext.trans (Ext.refl _) hx1a
              go_wp2_with fail
              have hl := Sl.lit w1a 29 2 1 #[.string (pairAt l m).1, .string (pairAt l m).2] rfl (by simp [maxLen])
              have hs1 := (Ext.refl w1a).alloc (.cells #[.string (pairAt l m).1, .string (pairAt l m).2] 29)
              generalize w1a.alloc (.cells #[.string (pairAt l m).1, .string (pairAt l m).2] 29) = w1b at *
              have hX1b := Ext.trans hX1a hs1
              try simp only [Exit.then, Act.put, List.setIfInBounds_toArray, List.set_cons_succ, List.set_cons_zero]
              refine Dm.wpE_one (i := 1) (listed' := (Dm.bits 11 511)) (by kernel_rfl) (by kernel_rfl) rfl hX1b (fun w5a hx5a => ?_)
              have hX5a := Ext.trans hX1b hx5a
              replace hl := hl.ext hx5a
              refine wpList_appE rfl _ _ Tryd.slPair rfl hX5a rfl (World.ownsRow_nil _ _ _ _) rfl (hx3.ext hX5a) (pairCells_one _) (by omega) ?_
              intro r1 w5b ho1 hX5b hg1
              have hs5 := hg1 rfl
              simp only [Nat.zero_add, List.nil_append] at ho1
              refine wpList_nil ?_
              replace hl := hl.ext hs5
              try simp only [Exit.then, Act.put, List.setIfInBounds_toArray, List.set_cons_succ, List.set_cons_zero]
              refine Dm.wpE_one (i := 9) (listed' := (Dm.bits 11 1023)) (by kernel_rfl) (by kernel_rfl) rfl hX5b (fun w6a hx6a => ?_)
              have hX6a := Ext.trans hX5b hx6a
              replace hl := hl.ext hx6a
              replace ho1 := Ext.row ho1 hx6a
              refine wpList_appE rfl _ _ Tryd.slPair rfl hX6a rfl ho1 rfl hl (pairCells_one [pairAt l m]) (by omega) ?_
              intro r2 w6b ho2 hX6b _
              refine wpList_nil ?_
              try simp only [Exit.then, Act.put, List.setIfInBounds_toArray, List.set_cons_succ, List.set_cons_zero]
              refine Dm.wpE_take (i := 10) (listed' := (Dm.bits 11 2047)) (by kernel_rfl) (by kernel_rfl) rfl (fun _ _ _ _ h => h) ?_; apply Exists.intro; refine And.intro (fun x => ?_) ?_
              · go_big_quiet_step (fail); exact wpQuiet_nil rfl
              refine Dm.wpE_done (by kernel_rfl) hX6b (fun w7a hx7a => ?_)
              have hX7a := Ext.trans hX6b hx7a
              replace ho2 := Ext.row ho2 hx7a
              go_wp2_with fail
              go_meet
              exact ⟨hX7a, Pairs.of_row (by rw [pairCells_app]; exact ho2) (by simp)⟩
          case rest =>
            obtain ⟨wA, rfl⟩ : ∃ wA : World, wA = wc := ⟨_, rfl⟩
            obtain ⟨hX4, hr4⟩ := hcut
            clear c0 c1 d0 d1
            obtain ⟨d0, d1⟩ := (hx3.ext hX4).cells h0l
            rw [Nat.zero_mul, Nat.add_zero] at d0 d1
            have hblc : b < wA.heap.size := Nat.lt_of_lt_of_le hbl hX4.size
            by_cases hc1 : cap = 1
            · subst hc1
              have hd4 : Pairs wA (.slice (some ⟨b, off, none⟩) 0 0) (l.drop 1) := by
                have := (hx3.ext hX4).drop (k := 1) (by omega)
                unfold dropV at this
                rw [if_pos rfl, show l.length - 1 = 0 by omega] at this
                exact this
              go_wp2_with fail
              go_cut [14] (fun r w' => Ext wA w' ∧ Pairs w' r (l.drop 1 ++ [pairAt l 0]))
              case first =>
                try simp only [Act.put, List.setIfInBounds_toArray, List.set_cons_succ, List.set_cons_zero]
                refine Dm.wp_region_ext 9 (Dm.bits 9 0) (Ext.refl _) (by kernel_rfl) (by kernel_rfl) (by kernel_rfl) ?_
                refine Dm.wpE_take (i := 0) (listed' := (Dm.bits 9 1)) (by kernel_rfl) (by kernel_rfl) rfl (fun _ _ _ _ h => h) ?_; apply Exists.intro; refine And.intro (fun x => ?_) ?_
                · go_big_quiet_step (fail); exact wpQuiet_nil rfl
                refine Dm.wpE_take (i := 1) (listed' := (Dm.bits 9 3)) (by kernel_rfl) (by kernel_rfl) rfl (fun _ _ _ _ h => h) ?_; apply Exists.intro; refine And.intro (fun x => ?_) ?_
                · go_big_quiet_step (fail); exact wpQuiet_nil rfl
                refine Dm.wpE_take (i := 3) (listed' := (Dm.bits 9 11)) (by kernel_rfl) (by kernel_rfl) rfl (fun _ _ _ _ h => h) ?_; apply Exists.intro; refine And.intro (fun x => ?_) ?_
                · go_big_quiet_step (fail); exact wpQuiet_nil rfl
                refine Dm.wpE_take (i := 4) (listed' := (Dm.bits 9 27)) (by kernel_rfl) (by kernel_rfl) rfl (fun _ _ _ _ h => h) ?_; apply Exists.intro; refine And.intro (fun x => ?_) ?_
                · go_big_quiet_step (fail); exact wpQuiet_nil rfl
                refine Dm.wpE_take (i := 5) (listed' := (Dm.bits 9 59)) (by kernel_rfl) (by kernel_rfl) rfl (fun _ _ _ _ h => h) ?_; apply Exists.intro; refine And.intro (fun x => ?_) ?_
                · go_big_quiet_step (fail); exact wpQuiet_nil rfl
                refine Dm.wpE_two (i := 2) (j := 6) (li := (Dm.bits 9 63)) (lj := (Dm.bits 9 123)) (by kernel_rfl) (by kernel_rfl) (by kernel_rfl) rfl rfl (Ext.refl _) (fun w1a hx1a => ?_) (fun w1a hx1a => ?_)
                ·
                  have hX1a := Ext.trans (Ext.refl _) hx1a
                  refine wpList_appE rfl _ _ Tryd.slPair rfl hX1a rfl (World.ownsRow_nil _ _ _ _) rfl (hd4.ext hX1a) (pairCells_one _) (by have := hdl.out; omega) ?_
                  intro r1 w1b ho1 hX1b hg1
                  have hs1 := hg1 rfl
                  simp only [Nat.zero_add, List.nil_append] at ho1
                  refine wpList_nil ?_
                  try simp only [Exit.then, Act.put, List.setIfInBounds_toArray, List.set_cons_succ, List.set_cons_zero]
                  refine Dm.wpE_one (i := 6) (listed' := (Dm.bits 9 127)) (by kernel_rfl) (by kernel_rfl) rfl hX1b (fun w2a hx2a => ?_)
                  have hX2a := Ext.trans hX1b hx2a
                  replace ho1 := Ext.row ho1 hx2a
                  go_wp2_with fail
                  have hl := Sl.lit w2a 29 2 1 #[.string (pairAt l 0).1, .string (pairAt l 0).2] rfl (by simp [maxLen])
                  have hs2 := (Ext.refl w2a).alloc (.cells #[.string (pairAt l 0).1, .string (pairAt l 0).2] 29)
                  generalize w2a.alloc (.cells #[.string (pairAt l 0).1, .string (pairAt l 0).2] 29) = w2b at *
                  have hX2b := Ext.trans hX2a hs2
                  replace ho1 := Ext.row ho1 hs2
                  try simp only [Exit.then, Act.put, List.setIfInBounds_toArray, List.set_cons_succ, List.set_cons_zero]
                  refine Dm.wpE_one (i := 7) (listed' := (Dm.bits 9 255)) (by kernel_rfl) (by kernel_rfl) rfl hX2b (fun w3a hx3a => ?_)
                  have hX3a := Ext.trans hX2b hx3a
                  replace ho1 := Ext.row ho1 hx3a
                  replace hl := hl.ext hx3a
                  refine wpList_appE rfl _ _ Tryd.slPair rfl hX3a rfl ho1 rfl hl (pairCells_one [pairAt l 0]) (by have := hdl.out; omega) ?_
                  intro r2 w3b ho2 hX3b _
                  refine wpList_nil ?_
                  try simp only [Exit.then, Act.put, List.setIfInBounds_toArray, List.set_cons_succ, List.set_cons_zero]
                  refine Dm.wpE_take (i := 8) (listed' := (Dm.bits 9 511)) (by kernel_rfl) (by kernel_rfl) rfl (fun _ _ _ _ h => h) ?_; apply Exists.intro; refine And.intro (fun x => ?_) ?_
                  · go_big_quiet_step (fail); exact wpQuiet_nil rfl
                  refine Dm.wpE_done (by kernel_rfl) hX3b (fun w4a hx4a => ?_)
                  have hX4a := Ext.trans hX3b hx4a
                  replace ho2 := Ext.row ho2 hx4a
                  go_wp2_with fail
                  go_meet
                  exact ⟨hX4a, Pairs.of_row (by rw [pairCells_app]; exact ho2) (by simp)⟩
                ·
                  have hX1a := Ext.trans (Ext.refl _) hx1a
                  go_wp2_with fail
                  have hl := Sl.lit w1a 29 2 1 #[.string (pairAt l 0).1, .string (pairAt l 0).2] rfl (by simp [maxLen])
                  have hs1 := (Ext.refl w1a).alloc (.cells #[.string (pairAt l 0).1, .string (pairAt l 0).2] 29)
                  generalize w1a.alloc (.cells #[.string (pairAt l 0).1, .string (pairAt l 0).2] 29) = w1b at *
                  have hX1b := Ext.trans hX1a hs1
                  try simp only [Exit.then, Act.put, List.setIfInBounds_toArray, List.set_cons_succ, List.set_cons_zero]
                  refine Dm.wpE_one (i := 2) (listed' := (Dm.bits 9 127)) (by kernel_rfl) (by kernel_rfl) rfl hX1b (fun w5a hx5a => ?_)
                  have hX5a := Ext.trans hX1b hx5a
                  replace hl := hl.ext hx5a
                  refine wpList_appE rfl _ _ Tryd.slPair rfl hX5a rfl (World.ownsRow_nil _ _ _ _) rfl (hd4.ext hX5a) (pairCells_one _) (by have := hdl.out; omega) ?_
                  intro r1 w5b ho1 hX5b hg1
                  have hs5 := hg1 rfl
                  simp only [Nat.zero_add, List.nil_append] at ho1
                  refine wpList_nil ?_
                  replace hl := hl.ext hs5
                  try simp only [Exit.then, Act.put, List.setIfInBounds_toArray, List.set_cons_succ, List.set_cons_zero]
                  refine Dm.wpE_one (i := 7) (listed' := (Dm.bits 9 255)) (by kernel_rfl) (by kernel_rfl) rfl hX5b (fun w6a hx6a => ?_)
                  have hX6a := Ext.trans hX5b hx6a
                  replace hl := hl.ext hx6a
                  replace ho1 := Ext.row ho1 hx6a
                  refine wpList_appE rfl _ _ Tryd.slPair rfl hX6a rfl ho1 rfl hl (pairCells_one [pairAt l 0]) (by have := hdl.out; omega) ?_
                  intro r2 w6b ho2 hX6b _
                  refine wpList_nil ?_
                  try simp only [Exit.then, Act.put, List.setIfInBounds_toArray, List.set_cons_succ, List.set_cons_zero]
                  refine Dm.wpE_take (i := 8) (listed' := (Dm.bits 9 511)) (by kernel_rfl) (by kernel_rfl) rfl (fun _ _ _ _ h => h) ?_; apply Exists.intro; refine And.intro (fun x => ?_) ?_
                  · go_big_quiet_step (fail); exact wpQuiet_nil rfl
                  refine Dm.wpE_done (by kernel_rfl) hX6b (fun w7a hx7a => ?_)
                  have hX7a := Ext.trans hX6b hx7a
                  replace ho2 := Ext.row ho2 hx7a
                  go_wp2_with fail
                  go_meet
                  exact ⟨hX7a, Pairs.of_row (by rw [pairCells_app]; exact ho2) (by simp)⟩
              case rest =>
                obtain ⟨hX5, hr5⟩ := hcut
                have f5 := f3.trans (hX4.trans hX5)
                obtain ⟨w5, rfl⟩ : ∃ w5 : World, w5 = wc := ⟨_, rfl⟩
                have CA := lright_w (l ++ [pairAt l m]) _ w5 (by simp; omega) (fit_app hF (fit_at hF hml)) (hr4.ext hX5) (ht.tabs.ext f5)
                rw [htw.out] at CA
                go_wp2_with fail
                refine CA.mono ?_; rintro e w6 ⟨rfl, h6⟩
                clear CA
                have f6 := f5.trans h6
                have CB := lright_w (l.drop 1 ++ [pairAt l 0]) _ w6 (by simp; omega) (fit_app (fit_drop hF 1) (fit_at hF h0l)) (hr5.ext h6) (ht.tabs.ext f6)
                rw [htu.out, show decide (l.length = 1) = ((l.length : Int) == 1) by rw [Bool.eq_iff_iff]; simp; omega] at CB
                cases hq1 : ((l.length : Int) == 1)
                all_goals
                  rw [hq1] at CB
                  go_wp2_with fail
                  refine CB.mono ?_; rintro e w7 ⟨rfl, h7⟩
                  go_wp2
                  go_ret
                  exact ⟨rfl, f6.trans h7⟩
            · have hd4 : Pairs wA (.slice (some ⟨b, off + 2, none⟩) (l.length - 1) (cap - 1)) (l.drop 1) := by
                have := (hx3.ext hX4).drop (k := 1) (by omega)
                unfold dropV at this
                rw [if_neg hc1] at this
                exact this
              go_wp2_with fail
              go_cut [14] (fun r w' => Ext wA w' ∧ Pairs w' r (l.drop 1 ++ [pairAt l 0]))
              case first =>
                try simp only [Act.put, List.setIfInBounds_toArray, List.set_cons_succ, List.set_cons_zero]
                refine Dm.wp_region_ext 9 (Dm.bits 9 0) (Ext.refl _) (by kernel_rfl) (by kernel_rfl) (by kernel_rfl) ?_
                refine Dm.wpE_take (i := 0) (listed' := (Dm.bits 9 1)) (by kernel_rfl) (by kernel_rfl) rfl (fun _ _ _ _ h => h) ?_; apply Exists.intro; refine And.intro (fun x => ?_) ?_
                · go_big_quiet_step (fail); exact wpQuiet_nil rfl
                refine Dm.wpE_take (i := 1) (listed' := (Dm.bits 9 3)) (by kernel_rfl) (by kernel_rfl) rfl (fun _ _ _ _ h => h) ?_; apply Exists.intro; refine And.intro (fun x => ?_) ?_
                · go_big_quiet_step (fail); exact wpQuiet_nil rfl
                refine Dm.wpE_take (i := 3) (listed' := (Dm.bits 9 11)) (by kernel_rfl) (by kernel_rfl) rfl (fun _ _ _ _ h => h) ?_; apply Exists.intro; refine And.intro (fun x => ?_) ?_
                · go_big_quiet_step (fail); exact wpQuiet_nil rfl
                refine Dm.wpE_take (i := 4) (listed' := (Dm.bits 9 27)) (by kernel_rfl) (by kernel_rfl) rfl (fun _ _ _ _ h => h) ?_; apply Exists.intro; refine And.intro (fun x => ?_) ?_
                · go_big_quiet_step (fail); exact wpQuiet_nil rfl
                refine Dm.wpE_take (i := 5) (listed' := (Dm.bits 9 59)) (by kernel_rfl) (by kernel_rfl) rfl (fun _ _ _ _ h => h) ?_; apply Exists.intro; refine And.intro (fun x => ?_) ?_
                · go_big_quiet_step (fail); exact wpQuiet_nil rfl
                refine Dm.wpE_two (i := 2) (j := 6) (li := (Dm.bits 9 63)) (lj := (Dm.bits 9 123)) (by kernel_rfl) (by kernel_rfl) (by kernel_rfl) rfl rfl (Ext.refl _) (fun w1a hx1a => ?_) (fun w1a hx1a => ?_)
                ·
                  have hX1a := Ext.trans (Ext.refl _) hx1a
                  refine wpList_appE rfl _ _ Tryd.slPair rfl hX1a rfl (World.ownsRow_nil _ _ _ _) rfl (hd4.ext hX1a) (pairCells_one _) (by have := hdl.out; omega) ?_
                  intro r1 w1b ho1 hX1b hg1
                  have hs1 := hg1 rfl
                  simp only [Nat.zero_add, List.nil_append] at ho1
                  refine wpList_nil ?_
                  try simp only [Exit.then, Act.put, List.setIfInBounds_toArray, List.set_cons_succ, List.set_cons_zero]
                  refine Dm.wpE_one (i := 6) (listed' := (Dm.bits 9 127)) (by kernel_rfl) (by kernel_rfl) rfl hX1b (fun w2a hx2a => ?_)
                  have hX2a := Ext.trans hX1b hx2a
                  replace ho1 := Ext.row ho1 hx2a
                  go_wp2_with fail
                  have hl := Sl.lit w2a 29 2 1 #[.string (pairAt l 0).1, .string (pairAt l 0).2] rfl (by simp [maxLen])
                  have hs2 := (Ext.refl w2a).alloc (.cells #[.string (pairAt l 0).1, .string (pairAt l 0).2] 29)
                  generalize w2a.alloc (.cells #[.string (pairAt l 0).1, .string (pairAt l 0).2] 29) = w2b at *
                  have hX2b := Ext.trans hX2a hs2
                  replace ho1 := Ext.row ho1 hs2
                  try simp only [Exit.then, Act.put, List.setIfInBounds_toArray, List.set_cons_succ, List.set_cons_zero]
                  refine Dm.wpE_one (i := 7) (listed' := (Dm.bits 9 255)) (by kernel_rfl) (by kernel_rfl) rfl hX2b (fun w3a hx3a => ?_)
                  have hX3a := Ext.trans hX2b hx3a
                  replace ho1 := Ext.row ho1 hx3a
                  replace hl := hl.ext hx3a
                  refine wpList_appE rfl _ _ Tryd.slPair rfl hX3a rfl ho1 rfl hl (pairCells_one [pairAt l 0]) (by have := hdl.out; omega) ?_
                  intro r2 w3b ho2 hX3b _
                  refine wpList_nil ?_
                  try simp only [Exit.then, Act.put, List.setIfInBounds_toArray, List.set_cons_succ, List.set_cons_zero]
                  refine Dm.wpE_take (i := 8) (listed' := (Dm.bits 9 511)) (by kernel_rfl) (by kernel_rfl) rfl (fun _ _ _ _ h => h) ?_; apply Exists.intro; refine And.intro (fun x => ?_) ?_
                  · go_big_quiet_step (fail); exact wpQuiet_nil rfl
                  refine Dm.wpE_done (by kernel_rfl) hX3b (fun w4a hx4a => ?_)
                  have hX4a := Ext.trans hX3b hx4a
                  replace ho2 := Ext.row ho2 hx4a
                  go_wp2_with fail
                  go_meet
                  exact ⟨hX4a, Pairs.of_row (by rw [pairCells_app]; exact ho2) (by simp)⟩
                ·
                  have hX1a := Ext.trans (Ext.refl _) hx1a
                  go_wp2_with fail
                  have hl := Sl.lit w1a 29 2 1 #[.string (pairAt l 0).1, .string (pairAt l 0).2] rfl (by simp [maxLen])
                  have hs1 := (Ext.refl w1a).alloc (.cells #[.string (pairAt l 0).1, .string (pairAt l 0).2] 29)
                  generalize w1a.alloc (.cells #[.string (pairAt l 0).1, .string (pairAt l 0).2] 29) = w1b at *
                  have hX1b := Ext.trans hX1a hs1
                  try simp only [Exit.then, Act.put, List.setIfInBounds_toArray, List.set_cons_succ, List.set_cons_zero]
                  refine Dm.wpE_one (i := 2) (listed' := (Dm.bits 9 127)) (by kernel_rfl) (by kernel_rfl) rfl hX1b (fun w5a hx5a => ?_)
                  have hX5a := Ext.trans hX1b hx5a
                  replace hl := hl.ext hx5a
                  refine wpList_appE rfl _ _ Tryd.slPair rfl hX5a rfl (World.ownsRow_nil _ _ _ _) rfl (hd4.ext hX5a) (pairCells_one _) (by have := hdl.out; omega) ?_
                  intro r1 w5b ho1 hX5b hg1
                  have hs5 := hg1 rfl
                  simp only [Nat.zero_add, List.nil_append] at ho1
                  refine wpList_nil ?_
                  replace hl := hl.ext hs5
                  try simp only [Exit.then, Act.put, List.setIfInBounds_toArray, List.set_cons_succ, List.set_cons_zero]
                  refine Dm.wpE_one (i := 7) (listed' := (Dm.bits 9 255)) (by kernel_rfl) (by kernel_rfl) rfl hX5b (fun w6a hx6a => ?_)
                  have hX6a := Ext.trans hX5b hx6a
                  replace hl := hl.ext hx6a
                  replace ho1 := Ext.row ho1 hx6a
                  refine wpList_appE rfl _ _ Tryd.slPair rfl hX6a rfl ho1 rfl hl (pairCells_one [pairAt l 0]) (by have := hdl.out; omega) ?_
                  intro r2 w6b ho2 hX6b _
                  refine wpList_nil ?_
                  try simp only [Exit.then, Act.put, List.setIfInBounds_toArray, List.set_cons_succ, List.set_cons_zero]
                  refine Dm.wpE_take (i := 8) (listed' := (Dm.bits 9 511)) (by kernel_rfl) (by kernel_rfl) rfl (fun _ _ _ _ h => h) ?_; apply Exists.intro; refine And.intro (fun x => ?_) ?_
                  · go_big_quiet_step (fail); exact wpQuiet_nil rfl
                  refine Dm.wpE_done (by kernel_rfl) hX6b (fun w7a hx7a => ?_)
                  have hX7a := Ext.trans hX6b hx7a
                  replace ho2 := Ext.row ho2 hx7a
                  go_wp2_with fail
                  go_meet
                  exact ⟨hX7a, Pairs.of_row (by rw [pairCells_app]; exact ho2) (by simp)⟩
              case rest =>
                obtain ⟨hX5, hr5⟩ := hcut
                have f5 := f3.trans (hX4.trans hX5)
                obtain ⟨w5, rfl⟩ : ∃ w5 : World, w5 = wc := ⟨_, rfl⟩
                have CA := lright_w (l ++ [pairAt l m]) _ w5 (by simp; omega) (fit_app hF (fit_at hF hml)) (hr4.ext hX5) (ht.tabs.ext f5)
                rw [htw.out] at CA
                go_wp2_with fail
                refine CA.mono ?_; rintro e w6 ⟨rfl, h6⟩
                clear CA
                have f6 := f5.trans h6
                have CB := lright_w (l.drop 1 ++ [pairAt l 0]) _ w6 (by simp; omega) (fit_app (fit_drop hF 1) (fit_at hF h0l)) (hr5.ext h6) (ht.tabs.ext f6)
                rw [htu.out, show decide (l.length = 1) = ((l.length : Int) == 1) by rw [Bool.eq_iff_iff]; simp; omega] at CB
                cases hq1 : ((l.length : Int) == 1)
                all_goals
                  rw [hq1] at CB
                  go_wp2_with fail
                  refine CB.mono ?_; rintro e w7 ⟨rfl, h7⟩
                  go_wp2
                  go_ret
                  exact ⟨rfl, f6.trans h7⟩
        | false =>
          obtain rfl := hfe.out rfl
          go_wp2
          go_cut [13] (fun r w' => Ext w3 w' ∧ Pairs w' r (l ++ [pairAt l m]))
          case first =>
            try simp only [Act.put, List.setIfInBounds_toArray, List.set_cons_succ, List.set_cons_zero]
            refine Dm.wp_region_ext 11 (Dm.bits 11 0) (Ext.refl _) (by kernel_rfl) (by kernel_rfl) (by kernel_rfl) ?_
            refine Dm.wpE_take (i := 0) (listed' := (Dm.bits 11 1)) (by kernel_rfl) (by kernel_rfl) rfl (fun _ _ _ _ h => h) ?_; apply Exists.intro; refine And.intro (fun x => ?_) ?_
            · go_big_quiet_step (fail); exact wpQuiet_nil rfl
            refine Dm.wpE_take (i := 2) (listed' := (Dm.bits 11 5)) (by kernel_rfl) (by kernel_rfl) rfl (fun _ _ _ _ h => h) ?_; apply Exists.intro; refine And.intro (fun x => ?_) ?_
            · go_big_quiet_step (fail); exact wpQuiet_nil rfl
            refine Dm.wpE_take (i := 3) (listed' := (Dm.bits 11 13)) (by kernel_rfl) (by kernel_rfl) rfl (fun _ _ _ _ h => h) ?_; apply Exists.intro; refine And.intro (fun x => ?_) ?_
            · go_big_quiet_step (fail); exact wpQuiet_nil rfl
            refine Dm.wpE_take (i := 4) (listed' := (Dm.bits 11 29)) (by kernel_rfl) (by kernel_rfl) rfl (fun _ _ _ _ h => h) ?_; apply Exists.intro; refine And.intro (fun x => ?_) ?_
            · go_big_quiet_step (fail); exact wpQuiet_nil rfl
            refine Dm.wpE_take (i := 5) (listed' := (Dm.bits 11 61)) (by kernel_rfl) (by kernel_rfl) rfl (fun _ _ _ _ h => h) ?_; apply Exists.intro; refine And.intro (fun x => ?_) ?_
            · go_big_quiet_step (fail); exact wpQuiet_nil rfl
            refine Dm.wpE_take (i := 6) (listed' := (Dm.bits 11 125)) (by kernel_rfl) (by kernel_rfl) rfl (fun _ _ _ _ h => h) ?_; apply Exists.intro; refine And.intro (fun x => ?_) ?_
            · go_big_quiet_step (fail); exact wpQuiet_nil rfl
            refine Dm.wpE_take (i := 7) (listed' := (Dm.bits 11 253)) (by kernel_rfl) (by kernel_rfl) rfl (fun _ _ _ _ h => h) ?_; apply Exists.intro; refine And.intro (fun x => ?_) ?_
            · go_big_quiet_step (fail); exact wpQuiet_nil rfl
            refine Dm.wpE_two (i := 1) (j := 8) (li := (Dm.bits 11 255)) (lj := (Dm.bits 11 509)) (by kernel_rfl) (by kernel_rfl) (by kernel_rfl) rfl rfl (Ext.refl _) (fun w1a hx1a => ?_) (fun w1a hx1a => ?_)
            ·
              have hX1a := Ext.trans (Ext.refl _) hx1a
              refine wpList_appE rfl _ _ Tryd.slPair rfl hX1a rfl (World.ownsRow_nil _ _ _ _) rfl (hx3.ext hX1a) (pairCells_one _) (by omega) ?_
              intro r1 w1b ho1 hX1b hg1
              have hs1 := hg1 rfl
              simp only [Nat.zero_add, List.nil_append] at ho1
              refine wpList_nil ?_
              try simp only [Exit.then, Act.put, List.setIfInBounds_toArray, List.set_cons_succ, List.set_cons_zero]
              refine Dm.wpE_one (i := 8) (listed' := (Dm.bits 11 511)) (by kernel_rfl) (by kernel_rfl) rfl hX1b (fun w2a hx2a => ?_)
              have hX2a := Ext.trans hX1b hx2a
              replace ho1 := Ext.row ho1 hx2a
              go_wp2_with fail
              have hl := Sl.lit w2a 29 2 1 #[.string (pairAt l m).1, .string (pairAt l m).2] rfl (by simp [maxLen])
              have hs2 := (Ext.refl w2a).alloc (.cells #[.string (pairAt l m).1, .string (pairAt l m).2] 29)
              generalize w2a.alloc (.cells #[.string (pairAt l m).1, .string (pairAt l m).2] 29) = w2b at *
              have hX2b := Ext.trans hX2a hs2
              replace ho1 := Ext.row ho1 hs2
              try simp only [Exit.then, Act.put, List.setIfInBounds_toArray, List.set_cons_succ, List.set_cons_zero]
              refine Dm.wpE_one (i := 9) (listed' := (Dm.bits 11 1023)) (by kernel_rfl) (by kernel_rfl) rfl hX2b (fun w3a hx3a => ?_)
              have hX3a := Ext.trans hX2b hx3a
              replace ho1 := Ext.row ho1 hx3a
              replace hl := hl.ext hx3a
              refine wpList_appE rfl _ _ Tryd.slPair rfl hX3a rfl ho1 rfl hl (pairCells_one [pairAt l m]) (by omega) ?_
              intro r2 w3b ho2 hX3b _
              refine wpList_nil ?_
              try simp only [Exit.then, Act.put, List.setIfInBounds_toArray, List.set_cons_succ, List.set_cons_zero]
              refine Dm.wpE_take (i := 10) (listed' := (Dm.bits 11 2047)) (by kernel_rfl) (by kernel_rfl) rfl (fun _ _ _ _ h => h) ?_; apply Exists.intro; refine And.intro (fun x => ?_) ?_
              · go_big_quiet_step (fail); exact wpQuiet_nil rfl
              refine Dm.wpE_done (by kernel_rfl) hX3b (fun w4a hx4a => ?_)
              have hX4a := Ext.trans hX3b hx4a
              replace ho2 := Ext.row ho2 hx4a
              go_wp2_with fail
              go_meet
              exact ⟨hX4a, Pairs.of_row (by rw [pairCells_app]; exact ho2) (by simp)⟩
            ·
              have hX1a := Ext.trans (Ext.refl _) hx1a
              go_wp2_with fail
              have hl := Sl.lit w1a 29 2 1 #[.string (pairAt l m).1, .string (pairAt l m).2] rfl (by simp [maxLen])
              have hs1 := (Ext.refl w1a).alloc (.cells #[.string (pairAt l m).1, .string (pairAt l m).2] 29)
              generalize w1a.alloc (.cells #[.string (pairAt l m).1, .string (pairAt l m).2] 29) = w1b at *
              have hX1b := Ext.trans hX1a hs1
              try simp only [Exit.then, Act.put, List.setIfInBounds_toArray, List.set_cons_succ, List.set_cons_zero]
              refine Dm.wpE_one (i := 1) (listed' := (Dm.bits 11 511)) (by kernel_rfl) (by kernel_rfl) rfl hX1b (fun w5a hx5a => ?_)
              have hX5a := Ext.trans hX1b hx5a
              replace hl := hl.ext hx5a
              refine wpList_appE rfl _ _ Tryd.slPair rfl hX5a rfl (World.ownsRow_nil _ _ _ _) rfl (hx3.ext hX5a) (pairCells_one _) (by omega) ?_
              intro r1 w5b ho1 hX5b hg1
              have hs5 := hg1 rfl
              simp only [Nat.zero_add, List.nil_append] at ho1
              refine wpList_nil ?_
              replace hl := hl.ext hs5
              try simp only [Exit.then, Act.put, List.setIfInBounds_toArray, List.set_cons_succ, List.set_cons_zero]
              refine Dm.wpE_one (i := 9) (listed' := (Dm.bits 11 1023)) (by kernel_rfl) (by kernel_rfl) rfl hX5b (fun w6a hx6a => ?_)
              have hX6a := Ext.trans hX5b hx6a
              replace hl := hl.ext hx6a
              replace ho1 := Ext.row ho1 hx6a
              refine wpList_appE rfl _ _ Tryd.slPair rfl hX6a rfl ho1 rfl hl (pairCells_one [pairAt l m]) (by omega) ?_
              intro r2 w6b ho2 hX6b _
              refine wpList_nil ?_
              try simp only [Exit.then, Act.put, List.setIfInBounds_toArray, List.set_cons_succ, List.set_cons_zero]
              refine Dm.wpE_take (i := 10) (listed' := (Dm.bits 11 2047)) (by kernel_rfl) (by kernel_rfl) rfl (fun _ _ _ _ h => h) ?_; apply Exists.intro; refine And.intro (fun x => ?_) ?_
              · go_big_quiet_step (fail); exact wpQuiet_nil rfl
              refine Dm.wpE_done (by kernel_rfl) hX6b (fun w7a hx7a => ?_)
              have hX7a := Ext.trans hX6b hx7a
              replace ho2 := Ext.row ho2 hx7a
              go_wp2_with fail
              go_meet
              exact ⟨hX7a, Pairs.of_row (by rw [pairCells_app]; exact ho2) (by simp)⟩
          case rest =>
            obtain ⟨wA, rfl⟩ : ∃ wA : World, wA = wc := ⟨_, rfl⟩
            obtain ⟨hX4, hr4⟩ := hcut
            clear c0 c1 d0 d1
            obtain ⟨d0, d1⟩ := (hx3.ext hX4).cells h0l
            rw [Nat.zero_mul, Nat.add_zero] at d0 d1
            have hblc : b < wA.heap.size := Nat.lt_of_lt_of_le hbl hX4.size
            by_cases hc1 : cap = 1
            · subst hc1
              have hd4 : Pairs wA (.slice (some ⟨b, off, none⟩) 0 0) (l.drop 1) := by
                have := (hx3.ext hX4).drop (k := 1) (by omega)
                unfold dropV at this
                rw [if_pos rfl, show l.length - 1 = 0 by omega] at this
                exact this
              go_wp2_with fail
              go_cut [14] (fun r w' => Ext wA w' ∧ Pairs w' r (l.drop 1 ++ [pairAt l 0]))
              case first =>
                try simp only [Act.put, List.setIfInBounds_toArray, List.set_cons_succ, List.set_cons_zero]
                refine Dm.wp_region_ext 9 (Dm.bits 9 0) (Ext.refl _) (by kernel_rfl) (by kernel_rfl) (by kernel_rfl) ?_
                refine Dm.wpE_take (i := 0) (listed' := (Dm.bits 9 1)) (by kernel_rfl) (by kernel_rfl) rfl (fun _ _ _ _ h => h) ?_; apply Exists.intro; refine And.intro (fun x => ?_) ?_
                · go_big_quiet_step (fail); exact wpQuiet_nil rfl
                refine Dm.wpE_take (i := 1) (listed' := (Dm.bits 9 3)) (by kernel_rfl) (by kernel_rfl) rfl (fun _ _ _ _ h => h) ?_; apply Exists.intro; refine And.intro (fun x => ?_) ?_
                · go_big_quiet_step (fail); exact wpQuiet_nil rfl
                refine Dm.wpE_take (i := 3) (listed' := (Dm.bits 9 11)) (by kernel_rfl) (by kernel_rfl) rfl (fun _ _ _ _ h => h) ?_; apply Exists.intro; refine And.intro (fun x => ?_) ?_
                · go_big_quiet_step (fail); exact wpQuiet_nil rfl
                refine Dm.wpE_take (i := 4) (listed' := (Dm.bits 9 27)) (by kernel_rfl) (by kernel_rfl) rfl (fun _ _ _ _ h => h) ?_; apply Exists.intro; refine And.intro (fun x => ?_) ?_
                · go_big_quiet_step (fail); exact wpQuiet_nil rfl
                refine Dm.wpE_take (i := 5) (listed' := (Dm.bits 9 59)) (by kernel_rfl) (by kernel_rfl) rfl (fun _ _ _ _ h => h) ?_; apply Exists.intro; refine And.intro (fun x => ?_) ?_
                · go_big_quiet_step (fail); exact wpQuiet_nil rfl
                refine Dm.wpE_two (i := 2) (j := 6) (li := (Dm.bits 9 63)) (lj := (Dm.bits 9 123)) (by kernel_rfl) (by kernel_rfl) (by kernel_rfl) rfl rfl (Ext.refl _) (fun w1a hx1a => ?_) (fun w1a hx1a => ?_)
                ·
                  have hX1a := Ext.trans (Ext.refl _) hx1a
                  refine wpList_appE rfl _ _ Tryd.slPair rfl hX1a rfl (World.ownsRow_nil _ _ _ _) rfl (hd4.ext hX1a) (pairCells_one _) (by have := hdl.out; omega) ?_
                  intro r1 w1b ho1 hX1b hg1
                  have hs1 := hg1 rfl
                  simp only [Nat.zero_add, List.nil_append] at ho1
                  refine wpList_nil ?_
                  try simp only [Exit.then, Act.put, List.setIfInBounds_toArray, List.set_cons_succ, List.set_cons_zero]
                  refine Dm.wpE_one (i := 6) (listed' := (Dm.bits 9 127)) (by kernel_rfl) (by kernel_rfl) rfl hX1b (fun w2a hx2a => ?_)
                  have hX2a := Ext.trans hX1b hx2a
                  replace ho1 := Ext.row ho1 hx2a
                  go_wp2_with fail
                  have hl := Sl.lit w2a 29 2 1 #[.string (pairAt l 0).1, .string (pairAt l 0).2] rfl (by simp [maxLen])
                  have hs2 := (Ext.refl w2a).alloc (.cells #[.string (pairAt l 0).1, .string (pairAt l 0).2] 29)
                  generalize w2a.alloc (.cells #[.string (pairAt l 0).1, .string (pairAt l 0).2] 29) = w2b at *
                  have hX2b := Ext.trans hX2a hs2
                  replace ho1 := Ext.row ho1 hs2
                  try simp only [Exit.then, Act.put, List.setIfInBounds_toArray, List.set_cons_succ, List.set_cons_zero]
                  refine Dm.wpE_one (i := 7) (listed' := (Dm.bits 9 255)) (by kernel_rfl) (by kernel_rfl) rfl hX2b (fun w3a hx3a => ?_)
                  have hX3a := Ext.trans hX2b hx3a
                  replace ho1 := Ext.row ho1 hx3a
                  replace hl := hl.ext hx3a
                  refine wpList_appE rfl _ _ Tryd.slPair rfl hX3a rfl ho1 rfl hl (pairCells_one [pairAt l 0]) (by have := hdl.out; omega) ?_
                  intro r2 w3b ho2 hX3b _
                  refine wpList_nil ?_
                  try simp only [Exit.then, Act.put, List.setIfInBounds_toArray, List.set_cons_succ, List.set_cons_zero]
                  refine Dm.wpE_take (i := 8) (listed' := (Dm.bits 9 511)) (by kernel_rfl) (by kernel_rfl) rfl (fun _ _ _ _ h => h) ?_; apply Exists.intro; refine And.intro (fun x => ?_) ?_
                  · go_big_quiet_step (fail); exact wpQuiet_nil rfl
                  refine Dm.wpE_done (by kernel_rfl) hX3b (fun w4a hx4a => ?_)
                  have hX4a := Ext.trans hX3b hx4a
                  replace ho2 := Ext.row ho2 hx4a
                  go_wp2_with fail
                  go_meet
                  exact ⟨hX4a, Pairs.of_row (by rw [pairCells_app]; exact ho2) (by simp)⟩
                ·
                  have hX1a := Ext.trans (Ext.refl _) hx1a
                  go_wp2_with fail
                  have hl := Sl.lit w1a 29 2 1 #[.string (pairAt l 0).1, .string (pairAt l 0).2] rfl (by simp [maxLen])
                  have hs1 := (Ext.refl w1a).alloc (.cells #[.string (pairAt l 0).1, .string (pairAt l 0).2] 29)
                  generalize w1a.alloc (.cells #[.string (pairAt l 0).1, .string (pairAt l 0).2] 29) = w1b at *
                  have hX1b := Ext.trans hX1a hs1
                  try simp only [Exit.then, Act.put, List.setIfInBounds_toArray, List.set_cons_succ, List.set_cons_zero]
                  refine Dm.wpE_one (i := 2) (listed' := (Dm.bits 9 127)) (by kernel_rfl) (by kernel_rfl) rfl hX1b (fun w5a hx5a => ?_)
                  have hX5a := Ext.trans hX1b hx5a
                  replace hl := hl.ext hx5a
                  refine wpList_appE rfl _ _ Tryd.slPair rfl hX5a rfl (World.ownsRow_nil _ _ _ _) rfl (hd4.ext hX5a) (pairCells_one _) (by have := hdl.out; omega) ?_
                  intro r1 w5b ho1 hX5b hg1
                  have hs5 := hg1 rfl
                  simp only [Nat.zero_add, List.nil_append] at ho1
                  refine wpList_nil ?_
                  replace hl := hl.ext hs5
                  try simp only [Exit.then, Act.put, List.setIfInBounds_toArray, List.set_cons_succ, List.set_cons_zero]
                  refine Dm.wpE_one (i := 7) (listed' := (Dm.bits 9 255)) (by kernel_rfl) (by kernel_rfl) rfl hX5b (fun w6a hx6a => ?_)
                  have hX6a := Ext.trans hX5b hx6a
                  replace hl := hl.ext hx6a
                  replace ho1 := Ext.row ho1 hx6a
                  refine wpList_appE rfl _ _ Tryd.slPair rfl hX6a rfl ho1 rfl hl (pairCells_one [pairAt l 0]) (by have := hdl.out; omega) ?_
                  intro r2 w6b ho2 hX6b _
                  refine wpList_nil ?_
                  try simp only [Exit.then, Act.put, List.setIfInBounds_toArray, List.set_cons_succ, List.set_cons_zero]
                  refine Dm.wpE_take (i := 8) (listed' := (Dm.bits 9 511)) (by kernel_rfl) (by kernel_rfl) rfl (fun _ _ _ _ h => h) ?_; apply Exists.intro; refine And.intro (fun x => ?_) ?_
                  · go_big_quiet_step (fail); exact wpQuiet_nil rfl
                  refine Dm.wpE_done (by kernel_rfl) hX6b (fun w7a hx7a => ?_)
                  have hX7a := Ext.trans hX6b hx7a
                  replace ho2 := Ext.row ho2 hx7a
                  go_wp2_with fail
                  go_meet
                  exact ⟨hX7a, Pairs.of_row (by rw [pairCells_app]; exact ho2) (by simp)⟩
              case rest =>
                obtain ⟨hX5, hr5⟩ := hcut
                have f5 := f3.trans (hX4.trans hX5)
                obtain ⟨w5, rfl⟩ : ∃ w5 : World, w5 = wc := ⟨_, rfl⟩
                have CA := lright_w (l ++ [pairAt l m]) _ w5 (by simp; omega) (fit_app hF (fit_at hF hml)) (hr4.ext hX5) (ht.tabs.ext f5)
                rw [htw.out] at CA
                go_wp2_with fail
                refine CA.mono ?_; rintro e w6 ⟨rfl, h6⟩
                clear CA
                have f6 := f5.trans h6
                have CB := lright_w (l.drop 1 ++ [pairAt l 0]) _ w6 (by simp; omega) (fit_app (fit_drop hF 1) (fit_at hF h0l)) (hr5.ext h6) (ht.tabs.ext f6)
                rw [htu.out, show decide (l.length = 1) = ((l.length : Int) == 1) by rw [Bool.eq_iff_iff]; simp; omega] at CB
                cases hq1 : ((l.length : Int) == 1)
                all_goals
                  rw [hq1] at CB
                  go_wp2_with fail
                  refine CB.mono ?_; rintro e w7 ⟨rfl, h7⟩
                  go_wp2
                  go_ret
                  exact ⟨rfl, f6.trans h7⟩
            · have hd4 : Pairs wA (.slice (some ⟨b, off + 2, none⟩) (l.length - 1) (cap - 1)) (l.drop 1) := by
                have := (hx3.ext hX4).drop (k := 1) (by omega)
                unfold dropV at this
                rw [if_neg hc1] at this
                exact this
              go_wp2_with fail
              go_cut [14] (fun r w' => Ext wA w' ∧ Pairs w' r (l.drop 1 ++ [pairAt l 0]))
              case first =>
                try simp only [Act.put, List.setIfInBounds_toArray, List.set_cons_succ, List.set_cons_zero]
                refine Dm.wp_region_ext 9 (Dm.bits 9 0) (Ext.refl _) (by kernel_rfl) (by kernel_rfl) (by kernel_rfl) ?_
                refine Dm.wpE_take (i := 0) (listed' := (Dm.bits 9 1)) (by kernel_rfl) (by kernel_rfl) rfl (fun _ _ _ _ h => h) ?_; apply Exists.intro; refine And.intro (fun x => ?_) ?_
                · go_big_quiet_step (fail); exact wpQuiet_nil rfl
                refine Dm.wpE_take (i := 1) (listed' := (Dm.bits 9 3)) (by kernel_rfl) (by kernel_rfl) rfl (fun _ _ _ _ h => h) ?_; apply Exists.intro; refine And.intro (fun x => ?_) ?_
                · go_big_quiet_step (fail); exact wpQuiet_nil rfl
                refine Dm.wpE_take (i := 3) (listed' := (Dm.bits 9 11)) (by kernel_rfl) (by kernel_rfl) rfl (fun _ _ _ _ h => h) ?_; apply Exists.intro; refine And.intro (fun x => ?_) ?_
                · go_big_quiet_step (fail); exact wpQuiet_nil rfl
                refine Dm.wpE_take (i := 4) (listed' := (Dm.bits 9 27)) (by kernel_rfl) (by kernel_rfl) rfl (fun _ _ _ _ h => h) ?_; apply Exists.intro; refine And.intro (fun x => ?_) ?_
                · go_big_quiet_step (fail); exact wpQuiet_nil rfl
                refine Dm.wpE_take (i := 5) (listed' := (Dm.bits 9 59)) (by kernel_rfl) (by kernel_rfl) rfl (fun _ _ _ _ h => h) ?_; apply Exists.intro; refine And.intro (fun x => ?_) ?_
                · go_big_quiet_step (fail); exact wpQuiet_nil rfl
                refine Dm.wpE_two (i := 2) (j := 6) (li := (Dm.bits 9 63)) (lj := (Dm.bits 9 123)) (by kernel_rfl) (by kernel_rfl) (by kernel_rfl) rfl rfl (Ext.refl _) (fun w1a hx1a => ?_) (fun w1a hx1a => ?_)
                ·
                  have hX1a := Ext.trans (Ext.refl _) hx1a
                  refine wpList_appE rfl _ _ Tryd.slPair rfl hX1a rfl (World.ownsRow_nil _ _ _ _) rfl (hd4.ext hX1a) (pairCells_one _) (by have := hdl.out; omega) ?_
                  intro r1 w1b ho1 hX1b hg1
                  have hs1 := hg1 rfl
                  simp only [Nat.zero_add, List.nil_append] at ho1
                  refine wpList_nil ?_
                  try simp only [Exit.then, Act.put, List.setIfInBounds_toArray, List.set_cons_succ, List.set_cons_zero]
                  refine Dm.wpE_one (i := 6) (listed' := (Dm.bits 9 127)) (by kernel_rfl) (by kernel_rfl) rfl hX1b (fun w2a hx2a => ?_)
                  have hX2a := Ext.trans hX1b hx2a
                  replace ho1 := Ext.row ho1 hx2a
                  go_wp2_with fail
                  have hl := Sl.lit w2a 29 2 1 #[.string (pairAt l 0).1, .string (pairAt l 0).2] rfl (by simp [maxLen])
                  have hs2 := (Ext.refl w2a).alloc (.cells #[.string (pairAt l 0).1, .string (pairAt l 0).2] 29)
                  generalize w2a.alloc (.cells #[.string (pairAt l 0).1, .string (pairAt l 0).2] 29) = w2b at *
                  have hX2b := Ext.trans hX2a hs2
                  replace ho1 := Ext.row ho1 hs2
                  try simp only [Exit.then, Act.put, List.setIfInBounds_toArray, List.set_cons_succ, List.set_cons_zero]
                  refine Dm.wpE_one (i := 7) (listed' := (Dm.bits 9 255)) (by kernel_rfl) (by kernel_rfl) rfl hX2b (fun w3a hx3a => ?_)
                  have hX3a := Ext.trans hX2b hx3a
                  replace ho1 := Ext.row ho1 hx3a
                  replace hl := hl.ext hx3a
                  refine wpList_appE rfl _ _ Tryd.slPair rfl hX3a rfl ho1 rfl hl (pairCells_one [pairAt l 0]) (by have := hdl.out; omega) ?_
                  intro r2 w3b ho2 hX3b _
                  refine wpList_nil ?_
                  try simp only [Exit.then, Act.put, List.setIfInBounds_toArray, List.set_cons_succ, List.set_cons_zero]
                  refine Dm.wpE_take (i := 8) (listed' := (Dm.bits 9 511)) (by kernel_rfl) (by kernel_rfl) rfl (fun _ _ _ _ h => h) ?_; apply Exists.intro; refine And.intro (fun x => ?_) ?_
                  · go_big_quiet_step (fail); exact wpQuiet_nil rfl
                  refine Dm.wpE_done (by kernel_rfl) hX3b (fun w4a hx4a => ?_)
                  have hX4a := Ext.trans hX3b hx4a
                  replace ho2 := Ext.row ho2 hx4a
                  go_wp2_with fail
                  go_meet
                  exact ⟨hX4a, Pairs.of_row (by rw [pairCells_app]; exact ho2) (by simp)⟩
                ·
                  have hX1a := Ext.trans (Ext.refl _) hx1a
                  go_wp2_with fail
                  have hl := Sl.lit w1a 29 2 1 #[.string (pairAt l 0).1, .string (pairAt l 0).2] rfl (by simp [maxLen])
                  have hs1 := (Ext.refl w1a).alloc (.cells #[.string (pairAt l 0).1, .string (pairAt l 0).2] 29)
                  generalize w1a.alloc (.cells #[.string (pairAt l 0).1, .string (pairAt l 0).2] 29) = w1b at *
                  have hX1b := Ext.trans hX1a hs1
                  try simp only [Exit.then, Act.put, List.setIfInBounds_toArray, List.set_cons_succ, List.set_cons_zero]
                  refine Dm.wpE_one (i := 2) (listed' := (Dm.bits 9 127)) (by kernel_rfl) (by kernel_rfl) rfl hX1b (fun w5a hx5a => ?_)
                  have hX5a := Ext.trans hX1b hx5a
                  replace hl := hl.ext hx5a
                  refine wpList_appE rfl _ _ Tryd.slPair rfl hX5a rfl (World.ownsRow_nil _ _ _ _) rfl (hd4.ext hX5a) (pairCells_one _) (by have := hdl.out; omega) ?_
                  intro r1 w5b ho1 hX5b hg1
                  have hs5 := hg1 rfl
                  simp only [Nat.zero_add, List.nil_append] at ho1
                  refine wpList_nil ?_
                  replace hl := hl.ext hs5
                  try simp only [Exit.then, Act.put, List.setIfInBounds_toArray, List.set_cons_succ, List.set_cons_zero]
                  refine Dm.wpE_one (i := 7) (listed' := (Dm.bits 9 255)) (by kernel_rfl) (by kernel_rfl) rfl hX5b (fun w6a hx6a => ?_)
                  have hX6a := Ext.trans hX5b hx6a
                  replace hl := hl.ext hx6a
                  replace ho1 := Ext.row ho1 hx6a
                  refine wpList_appE rfl _ _ Tryd.slPair rfl hX6a rfl ho1 rfl hl (pairCells_one [pairAt l 0]) (by have := hdl.out; omega) ?_
                  intro r2 w6b ho2 hX6b _
                  refine wpList_nil ?_
                  try simp only [Exit.then, Act.put, List.setIfInBounds_toArray, List.set_cons_succ, List.set_cons_zero]
                  refine Dm.wpE_take (i := 8) (listed' := (Dm.bits 9 511)) (by kernel_rfl) (by kernel_rfl) rfl (fun _ _ _ _ h => h) ?_; apply Exists.intro; refine And.intro (fun x => ?_) ?_
                  · go_big_quiet_step (fail); exact wpQuiet_nil rfl
                  refine Dm.wpE_done (by kernel_rfl) hX6b (fun w7a hx7a => ?_)
                  have hX7a := Ext.trans hX6b hx7a
                  replace ho2 := Ext.row ho2 hx7a
                  go_wp2_with fail
                  go_meet
                  exact ⟨hX7a, Pairs.of_row (by rw [pairCells_app]; exact ho2) (by simp)⟩
              case rest =>
                obtain ⟨hX5, hr5⟩ := hcut
                have f5 := f3.trans (hX4.trans hX5)
                obtain ⟨w5, rfl⟩ : ∃ w5 : World, w5 = wc := ⟨_, rfl⟩
                have CA := lright_w (l ++ [pairAt l m]) _ w5 (by simp; omega) (fit_app hF (fit_at hF hml)) (hr4.ext hX5) (ht.tabs.ext f5)
                rw [htw.out] at CA
                go_wp2_with fail
                refine CA.mono ?_; rintro e w6 ⟨rfl, h6⟩
                clear CA
                have f6 := f5.trans h6
                have CB := lright_w (l.drop 1 ++ [pairAt l 0]) _ w6 (by simp; omega) (fit_app (fit_drop hF 1) (fit_at hF h0l)) (hr5.ext h6) (ht.tabs.ext f6)
                rw [htu.out, show decide (l.length = 1) = ((l.length : Int) == 1) by rw [Bool.eq_iff_iff]; simp; omega] at CB
                cases hq1 : ((l.length : Int) == 1)
                all_goals
                  rw [hq1] at CB
                  go_wp2_with fail
                  refine CB.mono ?_; rintro e w7 ⟨rfl, h7⟩
                  go_wp2
                  go_ret
                  exact ⟨rfl, f6.trans h7⟩

end Go.Proofs.YtbkemhheombfcaaDoor
