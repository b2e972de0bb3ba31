/- Texts one behind the other: Chapter 4: the walk of the laws' made labels; Chapter 4: the walk of the laws' examples; LabelRight, walked: labels are right just if they are at most eight, keys and values are names, and the keys rise; else they are put as nothing; Chapter 5: the walk of Right; Chapter 5: the walks of the document's has, Match, Right; Chapter 5: the walk of Put. -/
import Derived.Test.YtbkemhheombfcaaDoorSelTellsP5
import Derived.Test.YtbkemhheombfcaaDoorSelTellsP7
import Derived.Test.YtbkemhheombfcaaDoorSelTellsP17
import Derived.Test.YtbkemhheombfcaaDoorSelTellsP14
namespace Go.Dm
open Go Go.RowKit

/-- What keys and values are made of. -/
def keysB : List ByteArray := [⟨#[97]⟩, ⟨#[97, 98]⟩, ⟨#[98]⟩, ⟨#[99, 45, 49]⟩, ⟨#[100, 105, 115, 107]⟩, ⟨#[122, 111, 110, 101]⟩, ⟨#[206, 177, 206, 178]⟩, ⟨#[208, 180, 208, 190, 208, 188]⟩]
def madeOne (z : Int) (k : Nat) : List PairS := if 0 < z % 3 then [(strAt keysB k, strAt keysB ((z / 3) % 8).toNat)] else []
/-- Labels by bytes. -/
def madeTo (zs : List Int) : Nat → List PairS
  | 0 => []
  | k + 1 => madeTo zs k ++ madeOne (numAt zs k) k
def madeP (zs : List Int) : List PairS := madeTo zs (min zs.length 8)

theorem madeTo_len (zs : List Int) : ∀ k, (madeTo zs k).length ≤ k
  | 0 => by simp [madeTo]
  | k + 1 => by
    have := madeTo_len zs k
    unfold madeTo madeOne
    split <;> simp <;> omega
theorem madeP_len (zs : List Int) : (madeP zs).length ≤ 8 := by
  have := madeTo_len zs (min zs.length 8)
  unfold madeP; omega
end Go.Dm
namespace Go.Proofs.YtbkemhheombfcaaDoor
open Go.RowKit Go.Dm

set_option maxHeartbeats 2000000 in
set_option maxRecDepth 100000 in
theorem lmade_w (zs : List Int) (v : Value) (w : World) (hz : ∀ z ∈ zs, 0 ≤ z ∧ z ≤ 255) (hx : Nums w .u8 v zs) :
    Calls Tryd.prog 16 #[v] w fun e w' => ∃ r, e = .returned r ∧ Pairs w' r (madeP zs) ∧ Ext w w' := by
  obtain ⟨q, cap, rfl, hcap, hcm⟩ := hx.shape
  have hzl : zs.length ≤ maxLen := by omega
  unfold maxLen at hcm hzl
  have hA := Sl.lit w 9 1 8 (keysB.map Value.string).toArray rfl (by simp [maxLen])
  have hal : Ext w (w.alloc (.cells (keysB.map Value.string).toArray 9)) := (Ext.refl w).alloc _
  go_enter Tryd.func16, Tryd.ntmps16
  go_wp2
  generalize hW0 : w.alloc (.cells (keysB.map Value.string).toArray 9) = W0 at *
  have hW0' : Hid (W0 = W0) := rfl
  go_loopw [3, 5] (fun r i' wr => ∃ k : Nat, k ≤ zs.length ∧ k ≤ 8 ∧ i' = .int .i64 k ∧ Ext W0 wr ∧ wr.ownsRow W0.heap.size 29 2 r (madeTo zs k).length (pairCells (madeTo zs k))) (fun _ i' _ => 8 - (intOf i').toNat)
  case atStart => exact ⟨0, by omega, by omega, rfl, by subst hW0; exact Ext.refl _, World.ownsRow_nil _ _ _ _⟩
  case round =>
    obtain ⟨k, hk, h8, rfl, hb, ho⟩ := hrel
    by_cases hlt : k < zs.length
    · by_cases hl8 : k < 8
      · have hxr := hx.ext (hal.trans hb)
        obtain ⟨b, off, rfl, hbl, c0⟩ := hxr.at hlt
        have hzk : 0 ≤ numAt zs k ∧ numAt zs k ≤ 255 := hz _ (by simp [numAt, hlt])
        have hst : madeTo zs (k + 1) = madeTo zs k ++ madeOne (numAt zs k) k := rfl
        obtain ⟨z, hzn⟩ : ∃ z, numAt zs k = z := ⟨_, rfl⟩
        rw [hzn] at c0 hzk hst
        replace hzn := hzn
        obtain ⟨r, hr⟩ : ∃ r : Int, z % 3 = r := ⟨_, rfl⟩
        have hr' : z.tmod 3 = r := by rw [Int.tmod_eq_emod_of_nonneg hzk.1]; exact hr
        by_cases h0 : 0 < r
        · have hzn' := hzn
          obtain ⟨y, hy⟩ : ∃ y : Int, z / 3 = y := ⟨_, rfl⟩
          have hy' : z.tdiv 3 = y := by rw [Int.tdiv_eq_ediv_of_nonneg hzk.1]; exact hy
          have hyb : 0 ≤ y ∧ y ≤ 85 := by omega
          obtain ⟨j, hj, hjq⟩ : ∃ j : Nat, j < 8 ∧ y % 8 = (j : Int) := ⟨(y % 8).toNat, by omega, by omega⟩
          have hjq' : y.tmod 8 = (j : Int) := by rw [Int.tmod_eq_emod_of_nonneg hyb.1]; exact hjq
          have hst' : Hid (madeTo zs (k + 1) = madeTo zs k ++ [(strAt keysB k, strAt keysB j)]) := by
            show _ = _
            rw [hst]; unfold madeOne; rw [hr, if_pos h0, hy, hjq, Int.toNat_natCast]
          clear hst
          have hAr : Strs W0 (.slice (some ⟨w.heap.size, 0, none⟩) 8 8) keysB := hA
          obtain ⟨b2, off2, e2, hbl2, c2⟩ := (hx.ext hal).at hlt
          injection e2 with e2
          injection e2 with e21 e22
          subst e21 e22
          rw [hzn] at c2
          obtain ⟨hAl, hAk⟩ := hAr.cells (k := k) hl8
          obtain ⟨_, hAj⟩ := hAr.cells (k := j) hj
          rw [Nat.zero_add] at hAk hAj
          have hml := madeTo_len zs k
          clear hzn hzn'
          generalize strAt keysB k = s1 at *
          generalize strAt keysB j = s2 at *
          go_wp2_with fail
          try simp only [Act.put, List.setIfInBounds_toArray, List.set_cons_succ, List.set_cons_zero]
          refine Dm.wp_region_ext 18 (Dm.bits 18 0) hb (by kernel_rfl) (by kernel_rfl) (by kernel_rfl) ?_
          refine Dm.wpE_take (i := 0) (listed' := (Dm.bits 18 1)) (by kernel_rfl) (by kernel_rfl) rfl (fun _ _ _ _ h => h) ?_; apply Exists.intro; refine And.intro (fun x => ?_) ?_
          · go_big_quiet_step (fail); exact wpQuiet_nil rfl
          refine Dm.wpE_take (i := 1) (listed' := (Dm.bits 18 3)) (by kernel_rfl) (by kernel_rfl) rfl (fun _ _ _ _ h => h) ?_; apply Exists.intro; refine And.intro (fun x => ?_) ?_
          · go_big_quiet_step (fail); exact wpQuiet_nil rfl
          refine Dm.wpE_take (i := 2) (listed' := (Dm.bits 18 7)) (by kernel_rfl) (by kernel_rfl) rfl (fun _ _ _ _ h => h) ?_; apply Exists.intro; refine And.intro (fun x => ?_) ?_
          · go_big_quiet_step (fail); exact wpQuiet_nil rfl
          refine Dm.wpE_take (i := 3) (listed' := (Dm.bits 18 15)) (by kernel_rfl) (by kernel_rfl) rfl (fun _ _ _ _ h => h) ?_; apply Exists.intro; refine And.intro (fun x => ?_) ?_
          · go_big_quiet_step (fail); exact wpQuiet_nil rfl
          refine Dm.wpE_take (i := 4) (listed' := (Dm.bits 18 31)) (by kernel_rfl) (by kernel_rfl) rfl (fun _ _ _ _ h => h) ?_; apply Exists.intro; refine And.intro (fun x => ?_) ?_
          · go_big_quiet_step (fail); exact wpQuiet_nil rfl
          refine Dm.wpE_take (i := 5) (listed' := (Dm.bits 18 63)) (by kernel_rfl) (by kernel_rfl) rfl (fun _ _ _ _ h => h) ?_; apply Exists.intro; refine And.intro (fun x => ?_) ?_
          · go_big_quiet_step (fail); exact wpQuiet_nil rfl
          refine Dm.wpE_take (i := 6) (listed' := (Dm.bits 18 127)) (by kernel_rfl) (by kernel_rfl) rfl (fun _ _ _ _ h => h) ?_; apply Exists.intro; refine And.intro (fun x => ?_) ?_
          · go_big_quiet_step (fail); exact wpQuiet_nil rfl
          refine Dm.wpE_take (i := 7) (listed' := (Dm.bits 18 255)) (by kernel_rfl) (by kernel_rfl) rfl (fun _ _ _ _ h => h) ?_; apply Exists.intro; refine And.intro (fun x => ?_) ?_
          · go_big_quiet_step (fail); exact wpQuiet_nil rfl
          refine Dm.wpE_take (i := 8) (listed' := (Dm.bits 18 511)) (by kernel_rfl) (by kernel_rfl) rfl (fun _ _ _ _ h => h) ?_; apply Exists.intro; refine And.intro (fun x => ?_) ?_
          · go_big_quiet_step (fail); exact wpQuiet_nil rfl
          refine Dm.wpE_take (i := 9) (listed' := (Dm.bits 18 1023)) (by kernel_rfl) (by kernel_rfl) rfl (fun _ _ _ _ h => h) ?_; apply Exists.intro; refine And.intro (fun x => ?_) ?_
          · go_big_quiet_step (fail); exact wpQuiet_nil rfl
          refine Dm.wpE_take (i := 10) (listed' := (Dm.bits 18 2047)) (by kernel_rfl) (by kernel_rfl) rfl (fun _ _ _ _ h => h) ?_; apply Exists.intro; refine And.intro (fun x => ?_) ?_
          · go_big_quiet_step (fail); exact wpQuiet_nil rfl
          refine Dm.wpE_take (i := 11) (listed' := (Dm.bits 18 4095)) (by kernel_rfl) (by kernel_rfl) rfl (fun _ _ _ _ h => h) ?_; apply Exists.intro; refine And.intro (fun x => ?_) ?_
          · go_big_quiet_step (fail); exact wpQuiet_nil rfl
          refine Dm.wpE_take (i := 12) (listed' := (Dm.bits 18 8191)) (by kernel_rfl) (by kernel_rfl) rfl (fun _ _ _ _ h => h) ?_; apply Exists.intro; refine And.intro (fun x => ?_) ?_
          · go_big_quiet_step (fail); exact wpQuiet_nil rfl
          refine Dm.wpE_take (i := 13) (listed' := (Dm.bits 18 16383)) (by kernel_rfl) (by kernel_rfl) rfl (fun _ _ _ _ h => h) ?_; apply Exists.intro; refine And.intro (fun x => ?_) ?_
          · go_big_quiet_step (fail); exact wpQuiet_nil rfl
          refine Dm.wpE_take (i := 14) (listed' := (Dm.bits 18 32767)) (by kernel_rfl) (by kernel_rfl) rfl (fun _ _ _ _ h => h) ?_; apply Exists.intro; refine And.intro (fun x => ?_) ?_
          · go_big_quiet_step (fail); exact wpQuiet_nil rfl
          refine Dm.wpE_one (i := 15) (listed' := (Dm.bits 18 65535)) (by kernel_rfl) (by kernel_rfl) rfl hb (fun w1a hx1a => ?_)
          have hX1a := Ext.trans hb hx1a
          have hoa := Ext.row ho hx1a
          go_wp2_with fail
          have hl := Sl.lit w1a 29 2 1 #[.string s1, .string s2] rfl (by simp [maxLen])
          have hs1 := (Ext.refl w1a).alloc (.cells #[.string s1, .string s2] 29)
          generalize w1a.alloc (.cells #[.string s1, .string s2] 29) = w1b at *
          have hX1b := Ext.trans hX1a hs1
          replace hoa := Ext.row hoa hs1
          try simp only [Exit.then, Act.put, List.setIfInBounds_toArray, List.set_cons_succ, List.set_cons_zero]
          refine Dm.wpE_one (i := 16) (listed' := (Dm.bits 18 131071)) (by kernel_rfl) (by kernel_rfl) rfl hX1b (fun w2a hx2a => ?_)
          have hX2a := Ext.trans hX1b hx2a
          replace hl := hl.ext hx2a
          refine wpList_appE rfl _ _ Tryd.slPair rfl hX2a rfl (Ext.row hoa hx2a) rfl hl (pairCells_one [(s1, s2)]) (by omega) ?_
          intro v2 w2b ho3 hX2b _
          refine wpList_nil ?_
          try simp only [Exit.then, Act.put, List.setIfInBounds_toArray, List.set_cons_succ, List.set_cons_zero]
          refine Dm.wpE_take (i := 17) (listed' := (Dm.bits 18 262143)) (by kernel_rfl) (by kernel_rfl) rfl (fun _ _ _ _ h => h) ?_; apply Exists.intro; refine And.intro (fun x => ?_) ?_
          · go_big_quiet_step (fail); exact wpQuiet_nil rfl
          refine Dm.wpE_done (by kernel_rfl) hX2b (fun w3a hx3a => ?_)
          have hX3a := Ext.trans hX2b hx3a
          replace ho3 := Ext.row ho3 hx3a
          go_wp2
          go_roundw
          case rel => exact ⟨k + 1, by omega, by omega, by go_num, hX3a, by rw [hst'.out, List.length_append, pairCells_app]; exact ho3⟩
          case measure => simp [intOf]; omega
        · have hst' : Hid (madeTo zs (k + 1) = madeTo zs k) := by
            show _ = _
            rw [hst]; unfold madeOne; rw [hr, if_neg h0, List.append_nil]
          clear hst hzn
          go_wp2
          go_roundw
          case rel => exact ⟨k + 1, by omega, by omega, by go_num, hb, by rw [hst'.out]; exact ho⟩
          case measure => simp [intOf]; omega
      · go_wp2
        go_ret
        have : min zs.length 8 = k := by omega
        exact ⟨_, rfl, by unfold madeP; rw [this]; exact Pairs.of_row ho rfl, hal.trans hb⟩
    · go_wp2
      go_ret
      have : min zs.length 8 = k := by omega
      exact ⟨_, rfl, by unfold madeP; rw [this]; exact Pairs.of_row ho rfl, hal.trans hb⟩

end Go.Proofs.YtbkemhheombfcaaDoor

namespace Go.Dm
open Go Go.RowKit
theorem pL_inj {p q : PairS} (h : pL p = pL q) : p = q := by
  obtain ⟨⟨a⟩, ⟨b⟩⟩ := p
  obtain ⟨⟨c⟩, ⟨d⟩⟩ := q
  simp only [pL, Prod.mk.injEq] at h
  rw [Array.toList_inj.1 h.1, Array.toList_inj.1 h.2]
theorem labL_inj : ∀ {a b : List PairS}, labL a = labL b → a = b
  | [], [], _ => rfl
  | p :: a, q :: b, h => by
    simp only [labL, List.map_cons, List.cons.injEq] at h
    rw [pL_inj h.1, labL_inj (a := a) (b := b) h.2]
theorem Pairs.drop {w : World} {xs : List PairS} {p cap} (h : Pairs w (.slice p xs.length cap) xs) {k : Nat} (hk : k ≤ xs.length) : Pairs w (dropV p xs.length cap k 2) (xs.drop k) := by
  have := Sl.drop h hk
  have e : (pairCells xs).drop (k * 2) = pairCells (xs.drop k) := by
    clear this h
    induction k generalizing xs with
    | zero => simp
    | succ k ih =>
      cases xs with
      | nil => simp at hk
      | cons x xs =>
        have := ih (xs := xs) (by simpa using hk)
        rw [List.drop_succ_cons, ← this]
        rw [show (k + 1) * 2 = k * 2 + 1 + 1 by omega]
        rfl
  rw [e] at this
  show Sl w 2 _ (xs.drop k).length _
  rw [List.length_drop]
  exact this
end Go.Dm
namespace Go.Proofs.YtbkemhheombfcaaDoor
open Go.RowKit Go.Dm

theorem fit_small {l : List PairS} (h : ∀ p ∈ l, p.1.size ≤ 1000 ∧ p.2.size ≤ 1000) : FitP l := fun p hp => by have := h p hp; omega

set_option maxHeartbeats 1000000 in
set_option maxRecDepth 100000 in
theorem lexamples_w (w : World) (ht : Vars w) :
    Calls Tryd.prog 15 #[] w fun e w' => e = .returned (.bool true) ∧ Ext w w' := by
  have P1 : Hid (parseLab [100, 105, 115, 107, 61, 115, 115, 100, 44, 122, 111, 110, 101, 61, 97] = (labL [(⟨#[100, 105, 115, 107]⟩, ⟨#[115, 115, 100]⟩), (⟨#[122, 111, 110, 101]⟩, ⟨#[97]⟩)], true)) := by show _ = _; decide +kernel
  have P2 : Hid (parseLab [122, 111, 110, 101, 61, 97, 44, 100, 105, 115, 107, 61, 115, 115, 100] = (labL [], false)) := by show _ = _; decide +kernel
  have P3 : Hid (parseLab [45] = (labL [], true)) := by show _ = _; rfl
  go_enter Tryd.func15, Tryd.ntmps15
  go_wp2_with fail
  refine (lparse_w _ w (by decide) ht).mono ?_; rintro e w1 ⟨r1, l1, b1, rfl, hx1, hl1, _, _, e1⟩
  rw [show parseLab (⟨#[100, 105, 115, 107, 61, 115, 115, 100, 44, 122, 111, 110, 101, 61, 97]⟩ : ByteArray).data.toList = _ from P1.out] at hl1
  obtain ⟨hq1, rfl⟩ := Prod.mk.inj hl1
  obtain rfl := labL_inj hq1
  clear hl1 hq1
  go_wp2_with fail
  refine (lparse_w _ w1 (by decide) (ht.ext e1)).mono ?_; rintro e w2 ⟨r2, l2, b2, rfl, hx2, hl2, _, _, h2⟩
  have e2 := e1.trans h2
  rw [show parseLab (⟨#[122, 111, 110, 101, 61, 97, 44, 100, 105, 115, 107, 61, 115, 115, 100]⟩ : ByteArray).data.toList = _ from P2.out] at hl2
  obtain ⟨hq2, rfl⟩ := Prod.mk.inj hl2
  obtain rfl := labL_inj hq2
  clear hl2 hq2
  go_wp2_with fail
  refine (find_w _ ⟨#[122, 111, 110, 101]⟩ _ w2 (by decide) (hx1.ext h2)).mono ?_; rintro e w3 ⟨rfl, h3⟩
  have e3 := e2.trans h3
  rw [show findB [(⟨#[100, 105, 115, 107]⟩, ⟨#[115, 115, 100]⟩), (⟨#[122, 111, 110, 101]⟩, ⟨#[97]⟩)] ⟨#[122, 111, 110, 101]⟩ = (⟨#[97]⟩, true) by decide +kernel]
  go_wp2_with fail
  refine (lparse_w _ w3 (by decide) (ht.ext e3)).mono ?_; rintro e w4 ⟨r4, l4, b4, rfl, hx4, hl4, _, _, h4⟩
  have e4 := e3.trans h4
  rw [show parseLab (⟨#[45]⟩ : ByteArray).data.toList = _ from P3.out] at hl4
  obtain ⟨hq4, rfl⟩ := Prod.mk.inj hl4
  obtain rfl := labL_inj hq4
  clear hl4 hq4
  have hx1 := hx1.ext (h2.trans (h3.trans h4))
  obtain ⟨q1, cap1, rfl, hc1, hm1⟩ := hx1.shape
  obtain ⟨q4, cap4, rfl, hc4, hm4⟩ := hx4.shape
  have hF : FitP [((⟨#[100, 105, 115, 107]⟩ : ByteArray), (⟨#[115, 115, 100]⟩ : ByteArray)), (⟨#[122, 111, 110, 101]⟩, ⟨#[97]⟩)] := fit_small (by decide)
  have hF' : FitP [((⟨#[122, 111, 110, 101]⟩ : ByteArray), (⟨#[97]⟩ : ByteArray))] := fit_small (by decide)
  have hF'' : FitP [((⟨#[97]⟩ : ByteArray), (⟨#[]⟩ : ByteArray))] := fit_small (by decide)
  obtain ⟨g1, o1, rfl, hg1, _⟩ := hx1.at (k := 0) (by decide)
  simp only [List.length_cons, List.length_nil, Nat.zero_add] at hc1 hm1 hc4 hm4
  clear P1 P2 P3
  go_wp2_with fail
  refine (ltext_w _ _ w4 (by decide) hF hx1 (ht.tabs.ext e4)).mono ?_; rintro e w5 ⟨rfl, h5⟩
  have e5 := e4.trans h5
  rw [show textLab (labL [((⟨#[100, 105, 115, 107]⟩ : ByteArray), (⟨#[115, 115, 100]⟩ : ByteArray)), (⟨#[122, 111, 110, 101]⟩, ⟨#[97]⟩)]) = [100, 105, 115, 107, 61, 115, 115, 100, 44, 122, 111, 110, 101, 61, 97] by decide +kernel]
  have hd := (hx1.ext h5).drop (k := 1) (by decide)
  rw [dropV_any (by omega)] at hd
  have hd : Pairs w5 (.slice (some ⟨g1, o1 + 2, none⟩) 1 (cap1 - 1)) [((⟨#[122, 111, 110, 101]⟩ : ByteArray), (⟨#[97]⟩ : ByteArray))] := hd
  go_wp2_with fail
  refine (lput_w _ _ w5 (by decide) hF' hd (ht.tabs.ext e5)).mono ?_; rintro e w6 ⟨rfl, h6⟩
  have e6 := e5.trans h6
  rw [show putLab (labL [((⟨#[122, 111, 110, 101]⟩ : ByteArray), (⟨#[97]⟩ : ByteArray))]) = [1, 4, 122, 111, 110, 101, 1, 97] by decide +kernel]
  clear hd
  go_wp2_with fail
  refine (ltext_w [] _ w6 (by decide) FitP.nil (Pairs.nil _) (ht.tabs.ext e6)).mono ?_; rintro e w7 ⟨rfl, h7⟩
  have e7 := e6.trans h7
  rw [show textLab (labL []) = [45] by decide +kernel]
  have hn : Pairs (w7.alloc (.cells #[.string ⟨#[97]⟩, .string ⟨#[]⟩] 29)) (.slice (some ⟨w7.heap.size, 0, none⟩) 1 1) [(⟨#[97]⟩, ⟨#[]⟩)] := Sl.lit w7 29 2 1 #[.string ⟨#[97]⟩, .string ⟨#[]⟩] rfl (by simp [maxLen])
  have ha7 : Ext w (w7.alloc (.cells #[.string ⟨#[97]⟩, .string ⟨#[]⟩] 29)) := e7.trans ((Ext.refl _).alloc _)
  have CR := lright_w _ _ _ (by decide) hF'' hn (ht.tabs.ext ha7)
  rw [show rightLab (labL [((⟨#[97]⟩ : ByteArray), (⟨#[]⟩ : ByteArray))]) = false by decide +kernel] at CR
  clear hn
  go_wp2_with fail
  refine CR.mono ?_; rintro e w8 ⟨rfl, h8⟩
  clear CR
  go_wp2
  go_ret
  exact ⟨rfl, ha7.trans h8⟩

end Go.Proofs.YtbkemhheombfcaaDoor

namespace Go.Dm
open Go Go.RowKit

/-- So far all may stand where they stand. -/
def fitsTo (L : List PairL) (k : Nat) : Bool := decide (L.length ≤ 8) && (List.range k).all (okLab L)
theorem fitsTo_zero (L : List PairL) : fitsTo L 0 = decide (L.length ≤ 8) := by simp [fitsTo]
theorem fitsTo_step (L : List PairL) (k : Nat) : fitsTo L (k + 1) = (fitsTo L k && okLab L k) := by
  simp [fitsTo, List.range_succ, Bool.and_assoc]
theorem fitsTo_all (L : List PairL) : fitsTo L L.length = rightLab L := rfl

theorem putLab_ne {L : List PairL} (h : rightLab L = true) : putLab L ≠ [] := by
  unfold putLab
  rw [h, if_pos rfl]
  intro e
  have := putL_pos L.length
  rw [(List.append_eq_nil_iff.1 e).1] at this
  simp at this

theorem textLab_ne {L : List PairL} (h : rightLab L = true) : textLab L ≠ [63] := by
  unfold textLab
  rw [h, if_pos rfl]
  split
  · simp
  · rename_i hne
    cases L with
    | nil => exact absurd rfl hne
    | cons p L =>
      intro e
      have hm : (61 : UInt8) ∈ Lib.join ((p :: L).map showP) [44] := by
        rw [List.map_cons, Lib.join_cons]
        simp [showP]
      rw [e] at hm
      simp at hm
end Go.Dm
namespace Go.Proofs.YtbkemhheombfcaaDoor
open Go.RowKit Go.Dm

set_option maxHeartbeats 4000000 in
set_option maxRecDepth 100000 in
theorem labelRight_w (l : List PairS) (v : Value) (w : World) (hm : l.length ≤ 35184372088832) (hf : FitP l) (hx : Pairs w v l) (ht : Vars w) :
    Calls Tryd.prog 4 #[v] w fun e w' => e = .returned (.bool true) ∧ Ext w w' := by
  obtain ⟨q, cap, rfl, hcap, hcm⟩ := hx.shape
  have hd8 : decide ((l.length : Int) ≤ 8) = fitsTo (labL l) 0 := by rw [fitsTo_zero, labL_len]; exact decide_eq_decide.2 (by omega)
  go_enter Tryd.func4, Tryd.ntmps4
  go_wp2_with fail
  refine (lexamples_w w ht).mono ?_; rintro e w1 ⟨rfl, e1⟩
  go_wp2
  clear hd8
  go_loopw [4, 5] (fun g i' wr => ∃ (k : Nat) (c : Bool), k ≤ l.length ∧ i' = .int .i64 k ∧ Ext w1 wr ∧ g = .bool c ∧ Hid (fitsTo (labL l) k = c)) (fun _ i' _ => l.length - (intOf i').toNat)
  case atStart => exact ⟨0, _, by omega, rfl, Ext.refl _, rfl, rfl⟩
  case round =>
    obtain ⟨k, c, hk, rfl, hb, rfl, HC⟩ := hrel
    have fr := e1.trans hb
    by_cases hlt : k < l.length
    · have hstep := fitsTo_step (labL l) k
      rw [HC.out] at hstep
      cases c with
      | false =>
        replace hstep := Lib.hid (hstep.trans (Bool.false_and _))
        go_wp2_with fail
        refine Dm.wp_region_grow (by kernel_rfl) (by kernel_rfl) ?_
        repeat (go_big_quiet_step (fail))
        refine wpQuiet_nil ?_
        intro U hU
        have hU' := hb.trans hU
        go_wp2
        go_roundw
        case rel => exact ⟨k + 1, false, by omega, by go_num, hU', rfl, hstep⟩
        case measure => simp [intOf]; omega
      | true =>
        rw [Bool.true_and] at hstep
        obtain ⟨b, off, rfl, hbl, c0, c1⟩ := (hx.ext fr).at hlt
        have hfk := hf _ (pairAt_mem hlt)
        have hok : ∀ c1 c2 c3, rightL (pairAt l k).1.data.toList = c1 → rightL (pairAt l k).2.data.toList = c2 → (k == 0 || !leB (pairAt l k).1.data.toList (pairAt l (k-1)).1.data.toList) = c3 → Hid (fitsTo (labL l) (k + 1) = (c1 && (c2 && c3))) := by
          intro c1 c2 c3 e1 e2 e3
          show _ = _
          rw [hstep]
          unfold okLab
          rw [labL_at l hlt, labL_at l (by omega : k - 1 < l.length), ← e1, ← e2, ← e3]
          rfl
        have C1 : ∀ c, rightL (pairAt l k).1.data.toList = c → Hid (∀ U, Ext wr U → Calls Tryd.prog 19 #[.string (pairAt l k).1] U fun e w' => e = .returned (.bool c) ∧ Ext U w') := by
          intro c h U hU
          rw [← h]
          exact right_fit _ U hfk.1 (ht.tabs.ext (fr.trans hU))
        have C2 : ∀ c, rightL (pairAt l k).2.data.toList = c → Hid (∀ U, Ext wr U → Calls Tryd.prog 19 #[.string (pairAt l k).2] U fun e w' => e = .returned (.bool c) ∧ Ext U w') := by
          intro c h U hU
          rw [← h]
          exact right_fit _ U hfk.2 (ht.tabs.ext (fr.trans hU))
        replace hok := Lib.hid hok
        clear hstep
        cases h1 : rightL (pairAt l k).1.data.toList with
        | false =>
          replace C1 := C1 _ h1
          replace C2 := C2 _ rfl
          have hS := hok.out _ _ _ h1 rfl rfl
          clear h1 hok
          go_wp2_with fail
          refine Dm.wp_region_grow (by kernel_rfl) (by kernel_rfl) ?_
          repeat (go_big_quiet_step (first
            | (go_at_call 19; with_reducible exact Calls.quietE (C1.out _ (ext_grow _ _)))
            | (go_at_call 19; with_reducible exact Calls.quietE (C2.out _ (ext_grow _ _)))))
          refine wpQuiet_nil ?_
          intro U hU
          have hU' := hb.trans hU
          go_wp2
          go_roundw
          case rel => exact ⟨k + 1, false, by omega, by go_num, hU', rfl, hS⟩
          case measure => simp [intOf]; omega
        | true =>
          replace C1 := C1 _ h1
          cases h2 : rightL (pairAt l k).2.data.toList with
          | false =>
            replace C2 := C2 _ h2
            have hS := hok.out _ _ _ h1 h2 rfl
            clear h1 h2 hok
            go_wp2_with fail
            refine Dm.wp_region_grow (by kernel_rfl) (by kernel_rfl) ?_
            repeat (go_big_quiet_step (first
              | (go_at_call 19; with_reducible exact Calls.quietE (C1.out _ (ext_grow _ _)))
              | (go_at_call 19; with_reducible exact Calls.quietE (C2.out _ (ext_grow _ _)))))
            refine wpQuiet_nil ?_
            intro U hU
            have hU' := hb.trans hU
            go_wp2
            go_roundw
            case rel => exact ⟨k + 1, false, by omega, by go_num, hU', rfl, hS⟩
            case measure => simp [intOf]; omega
          | true =>
            replace C2 := C2 _ h2
            by_cases h0 : k = 0
            · subst h0
              have hS := hok.out _ _ true h1 h2 rfl
              clear h1 h2 hok
              rw [Nat.zero_mul, Nat.add_zero] at c0 c1
              go_wp2_with fail
              refine Dm.wp_region_grow (by kernel_rfl) (by kernel_rfl) ?_
              repeat (go_big_quiet_step (first
                | (go_at_call 19; with_reducible exact Calls.quietE (C1.out _ (ext_grow _ _)))
                | (go_at_call 19; with_reducible exact Calls.quietE (C2.out _ (ext_grow _ _)))))
              refine wpQuiet_nil ?_
              intro U hU
              have hU' := hb.trans hU
              go_wp2
              go_roundw
              case rel => exact ⟨1, true, by omega, rfl, hU', rfl, hS⟩
              case measure => simp [intOf]; omega
            · obtain ⟨j, rfl⟩ : ∃ j, k = j + 1 := ⟨k - 1, by omega⟩
              obtain ⟨d0, _⟩ := (hx.ext fr).cells (k := j) (by omega)
              have hjb : (((j + 1 : Nat) : Int) == 0) = false := by rw [beq_eq_false_iff_ne]; omega
              have hjb' : ((j : Int) + 1 == 0) = false := by rw [beq_eq_false_iff_ne]; omega
              have hlt' : ∀ c, Op.bytesLess (pairAt l j).1.toList (pairAt l (j + 1)).1.toList = c → (j + 1 == 0 || !leB (pairAt l (j + 1)).1.data.toList (pairAt l (j + 1 - 1)).1.data.toList) = c := by
                intro c e1
                rw [ByteArray.toList_eq, ByteArray.toList_eq] at e1
                rw [not_leB, ← e1]
                rfl
              cases q1 : Op.bytesLess (pairAt l j).1.toList (pairAt l (j + 1)).1.toList with
              | false =>
                have hS := hok.out _ _ _ h1 h2 (hlt' _ q1)
                clear h1 h2 hok hlt'
                go_wp2_with fail
                refine Dm.wp_region_grow (by kernel_rfl) (by kernel_rfl) ?_
                repeat (go_big_quiet_step (first
                  | (go_at_call 19; with_reducible exact Calls.quietE (C1.out _ (ext_grow _ _)))
                  | (go_at_call 19; with_reducible exact Calls.quietE (C2.out _ (ext_grow _ _)))))
                refine wpQuiet_nil ?_
                intro U hU
                have hU' := hb.trans hU
                go_wp2
                go_roundw
                case rel => exact ⟨j + 1 + 1, false, by omega, by go_num, hU', rfl, hS⟩
                case measure => simp [intOf]; omega
              | true =>
                have hS := hok.out _ _ _ h1 h2 (hlt' _ q1)
                clear h1 h2 hok hlt'
                go_wp2_with fail
                refine Dm.wp_region_grow (by kernel_rfl) (by kernel_rfl) ?_
                repeat (go_big_quiet_step (first
                  | (go_at_call 19; with_reducible exact Calls.quietE (C1.out _ (ext_grow _ _)))
                  | (go_at_call 19; with_reducible exact Calls.quietE (C2.out _ (ext_grow _ _)))))
                refine wpQuiet_nil ?_
                intro U hU
                have hU' := hb.trans hU
                go_wp2
                go_roundw
                case rel => exact ⟨j + 1 + 1, true, by omega, by go_num, hU', rfl, hS⟩
                case measure => simp [intOf]; omega
    · obtain rfl : k = l.length := by omega
      have hR : rightLab (labL l) = c := by rw [← HC.out, ← labL_len, fitsTo_all]
      have CR := lright_w l _ wr hm hf (hx.ext fr) (ht.tabs.ext fr)
      rw [hR] at CR
      go_wp2_with fail
      refine CR.mono ?_; rintro e w2 ⟨rfl, h2⟩
      clear CR
      have f2 := fr.trans h2
      go_wp2_with fail
      refine (lput_w l _ w2 hm hf (hx.ext f2) (ht.tabs.ext f2)).mono ?_; rintro e w3 ⟨rfl, h3⟩
      have f3 := f2.trans h3
      have CT := ltext_w l _ w3 hm hf (hx.ext f3) (ht.tabs.ext f3)
      cases c with
      | false =>
        have hz : Hid (putLab (labL l) = []) := by show _ = _; unfold putLab; rw [hR]; rfl
        have hz2 : textLab (labL l) = [63] := by unfold textLab; rw [hR]; rfl
        rw [hz2] at CT
        rw [hz.out]
        clear hR hz2
        go_wp2_with fail
        refine CT.mono ?_; rintro e w4 ⟨rfl, h4⟩
        go_wp2
        go_ret
        exact ⟨rfl, f3.trans h4⟩
      | true =>
        have n1 := putLab_ne hR
        have n2 := textLab_ne hR
        have n1a : (⟨(putLab (labL l)).toArray⟩ : ByteArray).toList.isEmpty = false := by rw [ByteArray.toList_eq, List.isEmpty_eq_false_iff]; simpa using n1
        have n2a : ((⟨(textLab (labL l)).toArray⟩ : ByteArray).toList == [63]) = false := by rw [ByteArray.toList_eq, beq_eq_false_iff_ne]; simpa using n2
        have n2b : ¬ (⟨(textLab (labL l)).toArray⟩ : ByteArray).toList = [63] := by rw [ByteArray.toList_eq]; simpa using n2
        generalize (⟨(putLab (labL l)).toArray⟩ : ByteArray) = A at *
        generalize (⟨(textLab (labL l)).toArray⟩ : ByteArray) = B at *
        clear hR n1 n2
        go_wp2_with fail
        refine CT.mono ?_; rintro e w4 ⟨rfl, h4⟩
        go_wp2
        go_ret
        exact ⟨rfl, f3.trans h4⟩

end Go.Proofs.YtbkemhheombfcaaDoor

namespace Go.Proofs.YtbkemhheombfcaaDoor
open Go.RowKit Go.Dm

set_option maxHeartbeats 2000000 in
theorem tright_w (key : ByteArray) (no : Bool) (vals : List ByteArray) (v : Value) (w : World) (hf : FitT (key, no, vals)) (hx : Strs w v vals) (ht : Tabs w) :
    Calls Tryd.prog 79 #[.agg #[.string key, .bool no, v]] w fun e w' => e = .returned (.bool (rightT (key, no, vals))) ∧ Ext w w' := by
  have hW : Ext w (w.alloc (.cells #[.string key, .bool no, v] 57)) := (Ext.refl _).alloc _
  obtain ⟨q, cap, rfl, hcap, hcm⟩ := hx.shape
  have hbad := fun k (hk : k < vals.length) h => rightT_bad (t := (key, no, vals)) hk h
  have hall := rightT_all (t := (key, no, vals))
  obtain ⟨hf1, hf2, hf3⟩ := hf
  simp only at hbad hall hf1 hf2 hf3
  have CK := fun U (hU : Ext w U) => right_fit key U hf1 (ht.ext hU)
  replace hall := fun h => (hall h).trans (show (rightL (bS key) && decide (vals.length ≤ 4)) = (rightL key.data.toList && decide (vals.length ≤ 4)) from rfl)
  generalize rightT (key, no, vals) = d at *
  generalize rightL key.data.toList = rk at CK hall
  replace hbad := Lib.hid hbad
  replace hall := Lib.hid hall
  replace CK := Lib.hid CK
  go_enter Tryd.func79, Tryd.ntmps79
  go_wp2
  generalize hW0 : w.alloc (.cells #[.string key, .bool no, .slice q vals.length cap] 57) = W at *
  have g := (Ext.box (w := w) (cs := #[.string key, .bool no, .slice q vals.length cap]) (e := 57) (Ext.refl _))
  rw [hW0] at g
  clear hW0
  obtain ⟨gs, g⟩ := g
  have g0 := g 0 _ rfl
  have g1 := g 1 _ rfl
  have g2 := g 2 _ rfl
  clear g
  have gsz : w.heap.size < W.heap.size := gs
  go_loopw [8] (fun i' wr => ∃ k : Nat, k ≤ vals.length ∧ i' = .int .i64 k ∧ Ext W wr ∧ Hid (∀ j, j < k → okVal vals j = true)) (fun i' _ => vals.length - (intOf i').toNat)
  case atStart => exact ⟨0, by omega, rfl, Ext.refl _, fun j hj => by omega⟩
  case round =>
    obtain ⟨k, hk, rfl, hb, HN⟩ := hrel
    have er := hW.trans hb
    have gr : w.heap.size < wr.heap.size := Nat.lt_of_lt_of_le gs hb.size
    have k0 : wr.cell? ⟨w.heap.size, 0, none⟩ = some (.string key) := by rw [hb.cell (by exact gs)]; exact g0
    have k2 : wr.cell? ⟨w.heap.size, 2, none⟩ = some (.slice q vals.length cap) := by rw [hb.cell (by exact gs)]; exact g2
    by_cases hlt : k < vals.length
    · obtain ⟨b, off, rfl, hbl, c0⟩ := (hx.ext er).at hlt
      have hfk := hf3 _ (strAt_mem hlt)
      have C := right_fit (strAt vals k) wr hfk (ht.ext er)
      have hB := hbad.out k hlt
      have hG : okVal vals k = true → Hid (∀ j, j < k + 1 → okVal vals j = true) := fun h j hj => by
        rcases Nat.lt_succ_iff_lt_or_eq.1 hj with h' | rfl
        · exact HN.out j h'
        · exact h
      have hok : ∀ c1 c2, rightL (strAt vals k).data.toList = c1 → (k == 0 || !leB (bS (strAt vals k)) (bS (strAt vals (k - 1)))) = c2 → okVal vals k = (c1 && c2) := by
        intro c1 c2 e1 e2
        unfold okVal
        rw [← e1, ← e2]; rfl
      cases h1 : rightL (strAt vals k).data.toList with
      | false =>
        have hd := hB (hok _ _ h1 rfl)
        subst hd
        rw [h1] at C
        clear h1 hok hG hB
        go_wp2_with fail
        refine C.mono ?_; rintro e w1 ⟨rfl, hh1⟩
        go_wp2
        go_ret
        exact ⟨rfl, er.trans hh1⟩
      | true =>
        rw [h1] at C
        by_cases h0 : k = 0
        · subst h0
          have hg := hG (hok _ true h1 rfl)
          rw [Nat.add_zero] at c0
          clear h1 hok hG hB
          go_wp2_with fail
          refine C.mono ?_; rintro e w1 ⟨rfl, hh1⟩
          go_wp2
          go_roundw
          case rel => exact ⟨1, by omega, rfl, hb.trans hh1, hg⟩
          case measure => simp [intOf]; omega
        · obtain ⟨j, rfl⟩ : ∃ j, k = j + 1 := ⟨k - 1, by omega⟩
          obtain ⟨_, d0⟩ := (hx.ext er).cells (k := j) (by omega)
          have hle : ∀ c c', Op.bytesLess (strAt vals (j + 1)).toList (strAt vals j).toList = c → ((strAt vals (j + 1)).toList == (strAt vals j).toList) = c' → (j + 1 == 0 || !leB (bS (strAt vals (j + 1))) (bS (strAt vals (j + 1 - 1)))) = !(c || c') := by
            intro c c' e1 e2
            rw [ByteArray.toList_eq, ByteArray.toList_eq] at e1 e2
            rw [← e1, ← e2]
            rfl
          cases q1 : Op.bytesLess (strAt vals (j + 1)).toList (strAt vals j).toList with
          | true =>
            have hd := hB (hok _ _ h1 (hle _ _ q1 rfl))
            subst hd
            clear h1 hok hG hB hle
            go_wp2_with fail
            refine C.mono ?_; rintro e w1 ⟨rfl, hh1⟩
            have k2' : w1.cell? ⟨w.heap.size, 2, none⟩ = some (.slice (some ⟨b, off, none⟩) vals.length cap) := by rw [hh1.cell (by exact gr)]; exact k2
            have d0' : w1.cell? ⟨b, off + j, none⟩ = some (.string (strAt vals j)) := by rw [hh1.cell (by exact hbl)]; exact d0
            have gr' := Nat.lt_of_lt_of_le gr hh1.size
            have hbl' := Nat.lt_of_lt_of_le hbl hh1.size
            go_wp2
            go_ret
            exact ⟨rfl, er.trans hh1⟩
          | false =>
            cases q2 : ((strAt vals (j + 1)).toList == (strAt vals j).toList) with
            | true =>
              have hd := hB (hok _ _ h1 (hle _ _ q1 q2))
              subst hd
              clear h1 hok hG hB hle
              go_wp2_with fail
              refine C.mono ?_; rintro e w1 ⟨rfl, hh1⟩
              have k2' : w1.cell? ⟨w.heap.size, 2, none⟩ = some (.slice (some ⟨b, off, none⟩) vals.length cap) := by rw [hh1.cell (by exact gr)]; exact k2
              have d0' : w1.cell? ⟨b, off + j, none⟩ = some (.string (strAt vals j)) := by rw [hh1.cell (by exact hbl)]; exact d0
              have gr' := Nat.lt_of_lt_of_le gr hh1.size
              have hbl' := Nat.lt_of_lt_of_le hbl hh1.size
              go_wp2
              go_ret
              exact ⟨rfl, er.trans hh1⟩
            | false =>
              have hg := hG (hok _ _ h1 (hle _ _ q1 q2))
              clear h1 hok hG hB hle
              go_wp2_with fail
              refine C.mono ?_; rintro e w1 ⟨rfl, hh1⟩
              have k2' : w1.cell? ⟨w.heap.size, 2, none⟩ = some (.slice (some ⟨b, off, none⟩) vals.length cap) := by rw [hh1.cell (by exact gr)]; exact k2
              have d0' : w1.cell? ⟨b, off + j, none⟩ = some (.string (strAt vals j)) := by rw [hh1.cell (by exact hbl)]; exact d0
              have gr' := Nat.lt_of_lt_of_le gr hh1.size
              have hbl' := Nat.lt_of_lt_of_le hbl hh1.size
              go_wp2
              go_roundw
              case rel => exact ⟨j + 1 + 1, by omega, by go_num, hb.trans hh1, hg⟩
              case measure => simp [intOf]; omega
    · obtain rfl : k = vals.length := by omega
      have hd := hall.out HN.out
      have C := CK.out wr er
      cases rk with
      | false =>
        rw [Bool.false_and] at hd
        subst hd
        go_wp2_with fail
        refine C.mono ?_; rintro e w1 ⟨rfl, hh1⟩
        go_wp2
        go_ret
        exact ⟨rfl, er.trans hh1⟩
      | true =>
        rw [Bool.true_and] at hd
        have hd' : d = decide ((vals.length : Int) ≤ 4) := by rw [hd]; exact decide_eq_decide.2 (by omega)
        clear hd
        replace hd' := Lib.hid hd'
        go_wp2_with fail
        refine C.mono ?_; rintro e w1 ⟨rfl, hh1⟩
        have k2' : w1.cell? ⟨w.heap.size, 2, none⟩ = some (.slice q vals.length cap) := by rw [hh1.cell (by exact gr)]; exact k2
        have gr' := Nat.lt_of_lt_of_le gr hh1.size
        go_wp2
        go_ret
        exact ⟨by rw [hd'.out]; rfl, er.trans hh1⟩

set_option maxHeartbeats 400000 in
theorem right1_w (r : RowS) (w : World) (hf : FitT (rowT r)) (hx : Strs w r.2.2.1 r.2.2.2) (ht : Tabs w) :
    Calls Tryd.prog 78 #[.agg #[.string r.1, .bool r.2.1, r.2.2.1]] w fun e w' => e = .returned (.bool (!rightT (rowT r))) ∧ Ext w w' := by
  obtain ⟨key, no, v, vals⟩ := r
  have hW : Ext w (w.alloc (.cells #[.string key, .bool no, v] 57)) := (Ext.refl _).alloc _
  have C := tright_w key no vals v _ hf (hx.ext hW) (ht.ext hW)
  show Calls Tryd.prog 78 #[.agg #[.string key, .bool no, v]] w fun e w' => e = .returned (.bool (!rightT (key, no, vals))) ∧ Ext w w'
  generalize rightT (key, no, vals) = d at C
  go_enter Tryd.func78, Tryd.ntmps78
  go_wp2_with fail
  refine C.mono ?_; rintro e w1 ⟨rfl, h1⟩
  go_wp2
  go_ret
  exact ⟨rfl, hW.trans h1⟩

set_option maxHeartbeats 1000000 in
theorem indexR_w (R : List RowS) (v : Value) (w : World) (hm : R.length ≤ 35184372088832) (hf : FitR R) (hx : Terms w v R) (ht : Tabs w) :
    Calls Tryd.prog 99 #[v, .func (.func 78) #[] #[]] w
      fun e w' => ∃ i : Int, e = .returned (.int .i64 i) ∧ decide (0 ≤ i) = !(R.map rowT).all rightT ∧ Ext w w' := by
  obtain ⟨q, cap, rfl, _, _⟩ := hx.shape
  have hhit := fun k (hk : k < R.length) h => allR_hit hk h
  have hmiss := allR_miss (R := R)
  generalize (R.map rowT).all rightT = d at *
  replace hhit := Lib.hid hhit
  replace hmiss := Lib.hid hmiss
  go_enter Tryd.func99, Tryd.ntmps99
  go_wp2
  go_loopw [4, 8] (fun z i wr => ∃ k : Nat, k ≤ R.length ∧ i = .int .i64 k ∧ z = .int .i64 0 ∧ Ext w wr ∧ Hid (∀ j, j < k → rightT (rowT (sAtR R j)) = true)) (fun _ i _ => R.length - (intOf i).toNat)
  case atStart => exact ⟨0, by omega, rfl, rfl, Ext.refl w, fun j hj => by omega⟩
  case round =>
    obtain ⟨k, hk, rfl, rfl, hb, HN⟩ := hrel
    by_cases hlt : k < R.length
    · obtain ⟨b, off, rfl, hbl, c0, c1, c2⟩ := (hx.ext hb).at hlt
      have C := right1_w (sAtR R k) wr (hf _ (sAtR_mem hlt)) ((hx.ext hb).val hlt) (ht.ext hb)
      have hH := hhit.out k hlt
      have hN2 : rightT (rowT (sAtR R k)) = true → Hid (∀ j, j < k + 1 → rightT (rowT (sAtR R j)) = true) := fun h j hj => by
        rcases Nat.lt_succ_iff_lt_or_eq.1 hj with h' | rfl
        · exact HN.out j h'
        · exact h
      generalize rightT (rowT (sAtR R k)) = t at C hH hN2
      generalize sAtR R k = r at *
      cases t with
      | false =>
        have hd := hH rfl
        subst hd
        clear hH hN2
        go_wp2_with fail
        refine C.mono ?_; rintro e w1 ⟨rfl, h1⟩
        go_wp2
        go_ret
        exact ⟨_, rfl, by first | omega | simp, hb.trans h1⟩
      | true =>
        replace hN2 := hN2 rfl
        clear hH
        go_wp2_with fail
        refine C.mono ?_; rintro e w1 ⟨rfl, h1⟩
        go_wp2
        go_roundw
        case rel => exact ⟨k + 1, by omega, by go_num, rfl, hb.trans h1, hN2⟩
        case measure => simp [intOf]; omega
    · obtain rfl : k = R.length := by omega
      have hd := hmiss.out HN.out
      subst hd
      go_wp2
      go_ret
      exact ⟨-1, rfl, by first | omega | simp, hb⟩

set_option maxHeartbeats 400000 in
theorem containsR_w (R : List RowS) (v : Value) (w : World) (hm : R.length ≤ 35184372088832) (hf : FitR R) (hx : Terms w v R) (ht : Tabs w) :
    Calls Tryd.prog 69 #[v, .func (.func 78) #[] #[]] w
      fun e w' => e = .returned (.bool (!(R.map rowT).all rightT)) ∧ Ext w w' := by
  have C := indexR_w R v w hm hf hx ht
  generalize (R.map rowT).all rightT = d at C
  go_enter Tryd.func69, Tryd.ntmps69
  go_wp2_with fail
  refine C.mono ?_; rintro e w1 ⟨i, rfl, hi, h1⟩
  go_wp2
  go_ret
  exact ⟨by rw [← hi]; rfl, h1⟩

set_option maxHeartbeats 400000 in
theorem sright_w (R : List RowS) (v : Value) (w : World) (hm : R.length ≤ 35184372088832) (hf : FitR R) (hx : Terms w v R) (ht : Tabs w) :
    Calls Tryd.prog 41 #[v] w fun e w' => e = .returned (.bool (rightS (R.map rowT))) ∧ Ext w w' := by
  obtain ⟨q, cap, rfl, _, _⟩ := hx.shape
  have C := containsR_w R _ w hm hf hx ht
  have hr : rightS (R.map rowT) = (decide (R.length ≤ 4) && (R.map rowT).all rightT) := by unfold rightS; rw [List.length_map]
  rw [hr]
  clear hr
  generalize (R.map rowT).all rightT = d at *
  by_cases h4 : R.length ≤ 4
  · rw [decide_eq_true h4, Bool.true_and]
    go_enter Tryd.func41, Tryd.ntmps41
    go_wp2_with fail
    refine C.mono ?_; rintro e w1 ⟨rfl, h1⟩
    go_wp2
    go_ret
    exact ⟨by simp, h1⟩
  · rw [decide_eq_false h4, Bool.false_and]
    clear C
    have h4' : decide ((R.length : Int) ≤ 4) = false := decide_eq_false (by omega)
    go_enter Tryd.func41, Tryd.ntmps41
    go_wp2
    go_ret
    exact ⟨rfl, Ext.refl _⟩

end Go.Proofs.YtbkemhheombfcaaDoor

namespace Go.Dm
open Go Go.RowKit
theorem Terms.cells {w : World} {R : List RowS} {b off cap : Nat} (h : Terms w (.slice (some ⟨b, off, none⟩) R.length cap) R) {k : Nat} (hk : k < R.length) :
    b < w.heap.size ∧ w.cell? ⟨b, off + k * 3, none⟩ = some (.string (sAtR R k).1) ∧ w.cell? ⟨b, off + k * 3 + 1, none⟩ = some (.bool (sAtR R k).2.1) ∧ w.cell? ⟨b, off + k * 3 + 2, none⟩ = some (sAtR R k).2.2.1 := by
  obtain ⟨b', off', e, hb, c0, c1, c2⟩ := h.at hk
  injection e with e; injection e with e1 e2
  subst e1 e2
  exact ⟨hb, c0, c1, c2⟩
end Go.Dm
namespace Go.Proofs.YtbkemhheombfcaaDoor
open Go.RowKit Go.Dm

set_option maxHeartbeats 400000 in
theorem has_w (xs : List ByteArray) (s : ByteArray) (v : Value) (w : World) (hl : xs.length ≤ 35184372088832) (hx : Strs w v xs) :
    Calls Tryd.prog 80 #[v, .string s] w fun e w' => e = .returned (.bool (inB xs s)) ∧ Ext w w' := by
  obtain ⟨q, cap, rfl, _, _⟩ := hx.shape
  have hhit := fun k (hk : k < xs.length) h => inB_hit (x := s) hk h
  have hmiss := inB_miss (vals := xs) (x := s)
  generalize inB xs s = d at *
  replace hhit := Lib.hid hhit
  replace hmiss := Lib.hid hmiss
  go_enter Tryd.func80, Tryd.ntmps80
  go_wp2
  go_loopw [5] (fun i wr => ∃ k : Nat, k ≤ xs.length ∧ i = .int .i64 k ∧ Ext w wr ∧ Hid (∀ j, j < k → (s.toList == (strAt xs j).toList) = false)) (fun i _ => xs.length - (intOf i).toNat)
  case atStart => exact ⟨0, by omega, rfl, Ext.refl w, fun j hj => by omega⟩
  case round =>
    obtain ⟨k, hk, rfl, hb, HN⟩ := hrel
    by_cases hlt : k < xs.length
    · obtain ⟨b, off, rfl, hbl, c0⟩ := (hx.ext hb).at hlt
      have hcm : (s.toList == (strAt xs k).toList) = ((strAt xs k).toList == s.toList) := Bool.beq_comm
      have hH := hhit.out k hlt
      have hN2 : (s.toList == (strAt xs k).toList) = false → Hid (∀ j, j < k + 1 → (s.toList == (strAt xs j).toList) = false) := fun h j hj => by
        rcases Nat.lt_succ_iff_lt_or_eq.1 hj with h' | rfl
        · exact HN.out j h'
        · exact h
      rw [hcm] at hH hN2
      clear hcm
      cases hq : ((strAt xs k).toList == s.toList) with
      | true =>
        have hd := hH hq
        subst hd
        clear hH hN2
        go_wp2
        go_ret
        exact ⟨rfl, hb⟩
      | false =>
        replace hN2 := hN2 hq
        clear hH
        go_wp2
        go_roundw
        case rel => exact ⟨k + 1, by omega, by go_num, hb, hN2⟩
        case measure => simp [intOf]; omega
    · obtain rfl : k = xs.length := by omega
      have hd := hmiss.out HN.out
      subst hd
      go_wp2
      go_ret
      exact ⟨rfl, hb⟩

set_option maxHeartbeats 2000000 in
set_option maxRecDepth 100000 in
theorem smmatch_w (R : List RowS) (p : List PairS) (v vp : Value) (w : World) (hm : R.length ≤ 35184372088832) (hf : FitR R) (hx : Terms w v R) (hpm : p.length ≤ 35184372088832) (hp : Pairs w vp p) :
    Calls Tryd.prog 43 #[v, vp] w fun e w' => e = .returned (.bool (matchS (R.map rowT) p)) ∧ Ext w w' := by
  obtain ⟨qp, capp, rfl, _, _⟩ := hp.shape
  obtain ⟨q, cap, rfl, _, _⟩ := hx.shape
  have hhit := fun k (hk : k < R.length) h => match_hit (p := p) hk h
  have hmiss := match_miss (R := R) (p := p)
  have CF := fun key U (hU : Ext w U) => mfind_w p key _ U hpm (hp.ext hU)
  generalize matchS (R.map rowT) p = d at *
  replace hhit := Lib.hid hhit
  replace hmiss := Lib.hid hmiss
  replace CF := Lib.hid CF
  go_enter Tryd.func43, Tryd.ntmps43
  go_wp2
  go_loopw [5] (fun i wr => ∃ k : Nat, k ≤ R.length ∧ i = .int .i64 k ∧ Ext w wr ∧ Hid (∀ j, j < k → holdsS p (rowT (sAtR R j)) = true)) (fun i _ => R.length - (intOf i).toNat)
  case atStart => exact ⟨0, by omega, rfl, Ext.refl w, fun j hj => by omega⟩
  case round =>
    obtain ⟨k, hk, rfl, hb, HN⟩ := hrel
    by_cases hlt : k < R.length
    · obtain ⟨b, off, rfl, hbl, c0, c1, c2⟩ := (hx.ext hb).at hlt
      have vx := (hx.ext hb).val hlt
      have hfk := hf _ (sAtR_mem hlt)
      have hH := hhit.out k hlt
      have hN2 : holdsS p (rowT (sAtR R k)) = true → Hid (∀ j, j < k + 1 → holdsS p (rowT (sAtR R j)) = true) := fun h j hj => by
        rcases Nat.lt_succ_iff_lt_or_eq.1 hj with h' | rfl
        · exact HN.out j h'
        · exact h
      have hde : holdsS p (rowT (sAtR R k)) = (((findB p (sAtR R k).1).2 && ((sAtR R k).2.2.2.isEmpty || inB (sAtR R k).2.2.2 (findB p (sAtR R k).1).1)) != (sAtR R k).2.1) := rfl
      rw [hde] at hH hN2
      clear hde
      generalize hsr : sAtR R k = r at *
      obtain ⟨k1, n1, v1, vals1⟩ := r
      have vx : Strs wr v1 vals1 := vx
      have hfl : vals1.length ≤ 35184372088832 := hfk.2.1
      simp only at c0 c1 c2 hH hN2
      obtain ⟨q3, cap3, rfl, _, _⟩ := vx.shape
      have C := CF.out k1 wr hb
      generalize (findB p k1).1 = fv at *
      generalize (findB p k1).2 = fo at *
      have cells : ∀ w', Ext wr w' → b < w'.heap.size ∧ w'.cell? ⟨b, off + k * 3, none⟩ = some (.string k1) ∧ w'.cell? ⟨b, off + k * 3 + 1, none⟩ = some (.bool n1) ∧ w'.cell? ⟨b, off + k * 3 + 2, none⟩ = some (.slice q3 vals1.length cap3) := fun w' h => by
        have := (hx.ext (hb.trans h)).cells hlt
        rw [hsr] at this
        exact this
      have CH := fun w' (h : Ext wr w') => has_w vals1 fv _ w' hfl (vx.ext h)
      generalize inB vals1 fv = g at *
      replace cells := Lib.hid cells
      replace CH := Lib.hid CH
      replace hsr := Lib.hid hsr
      replace hH := Lib.hid hH
      replace hN2 := Lib.hid hN2
      go_wp2_with fail
      refine C.mono ?_; rintro e w1 ⟨rfl, h1⟩
      obtain ⟨hbl1, y0, y1, y2⟩ := cells.out w1 h1
      clear c0 c1 c2 C hbl
      cases hve : vals1.isEmpty with
      | true =>
        obtain rfl := List.isEmpty_iff.1 hve
        have hH := hH.out
        have hN2 := hN2.out
        simp only [List.isEmpty_nil, Bool.true_or, Bool.and_true] at hH hN2
        clear CH hve
        cases fo
        all_goals
          cases n1
          all_goals
            first
            | (have hd := hH rfl
               subst hd
               clear hH hN2
               go_wp2
               go_ret
               exact ⟨rfl, hb.trans h1⟩)
            | (replace hN2 := hN2 rfl
               clear hH
               go_wp2
               go_roundw
               case rel => exact ⟨k + 1, by omega, by go_num, hb.trans h1, hN2⟩
               case measure => simp [intOf]; omega)
      | false =>
        have hH := hH.out
        have hN2 := hN2.out
        rw [hve] at hH hN2
        have hpos : (0 : Int) < (vals1.length : Int) := by
          have : vals1.length ≠ 0 := fun e => by rw [List.length_eq_zero_iff.1 e] at hve; cases hve
          omega
        clear hve
        cases fo with
        | false =>
          simp only [Bool.false_and] at hH hN2
          cases n1
          all_goals
            first
            | (have hd := hH rfl
               subst hd
               clear hH hN2
               go_wp2
               go_ret
               exact ⟨rfl, hb.trans h1⟩)
            | (replace hN2 := hN2 rfl
               clear hH
               go_wp2
               go_roundw
               case rel => exact ⟨k + 1, by omega, by go_num, hb.trans h1, hN2⟩
               case measure => simp [intOf]; omega)
        | true =>
          simp only [Bool.true_and, Bool.false_or] at hH hN2
          go_wp2_with fail
          refine (CH.out w1 h1).mono ?_; rintro e w2 ⟨rfl, h2⟩
          obtain ⟨hbl2, z0, z1, z2⟩ := cells.out w2 (h1.trans h2)
          clear y0 y1 y2 hbl1
          cases g
          all_goals
            cases n1
            all_goals
              first
              | (have hd := hH rfl
                 subst hd
                 clear hH hN2
                 go_wp2
                 go_ret
                 exact ⟨rfl, hb.trans (h1.trans h2)⟩)
              | (replace hN2 := hN2 rfl
                 clear hH
                 go_wp2
                 go_roundw
                 case rel => exact ⟨k + 1, by omega, by go_num, hb.trans (h1.trans h2), hN2⟩
                 case measure => simp [intOf]; omega)
    · obtain rfl : k = R.length := by omega
      have hd := hmiss.out HN.out
      subst hd
      go_wp2
      go_ret
      exact ⟨rfl, hb⟩

end Go.Proofs.YtbkemhheombfcaaDoor

namespace Go.Dm
open Go Go.RowKit
theorem textB32s {t : ByteArray} (h : t.size ≤ 32) : (textB t).size ≤ 42 := by
  rw [size_len]
  have := putL_ten (u := t.data.toList.length) (Nat.lt_of_le_of_lt (show t.data.toList.length ≤ 32 from h) (by decide))
  show (putT t.data.toList).length ≤ 42
  rw [putT, List.length_append]
  have h2 : t.data.toList.length = t.size := rfl
  omega
/-- A term whose texts are short. -/
def ShortT (t : TermS) : Prop := t.1.size ≤ 32 ∧ t.2.2.length ≤ 4 ∧ ∀ x ∈ t.2.2, x.size ≤ 32
def putTmB (t : TermS) : ByteArray := ⟨(putTm t).toArray⟩
theorem putVals_short : ∀ {vs : List ByteArray}, (∀ x ∈ vs, x.size ≤ 32) → (putVals vs).length ≤ 42 * vs.length
  | [], _ => by simp [putVals]
  | x :: vs, h => by
    have h1 := textB32s (h x (by simp))
    have ih := putVals_short (vs := vs) (fun y hy => h y (List.mem_cons_of_mem _ hy))
    have e : putVals (x :: vs) = putT (bS x) ++ putVals vs := by simp [putVals]
    have e2 : (textB x).size = (putT (bS x)).length := by rw [size_len]; rfl
    rw [e, List.length_append, List.length_cons]; omega
theorem putTmB_short {t : TermS} (h : ShortT t) : (putTmB t).size ≤ 220 := by
  obtain ⟨h1, h2, h3⟩ := h
  have a1 := textB32s h1
  have e2 : (textB t.1).size = (putT (bS t.1)).length := by rw [size_len]; rfl
  have a2 := putVals_short h3
  have a3 := putL_ten (u := numT t) (show numT t < 18446744073709551616 by unfold numT; split <;> omega)
  rw [size_len]
  show (putTm t).length ≤ 220
  unfold putTm
  rw [List.length_append, List.length_append]
  omega
end Go.Dm
namespace Go.Proofs.YtbkemhheombfcaaDoor
open Go.RowKit Go.Dm

set_option maxHeartbeats 2000000 in
set_option maxRecDepth 100000 in
theorem tput_w (key : ByteArray) (no : Bool) (vals : List ByteArray) (v : Value) (w : World) (hf : ShortT (key, no, vals)) (hx : Strs w v vals) :
    Calls Tryd.prog 83 #[.agg #[.string key, .bool no, v]] w fun e w' => e = .returned (.string (putTmB (key, no, vals))) ∧ Ext w w' := by
  have hW : Ext w (w.alloc (.cells #[.string key, .bool no, v] 57)) := (Ext.refl _).alloc _
  obtain ⟨q, cap, rfl, hcap, hcm⟩ := hx.shape
  obtain ⟨hf1, hf2, hf3⟩ := hf
  simp only at hf1 hf2 hf3
  have CK := fun U => puttext_w key U (by omega)
  have sK := textB32s hf1
  obtain ⟨N, hN⟩ : ∃ N : Nat, N = numT (key, no, vals) := ⟨_, rfl⟩
  have hNu : U64 N := by rw [hN]; show numT _ < 18446744073709551616; unfold numT; split <;> simp only <;> omega
  have CN := fun U => put_w N U hNu
  have sN : (⟨(putL N).toArray⟩ : ByteArray).size ≤ 10 := by rw [size_len]; exact putL_ten hNu
  have hst0 : Hid ((textB key ++ ⟨(putL N).toArray⟩).data.toList = (putT (bS key) ++ putL (numT (key, no, vals))) ++ putVals (vals.take 0)) := by
    show _ = _
    rw [data_append, ← hN]; simp [putVals, textB, bS]
  have hfin : Hid (∀ b : ByteArray, b.data.toList = (putT (bS key) ++ putL (numT (key, no, vals))) ++ putVals vals → b = putTmB (key, no, vals)) := fun b h => mk_bytes h
  have hNI : (N : Int) = if no then 2 * (vals.length : Int) + 1 else 2 * (vals.length : Int) := by
    rw [hN]; unfold numT; cases no <;> simp
  replace CK : ∀ U, Calls Tryd.prog 56 #[.string key] U fun e w' => e = .returned (.string (textB key)) ∧ Ext U w' := CK
  rw [hNI] at CN
  generalize numT (key, no, vals) = M at *
  generalize (⟨(putL N).toArray⟩ : ByteArray) = tn at *
  generalize textB key = tk at *
  replace CK := Lib.hid CK
  clear hN hNI hNu
  cases no
  all_goals
    simp only [Bool.false_eq_true, if_false, if_true] at CN
    replace CN := Lib.hid CN
    go_enter Tryd.func83, Tryd.ntmps83
    go_wp2_with fail
    refine (CK.out _).mono ?_; rintro e w1 ⟨rfl, h1⟩
    obtain ⟨gs, g⟩ := h1.box
    have g2 := g 2 _ rfl
    clear g
    go_wp2_with fail
    refine (CN.out _).mono ?_; rintro e w2 ⟨rfl, h2⟩
    have gs2 := Nat.lt_of_lt_of_le gs h2.size
    have g2' : w2.cell? ⟨w.heap.size, 2, none⟩ = some (.slice q vals.length cap) := by rw [h2.cell (by exact gs)]; exact g2
    have e2 := hW.trans (h1.trans h2)
    clear CK CN
    go_wp2
    go_loopw [4, 25] (fun s' i' wr => ∃ (k : Nat) (b : ByteArray), k ≤ vals.length ∧ i' = .int .i64 k ∧ s' = .string b ∧ b.size ≤ 52 + k * 42 ∧ Ext w2 wr ∧ Hid (b.data.toList = (putT (bS key) ++ putL M) ++ putVals (vals.take k))) (fun _ i' _ => vals.length - (intOf i').toNat)
    case atStart => exact ⟨0, _, by omega, rfl, rfl, by rw [ByteArray.size_append]; omega, Ext.refl _, hst0⟩
    case round =>
      obtain ⟨k, b, hk, rfl, rfl, hbs, hb, HB⟩ := hrel
      have er := e2.trans hb
      by_cases hlt : k < vals.length
      · obtain ⟨bb, off, rfl, hbl, c0⟩ := (hx.ext er).at hlt
        have s1 := hf3 _ (strAt_mem hlt)
        have s2 := textB32s s1
        have C : Calls Tryd.prog 56 #[.string (strAt vals k)] wr fun e w' => e = .returned (.string (textB (strAt vals k))) ∧ Ext wr w' := puttext_w _ wr (by omega)
        have hst : Hid ((b ++ textB (strAt vals k)).data.toList = (putT (bS key) ++ putL M) ++ putVals (vals.take (k + 1))) := by
          show _ = _
          rw [data_append, HB.out, putVals_step hlt, List.append_assoc]; rfl
        generalize textB (strAt vals k) = t1 at *
        go_wp2_with fail
        refine C.mono ?_; rintro e w3 ⟨rfl, h3⟩
        go_wp2
        go_roundw
        case rel => exact ⟨k + 1, _, by omega, by go_num, rfl, by rw [ByteArray.size_append]; omega, hb.trans h3, hst⟩
        case measure => simp [intOf]; omega
      · obtain rfl : k = vals.length := by omega
        have h := HB.out
        rw [List.take_length] at h
        have hz := Lib.hid (hfin.out b h)
        clear h
        go_wp2
        go_ret
        exact ⟨by rw [← hz.out]; rfl, er⟩

set_option maxHeartbeats 2000000 in
set_option maxRecDepth 100000 in
theorem sput_w (R : List RowS) (v : Value) (w : World) (hm : R.length ≤ 35184372088832) (hf : FitR R) (hx : Terms w v R) (ht : Tabs w) :
    Calls Tryd.prog 46 #[v] w fun e w' => e = .returned (.string ⟨(putS (R.map rowT)).toArray⟩) ∧ Ext w w' := by
  obtain ⟨q, cap, rfl, hcap, hcm⟩ := hx.shape
  have C := sright_w R _ w hm hf hx ht
  cases hR : rightS (R.map rowT) with
  | false =>
    have hz : Hid (putS (R.map rowT) = []) := by show _ = _; unfold putS; rw [hR]; rfl
    rw [hR] at C
    clear hR
    go_enter Tryd.func46, Tryd.ntmps46
    go_wp2_with fail
    refine C.mono ?_; rintro e w1 ⟨rfl, h1⟩
    go_wp2
    go_ret
    exact ⟨by rw [hz.out]; rfl, h1⟩
  | true =>
    have hz : Hid (putS (R.map rowT) = putL R.length ++ putTms (R.map rowT)) := by show _ = _; unfold putS; rw [hR, List.length_map]; rfl
    have h4 : R.length ≤ 4 := by have := (rightS_iff.1 hR).1; rwa [List.length_map] at this
    have hsh : Hid (∀ k, k < R.length → ShortT (rowT (sAtR R k))) := fun k hk => rightT_sizes ((rightS_iff.1 hR).2 _ (List.mem_map_of_mem (sAtR_mem hk)))
    have hU : U64 R.length := show R.length < _ by omega
    have hpl := putL_ten hU
    rw [hR] at C
    clear hR
    go_enter Tryd.func46, Tryd.ntmps46
    go_wp2_with fail
    refine C.mono ?_; rintro e w1 ⟨rfl, h1⟩
    clear C
    go_wp2_with fail
    refine (put_w R.length w1 hU).mono ?_; rintro e w2 ⟨rfl, h2⟩
    have e2 := h1.trans h2
    go_wp2
    go_loopw [3, 15] (fun s' i' wr => ∃ (k : Nat) (b : ByteArray), k ≤ R.length ∧ i' = .int .i64 k ∧ s' = .string b ∧ b.size ≤ 10 + k * 220 ∧ Ext w2 wr ∧ Hid (b.data.toList = putL R.length ++ putTms ((R.take k).map rowT))) (fun _ i' _ => R.length - (intOf i').toNat)
    case atStart => exact ⟨0, ⟨(putL R.length).toArray⟩, by omega, rfl, rfl, by rw [size_len]; exact hpl, Ext.refl _, by show _ = _; simp [putTms]⟩
    case round =>
      obtain ⟨k, b, hk, rfl, rfl, hbs, hb, HB⟩ := hrel
      have er := e2.trans hb
      by_cases hlt : k < R.length
      · obtain ⟨bb, off, rfl, hbl, c0, c1, c2⟩ := (hx.ext er).at hlt
        have vx := (hx.ext er).val hlt
        have hs := hsh.out k hlt
        have hst : Hid ((b ++ putTmB (rowT (sAtR R k))).data.toList = putL R.length ++ putTms ((R.take (k + 1)).map rowT)) := by
          show _ = _
          rw [data_append, HB.out, rowT_take hlt, putTms_step, List.append_assoc]; rfl
        have ss := putTmB_short hs
        generalize sAtR R k = r at *
        obtain ⟨k1, n1, v1, vals1⟩ := r
        have vx : Strs wr v1 vals1 := vx
        simp only at c0 c1 c2
        obtain ⟨q3, cap3, rfl, _, _⟩ := vx.shape
        have hW := (Ext.refl wr).alloc (.cells #[.string k1, .bool n1, .slice q3 vals1.length cap3] 57)
        have C : Calls Tryd.prog 83 #[.agg #[.string k1, .bool n1, .slice q3 vals1.length cap3]] (wr.alloc (.cells #[.string k1, .bool n1, .slice q3 vals1.length cap3] 57)) fun e w' => e = .returned (.string (putTmB (rowT (k1, n1, .slice q3 vals1.length cap3, vals1)))) ∧ Ext (wr.alloc (.cells #[.string k1, .bool n1, .slice q3 vals1.length cap3] 57)) w' := tput_w k1 n1 vals1 _ _ hs (vx.ext hW)
        generalize putTmB (rowT (k1, n1, .slice q3 vals1.length cap3, vals1)) = t1 at *
        go_wp2_with fail
        refine C.mono ?_; rintro e w3 ⟨rfl, h3⟩
        go_wp2
        go_roundw
        case rel => exact ⟨k + 1, _, by omega, by go_num, rfl, by rw [ByteArray.size_append]; omega, hb.trans (hW.trans h3), hst⟩
        case measure => simp [intOf]; omega
      · obtain rfl : k = R.length := by omega
        have h := HB.out
        rw [List.take_length, ← hz.out] at h
        have hz' := Lib.hid (mk_bytes h)
        clear h
        go_wp2
        go_ret
        exact ⟨by rw [← hz'.out]; rfl, er⟩

end Go.Proofs.YtbkemhheombfcaaDoor
