/- Chapter 4: the walk of the laws' examples. -/
import Derived.Test.YtbkemhheombfcaaDoorLWalkE
namespace Go.Dm
open Go Go.RowKit
theorem pL_inj {p q : PairS} (h : pL p = pL q) : p = q := by
  obtain ⟨⟨a⟩, ⟨b⟩⟩ := p
  obtain ⟨⟨c⟩, ⟨d⟩⟩ := q
  simp only [pL, Prod.mk.injEq] at h
  rw [Array.toList_inj.1 h.1, Array.toList_inj.1 h.2]
theorem labL_inj : ∀ {a b : List PairS}, labL a = labL b → a = b
  | [], [], _ => rfl
  | p :: a, q :: b, h => by
    simp only [labL, List.map_cons, List.cons.injEq] at h
    rw [pL_inj h.1, labL_inj (a := a) (b := b) h.2]
theorem Pairs.drop {w : World} {xs : List PairS} {p cap} (h : Pairs w (.slice p xs.length cap) xs) {k : Nat} (hk : k ≤ xs.length) : Pairs w (dropV p xs.length cap k 2) (xs.drop k) := by
  have := Sl.drop h hk
  have e : (pairCells xs).drop (k * 2) = pairCells (xs.drop k) := by
    clear this h
    induction k generalizing xs with
    | zero => simp
    | succ k ih =>
      cases xs with
      | nil => simp at hk
      | cons x xs =>
        have := ih (xs := xs) (by simpa using hk)
        rw [List.drop_succ_cons, ← this]
        rw [show (k + 1) * 2 = k * 2 + 1 + 1 by omega]
        rfl
  rw [e] at this
  show Sl w 2 _ (xs.drop k).length _
  rw [List.length_drop]
  exact this
end Go.Dm
namespace Go.Proofs.YtbkemhheombfcaaDoor
open Go.RowKit Go.Dm

theorem fit_small {l : List PairS} (h : ∀ p ∈ l, p.1.size ≤ 1000 ∧ p.2.size ≤ 1000) : FitP l := fun p hp => by have := h p hp; omega

set_option maxHeartbeats 1000000 in
set_option maxRecDepth 100000 in
theorem lexamples_w (w : World) (ht : Vars w) :
    Calls Tryd.prog 15 #[] w fun e w' => e = .returned (.bool true) ∧ Ext w w' := by
  have P1 : Hid (parseLab [100, 105, 115, 107, 61, 115, 115, 100, 44, 122, 111, 110, 101, 61, 97] = (labL [(⟨#[100, 105, 115, 107]⟩, ⟨#[115, 115, 100]⟩), (⟨#[122, 111, 110, 101]⟩, ⟨#[97]⟩)], true)) := by show _ = _; decide +kernel
  have P2 : Hid (parseLab [122, 111, 110, 101, 61, 97, 44, 100, 105, 115, 107, 61, 115, 115, 100] = (labL [], false)) := by show _ = _; decide +kernel
  have P3 : Hid (parseLab [45] = (labL [], true)) := by show _ = _; rfl
  go_enter Tryd.func15, Tryd.ntmps15
  go_wp2_with fail
  refine (lparse_w _ w (by decide) ht).mono ?_; rintro e w1 ⟨r1, l1, b1, rfl, hx1, hl1, _, _, e1⟩
  rw [show parseLab (⟨#[100, 105, 115, 107, 61, 115, 115, 100, 44, 122, 111, 110, 101, 61, 97]⟩ : ByteArray).data.toList = _ from P1.out] at hl1
  obtain ⟨hq1, rfl⟩ := Prod.mk.inj hl1
  obtain rfl := labL_inj hq1
  clear hl1 hq1
  go_wp2_with fail
  refine (lparse_w _ w1 (by decide) (ht.ext e1)).mono ?_; rintro e w2 ⟨r2, l2, b2, rfl, hx2, hl2, _, _, h2⟩
  have e2 := e1.trans h2
  rw [show parseLab (⟨#[122, 111, 110, 101, 61, 97, 44, 100, 105, 115, 107, 61, 115, 115, 100]⟩ : ByteArray).data.toList = _ from P2.out] at hl2
  obtain ⟨hq2, rfl⟩ := Prod.mk.inj hl2
  obtain rfl := labL_inj hq2
  clear hl2 hq2
  go_wp2_with fail
  refine (find_w _ ⟨#[122, 111, 110, 101]⟩ _ w2 (by decide) (hx1.ext h2)).mono ?_; rintro e w3 ⟨rfl, h3⟩
  have e3 := e2.trans h3
  rw [show findB [(⟨#[100, 105, 115, 107]⟩, ⟨#[115, 115, 100]⟩), (⟨#[122, 111, 110, 101]⟩, ⟨#[97]⟩)] ⟨#[122, 111, 110, 101]⟩ = (⟨#[97]⟩, true) by decide +kernel]
  go_wp2_with fail
  refine (lparse_w _ w3 (by decide) (ht.ext e3)).mono ?_; rintro e w4 ⟨r4, l4, b4, rfl, hx4, hl4, _, _, h4⟩
  have e4 := e3.trans h4
  rw [show parseLab (⟨#[45]⟩ : ByteArray).data.toList = _ from P3.out] at hl4
  obtain ⟨hq4, rfl⟩ := Prod.mk.inj hl4
  obtain rfl := labL_inj hq4
  clear hl4 hq4
  have hx1 := hx1.ext (h2.trans (h3.trans h4))
  obtain ⟨q1, cap1, rfl, hc1, hm1⟩ := hx1.shape
  obtain ⟨q4, cap4, rfl, hc4, hm4⟩ := hx4.shape
  have hF : FitP [((⟨#[100, 105, 115, 107]⟩ : ByteArray), (⟨#[115, 115, 100]⟩ : ByteArray)), (⟨#[122, 111, 110, 101]⟩, ⟨#[97]⟩)] := fit_small (by decide)
  have hF' : FitP [((⟨#[122, 111, 110, 101]⟩ : ByteArray), (⟨#[97]⟩ : ByteArray))] := fit_small (by decide)
  have hF'' : FitP [((⟨#[97]⟩ : ByteArray), (⟨#[]⟩ : ByteArray))] := fit_small (by decide)
  obtain ⟨g1, o1, rfl, hg1, _⟩ := hx1.at (k := 0) (by decide)
  simp only [List.length_cons, List.length_nil, Nat.zero_add] at hc1 hm1 hc4 hm4
  clear P1 P2 P3
  go_wp2_with fail
  refine (ltext_w _ _ w4 (by decide) hF hx1 (ht.tabs.ext e4)).mono ?_; rintro e w5 ⟨rfl, h5⟩
  have e5 := e4.trans h5
  rw [show textLab (labL [((⟨#[100, 105, 115, 107]⟩ : ByteArray), (⟨#[115, 115, 100]⟩ : ByteArray)), (⟨#[122, 111, 110, 101]⟩, ⟨#[97]⟩)]) = [100, 105, 115, 107, 61, 115, 115, 100, 44, 122, 111, 110, 101, 61, 97] by decide +kernel]
  have hd := (hx1.ext h5).drop (k := 1) (by decide)
  rw [dropV_any (by omega)] at hd
  have hd : Pairs w5 (.slice (some ⟨g1, o1 + 2, none⟩) 1 (cap1 - 1)) [((⟨#[122, 111, 110, 101]⟩ : ByteArray), (⟨#[97]⟩ : ByteArray))] := hd
  go_wp2_with fail
  refine (lput_w _ _ w5 (by decide) hF' hd (ht.tabs.ext e5)).mono ?_; rintro e w6 ⟨rfl, h6⟩
  have e6 := e5.trans h6
  rw [show putLab (labL [((⟨#[122, 111, 110, 101]⟩ : ByteArray), (⟨#[97]⟩ : ByteArray))]) = [1, 4, 122, 111, 110, 101, 1, 97] by decide +kernel]
  clear hd
  go_wp2_with fail
  refine (ltext_w [] _ w6 (by decide) FitP.nil (Pairs.nil _) (ht.tabs.ext e6)).mono ?_; rintro e w7 ⟨rfl, h7⟩
  have e7 := e6.trans h7
  rw [show textLab (labL []) = [45] by decide +kernel]
  have hn : Pairs (w7.alloc (.cells #[.string ⟨#[97]⟩, .string ⟨#[]⟩] 29)) (.slice (some ⟨w7.heap.size, 0, none⟩) 1 1) [(⟨#[97]⟩, ⟨#[]⟩)] := Sl.lit w7 29 2 1 #[.string ⟨#[97]⟩, .string ⟨#[]⟩] rfl (by simp [maxLen])
  have ha7 : Ext w (w7.alloc (.cells #[.string ⟨#[97]⟩, .string ⟨#[]⟩] 29)) := e7.trans ((Ext.refl _).alloc _)
  have CR := lright_w _ _ _ (by decide) hF'' hn (ht.tabs.ext ha7)
  rw [show rightLab (labL [((⟨#[97]⟩ : ByteArray), (⟨#[]⟩ : ByteArray))]) = false by decide +kernel] at CR
  clear hn
  go_wp2_with fail
  refine CR.mono ?_; rintro e w8 ⟨rfl, h8⟩
  clear CR
  go_wp2
  go_ret
  exact ⟨rfl, ha7.trans h8⟩

end Go.Proofs.YtbkemhheombfcaaDoor
