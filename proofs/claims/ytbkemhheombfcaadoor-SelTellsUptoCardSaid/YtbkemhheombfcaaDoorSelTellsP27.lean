/- Texts one behind the other: Chapter 5, plain laws: what matches. No program in sight; Chapter 5: the walk of the laws' examples; SelTells, walked: of any selectors, any labels, bytes, text all is told as the chapter says. -/
import Derived.Test.YtbkemhheombfcaaDoorSelTellsP17
import Derived.Test.YtbkemhheombfcaaDoorSelTellsP16
import Derived.Test.YtbkemhheombfcaaDoorSelTellsP19
import Derived.Test.YtbkemhheombfcaaDoorSelTellsP26
namespace Go.Dm
open Go Go.RowKit

theorem match_step {R : List RowS} {p : List PairS} {k : Nat} (hk : k < R.length) : matchS ((R.take (k + 1)).map rowT) p = (matchS ((R.take k).map rowT) p && holdsS p (rowT (sAtR R k))) := by
  rw [rowT_take hk]; unfold matchS; rw [List.all_append]; simp
theorem match_one (r : RowS) (p : List PairS) : matchS ([r].map rowT) p = holdsS p (rowT r) := by simp [matchS]
theorem match_nil (p : List PairS) : matchS (([] : List RowS).map rowT) p = true := rfl
theorem fitR_one {R : List RowS} (h : FitR R) {k : Nat} (hk : k < R.length) : FitR [sAtR R k] := fun r hr => by
  rw [List.mem_singleton.1 hr]; exact h _ (sAtR_mem hk)
theorem fitR_nil : FitR [] := fun r hr => by cases hr

/-- One of a selector's terms. -/
theorem Terms.sub {w : World} {R : List RowS} {b off cap : Nat} (h : Terms w (.slice (some ⟨b, off, none⟩) R.length cap) R) {k : Nat} (hk : k < R.length) :
    Terms w (.slice (some ⟨b, off + k * 3, none⟩) 1 (cap - k)) [sAtR R k] := by
  obtain ⟨b', off', e, hb, c0, c1, c2⟩ := h.at hk
  injection e with e; injection e with e1 e2
  subst e1 e2
  obtain ⟨_, _, e, hc, hm⟩ := h.shape
  injection e with _ _ e
  subst e
  refine ⟨⟨rfl, _, cap - k, rfl, ?_, by omega, (fun e => by cases e), Or.inr ⟨b, off + k * 3, rfl, hb, fun j u hj => ?_⟩⟩, fun r hr => ?_⟩
  · show 1 ≤ cap - k
    omega
  · match j with
    | 0 => simp [rowCells, rowOne] at hj; subst hj; exact c0
    | 1 => simp [rowCells, rowOne] at hj; subst hj; exact c1
    | 2 => simp [rowCells, rowOne] at hj; subst hj; exact c2
    | j + 3 => simp [rowCells, rowOne] at hj
  · rw [List.mem_singleton.1 hr]; exact h.val hk
theorem Terms.drop {w : World} {R : List RowS} {p cap} (h : Terms w (.slice p R.length cap) R) {k : Nat} (hk : k ≤ R.length) : Terms w (dropV p R.length cap k 3) (R.drop k) := by
  have hs := Sl.drop h.sl hk
  have e : (rowCells R).drop (k * 3) = rowCells (R.drop k) := by
    clear hs h
    induction k generalizing R with
    | zero => simp
    | succ k ih =>
      cases R with
      | nil => simp at hk
      | cons x xs =>
        have := ih (R := xs) (by simpa using hk)
        rw [List.drop_succ_cons, ← this]
        rw [show (k + 1) * 3 = k * 3 + 1 + 1 + 1 by omega]
        rfl
  rw [e] at hs
  refine ⟨?_, fun r hr => h.vals r (List.mem_of_mem_drop hr)⟩
  rw [List.length_drop]
  exact hs
theorem Strs.sub {w : World} {xs : List ByteArray} {b off cap : Nat} (h : Strs w (.slice (some ⟨b, off, none⟩) xs.length cap) xs) {k : Nat} (hk : k < xs.length) :
    Strs w (.slice (some ⟨b, off + k, none⟩) 1 (cap - k)) [strAt xs k] := by
  obtain ⟨hb, c0⟩ := h.cells hk
  obtain ⟨_, _, e, hc, hm⟩ := h.shape
  injection e with _ _ e
  subst e
  refine ⟨rfl, _, cap - k, rfl, ?_, by omega, (fun e => by cases e), Or.inr ⟨b, off + k, rfl, hb, fun j u hj => ?_⟩⟩
  · show 1 ≤ cap - k
    omega
  · match j with
    | 0 => simp at hj; subst hj; exact c0
    | j + 1 => simp at hj
theorem Strs.take {w : World} {xs : List ByteArray} {p cap} (h : Strs w (.slice p xs.length cap) xs) {k : Nat} (hk : k ≤ xs.length) : Strs w (.slice p k cap) (xs.take k) := by
  have := Sl.take h hk
  rw [Nat.mul_one, ← List.map_take] at this
  show Sl w 1 _ (xs.take k).length _
  rw [List.length_take, Nat.min_eq_left hk]
  exact this

theorem run_slice_sub {P : Program} (t e : TypeId) (sz : Nat) (ht : P.underlying t = some (.slice e)) (hs : (P.info? e).map (·.size) = some sz) (g off n cap k m : Nat) (hk : k ≤ m) (hm : m ≤ cap) (hc : k < cap) (w : World) :
    (Instr.slice t (.slice (some ⟨g, off, none⟩) n cap) (some (.int .i64 (k : Int))) (some (.int .i64 (m : Int))) none).run P w = .ok (.slice (some ⟨g, off + k * sz, none⟩) (m - k) (cap - k)) w := by
  obtain ⟨i, hi, hsz⟩ : ∃ i, P.info? e = some i ∧ i.size = sz := by
    cases h : P.info? e with
    | none => simp [h] at hs
    | some i => exact ⟨i, rfl, by simpa [h] using hs⟩
  have hc' : cap ≠ k := by omega
  by_cases h0 : k * sz = 0 <;>
  simp [Instr.slice, Instr.sliceBounds, Instr.sliceBound, asIntOf, run_underlying ht, sizeOf, typeInfo, hi, hsz, Addr.add, h0, hc', hk, hm]

/-- P5.2: with its Not turned a term holds just of what it did not. -/
theorem holds_turned (p : List PairS) (k : ByteArray) (vs : List ByteArray) : holdsS p (k, true, vs) = !holdsS p (k, false, vs) := by
  unfold holdsS; simp only; cases (findB p k).2 && (vs.isEmpty || inB vs (findB p k).1) <;> rfl
/-- One of a few values: what one of them alone holds of. -/
theorem holds_some {p : List PairS} {k : ByteArray} {vs : List ByteArray} (h : vs ≠ []) : holdsS p (k, false, vs) = vs.any fun v => holdsS p (k, false, [v]) := by
  unfold holdsS
  simp only [List.isEmpty_cons, Bool.false_or, Bool.bne_false]
  rw [List.isEmpty_eq_false_iff.2 h, Bool.false_or]
  unfold inB
  cases (findB p k).2 with
  | false => simp
  | true => simp
theorem holds_none (p : List PairS) (k : ByteArray) : holdsS p (k, false, []) = (findB p k).2 := by unfold holdsS; simp
theorem holds_has {p : List PairS} {k : ByteArray} {vs : List ByteArray} (h : holdsS p (k, false, vs) = true) : (findB p k).2 = true := by
  unfold holdsS at h
  rw [Bool.bne_false, Bool.and_eq_true] at h
  exact h.1
theorem any_step {l : List ByteArray} (f : ByteArray → Bool) {k : Nat} (hk : k < l.length) : (l.take (k + 1)).any f = ((l.take k).any f || f (strAt l k)) := by
  rw [List.take_succ_eq_append_getElem hk, List.any_append]
  simp [strAt, hk]
end Go.Dm

namespace Go.Dm
open Go Go.RowKit
theorem rows_cons {R : List RowS} {t : TermS} {T : List TermS} (h : R.map rowT = t :: T) : ∃ (v : Value) (R' : List RowS), R = (t.1, t.2.1, v, t.2.2) :: R' ∧ R'.map rowT = T := by
  match R, h with
  | r :: R', h =>
    simp only [List.map_cons, List.cons.injEq] at h
    obtain ⟨h1, h2⟩ := h
    refine ⟨r.2.2.1, R', ?_, h2⟩
    rw [← h1]; rfl
theorem rows_nil {R : List RowS} (h : R.map rowT = []) : R = [] := List.map_eq_nil_iff.1 h
theorem fitR_small {R : List RowS} (h : ∀ t ∈ R.map rowT, t.1.size ≤ 1000 ∧ t.2.2.length ≤ 1000 ∧ ∀ x ∈ t.2.2, x.size ≤ 1000) : FitR R := fun r hr => by
  have := h _ (List.mem_map_of_mem hr)
  refine ⟨by omega, by omega, fun x hx => ?_⟩
  have := this.2.2 x hx
  omega
end Go.Dm
namespace Go.Proofs.YtbkemhheombfcaaDoor
open Go.RowKit Go.Dm

set_option maxHeartbeats 2000000 in
set_option maxRecDepth 100000 in
theorem sexamples_w (w : World) (ht : Vars w) :
    Calls Tryd.prog 33 #[] w fun e w' => e = .returned (.bool true) ∧ Ext w w' := by
  have P1 : Hid (parseS [122, 111, 110, 101, 33, 61, 97, 124, 98, 44, 33, 103, 112, 117, 44, 100, 105, 115, 107] = ([(⟨#[122, 111, 110, 101]⟩, true, [⟨#[97]⟩, ⟨#[98]⟩]), (⟨#[103, 112, 117]⟩, true, []), (⟨#[100, 105, 115, 107]⟩, false, [])], true)) := by show _ = _; decide +kernel
  have P2 : Hid (parseS [122, 111, 110, 101, 61, 98, 124, 97] = ([], false)) := by show _ = _; decide +kernel
  go_enter Tryd.func33, Tryd.ntmps33
  go_wp2_with fail
  refine (sparse_w _ w (by decide) ht).mono ?_; rintro e w1 ⟨r1, l1, b1, rfl, hx1, hl1, _, _, e1⟩
  rw [show parseS (⟨#[122, 111, 110, 101, 33, 61, 97, 124, 98, 44, 33, 103, 112, 117, 44, 100, 105, 115, 107]⟩ : ByteArray).data.toList = _ from P1.out] at hl1
  obtain ⟨hq1, rfl⟩ := Prod.mk.inj hl1
  obtain ⟨v0, R0, rfl, ha1⟩ := rows_cons hq1
  obtain ⟨v1, R1, rfl, ha2⟩ := rows_cons ha1
  obtain ⟨v2, R2, rfl, ha3⟩ := rows_cons ha2
  obtain rfl := rows_nil ha3
  clear hl1 hq1 ha1 ha2 ha3
  simp only at hx1
  go_wp2_with fail
  refine (sparse_w _ w1 (by decide) (ht.ext e1)).mono ?_; rintro e w2 ⟨r2, l2, b2, rfl, hx2, hl2, _, _, h2⟩
  have e2 := e1.trans h2
  rw [show parseS (⟨#[122, 111, 110, 101, 61, 98, 124, 97]⟩ : ByteArray).data.toList = _ from P2.out] at hl2
  obtain ⟨hq2, rfl⟩ := Prod.mk.inj hl2
  obtain rfl := rows_nil hq2
  clear hl2 hq2 hx2
  have hx := hx1.ext h2
  clear hx1
  obtain ⟨q1, cap1, rfl, hc1, hm1⟩ := hx.shape
  have vx0 := hx.val (k := 0) (by simp)
  have vx1 := hx.val (k := 1) (by simp)
  have vx2 := hx.val (k := 2) (by simp)
  obtain ⟨g1, o1, rfl, hg1, a0, a1, a2⟩ := hx.at (k := 0) (by simp)
  obtain ⟨_, _, eg, _, b0, b1, b2⟩ := hx.at (k := 1) (by simp)
  injection eg with eg; injection eg with eg1 eg2
  subst eg1 eg2
  obtain ⟨_, _, eg, _, c0, c1, c2⟩ := hx.at (k := 2) (by simp)
  injection eg with eg; injection eg with eg1 eg2
  subst eg1 eg2
  simp only [sAtR, List.getD_cons_zero, List.getD_cons_succ] at vx0 vx1 vx2 a0 a1 a2 b0 b1 b2 c0 c1 c2
  rw [Nat.zero_mul, Nat.add_zero] at a0 a1 a2
  obtain ⟨p0, k0, rfl, _, _⟩ := vx0.shape
  obtain ⟨p1, k1, rfl, _, _⟩ := vx1.shape
  obtain ⟨p2, k2, rfl, _, _⟩ := vx2.shape
  simp only [List.length_cons, List.length_nil, Nat.zero_add, Nat.reduceAdd] at hc1 hm1
  clear P1 P2
  obtain ⟨R, hRe⟩ : ∃ R : List RowS, R = [(⟨#[122, 111, 110, 101]⟩, true, .slice p0 2 k0, [⟨#[97]⟩, ⟨#[98]⟩]), (⟨#[103, 112, 117]⟩, true, .slice p1 0 k1, []), (⟨#[100, 105, 115, 107]⟩, false, .slice p2 0 k2, [])] := ⟨_, rfl⟩
  have hx : Terms w2 (.slice (some ⟨g1, o1, none⟩) R.length cap1) R := by rw [hRe]; exact hx
  have hRl : Hid (R.length = 3) := by show _ = _; rw [hRe]; rfl
  have hd2 := hx.drop (k := 2) (by rw [hRl.out]; omega)
  have hd1 := hx.drop (k := 1) (by rw [hRl.out]; omega)
  rw [hRl.out] at hx hd2 hd1
  rw [dropV_any (by omega)] at hd2 hd1
  have hd2 : Terms w2 (.slice (some ⟨g1, o1 + 6, none⟩) 1 (cap1 - 2)) (R.drop 2) := hd2
  have hd1 : Terms w2 (.slice (some ⟨g1, o1 + 3, none⟩) 2 (cap1 - 1)) (R.drop 1) := hd1
  have hRT : Hid (R.map rowT = [(⟨#[122, 111, 110, 101]⟩, true, [⟨#[97]⟩, ⟨#[98]⟩]), (⟨#[103, 112, 117]⟩, true, []), (⟨#[100, 105, 115, 107]⟩, false, [])]) := by show _ = _; rw [hRe]; rfl
  have hR2 : Hid ((R.drop 2).map rowT = [(⟨#[100, 105, 115, 107]⟩, false, [])]) := by show _ = _; rw [hRe]; rfl
  have hF : FitR R := fitR_small (by rw [hRT.out]; decide +kernel)
  have hF2 : FitR (R.drop 2) := fun r hr => hF r (List.mem_of_mem_drop hr)
  have T1 : Hid (textS (R.map rowT) = [122, 111, 110, 101, 33, 61, 97, 124, 98, 44, 33, 103, 112, 117, 44, 100, 105, 115, 107]) := by show _ = _; rw [hRT.out]; decide +kernel
  have M1 : Hid (matchS (R.map rowT) [(⟨#[100, 105, 115, 107]⟩, ⟨#[115, 115, 100]⟩), (⟨#[122, 111, 110, 101]⟩, ⟨#[99]⟩)] = true) := by show _ = _; rw [hRT.out]; decide +kernel
  have M2 : Hid (matchS (R.map rowT) [(⟨#[100, 105, 115, 107]⟩, ⟨#[115, 115, 100]⟩), (⟨#[122, 111, 110, 101]⟩, ⟨#[97]⟩)] = false) := by show _ = _; rw [hRT.out]; decide +kernel
  have M3 : Hid (matchS (R.map rowT) [(⟨#[100, 105, 115, 107]⟩, ⟨#[120]⟩)] = true) := by show _ = _; rw [hRT.out]; decide +kernel
  have U1 : Hid (putS ((R.drop 2).map rowT) = [1, 4, 100, 105, 115, 107, 0]) := by show _ = _; rw [hR2.out]; decide +kernel
  have S2 : Hid (decide (R.map rowT = (R.drop 1).map rowT) = false) := by show _ = _; rw [List.map_drop, hRT.out]; decide +kernel
  clear hRe
  go_wp2_with fail
  refine (stext_w R _ w2 (by rw [hRl.out]; decide) hF hx (ht.tabs.ext e2)).mono ?_; rintro e w3 ⟨rfl, h3⟩
  have e3 := e2.trans h3
  rw [T1.out]
  have a3 := (Ext.refl w3).alloc (.cells #[.string ⟨#[100, 105, 115, 107]⟩, .string ⟨#[115, 115, 100]⟩, .string ⟨#[122, 111, 110, 101]⟩, .string ⟨#[99]⟩] 29)
  have hp3 : Pairs (w3.alloc (.cells #[.string ⟨#[100, 105, 115, 107]⟩, .string ⟨#[115, 115, 100]⟩, .string ⟨#[122, 111, 110, 101]⟩, .string ⟨#[99]⟩] 29)) (.slice (some ⟨w3.heap.size, 0, none⟩) 2 2) [(⟨#[100, 105, 115, 107]⟩, ⟨#[115, 115, 100]⟩), (⟨#[122, 111, 110, 101]⟩, ⟨#[99]⟩)] := Sl.lit w3 29 2 2 #[.string ⟨#[100, 105, 115, 107]⟩, .string ⟨#[115, 115, 100]⟩, .string ⟨#[122, 111, 110, 101]⟩, .string ⟨#[99]⟩] rfl (by simp [maxLen])
  have CM := match_w R _ _ _ _ (by rw [hRl.out]; decide) hF (hx.ext (h3.trans a3)) (by decide) hp3
  rw [M1.out] at CM
  clear hp3
  go_wp2_with fail
  refine CM.mono ?_; rintro e w4 ⟨rfl, h4⟩
  clear CM
  have hh4 := h3.trans (a3.trans h4)
  have a4 := (Ext.refl w4).alloc (.cells #[.string ⟨#[100, 105, 115, 107]⟩, .string ⟨#[115, 115, 100]⟩, .string ⟨#[122, 111, 110, 101]⟩, .string ⟨#[97]⟩] 29)
  have hp4 : Pairs (w4.alloc (.cells #[.string ⟨#[100, 105, 115, 107]⟩, .string ⟨#[115, 115, 100]⟩, .string ⟨#[122, 111, 110, 101]⟩, .string ⟨#[97]⟩] 29)) (.slice (some ⟨w4.heap.size, 0, none⟩) 2 2) [(⟨#[100, 105, 115, 107]⟩, ⟨#[115, 115, 100]⟩), (⟨#[122, 111, 110, 101]⟩, ⟨#[97]⟩)] := Sl.lit w4 29 2 2 #[.string ⟨#[100, 105, 115, 107]⟩, .string ⟨#[115, 115, 100]⟩, .string ⟨#[122, 111, 110, 101]⟩, .string ⟨#[97]⟩] rfl (by simp [maxLen])
  have CM := match_w R _ _ _ _ (by rw [hRl.out]; decide) hF (hx.ext (hh4.trans a4)) (by decide) hp4
  rw [M2.out] at CM
  clear hp4
  go_wp2_with fail
  refine CM.mono ?_; rintro e w5 ⟨rfl, h5⟩
  clear CM
  have hh5 := hh4.trans (a4.trans h5)
  have a5 := (Ext.refl w5).alloc (.cells #[.string ⟨#[100, 105, 115, 107]⟩, .string ⟨#[120]⟩] 29)
  have hp5 : Pairs (w5.alloc (.cells #[.string ⟨#[100, 105, 115, 107]⟩, .string ⟨#[120]⟩] 29)) (.slice (some ⟨w5.heap.size, 0, none⟩) 1 1) [(⟨#[100, 105, 115, 107]⟩, ⟨#[120]⟩)] := Sl.lit w5 29 2 1 #[.string ⟨#[100, 105, 115, 107]⟩, .string ⟨#[120]⟩] rfl (by simp [maxLen])
  have CM := match_w R _ _ _ _ (by rw [hRl.out]; decide) hF (hx.ext (hh5.trans a5)) (by decide) hp5
  rw [M3.out] at CM
  clear hp5
  go_wp2_with fail
  refine CM.mono ?_; rintro e w6 ⟨rfl, h6⟩
  clear CM
  have hh6 := hh5.trans (a5.trans h6)
  go_wp2_with fail
  refine (match_w [] [] _ _ w6 (by decide) fitR_nil (Terms.nil _) (by decide) (Pairs.nil _)).mono ?_; rintro e w7 ⟨rfl, h7⟩
  rw [match_nil]
  have hh7 := hh6.trans h7
  go_wp2_with fail
  refine (sput_w (R.drop 2) _ w7 (by rw [List.length_drop, hRl.out]; decide) hF2 (hd2.ext hh7) (ht.tabs.ext (e2.trans hh7))).mono ?_; rintro e w8 ⟨rfl, h8⟩
  rw [U1.out]
  have hh8 := hh7.trans h8
  go_wp2_with fail
  refine (ssame_w R R _ _ w8 (by rw [hRl.out]; decide) hF (hx.ext hh8) (hx.ext hh8)).mono ?_; rintro e w9 ⟨rfl, h9⟩
  rw [show decide (R.map rowT = R.map rowT) = true by simp]
  have hh9 := hh8.trans h9
  go_wp2_with fail
  refine (ssame_w R (R.drop 1) _ _ w9 (by rw [hRl.out]; decide) hF (hx.ext hh9) (hd1.ext hh9)).mono ?_; rintro e w10 ⟨rfl, h10⟩
  rw [S2.out]
  have hh10 := hh9.trans h10
  go_wp2
  go_ret
  exact ⟨rfl, e2.trans hh10⟩

end Go.Proofs.YtbkemhheombfcaaDoor

namespace Go.Proofs.YtbkemhheombfcaaDoor
open Go.RowKit Go.Dm

theorem smsame_true (R R2 : List RowS) (v v2 : Value) (w : World) (hl : R.length ≤ 35184372088832) (hf : FitR R) (hx : Terms w v R) (hy : Terms w v2 R2) (h : R.map rowT = R2.map rowT) :
    Calls Tryd.prog 40 #[v, v2] w fun e w' => e = .returned (.bool true) ∧ Ext w w' := by
  have := smsame_w R R2 v v2 w hl hf hx hy
  rw [decide_eq_true h] at this
  exact this

set_option maxHeartbeats 4000000 in
set_option maxRecDepth 100000 in
theorem selTells_w (L M : List RowS) (P : List PairS) (s : ByteArray) (p : Int) (t : ByteArray) (v v2 vp : Value) (w : World) (hL : L.length ≤ 1048576 ∧ FitR L) (hx : Terms w v L) (hM : M.length ≤ 1048576 ∧ FitR M) (hy : Terms w v2 M)
    (hP : P.length ≤ 1048576 ∧ FitP P) (hp : Pairs w vp P) (hs : s.size ≤ 1048576) (hts : t.size ≤ 1048576) (ht : Vars w) :
    Calls Tryd.prog 12 #[v, v2, vp, .string s, .int .i64 p, .string t] w fun e w' => e = .returned (.bool true) ∧ Ext w w' := by
  obtain ⟨q, cap, rfl, hcap, hcm⟩ := hx.shape
  obtain ⟨q2, cap2, rfl, hcap2, hcm2⟩ := hy.shape
  obtain ⟨qp, capp, rfl, hcapp, hcmp⟩ := hp.shape
  obtain ⟨hL, hFL⟩ := hL
  obtain ⟨hM, hFM⟩ := hM
  obtain ⟨hP, _⟩ := hP
  obtain ⟨R, hR⟩ : ∃ R, R = rightS (L.map rowT) := ⟨_, rfl⟩
  have CR := fun v w1 (e1 : Ext w w1) (h : Terms w1 v L) => sright_w L v w1 (by omega) hFL h (ht.tabs.ext e1)
  have CR' := fun v w1 (h : Terms w1 v L) => smright_w L v w1 hFL h
  rw [← hR] at CR CR'
  obtain ⟨A, hA⟩ : ∃ A : ByteArray, A = ⟨(putS (L.map rowT)).toArray⟩ := ⟨_, rfl⟩
  have CP := fun v w1 (e1 : Ext w w1) (h : Terms w1 v L) => sput_w L v w1 (by omega) hFL h (ht.tabs.ext e1)
  have CP' := fun v w1 (h : Terms w1 v L) => smput_w L v w1 hFL h
  rw [← hA] at CP CP'
  obtain ⟨B, hB⟩ : ∃ A : ByteArray, A = ⟨(textS (L.map rowT)).toArray⟩ := ⟨_, rfl⟩
  have CT := fun v w1 (e1 : Ext w w1) (h : Terms w1 v L) => stext_w L v w1 (by omega) hFL h (ht.tabs.ext e1)
  have CT' := fun v w1 (h : Terms w1 v L) => smtext_w L v w1 hFL h
  rw [← hB] at CT CT'
  obtain ⟨G, hG⟩ : ∃ G, G = matchS (L.map rowT) P := ⟨_, rfl⟩
  have CM := fun v vp w1 (h : Terms w1 v L) (hp : Pairs w1 vp P) => match_w L P v vp w1 (by omega) hFL h (by omega) hp
  have CM' := fun v vp w1 (h : Terms w1 v L) (hp : Pairs w1 vp P) => smmatch_w L P v vp w1 (by omega) hFL h (by omega) hp
  rw [← hG] at CM CM'
  obtain ⟨D, hD⟩ : ∃ D, D = decide (L.map rowT = M.map rowT) := ⟨_, rfl⟩
  have CS := fun v v2 w1 (h : Terms w1 v L) (h2 : Terms w1 v2 M) => ssame_w L M v v2 w1 (by omega) hFL h h2
  have CS' := fun v v2 w1 (h : Terms w1 v L) (h2 : Terms w1 v2 M) => smsame_w L M v v2 w1 (by omega) hFL h h2
  rw [← hD] at CS CS'
  clear hR hA hB hG hD hFL hFM
  replace CR := Lib.hid CR
  replace CR' := Lib.hid CR'
  replace CP := Lib.hid CP
  replace CP' := Lib.hid CP'
  replace CT := Lib.hid CT
  replace CT' := Lib.hid CT'
  replace CM := Lib.hid CM
  replace CM' := Lib.hid CM'
  replace CS := Lib.hid CS
  replace CS' := Lib.hid CS'
  go_enter Tryd.func12, Tryd.ntmps12
  go_wp2_with fail
  refine (sexamples_w w ht).mono ?_; rintro e w1 ⟨rfl, e1⟩
  go_wp2_with fail
  refine (srefs_w L _ w1 (by omega) (hx.ext e1)).mono ?_; rintro e w2 ⟨r2, rfl, hr, h2⟩
  have e2 := e1.trans h2
  obtain ⟨qr, capr, rfl, hcr, hmr⟩ := hr.shape
  go_wp2_with fail
  refine (sget_w s p w2 (by omega) (ht.tabs.ext e2)).mono ?_
  rintro e w3 ⟨r3, R3, n3, b3, rfl, hx3, hF3, h43, ⟨T3, hT3, hG3⟩, h3⟩
  have e3 := e2.trans h3
  obtain ⟨q3, cap3, rfl, _, _⟩ := hx3.shape
  go_wp2_with fail
  refine (smget_w s p w3 (by omega)).mono ?_
  rintro e w4 ⟨r4, R4, n4, b4, rfl, hx4, hF4, h44, ⟨T4, hT4, hG4⟩, h4⟩
  have e4 := e3.trans h4
  obtain ⟨q4, cap4, rfl, _, _⟩ := hx4.shape
  rw [hG3] at hG4
  injection hG4 with g1 g2
  injection g2 with g2 g3
  subst g2 g3
  have g34 : Hid (R3.map rowT = R4.map rowT) := by show _ = _; rw [hT3, hT4, g1]
  clear hT3 hT4 hG3 g1
  go_wp2_with fail
  refine (sparse_w t w4 (by omega) (ht.ext e4)).mono ?_
  rintro e w5 ⟨r5, R5, b5, rfl, hx5, hP5, hF5, h45, h5⟩
  have e5 := e4.trans h5
  obtain ⟨q5, cap5, rfl, _, _⟩ := hx5.shape
  go_wp2_with fail
  refine (smparse_w t w5 hts).mono ?_
  rintro e w6 ⟨r6, R6, b6, rfl, hx6, hP6, hF6, h46, h6⟩
  have e6 := e5.trans h6
  obtain ⟨q6, cap6, rfl, _, _⟩ := hx6.shape
  rw [← hP5] at hP6
  injection hP6 with g1 g2
  subst g2
  have g56 : Hid (R5.map rowT = R6.map rowT) := g1.symm
  clear hP5 g1
  have x6 : Terms w6 _ L := hx.ext e6
  have y6 : Terms w6 _ M := hy.ext e6
  have z6 : Pairs w6 _ P := hp.ext e6
  have u6 : Terms w6 _ L := (((hr.ext h3).ext h4).ext h5).ext h6
  have a6 := ((hx3.ext h4).ext h5).ext h6
  have c6 := (hx4.ext h5).ext h6
  have d6 := hx5.ext h6
  clear hx hy hp hr hx3 hx4 hx5
  go_wp2_with fail
  refine (srefs_w R3 _ w6 (by omega) a6).mono ?_; rintro e w7 ⟨r7, rfl, ha7, h7⟩
  have e7 := e6.trans h7
  obtain ⟨q7, cap7, rfl, _, _⟩ := ha7.shape
  go_wp2_with fail
  refine (smsame_true R3 R4 _ _ w7 (by omega) hF3 ha7 (c6.ext h7) g34.out).mono ?_; rintro e w8 ⟨rfl, h8⟩
  have e8 := e7.trans h8
  have H8 := h7.trans h8
  go_wp2_with fail
  refine (srefs_w R5 _ w8 (by omega) (d6.ext H8)).mono ?_; rintro e w9 ⟨r9, rfl, ha9, h9⟩
  have e9 := e8.trans h9
  have H9 := H8.trans h9
  obtain ⟨q9, cap9, rfl, _, _⟩ := ha9.shape
  go_wp2_with fail
  refine (smsame_true R5 R6 _ _ w9 (by omega) hF5 ha9 (hx6.ext H9) g56.out).mono ?_; rintro e w10 ⟨rfl, h10⟩
  have e10 := e9.trans h10
  have H10 := H9.trans h10
  have x10 := x6.ext H10
  have y10 := y6.ext H10
  have z10 := z6.ext H10
  have u10 := u6.ext H10
  clear a6 c6 d6 ha7 ha9 hx6 x6 y6 z6 u6 hF3 hF4 hF5 hF6 H8 H9 H10
  go_wp2_with fail
  refine (CR.out _ w10 e10 x10).mono ?_; rintro e w11 ⟨rfl, h11⟩
  have e11 := e10.trans h11
  go_wp2_with fail
  refine (CR'.out _ w11 (u10.ext h11)).mono ?_; rintro e w12 ⟨rfl, h12⟩
  have e12 := e11.trans h12
  have H12 := h11.trans h12
  clear CR CR'
  go_wp2_with fail
  refine (CM.out _ _ w12 (x10.ext H12) (z10.ext H12)).mono ?_; rintro e w13 ⟨rfl, h13⟩
  have e13 := e12.trans h13
  have H13 := H12.trans h13
  go_wp2_with fail
  refine (srefl_w P _ w13 (by omega) (z10.ext H13)).mono ?_; rintro e w14 ⟨r14, rfl, hp14, h14⟩
  have e14 := e13.trans h14
  have H14 := H13.trans h14
  obtain ⟨q14, cap14, rfl, _, _⟩ := hp14.shape
  go_wp2_with fail
  refine (CM'.out _ _ w14 (u10.ext H14) hp14).mono ?_; rintro e w15 ⟨rfl, h15⟩
  have e15 := e14.trans h15
  have H15 := H14.trans h15
  clear CM CM'
  go_wp2_with fail
  refine (CS.out _ _ w15 (x10.ext H15) (y10.ext H15)).mono ?_; rintro e w16 ⟨rfl, h16⟩
  have e16 := e15.trans h16
  have H16 := H15.trans h16
  go_wp2_with fail
  refine (srefs_w M _ w16 (by omega) (y10.ext H16)).mono ?_; rintro e w17 ⟨r17, rfl, hm17, h17⟩
  have e17 := e16.trans h17
  have H17 := H16.trans h17
  obtain ⟨q17, cap17, rfl, _, _⟩ := hm17.shape
  go_wp2_with fail
  refine (CS'.out _ _ w17 (u10.ext H17) hm17).mono ?_; rintro e w18 ⟨rfl, h18⟩
  have e18 := e17.trans h18
  have H18 := H17.trans h18
  clear CS CS'
  go_wp2_with fail
  refine (CP.out _ w18 e18 (x10.ext H18)).mono ?_; rintro e w19 ⟨rfl, h19⟩
  have e19 := e18.trans h19
  have H19 := H18.trans h19
  go_wp2_with fail
  refine (CP'.out _ w19 (u10.ext H19)).mono ?_; rintro e w20 ⟨rfl, h20⟩
  have e20 := e19.trans h20
  have H20 := H19.trans h20
  clear CP CP'
  go_wp2_with fail
  refine (CT.out _ w20 e20 (x10.ext H20)).mono ?_; rintro e w21 ⟨rfl, h21⟩
  have e21 := e20.trans h21
  have H21 := H20.trans h21
  go_wp2_with fail
  refine (CT'.out _ w21 (u10.ext H21)).mono ?_; rintro e w22 ⟨rfl, h22⟩
  go_wp2
  go_ret
  exact ⟨rfl, e21.trans h22⟩

end Go.Proofs.YtbkemhheombfcaaDoor
