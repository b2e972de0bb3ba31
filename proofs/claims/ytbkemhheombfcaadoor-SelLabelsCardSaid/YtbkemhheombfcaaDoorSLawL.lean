/- Chapter 5, plain laws: what matches. No program in sight. -/
import Derived.Test.YtbkemhheombfcaaDoorSPureC
import Derived.Test.YtbkemhheombfcaaDoorLWalkF
import Derived.Test.YtbkemhheombfcaaDoorSWalkC
namespace Go.Dm
open Go Go.RowKit

theorem match_step {R : List RowS} {p : List PairS} {k : Nat} (hk : k < R.length) : matchS ((R.take (k + 1)).map rowT) p = (matchS ((R.take k).map rowT) p && holdsS p (rowT (sAtR R k))) := by
  rw [rowT_take hk]; unfold matchS; rw [List.all_append]; simp
theorem match_one (r : RowS) (p : List PairS) : matchS ([r].map rowT) p = holdsS p (rowT r) := by simp [matchS]
theorem match_nil (p : List PairS) : matchS (([] : List RowS).map rowT) p = true := rfl
theorem fitR_one {R : List RowS} (h : FitR R) {k : Nat} (hk : k < R.length) : FitR [sAtR R k] := fun r hr => by
  rw [List.mem_singleton.1 hr]; exact h _ (sAtR_mem hk)
theorem fitR_nil : FitR [] := fun r hr => by cases hr

/-- One of a selector's terms. -/
theorem Terms.sub {w : World} {R : List RowS} {b off cap : Nat} (h : Terms w (.slice (some ⟨b, off, none⟩) R.length cap) R) {k : Nat} (hk : k < R.length) :
    Terms w (.slice (some ⟨b, off + k * 3, none⟩) 1 (cap - k)) [sAtR R k] := by
  obtain ⟨b', off', e, hb, c0, c1, c2⟩ := h.at hk
  injection e with e; injection e with e1 e2
  subst e1 e2
  obtain ⟨_, _, e, hc, hm⟩ := h.shape
  injection e with _ _ e
  subst e
  refine ⟨⟨rfl, _, cap - k, rfl, ?_, by omega, (fun e => by cases e), Or.inr ⟨b, off + k * 3, rfl, hb, fun j u hj => ?_⟩⟩, fun r hr => ?_⟩
  · show 1 ≤ cap - k
    omega
  · match j with
    | 0 => simp [rowCells, rowOne] at hj; subst hj; exact c0
    | 1 => simp [rowCells, rowOne] at hj; subst hj; exact c1
    | 2 => simp [rowCells, rowOne] at hj; subst hj; exact c2
    | j + 3 => simp [rowCells, rowOne] at hj
  · rw [List.mem_singleton.1 hr]; exact h.val hk
theorem Terms.drop {w : World} {R : List RowS} {p cap} (h : Terms w (.slice p R.length cap) R) {k : Nat} (hk : k ≤ R.length) : Terms w (dropV p R.length cap k 3) (R.drop k) := by
  have hs := Sl.drop h.sl hk
  have e : (rowCells R).drop (k * 3) = rowCells (R.drop k) := by
    clear hs h
    induction k generalizing R with
    | zero => simp
    | succ k ih =>
      cases R with
      | nil => simp at hk
      | cons x xs =>
        have := ih (R := xs) (by simpa using hk)
        rw [List.drop_succ_cons, ← this]
        rw [show (k + 1) * 3 = k * 3 + 1 + 1 + 1 by omega]
        rfl
  rw [e] at hs
  refine ⟨?_, fun r hr => h.vals r (List.mem_of_mem_drop hr)⟩
  rw [List.length_drop]
  exact hs
theorem Strs.sub {w : World} {xs : List ByteArray} {b off cap : Nat} (h : Strs w (.slice (some ⟨b, off, none⟩) xs.length cap) xs) {k : Nat} (hk : k < xs.length) :
    Strs w (.slice (some ⟨b, off + k, none⟩) 1 (cap - k)) [strAt xs k] := by
  obtain ⟨hb, c0⟩ := h.cells hk
  obtain ⟨_, _, e, hc, hm⟩ := h.shape
  injection e with _ _ e
  subst e
  refine ⟨rfl, _, cap - k, rfl, ?_, by omega, (fun e => by cases e), Or.inr ⟨b, off + k, rfl, hb, fun j u hj => ?_⟩⟩
  · show 1 ≤ cap - k
    omega
  · match j with
    | 0 => simp at hj; subst hj; exact c0
    | j + 1 => simp at hj
theorem Strs.take {w : World} {xs : List ByteArray} {p cap} (h : Strs w (.slice p xs.length cap) xs) {k : Nat} (hk : k ≤ xs.length) : Strs w (.slice p k cap) (xs.take k) := by
  have := Sl.take h hk
  rw [Nat.mul_one, ← List.map_take] at this
  show Sl w 1 _ (xs.take k).length _
  rw [List.length_take, Nat.min_eq_left hk]
  exact this

theorem run_slice_sub {P : Program} (t e : TypeId) (sz : Nat) (ht : P.underlying t = some (.slice e)) (hs : (P.info? e).map (·.size) = some sz) (g off n cap k m : Nat) (hk : k ≤ m) (hm : m ≤ cap) (hc : k < cap) (w : World) :
    (Instr.slice t (.slice (some ⟨g, off, none⟩) n cap) (some (.int .i64 (k : Int))) (some (.int .i64 (m : Int))) none).run P w = .ok (.slice (some ⟨g, off + k * sz, none⟩) (m - k) (cap - k)) w := by
  obtain ⟨i, hi, hsz⟩ : ∃ i, P.info? e = some i ∧ i.size = sz := by
    cases h : P.info? e with
    | none => simp [h] at hs
    | some i => exact ⟨i, rfl, by simpa [h] using hs⟩
  have hc' : cap ≠ k := by omega
  by_cases h0 : k * sz = 0 <;>
  simp [Instr.slice, Instr.sliceBounds, Instr.sliceBound, asIntOf, run_underlying ht, sizeOf, typeInfo, hi, hsz, Addr.add, h0, hc', hk, hm]

/-- P5.2: with its Not turned a term holds just of what it did not. -/
theorem holds_turned (p : List PairS) (k : ByteArray) (vs : List ByteArray) : holdsS p (k, true, vs) = !holdsS p (k, false, vs) := by
  unfold holdsS; simp only; cases (findB p k).2 && (vs.isEmpty || inB vs (findB p k).1) <;> rfl
/-- One of a few values: what one of them alone holds of. -/
theorem holds_some {p : List PairS} {k : ByteArray} {vs : List ByteArray} (h : vs ≠ []) : holdsS p (k, false, vs) = vs.any fun v => holdsS p (k, false, [v]) := by
  unfold holdsS
  simp only [List.isEmpty_cons, Bool.false_or, Bool.bne_false]
  rw [List.isEmpty_eq_false_iff.2 h, Bool.false_or]
  unfold inB
  cases (findB p k).2 with
  | false => simp
  | true => simp
theorem holds_none (p : List PairS) (k : ByteArray) : holdsS p (k, false, []) = (findB p k).2 := by unfold holdsS; simp
theorem holds_has {p : List PairS} {k : ByteArray} {vs : List ByteArray} (h : holdsS p (k, false, vs) = true) : (findB p k).2 = true := by
  unfold holdsS at h
  rw [Bool.bne_false, Bool.and_eq_true] at h
  exact h.1
theorem any_step {l : List ByteArray} (f : ByteArray → Bool) {k : Nat} (hk : k < l.length) : (l.take (k + 1)).any f = ((l.take k).any f || f (strAt l k)) := by
  rw [List.take_succ_eq_append_getElem hk, List.any_append]
  simp [strAt, hk]
end Go.Dm
