/- Chapter 5 in plain terms: what is right, put, shown, parsed, the same. No program in sight. -/
import Derived.Test.YtibimbcjnjefdaaSPure
import Derived.Test.YtibimbcjnjefdaaLPlain
namespace Go.Dm
open Go Go.RowKit

def bS (s : ByteArray) : Bs := s.data.toList
/-- May the value at a place stand there? -/
def okVal (vs : List ByteArray) (k : Nat) : Bool := rightL (bS (strAt vs k)) && (k == 0 || !leB (bS (strAt vs k)) (bS (strAt vs (k - 1))))
/-- P5.1: may a term be? -/
def rightT (t : TermS) : Bool := (List.range t.2.2.length).all (okVal t.2.2) && (rightL (bS t.1) && decide (t.2.2.length ≤ 4))
/-- P5.1: may a selector be? -/
def rightS (T : List TermS) : Bool := decide (T.length ≤ 4) && T.all rightT

theorem rightT_bad {t : TermS} {k : Nat} (hk : k < t.2.2.length) (h : okVal t.2.2 k = false) : rightT t = false := by
  unfold rightT
  rw [Bool.and_eq_false_iff]
  left
  rw [List.all_eq_false]
  exact ⟨k, List.mem_range.2 hk, by rw [h]; simp⟩
theorem rightT_all {t : TermS} (h : ∀ k, k < t.2.2.length → okVal t.2.2 k = true) : rightT t = (rightL (bS t.1) && decide (t.2.2.length ≤ 4)) := by
  unfold rightT
  rw [List.all_eq_true.2 (fun k hk => h k (List.mem_range.1 hk)), Bool.true_and]
theorem rightT_iff {t : TermS} : rightT t = true ↔ (∀ k, k < t.2.2.length → okVal t.2.2 k = true) ∧ rightL (bS t.1) = true ∧ t.2.2.length ≤ 4 := by
  unfold rightT
  rw [Bool.and_eq_true, Bool.and_eq_true, decide_eq_true_eq, List.all_eq_true]
  exact ⟨fun h => ⟨fun k hk => h.1 k (List.mem_range.2 hk), h.2⟩, fun h => ⟨fun k hk => h.1 k (List.mem_range.1 hk), h.2⟩⟩
theorem rightS_iff {T : List TermS} : rightS T = true ↔ T.length ≤ 4 ∧ ∀ t ∈ T, rightT t = true := by
  unfold rightS
  rw [Bool.and_eq_true, decide_eq_true_eq, List.all_eq_true]
theorem rightT_val {t : TermS} (h : rightT t = true) : ∀ x ∈ t.2.2, rightL (bS x) = true := by
  intro x hx
  obtain ⟨k, hk, rfl⟩ := List.getElem_of_mem hx
  have := (rightT_iff.1 h).1 k hk
  unfold okVal at this
  rw [Bool.and_eq_true] at this
  have e : strAt t.2.2 k = t.2.2[k] := by simp [strAt, hk]
  rw [e] at this
  exact this.1
theorem rightT_sizes {t : TermS} (h : rightT t = true) : t.1.size ≤ 32 ∧ t.2.2.length ≤ 4 ∧ ∀ x ∈ t.2.2, x.size ≤ 32 := by
  refine ⟨right_len (rightT_iff.1 h).2.1, (rightT_iff.1 h).2.2, fun x hx => right_len (rightT_val h x hx)⟩

/-- P5.3: a term, a selector as bytes. -/
def numT (t : TermS) : Nat := 2 * t.2.2.length + (if t.2.1 then 1 else 0)
def putVals (vs : List ByteArray) : Bs := vs.flatMap fun x => putT (bS x)
def putTm (t : TermS) : Bs := (putT (bS t.1) ++ putL (numT t)) ++ putVals t.2.2
def putTms (T : List TermS) : Bs := T.flatMap putTm
def putS (T : List TermS) : Bs := if rightS T then putL T.length ++ putTms T else []
/-- P5.4: a term, a selector as it is read. -/
def joinB (vs : List ByteArray) (c : UInt8) : Bs := Lib.join (vs.map (·.data.toList)) [c]
def textTm (t : TermS) : Bs := if t.2.2.isEmpty then (if t.2.1 then 33 :: bS t.1 else bS t.1) else if t.2.1 then bS t.1 ++ 33 :: 61 :: joinB t.2.2 124 else bS t.1 ++ 61 :: joinB t.2.2 124
def textS (T : List TermS) : Bs := if rightS T then (if T.isEmpty then [45] else Lib.join (T.map textTm) [44]) else [63]

theorem putVals_step {vs : List ByteArray} {k : Nat} (hk : k < vs.length) : putVals (vs.take (k + 1)) = putVals (vs.take k) ++ putT (bS (strAt vs k)) := by
  rw [List.take_succ_eq_append_getElem hk, putVals, List.flatMap_append]
  simp [putVals, strAt, hk]
theorem rowT_take {R : List RowS} {k : Nat} (hk : k < R.length) : (R.take (k + 1)).map rowT = (R.take k).map rowT ++ [rowT (sAtR R k)] := by
  rw [take_snocT hk, List.map_append]; rfl
theorem putTms_step {T : List TermS} {t : TermS} : putTms (T ++ [t]) = putTms T ++ putTm t := by simp [putTms]
end Go.Dm
