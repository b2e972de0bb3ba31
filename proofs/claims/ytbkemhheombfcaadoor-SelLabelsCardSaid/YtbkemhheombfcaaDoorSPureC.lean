/- Chapter 5 in plain terms: the terms of a text. No program in sight. -/
import Derived.Test.YtbkemhheombfcaaDoorSPureB
namespace Go.Dm
open Go Go.RowKit

/-- P5.4: a term of a text. -/
def termL (x : Bs) : Bs × Bool × List Bs :=
  if x.head? = some 33 then (x.drop 1, true, [])
  else if (cutC 61 x).2.2 = false then (x, false, [])
  else if (cutC 61 x).1.getLast? = some 33 then ((cutC 61 x).1.dropLast, true, splitC 124 (cutC 61 x).2.1)
  else ((cutC 61 x).1, false, splitC 124 (cutC 61 x).2.1)
def mkT (t : Bs × Bool × List Bs) : TermS := (⟨t.1.toArray⟩, t.2.1, t.2.2.map fun x => ⟨x.toArray⟩)
/-- P5.4: the terms of a text, a selector of a text. -/
def termsL (t : Bs) : List TermS := (splitC 44 t).map fun x => mkT (termL x)
def parseS (t : Bs) : List TermS × Bool := if t = [45] then ([], true) else if rightS (termsL t) = true ∧ textS (termsL t) = t then (termsL t, true) else ([], false)

theorem parseS_none : parseS [45] = ([], true) := rfl
theorem parseS_bad {t : Bs} (h : t ≠ [45]) (hr : rightS (termsL t) = false) : parseS t = ([], false) := by
  unfold parseS; rw [if_neg h, hr, if_neg (by simp)]
theorem parseS_other {t : Bs} (h : t ≠ [45]) (hr : textS (termsL t) ≠ t) : parseS t = ([], false) := by
  unfold parseS; rw [if_neg h, if_neg (fun h' => hr h'.2)]
theorem parseS_good {t : Bs} (h : t ≠ [45]) (hr : rightS (termsL t) = true) (ht : textS (termsL t) = t) : parseS t = (termsL t, true) := by
  unfold parseS; rw [if_neg h, if_pos ⟨hr, ht⟩]

def pre33 (x : ByteArray) : Bool := x.data.toList.head? == some 33
def suf33 (x : ByteArray) : Bool := x.data.toList.getLast? == some 33
theorem pre33_short {x : ByteArray} (h : x.size = 0) : pre33 x = false := by
  rw [size_len] at h
  unfold pre33
  rw [List.length_eq_zero_iff.1 h]; rfl
theorem suf33_short {x : ByteArray} (h : x.size = 0) : suf33 x = false := by
  rw [size_len] at h
  unfold suf33
  rw [List.length_eq_zero_iff.1 h]; rfl
theorem pre33_at {x : ByteArray} (h : 1 ≤ x.size) : ((x.extract 0 1).toList == [33]) = pre33 x := by
  rw [size_len] at h
  rw [ByteArray.toList_eq, Lib.extract_data]
  unfold pre33
  cases hx : x.data.toList with
  | nil => rw [hx] at h; simp at h
  | cons a l => simp
theorem suf33_at {x : ByteArray} (h : 1 ≤ x.size) : ((x.extract (x.size - 1) x.size).toList == [33]) = suf33 x := by
  rw [ByteArray.toList_eq, Lib.extract_data]
  rw [size_len] at *
  unfold suf33
  obtain ⟨l, a, e⟩ : ∃ l a, x.data.toList = l ++ [a] := ⟨_, _, (List.dropLast_concat_getLast (l := x.data.toList) (fun e => by rw [e] at h; simp at h)).symm⟩
  rw [e]
  simp
theorem mk_drop {x : ByteArray} : x.extract 1 x.size = ⟨(x.data.toList.drop 1).toArray⟩ := by
  refine mk_bytes ?_
  rw [Lib.extract_to_end]
theorem mk_dropLast {x : ByteArray} : x.extract 0 (x.size - 1) = ⟨x.data.toList.dropLast.toArray⟩ := by
  refine mk_bytes ?_
  rw [Lib.extract_data, size_len, List.dropLast_eq_take]
  rfl
theorem termL_pre {x : ByteArray} (h : pre33 x = true) : mkT (termL x.data.toList) = (⟨(x.data.toList.drop 1).toArray⟩, true, []) := by
  unfold termL
  rw [if_pos (by simpa [pre33] using h)]; rfl
theorem termL_bare {x : ByteArray} (h : pre33 x = false) (hc : (cutC 61 x.data.toList).2.2 = false) : mkT (termL x.data.toList) = (x, false, []) := by
  unfold termL
  rw [if_neg (by simpa [pre33] using h), if_pos hc]
  show ((⟨x.data.toList.toArray⟩ : ByteArray), false, ([] : List ByteArray)) = _
  rw [Array.toArray_toList]
theorem termL_vals {x k : ByteArray} {vs : List ByteArray} (h : pre33 x = false) (hc : (cutC 61 x.data.toList).2.2 = true) (hk : k.data.toList = (cutC 61 x.data.toList).1) (hv : bytesOf vs = splitC 124 (cutC 61 x.data.toList).2.1) :
    mkT (termL x.data.toList) = (if suf33 k then ⟨k.data.toList.dropLast.toArray⟩ else k, suf33 k, vs) := by
  have hvs : (splitC 124 (cutC 61 x.data.toList).2.1).map (fun x => (⟨x.toArray⟩ : ByteArray)) = vs := by
    rw [← hv, bytesOf, List.map_map]
    conv => rhs; rw [← List.map_id vs]
    exact List.map_congr_left fun y _ => by show (⟨y.data.toList.toArray⟩ : ByteArray) = y; rw [Array.toArray_toList]
  unfold termL
  rw [if_neg (by simpa [pre33] using h), if_neg (by rw [hc]; simp), ← hk]
  cases hs : suf33 k with
  | true =>
    rw [if_pos (by simpa [suf33] using hs), if_pos rfl]
    simp only [mkT, hvs]
  | false =>
    rw [if_neg (by simpa [suf33] using hs), if_neg (by simp)]
    simp only [mkT, hvs]
theorem bytesOf_size {vs : List ByteArray} {c : UInt8} {x : ByteArray} (h : bytesOf vs = splitC c x.data.toList) : ∀ v ∈ vs, v.size ≤ x.size := by
  intro v hv
  rw [size_len, size_len]
  refine mem_splitC_len (c := c) ?_
  rw [← h]
  exact List.mem_map_of_mem hv
end Go.Dm
