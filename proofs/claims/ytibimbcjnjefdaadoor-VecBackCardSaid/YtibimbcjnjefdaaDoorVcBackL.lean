/- Chapter 3: the plain laws of what is put, got, shown, parsed. No program in sight. -/
import Derived.Test.YtibimbcjnjefdaaDoorVcPut
import Derived.Test.YtibimbcjnjefdaaDoorVcParseP
import Derived.Test.YtibimbcjnjefdaaDoorVcLaws
namespace Go.Dm
open Go Go.RowKit

theorem getI_at (A R : Bs) {u : Nat} (hu : U64 u) : getI (A ++ (putL u ++ R)) (A.length : Int) = (u, (A.length : Int) + ((putL u).length : Int), true) := by
  have hp := putL_pos u
  rw [getI_in (by simp only [List.length_append]; omega), List.drop_left, getL_put hu]
theorem getV_put {a : Vc} (ha : OkV a) (A R : Bs) : getV (A ++ (putV a ++ R)) (A.length : Int) = (a, (A.length : Int) + ((putV a).length : Int), true) := by
  obtain ⟨x, y, z, u, rfl, hx, hy, hz, hu⟩ := ha.ex
  have e : putV [x, y, z, u] = putL x ++ (putL y ++ (putL z ++ putL u)) := by simp [putV, vG]
  have e1 := getI_at A (putL y ++ (putL z ++ (putL u ++ R))) hx
  have e2 := getI_at (A ++ putL x) (putL z ++ (putL u ++ R)) hy
  have e3 := getI_at (A ++ (putL x ++ putL y)) (putL u ++ R) hz
  have e4 := getI_at (A ++ (putL x ++ (putL y ++ putL z))) R hu
  simp only [List.append_assoc, List.length_append, Int.natCast_add] at e1 e2 e3 e4
  have hl : (((putV [x, y, z, u]).length : Nat) : Int) = (putL x).length + ((putL y).length + ((putL z).length + (putL u).length)) := by rw [e]; simp only [List.length_append, Int.natCast_add]
  rw [hl, e]
  simp only [List.append_assoc]
  generalize A ++ (putL x ++ (putL y ++ (putL z ++ (putL u ++ R)))) = l at *
  have f1 : getVF l A.length 1 = some ([x], (A.length : Int) + ((putL x).length : Int)) := by
    show (match getVF l A.length 0 with | none => none | some (ns, q) => if (getI l q).2.2 then some (ns ++ [(getI l q).1], (getI l q).2.1) else none) = _
    simp [getVF, e1]
  have f2 : getVF l A.length 2 = some ([x, y], (A.length : Int) + ((putL x).length + (putL y).length)) := by
    show (match getVF l A.length 1 with | none => none | some (ns, q) => if (getI l q).2.2 then some (ns ++ [(getI l q).1], (getI l q).2.1) else none) = _
    rw [f1]; simp [e2]; omega
  have f3 : getVF l A.length 3 = some ([x, y, z], (A.length : Int) + ((putL x).length + ((putL y).length + (putL z).length))) := by
    show (match getVF l A.length 2 with | none => none | some (ns, q) => if (getI l q).2.2 then some (ns ++ [(getI l q).1], (getI l q).2.1) else none) = _
    rw [f2]; simp [e3]; omega
  have f4 : getVF l A.length 4 = some ([x, y, z, u], (A.length : Int) + ((putL x).length + ((putL y).length + ((putL z).length + (putL u).length)))) := by
    show (match getVF l A.length 3 with | none => none | some (ns, q) => if (getI l q).2.2 then some (ns ++ [(getI l q).1], (getI l q).2.1) else none) = _
    rw [f3]; simp [e4]; omega
  unfold getV
  rw [f4]
theorem putV_len {a : Vc} (h : OkV a) : (putV a).length ≤ 40 := by rw [← putVF_four]; exact putVF_len h 4
theorem putV_inj {a b : Vc} (ha : OkV a) (hb : OkV b) (h : putV a = putV b) : a = b := by
  have h1 := getV_put ha [] []
  have h2 := getV_put hb [] []
  rw [h, h2] at h1
  injection h1 with h1
  exact h1.symm
theorem parseV_long {a : Vc} : parseV (textV a ++ [58, 48]) = (noV, false) := by
  have e : textV a ++ [58, 48] = Lib.join [Lib.decDigits (vG a 0), Lib.decDigits (vG a 1), Lib.decDigits (vG a 2), Lib.decDigits (vG a 3), [48]] [58] := by
    simp [textV, Lib.join]
  have h5 : (splitC 58 (textV a ++ [58, 48])).length = 5 := by
    rw [e, splitC_join (by simp)]
    · rfl
    · intro p hp
      simp only [List.mem_cons, List.not_mem_nil, or_false] at hp
      rcases hp with rfl | rfl | rfl | rfl | rfl
      · exact dec_no58
      · exact dec_no58
      · exact dec_no58
      · exact dec_no58
      · decide
  cases h : parseV (textV a ++ [58, 48]) with
  | mk x ok =>
    cases ok with
    | false => rw [(parseV_no h).1]
    | true =>
      have := (parseV_yes h).1
      rw [← this, splitC_text] at h5
      cases h5
end Go.Dm
