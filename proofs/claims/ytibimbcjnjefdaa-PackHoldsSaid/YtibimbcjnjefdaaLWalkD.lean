/- Chapter 4: the walk of the program's Parse. -/
import Derived.Test.YtibimbcjnjefdaaLWalkC
import Derived.Test.YtibimbcjnjefdaaSplit
import Derived.Test.YtibimbcjnjefdaaVars
import Derived.Laws.StructEq
namespace Go.Dm
open Go Go.RowKit

/-- A label of a text. -/
def readP (x : Bs) : PairL := ((cutC 61 x).1, (cutC 61 x).2.1)
/-- P4.2: the labels of a text. -/
def parsedLab (t : Bs) : List PairL := (splitC 44 t).map readP
def parseLab (t : Bs) : List PairL × Bool := if t = [45] then ([], true) else if rightLab (parsedLab t) = true then (parsedLab t, true) else ([], false)

theorem parseLab_none : parseLab [45] = ([], true) := rfl
theorem parseLab_bad {t : Bs} (h : t ≠ [45]) (hr : rightLab (parsedLab t) = false) : parseLab t = ([], false) := by
  unfold parseLab; rw [if_neg h, hr]; rfl
theorem parseLab_good {t : Bs} (h : t ≠ [45]) (hr : rightLab (parsedLab t) = true) : parseLab t = (parsedLab t, true) := by
  unfold parseLab; rw [if_neg h, hr]; rfl

def cutB (x : ByteArray) : PairS := (⟨(cutC 61 x.data.toList).1.toArray⟩, ⟨(cutC 61 x.data.toList).2.1.toArray⟩)
theorem cutB_bytes (x : ByteArray) : pL (cutB x) = readP x.data.toList := by simp [pL, cutB, readP]
theorem cutB_all (ss : List ByteArray) : labL (ss.map cutB) = (bytesOf ss).map readP := by
  simp only [labL, bytesOf, List.map_map]
  exact List.map_congr_left fun x _ => cutB_bytes x

theorem pairs_right_ne {l : List PairS} (h : rightLab (labL l) = true) : ∀ k, k < l.length → (pairAt l k).1 ≠ ⟨#[]⟩ := by
  intro k hk e
  have := (rightLab_iff.1 h).2 k (by rw [labL_len]; exact hk)
  unfold okLab at this
  simp only [Bool.and_eq_true] at this
  rw [labL_at l hk] at this
  have h1 := this.1
  rw [show (pL (pairAt l k)).1 = [] by unfold pL; rw [e], right_nil] at h1
  cases h1
end Go.Dm
namespace Go.Proofs.Ytibimbcjnjefdaa
open Go.RowKit Go.Dm

theorem Try.eq_pair (a b c d : ByteArray) (w : World) : (Op.equalIn 10000 57 (.agg #[.string a, .string b]) (.agg #[.string c, .string d])).run Try.prog w = .ok (a.toList == c.toList && b.toList == d.toList) w := by
  rw [show (10000 : Nat) = 9999 + 1 from rfl, run_equalIn_agg w 9999 57 _ _ (by kernel_rfl) (by kernel_rfl)]
  simp only [Program.fieldsOf, Try.underlying57]
  cases h1 : (a.toList == c.toList) <;> cases h2 : (b.toList == d.toList) <;>
  simp [Op.eqFields, go_sem, h1, h2]

end Go.Proofs.Ytibimbcjnjefdaa
