/- Texts one behind the other: Where the cutting of a text at a byte stands. No program in sight. -/
import Derived.Test.YthmhalcloogniaaGreatDoorB21
import Derived.Test.YthmhalcloogniaaGreatDoorWPure
namespace Go.Dm
open Go Go.RowKit

theorem byte_get {l : Bs} {i : Nat} (h : i < l.length) : bAt l i = (l[i]).toNat := by
  simp [bAt, List.getD_eq_getElem?_getD, h]
theorem drop_cut {l : Bs} {f i : Nat} (hf : f ≤ i) (hi : i < l.length) : l.drop f = (l.drop f).take (i - f) ++ l[i] :: l.drop (i + 1) := by
  have h1 := List.take_append_drop (i - f) (l.drop f)
  rw [List.drop_drop, show f + (i - f) = i by omega, List.drop_eq_getElem_cons hi] at h1
  exact h1.symm
theorem bytesOf_snoc {xs : List ByteArray} {x : ByteArray} : bytesOf (xs ++ [x]) = bytesOf xs ++ [x.data.toList] := by simp [bytesOf]
theorem bytesOf_len (xs : List ByteArray) : (bytesOf xs).length = xs.length := by simp [bytesOf]

/-- Where the cutting of a text at c stands: pieces behind it, the next one begun at f, looked through up to i. -/
def CS (c : UInt8) (l : Bs) (out : List Bs) (f i : Nat) : Prop :=
  i ≤ l.length + 1 ∧ (i ≤ l.length → f ≤ i ∧ c ∉ (l.drop f).take (i - f) ∧ splitC c l = out ++ splitC c (l.drop f)) ∧ (l.length < i → splitC c l = out)

theorem CS.start (c : UInt8) (l : Bs) : CS c l [] 0 0 := ⟨by omega, fun _ => ⟨by omega, by simp, by simp⟩, fun h => by omega⟩
theorem CS.on {c : UInt8} {l : Bs} {out : List Bs} {f i : Nat} (h : CS c l out f i) (hi : i < l.length) (hb : bAt l i ≠ c.toNat) : CS c l out f (i + 1) := by
  obtain ⟨_, h4, _⟩ := h
  obtain ⟨g1, g2, g3⟩ := h4 (by omega)
  refine ⟨by omega, fun _ => ⟨by omega, ?_, g3⟩, fun h => by omega⟩
  have hlt : i - f < (l.drop f).length := by rw [List.length_drop]; omega
  rw [show i + 1 - f = (i - f) + 1 by omega, List.take_succ_eq_append_getElem hlt, List.mem_append, List.mem_singleton]
  rintro (h | h)
  · exact g2 h
  · rw [List.getElem_drop] at h
    apply hb
    rw [byte_get hi]
    have : l[f + (i - f)] = l[i] := by congr 1; omega
    rw [← this, ← h]
theorem CS.next {c : UInt8} {l : Bs} {out : List Bs} {f i : Nat} (h : CS c l out f i) (hi : i = l.length ∨ (i < l.length ∧ bAt l i = c.toNat)) : CS c l (out ++ [(l.drop f).take (i - f)]) (i + 1) (i + 1) := by
  obtain ⟨_, h4, _⟩ := h
  rcases hi with rfl | ⟨hi, hb⟩
  · obtain ⟨g1, g2, g3⟩ := h4 (by omega)
    have he : (l.drop f).take (l.length - f) = l.drop f := List.take_of_length_le (by rw [List.length_drop]; omega)
    rw [he] at g2 ⊢
    exact ⟨by omega, fun h => by omega, fun _ => by rw [g3, splitC_none g2]⟩
  · obtain ⟨g1, g2, g3⟩ := h4 (by omega)
    have hc := drop_cut g1 hi
    have h47 : l[i] = c := UInt8.toNat_inj.1 (by rw [← byte_get hi, hb])
    rw [h47] at hc
    refine ⟨by omega, fun _ => ⟨by omega, by simp, ?_⟩, fun h => by omega⟩
    rw [g3, List.append_assoc]
    congr 1
    conv => lhs; rw [hc]
    exact splitC_at g2
theorem CS.done {c : UInt8} {l : Bs} {out : List Bs} {f i : Nat} (h : CS c l out f i) (hi : l.length < i) : splitC c l = out := h.2.2 hi
end Go.Dm
