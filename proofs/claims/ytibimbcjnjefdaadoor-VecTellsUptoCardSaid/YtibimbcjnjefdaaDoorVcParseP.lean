/- Chapter 3: what Parse finds in a text, in plain terms. -/
import Derived.Test.YtibimbcjnjefdaaDoorVcText
import Derived.Test.YtibimbcjnjefdaaDoorSplit
import Derived.Lib.ParseIntBCases
namespace Go.Dm
open Go Go.RowKit

theorem dec_digit {u : Nat} : ∀ b ∈ Lib.decDigits u, 48 ≤ b.toNat ∧ b.toNat ≤ 57 := by
  induction u using Nat.strongRecOn with
  | _ u ih =>
    intro b hb
    unfold Lib.decDigits at hb
    split at hb
    · rename_i h
      rw [List.mem_singleton.1 hb, UInt8.toNat_ofNat_of_lt' (by show 48 + u < 256; omega)]
      omega
    · rename_i h
      rcases List.mem_append.1 hb with hb | hb
      · exact ih (u / 10) (by omega) b hb
      · rw [List.mem_singleton.1 hb, UInt8.toNat_ofNat_of_lt' (by show 48 + u % 10 < 256; omega)]
        omega
theorem dec_no58 {u : Nat} : (58 : UInt8) ∉ Lib.decDigits u := fun h => by
  have := dec_digit _ h
  have e : (58 : UInt8).toNat = 58 := rfl
  omega
theorem dec_ne {u : Nat} : Lib.decDigits u ≠ [] := by
  unfold Lib.decDigits
  split
  · simp
  · simp
theorem parseM_snoc (M : Nat) (c : UInt8) : ∀ (l : Bs) (acc : Nat), Lib.parseUintM M acc (l ++ [c]) = match Lib.parseUintM M acc l with
    | .ok v => Lib.parseUintM M v [c]
    | .syntax => .syntax
    | .range => .range
  | [], acc => by simp [Lib.parseUintM]
  | x :: l, acc => by
    rw [List.cons_append]
    unfold Lib.parseUintM
    split
    · split
      · rfl
      · split
        · rfl
        · exact parseM_snoc M c l _
    · rfl
theorem parse_dec {u : Nat} (h : U64 u) : Lib.parseUintM 18446744073709551615 0 (Lib.decDigits u) = .ok u := by
  have h64 : u < 18446744073709551616 := h
  clear h
  induction u using Nat.strongRecOn with
  | _ u ih =>
    unfold Lib.decDigits
    split
    · rename_i h
      have e : (UInt8.ofNat (48 + u)).toNat = 48 + u := UInt8.toNat_ofNat_of_lt' (by show 48 + u < 256; omega)
      simp only [Lib.parseUintM, e]
      rw [if_pos (by omega), if_neg (by omega), if_neg (by omega)]
      congr 1
      omega
    · rename_i h
      have e : (UInt8.ofNat (48 + u % 10)).toNat = 48 + u % 10 := UInt8.toNat_ofNat_of_lt' (by show 48 + u % 10 < 256; omega)
      rw [parseM_snoc, ih (u / 10) (by omega) (by omega)]
      simp only [Lib.parseUintM, e]
      rw [if_pos (by omega), if_neg (by omega), if_neg (by omega)]
      congr 1
      omega
/-- The number of a piece. -/
def valP (p : Bs) : Nat := match Lib.parseUintB 64 p with
  | .ok u => u
  | .syntax => 0
  | .range => 18446744073709551615
theorem valP_dec {u : Nat} (h : U64 u) : valP (Lib.decDigits u) = u := by
  unfold valP Lib.parseUintB
  rw [if_neg dec_ne, show (2 ^ 64 - 1 : Nat) = 18446744073709551615 from rfl, parse_dec h]
theorem valP_u64 (p : Bs) : U64 (valP p) := by
  unfold valP U64
  cases h : Lib.parseUintB 64 p with
  | ok u =>
    unfold Lib.parseUintB at h
    split at h
    · cases h
    · have := Lib.parseUintM_le _ p 0 u (by omega) h
      show u < _
      omega
  | «syntax» => show 0 < _; omega
  | range => show 18446744073709551615 < _; omega
def pieceV (ps : List Bs) (k : Nat) : Nat := if k < ps.length then valP (ps.getD k []) else 0
def parseA (ps : List Bs) : Vc := [pieceV ps 0, pieceV ps 1, pieceV ps 2, pieceV ps 3]
theorem pieceV_u64 (ps : List Bs) (k : Nat) : U64 (pieceV ps k) := by
  unfold pieceV
  split
  · exact valP_u64 _
  · unfold U64; omega
theorem parseA_ok (ps : List Bs) : OkV (parseA ps) := okV_mk (pieceV_u64 _ _) (pieceV_u64 _ _) (pieceV_u64 _ _) (pieceV_u64 _ _)
/-- P3.3: the amount of a text. -/
def parseV (t : Bs) : Vc × Bool := if textV (parseA (splitC 58 t)) = t then (parseA (splitC 58 t), true) else (noV, false)
theorem splitC_text (a : Vc) : splitC 58 (textV a) = [Lib.decDigits (vG a 0), Lib.decDigits (vG a 1), Lib.decDigits (vG a 2), Lib.decDigits (vG a 3)] := by
  unfold textV
  refine splitC_join (by simp) fun p hp => ?_
  simp only [List.mem_cons, List.not_mem_nil, or_false] at hp
  rcases hp with rfl | rfl | rfl | rfl <;> exact dec_no58
theorem parseA_text {a : Vc} (h : OkV a) : parseA (splitC 58 (textV a)) = a := by
  rw [splitC_text]
  obtain ⟨x, y, z, u, rfl, hx, hy, hz, hu⟩ := h.ex
  show [valP (Lib.decDigits x), valP (Lib.decDigits y), valP (Lib.decDigits z), valP (Lib.decDigits u)] = _
  rw [valP_dec hx, valP_dec hy, valP_dec hz, valP_dec hu]
theorem parseV_text {a : Vc} (h : OkV a) : parseV (textV a) = (a, true) := by
  unfold parseV
  rw [parseA_text h, if_pos rfl]
theorem textV_inj {a b : Vc} (ha : OkV a) (hb : OkV b) (h : textV a = textV b) : a = b := by
  rw [← parseA_text ha, h, parseA_text hb]
theorem parseV_yes {t : Bs} {a : Vc} (h : parseV t = (a, true)) : textV a = t ∧ OkV a := by
  unfold parseV at h
  split at h
  · rename_i e
    simp at h
    rw [← h]
    exact ⟨e, parseA_ok _⟩
  · simp at h
theorem parseV_no {t : Bs} {a : Vc} (h : parseV t = (a, false)) : a = noV ∧ ∀ b, OkV b → textV b ≠ t := by
  unfold parseV at h
  split at h
  · simp at h
  · rename_i e
    simp at h
    refine ⟨h.symm, fun b hb he => e ?_⟩
    rw [← he, parseA_text hb]
end Go.Dm
