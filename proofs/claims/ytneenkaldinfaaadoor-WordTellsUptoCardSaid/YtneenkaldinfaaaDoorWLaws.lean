/- Chapter 2, the plain laws: names that are made, runes counted. No program in sight. -/
import Derived.Test.YtneenkaldinfaaaDoorWWalkD
namespace Go.Dm
open Go Go.RowKit

/-- One rune that may stand in a name behind its beginning. -/
structure Piece (p : Bs) : Prop where
  ne : p ≠ []
  wide : ∀ rest, wideL (p ++ rest) = p.length
  ok : ∀ rest, (letterB (runeL (p ++ rest)) || markB (runeL (p ++ rest))) = true

theorem bAt_zero (a : UInt8) (l : Bs) : bAt (a :: l) 0 = a.toNat := rfl
theorem bAt_one (a b : UInt8) (l : Bs) : bAt (a :: b :: l) 1 = b.toNat := rfl

theorem decL_one {a : UInt8} (l : Bs) (h : a.toNat < 128) : decL (a :: l) = (a.toNat, 1) := by
  unfold decL
  rw [bAt_zero, if_pos h]

theorem decL_two {a b : UInt8} (l : Bs) (ha : a.toNat / 32 = 6) (hb : b.toNat / 64 = 2) (hc : 128 ≤ a.toNat % 32 * 64 + b.toNat % 64) : decL (a :: b :: l) = (a.toNat % 32 * 64 + b.toNat % 64, 2) := by
  have h1 : contB (a :: b :: l) 1 = true := by simp [contB, bAt_one, hb]
  unfold decL
  rw [bAt_zero, bAt_one, if_neg (by omega), h1, ha, if_pos (by decide), if_pos (by omega)]

theorem piece_one {a : UInt8} (h : a.toNat < 128) (hk : (letterB a.toNat || markB a.toNat) = true) : Piece [a] := by
  refine ⟨by simp, fun rest => ?_, fun rest => ?_⟩
  · show (decL (a :: rest)).2 = 1
    rw [decL_one rest h]
  · show (letterB (decL (a :: rest)).1 || markB (decL (a :: rest)).1) = true
    rw [decL_one rest h]
    exact hk

theorem piece_two {a b : UInt8} (ha : a.toNat / 32 = 6) (hb : b.toNat / 64 = 2) (hc : 128 ≤ a.toNat % 32 * 64 + b.toNat % 64) (hk : (letterB (a.toNat % 32 * 64 + b.toNat % 64) || markB (a.toNat % 32 * 64 + b.toNat % 64)) = true) : Piece [a, b] := by
  refine ⟨by simp, fun rest => ?_, fun rest => ?_⟩
  · show (decL (a :: b :: rest)).2 = 2
    rw [decL_two rest ha hb hc]
  · show (letterB (decL (a :: b :: rest)).1 || markB (decL (a :: b :: rest)).1) = true
    rw [decL_two rest ha hb hc]
    exact hk

theorem piece_all : ∀ j, j < 14 → Piece (strAt allB j).data.toList
  | 0, _ => piece_one (by decide) (by decide)
  | 1, _ => piece_one (by decide) (by decide)
  | 2, _ => piece_one (by decide) (by decide)
  | 3, _ => piece_two (by decide) (by decide) (by decide) (by decide)
  | 4, _ => piece_two (by decide) (by decide) (by decide) (by decide)
  | 5, _ => piece_two (by decide) (by decide) (by decide) (by decide)
  | 6, _ => piece_two (by decide) (by decide) (by decide) (by decide)
  | 7, _ => piece_two (by decide) (by decide) (by decide) (by decide)
  | 8, _ => piece_two (by decide) (by decide) (by decide) (by decide)
  | 9, _ => piece_one (by decide) (by decide)
  | 10, _ => piece_one (by decide) (by decide)
  | 11, _ => piece_one (by decide) (by decide)
  | 12, _ => piece_one (by decide) (by decide)
  | 13, _ => piece_one (by decide) (by decide)
  | j + 14, h => by omega

theorem pieceL_ok {z : Int} (h : 0 ≤ z) : Piece (pieceL z) := by
  have h1 := Int.tmod_lt_of_pos z (show (0 : Int) < 14 by omega)
  have h2 := Int.tmod_nonneg 14 h
  exact piece_all _ (by omega)

theorem app_ne {p rest : Bs} (h : p ≠ []) : p ++ rest ≠ [] := by simp [h]

theorem Piece.count {p : Bs} (h : Piece p) (rest : Bs) : countL (p ++ rest) = 1 + countL rest := by
  rw [countL_step (app_ne h.ne), h.wide, List.drop_left]

theorem Piece.okay {p : Bs} (h : Piece p) (rest : Bs) : okL false (p ++ rest) = okL false rest := by
  rw [okL_step _ (app_ne h.ne), h.wide, List.drop_left]
  have := h.ok rest
  simp only [Bool.not_false, Bool.true_and, this]

theorem pieces_ok : ∀ (zs : List Int) (rest : Bs), (∀ z ∈ zs, 0 ≤ z) → okL false (zs.flatMap pieceL ++ rest) = okL false rest ∧ countL (zs.flatMap pieceL ++ rest) = zs.length + countL rest
  | [], rest, _ => by simp
  | z :: zs, rest, h => by
    have hp := pieceL_ok (h z (by simp))
    have ih := pieces_ok zs rest (fun x hx => h x (List.mem_cons_of_mem _ hx))
    rw [List.flatMap_cons, List.append_assoc, hp.okay, hp.count, ih.1, ih.2]
    refine ⟨rfl, ?_⟩
    simp only [List.length_cons]; omega

theorem letter_step {a : UInt8} (rest : Bs) (h : a.toNat < 128) (b : Bool) : okL b (a :: rest) = ((letterB a.toNat || (!b && markB a.toNat)) && okL false rest) ∧ countL (a :: rest) = 1 + countL rest := by
  have hw : wideL (a :: rest) = 1 := by unfold wideL; rw [decL_one rest h]
  have hr : runeL (a :: rest) = a.toNat := by unfold runeL; rw [decL_one rest h]
  constructor
  · rw [okL_step b (by simp), hw, hr]; rfl
  · rw [countL_step (by simp), hw]; rfl

/-- How many runes a made name has. -/
def madeN (zs : List Int) : Nat := 1 + min zs.length 15

theorem made_ok (zs : List Int) (rest : Bs) (h : ∀ z ∈ zs, 0 ≤ z) : okL true (madeL zs ++ rest) = okL false rest ∧ countL (madeL zs ++ rest) = madeN zs + countL rest := by
  have hp := pieces_ok (zs.take 15) rest (fun z hz => h z (List.mem_of_mem_take hz))
  have hs := letter_step (a := 98) ((zs.take 15).flatMap pieceL ++ rest) (by decide) true
  unfold madeL madeN
  rw [List.cons_append, hs.1, hs.2, hp.1, hp.2]
  refine ⟨by rfl, ?_⟩
  rw [List.length_take]; omega

theorem made_ne (zs : List Int) : madeL zs ≠ [] := by simp [madeL]

theorem made_right (zs : List Int) (h : ∀ z ∈ zs, 0 ≤ z) : rightL (madeL zs) = true ∧ countL (madeL zs) = madeN zs := by
  have := made_ok zs [] h
  rw [List.append_nil] at this
  have hn : madeN zs ≤ 16 := by unfold madeN; omega
  refine ⟨?_, by rw [this.2]; simp [countL_nil]⟩
  unfold rightL
  rw [this.1, this.2]
  simp [okL_nil, countL_nil, hn, made_ne]

/-- With a rune behind it that may stand in no name it is none. -/
theorem made_bad (zs : List Int) (h : ∀ z ∈ zs, 0 ≤ z) {rest : Bs} (hr : okL false rest = false) : rightL (madeL zs ++ rest) = false := by
  unfold rightL
  rw [(made_ok zs rest h).1, hr]
  rfl

theorem made_z (zs : List Int) (h : ∀ z ∈ zs, 0 ≤ z) : rightL (madeL zs ++ [122]) = decide (madeN zs < 16) := by
  have hm := made_ok zs [122] h
  have h1 : okL false [122] = true := by decide
  have h2 : countL [122] = 1 := by decide
  unfold rightL
  have he : (madeL zs ++ [122]).isEmpty = false := by simp
  rw [hm.1, hm.2, h1, h2, he]
  show decide (madeN zs + 1 ≤ 16) = _
  exact decide_eq_decide.2 (by omega)

/-- With a digit or a dash ahead it is none. -/
theorem ahead_bad {a : UInt8} (l : Bs) (h : a.toNat < 128) (hl : letterB a.toNat = false) : rightL (a :: l) = false := by
  unfold rightL
  rw [(letter_step l h true).1, hl]
  rfl

end Go.Dm
