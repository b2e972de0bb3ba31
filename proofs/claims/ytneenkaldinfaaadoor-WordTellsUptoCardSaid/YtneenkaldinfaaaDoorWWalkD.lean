/- Chapter 2: the walk of the laws' made names. -/
import Derived.Test.YtneenkaldinfaaaDoorWWalkC
import Derived.Test.YtneenkaldinfaaaDoorNums
namespace Go.Dm
open Go Go.RowKit

/-- What names are made of. -/
def allB : List ByteArray := [⟨#[97]⟩, ⟨#[122]⟩, ⟨#[109]⟩, ⟨#[206, 177]⟩, ⟨#[207, 137]⟩, ⟨#[207, 130]⟩, ⟨#[208, 176]⟩, ⟨#[209, 143]⟩, ⟨#[208, 182]⟩, ⟨#[107]⟩, ⟨#[48]⟩, ⟨#[57]⟩, ⟨#[45]⟩, ⟨#[53]⟩]

/-- One of them, by a number. -/
def pieceL (z : Int) : Bs := (strAt allB (z.tmod 14).toNat).data.toList

/-- A name by bytes. -/
def madeL (zs : List Int) : Bs := 98 :: (zs.take 15).flatMap pieceL

theorem allB_len : ∀ k, (strAt allB k).size ≤ 2 := by
  intro k
  by_cases h : k < 14
  · have : ∀ k, k < 14 → (strAt allB k).size ≤ 2 := by decide
    exact this k h
  · have hd : strAt allB k = ByteArray.empty := by
      simp only [strAt, List.getD_eq_getElem?_getD]
      rw [List.getElem?_eq_none (by show 14 ≤ k; omega)]
      rfl
    rw [hd]
    decide

theorem pieces_len (zs : List Int) : (zs.flatMap pieceL).length ≤ 2 * zs.length := by
  induction zs with
  | nil => simp
  | cons z zs ih =>
    have := allB_len (z.tmod 14).toNat
    rw [size_len] at this
    simp only [List.flatMap_cons, List.length_append, List.length_cons, pieceL] at *
    omega

theorem madeL_len (zs : List Int) : (madeL zs).length ≤ 31 := by
  have := pieces_len (zs.take 15)
  simp only [madeL, List.length_cons]
  have : (zs.take 15).length ≤ 15 := by simp; omega
  omega

theorem madeL_step {zs : List Int} {k : Nat} (hk : k < zs.length) (h15 : k < 15) : madeL (zs.take (k + 1)) = madeL (zs.take k) ++ pieceL (numAt zs k) := by
  have e : zs.take (k + 1) = zs.take k ++ [numAt zs k] := by
    rw [List.take_succ_eq_append_getElem hk]
    simp [hk, numAt]
  have e1 : (zs.take (k + 1)).take 15 = zs.take (k + 1) := by rw [List.take_take]; congr 1; omega
  have e2 : (zs.take k).take 15 = zs.take k := by rw [List.take_take]; congr 1; omega
  unfold madeL
  rw [e1, e2, e, List.flatMap_append]
  simp

theorem madeL_take (zs : List Int) {k : Nat} (h : 15 ≤ k ∨ zs.length ≤ k) : madeL (zs.take k) = madeL zs := by
  unfold madeL
  rw [List.take_take]
  rcases h with h | h
  · rw [Nat.min_eq_left h]
  · by_cases h2 : 15 ≤ k
    · rw [Nat.min_eq_left h2]
    · rw [Nat.min_eq_right (by omega), List.take_of_length_le h, List.take_of_length_le (by omega)]

theorem data_append (a b : ByteArray) : (a ++ b).data.toList = a.data.toList ++ b.data.toList := by
  rw [ByteArray.data_append, Array.toList_append]
end Go.Dm
namespace Go.Proofs.YtneenkaldinfaaaDoor
open Go.RowKit Go.Dm

set_option maxHeartbeats 1000000 in
theorem made_w (zs : List Int) (v : Value) (w : World) (hz : ∀ z ∈ zs, 0 ≤ z ∧ z ≤ 255) (hm : zs.length ≤ maxLen) (hx : Nums w .u8 v zs) :
    Calls Tryd.prog 21 #[v] w fun e w' => ∃ r, e = .returned r ∧ (∃ s, r = .string s ∧ s.data.toList = madeL zs) ∧ Ext w w' := by
  unfold maxLen at hm
  obtain ⟨q, cap, rfl, hcap, hcm⟩ := hx.shape
  have hA := Sl.lit w 9 1 14 (allB.map Value.string).toArray rfl (by simp [maxLen])
  have hal : Ext w (w.alloc (.cells (allB.map Value.string).toArray 9)) := (Ext.refl w).alloc _
  go_enter Tryd.func21, Tryd.ntmps21
  go_wp2
  go_loopw [4, 5] (fun r i' wr => ∃ k : Nat, k ≤ zs.length ∧ k ≤ 15 ∧ i' = .int .i64 k ∧ Ext (w.alloc (.cells (allB.map Value.string).toArray 9)) wr ∧ ∃ s, r = .string s ∧ s.data.toList = madeL (zs.take k)) (fun _ i' _ => 15 - (intOf i').toNat)
  case atStart => exact ⟨0, by omega, by omega, rfl, Ext.refl _, ⟨#[98]⟩, rfl, rfl⟩
  case round =>
    obtain ⟨k, hk, h15, rfl, hb, s, rfl, hs⟩ := hrel
    by_cases hlt : k < zs.length
    · by_cases hl5 : k < 15
      · have hxr := hx.ext (hal.trans hb)
        obtain ⟨b, off, rfl, hbl, c0⟩ := hxr.at hlt
        have hzk : 0 ≤ numAt zs k ∧ numAt zs k ≤ 255 := hz _ (by simp [numAt, hlt])
        obtain ⟨j, hj, hjq⟩ : ∃ j : Nat, j < 14 ∧ (numAt zs k).tmod 14 = (j : Int) := by
          refine ⟨((numAt zs k).tmod 14).toNat, ?_, ?_⟩
          · have := Int.tmod_lt_of_pos (numAt zs k) (show (0 : Int) < 14 by omega)
            omega
          · have := Int.tmod_nonneg 14 hzk.1
            omega
        have hp : pieceL (numAt zs k) = (strAt allB j).data.toList := by rw [pieceL, hjq]; rfl
        have hAr : Strs wr (.slice (some ⟨w.heap.size, 0, none⟩) 14 14) allB := Sl.ext hA hb
        obtain ⟨hAl, hAc⟩ := hAr.cells (k := j) hj
        rw [Nat.zero_add] at hAc
        have hsz : s.size ≤ 31 := by rw [size_len, hs]; exact madeL_len _
        have hpz := allB_len j
        have hst := Lib.hid (show (s ++ strAt allB j).data.toList = madeL (zs.take (k + 1)) by rw [data_append, hs, madeL_step hlt hl5, hp])
        clear hp
        generalize strAt allB j = t at *
        go_wp2
        go_roundw
        case rel => exact ⟨k + 1, by omega, by omega, by go_num, hb, _, rfl, hst.out⟩
        case measure => simp [intOf]; omega
      · go_wp2
        go_ret
        exact ⟨_, rfl, ⟨s, rfl, by rw [hs]; exact madeL_take zs (Or.inl (by omega))⟩, hal.trans hb⟩
    · go_wp2
      go_ret
      exact ⟨_, rfl, ⟨s, rfl, by rw [hs]; exact madeL_take zs (Or.inr (by omega))⟩, hal.trans hb⟩

end Go.Proofs.YtneenkaldinfaaaDoor
