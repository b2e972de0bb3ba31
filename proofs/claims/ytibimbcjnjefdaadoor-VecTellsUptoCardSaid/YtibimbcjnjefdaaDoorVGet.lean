/- Chapter 1 in plain terms: the number that stands at a place. No program in sight. -/
import Derived.Test.YtibimbcjnjefdaaDoorVPure
import Derived.Test.YtibimbcjnjefdaaDoorFirst
import Derived.Laws.Bits64b
import Derived.Laws.BitsAllLaws
namespace Go.Dm
open Go Go.RowKit

/-- The number of the first k bytes. -/
def scanV (l : Bs) : Nat → Nat
  | 0 => 0
  | k + 1 => scanV l k + (bAt l k % 128) * 128 ^ k

theorem scanV_lt (l : Bs) : ∀ k, scanV l k < 128 ^ k
  | 0 => by simp [scanV]
  | k + 1 => by
    have ih := scanV_lt l k
    have : (bAt l k % 128) * 128 ^ k ≤ 127 * 128 ^ k := Nat.mul_le_mul_right _ (by omega)
    rw [scanV, Nat.pow_succ]
    omega

/-- Where the number that stands first ends. -/
def endsAt (l : Bs) (k : Nat) : Bool := decide (bAt l k < 128)

/-- The number that stands first, and how many bytes it has. -/
def getL (l : Bs) : Option (Nat × Nat) :=
  match firstP (endsAt l) (List.range (min 10 l.length)) with
  | some k => if putL (scanV l (k + 1) % 18446744073709551616) = l.take (k + 1) then some (scanV l (k + 1) % 18446744073709551616, k + 1) else none
  | none => none

theorem range_getD {n k : Nat} (h : k < n) : (List.range n).getD k 0 = k := by simp [h]

/-- The bytes of a number, one by one. -/
theorem putL_shape : ∀ (n u : Nat), (putL u).length = n + 1 → (∀ j, j < n → 128 ≤ bAt (putL u) j) ∧ bAt (putL u) n < 128 ∧ scanV (putL u) (n + 1) = u
  | 0, u, h => by
    have hs : u < 128 := by
      apply Decidable.byContradiction
      intro hb
      rw [putL_big (by omega)] at h
      have := putL_pos (u / 128)
      rw [List.length_cons] at h; omega
    have hb : bAt (putL u) 0 = u := by rw [putL_small hs]; show (UInt8.ofNat u).toNat = u; rw [UInt8.toNat_ofNat_of_lt' (by show u < 256; omega)]
    refine ⟨fun j hj => by omega, by omega, ?_⟩
    simp only [scanV, hb]; omega
  | n + 1, u, h => by
    have hs : 128 ≤ u := by
      apply Decidable.byContradiction
      intro hb
      rw [putL_small (by omega)] at h
      simp at h
    rw [putL_big hs] at h ⊢
    have hl : (putL (u / 128)).length = n + 1 := by simpa using h
    obtain ⟨h1, h2, h3⟩ := putL_shape n (u / 128) hl
    have h0 : bAt (UInt8.ofNat (u % 128 + 128) :: putL (u / 128)) 0 = u % 128 + 128 := by
      show (UInt8.ofNat (u % 128 + 128)).toNat = _
      rw [UInt8.toNat_ofNat_of_lt' (by show u % 128 + 128 < 256; omega)]
    have hS : ∀ k, bAt (UInt8.ofNat (u % 128 + 128) :: putL (u / 128)) (k + 1) = bAt (putL (u / 128)) k := fun k => rfl
    refine ⟨fun j hj => ?_, by rw [hS]; exact h2, ?_⟩
    · cases j with
      | zero => rw [h0]; omega
      | succ j => rw [hS]; exact h1 j (by omega)
    · have key : ∀ k, scanV (UInt8.ofNat (u % 128 + 128) :: putL (u / 128)) (k + 1) = u % 128 + 128 * scanV (putL (u / 128)) k := by
        intro k
        induction k with
        | zero => simp only [scanV, h0]; omega
        | succ k ih =>
          rw [scanV, ih, hS, scanV, Nat.mul_add, Nat.pow_succ]
          have : (bAt (putL (u / 128)) k % 128) * (128 ^ k * 128) = 128 * ((bAt (putL (u / 128)) k % 128) * 128 ^ k) := by
            rw [← Nat.mul_assoc, Nat.mul_comm]
          omega
      rw [key, h3]; omega

theorem scanV_take (l : Bs) (n : Nat) : ∀ k, k ≤ n → scanV (l.take n) k = scanV l k
  | 0, _ => rfl
  | k + 1, h => by
    rw [scanV, scanV, scanV_take l n k (by omega)]
    have : bAt (l.take n) k = bAt l k := by simp [bAt, List.getD_eq_getElem?_getD, show k < n by omega]
    rw [this]

theorem bAt_take' (l : Bs) {n k : Nat} (h : k < n) : bAt (l.take n) k = bAt l k := by
  simp [bAt, List.getD_eq_getElem?_getD, h]

/-- What is got is what was put, and the other way round. -/
theorem getL_iff {l : Bs} {u n : Nat} : getL l = some (u, n) ↔ U64 u ∧ n = (putL u).length ∧ putL u = l.take n ∧ n ≤ l.length := by
  constructor
  · intro h
    unfold getL at h
    cases hf : firstP (endsAt l) (List.range (min 10 l.length)) with
    | none => rw [hf] at h; cases h
    | some k =>
      rw [hf] at h
      simp only at h
      split at h
      · rename_i hp
        injection h with h
        injection h with h1 h2
        obtain ⟨hk, _, _⟩ := firstP_some 0 hf
        rw [List.length_range] at hk
        subst h1 h2
        have hlen : (l.take (k + 1)).length = k + 1 := by rw [List.length_take]; omega
        exact ⟨Nat.mod_lt _ (by decide), by rw [hp, hlen], hp, by omega⟩
      · cases h
  · rintro ⟨hu, rfl, hp, hl⟩
    obtain ⟨n, hn⟩ : ∃ n, (putL u).length = n + 1 := ⟨(putL u).length - 1, by have := putL_pos u; omega⟩
    obtain ⟨h1, h2, h3⟩ := putL_shape n u hn
    have h10 := putL_ten hu
    rw [hn] at hp hl h10
    have hat : ∀ j, j < n + 1 → bAt (putL u) j = bAt l j := fun j hj => by rw [hp, bAt_take' l hj]
    have hf : firstP (endsAt l) (List.range (min 10 l.length)) = some n := by
      refine firstP_hit 0 (by rw [List.length_range]; omega) (fun j hj => ?_) ?_
      · rw [range_getD (by omega)]
        have := h1 j hj
        rw [hat j (by omega)] at this
        simp only [endsAt, decide_eq_false_iff_not]; omega
      · rw [range_getD (by omega)]
        rw [hat n (by omega)] at h2
        simp only [endsAt, decide_eq_true_eq]; exact h2
    have hs : scanV l (n + 1) = u := by
      rw [← scanV_take l (n + 1) (n + 1) (Nat.le_refl _), ← hp]; exact h3
    have hm : u % 18446744073709551616 = u := Nat.mod_eq_of_lt hu
    unfold getL
    rw [hf]
    simp only
    rw [hs, hm, if_pos hp, hn]

theorem getL_put {u : Nat} (hu : U64 u) (rest : Bs) : getL (putL u ++ rest) = some (u, (putL u).length) :=
  getL_iff.2 ⟨hu, rfl, by rw [List.take_left], by simp⟩

theorem putL_inj {u v : Nat} (hu : U64 u) (hv : U64 v) (h : putL u = putL v) : u = v := by
  have h1 := getL_put hu []
  rw [h, getL_put hv []] at h1
  injection h1 with h1
  injection h1 with h1 _
  exact h1.symm

theorem getL_len {l : Bs} {u n : Nat} (h : getL l = some (u, n)) : 1 ≤ n ∧ n ≤ l.length ∧ n ≤ 10 ∧ U64 u := by
  obtain ⟨h1, h2, _, h4⟩ := getL_iff.1 h
  have := putL_pos u
  have := putL_ten h1
  exact ⟨by omega, h4, by omega, h1⟩

/-- The number that stands at a place: its value, the place behind it, whether there is one. -/
def getI (l : Bs) (at' : Int) : Nat × Int × Bool :=
  if at' < 0 ∨ (l.length : Int) ≤ at' then (0, 0, false) else
    match getL (l.drop at'.toNat) with
    | some (u, n) => (u, at' + n, true)
    | none => (0, 0, false)

theorem getI_out {l : Bs} {at' : Int} (h : at' < 0 ∨ (l.length : Int) ≤ at') : getI l at' = (0, 0, false) := by
  unfold getI; rw [if_pos h]
theorem getI_in {l : Bs} {k : Nat} (h : k < l.length) : getI l k = match getL (l.drop k) with | some (u, n) => (u, (k : Int) + n, true) | none => (0, 0, false) := by
  unfold getI
  rw [if_neg (by omega)]
  rfl

/-- A byte without its highest bit. -/
theorem low7 {b : Nat} (h : b < 256) : Go.bits .andNot .u8 (b : Int) 128 = ((b % 128 : Nat) : Int) := by
  have := u8_andNot_nat b 128 h (by omega)
  rw [show ((128 : Nat) : Int) = 128 from rfl] at this
  rw [this]
  congr 1
  exact Nat.and_two_pow_sub_one_eq_mod b 7

theorem pow7 (j : Nat) : (2 : Nat) ^ (7 * j) = 128 ^ j := by rw [Nat.pow_mul]

/-- One more byte is put to the number. -/
theorem scan_step (l : Bs) {j : Nat} (hb : bAt l j < 256) :
    Go.bits .or .u64 ((scanV l j % 18446744073709551616 : Nat) : Int) (IntKind.u64.wrap (IntKind.u64.wrap (Go.bits .andNot .u8 (bAt l j : Int) 128) * 2 ^ (7 * j))) = ((scanV l (j + 1) % 18446744073709551616 : Nat) : Int) := by
  have hw : ∀ n : Nat, IntKind.u64.wrap (n : Int) = ((n % 18446744073709551616 : Nat) : Int) := by
    intro n
    simp only [IntKind.wrap, IntKind.bits, IntKind.signed]
    simp
  rw [low7 hb, hw, Nat.mod_eq_of_lt (show bAt l j % 128 < 18446744073709551616 by omega)]
  rw [show (((bAt l j % 128 : Nat) : Int) * 2 ^ (7 * j)) = ((bAt l j % 128 * 2 ^ (7 * j) : Nat) : Int) by push_cast; rfl, hw]
  rw [bits_or_u64_nat _ _ (Nat.mod_lt _ (by decide)) (Nat.mod_lt _ (by decide))]
  congr 1
  have h1 : scanV l j < 2 ^ (7 * j) := by rw [pow7]; exact scanV_lt l j
  have h2 := Nat.two_pow_add_eq_or_of_lt h1 (bAt l j % 128)
  rw [show (18446744073709551616 : Nat) = 2 ^ 64 from rfl, ← Nat.or_mod_two_pow, Nat.or_comm, scanV, ← pow7, Nat.add_comm, Nat.mul_comm, h2, Nat.mul_comm]

theorem getL_at {l : Bs} {j : Nat} (hj : j < 10) (hl : j < l.length) (hn : ∀ i, i < j → endsAt l i = false) (he : endsAt l j = true) :
    getL l = if putL (scanV l (j + 1) % 18446744073709551616) = l.take (j + 1) then some (scanV l (j + 1) % 18446744073709551616, j + 1) else none := by
  have hf : firstP (endsAt l) (List.range (min 10 l.length)) = some j := by
    refine firstP_hit 0 (by rw [List.length_range]; omega) (fun i hi => ?_) ?_
    · rw [range_getD (by omega)]; exact hn i hi
    · rw [range_getD (by omega)]; exact he
  unfold getL
  rw [hf]

theorem getL_no {l : Bs} (hn : ∀ i, i < min 10 l.length → endsAt l i = false) : getL l = none := by
  have hf : firstP (endsAt l) (List.range (min 10 l.length)) = none := by
    cases h : firstP (endsAt l) (List.range (min 10 l.length)) with
    | none => rfl
    | some k =>
      obtain ⟨h1, h2, _⟩ := firstP_some 0 h
      rw [List.length_range] at h1
      rw [range_getD h1, hn k h1] at h2
      cases h2
  unfold getL
  rw [hf]

end Go.Dm
