/- Chapter 1 in plain terms: numbers and texts as bytes. No program in sight. -/
import Derived.Test.YtibimbcjnjefdaaDoorTexts
import Derived.Laws.IdiomStrings
namespace Go.Dm
open Go Go.RowKit

def putF : Nat → Nat → Bs
  | 0, u => [UInt8.ofNat u]
  | f + 1, u => if u < 128 then [UInt8.ofNat u] else UInt8.ofNat (u % 128 + 128) :: putF f (u / 128)

/-- A number as bytes. -/
def putL (u : Nat) : Bs := putF u u

theorem putF_enough : ∀ (f : Nat) (u : Nat), u ≤ f → putF f u = putL u := by
  suffices h : ∀ (n f g : Nat) (u : Nat), u ≤ n → n ≤ f → n ≤ g → putF f u = putF g u by
    intro f u hu
    exact h u f u u (Nat.le_refl _) hu (Nat.le_refl _)
  intro n
  induction n with
  | zero =>
    intro f g u hu _ _
    obtain rfl : u = 0 := by omega
    cases f <;> cases g <;> simp [putF]
  | succ n ih =>
    intro f g u hu hf hg
    obtain ⟨f, rfl⟩ : ∃ f', f = f' + 1 := ⟨f - 1, by omega⟩
    obtain ⟨g, rfl⟩ : ∃ g', g = g' + 1 := ⟨g - 1, by omega⟩
    unfold putF
    split
    · rfl
    · rw [ih f g (u / 128) (by omega) (by omega) (by omega)]

theorem putL_small {u : Nat} (h : u < 128) : putL u = [UInt8.ofNat u] := by
  unfold putL
  cases u with
  | zero => rfl
  | succ u => unfold putF; rw [if_pos h]

theorem putL_big {u : Nat} (h : 128 ≤ u) : putL u = UInt8.ofNat (u % 128 + 128) :: putL (u / 128) := by
  obtain ⟨n, rfl⟩ : ∃ n, u = n + 1 := ⟨u - 1, by omega⟩
  rw [putL, putF, if_neg (by omega), putF_enough n _ (by omega)]

theorem putL_pos (u : Nat) : 1 ≤ (putL u).length := by
  by_cases h : u < 128
  · rw [putL_small h]; simp
  · rw [putL_big (by omega)]; simp

theorem putL_len : ∀ (k u : Nat), u < 128 ^ (k + 1) → (putL u).length ≤ k + 1
  | 0, u, h => by rw [putL_small (by simpa using h)]; simp
  | k + 1, u, h => by
    by_cases hs : u < 128
    · rw [putL_small hs]; simp
    · rw [putL_big (by omega)]
      have := putL_len k (u / 128) (by rw [Nat.pow_succ] at h; omega)
      simp only [List.length_cons]; omega

/-- A number of 64 bits. -/
def U64 (x : Nat) : Prop := x < 18446744073709551616
theorem U64.div {x : Nat} (h : U64 x) (k : Nat) : U64 (x / k) := Nat.lt_of_le_of_lt (Nat.div_le_self _ _) h

theorem putL_ten {u : Nat} (h : U64 u) : (putL u).length ≤ 10 := putL_len 9 u (Nat.lt_of_lt_of_le h (by decide))

/-- A text as bytes. -/
def putT (t : Bs) : Bs := putL t.length ++ t

/-- The cells of some bytes. -/
def bCells (l : Bs) : List Value := l.map fun b => .int .u8 (b.toNat : Int)
theorem bCells_len (l : Bs) : (bCells l).length = l.length := by simp [bCells]
theorem bCells_app (a b : Bs) : bCells (a ++ b) = bCells a ++ bCells b := by simp [bCells]
theorem bCells_one (l : Bs) : ∀ u ∈ bCells l, u.oneCell' = true := by
  intro u hu
  obtain ⟨x, _, rfl⟩ := List.mem_map.1 hu
  rfl
theorem u8_ofNat {n : Nat} (h : n < 256) : ((UInt8.ofNat n).toNat : Int) = n := by
  rw [UInt8.toNat_ofNat_of_lt' h]

theorem or128 : ∀ n : Nat, n < 256 → Go.bits BinOp.or IntKind.u8 (n : Int) 128 = ((n % 128 + 128 : Nat) : Int) := by decide +kernel
theorem or128' (x : Nat) : Go.bits BinOp.or IntKind.u8 ((x : Int) % 256) 128 = ((UInt8.ofNat (x % 128 + 128)).toNat : Int) := by
  have := or128 (x % 256) (by omega)
  rw [u8_ofNat (by omega), show ((x : Int) % 256) = ((x % 256 : Nat) : Int) by omega, this]
  omega

/-- 'string(b)', b a row of the call's own. -/
theorem run_string_row {P : Program} {w : World} {B src dst e : Nat} {v : Value} {n : Nat} {l : Bs} (hs : P.underlying src = some (.slice e)) (he : P.underlying e = some (.int .u8)) (hd : P.underlying dst = some .string)
    (h : w.ownsRow B e 1 v n (bCells l)) (hn : n = l.length) (hl : l ≠ []) : (convert src dst v).run P w = .ok (.string ⟨l.toArray⟩) w := by
  subst hn
  obtain ⟨p, cap, rfl, _, _, _, hx⟩ := (Sl.of_owns h).2
  have h0 : 0 < l.length := List.length_pos_iff.2 hl
  obtain ⟨b, off, rfl, hb, hc⟩ := hx.resolve_left (by omega)
  exact run_convert_bytes_back w src dst e ⟨b, off, none⟩ cap l hs he hd (fun j hj => by
    have := hc j (.int .u8 (l[j].toNat : Int)) (by simp [bCells, hj])
    unfold Addr.add
    split
    · rename_i h0; subst h0; simpa using this
    · exact this)

end Go.Dm
