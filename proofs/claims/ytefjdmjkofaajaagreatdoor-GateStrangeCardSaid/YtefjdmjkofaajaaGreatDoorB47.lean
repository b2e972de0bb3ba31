/- Texts one behind the other: Chapter 19: plain laws of tokens that were minted, and of rights. -/
import Derived.Test.YtefjdmjkofaajaaGreatDoorB45
namespace Go.Dm
open Go Go.RowKit
theorem fits_mint (l : List Cav) : fitsC (mintL l) = true := by
 unfold fitsC
 rw [Bool.and_eq_true]
 refine ⟨decide_eq_true (by have := (mintL_len l).1; omega), List.all_eq_true.2 fun c hc => ?_⟩
 unfold mintL at hc
 obtain ⟨x, _, rfl⟩ := List.mem_map.1 hc
 unfold knownC mintC
 rw [Bool.or_eq_true, decide_eq_true_iff, decide_eq_true_iff]
 show 1 + (x.2 : Int) % 2 = 1 ∨ 1 + (x.2 : Int) % 2 = 2
 omega
theorem check_mint (key : Bs) (l : List Cav) : checkT key (mintT key l) = true := by
 have h : mintT key l = (⟨[97].toArray⟩, mintL l, ⟨(narrowB (signB key [97]) (mintL l)).toArray⟩) := rfl
 rw [h, checkT_eq, fits_mint, decide_eq_true rfl]
 rfl
theorem allowK_mint (key : Bs) (l : List Cav) (k : Int) (r : Nat) : allowK key (mintT key l) k r = if needsK k = 0 ∨ allowC (mintL l) (needsK k) r = false then 14 else 0 := by
 unfold allowK
 rw [check_mint]
 rfl
theorem needsK_zero {k : Int} (h : needsK k = 0) : k < 1 ∨ 8 < k := by
 rcases Decidable.em (k < 1 ∨ 8 < k) with h1 | h1
 ·exact h1
 ·obtain ⟨n, rfl⟩ : ∃ n : Nat, k = n := ⟨k.toNat, by omega⟩
  have hn : 1 ≤ n ∧ n ≤ 8 := by omega
  match n, hn with
  | 1, _ | 2, _ | 3, _ | 4, _ | 5, _ | 6, _ | 7, _ | 8, _ => exact absurd h (by decide)
  | 0, hn => omega
  | n + 9, hn => omega
theorem needsK_some {k : Int} (h : needsK k ≠ 0) : (1 ≤ k ∧ k ≤ 8) ∧ (needsK k = 1 ∨ needsK k = 2 ∨ needsK k = 4) := by
 rcases Decidable.em (k < 1 ∨ 8 < k) with h1 | h1
 ·exfalso
  rcases Decidable.em (k < 0 ∨ 9 ≤ k) with h2 | h2
  ·exact h (needsK_out h2)
  ·obtain rfl : k = 0 := by omega
   exact h rfl
 ·obtain ⟨n, rfl⟩ : ∃ n : Nat, k = n := ⟨k.toNat, by omega⟩
  have hn : 1 ≤ n ∧ n ≤ 8 := by omega
  refine ⟨by omega, ?_⟩
  match n, hn with
  | 1, _ | 2, _ | 3, _ | 4, _ | 5, _ | 6, _ | 7, _ | 8, _ => decide
  | 0, hn => omega
  | n + 9, hn => omega
end Go.Dm
