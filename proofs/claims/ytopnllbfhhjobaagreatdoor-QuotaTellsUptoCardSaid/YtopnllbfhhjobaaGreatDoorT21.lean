/- Texts one behind the other: Chapter 3: the plain laws of order, sums, fits. No program in sight; Chapter 3: the plain laws of sums, times, holds. No program in sight; Chapter 10: the walks of charge, refund; Chapter 3, the document's: the walks of Fits, Put, Get, for a seat without Text and Number. -/
import Derived.Test.YtopnllbfhhjobaaGreatDoorT8
import Derived.Test.YtopnllbfhhjobaaGreatDoorT26
import Derived.Test.YtopnllbfhhjobaaGreatDoorT20
namespace Go.Dm
open Go Go.RowKit

theorem vordF_cases : ∀ xs ys : List Nat, vordF xs ys = -1 ∨ vordF xs ys = 0 ∨ vordF xs ys = 1
  | [], _ => by simp [vordF]
  | _ :: _, [] => by simp [vordF]
  | x :: xs, y :: ys => by
    unfold vordF
    split
    · exact Or.inl rfl
    · split
      · exact Or.inr (Or.inr rfl)
      · exact vordF_cases xs ys
theorem vordF_flip : ∀ xs ys : List Nat, vordF ys xs = - vordF xs ys
  | [], [] => by simp [vordF]
  | [], _ :: _ => by simp [vordF]
  | _ :: _, [] => by simp [vordF]
  | x :: xs, y :: ys => by
    have ih := vordF_flip xs ys
    simp only [vordF]
    by_cases h : x < y
    · rw [if_pos h, if_neg (by omega), if_pos h]; rfl
    · rw [if_neg h]
      by_cases h' : y < x
      · rw [if_pos h', if_pos h', if_neg h]
      · rw [if_neg h', if_neg h', if_neg h]; exact ih
theorem vordF_zero : ∀ xs ys : List Nat, xs.length = ys.length → (vordF xs ys = 0 ↔ xs = ys)
  | [], [], _ => by simp [vordF]
  | x :: xs, y :: ys, h => by
    have ih := vordF_zero xs ys (by simpa using h)
    simp only [vordF]
    by_cases h1 : x < y
    · rw [if_pos h1]; simp; omega
    · rw [if_neg h1]
      by_cases h2 : y < x
      · rw [if_pos h2]; simp; omega
      · rw [if_neg h2, ih]
        have : x = y := by omega
        simp [this]
theorem vordF_trans : ∀ xs ys zs : List Nat, xs.length = ys.length → ys.length = zs.length → vordF xs ys = -1 → vordF ys zs = -1 → vordF xs zs = -1
  | [], _, _, _, _, h, _ => by simp [vordF] at h
  | _ :: _, [], _, h, _, _, _ => by simp at h
  | _ :: _, _ :: _, [], _, h, _, _ => by simp at h
  | x :: xs, y :: ys, z :: zs, h1, h2, h3, h4 => by
    have ih := vordF_trans xs ys zs (by simpa using h1) (by simpa using h2)
    simp only [vordF] at h3 h4 ⊢
    split at h3
    · split at h4
      · rw [if_pos (by omega)]
      · split at h4
        · simp at h4
        · rw [if_pos (by omega)]
    · split at h3
      · simp at h3
      · split at h4
        · rw [if_pos (by omega)]
        · split at h4
          · simp at h4
          · rw [if_neg (by omega), if_neg (by omega)]; exact ih h3 h4
theorem vord_cases (a b : Vc) : vord a b = -1 ∨ vord a b = 0 ∨ vord a b = 1 := vordF_cases a b
theorem vord_flip (a b : Vc) : vord b a = - vord a b := vordF_flip a b
theorem vord_zero {a b : Vc} (ha : OkV a) (hb : OkV b) : vord a b = 0 ↔ a = b := vordF_zero a b (ha.len.trans hb.len.symm)
theorem vord_trans {a b c : Vc} (ha : OkV a) (hb : OkV b) (hc : OkV c) (h1 : vord a b = -1) (h2 : vord b c = -1) : vord a c = -1 :=
  vordF_trans a b c (ha.len.trans hb.len.symm) (hb.len.trans hc.len.symm) h1 h2

theorem vfits_four {a b : Vc} : vfits a b = true ↔ vG a 0 ≤ vG b 0 ∧ vG a 1 ≤ vG b 1 ∧ vG a 2 ≤ vG b 2 ∧ vG a 3 ≤ vG b 3 := by
  rw [vfits_iff]
  constructor
  · intro h
    exact ⟨h 0 (by omega), h 1 (by omega), h 2 (by omega), h 3 (by omega)⟩
  · intro ⟨h0, h1, h2, h3⟩ k hk
    match k, hk with
    | 0, _ => exact h0
    | 1, _ => exact h1
    | 2, _ => exact h2
    | 3, _ => exact h3
theorem vG_eq {a b : Vc} (ha : OkV a) (hb : OkV b) : a = b ↔ vG a 0 = vG b 0 ∧ vG a 1 = vG b 1 ∧ vG a 2 = vG b 2 ∧ vG a 3 = vG b 3 := by
  obtain ⟨x, y, z, u, rfl, _⟩ := ha.ex
  obtain ⟨x', y', z', u', rfl, _⟩ := hb.ex
  simp [vG]
theorem vfits_refl (a : Vc) : vfits a a = true := by rw [vfits_four]; omega
theorem vfits_no_le (a : Vc) : vfits noV a = true := by rw [vfits_four]; simp [noV, vG]
theorem vfits_both {a b : Vc} (ha : OkV a) (hb : OkV b) : (vfits a b && vfits b a) = decide (a = b) := by
  rw [Bool.eq_iff_iff, Bool.and_eq_true, vfits_four, vfits_four, decide_eq_true_eq, vG_eq ha hb]
  omega
theorem vfits_trans {a b c : Vc} (h1 : vfits a b = true) (h2 : vfits b c = true) : vfits a c = true := by
  rw [vfits_four] at *; omega
theorem vord_four {a b : Vc} (ha : OkV a) (hb : OkV b) : vord a b = vordF [vG a 0, vG a 1, vG a 2, vG a 3] [vG b 0, vG b 1, vG b 2, vG b 3] := by
  obtain ⟨x, y, z, u, rfl, _⟩ := ha.ex
  obtain ⟨x', y', z', u', rfl, _⟩ := hb.ex
  rfl
theorem vord_fits {a b : Vc} (ha : OkV a) (hb : OkV b) (h : vfits a b = true) : vord a b = -1 ∨ vord a b = 0 := by
  rw [vfits_four] at h
  rw [vord_four ha hb]
  generalize vG a 0 = x0 at *
  generalize vG a 1 = x1 at *
  generalize vG a 2 = x2 at *
  generalize vG a 3 = x3 at *
  simp only [vordF]
  repeat (split; · first | exact Or.inl rfl | omega)
  first | exact Or.inr rfl | (repeat (split <;> try omega))

end Go.Dm

namespace Go.Dm
open Go Go.RowKit

theorem vaddOk_four {a b : Vc} : vaddOk a b = true ↔ vG a 0 + vG b 0 < 18446744073709551616 ∧ vG a 1 + vG b 1 < 18446744073709551616 ∧ vG a 2 + vG b 2 < 18446744073709551616 ∧ vG a 3 + vG b 3 < 18446744073709551616 := by
  rw [← allV_add]; simp [allV, and_assoc]
theorem vtimesOk_four {a : Vc} {n : Nat} : vtimesOk a n = true ↔ vG a 0 * n < 18446744073709551616 ∧ vG a 1 * n < 18446744073709551616 ∧ vG a 2 * n < 18446744073709551616 ∧ vG a 3 * n < 18446744073709551616 := by
  rw [← allV_times a (fun _ => 0)]; simp [allV, and_assoc]
theorem vadd_eta (a b : Vc) : vadd a b = [vG a 0 + vG b 0, vG a 1 + vG b 1, vG a 2 + vG b 2, vG a 3 + vG b 3] := rfl
theorem vsub_eta (a b : Vc) : vsub a b = [vG a 0 - vG b 0, vG a 1 - vG b 1, vG a 2 - vG b 2, vG a 3 - vG b 3] := rfl
theorem vtimes_eta (a : Vc) (n : Nat) : vtimes a n = [vG a 0 * n, vG a 1 * n, vG a 2 * n, vG a 3 * n] := rfl
theorem vadd_okV {a b : Vc} (h : vaddOk a b = true) : OkV (vadd a b) := by
  rw [vaddOk_four] at h
  rw [vadd_eta]
  exact okV_mk h.1 h.2.1 h.2.2.1 h.2.2.2
theorem vtimes_okV {a : Vc} {n : Nat} (h : vtimesOk a n = true) : OkV (vtimes a n) := by
  rw [vtimesOk_four] at h
  rw [vtimes_eta]
  exact okV_mk h.1 h.2.1 h.2.2.1 h.2.2.2
theorem okV_or {ok : Bool} {v : Vc} (h : ok = true → OkV v) : OkV (vOr ok v) := by
  unfold vOr
  cases ok with
  | false => exact okV_no
  | true => exact h rfl
theorem vadd_or_okV (a b : Vc) : OkV (vOr (vaddOk a b) (vadd a b)) := okV_or vadd_okV
theorem vsub_or_okV {a : Vc} (ha : OkV a) (b : Vc) : OkV (vOr (vfits b a) (vsub a b)) := okV_or fun _ => vsub_ok ha
theorem vtimes_or_okV (a : Vc) (n : Nat) : OkV (vOr (vtimesOk a n) (vtimes a n)) := okV_or vtimes_okV
theorem vaddOk_comm (a b : Vc) : vaddOk b a = vaddOk a b := by
  rw [Bool.eq_iff_iff, vaddOk_four, vaddOk_four]; omega
theorem vadd_comm (a b : Vc) : vadd b a = vadd a b := by
  rw [vadd_eta, vadd_eta, Nat.add_comm, Nat.add_comm (vG b 1), Nat.add_comm (vG b 2), Nat.add_comm (vG b 3)]
theorem vsub_add {a b : Vc} (ha : OkV a) : vsub (vadd a b) b = a ∧ vfits b (vadd a b) = true ∧ vfits a (vadd a b) = true := by
  refine ⟨?_, ?_, ?_⟩
  · obtain ⟨x, y, z, u, rfl, _⟩ := ha.ex
    simp [vsub_eta, vadd_eta, vG]
  · rw [vfits_four, vadd_eta]; simp [vG]
  · rw [vfits_four, vadd_eta]; simp [vG]
theorem vadd_sub {a b : Vc} (ha : OkV a) (h : vfits b a = true) : vadd (vsub a b) b = a ∧ vaddOk (vsub a b) b = true := by
  rw [vfits_four] at h
  refine ⟨?_, ?_⟩
  · obtain ⟨x, y, z, u, rfl, _⟩ := ha.ex
    simp [vsub_eta, vadd_eta, vG] at h ⊢
    omega
  · obtain ⟨x, y, z, u, rfl, h1, h2, h3, h4⟩ := ha.ex
    unfold U64 at h1 h2 h3 h4
    rw [vaddOk_four]
    simp [vsub_eta, vG] at h ⊢
    omega
/-- One more. -/
theorem vtimes_step (a : Vc) (i : Nat) : vadd (vtimes a i) a = vtimes a (i + 1) := by
  simp only [vadd_eta, vtimes_eta, Nat.mul_succ]; rfl
theorem vtimesOk_step (a : Vc) (i : Nat) : vaddOk (vtimes a i) a = vtimesOk a (i + 1) := by
  rw [Bool.eq_iff_iff, vaddOk_four, vtimesOk_four]
  simp only [vtimes_eta, Nat.mul_succ]
  simp [vG]
theorem vtimesOk_mono {a : Vc} {i n : Nat} (h : i ≤ n) (hn : vtimesOk a n = true) : vtimesOk a i = true := by
  rw [vtimesOk_four] at *
  have := fun x => Nat.mul_le_mul_left x h
  have h0 := this (vG a 0); have h1 := this (vG a 1); have h2 := this (vG a 2); have h3 := this (vG a 3)
  omega
theorem vtimes_zero (a : Vc) : vtimes a 0 = noV := by simp [vtimes_eta, noV]
theorem vtimesOk_zero (a : Vc) : vtimesOk a 0 = true := by rw [vtimesOk_four]; simp
/-- So many are held, and no more. -/
theorem vholdF_iff (a b : Vc) (m k : Nat) : ∀ i, k ≤ vholdF a b m i ↔ k ≤ m ∧ ∀ j, j < i → vG b j * k ≤ vG a j
  | 0 => by simp [vholdF]
  | i + 1 => by
    have ih := vholdF_iff a b m k i
    have hs : (∀ j, j < i + 1 → vG b j * k ≤ vG a j) ↔ (∀ j, j < i → vG b j * k ≤ vG a j) ∧ vG b i * k ≤ vG a i := by
      constructor
      · intro h; exact ⟨fun j hj => h j (by omega), h i (by omega)⟩
      · intro ⟨h, hi⟩ j hj
        by_cases e : j = i
        · rw [e]; exact hi
        · exact h j (by omega)
    rw [vholdF_sub, hs]
    by_cases h0 : vG b i = 0
    · rw [if_pos h0, ih, h0]; simp
    · rw [if_neg h0, Nat.le_min, ih, Nat.le_div_iff_mul_le (by omega), Nat.mul_comm k]
      constructor
      · intro ⟨⟨h1, h2⟩, h3⟩; exact ⟨h1, h2, h3⟩
      · intro ⟨h1, h2, h3⟩; exact ⟨⟨h1, h2⟩, h3⟩
theorem vholds_iff {a b : Vc} {m k : Nat} : k ≤ vholds a b m ↔ k ≤ m ∧ vfits (vtimes b k) a = true := by
  unfold vholds
  rw [vholdF_iff, vfits_iff]
  constructor
  · intro ⟨h1, h2⟩
    refine ⟨h1, fun j hj => ?_⟩
    have := vtimes_at (a := b) (n := k) hj
    unfold vG at this h2
    rw [this]; exact h2 j hj
  · intro ⟨h1, h2⟩
    refine ⟨h1, fun j hj => ?_⟩
    have := vtimes_at (a := b) (n := k) hj
    have h := h2 j hj
    unfold vG at this ⊢
    rw [this] at h; exact h
theorem vholds_fit {a b : Vc} (ha : OkV a) (m : Nat) : vtimesOk b (vholds a b m) = true ∧ vfits (vtimes b (vholds a b m)) a = true := by
  have h := (vholds_iff (a := a) (b := b) (m := m) (k := vholds a b m)).1 (Nat.le_refl _)
  refine ⟨?_, h.2⟩
  have h4 := vfits_four.1 h.2
  rw [vtimes_at (by omega), vtimes_at (by omega), vtimes_at (by omega), vtimes_at (by omega)] at h4
  rw [vtimesOk_four]
  have u := ha.u64
  have u0 := u 0; have u1 := u 1; have u2 := u 2; have u3 := u 3
  unfold U64 at u0 u1 u2 u3
  unfold vG at *
  omega
theorem vholds_more {a b : Vc} {m : Nat} (h : vholds a b m < m) : vfits (vtimes b (vholds a b m + 1)) a = false := by
  cases e : vfits (vtimes b (vholds a b m + 1)) a with
  | false => rfl
  | true => have := (vholds_iff (a := a) (b := b) (m := m) (k := vholds a b m + 1)).2 ⟨h, e⟩; omega
theorem vholds_none (a : Vc) (m : Nat) : vholds a noV m = m := by
  apply Nat.le_antisymm (vholds_le a noV m)
  rw [vholds_iff]
  refine ⟨Nat.le_refl _, ?_⟩
  rw [vfits_four, vtimes_eta]; simp [vG, noV]

end Go.Dm

namespace Go.Proofs.YtopnllbfhhjobaaGreatDoor
open Go.RowKit Go.Dm

set_option maxHeartbeats 4000000 in
set_option maxRecDepth 100000 in
theorem qrefund_w (v : Vc) (hv : OkV v) (r : EntQ) (hr : OkV r.2.1 ∧ OkV r.2.2) (w : World) :
    Calls Tryz.prog 43 #[.agg #[.int .u64 (vG v 0 : Nat), .int .u64 (vG v 1 : Nat), .int .u64 (vG v 2 : Nat), .int .u64 (vG v 3 : Nat)], entVal r] w fun e w' => e = .returned (.tuple #[entVal (rfdE v r).1, .int .i64 (rfdE v r).2]) ∧ Ext w w' := by
  obtain ⟨s, l, u⟩ := r
  obtain ⟨hl, hu⟩ := hr
  simp only at hl hu
  have C := fun W => vsub_w u v hu hv W
  cases hd : vfits v u with
  | false =>
    have hf : rfdE v (s, l, u) = ((s, l, u), 15) := by unfold rfdE; rw [if_pos hd]
    have hN0 : vOr (vfits v u) (vsub u v) = noV := by rw [hd]; rfl
    rw [hf]
    rw [hN0, hd] at C
    clear hf hN0 hd hl hu hv
    unfold entVal uAt
    unfold vVal vF at C
    simp only
    have hz : ∀ k, vG noV k = 0 := fun k => by match k with | 0 => rfl | 1 => rfl | 2 => rfl | 3 => rfl | k + 4 => rfl
    simp only [hz] at C
    clear hz
    generalize vG v = V at *
    generalize vG l = L at *
    generalize vG u = U at *
    have hV : VBox w.heap.size V (((w.alloc (.cells #[.int .u64 (V 0 : Nat), .int .u64 (V 1 : Nat), .int .u64 (V 2 : Nat), .int .u64 (V 3 : Nat)] 72)).alloc (.cells #[.string s, .int .u64 (L 0 : Nat), .int .u64 (L 1 : Nat), .int .u64 (L 2 : Nat), .int .u64 (L 3 : Nat), .int .u64 (U 0 : Nat), .int .u64 (U 1 : Nat), .int .u64 (U 2 : Nat), .int .u64 (U 3 : Nat)] 38)).alloc (.cells #[.string ⟨#[]⟩, .int .u64 0, .int .u64 0, .int .u64 0, .int .u64 0, .int .u64 0, .int .u64 0, .int .u64 0, .int .u64 0] 38)) := ((VBox.new w V _).ext ((Ext.refl _).alloc _)).ext ((Ext.refl _).alloc _)
    have hB : EBox (w.heap.size + 1) s L U (((w.alloc (.cells #[.int .u64 (V 0 : Nat), .int .u64 (V 1 : Nat), .int .u64 (V 2 : Nat), .int .u64 (V 3 : Nat)] 72)).alloc (.cells #[.string s, .int .u64 (L 0 : Nat), .int .u64 (L 1 : Nat), .int .u64 (L 2 : Nat), .int .u64 (L 3 : Nat), .int .u64 (U 0 : Nat), .int .u64 (U 1 : Nat), .int .u64 (U 2 : Nat), .int .u64 (U 3 : Nat)] 38)).alloc (.cells #[.string ⟨#[]⟩, .int .u64 0, .int .u64 0, .int .u64 0, .int .u64 0, .int .u64 0, .int .u64 0, .int .u64 0, .int .u64 0] 38)) := by
      have h := EBox.new (w.alloc (.cells #[.int .u64 (V 0 : Nat), .int .u64 (V 1 : Nat), .int .u64 (V 2 : Nat), .int .u64 (V 3 : Nat)] 72)) s L U 38
      rw [World.size_alloc] at h
      exact h.ext ((Ext.refl _).alloc _)
    have hR : EBox (w.heap.size + 1 + 1) ⟨#[]⟩ (fun _ => 0) (fun _ => 0) (((w.alloc (.cells #[.int .u64 (V 0 : Nat), .int .u64 (V 1 : Nat), .int .u64 (V 2 : Nat), .int .u64 (V 3 : Nat)] 72)).alloc (.cells #[.string s, .int .u64 (L 0 : Nat), .int .u64 (L 1 : Nat), .int .u64 (L 2 : Nat), .int .u64 (L 3 : Nat), .int .u64 (U 0 : Nat), .int .u64 (U 1 : Nat), .int .u64 (U 2 : Nat), .int .u64 (U 3 : Nat)] 38)).alloc (.cells #[.string ⟨#[]⟩, .int .u64 0, .int .u64 0, .int .u64 0, .int .u64 0, .int .u64 0, .int .u64 0, .int .u64 0, .int .u64 0] 38)) := by
      have h := EBox.new ((w.alloc (.cells #[.int .u64 (V 0 : Nat), .int .u64 (V 1 : Nat), .int .u64 (V 2 : Nat), .int .u64 (V 3 : Nat)] 72)).alloc (.cells #[.string s, .int .u64 (L 0 : Nat), .int .u64 (L 1 : Nat), .int .u64 (L 2 : Nat), .int .u64 (L 3 : Nat), .int .u64 (U 0 : Nat), .int .u64 (U 1 : Nat), .int .u64 (U 2 : Nat), .int .u64 (U 3 : Nat)] 38)) ⟨#[]⟩ (fun _ => 0) (fun _ => 0) 38
      rw [World.size_alloc, World.size_alloc] at h
      exact h
    have hE : Ext w (((w.alloc (.cells #[.int .u64 (V 0 : Nat), .int .u64 (V 1 : Nat), .int .u64 (V 2 : Nat), .int .u64 (V 3 : Nat)] 72)).alloc (.cells #[.string s, .int .u64 (L 0 : Nat), .int .u64 (L 1 : Nat), .int .u64 (L 2 : Nat), .int .u64 (L 3 : Nat), .int .u64 (U 0 : Nat), .int .u64 (U 1 : Nat), .int .u64 (U 2 : Nat), .int .u64 (U 3 : Nat)] 38)).alloc (.cells #[.string ⟨#[]⟩, .int .u64 0, .int .u64 0, .int .u64 0, .int .u64 0, .int .u64 0, .int .u64 0, .int .u64 0, .int .u64 0] 38)) := (((Ext.refl w).alloc _).alloc _).alloc _
    replace C := Lib.hid C
    go_enter Tryz.func43, Tryz.ntmps43
    obtain ⟨_, a0, a1, a2, a3, _, _, _, _⟩ := hV.four
    obtain ⟨_, e0, e1, e2, e3, e4, e5, e6, e7, e8, g0, g1, g2, g3, g4, g5, g6, g7, g8⟩ := id hB
    obtain ⟨_, z0, z1, z2, z3, z4, z5, z6, z7, z8, f0, f1, f2, f3, f4, f5, f6, f7, f8⟩ := id hR
    change World.cell? _ _ = some (.int .u64 0) at z1 z2 z3 z4 z5 z6 z7 z8
    go_wp2_with fail
    refine (C.out _).mono ?_; rintro e w1 ⟨rfl, h1⟩
    clear a0 a1 a2 a3 e0 e1 e2 e3 e4 e5 e6 e7 e8 g0 g1 g2 g3 g4 g5 g6 g7 g8 z0 z1 z2 z3 z4 z5 z6 z7 z8 f0 f1 f2 f3 f4 f5 f6 f7 f8
    replace hV := hV.ext h1
    replace hB := hB.ext h1
    replace hR := hR.ext h1
    replace hE := hE.trans h1
    clear h1
    clear C
    have hEn := (Ext.refl w1).alloc (.cells #[.int .u64 0, .int .u64 0, .int .u64 0, .int .u64 0] 25)
    have hN : VBox w1.heap.size (fun _ => 0) (w1.alloc (.cells #[.int .u64 0, .int .u64 0, .int .u64 0, .int .u64 0] 25)) := VBox.new w1 (fun _ => 0) 25
    replace hV := hV.ext hEn
    replace hB := hB.ext hEn
    replace hR := hR.ext hEn
    replace hE := hE.trans hEn
    clear hEn
    obtain ⟨_, a0, a1, a2, a3, _, _, _, _⟩ := hV.four
    obtain ⟨_, e0, e1, e2, e3, e4, e5, e6, e7, e8, g0, g1, g2, g3, g4, g5, g6, g7, g8⟩ := id hB
    obtain ⟨_, z0, z1, z2, z3, z4, z5, z6, z7, z8, f0, f1, f2, f3, f4, f5, f6, f7, f8⟩ := id hR
    change World.cell? _ _ = some (.int .u64 0) at z1 z2 z3 z4 z5 z6 z7 z8
    obtain ⟨_, n0, n1, n2, n3, _, _, _, _⟩ := hN.four
    change World.cell? _ _ = some (.int .u64 0) at n0 n1 n2 n3
    go_wp2
    have hP := hR.put s L U
    unfold put9 at hP
    obtain ⟨_, k0, k1, k2, k3, k4, k5, k6, k7, k8, _, _, _, _, _, _, _, _, _⟩ := hP
    refine bodyPost_ret (v := .tuple #[.agg #[.string s, .int .u64 (L 0 : Nat), .int .u64 (L 1 : Nat), .int .u64 (L 2 : Nat), .int .u64 (L 3 : Nat), .int .u64 (U 0 : Nat), .int .u64 (U 1 : Nat), .int .u64 (U 2 : Nat), .int .u64 (U 3 : Nat)], .int .i64 15]) (by simp [results, Tryz.results43, go_sem, k0, k1, k2, k3, k4, k5, k6, k7, k8]) rfl ?_
    exact ⟨rfl, Ext.put9 hE (b := w.heap.size + 1 + 1) (by omega) s L U⟩
  | true =>
    have hf : rfdE v (s, l, u) = ((s, l, vsub u v), 0) := by unfold rfdE; rw [if_neg (show ¬ vfits v u = false by rw [hd]; simp)]
    have hN0 : vOr (vfits v u) (vsub u v) = vsub u v := by rw [hd]; rfl
    rw [hf]
    rw [hN0, hd] at C
    clear hf hN0 hd hl hu hv
    unfold entVal uAt
    unfold vVal vF at C
    simp only
    generalize vG (vsub u v) = N at *
    generalize vG v = V at *
    generalize vG l = L at *
    generalize vG u = U at *
    have hV : VBox w.heap.size V (((w.alloc (.cells #[.int .u64 (V 0 : Nat), .int .u64 (V 1 : Nat), .int .u64 (V 2 : Nat), .int .u64 (V 3 : Nat)] 72)).alloc (.cells #[.string s, .int .u64 (L 0 : Nat), .int .u64 (L 1 : Nat), .int .u64 (L 2 : Nat), .int .u64 (L 3 : Nat), .int .u64 (U 0 : Nat), .int .u64 (U 1 : Nat), .int .u64 (U 2 : Nat), .int .u64 (U 3 : Nat)] 38)).alloc (.cells #[.string ⟨#[]⟩, .int .u64 0, .int .u64 0, .int .u64 0, .int .u64 0, .int .u64 0, .int .u64 0, .int .u64 0, .int .u64 0] 38)) := ((VBox.new w V _).ext ((Ext.refl _).alloc _)).ext ((Ext.refl _).alloc _)
    have hB : EBox (w.heap.size + 1) s L U (((w.alloc (.cells #[.int .u64 (V 0 : Nat), .int .u64 (V 1 : Nat), .int .u64 (V 2 : Nat), .int .u64 (V 3 : Nat)] 72)).alloc (.cells #[.string s, .int .u64 (L 0 : Nat), .int .u64 (L 1 : Nat), .int .u64 (L 2 : Nat), .int .u64 (L 3 : Nat), .int .u64 (U 0 : Nat), .int .u64 (U 1 : Nat), .int .u64 (U 2 : Nat), .int .u64 (U 3 : Nat)] 38)).alloc (.cells #[.string ⟨#[]⟩, .int .u64 0, .int .u64 0, .int .u64 0, .int .u64 0, .int .u64 0, .int .u64 0, .int .u64 0, .int .u64 0] 38)) := by
      have h := EBox.new (w.alloc (.cells #[.int .u64 (V 0 : Nat), .int .u64 (V 1 : Nat), .int .u64 (V 2 : Nat), .int .u64 (V 3 : Nat)] 72)) s L U 38
      rw [World.size_alloc] at h
      exact h.ext ((Ext.refl _).alloc _)
    have hR : EBox (w.heap.size + 1 + 1) ⟨#[]⟩ (fun _ => 0) (fun _ => 0) (((w.alloc (.cells #[.int .u64 (V 0 : Nat), .int .u64 (V 1 : Nat), .int .u64 (V 2 : Nat), .int .u64 (V 3 : Nat)] 72)).alloc (.cells #[.string s, .int .u64 (L 0 : Nat), .int .u64 (L 1 : Nat), .int .u64 (L 2 : Nat), .int .u64 (L 3 : Nat), .int .u64 (U 0 : Nat), .int .u64 (U 1 : Nat), .int .u64 (U 2 : Nat), .int .u64 (U 3 : Nat)] 38)).alloc (.cells #[.string ⟨#[]⟩, .int .u64 0, .int .u64 0, .int .u64 0, .int .u64 0, .int .u64 0, .int .u64 0, .int .u64 0, .int .u64 0] 38)) := by
      have h := EBox.new ((w.alloc (.cells #[.int .u64 (V 0 : Nat), .int .u64 (V 1 : Nat), .int .u64 (V 2 : Nat), .int .u64 (V 3 : Nat)] 72)).alloc (.cells #[.string s, .int .u64 (L 0 : Nat), .int .u64 (L 1 : Nat), .int .u64 (L 2 : Nat), .int .u64 (L 3 : Nat), .int .u64 (U 0 : Nat), .int .u64 (U 1 : Nat), .int .u64 (U 2 : Nat), .int .u64 (U 3 : Nat)] 38)) ⟨#[]⟩ (fun _ => 0) (fun _ => 0) 38
      rw [World.size_alloc, World.size_alloc] at h
      exact h
    have hE : Ext w (((w.alloc (.cells #[.int .u64 (V 0 : Nat), .int .u64 (V 1 : Nat), .int .u64 (V 2 : Nat), .int .u64 (V 3 : Nat)] 72)).alloc (.cells #[.string s, .int .u64 (L 0 : Nat), .int .u64 (L 1 : Nat), .int .u64 (L 2 : Nat), .int .u64 (L 3 : Nat), .int .u64 (U 0 : Nat), .int .u64 (U 1 : Nat), .int .u64 (U 2 : Nat), .int .u64 (U 3 : Nat)] 38)).alloc (.cells #[.string ⟨#[]⟩, .int .u64 0, .int .u64 0, .int .u64 0, .int .u64 0, .int .u64 0, .int .u64 0, .int .u64 0, .int .u64 0] 38)) := (((Ext.refl w).alloc _).alloc _).alloc _
    replace C := Lib.hid C
    go_enter Tryz.func43, Tryz.ntmps43
    obtain ⟨_, a0, a1, a2, a3, _, _, _, _⟩ := hV.four
    obtain ⟨_, e0, e1, e2, e3, e4, e5, e6, e7, e8, g0, g1, g2, g3, g4, g5, g6, g7, g8⟩ := id hB
    obtain ⟨_, z0, z1, z2, z3, z4, z5, z6, z7, z8, f0, f1, f2, f3, f4, f5, f6, f7, f8⟩ := id hR
    change World.cell? _ _ = some (.int .u64 0) at z1 z2 z3 z4 z5 z6 z7 z8
    go_wp2_with fail
    refine (C.out _).mono ?_; rintro e w1 ⟨rfl, h1⟩
    clear a0 a1 a2 a3 e0 e1 e2 e3 e4 e5 e6 e7 e8 g0 g1 g2 g3 g4 g5 g6 g7 g8 z0 z1 z2 z3 z4 z5 z6 z7 z8 f0 f1 f2 f3 f4 f5 f6 f7 f8
    replace hV := hV.ext h1
    replace hB := hB.ext h1
    replace hR := hR.ext h1
    replace hE := hE.trans h1
    clear h1
    clear C
    have hEn := (Ext.refl w1).alloc (.cells #[.int .u64 (N 0 : Nat), .int .u64 (N 1 : Nat), .int .u64 (N 2 : Nat), .int .u64 (N 3 : Nat)] 25)
    have hN : VBox w1.heap.size N (w1.alloc (.cells #[.int .u64 (N 0 : Nat), .int .u64 (N 1 : Nat), .int .u64 (N 2 : Nat), .int .u64 (N 3 : Nat)] 25)) := VBox.new w1 N 25
    replace hV := hV.ext hEn
    replace hB := hB.ext hEn
    replace hR := hR.ext hEn
    replace hE := hE.trans hEn
    clear hEn
    obtain ⟨_, a0, a1, a2, a3, _, _, _, _⟩ := hV.four
    obtain ⟨_, e0, e1, e2, e3, e4, e5, e6, e7, e8, g0, g1, g2, g3, g4, g5, g6, g7, g8⟩ := id hB
    obtain ⟨_, z0, z1, z2, z3, z4, z5, z6, z7, z8, f0, f1, f2, f3, f4, f5, f6, f7, f8⟩ := id hR
    change World.cell? _ _ = some (.int .u64 0) at z1 z2 z3 z4 z5 z6 z7 z8
    obtain ⟨_, n0, n1, n2, n3, _, _, _, _⟩ := hN.four
    go_wp2
    have hP := ((((hR.far (i := 5) (c := w.heap.size + 1) (by omega) (.int .u64 (N 0 : Nat))).far (i := 6) (c := w.heap.size + 1) (by omega) (.int .u64 (N 1 : Nat))).far (i := 7) (c := w.heap.size + 1) (by omega) (.int .u64 (N 2 : Nat))).far (i := 8) (c := w.heap.size + 1) (by omega) (.int .u64 (N 3 : Nat))).put s L N
    unfold put9 at hP
    obtain ⟨_, k0, k1, k2, k3, k4, k5, k6, k7, k8, _, _, _, _, _, _, _, _, _⟩ := hP
    refine bodyPost_ret (v := .tuple #[.agg #[.string s, .int .u64 (L 0 : Nat), .int .u64 (L 1 : Nat), .int .u64 (L 2 : Nat), .int .u64 (L 3 : Nat), .int .u64 (N 0 : Nat), .int .u64 (N 1 : Nat), .int .u64 (N 2 : Nat), .int .u64 (N 3 : Nat)], .int .i64 0]) (by simp [results, Tryz.results43, go_sem, k0, k1, k2, k3, k4, k5, k6, k7, k8]) rfl ?_
    exact ⟨rfl, Ext.put9 ((((hE.setCell (p := ⟨w.heap.size + 1, 5, none⟩) (by show w.heap.size ≤ w.heap.size + 1; omega) (.int .u64 (N 0 : Nat))).setCell (p := ⟨w.heap.size + 1, 6, none⟩) (by show w.heap.size ≤ w.heap.size + 1; omega) (.int .u64 (N 1 : Nat))).setCell (p := ⟨w.heap.size + 1, 7, none⟩) (by show w.heap.size ≤ w.heap.size + 1; omega) (.int .u64 (N 2 : Nat))).setCell (p := ⟨w.heap.size + 1, 8, none⟩) (by show w.heap.size ≤ w.heap.size + 1; omega) (.int .u64 (N 3 : Nat))) (b := w.heap.size + 1 + 1) (by omega) s L N⟩

set_option maxHeartbeats 4000000 in
set_option maxRecDepth 100000 in
theorem qcharge_w (v : Vc) (hv : OkV v) (r : EntQ) (hr : OkV r.2.1 ∧ OkV r.2.2) (w : World) :
    Calls Tryz.prog 39 #[.agg #[.int .u64 (vG v 0 : Nat), .int .u64 (vG v 1 : Nat), .int .u64 (vG v 2 : Nat), .int .u64 (vG v 3 : Nat)], entVal r] w fun e w' => e = .returned (.tuple #[entVal (chgE v r).1, .int .i64 (chgE v r).2]) ∧ Ext w w' := by
  obtain ⟨s, l, u⟩ := r
  obtain ⟨hl, hu⟩ := hr
  simp only at hl hu
  have C := fun W => vadd_w u v hu hv W
  cases hd : vaddOk u v with
  | false =>
    have hf : chgE v (s, l, u) = ((s, l, u), 5) := by unfold chgE; rw [if_pos hd]
    have hN0 : vOr (vaddOk u v) (vadd u v) = noV := by rw [hd]; rfl
    rw [hf]
    rw [hN0, hd] at C
    clear hf hN0 hd hl hu hv
    unfold entVal uAt
    unfold vVal vF at C
    simp only
    have hz : ∀ k, vG noV k = 0 := fun k => by match k with | 0 => rfl | 1 => rfl | 2 => rfl | 3 => rfl | k + 4 => rfl
    simp only [hz] at C
    clear hz
    generalize vG v = V at *
    generalize vG l = L at *
    generalize vG u = U at *
    have hV : VBox w.heap.size V (((w.alloc (.cells #[.int .u64 (V 0 : Nat), .int .u64 (V 1 : Nat), .int .u64 (V 2 : Nat), .int .u64 (V 3 : Nat)] 72)).alloc (.cells #[.string s, .int .u64 (L 0 : Nat), .int .u64 (L 1 : Nat), .int .u64 (L 2 : Nat), .int .u64 (L 3 : Nat), .int .u64 (U 0 : Nat), .int .u64 (U 1 : Nat), .int .u64 (U 2 : Nat), .int .u64 (U 3 : Nat)] 38)).alloc (.cells #[.string ⟨#[]⟩, .int .u64 0, .int .u64 0, .int .u64 0, .int .u64 0, .int .u64 0, .int .u64 0, .int .u64 0, .int .u64 0] 38)) := ((VBox.new w V _).ext ((Ext.refl _).alloc _)).ext ((Ext.refl _).alloc _)
    have hB : EBox (w.heap.size + 1) s L U (((w.alloc (.cells #[.int .u64 (V 0 : Nat), .int .u64 (V 1 : Nat), .int .u64 (V 2 : Nat), .int .u64 (V 3 : Nat)] 72)).alloc (.cells #[.string s, .int .u64 (L 0 : Nat), .int .u64 (L 1 : Nat), .int .u64 (L 2 : Nat), .int .u64 (L 3 : Nat), .int .u64 (U 0 : Nat), .int .u64 (U 1 : Nat), .int .u64 (U 2 : Nat), .int .u64 (U 3 : Nat)] 38)).alloc (.cells #[.string ⟨#[]⟩, .int .u64 0, .int .u64 0, .int .u64 0, .int .u64 0, .int .u64 0, .int .u64 0, .int .u64 0, .int .u64 0] 38)) := by
      have h := EBox.new (w.alloc (.cells #[.int .u64 (V 0 : Nat), .int .u64 (V 1 : Nat), .int .u64 (V 2 : Nat), .int .u64 (V 3 : Nat)] 72)) s L U 38
      rw [World.size_alloc] at h
      exact h.ext ((Ext.refl _).alloc _)
    have hR : EBox (w.heap.size + 1 + 1) ⟨#[]⟩ (fun _ => 0) (fun _ => 0) (((w.alloc (.cells #[.int .u64 (V 0 : Nat), .int .u64 (V 1 : Nat), .int .u64 (V 2 : Nat), .int .u64 (V 3 : Nat)] 72)).alloc (.cells #[.string s, .int .u64 (L 0 : Nat), .int .u64 (L 1 : Nat), .int .u64 (L 2 : Nat), .int .u64 (L 3 : Nat), .int .u64 (U 0 : Nat), .int .u64 (U 1 : Nat), .int .u64 (U 2 : Nat), .int .u64 (U 3 : Nat)] 38)).alloc (.cells #[.string ⟨#[]⟩, .int .u64 0, .int .u64 0, .int .u64 0, .int .u64 0, .int .u64 0, .int .u64 0, .int .u64 0, .int .u64 0] 38)) := by
      have h := EBox.new ((w.alloc (.cells #[.int .u64 (V 0 : Nat), .int .u64 (V 1 : Nat), .int .u64 (V 2 : Nat), .int .u64 (V 3 : Nat)] 72)).alloc (.cells #[.string s, .int .u64 (L 0 : Nat), .int .u64 (L 1 : Nat), .int .u64 (L 2 : Nat), .int .u64 (L 3 : Nat), .int .u64 (U 0 : Nat), .int .u64 (U 1 : Nat), .int .u64 (U 2 : Nat), .int .u64 (U 3 : Nat)] 38)) ⟨#[]⟩ (fun _ => 0) (fun _ => 0) 38
      rw [World.size_alloc, World.size_alloc] at h
      exact h
    have hE : Ext w (((w.alloc (.cells #[.int .u64 (V 0 : Nat), .int .u64 (V 1 : Nat), .int .u64 (V 2 : Nat), .int .u64 (V 3 : Nat)] 72)).alloc (.cells #[.string s, .int .u64 (L 0 : Nat), .int .u64 (L 1 : Nat), .int .u64 (L 2 : Nat), .int .u64 (L 3 : Nat), .int .u64 (U 0 : Nat), .int .u64 (U 1 : Nat), .int .u64 (U 2 : Nat), .int .u64 (U 3 : Nat)] 38)).alloc (.cells #[.string ⟨#[]⟩, .int .u64 0, .int .u64 0, .int .u64 0, .int .u64 0, .int .u64 0, .int .u64 0, .int .u64 0, .int .u64 0] 38)) := (((Ext.refl w).alloc _).alloc _).alloc _
    replace C := Lib.hid C
    go_enter Tryz.func39, Tryz.ntmps39
    obtain ⟨_, a0, a1, a2, a3, _, _, _, _⟩ := hV.four
    obtain ⟨_, e0, e1, e2, e3, e4, e5, e6, e7, e8, g0, g1, g2, g3, g4, g5, g6, g7, g8⟩ := id hB
    obtain ⟨_, z0, z1, z2, z3, z4, z5, z6, z7, z8, f0, f1, f2, f3, f4, f5, f6, f7, f8⟩ := id hR
    change World.cell? _ _ = some (.int .u64 0) at z1 z2 z3 z4 z5 z6 z7 z8
    go_wp2_with fail
    refine (C.out _).mono ?_; rintro e w1 ⟨rfl, h1⟩
    clear a0 a1 a2 a3 e0 e1 e2 e3 e4 e5 e6 e7 e8 g0 g1 g2 g3 g4 g5 g6 g7 g8 z0 z1 z2 z3 z4 z5 z6 z7 z8 f0 f1 f2 f3 f4 f5 f6 f7 f8
    replace hV := hV.ext h1
    replace hB := hB.ext h1
    replace hR := hR.ext h1
    replace hE := hE.trans h1
    clear h1
    clear C
    have hEn := (Ext.refl w1).alloc (.cells #[.int .u64 0, .int .u64 0, .int .u64 0, .int .u64 0] 25)
    have hN : VBox w1.heap.size (fun _ => 0) (w1.alloc (.cells #[.int .u64 0, .int .u64 0, .int .u64 0, .int .u64 0] 25)) := VBox.new w1 (fun _ => 0) 25
    replace hV := hV.ext hEn
    replace hB := hB.ext hEn
    replace hR := hR.ext hEn
    replace hE := hE.trans hEn
    clear hEn
    obtain ⟨_, a0, a1, a2, a3, _, _, _, _⟩ := hV.four
    obtain ⟨_, e0, e1, e2, e3, e4, e5, e6, e7, e8, g0, g1, g2, g3, g4, g5, g6, g7, g8⟩ := id hB
    obtain ⟨_, z0, z1, z2, z3, z4, z5, z6, z7, z8, f0, f1, f2, f3, f4, f5, f6, f7, f8⟩ := id hR
    change World.cell? _ _ = some (.int .u64 0) at z1 z2 z3 z4 z5 z6 z7 z8
    obtain ⟨_, n0, n1, n2, n3, _, _, _, _⟩ := hN.four
    change World.cell? _ _ = some (.int .u64 0) at n0 n1 n2 n3
    go_wp2
    have hP := hR.put s L U
    unfold put9 at hP
    obtain ⟨_, k0, k1, k2, k3, k4, k5, k6, k7, k8, _, _, _, _, _, _, _, _, _⟩ := hP
    refine bodyPost_ret (v := .tuple #[.agg #[.string s, .int .u64 (L 0 : Nat), .int .u64 (L 1 : Nat), .int .u64 (L 2 : Nat), .int .u64 (L 3 : Nat), .int .u64 (U 0 : Nat), .int .u64 (U 1 : Nat), .int .u64 (U 2 : Nat), .int .u64 (U 3 : Nat)], .int .i64 5]) (by simp [results, Tryz.results39, go_sem, k0, k1, k2, k3, k4, k5, k6, k7, k8]) rfl ?_
    exact ⟨rfl, Ext.put9 hE (b := w.heap.size + 1 + 1) (by omega) s L U⟩
  | true =>
    have hN0 : vOr (vaddOk u v) (vadd u v) = vadd u v := by rw [hd]; rfl
    have F := fun W => vfits_w (vadd u v) l (vadd_okV hd) hl W
    rw [hN0, hd] at C
    have hd1 : ¬ vaddOk u v = false := by rw [hd]; simp
    cases hd2 : vfits (vadd u v) l with
    | false =>
      have hf : chgE v (s, l, u) = ((s, l, u), 10) := by unfold chgE; rw [if_neg hd1, if_pos hd2]
      rw [hf]
      rw [hd2] at F
      clear hf hN0 hd hd1 hd2 hl hu hv
      unfold entVal uAt
      unfold vVal vF at C F
      simp only
      generalize vG (vadd u v) = N at *
      generalize vG v = V at *
      generalize vG l = L at *
      generalize vG u = U at *
      have hV : VBox w.heap.size V (((w.alloc (.cells #[.int .u64 (V 0 : Nat), .int .u64 (V 1 : Nat), .int .u64 (V 2 : Nat), .int .u64 (V 3 : Nat)] 72)).alloc (.cells #[.string s, .int .u64 (L 0 : Nat), .int .u64 (L 1 : Nat), .int .u64 (L 2 : Nat), .int .u64 (L 3 : Nat), .int .u64 (U 0 : Nat), .int .u64 (U 1 : Nat), .int .u64 (U 2 : Nat), .int .u64 (U 3 : Nat)] 38)).alloc (.cells #[.string ⟨#[]⟩, .int .u64 0, .int .u64 0, .int .u64 0, .int .u64 0, .int .u64 0, .int .u64 0, .int .u64 0, .int .u64 0] 38)) := ((VBox.new w V _).ext ((Ext.refl _).alloc _)).ext ((Ext.refl _).alloc _)
      have hB : EBox (w.heap.size + 1) s L U (((w.alloc (.cells #[.int .u64 (V 0 : Nat), .int .u64 (V 1 : Nat), .int .u64 (V 2 : Nat), .int .u64 (V 3 : Nat)] 72)).alloc (.cells #[.string s, .int .u64 (L 0 : Nat), .int .u64 (L 1 : Nat), .int .u64 (L 2 : Nat), .int .u64 (L 3 : Nat), .int .u64 (U 0 : Nat), .int .u64 (U 1 : Nat), .int .u64 (U 2 : Nat), .int .u64 (U 3 : Nat)] 38)).alloc (.cells #[.string ⟨#[]⟩, .int .u64 0, .int .u64 0, .int .u64 0, .int .u64 0, .int .u64 0, .int .u64 0, .int .u64 0, .int .u64 0] 38)) := by
        have h := EBox.new (w.alloc (.cells #[.int .u64 (V 0 : Nat), .int .u64 (V 1 : Nat), .int .u64 (V 2 : Nat), .int .u64 (V 3 : Nat)] 72)) s L U 38
        rw [World.size_alloc] at h
        exact h.ext ((Ext.refl _).alloc _)
      have hR : EBox (w.heap.size + 1 + 1) ⟨#[]⟩ (fun _ => 0) (fun _ => 0) (((w.alloc (.cells #[.int .u64 (V 0 : Nat), .int .u64 (V 1 : Nat), .int .u64 (V 2 : Nat), .int .u64 (V 3 : Nat)] 72)).alloc (.cells #[.string s, .int .u64 (L 0 : Nat), .int .u64 (L 1 : Nat), .int .u64 (L 2 : Nat), .int .u64 (L 3 : Nat), .int .u64 (U 0 : Nat), .int .u64 (U 1 : Nat), .int .u64 (U 2 : Nat), .int .u64 (U 3 : Nat)] 38)).alloc (.cells #[.string ⟨#[]⟩, .int .u64 0, .int .u64 0, .int .u64 0, .int .u64 0, .int .u64 0, .int .u64 0, .int .u64 0, .int .u64 0] 38)) := by
        have h := EBox.new ((w.alloc (.cells #[.int .u64 (V 0 : Nat), .int .u64 (V 1 : Nat), .int .u64 (V 2 : Nat), .int .u64 (V 3 : Nat)] 72)).alloc (.cells #[.string s, .int .u64 (L 0 : Nat), .int .u64 (L 1 : Nat), .int .u64 (L 2 : Nat), .int .u64 (L 3 : Nat), .int .u64 (U 0 : Nat), .int .u64 (U 1 : Nat), .int .u64 (U 2 : Nat), .int .u64 (U 3 : Nat)] 38)) ⟨#[]⟩ (fun _ => 0) (fun _ => 0) 38
        rw [World.size_alloc, World.size_alloc] at h
        exact h
      have hE : Ext w (((w.alloc (.cells #[.int .u64 (V 0 : Nat), .int .u64 (V 1 : Nat), .int .u64 (V 2 : Nat), .int .u64 (V 3 : Nat)] 72)).alloc (.cells #[.string s, .int .u64 (L 0 : Nat), .int .u64 (L 1 : Nat), .int .u64 (L 2 : Nat), .int .u64 (L 3 : Nat), .int .u64 (U 0 : Nat), .int .u64 (U 1 : Nat), .int .u64 (U 2 : Nat), .int .u64 (U 3 : Nat)] 38)).alloc (.cells #[.string ⟨#[]⟩, .int .u64 0, .int .u64 0, .int .u64 0, .int .u64 0, .int .u64 0, .int .u64 0, .int .u64 0, .int .u64 0] 38)) := (((Ext.refl w).alloc _).alloc _).alloc _
      replace C := Lib.hid C
      replace F := Lib.hid F
      go_enter Tryz.func39, Tryz.ntmps39
      obtain ⟨_, a0, a1, a2, a3, _, _, _, _⟩ := hV.four
      obtain ⟨_, e0, e1, e2, e3, e4, e5, e6, e7, e8, g0, g1, g2, g3, g4, g5, g6, g7, g8⟩ := id hB
      obtain ⟨_, z0, z1, z2, z3, z4, z5, z6, z7, z8, f0, f1, f2, f3, f4, f5, f6, f7, f8⟩ := id hR
      change World.cell? _ _ = some (.int .u64 0) at z1 z2 z3 z4 z5 z6 z7 z8
      go_wp2_with fail
      refine (C.out _).mono ?_; rintro e w1 ⟨rfl, h1⟩
      clear a0 a1 a2 a3 e0 e1 e2 e3 e4 e5 e6 e7 e8 g0 g1 g2 g3 g4 g5 g6 g7 g8 z0 z1 z2 z3 z4 z5 z6 z7 z8 f0 f1 f2 f3 f4 f5 f6 f7 f8
      replace hV := hV.ext h1
      replace hB := hB.ext h1
      replace hR := hR.ext h1
      replace hE := hE.trans h1
      clear h1
      clear C
      have hEn := (Ext.refl w1).alloc (.cells #[.int .u64 (N 0 : Nat), .int .u64 (N 1 : Nat), .int .u64 (N 2 : Nat), .int .u64 (N 3 : Nat)] 25)
      have hN : VBox w1.heap.size N (w1.alloc (.cells #[.int .u64 (N 0 : Nat), .int .u64 (N 1 : Nat), .int .u64 (N 2 : Nat), .int .u64 (N 3 : Nat)] 25)) := VBox.new w1 N 25
      replace hV := hV.ext hEn
      replace hB := hB.ext hEn
      replace hR := hR.ext hEn
      replace hE := hE.trans hEn
      clear hEn
      obtain ⟨_, a0, a1, a2, a3, _, _, _, _⟩ := hV.four
      obtain ⟨_, e0, e1, e2, e3, e4, e5, e6, e7, e8, g0, g1, g2, g3, g4, g5, g6, g7, g8⟩ := id hB
      obtain ⟨_, z0, z1, z2, z3, z4, z5, z6, z7, z8, f0, f1, f2, f3, f4, f5, f6, f7, f8⟩ := id hR
      change World.cell? _ _ = some (.int .u64 0) at z1 z2 z3 z4 z5 z6 z7 z8
      obtain ⟨_, n0, n1, n2, n3, _, _, _, _⟩ := hN.four
      go_wp2_with fail
      refine (F.out _).mono ?_; rintro e w2 ⟨rfl, h2⟩
      clear a0 a1 a2 a3 e0 e1 e2 e3 e4 e5 e6 e7 e8 g0 g1 g2 g3 g4 g5 g6 g7 g8 z0 z1 z2 z3 z4 z5 z6 z7 z8 f0 f1 f2 f3 f4 f5 f6 f7 f8 n0 n1 n2 n3
      replace hN := hN.ext h2
      replace hV := hV.ext h2
      replace hB := hB.ext h2
      replace hR := hR.ext h2
      replace hE := hE.trans h2
      clear h2
      clear F
      obtain ⟨_, a0, a1, a2, a3, _, _, _, _⟩ := hV.four
      obtain ⟨_, e0, e1, e2, e3, e4, e5, e6, e7, e8, g0, g1, g2, g3, g4, g5, g6, g7, g8⟩ := id hB
      obtain ⟨_, z0, z1, z2, z3, z4, z5, z6, z7, z8, f0, f1, f2, f3, f4, f5, f6, f7, f8⟩ := id hR
      change World.cell? _ _ = some (.int .u64 0) at z1 z2 z3 z4 z5 z6 z7 z8
      obtain ⟨_, n0, n1, n2, n3, _, _, _, _⟩ := hN.four
      go_wp2
      have hP := hR.put s L U
      unfold put9 at hP
      obtain ⟨_, k0, k1, k2, k3, k4, k5, k6, k7, k8, _, _, _, _, _, _, _, _, _⟩ := hP
      refine bodyPost_ret (v := .tuple #[.agg #[.string s, .int .u64 (L 0 : Nat), .int .u64 (L 1 : Nat), .int .u64 (L 2 : Nat), .int .u64 (L 3 : Nat), .int .u64 (U 0 : Nat), .int .u64 (U 1 : Nat), .int .u64 (U 2 : Nat), .int .u64 (U 3 : Nat)], .int .i64 10]) (by simp [results, Tryz.results39, go_sem, k0, k1, k2, k3, k4, k5, k6, k7, k8]) rfl ?_
      exact ⟨rfl, Ext.put9 hE (b := w.heap.size + 1 + 1) (by omega) s L U⟩
    | true =>
      have hf : chgE v (s, l, u) = ((s, l, vadd u v), 0) := by unfold chgE; rw [if_neg hd1, if_neg (show ¬ vfits (vadd u v) l = false by rw [hd2]; simp)]
      rw [hf]
      rw [hd2] at F
      clear hf hN0 hd hd1 hd2 hl hu hv
      unfold entVal uAt
      unfold vVal vF at C F
      simp only
      generalize vG (vadd u v) = N at *
      generalize vG v = V at *
      generalize vG l = L at *
      generalize vG u = U at *
      have hV : VBox w.heap.size V (((w.alloc (.cells #[.int .u64 (V 0 : Nat), .int .u64 (V 1 : Nat), .int .u64 (V 2 : Nat), .int .u64 (V 3 : Nat)] 72)).alloc (.cells #[.string s, .int .u64 (L 0 : Nat), .int .u64 (L 1 : Nat), .int .u64 (L 2 : Nat), .int .u64 (L 3 : Nat), .int .u64 (U 0 : Nat), .int .u64 (U 1 : Nat), .int .u64 (U 2 : Nat), .int .u64 (U 3 : Nat)] 38)).alloc (.cells #[.string ⟨#[]⟩, .int .u64 0, .int .u64 0, .int .u64 0, .int .u64 0, .int .u64 0, .int .u64 0, .int .u64 0, .int .u64 0] 38)) := ((VBox.new w V _).ext ((Ext.refl _).alloc _)).ext ((Ext.refl _).alloc _)
      have hB : EBox (w.heap.size + 1) s L U (((w.alloc (.cells #[.int .u64 (V 0 : Nat), .int .u64 (V 1 : Nat), .int .u64 (V 2 : Nat), .int .u64 (V 3 : Nat)] 72)).alloc (.cells #[.string s, .int .u64 (L 0 : Nat), .int .u64 (L 1 : Nat), .int .u64 (L 2 : Nat), .int .u64 (L 3 : Nat), .int .u64 (U 0 : Nat), .int .u64 (U 1 : Nat), .int .u64 (U 2 : Nat), .int .u64 (U 3 : Nat)] 38)).alloc (.cells #[.string ⟨#[]⟩, .int .u64 0, .int .u64 0, .int .u64 0, .int .u64 0, .int .u64 0, .int .u64 0, .int .u64 0, .int .u64 0] 38)) := by
        have h := EBox.new (w.alloc (.cells #[.int .u64 (V 0 : Nat), .int .u64 (V 1 : Nat), .int .u64 (V 2 : Nat), .int .u64 (V 3 : Nat)] 72)) s L U 38
        rw [World.size_alloc] at h
        exact h.ext ((Ext.refl _).alloc _)
      have hR : EBox (w.heap.size + 1 + 1) ⟨#[]⟩ (fun _ => 0) (fun _ => 0) (((w.alloc (.cells #[.int .u64 (V 0 : Nat), .int .u64 (V 1 : Nat), .int .u64 (V 2 : Nat), .int .u64 (V 3 : Nat)] 72)).alloc (.cells #[.string s, .int .u64 (L 0 : Nat), .int .u64 (L 1 : Nat), .int .u64 (L 2 : Nat), .int .u64 (L 3 : Nat), .int .u64 (U 0 : Nat), .int .u64 (U 1 : Nat), .int .u64 (U 2 : Nat), .int .u64 (U 3 : Nat)] 38)).alloc (.cells #[.string ⟨#[]⟩, .int .u64 0, .int .u64 0, .int .u64 0, .int .u64 0, .int .u64 0, .int .u64 0, .int .u64 0, .int .u64 0] 38)) := by
        have h := EBox.new ((w.alloc (.cells #[.int .u64 (V 0 : Nat), .int .u64 (V 1 : Nat), .int .u64 (V 2 : Nat), .int .u64 (V 3 : Nat)] 72)).alloc (.cells #[.string s, .int .u64 (L 0 : Nat), .int .u64 (L 1 : Nat), .int .u64 (L 2 : Nat), .int .u64 (L 3 : Nat), .int .u64 (U 0 : Nat), .int .u64 (U 1 : Nat), .int .u64 (U 2 : Nat), .int .u64 (U 3 : Nat)] 38)) ⟨#[]⟩ (fun _ => 0) (fun _ => 0) 38
        rw [World.size_alloc, World.size_alloc] at h
        exact h
      have hE : Ext w (((w.alloc (.cells #[.int .u64 (V 0 : Nat), .int .u64 (V 1 : Nat), .int .u64 (V 2 : Nat), .int .u64 (V 3 : Nat)] 72)).alloc (.cells #[.string s, .int .u64 (L 0 : Nat), .int .u64 (L 1 : Nat), .int .u64 (L 2 : Nat), .int .u64 (L 3 : Nat), .int .u64 (U 0 : Nat), .int .u64 (U 1 : Nat), .int .u64 (U 2 : Nat), .int .u64 (U 3 : Nat)] 38)).alloc (.cells #[.string ⟨#[]⟩, .int .u64 0, .int .u64 0, .int .u64 0, .int .u64 0, .int .u64 0, .int .u64 0, .int .u64 0, .int .u64 0] 38)) := (((Ext.refl w).alloc _).alloc _).alloc _
      replace C := Lib.hid C
      replace F := Lib.hid F
      go_enter Tryz.func39, Tryz.ntmps39
      obtain ⟨_, a0, a1, a2, a3, _, _, _, _⟩ := hV.four
      obtain ⟨_, e0, e1, e2, e3, e4, e5, e6, e7, e8, g0, g1, g2, g3, g4, g5, g6, g7, g8⟩ := id hB
      obtain ⟨_, z0, z1, z2, z3, z4, z5, z6, z7, z8, f0, f1, f2, f3, f4, f5, f6, f7, f8⟩ := id hR
      change World.cell? _ _ = some (.int .u64 0) at z1 z2 z3 z4 z5 z6 z7 z8
      go_wp2_with fail
      refine (C.out _).mono ?_; rintro e w1 ⟨rfl, h1⟩
      clear a0 a1 a2 a3 e0 e1 e2 e3 e4 e5 e6 e7 e8 g0 g1 g2 g3 g4 g5 g6 g7 g8 z0 z1 z2 z3 z4 z5 z6 z7 z8 f0 f1 f2 f3 f4 f5 f6 f7 f8
      replace hV := hV.ext h1
      replace hB := hB.ext h1
      replace hR := hR.ext h1
      replace hE := hE.trans h1
      clear h1
      clear C
      have hEn := (Ext.refl w1).alloc (.cells #[.int .u64 (N 0 : Nat), .int .u64 (N 1 : Nat), .int .u64 (N 2 : Nat), .int .u64 (N 3 : Nat)] 25)
      have hN : VBox w1.heap.size N (w1.alloc (.cells #[.int .u64 (N 0 : Nat), .int .u64 (N 1 : Nat), .int .u64 (N 2 : Nat), .int .u64 (N 3 : Nat)] 25)) := VBox.new w1 N 25
      replace hV := hV.ext hEn
      replace hB := hB.ext hEn
      replace hR := hR.ext hEn
      replace hE := hE.trans hEn
      clear hEn
      obtain ⟨_, a0, a1, a2, a3, _, _, _, _⟩ := hV.four
      obtain ⟨_, e0, e1, e2, e3, e4, e5, e6, e7, e8, g0, g1, g2, g3, g4, g5, g6, g7, g8⟩ := id hB
      obtain ⟨_, z0, z1, z2, z3, z4, z5, z6, z7, z8, f0, f1, f2, f3, f4, f5, f6, f7, f8⟩ := id hR
      change World.cell? _ _ = some (.int .u64 0) at z1 z2 z3 z4 z5 z6 z7 z8
      obtain ⟨_, n0, n1, n2, n3, _, _, _, _⟩ := hN.four
      go_wp2_with fail
      refine (F.out _).mono ?_; rintro e w2 ⟨rfl, h2⟩
      clear a0 a1 a2 a3 e0 e1 e2 e3 e4 e5 e6 e7 e8 g0 g1 g2 g3 g4 g5 g6 g7 g8 z0 z1 z2 z3 z4 z5 z6 z7 z8 f0 f1 f2 f3 f4 f5 f6 f7 f8 n0 n1 n2 n3
      replace hN := hN.ext h2
      replace hV := hV.ext h2
      replace hB := hB.ext h2
      replace hR := hR.ext h2
      replace hE := hE.trans h2
      clear h2
      clear F
      obtain ⟨_, a0, a1, a2, a3, _, _, _, _⟩ := hV.four
      obtain ⟨_, e0, e1, e2, e3, e4, e5, e6, e7, e8, g0, g1, g2, g3, g4, g5, g6, g7, g8⟩ := id hB
      obtain ⟨_, z0, z1, z2, z3, z4, z5, z6, z7, z8, f0, f1, f2, f3, f4, f5, f6, f7, f8⟩ := id hR
      change World.cell? _ _ = some (.int .u64 0) at z1 z2 z3 z4 z5 z6 z7 z8
      obtain ⟨_, n0, n1, n2, n3, _, _, _, _⟩ := hN.four
      go_wp2
      have hP := ((((hR.far (i := 5) (c := w.heap.size + 1) (by omega) (.int .u64 (N 0 : Nat))).far (i := 6) (c := w.heap.size + 1) (by omega) (.int .u64 (N 1 : Nat))).far (i := 7) (c := w.heap.size + 1) (by omega) (.int .u64 (N 2 : Nat))).far (i := 8) (c := w.heap.size + 1) (by omega) (.int .u64 (N 3 : Nat))).put s L N
      unfold put9 at hP
      obtain ⟨_, k0, k1, k2, k3, k4, k5, k6, k7, k8, _, _, _, _, _, _, _, _, _⟩ := hP
      refine bodyPost_ret (v := .tuple #[.agg #[.string s, .int .u64 (L 0 : Nat), .int .u64 (L 1 : Nat), .int .u64 (L 2 : Nat), .int .u64 (L 3 : Nat), .int .u64 (N 0 : Nat), .int .u64 (N 1 : Nat), .int .u64 (N 2 : Nat), .int .u64 (N 3 : Nat)], .int .i64 0]) (by simp [results, Tryz.results39, go_sem, k0, k1, k2, k3, k4, k5, k6, k7, k8]) rfl ?_
      exact ⟨rfl, Ext.put9 ((((hE.setCell (p := ⟨w.heap.size + 1, 5, none⟩) (by show w.heap.size ≤ w.heap.size + 1; omega) (.int .u64 (N 0 : Nat))).setCell (p := ⟨w.heap.size + 1, 6, none⟩) (by show w.heap.size ≤ w.heap.size + 1; omega) (.int .u64 (N 1 : Nat))).setCell (p := ⟨w.heap.size + 1, 7, none⟩) (by show w.heap.size ≤ w.heap.size + 1; omega) (.int .u64 (N 2 : Nat))).setCell (p := ⟨w.heap.size + 1, 8, none⟩) (by show w.heap.size ≤ w.heap.size + 1; omega) (.int .u64 (N 3 : Nat))) (b := w.heap.size + 1 + 1) (by omega) s L N⟩

end Go.Proofs.YtopnllbfhhjobaaGreatDoor

namespace Go.Proofs.YtopnllbfhhjobaaGreatDoor
open Go.RowKit Go.Dm

set_option maxHeartbeats 2000000 in
set_option maxRecDepth 100000 in
theorem r03fits_w (a b : Vc) (w : World) :
    Calls Tryz.prog 37 #[vVal a, vVal b] w fun e w' => e = .returned (.bool (vfits a b)) ∧ Ext w w' := by
  have hF : vfits a b = true ↔ _ := vfits_four
  unfold vVal
  generalize vfits a b = d at *
  generalize vG a = A at *
  generalize vG b = B at *
  have x0 : VBox w.heap.size A ((w.alloc (.cells #[.int .u64 (A 0 : Nat), .int .u64 (A 1 : Nat), .int .u64 (A 2 : Nat), .int .u64 (A 3 : Nat)] 34)).alloc (.cells #[.int .u64 (B 0 : Nat), .int .u64 (B 1 : Nat), .int .u64 (B 2 : Nat), .int .u64 (B 3 : Nat)] 34)) := (VBox.new w A _).ext ((Ext.refl _).alloc _)
  have x1 := VBox.new (w.alloc (.cells #[.int .u64 (A 0 : Nat), .int .u64 (A 1 : Nat), .int .u64 (A 2 : Nat), .int .u64 (A 3 : Nat)] 34)) B 34
  rw [World.size_alloc] at x1
  have hE : Ext w ((w.alloc (.cells #[.int .u64 (A 0 : Nat), .int .u64 (A 1 : Nat), .int .u64 (A 2 : Nat), .int .u64 (A 3 : Nat)] 34)).alloc (.cells #[.int .u64 (B 0 : Nat), .int .u64 (B 1 : Nat), .int .u64 (B 2 : Nat), .int .u64 (B 3 : Nat)] 34)) := ((Ext.refl w).alloc _).alloc _
  obtain ⟨_, a0, a1, a2, a3, _, _, _, _⟩ := x0.four
  obtain ⟨_, b0, b1, b2, b3, _, _, _, _⟩ := x1.four
  clear x0 x1
  unfold vF

  by_cases h0 : A 0 ≤ B 0
  · by_cases h1 : A 1 ≤ B 1
    · by_cases h2 : A 2 ≤ B 2
      · by_cases h3 : A 3 ≤ B 3
        · obtain rfl : d = true := hF.2 ⟨h0, h1, h2, h3⟩
          clear hF
          go_enter Tryz.func37, Tryz.ntmps37
          go_wp2
          go_ret
          exact ⟨rfl, hE⟩
        · obtain rfl : d = false := Bool.eq_false_iff.2 fun e => by have := hF.1 e; omega
          clear hF
          go_enter Tryz.func37, Tryz.ntmps37
          go_wp2
          go_ret
          exact ⟨rfl, hE⟩
      · obtain rfl : d = false := Bool.eq_false_iff.2 fun e => by have := hF.1 e; omega
        clear hF
        go_enter Tryz.func37, Tryz.ntmps37
        go_wp2
        go_ret
        exact ⟨rfl, hE⟩
    · obtain rfl : d = false := Bool.eq_false_iff.2 fun e => by have := hF.1 e; omega
      clear hF
      go_enter Tryz.func37, Tryz.ntmps37
      go_wp2
      go_ret
      exact ⟨rfl, hE⟩
  · obtain rfl : d = false := Bool.eq_false_iff.2 fun e => by have := hF.1 e; omega
    clear hF
    go_enter Tryz.func37, Tryz.ntmps37
    go_wp2
    go_ret
    exact ⟨rfl, hE⟩


set_option maxHeartbeats 4000000 in
set_option maxRecDepth 100000 in
theorem r03put_w (a : Vc) (ha : OkV a) (w : World) :
    Calls Tryz.prog 59 #[vVal a] w fun e w' => e = .returned (.string ⟨(putV a).toArray⟩) ∧ Ext w w' := by
  have hl := fun k => putL_ten (u := vG a k) (ha.u64 k)
  have CU := fun (k : Nat) (U : World) => rput_w (vG a k) U (ha.u64 k)
  obtain ⟨P, hP⟩ : ∃ P : Nat → ByteArray, ∀ k, (⟨(putL (vG a k)).toArray⟩ : ByteArray) = P k := ⟨fun k => ⟨(putL (vG a k)).toArray⟩, fun _ => rfl⟩
  have hR : Hid ((⟨(putV a).toArray⟩ : ByteArray) = P 0 ++ P 1 ++ P 2 ++ P 3) := by
    show _ = _
    simp only [← hP]
    refine (mk_bytes ?_).symm
    simp [putV]
  have hs : ∀ k, (P k).size ≤ 10 := fun k => by
    rw [← hP]
    show (putL _).toArray.size ≤ 10
    rw [List.size_toArray]; exact hl k
  simp only [hP] at CU
  clear hP hl
  unfold vVal
  generalize vG a = A at *
  have s0 := hs 0
  have s1 := hs 1
  have s2 := hs 2
  have s3 := hs 3
  clear hs
  obtain ⟨l1, c0, c1, c2, c3, _, _, _, _⟩ := (VBox.new w A 34).four
  have hE : Ext w (w.alloc (.cells #[.int .u64 (A 0 : Nat), .int .u64 (A 1 : Nat), .int .u64 (A 2 : Nat), .int .u64 (A 3 : Nat)] 34)) := (Ext.refl w).alloc _
  unfold vF
  have C0 := Lib.hid (CU 0)
  have C1 := Lib.hid (CU 1)
  have C2 := Lib.hid (CU 2)
  have C3 := Lib.hid (CU 3)
  clear CU
  generalize P 0 = p0 at *
  generalize P 1 = p1 at *
  generalize P 2 = p2 at *
  generalize P 3 = p3 at *
  go_enter Tryz.func59, Tryz.ntmps59
  go_wp2_with fail
  generalize w.alloc (.cells #[.int .u64 (A 0 : Nat), .int .u64 (A 1 : Nat), .int .u64 (A 2 : Nat), .int .u64 (A 3 : Nat)] 34) = w1 at *
  refine Dm.wp_region_grow (by kernel_rfl) (by kernel_rfl) ?_
  repeat (go_big_quiet_step (first
    | (go_at_call 57; with_reducible exact Calls.quietE (C0.out _))
    | (go_at_call 57; with_reducible exact Calls.quietE (C1.out _))
    | (go_at_call 57; with_reducible exact Calls.quietE (C2.out _))
    | (go_at_call 57; with_reducible exact Calls.quietE (C3.out _))))
  refine wpQuiet_nil ?_
  intro U h1
  go_wp2
  go_ret
  exact ⟨by rw [hR.out]; rfl, hE.trans h1⟩


set_option maxHeartbeats 4000000 in
set_option maxRecDepth 100000 in
theorem r03get_w (s : ByteArray) (p : Int) (w : World) (hs : s.size ≤ 281474976710656) :
    Calls Tryz.prog 49 #[.string s, .int .i64 p] w fun e w' => e = .returned (.tuple #[vVal (getV s.data.toList p).1, .int .i64 (getV s.data.toList p).2.1, .bool (getV s.data.toList p).2.2]) ∧ Ext w w' := by
  have CG := fun (q : Int) (U : World) => rget_w s q U hs
  have hst := fun k => show getVF s.data.toList p (k + 1) = _ from rfl
  have hfin := fun k => getVF_stop (l := s.data.toList) (p := p) (k := k)
  have hle := fun k ns q => getVF_len (l := s.data.toList) (p := p) (k := k) (ns := ns) (q := q)
  have hV : getV s.data.toList p = match getVF s.data.toList p 4 with
    | some (a, q) => (a, q, true)
    | none => (noV, 0, false) := rfl
  have h0 : getVF s.data.toList p 0 = some ([], p) := rfl
  generalize getV s.data.toList p = V at *
  unfold getVF at hst
  change ∀ k, getVF s.data.toList p (k + 1) = match getVF s.data.toList p k with
    | none => none
    | some (ns, q) => if (getI s.data.toList q).2.2 then some (ns ++ [(getI s.data.toList q).1], (getI s.data.toList q).2.1) else none at hst
  generalize getVF s.data.toList p = gf at *
  generalize getI s.data.toList = gi at *
  replace CG := Lib.hid CG
  replace hst := Lib.hid hst
  replace hfin := Lib.hid hfin
  replace hle := Lib.hid hle
  replace hV := Lib.hid hV
  replace h0 := Lib.hid h0
  have hz1 := VBox.new (w.alloc (.cells #[.int .u64 (0 : Nat), .int .u64 (0 : Nat), .int .u64 (0 : Nat), .int .u64 (0 : Nat)] 34)) (fun _ => 0) 34
  rw [World.size_alloc] at hz1
  go_enter Tryz.func49, Tryz.ntmps49
  go_wp2
  go_loopw [1, 8] (fun q i wr => ∃ (k : Nat) (ns : List Nat) (z : Int), k ≤ 4 ∧ i = .int .i64 k ∧ q = .int .i64 z ∧ ns.length = k ∧ Ext w wr ∧ VBox w.heap.size (fun _ => 0) wr ∧ VBox (w.heap.size + 1) (fun j => ns.getD j 0) wr ∧ Hid (gf k = some (ns, z))) (fun _ i _ => 4 - (intOf i).toNat)
  case atStart => exact ⟨0, [], p, by omega, rfl, rfl, rfl, ((Ext.refl _).alloc _).alloc _, (VBox.new w (fun _ => 0) _).ext ((Ext.refl _).alloc _), hz1.congr (fun j _ => by simp), h0.out⟩
  case round =>
    obtain ⟨k, ns, z, hk, rfl, rfl, hnl, hb, v3, v4, HG⟩ := hrel
    by_cases hlt : k < 4
    · have C := CG.out z wr
      have hs1 := hst.out k
      rw [HG.out] at hs1
      simp only at hs1
      generalize gi z = gz at C hs1
      obtain ⟨x, y, o⟩ := gz
      simp only at C hs1
      cases o with
      | false =>
        simp only [Bool.false_eq_true, if_false] at hs1
        have hn4 := hfin.out (k + 1) hs1 (4 - (k + 1))
        rw [show k + 1 + (4 - (k + 1)) = 4 by omega] at hn4
        have hVn : Hid (V = (noV, 0, false)) := by show _ = _; rw [hV.out, hn4]
        clear hs1 hn4
        replace C := Lib.hid C
        go_wp2_with fail
        refine C.out.mono ?_; rintro e w2 ⟨rfl, h2⟩
        obtain ⟨_, d0, d1, d2, d3, e0, e1, e2, e3⟩ := (v3.ext h2).four
        go_wp2
        have z0 := ((((v3.ext h2).set (k := 0) (v := 0) (by omega)).set (k := 1) (v := 0) (by omega)).set (k := 2) (v := 0) (by omega)).set (k := 3) (v := 0) (by omega)
        have k0 := z0.cell 0 (by omega)
        have k1 := z0.cell 1 (by omega)
        have k2 := z0.cell 2 (by omega)
        have k3 := z0.cell 3 (by omega)
        simp at k0 k1 k2 k3
        refine bodyPost_ret (v := .tuple #[.agg #[.int .u64 0, .int .u64 0, .int .u64 0, .int .u64 0], .int .i64 0, .bool false]) (by simp [results, Tryz.results49, go_sem, k0, k1, k2, k3]) rfl ?_
        exact ⟨by rw [hVn.out]; rfl, (hb.trans h2).put4 (b := w.heap.size) (Nat.le_refl _) (fun _ => 0)⟩
      | true =>
        simp only [if_true] at hs1
        replace hs1 := Lib.hid hs1
        replace C := Lib.hid C
        go_wp2_with fail
        refine C.out.mono ?_; rintro e w2 ⟨rfl, h2⟩
        have u4 := v4.ext h2
        have d0 := u4.cell _ hlt
        have e0 := u4.free _ hlt
        have hst4 : VBox (w.heap.size + 1) (fun j => (ns ++ [x]).getD j 0) (w2.setCell ⟨w.heap.size + 1, k, none⟩ (.int .u64 (x : Nat))) := (u4.set hlt).congr fun j _ => by
          by_cases e : j = k
          · subst e; rw [← hnl]; simp
          · by_cases h3 : j < k
            · simp [e, List.getD_eq_getElem?_getD, List.getElem?_append_left (show j < ns.length by omega)]
            · simp [e, List.getD_eq_getElem?_getD, List.getElem?_eq_none (show ns.length ≤ j by omega), List.getElem?_eq_none (show (ns ++ [x]).length ≤ j by simp; omega)]
        go_wp2
        go_roundw
        case rel => exact ⟨k + 1, ns ++ [x], y, by omega, by go_num, rfl, by simp [hnl], (hb.trans h2).setCell (p := ⟨w.heap.size + 1, _, none⟩) (Nat.le_add_right _ 1) _, (v3.ext h2).far (by omega) _, hst4, hs1⟩
        case measure => simp [intOf]; omega
    · obtain rfl : k = 4 := by omega
      have hVn : Hid (V = (ns, z, true)) := by show _ = _; rw [hV.out, HG.out]
      obtain ⟨x0, x1, x2, x3, rfl⟩ : ∃ x0 x1 x2 x3, ns = [x0, x1, x2, x3] := by
        match ns, hnl with
        | [x0, x1, x2, x3], _ => exact ⟨x0, x1, x2, x3, rfl⟩
      have d0 : wr.cell? ⟨w.heap.size + 1, 0, none⟩ = some (.int .u64 (x0 : Nat)) := v4.cell 0 (by omega)
      have d1 : wr.cell? ⟨w.heap.size + 1, 1, none⟩ = some (.int .u64 (x1 : Nat)) := v4.cell 1 (by omega)
      have d2 : wr.cell? ⟨w.heap.size + 1, 2, none⟩ = some (.int .u64 (x2 : Nat)) := v4.cell 2 (by omega)
      have d3 : wr.cell? ⟨w.heap.size + 1, 3, none⟩ = some (.int .u64 (x3 : Nat)) := v4.cell 3 (by omega)
      have e0 := v3.free 0 (by omega)
      have g0 := v3.cell 0 (by omega)
      have e1 := v3.free 1 (by omega)
      have g1 := v3.cell 1 (by omega)
      have e2 := v3.free 2 (by omega)
      have g2 := v3.cell 2 (by omega)
      have e3 := v3.free 3 (by omega)
      have g3 := v3.cell 3 (by omega)
      clear hnl
      go_wp2
      have z0 := (((v3.set (k := 0) (v := x0) (by omega)).set (k := 1) (v := x1) (by omega)).set (k := 2) (v := x2) (by omega)).set (k := 3) (v := x3) (by omega)
      have k0 := z0.cell 0 (by omega)
      have k1 := z0.cell 1 (by omega)
      have k2 := z0.cell 2 (by omega)
      have k3 := z0.cell 3 (by omega)
      simp at k0 k1 k2 k3
      refine bodyPost_ret (v := .tuple #[.agg #[.int .u64 (x0 : Nat), .int .u64 (x1 : Nat), .int .u64 (x2 : Nat), .int .u64 (x3 : Nat)], .int .i64 z, .bool true]) (by simp [results, Tryz.results49, go_sem, k0, k1, k2, k3]) rfl ?_
      exact ⟨by rw [hVn.out]; rfl, hb.put4 (b := w.heap.size) (Nat.le_refl _) (fun j => [x0, x1, x2, x3].getD j 0)⟩


end Go.Proofs.YtopnllbfhhjobaaGreatDoor
