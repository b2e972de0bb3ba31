/- Texts one behind the other: Chapter 3: the plain laws of order, sums, fits. No program in sight; Chapter 3: the plain laws of sums, times, holds. No program in sight; Chapter 10: the walks of charge, refund; Chapter 10: charging, giving back, setting, over the eight paths. No program in sight. -/
import Derived.Test.YtopnllbfhhjobaaDoorT10
import Derived.Test.YtopnllbfhhjobaaDoorT16
namespace Go.Dm
open Go Go.RowKit

theorem vordF_cases : ∀ xs ys : List Nat, vordF xs ys = -1 ∨ vordF xs ys = 0 ∨ vordF xs ys = 1
  | [], _ => by simp [vordF]
  | _ :: _, [] => by simp [vordF]
  | x :: xs, y :: ys => by
    unfold vordF
    split
    · exact Or.inl rfl
    · split
      · exact Or.inr (Or.inr rfl)
      · exact vordF_cases xs ys
theorem vordF_flip : ∀ xs ys : List Nat, vordF ys xs = - vordF xs ys
  | [], [] => by simp [vordF]
  | [], _ :: _ => by simp [vordF]
  | _ :: _, [] => by simp [vordF]
  | x :: xs, y :: ys => by
    have ih := vordF_flip xs ys
    simp only [vordF]
    by_cases h : x < y
    · rw [if_pos h, if_neg (by omega), if_pos h]; rfl
    · rw [if_neg h]
      by_cases h' : y < x
      · rw [if_pos h', if_pos h', if_neg h]
      · rw [if_neg h', if_neg h', if_neg h]; exact ih
theorem vordF_zero : ∀ xs ys : List Nat, xs.length = ys.length → (vordF xs ys = 0 ↔ xs = ys)
  | [], [], _ => by simp [vordF]
  | x :: xs, y :: ys, h => by
    have ih := vordF_zero xs ys (by simpa using h)
    simp only [vordF]
    by_cases h1 : x < y
    · rw [if_pos h1]; simp; omega
    · rw [if_neg h1]
      by_cases h2 : y < x
      · rw [if_pos h2]; simp; omega
      · rw [if_neg h2, ih]
        have : x = y := by omega
        simp [this]
theorem vordF_trans : ∀ xs ys zs : List Nat, xs.length = ys.length → ys.length = zs.length → vordF xs ys = -1 → vordF ys zs = -1 → vordF xs zs = -1
  | [], _, _, _, _, h, _ => by simp [vordF] at h
  | _ :: _, [], _, h, _, _, _ => by simp at h
  | _ :: _, _ :: _, [], _, h, _, _ => by simp at h
  | x :: xs, y :: ys, z :: zs, h1, h2, h3, h4 => by
    have ih := vordF_trans xs ys zs (by simpa using h1) (by simpa using h2)
    simp only [vordF] at h3 h4 ⊢
    split at h3
    · split at h4
      · rw [if_pos (by omega)]
      · split at h4
        · simp at h4
        · rw [if_pos (by omega)]
    · split at h3
      · simp at h3
      · split at h4
        · rw [if_pos (by omega)]
        · split at h4
          · simp at h4
          · rw [if_neg (by omega), if_neg (by omega)]; exact ih h3 h4
theorem vord_cases (a b : Vc) : vord a b = -1 ∨ vord a b = 0 ∨ vord a b = 1 := vordF_cases a b
theorem vord_flip (a b : Vc) : vord b a = - vord a b := vordF_flip a b
theorem vord_zero {a b : Vc} (ha : OkV a) (hb : OkV b) : vord a b = 0 ↔ a = b := vordF_zero a b (ha.len.trans hb.len.symm)
theorem vord_trans {a b c : Vc} (ha : OkV a) (hb : OkV b) (hc : OkV c) (h1 : vord a b = -1) (h2 : vord b c = -1) : vord a c = -1 :=
  vordF_trans a b c (ha.len.trans hb.len.symm) (hb.len.trans hc.len.symm) h1 h2

theorem vfits_four {a b : Vc} : vfits a b = true ↔ vG a 0 ≤ vG b 0 ∧ vG a 1 ≤ vG b 1 ∧ vG a 2 ≤ vG b 2 ∧ vG a 3 ≤ vG b 3 := by
  rw [vfits_iff]
  constructor
  · intro h
    exact ⟨h 0 (by omega), h 1 (by omega), h 2 (by omega), h 3 (by omega)⟩
  · intro ⟨h0, h1, h2, h3⟩ k hk
    match k, hk with
    | 0, _ => exact h0
    | 1, _ => exact h1
    | 2, _ => exact h2
    | 3, _ => exact h3
theorem vG_eq {a b : Vc} (ha : OkV a) (hb : OkV b) : a = b ↔ vG a 0 = vG b 0 ∧ vG a 1 = vG b 1 ∧ vG a 2 = vG b 2 ∧ vG a 3 = vG b 3 := by
  obtain ⟨x, y, z, u, rfl, _⟩ := ha.ex
  obtain ⟨x', y', z', u', rfl, _⟩ := hb.ex
  simp [vG]
theorem vfits_refl (a : Vc) : vfits a a = true := by rw [vfits_four]; omega
theorem vfits_no_le (a : Vc) : vfits noV a = true := by rw [vfits_four]; simp [noV, vG]
theorem vfits_both {a b : Vc} (ha : OkV a) (hb : OkV b) : (vfits a b && vfits b a) = decide (a = b) := by
  rw [Bool.eq_iff_iff, Bool.and_eq_true, vfits_four, vfits_four, decide_eq_true_eq, vG_eq ha hb]
  omega
theorem vfits_trans {a b c : Vc} (h1 : vfits a b = true) (h2 : vfits b c = true) : vfits a c = true := by
  rw [vfits_four] at *; omega
theorem vord_four {a b : Vc} (ha : OkV a) (hb : OkV b) : vord a b = vordF [vG a 0, vG a 1, vG a 2, vG a 3] [vG b 0, vG b 1, vG b 2, vG b 3] := by
  obtain ⟨x, y, z, u, rfl, _⟩ := ha.ex
  obtain ⟨x', y', z', u', rfl, _⟩ := hb.ex
  rfl
theorem vord_fits {a b : Vc} (ha : OkV a) (hb : OkV b) (h : vfits a b = true) : vord a b = -1 ∨ vord a b = 0 := by
  rw [vfits_four] at h
  rw [vord_four ha hb]
  generalize vG a 0 = x0 at *
  generalize vG a 1 = x1 at *
  generalize vG a 2 = x2 at *
  generalize vG a 3 = x3 at *
  simp only [vordF]
  repeat (split; · first | exact Or.inl rfl | omega)
  first | exact Or.inr rfl | (repeat (split <;> try omega))

end Go.Dm

namespace Go.Dm
open Go Go.RowKit

theorem vaddOk_four {a b : Vc} : vaddOk a b = true ↔ vG a 0 + vG b 0 < 18446744073709551616 ∧ vG a 1 + vG b 1 < 18446744073709551616 ∧ vG a 2 + vG b 2 < 18446744073709551616 ∧ vG a 3 + vG b 3 < 18446744073709551616 := by
  rw [← allV_add]; simp [allV, and_assoc]
theorem vtimesOk_four {a : Vc} {n : Nat} : vtimesOk a n = true ↔ vG a 0 * n < 18446744073709551616 ∧ vG a 1 * n < 18446744073709551616 ∧ vG a 2 * n < 18446744073709551616 ∧ vG a 3 * n < 18446744073709551616 := by
  rw [← allV_times a (fun _ => 0)]; simp [allV, and_assoc]
theorem vadd_eta (a b : Vc) : vadd a b = [vG a 0 + vG b 0, vG a 1 + vG b 1, vG a 2 + vG b 2, vG a 3 + vG b 3] := rfl
theorem vsub_eta (a b : Vc) : vsub a b = [vG a 0 - vG b 0, vG a 1 - vG b 1, vG a 2 - vG b 2, vG a 3 - vG b 3] := rfl
theorem vtimes_eta (a : Vc) (n : Nat) : vtimes a n = [vG a 0 * n, vG a 1 * n, vG a 2 * n, vG a 3 * n] := rfl
theorem vadd_okV {a b : Vc} (h : vaddOk a b = true) : OkV (vadd a b) := by
  rw [vaddOk_four] at h
  rw [vadd_eta]
  exact okV_mk h.1 h.2.1 h.2.2.1 h.2.2.2
theorem vtimes_okV {a : Vc} {n : Nat} (h : vtimesOk a n = true) : OkV (vtimes a n) := by
  rw [vtimesOk_four] at h
  rw [vtimes_eta]
  exact okV_mk h.1 h.2.1 h.2.2.1 h.2.2.2
theorem okV_or {ok : Bool} {v : Vc} (h : ok = true → OkV v) : OkV (vOr ok v) := by
  unfold vOr
  cases ok with
  | false => exact okV_no
  | true => exact h rfl
theorem vadd_or_okV (a b : Vc) : OkV (vOr (vaddOk a b) (vadd a b)) := okV_or vadd_okV
theorem vsub_or_okV {a : Vc} (ha : OkV a) (b : Vc) : OkV (vOr (vfits b a) (vsub a b)) := okV_or fun _ => vsub_ok ha
theorem vtimes_or_okV (a : Vc) (n : Nat) : OkV (vOr (vtimesOk a n) (vtimes a n)) := okV_or vtimes_okV
theorem vaddOk_comm (a b : Vc) : vaddOk b a = vaddOk a b := by
  rw [Bool.eq_iff_iff, vaddOk_four, vaddOk_four]; omega
theorem vadd_comm (a b : Vc) : vadd b a = vadd a b := by
  rw [vadd_eta, vadd_eta, Nat.add_comm, Nat.add_comm (vG b 1), Nat.add_comm (vG b 2), Nat.add_comm (vG b 3)]
theorem vsub_add {a b : Vc} (ha : OkV a) : vsub (vadd a b) b = a ∧ vfits b (vadd a b) = true ∧ vfits a (vadd a b) = true := by
  refine ⟨?_, ?_, ?_⟩
  · obtain ⟨x, y, z, u, rfl, _⟩ := ha.ex
    simp [vsub_eta, vadd_eta, vG]
  · rw [vfits_four, vadd_eta]; simp [vG]
  · rw [vfits_four, vadd_eta]; simp [vG]
theorem vadd_sub {a b : Vc} (ha : OkV a) (h : vfits b a = true) : vadd (vsub a b) b = a ∧ vaddOk (vsub a b) b = true := by
  rw [vfits_four] at h
  refine ⟨?_, ?_⟩
  · obtain ⟨x, y, z, u, rfl, _⟩ := ha.ex
    simp [vsub_eta, vadd_eta, vG] at h ⊢
    omega
  · obtain ⟨x, y, z, u, rfl, h1, h2, h3, h4⟩ := ha.ex
    unfold U64 at h1 h2 h3 h4
    rw [vaddOk_four]
    simp [vsub_eta, vG] at h ⊢
    omega
/-- One more. -/
theorem vtimes_step (a : Vc) (i : Nat) : vadd (vtimes a i) a = vtimes a (i + 1) := by
  simp only [vadd_eta, vtimes_eta, Nat.mul_succ]; rfl
theorem vtimesOk_step (a : Vc) (i : Nat) : vaddOk (vtimes a i) a = vtimesOk a (i + 1) := by
  rw [Bool.eq_iff_iff, vaddOk_four, vtimesOk_four]
  simp only [vtimes_eta, Nat.mul_succ]
  simp [vG]
theorem vtimesOk_mono {a : Vc} {i n : Nat} (h : i ≤ n) (hn : vtimesOk a n = true) : vtimesOk a i = true := by
  rw [vtimesOk_four] at *
  have := fun x => Nat.mul_le_mul_left x h
  have h0 := this (vG a 0); have h1 := this (vG a 1); have h2 := this (vG a 2); have h3 := this (vG a 3)
  omega
theorem vtimes_zero (a : Vc) : vtimes a 0 = noV := by simp [vtimes_eta, noV]
theorem vtimesOk_zero (a : Vc) : vtimesOk a 0 = true := by rw [vtimesOk_four]; simp
/-- So many are held, and no more. -/
theorem vholdF_iff (a b : Vc) (m k : Nat) : ∀ i, k ≤ vholdF a b m i ↔ k ≤ m ∧ ∀ j, j < i → vG b j * k ≤ vG a j
  | 0 => by simp [vholdF]
  | i + 1 => by
    have ih := vholdF_iff a b m k i
    have hs : (∀ j, j < i + 1 → vG b j * k ≤ vG a j) ↔ (∀ j, j < i → vG b j * k ≤ vG a j) ∧ vG b i * k ≤ vG a i := by
      constructor
      · intro h; exact ⟨fun j hj => h j (by omega), h i (by omega)⟩
      · intro ⟨h, hi⟩ j hj
        by_cases e : j = i
        · rw [e]; exact hi
        · exact h j (by omega)
    rw [vholdF_sub, hs]
    by_cases h0 : vG b i = 0
    · rw [if_pos h0, ih, h0]; simp
    · rw [if_neg h0, Nat.le_min, ih, Nat.le_div_iff_mul_le (by omega), Nat.mul_comm k]
      constructor
      · intro ⟨⟨h1, h2⟩, h3⟩; exact ⟨h1, h2, h3⟩
      · intro ⟨h1, h2, h3⟩; exact ⟨⟨h1, h2⟩, h3⟩
theorem vholds_iff {a b : Vc} {m k : Nat} : k ≤ vholds a b m ↔ k ≤ m ∧ vfits (vtimes b k) a = true := by
  unfold vholds
  rw [vholdF_iff, vfits_iff]
  constructor
  · intro ⟨h1, h2⟩
    refine ⟨h1, fun j hj => ?_⟩
    have := vtimes_at (a := b) (n := k) hj
    unfold vG at this h2
    rw [this]; exact h2 j hj
  · intro ⟨h1, h2⟩
    refine ⟨h1, fun j hj => ?_⟩
    have := vtimes_at (a := b) (n := k) hj
    have h := h2 j hj
    unfold vG at this ⊢
    rw [this] at h; exact h
theorem vholds_fit {a b : Vc} (ha : OkV a) (m : Nat) : vtimesOk b (vholds a b m) = true ∧ vfits (vtimes b (vholds a b m)) a = true := by
  have h := (vholds_iff (a := a) (b := b) (m := m) (k := vholds a b m)).1 (Nat.le_refl _)
  refine ⟨?_, h.2⟩
  have h4 := vfits_four.1 h.2
  rw [vtimes_at (by omega), vtimes_at (by omega), vtimes_at (by omega), vtimes_at (by omega)] at h4
  rw [vtimesOk_four]
  have u := ha.u64
  have u0 := u 0; have u1 := u 1; have u2 := u 2; have u3 := u 3
  unfold U64 at u0 u1 u2 u3
  unfold vG at *
  omega
theorem vholds_more {a b : Vc} {m : Nat} (h : vholds a b m < m) : vfits (vtimes b (vholds a b m + 1)) a = false := by
  cases e : vfits (vtimes b (vholds a b m + 1)) a with
  | false => rfl
  | true => have := (vholds_iff (a := a) (b := b) (m := m) (k := vholds a b m + 1)).2 ⟨h, e⟩; omega
theorem vholds_none (a : Vc) (m : Nat) : vholds a noV m = m := by
  apply Nat.le_antisymm (vholds_le a noV m)
  rw [vholds_iff]
  refine ⟨Nat.le_refl _, ?_⟩
  rw [vfits_four, vtimes_eta]; simp [vG, noV]

end Go.Dm

namespace Go.Proofs.YtopnllbfhhjobaaDoor
open Go.RowKit Go.Dm

set_option maxHeartbeats 4000000 in
set_option maxRecDepth 100000 in
theorem qrefund_w (v : Vc) (hv : OkV v) (r : EntQ) (hr : OkV r.2.1 ∧ OkV r.2.2) (w : World) :
    Calls Tryd.prog 33 #[.agg #[.int .u64 (vG v 0 : Nat), .int .u64 (vG v 1 : Nat), .int .u64 (vG v 2 : Nat), .int .u64 (vG v 3 : Nat)], entVal r] w fun e w' => e = .returned (.tuple #[entVal (rfdE v r).1, .int .i64 (rfdE v r).2]) ∧ Ext w w' := by
  obtain ⟨s, l, u⟩ := r
  obtain ⟨hl, hu⟩ := hr
  simp only at hl hu
  have C := fun W => vsub_w u v hu hv W
  cases hd : vfits v u with
  | false =>
    have hf : rfdE v (s, l, u) = ((s, l, u), 15) := by unfold rfdE; rw [if_pos hd]
    have hN0 : vOr (vfits v u) (vsub u v) = noV := by rw [hd]; rfl
    rw [hf]
    rw [hN0, hd] at C
    clear hf hN0 hd hl hu hv
    unfold entVal uAt
    unfold vVal vF at C
    simp only
    have hz : ∀ k, vG noV k = 0 := fun k => by match k with | 0 => rfl | 1 => rfl | 2 => rfl | 3 => rfl | k + 4 => rfl
    simp only [hz] at C
    clear hz
    generalize vG v = V at *
    generalize vG l = L at *
    generalize vG u = U at *
    have hV : VBox w.heap.size V (((w.alloc (.cells #[.int .u64 (V 0 : Nat), .int .u64 (V 1 : Nat), .int .u64 (V 2 : Nat), .int .u64 (V 3 : Nat)] 66)).alloc (.cells #[.string s, .int .u64 (L 0 : Nat), .int .u64 (L 1 : Nat), .int .u64 (L 2 : Nat), .int .u64 (L 3 : Nat), .int .u64 (U 0 : Nat), .int .u64 (U 1 : Nat), .int .u64 (U 2 : Nat), .int .u64 (U 3 : Nat)] 44)).alloc (.cells #[.string ⟨#[]⟩, .int .u64 0, .int .u64 0, .int .u64 0, .int .u64 0, .int .u64 0, .int .u64 0, .int .u64 0, .int .u64 0] 44)) := ((VBox.new w V _).ext ((Ext.refl _).alloc _)).ext ((Ext.refl _).alloc _)
    have hB : EBox (w.heap.size + 1) s L U (((w.alloc (.cells #[.int .u64 (V 0 : Nat), .int .u64 (V 1 : Nat), .int .u64 (V 2 : Nat), .int .u64 (V 3 : Nat)] 66)).alloc (.cells #[.string s, .int .u64 (L 0 : Nat), .int .u64 (L 1 : Nat), .int .u64 (L 2 : Nat), .int .u64 (L 3 : Nat), .int .u64 (U 0 : Nat), .int .u64 (U 1 : Nat), .int .u64 (U 2 : Nat), .int .u64 (U 3 : Nat)] 44)).alloc (.cells #[.string ⟨#[]⟩, .int .u64 0, .int .u64 0, .int .u64 0, .int .u64 0, .int .u64 0, .int .u64 0, .int .u64 0, .int .u64 0] 44)) := by
      have h := EBox.new (w.alloc (.cells #[.int .u64 (V 0 : Nat), .int .u64 (V 1 : Nat), .int .u64 (V 2 : Nat), .int .u64 (V 3 : Nat)] 66)) s L U 44
      rw [World.size_alloc] at h
      exact h.ext ((Ext.refl _).alloc _)
    have hR : EBox (w.heap.size + 1 + 1) ⟨#[]⟩ (fun _ => 0) (fun _ => 0) (((w.alloc (.cells #[.int .u64 (V 0 : Nat), .int .u64 (V 1 : Nat), .int .u64 (V 2 : Nat), .int .u64 (V 3 : Nat)] 66)).alloc (.cells #[.string s, .int .u64 (L 0 : Nat), .int .u64 (L 1 : Nat), .int .u64 (L 2 : Nat), .int .u64 (L 3 : Nat), .int .u64 (U 0 : Nat), .int .u64 (U 1 : Nat), .int .u64 (U 2 : Nat), .int .u64 (U 3 : Nat)] 44)).alloc (.cells #[.string ⟨#[]⟩, .int .u64 0, .int .u64 0, .int .u64 0, .int .u64 0, .int .u64 0, .int .u64 0, .int .u64 0, .int .u64 0] 44)) := by
      have h := EBox.new ((w.alloc (.cells #[.int .u64 (V 0 : Nat), .int .u64 (V 1 : Nat), .int .u64 (V 2 : Nat), .int .u64 (V 3 : Nat)] 66)).alloc (.cells #[.string s, .int .u64 (L 0 : Nat), .int .u64 (L 1 : Nat), .int .u64 (L 2 : Nat), .int .u64 (L 3 : Nat), .int .u64 (U 0 : Nat), .int .u64 (U 1 : Nat), .int .u64 (U 2 : Nat), .int .u64 (U 3 : Nat)] 44)) ⟨#[]⟩ (fun _ => 0) (fun _ => 0) 44
      rw [World.size_alloc, World.size_alloc] at h
      exact h
    have hE : Ext w (((w.alloc (.cells #[.int .u64 (V 0 : Nat), .int .u64 (V 1 : Nat), .int .u64 (V 2 : Nat), .int .u64 (V 3 : Nat)] 66)).alloc (.cells #[.string s, .int .u64 (L 0 : Nat), .int .u64 (L 1 : Nat), .int .u64 (L 2 : Nat), .int .u64 (L 3 : Nat), .int .u64 (U 0 : Nat), .int .u64 (U 1 : Nat), .int .u64 (U 2 : Nat), .int .u64 (U 3 : Nat)] 44)).alloc (.cells #[.string ⟨#[]⟩, .int .u64 0, .int .u64 0, .int .u64 0, .int .u64 0, .int .u64 0, .int .u64 0, .int .u64 0, .int .u64 0] 44)) := (((Ext.refl w).alloc _).alloc _).alloc _
    replace C := Lib.hid C
    go_enter Tryd.func33, Tryd.ntmps33
    obtain ⟨_, a0, a1, a2, a3, _, _, _, _⟩ := hV.four
    obtain ⟨_, e0, e1, e2, e3, e4, e5, e6, e7, e8, g0, g1, g2, g3, g4, g5, g6, g7, g8⟩ := id hB
    obtain ⟨_, z0, z1, z2, z3, z4, z5, z6, z7, z8, f0, f1, f2, f3, f4, f5, f6, f7, f8⟩ := id hR
    change World.cell? _ _ = some (.int .u64 0) at z1 z2 z3 z4 z5 z6 z7 z8
    go_wp2_with fail
    refine (C.out _).mono ?_; rintro e w1 ⟨rfl, h1⟩
    clear a0 a1 a2 a3 e0 e1 e2 e3 e4 e5 e6 e7 e8 g0 g1 g2 g3 g4 g5 g6 g7 g8 z0 z1 z2 z3 z4 z5 z6 z7 z8 f0 f1 f2 f3 f4 f5 f6 f7 f8
    replace hV := hV.ext h1
    replace hB := hB.ext h1
    replace hR := hR.ext h1
    replace hE := hE.trans h1
    clear h1
    clear C
    have hEn := (Ext.refl w1).alloc (.cells #[.int .u64 0, .int .u64 0, .int .u64 0, .int .u64 0] 36)
    have hN : VBox w1.heap.size (fun _ => 0) (w1.alloc (.cells #[.int .u64 0, .int .u64 0, .int .u64 0, .int .u64 0] 36)) := VBox.new w1 (fun _ => 0) 36
    replace hV := hV.ext hEn
    replace hB := hB.ext hEn
    replace hR := hR.ext hEn
    replace hE := hE.trans hEn
    clear hEn
    obtain ⟨_, a0, a1, a2, a3, _, _, _, _⟩ := hV.four
    obtain ⟨_, e0, e1, e2, e3, e4, e5, e6, e7, e8, g0, g1, g2, g3, g4, g5, g6, g7, g8⟩ := id hB
    obtain ⟨_, z0, z1, z2, z3, z4, z5, z6, z7, z8, f0, f1, f2, f3, f4, f5, f6, f7, f8⟩ := id hR
    change World.cell? _ _ = some (.int .u64 0) at z1 z2 z3 z4 z5 z6 z7 z8
    obtain ⟨_, n0, n1, n2, n3, _, _, _, _⟩ := hN.four
    change World.cell? _ _ = some (.int .u64 0) at n0 n1 n2 n3
    go_wp2
    have hP := hR.put s L U
    unfold put9 at hP
    obtain ⟨_, k0, k1, k2, k3, k4, k5, k6, k7, k8, _, _, _, _, _, _, _, _, _⟩ := hP
    refine bodyPost_ret (v := .tuple #[.agg #[.string s, .int .u64 (L 0 : Nat), .int .u64 (L 1 : Nat), .int .u64 (L 2 : Nat), .int .u64 (L 3 : Nat), .int .u64 (U 0 : Nat), .int .u64 (U 1 : Nat), .int .u64 (U 2 : Nat), .int .u64 (U 3 : Nat)], .int .i64 15]) (by simp [results, Tryd.results33, go_sem, k0, k1, k2, k3, k4, k5, k6, k7, k8]) rfl ?_
    exact ⟨rfl, Ext.put9 hE (b := w.heap.size + 1 + 1) (by omega) s L U⟩
  | true =>
    have hf : rfdE v (s, l, u) = ((s, l, vsub u v), 0) := by unfold rfdE; rw [if_neg (show ¬ vfits v u = false by rw [hd]; simp)]
    have hN0 : vOr (vfits v u) (vsub u v) = vsub u v := by rw [hd]; rfl
    rw [hf]
    rw [hN0, hd] at C
    clear hf hN0 hd hl hu hv
    unfold entVal uAt
    unfold vVal vF at C
    simp only
    generalize vG (vsub u v) = N at *
    generalize vG v = V at *
    generalize vG l = L at *
    generalize vG u = U at *
    have hV : VBox w.heap.size V (((w.alloc (.cells #[.int .u64 (V 0 : Nat), .int .u64 (V 1 : Nat), .int .u64 (V 2 : Nat), .int .u64 (V 3 : Nat)] 66)).alloc (.cells #[.string s, .int .u64 (L 0 : Nat), .int .u64 (L 1 : Nat), .int .u64 (L 2 : Nat), .int .u64 (L 3 : Nat), .int .u64 (U 0 : Nat), .int .u64 (U 1 : Nat), .int .u64 (U 2 : Nat), .int .u64 (U 3 : Nat)] 44)).alloc (.cells #[.string ⟨#[]⟩, .int .u64 0, .int .u64 0, .int .u64 0, .int .u64 0, .int .u64 0, .int .u64 0, .int .u64 0, .int .u64 0] 44)) := ((VBox.new w V _).ext ((Ext.refl _).alloc _)).ext ((Ext.refl _).alloc _)
    have hB : EBox (w.heap.size + 1) s L U (((w.alloc (.cells #[.int .u64 (V 0 : Nat), .int .u64 (V 1 : Nat), .int .u64 (V 2 : Nat), .int .u64 (V 3 : Nat)] 66)).alloc (.cells #[.string s, .int .u64 (L 0 : Nat), .int .u64 (L 1 : Nat), .int .u64 (L 2 : Nat), .int .u64 (L 3 : Nat), .int .u64 (U 0 : Nat), .int .u64 (U 1 : Nat), .int .u64 (U 2 : Nat), .int .u64 (U 3 : Nat)] 44)).alloc (.cells #[.string ⟨#[]⟩, .int .u64 0, .int .u64 0, .int .u64 0, .int .u64 0, .int .u64 0, .int .u64 0, .int .u64 0, .int .u64 0] 44)) := by
      have h := EBox.new (w.alloc (.cells #[.int .u64 (V 0 : Nat), .int .u64 (V 1 : Nat), .int .u64 (V 2 : Nat), .int .u64 (V 3 : Nat)] 66)) s L U 44
      rw [World.size_alloc] at h
      exact h.ext ((Ext.refl _).alloc _)
    have hR : EBox (w.heap.size + 1 + 1) ⟨#[]⟩ (fun _ => 0) (fun _ => 0) (((w.alloc (.cells #[.int .u64 (V 0 : Nat), .int .u64 (V 1 : Nat), .int .u64 (V 2 : Nat), .int .u64 (V 3 : Nat)] 66)).alloc (.cells #[.string s, .int .u64 (L 0 : Nat), .int .u64 (L 1 : Nat), .int .u64 (L 2 : Nat), .int .u64 (L 3 : Nat), .int .u64 (U 0 : Nat), .int .u64 (U 1 : Nat), .int .u64 (U 2 : Nat), .int .u64 (U 3 : Nat)] 44)).alloc (.cells #[.string ⟨#[]⟩, .int .u64 0, .int .u64 0, .int .u64 0, .int .u64 0, .int .u64 0, .int .u64 0, .int .u64 0, .int .u64 0] 44)) := by
      have h := EBox.new ((w.alloc (.cells #[.int .u64 (V 0 : Nat), .int .u64 (V 1 : Nat), .int .u64 (V 2 : Nat), .int .u64 (V 3 : Nat)] 66)).alloc (.cells #[.string s, .int .u64 (L 0 : Nat), .int .u64 (L 1 : Nat), .int .u64 (L 2 : Nat), .int .u64 (L 3 : Nat), .int .u64 (U 0 : Nat), .int .u64 (U 1 : Nat), .int .u64 (U 2 : Nat), .int .u64 (U 3 : Nat)] 44)) ⟨#[]⟩ (fun _ => 0) (fun _ => 0) 44
      rw [World.size_alloc, World.size_alloc] at h
      exact h
    have hE : Ext w (((w.alloc (.cells #[.int .u64 (V 0 : Nat), .int .u64 (V 1 : Nat), .int .u64 (V 2 : Nat), .int .u64 (V 3 : Nat)] 66)).alloc (.cells #[.string s, .int .u64 (L 0 : Nat), .int .u64 (L 1 : Nat), .int .u64 (L 2 : Nat), .int .u64 (L 3 : Nat), .int .u64 (U 0 : Nat), .int .u64 (U 1 : Nat), .int .u64 (U 2 : Nat), .int .u64 (U 3 : Nat)] 44)).alloc (.cells #[.string ⟨#[]⟩, .int .u64 0, .int .u64 0, .int .u64 0, .int .u64 0, .int .u64 0, .int .u64 0, .int .u64 0, .int .u64 0] 44)) := (((Ext.refl w).alloc _).alloc _).alloc _
    replace C := Lib.hid C
    go_enter Tryd.func33, Tryd.ntmps33
    obtain ⟨_, a0, a1, a2, a3, _, _, _, _⟩ := hV.four
    obtain ⟨_, e0, e1, e2, e3, e4, e5, e6, e7, e8, g0, g1, g2, g3, g4, g5, g6, g7, g8⟩ := id hB
    obtain ⟨_, z0, z1, z2, z3, z4, z5, z6, z7, z8, f0, f1, f2, f3, f4, f5, f6, f7, f8⟩ := id hR
    change World.cell? _ _ = some (.int .u64 0) at z1 z2 z3 z4 z5 z6 z7 z8
    go_wp2_with fail
    refine (C.out _).mono ?_; rintro e w1 ⟨rfl, h1⟩
    clear a0 a1 a2 a3 e0 e1 e2 e3 e4 e5 e6 e7 e8 g0 g1 g2 g3 g4 g5 g6 g7 g8 z0 z1 z2 z3 z4 z5 z6 z7 z8 f0 f1 f2 f3 f4 f5 f6 f7 f8
    replace hV := hV.ext h1
    replace hB := hB.ext h1
    replace hR := hR.ext h1
    replace hE := hE.trans h1
    clear h1
    clear C
    have hEn := (Ext.refl w1).alloc (.cells #[.int .u64 (N 0 : Nat), .int .u64 (N 1 : Nat), .int .u64 (N 2 : Nat), .int .u64 (N 3 : Nat)] 36)
    have hN : VBox w1.heap.size N (w1.alloc (.cells #[.int .u64 (N 0 : Nat), .int .u64 (N 1 : Nat), .int .u64 (N 2 : Nat), .int .u64 (N 3 : Nat)] 36)) := VBox.new w1 N 36
    replace hV := hV.ext hEn
    replace hB := hB.ext hEn
    replace hR := hR.ext hEn
    replace hE := hE.trans hEn
    clear hEn
    obtain ⟨_, a0, a1, a2, a3, _, _, _, _⟩ := hV.four
    obtain ⟨_, e0, e1, e2, e3, e4, e5, e6, e7, e8, g0, g1, g2, g3, g4, g5, g6, g7, g8⟩ := id hB
    obtain ⟨_, z0, z1, z2, z3, z4, z5, z6, z7, z8, f0, f1, f2, f3, f4, f5, f6, f7, f8⟩ := id hR
    change World.cell? _ _ = some (.int .u64 0) at z1 z2 z3 z4 z5 z6 z7 z8
    obtain ⟨_, n0, n1, n2, n3, _, _, _, _⟩ := hN.four
    go_wp2
    have hP := ((((hR.far (i := 5) (c := w.heap.size + 1) (by omega) (.int .u64 (N 0 : Nat))).far (i := 6) (c := w.heap.size + 1) (by omega) (.int .u64 (N 1 : Nat))).far (i := 7) (c := w.heap.size + 1) (by omega) (.int .u64 (N 2 : Nat))).far (i := 8) (c := w.heap.size + 1) (by omega) (.int .u64 (N 3 : Nat))).put s L N
    unfold put9 at hP
    obtain ⟨_, k0, k1, k2, k3, k4, k5, k6, k7, k8, _, _, _, _, _, _, _, _, _⟩ := hP
    refine bodyPost_ret (v := .tuple #[.agg #[.string s, .int .u64 (L 0 : Nat), .int .u64 (L 1 : Nat), .int .u64 (L 2 : Nat), .int .u64 (L 3 : Nat), .int .u64 (N 0 : Nat), .int .u64 (N 1 : Nat), .int .u64 (N 2 : Nat), .int .u64 (N 3 : Nat)], .int .i64 0]) (by simp [results, Tryd.results33, go_sem, k0, k1, k2, k3, k4, k5, k6, k7, k8]) rfl ?_
    exact ⟨rfl, Ext.put9 ((((hE.setCell (p := ⟨w.heap.size + 1, 5, none⟩) (by show w.heap.size ≤ w.heap.size + 1; omega) (.int .u64 (N 0 : Nat))).setCell (p := ⟨w.heap.size + 1, 6, none⟩) (by show w.heap.size ≤ w.heap.size + 1; omega) (.int .u64 (N 1 : Nat))).setCell (p := ⟨w.heap.size + 1, 7, none⟩) (by show w.heap.size ≤ w.heap.size + 1; omega) (.int .u64 (N 2 : Nat))).setCell (p := ⟨w.heap.size + 1, 8, none⟩) (by show w.heap.size ≤ w.heap.size + 1; omega) (.int .u64 (N 3 : Nat))) (b := w.heap.size + 1 + 1) (by omega) s L N⟩

set_option maxHeartbeats 4000000 in
set_option maxRecDepth 100000 in
theorem qcharge_w (v : Vc) (hv : OkV v) (r : EntQ) (hr : OkV r.2.1 ∧ OkV r.2.2) (w : World) :
    Calls Tryd.prog 34 #[.agg #[.int .u64 (vG v 0 : Nat), .int .u64 (vG v 1 : Nat), .int .u64 (vG v 2 : Nat), .int .u64 (vG v 3 : Nat)], entVal r] w fun e w' => e = .returned (.tuple #[entVal (chgE v r).1, .int .i64 (chgE v r).2]) ∧ Ext w w' := by
  obtain ⟨s, l, u⟩ := r
  obtain ⟨hl, hu⟩ := hr
  simp only at hl hu
  have C := fun W => vadd_w u v hu hv W
  cases hd : vaddOk u v with
  | false =>
    have hf : chgE v (s, l, u) = ((s, l, u), 5) := by unfold chgE; rw [if_pos hd]
    have hN0 : vOr (vaddOk u v) (vadd u v) = noV := by rw [hd]; rfl
    rw [hf]
    rw [hN0, hd] at C
    clear hf hN0 hd hl hu hv
    unfold entVal uAt
    unfold vVal vF at C
    simp only
    have hz : ∀ k, vG noV k = 0 := fun k => by match k with | 0 => rfl | 1 => rfl | 2 => rfl | 3 => rfl | k + 4 => rfl
    simp only [hz] at C
    clear hz
    generalize vG v = V at *
    generalize vG l = L at *
    generalize vG u = U at *
    have hV : VBox w.heap.size V (((w.alloc (.cells #[.int .u64 (V 0 : Nat), .int .u64 (V 1 : Nat), .int .u64 (V 2 : Nat), .int .u64 (V 3 : Nat)] 66)).alloc (.cells #[.string s, .int .u64 (L 0 : Nat), .int .u64 (L 1 : Nat), .int .u64 (L 2 : Nat), .int .u64 (L 3 : Nat), .int .u64 (U 0 : Nat), .int .u64 (U 1 : Nat), .int .u64 (U 2 : Nat), .int .u64 (U 3 : Nat)] 44)).alloc (.cells #[.string ⟨#[]⟩, .int .u64 0, .int .u64 0, .int .u64 0, .int .u64 0, .int .u64 0, .int .u64 0, .int .u64 0, .int .u64 0] 44)) := ((VBox.new w V _).ext ((Ext.refl _).alloc _)).ext ((Ext.refl _).alloc _)
    have hB : EBox (w.heap.size + 1) s L U (((w.alloc (.cells #[.int .u64 (V 0 : Nat), .int .u64 (V 1 : Nat), .int .u64 (V 2 : Nat), .int .u64 (V 3 : Nat)] 66)).alloc (.cells #[.string s, .int .u64 (L 0 : Nat), .int .u64 (L 1 : Nat), .int .u64 (L 2 : Nat), .int .u64 (L 3 : Nat), .int .u64 (U 0 : Nat), .int .u64 (U 1 : Nat), .int .u64 (U 2 : Nat), .int .u64 (U 3 : Nat)] 44)).alloc (.cells #[.string ⟨#[]⟩, .int .u64 0, .int .u64 0, .int .u64 0, .int .u64 0, .int .u64 0, .int .u64 0, .int .u64 0, .int .u64 0] 44)) := by
      have h := EBox.new (w.alloc (.cells #[.int .u64 (V 0 : Nat), .int .u64 (V 1 : Nat), .int .u64 (V 2 : Nat), .int .u64 (V 3 : Nat)] 66)) s L U 44
      rw [World.size_alloc] at h
      exact h.ext ((Ext.refl _).alloc _)
    have hR : EBox (w.heap.size + 1 + 1) ⟨#[]⟩ (fun _ => 0) (fun _ => 0) (((w.alloc (.cells #[.int .u64 (V 0 : Nat), .int .u64 (V 1 : Nat), .int .u64 (V 2 : Nat), .int .u64 (V 3 : Nat)] 66)).alloc (.cells #[.string s, .int .u64 (L 0 : Nat), .int .u64 (L 1 : Nat), .int .u64 (L 2 : Nat), .int .u64 (L 3 : Nat), .int .u64 (U 0 : Nat), .int .u64 (U 1 : Nat), .int .u64 (U 2 : Nat), .int .u64 (U 3 : Nat)] 44)).alloc (.cells #[.string ⟨#[]⟩, .int .u64 0, .int .u64 0, .int .u64 0, .int .u64 0, .int .u64 0, .int .u64 0, .int .u64 0, .int .u64 0] 44)) := by
      have h := EBox.new ((w.alloc (.cells #[.int .u64 (V 0 : Nat), .int .u64 (V 1 : Nat), .int .u64 (V 2 : Nat), .int .u64 (V 3 : Nat)] 66)).alloc (.cells #[.string s, .int .u64 (L 0 : Nat), .int .u64 (L 1 : Nat), .int .u64 (L 2 : Nat), .int .u64 (L 3 : Nat), .int .u64 (U 0 : Nat), .int .u64 (U 1 : Nat), .int .u64 (U 2 : Nat), .int .u64 (U 3 : Nat)] 44)) ⟨#[]⟩ (fun _ => 0) (fun _ => 0) 44
      rw [World.size_alloc, World.size_alloc] at h
      exact h
    have hE : Ext w (((w.alloc (.cells #[.int .u64 (V 0 : Nat), .int .u64 (V 1 : Nat), .int .u64 (V 2 : Nat), .int .u64 (V 3 : Nat)] 66)).alloc (.cells #[.string s, .int .u64 (L 0 : Nat), .int .u64 (L 1 : Nat), .int .u64 (L 2 : Nat), .int .u64 (L 3 : Nat), .int .u64 (U 0 : Nat), .int .u64 (U 1 : Nat), .int .u64 (U 2 : Nat), .int .u64 (U 3 : Nat)] 44)).alloc (.cells #[.string ⟨#[]⟩, .int .u64 0, .int .u64 0, .int .u64 0, .int .u64 0, .int .u64 0, .int .u64 0, .int .u64 0, .int .u64 0] 44)) := (((Ext.refl w).alloc _).alloc _).alloc _
    replace C := Lib.hid C
    go_enter Tryd.func34, Tryd.ntmps34
    obtain ⟨_, a0, a1, a2, a3, _, _, _, _⟩ := hV.four
    obtain ⟨_, e0, e1, e2, e3, e4, e5, e6, e7, e8, g0, g1, g2, g3, g4, g5, g6, g7, g8⟩ := id hB
    obtain ⟨_, z0, z1, z2, z3, z4, z5, z6, z7, z8, f0, f1, f2, f3, f4, f5, f6, f7, f8⟩ := id hR
    change World.cell? _ _ = some (.int .u64 0) at z1 z2 z3 z4 z5 z6 z7 z8
    go_wp2_with fail
    refine (C.out _).mono ?_; rintro e w1 ⟨rfl, h1⟩
    clear a0 a1 a2 a3 e0 e1 e2 e3 e4 e5 e6 e7 e8 g0 g1 g2 g3 g4 g5 g6 g7 g8 z0 z1 z2 z3 z4 z5 z6 z7 z8 f0 f1 f2 f3 f4 f5 f6 f7 f8
    replace hV := hV.ext h1
    replace hB := hB.ext h1
    replace hR := hR.ext h1
    replace hE := hE.trans h1
    clear h1
    clear C
    have hEn := (Ext.refl w1).alloc (.cells #[.int .u64 0, .int .u64 0, .int .u64 0, .int .u64 0] 36)
    have hN : VBox w1.heap.size (fun _ => 0) (w1.alloc (.cells #[.int .u64 0, .int .u64 0, .int .u64 0, .int .u64 0] 36)) := VBox.new w1 (fun _ => 0) 36
    replace hV := hV.ext hEn
    replace hB := hB.ext hEn
    replace hR := hR.ext hEn
    replace hE := hE.trans hEn
    clear hEn
    obtain ⟨_, a0, a1, a2, a3, _, _, _, _⟩ := hV.four
    obtain ⟨_, e0, e1, e2, e3, e4, e5, e6, e7, e8, g0, g1, g2, g3, g4, g5, g6, g7, g8⟩ := id hB
    obtain ⟨_, z0, z1, z2, z3, z4, z5, z6, z7, z8, f0, f1, f2, f3, f4, f5, f6, f7, f8⟩ := id hR
    change World.cell? _ _ = some (.int .u64 0) at z1 z2 z3 z4 z5 z6 z7 z8
    obtain ⟨_, n0, n1, n2, n3, _, _, _, _⟩ := hN.four
    change World.cell? _ _ = some (.int .u64 0) at n0 n1 n2 n3
    go_wp2
    have hP := hR.put s L U
    unfold put9 at hP
    obtain ⟨_, k0, k1, k2, k3, k4, k5, k6, k7, k8, _, _, _, _, _, _, _, _, _⟩ := hP
    refine bodyPost_ret (v := .tuple #[.agg #[.string s, .int .u64 (L 0 : Nat), .int .u64 (L 1 : Nat), .int .u64 (L 2 : Nat), .int .u64 (L 3 : Nat), .int .u64 (U 0 : Nat), .int .u64 (U 1 : Nat), .int .u64 (U 2 : Nat), .int .u64 (U 3 : Nat)], .int .i64 5]) (by simp [results, Tryd.results34, go_sem, k0, k1, k2, k3, k4, k5, k6, k7, k8]) rfl ?_
    exact ⟨rfl, Ext.put9 hE (b := w.heap.size + 1 + 1) (by omega) s L U⟩
  | true =>
    have hN0 : vOr (vaddOk u v) (vadd u v) = vadd u v := by rw [hd]; rfl
    have F := fun W => vfits_w (vadd u v) l (vadd_okV hd) hl W
    rw [hN0, hd] at C
    have hd1 : ¬ vaddOk u v = false := by rw [hd]; simp
    cases hd2 : vfits (vadd u v) l with
    | false =>
      have hf : chgE v (s, l, u) = ((s, l, u), 10) := by unfold chgE; rw [if_neg hd1, if_pos hd2]
      rw [hf]
      rw [hd2] at F
      clear hf hN0 hd hd1 hd2 hl hu hv
      unfold entVal uAt
      unfold vVal vF at C F
      simp only
      generalize vG (vadd u v) = N at *
      generalize vG v = V at *
      generalize vG l = L at *
      generalize vG u = U at *
      have hV : VBox w.heap.size V (((w.alloc (.cells #[.int .u64 (V 0 : Nat), .int .u64 (V 1 : Nat), .int .u64 (V 2 : Nat), .int .u64 (V 3 : Nat)] 66)).alloc (.cells #[.string s, .int .u64 (L 0 : Nat), .int .u64 (L 1 : Nat), .int .u64 (L 2 : Nat), .int .u64 (L 3 : Nat), .int .u64 (U 0 : Nat), .int .u64 (U 1 : Nat), .int .u64 (U 2 : Nat), .int .u64 (U 3 : Nat)] 44)).alloc (.cells #[.string ⟨#[]⟩, .int .u64 0, .int .u64 0, .int .u64 0, .int .u64 0, .int .u64 0, .int .u64 0, .int .u64 0, .int .u64 0] 44)) := ((VBox.new w V _).ext ((Ext.refl _).alloc _)).ext ((Ext.refl _).alloc _)
      have hB : EBox (w.heap.size + 1) s L U (((w.alloc (.cells #[.int .u64 (V 0 : Nat), .int .u64 (V 1 : Nat), .int .u64 (V 2 : Nat), .int .u64 (V 3 : Nat)] 66)).alloc (.cells #[.string s, .int .u64 (L 0 : Nat), .int .u64 (L 1 : Nat), .int .u64 (L 2 : Nat), .int .u64 (L 3 : Nat), .int .u64 (U 0 : Nat), .int .u64 (U 1 : Nat), .int .u64 (U 2 : Nat), .int .u64 (U 3 : Nat)] 44)).alloc (.cells #[.string ⟨#[]⟩, .int .u64 0, .int .u64 0, .int .u64 0, .int .u64 0, .int .u64 0, .int .u64 0, .int .u64 0, .int .u64 0] 44)) := by
        have h := EBox.new (w.alloc (.cells #[.int .u64 (V 0 : Nat), .int .u64 (V 1 : Nat), .int .u64 (V 2 : Nat), .int .u64 (V 3 : Nat)] 66)) s L U 44
        rw [World.size_alloc] at h
        exact h.ext ((Ext.refl _).alloc _)
      have hR : EBox (w.heap.size + 1 + 1) ⟨#[]⟩ (fun _ => 0) (fun _ => 0) (((w.alloc (.cells #[.int .u64 (V 0 : Nat), .int .u64 (V 1 : Nat), .int .u64 (V 2 : Nat), .int .u64 (V 3 : Nat)] 66)).alloc (.cells #[.string s, .int .u64 (L 0 : Nat), .int .u64 (L 1 : Nat), .int .u64 (L 2 : Nat), .int .u64 (L 3 : Nat), .int .u64 (U 0 : Nat), .int .u64 (U 1 : Nat), .int .u64 (U 2 : Nat), .int .u64 (U 3 : Nat)] 44)).alloc (.cells #[.string ⟨#[]⟩, .int .u64 0, .int .u64 0, .int .u64 0, .int .u64 0, .int .u64 0, .int .u64 0, .int .u64 0, .int .u64 0] 44)) := by
        have h := EBox.new ((w.alloc (.cells #[.int .u64 (V 0 : Nat), .int .u64 (V 1 : Nat), .int .u64 (V 2 : Nat), .int .u64 (V 3 : Nat)] 66)).alloc (.cells #[.string s, .int .u64 (L 0 : Nat), .int .u64 (L 1 : Nat), .int .u64 (L 2 : Nat), .int .u64 (L 3 : Nat), .int .u64 (U 0 : Nat), .int .u64 (U 1 : Nat), .int .u64 (U 2 : Nat), .int .u64 (U 3 : Nat)] 44)) ⟨#[]⟩ (fun _ => 0) (fun _ => 0) 44
        rw [World.size_alloc, World.size_alloc] at h
        exact h
      have hE : Ext w (((w.alloc (.cells #[.int .u64 (V 0 : Nat), .int .u64 (V 1 : Nat), .int .u64 (V 2 : Nat), .int .u64 (V 3 : Nat)] 66)).alloc (.cells #[.string s, .int .u64 (L 0 : Nat), .int .u64 (L 1 : Nat), .int .u64 (L 2 : Nat), .int .u64 (L 3 : Nat), .int .u64 (U 0 : Nat), .int .u64 (U 1 : Nat), .int .u64 (U 2 : Nat), .int .u64 (U 3 : Nat)] 44)).alloc (.cells #[.string ⟨#[]⟩, .int .u64 0, .int .u64 0, .int .u64 0, .int .u64 0, .int .u64 0, .int .u64 0, .int .u64 0, .int .u64 0] 44)) := (((Ext.refl w).alloc _).alloc _).alloc _
      replace C := Lib.hid C
      replace F := Lib.hid F
      go_enter Tryd.func34, Tryd.ntmps34
      obtain ⟨_, a0, a1, a2, a3, _, _, _, _⟩ := hV.four
      obtain ⟨_, e0, e1, e2, e3, e4, e5, e6, e7, e8, g0, g1, g2, g3, g4, g5, g6, g7, g8⟩ := id hB
      obtain ⟨_, z0, z1, z2, z3, z4, z5, z6, z7, z8, f0, f1, f2, f3, f4, f5, f6, f7, f8⟩ := id hR
      change World.cell? _ _ = some (.int .u64 0) at z1 z2 z3 z4 z5 z6 z7 z8
      go_wp2_with fail
      refine (C.out _).mono ?_; rintro e w1 ⟨rfl, h1⟩
      clear a0 a1 a2 a3 e0 e1 e2 e3 e4 e5 e6 e7 e8 g0 g1 g2 g3 g4 g5 g6 g7 g8 z0 z1 z2 z3 z4 z5 z6 z7 z8 f0 f1 f2 f3 f4 f5 f6 f7 f8
      replace hV := hV.ext h1
      replace hB := hB.ext h1
      replace hR := hR.ext h1
      replace hE := hE.trans h1
      clear h1
      clear C
      have hEn := (Ext.refl w1).alloc (.cells #[.int .u64 (N 0 : Nat), .int .u64 (N 1 : Nat), .int .u64 (N 2 : Nat), .int .u64 (N 3 : Nat)] 36)
      have hN : VBox w1.heap.size N (w1.alloc (.cells #[.int .u64 (N 0 : Nat), .int .u64 (N 1 : Nat), .int .u64 (N 2 : Nat), .int .u64 (N 3 : Nat)] 36)) := VBox.new w1 N 36
      replace hV := hV.ext hEn
      replace hB := hB.ext hEn
      replace hR := hR.ext hEn
      replace hE := hE.trans hEn
      clear hEn
      obtain ⟨_, a0, a1, a2, a3, _, _, _, _⟩ := hV.four
      obtain ⟨_, e0, e1, e2, e3, e4, e5, e6, e7, e8, g0, g1, g2, g3, g4, g5, g6, g7, g8⟩ := id hB
      obtain ⟨_, z0, z1, z2, z3, z4, z5, z6, z7, z8, f0, f1, f2, f3, f4, f5, f6, f7, f8⟩ := id hR
      change World.cell? _ _ = some (.int .u64 0) at z1 z2 z3 z4 z5 z6 z7 z8
      obtain ⟨_, n0, n1, n2, n3, _, _, _, _⟩ := hN.four
      go_wp2_with fail
      refine (F.out _).mono ?_; rintro e w2 ⟨rfl, h2⟩
      clear a0 a1 a2 a3 e0 e1 e2 e3 e4 e5 e6 e7 e8 g0 g1 g2 g3 g4 g5 g6 g7 g8 z0 z1 z2 z3 z4 z5 z6 z7 z8 f0 f1 f2 f3 f4 f5 f6 f7 f8 n0 n1 n2 n3
      replace hN := hN.ext h2
      replace hV := hV.ext h2
      replace hB := hB.ext h2
      replace hR := hR.ext h2
      replace hE := hE.trans h2
      clear h2
      clear F
      obtain ⟨_, a0, a1, a2, a3, _, _, _, _⟩ := hV.four
      obtain ⟨_, e0, e1, e2, e3, e4, e5, e6, e7, e8, g0, g1, g2, g3, g4, g5, g6, g7, g8⟩ := id hB
      obtain ⟨_, z0, z1, z2, z3, z4, z5, z6, z7, z8, f0, f1, f2, f3, f4, f5, f6, f7, f8⟩ := id hR
      change World.cell? _ _ = some (.int .u64 0) at z1 z2 z3 z4 z5 z6 z7 z8
      obtain ⟨_, n0, n1, n2, n3, _, _, _, _⟩ := hN.four
      go_wp2
      have hP := hR.put s L U
      unfold put9 at hP
      obtain ⟨_, k0, k1, k2, k3, k4, k5, k6, k7, k8, _, _, _, _, _, _, _, _, _⟩ := hP
      refine bodyPost_ret (v := .tuple #[.agg #[.string s, .int .u64 (L 0 : Nat), .int .u64 (L 1 : Nat), .int .u64 (L 2 : Nat), .int .u64 (L 3 : Nat), .int .u64 (U 0 : Nat), .int .u64 (U 1 : Nat), .int .u64 (U 2 : Nat), .int .u64 (U 3 : Nat)], .int .i64 10]) (by simp [results, Tryd.results34, go_sem, k0, k1, k2, k3, k4, k5, k6, k7, k8]) rfl ?_
      exact ⟨rfl, Ext.put9 hE (b := w.heap.size + 1 + 1) (by omega) s L U⟩
    | true =>
      have hf : chgE v (s, l, u) = ((s, l, vadd u v), 0) := by unfold chgE; rw [if_neg hd1, if_neg (show ¬ vfits (vadd u v) l = false by rw [hd2]; simp)]
      rw [hf]
      rw [hd2] at F
      clear hf hN0 hd hd1 hd2 hl hu hv
      unfold entVal uAt
      unfold vVal vF at C F
      simp only
      generalize vG (vadd u v) = N at *
      generalize vG v = V at *
      generalize vG l = L at *
      generalize vG u = U at *
      have hV : VBox w.heap.size V (((w.alloc (.cells #[.int .u64 (V 0 : Nat), .int .u64 (V 1 : Nat), .int .u64 (V 2 : Nat), .int .u64 (V 3 : Nat)] 66)).alloc (.cells #[.string s, .int .u64 (L 0 : Nat), .int .u64 (L 1 : Nat), .int .u64 (L 2 : Nat), .int .u64 (L 3 : Nat), .int .u64 (U 0 : Nat), .int .u64 (U 1 : Nat), .int .u64 (U 2 : Nat), .int .u64 (U 3 : Nat)] 44)).alloc (.cells #[.string ⟨#[]⟩, .int .u64 0, .int .u64 0, .int .u64 0, .int .u64 0, .int .u64 0, .int .u64 0, .int .u64 0, .int .u64 0] 44)) := ((VBox.new w V _).ext ((Ext.refl _).alloc _)).ext ((Ext.refl _).alloc _)
      have hB : EBox (w.heap.size + 1) s L U (((w.alloc (.cells #[.int .u64 (V 0 : Nat), .int .u64 (V 1 : Nat), .int .u64 (V 2 : Nat), .int .u64 (V 3 : Nat)] 66)).alloc (.cells #[.string s, .int .u64 (L 0 : Nat), .int .u64 (L 1 : Nat), .int .u64 (L 2 : Nat), .int .u64 (L 3 : Nat), .int .u64 (U 0 : Nat), .int .u64 (U 1 : Nat), .int .u64 (U 2 : Nat), .int .u64 (U 3 : Nat)] 44)).alloc (.cells #[.string ⟨#[]⟩, .int .u64 0, .int .u64 0, .int .u64 0, .int .u64 0, .int .u64 0, .int .u64 0, .int .u64 0, .int .u64 0] 44)) := by
        have h := EBox.new (w.alloc (.cells #[.int .u64 (V 0 : Nat), .int .u64 (V 1 : Nat), .int .u64 (V 2 : Nat), .int .u64 (V 3 : Nat)] 66)) s L U 44
        rw [World.size_alloc] at h
        exact h.ext ((Ext.refl _).alloc _)
      have hR : EBox (w.heap.size + 1 + 1) ⟨#[]⟩ (fun _ => 0) (fun _ => 0) (((w.alloc (.cells #[.int .u64 (V 0 : Nat), .int .u64 (V 1 : Nat), .int .u64 (V 2 : Nat), .int .u64 (V 3 : Nat)] 66)).alloc (.cells #[.string s, .int .u64 (L 0 : Nat), .int .u64 (L 1 : Nat), .int .u64 (L 2 : Nat), .int .u64 (L 3 : Nat), .int .u64 (U 0 : Nat), .int .u64 (U 1 : Nat), .int .u64 (U 2 : Nat), .int .u64 (U 3 : Nat)] 44)).alloc (.cells #[.string ⟨#[]⟩, .int .u64 0, .int .u64 0, .int .u64 0, .int .u64 0, .int .u64 0, .int .u64 0, .int .u64 0, .int .u64 0] 44)) := by
        have h := EBox.new ((w.alloc (.cells #[.int .u64 (V 0 : Nat), .int .u64 (V 1 : Nat), .int .u64 (V 2 : Nat), .int .u64 (V 3 : Nat)] 66)).alloc (.cells #[.string s, .int .u64 (L 0 : Nat), .int .u64 (L 1 : Nat), .int .u64 (L 2 : Nat), .int .u64 (L 3 : Nat), .int .u64 (U 0 : Nat), .int .u64 (U 1 : Nat), .int .u64 (U 2 : Nat), .int .u64 (U 3 : Nat)] 44)) ⟨#[]⟩ (fun _ => 0) (fun _ => 0) 44
        rw [World.size_alloc, World.size_alloc] at h
        exact h
      have hE : Ext w (((w.alloc (.cells #[.int .u64 (V 0 : Nat), .int .u64 (V 1 : Nat), .int .u64 (V 2 : Nat), .int .u64 (V 3 : Nat)] 66)).alloc (.cells #[.string s, .int .u64 (L 0 : Nat), .int .u64 (L 1 : Nat), .int .u64 (L 2 : Nat), .int .u64 (L 3 : Nat), .int .u64 (U 0 : Nat), .int .u64 (U 1 : Nat), .int .u64 (U 2 : Nat), .int .u64 (U 3 : Nat)] 44)).alloc (.cells #[.string ⟨#[]⟩, .int .u64 0, .int .u64 0, .int .u64 0, .int .u64 0, .int .u64 0, .int .u64 0, .int .u64 0, .int .u64 0] 44)) := (((Ext.refl w).alloc _).alloc _).alloc _
      replace C := Lib.hid C
      replace F := Lib.hid F
      go_enter Tryd.func34, Tryd.ntmps34
      obtain ⟨_, a0, a1, a2, a3, _, _, _, _⟩ := hV.four
      obtain ⟨_, e0, e1, e2, e3, e4, e5, e6, e7, e8, g0, g1, g2, g3, g4, g5, g6, g7, g8⟩ := id hB
      obtain ⟨_, z0, z1, z2, z3, z4, z5, z6, z7, z8, f0, f1, f2, f3, f4, f5, f6, f7, f8⟩ := id hR
      change World.cell? _ _ = some (.int .u64 0) at z1 z2 z3 z4 z5 z6 z7 z8
      go_wp2_with fail
      refine (C.out _).mono ?_; rintro e w1 ⟨rfl, h1⟩
      clear a0 a1 a2 a3 e0 e1 e2 e3 e4 e5 e6 e7 e8 g0 g1 g2 g3 g4 g5 g6 g7 g8 z0 z1 z2 z3 z4 z5 z6 z7 z8 f0 f1 f2 f3 f4 f5 f6 f7 f8
      replace hV := hV.ext h1
      replace hB := hB.ext h1
      replace hR := hR.ext h1
      replace hE := hE.trans h1
      clear h1
      clear C
      have hEn := (Ext.refl w1).alloc (.cells #[.int .u64 (N 0 : Nat), .int .u64 (N 1 : Nat), .int .u64 (N 2 : Nat), .int .u64 (N 3 : Nat)] 36)
      have hN : VBox w1.heap.size N (w1.alloc (.cells #[.int .u64 (N 0 : Nat), .int .u64 (N 1 : Nat), .int .u64 (N 2 : Nat), .int .u64 (N 3 : Nat)] 36)) := VBox.new w1 N 36
      replace hV := hV.ext hEn
      replace hB := hB.ext hEn
      replace hR := hR.ext hEn
      replace hE := hE.trans hEn
      clear hEn
      obtain ⟨_, a0, a1, a2, a3, _, _, _, _⟩ := hV.four
      obtain ⟨_, e0, e1, e2, e3, e4, e5, e6, e7, e8, g0, g1, g2, g3, g4, g5, g6, g7, g8⟩ := id hB
      obtain ⟨_, z0, z1, z2, z3, z4, z5, z6, z7, z8, f0, f1, f2, f3, f4, f5, f6, f7, f8⟩ := id hR
      change World.cell? _ _ = some (.int .u64 0) at z1 z2 z3 z4 z5 z6 z7 z8
      obtain ⟨_, n0, n1, n2, n3, _, _, _, _⟩ := hN.four
      go_wp2_with fail
      refine (F.out _).mono ?_; rintro e w2 ⟨rfl, h2⟩
      clear a0 a1 a2 a3 e0 e1 e2 e3 e4 e5 e6 e7 e8 g0 g1 g2 g3 g4 g5 g6 g7 g8 z0 z1 z2 z3 z4 z5 z6 z7 z8 f0 f1 f2 f3 f4 f5 f6 f7 f8 n0 n1 n2 n3
      replace hN := hN.ext h2
      replace hV := hV.ext h2
      replace hB := hB.ext h2
      replace hR := hR.ext h2
      replace hE := hE.trans h2
      clear h2
      clear F
      obtain ⟨_, a0, a1, a2, a3, _, _, _, _⟩ := hV.four
      obtain ⟨_, e0, e1, e2, e3, e4, e5, e6, e7, e8, g0, g1, g2, g3, g4, g5, g6, g7, g8⟩ := id hB
      obtain ⟨_, z0, z1, z2, z3, z4, z5, z6, z7, z8, f0, f1, f2, f3, f4, f5, f6, f7, f8⟩ := id hR
      change World.cell? _ _ = some (.int .u64 0) at z1 z2 z3 z4 z5 z6 z7 z8
      obtain ⟨_, n0, n1, n2, n3, _, _, _, _⟩ := hN.four
      go_wp2
      have hP := ((((hR.far (i := 5) (c := w.heap.size + 1) (by omega) (.int .u64 (N 0 : Nat))).far (i := 6) (c := w.heap.size + 1) (by omega) (.int .u64 (N 1 : Nat))).far (i := 7) (c := w.heap.size + 1) (by omega) (.int .u64 (N 2 : Nat))).far (i := 8) (c := w.heap.size + 1) (by omega) (.int .u64 (N 3 : Nat))).put s L N
      unfold put9 at hP
      obtain ⟨_, k0, k1, k2, k3, k4, k5, k6, k7, k8, _, _, _, _, _, _, _, _, _⟩ := hP
      refine bodyPost_ret (v := .tuple #[.agg #[.string s, .int .u64 (L 0 : Nat), .int .u64 (L 1 : Nat), .int .u64 (L 2 : Nat), .int .u64 (L 3 : Nat), .int .u64 (N 0 : Nat), .int .u64 (N 1 : Nat), .int .u64 (N 2 : Nat), .int .u64 (N 3 : Nat)], .int .i64 0]) (by simp [results, Tryd.results34, go_sem, k0, k1, k2, k3, k4, k5, k6, k7, k8]) rfl ?_
      exact ⟨rfl, Ext.put9 ((((hE.setCell (p := ⟨w.heap.size + 1, 5, none⟩) (by show w.heap.size ≤ w.heap.size + 1; omega) (.int .u64 (N 0 : Nat))).setCell (p := ⟨w.heap.size + 1, 6, none⟩) (by show w.heap.size ≤ w.heap.size + 1; omega) (.int .u64 (N 1 : Nat))).setCell (p := ⟨w.heap.size + 1, 7, none⟩) (by show w.heap.size ≤ w.heap.size + 1; omega) (.int .u64 (N 2 : Nat))).setCell (p := ⟨w.heap.size + 1, 8, none⟩) (by show w.heap.size ≤ w.heap.size + 1; omega) (.int .u64 (N 3 : Nat))) (b := w.heap.size + 1 + 1) (by omega) s L N⟩

end Go.Proofs.YtopnllbfhhjobaaDoor

namespace Go.Dm
open Go Go.RowKit

/-- What is done of an entry that keeps its path and its limit. -/
def liftE (h : Vc → Vc → Vc × Nat) (e : EntQ) : EntQ × Nat := ((e.1, e.2.1, (h e.2.1 e.2.2).1), (h e.2.1 e.2.2).2)
def chgS (v : Vc) (l u : Vc) : Vc × Nat := if vaddOk u v = false then (u, 5) else if vfits (vadd u v) l = false then (u, 10) else (vadd u v, 0)
def rfdS (v : Vc) (_ u : Vc) : Vc × Nat := if vfits v u = false then (u, 15) else (vsub u v, 0)
theorem chg_lift (v : Vc) : chgE v = liftE (chgS v) := by
  funext e
  unfold chgE liftE chgS
  split
  · rfl
  · split <;> rfl
theorem rfd_lift (v : Vc) : rfdE v = liftE (rfdS v) := by
  funext e
  unfold rfdE liftE rfdS
  split <;> rfl
/-- It is done of each of some. -/
def mapQ (S : StQ) (h : Vc → Vc → Vc × Nat) (l : List Nat) : StQ := fun k => if k ∈ l then (S k).map fun x => (x.1, (h x.1 x.2).1) else S k
/-- The first that can't be. -/
def badQ (S : StQ) (h : Vc → Vc → Vc × Nat) : List Nat → Nat
  | [] => 0
  | k :: ks => match S k with
    | none => badQ S h ks
    | some x => if (h x.1 x.2).2 = 0 then badQ S h ks else (h x.1 x.2).2
theorem loQ_len {S S' : StQ} (h : ∀ j, (S' j).isSome = (S j).isSome) (k : Nat) : (loQ S' k).length = (loQ S k).length := by
  unfold loQ
  rw [List.length_flatMap, List.length_flatMap]
  congr 1
  apply List.map_congr_left
  intro j _
  have := h j
  unfold rowQ
  cases h1 : S' j <;> cases h2 : S j <;> simp_all
theorem badQ_some {S : StQ} {h : Vc → Vc → Vc × Nat} {k : Nat} {ks : List Nat} {x : Vc × Vc} (hx : S k = some x) : badQ S h (k :: ks) = if (h x.1 x.2).2 = 0 then badQ S h ks else (h x.1 x.2).2 := by
  conv => lhs; unfold badQ
  rw [hx]
theorem eachF_conc {S : StQ} {h : Vc → Vc → Vc × Nat} : ∀ {ks : List Nat} {S' : StQ}, (∀ k ∈ ks, k < 8) → (∀ k ∈ ks, S k ≠ none) → (∀ j, (S' j).isSome = (S j).isSome) → ks.Nodup → (∀ k ∈ ks, S' k = S k) →
    eachF (conc S) (liftE h) (ks.map pth) (conc S') = if badQ S h ks = 0 then (conc (mapQ S' h ks), 0) else (conc S, badQ S h ks)
  | [], S', _, _, _, _, _ => by
    simp only [List.map_nil, eachF, badQ, if_true]
    have : mapQ S' h [] = S' := by funext k; simp [mapQ]
    rw [this]
  | k :: ks, S', h8, hs, hi, hn, he => by
    obtain ⟨x, hx⟩ := Option.ne_none_iff_exists'.1 (hs k (by simp))
    have hk := h8 k (by simp)
    obtain ⟨p1, p2, p3, _⟩ := pl_conc hk hx
    have hx' : S' k = some x := by rw [he k (by simp), hx]
    obtain ⟨_, _, _, q4⟩ := pl_conc (S := S') hk hx'
    rw [loQ_len hi] at q4
    rw [List.map_cons]
    unfold eachF
    rw [p1, p3]
    by_cases h0 : (h x.1 x.2).2 = 0
    · have hb : badQ S h (k :: ks) = badQ S h ks := by rw [badQ_some hx, if_pos h0]
      rw [hb, if_pos (show (liftE h (pth k, x.1, x.2)).2 = 0 from h0), show (liftE h (pth k, x.1, x.2)).1 = (pth k, x.1, (h x.1 x.2).1) from rfl, q4 (x.1, (h x.1 x.2).1)]
      have hno : k ∉ ks := (List.nodup_cons.1 hn).1
      have hi2 : ∀ j, (updQ S' k (some (x.1, (h x.1 x.2).1)) j).isSome = (S j).isSome := fun j => by
        unfold updQ
        split
        · rename_i e; subst e; rw [hx]; rfl
        · exact hi j
      rw [eachF_conc (fun j hj => h8 j (List.mem_cons_of_mem _ hj)) (fun j hj => hs j (List.mem_cons_of_mem _ hj)) hi2 (List.nodup_cons.1 hn).2 (fun j hj => by
        have : j ≠ k := fun e => hno (e ▸ hj)
        rw [updQ, if_neg this]; exact he j (List.mem_cons_of_mem _ hj))]
      have hm : mapQ (updQ S' k (some (x.1, (h x.1 x.2).1))) h ks = mapQ S' h (k :: ks) := by
        funext j
        unfold mapQ updQ
        by_cases e : j = k
        · subst e; simp [hno, hx']
        · simp [e]
      rw [hm]
    · have hb : badQ S h (k :: ks) = (h x.1 x.2).2 := by rw [badQ_some hx, if_neg h0]
      rw [hb, if_neg (show ¬ (liftE h (pth k, x.1, x.2)).2 = 0 from h0), if_neg h0]
      rfl
theorem any_same {α : Type} {f g : α → Bool} : ∀ {l : List α}, (∀ x ∈ l, f x = g x) → l.any f = l.any g
  | [], _ => rfl
  | x :: l, h => by rw [List.any_cons, List.any_cons, h x (by simp), any_same fun y hy => h y (List.mem_cons_of_mem _ hy)]
theorem lack_conc {S : StQ} {ks : List Nat} (h8 : ∀ k ∈ ks, k < 8) : lackT (conc S) (ks.map pth) = ks.any fun k => (S k).isNone := by
  unfold lackT
  rw [List.any_map]
  refine any_same fun k hk => ?_
  show decide (plN (conc S) (pth k) = (conc S).length) = _
  cases h : S k with
  | none => rw [pl_none (h8 k hk) h]; simp
  | some x =>
    obtain ⟨p1, p2, _⟩ := pl_conc (h8 k hk) h
    rw [p1, decide_eq_false (by omega)]; rfl

def chargeQ (S : StQ) (h : Vc → Vc → Vc × Nat) (p : Nat) : StQ × Nat :=
  if (abvK p).any (fun k => (S k).isNone) = true then (S, 7) else if badQ S h (abvK p) = 0 then (mapQ S h (abvK p), 0) else (S, badQ S h (abvK p))
theorem each_conc (S : StQ) (h : Vc → Vc → Vc × Nat) {p : Nat} (hp : p < 8) : eachT (conc S) (pth p) (liftE h) = (conc (chargeQ S h p).1, (chargeQ S h p).2) := by
  unfold eachT chargeQ
  rw [nam_pth p hp, if_neg (by simp), abv_pth hp, lack_conc (abvK_lt p hp)]
  by_cases hl : ((abvK p).any fun k => (S k).isNone) = true
  · rw [if_pos hl, if_pos hl]
  · rw [if_neg hl, if_neg hl]
    have hs : ∀ k ∈ abvK p, S k ≠ none := fun k hk e => hl (List.any_eq_true.2 ⟨k, hk, by rw [e]; rfl⟩)
    rw [eachF_conc (abvK_lt p hp) hs (fun _ => rfl) (abvK_nodup p hp) (fun _ _ => rfl)]
    split <;> rfl
theorem badQ_iff {S : StQ} {h : Vc → Vc → Vc × Nat} : ∀ {ks : List Nat}, badQ S h ks = 0 ↔ ∀ k ∈ ks, ∀ x, S k = some x → (h x.1 x.2).2 = 0
  | [] => by simp [badQ]
  | k :: ks => by
    unfold badQ
    cases e : S k with
    | none =>
      simp only
      rw [badQ_iff]
      constructor
      · intro H j hj x hx
        rcases List.mem_cons.1 hj with rfl | hj
        · rw [e] at hx; cases hx
        · exact H j hj x hx
      · intro H j hj x hx
        exact H j (List.mem_cons_of_mem _ hj) x hx
    | some x =>
      simp only
      by_cases h0 : (h x.1 x.2).2 = 0
      · rw [if_pos h0, badQ_iff]
        constructor
        · intro H j hj y hy
          rcases List.mem_cons.1 hj with rfl | hj
          · rw [e] at hy; injection hy with hy; subst hy; exact h0
          · exact H j hj y hy
        · intro H j hj y hy
          exact H j (List.mem_cons_of_mem _ hj) y hy
      · rw [if_neg h0]
        constructor
        · intro H; exact absurd H h0
        · intro H; exact absurd (H k (by simp) x e) h0
theorem badQ_one {S : StQ} {h : Vc → Vc → Vc × Nat} {n : Nat} (hn : n ≠ 0) : ∀ {ks : List Nat}, (∀ k ∈ ks, ∀ x, S k = some x → (h x.1 x.2).2 = 0 ∨ (h x.1 x.2).2 = n) → badQ S h ks = 0 ∨ badQ S h ks = n
  | [], _ => Or.inl rfl
  | k :: ks, H => by
    unfold badQ
    cases e : S k with
    | none => exact badQ_one hn fun j hj => H j (List.mem_cons_of_mem _ hj)
    | some x =>
      simp only
      split
      · exact badQ_one hn fun j hj => H j (List.mem_cons_of_mem _ hj)
      · rename_i h0
        exact (H k (by simp) x e).imp (fun h => absurd h h0) id

/-- P10.2 over the eight paths. -/
def setQ (S : StQ) (p : Nat) (lim : Vc) : StQ × Nat :=
  if p ≠ 0 ∧ S (parK p) = none then (S, 7)
  else match S p with
    | some x => if vfits x.2 lim = true then (updQ S p (some (lim, x.2)), 0) else (S, 10)
    | none => (updQ S p (some (lim, noV)), 0)
theorem pl_iff {S : StQ} {k : Nat} (hk : k < 8) : plN (conc S) (pth k) = (conc S).length ↔ S k = none := by
  cases h : S k with
  | none => simp [pl_none hk h]
  | some x =>
    obtain ⟨p1, p2, _⟩ := pl_conc hk h
    rw [p1]
    constructor
    · intro e; omega
    · intro e; cases e
theorem set_conc (S : StQ) {p : Nat} (hp : p < 8) (lim : Vc) : setT (conc S) (pth p) lim = (conc (setQ S p lim).1, (setQ S p lim).2) := by
  unfold setT setQ
  rw [nam_pth p hp, if_neg (by simp), par_pth p hp]
  have h16 : ¬ (plN (conc S) (pth p) = (conc S).length ∧ 16 ≤ (conc S).length) := fun h => by have := conc_len S; omega
  have hz : (pth p ≠ ⟨#[]⟩ ∧ plN (conc S) (pth (parK p)) = (conc S).length) ↔ (p ≠ 0 ∧ S (parK p) = none) := by rw [Ne, pth_nil hp, pl_iff (parK_lt p hp)]
  by_cases h1 : p ≠ 0 ∧ S (parK p) = none
  · rw [if_pos (hz.2 h1), if_pos h1]
  · rw [if_neg (fun h => h1 (hz.1 h)), if_neg h1, if_neg h16]
    cases e : S p with
    | some x =>
      obtain ⟨p1, p2, p3, p4⟩ := pl_conc hp e
      rw [p1, p3]
      simp only
      by_cases hf : vfits x.2 lim = true
      · rw [if_neg (fun h => by rw [hf] at h; exact absurd h.2 (by simp)), if_pos p2, if_pos hf]
        exact congrArg (fun z => (z, 0)) (p4 (lim, x.2))
      · rw [if_pos ⟨p2, by simpa using hf⟩, if_neg hf]
    | none =>
      have hl : ¬ plN (conc S) (pth p) < (conc S).length := by rw [pl_none hp e]; omega
      rw [if_neg (fun h => hl h.1), if_neg hl]
      exact congrArg (fun z => (z, 0)) (up_conc hp e (lim, noV))

/-- A state that a run of settings, charges may come to. -/
structure OkS (S : StQ) : Prop where
  root : S 0 ≠ none
  par : ∀ k, k < 8 → S k ≠ none → S (parK k) ≠ none
  lim : ∀ k x, S k = some x → OkV x.1
  use : ∀ k x, S k = some x → OkV x.2
  top : ∀ k x, S k = some x → ∀ j, vG x.1 j ≤ 40
  fit : ∀ k x, S k = some x → vfits x.2 x.1 = true
theorem OkS.set {S : StQ} (h : OkS S) {p : Nat} (hp : p < 8) {lim : Vc} (hl : OkV lim) (ht : ∀ j, vG lim j ≤ 40) : OkS (setQ S p lim).1 := by
  unfold setQ
  by_cases h1 : p ≠ 0 ∧ S (parK p) = none
  · rw [if_pos h1]; exact h
  · rw [if_neg h1]
    have hgen : ∀ u, OkV u → vfits u lim = true → OkS (updQ S p (some (lim, u))) := fun u hu hf => by
      refine ⟨?_, fun k hk hs => ?_, fun k x hx => ?_, fun k x hx => ?_, fun k x hx => ?_, fun k x hx => ?_⟩
      · unfold updQ; split
        · simp
        · exact h.root
      · unfold updQ
        split
        · simp
        · by_cases e : k = p
          · subst e
            by_cases e0 : k = 0
            · subst e0; exact h.root
            · exact fun e2 => h1 ⟨e0, e2⟩
          · unfold updQ at hs
            rw [if_neg e] at hs
            exact h.par k hk hs
      all_goals
        unfold updQ at hx
        by_cases e : k = p
        · rw [if_pos e] at hx
          injection hx with hx
          subst hx
          first | exact hl | exact hu | exact ht | exact hf
        · rw [if_neg e] at hx
          first | exact h.lim k x hx | exact h.use k x hx | exact h.top k x hx | exact h.fit k x hx
    cases e : S p with
    | some x =>
      simp only
      split
      · rename_i hf; exact hgen x.2 (h.use p x e) hf
      · exact h
    | none => exact hgen noV okV_no (vfits_no_le lim)
theorem OkS.map {S : StQ} (h : OkS S) {f : Vc → Vc → Vc × Nat} {l : List Nat} (hf : ∀ k ∈ l, ∀ x, S k = some x → OkV (f x.1 x.2).1 ∧ vfits (f x.1 x.2).1 x.1 = true) : OkS (mapQ S f l) := by
  have hn : ∀ k, mapQ S f l k = none ↔ S k = none := fun k => by
    unfold mapQ; split
    · simp
    · rfl
  have hx : ∀ k y, mapQ S f l k = some y → ∃ x, S k = some x ∧ y.1 = x.1 ∧ (y = x ∨ (k ∈ l ∧ y.2 = (f x.1 x.2).1)) := fun k y hy => by
    unfold mapQ at hy
    split at hy
    · rename_i hk
      cases e : S k with
      | none => rw [e] at hy; cases hy
      | some x =>
        rw [e] at hy
        simp only [Option.map_some] at hy
        injection hy with hy
        subst hy
        exact ⟨x, rfl, rfl, Or.inr ⟨hk, rfl⟩⟩
    · exact ⟨y, hy, rfl, Or.inl rfl⟩
  refine ⟨fun e => h.root ((hn 0).1 e), fun k hk hs e => h.par k hk (fun e2 => hs ((hn k).2 e2)) ((hn _).1 e), fun k y hy => ?_, fun k y hy => ?_, fun k y hy => ?_, fun k y hy => ?_⟩ <;>
    obtain ⟨x, h1, h2, h3⟩ := hx k y hy
  · rw [h2]; exact h.lim k x h1
  · rcases h3 with rfl | ⟨hk, h3⟩
    · exact h.use k _ h1
    · rw [h3]; exact (hf k hk x h1).1
  · rw [h2]; exact h.top k x h1
  · rcases h3 with rfl | ⟨hk, h3⟩
    · exact h.fit k _ h1
    · rw [h2, h3]; exact (hf k hk x h1).2
theorem chgS_zero {v l u : Vc} (h : (chgS v l u).2 = 0) : vaddOk u v = true ∧ vfits (vadd u v) l = true ∧ (chgS v l u).1 = vadd u v := by
  unfold chgS at h ⊢
  split at h
  · cases h
  · split at h
    · cases h
    · rename_i h1 h2
      rw [if_neg h1, if_neg h2]
      exact ⟨by simpa using h1, by simpa using h2, rfl⟩
theorem rfdS_zero {v l u : Vc} (h : (rfdS v l u).2 = 0) : vfits v u = true ∧ (rfdS v l u).1 = vsub u v := by
  unfold rfdS at h ⊢
  split at h
  · cases h
  · rename_i h1
    rw [if_neg h1]
    exact ⟨by simpa using h1, rfl⟩
theorem OkS.charge {S : StQ} (h : OkS S) (v : Vc) (p : Nat) : OkS (chargeQ S (chgS v) p).1 := by
  unfold chargeQ
  split
  · exact h
  · split
    · rename_i hb
      refine h.map fun k hk x hx => ?_
      obtain ⟨h1, h2, h3⟩ := chgS_zero (badQ_iff.1 hb k hk x hx)
      rw [h3]
      exact ⟨vadd_okV h1, h2⟩
    · exact h
theorem OkS.refund {S : StQ} (h : OkS S) (v : Vc) (p : Nat) : OkS (chargeQ S (rfdS v) p).1 := by
  unfold chargeQ
  split
  · exact h
  · split
    · rename_i hb
      refine h.map fun k hk x hx => ?_
      obtain ⟨h1, h3⟩ := rfdS_zero (badQ_iff.1 hb k hk x hx)
      rw [h3]
      refine ⟨vsub_ok (h.use k x hx), ?_⟩
      have hf := h.fit k x hx
      rw [vfits_four] at hf ⊢
      simp only [vsub_eta, vG, List.getD_cons_zero, List.getD_cons_succ] at hf ⊢
      omega
    · exact h
end Go.Dm
