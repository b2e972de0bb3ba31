/- Texts one behind the other: Chapter 10: the laws over states. No program in sight. -/
import Derived.Test.YtopnllbfhhjobaaDoorT19
namespace Go.Dm
open Go Go.RowKit

theorem chargeQ_err {S : StQ} {h : Vc → Vc → Vc × Nat} {p : Nat} (hne : (chargeQ S h p).2 ≠ 0) : (chargeQ S h p).1 = S := by
  unfold chargeQ at *
  split
  · rfl
  · split
    · rename_i h1 h2; rw [if_neg h1, if_pos h2] at hne; exact absurd rfl hne
    · rfl
theorem chargeQ_ok {S : StQ} {h : Vc → Vc → Vc × Nat} {p : Nat} (h0 : (chargeQ S h p).2 = 0) :
    (∀ k ∈ abvK p, S k ≠ none) ∧ (∀ k ∈ abvK p, ∀ x, S k = some x → (h x.1 x.2).2 = 0) ∧ (chargeQ S h p).1 = mapQ S h (abvK p) := by
  unfold chargeQ at *
  by_cases h1 : (abvK p).any (fun k => (S k).isNone) = true
  · rw [if_pos h1] at h0; cases h0
  · rw [if_neg h1] at h0 ⊢
    by_cases h2 : badQ S h (abvK p) = 0
    · rw [if_pos h2]
      refine ⟨fun k hk e => h1 (List.any_eq_true.2 ⟨k, hk, by rw [e]; rfl⟩), badQ_iff.1 h2, rfl⟩
    · rw [if_neg h2] at h0; exact absurd h0 h2
theorem chargeQ_mk {S : StQ} {h : Vc → Vc → Vc × Nat} {p : Nat} (h1 : ∀ k ∈ abvK p, S k ≠ none) (h2 : ∀ k ∈ abvK p, ∀ x, S k = some x → (h x.1 x.2).2 = 0) :
    chargeQ S h p = (mapQ S h (abvK p), 0) := by
  unfold chargeQ
  rw [if_neg (fun e => by
    obtain ⟨k, hk, hn⟩ := List.any_eq_true.1 e
    exact h1 k hk (Option.isNone_iff_eq_none.1 hn)), if_pos (badQ_iff.2 h2)]
theorem mapQ_some {S : StQ} {h : Vc → Vc → Vc × Nat} {l : List Nat} {k : Nat} {y : Vc × Vc} (hy : mapQ S h l k = some y) : ∃ x, S k = some x ∧ y.1 = x.1 ∧ y.2 = if k ∈ l then (h x.1 x.2).1 else x.2 := by
  unfold mapQ at hy
  split at hy
  · rename_i hk
    cases e : S k with
    | none => rw [e] at hy; cases hy
    | some x =>
      rw [e] at hy
      injection hy with hy
      exact ⟨x, rfl, by rw [← hy], by rw [← hy, if_pos hk]⟩
  · rename_i hk
    exact ⟨y, hy, rfl, by rw [if_neg hk]⟩
theorem mapQ_at {S : StQ} {h : Vc → Vc → Vc × Nat} {l : List Nat} {k : Nat} {x : Vc × Vc} (hx : S k = some x) : mapQ S h l k = some (x.1, if k ∈ l then (h x.1 x.2).1 else x.2) := by
  unfold mapQ
  split
  · rw [hx]; rfl
  · rw [hx]
theorem mapQ_none {S : StQ} {h : Vc → Vc → Vc × Nat} {l : List Nat} {k : Nat} : mapQ S h l k = none ↔ S k = none := by
  unfold mapQ
  split
  · simp
  · rfl
theorem chgS_ok {v l u : Vc} (h1 : vaddOk u v = true) (h2 : vfits (vadd u v) l = true) : chgS v l u = (vadd u v, 0) := by
  unfold chgS; rw [if_neg (by rw [h1]; simp), if_neg (by rw [h2]; simp)]
theorem rfdS_ok {v l u : Vc} (h : vfits v u = true) : rfdS v l u = (vsub u v, 0) := by
  unfold rfdS; rw [if_neg (by rw [h]; simp)]

/-- What was charged is given back, and then all is as it was. -/
theorem charge_back {S : StQ} (hS : OkS S) {v : Vc} {p : Nat} (h : (chargeQ S (chgS v) p).2 = 0) : chargeQ (chargeQ S (chgS v) p).1 (rfdS v) p = (S, 0) := by
  obtain ⟨h1, h2, h3⟩ := chargeQ_ok h
  rw [h3]
  rw [chargeQ_mk (fun k hk e => h1 k hk (mapQ_none.1 e)) (fun k hk y hy => by
    obtain ⟨x, hx, e1, e2⟩ := mapQ_some hy
    obtain ⟨a1, a2, a3⟩ := chgS_zero (h2 k hk x hx)
    rw [if_pos hk, a3] at e2
    rw [e2, rfdS_ok (vsub_add (hS.use k x hx)).2.1])]
  congr 1
  funext k
  cases e : S k with
  | none => exact mapQ_none.2 (mapQ_none.2 e)
  | some x =>
    rw [mapQ_at (mapQ_at e)]
    by_cases hk : k ∈ abvK p
    · obtain ⟨a1, a2, a3⟩ := chgS_zero (h2 k hk x e)
      rw [if_pos hk, if_pos hk, a3, rfdS_ok (vsub_add (hS.use k x e)).2.1, (vsub_add (hS.use k x e)).1]
    · rw [if_neg hk, if_neg hk]

/-- Within a limit of forty little can be added. -/
theorem OkS.small {S : StQ} (h : OkS S) {k : Nat} {x : Vc × Vc} (hx : S k = some x) (j : Nat) (hj : j < 4) : vG x.2 j ≤ 40 := by
  have h1 := vfits_four.1 (h.fit k x hx)
  have h2 := h.top k x hx
  match j, hj with
  | 0, _ => have := h2 0; omega
  | 1, _ => have := h2 1; omega
  | 2, _ => have := h2 2; omega
  | 3, _ => have := h2 3; omega
theorem OkS.add {S : StQ} (h : OkS S) {k : Nat} {x : Vc × Vc} (hx : S k = some x) {v : Vc} (hv : ∀ j, vG v j < 8) : vaddOk x.2 v = true := by
  rw [vaddOk_four]
  have a0 := h.small hx 0 (by omega)
  have a1 := h.small hx 1 (by omega)
  have a2 := h.small hx 2 (by omega)
  have a3 := h.small hx 3 (by omega)
  have b0 := hv 0
  have b1 := hv 1
  have b2 := hv 2
  have b3 := hv 3
  omega
def fitB (S : StQ) (a : Vc) (k : Nat) : Bool := match S k with
  | some x => vfits (vadd x.2 a) x.1
  | none => false
def couB (S : StQ) (a : Vc) (k : Nat) : Bool := match S k with
  | some x => vfits a x.1
  | none => false
/-- What may be charged is what fits each limit above it, less what is used there. -/
theorem charge_iff {S : StQ} (hS : OkS S) {v : Vc} (hv : ∀ j, vG v j < 8) {p : Nat} (hp : ∀ k ∈ abvK p, S k ≠ none) :
    ((chargeQ S (chgS v) p).2 = 0 ↔ (abvK p).all (fitB S v) = true) ∧ ((chargeQ S (chgS v) p).2 = 0 ∨ (chargeQ S (chgS v) p).2 = 10) := by
  have hb : (chargeQ S (chgS v) p).2 = badQ S (chgS v) (abvK p) := by
    unfold chargeQ
    rw [if_neg (fun e => by
      obtain ⟨k, hk, hn⟩ := List.any_eq_true.1 e
      exact hp k hk (Option.isNone_iff_eq_none.1 hn))]
    split
    · rename_i h; rw [h]
    · rfl
  have hc : ∀ k ∈ abvK p, ∀ x, S k = some x → (chgS v x.1 x.2).2 = if vfits (vadd x.2 v) x.1 = true then 0 else 10 := fun k hk x hx => by
    unfold chgS
    rw [if_neg (by rw [hS.add hx hv]; simp)]
    cases vfits (vadd x.2 v) x.1 <;> rfl
  rw [hb]
  refine ⟨?_, badQ_one (by omega) fun k hk x hx => ?_⟩
  · rw [badQ_iff, List.all_eq_true]
    constructor
    · intro h k hk
      cases e : S k with
      | none => exact absurd e (hp k hk)
      | some x =>
        have := h k hk x e
        rw [hc k hk x e] at this
        unfold fitB
        rw [e]
        by_cases hf : vfits (vadd x.2 v) x.1 = true
        · exact hf
        · rw [if_neg hf] at this; cases this
    · intro h k hk x hx
      have := h k hk
      unfold fitB at this
      rw [hx] at this
      rw [hc k hk x hx, if_pos this]
  · rw [hc k hk x hx]
    split
    · exact Or.inl rfl
    · exact Or.inr rfl
theorem charge_lack {S : StQ} {h : Vc → Vc → Vc × Nat} {p k : Nat} (hk : k ∈ abvK p) (hn : S k = none) : (chargeQ S h p).2 = 7 := by
  unfold chargeQ
  rw [if_pos (List.any_eq_true.2 ⟨k, hk, by rw [hn]; rfl⟩)]
theorem OkS.free {S : StQ} (h : OkS S) : OkS (freeS S) := by
  have hx : ∀ k y, freeS S k = some y → ∃ x, S k = some x ∧ y = (x.1, noV) := fun k y hy => by
    unfold freeS at hy
    cases e : S k with
    | none => rw [e] at hy; cases hy
    | some x => rw [e] at hy; injection hy with hy; exact ⟨x, rfl, hy.symm⟩
  have hn : ∀ k, freeS S k = none ↔ S k = none := fun k => by unfold freeS; simp
  refine ⟨fun e => h.root ((hn 0).1 e), fun k hk hs e => h.par k hk (fun e2 => hs ((hn k).2 e2)) ((hn _).1 e), fun k y hy => ?_, fun k y hy => ?_, fun k y hy => ?_, fun k y hy => ?_⟩ <;> obtain ⟨x, h1, rfl⟩ := hx k y hy
  · exact h.lim k x h1
  · exact okV_no
  · exact h.top k x h1
  · exact vfits_no_le _
theorem could_lack {S : StQ} {v : Vc} {p k : Nat} (hk : k ∈ abvK p) (hn : S k = none) : (chargeQ (freeS S) (chgS v) p).2 = 7 := charge_lack hk (by unfold freeS; rw [hn]; rfl)
theorem vadd_no_left {v l : Vc} : vfits (vadd noV v) l = vfits v l := by
  rw [Bool.eq_iff_iff, vfits_four, vfits_four, vadd_eta]
  simp [vG, noV]
theorem could_iff {S : StQ} (hS : OkS S) {v : Vc} (hv : ∀ j, vG v j < 8) {p : Nat} (hp : ∀ k ∈ abvK p, S k ≠ none) : (chargeQ (freeS S) (chgS v) p).2 = 0 ↔ (abvK p).all (couB S v) = true := by
  rw [(charge_iff hS.free hv (fun k hk e => hp k hk (by unfold freeS at e; simpa using e))).1]
  rw [List.all_eq_true, List.all_eq_true]
  have : ∀ k, fitB (freeS S) v k = couB S v k := fun k => by
    unfold fitB couB freeS
    cases S k with
    | none => rfl
    | some x => exact vadd_no_left
  constructor <;> intro h k hk
  · rw [← this]; exact h k hk
  · rw [this]; exact h k hk
theorem fit_could {S : StQ} {v : Vc} {l : List Nat} (h : l.all (fitB S v) = true) : l.all (couB S v) = true := by
  rw [List.all_eq_true] at *
  intro k hk
  have := h k hk
  unfold fitB at this
  unfold couB
  cases e : S k with
  | none => rw [e] at this; exact this
  | some x =>
    rw [e] at this
    have h1 := vfits_four.1 this
    simp only [vadd_eta, vG, List.getD_cons_zero, List.getD_cons_succ] at h1
    rw [vfits_four]
    simp only [vG]
    omega

/-- What of a kind is used. -/
def uS (S : StQ) (k i : Nat) : Nat := match S k with
  | some x => vG x.2 i
  | none => 0
def chiK (k i : Nat) (S : StQ) : Nat := match k with
  | 0 => uS S 1 i + uS S 5 i + uS S 7 i
  | 1 => uS S 2 i + uS S 4 i
  | 2 => uS S 3 i
  | 5 => uS S 6 i
  | _ => 0
def RightS (S : StQ) : Prop := ∀ k, k < 8 → ∀ i, i < 4 → chiK k i S ≤ uS S k i
/-- One more entry is looked at. -/
def addU (S : StQ) (q j : Nat) (s : Vc) : Vc := match S j with
  | none => s
  | some x => if j ≠ 0 ∧ parK j = q then vadd s x.2 else s
theorem addU_at {S : StQ} {q j : Nat} {s : Vc} (i : Nat) (hi : i < 4) : vG (addU S q j s) i = vG s i + if j ≠ 0 ∧ parK j = q then uS S j i else 0 := by
  unfold addU uS
  cases S j with
  | none => simp
  | some x =>
    simp only
    split
    · rw [vadd_eta]
      match i, hi with
      | 0, _ => rfl
      | 1, _ => rfl
      | 2, _ => rfl
      | 3, _ => rfl
    · rfl
theorem uS_small {S : StQ} (hS : OkS S) (k i : Nat) (hi : i < 4) : uS S k i ≤ 40 := by
  unfold uS
  cases e : S k with
  | none => simp
  | some x => exact hS.small e i hi
theorem sumF_row {S : StQ} (hS : OkS S) {q j : Nat} (hq : q < 8) (hj : j < 8) {s : Vc} (hs : ∀ i, i < 4 → vG s i ≤ 1000) (rest : List EntQ) :
    sumF (pth q) (rowQ S j ++ rest) s = sumF (pth q) rest (addU S q j s) := by
  unfold rowQ addU
  cases e : S j with
  | none => rfl
  | some x =>
    show sumF (pth q) ((pth j, x.1, x.2) :: rest) s = sumF (pth q) rest (if j ≠ 0 ∧ parK j = q then vadd s x.2 else s)
    have hr : sumF (pth q) ((pth j, x.1, x.2) :: rest) s = if pth j = ⟨#[]⟩ ∨ parB (pth j) ≠ pth q then sumF (pth q) rest s else if vaddOk s x.2 = true then sumF (pth q) rest (vadd s x.2) else none := rfl
    rw [hr, par_pth j hj]
    simp only [pth_nil hj]
    by_cases h : j = 0 ∨ pth (parK j) ≠ pth q
    · rw [if_pos h, if_neg (show ¬ (j ≠ 0 ∧ parK j = q) from fun ⟨h1, h2⟩ => h.elim h1 fun h => h (by rw [h2]))]
    · have hp : parK j = q := by
        rcases Classical.em (pth (parK j) = pth q) with e | e
        · exact pth_inj (parK_lt j hj) hq e
        · exact absurd (Or.inr e) h
      have ha : vaddOk s x.2 = true := by
        rw [vaddOk_four]
        have a0 := hs 0 (by omega)
        have a1 := hs 1 (by omega)
        have a2 := hs 2 (by omega)
        have a3 := hs 3 (by omega)
        have b0 := hS.small e 0 (by omega)
        have b1 := hS.small e 1 (by omega)
        have b2 := hS.small e 2 (by omega)
        have b3 := hS.small e 3 (by omega)
        omega
      rw [if_neg h, if_pos ha, if_pos (show j ≠ 0 ∧ parK j = q from ⟨fun e => h (Or.inl e), hp⟩)]
theorem conc_rows (S : StQ) : conc S = rowQ S 0 ++ (rowQ S 1 ++ (rowQ S 2 ++ (rowQ S 3 ++ (rowQ S 4 ++ (rowQ S 5 ++ (rowQ S 6 ++ (rowQ S 7 ++ []))))))) := rfl
theorem sum_conc {S : StQ} (hS : OkS S) {q : Nat} (hq : q < 8) : ∃ s, sumF (pth q) (conc S) noV = some s ∧ ∀ i, i < 4 → vG s i = chiK q i S := by
  have hb : ∀ {s : Vc} {n : Nat} (j : Nat), (∀ i, i < 4 → vG s i ≤ n) → ∀ i, i < 4 → vG (addU S q j s) i ≤ n + 40 := fun {s n} j h i hi => by
    rw [addU_at i hi]
    have := h i hi
    have := uS_small hS j i hi
    split <;> omega
  have h0 : ∀ i, i < 4 → vG noV i ≤ 0 := fun i hi => by
    match i, hi with
    | 0, _ => decide
    | 1, _ => decide
    | 2, _ => decide
    | 3, _ => decide
  have h1 := hb 0 h0
  have h2 := hb 1 h1
  have h3 := hb 2 h2
  have h4 := hb 3 h3
  have h5 := hb 4 h4
  have h6 := hb 5 h5
  have h7 := hb 6 h6
  have up : ∀ {s : Vc} {n : Nat}, n ≤ 1000 → (∀ i, i < 4 → vG s i ≤ n) → ∀ i, i < 4 → vG s i ≤ 1000 := fun hn h i hi => by have := h i hi; omega
  rw [conc_rows, sumF_row hS hq (by omega) (up (by omega) h0), sumF_row hS hq (by omega) (up (by omega) h1), sumF_row hS hq (by omega) (up (by omega) h2), sumF_row hS hq (by omega) (up (by omega) h3), sumF_row hS hq (by omega) (up (by omega) h4), sumF_row hS hq (by omega) (up (by omega) h5), sumF_row hS hq (by omega) (up (by omega) h6), sumF_row hS hq (by omega) (up (by omega) h7)]
  refine ⟨_, rfl, fun i hi => ?_⟩
  rw [addU_at i hi, addU_at i hi, addU_at i hi, addU_at i hi, addU_at i hi, addU_at i hi, addU_at i hi, addU_at i hi]
  have hz : vG noV i = 0 := by have := h0 i hi; omega
  rw [hz]
  match q, hq with
  | 0, _ => simp [parK, chiK]
  | 1, _ => simp [parK, chiK]
  | 2, _ => simp [parK, chiK]
  | 3, _ => simp [parK, chiK]
  | 4, _ => simp [parK, chiK]
  | 5, _ => simp [parK, chiK]
  | 6, _ => simp [parK, chiK]
  | 7, _ => simp [parK, chiK]
theorem vfits_all {a b : Vc} : vfits a b = true ↔ ∀ i, i < 4 → vG a i ≤ vG b i := by
  rw [vfits_four]
  constructor
  · rintro ⟨h0, h1, h2, h3⟩ i hi
    match i, hi with
    | 0, _ => exact h0
    | 1, _ => exact h1
    | 2, _ => exact h2
    | 3, _ => exact h3
  · intro h; exact ⟨h 0 (by omega), h 1 (by omega), h 2 (by omega), h 3 (by omega)⟩
theorem holds_conc {S : StQ} (hS : OkS S) {k : Nat} (hk : k < 8) {x : Vc × Vc} (hx : S k = some x) : holdsT (conc S) (pth k, x.1, x.2) = true ↔ ∀ i, i < 4 → chiK k i S ≤ uS S k i := by
  obtain ⟨s, h1, h2⟩ := sum_conc hS hk
  unfold holdsT
  simp only [h1]
  rw [hS.fit k x hx, Bool.true_and, vfits_all]
  have hu : ∀ i, uS S k i = vG x.2 i := fun i => by unfold uS; rw [hx]
  constructor <;> intro h i hi
  · rw [← h2 i hi, hu]; exact h i hi
  · rw [h2 i hi, ← hu]; exact h i hi
/-- The children of what is not there are not there. -/
theorem chi_none {S : StQ} (hS : OkS S) {k : Nat} (hk : k < 8) (hx : S k = none) (i : Nat) : chiK k i S = 0 := by
  have h : ∀ j, j < 8 → parK j = k → S j = none := fun j hj hp => by
    cases e : S j with
    | none => rfl
    | some y => exact absurd (by rw [hp]; exact hx) (hS.par j hj (by rw [e]; simp))
  have hu : ∀ j, j < 8 → parK j = k → uS S j i = 0 := fun j hj hp => by unfold uS; rw [h j hj hp]
  match k, hk with
  | 0, _ => simp [chiK, hu 1 (by omega) rfl, hu 5 (by omega) rfl, hu 7 (by omega) rfl]
  | 1, _ => simp [chiK, hu 2 (by omega) rfl, hu 4 (by omega) rfl]
  | 2, _ => simp [chiK, hu 3 (by omega) rfl]
  | 3, _ => rfl
  | 4, _ => rfl
  | 5, _ => simp [chiK, hu 6 (by omega) rfl]
  | 6, _ => rfl
  | 7, _ => rfl
theorem conc_head {S : StQ} (hS : OkS S) : 1 ≤ (conc S).length ∧ (eAt (conc S) 0).1 = ⟨#[]⟩ := by
  obtain ⟨x, hx⟩ := Option.ne_none_iff_exists'.1 hS.root
  have : conc S = (pth 0, x.1, x.2) :: (rowQ S 1 ++ (rowQ S 2 ++ (rowQ S 3 ++ (rowQ S 4 ++ (rowQ S 5 ++ (rowQ S 6 ++ (rowQ S 7 ++ []))))))) := by
    rw [conc_rows]
    have : rowQ S 0 = [(pth 0, x.1, x.2)] := by simp [rowQ, hx]
    rw [this]; rfl
  rw [this]
  exact ⟨by simp, rfl⟩
/-- The paths rise. -/
theorem conc_rise (S : StQ) : (conc S).Pairwise fun a b => ∃ i j, i < j ∧ j < 8 ∧ a.1 = pth i ∧ b.1 = pth j := by
  unfold conc
  rw [List.pairwise_flatMap]
  refine ⟨fun j _ => ?_, ?_⟩
  · unfold rowQ; split <;> simp
  · have h8 : ∀ j ∈ List.range 8, j < 8 := fun j hj => List.mem_range.1 hj
    have hr : (List.range 8).Pairwise fun i j => i < j ∧ j < 8 := by decide
    exact hr.imp fun ⟨h1, h2⟩ x hx y hy => ⟨_, _, h1, h2, (rowQ_mem hx).1, (rowQ_mem hy).1⟩
theorem okQ_conc {S : StQ} (hS : OkS S) {k : Nat} (hk : k < (conc S).length) : okQ (conc S) k = true := by
  unfold okQ
  rcases Nat.eq_zero_or_pos k with rfl | h0
  · rfl
  · rw [decide_eq_false (by omega), Bool.false_or]
    have h1 := List.pairwise_iff_getElem.1 (conc_rise S) (k - 1) k (by omega) hk (by omega)
    obtain ⟨i, j, hij, hj, e1, e2⟩ := h1
    rw [← eAt_eq (by omega)] at e1
    rw [← eAt_eq hk] at e2
    obtain ⟨j', hj', e3, e4⟩ := conc_mem (eAt_mem hk)
    have : j' = j := pth_inj hj' hj (by rw [← e3, e2])
    subst this
    rw [e1, e2, less_pth i (by omega) j' hj', nam_pth j' hj', decide_eq_true hij, par_pth j' hj', Bool.true_and, Bool.true_and]
    have hp : S (parK j') ≠ none := hS.par j' hj' (by rw [e4]; simp)
    obtain ⟨x, hx⟩ := Option.ne_none_iff_exists'.1 hp
    obtain ⟨p1, p2, _⟩ := pl_conc (parK_lt j' hj') hx
    rw [p1]
    exact decide_eq_true p2
theorem right_conc {S : StQ} (hS : OkS S) : rightQ (conc S) = true ↔ RightS S := by
  have h1 := conc_head hS
  have h2 := conc_len S
  have e1 : decide (1 ≤ (conc S).length ∧ (conc S).length ≤ 16 ∧ (eAt (conc S) 0).1 = ⟨#[]⟩) = true := decide_eq_true ⟨h1.1, by omega, h1.2⟩
  have e2 : (List.range (conc S).length).all (okQ (conc S)) = true := List.all_eq_true.2 fun k hk => okQ_conc hS (List.mem_range.1 hk)
  unfold rightQ
  rw [e1, e2, Bool.true_and, Bool.true_and, List.all_eq_true]
  constructor
  · intro h k hk
    cases e : S k with
    | none => intro i _; rw [chi_none hS hk e]; omega
    | some x => exact (holds_conc hS hk e).1 (h _ (mem_conc hk e))
  · intro h r hr
    obtain ⟨j, hj, e3, e4⟩ := conc_mem hr
    obtain ⟨s, l, u⟩ := r
    simp only at e3 e4
    rw [e3]
    exact (holds_conc hS hj e4).2 (h j hj)
end Go.Dm
