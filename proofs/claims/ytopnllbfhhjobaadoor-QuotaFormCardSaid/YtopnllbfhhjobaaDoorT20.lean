/- Texts one behind the other: Chapter 10: the laws over states. No program in sight; Chapter 10: what is put is got; no beginning of it is. No program in sight. -/
import Derived.Test.YtopnllbfhhjobaaDoorT19
import Derived.Test.YtopnllbfhhjobaaDoorT18
namespace Go.Dm
open Go Go.RowKit

theorem chargeQ_err {S : StQ} {h : Vc → Vc → Vc × Nat} {p : Nat} (hne : (chargeQ S h p).2 ≠ 0) : (chargeQ S h p).1 = S := by
  unfold chargeQ at *
  split
  · rfl
  · split
    · rename_i h1 h2; rw [if_neg h1, if_pos h2] at hne; exact absurd rfl hne
    · rfl
theorem chargeQ_ok {S : StQ} {h : Vc → Vc → Vc × Nat} {p : Nat} (h0 : (chargeQ S h p).2 = 0) :
    (∀ k ∈ abvK p, S k ≠ none) ∧ (∀ k ∈ abvK p, ∀ x, S k = some x → (h x.1 x.2).2 = 0) ∧ (chargeQ S h p).1 = mapQ S h (abvK p) := by
  unfold chargeQ at *
  by_cases h1 : (abvK p).any (fun k => (S k).isNone) = true
  · rw [if_pos h1] at h0; cases h0
  · rw [if_neg h1] at h0 ⊢
    by_cases h2 : badQ S h (abvK p) = 0
    · rw [if_pos h2]
      refine ⟨fun k hk e => h1 (List.any_eq_true.2 ⟨k, hk, by rw [e]; rfl⟩), badQ_iff.1 h2, rfl⟩
    · rw [if_neg h2] at h0; exact absurd h0 h2
theorem chargeQ_mk {S : StQ} {h : Vc → Vc → Vc × Nat} {p : Nat} (h1 : ∀ k ∈ abvK p, S k ≠ none) (h2 : ∀ k ∈ abvK p, ∀ x, S k = some x → (h x.1 x.2).2 = 0) :
    chargeQ S h p = (mapQ S h (abvK p), 0) := by
  unfold chargeQ
  rw [if_neg (fun e => by
    obtain ⟨k, hk, hn⟩ := List.any_eq_true.1 e
    exact h1 k hk (Option.isNone_iff_eq_none.1 hn)), if_pos (badQ_iff.2 h2)]
theorem mapQ_some {S : StQ} {h : Vc → Vc → Vc × Nat} {l : List Nat} {k : Nat} {y : Vc × Vc} (hy : mapQ S h l k = some y) : ∃ x, S k = some x ∧ y.1 = x.1 ∧ y.2 = if k ∈ l then (h x.1 x.2).1 else x.2 := by
  unfold mapQ at hy
  split at hy
  · rename_i hk
    cases e : S k with
    | none => rw [e] at hy; cases hy
    | some x =>
      rw [e] at hy
      injection hy with hy
      exact ⟨x, rfl, by rw [← hy], by rw [← hy, if_pos hk]⟩
  · rename_i hk
    exact ⟨y, hy, rfl, by rw [if_neg hk]⟩
theorem mapQ_at {S : StQ} {h : Vc → Vc → Vc × Nat} {l : List Nat} {k : Nat} {x : Vc × Vc} (hx : S k = some x) : mapQ S h l k = some (x.1, if k ∈ l then (h x.1 x.2).1 else x.2) := by
  unfold mapQ
  split
  · rw [hx]; rfl
  · rw [hx]
theorem mapQ_none {S : StQ} {h : Vc → Vc → Vc × Nat} {l : List Nat} {k : Nat} : mapQ S h l k = none ↔ S k = none := by
  unfold mapQ
  split
  · simp
  · rfl
theorem chgS_ok {v l u : Vc} (h1 : vaddOk u v = true) (h2 : vfits (vadd u v) l = true) : chgS v l u = (vadd u v, 0) := by
  unfold chgS; rw [if_neg (by rw [h1]; simp), if_neg (by rw [h2]; simp)]
theorem rfdS_ok {v l u : Vc} (h : vfits v u = true) : rfdS v l u = (vsub u v, 0) := by
  unfold rfdS; rw [if_neg (by rw [h]; simp)]

/-- What was charged is given back, and then all is as it was. -/
theorem charge_back {S : StQ} (hS : OkS S) {v : Vc} {p : Nat} (h : (chargeQ S (chgS v) p).2 = 0) : chargeQ (chargeQ S (chgS v) p).1 (rfdS v) p = (S, 0) := by
  obtain ⟨h1, h2, h3⟩ := chargeQ_ok h
  rw [h3]
  rw [chargeQ_mk (fun k hk e => h1 k hk (mapQ_none.1 e)) (fun k hk y hy => by
    obtain ⟨x, hx, e1, e2⟩ := mapQ_some hy
    obtain ⟨a1, a2, a3⟩ := chgS_zero (h2 k hk x hx)
    rw [if_pos hk, a3] at e2
    rw [e2, rfdS_ok (vsub_add (hS.use k x hx)).2.1])]
  congr 1
  funext k
  cases e : S k with
  | none => exact mapQ_none.2 (mapQ_none.2 e)
  | some x =>
    rw [mapQ_at (mapQ_at e)]
    by_cases hk : k ∈ abvK p
    · obtain ⟨a1, a2, a3⟩ := chgS_zero (h2 k hk x e)
      rw [if_pos hk, if_pos hk, a3, rfdS_ok (vsub_add (hS.use k x e)).2.1, (vsub_add (hS.use k x e)).1]
    · rw [if_neg hk, if_neg hk]

/-- Within a limit of forty little can be added. -/
theorem OkS.small {S : StQ} (h : OkS S) {k : Nat} {x : Vc × Vc} (hx : S k = some x) (j : Nat) (hj : j < 4) : vG x.2 j ≤ 40 := by
  have h1 := vfits_four.1 (h.fit k x hx)
  have h2 := h.top k x hx
  match j, hj with
  | 0, _ => have := h2 0; omega
  | 1, _ => have := h2 1; omega
  | 2, _ => have := h2 2; omega
  | 3, _ => have := h2 3; omega
theorem OkS.add {S : StQ} (h : OkS S) {k : Nat} {x : Vc × Vc} (hx : S k = some x) {v : Vc} (hv : ∀ j, vG v j < 8) : vaddOk x.2 v = true := by
  rw [vaddOk_four]
  have a0 := h.small hx 0 (by omega)
  have a1 := h.small hx 1 (by omega)
  have a2 := h.small hx 2 (by omega)
  have a3 := h.small hx 3 (by omega)
  have b0 := hv 0
  have b1 := hv 1
  have b2 := hv 2
  have b3 := hv 3
  omega
def fitB (S : StQ) (a : Vc) (k : Nat) : Bool := match S k with
  | some x => vfits (vadd x.2 a) x.1
  | none => false
def couB (S : StQ) (a : Vc) (k : Nat) : Bool := match S k with
  | some x => vfits a x.1
  | none => false
/-- What may be charged is what fits each limit above it, less what is used there. -/
theorem charge_iff {S : StQ} (hS : OkS S) {v : Vc} (hv : ∀ j, vG v j < 8) {p : Nat} (hp : ∀ k ∈ abvK p, S k ≠ none) :
    ((chargeQ S (chgS v) p).2 = 0 ↔ (abvK p).all (fitB S v) = true) ∧ ((chargeQ S (chgS v) p).2 = 0 ∨ (chargeQ S (chgS v) p).2 = 10) := by
  have hb : (chargeQ S (chgS v) p).2 = badQ S (chgS v) (abvK p) := by
    unfold chargeQ
    rw [if_neg (fun e => by
      obtain ⟨k, hk, hn⟩ := List.any_eq_true.1 e
      exact hp k hk (Option.isNone_iff_eq_none.1 hn))]
    split
    · rename_i h; rw [h]
    · rfl
  have hc : ∀ k ∈ abvK p, ∀ x, S k = some x → (chgS v x.1 x.2).2 = if vfits (vadd x.2 v) x.1 = true then 0 else 10 := fun k hk x hx => by
    unfold chgS
    rw [if_neg (by rw [hS.add hx hv]; simp)]
    cases vfits (vadd x.2 v) x.1 <;> rfl
  rw [hb]
  refine ⟨?_, badQ_one (by omega) fun k hk x hx => ?_⟩
  · rw [badQ_iff, List.all_eq_true]
    constructor
    · intro h k hk
      cases e : S k with
      | none => exact absurd e (hp k hk)
      | some x =>
        have := h k hk x e
        rw [hc k hk x e] at this
        unfold fitB
        rw [e]
        by_cases hf : vfits (vadd x.2 v) x.1 = true
        · exact hf
        · rw [if_neg hf] at this; cases this
    · intro h k hk x hx
      have := h k hk
      unfold fitB at this
      rw [hx] at this
      rw [hc k hk x hx, if_pos this]
  · rw [hc k hk x hx]
    split
    · exact Or.inl rfl
    · exact Or.inr rfl
theorem charge_lack {S : StQ} {h : Vc → Vc → Vc × Nat} {p k : Nat} (hk : k ∈ abvK p) (hn : S k = none) : (chargeQ S h p).2 = 7 := by
  unfold chargeQ
  rw [if_pos (List.any_eq_true.2 ⟨k, hk, by rw [hn]; rfl⟩)]
theorem OkS.free {S : StQ} (h : OkS S) : OkS (freeS S) := by
  have hx : ∀ k y, freeS S k = some y → ∃ x, S k = some x ∧ y = (x.1, noV) := fun k y hy => by
    unfold freeS at hy
    cases e : S k with
    | none => rw [e] at hy; cases hy
    | some x => rw [e] at hy; injection hy with hy; exact ⟨x, rfl, hy.symm⟩
  have hn : ∀ k, freeS S k = none ↔ S k = none := fun k => by unfold freeS; simp
  refine ⟨fun e => h.root ((hn 0).1 e), fun k hk hs e => h.par k hk (fun e2 => hs ((hn k).2 e2)) ((hn _).1 e), fun k y hy => ?_, fun k y hy => ?_, fun k y hy => ?_, fun k y hy => ?_⟩ <;> obtain ⟨x, h1, rfl⟩ := hx k y hy
  · exact h.lim k x h1
  · exact okV_no
  · exact h.top k x h1
  · exact vfits_no_le _
theorem could_lack {S : StQ} {v : Vc} {p k : Nat} (hk : k ∈ abvK p) (hn : S k = none) : (chargeQ (freeS S) (chgS v) p).2 = 7 := charge_lack hk (by unfold freeS; rw [hn]; rfl)
theorem vadd_no_left {v l : Vc} : vfits (vadd noV v) l = vfits v l := by
  rw [Bool.eq_iff_iff, vfits_four, vfits_four, vadd_eta]
  simp [vG, noV]
theorem could_iff {S : StQ} (hS : OkS S) {v : Vc} (hv : ∀ j, vG v j < 8) {p : Nat} (hp : ∀ k ∈ abvK p, S k ≠ none) : (chargeQ (freeS S) (chgS v) p).2 = 0 ↔ (abvK p).all (couB S v) = true := by
  rw [(charge_iff hS.free hv (fun k hk e => hp k hk (by unfold freeS at e; simpa using e))).1]
  rw [List.all_eq_true, List.all_eq_true]
  have : ∀ k, fitB (freeS S) v k = couB S v k := fun k => by
    unfold fitB couB freeS
    cases S k with
    | none => rfl
    | some x => exact vadd_no_left
  constructor <;> intro h k hk
  · rw [← this]; exact h k hk
  · rw [this]; exact h k hk
theorem fit_could {S : StQ} {v : Vc} {l : List Nat} (h : l.all (fitB S v) = true) : l.all (couB S v) = true := by
  rw [List.all_eq_true] at *
  intro k hk
  have := h k hk
  unfold fitB at this
  unfold couB
  cases e : S k with
  | none => rw [e] at this; exact this
  | some x =>
    rw [e] at this
    have h1 := vfits_four.1 this
    simp only [vadd_eta, vG, List.getD_cons_zero, List.getD_cons_succ] at h1
    rw [vfits_four]
    simp only [vG]
    omega

/-- What of a kind is used. -/
def uS (S : StQ) (k i : Nat) : Nat := match S k with
  | some x => vG x.2 i
  | none => 0
def chiK (k i : Nat) (S : StQ) : Nat := match k with
  | 0 => uS S 1 i + uS S 5 i + uS S 7 i
  | 1 => uS S 2 i + uS S 4 i
  | 2 => uS S 3 i
  | 5 => uS S 6 i
  | _ => 0
def RightS (S : StQ) : Prop := ∀ k, k < 8 → ∀ i, i < 4 → chiK k i S ≤ uS S k i
/-- One more entry is looked at. -/
def addU (S : StQ) (q j : Nat) (s : Vc) : Vc := match S j with
  | none => s
  | some x => if j ≠ 0 ∧ parK j = q then vadd s x.2 else s
theorem addU_at {S : StQ} {q j : Nat} {s : Vc} (i : Nat) (hi : i < 4) : vG (addU S q j s) i = vG s i + if j ≠ 0 ∧ parK j = q then uS S j i else 0 := by
  unfold addU uS
  cases S j with
  | none => simp
  | some x =>
    simp only
    split
    · rw [vadd_eta]
      match i, hi with
      | 0, _ => rfl
      | 1, _ => rfl
      | 2, _ => rfl
      | 3, _ => rfl
    · rfl
theorem uS_small {S : StQ} (hS : OkS S) (k i : Nat) (hi : i < 4) : uS S k i ≤ 40 := by
  unfold uS
  cases e : S k with
  | none => simp
  | some x => exact hS.small e i hi
theorem sumF_row {S : StQ} (hS : OkS S) {q j : Nat} (hq : q < 8) (hj : j < 8) {s : Vc} (hs : ∀ i, i < 4 → vG s i ≤ 1000) (rest : List EntQ) :
    sumF (pth q) (rowQ S j ++ rest) s = sumF (pth q) rest (addU S q j s) := by
  unfold rowQ addU
  cases e : S j with
  | none => rfl
  | some x =>
    show sumF (pth q) ((pth j, x.1, x.2) :: rest) s = sumF (pth q) rest (if j ≠ 0 ∧ parK j = q then vadd s x.2 else s)
    have hr : sumF (pth q) ((pth j, x.1, x.2) :: rest) s = if pth j = ⟨#[]⟩ ∨ parB (pth j) ≠ pth q then sumF (pth q) rest s else if vaddOk s x.2 = true then sumF (pth q) rest (vadd s x.2) else none := rfl
    rw [hr, par_pth j hj]
    simp only [pth_nil hj]
    by_cases h : j = 0 ∨ pth (parK j) ≠ pth q
    · rw [if_pos h, if_neg (show ¬ (j ≠ 0 ∧ parK j = q) from fun ⟨h1, h2⟩ => h.elim h1 fun h => h (by rw [h2]))]
    · have hp : parK j = q := by
        rcases Classical.em (pth (parK j) = pth q) with e | e
        · exact pth_inj (parK_lt j hj) hq e
        · exact absurd (Or.inr e) h
      have ha : vaddOk s x.2 = true := by
        rw [vaddOk_four]
        have a0 := hs 0 (by omega)
        have a1 := hs 1 (by omega)
        have a2 := hs 2 (by omega)
        have a3 := hs 3 (by omega)
        have b0 := hS.small e 0 (by omega)
        have b1 := hS.small e 1 (by omega)
        have b2 := hS.small e 2 (by omega)
        have b3 := hS.small e 3 (by omega)
        omega
      rw [if_neg h, if_pos ha, if_pos (show j ≠ 0 ∧ parK j = q from ⟨fun e => h (Or.inl e), hp⟩)]
theorem conc_rows (S : StQ) : conc S = rowQ S 0 ++ (rowQ S 1 ++ (rowQ S 2 ++ (rowQ S 3 ++ (rowQ S 4 ++ (rowQ S 5 ++ (rowQ S 6 ++ (rowQ S 7 ++ []))))))) := rfl
theorem sum_conc {S : StQ} (hS : OkS S) {q : Nat} (hq : q < 8) : ∃ s, sumF (pth q) (conc S) noV = some s ∧ ∀ i, i < 4 → vG s i = chiK q i S := by
  have hb : ∀ {s : Vc} {n : Nat} (j : Nat), (∀ i, i < 4 → vG s i ≤ n) → ∀ i, i < 4 → vG (addU S q j s) i ≤ n + 40 := fun {s n} j h i hi => by
    rw [addU_at i hi]
    have := h i hi
    have := uS_small hS j i hi
    split <;> omega
  have h0 : ∀ i, i < 4 → vG noV i ≤ 0 := fun i hi => by
    match i, hi with
    | 0, _ => decide
    | 1, _ => decide
    | 2, _ => decide
    | 3, _ => decide
  have h1 := hb 0 h0
  have h2 := hb 1 h1
  have h3 := hb 2 h2
  have h4 := hb 3 h3
  have h5 := hb 4 h4
  have h6 := hb 5 h5
  have h7 := hb 6 h6
  have up : ∀ {s : Vc} {n : Nat}, n ≤ 1000 → (∀ i, i < 4 → vG s i ≤ n) → ∀ i, i < 4 → vG s i ≤ 1000 := fun hn h i hi => by have := h i hi; omega
  rw [conc_rows, sumF_row hS hq (by omega) (up (by omega) h0), sumF_row hS hq (by omega) (up (by omega) h1), sumF_row hS hq (by omega) (up (by omega) h2), sumF_row hS hq (by omega) (up (by omega) h3), sumF_row hS hq (by omega) (up (by omega) h4), sumF_row hS hq (by omega) (up (by omega) h5), sumF_row hS hq (by omega) (up (by omega) h6), sumF_row hS hq (by omega) (up (by omega) h7)]
  refine ⟨_, rfl, fun i hi => ?_⟩
  rw [addU_at i hi, addU_at i hi, addU_at i hi, addU_at i hi, addU_at i hi, addU_at i hi, addU_at i hi, addU_at i hi]
  have hz : vG noV i = 0 := by have := h0 i hi; omega
  rw [hz]
  match q, hq with
  | 0, _ => simp [parK, chiK]
  | 1, _ => simp [parK, chiK]
  | 2, _ => simp [parK, chiK]
  | 3, _ => simp [parK, chiK]
  | 4, _ => simp [parK, chiK]
  | 5, _ => simp [parK, chiK]
  | 6, _ => simp [parK, chiK]
  | 7, _ => simp [parK, chiK]
theorem vfits_all {a b : Vc} : vfits a b = true ↔ ∀ i, i < 4 → vG a i ≤ vG b i := by
  rw [vfits_four]
  constructor
  · rintro ⟨h0, h1, h2, h3⟩ i hi
    match i, hi with
    | 0, _ => exact h0
    | 1, _ => exact h1
    | 2, _ => exact h2
    | 3, _ => exact h3
  · intro h; exact ⟨h 0 (by omega), h 1 (by omega), h 2 (by omega), h 3 (by omega)⟩
theorem holds_conc {S : StQ} (hS : OkS S) {k : Nat} (hk : k < 8) {x : Vc × Vc} (hx : S k = some x) : holdsT (conc S) (pth k, x.1, x.2) = true ↔ ∀ i, i < 4 → chiK k i S ≤ uS S k i := by
  obtain ⟨s, h1, h2⟩ := sum_conc hS hk
  unfold holdsT
  simp only [h1]
  rw [hS.fit k x hx, Bool.true_and, vfits_all]
  have hu : ∀ i, uS S k i = vG x.2 i := fun i => by unfold uS; rw [hx]
  constructor <;> intro h i hi
  · rw [← h2 i hi, hu]; exact h i hi
  · rw [h2 i hi, ← hu]; exact h i hi
/-- The children of what is not there are not there. -/
theorem chi_none {S : StQ} (hS : OkS S) {k : Nat} (hk : k < 8) (hx : S k = none) (i : Nat) : chiK k i S = 0 := by
  have h : ∀ j, j < 8 → parK j = k → S j = none := fun j hj hp => by
    cases e : S j with
    | none => rfl
    | some y => exact absurd (by rw [hp]; exact hx) (hS.par j hj (by rw [e]; simp))
  have hu : ∀ j, j < 8 → parK j = k → uS S j i = 0 := fun j hj hp => by unfold uS; rw [h j hj hp]
  match k, hk with
  | 0, _ => simp [chiK, hu 1 (by omega) rfl, hu 5 (by omega) rfl, hu 7 (by omega) rfl]
  | 1, _ => simp [chiK, hu 2 (by omega) rfl, hu 4 (by omega) rfl]
  | 2, _ => simp [chiK, hu 3 (by omega) rfl]
  | 3, _ => rfl
  | 4, _ => rfl
  | 5, _ => simp [chiK, hu 6 (by omega) rfl]
  | 6, _ => rfl
  | 7, _ => rfl
theorem conc_head {S : StQ} (hS : OkS S) : 1 ≤ (conc S).length ∧ (eAt (conc S) 0).1 = ⟨#[]⟩ := by
  obtain ⟨x, hx⟩ := Option.ne_none_iff_exists'.1 hS.root
  have : conc S = (pth 0, x.1, x.2) :: (rowQ S 1 ++ (rowQ S 2 ++ (rowQ S 3 ++ (rowQ S 4 ++ (rowQ S 5 ++ (rowQ S 6 ++ (rowQ S 7 ++ []))))))) := by
    rw [conc_rows]
    have : rowQ S 0 = [(pth 0, x.1, x.2)] := by simp [rowQ, hx]
    rw [this]; rfl
  rw [this]
  exact ⟨by simp, rfl⟩
/-- The paths rise. -/
theorem conc_rise (S : StQ) : (conc S).Pairwise fun a b => ∃ i j, i < j ∧ j < 8 ∧ a.1 = pth i ∧ b.1 = pth j := by
  unfold conc
  rw [List.pairwise_flatMap]
  refine ⟨fun j _ => ?_, ?_⟩
  · unfold rowQ; split <;> simp
  · have h8 : ∀ j ∈ List.range 8, j < 8 := fun j hj => List.mem_range.1 hj
    have hr : (List.range 8).Pairwise fun i j => i < j ∧ j < 8 := by decide
    exact hr.imp fun ⟨h1, h2⟩ x hx y hy => ⟨_, _, h1, h2, (rowQ_mem hx).1, (rowQ_mem hy).1⟩
theorem okQ_conc {S : StQ} (hS : OkS S) {k : Nat} (hk : k < (conc S).length) : okQ (conc S) k = true := by
  unfold okQ
  rcases Nat.eq_zero_or_pos k with rfl | h0
  · rfl
  · rw [decide_eq_false (by omega), Bool.false_or]
    have h1 := List.pairwise_iff_getElem.1 (conc_rise S) (k - 1) k (by omega) hk (by omega)
    obtain ⟨i, j, hij, hj, e1, e2⟩ := h1
    rw [← eAt_eq (by omega)] at e1
    rw [← eAt_eq hk] at e2
    obtain ⟨j', hj', e3, e4⟩ := conc_mem (eAt_mem hk)
    have : j' = j := pth_inj hj' hj (by rw [← e3, e2])
    subst this
    rw [e1, e2, less_pth i (by omega) j' hj', nam_pth j' hj', decide_eq_true hij, par_pth j' hj', Bool.true_and, Bool.true_and]
    have hp : S (parK j') ≠ none := hS.par j' hj' (by rw [e4]; simp)
    obtain ⟨x, hx⟩ := Option.ne_none_iff_exists'.1 hp
    obtain ⟨p1, p2, _⟩ := pl_conc (parK_lt j' hj') hx
    rw [p1]
    exact decide_eq_true p2
theorem right_conc {S : StQ} (hS : OkS S) : rightQ (conc S) = true ↔ RightS S := by
  have h1 := conc_head hS
  have h2 := conc_len S
  have e1 : decide (1 ≤ (conc S).length ∧ (conc S).length ≤ 16 ∧ (eAt (conc S) 0).1 = ⟨#[]⟩) = true := decide_eq_true ⟨h1.1, by omega, h1.2⟩
  have e2 : (List.range (conc S).length).all (okQ (conc S)) = true := List.all_eq_true.2 fun k hk => okQ_conc hS (List.mem_range.1 hk)
  unfold rightQ
  rw [e1, e2, Bool.true_and, Bool.true_and, List.all_eq_true]
  constructor
  · intro h k hk
    cases e : S k with
    | none => intro i _; rw [chi_none hS hk e]; omega
    | some x => exact (holds_conc hS hk e).1 (h _ (mem_conc hk e))
  · intro h r hr
    obtain ⟨j, hj, e3, e4⟩ := conc_mem hr
    obtain ⟨s, l, u⟩ := r
    simp only at e3 e4
    rw [e3]
    exact (holds_conc hS hj e4).2 (h j hj)
end Go.Dm

namespace Go.Dm
open Go Go.RowKit

theorem getI_app (A R : Bs) {u : Nat} (hu : U64 u) : getI (A ++ (putL u ++ R)) (A.length : Int) = (u, (A.length : Int) + ((putL u).length : Int), true) := by
  have hp := putL_pos u
  rw [getI_in (by simp only [List.length_append]; omega), List.drop_left, getL_put hu]
theorem getV_app {a : Vc} (ha : OkV a) (A R : Bs) : getV (A ++ (putV a ++ R)) (A.length : Int) = (a, (A.length : Int) + ((putV a).length : Int), true) := by
  obtain ⟨x, y, z, u, rfl, hx, hy, hz, hu⟩ := ha.ex
  have e : putV [x, y, z, u] = putL x ++ (putL y ++ (putL z ++ putL u)) := by simp [putV, vG]
  have e1 := getI_app A (putL y ++ (putL z ++ (putL u ++ R))) hx
  have e2 := getI_app (A ++ putL x) (putL z ++ (putL u ++ R)) hy
  have e3 := getI_app (A ++ (putL x ++ putL y)) (putL u ++ R) hz
  have e4 := getI_app (A ++ (putL x ++ (putL y ++ putL z))) R hu
  simp only [List.append_assoc, List.length_append, Int.natCast_add] at e1 e2 e3 e4
  have hl : (((putV [x, y, z, u]).length : Nat) : Int) = (putL x).length + ((putL y).length + ((putL z).length + (putL u).length)) := by rw [e]; simp only [List.length_append, Int.natCast_add]
  rw [hl, e]
  simp only [List.append_assoc]
  generalize A ++ (putL x ++ (putL y ++ (putL z ++ (putL u ++ R)))) = l at *
  have f1 : getVF l A.length 1 = some ([x], (A.length : Int) + ((putL x).length : Int)) := by
    show (match getVF l A.length 0 with | none => none | some (ns, q) => if (getI l q).2.2 then some (ns ++ [(getI l q).1], (getI l q).2.1) else none) = _
    simp [getVF, e1]
  have f2 : getVF l A.length 2 = some ([x, y], (A.length : Int) + ((putL x).length + (putL y).length)) := by
    show (match getVF l A.length 1 with | none => none | some (ns, q) => if (getI l q).2.2 then some (ns ++ [(getI l q).1], (getI l q).2.1) else none) = _
    rw [f1]; simp [e2]; omega
  have f3 : getVF l A.length 3 = some ([x, y, z], (A.length : Int) + ((putL x).length + ((putL y).length + (putL z).length))) := by
    show (match getVF l A.length 2 with | none => none | some (ns, q) => if (getI l q).2.2 then some (ns ++ [(getI l q).1], (getI l q).2.1) else none) = _
    rw [f2]; simp [e3]; omega
  have f4 : getVF l A.length 4 = some ([x, y, z, u], (A.length : Int) + ((putL x).length + ((putL y).length + ((putL z).length + (putL u).length)))) := by
    show (match getVF l A.length 3 with | none => none | some (ns, q) => if (getI l q).2.2 then some (ns ++ [(getI l q).1], (getI l q).2.1) else none) = _
    rw [f3]; simp [e4]; omega
  unfold getV
  rw [f4]

theorem u64_le {n : Nat} (h : n ≤ 1099511627776) : U64 n := Nat.lt_of_le_of_lt h (by decide)
theorem getT_app {most : Nat} {t : Bs} (ht : t.length ≤ most) (A R : Bs) (hU : U64 (putT t ++ R).length) : atI (getTextL most) [] (A ++ (putT t ++ R)) (A.length : Int) = (t, (A.length : Int) + ((putT t).length : Int), true) := by
  have hp : 1 ≤ (putT t).length := by unfold putT; rw [List.length_append]; have := putL_pos t.length; omega
  have h : getTextL most (putT t ++ R) = some (t, (putT t).length) := by
    rw [getTextL_iff hU]
    refine ⟨ht, rfl, ?_, by rw [List.length_append]; omega⟩
    rw [List.take_left]; rfl
  unfold atI
  rw [if_neg (by rw [List.length_append, List.length_append]; omega), show ((A.length : Int)).toNat = A.length from rfl, List.drop_left, h]
theorem entI_app {e : EntQ} (h1 : e.1.size ≤ 98) (h2 : OkV e.2.1 ∧ OkV e.2.2) (A R : Bs) (hU : U64 (A ++ (putE e ++ R)).length) : entI (A ++ (putE e ++ R)) (A.length : Int) = (e, (A.length : Int) + ((putE e).length : Int), true) := by
  have hlen : (A ++ (putE e ++ R)).length = A.length + ((putT e.1.data.toList).length + ((putV e.2.1).length + ((putV e.2.2).length + R.length))) := by unfold putE; simp only [List.length_append]; omega
  rw [hlen] at hU
  have e1 := getT_app (most := 98) (t := e.1.data.toList) h1 A (putV e.2.1 ++ (putV e.2.2 ++ R)) (Nat.lt_of_le_of_lt (by simp only [List.length_append]; omega) hU)
  have e2 := getV_app h2.1 (A ++ putT e.1.data.toList) (putV e.2.2 ++ R)
  have e3 := getV_app h2.2 (A ++ (putT e.1.data.toList ++ putV e.2.1)) R
  have hl : A ++ (putE e ++ R) = A ++ (putT e.1.data.toList ++ (putV e.2.1 ++ (putV e.2.2 ++ R))) := by unfold putE; simp only [List.append_assoc]
  simp only [List.append_assoc, List.length_append, Int.natCast_add] at e1 e2 e3
  rw [hl]
  have hE : ((putE e).length : Int) = (putT e.1.data.toList).length + ((putV e.2.1).length + (putV e.2.2).length) := by unfold putE; simp only [List.length_append, Int.natCast_add]; omega
  rw [hE]
  generalize A ++ (putT e.1.data.toList ++ (putV e.2.1 ++ (putV e.2.2 ++ R))) = l at *
  unfold entI
  rw [e1]
  unfold entJ
  rw [if_neg (by simp)]
  simp only
  rw [e2, if_neg (by simp)]
  simp only
  rw [show (A.length : Int) + ((putT e.1.data.toList).length : Int) + ((putV e.2.1).length : Int) = (A.length : Int) + (((putT e.1.data.toList).length : Int) + ((putV e.2.1).length : Int)) by omega, e3]
  obtain ⟨s, l1, u1⟩ := e
  obtain ⟨⟨s⟩⟩ := s
  simp only [Prod.mk.injEq, and_true, true_and]
  omega
theorem getEs_app (l : Bs) : ∀ (T R0 : List EntQ) (A B : Bs), l = A ++ (T.flatMap putE ++ B) → U64 l.length → (∀ e ∈ T, e.1.size ≤ 98 ∧ OkV e.2.1 ∧ OkV e.2.2) → (∀ i, i < T.length → 0 < R0.length + i → eAt T i ≠ noEnt) →
    getEs l T.length (A.length : Int) R0 = some (R0 ++ T, (A.length : Int) + ((T.flatMap putE).length : Int))
  | [], R0, A, B, _, _, _, _ => by simp [getEs]
  | e :: T, R0, A, B, hl, hU, hf, hz => by
    have hfe := hf e (by simp)
    have h1 := entI_app hfe.1 hfe.2 A (T.flatMap putE ++ B) (by rw [List.flatMap_cons, List.append_assoc] at hl; rw [← hl]; exact hU)
    rw [List.flatMap_cons, List.append_assoc] at hl
    rw [← hl] at h1
    have hz0 : ¬ (e = noEnt ∧ R0 ≠ []) := fun h => by
      have := hz 0 (by simp) (by have := List.length_pos_iff.2 h.2; omega)
      exact this (by rw [eAt_eq (by simp)]; exact h.1)
    rw [List.length_cons]
    unfold getEs
    rw [h1]
    simp only
    rw [if_neg (fun h => h.elim (by simp) hz0)]
    have ih := getEs_app l T (R0 ++ [e]) (A ++ putE e) B (by rw [hl]; simp only [List.append_assoc]) hU (fun x hx => hf x (List.mem_cons_of_mem _ hx)) (fun i hi _ => by
      have := hz (i + 1) (by simp; omega) (by omega)
      rw [eAt_eq (show i + 1 < (e :: T).length by simp; omega)] at this
      rw [eAt_eq hi]
      simpa using this)
    rw [List.length_append, Int.natCast_add] at ih
    rw [ih, List.flatMap_cons, List.length_append, Int.natCast_add]
    simp only [List.append_assoc, List.singleton_append, Option.some.injEq, Prod.mk.injEq, true_and]
    omega
/-- P10.5: what is put is got where it stands. -/
theorem getQ_app {T : List EntQ} (hr : rightQ T = true) (hf : ∀ e ∈ T, e.1.size ≤ 98 ∧ OkV e.2.1 ∧ OkV e.2.2) (hz : ∀ i, i < T.length → 0 < i → eAt T i ≠ noEnt) (A B : Bs) (hU : U64 (A ++ (putQ T ++ B)).length) :
    getQ (A ++ (putQ T ++ B)) (A.length : Int) = (T, (A.length : Int) + ((putQ T).length : Int), true) := by
  have hn : T.length ≤ 16 := by
    rcases Nat.lt_or_ge 16 T.length with h | h
    · rw [rightQ_no1 (fun h2 => by omega)] at hr; cases hr
    · exact h
  have hl : A ++ (putQ T ++ B) = A ++ (putL T.length ++ (T.flatMap putE ++ B)) := by unfold putQ; simp only [List.append_assoc]
  have e1 := getI_app A (T.flatMap putE ++ B) (u := T.length) (u64_le (by omega))
  have hq : ((putQ T).length : Int) = (putL T.length).length + (T.flatMap putE).length := by unfold putQ; simp only [List.length_append, Int.natCast_add]
  rw [hq]
  rw [hl] at hU ⊢
  have e2 := getEs_app (A ++ (putL T.length ++ (T.flatMap putE ++ B))) T [] (A ++ putL T.length) B (by simp only [List.append_assoc]) hU hf (fun i hi h0 => hz i hi (by simpa using h0))
  rw [List.length_append, Int.natCast_add] at e2
  unfold getQ
  rw [e1]
  unfold getQJ
  rw [if_neg (fun h => h.elim (by simp) (by simp; omega))]
  simp only
  rw [e2]
  simp only [List.nil_append, hr, if_true, Prod.mk.injEq, and_true, true_and]
  omega

/-- What is got of a text is got of a longer one. -/
theorem getI_ext {l : Bs} {p n : Int} {u : Nat} (h : getI l p = (u, n, true)) (X : Bs) : getI (l ++ X) p = (u, n, true) ∧ n ≤ l.length := by
  by_cases hp : p < 0 ∨ (l.length : Int) ≤ p
  · rw [getI_out hp] at h; cases h
  · obtain ⟨k, rfl⟩ : ∃ k : Nat, p = (k : Int) := ⟨p.toNat, by omega⟩
    have hk : k < l.length := by omega
    rw [getI_in hk] at h
    rw [getI_in (by rw [List.length_append]; omega), List.drop_append_of_le_length (by omega)]
    cases hg : getL (l.drop k) with
    | none => rw [hg] at h; cases h
    | some x =>
      obtain ⟨v, m⟩ := x
      rw [hg] at h
      obtain ⟨a1, a2, a3, a4⟩ := getL_iff.1 hg
      have hg2 : getL (l.drop k ++ X) = some (v, m) := getL_iff.2 ⟨a1, a2, by rw [List.take_append_of_le_length a4]; exact a3, by rw [List.length_append]; omega⟩
      rw [hg2]
      injection h with h1 h2
      injection h2 with h2 _
      rw [List.length_drop] at a4
      exact ⟨by rw [← h1, ← h2], by omega⟩
theorem getT_ext {most : Nat} {l : Bs} {p n : Int} {t : Bs} (h : atI (getTextL most) [] l p = (t, n, true)) (X : Bs) (hU : U64 (l ++ X).length) : atI (getTextL most) [] (l ++ X) p = (t, n, true) ∧ n ≤ l.length := by
  have hUl : U64 l.length := Nat.lt_of_le_of_lt (by rw [List.length_append]; omega) hU
  unfold atI at h ⊢
  by_cases hp : p < 0 ∨ (l.length : Int) ≤ p
  · rw [if_pos hp] at h; cases h
  · rw [if_neg hp] at h
    rw [if_neg (by rw [List.length_append]; omega), List.drop_append_of_le_length (by omega)]
    cases hg : getTextL most (l.drop p.toNat) with
    | none => rw [hg] at h; cases h
    | some x =>
      obtain ⟨v, m⟩ := x
      rw [hg] at h
      obtain ⟨a1, a2, a3, a4⟩ := (getTextL_iff (Nat.lt_of_le_of_lt (by rw [List.length_drop]; omega) hUl)).1 hg
      have hg2 : getTextL most (l.drop p.toNat ++ X) = some (v, m) := (getTextL_iff (Nat.lt_of_le_of_lt (by rw [List.length_append, List.length_append, List.length_drop]; omega) hU)).2 ⟨a1, a2, by rw [List.take_append_of_le_length a4]; exact a3, by rw [List.length_append]; omega⟩
      rw [hg2]
      injection h with h1 h2
      injection h2 with h2 _
      rw [List.length_drop] at a4
      exact ⟨by rw [← h1, ← h2], by omega⟩
theorem getVF_ext {l : Bs} {p : Int} (hp : p ≤ l.length) (X : Bs) : ∀ {k : Nat} {ns : List Nat} {q : Int}, getVF l p k = some (ns, q) → getVF (l ++ X) p k = some (ns, q) ∧ q ≤ l.length
  | 0, ns, q, h => by
    injection h with h
    injection h with h1 h2
    exact ⟨by rw [← h1, ← h2]; rfl, by omega⟩
  | k + 1, ns, q, h => by
    unfold getVF at h ⊢
    cases e : getVF l p k with
    | none => rw [e] at h; cases h
    | some x =>
      obtain ⟨ms, r⟩ := x
      rw [e] at h
      obtain ⟨i1, i2⟩ := getVF_ext hp X e
      rw [i1]
      simp only at h ⊢
      obtain ⟨⟨u, n, o⟩, hg⟩ : ∃ g, getI l r = g := ⟨_, rfl⟩
      rw [hg] at h
      cases o with
      | false => simp at h
      | true =>
        obtain ⟨j1, j2⟩ := getI_ext hg X
        rw [j1]
        simp only [if_true] at h ⊢
        injection h with h
        injection h with h1 h2
        exact ⟨by rw [h1, h2], by omega⟩
theorem getV_ext {l : Bs} {p n : Int} {a : Vc} (hp : p ≤ l.length) (h : getV l p = (a, n, true)) (X : Bs) : getV (l ++ X) p = (a, n, true) ∧ n ≤ l.length := by
  unfold getV at h ⊢
  cases e : getVF l p 4 with
  | none => rw [e] at h; cases h
  | some x =>
    obtain ⟨ms, r⟩ := x
    rw [e] at h
    obtain ⟨i1, i2⟩ := getVF_ext hp X e
    rw [i1]
    simp only at h ⊢
    injection h with h1 h2
    injection h2 with h2 _
    exact ⟨by rw [h1, h2], by omega⟩
theorem entI_ext {l : Bs} {p n : Int} {e : EntQ} (h : entI l p = (e, n, true)) (X : Bs) (hU : U64 (l ++ X).length) : entI (l ++ X) p = (e, n, true) ∧ n ≤ l.length := by
  unfold entI at h ⊢
  obtain ⟨⟨t, m, o⟩, hg⟩ : ∃ g, atI (getTextL 98) [] l p = g := ⟨_, rfl⟩
  rw [hg] at h
  unfold entJ at h
  cases o with
  | false => rw [if_pos rfl] at h; cases h
  | true =>
    obtain ⟨a1, a2⟩ := getT_ext hg X hU
    rw [a1]
    rw [if_neg (by simp)] at h
    unfold entJ
    rw [if_neg (by simp)]
    simp only at h ⊢
    obtain ⟨⟨v, m2, o2⟩, hg2⟩ : ∃ g, getV l m = g := ⟨_, rfl⟩
    rw [hg2] at h
    cases o2 with
    | false => rw [if_pos rfl] at h; cases h
    | true =>
      obtain ⟨b1, b2⟩ := getV_ext a2 hg2 X
      rw [b1]
      rw [if_neg (by simp)] at h ⊢
      simp only at h ⊢
      obtain ⟨⟨v3, m3, o3⟩, hg3⟩ : ∃ g, getV l m2 = g := ⟨_, rfl⟩
      rw [hg3] at h
      simp only at h
      injection h with h1 h2
      injection h2 with h2 h3
      subst h3
      obtain ⟨c1, c2⟩ := getV_ext b2 hg3 X
      rw [c1]
      simp only
      exact ⟨by rw [← h1, ← h2], by omega⟩
theorem getEs_ext {l : Bs} (X : Bs) (hU : U64 (l ++ X).length) : ∀ {k : Nat} {q n : Int} {R0 R : List EntQ}, q ≤ l.length → getEs l k q R0 = some (R, n) → getEs (l ++ X) k q R0 = some (R, n) ∧ n ≤ l.length
  | 0, q, n, R0, R, hq, h => by
    injection h with h
    injection h with h1 h2
    exact ⟨by rw [← h1, ← h2]; rfl, by omega⟩
  | k + 1, q, n, R0, R, hq, h => by
    unfold getEs at h ⊢
    obtain ⟨⟨e, m, o⟩, hg⟩ : ∃ g, entI l q = g := ⟨_, rfl⟩
    rw [hg] at h
    cases o with
    | false => rw [if_pos (Or.inl rfl)] at h; cases h
    | true =>
      obtain ⟨a1, a2⟩ := entI_ext hg X hU
      rw [a1]
      split at h
      · cases h
      · rename_i hc
        rw [if_neg hc]
        exact getEs_ext X hU a2 h
theorem getQ_ext {l : Bs} {p n : Int} {R : List EntQ} (h : getQ l p = (R, n, true)) (X : Bs) (hU : U64 (l ++ X).length) : getQ (l ++ X) p = (R, n, true) ∧ n ≤ l.length := by
  unfold getQ at h ⊢
  obtain ⟨⟨u, m, o⟩, hg⟩ : ∃ g, getI l p = g := ⟨_, rfl⟩
  rw [hg] at h
  unfold getQJ at h
  by_cases hc : o = false ∨ 16 < u
  · rw [if_pos hc] at h; cases h
  · rw [if_neg hc] at h
    have ho : o = true := by
      cases o with
      | false => exact absurd (Or.inl rfl) hc
      | true => rfl
    subst ho
    obtain ⟨a1, a2⟩ := getI_ext hg X
    rw [a1]
    unfold getQJ
    rw [if_neg hc]
    simp only at h ⊢
    cases e : getEs l u m [] with
    | none => rw [e] at h; cases h
    | some x =>
      obtain ⟨R2, n2⟩ := x
      rw [e] at h
      obtain ⟨b1, b2⟩ := getEs_ext X hU a2 e
      rw [b1]
      simp only at h ⊢
      split at h
      · rename_i hr
        rw [if_pos hr]
        injection h with h1 h2
        injection h2 with h2 _
        exact ⟨by rw [h1, h2], by omega⟩
      · cases h
/-- No beginning of what is put is got. -/
theorem getQ_torn {T : List EntQ} (hr : rightQ T = true) (hf : ∀ e ∈ T, e.1.size ≤ 98 ∧ OkV e.2.1 ∧ OkV e.2.2) (hz : ∀ i, i < T.length → 0 < i → eAt T i ≠ noEnt) (hU : U64 (putQ T).length) {m : Nat} (hm : m < (putQ T).length) :
    (getQ ((putQ T).take m) 0).2.2 = false := by
  cases e : (getQ ((putQ T).take m) 0).2.2 with
  | false => rfl
  | true =>
    obtain ⟨⟨R, n, o⟩, hg⟩ : ∃ g, getQ ((putQ T).take m) 0 = g := ⟨_, rfl⟩
    rw [hg] at e
    simp only at e
    subst e
    have h1 := getQ_ext hg ((putQ T).drop m) (by rw [List.take_append_drop]; exact hU)
    rw [List.take_append_drop] at h1
    have h2 := getQ_app hr hf hz [] [] (by simpa using hU)
    simp only [List.nil_append, List.append_nil, List.length_nil] at h2
    rw [show ((0 : Nat) : Int) = 0 from rfl] at h2
    rw [h1.1] at h2
    injection h2 with _ h2
    injection h2 with h2 _
    have h3 := h1.2
    rw [List.length_take] at h3
    omega
/-- Of states. -/
theorem conc_form {S : StQ} (hS : OkS S) : (∀ e ∈ conc S, e.1.size ≤ 98 ∧ OkV e.2.1 ∧ OkV e.2.2) ∧ (∀ i, i < (conc S).length → 0 < i → eAt (conc S) i ≠ noEnt) := by
  refine ⟨fun e he => ?_, fun i hi h0 e => ?_⟩
  · obtain ⟨j, hj, e1, e2⟩ := conc_mem he
    exact ⟨by rw [e1]; have := pth_len j; omega, hS.lim j _ e2, hS.use j _ e2⟩
  · obtain ⟨a, b, hab, hb, e1, e2⟩ := List.pairwise_iff_getElem.1 (conc_rise S) 0 i (by omega) hi h0
    rw [← eAt_eq hi, e] at e2
    have := (pth_nil hb).1 e2.symm
    omega
theorem conc_put {S : StQ} (hS : OkS S) : 1 ≤ (putQ (conc S)).length ∧ (putQ (conc S)).length ≤ 1000 := by
  have h1 := putL_pos (conc S).length
  have h8 := conc_len S
  have h10 := putL_ten (u64_le (show (conc S).length ≤ 1099511627776 by omega))
  have he : ∀ e ∈ conc S, (putE e).length ≤ 95 := fun e he => by
    obtain ⟨j, hj, e1, e2⟩ := conc_mem he
    have a := pth_len j
    have b := putVF_len (hS.lim j _ e2) 4
    have c := putVF_len (hS.use j _ e2) 4
    rw [putVF_four] at b c
    have d := putL_ten (u := e.1.data.toList.length) (show e.1.size < _ by rw [e1]; omega)
    have f : e.1.data.toList.length ≤ 5 := by show e.1.size ≤ 5; rw [e1]; exact a
    unfold putE putT
    simp only [List.length_append]
    omega
  have hs : ∀ (L : List EntQ), (∀ e ∈ L, (putE e).length ≤ 95) → (L.flatMap putE).length ≤ 95 * L.length := by
    intro L
    induction L with
    | nil => intro _; simp
    | cons x L ih =>
      intro h
      have := h x (by simp)
      have := ih fun e he => h e (List.mem_cons_of_mem _ he)
      rw [List.flatMap_cons, List.length_append, List.length_cons]
      omega
  have := hs _ he
  unfold putQ
  rw [List.length_append]
  omega
end Go.Dm
