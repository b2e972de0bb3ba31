/- Texts one behind the other: Chapter 10: the laws' eight paths; a tree over them as a state. No program in sight; Chapter 10: charging, giving back, setting, over the eight paths. No program in sight; Chapter 10: the program's functions over the eight paths; Chapter 10: the walks of the laws' helpers same, paths, amount; Chapter 10: the walk of the laws' helper grown; Chapter 10: the walk of the laws' examples. -/
import Derived.Test.YtopnllbfhhjobaaGreatDoorT8
import Derived.Test.YtopnllbfhhjobaaGreatDoorT21
import Derived.Test.YtopnllbfhhjobaaGreatDoorT22
namespace Go.Dm
open Go Go.RowKit

def pathsB : List ByteArray := [⟨#[]⟩, ⟨#[97]⟩, ⟨#[97, 47, 98]⟩, ⟨#[97, 47, 98, 47, 99]⟩, ⟨#[97, 47, 120]⟩, ⟨#[98]⟩, ⟨#[98, 47, 121]⟩, ⟨#[206, 177, 206, 178]⟩]
def pth (k : Nat) : ByteArray := strAt pathsB k
/-- The paths at and above the k-th, by their numbers. -/
def abvK : Nat → List Nat
  | 0 => [0] | 1 => [0, 1] | 2 => [0, 1, 2] | 3 => [0, 1, 2, 3] | 4 => [0, 1, 4] | 5 => [0, 5] | 6 => [0, 5, 6] | 7 => [0, 7] | _ => []
def parK : Nat → Nat
  | 2 => 1 | 3 => 2 | 4 => 1 | 6 => 5 | _ => 0
theorem ups_pth : ∀ k, k < 8 → upsL (pth k).data.toList = ((abvK k).drop 1).map fun j => (pth j).data.toList
  | 0, _ => by decide +kernel
  | 1, _ => by decide +kernel
  | 2, _ => by decide +kernel
  | 3, _ => by decide +kernel
  | 4, _ => by decide +kernel
  | 5, _ => by decide +kernel
  | 6, _ => by decide +kernel
  | 7, _ => by decide +kernel
theorem abvK_head : ∀ k, k < 8 → abvK k = 0 :: (abvK k).drop 1
  | 0, _ => rfl | 1, _ => rfl | 2, _ => rfl | 3, _ => rfl | 4, _ => rfl | 5, _ => rfl | 6, _ => rfl | 7, _ => rfl
theorem abv_pth {k : Nat} (hk : k < 8) : abvB (pth k) = (abvK k).map pth := by
  have h : upsB (pth k) = ((abvK k).drop 1).map pth := by
    unfold upsB
    rw [ups_pth k hk, List.map_map]
    rfl
  unfold abvB
  rw [h]
  conv => rhs; rw [abvK_head k hk]
  rfl
theorem par_pth : ∀ k, k < 8 → parB (pth k) = pth (parK k) := fun k hk => by
  unfold parB
  rw [abv_pth hk]
  match k, hk with
  | 0, _ => rfl
  | 1, _ => rfl
  | 2, _ => rfl
  | 3, _ => rfl
  | 4, _ => rfl
  | 5, _ => rfl
  | 6, _ => rfl
  | 7, _ => rfl
theorem nam_pth : ∀ k, k < 8 → namB (pth k) = true := fun k hk => by
  unfold namB
  rcases Nat.eq_zero_or_pos k with rfl | h0
  · rw [decide_eq_true (show pth 0 = ⟨#[]⟩ from rfl)]; rfl
  · have : underL (pth k).data.toList (pth k).data.toList = true := by
      unfold underL
      rw [ups_pth k hk]
      match k, hk, h0 with
      | 1, _, _ => decide +kernel
      | 2, _, _ => decide +kernel
      | 3, _, _ => decide +kernel
      | 4, _, _ => decide +kernel
      | 5, _, _ => decide +kernel
      | 6, _, _ => decide +kernel
      | 7, _, _ => decide +kernel
    rw [this, Bool.or_true]
theorem less_pth : ∀ i, i < 8 → ∀ j, j < 8 → Op.bytesLess (pth i).data.toList (pth j).data.toList = decide (i < j) := by decide +kernel
theorem pth_inj {i j : Nat} (hi : i < 8) (hj : j < 8) (h : pth i = pth j) : i = j := by
  have h1 := less_pth i hi j hj
  have h2 := less_pth j hj i hi
  rw [h] at h1 h2
  rw [h1] at h2
  simp only [decide_eq_decide] at h2
  omega
theorem pth_len : ∀ k, (pth k).size ≤ 5 := fun k => by
  unfold pth strAt
  match k with
  | 0 => decide
  | 1 => decide
  | 2 => decide
  | 3 => decide
  | 4 => decide
  | 5 => decide
  | 6 => decide
  | 7 => decide
  | k + 8 => simp [pathsB, List.getD_eq_getElem?_getD]
theorem pth_nil {k : Nat} (hk : k < 8) : pth k = ⟨#[]⟩ ↔ k = 0 := ⟨fun h => pth_inj hk (by omega) h, fun h => by rw [h]; rfl⟩
theorem abvK_lt : ∀ k, k < 8 → ∀ j ∈ abvK k, j < 8 := by decide
theorem abvK_nodup : ∀ k, k < 8 → (abvK k).Nodup := by decide
theorem abvK_self : ∀ k, k < 8 → k ∈ abvK k := by decide
theorem parK_lt : ∀ k, k < 8 → parK k < 8 := by decide
theorem parK_abv : ∀ p, p < 8 → ∀ k ∈ abvK p, parK k ∈ abvK p := by decide

/-- A tree over the eight paths: of each its limit and what is used, if it is there. -/
abbrev StQ := Nat → Option (Vc × Vc)
def rowQ (S : StQ) (k : Nat) : List EntQ := match S k with
  | none => []
  | some x => [(pth k, x.1, x.2)]
def conc (S : StQ) : List EntQ := (List.range 8).flatMap (rowQ S)
def loQ (S : StQ) (k : Nat) : List EntQ := (List.range k).flatMap (rowQ S)
def hiQ (S : StQ) (k : Nat) : List EntQ := (List.range' (k + 1) (7 - k)).flatMap (rowQ S)
def updQ (S : StQ) (k : Nat) (x : Option (Vc × Vc)) : StQ := fun j => if j = k then x else S j
theorem range_split : ∀ k, k < 8 → List.range 8 = List.range k ++ k :: List.range' (k + 1) (7 - k) := by decide
theorem conc_split (S : StQ) {k : Nat} (hk : k < 8) : conc S = loQ S k ++ (rowQ S k ++ hiQ S k) := by
  unfold conc
  rw [range_split k hk, List.flatMap_append, List.flatMap_cons]
  rfl
theorem rowQ_upd_self (S : StQ) (k : Nat) (x) : rowQ (updQ S k (some x)) k = [(pth k, x.1, x.2)] := by simp [rowQ, updQ]
theorem rowQ_upd_other (S : StQ) {k j : Nat} (x) (h : j ≠ k) : rowQ (updQ S k x) j = rowQ S j := by simp [rowQ, updQ, h]
theorem flatMap_same {α β : Type} {f g : α → List β} : ∀ {l : List α}, (∀ x ∈ l, f x = g x) → l.flatMap f = l.flatMap g
  | [], _ => rfl
  | x :: l, h => by
    rw [List.flatMap_cons, List.flatMap_cons, h x (by simp), flatMap_same fun y hy => h y (List.mem_cons_of_mem _ hy)]
theorem loQ_upd (S : StQ) (k : Nat) (x) : loQ (updQ S k x) k = loQ S k := flatMap_same fun j hj => rowQ_upd_other S x (by have := List.mem_range.1 hj; omega)
theorem hiQ_upd (S : StQ) (k : Nat) (x) : hiQ (updQ S k x) k = hiQ S k := flatMap_same fun j hj => rowQ_upd_other S x (by have := List.mem_range'.1 hj; omega)
theorem conc_upd (S : StQ) {k : Nat} (hk : k < 8) (x : Vc × Vc) : conc (updQ S k (some x)) = loQ S k ++ ((pth k, x.1, x.2) :: hiQ S k) := by
  rw [conc_split _ hk, loQ_upd, hiQ_upd, rowQ_upd_self]; rfl
theorem rowQ_mem {S : StQ} {j : Nat} {e : EntQ} (h : e ∈ rowQ S j) : e.1 = pth j ∧ S j = some e.2 := by
  unfold rowQ at h
  split at h
  · cases h
  · rename_i x hx
    rw [List.mem_singleton] at h
    subst h
    exact ⟨rfl, hx⟩
theorem loQ_mem {S : StQ} {k : Nat} {e : EntQ} (h : e ∈ loQ S k) : ∃ j, j < k ∧ e.1 = pth j ∧ S j = some e.2 := by
  obtain ⟨j, hj, he⟩ := List.mem_flatMap.1 h
  exact ⟨j, List.mem_range.1 hj, rowQ_mem he⟩
theorem hiQ_mem {S : StQ} {k : Nat} {e : EntQ} (hk : k < 8) (h : e ∈ hiQ S k) : ∃ j, k < j ∧ j < 8 ∧ e.1 = pth j ∧ S j = some e.2 := by
  obtain ⟨j, hj, he⟩ := List.mem_flatMap.1 h
  have := List.mem_range'.1 hj
  obtain ⟨i, hi, rfl⟩ := this
  exact ⟨_, by omega, by omega, rowQ_mem he⟩
theorem conc_mem {S : StQ} {e : EntQ} (h : e ∈ conc S) : ∃ j, j < 8 ∧ e.1 = pth j ∧ S j = some e.2 := by
  obtain ⟨j, hj, he⟩ := List.mem_flatMap.1 h
  exact ⟨j, List.mem_range.1 hj, rowQ_mem he⟩
theorem mem_conc {S : StQ} {j : Nat} (hj : j < 8) {x : Vc × Vc} (h : S j = some x) : ((pth j, x.1, x.2) : EntQ) ∈ conc S :=
  List.mem_flatMap.2 ⟨j, List.mem_range.2 hj, by simp [rowQ, h]⟩
theorem conc_len (S : StQ) : (conc S).length ≤ 8 := by
  unfold conc
  have : ∀ l : List Nat, (l.flatMap (rowQ S)).length ≤ l.length := by
    intro l
    induction l with
    | nil => simp
    | cons a l ih =>
      rw [List.flatMap_cons, List.length_append, List.length_cons]
      have : (rowQ S a).length ≤ 1 := by unfold rowQ; split <;> simp
      omega
  have := this (List.range 8)
  rwa [List.length_range] at this

/-- Where a path's entry stands. -/
theorem pl_conc {S : StQ} {k : Nat} (hk : k < 8) {x : Vc × Vc} (h : S k = some x) :
    plN (conc S) (pth k) = (loQ S k).length ∧ (loQ S k).length < (conc S).length ∧ eAt (conc S) (loQ S k).length = (pth k, x.1, x.2) ∧
      ∀ y : Vc × Vc, (conc S).set (loQ S k).length (pth k, y.1, y.2) = conc (updQ S k (some y)) := by
  have hr : rowQ S k = [(pth k, x.1, x.2)] := by simp [rowQ, h]
  have hc : conc S = loQ S k ++ ((pth k, x.1, x.2) :: hiQ S k) := by rw [conc_split S hk, hr]; rfl
  have hl : (loQ S k).length < (conc S).length := by rw [hc, List.length_append, List.length_cons]; omega
  have ha : eAt (conc S) (loQ S k).length = (pth k, x.1, x.2) := by
    rw [eAt_eq hl]
    simp [hc]
  refine ⟨plN_hit hl (fun j hj he => ?_) (by rw [ha]), hl, ha, fun y => ?_⟩
  · rw [eAt_eq (by omega)] at he
    have hm : (conc S)[j] ∈ loQ S k := by
      have : (conc S)[j]'(by omega) = (loQ S k)[j] := by simp [hc, List.getElem_append_left hj]
      rw [this]; exact List.getElem_mem hj
    obtain ⟨i, hi, e1, _⟩ := loQ_mem hm
    rw [e1] at he
    have := pth_inj (by omega) hk he
    omega
  · rw [conc_upd S hk, hc]
    simp
theorem pl_none {S : StQ} {k : Nat} (hk : k < 8) (h : S k = none) : plN (conc S) (pth k) = (conc S).length := by
  refine plN_miss fun j hj he => ?_
  obtain ⟨i, hi, e1, e2⟩ := conc_mem (eAt_mem hj)
  rw [e1] at he
  have := pth_inj hi hk he
  subst this
  rw [h] at e2
  cases e2
/-- Where a new entry is put. -/
theorem up_conc {S : StQ} {k : Nat} (hk : k < 8) (h : S k = none) (y : Vc × Vc) : (conc S).take (upN (conc S) (pth k)) ++ (pth k, y.1, y.2) :: (conc S).drop (upN (conc S) (pth k)) = conc (updQ S k (some y)) := by
  have hr : rowQ S k = [] := by simp [rowQ, h]
  have hc : conc S = loQ S k ++ hiQ S k := by rw [conc_split S hk, hr]; rfl
  have hu : upN (conc S) (pth k) = (loQ S k).length := by
    unfold upN
    rw [hc, List.findIdx_append]
    have hlo : (loQ S k).findIdx (fun e => !Op.bytesLess e.1.data.toList (pth k).data.toList) = (loQ S k).length := by
      rw [List.findIdx_eq_length]
      intro e he
      obtain ⟨j, hj, e1, _⟩ := loQ_mem he
      rw [e1, less_pth j (by omega) k hk, decide_eq_true hj]; rfl
    rw [hlo, if_neg (by omega)]
    have hhi : (hiQ S k).findIdx (fun e => !Op.bytesLess e.1.data.toList (pth k).data.toList) = 0 := by
      cases hh : hiQ S k with
      | nil => rfl
      | cons e l =>
        obtain ⟨j, hj, hj8, e1, _⟩ := hiQ_mem hk (show e ∈ hiQ S k by rw [hh]; simp)
        rw [List.findIdx_cons, e1, less_pth j hj8 k hk, decide_eq_false (by omega)]; rfl
    rw [hhi, Nat.zero_add]
  rw [hu, conc_upd S hk, hc]
  simp
end Go.Dm

namespace Go.Dm
open Go Go.RowKit

/-- What is done of an entry that keeps its path and its limit. -/
def liftE (h : Vc → Vc → Vc × Nat) (e : EntQ) : EntQ × Nat := ((e.1, e.2.1, (h e.2.1 e.2.2).1), (h e.2.1 e.2.2).2)
def chgS (v : Vc) (l u : Vc) : Vc × Nat := if vaddOk u v = false then (u, 5) else if vfits (vadd u v) l = false then (u, 10) else (vadd u v, 0)
def rfdS (v : Vc) (_ u : Vc) : Vc × Nat := if vfits v u = false then (u, 15) else (vsub u v, 0)
theorem chg_lift (v : Vc) : chgE v = liftE (chgS v) := by
  funext e
  unfold chgE liftE chgS
  split
  · rfl
  · split <;> rfl
theorem rfd_lift (v : Vc) : rfdE v = liftE (rfdS v) := by
  funext e
  unfold rfdE liftE rfdS
  split <;> rfl
/-- It is done of each of some. -/
def mapQ (S : StQ) (h : Vc → Vc → Vc × Nat) (l : List Nat) : StQ := fun k => if k ∈ l then (S k).map fun x => (x.1, (h x.1 x.2).1) else S k
/-- The first that can't be. -/
def badQ (S : StQ) (h : Vc → Vc → Vc × Nat) : List Nat → Nat
  | [] => 0
  | k :: ks => match S k with
    | none => badQ S h ks
    | some x => if (h x.1 x.2).2 = 0 then badQ S h ks else (h x.1 x.2).2
theorem loQ_len {S S' : StQ} (h : ∀ j, (S' j).isSome = (S j).isSome) (k : Nat) : (loQ S' k).length = (loQ S k).length := by
  unfold loQ
  rw [List.length_flatMap, List.length_flatMap]
  congr 1
  apply List.map_congr_left
  intro j _
  have := h j
  unfold rowQ
  cases h1 : S' j <;> cases h2 : S j <;> simp_all
theorem badQ_some {S : StQ} {h : Vc → Vc → Vc × Nat} {k : Nat} {ks : List Nat} {x : Vc × Vc} (hx : S k = some x) : badQ S h (k :: ks) = if (h x.1 x.2).2 = 0 then badQ S h ks else (h x.1 x.2).2 := by
  conv => lhs; unfold badQ
  rw [hx]
theorem eachF_conc {S : StQ} {h : Vc → Vc → Vc × Nat} : ∀ {ks : List Nat} {S' : StQ}, (∀ k ∈ ks, k < 8) → (∀ k ∈ ks, S k ≠ none) → (∀ j, (S' j).isSome = (S j).isSome) → ks.Nodup → (∀ k ∈ ks, S' k = S k) →
    eachF (conc S) (liftE h) (ks.map pth) (conc S') = if badQ S h ks = 0 then (conc (mapQ S' h ks), 0) else (conc S, badQ S h ks)
  | [], S', _, _, _, _, _ => by
    simp only [List.map_nil, eachF, badQ, if_true]
    have : mapQ S' h [] = S' := by funext k; simp [mapQ]
    rw [this]
  | k :: ks, S', h8, hs, hi, hn, he => by
    obtain ⟨x, hx⟩ := Option.ne_none_iff_exists'.1 (hs k (by simp))
    have hk := h8 k (by simp)
    obtain ⟨p1, p2, p3, _⟩ := pl_conc hk hx
    have hx' : S' k = some x := by rw [he k (by simp), hx]
    obtain ⟨_, _, _, q4⟩ := pl_conc (S := S') hk hx'
    rw [loQ_len hi] at q4
    rw [List.map_cons]
    unfold eachF
    rw [p1, p3]
    by_cases h0 : (h x.1 x.2).2 = 0
    · have hb : badQ S h (k :: ks) = badQ S h ks := by rw [badQ_some hx, if_pos h0]
      rw [hb, if_pos (show (liftE h (pth k, x.1, x.2)).2 = 0 from h0), show (liftE h (pth k, x.1, x.2)).1 = (pth k, x.1, (h x.1 x.2).1) from rfl, q4 (x.1, (h x.1 x.2).1)]
      have hno : k ∉ ks := (List.nodup_cons.1 hn).1
      have hi2 : ∀ j, (updQ S' k (some (x.1, (h x.1 x.2).1)) j).isSome = (S j).isSome := fun j => by
        unfold updQ
        split
        · rename_i e; subst e; rw [hx]; rfl
        · exact hi j
      rw [eachF_conc (fun j hj => h8 j (List.mem_cons_of_mem _ hj)) (fun j hj => hs j (List.mem_cons_of_mem _ hj)) hi2 (List.nodup_cons.1 hn).2 (fun j hj => by
        have : j ≠ k := fun e => hno (e ▸ hj)
        rw [updQ, if_neg this]; exact he j (List.mem_cons_of_mem _ hj))]
      have hm : mapQ (updQ S' k (some (x.1, (h x.1 x.2).1))) h ks = mapQ S' h (k :: ks) := by
        funext j
        unfold mapQ updQ
        by_cases e : j = k
        · subst e; simp [hno, hx']
        · simp [e]
      rw [hm]
    · have hb : badQ S h (k :: ks) = (h x.1 x.2).2 := by rw [badQ_some hx, if_neg h0]
      rw [hb, if_neg (show ¬ (liftE h (pth k, x.1, x.2)).2 = 0 from h0), if_neg h0]
      rfl
theorem any_same {α : Type} {f g : α → Bool} : ∀ {l : List α}, (∀ x ∈ l, f x = g x) → l.any f = l.any g
  | [], _ => rfl
  | x :: l, h => by rw [List.any_cons, List.any_cons, h x (by simp), any_same fun y hy => h y (List.mem_cons_of_mem _ hy)]
theorem lack_conc {S : StQ} {ks : List Nat} (h8 : ∀ k ∈ ks, k < 8) : lackT (conc S) (ks.map pth) = ks.any fun k => (S k).isNone := by
  unfold lackT
  rw [List.any_map]
  refine any_same fun k hk => ?_
  show decide (plN (conc S) (pth k) = (conc S).length) = _
  cases h : S k with
  | none => rw [pl_none (h8 k hk) h]; simp
  | some x =>
    obtain ⟨p1, p2, _⟩ := pl_conc (h8 k hk) h
    rw [p1, decide_eq_false (by omega)]; rfl

def chargeQ (S : StQ) (h : Vc → Vc → Vc × Nat) (p : Nat) : StQ × Nat :=
  if (abvK p).any (fun k => (S k).isNone) = true then (S, 7) else if badQ S h (abvK p) = 0 then (mapQ S h (abvK p), 0) else (S, badQ S h (abvK p))
theorem each_conc (S : StQ) (h : Vc → Vc → Vc × Nat) {p : Nat} (hp : p < 8) : eachT (conc S) (pth p) (liftE h) = (conc (chargeQ S h p).1, (chargeQ S h p).2) := by
  unfold eachT chargeQ
  rw [nam_pth p hp, if_neg (by simp), abv_pth hp, lack_conc (abvK_lt p hp)]
  by_cases hl : ((abvK p).any fun k => (S k).isNone) = true
  · rw [if_pos hl, if_pos hl]
  · rw [if_neg hl, if_neg hl]
    have hs : ∀ k ∈ abvK p, S k ≠ none := fun k hk e => hl (List.any_eq_true.2 ⟨k, hk, by rw [e]; rfl⟩)
    rw [eachF_conc (abvK_lt p hp) hs (fun _ => rfl) (abvK_nodup p hp) (fun _ _ => rfl)]
    split <;> rfl
theorem badQ_iff {S : StQ} {h : Vc → Vc → Vc × Nat} : ∀ {ks : List Nat}, badQ S h ks = 0 ↔ ∀ k ∈ ks, ∀ x, S k = some x → (h x.1 x.2).2 = 0
  | [] => by simp [badQ]
  | k :: ks => by
    unfold badQ
    cases e : S k with
    | none =>
      simp only
      rw [badQ_iff]
      constructor
      · intro H j hj x hx
        rcases List.mem_cons.1 hj with rfl | hj
        · rw [e] at hx; cases hx
        · exact H j hj x hx
      · intro H j hj x hx
        exact H j (List.mem_cons_of_mem _ hj) x hx
    | some x =>
      simp only
      by_cases h0 : (h x.1 x.2).2 = 0
      · rw [if_pos h0, badQ_iff]
        constructor
        · intro H j hj y hy
          rcases List.mem_cons.1 hj with rfl | hj
          · rw [e] at hy; injection hy with hy; subst hy; exact h0
          · exact H j hj y hy
        · intro H j hj y hy
          exact H j (List.mem_cons_of_mem _ hj) y hy
      · rw [if_neg h0]
        constructor
        · intro H; exact absurd H h0
        · intro H; exact absurd (H k (by simp) x e) h0
theorem badQ_one {S : StQ} {h : Vc → Vc → Vc × Nat} {n : Nat} (hn : n ≠ 0) : ∀ {ks : List Nat}, (∀ k ∈ ks, ∀ x, S k = some x → (h x.1 x.2).2 = 0 ∨ (h x.1 x.2).2 = n) → badQ S h ks = 0 ∨ badQ S h ks = n
  | [], _ => Or.inl rfl
  | k :: ks, H => by
    unfold badQ
    cases e : S k with
    | none => exact badQ_one hn fun j hj => H j (List.mem_cons_of_mem _ hj)
    | some x =>
      simp only
      split
      · exact badQ_one hn fun j hj => H j (List.mem_cons_of_mem _ hj)
      · rename_i h0
        exact (H k (by simp) x e).imp (fun h => absurd h h0) id

/-- P10.2 over the eight paths. -/
def setQ (S : StQ) (p : Nat) (lim : Vc) : StQ × Nat :=
  if p ≠ 0 ∧ S (parK p) = none then (S, 7)
  else match S p with
    | some x => if vfits x.2 lim = true then (updQ S p (some (lim, x.2)), 0) else (S, 10)
    | none => (updQ S p (some (lim, noV)), 0)
theorem pl_iff {S : StQ} {k : Nat} (hk : k < 8) : plN (conc S) (pth k) = (conc S).length ↔ S k = none := by
  cases h : S k with
  | none => simp [pl_none hk h]
  | some x =>
    obtain ⟨p1, p2, _⟩ := pl_conc hk h
    rw [p1]
    constructor
    · intro e; omega
    · intro e; cases e
theorem set_conc (S : StQ) {p : Nat} (hp : p < 8) (lim : Vc) : setT (conc S) (pth p) lim = (conc (setQ S p lim).1, (setQ S p lim).2) := by
  unfold setT setQ
  rw [nam_pth p hp, if_neg (by simp), par_pth p hp]
  have h16 : ¬ (plN (conc S) (pth p) = (conc S).length ∧ 16 ≤ (conc S).length) := fun h => by have := conc_len S; omega
  have hz : (pth p ≠ ⟨#[]⟩ ∧ plN (conc S) (pth (parK p)) = (conc S).length) ↔ (p ≠ 0 ∧ S (parK p) = none) := by rw [Ne, pth_nil hp, pl_iff (parK_lt p hp)]
  by_cases h1 : p ≠ 0 ∧ S (parK p) = none
  · rw [if_pos (hz.2 h1), if_pos h1]
  · rw [if_neg (fun h => h1 (hz.1 h)), if_neg h1, if_neg h16]
    cases e : S p with
    | some x =>
      obtain ⟨p1, p2, p3, p4⟩ := pl_conc hp e
      rw [p1, p3]
      simp only
      by_cases hf : vfits x.2 lim = true
      · rw [if_neg (fun h => by rw [hf] at h; exact absurd h.2 (by simp)), if_pos p2, if_pos hf]
        exact congrArg (fun z => (z, 0)) (p4 (lim, x.2))
      · rw [if_pos ⟨p2, by simpa using hf⟩, if_neg hf]
    | none =>
      have hl : ¬ plN (conc S) (pth p) < (conc S).length := by rw [pl_none hp e]; omega
      rw [if_neg (fun h => hl h.1), if_neg hl]
      exact congrArg (fun z => (z, 0)) (up_conc hp e (lim, noV))

/-- A state that a run of settings, charges may come to. -/
structure OkS (S : StQ) : Prop where
  root : S 0 ≠ none
  par : ∀ k, k < 8 → S k ≠ none → S (parK k) ≠ none
  lim : ∀ k x, S k = some x → OkV x.1
  use : ∀ k x, S k = some x → OkV x.2
  top : ∀ k x, S k = some x → ∀ j, vG x.1 j ≤ 40
  fit : ∀ k x, S k = some x → vfits x.2 x.1 = true
theorem OkS.set {S : StQ} (h : OkS S) {p : Nat} (hp : p < 8) {lim : Vc} (hl : OkV lim) (ht : ∀ j, vG lim j ≤ 40) : OkS (setQ S p lim).1 := by
  unfold setQ
  by_cases h1 : p ≠ 0 ∧ S (parK p) = none
  · rw [if_pos h1]; exact h
  · rw [if_neg h1]
    have hgen : ∀ u, OkV u → vfits u lim = true → OkS (updQ S p (some (lim, u))) := fun u hu hf => by
      refine ⟨?_, fun k hk hs => ?_, fun k x hx => ?_, fun k x hx => ?_, fun k x hx => ?_, fun k x hx => ?_⟩
      · unfold updQ; split
        · simp
        · exact h.root
      · unfold updQ
        split
        · simp
        · by_cases e : k = p
          · subst e
            by_cases e0 : k = 0
            · subst e0; exact h.root
            · exact fun e2 => h1 ⟨e0, e2⟩
          · unfold updQ at hs
            rw [if_neg e] at hs
            exact h.par k hk hs
      all_goals
        unfold updQ at hx
        by_cases e : k = p
        · rw [if_pos e] at hx
          injection hx with hx
          subst hx
          first | exact hl | exact hu | exact ht | exact hf
        · rw [if_neg e] at hx
          first | exact h.lim k x hx | exact h.use k x hx | exact h.top k x hx | exact h.fit k x hx
    cases e : S p with
    | some x =>
      simp only
      split
      · rename_i hf; exact hgen x.2 (h.use p x e) hf
      · exact h
    | none => exact hgen noV okV_no (vfits_no_le lim)
theorem OkS.map {S : StQ} (h : OkS S) {f : Vc → Vc → Vc × Nat} {l : List Nat} (hf : ∀ k ∈ l, ∀ x, S k = some x → OkV (f x.1 x.2).1 ∧ vfits (f x.1 x.2).1 x.1 = true) : OkS (mapQ S f l) := by
  have hn : ∀ k, mapQ S f l k = none ↔ S k = none := fun k => by
    unfold mapQ; split
    · simp
    · rfl
  have hx : ∀ k y, mapQ S f l k = some y → ∃ x, S k = some x ∧ y.1 = x.1 ∧ (y = x ∨ (k ∈ l ∧ y.2 = (f x.1 x.2).1)) := fun k y hy => by
    unfold mapQ at hy
    split at hy
    · rename_i hk
      cases e : S k with
      | none => rw [e] at hy; cases hy
      | some x =>
        rw [e] at hy
        simp only [Option.map_some] at hy
        injection hy with hy
        subst hy
        exact ⟨x, rfl, rfl, Or.inr ⟨hk, rfl⟩⟩
    · exact ⟨y, hy, rfl, Or.inl rfl⟩
  refine ⟨fun e => h.root ((hn 0).1 e), fun k hk hs e => h.par k hk (fun e2 => hs ((hn k).2 e2)) ((hn _).1 e), fun k y hy => ?_, fun k y hy => ?_, fun k y hy => ?_, fun k y hy => ?_⟩ <;>
    obtain ⟨x, h1, h2, h3⟩ := hx k y hy
  · rw [h2]; exact h.lim k x h1
  · rcases h3 with rfl | ⟨hk, h3⟩
    · exact h.use k _ h1
    · rw [h3]; exact (hf k hk x h1).1
  · rw [h2]; exact h.top k x h1
  · rcases h3 with rfl | ⟨hk, h3⟩
    · exact h.fit k _ h1
    · rw [h2, h3]; exact (hf k hk x h1).2
theorem chgS_zero {v l u : Vc} (h : (chgS v l u).2 = 0) : vaddOk u v = true ∧ vfits (vadd u v) l = true ∧ (chgS v l u).1 = vadd u v := by
  unfold chgS at h ⊢
  split at h
  · cases h
  · split at h
    · cases h
    · rename_i h1 h2
      rw [if_neg h1, if_neg h2]
      exact ⟨by simpa using h1, by simpa using h2, rfl⟩
theorem rfdS_zero {v l u : Vc} (h : (rfdS v l u).2 = 0) : vfits v u = true ∧ (rfdS v l u).1 = vsub u v := by
  unfold rfdS at h ⊢
  split at h
  · cases h
  · rename_i h1
    rw [if_neg h1]
    exact ⟨by simpa using h1, rfl⟩
theorem OkS.charge {S : StQ} (h : OkS S) (v : Vc) (p : Nat) : OkS (chargeQ S (chgS v) p).1 := by
  unfold chargeQ
  split
  · exact h
  · split
    · rename_i hb
      refine h.map fun k hk x hx => ?_
      obtain ⟨h1, h2, h3⟩ := chgS_zero (badQ_iff.1 hb k hk x hx)
      rw [h3]
      exact ⟨vadd_okV h1, h2⟩
    · exact h
theorem OkS.refund {S : StQ} (h : OkS S) (v : Vc) (p : Nat) : OkS (chargeQ S (rfdS v) p).1 := by
  unfold chargeQ
  split
  · exact h
  · split
    · rename_i hb
      refine h.map fun k hk x hx => ?_
      obtain ⟨h1, h3⟩ := rfdS_zero (badQ_iff.1 hb k hk x hx)
      rw [h3]
      refine ⟨vsub_ok (h.use k x hx), ?_⟩
      have hf := h.fit k x hx
      rw [vfits_four] at hf ⊢
      simp only [vsub_eta, vG, List.getD_cons_zero, List.getD_cons_succ] at hf ⊢
      omega
    · exact h
end Go.Dm

namespace Go.Dm
open Go Go.RowKit
theorem OkS.fit_conc {S : StQ} (h : OkS S) : FitT (conc S) := by
  refine ⟨fun r hr => ?_, fun r hr => ?_, fun r hr => ?_⟩ <;> obtain ⟨j, hj, e1, e2⟩ := conc_mem hr
  · rw [e1]; have := pth_len j; omega
  · exact h.lim j _ e2
  · exact h.use j _ e2
theorem pth_small (k : Nat) : (pth k).size < 4294967281 := by have := pth_len k; omega
theorem conc_small (S : StQ) : (conc S).length ≤ 1099511627776 := by have := conc_len S; omega
def findS (S : StQ) (k : Nat) : EntQ × Bool := match S k with
  | some x => ((pth k, x.1, x.2), true)
  | none => (noEnt, false)
theorem find_conc (S : StQ) {k : Nat} (hk : k < 8) : findQ (conc S) (pth k) = findS S k := by
  unfold findQ findS
  cases h : S k with
  | none => rw [pl_none hk h, if_neg (by omega)]
  | some x =>
    obtain ⟨p1, p2, p3, _⟩ := pl_conc hk h
    rw [p1, if_pos p2, p3]
def freeS (S : StQ) : StQ := fun k => (S k).map fun x => (x.1, noV)
theorem free_conc (S : StQ) : freeT (conc S) = conc (freeS S) := by
  unfold freeT conc
  rw [List.map_flatMap]
  refine flatMap_same fun k _ => ?_
  unfold rowQ freeS
  cases S k <;> rfl
theorem could_conc (S : StQ) (v : Vc) {p : Nat} (hp : p < 8) : couldT (conc S) (pth p) v = decide ((chargeQ (freeS S) (chgS v) p).2 = 0) := by
  unfold couldT
  rw [free_conc, chg_lift, each_conc _ _ hp]
end Go.Dm
namespace Go.Proofs.YtopnllbfhhjobaaGreatDoor
open Go.RowKit Go.Dm

theorem set_c (S : StQ) (hS : OkS S) (v : Value) {k : Nat} (hk : k < 8) (lim : Vc) (hl : OkV lim) (w : World) (hx : Tree w v (conc S)) (ht : Vars w) :
    Calls Tryz.prog 6 #[v, .string (pth k), vVal lim] w fun e w' => ∃ v', e = .returned (.tuple #[v', .int .i64 ((setQ S k lim).2 : Nat)]) ∧ Tree w' v' (conc (setQ S k lim).1) ∧ Ext w w' := by
  have h := qset_w (conc S) v (pth k) lim hl w (conc_small S) hS.fit_conc hx (pth_small k) ht
  rw [set_conc S hk] at h
  exact h
theorem charge_c (S : StQ) (hS : OkS S) (v : Value) {k : Nat} (hk : k < 8) (a : Vc) (ha : OkV a) (w : World) (hx : Tree w v (conc S)) (ht : Vars w) :
    Calls Tryz.prog 9 #[v, .string (pth k), vVal a] w fun e w' => ∃ v', e = .returned (.tuple #[v', .int .i64 ((chargeQ S (chgS a) k).2 : Nat)]) ∧ Tree w' v' (conc (chargeQ S (chgS a) k).1) ∧ Ext w w' := by
  have h := qCharge_w (conc S) v (pth k) a ha w (conc_small S) hS.fit_conc hx (pth_small k) ht
  rw [chg_lift, each_conc S _ hk] at h
  exact h
theorem chargeO_c (S : StQ) (hS : OkS S) (v : Value) {k : Nat} (hk : k < 8) (a : Vc) (ha : OkV a) (w : World) (hx : Tree w v (conc S)) (ht : Vars w) :
    Calls Tryz.prog 9 #[v, .string (pth k), vVal a] w fun e w' => ∃ v', e = .returned (.tuple #[v', .int .i64 ((chargeQ S (chgS a) k).2 : Nat)]) ∧ Tree w' v' (conc (chargeQ S (chgS a) k).1) ∧ Ext w w' ∧ ((chargeQ S (chgS a) k).2 = 0 → w'.ownsRow w.heap.size 38 9 v' (conc S).length (entCellsQ (conc (chargeQ S (chgS a) k).1))) := by
  have h := qChargeO_w (conc S) v (pth k) a ha w (conc_small S) hS.fit_conc hx (pth_small k) ht
  rw [chg_lift, each_conc S _ hk] at h
  exact h
theorem refund_c (S : StQ) (hS : OkS S) (v : Value) {k : Nat} (hk : k < 8) (a : Vc) (ha : OkV a) (w : World) (hx : Tree w v (conc S)) (ht : Vars w) :
    Calls Tryz.prog 11 #[v, .string (pth k), vVal a] w fun e w' => ∃ v', e = .returned (.tuple #[v', .int .i64 ((chargeQ S (rfdS a) k).2 : Nat)]) ∧ Tree w' v' (conc (chargeQ S (rfdS a) k).1) ∧ Ext w w' := by
  have h := qRefund_w (conc S) v (pth k) a ha w (conc_small S) hS.fit_conc hx (pth_small k) ht
  rw [rfd_lift, each_conc S _ hk] at h
  exact h
theorem find_c (S : StQ) (v : Value) {k : Nat} (hk : k < 8) (w : World) (hx : Tree w v (conc S)) :
    Calls Tryz.prog 14 #[v, .string (pth k)] w fun e w' => e = .returned (.tuple #[entVal (findS S k).1, .bool (findS S k).2]) ∧ Ext w w' := by
  have h := qfind_w (conc S) (pth k) v w (conc_small S) hx
  rw [find_conc S hk] at h
  exact h
theorem could_c (S : StQ) (hS : OkS S) (v : Value) {k : Nat} (hk : k < 8) (a : Vc) (ha : OkV a) (w : World) (hx : Tree w v (conc S)) (ht : Vars w) :
    Calls Tryz.prog 18 #[v, .string (pth k), vVal a] w fun e w' => e = .returned (.bool (decide ((chargeQ (freeS S) (chgS a) k).2 = 0))) ∧ Ext w w' := by
  have h := qcould_w (conc S) v (pth k) a ha w (conc_small S) hS.fit_conc hx (pth_small k) ht
  rw [could_conc S a hk] at h
  exact h
theorem right_c (S : StQ) (hS : OkS S) (v : Value) (w : World) (hx : Tree w v (conc S)) (ht : Vars w) :
    Calls Tryz.prog 20 #[v] w fun e w' => e = .returned (.bool (rightQ (conc S))) ∧ Ext w w' :=
  qright_w (conc S) v w (conc_small S) hS.fit_conc hx ht
end Go.Proofs.YtopnllbfhhjobaaGreatDoor

namespace Go.Dm
open Go Go.RowKit
/-- An amount that is charged, by bytes; or given back. -/
abbrev ChQ := (Nat × Nat × Nat × Nat × Nat) × Bool
def noCh : ChQ := ((0, 0, 0, 0, 0), false)
def OkC (c : ChQ) : Prop := c.1.1 < 256 ∧ c.1.2.1 < 256 ∧ c.1.2.2.1 < 256 ∧ c.1.2.2.2.1 < 256 ∧ c.1.2.2.2.2 < 256
def chOne (c : ChQ) : List Value := [.int .u8 (c.1.1 : Nat), .int .u8 (c.1.2.1 : Nat), .int .u8 (c.1.2.2.1 : Nat), .int .u8 (c.1.2.2.2.1 : Nat), .int .u8 (c.1.2.2.2.2 : Nat), .bool c.2]
def chVal (c : ChQ) : Value := .agg #[.int .u8 (c.1.1 : Nat), .int .u8 (c.1.2.1 : Nat), .int .u8 (c.1.2.2.1 : Nat), .int .u8 (c.1.2.2.2.1 : Nat), .int .u8 (c.1.2.2.2.2 : Nat), .bool c.2]
def amtC (c : ChQ) : Vc := [c.1.2.1 % 8, c.1.2.2.1 % 8, c.1.2.2.2.1 % 8, c.1.2.2.2.2 % 8]
def chAt (l : List ChQ) (k : Nat) : ChQ := l.getD k noCh
theorem chAt_eq {l : List ChQ} {k : Nat} (h : k < l.length) : chAt l k = l[k] := by simp [chAt, h]
def chCells (l : List ChQ) : List Value := l.flatMap chOne
theorem chCells_len (R : List ChQ) : (chCells R).length = R.length * 6 := by
  induction R with
  | nil => rfl
  | cons x xs ih => simp only [chCells, chOne, List.flatMap_cons, List.length_append, List.length_cons, List.length_nil] at *; omega
theorem chCells_at : ∀ (xs : List ChQ) (k : Nat), k < xs.length → ∀ j, j < 6 → (chCells xs)[k*6+j]? = (chOne (chAt xs k))[j]?
  | x :: xs, 0, _, j, hj => by
    show (chOne x ++ chCells xs)[0*6+j]? = _
    rw [List.getElem?_append_left (by simp [chOne]; omega)]
    simp [chAt]
  | x :: xs, k+1, h, j, hj => by
    have := chCells_at xs k (by simpa using h) j hj
    show (chOne x ++ chCells xs)[(k+1)*6+j]? = _
    rw [List.getElem?_append_right (by simp [chOne]; omega)]
    rw [show (k + 1) * 6 + j - (chOne x).length = k * 6 + j by simp [chOne]; omega, this]
    simp [chAt]
/-- A slice value reads as these. -/
def Chs (w : World) (v : Value) (l : List ChQ) : Prop := Sl w 6 v l.length (chCells l)
theorem Chs.ext {w w' : World} {v l} (h : Chs w v l) (hb : Ext w w') : Chs w' v l := Sl.ext h hb
theorem Chs.shape {w : World} {v l} (h : Chs w v l) : ∃ p cap, v = .slice p l.length cap ∧ l.length ≤ cap ∧ cap ≤ maxLen := by
  obtain ⟨p, cap, h1, h2, h3, _⟩ := Sl.shape h
  exact ⟨p, cap, h1, h2, h3⟩
theorem Chs.at {w : World} {xs : List ChQ} {p cap} (h : Chs w (.slice p xs.length cap) xs) {k : Nat} (hk : k < xs.length) :
    ∃ b off, p = some ⟨b, off, none⟩ ∧ b < w.heap.size ∧ ∀ j, j < 6 → w.cell? ⟨b, off + k*6 + j, none⟩ = (chOne (chAt xs k))[j]? := by
  obtain ⟨b, off, hp, hb, h⟩ := Sl.at h (by omega)
  refine ⟨b, off, hp, hb, fun j hj => ?_⟩
  have := chCells_at xs k hk j hj
  obtain ⟨u, hu⟩ : ∃ u, (chOne (chAt xs k))[j]? = some u := ⟨_, List.getElem?_eq_getElem (by simp [chOne]; omega)⟩
  rw [hu] at this ⊢
  rw [Nat.add_assoc]
  exact h _ _ this
end Go.Dm
namespace Go.Proofs.YtopnllbfhhjobaaGreatDoor
open Go.RowKit Go.Dm
end Go.Proofs.YtopnllbfhhjobaaGreatDoor

namespace Go.Dm
open Go Go.RowKit
def forty : Vc := [40, 40, 40, 40]
def amt4 (c : ChQ) : Vc := [vG (amtC c) 0 * 4, vG (amtC c) 1 * 4, vG (amtC c) 2 * 4, vG (amtC c) 3 * 4]
def S0 : StQ := fun k => if k = 0 then some (forty, noV) else none
def stepL (S : StQ) (c : ChQ) : StQ := (setQ S (c.1.1 % 8) (amt4 c)).1
def stepM (S : StQ) (c : ChQ) : StQ := if c.2 = true then (chargeQ S (rfdS (amtC c)) (c.1.1 % 8)).1 else (chargeQ S (chgS (amtC c)) (c.1.1 % 8)).1
/-- A cell that holds a value. -/
structure AtC (b o : Nat) (v : Value) (w : World) : Prop where
  lt : b < w.heap.size
  cell : w.cell? ⟨b, o, none⟩ = some v
theorem AtC.ext {b o : Nat} {v : Value} {w w' : World} (h : AtC b o v w) (hx : Ext w w') : AtC b o v w' :=
  ⟨Nat.lt_of_lt_of_le h.lt hx.size, by rw [hx.cell (by exact h.lt)]; exact h.cell⟩
/-- A tree by bytes. -/
def growS (l m : List ChQ) : StQ := (m.take 24).foldl stepM ((l.take 24).foldl stepL S0)
theorem amtC_lt (c : ChQ) : ∀ j, vG (amtC c) j < 8 := fun j => by
  match j with
  | 0 => exact Nat.mod_lt _ (by omega)
  | 1 => exact Nat.mod_lt _ (by omega)
  | 2 => exact Nat.mod_lt _ (by omega)
  | 3 => exact Nat.mod_lt _ (by omega)
  | j + 4 => show (0 : Nat) < 8; omega
theorem okV_small {a b c d : Nat} (h : a < 64 ∧ b < 64 ∧ c < 64 ∧ d < 64) : OkV [a, b, c, d] := okV_mk (by unfold U64; omega) (by unfold U64; omega) (by unfold U64; omega) (by unfold U64; omega)
theorem amtC_ok (c : ChQ) : OkV (amtC c) := okV_small ⟨by omega, by omega, by omega, by omega⟩
theorem amt4_ok (c : ChQ) : OkV (amt4 c) := okV_small (by have := amtC_lt c; exact ⟨by have := this 0; omega, by have := this 1; omega, by have := this 2; omega, by have := this 3; omega⟩)
theorem amt4_top (c : ChQ) : ∀ j, vG (amt4 c) j ≤ 40 := fun j => by
  have h := amtC_lt c
  match j with
  | 0 => show vG (amtC c) 0 * 4 ≤ 40; have := h 0; omega
  | 1 => show vG (amtC c) 1 * 4 ≤ 40; have := h 1; omega
  | 2 => show vG (amtC c) 2 * 4 ≤ 40; have := h 2; omega
  | 3 => show vG (amtC c) 3 * 4 ≤ 40; have := h 3; omega
  | j + 4 => show (0 : Nat) ≤ 40; omega
theorem okS0 : OkS S0 := by
  have h : ∀ k x, S0 k = some x → x = (forty, noV) := fun k x hx => by
    unfold S0 at hx
    split at hx
    · injection hx with hx; exact hx.symm
    · cases hx
  refine ⟨by simp [S0], fun k hk hs => ?_, fun k x hx => ?_, fun k x hx => ?_, fun k x hx => ?_, fun k x hx => ?_⟩
  · unfold S0 at hs
    split at hs
    · rename_i h0; subst h0; simp [parK, S0]
    · exact absurd rfl hs
  · rw [h k x hx]; exact okV_small ⟨by omega, by omega, by omega, by omega⟩
  · rw [h k x hx]; exact okV_no
  · rw [h k x hx]; intro j
    match j with
    | 0 => decide
    | 1 => decide
    | 2 => decide
    | 3 => decide
    | j + 4 => show (0 : Nat) ≤ 40; omega
  · rw [h k x hx]; exact vfits_no_le forty
theorem OkS.stepL {S : StQ} (h : OkS S) (c : ChQ) : OkS (stepL S c) := h.set (by omega) (amt4_ok c) (amt4_top c)
theorem OkS.stepM {S : StQ} (h : OkS S) (c : ChQ) : OkS (stepM S c) := by
  unfold Dm.stepM
  split
  · exact h.refund _ _
  · exact h.charge _ _
theorem ok_fold {f : StQ → ChQ → StQ} (hf : ∀ S c, OkS S → OkS (f S c)) : ∀ (l : List ChQ) (S : StQ), OkS S → OkS (l.foldl f S)
  | [], _, h => h
  | c :: l, S, h => ok_fold hf l _ (hf S c h)
theorem ok_foldL (l : List ChQ) : OkS (l.foldl stepL S0) := ok_fold (fun _ c h => h.stepL c) l S0 okS0
theorem growS_ok (l m : List ChQ) : OkS (growS l m) := ok_fold (fun _ c h => h.stepM c) _ _ (ok_foldL _)
end Go.Dm
namespace Go.Proofs.YtopnllbfhhjobaaGreatDoor
open Go.RowKit Go.Dm
end Go.Proofs.YtopnllbfhhjobaaGreatDoor

namespace Go.Dm
open Go Go.RowKit
def T0 : List EntQ := [(⟨#[]⟩, [5, 5, 5, 5], noV)]
def T1 : List EntQ := [(⟨#[]⟩, [5, 5, 5, 5], noV), (⟨#[97]⟩, [9, 2, 9, 9], noV)]
def TU : List EntQ := [(⟨#[]⟩, [5, 5, 5, 5], [3, 2, 0, 0]), (⟨#[97]⟩, [9, 2, 9, 9], [3, 2, 0, 0])]
theorem fit_cons {r : EntQ} {R : List EntQ} (h : r.1.size ≤ 1048576 ∧ OkV r.2.1 ∧ OkV r.2.2) (hR : FitT R) : FitT (r :: R) := by
  refine ⟨fun x hx => ?_, fun x hx => ?_, fun x hx => ?_⟩ <;> rcases List.mem_cons.1 hx with rfl | hx
  · exact h.1
  · exact hR.path x hx
  · exact h.2.1
  · exact hR.lim x hx
  · exact h.2.2
  · exact hR.used x hx
theorem fitT0 : FitT T0 := fit_cons ⟨by decide, okV_small ⟨by omega, by omega, by omega, by omega⟩, okV_no⟩ FitT.nil
theorem fitT1 : FitT T1 := fit_cons ⟨by decide, okV_small ⟨by omega, by omega, by omega, by omega⟩, okV_no⟩ (fit_cons ⟨by decide, okV_small ⟨by omega, by omega, by omega, by omega⟩, okV_no⟩ FitT.nil)
theorem fitTU : FitT TU := fit_cons ⟨by decide, okV_small ⟨by omega, by omega, by omega, by omega⟩, okV_small ⟨by omega, by omega, by omega, by omega⟩⟩ (fit_cons ⟨by decide, okV_small ⟨by omega, by omega, by omega, by omega⟩, okV_small ⟨by omega, by omega, by omega, by omega⟩⟩ FitT.nil)
end Go.Dm
namespace Go.Proofs.YtopnllbfhhjobaaGreatDoor
open Go.RowKit Go.Dm
theorem exq_C2 (w U : World) (v : Value) (ht : Vars w) (h : Ext w U) (hx : Tree U v T0) : Calls Tryz.prog 9 #[v, (.string ⟨#[]⟩), (.agg #[.int .u64 6, .int .u64 0, .int .u64 0, .int .u64 0])] U fun e w' => ∃ v', e = .returned (.tuple #[v', .int .i64 10]) ∧ Tree w' v' T0 ∧ Ext U w' := by
  have C := qCharge_w T0 v ⟨#[]⟩ [6, 0, 0, 0] (okV_small ⟨by omega, by omega, by omega, by omega⟩) U (by decide) fitT0 hx (by decide) (ht.ext h)
  rw [show eachT T0 ⟨#[]⟩ (chgE [6, 0, 0, 0]) = (T0, 10) by kernel_rfl] at C
  exact C
theorem exq_C3 (w U : World) (v : Value) (ht : Vars w) (h : Ext w U) (hx : Tree U v T0) : Calls Tryz.prog 6 #[v, (.string ⟨#[97, 47, 98]⟩), (.agg #[.int .u64 0, .int .u64 0, .int .u64 0, .int .u64 0])] U fun e w' => ∃ v', e = .returned (.tuple #[v', .int .i64 7]) ∧ Tree w' v' T0 ∧ Ext U w' := by
  have C := qset_w T0 v ⟨#[97, 47, 98]⟩ [0, 0, 0, 0] (okV_small ⟨by omega, by omega, by omega, by omega⟩) U (by decide) fitT0 hx (by decide) (ht.ext h)
  rw [show setT T0 ⟨#[97, 47, 98]⟩ [0, 0, 0, 0] = (T0, 7) by kernel_rfl] at C
  exact C
theorem exq_C4 (w U : World) (v : Value) (ht : Vars w) (h : Ext w U) (hx : Tree U v T0) : Calls Tryz.prog 6 #[v, (.string ⟨#[97]⟩), (.agg #[.int .u64 9, .int .u64 2, .int .u64 9, .int .u64 9])] U fun e w' => ∃ v', e = .returned (.tuple #[v', .int .i64 0]) ∧ Tree w' v' T1 ∧ Ext U w' := by
  have C := qset_w T0 v ⟨#[97]⟩ [9, 2, 9, 9] (okV_small ⟨by omega, by omega, by omega, by omega⟩) U (by decide) fitT0 hx (by decide) (ht.ext h)
  rw [show setT T0 ⟨#[97]⟩ [9, 2, 9, 9] = (T1, 0) by kernel_rfl] at C
  exact C
theorem exq_C5 (w U : World) (v : Value) (ht : Vars w) (h : Ext w U) (hx : Tree U v T1) : Calls Tryz.prog 9 #[v, (.string ⟨#[97]⟩), (.agg #[.int .u64 3, .int .u64 2, .int .u64 0, .int .u64 0])] U fun e w' => ∃ v', e = .returned (.tuple #[v', .int .i64 0]) ∧ Tree w' v' TU ∧ Ext U w' := by
  have C := qCharge_w T1 v ⟨#[97]⟩ [3, 2, 0, 0] (okV_small ⟨by omega, by omega, by omega, by omega⟩) U (by decide) fitT1 hx (by decide) (ht.ext h)
  rw [show eachT T1 ⟨#[97]⟩ (chgE [3, 2, 0, 0]) = (TU, 0) by kernel_rfl] at C
  exact C
theorem exq_C6 (w U : World) (v : Value) (ht : Vars w) (h : Ext w U) (hx : Tree U v TU) : Calls Tryz.prog 9 #[v, (.string ⟨#[97]⟩), (.agg #[.int .u64 0, .int .u64 1, .int .u64 0, .int .u64 0])] U fun e w' => ∃ v', e = .returned (.tuple #[v', .int .i64 10]) ∧ Tree w' v' TU ∧ Ext U w' := by
  have C := qCharge_w TU v ⟨#[97]⟩ [0, 1, 0, 0] (okV_small ⟨by omega, by omega, by omega, by omega⟩) U (by decide) fitTU hx (by decide) (ht.ext h)
  rw [show eachT TU ⟨#[97]⟩ (chgE [0, 1, 0, 0]) = (TU, 10) by kernel_rfl] at C
  exact C
theorem exq_C7 (w U : World) (v : Value) (ht : Vars w) (h : Ext w U) (hx : Tree U v TU) : Calls Tryz.prog 6 #[v, (.string ⟨#[]⟩), (.agg #[.int .u64 2, .int .u64 9, .int .u64 9, .int .u64 9])] U fun e w' => ∃ v', e = .returned (.tuple #[v', .int .i64 10]) ∧ Tree w' v' TU ∧ Ext U w' := by
  have C := qset_w TU v ⟨#[]⟩ [2, 9, 9, 9] (okV_small ⟨by omega, by omega, by omega, by omega⟩) U (by decide) fitTU hx (by decide) (ht.ext h)
  rw [show setT TU ⟨#[]⟩ [2, 9, 9, 9] = (TU, 10) by kernel_rfl] at C
  exact C
theorem exq_C9 (w U : World) (v : Value) (ht : Vars w) (h : Ext w U) (hx : Tree U v TU) : Calls Tryz.prog 11 #[v, (.string ⟨#[97]⟩), (.agg #[.int .u64 3, .int .u64 2, .int .u64 0, .int .u64 0])] U fun e w' => ∃ v', e = .returned (.tuple #[v', .int .i64 0]) ∧ Tree w' v' T1 ∧ Ext U w' := by
  have C := qRefund_w TU v ⟨#[97]⟩ [3, 2, 0, 0] (okV_small ⟨by omega, by omega, by omega, by omega⟩) U (by decide) fitTU hx (by decide) (ht.ext h)
  rw [show eachT TU ⟨#[97]⟩ (rfdE [3, 2, 0, 0]) = (T1, 0) by kernel_rfl] at C
  exact C
theorem exq_C10 (w U : World) (v : Value) (ht : Vars w) (h : Ext w U) (hx : Tree U v TU) : Calls Tryz.prog 11 #[v, (.string ⟨#[97]⟩), (.agg #[.int .u64 4, .int .u64 0, .int .u64 0, .int .u64 0])] U fun e w' => ∃ v', e = .returned (.tuple #[v', .int .i64 15]) ∧ Tree w' v' TU ∧ Ext U w' := by
  have C := qRefund_w TU v ⟨#[97]⟩ [4, 0, 0, 0] (okV_small ⟨by omega, by omega, by omega, by omega⟩) U (by decide) fitTU hx (by decide) (ht.ext h)
  rw [show eachT TU ⟨#[97]⟩ (rfdE [4, 0, 0, 0]) = (TU, 15) by kernel_rfl] at C
  exact C
theorem exq_C11 (w U : World) (v : Value) (ht : Vars w) (h : Ext w U) (hx : Tree U v TU) : Calls Tryz.prog 9 #[v, (.string ⟨#[120, 47]⟩), (.agg #[.int .u64 0, .int .u64 0, .int .u64 0, .int .u64 0])] U fun e w' => ∃ v', e = .returned (.tuple #[v', .int .i64 6]) ∧ Tree w' v' TU ∧ Ext U w' := by
  have C := qCharge_w TU v ⟨#[120, 47]⟩ [0, 0, 0, 0] (okV_small ⟨by omega, by omega, by omega, by omega⟩) U (by decide) fitTU hx (by decide) (ht.ext h)
  rw [show eachT TU ⟨#[120, 47]⟩ (chgE [0, 0, 0, 0]) = (TU, 6) by kernel_rfl] at C
  exact C
set_option maxHeartbeats 8000000 in
set_option maxRecDepth 100000 in
theorem qexamples_w (w : World) (ht : Vars w) :
    Calls Tryz.prog 4 #[] w fun e w' => e = .returned (.bool true) ∧ Ext w w' := by
  have C1 : ∀ U, Calls Tryz.prog 24 #[(.agg #[.int .u64 5, .int .u64 5, .int .u64 5, .int .u64 5])] U fun e w' => ∃ v, e = .returned v ∧ Tree w' v T0 ∧ Ext U w' := fun U => qnew_w [5, 5, 5, 5] U
  have C8 : ∀ U v (_ : Tree U v TU), Calls Tryz.prog 14 #[v, (.string ⟨#[]⟩)] U fun e w' => e = .returned (.tuple #[.agg #[.string ⟨#[]⟩, .int .u64 5, .int .u64 5, .int .u64 5, .int .u64 5, .int .u64 3, .int .u64 2, .int .u64 0, .int .u64 0], .bool true]) ∧ Ext U w' := fun U v hx => by
    have C := qfind_w TU ⟨#[]⟩ v U (by decide) hx
    rw [show findQ TU ⟨#[]⟩ = ((⟨#[]⟩, [5, 5, 5, 5], [3, 2, 0, 0]), true) by kernel_rfl] at C
    exact C
  have C12 : ∀ U v (_ : Tree U v TU), Calls Tryz.prog 22 #[v] U fun e w' => e = .returned (.string ⟨(putQ TU).toArray⟩) ∧ Ext U w' := fun U v hx => qput_w TU v U (by decide) fitTU (by decide +kernel) hx
  have C13 : ∀ U (_ : Ext w U), Calls Tryz.prog 16 #[.string ⟨(putQ TU).toArray⟩, .int .i64 0] U fun e w' => ∃ v n, e = .returned (.tuple #[v, .int .i64 n, .bool true]) ∧ Tree w' v TU ∧ Ext U w' := fun U h => by
    have C := qget_w ⟨(putQ TU).toArray⟩ 0 U (by decide +kernel) (ht.ext h)
    rw [show getQ (⟨(putQ TU).toArray⟩ : ByteArray).data.toList 0 = (TU, 20, true) by decide +kernel] at C
    exact C.mono fun e w' ⟨v, h1, h2, h3⟩ => ⟨v, _, h1, h2, h3⟩
  have CR1 : ∀ U v (_ : Ext w U) (_ : Tree U v TU), Calls Tryz.prog 20 #[v] U fun e w' => e = .returned (.bool true) ∧ Ext U w' := fun U v h hx => by
    have C := qright_w TU v U (by decide) fitTU hx (ht.ext h)
    rw [show rightQ TU = true by kernel_rfl] at C
    exact C
  have CR2 : ∀ U (_ : Ext w U), Calls Tryz.prog 20 #[.slice none 0 0] U fun e w' => e = .returned (.bool false) ∧ Ext U w' := fun U h => by
    have C := qright_w [] (.slice none 0 0) U (by decide) FitT.nil (Tree.nil U) (ht.ext h)
    rw [show rightQ [] = false by kernel_rfl] at C
    exact C
  have CC : ∀ U v (_ : Ext w U) (_ : Tree U v TU), Calls Tryz.prog 18 #[v, (.string ⟨#[97]⟩), (.agg #[.int .u64 5, .int .u64 2, .int .u64 5, .int .u64 5])] U fun e w' => e = .returned (.bool true) ∧ Ext U w' := fun U v h hx => by
    have C := qcould_w TU v ⟨#[97]⟩ [5, 2, 5, 5] (okV_small ⟨by omega, by omega, by omega, by omega⟩) U (by decide) fitTU hx (by decide) (ht.ext h)
    rw [show couldT TU ⟨#[97]⟩ [5, 2, 5, 5] = true by kernel_rfl] at C
    exact C
  have hq : ∀ {x y : Vc} (_ : OkV x) (_ : OkV y) (U : World), (binOp .eql 25 (vVal x) (vVal y)).run Tryz.prog U = .ok (.bool (decide (x = y))) U := fun hx hy U => run_eql_vals Tryz.underlying25 Tryz.underlying23 (by kernel_rfl) hx hy U
  have oA : OkV [3, 2, 0, 0] := okV_small ⟨by omega, by omega, by omega, by omega⟩
  have oL : OkV [9, 2, 9, 9] := okV_small ⟨by omega, by omega, by omega, by omega⟩
  have q1 : ∀ U, (binOp .eql 25 (.agg #[.int .u64 3, .int .u64 2, .int .u64 0, .int .u64 0]) (.agg #[.int .u64 3, .int .u64 2, .int .u64 0, .int .u64 0])).run Tryz.prog U = .ok (.bool true) U := fun U => hq oA oA U
  have q2 : ∀ U, (binOp .eql 25 (.agg #[.int .u64 0, .int .u64 0, .int .u64 0, .int .u64 0]) (.agg #[.int .u64 0, .int .u64 0, .int .u64 0, .int .u64 0])).run Tryz.prog U = .ok (.bool true) U := fun U => hq okV_no okV_no U
  have q3 : ∀ U, (binOp .eql 38 (.agg #[.string ⟨#[97]⟩, .int .u64 9, .int .u64 2, .int .u64 9, .int .u64 9, .int .u64 3, .int .u64 2, .int .u64 0, .int .u64 0]) (.agg #[.string ⟨#[97]⟩, .int .u64 9, .int .u64 2, .int .u64 9, .int .u64 9, .int .u64 3, .int .u64 2, .int .u64 0, .int .u64 0])).run Tryz.prog U = .ok (.bool true) U := fun U =>
    (run_eql_entQ (eqEnt (a := (⟨#[97]⟩, [9, 2, 9, 9], [3, 2, 0, 0])) (b := (⟨#[97]⟩, [9, 2, 9, 9], [3, 2, 0, 0])) ⟨by decide, oL, oA⟩ ⟨by decide, oL, oA⟩ U)).trans (by rw [decide_eq_true rfl])
  clear hq oA oL
  have hcU : ∀ U p cap, Tree U (.slice p 2 cap) TU → ∃ b off, p = some ⟨b, off, none⟩ ∧ b < U.heap.size ∧ ∀ j, j < 9 → U.cell? ⟨b, off + 9 + j, none⟩ = (entOne (⟨#[97]⟩, [9, 2, 9, 9], [3, 2, 0, 0]))[j]? := fun U p cap h => Tree.at (xs := TU) h (k := 1) (by decide)
  have hc1 : ∀ U p cap, Tree U (.slice p 2 cap) T1 → ∃ b off, p = some ⟨b, off, none⟩ ∧ b < U.heap.size ∧ ∀ j, j < 9 → U.cell? ⟨b, off + 9 + j, none⟩ = (entOne (⟨#[97]⟩, [9, 2, 9, 9], noV))[j]? := fun U p cap h => Tree.at (xs := T1) h (k := 1) (by decide)
  have hc0 : ∀ U p cap, Tree U (.slice p 2 cap) T1 → ∃ b off, p = some ⟨b, off, none⟩ ∧ b < U.heap.size ∧ ∀ j, j < 9 → U.cell? ⟨b, off + j, none⟩ = (entOne (⟨#[]⟩, [5, 5, 5, 5], noV))[j]? := fun U p cap h => by
    obtain ⟨b, off, h1, h2, h3⟩ := Tree.at (xs := T1) h (k := 0) (by decide)
    exact ⟨b, off, h1, h2, fun j hj => by have := h3 j hj; rw [Nat.zero_mul, Nat.add_zero] at this; exact this⟩
  have shU : ∀ U v, Tree U v TU → ∃ p cap, v = .slice p 2 cap := fun U v h => by obtain ⟨p, cap, h1, _⟩ := h.shape; exact ⟨p, cap, h1⟩
  have sh1 : ∀ U v, Tree U v T1 → ∃ p cap, v = .slice p 2 cap := fun U v h => by obtain ⟨p, cap, h1, _⟩ := h.shape; exact ⟨p, cap, h1⟩
  replace C1 := Lib.hid C1
  replace C8 := Lib.hid C8
  replace C12 := Lib.hid C12
  replace C13 := Lib.hid C13
  replace CR1 := Lib.hid CR1
  replace CR2 := Lib.hid CR2
  replace CC := Lib.hid CC
  replace hcU := Lib.hid hcU
  replace hc1 := Lib.hid hc1
  replace hc0 := Lib.hid hc0
  replace shU := Lib.hid shU
  replace sh1 := Lib.hid sh1
  go_enter Tryz.func4, Tryz.ntmps4
  go_wp2_with fail
  refine (C1.out _).mono ?_; rintro e w1 ⟨v0, rfl, hx0, hb⟩
  go_wp2_with fail
  refine (exq_C2 w _ _ ht hb hx0).mono ?_; rintro e w2 ⟨v2, rfl, _, h2⟩
  replace hb := hb.trans h2
  replace hx0 := hx0.ext h2
  clear h2
  go_wp2_with fail
  refine (exq_C3 w _ _ ht hb hx0).mono ?_; rintro e w3 ⟨v3, rfl, _, h3⟩
  replace hb := hb.trans h3
  replace hx0 := hx0.ext h3
  clear h3
  go_wp2_with fail
  refine (exq_C4 w _ _ ht hb hx0).mono ?_; rintro e w4 ⟨v1, rfl, hx1, h4⟩
  replace hb := hb.trans h4
  clear h4 hx0
  go_wp2_with fail
  refine (exq_C5 w _ _ ht hb hx1).mono ?_; rintro e w5 ⟨vU, rfl, hxU, h5⟩
  replace hb := hb.trans h5
  clear h5 hx1
  go_wp2_with fail
  refine (exq_C6 w _ _ ht hb hxU).mono ?_; rintro e w6 ⟨v6, rfl, _, h6⟩
  replace hb := hb.trans h6
  replace hxU := hxU.ext h6
  clear h6
  go_wp2_with fail
  refine (exq_C7 w _ _ ht hb hxU).mono ?_; rintro e w7 ⟨v7, rfl, _, h7⟩
  replace hb := hb.trans h7
  replace hxU := hxU.ext h7
  clear h7
  go_wp2_with fail
  refine (C8.out _ _ hxU).mono ?_; rintro e w8 ⟨rfl, h8⟩
  have hB := (EBox.new w8 ⟨#[]⟩ (vG [5, 5, 5, 5]) (vG [3, 2, 0, 0]) 38)
  have h8b := h8.alloc (.cells #[.string ⟨#[]⟩, .int .u64 5, .int .u64 5, .int .u64 5, .int .u64 5, .int .u64 3, .int .u64 2, .int .u64 0, .int .u64 0] 38)
  change EBox w8.heap.size ⟨#[]⟩ (vG [5, 5, 5, 5]) (vG [3, 2, 0, 0]) (w8.alloc (.cells #[.string ⟨#[]⟩, .int .u64 5, .int .u64 5, .int .u64 5, .int .u64 5, .int .u64 3, .int .u64 2, .int .u64 0, .int .u64 0] 38)) at hB
  replace hb := Ext.trans hb h8b
  replace hxU := hxU.ext h8b
  clear h8 h8b
  go_wp2_with fail
  refine (exq_C9 w _ _ ht hb hxU).mono ?_; rintro e w9 ⟨v9, rfl, hx9, h9⟩
  replace hb := hb.trans h9
  replace hxU := hxU.ext h9
  replace hB := hB.ext h9
  clear h9
  go_wp2_with fail
  refine (exq_C10 w _ _ ht hb hxU).mono ?_; rintro e w10 ⟨v10, rfl, _, h10⟩
  replace hb := hb.trans h10
  replace hxU := hxU.ext h10
  replace hx9 := hx9.ext h10
  replace hB := hB.ext h10
  clear h10
  go_wp2_with fail
  refine (exq_C11 w _ _ ht hb hxU).mono ?_; rintro e w11 ⟨v11, rfl, _, h11⟩
  replace hb := hb.trans h11
  replace hxU := hxU.ext h11
  replace hx9 := hx9.ext h11
  replace hB := hB.ext h11
  clear h11
  go_wp2_with fail
  refine (C12.out _ _ hxU).mono ?_; rintro e w12 ⟨rfl, h12⟩
  replace hb := hb.trans h12
  replace hxU := hxU.ext h12
  replace hx9 := hx9.ext h12
  replace hB := hB.ext h12
  clear h12
  have C13b := C13.out w12 hb
  generalize (⟨(putQ TU).toArray⟩ : ByteArray) = pb at *
  go_wp2_with fail
  refine C13b.mono ?_; rintro e w13 ⟨v13, n13, rfl, hx13, h13⟩
  replace hb := hb.trans h13
  replace hxU := hxU.ext h13
  replace hx9 := hx9.ext h13
  replace hB := hB.ext h13
  clear h13 C13b C13 C12
  obtain ⟨pU, capU, rfl⟩ := shU.out _ _ hxU
  obtain ⟨p9, cap9, rfl⟩ := sh1.out _ _ hx9
  obtain ⟨p13, cap13, rfl⟩ := shU.out _ _ hx13
  obtain ⟨bU, oU, rfl, lU, cU⟩ := hcU.out _ _ _ hxU
  obtain ⟨b13, o13, rfl, l13, c13⟩ := hcU.out _ _ _ hx13
  obtain ⟨b9, o9, rfl, l9, c91⟩ := hc1.out _ _ _ hx9
  obtain ⟨b9', o9', h9e, _, c90⟩ := hc0.out _ _ _ hx9
  injection h9e with h9e; injection h9e with e1 e2
  subst e1 e2
  clear hx9 hx13 hcU hc1 hc0 shU sh1
  have CR1' := fun U h => CR1.out U _ (hb.trans h) (hxU.ext h)
  have CR2' := fun U h => CR2.out U (hb.trans h)
  have CC' := fun U h => CC.out U _ (hb.trans h) (hxU.ext h)
  replace CR1 := Lib.hid CR1'
  replace CR2 := Lib.hid CR2'
  replace CC := Lib.hid CC'
  clear CR1' CR2' CC' hxU
  have hT : ∀ n : Nat, Hid (∀ x, vG x n = vG x n) := fun n x => rfl
  clear hT
  have a0 := cU 0 (by omega)
  have a1 := cU 1 (by omega)
  have a2 := cU 2 (by omega)
  have a3 := cU 3 (by omega)
  have a4 := cU 4 (by omega)
  have a5 := cU 5 (by omega)
  have a6 := cU 6 (by omega)
  have a7 := cU 7 (by omega)
  have a8 := cU 8 (by omega)
  simp only [entOne, uAt, List.getElem?_cons_zero, List.getElem?_cons_succ, Nat.add_zero] at a0 a1 a2 a3 a4 a5 a6 a7 a8
  clear cU
  change World.cell? _ _ = some (.int .u64 9) at a1
  change World.cell? _ _ = some (.int .u64 2) at a2
  change World.cell? _ _ = some (.int .u64 9) at a3
  change World.cell? _ _ = some (.int .u64 9) at a4
  change World.cell? _ _ = some (.int .u64 3) at a5
  change World.cell? _ _ = some (.int .u64 2) at a6
  change World.cell? _ _ = some (.int .u64 0) at a7
  change World.cell? _ _ = some (.int .u64 0) at a8
  have b0 := c13 0 (by omega)
  have b1 := c13 1 (by omega)
  have b2 := c13 2 (by omega)
  have b3 := c13 3 (by omega)
  have b4 := c13 4 (by omega)
  have b5 := c13 5 (by omega)
  have b6 := c13 6 (by omega)
  have b7 := c13 7 (by omega)
  have b8 := c13 8 (by omega)
  simp only [entOne, uAt, List.getElem?_cons_zero, List.getElem?_cons_succ, Nat.add_zero] at b0 b1 b2 b3 b4 b5 b6 b7 b8
  clear c13
  change World.cell? _ _ = some (.int .u64 9) at b1
  change World.cell? _ _ = some (.int .u64 2) at b2
  change World.cell? _ _ = some (.int .u64 9) at b3
  change World.cell? _ _ = some (.int .u64 9) at b4
  change World.cell? _ _ = some (.int .u64 3) at b5
  change World.cell? _ _ = some (.int .u64 2) at b6
  change World.cell? _ _ = some (.int .u64 0) at b7
  change World.cell? _ _ = some (.int .u64 0) at b8
  have c0 := c91 0 (by omega)
  have c1 := c91 1 (by omega)
  have c2 := c91 2 (by omega)
  have c3 := c91 3 (by omega)
  have c4 := c91 4 (by omega)
  have c5 := c91 5 (by omega)
  have c6 := c91 6 (by omega)
  have c7 := c91 7 (by omega)
  have c8 := c91 8 (by omega)
  simp only [entOne, uAt, List.getElem?_cons_zero, List.getElem?_cons_succ, Nat.add_zero] at c0 c1 c2 c3 c4 c5 c6 c7 c8
  clear c91
  change World.cell? _ _ = some (.int .u64 9) at c1
  change World.cell? _ _ = some (.int .u64 2) at c2
  change World.cell? _ _ = some (.int .u64 9) at c3
  change World.cell? _ _ = some (.int .u64 9) at c4
  change World.cell? _ _ = some (.int .u64 0) at c5
  change World.cell? _ _ = some (.int .u64 0) at c6
  change World.cell? _ _ = some (.int .u64 0) at c7
  change World.cell? _ _ = some (.int .u64 0) at c8
  have d0 := c90 0 (by omega)
  have d1 := c90 1 (by omega)
  have d2 := c90 2 (by omega)
  have d3 := c90 3 (by omega)
  have d4 := c90 4 (by omega)
  have d5 := c90 5 (by omega)
  have d6 := c90 6 (by omega)
  have d7 := c90 7 (by omega)
  have d8 := c90 8 (by omega)
  simp only [entOne, uAt, List.getElem?_cons_zero, List.getElem?_cons_succ, Nat.add_zero] at d0 d1 d2 d3 d4 d5 d6 d7 d8
  clear c90
  change World.cell? _ _ = some (.int .u64 5) at d1
  change World.cell? _ _ = some (.int .u64 5) at d2
  change World.cell? _ _ = some (.int .u64 5) at d3
  change World.cell? _ _ = some (.int .u64 5) at d4
  change World.cell? _ _ = some (.int .u64 0) at d5
  change World.cell? _ _ = some (.int .u64 0) at d6
  change World.cell? _ _ = some (.int .u64 0) at d7
  change World.cell? _ _ = some (.int .u64 0) at d8
  obtain ⟨lB, f0, f1, f2, f3, f4, f5, f6, f7, f8, _, _, _, _, _, _, _, _, _⟩ := hB
  change World.cell? _ _ = some (.int .u64 3) at f5
  change World.cell? _ _ = some (.int .u64 2) at f6
  change World.cell? _ _ = some (.int .u64 0) at f7 f8
  go_wp2_with fail
  simp only [List.append_eq, List.cons_append, List.nil_append]
  refine Dm.wp_region_grow (by kernel_rfl) (by kernel_rfl) ?_
  repeat (go_big_quiet_step (first
    | (go_at_call 20; with_reducible exact Calls.quietE (CR1.out _ (ext_grow _ _)))
    | (go_at_call 20; with_reducible exact Calls.quietE (CR2.out _ (ext_grow _ _)))
    | (go_at_call 18; with_reducible exact Calls.quietE (CC.out _ (ext_grow _ _)))))
  refine wpQuiet_nil ?_
  intro w14 h14
  go_wp2
  go_ret
  exact ⟨rfl, hb.trans h14⟩
end Go.Proofs.YtopnllbfhhjobaaGreatDoor
