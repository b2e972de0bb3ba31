/- Chapter 13 in plain terms: slots, what fits them. No program in sight. -/
import Derived.Test.YtibimbcjnjefdaaVcPure
import Derived.Test.YtibimbcjnjefdaaSPure
namespace Go.Dm
open Go Go.RowKit

/-- A slot: its node, what is free, its labels as they lie. -/
abbrev SlotR := ByteArray × Vc × Value × List PairS
--PLAIN
def noSlot : SlotR := (⟨#[]⟩, noV, .slice none 0 0, [])
def slAt (l : List SlotR) (k : Nat) : SlotR := l.getD k noSlot
def setFree (s : SlotR) (v : Vc) : SlotR := (s.1, v, s.2.2)
def bestStep (f : SlotR → Bool) (d : Vc) (s : Option (Nat × Vc)) (k : Nat) (x : SlotR) : Option (Nat × Vc) :=
  if f x && vfits d x.2.1 then
    match s with
    | none => some (k, vsub x.2.1 d)
    | some (i, v) => if vord (vsub x.2.1 d) v < 0 then some (k, vsub x.2.1 d) else some (i, v)
  else s
/-- P13.2: of the first k slots that are let the one of which the least is left. -/
def bestF (f : SlotR → Bool) (d : Vc) (l : List SlotR) : Nat → Option (Nat × Vc)
  | 0 => none
  | k + 1 => bestStep f d (bestF f d l k) k (slAt l k)
def bestS (f : SlotR → Bool) (d : Vc) (l : List SlotR) : Option (Nat × Vc) := bestF f d l l.length
/-- P13.2: where so many copies stand. -/
def fitS (f : SlotR → Bool) (d : Vc) : Nat → List SlotR → Option (List ByteArray)
  | 0, _ => some []
  | n + 1, l => match bestS f d l with
    | none => none
    | some (i, v) => (fitS f d n (l.set i (setFree (slAt l i) v))).map ((slAt l i).1 :: ·)
/-- P13.1: for how many there is room. -/
def roomF (f : SlotR → Bool) (d : Vc) (m : Nat) : List SlotR → Nat
  | [] => 0
  | x :: l => (if f x then vholds x.2.1 d m else 0) + roomF f d m l
theorem roomF_cons (f : SlotR → Bool) (d : Vc) (m : Nat) (x : SlotR) (l : List SlotR) : roomF f d m (x :: l) = (if f x then vholds x.2.1 d m else 0) + roomF f d m l := rfl
def roomS (f : SlotR → Bool) (d : Vc) (m : Nat) (l : List SlotR) : Nat := min m (roomF f d m l)
def allS : SlotR → Bool := fun _ => true

theorem slAt_eq {l : List SlotR} {k : Nat} (h : k < l.length) : slAt l k = l[k] := by simp [slAt, h]
theorem slAt_mem {l : List SlotR} {k : Nat} (h : k < l.length) : slAt l k ∈ l := by rw [slAt_eq h]; exact List.getElem_mem h
theorem slAt_app {a b : List SlotR} {k : Nat} (h : k < a.length) : slAt (a ++ b) k = slAt a k := by
  rw [slAt_eq h, slAt_eq (by simp; omega), List.getElem_append_left h]
theorem slAt_mid {a b : List SlotR} {x : SlotR} : slAt (a ++ x :: b) a.length = x := by
  rw [slAt_eq (by simp)]; simp

/-- The best one of some. -/
theorem best_some {f d l} : ∀ {k i v}, bestF f d l k = some (i, v) → i < k ∧ f (slAt l i) = true ∧ vfits d (slAt l i).2.1 = true ∧ v = vsub (slAt l i).2.1 d
  | 0, i, v, h => by simp [bestF] at h
  | k + 1, i, v, h => by
    unfold bestF bestStep at h
    by_cases hc : (f (slAt l k) && vfits d (slAt l k).2.1) = true
    · rw [if_pos hc] at h
      rw [Bool.and_eq_true] at hc
      cases e : bestF f d l k with
      | none => rw [e] at h; simp at h; obtain ⟨rfl, rfl⟩ := h; exact ⟨by omega, hc.1, hc.2, rfl⟩
      | some q =>
        obtain ⟨i', v'⟩ := q
        rw [e] at h
        simp only at h
        split at h
        · simp at h; obtain ⟨rfl, rfl⟩ := h; exact ⟨by omega, hc.1, hc.2, rfl⟩
        · simp at h; obtain ⟨rfl, rfl⟩ := h
          have := best_some e
          exact ⟨by omega, this.2⟩
    · rw [if_neg hc] at h
      have := best_some h
      exact ⟨by omega, this.2⟩
theorem best_none {f d l} : ∀ {k}, bestF f d l k = none ↔ ∀ j, j < k → (f (slAt l j) && vfits d (slAt l j).2.1) = false
  | 0 => by simp [bestF]
  | k + 1 => by
    constructor
    · intro h j hj
      unfold bestF bestStep at h
      by_cases hc : (f (slAt l k) && vfits d (slAt l k).2.1) = true
      · rw [if_pos hc] at h
        cases e : bestF f d l k with
        | none => rw [e] at h; simp at h
        | some q => obtain ⟨i', v'⟩ := q; rw [e] at h; simp only at h; split at h <;> simp at h
      · rw [if_neg hc] at h
        rcases Nat.lt_succ_iff_lt_or_eq.1 hj with h' | rfl
        · exact best_none.1 h j h'
        · exact Bool.eq_false_iff.2 hc
    · intro h
      unfold bestF bestStep
      rw [if_neg (by rw [h k (by omega)]; simp)]
      exact best_none.2 fun j hj => h j (by omega)
theorem bestS_lt {f d l i v} (h : bestS f d l = some (i, v)) : i < l.length := (best_some h).1
theorem bestF_app {f d a b} : ∀ {k}, k ≤ a.length → bestF f d (a ++ b) k = bestF f d a k
  | 0, _ => rfl
  | k + 1, h => by unfold bestF; rw [bestF_app (by omega), slAt_app (by omega)]

/-- Among those that are let alone the best is the same one. -/
theorem best_filter {f d} : ∀ {l : List SlotR} {k : Nat}, k ≤ l.length →
    bestF allS d (l.filter f) ((l.take k).filter f).length = (bestF f d l k).map fun q => (((l.take q.1).filter f).length, q.2)
  | l, 0, _ => rfl
  | l, k + 1, h => by
    have ih := best_filter (f := f) (d := d) (l := l) (k := k) (by omega)
    have ht : l.take (k + 1) = l.take k ++ [slAt l k] := by rw [List.take_succ_eq_append_getElem (by omega), slAt_eq (by omega)]
    have hl : l = l.take k ++ slAt l k :: l.drop (k + 1) := by
      rw [slAt_eq (by omega)]
      simp
    rw [ht, List.filter_append]
    show _ = (bestStep f d (bestF f d l k) k (slAt l k)).map _
    cases hf : f (slAt l k) with
    | false =>
      rw [List.filter_cons_of_neg (by simp [hf]), List.filter_nil, List.append_nil, ih]
      unfold bestStep
      rw [hf]
      rfl
    | true =>
      rw [List.filter_cons_of_pos hf, List.filter_nil, List.length_append]
      show bestStep allS d (bestF allS d (l.filter f) ((l.take k).filter f).length) ((l.take k).filter f).length (slAt (l.filter f) ((l.take k).filter f).length) = _
      have he : slAt (l.filter f) ((l.take k).filter f).length = slAt l k := by
        conv => lhs; arg 1; rw [hl]
        rw [List.filter_append, List.filter_cons_of_pos hf]
        exact slAt_mid
      rw [he, ih]
      unfold bestStep
      rw [hf]
      simp only [allS, Bool.true_and]
      split
      · cases e : bestF f d l k with
        | none => rfl
        | some q =>
          obtain ⟨i, v⟩ := q
          simp only [Option.map_some]
          split <;> rfl
      · rfl

theorem bestS_filter {f d} (l : List SlotR) : bestS allS d (l.filter f) = (bestS f d l).map fun q => (((l.take q.1).filter f).length, q.2) := by
  have := best_filter (f := f) (d := d) (l := l) (Nat.le_refl _)
  rw [List.take_length] at this
  exact this
theorem filter_set {f : SlotR → Bool} {l : List SlotR} {i : Nat} {y : SlotR} (hi : i < l.length) (h : f (slAt l i) = true) (hy : f y = true) :
    (l.set i y).filter f = (l.filter f).set ((l.take i).filter f).length y ∧ slAt (l.filter f) ((l.take i).filter f).length = slAt l i := by
  have hl : l = l.take i ++ slAt l i :: l.drop (i + 1) := by
    rw [slAt_eq hi]; simp
  have e1 : l.filter f = (l.take i).filter f ++ slAt l i :: (l.drop (i + 1)).filter f := by
    conv => lhs; rw [hl]
    rw [List.filter_append, List.filter_cons_of_pos h]
  constructor
  · rw [e1, List.set_append_right _ _ (Nat.le_refl _), Nat.sub_self, List.set_cons_zero, List.set_eq_take_append_cons_drop, if_pos hi, List.filter_append, List.filter_cons_of_pos hy]
  · rw [e1]; exact slAt_mid
/-- A slot is let by its labels. -/
def LabF (f : SlotR → Bool) : Prop := ∀ s v, f (setFree s v) = f s
theorem fit_filter {f d} (hf : LabF f) : ∀ (n : Nat) (l : List SlotR), fitS allS d n (l.filter f) = fitS f d n l
  | 0, _ => rfl
  | n + 1, l => by
    unfold fitS
    rw [bestS_filter]
    cases e : bestS f d l with
    | none => rfl
    | some q =>
      obtain ⟨i, v⟩ := q
      have hb := best_some e
      have hs := filter_set (f := f) (y := setFree (slAt l i) v) hb.1 hb.2.1 (by rw [hf]; exact hb.2.1)
      simp only [Option.map_some]
      rw [hs.2, ← hs.1, fit_filter hf n]
theorem room_filter {f d m} : ∀ (l : List SlotR), roomF allS d m (l.filter f) = roomF f d m l
  | [] => rfl
  | x :: l => by
    have ih := room_filter (f := f) (d := d) (m := m) l
    cases h : f x with
    | false => rw [List.filter_cons_of_neg (by simp [h]), ih, roomF_cons, h]; simp
    | true =>
      rw [List.filter_cons_of_pos h, roomF_cons, roomF_cons, ih, h]
      rfl

/-- Each time so many as are asked for. -/
theorem fit_len {f d} : ∀ {n l a}, fitS f d n l = some a → a.length = n
  | 0, l, a, h => by simp [fitS] at h; subst h; rfl
  | n + 1, l, a, h => by
    unfold fitS at h
    cases e : bestS f d l with
    | none => rw [e] at h; simp at h
    | some q =>
      obtain ⟨i, v⟩ := q
      rw [e] at h
      simp only [Option.map_eq_some_iff] at h
      obtain ⟨b, hb, rfl⟩ := h
      rw [List.length_cons, fit_len hb]
/-- Fewer: the first of the same. -/
theorem fit_less {f d} : ∀ {n k l a}, k ≤ n → fitS f d n l = some a → fitS f d k l = some (a.take k)
  | _, 0, l, a, _, _ => by simp [fitS]
  | 0, k + 1, l, a, hk, _ => by omega
  | n + 1, k + 1, l, a, hk, h => by
    unfold fitS at h ⊢
    cases e : bestS f d l with
    | none => rw [e] at h; simp at h
    | some q =>
      obtain ⟨i, v⟩ := q
      rw [e] at h
      simp only [Option.map_eq_some_iff] at h
      obtain ⟨b, hb, rfl⟩ := h
      simp only
      rw [fit_less (by omega) hb]
      rfl
/-- One slot more, which none of it may use. -/
theorem fit_more {f d} {z : SlotR} (hz : vfits d z.2.1 = false) : ∀ (n : Nat) (l : List SlotR), fitS f d n (l ++ [z]) = fitS f d n l
  | 0, l => rfl
  | n + 1, l => by
    have hb : bestS f d (l ++ [z]) = bestS f d l := by
      unfold bestS
      rw [List.length_append]
      show bestStep f d (bestF f d (l ++ [z]) l.length) l.length (slAt (l ++ [z]) l.length) = _
      rw [bestF_app (Nat.le_refl _), slAt_mid]
      unfold bestStep
      rw [hz]
      simp
    unfold fitS
    rw [hb]
    cases e : bestS f d l with
    | none => rfl
    | some q =>
      obtain ⟨i, v⟩ := q
      have hi := bestS_lt e
      simp only
      rw [slAt_app hi, List.set_append_left _ _ hi, fit_more hz n]

theorem roomF_app {f d m} : ∀ (a b : List SlotR), roomF f d m (a ++ b) = roomF f d m a + roomF f d m b
  | [], b => by simp [roomF]
  | x :: a, b => by rw [List.cons_append, roomF_cons, roomF_cons, roomF_app a b]; omega
theorem roomF_less {f d m n} (h : m ≤ n) : ∀ (l : List SlotR), roomF f d m l ≤ roomF f d n l ∧ (roomF f d n l > roomF f d m l → m ≤ roomF f d m l)
  | [] => by simp [roomF]
  | x :: l => by
    have ih := roomF_less (f := f) (d := d) h l
    unfold roomF
    cases f x with
    | false => simpa using ih
    | true =>
      have := vholds_min x.2.1 d h
      simp only [if_true]
      omega
theorem split_at {l : List SlotR} {i : Nat} (hi : i < l.length) : l = l.take i ++ slAt l i :: l.drop (i + 1) := by
  rw [slAt_eq hi]; simp
/-- There is room for one more just if there is a best one, and, once it's taken, for the others. -/
theorem room_step {f d} (hf : LabF f) (m : Nat) (l : List SlotR) : (m + 1 ≤ roomF f d (m + 1) l) ↔ ∃ i v, bestS f d l = some (i, v) ∧ m ≤ roomF f d m (l.set i (setFree (slAt l i) v)) := by
  cases e : bestS f d l with
  | none =>
    have hz : ∀ l' : List SlotR, (∀ x ∈ l', (f x && vfits d x.2.1) = false) → roomF f d (m + 1) l' = 0 := by
      intro l'
      induction l' with
      | nil => intro _; rfl
      | cons x l' ih =>
        intro h
        unfold roomF
        rw [ih fun y hy => h y (List.mem_cons_of_mem _ hy)]
        have hx := h x (by simp)
        cases hfx : f x with
        | false => simp
        | true => rw [hfx, Bool.true_and] at hx; simp [vholds_zero _ hx]
    have := hz l fun x hx => by
      obtain ⟨j, hj, rfl⟩ := List.getElem_of_mem hx
      have := best_none.1 e j hj
      rwa [slAt_eq hj] at this
    rw [this]
    simp
  | some q =>
    obtain ⟨i, v⟩ := q
    obtain ⟨hi, h1, h2, h3⟩ := best_some e
    have hl := split_at hi
    have hs : l.set i (setFree (slAt l i) v) = l.take i ++ setFree (slAt l i) v :: l.drop (i + 1) := by
      rw [List.set_eq_take_append_cons_drop, if_pos hi]
    have e1 : roomF f d (m + 1) l = roomF f d (m + 1) (l.take i) + (vholds (slAt l i).2.1 d (m + 1) + roomF f d (m + 1) (l.drop (i + 1))) := by
      conv => lhs; rw [hl]
      rw [roomF_app]
      conv => lhs; arg 2; unfold roomF
      rw [h1]; rfl
    have e2 : roomF f d m (l.set i (setFree (slAt l i) v)) = roomF f d m (l.take i) + (vholds v d m + roomF f d m (l.drop (i + 1))) := by
      rw [hs, roomF_app]
      conv => lhs; arg 2; unfold roomF
      rw [hf, h1]; rfl
    have hst := vholds_step m h2
    rw [← h3] at hst
    have a1 := roomF_less (f := f) (d := d) (Nat.le_succ m) (l.take i)
    have a2 := roomF_less (f := f) (d := d) (Nat.le_succ m) (l.drop (i + 1))
    simp only [Nat.succ_eq_add_one] at a1 a2
    constructor
    · intro h
      refine ⟨i, v, rfl, ?_⟩
      rw [e2]
      omega
    · rintro ⟨i', v', hq, h⟩
      simp only [Option.some.injEq, Prod.mk.injEq] at hq
      obtain ⟨rfl, rfl⟩ := hq
      rw [e2] at h
      omega
/-- The seed's third theorem: there is a fit just if there is room for so many. -/
theorem fit_room {f d} (hf : LabF f) : ∀ (n : Nat) (l : List SlotR), (fitS f d n l).isSome = decide (n ≤ roomF f d n l)
  | 0, l => by simp [fitS]
  | n + 1, l => by
    have hr := room_step (d := d) hf n l
    unfold fitS
    cases e : bestS f d l with
    | none =>
      rw [e] at hr
      simp only [Option.isSome_none]
      symm
      rw [decide_eq_false_iff_not, hr]
      rintro ⟨i, v, h, _⟩
      cases h
    | some q =>
      obtain ⟨i, v⟩ := q
      rw [e] at hr
      simp only [Option.isSome_map]
      rw [fit_room hf n]
      apply decide_eq_decide.2
      rw [hr]
      constructor
      · intro h; exact ⟨i, v, rfl, h⟩
      · rintro ⟨i', v', h, h2⟩
        simp only [Option.some.injEq, Prod.mk.injEq] at h
        obtain ⟨rfl, rfl⟩ := h
        exact h2
theorem roomF_rev {f d m} : ∀ (l : List SlotR), roomF f d m l.reverse = roomF f d m l
  | [] => rfl
  | x :: l => by
    rw [List.reverse_cons, roomF_app, roomF_rev l, roomF_cons, roomF_cons]
    simp only [roomF]
    omega
--END
end Go.Dm
