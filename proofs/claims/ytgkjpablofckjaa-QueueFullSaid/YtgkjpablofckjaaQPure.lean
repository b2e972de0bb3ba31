/- Chapter 14 in plain terms: a queue as a list of pairs (number, priority); no program in sight. -/
import Derived.Test.YtgkjpablofckjaaBase
import Derived.Test.YtgkjpablofckjaaDraw
namespace Go.Dm
open Go Go.RowKit

abbrev Ent := Int × Int

/-- The entry at a place. -/
def ent (xs : List Ent) (k : Nat) : Ent := xs.getD k (0, 0)

def entCells (xs : List Ent) : List Value := xs.flatMap fun x => [.int .u64 x.1, .int .i64 x.2]

theorem entCells_len (xs : List Ent) : (entCells xs).length = xs.length * 2 := by
  induction xs with
  | nil => rfl
  | cons x xs ih => simp [entCells] at *; omega

theorem entCells_append (xs ys : List Ent) : entCells (xs ++ ys) = entCells xs ++ entCells ys := by simp [entCells]

theorem entCells_at : ∀ (xs : List Ent) (k : Nat), k < xs.length → (entCells xs)[k*2]? = some (.int .u64 (ent xs k).1) ∧ (entCells xs)[k*2+1]? = some (.int .i64 (ent xs k).2)
  | x :: xs, 0, _ => by simp [entCells, ent]
  | x :: xs, k+1, h => by
    have := entCells_at xs k (by simpa using h)
    have e : (k+1)*2 = k*2+1+1 := by omega
    have e2 : (k+1)*2+1 = k*2+1+1+1 := by omega
    simp only [e, entCells, ent, List.flatMap_cons, List.cons_append, List.nil_append, List.getElem?_cons_succ, List.getD_cons_succ]
    exact this

theorem entCells_take : ∀ (xs : List Ent) (k : Nat), (entCells xs).take (k * 2) = entCells (xs.take k)
  | [], k => by simp [entCells]
  | x :: xs, 0 => by simp [entCells]
  | x :: xs, k+1 => by
    have := entCells_take xs k
    have e : (k+1)*2 = k*2+1+1 := by omega
    simp only [e, entCells, List.flatMap_cons, List.cons_append, List.nil_append, List.take_succ_cons] at *
    rw [this]

theorem entCells_drop : ∀ (xs : List Ent) (k : Nat), (entCells xs).drop (k * 2) = entCells (xs.drop k)
  | [], k => by simp [entCells]
  | x :: xs, 0 => by simp [entCells]
  | x :: xs, k+1 => by
    have := entCells_drop xs k
    have e : (k+1)*2 = k*2+1+1 := by omega
    simp only [e, entCells, List.flatMap_cons, List.cons_append, List.nil_append, List.drop_succ_cons] at *
    exact this

theorem entCells_one (xs : List Ent) : ∀ u ∈ entCells xs, u.oneCell' = true := by
  intro u hu
  simp only [entCells, List.mem_flatMap] at hu
  obtain ⟨x, _, hx⟩ := hu
  simp at hx
  rcases hx with rfl | rfl <;> rfl

def Ents (w : World) (v : Value) (xs : List Ent) : Prop := Sl w 2 v xs.length (entCells xs)

theorem Ents.ext {w w' : World} {v xs} (h : Ents w v xs) (hb : Ext w w') : Ents w' v xs := Sl.ext h hb

theorem Ents.of_row {w : World} {B e : Nat} {v : Value} {n : Nat} {cs : List Value} {xs : List Ent} (h : w.ownsRow B e 2 v n cs) (hn : n = xs.length) (hc : cs = entCells xs) : Ents w v xs := by
  subst hn hc
  exact Sl.of_owns h

theorem entCells_cons (x : Ent) (xs : List Ent) : entCells (x :: xs) = [.int .u64 x.1, .int .i64 x.2] ++ entCells xs := rfl

theorem Ents.shape {w : World} {v xs} (h : Ents w v xs) : ∃ p cap, v = .slice p xs.length cap ∧ xs.length ≤ cap ∧ cap ≤ maxLen := by
  obtain ⟨p, cap, h1, h2, h3, _⟩ := Sl.shape h
  exact ⟨p, cap, h1, h2, h3⟩

theorem Ents.at {w : World} {xs : List Ent} {p cap} (h : Ents w (.slice p xs.length cap) xs) {k : Nat} (hk : k < xs.length) :
    ∃ b off, p = some ⟨b, off, none⟩ ∧ b < w.heap.size ∧ w.cell? ⟨b, off + k*2, none⟩ = some (.int .u64 (ent xs k).1) ∧ w.cell? ⟨b, off + k*2 + 1, none⟩ = some (.int .i64 (ent xs k).2) := by
  obtain ⟨b, off, hp, hb, h⟩ := Sl.at h (by omega)
  have := entCells_at xs k hk
  exact ⟨b, off, hp, hb, h _ _ this.1, by have := h _ _ this.2; rw [show off + (k*2+1) = off + k*2+1 by omega] at this; exact this⟩

theorem Ents.cells {w : World} {xs : List Ent} {b off cap} (h : Ents w (.slice (some ⟨b, off, none⟩) xs.length cap) xs) {k : Nat} (hk : k < xs.length) :
    b < w.heap.size ∧ w.cell? ⟨b, off + k*2, none⟩ = some (.int .u64 (ent xs k).1) ∧ w.cell? ⟨b, off + k*2 + 1, none⟩ = some (.int .i64 (ent xs k).2) := by
  obtain ⟨b', off', hp, h⟩ := h.at hk
  injection hp with hp
  injection hp with e1 e2
  subst e1 e2
  exact h

/-- P14.1: who comes first. -/
def aheadB (x y : Ent) : Bool := decide (y.2 < x.2) || (x.2 == y.2 && decide (x.1 < y.1))

/-- P14.2: where a number stands, from place k on. -/
def idxOf (id : Int) : List Ent → Option Nat
  | [] => none
  | x :: xs => if x.1 == id then some 0 else (idxOf id xs).map (· + 1)

def optI (o : Option Nat) : Int := match o with | some k => k | none => -1

theorem optI_neg {o : Option Nat} (h : optI o < 0) : o = none := by
  cases o with
  | none => rfl
  | some k => simp only [optI] at h; omega
theorem optI_pos {o : Option Nat} (h : 0 ≤ optI o) : ∃ k, o = some k := by
  cases o with
  | none => simp only [optI] at h; omega
  | some k => exact ⟨k, rfl⟩

theorem idxOf_hit {id : Int} : ∀ {xs : List Ent} {k : Nat}, k < xs.length → (∀ j, j < k → ((ent xs j).1 == id) = false) → ((ent xs k).1 == id) = true → idxOf id xs = some k
  | x :: xs, 0, _, _, h1 => by simp [ent] at h1; simp [idxOf, h1]
  | x :: xs, k+1, hk, h0, h1 => by
    have hx : (x.1 == id) = false := h0 0 (by omega)
    have := idxOf_hit (xs := xs) (k := k) (by simpa using hk) (fun j hj => h0 (j+1) (by omega)) h1
    simp [idxOf, hx, this]

theorem idxOf_miss {id : Int} : ∀ {xs : List Ent}, (∀ j, j < xs.length → ((ent xs j).1 == id) = false) → idxOf id xs = none
  | [], _ => rfl
  | x :: xs, h => by
    have hx : (x.1 == id) = false := h 0 (by simp)
    have := idxOf_miss (xs := xs) (fun j hj => h (j+1) (by simpa using hj))
    simp [idxOf, hx, this]

theorem idxOf_lt {id : Int} : ∀ {xs : List Ent} {k : Nat}, idxOf id xs = some k → k < xs.length
  | x :: xs, k, h => by
    unfold idxOf at h
    split at h
    · injection h with h; subst h; simp
    · cases hi : idxOf id xs with
      | none => simp [hi] at h
      | some j => simp [hi] at h; have := idxOf_lt hi; simp; omega

/-- Where an entry comes to stand. -/
def placeF (e : Ent) : List Ent → Nat
  | [] => 0
  | x :: xs => if aheadB e x then 0 else placeF e xs + 1

theorem placeF_hit {e : Ent} : ∀ {xs : List Ent} {k : Nat}, k < xs.length → (∀ j, j < k → aheadB e (ent xs j) = false) → aheadB e (ent xs k) = true → placeF e xs = k
  | x :: xs, 0, _, _, h1 => by simp [ent] at h1; simp [placeF, h1]
  | x :: xs, k+1, hk, h0, h1 => by
    have hx : aheadB e x = false := h0 0 (by omega)
    have := placeF_hit (xs := xs) (k := k) (by simpa using hk) (fun j hj => h0 (j+1) (by omega)) h1
    simp [placeF, hx, this]

theorem placeF_miss {e : Ent} : ∀ {xs : List Ent}, (∀ j, j < xs.length → aheadB e (ent xs j) = false) → placeF e xs = xs.length
  | [], _ => rfl
  | x :: xs, h => by
    have hx : aheadB e x = false := h 0 (by simp)
    have := placeF_miss (xs := xs) (fun j hj => h (j+1) (by simpa using hj))
    simp [placeF, hx, this]

theorem placeF_le (e : Ent) : ∀ (xs : List Ent), placeF e xs ≤ xs.length
  | [] => by simp [placeF]
  | x :: xs => by
    unfold placeF
    have := placeF_le e xs
    split <;> simp <;> omega

def wrongB (e : Ent) : Bool := decide (e.2 < 0) || decide (9 < e.2)

/-- P14.1: who comes. -/
def pushF (q : List Ent) (e : Ent) : List Ent × Int :=
  if wrongB e then (q, 1) else if (idxOf e.1 q).isSome then (q, 8) else if 32 ≤ q.length then (q, 9)
  else (q.take (placeF e q) ++ e :: q.drop (placeF e q), 0)

theorem wrongB_no {e : Ent} (h0 : 0 ≤ e.2) (h9 : e.2 ≤ 9) : wrongB e = false := by simp [wrongB]; omega
theorem wrongB_low {e : Ent} (h0 : e.2 < 0) : wrongB e = true := by simp [wrongB, h0]
theorem wrongB_high {e : Ent} (h0 : 9 < e.2) : wrongB e = true := by simp [wrongB, h0]
theorem pushF_arg {q : List Ent} {e : Ent} (h : wrongB e = true) : pushF q e = (q, 1) := by simp [pushF, h]
theorem pushF_twice {q : List Ent} {e : Ent} {k : Nat} (h : wrongB e = false) (hk : idxOf e.1 q = some k) : pushF q e = (q, 8) := by simp [pushF, h, hk]
theorem pushF_full {q : List Ent} {e : Ent} (h : wrongB e = false) (hk : idxOf e.1 q = none) (hl : 32 ≤ q.length) : pushF q e = (q, 9) := by simp [pushF, h, hk, hl]
theorem pushF_ok {q : List Ent} {e : Ent} (h : wrongB e = false) (hk : idxOf e.1 q = none) (hl : q.length < 32) :
    pushF q e = (q.take (placeF e q) ++ e :: q.drop (placeF e q), 0) := by
  have : ¬ 32 ≤ q.length := by omega
  simp [pushF, h, hk, this]

/-- P14.2: who goes. -/
def takeF (q : List Ent) (id : Int) : List Ent × Bool :=
  match idxOf id q with
  | none => (q, false)
  | some k => (q.take k ++ q.drop (k + 1), true)

def okAt (q : List Ent) (k : Nat) : Bool :=
  !(wrongB (ent q k)) && (idxOf (ent q k).1 q == some k) && (k == 0 || aheadB (ent q (k-1)) (ent q k))

/-- P14.3: may a queue be? -/
def rightB (q : List Ent) : Bool := (List.range q.length).all (okAt q) && decide (q.length ≤ 32)

end Go.Dm
