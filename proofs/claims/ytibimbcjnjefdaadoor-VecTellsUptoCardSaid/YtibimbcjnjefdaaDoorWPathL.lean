/- Chapter 2, the plain laws of paths: names with slashes between. No program in sight. -/
import Derived.Test.YtibimbcjnjefdaaDoorTexts
namespace Go.Dm
open Go Go.RowKit

/-- Names with slashes between. -/
def joinP (ns : List Bs) : Bs := Lib.join ns [47]

theorem joinP_one (p : Bs) : joinP [p] = p := Lib.join_one p [47]
theorem joinP_cons (p : Bs) {q : Bs} {ns : List Bs} : joinP (p :: q :: ns) = p ++ 47 :: joinP (q :: ns) := by
  simp [joinP, Lib.join_cons, Lib.joinTail]

/-- A name: no slash in it. -/
structure Name (p : Bs) : Prop where
  right : rightL p = true
  plain : (47 : UInt8) ∉ p

theorem splitL_joinP : ∀ {ns : List Bs}, ns ≠ [] → (∀ p ∈ ns, (47 : UInt8) ∉ p) → splitL (joinP ns) = ns
  | [p], _, h => by rw [joinP_one, splitL_none (h p (by simp))]
  | p :: q :: ns, _, h => by
    rw [joinP_cons, splitL_at (h p (by simp)), splitL_joinP (by simp) (fun x hx => h x (List.mem_cons_of_mem _ hx))]

theorem splitL_joinP_at : ∀ {ns : List Bs} (r : Bs), ns ≠ [] → (∀ p ∈ ns, (47 : UInt8) ∉ p) → splitL (joinP ns ++ 47 :: r) = ns ++ splitL r
  | [p], r, _, h => by rw [joinP_one, splitL_at (h p (by simp))]; rfl
  | p :: q :: ns, r, _, h => by
    rw [joinP_cons, List.append_assoc, List.cons_append, splitL_at (h p (by simp)), splitL_joinP_at r (by simp) (fun x hx => h x (List.mem_cons_of_mem _ hx))]
    rfl

theorem right_nil : rightL [] = false := rfl

theorem partsL_some {l : Bs} (h1 : (splitL l).length ≤ 3) (h2 : ∀ p ∈ splitL l, rightL p = true) : partsL l = splitL l := by
  unfold partsL
  rw [if_neg]
  intro h
  rcases h with h | h
  · omega
  · obtain ⟨p, hp, hb⟩ := List.any_eq_true.1 h
    rw [h2 p hp] at hb
    cases hb

theorem partsL_wrong {l : Bs} {p : Bs} (h : p ∈ splitL l) (hp : rightL p = false) : partsL l = [] := by
  unfold partsL
  rw [if_pos]
  right
  exact List.any_eq_true.2 ⟨p, h, by rw [hp]; rfl⟩

theorem partsL_long {l : Bs} (h : 3 < (splitL l).length) : partsL l = [] := by
  unfold partsL
  rw [if_pos (Or.inl h)]

/-- A path's parts. -/
theorem partsL_joinP {ns : List Bs} (h3 : ns.length ≤ 3) (h : ∀ p ∈ ns, Name p) : partsL (joinP ns) = ns := by
  cases ns with
  | nil => rfl
  | cons p ns =>
    have hs := splitL_joinP (ns := p :: ns) (by simp) (fun x hx => (h x hx).plain)
    rw [partsL_some (by rw [hs]; exact h3) (by rw [hs]; exact fun x hx => (h x hx).right), hs]

theorem upsL_joinP {ns : List Bs} (h3 : ns.length ≤ 3) (h : ∀ p ∈ ns, Name p) : upsL (joinP ns) = (List.range ns.length).map fun k => joinP (ns.take (k + 1)) := by
  unfold upsL
  rw [partsL_joinP h3 h]
  rfl

/-- A slash too much behind. -/
theorem partsL_behind {ns : List Bs} (h : ∀ p ∈ ns, Name p) : partsL (joinP ns ++ [47]) = [] := by
  cases ns with
  | nil => rfl
  | cons p ns =>
    have hs := splitL_joinP_at (ns := p :: ns) [] (by simp) (fun x hx => (h x hx).plain)
    exact partsL_wrong (p := []) (by rw [hs]; simp [splitL]) right_nil

/-- A slash too much ahead. -/
theorem partsL_ahead (l : Bs) : partsL (47 :: l) = [] := by
  have hs := splitL_at (p := []) (l := l) (by simp)
  exact partsL_wrong (p := []) (by rw [show (47 : UInt8) :: l = [] ++ 47 :: l from rfl, hs]; simp) right_nil

/-- One name more. -/
theorem partsL_more {ns : List Bs} (h1 : 1 ≤ ns.length) (h3 : ns.length ≤ 3) (h : ∀ p ∈ ns, Name p) : (partsL (joinP ns ++ [47, 120])).length = if ns.length < 3 then ns.length + 1 else 0 := by
  have hne : ns ≠ [] := by intro e; rw [e] at h1; simp at h1
  have hs := splitL_joinP_at (ns := ns) [120] hne (fun x hx => (h x hx).plain)
  rw [splitL_none (l := [120]) (by decide)] at hs
  split
  · rw [partsL_some (by rw [hs]; simp; omega) (by
      rw [hs]
      intro x hx
      rcases List.mem_append.1 hx with hx | hx
      · exact (h x hx).right
      · rw [List.mem_singleton.1 hx]; decide), hs]
    simp
  · rw [partsL_long (by rw [hs]; simp; omega)]
    rfl

theorem joinP_snoc {ns : List Bs} (p : Bs) (h : ns ≠ []) : joinP (ns ++ [p]) = joinP ns ++ 47 :: p := by
  induction ns with
  | nil => exact absurd rfl h
  | cons q ns ih =>
    cases ns with
    | nil => rw [joinP_one]; exact (joinP_cons q).trans (by rw [joinP_one])
    | cons r ns =>
      have := ih (by simp)
      rw [List.cons_append, List.cons_append, joinP_cons, joinP_cons, ← List.cons_append, this]
      simp

def nameAt (N : List Bs) (k : Nat) : Bs := N.getD k []
theorem joinP_len : ∀ {ns : List Bs}, (∀ p ∈ ns, p.length ≤ 31) → (joinP ns).length ≤ 32 * ns.length
  | [], _ => by simp [joinP, Lib.join_nil]
  | [p], h => by rw [joinP_one]; have := h p (by simp); simp; omega
  | p :: q :: ns, h => by
    have h1 := h p (by simp)
    have h2 := joinP_len (ns := q :: ns) (fun x hx => h x (List.mem_cons_of_mem _ hx))
    rw [joinP_cons]
    simp only [List.length_append, List.length_cons] at *
    omega

theorem take_snocB {N : List Bs} {k : Nat} (hk : k < N.length) : N.take (k + 1) = N.take k ++ [nameAt N k] := by
  rw [List.take_succ_eq_append_getElem hk]
  simp [hk, nameAt]

theorem joinP_step0 {N : List Bs} (hk : 0 < N.length) : joinP (N.take 1) = nameAt N 0 := by
  rw [take_snocB hk, List.take_zero, List.nil_append, joinP_one]

theorem joinP_step {N : List Bs} {k : Nat} (h0 : 0 < k) (hk : k < N.length) : joinP (N.take (k + 1)) = joinP (N.take k) ++ 47 :: nameAt N k := by
  rw [take_snocB hk, joinP_snoc]
  intro h
  have : min k N.length = 0 := by simpa [List.length_take] using congrArg List.length h
  omega

theorem upB_bytes' (P : List Bs) (k : Nat) : bytesOf ((List.range k).map (upB P)) = (List.range k).map fun k => joinP (P.take (k + 1)) := by
  simp [bytesOf, upB, joinP, List.map_map, Function.comp_def]
theorem upB_def {P : List Bs} {k : Nat} {x : ByteArray} (h : x.data.toList = joinP (P.take (k + 1))) : x = upB P k := mk_bytes h

theorem joinP_parts_len (l : Bs) (k : Nat) : (joinP ((partsL l).take k)).length ≤ l.length := parts_join_len l k

theorem byte_plain {t : ByteArray} (h : (47 : UInt8) ∉ t.data.toList) {j : Nat} (hj : j < t.size) : ((t[j].toNat : Int) == 47) = false := by
  rw [beq_eq_false_iff_ne]
  intro e
  apply h
  have e2 : t[j] = 47 := UInt8.toNat_inj.1 (by simpa using Int.ofNat_inj.1 e)
  rw [← e2]
  exact Array.getElem_mem_toList _

theorem strAt_bytes {ss : List ByteArray} {N : List Bs} (h : bytesOf ss = N) {k : Nat} (hk : k < ss.length) : (strAt ss k).data.toList = nameAt N k := by
  subst h
  simp [nameAt, bytesOf, strAt, hk]
theorem nameAt_mem {N : List Bs} {k : Nat} (hk : k < N.length) : nameAt N k ∈ N := by
  simp only [nameAt, List.getD_eq_getElem?_getD, List.getElem?_eq_getElem hk, Option.getD_some]
  exact List.getElem_mem hk

end Go.Dm
