/- Chapter 3: what the document's Number and Parse find, in plain terms. -/
import Derived.Test.YtibimbcjnjefdaaDoorVcParseP
namespace Go.Dm
open Go Go.RowKit

/-- The number that digits make, as it wraps. -/
def foldD (acc : Nat) (l : Bs) : Nat := l.foldl (fun a b => (a * 10 + (b.toNat - 48)) % 18446744073709551616) acc
theorem foldD_snoc (acc : Nat) (l : Bs) (b : UInt8) : foldD acc (l ++ [b]) = (foldD acc l * 10 + (b.toNat - 48)) % 18446744073709551616 := by
  unfold foldD; rw [List.foldl_append]; rfl
theorem foldD_u64 {acc : Nat} (h : U64 acc) (l : Bs) : U64 (foldD acc l) := by
  rcases List.eq_nil_or_concat l with rfl | ⟨l, b, rfl⟩
  · exact h
  · rw [List.concat_eq_append, foldD_snoc]; exact Nat.mod_lt _ (by omega)
theorem foldD_dec {u : Nat} : foldD 0 (Lib.decDigits u) = u % 18446744073709551616 := by
  induction u using Nat.strongRecOn with
  | _ u ih =>
    unfold Lib.decDigits
    split
    · rename_i h
      have e : (UInt8.ofNat (48 + u)).toNat = 48 + u := UInt8.toNat_ofNat_of_lt' (by show 48 + u < 256; omega)
      simp only [foldD, List.foldl, e]
      congr 1
      omega
    · rename_i h
      have e : (UInt8.ofNat (48 + u % 10)).toNat = 48 + u % 10 := UInt8.toNat_ofNat_of_lt' (by show 48 + u % 10 < 256; omega)
      rw [foldD_snoc, ih (u / 10) (by omega), e]
      omega
/-- The number whose digits these are. -/
def numV (s : Bs) : Nat × Bool := if Lib.decDigits (foldD 0 s) = s then (foldD 0 s, true) else (0, false)
theorem numV_dec {u : Nat} (h : U64 u) : numV (Lib.decDigits u) = (u, true) := by
  have h' : u < 18446744073709551616 := h
  unfold numV
  rw [foldD_dec, Nat.mod_eq_of_lt h', if_pos rfl]
theorem numV_yes {s : Bs} (h : (numV s).2 = true) : Lib.decDigits (numV s).1 = s ∧ U64 (numV s).1 := by
  unfold numV at h ⊢
  split
  · rename_i e; exact ⟨e, foldD_u64 (by unfold U64; omega) _⟩
  · rename_i e; rw [if_neg e] at h; cases h
theorem numV_off {s : Bs} (h : (numV s).2 = false) : numV s = (0, false) := by
  unfold numV at h ⊢
  split
  · rename_i e; rw [if_pos e] at h; cases h
  · rfl
theorem numV_bad {s : Bs} (h : ∀ u, U64 u → Lib.decDigits u ≠ s) : numV s = (0, false) := by
  unfold numV
  rw [if_neg (h _ (foldD_u64 (by unfold U64; omega) _))]
theorem numV_nil : numV [] = (0, false) := numV_bad fun _ _ => dec_ne
theorem numV_long {s : Bs} (h : 20 < s.length) : numV s = (0, false) := numV_bad fun u hu e => by
  have := dec_le hu
  rw [e] at this
  omega
theorem numV_odd {s : Bs} {b : UInt8} (hb : b ∈ s) (h : b.toNat < 48 ∨ 57 < b.toNat) : numV s = (0, false) := numV_bad fun u _ e => by
  rw [← e] at hb
  have := dec_digit b hb
  omega

/-- The document's Parse: pieces one by one. -/
def scanP : Bs → Bs → List Nat → Option (List Nat)
  | [], cur, ns => if (numV cur).2 = true ∧ ns.length < 4 then (if ns.length = 3 then some (ns ++ [(numV cur).1]) else none) else none
  | b :: l, cur, ns => if b = 58 then (if (numV cur).2 = true ∧ ns.length < 4 then scanP l [] (ns ++ [(numV cur).1]) else none) else scanP l (cur ++ [b]) ns
/-- Numerals, two dots between. -/
def joinD : List Nat → Bs
  | [] => []
  | [m] => Lib.decDigits m
  | m :: k :: ms => Lib.decDigits m ++ 58 :: joinD (k :: ms)
theorem joinD_text (a : Vc) (h : a.length = 4) : joinD a = textV a := by
  match a, h with
  | [x, y, z, u], _ => simp [joinD, textV, vG, Lib.join, List.intercalate]
theorem cut58 : ∀ {x x' r r' : Bs}, (58 : UInt8) ∉ x → (58 : UInt8) ∉ x' → x ++ 58 :: r = x' ++ 58 :: r' → x = x' ∧ r = r'
  | [], [], _, _, _, _, h => ⟨rfl, by simpa using h⟩
  | [], b :: x', _, _, _, h2, h => by simp at h; exact absurd h.1 (by intro e; exact h2 (by simp [e]))
  | b :: x, [], _, _, h1, _, h => by simp at h; exact absurd h.1 (by intro e; exact h1 (by simp [e]))
  | b :: x, c :: x', r, r', h1, h2, h => by
    simp at h
    obtain ⟨rfl, h⟩ := h
    obtain ⟨rfl, rfl⟩ := cut58 (fun e => h1 (by simp [e])) (fun e => h2 (by simp [e])) h
    exact ⟨rfl, rfl⟩
theorem joinD_ne {m : Nat} {ms : List Nat} (h : ms ≠ []) : joinD (m :: ms) = Lib.decDigits m ++ 58 :: joinD ms := by
  match ms, h with
  | k :: ms, _ => rfl
theorem scanP_yes : ∀ {l cur : Bs} {ns r : List Nat}, scanP l cur ns = some r → r.length = 4 ∧ ∃ ms, ms ≠ [] ∧ r = ns ++ ms ∧ (∀ m ∈ ms, U64 m) ∧ cur ++ l = joinD ms
  | [], cur, ns, r, h => by
    unfold scanP at h
    split at h
    · rename_i hn
      split at h
      · rename_i h3
        obtain ⟨h1, h2⟩ := numV_yes hn.1
        injection h with h
        subst h
        refine ⟨by simp [h3], [(numV cur).1], by simp, rfl, by simpa using h2, ?_⟩
        rw [List.append_nil]
        exact h1.symm
      · cases h
    · cases h
  | b :: l, cur, ns, r, h => by
    unfold scanP at h
    split at h
    · rename_i hb
      subst hb
      split at h
      · rename_i hn
        obtain ⟨h1, h2⟩ := numV_yes hn.1
        obtain ⟨hl, ms, hne, rfl, hms, he⟩ := scanP_yes h
        refine ⟨hl, (numV cur).1 :: ms, by simp, by simp, ?_, ?_⟩
        · intro m hm
          rcases List.mem_cons.1 hm with rfl | hm
          · exact h2
          · exact hms m hm
        · rw [joinD_ne hne, ← he, h1]
          simp
      · cases h
    · obtain ⟨hl, ms, hne, rfl, hms, he⟩ := scanP_yes h
      exact ⟨hl, ms, hne, rfl, hms, by rw [← he]; simp⟩
theorem scanP_made : ∀ {l cur : Bs} {ns ms : List Nat}, ms ≠ [] → (∀ m ∈ ms, U64 m) → (58 : UInt8) ∉ cur → cur ++ l = joinD ms → (ns ++ ms).length = 4 → scanP l cur ns = some (ns ++ ms)
  | [], cur, ns, ms, hne, hms, hc, he, hl => by
    rw [List.append_nil] at he
    match ms, hne with
    | [m], _ =>
      subst he
      have hn := numV_dec (hms m (by simp))
      simp only [joinD]
      unfold scanP
      rw [hn]
      simp at hl
      rw [if_pos ⟨rfl, by omega⟩, if_pos (by omega)]
    | m :: k :: ms, _ => exact absurd (by rw [he]; simp [joinD]) hc
  | b :: l, cur, ns, ms, hne, hms, hc, he, hl => by
    unfold scanP
    split
    · rename_i hb
      subst hb
      match ms, hne with
      | [m], _ =>
        exfalso
        have : (58 : UInt8) ∈ joinD [m] := by rw [← he]; simp
        exact dec_no58 this
      | m :: k :: ms, _ =>
        rw [joinD_ne (by simp)] at he
        obtain ⟨rfl, rfl⟩ := cut58 hc dec_no58 he
        have hn := numV_dec (hms m (by simp))
        rw [hn, if_pos ⟨rfl, by simp at hl; omega⟩]
        have := scanP_made (l := joinD (k :: ms)) (cur := []) (ns := ns ++ [m]) (ms := k :: ms) (by simp) (fun x hx => hms x (List.mem_cons_of_mem _ hx)) (by simp) (by simp) (by simp at hl ⊢; omega)
        rw [this]
        simp
    · rename_i hb
      refine scanP_made hne hms (fun h => ?_) (by rw [← he]; simp) hl
      rcases List.mem_append.1 h with h | h
      · exact hc h
      · exact hb (List.mem_singleton.1 h).symm
/-- What the document's Parse finds is what the program's does. -/
theorem scanP_parse (t : Bs) : parseV t = match scanP t [] [] with
    | some a => (a, true)
    | none => (noV, false) := by
  cases h : scanP t [] [] with
  | some a =>
    obtain ⟨hl, ms, hne, hr, hms, he⟩ := scanP_yes h
    rw [List.nil_append] at hr he
    rw [← hr] at he hms
    rw [joinD_text a hl] at he
    rw [he]
    refine parseV_text ⟨hl, fun k => ?_⟩
    rw [List.getD_eq_getElem?_getD]
    cases e : a[k]? with
    | none => show (0 : Nat) < _; omega
    | some x => exact hms x (List.mem_of_getElem? e)
  | none =>
    cases e : parseV t with
    | mk a b =>
      cases b with
      | true =>
        obtain ⟨h1, h2⟩ := parseV_yes e
        have := scanP_made (l := t) (cur := []) (ns := []) (ms := a) (by intro e; have := h2.len; rw [e] at this; cases this) (fun m hm => by
          obtain ⟨x, y, z, u, rfl, g1, g2, g3, g4⟩ := h2.ex
          simp at hm
          rcases hm with rfl | rfl | rfl | rfl <;> assumption) (by simp) (by rw [List.nil_append, joinD_text a h2.len, h1]) (by simpa using h2.len)
        rw [h] at this
        cases this
      | false => rw [(parseV_no e).1]
end Go.Dm
