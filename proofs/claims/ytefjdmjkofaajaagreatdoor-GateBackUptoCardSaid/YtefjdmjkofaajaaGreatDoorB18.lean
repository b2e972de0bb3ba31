/- Texts one behind the other: Texts: slices of strings; a text cut at its slashes, and joined. No program in sight; Chapter 1 in plain terms: numbers and texts as bytes. No program in sight; Chapter 2, the plain laws of paths: names with slashes between. No program in sight; Chapter 2, plain laws: what it is to be under; names hold no slash. No program in sight; Chapter 4 in plain terms: labels. No program in sight; A text cut at a byte: the library's Split and Cut, in plain terms. No program in sight; Chapter 1 in plain terms: the number that stands at a place. No program in sight; Chapter 1 in plain terms: the document's way to get a number. No program in sight; Chapter 2, the document's answer in plain terms: how long the first rune is, and what it is. No program in sight; Chapter 3 in plain terms: amounts of four kinds. No program in sight; Two amounts are compared. No program in sight. -/
import Derived.Test.YtefjdmjkofaajaaGreatDoorWPure
import Derived.Test.YtefjdmjkofaajaaGreatDoorB5
import Derived.Lib.Split
import Derived.Laws.IdiomStrings
import Derived.Test.YtefjdmjkofaajaaGreatDoorB2
import Derived.Laws.Bits64b
import Derived.Laws.BitsAllLaws
import Derived.ChangeKeysEq
namespace Go.Dm
open Go Go.RowKit

/-- A slice value reads as these strings. -/
def Strs (w : World) (v : Value) (ss : List ByteArray) : Prop := Sl w 1 v ss.length (ss.map .string)
def strAt (ss : List ByteArray) (k : Nat) : ByteArray := ss.getD k ByteArray.empty
/-- Their bytes. -/
def bytesOf (ss : List ByteArray) : List Bs := ss.map (·.data.toList)

theorem Strs.ext {w w' : World} {v ss} (h : Strs w v ss) (hb : Ext w w') : Strs w' v ss := Sl.ext h hb
theorem Strs.nil (w : World) : Strs w (.slice none 0 0) [] := Sl.nil w 1
theorem Strs.shape {w : World} {v ss} (h : Strs w v ss) : ∃ p cap, v = .slice p ss.length cap ∧ ss.length ≤ cap ∧ cap ≤ maxLen := by
 obtain ⟨p, cap, h1, h2, h3, _⟩ := Sl.shape h
 exact ⟨p, cap, h1, h2, h3⟩
theorem Strs.at {w : World} {ss : List ByteArray} {p cap} (h : Strs w (.slice p ss.length cap) ss) {k : Nat} (hk : k < ss.length) :
  ∃ b off, p = some ⟨b, off, none⟩ ∧ b < w.heap.size ∧ w.cell? ⟨b, off + k, none⟩ = some (.string (strAt ss k)) := by
 obtain ⟨b, off, hp, hb, h⟩ := Sl.at h (by omega)
 exact ⟨b, off, hp, hb, h k _ (by simp [strAt, hk])⟩
theorem Strs.cells {w : World} {ss : List ByteArray} {b off cap} (h : Strs w (.slice (some ⟨b, off, none⟩) ss.length cap) ss) {k : Nat} (hk : k < ss.length) :
  b < w.heap.size ∧ w.cell? ⟨b, off + k, none⟩ = some (.string (strAt ss k)) := by
 obtain ⟨b', off', hp, h⟩ := h.at hk
 injection hp with hp
 injection hp with e1 e2
 subst e1 e2
 exact h

theorem mem_splitL_len : ∀ {l : Bs} {p : Bs}, p ∈ splitL l → p.length ≤ l.length
 | [], p, h => by simp [splitL] at h; simp [h]
 | c :: l, p, h => by
  unfold splitL at h
  split at h
  ·rcases List.mem_cons.1 h with rfl | h
   ·simp
   ·have := mem_splitL_len h; simp; omega
  ·split at h
   ·simp at h; simp [h]
   ·rename_i q qs he
    rcases List.mem_cons.1 h with rfl | h
    ·have := mem_splitL_len (l := l) (p := q) (by rw [he]; simp)
     simp; omega
    ·have := mem_splitL_len (l := l) (p := p) (by rw [he]; exact List.mem_cons_of_mem _ h)
     simp; omega

/-- The library's pieces. -/
theorem splitB_bytes (s : ByteArray) : bytesOf (Lib.splitB ⟨#[47]⟩ 0 (Lib.countB s ⟨#[47]⟩) s) = splitL s.data.toList := by
 unfold bytesOf
 rw [Lib.splitB_data]
 show Lib.splitK [47] 0 (Lib.count s.data.toList [47]) s.data.toList = _
 rw [Lib.count_one]
 exact splitK_eq _ _ (Nat.le_refl _)

/-- A slice value reads as texts of these bytes. -/
def Texts (w : World) (v : Value) (L : List Bs) : Prop := ∃ ss, Strs w v ss ∧ bytesOf ss = L
theorem Texts.ext {w w' : World} {v L} (h : Texts w v L) (hb : Ext w w') : Texts w' v L := by
 obtain ⟨ss, h1, h2⟩ := h
 exact ⟨ss, h1.ext hb, h2⟩
theorem Texts.nil (w : World) : Texts w (.slice none 0 0) [] := ⟨[], Strs.nil w, rfl⟩

theorem strAt_mem {ss : List ByteArray} {k : Nat} (h : k < ss.length) : strAt ss k ∈ ss := by
 simp only [strAt, List.getD_eq_getElem?_getD, List.getElem?_eq_getElem h, Option.getD_some]
 exact List.getElem_mem h


theorem joinTail_len (sep : Bs) : ∀ (xs : List Bs) (k : Nat), (Lib.joinTail sep (xs.take k)).length ≤ (Lib.joinTail sep xs).length
 | [], k => by simp [Lib.joinTail]
 | x :: xs, 0 => by simp [Lib.joinTail]
 | x :: xs, k + 1 => by
  have := joinTail_len sep xs k
  simp only [Lib.joinTail, List.take_succ_cons, List.map_cons, List.flatten_cons, List.length_append] at *
  omega

theorem join_take_len (sep : Bs) (xs : List Bs) (k : Nat) : (Lib.join (xs.take k) sep).length ≤ (Lib.join xs sep).length := by
 cases xs with
 | nil => simp
 | cons x xs =>
  cases k with
  | zero => simp [Lib.join_nil]
  | succ k =>
   have := joinTail_len sep xs k
   rw [List.take_succ_cons, Lib.join_cons, Lib.join_cons]
   simp only [List.length_append]
   omega

/-- A text is its pieces, slashes between. -/
theorem join_splitL : ∀ l : Bs, Lib.join (splitL l) [47] = l := by
 intro l
 induction h : l.length using Nat.strongRecOn generalizing l with
 | ind n ih =>
  rcases cut_at l with hn | ⟨p, r, h1, rfl⟩
  ·rw [splitL_none hn, Lib.join_one]
  ·rw [splitL_at h1, Lib.join_cons]
   simp only [List.length_append, List.length_cons] at h
   have := ih r.length (by omega) r rfl
   cases hs : splitL r with
   | nil => exact absurd hs (splitL_ne r)
   | cons q qs =>
    rw [hs, Lib.join_cons] at this
    simp only [Lib.joinTail, List.map_cons, List.flatten_cons, List.cons_append, List.nil_append] at *
    rw [this]

theorem partsL_cases (l : Bs) : partsL l = [] ∨ partsL l = splitL l := by
 unfold partsL
 split
 ·exact Or.inl rfl
 ·exact Or.inr rfl

theorem parts_join_len (l : Bs) (k : Nat) : (Lib.join ((partsL l).take k) [47]).length ≤ l.length := by
 have h1 := join_take_len [47] (partsL l) k
 rcases partsL_cases l with h | h
 ·rw [h] at h1 ⊢
  simp [Lib.join_nil] at h1 ⊢
 ·rw [h] at h1 ⊢
  rw [join_splitL] at h1
  exact h1

theorem partsL_three (l : Bs) : (partsL l).length ≤ 3 := by
 unfold partsL
 split
 ·simp
 ·rename_i h; omega

/-- The text of so many of a path's names. -/
def upB (P : List Bs) (j : Nat) : ByteArray := ⟨(Lib.join (P.take (j + 1)) [47]).toArray⟩

theorem upB_bytes (l : Bs) (k : Nat) : bytesOf ((List.range k).map (upB (partsL l))) = ((List.range k).map fun k => Lib.join ((partsL l).take (k + 1)) [47]) := by
 simp [bytesOf, upB, List.map_map, Function.comp_def]

theorem range_snoc_map {α : Type} (f : Nat → α) (k : Nat) : (List.range (k + 1)).map f = (List.range k).map f ++ [f k] := by
 rw [List.range_succ, List.map_append]; rfl

theorem Strs.of_row {w : World} {B e : Nat} {v : Value} {n : Nat} {ss : List ByteArray} (h : w.ownsRow B e 1 v n (ss.map .string)) (hn : n = ss.length) : Strs w v ss := by
 subst hn
 exact Sl.of_owns h

theorem strs_one (ss : List ByteArray) : ∀ u ∈ ss.map Value.string, u.oneCell' = true := by
 intro u hu
 obtain ⟨x, _, rfl⟩ := List.mem_map.1 hu
 rfl
theorem bytes_eq {a b : ByteArray} : a.toList == b.toList ↔ a = b := by
 rw [ByteArray.toList_eq, ByteArray.toList_eq, beq_iff_eq]
 constructor
 ·intro h
  cases a; cases b
  congr 1
  exact Array.toList_inj.1 h
 ·rintro rfl; rfl

theorem strs_eq {xs ys : List ByteArray} (hl : xs.length = ys.length) (h : ∀ j, j < xs.length → strAt xs j = strAt ys j) : xs = ys := by
 apply List.ext_getElem hl
 intro i h1 h2
 have := h i h1
 simpa [strAt, h1, h2] using this

theorem data_append (a b : ByteArray) : (a ++ b).data.toList = a.data.toList ++ b.data.toList := by
 rw [ByteArray.data_append, Array.toList_append]

theorem mk_bytes {x : ByteArray} {l : Bs} (h : x.data.toList = l) : x = ⟨l.toArray⟩ := by
 subst h
 cases x
 simp

end Go.Dm

namespace Go.Dm
open Go Go.RowKit

def putF : Nat → Nat → Bs
 | 0, u => [UInt8.ofNat u]
 | f + 1, u => if u < 128 then [UInt8.ofNat u] else UInt8.ofNat (u % 128 + 128) :: putF f (u / 128)

/-- A number as bytes. -/
def putL (u : Nat) : Bs := putF u u

theorem putF_enough : ∀ (f : Nat) (u : Nat), u ≤ f → putF f u = putL u := by
 suffices h : ∀ (n f g : Nat) (u : Nat), u ≤ n → n ≤ f → n ≤ g → putF f u = putF g u by
  intro f u hu
  exact h u f u u (Nat.le_refl _) hu (Nat.le_refl _)
 intro n
 induction n with
 | zero =>
  intro f g u hu _ _
  obtain rfl : u = 0 := by omega
  cases f <;> cases g <;> simp [putF]
 | succ n ih =>
  intro f g u hu hf hg
  obtain ⟨f, rfl⟩ : ∃ f', f = f' + 1 := ⟨f - 1, by omega⟩
  obtain ⟨g, rfl⟩ : ∃ g', g = g' + 1 := ⟨g - 1, by omega⟩
  unfold putF
  split
  ·rfl
  ·rw [ih f g (u / 128) (by omega) (by omega) (by omega)]

theorem putL_small {u : Nat} (h : u < 128) : putL u = [UInt8.ofNat u] := by
 unfold putL
 cases u with
 | zero => rfl
 | succ u => unfold putF; rw [if_pos h]

theorem putL_big {u : Nat} (h : 128 ≤ u) : putL u = UInt8.ofNat (u % 128 + 128) :: putL (u / 128) := by
 obtain ⟨n, rfl⟩ : ∃ n, u = n + 1 := ⟨u - 1, by omega⟩
 rw [putL, putF, if_neg (by omega), putF_enough n _ (by omega)]

theorem putL_pos (u : Nat) : 1 ≤ (putL u).length := by
 by_cases h : u < 128
 ·rw [putL_small h]; simp
 ·rw [putL_big (by omega)]; simp

theorem putL_len : ∀ (k u : Nat), u < 128 ^ (k + 1) → (putL u).length ≤ k + 1
 | 0, u, h => by rw [putL_small (by simpa using h)]; simp
 | k + 1, u, h => by
  by_cases hs : u < 128
  ·rw [putL_small hs]; simp
  ·rw [putL_big (by omega)]
   have := putL_len k (u / 128) (by rw [Nat.pow_succ] at h; omega)
   simp only [List.length_cons]; omega

/-- A number of 64 bits. -/
def U64 (x : Nat) : Prop := x < 18446744073709551616
theorem U64.div {x : Nat} (h : U64 x) (k : Nat) : U64 (x / k) := Nat.lt_of_le_of_lt (Nat.div_le_self _ _) h

theorem putL_ten {u : Nat} (h : U64 u) : (putL u).length ≤ 10 := putL_len 9 u (Nat.lt_of_lt_of_le h (by decide))

/-- A text as bytes. -/
def putT (t : Bs) : Bs := putL t.length ++ t

/-- The cells of some bytes. -/
def bCells (l : Bs) : List Value := l.map fun b => .int .u8 (b.toNat : Int)
theorem bCells_len (l : Bs) : (bCells l).length = l.length := by simp [bCells]
theorem bCells_app (a b : Bs) : bCells (a ++ b) = bCells a ++ bCells b := by simp [bCells]
theorem bCells_one (l : Bs) : ∀ u ∈ bCells l, u.oneCell' = true := by
 intro u hu
 obtain ⟨x, _, rfl⟩ := List.mem_map.1 hu
 rfl
theorem u8_ofNat {n : Nat} (h : n < 256) : ((UInt8.ofNat n).toNat : Int) = n := by
 rw [UInt8.toNat_ofNat_of_lt' h]

theorem or128 : ∀ n : Nat, n < 256 → Go.bits BinOp.or IntKind.u8 (n : Int) 128 = ((n % 128 + 128 : Nat) : Int) := by decide +kernel
theorem or128' (x : Nat) : Go.bits BinOp.or IntKind.u8 ((x : Int) % 256) 128 = ((UInt8.ofNat (x % 128 + 128)).toNat : Int) := by
 have := or128 (x % 256) (by omega)
 rw [u8_ofNat (by omega), show ((x : Int) % 256) = ((x % 256 : Nat) : Int) by omega, this]
 omega

/-- 'string(b)', b a row of the call's own. -/
theorem run_string_row {P : Program} {w : World} {B src dst e : Nat} {v : Value} {n : Nat} {l : Bs} (hs : P.underlying src = some (.slice e)) (he : P.underlying e = some (.int .u8)) (hd : P.underlying dst = some .string)
  (h : w.ownsRow B e 1 v n (bCells l)) (hn : n = l.length) (hl : l ≠ []) : (convert src dst v).run P w = .ok (.string ⟨l.toArray⟩) w := by
 subst hn
 obtain ⟨p, cap, rfl, _, _, _, hx⟩ := (Sl.of_owns h).2
 have h0 : 0 < l.length := List.length_pos_iff.2 hl
 obtain ⟨b, off, rfl, hb, hc⟩ := hx.resolve_left (by omega)
 exact run_convert_bytes_back w src dst e ⟨b, off, none⟩ cap l hs he hd (fun j hj => by
  have := hc j (.int .u8 (l[j].toNat : Int)) (by simp [bCells, hj])
  unfold Addr.add
  split
  ·rename_i h0; subst h0; simpa using this
  ·exact this)

end Go.Dm

namespace Go.Dm
open Go Go.RowKit

/-- Names with slashes between. -/
def joinP (ns : List Bs) : Bs := Lib.join ns [47]

theorem joinP_one (p : Bs) : joinP [p] = p := Lib.join_one p [47]
theorem joinP_cons (p : Bs) {q : Bs} {ns : List Bs} : joinP (p :: q :: ns) = p ++ 47 :: joinP (q :: ns) := by
 simp [joinP, Lib.join_cons, Lib.joinTail]

/-- A name: no slash in it. -/
structure Name (p : Bs) : Prop where
 right : rightL p = true
 plain : (47 : UInt8) ∉ p

end Go.Dm

namespace Go.Dm
open Go Go.RowKit

theorem letterB_plain {r : Nat} (h : (letterB r || markB r) = true) : r ≠ 47 ∧ r < 2048 := by
 simp only [letterB, markB, Bool.or_eq_true, Bool.and_eq_true, decide_eq_true_eq, beq_iff_eq] at h
 omega

theorem head_bAt {l : Bs} (h : l ≠ []) : ∃ a t, l = a :: t ∧ bAt l 0 = a.toNat := by
 cases l with
 | nil => exact absurd rfl h
 | cons a t => exact ⟨a, t, rfl, rfl⟩

/-- A name's runes are of one byte or two, and none is a slash. -/
theorem okL_step_plain {b : Bool} {l : Bs} (h : l ≠ []) (hr : (letterB (runeL l) || (!b && markB (runeL l))) = true) : (47 : UInt8) ∉ l.take (wideL l) := by
 have hlm := letterB_plain (r := runeL l) (by cases b <;> simp_all)
 obtain ⟨hne, hlt⟩ := hlm
 unfold wideL runeL decL at *
 obtain ⟨a, t, rfl, ha⟩ := head_bAt h
 split
 ·rename_i h0
  rw [if_pos h0] at hne
  simp only at hne
  intro hm
  simp at hm
  subst hm
  exact hne (by rw [ha]; rfl)
 ·rename_i h0
  rw [if_neg h0] at hne hlt
  split
  ·rename_i h1
   rw [if_pos h1] at hne hlt
   simp only [Bool.and_eq_true, beq_iff_eq] at h1
   split
   ·rename_i h2
    rw [if_pos h2] at hne hlt
    have hc := contB_lt h1.2
    cases t with
    | nil => simp at hc
    | cons c t =>
     intro hm
     simp at hm
     have hcc : c.toNat / 64 = 2 := by
      have := h1.2
      simp only [contB, Bool.and_eq_true, beq_iff_eq] at this
      exact this.2
     rcases hm with rfl | rfl
     ·rw [ha] at h0; exact h0 (by decide)
     ·revert hcc; decide
   ·rename_i h2
    rw [if_neg h2] at hlt
    simp only at hlt; omega
  ·rename_i h1
   rw [if_neg h1] at hlt
   split
   ·rename_i h3
    rw [if_pos h3] at hlt
    split
    ·rename_i h4
     rw [if_pos h4] at hlt
     simp only [Bool.and_eq_true, decide_eq_true_eq] at h4
     simp only at hlt; omega
    ·rename_i h4
     rw [if_neg h4] at hlt
     simp only at hlt; omega
   ·rename_i h3
    rw [if_neg h3] at hlt
    split
    ·rename_i h5
     rw [if_pos h5] at hlt
     split
     ·rename_i h6
      rw [if_pos h6] at hlt
      simp only [Bool.and_eq_true, decide_eq_true_eq] at h6
      simp only at hlt; omega
     ·rename_i h6
      rw [if_neg h6] at hlt
      simp only at hlt; omega
    ·rename_i h5
     rw [if_neg h5] at hlt
     simp only at hlt; omega

theorem okL_plain : ∀ (n : Nat) (b : Bool) (l : Bs), l.length ≤ n → okL b l = true → (47 : UInt8) ∉ l := by
 intro n
 induction n with
 | zero =>
  intro b l hl _
  have : l = [] := List.length_eq_zero_iff.1 (by omega)
  subst this
  simp
 | succ n ih =>
  intro b l hl hok
  by_cases h : l = []
  ·subst h; simp
  ·rw [okL_step b h, Bool.and_eq_true] at hok
   have h1 := okL_step_plain h hok.1
   have hw := wideL_pos l
   have h2 := ih false (l.drop (wideL l)) (by rw [List.length_drop]; omega) hok.2
   rw [← List.take_append_drop (wideL l) l, List.mem_append]
   rintro (h' | h')
   ·exact h1 h'
   ·exact h2 h'

theorem right_plain {l : Bs} (h : rightL l = true) : (47 : UInt8) ∉ l := by
 unfold rightL at h
 simp only [Bool.and_eq_true] at h
 exact okL_plain _ true l (Nat.le_refl _) h.1.1

theorem name_of_right {p : Bs} (h : rightL p = true) : Name p := ⟨h, right_plain h⟩

/-- The names of a path, if it is one. -/
theorem partsL_names {l : Bs} : ∀ p ∈ partsL l, Name p := by
 intro p hp
 unfold partsL at hp
 split at hp
 ·cases hp
 ·rename_i hno
  refine name_of_right ?_
  cases hr : rightL p with
  | true => rfl
  | false => exact absurd (Or.inr (List.any_eq_true.2 ⟨p, hp, by rw [hr]; rfl⟩)) hno

theorem partsL_join {l : Bs} (h : partsL l ≠ []) : joinP (partsL l) = l := by
 rcases partsL_cases l with h0 | h0
 ·exact absurd h0 h
 ·rw [h0]; exact join_splitL l

theorem under_none {a l : Bs} (h : partsL l = []) : underL a l = false := by
 unfold underL upsL
 rw [h]
 rfl

end Go.Dm

namespace Go.Dm
open Go Go.RowKit

abbrev PairS := ByteArray × ByteArray
abbrev PairL := Bs × Bs
def noPair : PairS := (⟨#[]⟩, ⟨#[]⟩)
def pairAt (l : List PairS) (k : Nat) : PairS := l.getD k noPair
def pairCells (l : List PairS) : List Value := l.flatMap fun p => [.string p.1, .string p.2]
theorem pairCells_at : ∀ (xs : List PairS) (k : Nat), k < xs.length → (pairCells xs)[k*2]? = some (.string (pairAt xs k).1) ∧ (pairCells xs)[k*2+1]? = some (.string (pairAt xs k).2)
 | x :: xs, 0, _ => by simp [pairCells, pairAt]
 | x :: xs, k+1, h => by
  have := pairCells_at xs k (by simpa using h)
  have e : (k+1)*2 = k*2+1+1 := by omega
  have e2 : (k+1)*2+1 = k*2+1+1+1 := by omega
  simp only [e, pairCells, pairAt, List.flatMap_cons, List.cons_append, List.nil_append, List.getElem?_cons_succ, List.getD_cons_succ]
  exact this
theorem pairCells_len (xs : List PairS) : (pairCells xs).length = xs.length * 2 := by
 induction xs with
 | nil => rfl
 | cons x xs ih => simp only [pairCells, List.flatMap_cons, List.length_append, List.length_cons, List.length_nil] at *; omega
theorem pairCells_app (a b : List PairS) : pairCells (a ++ b) = pairCells a ++ pairCells b := by simp [pairCells]
theorem pairCells_one (l : List PairS) : ∀ u ∈ pairCells l, u.oneCell' = true := by
 intro u hu
 obtain ⟨x, _, hx⟩ := List.mem_flatMap.1 hu
 simp only [List.mem_cons, List.mem_nil_iff, or_false] at hx
 rcases hx with rfl | rfl <;> rfl
theorem pairAt_mem {l : List PairS} {k : Nat} (h : k < l.length) : pairAt l k ∈ l := by
 simp only [pairAt, List.getD_eq_getElem?_getD, List.getElem?_eq_getElem h, Option.getD_some]
 exact List.getElem_mem h

/-- A slice value reads as these labels. -/
def Pairs (w : World) (v : Value) (l : List PairS) : Prop := Sl w 2 v l.length (pairCells l)
theorem Pairs.ext {w w' : World} {v l} (h : Pairs w v l) (hb : Ext w w') : Pairs w' v l := Sl.ext h hb
theorem Pairs.nil (w : World) : Pairs w (.slice none 0 0) [] := Sl.nil w 2
theorem Pairs.shape {w : World} {v l} (h : Pairs w v l) : ∃ p cap, v = .slice p l.length cap ∧ l.length ≤ cap ∧ cap ≤ maxLen := by
 obtain ⟨p, cap, h1, h2, h3, _⟩ := Sl.shape h
 exact ⟨p, cap, h1, h2, h3⟩
theorem Pairs.at {w : World} {xs : List PairS} {p cap} (h : Pairs w (.slice p xs.length cap) xs) {k : Nat} (hk : k < xs.length) :
  ∃ b off, p = some ⟨b, off, none⟩ ∧ b < w.heap.size ∧ w.cell? ⟨b, off + k*2, none⟩ = some (.string (pairAt xs k).1) ∧ w.cell? ⟨b, off + k*2 + 1, none⟩ = some (.string (pairAt xs k).2) := by
 obtain ⟨b, off, hp, hb, h⟩ := Sl.at h (by omega)
 have := pairCells_at xs k hk
 exact ⟨b, off, hp, hb, h _ _ this.1, by have := h _ _ this.2; rw [show off + (k*2+1) = off + k*2+1 by omega] at this; exact this⟩
theorem Pairs.cells {w : World} {xs : List PairS} {b off cap} (h : Pairs w (.slice (some ⟨b, off, none⟩) xs.length cap) xs) {k : Nat} (hk : k < xs.length) :
  w.cell? ⟨b, off + k*2, none⟩ = some (.string (pairAt xs k).1) ∧ w.cell? ⟨b, off + k*2 + 1, none⟩ = some (.string (pairAt xs k).2) := by
 obtain ⟨b', off', hp, _, h⟩ := h.at hk
 injection hp with hp
 injection hp with e1 e2
 subst e1 e2
 exact h
theorem Pairs.of_row {w : World} {B e : Nat} {v : Value} {n : Nat} {l : List PairS} (h : w.ownsRow B e 2 v n (pairCells l)) (hn : n = l.length) : Pairs w v l := by
 subst hn
 exact Sl.of_owns h

/-- Each text is of a size that a run can hold. -/
def FitP (l : List PairS) : Prop := ∀ p ∈ l, p.1.size ≤ 140737488351232 ∧ p.2.size ≤ 140737488351232

theorem FitP.nil : FitP [] := fun p hp => by cases hp
def pL (p : PairS) : PairL := (p.1.data.toList, p.2.data.toList)
def labL (l : List PairS) : List PairL := l.map pL
theorem labL_len (l : List PairS) : (labL l).length = l.length := by simp [labL]
def plAt (L : List PairL) (k : Nat) : PairL := L.getD k ([], [])
theorem labL_at (l : List PairS) {k : Nat} (h : k < l.length) : plAt (labL l) k = pL (pairAt l k) := by
 simp [plAt, labL, pairAt, h]

/-- 'a <= b' on texts. -/
def leB (a b : Bs) : Bool := Op.bytesLess a b || a == b

/-- P4.1: may the label at a place stand there? -/
def okLab (L : List PairL) (k : Nat) : Bool := rightL (plAt L k).1 && (rightL (plAt L k).2 && (k == 0 || !leB (plAt L k).1 (plAt L (k - 1)).1))
/-- P4.1: may labels be? -/
def rightLab (L : List PairL) : Bool := decide (L.length ≤ 8) && (List.range L.length).all (okLab L)

theorem rightLab_bad {L : List PairL} {k : Nat} (hk : k < L.length) (h : okLab L k = false) : rightLab L = false := by
 unfold rightLab
 rw [Bool.and_eq_false_iff]
 right
 rw [List.all_eq_false]
 exact ⟨k, List.mem_range.2 hk, by rw [h]; simp⟩
theorem rightLab_all {L : List PairL} (h : ∀ k, k < L.length → okLab L k = true) : rightLab L = decide (L.length ≤ 8) := by
 unfold rightLab
 rw [List.all_eq_true.2 (fun k hk => h k (List.mem_range.1 hk)), Bool.and_true]
theorem rightLab_iff {L : List PairL} : rightLab L = true ↔ L.length ≤ 8 ∧ ∀ k, k < L.length → okLab L k = true := by
 unfold rightLab
 rw [Bool.and_eq_true, decide_eq_true_eq, List.all_eq_true]
 exact ⟨fun h => ⟨h.1, fun k hk => h.2 k (List.mem_range.2 hk)⟩, fun h => ⟨h.1, fun k hk => h.2 k (List.mem_range.1 hk)⟩⟩

end Go.Dm

namespace Go.Dm
open Go Go.RowKit

end Go.Dm

namespace Go.Dm
open Go Go.RowKit

/-- The number of the first k bytes. -/
def scanV (l : Bs) : Nat → Nat
 | 0 => 0
 | k + 1 => scanV l k + (bAt l k % 128) * 128 ^ k

theorem scanV_lt (l : Bs) : ∀ k, scanV l k < 128 ^ k
 | 0 => by simp [scanV]
 | k + 1 => by
  have ih := scanV_lt l k
  have : (bAt l k % 128) * 128 ^ k ≤ 127 * 128 ^ k := Nat.mul_le_mul_right _ (by omega)
  rw [scanV, Nat.pow_succ]
  omega

/-- Where the number that stands first ends. -/
def endsAt (l : Bs) (k : Nat) : Bool := decide (bAt l k < 128)

/-- The number that stands first, and how many bytes it has. -/
def getL (l : Bs) : Option (Nat × Nat) :=
 match firstP (endsAt l) (List.range (min 10 l.length)) with
 | some k => if putL (scanV l (k + 1) % 18446744073709551616) = l.take (k + 1) then some (scanV l (k + 1) % 18446744073709551616, k + 1) else none
 | none => none

theorem range_getD {n k : Nat} (h : k < n) : (List.range n).getD k 0 = k := by simp [h]

/-- The bytes of a number, one by one. -/
theorem putL_shape : ∀ (n u : Nat), (putL u).length = n + 1 → (∀ j, j < n → 128 ≤ bAt (putL u) j) ∧ bAt (putL u) n < 128 ∧ scanV (putL u) (n + 1) = u
 | 0, u, h => by
  have hs : u < 128 := by
   apply Decidable.byContradiction
   intro hb
   rw [putL_big (by omega)] at h
   have := putL_pos (u / 128)
   rw [List.length_cons] at h; omega
  have hb : bAt (putL u) 0 = u := by rw [putL_small hs]; show (UInt8.ofNat u).toNat = u; rw [UInt8.toNat_ofNat_of_lt' (by show u < 256; omega)]
  refine ⟨fun j hj => by omega, by omega, ?_⟩
  simp only [scanV, hb]; omega
 | n + 1, u, h => by
  have hs : 128 ≤ u := by
   apply Decidable.byContradiction
   intro hb
   rw [putL_small (by omega)] at h
   simp at h
  rw [putL_big hs] at h ⊢
  have hl : (putL (u / 128)).length = n + 1 := by simpa using h
  obtain ⟨h1, h2, h3⟩ := putL_shape n (u / 128) hl
  have h0 : bAt (UInt8.ofNat (u % 128 + 128) :: putL (u / 128)) 0 = u % 128 + 128 := by
   show (UInt8.ofNat (u % 128 + 128)).toNat = _
   rw [UInt8.toNat_ofNat_of_lt' (by show u % 128 + 128 < 256; omega)]
  have hS : ∀ k, bAt (UInt8.ofNat (u % 128 + 128) :: putL (u / 128)) (k + 1) = bAt (putL (u / 128)) k := fun k => rfl
  refine ⟨fun j hj => ?_, by rw [hS]; exact h2, ?_⟩
  ·cases j with
   | zero => rw [h0]; omega
   | succ j => rw [hS]; exact h1 j (by omega)
  ·have key : ∀ k, scanV (UInt8.ofNat (u % 128 + 128) :: putL (u / 128)) (k + 1) = u % 128 + 128 * scanV (putL (u / 128)) k := by
    intro k
    induction k with
    | zero => simp only [scanV, h0]; omega
    | succ k ih =>
     rw [scanV, ih, hS, scanV, Nat.mul_add, Nat.pow_succ]
     have : (bAt (putL (u / 128)) k % 128) * (128 ^ k * 128) = 128 * ((bAt (putL (u / 128)) k % 128) * 128 ^ k) := by
      rw [← Nat.mul_assoc, Nat.mul_comm]
     omega
   rw [key, h3]; omega

theorem scanV_take (l : Bs) (n : Nat) : ∀ k, k ≤ n → scanV (l.take n) k = scanV l k
 | 0, _ => rfl
 | k + 1, h => by
  rw [scanV, scanV, scanV_take l n k (by omega)]
  have : bAt (l.take n) k = bAt l k := by simp [bAt, List.getD_eq_getElem?_getD, show k < n by omega]
  rw [this]

theorem bAt_take' (l : Bs) {n k : Nat} (h : k < n) : bAt (l.take n) k = bAt l k := by
 simp [bAt, List.getD_eq_getElem?_getD, h]

/-- What is got is what was put, and the other way round. -/
theorem getL_iff {l : Bs} {u n : Nat} : getL l = some (u, n) ↔ U64 u ∧ n = (putL u).length ∧ putL u = l.take n ∧ n ≤ l.length := by
 constructor
 ·intro h
  unfold getL at h
  cases hf : firstP (endsAt l) (List.range (min 10 l.length)) with
  | none => rw [hf] at h; cases h
  | some k =>
   rw [hf] at h
   simp only at h
   split at h
   ·rename_i hp
    injection h with h
    injection h with h1 h2
    obtain ⟨hk, _, _⟩ := firstP_some 0 hf
    rw [List.length_range] at hk
    subst h1 h2
    have hlen : (l.take (k + 1)).length = k + 1 := by rw [List.length_take]; omega
    exact ⟨Nat.mod_lt _ (by decide), by rw [hp, hlen], hp, by omega⟩
   ·cases h
 ·rintro ⟨hu, rfl, hp, hl⟩
  obtain ⟨n, hn⟩ : ∃ n, (putL u).length = n + 1 := ⟨(putL u).length - 1, by have := putL_pos u; omega⟩
  obtain ⟨h1, h2, h3⟩ := putL_shape n u hn
  have h10 := putL_ten hu
  rw [hn] at hp hl h10
  have hat : ∀ j, j < n + 1 → bAt (putL u) j = bAt l j := fun j hj => by rw [hp, bAt_take' l hj]
  have hf : firstP (endsAt l) (List.range (min 10 l.length)) = some n := by
   refine firstP_hit 0 (by rw [List.length_range]; omega) (fun j hj => ?_) ?_
   ·rw [range_getD (by omega)]
    have := h1 j hj
    rw [hat j (by omega)] at this
    simp only [endsAt, decide_eq_false_iff_not]; omega
   ·rw [range_getD (by omega)]
    rw [hat n (by omega)] at h2
    simp only [endsAt, decide_eq_true_eq]; exact h2
  have hs : scanV l (n + 1) = u := by
   rw [← scanV_take l (n + 1) (n + 1) (Nat.le_refl _), ← hp]; exact h3
  have hm : u % 18446744073709551616 = u := Nat.mod_eq_of_lt hu
  unfold getL
  rw [hf]
  simp only
  rw [hs, hm, if_pos hp, hn]

theorem getL_len {l : Bs} {u n : Nat} (h : getL l = some (u, n)) : 1 ≤ n ∧ n ≤ l.length ∧ n ≤ 10 ∧ U64 u := by
 obtain ⟨h1, h2, _, h4⟩ := getL_iff.1 h
 have := putL_pos u
 have := putL_ten h1
 exact ⟨by omega, h4, by omega, h1⟩

/-- The number that stands at a place: its value, the place behind it, whether there is one. -/
def getI (l : Bs) (at' : Int) : Nat × Int × Bool :=
 if at' < 0 ∨ (l.length : Int) ≤ at' then (0, 0, false) else
  match getL (l.drop at'.toNat) with
  | some (u, n) => (u, at' + n, true)
  | none => (0, 0, false)

theorem getI_out {l : Bs} {at' : Int} (h : at' < 0 ∨ (l.length : Int) ≤ at') : getI l at' = (0, 0, false) := by
 unfold getI; rw [if_pos h]
theorem getI_in {l : Bs} {k : Nat} (h : k < l.length) : getI l k = match getL (l.drop k) with | some (u, n) => (u, (k : Int) + n, true) | none => (0, 0, false) := by
 unfold getI
 rw [if_neg (by omega)]
 rfl

/-- A byte without its highest bit. -/
theorem low7 {b : Nat} (h : b < 256) : Go.bits .andNot .u8 (b : Int) 128 = ((b % 128 : Nat) : Int) := by
 have := u8_andNot_nat b 128 h (by omega)
 rw [show ((128 : Nat) : Int) = 128 from rfl] at this
 rw [this]
 congr 1
 exact Nat.and_two_pow_sub_one_eq_mod b 7

theorem pow7 (j : Nat) : (2 : Nat) ^ (7 * j) = 128 ^ j := by rw [Nat.pow_mul]

/-- One more byte is put to the number. -/
theorem scan_step (l : Bs) {j : Nat} (hb : bAt l j < 256) :
  Go.bits .or .u64 ((scanV l j % 18446744073709551616 : Nat) : Int) (IntKind.u64.wrap (IntKind.u64.wrap (Go.bits .andNot .u8 (bAt l j : Int) 128) * 2 ^ (7 * j))) = ((scanV l (j + 1) % 18446744073709551616 : Nat) : Int) := by
 have hw : ∀ n : Nat, IntKind.u64.wrap (n : Int) = ((n % 18446744073709551616 : Nat) : Int) := by
  intro n
  simp only [IntKind.wrap, IntKind.bits, IntKind.signed]
  simp
 rw [low7 hb, hw, Nat.mod_eq_of_lt (show bAt l j % 128 < 18446744073709551616 by omega)]
 rw [show (((bAt l j % 128 : Nat) : Int) * 2 ^ (7 * j)) = ((bAt l j % 128 * 2 ^ (7 * j) : Nat) : Int) by push_cast; rfl, hw]
 rw [bits_or_u64_nat _ _ (Nat.mod_lt _ (by decide)) (Nat.mod_lt _ (by decide))]
 congr 1
 have h1 : scanV l j < 2 ^ (7 * j) := by rw [pow7]; exact scanV_lt l j
 have h2 := Nat.two_pow_add_eq_or_of_lt h1 (bAt l j % 128)
 rw [show (18446744073709551616 : Nat) = 2 ^ 64 from rfl, ← Nat.or_mod_two_pow, Nat.or_comm, scanV, ← pow7, Nat.add_comm, Nat.mul_comm, h2, Nat.mul_comm]

theorem getL_at {l : Bs} {j : Nat} (hj : j < 10) (hl : j < l.length) (hn : ∀ i, i < j → endsAt l i = false) (he : endsAt l j = true) :
  getL l = if putL (scanV l (j + 1) % 18446744073709551616) = l.take (j + 1) then some (scanV l (j + 1) % 18446744073709551616, j + 1) else none := by
 have hf : firstP (endsAt l) (List.range (min 10 l.length)) = some j := by
  refine firstP_hit 0 (by rw [List.length_range]; omega) (fun i hi => ?_) ?_
  ·rw [range_getD (by omega)]; exact hn i hi
  ·rw [range_getD (by omega)]; exact he
 unfold getL
 rw [hf]

theorem getL_no {l : Bs} (hn : ∀ i, i < min 10 l.length → endsAt l i = false) : getL l = none := by
 have hf : firstP (endsAt l) (List.range (min 10 l.length)) = none := by
  cases h : firstP (endsAt l) (List.range (min 10 l.length)) with
  | none => rfl
  | some k =>
   obtain ⟨h1, h2, _⟩ := firstP_some 0 h
   rw [List.length_range] at h1
   rw [range_getD h1, hn k h1] at h2
   cases h2
 unfold getL
 rw [hf]

end Go.Dm

namespace Go.Dm
open Go Go.RowKit

end Go.Dm

namespace Go.Dm
open Go Go.RowKit

end Go.Dm

namespace Go.Dm
open Go Go.RowKit

/-- An amount: four numbers. -/
abbrev Vc := List Nat
structure OkV (a : Vc) : Prop where
 len : a.length = 4
 u64 : ∀ k, U64 (a.getD k 0)
def noV : Vc := [0, 0, 0, 0]
theorem okV_mk {a b c d : Nat} (ha : U64 a) (hb : U64 b) (hc : U64 c) (hd : U64 d) : OkV [a, b, c, d] := by
 refine ⟨rfl, fun k => ?_⟩
 match k with
 | 0 => exact ha
 | 1 => exact hb
 | 2 => exact hc
 | 3 => exact hd
 | k + 4 => show U64 0; unfold U64; omega
theorem OkV.ex {a : Vc} (h : OkV a) : ∃ x y z u, a = [x, y, z, u] ∧ U64 x ∧ U64 y ∧ U64 z ∧ U64 u := by
 obtain ⟨hl, hu⟩ := h
 match a, hl, hu with
 | [x, y, z, u], _, hu => exact ⟨x, y, z, u, rfl, hu 0, hu 1, hu 2, hu 3⟩
theorem okV_no : OkV noV := okV_mk (by unfold U64; omega) (by unfold U64; omega) (by unfold U64; omega) (by unfold U64; omega)

/-- An amount as a value, by its numbers. -/
def vF (A : Nat → Nat) : Value := .agg #[.int .u64 (A 0 : Nat), .int .u64 (A 1 : Nat), .int .u64 (A 2 : Nat), .int .u64 (A 3 : Nat)]
def vG (a : Vc) (k : Nat) : Nat := a.getD k 0
def vVal (a : Vc) : Value := vF (vG a)
theorem vF_eq {A B : Nat → Nat} (h : ∀ k, k < 4 → A k = B k) : vF A = vF B := by
 unfold vF; rw [h 0 (by omega), h 1 (by omega), h 2 (by omega), h 3 (by omega)]

/-- What is told of two. -/
def vOr (ok : Bool) (v : Vc) : Vc := if ok then v else noV
end Go.Dm

namespace Go.Dm
open Go Go.RowKit
theorem run_part_one {P : Program} {q : TypeId} {k : IntKind} (hq : P.underlying q = some (.int k)) (xs : Array Value) (j : Nat) (v : Value) (h : xs[j]? = some v) (w : World) : (part q xs j).run P w = .ok v w := by
 simp [part, isAgg, run_underlying hq, h]
theorem run_eql_vec {P : Program} {t q : TypeId} (ht : P.underlying t = some (.array 4 q)) (hq : P.underlying q = some (.int .u64)) (cq : P.cellsOf q = 1) (a0 a1 a2 a3 b0 b1 b2 b3 : Int) (w : World) :
  (binOp .eql t (.agg #[.int .u64 a0, .int .u64 a1, .int .u64 a2, .int .u64 a3]) (.agg #[.int .u64 b0, .int .u64 b1, .int .u64 b2, .int .u64 b3])).run P w = .ok (.bool (a0 == b0 && (a1 == b1 && (a2 == b2 && a3 == b3)))) w := by
 obtain ⟨i, hi⟩ := info_of_underlying hq
 have he : ∀ (a b : Int), (Op.equalIn 9999 q (.int .u64 a) (.int .u64 b)).run P w = .ok (a == b) w := fun a b => run_equalIn_int w 9998 q .u64 .u64 a b hq
 rw [run_eql_struct, run_equalIn_array w 9999 _ _ ht hi, cq, show List.range 4 = [0, 1, 2, 3] from rfl]
 simp only [Op.eqItems, Sem.run_bind, Nat.mul_one, run_part_one hq #[.int .u64 a0, .int .u64 a1, .int .u64 a2, .int .u64 a3] 0 _ rfl, run_part_one hq #[.int .u64 a0, .int .u64 a1, .int .u64 a2, .int .u64 a3] 1 _ rfl, run_part_one hq #[.int .u64 a0, .int .u64 a1, .int .u64 a2, .int .u64 a3] 2 _ rfl, run_part_one hq #[.int .u64 a0, .int .u64 a1, .int .u64 a2, .int .u64 a3] 3 _ rfl,
  run_part_one hq #[.int .u64 b0, .int .u64 b1, .int .u64 b2, .int .u64 b3] 0 _ rfl, run_part_one hq #[.int .u64 b0, .int .u64 b1, .int .u64 b2, .int .u64 b3] 1 _ rfl, run_part_one hq #[.int .u64 b0, .int .u64 b1, .int .u64 b2, .int .u64 b3] 2 _ rfl, run_part_one hq #[.int .u64 b0, .int .u64 b1, .int .u64 b2, .int .u64 b3] 3 _ rfl, Result.andThen_ok, Sem.run_ite]
 cases h0 : a0 == b0 <;> cases h1 : a1 == b1 <;> cases h2 : a2 == b2 <;> cases h3 : a3 == b3 <;> simp [he, h0, h1, h2, h3]
theorem vc_eq {a b : Vc} (ha : OkV a) (hb : OkV b) : a = b ↔ vG a 0 = vG b 0 ∧ vG a 1 = vG b 1 ∧ vG a 2 = vG b 2 ∧ vG a 3 = vG b 3 := by
 obtain ⟨x, y, z, u, rfl, _⟩ := ha.ex
 obtain ⟨x', y', z', u', rfl, _⟩ := hb.ex
 simp [vG]
/-- `==` of two amounts. -/
theorem run_eql_vals {P : Program} {t q : TypeId} (ht : P.underlying t = some (.array 4 q)) (hq : P.underlying q = some (.int .u64)) (cq : P.cellsOf q = 1) {a b : Vc} (ha : OkV a) (hb : OkV b) (w : World) :
  (binOp .eql t (vVal a) (vVal b)).run P w = .ok (.bool (decide (a = b))) w := by
 unfold vVal vF
 rw [run_eql_vec ht hq cq]
 congr 2
 rw [Bool.eq_iff_iff]
 simp only [Bool.and_eq_true, beq_iff_eq, decide_eq_true_eq]
 rw [vc_eq ha hb]
 omega
end Go.Dm
