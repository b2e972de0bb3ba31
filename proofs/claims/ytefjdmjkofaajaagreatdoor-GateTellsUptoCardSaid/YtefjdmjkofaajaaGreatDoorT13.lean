/- Texts of the base. -/

import Derived.Test.YtefjdmjkofaajaaGreatDoorWPure
import Derived.Test.YtefjdmjkofaajaaGreatDoorT11
import Derived.Lib.Split
import Derived.Laws.IdiomStrings
import Derived.Test.YtefjdmjkofaajaaGreatDoorT2
import Derived.Laws.Bits64b
import Derived.Laws.BitsAllLaws
import Derived.ChangeKeysEq
namespace Go.Dm
open Go Go.RowKit
def Strs (w : World) (v : Value) (ss : List ByteArray) : Prop := Sl w 1 v ss.length (ss.map .string)
def strAt (ss : List ByteArray) (k : Nat) : ByteArray := ss.getD k ByteArray.empty
def bytesOf (ss : List ByteArray) : List Bs := ss.map (·.data.toList)
theorem Strs.ext {w w' : World} {v ss} (h : Strs w v ss) (hb : Ext w w') : Strs w' v ss := Sl.ext h hb
theorem Strs.nil (w : World) : Strs w (.slice none 0 0) [] := Sl.nil w 1
theorem Strs.shape {w : World} {v ss} (h : Strs w v ss) : ∃ p cap, v = .slice p ss.length cap ∧ ss.length ≤ cap ∧ cap ≤ maxLen := by
 obtain ⟨p, cap, h1, h2, h3, _⟩ := Sl.shape h
 exact ⟨p, cap, h1, h2, h3⟩
theorem Strs.at {w : World} {ss : List ByteArray} {p cap} (h : Strs w (.slice p ss.length cap) ss) {k : Nat} (hk : k < ss.length) :
  ∃ b off, p = some ⟨b, off, none⟩ ∧ b < w.heap.size ∧ w.cell? ⟨b, off + k, none⟩ = some (.string (strAt ss k)) := by
 obtain ⟨b, off, hp, hb, h⟩ := Sl.at h (by omega)
 exact ⟨b, off, hp, hb, h k _ (by simp [strAt, hk])⟩
theorem Strs.cells {w : World} {ss : List ByteArray} {b off cap} (h : Strs w (.slice (some ⟨b, off, none⟩) ss.length cap) ss) {k : Nat} (hk : k < ss.length) :
  b < w.heap.size ∧ w.cell? ⟨b, off + k, none⟩ = some (.string (strAt ss k)) := by
 obtain ⟨b', off', hp, h⟩ := h.at hk
 injection hp with hp
 injection hp with e1 e2
 subst e1 e2
 exact h
theorem mem_splitL_len : ∀ {l : Bs} {p : Bs}, p ∈ splitL l → p.length ≤ l.length
 | [], p, h => by simp [splitL] at h; simp [h]
 | c :: l, p, h => by
  unfold splitL at h
  split at h
  ·rcases List.mem_cons.1 h with rfl | h
   ·simp
   ·have := mem_splitL_len h; simp; omega
  ·split at h
   ·simp at h; simp [h]
   ·rename_i q qs he
    rcases List.mem_cons.1 h with rfl | h
    ·have := mem_splitL_len (l := l) (p := q) (by rw [he]; simp)
     simp; omega
    ·have := mem_splitL_len (l := l) (p := p) (by rw [he]; exact List.mem_cons_of_mem _ h)
     simp; omega
theorem splitB_bytes (s : ByteArray) : bytesOf (Lib.splitB ⟨#[47]⟩ 0 (Lib.countB s ⟨#[47]⟩) s) = splitL s.data.toList := by
 unfold bytesOf
 rw [Lib.splitB_data]
 show Lib.splitK [47] 0 (Lib.count s.data.toList [47]) s.data.toList = _
 rw [Lib.count_one]
 exact splitK_eq _ _ (Nat.le_refl _)
def Texts (w : World) (v : Value) (L : List Bs) : Prop := ∃ ss, Strs w v ss ∧ bytesOf ss = L
theorem Texts.ext {w w' : World} {v L} (h : Texts w v L) (hb : Ext w w') : Texts w' v L := by
 obtain ⟨ss, h1, h2⟩ := h
 exact ⟨ss, h1.ext hb, h2⟩
theorem Texts.nil (w : World) : Texts w (.slice none 0 0) [] := ⟨[], Strs.nil w, rfl⟩
theorem strAt_mem {ss : List ByteArray} {k : Nat} (h : k < ss.length) : strAt ss k ∈ ss := by
 simp only [strAt, List.getD_eq_getElem?_getD, List.getElem?_eq_getElem h, Option.getD_some]
 exact List.getElem_mem h
theorem joinTail_len (sep : Bs) : ∀ (xs : List Bs) (k : Nat), (Lib.joinTail sep (xs.take k)).length ≤ (Lib.joinTail sep xs).length
 | [], k => by simp [Lib.joinTail]
 | x :: xs, 0 => by simp [Lib.joinTail]
 | x :: xs, k + 1 => by
  have := joinTail_len sep xs k
  simp only [Lib.joinTail, List.take_succ_cons, List.map_cons, List.flatten_cons, List.length_append] at *
  omega
theorem join_take_len (sep : Bs) (xs : List Bs) (k : Nat) : (Lib.join (xs.take k) sep).length ≤ (Lib.join xs sep).length := by
 cases xs with
 | nil => simp
 | cons x xs =>
  cases k with
  | zero => simp [Lib.join_nil]
  | succ k =>
   have := joinTail_len sep xs k
   rw [List.take_succ_cons, Lib.join_cons, Lib.join_cons]
   simp only [List.length_append]
   omega
theorem join_splitL : ∀ l : Bs, Lib.join (splitL l) [47] = l := by
 intro l
 induction h : l.length using Nat.strongRecOn generalizing l with
 | ind n ih =>
  rcases cut_at l with hn | ⟨p, r, h1, rfl⟩
  ·rw [splitL_none hn, Lib.join_one]
  ·rw [splitL_at h1, Lib.join_cons]
   simp only [List.length_append, List.length_cons] at h
   have := ih r.length (by omega) r rfl
   cases hs : splitL r with
   | nil => exact absurd hs (splitL_ne r)
   | cons q qs =>
    rw [hs, Lib.join_cons] at this
    simp only [Lib.joinTail, List.map_cons, List.flatten_cons, List.cons_append, List.nil_append] at *
    rw [this]
theorem partsL_cases (l : Bs) : partsL l = [] ∨ partsL l = splitL l := by
 unfold partsL
 split
 ·exact Or.inl rfl
 ·exact Or.inr rfl
theorem parts_join_len (l : Bs) (k : Nat) : (Lib.join ((partsL l).take k) [47]).length ≤ l.length := by
 have h1 := join_take_len [47] (partsL l) k
 rcases partsL_cases l with h | h
 ·rw [h] at h1 ⊢
  simp [Lib.join_nil] at h1 ⊢
 ·rw [h] at h1 ⊢
  rw [join_splitL] at h1
  exact h1
theorem partsL_three (l : Bs) : (partsL l).length ≤ 3 := by
 unfold partsL
 split
 ·simp
 ·rename_i h; omega
def upB (P : List Bs) (j : Nat) : ByteArray := ⟨(Lib.join (P.take (j + 1)) [47]).toArray⟩
theorem upB_bytes (l : Bs) (k : Nat) : bytesOf ((List.range k).map (upB (partsL l))) = ((List.range k).map fun k => Lib.join ((partsL l).take (k + 1)) [47]) := by
 simp [bytesOf, upB, List.map_map, Function.comp_def]
theorem range_snoc_map {α : Type} (f : Nat → α) (k : Nat) : (List.range (k + 1)).map f = (List.range k).map f ++ [f k] := by
 rw [List.range_succ, List.map_append]; rfl
theorem Strs.of_row {w : World} {B e : Nat} {v : Value} {n : Nat} {ss : List ByteArray} (h : w.ownsRow B e 1 v n (ss.map .string)) (hn : n = ss.length) : Strs w v ss := by
 subst hn
 exact Sl.of_owns h
theorem strs_one (ss : List ByteArray) : ∀ u ∈ ss.map Value.string, u.oneCell' = true := by
 intro u hu
 obtain ⟨x, _, rfl⟩ := List.mem_map.1 hu
 rfl
theorem bytes_eq {a b : ByteArray} : a.toList == b.toList ↔ a = b := by
 rw [ByteArray.toList_eq, ByteArray.toList_eq, beq_iff_eq]
 constructor
 ·intro h
  cases a; cases b
  congr 1
  exact Array.toList_inj.1 h
 ·rintro rfl; rfl
theorem strs_eq {xs ys : List ByteArray} (hl : xs.length = ys.length) (h : ∀ j, j < xs.length → strAt xs j = strAt ys j) : xs = ys := by
 apply List.ext_getElem hl
 intro i h1 h2
 have := h i h1
 simpa [strAt, h1, h2] using this
theorem data_append (a b : ByteArray) : (a ++ b).data.toList = a.data.toList ++ b.data.toList := by
 rw [ByteArray.data_append, Array.toList_append]
theorem mk_bytes {x : ByteArray} {l : Bs} (h : x.data.toList = l) : x = ⟨l.toArray⟩ := by
 subst h
 cases x
 simp
def putF : Nat → Nat → Bs
 | 0, u => [UInt8.ofNat u]
 | f + 1, u => if u < 128 then [UInt8.ofNat u] else UInt8.ofNat (u % 128 + 128) :: putF f (u / 128)
def putL (u : Nat) : Bs := putF u u
theorem putF_enough : ∀ (f : Nat) (u : Nat), u ≤ f → putF f u = putL u := by
 suffices h : ∀ (n f g : Nat) (u : Nat), u ≤ n → n ≤ f → n ≤ g → putF f u = putF g u by
  intro f u hu
  exact h u f u u (Nat.le_refl _) hu (Nat.le_refl _)
 intro n
 induction n with
 | zero =>
  intro f g u hu _ _
  obtain rfl : u = 0 := by omega
  cases f <;> cases g <;> simp [putF]
 | succ n ih =>
  intro f g u hu hf hg
  obtain ⟨f, rfl⟩ : ∃ f', f = f' + 1 := ⟨f - 1, by omega⟩
  obtain ⟨g, rfl⟩ : ∃ g', g = g' + 1 := ⟨g - 1, by omega⟩
  unfold putF
  split
  ·rfl
  ·rw [ih f g (u / 128) (by omega) (by omega) (by omega)]
theorem putL_small {u : Nat} (h : u < 128) : putL u = [UInt8.ofNat u] := by
 unfold putL
 cases u with
 | zero => rfl
 | succ u => unfold putF; rw [if_pos h]
theorem putL_big {u : Nat} (h : 128 ≤ u) : putL u = UInt8.ofNat (u % 128 + 128) :: putL (u / 128) := by
 obtain ⟨n, rfl⟩ : ∃ n, u = n + 1 := ⟨u - 1, by omega⟩
 rw [putL, putF, if_neg (by omega), putF_enough n _ (by omega)]
theorem putL_pos (u : Nat) : 1 ≤ (putL u).length := by
 by_cases h : u < 128
 ·rw [putL_small h]; simp
 ·rw [putL_big (by omega)]; simp
theorem putL_len : ∀ (k u : Nat), u < 128 ^ (k + 1) → (putL u).length ≤ k + 1
 | 0, u, h => by rw [putL_small (by simpa using h)]; simp
 | k + 1, u, h => by
  by_cases hs : u < 128
  ·rw [putL_small hs]; simp
  ·rw [putL_big (by omega)]
   have := putL_len k (u / 128) (by rw [Nat.pow_succ] at h; omega)
   simp only [List.length_cons]; omega
def U64 (x : Nat) : Prop := x < 18446744073709551616
theorem U64.div {x : Nat} (h : U64 x) (k : Nat) : U64 (x / k) := Nat.lt_of_le_of_lt (Nat.div_le_self _ _) h
theorem putL_ten {u : Nat} (h : U64 u) : (putL u).length ≤ 10 := putL_len 9 u (Nat.lt_of_lt_of_le h (by decide))
def putT (t : Bs) : Bs := putL t.length ++ t
def bCells (l : Bs) : List Value := l.map fun b => .int .u8 (b.toNat : Int)
theorem bCells_len (l : Bs) : (bCells l).length = l.length := by simp [bCells]
theorem bCells_app (a b : Bs) : bCells (a ++ b) = bCells a ++ bCells b := by simp [bCells]
theorem bCells_one (l : Bs) : ∀ u ∈ bCells l, u.oneCell' = true := by
 intro u hu
 obtain ⟨x, _, rfl⟩ := List.mem_map.1 hu
 rfl
theorem u8_ofNat {n : Nat} (h : n < 256) : ((UInt8.ofNat n).toNat : Int) = n := by
 rw [UInt8.toNat_ofNat_of_lt' h]
theorem or128 : ∀ n : Nat, n < 256 → Go.bits BinOp.or IntKind.u8 (n : Int) 128 = ((n % 128 + 128 : Nat) : Int) := by decide +kernel
theorem or128' (x : Nat) : Go.bits BinOp.or IntKind.u8 ((x : Int) % 256) 128 = ((UInt8.ofNat (x % 128 + 128)).toNat : Int) := by
 have := or128 (x % 256) (by omega)
 rw [u8_ofNat (by omega), show ((x : Int) % 256) = ((x % 256 : Nat) : Int) by omega, this]
 omega
theorem run_string_row {P : Program} {w : World} {B src dst e : Nat} {v : Value} {n : Nat} {l : Bs} (hs : P.underlying src = some (.slice e)) (he : P.underlying e = some (.int .u8)) (hd : P.underlying dst = some .string)
  (h : w.ownsRow B e 1 v n (bCells l)) (hn : n = l.length) (hl : l ≠ []) : (convert src dst v).run P w = .ok (.string ⟨l.toArray⟩) w := by
 subst hn
 obtain ⟨p, cap, rfl, _, _, _, hx⟩ := (Sl.of_owns h).2
 have h0 : 0 < l.length := List.length_pos_iff.2 hl
 obtain ⟨b, off, rfl, hb, hc⟩ := hx.resolve_left (by omega)
 exact run_convert_bytes_back w src dst e ⟨b, off, none⟩ cap l hs he hd (fun j hj => by
  have := hc j (.int .u8 (l[j].toNat : Int)) (by simp [bCells, hj])
  unfold Addr.add
  split
  ·rename_i h0; subst h0; simpa using this
  ·exact this)
def joinP (ns : List Bs) : Bs := Lib.join ns [47]
theorem joinP_one (p : Bs) : joinP [p] = p := Lib.join_one p [47]
theorem joinP_cons (p : Bs) {q : Bs} {ns : List Bs} : joinP (p :: q :: ns) = p ++ 47 :: joinP (q :: ns) := by
 simp [joinP, Lib.join_cons, Lib.joinTail]
structure Name (p : Bs) : Prop where
 right : rightL p = true
 plain : (47 : UInt8) ∉ p
theorem splitL_joinP : ∀ {ns : List Bs}, ns ≠ [] → (∀ p ∈ ns, (47 : UInt8) ∉ p) → splitL (joinP ns) = ns
 | [p], _, h => by rw [joinP_one, splitL_none (h p (by simp))]
 | p :: q :: ns, _, h => by
  rw [joinP_cons, splitL_at (h p (by simp)), splitL_joinP (by simp) (fun x hx => h x (List.mem_cons_of_mem _ hx))]
theorem partsL_some {l : Bs} (h1 : (splitL l).length ≤ 3) (h2 : ∀ p ∈ splitL l, rightL p = true) : partsL l = splitL l := by
 unfold partsL
 rw [if_neg]
 intro h
 rcases h with h | h
 ·omega
 ·obtain ⟨p, hp, hb⟩ := List.any_eq_true.1 h
  rw [h2 p hp] at hb
  cases hb
theorem partsL_wrong {l : Bs} {p : Bs} (h : p ∈ splitL l) (hp : rightL p = false) : partsL l = [] := by
 unfold partsL
 rw [if_pos]
 right
 exact List.any_eq_true.2 ⟨p, h, by rw [hp]; rfl⟩
theorem partsL_long {l : Bs} (h : 3 < (splitL l).length) : partsL l = [] := by
 unfold partsL
 rw [if_pos (Or.inl h)]
theorem partsL_joinP {ns : List Bs} (h3 : ns.length ≤ 3) (h : ∀ p ∈ ns, Name p) : partsL (joinP ns) = ns := by
 cases ns with
 | nil => rfl
 | cons p ns =>
  have hs := splitL_joinP (ns := p :: ns) (by simp) (fun x hx => (h x hx).plain)
  rw [partsL_some (by rw [hs]; exact h3) (by rw [hs]; exact fun x hx => (h x hx).right), hs]
theorem upsL_joinP {ns : List Bs} (h3 : ns.length ≤ 3) (h : ∀ p ∈ ns, Name p) : upsL (joinP ns) = (List.range ns.length).map fun k => joinP (ns.take (k + 1)) := by
 unfold upsL
 rw [partsL_joinP h3 h]
 rfl
theorem joinP_inj {P Q : List Bs} (hP : P ≠ []) (hQ : Q ≠ []) (h1 : ∀ p ∈ P, (47 : UInt8) ∉ p) (h2 : ∀ p ∈ Q, (47 : UInt8) ∉ p) (h : joinP P = joinP Q) : P = Q := by
 rw [← splitL_joinP hP h1, h, splitL_joinP hQ h2]
theorem under_iff {P Q : List Bs} (hP : P ≠ []) (h1 : ∀ p ∈ P, (47 : UInt8) ∉ p) (h3 : Q.length ≤ 3) (h2 : ∀ p ∈ Q, Name p) : underL (joinP P) (joinP Q) = true ↔ P <+: Q := by
 unfold underL
 rw [upsL_joinP h3 h2, List.contains_iff_mem, List.mem_map]
 constructor
 ·rintro ⟨k, hk, e⟩
  have hk := List.mem_range.1 hk
  have hne : Q.take (k + 1) ≠ [] := by
   intro h0
   have := congrArg List.length h0
   simp at this
   rw [this] at hk; simp at hk
  have := joinP_inj hne hP (fun p hp => (h2 p (List.mem_of_mem_take hp)).plain) h1 e
  rw [← this]
  exact List.take_prefix _ _
 ·intro hpre
  have hl : 0 < P.length := List.length_pos_iff.2 hP
  have hle := hpre.length_le
  refine ⟨P.length - 1, List.mem_range.2 (by omega), ?_⟩
  rw [show P.length - 1 + 1 = P.length by omega, ← List.prefix_iff_eq_take.1 hpre]
theorem letterB_plain {r : Nat} (h : (letterB r || markB r) = true) : r ≠ 47 ∧ r < 2048 := by
 simp only [letterB, markB, Bool.or_eq_true, Bool.and_eq_true, decide_eq_true_eq, beq_iff_eq] at h
 omega
theorem head_bAt {l : Bs} (h : l ≠ []) : ∃ a t, l = a :: t ∧ bAt l 0 = a.toNat := by
 cases l with
 | nil => exact absurd rfl h
 | cons a t => exact ⟨a, t, rfl, rfl⟩
theorem okL_step_plain {b : Bool} {l : Bs} (h : l ≠ []) (hr : (letterB (runeL l) || (!b && markB (runeL l))) = true) : (47 : UInt8) ∉ l.take (wideL l) := by
 have hlm := letterB_plain (r := runeL l) (by cases b <;> simp_all)
 obtain ⟨hne, hlt⟩ := hlm
 unfold wideL runeL decL at *
 obtain ⟨a, t, rfl, ha⟩ := head_bAt h
 split
 ·rename_i h0
  rw [if_pos h0] at hne
  simp only at hne
  intro hm
  simp at hm
  subst hm
  exact hne (by rw [ha]; rfl)
 ·rename_i h0
  rw [if_neg h0] at hne hlt
  split
  ·rename_i h1
   rw [if_pos h1] at hne hlt
   simp only [Bool.and_eq_true, beq_iff_eq] at h1
   split
   ·rename_i h2
    rw [if_pos h2] at hne hlt
    have hc := contB_lt h1.2
    cases t with
    | nil => simp at hc
    | cons c t =>
     intro hm
     simp at hm
     have hcc : c.toNat / 64 = 2 := by
      have := h1.2
      simp only [contB, Bool.and_eq_true, beq_iff_eq] at this
      exact this.2
     rcases hm with rfl | rfl
     ·rw [ha] at h0; exact h0 (by decide)
     ·revert hcc; decide
   ·rename_i h2
    rw [if_neg h2] at hlt
    simp only at hlt; omega
  ·rename_i h1
   rw [if_neg h1] at hlt
   split
   ·rename_i h3
    rw [if_pos h3] at hlt
    split
    ·rename_i h4
     rw [if_pos h4] at hlt
     simp only [Bool.and_eq_true, decide_eq_true_eq] at h4
     simp only at hlt; omega
    ·rename_i h4
     rw [if_neg h4] at hlt
     simp only at hlt; omega
   ·rename_i h3
    rw [if_neg h3] at hlt
    split
    ·rename_i h5
     rw [if_pos h5] at hlt
     split
     ·rename_i h6
      rw [if_pos h6] at hlt
      simp only [Bool.and_eq_true, decide_eq_true_eq] at h6
      simp only at hlt; omega
     ·rename_i h6
      rw [if_neg h6] at hlt
      simp only at hlt; omega
    ·rename_i h5
     rw [if_neg h5] at hlt
     simp only at hlt; omega
theorem okL_plain : ∀ (n : Nat) (b : Bool) (l : Bs), l.length ≤ n → okL b l = true → (47 : UInt8) ∉ l := by
 intro n
 induction n with
 | zero =>
  intro b l hl _
  have : l = [] := List.length_eq_zero_iff.1 (by omega)
  subst this
  simp
 | succ n ih =>
  intro b l hl hok
  by_cases h : l = []
  ·subst h; simp
  ·rw [okL_step b h, Bool.and_eq_true] at hok
   have h1 := okL_step_plain h hok.1
   have hw := wideL_pos l
   have h2 := ih false (l.drop (wideL l)) (by rw [List.length_drop]; omega) hok.2
   rw [← List.take_append_drop (wideL l) l, List.mem_append]
   rintro (h' | h')
   ·exact h1 h'
   ·exact h2 h'
theorem right_plain {l : Bs} (h : rightL l = true) : (47 : UInt8) ∉ l := by
 unfold rightL at h
 simp only [Bool.and_eq_true] at h
 exact okL_plain _ true l (Nat.le_refl _) h.1.1
theorem name_of_right {p : Bs} (h : rightL p = true) : Name p := ⟨h, right_plain h⟩
theorem partsL_names {l : Bs} : ∀ p ∈ partsL l, Name p := by
 intro p hp
 unfold partsL at hp
 split at hp
 ·cases hp
 ·rename_i hno
  refine name_of_right ?_
  cases hr : rightL p with
  | true => rfl
  | false => exact absurd (Or.inr (List.any_eq_true.2 ⟨p, hp, by rw [hr]; rfl⟩)) hno
theorem partsL_join {l : Bs} (h : partsL l ≠ []) : joinP (partsL l) = l := by
 rcases partsL_cases l with h0 | h0
 ·exact absurd h0 h
 ·rw [h0]; exact join_splitL l
theorem under_self {l : Bs} (h : partsL l ≠ []) : underL l l = true := by
 have hj := partsL_join h
 have := (under_iff h (fun p hp => (partsL_names p hp).plain) (partsL_three l) (fun p hp => partsL_names p hp)).2 (List.prefix_refl (partsL l))
 rwa [hj] at this
theorem under_none {a l : Bs} (h : partsL l = []) : underL a l = false := by
 unfold underL upsL
 rw [h]
 rfl
abbrev PairS := ByteArray × ByteArray
abbrev PairL := Bs × Bs
def noPair : PairS := (⟨#[]⟩, ⟨#[]⟩)
def pairAt (l : List PairS) (k : Nat) : PairS := l.getD k noPair
def pairCells (l : List PairS) : List Value := l.flatMap fun p => [.string p.1, .string p.2]
theorem pairCells_at : ∀ (xs : List PairS) (k : Nat), k < xs.length → (pairCells xs)[k*2]? = some (.string (pairAt xs k).1) ∧ (pairCells xs)[k*2+1]? = some (.string (pairAt xs k).2)
 | x :: xs, 0, _ => by simp [pairCells, pairAt]
 | x :: xs, k+1, h => by
  have := pairCells_at xs k (by simpa using h)
  have e : (k+1)*2 = k*2+1+1 := by omega
  have e2 : (k+1)*2+1 = k*2+1+1+1 := by omega
  simp only [e, pairCells, pairAt, List.flatMap_cons, List.cons_append, List.nil_append, List.getElem?_cons_succ, List.getD_cons_succ]
  exact this
theorem pairCells_len (xs : List PairS) : (pairCells xs).length = xs.length * 2 := by
 induction xs with
 | nil => rfl
 | cons x xs ih => simp only [pairCells, List.flatMap_cons, List.length_append, List.length_cons, List.length_nil] at *; omega
theorem pairCells_app (a b : List PairS) : pairCells (a ++ b) = pairCells a ++ pairCells b := by simp [pairCells]
theorem pairCells_one (l : List PairS) : ∀ u ∈ pairCells l, u.oneCell' = true := by
 intro u hu
 obtain ⟨x, _, hx⟩ := List.mem_flatMap.1 hu
 simp only [List.mem_cons, List.mem_nil_iff, or_false] at hx
 rcases hx with rfl | rfl <;> rfl
theorem pairAt_mem {l : List PairS} {k : Nat} (h : k < l.length) : pairAt l k ∈ l := by
 simp only [pairAt, List.getD_eq_getElem?_getD, List.getElem?_eq_getElem h, Option.getD_some]
 exact List.getElem_mem h
def Pairs (w : World) (v : Value) (l : List PairS) : Prop := Sl w 2 v l.length (pairCells l)
theorem Pairs.ext {w w' : World} {v l} (h : Pairs w v l) (hb : Ext w w') : Pairs w' v l := Sl.ext h hb
theorem Pairs.nil (w : World) : Pairs w (.slice none 0 0) [] := Sl.nil w 2
theorem Pairs.shape {w : World} {v l} (h : Pairs w v l) : ∃ p cap, v = .slice p l.length cap ∧ l.length ≤ cap ∧ cap ≤ maxLen := by
 obtain ⟨p, cap, h1, h2, h3, _⟩ := Sl.shape h
 exact ⟨p, cap, h1, h2, h3⟩
theorem Pairs.at {w : World} {xs : List PairS} {p cap} (h : Pairs w (.slice p xs.length cap) xs) {k : Nat} (hk : k < xs.length) :
  ∃ b off, p = some ⟨b, off, none⟩ ∧ b < w.heap.size ∧ w.cell? ⟨b, off + k*2, none⟩ = some (.string (pairAt xs k).1) ∧ w.cell? ⟨b, off + k*2 + 1, none⟩ = some (.string (pairAt xs k).2) := by
 obtain ⟨b, off, hp, hb, h⟩ := Sl.at h (by omega)
 have := pairCells_at xs k hk
 exact ⟨b, off, hp, hb, h _ _ this.1, by have := h _ _ this.2; rw [show off + (k*2+1) = off + k*2+1 by omega] at this; exact this⟩
theorem Pairs.cells {w : World} {xs : List PairS} {b off cap} (h : Pairs w (.slice (some ⟨b, off, none⟩) xs.length cap) xs) {k : Nat} (hk : k < xs.length) :
  w.cell? ⟨b, off + k*2, none⟩ = some (.string (pairAt xs k).1) ∧ w.cell? ⟨b, off + k*2 + 1, none⟩ = some (.string (pairAt xs k).2) := by
 obtain ⟨b', off', hp, _, h⟩ := h.at hk
 injection hp with hp
 injection hp with e1 e2
 subst e1 e2
 exact h
theorem Pairs.of_row {w : World} {B e : Nat} {v : Value} {n : Nat} {l : List PairS} (h : w.ownsRow B e 2 v n (pairCells l)) (hn : n = l.length) : Pairs w v l := by
 subst hn
 exact Sl.of_owns h
def FitP (l : List PairS) : Prop := ∀ p ∈ l, p.1.size ≤ 140737488351232 ∧ p.2.size ≤ 140737488351232
theorem FitP.nil : FitP [] := fun p hp => by cases hp
def pL (p : PairS) : PairL := (p.1.data.toList, p.2.data.toList)
def labL (l : List PairS) : List PairL := l.map pL
theorem labL_len (l : List PairS) : (labL l).length = l.length := by simp [labL]
def plAt (L : List PairL) (k : Nat) : PairL := L.getD k ([], [])
theorem labL_at (l : List PairS) {k : Nat} (h : k < l.length) : plAt (labL l) k = pL (pairAt l k) := by
 simp [plAt, labL, pairAt, h]
def leB (a b : Bs) : Bool := Op.bytesLess a b || a == b
def okLab (L : List PairL) (k : Nat) : Bool := rightL (plAt L k).1 && (rightL (plAt L k).2 && (k == 0 || !leB (plAt L k).1 (plAt L (k - 1)).1))
def rightLab (L : List PairL) : Bool := decide (L.length ≤ 8) && (List.range L.length).all (okLab L)
theorem rightLab_bad {L : List PairL} {k : Nat} (hk : k < L.length) (h : okLab L k = false) : rightLab L = false := by
 unfold rightLab
 rw [Bool.and_eq_false_iff]
 right
 rw [List.all_eq_false]
 exact ⟨k, List.mem_range.2 hk, by rw [h]; simp⟩
theorem rightLab_all {L : List PairL} (h : ∀ k, k < L.length → okLab L k = true) : rightLab L = decide (L.length ≤ 8) := by
 unfold rightLab
 rw [List.all_eq_true.2 (fun k hk => h k (List.mem_range.1 hk)), Bool.and_true]
theorem rightLab_iff {L : List PairL} : rightLab L = true ↔ L.length ≤ 8 ∧ ∀ k, k < L.length → okLab L k = true := by
 unfold rightLab
 rw [Bool.and_eq_true, decide_eq_true_eq, List.all_eq_true]
 exact ⟨fun h => ⟨h.1, fun k hk => h.2 k (List.mem_range.2 hk)⟩, fun h => ⟨h.1, fun k hk => h.2 k (List.mem_range.1 hk)⟩⟩
def scanV (l : Bs) : Nat → Nat
 | 0 => 0
 | k + 1 => scanV l k + (bAt l k % 128) * 128 ^ k
theorem scanV_lt (l : Bs) : ∀ k, scanV l k < 128 ^ k
 | 0 => by simp [scanV]
 | k + 1 => by
  have ih := scanV_lt l k
  have : (bAt l k % 128) * 128 ^ k ≤ 127 * 128 ^ k := Nat.mul_le_mul_right _ (by omega)
  rw [scanV, Nat.pow_succ]
  omega
def endsAt (l : Bs) (k : Nat) : Bool := decide (bAt l k < 128)
def getL (l : Bs) : Option (Nat × Nat) :=
 match firstP (endsAt l) (List.range (min 10 l.length)) with
 | some k => if putL (scanV l (k + 1) % 18446744073709551616) = l.take (k + 1) then some (scanV l (k + 1) % 18446744073709551616, k + 1) else none
 | none => none
theorem range_getD {n k : Nat} (h : k < n) : (List.range n).getD k 0 = k := by simp [h]
theorem putL_shape : ∀ (n u : Nat), (putL u).length = n + 1 → (∀ j, j < n → 128 ≤ bAt (putL u) j) ∧ bAt (putL u) n < 128 ∧ scanV (putL u) (n + 1) = u
 | 0, u, h => by
  have hs : u < 128 := by
   apply Decidable.byContradiction
   intro hb
   rw [putL_big (by omega)] at h
   have := putL_pos (u / 128)
   rw [List.length_cons] at h; omega
  have hb : bAt (putL u) 0 = u := by rw [putL_small hs]; show (UInt8.ofNat u).toNat = u; rw [UInt8.toNat_ofNat_of_lt' (by show u < 256; omega)]
  refine ⟨fun j hj => by omega, by omega, ?_⟩
  simp only [scanV, hb]; omega
 | n + 1, u, h => by
  have hs : 128 ≤ u := by
   apply Decidable.byContradiction
   intro hb
   rw [putL_small (by omega)] at h
   simp at h
  rw [putL_big hs] at h ⊢
  have hl : (putL (u / 128)).length = n + 1 := by simpa using h
  obtain ⟨h1, h2, h3⟩ := putL_shape n (u / 128) hl
  have h0 : bAt (UInt8.ofNat (u % 128 + 128) :: putL (u / 128)) 0 = u % 128 + 128 := by
   show (UInt8.ofNat (u % 128 + 128)).toNat = _
   rw [UInt8.toNat_ofNat_of_lt' (by show u % 128 + 128 < 256; omega)]
  have hS : ∀ k, bAt (UInt8.ofNat (u % 128 + 128) :: putL (u / 128)) (k + 1) = bAt (putL (u / 128)) k := fun k => rfl
  refine ⟨fun j hj => ?_, by rw [hS]; exact h2, ?_⟩
  ·cases j with
   | zero => rw [h0]; omega
   | succ j => rw [hS]; exact h1 j (by omega)
  ·have key : ∀ k, scanV (UInt8.ofNat (u % 128 + 128) :: putL (u / 128)) (k + 1) = u % 128 + 128 * scanV (putL (u / 128)) k := by
    intro k
    induction k with
    | zero => simp only [scanV, h0]; omega
    | succ k ih =>
     rw [scanV, ih, hS, scanV, Nat.mul_add, Nat.pow_succ]
     have : (bAt (putL (u / 128)) k % 128) * (128 ^ k * 128) = 128 * ((bAt (putL (u / 128)) k % 128) * 128 ^ k) := by
      rw [← Nat.mul_assoc, Nat.mul_comm]
     omega
   rw [key, h3]; omega
theorem scanV_take (l : Bs) (n : Nat) : ∀ k, k ≤ n → scanV (l.take n) k = scanV l k
 | 0, _ => rfl
 | k + 1, h => by
  rw [scanV, scanV, scanV_take l n k (by omega)]
  have : bAt (l.take n) k = bAt l k := by simp [bAt, List.getD_eq_getElem?_getD, show k < n by omega]
  rw [this]
theorem bAt_take' (l : Bs) {n k : Nat} (h : k < n) : bAt (l.take n) k = bAt l k := by
 simp [bAt, List.getD_eq_getElem?_getD, h]
theorem getL_iff {l : Bs} {u n : Nat} : getL l = some (u, n) ↔ U64 u ∧ n = (putL u).length ∧ putL u = l.take n ∧ n ≤ l.length := by
 constructor
 ·intro h
  unfold getL at h
  cases hf : firstP (endsAt l) (List.range (min 10 l.length)) with
  | none => rw [hf] at h; cases h
  | some k =>
   rw [hf] at h
   simp only at h
   split at h
   ·rename_i hp
    injection h with h
    injection h with h1 h2
    obtain ⟨hk, _, _⟩ := firstP_some 0 hf
    rw [List.length_range] at hk
    subst h1 h2
    have hlen : (l.take (k + 1)).length = k + 1 := by rw [List.length_take]; omega
    exact ⟨Nat.mod_lt _ (by decide), by rw [hp, hlen], hp, by omega⟩
   ·cases h
 ·rintro ⟨hu, rfl, hp, hl⟩
  obtain ⟨n, hn⟩ : ∃ n, (putL u).length = n + 1 := ⟨(putL u).length - 1, by have := putL_pos u; omega⟩
  obtain ⟨h1, h2, h3⟩ := putL_shape n u hn
  have h10 := putL_ten hu
  rw [hn] at hp hl h10
  have hat : ∀ j, j < n + 1 → bAt (putL u) j = bAt l j := fun j hj => by rw [hp, bAt_take' l hj]
  have hf : firstP (endsAt l) (List.range (min 10 l.length)) = some n := by
   refine firstP_hit 0 (by rw [List.length_range]; omega) (fun j hj => ?_) ?_
   ·rw [range_getD (by omega)]
    have := h1 j hj
    rw [hat j (by omega)] at this
    simp only [endsAt, decide_eq_false_iff_not]; omega
   ·rw [range_getD (by omega)]
    rw [hat n (by omega)] at h2
    simp only [endsAt, decide_eq_true_eq]; exact h2
  have hs : scanV l (n + 1) = u := by
   rw [← scanV_take l (n + 1) (n + 1) (Nat.le_refl _), ← hp]; exact h3
  have hm : u % 18446744073709551616 = u := Nat.mod_eq_of_lt hu
  unfold getL
  rw [hf]
  simp only
  rw [hs, hm, if_pos hp, hn]
theorem getL_len {l : Bs} {u n : Nat} (h : getL l = some (u, n)) : 1 ≤ n ∧ n ≤ l.length ∧ n ≤ 10 ∧ U64 u := by
 obtain ⟨h1, h2, _, h4⟩ := getL_iff.1 h
 have := putL_pos u
 have := putL_ten h1
 exact ⟨by omega, h4, by omega, h1⟩
def getI (l : Bs) (at' : Int) : Nat × Int × Bool :=
 if at' < 0 ∨ (l.length : Int) ≤ at' then (0, 0, false) else
  match getL (l.drop at'.toNat) with
  | some (u, n) => (u, at' + n, true)
  | none => (0, 0, false)
theorem getI_out {l : Bs} {at' : Int} (h : at' < 0 ∨ (l.length : Int) ≤ at') : getI l at' = (0, 0, false) := by
 unfold getI; rw [if_pos h]
theorem getI_in {l : Bs} {k : Nat} (h : k < l.length) : getI l k = match getL (l.drop k) with | some (u, n) => (u, (k : Int) + n, true) | none => (0, 0, false) := by
 unfold getI
 rw [if_neg (by omega)]
 rfl
theorem low7 {b : Nat} (h : b < 256) : Go.bits .andNot .u8 (b : Int) 128 = ((b % 128 : Nat) : Int) := by
 have := u8_andNot_nat b 128 h (by omega)
 rw [show ((128 : Nat) : Int) = 128 from rfl] at this
 rw [this]
 congr 1
 exact Nat.and_two_pow_sub_one_eq_mod b 7
theorem pow7 (j : Nat) : (2 : Nat) ^ (7 * j) = 128 ^ j := by rw [Nat.pow_mul]
theorem scan_step (l : Bs) {j : Nat} (hb : bAt l j < 256) :
  Go.bits .or .u64 ((scanV l j % 18446744073709551616 : Nat) : Int) (IntKind.u64.wrap (IntKind.u64.wrap (Go.bits .andNot .u8 (bAt l j : Int) 128) * 2 ^ (7 * j))) = ((scanV l (j + 1) % 18446744073709551616 : Nat) : Int) := by
 have hw : ∀ n : Nat, IntKind.u64.wrap (n : Int) = ((n % 18446744073709551616 : Nat) : Int) := by
  intro n
  simp only [IntKind.wrap, IntKind.bits, IntKind.signed]
  simp
 rw [low7 hb, hw, Nat.mod_eq_of_lt (show bAt l j % 128 < 18446744073709551616 by omega)]
 rw [show (((bAt l j % 128 : Nat) : Int) * 2 ^ (7 * j)) = ((bAt l j % 128 * 2 ^ (7 * j) : Nat) : Int) by push_cast; rfl, hw]
 rw [bits_or_u64_nat _ _ (Nat.mod_lt _ (by decide)) (Nat.mod_lt _ (by decide))]
 congr 1
 have h1 : scanV l j < 2 ^ (7 * j) := by rw [pow7]; exact scanV_lt l j
 have h2 := Nat.two_pow_add_eq_or_of_lt h1 (bAt l j % 128)
 rw [show (18446744073709551616 : Nat) = 2 ^ 64 from rfl, ← Nat.or_mod_two_pow, Nat.or_comm, scanV, ← pow7, Nat.add_comm, Nat.mul_comm, h2, Nat.mul_comm]
theorem getL_at {l : Bs} {j : Nat} (hj : j < 10) (hl : j < l.length) (hn : ∀ i, i < j → endsAt l i = false) (he : endsAt l j = true) :
  getL l = if putL (scanV l (j + 1) % 18446744073709551616) = l.take (j + 1) then some (scanV l (j + 1) % 18446744073709551616, j + 1) else none := by
 have hf : firstP (endsAt l) (List.range (min 10 l.length)) = some j := by
  refine firstP_hit 0 (by rw [List.length_range]; omega) (fun i hi => ?_) ?_
  ·rw [range_getD (by omega)]; exact hn i hi
  ·rw [range_getD (by omega)]; exact he
 unfold getL
 rw [hf]
theorem getL_no {l : Bs} (hn : ∀ i, i < min 10 l.length → endsAt l i = false) : getL l = none := by
 have hf : firstP (endsAt l) (List.range (min 10 l.length)) = none := by
  cases h : firstP (endsAt l) (List.range (min 10 l.length)) with
  | none => rfl
  | some k =>
   obtain ⟨h1, h2, _⟩ := firstP_some 0 h
   rw [List.length_range] at h1
   rw [range_getD h1, hn k h1] at h2
   cases h2
 unfold getL
 rw [hf]
def longL (l : Bs) : Nat := if l.isEmpty then 0 else if bAt l 0 < 128 then 1 else if wideL l = 1 then 0 else wideL l
theorem contB_iff {l : Bs} {k : Nat} : contB l k = true ↔ k < l.length ∧ 128 ≤ bAt l k ∧ bAt l k ≤ 191 := by
 unfold contB
 rw [Bool.and_eq_true, decide_eq_true_eq, beq_iff_eq]
 constructor
 ·rintro ⟨h1, h2⟩; omega
 ·rintro ⟨h1, h2⟩; omega
def longC (n low high : Nat) (l : Bs) : Prop := n ≤ l.length ∧ low ≤ bAt l 1 ∧ bAt l 1 ≤ high ∧ ∀ j, 2 ≤ j → j < n → 128 ≤ bAt l j ∧ bAt l j ≤ 191
theorem long_head {l : Bs} (h : 0 < l.length) (h1 : bAt l 0 < 128) : longL l = 1 := by
 have : l.isEmpty = false := by cases l <;> simp_all
 simp [longL, this, h1]
theorem longL_wide {l : Bs} (h : 0 < l.length) (h1 : ¬ bAt l 0 < 128) : longL l = if wideL l = 1 then 0 else wideL l := by
 have : l.isEmpty = false := by cases l <;> simp_all
 simp [longL, this, h1]
theorem wide_bad {l : Bs} (h1 : ¬ bAt l 0 < 128) (h2 : bAt l 0 < 194 ∨ 244 < bAt l 0) : wideL l = 1 := by
 have hb := bAt_lt l 0
 unfold wideL decL
 rw [if_neg h1]
 split
 ·rename_i h
  simp only [Bool.and_eq_true, beq_iff_eq] at h
  split
  ·have hb1 := (contB_iff.1 h.2).2
   simp only; omega
  ·rfl
 ·split
  ·rename_i h
   simp only [Bool.and_eq_true, beq_iff_eq] at h
   omega
  ·split
   ·rename_i h
    simp only [Bool.and_eq_true, beq_iff_eq] at h
    split
    ·rename_i hv
     simp only [Bool.and_eq_true, decide_eq_true_eq, Utf8.valid, Bool.or_eq_true] at hv
     simp only; omega
    ·rfl
   ·rfl
theorem wide_2 {l : Bs} (h : 194 ≤ bAt l 0 ∧ bAt l 0 ≤ 223) : wideL l = if contB l 1 = true then 2 else 1 := by
 unfold wideL decL
 rw [if_neg (by omega)]
 cases hc : contB l 1 with
 | true =>
  have h6 : (bAt l 0 / 32 == 6) = true := by rw [beq_iff_eq]; omega
  rw [h6, Bool.true_and, if_pos rfl, if_pos (by omega), if_pos rfl]
 | false =>
  have e1 : (bAt l 0 / 16 == 14) = false := by rw [beq_eq_false_iff_ne]; omega
  have e2 : (bAt l 0 / 8 == 30) = false := by rw [beq_eq_false_iff_ne]; omega
  simp [e1, e2]
theorem wide_3 {l : Bs} (h : 224 ≤ bAt l 0 ∧ bAt l 0 ≤ 239) : wideL l = if (contB l 1 && contB l 2) = true ∧ (bAt l 0 = 224 → 160 ≤ bAt l 1) ∧ (bAt l 0 = 237 → bAt l 1 ≤ 159) then 3 else 1 := by
 unfold wideL decL
 have e0 : (bAt l 0 / 32 == 6) = false := by rw [beq_eq_false_iff_ne]; omega
 have e1 : (bAt l 0 / 16 == 14) = true := by rw [beq_iff_eq]; omega
 have e2 : (bAt l 0 / 8 == 30) = false := by rw [beq_eq_false_iff_ne]; omega
 rw [if_neg (by omega), e0, e1, e2]
 simp only [Bool.false_and, Bool.true_and, Bool.false_eq_true, if_false]
 cases hc : (contB l 1 && contB l 2) with
 | false => simp
 | true =>
  rw [Bool.and_eq_true, contB_iff, contB_iff] at hc
  simp only [if_true, true_and]
  split
  ·rename_i hv
   simp only [Bool.and_eq_true, decide_eq_true_eq, Utf8.valid, Bool.or_eq_true] at hv
   rw [if_pos (by omega)]
  ·rename_i hv
   simp only [Bool.and_eq_true, decide_eq_true_eq, Utf8.valid, Bool.or_eq_true] at hv
   rw [if_neg (by omega)]
theorem wide_4 {l : Bs} (h : 240 ≤ bAt l 0 ∧ bAt l 0 ≤ 244) : wideL l = if (contB l 1 && contB l 2 && contB l 3) = true ∧ (bAt l 0 = 240 → 144 ≤ bAt l 1) ∧ (bAt l 0 = 244 → bAt l 1 ≤ 143) then 4 else 1 := by
 unfold wideL decL
 have e0 : (bAt l 0 / 32 == 6) = false := by rw [beq_eq_false_iff_ne]; omega
 have e1 : (bAt l 0 / 16 == 14) = false := by rw [beq_eq_false_iff_ne]; omega
 have e2 : (bAt l 0 / 8 == 30) = true := by rw [beq_iff_eq]; omega
 rw [if_neg (by omega), e0, e1, e2]
 simp only [Bool.false_and, Bool.true_and, Bool.false_eq_true, if_false]
 cases hc : (contB l 1 && contB l 2 && contB l 3) with
 | false => simp
 | true =>
  rw [Bool.and_eq_true, Bool.and_eq_true, contB_iff, contB_iff, contB_iff] at hc
  simp only [if_true, true_and]
  split
  ·rename_i hv
   simp only [Bool.and_eq_true, decide_eq_true_eq, Utf8.valid, Bool.or_eq_true] at hv
   rw [if_pos (by omega)]
  ·rename_i hv
   simp only [Bool.and_eq_true, decide_eq_true_eq, Utf8.valid, Bool.or_eq_true] at hv
   rw [if_neg (by omega)]
def lowOf (a : Nat) : Nat := if a = 224 then 160 else if a = 240 then 144 else 128
def highOf (a : Nat) : Nat := if a = 237 then 159 else if a = 244 then 143 else 191
def sizeOf' (a : Nat) : Nat := if 240 ≤ a then 4 else if 224 ≤ a then 3 else 2
theorem long_bad {l : Bs} (h : 0 < l.length) (h1 : ¬ bAt l 0 < 128) (h2 : bAt l 0 < 194 ∨ 244 < bAt l 0) : longL l = 0 := by
 rw [longL_wide h h1, wide_bad h1 h2, if_pos rfl]
theorem long_yes {l : Bs} (h : 0 < l.length) (h1 : 194 ≤ bAt l 0) (h2 : bAt l 0 ≤ 244) (hc : longC (sizeOf' (bAt l 0)) (lowOf (bAt l 0)) (highOf (bAt l 0)) l) : longL l = sizeOf' (bAt l 0) := by
 obtain ⟨g1, g2, g3, g4⟩ := hc
 rw [longL_wide h (by omega)]
 unfold sizeOf' lowOf highOf at *
 by_cases c4 : 240 ≤ bAt l 0
 ·rw [if_pos c4] at g1 g4 ⊢
  have hlo : 128 ≤ bAt l 1 ∧ (bAt l 0 = 240 → 144 ≤ bAt l 1) := by
   rw [if_neg (by omega)] at g2; split at g2 <;> omega
  have hhi : bAt l 1 ≤ 191 ∧ (bAt l 0 = 244 → bAt l 1 ≤ 143) := by
   rw [if_neg (by omega)] at g3; split at g3 <;> omega
  have h2' := g4 2 (by omega) (by omega)
  have h3' := g4 3 (by omega) (by omega)
  have hw4 : wideL l = 4 := by
   rw [wide_4 (by omega)]
   refine if_pos ⟨?_, hlo.2, hhi.2⟩
   rw [Bool.and_eq_true, Bool.and_eq_true, contB_iff, contB_iff, contB_iff]
   exact ⟨⟨⟨by omega, hlo.1, hhi.1⟩, by omega, h2'⟩, by omega, h3'⟩
  rw [hw4]
  rfl
 ·rw [if_neg c4] at g1 g4 ⊢
  by_cases c3 : 224 ≤ bAt l 0
  ·rw [if_pos c3] at g1 g4 ⊢
   have hlo : 128 ≤ bAt l 1 ∧ (bAt l 0 = 224 → 160 ≤ bAt l 1) := by
    split at g2
    ·omega
    ·rw [if_neg (by omega)] at g2; omega
   have hhi : bAt l 1 ≤ 191 ∧ (bAt l 0 = 237 → bAt l 1 ≤ 159) := by
    split at g3
    ·omega
    ·rw [if_neg (by omega)] at g3; omega
   have h2' := g4 2 (by omega) (by omega)
   have hw3 : wideL l = 3 := by
    rw [wide_3 (by omega)]
    refine if_pos ⟨?_, hlo.2, hhi.2⟩
    rw [Bool.and_eq_true, contB_iff, contB_iff]
    exact ⟨⟨by omega, hlo.1, hhi.1⟩, by omega, h2'⟩
   rw [hw3]
   rfl
  ·rw [if_neg c3] at g1 ⊢
   rw [if_neg (by omega), if_neg (by omega)] at g2 g3
   rw [wide_2 (by omega), if_pos (contB_iff.2 ⟨by omega, by omega, by omega⟩)]
   rfl
theorem long_no {l : Bs} (h : 0 < l.length) (h1 : 194 ≤ bAt l 0) (h2 : bAt l 0 ≤ 244) (hc : ¬ longC (sizeOf' (bAt l 0)) (lowOf (bAt l 0)) (highOf (bAt l 0)) l) : longL l = 0 := by
 rw [longL_wide h (by omega), if_pos]
 unfold sizeOf' lowOf highOf at hc
 by_cases c4 : 240 ≤ bAt l 0
 ·rw [wide_4 (by omega), if_neg]
  intro hw
  rw [Bool.and_eq_true, Bool.and_eq_true, contB_iff, contB_iff, contB_iff] at hw
  apply hc
  rw [if_pos c4, if_neg (c := bAt l 0 = 224) (by omega), if_neg (c := bAt l 0 = 237) (by omega)]
  refine ⟨by omega, ?_, ?_, ?_⟩
  ·split <;> omega
  ·split <;> omega
  ·intro j hj1 hj2
   obtain rfl | rfl : j = 2 ∨ j = 3 := by omega
   ·omega
   ·omega
 ·by_cases c3 : 224 ≤ bAt l 0
  ·rw [wide_3 (by omega), if_neg]
   intro hw
   rw [Bool.and_eq_true, contB_iff, contB_iff] at hw
   apply hc
   rw [if_neg c4, if_pos c3, if_neg (c := bAt l 0 = 240) (by omega), if_neg (c := bAt l 0 = 244) (by omega)]
   refine ⟨by omega, ?_, ?_, ?_⟩
   ·split <;> omega
   ·split <;> omega
   ·intro j hj1 hj2
    obtain rfl : j = 2 := by omega
    omega
  ·rw [wide_2 (by omega), if_neg]
   intro hw
   rw [contB_iff] at hw
   apply hc
   rw [if_neg c4, if_neg c3, if_neg (c := bAt l 0 = 224) (by omega), if_neg (c := bAt l 0 = 240) (by omega), if_neg (c := bAt l 0 = 237) (by omega), if_neg (c := bAt l 0 = 244) (by omega)]
   exact ⟨by omega, by omega, by omega, fun j _ _ => by omega⟩
theorem long_max {l : Bs} (h : l ≠ []) : max (longL l) 1 = wideL l := by
 have h0 : 0 < l.length := List.length_pos_iff.2 h
 have hw := wideL_pos l
 by_cases h1 : bAt l 0 < 128
 ·rw [long_head h0 h1]
  unfold wideL decL
  rw [if_pos h1]
  rfl
 ·rw [longL_wide h0 h1]
  split <;> omega
theorem long_le (l : Bs) : longL l ≤ l.length := by
 by_cases h : l = []
 ·subst h; simp [longL]
 ·have := long_max h
  have := wideL_le h
  omega
theorem long_zero {l : Bs} (h : l ≠ []) (h0 : longL l = 0) : letterB (runeL l) = false ∧ markB (runeL l) = false := by
 have hl : 0 < l.length := List.length_pos_iff.2 h
 have h1 : ¬ bAt l 0 < 128 := by intro h1; rw [long_head hl h1] at h0; cases h0
 have hw : wideL l = 1 := by have := long_max h; omega
 have hr : runeL l = 65533 := by
  unfold wideL runeL decL at *
  rw [if_neg h1] at hw ⊢
  split at hw
  ·split at hw
   ·simp at hw
   ·rename_i h2 h3; rw [if_pos h2, if_neg h3]
  ·rename_i h2
   rw [if_neg h2]
   split at hw
   ·split at hw
    ·simp at hw
    ·rename_i h3 h4; rw [if_pos h3, if_neg h4]
   ·rename_i h3
    rw [if_neg h3]
    split at hw
    ·split at hw
     ·simp at hw
     ·rename_i h4 h5; rw [if_pos h4, if_neg h5]
    ·rename_i h4; rw [if_neg h4]
 rw [hr]
 exact ⟨by decide, by decide⟩
theorem long_wide {l : Bs} (h : longL l ≠ 0) : wideL l = longL l := by
 have hne : l ≠ [] := by intro e; subst e; exact h rfl
 have := long_max hne
 omega
theorem rune_1 {l : Bs} (h : longL l = 1) : runeL l = bAt l 0 ∧ bAt l 0 < 128 := by
 have hne : l ≠ [] := by intro e; subst e; cases h
 have hl : 0 < l.length := List.length_pos_iff.2 hne
 have h1 : bAt l 0 < 128 := by
  apply Decidable.byContradiction
  intro h1
  rw [longL_wide hl h1] at h
  split at h
  ·cases h
  ·contradiction
 refine ⟨?_, h1⟩
 unfold runeL decL
 rw [if_pos h1]
theorem long_not_small {l : Bs} (h : 2 ≤ longL l) : 194 ≤ bAt l 0 ∧ bAt l 0 ≤ 244 ∧ longL l = sizeOf' (bAt l 0) ∧ longC (sizeOf' (bAt l 0)) (lowOf (bAt l 0)) (highOf (bAt l 0)) l := by
 have hne : l ≠ [] := by intro e; subst e; simp [longL] at h
 have hl : 0 < l.length := List.length_pos_iff.2 hne
 have h1 : ¬ bAt l 0 < 128 := by intro h1; rw [long_head hl h1] at h; omega
 have h2 : ¬ (bAt l 0 < 194 ∨ 244 < bAt l 0) := by intro h2; rw [long_bad hl h1 h2] at h; omega
 by_cases hc : longC (sizeOf' (bAt l 0)) (lowOf (bAt l 0)) (highOf (bAt l 0)) l
 ·exact ⟨by omega, by omega, long_yes hl (by omega) (by omega) hc, hc⟩
 ·rw [long_no hl (by omega) (by omega) hc] at h; omega
theorem rune_2 {l : Bs} (h : longL l = 2) : runeL l = bAt l 0 % 32 * 64 + bAt l 1 % 64 := by
 obtain ⟨h1, h2, h3, g1, g2, g3, _⟩ := long_not_small (l := l) (by omega)
 rw [h3] at h
 have hlt : bAt l 0 < 224 := by
  unfold sizeOf' at h
  split at h
  ·cases h
  ·split at h
   ·cases h
   ·omega
 unfold lowOf at g2
 unfold highOf at g3
 rw [if_neg (by omega), if_neg (by omega)] at g2 g3
 rw [h] at g1
 have hc : contB l 1 = true := contB_iff.2 ⟨by omega, g2, g3⟩
 have h6 : (bAt l 0 / 32 == 6) = true := by rw [beq_iff_eq]; omega
 unfold runeL decL
 rw [if_neg (by omega), h6, hc, Bool.and_self, if_pos rfl, if_pos (by omega)]
theorem rune_3 {l : Bs} (h : 3 ≤ longL l) : 2048 ≤ runeL l := by
 have hw := long_wide (l := l) (by omega)
 rw [← hw] at h
 unfold wideL at h
 unfold runeL
 generalize hd : decL l = d at *
 unfold decL at hd
 split at hd
 ·subst hd; simp at h
 ·split at hd
  ·split at hd <;> (subst hd; simp at h)
  ·split at hd
   ·split at hd
    ·rename_i hv
     simp only [Bool.and_eq_true, decide_eq_true_eq] at hv
     subst hd; exact hv.1
    ·subst hd; simp at h
   ·split at hd
    ·split at hd
     ·rename_i hv
      simp only [Bool.and_eq_true, decide_eq_true_eq] at hv
      subst hd; simp only; omega
     ·subst hd; simp at h
    ·subst hd; simp at h
def letterR (r : Bs) : Bool := if r.length = 1 then decide (97 ≤ bAt r 0) && decide (bAt r 0 ≤ 122) else if r.length = 2 then
 (decide (945 ≤ bAt r 0 % 32 * 64 + bAt r 1 % 64) && decide (bAt r 0 % 32 * 64 + bAt r 1 % 64 ≤ 969)) || (decide (1072 ≤ bAt r 0 % 32 * 64 + bAt r 1 % 64) && decide (bAt r 0 % 32 * 64 + bAt r 1 % 64 ≤ 1103)) else false
theorem bAt_take (l : Bs) {n k : Nat} (h : k < n) : bAt (l.take n) k = bAt l k := by
 simp [bAt, List.getD_eq_getElem?_getD, h]
theorem letter_take {l : Bs} (h : longL l ≠ 0) : letterR (l.take (longL l)) = letterB (runeL l) := by
 have hle := long_le l
 have hlen : (l.take (longL l)).length = longL l := by rw [List.length_take]; omega
 unfold letterR
 rw [hlen]
 by_cases h1 : longL l = 1
 ·rw [if_pos h1, bAt_take l (by omega), (rune_1 h1).1]
  have := (rune_1 h1).2
  unfold letterB
  have e1 : decide (945 ≤ bAt l 0) = false := by rw [decide_eq_false_iff_not]; omega
  have e2 : decide (1072 ≤ bAt l 0) = false := by rw [decide_eq_false_iff_not]; omega
  simp [e1, e2]
 ·rw [if_neg h1]
  by_cases h2 : longL l = 2
  ·rw [if_pos h2, bAt_take l (by omega), bAt_take l (by omega), ← rune_2 h2]
   have : 128 ≤ runeL l := by
    have := rune_2 h2
    have := (long_not_small (l := l) (by omega)).1
    have h3 := (long_not_small (l := l) (by omega)).2.1
    have h4 := (long_not_small (l := l) (by omega)).2.2.1
    rw [h2] at h4
    unfold sizeOf' at h4
    split at h4
    ·cases h4
    ·split at h4
     ·cases h4
     ·omega
   unfold letterB
   have e1 : decide (runeL l ≤ 122) = false := by rw [decide_eq_false_iff_not]; omega
   simp [e1]
  ·rw [if_neg h2]
   have := rune_3 (l := l) (by omega)
   unfold letterB
   have e1 : decide (runeL l ≤ 122) = false := by rw [decide_eq_false_iff_not]; omega
   have e2 : decide (runeL l ≤ 969) = false := by rw [decide_eq_false_iff_not]; omega
   have e3 : decide (runeL l ≤ 1103) = false := by rw [decide_eq_false_iff_not]; omega
   simp [e1, e2, e3]
def markR (r : Bs) (n : Nat) : Bool := (r == [45]) || (n == 1 && (decide (48 ≤ bAt r 0) && decide (bAt r 0 ≤ 57)))
theorem mark_take {l : Bs} (h : longL l ≠ 0) : markR (l.take (longL l)) (longL l) = markB (runeL l) := by
 have hle := long_le l
 have hlen : (l.take (longL l)).length = longL l := by rw [List.length_take]; omega
 unfold markR markB
 by_cases h1 : longL l = 1
 ·have hb : (l.take (longL l) == [45]) = (runeL l == 45) := by
   rw [Bool.eq_iff_iff, beq_iff_eq, beq_iff_eq, h1, (rune_1 h1).1]
   cases l with
   | nil => simp [longL] at h1
   | cons a t =>
    show [a] = [45] ↔ a.toNat = 45
    constructor
    ·intro h; injection h with h; rw [h]; rfl
    ·intro h; rw [show a = 45 from UInt8.toNat_inj.1 h]
  rw [hb, h1, bAt_take l (by omega), (rune_1 h1).1]
  simp only [beq_self_eq_true, Bool.true_and]
  rw [Bool.or_comm]
 ·have hb : (l.take (longL l) == [45]) = false := by
   rw [beq_eq_false_iff_ne]
   intro h
   rw [h] at hlen
   simp at hlen; omega
  have hn : (longL l == 1) = false := by rw [beq_eq_false_iff_ne]; exact h1
  have hr : 128 ≤ runeL l := by
   by_cases h2 : longL l = 2
   ·have := rune_2 h2
    have := (long_not_small (l := l) (by omega)).1
    have h3 := (long_not_small (l := l) (by omega)).2.1
    have h4 := (long_not_small (l := l) (by omega)).2.2.1
    rw [h2] at h4
    unfold sizeOf' at h4
    split at h4
    ·cases h4
    ·split at h4
     ·cases h4
     ·omega
   ·have := rune_3 (l := l) (by omega); omega
  have e1 : decide (runeL l ≤ 57) = false := by rw [decide_eq_false_iff_not]; omega
  have e2 : (runeL l == 45) = false := by rw [beq_eq_false_iff_ne]; omega
  rw [hb, hn, e1, e2]
  simp
abbrev Vc := List Nat
structure OkV (a : Vc) : Prop where
 len : a.length = 4
 u64 : ∀ k, U64 (a.getD k 0)
def noV : Vc := [0, 0, 0, 0]
theorem okV_mk {a b c d : Nat} (ha : U64 a) (hb : U64 b) (hc : U64 c) (hd : U64 d) : OkV [a, b, c, d] := by
 refine ⟨rfl, fun k => ?_⟩
 match k with
 | 0 => exact ha
 | 1 => exact hb
 | 2 => exact hc
 | 3 => exact hd
 | k + 4 => show U64 0; unfold U64; omega
theorem OkV.ex {a : Vc} (h : OkV a) : ∃ x y z u, a = [x, y, z, u] ∧ U64 x ∧ U64 y ∧ U64 z ∧ U64 u := by
 obtain ⟨hl, hu⟩ := h
 match a, hl, hu with
 | [x, y, z, u], _, hu => exact ⟨x, y, z, u, rfl, hu 0, hu 1, hu 2, hu 3⟩
theorem okV_no : OkV noV := okV_mk (by unfold U64; omega) (by unfold U64; omega) (by unfold U64; omega) (by unfold U64; omega)
def vF (A : Nat → Nat) : Value := .agg #[.int .u64 (A 0 : Nat), .int .u64 (A 1 : Nat), .int .u64 (A 2 : Nat), .int .u64 (A 3 : Nat)]
def vG (a : Vc) (k : Nat) : Nat := a.getD k 0
def vVal (a : Vc) : Value := vF (vG a)
theorem vF_eq {A B : Nat → Nat} (h : ∀ k, k < 4 → A k = B k) : vF A = vF B := by
 unfold vF; rw [h 0 (by omega), h 1 (by omega), h 2 (by omega), h 3 (by omega)]
def vOr (ok : Bool) (v : Vc) : Vc := if ok then v else noV
theorem scan_cons (a : UInt8) (t : Bs) : ∀ k, scanV (a :: t) (k + 1) = a.toNat % 128 + 128 * scanV t k
 | 0 => by simp [scanV, bAt]
 | k + 1 => by
  rw [scanV, scan_cons a t k, scanV, Nat.mul_add, Nat.pow_succ]
  have hS : bAt (a :: t) (k + 1) = bAt t k := rfl
  rw [hS]
  have : (bAt t k % 128) * (128 ^ k * 128) = 128 * ((bAt t k % 128) * 128 ^ k) := by
   rw [← Nat.mul_assoc, Nat.mul_comm]
  omega
theorem scan_pos {l : Bs} {k : Nat} (h1 : bAt l k < 128) (h0 : bAt l k ≠ 0) : 1 ≤ scanV l (k + 1) := by
 rw [scanV]
 have : 1 ≤ (bAt l k % 128) * 128 ^ k := Nat.mul_pos (by omega) (Nat.pow_pos (by decide))
 omega
theorem u8_eq {a : UInt8} {n : Nat} (h : n = a.toNat) : UInt8.ofNat n = a := by subst h; exact UInt8.ofNat_toNat
theorem putL_scan : ∀ (k : Nat) (l : Bs), k < l.length → (∀ i, i < k → endsAt l i = false) → bAt l k < 128 → (0 < k → bAt l k ≠ 0) → putL (scanV l (k + 1)) = l.take (k + 1)
 | 0, l, hl, _, he, _ => by
  cases l with
  | nil => simp at hl
  | cons a t =>
   have ha : bAt (a :: t) 0 = a.toNat := rfl
   rw [ha] at he
   have hs : scanV (a :: t) (0 + 1) = a.toNat := by rw [scan_cons]; simp only [scanV]; omega
   rw [hs, putL_small he, u8_eq rfl]; rfl
 | k + 1, l, hl, hn, he, h0 => by
  cases l with
  | nil => simp at hl
  | cons a t =>
   have ha : bAt (a :: t) 0 = a.toNat := rfl
   have hS : ∀ i, bAt (a :: t) (i + 1) = bAt t i := fun i => rfl
   have h128 : 128 ≤ a.toNat := by
    have := hn 0 (by omega)
    simp only [endsAt, ha, decide_eq_false_iff_not] at this
    omega
   have hlt : a.toNat < 256 := a.toNat_lt
   have hp := scan_pos (l := t) (k := k) (by rw [← hS]; exact he) (by rw [← hS]; exact h0 (by omega))
   have ih := putL_scan k t (by simpa using hl) (fun i hi => by have := hn (i + 1) (by omega); simp only [endsAt, hS] at this ⊢; exact this) (by rw [← hS]; exact he) (fun _ => by rw [← hS]; exact h0 (by omega))
   rw [scan_cons, putL_big (by omega), show (a.toNat % 128 + 128 * scanV t (k + 1)) / 128 = scanV t (k + 1) by omega, ih, u8_eq (a := a) (by omega), List.take_succ_cons]
theorem putL_last : ∀ (n u : Nat), (putL u).length = n + 1 → 0 < n → bAt (putL u) n ≠ 0
 | 0, _, _, h => by omega
 | n + 1, u, h, _ => by
  have hs : 128 ≤ u := by
   apply Decidable.byContradiction
   intro hb
   rw [putL_small (by omega)] at h
   simp at h
  rw [putL_big hs] at h ⊢
  have hl : (putL (u / 128)).length = n + 1 := by simpa using h
  show bAt (putL (u / 128)) n ≠ 0
  by_cases h0 : n = 0
  ·subst h0
   have hs2 : u / 128 < 128 := by
    apply Decidable.byContradiction
    intro hb
    rw [putL_big (by omega)] at hl
    have := putL_pos (u / 128 / 128)
    rw [List.length_cons] at hl; omega
   rw [putL_small hs2]
   show (UInt8.ofNat (u / 128)).toNat ≠ 0
   rw [UInt8.toNat_ofNat_of_lt' (by show _ < 256; omega)]
   omega
  ·exact putL_last n _ hl (by omega)
theorem scan_u64 {l : Bs} {k : Nat} (hk : k < 10) (h9 : k = 9 → bAt l k % 128 ≤ 1) : U64 (scanV l (k + 1)) := by
 rw [scanV]
 have h1 := scanV_lt l k
 have h2 : bAt l k % 128 ≤ 127 := by omega
 generalize bAt l k % 128 = d at *
 show _ < 18446744073709551616
 rcases (by omega : k ≤ 8 ∨ k = 9) with hk8 | rfl
 ·have h3 : (128 : Nat) ^ k ≤ 128 ^ 8 := Nat.pow_le_pow_right (by decide) hk8
  have h4 : d * 128 ^ k ≤ 127 * 128 ^ 8 := Nat.mul_le_mul h2 h3
  have : (128 : Nat) ^ 8 = 72057594037927936 := by decide
  omega
 ·have h3 := h9 rfl
  have : (128 : Nat) ^ 9 = 9223372036854775808 := by decide
  rw [this] at h1 ⊢
  have h4 : d * 9223372036854775808 ≤ 1 * 9223372036854775808 := Nat.mul_le_mul_right _ h3
  omega
theorem getL_built {l : Bs} {k : Nat} (hk : k < 10) (hl : k < l.length) (hn : ∀ i, i < k → endsAt l i = false) (he : bAt l k < 128) (h9 : k = 9 → bAt l k % 128 ≤ 1) (h0 : 0 < k → bAt l k ≠ 0) : getL l = some (scanV l (k + 1), k + 1) := by
 have hp := putL_scan k l hl hn he h0
 refine getL_iff.2 ⟨scan_u64 hk h9, ?_, hp, by omega⟩
 rw [hp, List.length_take]; omega
theorem getL_find {l : Bs} {u n : Nat} (h : getL l = some (u, n)) : ∃ k, n = k + 1 ∧ k < 10 ∧ k < l.length ∧ (∀ i, i < k → endsAt l i = false) ∧ bAt l k < 128 ∧ scanV l (k + 1) = u ∧ U64 u ∧ (0 < k → bAt l k ≠ 0) := by
 obtain ⟨hu, rfl, hp, hl⟩ := getL_iff.1 h
 obtain ⟨n, hn⟩ : ∃ n, (putL u).length = n + 1 := ⟨(putL u).length - 1, by have := putL_pos u; omega⟩
 obtain ⟨h1, h2, h3⟩ := putL_shape n u hn
 have h4 := putL_last n u hn
 have h10 := putL_ten hu
 rw [hn] at hp hl h10
 have hat : ∀ j, j < n + 1 → bAt (putL u) j = bAt l j := fun j hj => by rw [hp, bAt_take' l hj]
 rw [hat n (by omega)] at h2 h4
 refine ⟨n, hn, by omega, by omega, fun i hi => ?_, h2, ?_, hu, h4⟩
 ·have := h1 i hi
  rw [hat i (by omega)] at this
  simp only [endsAt, decide_eq_false_iff_not]; omega
 ·rw [← scanV_take l (n + 1) (n + 1) (Nat.le_refl _), ← hp]; exact h3
theorem getL_great {l : Bs} (hn : ∀ i, i < 9 → endsAt l i = false) (h : 1 < bAt l 9 % 128) : getL l = none := by
 cases hg : getL l with
 | none => rfl
 | some x =>
  exfalso
  obtain ⟨u, n⟩ := x
  obtain ⟨k, _, hk, hl, hk1, hk2, hk3, hk4, _⟩ := getL_find hg
  have hk9 : k = 9 := by
   apply Decidable.byContradiction
   intro hne
   have := hn k (by omega)
   simp only [endsAt, decide_eq_false_iff_not] at this
   omega
  subst hk9
  rw [scanV] at hk3
  have h3 : 2 * 128 ^ 9 ≤ (bAt l 9 % 128) * 128 ^ 9 := Nat.mul_le_mul_right _ (by omega)
  have : (128 : Nat) ^ 9 = 9223372036854775808 := by decide
  rw [this] at h3 hk3
  unfold U64 at hk4
  omega
theorem getL_empty {l : Bs} {k : Nat} (hk : 0 < k) (hn : ∀ i, i < k → endsAt l i = false) (h : bAt l k = 0) : getL l = none := by
 cases hg : getL l with
 | none => rfl
 | some x =>
  exfalso
  obtain ⟨u, n⟩ := x
  obtain ⟨j, _, _, _, hj1, hj2, _, _, hj4⟩ := getL_find hg
  have : j = k := by
   rcases Nat.lt_trichotomy j k with h' | h' | h'
   ·have := hn j h'
    simp only [endsAt, decide_eq_false_iff_not] at this
    omega
   ·exact h'
   ·have := hj1 k h'
    simp only [endsAt, decide_eq_false_iff_not] at this
    omega
  subst this
  exact hj4 hk h
theorem ref_wrap {l : Bs} {j : Nat} (hj : j < 10) (h9 : j = 9 → bAt l j % 128 ≤ 1) :
  IntKind.u64.wrap (((scanV l j : Nat) : Int) + IntKind.u64.wrap (((bAt l j % 128 : Nat) : Int) * 2 ^ (7 * j))) = ((scanV l (j + 1) : Nat) : Int) := by
 have hw : ∀ n : Nat, IntKind.u64.wrap (n : Int) = ((n % 18446744073709551616 : Nat) : Int) := by
  intro n
  simp only [IntKind.wrap, IntKind.bits, IntKind.signed]
  simp
 have h1 := scan_u64 hj h9
 unfold U64 at h1
 have h2 : scanV l (j + 1) = scanV l j + (bAt l j % 128) * 128 ^ j := rfl
 rw [show (((bAt l j % 128 : Nat) : Int) * 2 ^ (7 * j)) = ((bAt l j % 128 * 128 ^ j : Nat) : Int) by rw [← pow7]; push_cast; rfl, hw, Nat.mod_eq_of_lt (by omega), ← Int.natCast_add, hw, ← h2, Nat.mod_eq_of_lt h1]
theorem run_part_one {P : Program} {q : TypeId} {k : IntKind} (hq : P.underlying q = some (.int k)) (xs : Array Value) (j : Nat) (v : Value) (h : xs[j]? = some v) (w : World) : (part q xs j).run P w = .ok v w := by
 simp [part, isAgg, run_underlying hq, h]
theorem run_eql_vec {P : Program} {t q : TypeId} (ht : P.underlying t = some (.array 4 q)) (hq : P.underlying q = some (.int .u64)) (cq : P.cellsOf q = 1) (a0 a1 a2 a3 b0 b1 b2 b3 : Int) (w : World) :
  (binOp .eql t (.agg #[.int .u64 a0, .int .u64 a1, .int .u64 a2, .int .u64 a3]) (.agg #[.int .u64 b0, .int .u64 b1, .int .u64 b2, .int .u64 b3])).run P w = .ok (.bool (a0 == b0 && (a1 == b1 && (a2 == b2 && a3 == b3)))) w := by
 obtain ⟨i, hi⟩ := info_of_underlying hq
 have he : ∀ (a b : Int), (Op.equalIn 9999 q (.int .u64 a) (.int .u64 b)).run P w = .ok (a == b) w := fun a b => run_equalIn_int w 9998 q .u64 .u64 a b hq
 rw [run_eql_struct, run_equalIn_array w 9999 _ _ ht hi, cq, show List.range 4 = [0, 1, 2, 3] from rfl]
 simp only [Op.eqItems, Sem.run_bind, Nat.mul_one, run_part_one hq #[.int .u64 a0, .int .u64 a1, .int .u64 a2, .int .u64 a3] 0 _ rfl, run_part_one hq #[.int .u64 a0, .int .u64 a1, .int .u64 a2, .int .u64 a3] 1 _ rfl, run_part_one hq #[.int .u64 a0, .int .u64 a1, .int .u64 a2, .int .u64 a3] 2 _ rfl, run_part_one hq #[.int .u64 a0, .int .u64 a1, .int .u64 a2, .int .u64 a3] 3 _ rfl,
  run_part_one hq #[.int .u64 b0, .int .u64 b1, .int .u64 b2, .int .u64 b3] 0 _ rfl, run_part_one hq #[.int .u64 b0, .int .u64 b1, .int .u64 b2, .int .u64 b3] 1 _ rfl, run_part_one hq #[.int .u64 b0, .int .u64 b1, .int .u64 b2, .int .u64 b3] 2 _ rfl, run_part_one hq #[.int .u64 b0, .int .u64 b1, .int .u64 b2, .int .u64 b3] 3 _ rfl, Result.andThen_ok, Sem.run_ite]
 cases h0 : a0 == b0 <;> cases h1 : a1 == b1 <;> cases h2 : a2 == b2 <;> cases h3 : a3 == b3 <;> simp [he, h0, h1, h2, h3]
theorem vc_eq {a b : Vc} (ha : OkV a) (hb : OkV b) : a = b ↔ vG a 0 = vG b 0 ∧ vG a 1 = vG b 1 ∧ vG a 2 = vG b 2 ∧ vG a 3 = vG b 3 := by
 obtain ⟨x, y, z, u, rfl, _⟩ := ha.ex
 obtain ⟨x', y', z', u', rfl, _⟩ := hb.ex
 simp [vG]
theorem run_eql_vals {P : Program} {t q : TypeId} (ht : P.underlying t = some (.array 4 q)) (hq : P.underlying q = some (.int .u64)) (cq : P.cellsOf q = 1) {a b : Vc} (ha : OkV a) (hb : OkV b) (w : World) :
  (binOp .eql t (vVal a) (vVal b)).run P w = .ok (.bool (decide (a = b))) w := by
 unfold vVal vF
 rw [run_eql_vec ht hq cq]
 congr 2
 rw [Bool.eq_iff_iff]
 simp only [Bool.and_eq_true, beq_iff_eq, decide_eq_true_eq]
 rw [vc_eq ha hb]
 omega
theorem run_neq_vals {P : Program} {t q : TypeId} (ht : P.underlying t = some (.array 4 q)) (hq : P.underlying q = some (.int .u64)) (cq : P.cellsOf q = 1) {a b : Vc} (ha : OkV a) (hb : OkV b) (w : World) :
  (binOp .neq t (vVal a) (vVal b)).run P w = .ok (.bool (!decide (a = b))) w := by
 have h := run_eql_vals (P := P) ht hq cq ha hb w
 unfold vVal vF at h ⊢
 rw [run_eql_struct] at h
 rw [run_neq_struct]
 cases e : (Op.equalIn 10000 t (.agg #[.int .u64 (vG a 0 : Nat), .int .u64 (vG a 1 : Nat), .int .u64 (vG a 2 : Nat), .int .u64 (vG a 3 : Nat)]) (.agg #[.int .u64 (vG b 0 : Nat), .int .u64 (vG b 1 : Nat), .int .u64 (vG b 2 : Nat), .int .u64 (vG b 3 : Nat)])).run P w with
 | ok r w' =>
  rw [e] at h
  simp only [Result.andThen_ok] at h ⊢
  injection h with h1 h2
  injection h1 with h1
  rw [h1, h2]
 | halt x w' => rw [e] at h; simp [Result.andThen] at h
end Go.Dm
