/- Chapter 2 in plain terms: runes, names, paths over lists of bytes; no program in sight. -/
import Derived.Lib.RuneCount
import Derived.Lib.Split
import Derived.Lib.SplitLaws
import Derived.Lib.Join
import Derived.Lib.SlicesS
namespace Go.Dm
open Go

abbrev Bs := List UInt8

/-- The byte at a place, as a number. -/
def bAt (l : Bs) (k : Nat) : Nat := (l.getD k 0).toNat

theorem bAt_lt (l : Bs) (k : Nat) : bAt l k < 256 := (l.getD k 0).toNat_lt

theorem bAt_drop (l : Bs) (i k : Nat) : bAt (l.drop i) k = bAt l (i + k) := by
 simp [bAt, List.getD_eq_getElem?_getD, List.getElem?_drop]

/-- Does a byte that goes on stand at place k? -/
def contB (l : Bs) (k : Nat) : Bool := decide (k < l.length) && (bAt l k / 64 == 2)

/-- The first rune and how many bytes it has. -/
def decL (l : Bs) : Nat × Nat :=
 if bAt l 0 < 0x80 then (bAt l 0, 1)
 else if bAt l 0 / 32 == 6 && contB l 1 then
  if bAt l 0 % 32 * 64 + bAt l 1 % 64 ≥ 0x80 then (bAt l 0 % 32 * 64 + bAt l 1 % 64, 2) else (65533, 1)
 else if bAt l 0 / 16 == 14 && contB l 1 && contB l 2 then
  if bAt l 0 % 16 * 4096 + bAt l 1 % 64 * 64 + bAt l 2 % 64 ≥ 0x800 && Utf8.valid (bAt l 0 % 16 * 4096 + bAt l 1 % 64 * 64 + bAt l 2 % 64 : Nat) then
   (bAt l 0 % 16 * 4096 + bAt l 1 % 64 * 64 + bAt l 2 % 64, 3) else (65533, 1)
 else if bAt l 0 / 8 == 30 && contB l 1 && contB l 2 && contB l 3 then
  if bAt l 0 % 8 * 262144 + bAt l 1 % 64 * 4096 + bAt l 2 % 64 * 64 + bAt l 3 % 64 ≥ 0x10000 && Utf8.valid (bAt l 0 % 8 * 262144 + bAt l 1 % 64 * 4096 + bAt l 2 % 64 * 64 + bAt l 3 % 64 : Nat) then
   (bAt l 0 % 8 * 262144 + bAt l 1 % 64 * 4096 + bAt l 2 % 64 * 64 + bAt l 3 % 64, 4) else (65533, 1)
 else (65533, 1)

theorem get_bAt (s : ByteArray) (i : Nat) : (s.get! i).toNat = bAt s.data.toList i := by
 simp only [bAt, ByteArray.get!, List.getD_eq_getElem?_getD, Array.getElem?_toList]
 rw [getElem!_def]
 cases s.data[i]? <;> rfl

theorem size_len (s : ByteArray) : s.size = s.data.toList.length := by rw [Array.length_toList]; rfl

theorem decode_eq (s : ByteArray) (i : Nat) : Utf8.decode s i = decL (s.data.toList.drop i) := by
 have hc : ∀ k, (decide (i + k < s.size) && bAt (s.data.toList.drop i) k / 64 == 2) = contB (s.data.toList.drop i) k := by
  intro k
  unfold contB
  rw [List.length_drop, size_len]
  congr 1
  exact decide_eq_decide.2 ⟨fun h => by omega, fun h => by omega⟩
 unfold Utf8.decode decL
 simp only [get_bAt, ← bAt_drop, Utf8.runeError]
 simp only [hc]

def runeL (l : Bs) : Nat := (decL l).1
def wideL (l : Bs) : Nat := (decL l).2

theorem wideL_pos (l : Bs) : 1 ≤ wideL l := by
 unfold wideL decL
 repeat' split
 all_goals simp

theorem contB_lt {l : Bs} {k : Nat} (h : contB l k = true) : k < l.length := by
 simp only [contB, Bool.and_eq_true, decide_eq_true_eq] at h; exact h.1

theorem wideL_le {l : Bs} (h : l ≠ []) : wideL l ≤ l.length := by
 have h0 : 0 < l.length := List.length_pos_iff.2 h
 unfold wideL decL
 split
 ·exact h0
 ·split
  ·rename_i h1
   have := contB_lt (Bool.and_eq_true _ _ ▸ h1 : _ ∧ _).2
   split <;> simp only <;> omega
  ·split
   ·rename_i h1
    simp only [Bool.and_eq_true] at h1
    have := contB_lt h1.2
    split <;> simp only <;> omega
   ·split
    ·rename_i h1
     simp only [Bool.and_eq_true] at h1
     have := contB_lt h1.2
     split <;> simp only <;> omega
    ·exact h0

/-- How many runes, by fuel. -/
def countF : Nat → Bs → Nat
 | 0, _ => 0
 | f + 1, l => if l.isEmpty then 0 else 1 + countF f (l.drop (wideL l))

def countL (l : Bs) : Nat := countF l.length l

theorem countF_enough : ∀ (f : Nat) (l : Bs), l.length ≤ f → countF f l = countL l := by
 suffices h : ∀ (n f g : Nat) (l : Bs), l.length ≤ n → n ≤ f → n ≤ g → countF f l = countF g l by
  intro f l hl
  exact h l.length f l.length l (Nat.le_refl _) hl (Nat.le_refl _)
 intro n
 induction n with
 | zero =>
  intro f g l hl _ _
  have : l = [] := List.length_eq_zero_iff.1 (by omega)
  subst this
  cases f <;> cases g <;> simp [countF]
 | succ n ih =>
  intro f g l hl hf hg
  obtain ⟨f, rfl⟩ : ∃ f', f = f' + 1 := ⟨f - 1, by omega⟩
  obtain ⟨g, rfl⟩ : ∃ g', g = g' + 1 := ⟨g - 1, by omega⟩
  unfold countF
  split
  ·rfl
  ·have := wideL_pos l
   rw [ih f g (l.drop (wideL l)) (by rw [List.length_drop]; omega) (by omega) (by omega)]

theorem countL_nil : countL [] = 0 := rfl

theorem countL_step {l : Bs} (h : l ≠ []) : countL l = 1 + countL (l.drop (wideL l)) := by
 have h0 : 0 < l.length := List.length_pos_iff.2 h
 obtain ⟨n, hn⟩ : ∃ n, l.length = n + 1 := ⟨l.length - 1, by omega⟩
 have he : l.isEmpty = false := by cases l <;> simp_all
 unfold countL
 rw [hn, countF, he]
 have := wideL_pos l
 simp only [Bool.false_eq_true, if_false]
 rw [countF_enough _ _ (by rw [List.length_drop]; omega)]
 rfl

theorem runeCountFrom_eq (s : ByteArray) : ∀ (f pos : Nat), Lib.runeCountFrom s f pos = countF f (s.data.toList.drop pos)
 | 0, _ => rfl
 | f + 1, pos => by
  unfold Lib.runeCountFrom countF
  by_cases h : pos < s.size
  ·have he : (s.data.toList.drop pos).isEmpty = false := by
    rw [List.isEmpty_eq_false_iff, Ne, List.drop_eq_nil_iff, ← size_len]; omega
   rw [if_pos h, he, runeCountFrom_eq s f, decode_eq, ← List.drop_drop]
   simp [wideL]
  ·have he : (s.data.toList.drop pos).isEmpty = true := by
    rw [List.isEmpty_iff, List.drop_eq_nil_iff, ← size_len]; omega
   rw [if_neg h, he]
   rfl

theorem runeCount_eq (s : ByteArray) : Lib.runeCount s = countL s.data.toList := by
 unfold Lib.runeCount countL
 rw [runeCountFrom_eq, size_len, List.drop_zero]

def letterB (r : Nat) : Bool := (decide (97 ≤ r) && decide (r ≤ 122)) || (decide (945 ≤ r) && decide (r ≤ 969)) || (decide (1072 ≤ r) && decide (r ≤ 1103))
def markB (r : Nat) : Bool := (decide (48 ≤ r) && decide (r ≤ 57)) || r == 45

/-- Are all runes such as may stand in a name? -/
def okF : Nat → Bool → Bs → Bool
 | 0, _, _ => true
 | f + 1, first, l => l.isEmpty || ((letterB (runeL l) || (!first && markB (runeL l))) && okF f false (l.drop (wideL l)))

def okL (first : Bool) (l : Bs) : Bool := okF l.length first l

theorem okF_enough : ∀ (f : Nat) (b : Bool) (l : Bs), l.length ≤ f → okF f b l = okL b l := by
 suffices h : ∀ (n f g : Nat) (b : Bool) (l : Bs), l.length ≤ n → n ≤ f → n ≤ g → okF f b l = okF g b l by
  intro f b l hl
  exact h l.length f l.length b l (Nat.le_refl _) hl (Nat.le_refl _)
 intro n
 induction n with
 | zero =>
  intro f g b l hl _ _
  have : l = [] := List.length_eq_zero_iff.1 (by omega)
  subst this
  cases f <;> cases g <;> simp [okF]
 | succ n ih =>
  intro f g b l hl hf hg
  obtain ⟨f, rfl⟩ : ∃ f', f = f' + 1 := ⟨f - 1, by omega⟩
  obtain ⟨g, rfl⟩ : ∃ g', g = g' + 1 := ⟨g - 1, by omega⟩
  have := wideL_pos l
  unfold okF
  rw [ih f g false (l.drop (wideL l)) (by rw [List.length_drop]; omega) (by omega) (by omega)]

theorem okL_step (b : Bool) {l : Bs} (h : l ≠ []) : okL b l = ((letterB (runeL l) || (!b && markB (runeL l))) && okL false (l.drop (wideL l))) := by
 have h0 : 0 < l.length := List.length_pos_iff.2 h
 obtain ⟨n, hn⟩ : ∃ n, l.length = n + 1 := ⟨l.length - 1, by omega⟩
 have he : l.isEmpty = false := by cases l <;> simp_all
 unfold okL
 rw [hn, okF, he]
 have := wideL_pos l
 rw [okF_enough _ _ _ (by rw [List.length_drop]; omega)]
 rfl

/-- P2.1: is a text a name? -/
def rightL (l : Bs) : Bool := okL true l && !l.isEmpty && decide (countL l ≤ 16)

/-- A text cut at its slashes. -/
def splitL : Bs → List Bs
 | [] => [[]]
 | c :: l => if c = 47 then [] :: splitL l else match splitL l with
  | [] => [[c]]
  | p :: ps => (c :: p) :: ps

/-- P2.2: the names of a path. -/
def partsL (l : Bs) : List Bs := if 3 < (splitL l).length ∨ (splitL l).any (fun p => !rightL p) = true then [] else splitL l

/-- P2.2: the paths that a path stands below, and itself. -/
def upsL (l : Bs) : List Bs := (List.range (partsL l).length).map fun k => Lib.join ((partsL l).take (k + 1)) [47]

/-- P2.2: is a path another one, or below it? -/
def underL (a b : Bs) : Bool := (upsL b).contains a

/-! ### The library's cutting is this one -/

theorem splitL_ne (l : Bs) : splitL l ≠ [] := by
 cases l with
 | nil => simp [splitL]
 | cons c l =>
  unfold splitL
  split
  ·simp
  ·split <;> simp

theorem splitL_none : ∀ {l : Bs}, (47 : UInt8) ∉ l → splitL l = [l]
 | [], _ => rfl
 | c :: l, h => by
  have hc : c ≠ 47 := fun e => h (by simp [e])
  have := splitL_none (l := l) (fun hm => h (List.mem_cons_of_mem _ hm))
  simp [splitL, hc, this]

theorem splitL_at : ∀ {p l : Bs}, (47 : UInt8) ∉ p → splitL (p ++ 47 :: l) = p :: splitL l
 | [], l, _ => by simp [splitL]
 | c :: p, l, h => by
  have hc : c ≠ 47 := fun e => h (by simp [e])
  have := splitL_at (p := p) (l := l) (fun hm => h (List.mem_cons_of_mem _ hm))
  simp [splitL, hc, this]

theorem cut_at (l : Bs) : (47 : UInt8) ∉ l ∨ ∃ p r, (47 : UInt8) ∉ p ∧ l = p ++ 47 :: r := by
 induction l with
 | nil => exact Or.inl (by simp)
 | cons c l ih =>
  by_cases hc : c = 47
  ·exact Or.inr ⟨[], l, by simp, by simp [hc]⟩
  ·rcases ih with h | ⟨p, r, h1, h2⟩
   ·exact Or.inl (by simp [h, Ne.symm hc])
   ·exact Or.inr ⟨c :: p, r, by simp [h1, Ne.symm hc], by simp [h2]⟩

theorem index_one {p r : Bs} (h : (47 : UInt8) ∉ p) : Lib.index (p ++ 47 :: r) [47] = p.length := by
 induction p with
 | nil => simp [Lib.index]
 | cons c p ih =>
  have hc : c ≠ 47 := fun e => h (by simp [e])
  have := ih (fun hm => h (List.mem_cons_of_mem _ hm))
  have hb : ((47 : UInt8) == c) = false := by rw [beq_eq_false_iff_ne]; exact Ne.symm hc
  simp only [List.cons_append, Lib.index, List.isPrefixOf, hb, Bool.false_and, Bool.false_eq_true, if_false, this]
  have : ((p.length : Int) == -1) = false := by rw [beq_eq_false_iff_ne]; omega
  simp [this]

theorem splitK_eq : ∀ (n : Nat) (l : Bs), l.length ≤ n → Lib.splitK [47] 0 (l.count 47) l = splitL l := by
 intro n
 induction n with
 | zero =>
  intro l hl
  have : l = [] := List.length_eq_zero_iff.1 (by omega)
  subst this
  rfl
 | succ n ih =>
  intro l hl
  rcases cut_at l with h | ⟨p, r, h1, rfl⟩
  ·rw [List.count_eq_zero.2 h, splitL_none h]
   rfl
  ·have hc : (p ++ 47 :: r).count 47 = r.count 47 + 1 := by
    rw [List.count_append, List.count_eq_zero.2 h1, List.count_cons_self]; omega
   simp only [List.length_append, List.length_cons] at hl
   rw [hc, splitL_at h1]
   unfold Lib.splitK
   rw [index_one h1]
   have : ((p.length : Int) == -1) = false := by rw [beq_eq_false_iff_ne]; omega
   rw [this]
   have e1 : (p ++ 47 :: r).take ((p.length : Int).toNat + 0) = p := by simp
   have e2 : (p ++ 47 :: r).drop ((p.length : Int).toNat + [(47 : UInt8)].length) = r := by
    simp [List.drop_append]
   rw [e1, e2, ih r (by omega)]
   rfl

end Go.Dm
