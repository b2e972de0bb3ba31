/- Texts: slices of strings; a text cut at its slashes, and joined. No program in sight. -/
import Derived.Test.YtibimbcjnjefdaaDoorWPure
import Derived.Test.YtibimbcjnjefdaaDoorSlices
import Derived.Lib.Split
namespace Go.Dm
open Go Go.RowKit

/-- A slice value reads as these strings. -/
def Strs (w : World) (v : Value) (ss : List ByteArray) : Prop := Sl w 1 v ss.length (ss.map .string)
def strAt (ss : List ByteArray) (k : Nat) : ByteArray := ss.getD k ByteArray.empty
/-- Their bytes. -/
def bytesOf (ss : List ByteArray) : List Bs := ss.map (·.data.toList)

theorem Strs.ext {w w' : World} {v ss} (h : Strs w v ss) (hb : Ext w w') : Strs w' v ss := Sl.ext h hb
theorem Strs.nil (w : World) : Strs w (.slice none 0 0) [] := Sl.nil w 1
theorem Strs.shape {w : World} {v ss} (h : Strs w v ss) : ∃ p cap, v = .slice p ss.length cap ∧ ss.length ≤ cap ∧ cap ≤ maxLen := by
  obtain ⟨p, cap, h1, h2, h3, _⟩ := Sl.shape h
  exact ⟨p, cap, h1, h2, h3⟩
theorem Strs.at {w : World} {ss : List ByteArray} {p cap} (h : Strs w (.slice p ss.length cap) ss) {k : Nat} (hk : k < ss.length) :
    ∃ b off, p = some ⟨b, off, none⟩ ∧ b < w.heap.size ∧ w.cell? ⟨b, off + k, none⟩ = some (.string (strAt ss k)) := by
  obtain ⟨b, off, hp, hb, h⟩ := Sl.at h (by omega)
  exact ⟨b, off, hp, hb, h k _ (by simp [strAt, hk])⟩
theorem Strs.cells {w : World} {ss : List ByteArray} {b off cap} (h : Strs w (.slice (some ⟨b, off, none⟩) ss.length cap) ss) {k : Nat} (hk : k < ss.length) :
    b < w.heap.size ∧ w.cell? ⟨b, off + k, none⟩ = some (.string (strAt ss k)) := by
  obtain ⟨b', off', hp, h⟩ := h.at hk
  injection hp with hp
  injection hp with e1 e2
  subst e1 e2
  exact h

theorem mem_splitL_len : ∀ {l : Bs} {p : Bs}, p ∈ splitL l → p.length ≤ l.length
  | [], p, h => by simp [splitL] at h; simp [h]
  | c :: l, p, h => by
    unfold splitL at h
    split at h
    · rcases List.mem_cons.1 h with rfl | h
      · simp
      · have := mem_splitL_len h; simp; omega
    · split at h
      · simp at h; simp [h]
      · rename_i q qs he
        rcases List.mem_cons.1 h with rfl | h
        · have := mem_splitL_len (l := l) (p := q) (by rw [he]; simp)
          simp; omega
        · have := mem_splitL_len (l := l) (p := p) (by rw [he]; exact List.mem_cons_of_mem _ h)
          simp; omega

theorem splitL_len (l : Bs) : (splitL l).length ≤ l.length + 1 := by
  induction l with
  | nil => simp [splitL]
  | cons c l ih =>
    unfold splitL
    split
    · simp; omega
    · split
      · simp
      · rename_i he; rw [he] at ih; simp at ih ⊢; omega

/-- The library's pieces. -/
theorem splitB_bytes (s : ByteArray) : bytesOf (Lib.splitB ⟨#[47]⟩ 0 (Lib.countB s ⟨#[47]⟩) s) = splitL s.data.toList := by
  unfold bytesOf
  rw [Lib.splitB_data]
  show Lib.splitK [47] 0 (Lib.count s.data.toList [47]) s.data.toList = _
  rw [Lib.count_one]
  exact splitK_eq _ _ (Nat.le_refl _)

/-- A slice value reads as texts of these bytes. -/
def Texts (w : World) (v : Value) (L : List Bs) : Prop := ∃ ss, Strs w v ss ∧ bytesOf ss = L
theorem Texts.ext {w w' : World} {v L} (h : Texts w v L) (hb : Ext w w') : Texts w' v L := by
  obtain ⟨ss, h1, h2⟩ := h
  exact ⟨ss, h1.ext hb, h2⟩
theorem Texts.nil (w : World) : Texts w (.slice none 0 0) [] := ⟨[], Strs.nil w, rfl⟩

theorem strAt_mem {ss : List ByteArray} {k : Nat} (h : k < ss.length) : strAt ss k ∈ ss := by
  simp only [strAt, List.getD_eq_getElem?_getD, List.getElem?_eq_getElem h, Option.getD_some]
  exact List.getElem_mem h


theorem joinTail_len (sep : Bs) : ∀ (xs : List Bs) (k : Nat), (Lib.joinTail sep (xs.take k)).length ≤ (Lib.joinTail sep xs).length
  | [], k => by simp [Lib.joinTail]
  | x :: xs, 0 => by simp [Lib.joinTail]
  | x :: xs, k + 1 => by
    have := joinTail_len sep xs k
    simp only [Lib.joinTail, List.take_succ_cons, List.map_cons, List.flatten_cons, List.length_append] at *
    omega

theorem join_take_len (sep : Bs) (xs : List Bs) (k : Nat) : (Lib.join (xs.take k) sep).length ≤ (Lib.join xs sep).length := by
  cases xs with
  | nil => simp
  | cons x xs =>
    cases k with
    | zero => simp [Lib.join_nil]
    | succ k =>
      have := joinTail_len sep xs k
      rw [List.take_succ_cons, Lib.join_cons, Lib.join_cons]
      simp only [List.length_append]
      omega

/-- A text is its pieces, slashes between. -/
theorem join_splitL : ∀ l : Bs, Lib.join (splitL l) [47] = l := by
  intro l
  induction h : l.length using Nat.strongRecOn generalizing l with
  | ind n ih =>
    rcases cut_at l with hn | ⟨p, r, h1, rfl⟩
    · rw [splitL_none hn, Lib.join_one]
    · rw [splitL_at h1, Lib.join_cons]
      simp only [List.length_append, List.length_cons] at h
      have := ih r.length (by omega) r rfl
      cases hs : splitL r with
      | nil => exact absurd hs (splitL_ne r)
      | cons q qs =>
        rw [hs, Lib.join_cons] at this
        simp only [Lib.joinTail, List.map_cons, List.flatten_cons, List.cons_append, List.nil_append] at *
        rw [this]

theorem partsL_cases (l : Bs) : partsL l = [] ∨ partsL l = splitL l := by
  unfold partsL
  split
  · exact Or.inl rfl
  · exact Or.inr rfl

theorem parts_join_len (l : Bs) (k : Nat) : (Lib.join ((partsL l).take k) [47]).length ≤ l.length := by
  have h1 := join_take_len [47] (partsL l) k
  rcases partsL_cases l with h | h
  · rw [h] at h1 ⊢
    simp [Lib.join_nil] at h1 ⊢
  · rw [h] at h1 ⊢
    rw [join_splitL] at h1
    exact h1

theorem partsL_three (l : Bs) : (partsL l).length ≤ 3 := by
  unfold partsL
  split
  · simp
  · rename_i h; omega

/-- The text of so many of a path's names. -/
def upB (P : List Bs) (j : Nat) : ByteArray := ⟨(Lib.join (P.take (j + 1)) [47]).toArray⟩

theorem upB_bytes (l : Bs) (k : Nat) : bytesOf ((List.range k).map (upB (partsL l))) = ((List.range k).map fun k => Lib.join ((partsL l).take (k + 1)) [47]) := by
  simp [bytesOf, upB, List.map_map, Function.comp_def]

theorem range_snoc_map {α : Type} (f : Nat → α) (k : Nat) : (List.range (k + 1)).map f = (List.range k).map f ++ [f k] := by
  rw [List.range_succ, List.map_append]; rfl

theorem Strs.of_row {w : World} {B e : Nat} {v : Value} {n : Nat} {ss : List ByteArray} (h : w.ownsRow B e 1 v n (ss.map .string)) (hn : n = ss.length) : Strs w v ss := by
  subst hn
  exact Sl.of_owns h

theorem strs_one (ss : List ByteArray) : ∀ u ∈ ss.map Value.string, u.oneCell' = true := by
  intro u hu
  obtain ⟨x, _, rfl⟩ := List.mem_map.1 hu
  rfl
theorem bytes_eq {a b : ByteArray} : a.toList == b.toList ↔ a = b := by
  rw [ByteArray.toList_eq, ByteArray.toList_eq, beq_iff_eq]
  constructor
  · intro h
    cases a; cases b
    congr 1
    exact Array.toList_inj.1 h
  · rintro rfl; rfl

theorem strs_eq {xs ys : List ByteArray} (hl : xs.length = ys.length) (h : ∀ j, j < xs.length → strAt xs j = strAt ys j) : xs = ys := by
  apply List.ext_getElem hl
  intro i h1 h2
  have := h i h1
  simpa [strAt, h1, h2] using this

theorem bytesOf_inj : ∀ {xs ys : List ByteArray}, bytesOf xs = bytesOf ys → xs = ys
  | [], [], _ => rfl
  | ⟨a⟩ :: xs, ⟨b⟩ :: ys, h => by
    simp only [bytesOf, List.map_cons, List.cons.injEq] at h
    have := bytesOf_inj (xs := xs) (ys := ys) h.2
    rw [Array.toList_inj.1 h.1, this]

theorem data_append (a b : ByteArray) : (a ++ b).data.toList = a.data.toList ++ b.data.toList := by
  rw [ByteArray.data_append, Array.toList_append]

theorem mk_bytes {x : ByteArray} {l : Bs} (h : x.data.toList = l) : x = ⟨l.toArray⟩ := by
  subst h
  cases x
  simp

end Go.Dm
