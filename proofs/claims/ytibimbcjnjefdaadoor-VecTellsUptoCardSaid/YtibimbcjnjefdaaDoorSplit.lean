/- A text cut at a byte: the library's Split and Cut, in plain terms. No program in sight. -/
import Derived.Test.YtibimbcjnjefdaaDoorTexts
namespace Go.Dm
open Go Go.RowKit

/-- A text cut at each c. -/
def splitC (c : UInt8) : Bs → List Bs
  | [] => [[]]
  | a :: l => if a = c then [] :: splitC c l else match splitC c l with
    | [] => [[a]]
    | p :: ps => (a :: p) :: ps

theorem splitC_ne (c : UInt8) (l : Bs) : splitC c l ≠ [] := by
  cases l with
  | nil => simp [splitC]
  | cons a l =>
    unfold splitC
    split
    · simp
    · split <;> simp

theorem splitC_none {c : UInt8} : ∀ {l : Bs}, c ∉ l → splitC c l = [l]
  | [], _ => rfl
  | a :: l, h => by
    have hc : a ≠ c := fun e => h (by simp [e])
    have := splitC_none (l := l) (fun hm => h (List.mem_cons_of_mem _ hm))
    simp [splitC, hc, this]

theorem splitC_at {c : UInt8} : ∀ {p l : Bs}, c ∉ p → splitC c (p ++ c :: l) = p :: splitC c l
  | [], l, _ => by simp [splitC]
  | a :: p, l, h => by
    have hc : a ≠ c := fun e => h (by simp [e])
    have := splitC_at (p := p) (l := l) (fun hm => h (List.mem_cons_of_mem _ hm))
    simp [splitC, hc, this]

theorem cut_atC (c : UInt8) (l : Bs) : c ∉ l ∨ ∃ p r, c ∉ p ∧ l = p ++ c :: r := by
  induction l with
  | nil => exact Or.inl (by simp)
  | cons a l ih =>
    by_cases hc : a = c
    · exact Or.inr ⟨[], l, by simp, by simp [hc]⟩
    · rcases ih with h | ⟨p, r, h1, h2⟩
      · exact Or.inl (by simp [h, Ne.symm hc])
      · exact Or.inr ⟨a :: p, r, by simp [h1, Ne.symm hc], by simp [h2]⟩

theorem index_oneC {c : UInt8} {p r : Bs} (h : c ∉ p) : Lib.index (p ++ c :: r) [c] = p.length := by
  induction p with
  | nil => simp [Lib.index]
  | cons a p ih =>
    have hc : a ≠ c := fun e => h (by simp [e])
    have := ih (fun hm => h (List.mem_cons_of_mem _ hm))
    have hb : (c == a) = false := by rw [beq_eq_false_iff_ne]; exact Ne.symm hc
    simp only [List.cons_append, Lib.index, List.isPrefixOf, hb, Bool.false_and, Bool.false_eq_true, if_false, this]
    have : ((p.length : Int) == -1) = false := by rw [beq_eq_false_iff_ne]; omega
    simp [this]

theorem index_missC {c : UInt8} {l : Bs} (h : c ∉ l) : Lib.index l [c] = -1 := by
  induction l with
  | nil => rfl
  | cons a l ih =>
    have hc : a ≠ c := fun e => h (by simp [e])
    have := ih (fun hm => h (List.mem_cons_of_mem _ hm))
    have hb : (c == a) = false := by rw [beq_eq_false_iff_ne]; exact Ne.symm hc
    simp [Lib.index, List.isPrefixOf, hb, this]

theorem splitK_eqC (c : UInt8) : ∀ (n : Nat) (l : Bs), l.length ≤ n → Lib.splitK [c] 0 (l.count c) l = splitC c l := by
  intro n
  induction n with
  | zero =>
    intro l hl
    have : l = [] := List.length_eq_zero_iff.1 (by omega)
    subst this
    rfl
  | succ n ih =>
    intro l hl
    rcases cut_atC c l with h | ⟨p, r, h1, rfl⟩
    · rw [List.count_eq_zero.2 h, splitC_none h]
      rfl
    · have hc : (p ++ c :: r).count c = r.count c + 1 := by
        rw [List.count_append, List.count_eq_zero.2 h1, List.count_cons_self]; omega
      simp only [List.length_append, List.length_cons] at hl
      rw [hc, splitC_at h1]
      unfold Lib.splitK
      rw [index_oneC h1]
      have : ((p.length : Int) == -1) = false := by rw [beq_eq_false_iff_ne]; omega
      rw [this]
      have e1 : (p ++ c :: r).take ((p.length : Int).toNat + 0) = p := by simp
      have e2 : (p ++ c :: r).drop ((p.length : Int).toNat + [c].length) = r := by
        simp [List.drop_append]
      rw [e1, e2, ih r (by omega)]
      rfl

theorem splitB_bytesC (s : ByteArray) (c : UInt8) : bytesOf (Lib.splitB ⟨#[c]⟩ 0 (Lib.countB s ⟨#[c]⟩) s) = splitC c s.data.toList := by
  unfold bytesOf
  rw [Lib.splitB_data]
  show Lib.splitK [c] 0 (Lib.count s.data.toList [c]) s.data.toList = _
  rw [Lib.count_one]
  exact splitK_eqC c _ _ (Nat.le_refl _)

/-- A text is its pieces, c between. -/
theorem join_splitC (c : UInt8) : ∀ l : Bs, Lib.join (splitC c l) [c] = l := by
  intro l
  induction h : l.length using Nat.strongRecOn generalizing l with
  | ind n ih =>
    rcases cut_atC c l with hn | ⟨p, r, h1, rfl⟩
    · rw [splitC_none hn, Lib.join_one]
    · rw [splitC_at h1, Lib.join_cons]
      simp only [List.length_append, List.length_cons] at h
      have := ih r.length (by omega) r rfl
      cases hs : splitC c r with
      | nil => exact absurd hs (splitC_ne c r)
      | cons q qs =>
        rw [hs, Lib.join_cons] at this
        simp only [Lib.joinTail, List.map_cons, List.flatten_cons, List.cons_append, List.nil_append] at *
        rw [this]

theorem mem_splitC_len {c : UInt8} : ∀ {l : Bs} {p : Bs}, p ∈ splitC c l → p.length ≤ l.length
  | [], p, h => by simp [splitC] at h; simp [h]
  | a :: l, p, h => by
    unfold splitC at h
    split at h
    · rcases List.mem_cons.1 h with rfl | h
      · simp
      · have := mem_splitC_len h; simp; omega
    · split at h
      · simp at h; simp [h]
      · rename_i q qs he
        rcases List.mem_cons.1 h with rfl | h
        · have := mem_splitC_len (c := c) (l := l) (p := q) (by rw [he]; simp)
          simp; omega
        · have := mem_splitC_len (c := c) (l := l) (p := p) (by rw [he]; exact List.mem_cons_of_mem _ h)
          simp; omega

/-- The pieces joined again are the pieces. -/
theorem splitC_join {c : UInt8} : ∀ {ns : List Bs}, ns ≠ [] → (∀ p ∈ ns, c ∉ p) → splitC c (Lib.join ns [c]) = ns
  | [p], _, h => by rw [Lib.join_one, splitC_none (h p (by simp))]
  | p :: q :: ns, _, h => by
    have : Lib.join (p :: q :: ns) [c] = p ++ c :: Lib.join (q :: ns) [c] := by simp [Lib.join_cons, Lib.joinTail]
    rw [this, splitC_at (h p (by simp)), splitC_join (by simp) (fun x hx => h x (List.mem_cons_of_mem _ hx))]

/-- What stands before the first c, and behind it. -/
def cutC (c : UInt8) : Bs → Bs × Bs × Bool
  | [] => ([], [], false)
  | a :: l => if a = c then ([], l, true) else (a :: (cutC c l).1, (cutC c l).2)

theorem cutC_none {c : UInt8} : ∀ {l : Bs}, c ∉ l → cutC c l = (l, [], false)
  | [], _ => rfl
  | a :: l, h => by
    have hc : a ≠ c := fun e => h (by simp [e])
    have := cutC_none (l := l) (fun hm => h (List.mem_cons_of_mem _ hm))
    simp [cutC, hc, this]
theorem cutC_at {c : UInt8} : ∀ {p l : Bs}, c ∉ p → cutC c (p ++ c :: l) = (p, l, true)
  | [], l, _ => by simp [cutC]
  | a :: p, l, h => by
    have hc : a ≠ c := fun e => h (by simp [e])
    have := cutC_at (p := p) (l := l) (fun hm => h (List.mem_cons_of_mem _ hm))
    simp [cutC, hc, this]
theorem cut_eqC (l : Bs) (c : UInt8) : Lib.cut l [c] = cutC c l := by
  rcases cut_atC c l with h | ⟨p, r, h1, rfl⟩
  · rw [cutC_none h]
    simp [Lib.cut, index_missC h]
  · rw [cutC_at h1]
    have : ¬ (p.length : Int) < 0 := by omega
    simp [Lib.cut, index_oneC h1]
theorem cutC_len (c : UInt8) (l : Bs) : (cutC c l).1.length ≤ l.length ∧ (cutC c l).2.1.length ≤ l.length := by
  rcases cut_atC c l with h | ⟨p, r, h1, rfl⟩
  · rw [cutC_none h]; simp
  · rw [cutC_at h1]; simp; omega
end Go.Dm
