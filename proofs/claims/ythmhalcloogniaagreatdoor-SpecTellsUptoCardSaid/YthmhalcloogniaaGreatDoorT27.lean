/- Texts one behind the other: Chapter 5 in plain terms: what is got of a selector is what was put. No program in sight; Chapter 5 in plain terms: what is shown is parsed. No program in sight; Chapter 5: the walk of the document's Text. -/
import Derived.Test.YthmhalcloogniaaGreatDoorT9
import Derived.Test.YthmhalcloogniaaGreatDoorT25
import Derived.Test.YthmhalcloogniaaGreatDoorT26
namespace Go.Dm
open Go Go.RowKit

section
variable {α : Type} {g : Bs → Option (α × Nat)} {put : α → Bs} {fit : α → Prop}
theorem reads_beginsG (G : ∀ (l : Bs) (x : α) (n : Nat), U64 l.length → (g l = some (x, n) ↔ fit x ∧ n = (put x).length ∧ Begins (put x) l)) {l : Bs} {q : Nat} (hl : U64 l.length) :
    ∀ (i : Nat) (L : List α) (r : Nat), readsL g l q i = some (L, r) ↔ L.length = i ∧ (∀ p ∈ L, fit p) ∧ r = q + (L.flatMap put).length ∧ Begins (L.flatMap put) (l.drop q)
  | 0, L, r => by
    constructor
    · intro h
      injection h with h
      injection h with h1 h2
      subst h1 h2
      exact ⟨rfl, (fun p hp => by simp at hp), rfl, begins_nil _⟩
    · rintro ⟨h1, _, h3, _⟩
      obtain rfl := List.length_eq_zero_iff.1 h1
      subst h3
      rfl
  | i + 1, L, r => by
    have snoc : ∀ (K : List α) (p : α), (K ++ [p]).flatMap put = K.flatMap put ++ put p := fun K p => by simp
    constructor
    · intro h
      rw [readsL] at h
      cases h1 : readsL g l q i with
      | none => rw [h1] at h; cases h
      | some x =>
        obtain ⟨K, k⟩ := x
        rw [h1] at h
        simp only at h
        cases h2 : g (l.drop k) with
        | none => rw [h2] at h; cases h
        | some y =>
          obtain ⟨p, m⟩ := y
          rw [h2] at h
          injection h with h
          injection h with e1 e2
          subst e1 e2
          obtain ⟨a1, a2, rfl, a4⟩ := (reads_beginsG G hl i K k).1 h1
          obtain ⟨b1, rfl, b3⟩ := (G _ _ _ (hl.drop _)).1 h2
          refine ⟨by simp [a1], fun x hx => ?_, by rw [snoc, List.length_append]; omega, ?_⟩
          · rcases List.mem_append.1 hx with hx | hx
            · exact a2 x hx
            · rw [List.mem_singleton] at hx; subst hx; exact b1
          · rw [snoc, begins_app, List.drop_drop]
            exact ⟨a4, b3⟩
    · rintro ⟨h1, h2, rfl, h4⟩
      rcases List.eq_nil_or_concat L with rfl | ⟨K, p, rfl⟩
      · simp at h1
      · rw [List.concat_eq_append] at *
        rw [snoc, begins_app, List.drop_drop] at h4
        have hK := (reads_beginsG G hl i K (q + (K.flatMap put).length)).2 ⟨by simpa using h1, fun x hx => h2 x (List.mem_append_left _ hx), rfl, h4.1⟩
        have hp := (G _ _ _ (hl.drop _)).2 ⟨h2 p (by simp), rfl, h4.2⟩
        rw [readsL, hK]
        simp only [hp]
        rw [snoc, List.length_append]
        simp [Nat.add_assoc]
theorem some_beginsG (G : ∀ (l : Bs) (x : α) (n : Nat), U64 l.length → (g l = some (x, n) ↔ fit x ∧ n = (put x).length ∧ Begins (put x) l)) {most : Nat} (hm : U64 most) {l : Bs} {L : List α} {n : Nat} (hl : U64 l.length) :
    someL g most l = some (L, n) ↔ L.length ≤ most ∧ (∀ p ∈ L, fit p) ∧ n = (putL L.length ++ L.flatMap put).length ∧ Begins (putL L.length ++ L.flatMap put) l := by
  rw [begins_app, List.length_append]
  constructor
  · intro h
    cases hg : getL l with
    | none => rw [someL_none hg] at h; cases h
    | some x =>
      obtain ⟨u, k⟩ := x
      rw [someL_some hg] at h
      split at h
      · rename_i hu
        obtain ⟨a1, rfl, a3⟩ := getL_begins.1 hg
        obtain ⟨rfl, b2, rfl, b4⟩ := (reads_beginsG G hl _ _ _).1 h
        exact ⟨hu, b2, rfl, a3, b4⟩
      · cases h
  · rintro ⟨h1, h2, rfl, h4, h5⟩
    have hg := getL_begins.2 ⟨show U64 L.length from Nat.lt_of_le_of_lt h1 hm, rfl, h4⟩
    rw [someL_some hg, if_pos h1]
    exact (reads_beginsG G hl _ _ _).2 ⟨rfl, h2, rfl, h5⟩
end

abbrev TermB := Bs × Bool × List Bs
def numB (T : TermB) : Nat := 2 * T.2.2.length + (if T.2.1 then 1 else 0)
def putTerm (T : TermB) : Bs := (putT T.1 ++ putL (numB T)) ++ T.2.2.flatMap putT
def fitTerm (T : TermB) : Prop := T.1.length ≤ 32 ∧ T.2.2.length ≤ 4 ∧ ∀ x ∈ T.2.2, x.length ≤ 32
theorem term_begins (l : Bs) (T : TermB) (n : Nat) (hl : U64 l.length) : getTermL l = some (T, n) ↔ fitTerm T ∧ n = (putTerm T).length ∧ Begins (putTerm T) l := by
  unfold putTerm
  rw [begins_app, begins_app, List.length_append, List.length_append]
  constructor
  · intro h
    have hf := getTermL_fit h
    refine ⟨hf, ?_⟩
    cases hT : getTextL 32 l with
    | none => rw [getTermL_no1 hT] at h; cases h
    | some x =>
      obtain ⟨k, n1⟩ := x
      cases hN : getL (l.drop n1) with
      | none => rw [getTermL_no2 hT hN] at h; cases h
      | some x =>
        obtain ⟨u, m⟩ := x
        rw [getTermL_mid hT hN] at h
        split at h
        · cases hr : readsL (getTextL 32) l (n1 + m) (u / 2) with
          | none => rw [hr] at h; cases h
          | some y =>
            obtain ⟨vs, r⟩ := y
            rw [hr] at h
            injection h with h
            injection h with h1 h2
            subst h1 h2
            obtain ⟨a1, rfl, a3⟩ := (getText_begins hl).1 hT
            obtain ⟨b1, rfl, b3⟩ := getL_begins.1 hN
            obtain ⟨c1, c2, rfl, c4⟩ := (reads_beginsG (g := getTextL 32) (put := putT) (fit := fun t => t.length ≤ 32) (fun l x n hl => getText_begins hl) hl _ _ _).1 hr
            have hu : numB (k, u % 2 == 1, vs) = u := by
              unfold numB
              simp only
              by_cases h1 : u % 2 = 1
              · rw [if_pos (by simpa using h1)]; omega
              · rw [if_neg (by simpa using h1)]; omega
            rw [hu]
            exact ⟨rfl, ⟨a3, b3⟩, c4⟩
        · cases h
  · rintro ⟨⟨f1, f2, f3⟩, rfl, ⟨h1, h2⟩, h3⟩
    obtain ⟨k, no, vs⟩ := T
    simp only at f1 f2 f3 h1 h2 h3
    have hT := (getText_begins hl).2 ⟨f1, rfl, h1⟩
    have hu9 : numB (k, no, vs) ≤ 9 := by unfold numB; simp only; split <;> omega
    have hN := getL_begins.2 ⟨show U64 (numB (k, no, vs)) from Nat.lt_of_le_of_lt hu9 (by decide), rfl, h2⟩
    have hd : numB (k, no, vs) / 2 = vs.length := by unfold numB; simp only; split <;> omega
    have hm : (numB (k, no, vs) % 2 == 1) = no := by
      unfold numB; simp only
      cases no with
      | true => simp
      | false => simp
    have hr := (reads_beginsG (g := getTextL 32) (put := putT) (fit := fun t => t.length ≤ 32) (fun l x n hl => getText_begins hl) hl vs.length vs _).2 ⟨rfl, f3, rfl, h3⟩
    rw [getTermL_mid hT hN, if_pos hu9, hd, hr, hm]

def unT (t : TermS) : TermB := (bS t.1, t.2.1, t.2.2.map bS)
theorem mk_bS (x : ByteArray) : (⟨(bS x).toArray⟩ : ByteArray) = x := by cases x; simp [bS]
theorem mk_un (t : TermS) : mkT (unT t) = t := by
  obtain ⟨k, no, vs⟩ := t
  have e : (vs.map bS).map (fun x => (⟨x.toArray⟩ : ByteArray)) = vs := by
    rw [List.map_map]
    conv => rhs; rw [← List.map_id vs]
    exact List.map_congr_left fun x _ => mk_bS x
  show ((⟨(bS k).toArray⟩ : ByteArray), no, (vs.map bS).map (fun x => (⟨x.toArray⟩ : ByteArray))) = (k, no, vs)
  rw [e, mk_bS]
theorem un_mk (T : TermB) : unT (mkT T) = T := by
  obtain ⟨k, no, vs⟩ := T
  have e : (vs.map (fun x => (⟨x.toArray⟩ : ByteArray))).map bS = vs := by
    rw [List.map_map]
    conv => rhs; rw [← List.map_id vs]
    exact List.map_congr_left fun x _ => rfl
  show (bS ⟨k.toArray⟩, no, (vs.map (fun x => (⟨x.toArray⟩ : ByteArray))).map bS) = (k, no, vs)
  rw [e]; rfl
theorem mk_uns (S : List TermS) : (S.map unT).map mkT = S := by
  rw [List.map_map]
  conv => rhs; rw [← List.map_id S]
  exact List.map_congr_left fun t _ => mk_un t
theorem un_mks (T : List TermB) : (T.map mkT).map unT = T := by
  rw [List.map_map]
  conv => rhs; rw [← List.map_id T]
  exact List.map_congr_left fun t _ => un_mk t
theorem putTerm_un (t : TermS) : putTerm (unT t) = putTm t := by
  unfold putTerm putTm unT numB numT putVals
  simp only [List.length_map]
  rw [List.flatMap_map]
theorem putTerms_un (S : List TermS) : (S.map unT).flatMap putTerm = putTms S := by
  rw [List.flatMap_map]
  unfold putTms
  congr 1
  funext t
  exact putTerm_un t
theorem rightS_fit {S : List TermS} (h : rightS S = true) : S.length ≤ 4 ∧ ∀ p ∈ S.map unT, fitTerm p := by
  obtain ⟨h1, h2⟩ := rightS_iff.1 h
  refine ⟨h1, fun p hp => ?_⟩
  obtain ⟨t, ht, rfl⟩ := List.mem_map.1 hp
  obtain ⟨f1, f2, f3⟩ := rightT_sizes (h2 t ht)
  refine ⟨f1, by show (t.2.2.map bS).length ≤ 4; rw [List.length_map]; exact f2, fun x hx => ?_⟩
  obtain ⟨y, hy, rfl⟩ := List.mem_map.1 hx
  exact f3 y hy
/-- What is got is right, and what was put; what was put is got. -/
theorem sel_begins {l : Bs} {S : List TermS} {n : Nat} (hl : U64 l.length) : getSelL l = some (S.map unT, n) ↔ rightS S = true ∧ n = (putS S).length ∧ Begins (putS S) l := by
  have hput : rightS S = true → putS S = putL (S.map unT).length ++ (S.map unT).flatMap putTerm := fun hr => by
    unfold putS; rw [if_pos hr, putTerms_un, List.length_map]
  constructor
  · intro h
    cases hg : someL getTermL 4 l with
    | none => rw [getSelL_none hg] at h; cases h
    | some x =>
      obtain ⟨K, k⟩ := x
      rw [getSelL_some hg] at h
      split at h
      · rename_i hr
        injection h with h
        injection h with e1 e2
        subst e1 e2
        rw [mk_uns] at hr
        obtain ⟨_, _, rfl, h4⟩ := (some_beginsG term_begins (most := 4) (u64_of (by decide)) hl).1 hg
        rw [hput hr]
        exact ⟨hr, rfl, h4⟩
      · cases h
  · rintro ⟨hr, rfl, h3⟩
    obtain ⟨f1, f2⟩ := rightS_fit hr
    rw [hput hr] at h3 ⊢
    have hg := (some_beginsG term_begins (most := 4) (u64_of (by decide)) hl).2 ⟨by rw [List.length_map]; exact f1, f2, rfl, h3⟩
    rw [getSelL_some hg, mk_uns, if_pos hr]

theorem putTms_short : ∀ {S : List TermS}, (∀ t ∈ S, rightT t = true) → (putTms S).length ≤ 230 * S.length
  | [], _ => by simp [putTms]
  | t :: S, h => by
    obtain ⟨f1, f2, f3⟩ := rightT_sizes (h t (by simp))
    have h1 := putT_short (t := bS t.1) f1
    have h2 := putL_ten (u := numT t) (Nat.lt_of_le_of_lt (show numT t ≤ 9 by unfold numT; split <;> omega) (by decide))
    have h3 : ∀ (vs : List ByteArray), (∀ x ∈ vs, x.size ≤ 32) → (putVals vs).length ≤ 42 * vs.length := by
      intro vs
      induction vs with
      | nil => intro _; simp [putVals]
      | cons v vs ih =>
        intro hv
        have a1 := putT_short (t := bS v) (hv v (by simp))
        have a2 := ih (fun x hx => hv x (by simp [hx]))
        have e : putVals (v :: vs) = putT (bS v) ++ putVals vs := by simp [putVals]
        rw [e, List.length_append, List.length_cons]; omega
    have h4 := h3 _ f3
    have ih := putTms_short (S := S) (fun q hq => h q (by simp [hq]))
    have e : putTms (t :: S) = putTm t ++ putTms S := by simp [putTms]
    have e2 : (putTm t).length = (putT (bS t.1)).length + (putL (numT t)).length + (putVals t.2.2).length := by unfold putTm; rw [List.length_append, List.length_append]
    rw [e, List.length_append, List.length_cons, e2]; omega
theorem putS_short {S : List TermS} (hr : rightS S = true) : 1 ≤ (putS S).length ∧ (putS S).length ≤ 1000 := by
  obtain ⟨f1, f2⟩ := rightS_iff.1 hr
  have h1 := putTms_short f2
  have h2 := putL_ten (u := S.length) (Nat.lt_of_le_of_lt f1 (by decide))
  have h3 := putL_pos S.length
  unfold putS
  rw [if_pos hr, List.length_append]; omega
end Go.Dm

namespace Go.Dm
open Go Go.RowKit

theorem head_no {c : UInt8} {l : Bs} (h : c ∉ l) : l.head? ≠ some c := fun e => h (List.mem_of_mem_head? (by rw [e]; rfl))
theorem last_no {c : UInt8} {l : Bs} (h : c ∉ l) : l.getLast? ≠ some c := fun e => h (List.mem_of_mem_getLast? (by rw [e]; rfl))
/-- A term as it is read is that term. -/
theorem term_text {t : TermS} (h : rightT t = true) : termL (textTm t) = unT t := by
  obtain ⟨k, no, vs⟩ := t
  have hk := (rightT_iff.1 h).2.1
  have hv := rightT_val h
  simp only at hk hv
  have k1 := no_not hk
  have k2 := no_is hk
  have hne : bS k ≠ [] := fun e => by rw [e, right_nil] at hk; cases hk
  unfold textTm unT
  simp only
  by_cases h0 : vs = []
  · subst h0
    cases no with
    | true => simp [termL]
    | false =>
      simp only [List.isEmpty_nil, if_true, Bool.false_eq_true, if_false, List.map_nil]
      unfold termL
      rw [if_neg (head_no k1), cutC_none k2, if_pos rfl]
  · have hvs : (splitC 124 (joinB vs 124)) = vs.map bS := by
      unfold joinB
      rw [splitC_join (by simpa using h0) (fun p hp => ?_)]
      · rfl
      · obtain ⟨x, hx, rfl⟩ := List.mem_map.1 hp
        exact no_bar (hv x hx)
    have he : vs.isEmpty = false := List.isEmpty_eq_false_iff.2 h0
    rw [he]
    obtain ⟨a, l, hal⟩ : ∃ a l, bS k = a :: l := by
      cases hb : bS k with
      | nil => exact absurd hb hne
      | cons a l => exact ⟨a, l, rfl⟩
    have ha : a ≠ 33 := fun e => k1 (by rw [hal, e]; simp)
    cases no with
    | true =>
      have e1 : bS k ++ 33 :: 61 :: joinB vs 124 = (bS k ++ [33]) ++ 61 :: joinB vs 124 := by simp
      have h61 : (61 : UInt8) ∉ bS k ++ [33] := by
        rw [List.mem_append]; rintro (h | h)
        · exact k2 h
        · exact absurd h (by decide)
      simp only [Bool.false_eq_true, if_false, if_true]
      unfold termL
      rw [if_neg (by rw [hal]; simpa using ha), e1, cutC_at h61]
      simp only [Bool.true_eq_false, if_false]
      rw [if_pos (by simp), hvs]
      simp
    | false =>
      simp only [Bool.false_eq_true, if_false]
      unfold termL
      rw [if_neg (by rw [hal]; simpa using ha), cutC_at k2]
      simp only [Bool.true_eq_false, if_false]
      rw [if_neg (last_no k1), hvs]
theorem term_no_comma {t : TermS} (h : rightT t = true) : (44 : UInt8) ∉ textTm t := by
  have hk := no_comma (rightT_iff.1 h).2.1
  have hj : (44 : UInt8) ∉ joinB t.2.2 124 := by
    have hv := rightT_val h
    generalize t.2.2 = vs at hv
    unfold joinB
    induction vs with
    | nil => simp [Lib.join]
    | cons v vs ih =>
      have h1 := no_comma (hv v (by simp))
      have ih := ih (fun x hx => hv x (by simp [hx]))
      cases vs with
      | nil => rw [List.map_cons, List.map_nil, Lib.join_one]; exact h1
      | cons w ws =>
        have : Lib.join ((v :: w :: ws).map (·.data.toList)) [124] = v.data.toList ++ 124 :: Lib.join ((w :: ws).map (·.data.toList)) [124] := by simp [Lib.join_cons, Lib.joinTail]
        rw [this, List.mem_append, List.mem_cons]
        rintro (h | h | h)
        · exact h1 h
        · exact absurd h (by decide)
        · exact ih h
  unfold textTm
  split
  · split
    · rw [List.mem_cons]; rintro (h | h)
      · exact absurd h (by decide)
      · exact hk h
    · exact hk
  · split
    · rw [List.mem_append, List.mem_cons, List.mem_cons]; rintro (h | h | h | h)
      · exact hk h
      · exact absurd h (by decide)
      · exact absurd h (by decide)
      · exact hj h
    · rw [List.mem_append, List.mem_cons]; rintro (h | h | h)
      · exact hk h
      · exact absurd h (by decide)
      · exact hj h
theorem textS_many {S : List TermS} (hr : rightS S = true) (h : S ≠ []) : textS S = Lib.join (S.map textTm) [44] := by
  unfold textS
  rw [if_pos hr, if_neg (by simpa using h)]
theorem terms_text {S : List TermS} (hr : rightS S = true) (h : S ≠ []) : termsL (textS S) = S := by
  have hn := (rightS_iff.1 hr).2
  unfold termsL
  rw [textS_many hr h, splitC_join (by simpa using h) (fun p hp => ?_), List.map_map]
  · conv => rhs; rw [← List.map_id S]
    refine List.map_congr_left fun t ht => ?_
    show mkT (termL (textTm t)) = t
    rw [term_text (hn t ht), mk_un]
  · obtain ⟨t, ht, rfl⟩ := List.mem_map.1 hp
    exact term_no_comma (hn t ht)
theorem sparse_text {S : List TermS} (hr : rightS S = true) : parseS (textS S) = (S, true) := by
  by_cases h : S = []
  · subst h; rfl
  · have ht := terms_text hr h
    have hne : textS S ≠ [45] := by
      intro e
      rw [e] at ht
      have : termsL [45] = [(⟨#[45]⟩, false, [])] := by decide +kernel
      rw [this] at ht
      rw [← ht] at hr
      exact absurd hr (by decide +kernel)
    rw [parseS_good hne (by rw [ht]; exact hr) (by rw [ht]), ht]
theorem stext_parse {t : Bs} {S : List TermS} (h : parseS t = (S, true)) : rightS S = true ∧ textS S = t := by
  unfold parseS at h
  split at h
  · rename_i h45
    obtain rfl := (Prod.mk.inj h).1
    subst h45
    exact ⟨rfl, rfl⟩
  · split at h
    · rename_i hr
      obtain rfl := (Prod.mk.inj h).1
      exact hr
    · cases (Prod.mk.inj h).2
end Go.Dm

namespace Go.Dm
open Go Go.RowKit
/-- A text of a few terms. -/
def showsS (S : List TermS) : Bs := Lib.join (S.map textTm) [44]
theorem showsS_one (t : TermS) : showsS [t] = textTm t := Lib.join_one _ _
theorem showsS_snoc {S : List TermS} (t : TermS) (h : S ≠ []) : showsS (S ++ [t]) = showsS S ++ 44 :: textTm t := by
  unfold showsS
  rw [List.map_append, List.map_cons, List.map_nil, join_snocC _ (by simpa using h)]
theorem joinB_step0 {vs : List ByteArray} {c : UInt8} (h : 0 < vs.length) : joinB (vs.take 1) c = (strAt vs 0).data.toList := by
  rw [List.take_succ_eq_append_getElem h]
  simp [joinB, Lib.join_one, strAt, h]
theorem joinB_step {vs : List ByteArray} {c : UInt8} {m : Nat} (h0 : 0 < m) (h : m < vs.length) : joinB (vs.take (m + 1)) c = joinB (vs.take m) c ++ c :: (strAt vs m).data.toList := by
  unfold joinB
  rw [List.take_succ_eq_append_getElem h, List.map_append, List.map_cons, List.map_nil, join_snocC]
  · simp [strAt, h]
  · intro e
    have := congrArg List.length e
    rw [List.length_map, List.length_take, List.length_nil] at this
    omega
theorem joinB_nil (c : UInt8) : joinB [] c = [] := rfl
/-- What stands ahead of a term's values. -/
def headT (t : TermS) : Bs := if t.2.2.isEmpty then (if t.2.1 then 33 :: bS t.1 else bS t.1) else if t.2.1 then bS t.1 ++ [33, 61] else bS t.1 ++ [61]
theorem text_head (t : TermS) : textTm t = headT t ++ joinB t.2.2 124 := by
  obtain ⟨k, n, vs⟩ := t
  unfold textTm headT
  simp only
  cases hv : vs.isEmpty with
  | true =>
    rw [List.isEmpty_iff.1 hv, joinB_nil]
    cases n <;> simp
  | false => cases n <;> simp
theorem textTm_ne {t : TermS} (h : rightT t = true) : textTm t ≠ [] := by
  have hk := (rightT_iff.1 h).2.1
  have hne : bS t.1 ≠ [] := fun e => by rw [e, right_nil] at hk; cases hk
  unfold textTm
  split
  · split
    · simp
    · exact hne
  · split <;> simp
end Go.Dm
namespace Go.Proofs.YthmhalcloogniaaGreatDoor
open Go.RowKit Go.Dm

set_option maxHeartbeats 8000000 in
set_option maxRecDepth 100000 in
theorem smtext_w (R : List RowS) (v : Value) (w : World) (hf : FitR R) (hx : Terms w v R) :
    Calls Tryz.prog 92 #[v] w fun e w' => e = .returned (.string ⟨(textS (R.map rowT)).toArray⟩) ∧ Ext w w' := by
  obtain ⟨q, cap, rfl, hcap, hcm⟩ := hx.shape
  have C := smright_w R _ w hf hx
  cases hR : rightS (R.map rowT) with
  | false =>
    have hz : Hid (textS (R.map rowT) = [63]) := by show _ = _; unfold textS; rw [hR]; rfl
    rw [hR] at C
    clear hR
    go_enter Tryz.func92, Tryz.ntmps92
    go_wp2_with fail
    refine C.mono ?_; rintro e w1 ⟨rfl, h1⟩
    go_wp2
    go_ret
    exact ⟨by rw [hz.out]; rfl, h1⟩
  | true =>
    have h4 : R.length ≤ 4 := by have := (rightS_iff.1 hR).1; rwa [List.length_map] at this
    have hsh : Hid (∀ k, k < R.length → ShortT (rowT (sAtR R k))) := fun k hk => rightT_sizes ((rightS_iff.1 hR).2 _ (List.mem_map_of_mem (sAtR_mem hk)))
    have hne : Hid (∀ k, k < R.length → textTm (rowT (sAtR R k)) ≠ []) := fun k hk => textTm_ne ((rightS_iff.1 hR).2 _ (List.mem_map_of_mem (sAtR_mem hk)))
    have hN := Lib.hid (fun h : R.length = 0 => (show textS (R.map rowT) = [45] by rw [List.length_eq_zero_iff.1 h]; rfl))
    have hY := Lib.hid (fun h : R.length ≠ 0 => (show textS (R.map rowT) = showsS (R.map rowT) from textS_many hR (by intro e; exact h (by have := congrArg List.length e; simpa using this))))
    rw [hR] at C
    clear hR
    go_enter Tryz.func92, Tryz.ntmps92
    go_wp2_with fail
    refine C.mono ?_; rintro e w1 ⟨rfl, h1⟩
    clear C
    go_wp2
    go_loopw [3, 4] (fun s' i' wr => ∃ (k : Nat) (b : ByteArray), k ≤ R.length ∧ i' = .int .i64 k ∧ s' = .string b ∧ b.size ≤ k * 210 ∧ Ext w1 wr ∧ Hid (b.data.toList = showsS ((R.take k).map rowT) ∧ (0 < k → b.data.toList ≠ []))) (fun _ i' _ => R.length - (intOf i').toNat)
    case atStart => exact ⟨0, ⟨#[]⟩, by omega, rfl, rfl, by decide, Ext.refl _, rfl, fun h => by omega⟩
    case round =>
      obtain ⟨k, b, hk, rfl, rfl, hbs, hb, HB⟩ := hrel
      have er := h1.trans hb
      by_cases hlt : k < R.length
      · obtain ⟨bb, off, rfl, hbl, c0, c1, c2⟩ := (hx.ext er).at hlt
        have vx := (hx.ext er).val hlt
        obtain ⟨hf1, hf2, hf3⟩ := hsh.out k hlt
        obtain ⟨P, hP⟩ : ∃ P : ByteArray, P = if 0 < k then b ++ (⟨#[44]⟩ : ByteArray) else b := ⟨_, rfl⟩
        have hPs : P.size ≤ k * 210 + 1 := by
          rw [hP]; split
          · rw [ByteArray.size_append]; have : (⟨#[44]⟩ : ByteArray).size = 1 := rfl; omega
          · omega
        have hst : Hid (∀ b2 : ByteArray, b2.data.toList = P.data.toList ++ textTm (rowT (sAtR R k)) → b2.data.toList = showsS ((R.take (k + 1)).map rowT) ∧ (0 < k + 1 → b2.data.toList ≠ [])) := fun b2 h2 => by
          obtain ⟨HB1, HB2⟩ := HB.out
          refine ⟨?_, fun _ e => ?_⟩
          · rw [h2, hP, rowT_take hlt]
            by_cases h0 : 0 < k
            · rw [if_pos h0, data_append, HB1, showsS_snoc]
              · simp
              · intro e
                have := congrArg List.length e
                rw [List.length_map, List.length_take, List.length_nil] at this
                omega
            · obtain rfl : k = 0 := by omega
              rw [if_neg h0]
              have HB1 : b.data.toList = [] := HB1
              rw [HB1, List.nil_append, List.take_zero, List.map_nil, List.nil_append, showsS_one]
          · rw [h2] at e
            exact hne.out k hlt (List.append_eq_nil_iff.1 e).2
        generalize sAtR R k = r at *
        obtain ⟨k1, n1, v1, vals1⟩ := r
        have vx : Strs wr v1 vals1 := vx
        have hf1 : k1.size ≤ 32 := hf1
        have hf2 : vals1.length ≤ 4 := hf2
        have hf3 : ∀ x ∈ vals1, x.size ≤ 32 := hf3
        simp only at c0 c1 c2
        obtain ⟨q3, cap3, rfl, _, _⟩ := vx.shape
        have hst2 : Hid (∀ S0 b2 : ByteArray, S0.data.toList = P.data.toList ++ headT (k1, n1, vals1) → b2.data.toList = S0.data.toList ++ joinB vals1 124 → b2.data.toList = showsS ((R.take (k + 1)).map rowT) ∧ (0 < k + 1 → b2.data.toList ≠ [])) := fun S0 b2 h1 h2 => hst.out b2 (by rw [h2, h1, List.append_assoc, ← text_head (k1, n1, vals1)]; rfl)
        have hA := (Ext.refl wr).alloc (.cells #[.string k1, .bool n1, .slice q3 vals1.length cap3] 121)
        have K5 := Cell3.new wr (.string k1) (.bool n1) (.slice q3 vals1.length cap3) 121
        clear hst
        obtain ⟨S0, hS0⟩ : ∃ S0 : ByteArray, S0 = if vals1.isEmpty then (if n1 then (P ++ (⟨#[33]⟩ : ByteArray)) ++ k1 else P ++ k1) else (if n1 then (P ++ k1) ++ (⟨#[33, 61]⟩ : ByteArray) else (P ++ k1) ++ (⟨#[61]⟩ : ByteArray)) := ⟨_, rfl⟩
        have s1 : (⟨#[33]⟩ : ByteArray).size = 1 := rfl
        have s2 : (⟨#[33, 61]⟩ : ByteArray).size = 2 := rfl
        have s3 : (⟨#[61]⟩ : ByteArray).size = 1 := rfl
        have hS0s : S0.size ≤ k * 210 + 35 := by
          rw [hS0]
          split
          · split <;> simp only [ByteArray.size_append] <;> omega
          · split <;> simp only [ByteArray.size_append] <;> omega
        have hS0d : Hid (S0.data.toList = P.data.toList ++ headT (k1, n1, vals1)) := by
          show _ = _
          rw [hS0]
          unfold headT
          simp only
          split
          · split <;> simp [bS]
          · split <;> simp [bS]
        have z1 : (P ++ k1).size ≤ k * 210 + 33 := by rw [ByteArray.size_append]; omega
        have z2 : (P ++ (⟨#[33]⟩ : ByteArray)).size ≤ k * 210 + 2 := by rw [ByteArray.size_append]; omega
        have sc : (⟨#[44]⟩ : ByteArray).size = 1 := rfl
        have hin : (vals1.isEmpty = true ∧ ((vals1.length : Int) == 0) = true) ∨ (vals1.isEmpty = false ∧ ((vals1.length : Int) == 0) = false) := by
          cases hv : vals1.isEmpty with
          | true => left; rw [List.isEmpty_iff.1 hv]; exact ⟨rfl, rfl⟩
          | false =>
            right
            refine ⟨rfl, ?_⟩
            rw [beq_eq_false_iff_ne]
            intro e
            have : vals1 = [] := List.length_eq_zero_iff.1 (by omega)
            rw [this] at hv; cases hv
        by_cases h0 : 0 < k
        · have hk0 : decide ((0 : Int) < (k : Int)) = true := decide_eq_true (by omega)
          rw [if_pos h0] at hP
          subst hP
          rcases hin with ⟨hv, hv2⟩ | ⟨hv, hv2⟩
          · rw [hv] at hS0
            cases n1
            · simp only [if_true, Bool.false_eq_true, if_false] at hS0
              go_wp2
              rw [← hS0]
              generalize wr.alloc (.cells #[.string k1, .bool false, .slice q3 vals1.length cap3] 121) = wA at *
              replace hS0 := Lib.hid hS0
              go_loopw [3, 6] (fun s' i' wq => ∃ (m : Nat) (b2 : ByteArray), m ≤ vals1.length ∧ i' = .int .i64 m ∧ s' = .string b2 ∧ b2.size ≤ k * 210 + 35 + m * 33 ∧ Ext wA wq ∧ Hid (b2.data.toList = S0.data.toList ++ joinB (vals1.take m) 124)) (fun _ i' _ => vals1.length - (intOf i').toNat)
              case atStart => exact ⟨0, S0, by omega, rfl, rfl, by omega, Ext.refl _, by show _ = _; rw [List.take_zero, joinB_nil, List.append_nil]⟩
              case round =>
                obtain ⟨m, b2, hm, rfl, rfl, hbs2, hbq, HB2⟩ := hrel
                obtain ⟨kl, kc0, kc1, kc2, _, _, _⟩ := K5.ext hbq
                by_cases hltm : m < vals1.length
                · obtain ⟨b3, off3, rfl, hbl3, d0⟩ := (vx.ext (hA.trans hbq)).at hltm
                  have s4 : (strAt vals1 m).size ≤ 32 := hf3 _ (strAt_mem hltm)
                  by_cases hm0 : 0 < m
                  · have hst3 : Hid (((b2 ++ (⟨#[124]⟩ : ByteArray)) ++ strAt vals1 m).data.toList = S0.data.toList ++ joinB (vals1.take (m + 1)) 124) := by
                      show _ = _
                      rw [joinB_step hm0 hltm, data_append, data_append, HB2.out]; simp
                    have s5 : (⟨#[124]⟩ : ByteArray).size = 1 := rfl
                    have z5 : (b2 ++ (⟨#[124]⟩ : ByteArray)).size ≤ k * 210 + 35 + m * 33 + 1 := by rw [ByteArray.size_append]; omega
                    have z6 : ((b2 ++ (⟨#[124]⟩ : ByteArray)) ++ strAt vals1 m).size ≤ k * 210 + 35 + (m + 1) * 33 := by rw [ByteArray.size_append]; omega
                    have hm0d : decide ((0 : Int) < (m : Int)) = true := decide_eq_true (by omega)
                    generalize strAt vals1 m = t1 at *
                    clear s5
                    go_wp2
                    go_roundw
                    case rel => exact ⟨m + 1, _, by omega, by go_num, rfl, z6, hbq, hst3⟩
                    case measure => simp [intOf]; omega
                  · obtain rfl : m = 0 := by omega
                    have hst3 : Hid ((b2 ++ strAt vals1 0).data.toList = S0.data.toList ++ joinB (vals1.take 1) 124) := by
                      show _ = _
                      have h2 := HB2.out
                      rw [List.take_zero, joinB_nil, List.append_nil] at h2
                      rw [joinB_step0 hltm, data_append, h2]
                    have z6 : (b2 ++ strAt vals1 0).size ≤ k * 210 + 35 + 1 * 33 := by rw [ByteArray.size_append]; omega
                    rw [Nat.add_zero] at d0
                    generalize strAt vals1 0 = t1 at *
                    go_wp2
                    go_roundw
                    case rel => exact ⟨1, _, by omega, rfl, rfl, z6, hbq, hst3⟩
                    case measure => simp [intOf]; omega
                · obtain rfl : m = vals1.length := by omega
                  have hfin : Hid (b2.data.toList = showsS ((R.take (k + 1)).map rowT) ∧ (0 < k + 1 → b2.data.toList ≠ [])) := hst2.out S0 b2 hS0d.out (by have := HB2.out; rw [List.take_length] at this; exact this)
                  clear HB2
                  go_wp2
                  go_roundw
                  case rel => exact ⟨k + 1, b2, by omega, by go_num, rfl, by omega, hb.trans (hA.trans hbq), hfin⟩
                  case measure => simp [intOf]; omega
            · simp only [if_true] at hS0
              go_wp2
              rw [← hS0]
              generalize wr.alloc (.cells #[.string k1, .bool true, .slice q3 vals1.length cap3] 121) = wA at *
              replace hS0 := Lib.hid hS0
              go_loopw [3, 6] (fun s' i' wq => ∃ (m : Nat) (b2 : ByteArray), m ≤ vals1.length ∧ i' = .int .i64 m ∧ s' = .string b2 ∧ b2.size ≤ k * 210 + 35 + m * 33 ∧ Ext wA wq ∧ Hid (b2.data.toList = S0.data.toList ++ joinB (vals1.take m) 124)) (fun _ i' _ => vals1.length - (intOf i').toNat)
              case atStart => exact ⟨0, S0, by omega, rfl, rfl, by omega, Ext.refl _, by show _ = _; rw [List.take_zero, joinB_nil, List.append_nil]⟩
              case round =>
                obtain ⟨m, b2, hm, rfl, rfl, hbs2, hbq, HB2⟩ := hrel
                obtain ⟨kl, kc0, kc1, kc2, _, _, _⟩ := K5.ext hbq
                by_cases hltm : m < vals1.length
                · obtain ⟨b3, off3, rfl, hbl3, d0⟩ := (vx.ext (hA.trans hbq)).at hltm
                  have s4 : (strAt vals1 m).size ≤ 32 := hf3 _ (strAt_mem hltm)
                  by_cases hm0 : 0 < m
                  · have hst3 : Hid (((b2 ++ (⟨#[124]⟩ : ByteArray)) ++ strAt vals1 m).data.toList = S0.data.toList ++ joinB (vals1.take (m + 1)) 124) := by
                      show _ = _
                      rw [joinB_step hm0 hltm, data_append, data_append, HB2.out]; simp
                    have s5 : (⟨#[124]⟩ : ByteArray).size = 1 := rfl
                    have z5 : (b2 ++ (⟨#[124]⟩ : ByteArray)).size ≤ k * 210 + 35 + m * 33 + 1 := by rw [ByteArray.size_append]; omega
                    have z6 : ((b2 ++ (⟨#[124]⟩ : ByteArray)) ++ strAt vals1 m).size ≤ k * 210 + 35 + (m + 1) * 33 := by rw [ByteArray.size_append]; omega
                    have hm0d : decide ((0 : Int) < (m : Int)) = true := decide_eq_true (by omega)
                    generalize strAt vals1 m = t1 at *
                    clear s5
                    go_wp2
                    go_roundw
                    case rel => exact ⟨m + 1, _, by omega, by go_num, rfl, z6, hbq, hst3⟩
                    case measure => simp [intOf]; omega
                  · obtain rfl : m = 0 := by omega
                    have hst3 : Hid ((b2 ++ strAt vals1 0).data.toList = S0.data.toList ++ joinB (vals1.take 1) 124) := by
                      show _ = _
                      have h2 := HB2.out
                      rw [List.take_zero, joinB_nil, List.append_nil] at h2
                      rw [joinB_step0 hltm, data_append, h2]
                    have z6 : (b2 ++ strAt vals1 0).size ≤ k * 210 + 35 + 1 * 33 := by rw [ByteArray.size_append]; omega
                    rw [Nat.add_zero] at d0
                    generalize strAt vals1 0 = t1 at *
                    go_wp2
                    go_roundw
                    case rel => exact ⟨1, _, by omega, rfl, rfl, z6, hbq, hst3⟩
                    case measure => simp [intOf]; omega
                · obtain rfl : m = vals1.length := by omega
                  have hfin : Hid (b2.data.toList = showsS ((R.take (k + 1)).map rowT) ∧ (0 < k + 1 → b2.data.toList ≠ [])) := hst2.out S0 b2 hS0d.out (by have := HB2.out; rw [List.take_length] at this; exact this)
                  clear HB2
                  go_wp2
                  go_roundw
                  case rel => exact ⟨k + 1, b2, by omega, by go_num, rfl, by omega, hb.trans (hA.trans hbq), hfin⟩
                  case measure => simp [intOf]; omega
          · rw [hv] at hS0
            cases n1
            · simp only [Bool.false_eq_true, if_false] at hS0
              go_wp2
              rw [← hS0]
              generalize wr.alloc (.cells #[.string k1, .bool false, .slice q3 vals1.length cap3] 121) = wA at *
              replace hS0 := Lib.hid hS0
              go_loopw [3, 6] (fun s' i' wq => ∃ (m : Nat) (b2 : ByteArray), m ≤ vals1.length ∧ i' = .int .i64 m ∧ s' = .string b2 ∧ b2.size ≤ k * 210 + 35 + m * 33 ∧ Ext wA wq ∧ Hid (b2.data.toList = S0.data.toList ++ joinB (vals1.take m) 124)) (fun _ i' _ => vals1.length - (intOf i').toNat)
              case atStart => exact ⟨0, S0, by omega, rfl, rfl, by omega, Ext.refl _, by show _ = _; rw [List.take_zero, joinB_nil, List.append_nil]⟩
              case round =>
                obtain ⟨m, b2, hm, rfl, rfl, hbs2, hbq, HB2⟩ := hrel
                obtain ⟨kl, kc0, kc1, kc2, _, _, _⟩ := K5.ext hbq
                by_cases hltm : m < vals1.length
                · obtain ⟨b3, off3, rfl, hbl3, d0⟩ := (vx.ext (hA.trans hbq)).at hltm
                  have s4 : (strAt vals1 m).size ≤ 32 := hf3 _ (strAt_mem hltm)
                  by_cases hm0 : 0 < m
                  · have hst3 : Hid (((b2 ++ (⟨#[124]⟩ : ByteArray)) ++ strAt vals1 m).data.toList = S0.data.toList ++ joinB (vals1.take (m + 1)) 124) := by
                      show _ = _
                      rw [joinB_step hm0 hltm, data_append, data_append, HB2.out]; simp
                    have s5 : (⟨#[124]⟩ : ByteArray).size = 1 := rfl
                    have z5 : (b2 ++ (⟨#[124]⟩ : ByteArray)).size ≤ k * 210 + 35 + m * 33 + 1 := by rw [ByteArray.size_append]; omega
                    have z6 : ((b2 ++ (⟨#[124]⟩ : ByteArray)) ++ strAt vals1 m).size ≤ k * 210 + 35 + (m + 1) * 33 := by rw [ByteArray.size_append]; omega
                    have hm0d : decide ((0 : Int) < (m : Int)) = true := decide_eq_true (by omega)
                    generalize strAt vals1 m = t1 at *
                    clear s5
                    go_wp2
                    go_roundw
                    case rel => exact ⟨m + 1, _, by omega, by go_num, rfl, z6, hbq, hst3⟩
                    case measure => simp [intOf]; omega
                  · obtain rfl : m = 0 := by omega
                    have hst3 : Hid ((b2 ++ strAt vals1 0).data.toList = S0.data.toList ++ joinB (vals1.take 1) 124) := by
                      show _ = _
                      have h2 := HB2.out
                      rw [List.take_zero, joinB_nil, List.append_nil] at h2
                      rw [joinB_step0 hltm, data_append, h2]
                    have z6 : (b2 ++ strAt vals1 0).size ≤ k * 210 + 35 + 1 * 33 := by rw [ByteArray.size_append]; omega
                    rw [Nat.add_zero] at d0
                    generalize strAt vals1 0 = t1 at *
                    go_wp2
                    go_roundw
                    case rel => exact ⟨1, _, by omega, rfl, rfl, z6, hbq, hst3⟩
                    case measure => simp [intOf]; omega
                · obtain rfl : m = vals1.length := by omega
                  have hfin : Hid (b2.data.toList = showsS ((R.take (k + 1)).map rowT) ∧ (0 < k + 1 → b2.data.toList ≠ [])) := hst2.out S0 b2 hS0d.out (by have := HB2.out; rw [List.take_length] at this; exact this)
                  clear HB2
                  go_wp2
                  go_roundw
                  case rel => exact ⟨k + 1, b2, by omega, by go_num, rfl, by omega, hb.trans (hA.trans hbq), hfin⟩
                  case measure => simp [intOf]; omega
            · simp only [if_true, Bool.false_eq_true, if_false] at hS0
              go_wp2
              rw [← hS0]
              generalize wr.alloc (.cells #[.string k1, .bool true, .slice q3 vals1.length cap3] 121) = wA at *
              replace hS0 := Lib.hid hS0
              go_loopw [3, 6] (fun s' i' wq => ∃ (m : Nat) (b2 : ByteArray), m ≤ vals1.length ∧ i' = .int .i64 m ∧ s' = .string b2 ∧ b2.size ≤ k * 210 + 35 + m * 33 ∧ Ext wA wq ∧ Hid (b2.data.toList = S0.data.toList ++ joinB (vals1.take m) 124)) (fun _ i' _ => vals1.length - (intOf i').toNat)
              case atStart => exact ⟨0, S0, by omega, rfl, rfl, by omega, Ext.refl _, by show _ = _; rw [List.take_zero, joinB_nil, List.append_nil]⟩
              case round =>
                obtain ⟨m, b2, hm, rfl, rfl, hbs2, hbq, HB2⟩ := hrel
                obtain ⟨kl, kc0, kc1, kc2, _, _, _⟩ := K5.ext hbq
                by_cases hltm : m < vals1.length
                · obtain ⟨b3, off3, rfl, hbl3, d0⟩ := (vx.ext (hA.trans hbq)).at hltm
                  have s4 : (strAt vals1 m).size ≤ 32 := hf3 _ (strAt_mem hltm)
                  by_cases hm0 : 0 < m
                  · have hst3 : Hid (((b2 ++ (⟨#[124]⟩ : ByteArray)) ++ strAt vals1 m).data.toList = S0.data.toList ++ joinB (vals1.take (m + 1)) 124) := by
                      show _ = _
                      rw [joinB_step hm0 hltm, data_append, data_append, HB2.out]; simp
                    have s5 : (⟨#[124]⟩ : ByteArray).size = 1 := rfl
                    have z5 : (b2 ++ (⟨#[124]⟩ : ByteArray)).size ≤ k * 210 + 35 + m * 33 + 1 := by rw [ByteArray.size_append]; omega
                    have z6 : ((b2 ++ (⟨#[124]⟩ : ByteArray)) ++ strAt vals1 m).size ≤ k * 210 + 35 + (m + 1) * 33 := by rw [ByteArray.size_append]; omega
                    have hm0d : decide ((0 : Int) < (m : Int)) = true := decide_eq_true (by omega)
                    generalize strAt vals1 m = t1 at *
                    clear s5
                    go_wp2
                    go_roundw
                    case rel => exact ⟨m + 1, _, by omega, by go_num, rfl, z6, hbq, hst3⟩
                    case measure => simp [intOf]; omega
                  · obtain rfl : m = 0 := by omega
                    have hst3 : Hid ((b2 ++ strAt vals1 0).data.toList = S0.data.toList ++ joinB (vals1.take 1) 124) := by
                      show _ = _
                      have h2 := HB2.out
                      rw [List.take_zero, joinB_nil, List.append_nil] at h2
                      rw [joinB_step0 hltm, data_append, h2]
                    have z6 : (b2 ++ strAt vals1 0).size ≤ k * 210 + 35 + 1 * 33 := by rw [ByteArray.size_append]; omega
                    rw [Nat.add_zero] at d0
                    generalize strAt vals1 0 = t1 at *
                    go_wp2
                    go_roundw
                    case rel => exact ⟨1, _, by omega, rfl, rfl, z6, hbq, hst3⟩
                    case measure => simp [intOf]; omega
                · obtain rfl : m = vals1.length := by omega
                  have hfin : Hid (b2.data.toList = showsS ((R.take (k + 1)).map rowT) ∧ (0 < k + 1 → b2.data.toList ≠ [])) := hst2.out S0 b2 hS0d.out (by have := HB2.out; rw [List.take_length] at this; exact this)
                  clear HB2
                  go_wp2
                  go_roundw
                  case rel => exact ⟨k + 1, b2, by omega, by go_num, rfl, by omega, hb.trans (hA.trans hbq), hfin⟩
                  case measure => simp [intOf]; omega
        · obtain rfl : k = 0 := by omega
          rw [if_neg h0] at hP
          subst hP
          rw [Nat.zero_mul, Nat.add_zero] at c0 c1 c2
          rcases hin with ⟨hv, hv2⟩ | ⟨hv, hv2⟩
          · rw [hv] at hS0
            cases n1
            · simp only [if_true, Bool.false_eq_true, if_false] at hS0
              go_wp2
              rw [← hS0]
              generalize wr.alloc (.cells #[.string k1, .bool false, .slice q3 vals1.length cap3] 121) = wA at *
              replace hS0 := Lib.hid hS0
              go_loopw [3, 6] (fun s' i' wq => ∃ (m : Nat) (b2 : ByteArray), m ≤ vals1.length ∧ i' = .int .i64 m ∧ s' = .string b2 ∧ b2.size ≤ 0 * 210 + 35 + m * 33 ∧ Ext wA wq ∧ Hid (b2.data.toList = S0.data.toList ++ joinB (vals1.take m) 124)) (fun _ i' _ => vals1.length - (intOf i').toNat)
              case atStart => exact ⟨0, S0, by omega, rfl, rfl, by omega, Ext.refl _, by show _ = _; rw [List.take_zero, joinB_nil, List.append_nil]⟩
              case round =>
                obtain ⟨m, b2, hm, rfl, rfl, hbs2, hbq, HB2⟩ := hrel
                obtain ⟨kl, kc0, kc1, kc2, _, _, _⟩ := K5.ext hbq
                by_cases hltm : m < vals1.length
                · obtain ⟨b3, off3, rfl, hbl3, d0⟩ := (vx.ext (hA.trans hbq)).at hltm
                  have s4 : (strAt vals1 m).size ≤ 32 := hf3 _ (strAt_mem hltm)
                  by_cases hm0 : 0 < m
                  · have hst3 : Hid (((b2 ++ (⟨#[124]⟩ : ByteArray)) ++ strAt vals1 m).data.toList = S0.data.toList ++ joinB (vals1.take (m + 1)) 124) := by
                      show _ = _
                      rw [joinB_step hm0 hltm, data_append, data_append, HB2.out]; simp
                    have s5 : (⟨#[124]⟩ : ByteArray).size = 1 := rfl
                    have z5 : (b2 ++ (⟨#[124]⟩ : ByteArray)).size ≤ 0 * 210 + 35 + m * 33 + 1 := by rw [ByteArray.size_append]; omega
                    have z6 : ((b2 ++ (⟨#[124]⟩ : ByteArray)) ++ strAt vals1 m).size ≤ 0 * 210 + 35 + (m + 1) * 33 := by rw [ByteArray.size_append]; omega
                    have hm0d : decide ((0 : Int) < (m : Int)) = true := decide_eq_true (by omega)
                    generalize strAt vals1 m = t1 at *
                    clear s5
                    go_wp2
                    go_roundw
                    case rel => exact ⟨m + 1, _, by omega, by go_num, rfl, z6, hbq, hst3⟩
                    case measure => simp [intOf]; omega
                  · obtain rfl : m = 0 := by omega
                    have hst3 : Hid ((b2 ++ strAt vals1 0).data.toList = S0.data.toList ++ joinB (vals1.take 1) 124) := by
                      show _ = _
                      have h2 := HB2.out
                      rw [List.take_zero, joinB_nil, List.append_nil] at h2
                      rw [joinB_step0 hltm, data_append, h2]
                    have z6 : (b2 ++ strAt vals1 0).size ≤ 0 * 210 + 35 + 1 * 33 := by rw [ByteArray.size_append]; omega
                    rw [Nat.add_zero] at d0
                    generalize strAt vals1 0 = t1 at *
                    go_wp2
                    go_roundw
                    case rel => exact ⟨1, _, by omega, rfl, rfl, z6, hbq, hst3⟩
                    case measure => simp [intOf]; omega
                · obtain rfl : m = vals1.length := by omega
                  have hfin : Hid (b2.data.toList = showsS ((R.take (0 + 1)).map rowT) ∧ (0 < 0 + 1 → b2.data.toList ≠ [])) := hst2.out S0 b2 hS0d.out (by have := HB2.out; rw [List.take_length] at this; exact this)
                  clear HB2
                  go_wp2
                  go_roundw
                  case rel => exact ⟨0 + 1, b2, by omega, by go_num, rfl, by omega, hb.trans (hA.trans hbq), hfin⟩
                  case measure => simp [intOf]; omega
            · simp only [if_true] at hS0
              go_wp2
              rw [← hS0]
              generalize wr.alloc (.cells #[.string k1, .bool true, .slice q3 vals1.length cap3] 121) = wA at *
              replace hS0 := Lib.hid hS0
              go_loopw [3, 6] (fun s' i' wq => ∃ (m : Nat) (b2 : ByteArray), m ≤ vals1.length ∧ i' = .int .i64 m ∧ s' = .string b2 ∧ b2.size ≤ 0 * 210 + 35 + m * 33 ∧ Ext wA wq ∧ Hid (b2.data.toList = S0.data.toList ++ joinB (vals1.take m) 124)) (fun _ i' _ => vals1.length - (intOf i').toNat)
              case atStart => exact ⟨0, S0, by omega, rfl, rfl, by omega, Ext.refl _, by show _ = _; rw [List.take_zero, joinB_nil, List.append_nil]⟩
              case round =>
                obtain ⟨m, b2, hm, rfl, rfl, hbs2, hbq, HB2⟩ := hrel
                obtain ⟨kl, kc0, kc1, kc2, _, _, _⟩ := K5.ext hbq
                by_cases hltm : m < vals1.length
                · obtain ⟨b3, off3, rfl, hbl3, d0⟩ := (vx.ext (hA.trans hbq)).at hltm
                  have s4 : (strAt vals1 m).size ≤ 32 := hf3 _ (strAt_mem hltm)
                  by_cases hm0 : 0 < m
                  · have hst3 : Hid (((b2 ++ (⟨#[124]⟩ : ByteArray)) ++ strAt vals1 m).data.toList = S0.data.toList ++ joinB (vals1.take (m + 1)) 124) := by
                      show _ = _
                      rw [joinB_step hm0 hltm, data_append, data_append, HB2.out]; simp
                    have s5 : (⟨#[124]⟩ : ByteArray).size = 1 := rfl
                    have z5 : (b2 ++ (⟨#[124]⟩ : ByteArray)).size ≤ 0 * 210 + 35 + m * 33 + 1 := by rw [ByteArray.size_append]; omega
                    have z6 : ((b2 ++ (⟨#[124]⟩ : ByteArray)) ++ strAt vals1 m).size ≤ 0 * 210 + 35 + (m + 1) * 33 := by rw [ByteArray.size_append]; omega
                    have hm0d : decide ((0 : Int) < (m : Int)) = true := decide_eq_true (by omega)
                    generalize strAt vals1 m = t1 at *
                    clear s5
                    go_wp2
                    go_roundw
                    case rel => exact ⟨m + 1, _, by omega, by go_num, rfl, z6, hbq, hst3⟩
                    case measure => simp [intOf]; omega
                  · obtain rfl : m = 0 := by omega
                    have hst3 : Hid ((b2 ++ strAt vals1 0).data.toList = S0.data.toList ++ joinB (vals1.take 1) 124) := by
                      show _ = _
                      have h2 := HB2.out
                      rw [List.take_zero, joinB_nil, List.append_nil] at h2
                      rw [joinB_step0 hltm, data_append, h2]
                    have z6 : (b2 ++ strAt vals1 0).size ≤ 0 * 210 + 35 + 1 * 33 := by rw [ByteArray.size_append]; omega
                    rw [Nat.add_zero] at d0
                    generalize strAt vals1 0 = t1 at *
                    go_wp2
                    go_roundw
                    case rel => exact ⟨1, _, by omega, rfl, rfl, z6, hbq, hst3⟩
                    case measure => simp [intOf]; omega
                · obtain rfl : m = vals1.length := by omega
                  have hfin : Hid (b2.data.toList = showsS ((R.take (0 + 1)).map rowT) ∧ (0 < 0 + 1 → b2.data.toList ≠ [])) := hst2.out S0 b2 hS0d.out (by have := HB2.out; rw [List.take_length] at this; exact this)
                  clear HB2
                  go_wp2
                  go_roundw
                  case rel => exact ⟨0 + 1, b2, by omega, by go_num, rfl, by omega, hb.trans (hA.trans hbq), hfin⟩
                  case measure => simp [intOf]; omega
          · rw [hv] at hS0
            cases n1
            · simp only [Bool.false_eq_true, if_false] at hS0
              go_wp2
              rw [← hS0]
              generalize wr.alloc (.cells #[.string k1, .bool false, .slice q3 vals1.length cap3] 121) = wA at *
              replace hS0 := Lib.hid hS0
              go_loopw [3, 6] (fun s' i' wq => ∃ (m : Nat) (b2 : ByteArray), m ≤ vals1.length ∧ i' = .int .i64 m ∧ s' = .string b2 ∧ b2.size ≤ 0 * 210 + 35 + m * 33 ∧ Ext wA wq ∧ Hid (b2.data.toList = S0.data.toList ++ joinB (vals1.take m) 124)) (fun _ i' _ => vals1.length - (intOf i').toNat)
              case atStart => exact ⟨0, S0, by omega, rfl, rfl, by omega, Ext.refl _, by show _ = _; rw [List.take_zero, joinB_nil, List.append_nil]⟩
              case round =>
                obtain ⟨m, b2, hm, rfl, rfl, hbs2, hbq, HB2⟩ := hrel
                obtain ⟨kl, kc0, kc1, kc2, _, _, _⟩ := K5.ext hbq
                by_cases hltm : m < vals1.length
                · obtain ⟨b3, off3, rfl, hbl3, d0⟩ := (vx.ext (hA.trans hbq)).at hltm
                  have s4 : (strAt vals1 m).size ≤ 32 := hf3 _ (strAt_mem hltm)
                  by_cases hm0 : 0 < m
                  · have hst3 : Hid (((b2 ++ (⟨#[124]⟩ : ByteArray)) ++ strAt vals1 m).data.toList = S0.data.toList ++ joinB (vals1.take (m + 1)) 124) := by
                      show _ = _
                      rw [joinB_step hm0 hltm, data_append, data_append, HB2.out]; simp
                    have s5 : (⟨#[124]⟩ : ByteArray).size = 1 := rfl
                    have z5 : (b2 ++ (⟨#[124]⟩ : ByteArray)).size ≤ 0 * 210 + 35 + m * 33 + 1 := by rw [ByteArray.size_append]; omega
                    have z6 : ((b2 ++ (⟨#[124]⟩ : ByteArray)) ++ strAt vals1 m).size ≤ 0 * 210 + 35 + (m + 1) * 33 := by rw [ByteArray.size_append]; omega
                    have hm0d : decide ((0 : Int) < (m : Int)) = true := decide_eq_true (by omega)
                    generalize strAt vals1 m = t1 at *
                    clear s5
                    go_wp2
                    go_roundw
                    case rel => exact ⟨m + 1, _, by omega, by go_num, rfl, z6, hbq, hst3⟩
                    case measure => simp [intOf]; omega
                  · obtain rfl : m = 0 := by omega
                    have hst3 : Hid ((b2 ++ strAt vals1 0).data.toList = S0.data.toList ++ joinB (vals1.take 1) 124) := by
                      show _ = _
                      have h2 := HB2.out
                      rw [List.take_zero, joinB_nil, List.append_nil] at h2
                      rw [joinB_step0 hltm, data_append, h2]
                    have z6 : (b2 ++ strAt vals1 0).size ≤ 0 * 210 + 35 + 1 * 33 := by rw [ByteArray.size_append]; omega
                    rw [Nat.add_zero] at d0
                    generalize strAt vals1 0 = t1 at *
                    go_wp2
                    go_roundw
                    case rel => exact ⟨1, _, by omega, rfl, rfl, z6, hbq, hst3⟩
                    case measure => simp [intOf]; omega
                · obtain rfl : m = vals1.length := by omega
                  have hfin : Hid (b2.data.toList = showsS ((R.take (0 + 1)).map rowT) ∧ (0 < 0 + 1 → b2.data.toList ≠ [])) := hst2.out S0 b2 hS0d.out (by have := HB2.out; rw [List.take_length] at this; exact this)
                  clear HB2
                  go_wp2
                  go_roundw
                  case rel => exact ⟨0 + 1, b2, by omega, by go_num, rfl, by omega, hb.trans (hA.trans hbq), hfin⟩
                  case measure => simp [intOf]; omega
            · simp only [if_true, Bool.false_eq_true, if_false] at hS0
              go_wp2
              rw [← hS0]
              generalize wr.alloc (.cells #[.string k1, .bool true, .slice q3 vals1.length cap3] 121) = wA at *
              replace hS0 := Lib.hid hS0
              go_loopw [3, 6] (fun s' i' wq => ∃ (m : Nat) (b2 : ByteArray), m ≤ vals1.length ∧ i' = .int .i64 m ∧ s' = .string b2 ∧ b2.size ≤ 0 * 210 + 35 + m * 33 ∧ Ext wA wq ∧ Hid (b2.data.toList = S0.data.toList ++ joinB (vals1.take m) 124)) (fun _ i' _ => vals1.length - (intOf i').toNat)
              case atStart => exact ⟨0, S0, by omega, rfl, rfl, by omega, Ext.refl _, by show _ = _; rw [List.take_zero, joinB_nil, List.append_nil]⟩
              case round =>
                obtain ⟨m, b2, hm, rfl, rfl, hbs2, hbq, HB2⟩ := hrel
                obtain ⟨kl, kc0, kc1, kc2, _, _, _⟩ := K5.ext hbq
                by_cases hltm : m < vals1.length
                · obtain ⟨b3, off3, rfl, hbl3, d0⟩ := (vx.ext (hA.trans hbq)).at hltm
                  have s4 : (strAt vals1 m).size ≤ 32 := hf3 _ (strAt_mem hltm)
                  by_cases hm0 : 0 < m
                  · have hst3 : Hid (((b2 ++ (⟨#[124]⟩ : ByteArray)) ++ strAt vals1 m).data.toList = S0.data.toList ++ joinB (vals1.take (m + 1)) 124) := by
                      show _ = _
                      rw [joinB_step hm0 hltm, data_append, data_append, HB2.out]; simp
                    have s5 : (⟨#[124]⟩ : ByteArray).size = 1 := rfl
                    have z5 : (b2 ++ (⟨#[124]⟩ : ByteArray)).size ≤ 0 * 210 + 35 + m * 33 + 1 := by rw [ByteArray.size_append]; omega
                    have z6 : ((b2 ++ (⟨#[124]⟩ : ByteArray)) ++ strAt vals1 m).size ≤ 0 * 210 + 35 + (m + 1) * 33 := by rw [ByteArray.size_append]; omega
                    have hm0d : decide ((0 : Int) < (m : Int)) = true := decide_eq_true (by omega)
                    generalize strAt vals1 m = t1 at *
                    clear s5
                    go_wp2
                    go_roundw
                    case rel => exact ⟨m + 1, _, by omega, by go_num, rfl, z6, hbq, hst3⟩
                    case measure => simp [intOf]; omega
                  · obtain rfl : m = 0 := by omega
                    have hst3 : Hid ((b2 ++ strAt vals1 0).data.toList = S0.data.toList ++ joinB (vals1.take 1) 124) := by
                      show _ = _
                      have h2 := HB2.out
                      rw [List.take_zero, joinB_nil, List.append_nil] at h2
                      rw [joinB_step0 hltm, data_append, h2]
                    have z6 : (b2 ++ strAt vals1 0).size ≤ 0 * 210 + 35 + 1 * 33 := by rw [ByteArray.size_append]; omega
                    rw [Nat.add_zero] at d0
                    generalize strAt vals1 0 = t1 at *
                    go_wp2
                    go_roundw
                    case rel => exact ⟨1, _, by omega, rfl, rfl, z6, hbq, hst3⟩
                    case measure => simp [intOf]; omega
                · obtain rfl : m = vals1.length := by omega
                  have hfin : Hid (b2.data.toList = showsS ((R.take (0 + 1)).map rowT) ∧ (0 < 0 + 1 → b2.data.toList ≠ [])) := hst2.out S0 b2 hS0d.out (by have := HB2.out; rw [List.take_length] at this; exact this)
                  clear HB2
                  go_wp2
                  go_roundw
                  case rel => exact ⟨0 + 1, b2, by omega, by go_num, rfl, by omega, hb.trans (hA.trans hbq), hfin⟩
                  case measure => simp [intOf]; omega
      · obtain rfl : k = R.length := by omega
        obtain ⟨h, h'⟩ := HB.out
        rw [List.take_length] at h
        by_cases hl0 : R.length = 0
        · have hz := hN.out hl0
          have hb0 : b.data.toList = [] := by rw [h, List.length_eq_zero_iff.1 hl0]; rfl
          obtain rfl : b = ⟨#[]⟩ := mk_bytes hb0
          replace hz := Lib.hid hz
          clear h h' hl0
          go_wp2
          go_ret
          exact ⟨by rw [hz.out]; rfl, er⟩
        · have hz := hY.out hl0
          have hne : b.toList.isEmpty = false := by
            rw [ByteArray.toList_eq, List.isEmpty_eq_false_iff]
            exact h' (by omega)
          rw [← h] at hz
          replace hz := Lib.hid hz
          clear h h' hl0
          go_wp2
          go_ret
          exact ⟨by rw [hz.out]; rfl, er⟩

end Go.Proofs.YthmhalcloogniaaGreatDoor
