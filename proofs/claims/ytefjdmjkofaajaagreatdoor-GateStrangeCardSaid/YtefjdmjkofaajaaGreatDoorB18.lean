/- Texts one behind the other: Chapter 4, plain laws: made labels are right. No program in sight; Chapter 4, plain laws: of what is put no beginning is got. No program in sight; Chapter 4, plain laws of what is put and got at a place. No program in sight; Chapter 5 in plain terms: what is got of a selector is what was put. No program in sight; Chapter 5 in plain terms: what is shown is parsed. No program in sight. -/
import Derived.Test.YtefjdmjkofaajaaGreatDoorB16
import Derived.Test.YtefjdmjkofaajaaGreatDoorB33
import Derived.Test.YtefjdmjkofaajaaGreatDoorB17
import Derived.Test.YtefjdmjkofaajaaGreatDoorB14
import Derived.Test.YtefjdmjkofaajaaGreatDoorB34
namespace Go.Dm
open Go Go.RowKit

end Go.Dm

namespace Go.Dm
open Go Go.RowKit

theorem putT_short {t : Bs} (h : t.length ≤ 32) : (putT t).length ≤ 42 := by
 have := putL_ten (u := t.length) (Nat.lt_of_le_of_lt h (by decide))
 rw [putT, List.length_append]; omega
theorem putP_short : ∀ {L : List PairL}, (∀ p ∈ L, fitPair p) → (putP L).length ≤ 84 * L.length
 | [], _ => by simp [putP]
 | p :: L, h => by
  have h1 := putT_short (h p (by simp)).1
  have h2 := putT_short (h p (by simp)).2
  have ih := putP_short (L := L) (fun q hq => h q (by simp [hq]))
  have e : putP (p :: L) = (putT p.1 ++ putT p.2) ++ putP L := by simp [putP]
  rw [e, List.length_append, List.length_append, List.length_cons]; omega
theorem putLab_short {L : List PairL} (hr : rightLab L = true) : 1 ≤ (putLab L).length ∧ (putLab L).length ≤ 700 := by
 obtain ⟨f1, f2⟩ := right_fits hr
 have h1 := putP_short f2
 have h2 := putL_ten (u := L.length) (Nat.lt_of_le_of_lt f1 (by decide))
 have h3 := putL_pos L.length
 unfold putLab
 rw [if_pos hr, List.length_append]; omega
theorem u64_of {n : Nat} (h : n ≤ 281474976710656) : U64 n := Nat.lt_of_le_of_lt h (by decide)

end Go.Dm

namespace Go.Dm
open Go Go.RowKit

end Go.Dm

namespace Go.Dm
open Go Go.RowKit

section
variable {α : Type} {g : Bs → Option (α × Nat)} {put : α → Bs} {fit : α → Prop}
theorem reads_beginsG (G : ∀ (l : Bs) (x : α) (n : Nat), U64 l.length → (g l = some (x, n) ↔ fit x ∧ n = (put x).length ∧ Begins (put x) l)) {l : Bs} {q : Nat} (hl : U64 l.length) :
  ∀ (i : Nat) (L : List α) (r : Nat), readsL g l q i = some (L, r) ↔ L.length = i ∧ (∀ p ∈ L, fit p) ∧ r = q + (L.flatMap put).length ∧ Begins (L.flatMap put) (l.drop q)
 | 0, L, r => by
  constructor
  ·intro h
   injection h with h
   injection h with h1 h2
   subst h1 h2
   exact ⟨rfl, (fun p hp => by simp at hp), rfl, begins_nil _⟩
  ·rintro ⟨h1, _, h3, _⟩
   obtain rfl := List.length_eq_zero_iff.1 h1
   subst h3
   rfl
 | i + 1, L, r => by
  have snoc : ∀ (K : List α) (p : α), (K ++ [p]).flatMap put = K.flatMap put ++ put p := fun K p => by simp
  constructor
  ·intro h
   rw [readsL] at h
   cases h1 : readsL g l q i with
   | none => rw [h1] at h; cases h
   | some x =>
    obtain ⟨K, k⟩ := x
    rw [h1] at h
    simp only at h
    cases h2 : g (l.drop k) with
    | none => rw [h2] at h; cases h
    | some y =>
     obtain ⟨p, m⟩ := y
     rw [h2] at h
     injection h with h
     injection h with e1 e2
     subst e1 e2
     obtain ⟨a1, a2, rfl, a4⟩ := (reads_beginsG G hl i K k).1 h1
     obtain ⟨b1, rfl, b3⟩ := (G _ _ _ (hl.drop _)).1 h2
     refine ⟨by simp [a1], fun x hx => ?_, by rw [snoc, List.length_append]; omega, ?_⟩
     ·rcases List.mem_append.1 hx with hx | hx
      ·exact a2 x hx
      ·rw [List.mem_singleton] at hx; subst hx; exact b1
     ·rw [snoc, begins_app, List.drop_drop]
      exact ⟨a4, b3⟩
  ·rintro ⟨h1, h2, rfl, h4⟩
   rcases List.eq_nil_or_concat L with rfl | ⟨K, p, rfl⟩
   ·simp at h1
   ·rw [List.concat_eq_append] at *
    rw [snoc, begins_app, List.drop_drop] at h4
    have hK := (reads_beginsG G hl i K (q + (K.flatMap put).length)).2 ⟨by simpa using h1, fun x hx => h2 x (List.mem_append_left _ hx), rfl, h4.1⟩
    have hp := (G _ _ _ (hl.drop _)).2 ⟨h2 p (by simp), rfl, h4.2⟩
    rw [readsL, hK]
    simp only [hp]
    rw [snoc, List.length_append]
    simp [Nat.add_assoc]
theorem some_beginsG (G : ∀ (l : Bs) (x : α) (n : Nat), U64 l.length → (g l = some (x, n) ↔ fit x ∧ n = (put x).length ∧ Begins (put x) l)) {most : Nat} (hm : U64 most) {l : Bs} {L : List α} {n : Nat} (hl : U64 l.length) :
  someL g most l = some (L, n) ↔ L.length ≤ most ∧ (∀ p ∈ L, fit p) ∧ n = (putL L.length ++ L.flatMap put).length ∧ Begins (putL L.length ++ L.flatMap put) l := by
 rw [begins_app, List.length_append]
 constructor
 ·intro h
  cases hg : getL l with
  | none => rw [someL_none hg] at h; cases h
  | some x =>
   obtain ⟨u, k⟩ := x
   rw [someL_some hg] at h
   split at h
   ·rename_i hu
    obtain ⟨a1, rfl, a3⟩ := getL_begins.1 hg
    obtain ⟨rfl, b2, rfl, b4⟩ := (reads_beginsG G hl _ _ _).1 h
    exact ⟨hu, b2, rfl, a3, b4⟩
   ·cases h
 ·rintro ⟨h1, h2, rfl, h4, h5⟩
  have hg := getL_begins.2 ⟨show U64 L.length from Nat.lt_of_le_of_lt h1 hm, rfl, h4⟩
  rw [someL_some hg, if_pos h1]
  exact (reads_beginsG G hl _ _ _).2 ⟨rfl, h2, rfl, h5⟩
end

abbrev TermB := Bs × Bool × List Bs
def numB (T : TermB) : Nat := 2 * T.2.2.length + (if T.2.1 then 1 else 0)
def putTerm (T : TermB) : Bs := (putT T.1 ++ putL (numB T)) ++ T.2.2.flatMap putT
def fitTerm (T : TermB) : Prop := T.1.length ≤ 32 ∧ T.2.2.length ≤ 4 ∧ ∀ x ∈ T.2.2, x.length ≤ 32
theorem term_begins (l : Bs) (T : TermB) (n : Nat) (hl : U64 l.length) : getTermL l = some (T, n) ↔ fitTerm T ∧ n = (putTerm T).length ∧ Begins (putTerm T) l := by
 unfold putTerm
 rw [begins_app, begins_app, List.length_append, List.length_append]
 constructor
 ·intro h
  have hf := getTermL_fit h
  refine ⟨hf, ?_⟩
  cases hT : getTextL 32 l with
  | none => rw [getTermL_no1 hT] at h; cases h
  | some x =>
   obtain ⟨k, n1⟩ := x
   cases hN : getL (l.drop n1) with
   | none => rw [getTermL_no2 hT hN] at h; cases h
   | some x =>
    obtain ⟨u, m⟩ := x
    rw [getTermL_mid hT hN] at h
    split at h
    ·cases hr : readsL (getTextL 32) l (n1 + m) (u / 2) with
     | none => rw [hr] at h; cases h
     | some y =>
      obtain ⟨vs, r⟩ := y
      rw [hr] at h
      injection h with h
      injection h with h1 h2
      subst h1 h2
      obtain ⟨a1, rfl, a3⟩ := (getText_begins hl).1 hT
      obtain ⟨b1, rfl, b3⟩ := getL_begins.1 hN
      obtain ⟨c1, c2, rfl, c4⟩ := (reads_beginsG (g := getTextL 32) (put := putT) (fit := fun t => t.length ≤ 32) (fun l x n hl => getText_begins hl) hl _ _ _).1 hr
      have hu : numB (k, u % 2 == 1, vs) = u := by
       unfold numB
       simp only
       by_cases h1 : u % 2 = 1
       ·rw [if_pos (by simpa using h1)]; omega
       ·rw [if_neg (by simpa using h1)]; omega
      rw [hu]
      exact ⟨rfl, ⟨a3, b3⟩, c4⟩
    ·cases h
 ·rintro ⟨⟨f1, f2, f3⟩, rfl, ⟨h1, h2⟩, h3⟩
  obtain ⟨k, no, vs⟩ := T
  simp only at f1 f2 f3 h1 h2 h3
  have hT := (getText_begins hl).2 ⟨f1, rfl, h1⟩
  have hu9 : numB (k, no, vs) ≤ 9 := by unfold numB; simp only; split <;> omega
  have hN := getL_begins.2 ⟨show U64 (numB (k, no, vs)) from Nat.lt_of_le_of_lt hu9 (by decide), rfl, h2⟩
  have hd : numB (k, no, vs) / 2 = vs.length := by unfold numB; simp only; split <;> omega
  have hm : (numB (k, no, vs) % 2 == 1) = no := by
   unfold numB; simp only
   cases no with
   | true => simp
   | false => simp
  have hr := (reads_beginsG (g := getTextL 32) (put := putT) (fit := fun t => t.length ≤ 32) (fun l x n hl => getText_begins hl) hl vs.length vs _).2 ⟨rfl, f3, rfl, h3⟩
  rw [getTermL_mid hT hN, if_pos hu9, hd, hr, hm]

def unT (t : TermS) : TermB := (bS t.1, t.2.1, t.2.2.map bS)
theorem mk_bS (x : ByteArray) : (⟨(bS x).toArray⟩ : ByteArray) = x := by cases x; simp [bS]
theorem mk_un (t : TermS) : mkT (unT t) = t := by
 obtain ⟨k, no, vs⟩ := t
 have e : (vs.map bS).map (fun x => (⟨x.toArray⟩ : ByteArray)) = vs := by
  rw [List.map_map]
  conv => rhs; rw [← List.map_id vs]
  exact List.map_congr_left fun x _ => mk_bS x
 show ((⟨(bS k).toArray⟩ : ByteArray), no, (vs.map bS).map (fun x => (⟨x.toArray⟩ : ByteArray))) = (k, no, vs)
 rw [e, mk_bS]
theorem un_mk (T : TermB) : unT (mkT T) = T := by
 obtain ⟨k, no, vs⟩ := T
 have e : (vs.map (fun x => (⟨x.toArray⟩ : ByteArray))).map bS = vs := by
  rw [List.map_map]
  conv => rhs; rw [← List.map_id vs]
  exact List.map_congr_left fun x _ => rfl
 show (bS ⟨k.toArray⟩, no, (vs.map (fun x => (⟨x.toArray⟩ : ByteArray))).map bS) = (k, no, vs)
 rw [e]; rfl
theorem mk_uns (S : List TermS) : (S.map unT).map mkT = S := by
 rw [List.map_map]
 conv => rhs; rw [← List.map_id S]
 exact List.map_congr_left fun t _ => mk_un t
theorem un_mks (T : List TermB) : (T.map mkT).map unT = T := by
 rw [List.map_map]
 conv => rhs; rw [← List.map_id T]
 exact List.map_congr_left fun t _ => un_mk t
theorem putTerm_un (t : TermS) : putTerm (unT t) = putTm t := by
 unfold putTerm putTm unT numB numT putVals
 simp only [List.length_map]
 rw [List.flatMap_map]
theorem putTerms_un (S : List TermS) : (S.map unT).flatMap putTerm = putTms S := by
 rw [List.flatMap_map]
 unfold putTms
 congr 1
 funext t
 exact putTerm_un t
theorem rightS_fit {S : List TermS} (h : rightS S = true) : S.length ≤ 4 ∧ ∀ p ∈ S.map unT, fitTerm p := by
 obtain ⟨h1, h2⟩ := rightS_iff.1 h
 refine ⟨h1, fun p hp => ?_⟩
 obtain ⟨t, ht, rfl⟩ := List.mem_map.1 hp
 obtain ⟨f1, f2, f3⟩ := rightT_sizes (h2 t ht)
 refine ⟨f1, by show (t.2.2.map bS).length ≤ 4; rw [List.length_map]; exact f2, fun x hx => ?_⟩
 obtain ⟨y, hy, rfl⟩ := List.mem_map.1 hx
 exact f3 y hy
/-- What is got is right, and what was put; what was put is got. -/
theorem sel_begins {l : Bs} {S : List TermS} {n : Nat} (hl : U64 l.length) : getSelL l = some (S.map unT, n) ↔ rightS S = true ∧ n = (putS S).length ∧ Begins (putS S) l := by
 have hput : rightS S = true → putS S = putL (S.map unT).length ++ (S.map unT).flatMap putTerm := fun hr => by
  unfold putS; rw [if_pos hr, putTerms_un, List.length_map]
 constructor
 ·intro h
  cases hg : someL getTermL 4 l with
  | none => rw [getSelL_none hg] at h; cases h
  | some x =>
   obtain ⟨K, k⟩ := x
   rw [getSelL_some hg] at h
   split at h
   ·rename_i hr
    injection h with h
    injection h with e1 e2
    subst e1 e2
    rw [mk_uns] at hr
    obtain ⟨_, _, rfl, h4⟩ := (some_beginsG term_begins (most := 4) (u64_of (by decide)) hl).1 hg
    rw [hput hr]
    exact ⟨hr, rfl, h4⟩
   ·cases h
 ·rintro ⟨hr, rfl, h3⟩
  obtain ⟨f1, f2⟩ := rightS_fit hr
  rw [hput hr] at h3 ⊢
  have hg := (some_beginsG term_begins (most := 4) (u64_of (by decide)) hl).2 ⟨by rw [List.length_map]; exact f1, f2, rfl, h3⟩
  rw [getSelL_some hg, mk_uns, if_pos hr]

theorem putTms_short : ∀ {S : List TermS}, (∀ t ∈ S, rightT t = true) → (putTms S).length ≤ 230 * S.length
 | [], _ => by simp [putTms]
 | t :: S, h => by
  obtain ⟨f1, f2, f3⟩ := rightT_sizes (h t (by simp))
  have h1 := putT_short (t := bS t.1) f1
  have h2 := putL_ten (u := numT t) (Nat.lt_of_le_of_lt (show numT t ≤ 9 by unfold numT; split <;> omega) (by decide))
  have h3 : ∀ (vs : List ByteArray), (∀ x ∈ vs, x.size ≤ 32) → (putVals vs).length ≤ 42 * vs.length := by
   intro vs
   induction vs with
   | nil => intro _; simp [putVals]
   | cons v vs ih =>
    intro hv
    have a1 := putT_short (t := bS v) (hv v (by simp))
    have a2 := ih (fun x hx => hv x (by simp [hx]))
    have e : putVals (v :: vs) = putT (bS v) ++ putVals vs := by simp [putVals]
    rw [e, List.length_append, List.length_cons]; omega
  have h4 := h3 _ f3
  have ih := putTms_short (S := S) (fun q hq => h q (by simp [hq]))
  have e : putTms (t :: S) = putTm t ++ putTms S := by simp [putTms]
  have e2 : (putTm t).length = (putT (bS t.1)).length + (putL (numT t)).length + (putVals t.2.2).length := by unfold putTm; rw [List.length_append, List.length_append]
  rw [e, List.length_append, List.length_cons, e2]; omega
theorem putS_short {S : List TermS} (hr : rightS S = true) : 1 ≤ (putS S).length ∧ (putS S).length ≤ 1000 := by
 obtain ⟨f1, f2⟩ := rightS_iff.1 hr
 have h1 := putTms_short f2
 have h2 := putL_ten (u := S.length) (Nat.lt_of_le_of_lt f1 (by decide))
 have h3 := putL_pos S.length
 unfold putS
 rw [if_pos hr, List.length_append]; omega
end Go.Dm

namespace Go.Dm
open Go Go.RowKit

end Go.Dm
