/- Texts of the base. -/

import Derived.Test.YtefjdmjkofaajaaGreatDoorT8
import Derived.Test.YtefjdmjkofaajaaGreatDoorT18
import Derived.Test.YtefjdmjkofaajaaGreatDoorT24
import Derived.Test.YtefjdmjkofaajaaGreatDoorT22
import Derived.Test.YtefjdmjkofaajaaGreatDoorT13
import Derived.Test.YtefjdmjkofaajaaGreatDoorT14
import Derived.Test.YtefjdmjkofaajaaGreatDoorT15
import Derived.Test.YtefjdmjkofaajaaGreatDoorT12
import Derived.Test.YtefjdmjkofaajaaGreatDoorT29
import Derived.Test.YtefjdmjkofaajaaGreatDoorT6
import Derived.Test.YtefjdmjkofaajaaGreatDoorT5
import Derived.Test.YtefjdmjkofaajaaGreatDoorT4
import Derived.Test.YtefjdmjkofaajaaGreatDoorT7
import Derived.Test.YtefjdmjkofaajaaGreatDoorT28
import Derived.Handy
import Derived.Test.YtefjdmjkofaajaaGreatDoorT19
namespace Go.Dm
open Go Go.RowKit
abbrev SpQ := ByteArray × Vc × (Int × Int × Int) × List TermS
def noSp : SpQ := (⟨#[]⟩, noV, (0, 0, 0), [])
def nat64 (z : Int) : Nat := (z % 18446744073709551616).toNat
theorem nat64_u64 (z : Int) : U64 (nat64 z) := by unfold nat64 U64; omega
def totOk (x : SpQ) : Bool := vtimesOk x.2.1 (nat64 x.2.2.1.1)
def inNum (c : Int × Int × Int) : Bool := decide (1 ≤ c.1 ∧ c.1 ≤ 8 ∧ 0 ≤ c.2.1 ∧ c.2.1 ≤ 9 ∧ 1 ≤ c.2.2 ∧ c.2.2 ≤ 100)
def chkX (x : SpQ) : Nat :=
 if underL x.1.data.toList x.1.data.toList = false then 6
 else if inNum x.2.2.1 = false then 1
 else if rightS x.2.2.2 = false then 2
 else if totOk x = false then 5 else 0
theorem chkX_iff {x : SpQ} : chkX x = 0 ↔ underL x.1.data.toList x.1.data.toList = true ∧ inNum x.2.2.1 = true ∧ rightS x.2.2.2 = true ∧ totOk x = true := by
 unfold chkX
 constructor
 ·intro h
  split at h
  ·cases h
  ·split at h
   ·cases h
   ·split at h
    ·cases h
    ·split at h
     ·cases h
     ·simp_all
 ·rintro ⟨h1, h2, h3, h4⟩
  simp [h1, h2, h3, h4]
def putB (x : SpQ) : Bs := putT x.1.data.toList ++ (putV x.2.1 ++ (putL x.2.2.1.1.toNat ++ (putL x.2.2.1.2.1.toNat ++ (putL x.2.2.1.2.2.toNat ++ putS x.2.2.2))))
def putX (x : SpQ) : Bs := if chkX x = 0 then putB x else []
def getX6 (l : Bs) (x : SpQ) (p : Int) : SpQ × Int × Bool :=
 if (atI getSelL [] l p).2.2 = false then (noSp, 0, false)
 else if chkX (x.1, x.2.1, x.2.2.1, (atI getSelL [] l p).1.map mkT) = 0 then ((x.1, x.2.1, x.2.2.1, (atI getSelL [] l p).1.map mkT), (atI getSelL [] l p).2.1, true)
 else (noSp, 0, false)
def getX5 (l : Bs) (x : SpQ) (p : Int) : SpQ × Int × Bool :=
 if (getI l p).2.2 = false ∨ 100 < (getI l p).1 then (noSp, 0, false) else getX6 l (x.1, x.2.1, (x.2.2.1.1, x.2.2.1.2.1, ((getI l p).1 : Int)), []) (getI l p).2.1
def getX4 (l : Bs) (x : SpQ) (p : Int) : SpQ × Int × Bool :=
 if (getI l p).2.2 = false ∨ 100 < (getI l p).1 then (noSp, 0, false) else getX5 l (x.1, x.2.1, (x.2.2.1.1, ((getI l p).1 : Int), 0), []) (getI l p).2.1
def getX3 (l : Bs) (x : SpQ) (p : Int) : SpQ × Int × Bool :=
 if (getI l p).2.2 = false ∨ 100 < (getI l p).1 then (noSp, 0, false) else getX4 l (x.1, x.2.1, (((getI l p).1 : Int), 0, 0), []) (getI l p).2.1
def getX2 (l : Bs) (t : Bs) (p : Int) : SpQ × Int × Bool :=
 if (getV l p).2.2 = false then (noSp, 0, false) else getX3 l (⟨t.toArray⟩, (getV l p).1, (0, 0, 0), []) (getV l p).2.1
def getX (l : Bs) (p : Int) : SpQ × Int × Bool :=
 if (atI (getTextL 98) [] l p).2.2 = false then (noSp, 0, false) else getX2 l (atI (getTextL 98) [] l p).1 (atI (getTextL 98) [] l p).2.1
def At (b l : Bs) (p n : Int) : Prop := ∃ q : Nat, p = q ∧ n = ((q + b.length : Nat) : Int) ∧ Begins b (l.drop q)
theorem At.app {a b l : Bs} {p n : Int} : At (a ++ b) l p n ↔ ∃ m, At a l p m ∧ At b l m n := by
 constructor
 ·rintro ⟨q, rfl, rfl, h⟩
  rw [begins_app, List.drop_drop] at h
  exact ⟨_, ⟨q, rfl, rfl, h.1⟩, ⟨q + a.length, rfl, by rw [List.length_append, Nat.add_assoc], h.2⟩⟩
 ·rintro ⟨m, ⟨q, rfl, rfl, h1⟩, ⟨q', e, rfl, h2⟩⟩
  obtain rfl : q' = q + a.length := by omega
  exact ⟨q, rfl, by rw [List.length_append, Nat.add_assoc], by rw [begins_app, List.drop_drop]; exact ⟨h1, h2⟩⟩
theorem begins_pos {b l : Bs} {q : Nat} (h : Begins b (l.drop q)) (hb : b ≠ []) : q + b.length ≤ l.length := by
 have h1 := (begins_take.1 h).2
 rw [List.length_drop] at h1
 have := List.length_pos_iff.2 hb
 omega
theorem atI_at {α : Type} {g : Bs → Option (α × Nat)} {put : α → Bs} {fit : α → Prop} {d : α} {l : Bs} (G : ∀ (l : Bs) (x : α) (n : Nat), U64 l.length → (g l = some (x, n) ↔ fit x ∧ n = (put x).length ∧ Begins (put x) l))
  (hne : ∀ x, fit x → put x ≠ []) (hU : U64 l.length) {p n : Int} {x : α} : atI g d l p = (x, n, true) ↔ fit x ∧ At (put x) l p n := by
 constructor
 ·intro h
  unfold atI at h
  split at h
  ·cases h
  ·rename_i hp
   cases hg : g (l.drop p.toNat) with
   | none => rw [hg] at h; cases h
   | some y =>
    obtain ⟨u, m⟩ := y
    rw [hg] at h
    injection h with e1 e2
    injection e2 with e2 _
    subst e1
    obtain ⟨h1, rfl, h3⟩ := (G _ _ _ (hU.drop _)).1 hg
    exact ⟨h1, p.toNat, by omega, by omega, h3⟩
 ·rintro ⟨hf, q, rfl, rfl, h⟩
  have hp := begins_pos h (hne x hf)
  have h0 := List.length_pos_iff.2 (hne x hf)
  unfold atI
  rw [if_neg (by omega), show ((q : Int)).toNat = q from rfl, (G _ _ _ (hU.drop _)).2 ⟨hf, rfl, h⟩]
  simp
theorem putL_ne (u : Nat) : putL u ≠ [] := fun e => by have := putL_pos u; rw [e] at this; simp at this
theorem getI_iff {l : Bs} (hU : U64 l.length) {p n : Int} {u : Nat} : getI l p = (u, n, true) ↔ U64 u ∧ At (putL u) l p n := by
 rw [getI_at]
 exact atI_at (put := putL) (fit := U64) (fun l x n _ => getL_begins) (fun x _ => putL_ne x) hU
theorem text_iff {most : Nat} {l : Bs} (hU : U64 l.length) {p n : Int} {t : Bs} : atI (getTextL most) [] l p = (t, n, true) ↔ t.length ≤ most ∧ At (putT t) l p n :=
 atI_at (put := putT) (fit := fun t => t.length ≤ most) (fun l x n hl => getText_begins hl) (fun x _ e => by unfold putT at e; exact putL_ne _ (List.append_eq_nil_iff.1 e).1) hU
theorem sel_iff {l : Bs} (hU : U64 l.length) {p n : Int} {S : List TermS} : (∃ T, atI getSelL [] l p = (T, n, true) ∧ T.map mkT = S) ↔ rightS S = true ∧ At (putS S) l p n := by
 have h := fun T : List TermB => atI_at (x := T) (g := getSelL) (d := []) (l := l) (put := fun T => putS (T.map mkT)) (fit := fun T => rightS (T.map mkT) = true) (fun l x n hl => by
  have := sel_begins (l := l) (S := x.map mkT) (n := n) hl
  rw [un_mks] at this
  exact this) (fun x h e => by have h1 := (putS_short h).1; have e : putS (x.map mkT) = [] := e; rw [e] at h1; simp at h1) hU (p := p) (n := n)
 constructor
 ·rintro ⟨T, h1, rfl⟩
  exact (h _).1 h1
 ·rintro ⟨h1, h2⟩
  refine ⟨S.map unT, (h _).2 ?_, mk_uns S⟩
  rw [mk_uns]
  exact ⟨h1, h2⟩
theorem getV_iff {l : Bs} (hU : U64 l.length) {p n : Int} {a : Vc} : getV l p = (a, n, true) ↔ OkV a ∧ At (putV a) l p n := by
 have e0 : getV l p = match getVF l p 4 with | some (a, q) => (a, q, true) | none => (noV, 0, false) := rfl
 have step : ∀ k, getVF l p (k + 1) = match getVF l p k with | none => none | some (ns, q) => if (getI l q).2.2 then some (ns ++ [(getI l q).1], (getI l q).2.1) else none := fun k => rfl
 have hs : ∀ {k : Nat} {ns : List Nat} {q : Int}, getVF l p (k + 1) = some (ns, q) ↔ ∃ ms r u, getVF l p k = some (ms, r) ∧ getI l r = (u, q, true) ∧ ns = ms ++ [u] := by
  intro k ns q
  rw [step]
  constructor
  ·intro h
   cases hv : getVF l p k with
   | none => rw [hv] at h; cases h
   | some x =>
    obtain ⟨ms, r⟩ := x
    rw [hv] at h
    simp only at h
    split at h
    ·rename_i ht
     injection h with h
     injection h with h1 h2
     exact ⟨ms, r, _, rfl, by rw [← h2, ← ht], h1.symm⟩
    ·cases h
  ·rintro ⟨ms, r, u, h1, h2, rfl⟩
   rw [h1]
   simp [h2]
 have h0 : ∀ {ns : List Nat} {q : Int}, getVF l p 0 = some (ns, q) ↔ ns = [] ∧ q = p := by
  intro ns q
  unfold getVF
  simp only [Option.some.injEq, Prod.mk.injEq]
  constructor
  ·rintro ⟨a, b⟩; exact ⟨a.symm, b.symm⟩
  ·rintro ⟨a, b⟩; exact ⟨a.symm, b.symm⟩
 constructor
 ·intro h
  rw [e0] at h
  cases hv : getVF l p 4 with
  | none => rw [hv] at h; cases h
  | some x =>
   obtain ⟨ns, q⟩ := x
   rw [hv] at h
   injection h with e1 e2
   injection e2 with e2 _
   subst e1 e2
   obtain ⟨m3, r3, u3, h3, g3, rfl⟩ := hs.1 hv
   obtain ⟨m2, r2, u2, h2, g2, rfl⟩ := hs.1 h3
   obtain ⟨m1, r1, u1, h1, g1, rfl⟩ := hs.1 h2
   obtain ⟨mz, rz, u0, hz, g0, rfl⟩ := hs.1 h1
   obtain ⟨rfl, rfl⟩ := h0.1 hz
   obtain ⟨k0, a0⟩ := (getI_iff hU).1 g0
   obtain ⟨k1, a1⟩ := (getI_iff hU).1 g1
   obtain ⟨k2, a2⟩ := (getI_iff hU).1 g2
   obtain ⟨k3, a3⟩ := (getI_iff hU).1 g3
   refine ⟨okV_mk k0 k1 k2 k3, ?_⟩
   show At (putL u0 ++ putL u1 ++ putL u2 ++ putL u3) l rz q
   rw [At.app]
   refine ⟨_, ?_, a3⟩
   rw [At.app]
   refine ⟨_, ?_, a2⟩
   rw [At.app]
   exact ⟨_, a0, a1⟩
 ·rintro ⟨ha, h⟩
  obtain ⟨x, y, z, u, rfl, hx, hy, hz, hu⟩ := ha.ex
  have h : At (putL x ++ putL y ++ putL z ++ putL u) l p n := h
  rw [At.app] at h
  obtain ⟨r3, h, a3⟩ := h
  rw [At.app] at h
  obtain ⟨r2, h, a2⟩ := h
  rw [At.app] at h
  obtain ⟨r1, a0, a1⟩ := h
  have f0 := h0.2 (⟨rfl, rfl⟩ : ([] : List Nat) = [] ∧ p = p)
  have f1 := hs.2 ⟨_, _, _, f0, (getI_iff hU).2 ⟨hx, a0⟩, rfl⟩
  have f2 := hs.2 ⟨_, _, _, f1, (getI_iff hU).2 ⟨hy, a1⟩, rfl⟩
  have f3 := hs.2 ⟨_, _, _, f2, (getI_iff hU).2 ⟨hz, a2⟩, rfl⟩
  have f4 := hs.2 ⟨_, _, _, f3, (getI_iff hU).2 ⟨hu, a3⟩, rfl⟩
  rw [e0, f4]
  rfl
theorem under_short {l : Bs} (h : underL l l = true) : l.length ≤ 98 ∧ (32 : UInt8) ∉ l := by
 have hne : partsL l ≠ [] := fun e => by rw [under_none e] at h; cases h
 have h3 : (partsL l).length ≤ 3 := by
  unfold partsL
  split
  ·simp
  ·rename_i h; omega
 have hj := partsL_join hne
 have hn := partsL_names (l := l)
 generalize partsL l = P at *
 subst hj
 have hs : ∀ p ∈ P, p.length ≤ 32 ∧ (32 : UInt8) ∉ p := fun p hp => ⟨right_len (hn p hp).right, right_no ⟨by decide, by decide⟩ (hn p hp).right⟩
 match P, hne, h3 with
 | [a], _, _ =>
  rw [joinP_one]
  have := hs a (by simp)
  exact ⟨by omega, this.2⟩
 | [a, b], _, _ =>
  rw [joinP_cons, joinP_one]
  have h1 := hs a (by simp)
  have h2 := hs b (by simp)
  refine ⟨by rw [List.length_append, List.length_cons]; omega, ?_⟩
  rw [List.mem_append, List.mem_cons]
  rintro (h | h | h)
  ·exact h1.2 h
  ·exact absurd h (by decide)
  ·exact h2.2 h
 | [a, b, c], _, _ =>
  rw [joinP_cons, joinP_cons, joinP_one]
  have h1 := hs a (by simp)
  have h2 := hs b (by simp)
  have h4 := hs c (by simp)
  refine ⟨by simp only [List.length_append, List.length_cons]; omega, ?_⟩
  rw [List.mem_append, List.mem_cons, List.mem_append, List.mem_cons]
  rintro (h | h | h | h | h)
  ·exact h1.2 h
  ·exact absurd h (by decide)
  ·exact h2.2 h
  ·exact absurd h (by decide)
  ·exact h4.2 h
theorem inNum_iff {c : Int × Int × Int} : inNum c = true ↔ 1 ≤ c.1 ∧ c.1 ≤ 8 ∧ 0 ≤ c.2.1 ∧ c.2.1 ≤ 9 ∧ 1 ≤ c.2.2 ∧ c.2.2 ≤ 100 := by unfold inNum; exact decide_eq_true_iff
theorem getX_iff {l : Bs} (hU : U64 l.length) {p n : Int} {x : SpQ} : getX l p = (x, n, true) ↔ chkX x = 0 ∧ OkV x.2.1 ∧ At (putB x) l p n := by
 have hu8 : ∀ {k : Nat}, k ≤ 100 → U64 k := fun {k} h => Nat.lt_of_le_of_lt h (by decide)
 constructor
 ·intro h
  unfold getX at h
  rcases ht : atI (getTextL 98) [] l p with ⟨t, p1, b1⟩
  rw [ht] at h
  cases b1 with
  | false => rw [if_pos rfl] at h; cases h
  | true =>
  rw [if_neg (by simp)] at h
  simp only at h
  unfold getX2 at h
  rcases hv : getV l p1 with ⟨d, p2, b2⟩
  rw [hv] at h
  cases b2 with
  | false => rw [if_pos rfl] at h; cases h
  | true =>
  rw [if_neg (by simp)] at h
  simp only at h
  unfold getX3 at h
  rcases h3 : getI l p2 with ⟨c, p3, b3⟩
  rw [h3] at h
  split at h
  ·cases h
  rename_i hc
  simp only [not_or, Bool.not_eq_false, Nat.not_lt] at hc
  obtain ⟨rfl, hc⟩ := hc
  simp only at h
  unfold getX4 at h
  rcases h4 : getI l p3 with ⟨c2, p4, b4⟩
  rw [h4] at h
  split at h
  ·cases h
  rename_i hc2
  simp only [not_or, Bool.not_eq_false, Nat.not_lt] at hc2
  obtain ⟨rfl, hc2⟩ := hc2
  simp only at h
  unfold getX5 at h
  rcases h5 : getI l p4 with ⟨c3, p5, b5⟩
  rw [h5] at h
  split at h
  ·cases h
  rename_i hc3
  simp only [not_or, Bool.not_eq_false, Nat.not_lt] at hc3
  obtain ⟨rfl, hc3⟩ := hc3
  simp only at h
  unfold getX6 at h
  rcases h6 : atI getSelL [] l p5 with ⟨T, p6, b6⟩
  rw [h6] at h
  cases b6 with
  | false => rw [if_pos rfl] at h; cases h
  | true =>
  rw [if_neg (by simp)] at h
  simp only at h
  split at h
  ·rename_i hchk
   injection h with e1 e2
   injection e2 with e2 _
   subst e1 e2
   obtain ⟨_, a1⟩ := (text_iff hU).1 ht
   obtain ⟨o2, a2⟩ := (getV_iff hU).1 hv
   obtain ⟨_, a3⟩ := (getI_iff hU).1 h3
   obtain ⟨_, a4⟩ := (getI_iff hU).1 h4
   obtain ⟨_, a5⟩ := (getI_iff hU).1 h5
   obtain ⟨_, a6⟩ := (sel_iff hU).1 ⟨T, h6, rfl⟩
   refine ⟨hchk, o2, ?_⟩
   unfold putB
   simp only [At.app]
   exact ⟨_, a1, _, a2, _, a3, _, a4, _, a5, a6⟩
  ·cases h
 ·rintro ⟨hchk, o2, h⟩
  obtain ⟨hu, hn, hr, _⟩ := chkX_iff.1 hchk
  obtain ⟨t, d, ⟨c, c2, c3⟩, S⟩ := x
  obtain ⟨n1, n2, n3, n4, n5, n6⟩ := inNum_iff.1 hn
  simp only at n1 n2 n3 n4 n5 n6 hu hr o2
  unfold putB at h
  simp only [At.app] at h
  obtain ⟨p1, a1, p2, a2, p3, a3, p4, a4, p5, a5, a6⟩ := h
  have e1 := (text_iff (most := 98) hU).2 ⟨(under_short hu).1, a1⟩
  have e2 := (getV_iff hU).2 ⟨o2, a2⟩
  have e3 := (getI_iff hU).2 ⟨hu8 (by omega), a3⟩
  have e4 := (getI_iff hU).2 ⟨hu8 (by omega), a4⟩
  have e5 := (getI_iff hU).2 ⟨hu8 (by omega), a5⟩
  obtain ⟨T, e6, hT⟩ := (sel_iff hU).2 ⟨hr, a6⟩
  unfold getX
  rw [e1, if_neg (by simp)]
  unfold getX2
  simp only
  rw [e2, if_neg (by simp)]
  unfold getX3
  simp only
  rw [e3, if_neg (by simp; omega)]
  unfold getX4
  simp only
  rw [e4, if_neg (by simp; omega)]
  unfold getX5
  simp only
  rw [e5, if_neg (by simp; omega)]
  unfold getX6
  simp only
  rw [e6, if_neg (by simp)]
  have ex : ((⟨t.data.toList.toArray⟩, d, (((c.toNat : Nat) : Int), ((c2.toNat : Nat) : Int), ((c3.toNat : Nat) : Int)), T.map mkT) : SpQ) = (t, d, (c, c2, c3), S) := by
   rw [hT, Int.toNat_of_nonneg (by omega), Int.toNat_of_nonneg (by omega), Int.toNat_of_nonneg (by omega)]
  simp only
  rw [ex, if_pos hchk]
theorem putX_ok {x : SpQ} (h : chkX x = 0) : putX x = putB x := by unfold putX; rw [if_pos h]
theorem putX_bad {x : SpQ} (h : chkX x ≠ 0) : putX x = [] := by unfold putX; rw [if_neg h]
theorem putB_short {x : SpQ} (h : chkX x = 0) (ho : OkV x.2.1) : (putB x).length ≤ 1200 := by
 obtain ⟨hu, hn, hr, _⟩ := chkX_iff.1 h
 obtain ⟨n1, n2, n3, n4, n5, n6⟩ := inNum_iff.1 hn
 have hu8 : ∀ {k : Nat}, k ≤ 100 → U64 k := fun {k} h => Nat.lt_of_le_of_lt h (by decide)
 have h1 := (under_short hu).1
 have h2 := putL_ten (hu8 (k := x.1.data.toList.length) (by omega))
 have h3 : (putV x.2.1).length ≤ 40 := by rw [← putVF_four]; exact putVF_len ho 4
 have h4 := putL_ten (hu8 (k := x.2.2.1.1.toNat) (by omega))
 have h5 := putL_ten (hu8 (k := x.2.2.1.2.1.toNat) (by omega))
 have h6 := putL_ten (hu8 (k := x.2.2.1.2.2.toNat) (by omega))
 have h7 := (putS_short hr).2
 unfold putB putT
 simp only [List.length_append]
 omega
/-! What is shown. -/
abbrev Nums3 := Int × Int × Int
def spVal (s : ByteArray) (D : Nat → Nat) (n : Nums3) (v : Value) : Value :=
 .agg #[.string s, .int .u64 (D 0 : Nat), .int .u64 (D 1 : Nat), .int .u64 (D 2 : Nat), .int .u64 (D 3 : Nat), .int .i64 n.1, .int .i64 n.2.1, .int .i64 n.2.2, v]
structure XBox (b : Nat) (s : ByteArray) (D : Nat → Nat) (n : Nums3) (v : Value) (w : World) : Prop where
 lt : b < w.heap.size
 c0 : w.cell? ⟨b, 0, none⟩ = some (.string s)
 c1 : w.cell? ⟨b, 1, none⟩ = some (.int .u64 (D 0 : Nat))
 c2 : w.cell? ⟨b, 2, none⟩ = some (.int .u64 (D 1 : Nat))
 c3 : w.cell? ⟨b, 3, none⟩ = some (.int .u64 (D 2 : Nat))
 c4 : w.cell? ⟨b, 4, none⟩ = some (.int .u64 (D 3 : Nat))
 c5 : w.cell? ⟨b, 5, none⟩ = some (.int .i64 n.1)
 c6 : w.cell? ⟨b, 6, none⟩ = some (.int .i64 n.2.1)
 c7 : w.cell? ⟨b, 7, none⟩ = some (.int .i64 n.2.2)
 c8 : w.cell? ⟨b, 8, none⟩ = some v
 f : ∀ i, i < 9 → w.frozen? ⟨b, i, none⟩ = false
theorem XBox.ext {b : Nat} {s : ByteArray} {D : Nat → Nat} {n : Nums3} {v : Value} {w w' : World} (h : XBox b s D n v w) (hx : Ext w w') : XBox b s D n v w' := by
 have hc : ∀ {i : Nat} {u}, w.cell? ⟨b, i, none⟩ = some u → w'.cell? ⟨b, i, none⟩ = some u := fun {i u} e => by rw [hx.cell (by exact h.lt)]; exact e
 have hf : ∀ {i : Nat}, w.frozen? ⟨b, i, none⟩ = false → w'.frozen? ⟨b, i, none⟩ = false := fun {i} e => by rw [hx.frozen (by exact h.lt)]; exact e
 exact ⟨Nat.lt_of_lt_of_le h.lt hx.size, hc h.c0, hc h.c1, hc h.c2, hc h.c3, hc h.c4, hc h.c5, hc h.c6, hc h.c7, hc h.c8, fun i hi => hf (h.f i hi)⟩
theorem XBox.new (w : World) (s : ByteArray) (D : Nat → Nat) (n : Nums3) (v : Value) (e : TypeId) : XBox w.heap.size s D n v (w.alloc (.cells #[.string s, .int .u64 (D 0 : Nat), .int .u64 (D 1 : Nat), .int .u64 (D 2 : Nat), .int .u64 (D 3 : Nat), .int .i64 n.1, .int .i64 n.2.1, .int .i64 n.2.2, v] e)) :=
 ⟨by simp, by simp, by simp, by simp, by simp, by simp, by simp, by simp, by simp, by simp, fun i hi => by
  match i, hi with
  | 0, _ => simp
  | 1, _ => simp
  | 2, _ => simp
  | 3, _ => simp
  | 4, _ => simp
  | 5, _ => simp
  | 6, _ => simp
  | 7, _ => simp
  | 8, _ => simp⟩
theorem XBox.cells {b : Nat} {s : ByteArray} {D : Nat → Nat} {n : Nums3} {v : Value} {w : World} (h : XBox b s D n v w) : b < w.heap.size ∧ w.cell? ⟨b, 0, none⟩ = some (.string s) ∧ w.cell? ⟨b, 1, none⟩ = some (.int .u64 (D 0 : Nat)) ∧ w.cell? ⟨b, 2, none⟩ = some (.int .u64 (D 1 : Nat)) ∧ w.cell? ⟨b, 3, none⟩ = some (.int .u64 (D 2 : Nat)) ∧ w.cell? ⟨b, 4, none⟩ = some (.int .u64 (D 3 : Nat)) ∧
  w.cell? ⟨b, 5, none⟩ = some (.int .i64 n.1) ∧ w.cell? ⟨b, 6, none⟩ = some (.int .i64 n.2.1) ∧ w.cell? ⟨b, 7, none⟩ = some (.int .i64 n.2.2) ∧ w.cell? ⟨b, 8, none⟩ = some v :=
 ⟨h.lt, h.c0, h.c1, h.c2, h.c3, h.c4, h.c5, h.c6, h.c7, h.c8⟩
theorem XBox.free {b : Nat} {s : ByteArray} {D : Nat → Nat} {n : Nums3} {v : Value} {w : World} (h : XBox b s D n v w) : w.frozen? ⟨b, 0, none⟩ = false ∧ w.frozen? ⟨b, 1, none⟩ = false ∧ w.frozen? ⟨b, 2, none⟩ = false ∧ w.frozen? ⟨b, 3, none⟩ = false ∧ w.frozen? ⟨b, 4, none⟩ = false ∧ w.frozen? ⟨b, 5, none⟩ = false ∧ w.frozen? ⟨b, 6, none⟩ = false ∧ w.frozen? ⟨b, 7, none⟩ = false ∧ w.frozen? ⟨b, 8, none⟩ = false :=
 ⟨h.f 0 (by omega), h.f 1 (by omega), h.f 2 (by omega), h.f 3 (by omega), h.f 4 (by omega), h.f 5 (by omega), h.f 6 (by omega), h.f 7 (by omega), h.f 8 (by omega)⟩
theorem sl_set {w : World} {sz n : Nat} {v : Value} {cs : List Value} (h : Sl w sz v n cs) {b i : Nat} (hb : ∀ c, v.ownBlock = some c → c ≠ b) (u : Value) : Sl (w.setCell ⟨b, i, none⟩ u) sz v n cs :=
 Sl.grown h (grown_set w b i u) (Or.inr fun c e e2 => hb c e (Option.some.inj e2).symm)
theorem sl_put9 {w : World} {sz n : Nat} {v : Value} {cs : List Value} (h : Sl w sz v n cs) {b : Nat} (hb : ∀ c, v.ownBlock = some c → c ≠ b) (c0 c1 c2 c3 c4 c5 c6 c7 c8 : Value) :
  Sl (((((((((w.setCell ⟨b, 0, none⟩ c0).setCell ⟨b, 1, none⟩ c1).setCell ⟨b, 2, none⟩ c2).setCell ⟨b, 3, none⟩ c3).setCell ⟨b, 4, none⟩ c4).setCell ⟨b, 5, none⟩ c5).setCell ⟨b, 6, none⟩ c6).setCell ⟨b, 7, none⟩ c7).setCell ⟨b, 8, none⟩ c8) sz v n cs :=
 sl_set (sl_set (sl_set (sl_set (sl_set (sl_set (sl_set (sl_set (sl_set h hb _) hb _) hb _) hb _) hb _) hb _) hb _) hb _) hb _
end Go.Dm
namespace Go.Proofs.YtefjdmjkofaajaaGreatDoor
open Go.RowKit Go.Dm
end Go.Proofs.YtefjdmjkofaajaaGreatDoor
namespace Go.Dm
open Go Go.RowKit
theorem nat64_cast (z : Int) : ((nat64 z : Nat) : Int) = z % 18446744073709551616 := by unfold nat64; omega
theorem chkX_1 {x : SpQ} (h : underL x.1.data.toList x.1.data.toList = false) : chkX x = 6 := by unfold chkX; rw [if_pos h]
theorem chkX_2 {x : SpQ} (h : underL x.1.data.toList x.1.data.toList = true) (h2 : inNum x.2.2.1 = false) : chkX x = 1 := by unfold chkX; rw [if_neg (by rw [h]; simp), if_pos h2]
theorem chkX_3 {x : SpQ} (h : underL x.1.data.toList x.1.data.toList = true) (h2 : inNum x.2.2.1 = true) (h3 : rightS x.2.2.2 = false) : chkX x = 2 := by unfold chkX; rw [if_neg (by rw [h]; simp), if_neg (by rw [h2]; simp), if_pos h3]
theorem chkX_4 {x : SpQ} (h : underL x.1.data.toList x.1.data.toList = true) (h2 : inNum x.2.2.1 = true) (h3 : rightS x.2.2.2 = true) : chkX x = if totOk x = true then 0 else 5 := by
 unfold chkX; rw [if_neg (by rw [h]; simp), if_neg (by rw [h2]; simp), if_neg (by rw [h3]; simp)]
 cases totOk x <;> rfl
end Go.Dm
namespace Go.Proofs.YtefjdmjkofaajaaGreatDoor
open Go.RowKit Go.Dm
set_option maxHeartbeats 1000000 in
theorem within_w (a b c : Int) (w : World) :
  Calls Tryz.prog 97 #[.int .i64 a, .int .i64 b, .int .i64 c] w fun e w' => e = .returned (.bool (decide (b ≤ a ∧ a ≤ c))) ∧ Ext w w' := by
 by_cases h1 : b ≤ a
 ·by_cases h2 : a ≤ c
  ·rw [decide_eq_true ⟨h1, h2⟩]
   go_enter Tryz.func97, Tryz.ntmps97
   go_wp2
   go_ret
   exact ⟨rfl, Ext.refl _⟩
  ·rw [decide_eq_false (fun h => h2 h.2)]
   go_enter Tryz.func97, Tryz.ntmps97
   go_wp2
   go_ret
   exact ⟨rfl, Ext.refl _⟩
 ·rw [decide_eq_false (fun h => h1 h.1)]
  go_enter Tryz.func97, Tryz.ntmps97
  go_wp2
  go_ret
  exact ⟨rfl, Ext.refl _⟩
set_option maxHeartbeats 2000000 in
theorem xtotal_w (s : ByteArray) (d : Vc) (n : Nums3) (v : Value) (hd : OkV d) (w : World) :
  Calls Tryz.prog 98 #[spVal s (vG d) n v] w fun e w' => e = .returned (.tuple #[vVal (vOr (vtimesOk d (nat64 n.1)) (vtimes d (nat64 n.1))), .bool (vtimesOk d (nat64 n.1))]) ∧ Ext w w' := by
 have C := fun U => vtimes_w d (nat64 n.1) hd (nat64_u64 _) U
 rw [nat64_cast] at C
 unfold vVal at *
 generalize vG (vOr (vtimesOk d (nat64 n.1)) (vtimes d (nat64 n.1))) = R at C ⊢
 generalize vtimesOk d (nat64 n.1) = ok at C ⊢
 generalize vG d = D at C ⊢
 unfold spVal
 unfold vF at *
 have hX := XBox.new w s D n v 30
 have hE : Ext w ((w.alloc (.cells #[.string s, .int .u64 (D 0 : Nat), .int .u64 (D 1 : Nat), .int .u64 (D 2 : Nat), .int .u64 (D 3 : Nat), .int .i64 n.1, .int .i64 n.2.1, .int .i64 n.2.2, v] 30)).alloc (.cells #[.int .u64 (0 : Nat), .int .u64 (0 : Nat), .int .u64 (0 : Nat), .int .u64 (0 : Nat)] 27)) := ((Ext.refl _).alloc _).alloc _
 have hv := VBox.new (w.alloc (.cells #[.string s, .int .u64 (D 0 : Nat), .int .u64 (D 1 : Nat), .int .u64 (D 2 : Nat), .int .u64 (D 3 : Nat), .int .i64 n.1, .int .i64 n.2.1, .int .i64 n.2.2, v] 30)) (fun _ => 0) 27
 rw [World.size_alloc] at hv
 replace hX := hX.ext ((Ext.refl _).alloc (.cells #[.int .u64 (0 : Nat), .int .u64 (0 : Nat), .int .u64 (0 : Nat), .int .u64 (0 : Nat)] 27))
 obtain ⟨xl, x0, x1, x2, x3, x4, x5, x6, x7, x8⟩ := hX.cells
 replace C := Lib.hid C
 go_enter Tryz.func98, Tryz.ntmps98
 go_wp2_with fail
 refine (C.out _).mono ?_; rintro e w1 ⟨rfl, h1⟩
 have v1 := hv.ext h1
 have d0 := v1.cell 0 (by omega)
 have d1 := v1.cell 1 (by omega)
 have d2 := v1.cell 2 (by omega)
 have d3 := v1.cell 3 (by omega)
 have e0 := v1.free 0 (by omega)
 have e1 := v1.free 1 (by omega)
 have e2 := v1.free 2 (by omega)
 have e3 := v1.free 3 (by omega)
 go_wp2
 have z0 := (((v1.set (k := 0) (v := R 0) (by omega)).set (k := 1) (v := R 1) (by omega)).set (k := 2) (v := R 2) (by omega)).set (k := 3) (v := R 3) (by omega)
 have k0 := z0.cell 0 (by omega)
 have k1 := z0.cell 1 (by omega)
 have k2 := z0.cell 2 (by omega)
 have k3 := z0.cell 3 (by omega)
 simp at k0 k1 k2 k3
 refine bodyPost_ret (v := .tuple #[.agg #[.int .u64 (R 0 : Nat), .int .u64 (R 1 : Nat), .int .u64 (R 2 : Nat), .int .u64 (R 3 : Nat)], .bool ok]) (by simp [results, Tryz.results98, go_sem, k0, k1, k2, k3]) rfl ?_
 exact ⟨rfl, (hE.trans h1).put4 (b := w.heap.size + 1) (by omega) R⟩
set_option maxHeartbeats 4000000 in
set_option maxRecDepth 100000 in
theorem xcheck_w (s : ByteArray) (d : Vc) (n : Nums3) (v : Value) (R : List RowS) (w : World) (hs : s.size < 4294967281) (hd : OkV d) (hm : R.length ≤ 35184372088832) (hf : FitR R) (hx : Terms w v R) (ht : Vars w) :
  Calls Tryz.prog 58 #[spVal s (vG d) n v] w fun e w' => e = .returned (.int .i64 (chkX (s, d, n, R.map rowT) : Nat)) ∧ Ext w w' := by
 have C1 := fun U => xtotal_w s d n v hd U
 have C2 := fun U (h : Ext w U) => under_w s s U hs (ht.ext h)
 have C3 := fun a b c U => within_w a b c U
 have C4 := fun U (h : Ext w U) => sright_w R v U hm hf (hx.ext h) (ht.tabs.ext h)
 have k1 := fun h => chkX_1 (x := (s, d, n, R.map rowT)) h
 have k2 := fun h => chkX_2 (x := (s, d, n, R.map rowT)) h
 have k3 := fun h => chkX_3 (x := (s, d, n, R.map rowT)) h
 have k4 := fun h => chkX_4 (x := (s, d, n, R.map rowT)) h
 have hn : inNum n = (decide (1 ≤ n.1 ∧ n.1 ≤ 8) && (decide (0 ≤ n.2.1 ∧ n.2.1 ≤ 9) && decide (1 ≤ n.2.2 ∧ n.2.2 ≤ 100))) := by
  unfold inNum
  rw [Bool.eq_iff_iff]
  simp only [Bool.and_eq_true, decide_eq_true_eq]
  omega
 unfold totOk at k4
 simp only at k1 k2 k3 k4
 generalize chkX (s, d, n, R.map rowT) = K at *
 generalize underL s.data.toList s.data.toList = un at *
 generalize rightS (R.map rowT) = rs at *
 have D1 := C3 n.1 1 8
 have D2 := C3 n.2.1 0 9
 have D3 := C3 n.2.2 1 100
 generalize decide (1 ≤ n.1 ∧ n.1 ≤ 8) = b1 at *
 generalize decide (0 ≤ n.2.1 ∧ n.2.1 ≤ 9) = b2 at *
 generalize decide (1 ≤ n.2.2 ∧ n.2.2 ≤ 100) = b3 at *
 generalize inNum n = bn at *
 unfold vVal at C1
 generalize vG (vOr (vtimesOk d (nat64 n.1)) (vtimes d (nat64 n.1))) = S at *
 generalize vtimesOk d (nat64 n.1) = ok at *
 generalize vG d = D at *
 clear C3
 unfold spVal at *
 unfold vF at C1
 have hX := XBox.new w s D n v 30
 have hE : Ext w (w.alloc (.cells #[.string s, .int .u64 (D 0 : Nat), .int .u64 (D 1 : Nat), .int .u64 (D 2 : Nat), .int .u64 (D 3 : Nat), .int .i64 n.1, .int .i64 n.2.1, .int .i64 n.2.2, v] 30)) := (Ext.refl _).alloc _
 replace C1 := Lib.hid C1
 replace C2 := Lib.hid C2
 replace C4 := Lib.hid C4
 replace D1 := Lib.hid D1
 replace D2 := Lib.hid D2
 replace D3 := Lib.hid D3
 replace k1 := Lib.hid k1
 replace k2 := Lib.hid k2
 replace k3 := Lib.hid k3
 replace k4 := Lib.hid k4
 generalize hW0 : w.alloc (.cells #[.string s, .int .u64 (D 0 : Nat), .int .u64 (D 1 : Nat), .int .u64 (D 2 : Nat), .int .u64 (D 3 : Nat), .int .i64 n.1, .int .i64 n.2.1, .int .i64 n.2.2, v] 30) = W at *
 obtain ⟨xl, x0, x1, x2, x3, x4, x5, x6, x7, x8⟩ := hX.cells
 go_enter Tryz.func58, Tryz.ntmps58
 go_wp2_with fail
 refine (C1.out _).mono ?_; rintro e w1 ⟨rfl, h1⟩
 have hal := (Ext.refl w1).alloc (.cells #[.int .u64 (S 0 : Nat), .int .u64 (S 1 : Nat), .int .u64 (S 2 : Nat), .int .u64 (S 3 : Nat)] 27)
 clear xl x0 x1 x2 x3 x4 x5 x6 x7 x8
 have hX1 := (hX.ext h1).ext hal
 have hE1 := (hE.trans h1).trans hal
 clear hX hE h1 hal
 obtain ⟨xl, x0, x1, x2, x3, x4, x5, x6, x7, x8⟩ := hX1.cells
 go_wp2_with fail
 refine (C2.out _ hE1).mono ?_; rintro e w2 ⟨rfl, h2⟩
 clear xl x0 x1 x2 x3 x4 x5 x6 x7 x8
 have hX2 := hX1.ext h2
 have hE2 := hE1.trans h2
 clear hX1 hE1 h2
 obtain ⟨xl, x0, x1, x2, x3, x4, x5, x6, x7, x8⟩ := hX2.cells
 cases un with
 | false =>
  have hK := k1.out (by trivial)
  subst hK
  go_wp2
  go_ret
  exact ⟨rfl, hE2⟩
 | true =>
 go_wp2_with fail
 refine (D1.out _).mono ?_; rintro e w3 ⟨rfl, h3⟩
 clear xl x0 x1 x2 x3 x4 x5 x6 x7 x8
 have hX3 := hX2.ext h3
 have hE3 := hE2.trans h3
 clear hX2 hE2 h3
 obtain ⟨xl, x0, x1, x2, x3, x4, x5, x6, x7, x8⟩ := hX3.cells
 cases b1 with
 | false =>
  have hK := k2.out (by trivial) (by rw [hn]; rfl)
  subst hK
  clear hn
  go_wp2
  go_ret
  exact ⟨rfl, hE3⟩
 | true =>
 go_wp2_with fail
 refine (D2.out _).mono ?_; rintro e w4 ⟨rfl, h4⟩
 clear xl x0 x1 x2 x3 x4 x5 x6 x7 x8
 have hX4 := hX3.ext h4
 have hE4 := hE3.trans h4
 clear hX3 hE3 h4
 obtain ⟨xl, x0, x1, x2, x3, x4, x5, x6, x7, x8⟩ := hX4.cells
 cases b2 with
 | false =>
  have hK := k2.out (by trivial) (by rw [hn]; rfl)
  subst hK
  clear hn
  go_wp2
  go_ret
  exact ⟨rfl, hE4⟩
 | true =>
 go_wp2_with fail
 refine (D3.out _).mono ?_; rintro e w5 ⟨rfl, h5⟩
 clear xl x0 x1 x2 x3 x4 x5 x6 x7 x8
 have hX5 := hX4.ext h5
 have hE5 := hE4.trans h5
 clear hX4 hE4 h5
 obtain ⟨xl, x0, x1, x2, x3, x4, x5, x6, x7, x8⟩ := hX5.cells
 cases b3 with
 | false =>
  have hK := k2.out (by trivial) (by rw [hn]; rfl)
  subst hK
  clear hn
  go_wp2
  go_ret
  exact ⟨rfl, hE5⟩
 | true =>
 obtain rfl : bn = true := hn
 go_wp2_with fail
 refine (C4.out _ hE5).mono ?_; rintro e w6 ⟨rfl, h6⟩
 have hE6 := hE5.trans h6
 clear xl x0 x1 x2 x3 x4 x5 x6 x7 x8
 clear hX5 hE5 h6
 cases rs with
 | false =>
  have hK := k3.out (by trivial) (by trivial) (by trivial)
  subst hK
  go_wp2
  go_ret
  exact ⟨rfl, hE6⟩
 | true =>
  have hK := k4.out (by trivial) (by trivial) (by trivial)
  cases ok with
  | false =>
   obtain rfl : K = 5 := hK
   clear k4
   go_wp2
   go_ret
   exact ⟨rfl, hE6⟩
  | true =>
   obtain rfl : K = 0 := hK
   clear k4
   go_wp2
   go_ret
   exact ⟨rfl, hE6⟩
end Go.Proofs.YtefjdmjkofaajaaGreatDoor
namespace Go.Dm
open Go Go.RowKit
def sameX (x y : SpQ) : Bool := (x.1.toList == y.1.toList) && (decide (x.2.1 = y.2.1) && (decide (x.2.2.1.1 = y.2.2.1.1) && (decide (x.2.2.1.2.1 = y.2.2.1.2.1) && (decide (x.2.2.1.2.2 = y.2.2.1.2.2) && decide (x.2.2.2 = y.2.2.2)))))
theorem bytes_beq (a b : ByteArray) : (a.toList == b.toList) = true ↔ a = b := by
 rw [beq_iff_eq]
 constructor
 ·intro h
  rw [ByteArray.toList_eq, ByteArray.toList_eq] at h
  cases a; cases b
  simp only at h
  rw [Array.toList_inj.1 h]
 ·rintro rfl; rfl
theorem sameX_iff {x y : SpQ} : sameX x y = true ↔ x = y := by
 obtain ⟨s, d, ⟨a, b, c⟩, T⟩ := x
 obtain ⟨s2, d2, ⟨a2, b2, c2⟩, T2⟩ := y
 unfold sameX
 simp only [Bool.and_eq_true, decide_eq_true_eq, bytes_beq]
 constructor
 ·rintro ⟨rfl, rfl, rfl, rfl, rfl, rfl⟩; rfl
 ·intro h; cases h; exact ⟨rfl, rfl, rfl, rfl, rfl, rfl⟩
theorem same_spec (s s2 : ByteArray) (d d2 : Vc) (n n2 : Nums3) (T T2 : List TermS) : sameX (s, d, n, T) (s2, d2, n2, T2) = ((s.toList == s2.toList) && (decide (d = d2) && (decide (n.1 = n2.1) && (decide (n.2.1 = n2.2.1) && (decide (n.2.2 = n2.2.2) && decide (T = T2)))))) := rfl
def numsX (n : Nums3) : List Int := [n.1, n.2.1, n.2.2]
def putK (x : SpQ) (k : Nat) : Bs := (putT x.1.data.toList ++ putV x.2.1) ++ ((numsX x.2.2.1).take k).flatMap fun z => putL z.toNat
theorem putK_step (x : SpQ) {k : Nat} (hk : k < 3) : putK x (k + 1) = putK x k ++ putL (numAt (numsX x.2.2.1) k).toNat := by
 unfold putK numsX numAt
 match k, hk with
 | 0, _ => simp
 | 1, _ => simp
 | 2, _ => simp
theorem putK_end {x : SpQ} : putB x = putK x 3 ++ putS x.2.2.2 := by
 unfold putB putK numsX
 simp
theorem putK_len {x : SpQ} {k : Nat} : (putK x k).length ≤ (putB x).length := by
 have h : ∀ (l : List Int), ((l.take k).flatMap fun z => putL z.toNat).length ≤ (l.flatMap fun z => putL z.toNat).length := fun l => by
  conv => rhs; rw [← List.take_append_drop k l]
  rw [List.flatMap_append, List.length_append]; omega
 have h3 := h (numsX x.2.2.1)
 rw [putK_end]
 unfold putK
 simp only [List.length_append]
 rw [show (numsX x.2.2.1).take 3 = numsX x.2.2.1 from rfl]
 omega
theorem numsX_ok {n : Nums3} (h : inNum n = true) {k : Nat} (hk : k < 3) : 0 ≤ numAt (numsX n) k ∧ numAt (numsX n) k ≤ 100 := by
 obtain ⟨n1, n2, n3, n4, n5, n6⟩ := inNum_iff.1 h
 unfold numsX numAt
 match k, hk with
 | 0, _ => show 0 ≤ n.1 ∧ n.1 ≤ 100; omega
 | 1, _ => show 0 ≤ n.2.1 ∧ n.2.1 ≤ 100; omega
 | 2, _ => show 0 ≤ n.2.2 ∧ n.2.2 ≤ 100; omega
end Go.Dm
namespace Go.Proofs.YtefjdmjkofaajaaGreatDoor
open Go.RowKit Go.Dm
set_option maxHeartbeats 4000000 in
set_option maxRecDepth 100000 in
theorem xsame_w (s : ByteArray) (d : Vc) (n : Nums3) (v : Value) (R : List RowS) (s2 : ByteArray) (d2 : Vc) (n2 : Nums3) (v2 : Value) (R2 : List RowS) (w : World) (hd : OkV d) (hd2 : OkV d2) (hm : R.length ≤ 35184372088832) (hf : FitR R) (hx : Terms w v R) (hy : Terms w v2 R2) :
  Calls Tryz.prog 95 #[spVal s (vG d) n v, spVal s2 (vG d2) n2 v2] w fun e w' => e = .returned (.bool (sameX (s, d, n, R.map rowT) (s2, d2, n2, R2.map rowT))) ∧ Ext w w' := by
 have C := fun U (h : Ext w U) => ssame_w R R2 v v2 U hm hf (hx.ext h) (hy.ext h)
 have qv := fun U => run_eql_vals (P := Tryz.prog) Tryz.underlying27 Tryz.underlying25 (by kernel_rfl) hd hd2 U
 rw [same_spec]
 obtain ⟨a, b, c⟩ := n
 obtain ⟨a2, b2, c2⟩ := n2
 simp only
 generalize hb0 : (s.toList == s2.toList) = q0 at *
 generalize decide (d = d2) = q1 at *
 generalize hb2 : decide (a = a2) = q2 at *
 generalize hb3 : decide (b = b2) = q3 at *
 generalize hb4 : decide (c = c2) = q4 at *
 generalize decide (R.map rowT = R2.map rowT) = q5 at *
 unfold vVal at qv
 generalize vG d = D at *
 generalize vG d2 = D2 at *
 unfold vF at qv
 unfold spVal
 have hX : XBox w.heap.size s D (a, b, c) v (w.alloc (.cells #[.string s, .int .u64 (D 0 : Nat), .int .u64 (D 1 : Nat), .int .u64 (D 2 : Nat), .int .u64 (D 3 : Nat), .int .i64 a, .int .i64 b, .int .i64 c, v] 30)) := XBox.new w s D (a, b, c) v 30
 have hY : XBox (w.alloc (.cells #[.string s, .int .u64 (D 0 : Nat), .int .u64 (D 1 : Nat), .int .u64 (D 2 : Nat), .int .u64 (D 3 : Nat), .int .i64 a, .int .i64 b, .int .i64 c, v] 30)).heap.size s2 D2 (a2, b2, c2) v2 ((w.alloc (.cells #[.string s, .int .u64 (D 0 : Nat), .int .u64 (D 1 : Nat), .int .u64 (D 2 : Nat), .int .u64 (D 3 : Nat), .int .i64 a, .int .i64 b, .int .i64 c, v] 30)).alloc (.cells #[.string s2, .int .u64 (D2 0 : Nat), .int .u64 (D2 1 : Nat), .int .u64 (D2 2 : Nat), .int .u64 (D2 3 : Nat), .int .i64 a2, .int .i64 b2, .int .i64 c2, v2] 30)) := XBox.new (w.alloc (.cells #[.string s, .int .u64 (D 0 : Nat), .int .u64 (D 1 : Nat), .int .u64 (D 2 : Nat), .int .u64 (D 3 : Nat), .int .i64 a, .int .i64 b, .int .i64 c, v] 30)) s2 D2 (a2, b2, c2) v2 30
 rw [World.size_alloc] at hY
 have hE : Ext w ((w.alloc (.cells #[.string s, .int .u64 (D 0 : Nat), .int .u64 (D 1 : Nat), .int .u64 (D 2 : Nat), .int .u64 (D 3 : Nat), .int .i64 a, .int .i64 b, .int .i64 c, v] 30)).alloc (.cells #[.string s2, .int .u64 (D2 0 : Nat), .int .u64 (D2 1 : Nat), .int .u64 (D2 2 : Nat), .int .u64 (D2 3 : Nat), .int .i64 a2, .int .i64 b2, .int .i64 c2, v2] 30)) := ((Ext.refl _).alloc _).alloc _
 replace hX := hX.ext ((Ext.refl _).alloc (.cells #[.string s2, .int .u64 (D2 0 : Nat), .int .u64 (D2 1 : Nat), .int .u64 (D2 2 : Nat), .int .u64 (D2 3 : Nat), .int .i64 a2, .int .i64 b2, .int .i64 c2, v2] 30))
 replace C := Lib.hid C
 obtain ⟨xl, x0, x1, x2, x3, x4, x5, x6, x7, x8⟩ := hX.cells
 obtain ⟨yl, y0, y1, y2, y3, y4, y5, y6, y7, y8⟩ := hY.cells
 go_enter Tryz.func95, Tryz.ntmps95
 cases q0 with
 | false => go_wp2; go_ret; exact ⟨rfl, hE⟩
 | true =>
 cases q1 with
 | false => go_wp2; go_ret; exact ⟨rfl, hE⟩
 | true =>
 cases q2 with
 | false =>
  have k2 := of_decide_eq_false hb2
  go_wp2; go_ret; exact ⟨rfl, hE⟩
 | true =>
 obtain rfl := of_decide_eq_true hb2
 clear hb2
 cases q3 with
 | false =>
  have k3 := of_decide_eq_false hb3
  go_wp2; go_ret; exact ⟨rfl, hE⟩
 | true =>
 obtain rfl := of_decide_eq_true hb3
 clear hb3
 cases q4 with
 | false =>
  have k4 := of_decide_eq_false hb4
  go_wp2; go_ret; exact ⟨rfl, hE⟩
 | true =>
 obtain rfl := of_decide_eq_true hb4
 clear hb4
 go_wp2_with fail
 refine (C.out _ hE).mono ?_; rintro e w1 ⟨rfl, h1⟩
 go_wp2
 go_ret
 exact ⟨by simp, hE.trans h1⟩
set_option maxHeartbeats 4000000 in
set_option maxRecDepth 100000 in
theorem xput_w (s : ByteArray) (d : Vc) (n : Nums3) (v : Value) (R : List RowS) (w : World) (hs : s.size < 4294967281) (hd : OkV d) (hm : R.length ≤ 35184372088832) (hf : FitR R) (hx : Terms w v R) (ht : Vars w) :
  Calls Tryz.prog 67 #[spVal s (vG d) n v] w fun e w' => e = .returned (.string ⟨(putX (s, d, n, R.map rowT)).toArray⟩) ∧ Ext w w' := by
 have C1 := fun U (h : Ext w U) => xcheck_w s d n v R U hs hd hm hf (hx.ext h) (ht.ext h)
 have hX := XBox.new w s (vG d) n v 30
 have hE : Ext w (w.alloc (.cells #[.string s, .int .u64 (vG d 0 : Nat), .int .u64 (vG d 1 : Nat), .int .u64 (vG d 2 : Nat), .int .u64 (vG d 3 : Nat), .int .i64 n.1, .int .i64 n.2.1, .int .i64 n.2.2, v] 30)) := (Ext.refl _).alloc _
 by_cases hchk : chkX (s, d, n, R.map rowT) = 0
 ·rw [hchk] at C1
  rw [putX_ok hchk]
  obtain ⟨hu, hn, hr, _⟩ := chkX_iff.1 hchk
  simp only at hu hn hr
  have hsz := under_short hu
  have hs98 : s.size ≤ 98 := by have := hsz.1; rwa [show s.data.toList.length = s.size from rfl] at this
  have hlen := putB_short (x := (s, d, n, R.map rowT)) hchk hd
  have CT := fun U => puttext_w s U (by omega)
  have CV := fun U => vput_w d hd U
  have CL := fun (u : Nat) (h : u ≤ 100) U => put_w u U (show u < _ by omega)
  have CS := fun U (h : Ext w U) => sput_w R v U hm hf (hx.ext h) (ht.tabs.ext h)
  have hst := fun k (hk : k < 3) => putK_step (s, d, n, R.map rowT) hk
  have hfin := putK_end (x := (s, d, n, R.map rowT))
  have hkl := fun k => putK_len (x := (s, d, n, R.map rowT)) (k := k)
  have hno := fun k (hk : k < 3) => numsX_ok hn hk
  have hN : ∀ U : World, Nums (U.alloc (.cells #[.int .i64 n.1, .int .i64 n.2.1, .int .i64 n.2.2] 3)) .i64 (.slice (some ⟨U.heap.size, 0, none⟩) (numsX n).length 3) (numsX n) := fun U => Sl.lit U 3 1 3 #[.int .i64 n.1, .int .i64 n.2.1, .int .i64 n.2.2] rfl (by simp [maxLen])
  have h0 : Hid (((⟨(putT s.data.toList).toArray⟩ : ByteArray) ++ ⟨(putV d).toArray⟩ : ByteArray).data.toList = putK (s, d, n, R.map rowT) 0) := by
   show _ = _
   rw [data_append]
   unfold putK
   simp
  have h0s : ((⟨(putT s.data.toList).toArray⟩ : ByteArray) ++ ⟨(putV d).toArray⟩ : ByteArray).size ≤ 1200 := by
   have h1 := hkl 0
   rw [← h0.out] at h1
   have e : ∀ b : ByteArray, b.size = b.data.toList.length := fun b => by rw [Array.length_toList]; rfl
   rw [e]; omega
  have hsT : (⟨(putT s.data.toList).toArray⟩ : ByteArray).size ≤ 1200 ∧ (⟨(putV d).toArray⟩ : ByteArray).size ≤ 1200 := by
   rw [ByteArray.size_append] at h0s; omega
  have hsS : (⟨(putS (R.map rowT)).toArray⟩ : ByteArray).size ≤ 1200 := by
   show (putS (R.map rowT)).toArray.size ≤ _
   rw [List.size_toArray]; have := (putS_short hr).2; omega
  simp only at hst hfin hkl
  clear hr hu
  generalize putB (s, d, n, R.map rowT) = pb at *
  generalize putK (s, d, n, R.map rowT) = pk at *
  generalize (⟨(putT s.data.toList).toArray⟩ : ByteArray) = pT at *
  generalize (⟨(putV d).toArray⟩ : ByteArray) = pV at *
  have hpS : ∀ b : ByteArray, b.data.toList = pk 3 → b ++ ⟨(putS (R.map rowT)).toArray⟩ = ⟨pb.toArray⟩ := fun b hb => mk_bytes (by rw [data_append, hb, hfin])
  clear hfin
  generalize (⟨(putS (R.map rowT)).toArray⟩ : ByteArray) = pS at *
  unfold vVal at CV
  generalize vG d = D at *
  unfold vF at CV
  unfold spVal at *
  generalize hW0 : w.alloc (.cells #[.string s, .int .u64 (D 0 : Nat), .int .u64 (D 1 : Nat), .int .u64 (D 2 : Nat), .int .u64 (D 3 : Nat), .int .i64 n.1, .int .i64 n.2.1, .int .i64 n.2.2, v] 30) = W at *
  replace C1 := Lib.hid C1
  replace CT := Lib.hid CT
  replace CV := Lib.hid CV
  replace CL := Lib.hid CL
  replace CS := Lib.hid CS
  replace hst := Lib.hid hst
  replace hkl := Lib.hid hkl
  replace hno := Lib.hid hno
  replace hN := Lib.hid hN
  replace hpS := Lib.hid hpS
  obtain ⟨xl, x0, x1, x2, x3, x4, x5, x6, x7, x8⟩ := hX.cells
  go_enter Tryz.func67, Tryz.ntmps67
  go_wp2_with fail
  refine (C1.out _ hE).mono ?_; rintro e w1 ⟨rfl, h1⟩
  clear xl x0 x1 x2 x3 x4 x5 x6 x7 x8
  have hX1 := hX.ext h1
  have hE1 := hE.trans h1
  clear hX hE h1
  obtain ⟨xl, x0, x1, x2, x3, x4, x5, x6, x7, x8⟩ := hX1.cells
  go_wp2_with fail
  refine Dm.wp_region_grow (by kernel_rfl) (by kernel_rfl) ?_
  repeat (go_big_quiet_step (first
   | (go_at_call 62; with_reducible exact Calls.quietE (CT.out _))
   | (go_at_call 66; with_reducible exact Calls.quietE (CV.out _))))
  refine wpQuiet_nil ?_
  intro w2 h2
  clear xl x0 x1 x2 x3 x4 x5 x6 x7 x8
  have hX2 := hX1.ext h2
  have hE2 := hE1.trans h2
  clear hX1 hE1 h2
  obtain ⟨xl, x0, x1, x2, x3, x4, x5, x6, x7, x8⟩ := hX2.cells
  have hz := hN.out w2
  have hal := (Ext.refl w2).alloc (.cells #[.int .i64 n.1, .int .i64 n.2.1, .int .i64 n.2.2] 3)
  have hX3 := hX2.ext hal
  have hE3 := hE2.trans hal
  go_wp2
  clear xl x0 x1 x2 x3 x4 x5 x6 x7 x8
  clear hX2 hE2 hal
  generalize w2.alloc (.cells #[.int .i64 n.1, .int .i64 n.2.1, .int .i64 n.2.2] 3) = w3 at *
  generalize hB : w2.heap.size = B at *
  go_loopw [3, 24] (fun b i wr => ∃ (k : Nat) (c : ByteArray), k ≤ 3 ∧ i = .int .i64 k ∧ b = .string c ∧ c.size ≤ 1200 ∧ Ext w3 wr ∧ Hid (c.data.toList = pk k)) (fun _ i _ => 3 - (intOf i).toNat)
  case atStart => exact ⟨0, _, by omega, rfl, rfl, h0s, Ext.refl _, h0⟩
  case round =>
   obtain ⟨k, c, hk, rfl, rfl, hcs, hb, HB⟩ := hrel
   by_cases hlt : k < 3
   ·obtain ⟨bb, off, hbo, hbl, hck⟩ := Nums.at (i := k) (hz.ext hb) (show k < 3 from hlt)
    injection hbo with hbo
    injection hbo with e1 e2
    subst e1 e2
    rw [Nat.zero_add] at hck
    have hnk := hno.out k hlt
    have hS1 := hst.out k hlt
    have CK := CL.out (numAt (numsX n) k).toNat (by omega)
    rw [Int.toNat_of_nonneg hnk.1] at CK
    have hmod : (numAt (numsX n) k) % 18446744073709551616 = numAt (numsX n) k := by omega
    have hl1 := hkl.out (k + 1)
    have hd2 : Hid ((c ++ ⟨(putL (numAt (numsX n) k).toNat).toArray⟩ : ByteArray).data.toList = pk (k + 1)) := by
     show _ = _
     rw [data_append, HB.out, hS1]
    have hs2 : (c ++ ⟨(putL (numAt (numsX n) k).toNat).toArray⟩ : ByteArray).size ≤ 1200 := by
     have e : ∀ b : ByteArray, b.size = b.data.toList.length := fun b => by rw [Array.length_toList]; rfl
     rw [e, hd2.out]; omega
    have hsL : (⟨(putL (numAt (numsX n) k).toNat).toArray⟩ : ByteArray).size ≤ 1200 := by
     rw [ByteArray.size_append] at hs2; omega
    clear hl1 hS1
    generalize (⟨(putL (numAt (numsX n) k).toNat).toArray⟩ : ByteArray) = pL at *
    generalize numAt (numsX n) k = z at *
    replace CK := Lib.hid CK
    go_wp2_with fail
    refine (CK.out _).mono ?_; rintro e w4 ⟨rfl, h4⟩
    go_wp2
    go_roundw
    case rel => exact ⟨k + 1, _, by omega, by go_num, rfl, hs2, hb.trans h4, hd2⟩
    case measure => simp [intOf]; omega
   ·obtain rfl : k = 3 := by omega
    have hX4 := hX3.ext hb
    obtain ⟨xl, x0, x1, x2, x3, x4, x5, x6, x7, x8⟩ := hX4.cells
    have hpp := hpS.out c HB.out
    replace hpp := Lib.hid hpp
    go_wp2_with fail
    refine (CS.out _ (hE3.trans hb)).mono ?_; rintro e w5 ⟨rfl, h5⟩
    go_wp2
    go_ret
    exact ⟨by rw [← hpp.out]; rfl, (hE3.trans hb).trans h5⟩
 ·rw [putX_bad hchk]
  generalize chkX (s, d, n, R.map rowT) = K at *
  have hK : ¬ ((K : Int) = 0) := by omega
  generalize vG d = D at *
  unfold spVal at *
  replace C1 := Lib.hid C1
  generalize hW0 : w.alloc (.cells #[.string s, .int .u64 (D 0 : Nat), .int .u64 (D 1 : Nat), .int .u64 (D 2 : Nat), .int .u64 (D 3 : Nat), .int .i64 n.1, .int .i64 n.2.1, .int .i64 n.2.2, v] 30) = W at *
  obtain ⟨xl, x0, x1, x2, x3, x4, x5, x6, x7, x8⟩ := hX.cells
  go_enter Tryz.func67, Tryz.ntmps67
  go_wp2_with fail
  refine (C1.out _ hE).mono ?_; rintro e w1 ⟨rfl, h1⟩
  go_wp2
  go_ret
  exact ⟨rfl, hE.trans h1⟩
end Go.Proofs.YtefjdmjkofaajaaGreatDoor
namespace Go.Dm
open Go Go.RowKit
def GotX (w : World) (G : SpQ × Int × Bool) (e : Ending) : Prop :=
 ∃ v R, e = .returned (.tuple #[spVal G.1.1 (vG G.1.2.1) G.1.2.2.1 v, .int .i64 G.2.1, .bool G.2.2]) ∧ Terms w v R ∧ FitR R ∧ R.length ≤ 4 ∧ R.map rowT = G.1.2.2.2 ∧ OkV G.1.2.1
theorem GotX.no (w : World) : GotX w (noSp, 0, false) (.returned (.tuple #[.agg #[.string ⟨#[]⟩, .int .u64 0, .int .u64 0, .int .u64 0, .int .u64 0, .int .i64 0, .int .i64 0, .int .i64 0, .slice none 0 0], .int .i64 0, .bool false])) :=
 ⟨.slice none 0 0, [], rfl, Terms.nil w, (fun r hr => by cases hr), by simp, rfl, okV_no⟩
def GotXO (B : Nat) (w : World) (G : SpQ × Int × Bool) (e : Ending) : Prop :=
 ∃ v R, e = .returned (.tuple #[spVal G.1.1 (vG G.1.2.1) G.1.2.2.1 v, .int .i64 G.2.1, .bool G.2.2]) ∧ Terms w v R ∧ FitR R ∧ R.length ≤ 4 ∧ R.map rowT = G.1.2.2.2 ∧ OkV G.1.2.1 ∧ OwnT B v R
theorem GotXO.plain {B : Nat} {w : World} {G : SpQ × Int × Bool} {e : Ending} (h : GotXO B w G e) : GotX w G e := by
 obtain ⟨v, R, h1, h2, h3, h4, h5, h6, _⟩ := h
 exact ⟨v, R, h1, h2, h3, h4, h5, h6⟩
theorem GotXO.no (B : Nat) (w : World) : GotXO B w (noSp, 0, false) (.returned (.tuple #[.agg #[.string ⟨#[]⟩, .int .u64 0, .int .u64 0, .int .u64 0, .int .u64 0, .int .i64 0, .int .i64 0, .int .i64 0, .slice none 0 0], .int .i64 0, .bool false])) :=
 ⟨.slice none 0 0, [], rfl, Terms.nil w, (fun r hr => by cases hr), by simp, rfl, okV_no, OwnT.nil B⟩
theorem OwnT.le {B B' : Nat} {v : Value} {R : List RowS} (h : OwnT B v R) (hb : B' ≤ B) : OwnT B' v R := ⟨fun c hc => Nat.le_trans hb (h.1 c hc), fun x hx c hc => Nat.le_trans hb (h.2 x hx c hc)⟩
theorem ite_off {α : Type} {b : Bool} {x y g : α} (h : g = if b = false then x else y) (hb : b = false) : g = x := by rw [h, if_pos hb]
theorem ite_on {α : Type} {b : Bool} {x y g : α} (h : g = if b = false then x else y) (hb : b = true) : g = y := by rw [h, if_neg (by rw [hb]; simp)]
theorem ite_off2 {α : Type} {b : Bool} {c : Nat} {x y g : α} (h : g = if b = false ∨ 100 < c then x else y) (hb : b = false ∨ 100 < c) : g = x := by rw [h, if_pos hb]
theorem ite_on2 {α : Type} {b : Bool} {c : Nat} {x y g : α} (h : g = if b = false ∨ 100 < c then x else y) (hb : b = true) (hc : c ≤ 100) : g = y := by rw [h, if_neg (by rw [hb]; simp; omega)]
end Go.Dm
namespace Go.Proofs.YtefjdmjkofaajaaGreatDoor
open Go.RowKit Go.Dm
set_option maxHeartbeats 16000000 in
set_option maxRecDepth 100000 in
theorem xgetO_w (s : ByteArray) (p : Int) (w : World) (hs : s.size ≤ 281474976710656) (ht : Vars w) :
  Calls Tryz.prog 84 #[.string s, .int .i64 p] w fun e w' => GotXO w.heap.size w' (getX s.data.toList p) e ∧ Ext w w' := by
 have hU : U64 s.data.toList.length := Nat.lt_of_le_of_lt (show s.size ≤ _ from hs) (by decide)
 have C1 := fun U => wgettext_w s p 98 U hs (by omega)
 obtain ⟨⟨t, q1, b1⟩, r1⟩ : ∃ r, atI (getTextL 98) [] s.data.toList p = r := ⟨_, rfl⟩
 have C2 := fun U => vget_w s q1 U hs
 obtain ⟨⟨d, q2, b2⟩, r2⟩ : ∃ r, getV s.data.toList q1 = r := ⟨_, rfl⟩
 have C3 := fun U => wget_w s q2 U hs
 obtain ⟨⟨c, q3, b3⟩, r3⟩ : ∃ r, getI s.data.toList q2 = r := ⟨_, rfl⟩
 have C4 := fun U => wget_w s q3 U hs
 obtain ⟨⟨m, q4, b4⟩, r4⟩ : ∃ r, getI s.data.toList q3 = r := ⟨_, rfl⟩
 have C5 := fun U => wget_w s q4 U hs
 obtain ⟨⟨k, q5, b5⟩, r5⟩ : ∃ r, getI s.data.toList q4 = r := ⟨_, rfl⟩
 have C6 := fun U (h : Ext w U) => sgetO_w s q5 U hs (ht.tabs.ext h)
 obtain ⟨⟨T6, q6, b6⟩, r6⟩ : ∃ r, atI getSelL [] s.data.toList q5 = r := ⟨_, rfl⟩
 rw [r1] at C1
 rw [r2] at C2
 rw [r3] at C3
 rw [r4] at C4
 rw [r5] at C5
 rw [r6] at C6
 have e1 : getX s.data.toList p = if b1 = false then (noSp, 0, false) else getX2 s.data.toList t q1 := by unfold getX; rw [r1]
 have e2 : getX2 s.data.toList t q1 = if b2 = false then (noSp, 0, false) else getX3 s.data.toList (⟨t.toArray⟩, d, (0, 0, 0), []) q2 := by unfold getX2; rw [r2]
 have e3 : getX3 s.data.toList (⟨t.toArray⟩, d, (0, 0, 0), []) q2 = if b3 = false ∨ 100 < c then (noSp, 0, false) else getX4 s.data.toList (⟨t.toArray⟩, d, ((c : Int), 0, 0), []) q3 := by unfold getX3; rw [r3]
 have e4 : getX4 s.data.toList (⟨t.toArray⟩, d, ((c : Int), 0, 0), []) q3 = if b4 = false ∨ 100 < m then (noSp, 0, false) else getX5 s.data.toList (⟨t.toArray⟩, d, ((c : Int), (m : Int), 0), []) q4 := by unfold getX4; rw [r4]
 have e5 : getX5 s.data.toList (⟨t.toArray⟩, d, ((c : Int), (m : Int), 0), []) q4 = if b5 = false ∨ 100 < k then (noSp, 0, false) else getX6 s.data.toList (⟨t.toArray⟩, d, ((c : Int), (m : Int), (k : Int)), []) q5 := by unfold getX5; rw [r5]
 have e6 : getX6 s.data.toList (⟨t.toArray⟩, d, ((c : Int), (m : Int), (k : Int)), []) q5 = if b6 = false then (noSp, 0, false) else if chkX (⟨t.toArray⟩, d, ((c : Int), (m : Int), (k : Int)), T6.map mkT) = 0 then ((⟨t.toArray⟩, d, ((c : Int), (m : Int), (k : Int)), T6.map mkT), q6, true) else (noSp, 0, false) := by unfold getX6; rw [r6]
 have hT : b1 = true → (⟨t.toArray⟩ : ByteArray).size ≤ 98 := fun hb => by
  subst hb
  have := ((text_iff hU).1 r1).1
  show t.toArray.size ≤ 98
  rw [List.size_toArray]; exact this
 have hD : b2 = true → OkV d := fun hb => by
  subst hb
  exact ((getV_iff hU).1 r2).1
 have hK : OkV d → (⟨t.toArray⟩ : ByteArray).size ≤ 98 → ∀ (n : Nums3) (v : Value) (R : List RowS) U, Ext w U → R.length ≤ 4 → FitR R → Terms U v R → Calls Tryz.prog 58 #[spVal ⟨t.toArray⟩ (vG d) n v] U fun e w' => e = .returned (.int .i64 (chkX (⟨t.toArray⟩, d, n, R.map rowT) : Nat)) ∧ Ext U w' := fun hd hsz n v R U h hl hf hx => xcheck_w _ d n v R U (by omega) hd (by omega) hf hx (ht.ext h)
 generalize getX s.data.toList p = G at *
 generalize getX2 s.data.toList t q1 = G2 at *
 simp only at C1 C2 C3 C4 C5 C6
 generalize (⟨t.toArray⟩ : ByteArray) = tb at *
 generalize getX3 s.data.toList (tb, d, (0, 0, 0), []) q2 = G3 at *
 generalize getX4 s.data.toList (tb, d, ((c : Int), 0, 0), []) q3 = G4 at *
 generalize getX5 s.data.toList (tb, d, ((c : Int), (m : Int), 0), []) q4 = G5 at *
 generalize getX6 s.data.toList (tb, d, ((c : Int), (m : Int), (k : Int)), []) q5 = G6 at *
 unfold vVal vF at C2
 clear r1 r2 r3 r4 r5 r6 hU hs
 replace C1 := Lib.hid C1
 replace C2 := Lib.hid C2
 replace C3 := Lib.hid C3
 replace C4 := Lib.hid C4
 replace C5 := Lib.hid C5
 replace C6 := Lib.hid C6
 replace e1 := Lib.hid e1
 replace e2 := Lib.hid e2
 replace e3 := Lib.hid e3
 replace e4 := Lib.hid e4
 replace e5 := Lib.hid e5
 replace e6 := Lib.hid e6
 replace hT := Lib.hid hT
 replace hD := Lib.hid hD
 replace hK := Lib.hid hK
 obtain ⟨D, hDe⟩ : ∃ D, vG d = D := ⟨_, rfl⟩
 rw [hDe] at C2
 have hB0 : CB w.heap.size [.string ⟨#[]⟩, .int .u64 0, .int .u64 0, .int .u64 0, .int .u64 0, .int .i64 0, .int .i64 0, .int .i64 0, .slice none 0 0] (w.alloc (.cells #[.string ⟨#[]⟩, .int .u64 0, .int .u64 0, .int .u64 0, .int .u64 0, .int .i64 0, .int .i64 0, .int .i64 0, .slice none 0 0] 30)) := CB.new w #[.string ⟨#[]⟩, .int .u64 0, .int .u64 0, .int .u64 0, .int .u64 0, .int .i64 0, .int .i64 0, .int .i64 0, .slice none 0 0] 30
 have hE0 : Ext w (w.alloc (.cells #[.string ⟨#[]⟩, .int .u64 0, .int .u64 0, .int .u64 0, .int .u64 0, .int .i64 0, .int .i64 0, .int .i64 0, .slice none 0 0] 30)) := (Ext.refl _).alloc _
 go_enter Tryz.func84, Tryz.ntmps84
 go_wp2_with fail
 refine (C1.out _).mono ?_; rintro e w1 ⟨rfl, h1⟩
 have hB1 := hB0.ext h1
 have hE1 := hE0.trans h1
 clear hB0 hE0 h1
 obtain ⟨xl, x0, x1, x2, x3, x4, x5, x6, x7, x8, xf0, xf1, xf2, xf3, xf4, xf5, xf6, xf7, xf8⟩ := hB1.cells9
 cases b1 with
 | false =>
  obtain rfl : G = _ := ite_off e1.out rfl
  go_wp2
  have hz := (hB1.set 0 (.string tb) (by simp)).put9 (.string ⟨#[]⟩) (.int .u64 0) (.int .u64 0) (.int .u64 0) (.int .u64 0) (.int .i64 0) (.int .i64 0) (.int .i64 0) (.slice none 0 0)
  obtain ⟨_, k0, k1, k2, k3, k4, k5, k6, k7, k8, _, _, _, _, _, _, _, _, _⟩ := hz.cells9
  refine bodyPost_ret (v := .tuple #[.agg #[.string ⟨#[]⟩, .int .u64 0, .int .u64 0, .int .u64 0, .int .u64 0, .int .i64 0, .int .i64 0, .int .i64 0, .slice none 0 0], .int .i64 0, .bool false]) (by simp [results, Tryz.results84, go_sem, k0, k1, k2, k3, k4, k5, k6, k7, k8]) rfl ?_
  exact ⟨GotXO.no _ _, Ext.cput9 (hE1.setCell (p := ⟨w.heap.size, 0, none⟩) (Nat.le_refl _) _) (Nat.le_refl _) _ _ _ _ _ _ _ _ _⟩
 | true =>
 obtain rfl : G = G2 := ite_on e1.out rfl
 have hts := hT.out (by trivial)
 go_wp2_with fail
 clear xl x0 xf0 x1 xf1 x2 xf2 x3 xf3 x4 xf4 x5 xf5 x6 xf6 x7 xf7 x8 xf8
 have hB2 : CB w.heap.size [.string tb, .int .u64 0, .int .u64 0, .int .u64 0, .int .u64 0, .int .i64 0, .int .i64 0, .int .i64 0, .slice none 0 0] _ := hB1.set 0 (.string tb) (by simp)
 have hE2 : Ext w _ := hE1.setCell (p := ⟨w.heap.size, 0, none⟩) (Nat.le_refl _) (.string tb)
 clear hB1 hE1
 generalize w1.setCell ⟨w.heap.size, 0, none⟩ (.string tb) = w2 at *
 refine (C2.out _).mono ?_; rintro e w3 ⟨rfl, h3⟩
 have hB3 := hB2.ext h3
 have hE3 := hE2.trans h3
 clear hB2 hE2 h3
 obtain ⟨xl, x0, x1, x2, x3, x4, x5, x6, x7, x8, xf0, xf1, xf2, xf3, xf4, xf5, xf6, xf7, xf8⟩ := hB3.cells9
 cases b2 with
 | false =>
  obtain rfl : G = _ := ite_off e2.out rfl
  go_wp2
  have hz := (((((hB3.set 1 (.int .u64 (D 0 : Nat)) (by simp)).set 2 (.int .u64 (D 1 : Nat)) (by simp)).set 3 (.int .u64 (D 2 : Nat)) (by simp)).set 4 (.int .u64 (D 3 : Nat)) (by simp))).put9 (.string ⟨#[]⟩) (.int .u64 0) (.int .u64 0) (.int .u64 0) (.int .u64 0) (.int .i64 0) (.int .i64 0) (.int .i64 0) (.slice none 0 0)
  obtain ⟨_, k0, k1, k2, k3, k4, k5, k6, k7, k8, _, _, _, _, _, _, _, _, _⟩ := hz.cells9
  refine bodyPost_ret (v := .tuple #[.agg #[.string ⟨#[]⟩, .int .u64 0, .int .u64 0, .int .u64 0, .int .u64 0, .int .i64 0, .int .i64 0, .int .i64 0, .slice none 0 0], .int .i64 0, .bool false]) (by simp [results, Tryz.results84, go_sem, k0, k1, k2, k3, k4, k5, k6, k7, k8]) rfl ?_
  exact ⟨GotXO.no _ _, Ext.cput9 (((((hE3.setCell (p := ⟨w.heap.size, 1, none⟩) (Nat.le_refl _) (.int .u64 (D 0 : Nat))).setCell (p := ⟨w.heap.size, 2, none⟩) (Nat.le_refl _) (.int .u64 (D 1 : Nat))).setCell (p := ⟨w.heap.size, 3, none⟩) (Nat.le_refl _) (.int .u64 (D 2 : Nat))).setCell (p := ⟨w.heap.size, 4, none⟩) (Nat.le_refl _) (.int .u64 (D 3 : Nat)))) (Nat.le_refl _) _ _ _ _ _ _ _ _ _⟩
 | true =>
 obtain rfl : G = G3 := ite_on e2.out rfl
 have hdo := hD.out (by trivial)
 go_wp2
 clear xl x0 xf0 x1 xf1 x2 xf2 x3 xf3 x4 xf4 x5 xf5 x6 xf6 x7 xf7 x8 xf8
 have hB4 : CB w.heap.size [.string tb, .int .u64 (D 0 : Nat), .int .u64 (D 1 : Nat), .int .u64 (D 2 : Nat), .int .u64 (D 3 : Nat), .int .i64 0, .int .i64 0, .int .i64 0, .slice none 0 0] _ := ((((hB3.set 1 (.int .u64 (D 0 : Nat)) (by simp)).set 2 (.int .u64 (D 1 : Nat)) (by simp)).set 3 (.int .u64 (D 2 : Nat)) (by simp)).set 4 (.int .u64 (D 3 : Nat)) (by simp))
 have hE4 : Ext w _ := ((((hE3.setCell (p := ⟨w.heap.size, 1, none⟩) (Nat.le_refl _) (.int .u64 (D 0 : Nat))).setCell (p := ⟨w.heap.size, 2, none⟩) (Nat.le_refl _) (.int .u64 (D 1 : Nat))).setCell (p := ⟨w.heap.size, 3, none⟩) (Nat.le_refl _) (.int .u64 (D 2 : Nat))).setCell (p := ⟨w.heap.size, 4, none⟩) (Nat.le_refl _) (.int .u64 (D 3 : Nat)))
 clear hB3 hE3
 have hs4 : ((((w3.setCell ⟨w.heap.size, 1, none⟩ (.int .u64 (D 0 : Nat))).setCell ⟨w.heap.size, 2, none⟩ (.int .u64 (D 1 : Nat))).setCell ⟨w.heap.size, 3, none⟩ (.int .u64 (D 2 : Nat))).setCell ⟨w.heap.size, 4, none⟩ (.int .u64 (D 3 : Nat))).heap.size = w3.heap.size := by simp
 generalize (((w3.setCell ⟨w.heap.size, 1, none⟩ (.int .u64 (D 0 : Nat))).setCell ⟨w.heap.size, 2, none⟩ (.int .u64 (D 1 : Nat))).setCell ⟨w.heap.size, 3, none⟩ (.int .u64 (D 2 : Nat))).setCell ⟨w.heap.size, 4, none⟩ (.int .u64 (D 3 : Nat)) = w4 at *
 have hN5 : CB w4.heap.size [.int .u64 0, .int .u64 0, .int .u64 0] _ := CB.new w4 #[.int .u64 0, .int .u64 0, .int .u64 0] 181
 have hal := (Ext.refl w4).alloc (.cells #[.int .u64 0, .int .u64 0, .int .u64 0] 181)
 have hB5 := hB4.ext hal
 have hE5 := hE4.trans hal
 have hlt := hB4.lt
 rw [hs4] at hN5 hlt
 clear hB4 hE4 hal hs4
 generalize w4.alloc (.cells #[.int .u64 0, .int .u64 0, .int .u64 0] 181) = w5 at *
 generalize w3.heap.size = nb at *
 have hnb : nb ≠ w.heap.size := by omega
 have hnl : w.heap.size ≤ nb := by omega
 refine wp_loop_rounds 4 ?_
 rw [rounds_succ]
 go_wp2_with fail
 refine (C3.out _).mono ?_; rintro e w6 ⟨rfl, h6⟩
 have hB6 := hB5.ext h6
 have hE6 := hE5.trans h6
 have hN6 := hN5.ext h6
 clear hB5 hE5 hN5 h6
 obtain ⟨xl, x0, x1, x2, x3, x4, x5, x6, x7, x8, xf0, xf1, xf2, xf3, xf4, xf5, xf6, xf7, xf8⟩ := hB6.cells9
 obtain ⟨yl, y0, y1, y2, yf0, yf1, yf2⟩ := hN6.cells3
 cases b3 with
 | false =>
  obtain rfl : G = _ := ite_off2 e3.out (Or.inl rfl)
  go_wp2
  have hz := (hB6.far (i := 0) hnb (.int .u64 (c : Nat))).put9 (.string ⟨#[]⟩) (.int .u64 0) (.int .u64 0) (.int .u64 0) (.int .u64 0) (.int .i64 0) (.int .i64 0) (.int .i64 0) (.slice none 0 0)
  obtain ⟨_, k0, k1, k2, k3, k4, k5, k6, k7, k8, _, _, _, _, _, _, _, _, _⟩ := hz.cells9
  refine bodyPost_ret (v := .tuple #[.agg #[.string ⟨#[]⟩, .int .u64 0, .int .u64 0, .int .u64 0, .int .u64 0, .int .i64 0, .int .i64 0, .int .i64 0, .slice none 0 0], .int .i64 0, .bool false]) (by simp [results, Tryz.results84, go_sem, k0, k1, k2, k3, k4, k5, k6, k7, k8]) rfl ?_
  exact ⟨GotXO.no _ _, Ext.cput9 (hE6.setCell (p := ⟨nb, 0, none⟩) hnl _) (Nat.le_refl _) _ _ _ _ _ _ _ _ _⟩
 | true =>
 by_cases hc0 : 100 < c
 ·obtain rfl : G = _ := ite_off2 e3.out (Or.inr hc0)
  go_wp2
  have hz := (hB6.far (i := 0) hnb (.int .u64 (c : Nat))).put9 (.string ⟨#[]⟩) (.int .u64 0) (.int .u64 0) (.int .u64 0) (.int .u64 0) (.int .i64 0) (.int .i64 0) (.int .i64 0) (.slice none 0 0)
  obtain ⟨_, k0, k1, k2, k3, k4, k5, k6, k7, k8, _, _, _, _, _, _, _, _, _⟩ := hz.cells9
  refine bodyPost_ret (v := .tuple #[.agg #[.string ⟨#[]⟩, .int .u64 0, .int .u64 0, .int .u64 0, .int .u64 0, .int .i64 0, .int .i64 0, .int .i64 0, .slice none 0 0], .int .i64 0, .bool false]) (by simp [results, Tryz.results84, go_sem, k0, k1, k2, k3, k4, k5, k6, k7, k8]) rfl ?_
  exact ⟨GotXO.no _ _, Ext.cput9 (hE6.setCell (p := ⟨nb, 0, none⟩) hnl _) (Nat.le_refl _) _ _ _ _ _ _ _ _ _⟩
 replace hc0 : c ≤ 100 := by omega
 obtain rfl : G = G4 := ite_on2 e3.out rfl hc0
 go_wp2
 clear xl x0 xf0 x1 xf1 x2 xf2 x3 xf3 x4 xf4 x5 xf5 x6 xf6 x7 xf7 x8 xf8
 clear yl y0 yf0 y1 yf1 y2 yf2
 have hB7 := hB6.far (i := 0) hnb (.int .u64 (c : Nat))
 have hE7 : Ext w _ := hE6.setCell (p := ⟨nb, 0, none⟩) hnl (.int .u64 (c : Nat))
 have hN7 : CB nb [.int .u64 (c : Nat), .int .u64 0, .int .u64 0] _ := hN6.set 0 (.int .u64 (c : Nat)) (by simp)
 clear hB6 hE6 hN6
 generalize w6.setCell ⟨nb, 0, none⟩ (.int .u64 (c : Nat)) = w7 at *
 rw [rounds_succ]
 go_wp2_with fail
 refine (C4.out _).mono ?_; rintro e w8 ⟨rfl, h8⟩
 have hB8 := hB7.ext h8
 have hE8 := hE7.trans h8
 have hN8 := hN7.ext h8
 clear hB7 hE7 hN7 h8
 obtain ⟨xl, x0, x1, x2, x3, x4, x5, x6, x7, x8, xf0, xf1, xf2, xf3, xf4, xf5, xf6, xf7, xf8⟩ := hB8.cells9
 obtain ⟨yl, y0, y1, y2, yf0, yf1, yf2⟩ := hN8.cells3
 cases b4 with
 | false =>
  obtain rfl : G = _ := ite_off2 e4.out (Or.inl rfl)
  go_wp2
  have hz := (hB8.far (i := 1) hnb (.int .u64 (m : Nat))).put9 (.string ⟨#[]⟩) (.int .u64 0) (.int .u64 0) (.int .u64 0) (.int .u64 0) (.int .i64 0) (.int .i64 0) (.int .i64 0) (.slice none 0 0)
  obtain ⟨_, k0, k1, k2, k3, k4, k5, k6, k7, k8, _, _, _, _, _, _, _, _, _⟩ := hz.cells9
  refine bodyPost_ret (v := .tuple #[.agg #[.string ⟨#[]⟩, .int .u64 0, .int .u64 0, .int .u64 0, .int .u64 0, .int .i64 0, .int .i64 0, .int .i64 0, .slice none 0 0], .int .i64 0, .bool false]) (by simp [results, Tryz.results84, go_sem, k0, k1, k2, k3, k4, k5, k6, k7, k8]) rfl ?_
  exact ⟨GotXO.no _ _, Ext.cput9 (hE8.setCell (p := ⟨nb, 1, none⟩) hnl _) (Nat.le_refl _) _ _ _ _ _ _ _ _ _⟩
 | true =>
 by_cases hc1 : 100 < m
 ·obtain rfl : G = _ := ite_off2 e4.out (Or.inr hc1)
  go_wp2
  have hz := (hB8.far (i := 1) hnb (.int .u64 (m : Nat))).put9 (.string ⟨#[]⟩) (.int .u64 0) (.int .u64 0) (.int .u64 0) (.int .u64 0) (.int .i64 0) (.int .i64 0) (.int .i64 0) (.slice none 0 0)
  obtain ⟨_, k0, k1, k2, k3, k4, k5, k6, k7, k8, _, _, _, _, _, _, _, _, _⟩ := hz.cells9
  refine bodyPost_ret (v := .tuple #[.agg #[.string ⟨#[]⟩, .int .u64 0, .int .u64 0, .int .u64 0, .int .u64 0, .int .i64 0, .int .i64 0, .int .i64 0, .slice none 0 0], .int .i64 0, .bool false]) (by simp [results, Tryz.results84, go_sem, k0, k1, k2, k3, k4, k5, k6, k7, k8]) rfl ?_
  exact ⟨GotXO.no _ _, Ext.cput9 (hE8.setCell (p := ⟨nb, 1, none⟩) hnl _) (Nat.le_refl _) _ _ _ _ _ _ _ _ _⟩
 replace hc1 : m ≤ 100 := by omega
 obtain rfl : G = G5 := ite_on2 e4.out rfl hc1
 go_wp2
 clear xl x0 xf0 x1 xf1 x2 xf2 x3 xf3 x4 xf4 x5 xf5 x6 xf6 x7 xf7 x8 xf8
 clear yl y0 yf0 y1 yf1 y2 yf2
 have hB9 := hB8.far (i := 1) hnb (.int .u64 (m : Nat))
 have hE9 : Ext w _ := hE8.setCell (p := ⟨nb, 1, none⟩) hnl (.int .u64 (m : Nat))
 have hN9 : CB nb [.int .u64 (c : Nat), .int .u64 (m : Nat), .int .u64 0] _ := hN8.set 1 (.int .u64 (m : Nat)) (by simp)
 clear hB8 hE8 hN8
 generalize w8.setCell ⟨nb, 1, none⟩ (.int .u64 (m : Nat)) = w9 at *
 rw [rounds_succ]
 go_wp2_with fail
 refine (C5.out _).mono ?_; rintro e w10 ⟨rfl, h10⟩
 have hB10 := hB9.ext h10
 have hE10 := hE9.trans h10
 have hN10 := hN9.ext h10
 clear hB9 hE9 hN9 h10
 obtain ⟨xl, x0, x1, x2, x3, x4, x5, x6, x7, x8, xf0, xf1, xf2, xf3, xf4, xf5, xf6, xf7, xf8⟩ := hB10.cells9
 obtain ⟨yl, y0, y1, y2, yf0, yf1, yf2⟩ := hN10.cells3
 cases b5 with
 | false =>
  obtain rfl : G = _ := ite_off2 e5.out (Or.inl rfl)
  go_wp2
  have hz := (hB10.far (i := 2) hnb (.int .u64 (k : Nat))).put9 (.string ⟨#[]⟩) (.int .u64 0) (.int .u64 0) (.int .u64 0) (.int .u64 0) (.int .i64 0) (.int .i64 0) (.int .i64 0) (.slice none 0 0)
  obtain ⟨_, k0, k1, k2, k3, k4, k5, k6, k7, k8, _, _, _, _, _, _, _, _, _⟩ := hz.cells9
  refine bodyPost_ret (v := .tuple #[.agg #[.string ⟨#[]⟩, .int .u64 0, .int .u64 0, .int .u64 0, .int .u64 0, .int .i64 0, .int .i64 0, .int .i64 0, .slice none 0 0], .int .i64 0, .bool false]) (by simp [results, Tryz.results84, go_sem, k0, k1, k2, k3, k4, k5, k6, k7, k8]) rfl ?_
  exact ⟨GotXO.no _ _, Ext.cput9 (hE10.setCell (p := ⟨nb, 2, none⟩) hnl _) (Nat.le_refl _) _ _ _ _ _ _ _ _ _⟩
 | true =>
 by_cases hc2 : 100 < k
 ·obtain rfl : G = _ := ite_off2 e5.out (Or.inr hc2)
  go_wp2
  have hz := (hB10.far (i := 2) hnb (.int .u64 (k : Nat))).put9 (.string ⟨#[]⟩) (.int .u64 0) (.int .u64 0) (.int .u64 0) (.int .u64 0) (.int .i64 0) (.int .i64 0) (.int .i64 0) (.slice none 0 0)
  obtain ⟨_, k0, k1, k2, k3, k4, k5, k6, k7, k8, _, _, _, _, _, _, _, _, _⟩ := hz.cells9
  refine bodyPost_ret (v := .tuple #[.agg #[.string ⟨#[]⟩, .int .u64 0, .int .u64 0, .int .u64 0, .int .u64 0, .int .i64 0, .int .i64 0, .int .i64 0, .slice none 0 0], .int .i64 0, .bool false]) (by simp [results, Tryz.results84, go_sem, k0, k1, k2, k3, k4, k5, k6, k7, k8]) rfl ?_
  exact ⟨GotXO.no _ _, Ext.cput9 (hE10.setCell (p := ⟨nb, 2, none⟩) hnl _) (Nat.le_refl _) _ _ _ _ _ _ _ _ _⟩
 replace hc2 : k ≤ 100 := by omega
 obtain rfl : G = G6 := ite_on2 e5.out rfl hc2
 go_wp2
 clear xl x0 xf0 x1 xf1 x2 xf2 x3 xf3 x4 xf4 x5 xf5 x6 xf6 x7 xf7 x8 xf8
 clear yl y0 yf0 y1 yf1 y2 yf2
 have hB11 := hB10.far (i := 2) hnb (.int .u64 (k : Nat))
 have hE11 : Ext w _ := hE10.setCell (p := ⟨nb, 2, none⟩) hnl (.int .u64 (k : Nat))
 have hN11 : CB nb [.int .u64 (c : Nat), .int .u64 (m : Nat), .int .u64 (k : Nat)] _ := hN10.set 2 (.int .u64 (k : Nat)) (by simp)
 clear hB10 hE10 hN10
 generalize w10.setCell ⟨nb, 2, none⟩ (.int .u64 (k : Nat)) = w11 at *
 rw [rounds_succ]
 obtain ⟨xl, x0, x1, x2, x3, x4, x5, x6, x7, x8, xf0, xf1, xf2, xf3, xf4, xf5, xf6, xf7, xf8⟩ := hB11.cells9
 obtain ⟨yl, y0, y1, y2, yf0, yf1, yf2⟩ := hN11.cells3
 go_wp2_with fail
 have HI := hN11.c3
 clear xl x0 xf0 x1 xf1 x2 xf2 x3 xf3 x4 xf4 x5 xf5 x6 xf6 x7 xf7 x8 xf8
 clear yl y0 yf0 y1 yf1 y2 yf2
 refine sx_ ?_
 refine rf_ (Cel3 nb (.int .u64 (c : Nat)) (.int .u64 (m : Nat)) (.int .u64 (k : Nat))) 14 15 ?_
 refine tfs (List.range' 0 10) 1023 5 (fun _ _ h hx => h.ext hx) HI ?_ (hq := by intro wq hwq; obtain ⟨yl, y0, y1, y2⟩ := hwq; (repeat go_big_quiet_step (fail)); exact wpQuiet_nil rfl)
 refine f1_ 10 2047 fun wm10 hxm10 => ?_
 have hBa := hB11.ext hxm10
 have hNa := (hN11.ext hxm10).far (i := 5) hnb.symm (.int .i64 (c : Nat))
 have hEa : Ext w _ := (hE11.trans hxm10).setCell (p := ⟨w.heap.size, 5, none⟩) (Nat.le_refl _) (.int .i64 (c : Nat))
 obtain ⟨xl, x0, x1, x2, x3, x4, x5, x6, x7, x8, xf0, xf1, xf2, xf3, xf4, xf5, xf6, xf7, xf8⟩ := hBa.cells9
 go_wp2_with fail
 clear xl x0 xf0 x1 xf1 x2 xf2 x3 xf3 x4 xf4 x5 xf5 x6 xf6 x7 xf7 x8 xf8
 have hBn0 : CB w.heap.size [.string tb, .int .u64 (D 0 : Nat), .int .u64 (D 1 : Nat), .int .u64 (D 2 : Nat), .int .u64 (D 3 : Nat), .int .i64 (c : Nat), .int .i64 0, .int .i64 0, .slice none 0 0] _ := hBa.set 5 (.int .i64 (c : Nat)) (by simp)
 generalize wm10.setCell ⟨w.heap.size, 5, none⟩ (.int .i64 (c : Nat)) = wq0 at *
 refine ⟨(by first | exact hNa.c3 | exact fun _ => hNa.c3), ?_⟩
 replace HI := hNa.c3
 clear hB11 hE11 hN11 hBa
 have hNn0 := hNa
 have hEn0 := hEa
 clear hNa hEa
 refine sx_ ?_
 refine tfs [11] 4095 3 (fun _ _ h hx => h.ext hx) HI ?_ (hq := by intro wq hwq; obtain ⟨yl, y0, y1, y2⟩ := hwq; go_big_quiet_step (fail); exact wpQuiet_nil rfl)
 refine f1_ 12 8191 fun wm12 hxm12 => ?_
 have hBa := hBn0.ext hxm12
 have hNa := (hNn0.ext hxm12).far (i := 6) hnb.symm (.int .i64 (m : Nat))
 have hEa : Ext w _ := (hEn0.trans hxm12).setCell (p := ⟨w.heap.size, 6, none⟩) (Nat.le_refl _) (.int .i64 (m : Nat))
 obtain ⟨xl, x0, x1, x2, x3, x4, x5, x6, x7, x8, xf0, xf1, xf2, xf3, xf4, xf5, xf6, xf7, xf8⟩ := hBa.cells9
 go_wp2_with fail
 clear xl x0 xf0 x1 xf1 x2 xf2 x3 xf3 x4 xf4 x5 xf5 x6 xf6 x7 xf7 x8 xf8
 have hBn1 : CB w.heap.size [.string tb, .int .u64 (D 0 : Nat), .int .u64 (D 1 : Nat), .int .u64 (D 2 : Nat), .int .u64 (D 3 : Nat), .int .i64 (c : Nat), .int .i64 (m : Nat), .int .i64 0, .slice none 0 0] _ := hBa.set 6 (.int .i64 (m : Nat)) (by simp)
 generalize wm12.setCell ⟨w.heap.size, 6, none⟩ (.int .i64 (m : Nat)) = wq1 at *
 refine ⟨(by first | exact hNa.c3 | exact fun _ => hNa.c3), ?_⟩
 replace HI := hNa.c3
 clear hBn0 hEn0 hNn0 hBa
 have hNn1 := hNa
 have hEn1 := hEa
 clear hNa hEa
 refine sx_ ?_
 refine tfs [13] 16383 1 (fun _ _ h hx => h.ext hx) HI ?_ (hq := by intro wq hwq; obtain ⟨yl, y0, y1, y2⟩ := hwq; go_big_quiet_step (fail); exact wpQuiet_nil rfl)
 refine f1_ 14 32767 fun wz hxz => ?_
 have hBa := hBn1.ext hxz
 obtain ⟨xl, x0, x1, x2, x3, x4, x5, x6, x7, x8, xf0, xf1, xf2, xf3, xf4, xf5, xf6, xf7, xf8⟩ := hBa.cells9
 go_wp2_with fail
 first | refine ⟨fun h => absurd h (by decide), ?_⟩ | skip
 refine fd_ fun wy hxy => ?_
 clear xl x0 xf0 x1 xf1 x2 xf2 x3 xf3 x4 xf4 x5 xf5 x6 xf6 x7 xf7 x8 xf8
 have hBz : CB w.heap.size [.string tb, .int .u64 (D 0 : Nat), .int .u64 (D 1 : Nat), .int .u64 (D 2 : Nat), .int .u64 (D 3 : Nat), .int .i64 (c : Nat), .int .i64 (m : Nat), .int .i64 (k : Nat), .slice none 0 0] wy := (hBa.set 7 (.int .i64 (k : Nat)) (by simp)).ext hxy
 have hEz : Ext w wy := Ext.trans ((hEn1.trans hxz).setCell (p := ⟨w.heap.size, 7, none⟩) (Nat.le_refl _) (.int .i64 (k : Nat))) hxy
 clear hBn1 hEn1 hNn1 hBa HI hxz hxy
 go_wp2_with fail
 refine (C6.out _ hEz).mono ?_; rintro e wr ⟨v, R, n6, bb, rfl, hx6, hf6, hl6, ⟨T', hT', hat⟩, hown, hr⟩
 obtain ⟨qv, capv, rfl, _, _⟩ := hx6.shape
 injection hat with ea hat
 injection hat with eb ec
 subst ea eb ec
 have hBr := hBz.ext hr
 have hEr := hEz.trans hr
 have hlt := hBz.lt
 clear hBz hEz hr
 obtain ⟨xl, x0, x1, x2, x3, x4, x5, x6, x7, x8, xf0, xf1, xf2, xf3, xf4, xf5, xf6, xf7, xf8⟩ := hBr.cells9
 cases b6 with
 | false =>
  obtain rfl : G = _ := ite_off e6.out rfl
  go_wp2
  have hz := (hBr.set 8 (.slice qv R.length capv) (by simp)).put9 (.string ⟨#[]⟩) (.int .u64 0) (.int .u64 0) (.int .u64 0) (.int .u64 0) (.int .i64 0) (.int .i64 0) (.int .i64 0) (.slice none 0 0)
  obtain ⟨_, k0, k1, k2, k3, k4, k5, k6, k7, k8, _, _, _, _, _, _, _, _, _⟩ := hz.cells9
  refine bodyPost_ret (v := .tuple #[.agg #[.string ⟨#[]⟩, .int .u64 0, .int .u64 0, .int .u64 0, .int .u64 0, .int .i64 0, .int .i64 0, .int .i64 0, .slice none 0 0], .int .i64 0, .bool false]) (by simp [results, Tryz.results84, go_sem, k0, k1, k2, k3, k4, k5, k6, k7, k8]) rfl ?_
  exact ⟨GotXO.no _ _, Ext.cput9 (hEr.setCell (p := ⟨w.heap.size, 8, none⟩) (Nat.le_refl _) _) (Nat.le_refl _) _ _ _ _ _ _ _ _ _⟩
 | true =>
 have e7 := ite_on e6.out rfl
 go_wp2_with fail
 clear xl x0 xf0 x1 xf1 x2 xf2 x3 xf3 x4 xf4 x5 xf5 x6 xf6 x7 xf7 x8 xf8
 have hBs : CB w.heap.size [.string tb, .int .u64 (D 0 : Nat), .int .u64 (D 1 : Nat), .int .u64 (D 2 : Nat), .int .u64 (D 3 : Nat), .int .i64 (c : Nat), .int .i64 (m : Nat), .int .i64 (k : Nat), .slice qv R.length capv] _ := hBr.set 8 (.slice qv R.length capv) (by simp)
 have hEs : Ext w _ := hEr.setCell (p := ⟨w.heap.size, 8, none⟩) (Nat.le_refl _) (.slice qv R.length capv)
 have hxs := hx6.set hown hlt (i := 8) (.slice qv R.length capv)
 clear hBr hEr hx6
 generalize wr.setCell ⟨w.heap.size, 8, none⟩ (.slice qv R.length capv) = ws at *
 have C7 := hK.out hdo hts ((c : Int), (m : Int), (k : Int)) (.slice qv R.length capv) R ws hEs hl6 hf6 hxs
 rw [hT'] at C7
 rw [hDe] at C7
 unfold spVal at C7
 by_cases hck : chkX (tb, d, ((c : Int), (m : Int), (k : Int)), T6.map mkT) = 0
 ·rw [if_pos hck] at e7
  rw [hck] at C7
  subst e7
  replace C7 := Lib.hid C7
  obtain ⟨xl, x0, x1, x2, x3, x4, x5, x6, x7, x8, xf0, xf1, xf2, xf3, xf4, xf5, xf6, xf7, xf8⟩ := hBs.cells9
  refine C7.out.mono ?_; rintro e wt ⟨rfl, ht7⟩
  clear xl x0 xf0 x1 xf1 x2 xf2 x3 xf3 x4 xf4 x5 xf5 x6 xf6 x7 xf7 x8 xf8
  have hBt := hBs.ext ht7
  have hEt := hEs.trans ht7
  have hxt := hxs.ext ht7
  clear hBs hEs hxs C7
  obtain ⟨xl, x0, x1, x2, x3, x4, x5, x6, x7, x8, xf0, xf1, xf2, xf3, xf4, xf5, xf6, xf7, xf8⟩ := hBt.cells9
  go_wp2
  clear xl x0 xf0 x1 xf1 x2 xf2 x3 xf3 x4 xf4 x5 xf5 x6 xf6 x7 xf7 x8 xf8
  have hz := hBt.put9 (.string tb) (.int .u64 (D 0 : Nat)) (.int .u64 (D 1 : Nat)) (.int .u64 (D 2 : Nat)) (.int .u64 (D 3 : Nat)) (.int .i64 (c : Nat)) (.int .i64 (m : Nat)) (.int .i64 (k : Nat)) (.slice qv R.length capv)
  obtain ⟨_, k0, k1, k2, k3, k4, k5, k6, k7, k8, _, _, _, _, _, _, _, _, _⟩ := hz.cells9
  refine bodyPost_ret (v := .tuple #[.agg #[.string tb, .int .u64 (D 0 : Nat), .int .u64 (D 1 : Nat), .int .u64 (D 2 : Nat), .int .u64 (D 3 : Nat), .int .i64 (c : Nat), .int .i64 (m : Nat), .int .i64 (k : Nat), .slice qv R.length capv], .int .i64 q6, .bool true]) (by simp [results, Tryz.results84, go_sem, k0, k1, k2, k3, k4, k5, k6, k7, k8]) rfl ?_
  refine ⟨⟨_, R, by rw [hDe]; rfl, ?_, hf6, hl6, hT', hdo, hown.le (by omega)⟩, Ext.cput9 hEt (Nat.le_refl _) _ _ _ _ _ _ _ _ _⟩
  exact ((((((((hxt.set hown hlt _).set hown hlt _).set hown hlt _).set hown hlt _).set hown hlt _).set hown hlt _).set hown hlt _).set hown hlt _).set hown hlt _
 ·rw [if_neg hck] at e7
  generalize chkX (tb, d, ((c : Int), (m : Int), (k : Int)), T6.map mkT) = K at *
  have hKz : ¬ ((K : Int) = 0) := by omega
  subst e7
  replace C7 := Lib.hid C7
  obtain ⟨xl, x0, x1, x2, x3, x4, x5, x6, x7, x8, xf0, xf1, xf2, xf3, xf4, xf5, xf6, xf7, xf8⟩ := hBs.cells9
  refine C7.out.mono ?_; rintro e wt ⟨rfl, ht7⟩
  clear xl x0 xf0 x1 xf1 x2 xf2 x3 xf3 x4 xf4 x5 xf5 x6 xf6 x7 xf7 x8 xf8
  have hBt := hBs.ext ht7
  have hEt := hEs.trans ht7
  clear hBs hEs hxs C7
  obtain ⟨xl, x0, x1, x2, x3, x4, x5, x6, x7, x8, xf0, xf1, xf2, xf3, xf4, xf5, xf6, xf7, xf8⟩ := hBt.cells9
  go_wp2
  have hz := (hBt).put9 (.string ⟨#[]⟩) (.int .u64 0) (.int .u64 0) (.int .u64 0) (.int .u64 0) (.int .i64 0) (.int .i64 0) (.int .i64 0) (.slice none 0 0)
  obtain ⟨_, k0, k1, k2, k3, k4, k5, k6, k7, k8, _, _, _, _, _, _, _, _, _⟩ := hz.cells9
  refine bodyPost_ret (v := .tuple #[.agg #[.string ⟨#[]⟩, .int .u64 0, .int .u64 0, .int .u64 0, .int .u64 0, .int .i64 0, .int .i64 0, .int .i64 0, .slice none 0 0], .int .i64 0, .bool false]) (by simp [results, Tryz.results84, go_sem, k0, k1, k2, k3, k4, k5, k6, k7, k8]) rfl ?_
  exact ⟨GotXO.no _ _, Ext.cput9 (hEt) (Nat.le_refl _) _ _ _ _ _ _ _ _ _⟩
set_option maxHeartbeats 2000000 in
theorem rtotal_w (s : ByteArray) (d : Vc) (n : Nums3) (v : Value) (hd : OkV d) (w : World) :
  Calls Tryz.prog 120 #[spVal s (vG d) n v] w fun e w' => e = .returned (.tuple #[vVal (vOr (vtimesOk d (nat64 n.1)) (vtimes d (nat64 n.1))), .bool (vtimesOk d (nat64 n.1))]) ∧ Ext w w' := by
 have C := fun U => r03times_w d (nat64 n.1) hd (nat64_u64 _) U
 rw [nat64_cast] at C
 unfold vVal at *
 generalize vG (vOr (vtimesOk d (nat64 n.1)) (vtimes d (nat64 n.1))) = R at C ⊢
 generalize vtimesOk d (nat64 n.1) = ok at C ⊢
 generalize vG d = D at C ⊢
 unfold spVal
 unfold vF at *
 have hX := XBox.new w s D n v 42
 have hE : Ext w ((w.alloc (.cells #[.string s, .int .u64 (D 0 : Nat), .int .u64 (D 1 : Nat), .int .u64 (D 2 : Nat), .int .u64 (D 3 : Nat), .int .i64 n.1, .int .i64 n.2.1, .int .i64 n.2.2, v] 42)).alloc (.cells #[.int .u64 (0 : Nat), .int .u64 (0 : Nat), .int .u64 (0 : Nat), .int .u64 (0 : Nat)] 39)) := ((Ext.refl _).alloc _).alloc _
 have hv := VBox.new (w.alloc (.cells #[.string s, .int .u64 (D 0 : Nat), .int .u64 (D 1 : Nat), .int .u64 (D 2 : Nat), .int .u64 (D 3 : Nat), .int .i64 n.1, .int .i64 n.2.1, .int .i64 n.2.2, v] 42)) (fun _ => 0) 39
 rw [World.size_alloc] at hv
 replace hX := hX.ext ((Ext.refl _).alloc (.cells #[.int .u64 (0 : Nat), .int .u64 (0 : Nat), .int .u64 (0 : Nat), .int .u64 (0 : Nat)] 39))
 obtain ⟨xl, x0, x1, x2, x3, x4, x5, x6, x7, x8⟩ := hX.cells
 replace C := Lib.hid C
 go_enter Tryz.func120, Tryz.ntmps120
 go_wp2_with fail
 refine (C.out _).mono ?_; rintro e w1 ⟨rfl, h1⟩
 have v1 := hv.ext h1
 have d0 := v1.cell 0 (by omega)
 have d1 := v1.cell 1 (by omega)
 have d2 := v1.cell 2 (by omega)
 have d3 := v1.cell 3 (by omega)
 have e0 := v1.free 0 (by omega)
 have e1 := v1.free 1 (by omega)
 have e2 := v1.free 2 (by omega)
 have e3 := v1.free 3 (by omega)
 go_wp2
 have z0 := (((v1.set (k := 0) (v := R 0) (by omega)).set (k := 1) (v := R 1) (by omega)).set (k := 2) (v := R 2) (by omega)).set (k := 3) (v := R 3) (by omega)
 have k0 := z0.cell 0 (by omega)
 have k1 := z0.cell 1 (by omega)
 have k2 := z0.cell 2 (by omega)
 have k3 := z0.cell 3 (by omega)
 simp at k0 k1 k2 k3
 refine bodyPost_ret (v := .tuple #[.agg #[.int .u64 (R 0 : Nat), .int .u64 (R 1 : Nat), .int .u64 (R 2 : Nat), .int .u64 (R 3 : Nat)], .bool ok]) (by simp [results, Tryz.results120, go_sem, k0, k1, k2, k3]) rfl ?_
 exact ⟨rfl, (hE.trans h1).put4 (b := w.heap.size + 1) (by omega) R⟩
set_option maxHeartbeats 4000000 in
set_option maxRecDepth 100000 in
theorem rsame_w (s : ByteArray) (d : Vc) (n : Nums3) (v : Value) (R : List RowS) (s2 : ByteArray) (d2 : Vc) (n2 : Nums3) (v2 : Value) (R2 : List RowS) (w : World) (hd : OkV d) (hd2 : OkV d2) (hm : R.length ≤ 35184372088832) (hf : FitR R) (hx : Terms w v R) (hy : Terms w v2 R2) :
  Calls Tryz.prog 91 #[spVal s (vG d) n v, spVal s2 (vG d2) n2 v2] w fun e w' => e = .returned (.bool (sameX (s, d, n, R.map rowT) (s2, d2, n2, R2.map rowT))) ∧ Ext w w' := by
 have C := fun U (h : Ext w U) => smsame_w R R2 v v2 U hm hf (hx.ext h) (hy.ext h)
 have qv := fun U => run_eql_vals (P := Tryz.prog) Tryz.underlying39 Tryz.underlying25 (by kernel_rfl) hd hd2 U
 rw [same_spec]
 obtain ⟨a, b, c⟩ := n
 obtain ⟨a2, b2, c2⟩ := n2
 simp only
 generalize hb0 : (s.toList == s2.toList) = q0 at *
 generalize decide (d = d2) = q1 at *
 generalize hb2 : decide (a = a2) = q2 at *
 generalize hb3 : decide (b = b2) = q3 at *
 generalize hb4 : decide (c = c2) = q4 at *
 generalize decide (R.map rowT = R2.map rowT) = q5 at *
 unfold vVal at qv
 generalize vG d = D at *
 generalize vG d2 = D2 at *
 unfold vF at qv
 unfold spVal
 have hX : XBox w.heap.size s D (a, b, c) v (w.alloc (.cells #[.string s, .int .u64 (D 0 : Nat), .int .u64 (D 1 : Nat), .int .u64 (D 2 : Nat), .int .u64 (D 3 : Nat), .int .i64 a, .int .i64 b, .int .i64 c, v] 42)) := XBox.new w s D (a, b, c) v 42
 have hY : XBox (w.alloc (.cells #[.string s, .int .u64 (D 0 : Nat), .int .u64 (D 1 : Nat), .int .u64 (D 2 : Nat), .int .u64 (D 3 : Nat), .int .i64 a, .int .i64 b, .int .i64 c, v] 42)).heap.size s2 D2 (a2, b2, c2) v2 ((w.alloc (.cells #[.string s, .int .u64 (D 0 : Nat), .int .u64 (D 1 : Nat), .int .u64 (D 2 : Nat), .int .u64 (D 3 : Nat), .int .i64 a, .int .i64 b, .int .i64 c, v] 42)).alloc (.cells #[.string s2, .int .u64 (D2 0 : Nat), .int .u64 (D2 1 : Nat), .int .u64 (D2 2 : Nat), .int .u64 (D2 3 : Nat), .int .i64 a2, .int .i64 b2, .int .i64 c2, v2] 42)) := XBox.new (w.alloc (.cells #[.string s, .int .u64 (D 0 : Nat), .int .u64 (D 1 : Nat), .int .u64 (D 2 : Nat), .int .u64 (D 3 : Nat), .int .i64 a, .int .i64 b, .int .i64 c, v] 42)) s2 D2 (a2, b2, c2) v2 42
 rw [World.size_alloc] at hY
 have hE : Ext w ((w.alloc (.cells #[.string s, .int .u64 (D 0 : Nat), .int .u64 (D 1 : Nat), .int .u64 (D 2 : Nat), .int .u64 (D 3 : Nat), .int .i64 a, .int .i64 b, .int .i64 c, v] 42)).alloc (.cells #[.string s2, .int .u64 (D2 0 : Nat), .int .u64 (D2 1 : Nat), .int .u64 (D2 2 : Nat), .int .u64 (D2 3 : Nat), .int .i64 a2, .int .i64 b2, .int .i64 c2, v2] 42)) := ((Ext.refl _).alloc _).alloc _
 replace hX := hX.ext ((Ext.refl _).alloc (.cells #[.string s2, .int .u64 (D2 0 : Nat), .int .u64 (D2 1 : Nat), .int .u64 (D2 2 : Nat), .int .u64 (D2 3 : Nat), .int .i64 a2, .int .i64 b2, .int .i64 c2, v2] 42))
 replace C := Lib.hid C
 obtain ⟨xl, x0, x1, x2, x3, x4, x5, x6, x7, x8⟩ := hX.cells
 obtain ⟨yl, y0, y1, y2, y3, y4, y5, y6, y7, y8⟩ := hY.cells
 go_enter Tryz.func91, Tryz.ntmps91
 cases q0 with
 | false => go_wp2; go_ret; exact ⟨rfl, hE⟩
 | true =>
 cases q1 with
 | false => go_wp2; go_ret; exact ⟨rfl, hE⟩
 | true =>
 cases q2 with
 | false =>
  have k2 := of_decide_eq_false hb2
  go_wp2; go_ret; exact ⟨rfl, hE⟩
 | true =>
 obtain rfl := of_decide_eq_true hb2
 clear hb2
 cases q3 with
 | false =>
  have k3 := of_decide_eq_false hb3
  go_wp2; go_ret; exact ⟨rfl, hE⟩
 | true =>
 obtain rfl := of_decide_eq_true hb3
 clear hb3
 cases q4 with
 | false =>
  have k4 := of_decide_eq_false hb4
  go_wp2; go_ret; exact ⟨rfl, hE⟩
 | true =>
 obtain rfl := of_decide_eq_true hb4
 clear hb4
 go_wp2_with fail
 refine (C.out _ hE).mono ?_; rintro e w1 ⟨rfl, h1⟩
 go_wp2
 go_ret
 exact ⟨by simp, hE.trans h1⟩
set_option maxHeartbeats 4000000 in
set_option maxRecDepth 100000 in
theorem rcheck_w (s : ByteArray) (d : Vc) (n : Nums3) (v : Value) (R : List RowS) (w : World) (hs : s.size ≤ 1048576) (hd : OkV d) (hf : FitR R) (hx : Terms w v R) :
  Calls Tryz.prog 92 #[spVal s (vG d) n v] w fun e w' => e = .returned (.int .i64 (chkX (s, d, n, R.map rowT) : Nat)) ∧ Ext w w' := by
 obtain ⟨qv, capv, rfl, _, _⟩ := hx.shape
 have C1 := fun U => rtotal_w s d n (.slice qv R.length capv) hd U
 have C2 := fun U => rparts_w s U (by omega)
 have C4 := fun U (h : Ext w U) => smright_w R _ U hf (hx.ext h)
 have k1 := fun h => chkX_1 (x := (s, d, n, R.map rowT)) h
 have k2 := fun h => chkX_2 (x := (s, d, n, R.map rowT)) h
 have k3 := fun h => chkX_3 (x := (s, d, n, R.map rowT)) h
 have k4 := fun h => chkX_4 (x := (s, d, n, R.map rowT)) h
 have u1 : partsL s.data.toList = [] → underL s.data.toList s.data.toList = false := fun h => under_none h
 have u2 : partsL s.data.toList ≠ [] → underL s.data.toList s.data.toList = true := fun h => under_self h
 unfold totOk at k4
 simp only at k1 k2 k3 k4
 generalize chkX (s, d, n, R.map rowT) = K at *
 generalize underL s.data.toList s.data.toList = un at *
 generalize rightS (R.map rowT) = rs at *
 have hn := inNum_iff (c := n)
 generalize inNum n = bn at *
 unfold vVal at C1
 generalize vG (vOr (vtimesOk d (nat64 n.1)) (vtimes d (nat64 n.1))) = S at *
 generalize vtimesOk d (nat64 n.1) = ok at *
 generalize vG d = D at *
 unfold spVal at *
 unfold vF at C1
 have hX := XBox.new w s D n (.slice qv R.length capv) 42
 have hE : Ext w (w.alloc (.cells #[.string s, .int .u64 (D 0 : Nat), .int .u64 (D 1 : Nat), .int .u64 (D 2 : Nat), .int .u64 (D 3 : Nat), .int .i64 n.1, .int .i64 n.2.1, .int .i64 n.2.2, .slice qv R.length capv] 42)) := (Ext.refl _).alloc _
 replace C1 := Lib.hid C1
 replace C2 := Lib.hid C2
 replace C4 := Lib.hid C4
 replace k1 := Lib.hid k1
 replace k2 := Lib.hid k2
 replace k3 := Lib.hid k3
 replace k4 := Lib.hid k4
 replace u1 := Lib.hid u1
 replace u2 := Lib.hid u2
 replace hn := Lib.hid hn
 generalize hW0 : w.alloc (.cells #[.string s, .int .u64 (D 0 : Nat), .int .u64 (D 1 : Nat), .int .u64 (D 2 : Nat), .int .u64 (D 3 : Nat), .int .i64 n.1, .int .i64 n.2.1, .int .i64 n.2.2, .slice qv R.length capv] 42) = W at *
 obtain ⟨xl, x0, x1, x2, x3, x4, x5, x6, x7, x8⟩ := hX.cells
 go_enter Tryz.func92, Tryz.ntmps92
 go_wp2_with fail
 refine (C1.out _).mono ?_; rintro e w1 ⟨rfl, h1⟩
 clear xl x0 x1 x2 x3 x4 x5 x6 x7 x8
 have hal := h1.trans ((Ext.refl w1).alloc (.cells #[.int .u64 (S 0 : Nat), .int .u64 (S 1 : Nat), .int .u64 (S 2 : Nat), .int .u64 (S 3 : Nat)] 39))
 replace hX := hX.ext hal
 replace hE := hE.trans hal
 clear hal h1 hW0
 obtain ⟨xl, x0, x1, x2, x3, x4, x5, x6, x7, x8⟩ := hX.cells
 go_wp2_with fail
 clear xl x0 x1 x2 x3 x4 x5 x6 x7 x8
 generalize w1.alloc (.cells #[.int .u64 (S 0 : Nat), .int .u64 (S 1 : Nat), .int .u64 (S 2 : Nat), .int .u64 (S 3 : Nat)] 39) = w2 at *
 refine (C2.out _).mono ?_; rintro e w3 ⟨r, rfl, ⟨ss, hss, hps⟩, h3⟩
 obtain ⟨qs, cs, rfl, _, _⟩ := hss.shape
 replace hX := hX.ext h3
 replace hE := hE.trans h3
 clear h3 hss
 obtain ⟨xl, x0, x1, x2, x3, x4, x5, x6, x7, x8⟩ := hX.cells
 by_cases h0 : ss = []
 ·obtain rfl : K = 6 := k1.out (u1.out (by rw [← hps, h0]; rfl))
  subst h0
  clear hps
  go_wp2
  go_ret
  exact ⟨rfl, hE⟩
 ·obtain rfl : un = true := u2.out (fun e => h0 (by rw [e] at hps; simpa [bytesOf] using hps))
  have hl0 : ss.length ≠ 0 := fun e => h0 (List.length_eq_zero_iff.1 e)
  have hli : ((ss.length : Int) == 0) = false := by rw [beq_eq_false_iff_ne]; omega
  clear hps h0
  by_cases a1 : n.1 < 1
  ·obtain rfl : K = 1 := k2.out (by trivial) (Bool.eq_false_iff.2 fun h => by have := hn.out.1 h; omega)
   go_wp2
   go_ret
   exact ⟨rfl, hE⟩
  by_cases a2 : 8 < n.1
  ·obtain rfl : K = 1 := k2.out (by trivial) (Bool.eq_false_iff.2 fun h => by have := hn.out.1 h; omega)
   go_wp2
   go_ret
   exact ⟨rfl, hE⟩
  by_cases a3 : n.2.1 < 0
  ·obtain rfl : K = 1 := k2.out (by trivial) (Bool.eq_false_iff.2 fun h => by have := hn.out.1 h; omega)
   go_wp2
   go_ret
   exact ⟨rfl, hE⟩
  by_cases a4 : 9 < n.2.1
  ·obtain rfl : K = 1 := k2.out (by trivial) (Bool.eq_false_iff.2 fun h => by have := hn.out.1 h; omega)
   go_wp2
   go_ret
   exact ⟨rfl, hE⟩
  by_cases a5 : n.2.2 < 1
  ·obtain rfl : K = 1 := k2.out (by trivial) (Bool.eq_false_iff.2 fun h => by have := hn.out.1 h; omega)
   go_wp2
   go_ret
   exact ⟨rfl, hE⟩
  by_cases a6 : 100 < n.2.2
  ·obtain rfl : K = 1 := k2.out (by trivial) (Bool.eq_false_iff.2 fun h => by have := hn.out.1 h; omega)
   go_wp2
   go_ret
   exact ⟨rfl, hE⟩
  obtain rfl : bn = true := hn.out.2 ⟨by omega, by omega, by omega, by omega, by omega, by omega⟩
  go_wp2_with fail
  refine (C4.out _ hE).mono ?_; rintro e w5 ⟨rfl, h5⟩
  replace hE := hE.trans h5
  cases rs with
  | false =>
   obtain rfl : K = 2 := k3.out (by trivial) (by trivial) (by trivial)
   go_wp2
   go_ret
   exact ⟨rfl, hE⟩
  | true =>
   cases ok with
   | false =>
    obtain rfl : K = 5 := k4.out (by trivial) (by trivial) (by trivial)
    clear k4
    go_wp2
    go_ret
    exact ⟨rfl, hE⟩
   | true =>
    obtain rfl : K = 0 := k4.out (by trivial) (by trivial) (by trivial)
    clear k4
    go_wp2
    go_ret
    exact ⟨rfl, hE⟩
end Go.Proofs.YtefjdmjkofaajaaGreatDoor
namespace Go.Dm
open Go Go.RowKit
/-! What is torn. -/
end Go.Dm
