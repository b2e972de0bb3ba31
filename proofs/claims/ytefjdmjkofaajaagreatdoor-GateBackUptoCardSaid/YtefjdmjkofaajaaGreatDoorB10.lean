/- Texts one behind the other: Chapter 5: rows of terms that grow, their values apart from them. No program in sight. -/
import Derived.Test.YtefjdmjkofaajaaGreatDoorB9
import Derived.Maps.AppendAt
namespace Go.Dm
open Go Go.RowKit

/-- No block in common. -/
def Apart (u v : Value) : Prop := ∀ b, u.ownBlock = some b → v.ownBlock ≠ some b

theorem Sl.grown {w w' : World} {row : Option Nat} {sz n : Nat} {v : Value} {cs : List Value} (h : Sl w sz v n cs) (hg : w.grownBy w' row) (ha : n = 0 ∨ ∀ b, v.ownBlock = some b → row ≠ some b) : Sl w' sz v n cs := by
 obtain ⟨hl, p, cap, hv, hn, hm, hz, h⟩ := h
 refine ⟨hl, p, cap, hv, hn, hm, hz, ?_⟩
 rcases h with h | ⟨b, off, hp, hlt, h⟩
 ·exact Or.inl h
 rcases ha with ha | ha
 ·exact Or.inl ha
 subst hv hp
 have hne := ha b rfl
 exact Or.inr ⟨b, off, rfl, Nat.lt_of_lt_of_le hlt hg.size, fun j u hj => hg.cell (h j u hj) (fun e => hne e.symm)⟩
theorem Sl.own_lt {w : World} {sz n b : Nat} {v : Value} {cs : List Value} (h : Sl w sz v n cs) (h0 : n ≠ 0) (hb : v.ownBlock = some b) : b < w.heap.size := by
 obtain ⟨_, p, cap, hv, _, _, _, h⟩ := h
 rcases h with h | ⟨b', off, hp, hlt, _⟩
 ·exact absurd h h0
 ·subst hv hp
  simp only [Value.ownBlock, Option.some.injEq] at hb
  omega

/-- A selector's rows, and its values, lie in blocks of the call's own. -/
def OwnT (B : Nat) (v : Value) (R : List RowS) : Prop := (∀ c, v.ownBlock = some c → B ≤ c) ∧ ∀ x ∈ R, ∀ c, x.2.2.1.ownBlock = some c → B ≤ c
theorem OwnT.nil (B : Nat) : OwnT B (.slice none 0 0) [] := ⟨(fun c h => by cases h), fun x hx => by cases hx⟩
/-- What writes a block that is none of these leaves the selector. -/
theorem Terms.set {w : World} {v : Value} {R : List RowS} {B : Nat} (h : Terms w v R) (ho : OwnT B v R) {b i : Nat} (hb : b < B) (u : Value) : Terms (w.setCell ⟨b, i, none⟩ u) v R := by
 have hg : ∀ {sz n : Nat} {x : Value} {cs : List Value}, Sl w sz x n cs → (∀ c, x.ownBlock = some c → B ≤ c) → Sl (w.setCell ⟨b, i, none⟩ u) sz x n cs := fun {sz n x cs} hx hown => by
  obtain ⟨hl, p, cap, hv, hn, hm, hz, h⟩ := hx
  refine ⟨hl, p, cap, hv, hn, hm, hz, ?_⟩
  rcases h with h | ⟨c, off, hp, hlt, h⟩
  ·exact Or.inl h
  ·subst hv hp
   have hc := hown c rfl
   refine Or.inr ⟨c, off, rfl, by rw [World.size_setCell]; exact hlt, fun j y hj => ?_⟩
   have hne : (⟨b, i, none⟩ : Addr) ≠ ⟨c, off + j, none⟩ := fun e => by injection e with e _; omega
   rw [World.cell?_setCell_other (h := hne)]
   exact h j y hj
 exact ⟨hg h.1 ho.1, fun r hr => hg (h.2 r hr) (ho.2 r hr)⟩
/-- A row of terms of the call's own. -/
structure TRow (e : TypeId) (B : Nat) (w : World) (v : Value) (n : Nat) (R : List RowS) : Prop where
 row : w.ownsRow B e 3 v n (rowCells R)
 vals : ∀ r ∈ R, Strs w r.2.2.1 r.2.2.2 ∧ (r.2.2.2 = [] ∨ Apart r.2.2.1 v)
theorem TRow.nil (e : TypeId) (B : Nat) (w : World) : TRow e B w (.slice none 0 0) 0 [] := ⟨World.ownsRow_nil _ _ _ _, fun r hr => by cases hr⟩
theorem TRow.ext {e B : Nat} {w w' : World} {v : Value} {n : Nat} {R : List RowS} (h : TRow e B w v n R) (hx : Ext w w') : TRow e B w' v n R :=
 ⟨Ext.row h.row hx, fun r hr => ⟨(h.vals r hr).1.ext hx, (h.vals r hr).2⟩⟩
theorem TRow.terms {e B : Nat} {w : World} {v : Value} {n : Nat} {R : List RowS} (h : TRow e B w v n R) (hn : n = R.length) : Terms w v R := Terms.of_row h.row hn (fun r hr => (h.vals r hr).1)
theorem TRow.lt {e B : Nat} {w : World} {v : Value} {n : Nat} {R : List RowS} (h : TRow e B w v n R) {b : Nat} (hb : v.ownBlock = some b) : B ≤ b ∧ b < w.heap.size := World.ownsRow.lt h.row b hb
/-- What was made since is apart. -/
theorem TRow.apart_new {e B : Nat} {w : World} {v u : Value} {n : Nat} {R : List RowS} (h : TRow e B w v n R) (hu : ∀ b, u.ownBlock = some b → w.heap.size ≤ b) : Apart u v := fun b hb hv => by
 have := (h.lt hv).2
 have := hu b hb
 omega
/-- Other blocks than the row's, and than its values', were written. -/
theorem TRow.grown {e B : Nat} {w w' : World} {v : Value} {n : Nat} {R : List RowS} {q : Option Nat} (h : TRow e B w v n R) (hv : ∀ r ∈ R, ∀ c, r.2.2.1.ownBlock = some c → B ≤ c) (hg : w.grownBy w' q) (hq : ∀ c, q = some c → c < B) : TRow e B w' v n R := by
 refine ⟨?_, fun r hr => ⟨Sl.grown (h.vals r hr).1 hg (Or.inr fun b hb hqb => ?_), (h.vals r hr).2⟩⟩
 ·obtain ⟨hl, h⟩ := h.row
  refine ⟨hl, ?_⟩
  rcases h with h | ⟨g, cap, cur, hv, hb, hgg, r⟩
  ·exact Or.inl h
  ·exact Or.inr ⟨g, cap, cur, hv, hb, by rw [hg.block g (Array.getElem?_eq_some_iff.1 hgg).1 (fun e => by have := hq g e.symm; omega)]; exact hgg, r⟩
 ·have := hv r hr b hb
  have := hq b hqb
  omega
/-- `append` of one term to a row of the call's own. -/
theorem wpList_appG {P : Program} {w : World} {B : Nat} {ops : Array Oper} {rest : List Oper} {o : Oper} {a : Act} {Q : Exit → Act → World → Prop} (hgd : o.guard = none) (s x : Operand) {t e : TypeId} {bytes : Nat} (T : SlT P t e 3 bytes)
  (ho : o.op = .call { callee := .builtin .append, args := #[s, x], argTypes := #[t, t] }) (hw : B ≤ w.heap.size)
  {v : Value} {n : Nat} {R : List RowS} (hs : a.eval s = v) (hT : TRow e B w v n R)
  {u : Value} {r : RowS} (hu : a.eval x = u) (hx : Sl w 3 u 1 (rowOne r)) (hv : Strs w r.2.2.1 r.2.2.2) (hap : r.2.2.2 = [] ∨ Apart r.2.2.1 v)
  (hbytes : (n + 1) * bytes ≤ 140737488355328)
  (h : ∀ v' w', TRow e B w' v' (n + 1) (R ++ [r]) → w.grownBy w' v.ownBlock → wpList P ops Q rest (a.put o.dst v') w') : wpList P ops Q (o :: rest) a w := by
 obtain ⟨i, z, hi, hz, h2, h3, h4⟩ := T.info
 obtain ⟨hl, p, cap, rfl, hnc, hm, hpn, hc⟩ := hx
 obtain ⟨b, off, rfl, hlt, hc⟩ := hc.resolve_left (by omega)
 have hcells : ∀ j u, (rowOne r)[j]? = some u → w.cell? ((⟨b, off, none⟩ : Addr).add j) = some u := by
  intro j u hj
  have := hc j u hj
  unfold Addr.add
  split
  ·rename_i h0; subst h0; simpa using this
  ·exact this
 have h1 : ∀ u ∈ rowOne r, u.oneCell' = true := by
  intro u hu
  simp only [rowOne, List.mem_cons, List.not_mem_nil, or_false] at hu
  rcases hu with rfl | rfl | rfl
  ·rfl
  ·rfl
  ·exact hv.one
 have hml : n + 1 ≤ maxLen := by
  have := Nat.le_trans (Nat.le_mul_of_pos_right (n + 1) T.bpos) hbytes
  simp only [maxLen]
  omega
 obtain ⟨v', w', hr, ho2, hg, _, hor⟩ := run_append_own_at (P := P) w B t o.type e i z 3 bytes T.ht hi hz h2 h3 h4 T.pos v n (rowCells R) hT.row ⟨b, off, none⟩ 1 cap (rowOne r) hl hcells h1 hml hbytes hw
 have hkeep : ∀ q : RowS, Strs w q.2.2.1 q.2.2.2 → (q.2.2.2 = [] ∨ Apart q.2.2.1 v) → Strs w' q.2.2.1 q.2.2.2 ∧ (q.2.2.2 = [] ∨ Apart q.2.2.1 v') := by
  intro q hq ha
  refine ⟨Sl.grown hq hg ?_, ?_⟩
  ·rcases ha with ha | ha
   ·left; rw [ha]; rfl
   ·right; exact ha
  ·rcases ha with ha | ha
   ·exact Or.inl ha
   ·by_cases h0 : q.2.2.2 = []
    ·exact Or.inl h0
    ·refine Or.inr fun b hb => ?_
     rcases hor with hor | hor
     ·rw [hor]; exact ha b hb
     ·rw [hor]
      have := Sl.own_lt hq (fun e => h0 (List.length_eq_zero_iff.1 e)) hb
      intro e
      injection e with e
      omega
 have hT' : TRow e B w' v' (n + 1) (R ++ [r]) := by
  refine ⟨?_, fun q hq => ?_⟩
  ·rw [rowCells_app]
   have : rowCells [r] = rowOne r := by simp [rowCells]
   rw [this]
   exact ho2
  ·rcases List.mem_append.1 hq with hq | hq
   ·exact hkeep q (hT.vals q hq).1 (hT.vals q hq).2
   ·rw [List.mem_singleton.1 hq]; exact hkeep r hv hap
 have hfin := h v' w' hT' hg
 refine wpList_plain hgd fun K hK => ?_
 unfold Oper.wp execOp
 simp only [ho, resolve, invoke, builtin, Sem.run_bind, Sem.run_pure, Result.andThen_ok, List.map_toArray, List.map_cons, List.map_nil, hs, hu, hr]
 exact hK _ _ hfin

end Go.Dm
