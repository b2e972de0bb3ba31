/- Texts of the base. -/

import Derived.Test.YtefjdmjkofaajaaGreatDoorT14
import Derived.Lib.Overlaps
import Derived.Lib.AppendZeros
import Derived.Laws.Rows
import Derived.Laws.Tables
namespace Go.Dm
open Go Go.RowKit
theorem Ext.setRow {w0 w : World} (h : Ext w0 w) {g : Nat} (hg : w0.heap.size ≤ g) (cs : Array Value) : Ext w0 (w.setRow g cs) := below_setRow h hg cs
theorem Ext.heap {w w' : World} {k : Nat} {o : Obj} (h : w.heap[k]? = some o) (hx : Ext w w') : w'.heap[k]? = some o := by
 rw [hx.block k (Array.getElem?_eq_some_iff.1 h).1]; exact h
theorem Sl.of_block {w : World} {g e n sz : Nat} {vs : List Value} (h : w.heap[g]? = some (.cells vs.toArray e (0, 0))) (hv : vs.length = n * sz) (hn : n ≤ maxLen) : Sl w sz (.slice (some ⟨g, 0, none⟩) n n) n vs := by
 refine ⟨hv, _, _, rfl, Nat.le_refl _, hn, by simp, Or.inr ⟨g, 0, rfl, (Array.getElem?_eq_some_iff.1 h).1, fun j u hj => ?_⟩⟩
 rw [cell_of_row w g _ vs.toArray _ _ h]
 simpa using hj
section
variable {P : Program} {w : World} {ops : Array Oper} {rest : List Oper} {o : Oper} {a : Act} {Q : Exit → Act → World → Prop}
theorem run_append_zeros {t ti ty e : TypeId} {size bytes : Nat} (T : SlT P t e size bytes) {k : IntKind} (hti : P.underlying ti = some (.int k))
  (w : World) {p : Option Addr} {n cap : Nat} {cs : List Value} (hx : Sl w size (.slice p n cap) n cs) (l : Nat) (hl0 : 0 < l) (hl : cap < n + l) (hb : (n + l) * bytes ≤ 140737488355328) :
  ∃ c cur, (Builtin.append_ #[t, ti] ty #[.slice p n cap, .int .i64 (l : Int)]).run P w = .ok (.slice (some ⟨w.heap.size, 0, none⟩) (n + l) c) (w.drew.alloc (.cells cur e)) ∧
   n + l ≤ c ∧ c ≤ maxLen ∧ cur.size = c * size ∧ cur.toList.take (n * size) = cs := by
 obtain ⟨i, z, hi, hz, h2, h3, h4⟩ := T.info
 have hbp := T.bpos
 have hsp := T.pos
 have hnl : n + l ≤ 140737488355328 := Nat.le_trans (Nat.le_mul_of_pos_right _ hbp) hb
 have hlw : IntKind.i64.wrap (l : Int) = l := wrap_nat (by omega)
 have hlb : ¬ ((281474976710656 : Int) < (l : Int) * (bytes : Int)) := by
  have h5 : l * bytes ≤ (n + l) * bytes := Nat.mul_le_mul_right _ (by omega)
  have h6 : ((l * bytes : Nat) : Int) ≤ 140737488355328 := by omega
  rw [Int.natCast_mul] at h6
  omega
 have hl1 : ¬ ((l : Int) < 0) := by omega
 have hroom : ¬ (n + l ≤ cap) := by omega
 have h63 : ¬ (9223372036854775807 < ((n : Int) + (l : Int))) := by omega
 have hfit := growslice_fits (old := cap) (by omega) hb
 have h48 : ¬ (281474976710656 < Builtin.nextslicecap (n + l) cap * bytes) := by omega
 have hold : (Builtin.firstCells size n (.slice p n cap)).run P w.drew = .ok cs.toArray w.drew := by
  obtain ⟨hlen, p', cap', hv, _, _, hpn, hx⟩ := hx
  injection hv with e1 _ e2
  subst e1 e2
  cases p with
  | none =>
   have h0 := hpn rfl
   have hn0 : n = 0 := by
    rcases hx with h | ⟨b, off, h, _⟩
    ·exact h
    ·cases h
   subst hn0
   have hcs : cs = [] := List.eq_nil_of_length_eq_zero (by simpa using hlen)
   subst hcs
   exact run_firstCells_none w.drew size 0 0 cap
  | some ad =>
   refine run_firstCells_some w.drew size n ad n cap cs hlen (fun j u hj => ?_)
   rcases hx with h | ⟨b, off, hp, _, hc⟩
   ·subst h
    have hcs : cs = [] := List.eq_nil_of_length_eq_zero (by simpa using hlen)
    subst hcs
    simp at hj
   ·injection hp with hp
    subst hp
    have := hc j u hj
    unfold Addr.add
    split
    ·rename_i h0; subst h0; simpa using this
    ·exact this
 have hge := grownCap_ge w (n + l) cap e
 have hcm : grownCap w (n + l) cap e ≤ maxLen := grownCap_le_maxLen w (n + l) cap e (by simp only [maxLen]; omega)
 refine ⟨grownCap w (n + l) cap e, cs.toArray ++ Builtin.zeroCells z.cells l ++ Builtin.zeroCells z.cells (grownCap w (n + l) cap e - (n + l)), ?_, hge, hcm, ?_, ?_⟩
 ·have hls : ¬ (l * size = 0) := fun h => by rcases Nat.mul_eq_zero.1 h with h | h <;> omega
  simp [Builtin.append_, run_underlying T.ht, run_underlying hti, sizeOf, typeInfo, zeroValue, hi, hz, h2, h3, asInt, asIntOf, hlw, hlb, hl1, hroom, h63, h48, Question.forced, hold, newRow, grownCap, hls]
 ·simp only [Array.size_append, List.size_toArray, hx.len, size_zeroCells, h4]
  rw [← Nat.add_mul, ← Nat.add_mul]
  congr 1; omega
 ·simp only [Array.toList_append]
  rw [List.append_assoc, ← hx.len]
  exact List.take_left
theorem wpList_app_zeros (hgd : o.guard = none) (s x : Operand) {t ti e : TypeId} {size bytes : Nat} (T : SlT P t e size bytes) {k : IntKind} (hti : P.underlying ti = some (.int k))
  (ho : o.op = .call { callee := .builtin .append, args := #[s, x], argTypes := #[t, ti] })
  {p : Option Addr} {n cap : Nat} {cs : List Value} (hs : a.eval s = .slice p n cap) (hx : Sl w size (.slice p n cap) n cs) (l N : Nat) (hN : n + l = N) (hxl : a.eval x = .int .i64 (l : Int))
  (hl0 : 0 < l) (hl : cap < n + l) (hb : (n + l) * bytes ≤ 140737488355328)
  (h : ∀ c cur, N ≤ c → c ≤ maxLen → cur.size = c * size → cur.toList.take (n * size) = cs →
   wpList P ops Q rest (a.put o.dst (.slice (some ⟨w.heap.size, 0, none⟩) N c)) (w.drew.alloc (.cells cur e))) : wpList P ops Q (o :: rest) a w := by
 subst hN
 refine wpList_plain hgd fun K hK => ?_
 obtain ⟨c, cur, hrun, h1, h2, h3, h4⟩ := run_append_zeros (ty := o.type) T hti w hx l hl0 hl hb
 unfold Oper.wp
 simp [execOp, ho, resolve, invoke, builtin, hs, hxl, hrun, Result.andThen]
 exact hK _ _ (h c cur h1 h2 h3 h4)
end
def cellsI (k : IntKind) (l : List Int) : Array Value := (l.map (Value.int k)).toArray
theorem size_cellsI (k : IntKind) (l : List Int) : (cellsI k l).size = l.length := by simp [cellsI]
theorem one_cellsI (k : IntKind) (l : List Int) : (cellsI k l).all (·.oneCell') = true := by
 rw [Array.all_eq_true_iff_forall_mem]
 intro v hv
 simp only [cellsI, List.mem_toArray, List.mem_map] at hv
 obtain ⟨z, _, rfl⟩ := hv
 rfl
theorem get_cellsI {k : IntKind} {l : List Int} {i : Nat} (h : i < l.length) : (cellsI k l)[i]? = some (.int k (l.getD i 0)) := by
 simp [cellsI, h]
def AB (b : Nat) (t : TypeId) (k : IntKind) (l : List Int) (w : World) : Prop := w.heap[b]? = some (.cells (cellsI k l) t (0, 0))
theorem AB.lt {b : Nat} {t : TypeId} {k : IntKind} {l : List Int} {w : World} (h : AB b t k l w) : b < w.heap.size := (Array.getElem?_eq_some_iff.1 h).1
theorem AB.ext {b : Nat} {t : TypeId} {k : IntKind} {l : List Int} {w w' : World} (h : AB b t k l w) (hx : Ext w w') : AB b t k l w' := Ext.heap h hx
theorem AB.new (w : World) (t : TypeId) (k : IntKind) (l : List Int) : AB w.heap.size t k l (w.alloc (.cells (cellsI k l) t)) := by
 show (w.heap.push _)[w.heap.size]? = _
 simp
theorem AB.cell {b : Nat} {t : TypeId} {k : IntKind} {l : List Int} {w : World} (h : AB b t k l w) {i : Nat} (hi : i < l.length) : w.cell? ⟨b, i, none⟩ = some (.int k (l.getD i 0)) := by
 rw [cell_of_row w b i _ _ _ h, get_cellsI hi]
theorem AB.free {b : Nat} {t : TypeId} {k : IntKind} {l : List Int} {w : World} (h : AB b t k l w) (i : Nat) : w.frozen? ⟨b, i, none⟩ = false := by
 simp [World.frozen?, show w.heap[b]? = _ from h]
theorem AB.setRow {b : Nat} {t : TypeId} {k : IntKind} {l : List Int} {w : World} (h : AB b t k l w) (l' : List Int) : AB b t k l' (w.setRow b (cellsI k l')) := by
 show (w.setRow b (cellsI k l')).heap[b]? = _
 have h := show w.heap[b]? = _ from h
 simp [World.setRow, Array.getElem?_modify, h]
theorem AB.set {b : Nat} {t : TypeId} {k : IntKind} {l : List Int} {w : World} (h : AB b t k l w) (i : Nat) (z : Int) : AB b t k (l.set i z) (w.setCell ⟨b, i, none⟩ (.int k z)) := by
 have h := show w.heap[b]? = _ from h
 show (w.setCell ⟨b, i, none⟩ (.int k z)).heap[b]? = _
 simp only [World.setCell, Array.getElem?_modify, h]
 simp [cellsI, List.map_set]
theorem AB.grown {b : Nat} {t : TypeId} {k : IntKind} {l : List Int} {w w' : World} (h : AB b t k l w) {r : Option Nat} (hg : w.grownBy w' r) (hb : some b ≠ r) : AB b t k l w' := by
 show w'.heap[b]? = _
 rw [hg.block b h.lt hb]; exact h
theorem AB.far {b c i : Nat} {t : TypeId} {k : IntKind} {l : List Int} {w : World} (h : AB b t k l w) (hbc : c ≠ b) (u : Value) : AB b t k l (w.setCell ⟨c, i, none⟩ u) := by
 have h := show w.heap[b]? = _ from h
 show (w.setCell ⟨c, i, none⟩ u).heap[b]? = _
 simp only [World.setCell, Array.getElem?_modify, if_neg hbc]
 exact h
theorem AB.farRow {b c : Nat} {t : TypeId} {k : IntKind} {l : List Int} {w : World} (h : AB b t k l w) (hbc : c ≠ b) (cs : Array Value) : AB b t k l (w.setRow c cs) := by
 have h := show w.heap[b]? = _ from h
 show (w.setRow c cs).heap[b]? = _
 simp only [World.setRow, Array.getElem?_modify, if_neg hbc]
 exact h
theorem run_index_cells {P : Program} {t e : TypeId} {n : Nat} {k kk : IntKind} {l : List Int} {i : Nat} (hu : P.underlying t = some (.array n e)) (he : P.underlying e = some (.int kk)) (hs : (P.info? e).map (·.size) = some 1) (hi : i < n) (hl : i < l.length) (w : World) :
  (Instr.index t (.agg (cellsI k l)) (.int .i64 (i : Int))).run P w = .ok (.int k (l.getD i 0)) w := by
 cases hq : P.info? e with
 | none => simp [hq] at hs
 | some inf =>
  have h1 : inf.size = 1 := by simpa [hq] using hs
  have hg := get_cellsI (k := k) hl
  simp [Instr.index, asIntOf, run_underlying hu, part, isAgg, run_underlying he, sizeOf, typeInfo, hq, h1, hg]
  intro h
  omega
structure Rd1 (b i : Nat) (v : Value) (w : World) : Prop where
 lt : b < w.heap.size
 c : w.cell? ⟨b, i, none⟩ = some v
theorem Rd1.ext {b i : Nat} {v : Value} {w w' : World} (h : Rd1 b i v w) (hx : Ext w w') : Rd1 b i v w' :=
 ⟨Nat.lt_of_lt_of_le h.lt hx.size, by rw [hx.cell (by exact h.lt)]; exact h.c⟩
def Off (b : Nat) (w w' : World) : Prop := w.heap.size ≤ w'.heap.size ∧ ∀ c, c ≠ b → w'.heap[c]? = w.heap[c]?
theorem Off.refl (b : Nat) (w : World) : Off b w w := ⟨Nat.le_refl _, fun _ _ => rfl⟩
theorem Off.trans {b : Nat} {w0 w w1 : World} (h : Off b w0 w) (k : Off b w w1) : Off b w0 w1 := ⟨Nat.le_trans h.1 k.1, fun c hc => (k.2 c hc).trans (h.2 c hc)⟩
theorem Off.setCell {b : Nat} {w0 w : World} (h : Off b w0 w) (i : Nat) (u : Value) : Off b w0 (w.setCell ⟨b, i, none⟩ u) :=
 ⟨by rw [World.size_setCell]; exact h.1, fun c hc => by
  rw [← h.2 c hc]
  simp only [World.setCell, Array.getElem?_modify, if_neg (Ne.symm hc)]⟩
theorem Off.setRow {b : Nat} {w0 w : World} (h : Off b w0 w) (cs : Array Value) : Off b w0 (w.setRow b cs) :=
 ⟨by show _ ≤ (w.heap.modify b _).size; rw [Array.size_modify]; exact h.1, fun c hc => by
  rw [← h.2 c hc]
  simp only [World.setRow, Array.getElem?_modify, if_neg (Ne.symm hc)]⟩
theorem Sl.off {w w' : World} {b sz n : Nat} {v : Value} {cs : List Value} (h : Sl w sz v n cs) (ho : Off b w w') (ha : ∀ c, v.ownBlock = some c → c ≠ b) : Sl w' sz v n cs := by
 obtain ⟨hl, p, cap, hv, hn, hm, hz, h⟩ := h
 refine ⟨hl, p, cap, hv, hn, hm, hz, ?_⟩
 rcases h with h | ⟨c, off, hp, hlt, h⟩
 ·exact Or.inl h
 subst hv hp
 have hc := ha c rfl
 refine Or.inr ⟨c, off, rfl, Nat.lt_of_lt_of_le hlt ho.1, fun j u hj => ?_⟩
 have := h j u hj
 simpa [World.cell?, ho.2 c hc] using this
end Go.Dm
