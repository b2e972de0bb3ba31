/- Texts of the base. -/

import Derived.Test.YtefjdmjkofaajaaGreatDoorT40
import Derived.Test.YtefjdmjkofaajaaGreatDoorT15
namespace Go.Dm
open Go Go.RowKit Go.ChangeShapes Go.WideShapes
def StrsD {H : Type} (xs : List ByteArray) (d : DataW H) : Prop := (d = .nil ∧ xs = []) ∨ ∃ sp, d = .slice (xs.map fun x => .lit (.string x.data.toList)) sp
def TermD {H : Type} (t : TermS) (d : DataW H) : Prop := ∃ dv, d = .agg [.lit (.string t.1.data.toList), .lit (.bool t.2.1), dv] ∧ StrsD t.2.2 dv
def TermsD {H : Type} (R : List RowS) (d : DataW H) : Prop := (d = .nil ∧ R = []) ∨ ∃ el sp, d = .slice el sp ∧ el.length = R.length ∧ ∀ i, i < R.length → ∃ e, el[i]? = some e ∧ TermD (rowT (sAtR R i)) e
section
variable {H : Type} {enc : TypeId × Value → H} {P : Program} {W : World}
theorem addr_add (b off i : Nat) : (⟨b, off, none⟩ : Addr).add i = ⟨b, off + i, none⟩ := by unfold Addr.add; split <;> simp_all
theorem strs_of_cells {t e : TypeId} {fuel : Nat} (ht : P.underlying t = some (.slice e)) (he : P.underlying e = some .string) (ce : P.cellsOf e = 1)
  {v : Value} {d : DataW H} {ps : List MemPlace} (hf : DataW.trod enc P W 0 (fun _ => true) true fuel t [v] = some (d, ps)) : ∃ xs : List ByteArray, Strs W v xs ∧ StrsD xs d := by
 rcases Deep.open_slice1 ht ce hf with ⟨hcs, hx⟩ | ⟨a', len, cap, m, n, V, D, Pl, hcs, _, hl, hm, hmm, hx, hall⟩
 ·simp only [List.cons.injEq, and_true] at hcs
  subst hcs
  simp only [Prod.mk.injEq] at hx
  exact ⟨[], Strs.nil W, Or.inl ⟨hx.1, rfl⟩⟩
 ·simp only [List.cons.injEq, and_true] at hcs
  subst hcs
  simp only [Prod.mk.injEq] at hx
  simp only [if_true] at hmm
  subst hmm
  have hz : ∀ i, i < m → ∃ z : ByteArray, W.cell? (a'.add i) = some (.string z) ∧ D i = .lit (.string z.data.toList) := by
   intro i hi
   obtain ⟨g0, g1⟩ := hall i hi
   obtain ⟨z, e0, q0, _⟩ := DataW.trod_string he g1
   simp only [List.cons.injEq, and_true] at e0
   simp only [Prod.mk.injEq] at q0
   exact ⟨z, by rw [g0, e0], q0.1⟩
  obtain ⟨F, hF⟩ := Deep.choose_lt (α := ByteArray) (by intro i hi; exact hz i hi)
  have hlen : ((List.range len).map F).length = len := by simp
  refine ⟨(List.range len).map F, ?_, Or.inr ⟨(List.range (m - len)).map fun j => D (len + j), hx.1.trans ?_⟩⟩
  ·refine ⟨by simp, some a', m, by rw [hlen], by omega, hm, by simp, ?_⟩
   by_cases h0 : len = 0
   ·exact Or.inl (by simp [h0])
   ·right
    obtain ⟨b, off, spot⟩ := a'
    have hs := World.cell?_spot (hF 0 (by omega)).1
    have hspot : spot = none := by simpa [Addr.add] using hs
    subst hspot
    have hb := World.block_lt_of_cell? W _ (hF 0 (by omega)).1
    refine ⟨b, off, rfl, by simpa [Addr.add] using hb, fun j u hj => ?_⟩
    have hjl : j < len := by
     have := (List.getElem?_eq_some_iff.1 hj).1
     simpa using this
    have hc := (hF j (by omega)).1
    rw [← addr_add, hc, ← hj]
    simp [hjl]
  ·rw [List.map_map]
   congr 1
   exact List.map_congr_left fun i hi => (hF i (by have := List.mem_range.1 hi; omega)).2
theorem terms_of_trod {t e : TypeId} {f0 f1 f2 : Field} {q : TypeId} (ht : P.underlying t = some (.slice e)) (he : P.underlying e = some (.struct #[f0, f1, f2]))
  (ce : P.cellsOf e = 3) (o0 : f0.offset = 0) (o1 : f1.offset = 1) (o2 : f2.offset = 2) (c0 : P.cellsOf f0.type = 1) (c1 : P.cellsOf f1.type = 1) (c2 : P.cellsOf f2.type = 1)
  (u0 : P.underlying f0.type = some .string) (u1 : P.underlying f1.type = some .bool) (u2 : P.underlying f2.type = some (.slice q)) (uq : P.underlying q = some .string) (cq : P.cellsOf q = 1)
  {a : Option Addr} {len cap : Nat} {d : DataW H} {ps : List MemPlace} (h : DataW.Trod enc P W 0 (fun _ => true) true t (.slice a len cap) d ps) :
  ∃ R : List RowS, Terms W (.slice a len cap) R ∧ TermsD R d := by
 obtain ⟨fuel, hf⟩ := h
 rcases Deep.open_slice ht hf with ⟨hcs, hx⟩ | ⟨a', len', cap', m, n, D, Pl, hcs, _, hl, hm, hmm, hx, hall⟩
 ·simp [Value.cells] at hcs
  obtain ⟨rfl, rfl, rfl⟩ := hcs
  simp only [Prod.mk.injEq] at hx
  exact ⟨[], Terms.nil W, Or.inl ⟨hx.1, rfl⟩⟩
 ·simp [Value.cells] at hcs
  obtain ⟨rfl, rfl, rfl⟩ := hcs
  simp only [Prod.mk.injEq] at hx
  simp only [if_true] at hmm
  subst hmm
  have hz : ∀ i, i < m → ∃ r : RowS, W.cell? (a'.add (i * 3)) = some (.string r.1) ∧ W.cell? (a'.add (i * 3 + 1)) = some (.bool r.2.1) ∧ W.cell? (a'.add (i * 3 + 2)) = some r.2.2.1 ∧ Strs W r.2.2.1 r.2.2.2 ∧ TermD (rowT r) (D i) := by
   intro i hi
   obtain ⟨cs', h1, h2⟩ := hall i hi
   rw [ce] at h1
   obtain ⟨_, hlen, hcell⟩ := World.cells?_some h1
   obtain ⟨xs, k, _, hxy, _, hxl, hfs⟩ := DataW.trod_struct he h2
   match xs, hxl, cs', hlen with
   | [y0, y1, y2], _, [v0, v1, v2], _ =>
    have g0 := hfs 0 f0 rfl
    have g1 := hfs 1 f1 rfl
    have g2 := hfs 2 f2 rfl
    simp [o0, o1, o2, c0, c1, c2] at g0 g1 g2
    have e0 := hcell 0 (by omega)
    have e1 := hcell 1 (by omega)
    have e2 := hcell 2 (by omega)
    rw [Deep.add_add] at e0 e1 e2
    simp only [Prod.mk.injEq] at hxy
    obtain ⟨z0, p0, q0, _⟩ := DataW.trod_string u0 g0
    obtain ⟨z1, p1, q1⟩ := DataW.trod_bool u1 g1
    obtain ⟨d2, s2⟩ := y2
    obtain ⟨z2, p2, q2⟩ := strs_of_cells u2 uq cq g2
    simp only [List.cons.injEq, and_true] at p0 p1
    subst p0 p1
    refine ⟨(z0, z1, v2, z2), by simpa using e0, by simpa using e1, by simpa using e2, p2, d2, ?_, q2⟩
    rw [hxy.1, q0, q1]; rfl
  obtain ⟨F, hF⟩ := @Deep.choose_lt RowS ⟨noRow⟩ _ _ hz
  have hlen : ((List.range len).map F).length = len := by simp
  have hat : ∀ i, i < len → sAtR ((List.range len).map F) i = F i := fun i hi => by simp [sAtR, hi]
  refine ⟨(List.range len).map F, ⟨?_, ?_⟩, Or.inr ⟨_, _, hx.1, by simp, ?_⟩⟩
  ·refine ⟨by rw [rowCells_len], some a', m, by rw [hlen], by omega, hm, by simp, ?_⟩
   by_cases h0 : len = 0
   ·exact Or.inl (by simp [h0])
   ·right
    obtain ⟨b, off, spot⟩ := a'
    have hs := World.cell?_spot (hF 0 (by omega)).1
    have hspot : spot = none := by simpa [Addr.add] using hs
    subst hspot
    have hb := World.block_lt_of_cell? W _ (hF 0 (by omega)).1
    refine ⟨b, off, rfl, by simpa [Addr.add] using hb, fun j u hj => ?_⟩
    have hjl : j < len * 3 := by
     have := (List.getElem?_eq_some_iff.1 hj).1
     rw [rowCells_len, hlen] at this
     exact this
    obtain ⟨k, hk⟩ : ∃ k, j = k * 3 ∨ j = k * 3 + 1 ∨ j = k * 3 + 2 := ⟨j / 3, by omega⟩
    have hkl : k < len := by omega
    have ha := rowCells_at ((List.range len).map F) k (by rw [hlen]; exact hkl)
    rw [hat k hkl] at ha
    have hc := hF k (by omega)
    rw [← addr_add]
    rcases hk with rfl | rfl | rfl
    ·rw [hc.1, ← ha.1, hj]
    ·rw [hc.2.1, ← ha.2.1, hj]
    ·rw [hc.2.2.1, ← ha.2.2, hj]
  ·intro r hr
   obtain ⟨i, hi, rfl⟩ := List.mem_map.1 hr
   exact (hF i (by have := List.mem_range.1 hi; omega)).2.2.2.1
  ·intro i hi
   rw [hlen] at hi
   refine ⟨D i, by simp [hi], ?_⟩
   rw [hat i hi]
   exact (hF i (by omega)).2.2.2.2
end
end Go.Dm
