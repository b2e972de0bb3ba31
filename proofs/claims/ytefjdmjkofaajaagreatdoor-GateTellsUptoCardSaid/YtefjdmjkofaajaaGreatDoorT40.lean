/- Texts of the base. -/

import Derived.Test.YtefjdmjkofaajaaGreatDoorT13
import Derived.Test.YtefjdmjkofaajaaGreatDoorT4
namespace Go.Dm
open Go Go.RowKit Go.ChangeShapes Go.WideShapes
def pairD {H : Type} (p : PairS) : DataW H := .agg [.lit (.string p.1.data.toList), .lit (.string p.2.data.toList)]
section
variable {H : Type} {enc : TypeId × Value → H} {P : Program} {W : World}
theorem pairs_of_trod2 {t e : TypeId} {f0 f1 : Field} (ht : P.underlying t = some (.slice e)) (he : P.underlying e = some (.struct #[f0, f1]))
  (ce : P.cellsOf e = 2) (o0 : f0.offset = 0) (o1 : f1.offset = 1) (c0 : P.cellsOf f0.type = 1) (c1 : P.cellsOf f1.type = 1)
  (u0 : P.underlying f0.type = some .string) (u1 : P.underlying f1.type = some .string)
  {a : Option Addr} {len cap : Nat} {d : DataW H} {ps : List MemPlace} (h : DataW.Trod enc P W 0 (fun _ => true) true t (.slice a len cap) d ps) :
  ∃ xs : List PairS, Pairs W (.slice a len cap) xs ∧ ((d = .nil ∧ xs = []) ∨ ∃ sp, d = .slice (xs.map pairD) sp) := by
 obtain ⟨fuel, hf⟩ := h
 rcases Deep.open_slice_pairs ht he ce o0 o1 c0 c1 hf with ⟨hcs, hx⟩ | ⟨a', len', cap', m, n, V0, V1, D0, D1, P0, P1, hcs, _, hl, hm, hmm, hx, hall⟩
 ·simp [Value.cells] at hcs
  obtain ⟨rfl, rfl, rfl⟩ := hcs
  simp only [Prod.mk.injEq] at hx
  exact ⟨[], Sl.nil W 2, Or.inl ⟨hx.1, rfl⟩⟩
 ·simp [Value.cells] at hcs
  obtain ⟨rfl, rfl, rfl⟩ := hcs
  simp only [Prod.mk.injEq] at hx
  simp only [if_true] at hmm
  subst hmm
  have hz : ∀ i, i < m → ∃ x : PairS, W.cell? (a'.add (i * 2)) = some (.string x.1) ∧ W.cell? (a'.add (i * 2 + 1)) = some (.string x.2) ∧ D0 i = .lit (.string x.1.data.toList) ∧ D1 i = .lit (.string x.2.data.toList) := by
   intro i hi
   obtain ⟨g0, g1, g2, g3⟩ := hall i hi
   obtain ⟨z0, e0, q0, _⟩ := DataW.trod_string u0 g2
   obtain ⟨z1, e1, q1, _⟩ := DataW.trod_string u1 g3
   simp at e0 e1
   simp only [Prod.mk.injEq] at q0 q1
   exact ⟨(z0, z1), by rw [g0, e0], by rw [g1, e1], q0.1, q1.1⟩
  obtain ⟨F, hF⟩ := Deep.choose_lt (α := PairS) (by
   intro i hi
   exact hz i hi)
  refine ⟨(List.range len).map F, ?_, Or.inr ⟨(List.range (m - len)).map fun j => .agg [D0 (len + j), D1 (len + j)], hx.1.trans ?_⟩⟩
  ·have hlen : ((List.range len).map F).length = len := by simp
   refine ⟨by rw [pairCells_len], some a', m, by rw [hlen], by omega, hm, by simp, ?_⟩
   by_cases h0 : len = 0
   ·exact Or.inl (by simp [h0])
   ·right
    obtain ⟨b, off, spot⟩ := a'
    have hs := World.cell?_spot (hF 0 (by omega)).1
    have hspot : spot = none := by simpa [Addr.add] using hs
    subst hspot
    have hb := World.block_lt_of_cell? W _ (hF 0 (by omega)).1
    refine ⟨b, off, rfl, by simpa [Addr.add] using hb, fun j u hj => ?_⟩
    have hjl : j < len * 2 := by
     have := (List.getElem?_eq_some_iff.1 hj).1
     rw [pairCells_len, hlen] at this
     exact this
    obtain ⟨k, hk⟩ : ∃ k, j = k * 2 ∨ j = k * 2 + 1 := ⟨j / 2, by omega⟩
    have hkl : k < len := by omega
    have hat := pairCells_at ((List.range len).map F) k (by rw [hlen]; exact hkl)
    have hent : pairAt ((List.range len).map F) k = F k := by simp [pairAt, hkl]
    rw [hent] at hat
    have hc := hF k (by omega)
    have e0 : (⟨b, off, none⟩ : Addr).add (k * 2) = ⟨b, off + k * 2, none⟩ := by unfold Addr.add; split <;> simp_all
    have e1 : (⟨b, off, none⟩ : Addr).add (k * 2 + 1) = ⟨b, off + (k * 2 + 1), none⟩ := by unfold Addr.add; split <;> simp_all
    rcases hk with rfl | rfl
    ·rw [← e0, hc.1, ← hat.1, hj]
    ·rw [← e1, hc.2.1, ← hat.2, hj]
  ·rw [List.map_map]
   congr 1
   refine List.map_congr_left fun i hi => ?_
   have hi := List.mem_range.1 hi
   have := hF i (by omega)
   simp only [Function.comp, pairD, this.2.2.1, this.2.2.2]
end
end Go.Dm
