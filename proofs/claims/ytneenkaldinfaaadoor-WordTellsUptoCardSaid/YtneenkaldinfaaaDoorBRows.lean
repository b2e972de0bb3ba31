/- Slices of slices of bytes among the arguments. -/
import Derived.Test.YtneenkaldinfaaaDoorNums
import Derived.Deep.Matrix
namespace Go.Dm
open Go Go.RowKit Go.ChangeShapes Go.WideShapes

def byteRow (L : List (List Int)) (k : Nat) : List Int := L.getD k []

/-- Slice value `v` reads as these slices of bytes. -/
def BRows (w : World) (v : Value) (L : List (List Int)) : Prop := ∃ vs : List Value, Sl w 1 v L.length vs ∧ ∀ i, i < L.length → ∃ u, vs[i]? = some u ∧ Nums w .u8 u (byteRow L i)

theorem BRows.ext {w w' : World} {v L} (h : BRows w v L) (hb : Ext w w') : BRows w' v L := by
  obtain ⟨vs, h1, h2⟩ := h
  refine ⟨vs, h1.ext hb, fun i hi => ?_⟩
  obtain ⟨u, h3, h4⟩ := h2 i hi
  exact ⟨u, h3, h4.ext hb⟩

theorem BRows.shape {w : World} {v L} (h : BRows w v L) : ∃ p cap, v = .slice p L.length cap ∧ L.length ≤ cap ∧ cap ≤ maxLen := by
  obtain ⟨vs, h1, _⟩ := h
  obtain ⟨p, cap, h1, h2, h3, _⟩ := Sl.shape h1
  exact ⟨p, cap, h1, h2, h3⟩

theorem BRows.at {w : World} {L : List (List Int)} {p cap} (h : BRows w (.slice p L.length cap) L) {k : Nat} (hk : k < L.length) :
    ∃ b off u, p = some ⟨b, off, none⟩ ∧ b < w.heap.size ∧ w.cell? ⟨b, off + k, none⟩ = some u ∧ Nums w .u8 u (byteRow L k) := by
  obtain ⟨vs, h1, h2⟩ := h
  obtain ⟨b, off, hp, hb, hc⟩ := Sl.at h1 (by omega)
  obtain ⟨u, h3, h4⟩ := h2 k hk
  exact ⟨b, off, u, hp, hb, hc k u h3, h4⟩

section
variable {H : Type} {enc : TypeId × Value → H} {P : Program} {W : World}

/-- A slice of slices of bytes that came in. -/
theorem brows_of_trod {t e q : TypeId} (ht : P.underlying t = some (.slice e)) (he : P.underlying e = some (.slice q)) (hq : P.underlying q = some (.int .u8)) (ce : P.cellsOf e = 1) (cq : P.cellsOf q = 1)
    {a : Option Addr} {len cap : Nat} {d : DataW H} {ps : List MemPlace} (h : DataW.Trod enc P W 0 (fun _ => true) true t (.slice a len cap) d ps) :
    ∃ L : List (List Int), BRows W (.slice a len cap) L ∧ (∀ l ∈ L, l.length ≤ maxLen ∧ ∀ z ∈ l, 0 ≤ z ∧ z ≤ 255) := by
  obtain ⟨fuel, hf⟩ := h
  rcases Deep.open_int_rows ht he hq ce cq hf with ⟨hcs, hx⟩ | ⟨a', len', cap', A, Ls, C, Z, hcs, _, hl, hm, hx, hall⟩
  · simp [Value.cells] at hcs
    obtain ⟨rfl, rfl, rfl⟩ := hcs
    exact ⟨[], ⟨[], Sl.nil W 1, fun i hi => by simp at hi⟩, by simp⟩
  · simp [Value.cells] at hcs
    obtain ⟨rfl, rfl, rfl⟩ := hcs
    have hlen : ((List.range len).map fun r => (Z r).take (Ls r)).length = len := by simp
    have hra : ∀ i, i < len → byteRow ((List.range len).map fun r => (Z r).take (Ls r)) i = (Z i).take (Ls i) := by
      intro i hi; simp [byteRow, hi]
    refine ⟨(List.range len).map fun r => (Z r).take (Ls r), ⟨(List.range len).map fun r => .slice (A r) (Ls r) (C r), ?_, ?_⟩, ?_⟩
    · refine ⟨by simp, some a', cap, by rw [hlen], by omega, hm, by simp, ?_⟩
      by_cases h0 : len = 0
      · exact Or.inl (by simp [h0])
      · right
        obtain ⟨b, off, spot⟩ := a'
        have hs := World.cell?_spot (hall 0 (by omega)).1
        have hspot : spot = none := by simpa [Addr.add] using hs
        subst hspot
        have hb := World.block_lt_of_cell? W _ (hall 0 (by omega)).1
        refine ⟨b, off, rfl, by simpa [Addr.add] using hb, fun j u hj => ?_⟩
        have hjl : j < len := by
          have := (List.getElem?_eq_some_iff.1 hj).1
          simpa using this
        have hc := (hall j (by omega)).1
        have e0 : (⟨b, off, none⟩ : Addr).add j = ⟨b, off + j, none⟩ := by unfold Addr.add; split <;> simp_all
        rw [← e0, hc, ← hj]
        simp [hjl]
    · intro i hi
      rw [hlen] at hi
      obtain ⟨hc, h1, h2, h3, h4, h5, h6⟩ := hall i (by omega)
      refine ⟨.slice (A i) (Ls i) (C i), by simp [hi], ?_⟩
      rw [hra i hi]
      have hl2 : ((Z i).take (Ls i)).length = Ls i := by rw [List.length_take, h3]; omega
      refine ⟨by rw [List.length_map, Nat.mul_one], A i, C i, by rw [hl2], by omega, h2, h5, ?_⟩
      by_cases h0 : Ls i = 0
      · exact Or.inl (by omega)
      · right
        cases hA : A i with
        | none => have := h5 hA; omega
        | some a'' =>
          have hcell := (h6 a'' hA).2
          obtain ⟨b, off, spot⟩ := a''
          have hs := World.cell?_spot (hcell 0 (by omega))
          have hspot : spot = none := by simpa [Addr.add] using hs
          subst hspot
          have hb := World.block_lt_of_cell? W _ (hcell 0 (by omega))
          refine ⟨b, off, rfl, by simpa [Addr.add] using hb, fun j u hj => ?_⟩
          have hjl : j < Ls i := by
            have := (List.getElem?_eq_some_iff.1 hj).1
            simp at this; omega
          have hc := hcell j (by omega)
          have e0 : (⟨b, off, none⟩ : Addr).add j = ⟨b, off + j, none⟩ := by unfold Addr.add; split <;> simp_all
          rw [← e0, hc, ← hj]
          simp only [List.getElem?_map, List.getElem?_take, if_pos hjl]
          rw [List.getElem?_eq_getElem (by omega), List.getD_eq_getElem?_getD, List.getElem?_eq_getElem (by omega)]
          rfl
    · intro l hl
      obtain ⟨i, hi, rfl⟩ := List.mem_map.1 hl
      have hi := List.mem_range.1 hi
      obtain ⟨hc, h1, h2, h3, h4, _⟩ := hall i (by omega)
      refine ⟨by rw [List.length_take]; omega, fun z hz => ?_⟩
      have := h4 z (List.mem_of_mem_take hz)
      simp [Lit.wf, IntKind.min, IntKind.max, IntKind.signed, IntKind.bits] at this
      omega
end
end Go.Dm
