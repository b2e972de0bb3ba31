/- Texts one behind the other: Slices of numbers among the arguments. -/
import Derived.Test.YthmhalcloogniaaGreatDoorB2
import Derived.ProofKit
import Derived.Deep.SlicePairs
import Derived.Lib.SmallJoins
import Derived.SizedLaws
namespace Go.Dm
open Go Go.RowKit Go.ChangeShapes Go.WideShapes

/-- Slice value `v` reads as the numbers `zs` of kind `k`. -/
def Nums (w : World) (k : IntKind) (v : Value) (zs : List Int) : Prop := Sl w 1 v zs.length (zs.map (.int k))

/-- The number at a place. -/
def numAt (zs : List Int) (i : Nat) : Int := zs.getD i 0

theorem Nums.ext {w w' : World} {k v zs} (h : Nums w k v zs) (hb : Ext w w') : Nums w' k v zs := Sl.ext h hb

theorem Nums.shape {w : World} {k v zs} (h : Nums w k v zs) : ∃ p cap, v = .slice p zs.length cap ∧ zs.length ≤ cap ∧ cap ≤ maxLen := by
  obtain ⟨p, cap, h1, h2, h3, _⟩ := Sl.shape h
  exact ⟨p, cap, h1, h2, h3⟩

theorem Nums.at {w : World} {k : IntKind} {zs : List Int} {p cap} (h : Nums w k (.slice p zs.length cap) zs) {i : Nat} (hi : i < zs.length) :
    ∃ b off, p = some ⟨b, off, none⟩ ∧ b < w.heap.size ∧ w.cell? ⟨b, off + i, none⟩ = some (.int k (numAt zs i)) := by
  obtain ⟨b, off, hp, hb, h⟩ := Sl.at h (by omega)
  exact ⟨b, off, hp, hb, h i _ (by simp [hi, numAt])⟩

section
variable {H : Type} {enc : TypeId × Value → H} {P : Program} {W : World}

/-- A slice of numbers that came in. -/
theorem nums_of_trod {t e : TypeId} {k : IntKind} (ht : P.underlying t = some (.slice e)) (he : P.underlying e = some (.int k)) (ce : P.cellsOf e = 1)
    {a : Option Addr} {len cap : Nat} {d : DataW H} {ps : List MemPlace} (h : DataW.Trod enc P W 0 (fun _ => true) true t (.slice a len cap) d ps) :
    ∃ zs : List Int, Nums W k (.slice a len cap) zs ∧ (∀ z ∈ zs, k.min ≤ z ∧ z ≤ k.max) ∧ (d = .nil ∨ ∃ el sp, d = .slice el sp ∧ zs.length ≤ el.length + sp.length) ∧ (d = .nil → zs.length = 0) := by
  obtain ⟨fuel, hf⟩ := h
  rcases Deep.open_slice1 ht ce hf with ⟨hcs, hx⟩ | ⟨a', len', cap', m, n, V, D, Pl, hcs, _, hl, hm, hmm, hx, hall⟩
  · simp [Value.cells] at hcs
    obtain ⟨rfl, rfl, rfl⟩ := hcs
    simp only [Prod.mk.injEq] at hx
    exact ⟨[], Sl.nil W 1, by simp, Or.inl hx.1, fun _ => rfl⟩
  · simp [Value.cells] at hcs
    obtain ⟨rfl, rfl, rfl⟩ := hcs
    simp only [Prod.mk.injEq] at hx
    simp only [if_true] at hmm
    subst hmm
    have hz : ∀ i, i < m → ∃ z : Int, W.cell? (a'.add i) = some (.int k z) ∧ k.min ≤ z ∧ z ≤ k.max := by
      intro i hi
      obtain ⟨g0, g1⟩ := hall i hi
      obtain ⟨z, e0, _, w0⟩ := DataW.trod_int he g1
      simp at e0
      refine ⟨z, by rw [g0, e0], ?_⟩
      simpa [Lit.wf] using w0
    obtain ⟨F, hF⟩ := Deep.choose_lt hz
    have hlen : ((List.range len).map F).length = len := by simp
    refine ⟨(List.range len).map F, ?_, ?_, Or.inr ⟨_, _, hx.1, by simp⟩, fun hd => by rw [hx.1] at hd; cases hd⟩
    · refine ⟨by simp, some a', m, by rw [hlen], by omega, hm, by simp, ?_⟩
      by_cases h0 : len = 0
      · exact Or.inl (by simp [h0])
      · right
        obtain ⟨b, off, spot⟩ := a'
        have hs := World.cell?_spot (hF 0 (by omega)).1
        have hspot : spot = none := by simpa [Addr.add] using hs
        subst hspot
        have hb := World.block_lt_of_cell? W _ (hF 0 (by omega)).1
        refine ⟨b, off, rfl, by simpa [Addr.add] using hb, fun j u hj => ?_⟩
        have hjl : j < len := by
          have := (List.getElem?_eq_some_iff.1 hj).1
          simpa using this
        have hc := (hF j (by omega)).1
        have e0 : (⟨b, off, none⟩ : Addr).add j = ⟨b, off + j, none⟩ := by unfold Addr.add; split <;> simp_all
        rw [← e0, hc, ← hj]
        simp [hjl]
    · intro z hz
      obtain ⟨i, hi, rfl⟩ := List.mem_map.1 hz
      exact (hF i (by have := List.mem_range.1 hi; omega)).2
end
end Go.Dm
