/- Chapter 14: the arguments of the laws, opened. -/
import Derived.Test.YtgkjpablofckjaaQWalkH
import Derived.ProofKit
import Derived.Deep.SlicePairs
import Derived.Lib.SmallJoins
import Derived.SizedLaws
namespace Go.Dm
open Go Go.RowKit Go.ChangeShapes Go.WideShapes

section
variable {H : Type} {enc : TypeId × Value → H} {P : Program} {W : World}

/-- A slice of entries that came in. -/
theorem ents_of_trod {t e : TypeId} {f0 f1 : Field} (ht : P.underlying t = some (.slice e)) (he : P.underlying e = some (.struct #[f0, f1]))
    (ce : P.cellsOf e = 2) (o0 : f0.offset = 0) (o1 : f1.offset = 1) (c0 : P.cellsOf f0.type = 1) (c1 : P.cellsOf f1.type = 1)
    (u0 : P.underlying f0.type = some (.int .u64)) (u1 : P.underlying f1.type = some (.int .i64))
    {a : Option Addr} {len cap : Nat} {d : DataW H} {ps : List MemPlace} (h : DataW.Trod enc P W 0 (fun _ => true) true t (.slice a len cap) d ps) :
    ∃ xs : List Ent, Ents W (.slice a len cap) xs ∧ (d = .nil ∨ ∃ el sp, d = .slice el sp ∧ xs.length ≤ el.length + sp.length) ∧ (d = .nil → xs.length = 0) := by
  obtain ⟨fuel, hf⟩ := h
  rcases Deep.open_slice_pairs ht he ce o0 o1 c0 c1 hf with ⟨hcs, hx⟩ | ⟨a', len', cap', m, n, V0, V1, D0, D1, P0, P1, hcs, _, hl, hm, hmm, hx, hall⟩
  · simp [Value.cells] at hcs
    obtain ⟨rfl, rfl, rfl⟩ := hcs
    simp only [Prod.mk.injEq] at hx
    exact ⟨[], Sl.nil W 2, Or.inl hx.1, fun _ => rfl⟩
  · simp [Value.cells] at hcs
    obtain ⟨rfl, rfl, rfl⟩ := hcs
    simp only [Prod.mk.injEq] at hx
    simp only [if_true] at hmm
    subst hmm
    have hz : ∀ i, i < m → ∃ x : Ent, W.cell? (a'.add (i * 2)) = some (.int .u64 x.1) ∧ W.cell? (a'.add (i * 2 + 1)) = some (.int .i64 x.2) := by
      intro i hi
      obtain ⟨g0, g1, g2, g3⟩ := hall i hi
      obtain ⟨z0, e0, _, _⟩ := DataW.trod_int u0 g2
      obtain ⟨z1, e1, _, _⟩ := DataW.trod_int u1 g3
      simp at e0 e1
      exact ⟨(z0, z1), by rw [g0, e0], by rw [g1, e1]⟩
    obtain ⟨F, hF⟩ := Deep.choose_lt hz
    refine ⟨(List.range len).map F, ?_, Or.inr ⟨_, _, hx.1, ?_⟩, fun hd => by rw [hx.1] at hd; cases hd⟩
    · have hlen : ((List.range len).map F).length = len := by simp
      refine ⟨by rw [entCells_len], some a', m, by rw [hlen], by omega, hm, by simp, ?_⟩
      by_cases h0 : len = 0
      · exact Or.inl (by simp [h0])
      · right
        obtain ⟨b, off, spot⟩ := a'
        have hs := World.cell?_spot (hF 0 (by omega)).1
        have hspot : spot = none := by simpa [Addr.add] using hs
        subst hspot
        have hb := World.block_lt_of_cell? W _ (hF 0 (by omega)).1
        refine ⟨b, off, rfl, by simpa [Addr.add] using hb, fun j u hj => ?_⟩
        have hjl : j < len * 2 := by
          have := (List.getElem?_eq_some_iff.1 hj).1
          rw [entCells_len, hlen] at this
          exact this
        obtain ⟨k, hk⟩ : ∃ k, j = k * 2 ∨ j = k * 2 + 1 := ⟨j / 2, by omega⟩
        have hkl : k < len := by omega
        have hat := entCells_at ((List.range len).map F) k (by rw [hlen]; exact hkl)
        have hent : ent ((List.range len).map F) k = F k := by simp [ent, hkl]
        rw [hent] at hat
        have hc := hF k (by omega)
        have e0 : (⟨b, off, none⟩ : Addr).add (k * 2) = ⟨b, off + k * 2, none⟩ := by unfold Addr.add; split <;> simp_all
        have e1 : (⟨b, off, none⟩ : Addr).add (k * 2 + 1) = ⟨b, off + (k * 2 + 1), none⟩ := by unfold Addr.add; split <;> simp_all
        rcases hk with rfl | rfl
        · rw [← e0, hc.1, ← hat.1, hj]
        · rw [← e1, hc.2, ← hat.2, hj]
    · simp

end
end Go.Dm
namespace Go.Proofs.Ytgkjpablofckjaa
theorem Try.own : ownKnob Try.prog.godebug = none := by kernel_rfl
theorem Try.laidOut : laidOutB Try.prog = true := by kernel_rfl
theorem Try.cellsEnt : Try.prog.cellsOf 25 = 2 := by kernel_rfl
theorem Try.bytesEnt : Try.prog.bytesOf 25 = 16 := by kernel_rfl
open Go.RowKit Go.Dm in
/-- A slice of entries among the arguments: it reads as a queue of bounded length. -/
theorem Try.openEnts {H : Type} {enc : TypeId × Value → H} {W : World} {ts : List TypeId} {ds : List (DataW H)} {j : Nat} {a : Option Addr} {len cap : Nat} {d : DataW H} {ps : List MemPlace}
    (hsz : (DataW.weightsEach Try.prog ts ds).all (· ≤ reachBytes) = true) (ht : ts[j]? = some 22) (hd : ds[j]? = some d)
    (h : DataW.Trod enc Try.prog W 0 (fun _ => true) true 22 (.slice a len cap) d ps) : ∃ xs : List Ent, Ents W (.slice a len cap) xs ∧ xs.length ≤ 8796093022208 := by
  obtain ⟨xs, h1, h2, h3⟩ := ents_of_trod Try.underlying22 Try.underlying25 Try.cellsEnt rfl rfl (by kernel_rfl) (by kernel_rfl) Try.underlying23 Try.underlying3 h
  refine ⟨xs, h1, ?_⟩
  rcases h2 with h2 | ⟨el, sp, h2, hl⟩
  · have := h3 h2; omega
  · subst h2
    have := sized_slice hsz ht hd Try.underlying22
    rw [Try.bytesEnt] at this
    simp only [reachBytes] at this
    omega

open Go.ChangeShapes Go.WideShapes in
/-- An entry among the arguments. -/
theorem Try.openEnt {H : Type} {enc : TypeId × Value → H} {W : World} {base : Nat} {v : Value} {d : DataW H} {ps : List MemPlace} (hv : Value.okWide Try.prog W .any base 25 v)
    (h : DataW.Trod enc Try.prog W 0 (fun _ => true) true 25 v d ps) : ∃ x : Dm.Ent, v = .agg #[.int .u64 x.1, .int .i64 x.2] ∧ 0 ≤ x.1 ∧ x.1 < 18446744073709551616 := by
  obtain ⟨c0, c1, y0, y1, n, rfl, _, _, g0, g1⟩ := Joins.open_agg2 Try.underlying25 (by kernel_rfl) Try.cellsEnt hv h
  obtain ⟨z0, e0, _, w0⟩ := DataW.trod_int Try.underlying23 g0
  obtain ⟨z1, e1, _, _⟩ := DataW.trod_int Try.underlying3 g1
  simp at e0 e1
  subst e0 e1
  refine ⟨(z0, z1), rfl, ?_⟩
  simp [Lit.wf, IntKind.min, IntKind.max, IntKind.signed, IntKind.bits] at w0
  omega

end Go.Proofs.Ytgkjpablofckjaa
