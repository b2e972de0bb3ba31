/- Texts one behind the other: Chapter 10: trees among the arguments. -/
import Derived.Test.YtopnllbfhhjobaaGreatDoorT22
import Derived.Test.YtopnllbfhhjobaaGreatDoorT15
import Derived.Deep.Slices
import Derived.Deep.SlicePairs
import Derived.ChangeArms
namespace Go.Dm
open Go Go.RowKit Go.ChangeShapes Go.WideShapes

/-- What an entry reads as. -/
def EntD {H : Type} (r : EntQ) (d : DataW H) : Prop := ∃ d1 d2, d = .agg [.lit (.string r.1.data.toList), d1, d2]
def TreeD {H : Type} (R : List EntQ) (d : DataW H) : Prop := (d = .nil ∧ R = []) ∨ ∃ el sp, d = .slice el sp ∧ el.length = R.length ∧ ∀ i, i < R.length → ∃ e, el[i]? = some e ∧ EntD (eAt R i) e

section
theorem addr_addQ (b off i : Nat) : (⟨b, off, none⟩ : Addr).add i = ⟨b, off + i, none⟩ := by unfold Addr.add; split <;> simp_all
variable {H : Type} {enc : TypeId × Value → H} {P : Program} {W : World}

theorem ent_of_cells {e s v q : TypeId} {fs : Array Field} {fuel : Nat} (he : P.underlying e = some (.struct fs)) (hfs : fs.toList.map (fun f => (f.type, f.offset)) = [(s, 0), (v, 1), (v, 5)])
    (cs : P.cellsOf s = 1) (us : P.underlying s = some .string) (cv : P.cellsOf v = 4) (uv : P.underlying v = some (.array 4 q)) (uq : P.underlying q = some (.int .u64)) (cq : P.cellsOf q = 1)
    {v0 v1 v2 v3 v4 v5 v6 v7 v8 : Value} {x : DataW H × List MemPlace} (hf : DataW.trod enc P W 0 (fun _ => true) true fuel e [v0, v1, v2, v3, v4, v5, v6, v7, v8] = some x) :
    ∃ r : EntQ, (OkV r.2.1 ∧ OkV r.2.2) ∧ [v0, v1, v2, v3, v4, v5, v6, v7, v8] = entOne r ∧ EntD r x.1 := by
  obtain ⟨xs, k, _, hxy, _, hxl, hF⟩ := DataW.trod_struct he hf
  have hn : fs.size = 3 := by have := congrArg List.length hfs; simpa using this
  have at' : ∀ i (f : Field), fs[i]? = some f → [(s, 0), (v, 1), (v, 5)][i]? = some (f.type, f.offset) := fun i f h => by
    rw [← hfs, List.getElem?_map, Array.getElem?_toList, h]; rfl
  have hex : ∀ i, i < 3 → ∃ f, fs[i]? = some f := fun i hi => ⟨_, Array.getElem?_eq_getElem (by omega)⟩
  obtain ⟨f0, h0⟩ := hex 0 (by omega)
  obtain ⟨f1, h1⟩ := hex 1 (by omega)
  obtain ⟨f2, h2⟩ := hex 2 (by omega)
  have t0 := at' 0 f0 h0
  have t1 := at' 1 f1 h1
  have t2 := at' 2 f2 h2
  simp only [List.getElem?_cons_zero, List.getElem?_cons_succ, Option.some.injEq, Prod.mk.injEq] at t0 t1 t2
  match xs, hxl.trans hn with
  | [y0, y1, y2], _ =>
    have g0 := hF 0 f0 h0
    have g1 := hF 1 f1 h1
    have g2 := hF 2 f2 h2
    rw [← t0.1, ← t0.2, cs] at g0
    rw [← t1.1, ← t1.2, cv] at g1
    rw [← t2.1, ← t2.2, cv] at g2
    obtain ⟨z0, p0, q0, _⟩ := DataW.trod_string us (by simpa using g0)
    simp only [List.cons.injEq, and_true] at p0
    obtain ⟨l, hl, a1, a2, a3, a4⟩ := vec_of_cells uv uq cq (v0 := v1) (v1 := v2) (v2 := v3) (v3 := v4) (by simpa using g1)
    obtain ⟨u, hu, b1, b2, b3, b4⟩ := vec_of_cells uv uq cq (v0 := v5) (v1 := v6) (v2 := v7) (v3 := v8) (by simpa using g2)
    refine ⟨(z0, l, u), ⟨hl, hu⟩, by rw [p0, a1, a2, a3, a4, b1, b2, b3, b4]; rfl, y1.1, y2.1, ?_⟩
    have e : x.1 = .agg ([y0, y1, y2].map Prod.fst) := by rw [hxy]
    rw [e, List.map_cons, List.map_cons, List.map_cons, List.map_nil, q0]

/-- A tree that came in. -/
theorem tree_of_trod {t e s v q : TypeId} {fs : Array Field} (ht : P.underlying t = some (.slice e)) (he : P.underlying e = some (.struct fs)) (hfs : fs.toList.map (fun f => (f.type, f.offset)) = [(s, 0), (v, 1), (v, 5)])
    (ce : P.cellsOf e = 9) (cs : P.cellsOf s = 1) (us : P.underlying s = some .string) (cv : P.cellsOf v = 4) (uv : P.underlying v = some (.array 4 q)) (uq : P.underlying q = some (.int .u64)) (cq : P.cellsOf q = 1)
    {a : Option Addr} {len cap : Nat} {d : DataW H} {ps : List MemPlace} (h : DataW.Trod enc P W 0 (fun _ => true) true t (.slice a len cap) d ps) :
    ∃ R : List EntQ, Tree W (.slice a len cap) R ∧ (∀ r ∈ R, OkV r.2.1 ∧ OkV r.2.2) ∧ TreeD R d := by
  obtain ⟨fuel, hf⟩ := h
  rcases Deep.open_slice ht hf with ⟨hcs, hx⟩ | ⟨a', len', cap', m, n, D, Pl, hcs, _, hl, hm, hmm, hx, hall⟩
  · simp [Value.cells] at hcs
    obtain ⟨rfl, rfl, rfl⟩ := hcs
    simp only [Prod.mk.injEq] at hx
    exact ⟨[], Tree.nil W, (fun c hc => by cases hc), Or.inl ⟨hx.1, rfl⟩⟩
  · simp [Value.cells] at hcs
    obtain ⟨rfl, rfl, rfl⟩ := hcs
    simp only [Prod.mk.injEq] at hx
    simp only [if_true] at hmm
    subst hmm
    have hz : ∀ i, i < m → ∃ r : EntQ, (OkV r.2.1 ∧ OkV r.2.2) ∧ EntD r (D i) ∧ ∀ j, j < 9 → W.cell? (a'.add (i * 9 + j)) = (entOne r)[j]? := by
      intro i hi
      obtain ⟨cs', h1, h2⟩ := hall i hi
      rw [ce] at h1
      obtain ⟨_, hlen, hcell⟩ := World.cells?_some h1
      match cs', hlen with
      | [v0, v1, v2, v3, v4, v5, v6, v7, v8], _ =>
        obtain ⟨r, hr, er, dr⟩ := ent_of_cells he hfs cs us cv uv uq cq h2
        refine ⟨r, hr, dr, fun j hj => ?_⟩
        have := hcell j (by omega)
        rw [Deep.add_add] at this
        rw [this, er]
    obtain ⟨F, hF⟩ := @Deep.choose_lt EntQ ⟨noEnt⟩ _ _ hz
    have hlen : ((List.range len).map F).length = len := by simp
    have hat : ∀ i, i < len → eAt ((List.range len).map F) i = F i := fun i hi => by simp [eAt, hi]
    refine ⟨(List.range len).map F, ?_, fun c hc => ?_, Or.inr ⟨_, _, hx.1, by simp, ?_⟩⟩
    · refine ⟨by rw [entCellsQ_len], some a', m, by rw [hlen], by omega, hm, by simp, ?_⟩
      by_cases h0 : len = 0
      · exact Or.inl (by simp [h0])
      · right
        obtain ⟨b, off, spot⟩ := a'
        have hs := World.cell?_spot (((hF 0 (by omega)).2.2 0 (by omega)).trans rfl)
        have hspot : spot = none := by simpa [Addr.add] using hs
        subst hspot
        have hb := World.block_lt_of_cell? W _ (((hF 0 (by omega)).2.2 0 (by omega)).trans rfl)
        refine ⟨b, off, rfl, by simpa [Addr.add] using hb, fun j u hj => ?_⟩
        have hjl : j < len * 9 := by
          have := (List.getElem?_eq_some_iff.1 hj).1
          rw [entCellsQ_len, hlen] at this
          exact this
        obtain ⟨k, i, hi, rfl⟩ : ∃ k i, i < 9 ∧ j = k * 9 + i := ⟨j / 9, j % 9, by omega, by omega⟩
        have hkl : k < len := by omega
        have ha := entCellsQ_at ((List.range len).map F) k (by rw [hlen]; exact hkl) i hi
        rw [hat k hkl] at ha
        have hc := (hF k (by omega)).2.2 i hi
        rw [← addr_addQ, hc, ← ha, hj]
    · obtain ⟨i, hi, rfl⟩ := List.mem_map.1 hc
      exact (hF i (by have := List.mem_range.1 hi; omega)).1
    · intro i hi
      rw [hlen] at hi
      refine ⟨D i, by simp [hi], ?_⟩
      rw [hat i hi]
      exact (hF i (by omega)).2.1
end

theorem putV_short {a : Vc} (h : OkV a) : (putV a).length ≤ 40 := by
  rw [← putVF_four]
  exact putVF_len h 4
theorem putE_short {e : EntQ} (h : FitE e) : (putE e).length ≤ 1048666 := by
  have h1 := putV_short h.2.1
  have h2 := putV_short h.2.2
  have h3 := putL_ten (u := e.1.data.toList.length) (show e.1.size < _ by have := h.1; omega)
  have h4 : e.1.data.toList.length = e.1.size := rfl
  have h5 := h.1
  unfold putE putT
  simp only [List.length_append]
  omega
theorem putEs_short : ∀ {R : List EntQ}, (∀ e ∈ R, FitE e) → (R.flatMap putE).length ≤ R.length * 1048666
  | [], _ => by simp
  | x :: xs, h => by
    have h1 := putE_short (h x (by simp))
    have h2 := putEs_short (R := xs) fun e he => h e (by simp [he])
    rw [List.flatMap_cons, List.length_append, List.length_cons]
    omega
theorem putQ_short {R : List EntQ} (h : FitT R) (hl : R.length ≤ 524288) : (putQ R).length ≤ 1099511627776 := by
  have h1 := putEs_short (fitT_iff.1 h)
  have h2 := putL_ten (u := R.length) (show R.length < _ by omega)
  unfold putQ
  rw [List.length_append]
  omega
end Go.Dm
