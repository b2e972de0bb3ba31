/- Texts one behind the other: Amounts that are charged, by bytes, among the arguments. -/
import Derived.Test.YtopnllbfhhjobaaDoorT18
import Derived.Test.YtopnllbfhhjobaaDoorT25
import Derived.Test.YtopnllbfhhjobaaDoorT26
import Derived.Deep.Slices
import Derived.Deep.SlicePairs
import Derived.ChangeArms
import Derived.Lib.SmallJoins
namespace Go.Dm
open Go Go.RowKit Go.ChangeShapes Go.WideShapes
section
variable {H : Type} {enc : TypeId × Value → H} {P : Program} {W : World}

theorem u8_of {q : TypeId} {fuel : Nat} (hq : P.underlying q = some (.int .u8)) {v : Value} {y : DataW H × List MemPlace} (h : DataW.trod enc P W 0 (fun _ => true) true fuel q [v] = some y) : ∃ n : Nat, v = .int .u8 (n : Nat) ∧ n < 256 := by
  obtain ⟨z, e0, _, w0⟩ := DataW.trod_int hq h
  simp only [List.cons.injEq, and_true] at e0
  simp [Lit.wf, IntKind.min, IntKind.max, IntKind.signed, IntKind.bits] at w0
  exact ⟨z.toNat, by rw [e0, Int.toNat_of_nonneg (by omega)], by omega⟩
theorem ch_fields {fs : Array Field} {q b : TypeId} (hm : fs.toList.map (fun f => (f.type, f.offset)) = [(q, 0), (q, 1), (q, 2), (q, 3), (q, 4), (b, 5)]) (hq : P.underlying q = some (.int .u8)) (hb : P.underlying b = some .bool) (cq : P.cellsOf q = 1) (cb : P.cellsOf b = 1) :
    fs.size = 6 ∧ (∀ i (f : Field), fs[i]? = some f → f.offset = i ∧ P.cellsOf f.type = 1) ∧ (∀ i (f : Field), i < 5 → fs[i]? = some f → P.underlying f.type = some (.int .u8)) ∧ (∀ (f : Field), fs[5]? = some f → P.underlying f.type = some .bool) := by
  have hn : fs.size = 6 := by have := congrArg List.length hm; simpa using this
  have at' : ∀ i (f : Field), fs[i]? = some f → [(q, 0), (q, 1), (q, 2), (q, 3), (q, 4), (b, 5)][i]? = some (f.type, f.offset) := fun i f h => by
    rw [← hm, List.getElem?_map, Array.getElem?_toList, h]; rfl
  refine ⟨hn, fun i f h => ?_, fun i f hi h => ?_, fun f h => ?_⟩
  · have := at' i f h
    match i, this with
    | 0, e => simp at e; rw [← e.1, ← e.2]; exact ⟨rfl, cq⟩
    | 1, e => simp at e; rw [← e.1, ← e.2]; exact ⟨rfl, cq⟩
    | 2, e => simp at e; rw [← e.1, ← e.2]; exact ⟨rfl, cq⟩
    | 3, e => simp at e; rw [← e.1, ← e.2]; exact ⟨rfl, cq⟩
    | 4, e => simp at e; rw [← e.1, ← e.2]; exact ⟨rfl, cq⟩
    | 5, e => simp at e; rw [← e.1, ← e.2]; exact ⟨rfl, cb⟩
    | i + 6, e => simp at e
  · have := at' i f h
    match i, hi, this with
    | 0, _, e => simp at e; rw [← e.1]; exact hq
    | 1, _, e => simp at e; rw [← e.1]; exact hq
    | 2, _, e => simp at e; rw [← e.1]; exact hq
    | 3, _, e => simp at e; rw [← e.1]; exact hq
    | 4, _, e => simp at e; rw [← e.1]; exact hq
  · have e := at' 5 f h
    simp at e; rw [← e.1]; exact hb
/-- Six cells that came in. -/
theorem ch_of_cells {e : TypeId} {fs : Array Field} {fuel : Nat} (he : P.underlying e = some (.struct fs)) (hn : fs.size = 6) (ho : ∀ i (f : Field), fs[i]? = some f → f.offset = i ∧ P.cellsOf f.type = 1)
    (hu : ∀ i (f : Field), i < 5 → fs[i]? = some f → P.underlying f.type = some (.int .u8)) (hb : ∀ (f : Field), fs[5]? = some f → P.underlying f.type = some .bool)
    {v0 v1 v2 v3 v4 v5 : Value} {x : DataW H × List MemPlace} (hf : DataW.trod enc P W 0 (fun _ => true) true fuel e [v0, v1, v2, v3, v4, v5] = some x) :
    ∃ c : ChQ, OkC c ∧ [v0, v1, v2, v3, v4, v5] = chOne c := by
  obtain ⟨xs, k, _, _, _, hxl, hfs⟩ := DataW.trod_struct he hf
  have hx6 : xs.length = 6 := by rw [hxl]; simpa using hn
  have hex : ∀ i, i < 6 → ∃ f, fs[i]? = some f := fun i hi => ⟨_, Array.getElem?_eq_getElem (by omega)⟩
  have one : ∀ i (h : i < 5) (u : Value), ([v0, v1, v2, v3, v4, v5] : List Value)[i]? = some u → ∃ n : Nat, u = .int .u8 (n : Nat) ∧ n < 256 := by
    intro i hi u hv
    obtain ⟨f, hfi⟩ := hex i (by omega)
    have s := hfs i f hfi
    obtain ⟨o, c1⟩ := ho i f hfi
    rw [o, c1] at s
    have e1 : (([v0, v1, v2, v3, v4, v5] : List Value).drop i).take 1 = [u] := by
      match i, hi, hv with
      | 0, _, h => simpa using h
      | 1, _, h => simpa using h
      | 2, _, h => simpa using h
      | 3, _, h => simpa using h
      | 4, _, h => simpa using h
    rw [e1] at s
    obtain ⟨y, hy⟩ : ∃ y, DataW.trod enc P W 0 (fun _ => true) true k f.type [u] = some y := ⟨_, s.trans (List.getElem?_eq_getElem (by omega))⟩
    exact u8_of (hu i f hi hfi) hy
  obtain ⟨n0, rfl, h0⟩ := one 0 (by omega) _ rfl
  obtain ⟨n1, rfl, h1⟩ := one 1 (by omega) _ rfl
  obtain ⟨n2, rfl, h2⟩ := one 2 (by omega) _ rfl
  obtain ⟨n3, rfl, h3⟩ := one 3 (by omega) _ rfl
  obtain ⟨n4, rfl, h4⟩ := one 4 (by omega) _ rfl
  obtain ⟨f, hfi⟩ := hex 5 (by omega)
  have s := hfs 5 f hfi
  obtain ⟨o, c1⟩ := ho 5 f hfi
  rw [o, c1] at s
  obtain ⟨b, e5, _⟩ := DataW.trod_bool (hb f hfi) (s.trans (List.getElem?_eq_getElem (by omega)))
  simp at e5
  subst e5
  exact ⟨((n0, n1, n2, n3, n4), b), ⟨h0, h1, h2, h3, h4⟩, rfl⟩

/-- A slice of these that came in. -/
theorem chs_of_trod {t e : TypeId} {fs : Array Field} (ht : P.underlying t = some (.slice e)) (he : P.underlying e = some (.struct fs)) (ce : P.cellsOf e = 6) (hn : fs.size = 6) (ho : ∀ i (f : Field), fs[i]? = some f → f.offset = i ∧ P.cellsOf f.type = 1)
    (hu : ∀ i (f : Field), i < 5 → fs[i]? = some f → P.underlying f.type = some (.int .u8)) (hb : ∀ (f : Field), fs[5]? = some f → P.underlying f.type = some .bool)
    {a : Option Addr} {len cap : Nat} {d : DataW H} {ps : List MemPlace} (h : DataW.Trod enc P W 0 (fun _ => true) true t (.slice a len cap) d ps) :
    ∃ xs : List ChQ, Chs W (.slice a len cap) xs ∧ ∀ c ∈ xs, OkC c := by
  obtain ⟨fuel, hf⟩ := h
  rcases Deep.open_slice ht hf with ⟨hcs, _⟩ | ⟨a', len', cap', m, n, D, Pl, hcs, _, hl, hm, hmm, _, hall⟩
  · simp [Value.cells] at hcs
    obtain ⟨rfl, rfl, rfl⟩ := hcs
    exact ⟨[], Sl.nil W 6, fun c hc => by cases hc⟩
  · simp [Value.cells] at hcs
    obtain ⟨rfl, rfl, rfl⟩ := hcs
    simp only [if_true] at hmm
    subst hmm
    have hz : ∀ i, i < m → ∃ c : ChQ, OkC c ∧ ∀ j, j < 6 → W.cell? (a'.add (i * 6 + j)) = (chOne c)[j]? := by
      intro i hi
      obtain ⟨cs', h1, h2⟩ := hall i hi
      rw [ce] at h1
      obtain ⟨_, hlen, hcell⟩ := World.cells?_some h1
      match cs', hlen with
      | [v0, v1, v2, v3, v4, v5], _ =>
        obtain ⟨c, hc, e⟩ := ch_of_cells he hn ho hu hb h2
        refine ⟨c, hc, fun j hj => ?_⟩
        have := hcell j (by omega)
        rw [Deep.add_add] at this
        rw [this, e]
    obtain ⟨F, hF⟩ := @Deep.choose_lt ChQ ⟨noCh⟩ _ _ hz
    have hlen : ((List.range len).map F).length = len := by simp
    have hat : ∀ i, i < len → chAt ((List.range len).map F) i = F i := fun i hi => by simp [chAt, hi]
    refine ⟨(List.range len).map F, ?_, fun c hc => ?_⟩
    · refine ⟨by rw [chCells_len], some a', m, by rw [hlen], by omega, hm, by simp, ?_⟩
      by_cases h0 : len = 0
      · exact Or.inl (by simp [h0])
      · right
        obtain ⟨b, off, spot⟩ := a'
        have hs := World.cell?_spot (((hF 0 (by omega)).2 0 (by omega)).trans rfl)
        have hspot : spot = none := by simpa [Addr.add] using hs
        subst hspot
        have hb := World.block_lt_of_cell? W _ (((hF 0 (by omega)).2 0 (by omega)).trans rfl)
        refine ⟨b, off, rfl, by simpa [Addr.add] using hb, fun j u hj => ?_⟩
        have hjl : j < len * 6 := by
          have := (List.getElem?_eq_some_iff.1 hj).1
          rw [chCells_len, hlen] at this
          exact this
        obtain ⟨k, i, hi, rfl⟩ : ∃ k i, i < 6 ∧ j = k * 6 + i := ⟨j / 6, j % 6, by omega, by omega⟩
        have hkl : k < len := by omega
        have ha := chCells_at ((List.range len).map F) k (by rw [hlen]; exact hkl) i hi
        rw [hat k hkl] at ha
        have hc := (hF k (by omega)).2 i hi
        have e0 : (⟨b, off, none⟩ : Addr).add (k * 6 + i) = ⟨b, off + (k * 6 + i), none⟩ := by unfold Addr.add; split <;> simp_all
        rw [← e0, hc, ← ha, hj]
    · obtain ⟨i, hi, rfl⟩ := List.mem_map.1 hc
      exact (hF i (by have := List.mem_range.1 hi; omega)).1

/-- One among the arguments. -/
theorem open_ch {e : TypeId} {fs : Array Field} {r : Reach} {b0 : Nat} {v : Value} {d : DataW H} {p : List MemPlace} (he : P.underlying e = some (.struct fs)) (ce : P.cellsOf e = 6) (hn : fs.size = 6) (ho : ∀ i (f : Field), fs[i]? = some f → f.offset = i ∧ P.cellsOf f.type = 1)
    (hu : ∀ i (f : Field), i < 5 → fs[i]? = some f → P.underlying f.type = some (.int .u8)) (hb : ∀ (f : Field), fs[5]? = some f → P.underlying f.type = some .bool)
    (hv : Value.okWide P W r b0 e v) (h : DataW.Trod enc P W 0 (fun _ => true) true e v d p) : ∃ c : ChQ, OkC c ∧ v = chVal c := by
  obtain ⟨cs, rfl, hsz⟩ := okWide_struct he hv
  rw [ce] at hsz
  obtain ⟨fuel, hf⟩ := h
  match cs, hsz with
  | ⟨[v0, v1, v2, v3, v4, v5]⟩, _ =>
    obtain ⟨c, hc, e⟩ := ch_of_cells he hn ho hu hb (by simpa [Value.cells] using hf)
    exact ⟨c, hc, by unfold chVal; rw [e]; rfl⟩
end
end Go.Dm
