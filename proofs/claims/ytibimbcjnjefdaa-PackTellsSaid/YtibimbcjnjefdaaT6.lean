/- Texts one behind the other: Selectors and slices of texts among the arguments; Amounts, slots among the arguments. -/
import Derived.Test.YtibimbcjnjefdaaT3
import Derived.Test.YtibimbcjnjefdaaT8
namespace Go.Dm
open Go Go.RowKit Go.ChangeShapes Go.WideShapes

/-- What these texts read as. -/
def StrsD {H : Type} (xs : List ByteArray) (d : DataW H) : Prop := (d = .nil ∧ xs = []) ∨ ∃ sp, d = .slice (xs.map fun x => .lit (.string x.data.toList)) sp
/-- What a term reads as. -/
def TermD {H : Type} (t : TermS) (d : DataW H) : Prop := ∃ dv, d = .agg [.lit (.string t.1.data.toList), .lit (.bool t.2.1), dv] ∧ StrsD t.2.2 dv
def TermsD {H : Type} (R : List RowS) (d : DataW H) : Prop := (d = .nil ∧ R = []) ∨ ∃ el sp, d = .slice el sp ∧ el.length = R.length ∧ ∀ i, i < R.length → ∃ e, el[i]? = some e ∧ TermD (rowT (sAtR R i)) e

section
variable {H : Type} {enc : TypeId × Value → H} {P : Program} {W : World}

theorem addr_add (b off i : Nat) : (⟨b, off, none⟩ : Addr).add i = ⟨b, off + i, none⟩ := by unfold Addr.add; split <;> simp_all

/-- A slice of texts that came in. -/
theorem strs_of_cells {t e : TypeId} {fuel : Nat} (ht : P.underlying t = some (.slice e)) (he : P.underlying e = some .string) (ce : P.cellsOf e = 1)
    {v : Value} {d : DataW H} {ps : List MemPlace} (hf : DataW.trod enc P W 0 (fun _ => true) true fuel t [v] = some (d, ps)) : ∃ xs : List ByteArray, Strs W v xs ∧ StrsD xs d := by
  rcases Deep.open_slice1 ht ce hf with ⟨hcs, hx⟩ | ⟨a', len, cap, m, n, V, D, Pl, hcs, _, hl, hm, hmm, hx, hall⟩
  · simp only [List.cons.injEq, and_true] at hcs
    subst hcs
    simp only [Prod.mk.injEq] at hx
    exact ⟨[], Strs.nil W, Or.inl ⟨hx.1, rfl⟩⟩
  · simp only [List.cons.injEq, and_true] at hcs
    subst hcs
    simp only [Prod.mk.injEq] at hx
    simp only [if_true] at hmm
    subst hmm
    have hz : ∀ i, i < m → ∃ z : ByteArray, W.cell? (a'.add i) = some (.string z) ∧ D i = .lit (.string z.data.toList) := by
      intro i hi
      obtain ⟨g0, g1⟩ := hall i hi
      obtain ⟨z, e0, q0, _⟩ := DataW.trod_string he g1
      simp only [List.cons.injEq, and_true] at e0
      simp only [Prod.mk.injEq] at q0
      exact ⟨z, by rw [g0, e0], q0.1⟩
    obtain ⟨F, hF⟩ := Deep.choose_lt (α := ByteArray) (by intro i hi; exact hz i hi)
    have hlen : ((List.range len).map F).length = len := by simp
    refine ⟨(List.range len).map F, ?_, Or.inr ⟨(List.range (m - len)).map fun j => D (len + j), hx.1.trans ?_⟩⟩
    · refine ⟨by simp, some a', m, by rw [hlen], by omega, hm, by simp, ?_⟩
      by_cases h0 : len = 0
      · exact Or.inl (by simp [h0])
      · right
        obtain ⟨b, off, spot⟩ := a'
        have hs := World.cell?_spot (hF 0 (by omega)).1
        have hspot : spot = none := by simpa [Addr.add] using hs
        subst hspot
        have hb := World.block_lt_of_cell? W _ (hF 0 (by omega)).1
        refine ⟨b, off, rfl, by simpa [Addr.add] using hb, fun j u hj => ?_⟩
        have hjl : j < len := by
          have := (List.getElem?_eq_some_iff.1 hj).1
          simpa using this
        have hc := (hF j (by omega)).1
        rw [← addr_add, hc, ← hj]
        simp [hjl]
    · rw [List.map_map]
      congr 1
      exact List.map_congr_left fun i hi => (hF i (by have := List.mem_range.1 hi; omega)).2

/-- A selector that came in. -/
theorem terms_of_trod {t e : TypeId} {f0 f1 f2 : Field} {q : TypeId} (ht : P.underlying t = some (.slice e)) (he : P.underlying e = some (.struct #[f0, f1, f2]))
    (ce : P.cellsOf e = 3) (o0 : f0.offset = 0) (o1 : f1.offset = 1) (o2 : f2.offset = 2) (c0 : P.cellsOf f0.type = 1) (c1 : P.cellsOf f1.type = 1) (c2 : P.cellsOf f2.type = 1)
    (u0 : P.underlying f0.type = some .string) (u1 : P.underlying f1.type = some .bool) (u2 : P.underlying f2.type = some (.slice q)) (uq : P.underlying q = some .string) (cq : P.cellsOf q = 1)
    {a : Option Addr} {len cap : Nat} {d : DataW H} {ps : List MemPlace} (h : DataW.Trod enc P W 0 (fun _ => true) true t (.slice a len cap) d ps) :
    ∃ R : List RowS, Terms W (.slice a len cap) R ∧ TermsD R d := by
  obtain ⟨fuel, hf⟩ := h
  rcases Deep.open_slice ht hf with ⟨hcs, hx⟩ | ⟨a', len', cap', m, n, D, Pl, hcs, _, hl, hm, hmm, hx, hall⟩
  · simp [Value.cells] at hcs
    obtain ⟨rfl, rfl, rfl⟩ := hcs
    simp only [Prod.mk.injEq] at hx
    exact ⟨[], Terms.nil W, Or.inl ⟨hx.1, rfl⟩⟩
  · simp [Value.cells] at hcs
    obtain ⟨rfl, rfl, rfl⟩ := hcs
    simp only [Prod.mk.injEq] at hx
    simp only [if_true] at hmm
    subst hmm
    have hz : ∀ i, i < m → ∃ r : RowS, W.cell? (a'.add (i * 3)) = some (.string r.1) ∧ W.cell? (a'.add (i * 3 + 1)) = some (.bool r.2.1) ∧ W.cell? (a'.add (i * 3 + 2)) = some r.2.2.1 ∧ Strs W r.2.2.1 r.2.2.2 ∧ TermD (rowT r) (D i) := by
      intro i hi
      obtain ⟨cs', h1, h2⟩ := hall i hi
      rw [ce] at h1
      obtain ⟨_, hlen, hcell⟩ := World.cells?_some h1
      obtain ⟨xs, k, _, hxy, _, hxl, hfs⟩ := DataW.trod_struct he h2
      match xs, hxl, cs', hlen with
      | [y0, y1, y2], _, [v0, v1, v2], _ =>
        have g0 := hfs 0 f0 rfl
        have g1 := hfs 1 f1 rfl
        have g2 := hfs 2 f2 rfl
        simp [o0, o1, o2, c0, c1, c2] at g0 g1 g2
        have e0 := hcell 0 (by omega)
        have e1 := hcell 1 (by omega)
        have e2 := hcell 2 (by omega)
        rw [Deep.add_add] at e0 e1 e2
        simp only [Prod.mk.injEq] at hxy
        obtain ⟨z0, p0, q0, _⟩ := DataW.trod_string u0 g0
        obtain ⟨z1, p1, q1⟩ := DataW.trod_bool u1 g1
        obtain ⟨d2, s2⟩ := y2
        obtain ⟨z2, p2, q2⟩ := strs_of_cells u2 uq cq g2
        simp only [List.cons.injEq, and_true] at p0 p1
        subst p0 p1
        refine ⟨(z0, z1, v2, z2), by simpa using e0, by simpa using e1, by simpa using e2, p2, d2, ?_, q2⟩
        rw [hxy.1, q0, q1]; rfl
    obtain ⟨F, hF⟩ := @Deep.choose_lt RowS ⟨noRow⟩ _ _ hz
    have hlen : ((List.range len).map F).length = len := by simp
    have hat : ∀ i, i < len → sAtR ((List.range len).map F) i = F i := fun i hi => by simp [sAtR, hi]
    refine ⟨(List.range len).map F, ⟨?_, ?_⟩, Or.inr ⟨_, _, hx.1, by simp, ?_⟩⟩
    · refine ⟨by rw [rowCells_len], some a', m, by rw [hlen], by omega, hm, by simp, ?_⟩
      by_cases h0 : len = 0
      · exact Or.inl (by simp [h0])
      · right
        obtain ⟨b, off, spot⟩ := a'
        have hs := World.cell?_spot (hF 0 (by omega)).1
        have hspot : spot = none := by simpa [Addr.add] using hs
        subst hspot
        have hb := World.block_lt_of_cell? W _ (hF 0 (by omega)).1
        refine ⟨b, off, rfl, by simpa [Addr.add] using hb, fun j u hj => ?_⟩
        have hjl : j < len * 3 := by
          have := (List.getElem?_eq_some_iff.1 hj).1
          rw [rowCells_len, hlen] at this
          exact this
        obtain ⟨k, hk⟩ : ∃ k, j = k * 3 ∨ j = k * 3 + 1 ∨ j = k * 3 + 2 := ⟨j / 3, by omega⟩
        have hkl : k < len := by omega
        have ha := rowCells_at ((List.range len).map F) k (by rw [hlen]; exact hkl)
        rw [hat k hkl] at ha
        have hc := hF k (by omega)
        rw [← addr_add]
        rcases hk with rfl | rfl | rfl
        · rw [hc.1, ← ha.1, hj]
        · rw [hc.2.1, ← ha.2.1, hj]
        · rw [hc.2.2.1, ← ha.2.2, hj]
    · intro r hr
      obtain ⟨i, hi, rfl⟩ := List.mem_map.1 hr
      exact (hF i (by have := List.mem_range.1 hi; omega)).2.2.2.1
    · intro i hi
      rw [hlen] at hi
      refine ⟨D i, by simp [hi], ?_⟩
      rw [hat i hi]
      exact (hF i (by omega)).2.2.2.2

theorem weightsAll_at {e : TypeId} : ∀ {l : List (DataW H)} {i : Nat} {d : DataW H}, l[i]? = some d → ∀ n ∈ d.weights P e, n ∈ DataW.weightsAll P e l
  | x :: l, 0, d, hd, n, hn => by
    simp only [List.getElem?_cons_zero, Option.some.injEq] at hd
    subst hd
    simp only [DataW.weightsAll, List.mem_append]
    exact Or.inl hn
  | x :: l, i + 1, d, hd, n, hn => by
    simp only [List.getElem?_cons_succ] at hd
    simp only [DataW.weightsAll, List.mem_append]
    exact Or.inr (weightsAll_at hd n hn)

/-- The reach of a run, of the texts in a slice. -/
theorem strs_fit {t q : TypeId} {xs : List ByteArray} {d : DataW H} (u : P.underlying t = some (.slice q)) (b : P.bytesOf q = 16) (hd : StrsD xs d) (hw : ∀ n ∈ d.weights P t, n ≤ reachBytes) : xs.length ≤ 35184372088832 ∧ ∀ x ∈ xs, x.size ≤ 140737488351232 := by
  rcases hd with ⟨_, rfl⟩ | ⟨sp, rfl⟩
  · simp
  · simp only [DataW.weights, u, List.mem_cons, List.mem_append, b] at hw
    constructor
    · have := hw _ (Or.inl rfl)
      rw [List.length_map] at this
      simp only [reachBytes] at this
      omega
    · intro x hx
      have h1 : (x.data.toList.length : Nat) ∈ DataW.weightsAll P q (xs.map fun x => (.lit (.string x.data.toList) : DataW H)) :=
        weightsAll_mem' (List.mem_map_of_mem (f := fun x : ByteArray => (.lit (.string x.data.toList) : DataW H)) hx) _ (by simp [DataW.weights])
      have := hw _ (Or.inr (Or.inl h1))
      rw [size_len]
      simp only [reachBytes] at this
      omega

/-- The reach of a run, of a selector. -/
theorem terms_fit {t e q : TypeId} {f0 f1 f2 : Field} {R : List RowS} {d : DataW H} (ut : P.underlying t = some (.slice e)) (he : P.underlying e = some (.struct #[f0, f1, f2])) (u2 : P.underlying f2.type = some (.slice q)) (b : P.bytesOf q = 16)
    (hd : TermsD R d) (hw : ∀ n ∈ d.weights P t, n ≤ reachBytes) : R.length * P.bytesOf e ≤ reachBytes ∧ ∀ r ∈ R, FitT (rowT r) := by
  rcases hd with ⟨_, rfl⟩ | ⟨el, sp, rfl, hl, hi⟩
  · simp
  · simp only [DataW.weights, ut, List.mem_cons, List.mem_append] at hw
    constructor
    · have := hw _ (Or.inl rfl)
      rw [hl] at this
      refine Nat.le_trans (Nat.mul_le_mul_right _ ?_) this
      omega
    · intro r hr
      obtain ⟨i, h, rfl⟩ := List.getElem_of_mem hr
      obtain ⟨x, hx, dv, hxe, hs⟩ := hi i h
      rw [show sAtR R i = R[i] by simp [sAtR, h]] at hxe hs
      have hw2 : ∀ n ∈ x.weights P e, n ≤ reachBytes := fun n hn => hw _ (Or.inr (Or.inl (weightsAll_at hx n hn)))
      subst hxe
      simp only [DataW.weights, he, List.map_cons, List.map_nil, DataW.weightsEach, List.mem_append] at hw2
      have h3 := strs_fit u2 b hs (fun n hn => hw2 n (by simp [hn]))
      have h1 := hw2 (rowT R[i]).1.data.toList.length (by simp)
      refine ⟨?_, h3.1, h3.2⟩
      rw [size_len]
      simp only [reachBytes] at h1
      omega
end
end Go.Dm

namespace Go.Dm
open Go Go.RowKit Go.ChangeShapes Go.WideShapes

def LabsD {H : Type} (l : List PairS) (d : DataW H) : Prop := (d = .nil ∧ l = []) ∨ ∃ sp, d = .slice (l.map pairD) sp
def SlotD {H : Type} (r : SlotR) (d : DataW H) : Prop := ∃ a b dl, d = .agg [a, b, dl] ∧ LabsD r.2.2.2 dl
def SlotsD {H : Type} (R : List SlotR) (d : DataW H) : Prop := (d = .nil ∧ R = []) ∨ ∃ el sp, d = .slice el sp ∧ el.length = R.length ∧ ∀ i, i < R.length → ∃ e, el[i]? = some e ∧ SlotD (slAt R i) e

section
variable {H : Type} {enc : TypeId × Value → H} {P : Program} {W : World}

/-- An amount that came in. -/
theorem vec_of_cells {t q : TypeId} {fuel : Nat} (ht : P.underlying t = some (.array 4 q)) (hq : P.underlying q = some (.int .u64)) (cq : P.cellsOf q = 1)
    {v0 v1 v2 v3 : Value} {x : DataW H × List MemPlace} (hf : DataW.trod enc P W 0 (fun _ => true) true fuel t [v0, v1, v2, v3] = some x) : ∃ a : Vc, OkV a ∧ v0 = vAt a 0 ∧ v1 = vAt a 1 ∧ v2 = vAt a 2 ∧ v3 = vAt a 3 := by
  obtain ⟨xs, m, _, _, _, hl, hel⟩ := DataW.trod_array ht hf
  have one : ∀ i (h : i < 4) (u : Value), ([v0, v1, v2, v3] : List Value)[i]? = some u → ∃ n : Nat, u = .int .u64 (n : Nat) ∧ U64 n := by
    intro i hi u hu
    have hE := hel i hi
    rw [cq, List.getElem?_eq_getElem (by omega)] at hE
    obtain ⟨z, e0, _, w0⟩ := DataW.trod_int hq hE
    have : (([v0, v1, v2, v3] : List Value).drop (i * 1)).take 1 = [u] := by
      match i, hi, hu with
      | 0, _, h => simpa using h
      | 1, _, h => simpa using h
      | 2, _, h => simpa using h
      | 3, _, h => simpa using h
    rw [this] at e0
    simp only [List.cons.injEq, and_true] at e0
    simp [Lit.wf, IntKind.min, IntKind.max, IntKind.signed, IntKind.bits] at w0
    refine ⟨z.toNat, by rw [e0, Int.toNat_of_nonneg (by omega)], by unfold U64; omega⟩
  obtain ⟨a, rfl, ha⟩ := one 0 (by omega) _ rfl
  obtain ⟨b, rfl, hb⟩ := one 1 (by omega) _ rfl
  obtain ⟨c, rfl, hc⟩ := one 2 (by omega) _ rfl
  obtain ⟨d, rfl, hd⟩ := one 3 (by omega) _ rfl
  exact ⟨[a, b, c, d], okV_mk ha hb hc hd, rfl, rfl, rfl, rfl⟩

/-- An amount among the arguments. -/
theorem open_vec {t q : TypeId} {r : Reach} {b0 : Nat} {v : Value} {d : DataW H} {p : List MemPlace} (ht : P.underlying t = some (.array 4 q)) (hq : P.underlying q = some (.int .u64)) (cq : P.cellsOf q = 1) (ct : P.cellsOf t = 4)
    (hv : Value.okWide P W r b0 t v) (h : DataW.Trod enc P W 0 (fun _ => true) true t v d p) : ∃ a : Vc, OkV a ∧ v = vVal a := by
  simp only [Value.okWide, ht] at hv
  obtain ⟨cs, rfl, hsz, _⟩ := hv
  rw [ct] at hsz
  obtain ⟨fuel, hf⟩ := h
  match cs, hsz with
  | ⟨[v0, v1, v2, v3]⟩, _ =>
    obtain ⟨a, ha, rfl, rfl, rfl, rfl⟩ := vec_of_cells ht hq cq (by simpa [Value.cells] using hf)
    exact ⟨a, ha, rfl⟩

/-- Slots that came in. -/
theorem slots_of_trod {t e : TypeId} {f0 f1 f2 g0 g1 : Field} {q p : TypeId} (ht : P.underlying t = some (.slice e)) (he : P.underlying e = some (.struct #[f0, f1, f2]))
    (ce : P.cellsOf e = 6) (o0 : f0.offset = 0) (o1 : f1.offset = 1) (o2 : f2.offset = 5) (c0 : P.cellsOf f0.type = 1) (c1 : P.cellsOf f1.type = 4) (c2 : P.cellsOf f2.type = 1)
    (u0 : P.underlying f0.type = some .string) (u1 : P.underlying f1.type = some (.array 4 q)) (uq : P.underlying q = some (.int .u64)) (cq : P.cellsOf q = 1)
    (u2 : P.underlying f2.type = some (.slice p)) (up : P.underlying p = some (.struct #[g0, g1])) (cp : P.cellsOf p = 2) (k0 : g0.offset = 0) (k1 : g1.offset = 1) (d0 : P.cellsOf g0.type = 1) (d1 : P.cellsOf g1.type = 1)
    (w0 : P.underlying g0.type = some .string) (w1 : P.underlying g1.type = some .string)
    {a : Option Addr} {len cap : Nat} {d : DataW H} {ps : List MemPlace} (h : DataW.Trod enc P W 0 (fun _ => true) true t (.slice a len cap) d ps) :
    ∃ R : List SlotR, Slots W (.slice a len cap) R ∧ SlotsD R d := by
  obtain ⟨fuel, hf⟩ := h
  rcases Deep.open_slice ht hf with ⟨hcs, hx⟩ | ⟨a', len', cap', m, n, D, Pl, hcs, _, hl, hm, hmm, hx, hall⟩
  · simp [Value.cells] at hcs
    obtain ⟨rfl, rfl, rfl⟩ := hcs
    simp only [Prod.mk.injEq] at hx
    exact ⟨[], Slots.nil W, Or.inl ⟨hx.1, rfl⟩⟩
  · simp [Value.cells] at hcs
    obtain ⟨rfl, rfl, rfl⟩ := hcs
    simp only [Prod.mk.injEq] at hx
    simp only [if_true] at hmm
    subst hmm
    have hz : ∀ i, i < m → ∃ r : SlotR, (∀ j, j < 6 → W.cell? (a'.add (i * 6 + j)) = (slotOne r)[j]?) ∧ Pairs W r.2.2.1 r.2.2.2 ∧ OkV r.2.1 ∧ SlotD r (D i) := by
      intro i hi
      obtain ⟨cs', h1, h2⟩ := hall i hi
      rw [ce] at h1
      obtain ⟨_, hlen, hcell⟩ := World.cells?_some h1
      obtain ⟨xs, k, _, hxy, _, hxl, hfs⟩ := DataW.trod_struct he h2
      match xs, hxl, cs', hlen with
      | [y0, y1, y2], _, [v0, v1, v2, v3, v4, v5], _ =>
        have s0 := hfs 0 f0 rfl
        have s1 := hfs 1 f1 rfl
        have s2 := hfs 2 f2 rfl
        simp [o0, o1, o2, c0, c1, c2] at s0 s1 s2
        simp only [Prod.mk.injEq] at hxy
        obtain ⟨z0, p0, q0, _⟩ := DataW.trod_string u0 s0
        obtain ⟨z1, hz1, r1, r2, r3, r4⟩ := vec_of_cells u1 uq cq s1
        simp only [List.cons.injEq, and_true] at p0
        have hsl : ∃ a len cap, v5 = .slice a len cap := by
          rcases DataW.trod_slice u2 s2 with ⟨hc, _⟩ | ⟨a, len, cap, _, _, _, _, hc, _⟩
          · exact ⟨_, _, _, by simpa using hc⟩
          · exact ⟨_, _, _, by simpa using hc⟩
        obtain ⟨a5, l5, c5, rfl⟩ := hsl
        obtain ⟨z2, p2, q2⟩ := pairs_of_trod2 (d := y2.1) (ps := y2.2) u2 up cp k0 k1 d0 d1 w0 w1 ⟨k, by simpa [Value.cells] using s2⟩
        subst p0 r1 r2 r3 r4
        refine ⟨(z0, z1, .slice a5 l5 c5, z2), ?_, p2, hz1, y0.1, y1.1, y2.1, by rw [hxy.1]; rfl, q2⟩
        intro j hj
        have := hcell j (by omega)
        rw [Deep.add_add] at this
        rw [this]
        match j, hj with
        | 0, _ => rfl
        | 1, _ => rfl
        | 2, _ => rfl
        | 3, _ => rfl
        | 4, _ => rfl
        | 5, _ => rfl
    obtain ⟨F, hF⟩ := @Deep.choose_lt SlotR ⟨noSlot⟩ _ _ hz
    have hlen : ((List.range len).map F).length = len := by simp
    have hat : ∀ i, i < len → slAt ((List.range len).map F) i = F i := fun i hi => by simp [slAt, hi]
    refine ⟨(List.range len).map F, ⟨?_, ?_, ?_⟩, Or.inr ⟨_, _, hx.1, by simp, ?_⟩⟩
    · refine ⟨by rw [slotCells_len], some a', m, by rw [hlen], by omega, hm, by simp, ?_⟩
      by_cases h0 : len = 0
      · exact Or.inl (by simp [h0])
      · right
        obtain ⟨b, off, spot⟩ := a'
        have hs := World.cell?_spot ((hF 0 (by omega)).1 0 (by omega))
        have hspot : spot = none := by simpa [Addr.add] using hs
        subst hspot
        have hb := World.block_lt_of_cell? W _ ((hF 0 (by omega)).1 0 (by omega))
        refine ⟨b, off, rfl, by simpa [Addr.add] using hb, fun j u hj => ?_⟩
        have hjl : j < len * 6 := by
          have := (List.getElem?_eq_some_iff.1 hj).1
          rw [slotCells_len, hlen] at this
          exact this
        obtain ⟨k, i, hi, rfl⟩ : ∃ k i, i < 6 ∧ j = k * 6 + i := ⟨j / 6, j % 6, by omega, by omega⟩
        have hkl : k < len := by omega
        have ha := slotCells_at ((List.range len).map F) k (by rw [hlen]; exact hkl) i hi
        rw [hat k hkl] at ha
        have hc := (hF k (by omega)).1 i hi
        rw [← addr_add, hc, ← ha, hj]
    · intro r hr
      obtain ⟨i, hi, rfl⟩ := List.mem_map.1 hr
      exact (hF i (by have := List.mem_range.1 hi; omega)).2.1
    · intro r hr
      obtain ⟨i, hi, rfl⟩ := List.mem_map.1 hr
      exact (hF i (by have := List.mem_range.1 hi; omega)).2.2.1
    · intro i hi
      rw [hlen] at hi
      refine ⟨D i, by simp [hi], ?_⟩
      rw [hat i hi]
      exact (hF i (by omega)).2.2.2

/-- The reach of a run, of slots. -/
theorem slots_fit {t e p : TypeId} {f0 f1 f2 : Field} {R : List SlotR} {d : DataW H} (ut : P.underlying t = some (.slice e)) (he : P.underlying e = some (.struct #[f0, f1, f2])) (u2 : P.underlying f2.type = some (.slice p)) (b : P.bytesOf p = 32)
    (hd : SlotsD R d) (hw : ∀ n ∈ d.weights P t, n ≤ reachBytes) : R.length * P.bytesOf e ≤ reachBytes ∧ FitK R := by
  rcases hd with ⟨_, rfl⟩ | ⟨el, sp, rfl, hl, hi⟩
  · exact ⟨by simp, fun r hr => by cases hr⟩
  · simp only [DataW.weights, ut, List.mem_cons, List.mem_append] at hw
    constructor
    · have := hw _ (Or.inl rfl)
      rw [hl] at this
      refine Nat.le_trans (Nat.mul_le_mul_right _ ?_) this
      omega
    · intro r hr
      obtain ⟨i, h, rfl⟩ := List.getElem_of_mem hr
      obtain ⟨x, hx, a', b', dl, hxe, hs⟩ := hi i h
      rw [slAt_eq h] at hs
      have hw2 : ∀ n ∈ x.weights P e, n ≤ reachBytes := fun n hn => hw _ (Or.inr (Or.inl (weightsAll_at hx n hn)))
      subst hxe
      simp only [DataW.weights, he, List.map_cons, List.map_nil, DataW.weightsEach, List.mem_append] at hw2
      rcases hs with ⟨_, h0⟩ | ⟨sp', rfl⟩
      · rw [h0]; simp
      · have h1 := hw2 ((R[i].2.2.2.length + sp'.length) * 32) (by simp [DataW.weights, u2, b])
        simp only [reachBytes] at h1
        omega
end
end Go.Dm
