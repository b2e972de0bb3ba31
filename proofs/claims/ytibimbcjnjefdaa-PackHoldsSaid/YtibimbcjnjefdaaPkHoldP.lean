/- Chapter 13: the law's made slots; what a fit tells at each step. No program in sight. -/
import Derived.Test.YtibimbcjnjefdaaPkSlotR
import Derived.Test.YtibimbcjnjefdaaPkWalkE
import Derived.Test.YtibimbcjnjefdaaPkArgs
namespace Go.Dm
open Go Go.RowKit Go.ChangeShapes Go.WideShapes

def vecOne (a : Vc) : List Value := [vAt a 0, vAt a 1, vAt a 2, vAt a 3]
def vecCells (F : List Vc) : List Value := F.flatMap vecOne
def vcAt (F : List Vc) (k : Nat) : Vc := F.getD k noV
theorem vecCells_len (F : List Vc) : (vecCells F).length = F.length * 4 := by
  induction F with
  | nil => rfl
  | cons x xs ih => simp only [vecCells, vecOne, List.flatMap_cons, List.length_append, List.length_cons, List.length_nil] at *; omega
theorem vecCells_at : ∀ (xs : List Vc) (k : Nat), k < xs.length → ∀ j, j < 4 → (vecCells xs)[k*4+j]? = (vecOne (vcAt xs k))[j]?
  | x :: xs, 0, _, j, hj => by
    show (vecOne x ++ vecCells xs)[0*4+j]? = _
    rw [List.getElem?_append_left (by simp [vecOne]; omega)]
    simp [vcAt]
  | x :: xs, k+1, h, j, hj => by
    have := vecCells_at xs k (by simpa using h) j hj
    show (vecOne x ++ vecCells xs)[(k+1)*4+j]? = _
    rw [List.getElem?_append_right (by simp [vecOne]; omega)]
    rw [show (k + 1) * 4 + j - (vecOne x).length = k * 4 + j by simp [vecOne]; omega, this]
    simp [vcAt]
/-- A slice value reads as these amounts. -/
structure Vecs (w : World) (v : Value) (F : List Vc) : Prop where
  sl : Sl w 4 v F.length (vecCells F)
  okv : ∀ a ∈ F, OkV a
theorem Vecs.ext {w w' : World} {v F} (h : Vecs w v F) (hb : Ext w w') : Vecs w' v F := ⟨h.sl.ext hb, h.okv⟩
theorem Vecs.shape {w : World} {v F} (h : Vecs w v F) : ∃ p cap, v = .slice p F.length cap ∧ F.length ≤ cap ∧ cap ≤ maxLen := by
  obtain ⟨p, cap, h1, h2, h3, _⟩ := Sl.shape h.sl
  exact ⟨p, cap, h1, h2, h3⟩
/-- An amount that stands at a place. -/
structure VA (b o : Nat) (A : Nat → Nat) (w : World) : Prop where
  lt : b < w.heap.size
  c0 : w.cell? ⟨b, o, none⟩ = some (.int .u64 (A 0 : Nat))
  c1 : w.cell? ⟨b, o + 1, none⟩ = some (.int .u64 (A 1 : Nat))
  c2 : w.cell? ⟨b, o + 2, none⟩ = some (.int .u64 (A 2 : Nat))
  c3 : w.cell? ⟨b, o + 3, none⟩ = some (.int .u64 (A 3 : Nat))
theorem Vecs.at {w : World} {xs : List Vc} {p cap} (h : Vecs w (.slice p xs.length cap) xs) {k : Nat} (hk : k < xs.length) :
    ∃ b off, p = some ⟨b, off, none⟩ ∧ VA b (off + k*4) (vG (vcAt xs k)) w := by
  obtain ⟨b, off, hp, hb, h⟩ := Sl.at h.sl (by omega)
  have hc : ∀ j, j < 4 → w.cell? ⟨b, off + k*4 + j, none⟩ = (vecOne (vcAt xs k))[j]? := fun j hj => by
    have := vecCells_at xs k hk j hj
    obtain ⟨u, hu⟩ : ∃ u, (vecOne (vcAt xs k))[j]? = some u := ⟨_, List.getElem?_eq_getElem (by simp [vecOne]; omega)⟩
    rw [hu] at this ⊢
    rw [Nat.add_assoc]
    exact h _ _ this
  exact ⟨b, off, hp, hb, hc 0 (by omega), hc 1 (by omega), hc 2 (by omega), hc 3 (by omega)⟩
theorem Vecs.ok {w : World} {xs : List Vc} {v} (h : Vecs w v xs) {k : Nat} (hk : k < xs.length) : OkV (vcAt xs k) := h.okv _ (by simp [vcAt, hk])

section
variable {H : Type} {enc : TypeId × Value → H} {P : Program} {W : World}
/-- Amounts that came in. -/
theorem vecs_of_trod {t e q : TypeId} (ht : P.underlying t = some (.slice e)) (he : P.underlying e = some (.array 4 q)) (ce : P.cellsOf e = 4) (uq : P.underlying q = some (.int .u64)) (cq : P.cellsOf q = 1)
    {a : Option Addr} {len cap : Nat} {d : DataW H} {ps : List MemPlace} (h : DataW.Trod enc P W 0 (fun _ => true) true t (.slice a len cap) d ps) :
    ∃ F : List Vc, Vecs W (.slice a len cap) F := by
  obtain ⟨fuel, hf⟩ := h
  rcases Deep.open_slice ht hf with ⟨hcs, hx⟩ | ⟨a', len', cap', m, n, D, Pl, hcs, _, hl, hm, hmm, hx, hall⟩
  · simp [Value.cells] at hcs
    obtain ⟨rfl, rfl, rfl⟩ := hcs
    exact ⟨[], Sl.nil W 4, fun r hr => by cases hr⟩
  · simp [Value.cells] at hcs
    obtain ⟨rfl, rfl, rfl⟩ := hcs
    simp only [if_true] at hmm
    subst hmm
    have hz : ∀ i, i < m → ∃ r : Vc, (∀ j, j < 4 → W.cell? (a'.add (i * 4 + j)) = (vecOne r)[j]?) ∧ OkV r := by
      intro i hi
      obtain ⟨cs', h1, h2⟩ := hall i hi
      rw [ce] at h1
      obtain ⟨_, hlen, hcell⟩ := World.cells?_some h1
      match cs', hlen with
      | [v1, v2, v3, v4], _ =>
        obtain ⟨z1, hz1, r1, r2, r3, r4⟩ := vec_of_cells he uq cq h2
        subst r1 r2 r3 r4
        refine ⟨z1, ?_, hz1⟩
        intro j hj
        have := hcell j (by omega)
        rw [Deep.add_add] at this
        rw [this]
        match j, hj with
        | 0, _ => rfl
        | 1, _ => rfl
        | 2, _ => rfl
        | 3, _ => rfl
    obtain ⟨F, hF⟩ := @Deep.choose_lt Vc ⟨noV⟩ _ _ hz
    have hlen : ((List.range len).map F).length = len := by simp
    have hat : ∀ i, i < len → vcAt ((List.range len).map F) i = F i := fun i hi => by simp [vcAt, hi]
    refine ⟨(List.range len).map F, ?_, ?_⟩
    · refine ⟨by rw [vecCells_len], some a', m, by rw [hlen], by omega, hm, by simp, ?_⟩
      by_cases h0 : len = 0
      · exact Or.inl (by simp [h0])
      · right
        obtain ⟨b, off, spot⟩ := a'
        have hs := World.cell?_spot ((hF 0 (by omega)).1 0 (by omega))
        have hspot : spot = none := by simpa [Addr.add] using hs
        subst hspot
        have hb := World.block_lt_of_cell? W _ ((hF 0 (by omega)).1 0 (by omega))
        refine ⟨b, off, rfl, by simpa [Addr.add] using hb, fun j u hj => ?_⟩
        have hjl : j < len * 4 := by
          have := (List.getElem?_eq_some_iff.1 hj).1
          rw [vecCells_len, hlen] at this
          exact this
        obtain ⟨k, i, hi, rfl⟩ : ∃ k i, i < 4 ∧ j = k * 4 + i := ⟨j / 4, j % 4, by omega, by omega⟩
        have hkl : k < len := by omega
        have ha := vecCells_at ((List.range len).map F) k (by rw [hlen]; exact hkl) i hi
        rw [hat k hkl] at ha
        have hc := (hF k (by omega)).1 i hi
        rw [← addr_add, hc, ← ha, hj]
    · intro r hr
      obtain ⟨i, hi, rfl⟩ := List.mem_map.1 hr
      exact (hF i (by have := List.mem_range.1 hi; omega)).2
end

/-- The name of the made slot at a place. -/
def nodeB (i : Nat) : ByteArray := ⟨#[110]⟩ ++ ⟨#[UInt8.ofNat (97 + i)]⟩
theorem nodeB_ne : ∀ i j : Nat, i < 12 → j < 12 → i ≠ j → nodeB i ≠ nodeB j := by
  have h : ∀ i : Fin 12, ∀ j : Fin 12, i ≠ j → nodeB i.val ≠ nodeB j.val := by decide +kernel
  exact fun i j hi hj hn => h ⟨i, hi⟩ ⟨j, hj⟩ (fun e => hn (by simpa using e))
/-- The made slot at a place. -/
def mkSlot (F : List Vc) (S : List SlotR) (i : Nat) : SlotR :=
  (nodeB i, vcAt F i, if i < S.length then (slAt S i).2.2.1 else .slice none 0 0, if i < S.length then (slAt S i).2.2.2 else [])
def mkSlots (F : List Vc) (S : List SlotR) (n : Nat) : List SlotR := (List.range n).map (mkSlot F S)
theorem mkSlots_len (F S n) : (mkSlots F S n).length = n := by simp [mkSlots]
theorem mkSlots_succ (F S n) : mkSlots F S (n + 1) = mkSlots F S n ++ [mkSlot F S n] := by simp [mkSlots, List.range_succ]
theorem mkSlots_at {F S n k} (h : k < n) : slAt (mkSlots F S n) k = mkSlot F S k := by simp [slAt, mkSlots, h]

theorem fit_step {f d m G nm rest} (h : fitS f d (m + 1) G = some (nm :: rest)) : ∃ j V, bestS f d G = some (j, V) ∧ (slAt G j).1 = nm ∧ fitS f d m (G.set j (setFree (slAt G j) V)) = some rest := by
  rw [fit_succ] at h
  cases hb : bestS f d G with
  | none => rw [hb] at h; simp at h
  | some q =>
    obtain ⟨j, V⟩ := q
    rw [hb] at h
    simp only [Option.map_eq_some_iff] at h
    obtain ⟨a, h1, h2⟩ := h
    injection h2 with h2 h3
    exact ⟨j, V, rfl, h2, by rw [h1, h3]⟩
/-- Each slot bears the name of its place. -/
def Named (n : Nat) (G : List SlotR) : Prop := G.length = n ∧ ∀ i, i < n → (slAt G i).1 = nodeB i
theorem Named.make (F S n) : Named n (mkSlots F S n) := ⟨mkSlots_len F S n, fun i hi => by rw [mkSlots_at hi]; rfl⟩
theorem Named.set {n : Nat} {G : List SlotR} (h : Named n G) (j : Nat) (V : Vc) : Named n (G.set j (setFree (slAt G j) V)) := by
  refine ⟨by rw [List.length_set]; exact h.1, fun i hi => ?_⟩
  rw [← h.2 i hi]
  have hl : i < G.length := by rw [h.1]; exact hi
  rw [slAt_eq (by rw [List.length_set]; exact hl), List.getElem_set]
  split
  · rename_i e; subst e; rfl
  · rw [slAt_eq hl]
end Go.Dm
