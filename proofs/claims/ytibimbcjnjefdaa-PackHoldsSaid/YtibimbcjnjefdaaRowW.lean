/- Laws on rows of the call's own: an element stored, a rest cleared. No program in sight. -/
import Derived.Test.YtibimbcjnjefdaaSlices
import Derived.Laws.CopyRow
import Derived.Maps.AppendAt
namespace Go.Dm
open Go Go.RowKit

theorem grown_setRow (w : World) (g : Nat) (cs : Array Value) : w.grownBy (w.setRow g cs) (some g) := by
  refine ⟨rfl, rfl, rfl, by simp [World.setRow], fun k _ hr => ?_⟩
  have hne : k ≠ g := fun e => hr (by rw [e])
  simp [World.setRow, Array.getElem?_modify, Ne.symm hne]

section
variable {P : Program} {w : World} {ops : Array Oper} {rest : List Oper} {o : Oper} {a : Act} {Q : Exit → Act → World → Prop}

theorem run_storeVar_at (ty : TypeId) {g off : Nat} {t : TypeId} {cur : List Value} {v : Value} {cells : List Value} (hg : w.heap[g]? = some (.cells cur.toArray t (0, 0)))
    (hc : v.cells.toList = cells) (hi : (P.info? ty).map (·.size) = some cells.length) (hfit : off + cells.length ≤ cur.length) (h1 : ∀ u ∈ cells, u.oneCell' = true) :
    (storeVar ty ⟨g, off, none⟩ v).run P w = .ok () (w.setRow g (splice cur off cells).toArray) := by
  have hst := run_storeCells_at P g off t cells 0 cur.toArray w hg (by simpa using hfit) h1
  simp only [Nat.add_zero] at hst
  cases hq : P.info? ty with
  | none => simp [hq] at hi
  | some i =>
    have hs : v.cells.size = i.size := by
      simp [hq] at hi
      rw [hi, ← hc]; simp
    simp [storeVar, sizeOf, typeInfo, hq, hs, hc, hst, splice]

/-- A store into a row that is known whole. -/
theorem wpList_store_at (hgd : o.guard = none) (ty : TypeId) (x y : Operand) (ho : o.op = .store ty x y) {g off : Nat} {v : Value} {cells : List Value}
    (hx : a.eval x = .pointer (some ⟨g, off, none⟩)) (hy : a.eval y = v) (hc : v.cells.toList = cells) (hi : (P.info? ty).map (·.size) = some cells.length)
    {cur : List Value} {t : TypeId} (hg : w.heap[g]? = some (.cells cur.toArray t (0, 0))) (hfit : off + cells.length ≤ cur.length) (h1 : ∀ u ∈ cells, u.oneCell' = true)
    (h : ∀ w', w'.heap[g]? = some (.cells (splice cur off cells).toArray t (0, 0)) → w.grownBy w' (some g) → wpList P ops Q rest (a.put o.dst undef) w') : wpList P ops Q (o :: rest) a w := by
  refine wpList_plain hgd fun K hK => ?_
  have hrun := run_storeVar_at (P := P) ty hg hc hi hfit h1
  unfold Oper.wp execOp
  simp only [ho, hx, hy, Instr.storeAt, Instr.sureAddr, Sem.run_bind, Sem.run_pure, Result.andThen_ok, hrun]
  exact hK _ _ (h _ (setRow_heap w g cur.toArray (splice cur off cells).toArray t (0, 0) hg) (grown_setRow w g _))

/-- 'clear(s)', s the rest of a row that is known whole. -/
theorem wpList_clear (hgd : o.guard = none) (s : Operand) {t e : TypeId} {size bytes : Nat} (T : SlT P t e size bytes)
    (ho : o.op = .call { callee := .builtin .clear, args := #[s], argTypes := #[t] }) {p : Option Addr} {m c : Nat} (hs : a.eval s = .slice p m c)
    {g off : Nat} {cur : List Value} {ty : TypeId} (hg : w.heap[g]? = some (.cells cur.toArray ty (0, 0))) (hp : 0 < m → p = some ⟨g, off, none⟩) (hfit : off + m * size ≤ cur.length)
    (hone : ∀ i z, P.info? e = some i → i.zero = some z → ∀ u ∈ z.cells, u.oneCell' = true)
    (h : ∀ w' cur', w'.heap[g]? = some (.cells (cur' : List Value).toArray ty (0, 0)) → cur'.length = cur.length → cur'.take off = cur.take off → w.grownBy w' (some g) → wpList P ops Q rest (a.put o.dst (.tuple #[])) w') : wpList P ops Q (o :: rest) a w := by
  refine wpList_plain hgd fun K hK => ?_
  obtain ⟨i, z, hi, hz, h2, h3, h4⟩ := T.info
  by_cases h0 : m = 0 ∨ p = none
  · have hrun : (Builtin.clear_ #[t] o.type #[.slice p m c]).run P w = .ok (.tuple #[]) w := by
      rcases h0 with h0 | h0
      · subst h0; cases p <;> simp [Builtin.clear_, run_underlying T.ht]
      · subst h0; simp [Builtin.clear_, run_underlying T.ht]
    unfold Oper.wp
    simp [execOp, ho, resolve, invoke, builtin, hs, hrun, Result.andThen]
    exact hK _ _ (h _ cur hg rfl rfl ⟨rfl, rfl, rfl, Nat.le_refl _, fun _ _ _ => rfl⟩)
  · rw [not_or] at h0
    have hm : 0 < m := by omega
    rw [hp hm] at hs
    have hl : (Builtin.zeroCells z.cells m).toList.length = m * size := by rw [Array.length_toList, size_zeroCells, h4]
    have hst := run_storeCells_at P g off ty (Builtin.zeroCells z.cells m).toList 0 cur.toArray w hg (by rw [hl]; simpa using hfit) (by
      intro v hv
      rw [Builtin.zeroCells, Array.toList_map, List.mem_map] at hv
      obtain ⟨j, _, rfl⟩ := hv
      have hp' := T.pos
      have hlt : j % z.cells.size < z.cells.size := Nat.mod_lt _ (by omega)
      rw [getElem!_pos z.cells _ hlt]
      exact hone i z hi hz _ (Array.getElem_mem hlt))
    simp only [Nat.add_zero] at hst
    obtain ⟨m', rfl⟩ : ∃ m', m = m' + 1 := ⟨m - 1, by omega⟩
    have hrun : (Builtin.clear_ #[t] o.type #[.slice (some ⟨g, off, none⟩) (m' + 1) c]).run P w = .ok (.tuple #[]) (w.setRow g (splice cur off (Builtin.zeroCells z.cells (m' + 1)).toList).toArray) := by
      simp [Builtin.clear_, run_underlying T.ht, zeroValue, typeInfo, hi, hz, hst, splice]
    unfold Oper.wp
    simp [execOp, ho, resolve, invoke, builtin, hs, hrun, Result.andThen]
    refine hK _ _ (h _ _ (setRow_heap w g cur.toArray _ ty (0, 0) hg) (length_splice _ _ _ (by rw [hl]; exact hfit)) ?_ (grown_setRow w g _))
    unfold splice
    rw [List.take_append_of_le_length (by rw [List.length_take]; omega), List.take_take, Nat.min_self]

/-- `append` to a row of the call's own: which block the row is in behind it is told. -/
theorem wpList_appO (hgd : o.guard = none) (s x : Operand) {t e : TypeId} {size bytes : Nat} (T : SlT P t e size bytes)
    (ho : o.op = .call { callee := .builtin .append, args := #[s, x], argTypes := #[t, t] }) {B : Nat} (hw : B ≤ w.heap.size)
    {v : Value} {n : Nat} {xs : List Value} (hs : a.eval s = v) (hown : w.ownsRow B e size v n xs)
    {u : Value} {m : Nat} {news : List Value} (hu : a.eval x = u) (hx : Sl w size u m news) (hm : 0 < m) (h1 : ∀ u ∈ news, u.oneCell' = true)
    (hbytes : (n + m) * bytes ≤ 140737488355328)
    (h : ∀ v' w', w'.ownsRow B e size v' (n + m) (xs ++ news) → w.grownBy w' v.ownBlock → (v'.ownBlock = v.ownBlock ∨ v'.ownBlock = some w.heap.size) → wpList P ops Q rest (a.put o.dst v') w') : wpList P ops Q (o :: rest) a w := by
  obtain ⟨i, z, hi, hz, h2, h3, h4⟩ := T.info
  obtain ⟨hl, p, cap, rfl, hnc, hmx, hpn, hc⟩ := hx
  obtain ⟨b, off, rfl, hlt, hc⟩ := hc.resolve_left (by omega)
  have hcells : ∀ j u, news[j]? = some u → w.cell? ((⟨b, off, none⟩ : Addr).add j) = some u := by
    intro j u hj
    have := hc j u hj
    unfold Addr.add
    split
    · rename_i h0; subst h0; simpa using this
    · exact this
  have hml : n + m ≤ maxLen := by
    have := Nat.le_trans (Nat.le_mul_of_pos_right (n + m) T.bpos) hbytes
    simp only [maxLen]
    omega
  obtain ⟨v', w', hr, ho2, hg, _, hor⟩ := run_append_own_at (P := P) w B t o.type e i z size bytes T.ht hi hz h2 h3 h4 T.pos v n xs hown ⟨b, off, none⟩ m cap news hl hcells h1 hml hbytes hw
  have hfin := h v' w' ho2 hg hor
  refine wpList_plain hgd fun K hK => ?_
  unfold Oper.wp execOp
  simp only [ho, resolve, invoke, builtin, Sem.run_bind, Sem.run_pure, Result.andThen_ok, List.map_toArray, List.map_cons, List.map_nil, hs, hu, hr]
  exact hK _ _ hfin

end
/-- Another block was written. -/
theorem row_grown {w w' : World} {B e sz n : Nat} {v : Value} {xs : List Value} {q : Option Nat} (h : w.ownsRow B e sz v n xs) (hg : w.grownBy w' q) (hq : ∀ b, v.ownBlock = some b → q ≠ some b) : w'.ownsRow B e sz v n xs := by
  obtain ⟨hl, h⟩ := h
  refine ⟨hl, ?_⟩
  rcases h with h | ⟨g, cap, cur, hv, hb, hgg, r⟩
  · exact Or.inl h
  · have hne : q ≠ some g := hq g (by rw [hv]; rfl)
    exact Or.inr ⟨g, cap, cur, hv, hb, by rw [hg.block g (Array.getElem?_eq_some_iff.1 hgg).1 (fun e => hne e.symm)]; exact hgg, r⟩
end Go.Dm
