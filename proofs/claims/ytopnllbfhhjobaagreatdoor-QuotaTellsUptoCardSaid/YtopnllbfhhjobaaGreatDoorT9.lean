/- Texts one behind the other: Laws on rows of the call's own: copy, append of zeros, insertion. No program in sight; Laws on rows of the call's own: an element stored, a rest cleared. No program in sight. -/
import Derived.Test.YtopnllbfhhjobaaGreatDoorT3
import Derived.Lib.Overlaps
import Derived.Lib.AppendZeros
import Derived.Laws.CopyRow
import Derived.Maps.AppendAt
namespace Go.Dm
open Go Go.RowKit

theorem ins1 {α : Type} (L cs vs : List α) (a : Nat) (ha : a ≤ cs.length) (hL : cs.length + vs.length ≤ L.length) (ht : L.take a = cs.take a) :
    (splice (splice L a vs) (a + vs.length) (cs.drop a)).take (cs.length + vs.length) = cs.take a ++ (vs ++ cs.drop a) := by
  have h1 : (splice L a vs).take (a + vs.length) = cs.take a ++ vs := by
    unfold splice
    rw [← List.append_assoc, ← ht]
    apply List.take_left'
    simp; omega
  unfold splice at *
  rw [h1, List.append_assoc, ← List.append_assoc vs, ← List.append_assoc, List.take_left']
  simp; omega

theorem ins2 {α : Type} (L cs vs : List α) (a : Nat) (ha : a ≤ cs.length) (hL : cs.length + vs.length ≤ L.length) (ht : L.take a = cs.take a) :
    (splice (splice L (a + vs.length) (cs.drop a)) a vs).take (cs.length + vs.length) = cs.take a ++ (vs ++ cs.drop a) := by
  unfold splice
  have h1 : (List.take (a + vs.length) L ++ (List.drop a cs ++ List.drop (a + vs.length + (List.drop a cs).length) L)).take a = cs.take a := by
    rw [List.take_append_of_le_length (by simp; omega), List.take_take, Nat.min_eq_left (by omega), ht]
  have h2 : (List.take (a + vs.length) L ++ (List.drop a cs ++ List.drop (a + vs.length + (List.drop a cs).length) L)).drop (a + vs.length) = List.drop a cs ++ List.drop (a + vs.length + (List.drop a cs).length) L := by
    apply List.drop_left'
    simp; omega
  rw [h1, h2, ← List.append_assoc vs, ← List.append_assoc, List.take_left']
  simp; omega

theorem rowMono {w : World} {B B' e size : Nat} {v : Value} {n : Nat} {xs : List Value} (h : w.ownsRow B e size v n xs) (hB : B' ≤ B) : w.ownsRow B' e size v n xs := by
  obtain ⟨h1, h2⟩ := h
  refine ⟨h1, ?_⟩
  rcases h2 with h2 | ⟨g, cap, cur, hv, hg, r⟩
  · exact Or.inl h2
  · exact Or.inr ⟨g, cap, cur, hv, Nat.le_trans hB hg, r⟩

theorem Ext.setRow {w0 w : World} (h : Ext w0 w) {g : Nat} (hg : w0.heap.size ≤ g) (cs : Array Value) : Ext w0 (w.setRow g cs) := below_setRow h hg cs

theorem Ext.heap {w w' : World} {k : Nat} {o : Obj} (h : w.heap[k]? = some o) (hx : Ext w w') : w'.heap[k]? = some o := by
  rw [hx.block k (Array.getElem?_eq_some_iff.1 h).1]; exact h

theorem Sl.of_block {w : World} {g e n sz : Nat} {vs : List Value} (h : w.heap[g]? = some (.cells vs.toArray e (0, 0))) (hv : vs.length = n * sz) (hn : n ≤ maxLen) : Sl w sz (.slice (some ⟨g, 0, none⟩) n n) n vs := by
  refine ⟨hv, _, _, rfl, Nat.le_refl _, hn, by simp, Or.inr ⟨g, 0, rfl, (Array.getElem?_eq_some_iff.1 h).1, fun j u hj => ?_⟩⟩
  rw [cell_of_row w g _ vs.toArray _ _ h]
  simpa using hj

theorem dropV_at {g off n cap k sz : Nat} (hk : cap ≠ k) (h0 : 0 < k * sz) : dropV (some ⟨g, off, none⟩) n cap k sz = .slice (some ⟨g, off + k * sz, none⟩) (n - k) (cap - k) := by
  unfold dropV
  rw [if_neg hk]
  simp only [Option.map_some, Addr.add]
  rw [if_neg (by omega)]

theorem dropV_0 {g off n cap sz : Nat} : dropV (some ⟨g, off, none⟩) n cap 0 sz = .slice (some ⟨g, off, none⟩) n cap := by
  unfold dropV
  by_cases h : cap = 0 <;> simp [h, Addr.add]

theorem dropV_any {g off n cap k sz : Nat} (hk : cap ≠ k) : dropV (some ⟨g, off, none⟩) n cap k sz = .slice (some ⟨g, off + k * sz, none⟩) (n - k) (cap - k) := by
  by_cases h0 : k * sz = 0
  · unfold dropV
    rw [if_neg hk]
    simp [Addr.add, h0]
  · exact dropV_at hk (by omega)

theorem dropV_addr {g off n cap k sz : Nat} (h : 0 < n - k) (hc : n ≤ cap) : (if cap = k then some (⟨g, off, none⟩ : Addr) else (some (⟨g, off, none⟩ : Addr)).map (·.add (k * sz))) = some ⟨g, off + k * sz, none⟩ := by
  rw [if_neg (by omega)]
  simp only [Option.map_some, Addr.add]
  split
  · rename_i h0; rw [h0]; rfl
  · rfl

/-- Two pieces that fill a row. -/
theorem splice_two {α : Type} (L A B : List α) (h : L.length = A.length + B.length) : splice (splice L 0 A) A.length B = A ++ B := by
  unfold splice
  simp only [List.take_zero, List.nil_append, Nat.zero_add]
  rw [List.take_left', List.drop_eq_nil_of_le, List.append_nil]
  · simp; omega
  · rfl

theorem run_slice_low_at {P : Program} (t e : TypeId) (sz : Nat) (ht : P.underlying t = some (.slice e)) (hs : (P.info? e).map (·.size) = some sz) (g off n cap k : Nat) (hk : k ≤ n) (hc : cap ≠ k) (w : World) :
    (Instr.slice t (.slice (some ⟨g, off, none⟩) n cap) (some (.int .i64 (k : Int))) none none).run P w = .ok (.slice (some ⟨g, off + k * sz, none⟩) (n - k) (cap - k)) w := by
  rw [run_slice_low t e sz ht hs _ n cap k hk w, dropV_any hc]

section
variable {P : Program} {w : World} {ops : Array Oper} {rest : List Oper} {o : Oper} {a : Act} {Q : Exit → Act → World → Prop}

theorem wpList_copy (hgd : o.guard = none) (d s : Operand) {dT sT e : TypeId} {size bytes : Nat} (T : SlT P dT e size bytes)
    (ho : o.op = .call { callee := .builtin .copy, args := #[d, s], argTypes := #[dT, sT] })
    {dp : Option Addr} {dLen dCap : Nat} (hd : a.eval d = .slice dp dLen dCap) {u : Value} (hs : a.eval s = u)
    {g off : Nat} {cur : List Value} {t : TypeId} (hg : w.heap[g]? = some (.cells cur.toArray t (0, 0)))
    {m : Nat} {news : List Value} (hx : Sl w size u m news) (h1 : ∀ u ∈ news, u.oneCell' = true) (hmd : m ≤ dLen)
    (hdp : 0 < m → dp = some ⟨g, off, none⟩) (hfit : off + news.length ≤ cur.length)
    (h : wpList P ops Q rest (a.put o.dst (goInt m)) (w.setRow g (splice cur off news).toArray)) : wpList P ops Q (o :: rest) a w := by
  refine wpList_plain hgd fun K hK => ?_
  have hrun := run_copy_sl (P := P) w dT sT o.type e size T.ht T.hs dp dLen dCap g off cur t hg u m news hx h1 hmd hdp hfit
  unfold Oper.wp
  simp [execOp, ho, resolve, invoke, builtin, hd, hs, hrun, Result.andThen]
  exact hK _ _ h

/-- .. of which only the first `m` go over. -/
theorem wpList_copy_min (hgd : o.guard = none) (d s : Operand) {dT sT e : TypeId} {size bytes : Nat} (T : SlT P dT e size bytes)
    (ho : o.op = .call { callee := .builtin .copy, args := #[d, s], argTypes := #[dT, sT] })
    {dp sp : Option Addr} {dLen dCap sLen sCap c' : Nat} (hd : a.eval d = .slice dp dLen dCap) (hs : a.eval s = .slice sp sLen sCap)
    {g off : Nat} {cur : List Value} {t : TypeId} (hg : w.heap[g]? = some (.cells cur.toArray t (0, 0)))
    {m : Nat} (hm : Nat.min sLen dLen = m) {news : List Value} (hx : Sl w size (.slice sp m c') m news) (h1 : ∀ u ∈ news, u.oneCell' = true)
    (hdp : 0 < m → dp = some ⟨g, off, none⟩) (hfit : off + news.length ≤ cur.length)
    (h : wpList P ops Q rest (a.put o.dst (goInt m)) (w.setRow g (splice cur off news).toArray)) : wpList P ops Q (o :: rest) a w := by
  refine wpList_plain hgd fun K hK => ?_
  have hrun := run_copy_sl (P := P) w dT sT o.type e size T.ht T.hs dp m dCap g off cur t hg _ m news hx h1 (Nat.le_refl _) hdp hfit
  have hrun' : (Builtin.copy_ #[dT, sT] o.type #[.slice dp dLen dCap, .slice sp sLen sCap]).run P w = .ok (goInt m) (w.setRow g (splice cur off news).toArray) := by
    rw [← hrun]
    cases sp <;> simp [Builtin.copy_, run_underlying T.ht, Builtin.lenOf, hm, Builtin.firstCells]
  unfold Oper.wp
  simp [execOp, ho, resolve, invoke, builtin, hd, hs, hrun', Result.andThen]
  exact hK _ _ h

/-- `append(x[:i], make(T, l)...)` where there is no room. -/
theorem run_append_zeros {t ti ty e : TypeId} {size bytes : Nat} (T : SlT P t e size bytes) {k : IntKind} (hti : P.underlying ti = some (.int k))
    (w : World) {p : Option Addr} {n cap : Nat} {cs : List Value} (hx : Sl w size (.slice p n cap) n cs) (l : Nat) (hl0 : 0 < l) (hl : cap < n + l) (hb : (n + l) * bytes ≤ 140737488355328) :
    ∃ c cur, (Builtin.append_ #[t, ti] ty #[.slice p n cap, .int .i64 (l : Int)]).run P w = .ok (.slice (some ⟨w.heap.size, 0, none⟩) (n + l) c) (w.drew.alloc (.cells cur e)) ∧
      n + l ≤ c ∧ c ≤ maxLen ∧ cur.size = c * size ∧ cur.toList.take (n * size) = cs := by
  obtain ⟨i, z, hi, hz, h2, h3, h4⟩ := T.info
  have hbp := T.bpos
  have hsp := T.pos
  have hnl : n + l ≤ 140737488355328 := Nat.le_trans (Nat.le_mul_of_pos_right _ hbp) hb
  have hlw : IntKind.i64.wrap (l : Int) = l := wrap_nat (by omega)
  have hlb : ¬ ((281474976710656 : Int) < (l : Int) * (bytes : Int)) := by
    have h5 : l * bytes ≤ (n + l) * bytes := Nat.mul_le_mul_right _ (by omega)
    have h6 : ((l * bytes : Nat) : Int) ≤ 140737488355328 := by omega
    rw [Int.natCast_mul] at h6
    omega
  have hl1 : ¬ ((l : Int) < 0) := by omega
  have hroom : ¬ (n + l ≤ cap) := by omega
  have h63 : ¬ (9223372036854775807 < ((n : Int) + (l : Int))) := by omega
  have hfit := growslice_fits (old := cap) (by omega) hb
  have h48 : ¬ (281474976710656 < Builtin.nextslicecap (n + l) cap * bytes) := by omega
  have hold : (Builtin.firstCells size n (.slice p n cap)).run P w.drew = .ok cs.toArray w.drew := by
    obtain ⟨hlen, p', cap', hv, _, _, hpn, hx⟩ := hx
    injection hv with e1 _ e2
    subst e1 e2
    cases p with
    | none =>
      have h0 := hpn rfl
      have hn0 : n = 0 := by
        rcases hx with h | ⟨b, off, h, _⟩
        · exact h
        · cases h
      subst hn0
      have hcs : cs = [] := List.eq_nil_of_length_eq_zero (by simpa using hlen)
      subst hcs
      exact run_firstCells_none w.drew size 0 0 cap
    | some ad =>
      refine run_firstCells_some w.drew size n ad n cap cs hlen (fun j u hj => ?_)
      rcases hx with h | ⟨b, off, hp, _, hc⟩
      · subst h
        have hcs : cs = [] := List.eq_nil_of_length_eq_zero (by simpa using hlen)
        subst hcs
        simp at hj
      · injection hp with hp
        subst hp
        have := hc j u hj
        unfold Addr.add
        split
        · rename_i h0; subst h0; simpa using this
        · exact this
  have hge := grownCap_ge w (n + l) cap e
  have hcm : grownCap w (n + l) cap e ≤ maxLen := grownCap_le_maxLen w (n + l) cap e (by simp only [maxLen]; omega)
  refine ⟨grownCap w (n + l) cap e, cs.toArray ++ Builtin.zeroCells z.cells l ++ Builtin.zeroCells z.cells (grownCap w (n + l) cap e - (n + l)), ?_, hge, hcm, ?_, ?_⟩
  · have hls : ¬ (l * size = 0) := fun h => by rcases Nat.mul_eq_zero.1 h with h | h <;> omega
    simp [Builtin.append_, run_underlying T.ht, run_underlying hti, sizeOf, typeInfo, zeroValue, hi, hz, h2, h3, asInt, asIntOf, hlw, hlb, hl1, hroom, h63, h48, Question.forced, hold, newRow, grownCap, hls]
  · simp only [Array.size_append, List.size_toArray, hx.len, size_zeroCells, h4]
    rw [← Nat.add_mul, ← Nat.add_mul]
    congr 1; omega
  · simp only [Array.toList_append]
    rw [List.append_assoc, ← hx.len]
    exact List.take_left

theorem wpList_app_zeros (hgd : o.guard = none) (s x : Operand) {t ti e : TypeId} {size bytes : Nat} (T : SlT P t e size bytes) {k : IntKind} (hti : P.underlying ti = some (.int k))
    (ho : o.op = .call { callee := .builtin .append, args := #[s, x], argTypes := #[t, ti] })
    {p : Option Addr} {n cap : Nat} {cs : List Value} (hs : a.eval s = .slice p n cap) (hx : Sl w size (.slice p n cap) n cs) (l N : Nat) (hN : n + l = N) (hxl : a.eval x = .int .i64 (l : Int))
    (hl0 : 0 < l) (hl : cap < n + l) (hb : (n + l) * bytes ≤ 140737488355328)
    (h : ∀ c cur, N ≤ c → c ≤ maxLen → cur.size = c * size → cur.toList.take (n * size) = cs →
      wpList P ops Q rest (a.put o.dst (.slice (some ⟨w.heap.size, 0, none⟩) N c)) (w.drew.alloc (.cells cur e))) : wpList P ops Q (o :: rest) a w := by
  subst hN
  refine wpList_plain hgd fun K hK => ?_
  obtain ⟨c, cur, hrun, h1, h2, h3, h4⟩ := run_append_zeros (ty := o.type) T hti w hx l hl0 hl hb
  unfold Oper.wp
  simp [execOp, ho, resolve, invoke, builtin, hs, hxl, hrun, Result.andThen]
  exact hK _ _ (h c cur h1 h2 h3 h4)

end
end Go.Dm

namespace Go.Dm
open Go Go.RowKit

theorem grown_setRow (w : World) (g : Nat) (cs : Array Value) : w.grownBy (w.setRow g cs) (some g) := by
  refine ⟨rfl, rfl, rfl, by simp [World.setRow], fun k _ hr => ?_⟩
  have hne : k ≠ g := fun e => hr (by rw [e])
  simp [World.setRow, Array.getElem?_modify, Ne.symm hne]

section
variable {P : Program} {w : World} {ops : Array Oper} {rest : List Oper} {o : Oper} {a : Act} {Q : Exit → Act → World → Prop}

theorem run_storeVar_at (ty : TypeId) {g off : Nat} {t : TypeId} {cur : List Value} {v : Value} {cells : List Value} (hg : w.heap[g]? = some (.cells cur.toArray t (0, 0)))
    (hc : v.cells.toList = cells) (hi : (P.info? ty).map (·.size) = some cells.length) (hfit : off + cells.length ≤ cur.length) (h1 : ∀ u ∈ cells, u.oneCell' = true) :
    (storeVar ty ⟨g, off, none⟩ v).run P w = .ok () (w.setRow g (splice cur off cells).toArray) := by
  have hst := run_storeCells_at P g off t cells 0 cur.toArray w hg (by simpa using hfit) h1
  simp only [Nat.add_zero] at hst
  cases hq : P.info? ty with
  | none => simp [hq] at hi
  | some i =>
    have hs : v.cells.size = i.size := by
      simp [hq] at hi
      rw [hi, ← hc]; simp
    simp [storeVar, sizeOf, typeInfo, hq, hs, hc, hst, splice]

/-- A store into a row that is known whole. -/
theorem wpList_store_at (hgd : o.guard = none) (ty : TypeId) (x y : Operand) (ho : o.op = .store ty x y) {g off : Nat} {v : Value} {cells : List Value}
    (hx : a.eval x = .pointer (some ⟨g, off, none⟩)) (hy : a.eval y = v) (hc : v.cells.toList = cells) (hi : (P.info? ty).map (·.size) = some cells.length)
    {cur : List Value} {t : TypeId} (hg : w.heap[g]? = some (.cells cur.toArray t (0, 0))) (hfit : off + cells.length ≤ cur.length) (h1 : ∀ u ∈ cells, u.oneCell' = true)
    (h : ∀ w', w'.heap[g]? = some (.cells (splice cur off cells).toArray t (0, 0)) → w.grownBy w' (some g) → wpList P ops Q rest (a.put o.dst undef) w') : wpList P ops Q (o :: rest) a w := by
  refine wpList_plain hgd fun K hK => ?_
  have hrun := run_storeVar_at (P := P) ty hg hc hi hfit h1
  unfold Oper.wp execOp
  simp only [ho, hx, hy, Instr.storeAt, Instr.sureAddr, Sem.run_bind, Sem.run_pure, Result.andThen_ok, hrun]
  exact hK _ _ (h _ (setRow_heap w g cur.toArray (splice cur off cells).toArray t (0, 0) hg) (grown_setRow w g _))

/-- 'clear(s)', s the rest of a row that is known whole. -/
theorem wpList_clear (hgd : o.guard = none) (s : Operand) {t e : TypeId} {size bytes : Nat} (T : SlT P t e size bytes)
    (ho : o.op = .call { callee := .builtin .clear, args := #[s], argTypes := #[t] }) {p : Option Addr} {m c : Nat} (hs : a.eval s = .slice p m c)
    {g off : Nat} {cur : List Value} {ty : TypeId} (hg : w.heap[g]? = some (.cells cur.toArray ty (0, 0))) (hp : 0 < m → p = some ⟨g, off, none⟩) (hfit : off + m * size ≤ cur.length)
    (hone : ∀ i z, P.info? e = some i → i.zero = some z → ∀ u ∈ z.cells, u.oneCell' = true)
    (h : ∀ w' cur', w'.heap[g]? = some (.cells (cur' : List Value).toArray ty (0, 0)) → cur'.length = cur.length → cur'.take off = cur.take off → w.grownBy w' (some g) → wpList P ops Q rest (a.put o.dst (.tuple #[])) w') : wpList P ops Q (o :: rest) a w := by
  refine wpList_plain hgd fun K hK => ?_
  obtain ⟨i, z, hi, hz, h2, h3, h4⟩ := T.info
  by_cases h0 : m = 0 ∨ p = none
  · have hrun : (Builtin.clear_ #[t] o.type #[.slice p m c]).run P w = .ok (.tuple #[]) w := by
      rcases h0 with h0 | h0
      · subst h0; cases p <;> simp [Builtin.clear_, run_underlying T.ht]
      · subst h0; simp [Builtin.clear_, run_underlying T.ht]
    unfold Oper.wp
    simp [execOp, ho, resolve, invoke, builtin, hs, hrun, Result.andThen]
    exact hK _ _ (h _ cur hg rfl rfl ⟨rfl, rfl, rfl, Nat.le_refl _, fun _ _ _ => rfl⟩)
  · rw [not_or] at h0
    have hm : 0 < m := by omega
    rw [hp hm] at hs
    have hl : (Builtin.zeroCells z.cells m).toList.length = m * size := by rw [Array.length_toList, size_zeroCells, h4]
    have hst := run_storeCells_at P g off ty (Builtin.zeroCells z.cells m).toList 0 cur.toArray w hg (by rw [hl]; simpa using hfit) (by
      intro v hv
      rw [Builtin.zeroCells, Array.toList_map, List.mem_map] at hv
      obtain ⟨j, _, rfl⟩ := hv
      have hp' := T.pos
      have hlt : j % z.cells.size < z.cells.size := Nat.mod_lt _ (by omega)
      rw [getElem!_pos z.cells _ hlt]
      exact hone i z hi hz _ (Array.getElem_mem hlt))
    simp only [Nat.add_zero] at hst
    obtain ⟨m', rfl⟩ : ∃ m', m = m' + 1 := ⟨m - 1, by omega⟩
    have hrun : (Builtin.clear_ #[t] o.type #[.slice (some ⟨g, off, none⟩) (m' + 1) c]).run P w = .ok (.tuple #[]) (w.setRow g (splice cur off (Builtin.zeroCells z.cells (m' + 1)).toList).toArray) := by
      simp [Builtin.clear_, run_underlying T.ht, zeroValue, typeInfo, hi, hz, hst, splice]
    unfold Oper.wp
    simp [execOp, ho, resolve, invoke, builtin, hs, hrun, Result.andThen]
    refine hK _ _ (h _ _ (setRow_heap w g cur.toArray _ ty (0, 0) hg) (length_splice _ _ _ (by rw [hl]; exact hfit)) ?_ (grown_setRow w g _))
    unfold splice
    rw [List.take_append_of_le_length (by rw [List.length_take]; omega), List.take_take, Nat.min_self]

/-- `append` to a row of the call's own: which block the row is in behind it is told. -/
theorem wpList_appO (hgd : o.guard = none) (s x : Operand) {t e : TypeId} {size bytes : Nat} (T : SlT P t e size bytes)
    (ho : o.op = .call { callee := .builtin .append, args := #[s, x], argTypes := #[t, t] }) {B : Nat} (hw : B ≤ w.heap.size)
    {v : Value} {n : Nat} {xs : List Value} (hs : a.eval s = v) (hown : w.ownsRow B e size v n xs)
    {u : Value} {m : Nat} {news : List Value} (hu : a.eval x = u) (hx : Sl w size u m news) (hm : 0 < m) (h1 : ∀ u ∈ news, u.oneCell' = true)
    (hbytes : (n + m) * bytes ≤ 140737488355328)
    (h : ∀ v' w', w'.ownsRow B e size v' (n + m) (xs ++ news) → w.grownBy w' v.ownBlock → (v'.ownBlock = v.ownBlock ∨ v'.ownBlock = some w.heap.size) → wpList P ops Q rest (a.put o.dst v') w') : wpList P ops Q (o :: rest) a w := by
  obtain ⟨i, z, hi, hz, h2, h3, h4⟩ := T.info
  obtain ⟨hl, p, cap, rfl, hnc, hmx, hpn, hc⟩ := hx
  obtain ⟨b, off, rfl, hlt, hc⟩ := hc.resolve_left (by omega)
  have hcells : ∀ j u, news[j]? = some u → w.cell? ((⟨b, off, none⟩ : Addr).add j) = some u := by
    intro j u hj
    have := hc j u hj
    unfold Addr.add
    split
    · rename_i h0; subst h0; simpa using this
    · exact this
  have hml : n + m ≤ maxLen := by
    have := Nat.le_trans (Nat.le_mul_of_pos_right (n + m) T.bpos) hbytes
    simp only [maxLen]
    omega
  obtain ⟨v', w', hr, ho2, hg, _, hor⟩ := run_append_own_at (P := P) w B t o.type e i z size bytes T.ht hi hz h2 h3 h4 T.pos v n xs hown ⟨b, off, none⟩ m cap news hl hcells h1 hml hbytes hw
  have hfin := h v' w' ho2 hg hor
  refine wpList_plain hgd fun K hK => ?_
  unfold Oper.wp execOp
  simp only [ho, resolve, invoke, builtin, Sem.run_bind, Sem.run_pure, Result.andThen_ok, List.map_toArray, List.map_cons, List.map_nil, hs, hu, hr]
  exact hK _ _ hfin

end
/-- Another block was written. -/
theorem row_grown {w w' : World} {B e sz n : Nat} {v : Value} {xs : List Value} {q : Option Nat} (h : w.ownsRow B e sz v n xs) (hg : w.grownBy w' q) (hq : ∀ b, v.ownBlock = some b → q ≠ some b) : w'.ownsRow B e sz v n xs := by
  obtain ⟨hl, h⟩ := h
  refine ⟨hl, ?_⟩
  rcases h with h | ⟨g, cap, cur, hv, hb, hgg, r⟩
  · exact Or.inl h
  · have hne : q ≠ some g := hq g (by rw [hv]; rfl)
    exact Or.inr ⟨g, cap, cur, hv, hb, by rw [hg.block g (Array.getElem?_eq_some_iff.1 hgg).1 (fun e => hne e.symm)]; exact hgg, r⟩
end Go.Dm
