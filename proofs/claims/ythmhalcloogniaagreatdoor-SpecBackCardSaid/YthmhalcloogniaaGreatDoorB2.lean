/- Texts one behind the other: Laws on rows of the call's own: copy, append of zeros, insertion. No program in sight. -/
import Derived.Test.YthmhalcloogniaaGreatDoorB17
import Derived.Lib.Overlaps
import Derived.Lib.AppendZeros
namespace Go.Dm
open Go Go.RowKit

theorem ins1 {α : Type} (L cs vs : List α) (a : Nat) (ha : a ≤ cs.length) (hL : cs.length + vs.length ≤ L.length) (ht : L.take a = cs.take a) :
    (splice (splice L a vs) (a + vs.length) (cs.drop a)).take (cs.length + vs.length) = cs.take a ++ (vs ++ cs.drop a) := by
  have h1 : (splice L a vs).take (a + vs.length) = cs.take a ++ vs := by
    unfold splice
    rw [← List.append_assoc, ← ht]
    apply List.take_left'
    simp; omega
  unfold splice at *
  rw [h1, List.append_assoc, ← List.append_assoc vs, ← List.append_assoc, List.take_left']
  simp; omega

theorem ins2 {α : Type} (L cs vs : List α) (a : Nat) (ha : a ≤ cs.length) (hL : cs.length + vs.length ≤ L.length) (ht : L.take a = cs.take a) :
    (splice (splice L (a + vs.length) (cs.drop a)) a vs).take (cs.length + vs.length) = cs.take a ++ (vs ++ cs.drop a) := by
  unfold splice
  have h1 : (List.take (a + vs.length) L ++ (List.drop a cs ++ List.drop (a + vs.length + (List.drop a cs).length) L)).take a = cs.take a := by
    rw [List.take_append_of_le_length (by simp; omega), List.take_take, Nat.min_eq_left (by omega), ht]
  have h2 : (List.take (a + vs.length) L ++ (List.drop a cs ++ List.drop (a + vs.length + (List.drop a cs).length) L)).drop (a + vs.length) = List.drop a cs ++ List.drop (a + vs.length + (List.drop a cs).length) L := by
    apply List.drop_left'
    simp; omega
  rw [h1, h2, ← List.append_assoc vs, ← List.append_assoc, List.take_left']
  simp; omega

theorem rowMono {w : World} {B B' e size : Nat} {v : Value} {n : Nat} {xs : List Value} (h : w.ownsRow B e size v n xs) (hB : B' ≤ B) : w.ownsRow B' e size v n xs := by
  obtain ⟨h1, h2⟩ := h
  refine ⟨h1, ?_⟩
  rcases h2 with h2 | ⟨g, cap, cur, hv, hg, r⟩
  · exact Or.inl h2
  · exact Or.inr ⟨g, cap, cur, hv, Nat.le_trans hB hg, r⟩

theorem Ext.setRow {w0 w : World} (h : Ext w0 w) {g : Nat} (hg : w0.heap.size ≤ g) (cs : Array Value) : Ext w0 (w.setRow g cs) := below_setRow h hg cs

theorem Ext.heap {w w' : World} {k : Nat} {o : Obj} (h : w.heap[k]? = some o) (hx : Ext w w') : w'.heap[k]? = some o := by
  rw [hx.block k (Array.getElem?_eq_some_iff.1 h).1]; exact h

theorem Sl.of_block {w : World} {g e n sz : Nat} {vs : List Value} (h : w.heap[g]? = some (.cells vs.toArray e (0, 0))) (hv : vs.length = n * sz) (hn : n ≤ maxLen) : Sl w sz (.slice (some ⟨g, 0, none⟩) n n) n vs := by
  refine ⟨hv, _, _, rfl, Nat.le_refl _, hn, by simp, Or.inr ⟨g, 0, rfl, (Array.getElem?_eq_some_iff.1 h).1, fun j u hj => ?_⟩⟩
  rw [cell_of_row w g _ vs.toArray _ _ h]
  simpa using hj

theorem dropV_at {g off n cap k sz : Nat} (hk : cap ≠ k) (h0 : 0 < k * sz) : dropV (some ⟨g, off, none⟩) n cap k sz = .slice (some ⟨g, off + k * sz, none⟩) (n - k) (cap - k) := by
  unfold dropV
  rw [if_neg hk]
  simp only [Option.map_some, Addr.add]
  rw [if_neg (by omega)]

theorem dropV_0 {g off n cap sz : Nat} : dropV (some ⟨g, off, none⟩) n cap 0 sz = .slice (some ⟨g, off, none⟩) n cap := by
  unfold dropV
  by_cases h : cap = 0 <;> simp [h, Addr.add]

theorem dropV_any {g off n cap k sz : Nat} (hk : cap ≠ k) : dropV (some ⟨g, off, none⟩) n cap k sz = .slice (some ⟨g, off + k * sz, none⟩) (n - k) (cap - k) := by
  by_cases h0 : k * sz = 0
  · unfold dropV
    rw [if_neg hk]
    simp [Addr.add, h0]
  · exact dropV_at hk (by omega)

theorem dropV_addr {g off n cap k sz : Nat} (h : 0 < n - k) (hc : n ≤ cap) : (if cap = k then some (⟨g, off, none⟩ : Addr) else (some (⟨g, off, none⟩ : Addr)).map (·.add (k * sz))) = some ⟨g, off + k * sz, none⟩ := by
  rw [if_neg (by omega)]
  simp only [Option.map_some, Addr.add]
  split
  · rename_i h0; rw [h0]; rfl
  · rfl

/-- Two pieces that fill a row. -/
theorem splice_two {α : Type} (L A B : List α) (h : L.length = A.length + B.length) : splice (splice L 0 A) A.length B = A ++ B := by
  unfold splice
  simp only [List.take_zero, List.nil_append, Nat.zero_add]
  rw [List.take_left', List.drop_eq_nil_of_le, List.append_nil]
  · simp; omega
  · rfl

theorem run_slice_low_at {P : Program} (t e : TypeId) (sz : Nat) (ht : P.underlying t = some (.slice e)) (hs : (P.info? e).map (·.size) = some sz) (g off n cap k : Nat) (hk : k ≤ n) (hc : cap ≠ k) (w : World) :
    (Instr.slice t (.slice (some ⟨g, off, none⟩) n cap) (some (.int .i64 (k : Int))) none none).run P w = .ok (.slice (some ⟨g, off + k * sz, none⟩) (n - k) (cap - k)) w := by
  rw [run_slice_low t e sz ht hs _ n cap k hk w, dropV_any hc]

section
variable {P : Program} {w : World} {ops : Array Oper} {rest : List Oper} {o : Oper} {a : Act} {Q : Exit → Act → World → Prop}

theorem wpList_copy (hgd : o.guard = none) (d s : Operand) {dT sT e : TypeId} {size bytes : Nat} (T : SlT P dT e size bytes)
    (ho : o.op = .call { callee := .builtin .copy, args := #[d, s], argTypes := #[dT, sT] })
    {dp : Option Addr} {dLen dCap : Nat} (hd : a.eval d = .slice dp dLen dCap) {u : Value} (hs : a.eval s = u)
    {g off : Nat} {cur : List Value} {t : TypeId} (hg : w.heap[g]? = some (.cells cur.toArray t (0, 0)))
    {m : Nat} {news : List Value} (hx : Sl w size u m news) (h1 : ∀ u ∈ news, u.oneCell' = true) (hmd : m ≤ dLen)
    (hdp : 0 < m → dp = some ⟨g, off, none⟩) (hfit : off + news.length ≤ cur.length)
    (h : wpList P ops Q rest (a.put o.dst (goInt m)) (w.setRow g (splice cur off news).toArray)) : wpList P ops Q (o :: rest) a w := by
  refine wpList_plain hgd fun K hK => ?_
  have hrun := run_copy_sl (P := P) w dT sT o.type e size T.ht T.hs dp dLen dCap g off cur t hg u m news hx h1 hmd hdp hfit
  unfold Oper.wp
  simp [execOp, ho, resolve, invoke, builtin, hd, hs, hrun, Result.andThen]
  exact hK _ _ h

/-- .. of which only the first `m` go over. -/
theorem wpList_copy_min (hgd : o.guard = none) (d s : Operand) {dT sT e : TypeId} {size bytes : Nat} (T : SlT P dT e size bytes)
    (ho : o.op = .call { callee := .builtin .copy, args := #[d, s], argTypes := #[dT, sT] })
    {dp sp : Option Addr} {dLen dCap sLen sCap c' : Nat} (hd : a.eval d = .slice dp dLen dCap) (hs : a.eval s = .slice sp sLen sCap)
    {g off : Nat} {cur : List Value} {t : TypeId} (hg : w.heap[g]? = some (.cells cur.toArray t (0, 0)))
    {m : Nat} (hm : Nat.min sLen dLen = m) {news : List Value} (hx : Sl w size (.slice sp m c') m news) (h1 : ∀ u ∈ news, u.oneCell' = true)
    (hdp : 0 < m → dp = some ⟨g, off, none⟩) (hfit : off + news.length ≤ cur.length)
    (h : wpList P ops Q rest (a.put o.dst (goInt m)) (w.setRow g (splice cur off news).toArray)) : wpList P ops Q (o :: rest) a w := by
  refine wpList_plain hgd fun K hK => ?_
  have hrun := run_copy_sl (P := P) w dT sT o.type e size T.ht T.hs dp m dCap g off cur t hg _ m news hx h1 (Nat.le_refl _) hdp hfit
  have hrun' : (Builtin.copy_ #[dT, sT] o.type #[.slice dp dLen dCap, .slice sp sLen sCap]).run P w = .ok (goInt m) (w.setRow g (splice cur off news).toArray) := by
    rw [← hrun]
    cases sp <;> simp [Builtin.copy_, run_underlying T.ht, Builtin.lenOf, hm, Builtin.firstCells]
  unfold Oper.wp
  simp [execOp, ho, resolve, invoke, builtin, hd, hs, hrun', Result.andThen]
  exact hK _ _ h

/-- `append(x[:i], make(T, l)...)` where there is no room. -/
theorem run_append_zeros {t ti ty e : TypeId} {size bytes : Nat} (T : SlT P t e size bytes) {k : IntKind} (hti : P.underlying ti = some (.int k))
    (w : World) {p : Option Addr} {n cap : Nat} {cs : List Value} (hx : Sl w size (.slice p n cap) n cs) (l : Nat) (hl0 : 0 < l) (hl : cap < n + l) (hb : (n + l) * bytes ≤ 140737488355328) :
    ∃ c cur, (Builtin.append_ #[t, ti] ty #[.slice p n cap, .int .i64 (l : Int)]).run P w = .ok (.slice (some ⟨w.heap.size, 0, none⟩) (n + l) c) (w.drew.alloc (.cells cur e)) ∧
      n + l ≤ c ∧ c ≤ maxLen ∧ cur.size = c * size ∧ cur.toList.take (n * size) = cs := by
  obtain ⟨i, z, hi, hz, h2, h3, h4⟩ := T.info
  have hbp := T.bpos
  have hsp := T.pos
  have hnl : n + l ≤ 140737488355328 := Nat.le_trans (Nat.le_mul_of_pos_right _ hbp) hb
  have hlw : IntKind.i64.wrap (l : Int) = l := wrap_nat (by omega)
  have hlb : ¬ ((281474976710656 : Int) < (l : Int) * (bytes : Int)) := by
    have h5 : l * bytes ≤ (n + l) * bytes := Nat.mul_le_mul_right _ (by omega)
    have h6 : ((l * bytes : Nat) : Int) ≤ 140737488355328 := by omega
    rw [Int.natCast_mul] at h6
    omega
  have hl1 : ¬ ((l : Int) < 0) := by omega
  have hroom : ¬ (n + l ≤ cap) := by omega
  have h63 : ¬ (9223372036854775807 < ((n : Int) + (l : Int))) := by omega
  have hfit := growslice_fits (old := cap) (by omega) hb
  have h48 : ¬ (281474976710656 < Builtin.nextslicecap (n + l) cap * bytes) := by omega
  have hold : (Builtin.firstCells size n (.slice p n cap)).run P w.drew = .ok cs.toArray w.drew := by
    obtain ⟨hlen, p', cap', hv, _, _, hpn, hx⟩ := hx
    injection hv with e1 _ e2
    subst e1 e2
    cases p with
    | none =>
      have h0 := hpn rfl
      have hn0 : n = 0 := by
        rcases hx with h | ⟨b, off, h, _⟩
        · exact h
        · cases h
      subst hn0
      have hcs : cs = [] := List.eq_nil_of_length_eq_zero (by simpa using hlen)
      subst hcs
      exact run_firstCells_none w.drew size 0 0 cap
    | some ad =>
      refine run_firstCells_some w.drew size n ad n cap cs hlen (fun j u hj => ?_)
      rcases hx with h | ⟨b, off, hp, _, hc⟩
      · subst h
        have hcs : cs = [] := List.eq_nil_of_length_eq_zero (by simpa using hlen)
        subst hcs
        simp at hj
      · injection hp with hp
        subst hp
        have := hc j u hj
        unfold Addr.add
        split
        · rename_i h0; subst h0; simpa using this
        · exact this
  have hge := grownCap_ge w (n + l) cap e
  have hcm : grownCap w (n + l) cap e ≤ maxLen := grownCap_le_maxLen w (n + l) cap e (by simp only [maxLen]; omega)
  refine ⟨grownCap w (n + l) cap e, cs.toArray ++ Builtin.zeroCells z.cells l ++ Builtin.zeroCells z.cells (grownCap w (n + l) cap e - (n + l)), ?_, hge, hcm, ?_, ?_⟩
  · have hls : ¬ (l * size = 0) := fun h => by rcases Nat.mul_eq_zero.1 h with h | h <;> omega
    simp [Builtin.append_, run_underlying T.ht, run_underlying hti, sizeOf, typeInfo, zeroValue, hi, hz, h2, h3, asInt, asIntOf, hlw, hlb, hl1, hroom, h63, h48, Question.forced, hold, newRow, grownCap, hls]
  · simp only [Array.size_append, List.size_toArray, hx.len, size_zeroCells, h4]
    rw [← Nat.add_mul, ← Nat.add_mul]
    congr 1; omega
  · simp only [Array.toList_append]
    rw [List.append_assoc, ← hx.len]
    exact List.take_left

theorem wpList_app_zeros (hgd : o.guard = none) (s x : Operand) {t ti e : TypeId} {size bytes : Nat} (T : SlT P t e size bytes) {k : IntKind} (hti : P.underlying ti = some (.int k))
    (ho : o.op = .call { callee := .builtin .append, args := #[s, x], argTypes := #[t, ti] })
    {p : Option Addr} {n cap : Nat} {cs : List Value} (hs : a.eval s = .slice p n cap) (hx : Sl w size (.slice p n cap) n cs) (l N : Nat) (hN : n + l = N) (hxl : a.eval x = .int .i64 (l : Int))
    (hl0 : 0 < l) (hl : cap < n + l) (hb : (n + l) * bytes ≤ 140737488355328)
    (h : ∀ c cur, N ≤ c → c ≤ maxLen → cur.size = c * size → cur.toList.take (n * size) = cs →
      wpList P ops Q rest (a.put o.dst (.slice (some ⟨w.heap.size, 0, none⟩) N c)) (w.drew.alloc (.cells cur e))) : wpList P ops Q (o :: rest) a w := by
  subst hN
  refine wpList_plain hgd fun K hK => ?_
  obtain ⟨c, cur, hrun, h1, h2, h3, h4⟩ := run_append_zeros (ty := o.type) T hti w hx l hl0 hl hb
  unfold Oper.wp
  simp [execOp, ho, resolve, invoke, builtin, hs, hxl, hrun, Result.andThen]
  exact hK _ _ (h c cur h1 h2 h3 h4)

end
end Go.Dm
