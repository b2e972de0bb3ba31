/- Texts of the base. -/

import Derived.WalkKit
import Derived.WalkSpells
import Derived.WalkLawsBesides
import Derived.Laws.CopyOwn
import Derived.Lib.Hide
import Derived.Handy
namespace Go.Dm
open Go Go.RowKit
def Sl (w : World) (sz : Nat) (v : Value) (n : Nat) (cs : List Value) : Prop :=
 cs.length = n * sz ∧ ∃ p cap, v = .slice p n cap ∧ n ≤ cap ∧ cap ≤ maxLen ∧ (p = none → cap = 0) ∧
  (n = 0 ∨ ∃ b off, p = some ⟨b, off, none⟩ ∧ b < w.heap.size ∧ ∀ j u, cs[j]? = some u → w.cell? ⟨b, off + j, none⟩ = some u)
theorem Sl.len {w : World} {sz n cs v} (h : Sl w sz v n cs) : cs.length = n * sz := h.1
theorem Sl.shape {w : World} {sz n cs v} (h : Sl w sz v n cs) : ∃ p cap, v = .slice p n cap ∧ n ≤ cap ∧ cap ≤ maxLen ∧ (p = none → cap = 0) := by
 obtain ⟨_, p, cap, h1, h2, h3, h4, _⟩ := h
 exact ⟨p, cap, h1, h2, h3, h4⟩
theorem Sl.at {w : World} {sz n cs p cap} (h : Sl w sz (.slice p n cap) n cs) (hn : 0 < n) :
  ∃ b off, p = some ⟨b, off, none⟩ ∧ b < w.heap.size ∧ ∀ j u, cs[j]? = some u → w.cell? ⟨b, off + j, none⟩ = some u := by
 obtain ⟨_, p', cap', hv, _, _, _, h⟩ := h
 injection hv with e1 _ e2
 subst e1 e2
 rcases h with h | h
 ·omega
 ·exact h
theorem Sl.below {w w' : World} {B sz v n cs} (h : Sl w sz v n cs) (hb : Below B w w') (hB : w.heap.size ≤ B) : Sl w' sz v n cs := by
 obtain ⟨hl, p, cap, hv, hn, hm, hz, h⟩ := h
 refine ⟨hl, p, cap, hv, hn, hm, hz, ?_⟩
 rcases h with h | ⟨b, off, hp, hlt, h⟩
 ·exact Or.inl h
 ·exact Or.inr ⟨b, off, hp, Nat.lt_of_lt_of_le hlt hb.size, fun j u hj => by rw [hb.cell (by exact Nat.lt_of_lt_of_le hlt hB)]; exact h j u hj⟩
theorem Sl.nil (w : World) (sz : Nat) : Sl w sz (.slice none 0 0) 0 [] := ⟨by simp, none, 0, rfl, by omega, by simp [maxLen], fun _ => rfl, Or.inl rfl⟩
theorem Sl.of_owns {w : World} {B e sz v n xs} (h : w.ownsRow B e sz v n xs) : Sl w sz v n xs := by
 obtain ⟨hl, h⟩ := h
 rcases h with ⟨rfl, rfl⟩ | ⟨g, cap, cur, rfl, hb, hg, hn, hm, hc, ht⟩
 ·exact ⟨hl, none, 0, rfl, by omega, by simp [maxLen], fun _ => rfl, Or.inl rfl⟩
 ·refine ⟨hl, some ⟨g, 0, none⟩, cap, rfl, hn, hm, by simp, Or.inr ⟨g, 0, rfl, (Array.getElem?_eq_some_iff.1 hg).1, fun j u hj => ?_⟩⟩
  rw [cell_of_row w g _ cur e (0, 0) hg]
  rw [← ht, List.getElem?_take] at hj
  split at hj
  ·simpa using hj
  ·cases hj
theorem Sl.take {w : World} {sz n cs p cap} (h : Sl w sz (.slice p n cap) n cs) {k : Nat} (hk : k ≤ n) : Sl w sz (.slice p k cap) k (cs.take (k * sz)) := by
 obtain ⟨hl, p', cap', hv, hn, hm, hz, h⟩ := h
 injection hv with e1 _ e2
 subst e1 e2
 have hle : k * sz ≤ n * sz := Nat.mul_le_mul_right _ hk
 refine ⟨by rw [List.length_take, hl]; omega, p, cap, rfl, by omega, hm, hz, ?_⟩
 rcases h with h | ⟨b, off, hp, hlt, h⟩
 ·exact Or.inl (by omega)
 ·refine Or.inr ⟨b, off, hp, hlt, fun j u hj => h j u ?_⟩
  rw [List.getElem?_take] at hj
  split at hj
  ·exact hj
  ·cases hj
def dropV (p : Option Addr) (n cap k sz : Nat) : Value := .slice (if cap = k then p else p.map (·.add (k * sz))) (n - k) (cap - k)
theorem Sl.drop {w : World} {sz n cs p cap} (h : Sl w sz (.slice p n cap) n cs) {k : Nat} (hk : k ≤ n) : Sl w sz (dropV p n cap k sz) (n - k) (cs.drop (k * sz)) := by
 obtain ⟨hl, p', cap', hv, hn, hm, hz, h⟩ := h
 injection hv with e1 _ e2
 subst e1 e2
 have hle : k * sz ≤ n * sz := Nat.mul_le_mul_right _ hk
 refine ⟨by rw [List.length_drop, hl, Nat.sub_mul], _, cap - k, rfl, by omega, by omega, ?_, ?_⟩
 ·intro h0
  by_cases hc : cap = k
  ·omega
  ·rw [if_neg hc] at h0
   have : p = none := by cases p <;> simp_all
   have := hz this
   omega
 ·by_cases hnk : n - k = 0
  ·exact Or.inl hnk
  ·rcases h with h | ⟨b, off, hp, hlt, h⟩
   ·omega
   ·refine Or.inr ⟨b, off + k * sz, ?_, hlt, fun j u hj => ?_⟩
    ·rw [if_neg (by omega), hp]
     simp only [Option.map_some, Addr.add]
     split
     ·rename_i h0; rw [h0]; rfl
     ·rfl
    ·rw [List.getElem?_drop] at hj
     rw [Nat.add_assoc]
     exact h _ u hj
theorem wrap_nat {k : Nat} (h : k ≤ 9223372036854775807) : IntKind.i64.wrap (k : Int) = k := by rw [IntKind.wrap_i64]; omega
section
variable {P : Program}
theorem run_slice_high (t e : TypeId) (sz : Nat) (ht : P.underlying t = some (.slice e)) (hs : (P.info? e).map (·.size) = some sz) (p : Option Addr) (n cap k : Nat) (hk : k ≤ cap) (w : World) :
  (Instr.slice t (.slice p n cap) none (some (.int .i64 (k : Int))) none).run P w = .ok (.slice p k cap) w := by
 obtain ⟨i, hi, _⟩ : ∃ i, P.info? e = some i ∧ i.size = sz := by
  cases h : P.info? e with
  | none => simp [h] at hs
  | some i => exact ⟨i, rfl, by simpa [h] using hs⟩
 simp [Instr.slice, Instr.sliceBounds, Instr.sliceBound, asIntOf, run_underlying ht, sizeOf, typeInfo, hi, Addr.add]
 intro h
 omega
variable (w : World)
theorem run_append_sl (base : Nat) (t ty e : TypeId) (i : TypeInfo) (z : Value) (size bytes : Nat) (ht : P.underlying t = some (.slice e)) (hi : P.info? e = some i) (hz : i.zero = some z)
  (hsize : i.size = size) (hby : i.bytes = bytes) (hzs : z.cells.size = size) (hsz : 0 < size)
  (v : Value) (n : Nat) (xs : List Value) (hown : w.ownsRow base e size v n xs)
  (x : Value) (m : Nat) (news : List Value) (hx : Sl w size x m news) (h1 : ∀ u ∈ news, u.oneCell' = true)
  (h63 : n + m ≤ maxLen) (hbytes : (n + m) * bytes ≤ 140737488355328) (hbase : base ≤ w.heap.size) :
  ∃ v' w', (Builtin.append_ #[t, t] ty #[v, x]).run P w = .ok v' w' ∧ w'.ownsRow base e size v' (n + m) (xs ++ news) ∧ w.grownBy w' v.ownBlock := by
 obtain ⟨hl, p, cap, rfl, hnc, hm, hpn, hx⟩ := hx
 cases p with
 | none =>
  have hcap := hpn rfl
  subst hcap
  have hm0 : m = 0 := by omega
  subst hm0
  have hn0 : news = [] := List.eq_nil_of_length_eq_zero (by simpa using hl)
  subst hn0
  refine ⟨v, w, run_append_owned_none w base t ty e i size ht hi v n xs hown, by simpa using hown, ⟨rfl, rfl, rfl, Nat.le_refl _, fun _ _ _ => rfl⟩⟩
 | some a =>
  have hcells : ∀ j u, news[j]? = some u → w.cell? (a.add j) = some u := by
   intro j u hj
   rcases hx with h0 | ⟨b, off, hp, hlt, h⟩
   ·subst h0
    have hn0 : news = [] := List.eq_nil_of_length_eq_zero (by simpa using hl)
    subst hn0
    simp at hj
   ·injection hp with hp
    subst hp
    have := h j u hj
    unfold Addr.add
    split
    ·rename_i h0; subst h0; simpa using this
    ·exact this
  obtain ⟨v', w', r1, r2, r3, _⟩ := run_append_own (P := P) w base t ty e i z size bytes ht hi hz hsize hby hzs hsz v n xs hown a m cap news hl hcells h1 h63 hbytes hbase
  exact ⟨v', w', r1, r2, r3⟩
theorem wp_append_sl {o : Oper} {a : Act} {K : Act → World → Prop} {Q : Exit → Act → World → Prop} (s x : Operand) (t : TypeId)
  (ho : o.op = .call { callee := .builtin .append, args := #[s, x], argTypes := #[t, t] })
  (base : Nat) (e : TypeId) (i : TypeInfo) (z : Value) (size bytes : Nat) (ht : P.underlying t = some (.slice e)) (hi : P.info? e = some i) (hz : i.zero = some z)
  (hsize : i.size = size) (hby : i.bytes = bytes) (hzs : z.cells.size = size) (hsz : 0 < size)
  (v : Value) (n : Nat) (xs : List Value) (hs : a.eval s = v) (hown : w.ownsRow base e size v n xs)
  (u : Value) (m : Nat) (news : List Value) (hu : a.eval x = u) (hx : Sl w size u m news) (h1 : ∀ u ∈ news, u.oneCell' = true)
  (h63 : n + m ≤ maxLen) (hbytes : (n + m) * bytes ≤ 140737488355328) (hbase : base ≤ w.heap.size)
  (h : ∀ v' w', w'.ownsRow base e size v' (n + m) (xs ++ news) → w.grownBy w' v.ownBlock → K (a.put o.dst v') w') : o.wp P a w K Q := by
 obtain ⟨v', w', hr, h2, h3⟩ := run_append_sl (P := P) w base t o.type e i z size bytes ht hi hz hsize hby hzs hsz v n xs hown u m news hx h1 h63 hbytes hbase
 unfold Oper.wp execOp
 simp only [ho, resolve, invoke, builtin, Sem.run_bind, Sem.run_pure, Result.andThen_ok, List.map_toArray, List.map_cons, List.map_nil, hs, hu, hr]
 exact h v' w' h2 h3
theorem wpList_append_sl {ops : Array Oper} {rest : List Oper} {o : Oper} {a : Act} {Q : Exit → Act → World → Prop} (hgd : o.guard = none) (s x : Operand) (t : TypeId)
  (ho : o.op = .call { callee := .builtin .append, args := #[s, x], argTypes := #[t, t] })
  (base : Nat) (e : TypeId) (i : TypeInfo) (z : Value) (size bytes : Nat) (ht : P.underlying t = some (.slice e)) (hi : P.info? e = some i) (hz : i.zero = some z)
  (hsize : i.size = size) (hby : i.bytes = bytes) (hzs : z.cells.size = size) (hsz : 0 < size)
  (v : Value) (n : Nat) (xs : List Value) (hs : a.eval s = v) (hown : w.ownsRow base e size v n xs)
  (u : Value) (m : Nat) (news : List Value) (hu : a.eval x = u) (hx : Sl w size u m news) (h1 : ∀ u ∈ news, u.oneCell' = true)
  (h63 : n + m ≤ maxLen) (hbytes : (n + m) * bytes ≤ 140737488355328) (hbase : base ≤ w.heap.size)
  (h : ∀ v' w', w'.ownsRow base e size v' (n + m) (xs ++ news) → w.grownBy w' v.ownBlock → wpList P ops Q rest (a.put o.dst v') w') : wpList P ops Q (o :: rest) a w :=
 wpList_plain hgd fun _ hK => wp_append_sl w s x t ho base e i z size bytes ht hi hz hsize hby hzs hsz v n xs hs hown u m news hu hx h1 h63 hbytes hbase fun v' w' h2 h3 => hK _ _ (h v' w' h2 h3)
end
structure SlT (P : Program) (t e : TypeId) (size bytes : Nat) : Prop where
 ht : P.underlying t = some (.slice e)
 info : ∃ i z, P.info? e = some i ∧ i.zero = some z ∧ i.size = size ∧ i.bytes = bytes ∧ z.cells.size = size
 pos : 0 < size
 bpos : 0 < bytes
theorem SlT.mk' {P : Program} {t e : TypeId} {size bytes : Nat} (ht : P.underlying t = some (.slice e))
  (hi : (P.info? e).map (fun i => (i.zero.map (·.cells.size), i.size, i.bytes)) = some (some size, size, bytes)) (h1 : 0 < size) (h2 : 0 < bytes) : SlT P t e size bytes := by
 refine ⟨ht, ?_, h1, h2⟩
 cases h : P.info? e with
 | none => simp [h] at hi
 | some i =>
  simp [h] at hi
  obtain ⟨⟨z, hz, hs⟩, h3, h4⟩ := hi
  exact ⟨i, z, rfl, hz, h3, h4, hs⟩
theorem SlT.hs {P : Program} {t e : TypeId} {size bytes : Nat} (T : SlT P t e size bytes) : (P.info? e).map (·.size) = some size := by
 obtain ⟨i, z, h1, _, h2, _⟩ := T.info
 simp [h1, h2]
section
variable {P : Program} {w : World} {ops : Array Oper} {rest : List Oper} {o : Oper} {a : Act} {Q : Exit → Act → World → Prop}
theorem wpList_app (hgd : o.guard = none) (s x : Operand) {t e : TypeId} {size bytes : Nat} (T : SlT P t e size bytes)
  (ho : o.op = .call { callee := .builtin .append, args := #[s, x], argTypes := #[t, t] })
  {base : Nat} {v : Value} {n : Nat} {xs : List Value} (hs : a.eval s = v) (hown : w.ownsRow base e size v n xs)
  {u : Value} {m : Nat} {news : List Value} (hu : a.eval x = u) (hx : Sl w size u m news) (h1 : ∀ u ∈ news, u.oneCell' = true)
  (hbytes : (n + m) * bytes ≤ 140737488355328) (hbase : base ≤ w.heap.size)
  (h : ∀ v' w', w'.ownsRow base e size v' (n + m) (xs ++ news) → w.grownBy w' v.ownBlock → wpList P ops Q rest (a.put o.dst v') w') : wpList P ops Q (o :: rest) a w := by
 obtain ⟨i, z, hi, hz, h2, h3, h4⟩ := T.info
 refine wpList_append_sl w hgd s x t ho base e i z size bytes T.ht hi hz h2 h3 h4 T.pos v n xs hs hown u m news hu hx h1 ?_ hbytes hbase h
 have := Nat.le_trans (Nat.le_mul_of_pos_right (n + m) T.bpos) hbytes
 simp only [maxLen]
 omega
end
theorem Sl.lit (w : World) (e : TypeId) (sz n : Nat) (cs : Array Value) (hc : cs.size = n * sz) (hn : n ≤ maxLen) :
  Sl (w.alloc (.cells cs e)) sz (.slice (some ⟨w.heap.size, 0, none⟩) n n) n cs.toList :=
 Sl.of_owns (B := 0) (e := e) (World.ownsRow_lit w cs n (Nat.zero_le _) hn hc)
def firstP {α : Type} (p : α → Bool) : List α → Option Nat
 | [] => none
 | x :: l => if p x then some 0 else (firstP p l).map (· + 1)
def placeI (o : Option Nat) : Int := match o with | some k => k | none => -1
theorem firstP_hit {α : Type} {p : α → Bool} (d : α) : ∀ {l : List α} {k : Nat}, k < l.length → (∀ j, j < k → p (l.getD j d) = false) → p (l.getD k d) = true → firstP p l = some k
 | x :: l, 0, _, _, h1 => by simp at h1; simp [firstP, h1]
 | x :: l, k+1, hk, h0, h1 => by
  have hx : p x = false := h0 0 (by omega)
  have := firstP_hit d (l := l) (k := k) (by simpa using hk) (fun j hj => h0 (j+1) (by omega)) h1
  simp [firstP, hx, this]
theorem firstP_miss {α : Type} {p : α → Bool} (d : α) : ∀ {l : List α}, (∀ j, j < l.length → p (l.getD j d) = false) → firstP p l = none
 | [], _ => rfl
 | x :: l, h => by
  have hx : p x = false := h 0 (by simp)
  have := firstP_miss d (l := l) (fun j hj => h (j+1) (by simpa using hj))
  simp [firstP, hx, this]
theorem firstP_any {α : Type} (p : α → Bool) : ∀ l : List α, (0 : Int) ≤ placeI (firstP p l) ↔ l.any p = true
 | [] => by simp [firstP, placeI]
 | x :: l => by
  have ih := firstP_any p l
  unfold firstP
  cases hx : p x with
  | true => simp [placeI, hx]
  | false =>
   simp only [Bool.false_eq_true, if_false, List.any_cons, hx, Bool.false_or]
   rw [← ih]
   cases firstP p l with
   | none => simp [placeI]
   | some k => simp only [Option.map_some, placeI]; omega
theorem firstP_some {α : Type} (d : α) {p : α → Bool} : ∀ {l : List α} {k : Nat}, firstP p l = some k → k < l.length ∧ p (l.getD k d) = true ∧ ∀ j, j < k → p (l.getD j d) = false
 | x :: l, k, h => by
  unfold firstP at h
  cases hx : p x with
  | true =>
   rw [hx, if_pos rfl] at h
   injection h with h
   subst h
   exact ⟨by simp, by simpa using hx, fun j hj => by omega⟩
  | false =>
   rw [hx] at h
   simp only [Bool.false_eq_true, if_false] at h
   cases hq : firstP p l with
   | none => rw [hq] at h; cases h
   | some m =>
    rw [hq] at h
    injection h with h
    subst h
    obtain ⟨h1, h2, h3⟩ := firstP_some d hq
    refine ⟨by simpa using h1, by simpa using h2, fun j (hj : j < m + 1) => ?_⟩
    cases j with
    | zero => simpa using hx
    | succ j => simpa using h3 j (by omega)
end Go.Dm
