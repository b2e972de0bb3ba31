/- Texts of the base. -/

import Derived.Test.YtefjdmjkofaajaaGreatDoorT2
import Derived.Deep.Quiet
import Derived.Deep.QuietTactic
import Derived.BigQuiet
namespace Go.Dm
open Go Go.RowKit
def Ext (w w' : World) : Prop := Below w.heap.size w w'
theorem Ext.refl (w : World) : Ext w w := Below.refl _ _
theorem Ext.trans {a b c : World} (h : Ext a b) (k : Ext b c) : Ext a c := Below.trans h (Below.mono k h.size)
theorem Ext.drew (w : World) : Ext w w.drew := (Below.refl _ _).drew
theorem Ext.alloc {w0 w : World} (h : Ext w0 w) (o : Obj) : Ext w0 (w.alloc o) := Below.alloc h h.size o
theorem Ext.app {w0 w w' : World} {base e size : Nat} {v : Value} {n : Nat} {xs : List Value} (h : Ext w0 w) (ho : w.ownsRow base e size v n xs) (hg : w.grownBy w' v.ownBlock) (hb : w0.heap.size ≤ base) : Ext w0 w' :=
 Below.grown h hg h.size (fun k hk => Nat.le_trans hb (ho.lt k hk).1)
theorem Ext.row {w w' : World} {base e size : Nat} {v : Value} {n : Nat} {xs : List Value} (h : w.ownsRow base e size v n xs) (hx : Ext w w') : w'.ownsRow base e size v n xs := by
 obtain ⟨hl, h⟩ := h
 refine ⟨hl, ?_⟩
 rcases h with h | ⟨g, cap, cur, hv, hb, hg, r⟩
 ·exact Or.inl h
 ·exact Or.inr ⟨g, cap, cur, hv, hb, by rw [hx.block g (Array.getElem?_eq_some_iff.1 hg).1]; exact hg, r⟩
theorem Ext.box {w w' : World} {cs : Array Value} {e : TypeId} (h : Ext (w.alloc (.cells cs e)) w') : w.heap.size < w'.heap.size ∧ ∀ j u, cs[j]? = some u → w'.cell? ⟨w.heap.size, j, none⟩ = some u := by
 have hs := h.size
 simp only [World.size_alloc] at hs
 refine ⟨by omega, fun j u hj => ?_⟩
 rw [Below.cell h (by simp)]
 simpa using hj
open Classical in
noncomputable def World.grow (w x : World) : World := if Ext w x then x else w
theorem ext_grow (w x : World) : Ext w (World.grow w x) := by
 unfold World.grow
 split
 ·assumption
 ·exact Ext.refl w
theorem grow_ext {w x : World} (h : Ext w x) : World.grow w x = x := by
 unfold World.grow
 rw [if_pos h]
@[go_sem] theorem lt_grow (w x : World) (b : Nat) (h : b < w.heap.size) : b < (World.grow w x).heap.size := Nat.lt_of_lt_of_le h (ext_grow w x).size
@[go_sem] theorem cell_grow (w x : World) (b o : Nat) (h : b < w.heap.size) : (World.grow w x).cell? ⟨b, o, none⟩ = w.cell? ⟨b, o, none⟩ :=
 (ext_grow w x).cell (p := ⟨b, o, none⟩) h
@[go_sem] theorem frozen_grow (w x : World) (b o : Nat) (h : b < w.heap.size) : (World.grow w x).frozen? ⟨b, o, none⟩ = w.frozen? ⟨b, o, none⟩ :=
 (ext_grow w x).frozen (p := ⟨b, o, none⟩) h
theorem Sl.grow {w : World} {sz v n cs} (h : Sl w sz v n cs) (x : World) : Sl (World.grow w x) sz v n cs := h.below (ext_grow w x) (Nat.le_refl _)
theorem Sl.ext {w w' : World} {sz v n cs} (h : Sl w sz v n cs) (hb : Ext w w') : Sl w' sz v n cs := h.below hb (Nat.le_refl _)
theorem wpList_appE {P : Program} {w w0 : World} {ops : Array Oper} {rest : List Oper} {o : Oper} {a : Act} {Q : Exit → Act → World → Prop} (hgd : o.guard = none) (s x : Operand) {t e : TypeId} {size bytes : Nat} (T : SlT P t e size bytes)
  (ho : o.op = .call { callee := .builtin .append, args := #[s, x], argTypes := #[t, t] }) (hw : Ext w0 w)
  {v : Value} {n : Nat} {xs : List Value} (hs : a.eval s = v) (hown : w.ownsRow w0.heap.size e size v n xs)
  {u : Value} {m : Nat} {news : List Value} (hu : a.eval x = u) (hx : Sl w size u m news) (h1 : ∀ u ∈ news, u.oneCell' = true)
  (hbytes : (n + m) * bytes ≤ 140737488355328)
  (h : ∀ v' w', w'.ownsRow w0.heap.size e size v' (n + m) (xs ++ news) → Ext w0 w' → (v.ownBlock = none → Ext w w') → wpList P ops Q rest (a.put o.dst v') w') : wpList P ops Q (o :: rest) a w :=
 wpList_app hgd s x T ho hs hown hu hx h1 hbytes hw.size fun v' w' h2 h3 => h v' w' h2 (hw.app hown h3 (Nat.le_refl _))
  (fun h0 => (Below.refl _ _).grown h3 (Nat.le_refl _) (fun k hk => by rw [h0] at hk; cases hk))
section
variable {P : Program} {ops : Array Oper} {Q : Exit → Act → World → Prop} {md : Region.Mode} {w0 : World}
def wpE (P : Program) (md : Region.Mode) (ops : Array Oper) (Q : Exit → Act → World → Prop) (w0 : World) : Nat → Array Bool → Act → World → Prop
 | 0, listed, a, w => Ext w0 w ∧ ∀ w', Ext w w' → Region.ready md ops listed = [] ∧ Q .normal a w'
 | fuel + 1, listed, a, w => Ext w0 w ∧ ∀ w', Ext w w' →
  (Region.ready md ops listed = [] → Q .normal a w') ∧
  ∀ i ∈ Region.ready md ops listed, wpOp P ops Q i (wpE P md ops Q w0 fuel (listed.setIfInBounds i true)) a w'
theorem wpE.ext : ∀ {fuel : Nat} {listed : Array Bool} {a : Act} {w w' : World}, wpE P md ops Q w0 fuel listed a w → Ext w w' → wpE P md ops Q w0 fuel listed a w'
 | 0, _, _, _, _, h, hb => ⟨h.1.trans hb, fun x hx => h.2 x (hb.trans hx)⟩
 | _ + 1, _, _, _, _, h, hb => ⟨h.1.trans hb, fun x hx => h.2 x (hb.trans hx)⟩
theorem wpE.base : ∀ {fuel : Nat} {listed : Array Bool} {a : Act} {w : World}, wpE P md ops Q w0 fuel listed a w → Ext w0 w
 | 0, _, _, _, h => h.1
 | _ + 1, _, _, _, h => h.1
theorem wpE.any : ∀ (fuel : Nat) (listed : Array Bool) (a : Act) (w : World), wpE P md ops Q w0 fuel listed a w → wpAny P md ops Q fuel listed a w
 | 0, _, _, w, h => h.2 w (Ext.refl w)
 | fuel + 1, _, _, w, h => ⟨(h.2 w (Ext.refl w)).1, fun i hi => wpOp_mono (fun a' w' h' => wpE.any fuel _ a' w' h') ((h.2 w (Ext.refl w)).2 i hi)⟩
theorem wp_region_ext {id : Nat} {l : List Oper} {a : Act} {w : World} (n : Nat) (L : Array Bool) (_hx : Ext w0 w) (hm : P.follows .mixedOrders = true) (hn : l.length = n) (hL : Array.replicate n false = L)
  (h : wpE P .any l.toArray Q w0 n L a w) : (Code.region id l.toArray true).wp P Q a w := by
 subst hn hL
 exact wp_region_any hm (by simpa using wpE.any _ _ _ _ (h.ext (Ext.drew w)))
def QuietE (P : Program) (ops : Array Oper) (w0 : World) (o : Oper) (a a1 : Act) : Prop :=
 ∀ x, wpQuiet P ops (fun w' => ∃ y, w' = World.grow (World.grow w0 x) y) (fun a' => a' = a1) [o] a
theorem quietUpon_mono {C C' : World → Prop} {w : World} {v : Value} {r : Result Next} (hC : ∀ x, C x → C' x) (h : Oper.quietUpon P C w v r) : Oper.quietUpon P C' w v r := by
 cases r with
 | ok n w' =>
  cases n <;> simp only [Oper.quietUpon] at h ⊢
  ·exact h
  ·exact h
  ·exact ⟨h.1, h.2.mono fun e w'' ⟨h1, h2⟩ => ⟨h1, hC _ h2⟩⟩
 | halt x w' => simp only [Oper.quietUpon] at h
theorem QuietE.yields {o : Oper} {a a1 : Act} (h : QuietE P ops w0 o a a1) :
  ∃ v, a1 = a.put o.dst v ∧ (∀ v', a1 = a.put o.dst v' → True) ∧ ((Region.wanted o (yielded ops a.tmps) = true ∧ ∀ w, Ext w0 w → ∃ v', a1 = a.put o.dst v' ∧ o.quietAt P a (Ext w) w v') ∨ (Region.wanted o (yielded ops a.tmps) = false ∧ v = undef)) := by
 by_cases hw : Region.wanted o (yielded ops a.tmps) = true
 ·have one : ∀ w, Ext w0 w → ∃ v', a1 = a.put o.dst v' ∧ o.quietAt P a (Ext w) w v' := by
   intro w hwx
   have h1 := h w
   rw [grow_ext hwx] at h1
   simp only [wpQuiet, hw, if_true] at h1
   obtain ⟨v, h2, h3⟩ := h1
   refine ⟨v, h3.symm, ?_⟩
   have := h2 w ⟨w, (grow_ext (Ext.refl w)).symm⟩
   exact quietUpon_mono (fun x ⟨y, hy⟩ => hy ▸ ext_grow w y) this
  obtain ⟨v, h1, _⟩ := one w0 (Ext.refl w0)
  exact ⟨v, h1, fun _ _ => trivial, Or.inl ⟨hw, one⟩⟩
 ·have h1 := h w0
  simp only [wpQuiet, hw] at h1
  exact ⟨undef, h1.symm, fun _ _ => trivial, Or.inr ⟨by simpa using hw, rfl⟩⟩
def RunsE (P : Program) (ops : Array Oper) (w0 : World) (o : Oper) (v : Value) (a : Act) : Prop :=
 (Region.wanted o (yielded ops a.tmps) = true ∧ ∀ w, Ext w0 w → ∃ v', (∀ b : Act, b.tmps.size = a.tmps.size → b.put o.dst v' = b.put o.dst v) ∧ o.quietAt P a (Ext w) w v') ∨
 (Region.wanted o (yielded ops a.tmps) = false ∧ v = undef)
theorem put_eq {a : Act} {d : Option Tmp} {v v' : Value} (h : a.put d v = a.put d v') (b : Act) (hb : b.tmps.size = a.tmps.size) : b.put d v = b.put d v' := by
 cases d with
 | none => rfl
 | some t =>
  simp only [Act.put, Act.mk.injEq, and_true] at h ⊢
  by_cases ht : t < a.tmps.size
  ·have e1 : (a.tmps.setIfInBounds t v)[t]? = some v := by simp [ht]
   have e2 : (a.tmps.setIfInBounds t v')[t]? = some v' := by simp [ht]
   rw [h, e2] at e1
   injection e1 with e1
   rw [e1]
  ·have hs : ∀ u, b.tmps.setIfInBounds t u = b.tmps := fun u => by
    simp only [Array.setIfInBounds]
    rw [dif_neg (by rw [hb]; exact ht)]
   rw [hs, hs]
theorem size_put (a : Act) (d : Option Tmp) (v : Value) : (a.put d v).tmps.size = a.tmps.size := by
 cases d <;> simp [Act.put]
theorem QuietE.runs {o : Oper} {a a1 : Act} (h : QuietE P ops w0 o a a1) : ∃ v, a1 = a.put o.dst v ∧ RunsE P ops w0 o v a := by
 obtain ⟨v, h1, _, h3⟩ := h.yields
 refine ⟨v, h1, ?_⟩
 rcases h3 with ⟨hw, h3⟩ | h3
 ·refine Or.inl ⟨hw, fun w hx => ?_⟩
  obtain ⟨v', h4, h5⟩ := h3 w hx
  exact ⟨v', fun b hb => put_eq (h4.symm.trans h1) b hb, h5⟩
 ·exact Or.inr h3
theorem RunsE.of_same {o : Oper} {v : Value} {a a' : Act} (hy : RunsE P ops w0 o v a) (hs : a'.tmps.size = a.tmps.size) (he : execOp a'.eval o = execOp a.eval o)
  (hw : Region.wanted o (yielded ops a'.tmps) = Region.wanted o (yielded ops a.tmps)) : RunsE P ops w0 o v a' := by
 unfold RunsE Oper.quietAt at *
 rw [he, hw, hs]
 exact hy
theorem RunsE.wpOp {i : Nat} {o : Oper} {v : Value} {a : Act} (hi : ops[i]? = some o) (hy : RunsE P ops w0 o v a)
  {K : Act → World → Prop} {w : World} (hx : Ext w0 w) (h : ∀ w', Ext w w' → K (a.put o.dst v) w') : wpOp P ops Q i K a w := by
 unfold Go.wpOp
 simp only [hi]
 rcases hy with ⟨hw, hv⟩ | ⟨hw, rfl⟩
 ·simp only [hw, if_true]
  obtain ⟨v', h1, h2⟩ := hv w hx
  rw [← h1 a rfl] at h
  left
  unfold Oper.quietAt at h2
  unfold Oper.wp
  generalize (execOp a.eval o).run P w = r at *
  cases r with
  | ok n w' =>
   cases n <;> simp only [Oper.quietUpon] at h2 <;> simp only [Oper.upon]
   ·obtain ⟨e1, e2⟩ := h2; rw [e1, e2]; exact h w (Ext.refl w)
   ·obtain ⟨e1, e2⟩ := h2; rw [e1, ← e2]; exact h w (Ext.refl w)
   ·obtain ⟨e1, hc⟩ := h2; rw [e1]; exact hc.mono fun e w'' ⟨he, hw''⟩ => by subst he; exact h w'' hw''
  | halt x w' => simp only [Oper.quietUpon] at h2
 ·simp only [hw, Bool.false_eq_true, if_false]; exact h w (Ext.refl w)
theorem wpOp_putE {j : Nat} {oi oj : Oper} {v : Value} (hj : ops[j]? = some oj) (hap : oi.apart ops oj = true)
  (hsi : ∀ cs b, oi.op ≠ .select cs b) (hsj : ∀ cs b, oj.op ≠ .select cs b)
  (hQ : ∀ c a w, Q (.panic c) (a.put oi.dst v) w → Q (.panic c) a w) {K : Act → World → Prop} {a : Act} {w : World}
  (hy : RunsE P ops w0 oi v a) (h : wpOp P ops Q j K (a.put oi.dst v) w) :
  wpOp P ops Q j (fun a' w' => RunsE P ops w0 oi v a' ∧ K (a'.put oi.dst v) w') a w := by
 obtain ⟨h1, h2, h3⟩ := Oper.apart_spec hap
 have keep : ∀ (a : Act), RunsE P ops w0 oi v a → ∀ u, RunsE P ops w0 oi v (a.put oj.dst u) := fun a hy u =>
  hy.of_same (size_put _ _ _) (execOp_put oi hsi a oj.dst u h3) (wanted_put oi a oj.dst u h3)
 have keepD : ∀ d, RunsE P ops w0 oi v { a with defers := d :: a.defers } := fun d => hy.of_same rfl rfl rfl
 unfold wpOp at *
 simp only [hj] at *
 rw [wanted_put oj a oi.dst v h1] at h
 split
 ·rename_i hw
  simp only [hw, if_true] at h
  rcases h with h | ⟨hasks, hlets⟩
  case inr => exact .inr ⟨by unfold Oper.asks at *; rw [execOp_put oj hsj a oi.dst v h1] at hasks; exact hasks, hlets⟩
  refine .inl ?_
  unfold Oper.wp at *
  rw [execOp_put oj hsj a oi.dst v h1] at h
  generalize (execOp a.eval oj).run P w = r at *
  cases r with
  | ok n w' =>
   cases n <;> simp only [Oper.upon] at h ⊢
   case value u => exact ⟨keep a hy u, by rw [← Act.put_comm a v u h2]; exact h⟩
   case skip => exact ⟨keep a hy _, by rw [← Act.put_comm a v undef h2]; exact h⟩
   case defer d =>
    refine ⟨keep _ (keepD d) _, ?_⟩
    rw [← Act.put_comm _ v undef h2, ← Act.put_defers]
    exact h
   case enter f args =>
    refine Calls.mono h fun e w'' he => ?_
    cases e with
    | returned u => exact ⟨keep a hy u, by rw [← Act.put_comm a v u h2]; exact he⟩
    | panicked c => exact hQ _ _ _ he
    | outgrown => exact he
   case row row args => exact Rows.mono h fun u w'' he => ⟨keep a hy u, by rw [← Act.put_comm a v u h2]; exact he⟩
  | halt x w' =>
   cases x <;> simp only [Oper.upon] at h ⊢
   case panic u => exact hQ _ _ _ h
 ·rename_i hw
  simp only [hw] at h
  exact ⟨keep a hy _, by rw [← Act.put_comm a v undef h2]; exact h⟩
theorem wpE_first {i : Nat} {oi : Oper} {v : Value} (hi : ops[i]? = some oi) (hsel : ∀ (j : Nat) (o : Oper) cs b, ops[j]? = some o → o.op ≠ .select cs b)
  (hQ : ∀ c a w, Q (.panic c) (a.put oi.dst v) w → Q (.panic c) a w) :
  ∀ (fuel : Nat) (listed : Array Bool) (a : Act) (w : World),
   (∀ j oj, ops[j]? = some oj → j ≠ i → listed.getD j true = false → (∀ e ∈ oj.after, Region.binds md e = true → e.on ≠ i) → oi.apart ops oj = true) →
   i ∈ Region.ready md ops listed → RunsE P ops w0 oi v a →
   wpE P md ops Q w0 fuel (listed.setIfInBounds i true) (a.put oi.dst v) w → wpE P md ops Q w0 (fuel + 1) listed a w := by
 intro fuel
 induction fuel with
 | zero =>
  intro listed a w _ hr hy H
  refine ⟨H.base, fun w' hx => ⟨fun h => (by rw [h] at hr; cases hr), fun j hj => ?_⟩⟩
  by_cases hji : j = i
  ·subst hji; exact hy.wpOp hi (H.base.trans hx) (fun w'' hx' => H.ext (hx.trans hx'))
  ·have := ready_mono hj hji
   rw [(H.2 w' hx).1] at this
   cases this
 | succ fuel ih =>
  intro listed a w hfree hr hy H
  refine ⟨H.base, fun w' hx => ⟨fun h => (by rw [h] at hr; cases hr), fun j hj => ?_⟩⟩
  by_cases hji : j = i
  ·subst hji; exact hy.wpOp hi (H.base.trans hx) (fun w'' hx' => H.ext (hx.trans hx'))
  ·have h1 := (H.2 w' hx).2 j (ready_mono hj hji)
   obtain ⟨hjun, oj, hoj, hall⟩ := mem_ready.1 hj
   have hnot : ∀ e ∈ oj.after, Region.binds md e = true → e.on ≠ i := fun e he hb heq => by
    have h1 := hall e he hb
    have h0 := (mem_ready.1 hr).1
    rw [heq] at h1
    rcases Nat.lt_or_ge i listed.size with h' | h'
    ·simp [h'] at h0 h1; rw [h0] at h1; cases h1
    ·simp [Array.getElem?_eq_none h'] at h1
   have h2 := wpOp_putE hoj (hfree j oj hoj hji hjun hnot) (fun cs b => hsel i oi cs b hi) (fun cs b => hsel j oj cs b hoj) hQ hy h1
   have hfree' : ∀ k ok, ops[k]? = some ok → k ≠ i → (listed.setIfInBounds j true).getD k true = false →
     (∀ e ∈ ok.after, Region.binds md e = true → e.on ≠ i) → oi.apart ops ok = true := fun k ok hk hki hun hno => by
    refine hfree k ok hk hki ?_ hno
    by_cases hjk : j = k
    ·subst hjk; exact hjun
    ·rw [getD_set_ne true hjk] at hun; exact hun
   refine wpOp_mono (fun a' w'' h3 => ih (listed.setIfInBounds j true) a' w'' hfree' (ready_mono hr (Ne.symm hji)) h3.1 ?_) h2
   rw [Array.setIfInBounds_comm _ _ hji]
   exact h3.2
def bits (n m : Nat) : Array Bool := ((List.range n).map fun i => m.testBit i).toArray
theorem wpE_take {l : List Oper} {i : Nat} {o : Oper} {fuel : Nat} {listed listed' : Array Bool} {a : Act} {w : World}
  (hB : (Region.noSelect l.toArray && Region.free md l.toArray listed i && (Region.ready md l.toArray listed).contains i) = true)
  (hl : listed.setIfInBounds i true = listed')
  (ho : l[i]? = some o)
  (hQ : ∀ c a w v, Q (.panic c) (a.put o.dst v) w → Q (.panic c) a w)
  (hq : ∃ a1, QuietE P l.toArray w0 o a a1 ∧ wpE P md l.toArray Q w0 fuel listed' a1 w) : wpE P md l.toArray Q w0 (fuel + 1) listed a w := by
 simp only [Bool.and_eq_true] at hB
 obtain ⟨a1, hq, h⟩ := hq
 obtain ⟨v, rfl, hr⟩ := hq.runs
 have ho' : l.toArray[i]? = some o := by simpa using ho
 exact wpE_first ho' (Region.noSelect_spec hB.1.1) (fun c a w => hQ c a w v) fuel listed a w (Region.free_spec ho' hB.1.2) (by simpa using hB.2) hr (hl ▸ h)
theorem wpOp_of_list {l : List Oper} {i : Nat} {o : Oper} {K : Act → World → Prop} {a : Act} {w : World} (ho : l[i]? = some o)
  (h1 : wpList P l.toArray (Exit.then K Q) [o] a w) : wpOp P l.toArray Q i K a w := by
 have ho' : l.toArray[i]? = some o := by simpa using ho
 unfold wpOp
 simp only [ho']
 simp only [wpList] at h1
 split
 ·rename_i hw
  rw [if_pos hw] at h1
  rcases h1 with h1 | h1
  ·left
   unfold Oper.wp at *
   generalize (execOp a.eval o).run P w = r at *
   cases r with
   | ok n w' =>
    cases n <;> simp only [Oper.upon] at h1 ⊢ <;> first
     | exact h1
     | (exact Calls.mono h1 fun e w'' he => by cases e <;> first | exact he | (obtain ⟨a2, w2, h2⟩ := he; exact ⟨a2, w2, h2⟩))
     | exact Rows.mono h1 fun u w'' he => he
   | halt x w' => cases x <;> simp only [Oper.upon] at h1 ⊢; exact h1
  ·right
   obtain ⟨h2, a2, w2, h3⟩ := h1
   exact ⟨h2, a2, w2, h3⟩
 ·rename_i hw
  rw [if_neg hw] at h1
  exact h1
theorem tk {l : List Oper} (i m : Nat) {n m0 : Nat} {o : Oper} {fuel : Nat} {a a1 : Act} {w : World}
  (h : wpE P md l.toArray Q w0 fuel (bits n m) a1 w)
  (ho : l[i]? = some o := by exact rfl)
  (hq : QuietE P l.toArray w0 o a a1 := by intro x; go_big_quiet_step (fail); exact wpQuiet_nil rfl)
  (hB : (Region.noSelect l.toArray && Region.free md l.toArray (bits n m0) i && (Region.ready md l.toArray (bits n m0)).contains i) = true := by kernel_rfl)
  (hl : (bits n m0).setIfInBounds i true = bits n m := by kernel_rfl)
  (hQ : ∀ c a w v, Q (.panic c) (a.put o.dst v) w → Q (.panic c) a w := by exact fun _ _ _ _ h => h) : wpE P md l.toArray Q w0 (fuel + 1) (bits n m0) a w :=
 wpE_take hB hl ho hQ ⟨a1, hq, h⟩
def Pick (l : List Oper) : List Nat → List Oper → Prop
 | [], os => os = []
 | i :: is, os => ∃ o os', os = o :: os' ∧ l[i]? = some o ∧ Pick l is os'
theorem Pick.nil {l : List Oper} : Pick l [] [] := rfl
theorem Pick.cons {l : List Oper} {i : Nat} {is : List Nat} {o : Oper} {os : List Oper} (h : l[i]? = some o) (k : Pick l is os) : Pick l (i :: is) (o :: os) := ⟨o, os, rfl, h, k⟩
theorem Pick.range {l : List Oper} {s n : Nat} {o : Oper} {os : List Oper} (h : l[s]? = some o) (k : Pick l (List.range' (s + 1) n) os) : Pick l (List.range' s (n + 1)) (o :: os) := ⟨o, os, rfl, h, k⟩
def dstB : List Oper → Bool
 | [] => true
 | o :: os => (match o.dst with | none => true | some d => os.all fun o' => o'.dst != some d) && dstB os
def takesB (md : Region.Mode) (ops : Array Oper) : Array Bool → List Nat → Bool
 | _, [] => true
 | listed, i :: is => Region.free md ops listed i && (Region.ready md ops listed).contains i && takesB md ops (listed.setIfInBounds i true) is
theorem wpQuiet_keeps {C : World → Prop} {a1 : Act} {d : Tmp} : ∀ {os : List Oper} {b : Act}, (os.all fun o' => o'.dst != some d) = true → wpQuiet P ops C (fun a' => a' = a1) os b → a1.tmps[d]? = b.tmps[d]?
 | [], _, _, h => by rw [show _ = _ from h]
 | o :: os, b, hd, h => by
  simp only [List.all_cons, Bool.and_eq_true, bne_iff_ne, ne_eq] at hd
  have put : ∀ v, (b.put o.dst v).tmps[d]? = b.tmps[d]? := fun v => by
   cases ho : o.dst with
   | none => rfl
   | some e =>
    have : e ≠ d := fun h => hd.1 (by rw [ho, h])
    simp [Act.put, this]
  unfold wpQuiet at h
  split at h
  ·obtain ⟨v, _, h⟩ := h
   rw [wpQuiet_keeps hd.2 h, put]
  ·rw [wpQuiet_keeps hd.2 h, put]
theorem quiet_cons {W : Type} {G : W → World} {C : W → World → Prop} {o : Oper} {os : List Oper} {a a1 : Act} (x0 : W) (hd : dstB (o :: os) = true)
  (hG : ∀ x, C x (G x)) (hC : ∀ x w', C x w' → Ext (G x) w') (h : ∀ x, wpQuiet P ops (C x) (fun a' => a' = a1) (o :: os) a) :
  ∃ v, ((Region.wanted o (yielded ops a.tmps) = true ∧ ∀ x, ∃ v', (∀ b : Act, b.tmps.size = a.tmps.size → b.put o.dst v' = b.put o.dst v) ∧ o.quietAt P a (Ext (G x)) (G x) v') ∨ (Region.wanted o (yielded ops a.tmps) = false ∧ v = undef)) ∧
   ∀ x, wpQuiet P ops (C x) (fun a' => a' = a1) os (a.put o.dst v) := by
 simp only [dstB, Bool.and_eq_true] at hd
 by_cases hw : Region.wanted o (yielded ops a.tmps) = true
 ·simp only [wpQuiet, hw, if_true] at h
  obtain ⟨v, _, h0⟩ := h x0
  have same : ∀ x v', wpQuiet P ops (C x) (fun a' => a' = a1) os (a.put o.dst v') → a.put o.dst v' = a.put o.dst v := fun x v' h' => by
   cases ho : o.dst with
   | none => rfl
   | some d =>
    rw [ho] at hd h0 h'
    have e0 := wpQuiet_keeps hd.1 h0
    have e1 := wpQuiet_keeps hd.1 h'
    rw [e0] at e1
    by_cases hs : d < a.tmps.size
    ·simp [Act.put, hs] at e1
     rw [e1]
    ·have hn : ∀ u, a.tmps.setIfInBounds d u = a.tmps := fun u => by simp only [Array.setIfInBounds]; rw [dif_neg hs]
     simp only [Act.put, hn]
  refine ⟨v, Or.inl ⟨hw, fun x => ?_⟩, fun x => ?_⟩
  ·obtain ⟨v', h1, h2⟩ := h x
   exact ⟨v', put_eq (same x v' h2), quietUpon_mono (hC x) (h1 _ (hG x))⟩
  ·obtain ⟨v', h1, h2⟩ := h x
   rw [same x v' h2] at h2
   exact h2
 ·simp only [wpQuiet, hw] at h
  exact ⟨undef, Or.inr ⟨by simpa using hw, rfl⟩, h⟩
theorem takes_first {l : List Oper} (hsel : Region.noSelect l.toArray = true) (hQ : ∀ c (a : Act) w d (v : Value), Q (.panic c) (a.put d v) w → Q (.panic c) a w) : ∀ {is : List Nat} {os : List Oper} {fuel : Nat} {listed : Array Bool} {a a1 : Act} {w : World},
  Pick l is os → dstB os = true → takesB md l.toArray listed is = true →
  (∀ x, wpQuiet P l.toArray (fun w' => ∃ y, w' = World.grow (World.grow w0 x) y) (fun a' => a' = a1) os a) →
  wpE P md l.toArray Q w0 fuel (is.foldl (fun L i => L.setIfInBounds i true) listed) a1 w → wpE P md l.toArray Q w0 (is.length + fuel) listed a w
 | [], os, fuel, listed, a, a1, w, hp, _, _, hq, h => by
  have : os = [] := hp
  subst this
  have e : a = a1 := hq w
  subst e
  simpa using h
 | i :: is, os, fuel, listed, a, a1, w, hp, hd, hB, hq, h => by
  obtain ⟨o, os', rfl, ho, hp⟩ := hp
  simp only [takesB, Bool.and_eq_true] at hB
  obtain ⟨v, h1, h2⟩ := quiet_cons (W := World) (G := fun x => World.grow w0 x) (C := fun x w' => ∃ y, w' = World.grow (World.grow w0 x) y) w hd (fun x => ⟨World.grow w0 x, (grow_ext (Ext.refl _)).symm⟩) (fun x w' ⟨y, hy⟩ => hy ▸ ext_grow _ y) hq
  have hd' : dstB os' = true := by simp only [dstB, Bool.and_eq_true] at hd; exact hd.2
  have ho' : l.toArray[i]? = some o := by simpa using ho
  have hr : RunsE P l.toArray w0 o v a := by
   rcases h1 with ⟨hw, h1⟩ | h1
   ·refine Or.inl ⟨hw, fun x hx => ?_⟩
    have := h1 x
    rw [grow_ext hx] at this
    exact this
   ·exact Or.inr h1
  have := takes_first hsel hQ hp hd' hB.2 h2 h
  rw [List.length_cons, show is.length + 1 + fuel = (is.length + fuel) + 1 by omega]
  exact wpE_first ho' (Region.noSelect_spec hsel) (fun c a w => hQ c a w o.dst v) _ listed a w (Region.free_spec ho' hB.1.1) (by simpa using hB.1.2) hr this
theorem tks {l : List Oper} (is : List Nat) (m fuel : Nat) {n m0 F : Nat} {os : List Oper} {a a1 : Act} {w : World}
  (h : wpE P md l.toArray Q w0 fuel (bits n m) a1 w)
  (hp : Pick l is os := by (repeat first | apply Pick.cons rfl | apply Pick.range rfl); exact Pick.nil)
  (hq : ∀ x, wpQuiet P l.toArray (fun w' => ∃ y, w' = World.grow (World.grow w0 x) y) (fun a' => a' = a1) os a := by intro x; (repeat go_big_quiet_step (fail)); exact wpQuiet_nil rfl)
  (hF : is.length + fuel = F := by kernel_rfl)
  (hB : (Region.noSelect l.toArray && (dstB os && takesB md l.toArray (bits n m0) is)) = true := by kernel_rfl)
  (hl : is.foldl (fun L i => L.setIfInBounds i true) (bits n m0) = bits n m := by kernel_rfl)
  (hQ : ∀ c (a : Act) w d (v : Value), Q (.panic c) (a.put d v) w → Q (.panic c) a w := by intro _ _ _ d _ h; cases d <;> exact h) : wpE P md l.toArray Q w0 F (bits n m0) a w := by
 simp only [Bool.and_eq_true] at hB
 subst hF
 exact takes_first hB.1 hQ hp hB.2.1 hB.2.2 hq (hl ▸ h)
theorem wpE_one {l : List Oper} {i : Nat} {o : Oper} {fuel : Nat} {listed listed' : Array Bool} {a : Act} {w : World}
  (hB : Region.ready md l.toArray listed = [i]) (hl : listed.setIfInBounds i true = listed') (ho : l[i]? = some o) (hx : Ext w0 w)
  (h : ∀ w', Ext w w' → wpList P l.toArray (Exit.then (wpE P md l.toArray Q w0 fuel listed') Q) [o] a w') : wpE P md l.toArray Q w0 (fuel + 1) listed a w := by
 refine ⟨hx, fun w' hx' => ⟨fun h0 => by rw [hB] at h0; simp at h0, fun j hj => ?_⟩⟩
 rw [hB] at hj
 have hj : j = i := by simpa using hj
 subst hj hl
 exact wpOp_of_list ho (h w' hx')
theorem wpE_two {l : List Oper} {i j : Nat} {oi oj : Oper} {fuel : Nat} {listed li lj : Array Bool} {a : Act} {w : World}
  (hB : Region.ready md l.toArray listed = [i, j]) (hli : listed.setIfInBounds i true = li) (hlj : listed.setIfInBounds j true = lj) (hoi : l[i]? = some oi) (hoj : l[j]? = some oj) (hx : Ext w0 w)
  (h1 : ∀ w', Ext w w' → wpList P l.toArray (Exit.then (wpE P md l.toArray Q w0 fuel li) Q) [oi] a w')
  (h2 : ∀ w', Ext w w' → wpList P l.toArray (Exit.then (wpE P md l.toArray Q w0 fuel lj) Q) [oj] a w') : wpE P md l.toArray Q w0 (fuel + 1) listed a w := by
 refine ⟨hx, fun w' hx' => ⟨fun h0 => by rw [hB] at h0; simp at h0, fun k hk => ?_⟩⟩
 rw [hB] at hk
 have hk : k = i ∨ k = j := by simpa using hk
 subst hli hlj
 rcases hk with rfl | rfl
 ·exact wpOp_of_list hoi (h1 w' hx')
 ·exact wpOp_of_list hoj (h2 w' hx')
theorem wpE_done {l : List Oper} {fuel : Nat} {listed : Array Bool} {a : Act} {w : World}
  (hB : Region.ready md l.toArray listed = []) (hx : Ext w0 w) (h : ∀ w', Ext w w' → Q .normal a w') : wpE P md l.toArray Q w0 fuel listed a w := by
 cases fuel with
 | zero => exact ⟨hx, fun w' hx' => ⟨hB, h w' hx'⟩⟩
 | succ n => exact ⟨hx, fun w' hx' => ⟨fun _ => h w' hx', fun j hj => by rw [hB] at hj; cases hj⟩⟩
theorem ex_ {w x : World} (h : Ext w x := by repeat (first | assumption | exact Ext.refl _ | refine Ext.trans ?_ (ext_grow _ _))) : Ext w x := h
theorem sx_ {A B : Prop} (b : B) (h : B → A := by intro h; (try simp only [Exit.then, Act.put, List.setIfInBounds_toArray, List.set_cons_succ, List.set_cons_zero]); exact h) : A := h b
theorem rg_ {id : Nat} {l : List Oper} {a : Act} {w : World} (n : Nat) (hx : Ext w0 w) (h : wpE P .any l.toArray Q w0 n (bits n 0) a w)
  (hm : P.follows .mixedOrders = true := by kernel_rfl) (hn : l.length = n := by kernel_rfl) (hL : Array.replicate n false = bits n 0 := by kernel_rfl) : (Code.region id l.toArray true).wp P Q a w :=
 wp_region_ext n (bits n 0) hx hm hn hL h
theorem k1_ {l : List Oper} (i m : Nat) {n m0 : Nat} {o : Oper} {fuel : Nat} {a : Act} {w : World} (hx : Ext w0 w)
  (h : ∀ w', Ext w w' → Ext w0 w' → wpList P l.toArray (Exit.then (wpE P md l.toArray Q w0 fuel (bits n m)) Q) [o] a w')
  (ho : l[i]? = some o := by exact rfl) (hB : Region.ready md l.toArray (bits n m0) = [i] := by kernel_rfl) (hl : (bits n m0).setIfInBounds i true = bits n m := by kernel_rfl) : wpE P md l.toArray Q w0 (fuel + 1) (bits n m0) a w :=
 wpE_one hB hl ho hx fun w' hw => h w' hw (hx.trans hw)
theorem k2_ {l : List Oper} (i j mi mj : Nat) {n m0 : Nat} {oi oj : Oper} {fuel : Nat} {a : Act} {w : World} (hx : Ext w0 w)
  (h1 : ∀ w', Ext w w' → Ext w0 w' → wpList P l.toArray (Exit.then (wpE P md l.toArray Q w0 fuel (bits n mi)) Q) [oi] a w')
  (h2 : ∀ w', Ext w w' → Ext w0 w' → wpList P l.toArray (Exit.then (wpE P md l.toArray Q w0 fuel (bits n mj)) Q) [oj] a w')
  (hoi : l[i]? = some oi := by exact rfl) (hoj : l[j]? = some oj := by exact rfl) (hB : Region.ready md l.toArray (bits n m0) = [i, j] := by kernel_rfl)
  (hli : (bits n m0).setIfInBounds i true = bits n mi := by kernel_rfl) (hlj : (bits n m0).setIfInBounds j true = bits n mj := by kernel_rfl) : wpE P md l.toArray Q w0 (fuel + 1) (bits n m0) a w :=
 wpE_two hB hli hlj hoi hoj hx (fun w' hw => h1 w' hw (hx.trans hw)) (fun w' hw => h2 w' hw (hx.trans hw))
theorem kd_ {l : List Oper} {fuel : Nat} {listed : Array Bool} {a : Act} {w : World} (hx : Ext w0 w) (h : ∀ w', Ext w w' → Ext w0 w' → Q .normal a w')
  (hB : Region.ready md l.toArray listed = [] := by kernel_rfl) : wpE P md l.toArray Q w0 fuel listed a w :=
 wpE_done hB hx fun w' hw => h w' hw (hx.trans hw)
theorem wp_region_grow {id : Nat} {l : List Oper} {a : Act} {w : World} (hm : P.follows .mixedOrders = true) (hB : Region.lexB .any l.toArray = true)
  (h : wpQuiet P l.toArray (fun w' => ∃ n, w' = World.grow w n) (fun a' => ∀ w', Ext w w' → Q .normal a' w') l a) : (Code.region id l.toArray true).wp P Q a w := by
 refine wp_region_quiet (C := fun w' => ∃ n, w' = World.grow w n) hm hB ⟨w.drew, (grow_ext (Ext.drew w)).symm⟩ ?_
 have he : (fun a' : Act => ∀ w', (∃ n, w' = World.grow w n) → Q .normal a' w') = fun a' => ∀ w', Ext w w' → Q .normal a' w' := by
  funext a'
  apply propext
  constructor
  ·intro h w' hx; exact h w' ⟨w', (grow_ext hx).symm⟩
  ·rintro h w' ⟨n, rfl⟩; exact h _ (ext_grow w n)
 rw [he]
 simpa using h
theorem Calls.quietE {f : FuncId} {args : Array Value} {w x : World} {v : Value} (h : Calls P f args (World.grow w x) fun e w' => e = .returned v ∧ Ext (World.grow w x) w') :
  Calls P f args (World.grow w x) fun e w'' => e = .returned v ∧ ∃ y, w'' = World.grow w y :=
 h.mono fun _ w'' ⟨he, hx⟩ => ⟨he, w'', (grow_ext ((ext_grow w x).trans hx)).symm⟩
end
section
variable {P : Program} {ops : Array Oper} {Q : Exit → Act → World → Prop} {md : Region.Mode} {I : World → Prop} {z : Nat}
def KeptI (j z : Nat) (p : Prop) : Prop := j < z → p
def wpF (P : Program) (md : Region.Mode) (ops : Array Oper) (Q : Exit → Act → World → Prop) (I : World → Prop) (z : Nat) : Nat → Array Bool → Act → World → Prop
 | 0, listed, a, w => ∀ w', Ext w w' → Region.ready md ops listed = [] ∧ Q .normal a w'
 | fuel + 1, listed, a, w => ∀ w', Ext w w' →
  (Region.ready md ops listed = [] → Q .normal a w') ∧
  ∀ j ∈ Region.ready md ops listed, wpOp P ops Q j (fun a' w'' => KeptI j z (I w'') ∧ wpF P md ops Q I z fuel (listed.setIfInBounds j true) a' w'') a w'
theorem wpF.ext : ∀ {fuel : Nat} {listed : Array Bool} {a : Act} {w w' : World}, wpF P md ops Q I z fuel listed a w → Ext w w' → wpF P md ops Q I z fuel listed a w'
 | 0, _, _, _, _, h, hb => fun x hx => h x (hb.trans hx)
 | _ + 1, _, _, _, _, h, hb => fun x hx => h x (hb.trans hx)
theorem wpF.any : ∀ (fuel : Nat) (listed : Array Bool) (a : Act) (w : World), wpF P md ops Q I z fuel listed a w → wpAny P md ops Q fuel listed a w
 | 0, _, _, w, h => h w (Ext.refl w)
 | fuel + 1, _, _, w, h => ⟨(h w (Ext.refl w)).1, fun i hi => wpOp_mono (fun a' w' h' => wpF.any fuel _ a' w' h'.2) ((h w (Ext.refl w)).2 i hi)⟩
theorem wp_region_fin {id : Nat} {l : List Oper} {a : Act} {w : World} (n : Nat) (L : Array Bool) (hm : P.follows .mixedOrders = true) (hn : l.length = n) (hL : Array.replicate n false = L)
  (h : wpF P .any l.toArray Q I z n L a w) : (Code.region id l.toArray true).wp P Q a w := by
 subst hn hL
 exact wp_region_any hm (by simpa using wpF.any _ _ _ _ (h.ext (Ext.drew w)))
def NoPanic (Q : Exit → Act → World → Prop) : Exit → Act → World → Prop
 | .panic _, _, _ => False
 | e, a, w => Q e a w
theorem NoPanic.back {Q : Exit → Act → World → Prop} {a : Act} {w : World} (h : Q .normal a w) : NoPanic Q .normal a w := h
theorem wp_region_finN {id : Nat} {l : List Oper} {a : Act} {w : World} (n : Nat) (L : Array Bool) (hm : P.follows .mixedOrders = true) (hn : l.length = n) (hL : Array.replicate n false = L)
  (h : wpF P .any l.toArray (NoPanic Q) I z n L a w) : (Code.region id l.toArray true).wp P Q a w := by
 refine Code.wp_mono (fun e a w h => ?_) (wp_region_fin n L hm hn hL h)
 cases e with
 | panic c => exact h.elim
 | _ => exact h
def QuietI (P : Program) (ops : Array Oper) (I : World → Prop) (o : Oper) (a a1 : Act) : Prop :=
 ∀ w, I w → wpQuiet P ops (fun w' => ∃ y, w' = World.grow w y) (fun a' => a' = a1) [o] a
def RunsI (P : Program) (ops : Array Oper) (I : World → Prop) (o : Oper) (v : Value) (a : Act) : Prop :=
 (Region.wanted o (yielded ops a.tmps) = true ∧ ∀ w, I w → ∃ v', (∀ b : Act, b.tmps.size = a.tmps.size → b.put o.dst v' = b.put o.dst v) ∧ o.quietAt P a (Ext w) w v') ∨
 (Region.wanted o (yielded ops a.tmps) = false ∧ v = undef)
theorem QuietI.runs {o : Oper} {a a1 : Act} {w0 : World} (h0 : I w0) (h : QuietI P ops I o a a1) : ∃ v, a1 = a.put o.dst v ∧ RunsI P ops I o v a := by
 by_cases hw : Region.wanted o (yielded ops a.tmps) = true
 ·have one : ∀ w, I w → ∃ v', a1 = a.put o.dst v' ∧ o.quietAt P a (Ext w) w v' := by
   intro w hwx
   have h1 := h w hwx
   simp only [wpQuiet, hw, if_true] at h1
   obtain ⟨v, h2, h3⟩ := h1
   refine ⟨v, h3.symm, ?_⟩
   have := h2 w ⟨w, (grow_ext (Ext.refl w)).symm⟩
   exact quietUpon_mono (fun x ⟨y, hy⟩ => hy ▸ ext_grow w y) this
  obtain ⟨v, h1, _⟩ := one w0 h0
  refine ⟨v, h1, Or.inl ⟨hw, fun w hx => ?_⟩⟩
  obtain ⟨v', h4, h5⟩ := one w hx
  exact ⟨v', fun b hb => put_eq (h4.symm.trans h1) b hb, h5⟩
 ·have h1 := h w0 h0
  simp only [wpQuiet, hw] at h1
  exact ⟨undef, h1.symm, Or.inr ⟨by simpa using hw, rfl⟩⟩
theorem RunsI.of_same {o : Oper} {v : Value} {a a' : Act} (hy : RunsI P ops I o v a) (hs : a'.tmps.size = a.tmps.size) (he : execOp a'.eval o = execOp a.eval o)
  (hw : Region.wanted o (yielded ops a'.tmps) = Region.wanted o (yielded ops a.tmps)) : RunsI P ops I o v a' := by
 unfold RunsI Oper.quietAt at *
 rw [he, hw, hs]
 exact hy
theorem RunsI.wpOp {i : Nat} {o : Oper} {v : Value} {a : Act} (hi : ops[i]? = some o) (hy : RunsI P ops I o v a)
  {K : Act → World → Prop} {w : World} (hx : I w) (h : ∀ w', Ext w w' → K (a.put o.dst v) w') : wpOp P ops Q i K a w := by
 unfold Go.wpOp
 simp only [hi]
 rcases hy with ⟨hw, hv⟩ | ⟨hw, rfl⟩
 ·simp only [hw, if_true]
  obtain ⟨v', h1, h2⟩ := hv w hx
  rw [← h1 a rfl] at h
  left
  unfold Oper.quietAt at h2
  unfold Oper.wp
  generalize (execOp a.eval o).run P w = r at *
  cases r with
  | ok n w' =>
   cases n <;> simp only [Oper.quietUpon] at h2 <;> simp only [Oper.upon]
   ·obtain ⟨e1, e2⟩ := h2; rw [e1, e2]; exact h w (Ext.refl w)
   ·obtain ⟨e1, e2⟩ := h2; rw [e1, ← e2]; exact h w (Ext.refl w)
   ·obtain ⟨e1, hc⟩ := h2; rw [e1]; exact hc.mono fun e w'' ⟨he, hw''⟩ => by subst he; exact h w'' hw''
  | halt x w' => simp only [Oper.quietUpon] at h2
 ·simp only [hw, Bool.false_eq_true, if_false]; exact h w (Ext.refl w)
theorem wpOp_putI {j : Nat} {oi oj : Oper} {v : Value} (hj : ops[j]? = some oj) (hap : oi.apart ops oj = true)
  (hsi : ∀ cs b, oi.op ≠ .select cs b) (hsj : ∀ cs b, oj.op ≠ .select cs b)
  (hQ : ∀ c a w, Q (.panic c) (a.put oi.dst v) w → Q (.panic c) a w) {K : Act → World → Prop} {a : Act} {w : World}
  (hy : RunsI P ops I oi v a) (h : wpOp P ops Q j K (a.put oi.dst v) w) :
  wpOp P ops Q j (fun a' w' => RunsI P ops I oi v a' ∧ K (a'.put oi.dst v) w') a w := by
 obtain ⟨h1, h2, h3⟩ := Oper.apart_spec hap
 have keep : ∀ (a : Act), RunsI P ops I oi v a → ∀ u, RunsI P ops I oi v (a.put oj.dst u) := fun a hy u =>
  hy.of_same (size_put _ _ _) (execOp_put oi hsi a oj.dst u h3) (wanted_put oi a oj.dst u h3)
 have keepD : ∀ d, RunsI P ops I oi v { a with defers := d :: a.defers } := fun d => hy.of_same rfl rfl rfl
 unfold wpOp at *
 simp only [hj] at *
 rw [wanted_put oj a oi.dst v h1] at h
 split
 ·rename_i hw
  simp only [hw, if_true] at h
  rcases h with h | ⟨hasks, hlets⟩
  case inr => exact .inr ⟨by unfold Oper.asks at *; rw [execOp_put oj hsj a oi.dst v h1] at hasks; exact hasks, hlets⟩
  refine .inl ?_
  unfold Oper.wp at *
  rw [execOp_put oj hsj a oi.dst v h1] at h
  generalize (execOp a.eval oj).run P w = r at *
  cases r with
  | ok n w' =>
   cases n <;> simp only [Oper.upon] at h ⊢
   case value u => exact ⟨keep a hy u, by rw [← Act.put_comm a v u h2]; exact h⟩
   case skip => exact ⟨keep a hy _, by rw [← Act.put_comm a v undef h2]; exact h⟩
   case defer d =>
    refine ⟨keep _ (keepD d) _, ?_⟩
    rw [← Act.put_comm _ v undef h2, ← Act.put_defers]
    exact h
   case enter f args =>
    refine Calls.mono h fun e w'' he => ?_
    cases e with
    | returned u => exact ⟨keep a hy u, by rw [← Act.put_comm a v u h2]; exact he⟩
    | panicked c => exact hQ _ _ _ he
    | outgrown => exact he
   case row row args => exact Rows.mono h fun u w'' he => ⟨keep a hy u, by rw [← Act.put_comm a v u h2]; exact he⟩
  | halt x w' =>
   cases x <;> simp only [Oper.upon] at h ⊢
   case panic u => exact hQ _ _ _ h
 ·rename_i hw
  simp only [hw] at h
  exact ⟨keep a hy _, by rw [← Act.put_comm a v undef h2]; exact h⟩
def lastB (md : Region.Mode) (ops : Array Oper) (z : Nat) : Bool :=
 (List.range z).all fun i => (List.range ops.size).all fun k => decide (k < z) || match ops[k]? with | some o => o.after.any fun e => Region.binds md e && e.on == i | none => true
theorem last_waits {listed : Array Bool} {i k : Nat} (h : lastB md ops z = true) (hi : i ∈ Region.ready md ops listed) (hz : i < z) (hk : z ≤ k) : k ∉ Region.ready md ops listed := by
 intro hzr
 obtain ⟨hiu, oi, hoi, _⟩ := mem_ready.1 hi
 obtain ⟨_, oz, hoz, hall⟩ := mem_ready.1 hzr
 have h1 := List.all_eq_true.1 (List.all_eq_true.1 h i (List.mem_range.2 hz)) k (List.mem_range.2 (Array.getElem?_eq_some_iff.1 hoz).1)
 rw [hoz, Bool.or_eq_true] at h1
 have h2 := h1.resolve_left (by simp; omega)
 rw [Array.any_eq_true] at h2
 obtain ⟨k, hk, h3⟩ := h2
 rw [Bool.and_eq_true, beq_iff_eq] at h3
 have h4 := hall _ (Array.getElem_mem hk) h3.1
 rw [h3.2] at h4
 rcases Nat.lt_or_ge i listed.size with h' | h'
 ·simp [h'] at hiu h4; rw [hiu] at h4; cases h4
 ·simp [Array.getElem?_eq_none h'] at h4
theorem wpF_first {i : Nat} {oi : Oper} {v : Value} (hI : ∀ w w', I w → Ext w w' → I w') (hi : ops[i]? = some oi) (hz : i < z) (hlast : lastB md ops z = true)
  (hsel : ∀ (j : Nat) (o : Oper) cs b, ops[j]? = some o → o.op ≠ .select cs b)
  (hQ : ∀ c a w, Q (.panic c) (a.put oi.dst v) w → Q (.panic c) a w) :
  ∀ (fuel : Nat) (listed : Array Bool) (a : Act) (w : World),
   (∀ j oj, ops[j]? = some oj → j ≠ i → listed.getD j true = false → (∀ e ∈ oj.after, Region.binds md e = true → e.on ≠ i) → oi.apart ops oj = true) →
   i ∈ Region.ready md ops listed → RunsI P ops I oi v a → I w →
   wpF P md ops Q I z fuel (listed.setIfInBounds i true) (a.put oi.dst v) w → wpF P md ops Q I z (fuel + 1) listed a w := by
 intro fuel
 induction fuel with
 | zero =>
  intro listed a w _ hr hy hIw H
  refine fun w' hx => ⟨fun h => (by rw [h] at hr; cases hr), fun j hj => ?_⟩
  by_cases hji : j = i
  ·subst hji; exact hy.wpOp hi (hI _ _ hIw hx) (fun w'' hx' => ⟨fun _ => hI _ _ (hI _ _ hIw hx) hx', H.ext (hx.trans hx')⟩)
  ·have := ready_mono hj hji
   rw [(H w' hx).1] at this
   cases this
 | succ fuel ih =>
  intro listed a w hfree hr hy hIw H
  refine fun w' hx => ⟨fun h => (by rw [h] at hr; cases hr), fun j hj => ?_⟩
  by_cases hji : j = i
  ·subst hji; exact hy.wpOp hi (hI _ _ hIw hx) (fun w'' hx' => ⟨fun _ => hI _ _ (hI _ _ hIw hx) hx', H.ext (hx.trans hx')⟩)
  ·have hjz : j < z := Nat.lt_of_not_le fun e => last_waits hlast hr hz e hj
   have h1 := (H w' hx).2 j (ready_mono hj hji)
   obtain ⟨hjun, oj, hoj, hall⟩ := mem_ready.1 hj
   have hnot : ∀ e ∈ oj.after, Region.binds md e = true → e.on ≠ i := fun e he hb heq => by
    have h1 := hall e he hb
    have h0 := (mem_ready.1 hr).1
    rw [heq] at h1
    rcases Nat.lt_or_ge i listed.size with h' | h'
    ·simp [h'] at h0 h1; rw [h0] at h1; cases h1
    ·simp [Array.getElem?_eq_none h'] at h1
   have h2 := wpOp_putI hoj (hfree j oj hoj hji hjun hnot) (fun cs b => hsel i oi cs b hi) (fun cs b => hsel j oj cs b hoj) hQ hy h1
   have hfree' : ∀ k ok, ops[k]? = some ok → k ≠ i → (listed.setIfInBounds j true).getD k true = false →
     (∀ e ∈ ok.after, Region.binds md e = true → e.on ≠ i) → oi.apart ops ok = true := fun k ok hk hki hun hno => by
    refine hfree k ok hk hki ?_ hno
    by_cases hjk : j = k
    ·subst hjk; exact hjun
    ·rw [getD_set_ne true hjk] at hun; exact hun
   refine wpOp_mono (fun a' w'' h3 => ⟨h3.2.1, ih (listed.setIfInBounds j true) a' w'' hfree' (ready_mono hr (Ne.symm hji)) h3.1 (h3.2.1 hjz) ?_⟩) h2
   rw [Array.setIfInBounds_comm _ _ hji]
   exact h3.2.2
theorem wpF_take {l : List Oper} {i : Nat} {o : Oper} {fuel : Nat} {listed listed' : Array Bool} {a : Act} {w : World} (hI : ∀ w w', I w → Ext w w' → I w') (hIw : I w)
  (hB : (Region.noSelect l.toArray && Region.free md l.toArray listed i && (Region.ready md l.toArray listed).contains i && (decide (i < z) && lastB md l.toArray z)) = true)
  (hl : listed.setIfInBounds i true = listed')
  (ho : l[i]? = some o)
  (hQ : ∀ c a w v, Q (.panic c) (a.put o.dst v) w → Q (.panic c) a w)
  (hq : ∃ a1, QuietI P l.toArray I o a a1 ∧ wpF P md l.toArray Q I z fuel listed' a1 w) : wpF P md l.toArray Q I z (fuel + 1) listed a w := by
 simp only [Bool.and_eq_true] at hB
 obtain ⟨a1, hq, h⟩ := hq
 obtain ⟨v, rfl, hr⟩ := hq.runs hIw
 have ho' : l.toArray[i]? = some o := by simpa using ho
 exact wpF_first hI ho' (by simpa using hB.2.1) hB.2.2 (Region.noSelect_spec hB.1.1.1) (fun c a w => hQ c a w v) fuel listed a w (Region.free_spec ho' hB.1.1.2) (by simpa using hB.1.2) hr hIw (hl ▸ h)
def takesF (md : Region.Mode) (ops : Array Oper) (z : Nat) : Array Bool → List Nat → Bool
 | _, [] => true
 | listed, i :: is => (Region.free md ops listed i && (Region.ready md ops listed).contains i && decide (i < z)) && takesF md ops z (listed.setIfInBounds i true) is
theorem takes_firstF {l : List Oper} (hI : ∀ w w', I w → Ext w w' → I w') {w : World} (hIw : I w) (hsel : Region.noSelect l.toArray = true) (hlast : lastB md l.toArray z = true) (hQ : ∀ c (a : Act) w d (v : Value), Q (.panic c) (a.put d v) w → Q (.panic c) a w) : ∀ {is : List Nat} {os : List Oper} {fuel : Nat} {listed : Array Bool} {a a1 : Act},
  Pick l is os → dstB os = true → takesF md l.toArray z listed is = true →
  (∀ x : {w // I w}, wpQuiet P l.toArray (fun w' => ∃ y, w' = World.grow x.1 y) (fun a' => a' = a1) os a) →
  wpF P md l.toArray Q I z fuel (is.foldl (fun L i => L.setIfInBounds i true) listed) a1 w → wpF P md l.toArray Q I z (is.length + fuel) listed a w
 | [], os, fuel, listed, a, a1, hp, _, _, hq, h => by
  have : os = [] := hp
  subst this
  have e : a = a1 := hq ⟨w, hIw⟩
  subst e
  simpa using h
 | i :: is, os, fuel, listed, a, a1, hp, hd, hB, hq, h => by
  obtain ⟨o, os', rfl, ho, hp⟩ := hp
  simp only [takesF, Bool.and_eq_true] at hB
  obtain ⟨v, h1, h2⟩ := quiet_cons (W := {w // I w}) (G := Subtype.val) (C := fun x w' => ∃ y, w' = World.grow x.1 y) ⟨w, hIw⟩ hd (fun x => ⟨x.1, (grow_ext (Ext.refl _)).symm⟩) (fun x w' ⟨y, hy⟩ => hy ▸ ext_grow _ y) hq
  have hd' : dstB os' = true := by simp only [dstB, Bool.and_eq_true] at hd; exact hd.2
  have ho' : l.toArray[i]? = some o := by simpa using ho
  have hr : RunsI P l.toArray I o v a := by
   rcases h1 with ⟨hw, h1⟩ | h1
   ·exact Or.inl ⟨hw, fun x hx => h1 ⟨x, hx⟩⟩
   ·exact Or.inr h1
  have := takes_firstF hI hIw hsel hlast hQ hp hd' hB.2 h2 h
  rw [List.length_cons, show is.length + 1 + fuel = (is.length + fuel) + 1 by omega]
  exact wpF_first hI ho' (by simpa using hB.1.2) hlast (Region.noSelect_spec hsel) (fun c a w => hQ c a w o.dst v) _ listed a w (Region.free_spec ho' hB.1.1.1) (by simpa using hB.1.1.2) hr hIw this
theorem tfs {l : List Oper} (is : List Nat) (m fuel : Nat) {n m0 F : Nat} {os : List Oper} {a a1 : Act} {w : World} (hI : ∀ w w', I w → Ext w w' → I w') (hIw : I w)
  (h : wpF P md l.toArray Q I z fuel (bits n m) a1 w)
  (hp : Pick l is os := by (repeat first | apply Pick.cons rfl | apply Pick.range rfl); exact Pick.nil)
  (hq : ∀ x, I x → wpQuiet P l.toArray (fun w' => ∃ y, w' = World.grow x y) (fun a' => a' = a1) os a := by intro wq hwq; (repeat go_big_quiet_step (fail)); exact wpQuiet_nil rfl)
  (hF : is.length + fuel = F := by kernel_rfl)
  (hB : (Region.noSelect l.toArray && (dstB os && (lastB md l.toArray z && takesF md l.toArray z (bits n m0) is))) = true := by kernel_rfl)
  (hl : is.foldl (fun L i => L.setIfInBounds i true) (bits n m0) = bits n m := by kernel_rfl)
  (hQ : ∀ c (a : Act) w d (v : Value), Q (.panic c) (a.put d v) w → Q (.panic c) a w := by intro _ _ _ d _ h; cases d <;> exact h) : wpF P md l.toArray Q I z F (bits n m0) a w := by
 simp only [Bool.and_eq_true] at hB
 subst hF
 replace hq := fun x : {w // I w} => hq x.1 x.2
 exact takes_firstF hI hIw hB.1 hB.2.2.1 hQ hp hB.2.1 hB.2.2.2 hq (hl ▸ h)
theorem wpF_one {l : List Oper} {i : Nat} {o : Oper} {fuel : Nat} {listed listed' : Array Bool} {a : Act} {w : World}
  (hB : Region.ready md l.toArray listed = [i]) (hl : listed.setIfInBounds i true = listed') (ho : l[i]? = some o)
  (h : ∀ w', Ext w w' → wpList P l.toArray (Exit.then (fun a' w'' => KeptI i z (I w'') ∧ wpF P md l.toArray Q I z fuel listed' a' w'') Q) [o] a w') : wpF P md l.toArray Q I z (fuel + 1) listed a w := by
 refine fun w' hx' => ⟨fun h0 => by rw [hB] at h0; simp at h0, fun j hj => ?_⟩
 rw [hB] at hj
 have hj : j = i := by simpa using hj
 subst hj hl
 exact wpOp_of_list ho (h w' hx')
theorem wpF_done {l : List Oper} {fuel : Nat} {listed : Array Bool} {a : Act} {w : World}
  (hB : Region.ready md l.toArray listed = []) (h : ∀ w', Ext w w' → Q .normal a w') : wpF P md l.toArray Q I z fuel listed a w := by
 cases fuel with
 | zero => exact fun w' hx' => ⟨hB, h w' hx'⟩
 | succ n => exact fun w' hx' => ⟨fun _ => h w' hx', fun j hj => by rw [hB] at hj; cases hj⟩
theorem rf_ {id : Nat} {l : List Oper} {a : Act} {w : World} (I : World → Prop) (z n : Nat) (h : wpF P .any l.toArray Q I z n (bits n 0) a w)
  (hm : P.follows .mixedOrders = true := by kernel_rfl) (hn : l.length = n := by kernel_rfl) (hL : Array.replicate n false = bits n 0 := by kernel_rfl) : (Code.region id l.toArray true).wp P Q a w :=
 wp_region_fin n (bits n 0) hm hn hL h
theorem rfN_ {id : Nat} {l : List Oper} {a : Act} {w : World} (I : World → Prop) (z n : Nat) (h : wpF P .any l.toArray (NoPanic Q) I z n (bits n 0) a w)
  (hm : P.follows .mixedOrders = true := by kernel_rfl) (hn : l.length = n := by kernel_rfl) (hL : Array.replicate n false = bits n 0 := by kernel_rfl) : (Code.region id l.toArray true).wp P Q a w :=
 wp_region_finN n (bits n 0) hm hn hL h
theorem f1_ {l : List Oper} (i m : Nat) {n m0 : Nat} {o : Oper} {fuel : Nat} {a : Act} {w : World}
  (h : ∀ w', Ext w w' → wpList P l.toArray (Exit.then (fun a' w'' => KeptI i z (I w'') ∧ wpF P md l.toArray Q I z fuel (bits n m) a' w'') Q) [o] a w')
  (ho : l[i]? = some o := by exact rfl) (hB : Region.ready md l.toArray (bits n m0) = [i] := by kernel_rfl) (hl : (bits n m0).setIfInBounds i true = bits n m := by kernel_rfl) : wpF P md l.toArray Q I z (fuel + 1) (bits n m0) a w :=
 wpF_one hB hl ho h
theorem fd_ {l : List Oper} {fuel : Nat} {listed : Array Bool} {a : Act} {w : World} (h : ∀ w', Ext w w' → Q .normal a w')
  (hB : Region.ready md l.toArray listed = [] := by kernel_rfl) : wpF P md l.toArray Q I z fuel listed a w :=
 wpF_done hB h
theorem f2_ {l : List Oper} (i j mi mj : Nat) {n m0 : Nat} {oi oj : Oper} {fuel : Nat} {a : Act} {w : World}
  (h1 : ∀ w', Ext w w' → wpList P l.toArray (Exit.then (fun a' w'' => KeptI i z (I w'') ∧ wpF P md l.toArray Q I z fuel (bits n mi) a' w'') Q) [oi] a w')
  (h2 : ∀ w', Ext w w' → wpList P l.toArray (Exit.then (fun a' w'' => KeptI j z (I w'') ∧ wpF P md l.toArray Q I z fuel (bits n mj) a' w'') Q) [oj] a w')
  (hoi : l[i]? = some oi := by exact rfl) (hoj : l[j]? = some oj := by exact rfl) (hB : Region.ready md l.toArray (bits n m0) = [i, j] := by kernel_rfl)
  (hli : (bits n m0).setIfInBounds i true = bits n mi := by kernel_rfl) (hlj : (bits n m0).setIfInBounds j true = bits n mj := by kernel_rfl) : wpF P md l.toArray Q I z (fuel + 1) (bits n m0) a w := by
 refine fun w' hx' => ⟨fun h0 => by rw [hB] at h0; simp at h0, fun k hk => ?_⟩
 rw [hB] at hk
 have hk : k = i ∨ k = j := by simpa using hk
 rcases hk with rfl | rfl
 ·rw [hli]; exact wpOp_of_list hoi (h1 w' hx')
 ·rw [hlj]; exact wpOp_of_list hoj (h2 w' hx')
end
structure CB (b : Nat) (cs : List Value) (w : World) : Prop where
 lt : b < w.heap.size
 cell : ∀ i, i < cs.length → w.cell? ⟨b, i, none⟩ = cs[i]?
 free : ∀ i, i < cs.length → w.frozen? ⟨b, i, none⟩ = false
theorem CB.ext {b : Nat} {cs : List Value} {w w' : World} (h : CB b cs w) (hx : Ext w w') : CB b cs w' :=
 ⟨Nat.lt_of_lt_of_le h.lt hx.size, fun i hi => by rw [hx.cell (by exact h.lt)]; exact h.cell i hi, fun i hi => by rw [hx.frozen (by exact h.lt)]; exact h.free i hi⟩
theorem CB.new (w : World) (cs : Array Value) (e : TypeId) : CB w.heap.size cs.toList (w.alloc (.cells cs e)) := by
 refine ⟨by simp, fun i hi => ?_, fun i hi => ?_⟩
 ·rw [World.cell?_alloc_at (hn := by rfl)]
  simp
 ·simp
theorem CB.set {b : Nat} {cs : List Value} {w : World} (h : CB b cs w) (i : Nat) (u : Value) (hi : i < cs.length) : CB b (cs.set i u) (w.setCell ⟨b, i, none⟩ u) := by
 refine ⟨by rw [World.size_setCell]; exact h.lt, fun j hj => ?_, fun j hj => by rw [World.frozen?_setCell]; exact h.free j (by simpa using hj)⟩
 rw [List.length_set] at hj
 by_cases e : i = j
 ·subst e
  rw [List.getElem?_set_self hi]
  have hc := (h.cell i hi).trans (List.getElem?_eq_getElem hi)
  first | exact World.cell?_setCell_same _ _ _ hc | exact World.cell?_setCell_same _ _ hc
 ·have hne : (⟨b, i, none⟩ : Addr) ≠ ⟨b, j, none⟩ := fun e2 => by injection e2 with _ e2; exact e e2
  rw [List.getElem?_set_ne e, World.cell?_setCell_other (h := hne)]
  exact h.cell j hj
theorem CB.far {b c i : Nat} {cs : List Value} {w : World} (h : CB b cs w) (hbc : c ≠ b) (u : Value) : CB b cs (w.setCell ⟨c, i, none⟩ u) := by
 refine ⟨by rw [World.size_setCell]; exact h.lt, fun j hj => ?_, fun j hj => by rw [World.frozen?_setCell]; exact h.free j hj⟩
 have hne : (⟨c, i, none⟩ : Addr) ≠ ⟨b, j, none⟩ := fun e2 => by injection e2 with e2 _; exact hbc e2
 rw [World.cell?_setCell_other (h := hne)]
 exact h.cell j hj
theorem CB.cells3 {b : Nat} {a0 a1 a2 : Value} {w : World} (h : CB b [a0, a1, a2] w) : b < w.heap.size ∧ w.cell? ⟨b, 0, none⟩ = some a0 ∧ w.cell? ⟨b, 1, none⟩ = some a1 ∧ w.cell? ⟨b, 2, none⟩ = some a2 ∧ w.frozen? ⟨b, 0, none⟩ = false ∧ w.frozen? ⟨b, 1, none⟩ = false ∧ w.frozen? ⟨b, 2, none⟩ = false :=
 ⟨h.lt, h.cell 0 (by simp), h.cell 1 (by simp), h.cell 2 (by simp), h.free 0 (by simp), h.free 1 (by simp), h.free 2 (by simp)⟩
theorem CB.put3 {b : Nat} {a0 a1 a2 : Value} {w : World} (h : CB b [a0, a1, a2] w) (c0 c1 c2 : Value) : CB b [c0, c1, c2] (((w.setCell ⟨b, 0, none⟩ c0).setCell ⟨b, 1, none⟩ c1).setCell ⟨b, 2, none⟩ c2) :=
 (((h.set 0 c0 (by simp)).set 1 c1 (by simp)).set 2 c2 (by simp))
theorem Ext.cput3 {w w' : World} (h : Ext w w') {b : Nat} (hb : w.heap.size ≤ b) (c0 c1 c2 : Value) : Ext w (((w'.setCell ⟨b, 0, none⟩ c0).setCell ⟨b, 1, none⟩ c1).setCell ⟨b, 2, none⟩ c2) :=
 (((h.setCell (p := ⟨b, 0, none⟩) hb _).setCell (p := ⟨b, 1, none⟩) hb _).setCell (p := ⟨b, 2, none⟩) hb _)
theorem CB.cells9 {b : Nat} {a0 a1 a2 a3 a4 a5 a6 a7 a8 : Value} {w : World} (h : CB b [a0, a1, a2, a3, a4, a5, a6, a7, a8] w) : b < w.heap.size ∧ w.cell? ⟨b, 0, none⟩ = some a0 ∧ w.cell? ⟨b, 1, none⟩ = some a1 ∧ w.cell? ⟨b, 2, none⟩ = some a2 ∧ w.cell? ⟨b, 3, none⟩ = some a3 ∧ w.cell? ⟨b, 4, none⟩ = some a4 ∧ w.cell? ⟨b, 5, none⟩ = some a5 ∧ w.cell? ⟨b, 6, none⟩ = some a6 ∧ w.cell? ⟨b, 7, none⟩ = some a7 ∧ w.cell? ⟨b, 8, none⟩ = some a8 ∧ w.frozen? ⟨b, 0, none⟩ = false ∧ w.frozen? ⟨b, 1, none⟩ = false ∧ w.frozen? ⟨b, 2, none⟩ = false ∧ w.frozen? ⟨b, 3, none⟩ = false ∧ w.frozen? ⟨b, 4, none⟩ = false ∧ w.frozen? ⟨b, 5, none⟩ = false ∧ w.frozen? ⟨b, 6, none⟩ = false ∧ w.frozen? ⟨b, 7, none⟩ = false ∧ w.frozen? ⟨b, 8, none⟩ = false :=
 ⟨h.lt, h.cell 0 (by simp), h.cell 1 (by simp), h.cell 2 (by simp), h.cell 3 (by simp), h.cell 4 (by simp), h.cell 5 (by simp), h.cell 6 (by simp), h.cell 7 (by simp), h.cell 8 (by simp), h.free 0 (by simp), h.free 1 (by simp), h.free 2 (by simp), h.free 3 (by simp), h.free 4 (by simp), h.free 5 (by simp), h.free 6 (by simp), h.free 7 (by simp), h.free 8 (by simp)⟩
theorem CB.put9 {b : Nat} {a0 a1 a2 a3 a4 a5 a6 a7 a8 : Value} {w : World} (h : CB b [a0, a1, a2, a3, a4, a5, a6, a7, a8] w) (c0 c1 c2 c3 c4 c5 c6 c7 c8 : Value) : CB b [c0, c1, c2, c3, c4, c5, c6, c7, c8] (((((((((w.setCell ⟨b, 0, none⟩ c0).setCell ⟨b, 1, none⟩ c1).setCell ⟨b, 2, none⟩ c2).setCell ⟨b, 3, none⟩ c3).setCell ⟨b, 4, none⟩ c4).setCell ⟨b, 5, none⟩ c5).setCell ⟨b, 6, none⟩ c6).setCell ⟨b, 7, none⟩ c7).setCell ⟨b, 8, none⟩ c8) :=
 (((((((((h.set 0 c0 (by simp)).set 1 c1 (by simp)).set 2 c2 (by simp)).set 3 c3 (by simp)).set 4 c4 (by simp)).set 5 c5 (by simp)).set 6 c6 (by simp)).set 7 c7 (by simp)).set 8 c8 (by simp))
theorem Ext.cput9 {w w' : World} (h : Ext w w') {b : Nat} (hb : w.heap.size ≤ b) (c0 c1 c2 c3 c4 c5 c6 c7 c8 : Value) : Ext w (((((((((w'.setCell ⟨b, 0, none⟩ c0).setCell ⟨b, 1, none⟩ c1).setCell ⟨b, 2, none⟩ c2).setCell ⟨b, 3, none⟩ c3).setCell ⟨b, 4, none⟩ c4).setCell ⟨b, 5, none⟩ c5).setCell ⟨b, 6, none⟩ c6).setCell ⟨b, 7, none⟩ c7).setCell ⟨b, 8, none⟩ c8) :=
 (((((((((h.setCell (p := ⟨b, 0, none⟩) hb _).setCell (p := ⟨b, 1, none⟩) hb _).setCell (p := ⟨b, 2, none⟩) hb _).setCell (p := ⟨b, 3, none⟩) hb _).setCell (p := ⟨b, 4, none⟩) hb _).setCell (p := ⟨b, 5, none⟩) hb _).setCell (p := ⟨b, 6, none⟩) hb _).setCell (p := ⟨b, 7, none⟩) hb _).setCell (p := ⟨b, 8, none⟩) hb _)
structure Cel3 (b : Nat) (a0 a1 a2 : Value) (w : World) : Prop where
 lt : b < w.heap.size
 c0 : w.cell? ⟨b, 0, none⟩ = some a0
 c1 : w.cell? ⟨b, 1, none⟩ = some a1
 c2 : w.cell? ⟨b, 2, none⟩ = some a2
theorem Cel3.ext {b : Nat} {a0 a1 a2 : Value} {w w' : World} (h : Cel3 b a0 a1 a2 w) (hx : Ext w w') : Cel3 b a0 a1 a2 w' := by
 have hc : ∀ {i : Nat} {u}, w.cell? ⟨b, i, none⟩ = some u → w'.cell? ⟨b, i, none⟩ = some u := fun {i u} e => by rw [hx.cell (by exact h.lt)]; exact e
 exact ⟨Nat.lt_of_lt_of_le h.lt hx.size, hc h.c0, hc h.c1, hc h.c2⟩
theorem CB.c3 {b : Nat} {a0 a1 a2 : Value} {w : World} (h : CB b [a0, a1, a2] w) : Cel3 b a0 a1 a2 w := ⟨h.lt, h.cell 0 (by simp), h.cell 1 (by simp), h.cell 2 (by simp)⟩
theorem quiet_load_row {P : Program} {C : World → Prop} {o : Oper} {a : Act} {K : Act → Prop} (ty : TypeId) (x : Operand) (ho : o.op = .load ty x)
  (g : Nat) (hx : a.eval x = .pointer (some ⟨g, 0, none⟩)) (t : TypeId) (cs : Array Value) (fr : Nat × Nat) (d : TypeDesc) (hg : ∀ w, C w → w.heap[g]? = some (.cells cs t fr))
  (hu : P.underlying ty = some d) (hd : (match d with | .struct _ | .array _ _ => true | _ => false) = true) (hi : (P.info? ty).map (·.size) = some cs.size)
  (h : K (a.put o.dst (.agg cs))) : o.quiet P a C K := by
 refine ⟨.agg cs, fun w hw => ?_, h⟩
 unfold Oper.quietAt execOp
 simp only [ho, hx, Instr.loadAt, Instr.sureAddr, Sem.run_bind, Sem.run_pure, Result.andThen_ok, run_loadVar_row w g t ty cs fr d (hg w hw) hu hd hi]
 exact ⟨rfl, rfl⟩
theorem region_cut {P : Program} {id : Nat} {l : Array Oper} {dr : Bool} {Q : Exit → Act → World → Prop} {a : Act} {w : World} (R : Act → Act → World → Prop)
  (h : (Code.region id l dr).wp P (fun e a' w' => match e with | .normal => R a a' w' | _ => False) a w) (hk : ∀ a' w', R a a' w' → Q .normal a' w') : (Code.region id l dr).wp P Q a w := by
 refine Code.wp_mono (fun e a' w' h => ?_) h
 cases e with
 | normal => exact hk a' w' h
 | _ => exact h.elim
section
variable {P : Program} {ops : Array Oper} {Q : Exit → Act → World → Prop} {md : Region.Mode} {I : World → Prop} {z : Nat}
def waitsB (md : Region.Mode) (ops : Array Oper) : Nat → Nat → Nat → Bool
 | 0, _, _ => false
 | n + 1, z, i => match ops[z]? with | some o => o.after.any fun e => Region.binds md e && (e.on == i || waitsB md ops n e.on i) | none => false
def Closed (md : Region.Mode) (ops : Array Oper) (listed : Array Bool) : Prop := ∀ j oj, ops[j]? = some oj → listed.getD j false = true → ∀ e ∈ oj.after, Region.binds md e = true → listed.getD e.on false = true
def closedB (md : Region.Mode) (ops : Array Oper) (listed : Array Bool) : Bool := (List.range ops.size).all fun j => !(listed.getD j false) || match ops[j]? with | some o => o.after.all fun e => !(Region.binds md e) || listed.getD e.on false | none => true
theorem closedB_spec {listed : Array Bool} (h : closedB md ops listed = true) : Closed md ops listed := by
 intro j oj hj hl e he hb
 have h1 := List.all_eq_true.1 h j (List.mem_range.2 (Array.getElem?_eq_some_iff.1 hj).1)
 rw [hj, hl, Bool.not_true, Bool.false_or] at h1
 obtain ⟨k, hk, rfl⟩ := Array.mem_iff_getElem.1 he
 have h2 := Array.all_eq_true.1 h1 k hk
 rw [hb, Bool.not_true, Bool.false_or] at h2
 exact h2
theorem getD_put {listed : Array Bool} {j k : Nat} (h : listed.getD k false = true) : (listed.setIfInBounds j true).getD k false = true := by
 by_cases e : j = k
 ·subst e
  rcases Nat.lt_or_ge j listed.size with h' | h'
  ·simp [h']
  ·simp [Array.getElem?_eq_none h'] at h
 ·rw [getD_set_ne false e]; exact h
theorem Closed.put {listed : Array Bool} {j : Nat} (h : Closed md ops listed) (hj : j ∈ Region.ready md ops listed) : Closed md ops (listed.setIfInBounds j true) := by
 intro k ok hk hl e he hb
 by_cases hjk : j = k
 ·subst hjk
  obtain ⟨_, o, ho, hall⟩ := mem_ready.1 hj
  rw [ho] at hk
  injection hk with hk
  subst hk
  exact getD_put (hall e he hb)
 ·rw [getD_set_ne false hjk] at hl
  exact getD_put (h k ok hk hl e he hb)
theorem waits_listed {listed : Array Bool} (hc : Closed md ops listed) : ∀ {n z i : Nat}, (∀ o, ops[z]? = some o → ∀ e ∈ o.after, Region.binds md e = true → listed.getD e.on false = true) → waitsB md ops n z i = true → listed.getD i false = true
 | 0, _, _, _, h => by cases h
 | n + 1, z, i, hz, h => by
  unfold waitsB at h
  cases ho : ops[z]? with
  | none => rw [ho] at h; cases h
  | some o =>
   rw [ho] at h
   obtain ⟨k, hk, h3⟩ := Array.any_eq_true.1 h
   rw [Bool.and_eq_true, Bool.or_eq_true, beq_iff_eq] at h3
   have h4 := hz o ho _ (Array.getElem_mem hk) h3.1
   rcases h3.2 with h5 | h5
   ·rw [← h5]; exact h4
   ·exact waits_listed hc (fun o' ho' e he hb => hc _ o' ho' h4 e he hb) h5
theorem waits_out {listed : Array Bool} {n i : Nat} (hc : Closed md ops listed) (h : waitsB md ops n z i = true) (hi : i ∈ Region.ready md ops listed) : z ∉ Region.ready md ops listed := by
 intro hzr
 obtain ⟨hiu, _⟩ := mem_ready.1 hi
 obtain ⟨_, oz, hoz, hall⟩ := mem_ready.1 hzr
 have h4 := waits_listed hc (fun o ho e he hb => by rw [hoz] at ho; injection ho with ho; subst ho; exact hall e he hb) h
 rcases Nat.lt_or_ge i listed.size with h' | h'
 ·simp [h'] at hiu h4; rw [hiu] at h4; cases h4
 ·simp [Array.getElem?_eq_none h'] at h4
def tailB (md : Region.Mode) (ops : Array Oper) (z i : Nat) : Bool := (List.range ops.size).all fun k => decide (k < z) || waitsB md ops ops.size k i
theorem tail_out {listed : Array Bool} {i k : Nat} (hc : Closed md ops listed) (h : tailB md ops z i = true) (hi : i ∈ Region.ready md ops listed) (hk : z ≤ k) : k ∉ Region.ready md ops listed := by
 intro hkr
 obtain ⟨_, o, ho, _⟩ := mem_ready.1 hkr
 have h1 := List.all_eq_true.1 h k (List.mem_range.2 (Array.getElem?_eq_some_iff.1 ho).1)
 rw [Bool.or_eq_true] at h1
 exact waits_out hc (h1.resolve_left (by simp; omega)) hi hkr
theorem wpT_first {i : Nat} {oi : Oper} {v : Value} (hI : ∀ w w', I w → Ext w w' → I w') (hi : ops[i]? = some oi) (hlast : tailB md ops z i = true)
  (hsel : ∀ (j : Nat) (o : Oper) cs b, ops[j]? = some o → o.op ≠ .select cs b)
  (hQ : ∀ c a w, Q (.panic c) (a.put oi.dst v) w → Q (.panic c) a w) :
  ∀ (fuel : Nat) (listed : Array Bool) (a : Act) (w : World), Closed md ops listed →
   (∀ j oj, ops[j]? = some oj → j ≠ i → listed.getD j true = false → (∀ e ∈ oj.after, Region.binds md e = true → e.on ≠ i) → oi.apart ops oj = true) →
   i ∈ Region.ready md ops listed → RunsI P ops I oi v a → I w →
   wpF P md ops Q I z fuel (listed.setIfInBounds i true) (a.put oi.dst v) w → wpF P md ops Q I z (fuel + 1) listed a w := by
 intro fuel
 induction fuel with
 | zero =>
  intro listed a w _ _ hr hy hIw H
  refine fun w' hx => ⟨fun h => (by rw [h] at hr; cases hr), fun j hj => ?_⟩
  by_cases hji : j = i
  ·subst hji; exact hy.wpOp hi (hI _ _ hIw hx) (fun w'' hx' => ⟨fun _ => hI _ _ (hI _ _ hIw hx) hx', H.ext (hx.trans hx')⟩)
  ·have := ready_mono hj hji
   rw [(H w' hx).1] at this
   cases this
 | succ fuel ih =>
  intro listed a w hcl hfree hr hy hIw H
  refine fun w' hx => ⟨fun h => (by rw [h] at hr; cases hr), fun j hj => ?_⟩
  by_cases hji : j = i
  ·subst hji; exact hy.wpOp hi (hI _ _ hIw hx) (fun w'' hx' => ⟨fun _ => hI _ _ (hI _ _ hIw hx) hx', H.ext (hx.trans hx')⟩)
  ·have hjz : j < z := Nat.lt_of_not_le fun e => tail_out hcl hlast hr e hj
   have h1 := (H w' hx).2 j (ready_mono hj hji)
   obtain ⟨hjun, oj, hoj, hall⟩ := mem_ready.1 hj
   have hnot : ∀ e ∈ oj.after, Region.binds md e = true → e.on ≠ i := fun e he hb heq => by
    have h1 := hall e he hb
    have h0 := (mem_ready.1 hr).1
    rw [heq] at h1
    rcases Nat.lt_or_ge i listed.size with h' | h'
    ·simp [h'] at h0 h1; rw [h0] at h1; cases h1
    ·simp [Array.getElem?_eq_none h'] at h1
   have h2 := wpOp_putI hoj (hfree j oj hoj hji hjun hnot) (fun cs b => hsel i oi cs b hi) (fun cs b => hsel j oj cs b hoj) hQ hy h1
   have hfree' : ∀ k ok, ops[k]? = some ok → k ≠ i → (listed.setIfInBounds j true).getD k true = false →
     (∀ e ∈ ok.after, Region.binds md e = true → e.on ≠ i) → oi.apart ops ok = true := fun k ok hk hki hun hno => by
    refine hfree k ok hk hki ?_ hno
    by_cases hjk : j = k
    ·subst hjk; exact hjun
    ·rw [getD_set_ne true hjk] at hun; exact hun
   refine wpOp_mono (fun a' w'' h3 => ⟨h3.2.1, ih (listed.setIfInBounds j true) a' w'' (hcl.put hj) hfree' (ready_mono hr (Ne.symm hji)) h3.1 (h3.2.1 hjz) ?_⟩) h2
   rw [Array.setIfInBounds_comm _ _ hji]
   exact h3.2.2
def takesT (md : Region.Mode) (ops : Array Oper) (z : Nat) : Array Bool → List Nat → Bool
 | _, [] => true
 | listed, i :: is => (Region.free md ops listed i && (Region.ready md ops listed).contains i && tailB md ops z i) && takesT md ops z (listed.setIfInBounds i true) is
theorem takes_firstT {l : List Oper} (hI : ∀ w w', I w → Ext w w' → I w') {w : World} (hIw : I w) (hsel : Region.noSelect l.toArray = true) : ∀ {is : List Nat} {os : List Oper} {fuel : Nat} {listed : Array Bool} {a a1 : Act}, Closed md l.toArray listed → (∀ c (a : Act) w d (v : Value), Q (.panic c) (a.put d v) w → Q (.panic c) a w) →
  Pick l is os → dstB os = true → takesT md l.toArray z listed is = true →
  (∀ x : {w // I w}, wpQuiet P l.toArray (fun w' => ∃ y, w' = World.grow x.1 y) (fun a' => a' = a1) os a) →
  wpF P md l.toArray Q I z fuel (is.foldl (fun L i => L.setIfInBounds i true) listed) a1 w → wpF P md l.toArray Q I z (is.length + fuel) listed a w
 | [], os, fuel, listed, a, a1, _, _, hp, _, _, hq, h => by
  have : os = [] := hp
  subst this
  have e : a = a1 := hq ⟨w, hIw⟩
  subst e
  simpa using h
 | i :: is, os, fuel, listed, a, a1, hcl, hQ, hp, hd, hB, hq, h => by
  obtain ⟨o, os', rfl, ho, hp⟩ := hp
  simp only [takesT, Bool.and_eq_true] at hB
  obtain ⟨v, h1, h2⟩ := quiet_cons (W := {w // I w}) (G := Subtype.val) (C := fun x w' => ∃ y, w' = World.grow x.1 y) ⟨w, hIw⟩ hd (fun x => ⟨x.1, (grow_ext (Ext.refl _)).symm⟩) (fun x w' ⟨y, hy⟩ => hy ▸ ext_grow _ y) hq
  have hd' : dstB os' = true := by simp only [dstB, Bool.and_eq_true] at hd; exact hd.2
  have ho' : l.toArray[i]? = some o := by simpa using ho
  have hr : RunsI P l.toArray I o v a := by
   rcases h1 with ⟨hw, h1⟩ | h1
   ·exact Or.inl ⟨hw, fun x hx => h1 ⟨x, hx⟩⟩
   ·exact Or.inr h1
  have := takes_firstT hI hIw hsel (hcl.put (by simpa using hB.1.1.2)) hQ hp hd' hB.2 h2 h
  rw [List.length_cons, show is.length + 1 + fuel = (is.length + fuel) + 1 by omega]
  exact wpT_first hI ho' hB.1.2 (Region.noSelect_spec hsel) (fun c a w => hQ c a w o.dst v) _ listed a w hcl (Region.free_spec ho' hB.1.1.1) (by simpa using hB.1.1.2) hr hIw this
theorem tts {l : List Oper} (is : List Nat) (m fuel : Nat) {n m0 F : Nat} {os : List Oper} {a a1 : Act} {w : World} (hI : ∀ w w', I w → Ext w w' → I w') (hIw : I w)
  (h : wpF P md l.toArray Q I z fuel (bits n m) a1 w)
  (hp : Pick l is os := by (repeat first | apply Pick.cons rfl | apply Pick.range rfl); exact Pick.nil)
  (hq : ∀ x, I x → wpQuiet P l.toArray (fun w' => ∃ y, w' = World.grow x y) (fun a' => a' = a1) os a := by intro wq hwq; (repeat go_big_quiet_step (fail)); exact wpQuiet_nil rfl)
  (hF : is.length + fuel = F := by kernel_rfl)
  (hB : (Region.noSelect l.toArray && (dstB os && (closedB md l.toArray (bits n m0) && takesT md l.toArray z (bits n m0) is))) = true := by kernel_rfl)
  (hl : is.foldl (fun L i => L.setIfInBounds i true) (bits n m0) = bits n m := by kernel_rfl)
  (hQ : ∀ c (a : Act) w d (v : Value), Q (.panic c) (a.put d v) w → Q (.panic c) a w := by intro _ _ _ d _ h; cases d <;> exact h) : wpF P md l.toArray Q I z F (bits n m0) a w := by
 simp only [Bool.and_eq_true] at hB
 subst hF
 replace hq := fun x : {w // I w} => hq x.1 x.2
 exact takes_firstT hI hIw hB.1 (closedB_spec hB.2.2.1) hQ hp hB.2.1 hB.2.2.2 hq (hl ▸ h)
end
end Go.Dm
