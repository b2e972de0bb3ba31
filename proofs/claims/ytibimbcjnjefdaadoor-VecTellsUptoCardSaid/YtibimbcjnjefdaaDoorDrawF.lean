/- A region that draws its order, whose last operation may break what the others read by: the laws of Draw with a predicate in the place of a world. No program in sight. -/
import Derived.Test.YtibimbcjnjefdaaDoorDraw
namespace Go.Dm
open Go Go.RowKit

section
variable {P : Program} {ops : Array Oper} {Q : Exit → Act → World → Prop} {md : Region.Mode} {I : World → Prop} {z : Nat}

/-- Whatever order is picked from here on; behind each operation but the last one the predicate holds. -/
def wpF (P : Program) (md : Region.Mode) (ops : Array Oper) (Q : Exit → Act → World → Prop) (I : World → Prop) (z : Nat) : Nat → Array Bool → Act → World → Prop
  | 0, listed, a, w => ∀ w', Ext w w' → Region.ready md ops listed = [] ∧ Q .normal a w'
  | fuel + 1, listed, a, w => ∀ w', Ext w w' →
    (Region.ready md ops listed = [] → Q .normal a w') ∧
    ∀ j ∈ Region.ready md ops listed, wpOp P ops Q j (fun a' w'' => (j ≠ z → I w'') ∧ wpF P md ops Q I z fuel (listed.setIfInBounds j true) a' w'') a w'

theorem wpF.ext : ∀ {fuel : Nat} {listed : Array Bool} {a : Act} {w w' : World}, wpF P md ops Q I z fuel listed a w → Ext w w' → wpF P md ops Q I z fuel listed a w'
  | 0, _, _, _, _, h, hb => fun x hx => h x (hb.trans hx)
  | _ + 1, _, _, _, _, h, hb => fun x hx => h x (hb.trans hx)

theorem wpF.any : ∀ (fuel : Nat) (listed : Array Bool) (a : Act) (w : World), wpF P md ops Q I z fuel listed a w → wpAny P md ops Q fuel listed a w
  | 0, _, _, w, h => h w (Ext.refl w)
  | fuel + 1, _, _, w, h => ⟨(h w (Ext.refl w)).1, fun i hi => wpOp_mono (fun a' w' h' => wpF.any fuel _ a' w' h'.2) ((h w (Ext.refl w)).2 i hi)⟩

theorem wp_region_fin {id : Nat} {l : List Oper} {a : Act} {w : World} (n : Nat) (L : Array Bool) (hm : P.follows .mixedOrders = true) (hn : l.length = n) (hL : Array.replicate n false = L)
    (h : wpF P .any l.toArray Q I z n L a w) : (Code.region id l.toArray true).wp P Q a w := by
  subst hn hL
  exact wp_region_any hm (by simpa using wpF.any _ _ _ _ (h.ext (Ext.drew w)))

/-- In a function that defers: the region is shown not to panic. -/
def NoPanic (Q : Exit → Act → World → Prop) : Exit → Act → World → Prop
  | .panic _, _, _ => False
  | e, a, w => Q e a w

theorem NoPanic.back {Q : Exit → Act → World → Prop} {a : Act} {w : World} (h : Q .normal a w) : NoPanic Q .normal a w := h

theorem wp_region_finN {id : Nat} {l : List Oper} {a : Act} {w : World} (n : Nat) (L : Array Bool) (hm : P.follows .mixedOrders = true) (hn : l.length = n) (hL : Array.replicate n false = L)
    (h : wpF P .any l.toArray (NoPanic Q) I z n L a w) : (Code.region id l.toArray true).wp P Q a w := by
  refine Code.wp_mono (fun e a w h => ?_) (wp_region_fin n L hm hn hL h)
  cases e with
  | panic c => exact h.elim
  | _ => exact h

/-- In every world where the predicate holds the operation yields one value, and what it leaves has grown. -/
def QuietI (P : Program) (ops : Array Oper) (I : World → Prop) (o : Oper) (a a1 : Act) : Prop :=
  ∀ w, I w → wpQuiet P ops (fun w' => ∃ y, w' = World.grow w y) (fun a' => a' = a1) [o] a

def RunsI (P : Program) (ops : Array Oper) (I : World → Prop) (o : Oper) (v : Value) (a : Act) : Prop :=
  (Region.wanted o (yielded ops a.tmps) = true ∧ ∀ w, I w → ∃ v', (∀ b : Act, b.tmps.size = a.tmps.size → b.put o.dst v' = b.put o.dst v) ∧ o.quietAt P a (Ext w) w v') ∨
  (Region.wanted o (yielded ops a.tmps) = false ∧ v = undef)

theorem QuietI.runs {o : Oper} {a a1 : Act} {w0 : World} (h0 : I w0) (h : QuietI P ops I o a a1) : ∃ v, a1 = a.put o.dst v ∧ RunsI P ops I o v a := by
  by_cases hw : Region.wanted o (yielded ops a.tmps) = true
  · have one : ∀ w, I w → ∃ v', a1 = a.put o.dst v' ∧ o.quietAt P a (Ext w) w v' := by
      intro w hwx
      have h1 := h w hwx
      simp only [wpQuiet, hw, if_true] at h1
      obtain ⟨v, h2, h3⟩ := h1
      refine ⟨v, h3.symm, ?_⟩
      have := h2 w ⟨w, (grow_ext (Ext.refl w)).symm⟩
      exact quietUpon_mono (fun x ⟨y, hy⟩ => hy ▸ ext_grow w y) this
    obtain ⟨v, h1, _⟩ := one w0 h0
    refine ⟨v, h1, Or.inl ⟨hw, fun w hx => ?_⟩⟩
    obtain ⟨v', h4, h5⟩ := one w hx
    exact ⟨v', fun b hb => put_eq (h4.symm.trans h1) b hb, h5⟩
  · have h1 := h w0 h0
    simp only [wpQuiet, hw] at h1
    exact ⟨undef, h1.symm, Or.inr ⟨by simpa using hw, rfl⟩⟩

theorem RunsI.of_same {o : Oper} {v : Value} {a a' : Act} (hy : RunsI P ops I o v a) (hs : a'.tmps.size = a.tmps.size) (he : execOp a'.eval o = execOp a.eval o)
    (hw : Region.wanted o (yielded ops a'.tmps) = Region.wanted o (yielded ops a.tmps)) : RunsI P ops I o v a' := by
  unfold RunsI Oper.quietAt at *
  rw [he, hw, hs]
  exact hy

theorem RunsI.wpOp {i : Nat} {o : Oper} {v : Value} {a : Act} (hi : ops[i]? = some o) (hy : RunsI P ops I o v a)
    {K : Act → World → Prop} {w : World} (hx : I w) (h : ∀ w', Ext w w' → K (a.put o.dst v) w') : wpOp P ops Q i K a w := by
  unfold Go.wpOp
  simp only [hi]
  rcases hy with ⟨hw, hv⟩ | ⟨hw, rfl⟩
  · simp only [hw, if_true]
    obtain ⟨v', h1, h2⟩ := hv w hx
    rw [← h1 a rfl] at h
    left
    unfold Oper.quietAt at h2
    unfold Oper.wp
    generalize (execOp a.eval o).run P w = r at *
    cases r with
    | ok n w' =>
      cases n <;> simp only [Oper.quietUpon] at h2 <;> simp only [Oper.upon]
      · obtain ⟨e1, e2⟩ := h2; rw [e1, e2]; exact h w (Ext.refl w)
      · obtain ⟨e1, e2⟩ := h2; rw [e1, ← e2]; exact h w (Ext.refl w)
      · obtain ⟨e1, hc⟩ := h2; rw [e1]; exact hc.mono fun e w'' ⟨he, hw''⟩ => by subst he; exact h w'' hw''
    | halt x w' => simp only [Oper.quietUpon] at h2
  · simp only [hw, Bool.false_eq_true, if_false]; exact h w (Ext.refl w)

/-- What comes up before an operation that only reads: as if that had come up already. -/
theorem wpOp_putI {j : Nat} {oi oj : Oper} {v : Value} (hj : ops[j]? = some oj) (hap : oi.apart ops oj = true)
    (hsi : ∀ cs b, oi.op ≠ .select cs b) (hsj : ∀ cs b, oj.op ≠ .select cs b)
    (hQ : ∀ c a w, Q (.panic c) (a.put oi.dst v) w → Q (.panic c) a w) {K : Act → World → Prop} {a : Act} {w : World}
    (hy : RunsI P ops I oi v a) (h : wpOp P ops Q j K (a.put oi.dst v) w) :
    wpOp P ops Q j (fun a' w' => RunsI P ops I oi v a' ∧ K (a'.put oi.dst v) w') a w := by
  obtain ⟨h1, h2, h3⟩ := Oper.apart_spec hap
  have keep : ∀ (a : Act), RunsI P ops I oi v a → ∀ u, RunsI P ops I oi v (a.put oj.dst u) := fun a hy u =>
    hy.of_same (size_put _ _ _) (execOp_put oi hsi a oj.dst u h3) (wanted_put oi a oj.dst u h3)
  have keepD : ∀ d, RunsI P ops I oi v { a with defers := d :: a.defers } := fun d => hy.of_same rfl rfl rfl
  unfold wpOp at *
  simp only [hj] at *
  rw [wanted_put oj a oi.dst v h1] at h
  split
  · rename_i hw
    simp only [hw, if_true] at h
    rcases h with h | ⟨hasks, hlets⟩
    case inr => exact .inr ⟨by unfold Oper.asks at *; rw [execOp_put oj hsj a oi.dst v h1] at hasks; exact hasks, hlets⟩
    refine .inl ?_
    unfold Oper.wp at *
    rw [execOp_put oj hsj a oi.dst v h1] at h
    generalize (execOp a.eval oj).run P w = r at *
    cases r with
    | ok n w' =>
      cases n <;> simp only [Oper.upon] at h ⊢
      case value u => exact ⟨keep a hy u, by rw [← Act.put_comm a v u h2]; exact h⟩
      case skip => exact ⟨keep a hy _, by rw [← Act.put_comm a v undef h2]; exact h⟩
      case defer d =>
        refine ⟨keep _ (keepD d) _, ?_⟩
        rw [← Act.put_comm _ v undef h2, ← Act.put_defers]
        exact h
      case enter f args =>
        refine Calls.mono h fun e w'' he => ?_
        cases e with
        | returned u => exact ⟨keep a hy u, by rw [← Act.put_comm a v u h2]; exact he⟩
        | panicked c => exact hQ _ _ _ he
        | outgrown => exact he
      case row row args => exact Rows.mono h fun u w'' he => ⟨keep a hy u, by rw [← Act.put_comm a v u h2]; exact he⟩
    | halt x w' =>
      cases x <;> simp only [Oper.upon] at h ⊢
      case panic u => exact hQ _ _ _ h
  · rename_i hw
    simp only [hw] at h
    exact ⟨keep a hy _, by rw [← Act.put_comm a v undef h2]; exact h⟩

/-- The last operation waits for each other one. -/
def lastB (md : Region.Mode) (ops : Array Oper) (z : Nat) : Bool :=
  (List.range ops.size).all fun i => i == z || match ops[z]? with | some o => o.after.any fun e => Region.binds md e && e.on == i | none => true

theorem last_waits {listed : Array Bool} {i : Nat} (h : lastB md ops z = true) (hi : i ∈ Region.ready md ops listed) (hz : i ≠ z) : z ∉ Region.ready md ops listed := by
  intro hzr
  obtain ⟨hiu, oi, hoi, _⟩ := mem_ready.1 hi
  obtain ⟨_, oz, hoz, hall⟩ := mem_ready.1 hzr
  have hlt : i < ops.size := (Array.getElem?_eq_some_iff.1 hoi).1
  have h1 := List.all_eq_true.1 h i (List.mem_range.2 hlt)
  rw [hoz, Bool.or_eq_true, beq_iff_eq] at h1
  have h2 := h1.resolve_left hz
  rw [Array.any_eq_true] at h2
  obtain ⟨k, hk, h3⟩ := h2
  rw [Bool.and_eq_true, beq_iff_eq] at h3
  have h4 := hall _ (Array.getElem_mem hk) h3.1
  rw [h3.2] at h4
  rcases Nat.lt_or_ge i listed.size with h' | h'
  · simp [h'] at hiu h4; rw [hiu] at h4; cases h4
  · simp [Array.getElem?_eq_none h'] at h4

/-- An operation that only reads, and may come up now, may be taken first. -/
theorem wpF_first {i : Nat} {oi : Oper} {v : Value} (hI : ∀ w w', I w → Ext w w' → I w') (hi : ops[i]? = some oi) (hz : i ≠ z) (hlast : lastB md ops z = true)
    (hsel : ∀ (j : Nat) (o : Oper) cs b, ops[j]? = some o → o.op ≠ .select cs b)
    (hQ : ∀ c a w, Q (.panic c) (a.put oi.dst v) w → Q (.panic c) a w) :
    ∀ (fuel : Nat) (listed : Array Bool) (a : Act) (w : World),
      (∀ j oj, ops[j]? = some oj → j ≠ i → listed.getD j true = false → (∀ e ∈ oj.after, Region.binds md e = true → e.on ≠ i) → oi.apart ops oj = true) →
      i ∈ Region.ready md ops listed → RunsI P ops I oi v a → I w →
      wpF P md ops Q I z fuel (listed.setIfInBounds i true) (a.put oi.dst v) w → wpF P md ops Q I z (fuel + 1) listed a w := by
  intro fuel
  induction fuel with
  | zero =>
    intro listed a w _ hr hy hIw H
    refine fun w' hx => ⟨fun h => (by rw [h] at hr; cases hr), fun j hj => ?_⟩
    by_cases hji : j = i
    · subst hji; exact hy.wpOp hi (hI _ _ hIw hx) (fun w'' hx' => ⟨fun _ => hI _ _ (hI _ _ hIw hx) hx', H.ext (hx.trans hx')⟩)
    · have := ready_mono hj hji
      rw [(H w' hx).1] at this
      cases this
  | succ fuel ih =>
    intro listed a w hfree hr hy hIw H
    refine fun w' hx => ⟨fun h => (by rw [h] at hr; cases hr), fun j hj => ?_⟩
    by_cases hji : j = i
    · subst hji; exact hy.wpOp hi (hI _ _ hIw hx) (fun w'' hx' => ⟨fun _ => hI _ _ (hI _ _ hIw hx) hx', H.ext (hx.trans hx')⟩)
    · have hjz : j ≠ z := fun e => last_waits hlast hr hz (e ▸ hj)
      have h1 := (H w' hx).2 j (ready_mono hj hji)
      obtain ⟨hjun, oj, hoj, hall⟩ := mem_ready.1 hj
      have hnot : ∀ e ∈ oj.after, Region.binds md e = true → e.on ≠ i := fun e he hb heq => by
        have h1 := hall e he hb
        have h0 := (mem_ready.1 hr).1
        rw [heq] at h1
        rcases Nat.lt_or_ge i listed.size with h' | h'
        · simp [h'] at h0 h1; rw [h0] at h1; cases h1
        · simp [Array.getElem?_eq_none h'] at h1
      have h2 := wpOp_putI hoj (hfree j oj hoj hji hjun hnot) (fun cs b => hsel i oi cs b hi) (fun cs b => hsel j oj cs b hoj) hQ hy h1
      have hfree' : ∀ k ok, ops[k]? = some ok → k ≠ i → (listed.setIfInBounds j true).getD k true = false →
          (∀ e ∈ ok.after, Region.binds md e = true → e.on ≠ i) → oi.apart ops ok = true := fun k ok hk hki hun hno => by
        refine hfree k ok hk hki ?_ hno
        by_cases hjk : j = k
        · subst hjk; exact hjun
        · rw [getD_set_ne true hjk] at hun; exact hun
      refine wpOp_mono (fun a' w'' h3 => ⟨h3.2.1, ih (listed.setIfInBounds j true) a' w'' hfree' (ready_mono hr (Ne.symm hji)) h3.1 (h3.2.1 hjz) ?_⟩) h2
      rw [Array.setIfInBounds_comm _ _ hji]
      exact h3.2.2

/-- One operation that only reads is taken. -/
theorem wpF_take {l : List Oper} {i : Nat} {o : Oper} {fuel : Nat} {listed listed' : Array Bool} {a : Act} {w : World} (hI : ∀ w w', I w → Ext w w' → I w') (hIw : I w)
    (hB : (Region.noSelect l.toArray && Region.free md l.toArray listed i && (Region.ready md l.toArray listed).contains i && (i != z && lastB md l.toArray z)) = true)
    (hl : listed.setIfInBounds i true = listed')
    (ho : l[i]? = some o)
    (hQ : ∀ c a w v, Q (.panic c) (a.put o.dst v) w → Q (.panic c) a w)
    (hq : ∃ a1, QuietI P l.toArray I o a a1 ∧ wpF P md l.toArray Q I z fuel listed' a1 w) : wpF P md l.toArray Q I z (fuel + 1) listed a w := by
  simp only [Bool.and_eq_true] at hB
  obtain ⟨a1, hq, h⟩ := hq
  obtain ⟨v, rfl, hr⟩ := hq.runs hIw
  have ho' : l.toArray[i]? = some o := by simpa using ho
  exact wpF_first hI ho' (by simpa using hB.2.1) hB.2.2 (Region.noSelect_spec hB.1.1.1) (fun c a w => hQ c a w v) fuel listed a w (Region.free_spec ho' hB.1.1.2) (by simpa using hB.1.2) hr hIw (hl ▸ h)

/-- One operation alone may come up. -/
theorem wpF_one {l : List Oper} {i : Nat} {o : Oper} {fuel : Nat} {listed listed' : Array Bool} {a : Act} {w : World}
    (hB : Region.ready md l.toArray listed = [i]) (hl : listed.setIfInBounds i true = listed') (ho : l[i]? = some o)
    (h : ∀ w', Ext w w' → wpList P l.toArray (Exit.then (fun a' w'' => (i ≠ z → I w'') ∧ wpF P md l.toArray Q I z fuel listed' a' w'') Q) [o] a w') : wpF P md l.toArray Q I z (fuel + 1) listed a w := by
  refine fun w' hx' => ⟨fun h0 => by rw [hB] at h0; simp at h0, fun j hj => ?_⟩
  rw [hB] at hj
  have hj : j = i := by simpa using hj
  subst hj hl
  exact wpOp_of_list ho (h w' hx')

theorem wpF_done {l : List Oper} {fuel : Nat} {listed : Array Bool} {a : Act} {w : World}
    (hB : Region.ready md l.toArray listed = []) (h : ∀ w', Ext w w' → Q .normal a w') : wpF P md l.toArray Q I z fuel listed a w := by
  cases fuel with
  | zero => exact fun w' hx' => ⟨hB, h w' hx'⟩
  | succ n => exact fun w' hx' => ⟨fun _ => h w' hx', fun j hj => by rw [hB] at hj; cases hj⟩
end
end Go.Dm
