/- Texts one behind the other: Chapter 19: what is opened is put as it was, in plain terms. -/
import Derived.Test.YtefjdmjkofaajaaGreatDoorB44
namespace Go.Dm
open Go Go.RowKit
theorem lab_iff {l : Bs} (hU : U64 l.length) {p n : Int} {L : List PairL} : atI getLabL [] l p = (L, n, true) ↔ rightLab L = true ∧ At (putLab L) l p n :=
 atI_at (put := putLab) (fit := fun L => rightLab L = true) (fun l x n hl => getLab_begins hl) (fun x h e => by have h1 := (putLab_short h).1; rw [e] at h1; simp at h1) hU
theorem At.nat {b l : Bs} {p n : Int} (h : At b l p n) : ∃ q : Nat, n = q := by
 obtain ⟨q, _, h2, _⟩ := h
 exact ⟨_, h2⟩
theorem At.nil {l : Bs} {p : Int} (h : ∃ q : Nat, p = q) : At [] l p p := by
 obtain ⟨q, rfl⟩ := h
 exact ⟨q, rfl, rfl, begins_nil _⟩
theorem cav_at {l : Bs} (hU : U64 l.length) {p n : Int} {c : Cav} (h : getCav l p = (c, n, true)) (hk : knownC c = true) : At (putC c) l p n := by
 unfold getCav at h
 rcases h1 : getI l p with ⟨a, q1, b1⟩
 rw [h1] at h
 simp only at h
 rcases h2 : getI l q1 with ⟨m, q2, b2⟩
 rw [h2] at h
 injection h with e1 h
 injection h with e2 e3
 simp only [Bool.and_eq_true] at e3
 obtain ⟨rfl, rfl⟩ := e3
 obtain ⟨_, a1⟩ := (getI_iff hU).1 h1
 obtain ⟨_, a2⟩ := (getI_iff hU).1 h2
 subst e1 e2
 unfold knownC at hk
 simp only [Bool.or_eq_true, decide_eq_true_eq] at hk
 have ha : u64of ((min a 3 : Nat) : Int) = a := by unfold u64of; omega
 unfold putC
 simp only
 rw [ha, At.app]
 exact ⟨_, a1, a2⟩
theorem cavs_at {l : Bs} (hU : U64 l.length) {p : Int} (hp : ∃ q : Nat, p = q) : ∀ {k : Nat} {cs : List Cav} {z : Int}, cavsAt l p k = some (cs, z) → (∀ c ∈ cs, knownC c = true) → cs.length = k ∧ At (cs.flatMap putC) l p z
 | 0, cs, z, h, _ => by
  injection h with h
  injection h with e1 e2
  subst e1 e2
  exact ⟨rfl, At.nil hp⟩
 | k + 1, cs, z, h, hk => by
  unfold cavsAt at h
  cases hc : cavsAt l p k with
  | none => rw [hc] at h; cases h
  | some x =>
   obtain ⟨ds, y⟩ := x
   rw [hc] at h
   simp only at h
   rcases hg : getCav l y with ⟨c, m, b⟩
   rw [hg] at h
   cases b with
   | false => simp at h
   | true =>
    simp only [if_true] at h
    injection h with h
    injection h with e1 e2
    subst e1 e2
    obtain ⟨h1, h2⟩ := cavs_at hU hp hc fun c hc => hk c (List.mem_append_left _ hc)
    refine ⟨by simp [h1], ?_⟩
    rw [List.flatMap_append, At.app]
    refine ⟨y, h2, ?_⟩
    have := cav_at hU hg (hk c (List.mem_append_right _ (by simp)))
    simpa using this
theorem tok_at {l : Bs} (hU : U64 l.length) {p n : Int} {t : TokQ} (h : getTok l p = (t, n, true)) : At (putTok t) l p n ∧ putTok t ≠ [] := by
 unfold getTok at h
 split at h
 ·cases h
 rename_i hno
 simp only [not_or, Bool.not_eq_false, Nat.not_lt] at hno
 obtain ⟨n1, n2, n3⟩ := hno
 rcases h1 : atI (getTextL 32) [] l p with ⟨t1, q1, b1⟩
 rw [h1] at h n1 n2 n3
 simp only at h n1 n2 n3
 subst n1
 rcases h2 : getI l q1 with ⟨k, q2, b2⟩
 rw [h2] at h n2 n3
 simp only at h n2 n3
 subst n2
 obtain ⟨_, a1⟩ := (text_iff hU).1 h1
 obtain ⟨_, a2⟩ := (getI_iff hU).1 h2
 cases hc : cavsAt l q2 k with
 | none => rw [hc] at h; cases h
 | some x =>
  obtain ⟨cs, z⟩ := x
  rw [hc] at h
  unfold tokAt at h
  simp only at h
  split at h
  ·cases h
  rename_i hne
  injection h with e1 e2
  injection e2 with e2 _
  subst e1 e2
  refine ⟨?_, hne⟩
  unfold putTok at hne ⊢
  split at hne
  ·rename_i hok
   obtain ⟨r1, r2, r3⟩ := hok
   rw [if_pos ⟨r1, r2, r3⟩]
   simp only at r1 r2 r3 ⊢
   have hkn : ∀ c ∈ cs, knownC c = true := by
    unfold fitsC at r2
    rw [Bool.and_eq_true, List.all_eq_true] at r2
    exact r2.2
   obtain ⟨hl, a3⟩ := cavs_at hU a2.nat hc hkn
   rw [hl]
   rw [At.app]
   refine ⟨q1, a1, ?_⟩
   rw [At.app]
   refine ⟨q2, a2, ?_⟩
   rw [At.app]
   refine ⟨z, a3, ?_⟩
   obtain ⟨zn, rfl⟩ := a3.nat
   have h32 : ((l.drop zn).take 32).length = 32 := r3
   show At ((l.drop zn).take 32) l (zn : Int) ((zn : Int) + 32)
   have hln : 32 ≤ (l.drop zn).length := by
    have := h32
    rw [List.length_take] at this
    omega
   refine ⟨zn, rfl, by rw [h32]; rfl, begins_take.2 ⟨by rw [h32], by rw [h32]; exact hln⟩⟩
  ·exact absurd rfl hne
theorem rdF_at {l : Bs} (hU : U64 l.length) {f : Fld} (hf : isFld f) {k q n : Int} {o : OpQ} (hq : ∃ m : Nat, q = m) (h : rdF l f k q = (o, n, true)) (hr : f.2.2.2.2.1 = true → chkX o.2.2.2.2.1 = 0) : o.1 = k ∧ At (putsOf f o) l q n := by
 have hX : ∀ x : SpQ, chkX x = 0 → putX x = putB x := fun x h => putX_ok h
 unfold rdF rdA rdT rdV rdX rdL at h
 rcases hf with rfl | rfl | rfl | rfl | rfl | rfl | rfl | rfl
 ·simp only [cond_true, cond_false, Bool.and_false] at h
  rcases h1 : getX l q with ⟨x, q1, b1⟩
  rw [h1] at h
  injection h with e1 e2
  injection e2 with e2 e3
  subst e1 e2 e3
  obtain ⟨c0, _, a1⟩ := (getX_iff hU).1 h1
  refine ⟨rfl, ?_⟩
  simp only [putsOf, cond_true, cond_false, List.nil_append, List.append_nil]
  rw [hX _ c0]
  exact a1
 ·simp only [cond_true, cond_false, Bool.and_false] at h
  rcases h1 : getI l q with ⟨x, q1, b1⟩
  rw [h1] at h
  injection h with e1 e2
  injection e2 with e2 e3
  subst e1 e2 e3
  refine ⟨rfl, ?_⟩
  simp only [putsOf, cond_true, cond_false, List.append_nil]
  exact ((getI_iff hU).1 h1).2
 ·simp only [cond_true, cond_false, Bool.and_true, Bool.and_false] at h
  rcases h1 : atI (getTextL 98) [] l q with ⟨t, q1, b1⟩
  rw [h1] at h
  simp only at h
  cases b1 with
  | false => simp at h
  | true =>
   simp only [cond_true] at h
   rcases h2 : getV l q1 with ⟨d, q2, b2⟩
   rw [h2] at h
   injection h with e1 e2
   injection e2 with e2 e3
   subst e1 e2 e3
   refine ⟨rfl, ?_⟩
   simp only [putsOf, cond_true, cond_false, List.nil_append, List.append_nil]
   rw [At.app]
   exact ⟨_, ((text_iff hU).1 h1).2, ((getV_iff hU).1 h2).2⟩
 ·simp only [cond_true, cond_false, Bool.and_false] at h
  rcases h1 : getI l q with ⟨x, q1, b1⟩
  rw [h1] at h
  injection h with e1 e2
  injection e2 with e2 e3
  subst e1 e2 e3
  refine ⟨rfl, ?_⟩
  simp only [putsOf, cond_true, cond_false, List.nil_append, List.append_nil]
  exact ((getI_iff hU).1 h1).2
 ·simp only [cond_true, cond_false, Bool.and_false] at h
  rcases h1 : atI (getTextL 98) [] l q with ⟨t, q1, b1⟩
  rw [h1] at h
  injection h with e1 e2
  injection e2 with e2 e3
  subst e1 e2 e3
  refine ⟨rfl, ?_⟩
  simp only [putsOf, cond_true, cond_false, List.nil_append, List.append_nil]
  exact ((text_iff hU).1 h1).2
 ·simp only [cond_true, cond_false, Bool.and_true, Bool.and_false] at h
  rcases h1 : getV l q with ⟨d, q1, b1⟩
  rw [h1] at h
  injection h with e1 e2
  injection e2 with e2 e3
  subst e1 e2 e3
  refine ⟨rfl, ?_⟩
  simp only [putsOf, cond_true, cond_false, List.nil_append, List.append_nil]
  exact ((getV_iff hU).1 h1).2
 ·simp only [cond_true, cond_false, Bool.and_true] at h
  rcases h1 : atI (getTextL 98) [] l q with ⟨t, q1, b1⟩
  rw [h1] at h
  simp only at h
  cases b1 with
  | false => simp at h
  | true =>
   simp only [cond_true] at h
   rcases h2 : getV l q1 with ⟨d, q2, b2⟩
   rw [h2] at h
   simp only at h
   cases b2 with
   | false => simp at h
   | true =>
    simp only [cond_true] at h
    rcases h3 : atI getLabL [] l q2 with ⟨L, q3, b3⟩
    rw [h3] at h
    injection h with e1 e2
    injection e2 with e2 e3
    subst e1 e2 e3
    refine ⟨rfl, ?_⟩
    simp only [putsOf, cond_true, cond_false, List.nil_append]
    rw [At.app]
    refine ⟨_, ((text_iff hU).1 h1).2, ?_⟩
    rw [At.app]
    have hL : labL (L.map unP) = L := by
     unfold labL
     rw [List.map_map]
     conv => rhs; rw [← List.map_id L]
     refine List.map_congr_left fun x _ => ?_
     simp [unP, pL]
    rw [hL]
    exact ⟨_, ((getV_iff hU).1 h2).2, ((lab_iff hU).1 h3).2⟩
 ·simp only [cond_false, Bool.and_false] at h
  injection h with e1 e2
  injection e2 with e2 e3
  subst e1 e2
  refine ⟨rfl, ?_⟩
  simp only [putsOf, cond_false, List.nil_append]
  exact At.nil hq
theorem op_at {l : Bs} (hU : U64 l.length) {p n : Int} {o : OpQ} (h : getO l p = (o, n, true)) : At (putO o) l p n ∧ rightO o = true ∧ putO o ≠ [] := by
 unfold getO at h
 split at h
 ·cases h
 rename_i hno
 simp only [not_or, Bool.not_eq_false, Nat.not_lt] at hno
 obtain ⟨n1, n2⟩ := hno
 rcases h1 : getI l p with ⟨k, q, b⟩
 rw [h1] at h n1 n2
 simp only at h n1 n2
 subst n1
 obtain ⟨_, a1⟩ := (getI_iff hU).1 h1
 unfold finO at h
 split at h
 ·rename_i hok
  rw [h] at hok
  have hr : rightO o = true := hok.2
  have hfl : isFld ((knownF ((k : Nat) : Int)).getD noFld) := by
   cases hk : knownF ((k : Nat) : Int) with
   | none => exact Or.inr (Or.inr (Or.inr (Or.inr (Or.inr (Or.inr (Or.inr rfl))))))
   | some f => exact knownF_is hk
  have hk0 : o.1 = (k : Int) := by
   have := congrArg (fun x : OpQ × Int × Bool => x.1.1) h
   exact this.symm
  have hx : ((knownF ((k : Nat) : Int)).getD noFld).2.2.2.2.1 = true → chkX o.2.2.2.2.1 = 0 := fun hf => by
   unfold rightO at hr
   rw [hk0] at hr
   cases hk : knownF ((k : Nat) : Int) with
   | none => rw [hk] at hr; cases hr
   | some f =>
    rw [hk] at hr hf
    simp only [Bool.and_eq_true, Bool.or_eq_true, decide_eq_true_eq] at hr
    have hf : f.2.2.2.2.1 = true := hf
    rw [hf] at hr
    simpa using hr.2.1
  obtain ⟨_, a2⟩ := rdF_at hU hfl a1.nat h hx
  have hp : putO o = putL k ++ putsOf ((knownF ((k : Nat) : Int)).getD noFld) o := by
   unfold putO
   rw [if_pos hr, hk0]
   rfl
  refine ⟨?_, hr, ?_⟩
  ·rw [hp, At.app]
   exact ⟨q, a1, a2⟩
  ·rw [hp]
   intro e
   exact putL_ne k (List.append_eq_nil_iff.1 e).1
 ·cases h
theorem open_put {l : Bs} (hU : U64 l.length) {t : TokQ} {o : OpQ} (h : openG l = (t, o, true)) : putG t o = l ∧ rightO o = true := by
 unfold openG at h
 rcases h1 : getTok l 0 with ⟨t1, q, b⟩
 rw [h1] at h
 simp only at h
 cases b with
 | false => rw [if_pos rfl] at h; cases h
 | true =>
  rw [if_neg (by simp)] at h
  rcases h2 : getO l q with ⟨o1, n, b2⟩
  rw [h2] at h
  simp only at h
  split at h
  ·cases h
  rename_i hno
  simp only [not_or, Bool.not_eq_false, Decidable.not_not] at hno
  obtain ⟨rfl, rfl⟩ := hno
  injection h with e1 e2
  injection e2 with e2 _
  subst e1 e2
  obtain ⟨a1, ne1⟩ := tok_at hU h1
  obtain ⟨a2, hr, ne2⟩ := op_at hU h2
  refine ⟨?_, hr⟩
  have a3 : At (putTok t1 ++ putO o1) l 0 (l.length : Int) := At.app.2 ⟨_, a1, a2⟩
  obtain ⟨z, hz, hn, hb⟩ := a3
  obtain rfl : z = 0 := by omega
  have hlen : (putTok t1 ++ putO o1).length = l.length := by omega
  unfold putG
  rw [if_neg (by rw [not_or]; exact ⟨ne1, ne2⟩)]
  rw [List.drop_zero] at hb
  obtain ⟨r, hr2⟩ := hb
  have : r = [] := by
   have := congrArg List.length hr2
   rw [List.length_append, hlen] at this
   exact List.length_eq_zero_iff.1 (by omega)
  rw [this, List.append_nil] at hr2
  exact hr2
end Go.Dm
