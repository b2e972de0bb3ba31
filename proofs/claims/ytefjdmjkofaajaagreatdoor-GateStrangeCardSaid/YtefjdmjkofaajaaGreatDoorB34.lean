/- Texts one behind the other: Chapter 5: the walk of the deferred function of Get; Chapter 5: what is got of a selector, in plain terms; what Get lays; Chapter 5: the walk of Get (a selector that stands at a place). -/
import Derived.Test.YtefjdmjkofaajaaGreatDoorB16
import Derived.Recover
namespace Go.Proofs.YtefjdmjkofaajaaGreatDoor
open Go.RowKit Go.Dm

theorem assert_bad (w : World) : (Instr.typeAssert badV 20 209 false).run Tryz.prog w = .ok (.agg #[]) w := by kernel_rfl

theorem sget1_panicking (bl bn bo : Nat) (vl vn vo : Value) (older : List PanicEntry) (w : World) (kl : Go.Dm.Cell bl vl w) (kn : Go.Dm.Cell bn vn w) (ko : Go.Dm.Cell bo vo w) (h1 : bl ≠ bn) (h2 : bl ≠ bo) (h3 : bn ≠ bo) :
  CallsD Tryz.prog 139 #[.pointer (some ⟨bl, 0, none⟩), .pointer (some ⟨bn, 0, none⟩), .pointer (some ⟨bo, 0, none⟩)] (.panicking ({ v := badV, recovered := false } :: older)) w fun e u' w' =>
   e = .returned (.tuple #[]) ∧ u' = .panicking ({ v := badV, recovered := true } :: older) ∧ w' = ((w.setCell ⟨bl, 0, none⟩ (.slice none 0 0)).setCell ⟨bn, 0, none⟩ (.int .i64 0)).setCell ⟨bo, 0, none⟩ (.bool false) := by
 have hA := assert_bad
 unfold badV at *
 refine callsD_of_wpS Tryz.func139 rfl fun c₀ cs hu => ?_
 apply wpS_seq
 apply wpS_region
 simp [wpOpsS, go_sem, recoverD, hu, Tryz.ntmps139, Exit.thenS]
 apply wpS_seq
 apply wpS_region
 simp [wpOpsS, go_sem, Exit.thenS]
 refine wpS_cond (t := true) (by simp [Act.eval, Array.replicate]) ?_
 simp only [if_true]
 obtain ⟨_, l1, l2⟩ := kl
 obtain ⟨_, n1, n2⟩ := kn.other (c := bl) (Ne.symm h1) (.slice none 0 0)
 obtain ⟨_, o1, o2⟩ := (ko.other (c := bl) (Ne.symm h2) (.slice none 0 0)).other (c := bn) (Ne.symm h3) (.int .i64 0)
 apply wpS_seq
 apply wpS_region
 simp [wpOpsS, go_sem, Exit.thenS, hA, Array.replicate]
 apply wpS_region
 simp [wpOpsS, go_sem, l1, l2, n1, n2, o1, o2, bodyPostS, results, Tryz.results139]

theorem sget1_idle (bl bn bo : Nat) (w : World) :
  CallsD Tryz.prog 139 #[.pointer (some ⟨bl, 0, none⟩), .pointer (some ⟨bn, 0, none⟩), .pointer (some ⟨bo, 0, none⟩)] .returning w fun e u' w' => e = .returned (.tuple #[]) ∧ u' = .returning ∧ w' = w := by
 refine callsD_of_wpS Tryz.func139 rfl fun c₀ cs hu => ?_
 apply wpS_seq
 apply wpS_region
 simp [wpOpsS, go_sem, recoverD, hu, Tryz.ntmps139, Exit.thenS]
 apply wpS_seq
 apply wpS_region
 simp [wpOpsS, go_sem, Exit.thenS]
 refine wpS_cond (t := false) (by simp [Act.eval]) ?_
 simp only [Bool.false_eq_true, if_false]
 refine wpS_of_wp (wp_skip ?_)
 cases c₀
 simp_all [bodyPostS, results, Tryz.results139]

end Go.Proofs.YtefjdmjkofaajaaGreatDoor

namespace Go.Dm
open Go Go.RowKit

/-- The selector that stands first. -/
def getSelL (l : Bs) : Option (List (Bs × Bool × List Bs) × Nat) :=
 match someL getTermL 4 l with
 | some (T, n) => if rightS (T.map mkT) = true then some (T, n) else none
 | none => none
theorem getSelL_none {l : Bs} (h : someL getTermL 4 l = none) : getSelL l = none := by unfold getSelL; rw [h]
theorem getSelL_some {l : Bs} {T : List (Bs × Bool × List Bs)} {n : Nat} (h : someL getTermL 4 l = some (T, n)) : getSelL l = if rightS (T.map mkT) = true then some (T, n) else none := by unfold getSelL; rw [h]
theorem getSelL_nil : getSelL [] = none := rfl
theorem getSelI_no {l : Bs} {p : Int} (h : (getI l p).2.2 = false) : atI getSelL [] l p = ([], 0, false) := by
 have := someI_no (g := getTermL) (most := 4) h
 unfold atI at *
 split
 ·rfl
 ·rename_i hp
  rw [if_neg hp] at this
  cases hg : someL getTermL 4 (l.drop p.toNat) with
  | none => rw [getSelL_none hg]
  | some x => rw [hg] at this; injection this with _ h; injection h with _ h; cases h

theorem getTextL_fit {most : Nat} {l t : Bs} {n : Nat} (h : getTextL most l = some (t, n)) : t.length ≤ most := by
 cases hg : getL l with
 | none => rw [getTextL_none hg] at h; cases h
 | some x =>
  obtain ⟨u, m⟩ := x
  rw [getTextL_some hg] at h
  split at h
  ·rename_i hu
   injection h with h
   injection h with h1 h2
   rw [← h1, List.length_take]; omega
  ·cases h
theorem readsL_all {α : Type} {g : Bs → Option (α × Nat)} {l : Bs} {q : Nat} : ∀ {i : Nat} {xs : List α} {r : Nat}, readsL g l q i = some (xs, r) → xs.length = i ∧ ∀ x ∈ xs, ∃ l' n, g l' = some (x, n)
 | 0, xs, r, h => by
  injection h with h
  injection h with h1 _
  subst h1
  exact ⟨rfl, fun x hx => by cases hx⟩
 | i + 1, xs, r, h => by
  cases hi : readsL g l q i with
  | none => rw [readsL_none hi (Nat.le_succ i)] at h; cases h
  | some y =>
   obtain ⟨ys, r2⟩ := y
   rw [readsL_succ hi] at h
   cases hg : g (l.drop r2) with
   | none => rw [hg] at h; cases h
   | some z =>
    obtain ⟨z, n⟩ := z
    rw [hg] at h
    injection h with h
    injection h with h1 _
    obtain ⟨e1, e2⟩ := readsL_all hi
    subst h1
    refine ⟨by simp [e1], fun x hx => ?_⟩
    rcases List.mem_append.1 hx with hx | hx
    ·exact e2 x hx
    ·rw [List.mem_singleton.1 hx]; exact ⟨_, _, hg⟩
/-- A term that was got is short. -/
theorem getTermL_fit {l : Bs} {T : Bs × Bool × List Bs} {n : Nat} (h : getTermL l = some (T, n)) : T.1.length ≤ 32 ∧ T.2.2.length ≤ 4 ∧ ∀ x ∈ T.2.2, x.length ≤ 32 := by
 cases hT : getTextL 32 l with
 | none => rw [getTermL_no1 hT] at h; cases h
 | some x =>
  obtain ⟨k, n1⟩ := x
  cases hN : getL (l.drop n1) with
  | none => rw [getTermL_no2 hT hN] at h; cases h
  | some x =>
   obtain ⟨u, m⟩ := x
   rw [getTermL_mid hT hN] at h
   split at h
   ·rename_i h9
    cases hr : readsL (getTextL 32) l (n1 + m) (u / 2) with
    | none => rw [hr] at h; cases h
    | some y =>
     obtain ⟨vs, r⟩ := y
     rw [hr] at h
     injection h with h
     injection h with h1 _
     subst h1
     obtain ⟨e1, e2⟩ := readsL_all hr
     refine ⟨getTextL_fit hT, by show vs.length ≤ 4; omega, fun x hx => ?_⟩
     obtain ⟨l', n', h'⟩ := e2 x hx
     exact getTextL_fit h'
   ·cases h
theorem mkT_fit {T : Bs × Bool × List Bs} (h : T.1.length ≤ 32 ∧ T.2.2.length ≤ 4 ∧ ∀ x ∈ T.2.2, x.length ≤ 32) : FitT (mkT T) := by
 obtain ⟨h1, h2, h3⟩ := h
 refine ⟨?_, ?_, ?_⟩
 ·show T.1.length ≤ _
  omega
 ·show (T.2.2.map _).length ≤ _
  rw [List.length_map]; omega
 ·intro x hx
  obtain ⟨y, hy, rfl⟩ := List.mem_map.1 hx
  have := h3 y hy
  show y.length ≤ _
  omega

/-- What Get has laid: its results, its reader. -/
structure GS (B : Nat) (s : ByteArray) (v : Value) (p : Int) (w : World) : Prop where
 l : Go.Dm.Cell B v w
 n : Go.Dm.Cell (B + 1) (.int .i64 0) w
 o : Go.Dm.Cell (B + 1 + 1) (.bool false) w
 r : Cell2 (B + 1 + 1 + 1) (.string s) (.int .i64 p) w
theorem GS.ext {B : Nat} {s : ByteArray} {v : Value} {p : Int} {w w' : World} (h : GS B s v p w) (hx : Ext w w') : GS B s v p w' := ⟨h.l.ext hx, h.n.ext hx, h.o.ext hx, h.r.ext hx⟩
theorem Cell.grown {b : Nat} {x : Value} {w w' : World} {q : Option Nat} (h : Go.Dm.Cell b x w) (hg : w.grownBy w' q) (hb : q ≠ some b) : Go.Dm.Cell b x w' := by
 have hc : w'.cell? ⟨b, 0, none⟩ = w.cell? ⟨b, 0, none⟩ := World.cell?_of_block (a := ⟨b, 0, none⟩) (hg.block b h.1 (fun e => hb e.symm))
 have hf : w'.frozen? ⟨b, 0, none⟩ = w.frozen? ⟨b, 0, none⟩ := World.frozen?_of_block (a := ⟨b, 0, none⟩) (hg.block b h.1 (fun e => hb e.symm))
 exact ⟨Nat.lt_of_lt_of_le h.1 hg.size, by rw [hc]; exact h.2.1, by rw [hf]; exact h.2.2⟩
/-- The reader went on. -/
theorem GS.read {B : Nat} {s : ByteArray} {v : Value} {p p' : Int} {w w' : World} (h : GS B s v p w) (hg : w.grownBy w' (some (B + 1 + 1 + 1))) (hr : Cell2 (B + 1 + 1 + 1) (.string s) (.int .i64 p') w') : GS B s v p' w' :=
 ⟨Cell.grown h.l hg (some_ne (by omega)), Cell.grown h.n hg (some_ne (by omega)), Cell.grown h.o hg (some_ne (by omega)), hr⟩
/-- The reader alone may have been turned. -/
structure GP (B : Nat) (v : Value) (w : World) : Prop where
 l : Go.Dm.Cell B v w
 n : Go.Dm.Cell (B + 1) (.int .i64 0) w
 o : Go.Dm.Cell (B + 1 + 1) (.bool false) w
theorem GS.torn {B : Nat} {s : ByteArray} {v : Value} {p : Int} {w w' : World} (h : GS B s v p w) (hg : w.grownBy w' (some (B + 1 + 1 + 1))) : GP B v w' :=
 ⟨Cell.grown h.l hg (some_ne (by omega)), Cell.grown h.n hg (some_ne (by omega)), Cell.grown h.o hg (some_ne (by omega))⟩
theorem GS.grown {B : Nat} {s : ByteArray} {v : Value} {p : Int} {w w' : World} {q : Option Nat} (h : GS B s v p w) (hg : w.grownBy w' q) (hq : ∀ c, q = some c → B + 1 + 1 + 1 < c) : GS B s v p w' :=
 ⟨Cell.grown h.l hg (fun e => by have := hq _ e; omega), Cell.grown h.n hg (fun e => by have := hq _ e; omega), Cell.grown h.o hg (fun e => by have := hq _ e; omega), h.r.grown hg (fun e => by have := hq _ e; omega)⟩
theorem GS.set {B : Nat} {s : ByteArray} {v : Value} {p : Int} {w : World} (h : GS B s v p w) (u : Value) : GS B s u p (w.setCell ⟨B, 0, none⟩ u) :=
 ⟨h.l.set u, h.n.other (by omega) u, h.o.other (by omega) u, h.r.far (by omega) u⟩

def laid4 (w : World) (s : ByteArray) (p : Int) (t0 t1 t2 t3 : TypeId) : World :=
 (((w.alloc (.cells #[.slice none 0 0] t0)).alloc (.cells #[.int .i64 0] t1)).alloc (.cells #[.bool false] t2)).alloc (.cells #[.string s, .int .i64 p] t3)
theorem laid4_ext (w : World) (s : ByteArray) (p : Int) (t0 t1 t2 t3 : TypeId) : Ext w (laid4 w s p t0 t1 t2 t3) := ((((Ext.refl w).alloc _).alloc _).alloc _).alloc _
theorem laid4_size (w : World) (s : ByteArray) (p : Int) (t0 t1 t2 t3 : TypeId) : (laid4 w s p t0 t1 t2 t3).heap.size = w.heap.size + 1 + 1 + 1 + 1 := by simp [laid4]
theorem laid4_gs (w : World) (s : ByteArray) (p : Int) (t0 t1 t2 t3 : TypeId) : GS w.heap.size s (.slice none 0 0) p (laid4 w s p t0 t1 t2 t3) := by
 unfold laid4
 have a0 := Cell.new w (.slice none 0 0) t0
 generalize h0 : w.alloc (.cells #[.slice none 0 0] t0) = w0 at *
 have s0 : w0.heap.size = w.heap.size + 1 := by rw [← h0]; simp
 have a1 := Cell.new w0 (.int .i64 0) t1
 have a0 := a0.ext ((Ext.refl w0).alloc (.cells #[.int .i64 0] t1))
 generalize h1 : w0.alloc (.cells #[.int .i64 0] t1) = w1 at *
 have s1 : w1.heap.size = w.heap.size + 1 + 1 := by rw [← h1]; simp [s0]
 have a2 := Cell.new w1 (.bool false) t2
 have a0 := a0.ext ((Ext.refl w1).alloc (.cells #[.bool false] t2))
 have a1 := a1.ext ((Ext.refl w1).alloc (.cells #[.bool false] t2))
 generalize h2 : w1.alloc (.cells #[.bool false] t2) = w2 at *
 have s2 : w2.heap.size = w.heap.size + 1 + 1 + 1 := by rw [← h2]; simp [s1]
 have a3 := Cell2.new w2 (.string s) (.int .i64 p) t3
 have x := (Ext.refl w2).alloc (.cells #[.string s, .int .i64 p] t3)
 rw [s0] at a1
 rw [s1] at a2
 rw [s2] at a3
 exact ⟨a0.ext x, a1.ext x, a2.ext x, a3⟩
end Go.Dm

namespace Go.Dm
theorem Ext.trans' {w w' w'' : World} (h : Ext w w') (h' : Ext w' w'') : Ext w w'' := h.trans h'
end Go.Dm
namespace Go.Proofs.YtefjdmjkofaajaaGreatDoor
open Go.RowKit Go.Dm

theorem leaves_tmps {P : Program} {fn : Func} {t t' : Array Value} {R : Ending → World → Prop} (h : ∀ w, (results fn t).run P w = (results fn t').run P w) : ∀ (ds : List Deferred) (u : FrameMode) (w : World), Leaves P fn t R ds u w → Leaves P fn t' R ds u w
 | [], .returning, w, ⟨v, h1, h2⟩ => ⟨v, by rw [← h w]; exact h1, h2⟩
 | [], .panicking _, _, h' => h'
 | [], .run, _, h' => h'
 | d :: ds, u, w, ⟨h0, fv, cap, f, args, h1, h2, h3⟩ => ⟨h0, fv, cap, f, args, h1, h2, h3.mono fun e u' w' he => by
   cases e with
   | returned v => exact leaves_tmps h ds _ _ he
   | panicked c => exact leaves_tmps h ds _ _ he
   | outgrown => exact he⟩
theorem put_getD (a : Act) {d i : Nat} (v : Value) (h : d ≠ i) : (a.put (some d) v).tmps[i]?.getD undef = a.tmps[i]?.getD undef := by
 simp only [Act.put]
 rw [Array.getElem?_setIfInBounds_ne h]
/-- A panic's way asks nothing of what was read. -/
theorem sget_hq {R : Ending → World → Prop} {c : List PanicEntry} {a : Act} {w : World} {v : Value} {d : Nat} (h4 : d ≠ 4) (h5 : d ≠ 5) (h6 : d ≠ 6)
  (h : bodyPostD Tryz.prog Tryz.f115 R (Exit.panic c) (a.put (some d) v) w) : bodyPostD Tryz.prog Tryz.f115 R (Exit.panic c) a w := by
 refine leaves_tmps (fun w => ?_) _ _ _ h
 simp only [results, Tryz.results115]
 simp [put_getD a v h4, put_getD a v h5, put_getD a v h6]

/-- The door, where the body panicked: nothing is got. -/
theorem sget_door (B : Nat) (v : Value) (w0 wr : World) (R : Ending → World → Prop) (tmps : Array Value) (hB : B = w0.heap.size) (hb : Ext w0 wr) (hK : GP B v wr)
  (t4 : tmps[4]?.getD undef = .pointer (some ⟨B, 0, none⟩)) (t5 : tmps[5]?.getD undef = .pointer (some ⟨B + 1, 0, none⟩)) (t6 : tmps[6]?.getD undef = .pointer (some ⟨B + 1 + 1, 0, none⟩))
  (h : ∀ w', Ext w0 w' → R (.returned (.tuple #[.slice none 0 0, .int .i64 0, .bool false])) w') :
  bodyPostD Tryz.prog Tryz.f115 R (Exit.panic [{ v := badV, recovered := false }]) { tmps := tmps, defers := [{ target := .fn (.func 139) #[.pointer (some ⟨B, 0, none⟩), .pointer (some ⟨B + 1, 0, none⟩), .pointer (some ⟨B + 1 + 1, 0, none⟩)], args := #[] }] } wr := by
 refine leaves_cons (f := 139) (args := #[.pointer (some ⟨B, 0, none⟩), .pointer (some ⟨B + 1, 0, none⟩), .pointer (some ⟨B + 1 + 1, 0, none⟩)]) (by simp) (by simp [go_sem]) ?_
 refine (sget1_panicking B (B + 1) (B + 1 + 1) _ _ _ [] wr hK.l hK.n hK.o (by omega) (by omega) (by omega)).mono ?_
 rintro e u' w'' ⟨rfl, rfl, rfl⟩
 have l1 := ((hK.l.set (.slice none 0 0)).other (c := B + 1) (by omega) (.int .i64 0)).other (c := B + 1 + 1) (by omega) (.bool false)
 have n1 := ((hK.n.other (c := B) (by omega) (.slice none 0 0)).set (.int .i64 0)).other (c := B + 1 + 1) (by omega) (.bool false)
 have o1 := ((hK.o.other (c := B) (by omega) (.slice none 0 0)).other (c := B + 1) (by omega) (.int .i64 0)).set (.bool false)
 have hE : Ext w0 (((wr.setCell ⟨B, 0, none⟩ (.slice none 0 0)).setCell ⟨B + 1, 0, none⟩ (.int .i64 0)).setCell ⟨B + 1 + 1, 0, none⟩ (.bool false)) :=
  ((hb.setCell (p := ⟨B, 0, none⟩) (by rw [hB]; exact Nat.le_refl _) _).setCell (p := ⟨B + 1, 0, none⟩) (by rw [hB]; exact Nat.le_succ _) _).setCell (p := ⟨B + 1 + 1, 0, none⟩) (by show w0.heap.size ≤ B + 1 + 1; omega) _
 have hR := h _ hE
 simp [Leaves, settle, results, Tryz.results115, go_sem, t4, t5, t6, l1.2.1, n1.2.1, o1.2.1, hR]

set_option maxHeartbeats 4000000 in
set_option maxRecDepth 100000 in
theorem sgetO_w (s : ByteArray) (p : Int) (w : World) (hs : s.size ≤ 281474976710656) (ht : Tabs w) :
  Calls Tryz.prog 115 #[.string s, .int .i64 p] w fun e w' => ∃ r R n b, e = .returned (.tuple #[r, .int .i64 n, .bool b]) ∧ Terms w' r R ∧ FitR R ∧ R.length ≤ 4 ∧
   (∃ T, R.map rowT = T.map mkT ∧ atI getSelL [] s.data.toList p = (T, n, b)) ∧ OwnT w.heap.size r R ∧ Ext w w' := by
 have hmf : ∀ (fn : Fn) (first cap : Array Value) (w : World), (Instr.makeFunc fn first cap).run Tryz.prog w = .ok (.func fn first cap) w := fun _ _ _ _ => rfl
 have hln : s.data.toList.length = s.size := rfl
 have hK := laid4_gs w s p 28 3 4 207
 have hE := laid4_ext w s p 28 3 4 207
 have hS := laid4_size w s p 28 3 4 207
 have nothing : ∀ w', Ext w w' → atI getSelL [] s.data.toList p = ([], 0, false) → ∃ r R n b, Ending.returned (.tuple #[.slice none 0 0, .int .i64 0, .bool false]) = Ending.returned (.tuple #[r, .int .i64 n, .bool b]) ∧ Terms w' r R ∧ FitR R ∧ R.length ≤ 4 ∧
   (∃ T, R.map rowT = T.map mkT ∧ atI getSelL [] s.data.toList p = (T, n, b)) ∧ OwnT w.heap.size r R ∧ Ext w w' := fun w' h hz => ⟨_, [], 0, false, rfl, Terms.nil _, (fun r hr => by cases hr), by simp, ⟨[], rfl, hz⟩, OwnT.nil _, h⟩
 by_cases hc : (getI s.data.toList p).2.2 = true ∧ (getI s.data.toList p).1 ≤ 4
 ·obtain ⟨hc1, hc2⟩ := hc
  have hin : ¬ (p < 0 ∨ (s.data.toList.length : Int) ≤ p) := fun h => by rw [getI_out h] at hc1; cases hc1
  obtain ⟨q, rfl⟩ : ∃ q : Nat, p = (q : Int) := ⟨p.toNat, by omega⟩
  have hI := getI_in (l := s.data.toList) (k := q) (by omega)
  have hz : atI getSelL [] s.data.toList (q : Int) = _ := atI_pos getSelL_nil
  obtain ⟨u, n, hg, hI, hu⟩ : ∃ u n, getL (s.data.toList.drop q) = some (u, n) ∧ getI s.data.toList (q : Int) = (u, (q : Int) + (n : Int), true) ∧ u ≤ 4 := by
   cases hg : getL (s.data.toList.drop q) with
   | none => rw [hg] at hI; rw [hI] at hc1; cases hc1
   | some x =>
    obtain ⟨u, n⟩ := x
    rw [hg] at hI
    rw [hI] at hc2
    exact ⟨u, n, rfl, hI, hc2⟩
  have hN : Hid (readsL getTermL (s.data.toList.drop q) n u = none → atI getSelL [] s.data.toList (q : Int) = ([], 0, false)) := fun h => by
   rw [hz, getSelL_none (by rw [someL_some hg, if_pos hu, h])]
  have hY : Hid (∀ T r, readsL getTermL (s.data.toList.drop q) n u = some (T, r) → atI getSelL [] s.data.toList (q : Int) = if rightS (T.map mkT) = true then (T, (q : Int) + (r : Int), true) else ([], 0, false)) := fun T r h => by
   rw [hz, getSelL_some (by rw [someL_some hg, if_pos hu, h])]
   by_cases hr : rightS (T.map mkT) = true
   ·rw [if_pos hr, if_pos hr]
   ·rw [if_neg hr, if_neg hr]
  have e0 : (q : Int) + (n : Int) = ((q + n : Nat) : Int) := by omega
  rw [e0] at hI
  have C := fun U K => number_yes (w.heap.size + 1 + 1 + 1) s (q : Int) _ u 4 U hs K hu (by omega) hI
  clear hz hg hc1 hc2 hin hI e0
  replace C := Lib.hid C
  replace nothing := Lib.hid nothing
  go_enter_defers Tryz.func115, Tryz.ntmps115
  go_wp2_with fail
  change Calls _ _ _ (laid4 w s q 28 3 4 207) _
  generalize laid4 w s q 28 3 4 207 = w0 at *
  refine (C.out w0 hK.r).mono ?_; rintro e w1 ⟨rfl, hK1, h1⟩
  have hG := hK.read h1 hK1
  have hE1 : Ext w w1 := hE.grown h1 hE.size (fun k hk => by injection hk with hk; omega)
  have hS1 : w.heap.size + 4 ≤ w1.heap.size := by have := h1.size; omega
  clear C hK hE hS hK1 h1
  go_wp2
  go_loopw [15] (fun i' wr => ∃ (j : Nat) (R : List RowS) (T : List (Bs × Bool × List Bs)) (r : Nat) (v : Value), j ≤ u ∧ i' = .int .i64 j ∧ GS w.heap.size s v ((q + r : Nat) : Int) wr ∧ TRow 179 (w.heap.size + 4) wr v j R ∧
   Ext w wr ∧ w.heap.size + 4 ≤ wr.heap.size ∧ Hid (R.map rowT = T.map mkT ∧ R.length = j ∧ FitR R ∧ ∀ r ∈ R, ∀ c, r.2.2.1.ownBlock = some c → w.heap.size + 4 ≤ c) ∧ Hid (readsL getTermL (s.data.toList.drop q) n j = some (T, r))) (fun i' _ => u - (intOf i').toNat)
  case atStart => exact ⟨0, [], [], n, .slice none 0 0, by omega, rfl, hG, TRow.nil _ _ _, hE1, hS1, ⟨rfl, rfl, (fun r hr => by cases hr), fun r hr => by cases hr⟩, rfl⟩
  case round =>
   obtain ⟨j, R, T, r, v, hj, rfl, hGr, hRow, hEr, hSr, hRT, HR⟩ := hrel
   by_cases hlt : j < u
   ·have HI := hGr.l
    have hst := readsL_succ HR.out
    rw [List.drop_drop] at hst
    replace hst := Lib.hid hst
    go_wp2_with fail
    try simp only [Act.put, List.setIfInBounds_toArray, List.set_cons_succ, List.set_cons_zero]
    refine Dm.wp_region_fin (I := (Go.Dm.Cell w.heap.size v)) (z := 5) 6 (Dm.bits 6 0) (by kernel_rfl) (by kernel_rfl) (by kernel_rfl) ?_
    refine Dm.wpF_take (i := 0) (listed' := (Dm.bits 6 1)) (fun _ _ h hx => h.ext hx) HI (by kernel_rfl) (by kernel_rfl) rfl (fun _ _ _ _ h => sget_hq (by decide) (by decide) (by decide) h) ?_; apply Exists.intro; refine And.intro (fun wq hwq => ?_) ?_
    ·obtain ⟨_, a0, _⟩ := hwq; go_big_quiet_step (fail); exact wpQuiet_nil rfl
    refine Dm.wpF_take (i := 1) (listed' := (Dm.bits 6 3)) (fun _ _ h hx => h.ext hx) HI (by kernel_rfl) (by kernel_rfl) rfl (fun _ _ _ _ h => sget_hq (by decide) (by decide) (by decide) h) ?_; apply Exists.intro; refine And.intro (fun wq hwq => ?_) ?_
    ·obtain ⟨_, a0, _⟩ := hwq; go_big_quiet_step (fail); exact wpQuiet_nil rfl
    refine Dm.wpF_one (i := 2) (listed' := (Dm.bits 6 7)) (by kernel_rfl) (by kernel_rfl) rfl (fun wm2 hxm2 => ?_)
    have G2 := hGr.ext hxm2
    have T2 := hRow.ext hxm2
    have E2 := hEr.trans' hxm2
    have S2 := Nat.le_trans hSr hxm2.size
    go_wp2_with fail
    refine (rterm_w _ s (q + r) wm2 hs G2.r).mono ?_; rintro e w5 ⟨h5, hcase⟩
    rcases hcase with hyes | ⟨hno, rfl⟩
    rotate_left
    ·have hno' := hst.out
     rw [hno] at hno'
     have hz' := hN.out (readsL_none hno' (show j + 1 ≤ u by omega))
     have hGt := G2.torn h5
     have hE5 : Ext w w5 := E2.grown h5 E2.size (fun k hk => by injection hk with hk; omega)
     exact sget_door w.heap.size _ w w5 _ _ rfl hE5 hGt rfl rfl rfl (fun w' hw' => nothing.out w' hw' hz')
    obtain ⟨T5, r5, row, hT5, rfl, hrow, hv, hown, hK5⟩ := hyes
    have G5 := G2.read h5 hK5
    have R5 := T2.grown hRT.out.2.2.2 h5 (fun c e => by injection e with e; omega)
    have E5 : Ext w w5 := E2.grown h5 E2.size (fun k hk => by injection hk with hk; omega)
    have S5 := Nat.le_trans S2 h5.size
    have hap := T2.apart_new hown
    obtain ⟨k1, n1, v1, vals1⟩ := row
    have hv : Strs w5 v1 vals1 := hv
    have hst' : Hid (readsL getTermL (s.data.toList.drop q) n (j + 1) = some (T ++ [T5], r + r5)) := by
     show _ = _
     rw [hst.out, hT5]
    have hRT' : Hid ((R ++ [(k1, n1, v1, vals1)]).map rowT = (T ++ [T5]).map mkT ∧ (R ++ [(k1, n1, v1, vals1)]).length = j + 1 ∧ FitR (R ++ [(k1, n1, v1, vals1)]) ∧ ∀ r ∈ R ++ [(k1, n1, v1, vals1)], ∀ c, r.2.2.1.ownBlock = some c → w.heap.size + 4 ≤ c) := by
     obtain ⟨x1, x2, x3, x4⟩ := hRT.out
     refine ⟨by rw [List.map_append, List.map_append, x1]; simp only [List.map_cons, List.map_nil, hrow], by simp [x2], fun y hy => ?_, fun y hy c hc => ?_⟩
     ·rcases List.mem_append.1 hy with hy | hy
      ·exact x3 y hy
      ·rw [List.mem_singleton.1 hy, hrow]; exact mkT_fit (getTermL_fit hT5)
     ·rcases List.mem_append.1 hy with hy | hy
      ·exact x4 y hy c hc
      ·rw [List.mem_singleton.1 hy] at hc
       exact Nat.le_trans S2 (hown c hc)
    obtain ⟨q3, cap3, rfl, _, _⟩ := hv.shape
    clear hst hT5 hrow hown G2 T2 E2 S2 h5 hK5
    go_wp2_with fail
    refine ⟨(by first | exact G5.l | exact fun _ => G5.l), ?_⟩
    replace HI := G5.l
    try simp only [Act.put, List.setIfInBounds_toArray, List.set_cons_succ, List.set_cons_zero]
    refine Dm.wpF_one (i := 3) (listed' := (Dm.bits 6 15)) (by kernel_rfl) (by kernel_rfl) rfl (fun wm3 hxm3 => ?_)
    have ha := hxm3.trans ((Ext.refl wm3).alloc (.cells #[.string k1, .bool n1, .slice q3 vals1.length cap3] 179))
    have hl5 := Sl.lit wm3 179 3 1 #[.string k1, .bool n1, .slice q3 vals1.length cap3] rfl (by simp [maxLen])
    go_wp2_with fail
    generalize wm3.alloc (.cells #[.string k1, .bool n1, .slice q3 vals1.length cap3] 179) = w6 at *
    replace G5 := G5.ext ha
    replace R5 := R5.ext ha
    replace E5 := E5.trans' ha
    replace S5 := Nat.le_trans S5 ha.size
    replace hv := hv.ext ha
    refine ⟨(by first | exact G5.l | exact fun _ => G5.l), ?_⟩
    replace HI := G5.l
    try simp only [Act.put, List.setIfInBounds_toArray, List.set_cons_succ, List.set_cons_zero]
    refine Dm.wpF_one (i := 4) (listed' := (Dm.bits 6 31)) (by kernel_rfl) (by kernel_rfl) rfl (fun wm4 hxm4 => ?_)
    replace G5 := G5.ext hxm4
    replace R5 := R5.ext hxm4
    replace E5 := E5.trans' hxm4
    replace S5 := Nat.le_trans S5 hxm4.size
    replace hv := hv.ext hxm4
    replace hl5 := hl5.ext hxm4
    have hbase : ∀ c, v.ownBlock = some c → w.heap.size + 4 ≤ c := fun c e => (R5.lt e).1
    refine wpList_appG rfl _ _ Tryz.slTerm rfl S5 rfl R5 (r := (k1, n1, .slice q3 vals1.length cap3, vals1)) rfl hl5 hv (Or.inr hap) (by omega) ?_; intro v6 w7 R7 g7
    replace G5 := G5.grown g7 (fun c e => by have := hbase c e; omega)
    replace E5 : Ext w w7 := E5.grown g7 E5.size (fun c e => by have := hbase c e; omega)
    replace S5 := Nat.le_trans S5 g7.size
    refine wpList_nil ?_
    refine ⟨(by first | exact G5.l | exact fun _ => G5.l), ?_⟩
    replace HI := G5.l
    obtain ⟨q6, cap6, rfl⟩ := row_shape R7.row
    try simp only [Act.put, List.setIfInBounds_toArray, List.set_cons_succ, List.set_cons_zero]
    refine Dm.wpF_one (i := 5) (listed' := (Dm.bits 6 63)) (by kernel_rfl) (by kernel_rfl) rfl (fun wz hxz => ?_)
    obtain ⟨_, z0, z1⟩ := (G5.ext hxz).l
    go_wp2_with fail
    first | refine ⟨fun h => absurd rfl h, ?_⟩ | skip
    refine Dm.wpF_done (by kernel_rfl) (fun wy hxy => ?_)
    have G8 := ((G5.ext hxz).set (.slice q6 (j + 1) cap6)).ext hxy
    have gS := grown_set wz w.heap.size 0 (.slice q6 (j + 1) cap6)
    have R8 := ((R7.ext hxz).grown hRT'.out.2.2.2 gS (fun c e => by injection e with e; omega)).ext hxy
    have E8a : Ext w (wz.setCell ⟨w.heap.size, 0, none⟩ (.slice q6 (j + 1) cap6)) := (E5.trans' hxz).setCell (p := ⟨w.heap.size, 0, none⟩) (Nat.le_refl _) (.slice q6 (j + 1) cap6)
    have E8 : Ext w wy := E8a.trans' hxy
    have S8 : w.heap.size + 4 ≤ wy.heap.size := by have h1 := hxz.size; have h2 := hxy.size; rw [World.size_setCell] at h2; omega
    clear z0 z1 G5 R7 E5 S5 gS
    go_wp2
    go_roundw
    case rel => exact ⟨j + 1, R ++ [(k1, n1, .slice q3 vals1.length cap3, vals1)], T ++ [T5], r + r5, .slice q6 (j + 1) cap6, by omega, by go_num, (by rw [← Nat.add_assoc]; exact G8), R8, E8, S8, hRT', hst'⟩
    case measure => simp [intOf]; omega
   ·obtain rfl : j = u := by omega
    obtain ⟨qv, capv, rfl⟩ := row_shape hRow.row
    obtain ⟨x1, x2, x3, x4⟩ := hRT.out
    have hT := hRow.terms x2.symm
    have CR := sright_w R _ wr (by omega) x3 hT (ht.ext hEr)
    have hYY := hY.out T r HR.out
    rw [x1] at CR
    clear hRT hY hN
    cases hR : rightS (T.map mkT) with
    | false =>
     rw [hR] at CR hYY
     rw [if_neg (by simp)] at hYY
     replace hYY := Lib.hid hYY
     obtain ⟨_, l1, l2⟩ := hGr.l
     go_wp2_with fail
     refine CR.mono ?_; rintro e w3 ⟨rfl, h3⟩
     have G3 := hGr.ext h3
     go_wp2_with fail
     exact sget_door w.heap.size _ w w3 _ _ rfl (hEr.trans' h3) ⟨G3.l, G3.n, G3.o⟩ rfl rfl rfl (fun w' hw' => nothing.out w' hw' hYY.out)
    | true =>
     rw [hR] at CR hYY
     rw [if_pos rfl] at hYY
     have e1 : (q : Int) + (r : Int) = ((q + r : Nat) : Int) := by omega
     rw [e1] at hYY
     generalize ((q + r : Nat) : Int) = pos at *
     have hT4 : T.length ≤ 4 := by have := (rightS_iff.1 hR).1; rwa [List.length_map] at this
     have hR4 : R.length ≤ 4 := by have := congrArg List.length x1; rw [List.length_map, List.length_map] at this; omega
     replace hYY := Lib.hid hYY
     replace x1 := Lib.hid x1
     replace x2 := Lib.hid x2
     clear hR hT4 e1 HR
     obtain ⟨_, l1, l2⟩ := hGr.l
     go_wp2_with fail
     refine CR.mono ?_; rintro e w3 ⟨rfl, h3⟩
     have G3 := hGr.ext h3
     have R3 := hRow.ext h3
     have E3 := hEr.trans' h3
     have HI : Go.Dm.Cell w.heap.size (.slice qv j capv) w3 ∧ Cell2 (w.heap.size + 1 + 1 + 1) (.string s) (.int .i64 pos) w3 := ⟨G3.l, G3.r⟩
     clear l1 l2 hGr hRow hT CR hEr hSr
     go_wp2_with fail
     try simp only [Act.put, List.setIfInBounds_toArray, List.set_cons_succ, List.set_cons_zero]
     refine Dm.wp_region_fin (I := (fun w' => Go.Dm.Cell w.heap.size (.slice qv j capv) w' ∧ Cell2 (w.heap.size + 1 + 1 + 1) (.string s) (.int .i64 pos) w')) (z := 7) 8 (Dm.bits 8 0) (by kernel_rfl) (by kernel_rfl) (by kernel_rfl) ?_
     refine Dm.wpF_take (i := 0) (listed' := (Dm.bits 8 1)) (fun _ _ h hx => ⟨h.1.ext hx, h.2.ext hx⟩) HI (by kernel_rfl) (by kernel_rfl) rfl (fun _ _ _ _ h => sget_hq (by decide) (by decide) (by decide) h) ?_; apply Exists.intro; refine And.intro (fun wq hwq => ?_) ?_
     ·obtain ⟨⟨_, a0, _⟩, ⟨_, a1, a2, _, _⟩⟩ := hwq; go_big_quiet_step (fail); exact wpQuiet_nil rfl
     refine Dm.wpF_take (i := 1) (listed' := (Dm.bits 8 3)) (fun _ _ h hx => ⟨h.1.ext hx, h.2.ext hx⟩) HI (by kernel_rfl) (by kernel_rfl) rfl (fun _ _ _ _ h => sget_hq (by decide) (by decide) (by decide) h) ?_; apply Exists.intro; refine And.intro (fun wq hwq => ?_) ?_
     ·obtain ⟨⟨_, a0, _⟩, ⟨_, a1, a2, _, _⟩⟩ := hwq; go_big_quiet_step (fail); exact wpQuiet_nil rfl
     refine Dm.wpF_take (i := 2) (listed' := (Dm.bits 8 7)) (fun _ _ h hx => ⟨h.1.ext hx, h.2.ext hx⟩) HI (by kernel_rfl) (by kernel_rfl) rfl (fun _ _ _ _ h => sget_hq (by decide) (by decide) (by decide) h) ?_; apply Exists.intro; refine And.intro (fun wq hwq => ?_) ?_
     ·obtain ⟨⟨_, a0, _⟩, ⟨_, a1, a2, _, _⟩⟩ := hwq; go_big_quiet_step (fail); exact wpQuiet_nil rfl
     refine Dm.wpF_take (i := 3) (listed' := (Dm.bits 8 15)) (fun _ _ h hx => ⟨h.1.ext hx, h.2.ext hx⟩) HI (by kernel_rfl) (by kernel_rfl) rfl (fun _ _ _ _ h => sget_hq (by decide) (by decide) (by decide) h) ?_; apply Exists.intro; refine And.intro (fun wq hwq => ?_) ?_
     ·obtain ⟨⟨_, a0, _⟩, ⟨_, a1, a2, _, _⟩⟩ := hwq; go_big_quiet_step (fail); exact wpQuiet_nil rfl
     refine Dm.wpF_take (i := 4) (listed' := (Dm.bits 8 31)) (fun _ _ h hx => ⟨h.1.ext hx, h.2.ext hx⟩) HI (by kernel_rfl) (by kernel_rfl) rfl (fun _ _ _ _ h => sget_hq (by decide) (by decide) (by decide) h) ?_; apply Exists.intro; refine And.intro (fun wq hwq => ?_) ?_
     ·obtain ⟨⟨_, a0, _⟩, ⟨_, a1, a2, _, _⟩⟩ := hwq; go_big_quiet_step (fail); exact wpQuiet_nil rfl
     refine Dm.wpF_one (i := 5) (listed' := (Dm.bits 8 63)) (by kernel_rfl) (by kernel_rfl) rfl (fun wm5 hxm5 => ?_)
     have L5 := G3.l.ext hxm5
     have N5 := (G3.n.ext hxm5).other (c := w.heap.size) (by omega) (.slice qv j capv)
     have O5 := (G3.o.ext hxm5).other (c := w.heap.size) (by omega) (.slice qv j capv)
     have V5 := (G3.r.ext hxm5).far (c := w.heap.size) (i := 0) (by omega) (.slice qv j capv)
     have R5 := (R3.ext hxm5).grown x4 (grown_set wm5 w.heap.size 0 (.slice qv j capv)) (fun c e => by injection e with e; omega)
     have E5 : Ext w (wm5.setCell ⟨w.heap.size, 0, none⟩ (.slice qv j capv)) := (E3.trans' hxm5).setCell (p := ⟨w.heap.size, 0, none⟩) (Nat.le_refl _) (.slice qv j capv)
     obtain ⟨_, z0, z1⟩ := id L5
     replace L5 := L5.set (.slice qv j capv)
     go_wp2_with fail
     have HI5 := And.intro L5 V5
     refine ⟨(by first | exact HI5 | exact fun _ => HI5), ?_⟩
     replace HI := HI5
     clear z0 z1 G3 R3 E3
     try simp only [Act.put, List.setIfInBounds_toArray, List.set_cons_succ, List.set_cons_zero]
     refine Dm.wpF_one (i := 6) (listed' := (Dm.bits 8 127)) (by kernel_rfl) (by kernel_rfl) rfl (fun wm6 hxm6 => ?_)
     have L6 := (L5.ext hxm6).other (c := w.heap.size + 1) (by omega) (.int .i64 pos)
     have N6 := N5.ext hxm6
     have O6 := (O5.ext hxm6).other (c := w.heap.size + 1) (by omega) (.int .i64 pos)
     have V6 := (V5.ext hxm6).far (c := w.heap.size + 1) (i := 0) (by omega) (.int .i64 pos)
     have R6 := (R5.ext hxm6).grown x4 (grown_set wm6 (w.heap.size + 1) 0 (.int .i64 pos)) (fun c e => by injection e with e; omega)
     have E6 : Ext w (wm6.setCell ⟨w.heap.size + 1, 0, none⟩ (.int .i64 pos)) := (Ext.trans' E5 hxm6).setCell (p := ⟨w.heap.size + 1, 0, none⟩) (Nat.le_succ _) (.int .i64 pos)
     obtain ⟨_, z0, z1⟩ := id N6
     replace N6 := N6.set (.int .i64 pos)
     go_wp2_with fail
     have HI6 := And.intro L6 V6
     refine ⟨(by first | exact HI6 | exact fun _ => HI6), ?_⟩
     replace HI := HI6
     clear z0 z1 L5 N5 O5 V5 R5 E5 HI5
     try simp only [Act.put, List.setIfInBounds_toArray, List.set_cons_succ, List.set_cons_zero]
     refine Dm.wpF_one (i := 7) (listed' := (Dm.bits 8 255)) (by kernel_rfl) (by kernel_rfl) rfl (fun wz hxz => ?_)
     obtain ⟨_, z0, z1⟩ := O6.ext hxz
     go_wp2_with fail
     first | refine ⟨fun h => absurd rfl h, ?_⟩ | skip
     refine Dm.wpF_done (by kernel_rfl) (fun wy hxy => ?_)
     have L8 := ((L6.ext hxz).other (c := w.heap.size + 1 + 1) (by omega) (.bool true)).ext hxy
     have N8 := ((N6.ext hxz).other (c := w.heap.size + 1 + 1) (by omega) (.bool true)).ext hxy
     have O8 := ((O6.ext hxz).set (.bool true)).ext hxy
     have R8 := ((R6.ext hxz).grown x4 (grown_set wz (w.heap.size + 1 + 1) 0 (.bool true)) (fun c e => by injection e with e; omega)).ext hxy
     have E8a : Ext w (wz.setCell ⟨w.heap.size + 1 + 1, 0, none⟩ (.bool true)) := (Ext.trans' E6 hxz).setCell (p := ⟨w.heap.size + 1 + 1, 0, none⟩) (by show w.heap.size ≤ w.heap.size + 1 + 1; omega) (.bool true)
     have E8 : Ext w wy := E8a.trans' hxy
     clear z0 z1 L6 N6 O6 V6 R6 E6 HI6 HI
     go_wp2
     refine leaves_cons (f := 139) (args := #[.pointer (some ⟨w.heap.size, 0, none⟩), .pointer (some ⟨w.heap.size + 1, 0, none⟩), .pointer (some ⟨w.heap.size + 1 + 1, 0, none⟩)]) (by simp) (by simp [go_sem]) ?_
     refine (sget1_idle _ _ _ _).mono ?_
     rintro e u' w'' ⟨rfl, rfl, rfl⟩
     refine ⟨.tuple #[.slice qv j capv, .int .i64 pos, .bool true], by simp [results, Tryz.results115, go_sem, L8.2.1, N8.2.1, O8.2.1], ?_⟩
     exact ⟨_, R, _, true, rfl, R8.terms x2.out.symm, x3, hR4, ⟨T, x1.out, hYY.out⟩, ⟨fun c e => by have := (R8.lt e).1; omega, fun x hx c e => by have := x4 x hx c e; omega⟩, E8⟩
 ·have hz : atI getSelL [] s.data.toList p = ([], 0, false) := by
   by_cases h2 : (getI s.data.toList p).2.2 = true
   ·have hin : ¬ (p < 0 ∨ (s.data.toList.length : Int) ≤ p) := fun h => by rw [getI_out h] at h2; cases h2
    obtain ⟨q, rfl⟩ : ∃ q : Nat, p = (q : Int) := ⟨p.toNat, by omega⟩
    rw [getI_in (by omega)] at h2 hc
    rw [atI_pos getSelL_nil]
    cases hg : getL (s.data.toList.drop q) with
    | none => rw [hg] at h2; cases h2
    | some x =>
     obtain ⟨u, n⟩ := x
     rw [hg] at hc
     rw [getSelL_none (by rw [someL_some hg, if_neg (fun h => hc ⟨rfl, h⟩)])]
   ·exact getSelI_no (by simpa using h2)
  have C := fun U K => number_no (w.heap.size + 1 + 1 + 1) s p 4 U hs K (by omega) (fun h => by
   have : ¬ (getI s.data.toList p).1 ≤ 4 := fun h' => hc ⟨h, h'⟩
   omega)
  replace hz := Lib.hid hz
  replace C := Lib.hid C
  replace nothing := Lib.hid nothing
  clear hc hS
  go_enter_defers Tryz.func115, Tryz.ntmps115
  go_wp2_with fail
  change Calls _ _ _ (laid4 w s p 28 3 4 207) _
  generalize laid4 w s p 28 3 4 207 = wr at *
  refine (C.out wr hK.r).mono ?_; rintro e w1 ⟨rfl, h1⟩
  have hG := hK.torn h1
  have hE1 : Ext w w1 := hE.grown h1 hE.size (fun k hk => by injection hk with hk; omega)
  exact sget_door w.heap.size _ w w1 _ _ rfl hE1 hG rfl rfl rfl (fun w' hw' => nothing.out w' hw' hz.out)

end Go.Proofs.YtefjdmjkofaajaaGreatDoor
