/- Texts one behind the other: Chapter 3: the walks of what is made of two amounts: both, Sub; Chapter 3: the walks of Sub, Order, Holds; Chapter 3: the walks of Order, Holds; Chapter 13: the walks of fitting: Clone, DeleteFunc; Chapter 13: the walks of DeleteFunc, fitting. -/
import Derived.Test.YtibimbcjnjefdaaT16
import Derived.Test.YtibimbcjnjefdaaT7
import Derived.Test.YtibimbcjnjefdaaProg
import Derived.IntWalk
import Derived.Shelf.Spec.BitsCarry
import Derived.Test.YtibimbcjnjefdaaT8
import Derived.Test.YtibimbcjnjefdaaT9
namespace Go.Dm
open Go Go.RowKit

/-- A block that holds an amount, and may be written. -/
structure VBox (b : Nat) (A : Nat → Nat) (w : World) : Prop where
  lt : b < w.heap.size
  cell : ∀ j, j < 4 → w.cell? ⟨b, j, none⟩ = some (.int .u64 (A j : Nat))
  free : ∀ j, j < 4 → w.frozen? ⟨b, j, none⟩ = false
theorem VBox.ext {b : Nat} {A : Nat → Nat} {w w' : World} (h : VBox b A w) (hx : Ext w w') : VBox b A w' :=
  ⟨Nat.lt_of_lt_of_le h.lt hx.size, fun j hj => by rw [hx.cell (by exact h.lt)]; exact h.cell j hj, fun j hj => by rw [hx.frozen (by exact h.lt)]; exact h.free j hj⟩
theorem VBox.far {b c i : Nat} {A : Nat → Nat} {w : World} (h : VBox b A w) (hbc : c ≠ b) (u : Value) : VBox b A (w.setCell ⟨c, i, none⟩ u) :=
  ⟨by rw [World.size_setCell]; exact h.lt, fun j hj => by
    have hne : (⟨c, i, none⟩ : Addr) ≠ ⟨b, j, none⟩ := by intro e; injection e with e; exact hbc e
    rw [World.cell?_setCell_other (h := hne)]; exact h.cell j hj, fun j hj => by rw [World.frozen?_setCell]; exact h.free j hj⟩
theorem VBox.set {b k v : Nat} {A : Nat → Nat} {w : World} (h : VBox b A w) (hk : k < 4) : VBox b (fun j => if j = k then v else A j) (w.setCell ⟨b, k, none⟩ (.int .u64 (v : Nat))) :=
  ⟨by rw [World.size_setCell]; exact h.lt, fun j hj => by
    by_cases e : j = k
    · subst e
      simp only [if_true]
      first | exact World.cell?_setCell_same _ _ _ (h.cell j hj) | exact World.cell?_setCell_same _ _ (h.cell j hj)
    · have hne : (⟨b, k, none⟩ : Addr) ≠ ⟨b, j, none⟩ := by intro e'; injection e' with _ e'; exact e e'.symm
      rw [World.cell?_setCell_other (h := hne), if_neg e]; exact h.cell j hj, fun j hj => by rw [World.frozen?_setCell]; exact h.free j hj⟩
theorem VBox.congr {b : Nat} {A B : Nat → Nat} {w : World} (h : VBox b A w) (e : ∀ j, j < 4 → A j = B j) : VBox b B w :=
  ⟨h.lt, fun j hj => by rw [← e j hj]; exact h.cell j hj, h.free⟩
theorem VBox.new (w : World) (A : Nat → Nat) (e : TypeId) : VBox w.heap.size A (w.alloc (.cells #[.int .u64 (A 0 : Nat), .int .u64 (A 1 : Nat), .int .u64 (A 2 : Nat), .int .u64 (A 3 : Nat)] e)) :=
  ⟨by simp, fun j hj => by
    match j, hj with
    | 0, _ => simp
    | 1, _ => simp
    | 2, _ => simp
    | 3, _ => simp, fun j hj => by
    match j, hj with
    | 0, _ => simp
    | 1, _ => simp
    | 2, _ => simp
    | 3, _ => simp⟩

def allV (p : Nat → Nat → Bool) (A B : Nat → Nat) : Bool := p (A 0) (B 0) && p (A 1) (B 1) && p (A 2) (B 2) && p (A 3) (B 3)
theorem allV_no {p : Nat → Nat → Bool} {A B : Nat → Nat} {k : Nat} (hk : k < 4) (h : p (A k) (B k) = false) : allV p A B = false := by
  unfold allV
  match k, hk with
  | 0, _ => simp [h]
  | 1, _ => simp [h]
  | 2, _ => simp [h]
  | 3, _ => simp [h]
theorem allV_yes {p : Nat → Nat → Bool} {A B : Nat → Nat} (h : ∀ k, k < 4 → p (A k) (B k) = true) : allV p A B = true := by
  unfold allV; simp [h 0 (by omega), h 1 (by omega), h 2 (by omega), h 3 (by omega)]
end Go.Dm
namespace Go.Proofs.Ytibimbcjnjefdaa
open Go.RowKit Go.Dm

theorem idxVec (A : Nat → Nat) {k : Nat} (hk : k < 4) (w : World) :
    (Instr.index 26 (.agg #[.int .u64 (A 0 : Nat), .int .u64 (A 1 : Nat), .int .u64 (A 2 : Nat), .int .u64 (A 3 : Nat)]) (.int .i64 (k : Int))).run Try.prog w = .ok (.int .u64 (A k : Nat)) w :=
  match k, hk with
  | 0, _ => by kernel_rfl
  | 1, _ => by kernel_rfl
  | 2, _ => by kernel_rfl
  | 3, _ => by kernel_rfl

/-- What a function of two numbers does: it tells g where p, else 0 and false. -/
def Does (n : Nat) (g : Nat → Nat → Nat) (p : Nat → Nat → Bool) : Prop :=
  (∀ args w, (callFunc n args).run Try.prog w = .ok (.enter n args) w) ∧ ∀ (x y : Nat) (w : World), U64 x → U64 y → Calls Try.prog n #[.int .u64 (x : Nat), .int .u64 (y : Nat)] w fun e w' => e = .returned (.tuple #[.int .u64 ((if p x y then g x y else 0 : Nat) : Int), .bool (p x y)]) ∧ Ext w w'

set_option maxHeartbeats 4000000 in
set_option maxRecDepth 100000 in
theorem both_w (n : Nat) (g : Nat → Nat → Nat) (p : Nat → Nat → Bool) (hC : Does n g p) (A B : Nat → Nat) (hA : ∀ k, U64 (A k)) (hB : ∀ k, U64 (B k)) (w : World) :
    Calls Try.prog 32 #[vF A, vF B, .func (.func n) #[] #[]] w fun e w' => e = .returned (.tuple #[if allV p A B then vF (fun k => g (A k) (B k)) else vF (fun _ => 0), .bool (allV p A B)]) ∧ Ext w w' := by
  obtain ⟨hE, hC⟩ := hC
  have hno := fun k (hk : k < 4) h => allV_no (p := p) (A := A) (B := B) hk h
  have hyes := allV_yes (p := p) (A := A) (B := B)
  generalize allV p A B = d at *
  replace hno := Lib.hid hno
  replace hyes := Lib.hid hyes
  unfold vF
  go_enter Try.func32, Try.ntmps32
  go_wp2
  go_loopw [13] (fun i wr => ∃ k : Nat, k ≤ 4 ∧ i = .int .i64 k ∧ Ext w wr ∧ VBox w.heap.size (fun j => if j < k then g (A j) (B j) else A j) wr ∧ VBox (w.heap.size + 1) B wr ∧ VBox (w.heap.size + 1 + 1) (fun _ => 0) wr ∧ Hid (∀ j, j < k → p (A j) (B j) = true)) (fun i _ => 4 - (intOf i).toNat)
  case atStart =>
    refine ⟨0, by omega, rfl, (((Ext.refl w).alloc _).alloc _).alloc _, ((VBox.new w A _).ext (((Ext.refl _).alloc _).alloc _)).congr (fun j _ => by simp), ?_, ?_, fun j hj => by omega⟩
    · have h := VBox.new (w.alloc (.cells #[.int .u64 (A 0 : Nat), .int .u64 (A 1 : Nat), .int .u64 (A 2 : Nat), .int .u64 (A 3 : Nat)] 26)) B 26
      rw [World.size_alloc] at h
      exact h.ext ((Ext.refl _).alloc _)
    · have h := VBox.new ((w.alloc (.cells #[.int .u64 (A 0 : Nat), .int .u64 (A 1 : Nat), .int .u64 (A 2 : Nat), .int .u64 (A 3 : Nat)] 26)).alloc (.cells #[.int .u64 (B 0 : Nat), .int .u64 (B 1 : Nat), .int .u64 (B 2 : Nat), .int .u64 (B 3 : Nat)] 26)) (fun _ => 0) 26
      rw [World.size_alloc, World.size_alloc] at h
      exact h
  case round =>
    obtain ⟨k, hk, rfl, hb, v1, v2, v3, HP⟩ := hrel
    by_cases hlt : k < 4
    · have C := hC (A k) (B k) wr (hA k) (hB k)
      have hN := hno.out k hlt
      have hP2 : p (A k) (B k) = true → Hid (∀ j, j < k + 1 → p (A j) (B j) = true) := fun h j hj => by
        rcases Nat.lt_succ_iff_lt_or_eq.1 hj with h' | rfl
        · exact HP.out j h'
        · exact h
      have hst : ∀ w', VBox w.heap.size (fun j => if j < k then g (A j) (B j) else A j) w' → VBox w.heap.size (fun j => if j < k + 1 then g (A j) (B j) else A j) (w'.setCell ⟨w.heap.size, k, none⟩ (.int .u64 (g (A k) (B k) : Nat))) := fun w' h => (h.set hlt).congr fun j _ => by
        by_cases e : j = k
        · subst e; simp
        · by_cases h2 : j < k
          · simp [e, h2, Nat.lt_succ_of_lt h2]
          · have : ¬ j < k + 1 := by omega
            simp [e, h2, this]
      replace hst := Lib.hid hst
      have c2 := v2.cell k hlt
      have hix := fun w => idxVec A hlt w
      cases hp : p (A k) (B k) with
      | false =>
        have hd := hN hp
        subst hd
        clear hN hP2 hst
        rw [hp] at C
        simp only [Bool.false_eq_true, if_false] at C ⊢
        go_wp2_with fail
        refine C.mono ?_; rintro e w4 ⟨rfl, h1⟩
        have d0 := (v3.ext h1).cell 0 (by omega)
        have d1 := (v3.ext h1).cell 1 (by omega)
        have d2 := (v3.ext h1).cell 2 (by omega)
        have d3 := (v3.ext h1).cell 3 (by omega)
        have e0 := (v3.ext h1).free 0 (by omega)
        have e1 := (v3.ext h1).free 1 (by omega)
        have e2 := (v3.ext h1).free 2 (by omega)
        have e3 := (v3.ext h1).free 3 (by omega)
        go_wp2
        have z0 := ((((v3.ext h1).set (k := 0) (v := 0) (by omega)).set (k := 1) (v := 0) (by omega)).set (k := 2) (v := 0) (by omega)).set (k := 3) (v := 0) (by omega)
        have k0 := z0.cell 0 (by omega)
        have k1 := z0.cell 1 (by omega)
        have k2 := z0.cell 2 (by omega)
        have k3 := z0.cell 3 (by omega)
        simp at k0 k1 k2 k3
        refine bodyPost_ret (v := .tuple #[.agg #[.int .u64 0, .int .u64 0, .int .u64 0, .int .u64 0], .bool false]) (by simp [results, Try.results32, go_sem, k0, k1, k2, k3]) rfl ?_
        exact ⟨rfl, ((((hb.trans h1).setCell (p := ⟨w.heap.size + 1 + 1, 0, none⟩) (Nat.le_add_right _ 2) _).setCell (p := ⟨w.heap.size + 1 + 1, 1, none⟩) (Nat.le_add_right _ 2) _).setCell (p := ⟨w.heap.size + 1 + 1, 2, none⟩) (Nat.le_add_right _ 2) _).setCell (p := ⟨w.heap.size + 1 + 1, 3, none⟩) (Nat.le_add_right _ 2) _⟩
      | true =>
        replace hP2 := hP2 hp
        clear hN
        rw [hp] at C
        simp only [if_true] at C
        go_wp2_with fail
        refine C.mono ?_; rintro e w4 ⟨rfl, h1⟩
        have u1 := v1.ext h1
        have d0 := u1.cell _ hlt
        have e0 := u1.free _ hlt
        go_wp2
        go_roundw
        case rel => exact ⟨_, by omega, by go_num, (hb.trans h1).setCell (p := ⟨w.heap.size, _, none⟩) (Nat.le_refl _) _, hst.out _ u1, (v2.ext h1).far (by omega) _, (v3.ext h1).far (by omega) _, hP2⟩
        case measure => simp [intOf]; omega
    · obtain rfl : k = 4 := by omega
      have hd := hyes.out HP.out
      subst hd
      have u1 := v1.congr (B := fun j => g (A j) (B j)) (fun j hj => by simp [hj])
      have d0 := u1.cell 0 (by omega)
      have d1 := u1.cell 1 (by omega)
      have d2 := u1.cell 2 (by omega)
      have d3 := u1.cell 3 (by omega)
      have x0 := v3.cell 0 (by omega)
      have x1 := v3.cell 1 (by omega)
      have x2 := v3.cell 2 (by omega)
      have x3 := v3.cell 3 (by omega)
      have e0 := v3.free 0 (by omega)
      have e1 := v3.free 1 (by omega)
      have e2 := v3.free 2 (by omega)
      have e3 := v3.free 3 (by omega)
      go_wp2
      have z0 := (((v3.set (k := 0) (v := g (A 0) (B 0)) (by omega)).set (k := 1) (v := g (A 1) (B 1)) (by omega)).set (k := 2) (v := g (A 2) (B 2)) (by omega)).set (k := 3) (v := g (A 3) (B 3)) (by omega)
      have k0 := z0.cell 0 (by omega)
      have k1 := z0.cell 1 (by omega)
      have k2 := z0.cell 2 (by omega)
      have k3 := z0.cell 3 (by omega)
      simp at k0 k1 k2 k3
      refine bodyPost_ret (v := .tuple #[.agg #[.int .u64 (g (A 0) (B 0) : Nat), .int .u64 (g (A 1) (B 1) : Nat), .int .u64 (g (A 2) (B 2) : Nat), .int .u64 (g (A 3) (B 3) : Nat)], .bool true]) (by simp [results, Try.results32, go_sem, k0, k1, k2, k3]) rfl ?_
      exact ⟨rfl, (((hb.setCell (p := ⟨w.heap.size + 1 + 1, 0, none⟩) (Nat.le_add_right _ 2) _).setCell (p := ⟨w.heap.size + 1 + 1, 1, none⟩) (Nat.le_add_right _ 2) _).setCell (p := ⟨w.heap.size + 1 + 1, 2, none⟩) (Nat.le_add_right _ 2) _).setCell (p := ⟨w.heap.size + 1 + 1, 3, none⟩) (Nat.le_add_right _ 2) _⟩

theorem bitsSub (x y : Nat) (w : World) : (callFunc 45 #[.int .u64 (x : Nat), .int .u64 (y : Nat), .int .u64 0]).run Try.prog w =
    .ok (.value (.tuple #[.int .u64 (((x + 18446744073709551616 - y) % 18446744073709551616 : Nat) : Int), .int .u64 ((if x < y then 1 else 0 : Nat) : Int)])) w := by
  rw [run_callFunc_extern Try.func45 (by kernel_rfl) (by kernel_rfl) (by kernel_rfl) (e := sub64Entry) (by kernel_rfl), show (Value.int .u64 (0 : Int)) = Value.int .u64 ((0 : Nat) : Int) from rfl, run_sub64 x y 0 (by omega)]
  rfl

set_option maxHeartbeats 400000 in
theorem wsub_w : Does 33 (fun x y => x - y) (fun x y => decide (y ≤ x)) := by
  refine ⟨fun _ _ => by kernel_rfl, fun x y w hx hy => ?_⟩
  have hb := bitsSub x y
  unfold U64 at hx hy
  by_cases h : y ≤ x
  · rw [if_neg (by omega), show (x + 18446744073709551616 - y) % 18446744073709551616 = x - y by omega] at hb
    simp only [h, decide_true, if_true]
    go_enter Try.func33, Try.ntmps33
    go_wp2
    go_ret2
    exact ⟨rfl, Ext.refl _⟩
  · rw [if_pos (by omega)] at hb
    simp only [h, decide_false, Bool.false_eq_true, if_false]
    go_enter Try.func33, Try.ntmps33
    go_wp2
    go_ret2
    exact ⟨rfl, Ext.refl _⟩

end Go.Proofs.Ytibimbcjnjefdaa

namespace Go.Dm
open Go Go.RowKit
theorem allV_fits (a b : Vc) : allV (fun x y => decide (y ≤ x)) (vG a) (vG b) = vfits b a := by
  unfold allV vfits vG
  simp [List.range_succ, Bool.and_assoc]
theorem vG_or (c : Bool) (A : Nat → Nat) (v : Vc) (h : ∀ k, k < 4 → vG v k = A k) : (if c = true then vF A else vF (fun _ => 0)) = vF (vG (vOr c v)) := by
  cases c with
  | false =>
    rw [if_neg (by simp)]
    apply vF_eq
    intro k hk
    match k, hk with
    | 0, _ => rfl
    | 1, _ => rfl
    | 2, _ => rfl
    | 3, _ => rfl
  | true => rw [if_pos rfl]; exact vF_eq fun k hk => (h k hk).symm
/-- How two amounts stand from the k-th number on. -/
theorem vord_drop {a b : List Nat} {k : Nat} (ha : k < a.length) (hb : k < b.length) :
    vordF (a.drop k) (b.drop k) = if a.getD k 0 < b.getD k 0 then -1 else if b.getD k 0 < a.getD k 0 then 1 else vordF (a.drop (k + 1)) (b.drop (k + 1)) := by
  rw [List.drop_eq_getElem_cons ha, List.drop_eq_getElem_cons hb]
  simp only [vordF]
  simp [ha, hb]

/-- A slice value reads as these numbers. -/
def Us (w : World) (v : Value) (l : List Nat) : Prop := Sl w 1 v l.length (l.map fun x => .int .u64 (x : Nat))
theorem Us.at {w : World} {l : List Nat} {p cap} (h : Us w (.slice p l.length cap) l) {k : Nat} (hk : k < l.length) :
    ∃ b off, p = some ⟨b, off, none⟩ ∧ b < w.heap.size ∧ w.cell? ⟨b, off + k, none⟩ = some (.int .u64 (l.getD k 0 : Nat)) := by
  obtain ⟨b, off, hp, hb, h⟩ := Sl.at h (by omega)
  exact ⟨b, off, hp, hb, h k _ (by simp [hk])⟩

end Go.Dm
namespace Go.Proofs.Ytibimbcjnjefdaa
open Go.RowKit Go.Dm

set_option maxHeartbeats 1000000 in
theorem vsub_w (a b : Vc) (ha : OkV a) (hb : OkV b) (w : World) :
    Calls Try.prog 19 #[vVal a, vVal b] w fun e w' => e = .returned (.tuple #[vVal (vOr (vfits b a) (vsub a b)), .bool (vfits b a)]) ∧ Ext w w' := by
  have C := fun w1 => both_w _ _ _ wsub_w (vG a) (vG b) ha.u64 hb.u64 w1
  rw [allV_fits, vG_or _ (fun k => vG a k - vG b k) (vsub a b) (fun k hk => vsub_at hk)] at C
  unfold vVal
  generalize vG (vOr (vfits b a) (vsub a b)) = R at C ⊢
  generalize vfits b a = d at C ⊢
  generalize vG a = A at C ⊢
  generalize vG b = B at C ⊢
  have hE : Ext w (((w.alloc (.cells #[.int .u64 (A 0 : Nat), .int .u64 (A 1 : Nat), .int .u64 (A 2 : Nat), .int .u64 (A 3 : Nat)] 26)).alloc (.cells #[.int .u64 (B 0 : Nat), .int .u64 (B 1 : Nat), .int .u64 (B 2 : Nat), .int .u64 (B 3 : Nat)] 26)).alloc (.cells #[.int .u64 (0 : Nat), .int .u64 (0 : Nat), .int .u64 (0 : Nat), .int .u64 (0 : Nat)] 26)) := (((Ext.refl w).alloc _).alloc _).alloc _
  have hv : VBox (w.heap.size + 1 + 1) (fun _ => 0) (((w.alloc (.cells #[.int .u64 (A 0 : Nat), .int .u64 (A 1 : Nat), .int .u64 (A 2 : Nat), .int .u64 (A 3 : Nat)] 26)).alloc (.cells #[.int .u64 (B 0 : Nat), .int .u64 (B 1 : Nat), .int .u64 (B 2 : Nat), .int .u64 (B 3 : Nat)] 26)).alloc (.cells #[.int .u64 (0 : Nat), .int .u64 (0 : Nat), .int .u64 (0 : Nat), .int .u64 (0 : Nat)] 26)) := by
    have h := VBox.new ((w.alloc (.cells #[.int .u64 (A 0 : Nat), .int .u64 (A 1 : Nat), .int .u64 (A 2 : Nat), .int .u64 (A 3 : Nat)] 26)).alloc (.cells #[.int .u64 (B 0 : Nat), .int .u64 (B 1 : Nat), .int .u64 (B 2 : Nat), .int .u64 (B 3 : Nat)] 26)) (fun _ => 0) 26
    rw [World.size_alloc, World.size_alloc] at h
    exact h
  unfold vF at C ⊢
  replace C := Lib.hid C
  go_enter Try.func19, Try.ntmps19
  go_wp2_with fail
  refine (C.out _).mono ?_; rintro e w1 ⟨rfl, h1⟩
  have v1 := hv.ext h1
  have d0 := v1.cell 0 (by omega)
  have d1 := v1.cell 1 (by omega)
  have d2 := v1.cell 2 (by omega)
  have d3 := v1.cell 3 (by omega)
  have e0 := v1.free 0 (by omega)
  have e1 := v1.free 1 (by omega)
  have e2 := v1.free 2 (by omega)
  have e3 := v1.free 3 (by omega)
  go_wp2
  have z0 := (((v1.set (k := 0) (v := R 0) (by omega)).set (k := 1) (v := R 1) (by omega)).set (k := 2) (v := R 2) (by omega)).set (k := 3) (v := R 3) (by omega)
  have k0 := z0.cell 0 (by omega)
  have k1 := z0.cell 1 (by omega)
  have k2 := z0.cell 2 (by omega)
  have k3 := z0.cell 3 (by omega)
  simp at k0 k1 k2 k3
  refine bodyPost_ret (v := .tuple #[.agg #[.int .u64 (R 0 : Nat), .int .u64 (R 1 : Nat), .int .u64 (R 2 : Nat), .int .u64 (R 3 : Nat)], .bool d]) (by simp [results, Try.results19, go_sem, k0, k1, k2, k3]) rfl ?_
  exact ⟨rfl, ((((hE.trans h1).setCell (p := ⟨w.heap.size + 1 + 1, 0, none⟩) (Nat.le_add_right _ 2) _).setCell (p := ⟨w.heap.size + 1 + 1, 1, none⟩) (Nat.le_add_right _ 2) _).setCell (p := ⟨w.heap.size + 1 + 1, 2, none⟩) (Nat.le_add_right _ 2) _).setCell (p := ⟨w.heap.size + 1 + 1, 3, none⟩) (Nat.le_add_right _ 2) _⟩

theorem nan_w (x : Nat) (w : World) : Calls Try.prog 50 #[.int .u64 (x : Nat)] w fun e w' => e = .returned (.bool false) ∧ Ext w w' := by
  go_enter Try.func50, Try.ntmps50
  go_wp2
  go_ret
  exact ⟨by simp, Ext.refl _⟩

set_option maxHeartbeats 400000 in
theorem cmp_w (x y : Nat) (w : World) : Calls Try.prog 46 #[.int .u64 (x : Nat), .int .u64 (y : Nat)] w fun e w' => e = .returned (.int .i64 (if x < y then -1 else if y < x then 1 else 0)) ∧ Ext w w' := by
  go_enter Try.func46, Try.ntmps46
  go_wp2_with fail
  refine (nan_w x w).mono ?_; rintro e w1 ⟨rfl, h1⟩
  go_wp2_with fail
  refine (nan_w y w1).mono ?_; rintro e w2 ⟨rfl, h2⟩
  by_cases h : x < y
  · go_wp2
    go_ret
    exact ⟨by simp, h1.trans h2⟩
  · by_cases h2' : y < x
    · go_wp2
      go_ret
      exact ⟨by simp, h1.trans h2⟩
    · go_wp2
      go_ret
      exact ⟨by simp, h1.trans h2⟩

set_option maxHeartbeats 1000000 in
theorem compare_w (a b : List Nat) (va vb : Value) (w : World) (hl : a.length = b.length) (hm : a.length ≤ 281474976710656) (ha : Us w va a) (hb : Us w vb b) :
    Calls Try.prog 34 #[va, vb] w fun e w' => e = .returned (.int .i64 (vordF a b)) ∧ Ext w w' := by
  obtain ⟨p, cap, rfl, _, _, _⟩ := Sl.shape ha
  obtain ⟨q, cbp, rfl, _, _, _⟩ := Sl.shape hb
  have hstep := fun k (h1 : k < a.length) => vord_drop (a := a) (b := b) (k := k) h1 (by omega)
  have hend : vordF (a.drop a.length) (b.drop a.length) = 0 := by rw [List.drop_length]; rfl
  have hbeg : vordF a b = vordF (a.drop 0) (b.drop 0) := rfl
  generalize vordF a b = r at *
  have hl' := Lib.hid hl
  clear hl
  replace hstep := Lib.hid hstep
  replace hend := Lib.hid hend
  replace hbeg := Lib.hid hbeg
  go_enter Try.func34, Try.ntmps34
  go_wp2
  go_loopw [11] (fun i wr => ∃ k : Nat, k ≤ a.length ∧ i = .int .i64 k ∧ Ext w wr ∧ Hid (r = vordF (a.drop k) (b.drop k))) (fun i _ => a.length - (intOf i).toNat)
  case atStart => exact ⟨0, by omega, rfl, Ext.refl _, hbeg⟩
  case round =>
    obtain ⟨k, hk, rfl, hx, HR⟩ := hrel
    by_cases hlt : k < a.length
    · have hkb : k < b.length := by have := hl'.out; omega
      obtain ⟨ba, oa, rfl, _, ca⟩ := Us.at (Sl.ext ha hx) hlt
      obtain ⟨bb, ob, hq, _, cb⟩ := Us.at (p := q) (cap := cbp) (Sl.ext hb hx) (k := k) hkb
      subst hq
      have hs := HR.out
      rw [hstep.out k hlt] at hs
      replace hs := Lib.hid hs
      generalize a.getD k 0 = x at ca hs
      generalize b.getD k 0 = y at cb hs
      have C := cmp_w x y wr
      by_cases h1 : x < y
      · have hs1 := hs.out
        rw [if_pos h1] at hs1 C
        subst hs1
        clear hs
        go_wp2_with fail
        refine C.mono ?_; rintro e w1 ⟨rfl, e1⟩
        go_wp2
        go_ret
        exact ⟨rfl, hx.trans e1⟩
      · by_cases h2 : y < x
        · have hs1 := hs.out
          rw [if_neg h1, if_pos h2] at hs1 C
          subst hs1
          clear hs
          go_wp2_with fail
          refine C.mono ?_; rintro e w1 ⟨rfl, e1⟩
          go_wp2
          go_ret
          exact ⟨rfl, hx.trans e1⟩
        · have hs1 : Hid (r = vordF (a.drop (k + 1)) (b.drop (k + 1))) := by
            have := hs.out
            rw [if_neg h1, if_neg h2] at this
            exact this
          rw [if_neg h1, if_neg h2] at C
          clear hs
          go_wp2_with fail
          refine C.mono ?_; rintro e w1 ⟨rfl, e1⟩
          go_wp2
          go_roundw
          case rel => exact ⟨k + 1, by omega, by go_num, hx.trans e1, hs1⟩
          case measure => simp [intOf]; omega
    · obtain rfl : k = a.length := by omega
      have hs := HR.out
      rw [hend.out] at hs
      subst hs
      have hge : ¬ a.length < b.length := by have := hl'.out; omega
      go_wp2
      go_ret
      exact ⟨rfl, hx⟩

end Go.Proofs.Ytibimbcjnjefdaa

namespace Go.Dm
open Go Go.RowKit
theorem OkV.eta {a : Vc} (h : OkV a) : a = [vG a 0, vG a 1, vG a 2, vG a 3] := by
  obtain ⟨x, y, z, u, rfl, _⟩ := h.ex
  rfl
theorem VBox.us {b : Nat} {A : Nat → Nat} {w : World} (h : VBox b A w) : Us w (.slice (some ⟨b, 0, none⟩) 4 4) [A 0, A 1, A 2, A 3] := by
  refine ⟨rfl, some ⟨b, 0, none⟩, 4, rfl, Nat.le_refl _, by simp [maxLen], (fun e => by cases e), Or.inr ⟨b, 0, rfl, h.lt, fun j u hj => ?_⟩⟩
  match j with
  | 0 => simp at hj; subst hj; simpa using h.cell 0 (by omega)
  | 1 => simp at hj; subst hj; simpa using h.cell 1 (by omega)
  | 2 => simp at hj; subst hj; simpa using h.cell 2 (by omega)
  | 3 => simp at hj; subst hj; simpa using h.cell 3 (by omega)
  | j + 4 => simp at hj
theorem minV {x y f : Nat} (hx : U64 x) : (if IntKind.u64.wrap ((x : Int) / (y : Int)) < (f : Int) then IntKind.u64.wrap ((x : Int) / (y : Int)) else (f : Int)) = ((min f (x / y) : Nat) : Int) := by
  have h1 : (x : Int) / (y : Int) = ((x / y : Nat) : Int) := (Int.natCast_ediv x y).symm
  have h2 : x / y ≤ x := Nat.div_le_self _ _
  have h3 : IntKind.u64.wrap ((x / y : Nat) : Int) = ((x / y : Nat) : Int) := by
    rw [IntKind.wrap_u64]; unfold U64 at hx; generalize x / y = q at h2 ⊢; omega
  rw [h1, h3]
  split <;> omega
theorem vholdF_sub (a b : Vc) (m k : Nat) : vholdF a b m (k + 1) = if vG b k = 0 then vholdF a b m k else min (vholdF a b m k) (vG a k / vG b k) := rfl
end Go.Dm
namespace Go.Proofs.Ytibimbcjnjefdaa
open Go.RowKit Go.Dm

set_option maxHeartbeats 1000000 in
theorem vorder_w (a b : Vc) (ha : OkV a) (hb : OkV b) (w : World) :
    Calls Try.prog 20 #[vVal a, vVal b] w fun e w' => e = .returned (.int .i64 (vord a b)) ∧ Ext w w' := by
  have hv : vord a b = vordF [vG a 0, vG a 1, vG a 2, vG a 3] [vG b 0, vG b 1, vG b 2, vG b 3] := by
    unfold vord; rw [← ha.eta, ← hb.eta]
  rw [hv]
  clear hv
  unfold vVal
  generalize vG a = A
  generalize vG b = B
  have hE : Ext w ((w.alloc (.cells #[.int .u64 (A 0 : Nat), .int .u64 (A 1 : Nat), .int .u64 (A 2 : Nat), .int .u64 (A 3 : Nat)] 26)).alloc (.cells #[.int .u64 (B 0 : Nat), .int .u64 (B 1 : Nat), .int .u64 (B 2 : Nat), .int .u64 (B 3 : Nat)] 26)) := ((Ext.refl w).alloc _).alloc _
  have v1 := (VBox.new w A 26).ext ((Ext.refl _).alloc (.cells #[.int .u64 (B 0 : Nat), .int .u64 (B 1 : Nat), .int .u64 (B 2 : Nat), .int .u64 (B 3 : Nat)] 26))
  have v2 := VBox.new (w.alloc (.cells #[.int .u64 (A 0 : Nat), .int .u64 (A 1 : Nat), .int .u64 (A 2 : Nat), .int .u64 (A 3 : Nat)] 26)) B 26
  rw [World.size_alloc] at v2
  have C := Lib.hid (fun U (hU : Ext ((w.alloc (.cells #[.int .u64 (A 0 : Nat), .int .u64 (A 1 : Nat), .int .u64 (A 2 : Nat), .int .u64 (A 3 : Nat)] 26)).alloc (.cells #[.int .u64 (B 0 : Nat), .int .u64 (B 1 : Nat), .int .u64 (B 2 : Nat), .int .u64 (B 3 : Nat)] 26)) U) =>
    compare_w [A 0, A 1, A 2, A 3] [B 0, B 1, B 2, B 3] (.slice (some ⟨w.heap.size, 0, none⟩) 4 4) (.slice (some ⟨w.heap.size + 1, 0, none⟩) 4 4) U rfl (by simp) (v1.ext hU).us (v2.ext hU).us)
  generalize vordF [A 0, A 1, A 2, A 3] [B 0, B 1, B 2, B 3] = r at C ⊢
  unfold vF
  go_enter Try.func20, Try.ntmps20
  go_wp2_with fail
  refine Dm.wp_region_grow (by kernel_rfl) (by kernel_rfl) ?_
  repeat (go_big_quiet_step (first
    | (go_at_call 34; with_reducible exact Calls.quietE (C.out _ (ext_grow _ _)))))
  refine wpQuiet_nil ?_
  intro U hU
  go_wp2
  go_ret
  exact ⟨rfl, hE.trans hU⟩

set_option maxHeartbeats 2000000 in
set_option maxRecDepth 100000 in
theorem vholdsN_w (a b : Vc) (ha : OkV a) (hb : OkV b) (m : Int) (M : Nat) (hM : M ≤ 9223372036854775807) (hmM : m = M ∨ (m < 0 ∧ M = 0)) (w : World) :
    Calls Try.prog 21 #[vVal a, vVal b, .int .i64 m] w fun e w' => e = .returned (.int .i64 (vholds a b M : Nat)) ∧ Ext w w' := by
  have hle := vholdF_le a b M
  have hst := fun k => vholdF_sub a b M k
  unfold vholds vVal
  have h0 : vholdF a b M 0 = M := rfl
  generalize vholdF a b M = F at *
  have huA : ∀ k, U64 (vG a k) := ha.u64
  have huB : ∀ k, U64 (vG b k) := hb.u64
  generalize vG a = A at *
  generalize vG b = B at *
  replace hle := Lib.hid hle
  replace hst := Lib.hid hst
  have hx0 : VBox w.heap.size A ((w.alloc (.cells #[.int .u64 (A 0 : Nat), .int .u64 (A 1 : Nat), .int .u64 (A 2 : Nat), .int .u64 (A 3 : Nat)] 26)).alloc (.cells #[.int .u64 (B 0 : Nat), .int .u64 (B 1 : Nat), .int .u64 (B 2 : Nat), .int .u64 (B 3 : Nat)] 26)) :=
    (VBox.new w A _).ext ((Ext.refl _).alloc _)
  unfold vF
  rcases hmM with hmM | ⟨hneg, rfl⟩
  · subst hmM
    clear ha hb
    replace h0 := Lib.hid h0
    go_enter Try.func21, Try.ntmps21
    go_wp2
    go_loopw [7, 14] (fun n i wr => ∃ k : Nat, k ≤ 4 ∧ i = .int .i64 k ∧ n = .int .u64 (F k : Nat) ∧ Ext w wr ∧ VBox w.heap.size A wr) (fun _ i _ => 4 - (intOf i).toNat)
    case atStart => exact ⟨0, by omega, rfl, by rw [h0.out], ((Ext.refl w).alloc _).alloc _, hx0⟩
    case round =>
      obtain ⟨k, hk, rfl, rfl, hx, v1⟩ := hrel
      by_cases hlt : k < 4
      · have hix := fun w => idxVec B hlt w
        have c1 := v1.cell k hlt
        have hs := hst.out k
        by_cases hz : B k = 0
        · rw [if_pos hz] at hs
          rw [hz] at hix
          replace hs := Lib.hid hs
          go_wp2
          go_roundw
          case rel => exact ⟨k + 1, by omega, by go_num, by rw [hs.out], hx, v1⟩
          case measure => simp [intOf]; omega
        · rw [if_neg hz] at hs
          replace hs := Lib.hid hs
          have hp : 0 < B k := Nat.pos_of_ne_zero hz
          have hmin := minV (x := A k) (y := B k) (f := F k) (huA k)
          go_wp2
          exact ⟨⟨k + 1, by omega, by simp, by rw [hs.out], hx, v1⟩, by simp [intOf]; omega⟩
      · obtain rfl : k = 4 := by omega
        have hF := hle.out 4
        go_wp2
        go_ret
        exact ⟨rfl, hx⟩
  · replace h0 := Lib.hid h0
    clear ha hb
    go_enter Try.func21, Try.ntmps21
    go_wp2
    go_loopw [7, 14] (fun n i wr => ∃ k : Nat, k ≤ 4 ∧ i = .int .i64 k ∧ n = .int .u64 (F k : Nat) ∧ Ext w wr ∧ VBox w.heap.size A wr) (fun _ i _ => 4 - (intOf i).toNat)
    case atStart => exact ⟨0, by omega, rfl, by rw [h0.out]; rfl, ((Ext.refl w).alloc _).alloc _, hx0⟩
    case round =>
      obtain ⟨k, hk, rfl, rfl, hx, v1⟩ := hrel
      by_cases hlt : k < 4
      · have hix := fun w => idxVec B hlt w
        have c1 := v1.cell k hlt
        have hs := hst.out k
        by_cases hz : B k = 0
        · rw [if_pos hz] at hs
          rw [hz] at hix
          replace hs := Lib.hid hs
          go_wp2
          go_roundw
          case rel => exact ⟨k + 1, by omega, by go_num, by rw [hs.out], hx, v1⟩
          case measure => simp [intOf]; omega
        · rw [if_neg hz] at hs
          replace hs := Lib.hid hs
          have hp : 0 < B k := Nat.pos_of_ne_zero hz
          have hmin := minV (x := A k) (y := B k) (f := F k) (huA k)
          go_wp2
          exact ⟨⟨k + 1, by omega, by simp, by rw [hs.out], hx, v1⟩, by simp [intOf]; omega⟩
      · obtain rfl : k = 4 := by omega
        have hF := hle.out 4
        go_wp2
        go_ret
        exact ⟨rfl, hx⟩

theorem vholds_w (a b : Vc) (ha : OkV a) (hb : OkV b) (m : Int) (hm : m ≤ 9223372036854775807) (w : World) :
    Calls Try.prog 21 #[vVal a, vVal b, .int .i64 m] w fun e w' => e = .returned (.int .i64 (vholds a b m.toNat : Nat)) ∧ Ext w w' :=
  vholdsN_w a b ha hb m m.toNat (by omega) (by omega) w

end Go.Proofs.Ytibimbcjnjefdaa

namespace Go.Proofs.Ytibimbcjnjefdaa
open Go.RowKit Go.Dm

theorem Try.slSlot : SlT Try.prog 22 47 6 72 := SlT.mk' Try.underlying22 (by kernel_rfl) (by decide) (by decide)

set_option maxHeartbeats 1000000 in
set_option maxRecDepth 100000 in
theorem fitc_w (T : List RowS) (node : ByteArray) (A : Nat → Nat) (lv : Value) (p : List PairS) (vx : Value) (c o : Nat) (w : World) (hm : T.length ≤ 35184372088832) (hf : FitR T) (hx : Terms w vx T) (hpm : p.length ≤ 35184372088832) (hp : Pairs w lv p) (hcl : c < w.heap.size) (hc : w.cell? ⟨c, o, none⟩ = some vx) :
    Calls Try.prog 37 #[.agg #[.string node, .int .u64 (A 0 : Nat), .int .u64 (A 1 : Nat), .int .u64 (A 2 : Nat), .int .u64 (A 3 : Nat), lv], .pointer (some ⟨c, o, none⟩)] w fun e w' => e = .returned (.bool (!matchS (T.map rowT) p)) ∧ Ext w w' := by
  obtain ⟨q, cap, rfl, _, _⟩ := hp.shape
  obtain ⟨q2, cap2, rfl, _, _⟩ := hx.shape
  have hW : Ext w (w.alloc (.cells #[.string node, .int .u64 (A 0 : Nat), .int .u64 (A 1 : Nat), .int .u64 (A 2 : Nat), .int .u64 (A 3 : Nat), .slice q p.length cap] 47)) := (Ext.refl _).alloc _
  have C := match_w T p _ _ _ hm hf (hx.ext hW) hpm (hp.ext hW)
  generalize matchS (T.map rowT) p = d at C ⊢
  replace C := Lib.hid C
  go_enter Try.func37, Try.ntmps37
  go_wp2_with fail
  refine C.out.mono ?_; rintro e w1 ⟨rfl, h1⟩
  go_wp2
  go_ret
  exact ⟨by simp, hW.trans h1⟩

set_option maxHeartbeats 1000000 in
set_option maxRecDepth 100000 in
theorem kclone_w (R : List SlotR) (v : Value) (w : World) (hm : R.length * 72 ≤ 140737488355328) (hx : Slots w v R) :
    Calls Try.prog 36 #[v] w fun e w' => ∃ v', e = .returned v' ∧ w'.ownsRow w.heap.size 47 6 v' R.length (slotCells R) ∧ Ext w w' := by
  obtain ⟨q, cap, rfl, hcp, _⟩ := hx.shape
  have hone := hx.one
  have he := fun (a : Option Addr) w => Lib.run_eql_slice_nil (P := Try.prog) w 22 47 a R.length cap 0 0 Try.underlying22
  cases q with
  | none =>
    have h0 : R = [] := by
      have := hx.sl
      obtain ⟨_, p', cap', hv, hn, _, hz, _⟩ := this
      injection hv with e1 _ e3
      have := hz e1.symm
      exact List.eq_nil_of_length_eq_zero (by omega)
    subst h0
    have he := fun w => Lib.run_eql_slice_nil (P := Try.prog) w 22 47 none 0 cap 0 0 Try.underlying22
    go_enter Try.func36, Try.ntmps36
    go_wp2
    go_ret
    exact ⟨_, rfl, World.ownsRow_nil _ _ _ _, Ext.refl _⟩
  | some ad =>
    have he := he (some ad)
    have hE : Ext w (w.alloc (.cells #[] 47)) := (Ext.refl _).alloc _
    have hown : (w.alloc (.cells #[] 47)).ownsRow w.heap.size 47 6 (.slice (some ⟨w.heap.size, 0, none⟩) 0 0) 0 [] := World.ownsRow_lit w #[] 0 (Nat.le_refl _) (by simp [maxLen]) rfl
    have hsl := Sl.ext hx.sl hE
    go_enter Try.func36, Try.ntmps36
    go_wp2_with (at_builtin; refine wpList_appE rfl _ _ Try.slSlot rfl hE rfl hown rfl hsl hone (by omega) ?_; intro v5 w5 ho5 hb5 _)
    go_ret
    refine ⟨v5, rfl, ?_, hb5⟩
    rw [Nat.zero_add, List.nil_append] at ho5
    exact ho5

set_option maxHeartbeats 1000000 in
set_option maxRecDepth 100000 in
theorem kindex_w (T : List RowS) (R : List SlotR) (v vx : Value) (c o : Nat) (w : World) (hT : T.length ≤ 35184372088832) (hf : FitR T) (ht : Terms w vx T) (hm : R.length ≤ 35184372088832) (hk : FitK R) (hx : Slots w v R) (hcl : c < w.heap.size) (hc : w.cell? ⟨c, o, none⟩ = some vx) :
    Calls Try.prog 47 #[v, .func (.func 37) #[] #[.pointer (some ⟨c, o, none⟩)]] w
      fun e w' => ∃ i : Int, e = .returned (.int .i64 i) ∧ FirstNo (letR T) R i ∧ Ext w w' := by
  obtain ⟨q, cap, rfl, _, _⟩ := hx.shape
  go_enter Try.func47, Try.ntmps47
  go_wp2
  go_loopw [8] (fun i wr => ∃ k : Nat, k ≤ R.length ∧ i = .int .i64 k ∧ Ext w wr ∧ Hid (∀ j, j < k → letR T (slAt R j) = true)) (fun i _ => R.length - (intOf i).toNat)
  case atStart => exact ⟨0, by omega, rfl, Ext.refl w, fun j hj => by omega⟩
  case round =>
    obtain ⟨k, hk', rfl, hb, HN⟩ := hrel
    by_cases hlt : k < R.length
    · obtain ⟨b, off, rfl, hbl, hcs⟩ := (hx.ext hb).at hlt
      have hcl' : c < wr.heap.size := Nat.lt_of_lt_of_le hcl hb.size
      have hc' : wr.cell? ⟨c, o, none⟩ = some vx := by rw [hb.cell (by exact hcl)]; exact hc
      have C := fitc_w T (slAt R k).1 (vG (slAt R k).2.1) (slAt R k).2.2.1 (slAt R k).2.2.2 vx c o wr hT hf (ht.ext hb) (hk _ (slAt_mem hlt)) ((hx.ext hb).lab hlt) hcl' hc'
      have hN2 : letR T (slAt R k) = true → Hid (∀ j, j < k + 1 → letR T (slAt R j) = true) := fun h j hj => by
        rcases Nat.lt_succ_iff_lt_or_eq.1 hj with h' | rfl
        · exact HN.out j h'
        · exact h
      have hno : letR T (slAt R k) = false → FirstNo (letR T) R k := fun h => Or.inr ⟨k, rfl, hlt, HN.out, h⟩
      rw [show matchS (T.map rowT) (slAt R k).2.2.2 = letR T (slAt R k) from rfl] at C
      obtain ⟨pq, pc, hpe, _, _⟩ := ((hx.ext hb).lab hlt).shape
      have c0 := hcs 0 (by omega)
      have c1 := hcs 1 (by omega)
      have c2 := hcs 2 (by omega)
      have c3 := hcs 3 (by omega)
      have c4 := hcs 4 (by omega)
      have c5 := hcs 5 (by omega)
      simp only [slotOne, vAt, List.getElem?_cons_zero, List.getElem?_cons_succ, Nat.add_zero] at c0 c1 c2 c3 c4 c5
      generalize letR T (slAt R k) = d at C hN2 hno
      generalize slAt R k = r at C c0 c1 c2 c3 c4 c5 hpe
      obtain ⟨node, vv, lv, ls⟩ := r
      simp only at C c0 c1 c2 c3 c4 c5 hpe
      subst hpe
      generalize vG vv = A at C c0 c1 c2 c3 c4 c5
      clear hcs
      cases d with
      | false =>
        replace hno := Lib.hid (hno rfl)
        clear hN2
        go_wp2_with fail
        refine C.mono ?_; rintro e w1 ⟨rfl, h1⟩
        go_wp2
        go_ret
        exact ⟨_, rfl, hno.out, hb.trans h1⟩
      | true =>
        replace hN2 := hN2 rfl
        clear hno
        go_wp2_with fail
        refine C.mono ?_; rintro e w1 ⟨rfl, h1⟩
        go_wp2
        go_roundw
        case rel => exact ⟨k + 1, by omega, by go_num, hb.trans h1, hN2⟩
        case measure => simp [intOf]; omega
    · obtain rfl : k = R.length := by omega
      have hall : FirstNo (letR T) R (-1) := Or.inl ⟨rfl, fun r hr => by
        obtain ⟨j, hj, rfl⟩ := List.getElem_of_mem hr
        rw [← slAt_eq hj]
        exact HN.out j hj⟩
      replace hall := Lib.hid hall
      go_wp2
      go_ret
      exact ⟨_, rfl, hall.out, hb⟩

end Go.Proofs.Ytibimbcjnjefdaa

namespace Go.Dm
open Go Go.RowKit

/-- How far the slots that are let have been put together. -/
structure DelS (f : SlotR → Bool) (R : List SlotR) (cap i j : Nat) (cur : List Value) : Prop where
  num : i = ((R.take j).filter f).length
  lt : i < j
  len : cur.length = cap * 6
  kept : cur.take (i * 6) = slotCells ((R.take j).filter f)
  rest : ∀ q, j * 6 ≤ q → q < R.length * 6 → cur[q]? = (slotCells R)[q]?
theorem take_slot {R : List SlotR} {j : Nat} (h : j < R.length) : R.take (j + 1) = R.take j ++ [slAt R j] := by rw [List.take_succ_eq_append_getElem h, slAt_eq h]
theorem filter_all {f : SlotR → Bool} : ∀ {l : List SlotR}, (∀ r ∈ l, f r = true) → l.filter f = l
  | [], _ => rfl
  | x :: l, h => by rw [List.filter_cons_of_pos (h x (by simp)), filter_all fun r hr => h r (List.mem_cons_of_mem _ hr)]
theorem DelS.start {f : SlotR → Bool} {R : List SlotR} {cap k : Nat} {cur : List Value} (hk : k < R.length) (hb : ∀ j, j < k → f (slAt R j) = true) (hn : f (slAt R k) = false)
    (hl : cur.length = cap * 6) (hc : cur.take (R.length * 6) = slotCells R) : DelS f R cap k (k + 1) cur := by
  have e : (R.take (k + 1)).filter f = R.take k := by
    rw [take_slot hk, List.filter_append, List.filter_cons_of_neg (by simp [hn]), List.filter_nil, List.append_nil]
    refine filter_all fun r hr => ?_
    obtain ⟨j, hj, rfl⟩ := List.getElem_of_mem hr
    rw [List.length_take] at hj
    rw [List.getElem_take, ← slAt_eq (by omega)]
    exact hb j (by omega)
  refine ⟨by rw [e, List.length_take]; omega, by omega, hl, ?_, fun q h1 h2 => ?_⟩
  · rw [e, ← slotCells_take R k (by omega), ← hc, List.take_take, Nat.min_eq_left (by omega)]
  · rw [← hc, List.getElem?_take, if_pos h2]
theorem DelS.no {f : SlotR → Bool} {R : List SlotR} {cap i j : Nat} {cur : List Value} (h : DelS f R cap i j cur) (hj : j < R.length) (hn : f (slAt R j) = false) : DelS f R cap i (j + 1) cur := by
  have e : (R.take (j + 1)).filter f = (R.take j).filter f := by
    rw [take_slot hj, List.filter_append, List.filter_cons_of_neg (by simp [hn]), List.filter_nil, List.append_nil]
  exact ⟨by rw [e]; exact h.num, by have := h.lt; omega, h.len, by rw [e]; exact h.kept, fun q h1 h2 => h.rest q (by omega) h2⟩
theorem slotOne_len (r : SlotR) : (slotOne r).length = 6 := rfl
theorem DelS.yes {f : SlotR → Bool} {R : List SlotR} {cap i j : Nat} {cur : List Value} (h : DelS f R cap i j cur) (hj : j < R.length) (hc : R.length ≤ cap) (hn : f (slAt R j) = true) :
    DelS f R cap (i + 1) (j + 1) (splice cur (i * 6) (slotOne (slAt R j))) := by
  have e : (R.take (j + 1)).filter f = (R.take j).filter f ++ [slAt R j] := by
    rw [take_slot hj, List.filter_append, List.filter_cons_of_pos hn, List.filter_nil]
  have hlt := h.lt
  have hl := h.len
  have hfit : i * 6 + (slotOne (slAt R j)).length ≤ cur.length := by rw [slotOne_len, hl]; omega
  refine ⟨by rw [e, List.length_append, ← h.num]; rfl, by omega, by rw [length_splice _ _ _ hfit]; exact hl, ?_, fun q h1 h2 => ?_⟩
  · rw [e, slotCells_app, ← h.kept]
    unfold splice
    rw [← List.append_assoc]
    have : slotCells [slAt R j] = slotOne (slAt R j) := by simp [slotCells]
    rw [this]
    apply List.take_left'
    rw [List.length_append, slotOne_len, List.length_take]
    omega
  · rw [← h.rest q (by omega) h2]
    unfold splice
    rw [List.getElem?_append_right (by rw [List.length_take]; omega), List.getElem?_append_right (by rw [List.length_take, slotOne_len]; omega), List.getElem?_drop]
    congr 1
    rw [List.length_take, slotOne_len]
    omega
theorem DelS.done {f : SlotR → Bool} {R : List SlotR} {cap i j : Nat} {cur : List Value} (h : DelS f R cap i j cur) (hj : j = R.length) : i = (R.filter f).length ∧ cur.take (i * 6) = slotCells (R.filter f) := by
  subst hj
  have h1 := h.num
  have h2 := h.kept
  rw [List.take_length] at h1 h2
  exact ⟨h1, h2⟩
theorem DelS.at {f : SlotR → Bool} {R : List SlotR} {cap i j : Nat} {cur : List Value} (h : DelS f R cap i j cur) (hj : j < R.length) {w : World} {g e : Nat} (hg : w.heap[g]? = some (.cells cur.toArray e (0, 0))) {q : Nat} (hq : q < 6) :
    w.cell? ⟨g, j * 6 + q, none⟩ = (slotOne (slAt R j))[q]? := by
  rw [cell_of_row w g _ cur.toArray e (0, 0) hg]
  have := h.rest (j * 6 + q) (by omega) (by omega)
  rw [slotCells_at R j hj q hq] at this
  simpa using this
theorem Ext.put {w0 w w' : World} {g : Nat} (h : Ext w0 w) (hg : w.grownBy w' (some g)) (hb : w0.heap.size ≤ g) : Ext w0 w' :=
  Below.grown h hg h.size (fun k hk => by injection hk with hk; omega)
end Go.Dm
namespace Go.Proofs.Ytibimbcjnjefdaa
open Go.RowKit Go.Dm

theorem Try.oneSlot : ∀ i z, Try.prog.info? 47 = some i → i.zero = some z → ∀ u ∈ z.cells, u.oneCell' = true := by
  have h : (Try.prog.info? 47).map (fun i => i.zero.map fun z => z.cells.all (·.oneCell')) = some (some true) := by kernel_rfl
  intro i z hi hz
  rw [hi] at h
  simp only [Option.map_some, hz, Option.some.injEq] at h
  exact Array.all_eq_true_iff_forall_mem.1 h

set_option maxHeartbeats 4000000 in
set_option maxRecDepth 100000 in
theorem kdelete_w (T : List RowS) (R : List SlotR) (v vx : Value) (c o : Nat) (w0 w : World) (hT : T.length ≤ 35184372088832) (hf : FitR T) (ht : Terms w0 vx T) (hm : R.length ≤ 35184372088832) (hk : FitK R)
    (hlab : ∀ r ∈ R, Pairs w0 r.2.2.1 r.2.2.2) (hok : ∀ r ∈ R, OkV r.2.1) (hE : Ext w0 w) (ho : w.ownsRow w0.heap.size 47 6 v R.length (slotCells R)) (hcl : c < w0.heap.size) (hc : w0.cell? ⟨c, o, none⟩ = some vx) :
    Calls Try.prog 35 #[v, .func (.func 37) #[] #[.pointer (some ⟨c, o, none⟩)]] w
      fun e w' => ∃ v', e = .returned v' ∧ w'.ownsRow w0.heap.size 47 6 v' (R.filter (letR T)).length (slotCells (R.filter (letR T))) ∧ Ext w0 w' := by
  have hcE : ∀ U, Ext w0 U → c < U.heap.size ∧ U.cell? ⟨c, o, none⟩ = some vx := fun U hU => ⟨Nat.lt_of_lt_of_le hcl hU.size, by rw [hU.cell (by exact hcl)]; exact hc⟩
  have hx : Slots w v R := Slots.of_row ho rfl (fun r hr => (hlab r hr).ext hE) hok
  have hx1 := hx.one
  have C0 := kindex_w T R v vx c o w hT hf (ht.ext hE) hm hk hx (hcE w hE).1 (hcE w hE).2
  obtain ⟨hlen, hrow⟩ := ho
  rcases hrow with ⟨rfl, hR0⟩ | ⟨g, cap, cur0, rfl, hbg, hg0, hnc, hcm, hcl0, htk0⟩
  · have hR : R = [] := List.eq_nil_of_length_eq_zero hR0
    subst hR
    go_enter Try.func35, Try.ntmps35
    go_wp2_with fail
    refine C0.mono ?_; rintro e w1 ⟨i, rfl, hF, h1⟩
    have hi : i = -1 := by
      rcases hF with ⟨h, _⟩ | ⟨k, _, h, _⟩
      · exact h
      · exact absurd h (by simp)
    subst hi
    go_wp2
    go_ret
    exact ⟨_, rfl, World.ownsRow_nil _ _ _ _, hE.trans h1⟩
  · obtain ⟨cl, hcl1⟩ : ∃ cl, cl = cur0.toList := ⟨_, rfl⟩
    have hg1 : w.heap[g]? = some (.cells cl.toArray 47 (0, 0)) := by rw [hcl1, Array.toArray_toList]; exact hg0
    have hcl2 : cl.length = cap * 6 := by rw [hcl1]; simpa using hcl0
    rw [← hcl1] at htk0
    have hown0 : ∀ U, Ext w U → U.ownsRow w0.heap.size 47 6 (.slice (some ⟨g, 0, none⟩) R.length cap) R.length (slotCells R) := fun U hU => Ext.row ⟨hlen, Or.inr ⟨g, cap, cur0, rfl, hbg, hg0, hnc, hcm, hcl0, by rw [← hcl1]; exact htk0⟩⟩ hU
    replace hown0 := Lib.hid hown0
    clear hcl0 hg0 hcl1 hlen hx
    go_enter Try.func35, Try.ntmps35
    go_wp2_with fail
    refine C0.mono ?_; rintro e w1 ⟨i, rfl, hF, h1⟩
    clear C0
    have hE1 := hE.trans h1
    have hg2 := Ext.heap hg1 h1
    rcases hF with ⟨rfl, hall⟩ | ⟨k, rfl, hkl, hkb, hkn⟩
    · have hfl := Lib.hid (filter_all hall)
      go_wp2
      go_ret
      exact ⟨_, rfl, by rw [hfl.out]; exact hown0.out _ h1, hE1⟩
    · have hD := Lib.hid (DelS.start hkl hkb hkn hcl2 htk0)
      clear hkb hkn hown0 htk0 hcl2 hg1
      obtain ⟨K, hK⟩ : ∃ K, K = k + 1 := ⟨_, rfl⟩
      have hkw : IntKind.i64.wrap ((k : Int) + 1) = (K : Int) := by rw [IntKind.wrap_i64]; omega
      have hkm : ((k : Int) == -1) = false := beq_eq_false_iff_ne.2 (by omega)
      have hkK : k < K := by omega
      have hKR : K ≤ R.length := by omega
      rw [← hK] at hD
      clear hK
      go_wp2
      go_loopw [5, 6] (fun i' j' wr => ∃ (i j : Nat) (cur : List Value), i' = .int .i64 i ∧ j' = .int .i64 j ∧ i < j ∧ j ≤ R.length ∧ Ext w0 wr ∧ wr.heap[g]? = some (.cells cur.toArray 47 (0, 0)) ∧ Hid (DelS (letR T) R cap i j cur)) (fun _ j' _ => R.length - (intOf j').toNat)
      case atStart => exact ⟨k, K, cl, rfl, rfl, hkK, hKR, hE1, hg2, hD⟩
      case round =>
        clear hkw hD hkl h1 hg2 hkK hKR
        obtain ⟨i, j, cur, rfl, rfl, hij, hjn, hx, hg, HD⟩ := hrel
        by_cases hlt : j < R.length
        · have C := fun U (hU : Ext wr U) => fitc_w T (slAt R j).1 (vG (slAt R j).2.1) (slAt R j).2.2.1 (slAt R j).2.2.2 vx c o U hT hf (ht.ext (hx.trans hU)) (hk _ (slAt_mem hlt)) ((hlab _ (slAt_mem hlt)).ext (hx.trans hU)) (hcE _ (hx.trans hU)).1 (hcE _ (hx.trans hU)).2
          have c0 := HD.out.at hlt hg (q := 0) (by omega)
          have c1 := HD.out.at hlt hg (q := 1) (by omega)
          have c2 := HD.out.at hlt hg (q := 2) (by omega)
          have c3 := HD.out.at hlt hg (q := 3) (by omega)
          have c4 := HD.out.at hlt hg (q := 4) (by omega)
          have c5 := HD.out.at hlt hg (q := 5) (by omega)
          simp only [slotOne, vAt, List.getElem?_cons_zero, List.getElem?_cons_succ, Nat.add_zero] at c0 c1 c2 c3 c4 c5
          obtain ⟨pq, pc, hpe, _, _⟩ := (hlab _ (slAt_mem hlt)).shape
          have hNo := Lib.hid (fun h => HD.out.no hlt h)
          have hYes := Lib.hid (fun h => HD.out.yes hlt hnc h)
          have hone : ∀ u ∈ slotOne (slAt R j), u.oneCell' = true := fun u hu => hx1 u (List.mem_flatMap.2 ⟨_, slAt_mem hlt, hu⟩)
          have hfit : i * 6 + 6 ≤ cur.length := by have h1 := HD.out.len; omega
          rw [show matchS (T.map rowT) (slAt R j).2.2.2 = letR T (slAt R j) from rfl] at C
          clear HD
          generalize hdd : letR T (slAt R j) = d at C hNo hYes
          clear hdd
          generalize slAt R j = r at C c0 c1 c2 c3 c4 c5 hpe hYes hone
          obtain ⟨node, vv, lv, ls⟩ := r
          simp only at C c0 c1 c2 c3 c4 c5 hpe
          subst hpe
          simp only [slotOne, vAt] at hYes hone
          generalize vG vv = A at C c0 c1 c2 c3 c4 c5 hYes hone
          replace C := Lib.hid C
          replace hone := Lib.hid hone
          cases d with
          | false =>
            have hN := hNo.out rfl
            replace hN := Lib.hid hN
            clear hNo hYes hone
            go_wp2_with fail
            refine (C.out _ ((Ext.refl _).alloc _)).mono ?_; rintro e w3 ⟨rfl, h3⟩
            have hX3 : Ext wr w3 := ((Ext.refl _).alloc _).trans h3
            have hg3 := Ext.heap hg hX3
            go_wp2
            go_roundw
            case rel => exact ⟨i, j + 1, cur, rfl, by go_num, by omega, by omega, hx.trans hX3, hg3, hN⟩
            case measure => simp [intOf]; omega
          | true =>
            have hN := hYes.out rfl
            replace hN := Lib.hid hN
            clear hNo hYes
            go_wp2_with fail
            refine (C.out _ ((Ext.refl _).alloc _)).mono ?_; rintro e w3 ⟨rfl, h3⟩
            have hX3 : Ext wr w3 := ((Ext.refl _).alloc _).trans h3
            have hg3 := Ext.heap hg hX3
            obtain ⟨gs, gb⟩ := h3.box
            have g0 := gb 0 _ rfl
            have g1 := gb 1 _ rfl
            have g2 := gb 2 _ rfl
            have g3 := gb 3 _ rfl
            have g4 := gb 4 _ rfl
            have g5 := gb 5 _ rfl
            clear gb
            go_wp2_with (refine wpList_store_at rfl _ _ _ rfl (g := g) (off := i * 6) rfl rfl rfl (by kernel_rfl) hg3 hfit hone.out ?_; intro w4 hg4 hgr)
            go_roundw
            case rel => exact ⟨i + 1, j + 1, _, by go_num, by go_num, by omega, by omega, (hx.trans hX3).put hgr hbg, hg4, hN⟩
            case measure => simp [intOf]; omega
        · obtain rfl : j = R.length := by omega
          obtain ⟨hi, htk⟩ := HD.out.done rfl
          have hlc := HD.out.len
          have hsl := fun w => run_slice_low_at (P := Try.prog) 22 47 6 Try.slSlot.ht Try.slSlot.hs g 0 R.length cap i (by omega) (by omega) w
          rw [Nat.zero_add] at hsl
          have hsh := fun w => run_slice_high (P := Try.prog) 22 47 6 Try.slSlot.ht Try.slSlot.hs (some ⟨g, 0, none⟩) R.length cap i (by omega) w
          replace hi := Lib.hid hi
          replace htk := Lib.hid htk
          clear HD
          go_wp2_with (refine wpList_clear rfl _ Try.slSlot rfl rfl hg (fun _ => rfl) (by omega) Try.oneSlot ?_; intro w4 cur4 hg4 hl4 ht4 hgr4)
          go_ret
          refine ⟨_, rfl, ?_, hx.put hgr4 hbg⟩
          rw [← hi.out]
          refine ⟨by rw [← htk.out, List.length_take]; omega, Or.inr ⟨g, cap, cur4.toArray, rfl, hbg, hg4, by omega, hcm, by rw [List.size_toArray]; omega, ?_⟩⟩
          rw [← htk.out, ← ht4]

end Go.Proofs.Ytibimbcjnjefdaa
