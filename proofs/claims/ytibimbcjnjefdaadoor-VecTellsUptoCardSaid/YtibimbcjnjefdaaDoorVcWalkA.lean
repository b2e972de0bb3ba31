/- Chapter 3: the walks of what is made of two amounts: both, Sub. -/
import Derived.Test.YtibimbcjnjefdaaDoorVcPure
import Derived.Test.YtibimbcjnjefdaaDoorSlices
import Derived.Test.YtibimbcjnjefdaaDoorProg
import Derived.IntWalk
import Derived.Shelf.Spec.BitsCarry
namespace Go.Dm
open Go Go.RowKit

/-- A block that holds an amount, and may be written. -/
structure VBox (b : Nat) (A : Nat → Nat) (w : World) : Prop where
  lt : b < w.heap.size
  cell : ∀ j, j < 4 → w.cell? ⟨b, j, none⟩ = some (.int .u64 (A j : Nat))
  free : ∀ j, j < 4 → w.frozen? ⟨b, j, none⟩ = false
theorem VBox.ext {b : Nat} {A : Nat → Nat} {w w' : World} (h : VBox b A w) (hx : Ext w w') : VBox b A w' :=
  ⟨Nat.lt_of_lt_of_le h.lt hx.size, fun j hj => by rw [hx.cell (by exact h.lt)]; exact h.cell j hj, fun j hj => by rw [hx.frozen (by exact h.lt)]; exact h.free j hj⟩
theorem VBox.far {b c i : Nat} {A : Nat → Nat} {w : World} (h : VBox b A w) (hbc : c ≠ b) (u : Value) : VBox b A (w.setCell ⟨c, i, none⟩ u) :=
  ⟨by rw [World.size_setCell]; exact h.lt, fun j hj => by
    have hne : (⟨c, i, none⟩ : Addr) ≠ ⟨b, j, none⟩ := by intro e; injection e with e; exact hbc e
    rw [World.cell?_setCell_other (h := hne)]; exact h.cell j hj, fun j hj => by rw [World.frozen?_setCell]; exact h.free j hj⟩
theorem VBox.set {b k v : Nat} {A : Nat → Nat} {w : World} (h : VBox b A w) (hk : k < 4) : VBox b (fun j => if j = k then v else A j) (w.setCell ⟨b, k, none⟩ (.int .u64 (v : Nat))) :=
  ⟨by rw [World.size_setCell]; exact h.lt, fun j hj => by
    by_cases e : j = k
    · subst e
      simp only [if_true]
      first | exact World.cell?_setCell_same _ _ _ (h.cell j hj) | exact World.cell?_setCell_same _ _ (h.cell j hj)
    · have hne : (⟨b, k, none⟩ : Addr) ≠ ⟨b, j, none⟩ := by intro e'; injection e' with _ e'; exact e e'.symm
      rw [World.cell?_setCell_other (h := hne), if_neg e]; exact h.cell j hj, fun j hj => by rw [World.frozen?_setCell]; exact h.free j hj⟩
theorem VBox.congr {b : Nat} {A B : Nat → Nat} {w : World} (h : VBox b A w) (e : ∀ j, j < 4 → A j = B j) : VBox b B w :=
  ⟨h.lt, fun j hj => by rw [← e j hj]; exact h.cell j hj, h.free⟩
theorem VBox.new (w : World) (A : Nat → Nat) (e : TypeId) : VBox w.heap.size A (w.alloc (.cells #[.int .u64 (A 0 : Nat), .int .u64 (A 1 : Nat), .int .u64 (A 2 : Nat), .int .u64 (A 3 : Nat)] e)) :=
  ⟨by simp, fun j hj => by
    match j, hj with
    | 0, _ => simp
    | 1, _ => simp
    | 2, _ => simp
    | 3, _ => simp, fun j hj => by
    match j, hj with
    | 0, _ => simp
    | 1, _ => simp
    | 2, _ => simp
    | 3, _ => simp⟩

def allV (p : Nat → Nat → Bool) (A B : Nat → Nat) : Bool := p (A 0) (B 0) && p (A 1) (B 1) && p (A 2) (B 2) && p (A 3) (B 3)
theorem allV_no {p : Nat → Nat → Bool} {A B : Nat → Nat} {k : Nat} (hk : k < 4) (h : p (A k) (B k) = false) : allV p A B = false := by
  unfold allV
  match k, hk with
  | 0, _ => simp [h]
  | 1, _ => simp [h]
  | 2, _ => simp [h]
  | 3, _ => simp [h]
theorem allV_yes {p : Nat → Nat → Bool} {A B : Nat → Nat} (h : ∀ k, k < 4 → p (A k) (B k) = true) : allV p A B = true := by
  unfold allV; simp [h 0 (by omega), h 1 (by omega), h 2 (by omega), h 3 (by omega)]
end Go.Dm
namespace Go.Proofs.YtibimbcjnjefdaaDoor
open Go.RowKit Go.Dm

theorem idxVec (A : Nat → Nat) {k : Nat} (hk : k < 4) (w : World) :
    (Instr.index 24 (.agg #[.int .u64 (A 0 : Nat), .int .u64 (A 1 : Nat), .int .u64 (A 2 : Nat), .int .u64 (A 3 : Nat)]) (.int .i64 (k : Int))).run Tryd.prog w = .ok (.int .u64 (A k : Nat)) w :=
  match k, hk with
  | 0, _ => by kernel_rfl
  | 1, _ => by kernel_rfl
  | 2, _ => by kernel_rfl
  | 3, _ => by kernel_rfl

/-- What a function of two numbers does: it tells g where p, else 0 and false. -/
def Does (n : Nat) (g : Nat → Nat → Nat) (p : Nat → Nat → Bool) : Prop :=
  (∀ args w, (callFunc n args).run Tryd.prog w = .ok (.enter n args) w) ∧ ∀ (x y : Nat) (w : World), U64 x → U64 y → Calls Tryd.prog n #[.int .u64 (x : Nat), .int .u64 (y : Nat)] w fun e w' => e = .returned (.tuple #[.int .u64 ((if p x y then g x y else 0 : Nat) : Int), .bool (p x y)]) ∧ Ext w w'

set_option maxHeartbeats 4000000 in
set_option maxRecDepth 100000 in
theorem both_w (n : Nat) (g : Nat → Nat → Nat) (p : Nat → Nat → Bool) (hC : Does n g p) (A B : Nat → Nat) (hA : ∀ k, U64 (A k)) (hB : ∀ k, U64 (B k)) (w : World) :
    Calls Tryd.prog 32 #[vF A, vF B, .func (.func n) #[] #[]] w fun e w' => e = .returned (.tuple #[if allV p A B then vF (fun k => g (A k) (B k)) else vF (fun _ => 0), .bool (allV p A B)]) ∧ Ext w w' := by
  obtain ⟨hE, hC⟩ := hC
  have hno := fun k (hk : k < 4) h => allV_no (p := p) (A := A) (B := B) hk h
  have hyes := allV_yes (p := p) (A := A) (B := B)
  generalize allV p A B = d at *
  replace hno := Lib.hid hno
  replace hyes := Lib.hid hyes
  unfold vF
  go_enter Tryd.func32, Tryd.ntmps32
  go_wp2
  go_loopw [13] (fun i wr => ∃ k : Nat, k ≤ 4 ∧ i = .int .i64 k ∧ Ext w wr ∧ VBox w.heap.size (fun j => if j < k then g (A j) (B j) else A j) wr ∧ VBox (w.heap.size + 1) B wr ∧ VBox (w.heap.size + 1 + 1) (fun _ => 0) wr ∧ Hid (∀ j, j < k → p (A j) (B j) = true)) (fun i _ => 4 - (intOf i).toNat)
  case atStart =>
    refine ⟨0, by omega, rfl, (((Ext.refl w).alloc _).alloc _).alloc _, ((VBox.new w A _).ext (((Ext.refl _).alloc _).alloc _)).congr (fun j _ => by simp), ?_, ?_, fun j hj => by omega⟩
    · have h := VBox.new (w.alloc (.cells #[.int .u64 (A 0 : Nat), .int .u64 (A 1 : Nat), .int .u64 (A 2 : Nat), .int .u64 (A 3 : Nat)] 24)) B 24
      rw [World.size_alloc] at h
      exact h.ext ((Ext.refl _).alloc _)
    · have h := VBox.new ((w.alloc (.cells #[.int .u64 (A 0 : Nat), .int .u64 (A 1 : Nat), .int .u64 (A 2 : Nat), .int .u64 (A 3 : Nat)] 24)).alloc (.cells #[.int .u64 (B 0 : Nat), .int .u64 (B 1 : Nat), .int .u64 (B 2 : Nat), .int .u64 (B 3 : Nat)] 24)) (fun _ => 0) 24
      rw [World.size_alloc, World.size_alloc] at h
      exact h
  case round =>
    obtain ⟨k, hk, rfl, hb, v1, v2, v3, HP⟩ := hrel
    by_cases hlt : k < 4
    · have C := hC (A k) (B k) wr (hA k) (hB k)
      have hN := hno.out k hlt
      have hP2 : p (A k) (B k) = true → Hid (∀ j, j < k + 1 → p (A j) (B j) = true) := fun h j hj => by
        rcases Nat.lt_succ_iff_lt_or_eq.1 hj with h' | rfl
        · exact HP.out j h'
        · exact h
      have hst : ∀ w', VBox w.heap.size (fun j => if j < k then g (A j) (B j) else A j) w' → VBox w.heap.size (fun j => if j < k + 1 then g (A j) (B j) else A j) (w'.setCell ⟨w.heap.size, k, none⟩ (.int .u64 (g (A k) (B k) : Nat))) := fun w' h => (h.set hlt).congr fun j _ => by
        by_cases e : j = k
        · subst e; simp
        · by_cases h2 : j < k
          · simp [e, h2, Nat.lt_succ_of_lt h2]
          · have : ¬ j < k + 1 := by omega
            simp [e, h2, this]
      replace hst := Lib.hid hst
      have c2 := v2.cell k hlt
      have hix := fun w => idxVec A hlt w
      cases hp : p (A k) (B k) with
      | false =>
        have hd := hN hp
        subst hd
        clear hN hP2 hst
        rw [hp] at C
        simp only [Bool.false_eq_true, if_false] at C ⊢
        go_wp2_with fail
        refine C.mono ?_; rintro e w4 ⟨rfl, h1⟩
        have d0 := (v3.ext h1).cell 0 (by omega)
        have d1 := (v3.ext h1).cell 1 (by omega)
        have d2 := (v3.ext h1).cell 2 (by omega)
        have d3 := (v3.ext h1).cell 3 (by omega)
        have e0 := (v3.ext h1).free 0 (by omega)
        have e1 := (v3.ext h1).free 1 (by omega)
        have e2 := (v3.ext h1).free 2 (by omega)
        have e3 := (v3.ext h1).free 3 (by omega)
        go_wp2
        have z0 := ((((v3.ext h1).set (k := 0) (v := 0) (by omega)).set (k := 1) (v := 0) (by omega)).set (k := 2) (v := 0) (by omega)).set (k := 3) (v := 0) (by omega)
        have k0 := z0.cell 0 (by omega)
        have k1 := z0.cell 1 (by omega)
        have k2 := z0.cell 2 (by omega)
        have k3 := z0.cell 3 (by omega)
        simp at k0 k1 k2 k3
        refine bodyPost_ret (v := .tuple #[.agg #[.int .u64 0, .int .u64 0, .int .u64 0, .int .u64 0], .bool false]) (by simp [results, Tryd.results32, go_sem, k0, k1, k2, k3]) rfl ?_
        exact ⟨rfl, ((((hb.trans h1).setCell (p := ⟨w.heap.size + 1 + 1, 0, none⟩) (Nat.le_add_right _ 2) _).setCell (p := ⟨w.heap.size + 1 + 1, 1, none⟩) (Nat.le_add_right _ 2) _).setCell (p := ⟨w.heap.size + 1 + 1, 2, none⟩) (Nat.le_add_right _ 2) _).setCell (p := ⟨w.heap.size + 1 + 1, 3, none⟩) (Nat.le_add_right _ 2) _⟩
      | true =>
        replace hP2 := hP2 hp
        clear hN
        rw [hp] at C
        simp only [if_true] at C
        go_wp2_with fail
        refine C.mono ?_; rintro e w4 ⟨rfl, h1⟩
        have u1 := v1.ext h1
        have d0 := u1.cell _ hlt
        have e0 := u1.free _ hlt
        go_wp2
        go_roundw
        case rel => exact ⟨_, by omega, by go_num, (hb.trans h1).setCell (p := ⟨w.heap.size, _, none⟩) (Nat.le_refl _) _, hst.out _ u1, (v2.ext h1).far (by omega) _, (v3.ext h1).far (by omega) _, hP2⟩
        case measure => simp [intOf]; omega
    · obtain rfl : k = 4 := by omega
      have hd := hyes.out HP.out
      subst hd
      have u1 := v1.congr (B := fun j => g (A j) (B j)) (fun j hj => by simp [hj])
      have d0 := u1.cell 0 (by omega)
      have d1 := u1.cell 1 (by omega)
      have d2 := u1.cell 2 (by omega)
      have d3 := u1.cell 3 (by omega)
      have x0 := v3.cell 0 (by omega)
      have x1 := v3.cell 1 (by omega)
      have x2 := v3.cell 2 (by omega)
      have x3 := v3.cell 3 (by omega)
      have e0 := v3.free 0 (by omega)
      have e1 := v3.free 1 (by omega)
      have e2 := v3.free 2 (by omega)
      have e3 := v3.free 3 (by omega)
      go_wp2
      have z0 := (((v3.set (k := 0) (v := g (A 0) (B 0)) (by omega)).set (k := 1) (v := g (A 1) (B 1)) (by omega)).set (k := 2) (v := g (A 2) (B 2)) (by omega)).set (k := 3) (v := g (A 3) (B 3)) (by omega)
      have k0 := z0.cell 0 (by omega)
      have k1 := z0.cell 1 (by omega)
      have k2 := z0.cell 2 (by omega)
      have k3 := z0.cell 3 (by omega)
      simp at k0 k1 k2 k3
      refine bodyPost_ret (v := .tuple #[.agg #[.int .u64 (g (A 0) (B 0) : Nat), .int .u64 (g (A 1) (B 1) : Nat), .int .u64 (g (A 2) (B 2) : Nat), .int .u64 (g (A 3) (B 3) : Nat)], .bool true]) (by simp [results, Tryd.results32, go_sem, k0, k1, k2, k3]) rfl ?_
      exact ⟨rfl, (((hb.setCell (p := ⟨w.heap.size + 1 + 1, 0, none⟩) (Nat.le_add_right _ 2) _).setCell (p := ⟨w.heap.size + 1 + 1, 1, none⟩) (Nat.le_add_right _ 2) _).setCell (p := ⟨w.heap.size + 1 + 1, 2, none⟩) (Nat.le_add_right _ 2) _).setCell (p := ⟨w.heap.size + 1 + 1, 3, none⟩) (Nat.le_add_right _ 2) _⟩

theorem bitsSub (x y : Nat) (w : World) : (callFunc 52 #[.int .u64 (x : Nat), .int .u64 (y : Nat), .int .u64 0]).run Tryd.prog w =
    .ok (.value (.tuple #[.int .u64 (((x + 18446744073709551616 - y) % 18446744073709551616 : Nat) : Int), .int .u64 ((if x < y then 1 else 0 : Nat) : Int)])) w := by
  rw [run_callFunc_extern Tryd.func52 (by kernel_rfl) (by kernel_rfl) (by kernel_rfl) (e := sub64Entry) (by kernel_rfl), show (Value.int .u64 (0 : Int)) = Value.int .u64 ((0 : Nat) : Int) from rfl, run_sub64 x y 0 (by omega)]
  rfl

set_option maxHeartbeats 400000 in
theorem wsub_w : Does 35 (fun x y => x - y) (fun x y => decide (y ≤ x)) := by
  refine ⟨fun _ _ => by kernel_rfl, fun x y w hx hy => ?_⟩
  have hb := bitsSub x y
  unfold U64 at hx hy
  by_cases h : y ≤ x
  · rw [if_neg (by omega), show (x + 18446744073709551616 - y) % 18446744073709551616 = x - y by omega] at hb
    simp only [h, decide_true, if_true]
    go_enter Tryd.func35, Tryd.ntmps35
    go_wp2
    go_ret2
    exact ⟨rfl, Ext.refl _⟩
  · rw [if_pos (by omega)] at hb
    simp only [h, decide_false, Bool.false_eq_true, if_false]
    go_enter Tryd.func35, Tryd.ntmps35
    go_wp2
    go_ret2
    exact ⟨rfl, Ext.refl _⟩

end Go.Proofs.YtibimbcjnjefdaaDoor
