/- Texts one behind the other: Chapter 3: the walks of Add, Fits, Times; Chapter 3: the walk of Times; Chapter 3: the plain laws of order, sums, fits. No program in sight; Chapter 3: the plain laws of sums, times, holds. No program in sight. -/
import Derived.Test.YthmhalcloogniaaGreatDoorB15
import Derived.Test.YthmhalcloogniaaGreatDoorShelf
namespace Go.Dm
open Go Go.RowKit
theorem allV_add (a b : Vc) : allV (fun x y => decide (x + y < 18446744073709551616)) (vG a) (vG b) = vaddOk a b := by
  unfold allV vaddOk vG
  simp [List.range_succ, Bool.and_assoc]
theorem vadd_at {a b : Vc} {k : Nat} (hk : k < 4) : vG (vadd a b) k = vG a k + vG b k := by
  unfold vG vadd
  simp [hk]
def vtimesOk (a : Vc) (n : Nat) : Bool := (List.range 4).all fun k => decide (vG a k * n < 18446744073709551616)
def vtimes (a : Vc) (n : Nat) : Vc := (List.range 4).map fun k => vG a k * n
theorem allV_times (a : Vc) (B : Nat → Nat) (n : Nat) : allV (fun x _ => decide (x * n < 18446744073709551616)) (vG a) B = vtimesOk a n := by
  unfold allV vtimesOk
  simp [List.range_succ, Bool.and_assoc]
theorem vtimes_at {a : Vc} {n k : Nat} (hk : k < 4) : vG (vtimes a n) k = vG a k * n := by
  show (vtimes a n).getD k 0 = _
  unfold vtimes
  simp [hk]
end Go.Dm
namespace Go.Proofs.YthmhalcloogniaaGreatDoor
open Go.RowKit Go.Dm

theorem bitsAdd (x y : Nat) (w : World) : (callFunc 108 #[.int .u64 (x : Nat), .int .u64 (y : Nat), .int .u64 0]).run Tryz.prog w =
    .ok (.value (.tuple #[.int .u64 (((x + y) % 18446744073709551616 : Nat) : Int), .int .u64 (((x + y) / 18446744073709551616 : Nat) : Int)])) w := by
  rw [run_callFunc_extern Tryz.func108 (by kernel_rfl) (by kernel_rfl) (by kernel_rfl) (e := add64Entry) (by kernel_rfl), run_add64 (x : Int) (y : Int) 0 (by omega) (by omega) (by omega) (by omega)]
  simp

set_option maxHeartbeats 400000 in
theorem wadd_w : Does 75 (fun x y => x + y) (fun x y => decide (x + y < 18446744073709551616)) := by
  refine ⟨fun _ _ => by kernel_rfl, fun x y w hx hy => ?_⟩
  have hb := bitsAdd x y
  unfold U64 at hx hy
  by_cases h : x + y < 18446744073709551616
  · rw [show (x + y) / 18446744073709551616 = 0 by omega, show (x + y) % 18446744073709551616 = x + y by omega] at hb
    simp only [h, decide_true, if_true]
    go_enter Tryz.func75, Tryz.ntmps75
    go_wp2
    go_ret2
    exact ⟨rfl, Ext.refl _⟩
  · rw [show (x + y) / 18446744073709551616 = 1 by omega] at hb
    simp only [h, decide_false, Bool.false_eq_true, if_false]
    go_enter Tryz.func75, Tryz.ntmps75
    go_wp2
    go_ret2
    exact ⟨rfl, Ext.refl _⟩

set_option maxHeartbeats 1000000 in
theorem vadd_w (a b : Vc) (ha : OkV a) (hb : OkV b) (w : World) :
    Calls Tryz.prog 29 #[vVal a, vVal b] w fun e w' => e = .returned (.tuple #[vVal (vOr (vaddOk a b) (vadd a b)), .bool (vaddOk a b)]) ∧ Ext w w' := by
  have C := fun w1 => both_w _ _ _ wadd_w (vG a) (vG b) ha.u64 hb.u64 w1
  rw [allV_add, vG_or _ (fun k => vG a k + vG b k) (vadd a b) (fun k hk => vadd_at hk)] at C
  unfold vVal
  generalize vG (vOr (vaddOk a b) (vadd a b)) = R at C ⊢
  generalize vaddOk a b = d at C ⊢
  generalize vG a = A at C ⊢
  generalize vG b = B at C ⊢
  have hE : Ext w (((w.alloc (.cells #[.int .u64 (A 0 : Nat), .int .u64 (A 1 : Nat), .int .u64 (A 2 : Nat), .int .u64 (A 3 : Nat)] 24)).alloc (.cells #[.int .u64 (B 0 : Nat), .int .u64 (B 1 : Nat), .int .u64 (B 2 : Nat), .int .u64 (B 3 : Nat)] 24)).alloc (.cells #[.int .u64 (0 : Nat), .int .u64 (0 : Nat), .int .u64 (0 : Nat), .int .u64 (0 : Nat)] 24)) := (((Ext.refl w).alloc _).alloc _).alloc _
  have hv : VBox (w.heap.size + 1 + 1) (fun _ => 0) (((w.alloc (.cells #[.int .u64 (A 0 : Nat), .int .u64 (A 1 : Nat), .int .u64 (A 2 : Nat), .int .u64 (A 3 : Nat)] 24)).alloc (.cells #[.int .u64 (B 0 : Nat), .int .u64 (B 1 : Nat), .int .u64 (B 2 : Nat), .int .u64 (B 3 : Nat)] 24)).alloc (.cells #[.int .u64 (0 : Nat), .int .u64 (0 : Nat), .int .u64 (0 : Nat), .int .u64 (0 : Nat)] 24)) := by
    have h := VBox.new ((w.alloc (.cells #[.int .u64 (A 0 : Nat), .int .u64 (A 1 : Nat), .int .u64 (A 2 : Nat), .int .u64 (A 3 : Nat)] 24)).alloc (.cells #[.int .u64 (B 0 : Nat), .int .u64 (B 1 : Nat), .int .u64 (B 2 : Nat), .int .u64 (B 3 : Nat)] 24)) (fun _ => 0) 24
    rw [World.size_alloc, World.size_alloc] at h
    exact h
  unfold vF at C ⊢
  replace C := Lib.hid C
  go_enter Tryz.func29, Tryz.ntmps29
  go_wp2_with fail
  refine (C.out _).mono ?_; rintro e w1 ⟨rfl, h1⟩
  have v1 := hv.ext h1
  have d0 := v1.cell 0 (by omega)
  have d1 := v1.cell 1 (by omega)
  have d2 := v1.cell 2 (by omega)
  have d3 := v1.cell 3 (by omega)
  have e0 := v1.free 0 (by omega)
  have e1 := v1.free 1 (by omega)
  have e2 := v1.free 2 (by omega)
  have e3 := v1.free 3 (by omega)
  go_wp2
  have z0 := (((v1.set (k := 0) (v := R 0) (by omega)).set (k := 1) (v := R 1) (by omega)).set (k := 2) (v := R 2) (by omega)).set (k := 3) (v := R 3) (by omega)
  have k0 := z0.cell 0 (by omega)
  have k1 := z0.cell 1 (by omega)
  have k2 := z0.cell 2 (by omega)
  have k3 := z0.cell 3 (by omega)
  simp at k0 k1 k2 k3
  refine bodyPost_ret (v := .tuple #[.agg #[.int .u64 (R 0 : Nat), .int .u64 (R 1 : Nat), .int .u64 (R 2 : Nat), .int .u64 (R 3 : Nat)], .bool d]) (by simp [results, Tryz.results29, go_sem, k0, k1, k2, k3]) rfl ?_
  exact ⟨rfl, ((((hE.trans h1).setCell (p := ⟨w.heap.size + 1 + 1, 0, none⟩) (Nat.le_add_right _ 2) _).setCell (p := ⟨w.heap.size + 1 + 1, 1, none⟩) (Nat.le_add_right _ 2) _).setCell (p := ⟨w.heap.size + 1 + 1, 2, none⟩) (Nat.le_add_right _ 2) _).setCell (p := ⟨w.heap.size + 1 + 1, 3, none⟩) (Nat.le_add_right _ 2) _⟩

theorem wmul_w (x y : Nat) (hx : U64 x) (hy : U64 y) (w : World) :
    Calls Tryz.prog 77 #[.int .u64 (x : Nat), .int .u64 (y : Nat)] w fun e w' => e = .returned (.tuple #[.int .u64 ((if decide (x * y < 18446744073709551616) then x * y else 0 : Nat) : Int), .bool (decide (x * y < 18446744073709551616))]) ∧ Ext w w' := by
  have C := Tryz.bits_Mul64 x y hx hy
  by_cases h : x * y < 18446744073709551616
  · rw [Nat.div_eq_of_lt h, Nat.mod_eq_of_lt h] at C
    simp only [h, decide_true, if_true]
    generalize x * y = z at *
    replace C := Lib.hid C
    go_enter Tryz.func77, Tryz.ntmps77
    go_wp2_with fail
    refine (C.out _).mono ?_; rintro e w1 ⟨rfl, rfl⟩
    go_wp2
    go_ret2
    exact ⟨rfl, Ext.refl _⟩
  · have h2 : 0 < x * y / 18446744073709551616 := Nat.div_pos (by omega) (by omega)
    simp only [h, decide_false, Bool.false_eq_true, if_false]
    generalize x * y / 18446744073709551616 = z at *
    generalize x * y % 18446744073709551616 = z2 at *
    have h3 : ¬ ((z : Int) = 0) := by omega
    replace C := Lib.hid C
    go_enter Tryz.func77, Tryz.ntmps77
    go_wp2_with fail
    refine (C.out _).mono ?_; rintro e w1 ⟨rfl, rfl⟩
    go_wp2
    go_ret2
    exact ⟨rfl, Ext.refl _⟩

theorem times1_w (x y m c : Nat) (w : World) (hx : U64 x) (hm : U64 m) (_hc : c < w.heap.size) (hcc : w.cell? ⟨c, 0, none⟩ = some (.int .u64 (m : Nat))) :
    Calls Tryz.prog 76 #[.int .u64 (x : Nat), .int .u64 (y : Nat), .pointer (some ⟨c, 0, none⟩)] w fun e w' => e = .returned (.tuple #[.int .u64 ((if decide (x * m < 18446744073709551616) then x * m else 0 : Nat) : Int), .bool (decide (x * m < 18446744073709551616))]) ∧ Ext w w' := by
  have C := wmul_w x m hx hm w
  generalize decide (x * m < 18446744073709551616) = d at *
  generalize (if d then x * m else 0 : Nat) = z at *
  replace C := Lib.hid C
  go_enter Tryz.func76, Tryz.ntmps76
  go_wp2_with fail
  refine C.out.mono ?_; rintro e w1 ⟨rfl, h1⟩
  go_wp2
  go_ret2
  exact ⟨rfl, h1⟩

end Go.Proofs.YthmhalcloogniaaGreatDoor

namespace Go.Proofs.YthmhalcloogniaaGreatDoor
open Go.RowKit Go.Dm

set_option maxHeartbeats 4000000 in
set_option maxRecDepth 100000 in
theorem bothT_w (c m : Nat) (hm : U64 m) (A B : Nat → Nat) (hA : ∀ k, U64 (A k)) (w : World) (hc : c < w.heap.size) (hcc : w.cell? ⟨c, 0, none⟩ = some (.int .u64 (m : Nat))) :
    Calls Tryz.prog 74 #[vF A, vF B, .func (.func 76) #[] #[.pointer (some ⟨c, 0, none⟩)]] w fun e w' => e = .returned (.tuple #[if allV (fun x _ => decide (x * m < 18446744073709551616)) A B then vF (fun k => A k * m) else vF (fun _ => 0), .bool (allV (fun x _ => decide (x * m < 18446744073709551616)) A B)]) ∧ Ext w w' := by
  have hC := fun (x y : Nat) (U : World) hx h1 h2 => times1_w x y m c U hx hm h1 h2
  have hno := fun k (hk : k < 4) h => allV_no (p := fun x _ => decide (x * m < 18446744073709551616)) (A := A) (B := B) hk h
  have hyes := allV_yes (p := fun x _ => decide (x * m < 18446744073709551616)) (A := A) (B := B)
  generalize allV (fun x _ => decide (x * m < 18446744073709551616)) A B = d at *
  replace hno := Lib.hid hno
  replace hyes := Lib.hid hyes
  unfold vF
  go_enter Tryz.func74, Tryz.ntmps74
  go_wp2
  go_loopw [13] (fun i wr => ∃ k : Nat, k ≤ 4 ∧ i = .int .i64 k ∧ Ext w wr ∧ VBox w.heap.size (fun j => if j < k then A j * m else A j) wr ∧ VBox (w.heap.size + 1) B wr ∧ VBox (w.heap.size + 1 + 1) (fun _ => 0) wr ∧ Hid (∀ j, j < k → decide (A j * m < 18446744073709551616) = true)) (fun i _ => 4 - (intOf i).toNat)
  case atStart =>
    refine ⟨0, by omega, rfl, (((Ext.refl w).alloc _).alloc _).alloc _, ((VBox.new w A _).ext (((Ext.refl _).alloc _).alloc _)).congr (fun j _ => by simp), ?_, ?_, fun j hj => by omega⟩
    · have h := VBox.new (w.alloc (.cells #[.int .u64 (A 0 : Nat), .int .u64 (A 1 : Nat), .int .u64 (A 2 : Nat), .int .u64 (A 3 : Nat)] 24)) B 24
      rw [World.size_alloc] at h
      exact h.ext ((Ext.refl _).alloc _)
    · have h := VBox.new ((w.alloc (.cells #[.int .u64 (A 0 : Nat), .int .u64 (A 1 : Nat), .int .u64 (A 2 : Nat), .int .u64 (A 3 : Nat)] 24)).alloc (.cells #[.int .u64 (B 0 : Nat), .int .u64 (B 1 : Nat), .int .u64 (B 2 : Nat), .int .u64 (B 3 : Nat)] 24)) (fun _ => 0) 24
      rw [World.size_alloc, World.size_alloc] at h
      exact h
  case round =>
    obtain ⟨k, hk, rfl, hb, v1, v2, v3, HP⟩ := hrel
    by_cases hlt : k < 4
    · have C := hC (A k) (B k) wr (hA k) (Nat.lt_of_lt_of_le hc hb.size) (by rw [hb.cell (by exact hc)]; exact hcc)
      have hN := hno.out k hlt
      have hP2 : decide (A k * m < 18446744073709551616) = true → Hid (∀ j, j < k + 1 → decide (A j * m < 18446744073709551616) = true) := fun h j hj => by
        rcases Nat.lt_succ_iff_lt_or_eq.1 hj with h' | rfl
        · exact HP.out j h'
        · exact h
      have hst : ∀ w', VBox w.heap.size (fun j => if j < k then A j * m else A j) w' → VBox w.heap.size (fun j => if j < k + 1 then A j * m else A j) (w'.setCell ⟨w.heap.size, k, none⟩ (.int .u64 (A k * m : Nat))) := fun w' h => (h.set hlt).congr fun j _ => by
        by_cases e : j = k
        · subst e; simp
        · by_cases h2 : j < k
          · simp [e, h2, Nat.lt_succ_of_lt h2]
          · have : ¬ j < k + 1 := by omega
            simp [e, h2, this]
      replace hst := Lib.hid hst
      have c2 := v2.cell k hlt
      have hix := fun w => idxVec A hlt w
      cases hp : decide (A k * m < 18446744073709551616) with
      | false =>
        have hd := hN hp
        subst hd
        clear hN hP2 hst
        rw [hp] at C
        simp only [Bool.false_eq_true, if_false] at C ⊢
        go_wp2_with fail
        refine C.mono ?_; rintro e w4 ⟨rfl, h1⟩
        have d0 := (v3.ext h1).cell 0 (by omega)
        have d1 := (v3.ext h1).cell 1 (by omega)
        have d2 := (v3.ext h1).cell 2 (by omega)
        have d3 := (v3.ext h1).cell 3 (by omega)
        have e0 := (v3.ext h1).free 0 (by omega)
        have e1 := (v3.ext h1).free 1 (by omega)
        have e2 := (v3.ext h1).free 2 (by omega)
        have e3 := (v3.ext h1).free 3 (by omega)
        go_wp2
        have z0 := ((((v3.ext h1).set (k := 0) (v := 0) (by omega)).set (k := 1) (v := 0) (by omega)).set (k := 2) (v := 0) (by omega)).set (k := 3) (v := 0) (by omega)
        have k0 := z0.cell 0 (by omega)
        have k1 := z0.cell 1 (by omega)
        have k2 := z0.cell 2 (by omega)
        have k3 := z0.cell 3 (by omega)
        simp at k0 k1 k2 k3
        refine bodyPost_ret (v := .tuple #[.agg #[.int .u64 0, .int .u64 0, .int .u64 0, .int .u64 0], .bool false]) (by simp [results, Tryz.results74, go_sem, k0, k1, k2, k3]) rfl ?_
        exact ⟨rfl, ((((hb.trans h1).setCell (p := ⟨w.heap.size + 1 + 1, 0, none⟩) (Nat.le_add_right _ 2) _).setCell (p := ⟨w.heap.size + 1 + 1, 1, none⟩) (Nat.le_add_right _ 2) _).setCell (p := ⟨w.heap.size + 1 + 1, 2, none⟩) (Nat.le_add_right _ 2) _).setCell (p := ⟨w.heap.size + 1 + 1, 3, none⟩) (Nat.le_add_right _ 2) _⟩
      | true =>
        replace hP2 := hP2 hp
        clear hN
        rw [hp] at C
        simp only [if_true] at C
        go_wp2_with fail
        refine C.mono ?_; rintro e w4 ⟨rfl, h1⟩
        have u1 := v1.ext h1
        have d0 := u1.cell _ hlt
        have e0 := u1.free _ hlt
        go_wp2
        go_roundw
        case rel => exact ⟨_, by omega, by go_num, (hb.trans h1).setCell (p := ⟨w.heap.size, _, none⟩) (Nat.le_refl _) _, hst.out _ u1, (v2.ext h1).far (by omega) _, (v3.ext h1).far (by omega) _, hP2⟩
        case measure => simp [intOf]; omega
    · obtain rfl : k = 4 := by omega
      have hd := hyes.out HP.out
      subst hd
      have u1 := v1.congr (B := fun j => A j * m) (fun j hj => by simp [hj])
      have d0 := u1.cell 0 (by omega)
      have d1 := u1.cell 1 (by omega)
      have d2 := u1.cell 2 (by omega)
      have d3 := u1.cell 3 (by omega)
      have x0 := v3.cell 0 (by omega)
      have x1 := v3.cell 1 (by omega)
      have x2 := v3.cell 2 (by omega)
      have x3 := v3.cell 3 (by omega)
      have e0 := v3.free 0 (by omega)
      have e1 := v3.free 1 (by omega)
      have e2 := v3.free 2 (by omega)
      have e3 := v3.free 3 (by omega)
      go_wp2
      have z0 := (((v3.set (k := 0) (v := A 0 * m) (by omega)).set (k := 1) (v := A 1 * m) (by omega)).set (k := 2) (v := A 2 * m) (by omega)).set (k := 3) (v := A 3 * m) (by omega)
      have k0 := z0.cell 0 (by omega)
      have k1 := z0.cell 1 (by omega)
      have k2 := z0.cell 2 (by omega)
      have k3 := z0.cell 3 (by omega)
      simp at k0 k1 k2 k3
      refine bodyPost_ret (v := .tuple #[.agg #[.int .u64 (A 0 * m : Nat), .int .u64 (A 1 * m : Nat), .int .u64 (A 2 * m : Nat), .int .u64 (A 3 * m : Nat)], .bool true]) (by simp [results, Tryz.results74, go_sem, k0, k1, k2, k3]) rfl ?_
      exact ⟨rfl, (((hb.setCell (p := ⟨w.heap.size + 1 + 1, 0, none⟩) (Nat.le_add_right _ 2) _).setCell (p := ⟨w.heap.size + 1 + 1, 1, none⟩) (Nat.le_add_right _ 2) _).setCell (p := ⟨w.heap.size + 1 + 1, 2, none⟩) (Nat.le_add_right _ 2) _).setCell (p := ⟨w.heap.size + 1 + 1, 3, none⟩) (Nat.le_add_right _ 2) _⟩


set_option maxHeartbeats 1000000 in
theorem vtimes_w (a : Vc) (n : Nat) (ha : OkV a) (hn : U64 n) (w : World) :
    Calls Tryz.prog 31 #[vVal a, .int .u64 (n : Nat)] w fun e w' => e = .returned (.tuple #[vVal (vOr (vtimesOk a n) (vtimes a n)), .bool (vtimesOk a n)]) ∧ Ext w w' := by
  have hcc : (((w.alloc (.cells #[.int .u64 (vG a 0 : Nat), .int .u64 (vG a 1 : Nat), .int .u64 (vG a 2 : Nat), .int .u64 (vG a 3 : Nat)] 24)).alloc (.cells #[.int .u64 (n : Nat)] 22)).alloc (.cells #[.int .u64 (0 : Nat), .int .u64 (0 : Nat), .int .u64 (0 : Nat), .int .u64 (0 : Nat)] 24)).cell? ⟨w.heap.size + 1, 0, none⟩ = some (.int .u64 (n : Nat)) := by
    rw [World.cell?_alloc_past (hn := by simp), World.cell?_alloc_at (hn := by simp)]; rfl
  have C := bothT_w (w.heap.size + 1) n hn (vG a) (fun _ => 0) ha.u64 (((w.alloc (.cells #[.int .u64 (vG a 0 : Nat), .int .u64 (vG a 1 : Nat), .int .u64 (vG a 2 : Nat), .int .u64 (vG a 3 : Nat)] 24)).alloc (.cells #[.int .u64 (n : Nat)] 22)).alloc (.cells #[.int .u64 (0 : Nat), .int .u64 (0 : Nat), .int .u64 (0 : Nat), .int .u64 (0 : Nat)] 24)) (by simp) hcc
  rw [allV_times, vG_or _ (fun k => vG a k * n) (vtimes a n) (fun k hk => vtimes_at hk)] at C
  unfold vVal
  generalize vG (vOr (vtimesOk a n) (vtimes a n)) = R at C ⊢
  generalize vtimesOk a n = d at C ⊢
  generalize vG a = A at C ⊢
  have hmf : ∀ (fn : Fn) (first cap : Array Value) (w : World), (Instr.makeFunc fn first cap).run Tryz.prog w = .ok (.func fn first cap) w := fun _ _ _ _ => rfl
  have hE1 : Ext w (w.alloc (.cells #[.int .u64 (A 0 : Nat), .int .u64 (A 1 : Nat), .int .u64 (A 2 : Nat), .int .u64 (A 3 : Nat)] 24)) := (Ext.refl _).alloc _
  have hE := (hE1.alloc (.cells #[.int .u64 (n : Nat)] 22)).alloc (.cells #[.int .u64 (0 : Nat), .int .u64 (0 : Nat), .int .u64 (0 : Nat), .int .u64 (0 : Nat)] 24)
  have hv := VBox.new ((w.alloc (.cells #[.int .u64 (A 0 : Nat), .int .u64 (A 1 : Nat), .int .u64 (A 2 : Nat), .int .u64 (A 3 : Nat)] 24)).alloc (.cells #[.int .u64 (n : Nat)] 22)) (fun _ => 0) 24
  rw [World.size_alloc, World.size_alloc] at hv
  unfold vF at C ⊢
  replace C := Lib.hid C
  go_enter Tryz.func31, Tryz.ntmps31
  go_wp2_with fail
  refine C.out.mono ?_; rintro e w1 ⟨rfl, h1⟩
  have v1 := hv.ext h1
  have d0 := v1.cell 0 (by omega)
  have d1 := v1.cell 1 (by omega)
  have d2 := v1.cell 2 (by omega)
  have d3 := v1.cell 3 (by omega)
  have e0 := v1.free 0 (by omega)
  have e1 := v1.free 1 (by omega)
  have e2 := v1.free 2 (by omega)
  have e3 := v1.free 3 (by omega)
  go_wp2
  have z0 := (((v1.set (k := 0) (v := R 0) (by omega)).set (k := 1) (v := R 1) (by omega)).set (k := 2) (v := R 2) (by omega)).set (k := 3) (v := R 3) (by omega)
  have k0 := z0.cell 0 (by omega)
  have k1 := z0.cell 1 (by omega)
  have k2 := z0.cell 2 (by omega)
  have k3 := z0.cell 3 (by omega)
  simp at k0 k1 k2 k3
  refine bodyPost_ret (v := .tuple #[.agg #[.int .u64 (R 0 : Nat), .int .u64 (R 1 : Nat), .int .u64 (R 2 : Nat), .int .u64 (R 3 : Nat)], .bool d]) (by simp [results, Tryz.results31, go_sem, k0, k1, k2, k3]) rfl ?_
  exact ⟨rfl, (hE.trans h1).put4 (b := w.heap.size + 1 + 1) (by omega) R⟩

end Go.Proofs.YthmhalcloogniaaGreatDoor

namespace Go.Dm
open Go Go.RowKit

theorem vordF_cases : ∀ xs ys : List Nat, vordF xs ys = -1 ∨ vordF xs ys = 0 ∨ vordF xs ys = 1
  | [], _ => by simp [vordF]
  | _ :: _, [] => by simp [vordF]
  | x :: xs, y :: ys => by
    unfold vordF
    split
    · exact Or.inl rfl
    · split
      · exact Or.inr (Or.inr rfl)
      · exact vordF_cases xs ys
theorem vordF_flip : ∀ xs ys : List Nat, vordF ys xs = - vordF xs ys
  | [], [] => by simp [vordF]
  | [], _ :: _ => by simp [vordF]
  | _ :: _, [] => by simp [vordF]
  | x :: xs, y :: ys => by
    have ih := vordF_flip xs ys
    simp only [vordF]
    by_cases h : x < y
    · rw [if_pos h, if_neg (by omega), if_pos h]; rfl
    · rw [if_neg h]
      by_cases h' : y < x
      · rw [if_pos h', if_pos h', if_neg h]
      · rw [if_neg h', if_neg h', if_neg h]; exact ih
theorem vordF_zero : ∀ xs ys : List Nat, xs.length = ys.length → (vordF xs ys = 0 ↔ xs = ys)
  | [], [], _ => by simp [vordF]
  | x :: xs, y :: ys, h => by
    have ih := vordF_zero xs ys (by simpa using h)
    simp only [vordF]
    by_cases h1 : x < y
    · rw [if_pos h1]; simp; omega
    · rw [if_neg h1]
      by_cases h2 : y < x
      · rw [if_pos h2]; simp; omega
      · rw [if_neg h2, ih]
        have : x = y := by omega
        simp [this]
theorem vordF_trans : ∀ xs ys zs : List Nat, xs.length = ys.length → ys.length = zs.length → vordF xs ys = -1 → vordF ys zs = -1 → vordF xs zs = -1
  | [], _, _, _, _, h, _ => by simp [vordF] at h
  | _ :: _, [], _, h, _, _, _ => by simp at h
  | _ :: _, _ :: _, [], _, h, _, _ => by simp at h
  | x :: xs, y :: ys, z :: zs, h1, h2, h3, h4 => by
    have ih := vordF_trans xs ys zs (by simpa using h1) (by simpa using h2)
    simp only [vordF] at h3 h4 ⊢
    split at h3
    · split at h4
      · rw [if_pos (by omega)]
      · split at h4
        · simp at h4
        · rw [if_pos (by omega)]
    · split at h3
      · simp at h3
      · split at h4
        · rw [if_pos (by omega)]
        · split at h4
          · simp at h4
          · rw [if_neg (by omega), if_neg (by omega)]; exact ih h3 h4
theorem vord_cases (a b : Vc) : vord a b = -1 ∨ vord a b = 0 ∨ vord a b = 1 := vordF_cases a b
theorem vord_flip (a b : Vc) : vord b a = - vord a b := vordF_flip a b
theorem vord_zero {a b : Vc} (ha : OkV a) (hb : OkV b) : vord a b = 0 ↔ a = b := vordF_zero a b (ha.len.trans hb.len.symm)
theorem vord_trans {a b c : Vc} (ha : OkV a) (hb : OkV b) (hc : OkV c) (h1 : vord a b = -1) (h2 : vord b c = -1) : vord a c = -1 :=
  vordF_trans a b c (ha.len.trans hb.len.symm) (hb.len.trans hc.len.symm) h1 h2

theorem vfits_four {a b : Vc} : vfits a b = true ↔ vG a 0 ≤ vG b 0 ∧ vG a 1 ≤ vG b 1 ∧ vG a 2 ≤ vG b 2 ∧ vG a 3 ≤ vG b 3 := by
  rw [vfits_iff]
  constructor
  · intro h
    exact ⟨h 0 (by omega), h 1 (by omega), h 2 (by omega), h 3 (by omega)⟩
  · intro ⟨h0, h1, h2, h3⟩ k hk
    match k, hk with
    | 0, _ => exact h0
    | 1, _ => exact h1
    | 2, _ => exact h2
    | 3, _ => exact h3
theorem vG_eq {a b : Vc} (ha : OkV a) (hb : OkV b) : a = b ↔ vG a 0 = vG b 0 ∧ vG a 1 = vG b 1 ∧ vG a 2 = vG b 2 ∧ vG a 3 = vG b 3 := by
  obtain ⟨x, y, z, u, rfl, _⟩ := ha.ex
  obtain ⟨x', y', z', u', rfl, _⟩ := hb.ex
  simp [vG]
theorem vfits_refl (a : Vc) : vfits a a = true := by rw [vfits_four]; omega
theorem vfits_no_le (a : Vc) : vfits noV a = true := by rw [vfits_four]; simp [noV, vG]
theorem vfits_both {a b : Vc} (ha : OkV a) (hb : OkV b) : (vfits a b && vfits b a) = decide (a = b) := by
  rw [Bool.eq_iff_iff, Bool.and_eq_true, vfits_four, vfits_four, decide_eq_true_eq, vG_eq ha hb]
  omega
theorem vfits_trans {a b c : Vc} (h1 : vfits a b = true) (h2 : vfits b c = true) : vfits a c = true := by
  rw [vfits_four] at *; omega
theorem vord_four {a b : Vc} (ha : OkV a) (hb : OkV b) : vord a b = vordF [vG a 0, vG a 1, vG a 2, vG a 3] [vG b 0, vG b 1, vG b 2, vG b 3] := by
  obtain ⟨x, y, z, u, rfl, _⟩ := ha.ex
  obtain ⟨x', y', z', u', rfl, _⟩ := hb.ex
  rfl
theorem vord_fits {a b : Vc} (ha : OkV a) (hb : OkV b) (h : vfits a b = true) : vord a b = -1 ∨ vord a b = 0 := by
  rw [vfits_four] at h
  rw [vord_four ha hb]
  generalize vG a 0 = x0 at *
  generalize vG a 1 = x1 at *
  generalize vG a 2 = x2 at *
  generalize vG a 3 = x3 at *
  simp only [vordF]
  repeat (split; · first | exact Or.inl rfl | omega)
  first | exact Or.inr rfl | (repeat (split <;> try omega))

end Go.Dm

namespace Go.Dm
open Go Go.RowKit

theorem vaddOk_four {a b : Vc} : vaddOk a b = true ↔ vG a 0 + vG b 0 < 18446744073709551616 ∧ vG a 1 + vG b 1 < 18446744073709551616 ∧ vG a 2 + vG b 2 < 18446744073709551616 ∧ vG a 3 + vG b 3 < 18446744073709551616 := by
  rw [← allV_add]; simp [allV, and_assoc]
theorem vtimesOk_four {a : Vc} {n : Nat} : vtimesOk a n = true ↔ vG a 0 * n < 18446744073709551616 ∧ vG a 1 * n < 18446744073709551616 ∧ vG a 2 * n < 18446744073709551616 ∧ vG a 3 * n < 18446744073709551616 := by
  rw [← allV_times a (fun _ => 0)]; simp [allV, and_assoc]
theorem vadd_eta (a b : Vc) : vadd a b = [vG a 0 + vG b 0, vG a 1 + vG b 1, vG a 2 + vG b 2, vG a 3 + vG b 3] := rfl
theorem vsub_eta (a b : Vc) : vsub a b = [vG a 0 - vG b 0, vG a 1 - vG b 1, vG a 2 - vG b 2, vG a 3 - vG b 3] := rfl
theorem vtimes_eta (a : Vc) (n : Nat) : vtimes a n = [vG a 0 * n, vG a 1 * n, vG a 2 * n, vG a 3 * n] := rfl
theorem vadd_okV {a b : Vc} (h : vaddOk a b = true) : OkV (vadd a b) := by
  rw [vaddOk_four] at h
  rw [vadd_eta]
  exact okV_mk h.1 h.2.1 h.2.2.1 h.2.2.2
theorem vtimes_okV {a : Vc} {n : Nat} (h : vtimesOk a n = true) : OkV (vtimes a n) := by
  rw [vtimesOk_four] at h
  rw [vtimes_eta]
  exact okV_mk h.1 h.2.1 h.2.2.1 h.2.2.2
theorem okV_or {ok : Bool} {v : Vc} (h : ok = true → OkV v) : OkV (vOr ok v) := by
  unfold vOr
  cases ok with
  | false => exact okV_no
  | true => exact h rfl
theorem vadd_or_okV (a b : Vc) : OkV (vOr (vaddOk a b) (vadd a b)) := okV_or vadd_okV
theorem vsub_or_okV {a : Vc} (ha : OkV a) (b : Vc) : OkV (vOr (vfits b a) (vsub a b)) := okV_or fun _ => vsub_ok ha
theorem vtimes_or_okV (a : Vc) (n : Nat) : OkV (vOr (vtimesOk a n) (vtimes a n)) := okV_or vtimes_okV
theorem vaddOk_comm (a b : Vc) : vaddOk b a = vaddOk a b := by
  rw [Bool.eq_iff_iff, vaddOk_four, vaddOk_four]; omega
theorem vadd_comm (a b : Vc) : vadd b a = vadd a b := by
  rw [vadd_eta, vadd_eta, Nat.add_comm, Nat.add_comm (vG b 1), Nat.add_comm (vG b 2), Nat.add_comm (vG b 3)]
theorem vsub_add {a b : Vc} (ha : OkV a) : vsub (vadd a b) b = a ∧ vfits b (vadd a b) = true ∧ vfits a (vadd a b) = true := by
  refine ⟨?_, ?_, ?_⟩
  · obtain ⟨x, y, z, u, rfl, _⟩ := ha.ex
    simp [vsub_eta, vadd_eta, vG]
  · rw [vfits_four, vadd_eta]; simp [vG]
  · rw [vfits_four, vadd_eta]; simp [vG]
theorem vadd_sub {a b : Vc} (ha : OkV a) (h : vfits b a = true) : vadd (vsub a b) b = a ∧ vaddOk (vsub a b) b = true := by
  rw [vfits_four] at h
  refine ⟨?_, ?_⟩
  · obtain ⟨x, y, z, u, rfl, _⟩ := ha.ex
    simp [vsub_eta, vadd_eta, vG] at h ⊢
    omega
  · obtain ⟨x, y, z, u, rfl, h1, h2, h3, h4⟩ := ha.ex
    unfold U64 at h1 h2 h3 h4
    rw [vaddOk_four]
    simp [vsub_eta, vG] at h ⊢
    omega
/-- One more. -/
theorem vtimes_step (a : Vc) (i : Nat) : vadd (vtimes a i) a = vtimes a (i + 1) := by
  simp only [vadd_eta, vtimes_eta, Nat.mul_succ]; rfl
theorem vtimesOk_step (a : Vc) (i : Nat) : vaddOk (vtimes a i) a = vtimesOk a (i + 1) := by
  rw [Bool.eq_iff_iff, vaddOk_four, vtimesOk_four]
  simp only [vtimes_eta, Nat.mul_succ]
  simp [vG]
theorem vtimesOk_mono {a : Vc} {i n : Nat} (h : i ≤ n) (hn : vtimesOk a n = true) : vtimesOk a i = true := by
  rw [vtimesOk_four] at *
  have := fun x => Nat.mul_le_mul_left x h
  have h0 := this (vG a 0); have h1 := this (vG a 1); have h2 := this (vG a 2); have h3 := this (vG a 3)
  omega
theorem vtimes_zero (a : Vc) : vtimes a 0 = noV := by simp [vtimes_eta, noV]
theorem vtimesOk_zero (a : Vc) : vtimesOk a 0 = true := by rw [vtimesOk_four]; simp
/-- So many are held, and no more. -/
theorem vholdF_iff (a b : Vc) (m k : Nat) : ∀ i, k ≤ vholdF a b m i ↔ k ≤ m ∧ ∀ j, j < i → vG b j * k ≤ vG a j
  | 0 => by simp [vholdF]
  | i + 1 => by
    have ih := vholdF_iff a b m k i
    have hs : (∀ j, j < i + 1 → vG b j * k ≤ vG a j) ↔ (∀ j, j < i → vG b j * k ≤ vG a j) ∧ vG b i * k ≤ vG a i := by
      constructor
      · intro h; exact ⟨fun j hj => h j (by omega), h i (by omega)⟩
      · intro ⟨h, hi⟩ j hj
        by_cases e : j = i
        · rw [e]; exact hi
        · exact h j (by omega)
    rw [vholdF_sub, hs]
    by_cases h0 : vG b i = 0
    · rw [if_pos h0, ih, h0]; simp
    · rw [if_neg h0, Nat.le_min, ih, Nat.le_div_iff_mul_le (by omega), Nat.mul_comm k]
      constructor
      · intro ⟨⟨h1, h2⟩, h3⟩; exact ⟨h1, h2, h3⟩
      · intro ⟨h1, h2, h3⟩; exact ⟨⟨h1, h2⟩, h3⟩
theorem vholds_iff {a b : Vc} {m k : Nat} : k ≤ vholds a b m ↔ k ≤ m ∧ vfits (vtimes b k) a = true := by
  unfold vholds
  rw [vholdF_iff, vfits_iff]
  constructor
  · intro ⟨h1, h2⟩
    refine ⟨h1, fun j hj => ?_⟩
    have := vtimes_at (a := b) (n := k) hj
    unfold vG at this h2
    rw [this]; exact h2 j hj
  · intro ⟨h1, h2⟩
    refine ⟨h1, fun j hj => ?_⟩
    have := vtimes_at (a := b) (n := k) hj
    have h := h2 j hj
    unfold vG at this ⊢
    rw [this] at h; exact h
theorem vholds_fit {a b : Vc} (ha : OkV a) (m : Nat) : vtimesOk b (vholds a b m) = true ∧ vfits (vtimes b (vholds a b m)) a = true := by
  have h := (vholds_iff (a := a) (b := b) (m := m) (k := vholds a b m)).1 (Nat.le_refl _)
  refine ⟨?_, h.2⟩
  have h4 := vfits_four.1 h.2
  rw [vtimes_at (by omega), vtimes_at (by omega), vtimes_at (by omega), vtimes_at (by omega)] at h4
  rw [vtimesOk_four]
  have u := ha.u64
  have u0 := u 0; have u1 := u 1; have u2 := u 2; have u3 := u 3
  unfold U64 at u0 u1 u2 u3
  unfold vG at *
  omega
theorem vholds_more {a b : Vc} {m : Nat} (h : vholds a b m < m) : vfits (vtimes b (vholds a b m + 1)) a = false := by
  cases e : vfits (vtimes b (vholds a b m + 1)) a with
  | false => rfl
  | true => have := (vholds_iff (a := a) (b := b) (m := m) (k := vholds a b m + 1)).2 ⟨h, e⟩; omega
theorem vholds_none (a : Vc) (m : Nat) : vholds a noV m = m := by
  apply Nat.le_antisymm (vholds_le a noV m)
  rw [vholds_iff]
  refine ⟨Nat.le_refl _, ?_⟩
  rw [vfits_four, vtimes_eta]; simp [vG, noV]

end Go.Dm
