/- Texts of the base. -/

import Derived.Test.YtefjdmjkofaajaaGreatDoorT18
import Derived.Test.YtefjdmjkofaajaaGreatDoorShelf
namespace Go.Dm
open Go Go.RowKit
def vtimesOk (a : Vc) (n : Nat) : Bool := (List.range 4).all fun k => decide (vG a k * n < 18446744073709551616)
def vtimes (a : Vc) (n : Nat) : Vc := (List.range 4).map fun k => vG a k * n
theorem allV_times (a : Vc) (B : Nat → Nat) (n : Nat) : allV (fun x _ => decide (x * n < 18446744073709551616)) (vG a) B = vtimesOk a n := by
 unfold allV vtimesOk
 simp [List.range_succ, Bool.and_assoc]
theorem vtimes_at {a : Vc} {n k : Nat} (hk : k < 4) : vG (vtimes a n) k = vG a k * n := by
 show (vtimes a n).getD k 0 = _
 unfold vtimes
 simp [hk]
end Go.Dm
namespace Go.Proofs.YtefjdmjkofaajaaGreatDoor
open Go.RowKit Go.Dm
theorem wmul_w (x y : Nat) (hx : U64 x) (hy : U64 y) (w : World) :
  Calls Tryz.prog 148 #[.int .u64 (x : Nat), .int .u64 (y : Nat)] w fun e w' => e = .returned (.tuple #[.int .u64 ((if decide (x * y < 18446744073709551616) then x * y else 0 : Nat) : Int), .bool (decide (x * y < 18446744073709551616))]) ∧ Ext w w' := by
 have C := Tryz.bits_Mul64 x y hx hy
 by_cases h : x * y < 18446744073709551616
 ·rw [Nat.div_eq_of_lt h, Nat.mod_eq_of_lt h] at C
  simp only [h, decide_true, if_true]
  generalize x * y = z at *
  replace C := Lib.hid C
  go_enter Tryz.func148, Tryz.ntmps148
  go_wp2_with fail
  refine (C.out _).mono ?_; rintro e w1 ⟨rfl, rfl⟩
  go_wp2
  go_ret2
  exact ⟨rfl, Ext.refl _⟩
 ·have h2 : 0 < x * y / 18446744073709551616 := Nat.div_pos (by omega) (by omega)
  simp only [h, decide_false, Bool.false_eq_true, if_false]
  generalize x * y / 18446744073709551616 = z at *
  generalize x * y % 18446744073709551616 = z2 at *
  have h3 : ¬ ((z : Int) = 0) := by omega
  replace C := Lib.hid C
  go_enter Tryz.func148, Tryz.ntmps148
  go_wp2_with fail
  refine (C.out _).mono ?_; rintro e w1 ⟨rfl, rfl⟩
  go_wp2
  go_ret2
  exact ⟨rfl, Ext.refl _⟩
theorem times1_w (x y m c : Nat) (w : World) (hx : U64 x) (hm : U64 m) (_hc : c < w.heap.size) (hcc : w.cell? ⟨c, 0, none⟩ = some (.int .u64 (m : Nat))) :
  Calls Tryz.prog 147 #[.int .u64 (x : Nat), .int .u64 (y : Nat), .pointer (some ⟨c, 0, none⟩)] w fun e w' => e = .returned (.tuple #[.int .u64 ((if decide (x * m < 18446744073709551616) then x * m else 0 : Nat) : Int), .bool (decide (x * m < 18446744073709551616))]) ∧ Ext w w' := by
 have C := wmul_w x m hx hm w
 generalize decide (x * m < 18446744073709551616) = d at *
 generalize (if d then x * m else 0 : Nat) = z at *
 replace C := Lib.hid C
 go_enter Tryz.func147, Tryz.ntmps147
 go_wp2_with fail
 refine C.out.mono ?_; rintro e w1 ⟨rfl, h1⟩
 go_wp2
 go_ret2
 exact ⟨rfl, h1⟩
set_option maxHeartbeats 4000000 in
set_option maxRecDepth 100000 in
theorem bothT_w (c m : Nat) (hm : U64 m) (A B : Nat → Nat) (hA : ∀ k, U64 (A k)) (w : World) (hc : c < w.heap.size) (hcc : w.cell? ⟨c, 0, none⟩ = some (.int .u64 (m : Nat))) :
  Calls Tryz.prog 146 #[vF A, vF B, .func (.func 147) #[] #[.pointer (some ⟨c, 0, none⟩)]] w fun e w' => e = .returned (.tuple #[if allV (fun x _ => decide (x * m < 18446744073709551616)) A B then vF (fun k => A k * m) else vF (fun _ => 0), .bool (allV (fun x _ => decide (x * m < 18446744073709551616)) A B)]) ∧ Ext w w' := by
 have hC := fun (x y : Nat) (U : World) hx h1 h2 => times1_w x y m c U hx hm h1 h2
 have hno := fun k (hk : k < 4) h => allV_no (p := fun x _ => decide (x * m < 18446744073709551616)) (A := A) (B := B) hk h
 have hyes := allV_yes (p := fun x _ => decide (x * m < 18446744073709551616)) (A := A) (B := B)
 generalize allV (fun x _ => decide (x * m < 18446744073709551616)) A B = d at *
 replace hno := Lib.hid hno
 replace hyes := Lib.hid hyes
 unfold vF
 go_enter Tryz.func146, Tryz.ntmps146
 go_wp2
 go_loopw [13] (fun i wr => ∃ k : Nat, k ≤ 4 ∧ i = .int .i64 k ∧ Ext w wr ∧ VBox w.heap.size (fun j => if j < k then A j * m else A j) wr ∧ VBox (w.heap.size + 1) B wr ∧ VBox (w.heap.size + 1 + 1) (fun _ => 0) wr ∧ Hid (∀ j, j < k → decide (A j * m < 18446744073709551616) = true)) (fun i _ => 4 - (intOf i).toNat)
 case atStart =>
  refine ⟨0, by omega, rfl, (((Ext.refl w).alloc _).alloc _).alloc _, ((VBox.new w A _).ext (((Ext.refl _).alloc _).alloc _)).congr (fun j _ => by simp), ?_, ?_, fun j hj => by omega⟩
  ·have h := VBox.new (w.alloc (.cells #[.int .u64 (A 0 : Nat), .int .u64 (A 1 : Nat), .int .u64 (A 2 : Nat), .int .u64 (A 3 : Nat)] 27)) B 27
   rw [World.size_alloc] at h
   exact h.ext ((Ext.refl _).alloc _)
  ·have h := VBox.new ((w.alloc (.cells #[.int .u64 (A 0 : Nat), .int .u64 (A 1 : Nat), .int .u64 (A 2 : Nat), .int .u64 (A 3 : Nat)] 27)).alloc (.cells #[.int .u64 (B 0 : Nat), .int .u64 (B 1 : Nat), .int .u64 (B 2 : Nat), .int .u64 (B 3 : Nat)] 27)) (fun _ => 0) 27
   rw [World.size_alloc, World.size_alloc] at h
   exact h
 case round =>
  obtain ⟨k, hk, rfl, hb, v1, v2, v3, HP⟩ := hrel
  by_cases hlt : k < 4
  ·have C := hC (A k) (B k) wr (hA k) (Nat.lt_of_lt_of_le hc hb.size) (by rw [hb.cell (by exact hc)]; exact hcc)
   have hN := hno.out k hlt
   have hP2 : decide (A k * m < 18446744073709551616) = true → Hid (∀ j, j < k + 1 → decide (A j * m < 18446744073709551616) = true) := fun h j hj => by
    rcases Nat.lt_succ_iff_lt_or_eq.1 hj with h' | rfl
    ·exact HP.out j h'
    ·exact h
   have hst : ∀ w', VBox w.heap.size (fun j => if j < k then A j * m else A j) w' → VBox w.heap.size (fun j => if j < k + 1 then A j * m else A j) (w'.setCell ⟨w.heap.size, k, none⟩ (.int .u64 (A k * m : Nat))) := fun w' h => (h.set hlt).congr fun j _ => by
    by_cases e : j = k
    ·subst e; simp
    ·by_cases h2 : j < k
     ·simp [e, h2, Nat.lt_succ_of_lt h2]
     ·have : ¬ j < k + 1 := by omega
      simp [e, h2, this]
   replace hst := Lib.hid hst
   have c2 := v2.cell k hlt
   have hix := fun w => idxVec A hlt w
   cases hp : decide (A k * m < 18446744073709551616) with
   | false =>
    have hd := hN hp
    subst hd
    clear hN hP2 hst
    rw [hp] at C
    simp only [Bool.false_eq_true, if_false] at C ⊢
    go_wp2_with fail
    refine C.mono ?_; rintro e w4 ⟨rfl, h1⟩
    have d0 := (v3.ext h1).cell 0 (by omega)
    have d1 := (v3.ext h1).cell 1 (by omega)
    have d2 := (v3.ext h1).cell 2 (by omega)
    have d3 := (v3.ext h1).cell 3 (by omega)
    have e0 := (v3.ext h1).free 0 (by omega)
    have e1 := (v3.ext h1).free 1 (by omega)
    have e2 := (v3.ext h1).free 2 (by omega)
    have e3 := (v3.ext h1).free 3 (by omega)
    go_wp2
    have z0 := ((((v3.ext h1).set (k := 0) (v := 0) (by omega)).set (k := 1) (v := 0) (by omega)).set (k := 2) (v := 0) (by omega)).set (k := 3) (v := 0) (by omega)
    have k0 := z0.cell 0 (by omega)
    have k1 := z0.cell 1 (by omega)
    have k2 := z0.cell 2 (by omega)
    have k3 := z0.cell 3 (by omega)
    simp at k0 k1 k2 k3
    refine bodyPost_ret (v := .tuple #[.agg #[.int .u64 0, .int .u64 0, .int .u64 0, .int .u64 0], .bool false]) (by simp [results, Tryz.results146, go_sem, k0, k1, k2, k3]) rfl ?_
    exact ⟨rfl, ((((hb.trans h1).setCell (p := ⟨w.heap.size + 1 + 1, 0, none⟩) (Nat.le_add_right _ 2) _).setCell (p := ⟨w.heap.size + 1 + 1, 1, none⟩) (Nat.le_add_right _ 2) _).setCell (p := ⟨w.heap.size + 1 + 1, 2, none⟩) (Nat.le_add_right _ 2) _).setCell (p := ⟨w.heap.size + 1 + 1, 3, none⟩) (Nat.le_add_right _ 2) _⟩
   | true =>
    replace hP2 := hP2 hp
    clear hN
    rw [hp] at C
    simp only [if_true] at C
    go_wp2_with fail
    refine C.mono ?_; rintro e w4 ⟨rfl, h1⟩
    have u1 := v1.ext h1
    have d0 := u1.cell _ hlt
    have e0 := u1.free _ hlt
    go_wp2
    go_roundw
    case rel => exact ⟨_, by omega, by go_num, (hb.trans h1).setCell (p := ⟨w.heap.size, _, none⟩) (Nat.le_refl _) _, hst.out _ u1, (v2.ext h1).far (by omega) _, (v3.ext h1).far (by omega) _, hP2⟩
    case measure => simp [intOf]; omega
  ·obtain rfl : k = 4 := by omega
   have hd := hyes.out HP.out
   subst hd
   have u1 := v1.congr (B := fun j => A j * m) (fun j hj => by simp [hj])
   have d0 := u1.cell 0 (by omega)
   have d1 := u1.cell 1 (by omega)
   have d2 := u1.cell 2 (by omega)
   have d3 := u1.cell 3 (by omega)
   have x0 := v3.cell 0 (by omega)
   have x1 := v3.cell 1 (by omega)
   have x2 := v3.cell 2 (by omega)
   have x3 := v3.cell 3 (by omega)
   have e0 := v3.free 0 (by omega)
   have e1 := v3.free 1 (by omega)
   have e2 := v3.free 2 (by omega)
   have e3 := v3.free 3 (by omega)
   go_wp2
   have z0 := (((v3.set (k := 0) (v := A 0 * m) (by omega)).set (k := 1) (v := A 1 * m) (by omega)).set (k := 2) (v := A 2 * m) (by omega)).set (k := 3) (v := A 3 * m) (by omega)
   have k0 := z0.cell 0 (by omega)
   have k1 := z0.cell 1 (by omega)
   have k2 := z0.cell 2 (by omega)
   have k3 := z0.cell 3 (by omega)
   simp at k0 k1 k2 k3
   refine bodyPost_ret (v := .tuple #[.agg #[.int .u64 (A 0 * m : Nat), .int .u64 (A 1 * m : Nat), .int .u64 (A 2 * m : Nat), .int .u64 (A 3 * m : Nat)], .bool true]) (by simp [results, Tryz.results146, go_sem, k0, k1, k2, k3]) rfl ?_
   exact ⟨rfl, (((hb.setCell (p := ⟨w.heap.size + 1 + 1, 0, none⟩) (Nat.le_add_right _ 2) _).setCell (p := ⟨w.heap.size + 1 + 1, 1, none⟩) (Nat.le_add_right _ 2) _).setCell (p := ⟨w.heap.size + 1 + 1, 2, none⟩) (Nat.le_add_right _ 2) _).setCell (p := ⟨w.heap.size + 1 + 1, 3, none⟩) (Nat.le_add_right _ 2) _⟩
set_option maxHeartbeats 1000000 in
theorem vtimes_w (a : Vc) (n : Nat) (ha : OkV a) (hn : U64 n) (w : World) :
  Calls Tryz.prog 124 #[vVal a, .int .u64 (n : Nat)] w fun e w' => e = .returned (.tuple #[vVal (vOr (vtimesOk a n) (vtimes a n)), .bool (vtimesOk a n)]) ∧ Ext w w' := by
 have hcc : (((w.alloc (.cells #[.int .u64 (vG a 0 : Nat), .int .u64 (vG a 1 : Nat), .int .u64 (vG a 2 : Nat), .int .u64 (vG a 3 : Nat)] 27)).alloc (.cells #[.int .u64 (n : Nat)] 25)).alloc (.cells #[.int .u64 (0 : Nat), .int .u64 (0 : Nat), .int .u64 (0 : Nat), .int .u64 (0 : Nat)] 27)).cell? ⟨w.heap.size + 1, 0, none⟩ = some (.int .u64 (n : Nat)) := by
  rw [World.cell?_alloc_past (hn := by simp), World.cell?_alloc_at (hn := by simp)]; rfl
 have C := bothT_w (w.heap.size + 1) n hn (vG a) (fun _ => 0) ha.u64 (((w.alloc (.cells #[.int .u64 (vG a 0 : Nat), .int .u64 (vG a 1 : Nat), .int .u64 (vG a 2 : Nat), .int .u64 (vG a 3 : Nat)] 27)).alloc (.cells #[.int .u64 (n : Nat)] 25)).alloc (.cells #[.int .u64 (0 : Nat), .int .u64 (0 : Nat), .int .u64 (0 : Nat), .int .u64 (0 : Nat)] 27)) (by simp) hcc
 rw [allV_times, vG_or _ (fun k => vG a k * n) (vtimes a n) (fun k hk => vtimes_at hk)] at C
 unfold vVal
 generalize vG (vOr (vtimesOk a n) (vtimes a n)) = R at C ⊢
 generalize vtimesOk a n = d at C ⊢
 generalize vG a = A at C ⊢
 have hmf : ∀ (fn : Fn) (first cap : Array Value) (w : World), (Instr.makeFunc fn first cap).run Tryz.prog w = .ok (.func fn first cap) w := fun _ _ _ _ => rfl
 have hE1 : Ext w (w.alloc (.cells #[.int .u64 (A 0 : Nat), .int .u64 (A 1 : Nat), .int .u64 (A 2 : Nat), .int .u64 (A 3 : Nat)] 27)) := (Ext.refl _).alloc _
 have hE := (hE1.alloc (.cells #[.int .u64 (n : Nat)] 25)).alloc (.cells #[.int .u64 (0 : Nat), .int .u64 (0 : Nat), .int .u64 (0 : Nat), .int .u64 (0 : Nat)] 27)
 have hv := VBox.new ((w.alloc (.cells #[.int .u64 (A 0 : Nat), .int .u64 (A 1 : Nat), .int .u64 (A 2 : Nat), .int .u64 (A 3 : Nat)] 27)).alloc (.cells #[.int .u64 (n : Nat)] 25)) (fun _ => 0) 27
 rw [World.size_alloc, World.size_alloc] at hv
 unfold vF at C ⊢
 replace C := Lib.hid C
 go_enter Tryz.func124, Tryz.ntmps124
 go_wp2_with fail
 refine C.out.mono ?_; rintro e w1 ⟨rfl, h1⟩
 have v1 := hv.ext h1
 have d0 := v1.cell 0 (by omega)
 have d1 := v1.cell 1 (by omega)
 have d2 := v1.cell 2 (by omega)
 have d3 := v1.cell 3 (by omega)
 have e0 := v1.free 0 (by omega)
 have e1 := v1.free 1 (by omega)
 have e2 := v1.free 2 (by omega)
 have e3 := v1.free 3 (by omega)
 go_wp2
 have z0 := (((v1.set (k := 0) (v := R 0) (by omega)).set (k := 1) (v := R 1) (by omega)).set (k := 2) (v := R 2) (by omega)).set (k := 3) (v := R 3) (by omega)
 have k0 := z0.cell 0 (by omega)
 have k1 := z0.cell 1 (by omega)
 have k2 := z0.cell 2 (by omega)
 have k3 := z0.cell 3 (by omega)
 simp at k0 k1 k2 k3
 refine bodyPost_ret (v := .tuple #[.agg #[.int .u64 (R 0 : Nat), .int .u64 (R 1 : Nat), .int .u64 (R 2 : Nat), .int .u64 (R 3 : Nat)], .bool d]) (by simp [results, Tryz.results124, go_sem, k0, k1, k2, k3]) rfl ?_
 exact ⟨rfl, (hE.trans h1).put4 (b := w.heap.size + 1 + 1) (by omega) R⟩
theorem r01mul_w (x y : Nat) (hx : U64 x) (hy : U64 y) (w : World) :
  Calls Tryz.prog 164 #[.int .u64 (x : Nat), .int .u64 (y : Nat)] w fun e w' => e = .returned (.tuple #[.int .u64 ((if decide (x * y < 18446744073709551616) then x * y else 0 : Nat) : Int), .bool (decide (x * y < 18446744073709551616))]) ∧ Ext w w' := by
 have hy' : y < 18446744073709551616 := hy
 have hx' : x < 18446744073709551616 := hx
 by_cases h0 : y = 0
 ·subst h0
  have hs : IntKind.u64.wrap ((x : Int) * 0) = 0 := by simp [IntKind.wrap, IntKind.bits, IntKind.signed]
  simp only [Nat.mul_zero, decide_eq_true (show 0 < 18446744073709551616 by omega), if_true]
  go_enter Tryz.func164, Tryz.ntmps164
  go_wp2
  go_ret2
  exact ⟨rfl, Ext.refl _⟩
 ·have hyz : ((y : Int) == 0) = false := by simp; omega
  have hyz2 : ¬ ((y : Int) = 0) := by omega
  have hq : ((18446744073709551615 : Int) / (y : Int)) = ((18446744073709551615 / y : Nat) : Int) := by rw [Int.natCast_ediv]; rfl
  have hiff : x ≤ 18446744073709551615 / y ↔ x * y < 18446744073709551616 := by
   rw [Nat.le_div_iff_mul_le (by omega)]; omega
  by_cases h : x * y < 18446744073709551616
  ·have hs : IntKind.u64.wrap ((x : Int) * (y : Int)) = ((x * y : Nat) : Int) := by
    rw [← Int.natCast_mul]
    simp only [IntKind.wrap, IntKind.bits, IntKind.signed]
    simp; omega
   rw [decide_eq_true h]
   simp only [if_true]
   have hlt : ¬ ((18446744073709551615 : Int) / (y : Int) < (x : Int)) := by
    have := hiff.2 h
    rw [hq]
    omega
   clear hq hiff
   generalize x * y = s at *
   go_enter Tryz.func164, Tryz.ntmps164
   go_wp2
   go_ret2
   exact ⟨rfl, Ext.refl _⟩
  ·rw [decide_eq_false h]
   simp only [Bool.false_eq_true, if_false]
   have hlt : ((18446744073709551615 : Int) / (y : Int) < (x : Int)) := by
    have : ¬ x ≤ 18446744073709551615 / y := fun e => h (hiff.1 e)
    rw [hq]
    omega
   clear hq hiff
   go_enter Tryz.func164, Tryz.ntmps164
   go_wp2
   go_ret2
   exact ⟨rfl, Ext.refl _⟩
set_option maxHeartbeats 4000000 in
set_option maxRecDepth 100000 in
theorem r03times_w (a : Vc) (n : Nat) (ha : OkV a) (hn : U64 n) (w : World) :
  Calls Tryz.prog 143 #[vVal a, .int .u64 (n : Nat)] w fun e w' => e = .returned (.tuple #[vVal (vOr (vtimesOk a n) (vtimes a n)), .bool (vtimesOk a n)]) ∧ Ext w w' := by
 have hR := vG_or (vtimesOk a n) (fun k => vG a k * n) (vtimes a n) (fun k hk => vtimes_at hk)
 have hno := fun k (hk : k < 4) h => allV_no (p := fun x _ => decide (x * n < 18446744073709551616)) (A := vG a) (B := fun _ => 0) hk h
 have hyes := allV_yes (p := fun x _ => decide (x * n < 18446744073709551616)) (A := vG a) (B := fun _ => 0)
 rw [allV_times] at hno hyes
 have hA : ∀ k, U64 (vG a k) := ha.u64
 unfold vVal
 rw [← hR]
 clear hR ha
 generalize vtimesOk a n = d at *
 generalize vG a = A at *
 have hC := fun (k : Nat) U => r01mul_w (A k) n (hA k) hn U
 obtain ⟨G, hG⟩ : ∃ G : Nat → Nat, ∀ k, A k * n = G k := ⟨fun k => A k * n, fun _ => rfl⟩
 simp only [hG] at hno hyes hC ⊢
 clear hG
 replace hno := Lib.hid hno
 replace hyes := Lib.hid hyes
 replace hC := Lib.hid hC
 unfold vF
 go_enter Tryz.func143, Tryz.ntmps143
 go_wp2
 go_loopw [7] (fun i wr => ∃ k : Nat, k ≤ 4 ∧ i = .int .i64 k ∧ Ext w wr ∧ VBox w.heap.size A wr ∧ VBox (w.heap.size + 1) (fun _ => 0) wr ∧ VBox (w.heap.size + 1 + 1) (fun j => if j < k then G j else 0) wr ∧ Hid (∀ j, j < k → decide (G j < 18446744073709551616) = true)) (fun i _ => 4 - (intOf i).toNat)
 case atStart =>
  refine ⟨0, by omega, rfl, (((Ext.refl w).alloc _).alloc _).alloc _, (VBox.new w A _).ext (((Ext.refl _).alloc _).alloc _), ?_, ?_, fun j hj => by omega⟩
  ·have h := VBox.new (w.alloc (.cells #[.int .u64 (A 0 : Nat), .int .u64 (A 1 : Nat), .int .u64 (A 2 : Nat), .int .u64 (A 3 : Nat)] 39)) (fun _ => 0) 39
   rw [World.size_alloc] at h
   exact h.ext ((Ext.refl _).alloc _)
  ·have h := VBox.new ((w.alloc (.cells #[.int .u64 (A 0 : Nat), .int .u64 (A 1 : Nat), .int .u64 (A 2 : Nat), .int .u64 (A 3 : Nat)] 39)).alloc (.cells #[.int .u64 (0 : Nat), .int .u64 (0 : Nat), .int .u64 (0 : Nat), .int .u64 (0 : Nat)] 39)) (fun _ => 0) 39
   rw [World.size_alloc, World.size_alloc] at h
   exact h.congr fun j _ => by simp
 case round =>
  obtain ⟨k, hk, rfl, hb, v1, v3, v4, HP⟩ := hrel
  by_cases hlt : k < 4
  ·have hN := hno.out k hlt
   have hP2 : decide (G k < 18446744073709551616) = true → Hid (∀ j, j < k + 1 → decide (G j < 18446744073709551616) = true) := fun h j hj => by
    rcases Nat.lt_succ_iff_lt_or_eq.1 hj with h' | rfl
    ·exact HP.out j h'
    ·exact h
   have hst : ∀ w', VBox (w.heap.size + 1 + 1) (fun j => if j < k then G j else 0) w' → VBox (w.heap.size + 1 + 1) (fun j => if j < k + 1 then G j else 0) (w'.setCell ⟨w.heap.size + 1 + 1, k, none⟩ (.int .u64 (G k : Nat))) := fun w' h => (h.set hlt).congr fun j _ => by
    by_cases e : j = k
    ·subst e; simp
    ·by_cases h2 : j < k
     ·simp [e, h2, Nat.lt_succ_of_lt h2]
     ·have : ¬ j < k + 1 := by omega
      simp [e, h2, this]
   replace hst := Lib.hid hst
   have c1 := v1.cell k hlt
   have l1 := v1.lt
   have C := fun U => hC.out k U
   cases hp : decide (G k < 18446744073709551616) with
   | false =>
    have hd := hN hp
    subst hd
    clear hN hP2 hst
    rw [hp] at C
    simp only [Bool.false_eq_true, if_false] at C ⊢
    replace C := Lib.hid C
    go_wp2_with fail
    refine (C.out _).mono ?_; rintro e U ⟨rfl, h1⟩
    obtain ⟨_, d0, d1, d2, d3, e0, e1, e2, e3⟩ := (v3.ext h1).four
    go_wp2
    have z0 := ((((v3.ext h1).set (k := 0) (v := 0) (by omega)).set (k := 1) (v := 0) (by omega)).set (k := 2) (v := 0) (by omega)).set (k := 3) (v := 0) (by omega)
    have k0 := z0.cell 0 (by omega)
    have k1 := z0.cell 1 (by omega)
    have k2 := z0.cell 2 (by omega)
    have k3 := z0.cell 3 (by omega)
    simp at k0 k1 k2 k3
    refine bodyPost_ret (v := .tuple #[.agg #[.int .u64 0, .int .u64 0, .int .u64 0, .int .u64 0], .bool false]) (by simp [results, Tryz.results143, go_sem, k0, k1, k2, k3]) rfl ?_
    exact ⟨rfl, (hb.trans h1).put4 (b := w.heap.size + 1) (by omega) (fun _ => 0)⟩
   | true =>
    replace hP2 := hP2 hp
    clear hN
    rw [hp] at C
    simp only [if_true] at C
    replace C := Lib.hid C
    have c4 := v4.cell k hlt
    have l4 := v4.free k hlt
    go_wp2_with fail
    refine (C.out _).mono ?_; rintro e U ⟨rfl, h1⟩
    have u4 := v4.ext h1
    have d0 := u4.cell _ hlt
    have e0 := u4.free _ hlt
    go_wp2
    go_roundw
    case rel => exact ⟨_, by omega, by go_num, (hb.trans h1).setCell (p := ⟨w.heap.size + 1 + 1, _, none⟩) (by show w.heap.size ≤ w.heap.size + 1 + 1; omega) _, (v1.ext h1).far (by omega) _, (v3.ext h1).far (by omega) _, hst.out _ u4, hP2⟩
    case measure => simp [intOf]; omega
  ·obtain rfl : k = 4 := by omega
   have hd := hyes.out (fun j hj => HP.out j hj)
   subst hd
   obtain ⟨_, c0, c1, c2, c3, _, _, _, _⟩ := v4.four
   simp at c0 c1 c2 c3
   obtain ⟨_, d0, d1, d2, d3, e0, e1, e2, e3⟩ := v3.four
   clear hno hyes HP
   go_wp2
   have z0 := (((v3.set (k := 0) (v := G 0) (by omega)).set (k := 1) (v := G 1) (by omega)).set (k := 2) (v := G 2) (by omega)).set (k := 3) (v := G 3) (by omega)
   have k0 := z0.cell 0 (by omega)
   have k1 := z0.cell 1 (by omega)
   have k2 := z0.cell 2 (by omega)
   have k3 := z0.cell 3 (by omega)
   simp at k0 k1 k2 k3
   refine bodyPost_ret (v := .tuple #[.agg #[.int .u64 (G 0 : Nat), .int .u64 (G 1 : Nat), .int .u64 (G 2 : Nat), .int .u64 (G 3 : Nat)], .bool true]) (by simp [results, Tryz.results143, go_sem, k0, k1, k2, k3]) rfl ?_
   exact ⟨rfl, hb.put4 (b := w.heap.size + 1) (by omega) (fun j => G j)⟩
end Go.Proofs.YtefjdmjkofaajaaGreatDoor
namespace Go.Dm
open Go Go.RowKit
end Go.Dm
