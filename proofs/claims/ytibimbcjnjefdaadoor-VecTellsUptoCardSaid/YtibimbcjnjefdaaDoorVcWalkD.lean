/- Chapter 3: the walks of Add, Fits, Times. -/
import Derived.Test.YtibimbcjnjefdaaDoorVcWalkC
import Derived.Test.YtibimbcjnjefdaaDoorShelf
namespace Go.Dm
open Go Go.RowKit
theorem allV_add (a b : Vc) : allV (fun x y => decide (x + y < 18446744073709551616)) (vG a) (vG b) = vaddOk a b := by
  unfold allV vaddOk vG
  simp [List.range_succ, Bool.and_assoc]
theorem vadd_at {a b : Vc} {k : Nat} (hk : k < 4) : vG (vadd a b) k = vG a k + vG b k := by
  unfold vG vadd
  simp [hk]
def vtimesOk (a : Vc) (n : Nat) : Bool := (List.range 4).all fun k => decide (vG a k * n < 18446744073709551616)
def vtimes (a : Vc) (n : Nat) : Vc := (List.range 4).map fun k => vG a k * n
theorem allV_times (a : Vc) (B : Nat → Nat) (n : Nat) : allV (fun x _ => decide (x * n < 18446744073709551616)) (vG a) B = vtimesOk a n := by
  unfold allV vtimesOk
  simp [List.range_succ, Bool.and_assoc]
theorem vtimes_at {a : Vc} {n k : Nat} (hk : k < 4) : vG (vtimes a n) k = vG a k * n := by
  show (vtimes a n).getD k 0 = _
  unfold vtimes
  simp [hk]
end Go.Dm
namespace Go.Proofs.YtibimbcjnjefdaaDoor
open Go.RowKit Go.Dm

theorem bitsAdd (x y : Nat) (w : World) : (callFunc 51 #[.int .u64 (x : Nat), .int .u64 (y : Nat), .int .u64 0]).run Tryd.prog w =
    .ok (.value (.tuple #[.int .u64 (((x + y) % 18446744073709551616 : Nat) : Int), .int .u64 (((x + y) / 18446744073709551616 : Nat) : Int)])) w := by
  rw [run_callFunc_extern Tryd.func51 (by kernel_rfl) (by kernel_rfl) (by kernel_rfl) (e := add64Entry) (by kernel_rfl), run_add64 (x : Int) (y : Int) 0 (by omega) (by omega) (by omega) (by omega)]
  simp

set_option maxHeartbeats 400000 in
theorem wadd_w : Does 33 (fun x y => x + y) (fun x y => decide (x + y < 18446744073709551616)) := by
  refine ⟨fun _ _ => by kernel_rfl, fun x y w hx hy => ?_⟩
  have hb := bitsAdd x y
  unfold U64 at hx hy
  by_cases h : x + y < 18446744073709551616
  · rw [show (x + y) / 18446744073709551616 = 0 by omega, show (x + y) % 18446744073709551616 = x + y by omega] at hb
    simp only [h, decide_true, if_true]
    go_enter Tryd.func33, Tryd.ntmps33
    go_wp2
    go_ret2
    exact ⟨rfl, Ext.refl _⟩
  · rw [show (x + y) / 18446744073709551616 = 1 by omega] at hb
    simp only [h, decide_false, Bool.false_eq_true, if_false]
    go_enter Tryd.func33, Tryd.ntmps33
    go_wp2
    go_ret2
    exact ⟨rfl, Ext.refl _⟩

set_option maxHeartbeats 1000000 in
theorem vadd_w (a b : Vc) (ha : OkV a) (hb : OkV b) (w : World) :
    Calls Tryd.prog 11 #[vVal a, vVal b] w fun e w' => e = .returned (.tuple #[vVal (vOr (vaddOk a b) (vadd a b)), .bool (vaddOk a b)]) ∧ Ext w w' := by
  have C := fun w1 => both_w _ _ _ wadd_w (vG a) (vG b) ha.u64 hb.u64 w1
  rw [allV_add, vG_or _ (fun k => vG a k + vG b k) (vadd a b) (fun k hk => vadd_at hk)] at C
  unfold vVal
  generalize vG (vOr (vaddOk a b) (vadd a b)) = R at C ⊢
  generalize vaddOk a b = d at C ⊢
  generalize vG a = A at C ⊢
  generalize vG b = B at C ⊢
  have hE : Ext w (((w.alloc (.cells #[.int .u64 (A 0 : Nat), .int .u64 (A 1 : Nat), .int .u64 (A 2 : Nat), .int .u64 (A 3 : Nat)] 24)).alloc (.cells #[.int .u64 (B 0 : Nat), .int .u64 (B 1 : Nat), .int .u64 (B 2 : Nat), .int .u64 (B 3 : Nat)] 24)).alloc (.cells #[.int .u64 (0 : Nat), .int .u64 (0 : Nat), .int .u64 (0 : Nat), .int .u64 (0 : Nat)] 24)) := (((Ext.refl w).alloc _).alloc _).alloc _
  have hv : VBox (w.heap.size + 1 + 1) (fun _ => 0) (((w.alloc (.cells #[.int .u64 (A 0 : Nat), .int .u64 (A 1 : Nat), .int .u64 (A 2 : Nat), .int .u64 (A 3 : Nat)] 24)).alloc (.cells #[.int .u64 (B 0 : Nat), .int .u64 (B 1 : Nat), .int .u64 (B 2 : Nat), .int .u64 (B 3 : Nat)] 24)).alloc (.cells #[.int .u64 (0 : Nat), .int .u64 (0 : Nat), .int .u64 (0 : Nat), .int .u64 (0 : Nat)] 24)) := by
    have h := VBox.new ((w.alloc (.cells #[.int .u64 (A 0 : Nat), .int .u64 (A 1 : Nat), .int .u64 (A 2 : Nat), .int .u64 (A 3 : Nat)] 24)).alloc (.cells #[.int .u64 (B 0 : Nat), .int .u64 (B 1 : Nat), .int .u64 (B 2 : Nat), .int .u64 (B 3 : Nat)] 24)) (fun _ => 0) 24
    rw [World.size_alloc, World.size_alloc] at h
    exact h
  unfold vF at C ⊢
  replace C := Lib.hid C
  go_enter Tryd.func11, Tryd.ntmps11
  go_wp2_with fail
  refine (C.out _).mono ?_; rintro e w1 ⟨rfl, h1⟩
  have v1 := hv.ext h1
  have d0 := v1.cell 0 (by omega)
  have d1 := v1.cell 1 (by omega)
  have d2 := v1.cell 2 (by omega)
  have d3 := v1.cell 3 (by omega)
  have e0 := v1.free 0 (by omega)
  have e1 := v1.free 1 (by omega)
  have e2 := v1.free 2 (by omega)
  have e3 := v1.free 3 (by omega)
  go_wp2
  have z0 := (((v1.set (k := 0) (v := R 0) (by omega)).set (k := 1) (v := R 1) (by omega)).set (k := 2) (v := R 2) (by omega)).set (k := 3) (v := R 3) (by omega)
  have k0 := z0.cell 0 (by omega)
  have k1 := z0.cell 1 (by omega)
  have k2 := z0.cell 2 (by omega)
  have k3 := z0.cell 3 (by omega)
  simp at k0 k1 k2 k3
  refine bodyPost_ret (v := .tuple #[.agg #[.int .u64 (R 0 : Nat), .int .u64 (R 1 : Nat), .int .u64 (R 2 : Nat), .int .u64 (R 3 : Nat)], .bool d]) (by simp [results, Tryd.results11, go_sem, k0, k1, k2, k3]) rfl ?_
  exact ⟨rfl, ((((hE.trans h1).setCell (p := ⟨w.heap.size + 1 + 1, 0, none⟩) (Nat.le_add_right _ 2) _).setCell (p := ⟨w.heap.size + 1 + 1, 1, none⟩) (Nat.le_add_right _ 2) _).setCell (p := ⟨w.heap.size + 1 + 1, 2, none⟩) (Nat.le_add_right _ 2) _).setCell (p := ⟨w.heap.size + 1 + 1, 3, none⟩) (Nat.le_add_right _ 2) _⟩

theorem vfits_w (a b : Vc) (ha : OkV a) (hb : OkV b) (w : World) :
    Calls Tryd.prog 24 #[vVal a, vVal b] w fun e w' => e = .returned (.bool (vfits a b)) ∧ Ext w w' := by
  have C := fun w1 => vsub_w b a hb ha w1
  unfold vVal at C ⊢
  generalize vG (vOr (vfits a b) (vsub b a)) = R at C
  generalize vfits a b = d at C ⊢
  generalize vG a = A at C ⊢
  generalize vG b = B at C ⊢
  have hE : Ext w ((w.alloc (.cells #[.int .u64 (A 0 : Nat), .int .u64 (A 1 : Nat), .int .u64 (A 2 : Nat), .int .u64 (A 3 : Nat)] 24)).alloc (.cells #[.int .u64 (B 0 : Nat), .int .u64 (B 1 : Nat), .int .u64 (B 2 : Nat), .int .u64 (B 3 : Nat)] 24)) := ((Ext.refl w).alloc _).alloc _
  unfold vF at C ⊢
  replace C := Lib.hid C
  go_enter Tryd.func24, Tryd.ntmps24
  go_wp2_with fail
  refine (C.out _).mono ?_; rintro e w1 ⟨rfl, h1⟩
  go_wp2
  go_ret
  exact ⟨rfl, hE.trans (h1.trans ((Ext.refl _).alloc _))⟩

theorem wmul_w (x y : Nat) (hx : U64 x) (hy : U64 y) (w : World) :
    Calls Tryd.prog 38 #[.int .u64 (x : Nat), .int .u64 (y : Nat)] w fun e w' => e = .returned (.tuple #[.int .u64 ((if decide (x * y < 18446744073709551616) then x * y else 0 : Nat) : Int), .bool (decide (x * y < 18446744073709551616))]) ∧ Ext w w' := by
  have C := Tryd.bits_Mul64 x y hx hy
  by_cases h : x * y < 18446744073709551616
  · rw [Nat.div_eq_of_lt h, Nat.mod_eq_of_lt h] at C
    simp only [h, decide_true, if_true]
    generalize x * y = z at *
    replace C := Lib.hid C
    go_enter Tryd.func38, Tryd.ntmps38
    go_wp2_with fail
    refine (C.out _).mono ?_; rintro e w1 ⟨rfl, rfl⟩
    go_wp2
    go_ret2
    exact ⟨rfl, Ext.refl _⟩
  · have h2 : 0 < x * y / 18446744073709551616 := Nat.div_pos (by omega) (by omega)
    simp only [h, decide_false, Bool.false_eq_true, if_false]
    generalize x * y / 18446744073709551616 = z at *
    generalize x * y % 18446744073709551616 = z2 at *
    have h3 : ¬ ((z : Int) = 0) := by omega
    replace C := Lib.hid C
    go_enter Tryd.func38, Tryd.ntmps38
    go_wp2_with fail
    refine (C.out _).mono ?_; rintro e w1 ⟨rfl, rfl⟩
    go_wp2
    go_ret2
    exact ⟨rfl, Ext.refl _⟩

theorem times1_w (x y m c : Nat) (w : World) (hx : U64 x) (hm : U64 m) (_hc : c < w.heap.size) (hcc : w.cell? ⟨c, 0, none⟩ = some (.int .u64 (m : Nat))) :
    Calls Tryd.prog 37 #[.int .u64 (x : Nat), .int .u64 (y : Nat), .pointer (some ⟨c, 0, none⟩)] w fun e w' => e = .returned (.tuple #[.int .u64 ((if decide (x * m < 18446744073709551616) then x * m else 0 : Nat) : Int), .bool (decide (x * m < 18446744073709551616))]) ∧ Ext w w' := by
  have C := wmul_w x m hx hm w
  generalize decide (x * m < 18446744073709551616) = d at *
  generalize (if d then x * m else 0 : Nat) = z at *
  replace C := Lib.hid C
  go_enter Tryd.func37, Tryd.ntmps37
  go_wp2_with fail
  refine C.out.mono ?_; rintro e w1 ⟨rfl, h1⟩
  go_wp2
  go_ret2
  exact ⟨rfl, h1⟩

end Go.Proofs.YtibimbcjnjefdaaDoor
