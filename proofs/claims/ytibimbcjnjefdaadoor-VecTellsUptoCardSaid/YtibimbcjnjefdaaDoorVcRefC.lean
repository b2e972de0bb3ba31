/- Chapter 3: the walks of the document's Add, Times, Fits, Put. -/
import Derived.Test.YtibimbcjnjefdaaDoorVcRefA
import Derived.Test.YtibimbcjnjefdaaDoorVcWalkD
namespace Go.Proofs.YtibimbcjnjefdaaDoor
open Go.RowKit Go.Dm

theorem r01add_w (x y : Nat) (hx : U64 x) (hy : U64 y) (w : World) :
    Calls Tryd.prog 34 #[.int .u64 (x : Nat), .int .u64 (y : Nat)] w fun e w' => e = .returned (.tuple #[.int .u64 ((if decide (x + y < 18446744073709551616) then x + y else 0 : Nat) : Int), .bool (decide (x + y < 18446744073709551616))]) ∧ Ext w w' := by
  have hy' : y < 18446744073709551616 := hy
  have hx' : x < 18446744073709551616 := hx
  have hw : IntKind.u64.wrap (18446744073709551615 - (y : Int)) = ((18446744073709551615 - y : Nat) : Int) := by
    rw [show ((18446744073709551615 : Int) - (y : Int)) = ((18446744073709551615 - y : Nat) : Int) by omega]
    simp only [IntKind.wrap, IntKind.bits, IntKind.signed]
    simp; omega
  by_cases h : x + y < 18446744073709551616
  · have hs : IntKind.u64.wrap ((x : Int) + (y : Int)) = ((x + y : Nat) : Int) := by
      rw [← Int.natCast_add]
      simp only [IntKind.wrap, IntKind.bits, IntKind.signed]
      simp; omega
    rw [decide_eq_true h]
    simp only [if_true]
    have hlt : ¬ (((18446744073709551615 - y : Nat) : Int) < (x : Int)) := by omega
    generalize x + y = s at *
    generalize 18446744073709551615 - y = m at *
    go_enter Tryd.func34, Tryd.ntmps34
    go_wp2
    go_ret2
    exact ⟨rfl, Ext.refl _⟩
  · rw [decide_eq_false h]
    simp only [Bool.false_eq_true, if_false]
    have hlt : (((18446744073709551615 - y : Nat) : Int) < (x : Int)) := by omega
    generalize 18446744073709551615 - y = m at *
    go_enter Tryd.func34, Tryd.ntmps34
    go_wp2
    go_ret2
    exact ⟨rfl, Ext.refl _⟩

set_option maxHeartbeats 4000000 in
set_option maxRecDepth 100000 in
theorem r03add_w (a b : Vc) (ha : OkV a) (hb : OkV b) (w : World) :
    Calls Tryd.prog 12 #[vVal a, vVal b] w fun e w' => e = .returned (.tuple #[vVal (vOr (vaddOk a b) (vadd a b)), .bool (vaddOk a b)]) ∧ Ext w w' := by
  have hR := vG_or (vaddOk a b) (fun k => vG a k + vG b k) (vadd a b) (fun k hk => vadd_at hk)
  have hno := fun k (hk : k < 4) h => allV_no (p := fun x y => decide (x + y < 18446744073709551616)) (A := vG a) (B := vG b) hk h
  have hyes := allV_yes (p := fun x y => decide (x + y < 18446744073709551616)) (A := vG a) (B := vG b)
  rw [allV_add] at hno hyes
  have hA : ∀ k, U64 (vG a k) := ha.u64
  have hB : ∀ k, U64 (vG b k) := hb.u64
  unfold vVal
  rw [← hR]
  clear hR ha hb
  generalize vaddOk a b = d at *
  generalize vG a = A at *
  generalize vG b = B at *
  have hC := fun (k : Nat) U => r01add_w (A k) (B k) (hA k) (hB k) U
  obtain ⟨G, hG⟩ : ∃ G : Nat → Nat, ∀ k, A k + B k = G k := ⟨fun k => A k + B k, fun _ => rfl⟩
  simp only [hG] at hno hyes hC ⊢
  clear hG
  replace hno := Lib.hid hno
  replace hyes := Lib.hid hyes
  replace hC := Lib.hid hC
  unfold vF
  go_enter Tryd.func12, Tryd.ntmps12
  go_wp2
  go_loopw [7] (fun i wr => ∃ k : Nat, k ≤ 4 ∧ i = .int .i64 k ∧ Ext w wr ∧ VBox w.heap.size A wr ∧ VBox (w.heap.size + 1) B wr ∧ VBox (w.heap.size + 1 + 1) (fun _ => 0) wr ∧ VBox (w.heap.size + 1 + 1 + 1) (fun j => if j < k then G j else 0) wr ∧ Hid (∀ j, j < k → decide (G j < 18446744073709551616) = true)) (fun i _ => 4 - (intOf i).toNat)
  case atStart =>
    refine ⟨0, by omega, rfl, ((((Ext.refl w).alloc _).alloc _).alloc _).alloc _, (VBox.new w A _).ext ((((Ext.refl _).alloc _).alloc _).alloc _), ?_, ?_, ?_, fun j hj => by omega⟩
    · have h := VBox.new (w.alloc (.cells #[.int .u64 (A 0 : Nat), .int .u64 (A 1 : Nat), .int .u64 (A 2 : Nat), .int .u64 (A 3 : Nat)] 28)) B 28
      rw [World.size_alloc] at h
      exact h.ext (((Ext.refl _).alloc _).alloc _)
    · have h := VBox.new ((w.alloc (.cells #[.int .u64 (A 0 : Nat), .int .u64 (A 1 : Nat), .int .u64 (A 2 : Nat), .int .u64 (A 3 : Nat)] 28)).alloc (.cells #[.int .u64 (B 0 : Nat), .int .u64 (B 1 : Nat), .int .u64 (B 2 : Nat), .int .u64 (B 3 : Nat)] 28)) (fun _ => 0) 28
      rw [World.size_alloc, World.size_alloc] at h
      exact h.ext ((Ext.refl _).alloc _)
    · have h := VBox.new (((w.alloc (.cells #[.int .u64 (A 0 : Nat), .int .u64 (A 1 : Nat), .int .u64 (A 2 : Nat), .int .u64 (A 3 : Nat)] 28)).alloc (.cells #[.int .u64 (B 0 : Nat), .int .u64 (B 1 : Nat), .int .u64 (B 2 : Nat), .int .u64 (B 3 : Nat)] 28)).alloc (.cells #[.int .u64 (0 : Nat), .int .u64 (0 : Nat), .int .u64 (0 : Nat), .int .u64 (0 : Nat)] 28)) (fun _ => 0) 28
      rw [World.size_alloc, World.size_alloc, World.size_alloc] at h
      exact h.congr fun j _ => by simp
  case round =>
    obtain ⟨k, hk, rfl, hb, v1, v2, v3, v4, HP⟩ := hrel
    by_cases hlt : k < 4
    · have hN := hno.out k hlt
      have hP2 : decide (G k < 18446744073709551616) = true → Hid (∀ j, j < k + 1 → decide (G j < 18446744073709551616) = true) := fun h j hj => by
        rcases Nat.lt_succ_iff_lt_or_eq.1 hj with h' | rfl
        · exact HP.out j h'
        · exact h
      have hst : ∀ w', VBox (w.heap.size + 1 + 1 + 1) (fun j => if j < k then G j else 0) w' → VBox (w.heap.size + 1 + 1 + 1) (fun j => if j < k + 1 then G j else 0) (w'.setCell ⟨w.heap.size + 1 + 1 + 1, k, none⟩ (.int .u64 (G k : Nat))) := fun w' h => (h.set hlt).congr fun j _ => by
        by_cases e : j = k
        · subst e; simp
        · by_cases h2 : j < k
          · simp [e, h2, Nat.lt_succ_of_lt h2]
          · have : ¬ j < k + 1 := by omega
            simp [e, h2, this]
      replace hst := Lib.hid hst
      have c1 := v1.cell k hlt
      have c2 := v2.cell k hlt
      have l1 := v1.lt
      have l2 := v2.lt
      have C := fun U => hC.out k U
      cases hp : decide (G k < 18446744073709551616) with
      | false =>
        have hd := hN hp
        subst hd
        clear hN hP2 hst
        rw [hp] at C
        simp only [Bool.false_eq_true, if_false] at C ⊢
        replace C := Lib.hid C
        go_wp2_with fail
        refine Dm.wp_region_grow (by kernel_rfl) (by kernel_rfl) ?_
        repeat (go_big_quiet_step (first
          | (go_at_call 34; with_reducible exact Calls.quietE (C.out _))))
        refine wpQuiet_nil ?_
        intro U h1
        obtain ⟨_, d0, d1, d2, d3, e0, e1, e2, e3⟩ := (v3.ext h1).four
        go_wp2
        have z0 := ((((v3.ext h1).set (k := 0) (v := 0) (by omega)).set (k := 1) (v := 0) (by omega)).set (k := 2) (v := 0) (by omega)).set (k := 3) (v := 0) (by omega)
        have k0 := z0.cell 0 (by omega)
        have k1 := z0.cell 1 (by omega)
        have k2 := z0.cell 2 (by omega)
        have k3 := z0.cell 3 (by omega)
        simp at k0 k1 k2 k3
        refine bodyPost_ret (v := .tuple #[.agg #[.int .u64 0, .int .u64 0, .int .u64 0, .int .u64 0], .bool false]) (by simp [results, Tryd.results12, go_sem, k0, k1, k2, k3]) rfl ?_
        exact ⟨rfl, (hb.trans h1).put4 (b := w.heap.size + 1 + 1) (by omega) (fun _ => 0)⟩
      | true =>
        replace hP2 := hP2 hp
        clear hN
        rw [hp] at C
        simp only [if_true] at C
        replace C := Lib.hid C
        have c4 := v4.cell k hlt
        have l4 := v4.free k hlt
        go_wp2_with fail
        refine Dm.wp_region_grow (by kernel_rfl) (by kernel_rfl) ?_
        repeat (go_big_quiet_step (first
          | (go_at_call 34; with_reducible exact Calls.quietE (C.out _))))
        refine wpQuiet_nil ?_
        intro U h1
        have u4 := v4.ext h1
        have d0 := u4.cell _ hlt
        have e0 := u4.free _ hlt
        go_wp2
        go_roundw
        case rel => exact ⟨_, by omega, by go_num, (hb.trans h1).setCell (p := ⟨w.heap.size + 1 + 1 + 1, _, none⟩) (by show w.heap.size ≤ w.heap.size + 1 + 1 + 1; omega) _, (v1.ext h1).far (by omega) _, (v2.ext h1).far (by omega) _, (v3.ext h1).far (by omega) _, hst.out _ u4, hP2⟩
        case measure => simp [intOf]; omega
    · obtain rfl : k = 4 := by omega
      have hd := hyes.out (fun j hj => HP.out j hj)
      subst hd
      obtain ⟨_, c0, c1, c2, c3, _, _, _, _⟩ := v4.four
      simp at c0 c1 c2 c3
      obtain ⟨_, d0, d1, d2, d3, e0, e1, e2, e3⟩ := v3.four
      clear hno hyes HP
      go_wp2
      have z0 := (((v3.set (k := 0) (v := G 0) (by omega)).set (k := 1) (v := G 1) (by omega)).set (k := 2) (v := G 2) (by omega)).set (k := 3) (v := G 3) (by omega)
      have k0 := z0.cell 0 (by omega)
      have k1 := z0.cell 1 (by omega)
      have k2 := z0.cell 2 (by omega)
      have k3 := z0.cell 3 (by omega)
      simp at k0 k1 k2 k3
      refine bodyPost_ret (v := .tuple #[.agg #[.int .u64 (G 0 : Nat), .int .u64 (G 1 : Nat), .int .u64 (G 2 : Nat), .int .u64 (G 3 : Nat)], .bool true]) (by simp [results, Tryd.results12, go_sem, k0, k1, k2, k3]) rfl ?_
      exact ⟨rfl, hb.put4 (b := w.heap.size + 1 + 1) (by omega) (fun j => G j)⟩

theorem r01mul_w (x y : Nat) (hx : U64 x) (hy : U64 y) (w : World) :
    Calls Tryd.prog 39 #[.int .u64 (x : Nat), .int .u64 (y : Nat)] w fun e w' => e = .returned (.tuple #[.int .u64 ((if decide (x * y < 18446744073709551616) then x * y else 0 : Nat) : Int), .bool (decide (x * y < 18446744073709551616))]) ∧ Ext w w' := by
  have hy' : y < 18446744073709551616 := hy
  have hx' : x < 18446744073709551616 := hx
  by_cases h0 : y = 0
  · subst h0
    have hs : IntKind.u64.wrap ((x : Int) * 0) = 0 := by simp [IntKind.wrap, IntKind.bits, IntKind.signed]
    simp only [Nat.mul_zero, decide_eq_true (show 0 < 18446744073709551616 by omega), if_true]
    go_enter Tryd.func39, Tryd.ntmps39
    go_wp2
    go_ret2
    exact ⟨rfl, Ext.refl _⟩
  · have hyz : ((y : Int) == 0) = false := by simp; omega
    have hyz2 : ¬ ((y : Int) = 0) := by omega
    have hq : ((18446744073709551615 : Int) / (y : Int)) = ((18446744073709551615 / y : Nat) : Int) := by rw [Int.natCast_ediv]; rfl
    have hiff : x ≤ 18446744073709551615 / y ↔ x * y < 18446744073709551616 := by
      rw [Nat.le_div_iff_mul_le (by omega)]; omega
    by_cases h : x * y < 18446744073709551616
    · have hs : IntKind.u64.wrap ((x : Int) * (y : Int)) = ((x * y : Nat) : Int) := by
        rw [← Int.natCast_mul]
        simp only [IntKind.wrap, IntKind.bits, IntKind.signed]
        simp; omega
      rw [decide_eq_true h]
      simp only [if_true]
      have hlt : ¬ ((18446744073709551615 : Int) / (y : Int) < (x : Int)) := by
        have := hiff.2 h
        rw [hq]
        omega
      clear hq hiff
      generalize x * y = s at *
      go_enter Tryd.func39, Tryd.ntmps39
      go_wp2
      go_ret2
      exact ⟨rfl, Ext.refl _⟩
    · rw [decide_eq_false h]
      simp only [Bool.false_eq_true, if_false]
      have hlt : ((18446744073709551615 : Int) / (y : Int) < (x : Int)) := by
        have : ¬ x ≤ 18446744073709551615 / y := fun e => h (hiff.1 e)
        rw [hq]
        omega
      clear hq hiff
      go_enter Tryd.func39, Tryd.ntmps39
      go_wp2
      go_ret2
      exact ⟨rfl, Ext.refl _⟩

set_option maxHeartbeats 4000000 in
set_option maxRecDepth 100000 in
theorem r03times_w (a : Vc) (n : Nat) (ha : OkV a) (hn : U64 n) (w : World) :
    Calls Tryd.prog 17 #[vVal a, .int .u64 (n : Nat)] w fun e w' => e = .returned (.tuple #[vVal (vOr (vtimesOk a n) (vtimes a n)), .bool (vtimesOk a n)]) ∧ Ext w w' := by
  have hR := vG_or (vtimesOk a n) (fun k => vG a k * n) (vtimes a n) (fun k hk => vtimes_at hk)
  have hno := fun k (hk : k < 4) h => allV_no (p := fun x _ => decide (x * n < 18446744073709551616)) (A := vG a) (B := fun _ => 0) hk h
  have hyes := allV_yes (p := fun x _ => decide (x * n < 18446744073709551616)) (A := vG a) (B := fun _ => 0)
  rw [allV_times] at hno hyes
  have hA : ∀ k, U64 (vG a k) := ha.u64
  unfold vVal
  rw [← hR]
  clear hR ha
  generalize vtimesOk a n = d at *
  generalize vG a = A at *
  have hC := fun (k : Nat) U => r01mul_w (A k) n (hA k) hn U
  obtain ⟨G, hG⟩ : ∃ G : Nat → Nat, ∀ k, A k * n = G k := ⟨fun k => A k * n, fun _ => rfl⟩
  simp only [hG] at hno hyes hC ⊢
  clear hG
  replace hno := Lib.hid hno
  replace hyes := Lib.hid hyes
  replace hC := Lib.hid hC
  unfold vF
  go_enter Tryd.func17, Tryd.ntmps17
  go_wp2
  go_loopw [7] (fun i wr => ∃ k : Nat, k ≤ 4 ∧ i = .int .i64 k ∧ Ext w wr ∧ VBox w.heap.size A wr ∧ VBox (w.heap.size + 1) (fun _ => 0) wr ∧ VBox (w.heap.size + 1 + 1) (fun j => if j < k then G j else 0) wr ∧ Hid (∀ j, j < k → decide (G j < 18446744073709551616) = true)) (fun i _ => 4 - (intOf i).toNat)
  case atStart =>
    refine ⟨0, by omega, rfl, (((Ext.refl w).alloc _).alloc _).alloc _, (VBox.new w A _).ext (((Ext.refl _).alloc _).alloc _), ?_, ?_, fun j hj => by omega⟩
    · have h := VBox.new (w.alloc (.cells #[.int .u64 (A 0 : Nat), .int .u64 (A 1 : Nat), .int .u64 (A 2 : Nat), .int .u64 (A 3 : Nat)] 28)) (fun _ => 0) 28
      rw [World.size_alloc] at h
      exact h.ext ((Ext.refl _).alloc _)
    · have h := VBox.new ((w.alloc (.cells #[.int .u64 (A 0 : Nat), .int .u64 (A 1 : Nat), .int .u64 (A 2 : Nat), .int .u64 (A 3 : Nat)] 28)).alloc (.cells #[.int .u64 (0 : Nat), .int .u64 (0 : Nat), .int .u64 (0 : Nat), .int .u64 (0 : Nat)] 28)) (fun _ => 0) 28
      rw [World.size_alloc, World.size_alloc] at h
      exact h.congr fun j _ => by simp
  case round =>
    obtain ⟨k, hk, rfl, hb, v1, v3, v4, HP⟩ := hrel
    by_cases hlt : k < 4
    · have hN := hno.out k hlt
      have hP2 : decide (G k < 18446744073709551616) = true → Hid (∀ j, j < k + 1 → decide (G j < 18446744073709551616) = true) := fun h j hj => by
        rcases Nat.lt_succ_iff_lt_or_eq.1 hj with h' | rfl
        · exact HP.out j h'
        · exact h
      have hst : ∀ w', VBox (w.heap.size + 1 + 1) (fun j => if j < k then G j else 0) w' → VBox (w.heap.size + 1 + 1) (fun j => if j < k + 1 then G j else 0) (w'.setCell ⟨w.heap.size + 1 + 1, k, none⟩ (.int .u64 (G k : Nat))) := fun w' h => (h.set hlt).congr fun j _ => by
        by_cases e : j = k
        · subst e; simp
        · by_cases h2 : j < k
          · simp [e, h2, Nat.lt_succ_of_lt h2]
          · have : ¬ j < k + 1 := by omega
            simp [e, h2, this]
      replace hst := Lib.hid hst
      have c1 := v1.cell k hlt
      have l1 := v1.lt
      have C := fun U => hC.out k U
      cases hp : decide (G k < 18446744073709551616) with
      | false =>
        have hd := hN hp
        subst hd
        clear hN hP2 hst
        rw [hp] at C
        simp only [Bool.false_eq_true, if_false] at C ⊢
        replace C := Lib.hid C
        go_wp2_with fail
        refine (C.out _).mono ?_; rintro e U ⟨rfl, h1⟩
        obtain ⟨_, d0, d1, d2, d3, e0, e1, e2, e3⟩ := (v3.ext h1).four
        go_wp2
        have z0 := ((((v3.ext h1).set (k := 0) (v := 0) (by omega)).set (k := 1) (v := 0) (by omega)).set (k := 2) (v := 0) (by omega)).set (k := 3) (v := 0) (by omega)
        have k0 := z0.cell 0 (by omega)
        have k1 := z0.cell 1 (by omega)
        have k2 := z0.cell 2 (by omega)
        have k3 := z0.cell 3 (by omega)
        simp at k0 k1 k2 k3
        refine bodyPost_ret (v := .tuple #[.agg #[.int .u64 0, .int .u64 0, .int .u64 0, .int .u64 0], .bool false]) (by simp [results, Tryd.results17, go_sem, k0, k1, k2, k3]) rfl ?_
        exact ⟨rfl, (hb.trans h1).put4 (b := w.heap.size + 1) (by omega) (fun _ => 0)⟩
      | true =>
        replace hP2 := hP2 hp
        clear hN
        rw [hp] at C
        simp only [if_true] at C
        replace C := Lib.hid C
        have c4 := v4.cell k hlt
        have l4 := v4.free k hlt
        go_wp2_with fail
        refine (C.out _).mono ?_; rintro e U ⟨rfl, h1⟩
        have u4 := v4.ext h1
        have d0 := u4.cell _ hlt
        have e0 := u4.free _ hlt
        go_wp2
        go_roundw
        case rel => exact ⟨_, by omega, by go_num, (hb.trans h1).setCell (p := ⟨w.heap.size + 1 + 1, _, none⟩) (by show w.heap.size ≤ w.heap.size + 1 + 1; omega) _, (v1.ext h1).far (by omega) _, (v3.ext h1).far (by omega) _, hst.out _ u4, hP2⟩
        case measure => simp [intOf]; omega
    · obtain rfl : k = 4 := by omega
      have hd := hyes.out (fun j hj => HP.out j hj)
      subst hd
      obtain ⟨_, c0, c1, c2, c3, _, _, _, _⟩ := v4.four
      simp at c0 c1 c2 c3
      obtain ⟨_, d0, d1, d2, d3, e0, e1, e2, e3⟩ := v3.four
      clear hno hyes HP
      go_wp2
      have z0 := (((v3.set (k := 0) (v := G 0) (by omega)).set (k := 1) (v := G 1) (by omega)).set (k := 2) (v := G 2) (by omega)).set (k := 3) (v := G 3) (by omega)
      have k0 := z0.cell 0 (by omega)
      have k1 := z0.cell 1 (by omega)
      have k2 := z0.cell 2 (by omega)
      have k3 := z0.cell 3 (by omega)
      simp at k0 k1 k2 k3
      refine bodyPost_ret (v := .tuple #[.agg #[.int .u64 (G 0 : Nat), .int .u64 (G 1 : Nat), .int .u64 (G 2 : Nat), .int .u64 (G 3 : Nat)], .bool true]) (by simp [results, Tryd.results17, go_sem, k0, k1, k2, k3]) rfl ?_
      exact ⟨rfl, hb.put4 (b := w.heap.size + 1) (by omega) (fun j => G j)⟩

end Go.Proofs.YtibimbcjnjefdaaDoor
