/- Chapter 3: the walks of the document's Sub, Order. -/
import Derived.Test.YtibimbcjnjefdaaDoorVcWalkC
import Derived.Test.YtibimbcjnjefdaaDoorVcBox
namespace Go.Proofs.YtibimbcjnjefdaaDoor
open Go.RowKit Go.Dm

theorem r01sub_w (x y : Nat) (hx : U64 x) (_hy : U64 y) (w : World) :
    Calls Tryd.prog 36 #[.int .u64 (x : Nat), .int .u64 (y : Nat)] w fun e w' => e = .returned (.tuple #[.int .u64 ((if decide (y ≤ x) then x - y else 0 : Nat) : Int), .bool (decide (y ≤ x))]) ∧ Ext w w' := by
  by_cases h : y ≤ x
  · have hw : IntKind.u64.wrap ((x : Int) - (y : Int)) = ((x - y : Nat) : Int) := by
      have hx' : x < 18446744073709551616 := hx
      rw [show ((x : Int) - (y : Int)) = ((x - y : Nat) : Int) by omega]
      simp only [IntKind.wrap, IntKind.bits, IntKind.signed]
      simp; omega
    rw [decide_eq_true h]
    simp only [if_true]
    have hlt : ¬ ((x : Int) < (y : Int)) := by omega
    go_enter Tryd.func36, Tryd.ntmps36
    go_wp2
    go_ret2
    exact ⟨rfl, Ext.refl _⟩
  · rw [decide_eq_false h]
    simp only [Bool.false_eq_true, if_false]
    have hlt : ((x : Int) < (y : Int)) := by omega
    go_enter Tryd.func36, Tryd.ntmps36
    go_wp2
    go_ret2
    exact ⟨rfl, Ext.refl _⟩

set_option maxHeartbeats 4000000 in
set_option maxRecDepth 100000 in
theorem r03sub_w (a b : Vc) (ha : OkV a) (hb : OkV b) (w : World) :
    Calls Tryd.prog 15 #[vVal a, vVal b] w fun e w' => e = .returned (.tuple #[vVal (vOr (vfits b a) (vsub a b)), .bool (vfits b a)]) ∧ Ext w w' := by
  have hR := vG_or (vfits b a) (fun k => vG a k - vG b k) (vsub a b) (fun k hk => vsub_at hk)
  have hno := fun k (hk : k < 4) h => allV_no (p := fun x y => decide (y ≤ x)) (A := vG a) (B := vG b) hk h
  have hyes := allV_yes (p := fun x y => decide (y ≤ x)) (A := vG a) (B := vG b)
  rw [allV_fits] at hno hyes
  have hA : ∀ k, U64 (vG a k) := ha.u64
  have hB : ∀ k, U64 (vG b k) := hb.u64
  unfold vVal
  rw [← hR]
  clear hR ha hb
  generalize vfits b a = d at *
  generalize vG a = A at *
  generalize vG b = B at *
  have hC := fun (k : Nat) U => r01sub_w (A k) (B k) (hA k) (hB k) U
  replace hno := Lib.hid hno
  replace hyes := Lib.hid hyes
  replace hC := Lib.hid hC
  unfold vF
  go_enter Tryd.func15, Tryd.ntmps15
  go_wp2
  go_loopw [7] (fun i wr => ∃ k : Nat, k ≤ 4 ∧ i = .int .i64 k ∧ Ext w wr ∧ VBox w.heap.size A wr ∧ VBox (w.heap.size + 1) B wr ∧ VBox (w.heap.size + 1 + 1) (fun _ => 0) wr ∧ VBox (w.heap.size + 1 + 1 + 1) (fun j => if j < k then A j - B j else 0) wr ∧ Hid (∀ j, j < k → decide (B j ≤ A j) = true)) (fun i _ => 4 - (intOf i).toNat)
  case atStart =>
    refine ⟨0, by omega, rfl, ((((Ext.refl w).alloc _).alloc _).alloc _).alloc _, (VBox.new w A _).ext ((((Ext.refl _).alloc _).alloc _).alloc _), ?_, ?_, ?_, fun j hj => by omega⟩
    · have h := VBox.new (w.alloc (.cells #[.int .u64 (A 0 : Nat), .int .u64 (A 1 : Nat), .int .u64 (A 2 : Nat), .int .u64 (A 3 : Nat)] 28)) B 28
      rw [World.size_alloc] at h
      exact h.ext (((Ext.refl _).alloc _).alloc _)
    · have h := VBox.new ((w.alloc (.cells #[.int .u64 (A 0 : Nat), .int .u64 (A 1 : Nat), .int .u64 (A 2 : Nat), .int .u64 (A 3 : Nat)] 28)).alloc (.cells #[.int .u64 (B 0 : Nat), .int .u64 (B 1 : Nat), .int .u64 (B 2 : Nat), .int .u64 (B 3 : Nat)] 28)) (fun _ => 0) 28
      rw [World.size_alloc, World.size_alloc] at h
      exact h.ext ((Ext.refl _).alloc _)
    · have h := VBox.new (((w.alloc (.cells #[.int .u64 (A 0 : Nat), .int .u64 (A 1 : Nat), .int .u64 (A 2 : Nat), .int .u64 (A 3 : Nat)] 28)).alloc (.cells #[.int .u64 (B 0 : Nat), .int .u64 (B 1 : Nat), .int .u64 (B 2 : Nat), .int .u64 (B 3 : Nat)] 28)).alloc (.cells #[.int .u64 (0 : Nat), .int .u64 (0 : Nat), .int .u64 (0 : Nat), .int .u64 (0 : Nat)] 28)) (fun _ => 0) 28
      rw [World.size_alloc, World.size_alloc, World.size_alloc] at h
      exact h.congr fun j _ => by simp
  case round =>
    obtain ⟨k, hk, rfl, hb, v1, v2, v3, v4, HP⟩ := hrel
    by_cases hlt : k < 4
    · have hN := hno.out k hlt
      have hP2 : decide (B k ≤ A k) = true → Hid (∀ j, j < k + 1 → decide (B j ≤ A j) = true) := fun h j hj => by
        rcases Nat.lt_succ_iff_lt_or_eq.1 hj with h' | rfl
        · exact HP.out j h'
        · exact h
      have hst : ∀ w', VBox (w.heap.size + 1 + 1 + 1) (fun j => if j < k then A j - B j else 0) w' → VBox (w.heap.size + 1 + 1 + 1) (fun j => if j < k + 1 then A j - B j else 0) (w'.setCell ⟨w.heap.size + 1 + 1 + 1, k, none⟩ (.int .u64 (A k - B k : Nat))) := fun w' h => (h.set hlt).congr fun j _ => by
        by_cases e : j = k
        · subst e; simp
        · by_cases h2 : j < k
          · simp [e, h2, Nat.lt_succ_of_lt h2]
          · have : ¬ j < k + 1 := by omega
            simp [e, h2, this]
      replace hst := Lib.hid hst
      have c1 := v1.cell k hlt
      have c2 := v2.cell k hlt
      have l1 := v1.lt
      have l2 := v2.lt
      have C := fun U => hC.out k U
      cases hp : decide (B k ≤ A k) with
      | false =>
        have hd := hN hp
        subst hd
        clear hN hP2 hst
        rw [hp] at C
        simp only [Bool.false_eq_true, if_false] at C ⊢
        replace C := Lib.hid C
        go_wp2_with fail
        refine Dm.wp_region_grow (by kernel_rfl) (by kernel_rfl) ?_
        repeat (go_big_quiet_step (first
          | (go_at_call 36; with_reducible exact Calls.quietE (C.out _))))
        refine wpQuiet_nil ?_
        intro U h1
        obtain ⟨_, d0, d1, d2, d3, e0, e1, e2, e3⟩ := (v3.ext h1).four
        go_wp2
        have z0 := ((((v3.ext h1).set (k := 0) (v := 0) (by omega)).set (k := 1) (v := 0) (by omega)).set (k := 2) (v := 0) (by omega)).set (k := 3) (v := 0) (by omega)
        have k0 := z0.cell 0 (by omega)
        have k1 := z0.cell 1 (by omega)
        have k2 := z0.cell 2 (by omega)
        have k3 := z0.cell 3 (by omega)
        simp at k0 k1 k2 k3
        refine bodyPost_ret (v := .tuple #[.agg #[.int .u64 0, .int .u64 0, .int .u64 0, .int .u64 0], .bool false]) (by simp [results, Tryd.results15, go_sem, k0, k1, k2, k3]) rfl ?_
        exact ⟨rfl, (hb.trans h1).put4 (b := w.heap.size + 1 + 1) (by omega) (fun _ => 0)⟩
      | true =>
        replace hP2 := hP2 hp
        clear hN
        rw [hp] at C
        simp only [if_true] at C
        replace C := Lib.hid C
        have c4 := v4.cell k hlt
        have l4 := v4.free k hlt
        go_wp2_with fail
        refine Dm.wp_region_grow (by kernel_rfl) (by kernel_rfl) ?_
        repeat (go_big_quiet_step (first
          | (go_at_call 36; with_reducible exact Calls.quietE (C.out _))))
        refine wpQuiet_nil ?_
        intro U h1
        have u4 := v4.ext h1
        have d0 := u4.cell _ hlt
        have e0 := u4.free _ hlt
        go_wp2
        go_roundw
        case rel => exact ⟨_, by omega, by go_num, (hb.trans h1).setCell (p := ⟨w.heap.size + 1 + 1 + 1, _, none⟩) (by show w.heap.size ≤ w.heap.size + 1 + 1 + 1; omega) _, (v1.ext h1).far (by omega) _, (v2.ext h1).far (by omega) _, (v3.ext h1).far (by omega) _, hst.out _ u4, hP2⟩
        case measure => simp [intOf]; omega
    · obtain rfl : k = 4 := by omega
      have hd := hyes.out (fun j hj => HP.out j hj)
      subst hd
      obtain ⟨_, c0, c1, c2, c3, _, _, _, _⟩ := v4.four
      simp at c0 c1 c2 c3
      obtain ⟨_, d0, d1, d2, d3, e0, e1, e2, e3⟩ := v3.four
      clear hno hyes HP
      go_wp2
      have z0 := (((v3.set (k := 0) (v := A 0 - B 0) (by omega)).set (k := 1) (v := A 1 - B 1) (by omega)).set (k := 2) (v := A 2 - B 2) (by omega)).set (k := 3) (v := A 3 - B 3) (by omega)
      have k0 := z0.cell 0 (by omega)
      have k1 := z0.cell 1 (by omega)
      have k2 := z0.cell 2 (by omega)
      have k3 := z0.cell 3 (by omega)
      simp at k0 k1 k2 k3
      refine bodyPost_ret (v := .tuple #[.agg #[.int .u64 (A 0 - B 0 : Nat), .int .u64 (A 1 - B 1 : Nat), .int .u64 (A 2 - B 2 : Nat), .int .u64 (A 3 - B 3 : Nat)], .bool true]) (by simp [results, Tryd.results15, go_sem, k0, k1, k2, k3]) rfl ?_
      exact ⟨rfl, hb.put4 (b := w.heap.size + 1 + 1) (by omega) (fun j => A j - B j)⟩

/-- How two amounts stand from a place on. -/
def ordK (A B : Nat → Nat) (k : Nat) : Int := vordF ([A 0, A 1, A 2, A 3].drop k) ([B 0, B 1, B 2, B 3].drop k)
theorem ordK_step (A B : Nat → Nat) {k : Nat} (hk : k < 4) : ordK A B k = if A k < B k then -1 else if B k < A k then 1 else ordK A B (k + 1) :=
  match k, hk with
  | 0, _ => rfl
  | 1, _ => rfl
  | 2, _ => rfl
  | 3, _ => rfl

set_option maxHeartbeats 4000000 in
set_option maxRecDepth 100000 in
theorem r03order_w (a b : Vc) (ha : OkV a) (hb : OkV b) (w : World) :
    Calls Tryd.prog 23 #[vVal a, vVal b] w fun e w' => e = .returned (.int .i64 (vord a b)) ∧ Ext w w' := by
  have hv : vord a b = ordK (vG a) (vG b) 0 := by
    unfold vord ordK
    rw [ha.eta, hb.eta]; rfl
  rw [hv]
  clear hv
  unfold vVal
  generalize vG a = A
  generalize vG b = B
  have hst := fun k (hk : k < 4) => ordK_step A B hk
  have h4 : ordK A B 4 = 0 := rfl
  generalize ordK A B = F at *
  replace hst := Lib.hid hst
  replace h4 := Lib.hid h4
  unfold vF
  go_enter Tryd.func23, Tryd.ntmps23
  go_wp2
  go_loopw [5] (fun i wr => ∃ k : Nat, k ≤ 4 ∧ i = .int .i64 k ∧ Ext w wr ∧ VBox w.heap.size A wr ∧ VBox (w.heap.size + 1) B wr ∧ Hid (F 0 = F k)) (fun i _ => 4 - (intOf i).toNat)
  case atStart =>
    refine ⟨0, by omega, rfl, ((Ext.refl w).alloc _).alloc _, (VBox.new w A _).ext ((Ext.refl _).alloc _), ?_, rfl⟩
    have h := VBox.new (w.alloc (.cells #[.int .u64 (A 0 : Nat), .int .u64 (A 1 : Nat), .int .u64 (A 2 : Nat), .int .u64 (A 3 : Nat)] 28)) B 28
    rw [World.size_alloc] at h
    exact h
  case round =>
    obtain ⟨k, hk, rfl, hb, v1, v2, HP⟩ := hrel
    by_cases hlt : k < 4
    · have c1 := v1.cell k hlt
      have c2 := v2.cell k hlt
      have l1 := v1.lt
      have l2 := v2.lt
      have hs := hst.out k hlt
      rw [← HP.out] at hs
      by_cases h1 : A k < B k
      · rw [if_pos h1] at hs
        replace hs := Lib.hid hs
        have h1' : ((A k : Nat) : Int) < ((B k : Nat) : Int) := by omega
        go_wp2_with fail
        refine Dm.wp_region_grow (by kernel_rfl) (by kernel_rfl) ?_
        repeat (go_big_quiet_step (fail))
        refine wpQuiet_nil ?_
        intro U hU
        go_wp2
        go_ret
        exact ⟨by rw [hs.out]; rfl, hb.trans hU⟩
      · rw [if_neg h1] at hs
        have h1' : ¬ ((A k : Nat) : Int) < ((B k : Nat) : Int) := by omega
        by_cases h2 : B k < A k
        · rw [if_pos h2] at hs
          replace hs := Lib.hid hs
          have h2' : ((B k : Nat) : Int) < ((A k : Nat) : Int) := by omega
          go_wp2_with fail
          refine Dm.wp_region_grow (by kernel_rfl) (by kernel_rfl) ?_
          repeat (go_big_quiet_step (fail))
          refine wpQuiet_nil ?_
          intro U hU
          have d1 := (v1.ext hU).cell k hlt
          have d2 := (v2.ext hU).cell k hlt
          have m1 := (v1.ext hU).lt
          have m2 := (v2.ext hU).lt
          go_wp2_with fail
          refine Dm.wp_region_grow (by kernel_rfl) (by kernel_rfl) ?_
          repeat (go_big_quiet_step (fail))
          refine wpQuiet_nil ?_
          intro U2 hU2
          go_wp2
          go_ret
          exact ⟨by rw [hs.out]; rfl, hb.trans (hU.trans hU2)⟩
        · rw [if_neg h2] at hs
          replace hs := Lib.hid hs
          have h2' : ¬ ((B k : Nat) : Int) < ((A k : Nat) : Int) := by omega
          go_wp2_with fail
          refine Dm.wp_region_grow (by kernel_rfl) (by kernel_rfl) ?_
          repeat (go_big_quiet_step (fail))
          refine wpQuiet_nil ?_
          intro U hU
          have d1 := (v1.ext hU).cell k hlt
          have d2 := (v2.ext hU).cell k hlt
          have m1 := (v1.ext hU).lt
          have m2 := (v2.ext hU).lt
          go_wp2_with fail
          refine Dm.wp_region_grow (by kernel_rfl) (by kernel_rfl) ?_
          repeat (go_big_quiet_step (fail))
          refine wpQuiet_nil ?_
          intro U2 hU2
          have hw := hU.trans hU2
          go_wp2
          go_roundw
          case rel => exact ⟨k + 1, by omega, by go_num, hb.trans hw, v1.ext hw, v2.ext hw, hs⟩
          case measure => simp [intOf]; omega
    · obtain rfl : k = 4 := by omega
      have hF : Hid (F 0 = 0) := HP.out.trans h4.out
      go_wp2
      go_ret
      exact ⟨by rw [hF.out]; rfl, hb⟩

end Go.Proofs.YtibimbcjnjefdaaDoor
