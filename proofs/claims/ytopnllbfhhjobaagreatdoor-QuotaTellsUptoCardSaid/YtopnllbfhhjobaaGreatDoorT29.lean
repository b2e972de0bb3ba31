/- Texts one behind the other: Chapter 10: the walks of refV, refTree of the laws; Chapter 10: the walk of sameTree of the laws. -/
import Derived.Test.YtopnllbfhhjobaaGreatDoorT25
import Derived.Test.YtopnllbfhhjobaaGreatDoorT22
namespace Go.Dm
open Go Go.RowKit
theorem tree_snoc {R : List EntQ} {k : Nat} (hk : k < R.length) : entCellsQ (R.take (k + 1)) = entCellsQ (R.take k) ++ entOne (eAt R k) := by
  rw [List.take_add_one, List.getElem?_eq_getElem hk, ← eAt_eq hk]
  rw [Option.toList, entCellsQ_app]
  simp [entCellsQ]
end Go.Dm
namespace Go.Proofs.YtopnllbfhhjobaaGreatDoor
open Go.RowKit Go.Dm
set_option maxHeartbeats 1000000 in
theorem refv10_w (a : Vc) (w : World) :
    Calls Tryz.prog 8 #[vVal a] w fun e w' => e = .returned (vVal a) ∧ Ext w w' := by
  unfold vVal
  generalize vG a = A
  unfold vF
  have v2 := VBox.new (w.alloc (.cells #[.int .u64 (A 0 : Nat), .int .u64 (A 1 : Nat), .int .u64 (A 2 : Nat), .int .u64 (A 3 : Nat)] 25)) (fun _ => 0) 34
  rw [World.size_alloc] at v2
  obtain ⟨_, d0, d1, d2, d3, e0, e1, e2, e3⟩ := v2.four
  go_enter Tryz.func8, Tryz.ntmps8
  go_wp2
  refine bodyPost_ret (v := .agg #[.int .u64 (A 0 : Nat), .int .u64 (A 1 : Nat), .int .u64 (A 2 : Nat), .int .u64 (A 3 : Nat)]) (by simp [results, Tryz.results8, go_sem]) rfl ?_
  exact ⟨rfl, ((Ext.refl w).alloc _).alloc _⟩
set_option maxHeartbeats 4000000 in
set_option maxRecDepth 100000 in
theorem qreftree_w (R : List EntQ) (va : Value) (w : World) (hm : R.length ≤ 1099511627776) (hx : Tree w va R) :
    Calls Tryz.prog 5 #[va] w fun e w' => ∃ r, e = .returned r ∧ Tree w' r R ∧ Ext w w' := by
  obtain ⟨q, cap, rfl, _, _⟩ := hx.shape
  have CV := fun (x : Vc) U => refv10_w x U
  unfold vVal vF at CV
  replace CV := Lib.hid CV
  go_enter Tryz.func5, Tryz.ntmps5
  go_wp2
  go_loopw [3, 4] (fun r i wr => ∃ k : Nat, k ≤ R.length ∧ i = .int .i64 k ∧ Ext w wr ∧ wr.ownsRow w.heap.size 42 9 r k (entCellsQ (R.take k))) (fun _ i _ => R.length - (intOf i).toNat)
  case atStart => exact ⟨0, by omega, rfl, Ext.refl _, World.ownsRow_nil _ _ _ _⟩
  case round =>
    obtain ⟨k, hk, rfl, hb, ho⟩ := hrel
    by_cases hlt : k < R.length
    · obtain ⟨b, off, rfl, hbl, hcs⟩ := hx.at hlt
      have hst := tree_snoc hlt
      generalize eAt R k = r at *
      obtain ⟨s, l, u⟩ := r
      replace hst := Lib.hid hst
      have hone : ∀ u' ∈ (#[.string s, .int .u64 (vG l 0 : Nat), .int .u64 (vG l 1 : Nat), .int .u64 (vG l 2 : Nat), .int .u64 (vG l 3 : Nat), .int .u64 (vG u 0 : Nat), .int .u64 (vG u 1 : Nat), .int .u64 (vG u 2 : Nat), .int .u64 (vG u 3 : Nat)] : Array Value).toList, u'.oneCell' = true := entOne_one (s, l, u)
      replace hone := Lib.hid hone
      have CL := CV.out l
      have CU := CV.out u
      replace CL := Lib.hid CL
      replace CU := Lib.hid CU
      have c0 := hcs 0 (by omega)
      have c1 := hcs 1 (by omega)
      have c2 := hcs 2 (by omega)
      have c3 := hcs 3 (by omega)
      have c4 := hcs 4 (by omega)
      have c5 := hcs 5 (by omega)
      have c6 := hcs 6 (by omega)
      have c7 := hcs 7 (by omega)
      have c8 := hcs 8 (by omega)
      simp only [entOne, uAt, List.getElem?_cons_zero, List.getElem?_cons_succ, Nat.add_zero] at c0 c1 c2 c3 c4 c5 c6 c7 c8
      clear hcs
      go_wp2_with fail
      try simp only [Act.put, List.setIfInBounds_toArray, List.set_cons_succ, List.set_cons_zero]
      refine Dm.wp_region_ext 22 (Dm.bits 22 0) hb (by kernel_rfl) (by kernel_rfl) (by kernel_rfl) ?_
      refine Dm.wpE_take (i := 0) (listed' := (Dm.bits 22 1)) (by kernel_rfl) (by kernel_rfl) rfl (fun _ _ _ _ h => h) ?_; apply Exists.intro; refine And.intro (fun x => ?_) ?_
      · go_big_quiet_step ((first | (go_at_call 8; with_reducible exact Calls.quietE (CL.out _)) | (go_at_call 8; with_reducible exact Calls.quietE (CU.out _)))); exact wpQuiet_nil rfl
      refine Dm.wpE_take (i := 1) (listed' := (Dm.bits 22 3)) (by kernel_rfl) (by kernel_rfl) rfl (fun _ _ _ _ h => h) ?_; apply Exists.intro; refine And.intro (fun x => ?_) ?_
      · go_big_quiet_step ((first | (go_at_call 8; with_reducible exact Calls.quietE (CL.out _)) | (go_at_call 8; with_reducible exact Calls.quietE (CU.out _)))); exact wpQuiet_nil rfl
      refine Dm.wpE_take (i := 2) (listed' := (Dm.bits 22 7)) (by kernel_rfl) (by kernel_rfl) rfl (fun _ _ _ _ h => h) ?_; apply Exists.intro; refine And.intro (fun x => ?_) ?_
      · go_big_quiet_step ((first | (go_at_call 8; with_reducible exact Calls.quietE (CL.out _)) | (go_at_call 8; with_reducible exact Calls.quietE (CU.out _)))); exact wpQuiet_nil rfl
      refine Dm.wpE_take (i := 3) (listed' := (Dm.bits 22 15)) (by kernel_rfl) (by kernel_rfl) rfl (fun _ _ _ _ h => h) ?_; apply Exists.intro; refine And.intro (fun x => ?_) ?_
      · go_big_quiet_step ((first | (go_at_call 8; with_reducible exact Calls.quietE (CL.out _)) | (go_at_call 8; with_reducible exact Calls.quietE (CU.out _)))); exact wpQuiet_nil rfl
      refine Dm.wpE_take (i := 4) (listed' := (Dm.bits 22 31)) (by kernel_rfl) (by kernel_rfl) rfl (fun _ _ _ _ h => h) ?_; apply Exists.intro; refine And.intro (fun x => ?_) ?_
      · go_big_quiet_step ((first | (go_at_call 8; with_reducible exact Calls.quietE (CL.out _)) | (go_at_call 8; with_reducible exact Calls.quietE (CU.out _)))); exact wpQuiet_nil rfl
      refine Dm.wpE_take (i := 5) (listed' := (Dm.bits 22 63)) (by kernel_rfl) (by kernel_rfl) rfl (fun _ _ _ _ h => h) ?_; apply Exists.intro; refine And.intro (fun x => ?_) ?_
      · go_big_quiet_step ((first | (go_at_call 8; with_reducible exact Calls.quietE (CL.out _)) | (go_at_call 8; with_reducible exact Calls.quietE (CU.out _)))); exact wpQuiet_nil rfl
      refine Dm.wpE_take (i := 6) (listed' := (Dm.bits 22 127)) (by kernel_rfl) (by kernel_rfl) rfl (fun _ _ _ _ h => h) ?_; apply Exists.intro; refine And.intro (fun x => ?_) ?_
      · go_big_quiet_step ((first | (go_at_call 8; with_reducible exact Calls.quietE (CL.out _)) | (go_at_call 8; with_reducible exact Calls.quietE (CU.out _)))); exact wpQuiet_nil rfl
      refine Dm.wpE_take (i := 7) (listed' := (Dm.bits 22 255)) (by kernel_rfl) (by kernel_rfl) rfl (fun _ _ _ _ h => h) ?_; apply Exists.intro; refine And.intro (fun x => ?_) ?_
      · go_big_quiet_step ((first | (go_at_call 8; with_reducible exact Calls.quietE (CL.out _)) | (go_at_call 8; with_reducible exact Calls.quietE (CU.out _)))); exact wpQuiet_nil rfl
      refine Dm.wpE_take (i := 8) (listed' := (Dm.bits 22 511)) (by kernel_rfl) (by kernel_rfl) rfl (fun _ _ _ _ h => h) ?_; apply Exists.intro; refine And.intro (fun x => ?_) ?_
      · go_big_quiet_step ((first | (go_at_call 8; with_reducible exact Calls.quietE (CL.out _)) | (go_at_call 8; with_reducible exact Calls.quietE (CU.out _)))); exact wpQuiet_nil rfl
      refine Dm.wpE_take (i := 9) (listed' := (Dm.bits 22 1023)) (by kernel_rfl) (by kernel_rfl) rfl (fun _ _ _ _ h => h) ?_; apply Exists.intro; refine And.intro (fun x => ?_) ?_
      · go_big_quiet_step ((first | (go_at_call 8; with_reducible exact Calls.quietE (CL.out _)) | (go_at_call 8; with_reducible exact Calls.quietE (CU.out _)))); exact wpQuiet_nil rfl
      refine Dm.wpE_take (i := 10) (listed' := (Dm.bits 22 2047)) (by kernel_rfl) (by kernel_rfl) rfl (fun _ _ _ _ h => h) ?_; apply Exists.intro; refine And.intro (fun x => ?_) ?_
      · go_big_quiet_step ((first | (go_at_call 8; with_reducible exact Calls.quietE (CL.out _)) | (go_at_call 8; with_reducible exact Calls.quietE (CU.out _)))); exact wpQuiet_nil rfl
      refine Dm.wpE_take (i := 11) (listed' := (Dm.bits 22 4095)) (by kernel_rfl) (by kernel_rfl) rfl (fun _ _ _ _ h => h) ?_; apply Exists.intro; refine And.intro (fun x => ?_) ?_
      · go_big_quiet_step ((first | (go_at_call 8; with_reducible exact Calls.quietE (CL.out _)) | (go_at_call 8; with_reducible exact Calls.quietE (CU.out _)))); exact wpQuiet_nil rfl
      refine Dm.wpE_take (i := 12) (listed' := (Dm.bits 22 8191)) (by kernel_rfl) (by kernel_rfl) rfl (fun _ _ _ _ h => h) ?_; apply Exists.intro; refine And.intro (fun x => ?_) ?_
      · go_big_quiet_step ((first | (go_at_call 8; with_reducible exact Calls.quietE (CL.out _)) | (go_at_call 8; with_reducible exact Calls.quietE (CU.out _)))); exact wpQuiet_nil rfl
      refine Dm.wpE_take (i := 13) (listed' := (Dm.bits 22 16383)) (by kernel_rfl) (by kernel_rfl) rfl (fun _ _ _ _ h => h) ?_; apply Exists.intro; refine And.intro (fun x => ?_) ?_
      · go_big_quiet_step ((first | (go_at_call 8; with_reducible exact Calls.quietE (CL.out _)) | (go_at_call 8; with_reducible exact Calls.quietE (CU.out _)))); exact wpQuiet_nil rfl
      refine Dm.wpE_take (i := 14) (listed' := (Dm.bits 22 32767)) (by kernel_rfl) (by kernel_rfl) rfl (fun _ _ _ _ h => h) ?_; apply Exists.intro; refine And.intro (fun x => ?_) ?_
      · go_big_quiet_step ((first | (go_at_call 8; with_reducible exact Calls.quietE (CL.out _)) | (go_at_call 8; with_reducible exact Calls.quietE (CU.out _)))); exact wpQuiet_nil rfl
      refine Dm.wpE_take (i := 15) (listed' := (Dm.bits 22 65535)) (by kernel_rfl) (by kernel_rfl) rfl (fun _ _ _ _ h => h) ?_; apply Exists.intro; refine And.intro (fun x => ?_) ?_
      · go_big_quiet_step ((first | (go_at_call 8; with_reducible exact Calls.quietE (CL.out _)) | (go_at_call 8; with_reducible exact Calls.quietE (CU.out _)))); exact wpQuiet_nil rfl
      refine Dm.wpE_take (i := 16) (listed' := (Dm.bits 22 131071)) (by kernel_rfl) (by kernel_rfl) rfl (fun _ _ _ _ h => h) ?_; apply Exists.intro; refine And.intro (fun x => ?_) ?_
      · go_big_quiet_step ((first | (go_at_call 8; with_reducible exact Calls.quietE (CL.out _)) | (go_at_call 8; with_reducible exact Calls.quietE (CU.out _)))); exact wpQuiet_nil rfl
      refine Dm.wpE_take (i := 17) (listed' := (Dm.bits 22 262143)) (by kernel_rfl) (by kernel_rfl) rfl (fun _ _ _ _ h => h) ?_; apply Exists.intro; refine And.intro (fun x => ?_) ?_
      · go_big_quiet_step ((first | (go_at_call 8; with_reducible exact Calls.quietE (CL.out _)) | (go_at_call 8; with_reducible exact Calls.quietE (CU.out _)))); exact wpQuiet_nil rfl
      refine Dm.wpE_take (i := 18) (listed' := (Dm.bits 22 524287)) (by kernel_rfl) (by kernel_rfl) rfl (fun _ _ _ _ h => h) ?_; apply Exists.intro; refine And.intro (fun x => ?_) ?_
      · go_big_quiet_step ((first | (go_at_call 8; with_reducible exact Calls.quietE (CL.out _)) | (go_at_call 8; with_reducible exact Calls.quietE (CU.out _)))); exact wpQuiet_nil rfl
      refine Dm.wpE_one (i := 19) (listed' := (Dm.bits 22 1048575)) (by kernel_rfl) (by kernel_rfl) rfl hb (fun w1a hx1a => ?_)
      have hX1a := Ext.trans hb hx1a
      have hoa := Ext.row ho hx1a
      go_wp2_with fail
      have hl := Sl.lit w1a 42 9 1 #[.string s, .int .u64 (vG l 0 : Nat), .int .u64 (vG l 1 : Nat), .int .u64 (vG l 2 : Nat), .int .u64 (vG l 3 : Nat), .int .u64 (vG u 0 : Nat), .int .u64 (vG u 1 : Nat), .int .u64 (vG u 2 : Nat), .int .u64 (vG u 3 : Nat)] rfl (by simp [maxLen])
      have hs1 := (Ext.refl w1a).alloc (.cells #[.string s, .int .u64 (vG l 0 : Nat), .int .u64 (vG l 1 : Nat), .int .u64 (vG l 2 : Nat), .int .u64 (vG l 3 : Nat), .int .u64 (vG u 0 : Nat), .int .u64 (vG u 1 : Nat), .int .u64 (vG u 2 : Nat), .int .u64 (vG u 3 : Nat)] 42)
      generalize w1a.alloc (.cells #[.string s, .int .u64 (vG l 0 : Nat), .int .u64 (vG l 1 : Nat), .int .u64 (vG l 2 : Nat), .int .u64 (vG l 3 : Nat), .int .u64 (vG u 0 : Nat), .int .u64 (vG u 1 : Nat), .int .u64 (vG u 2 : Nat), .int .u64 (vG u 3 : Nat)] 42) = w1b at *
      have hX1b := Ext.trans hX1a hs1
      replace hoa := Ext.row hoa hs1
      try simp only [Exit.then, Act.put, List.setIfInBounds_toArray, List.set_cons_succ, List.set_cons_zero]
      refine Dm.wpE_one (i := 20) (listed' := (Dm.bits 22 2097151)) (by kernel_rfl) (by kernel_rfl) rfl hX1b (fun w2a hx2a => ?_)
      have hX2a := Ext.trans hX1b hx2a
      replace hl := hl.ext hx2a
      refine wpList_appE rfl _ _ Tryz.slEntR rfl hX2a rfl (Ext.row hoa hx2a) rfl hl hone.out (by omega) ?_
      intro v2 w2b ho3 hX2b _
      refine wpList_nil ?_
      try simp only [Exit.then, Act.put, List.setIfInBounds_toArray, List.set_cons_succ, List.set_cons_zero]
      refine Dm.wpE_take (i := 21) (listed' := (Dm.bits 22 4194303)) (by kernel_rfl) (by kernel_rfl) rfl (fun _ _ _ _ h => h) ?_; apply Exists.intro; refine And.intro (fun x => ?_) ?_
      · go_big_quiet_step ((first | (go_at_call 8; with_reducible exact Calls.quietE (CL.out _)) | (go_at_call 8; with_reducible exact Calls.quietE (CU.out _)))); exact wpQuiet_nil rfl
      refine Dm.wpE_done (by kernel_rfl) hX2b (fun w3a hx3a => ?_)
      have hX3a := Ext.trans hX2b hx3a
      replace ho3 := Ext.row ho3 hx3a
      go_wp2
      go_roundw
      case rel => exact ⟨k + 1, by omega, by go_num, hX3a, by rw [hst.out]; exact ho3⟩
      case measure => simp [intOf]; omega
    · obtain rfl : k = R.length := by omega
      rw [List.take_length] at ho
      go_wp2
      go_ret
      exact ⟨_, rfl, Tree.of_row ho rfl, hb⟩
end Go.Proofs.YtopnllbfhhjobaaGreatDoor

namespace Go.Proofs.YtopnllbfhhjobaaGreatDoor
open Go.RowKit Go.Dm
theorem eqEntR {a b : EntQ} (ha : a.1.size ≤ maxLen ∧ OkV a.2.1 ∧ OkV a.2.2) (hb : b.1.size ≤ maxLen ∧ OkV b.2.1 ∧ OkV b.2.2) (w : World) : (Op.equalIn 10000 42 (entVal a) (entVal b)).run Tryz.prog w = .ok (decide (a = b)) w :=
  run_eql_ents Tryz.underlying42 (by kernel_rfl) (by kernel_rfl) (by kernel_rfl) (by kernel_rfl) Tryz.underlying9 Tryz.underlying34 Tryz.underlying23 (by kernel_rfl) (by kernel_rfl) (by kernel_rfl) ha hb w
set_option maxHeartbeats 4000000 in
set_option maxRecDepth 100000 in
theorem qsametree_w (R : List EntQ) (va vb : Value) (w : World) (hm : R.length ≤ 1099511627776) (hR : FitT R) (hx : Tree w va R) (hy : Tree w vb R) :
    Calls Tryz.prog 13 #[va, vb] w fun e w' => e = .returned (.bool true) ∧ Ext w w' := by
  obtain ⟨q, cap, rfl, _, _⟩ := hx.shape
  obtain ⟨q2, cap2, rfl, _, _⟩ := hy.shape
  go_enter Tryz.func13, Tryz.ntmps13
  go_wp2
  go_loopw [5] (fun i wr => ∃ k : Nat, k ≤ R.length ∧ i = .int .i64 k ∧ Ext w wr) (fun i _ => R.length - (intOf i).toNat)
  case atStart => exact ⟨0, by omega, rfl, Ext.refl _⟩
  case round =>
    obtain ⟨k, hk, rfl, hb⟩ := hrel
    by_cases hlt : k < R.length
    · obtain ⟨b1, o1, rfl, hl1, hcs⟩ := (hx.ext hb).at hlt
      obtain ⟨b2, o2, rfl, hl2, hds⟩ := (hy.ext hb).at hlt
      have hf := hR.at hlt
      have hq := fun U => run_neq_entQ (eqEntR (a := eAt R k) (b := eAt R k) ⟨by unfold maxLen; omega, hf.2⟩ ⟨by unfold maxLen; omega, hf.2⟩ U)
      rw [decide_eq_true rfl] at hq
      generalize eAt R k = r at *
      obtain ⟨s, l, u⟩ := r
      have hq2 : ∀ U, (binOp .neq 42 (.agg #[.string s, .int .u64 (vG l 0 : Nat), .int .u64 (vG l 1 : Nat), .int .u64 (vG l 2 : Nat), .int .u64 (vG l 3 : Nat), .int .u64 (vG u 0 : Nat), .int .u64 (vG u 1 : Nat), .int .u64 (vG u 2 : Nat), .int .u64 (vG u 3 : Nat)]) (.agg #[.string s, .int .u64 (vG l 0 : Nat), .int .u64 (vG l 1 : Nat), .int .u64 (vG l 2 : Nat), .int .u64 (vG l 3 : Nat), .int .u64 (vG u 0 : Nat), .int .u64 (vG u 1 : Nat), .int .u64 (vG u 2 : Nat), .int .u64 (vG u 3 : Nat)])).run Tryz.prog U = .ok (.bool false) U := hq
      clear hq hf
      have c0 := hcs 0 (by omega)
      have c1 := hcs 1 (by omega)
      have c2 := hcs 2 (by omega)
      have c3 := hcs 3 (by omega)
      have c4 := hcs 4 (by omega)
      have c5 := hcs 5 (by omega)
      have c6 := hcs 6 (by omega)
      have c7 := hcs 7 (by omega)
      have c8 := hcs 8 (by omega)
      simp only [entOne, uAt, List.getElem?_cons_zero, List.getElem?_cons_succ, Nat.add_zero] at c0 c1 c2 c3 c4 c5 c6 c7 c8
      clear hcs
      have d0 := hds 0 (by omega)
      have d1 := hds 1 (by omega)
      have d2 := hds 2 (by omega)
      have d3 := hds 3 (by omega)
      have d4 := hds 4 (by omega)
      have d5 := hds 5 (by omega)
      have d6 := hds 6 (by omega)
      have d7 := hds 7 (by omega)
      have d8 := hds 8 (by omega)
      simp only [entOne, uAt, List.getElem?_cons_zero, List.getElem?_cons_succ, Nat.add_zero] at d0 d1 d2 d3 d4 d5 d6 d7 d8
      clear hds
      go_wp2_with fail
      refine Dm.wp_region_grow (by kernel_rfl) (by kernel_rfl) ?_
      repeat (go_big_quiet_step (fail))
      refine wpQuiet_nil ?_
      intro w2 h2
      go_wp2
      go_roundw
      case rel => exact ⟨k + 1, by omega, by go_num, hb.trans h2⟩
      case measure => simp [intOf]; omega
    · obtain rfl : k = R.length := by omega
      go_wp2
      go_ret
      exact ⟨rfl, hb⟩
end Go.Proofs.YtopnllbfhhjobaaGreatDoor
