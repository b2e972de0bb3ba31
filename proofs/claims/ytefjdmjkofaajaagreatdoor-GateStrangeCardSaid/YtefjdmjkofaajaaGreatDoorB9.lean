/- Texts one behind the other: Chapter 6: the walk of block. -/
import Derived.Test.YtefjdmjkofaajaaGreatDoorB8
namespace Go.Proofs.YtefjdmjkofaajaaGreatDoor
open Go.RowKit Go.Dm

/-- What the walks know of chapter 6's variables. -/
structure ShaV (w : World) : Prop where
 rlt : 4 < w.heap.size
 rounds : ∀ {k : Nat}, k < 64 → w.cell? ⟨4, k, none⟩ = some (.int .u32 (at0 roundsW k))
 slt : 3 < w.heap.size
 start : ∀ {k : Nat}, k < 8 → w.cell? ⟨3, k, none⟩ = some (.int .u32 (at0 startW k))
theorem ShaV.ext {w w' : World} (h : ShaV w) (hx : Ext w w') : ShaV w' :=
 ⟨Nat.lt_of_lt_of_le h.rlt hx.size, fun hk => by rw [hx.cell (by exact h.rlt)]; exact h.rounds hk, Nat.lt_of_lt_of_le h.slt hx.size, fun hk => by rw [hx.cell (by exact h.slt)]; exact h.start hk⟩

set_option maxHeartbeats 1500000 in
set_option maxRecDepth 100000 in
theorem block_w (h B : List Int) (hh : h.length = 8) (hB : B.length = 64) (hr : ∀ i, 0 ≤ at0 B i ∧ at0 B i ≤ 255) (w : World) (hv : ShaV w) :
  Calls Tryz.prog 108 #[.agg (cellsI .u32 h), .agg (cellsI .u8 B)] w fun e w' => e = .returned (.agg (cellsI .u32 (blockW h B))) ∧ Ext w w' := by
 have hE : Ext w w := Ext.refl w
 have hx := hv
 have hH : AB w.heap.size 173 .u32 h (w.alloc (.cells (cellsI .u32 h) 173)) := AB.new w 173 .u32 h
 have en : Ext w (w.alloc (.cells (cellsI .u32 h) 173)) := (Ext.refl _).alloc _
 replace hE := hE.trans en
 clear en
 generalize hw1 : w.alloc (.cells (cellsI .u32 h) 173) = w1 at *
 have hB' : AB w1.heap.size 174 .u8 B (w1.alloc (.cells (cellsI .u8 B) 174)) := AB.new w1 174 .u8 B
 have en : Ext w1 (w1.alloc (.cells (cellsI .u8 B) 174)) := (Ext.refl _).alloc _
 replace hE := hE.trans en
 replace hH := hH.ext en
 clear en
 generalize hw2 : w1.alloc (.cells (cellsI .u8 B) 174) = w2 at *
 have hR : AB w2.heap.size 173 .u32 (List.replicate 8 0) (w2.alloc (.cells #[.int .u32 0, .int .u32 0, .int .u32 0, .int .u32 0, .int .u32 0, .int .u32 0, .int .u32 0, .int .u32 0] 173)) := AB.new w2 173 .u32 (List.replicate 8 0)
 have en : Ext w2 (w2.alloc (.cells #[.int .u32 0, .int .u32 0, .int .u32 0, .int .u32 0, .int .u32 0, .int .u32 0, .int .u32 0, .int .u32 0] 173)) := (Ext.refl _).alloc _
 replace hE := hE.trans en
 replace hH := hH.ext en
 replace hB' := hB'.ext en
 clear en
 generalize hw3 : w2.alloc (.cells #[.int .u32 0, .int .u32 0, .int .u32 0, .int .u32 0, .int .u32 0, .int .u32 0, .int .u32 0, .int .u32 0] 173) = w3 at *
 have hH3 := hH
 have hV : AB w3.heap.size 173 .u32 (List.replicate 8 0) (w3.alloc (.cells #[.int .u32 0, .int .u32 0, .int .u32 0, .int .u32 0, .int .u32 0, .int .u32 0, .int .u32 0, .int .u32 0] 173)) := AB.new w3 173 .u32 (List.replicate 8 0)
 have en : Ext w3 (w3.alloc (.cells #[.int .u32 0, .int .u32 0, .int .u32 0, .int .u32 0, .int .u32 0, .int .u32 0, .int .u32 0, .int .u32 0] 173)) := (Ext.refl _).alloc _
 replace hE := hE.trans en
 replace hH := hH.ext en
 replace hB' := hB'.ext en
 replace hR := hR.ext en
 clear en
 generalize hw4 : w3.alloc (.cells #[.int .u32 0, .int .u32 0, .int .u32 0, .int .u32 0, .int .u32 0, .int .u32 0, .int .u32 0, .int .u32 0] 173) = w4 at *
 have b12 : w.heap.size < w1.heap.size := by rw [← hw1, World.size_alloc]; omega
 have b23 : w1.heap.size < w2.heap.size := by rw [← hw2, World.size_alloc]; omega
 have b34 : w2.heap.size < w3.heap.size := by rw [← hw3, World.size_alloc]; omega
 obtain ⟨bH, hbH⟩ : ∃ x, x = w.heap.size := ⟨_, rfl⟩
 obtain ⟨bB, hbB⟩ : ∃ x, x = w1.heap.size := ⟨_, rfl⟩
 obtain ⟨bR, hbR⟩ : ∃ x, x = w2.heap.size := ⟨_, rfl⟩
 obtain ⟨bV, hbV⟩ : ∃ x, x = w3.heap.size := ⟨_, rfl⟩
 have hwH : w.heap.size ≤ bH := by omega
 rw [← hbH] at hH hH3 b12
 rw [← hbB] at hB' b12 b23
 rw [← hbR] at hR b23 b34
 rw [← hbV] at hV b34
 replace hbH := hbH.symm
 replace hbB := hbB.symm
 replace hbR := hbR.symm
 replace hbV := hbV.symm
 have sh : (cellsI .u32 h).size = 8 := by rw [size_cellsI, hh]
 have sb : (cellsI .u8 B).size = 64 := by rw [size_cellsI, hB]
 have sz : (cellsI .u32 (List.replicate 8 0)).size = 8 := rfl
 have CW := Lib.hid (fun U => words_w B hB hr U)
 have hwl := wordsW_len B 64
 have hbk : blockW h B = sumW (runW h (wordsW B 64) 64) h := rfl
 generalize blockW h B = BF at *
 generalize wordsW B 64 = WF at *
 replace hbk := Lib.hid hbk
 have hE2 : Ext w (w4.setRow bV (cellsI .u32 h)) := Ext.setRow hE (by omega) _
 have hV2 := hV.setRow h
 have hH2 := hH.farRow (c := bV) (by omega) (cellsI .u32 h)
 have hB2 := hB'.farRow (c := bV) (by omega) (cellsI .u32 h)
 have hR2 := hR.farRow (c := bV) (by omega) (cellsI .u32 h)
 go_enter Tryz.func108, Tryz.ntmps108
 go_wp2_with (first | (refine wpList_load_row rfl 173 _ rfl bH rfl _ _ _ _ hH3 Tryz.underlying173 rfl (by rw [sh]; kernel_rfl) ?_) | (refine wpList_store_row rfl 173 _ _ rfl bV _ rfl rfl _ _ hV (by rw [sh]; kernel_rfl) (by rw [sh]; rfl) (one_cellsI _ _) ?_) | (refine wpList_load_row rfl 174 _ rfl bB rfl _ _ _ _ hB2 Tryz.underlying174 rfl (by rw [sb]; kernel_rfl) ?_))
 clear hw1 hw2 hw3 hw4 hbH hbB hbR hbV
 clear hE hV hH hB' hR hH3
 generalize w4.setRow bV (cellsI .u32 h) = w5 at *
 refine (CW.out _).mono ?_; rintro e w6 ⟨rfl, h6⟩
 replace hE2 := hE2.trans h6
 replace hV2 := hV2.ext h6
 replace hH2 := hH2.ext h6
 replace hR2 := hR2.ext h6
 clear h6 hB2 sb
 go_wp2
 go_loopw [16] (fun i wr => ∃ k : Nat, k ≤ 64 ∧ i = .int .i64 k ∧ Ext w wr ∧ AB bH 173 .u32 h wr ∧ AB bR 173 .u32 (List.replicate 8 0) wr ∧ AB bV 173 .u32 (runW h WF k) wr) (fun i _ => 64 - (intOf i).toNat)
 case atStart => exact ⟨0, by omega, rfl, hE2, hH2, hR2, hV2⟩
 case round =>
  obtain ⟨k, hk, rfl, h1, h2, h3, h4⟩ := hrel
  by_cases hlt : k < 64
  ·have hidx := fun U => run_index_cells (P := Tryz.prog) (k := .u32) (l := WF) (i := k) Tryz.underlying202 Tryz.underlying172 (by kernel_rfl) (by omega) (by omega) U
   change ∀ U, _ = Result.ok (Value.int .u32 (at0 WF k)) U at hidx
   have hnx : runW h WF (k + 1) = stepW (runW h WF k) (at0 roundsW k) (at0 WF k) := rfl
   have hl8 := runW_len (W := WF) hh k
   have h8 := eight hl8
   unfold stepW at hnx
   obtain ⟨VN, hVN⟩ : ∃ VN, VN = runW h WF (k + 1) := ⟨_, rfl⟩
   rw [← hVN] at hnx
   generalize runW h WF k = VK at *
   replace hVN := Lib.hid hVN
   generalize at0 VK 0 = v0 at *
   generalize at0 VK 1 = v1 at *
   generalize at0 VK 2 = v2 at *
   generalize at0 VK 3 = v3 at *
   generalize at0 VK 4 = v4 at *
   generalize at0 VK 5 = v5 at *
   generalize at0 VK 6 = v6 at *
   generalize at0 VK 7 = v7 at *
   subst h8
   have hk1 := (hv.ext h1).rounds hlt
   have hgl := (hv.ext h1).rlt
   generalize at0 WF k = wk at *
   obtain ⟨rk, hrk⟩ : ∃ rk, rk = at0 roundsW k := ⟨_, rfl⟩
   rw [← hrk] at hk1
   rw [← hrk] at hnx
   replace hrk := Lib.hid hrk
   clear hk1 hgl
   replace hnx := Lib.hid hnx
   have T := Lib.hid (fun (x : Int) (n : Nat) (hn : 1 ≤ n ∧ n ≤ 31) U => turn_w x n hn U)
   go_upto_region 5 with fail
   have lV := h4.lt
   have c0 : wr.cell? ⟨bV, 0, none⟩ = some (.int .u32 v0) := h4.cell (i := 0) (by simp)
   have c1 : wr.cell? ⟨bV, 1, none⟩ = some (.int .u32 v1) := h4.cell (i := 1) (by simp)
   have c2 : wr.cell? ⟨bV, 2, none⟩ = some (.int .u32 v2) := h4.cell (i := 2) (by simp)
   have c3 : wr.cell? ⟨bV, 3, none⟩ = some (.int .u32 v3) := h4.cell (i := 3) (by simp)
   have c4 : wr.cell? ⟨bV, 4, none⟩ = some (.int .u32 v4) := h4.cell (i := 4) (by simp)
   have c5 : wr.cell? ⟨bV, 5, none⟩ = some (.int .u32 v5) := h4.cell (i := 5) (by simp)
   have c6 : wr.cell? ⟨bV, 6, none⟩ = some (.int .u32 v6) := h4.cell (i := 6) (by simp)
   have c7 : wr.cell? ⟨bV, 7, none⟩ = some (.int .u32 v7) := h4.cell (i := 7) (by simp)
   try simp only [Act.put, List.setIfInBounds_toArray, List.set_cons_succ, List.set_cons_zero]
   refine Dm.wp_region_ext 6 (Dm.bits 6 0) (Ext.refl wr) (by kernel_rfl) (by kernel_rfl) (by kernel_rfl) ?_
   refine Dm.wpE_take (i := 0) (listed' := (Dm.bits 6 1)) (by kernel_rfl) (by kernel_rfl) rfl (fun _ _ _ _ h => h) ?_; apply Exists.intro; refine And.intro (fun x => ?_) ?_
   ·go_big_quiet_step (fail); exact wpQuiet_nil rfl
   refine Dm.wpE_take (i := 1) (listed' := (Dm.bits 6 3)) (by kernel_rfl) (by kernel_rfl) rfl (fun _ _ _ _ h => h) ?_; apply Exists.intro; refine And.intro (fun x => ?_) ?_
   ·go_big_quiet_step (fail); exact wpQuiet_nil rfl
   refine Dm.wpE_take (i := 2) (listed' := (Dm.bits 6 7)) (by kernel_rfl) (by kernel_rfl) rfl (fun _ _ _ _ h => h) ?_; apply Exists.intro; refine And.intro (fun x => ?_) ?_
   ·go_big_quiet_step (fail); exact wpQuiet_nil rfl
   refine Dm.wpE_take (i := 3) (listed' := (Dm.bits 6 15)) (by kernel_rfl) (by kernel_rfl) rfl (fun _ _ _ _ h => h) ?_; apply Exists.intro; refine And.intro (fun x => ?_) ?_
   ·go_big_quiet_step (fail); exact wpQuiet_nil rfl
   refine Dm.wpE_take (i := 4) (listed' := (Dm.bits 6 31)) (by kernel_rfl) (by kernel_rfl) rfl (fun _ _ _ _ h => h) ?_; apply Exists.intro; refine And.intro (fun x => ?_) ?_
   ·go_big_quiet_step (fail); exact wpQuiet_nil rfl
   refine Dm.wpE_take (i := 5) (listed' := (Dm.bits 6 63)) (by kernel_rfl) (by kernel_rfl) rfl (fun _ _ _ _ h => h) ?_; apply Exists.intro; refine And.intro (fun x => ?_) ?_
   ·go_big_quiet_step (fail); exact wpQuiet_nil rfl
   refine Dm.wpE_done (by kernel_rfl) (Ext.refl wr) (fun w1a hx1a => ?_)
   have hX1a := Ext.trans (Ext.refl wr) hx1a
   clear lV c0 c1 c2 c3 c4 c5 c6 c7 hx1a
   replace h1 := h1.trans hX1a
   replace h2 := h2.ext hX1a
   replace h3 := h3.ext hX1a
   replace h4 := h4.ext hX1a
   have hk1 := (hv.ext h1).rounds hlt
   have hgl := (hv.ext h1).rlt
   rw [← hrk.out] at hk1
   clear hX1a
   obtain ⟨wp, rfl⟩ : ∃ x, x = w1a := ⟨_, rfl⟩
   go_upto_region 6 with fail
   have lV := h4.lt
   have c0 : wp.cell? ⟨bV, 0, none⟩ = some (.int .u32 v0) := h4.cell (i := 0) (by simp)
   have c1 : wp.cell? ⟨bV, 1, none⟩ = some (.int .u32 v1) := h4.cell (i := 1) (by simp)
   have c2 : wp.cell? ⟨bV, 2, none⟩ = some (.int .u32 v2) := h4.cell (i := 2) (by simp)
   have c3 : wp.cell? ⟨bV, 3, none⟩ = some (.int .u32 v3) := h4.cell (i := 3) (by simp)
   have c4 : wp.cell? ⟨bV, 4, none⟩ = some (.int .u32 v4) := h4.cell (i := 4) (by simp)
   have c5 : wp.cell? ⟨bV, 5, none⟩ = some (.int .u32 v5) := h4.cell (i := 5) (by simp)
   have c6 : wp.cell? ⟨bV, 6, none⟩ = some (.int .u32 v6) := h4.cell (i := 6) (by simp)
   have c7 : wp.cell? ⟨bV, 7, none⟩ = some (.int .u32 v7) := h4.cell (i := 7) (by simp)
   try simp only [Act.put, List.setIfInBounds_toArray, List.set_cons_succ, List.set_cons_zero]
   refine Dm.wp_region_ext 29 (Dm.bits 29 0) (Ext.refl wp) (by kernel_rfl) (by kernel_rfl) (by kernel_rfl) ?_
   refine Dm.wpE_take (i := 0) (listed' := (Dm.bits 29 1)) (by kernel_rfl) (by kernel_rfl) rfl (fun _ _ _ _ h => h) ?_; apply Exists.intro; refine And.intro (fun x => ?_) ?_
   ·go_big_quiet_step ((go_at_call 136; with_reducible first | exact Calls.quietE (T.out v4 6 (by omega) _) | exact Calls.quietE (T.out v4 11 (by omega) _) | exact Calls.quietE (T.out v4 25 (by omega) _))); exact wpQuiet_nil rfl
   refine Dm.wpE_take (i := 1) (listed' := (Dm.bits 29 3)) (by kernel_rfl) (by kernel_rfl) rfl (fun _ _ _ _ h => h) ?_; apply Exists.intro; refine And.intro (fun x => ?_) ?_
   ·go_big_quiet_step ((go_at_call 136; with_reducible first | exact Calls.quietE (T.out v4 6 (by omega) _) | exact Calls.quietE (T.out v4 11 (by omega) _) | exact Calls.quietE (T.out v4 25 (by omega) _))); exact wpQuiet_nil rfl
   refine Dm.wpE_take (i := 2) (listed' := (Dm.bits 29 7)) (by kernel_rfl) (by kernel_rfl) rfl (fun _ _ _ _ h => h) ?_; apply Exists.intro; refine And.intro (fun x => ?_) ?_
   ·go_big_quiet_step ((go_at_call 136; with_reducible first | exact Calls.quietE (T.out v4 6 (by omega) _) | exact Calls.quietE (T.out v4 11 (by omega) _) | exact Calls.quietE (T.out v4 25 (by omega) _))); exact wpQuiet_nil rfl
   refine Dm.wpE_take (i := 3) (listed' := (Dm.bits 29 15)) (by kernel_rfl) (by kernel_rfl) rfl (fun _ _ _ _ h => h) ?_; apply Exists.intro; refine And.intro (fun x => ?_) ?_
   ·go_big_quiet_step ((go_at_call 136; with_reducible first | exact Calls.quietE (T.out v4 6 (by omega) _) | exact Calls.quietE (T.out v4 11 (by omega) _) | exact Calls.quietE (T.out v4 25 (by omega) _))); exact wpQuiet_nil rfl
   refine Dm.wpE_take (i := 4) (listed' := (Dm.bits 29 31)) (by kernel_rfl) (by kernel_rfl) rfl (fun _ _ _ _ h => h) ?_; apply Exists.intro; refine And.intro (fun x => ?_) ?_
   ·go_big_quiet_step ((go_at_call 136; with_reducible first | exact Calls.quietE (T.out v4 6 (by omega) _) | exact Calls.quietE (T.out v4 11 (by omega) _) | exact Calls.quietE (T.out v4 25 (by omega) _))); exact wpQuiet_nil rfl
   refine Dm.wpE_take (i := 5) (listed' := (Dm.bits 29 63)) (by kernel_rfl) (by kernel_rfl) rfl (fun _ _ _ _ h => h) ?_; apply Exists.intro; refine And.intro (fun x => ?_) ?_
   ·go_big_quiet_step ((go_at_call 136; with_reducible first | exact Calls.quietE (T.out v4 6 (by omega) _) | exact Calls.quietE (T.out v4 11 (by omega) _) | exact Calls.quietE (T.out v4 25 (by omega) _))); exact wpQuiet_nil rfl
   refine Dm.wpE_take (i := 6) (listed' := (Dm.bits 29 127)) (by kernel_rfl) (by kernel_rfl) rfl (fun _ _ _ _ h => h) ?_; apply Exists.intro; refine And.intro (fun x => ?_) ?_
   ·go_big_quiet_step ((go_at_call 136; with_reducible first | exact Calls.quietE (T.out v4 6 (by omega) _) | exact Calls.quietE (T.out v4 11 (by omega) _) | exact Calls.quietE (T.out v4 25 (by omega) _))); exact wpQuiet_nil rfl
   refine Dm.wpE_take (i := 7) (listed' := (Dm.bits 29 255)) (by kernel_rfl) (by kernel_rfl) rfl (fun _ _ _ _ h => h) ?_; apply Exists.intro; refine And.intro (fun x => ?_) ?_
   ·go_big_quiet_step ((go_at_call 136; with_reducible first | exact Calls.quietE (T.out v4 6 (by omega) _) | exact Calls.quietE (T.out v4 11 (by omega) _) | exact Calls.quietE (T.out v4 25 (by omega) _))); exact wpQuiet_nil rfl
   refine Dm.wpE_take (i := 8) (listed' := (Dm.bits 29 511)) (by kernel_rfl) (by kernel_rfl) rfl (fun _ _ _ _ h => h) ?_; apply Exists.intro; refine And.intro (fun x => ?_) ?_
   ·go_big_quiet_step ((go_at_call 136; with_reducible first | exact Calls.quietE (T.out v4 6 (by omega) _) | exact Calls.quietE (T.out v4 11 (by omega) _) | exact Calls.quietE (T.out v4 25 (by omega) _))); exact wpQuiet_nil rfl
   refine Dm.wpE_take (i := 9) (listed' := (Dm.bits 29 1023)) (by kernel_rfl) (by kernel_rfl) rfl (fun _ _ _ _ h => h) ?_; apply Exists.intro; refine And.intro (fun x => ?_) ?_
   ·go_big_quiet_step ((go_at_call 136; with_reducible first | exact Calls.quietE (T.out v4 6 (by omega) _) | exact Calls.quietE (T.out v4 11 (by omega) _) | exact Calls.quietE (T.out v4 25 (by omega) _))); exact wpQuiet_nil rfl
   refine Dm.wpE_take (i := 10) (listed' := (Dm.bits 29 2047)) (by kernel_rfl) (by kernel_rfl) rfl (fun _ _ _ _ h => h) ?_; apply Exists.intro; refine And.intro (fun x => ?_) ?_
   ·go_big_quiet_step ((go_at_call 136; with_reducible first | exact Calls.quietE (T.out v4 6 (by omega) _) | exact Calls.quietE (T.out v4 11 (by omega) _) | exact Calls.quietE (T.out v4 25 (by omega) _))); exact wpQuiet_nil rfl
   refine Dm.wpE_take (i := 11) (listed' := (Dm.bits 29 4095)) (by kernel_rfl) (by kernel_rfl) rfl (fun _ _ _ _ h => h) ?_; apply Exists.intro; refine And.intro (fun x => ?_) ?_
   ·go_big_quiet_step ((go_at_call 136; with_reducible first | exact Calls.quietE (T.out v4 6 (by omega) _) | exact Calls.quietE (T.out v4 11 (by omega) _) | exact Calls.quietE (T.out v4 25 (by omega) _))); exact wpQuiet_nil rfl
   refine Dm.wpE_take (i := 12) (listed' := (Dm.bits 29 8191)) (by kernel_rfl) (by kernel_rfl) rfl (fun _ _ _ _ h => h) ?_; apply Exists.intro; refine And.intro (fun x => ?_) ?_
   ·go_big_quiet_step ((go_at_call 136; with_reducible first | exact Calls.quietE (T.out v4 6 (by omega) _) | exact Calls.quietE (T.out v4 11 (by omega) _) | exact Calls.quietE (T.out v4 25 (by omega) _))); exact wpQuiet_nil rfl
   refine Dm.wpE_take (i := 13) (listed' := (Dm.bits 29 16383)) (by kernel_rfl) (by kernel_rfl) rfl (fun _ _ _ _ h => h) ?_; apply Exists.intro; refine And.intro (fun x => ?_) ?_
   ·go_big_quiet_step ((go_at_call 136; with_reducible first | exact Calls.quietE (T.out v4 6 (by omega) _) | exact Calls.quietE (T.out v4 11 (by omega) _) | exact Calls.quietE (T.out v4 25 (by omega) _))); exact wpQuiet_nil rfl
   refine Dm.wpE_take (i := 14) (listed' := (Dm.bits 29 32767)) (by kernel_rfl) (by kernel_rfl) rfl (fun _ _ _ _ h => h) ?_; apply Exists.intro; refine And.intro (fun x => ?_) ?_
   ·go_big_quiet_step ((go_at_call 136; with_reducible first | exact Calls.quietE (T.out v4 6 (by omega) _) | exact Calls.quietE (T.out v4 11 (by omega) _) | exact Calls.quietE (T.out v4 25 (by omega) _))); exact wpQuiet_nil rfl
   refine Dm.wpE_take (i := 15) (listed' := (Dm.bits 29 65535)) (by kernel_rfl) (by kernel_rfl) rfl (fun _ _ _ _ h => h) ?_; apply Exists.intro; refine And.intro (fun x => ?_) ?_
   ·go_big_quiet_step ((go_at_call 136; with_reducible first | exact Calls.quietE (T.out v4 6 (by omega) _) | exact Calls.quietE (T.out v4 11 (by omega) _) | exact Calls.quietE (T.out v4 25 (by omega) _))); exact wpQuiet_nil rfl
   refine Dm.wpE_take (i := 16) (listed' := (Dm.bits 29 131071)) (by kernel_rfl) (by kernel_rfl) rfl (fun _ _ _ _ h => h) ?_; apply Exists.intro; refine And.intro (fun x => ?_) ?_
   ·go_big_quiet_step ((go_at_call 136; with_reducible first | exact Calls.quietE (T.out v4 6 (by omega) _) | exact Calls.quietE (T.out v4 11 (by omega) _) | exact Calls.quietE (T.out v4 25 (by omega) _))); exact wpQuiet_nil rfl
   refine Dm.wpE_take (i := 17) (listed' := (Dm.bits 29 262143)) (by kernel_rfl) (by kernel_rfl) rfl (fun _ _ _ _ h => h) ?_; apply Exists.intro; refine And.intro (fun x => ?_) ?_
   ·go_big_quiet_step ((go_at_call 136; with_reducible first | exact Calls.quietE (T.out v4 6 (by omega) _) | exact Calls.quietE (T.out v4 11 (by omega) _) | exact Calls.quietE (T.out v4 25 (by omega) _))); exact wpQuiet_nil rfl
   refine Dm.wpE_take (i := 18) (listed' := (Dm.bits 29 524287)) (by kernel_rfl) (by kernel_rfl) rfl (fun _ _ _ _ h => h) ?_; apply Exists.intro; refine And.intro (fun x => ?_) ?_
   ·go_big_quiet_step ((go_at_call 136; with_reducible first | exact Calls.quietE (T.out v4 6 (by omega) _) | exact Calls.quietE (T.out v4 11 (by omega) _) | exact Calls.quietE (T.out v4 25 (by omega) _))); exact wpQuiet_nil rfl
   refine Dm.wpE_take (i := 19) (listed' := (Dm.bits 29 1048575)) (by kernel_rfl) (by kernel_rfl) rfl (fun _ _ _ _ h => h) ?_; apply Exists.intro; refine And.intro (fun x => ?_) ?_
   ·go_big_quiet_step ((go_at_call 136; with_reducible first | exact Calls.quietE (T.out v4 6 (by omega) _) | exact Calls.quietE (T.out v4 11 (by omega) _) | exact Calls.quietE (T.out v4 25 (by omega) _))); exact wpQuiet_nil rfl
   refine Dm.wpE_take (i := 20) (listed' := (Dm.bits 29 2097151)) (by kernel_rfl) (by kernel_rfl) rfl (fun _ _ _ _ h => h) ?_; apply Exists.intro; refine And.intro (fun x => ?_) ?_
   ·go_big_quiet_step ((go_at_call 136; with_reducible first | exact Calls.quietE (T.out v4 6 (by omega) _) | exact Calls.quietE (T.out v4 11 (by omega) _) | exact Calls.quietE (T.out v4 25 (by omega) _))); exact wpQuiet_nil rfl
   refine Dm.wpE_take (i := 21) (listed' := (Dm.bits 29 4194303)) (by kernel_rfl) (by kernel_rfl) rfl (fun _ _ _ _ h => h) ?_; apply Exists.intro; refine And.intro (fun x => ?_) ?_
   ·go_big_quiet_step ((go_at_call 136; with_reducible first | exact Calls.quietE (T.out v4 6 (by omega) _) | exact Calls.quietE (T.out v4 11 (by omega) _) | exact Calls.quietE (T.out v4 25 (by omega) _))); exact wpQuiet_nil rfl
   refine Dm.wpE_take (i := 22) (listed' := (Dm.bits 29 8388607)) (by kernel_rfl) (by kernel_rfl) rfl (fun _ _ _ _ h => h) ?_; apply Exists.intro; refine And.intro (fun x => ?_) ?_
   ·go_big_quiet_step ((go_at_call 136; with_reducible first | exact Calls.quietE (T.out v4 6 (by omega) _) | exact Calls.quietE (T.out v4 11 (by omega) _) | exact Calls.quietE (T.out v4 25 (by omega) _))); exact wpQuiet_nil rfl
   refine Dm.wpE_take (i := 23) (listed' := (Dm.bits 29 16777215)) (by kernel_rfl) (by kernel_rfl) rfl (fun _ _ _ _ h => h) ?_; apply Exists.intro; refine And.intro (fun x => ?_) ?_
   ·go_big_quiet_step ((go_at_call 136; with_reducible first | exact Calls.quietE (T.out v4 6 (by omega) _) | exact Calls.quietE (T.out v4 11 (by omega) _) | exact Calls.quietE (T.out v4 25 (by omega) _))); exact wpQuiet_nil rfl
   refine Dm.wpE_take (i := 24) (listed' := (Dm.bits 29 33554431)) (by kernel_rfl) (by kernel_rfl) rfl (fun _ _ _ _ h => h) ?_; apply Exists.intro; refine And.intro (fun x => ?_) ?_
   ·go_big_quiet_step ((go_at_call 136; with_reducible first | exact Calls.quietE (T.out v4 6 (by omega) _) | exact Calls.quietE (T.out v4 11 (by omega) _) | exact Calls.quietE (T.out v4 25 (by omega) _))); exact wpQuiet_nil rfl
   refine Dm.wpE_take (i := 25) (listed' := (Dm.bits 29 67108863)) (by kernel_rfl) (by kernel_rfl) rfl (fun _ _ _ _ h => h) ?_; apply Exists.intro; refine And.intro (fun x => ?_) ?_
   ·go_big_quiet_step ((go_at_call 136; with_reducible first | exact Calls.quietE (T.out v4 6 (by omega) _) | exact Calls.quietE (T.out v4 11 (by omega) _) | exact Calls.quietE (T.out v4 25 (by omega) _))); exact wpQuiet_nil rfl
   refine Dm.wpE_take (i := 26) (listed' := (Dm.bits 29 134217727)) (by kernel_rfl) (by kernel_rfl) rfl (fun _ _ _ _ h => h) ?_; apply Exists.intro; refine And.intro (fun x => ?_) ?_
   ·go_big_quiet_step ((go_at_call 136; with_reducible first | exact Calls.quietE (T.out v4 6 (by omega) _) | exact Calls.quietE (T.out v4 11 (by omega) _) | exact Calls.quietE (T.out v4 25 (by omega) _))); exact wpQuiet_nil rfl
   refine Dm.wpE_take (i := 27) (listed' := (Dm.bits 29 268435455)) (by kernel_rfl) (by kernel_rfl) rfl (fun _ _ _ _ h => h) ?_; apply Exists.intro; refine And.intro (fun x => ?_) ?_
   ·go_big_quiet_step ((go_at_call 136; with_reducible first | exact Calls.quietE (T.out v4 6 (by omega) _) | exact Calls.quietE (T.out v4 11 (by omega) _) | exact Calls.quietE (T.out v4 25 (by omega) _))); exact wpQuiet_nil rfl
   refine Dm.wpE_take (i := 28) (listed' := (Dm.bits 29 536870911)) (by kernel_rfl) (by kernel_rfl) rfl (fun _ _ _ _ h => h) ?_; apply Exists.intro; refine And.intro (fun x => ?_) ?_
   ·go_big_quiet_step ((go_at_call 136; with_reducible first | exact Calls.quietE (T.out v4 6 (by omega) _) | exact Calls.quietE (T.out v4 11 (by omega) _) | exact Calls.quietE (T.out v4 25 (by omega) _))); exact wpQuiet_nil rfl
   refine Dm.wpE_done (by kernel_rfl) (Ext.refl wp) (fun w1a hx1a => ?_)
   have hX1a := Ext.trans (Ext.refl wp) hx1a
   clear lV c0 c1 c2 c3 c4 c5 c6 c7 hx1a hk1 hgl
   replace h1 := h1.trans hX1a
   replace h2 := h2.ext hX1a
   replace h3 := h3.ext hX1a
   replace h4 := h4.ext hX1a
   clear hX1a
   obtain ⟨wq, rfl⟩ : ∃ x, x = w1a := ⟨_, rfl⟩
   go_upto_region 7 with fail
   have lV := h4.lt
   have c0 : wq.cell? ⟨bV, 0, none⟩ = some (.int .u32 v0) := h4.cell (i := 0) (by simp)
   have c1 : wq.cell? ⟨bV, 1, none⟩ = some (.int .u32 v1) := h4.cell (i := 1) (by simp)
   have c2 : wq.cell? ⟨bV, 2, none⟩ = some (.int .u32 v2) := h4.cell (i := 2) (by simp)
   have c3 : wq.cell? ⟨bV, 3, none⟩ = some (.int .u32 v3) := h4.cell (i := 3) (by simp)
   have c4 : wq.cell? ⟨bV, 4, none⟩ = some (.int .u32 v4) := h4.cell (i := 4) (by simp)
   have c5 : wq.cell? ⟨bV, 5, none⟩ = some (.int .u32 v5) := h4.cell (i := 5) (by simp)
   have c6 : wq.cell? ⟨bV, 6, none⟩ = some (.int .u32 v6) := h4.cell (i := 6) (by simp)
   have c7 : wq.cell? ⟨bV, 7, none⟩ = some (.int .u32 v7) := h4.cell (i := 7) (by simp)
   try simp only [Act.put, List.setIfInBounds_toArray, List.set_cons_succ, List.set_cons_zero]
   refine Dm.wp_region_ext 25 (Dm.bits 25 0) (Ext.refl wq) (by kernel_rfl) (by kernel_rfl) (by kernel_rfl) ?_
   refine Dm.wpE_take (i := 0) (listed' := (Dm.bits 25 1)) (by kernel_rfl) (by kernel_rfl) rfl (fun _ _ _ _ h => h) ?_; apply Exists.intro; refine And.intro (fun x => ?_) ?_
   ·go_big_quiet_step ((go_at_call 136; with_reducible first | exact Calls.quietE (T.out v0 2 (by omega) _) | exact Calls.quietE (T.out v0 13 (by omega) _) | exact Calls.quietE (T.out v0 22 (by omega) _))); exact wpQuiet_nil rfl
   refine Dm.wpE_take (i := 1) (listed' := (Dm.bits 25 3)) (by kernel_rfl) (by kernel_rfl) rfl (fun _ _ _ _ h => h) ?_; apply Exists.intro; refine And.intro (fun x => ?_) ?_
   ·go_big_quiet_step ((go_at_call 136; with_reducible first | exact Calls.quietE (T.out v0 2 (by omega) _) | exact Calls.quietE (T.out v0 13 (by omega) _) | exact Calls.quietE (T.out v0 22 (by omega) _))); exact wpQuiet_nil rfl
   refine Dm.wpE_take (i := 2) (listed' := (Dm.bits 25 7)) (by kernel_rfl) (by kernel_rfl) rfl (fun _ _ _ _ h => h) ?_; apply Exists.intro; refine And.intro (fun x => ?_) ?_
   ·go_big_quiet_step ((go_at_call 136; with_reducible first | exact Calls.quietE (T.out v0 2 (by omega) _) | exact Calls.quietE (T.out v0 13 (by omega) _) | exact Calls.quietE (T.out v0 22 (by omega) _))); exact wpQuiet_nil rfl
   refine Dm.wpE_take (i := 3) (listed' := (Dm.bits 25 15)) (by kernel_rfl) (by kernel_rfl) rfl (fun _ _ _ _ h => h) ?_; apply Exists.intro; refine And.intro (fun x => ?_) ?_
   ·go_big_quiet_step ((go_at_call 136; with_reducible first | exact Calls.quietE (T.out v0 2 (by omega) _) | exact Calls.quietE (T.out v0 13 (by omega) _) | exact Calls.quietE (T.out v0 22 (by omega) _))); exact wpQuiet_nil rfl
   refine Dm.wpE_take (i := 4) (listed' := (Dm.bits 25 31)) (by kernel_rfl) (by kernel_rfl) rfl (fun _ _ _ _ h => h) ?_; apply Exists.intro; refine And.intro (fun x => ?_) ?_
   ·go_big_quiet_step ((go_at_call 136; with_reducible first | exact Calls.quietE (T.out v0 2 (by omega) _) | exact Calls.quietE (T.out v0 13 (by omega) _) | exact Calls.quietE (T.out v0 22 (by omega) _))); exact wpQuiet_nil rfl
   refine Dm.wpE_take (i := 5) (listed' := (Dm.bits 25 63)) (by kernel_rfl) (by kernel_rfl) rfl (fun _ _ _ _ h => h) ?_; apply Exists.intro; refine And.intro (fun x => ?_) ?_
   ·go_big_quiet_step ((go_at_call 136; with_reducible first | exact Calls.quietE (T.out v0 2 (by omega) _) | exact Calls.quietE (T.out v0 13 (by omega) _) | exact Calls.quietE (T.out v0 22 (by omega) _))); exact wpQuiet_nil rfl
   refine Dm.wpE_take (i := 6) (listed' := (Dm.bits 25 127)) (by kernel_rfl) (by kernel_rfl) rfl (fun _ _ _ _ h => h) ?_; apply Exists.intro; refine And.intro (fun x => ?_) ?_
   ·go_big_quiet_step ((go_at_call 136; with_reducible first | exact Calls.quietE (T.out v0 2 (by omega) _) | exact Calls.quietE (T.out v0 13 (by omega) _) | exact Calls.quietE (T.out v0 22 (by omega) _))); exact wpQuiet_nil rfl
   refine Dm.wpE_take (i := 7) (listed' := (Dm.bits 25 255)) (by kernel_rfl) (by kernel_rfl) rfl (fun _ _ _ _ h => h) ?_; apply Exists.intro; refine And.intro (fun x => ?_) ?_
   ·go_big_quiet_step ((go_at_call 136; with_reducible first | exact Calls.quietE (T.out v0 2 (by omega) _) | exact Calls.quietE (T.out v0 13 (by omega) _) | exact Calls.quietE (T.out v0 22 (by omega) _))); exact wpQuiet_nil rfl
   refine Dm.wpE_take (i := 8) (listed' := (Dm.bits 25 511)) (by kernel_rfl) (by kernel_rfl) rfl (fun _ _ _ _ h => h) ?_; apply Exists.intro; refine And.intro (fun x => ?_) ?_
   ·go_big_quiet_step ((go_at_call 136; with_reducible first | exact Calls.quietE (T.out v0 2 (by omega) _) | exact Calls.quietE (T.out v0 13 (by omega) _) | exact Calls.quietE (T.out v0 22 (by omega) _))); exact wpQuiet_nil rfl
   refine Dm.wpE_take (i := 9) (listed' := (Dm.bits 25 1023)) (by kernel_rfl) (by kernel_rfl) rfl (fun _ _ _ _ h => h) ?_; apply Exists.intro; refine And.intro (fun x => ?_) ?_
   ·go_big_quiet_step ((go_at_call 136; with_reducible first | exact Calls.quietE (T.out v0 2 (by omega) _) | exact Calls.quietE (T.out v0 13 (by omega) _) | exact Calls.quietE (T.out v0 22 (by omega) _))); exact wpQuiet_nil rfl
   refine Dm.wpE_take (i := 10) (listed' := (Dm.bits 25 2047)) (by kernel_rfl) (by kernel_rfl) rfl (fun _ _ _ _ h => h) ?_; apply Exists.intro; refine And.intro (fun x => ?_) ?_
   ·go_big_quiet_step ((go_at_call 136; with_reducible first | exact Calls.quietE (T.out v0 2 (by omega) _) | exact Calls.quietE (T.out v0 13 (by omega) _) | exact Calls.quietE (T.out v0 22 (by omega) _))); exact wpQuiet_nil rfl
   refine Dm.wpE_take (i := 11) (listed' := (Dm.bits 25 4095)) (by kernel_rfl) (by kernel_rfl) rfl (fun _ _ _ _ h => h) ?_; apply Exists.intro; refine And.intro (fun x => ?_) ?_
   ·go_big_quiet_step ((go_at_call 136; with_reducible first | exact Calls.quietE (T.out v0 2 (by omega) _) | exact Calls.quietE (T.out v0 13 (by omega) _) | exact Calls.quietE (T.out v0 22 (by omega) _))); exact wpQuiet_nil rfl
   refine Dm.wpE_take (i := 12) (listed' := (Dm.bits 25 8191)) (by kernel_rfl) (by kernel_rfl) rfl (fun _ _ _ _ h => h) ?_; apply Exists.intro; refine And.intro (fun x => ?_) ?_
   ·go_big_quiet_step ((go_at_call 136; with_reducible first | exact Calls.quietE (T.out v0 2 (by omega) _) | exact Calls.quietE (T.out v0 13 (by omega) _) | exact Calls.quietE (T.out v0 22 (by omega) _))); exact wpQuiet_nil rfl
   refine Dm.wpE_take (i := 13) (listed' := (Dm.bits 25 16383)) (by kernel_rfl) (by kernel_rfl) rfl (fun _ _ _ _ h => h) ?_; apply Exists.intro; refine And.intro (fun x => ?_) ?_
   ·go_big_quiet_step ((go_at_call 136; with_reducible first | exact Calls.quietE (T.out v0 2 (by omega) _) | exact Calls.quietE (T.out v0 13 (by omega) _) | exact Calls.quietE (T.out v0 22 (by omega) _))); exact wpQuiet_nil rfl
   refine Dm.wpE_take (i := 14) (listed' := (Dm.bits 25 32767)) (by kernel_rfl) (by kernel_rfl) rfl (fun _ _ _ _ h => h) ?_; apply Exists.intro; refine And.intro (fun x => ?_) ?_
   ·go_big_quiet_step ((go_at_call 136; with_reducible first | exact Calls.quietE (T.out v0 2 (by omega) _) | exact Calls.quietE (T.out v0 13 (by omega) _) | exact Calls.quietE (T.out v0 22 (by omega) _))); exact wpQuiet_nil rfl
   refine Dm.wpE_take (i := 15) (listed' := (Dm.bits 25 65535)) (by kernel_rfl) (by kernel_rfl) rfl (fun _ _ _ _ h => h) ?_; apply Exists.intro; refine And.intro (fun x => ?_) ?_
   ·go_big_quiet_step ((go_at_call 136; with_reducible first | exact Calls.quietE (T.out v0 2 (by omega) _) | exact Calls.quietE (T.out v0 13 (by omega) _) | exact Calls.quietE (T.out v0 22 (by omega) _))); exact wpQuiet_nil rfl
   refine Dm.wpE_take (i := 16) (listed' := (Dm.bits 25 131071)) (by kernel_rfl) (by kernel_rfl) rfl (fun _ _ _ _ h => h) ?_; apply Exists.intro; refine And.intro (fun x => ?_) ?_
   ·go_big_quiet_step ((go_at_call 136; with_reducible first | exact Calls.quietE (T.out v0 2 (by omega) _) | exact Calls.quietE (T.out v0 13 (by omega) _) | exact Calls.quietE (T.out v0 22 (by omega) _))); exact wpQuiet_nil rfl
   refine Dm.wpE_take (i := 17) (listed' := (Dm.bits 25 262143)) (by kernel_rfl) (by kernel_rfl) rfl (fun _ _ _ _ h => h) ?_; apply Exists.intro; refine And.intro (fun x => ?_) ?_
   ·go_big_quiet_step ((go_at_call 136; with_reducible first | exact Calls.quietE (T.out v0 2 (by omega) _) | exact Calls.quietE (T.out v0 13 (by omega) _) | exact Calls.quietE (T.out v0 22 (by omega) _))); exact wpQuiet_nil rfl
   refine Dm.wpE_take (i := 18) (listed' := (Dm.bits 25 524287)) (by kernel_rfl) (by kernel_rfl) rfl (fun _ _ _ _ h => h) ?_; apply Exists.intro; refine And.intro (fun x => ?_) ?_
   ·go_big_quiet_step ((go_at_call 136; with_reducible first | exact Calls.quietE (T.out v0 2 (by omega) _) | exact Calls.quietE (T.out v0 13 (by omega) _) | exact Calls.quietE (T.out v0 22 (by omega) _))); exact wpQuiet_nil rfl
   refine Dm.wpE_take (i := 19) (listed' := (Dm.bits 25 1048575)) (by kernel_rfl) (by kernel_rfl) rfl (fun _ _ _ _ h => h) ?_; apply Exists.intro; refine And.intro (fun x => ?_) ?_
   ·go_big_quiet_step ((go_at_call 136; with_reducible first | exact Calls.quietE (T.out v0 2 (by omega) _) | exact Calls.quietE (T.out v0 13 (by omega) _) | exact Calls.quietE (T.out v0 22 (by omega) _))); exact wpQuiet_nil rfl
   refine Dm.wpE_take (i := 20) (listed' := (Dm.bits 25 2097151)) (by kernel_rfl) (by kernel_rfl) rfl (fun _ _ _ _ h => h) ?_; apply Exists.intro; refine And.intro (fun x => ?_) ?_
   ·go_big_quiet_step ((go_at_call 136; with_reducible first | exact Calls.quietE (T.out v0 2 (by omega) _) | exact Calls.quietE (T.out v0 13 (by omega) _) | exact Calls.quietE (T.out v0 22 (by omega) _))); exact wpQuiet_nil rfl
   refine Dm.wpE_take (i := 21) (listed' := (Dm.bits 25 4194303)) (by kernel_rfl) (by kernel_rfl) rfl (fun _ _ _ _ h => h) ?_; apply Exists.intro; refine And.intro (fun x => ?_) ?_
   ·go_big_quiet_step ((go_at_call 136; with_reducible first | exact Calls.quietE (T.out v0 2 (by omega) _) | exact Calls.quietE (T.out v0 13 (by omega) _) | exact Calls.quietE (T.out v0 22 (by omega) _))); exact wpQuiet_nil rfl
   refine Dm.wpE_take (i := 22) (listed' := (Dm.bits 25 8388607)) (by kernel_rfl) (by kernel_rfl) rfl (fun _ _ _ _ h => h) ?_; apply Exists.intro; refine And.intro (fun x => ?_) ?_
   ·go_big_quiet_step ((go_at_call 136; with_reducible first | exact Calls.quietE (T.out v0 2 (by omega) _) | exact Calls.quietE (T.out v0 13 (by omega) _) | exact Calls.quietE (T.out v0 22 (by omega) _))); exact wpQuiet_nil rfl
   refine Dm.wpE_take (i := 23) (listed' := (Dm.bits 25 16777215)) (by kernel_rfl) (by kernel_rfl) rfl (fun _ _ _ _ h => h) ?_; apply Exists.intro; refine And.intro (fun x => ?_) ?_
   ·go_big_quiet_step ((go_at_call 136; with_reducible first | exact Calls.quietE (T.out v0 2 (by omega) _) | exact Calls.quietE (T.out v0 13 (by omega) _) | exact Calls.quietE (T.out v0 22 (by omega) _))); exact wpQuiet_nil rfl
   refine Dm.wpE_take (i := 24) (listed' := (Dm.bits 25 33554431)) (by kernel_rfl) (by kernel_rfl) rfl (fun _ _ _ _ h => h) ?_; apply Exists.intro; refine And.intro (fun x => ?_) ?_
   ·go_big_quiet_step ((go_at_call 136; with_reducible first | exact Calls.quietE (T.out v0 2 (by omega) _) | exact Calls.quietE (T.out v0 13 (by omega) _) | exact Calls.quietE (T.out v0 22 (by omega) _))); exact wpQuiet_nil rfl
   refine Dm.wpE_done (by kernel_rfl) (Ext.refl wq) (fun w1a hx1a => ?_)
   have hX1a := Ext.trans (Ext.refl wq) hx1a
   clear lV c0 c1 c2 c3 c4 c5 c6 c7 hx1a T
   replace h1 := h1.trans hX1a
   replace h2 := h2.ext hX1a
   replace h3 := h3.ext hX1a
   replace h4 := h4.ext hX1a
   clear hX1a
   obtain ⟨wy, rfl⟩ : ∃ x, x = w1a := ⟨_, rfl⟩
   generalize hone : ((v7 + Go.bits .xor .u32 (Go.bits .xor .u32 (turnW v4 6) (turnW v4 11)) (turnW v4 25) + Go.bits .xor .u32 (Go.bits .and .u32 v4 v5) (Go.bits .and .u32 (Go.bits .xor .u32 (if IntKind.u32.signed = true then -1 else IntKind.u32.max) v4) v6) + rk) % 4294967296 + wk) % 4294967296 = one at *
   generalize htwo : (Go.bits .xor .u32 (Go.bits .xor .u32 (turnW v0 2) (turnW v0 13)) (turnW v0 22) + Go.bits .xor .u32 (Go.bits .xor .u32 (Go.bits .and .u32 v0 v1) (Go.bits .and .u32 v0 v2)) (Go.bits .and .u32 v1 v2)) % 4294967296 = two at *
   have e1 : oneW v4 v5 v6 v7 rk wk = one := (Int.emod_add_emod _ _ _).symm.trans hone
   have e2 : twoW v0 v1 v2 = two := htwo
   have hnx := hnx.out
   rw [e1, e2] at hnx
   replace hnx := Lib.hid hnx
   clear hone htwo e1 e2
   have lV := h4.lt
   have c0 : wy.cell? ⟨bV, 0, none⟩ = some (.int .u32 v0) := h4.cell (i := 0) (by simp)
   have c1 : wy.cell? ⟨bV, 1, none⟩ = some (.int .u32 v1) := h4.cell (i := 1) (by simp)
   have c2 : wy.cell? ⟨bV, 2, none⟩ = some (.int .u32 v2) := h4.cell (i := 2) (by simp)
   have c3 : wy.cell? ⟨bV, 3, none⟩ = some (.int .u32 v3) := h4.cell (i := 3) (by simp)
   have c4 : wy.cell? ⟨bV, 4, none⟩ = some (.int .u32 v4) := h4.cell (i := 4) (by simp)
   have c5 : wy.cell? ⟨bV, 5, none⟩ = some (.int .u32 v5) := h4.cell (i := 5) (by simp)
   have c6 : wy.cell? ⟨bV, 6, none⟩ = some (.int .u32 v6) := h4.cell (i := 6) (by simp)
   have c7 : wy.cell? ⟨bV, 7, none⟩ = some (.int .u32 v7) := h4.cell (i := 7) (by simp)
   have f0 := h4.free 0
   have f1 := h4.free 1
   have f2 := h4.free 2
   have f3 := h4.free 3
   have f4 := h4.free 4
   have f5 := h4.free 5
   have f6 := h4.free 6
   have f7 := h4.free 7
   have g4 : AB bV 173 .u32 [((one + two) % 4294967296), v0, v1, v2, ((v3 + one) % 4294967296), v4, v5, v6] ((((((((wy.setCell ⟨bV, 0, none⟩ (.int .u32 ((one + two) % 4294967296))).setCell ⟨bV, 1, none⟩ (.int .u32 v0)).setCell ⟨bV, 2, none⟩ (.int .u32 v1)).setCell ⟨bV, 3, none⟩ (.int .u32 v2)).setCell ⟨bV, 4, none⟩ (.int .u32 ((v3 + one) % 4294967296))).setCell ⟨bV, 5, none⟩ (.int .u32 v4)).setCell ⟨bV, 6, none⟩ (.int .u32 v5)).setCell ⟨bV, 7, none⟩ (.int .u32 v6)) := ((((((((h4.set 0 ((one + two) % 4294967296)).set 1 v0).set 2 v1).set 3 v2).set 4 ((v3 + one) % 4294967296)).set 5 v4).set 6 v5).set 7 v6)
   have g1 : Ext w ((((((((wy.setCell ⟨bV, 0, none⟩ (.int .u32 ((one + two) % 4294967296))).setCell ⟨bV, 1, none⟩ (.int .u32 v0)).setCell ⟨bV, 2, none⟩ (.int .u32 v1)).setCell ⟨bV, 3, none⟩ (.int .u32 v2)).setCell ⟨bV, 4, none⟩ (.int .u32 ((v3 + one) % 4294967296))).setCell ⟨bV, 5, none⟩ (.int .u32 v4)).setCell ⟨bV, 6, none⟩ (.int .u32 v5)).setCell ⟨bV, 7, none⟩ (.int .u32 v6)) := (Below.setCell (Below.setCell (Below.setCell (Below.setCell (Below.setCell (Below.setCell (Below.setCell (Below.setCell h1 (p := ⟨bV, 0, none⟩) (by show _ ≤ bV; omega) (.int .u32 ((one + two) % 4294967296))) (p := ⟨bV, 1, none⟩) (by show _ ≤ bV; omega) (.int .u32 v0)) (p := ⟨bV, 2, none⟩) (by show _ ≤ bV; omega) (.int .u32 v1)) (p := ⟨bV, 3, none⟩) (by show _ ≤ bV; omega) (.int .u32 v2)) (p := ⟨bV, 4, none⟩) (by show _ ≤ bV; omega) (.int .u32 ((v3 + one) % 4294967296))) (p := ⟨bV, 5, none⟩) (by show _ ≤ bV; omega) (.int .u32 v4)) (p := ⟨bV, 6, none⟩) (by show _ ≤ bV; omega) (.int .u32 v5)) (p := ⟨bV, 7, none⟩) (by show _ ≤ bV; omega) (.int .u32 v6))
   have g2 : AB bH 173 .u32 h ((((((((wy.setCell ⟨bV, 0, none⟩ (.int .u32 ((one + two) % 4294967296))).setCell ⟨bV, 1, none⟩ (.int .u32 v0)).setCell ⟨bV, 2, none⟩ (.int .u32 v1)).setCell ⟨bV, 3, none⟩ (.int .u32 v2)).setCell ⟨bV, 4, none⟩ (.int .u32 ((v3 + one) % 4294967296))).setCell ⟨bV, 5, none⟩ (.int .u32 v4)).setCell ⟨bV, 6, none⟩ (.int .u32 v5)).setCell ⟨bV, 7, none⟩ (.int .u32 v6)) := ((((((((h2.far (c := bV) (i := 0) (by omega) (.int .u32 ((one + two) % 4294967296))).far (c := bV) (i := 1) (by omega) (.int .u32 v0)).far (c := bV) (i := 2) (by omega) (.int .u32 v1)).far (c := bV) (i := 3) (by omega) (.int .u32 v2)).far (c := bV) (i := 4) (by omega) (.int .u32 ((v3 + one) % 4294967296))).far (c := bV) (i := 5) (by omega) (.int .u32 v4)).far (c := bV) (i := 6) (by omega) (.int .u32 v5)).far (c := bV) (i := 7) (by omega) (.int .u32 v6))
   have g3 : AB bR 173 .u32 (List.replicate 8 0) ((((((((wy.setCell ⟨bV, 0, none⟩ (.int .u32 ((one + two) % 4294967296))).setCell ⟨bV, 1, none⟩ (.int .u32 v0)).setCell ⟨bV, 2, none⟩ (.int .u32 v1)).setCell ⟨bV, 3, none⟩ (.int .u32 v2)).setCell ⟨bV, 4, none⟩ (.int .u32 ((v3 + one) % 4294967296))).setCell ⟨bV, 5, none⟩ (.int .u32 v4)).setCell ⟨bV, 6, none⟩ (.int .u32 v5)).setCell ⟨bV, 7, none⟩ (.int .u32 v6)) := ((((((((h3.far (c := bV) (i := 0) (by omega) (.int .u32 ((one + two) % 4294967296))).far (c := bV) (i := 1) (by omega) (.int .u32 v0)).far (c := bV) (i := 2) (by omega) (.int .u32 v1)).far (c := bV) (i := 3) (by omega) (.int .u32 v2)).far (c := bV) (i := 4) (by omega) (.int .u32 ((v3 + one) % 4294967296))).far (c := bV) (i := 5) (by omega) (.int .u32 v4)).far (c := bV) (i := 6) (by omega) (.int .u32 v5)).far (c := bV) (i := 7) (by omega) (.int .u32 v6))
   clear h1 h2 h3 h4
   replace g1 := Lib.hid g1
   go_wp2
   clear lV c0 c1 c2 c3 c4 c5 c6 c7 f0 f1 f2 f3 f4 f5 f6 f7
   go_roundw
   case rel => exact ⟨k + 1, by omega, by go_num, g1.out, g2, g3, by rw [← hVN.out, hnx.out]; exact g4⟩
   case measure => simp [intOf]; omega
  ·have hge : ¬ ((k : Int) < 64) := by omega
   have h4 : AB bV 173 .u32 (runW h WF 64) wr := by
    have e : k = 64 := by omega
    rw [e] at h4
    exact h4
   have hl8 := runW_len (W := WF) hh 64
   have hall := sumP_all hl8 hh
   generalize runW h WF 64 = VF at *
   clear hlt hk
   obtain ⟨wf, rfl⟩ : ∃ x, x = wr := ⟨_, rfl⟩
   go_wp2
   go_loopw [95] (fun i wr => ∃ k : Nat, k ≤ 8 ∧ i = .int .i64 k ∧ Ext w wr ∧ AB bH 173 .u32 h wr ∧ AB bR 173 .u32 (List.replicate 8 0) wr ∧ AB bV 173 .u32 (sumP VF h k) wr) (fun i _ => 8 - (intOf i).toNat)
   case atStart => exact ⟨0, by omega, rfl, h1, h2, h3, by rw [sumP_zero]; exact h4⟩
   case round =>
    obtain ⟨n, hn, rfl, g1, g2, g3, g4⟩ := hrel
    by_cases hlt : n < 8
    ·have hst := sumP_set hl8 hh hlt
     have hln := sumP_len hl8 hh hn
     have HI : Rd1 bV n (.int .u32 (at0 VF n)) wr ∧ Rd1 bH n (.int .u32 (at0 h n)) wr :=
      ⟨⟨g4.lt, by rw [← sumP_at hl8 hh hlt]; exact g4.cell (by omega)⟩, ⟨g2.lt, g2.cell (by omega)⟩⟩
     have hnl : n < (sumP VF h n).length := by omega
     generalize at0 VF n = za at *
     generalize at0 h n = zb at *
     replace hst := Lib.hid hst
     replace hall := Lib.hid hall
     go_upto_region 13 with fail
     try simp only [Act.put, List.setIfInBounds_toArray, List.set_cons_succ, List.set_cons_zero]
     refine Dm.wp_region_fin (I := (fun U => Rd1 bV n (.int .u32 za) U ∧ Rd1 bH n (.int .u32 zb) U)) (z := 8) 9 (Dm.bits 9 0) (by kernel_rfl) (by kernel_rfl) (by kernel_rfl) ?_
     refine Dm.wpF_take (i := 0) (listed' := (Dm.bits 9 1)) (fun _ _ h hx => ⟨h.1.ext hx, h.2.ext hx⟩) HI (by kernel_rfl) (by kernel_rfl) rfl (fun _ _ _ _ h => h) ?_; apply Exists.intro; refine And.intro (fun wq hwq => ?_) ?_
     ·obtain ⟨⟨q0, q1⟩, ⟨q2, q3⟩⟩ := hwq; go_big_quiet_step (fail); exact wpQuiet_nil rfl
     refine Dm.wpF_take (i := 1) (listed' := (Dm.bits 9 3)) (fun _ _ h hx => ⟨h.1.ext hx, h.2.ext hx⟩) HI (by kernel_rfl) (by kernel_rfl) rfl (fun _ _ _ _ h => h) ?_; apply Exists.intro; refine And.intro (fun wq hwq => ?_) ?_
     ·obtain ⟨⟨q0, q1⟩, ⟨q2, q3⟩⟩ := hwq; go_big_quiet_step (fail); exact wpQuiet_nil rfl
     refine Dm.wpF_take (i := 2) (listed' := (Dm.bits 9 7)) (fun _ _ h hx => ⟨h.1.ext hx, h.2.ext hx⟩) HI (by kernel_rfl) (by kernel_rfl) rfl (fun _ _ _ _ h => h) ?_; apply Exists.intro; refine And.intro (fun wq hwq => ?_) ?_
     ·obtain ⟨⟨q0, q1⟩, ⟨q2, q3⟩⟩ := hwq; go_big_quiet_step (fail); exact wpQuiet_nil rfl
     refine Dm.wpF_take (i := 3) (listed' := (Dm.bits 9 15)) (fun _ _ h hx => ⟨h.1.ext hx, h.2.ext hx⟩) HI (by kernel_rfl) (by kernel_rfl) rfl (fun _ _ _ _ h => h) ?_; apply Exists.intro; refine And.intro (fun wq hwq => ?_) ?_
     ·obtain ⟨⟨q0, q1⟩, ⟨q2, q3⟩⟩ := hwq; go_big_quiet_step (fail); exact wpQuiet_nil rfl
     refine Dm.wpF_take (i := 4) (listed' := (Dm.bits 9 31)) (fun _ _ h hx => ⟨h.1.ext hx, h.2.ext hx⟩) HI (by kernel_rfl) (by kernel_rfl) rfl (fun _ _ _ _ h => h) ?_; apply Exists.intro; refine And.intro (fun wq hwq => ?_) ?_
     ·obtain ⟨⟨q0, q1⟩, ⟨q2, q3⟩⟩ := hwq; go_big_quiet_step (fail); exact wpQuiet_nil rfl
     refine Dm.wpF_take (i := 5) (listed' := (Dm.bits 9 63)) (fun _ _ h hx => ⟨h.1.ext hx, h.2.ext hx⟩) HI (by kernel_rfl) (by kernel_rfl) rfl (fun _ _ _ _ h => h) ?_; apply Exists.intro; refine And.intro (fun wq hwq => ?_) ?_
     ·obtain ⟨⟨q0, q1⟩, ⟨q2, q3⟩⟩ := hwq; go_big_quiet_step (fail); exact wpQuiet_nil rfl
     refine Dm.wpF_take (i := 6) (listed' := (Dm.bits 9 127)) (fun _ _ h hx => ⟨h.1.ext hx, h.2.ext hx⟩) HI (by kernel_rfl) (by kernel_rfl) rfl (fun _ _ _ _ h => h) ?_; apply Exists.intro; refine And.intro (fun wq hwq => ?_) ?_
     ·obtain ⟨⟨q0, q1⟩, ⟨q2, q3⟩⟩ := hwq; go_big_quiet_step (fail); exact wpQuiet_nil rfl
     refine Dm.wpF_take (i := 7) (listed' := (Dm.bits 9 255)) (fun _ _ h hx => ⟨h.1.ext hx, h.2.ext hx⟩) HI (by kernel_rfl) (by kernel_rfl) rfl (fun _ _ _ _ h => h) ?_; apply Exists.intro; refine And.intro (fun wq hwq => ?_) ?_
     ·obtain ⟨⟨q0, q1⟩, ⟨q2, q3⟩⟩ := hwq; go_big_quiet_step (fail); exact wpQuiet_nil rfl
     refine Dm.wpF_one (i := 8) (listed' := (Dm.bits 9 511)) (by kernel_rfl) (by kernel_rfl) rfl (fun wz hxz => ?_)
     have cC := (g4.ext hxz).cell hnl
     have fC := (g4.ext hxz).free n
     have lC := (g4.ext hxz).lt
     go_wp2_with fail
     first | refine ⟨fun h => absurd rfl h, ?_⟩ | skip
     refine Dm.wpF_done (by kernel_rfl) (fun wy hxy => ?_)
     clear cC fC lC HI
     have hxy : Ext (wz.setCell ⟨bV, n, none⟩ (.int .u32 ((za + zb) % 4294967296))) wy := hxy
     have k4 := hst.out ▸ (g4.ext hxz).set n ((za + zb) % 4294967296)
     have k4 := AB.ext k4 hxy
     have k3 := ((g3.ext hxz).far (c := bV) (i := n) (by omega) (.int .u32 ((za + zb) % 4294967296))).ext hxy
     have k2 := ((g2.ext hxz).far (c := bV) (i := n) (by omega) (.int .u32 ((za + zb) % 4294967296))).ext hxy
     have k1 := Ext.trans (show Ext w (wz.setCell ⟨bV, n, none⟩ (.int .u32 ((za + zb) % 4294967296))) from Below.setCell (g1.trans hxz) (by show _ ≤ bV; omega) _) hxy
     clear g1 g2 g3 g4 hxz hxy hst hnl
     go_wp2
     go_roundw
     case rel => exact ⟨n + 1, by omega, by go_num, k1, k2, k3, k4⟩
     case measure => simp [intOf]; omega
    ·have hge2 : ¬ ((n : Int) < 8) := by omega
     have g4 : AB bV 173 .u32 BF wr := by
      have e : n = 8 := by omega
      rw [e, hall] at g4
      rw [hbk.out]
      exact g4
     have sF : (cellsI .u32 BF).size = 8 := by
      rw [size_cellsI, hbk.out]
      simp [sumW, hl8, hh]
     have hout := g3.setRow BF
     have hxo : Ext w (wr.setRow bR (cellsI .u32 BF)) := Ext.setRow g1 (by omega) _
     replace hall := Lib.hid hall
     replace hbk := Lib.hid hbk
     go_wp2_with (first | (refine wpList_load_row rfl 173 _ rfl bV rfl _ _ _ _ g4 Tryz.underlying173 rfl (by rw [sF]; kernel_rfl) ?_) | (refine wpList_store_row rfl 173 _ _ rfl bR _ rfl rfl _ _ g3 (by rw [sF]; kernel_rfl) (by rw [sF, sz]) (one_cellsI _ _) ?_))
     refine bodyPost_ret (v := .agg (cellsI .u32 BF)) (results_cell_row rfl _ _ _ _ _ _ _ rfl hout Tryz.underlying173 rfl (by rw [sF]; kernel_rfl)) rfl ?_
     exact ⟨rfl, hxo⟩
end Go.Proofs.YtefjdmjkofaajaaGreatDoor
