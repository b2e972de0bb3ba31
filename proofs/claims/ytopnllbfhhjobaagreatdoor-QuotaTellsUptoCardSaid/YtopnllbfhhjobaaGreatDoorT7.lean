/- Texts one behind the other: The type of slices of strings; slices.Insert at []string. -/
import Derived.Test.YtopnllbfhhjobaaGreatDoorT5
import Derived.Test.YtopnllbfhhjobaaGreatDoorProg
import Derived.Test.YtopnllbfhhjobaaGreatDoorT9
namespace Go.Proofs.YtopnllbfhhjobaaGreatDoor
open Go.RowKit Go.Dm

theorem Tryz.slStr : SlT Tryz.prog 73 9 1 16 := SlT.mk' Tryz.underlying73 (by kernel_rfl) (by decide) (by decide)

end Go.Proofs.YtopnllbfhhjobaaGreatDoor

namespace Go.Proofs.YtopnllbfhhjobaaGreatDoor
open Go.RowKit Go.Dm


theorem qshov_w (w : World) (gu g off lb cb m vc : Nat) (cu cg : Array Value) (hne : gu ≠ g) (hu : w.heap[gu]? = some (.cells cu 9 (0, 0))) (hg : w.heap[g]? = some (.cells cg 9 (0, 0))) (hk : cg.size ≠ 0) :
    (callFunc 90 #[.slice (some ⟨gu, 0, none⟩) m vc, .slice (some ⟨g, off, none⟩) lb cb]).run Tryz.prog w = .ok (.value (.bool false)) w := by
  rw [run_callFunc_extern Tryz.func90 (by kernel_rfl) (by kernel_rfl) (by kernel_rfl) (e := Extern.SlicesOverlaps.overlaps #[73, 73] #[4]) (by kernel_rfl),
    Lib.run_overlaps_apart w 73 4 9 Tryz.underlying73 1 (fun w => by
      obtain ⟨i, z, h1, _, h2, _⟩ := Tryz.slStr.info
      simp [sizeOf, typeInfo, h1, h2]) ⟨gu, 0, none⟩ ⟨g, off, none⟩ m vc lb cb hne 9 9 cu.size cg.size (by simp [World.shape?, hu]) (by simp [World.shape?, hg]) hk
      (frozen_of_row w gu 0 cu 9 hu) (frozen_of_row w gu cu.size cu 9 hu)]
  rfl

set_option maxHeartbeats 400000 in
theorem qsinsert_w (w0 : World) (cs vs : List Value) (v : Value) (n i gu : Nat) (w : World) (hn : n ≤ 1099511627776) (hi : i ≤ n) (h0w : Ext w0 w) (ho : w.ownsRow w0.heap.size 9 1 v n cs)
    (hv : vs.length = 1) (hv1 : ∀ u ∈ vs, u.oneCell' = true) (hc1 : ∀ u ∈ cs, u.oneCell' = true) (hu : w.heap[gu]? = some (.cells vs.toArray 9 (0, 0))) (hne : v.ownBlock ≠ some gu) :
    Calls Tryz.prog 80 #[v, .int .i64 i, .slice (some ⟨gu, 0, none⟩) 1 1] w
      fun e w' => ∃ r, e = .returned r ∧ w'.ownsRow w0.heap.size 9 1 r (n + 1) (cs.take (i) ++ (vs ++ cs.drop (i))) ∧ Ext w0 w' := by
  have hx := Sl.of_owns ho
  obtain ⟨p, cap, rfl, hcap, hcm, hp0⟩ := hx.shape
  have hcm' : cap ≤ 9223372036854775807 := by simpa [maxLen] using hcm
  clear hcm
  have hvx : Sl w 1 (.slice (some ⟨gu, 0, none⟩) 1 1) 1 vs := by
    refine ⟨hv, _, _, rfl, Nat.le_refl _, by simp [maxLen], by simp, Or.inr ⟨gu, 0, rfl, (Array.getElem?_eq_some_iff.1 hu).1, fun j u hj => ?_⟩⟩
    rw [cell_of_row w gu _ vs.toArray _ _ hu]
    simpa using hj
  by_cases hin : i = n
  · subst hin
    have hl0 := fun (p : Option Addr) w => run_slice_low (P := Tryz.prog) 73 9 1 Tryz.slStr.ht Tryz.slStr.hs p i cap i hi w
    have hcl : cs.length = i := by simpa using hx.len
    have hHid := Lib.hid hcl; clear hcl
    go_enter Tryz.func80, Tryz.ntmps80
    go_wp2_with (at_builtin; go_must (refine wpList_appE rfl _ _ Tryz.slStr rfl h0w rfl ho rfl hvx hv1 (by omega) ?_; intro v' w' ho' hx' _))
    go_ret
    refine ⟨_, rfl, ?_, hx'⟩
    rw [show cs.take i = cs from by rw [← hHid.out, List.take_length], show cs.drop i = [] from by rw [← hHid.out, List.drop_length], List.append_nil]
    exact ho'
  · have hin' : i < n := by omega
    have hneq : ((i : Int) == (n : Int)) = false := by rw [beq_eq_false_iff_ne]; omega
    clear hin hi
    obtain ⟨hlen, hrow⟩ := ho
    rcases hrow with ⟨h0, _⟩ | ⟨g, cap', cur, hg0, hBg, hg, hnc, hcm, hcs, htk⟩
    · simp only [Value.slice.injEq] at h0; omega
    · simp only [Value.slice.injEq, true_and] at hg0
      obtain ⟨rfl, rfl⟩ := hg0
      have hgu : gu ≠ g := fun e => hne (by simp [Value.ownBlock, e])
      clear hne hp0 hcap
      have hxi := hx.drop (Nat.le_of_lt hin')
      rw [dropV_any (by omega)] at hxi
      simp only [Nat.zero_add, Nat.mul_one] at hxi
      have hd1 : ∀ u ∈ cs.drop (i), u.oneCell' = true := fun u hu => hc1 u (List.mem_of_mem_drop hu)
      have HL := Lib.hid hlen; clear hlen
      have HT := Lib.hid htk; clear htk
      have HS := Lib.hid hcs; clear hcs
      have HV := Lib.hid hv; clear hv
      have hsi := fun w => run_slice_low_at (P := Tryz.prog) 73 9 1 Tryz.slStr.ht Tryz.slStr.hs g 0 n cap i (by omega) (by omega) w
      simp only [Nat.zero_add, Nat.mul_one] at hsi
      have hcm63 : cap ≤ 9223372036854775807 := hcm'
      clear hcm'
      by_cases hroom : cap < n + 1
      · obtain rfl : cap = n := by omega
        have hsh := fun w => run_slice_high (P := Tryz.prog) 73 9 1 Tryz.slStr.ht Tryz.slStr.hs (some ⟨g, 0, none⟩) cap cap i (by omega) w
        have e1 : IntKind.i64.wrap ((cap : Int) + 1) = (cap : Int) + 1 := IntWalk.i64_in _ (by omega)
        have e2 : IntKind.i64.wrap ((cap : Int) + 1 - i) = (cap : Int) + 1 - i := IntWalk.i64_in _ (by omega)
        go_enter Tryz.func80, Tryz.ntmps80
        go_wp2_with (first
          | (at_builtin; go_must (
              refine wpList_app_zeros rfl _ _ Tryz.slStr Tryz.underlying3 rfl rfl (Sl.take hx (Nat.le_of_lt hin')) (cap + 1 - i) (cap + 1) (by omega) (show Value.int IntKind.i64 ((cap : Int) + 1 - i) = _ by congr 1; omega) (by omega) (by omega) (by omega) ?_
              intro c cur2 hc1' hc2' hc3' hc4'
              have HS2 := Lib.hid hc3'; clear hc3'
              have HT2 := Lib.hid hc4'; clear hc4'
              have hW : Ext w (w.drew.alloc (.cells cur2 9)) := (Ext.drew w).alloc _
              have hg2 : (w.drew.alloc (.cells cur2 9)).heap[w.heap.size]? = some (.cells cur2.toList.toArray 9 (0, 0)) := by rw [Array.toArray_toList]; exact heap_alloc_new w.drew _
              obtain ⟨G2, hG2⟩ : ∃ G2, G2 = w.heap.size := ⟨_, rfl⟩
              have HG2 := Lib.hid hG2
              rw [← hG2] at hg2 ⊢
              clear hG2
              generalize w.drew.alloc (.cells cur2 9) = W2 at *
              have hs2 := fun w => run_slice_low_at (P := Tryz.prog) 73 9 1 Tryz.slStr.ht Tryz.slStr.hs G2 0 (cap + 1) c i (by omega) (by omega) w
              have hs3 := fun w => run_slice_low_at (P := Tryz.prog) 73 9 1 Tryz.slStr.ht Tryz.slStr.hs G2 0 (cap + 1) c (i + 1) (by omega) (by omega) w
              simp only [Nat.zero_add, Nat.mul_one, Int.natCast_add, Int.cast_ofNat_Int] at hs2 hs3))
          | (refine wpList_copy rfl _ _ Tryz.slStr rfl rfl rfl hg2 (hvx.ext hW) hv1 (by omega) (fun _ => rfl) (by rw [HV.out, Array.length_toList, HS2.out]; omega) ?_
             have hX3 : Ext w (W2.setRow G2 (splice cur2.toList (i) vs).toArray) := hW.setRow (by rw [HG2.out]; exact Nat.le_refl _) _
             have hg3 := setRow_heap W2 G2 cur2.toList.toArray (splice cur2.toList (i) vs).toArray 9 (0, 0) hg2
             generalize W2.setRow G2 (splice cur2.toList (i) vs).toArray = W3 at *
             clear hg2))
        have e3 : IntKind.i64.wrap ((i : Int) + 1) = (i : Int) + 1 := IntWalk.i64_in _ (by omega)
        have hX30 := h0w.trans hX3
        have hB2 : w0.heap.size ≤ G2 := by rw [HG2.out]; exact h0w.size
        try simp only [Act.put, List.setIfInBounds_toArray, List.set_cons_succ, List.set_cons_zero]
        refine Dm.wp_region_ext 9 (Dm.bits 9 0) hX30 (by kernel_rfl) (by kernel_rfl) (by kernel_rfl) ?_
        refine Dm.wpE_take (i := 0) (listed' := (Dm.bits 9 1)) (by kernel_rfl) (by kernel_rfl) rfl (fun _ _ _ _ h => h) ?_; apply Exists.intro; refine And.intro (fun x => ?_) ?_
        · go_big_quiet_step (fail); exact wpQuiet_nil rfl
        refine Dm.wpE_take (i := 1) (listed' := (Dm.bits 9 3)) (by kernel_rfl) (by kernel_rfl) rfl (fun _ _ _ _ h => h) ?_; apply Exists.intro; refine And.intro (fun x => ?_) ?_
        · go_big_quiet_step (fail); exact wpQuiet_nil rfl
        refine Dm.wpE_take (i := 2) (listed' := (Dm.bits 9 7)) (by kernel_rfl) (by kernel_rfl) rfl (fun _ _ _ _ h => h) ?_; apply Exists.intro; refine And.intro (fun x => ?_) ?_
        · go_big_quiet_step (fail); exact wpQuiet_nil rfl
        refine Dm.wpE_take (i := 3) (listed' := (Dm.bits 9 15)) (by kernel_rfl) (by kernel_rfl) rfl (fun _ _ _ _ h => h) ?_; apply Exists.intro; refine And.intro (fun x => ?_) ?_
        · go_big_quiet_step (fail); exact wpQuiet_nil rfl
        refine Dm.wpE_take (i := 4) (listed' := (Dm.bits 9 31)) (by kernel_rfl) (by kernel_rfl) rfl (fun _ _ _ _ h => h) ?_; apply Exists.intro; refine And.intro (fun x => ?_) ?_
        · go_big_quiet_step (fail); exact wpQuiet_nil rfl
        refine Dm.wpE_take (i := 5) (listed' := (Dm.bits 9 63)) (by kernel_rfl) (by kernel_rfl) rfl (fun _ _ _ _ h => h) ?_; apply Exists.intro; refine And.intro (fun x => ?_) ?_
        · go_big_quiet_step (fail); exact wpQuiet_nil rfl
        refine Dm.wpE_take (i := 6) (listed' := (Dm.bits 9 127)) (by kernel_rfl) (by kernel_rfl) rfl (fun _ _ _ _ h => h) ?_; apply Exists.intro; refine And.intro (fun x => ?_) ?_
        · go_big_quiet_step (fail); exact wpQuiet_nil rfl
        refine Dm.wpE_take (i := 7) (listed' := (Dm.bits 9 255)) (by kernel_rfl) (by kernel_rfl) rfl (fun _ _ _ _ h => h) ?_; apply Exists.intro; refine And.intro (fun x => ?_) ?_
        · go_big_quiet_step (fail); exact wpQuiet_nil rfl
        refine Dm.wpE_one (i := 8) (listed' := (Dm.bits 9 511)) (by kernel_rfl) (by kernel_rfl) rfl hX30 (fun w1a hx1a => ?_)
        have hX1a := Ext.trans hX30 hx1a
        refine wpList_copy rfl _ _ Tryz.slStr rfl rfl rfl (Ext.heap hg3 hx1a) (hxi.ext (hX3.trans hx1a)) hd1 (by omega) (fun _ => rfl) ?_ ?_
        · rw [List.length_drop, HL.out]; simp only [splice, List.length_append, List.length_take, List.length_drop, HV.out, Array.length_toList, HS2.out]; omega
        have hg4 := setRow_heap w1a G2 _ (splice (splice cur2.toList (i) vs) ((i + 1)) (cs.drop (i))).toArray 9 (0, 0) (Ext.heap hg3 hx1a)
        have hX1b : Ext w0 (w1a.setRow G2 (splice (splice cur2.toList (i) vs) ((i + 1)) (cs.drop (i))).toArray) := hX1a.setRow hB2 _
        generalize w1a.setRow G2 (splice (splice cur2.toList (i) vs) ((i + 1)) (cs.drop (i))).toArray = w1b at *
        refine wpList_nil ?_
        try simp only [Exit.then, Act.put, List.setIfInBounds_toArray, List.set_cons_succ, List.set_cons_zero]
        refine Dm.wpE_done (by kernel_rfl) hX1b (fun w2a hx2a => ?_)
        have hX2a := Ext.trans hX1b hx2a
        replace hg4 := Ext.heap hg4 hx2a
        go_wp2
        go_ret
        refine ⟨_, rfl, ⟨?_, Or.inr ⟨G2, c, _, rfl, hB2, hg4, by omega, hc2', ?_, ?_⟩⟩, hX2a⟩
        · simp only [List.length_append, List.length_take, List.length_drop, HL.out, HV.out]; omega
        · simp only [List.size_toArray, splice, List.length_append, List.length_take, List.length_drop, HV.out, HL.out, Array.length_toList, HS2.out]; omega
        · have := ins1 cur2.toList cs vs (i) (by rw [HL.out]; omega) (by rw [HL.out, HV.out, Array.length_toList, HS2.out]; omega) (by have h := HT2.out; rw [Nat.mul_one] at h; exact h)
          rw [HV.out, HL.out] at this
          rw [show (cap + 1) = cap + 1 by omega, show (i + 1) = i + 1 by omega]
          exact this
      · have hr : n + 1 ≤ cap := by omega
        clear hroom
        have hnr : ¬ ((cap : Int) < (n : Int) + 1) := by omega
        have e1 : IntKind.i64.wrap ((n : Int) + 1) = (n : Int) + 1 := IntWalk.i64_in _ (by omega)
        have e3 : IntKind.i64.wrap ((i : Int) + 1) = (i : Int) + 1 := IntWalk.i64_in _ (by omega)
        have hsn := fun w => run_slice_high (P := Tryz.prog) 73 9 1 Tryz.slStr.ht Tryz.slStr.hs (some ⟨g, 0, none⟩) n cap (n + 1) hr w
        have hs1 := fun w => run_slice_low_at (P := Tryz.prog) 73 9 1 Tryz.slStr.ht Tryz.slStr.hs g 0 (n + 1) cap i (by omega) (by omega) w
        have hs2 := fun w => run_slice_low_at (P := Tryz.prog) 73 9 1 Tryz.slStr.ht Tryz.slStr.hs g 0 (n + 1) cap (i + 1) (by omega) (by omega) w
        simp only [Nat.zero_add, Nat.mul_one, Int.natCast_add, Int.cast_ofNat_Int] at hsn hs1 hs2
        have hov := fun (off lb cb m vc : Nat) => qshov_w w gu g off lb cb m vc _ cur hgu hu hg (by rw [HS.out]; omega)
        go_enter Tryz.func80, Tryz.ntmps80
        go_wp2_with (simp only [hov])
        have hgL : w.heap[g]? = some (.cells cur.toList.toArray 9 (0, 0)) := by rw [Array.toArray_toList]; exact hg
        try simp only [Act.put, List.setIfInBounds_toArray, List.set_cons_succ, List.set_cons_zero]
        refine Dm.wp_region_ext 9 (Dm.bits 9 0) h0w (by kernel_rfl) (by kernel_rfl) (by kernel_rfl) ?_
        refine Dm.wpE_take (i := 0) (listed' := (Dm.bits 9 1)) (by kernel_rfl) (by kernel_rfl) rfl (fun _ _ _ _ h => h) ?_; apply Exists.intro; refine And.intro (fun x => ?_) ?_
        · go_big_quiet_step (fail); exact wpQuiet_nil rfl
        refine Dm.wpE_take (i := 1) (listed' := (Dm.bits 9 3)) (by kernel_rfl) (by kernel_rfl) rfl (fun _ _ _ _ h => h) ?_; apply Exists.intro; refine And.intro (fun x => ?_) ?_
        · go_big_quiet_step (fail); exact wpQuiet_nil rfl
        refine Dm.wpE_take (i := 2) (listed' := (Dm.bits 9 7)) (by kernel_rfl) (by kernel_rfl) rfl (fun _ _ _ _ h => h) ?_; apply Exists.intro; refine And.intro (fun x => ?_) ?_
        · go_big_quiet_step (fail); exact wpQuiet_nil rfl
        refine Dm.wpE_take (i := 3) (listed' := (Dm.bits 9 15)) (by kernel_rfl) (by kernel_rfl) rfl (fun _ _ _ _ h => h) ?_; apply Exists.intro; refine And.intro (fun x => ?_) ?_
        · go_big_quiet_step (fail); exact wpQuiet_nil rfl
        refine Dm.wpE_take (i := 4) (listed' := (Dm.bits 9 31)) (by kernel_rfl) (by kernel_rfl) rfl (fun _ _ _ _ h => h) ?_; apply Exists.intro; refine And.intro (fun x => ?_) ?_
        · go_big_quiet_step (fail); exact wpQuiet_nil rfl
        refine Dm.wpE_take (i := 5) (listed' := (Dm.bits 9 63)) (by kernel_rfl) (by kernel_rfl) rfl (fun _ _ _ _ h => h) ?_; apply Exists.intro; refine And.intro (fun x => ?_) ?_
        · go_big_quiet_step (fail); exact wpQuiet_nil rfl
        refine Dm.wpE_take (i := 6) (listed' := (Dm.bits 9 127)) (by kernel_rfl) (by kernel_rfl) rfl (fun _ _ _ _ h => h) ?_; apply Exists.intro; refine And.intro (fun x => ?_) ?_
        · go_big_quiet_step (fail); exact wpQuiet_nil rfl
        refine Dm.wpE_take (i := 7) (listed' := (Dm.bits 9 255)) (by kernel_rfl) (by kernel_rfl) rfl (fun _ _ _ _ h => h) ?_; apply Exists.intro; refine And.intro (fun x => ?_) ?_
        · go_big_quiet_step (fail); exact wpQuiet_nil rfl
        refine Dm.wpE_one (i := 8) (listed' := (Dm.bits 9 511)) (by kernel_rfl) (by kernel_rfl) rfl h0w (fun w1a hx1a => ?_)
        have hX1a := Ext.trans h0w hx1a
        refine wpList_copy_min rfl _ _ Tryz.slStr rfl rfl rfl (Ext.heap hgL hx1a) (m := n - i) (by show min _ _ = _; omega) (hxi.ext hx1a) hd1 (fun _ => rfl) ?_ ?_
        · rw [List.length_drop, HL.out, Array.length_toList, HS.out]; omega
        have hg4 := setRow_heap w1a g _ (splice cur.toList ((i + 1)) (cs.drop (i))).toArray 9 (0, 0) (Ext.heap hgL hx1a)
        have hu4 : (w1a.setRow g (splice cur.toList ((i + 1)) (cs.drop (i))).toArray).heap[gu]? = some (.cells vs.toArray 9 (0, 0)) := by rw [setRow_other _ _ _ _ hgu]; exact Ext.heap hu hx1a
        have hX1b : Ext w0 (w1a.setRow g (splice cur.toList ((i + 1)) (cs.drop (i))).toArray) := hX1a.setRow hBg _
        generalize w1a.setRow g (splice cur.toList ((i + 1)) (cs.drop (i))).toArray = w1b at *
        refine wpList_nil ?_
        try simp only [Exit.then, Act.put, List.setIfInBounds_toArray, List.set_cons_succ, List.set_cons_zero]
        refine Dm.wpE_done (by kernel_rfl) hX1b (fun w2a hx2a => ?_)
        have hX2a := Ext.trans hX1b hx2a
        replace hg4 := Ext.heap hg4 hx2a
        replace hu4 := Ext.heap hu4 hx2a
        have hv4 := Sl.of_block (n := 1) (sz := 1) hu4 HV.out (by simp [maxLen])
        have hl4 : (splice cur.toList ((i + 1)) (cs.drop (i))).length = cap := by simp only [splice, List.length_append, List.length_take, List.length_drop, HL.out, Array.length_toList, HS.out]; omega
        have HL4 := Lib.hid hl4; clear hl4
        go_wp2_with (refine wpList_copy rfl _ _ Tryz.slStr rfl rfl rfl hg4 hv4 hv1 (by omega) (fun _ => rfl) (by rw [HV.out, HL4.out]; omega) ?_)
        go_ret
        refine ⟨_, rfl, ⟨?_, Or.inr ⟨g, cap, _, rfl, hBg, setRow_heap _ _ _ _ _ _ hg4, hr, hcm, ?_, ?_⟩⟩, hX2a.setRow hBg _⟩
        · simp only [List.length_append, List.length_take, List.length_drop, HL.out, HV.out]; omega
        · rw [List.size_toArray, length_splice _ _ _ (by rw [HV.out, HL4.out]; omega), HL4.out, Nat.mul_one]
        · have := ins2 cur.toList cs vs (i) (by rw [HL.out]; omega) (by rw [HL.out, HV.out, Array.length_toList, HS.out]; omega) (by rw [← HT.out, List.take_take, Nat.min_eq_left (by omega)])
          rw [HV.out, HL.out] at this
          rw [show (n + 1) = n + 1 by omega, show (i + 1) = i + 1 by omega]
          exact this


end Go.Proofs.YtopnllbfhhjobaaGreatDoor
