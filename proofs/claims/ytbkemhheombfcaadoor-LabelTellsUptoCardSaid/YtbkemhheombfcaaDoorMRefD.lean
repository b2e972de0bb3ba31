/- Chapter 4: the walk of the document's Parse. -/
import Derived.Test.YtbkemhheombfcaaDoorMRefC
namespace Go.Dm
open Go Go.RowKit
theorem splitC_len (c : UInt8) : ∀ l : Bs, (splitC c l).length ≤ l.length + 1
  | [] => by simp [splitC]
  | a :: l => by
    have ih := splitC_len c l
    unfold splitC
    split
    · simp; omega
    · split
      · simp
      · rename_i q qs he
        rw [he] at ih
        simp only [List.length_cons] at *; omega
theorem take_snocS {ss : List ByteArray} {k : Nat} (hk : k < ss.length) : ss.take (k + 1) = ss.take k ++ [strAt ss k] := by
  rw [List.take_succ_eq_append_getElem hk]
  simp [hk, strAt]
theorem cutB_two {x A B : ByteArray} (h : [A.data.toList, B.data.toList] = splitC 61 x.data.toList) : cutB x = (A, B) := by
  have := split_two h.symm
  unfold cutB
  rw [this]
theorem cells_two {ss : List ByteArray} {k : Nat} {A B : ByteArray} (hk : k < ss.length) (h : [A.data.toList, B.data.toList] = splitC 61 (strAt ss k).data.toList) :
    pairCells ((ss.take (k + 1)).map cutB) = pairCells ((ss.take k).map cutB) ++ [.string A, .string B] := by
  rw [take_snocS hk, List.map_append, pairCells_app, List.map_cons, List.map_nil, cutB_two h]; rfl
theorem fit_cut {t : ByteArray} {ss : List ByteArray} (h : bytesOf ss = splitC 44 t.data.toList) (ht : t.size ≤ 1048576) : FitP (ss.map cutB) := by
  intro p hp
  obtain ⟨x, hx, rfl⟩ := List.mem_map.1 hp
  have h1 : x.data.toList ∈ splitC 44 t.data.toList := by rw [← h]; exact List.mem_map_of_mem hx
  have h2 := mem_splitC_len h1
  have h3 := cutC_len 61 x.data.toList
  have h4 : t.data.toList.length = t.size := rfl
  have e1 : (cutB x).1.size = (cutC 61 x.data.toList).1.length := by simp [cutB, ByteArray.size]
  have e2 : (cutB x).2.size = (cutC 61 x.data.toList).2.1.length := by simp [cutB, ByteArray.size]
  omega
end Go.Dm
namespace Go.Proofs.YtbkemhheombfcaaDoor
open Go.RowKit Go.Dm

set_option maxHeartbeats 1000000 in
set_option maxRecDepth 100000 in
theorem mparse_w (t : ByteArray) (w : World) (hs : t.size ≤ 1048576) :
    Calls Tryd.prog 27 #[.string t] w fun e w' => ∃ r l b, e = .returned (.tuple #[r, .bool b]) ∧ Pairs w' r l ∧ (labL l, b) = parseLab t.data.toList ∧ Ext w w' := by
  by_cases h45 : t.data.toList = [45]
  · obtain rfl : t = ⟨#[45]⟩ := mk_bytes h45
    clear h45
    go_enter Tryd.func27, Tryd.ntmps27
    go_wp2
    go_ret2
    exact ⟨_, [], true, rfl, Pairs.nil _, rfl, Ext.refl _⟩
  · have hXt : (t.toList == [45]) = false := by rw [ByteArray.toList_eq, beq_eq_false_iff_ne]; exact h45
    have hXt' : ¬ t.toList = [45] := by rw [ByteArray.toList_eq]; exact h45
    have hB := Lib.hid (fun h => parseLab_bad h45 h)
    have hG := Lib.hid (fun h => parseLab_good h45 h)
    clear h45
    go_enter Tryd.func27, Tryd.ntmps27
    go_wp2_with fail
    refine (mcut_w t 44 44 w rfl hs).mono ?_; rintro e w1 ⟨r1, rfl, ⟨ss, hx, hP⟩, h1⟩
    have hsl : ss.length ≤ 1048577 := by
      have h2 := splitC_len 44 t.data.toList
      rw [← hP, bytesOf_len] at h2
      have h4 : t.data.toList.length = t.size := rfl
      omega
    have hz : Hid (∀ k, k < ss.length → (strAt ss k).size ≤ 1048576) := by
      intro k hk
      have h2 : (strAt ss k).data.toList ∈ splitC 44 t.data.toList := by rw [← hP]; exact List.mem_map_of_mem (strAt_mem hk)
      have h3 := mem_splitC_len h2
      have h4 : t.data.toList.length = t.size := rfl
      have h5 : (strAt ss k).data.toList.length = (strAt ss k).size := rfl
      omega
    have hbad : Hid (∀ k, k < ss.length → (splitC 61 (strAt ss k).data.toList).length ≠ 2 → parseLab t.data.toList = ([], false)) := fun k hk h => by
      have h2 : (strAt ss k).data.toList ∈ splitC 44 t.data.toList := by rw [← hP]; exact List.mem_map_of_mem (strAt_mem hk)
      exact hB.out (parsed_bad h2 h)
    have hF := fit_cut hP hs
    have hpl : labL (ss.map cutB) = parsedLab t.data.toList := by rw [cutB_all, hP]; rfl
    rw [← hpl] at hB hG
    obtain ⟨q1, cap1, rfl, hc1, hm1⟩ := hx.shape
    replace hP := Lib.hid hP
    replace hpl := Lib.hid hpl
    go_wp2
    go_loopw [4, 6] (fun v i' wr => ∃ k : Nat, k ≤ ss.length ∧ i' = .int .i64 k ∧ Ext w1 wr ∧ wr.ownsRow w1.heap.size 93 2 v k (pairCells ((ss.take k).map cutB))) (fun _ i' _ => ss.length - (intOf i').toNat)
    case atStart => exact ⟨0, by omega, rfl, Ext.refl _, World.ownsRow_nil _ _ _ _⟩
    case round =>
      obtain ⟨k, hk, rfl, hb, ho⟩ := hrel
      have er := h1.trans hb
      by_cases hlt : k < ss.length
      · obtain ⟨b1, o1, rfl, hbl, c0⟩ := (hx.ext hb).at hlt
        go_wp2_with fail
        refine (mcut_w (strAt ss k) 61 61 wr rfl (hz.out k hlt)).mono ?_; rintro e w2 ⟨r2, rfl, ⟨qs, hq, hqP⟩, h2⟩
        obtain ⟨q2, cap2, rfl, hc2, hm2⟩ := hq.shape
        by_cases hl2 : qs.length = 2
        · obtain ⟨A, B, rfl⟩ : ∃ A B, qs = [A, B] := by
            match qs, hl2 with
            | [A, B], _ => exact ⟨A, B, rfl⟩
          have hst := Lib.hid (cells_two hlt hqP)
          obtain ⟨b7, o7, rfl, hb7, _⟩ := Strs.at hq (k := 0) (by simp)
          have hb2 := hb.trans h2
          have ho2 := Ext.row ho h2
          replace hqP := Lib.hid hqP
          clear hl2 ho
          go_wp2_with fail
          try simp only [Act.put, List.setIfInBounds_toArray, List.set_cons_succ, List.set_cons_zero]
          refine Dm.wp_region_ext 11 (Dm.bits 11 0) hb2 (by kernel_rfl) (by kernel_rfl) (by kernel_rfl) ?_
          refine Dm.wpE_take (i := 0) (listed' := (Dm.bits 11 1)) (by kernel_rfl) (by kernel_rfl) rfl (fun _ _ _ _ h => h) ?_; apply Exists.intro; refine And.intro (fun x => ?_) ?_
          · go_big_quiet_step (fail); exact wpQuiet_nil rfl
          refine Dm.wpE_take (i := 1) (listed' := (Dm.bits 11 3)) (by kernel_rfl) (by kernel_rfl) rfl (fun _ _ _ _ h => h) ?_; apply Exists.intro; refine And.intro (fun x => ?_) ?_
          · go_big_quiet_step (fail); exact wpQuiet_nil rfl
          refine Dm.wpE_take (i := 2) (listed' := (Dm.bits 11 7)) (by kernel_rfl) (by kernel_rfl) rfl (fun _ _ _ _ h => h) ?_; apply Exists.intro; refine And.intro (fun x => ?_) ?_
          · go_big_quiet_step (fail); exact wpQuiet_nil rfl
          refine Dm.wpE_take (i := 4) (listed' := (Dm.bits 11 23)) (by kernel_rfl) (by kernel_rfl) rfl (fun _ _ _ _ h => h) ?_; apply Exists.intro; refine And.intro (fun x => ?_) ?_
          · go_big_quiet_step (fail); exact wpQuiet_nil rfl
          refine Dm.wpE_take (i := 5) (listed' := (Dm.bits 11 55)) (by kernel_rfl) (by kernel_rfl) rfl (fun _ _ _ _ h => h) ?_; apply Exists.intro; refine And.intro (fun x => ?_) ?_
          · go_big_quiet_step (fail); exact wpQuiet_nil rfl
          refine Dm.wpE_two (i := 3) (j := 6) (li := (Dm.bits 11 63)) (lj := (Dm.bits 11 119)) (by kernel_rfl) (by kernel_rfl) (by kernel_rfl) rfl rfl hb2 (fun w1a hx1a => ?_) (fun w1a hx1a => ?_)
          ·
            have hX1a := Ext.trans hb2 hx1a
            have hqa := by first | exact hqa | exact hq.ext hx1a
            have hoa := by first | exact hoa | exact Ext.row ho2 hx1a
            obtain ⟨hqb, d0⟩ := hqa.cells (k := 0) (show 0 < [A, B].length by simp)
            rw [Nat.add_zero, show strAt [A, B] 0 = A from rfl] at d0
            go_wp2_with fail
            have hX1b := hX1a
            try simp only [Exit.then, Act.put, List.setIfInBounds_toArray, List.set_cons_succ, List.set_cons_zero]
            refine Dm.wpE_one (i := 6) (listed' := (Dm.bits 11 127)) (by kernel_rfl) (by kernel_rfl) rfl hX1b (fun w2a hx2a => ?_)
            have hX2a := Ext.trans hX1b hx2a
            replace hqa := hqa.ext hx2a
            replace hoa := Ext.row hoa hx2a
            have hqa := by first | exact hqa | exact hq.ext hx2a
            have hoa := by first | exact hoa | exact Ext.row ho2 hx2a
            obtain ⟨hqb, d0⟩ := hqa.cells (k := 1) (show 1 < [A, B].length by simp)
            rw [show strAt [A, B] 1 = B from rfl] at d0
            go_wp2_with fail
            have hX2b := hX2a
            try simp only [Exit.then, Act.put, List.setIfInBounds_toArray, List.set_cons_succ, List.set_cons_zero]
            refine Dm.wpE_take (i := 7) (listed' := (Dm.bits 11 255)) (by kernel_rfl) (by kernel_rfl) rfl (fun _ _ _ _ h => h) ?_; apply Exists.intro; refine And.intro (fun x => ?_) ?_
            · go_big_quiet_step (fail); exact wpQuiet_nil rfl
            refine Dm.wpE_one (i := 8) (listed' := (Dm.bits 11 511)) (by kernel_rfl) (by kernel_rfl) rfl hX2b (fun w3a hx3a => ?_)
            have hX3a := Ext.trans hX2b hx3a
            replace hqa := hqa.ext hx3a
            replace hoa := Ext.row hoa hx3a
            go_wp2_with fail
            have hl := Sl.lit w3a 93 2 1 #[.string A, .string B] rfl (by simp [maxLen])
            have hs3 := (Ext.refl w3a).alloc (.cells #[.string A, .string B] 93)
            generalize w3a.alloc (.cells #[.string A, .string B] 93) = w3b at *
            have hX3b := Ext.trans hX3a hs3
            replace hqa := hqa.ext hs3
            replace hoa := Ext.row hoa hs3
            try simp only [Exit.then, Act.put, List.setIfInBounds_toArray, List.set_cons_succ, List.set_cons_zero]
            refine Dm.wpE_one (i := 9) (listed' := (Dm.bits 11 1023)) (by kernel_rfl) (by kernel_rfl) rfl hX3b (fun w4a hx4a => ?_)
            have hX4a := Ext.trans hX3b hx4a
            replace hqa := hqa.ext hx4a
            replace hoa := Ext.row hoa hx4a
            replace hl := hl.ext hx4a
            refine wpList_appE rfl _ _ Tryd.slPair2 rfl hX4a rfl hoa rfl hl (pairCells_one [(A, B)]) (by omega) ?_
            intro v2 w4b ho3 hX4b _
            refine wpList_nil ?_
            try simp only [Exit.then, Act.put, List.setIfInBounds_toArray, List.set_cons_succ, List.set_cons_zero]
            refine Dm.wpE_take (i := 10) (listed' := (Dm.bits 11 2047)) (by kernel_rfl) (by kernel_rfl) rfl (fun _ _ _ _ h => h) ?_; apply Exists.intro; refine And.intro (fun x => ?_) ?_
            · go_big_quiet_step (fail); exact wpQuiet_nil rfl
            refine Dm.wpE_done (by kernel_rfl) hX4b (fun w5a hx5a => ?_)
            have hX5a := Ext.trans hX4b hx5a
            replace ho3 := Ext.row ho3 hx5a
            go_wp2
            go_roundw
            case rel => exact ⟨k + 1, by omega, by go_num, hX5a, by rw [hst.out]; exact ho3⟩
            case measure => simp [intOf]; omega
          ·
            have hX1a := Ext.trans hb2 hx1a
            have hqa := by first | exact hqa | exact hq.ext hx1a
            have hoa := by first | exact hoa | exact Ext.row ho2 hx1a
            obtain ⟨hqb, d0⟩ := hqa.cells (k := 1) (show 1 < [A, B].length by simp)
            rw [show strAt [A, B] 1 = B from rfl] at d0
            go_wp2_with fail
            have hX1b := hX1a
            try simp only [Exit.then, Act.put, List.setIfInBounds_toArray, List.set_cons_succ, List.set_cons_zero]
            refine Dm.wpE_one (i := 3) (listed' := (Dm.bits 11 127)) (by kernel_rfl) (by kernel_rfl) rfl hX1b (fun w6a hx6a => ?_)
            have hX6a := Ext.trans hX1b hx6a
            replace hqa := hqa.ext hx6a
            replace hoa := Ext.row hoa hx6a
            have hqa := by first | exact hqa | exact hq.ext hx6a
            have hoa := by first | exact hoa | exact Ext.row ho2 hx6a
            obtain ⟨hqb, d0⟩ := hqa.cells (k := 0) (show 0 < [A, B].length by simp)
            rw [Nat.add_zero, show strAt [A, B] 0 = A from rfl] at d0
            go_wp2_with fail
            have hX6b := hX6a
            try simp only [Exit.then, Act.put, List.setIfInBounds_toArray, List.set_cons_succ, List.set_cons_zero]
            refine Dm.wpE_take (i := 7) (listed' := (Dm.bits 11 255)) (by kernel_rfl) (by kernel_rfl) rfl (fun _ _ _ _ h => h) ?_; apply Exists.intro; refine And.intro (fun x => ?_) ?_
            · go_big_quiet_step (fail); exact wpQuiet_nil rfl
            refine Dm.wpE_one (i := 8) (listed' := (Dm.bits 11 511)) (by kernel_rfl) (by kernel_rfl) rfl hX6b (fun w7a hx7a => ?_)
            have hX7a := Ext.trans hX6b hx7a
            replace hqa := hqa.ext hx7a
            replace hoa := Ext.row hoa hx7a
            go_wp2_with fail
            have hl := Sl.lit w7a 93 2 1 #[.string A, .string B] rfl (by simp [maxLen])
            have hs7 := (Ext.refl w7a).alloc (.cells #[.string A, .string B] 93)
            generalize w7a.alloc (.cells #[.string A, .string B] 93) = w7b at *
            have hX7b := Ext.trans hX7a hs7
            replace hqa := hqa.ext hs7
            replace hoa := Ext.row hoa hs7
            try simp only [Exit.then, Act.put, List.setIfInBounds_toArray, List.set_cons_succ, List.set_cons_zero]
            refine Dm.wpE_one (i := 9) (listed' := (Dm.bits 11 1023)) (by kernel_rfl) (by kernel_rfl) rfl hX7b (fun w8a hx8a => ?_)
            have hX8a := Ext.trans hX7b hx8a
            replace hqa := hqa.ext hx8a
            replace hoa := Ext.row hoa hx8a
            replace hl := hl.ext hx8a
            refine wpList_appE rfl _ _ Tryd.slPair2 rfl hX8a rfl hoa rfl hl (pairCells_one [(A, B)]) (by omega) ?_
            intro v2 w8b ho3 hX8b _
            refine wpList_nil ?_
            try simp only [Exit.then, Act.put, List.setIfInBounds_toArray, List.set_cons_succ, List.set_cons_zero]
            refine Dm.wpE_take (i := 10) (listed' := (Dm.bits 11 2047)) (by kernel_rfl) (by kernel_rfl) rfl (fun _ _ _ _ h => h) ?_; apply Exists.intro; refine And.intro (fun x => ?_) ?_
            · go_big_quiet_step (fail); exact wpQuiet_nil rfl
            refine Dm.wpE_done (by kernel_rfl) hX8b (fun w9a hx9a => ?_)
            have hX9a := Ext.trans hX8b hx9a
            replace ho3 := Ext.row ho3 hx9a
            go_wp2
            go_roundw
            case rel => exact ⟨k + 1, by omega, by go_num, hX9a, by rw [hst.out]; exact ho3⟩
            case measure => simp [intOf]; omega
        · have hz' := Lib.hid (hbad.out k hlt (by rw [← hqP, bytesOf_len]; exact hl2))
          have hne : ((qs.length : Int) != 2) = true := by rw [bne_iff_ne]; omega
          clear hl2 hqP
          go_wp2
          go_ret2
          exact ⟨_, [], false, rfl, Pairs.nil _, by rw [hz'.out]; rfl, er.trans h2⟩
      · obtain rfl : k = ss.length := by omega
        rw [List.take_length] at ho
        have hPr : Pairs wr _ (ss.map cutB) := Pairs.of_row ho (by simp)
        have hll : (ss.map cutB).length = ss.length := List.length_map _
        have CR := mright_w (ss.map cutB) _ wr hF hPr
        cases hR : rightLab (labL (ss.map cutB)) with
        | false =>
          have hz' := Lib.hid (hB.out hR)
          rw [hR] at CR
          clear hR
          go_wp2_with fail
          refine CR.mono ?_; rintro e w3 ⟨rfl, h3⟩
          go_wp2
          go_ret2
          exact ⟨_, [], false, rfl, Pairs.nil _, by rw [hz'.out]; rfl, er.trans h3⟩
        | true =>
          have hz' := Lib.hid (hG.out hR)
          rw [hR] at CR
          clear hR
          go_wp2_with fail
          refine CR.mono ?_; rintro e w3 ⟨rfl, h3⟩
          go_wp2
          go_ret2
          exact ⟨_, ss.map cutB, true, rfl, hPr.ext h3, by rw [hz'.out, hpl.out], er.trans h3⟩

end Go.Proofs.YtbkemhheombfcaaDoor
