/- Chapter 4: the walks of the document's Put, Text; of the law's refL, sameL. -/
import Derived.Test.YtbkemhheombfcaaDoorMRefA
import Derived.Test.YtbkemhheombfcaaDoorLSame
namespace Go.Dm
open Go Go.RowKit
theorem textB32 {t : ByteArray} (h : t.size ≤ 32) : (textB t).size ≤ 42 := by
  rw [size_len]
  have := putL_ten (u := t.data.toList.length) (Nat.lt_of_le_of_lt (show t.data.toList.length ≤ 32 from h) (by decide))
  show (putT t.data.toList).length ≤ 42
  rw [putT, List.length_append]
  have h2 : t.data.toList.length = t.size := rfl
  omega
theorem putLab_some {L : List PairL} (h : rightLab L = true) : putLab L = putL L.length ++ putP L := by unfold putLab; rw [if_pos h]
theorem shows_ne {L : List PairL} (h : L ≠ []) : shows L ≠ [] := by
  cases L with
  | nil => exact absurd rfl h
  | cons p L =>
    intro e
    have : (61 : UInt8) ∈ shows (p :: L) := by
      unfold shows
      rw [List.map_cons, Lib.join_cons]
      simp [showP]
    rw [e] at this
    cases this
end Go.Dm
namespace Go.Proofs.YtbkemhheombfcaaDoor
open Go.RowKit Go.Dm

theorem Tryd.slPair2 : SlT Tryd.prog 34 93 2 32 := SlT.mk' Tryd.underlying34 (by kernel_rfl) (by decide) (by decide)

set_option maxHeartbeats 2000000 in
set_option maxRecDepth 100000 in
theorem mput_w (l : List PairS) (v : Value) (w : World) (hf : FitP l) (hx : Pairs w v l) :
    Calls Tryd.prog 30 #[v] w fun e w' => e = .returned (.string ⟨(putLab (labL l)).toArray⟩) ∧ Ext w w' := by
  obtain ⟨q, cap, rfl, hcap, hcm⟩ := hx.shape
  have C := mright_w l _ w hf hx
  cases hR : rightLab (labL l) with
  | false =>
    have hz : Hid (putLab (labL l) = []) := by show _ = _; unfold putLab; rw [hR]; rfl
    rw [hR] at C
    clear hR
    go_enter Tryd.func30, Tryd.ntmps30
    go_wp2_with fail
    refine C.mono ?_; rintro e w1 ⟨rfl, h1⟩
    go_wp2
    go_ret
    exact ⟨by rw [hz.out]; rfl, h1⟩
  | true =>
    have hz : Hid (putLab (labL l) = putL l.length ++ putP (labL l)) := by show _ = _; rw [putLab_some hR, labL_len]
    have h8 : l.length ≤ 8 := by have := (rightLab_iff.1 hR).1; rwa [labL_len] at this
    have hAt := Lib.hid (fun k (hk : k < l.length) => rightLab_at hR hk)
    have hU : U64 l.length := show l.length < _ by omega
    have hpl := putL_ten hU
    have hwl : IntKind.u64.wrap (l.length : Int) = (l.length : Int) := by
      simp only [IntKind.wrap, IntKind.bits, IntKind.signed]
      simp; omega
    rw [hR] at C
    clear hR
    go_enter Tryd.func30, Tryd.ntmps30
    go_wp2_with fail
    refine C.mono ?_; rintro e w1 ⟨rfl, h1⟩
    clear C
    go_wp2_with fail
    refine (rput_w l.length w1 hU).mono ?_; rintro e w2 ⟨rfl, h2⟩
    have e2 := h1.trans h2
    clear hwl
    go_wp2
    go_loopw [3, 4] (fun s' i' wr => ∃ (k : Nat) (b : ByteArray), k ≤ l.length ∧ i' = .int .i64 k ∧ s' = .string b ∧ b.size ≤ 10 + k * 84 ∧ Ext w2 wr ∧ Hid (b.data.toList = putL l.length ++ putP ((labL l).take k))) (fun _ i' _ => l.length - (intOf i').toNat)
    case atStart => exact ⟨0, ⟨(putL l.length).toArray⟩, by omega, rfl, rfl, by rw [size_len]; exact hpl, Ext.refl _, by show _ = _; simp [putP]⟩
    case round =>
      obtain ⟨k, b, hk, rfl, rfl, hbs, hb, HB⟩ := hrel
      have er := e2.trans hb
      by_cases hlt : k < l.length
      · obtain ⟨bb, off, rfl, hbl, c0, c1⟩ := (hx.ext er).at hlt
        obtain ⟨hf1, hf2⟩ := hAt.out k hlt
        have s1 := textB32 hf1
        have s2 := textB32 hf2
        have hst : Hid (((b ++ textB (pairAt l k).1) ++ textB (pairAt l k).2).data.toList = putL l.length ++ putP ((labL l).take (k + 1))) := by
          show _ = _
          rw [putP_step (by rw [labL_len]; exact hlt), labL_at l hlt, data_append, data_append, HB.out, List.append_assoc, List.append_assoc]
          rfl
        have C1 : Hid (∀ U, Ext wr U → Calls Tryd.prog 68 #[.string (pairAt l k).1] U fun e w' => e = .returned (.string (textB (pairAt l k).1)) ∧ Ext U w') := fun U _ => rputtext_w _ U (by omega)
        have C2 : Hid (∀ U, Ext wr U → Calls Tryd.prog 68 #[.string (pairAt l k).2] U fun e w' => e = .returned (.string (textB (pairAt l k).2)) ∧ Ext U w') := fun U _ => rputtext_w _ U (by omega)
        generalize textB (pairAt l k).1 = t1 at *
        generalize textB (pairAt l k).2 = t2 at *
        go_wp2_with fail
        refine Dm.wp_region_grow (by kernel_rfl) (by kernel_rfl) ?_
        repeat (go_big_quiet_step (first
          | (go_at_call 68; with_reducible exact Calls.quietE (C1.out _ (ext_grow _ _)))
          | (go_at_call 68; with_reducible exact Calls.quietE (C2.out _ (ext_grow _ _)))))
        refine wpQuiet_nil ?_
        intro U hU
        have hU' := hb.trans hU
        clear C1 C2
        go_wp2
        go_roundw
        case rel => exact ⟨k + 1, _, by omega, by go_num, rfl, by rw [ByteArray.size_append, ByteArray.size_append]; omega, hU', hst⟩
        case measure => simp [intOf]; omega
      · go_wp2
        go_ret
        obtain rfl : k = l.length := by omega
        have h := HB.out
        rw [← labL_len, List.take_length, labL_len, ← hz.out] at h
        exact ⟨by rw [← mk_bytes h]; rfl, er⟩

set_option maxHeartbeats 2000000 in
set_option maxRecDepth 100000 in
theorem mtext_w (l : List PairS) (v : Value) (w : World) (hf : FitP l) (hx : Pairs w v l) :
    Calls Tryd.prog 31 #[v] w fun e w' => e = .returned (.string ⟨(textLab (labL l)).toArray⟩) ∧ Ext w w' := by
  obtain ⟨q, cap, rfl, hcap, hcm⟩ := hx.shape
  have C := mright_w l _ w hf hx
  cases hR : rightLab (labL l) with
  | false =>
    have hz : Hid (textLab (labL l) = [63]) := by show _ = _; unfold textLab; rw [hR]; rfl
    rw [hR] at C
    clear hR
    go_enter Tryd.func31, Tryd.ntmps31
    go_wp2_with fail
    refine C.mono ?_; rintro e w1 ⟨rfl, h1⟩
    go_wp2
    go_ret
    exact ⟨by rw [hz.out]; rfl, h1⟩
  | true =>
    have h8 : l.length ≤ 8 := by have := (rightLab_iff.1 hR).1; rwa [labL_len] at this
    have hAt := Lib.hid (fun k (hk : k < l.length) => rightLab_at hR hk)
    have hN := Lib.hid (fun h : l = [] => (show textLab (labL l) = [45] by rw [h]; rfl))
    have hY := Lib.hid (fun h : l ≠ [] => (show textLab (labL l) = shows (labL l) from textLab_one hR (by intro e; exact h (by simpa [labL] using e))))
    rw [hR] at C
    clear hR
    go_enter Tryd.func31, Tryd.ntmps31
    go_wp2_with fail
    refine C.mono ?_; rintro e w1 ⟨rfl, h1⟩
    clear C
    go_wp2
    go_loopw [3, 4] (fun s' i' wr => ∃ (k : Nat) (b : ByteArray), k ≤ l.length ∧ i' = .int .i64 k ∧ s' = .string b ∧ b.size ≤ k * 66 ∧ Ext w1 wr ∧ Hid (b.data.toList = shows ((labL l).take k))) (fun _ i' _ => l.length - (intOf i').toNat)
    case atStart => exact ⟨0, ⟨#[]⟩, by omega, rfl, rfl, by decide, Ext.refl _, rfl⟩
    case round =>
      obtain ⟨k, b, hk, rfl, rfl, hbs, hb, HB⟩ := hrel
      have er := h1.trans hb
      by_cases hlt : k < l.length
      · obtain ⟨bb, off, rfl, hbl, c0, c1⟩ := (hx.ext er).at hlt
        obtain ⟨hf1, hf2⟩ := hAt.out k hlt
        have hlt' : k < (labL l).length := by rw [labL_len]; exact hlt
        by_cases h0 : 0 < k
        · have hst : Hid (((((b ++ (⟨#[44]⟩ : ByteArray)) ++ (pairAt l k).1) ++ (⟨#[61]⟩ : ByteArray)) ++ (pairAt l k).2).data.toList = shows ((labL l).take (k + 1))) := by
            show _ = _
            rw [shows_step h0 hlt', labL_at l hlt]
            simp only [data_append, HB.out, List.append_assoc]
            rfl
          have s1 : (⟨#[44]⟩ : ByteArray).size = 1 := rfl
          have s2 : (⟨#[61]⟩ : ByteArray).size = 1 := rfl
          have hsz : ((((b ++ (⟨#[44]⟩ : ByteArray)) ++ (pairAt l k).1) ++ (⟨#[61]⟩ : ByteArray)) ++ (pairAt l k).2).size ≤ (k + 1) * 66 := by simp only [ByteArray.size_append]; omega
          generalize (pairAt l k).1 = t1 at *
          generalize (pairAt l k).2 = t2 at *
          have hb1 : (b ++ (⟨#[44]⟩ : ByteArray)).size ≤ k * 66 + 1 := by simp only [ByteArray.size_append]; omega
          clear s1 s2
          go_wp2_with fail
          refine Dm.wp_region_grow (by kernel_rfl) (by kernel_rfl) ?_
          repeat (go_big_quiet_step (fail))
          refine wpQuiet_nil ?_
          intro U hU
          have hU' := hb.trans hU
          go_wp2
          go_roundw
          case rel => exact ⟨k + 1, _, by omega, by go_num, rfl, hsz, hU', hst⟩
          case measure => simp [intOf]; omega
        · obtain rfl : k = 0 := by omega
          have hst : Hid ((((b ++ (pairAt l 0).1) ++ (⟨#[61]⟩ : ByteArray)) ++ (pairAt l 0).2).data.toList = shows ((labL l).take 1)) := by
            show _ = _
            have hB : b.data.toList = [] := HB.out
            rw [shows_step0 hlt', labL_at l hlt]
            simp only [data_append, hB, List.append_assoc, List.nil_append]
            rfl
          have s2 : (⟨#[61]⟩ : ByteArray).size = 1 := rfl
          have hsz : (((b ++ (pairAt l 0).1) ++ (⟨#[61]⟩ : ByteArray)) ++ (pairAt l 0).2).size ≤ (0 + 1) * 66 := by simp only [ByteArray.size_append]; omega
          rw [Nat.zero_mul, Nat.add_zero] at c0 c1
          generalize (pairAt l 0).1 = t1 at *
          generalize (pairAt l 0).2 = t2 at *
          clear s2
          go_wp2_with fail
          refine Dm.wp_region_grow (by kernel_rfl) (by kernel_rfl) ?_
          repeat (go_big_quiet_step (fail))
          refine wpQuiet_nil ?_
          intro U hU
          have hU' := hb.trans hU
          go_wp2
          go_roundw
          case rel => exact ⟨1, _, by omega, rfl, rfl, hsz, hU', hst⟩
          case measure => simp [intOf]; omega
      · obtain rfl : k = l.length := by omega
        have h := HB.out
        rw [← labL_len, List.take_length] at h
        by_cases hl0 : l = []
        · subst hl0
          have hz := hN.out rfl
          obtain rfl : b = ⟨#[]⟩ := mk_bytes h
          replace hz := Lib.hid hz
          go_wp2
          go_ret
          exact ⟨by rw [hz.out]; rfl, er⟩
        · have hz := hY.out hl0
          have hne : b.toList.isEmpty = false := by
            rw [ByteArray.toList_eq, List.isEmpty_eq_false_iff, h]
            exact shows_ne (by intro e; exact hl0 (by simpa [labL] using e))
          rw [← h] at hz
          replace hz := Lib.hid hz
          clear h
          go_wp2
          go_ret
          exact ⟨by rw [hz.out]; rfl, er⟩

set_option maxHeartbeats 4000000 in
set_option maxRecDepth 100000 in
theorem refl_w (l : List PairS) (v : Value) (w : World) (hm : l.length ≤ 4294967296) (hx : Pairs w v l) :
    Calls Tryd.prog 22 #[v] w fun e w' => ∃ r, e = .returned r ∧ Pairs w' r l ∧ Ext w w' := by
  obtain ⟨q, cap, rfl, hcap, hcm⟩ := hx.shape
  go_enter Tryd.func22, Tryd.ntmps22
  go_wp2
  go_loopw [3, 4] (fun r i' wr => ∃ k : Nat, k ≤ l.length ∧ i' = .int .i64 k ∧ Ext w wr ∧ wr.ownsRow w.heap.size 93 2 r k (pairCells (l.take k))) (fun _ i' _ => l.length - (intOf i').toNat)
  case atStart => exact ⟨0, by omega, rfl, Ext.refl _, World.ownsRow_nil _ _ _ _⟩
  case round =>
    obtain ⟨k, hk, rfl, hb, ho⟩ := hrel
    by_cases hlt : k < l.length
    · obtain ⟨bb, off, rfl, hbl, c0, c1⟩ := hx.at hlt
      have hst : Hid (pairCells (l.take (k + 1)) = pairCells (l.take k) ++ [.string (pairAt l k).1, .string (pairAt l k).2]) := by
        show _ = _
        rw [take_snocP hlt, pairCells_app]; rfl
      generalize (pairAt l k).1 = s1 at *
      generalize (pairAt l k).2 = s2 at *
      go_wp2_with fail
      try simp only [Act.put, List.setIfInBounds_toArray, List.set_cons_succ, List.set_cons_zero]
      refine Dm.wp_region_ext 15 (Dm.bits 15 0) hb (by kernel_rfl) (by kernel_rfl) (by kernel_rfl) ?_
      refine Dm.wpE_take (i := 0) (listed' := (Dm.bits 15 1)) (by kernel_rfl) (by kernel_rfl) rfl (fun _ _ _ _ h => h) ?_; apply Exists.intro; refine And.intro (fun x => ?_) ?_
      · go_big_quiet_step (fail); exact wpQuiet_nil rfl
      refine Dm.wpE_take (i := 1) (listed' := (Dm.bits 15 3)) (by kernel_rfl) (by kernel_rfl) rfl (fun _ _ _ _ h => h) ?_; apply Exists.intro; refine And.intro (fun x => ?_) ?_
      · go_big_quiet_step (fail); exact wpQuiet_nil rfl
      refine Dm.wpE_take (i := 2) (listed' := (Dm.bits 15 7)) (by kernel_rfl) (by kernel_rfl) rfl (fun _ _ _ _ h => h) ?_; apply Exists.intro; refine And.intro (fun x => ?_) ?_
      · go_big_quiet_step (fail); exact wpQuiet_nil rfl
      refine Dm.wpE_take (i := 3) (listed' := (Dm.bits 15 15)) (by kernel_rfl) (by kernel_rfl) rfl (fun _ _ _ _ h => h) ?_; apply Exists.intro; refine And.intro (fun x => ?_) ?_
      · go_big_quiet_step (fail); exact wpQuiet_nil rfl
      refine Dm.wpE_take (i := 4) (listed' := (Dm.bits 15 31)) (by kernel_rfl) (by kernel_rfl) rfl (fun _ _ _ _ h => h) ?_; apply Exists.intro; refine And.intro (fun x => ?_) ?_
      · go_big_quiet_step (fail); exact wpQuiet_nil rfl
      refine Dm.wpE_take (i := 5) (listed' := (Dm.bits 15 63)) (by kernel_rfl) (by kernel_rfl) rfl (fun _ _ _ _ h => h) ?_; apply Exists.intro; refine And.intro (fun x => ?_) ?_
      · go_big_quiet_step (fail); exact wpQuiet_nil rfl
      refine Dm.wpE_take (i := 6) (listed' := (Dm.bits 15 127)) (by kernel_rfl) (by kernel_rfl) rfl (fun _ _ _ _ h => h) ?_; apply Exists.intro; refine And.intro (fun x => ?_) ?_
      · go_big_quiet_step (fail); exact wpQuiet_nil rfl
      refine Dm.wpE_take (i := 7) (listed' := (Dm.bits 15 255)) (by kernel_rfl) (by kernel_rfl) rfl (fun _ _ _ _ h => h) ?_; apply Exists.intro; refine And.intro (fun x => ?_) ?_
      · go_big_quiet_step (fail); exact wpQuiet_nil rfl
      refine Dm.wpE_take (i := 8) (listed' := (Dm.bits 15 511)) (by kernel_rfl) (by kernel_rfl) rfl (fun _ _ _ _ h => h) ?_; apply Exists.intro; refine And.intro (fun x => ?_) ?_
      · go_big_quiet_step (fail); exact wpQuiet_nil rfl
      refine Dm.wpE_take (i := 9) (listed' := (Dm.bits 15 1023)) (by kernel_rfl) (by kernel_rfl) rfl (fun _ _ _ _ h => h) ?_; apply Exists.intro; refine And.intro (fun x => ?_) ?_
      · go_big_quiet_step (fail); exact wpQuiet_nil rfl
      refine Dm.wpE_take (i := 10) (listed' := (Dm.bits 15 2047)) (by kernel_rfl) (by kernel_rfl) rfl (fun _ _ _ _ h => h) ?_; apply Exists.intro; refine And.intro (fun x => ?_) ?_
      · go_big_quiet_step (fail); exact wpQuiet_nil rfl
      refine Dm.wpE_take (i := 11) (listed' := (Dm.bits 15 4095)) (by kernel_rfl) (by kernel_rfl) rfl (fun _ _ _ _ h => h) ?_; apply Exists.intro; refine And.intro (fun x => ?_) ?_
      · go_big_quiet_step (fail); exact wpQuiet_nil rfl
      refine Dm.wpE_one (i := 12) (listed' := (Dm.bits 15 8191)) (by kernel_rfl) (by kernel_rfl) rfl hb (fun w1a hx1a => ?_)
      have hX1a := Ext.trans hb hx1a
      have hoa := Ext.row ho hx1a
      go_wp2_with fail
      have hl := Sl.lit w1a 93 2 1 #[.string s1, .string s2] rfl (by simp [maxLen])
      have hs1 := (Ext.refl w1a).alloc (.cells #[.string s1, .string s2] 93)
      generalize w1a.alloc (.cells #[.string s1, .string s2] 93) = w1b at *
      have hX1b := Ext.trans hX1a hs1
      replace hoa := Ext.row hoa hs1
      try simp only [Exit.then, Act.put, List.setIfInBounds_toArray, List.set_cons_succ, List.set_cons_zero]
      refine Dm.wpE_one (i := 13) (listed' := (Dm.bits 15 16383)) (by kernel_rfl) (by kernel_rfl) rfl hX1b (fun w2a hx2a => ?_)
      have hX2a := Ext.trans hX1b hx2a
      replace hl := hl.ext hx2a
      refine wpList_appE rfl _ _ Tryd.slPair2 rfl hX2a rfl (Ext.row hoa hx2a) rfl hl (pairCells_one [(s1, s2)]) (by omega) ?_
      intro v2 w2b ho3 hX2b _
      refine wpList_nil ?_
      try simp only [Exit.then, Act.put, List.setIfInBounds_toArray, List.set_cons_succ, List.set_cons_zero]
      refine Dm.wpE_take (i := 14) (listed' := (Dm.bits 15 32767)) (by kernel_rfl) (by kernel_rfl) rfl (fun _ _ _ _ h => h) ?_; apply Exists.intro; refine And.intro (fun x => ?_) ?_
      · go_big_quiet_step (fail); exact wpQuiet_nil rfl
      refine Dm.wpE_done (by kernel_rfl) hX2b (fun w3a hx3a => ?_)
      have hX3a := Ext.trans hX2b hx3a
      replace ho3 := Ext.row ho3 hx3a
      go_wp2
      go_roundw
      case rel => exact ⟨k + 1, by omega, by go_num, hX3a, by rw [hst.out]; exact ho3⟩
      case measure => simp [intOf]; omega
    · obtain rfl : k = l.length := by omega
      go_wp2
      go_ret
      rw [List.take_length] at ho
      exact ⟨_, rfl, Pairs.of_row ho rfl, hb⟩

set_option maxHeartbeats 2000000 in
theorem samel_w (l m : List PairS) (v v2 : Value) (w : World) (hl : l.length ≤ 35184372088832) (hx : Pairs w v l) (hy : Pairs w v2 m) :
    Calls Tryd.prog 28 #[v, v2] w fun e w' => e = .returned (.bool (decide (l = m))) ∧ Ext w w' := by
  obtain ⟨q, cap, rfl, hcap, hcm⟩ := hx.shape
  obtain ⟨q2, cap2, rfl, hcap2, hcm2⟩ := hy.shape
  by_cases hlen : l.length = m.length
  · have heq : (∀ k, k < l.length → pairAt l k = pairAt m k) → decide (l = m) = true := fun h => decide_eq_true (pairAt_ext hlen h)
    have hneq : ∀ k, k < l.length → pairAt l k ≠ pairAt m k → decide (l = m) = false := fun k hk h => decide_eq_false (fun e => h (by rw [e]))
    generalize decide (l = m) = d at *
    replace heq := Lib.hid heq
    replace hneq := Lib.hid hneq
    have hlt' : ∀ k, k < l.length → k < m.length := fun k h => hlen ▸ h
    have hlenI : ((m.length : Nat) : Int) = ((l.length : Nat) : Int) := by rw [hlen]
    go_enter Tryd.func28, Tryd.ntmps28
    go_wp2
    go_loopw [5] (fun i' wr => ∃ k : Nat, k ≤ l.length ∧ i' = .int .i64 k ∧ Ext w wr ∧ Hid (∀ j, j < k → pairAt l j = pairAt m j)) (fun i' _ => l.length - (intOf i').toNat)
    case atStart => exact ⟨0, by omega, rfl, Ext.refl _, fun j hj => by omega⟩
    case round =>
      obtain ⟨k, hk, rfl, hb, HN⟩ := hrel
      by_cases hlt : k < l.length
      · have hlt2 := hlt' k hlt
        obtain ⟨b, off, rfl, hbl, c0, c1⟩ := (hx.ext hb).at hlt
        obtain ⟨b2, off2, rfl, hbl2, d0, d1⟩ := (hy.ext hb).at hlt2
        cases q1 : ((pairAt l k).1.toList == (pairAt m k).1.toList) with
        | false =>
          have he : pairAt l k ≠ pairAt m k := fun h => by rw [h] at q1; simp at q1
          have hd := hneq.out k hlt he
          subst hd
          replace he := Lib.hid he
          go_wp2_with fail
          refine Dm.wp_region_grow (by kernel_rfl) (by kernel_rfl) ?_
          repeat (go_big_quiet_step (fail))
          refine wpQuiet_nil ?_
          intro U hU
          have hU' := hb.trans hU
          go_wp2
          go_ret
          exact ⟨rfl, hU'⟩
        | true =>
          cases q2 : ((pairAt l k).2.toList == (pairAt m k).2.toList) with
          | false =>
            have he : pairAt l k ≠ pairAt m k := fun h => by rw [h] at q2; simp at q2
            have hd := hneq.out k hlt he
            subst hd
            replace he := Lib.hid he
            go_wp2_with fail
            refine Dm.wp_region_grow (by kernel_rfl) (by kernel_rfl) ?_
            repeat (go_big_quiet_step (fail))
            refine wpQuiet_nil ?_
            intro U hU
            have hU' := hb.trans hU
            go_wp2
            go_ret
            exact ⟨rfl, hU'⟩
          | true =>
            have he : pairAt l k = pairAt m k := Prod.ext (bytes_eq.1 q1) (bytes_eq.1 q2)
            have HN2 : Hid (∀ j, j < k + 1 → pairAt l j = pairAt m j) := fun j hj => by
              rcases Nat.lt_succ_iff_lt_or_eq.1 hj with h | rfl
              · exact HN.out j h
              · exact he
            replace he := Lib.hid he
            go_wp2_with fail
            refine Dm.wp_region_grow (by kernel_rfl) (by kernel_rfl) ?_
            repeat (go_big_quiet_step (fail))
            refine wpQuiet_nil ?_
            intro U hU
            have hU' := hb.trans hU
            go_wp2
            go_roundw
            case rel => exact ⟨k + 1, by omega, by go_num, hU', HN2⟩
            case measure => simp [intOf]; omega
      · obtain rfl : k = l.length := by omega
        have hd := heq.out HN.out
        subst hd
        go_wp2
        go_ret
        exact ⟨rfl, hb⟩
  · rw [decide_eq_false (fun e => hlen (by rw [e]))]
    have hlenI : ¬ ((l.length : Nat) : Int) = ((m.length : Nat) : Int) := by omega
    go_enter Tryd.func28, Tryd.ntmps28
    go_wp2
    go_ret
    exact ⟨rfl, Ext.refl _⟩

end Go.Proofs.YtbkemhheombfcaaDoor
