/- Texts one behind the other: The law's helper same: two slices of labels hold the same; Chapter 4: the walks of the document's Put, Text; of the law's refL, sameL; Chapter 5: the walk of the document's Put; Chapter 5: the walk of the document's term; Chapter 4: the walks of the document's Cut and Parse. -/
import Derived.Test.YtbkemhheombfcaaDoorSelTellsP16
import Derived.Test.YtbkemhheombfcaaDoorSelTellsP14
import Derived.Test.YtbkemhheombfcaaDoorSelTellsP15
import Derived.Test.YtbkemhheombfcaaDoorSelTellsP20
namespace Go.Dm
open Go Go.RowKit
theorem pairAt_ext {l m : List PairS} (hlen : l.length = m.length) (h : ∀ k, k < l.length → pairAt l k = pairAt m k) : l = m := by
  apply List.ext_getElem hlen
  intro i h1 h2
  have := h i h1
  simpa [pairAt, h1, h2] using this
end Go.Dm
namespace Go.Proofs.YtbkemhheombfcaaDoor
open Go.RowKit Go.Dm

set_option maxHeartbeats 2000000 in
theorem same_w (l m : List PairS) (v v2 : Value) (w : World) (hl : l.length ≤ 35184372088832) (hx : Pairs w v l) (hy : Pairs w v2 m) :
    Calls Tryd.prog 32 #[v, v2] w fun e w' => e = .returned (.bool (decide (l = m))) ∧ Ext w w' := by
  obtain ⟨q, cap, rfl, hcap, hcm⟩ := hx.shape
  obtain ⟨q2, cap2, rfl, hcap2, hcm2⟩ := hy.shape
  by_cases hlen : l.length = m.length
  · have heq : (∀ k, k < l.length → pairAt l k = pairAt m k) → decide (l = m) = true := fun h => decide_eq_true (pairAt_ext hlen h)
    have hneq : ∀ k, k < l.length → pairAt l k ≠ pairAt m k → decide (l = m) = false := fun k hk h => decide_eq_false (fun e => h (by rw [e]))
    generalize decide (l = m) = d at *
    replace heq := Lib.hid heq
    replace hneq := Lib.hid hneq
    have hlt' : ∀ k, k < l.length → k < m.length := fun k h => hlen ▸ h
    have hlenI : ((m.length : Nat) : Int) = ((l.length : Nat) : Int) := by rw [hlen]
    go_enter Tryd.func32, Tryd.ntmps32
    go_wp2
    go_loopw [5] (fun i' wr => ∃ k : Nat, k ≤ l.length ∧ i' = .int .i64 k ∧ Ext w wr ∧ Hid (∀ j, j < k → pairAt l j = pairAt m j)) (fun i' _ => l.length - (intOf i').toNat)
    case atStart => exact ⟨0, by omega, rfl, Ext.refl _, fun j hj => by omega⟩
    case round =>
      obtain ⟨k, hk, rfl, hb, HN⟩ := hrel
      by_cases hlt : k < l.length
      · have hlt2 := hlt' k hlt
        obtain ⟨b, off, rfl, hbl, c0, c1⟩ := (hx.ext hb).at hlt
        obtain ⟨b2, off2, rfl, hbl2, d0, d1⟩ := (hy.ext hb).at hlt2
        have hq : ∀ U, (Op.equalIn 10000 29 (.agg #[.string (pairAt l k).1, .string (pairAt l k).2]) (.agg #[.string (pairAt m k).1, .string (pairAt m k).2])).run Tryd.prog U = .ok (decide (pairAt l k = pairAt m k)) U := fun U => by
          rw [Tryd.eq_pair]
          congr 1
          rw [Bool.eq_iff_iff, Bool.and_eq_true, bytes_eq, bytes_eq, decide_eq_true_eq]
          exact ⟨fun h => Prod.ext h.1 h.2, fun h => by rw [h]; exact ⟨rfl, rfl⟩⟩
        by_cases he : pairAt l k = pairAt m k
        · have HN2 : Hid (∀ j, j < k + 1 → pairAt l j = pairAt m j) := fun j hj => by
            rcases Nat.lt_succ_iff_lt_or_eq.1 hj with h | rfl
            · exact HN.out j h
            · exact he
          rw [decide_eq_true he] at hq
          replace he := Lib.hid he
          go_wp2_with fail
          refine Dm.wp_region_grow (by kernel_rfl) (by kernel_rfl) ?_
          repeat (go_big_quiet_step (fail))
          refine wpQuiet_nil ?_
          intro U hU
          have hU' := hb.trans hU
          go_wp2
          go_roundw
          case rel => exact ⟨k + 1, by omega, by go_num, hU', HN2⟩
          case measure => simp [intOf]; omega
        · rw [decide_eq_false he] at hq
          have hd := hneq.out k hlt he
          replace he := Lib.hid he
          subst hd
          go_wp2_with fail
          refine Dm.wp_region_grow (by kernel_rfl) (by kernel_rfl) ?_
          repeat (go_big_quiet_step (fail))
          refine wpQuiet_nil ?_
          intro U hU
          have hU' := hb.trans hU
          go_wp2
          go_ret
          exact ⟨rfl, hU'⟩
      · obtain rfl : k = l.length := by omega
        have hd := heq.out HN.out
        subst hd
        go_wp2
        go_ret
        exact ⟨rfl, hb⟩
  · rw [decide_eq_false (fun e => hlen (by rw [e]))]
    have hlenI : ¬ ((l.length : Nat) : Int) = ((m.length : Nat) : Int) := by omega
    go_enter Tryd.func32, Tryd.ntmps32
    go_wp2
    go_ret
    exact ⟨rfl, Ext.refl _⟩

end Go.Proofs.YtbkemhheombfcaaDoor

namespace Go.Dm
open Go Go.RowKit
theorem textB32 {t : ByteArray} (h : t.size ≤ 32) : (textB t).size ≤ 42 := by
  rw [size_len]
  have := putL_ten (u := t.data.toList.length) (Nat.lt_of_le_of_lt (show t.data.toList.length ≤ 32 from h) (by decide))
  show (putT t.data.toList).length ≤ 42
  rw [putT, List.length_append]
  have h2 : t.data.toList.length = t.size := rfl
  omega
theorem putLab_some {L : List PairL} (h : rightLab L = true) : putLab L = putL L.length ++ putP L := by unfold putLab; rw [if_pos h]
theorem shows_ne {L : List PairL} (h : L ≠ []) : shows L ≠ [] := by
  cases L with
  | nil => exact absurd rfl h
  | cons p L =>
    intro e
    have : (61 : UInt8) ∈ shows (p :: L) := by
      unfold shows
      rw [List.map_cons, Lib.join_cons]
      simp [showP]
    rw [e] at this
    cases this
end Go.Dm
namespace Go.Proofs.YtbkemhheombfcaaDoor
open Go.RowKit Go.Dm

theorem Tryd.slPair2 : SlT Tryd.prog 34 93 2 32 := SlT.mk' Tryd.underlying34 (by kernel_rfl) (by decide) (by decide)

set_option maxHeartbeats 2000000 in
set_option maxRecDepth 100000 in
theorem mput_w (l : List PairS) (v : Value) (w : World) (hf : FitP l) (hx : Pairs w v l) :
    Calls Tryd.prog 30 #[v] w fun e w' => e = .returned (.string ⟨(putLab (labL l)).toArray⟩) ∧ Ext w w' := by
  obtain ⟨q, cap, rfl, hcap, hcm⟩ := hx.shape
  have C := mright_w l _ w hf hx
  cases hR : rightLab (labL l) with
  | false =>
    have hz : Hid (putLab (labL l) = []) := by show _ = _; unfold putLab; rw [hR]; rfl
    rw [hR] at C
    clear hR
    go_enter Tryd.func30, Tryd.ntmps30
    go_wp2_with fail
    refine C.mono ?_; rintro e w1 ⟨rfl, h1⟩
    go_wp2
    go_ret
    exact ⟨by rw [hz.out]; rfl, h1⟩
  | true =>
    have hz : Hid (putLab (labL l) = putL l.length ++ putP (labL l)) := by show _ = _; rw [putLab_some hR, labL_len]
    have h8 : l.length ≤ 8 := by have := (rightLab_iff.1 hR).1; rwa [labL_len] at this
    have hAt := Lib.hid (fun k (hk : k < l.length) => rightLab_at hR hk)
    have hU : U64 l.length := show l.length < _ by omega
    have hpl := putL_ten hU
    have hwl : IntKind.u64.wrap (l.length : Int) = (l.length : Int) := by
      simp only [IntKind.wrap, IntKind.bits, IntKind.signed]
      simp; omega
    rw [hR] at C
    clear hR
    go_enter Tryd.func30, Tryd.ntmps30
    go_wp2_with fail
    refine C.mono ?_; rintro e w1 ⟨rfl, h1⟩
    clear C
    go_wp2_with fail
    refine (rput_w l.length w1 hU).mono ?_; rintro e w2 ⟨rfl, h2⟩
    have e2 := h1.trans h2
    clear hwl
    go_wp2
    go_loopw [3, 4] (fun s' i' wr => ∃ (k : Nat) (b : ByteArray), k ≤ l.length ∧ i' = .int .i64 k ∧ s' = .string b ∧ b.size ≤ 10 + k * 84 ∧ Ext w2 wr ∧ Hid (b.data.toList = putL l.length ++ putP ((labL l).take k))) (fun _ i' _ => l.length - (intOf i').toNat)
    case atStart => exact ⟨0, ⟨(putL l.length).toArray⟩, by omega, rfl, rfl, by rw [size_len]; exact hpl, Ext.refl _, by show _ = _; simp [putP]⟩
    case round =>
      obtain ⟨k, b, hk, rfl, rfl, hbs, hb, HB⟩ := hrel
      have er := e2.trans hb
      by_cases hlt : k < l.length
      · obtain ⟨bb, off, rfl, hbl, c0, c1⟩ := (hx.ext er).at hlt
        obtain ⟨hf1, hf2⟩ := hAt.out k hlt
        have s1 := textB32 hf1
        have s2 := textB32 hf2
        have hst : Hid (((b ++ textB (pairAt l k).1) ++ textB (pairAt l k).2).data.toList = putL l.length ++ putP ((labL l).take (k + 1))) := by
          show _ = _
          rw [putP_step (by rw [labL_len]; exact hlt), labL_at l hlt, data_append, data_append, HB.out, List.append_assoc, List.append_assoc]
          rfl
        have C1 : Hid (∀ U, Ext wr U → Calls Tryd.prog 68 #[.string (pairAt l k).1] U fun e w' => e = .returned (.string (textB (pairAt l k).1)) ∧ Ext U w') := fun U _ => rputtext_w _ U (by omega)
        have C2 : Hid (∀ U, Ext wr U → Calls Tryd.prog 68 #[.string (pairAt l k).2] U fun e w' => e = .returned (.string (textB (pairAt l k).2)) ∧ Ext U w') := fun U _ => rputtext_w _ U (by omega)
        generalize textB (pairAt l k).1 = t1 at *
        generalize textB (pairAt l k).2 = t2 at *
        go_wp2_with fail
        refine Dm.wp_region_grow (by kernel_rfl) (by kernel_rfl) ?_
        repeat (go_big_quiet_step (first
          | (go_at_call 68; with_reducible exact Calls.quietE (C1.out _ (ext_grow _ _)))
          | (go_at_call 68; with_reducible exact Calls.quietE (C2.out _ (ext_grow _ _)))))
        refine wpQuiet_nil ?_
        intro U hU
        have hU' := hb.trans hU
        clear C1 C2
        go_wp2
        go_roundw
        case rel => exact ⟨k + 1, _, by omega, by go_num, rfl, by rw [ByteArray.size_append, ByteArray.size_append]; omega, hU', hst⟩
        case measure => simp [intOf]; omega
      · go_wp2
        go_ret
        obtain rfl : k = l.length := by omega
        have h := HB.out
        rw [← labL_len, List.take_length, labL_len, ← hz.out] at h
        exact ⟨by rw [← mk_bytes h]; rfl, er⟩

set_option maxHeartbeats 2000000 in
set_option maxRecDepth 100000 in
theorem mtext_w (l : List PairS) (v : Value) (w : World) (hf : FitP l) (hx : Pairs w v l) :
    Calls Tryd.prog 31 #[v] w fun e w' => e = .returned (.string ⟨(textLab (labL l)).toArray⟩) ∧ Ext w w' := by
  obtain ⟨q, cap, rfl, hcap, hcm⟩ := hx.shape
  have C := mright_w l _ w hf hx
  cases hR : rightLab (labL l) with
  | false =>
    have hz : Hid (textLab (labL l) = [63]) := by show _ = _; unfold textLab; rw [hR]; rfl
    rw [hR] at C
    clear hR
    go_enter Tryd.func31, Tryd.ntmps31
    go_wp2_with fail
    refine C.mono ?_; rintro e w1 ⟨rfl, h1⟩
    go_wp2
    go_ret
    exact ⟨by rw [hz.out]; rfl, h1⟩
  | true =>
    have h8 : l.length ≤ 8 := by have := (rightLab_iff.1 hR).1; rwa [labL_len] at this
    have hAt := Lib.hid (fun k (hk : k < l.length) => rightLab_at hR hk)
    have hN := Lib.hid (fun h : l = [] => (show textLab (labL l) = [45] by rw [h]; rfl))
    have hY := Lib.hid (fun h : l ≠ [] => (show textLab (labL l) = shows (labL l) from textLab_one hR (by intro e; exact h (by simpa [labL] using e))))
    rw [hR] at C
    clear hR
    go_enter Tryd.func31, Tryd.ntmps31
    go_wp2_with fail
    refine C.mono ?_; rintro e w1 ⟨rfl, h1⟩
    clear C
    go_wp2
    go_loopw [3, 4] (fun s' i' wr => ∃ (k : Nat) (b : ByteArray), k ≤ l.length ∧ i' = .int .i64 k ∧ s' = .string b ∧ b.size ≤ k * 66 ∧ Ext w1 wr ∧ Hid (b.data.toList = shows ((labL l).take k))) (fun _ i' _ => l.length - (intOf i').toNat)
    case atStart => exact ⟨0, ⟨#[]⟩, by omega, rfl, rfl, by decide, Ext.refl _, rfl⟩
    case round =>
      obtain ⟨k, b, hk, rfl, rfl, hbs, hb, HB⟩ := hrel
      have er := h1.trans hb
      by_cases hlt : k < l.length
      · obtain ⟨bb, off, rfl, hbl, c0, c1⟩ := (hx.ext er).at hlt
        obtain ⟨hf1, hf2⟩ := hAt.out k hlt
        have hlt' : k < (labL l).length := by rw [labL_len]; exact hlt
        by_cases h0 : 0 < k
        · have hst : Hid (((((b ++ (⟨#[44]⟩ : ByteArray)) ++ (pairAt l k).1) ++ (⟨#[61]⟩ : ByteArray)) ++ (pairAt l k).2).data.toList = shows ((labL l).take (k + 1))) := by
            show _ = _
            rw [shows_step h0 hlt', labL_at l hlt]
            simp only [data_append, HB.out, List.append_assoc]
            rfl
          have s1 : (⟨#[44]⟩ : ByteArray).size = 1 := rfl
          have s2 : (⟨#[61]⟩ : ByteArray).size = 1 := rfl
          have hsz : ((((b ++ (⟨#[44]⟩ : ByteArray)) ++ (pairAt l k).1) ++ (⟨#[61]⟩ : ByteArray)) ++ (pairAt l k).2).size ≤ (k + 1) * 66 := by simp only [ByteArray.size_append]; omega
          generalize (pairAt l k).1 = t1 at *
          generalize (pairAt l k).2 = t2 at *
          have hb1 : (b ++ (⟨#[44]⟩ : ByteArray)).size ≤ k * 66 + 1 := by simp only [ByteArray.size_append]; omega
          clear s1 s2
          go_wp2_with fail
          refine Dm.wp_region_grow (by kernel_rfl) (by kernel_rfl) ?_
          repeat (go_big_quiet_step (fail))
          refine wpQuiet_nil ?_
          intro U hU
          have hU' := hb.trans hU
          go_wp2
          go_roundw
          case rel => exact ⟨k + 1, _, by omega, by go_num, rfl, hsz, hU', hst⟩
          case measure => simp [intOf]; omega
        · obtain rfl : k = 0 := by omega
          have hst : Hid ((((b ++ (pairAt l 0).1) ++ (⟨#[61]⟩ : ByteArray)) ++ (pairAt l 0).2).data.toList = shows ((labL l).take 1)) := by
            show _ = _
            have hB : b.data.toList = [] := HB.out
            rw [shows_step0 hlt', labL_at l hlt]
            simp only [data_append, hB, List.append_assoc, List.nil_append]
            rfl
          have s2 : (⟨#[61]⟩ : ByteArray).size = 1 := rfl
          have hsz : (((b ++ (pairAt l 0).1) ++ (⟨#[61]⟩ : ByteArray)) ++ (pairAt l 0).2).size ≤ (0 + 1) * 66 := by simp only [ByteArray.size_append]; omega
          rw [Nat.zero_mul, Nat.add_zero] at c0 c1
          generalize (pairAt l 0).1 = t1 at *
          generalize (pairAt l 0).2 = t2 at *
          clear s2
          go_wp2_with fail
          refine Dm.wp_region_grow (by kernel_rfl) (by kernel_rfl) ?_
          repeat (go_big_quiet_step (fail))
          refine wpQuiet_nil ?_
          intro U hU
          have hU' := hb.trans hU
          go_wp2
          go_roundw
          case rel => exact ⟨1, _, by omega, rfl, rfl, hsz, hU', hst⟩
          case measure => simp [intOf]; omega
      · obtain rfl : k = l.length := by omega
        have h := HB.out
        rw [← labL_len, List.take_length] at h
        by_cases hl0 : l = []
        · subst hl0
          have hz := hN.out rfl
          obtain rfl : b = ⟨#[]⟩ := mk_bytes h
          replace hz := Lib.hid hz
          go_wp2
          go_ret
          exact ⟨by rw [hz.out]; rfl, er⟩
        · have hz := hY.out hl0
          have hne : b.toList.isEmpty = false := by
            rw [ByteArray.toList_eq, List.isEmpty_eq_false_iff, h]
            exact shows_ne (by intro e; exact hl0 (by simpa [labL] using e))
          rw [← h] at hz
          replace hz := Lib.hid hz
          clear h
          go_wp2
          go_ret
          exact ⟨by rw [hz.out]; rfl, er⟩

set_option maxHeartbeats 4000000 in
set_option maxRecDepth 100000 in
theorem refl_w (l : List PairS) (v : Value) (w : World) (hm : l.length ≤ 4294967296) (hx : Pairs w v l) :
    Calls Tryd.prog 22 #[v] w fun e w' => ∃ r, e = .returned r ∧ Pairs w' r l ∧ Ext w w' := by
  obtain ⟨q, cap, rfl, hcap, hcm⟩ := hx.shape
  go_enter Tryd.func22, Tryd.ntmps22
  go_wp2
  go_loopw [3, 4] (fun r i' wr => ∃ k : Nat, k ≤ l.length ∧ i' = .int .i64 k ∧ Ext w wr ∧ wr.ownsRow w.heap.size 93 2 r k (pairCells (l.take k))) (fun _ i' _ => l.length - (intOf i').toNat)
  case atStart => exact ⟨0, by omega, rfl, Ext.refl _, World.ownsRow_nil _ _ _ _⟩
  case round =>
    obtain ⟨k, hk, rfl, hb, ho⟩ := hrel
    by_cases hlt : k < l.length
    · obtain ⟨bb, off, rfl, hbl, c0, c1⟩ := hx.at hlt
      have hst : Hid (pairCells (l.take (k + 1)) = pairCells (l.take k) ++ [.string (pairAt l k).1, .string (pairAt l k).2]) := by
        show _ = _
        rw [take_snocP hlt, pairCells_app]; rfl
      generalize (pairAt l k).1 = s1 at *
      generalize (pairAt l k).2 = s2 at *
      go_wp2_with fail
      try simp only [Act.put, List.setIfInBounds_toArray, List.set_cons_succ, List.set_cons_zero]
      refine Dm.wp_region_ext 15 (Dm.bits 15 0) hb (by kernel_rfl) (by kernel_rfl) (by kernel_rfl) ?_
      refine Dm.wpE_take (i := 0) (listed' := (Dm.bits 15 1)) (by kernel_rfl) (by kernel_rfl) rfl (fun _ _ _ _ h => h) ?_; apply Exists.intro; refine And.intro (fun x => ?_) ?_
      · go_big_quiet_step (fail); exact wpQuiet_nil rfl
      refine Dm.wpE_take (i := 1) (listed' := (Dm.bits 15 3)) (by kernel_rfl) (by kernel_rfl) rfl (fun _ _ _ _ h => h) ?_; apply Exists.intro; refine And.intro (fun x => ?_) ?_
      · go_big_quiet_step (fail); exact wpQuiet_nil rfl
      refine Dm.wpE_take (i := 2) (listed' := (Dm.bits 15 7)) (by kernel_rfl) (by kernel_rfl) rfl (fun _ _ _ _ h => h) ?_; apply Exists.intro; refine And.intro (fun x => ?_) ?_
      · go_big_quiet_step (fail); exact wpQuiet_nil rfl
      refine Dm.wpE_take (i := 3) (listed' := (Dm.bits 15 15)) (by kernel_rfl) (by kernel_rfl) rfl (fun _ _ _ _ h => h) ?_; apply Exists.intro; refine And.intro (fun x => ?_) ?_
      · go_big_quiet_step (fail); exact wpQuiet_nil rfl
      refine Dm.wpE_take (i := 4) (listed' := (Dm.bits 15 31)) (by kernel_rfl) (by kernel_rfl) rfl (fun _ _ _ _ h => h) ?_; apply Exists.intro; refine And.intro (fun x => ?_) ?_
      · go_big_quiet_step (fail); exact wpQuiet_nil rfl
      refine Dm.wpE_take (i := 5) (listed' := (Dm.bits 15 63)) (by kernel_rfl) (by kernel_rfl) rfl (fun _ _ _ _ h => h) ?_; apply Exists.intro; refine And.intro (fun x => ?_) ?_
      · go_big_quiet_step (fail); exact wpQuiet_nil rfl
      refine Dm.wpE_take (i := 6) (listed' := (Dm.bits 15 127)) (by kernel_rfl) (by kernel_rfl) rfl (fun _ _ _ _ h => h) ?_; apply Exists.intro; refine And.intro (fun x => ?_) ?_
      · go_big_quiet_step (fail); exact wpQuiet_nil rfl
      refine Dm.wpE_take (i := 7) (listed' := (Dm.bits 15 255)) (by kernel_rfl) (by kernel_rfl) rfl (fun _ _ _ _ h => h) ?_; apply Exists.intro; refine And.intro (fun x => ?_) ?_
      · go_big_quiet_step (fail); exact wpQuiet_nil rfl
      refine Dm.wpE_take (i := 8) (listed' := (Dm.bits 15 511)) (by kernel_rfl) (by kernel_rfl) rfl (fun _ _ _ _ h => h) ?_; apply Exists.intro; refine And.intro (fun x => ?_) ?_
      · go_big_quiet_step (fail); exact wpQuiet_nil rfl
      refine Dm.wpE_take (i := 9) (listed' := (Dm.bits 15 1023)) (by kernel_rfl) (by kernel_rfl) rfl (fun _ _ _ _ h => h) ?_; apply Exists.intro; refine And.intro (fun x => ?_) ?_
      · go_big_quiet_step (fail); exact wpQuiet_nil rfl
      refine Dm.wpE_take (i := 10) (listed' := (Dm.bits 15 2047)) (by kernel_rfl) (by kernel_rfl) rfl (fun _ _ _ _ h => h) ?_; apply Exists.intro; refine And.intro (fun x => ?_) ?_
      · go_big_quiet_step (fail); exact wpQuiet_nil rfl
      refine Dm.wpE_take (i := 11) (listed' := (Dm.bits 15 4095)) (by kernel_rfl) (by kernel_rfl) rfl (fun _ _ _ _ h => h) ?_; apply Exists.intro; refine And.intro (fun x => ?_) ?_
      · go_big_quiet_step (fail); exact wpQuiet_nil rfl
      refine Dm.wpE_one (i := 12) (listed' := (Dm.bits 15 8191)) (by kernel_rfl) (by kernel_rfl) rfl hb (fun w1a hx1a => ?_)
      have hX1a := Ext.trans hb hx1a
      have hoa := Ext.row ho hx1a
      go_wp2_with fail
      have hl := Sl.lit w1a 93 2 1 #[.string s1, .string s2] rfl (by simp [maxLen])
      have hs1 := (Ext.refl w1a).alloc (.cells #[.string s1, .string s2] 93)
      generalize w1a.alloc (.cells #[.string s1, .string s2] 93) = w1b at *
      have hX1b := Ext.trans hX1a hs1
      replace hoa := Ext.row hoa hs1
      try simp only [Exit.then, Act.put, List.setIfInBounds_toArray, List.set_cons_succ, List.set_cons_zero]
      refine Dm.wpE_one (i := 13) (listed' := (Dm.bits 15 16383)) (by kernel_rfl) (by kernel_rfl) rfl hX1b (fun w2a hx2a => ?_)
      have hX2a := Ext.trans hX1b hx2a
      replace hl := hl.ext hx2a
      refine wpList_appE rfl _ _ Tryd.slPair2 rfl hX2a rfl (Ext.row hoa hx2a) rfl hl (pairCells_one [(s1, s2)]) (by omega) ?_
      intro v2 w2b ho3 hX2b _
      refine wpList_nil ?_
      try simp only [Exit.then, Act.put, List.setIfInBounds_toArray, List.set_cons_succ, List.set_cons_zero]
      refine Dm.wpE_take (i := 14) (listed' := (Dm.bits 15 32767)) (by kernel_rfl) (by kernel_rfl) rfl (fun _ _ _ _ h => h) ?_; apply Exists.intro; refine And.intro (fun x => ?_) ?_
      · go_big_quiet_step (fail); exact wpQuiet_nil rfl
      refine Dm.wpE_done (by kernel_rfl) hX2b (fun w3a hx3a => ?_)
      have hX3a := Ext.trans hX2b hx3a
      replace ho3 := Ext.row ho3 hx3a
      go_wp2
      go_roundw
      case rel => exact ⟨k + 1, by omega, by go_num, hX3a, by rw [hst.out]; exact ho3⟩
      case measure => simp [intOf]; omega
    · obtain rfl : k = l.length := by omega
      go_wp2
      go_ret
      rw [List.take_length] at ho
      exact ⟨_, rfl, Pairs.of_row ho rfl, hb⟩

set_option maxHeartbeats 2000000 in
theorem samel_w (l m : List PairS) (v v2 : Value) (w : World) (hl : l.length ≤ 35184372088832) (hx : Pairs w v l) (hy : Pairs w v2 m) :
    Calls Tryd.prog 28 #[v, v2] w fun e w' => e = .returned (.bool (decide (l = m))) ∧ Ext w w' := by
  obtain ⟨q, cap, rfl, hcap, hcm⟩ := hx.shape
  obtain ⟨q2, cap2, rfl, hcap2, hcm2⟩ := hy.shape
  by_cases hlen : l.length = m.length
  · have heq : (∀ k, k < l.length → pairAt l k = pairAt m k) → decide (l = m) = true := fun h => decide_eq_true (pairAt_ext hlen h)
    have hneq : ∀ k, k < l.length → pairAt l k ≠ pairAt m k → decide (l = m) = false := fun k hk h => decide_eq_false (fun e => h (by rw [e]))
    generalize decide (l = m) = d at *
    replace heq := Lib.hid heq
    replace hneq := Lib.hid hneq
    have hlt' : ∀ k, k < l.length → k < m.length := fun k h => hlen ▸ h
    have hlenI : ((m.length : Nat) : Int) = ((l.length : Nat) : Int) := by rw [hlen]
    go_enter Tryd.func28, Tryd.ntmps28
    go_wp2
    go_loopw [5] (fun i' wr => ∃ k : Nat, k ≤ l.length ∧ i' = .int .i64 k ∧ Ext w wr ∧ Hid (∀ j, j < k → pairAt l j = pairAt m j)) (fun i' _ => l.length - (intOf i').toNat)
    case atStart => exact ⟨0, by omega, rfl, Ext.refl _, fun j hj => by omega⟩
    case round =>
      obtain ⟨k, hk, rfl, hb, HN⟩ := hrel
      by_cases hlt : k < l.length
      · have hlt2 := hlt' k hlt
        obtain ⟨b, off, rfl, hbl, c0, c1⟩ := (hx.ext hb).at hlt
        obtain ⟨b2, off2, rfl, hbl2, d0, d1⟩ := (hy.ext hb).at hlt2
        cases q1 : ((pairAt l k).1.toList == (pairAt m k).1.toList) with
        | false =>
          have he : pairAt l k ≠ pairAt m k := fun h => by rw [h] at q1; simp at q1
          have hd := hneq.out k hlt he
          subst hd
          replace he := Lib.hid he
          go_wp2_with fail
          refine Dm.wp_region_grow (by kernel_rfl) (by kernel_rfl) ?_
          repeat (go_big_quiet_step (fail))
          refine wpQuiet_nil ?_
          intro U hU
          have hU' := hb.trans hU
          go_wp2
          go_ret
          exact ⟨rfl, hU'⟩
        | true =>
          cases q2 : ((pairAt l k).2.toList == (pairAt m k).2.toList) with
          | false =>
            have he : pairAt l k ≠ pairAt m k := fun h => by rw [h] at q2; simp at q2
            have hd := hneq.out k hlt he
            subst hd
            replace he := Lib.hid he
            go_wp2_with fail
            refine Dm.wp_region_grow (by kernel_rfl) (by kernel_rfl) ?_
            repeat (go_big_quiet_step (fail))
            refine wpQuiet_nil ?_
            intro U hU
            have hU' := hb.trans hU
            go_wp2
            go_ret
            exact ⟨rfl, hU'⟩
          | true =>
            have he : pairAt l k = pairAt m k := Prod.ext (bytes_eq.1 q1) (bytes_eq.1 q2)
            have HN2 : Hid (∀ j, j < k + 1 → pairAt l j = pairAt m j) := fun j hj => by
              rcases Nat.lt_succ_iff_lt_or_eq.1 hj with h | rfl
              · exact HN.out j h
              · exact he
            replace he := Lib.hid he
            go_wp2_with fail
            refine Dm.wp_region_grow (by kernel_rfl) (by kernel_rfl) ?_
            repeat (go_big_quiet_step (fail))
            refine wpQuiet_nil ?_
            intro U hU
            have hU' := hb.trans hU
            go_wp2
            go_roundw
            case rel => exact ⟨k + 1, by omega, by go_num, hU', HN2⟩
            case measure => simp [intOf]; omega
      · obtain rfl : k = l.length := by omega
        have hd := heq.out HN.out
        subst hd
        go_wp2
        go_ret
        exact ⟨rfl, hb⟩
  · rw [decide_eq_false (fun e => hlen (by rw [e]))]
    have hlenI : ¬ ((l.length : Nat) : Int) = ((m.length : Nat) : Int) := by omega
    go_enter Tryd.func28, Tryd.ntmps28
    go_wp2
    go_ret
    exact ⟨rfl, Ext.refl _⟩

end Go.Proofs.YtbkemhheombfcaaDoor

namespace Go.Proofs.YtbkemhheombfcaaDoor
open Go.RowKit Go.Dm

theorem wrap_u64 {x : Int} (h : 0 ≤ x) (h' : x < 18446744073709551616) : IntKind.u64.wrap x = x := by
  simp only [IntKind.wrap, IntKind.bits, IntKind.signed]
  simp; omega

set_option maxHeartbeats 4000000 in
set_option maxRecDepth 100000 in
theorem smput_w (R : List RowS) (v : Value) (w : World) (hf : FitR R) (hx : Terms w v R) :
    Calls Tryd.prog 47 #[v] w fun e w' => e = .returned (.string ⟨(putS (R.map rowT)).toArray⟩) ∧ Ext w w' := by
  obtain ⟨q, cap, rfl, hcap, hcm⟩ := hx.shape
  have C := smright_w R _ w hf hx
  cases hR : rightS (R.map rowT) with
  | false =>
    have hz : Hid (putS (R.map rowT) = []) := by show _ = _; unfold putS; rw [hR]; rfl
    rw [hR] at C
    clear hR
    go_enter Tryd.func47, Tryd.ntmps47
    go_wp2_with fail
    refine C.mono ?_; rintro e w1 ⟨rfl, h1⟩
    go_wp2
    go_ret
    exact ⟨by rw [hz.out]; rfl, h1⟩
  | true =>
    have hz : Hid (putS (R.map rowT) = putL R.length ++ putTms (R.map rowT)) := by show _ = _; unfold putS; rw [hR, List.length_map]; rfl
    have h4 : R.length ≤ 4 := by have := (rightS_iff.1 hR).1; rwa [List.length_map] at this
    have hsh : Hid (∀ k, k < R.length → ShortT (rowT (sAtR R k))) := fun k hk => rightT_sizes ((rightS_iff.1 hR).2 _ (List.mem_map_of_mem (sAtR_mem hk)))
    have hU : U64 R.length := show R.length < _ by omega
    have hpl := putL_ten hU
    have hwl : IntKind.u64.wrap (R.length : Int) = (R.length : Int) := wrap_u64 (by omega) (by omega)
    rw [hR] at C
    clear hR
    go_enter Tryd.func47, Tryd.ntmps47
    go_wp2_with fail
    refine C.mono ?_; rintro e w1 ⟨rfl, h1⟩
    clear C
    go_wp2_with fail
    refine (rput_w R.length w1 hU).mono ?_; rintro e w2 ⟨rfl, h2⟩
    have e2 := h1.trans h2
    clear hwl
    go_wp2
    go_loopw [3, 4] (fun s' i' wr => ∃ (k : Nat) (b : ByteArray), k ≤ R.length ∧ i' = .int .i64 k ∧ s' = .string b ∧ b.size ≤ 10 + k * 220 ∧ Ext w2 wr ∧ Hid (b.data.toList = putL R.length ++ putTms ((R.take k).map rowT))) (fun _ i' _ => R.length - (intOf i').toNat)
    case atStart => exact ⟨0, ⟨(putL R.length).toArray⟩, by omega, rfl, rfl, by rw [size_len]; exact hpl, Ext.refl _, by show _ = _; simp [putTms]⟩
    case round =>
      obtain ⟨k, b, hk, rfl, rfl, hbs, hb, HB⟩ := hrel
      have er := e2.trans hb
      by_cases hlt : k < R.length
      · obtain ⟨bb, off, rfl, hbl, c0, c1, c2⟩ := (hx.ext er).at hlt
        have vx := (hx.ext er).val hlt
        obtain ⟨hf1, hf2, hf3⟩ := hsh.out k hlt
        have hst : Hid (∀ x : Bs, x = putTm (rowT (sAtR R k)) → b.data.toList ++ x = putL R.length ++ putTms ((R.take (k + 1)).map rowT)) := fun x hx => by
          rw [hx, HB.out, rowT_take hlt, putTms_step, List.append_assoc]
        have hcell := fun w' (h : Ext wr w') => (hx.ext (er.trans h)).cells hlt
        generalize sAtR R k = r at *
        obtain ⟨k1, n1, v1, vals1⟩ := r
        have vx : Strs wr v1 vals1 := vx
        have hf1 : k1.size ≤ 32 := hf1
        have hf2 : vals1.length ≤ 4 := hf2
        have hf3 : ∀ x ∈ vals1, x.size ≤ 32 := hf3
        simp only at c0 c1 c2 hcell
        obtain ⟨q3, cap3, rfl, _, _⟩ := vx.shape
        have hst : Hid (b.data.toList ++ ((putT (bS k1) ++ putL (numT (k1, n1, vals1))) ++ putVals vals1) = putL R.length ++ putTms ((R.take (k + 1)).map rowT)) := hst.out _ rfl
        obtain ⟨N, hN⟩ : ∃ N : Nat, N = numT (k1, n1, vals1) := ⟨_, rfl⟩
        have hN9 : N ≤ 9 := by rw [hN]; unfold numT; simp only; split <;> omega
        have hNu : U64 N := show N < _ by omega
        have CN := fun U => rput_w N U hNu
        have sN : (⟨(putL N).toArray⟩ : ByteArray).size ≤ 10 := by rw [size_len]; exact putL_ten hNu
        have hNI : (N : Int) = if n1 then (vals1.length : Int) * 2 + 1 else (vals1.length : Int) * 2 := by
          rw [hN]; unfold numT; cases n1 <;> simp <;> omega
        have hw1 : IntKind.u64.wrap (vals1.length : Int) = (vals1.length : Int) := wrap_u64 (by omega) (by omega)
        have hw2 : IntKind.u64.wrap ((vals1.length : Int) * 2) = (vals1.length : Int) * 2 := wrap_u64 (by omega) (by omega)
        have hw3 : IntKind.u64.wrap ((vals1.length : Int) * 2 + 1) = (vals1.length : Int) * 2 + 1 := wrap_u64 (by omega) (by omega)
        have CK : ∀ U, Calls Tryd.prog 68 #[.string k1] U fun e w' => e = .returned (.string (textB k1)) ∧ Ext U w' := fun U => rputtext_w _ U (by omega)
        have sK : (textB k1).size ≤ 42 := textB32s hf1
        have hst2 : Hid (∀ b2 : ByteArray, b2.data.toList = ((b ++ textB k1) ++ (⟨(putL N).toArray⟩ : ByteArray)).data.toList ++ putVals vals1 → b2.data.toList = putL R.length ++ putTms ((R.take (k + 1)).map rowT)) := fun b2 h => by
          rw [h, ← hst.out, data_append, data_append, ← hN]
          simp [textB, bS]
        rw [hNI] at CN
        have hb0 : ((b ++ textB k1) ++ (⟨(putL N).toArray⟩ : ByteArray)).size ≤ b.size + 52 := by rw [ByteArray.size_append, ByteArray.size_append]; omega
        have hb1 : (b ++ textB k1).size ≤ b.size + 42 := by rw [ByteArray.size_append]; omega
        generalize (⟨(putL N).toArray⟩ : ByteArray) = tn at *
        generalize textB k1 = tk at *
        clear hN hNI hNu hst hN9
        replace CK := Lib.hid CK
        replace hcell := Lib.hid hcell
        cases n1
        all_goals
          simp only [Bool.false_eq_true, if_false, if_true] at CN
          have CN := Lib.hid CN
          go_wp2_with fail
          refine (CK.out _).mono ?_; rintro e w3 ⟨rfl, h3⟩
          go_wp2_with fail
          refine (CN.out _).mono ?_; rintro e w4 ⟨rfl, h4'⟩
          have h34 := h3.trans h4'
          clear c0 c1 c2 hw1 hw2 hw3
          go_wp2
          generalize hB0 : (b ++ tk) ++ tn = B0 at *
          replace hB0 := Lib.hid hB0
          go_loopw [3, 6] (fun s' i' wq => ∃ (m : Nat) (b2 : ByteArray), m ≤ vals1.length ∧ i' = .int .i64 m ∧ s' = .string b2 ∧ b2.size ≤ b.size + 52 + m * 42 ∧ Ext w4 wq ∧ Hid (b2.data.toList = B0.data.toList ++ putVals (vals1.take m))) (fun _ i' _ => vals1.length - (intOf i').toNat)
          case atStart => exact ⟨0, B0, by omega, rfl, rfl, by omega, Ext.refl _, by show _ = _; simp [putVals]⟩
          case round =>
            obtain ⟨m, b2, hm, rfl, rfl, hbs2, hbq, HB2⟩ := hrel
            have eq := h34.trans hbq
            obtain ⟨xb, x0, x1, x2⟩ := hcell.out _ eq
            by_cases hltm : m < vals1.length
            · obtain ⟨b3, off3, rfl, hbl3, d0⟩ := (vx.ext eq).at hltm
              have s1 : (strAt vals1 m).size ≤ 32 := hf3 _ (strAt_mem hltm)
              have s2 : (textB (strAt vals1 m)).size ≤ 42 := textB32s s1
              have C : Calls Tryd.prog 68 #[.string (strAt vals1 m)] wr fun e w' => e = .returned (.string (textB (strAt vals1 m))) ∧ Ext wr w' := rputtext_w (strAt vals1 m) wr (by omega)
              have hst3 : Hid ((b2 ++ textB (strAt vals1 m)).data.toList = B0.data.toList ++ putVals (vals1.take (m + 1))) := by
                show _ = _
                rw [data_append, HB2.out, putVals_step hltm, List.append_assoc]; rfl
              generalize textB (strAt vals1 m) = t1 at *
              go_wp2_with fail
              refine C.mono ?_; rintro e w5 ⟨rfl, h5⟩
              go_wp2
              go_roundw
              case rel => exact ⟨m + 1, _, by omega, by go_num, rfl, by rw [ByteArray.size_append]; omega, hbq.trans h5, hst3⟩
              case measure => simp [intOf]; omega
            · obtain rfl : m = vals1.length := by omega
              have hfin : Hid (b2.data.toList = putL R.length ++ putTms ((R.take (k + 1)).map rowT)) := hst2.out b2 (by have := HB2.out; rw [List.take_length] at this; exact this)
              clear HB2
              go_wp2
              go_roundw
              case rel => exact ⟨k + 1, b2, by omega, by go_num, rfl, by omega, hb.trans eq, hfin⟩
              case measure => simp [intOf]; omega
      · obtain rfl : k = R.length := by omega
        have h := HB.out
        rw [List.take_length, ← hz.out] at h
        have hz' := Lib.hid (mk_bytes h)
        clear h
        go_wp2
        go_ret
        exact ⟨by rw [← hz'.out]; rfl, er⟩

end Go.Proofs.YtbkemhheombfcaaDoor

namespace Go.Proofs.YtbkemhheombfcaaDoor
open Go.RowKit Go.Dm

/-- No term. -/
def noTermV : Value := .tuple #[.agg #[.string ⟨#[]⟩, .bool false, .slice none 0 0], .int .i64 0, .bool false]

set_option maxHeartbeats 4000000 in
set_option maxRecDepth 100000 in
theorem smterm_w (s : ByteArray) (p : Nat) (w : World) (hs : s.size ≤ 281474976710656) :
    Calls Tryd.prog 75 #[.string s, .int .i64 p] w fun e w' => Ext w w' ∧
      ((∃ (T : Bs × Bool × List Bs) (r : Nat) (row : RowS), getTermL (s.data.toList.drop p) = some (T, r) ∧ e = .returned (.tuple #[.agg #[.string row.1, .bool row.2.1, row.2.2.1], .int .i64 ((p + r : Nat) : Int), .bool true]) ∧ rowT row = mkT T ∧ Strs w' row.2.2.1 row.2.2.2 ∧ (∀ c, row.2.2.1.ownBlock = some c → w.heap.size ≤ c)) ∨
       (getTermL (s.data.toList.drop p) = none ∧ e = .returned noTermV)) := by
  unfold noTermV
  have hW : Ext w (w.alloc (.cells #[.string ⟨#[]⟩, .bool false, .slice none 0 0] 107)) := (Ext.refl _).alloc _
  have R0 := Cell3.new w (.string ⟨#[]⟩) (.bool false) (.slice none 0 0) 107
  have CT := fun (q : Int) U => rgettext_w s q 32 U hs (by omega)
  have CG := fun (q : Int) U => rget_w s q U hs
  have A1 : atI (getTextL 32) [] s.data.toList (p : Int) = _ := atI_pos (getTextL_nil 32)
  have C1 := CT (p : Int)
  replace CT := Lib.hid CT
  cases hT : getTextL 32 (s.data.toList.drop p) with
  | none =>
    have hz := Lib.hid (getTermL_no1 hT)
    rw [hT] at A1
    rw [A1] at C1
    have C2 := CG 0
    generalize getI s.data.toList 0 = G at C2
    obtain ⟨u, n2, o⟩ := G
    simp only at C1 C2
    clear A1 hT CG CT
    replace C1 := Lib.hid C1
    replace C2 := Lib.hid C2
    have K1 := fun w' (h : Ext (w.alloc (.cells #[.string ⟨#[]⟩, .bool false, .slice none 0 0] 107)) w') => R0.ext h
    go_enter Tryd.func75, Tryd.ntmps75
    go_wp2_with fail
    refine (C1.out _).mono ?_; rintro e w1 ⟨rfl, h1⟩
    go_wp2_with fail
    refine (C2.out _).mono ?_; rintro e w2 ⟨rfl, h2⟩
    have K2 := K1 w2 (h1.trans h2)
    have hB := below_put3 (hW.trans (h1.trans h2)) (Nat.le_refl _) (.string ⟨#[]⟩) (.bool false) (.slice none 0 0)
    have K3 := K2.put (.string ⟨#[]⟩) (.bool false) (.slice none 0 0)
    obtain ⟨_, y0, y1, y2, y3, y4, y5⟩ := id K2
    go_wp2
    obtain ⟨_, k0, k1, k2, _, _, _⟩ := K3
    refine bodyPost_ret (v := .tuple #[.agg #[.string ⟨#[]⟩, .bool false, .slice none 0 0], .int .i64 0, .bool false]) (by simp [results, Tryd.results75, go_sem, k0, k1, k2]) rfl ?_
    exact ⟨hB, Or.inr ⟨hz.out, rfl⟩⟩
  | some x =>
    obtain ⟨k, n⟩ := x
    rw [hT] at A1
    rw [A1] at C1
    have A2 : getI s.data.toList ((p + n : Nat) : Int) = _ := (getI_at _ _).trans (atI_pos getL_nil)
    rw [← List.drop_drop] at A2
    have C2 := CG ((p + n : Nat) : Int)
    have e0 : ((p + n : Nat) : Int) = (p : Int) + (n : Int) := by omega
    rw [e0] at C2 A2
    cases hN : getL ((s.data.toList.drop p).drop n) with
    | none =>
      have hz := Lib.hid (getTermL_no2 hT hN)
      rw [hN] at A2
      rw [A2] at C2
      simp only at C1 C2
      clear A1 A2 hT hN CG CT e0
      replace C1 := Lib.hid C1
      replace C2 := Lib.hid C2
      have K1 := fun w' (h : Ext (w.alloc (.cells #[.string ⟨#[]⟩, .bool false, .slice none 0 0] 107)) w') => R0.ext h
      go_enter Tryd.func75, Tryd.ntmps75
      go_wp2_with fail
      refine (C1.out _).mono ?_; rintro e w1 ⟨rfl, h1⟩
      go_wp2_with fail
      refine (C2.out _).mono ?_; rintro e w2 ⟨rfl, h2⟩
      have K2 := K1 w2 (h1.trans h2)
      have hB := below_put3 (hW.trans (h1.trans h2)) (Nat.le_refl _) (.string ⟨#[]⟩) (.bool false) (.slice none 0 0)
      have K3 := K2.put (.string ⟨#[]⟩) (.bool false) (.slice none 0 0)
      obtain ⟨_, y0, y1, y2, y3, y4, y5⟩ := id K2
      go_wp2
      obtain ⟨_, k0, k1, k2, _, _, _⟩ := K3
      refine bodyPost_ret (v := .tuple #[.agg #[.string ⟨#[]⟩, .bool false, .slice none 0 0], .int .i64 0, .bool false]) (by simp [results, Tryd.results75, go_sem, k0, k1, k2]) rfl ?_
      exact ⟨hB, Or.inr ⟨hz.out, rfl⟩⟩
    | some x =>
      obtain ⟨u, m⟩ := x
      have hz := getTermL_mid hT hN
      rw [hN] at A2
      rw [A2] at C2
      simp only at C1 C2
      clear A1 A2 hT hN CG
      by_cases h9 : u ≤ 9
      · rw [if_pos h9] at hz
        obtain ⟨h, hh⟩ : ∃ h, h = u / 2 := ⟨_, rfl⟩
        have hd2 : (u : Int) / 2 = (h : Int) := by omega
        have hwh : IntKind.i64.wrap (h : Int) = (h : Int) := by rw [IntKind.wrap_i64]; omega
        have hno : ((u : Int) % 2 == 1) = (u % 2 == 1) := by rw [Bool.eq_iff_iff, beq_iff_eq, beq_iff_eq]; omega
        have h4 : h ≤ 4 := by omega
        have h9u : decide ((9 : Int) < (u : Int)) = false := decide_eq_false (by omega)
        rw [← hh] at hz
        generalize (u % 2 == 1) = no at *
        generalize hKB : (⟨k.toArray⟩ : ByteArray) = KB at *
        replace hKB := Lib.hid hKB
        replace hz := Lib.hid hz
        replace hh := Lib.hid hh
        have e1 : (p : Int) + (n : Int) + (m : Int) = ((p + (n + m) : Nat) : Int) := by omega
        rw [e1] at C2
        clear e0 e1
        replace C1 := Lib.hid C1
        replace C2 := Lib.hid C2
        go_enter Tryd.func75, Tryd.ntmps75
        go_wp2_with fail
        refine (C1.out _).mono ?_; rintro e w1 ⟨rfl, h1⟩
        go_wp2_with fail
        refine (C2.out _).mono ?_; rintro e w2 ⟨rfl, h2⟩
        have R2 := R0.ext (h1.trans h2)
        have E2 := hW.trans (h1.trans h2)
        have hlt2 : w.heap.size < w2.heap.size := R2.lt
        have hA := (Ext.refl w2).alloc (.cells #[.string KB, .bool no, .slice none 0 0] 107)
        have T3 := Cell3.new w2 (.string KB) (.bool no) (.slice none 0 0) 107
        have R3 := R2.ext hA
        have E3 := E2.trans hA
        clear C1 C2 R2 E2 R0 hA h1 h2 hW
        go_wp2
        generalize hw3 : w2.alloc (.cells #[.string KB, .bool no, .slice none 0 0] 107) = w3 at *
        replace hw3 := Lib.hid hw3
        obtain ⟨B3, hB3⟩ : ∃ B3, B3 = w3.heap.size := ⟨_, rfl⟩
        have hb3 : w2.heap.size < w3.heap.size := T3.lt
        have hbb : w.heap.size < B3 ∧ w2.heap.size < B3 := by omega
        go_loopw [1, 13] (fun a' i' wr => ∃ (j : Nat) (vs : List ByteArray) (r : Nat) (v : Value), j ≤ h ∧ i' = .int .i64 j ∧ a' = .int .i64 ((p + r : Nat) : Int) ∧ Cell3 w2.heap.size (.string KB) (.bool no) v wr ∧
          Cell3 w.heap.size (.string ⟨#[]⟩) (.bool false) (.slice none 0 0) wr ∧ wr.ownsRow B3 9 1 v j (vs.map .string) ∧ vs.length = j ∧ B3 ≤ wr.heap.size ∧ Ext w wr ∧ Hid (readsL (getTextL 32) (s.data.toList.drop p) (n + m) j = some (bytesOf vs, r))) (fun _ i' _ => h - (intOf i').toNat)
        case atStart => exact ⟨0, [], n + m, .slice none 0 0, by omega, rfl, rfl, T3, R3, World.ownsRow_nil _ _ _ _, rfl, by omega, E3, rfl⟩
        case round =>
          obtain ⟨j, vs, r, v, hj, rfl, rfl, hTj, hRj, ho, hvl, hBj, hEj, HR⟩ := hrel
          by_cases hlt : j < h
          · have hst := readsL_succ HR.out
            have A1 : atI (getTextL 32) [] s.data.toList ((p + r : Nat) : Int) = _ := atI_pos (getTextL_nil 32)
            rw [← List.drop_drop] at A1
            have C := CT.out ((p + r : Nat) : Int) wr
            rw [A1] at C
            cases hX : getTextL 32 ((s.data.toList.drop p).drop r) with
            | none =>
              rw [hX] at hst C
              have hz' : Hid (getTermL (s.data.toList.drop p) = none) := by
                have := readsL_none hst (show j + 1 ≤ h by omega)
                show _ = _
                rw [hz.out, this]
              simp only at C
              clear hst A1 hX
              go_wp2_with fail
              refine C.mono ?_; rintro e w5 ⟨rfl, h5⟩
              have K2 := hRj.ext h5
              have hB := below_put3 (hEj.trans h5) (Nat.le_refl _) (.string ⟨#[]⟩) (.bool false) (.slice none 0 0)
              have K3 := K2.put (.string ⟨#[]⟩) (.bool false) (.slice none 0 0)
              obtain ⟨_, y0, y1, y2, y3, y4, y5⟩ := id K2
              go_wp2
              obtain ⟨_, k0, k1, k2, _, _, _⟩ := K3
              refine bodyPost_ret (v := .tuple #[.agg #[.string ⟨#[]⟩, .bool false, .slice none 0 0], .int .i64 0, .bool false]) (by simp [results, Tryd.results75, go_sem, k0, k1, k2]) rfl ?_
              exact ⟨hB, Or.inr ⟨hz'.out, rfl⟩⟩
            | some x =>
              obtain ⟨t, n2⟩ := x
              rw [hX] at hst C
              simp only at C
              have e2 : ((p + r : Nat) : Int) + (n2 : Int) = ((p + (r + n2) : Nat) : Int) := by omega
              rw [e2] at C
              generalize hTB : (⟨t.toArray⟩ : ByteArray) = TB at *
              have hst' : Hid (readsL (getTextL 32) (s.data.toList.drop p) (n + m) (j + 1) = some (bytesOf (vs ++ [TB]), r + n2)) := by
                show _ = _
                rw [hst, ← hTB]
                simp [bytesOf]
              clear hst hTB A1 hX e2
              go_wp2_with fail
              refine C.mono ?_; rintro e w5 ⟨rfl, h5⟩
              have ha := h5.trans ((Ext.refl w5).alloc (.cells #[.string TB] 9))
              have T5 := hTj.ext h5
              have T6 := hTj.ext ha
              have R6 := hRj.ext ha
              have o6 := Ext.row ho ha
              have E6 := hEj.trans ha
              have B6 := Nat.le_trans hBj ha.size
              have hl6 := Sl.lit w5 9 1 1 #[.string TB] rfl (by simp [maxLen])
              have hq : ∀ c, v.ownBlock = some c → B3 ≤ c := fun c e => (World.ownsRow.lt o6 c e).1
              obtain ⟨_, t0, t1, t2, _, _, _⟩ := T5
              replace hq := Lib.hid hq
              clear C
              go_wp2_with (at_builtin; refine wpList_app rfl _ _ Tryd.slStr rfl rfl o6 rfl hl6 (strs_one [TB]) (by omega) B6 ?_; intro v6 w7 o7 g7; obtain ⟨q6, cap6, rfl⟩ := row_shape o7; have T7 := T6.grown g7 (fun e => by have := hq.out _ e; omega); obtain ⟨_, z0, z1, z2, z3, z4, z5⟩ := id T7)
              have R7 := R6.grown g7 (fun e => by have := hq.out _ e; omega)
              have E7 : Ext w w7 := E6.grown g7 E6.size (fun c e => by have := hq.out _ e; omega)
              have B7 := Nat.le_trans B6 g7.size
              have T8 := T7.set2 (.slice q6 (j + 1) cap6)
              have R8 := R7.far (c := w2.heap.size) (i := 2) (by omega) (.slice q6 (j + 1) cap6)
              have gS := grown_set w7 w2.heap.size 2 (.slice q6 (j + 1) cap6)
              have o8 := grown_row o7 gS (fun c e => by injection e with e; omega)
              have E8 : Ext w (w7.setCell ⟨w2.heap.size, 2, none⟩ (.slice q6 (j + 1) cap6)) := E7.setCell (p := ⟨w2.heap.size, 2, none⟩) (by show w.heap.size ≤ w2.heap.size; omega) _
              have B8 : B3 ≤ (w7.setCell ⟨w2.heap.size, 2, none⟩ (.slice q6 (j + 1) cap6)).heap.size := by rw [World.size_setCell]; exact B7
              rw [← strs_snoc] at o8
              go_roundw
              case rel => exact ⟨j + 1, vs ++ [TB], r + n2, .slice q6 (j + 1) cap6, by omega, by go_num, rfl, T8, R8, o8, by simp [hvl], B8, E8, hst'⟩
              case measure => simp [intOf]; omega
          · obtain rfl : j = h := by omega
            obtain ⟨q6, cap6, rfl⟩ := row_shape ho
            have hvs : Strs wr (.slice q6 j cap6) vs := Strs.of_row ho hvl.symm
            have hq : ∀ c, (Value.slice q6 j cap6).ownBlock = some c → B3 ≤ c := fun c e => (World.ownsRow.lt ho c e).1
            have hfin : Hid (getTermL (s.data.toList.drop p) = some ((k, no, bytesOf vs), r)) := by
              show _ = _
              rw [hz.out, HR.out]
            have R8 := hRj.put (.string KB) (.bool no) (.slice q6 j cap6)
            have G8 := below_put3 hEj (Nat.le_refl _) (.string KB) (.bool no) (.slice q6 j cap6)
            have V8 : Strs (((wr.setCell ⟨w.heap.size, 0, none⟩ (.string KB)).setCell ⟨w.heap.size, 1, none⟩ (.bool no)).setCell ⟨w.heap.size, 2, none⟩ (.slice q6 j cap6)) (.slice q6 j cap6) vs := by
              cases q6 with
              | none =>
                have : vs = [] := by
                  by_cases h0 : vs.length = 0
                  · exact List.length_eq_zero_iff.1 h0
                  · subst hvl
                    obtain ⟨_, _, e, _⟩ := hvs.at (k := 0) (by omega)
                    cases e
                subst this
                exact ⟨rfl, hvs.2.choose, hvs.2.choose_spec.choose, hvs.2.choose_spec.choose_spec.1, hvs.2.choose_spec.choose_spec.2.1, hvs.2.choose_spec.choose_spec.2.2.1, hvs.2.choose_spec.choose_spec.2.2.2.1, Or.inl rfl⟩
              | some a =>
                obtain ⟨ab, ao, asp⟩ := a
                have := hq ab rfl
                subst hvl
                by_cases h0 : vs.length = 0
                · have : vs = [] := List.length_eq_zero_iff.1 h0
                  subst this
                  exact ⟨rfl, hvs.2.choose, hvs.2.choose_spec.choose, hvs.2.choose_spec.choose_spec.1, hvs.2.choose_spec.choose_spec.2.1, hvs.2.choose_spec.choose_spec.2.2.1, hvs.2.choose_spec.choose_spec.2.2.2.1, Or.inl rfl⟩
                · obtain ⟨_, _, e, _⟩ := hvs.at (k := 0) (by omega)
                  injection e with e; injection e with e1 e2 e3
                  subst e1 e2 e3
                  exact Sl.far (i := 2) (Sl.far (i := 1) (Sl.far (i := 0) hvs (by omega) _) (by omega) _) (by omega) _
            obtain ⟨_, r0, r1, r2, r3, r4, r5⟩ := hRj
            obtain ⟨_, s0, s1, s2, _, _, _⟩ := hTj
            have hq' : Hid (∀ c, (Value.slice q6 j cap6).ownBlock = some c → w.heap.size ≤ c) := fun c e => by have := hq c e; omega
            clear ho hvs hq HR hz
            go_wp2
            obtain ⟨_, k0, k1, k2, _, _, _⟩ := R8
            refine bodyPost_ret (v := .tuple #[.agg #[.string KB, .bool no, .slice q6 j cap6], .int .i64 ((p + r : Nat) : Int), .bool true]) (by simp [results, Tryd.results75, go_sem, k0, k1, k2]) rfl ?_
            refine ⟨G8, Or.inl ⟨(k, no, bytesOf vs), r, (KB, no, .slice q6 j cap6, vs), hfin.out, rfl, ?_, V8, hq'.out⟩⟩
            rw [← hKB.out]
            simp only [rowT, mkT, bytesOf, List.map_map, Prod.mk.injEq, true_and]
            conv => lhs; rw [← List.map_id vs]
            exact List.map_congr_left fun x _ => by cases x; simp
      · rw [if_neg h9] at hz
        have h9u : decide ((9 : Int) < (u : Int)) = true := decide_eq_true (by omega)
        replace hz := Lib.hid hz
        clear h9 e0 CT
        replace C1 := Lib.hid C1
        replace C2 := Lib.hid C2
        have K1 := fun w' (h : Ext (w.alloc (.cells #[.string ⟨#[]⟩, .bool false, .slice none 0 0] 107)) w') => R0.ext h
        go_enter Tryd.func75, Tryd.ntmps75
        go_wp2_with fail
        refine (C1.out _).mono ?_; rintro e w1 ⟨rfl, h1⟩
        go_wp2_with fail
        refine (C2.out _).mono ?_; rintro e w2 ⟨rfl, h2⟩
        have K2 := K1 w2 (h1.trans h2)
        have hB := below_put3 (hW.trans (h1.trans h2)) (Nat.le_refl _) (.string ⟨#[]⟩) (.bool false) (.slice none 0 0)
        have K3 := K2.put (.string ⟨#[]⟩) (.bool false) (.slice none 0 0)
        obtain ⟨_, y0, y1, y2, y3, y4, y5⟩ := id K2
        go_wp2
        obtain ⟨_, k0, k1, k2, _, _, _⟩ := K3
        refine bodyPost_ret (v := .tuple #[.agg #[.string ⟨#[]⟩, .bool false, .slice none 0 0], .int .i64 0, .bool false]) (by simp [results, Tryd.results75, go_sem, k0, k1, k2]) rfl ?_
        exact ⟨hB, Or.inr ⟨hz.out, rfl⟩⟩

end Go.Proofs.YtbkemhheombfcaaDoor

namespace Go.Dm
open Go Go.RowKit

theorem byte_get {l : Bs} {i : Nat} (h : i < l.length) : bAt l i = (l[i]).toNat := by
  simp [bAt, List.getD_eq_getElem?_getD, h]
theorem drop_cut {l : Bs} {f i : Nat} (hf : f ≤ i) (hi : i < l.length) : l.drop f = (l.drop f).take (i - f) ++ l[i] :: l.drop (i + 1) := by
  have h1 := List.take_append_drop (i - f) (l.drop f)
  rw [List.drop_drop, show f + (i - f) = i by omega, List.drop_eq_getElem_cons hi] at h1
  exact h1.symm
theorem bytesOf_snoc {xs : List ByteArray} {x : ByteArray} : bytesOf (xs ++ [x]) = bytesOf xs ++ [x.data.toList] := by simp [bytesOf]
theorem bytesOf_len (xs : List ByteArray) : (bytesOf xs).length = xs.length := by simp [bytesOf]

/-- Where the cutting of a text at c stands: pieces behind it, the next one begun at f, looked through up to i. -/
def CS (c : UInt8) (l : Bs) (out : List Bs) (f i : Nat) : Prop :=
  i ≤ l.length + 1 ∧ (i ≤ l.length → f ≤ i ∧ c ∉ (l.drop f).take (i - f) ∧ splitC c l = out ++ splitC c (l.drop f)) ∧ (l.length < i → splitC c l = out)

theorem CS.start (c : UInt8) (l : Bs) : CS c l [] 0 0 := ⟨by omega, fun _ => ⟨by omega, by simp, by simp⟩, fun h => by omega⟩
theorem CS.on {c : UInt8} {l : Bs} {out : List Bs} {f i : Nat} (h : CS c l out f i) (hi : i < l.length) (hb : bAt l i ≠ c.toNat) : CS c l out f (i + 1) := by
  obtain ⟨_, h4, _⟩ := h
  obtain ⟨g1, g2, g3⟩ := h4 (by omega)
  refine ⟨by omega, fun _ => ⟨by omega, ?_, g3⟩, fun h => by omega⟩
  have hlt : i - f < (l.drop f).length := by rw [List.length_drop]; omega
  rw [show i + 1 - f = (i - f) + 1 by omega, List.take_succ_eq_append_getElem hlt, List.mem_append, List.mem_singleton]
  rintro (h | h)
  · exact g2 h
  · rw [List.getElem_drop] at h
    apply hb
    rw [byte_get hi]
    have : l[f + (i - f)] = l[i] := by congr 1; omega
    rw [← this, ← h]
theorem CS.next {c : UInt8} {l : Bs} {out : List Bs} {f i : Nat} (h : CS c l out f i) (hi : i = l.length ∨ (i < l.length ∧ bAt l i = c.toNat)) : CS c l (out ++ [(l.drop f).take (i - f)]) (i + 1) (i + 1) := by
  obtain ⟨_, h4, _⟩ := h
  rcases hi with rfl | ⟨hi, hb⟩
  · obtain ⟨g1, g2, g3⟩ := h4 (by omega)
    have he : (l.drop f).take (l.length - f) = l.drop f := List.take_of_length_le (by rw [List.length_drop]; omega)
    rw [he] at g2 ⊢
    exact ⟨by omega, fun h => by omega, fun _ => by rw [g3, splitC_none g2]⟩
  · obtain ⟨g1, g2, g3⟩ := h4 (by omega)
    have hc := drop_cut g1 hi
    have h47 : l[i] = c := UInt8.toNat_inj.1 (by rw [← byte_get hi, hb])
    rw [h47] at hc
    refine ⟨by omega, fun _ => ⟨by omega, by simp, ?_⟩, fun h => by omega⟩
    rw [g3, List.append_assoc]
    congr 1
    conv => lhs; rw [hc]
    exact splitC_at g2
theorem CS.done {c : UInt8} {l : Bs} {out : List Bs} {f i : Nat} (h : CS c l out f i) (hi : l.length < i) : splitC c l = out := h.2.2 hi

theorem split_two {c : UInt8} {x a b : Bs} (h : splitC c x = [a, b]) : cutC c x = (a, b, true) := by
  rcases cut_atC c x with hn | ⟨p, r, h1, rfl⟩
  · rw [splitC_none hn] at h; cases h
  · rw [splitC_at h1] at h
    injection h with h2 h3
    have := join_splitC c r
    rw [h3, Lib.join_one] at this
    rw [cutC_at h1, h2, this]
theorem split_bad {x : Bs} (h : (splitC 61 x).length ≠ 2) : rightL (readP x).2 = false := by
  unfold readP
  rcases cut_atC 61 x with hn | ⟨p, r, h1, rfl⟩
  · rw [cutC_none hn]; exact right_nil
  · rw [cutC_at h1]
    cases hr : rightL r with
    | false => rfl
    | true =>
      rw [splitC_at h1, splitC_none (no_is hr)] at h
      simp at h
theorem parsed_bad {t x : Bs} (hx : x ∈ splitC 44 t) (h : (splitC 61 x).length ≠ 2) : rightLab (parsedLab t) = false := by
  cases hr : rightLab (parsedLab t) with
  | false => rfl
  | true =>
    have := (rightLab_names hr _ (List.mem_map_of_mem (f := readP) hx)).2
    rw [split_bad h] at this
    cases this
end Go.Dm
namespace Go.Proofs.YtbkemhheombfcaaDoor
open Go.RowKit Go.Dm

set_option maxHeartbeats 4000000 in
theorem mcutF_w (s : ByteArray) (c : UInt8) (k : Int) (w : World) (hk : k = (c.toNat : Int)) (hs : s.size ≤ 1048576) :
    Calls Tryd.prog 65 #[.string s, .int .u8 k] w fun e w' => ∃ r, e = .returned r ∧ Texts w' r (splitC c s.data.toList) ∧ (∀ b, r.ownBlock = some b → w.heap.size ≤ b) ∧ Ext w w' := by
  go_enter Tryd.func65, Tryd.ntmps65
  go_wp2
  go_loopw [5, 6, 7] (fun v f' i' wr => ∃ (f i : Nat) (xs : List ByteArray), f' = .int .i64 f ∧ i' = .int .i64 i ∧ i ≤ s.size + 1 ∧ f ≤ i ∧ xs.length ≤ i ∧ Ext w wr ∧ wr.ownsRow w.heap.size 9 1 v xs.length (xs.map .string) ∧ Hid (CS c s.data.toList (bytesOf xs) f i)) (fun _ _ i' _ => s.size + 1 - (intOf i').toNat)
  case atStart => exact ⟨0, 0, [], rfl, rfl, by omega, by omega, by simp, Ext.refl _, World.ownsRow_nil _ _ _ _, CS.start _ _⟩
  case round =>
    obtain ⟨f, i, xs, rfl, rfl, hi, hf, hxl, hb, ho, HP⟩ := hrel
    by_cases hle : i ≤ s.size
    · have hxd : (s.extract f i).data.toList = (s.data.toList.drop f).take (i - f) := Lib.extract_data s f i
      have hnext : (i = s.data.toList.length ∨ (i < s.data.toList.length ∧ bAt s.data.toList i = c.toNat)) → Hid (CS c s.data.toList (bytesOf (xs ++ [s.extract f i])) (i + 1) (i + 1)) := fun h => by
        have := HP.out.next h
        rw [← hxd, ← bytesOf_snoc] at this
        exact this
      have ho4 := Ext.row ho ((Ext.refl wr).alloc (.cells #[.string (s.extract f i)] 9))
      have hb4 := hb.trans ((Ext.refl wr).alloc (.cells #[.string (s.extract f i)] 9))
      have hl4 := Sl.lit wr 9 1 1 #[.string (s.extract f i)] rfl (by simp [maxLen])
      clear hxd
      by_cases hlt : i < s.size
      · obtain ⟨b, hbt⟩ : ∃ b : Int, ((s[i]'hlt).toNat : Int) = b := ⟨_, rfl⟩
        by_cases hbk : b = k
        · have hst := hnext (Or.inr ⟨hlt, by rw [← sAt hlt]; omega⟩)
          have hbn : (b == k) = true := by rw [beq_iff_eq]; exact hbk
          have hin : ((i : Int) == (s.size : Int)) = false := by rw [beq_eq_false_iff_ne]; omega
          clear hnext ho hbk hk
          go_wp2_with (at_builtin; refine wpList_appE rfl _ _ Tryd.slStr rfl hb4 rfl ho4 rfl hl4 (strs_one [s.extract f i]) (by omega) ?_; intro v5 w5 ho5 hb5 _)
          go_roundw
          case rel => exact ⟨i + 1, i + 1, xs ++ [s.extract f i], by go_num, by go_num, by omega, by omega, by simp; omega, hb5, by rw [List.length_append, List.map_append]; exact ho5, hst⟩
          case measure => simp [intOf]; omega
        · have hst := Lib.hid (HP.out.on hlt (by rw [← sAt hlt]; omega))
          have hbn : (b == k) = false := by rw [beq_eq_false_iff_ne]; exact hbk
          have hin : ((i : Int) == (s.size : Int)) = false := by rw [beq_eq_false_iff_ne]; omega
          clear hnext ho4 hb4 hl4 hbk hk
          go_wp2
          go_roundw
          case rel => exact ⟨f, i + 1, xs, rfl, by go_num, by omega, by omega, by omega, hb, ho, hst⟩
          case measure => simp [intOf]; omega
      · have hst := hnext (Or.inl (show i = s.size by omega))
        have hin : ((i : Int) == (s.size : Int)) = true := by rw [beq_iff_eq]; omega
        clear hnext ho hk
        go_wp2_with (at_builtin; refine wpList_appE rfl _ _ Tryd.slStr rfl hb4 rfl ho4 rfl hl4 (strs_one [s.extract f i]) (by omega) ?_; intro v5 w5 ho5 hb5 _)
        go_roundw
        case rel => exact ⟨i + 1, i + 1, xs ++ [s.extract f i], by go_num, by go_num, by omega, by omega, by simp; omega, hb5, by rw [List.length_append, List.map_append]; exact ho5, hst⟩
        case measure => simp [intOf]; omega
    · have hz := Lib.hid (HP.out.done (show s.size < i by omega))
      go_wp2
      go_ret
      exact ⟨_, rfl, ⟨xs, Strs.of_row ho rfl, hz.out.symm⟩, (fun b hb' => (World.ownsRow.lt ho b hb').1), hb⟩

theorem mcut_w (s : ByteArray) (c : UInt8) (k : Int) (w : World) (hk : k = (c.toNat : Int)) (hs : s.size ≤ 1048576) :
    Calls Tryd.prog 65 #[.string s, .int .u8 k] w fun e w' => ∃ r, e = .returned r ∧ Texts w' r (splitC c s.data.toList) ∧ Ext w w' :=
  (mcutF_w s c k w hk hs).mono fun _ _ ⟨r, h1, h2, _, h3⟩ => ⟨r, h1, h2, h3⟩

end Go.Proofs.YtbkemhheombfcaaDoor
