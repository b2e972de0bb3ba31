/- Texts one behind the other: Chapter 13: the walks of the laws' helpers: texts, examples. -/
import Derived.Test.YtibimbcjnjefdaaT13
namespace Go.Dm
open Go Go.RowKit
theorem strAt_ext {l m : List ByteArray} (hlen : l.length = m.length) (h : ∀ k, k < l.length → strAt l k = strAt m k) : l = m := by
  apply List.ext_getElem hlen
  intro i h1 h2
  have := h i h1
  simpa [strAt, h1, h2] using this
theorem letR_nil (r : SlotR) : letR [] r = true := rfl
theorem filter_nil (R : List SlotR) : R.filter (letR []) = R := List.filter_eq_self.2 fun r _ => letR_nil r
theorem letR_has (key : ByteArray) (v : Value) (r : SlotR) : letR [(key, false, v, [])] r = (findB r.2.2.2 key).2 := by
  simp [letR, matchS, rowT, holdsS]
theorem findB_nil (key : ByteArray) : (findB [] key).2 = false := rfl
theorem findB_one (key x : ByteArray) : (findB [(key, x)] key).2 = true := by
  simp [findB, firstP, keyIs, pairAt]
theorem fit_filtered (f : SlotR → Bool) (hf : LabF f) (d : Vc) (n : Nat) (R F : List SlotR) (h : R.filter f = F) : fitS f d n R = fitS allS d n F := by rw [← h, fit_filter hf]
theorem room_filtered (f : SlotR → Bool) (d : Vc) (m : Nat) (R F : List SlotR) (h : R.filter f = F) : roomS f d m R = min m (roomF allS d m F) := by rw [← h]; unfold roomS; rw [room_filter]
/-- A box that holds two of the first thing. -/
structure Two (b : Nat) (w : World) : Prop where
  lt : b < w.heap.size
  c0 : w.cell? ⟨b, 0, none⟩ = some (.int .u64 ((2 : Nat) : Int))
  c1 : w.cell? ⟨b, 1, none⟩ = some (.int .u64 ((0 : Nat) : Int))
  c2 : w.cell? ⟨b, 2, none⟩ = some (.int .u64 ((0 : Nat) : Int))
  c3 : w.cell? ⟨b, 3, none⟩ = some (.int .u64 ((0 : Nat) : Int))
theorem Two.ext {b : Nat} {w w' : World} (h : Two b w) (hx : Ext w w') : Two b w' := by
  have hc : ∀ {i : Nat} {u}, w.cell? ⟨b, i, none⟩ = some u → w'.cell? ⟨b, i, none⟩ = some u := fun {i u} e => by rw [hx.cell (by exact h.lt)]; exact e
  exact ⟨Nat.lt_of_lt_of_le h.lt hx.size, hc h.c0, hc h.c1, hc h.c2, hc h.c3⟩
theorem Two.new (w : World) (e : TypeId) : Two w.heap.size (w.alloc (.cells #[.int .u64 2, .int .u64 0, .int .u64 0, .int .u64 0] e)) := by
  have h := (VBox.new w (fun k => vG [2, 0, 0, 0] k) e).four
  exact ⟨h.lt, h.c0, h.c1, h.c2, h.c3⟩
end Go.Dm
namespace Go.Proofs.Ytibimbcjnjefdaa
open Go.RowKit Go.Dm

set_option maxHeartbeats 2000000 in
theorem ktexts_w (l m : List ByteArray) (v v2 : Value) (w : World) (hl : l.length ≤ 35184372088832) (hx : Strs w v l) (hy : Strs w v2 m) :
    Calls Try.prog 15 #[v, v2] w fun e w' => e = .returned (.bool (decide (l = m))) ∧ Ext w w' := by
  obtain ⟨q, cap, rfl, hcap, hcm⟩ := hx.shape
  obtain ⟨q2, cap2, rfl, hcap2, hcm2⟩ := hy.shape
  by_cases hlen : l.length = m.length
  · have heq : (∀ k, k < l.length → strAt l k = strAt m k) → decide (l = m) = true := fun h => decide_eq_true (strAt_ext hlen h)
    have hneq : ∀ k, k < l.length → strAt l k ≠ strAt m k → decide (l = m) = false := fun k hk h => decide_eq_false (fun e => h (by rw [e]))
    generalize decide (l = m) = d at *
    replace heq := Lib.hid heq
    replace hneq := Lib.hid hneq
    have hlt' : ∀ k, k < l.length → k < m.length := fun k h => hlen ▸ h
    have hlenI : ((m.length : Nat) : Int) = ((l.length : Nat) : Int) := by rw [hlen]
    go_enter Try.func15, Try.ntmps15
    go_wp2
    go_loopw [5] (fun i' wr => ∃ k : Nat, k ≤ l.length ∧ i' = .int .i64 k ∧ Ext w wr ∧ Hid (∀ j, j < k → strAt l j = strAt m j)) (fun i' _ => l.length - (intOf i').toNat)
    case atStart => exact ⟨0, by omega, rfl, Ext.refl _, fun j hj => by omega⟩
    case round =>
      obtain ⟨k, hk, rfl, hb, HN⟩ := hrel
      by_cases hlt : k < l.length
      · have hlt2 := hlt' k hlt
        obtain ⟨b, off, rfl, hbl, c0⟩ := (hx.ext hb).at hlt
        obtain ⟨b2, off2, rfl, hbl2, d0⟩ := (hy.ext hb).at hlt2
        by_cases he : strAt l k = strAt m k
        · have HN2 : Hid (∀ j, j < k + 1 → strAt l j = strAt m j) := fun j hj => by
            rcases Nat.lt_succ_iff_lt_or_eq.1 hj with h | rfl
            · exact HN.out j h
            · exact he
          have hq : ((strAt l k).toList == (strAt m k).toList) = true := bytes_eq.2 he
          replace he := Lib.hid he
          go_wp2_with fail
          refine Dm.wp_region_grow (by kernel_rfl) (by kernel_rfl) ?_
          repeat (go_big_quiet_step (fail))
          refine wpQuiet_nil ?_
          intro U hU
          have hU' := hb.trans hU
          go_wp2
          go_roundw
          case rel => exact ⟨k + 1, by omega, by go_num, hU', HN2⟩
          case measure => simp [intOf]; omega
        · have hq : ((strAt l k).toList == (strAt m k).toList) = false := Bool.eq_false_iff.2 fun h => he (bytes_eq.1 h)
          have hd := Lib.hid (hneq.out k hlt he)
          replace he := Lib.hid he
          go_wp2_with fail
          refine Dm.wp_region_grow (by kernel_rfl) (by kernel_rfl) ?_
          repeat (go_big_quiet_step (fail))
          refine wpQuiet_nil ?_
          intro U hU
          have hU' := hb.trans hU
          go_wp2
          go_ret
          exact ⟨by rw [hd.out]; rfl, hU'⟩
      · obtain rfl : k = l.length := by omega
        have hd := Lib.hid (heq.out HN.out)
        go_wp2
        go_ret
        exact ⟨by rw [hd.out]; rfl, hb⟩
  · have hd := Lib.hid (decide_eq_false (fun e : l = m => hlen (by rw [e])))
    have hlenI : ¬ (((l.length : Nat) : Int) = ((m.length : Nat) : Int)) := by omega
    go_enter Try.func15, Try.ntmps15
    go_wp2
    go_ret
    exact ⟨by rw [hd.out]; rfl, Ext.refl _⟩

set_option maxHeartbeats 4000000 in
set_option maxRecDepth 100000 in
theorem kexamples_w (w : World) :
    Calls Try.prog 9 #[] w fun e w' => e = .returned (.bool true) ∧ Ext w w' := by
  obtain ⟨lv, hlv⟩ : ∃ lv : Value, lv = .slice (some ⟨w.heap.size, 0, none⟩) 1 1 := ⟨_, rfl⟩
  obtain ⟨R, hR⟩ : ∃ R : List SlotR, R = [(⟨#[97]⟩, [4, 0, 0, 0], .slice none 0 0, []), (⟨#[98]⟩, [3, 0, 0, 0], lv, [(⟨#[122, 111, 110, 101]⟩, ⟨#[120]⟩)])] := ⟨_, rfl⟩
  have hRl : R.length = 2 := by rw [hR]; rfl
  have hRc : slotCells R = [.string ⟨#[97]⟩, .int .u64 4, .int .u64 0, .int .u64 0, .int .u64 0, .slice none 0 0, .string ⟨#[98]⟩, .int .u64 3, .int .u64 0, .int .u64 0, .int .u64 0, .slice (some ⟨w.heap.size, 0, none⟩) 1 1] := by
    rw [hR, hlv]; rfl
  have hone : R.filter (letR []) = R := filter_nil R
  have hzone : ∀ v, R.filter (letR [(⟨#[122, 111, 110, 101]⟩, false, v, [])]) = [(⟨#[98]⟩, [3, 0, 0, 0], lv, [(⟨#[122, 111, 110, 101]⟩, ⟨#[120]⟩)])] := fun v => by
    rw [hR, List.filter_cons_of_neg (by rw [letR_has, findB_nil]; simp), List.filter_cons_of_pos (by rw [letR_has]; exact findB_one _ _)]
    rfl
  have F2 : fitI (letR []) [2, 0, 0, 0] 2 R = some [⟨#[98]⟩, ⟨#[97]⟩] := by
    unfold fitI; rw [if_neg (by decide), fit_filtered _ (letR_lab _) _ _ _ _ hone, hR]; kernel_rfl
  have F3 : fitI (letR []) [2, 0, 0, 0] 3 R = some [⟨#[98]⟩, ⟨#[97]⟩, ⟨#[97]⟩] := by
    unfold fitI; rw [if_neg (by decide), fit_filtered _ (letR_lab _) _ _ _ _ hone, hR]; kernel_rfl
  have F4 : fitI (letR []) [2, 0, 0, 0] 4 R = none := by
    unfold fitI; rw [if_neg (by decide), fit_filtered _ (letR_lab _) _ _ _ _ hone, hR]; kernel_rfl
  have FZ : ∀ v, fitI (letR [(⟨#[122, 111, 110, 101]⟩, false, v, [])]) [2, 0, 0, 0] 2 R = none := fun v => by
    unfold fitI; rw [if_neg (by decide), fit_filtered _ (letR_lab _) _ _ _ _ (hzone v)]; kernel_rfl
  have F9 : fitI (letR []) [0, 0, 0, 0] 9 R = none := by
    unfold fitI; rw [if_pos (by decide)]
  have R8 : roomS (letR []) [2, 0, 0, 0] 8 R = 3 := by rw [room_filtered _ _ _ _ _ hone, hR]; kernel_rfl
  have R2 : roomS (letR []) [2, 0, 0, 0] 2 R = 2 := by rw [room_filtered _ _ _ _ _ hone, hR]; kernel_rfl
  have RZ : ∀ v, roomS (letR [(⟨#[122, 111, 110, 101]⟩, false, v, [])]) [2, 0, 0, 0] 8 R = 1 := fun v => by rw [room_filtered _ _ _ _ _ (hzone v)]; kernel_rfl
  have hW1 : Ext w (w.alloc (.cells #[.string ⟨#[122, 111, 110, 101]⟩, .string ⟨#[120]⟩] 57)) := (Ext.refl _).alloc _
  have hP1 := Sl.lit w 57 2 1 #[.string ⟨#[122, 111, 110, 101]⟩, .string ⟨#[120]⟩] rfl (by simp [maxLen])
  have hW2 : Ext w ((w.alloc (.cells #[.string ⟨#[122, 111, 110, 101]⟩, .string ⟨#[120]⟩] 57)).alloc (.cells (slotCells R).toArray 47)) := hW1.alloc _
  have hS2 := Sl.lit (w.alloc (.cells #[.string ⟨#[122, 111, 110, 101]⟩, .string ⟨#[120]⟩] 57)) 47 6 2 (slotCells R).toArray (by simp [slotCells_len, hRl]) (by simp [maxLen])
  have hP2 := Sl.ext hP1 ((Ext.refl _).alloc (.cells (slotCells R).toArray 47))
  have hSl : Slots ((w.alloc (.cells #[.string ⟨#[122, 111, 110, 101]⟩, .string ⟨#[120]⟩] 57)).alloc (.cells (slotCells R).toArray 47)) (.slice (some ⟨w.heap.size + 1, 0, none⟩) 2 2) R := by
    refine ⟨by rw [hRl]; simpa using hS2, fun r hr => ?_, fun r hr => ?_⟩
    · rw [hR] at hr
      rcases List.mem_cons.1 hr with rfl | hr
      · exact Pairs.nil _
      · rw [List.mem_singleton.1 hr, hlv]
        exact hP2
    · rw [hR] at hr
      rcases List.mem_cons.1 hr with rfl | hr
      · exact okV_mk (by unfold U64; omega) (by unfold U64; omega) (by unfold U64; omega) (by unfold U64; omega)
      · rw [List.mem_singleton.1 hr]
        exact okV_mk (by unfold U64; omega) (by unfold U64; omega) (by unfold U64; omega) (by unfold U64; omega)
  rw [hRc] at hSl hW2
  have hFK : FitK R := fun r hr => by
    rw [hR] at hr
    rcases List.mem_cons.1 hr with rfl | hr
    · simp
    · rw [List.mem_singleton.1 hr]; simp
  have hRb : R.length * 72 ≤ 140737488355328 := by omega
  have CF := fun (T : List RowS) (vx : Value) (d : Vc) (hd : OkV d) (n : Int) (U : World) (hT : T.length ≤ 35184372088832) (hf : FitR T) (ht : Terms U vx T) hx => kfit_w T R (.slice (some ⟨w.heap.size + 1, 0, none⟩) 2 2) vx d hd n U hT hf ht hRb hFK hx
  have CR := fun (T : List RowS) (vx : Value) (d : Vc) (hd : OkV d) (n : Int) (hn : n ≤ 9223372036854775807) (U : World) (hT : T.length ≤ 35184372088832) (hf : FitR T) (ht : Terms U vx T) hx => kroom_w T R (.slice (some ⟨w.heap.size + 1, 0, none⟩) 2 2) vx d hd n hn U hT hf ht hRb hFK hx
  have o2 : OkV [2, 0, 0, 0] := okV_mk (by unfold U64; omega) (by unfold U64; omega) (by unfold U64; omega) (by unfold U64; omega)
  have C2 := fun U hx => CF [] (.slice none 0 0) [2, 0, 0, 0] o2 2 U (by simp) (fun r hr => by cases hr) (Terms.nil U) hx
  have C3 := fun U hx => CF [] (.slice none 0 0) [2, 0, 0, 0] o2 3 U (by simp) (fun r hr => by cases hr) (Terms.nil U) hx
  have C4 := fun U hx => CF [] (.slice none 0 0) [2, 0, 0, 0] o2 4 U (by simp) (fun r hr => by cases hr) (Terms.nil U) hx
  have hzf : FitR [((⟨#[122, 111, 110, 101]⟩ : ByteArray), false, Value.slice none 0 0, ([] : List ByteArray))] := fun r hr => by
    rw [List.mem_singleton.1 hr]
    exact ⟨by show (4 : Nat) ≤ _; omega, by simp [rowT], fun x hx => by simp [rowT] at hx⟩
  have CZ := fun vx U ht hx => CF [(⟨#[122, 111, 110, 101]⟩, false, .slice none 0 0, [])] vx [2, 0, 0, 0] o2 2 U (by simp) hzf ht hx
  have QZ := fun vx U ht hx => CR [(⟨#[122, 111, 110, 101]⟩, false, .slice none 0 0, [])] vx [2, 0, 0, 0] o2 8 (by omega) U (by simp) hzf ht hx
  have C9 := fun U hx => CF [] (.slice none 0 0) [0, 0, 0, 0] okV_no 9 U (by simp) (fun r hr => by cases hr) (Terms.nil U) hx
  have Q8 := fun U hx => CR [] (.slice none 0 0) [2, 0, 0, 0] o2 8 (by omega) U (by simp) (fun r hr => by cases hr) (Terms.nil U) hx
  have Q2 := fun U hx => CR [] (.slice none 0 0) [2, 0, 0, 0] o2 2 (by omega) U (by simp) (fun r hr => by cases hr) (Terms.nil U) hx
  rw [F2] at C2
  rw [F3] at C3
  rw [F4] at C4
  rw [F9] at C9
  rw [FZ] at CZ
  rw [show ((8 : Int).toNat) = 8 from rfl, R8] at Q8
  rw [show ((2 : Int).toNat) = 2 from rfl, R2] at Q2
  rw [show ((8 : Int).toNat) = 8 from rfl, RZ] at QZ
  clear CF CR F2 F3 F4 F9 FZ R8 R2 RZ hzone hone hRc hRb hFK hS2 hP1 hP2 hW1
  clear hR hRl hlv
  have hZ : ∀ U : World, Terms (U.alloc (.cells #[.string ⟨#[122, 111, 110, 101]⟩, .bool false, .slice none 0 0] 59)) (.slice (some ⟨U.heap.size, 0, none⟩) 1 1) [(⟨#[122, 111, 110, 101]⟩, false, .slice none 0 0, [])] := fun U => by
    refine ⟨Sl.lit U 59 3 1 #[.string ⟨#[122, 111, 110, 101]⟩, .bool false, .slice none 0 0] rfl (by simp [maxLen]), fun r hr => ?_⟩
    rw [List.mem_singleton.1 hr]
    exact Strs.nil _
  have hQ2 : ∀ U : World, Strs (U.alloc (.cells #[.string ⟨#[98]⟩, .string ⟨#[97]⟩] 9)) (.slice (some ⟨U.heap.size, 0, none⟩) 2 2) [⟨#[98]⟩, ⟨#[97]⟩] := fun U => Sl.lit U 9 1 2 #[.string ⟨#[98]⟩, .string ⟨#[97]⟩] rfl (by simp [maxLen])
  have hQ3 : ∀ U : World, Strs (U.alloc (.cells #[.string ⟨#[98]⟩, .string ⟨#[97]⟩, .string ⟨#[97]⟩] 9)) (.slice (some ⟨U.heap.size, 0, none⟩) 3 3) [⟨#[98]⟩, ⟨#[97]⟩, ⟨#[97]⟩] := fun U => Sl.lit U 9 1 3 #[.string ⟨#[98]⟩, .string ⟨#[97]⟩, .string ⟨#[97]⟩] rfl (by simp [maxLen])
  unfold vVal vF at C2 C3 C4 CZ C9 Q8 Q2 QZ
  simp only [vG, List.getD_cons_zero, List.getD_cons_succ, Option.isSome_some, Option.isSome_none, Option.getD_some, Option.getD_none] at C2 C3 C4 CZ C9 Q8 Q2 QZ
  replace C2 := Lib.hid C2
  replace C3 := Lib.hid C3
  replace C4 := Lib.hid C4
  replace CZ := Lib.hid CZ
  replace C9 := Lib.hid C9
  replace Q8 := Lib.hid Q8
  replace Q2 := Lib.hid Q2
  replace QZ := Lib.hid QZ
  go_enter Try.func9, Try.ntmps9
  go_wp2_with fail
  refine (C2.out _ (hSl.ext ((Ext.refl _).alloc _))).mono ?_
  rintro e w1 ⟨vo1, rfl, hs1, h1⟩
  have hE1 := (hW2.alloc _).trans h1
  have hT1 : Two (w.heap.size + 1 + 1) w1 := by
    have h := (Two.new _ _).ext h1
    simpa using h
  have hL1 := hSl.ext (((Ext.refl _).alloc _).trans h1)
  obtain ⟨l0, c0, c1, c2, c3⟩ := id hT1
  clear hW2 hSl h1
  go_wp2_with fail
  refine (C3.out _ hL1).mono ?_
  rintro e w2 ⟨vo2, rfl, hs2, h2⟩
  have hE2 := hE1.trans h2
  replace hs1 := hs1.ext h2
  replace hT1 := hT1.ext h2
  replace hL1 := hL1.ext h2
  clear l0 c0 c1 c2 c3 hE1 h2
  obtain ⟨l0, c0, c1, c2, c3⟩ := id hT1
  go_wp2_with fail
  refine (C4.out _ hL1).mono ?_
  rintro e w3 ⟨vo3, rfl, hs3, h3⟩
  have hE3 := hE2.trans h3
  replace hs1 := hs1.ext h3
  replace hs2 := hs2.ext h3
  replace hT1 := hT1.ext h3
  replace hL1 := hL1.ext h3
  clear l0 c0 c1 c2 c3 hE2 h3 hs3
  obtain ⟨l0, c0, c1, c2, c3⟩ := id hT1
  go_wp2_with fail
  refine (CZ.out _ _ (hZ w3) (hL1.ext ((Ext.refl _).alloc _))).mono ?_
  rintro e w4 ⟨vo4, rfl, hs4, h4⟩
  replace h4 := ((Ext.refl w3).alloc _).trans h4
  have hE4 := hE3.trans h4
  replace hs1 := hs1.ext h4
  replace hs2 := hs2.ext h4
  replace hT1 := hT1.ext h4
  replace hL1 := hL1.ext h4
  clear l0 c0 c1 c2 c3 hE3 h4 hs4
  obtain ⟨l0, c0, c1, c2, c3⟩ := id hT1
  go_wp2_with fail
  refine (C9.out _ hL1).mono ?_
  rintro e w5 ⟨vo5, rfl, hs5, h5⟩
  have hE5 := hE4.trans h5
  replace hs1 := hs1.ext h5
  replace hs2 := hs2.ext h5
  replace hT1 := hT1.ext h5
  replace hL1 := hL1.ext h5
  clear l0 c0 c1 c2 c3 hE4 h5 hs5
  obtain ⟨l0, c0, c1, c2, c3⟩ := id hT1
  go_wp2_with fail
  refine (ktexts_w _ _ _ _ _ (by simp) (hs1.ext ((Ext.refl _).alloc _)) (hQ2 w5)).mono ?_
  rintro e w6 ⟨rfl, h6⟩
  replace h6 := ((Ext.refl w5).alloc _).trans h6
  have hE6 := hE5.trans h6
  replace hs2 := hs2.ext h6
  replace hT1 := hT1.ext h6
  replace hL1 := hL1.ext h6
  clear l0 c0 c1 c2 c3 hE5 h6 hs1
  obtain ⟨l0, c0, c1, c2, c3⟩ := id hT1
  rw [decide_eq_true rfl]
  go_wp2_with fail
  refine (ktexts_w _ _ _ _ _ (by simp) (hs2.ext ((Ext.refl _).alloc _)) (hQ3 w6)).mono ?_
  rintro e w7 ⟨rfl, h7⟩
  replace h7 := ((Ext.refl w6).alloc _).trans h7
  have hE7 := hE6.trans h7
  replace hT1 := hT1.ext h7
  replace hL1 := hL1.ext h7
  clear l0 c0 c1 c2 c3 hE6 h7 hs2
  obtain ⟨l0, c0, c1, c2, c3⟩ := id hT1
  rw [decide_eq_true rfl]
  go_wp2_with fail
  refine (Q8.out _ hL1).mono ?_
  rintro e w8 ⟨rfl, h8⟩
  have hE8 := hE7.trans h8
  replace hT1 := hT1.ext h8
  replace hL1 := hL1.ext h8
  clear l0 c0 c1 c2 c3 hE7 h8
  obtain ⟨l0, c0, c1, c2, c3⟩ := id hT1
  go_wp2_with fail
  refine (Q2.out _ hL1).mono ?_
  rintro e w9 ⟨rfl, h9⟩
  have hE9 := hE8.trans h9
  replace hT1 := hT1.ext h9
  replace hL1 := hL1.ext h9
  clear l0 c0 c1 c2 c3 hE8 h9
  obtain ⟨l0, c0, c1, c2, c3⟩ := id hT1
  go_wp2_with fail
  refine (QZ.out _ _ (hZ w9) (hL1.ext ((Ext.refl _).alloc _))).mono ?_
  rintro e w10 ⟨rfl, h10⟩
  have hE10 := hE9.trans (((Ext.refl w9).alloc _).trans h10)
  go_wp2
  go_ret
  exact ⟨rfl, hE10⟩

end Go.Proofs.Ytibimbcjnjefdaa
