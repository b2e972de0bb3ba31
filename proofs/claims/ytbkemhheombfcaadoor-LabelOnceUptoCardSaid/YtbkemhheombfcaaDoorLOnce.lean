/- LabelOnce, walked: what is got, or parsed, is right, and is put, or shown, as it was. -/
import Derived.Test.YtbkemhheombfcaaDoorLBackL
import Derived.Test.YtbkemhheombfcaaDoorLRight
namespace Go.Proofs.YtbkemhheombfcaaDoor
open Go.RowKit Go.Dm

set_option maxHeartbeats 4000000 in
set_option maxRecDepth 100000 in
theorem labelOnce_w (s : ByteArray) (p : Int) (t : ByteArray) (w : World) (hs : s.size ≤ 1048576) (hts : t.size ≤ 1048576) (ht : Vars w) :
    Calls Tryd.prog 7 #[.string s, .int .i64 p, .string t] w fun e w' => e = .returned (.bool true) ∧ Ext w w' := by
  have hln : s.data.toList.length = s.size := rfl
  go_enter Tryd.func7, Tryd.ntmps7
  go_wp2_with fail
  refine (lexamples_w w ht).mono ?_; rintro e w1 ⟨rfl, e1⟩
  go_wp2_with fail
  refine (lget_w s p w1 (by omega) (ht.tabs.ext e1)).mono ?_
  rintro e w2 ⟨r2, l2, n2, b2, rfl, hx2, hF2, h82, hG, h2⟩
  have e2 := e1.trans h2
  go_wp2_with fail
  refine (lparse_w t w2 (by omega) (ht.ext e2)).mono ?_
  rintro e w3 ⟨r3, l3, b3, rfl, hx3, hP, hF3, h83, h3⟩
  have e3 := e2.trans h3
  replace hx2 := hx2.ext h3
  obtain ⟨q2, cap2, rfl, hc2, hm2⟩ := hx2.shape
  obtain ⟨q3, cap3, rfl, hc3, hm3⟩ := hx3.shape
  have P3 : b3 = true → rightLab (labL l3) = true ∧ Hid (∃ T : ByteArray, (⟨(textLab (labL l3)).toArray⟩ : ByteArray) = T ∧ (T.toList == t.toList) = true) := fun h => by
    subst h
    obtain ⟨a1, a2⟩ := text_parse hP.symm
    exact ⟨a1, _, rfl, by simp [ByteArray.toList_eq, a2]⟩
  have N3 : b3 = false → ((l3.length : Int) == 0) = true := fun h => by
    subst h
    have := parse_no hP.symm
    rw [beq_iff_eq, ← labL_len, this]; rfl
  have P2 : b2 = true → ∃ q m : Nat, p = (q : Int) ∧ n2 = ((q + m : Nat) : Int) ∧ q + m ≤ s.size ∧ rightLab (labL l2) = true ∧ Hid (∃ T : ByteArray, (⟨(putLab (labL l2)).toArray⟩ : ByteArray) = T ∧ (T.toList == (s.extract q (q + m)).toList) = true) := fun h => by
    subst h
    obtain ⟨q, m, a1, a2, a3, a4, a5⟩ := getLabI_yes (u64_of (by omega)) hG
    refine ⟨q, m, a1, a2, a3, a4, _, rfl, ?_⟩
    rw [ByteArray.toList_eq, ByteArray.toList_eq, beq_iff_eq, Lib.extract_data, ← a5, Nat.add_sub_cancel_left]
  have N2 : b2 = false → ((l2.length : Int) == 0) = true ∧ n2 = 0 := fun h => by
    subst h
    obtain ⟨a1, a2⟩ := getLabI_no hG
    exact ⟨by rw [beq_iff_eq, ← labL_len, a1]; rfl, a2⟩
  have CR2 := fun U (hU : Ext w3 U) => lright_w l2 _ U (by omega) hF2 (hx2.ext hU) (ht.tabs.ext (e3.trans hU))
  have CR3 := fun U (hU : Ext w3 U) => lright_w l3 _ U (by omega) hF3 (hx3.ext hU) (ht.tabs.ext (e3.trans hU))
  have CP2 := fun U (hU : Ext w3 U) => lput_w l2 _ U (by omega) hF2 (hx2.ext hU) (ht.tabs.ext (e3.trans hU))
  have CT3 := fun U (hU : Ext w3 U) => ltext_w l3 _ U (by omega) hF3 (hx3.ext hU) (ht.tabs.ext (e3.trans hU))
  clear hG hP hx2 hx3 hF2 hF3
  cases b2 with
  | false =>
    obtain ⟨z2, rfl⟩ := N2 rfl
    clear P2 N2 CR2 CP2
    cases b3 with
    | false =>
      have z3 := N3 rfl
      clear P3 N3 CR3 CT3
      go_wp2_with fail
      refine Dm.wp_region_grow (by kernel_rfl) (by kernel_rfl) ?_
      repeat (go_big_quiet_step (fail))
      refine wpQuiet_nil ?_
      intro U hU
      go_wp2
      go_ret
      exact ⟨rfl, e3.trans hU⟩
    | true =>
      obtain ⟨a1, T, a2, a3⟩ := P3 rfl
      rw [a1] at CR3
      rw [a2] at CT3
      have CR3 := Lib.hid CR3
      have CT3 := Lib.hid CT3
      clear P3 N3 a1 a2
      go_wp2_with fail
      refine Dm.wp_region_grow (by kernel_rfl) (by kernel_rfl) ?_
      repeat (go_big_quiet_step (first
        | (go_at_call 18; with_reducible exact Calls.quietE (CR3.out _ (ext_grow _ _)))
        | (go_at_call 21; with_reducible exact Calls.quietE (CT3.out _ (ext_grow _ _)))))
      refine wpQuiet_nil ?_
      intro U hU
      go_wp2
      go_ret
      exact ⟨rfl, e3.trans hU⟩
  | true =>
    obtain ⟨q, m, rfl, rfl, hqm, a1, T, a2, a3⟩ := P2 rfl
    rw [a1] at CR2
    rw [a2] at CP2
    have CR2 := Lib.hid CR2
    have CP2 := Lib.hid CP2
    clear P2 N2 a1 a2
    have hq0 : decide ((q : Int) < 0) = false := decide_eq_false (by omega)
    have hq1 : decide ((s.size : Int) < (q : Int) + (m : Int)) = false := decide_eq_false (by omega)
    cases b3 with
    | false =>
      have z3 := N3 rfl
      clear P3 N3 CR3 CT3
      go_wp2_with fail
      refine Dm.wp_region_grow (by kernel_rfl) (by kernel_rfl) ?_
      repeat (go_big_quiet_step (first
        | (go_at_call 18; with_reducible exact Calls.quietE (CR2.out _ (ext_grow _ _)))
        | (go_at_call 20; with_reducible exact Calls.quietE (CP2.out _ (ext_grow _ _)))))
      refine wpQuiet_nil ?_
      intro U hU
      go_wp2
      go_ret
      exact ⟨rfl, e3.trans hU⟩
    | true =>
      obtain ⟨c1, T', c2, c3⟩ := P3 rfl
      rw [c1] at CR3
      rw [c2] at CT3
      have CR3 := Lib.hid CR3
      have CT3 := Lib.hid CT3
      clear P3 N3 c1 c2
      go_wp2_with fail
      refine Dm.wp_region_grow (by kernel_rfl) (by kernel_rfl) ?_
      repeat (go_big_quiet_step (first
        | (go_at_call 18; with_reducible exact Calls.quietE (CR2.out _ (ext_grow _ _)))
        | (go_at_call 20; with_reducible exact Calls.quietE (CP2.out _ (ext_grow _ _)))
        | (go_at_call 18; with_reducible exact Calls.quietE (CR3.out _ (ext_grow _ _)))
        | (go_at_call 21; with_reducible exact Calls.quietE (CT3.out _ (ext_grow _ _)))))
      refine wpQuiet_nil ?_
      intro U hU
      go_wp2
      go_ret
      exact ⟨rfl, e3.trans hU⟩

theorem labelOnce_t (s : ByteArray) (p : Int) (t : ByteArray) (w : World) (hs : s.size ≤ 1048576) (hts : t.size ≤ 1048576) (ht : Vars w) :
    Calls Tryd.prog 7 #[.string s, .int .i64 p, .string t] w fun e w' => e = .returned (.bool true) ∧ Ext w w' := labelOnce_w s p t w hs hts ht

end Go.Proofs.YtbkemhheombfcaaDoor
