/- Chapter 14: the walk of the examples. -/
import Derived.Test.YtgkjpablofckjaaQWalkG
namespace Go.Proofs.Ytgkjpablofckjaa
open Go.RowKit Go.Dm

set_option maxHeartbeats 3000000 in
set_option maxRecDepth 100000 in
theorem examples_w (w : World) :
    Calls Try.prog 9 #[] w fun e w' => e = .returned (.bool true) ∧ Ext w w' := by
  have e1 : pushF [] (5, 3) = ([(5, 3)], 0) := by decide
  have e2 : pushF [(5, 3)] (4, 3) = ([(4, 3), (5, 3)], 0) := by decide
  have e3 : pushF [(4, 3), (5, 3)] (9, 7) = ([(9, 7), (4, 3), (5, 3)], 0) := by decide
  have e4 : pushF [(9, 7), (4, 3), (5, 3)] (9, 1) = ([(9, 7), (4, 3), (5, 3)], 8) := by decide
  have e5 : pushF [(9, 7), (4, 3), (5, 3)] (1, 10) = ([(9, 7), (4, 3), (5, 3)], 1) := by decide
  have e6 : takeF [(9, 7), (4, 3), (5, 3)] 4 = ([(9, 7), (5, 3)], true) := by decide
  have h1 := push_w [] 5 3 _ w (by simp) (Ents.nil w)
  rw [e1] at h1
  have H2 := Lib.hid e2; have H3 := Lib.hid e3; have H4 := Lib.hid e4; have H5 := Lib.hid e5; have H6 := Lib.hid e6
  clear e1 e2 e3 e4 e5 e6
  have H1 := Lib.hid h1; clear h1
  go_enter Try.func9, Try.ntmps9
  go_wp2_with fail
  refine H1.out.mono ?_; rintro e w1 ⟨r1, rfl, hx1, hb1⟩
  have h2 := push_w [(5, 3)] 4 3 _ w1 (by simp) hx1
  rw [H2.out] at h2
  replace H2 := Lib.hid h2; clear h2
  go_wp2_with fail
  refine H2.out.mono ?_; rintro e w2 ⟨r2, rfl, hx2, hb2⟩
  have h3 := push_w [(4, 3), (5, 3)] 9 7 _ w2 (by simp) hx2
  rw [H3.out] at h3
  replace H3 := Lib.hid h3; clear h3
  go_wp2_with fail
  refine H3.out.mono ?_; rintro e w3 ⟨r3, rfl, hx3, hb3⟩
  obtain ⟨q, cap, rfl, _, _⟩ := hx3.shape
  have h4 := push_w [(9, 7), (4, 3), (5, 3)] 9 1 _ w3 (by simp) hx3
  rw [H4.out] at h4
  replace H4 := Lib.hid h4; clear h4
  go_wp2_with fail
  refine H4.out.mono ?_; rintro e w4 ⟨r4, rfl, _, hb4⟩
  have h5 := push_w [(9, 7), (4, 3), (5, 3)] 1 10 _ w4 (by simp) (hx3.ext hb4)
  rw [H5.out] at h5
  replace H5 := Lib.hid h5; clear h5
  go_wp2_with fail
  refine H5.out.mono ?_; rintro e w5 ⟨r5, rfl, _, hb5⟩
  have h6 := take_w [(9, 7), (4, 3), (5, 3)] 4 _ w5 (by simp) ((hx3.ext hb4).ext hb5)
  rw [H6.out] at h6
  replace H6 := Lib.hid h6; clear h6
  go_wp2_with fail
  refine H6.out.mono ?_; rintro e W ⟨r6, rfl, hx6, hb6⟩
  obtain ⟨q', cap', rfl, _, _⟩ := hx6.shape
  have hbW := ((hb4.trans hb5).trans hb6)
  have hx := hx3.ext hbW
  have f0 := hx.at (k := 0) (by decide)
  obtain ⟨b, off, rfl, hbl, c0, c1⟩ := f0
  have c2 := (hx.cells (k := 1) (by decide)).2.1
  have c3 := (hx.cells (k := 1) (by decide)).2.2
  have c4 := (hx.cells (k := 2) (by decide)).2.1
  have c5 := (hx.cells (k := 2) (by decide)).2.2
  obtain ⟨b', off', rfl, hbl', d0, d1⟩ := hx6.at (k := 1) (by decide)
  simp only [ent, List.getD_cons_succ, List.getD_cons_zero, Nat.zero_mul, Nat.add_zero, Nat.one_mul, Nat.reduceMul, Nat.add_assoc, Nat.reduceAdd] at c0 c1 c2 c3 c4 c5 d0 d1
  have HP5 : Hid (∀ U, Ext W U → Calls Try.prog 16 #[.slice (some ⟨b, off, none⟩) 3 cap, .int .u64 5] U fun e w' => e = .returned (.int .i64 2) ∧ Ext U w') := fun U h => place_w [(9, 7), (4, 3), (5, 3)] 5 _ U (by simp) (hx.ext h)
  have HP6 : Hid (∀ U, Ext W U → Calls Try.prog 16 #[.slice (some ⟨b, off, none⟩) 3 cap, .int .u64 6] U fun e w' => e = .returned (.int .i64 (-1)) ∧ Ext U w') := fun U h => place_w [(9, 7), (4, 3), (5, 3)] 6 _ U (by simp) (hx.ext h)
  have HR : Hid (∀ U, Ext W U → Calls Try.prog 18 #[.slice (some ⟨b, off, none⟩) 3 cap] U fun e w' => e = .returned (.bool true) ∧ Ext U w') := fun U h => by
    have := right_w [(9, 7), (4, 3), (5, 3)] _ U (by simp) (hx.ext h)
    rwa [show rightB [(9, 7), (4, 3), (5, 3)] = true by decide] at this
  have HA1 : Hid (∀ U, Calls Try.prog 20 #[.agg #[.int .u64 9, .int .i64 7], .agg #[.int .u64 4, .int .i64 3]] U fun e w' => e = .returned (.bool true) ∧ Ext U w') := fun U => ahead_w 9 7 4 3 U
  have HA2 : Hid (∀ U, Calls Try.prog 20 #[.agg #[.int .u64 5, .int .i64 3], .agg #[.int .u64 4, .int .i64 3]] U fun e w' => e = .returned (.bool false) ∧ Ext U w') := fun U => ahead_w 5 3 4 3 U
  clear hx hx3 hx6
  go_wp2_with fail
  simp only [List.append_eq, List.cons_append, List.nil_append]
  refine Dm.wp_region_grow (by kernel_rfl) (by kernel_rfl) ?_
  repeat (go_big_quiet_step (first
    | (go_at_call 16; (first | with_reducible exact Calls.quietE (HP5.out _ (ext_grow _ _)) | with_reducible exact Calls.quietE (HP6.out _ (ext_grow _ _))))
    | (go_at_call 18; with_reducible exact Calls.quietE (HR.out _ (ext_grow _ _)))
    | (go_at_call 20; (first | with_reducible exact Calls.quietE (HA1.out _) | with_reducible exact Calls.quietE (HA2.out _)))))
  refine wpQuiet_nil ?_
  intro U hU
  go_wp2
  go_ret
  exact ⟨rfl, (((hb1.trans hb2).trans hb3).trans hbW).trans hU⟩

end Go.Proofs.Ytgkjpablofckjaa
