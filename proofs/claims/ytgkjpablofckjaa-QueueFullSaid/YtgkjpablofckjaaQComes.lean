/- QueueComes holds: who goes and comes back stands where they stood; who comes in another order stands in the same; no condition. -/
import Derived.Test.YtgkjpablofckjaaQPlaces
namespace Go.Proofs.Ytgkjpablofckjaa
open Go.RowKit Go.Dm

theorem pushF_nil {e : Ent} (h : wrongB e = false) : (pushF [] e).1 = [e] := by simp [pushF, h, idxOf, placeF]

set_option maxHeartbeats 4000000 in
set_option maxRecDepth 100000 in
theorem comesLaw_w (l : List Ent) (n : Int) (v : Value) (w : World) (hm : l.length ≤ 8796093022208) (hx : Ents w v l) (hn : 0 ≤ n ∧ n ≤ 255) :
    Calls Try.prog 6 #[v, .int .u8 n] w fun e w' => e = .returned (.bool true) ∧ Ext w w' := by
  obtain ⟨q, cap, rfl, hcap, hcm⟩ := hx.shape
  have H0 := Lib.hid (pushedF_good l)
  have hl0 := H0.out.len
  go_enter Try.func6, Try.ntmps6
  go_wp2_with fail
  refine (examples_w _).mono ?_; rintro e w1 ⟨rfl, hb1⟩
  go_wp2_with fail
  refine (pushed_w l _ _ hm (hx.ext hb1)).mono ?_; rintro e w2 ⟨r, rfl, hr2, hb2⟩
  have hw := hb1.trans hb2
  clear hb1 hb2
  obtain ⟨Q, hQ⟩ : ∃ Q, Q = pushedF l := ⟨_, rfl⟩
  rw [← hQ] at hr2 H0 hl0
  clear hQ
  obtain ⟨rq, rcap, rfl, hrcap, hrcm⟩ := hr2.shape
  by_cases hz : Q.length = 0
  · have h0 : ((Q.length : Int) == 0) = true := by simp [hz]
    clear hz
    go_wp2
    go_ret
    exact ⟨rfl, hw⟩
  · have h0 : ((Q.length : Int) == 0) = false := by rw [beq_eq_false_iff_ne]; omega
    obtain ⟨k, hk, hkq⟩ : ∃ k : Nat, k < Q.length ∧ n.tmod Q.length = (k : Int) := by
      refine ⟨(n.tmod Q.length).toNat, ?_, ?_⟩
      · have := Int.tmod_lt_of_pos n (show (0 : Int) < Q.length by omega)
        omega
      · have := Int.tmod_nonneg (Q.length : Int) hn.1
        omega
    obtain ⟨b, off, rfl, hbl, c0, c1⟩ := hr2.at hk
    obtain ⟨T, hT⟩ : ∃ T, T = Q.take k ++ Q.drop (k + 1) := ⟨_, rfl⟩
    have hTl : T.length + 1 = Q.length := by
      rw [hT]; simp only [List.length_append, List.length_take, List.length_drop]; omega
    obtain ⟨B1, B2, B3⟩ := H0.out.back hk
    rw [← hT] at B1 B2 B3
    clear hT
    have hlT : ((T.length : Int) == (Q.length : Int) - 1) = true := by rw [beq_iff_eq]; omega
    have hal : Ext w2 (w2.alloc (.cells #[.int .u64 (ent Q k).1, .int .i64 (ent Q k).2] 25)) := (Ext.refl w2).alloc _
    go_wp2_with fail
    refine (take_w Q _ _ _ (by omega) (hr2.ext hal)).mono ?_; rintro e w3 ⟨t, rfl, ht, hb3⟩
    rw [B1] at ht ⊢
    obtain ⟨p, tcap, rfl, htcap, htcm⟩ := ht.shape
    obtain ⟨gs, g⟩ := hb3.box
    have g0 := g 0 _ rfl
    have g1 := g 1 _ rfl
    clear g
    go_wp2_with fail
    refine (push_w T (ent Q k).1 (ent Q k).2 _ _ (by omega) ht).mono ?_; rintro e w4 ⟨u, rfl, hu, hb4⟩
    rw [show pushF T ((ent Q k).1, (ent Q k).2) = (Q, 0) from B2] at hu ⊢
    have hw4 := hal.trans (hb3.trans hb4)
    clear gs g0 g1
    go_wp2
    go_loopw [12, 13] (fun r i' wr => ∃ i : Nat, i ≤ Q.length ∧ i' = .int .i64 ((i : Int) - 1) ∧ Ext w4 wr ∧ Ents wr r (Q.drop i)) (fun _ i' _ => (intOf i' + 1).toNat)
    case atStart => exact ⟨Q.length, by omega, rfl, Ext.refl _, by rw [List.drop_length]; exact Ents.nil _⟩
    case round =>
      obtain ⟨i, hi, hiv, hbi, ho⟩ := hrel
      cases i with
      | succ j =>
        rw [show ((j + 1 : Nat) : Int) - 1 = (j : Int) by omega] at hiv
        subst hiv
        have hxr := hr2.ext (hw4.trans hbi)
        obtain ⟨hbl, c0, c1⟩ := hxr.cells (show j < Q.length by omega)
        have hTu := H0.out.turned (show j < Q.length by omega)
        have hdl : (Q.drop (j + 1)).length ≤ 32 := by rw [List.length_drop]; omega
        go_wp2_with fail
        refine (push_w _ (ent Q j).1 (ent Q j).2 _ _ (by omega) ho).mono ?_; rintro e w5 ⟨r5, rfl, hr5, hb5⟩
        rw [show (pushF (Q.drop (j + 1)) ((ent Q j).1, (ent Q j).2)).1 = Q.drop j from hTu] at hr5
        go_wp2
        go_roundw
        case rel => exact ⟨j, by omega, by go_num, hbi.trans hb5, hr5⟩
        case measure => simp [intOf]
      | zero =>
        rw [show ((0 : Nat) : Int) - 1 = -1 by omega] at hiv
        subst hiv
        rw [List.drop_zero] at ho
        have hb4r := hb4.trans hbi
        have hxr := hr2.ext (hw4.trans hbi)
        go_wp2_with fail
        refine (same_w Q Q _ _ _ (by omega) (hu.ext hbi) hxr).mono ?_; rintro e w5 ⟨rfl, hb5⟩
        rw [decide_eq_true rfl]
        go_wp2_with fail
        refine (same_w Q Q _ _ _ (by omega) (ho.ext hb5) (hxr.ext hb5)).mono ?_; rintro e w6 ⟨rfl, hb6⟩
        rw [decide_eq_true rfl]
        obtain ⟨gs, g⟩ := (hb3.trans (hb4r.trans (hb5.trans hb6))).box
        have g0 := g 0 _ rfl
        have g1 := g 1 _ rfl
        clear g
        go_wp2_with fail
        refine (place_w T _ _ _ (by omega) (ht.ext (hb4r.trans (hb5.trans hb6)))).mono ?_; rintro e w7 ⟨rfl, hb7⟩
        rw [B3]
        simp only [optI]
        go_wp2
        go_ret
        exact ⟨rfl, hw.trans (hw4.trans (hbi.trans (hb5.trans (hb6.trans hb7))))⟩

open Go.ChangeShapes Go.WideShapes Go.ChangeAt in
set_option maxRecDepth 100000 in
theorem queueComes_lifted (os : Os) (started : os.Started) (H : Type) (enc : TypeId × Value → H) :
    ReturnsInHanded {} Try.checked os 6 .any (Rows.queueComesSpec.pre6 enc Try.prog Try.f6 Rows.queueComesRow.domain false) (Rows.queueComesSpec.post enc Try.prog Try.f6 false true false false) := by
  refine returnsInHanded_of_change_sized (C := Try.checked) Try.own started (by kernel_rfl) Try.func6
    (ChangeSpec.witness6 (enc := enc) (C := Try.checked) false ⟨#[], #[.slice none 0 0, .int .u8 0], []⟩ 8 (by kernel_rfl) (by kernel_rfl) (by kernel_rfl) (by kernel_rfl)) ?_
  intro W base args ds gs before hval0 hW hcnd hsz0 _
  have hsz : (DataW.weightsEach Try.prog (Try.f6.params.toList ++ Rows.queueComesSpec.plain.varTypes Try.prog) (ds ++ gs)).all (· ≤ reachBytes) = true := hsz0
  clear hsz0
  have hval : ∀ (j : Nat) t v, Try.f6.params[j]? = some t → args[j]? = some v → Value.okWide Try.prog W .any base t v := hval0
  have hW' := hW
  obtain ⟨p, q, hA0, hV, rfl, hfz, hnd⟩ := hW
  have hA : DataW.TrodAll enc Try.prog W 0 (fun _ => true) true Try.f6.params.toList args.toList ds p := hA0
  rw [Try.params6] at hA hval hsz
  obtain ⟨v0, vs0, d0, ds0, p0, q0, hargs, rfl, rfl, h0, r0⟩ := trodAll_cons hA
  obtain ⟨v1, vs1, d1, ds1, p1, q1, rfl, rfl, rfl, h1, r1⟩ := trodAll_cons r0
  obtain ⟨rfl, rfl, rfl⟩ := trodAll_nil r1
  obtain rfl : args = #[v0, v1] := by cases args; simp_all
  obtain ⟨rfl, rfl⟩ := trodVars_none hV
  have k0 := h0
  have lt0 : ∀ x ∈ p0, x.block < W.heap.size := by obtain ⟨m, hm⟩ := k0; exact DataW.trod_lt m _ _ _ hm
  have k1 := h1
  have lt1 : ∀ x ∈ p1, x.block < W.heap.size := by obtain ⟨m, hm⟩ := k1; exact DataW.trod_lt m _ _ _ hm
  obtain ⟨a0, len0, cap0, rfl⟩ := okWide_slice Try.underlying22 (hval 0 22 v0 rfl rfl)
  obtain ⟨xs0, hx0, hm0⟩ := Try.openEnts (j := 0) hsz rfl rfl h0
  obtain ⟨z1, rfl, _, _, wf1⟩ := open_int Try.underlying5 (hval 1 5 v1 rfl rfl) h1
  have rg1 : 0 ≤ z1 ∧ z1 ≤ 255 := by
    have h := wf1
    simp [Lit.wf, IntKind.min, IntKind.max, IntKind.signed, IntKind.bits] at h
    omega
  clear hA0 hval0
  refine (comesLaw_w xs0 z1 _ W hm0 hx0 rg1).mono fun e W' ⟨he, bel⟩ => ?_
  subst he
  exact ⟨_, rfl, _, _, _, [], _, [], hW', trodAll_mk1 (shut_bool Try.underlying4 _), (trodAll_cons_mk (Below.trod Try.laidOut (by kernel_rfl) (of_decide_eq_true (by kernel_rfl)) k0 bel lt0) (trodAll_cons_mk (Below.trod Try.laidOut (by kernel_rfl) (of_decide_eq_true (by kernel_rfl)) k1 bel lt1) trodAll_mk0)), rfl, Below.frame bel _, fun h => by cases h⟩

theorem queueComes_holds : Rows.QueueComesSaid :=
  OpenClaim.holds_of_wide 6 Try.f6 rfl rfl rfl rfl rfl rfl rfl ⟨rfl, rfl, rfl, rfl, rfl⟩ rfl rfl rfl rfl rfl (by kernel_rfl) Try.func6 (by kernel_rfl)
    (of_decide_eq_true (by kernel_rfl)) (by unfold Func.isWrapper; first | (rw [if_pos (by decide +kernel)]; kernel_rfl) | (rw [if_neg (by decide +kernel)]; exact ⟨rfl, rfl⟩))
    (fun os started H enc _ => queueComes_lifted os started H enc)

end Go.Proofs.Ytgkjpablofckjaa
