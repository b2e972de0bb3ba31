/- QueuePlaces holds: each stands at its place, who is not there has none; no condition. -/
import Derived.Test.YtgkjpablofckjaaQRight
namespace Go.Proofs.Ytgkjpablofckjaa
open Go.RowKit Go.Dm

theorem takeF_none {q : List Ent} {id : Int} (h : idxOf id q = none) : takeF q id = (q, false) := by simp [takeF, h]
theorem takeF_some {q : List Ent} {id : Int} {k : Nat} (h : idxOf id q = some k) : takeF q id = (q.take k ++ q.drop (k + 1), true) := by simp [takeF, h]

set_option maxHeartbeats 4000000 in
set_option maxRecDepth 100000 in
theorem placesLaw_w (l : List Ent) (id : Int) (v : Value) (w : World) (hm : l.length ≤ 8796093022208) (hx : Ents w v l) :
    Calls Try.prog 7 #[v, .int .u64 id] w fun e w' => e = .returned (.bool true) ∧ Ext w w' := by
  obtain ⟨q, cap, rfl, hcap, hcm⟩ := hx.shape
  have H0 := Lib.hid (pushedF_good l)
  have hl0 := H0.out.len
  go_enter Try.func7, Try.ntmps7
  go_wp2_with fail
  refine (examples_w _).mono ?_; rintro e w1 ⟨rfl, hb1⟩
  go_wp2_with fail
  refine (pushed_w l _ _ hm (hx.ext hb1)).mono ?_; rintro e w2 ⟨r, rfl, hr2, hb2⟩
  have hw := hb1.trans hb2
  clear hb1 hb2
  obtain ⟨Q, hQ⟩ : ∃ Q, Q = pushedF l := ⟨_, rfl⟩
  rw [← hQ] at hr2 H0 hl0
  clear hQ
  obtain ⟨rq, rcap, rfl, hrcap, hrcm⟩ := hr2.shape
  go_wp2
  go_loopw [7, 8] (fun m i' wr => ∃ i : Nat, i ≤ Q.length ∧ i' = .int .i64 i ∧ Ext w2 wr ∧ Hid ((m = .int .i64 (-1) ∧ ∀ j, j < i → ((ent Q j).1 == id) = false) ∨ ∃ j : Nat, j < i ∧ m = .int .i64 j ∧ ((ent Q j).1 == id) = true)) (fun _ i' _ => Q.length - (intOf i').toNat)
  case atStart => exact ⟨0, by omega, rfl, Ext.refl _, Or.inl ⟨rfl, fun j hj => by omega⟩⟩
  case round =>
    obtain ⟨i, hi, rfl, hbi, HM⟩ := hrel
    by_cases hlt : i < Q.length
    · have hxr := hr2.ext hbi
      obtain ⟨b', off, rfl, hbl, c0, c1⟩ := hxr.at hlt
      have C := place_w Q (ent Q i).1 _ _ (by omega) hxr
      rw [H0.out.place hlt] at C
      go_wp2_with fail
      refine C.mono ?_; rintro e w3 ⟨rfl, hb3⟩
      have hxr3 := hxr.ext hb3
      clear hbl c0 c1
      obtain ⟨hbl, c0, c1⟩ := hxr3.cells hlt
      simp only [optI]
      cases h1 : ((ent Q i).1 == id) with
      | true =>
        go_wp2
        go_roundw
        case rel => exact ⟨i + 1, by omega, by go_num, hbi.trans hb3, Or.inr ⟨i, by omega, rfl, h1⟩⟩
        case measure => simp [intOf]; omega
      | false =>
        go_wp2
        go_roundw
        case rel => exact ⟨i + 1, by omega, by go_num, hbi.trans hb3, by
          rcases HM.out with ⟨rfl, HN⟩ | ⟨j, hj, rfl, hjv⟩
          · exact Or.inl ⟨rfl, fun j hj => by
              rcases Nat.lt_succ_iff_lt_or_eq.1 hj with h | rfl
              · exact HN j h
              · exact h1⟩
          · exact Or.inr ⟨j, by omega, rfl, hjv⟩⟩
        case measure => simp [intOf]; omega
    · obtain rfl : i = Q.length := by omega
      have hxr := hr2.ext hbi
      rcases HM.out with ⟨rfl, HN⟩ | ⟨j, hj, rfl, hjv⟩
      · have hno := idxOf_miss HN
        clear HN HM
        go_wp2_with fail
        refine (take_w Q id _ _ (by omega) hxr).mono ?_; rintro e w4 ⟨t, rfl, ht4, hb4⟩
        rw [takeF_none hno] at ht4 ⊢
        go_wp2_with fail
        refine (place_w Q id _ _ (by omega) (hxr.ext hb4)).mono ?_; rintro e w5 ⟨rfl, hb5⟩
        rw [hno]
        simp only [optI]
        go_wp2_with fail
        refine (same_w Q Q _ _ _ (by omega) (ht4.ext hb5) (hxr.ext (hb4.trans hb5))).mono ?_; rintro e w6 ⟨rfl, hb6⟩
        rw [decide_eq_true rfl]
        go_wp2
        go_ret
        exact ⟨rfl, hw.trans (hbi.trans (hb4.trans (hb5.trans hb6)))⟩
      · have he : (ent Q j).1 = id := by simpa using hjv
        have hno := H0.out.place hj
        rw [he] at hno
        clear HM hjv
        go_wp2_with fail
        refine (take_w Q id _ _ (by omega) hxr).mono ?_; rintro e w4 ⟨t, rfl, ht4, hb4⟩
        rw [takeF_some hno] at ht4 ⊢
        go_wp2_with fail
        refine (place_w Q id _ _ (by omega) (hxr.ext hb4)).mono ?_; rintro e w5 ⟨rfl, hb5⟩
        rw [hno]
        simp only [optI]
        go_wp2
        go_ret
        exact ⟨rfl, hw.trans (hbi.trans (hb4.trans hb5))⟩

open Go.ChangeShapes Go.WideShapes Go.ChangeAt in
set_option maxRecDepth 100000 in
theorem queuePlaces_lifted (os : Os) (started : os.Started) (H : Type) (enc : TypeId × Value → H) :
    ReturnsInHanded {} Try.checked os 7 .any (Rows.queuePlacesSpec.pre6 enc Try.prog Try.f7 Rows.queuePlacesRow.domain false) (Rows.queuePlacesSpec.post enc Try.prog Try.f7 false true false false) := by
  refine returnsInHanded_of_change_sized (C := Try.checked) Try.own started (by kernel_rfl) Try.func7
    (ChangeSpec.witness6 (enc := enc) (C := Try.checked) false ⟨#[], #[.slice none 0 0, .int .u64 0], []⟩ 8 (by kernel_rfl) (by kernel_rfl) (by kernel_rfl) (by kernel_rfl)) ?_
  intro W base args ds gs before hval0 hW hcnd hsz0 _
  have hsz : (DataW.weightsEach Try.prog (Try.f7.params.toList ++ Rows.queuePlacesSpec.plain.varTypes Try.prog) (ds ++ gs)).all (· ≤ reachBytes) = true := hsz0
  clear hsz0
  have hval : ∀ (j : Nat) t v, Try.f7.params[j]? = some t → args[j]? = some v → Value.okWide Try.prog W .any base t v := hval0
  have hW' := hW
  obtain ⟨p, q, hA0, hV, rfl, hfz, hnd⟩ := hW
  have hA : DataW.TrodAll enc Try.prog W 0 (fun _ => true) true Try.f7.params.toList args.toList ds p := hA0
  rw [Try.params7] at hA hval hsz
  obtain ⟨v0, vs0, d0, ds0, p0, q0, hargs, rfl, rfl, h0, r0⟩ := trodAll_cons hA
  obtain ⟨v1, vs1, d1, ds1, p1, q1, rfl, rfl, rfl, h1, r1⟩ := trodAll_cons r0
  obtain ⟨rfl, rfl, rfl⟩ := trodAll_nil r1
  obtain rfl : args = #[v0, v1] := by cases args; simp_all
  obtain ⟨rfl, rfl⟩ := trodVars_none hV
  have k0 := h0
  have lt0 : ∀ x ∈ p0, x.block < W.heap.size := by obtain ⟨m, hm⟩ := k0; exact DataW.trod_lt m _ _ _ hm
  have k1 := h1
  have lt1 : ∀ x ∈ p1, x.block < W.heap.size := by obtain ⟨m, hm⟩ := k1; exact DataW.trod_lt m _ _ _ hm
  obtain ⟨a0, len0, cap0, rfl⟩ := okWide_slice Try.underlying22 (hval 0 22 v0 rfl rfl)
  obtain ⟨xs0, hx0, hm0⟩ := Try.openEnts (j := 0) hsz rfl rfl h0
  obtain ⟨z1, rfl, _, _, wf1⟩ := open_int Try.underlying23 (hval 1 23 v1 rfl rfl) h1
  clear hA0 hval0
  refine (placesLaw_w xs0 z1 _ W hm0 hx0).mono fun e W' ⟨he, bel⟩ => ?_
  subst he
  exact ⟨_, rfl, _, _, _, [], _, [], hW', trodAll_mk1 (shut_bool Try.underlying4 _), (trodAll_cons_mk (Below.trod Try.laidOut (by kernel_rfl) (of_decide_eq_true (by kernel_rfl)) k0 bel lt0) (trodAll_cons_mk (Below.trod Try.laidOut (by kernel_rfl) (of_decide_eq_true (by kernel_rfl)) k1 bel lt1) trodAll_mk0)), rfl, Below.frame bel _, fun h => by cases h⟩

theorem queuePlaces_holds : Rows.QueuePlacesSaid :=
  OpenClaim.holds_of_wide 7 Try.f7 rfl rfl rfl rfl rfl rfl rfl ⟨rfl, rfl, rfl, rfl, rfl⟩ rfl rfl rfl rfl rfl (by kernel_rfl) Try.func7 (by kernel_rfl)
    (of_decide_eq_true (by kernel_rfl)) (by unfold Func.isWrapper; first | (rw [if_pos (by decide +kernel)]; kernel_rfl) | (rw [if_neg (by decide +kernel)]; exact ⟨rfl, rfl⟩))
    (fun os started H enc _ => queuePlaces_lifted os started H enc)

end Go.Proofs.Ytgkjpablofckjaa
