/- QueueTells holds: of any queue, any entries the program answers as the reference does; no condition. -/
import Derived.Test.YtgkjpablofckjaaQOpen
namespace Go.Proofs.Ytgkjpablofckjaa
open Go.RowKit Go.Dm

theorem takeF_len (q : List Ent) (id : Int) : (takeF q id).1.length ≤ q.length := by
  unfold takeF
  split
  · simp
  · rename_i k hk
    have := idxOf_lt hk
    simp only [List.length_append, List.length_take, List.length_drop]; omega

theorem pushF_len' (q : List Ent) (e : Ent) : (pushF q e).1.length ≤ q.length ∨ (pushF q e).1.length ≤ 32 := by
  by_cases h : q.length ≤ 32
  · exact Or.inr (pushF_len q e h)
  · left
    unfold pushF
    split
    · simp
    · split
      · simp
      · rw [if_pos (by omega)]; simp

set_option maxHeartbeats 4000000 in
set_option maxRecDepth 100000 in
theorem tells_w (xs : List Ent) (a b : Ent) (id : Int) (v : Value) (w : World) (hm : xs.length ≤ 8796093022208) (hx : Ents w v xs) :
    Calls Try.prog 3 #[v, .agg #[.int .u64 a.1, .int .i64 a.2], .agg #[.int .u64 b.1, .int .i64 b.2], .int .u64 id] w
      fun e w' => e = .returned (.bool true) ∧ Ext w w' := by
  obtain ⟨q, cap, rfl, hcap, hcm⟩ := hx.shape
  have hb0 : Ext w ((w.alloc (.cells #[.int .u64 a.1, .int .i64 a.2] 25)).alloc (.cells #[.int .u64 b.1, .int .i64 b.2] 25)) := ((Ext.refl w).alloc _).alloc _
  go_enter Try.func3, Try.ntmps3
  go_wp2_with fail
  refine (examples_w _).mono ?_; rintro e w1 ⟨rfl, hb1⟩
  go_wp2_with fail
  refine (refQ_w xs _ _ hm (hx.ext (hb0.trans hb1))).mono ?_; rintro e w2 ⟨r, rfl, hr2, hb2⟩
  obtain ⟨rq, rcap, rfl, _, _⟩ := hr2.shape
  have hA : Ext (w.alloc (.cells #[.int .u64 a.1, .int .i64 a.2] 25)) w2 := Ext.trans ((Ext.refl _).alloc _) (hb1.trans hb2)
  have hB : Ext ((w.alloc (.cells #[.int .u64 a.1, .int .i64 a.2] 25)).alloc (.cells #[.int .u64 b.1, .int .i64 b.2] 25)) w2 := hb1.trans hb2
  obtain ⟨gs, g⟩ := hA.box
  have g0 := g 0 _ rfl
  have g1 := g 1 _ rfl
  clear g
  go_wp2_with fail
  refine (push_w xs a.1 a.2 _ _ hm (hx.ext (hb0.trans hB))).mono ?_; rintro e w3 ⟨x, rfl, hx3, hb3⟩
  clear g0 g1 gs
  obtain ⟨gs, g⟩ := (hA.trans hb3).box
  have g0 := g 0 _ rfl
  have g1 := g 1 _ rfl
  clear g
  go_wp2_with fail
  refine (rpush_w xs a.1 a.2 _ _ hm (hr2.ext hb3)).mono ?_; rintro e w4 ⟨y, rfl, hy4, hb4⟩
  clear g0 g1 gs
  go_wp2_with fail
  refine (take_w xs id _ _ hm (hx.ext (hb0.trans (hB.trans (hb3.trans hb4))))).mono ?_; rintro e w5 ⟨t, rfl, ht5, hb5⟩
  go_wp2_with fail
  refine (rtake_w xs id _ _ hm (hr2.ext (hb3.trans (hb4.trans hb5)))).mono ?_; rintro e W ⟨u, rfl, hu6, hb6⟩
  have hw5 := hb5.trans hb6
  have hw4 := hb4.trans hw5
  have hw3 := hb3.trans hw4
  have fin := hb0.trans (hB.trans hw3)
  have HP := pushF_len' xs (a.1, a.2)
  have HT := takeF_len xs id
  have C1 : Hid (∀ U, Ext W U → Calls Try.prog 15 #[x, y] U fun e w' => e = .returned (.bool true) ∧ Ext U w') := fun U h => by
    have := sameQ_w (pushF xs (a.1, a.2)).1 (pushF xs (a.1, a.2)).1 x y U (by have := HP; rcases this with h | h <;> omega) (hx3.ext (hw4.trans h)) (hy4.ext (hw5.trans h))
    rwa [decide_eq_true rfl] at this
  have C2 : Hid (∀ U, Ext W U → Calls Try.prog 15 #[t, u] U fun e w' => e = .returned (.bool true) ∧ Ext U w') := fun U h => by
    have := sameQ_w (takeF xs id).1 (takeF xs id).1 t u U (by omega) (ht5.ext (hb6.trans h)) (hu6.ext h)
    rwa [decide_eq_true rfl] at this
  have C3 : Hid (∀ U, Ext W U → Calls Try.prog 16 #[.slice q xs.length cap, .int .u64 id] U fun e w' => e = .returned (.int .i64 (optI (idxOf id xs))) ∧ Ext U w') := fun U h => place_w xs id _ U (by omega) (hx.ext (fin.trans h))
  have C4 : Hid (∀ U, Ext W U → Calls Try.prog 17 #[.slice rq xs.length rcap, .int .u64 id] U fun e w' => e = .returned (.int .i64 (optI (idxOf id xs))) ∧ Ext U w') := fun U h => rplace_w xs id _ U (by omega) (hr2.ext (hw3.trans h))
  have C5 : Hid (∀ U, Ext W U → Calls Try.prog 18 #[.slice q xs.length cap] U fun e w' => e = .returned (.bool (rightB xs)) ∧ Ext U w') := fun U h => right_w xs _ U hm (hx.ext (fin.trans h))
  have C6 : Hid (∀ U, Ext W U → Calls Try.prog 19 #[.slice rq xs.length rcap] U fun e w' => e = .returned (.bool (rightB xs)) ∧ Ext U w') := fun U h => rright_w xs _ U hm (hr2.ext (hw3.trans h))
  obtain ⟨gs, g⟩ := (hA.trans hw3).box
  have g0 := g 0 _ rfl
  have g1 := g 1 _ rfl
  clear g
  obtain ⟨gs', g'⟩ := (hB.trans hw3).box
  have g2 := g' 0 _ rfl
  have g3 := g' 1 _ rfl
  clear g'
  simp only [World.size_alloc] at gs' g2 g3
  clear HP HT hx3 hy4 ht5 hu6
  go_wp2_with fail
  try simp only [List.append_eq, List.cons_append, List.nil_append]
  refine Dm.wp_region_grow (by kernel_rfl) (by kernel_rfl) ?_
  repeat (go_big_quiet_step (first
    | (go_at_call 15; (first | with_reducible exact Calls.quietE (C1.out _ (ext_grow _ _)) | with_reducible exact Calls.quietE (C2.out _ (ext_grow _ _))))
    | (go_at_call 16; with_reducible exact Calls.quietE (C3.out _ (ext_grow _ _)))
    | (go_at_call 17; with_reducible exact Calls.quietE (C4.out _ (ext_grow _ _)))
    | (go_at_call 18; with_reducible exact Calls.quietE (C5.out _ (ext_grow _ _)))
    | (go_at_call 19; with_reducible exact Calls.quietE (C6.out _ (ext_grow _ _)))
    | (go_at_call 20; exact Calls.quietE (ahead_w _ _ _ _ _))
    | (go_at_call 21; exact Calls.quietE (rahead_w _ _ _ _ _))))
  refine wpQuiet_nil ?_
  intro U hU
  go_wp2
  go_ret
  exact ⟨rfl, fin.trans hU⟩

open Go.ChangeShapes Go.WideShapes Go.ChangeAt in
set_option maxRecDepth 100000 in
theorem queueTells_lifted (os : Os) (started : os.Started) (H : Type) (enc : TypeId × Value → H) :
    ReturnsInHanded {} Try.checked os 3 .any (Rows.queueTellsSpec.pre6 enc Try.prog Try.f3 Rows.queueTellsRow.domain false) (Rows.queueTellsSpec.post enc Try.prog Try.f3 false true false false) := by
  refine returnsInHanded_of_change_sized (C := Try.checked) Try.own started (by kernel_rfl) Try.func3
    (ChangeSpec.witness6 (enc := enc) (C := Try.checked) false ⟨#[], #[.slice none 0 0, .agg #[.int .u64 0, .int .i64 0], .agg #[.int .u64 0, .int .i64 0], .int .u64 0], []⟩ 8 (by kernel_rfl) (by kernel_rfl) (by kernel_rfl) (by kernel_rfl)) ?_
  intro W base args ds gs before hval0 hW hcnd hsz0 _
  have hsz : (DataW.weightsEach Try.prog (Try.f3.params.toList ++ Rows.queueTellsSpec.plain.varTypes Try.prog) (ds ++ gs)).all (· ≤ reachBytes) = true := hsz0
  clear hsz0
  have hval : ∀ (j : Nat) t v, Try.f3.params[j]? = some t → args[j]? = some v → Value.okWide Try.prog W .any base t v := hval0
  have hW' := hW
  obtain ⟨p, q, hA0, hV, rfl, hfz, hnd⟩ := hW
  have hA : DataW.TrodAll enc Try.prog W 0 (fun _ => true) true Try.f3.params.toList args.toList ds p := hA0
  rw [Try.params3] at hA hval hsz
  obtain ⟨v0, vs0, d0, ds0, p0, q0, hargs, rfl, rfl, h0, r0⟩ := trodAll_cons hA
  obtain ⟨v1, vs1, d1, ds1, p1, q1, rfl, rfl, rfl, h1, r1⟩ := trodAll_cons r0
  obtain ⟨v2, vs2, d2, ds2, p2, q2, rfl, rfl, rfl, h2, r2⟩ := trodAll_cons r1
  obtain ⟨v3, vs3, d3, ds3, p3, q3, rfl, rfl, rfl, h3, r3⟩ := trodAll_cons r2
  obtain ⟨rfl, rfl, rfl⟩ := trodAll_nil r3
  obtain rfl : args = #[v0, v1, v2, v3] := by cases args; simp_all
  obtain ⟨rfl, rfl⟩ := trodVars_none hV
  have k0 := h0
  have lt0 : ∀ x ∈ p0, x.block < W.heap.size := by obtain ⟨m, hm⟩ := k0; exact DataW.trod_lt m _ _ _ hm
  have k1 := h1
  have lt1 : ∀ x ∈ p1, x.block < W.heap.size := by obtain ⟨m, hm⟩ := k1; exact DataW.trod_lt m _ _ _ hm
  have k2 := h2
  have lt2 : ∀ x ∈ p2, x.block < W.heap.size := by obtain ⟨m, hm⟩ := k2; exact DataW.trod_lt m _ _ _ hm
  have k3 := h3
  have lt3 : ∀ x ∈ p3, x.block < W.heap.size := by obtain ⟨m, hm⟩ := k3; exact DataW.trod_lt m _ _ _ hm
  obtain ⟨a0, len0, cap0, rfl⟩ := okWide_slice Try.underlying22 (hval 0 22 v0 rfl rfl)
  obtain ⟨xs0, hx0, hm0⟩ := Try.openEnts (j := 0) hsz rfl rfl h0
  obtain ⟨e1, rfl, lo1, hi1⟩ := Try.openEnt (hval 1 25 v1 rfl rfl) h1
  obtain ⟨e2, rfl, lo2, hi2⟩ := Try.openEnt (hval 2 25 v2 rfl rfl) h2
  obtain ⟨z3, rfl, _, _, wf3⟩ := open_int Try.underlying23 (hval 3 23 v3 rfl rfl) h3
  clear hA0 hval0
  refine (tells_w xs0 e1 e2 z3 _ W hm0 hx0).mono fun e W' ⟨he, bel⟩ => ?_
  subst he
  exact ⟨_, rfl, _, _, _, [], _, [], hW', trodAll_mk1 (shut_bool Try.underlying4 _), (trodAll_cons_mk (Below.trod Try.laidOut (by kernel_rfl) (of_decide_eq_true (by kernel_rfl)) k0 bel lt0) (trodAll_cons_mk (Below.trod Try.laidOut (by kernel_rfl) (of_decide_eq_true (by kernel_rfl)) k1 bel lt1) (trodAll_cons_mk (Below.trod Try.laidOut (by kernel_rfl) (of_decide_eq_true (by kernel_rfl)) k2 bel lt2) (trodAll_cons_mk (Below.trod Try.laidOut (by kernel_rfl) (of_decide_eq_true (by kernel_rfl)) k3 bel lt3) trodAll_mk0)))), rfl, Below.frame bel _, fun h => by cases h⟩

theorem queueTells_holds : Rows.QueueTellsSaid :=
  OpenClaim.holds_of_wide 3 Try.f3 rfl rfl rfl rfl rfl rfl rfl ⟨rfl, rfl, rfl, rfl, rfl⟩ rfl rfl rfl rfl rfl (by kernel_rfl) Try.func3 (by kernel_rfl)
    (of_decide_eq_true (by kernel_rfl)) (by unfold Func.isWrapper; first | (rw [if_pos (by decide +kernel)]; kernel_rfl) | (rw [if_neg (by decide +kernel)]; exact ⟨rfl, rfl⟩))
    (fun os started H enc _ => queueTells_lifted os started H enc)

end Go.Proofs.Ytgkjpablofckjaa
