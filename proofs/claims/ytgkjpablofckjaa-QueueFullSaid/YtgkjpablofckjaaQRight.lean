/- QueueRight holds: a queue that is right stays so, whoever comes and goes; no condition. -/
import Derived.Test.YtgkjpablofckjaaQNums
namespace Go.Proofs.Ytgkjpablofckjaa
open Go.RowKit Go.Dm

theorem pushedF_good (l : List Ent) : Dm.Good (pushedF l) := foldl_good l [] good_nil

def goneF (q : List Ent) (gs : List Int) : List Ent := gs.foldl (fun q g => (takeF q g).1) q

theorem goneF_good (gs : List Int) : ∀ q, Dm.Good q → Dm.Good (goneF q gs) := by
  induction gs with
  | nil => exact fun q h => h
  | cons g gs ih => exact fun q h => ih _ (h.take g)

theorem goneF_take {gs : List Int} {k : Nat} (h : k < gs.length) (q : List Ent) : goneF q (gs.take (k + 1)) = (takeF (goneF q (gs.take k)) (numAt gs k)).1 := by
  have : gs.take (k + 1) = gs.take k ++ [numAt gs k] := by
    rw [List.take_succ_eq_append_getElem h]
    simp [h, numAt]
  rw [this]
  simp [goneF]

set_option maxHeartbeats 2000000 in
theorem rightLaw_w (l : List Ent) (gs : List Int) (v u : Value) (w : World) (hm : l.length ≤ 8796093022208) (hx : Ents w v l) (hn : gs.length ≤ 17592186044416) (hy : Nums w .u64 u gs) :
    Calls Try.prog 4 #[v, u] w fun e w' => e = .returned (.bool true) ∧ Ext w w' := by
  obtain ⟨q, cap, rfl, hcap, hcm⟩ := hx.shape
  obtain ⟨g, gap, rfl, hgap, hgm⟩ := hy.shape
  have H0 := pushedF_good l
  have hl0 := H0.len
  have hR : ∀ k, Dm.Good (goneF (pushedF l) (gs.take k)) := fun k => goneF_good _ _ H0
  go_enter Try.func4, Try.ntmps4
  go_wp2_with fail
  refine (examples_w _).mono ?_; rintro e w1 ⟨rfl, hb1⟩
  go_wp2_with fail
  refine (pushed_w l _ _ hm (hx.ext hb1)).mono ?_; rintro e w2 ⟨r, rfl, hr2, hb2⟩
  go_wp2_with fail
  refine (right_w _ _ _ (by omega) hr2).mono ?_; rintro e w3 ⟨rfl, hb3⟩
  have hb := hb1.trans (hb2.trans hb3)
  rw [H0.right]
  go_wp2
  go_loopw [6, 7] (fun q' i' wr => ∃ k : Nat, k ≤ gs.length ∧ i' = .int .i64 k ∧ Ext w wr ∧ Ents wr q' (goneF (pushedF l) (gs.take k))) (fun _ i' _ => gs.length - (intOf i').toNat)
  case atStart => exact ⟨0, by omega, rfl, hb, hr2.ext hb3⟩
  case round =>
    obtain ⟨k, hk, rfl, hb, ho⟩ := hrel
    by_cases hlt : k < gs.length
    · have hyr := hy.ext hb
      obtain ⟨b, off, rfl, hbl, c0⟩ := hyr.at hlt
      have hp := (hR k).len
      have hp' := hR (k + 1)
      rw [goneF_take hlt] at hp'
      have hpl := hp'.len
      go_wp2_with fail
      refine (take_w _ _ _ _ (by omega) ho).mono ?_; rintro e w4 ⟨r4, rfl, ho4, hb4⟩
      go_wp2_with fail
      refine (right_w _ _ _ (by omega) ho4).mono ?_; rintro e w5 ⟨rfl, hb5⟩
      rw [hp'.right]
      go_wp2
      go_roundw
      case rel => exact ⟨k + 1, by omega, by go_num, hb.trans (hb4.trans hb5), by rw [goneF_take hlt]; exact ho4.ext hb5⟩
      case measure => simp [intOf]; omega
    · go_wp2
      go_ret
      exact ⟨rfl, hb⟩

open Go.ChangeShapes Go.WideShapes Go.ChangeAt in
set_option maxRecDepth 100000 in
theorem queueRight_lifted (os : Os) (started : os.Started) (H : Type) (enc : TypeId × Value → H) :
    ReturnsInHanded {} Try.checked os 4 .any (Rows.queueRightSpec.pre6 enc Try.prog Try.f4 Rows.queueRightRow.domain false) (Rows.queueRightSpec.post enc Try.prog Try.f4 false true false false) := by
  refine returnsInHanded_of_change_sized (C := Try.checked) Try.own started (by kernel_rfl) Try.func4
    (ChangeSpec.witness6 (enc := enc) (C := Try.checked) false ⟨#[], #[.slice none 0 0, .slice none 0 0], []⟩ 8 (by kernel_rfl) (by kernel_rfl) (by kernel_rfl) (by kernel_rfl)) ?_
  intro W base args ds gs before hval0 hW hcnd hsz0 _
  have hsz : (DataW.weightsEach Try.prog (Try.f4.params.toList ++ Rows.queueRightSpec.plain.varTypes Try.prog) (ds ++ gs)).all (· ≤ reachBytes) = true := hsz0
  clear hsz0
  have hval : ∀ (j : Nat) t v, Try.f4.params[j]? = some t → args[j]? = some v → Value.okWide Try.prog W .any base t v := hval0
  have hW' := hW
  obtain ⟨p, q, hA0, hV, rfl, hfz, hnd⟩ := hW
  have hA : DataW.TrodAll enc Try.prog W 0 (fun _ => true) true Try.f4.params.toList args.toList ds p := hA0
  rw [Try.params4] at hA hval hsz
  obtain ⟨v0, vs0, d0, ds0, p0, q0, hargs, rfl, rfl, h0, r0⟩ := trodAll_cons hA
  obtain ⟨v1, vs1, d1, ds1, p1, q1, rfl, rfl, rfl, h1, r1⟩ := trodAll_cons r0
  obtain ⟨rfl, rfl, rfl⟩ := trodAll_nil r1
  obtain rfl : args = #[v0, v1] := by cases args; simp_all
  obtain ⟨rfl, rfl⟩ := trodVars_none hV
  have k0 := h0
  have lt0 : ∀ x ∈ p0, x.block < W.heap.size := by obtain ⟨m, hm⟩ := k0; exact DataW.trod_lt m _ _ _ hm
  have k1 := h1
  have lt1 : ∀ x ∈ p1, x.block < W.heap.size := by obtain ⟨m, hm⟩ := k1; exact DataW.trod_lt m _ _ _ hm
  obtain ⟨a0, len0, cap0, rfl⟩ := okWide_slice Try.underlying22 (hval 0 22 v0 rfl rfl)
  obtain ⟨xs0, hx0, hm0⟩ := Try.openEnts (j := 0) hsz rfl rfl h0
  obtain ⟨a1, len1, cap1, rfl⟩ := okWide_slice Try.underlying47 (hval 1 47 v1 rfl rfl)
  obtain ⟨xs1, hx1, hm1⟩ := Try.openNums (j := 1) hsz rfl rfl h1
  clear hA0 hval0
  refine (rightLaw_w xs0 xs1 _ _ W hm0 hx0 hm1 hx1).mono fun e W' ⟨he, bel⟩ => ?_
  subst he
  exact ⟨_, rfl, _, _, _, [], _, [], hW', trodAll_mk1 (shut_bool Try.underlying4 _), (trodAll_cons_mk (Below.trod Try.laidOut (by kernel_rfl) (of_decide_eq_true (by kernel_rfl)) k0 bel lt0) (trodAll_cons_mk (Below.trod Try.laidOut (by kernel_rfl) (of_decide_eq_true (by kernel_rfl)) k1 bel lt1) trodAll_mk0)), rfl, Below.frame bel _, fun h => by cases h⟩

theorem queueRight_holds : Rows.QueueRightSaid :=
  OpenClaim.holds_of_wide 4 Try.f4 rfl rfl rfl rfl rfl rfl rfl ⟨rfl, rfl, rfl, rfl, rfl⟩ rfl rfl rfl rfl rfl (by kernel_rfl) Try.func4 (by kernel_rfl)
    (of_decide_eq_true (by kernel_rfl)) (by unfold Func.isWrapper; first | (rw [if_pos (by decide +kernel)]; kernel_rfl) | (rw [if_neg (by decide +kernel)]; exact ⟨rfl, rfl⟩))
    (fun os started H enc _ => queueRight_lifted os started H enc)

end Go.Proofs.Ytgkjpablofckjaa
