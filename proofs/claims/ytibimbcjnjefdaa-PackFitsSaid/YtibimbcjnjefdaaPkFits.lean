/- PackFits is true at every input: a fit is told just if there is room for so many, and it has just so many nodes. -/
import Derived.Test.YtibimbcjnjefdaaPkOpen
import Derived.Test.YtibimbcjnjefdaaRows
namespace Go.Proofs.Ytibimbcjnjefdaa
open Go.RowKit Go.Dm

set_option maxHeartbeats 2000000 in
set_option maxRecDepth 100000 in
theorem packfits_w (R : List SlotR) (T : List RowS) (d : Vc) (n : Int) (v vx : Value) (w : World) (hm : R.length * 72 ≤ 140737488351232) (hk : FitK R) (hx : Slots w v R) (hT : T.length ≤ 2932031007319) (hf : FitR T) (ht : Terms w vx T) (hd : OkV d) (hn : 0 ≤ n ∧ n ≤ 255) :
    Calls Try.prog 4 #[v, vx, vVal d, .int .u8 n] w fun e w' => e = .returned (.bool true) ∧ Ext w w' := by
  obtain ⟨p, cap, rfl, _, _⟩ := hx.shape
  obtain ⟨q, cap2, rfl, _, _⟩ := ht.shape
  obtain ⟨N, rfl⟩ : ∃ N : Nat, n = N := ⟨n.toNat, by omega⟩
  have hB := VBox.new w (vG d) 26
  have hW : Ext w (w.alloc (.cells #[.int .u64 (vG d 0 : Nat), .int .u64 (vG d 1 : Nat), .int .u64 (vG d 2 : Nat), .int .u64 (vG d 3 : Nat)] 26)) := (Ext.refl _).alloc _
  have CE := kexamples_w (w.alloc (.cells #[.int .u64 (vG d 0 : Nat), .int .u64 (vG d 1 : Nat), .int .u64 (vG d 2 : Nat), .int .u64 (vG d 3 : Nat)] 26))
  have CF := fun (m : Int) (w1 : World) (h : Ext w w1) => kfit_w T R (.slice p R.length cap) (.slice q T.length cap2) d hd m w1 (by omega) hf (ht.ext h) (by omega) hk (hx.ext h)
  have CR := fun (m : Int) (hm : m ≤ 9223372036854775807) (w1 : World) (h : Ext w w1) => kroom_w T R (.slice p R.length cap) (.slice q T.length cap2) d hd m hm w1 (by omega) hf (ht.ext h) (by omega) hk (hx.ext h)
  have hI : fitI (letR T) d ((N : Int) % 9) R = fitS (letR T) d (N % 9) R := by
    unfold fitI
    rw [if_neg (by omega), show ((N : Int) % 9).toNat = N % 9 by omega]
  have hS := fit_room (letR_lab T) (d := d) (N % 9) R
  have CF1 := CF ((N : Int) % 9)
  have CR1 := CR ((N : Int) % 9) (by omega)
  rw [hI] at CF1
  rw [show ((N : Int) % 9).toNat = N % 9 by omega] at CR1
  unfold roomS at CR1
  have hlen := fun a => fit_len (f := letR T) (d := d) (n := N % 9) (l := R) (a := a)
  generalize roomF (letR T) d (N % 9) R = rf at *
  generalize hA : fitS (letR T) d (N % 9) R = A at *
  clear hA hI CF CR
  unfold vVal vF at CF1 CR1 ⊢
  replace CF1 := Lib.hid CF1
  replace CR1 := Lib.hid CR1
  cases A with
  | none =>
    have hS' : rf < N % 9 := by
      have := of_decide_eq_false hS.symm
      omega
    have hr : ((min (N % 9) rf : Nat) : Int) < (N : Int) % 9 := by omega
    generalize min (N % 9) rf = rm at *
    clear hS hlen
    go_enter Try.func4, Try.ntmps4
    go_wp2_with fail
    refine CE.mono ?_; rintro e w1 ⟨rfl, h1⟩
    replace hB := (hB.ext h1).four
    replace h1 := hW.trans h1
    clear CE hW
    obtain ⟨_, b0, b1, b2, b3, _, _, _, _⟩ := id hB
    go_wp2_with fail
    refine (CF1.out w1 h1).mono ?_; rintro e w2 ⟨vo, rfl, hs, h2⟩
    obtain ⟨p3, cap3, rfl, _, _⟩ := hs.shape
    replace hB := hB.ext h2
    replace h2 := h1.trans h2
    clear h1 b0 b1 b2 b3 hs
    obtain ⟨_, b0, b1, b2, b3, _, _, _, _⟩ := id hB
    go_wp2_with fail
    refine (CR1.out w2 h2).mono ?_; rintro e w3 ⟨rfl, h3⟩
    go_wp2
    go_ret
    exact ⟨by rw [decide_eq_false (show ¬ ((N : Int) % 9 ≤ (rm : Int)) by omega)]; rfl, h2.trans h3⟩
  | some a =>
    have hS' : N % 9 ≤ rf := of_decide_eq_true hS.symm
    have hr : ((min (N % 9) rf : Nat) : Int) = (N : Int) % 9 := by omega
    have hl : ((a.length : Nat) : Int) = (N : Int) % 9 := by rw [hlen a rfl]; omega
    generalize min (N % 9) rf = rm at *
    clear hS hlen
    go_enter Try.func4, Try.ntmps4
    go_wp2_with fail
    refine CE.mono ?_; rintro e w1 ⟨rfl, h1⟩
    replace hB := (hB.ext h1).four
    replace h1 := hW.trans h1
    clear CE hW
    obtain ⟨_, b0, b1, b2, b3, _, _, _, _⟩ := id hB
    go_wp2_with fail
    refine (CF1.out w1 h1).mono ?_; rintro e w2 ⟨vo, rfl, hs, h2⟩
    obtain ⟨p3, cap3, rfl, _, _⟩ := hs.shape
    replace hB := hB.ext h2
    replace h2 := h1.trans h2
    clear h1 b0 b1 b2 b3 hs
    obtain ⟨_, b0, b1, b2, b3, _, _, _, _⟩ := id hB
    go_wp2_with fail
    refine (CR1.out w2 h2).mono ?_; rintro e w3 ⟨rfl, h3⟩
    go_wp2
    go_ret
    exact ⟨rfl, h2.trans h3⟩

open Go.ChangeShapes Go.WideShapes Go.ChangeAt in
set_option maxRecDepth 100000 in
theorem packFits_lifted (os : Os) (started : os.Started) (H : Type) (enc : TypeId × Value → H) :
    ReturnsInHanded {} Try.checked os 4 .any (Rows.packFitsSpec.pre6 enc Try.prog Try.f4 Rows.packFitsRow.domain false) (Rows.packFitsSpec.post enc Try.prog Try.f4 false true false false) := by
  refine returnsInHanded_of_change_sized (C := Try.checked) Try.own started (by kernel_rfl) Try.func4
    (ChangeSpec.witness6 (enc := enc) (C := Try.checked) false ⟨#[], #[.slice none 0 0, .slice none 0 0, .agg #[.int .u64 0, .int .u64 0, .int .u64 0, .int .u64 0], .int .u8 0], []⟩ 8 (by kernel_rfl) (by kernel_rfl) (by kernel_rfl) (by kernel_rfl)) ?_
  intro W base args ds gs before hval0 hW hcnd hsz0 _
  have hsz : (DataW.weightsEach Try.prog (Try.f4.params.toList ++ Rows.packFitsSpec.plain.varTypes Try.prog) (ds ++ gs)).all (· ≤ reachBytes) = true := hsz0
  clear hsz0
  have hval : ∀ (j : Nat) t v, Try.f4.params[j]? = some t → args[j]? = some v → Value.okWide Try.prog W .any base t v := hval0
  have hW' := hW
  obtain ⟨p, q, hA0, hV, rfl, hfz, hnd⟩ := hW
  have hA : DataW.TrodAll enc Try.prog W 0 (fun _ => true) true Try.f4.params.toList args.toList ds p := hA0
  rw [Try.params4] at hA hval hsz
  obtain ⟨v0, vs0, d0, ds0, p0, q0, hargs, rfl, rfl, h0, r0⟩ := trodAll_cons hA
  obtain ⟨v1, vs1, d1, ds1, p1, q1, rfl, rfl, rfl, h1, r1⟩ := trodAll_cons r0
  obtain ⟨v2, vs2, d2, ds2, p2, q2, rfl, rfl, rfl, h2, r2⟩ := trodAll_cons r1
  obtain ⟨v3, vs3, d3, ds3, p3, q3, rfl, rfl, rfl, h3, r3⟩ := trodAll_cons r2
  obtain ⟨rfl, rfl, rfl⟩ := trodAll_nil r3
  obtain rfl : args = #[v0, v1, v2, v3] := by cases args; simp_all
  obtain ⟨rfl, rfl⟩ := trodVars_none hV
  have k0 := h0
  have lt0 : ∀ x ∈ p0, x.block < W.heap.size := by obtain ⟨m, hm⟩ := k0; exact DataW.trod_lt m _ _ _ hm
  have k1 := h1
  have lt1 : ∀ x ∈ p1, x.block < W.heap.size := by obtain ⟨m, hm⟩ := k1; exact DataW.trod_lt m _ _ _ hm
  have k2 := h2
  have lt2 : ∀ x ∈ p2, x.block < W.heap.size := by obtain ⟨m, hm⟩ := k2; exact DataW.trod_lt m _ _ _ hm
  have k3 := h3
  have lt3 : ∀ x ∈ p3, x.block < W.heap.size := by obtain ⟨m, hm⟩ := k3; exact DataW.trod_lt m _ _ _ hm
  obtain ⟨a0, len0, cap0, rfl⟩ := okWide_slice Try.underlying22 (hval 0 22 v0 rfl rfl)
  obtain ⟨xs0, hx0, hm0, hf0⟩ := Try.openSlots (j := 0) hsz rfl rfl h0
  obtain ⟨a1, len1, cap1, rfl⟩ := okWide_slice Try.underlying23 (hval 1 23 v1 rfl rfl)
  obtain ⟨xs1, hx1, hm1, hf1⟩ := Try.openTerms (j := 1) hsz rfl rfl h1
  obtain ⟨e2, hd2, rfl⟩ := Try.openVec (hval 2 26 v2 rfl rfl) h2
  obtain ⟨z3, rfl, _, _, wf3⟩ := open_int Try.underlying5 (hval 3 5 v3 rfl rfl) h3
  have rg3 : 0 ≤ z3 ∧ z3 ≤ 255 := by
    have h := wf3
    simp [Lit.wf, IntKind.min, IntKind.max, IntKind.signed, IntKind.bits] at h
    omega
  clear hA0 hval0
  refine (packfits_w xs0 xs1 e2 z3 _ _ W hm0 hf0 hx0 hm1 hf1 hx1 hd2 rg3).mono fun e W' ⟨he, bel⟩ => ?_
  subst he
  exact ⟨_, rfl, _, _, _, [], _, [], hW', trodAll_mk1 (shut_bool Try.underlying4 _), (trodAll_cons_mk (Below.trod Try.laidOut (by kernel_rfl) (of_decide_eq_true (by kernel_rfl)) k0 bel lt0) (trodAll_cons_mk (Below.trod Try.laidOut (by kernel_rfl) (of_decide_eq_true (by kernel_rfl)) k1 bel lt1) (trodAll_cons_mk (Below.trod Try.laidOut (by kernel_rfl) (of_decide_eq_true (by kernel_rfl)) k2 bel lt2) (trodAll_cons_mk (Below.trod Try.laidOut (by kernel_rfl) (of_decide_eq_true (by kernel_rfl)) k3 bel lt3) trodAll_mk0)))), rfl, Below.frame bel _, fun h => by cases h⟩

theorem packFits_holds : Rows.PackFitsSaid :=
  OpenClaim.holds_of_wide 4 Try.f4 rfl rfl rfl rfl rfl rfl rfl ⟨rfl, rfl, rfl, rfl, rfl⟩ rfl rfl rfl rfl rfl (by kernel_rfl) Try.func4 (by kernel_rfl)
    (of_decide_eq_true (by kernel_rfl)) (by unfold Func.isWrapper; first | (rw [if_pos (by decide +kernel)]; kernel_rfl) | (rw [if_neg (by decide +kernel)]; exact ⟨rfl, rfl⟩))
    (fun os started H enc _ => packFits_lifted os started H enc)

end Go.Proofs.Ytibimbcjnjefdaa
