/- PackMore is true at every input: where more fit fewer do, on the first of the same nodes; a slot more that nothing may use changes nothing. -/
import Derived.Test.YtibimbcjnjefdaaPkOpen
import Derived.Test.YtibimbcjnjefdaaRows
import Derived.ChangeKeysEq
namespace Go.Dm
open Go Go.RowKit
theorem vG_no {d : Vc} (hd : OkV d) (h0 : vG d 0 = 0) (h1 : vG d 1 = 0) (h2 : vG d 2 = 0) (h3 : vG d 3 = 0) : d = noV := by
  obtain ⟨x, y, z, u, rfl, _⟩ := hd.ex
  simp [vG] at h0 h1 h2 h3
  subst h0 h1 h2 h3
  rfl
theorem run_part_one {P : Program} {q : TypeId} {k : IntKind} (hq : P.underlying q = some (.int k)) (xs : Array Value) (j : Nat) (v : Value) (h : xs[j]? = some v) (w : World) : (part q xs j).run P w = .ok v w := by
  simp [part, isAgg, run_underlying hq, h]
theorem run_eql_vec {P : Program} {t q : TypeId} (ht : P.underlying t = some (.array 4 q)) (hq : P.underlying q = some (.int .u64)) (cq : P.cellsOf q = 1) (a0 a1 a2 a3 b0 b1 b2 b3 : Int) (w : World) :
    (binOp .eql t (.agg #[.int .u64 a0, .int .u64 a1, .int .u64 a2, .int .u64 a3]) (.agg #[.int .u64 b0, .int .u64 b1, .int .u64 b2, .int .u64 b3])).run P w = .ok (.bool (a0 == b0 && (a1 == b1 && (a2 == b2 && a3 == b3)))) w := by
  obtain ⟨i, hi⟩ := info_of_underlying hq
  have he : ∀ (a b : Int), (Op.equalIn 9999 q (.int .u64 a) (.int .u64 b)).run P w = .ok (a == b) w := fun a b => run_equalIn_int w 9998 q .u64 .u64 a b hq
  rw [run_eql_struct, run_equalIn_array w 9999 _ _ ht hi, cq, show List.range 4 = [0, 1, 2, 3] from rfl]
  simp only [Op.eqItems, Sem.run_bind, Nat.mul_one, run_part_one hq #[.int .u64 a0, .int .u64 a1, .int .u64 a2, .int .u64 a3] 0 _ rfl, run_part_one hq #[.int .u64 a0, .int .u64 a1, .int .u64 a2, .int .u64 a3] 1 _ rfl, run_part_one hq #[.int .u64 a0, .int .u64 a1, .int .u64 a2, .int .u64 a3] 2 _ rfl, run_part_one hq #[.int .u64 a0, .int .u64 a1, .int .u64 a2, .int .u64 a3] 3 _ rfl,
    run_part_one hq #[.int .u64 b0, .int .u64 b1, .int .u64 b2, .int .u64 b3] 0 _ rfl, run_part_one hq #[.int .u64 b0, .int .u64 b1, .int .u64 b2, .int .u64 b3] 1 _ rfl, run_part_one hq #[.int .u64 b0, .int .u64 b1, .int .u64 b2, .int .u64 b3] 2 _ rfl, run_part_one hq #[.int .u64 b0, .int .u64 b1, .int .u64 b2, .int .u64 b3] 3 _ rfl, Result.andThen_ok, Sem.run_ite]
  cases h0 : a0 == b0 <;> cases h1 : a1 == b1 <;> cases h2 : a2 == b2 <;> cases h3 : a3 == b3 <;> simp [he, h0, h1, h2, h3]
theorem strs_take {w : World} {xs : List ByteArray} {p cap} (h : Strs w (.slice p xs.length cap) xs) {k : Nat} (hk : k ≤ xs.length) : Strs w (.slice p k cap) (xs.take k) := by
  have := Sl.take h hk
  unfold Strs
  rw [List.length_take, Nat.min_eq_left hk, List.map_take]
  simpa using this
end Go.Dm
namespace Go.Proofs.Ytibimbcjnjefdaa
open Go.RowKit Go.Dm

set_option maxHeartbeats 4000000 in
set_option maxRecDepth 100000 in
theorem packmore_w (R : List SlotR) (T : List RowS) (d : Vc) (n m : Int) (v vx : Value) (w : World) (hm : R.length * 72 ≤ 140737488351232) (hk : FitK R) (hx : Slots w v R) (hT : T.length ≤ 2932031007319) (hf : FitR T) (ht : Terms w vx T) (hd : OkV d) (hn : 0 ≤ n ∧ n ≤ 255) (hm5 : 0 ≤ m ∧ m ≤ 255) :
    Calls Try.prog 7 #[v, vx, vVal d, .int .u8 n, .int .u8 m] w fun e w' => e = .returned (.bool true) ∧ Ext w w' := by
  obtain ⟨p, cap, rfl, _, _⟩ := hx.shape
  obtain ⟨q, cap2, rfl, _, _⟩ := ht.shape
  obtain ⟨N, rfl⟩ : ∃ N : Nat, n = N := ⟨n.toNat, by omega⟩
  obtain ⟨M, rfl⟩ : ∃ M : Nat, m = M := ⟨m.toNat, by omega⟩
  have hB := VBox.new w (vG d) 26
  have hW : Ext w (w.alloc (.cells #[.int .u64 (vG d 0 : Nat), .int .u64 (vG d 1 : Nat), .int .u64 (vG d 2 : Nat), .int .u64 (vG d 3 : Nat)] 26)) := (Ext.refl _).alloc _
  have CE := kexamples_w (w.alloc (.cells #[.int .u64 (vG d 0 : Nat), .int .u64 (vG d 1 : Nat), .int .u64 (vG d 2 : Nat), .int .u64 (vG d 3 : Nat)] 26))
  have CF := fun (m : Int) (w1 : World) (h : Ext w w1) => kfit_w T R (.slice p R.length cap) (.slice q T.length cap2) d hd m w1 (by omega) hf (ht.ext h) (by omega) hk (hx.ext h)
  obtain ⟨z, hz⟩ : ∃ z : SlotR, z = (⟨#[110, 111, 110, 101]⟩, noV, .slice none 0 0, []) := ⟨_, rfl⟩
  have CN := fun (m : Int) (w1 : World) (v1 : Value) (h : Ext w w1) (h2 : Slots w1 v1 (R ++ [z])) => kfit_w T (R ++ [z]) v1 (.slice q T.length cap2) d hd m w1 (by omega) hf (ht.ext h) (by simp; omega)
    (fun r hr => by
      rcases List.mem_append.1 hr with h | h
      · exact hk r h
      · rw [List.mem_singleton.1 h, hz]; simp) h2
  have hI : ∀ R, fitI (letR T) d ((N : Int) % 9) R = fitS (letR T) d (N % 9) R := fun R => by
    unfold fitI
    rw [if_neg (by omega), show ((N : Int) % 9).toNat = N % 9 by omega]
  have hI2 : fitI (letR T) d ((M : Int) % ((N : Int) % 9 + 1)) R = fitS (letR T) d (M % (N % 9 + 1)) R := by
    have e : ((M : Int) % ((N : Int) % 9 + 1)) = ((M % (N % 9 + 1) : Nat) : Int) := by simp
    have hl := Nat.mod_lt M (show 0 < N % 9 + 1 by omega)
    unfold fitI
    rw [e, if_neg (by omega), Int.toNat_natCast]
  have hK : M % (N % 9 + 1) ≤ N % 9 := by
    have hl := Nat.mod_lt M (show 0 < N % 9 + 1 by omega)
    omega
  have hKe : ((M : Int) % ((N : Int) % 9 + 1)) = ((M % (N % 9 + 1) : Nat) : Int) := by simp
  have CF1 := CF ((N : Int) % 9)
  have CF2 := CF ((M : Int) % ((N : Int) % 9 + 1))
  have CN1 := CN ((N : Int) % 9)
  rw [hI] at CF1 CN1
  rw [hI2] at CF2
  rw [hKe] at CF2
  have hless := fun a => fit_less (f := letR T) (d := d) (n := N % 9) (k := M % (N % 9 + 1)) (l := R) (a := a) hK
  have hmore : d ≠ noV → fitS (letR T) d (N % 9) (R ++ [z]) = fitS (letR T) d (N % 9) R := fun h => fit_more (by rw [hz]; exact vfits_no hd h) _ _
  have hlen := fun a => fit_len (f := letR T) (d := d) (n := N % 9) (l := R) (a := a)
  have hone := hx.one
  generalize M % (N % 9 + 1) = K at *
  generalize fitS (letR T) d (N % 9) (R ++ [z]) = C at *
  generalize fitS (letR T) d K R = B at *
  generalize fitS (letR T) d (N % 9) R = A at *
  clear hI hI2 CF CN
  unfold vVal vF at CF1 CF2 CN1 ⊢
  replace CF1 := Lib.hid CF1
  replace CF2 := Lib.hid CF2
  replace CN1 := Lib.hid CN1
  replace hless := Lib.hid hless
  replace hmore := Lib.hid hmore
  replace hlen := Lib.hid hlen
  go_enter Try.func7, Try.ntmps7
  go_wp2_with fail
  refine CE.mono ?_; rintro e w1 ⟨rfl, h1⟩
  replace hB := (hB.ext h1).four
  replace h1 := hW.trans h1
  clear CE hW
  obtain ⟨_, b0, b1, b2, b3, _, _, _, _⟩ := id hB
  go_wp2_with fail
  refine (CF1.out w1 h1).mono ?_; rintro e w2 ⟨vo, rfl, hs, h2⟩
  replace hB := hB.ext h2
  replace h2 := h1.trans h2
  clear h1 b0 b1 b2 b3
  obtain ⟨_, b0, b1, b2, b3, _, _, _, _⟩ := id hB
  cases A with
  | none =>
    go_wp2_with fail
    rw [hKe]
    refine (CF2.out w2 h2).mono ?_; rintro e w3 ⟨vo2, rfl, hs2, h3⟩
    go_wp2
    go_ret
    exact ⟨rfl, h2.trans h3⟩
  | some a =>
    have hl := hlen.out a rfl
    have hB2 := hless.out a rfl
    clear hlen hless
    subst hB2
    have hs : Strs w2 vo a := hs
    obtain ⟨p3, cap3, rfl, hcp, hcm⟩ := hs.shape
    have hKa : K ≤ a.length := by omega
    have htk : (a.take K).length = K := by simp; omega
    go_wp2_with fail
    rw [hKe]
    refine (CF2.out w2 h2).mono ?_; rintro e w3 ⟨vo2, rfl, hs2, h3⟩
    have hs2 : Strs w3 vo2 (a.take K) := hs2
    obtain ⟨p4, cap4, rfl, _, _⟩ := hs2.shape
    replace hB := hB.ext h3
    replace hs := hs.ext h3
    have h3w := h2.trans h3
    have hx3 := (hx.ext h3w).sl
    clear h2 h3 b0 b1 b2 b3
    obtain ⟨_, b0, b1, b2, b3, _, _, _, _⟩ := id hB
    clear hKe
    have hz1 : ∀ u ∈ (#[.string ⟨#[110, 111, 110, 101]⟩, .int .u64 0, .int .u64 0, .int .u64 0, .int .u64 0, .slice none 0 0] : Array Value).toList, u.oneCell' = true := by
      intro u hu
      simp at hu
      rcases hu with rfl | rfl | rfl <;> rfl
    go_wp2_with (at_builtin; first
      | (refine wpList_appE rfl _ _ Try.slSlot rfl (Ext.refl w3) rfl (World.ownsRow_nil _ _ _ _) rfl hx3 hone (by omega) ?_; intro v5 w5 ho5 hb5 _)
      | (refine wpList_appE rfl _ _ Try.slSlot rfl (hb5.trans ((Ext.refl _).alloc _)) rfl (Ext.row ho5 ((Ext.refl _).alloc _)) rfl (Sl.lit w5 47 6 1 #[.string ⟨#[110, 111, 110, 101]⟩, .int .u64 0, .int .u64 0, .int .u64 0, .int .u64 0, .slice none 0 0] rfl (by simp [maxLen])) hz1 (by omega) ?_; intro v6 w6 ho6 hb6 _; clear b0 b1 b2 b3; obtain ⟨_, b0, b1, b2, b3, _, _, _, _⟩ := hB.ext hb6))
    have hSn : Slots w6 v6 (R ++ [z]) := by
      refine Slots.of_row (n := 0 + R.length + 1) (by rw [slotCells_app, show slotCells [z] = [.string ⟨#[110, 111, 110, 101]⟩, .int .u64 0, .int .u64 0, .int .u64 0, .int .u64 0, .slice none 0 0] by rw [hz]; rfl]; simpa using ho6) (by simp) (fun r hr => ?_) (fun r hr => ?_)
      · rcases List.mem_append.1 hr with h | h
        · exact (hx.labs r h).ext (h3w.trans hb6)
        · rw [List.mem_singleton.1 h, hz]; exact Pairs.nil _
      · rcases List.mem_append.1 hr with h | h
        · exact hx.okv r h
        · rw [List.mem_singleton.1 h, hz]; exact okV_no
    refine (CN1.out w6 v6 (h3w.trans hb6) hSn).mono ?_; rintro e w7 ⟨vo3, rfl, hs7, h7⟩
    replace hB := hB.ext (hb6.trans h7)
    replace hs := hs.ext (hb6.trans h7)
    replace hs2 := hs2.ext (hb6.trans h7)
    have h7w := h3w.trans (hb6.trans h7)
    clear CN1 hSn hz1 ho5 ho6 hb5 hb6 h3w hx3 CF2 CF1 h7 b0 b1 b2 b3
    obtain ⟨_, b0, b1, b2, b3, _, _, _, _⟩ := id hB
    have CT := ktexts_w (a.take K) (a.take K) _ _ w7 (by omega) hs2 (strs_take hs hKa)
    rw [htk, decide_eq_true rfl] at CT
    go_wp2_with fail
    refine CT.mono ?_; rintro e w8 ⟨rfl, h8⟩
    replace hB := hB.ext h8
    replace hs := hs.ext h8
    replace hs7 := hs7.ext h8
    replace h8 := h7w.trans h8
    clear CT h7w hs2 b0 b1 b2 b3
    obtain ⟨_, b0, b1, b2, b3, _, _, _, _⟩ := id hB
    have hE := fun (w : World) => run_eql_vec (P := Try.prog) Try.underlying26 Try.underlying24 (by kernel_rfl) (vG d 0 : Nat) (vG d 1 : Nat) (vG d 2 : Nat) (vG d 3 : Nat) 0 0 0 0 w
    by_cases h0 : d = noV
    · subst h0
      have hE2 := fun w => (hE w).trans (show _ = Result.ok (Value.bool true) w from rfl)
      clear hE
      go_wp2_with fail
      go_ret
      exact ⟨rfl, h8⟩
    · have hC := hmore.out h0
      have hne : (((vG d 0 : Nat) : Int) == 0 && ((((vG d 1 : Nat) : Int) == 0) && ((((vG d 2 : Nat) : Int) == 0) && (((vG d 3 : Nat) : Int) == 0)))) = false := by
        rw [Bool.eq_false_iff]
        intro h
        simp only [Bool.and_eq_true, beq_iff_eq] at h
        exact h0 (vG_no hd (by omega) (by omega) (by omega) (by omega))
      rw [hne] at hE
      subst hC
      have hs7 : Strs w8 vo3 a := hs7
      obtain ⟨p5, cap5, rfl, _, _⟩ := hs7.shape
      have CT := ktexts_w a a _ _ w8 (by omega) hs hs7
      rw [decide_eq_true rfl, hl] at CT
      go_wp2_with fail
      refine CT.mono ?_; rintro e w9 ⟨rfl, h9⟩
      go_wp2
      go_ret
      exact ⟨rfl, h8.trans h9⟩

open Go.ChangeShapes Go.WideShapes Go.ChangeAt in
set_option maxRecDepth 100000 in
theorem packMore_lifted (os : Os) (started : os.Started) (H : Type) (enc : TypeId × Value → H) :
    ReturnsInHanded {} Try.checked os 7 .any (Rows.packMoreSpec.pre6 enc Try.prog Try.f7 Rows.packMoreRow.domain false) (Rows.packMoreSpec.post enc Try.prog Try.f7 false true false false) := by
  refine returnsInHanded_of_change_sized (C := Try.checked) Try.own started (by kernel_rfl) Try.func7
    (ChangeSpec.witness6 (enc := enc) (C := Try.checked) false ⟨#[], #[.slice none 0 0, .slice none 0 0, .agg #[.int .u64 0, .int .u64 0, .int .u64 0, .int .u64 0], .int .u8 0, .int .u8 0], []⟩ 8 (by kernel_rfl) (by kernel_rfl) (by kernel_rfl) (by kernel_rfl)) ?_
  intro W base args ds gs before hval0 hW hcnd hsz0 _
  have hsz : (DataW.weightsEach Try.prog (Try.f7.params.toList ++ Rows.packMoreSpec.plain.varTypes Try.prog) (ds ++ gs)).all (· ≤ reachBytes) = true := hsz0
  clear hsz0
  have hval : ∀ (j : Nat) t v, Try.f7.params[j]? = some t → args[j]? = some v → Value.okWide Try.prog W .any base t v := hval0
  have hW' := hW
  obtain ⟨p, q, hA0, hV, rfl, hfz, hnd⟩ := hW
  have hA : DataW.TrodAll enc Try.prog W 0 (fun _ => true) true Try.f7.params.toList args.toList ds p := hA0
  rw [Try.params7] at hA hval hsz
  obtain ⟨v0, vs0, d0, ds0, p0, q0, hargs, rfl, rfl, h0, r0⟩ := trodAll_cons hA
  obtain ⟨v1, vs1, d1, ds1, p1, q1, rfl, rfl, rfl, h1, r1⟩ := trodAll_cons r0
  obtain ⟨v2, vs2, d2, ds2, p2, q2, rfl, rfl, rfl, h2, r2⟩ := trodAll_cons r1
  obtain ⟨v3, vs3, d3, ds3, p3, q3, rfl, rfl, rfl, h3, r3⟩ := trodAll_cons r2
  obtain ⟨v4, vs4, d4, ds4, p4, q4, rfl, rfl, rfl, h4, r4⟩ := trodAll_cons r3
  obtain ⟨rfl, rfl, rfl⟩ := trodAll_nil r4
  obtain rfl : args = #[v0, v1, v2, v3, v4] := by cases args; simp_all
  obtain ⟨rfl, rfl⟩ := trodVars_none hV
  have k0 := h0
  have lt0 : ∀ x ∈ p0, x.block < W.heap.size := by obtain ⟨m, hm⟩ := k0; exact DataW.trod_lt m _ _ _ hm
  have k1 := h1
  have lt1 : ∀ x ∈ p1, x.block < W.heap.size := by obtain ⟨m, hm⟩ := k1; exact DataW.trod_lt m _ _ _ hm
  have k2 := h2
  have lt2 : ∀ x ∈ p2, x.block < W.heap.size := by obtain ⟨m, hm⟩ := k2; exact DataW.trod_lt m _ _ _ hm
  have k3 := h3
  have lt3 : ∀ x ∈ p3, x.block < W.heap.size := by obtain ⟨m, hm⟩ := k3; exact DataW.trod_lt m _ _ _ hm
  have k4 := h4
  have lt4 : ∀ x ∈ p4, x.block < W.heap.size := by obtain ⟨m, hm⟩ := k4; exact DataW.trod_lt m _ _ _ hm
  obtain ⟨a0, len0, cap0, rfl⟩ := okWide_slice Try.underlying22 (hval 0 22 v0 rfl rfl)
  obtain ⟨xs0, hx0, hm0, hf0⟩ := Try.openSlots (j := 0) hsz rfl rfl h0
  obtain ⟨a1, len1, cap1, rfl⟩ := okWide_slice Try.underlying23 (hval 1 23 v1 rfl rfl)
  obtain ⟨xs1, hx1, hm1, hf1⟩ := Try.openTerms (j := 1) hsz rfl rfl h1
  obtain ⟨e2, hd2, rfl⟩ := Try.openVec (hval 2 26 v2 rfl rfl) h2
  obtain ⟨z3, rfl, _, _, wf3⟩ := open_int Try.underlying5 (hval 3 5 v3 rfl rfl) h3
  have rg3 : 0 ≤ z3 ∧ z3 ≤ 255 := by
    have h := wf3
    simp [Lit.wf, IntKind.min, IntKind.max, IntKind.signed, IntKind.bits] at h
    omega
  obtain ⟨z4, rfl, _, _, wf4⟩ := open_int Try.underlying5 (hval 4 5 v4 rfl rfl) h4
  have rg4 : 0 ≤ z4 ∧ z4 ≤ 255 := by
    have h := wf4
    simp [Lit.wf, IntKind.min, IntKind.max, IntKind.signed, IntKind.bits] at h
    omega
  clear hA0 hval0
  refine (packmore_w xs0 xs1 e2 z3 z4 _ _ W hm0 hf0 hx0 hm1 hf1 hx1 hd2 rg3 rg4).mono fun e W' ⟨he, bel⟩ => ?_
  subst he
  exact ⟨_, rfl, _, _, _, [], _, [], hW', trodAll_mk1 (shut_bool Try.underlying4 _), (trodAll_cons_mk (Below.trod Try.laidOut (by kernel_rfl) (of_decide_eq_true (by kernel_rfl)) k0 bel lt0) (trodAll_cons_mk (Below.trod Try.laidOut (by kernel_rfl) (of_decide_eq_true (by kernel_rfl)) k1 bel lt1) (trodAll_cons_mk (Below.trod Try.laidOut (by kernel_rfl) (of_decide_eq_true (by kernel_rfl)) k2 bel lt2) (trodAll_cons_mk (Below.trod Try.laidOut (by kernel_rfl) (of_decide_eq_true (by kernel_rfl)) k3 bel lt3) (trodAll_cons_mk (Below.trod Try.laidOut (by kernel_rfl) (of_decide_eq_true (by kernel_rfl)) k4 bel lt4) trodAll_mk0))))), rfl, Below.frame bel _, fun h => by cases h⟩

theorem packMore_holds : Rows.PackMoreSaid :=
  OpenClaim.holds_of_wide 7 Try.f7 rfl rfl rfl rfl rfl rfl rfl ⟨rfl, rfl, rfl, rfl, rfl⟩ rfl rfl rfl rfl rfl (by kernel_rfl) Try.func7 (by kernel_rfl)
    (of_decide_eq_true (by kernel_rfl)) (by unfold Func.isWrapper; first | (rw [if_pos (by decide +kernel)]; kernel_rfl) | (rw [if_neg (by decide +kernel)]; exact ⟨rfl, rfl⟩))
    (fun os started H enc _ => packMore_lifted os started H enc)

end Go.Proofs.Ytibimbcjnjefdaa
