/- PackRoom is true at every input: room is the sum of what each slot that matches holds, up to what is asked for; slots in another order have the same. -/
import Derived.Test.YtibimbcjnjefdaaPkOpen
import Derived.Test.YtibimbcjnjefdaaRows
namespace Go.Dm
open Go Go.RowKit
/-- A slot that stands in a slice. -/
structure SR (b o : Nat) (node : ByteArray) (V : Nat → Nat) (lv : Value) (w : World) : Prop where
  lt : b < w.heap.size
  c0 : w.cell? ⟨b, o, none⟩ = some (.string node)
  c1 : w.cell? ⟨b, o + 1, none⟩ = some (.int .u64 (V 0 : Nat))
  c2 : w.cell? ⟨b, o + 2, none⟩ = some (.int .u64 (V 1 : Nat))
  c3 : w.cell? ⟨b, o + 3, none⟩ = some (.int .u64 (V 2 : Nat))
  c4 : w.cell? ⟨b, o + 4, none⟩ = some (.int .u64 (V 3 : Nat))
  c5 : w.cell? ⟨b, o + 5, none⟩ = some lv
theorem SR.ext {b o : Nat} {node : ByteArray} {V : Nat → Nat} {lv : Value} {w w' : World} (h : SR b o node V lv w) (hx : Ext w w') : SR b o node V lv w' := by
  have hc : ∀ {i : Nat} {u}, w.cell? ⟨b, i, none⟩ = some u → w'.cell? ⟨b, i, none⟩ = some u := fun {i u} e => by rw [hx.cell (by exact h.lt)]; exact e
  exact ⟨Nat.lt_of_lt_of_le h.lt hx.size, hc h.c0, hc h.c1, hc h.c2, hc h.c3, hc h.c4, hc h.c5⟩
theorem Slots.sr {w : World} {xs : List SlotR} {p cap} (h : Slots w (.slice p xs.length cap) xs) {k : Nat} (hk : k < xs.length) :
    ∃ b off, p = some ⟨b, off, none⟩ ∧ SR b (off + k*6) (slAt xs k).1 (vG (slAt xs k).2.1) (slAt xs k).2.2.1 w := by
  obtain ⟨b, off, hp, hb, hc⟩ := h.at hk
  exact ⟨b, off, hp, hb, hc 0 (by omega), hc 1 (by omega), hc 2 (by omega), hc 3 (by omega), hc 4 (by omega), hc 5 (by omega)⟩
end Go.Dm
namespace Go.Proofs.Ytibimbcjnjefdaa
open Go.RowKit Go.Dm

set_option maxHeartbeats 4000000 in
set_option maxRecDepth 100000 in
theorem packroom_w (R : List SlotR) (T : List RowS) (d : Vc) (n : Int) (v vx : Value) (w : World) (hm : R.length * 72 ≤ 140737488351232) (hk : FitK R) (hx : Slots w v R) (hT : T.length ≤ 2932031007319) (hf : FitR T) (ht : Terms w vx T) (hd : OkV d) (hn : 0 ≤ n ∧ n ≤ 255) :
    Calls Try.prog 8 #[v, vx, vVal d, .int .u8 n] w fun e w' => e = .returned (.bool true) ∧ Ext w w' := by
  obtain ⟨p, cap, rfl, _, _⟩ := hx.shape
  obtain ⟨q, cap2, rfl, _, _⟩ := ht.shape
  obtain ⟨N, rfl⟩ : ∃ N : Nat, n = N := ⟨n.toNat, by omega⟩
  obtain ⟨M, hM⟩ : ∃ M : Nat, N % 20 = M := ⟨_, rfl⟩
  have hMI : (N : Int) % 20 = (M : Int) := by omega
  have hM20 : M < 20 := by omega
  clear hM
  have hB := VBox.new w (vG d) 26
  have hW : Ext w (w.alloc (.cells #[.int .u64 (vG d 0 : Nat), .int .u64 (vG d 1 : Nat), .int .u64 (vG d 2 : Nat), .int .u64 (vG d 3 : Nat)] 26)) := (Ext.refl _).alloc _
  have CE := kexamples_w (w.alloc (.cells #[.int .u64 (vG d 0 : Nat), .int .u64 (vG d 1 : Nat), .int .u64 (vG d 2 : Nat), .int .u64 (vG d 3 : Nat)] 26))
  have CR := fun (m : Int) (hm : m ≤ 9223372036854775807) (w1 : World) (h : Ext w w1) => kroom_w T R (.slice p R.length cap) (.slice q T.length cap2) d hd m hm w1 (by omega) hf (ht.ext h) (by omega) hk (hx.ext h)
  have CV := fun (w1 : World) (v1 : Value) (h : Ext w w1) (h2 : Slots w1 v1 R.reverse) => kroom_w T R.reverse v1 (.slice q T.length cap2) d hd (M : Int) (by omega) w1 (by omega) hf (ht.ext h) (by simp; omega) (fun r hr => hk r (List.mem_reverse.1 hr)) h2
  have hHo : ∀ (a : Vc), OkV a → ∀ w1, Calls Try.prog 21 #[vVal a, vVal d, .int .i64 (M : Int)] w1 fun e w' => e = .returned (.int .i64 (vholds a d M : Nat)) ∧ Ext w1 w' := fun a ha w1 => vholdsN_w a d ha hd M M (by omega) (Or.inl rfl) w1
  have CM := fun (w1 : World) (h : Ext w w1) (lv : Value) (l : List PairS) (hl : l.length ≤ 35184372088832) (hp : Pairs w1 lv l) => match_w T l (.slice q T.length cap2) lv w1 (by omega) hf (ht.ext h) hl hp
  have CR1 := CR (M : Int) (by omega)
  have CR5 := CR (-5) (by omega)
  have e0 : roomS (letR T) d (-5 : Int).toNat R = 0 := Nat.min_eq_left (Nat.zero_le _)
  rw [e0] at CR5
  simp only [Int.toNat_natCast] at CR1 CV
  have eR : roomS (letR T) d M R.reverse = roomS (letR T) d M R := by unfold roomS; rw [roomF_rev]
  rw [eR] at CV
  have hn0 : min M (roomF (letR T) d M (R.take 0)) = 0 := by simp [roomF]
  have hnE : roomS (letR T) d M R = min M (roomF (letR T) d M (R.take R.length)) := by rw [List.take_length]; rfl
  rw [hnE] at CR1 CV
  have hnS : ∀ k, k < R.length → vholds (slAt R k).2.1 d M ≤ M ∧ min M (roomF (letR T) d M (R.take (k + 1))) = if letR T (slAt R k) then min (min M (roomF (letR T) d M (R.take k)) + vholds (slAt R k).2.1 d M) M else min M (roomF (letR T) d M (R.take k)) := fun k h => by
    have := vholds_le (slAt R k).2.1 d M
    refine ⟨this, ?_⟩
    rw [roomF_take h]
    split <;> omega
  have hnL : ∀ k, min M (roomF (letR T) d M (R.take k)) ≤ M := fun k => Nat.min_le_left _ _
  obtain ⟨nn, hnn⟩ : ∃ nn : Nat → Nat, nn = fun k => min M (roomF (letR T) d M (R.take k)) := ⟨_, rfl⟩
  have hnn' : ∀ k, min M (roomF (letR T) d M (R.take k)) = nn k := fun k => by rw [hnn]
  simp only [hnn'] at hn0 hnS hnL CR1 CV
  clear hnn hnn' CR e0 eR hnE
  unfold vVal vF at hHo CR1 CV CR5 ⊢
  replace CR1 := Lib.hid CR1
  replace CR5 := Lib.hid CR5
  replace CV := Lib.hid CV
  replace CM := Lib.hid CM
  replace hn0 := Lib.hid hn0
  replace hnS := Lib.hid hnS
  go_enter Try.func8, Try.ntmps8
  go_wp2_with fail
  refine CE.mono ?_; rintro e w1 ⟨rfl, h1⟩
  replace hB := (hB.ext h1).four
  replace h1 := hW.trans h1
  clear CE hW
  go_wp2
  go_loopw [11, 12, 13] (fun s t i wr => ∃ k : Nat, k ≤ R.length ∧ i = .int .i64 k ∧ s = .int .i64 (nn k : Nat) ∧ Slots wr t (R.take k).reverse ∧ Ext w1 wr) (fun _ _ i _ => R.length - (intOf i).toNat)
  case atStart => exact ⟨0, by omega, rfl, by rw [hn0.out]; rfl, Slots.nil _, Ext.refl _⟩
  case round =>
    obtain ⟨k, hk', rfl, rfl, hS, hb⟩ := hrel
    have hwr := h1.trans hb
    have hB := hB.ext hb
    by_cases hlt : k < R.length
    · obtain ⟨b, off, rfl, HR⟩ := (hx.ext hwr).sr hlt
      have CH := hHo _ (hx.ok hlt)
      obtain ⟨hh, hs⟩ := hnS.out k hlt
      have hnk := hnL k
      have hlab := (hx.ext hwr).lab hlt
      obtain ⟨pq, pc, hpe, _, _⟩ := hlab.shape
      have hkl : (slAt R k).2.2.2.length ≤ 35184372088832 := hk _ (slAt_mem hlt)
      have hrk := hx.okv _ (slAt_mem hlt)
      have htake : (R.take (k + 1)).reverse = slAt R k :: (R.take k).reverse := by rw [take_slot hlt]; simp
      have CMk := CM.out wr hwr _ _ hkl hlab
      change Calls _ _ _ _ fun e w' => e = .returned (.bool (letR T (slAt R k))) ∧ Ext wr w' at CMk
      generalize letR T (slAt R k) = c at CMk hs
      generalize slAt R k = r at *
      obtain ⟨node, vv, lv, ls⟩ := r
      simp only at CH hh hs HR hpe hkl hlab hrk CMk
      subst hpe
      generalize vholds vv d M = h at CH hh hs
      replace CH := Lib.hid CH
      replace hs := Lib.hid hs
      replace htake := Lib.hid htake
      obtain ⟨_, c0, c1, c2, c3, c4, c5⟩ := id HR
      obtain ⟨pt, capt, rfl, _, _⟩ := hS.shape
      have hone := hS.one
      have htl : (R.take k).reverse.length = k := by simp; omega
      have hsl := hS.sl
      rw [htl] at hsl hS
      clear htl
      go_wp2_with fail
      refine CMk.mono ?_; rintro e w2 ⟨rfl, h2⟩
      replace HR := HR.ext h2
      replace hB := hB.ext h2
      replace hS := hS.ext h2
      replace hsl := hsl.ext h2
      replace hlab := hlab.ext h2
      clear c0 c1 c2 c3 c4 c5 CMk
      obtain ⟨_, c0, c1, c2, c3, c4, c5⟩ := id HR
      have hnew : ∀ (w5 : World) (v5 : Value), Ext w2 w5 → w5.ownsRow w2.heap.size 47 6 v5 (1 + k) (slotCells ((node, vv, .slice pq ls.length pc, ls) :: (R.take k).reverse)) → Slots w5 v5 (R.take (k + 1)).reverse := fun w5 v5 h5 ho => by
        rw [htake.out]
        refine Slots.of_row (n := 1 + k) ho (by simp; omega) (fun r hr => ?_) (fun r hr => ?_)
        · rcases List.mem_cons.1 hr with rfl | hr
          · exact hlab.ext h5
          · exact (hS.ext h5).labs r hr
        · rcases List.mem_cons.1 hr with rfl | hr
          · exact hrk
          · exact hS.okv r hr
      replace hnew := Lib.hid hnew
      have hbw := hb.trans h2
      cases c with
      | false =>
        go_wp2_with (at_builtin; refine wpList_appE rfl _ _ Try.slSlot rfl (w0 := w2) ((Ext.refl _).alloc _) rfl (World.ownsRow_lit w2 #[.string node, .int .u64 (vG vv 0 : Nat), .int .u64 (vG vv 1 : Nat), .int .u64 (vG vv 2 : Nat), .int .u64 (vG vv 3 : Nat), .slice pq ls.length pc] 1 (Nat.le_refl _) (by simp [maxLen]) rfl) rfl (hsl.ext ((Ext.refl _).alloc _)) hone (by omega) ?_; intro v5 w5 ho5 hb5 _)
        exact ⟨⟨_, _, _, ⟨k + 1, by omega, rfl, by rw [hs.out]; rfl, hnew.out w5 v5 hb5 ho5, hbw.trans hb5⟩, rfl, rfl, by go_num⟩, by simp [intOf]; omega⟩
      | true =>
        obtain ⟨_, b0, b1, b2, b3, _, _, _, _⟩ := id hB
        have s3 : IntKind.i64.wrap ((nn k : Int) + (h : Int)) = ((nn k + h : Nat) : Int) := by rw [IntKind.wrap_i64]; omega
        have s2 := min_nat (nn k + h) M
        go_wp2_with fail
        refine Dm.wp_region_grow (by kernel_rfl) (by kernel_rfl) ?_
        repeat (go_big_quiet_step (first
          | (go_at_call 21; with_reducible exact Calls.quietE (CH.out _))))
        refine wpQuiet_nil ?_
        intro U hU
        replace HR := HR.ext hU
        clear c0 c1 c2 c3 c4 c5
        obtain ⟨_, c0, c1, c2, c3, c4, c5⟩ := id HR
        have hslU := hsl.ext hU
        go_wp2_with (at_builtin; refine wpList_appE rfl _ _ Try.slSlot rfl (w0 := U) ((Ext.refl _).alloc _) rfl (World.ownsRow_lit U #[.string node, .int .u64 (vG vv 0 : Nat), .int .u64 (vG vv 1 : Nat), .int .u64 (vG vv 2 : Nat), .int .u64 (vG vv 3 : Nat), .slice pq ls.length pc] 1 (Nat.le_refl _) (by simp [maxLen]) rfl) rfl (hslU.ext ((Ext.refl _).alloc _)) hone (by omega) ?_; intro v5 w5 ho5 hb5 _)
        all_goals
          refine ⟨⟨_, _, _, ⟨k + 1, by omega, rfl, rfl, hnew.out w5 v5 (hU.trans hb5) (rowMono ho5 hU.size), hbw.trans (hU.trans hb5)⟩, ?_, rfl, by go_num⟩, by simp [intOf]; omega⟩
          congr 1
          rw [hs.out]
          simp only [if_true]
          omega
    · obtain rfl : k = R.length := by omega
      rw [List.take_length] at hS
      obtain ⟨_, b0, b1, b2, b3, _, _, _, _⟩ := id hB
      have hS0 := hS
      obtain ⟨pt, capt, rfl, _, _⟩ := hS0.shape
      rw [List.length_reverse] at hS
      go_wp2_with fail
      refine (CR1.out wr hwr).mono ?_; rintro e w2 ⟨rfl, h2⟩
      replace hB := hB.ext h2
      replace hS := hS.ext h2
      have hw2 := hwr.trans h2
      clear b0 b1 b2 b3
      obtain ⟨_, b0, b1, b2, b3, _, _, _, _⟩ := id hB
      go_wp2_with fail
      refine (CV.out w2 _ hw2 hS).mono ?_; rintro e w3 ⟨rfl, h3⟩
      replace hB := hB.ext h3
      have hw3 := hw2.trans h3
      clear b0 b1 b2 b3
      obtain ⟨_, b0, b1, b2, b3, _, _, _, _⟩ := id hB
      go_wp2_with fail
      refine (CR5.out w3 hw3).mono ?_; rintro e w4 ⟨rfl, h4⟩
      go_wp2
      go_ret
      exact ⟨rfl, hw3.trans h4⟩

open Go.ChangeShapes Go.WideShapes Go.ChangeAt in
set_option maxRecDepth 100000 in
theorem packRoom_lifted (os : Os) (started : os.Started) (H : Type) (enc : TypeId × Value → H) :
    ReturnsInHanded {} Try.checked os 8 .any (Rows.packRoomSpec.pre6 enc Try.prog Try.f8 Rows.packRoomRow.domain false) (Rows.packRoomSpec.post enc Try.prog Try.f8 false true false false) := by
  refine returnsInHanded_of_change_sized (C := Try.checked) Try.own started (by kernel_rfl) Try.func8
    (ChangeSpec.witness6 (enc := enc) (C := Try.checked) false ⟨#[], #[.slice none 0 0, .slice none 0 0, .agg #[.int .u64 0, .int .u64 0, .int .u64 0, .int .u64 0], .int .u8 0], []⟩ 8 (by kernel_rfl) (by kernel_rfl) (by kernel_rfl) (by kernel_rfl)) ?_
  intro W base args ds gs before hval0 hW hcnd hsz0 _
  have hsz : (DataW.weightsEach Try.prog (Try.f8.params.toList ++ Rows.packRoomSpec.plain.varTypes Try.prog) (ds ++ gs)).all (· ≤ reachBytes) = true := hsz0
  clear hsz0
  have hval : ∀ (j : Nat) t v, Try.f8.params[j]? = some t → args[j]? = some v → Value.okWide Try.prog W .any base t v := hval0
  have hW' := hW
  obtain ⟨p, q, hA0, hV, rfl, hfz, hnd⟩ := hW
  have hA : DataW.TrodAll enc Try.prog W 0 (fun _ => true) true Try.f8.params.toList args.toList ds p := hA0
  rw [Try.params8] at hA hval hsz
  obtain ⟨v0, vs0, d0, ds0, p0, q0, hargs, rfl, rfl, h0, r0⟩ := trodAll_cons hA
  obtain ⟨v1, vs1, d1, ds1, p1, q1, rfl, rfl, rfl, h1, r1⟩ := trodAll_cons r0
  obtain ⟨v2, vs2, d2, ds2, p2, q2, rfl, rfl, rfl, h2, r2⟩ := trodAll_cons r1
  obtain ⟨v3, vs3, d3, ds3, p3, q3, rfl, rfl, rfl, h3, r3⟩ := trodAll_cons r2
  obtain ⟨rfl, rfl, rfl⟩ := trodAll_nil r3
  obtain rfl : args = #[v0, v1, v2, v3] := by cases args; simp_all
  obtain ⟨rfl, rfl⟩ := trodVars_none hV
  have k0 := h0
  have lt0 : ∀ x ∈ p0, x.block < W.heap.size := by obtain ⟨m, hm⟩ := k0; exact DataW.trod_lt m _ _ _ hm
  have k1 := h1
  have lt1 : ∀ x ∈ p1, x.block < W.heap.size := by obtain ⟨m, hm⟩ := k1; exact DataW.trod_lt m _ _ _ hm
  have k2 := h2
  have lt2 : ∀ x ∈ p2, x.block < W.heap.size := by obtain ⟨m, hm⟩ := k2; exact DataW.trod_lt m _ _ _ hm
  have k3 := h3
  have lt3 : ∀ x ∈ p3, x.block < W.heap.size := by obtain ⟨m, hm⟩ := k3; exact DataW.trod_lt m _ _ _ hm
  obtain ⟨a0, len0, cap0, rfl⟩ := okWide_slice Try.underlying22 (hval 0 22 v0 rfl rfl)
  obtain ⟨xs0, hx0, hm0, hf0⟩ := Try.openSlots (j := 0) hsz rfl rfl h0
  obtain ⟨a1, len1, cap1, rfl⟩ := okWide_slice Try.underlying23 (hval 1 23 v1 rfl rfl)
  obtain ⟨xs1, hx1, hm1, hf1⟩ := Try.openTerms (j := 1) hsz rfl rfl h1
  obtain ⟨e2, hd2, rfl⟩ := Try.openVec (hval 2 26 v2 rfl rfl) h2
  obtain ⟨z3, rfl, _, _, wf3⟩ := open_int Try.underlying5 (hval 3 5 v3 rfl rfl) h3
  have rg3 : 0 ≤ z3 ∧ z3 ≤ 255 := by
    have h := wf3
    simp [Lit.wf, IntKind.min, IntKind.max, IntKind.signed, IntKind.bits] at h
    omega
  clear hA0 hval0
  refine (packroom_w xs0 xs1 e2 z3 _ _ W hm0 hf0 hx0 hm1 hf1 hx1 hd2 rg3).mono fun e W' ⟨he, bel⟩ => ?_
  subst he
  exact ⟨_, rfl, _, _, _, [], _, [], hW', trodAll_mk1 (shut_bool Try.underlying4 _), (trodAll_cons_mk (Below.trod Try.laidOut (by kernel_rfl) (of_decide_eq_true (by kernel_rfl)) k0 bel lt0) (trodAll_cons_mk (Below.trod Try.laidOut (by kernel_rfl) (of_decide_eq_true (by kernel_rfl)) k1 bel lt1) (trodAll_cons_mk (Below.trod Try.laidOut (by kernel_rfl) (of_decide_eq_true (by kernel_rfl)) k2 bel lt2) (trodAll_cons_mk (Below.trod Try.laidOut (by kernel_rfl) (of_decide_eq_true (by kernel_rfl)) k3 bel lt3) trodAll_mk0)))), rfl, Below.frame bel _, fun h => by cases h⟩

theorem packRoom_holds : Rows.PackRoomSaid :=
  OpenClaim.holds_of_wide 8 Try.f8 rfl rfl rfl rfl rfl rfl rfl ⟨rfl, rfl, rfl, rfl, rfl⟩ rfl rfl rfl rfl rfl (by kernel_rfl) Try.func8 (by kernel_rfl)
    (of_decide_eq_true (by kernel_rfl)) (by unfold Func.isWrapper; first | (rw [if_pos (by decide +kernel)]; kernel_rfl) | (rw [if_neg (by decide +kernel)]; exact ⟨rfl, rfl⟩))
    (fun os started H enc _ => packRoom_lifted os started H enc)

end Go.Proofs.Ytibimbcjnjefdaa
