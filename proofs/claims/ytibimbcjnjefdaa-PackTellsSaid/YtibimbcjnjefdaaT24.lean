/- PackTells is true at every input: of any slots, selector, demand, number all is told as the chapter says. -/
import Derived.Test.YtibimbcjnjefdaaT23
import Derived.Test.YtibimbcjnjefdaaRows
namespace Go.Dm
open Go Go.RowKit Go.ChangeShapes Go.WideShapes

theorem slAt_strip (R : List SlotR) (k : Nat) : slAt (R.map stripV) k = stripV (slAt R k) := by
  by_cases h : k < R.length
  · simp [slAt, h]
  · simp [slAt, h]; rfl
theorem bestF_strip (T : List RowS) (d : Vc) (R : List SlotR) : ∀ k, bestF (letR T) d (R.map stripV) k = bestF (letR T) d R k
  | 0 => rfl
  | k + 1 => by unfold bestF bestStep; rw [slAt_strip, bestF_strip T d R k]; rfl
theorem fitS_strip (T : List RowS) (d : Vc) : ∀ (n : Nat) (R : List SlotR), fitS (letR T) d n (R.map stripV) = fitS (letR T) d n R
  | 0, _ => rfl
  | n + 1, R => by
    rw [fit_succ, fit_succ]
    have h : bestS (letR T) d (R.map stripV) = bestS (letR T) d R := by unfold bestS; rw [bestF_strip, List.length_map]
    rw [h]
    cases bestS (letR T) d R with
    | none => rfl
    | some q =>
      obtain ⟨i, v⟩ := q
      simp only
      rw [slAt_strip, show setFree (stripV (slAt R i)) v = stripV (setFree (slAt R i) v) from rfl, ← List.map_set, fitS_strip T d n]
      rfl
theorem roomF_strip (T : List RowS) (d : Vc) (m : Nat) : ∀ R : List SlotR, roomF (letR T) d m (R.map stripV) = roomF (letR T) d m R
  | [] => rfl
  | r :: R => by rw [List.map_cons, roomF_cons, roomF_cons, roomF_strip T d m R]; rfl
theorem fitS_alike {T : List RowS} {d : Vc} {n : Nat} {R R' : List SlotR} (h : R'.map stripV = R.map stripV) : fitS (letR T) d n R' = fitS (letR T) d n R := by
  rw [← fitS_strip, h, fitS_strip]
theorem roomS_alike {T : List RowS} {d : Vc} {m : Nat} {R R' : List SlotR} (h : R'.map stripV = R.map stripV) : roomS (letR T) d m R' = roomS (letR T) d m R := by
  unfold roomS
  rw [← roomF_strip, h, roomF_strip]
theorem alike_fit {R R' : List SlotR} (h : R'.map stripV = R.map stripV) (hk : FitK R) : FitK R' := fun r hr => by
  have h1 : stripV r ∈ R'.map stripV := List.mem_map_of_mem hr
  rw [h] at h1
  obtain ⟨s, hs, he⟩ := List.mem_map.1 h1
  have : r.2.2.2 = s.2.2.2 := (congrArg (fun x : SlotR => x.2.2.2) he).symm
  rw [this]
  exact hk s hs
section
variable {H : Type} {P : Program}
/-- The reach of a run, of slots' labels. -/
theorem slots_fit32 {t e p : TypeId} {f0 f1 f2 : Field} {R : List SlotR} {d : DataW H} (ut : P.underlying t = some (.slice e)) (he : P.underlying e = some (.struct #[f0, f1, f2])) (u2 : P.underlying f2.type = some (.slice p)) (b : P.bytesOf p = 32)
    (hd : SlotsD R d) (hw : ∀ n ∈ d.weights P t, n ≤ reachBytes) : ∀ r ∈ R, r.2.2.2.length ≤ 4398046511104 := by
  rcases hd with ⟨_, rfl⟩ | ⟨el, sp, rfl, hl, hi⟩
  · exact fun r hr => by cases hr
  · simp only [DataW.weights, ut, List.mem_cons, List.mem_append] at hw
    intro r hr
    obtain ⟨i, h, rfl⟩ := List.getElem_of_mem hr
    obtain ⟨x, hx, a', b', dl, hxe, hs⟩ := hi i h
    rw [slAt_eq h] at hs
    have hw2 : ∀ n ∈ x.weights P e, n ≤ reachBytes := fun n hn => hw _ (Or.inr (Or.inl (weightsAll_at hx n hn)))
    subst hxe
    simp only [DataW.weights, he, List.map_cons, List.map_nil, DataW.weightsEach, List.mem_append] at hw2
    rcases hs with ⟨_, h0⟩ | ⟨sp', rfl⟩
    · rw [h0]; simp
    · have h1 := hw2 ((R[i].2.2.2.length + sp'.length) * 32) (by simp [DataW.weights, u2, b])
      simp only [reachBytes] at h1
      omega
end
end Go.Dm
namespace Go.Proofs.Ytibimbcjnjefdaa
open Go.RowKit Go.Dm

set_option maxHeartbeats 2000000 in
set_option maxRecDepth 100000 in
theorem rfit_w (T : List RowS) (R : List SlotR) (v vx : Value) (d : Vc) (hd : OkV d) (n : Int) (w : World) (hT : T.length ≤ 35184372088832) (hf : FitR T) (ht : Terms w vx T) (hm : R.length * 72 ≤ 140737488355328) (hk : FitK R) (hx : Slots w v R) :
    Calls Try.prog 11 #[v, vx, vVal d, .int .i64 n] w fun e w' => ∃ vo, e = .returned (.tuple #[vo, .bool (fitI (letR T) d n R).isSome]) ∧ Strs w' vo ((fitI (letR T) d n R).getD []) ∧ Ext w w' := by
  by_cases h8 : 8 < n
  · have hI : fitI (letR T) d n R = none := by unfold fitI; rw [if_pos h8]
    rw [hI]
    unfold vVal vF
    obtain ⟨q2, cap2, rfl, _, _⟩ := ht.shape
    obtain ⟨qx, capx, rfl, _, _⟩ := hx.shape
    go_enter Try.func11, Try.ntmps11
    go_wp2
    go_ret2
    exact ⟨_, rfl, Strs.nil _, (Ext.refl _).alloc _⟩
  · by_cases h0 : n < 0
    · have hI : fitI (letR T) d n R = some [] := by unfold fitI; rw [if_neg h8, show n.toNat = 0 by omega]; rfl
      rw [hI]
      have hW : Ext w (w.alloc (.cells #[.int .u64 (vG d 0 : Nat), .int .u64 (vG d 1 : Nat), .int .u64 (vG d 2 : Nat), .int .u64 (vG d 3 : Nat)] 36)) := (Ext.refl _).alloc _
      obtain ⟨q2, cap2, rfl, _, _⟩ := ht.shape
      have hx0 := hx
      obtain ⟨qx, capx, rfl, _, _⟩ := hx0.shape
      have hone := hx.one
      have hsl := (hx.ext hW).sl
      unfold vVal vF
      go_enter Try.func11, Try.ntmps11
      go_wp2_with (at_builtin; refine wpList_appE rfl _ _ Try.slSlotR rfl (Ext.refl _) rfl (World.ownsRow_nil _ _ _ _) rfl hsl hone (by omega) ?_; intro v1 w1 ho1 h1 _)
      clear ho1
      go_loopw [11, 12] (fun t10 i wr => t10 = .slice none 0 0 ∧ i = .int .i64 0 ∧ wr = w1) (fun _ i _ => 0)
      case atStart => exact ⟨rfl, rfl, rfl⟩
      case round =>
        obtain ⟨rfl, rfl, rfl⟩ := hrel
        go_wp2
        go_ret2
        exact ⟨_, rfl, Strs.nil _, hW.trans h1⟩
    · obtain ⟨N, rfl⟩ : ∃ N : Nat, n = N := ⟨n.toNat, by omega⟩
      have hI : fitI (letR T) d N R = fitS (letR T) d N R := by unfold fitI; rw [if_neg h8, Int.toNat_natCast]
      rw [hI]
      exact rfitN_w T R v vx d hd N (by omega) w hT hf ht hm hk hx

theorem fitI_alike {T : List RowS} {d : Vc} {n : Int} {R R' : List SlotR} (h : R'.map stripV = R.map stripV) : fitI (letR T) d n R' = fitI (letR T) d n R := by
  unfold fitI
  rw [fitS_alike h]

open Go.ChangeShapes Go.WideShapes in
set_option maxRecDepth 100000 in
theorem Try.openSlots32 {H : Type} {enc : TypeId × Value → H} {W : World} {ts : List TypeId} {ds : List (DataW H)} {j : Nat} {a : Option Addr} {len cap : Nat} {d : DataW H} {ps : List MemPlace}
    (hsz : (DataW.weightsEach Try.prog ts ds).all (· ≤ reachBytes) = true) (ht : ts[j]? = some 22) (hd : ds[j]? = some d)
    (h : DataW.Trod enc Try.prog W 0 (fun _ => true) true 22 (.slice a len cap) d ps) : ∃ R : List SlotR, Slots W (.slice a len cap) R ∧ R.length * 72 ≤ 140737488351232 ∧ (FitK R ∧ ∀ r ∈ R, r.2.2.2.length ≤ 4398046511104) := by
  obtain ⟨R, hx, hc⟩ := slots_of_trod Try.underlying22 Try.underlying47 (by kernel_rfl) rfl rfl rfl (by kernel_rfl) (by kernel_rfl) (by kernel_rfl)
    Try.underlying9 Try.underlying26 Try.underlying24 (by kernel_rfl)
    Try.underlying45 Try.underlying57 (by kernel_rfl) rfl rfl (by kernel_rfl) (by kernel_rfl) Try.underlying9 Try.underlying9 h
  have hw : ∀ n ∈ d.weights Try.prog 22, n ≤ reachBytes := fun n hn => of_decide_eq_true (List.all_eq_true.1 hsz _ (DataW.weights_mem_each ht hd _ hn))
  have hb : Try.prog.bytesOf 47 = 72 := by kernel_rfl
  have hf := slots_fit Try.underlying22 Try.underlying47 Try.underlying45 (by kernel_rfl) hc hw
  have hf2 := slots_fit32 Try.underlying22 Try.underlying47 Try.underlying45 (by kernel_rfl) hc hw
  rw [hb] at hf
  exact ⟨R, hx, hf.1, hf.2, hf2⟩

set_option maxHeartbeats 4000000 in
set_option maxRecDepth 100000 in
theorem packtells_w (R : List SlotR) (T : List RowS) (d : Vc) (n : Int) (v vx : Value) (w : World) (hm : R.length * 72 ≤ 140737488351232) (hk : FitK R ∧ ∀ r ∈ R, r.2.2.2.length ≤ 4398046511104) (hx : Slots w v R) (hT : T.length ≤ 2932031007319) (hf : FitR T) (ht : Terms w vx T) (hd : OkV d) (hn : -9223372036854775808 ≤ n ∧ n ≤ 9223372036854775807) :
    Calls Try.prog 3 #[v, vx, vVal d, .int .i64 n] w fun e w' => e = .returned (.bool true) ∧ Ext w w' := by
  obtain ⟨hk, hk32⟩ := hk
  obtain ⟨p, cap, rfl, _, _⟩ := hx.shape
  obtain ⟨q, cap2, rfl, _, _⟩ := ht.shape
  have hB := VBox.new w (vG d) 26
  have hW : Ext w (w.alloc (.cells #[.int .u64 (vG d 0 : Nat), .int .u64 (vG d 1 : Nat), .int .u64 (vG d 2 : Nat), .int .u64 (vG d 3 : Nat)] 26)) := (Ext.refl _).alloc _
  have CE := kexamples_w (w.alloc (.cells #[.int .u64 (vG d 0 : Nat), .int .u64 (vG d 1 : Nat), .int .u64 (vG d 2 : Nat), .int .u64 (vG d 3 : Nat)] 26))
  have CF := fun (w1 : World) (h : Ext w w1) => kfit_w T R (.slice p R.length cap) (.slice q T.length cap2) d hd n w1 (by omega) hf (ht.ext h) (by omega) hk (hx.ext h)
  have CR := fun (w1 : World) (h : Ext w w1) => kroom_w T R (.slice p R.length cap) (.slice q T.length cap2) d hd n hn.2 w1 (by omega) hf (ht.ext h) (by omega) hk (hx.ext h)
  have CS := fun (w1 : World) (h : Ext w w1) => krefslots_w R (.slice p R.length cap) w1 (by omega) hk32 (hx.ext h)
  have CT := fun (w1 : World) (h : Ext w w1) => krefs_w T (.slice q T.length cap2) w1 (by omega) (ht.ext h)
  have CV := fun U => refv_w d U
  have CFr := fun (R' : List SlotR) (hR : R'.map stripV = R.map stripV) (v' vx' : Value) (U : World) (hs : Slots U v' R') (hts : Terms U vx' T) => rfit_w T R' v' vx' d hd n U (by omega) hf hts (by have := congrArg List.length hR; simp only [List.length_map] at this; omega) (alike_fit hR hk) hs
  have CRr := fun (R' : List SlotR) (hR : R'.map stripV = R.map stripV) (v' vx' : Value) (U : World) (hs : Slots U v' R') (hts : Terms U vx' T) => rroom_w R' T d n n.toNat (by omega) (by omega) v' vx' U (by have := congrArg List.length hR; simp only [List.length_map] at this; omega) (alike_fit hR hk) hs (by omega) hf hts hd
  have hfa := fun (R' : List SlotR) (hR : R'.map stripV = R.map stripV) => fitI_alike (T := T) (d := d) (n := n) hR
  have hra := fun (R' : List SlotR) (hR : R'.map stripV = R.map stripV) => roomS_alike (T := T) (d := d) (m := n.toNat) hR
  have hl8 : ((fitI (letR T) d n R).getD []).length ≤ 8 := by
    unfold fitI
    split
    · simp
    · cases hA : fitS (letR T) d n.toNat R with
      | none => simp
      | some a => have := fit_len hA; simp; omega
  generalize fitI (letR T) d n R = A at *
  generalize roomS (letR T) d n.toNat R = rm at *
  replace CFr := Lib.hid CFr
  replace CRr := Lib.hid CRr
  replace CS := Lib.hid CS
  replace CT := Lib.hid CT
  replace hfa := Lib.hid hfa
  replace hra := Lib.hid hra
  unfold vVal vF at CF CR CV ⊢
  replace CF := Lib.hid CF
  replace CR := Lib.hid CR
  replace CV := Lib.hid CV
  go_enter Try.func3, Try.ntmps3
  go_wp2_with fail
  refine CE.mono ?_; rintro e w1 ⟨rfl, h1⟩
  replace hB := (hB.ext h1).four
  replace h1 := hW.trans h1
  clear CE hW
  obtain ⟨_, b0, b1, b2, b3, _, _, _, _⟩ := id hB
  go_wp2_with fail
  refine (CF.out w1 h1).mono ?_; rintro e w2 ⟨vo, rfl, hs, h2⟩
  replace hB := hB.ext h2
  replace h2 := h1.trans h2
  clear h1 b0 b1 b2 b3 CF
  obtain ⟨b4, b0, b1, b2, b3, _, _, _, _⟩ := id hB
  go_wp2_with fail
  try simp only [Act.put, List.setIfInBounds_toArray, List.set_cons_succ, List.set_cons_zero]
  refine Dm.wp_region_ext 13 (Dm.bits 13 0) (Ext.refl w2) (by kernel_rfl) (by kernel_rfl) (by kernel_rfl) ?_
  refine Dm.wpE_take (i := 0) (listed' := (Dm.bits 13 1)) (by kernel_rfl) (by kernel_rfl) rfl (fun _ _ _ _ h => h) ?_; apply Exists.intro; refine And.intro (fun x => ?_) ?_
  · go_big_quiet_step (((go_at_call 14; exact Calls.quietE (CV.out _)))); exact wpQuiet_nil rfl
  refine Dm.wpE_take (i := 2) (listed' := (Dm.bits 13 5)) (by kernel_rfl) (by kernel_rfl) rfl (fun _ _ _ _ h => h) ?_; apply Exists.intro; refine And.intro (fun x => ?_) ?_
  · go_big_quiet_step (((go_at_call 14; exact Calls.quietE (CV.out _)))); exact wpQuiet_nil rfl
  refine Dm.wpE_take (i := 4) (listed' := (Dm.bits 13 21)) (by kernel_rfl) (by kernel_rfl) rfl (fun _ _ _ _ h => h) ?_; apply Exists.intro; refine And.intro (fun x => ?_) ?_
  · go_big_quiet_step (((go_at_call 14; exact Calls.quietE (CV.out _)))); exact wpQuiet_nil rfl
  refine Dm.wpE_take (i := 6) (listed' := (Dm.bits 13 85)) (by kernel_rfl) (by kernel_rfl) rfl (fun _ _ _ _ h => h) ?_; apply Exists.intro; refine And.intro (fun x => ?_) ?_
  · go_big_quiet_step (((go_at_call 14; exact Calls.quietE (CV.out _)))); exact wpQuiet_nil rfl
  refine Dm.wpE_one (i := 1) (listed' := (Dm.bits 13 87)) (by kernel_rfl) (by kernel_rfl) rfl (Ext.refl w2) (fun w1a hx1a => ?_)
  have hX1a := Ext.trans (Ext.refl w2) hx1a
  go_wp2_with (go_at_call 12; go_must (refine (CS.out w1a (h2.trans hX1a)).mono ?_; rintro e w1b ⟨r1, R1, rfl, hSl1, hR1, hs1⟩))
  obtain ⟨p1, c1, rfl, _, _⟩ := hSl1.shape
  have hX1b := Ext.trans hX1a hs1
  try simp only [Exit.then, Act.put]
  refine Dm.wpE_one (i := 3) (listed' := (Dm.bits 13 95)) (by kernel_rfl) (by kernel_rfl) rfl hX1b (fun w2a hx2a => ?_)
  have hX2a := Ext.trans hX1b hx2a
  replace hSl1 := hSl1.ext hx2a
  go_wp2_with (go_at_call 13; go_must (refine (CT.out w2a (h2.trans hX2a)).mono ?_; rintro e w2b ⟨r2, rfl, hTl1, hs2⟩))
  obtain ⟨p2, c2, rfl, _, _⟩ := hTl1.shape
  have hX2b := Ext.trans hX2a hs2
  replace hSl1 := hSl1.ext hs2
  try simp only [Exit.then, Act.put]
  refine Dm.wpE_take (i := 5) (listed' := (Dm.bits 13 127)) (by kernel_rfl) (by kernel_rfl) rfl (fun _ _ _ _ h => h) ?_; apply Exists.intro; refine And.intro (fun x => ?_) ?_
  · go_big_quiet_step (((go_at_call 14; exact Calls.quietE (CV.out _)))); exact wpQuiet_nil rfl
  refine Dm.wpE_one (i := 7) (listed' := (Dm.bits 13 255)) (by kernel_rfl) (by kernel_rfl) rfl hX2b (fun w3a hx3a => ?_)
  have hX3a := Ext.trans hX2b hx3a
  replace hSl1 := hSl1.ext hx3a
  replace hTl1 := hTl1.ext hx3a
  have C7 := CFr.out R1 hR1 _ _ w3a hSl1 hTl1
  rw [hfa.out R1 hR1] at C7
  unfold vVal vF at C7
  go_wp2_with (go_at_call 11; go_must (refine C7.mono ?_; rintro e w3b ⟨vo2, rfl, hsb, hs3⟩))
  have hX3b := Ext.trans hX3a hs3
  try simp only [Exit.then, Act.put]
  refine Dm.wpE_take (i := 8) (listed' := (Dm.bits 13 511)) (by kernel_rfl) (by kernel_rfl) rfl (fun _ _ _ _ h => h) ?_; apply Exists.intro; refine And.intro (fun x => ?_) ?_
  · go_big_quiet_step (((go_at_call 14; exact Calls.quietE (CV.out _)))); exact wpQuiet_nil rfl
  refine Dm.wpE_take (i := 9) (listed' := (Dm.bits 13 1023)) (by kernel_rfl) (by kernel_rfl) rfl (fun _ _ _ _ h => h) ?_; apply Exists.intro; refine And.intro (fun x => ?_) ?_
  · go_big_quiet_step (((go_at_call 14; exact Calls.quietE (CV.out _)))); exact wpQuiet_nil rfl
  refine Dm.wpE_take (i := 10) (listed' := (Dm.bits 13 2047)) (by kernel_rfl) (by kernel_rfl) rfl (fun _ _ _ _ h => h) ?_; apply Exists.intro; refine And.intro (fun x => ?_) ?_
  · go_big_quiet_step (((go_at_call 14; exact Calls.quietE (CV.out _)))); exact wpQuiet_nil rfl
  refine Dm.wpE_take (i := 11) (listed' := (Dm.bits 13 4095)) (by kernel_rfl) (by kernel_rfl) rfl (fun _ _ _ _ h => h) ?_; apply Exists.intro; refine And.intro (fun x => ?_) ?_
  · go_big_quiet_step (((go_at_call 14; exact Calls.quietE (CV.out _)))); exact wpQuiet_nil rfl
  refine Dm.wpE_take (i := 12) (listed' := (Dm.bits 13 8191)) (by kernel_rfl) (by kernel_rfl) rfl (fun _ _ _ _ h => h) ?_; apply Exists.intro; refine And.intro (fun x => ?_) ?_
  · go_big_quiet_step (((go_at_call 14; exact Calls.quietE (CV.out _)))); exact wpQuiet_nil rfl
  refine Dm.wpE_done (by kernel_rfl) hX3b (fun w4a hx4a => ?_)
  have hX4a := Ext.trans hX3b hx4a
  replace hsb := hsb.ext hx4a
  have hs3 := hs.ext hX4a
  have hB3 := hB.ext hX4a
  have hw3 := h2.trans hX4a
  obtain ⟨po, co, rfl, _, _⟩ := hs3.shape
  obtain ⟨po2, co2, rfl, _, _⟩ := hsb.shape
  clear hs b0 b1 b2 b3 b4
  generalize w4a = w3 at *
  have CX : ∀ U, Ext w3 U → Calls Try.prog 15 #[.slice po (A.getD []).length co, .slice po2 (A.getD []).length co2] U fun e w' => e = .returned (.bool true) ∧ Ext U w' := fun U h => by
    have := ktexts_w (A.getD []) (A.getD []) _ _ U (by omega) (hs3.ext h) (hsb.ext h)
    rw [decide_eq_true rfl] at this
    exact this
  replace CX := Lib.hid CX
  obtain ⟨b4, b0, b1, b2, b3, _, _, _, _⟩ := id hB3
  go_wp2_with fail
  try simp only [Act.put, List.setIfInBounds_toArray, List.set_cons_succ, List.set_cons_zero]
  refine Dm.wp_region_ext 28 (Dm.bits 28 0) (Ext.refl w3) (by kernel_rfl) (by kernel_rfl) (by kernel_rfl) ?_
  refine Dm.wpE_take (i := 0) (listed' := (Dm.bits 28 1)) (by kernel_rfl) (by kernel_rfl) rfl (fun _ _ _ _ h => h) ?_; apply Exists.intro; refine And.intro (fun x => ?_) ?_
  · go_big_quiet_step ((first | (go_at_call 15; exact Calls.quietE (CX.out _ (Ext.trans (ext_grow _ _) (ext_grow _ _)))) | (go_at_call 16; exact Calls.quietE (CR.out _ (hw3.trans (Ext.trans (ext_grow _ _) (ext_grow _ _))))) | (go_at_call 14; exact Calls.quietE (CV.out _)))); exact wpQuiet_nil rfl
  refine Dm.wpE_take (i := 1) (listed' := (Dm.bits 28 3)) (by kernel_rfl) (by kernel_rfl) rfl (fun _ _ _ _ h => h) ?_; apply Exists.intro; refine And.intro (fun x => ?_) ?_
  · go_big_quiet_step ((first | (go_at_call 15; exact Calls.quietE (CX.out _ (Ext.trans (ext_grow _ _) (ext_grow _ _)))) | (go_at_call 16; exact Calls.quietE (CR.out _ (hw3.trans (Ext.trans (ext_grow _ _) (ext_grow _ _))))) | (go_at_call 14; exact Calls.quietE (CV.out _)))); exact wpQuiet_nil rfl
  refine Dm.wpE_take (i := 2) (listed' := (Dm.bits 28 7)) (by kernel_rfl) (by kernel_rfl) rfl (fun _ _ _ _ h => h) ?_; apply Exists.intro; refine And.intro (fun x => ?_) ?_
  · go_big_quiet_step ((first | (go_at_call 15; exact Calls.quietE (CX.out _ (Ext.trans (ext_grow _ _) (ext_grow _ _)))) | (go_at_call 16; exact Calls.quietE (CR.out _ (hw3.trans (Ext.trans (ext_grow _ _) (ext_grow _ _))))) | (go_at_call 14; exact Calls.quietE (CV.out _)))); exact wpQuiet_nil rfl
  refine Dm.wpE_take (i := 3) (listed' := (Dm.bits 28 15)) (by kernel_rfl) (by kernel_rfl) rfl (fun _ _ _ _ h => h) ?_; apply Exists.intro; refine And.intro (fun x => ?_) ?_
  · go_big_quiet_step ((first | (go_at_call 15; exact Calls.quietE (CX.out _ (Ext.trans (ext_grow _ _) (ext_grow _ _)))) | (go_at_call 16; exact Calls.quietE (CR.out _ (hw3.trans (Ext.trans (ext_grow _ _) (ext_grow _ _))))) | (go_at_call 14; exact Calls.quietE (CV.out _)))); exact wpQuiet_nil rfl
  refine Dm.wpE_take (i := 4) (listed' := (Dm.bits 28 31)) (by kernel_rfl) (by kernel_rfl) rfl (fun _ _ _ _ h => h) ?_; apply Exists.intro; refine And.intro (fun x => ?_) ?_
  · go_big_quiet_step ((first | (go_at_call 15; exact Calls.quietE (CX.out _ (Ext.trans (ext_grow _ _) (ext_grow _ _)))) | (go_at_call 16; exact Calls.quietE (CR.out _ (hw3.trans (Ext.trans (ext_grow _ _) (ext_grow _ _))))) | (go_at_call 14; exact Calls.quietE (CV.out _)))); exact wpQuiet_nil rfl
  refine Dm.wpE_take (i := 5) (listed' := (Dm.bits 28 63)) (by kernel_rfl) (by kernel_rfl) rfl (fun _ _ _ _ h => h) ?_; apply Exists.intro; refine And.intro (fun x => ?_) ?_
  · go_big_quiet_step ((first | (go_at_call 15; exact Calls.quietE (CX.out _ (Ext.trans (ext_grow _ _) (ext_grow _ _)))) | (go_at_call 16; exact Calls.quietE (CR.out _ (hw3.trans (Ext.trans (ext_grow _ _) (ext_grow _ _))))) | (go_at_call 14; exact Calls.quietE (CV.out _)))); exact wpQuiet_nil rfl
  refine Dm.wpE_take (i := 6) (listed' := (Dm.bits 28 127)) (by kernel_rfl) (by kernel_rfl) rfl (fun _ _ _ _ h => h) ?_; apply Exists.intro; refine And.intro (fun x => ?_) ?_
  · go_big_quiet_step ((first | (go_at_call 15; exact Calls.quietE (CX.out _ (Ext.trans (ext_grow _ _) (ext_grow _ _)))) | (go_at_call 16; exact Calls.quietE (CR.out _ (hw3.trans (Ext.trans (ext_grow _ _) (ext_grow _ _))))) | (go_at_call 14; exact Calls.quietE (CV.out _)))); exact wpQuiet_nil rfl
  refine Dm.wpE_take (i := 7) (listed' := (Dm.bits 28 255)) (by kernel_rfl) (by kernel_rfl) rfl (fun _ _ _ _ h => h) ?_; apply Exists.intro; refine And.intro (fun x => ?_) ?_
  · go_big_quiet_step ((first | (go_at_call 15; exact Calls.quietE (CX.out _ (Ext.trans (ext_grow _ _) (ext_grow _ _)))) | (go_at_call 16; exact Calls.quietE (CR.out _ (hw3.trans (Ext.trans (ext_grow _ _) (ext_grow _ _))))) | (go_at_call 14; exact Calls.quietE (CV.out _)))); exact wpQuiet_nil rfl
  refine Dm.wpE_take (i := 8) (listed' := (Dm.bits 28 511)) (by kernel_rfl) (by kernel_rfl) rfl (fun _ _ _ _ h => h) ?_; apply Exists.intro; refine And.intro (fun x => ?_) ?_
  · go_big_quiet_step ((first | (go_at_call 15; exact Calls.quietE (CX.out _ (Ext.trans (ext_grow _ _) (ext_grow _ _)))) | (go_at_call 16; exact Calls.quietE (CR.out _ (hw3.trans (Ext.trans (ext_grow _ _) (ext_grow _ _))))) | (go_at_call 14; exact Calls.quietE (CV.out _)))); exact wpQuiet_nil rfl
  refine Dm.wpE_take (i := 9) (listed' := (Dm.bits 28 1023)) (by kernel_rfl) (by kernel_rfl) rfl (fun _ _ _ _ h => h) ?_; apply Exists.intro; refine And.intro (fun x => ?_) ?_
  · go_big_quiet_step ((first | (go_at_call 15; exact Calls.quietE (CX.out _ (Ext.trans (ext_grow _ _) (ext_grow _ _)))) | (go_at_call 16; exact Calls.quietE (CR.out _ (hw3.trans (Ext.trans (ext_grow _ _) (ext_grow _ _))))) | (go_at_call 14; exact Calls.quietE (CV.out _)))); exact wpQuiet_nil rfl
  refine Dm.wpE_take (i := 10) (listed' := (Dm.bits 28 2047)) (by kernel_rfl) (by kernel_rfl) rfl (fun _ _ _ _ h => h) ?_; apply Exists.intro; refine And.intro (fun x => ?_) ?_
  · go_big_quiet_step ((first | (go_at_call 15; exact Calls.quietE (CX.out _ (Ext.trans (ext_grow _ _) (ext_grow _ _)))) | (go_at_call 16; exact Calls.quietE (CR.out _ (hw3.trans (Ext.trans (ext_grow _ _) (ext_grow _ _))))) | (go_at_call 14; exact Calls.quietE (CV.out _)))); exact wpQuiet_nil rfl
  refine Dm.wpE_take (i := 11) (listed' := (Dm.bits 28 4095)) (by kernel_rfl) (by kernel_rfl) rfl (fun _ _ _ _ h => h) ?_; apply Exists.intro; refine And.intro (fun x => ?_) ?_
  · go_big_quiet_step ((first | (go_at_call 15; exact Calls.quietE (CX.out _ (Ext.trans (ext_grow _ _) (ext_grow _ _)))) | (go_at_call 16; exact Calls.quietE (CR.out _ (hw3.trans (Ext.trans (ext_grow _ _) (ext_grow _ _))))) | (go_at_call 14; exact Calls.quietE (CV.out _)))); exact wpQuiet_nil rfl
  refine Dm.wpE_take (i := 12) (listed' := (Dm.bits 28 8191)) (by kernel_rfl) (by kernel_rfl) rfl (fun _ _ _ _ h => h) ?_; apply Exists.intro; refine And.intro (fun x => ?_) ?_
  · go_big_quiet_step ((first | (go_at_call 15; exact Calls.quietE (CX.out _ (Ext.trans (ext_grow _ _) (ext_grow _ _)))) | (go_at_call 16; exact Calls.quietE (CR.out _ (hw3.trans (Ext.trans (ext_grow _ _) (ext_grow _ _))))) | (go_at_call 14; exact Calls.quietE (CV.out _)))); exact wpQuiet_nil rfl
  refine Dm.wpE_take (i := 13) (listed' := (Dm.bits 28 16383)) (by kernel_rfl) (by kernel_rfl) rfl (fun _ _ _ _ h => h) ?_; apply Exists.intro; refine And.intro (fun x => ?_) ?_
  · go_big_quiet_step ((first | (go_at_call 15; exact Calls.quietE (CX.out _ (Ext.trans (ext_grow _ _) (ext_grow _ _)))) | (go_at_call 16; exact Calls.quietE (CR.out _ (hw3.trans (Ext.trans (ext_grow _ _) (ext_grow _ _))))) | (go_at_call 14; exact Calls.quietE (CV.out _)))); exact wpQuiet_nil rfl
  refine Dm.wpE_take (i := 14) (listed' := (Dm.bits 28 32767)) (by kernel_rfl) (by kernel_rfl) rfl (fun _ _ _ _ h => h) ?_; apply Exists.intro; refine And.intro (fun x => ?_) ?_
  · go_big_quiet_step ((first | (go_at_call 15; exact Calls.quietE (CX.out _ (Ext.trans (ext_grow _ _) (ext_grow _ _)))) | (go_at_call 16; exact Calls.quietE (CR.out _ (hw3.trans (Ext.trans (ext_grow _ _) (ext_grow _ _))))) | (go_at_call 14; exact Calls.quietE (CV.out _)))); exact wpQuiet_nil rfl
  refine Dm.wpE_take (i := 15) (listed' := (Dm.bits 28 65535)) (by kernel_rfl) (by kernel_rfl) rfl (fun _ _ _ _ h => h) ?_; apply Exists.intro; refine And.intro (fun x => ?_) ?_
  · go_big_quiet_step ((first | (go_at_call 15; exact Calls.quietE (CX.out _ (Ext.trans (ext_grow _ _) (ext_grow _ _)))) | (go_at_call 16; exact Calls.quietE (CR.out _ (hw3.trans (Ext.trans (ext_grow _ _) (ext_grow _ _))))) | (go_at_call 14; exact Calls.quietE (CV.out _)))); exact wpQuiet_nil rfl
  refine Dm.wpE_take (i := 16) (listed' := (Dm.bits 28 131071)) (by kernel_rfl) (by kernel_rfl) rfl (fun _ _ _ _ h => h) ?_; apply Exists.intro; refine And.intro (fun x => ?_) ?_
  · go_big_quiet_step ((first | (go_at_call 15; exact Calls.quietE (CX.out _ (Ext.trans (ext_grow _ _) (ext_grow _ _)))) | (go_at_call 16; exact Calls.quietE (CR.out _ (hw3.trans (Ext.trans (ext_grow _ _) (ext_grow _ _))))) | (go_at_call 14; exact Calls.quietE (CV.out _)))); exact wpQuiet_nil rfl
  refine Dm.wpE_take (i := 17) (listed' := (Dm.bits 28 262143)) (by kernel_rfl) (by kernel_rfl) rfl (fun _ _ _ _ h => h) ?_; apply Exists.intro; refine And.intro (fun x => ?_) ?_
  · go_big_quiet_step ((first | (go_at_call 15; exact Calls.quietE (CX.out _ (Ext.trans (ext_grow _ _) (ext_grow _ _)))) | (go_at_call 16; exact Calls.quietE (CR.out _ (hw3.trans (Ext.trans (ext_grow _ _) (ext_grow _ _))))) | (go_at_call 14; exact Calls.quietE (CV.out _)))); exact wpQuiet_nil rfl
  refine Dm.wpE_take (i := 19) (listed' := (Dm.bits 28 786431)) (by kernel_rfl) (by kernel_rfl) rfl (fun _ _ _ _ h => h) ?_; apply Exists.intro; refine And.intro (fun x => ?_) ?_
  · go_big_quiet_step ((first | (go_at_call 15; exact Calls.quietE (CX.out _ (Ext.trans (ext_grow _ _) (ext_grow _ _)))) | (go_at_call 16; exact Calls.quietE (CR.out _ (hw3.trans (Ext.trans (ext_grow _ _) (ext_grow _ _))))) | (go_at_call 14; exact Calls.quietE (CV.out _)))); exact wpQuiet_nil rfl
  refine Dm.wpE_take (i := 21) (listed' := (Dm.bits 28 2883583)) (by kernel_rfl) (by kernel_rfl) rfl (fun _ _ _ _ h => h) ?_; apply Exists.intro; refine And.intro (fun x => ?_) ?_
  · go_big_quiet_step ((first | (go_at_call 15; exact Calls.quietE (CX.out _ (Ext.trans (ext_grow _ _) (ext_grow _ _)))) | (go_at_call 16; exact Calls.quietE (CR.out _ (hw3.trans (Ext.trans (ext_grow _ _) (ext_grow _ _))))) | (go_at_call 14; exact Calls.quietE (CV.out _)))); exact wpQuiet_nil rfl
  refine Dm.wpE_take (i := 23) (listed' := (Dm.bits 28 11272191)) (by kernel_rfl) (by kernel_rfl) rfl (fun _ _ _ _ h => h) ?_; apply Exists.intro; refine And.intro (fun x => ?_) ?_
  · go_big_quiet_step ((first | (go_at_call 15; exact Calls.quietE (CX.out _ (Ext.trans (ext_grow _ _) (ext_grow _ _)))) | (go_at_call 16; exact Calls.quietE (CR.out _ (hw3.trans (Ext.trans (ext_grow _ _) (ext_grow _ _))))) | (go_at_call 14; exact Calls.quietE (CV.out _)))); exact wpQuiet_nil rfl
  refine Dm.wpE_one (i := 18) (listed' := (Dm.bits 28 11534335)) (by kernel_rfl) (by kernel_rfl) rfl (Ext.refl w3) (fun w1a hx1a => ?_)
  have hX1a := Ext.trans (Ext.refl w3) hx1a
  go_wp2_with (go_at_call 12; go_must (refine (CS.out w1a (hw3.trans hX1a)).mono ?_; rintro e w1b ⟨r3, R2, rfl, hSl2, hR2, hs1⟩))
  obtain ⟨p3, c3, rfl, _, _⟩ := hSl2.shape
  have hX1b := Ext.trans hX1a hs1
  try simp only [Exit.then, Act.put]
  refine Dm.wpE_one (i := 20) (listed' := (Dm.bits 28 12582911)) (by kernel_rfl) (by kernel_rfl) rfl hX1b (fun w2a hx2a => ?_)
  have hX2a := Ext.trans hX1b hx2a
  replace hSl2 := hSl2.ext hx2a
  go_wp2_with (go_at_call 13; go_must (refine (CT.out w2a (hw3.trans hX2a)).mono ?_; rintro e w2b ⟨r4, rfl, hTl2, hs2⟩))
  obtain ⟨p4, c4, rfl, _, _⟩ := hTl2.shape
  have hX2b := Ext.trans hX2a hs2
  replace hSl2 := hSl2.ext hs2
  try simp only [Exit.then, Act.put]
  refine Dm.wpE_take (i := 22) (listed' := (Dm.bits 28 16777215)) (by kernel_rfl) (by kernel_rfl) rfl (fun _ _ _ _ h => h) ?_; apply Exists.intro; refine And.intro (fun x => ?_) ?_
  · go_big_quiet_step ((first | (go_at_call 15; exact Calls.quietE (CX.out _ (Ext.trans (ext_grow _ _) (ext_grow _ _)))) | (go_at_call 16; exact Calls.quietE (CR.out _ (hw3.trans (Ext.trans (ext_grow _ _) (ext_grow _ _))))) | (go_at_call 14; exact Calls.quietE (CV.out _)))); exact wpQuiet_nil rfl
  refine Dm.wpE_one (i := 24) (listed' := (Dm.bits 28 33554431)) (by kernel_rfl) (by kernel_rfl) rfl hX2b (fun w3a hx3a => ?_)
  have hX3a := Ext.trans hX2b hx3a
  replace hSl2 := hSl2.ext hx3a
  replace hTl2 := hTl2.ext hx3a
  have C8 := CRr.out R2 hR2 _ _ w3a hSl2 hTl2
  rw [hra.out R2 hR2] at C8
  unfold vVal vF at C8
  go_wp2_with (go_at_call 17; go_must (refine C8.mono ?_; rintro e w3b ⟨rfl, hs3⟩))
  have hX3b := Ext.trans hX3a hs3
  try simp only [Exit.then, Act.put]
  refine Dm.wpE_take (i := 25) (listed' := (Dm.bits 28 67108863)) (by kernel_rfl) (by kernel_rfl) rfl (fun _ _ _ _ h => h) ?_; apply Exists.intro; refine And.intro (fun x => ?_) ?_
  · go_big_quiet_step ((first | (go_at_call 15; exact Calls.quietE (CX.out _ (Ext.trans (ext_grow _ _) (ext_grow _ _)))) | (go_at_call 16; exact Calls.quietE (CR.out _ (hw3.trans (Ext.trans (ext_grow _ _) (ext_grow _ _))))) | (go_at_call 14; exact Calls.quietE (CV.out _)))); exact wpQuiet_nil rfl
  refine Dm.wpE_take (i := 26) (listed' := (Dm.bits 28 134217727)) (by kernel_rfl) (by kernel_rfl) rfl (fun _ _ _ _ h => h) ?_; apply Exists.intro; refine And.intro (fun x => ?_) ?_
  · go_big_quiet_step ((first | (go_at_call 15; exact Calls.quietE (CX.out _ (Ext.trans (ext_grow _ _) (ext_grow _ _)))) | (go_at_call 16; exact Calls.quietE (CR.out _ (hw3.trans (Ext.trans (ext_grow _ _) (ext_grow _ _))))) | (go_at_call 14; exact Calls.quietE (CV.out _)))); exact wpQuiet_nil rfl
  refine Dm.wpE_take (i := 27) (listed' := (Dm.bits 28 268435455)) (by kernel_rfl) (by kernel_rfl) rfl (fun _ _ _ _ h => h) ?_; apply Exists.intro; refine And.intro (fun x => ?_) ?_
  · go_big_quiet_step ((first | (go_at_call 15; exact Calls.quietE (CX.out _ (Ext.trans (ext_grow _ _) (ext_grow _ _)))) | (go_at_call 16; exact Calls.quietE (CR.out _ (hw3.trans (Ext.trans (ext_grow _ _) (ext_grow _ _))))) | (go_at_call 14; exact Calls.quietE (CV.out _)))); exact wpQuiet_nil rfl
  refine Dm.wpE_done (by kernel_rfl) hX3b (fun w4a hx4a => ?_)
  have hX4a := Ext.trans hX3b hx4a
  go_wp2
  go_ret
  exact ⟨rfl, hw3.trans hX4a⟩

open Go.ChangeShapes Go.WideShapes Go.ChangeAt in
set_option maxRecDepth 100000 in
theorem packTells_lifted (os : Os) (started : os.Started) (H : Type) (enc : TypeId × Value → H) :
    ReturnsInHanded {} Try.checked os 3 .any (Rows.packTellsSpec.pre6 enc Try.prog Try.f3 Rows.packTellsRow.domain false) (Rows.packTellsSpec.post enc Try.prog Try.f3 false true false false) := by
  refine returnsInHanded_of_change_sized (C := Try.checked) Try.own started (by kernel_rfl) Try.func3
    (ChangeSpec.witness6 (enc := enc) (C := Try.checked) false ⟨#[], #[.slice none 0 0, .slice none 0 0, .agg #[.int .u64 0, .int .u64 0, .int .u64 0, .int .u64 0], .int .i64 0], []⟩ 8 (by kernel_rfl) (by kernel_rfl) (by kernel_rfl) (by kernel_rfl)) ?_
  intro W base args ds gs before hval0 hW hcnd hsz0 _
  have hsz : (DataW.weightsEach Try.prog (Try.f3.params.toList ++ Rows.packTellsSpec.plain.varTypes Try.prog) (ds ++ gs)).all (· ≤ reachBytes) = true := hsz0
  clear hsz0
  have hval : ∀ (j : Nat) t v, Try.f3.params[j]? = some t → args[j]? = some v → Value.okWide Try.prog W .any base t v := hval0
  have hW' := hW
  obtain ⟨p, q, hA0, hV, rfl, hfz, hnd⟩ := hW
  have hA : DataW.TrodAll enc Try.prog W 0 (fun _ => true) true Try.f3.params.toList args.toList ds p := hA0
  rw [Try.params3] at hA hval hsz
  obtain ⟨v0, vs0, d0, ds0, p0, q0, hargs, rfl, rfl, h0, r0⟩ := trodAll_cons hA
  obtain ⟨v1, vs1, d1, ds1, p1, q1, rfl, rfl, rfl, h1, r1⟩ := trodAll_cons r0
  obtain ⟨v2, vs2, d2, ds2, p2, q2, rfl, rfl, rfl, h2, r2⟩ := trodAll_cons r1
  obtain ⟨v3, vs3, d3, ds3, p3, q3, rfl, rfl, rfl, h3, r3⟩ := trodAll_cons r2
  obtain ⟨rfl, rfl, rfl⟩ := trodAll_nil r3
  obtain rfl : args = #[v0, v1, v2, v3] := by cases args; simp_all
  obtain ⟨rfl, rfl⟩ := trodVars_none hV
  have k0 := h0
  have lt0 : ∀ x ∈ p0, x.block < W.heap.size := by obtain ⟨m, hm⟩ := k0; exact DataW.trod_lt m _ _ _ hm
  have k1 := h1
  have lt1 : ∀ x ∈ p1, x.block < W.heap.size := by obtain ⟨m, hm⟩ := k1; exact DataW.trod_lt m _ _ _ hm
  have k2 := h2
  have lt2 : ∀ x ∈ p2, x.block < W.heap.size := by obtain ⟨m, hm⟩ := k2; exact DataW.trod_lt m _ _ _ hm
  have k3 := h3
  have lt3 : ∀ x ∈ p3, x.block < W.heap.size := by obtain ⟨m, hm⟩ := k3; exact DataW.trod_lt m _ _ _ hm
  obtain ⟨a0, len0, cap0, rfl⟩ := okWide_slice Try.underlying22 (hval 0 22 v0 rfl rfl)
  obtain ⟨xs0, hx0, hm0, hf0⟩ := Try.openSlots32 (j := 0) hsz rfl rfl h0
  obtain ⟨a1, len1, cap1, rfl⟩ := okWide_slice Try.underlying23 (hval 1 23 v1 rfl rfl)
  obtain ⟨xs1, hx1, hm1, hf1⟩ := Try.openTerms (j := 1) hsz rfl rfl h1
  obtain ⟨e2, hd2, rfl⟩ := Try.openVec (hval 2 26 v2 rfl rfl) h2
  obtain ⟨z3, rfl, _, _, wf3⟩ := open_int Try.underlying3 (hval 3 3 v3 rfl rfl) h3
  have rg3 : -9223372036854775808 ≤ z3 ∧ z3 ≤ 9223372036854775807 := by
    have h := wf3
    simp [Lit.wf, IntKind.min, IntKind.max, IntKind.signed, IntKind.bits] at h
    omega
  clear hA0 hval0
  refine (packtells_w xs0 xs1 e2 z3 _ _ W hm0 hf0 hx0 hm1 hf1 hx1 hd2 rg3).mono fun e W' ⟨he, bel⟩ => ?_
  subst he
  exact ⟨_, rfl, _, _, _, [], _, [], hW', trodAll_mk1 (shut_bool Try.underlying4 _), (trodAll_cons_mk (Below.trod Try.laidOut (by kernel_rfl) (of_decide_eq_true (by kernel_rfl)) k0 bel lt0) (trodAll_cons_mk (Below.trod Try.laidOut (by kernel_rfl) (of_decide_eq_true (by kernel_rfl)) k1 bel lt1) (trodAll_cons_mk (Below.trod Try.laidOut (by kernel_rfl) (of_decide_eq_true (by kernel_rfl)) k2 bel lt2) (trodAll_cons_mk (Below.trod Try.laidOut (by kernel_rfl) (of_decide_eq_true (by kernel_rfl)) k3 bel lt3) trodAll_mk0)))), rfl, Below.frame bel _, fun h => by cases h⟩

theorem packTells_holds : Rows.PackTellsSaid :=
  OpenClaim.holds_of_wide 3 Try.f3 rfl rfl rfl rfl rfl rfl rfl ⟨rfl, rfl, rfl, rfl, rfl⟩ rfl rfl rfl rfl rfl (by kernel_rfl) Try.func3 (by kernel_rfl)
    (of_decide_eq_true (by kernel_rfl)) (by unfold Func.isWrapper; first | (rw [if_pos (by decide +kernel)]; kernel_rfl) | (rw [if_neg (by decide +kernel)]; exact ⟨rfl, rfl⟩))
    (fun os started H enc _ => packTells_lifted os started H enc)

end Go.Proofs.Ytibimbcjnjefdaa
