/- Texts one behind the other: Chapter 10: the walk of QuotaSets. -/
import Derived.Test.YtopnllbfhhjobaaDoorT21
namespace Go.Dm
open Go Go.RowKit
theorem abvK_par : ∀ k, k < 8 → k ≠ 0 → 2 ≤ (abvK k).length ∧ ∀ h : (abvK k).length - 2 < (abvK k).length, (abvK k)[(abvK k).length - 2] = parK k := by decide
theorem findS_ok {S : StQ} (hS : OkS S) (k : Nat) : OkV (findS S k).1.2.1 ∧ OkV (findS S k).1.2.2 := by
  unfold findS
  cases h : S k with
  | none => exact ⟨okV_no, okV_no⟩
  | some x => exact ⟨hS.lim k x h, hS.use k x h⟩
theorem vG_noV (i : Nat) : vG noV i = 0 := by
  match i with
  | 0 => rfl
  | 1 => rfl
  | 2 => rfl
  | 3 => rfl
  | i + 4 => rfl
theorem rightS_congr {S U : StQ} (h : ∀ j i, uS U j i = uS S j i) : RightS U ↔ RightS S := by
  have hc : ∀ k i, chiK k i U = chiK k i S := fun k i => by unfold chiK; split <;> simp only [h]
  unfold RightS
  simp only [hc, h]
/-- Was it there? -/
def hadS (S : StQ) (r : EntQ) : Bool := (List.range 8).any fun j => decide (r.1 = pth j) && (S j).isSome
theorem hadS_pth {S : StQ} {j : Nat} (hj : j < 8) {r : EntQ} (h : r.1 = pth j) : hadS S r = (S j).isSome := by
  unfold hadS
  rw [Bool.eq_iff_iff, List.any_eq_true]
  constructor
  · rintro ⟨i, hi, h2⟩
    rw [Bool.and_eq_true, decide_eq_true_iff] at h2
    have := pth_inj (List.mem_range.1 hi) hj (by rw [← h2.1, h])
    rw [← this]; exact h2.2
  · intro h2
    exact ⟨j, List.mem_range.2 hj, by rw [Bool.and_eq_true, decide_eq_true_iff]; exact ⟨h, h2⟩⟩
theorem had_rows {S U : StQ} (h : ∀ j, S j ≠ none → U j ≠ none) : ∀ {l : List Nat}, (∀ j ∈ l, j < 8) → (l.flatMap (rowQ U)).countP (hadS S) = (l.flatMap (rowQ S)).length
  | [], _ => rfl
  | j :: l, h8 => by
    rw [List.flatMap_cons, List.flatMap_cons, List.countP_append, List.length_append, had_rows h fun i hi => h8 i (List.mem_cons_of_mem _ hi)]
    congr 1
    cases hS : S j with
    | none =>
      have : rowQ S j = [] := by simp [rowQ, hS]
      rw [this, List.length_nil, List.countP_eq_zero]
      intro r hr
      rw [hadS_pth (h8 j (by simp)) (rowQ_mem hr).1, hS]; simp
    | some x =>
      obtain ⟨y, hy⟩ := Option.ne_none_iff_exists'.1 (h j (by rw [hS]; simp))
      have e1 : rowQ S j = [(pth j, x.1, x.2)] := by simp [rowQ, hS]
      have e2 : rowQ U j = [(pth j, y.1, y.2)] := by simp [rowQ, hy]
      rw [e1, e2, List.countP_singleton, hadS_pth (h8 j (by simp)) (show ((pth j, y.1, y.2) : EntQ).1 = pth j from rfl), hS]
      rfl
theorem had_count {S U : StQ} (h : ∀ j, S j ≠ none → U j ≠ none) : (conc U).countP (hadS S) = (conc S).length := had_rows h fun _ hj => List.mem_range.1 hj
end Go.Dm
namespace Go.Proofs.YtopnllbfhhjobaaDoor
open Go.RowKit Go.Dm
set_option maxHeartbeats 8000000 in
set_option maxRecDepth 100000 in
theorem quotaSets_w (l m : List ChQ) (c : ChQ) (vl vm : Value) (w : World) (hl : ∀ c ∈ l, OkC c) (hxl : Chs w vl l) (hm : ∀ c ∈ m, OkC c) (hxm : Chs w vm m) (hc : OkC c) (ht : Vars w) :
    Calls Tryd.prog 7 #[vl, vm, chVal c] w fun e w' => e = .returned (.bool true) ∧ Ext w w' := by
  obtain ⟨ql, capl, rfl, _, _⟩ := hxl.shape
  obtain ⟨qm, capm, rfl, _, _⟩ := hxm.shape
  have CE := fun U (h : Ext w U) => qexamples_w U (ht.ext h)
  have CG := fun U (h : Ext w U) => qgrown_w l m _ _ U hl hm (hxl.ext h) (hxm.ext h) (ht.ext h)
  have CA := fun U => qamount_w c hc U
  have CP := fun U => qpaths_w U
  have hS := growS_ok l m
  generalize growS l m = S at *
  have hpk : c.1.1 % 8 < 8 := by omega
  have hao := amtC_ok c
  have hal := amtC_lt c
  generalize amtC c = am at *
  obtain ⟨⟨x, a, b, g, d⟩, bk⟩ := c
  unfold chVal at *
  obtain ⟨hc0, hc1, hc2, hc3, hc4⟩ := hc
  simp only at CA hpk hc0 hc1 hc2 hc3 hc4 ⊢
  have hx8 : ((x : Int) % 8) = ((x % 8 : Nat) : Int) := by omega
  have hx8' : ((x : Int).tmod 8) = ((x % 8 : Nat) : Int) := by rw [Int.tmod_eq_emod_of_nonneg (by omega)]; exact hx8
  generalize x % 8 = pk at *
  have hC := CBx.new w x a b g d bk 28
  have hE : Ext w (w.alloc (.cells #[.int .u8 (x : Nat), .int .u8 (a : Nat), .int .u8 (b : Nat), .int .u8 (g : Nat), .int .u8 (d : Nat), .bool bk] 28)) := (Ext.refl _).alloc _
  have CS := fun v U hx h => set_c S hS v hpk am hao U hx (ht.ext h)
  have CF := fun v k (hk : k < 8) U hx => find_c S v hk U hx
  have CU := fun U h => upsOwn_w (pth pk) U (pth_small pk) (ht.ext h)
  have hokU := hS.set hpk hao (fun j => by have := hal j; omega)
  have hSA : pk ≠ 0 → S (parK pk) = none → setQ S pk am = (S, 7) := fun h1 h2 => by unfold setQ; rw [if_pos ⟨h1, h2⟩]
  have hSB1 : ¬ (pk ≠ 0 ∧ S (parK pk) = none) → ∀ x, S pk = some x → vfits x.2 am = false → setQ S pk am = (S, 10) := fun h1 x hx h2 => by unfold setQ; rw [if_neg h1, hx]; simp [h2]
  have hSB2 : ¬ (pk ≠ 0 ∧ S (parK pk) = none) → ∀ x, S pk = some x → vfits x.2 am = true → setQ S pk am = (updQ S pk (some (am, x.2)), 0) := fun h1 x hx h2 => by unfold setQ; rw [if_neg h1, hx]; simp [h2]
  have hSB3 : ¬ (pk ≠ 0 ∧ S (parK pk) = none) → S pk = none → setQ S pk am = (updQ S pk (some (am, noV)), 0) := fun h1 hx => by unfold setQ; rw [if_neg h1, hx]
  have hups : upsB (pth pk) = ((abvK pk).drop 1).map pth := ups_drop hpk
  have hL0 : abvK pk = 0 :: (abvK pk).drop 1 := abvK_head pk hpk
  have hL4 : (abvK pk).length ≤ 4 := abvK_four pk hpk
  have hLp : pk ≠ 0 → 2 ≤ (abvK pk).length ∧ ∀ h : (abvK pk).length - 2 < (abvK pk).length, (abvK pk)[(abvK pk).length - 2] = parK pk := fun h => abvK_par pk hpk h
  have hfs1 : ∀ k x, S k = some x → findS S k = ((pth k, x.1, x.2), true) := fun k x hx => by unfold findS; rw [hx]
  have hfs0 : ∀ k, S k = none → findS S k = (noEnt, false) := fun k hx => by unfold findS; rw [hx]
  obtain ⟨⟨U, eno⟩, hR⟩ : ∃ r, setQ S pk am = r := ⟨_, rfl⟩
  rw [hR] at CS hokU hSA hSB1 hSB2 hSB3
  simp only at CS hokU
  generalize hLL : abvK pk = L at *
  clear hLL
  have hsame := fun va vb W (hxa : Tree W va (conc S)) (hxb : Tree W vb (conc S)) => qsame_w (conc S) (conc S) va vb W hS.fit_conc hS.fit_conc (conc_small S) hxa hxb
  obtain ⟨⟨⟨os, ol, ou⟩, there⟩, hfo⟩ : ∃ r, findS S pk = r := ⟨_, rfl⟩
  have hou : OkV ou := by
    have := findS_ok hS pk
    rw [hfo] at this
    exact this.2
  have CF0 := fun v U hx => CF v pk hpk U hx
  rw [hfo] at CF0
  have CV := fun W => vfits_w ou am hou hao W
  have hq : ∀ {x y : Vc} (_ : OkV x) (_ : OkV y) (W : World), (binOp .neq 36 (vVal x) (vVal y)).run Tryd.prog W = .ok (.bool (!decide (x = y))) W := fun hx hy W => run_neq_vals Tryd.underlying36 Tryd.underlying34 (by kernel_rfl) hx hy W
  have hq1 := hq hao hao
  have hq2 := hq hou hou
  rw [decide_eq_true rfl] at hq1 hq2
  clear hR hq
  unfold vVal vF at CA CS CV hq1 hq2
  unfold entVal uAt at CF0
  simp only at CF0
  replace CE := Lib.hid CE
  replace CG := Lib.hid CG
  replace CA := Lib.hid CA
  replace CP := Lib.hid CP
  replace CS := Lib.hid CS
  replace CF := Lib.hid CF
  replace CF0 := Lib.hid CF0
  replace CU := Lib.hid CU
  replace CV := Lib.hid CV
  replace hSA := Lib.hid hSA
  replace hSB1 := Lib.hid hSB1
  replace hSB2 := Lib.hid hSB2
  replace hSB3 := Lib.hid hSB3
  replace hfs1 := Lib.hid hfs1
  replace hfs0 := Lib.hid hfs0
  replace hLp := Lib.hid hLp
  replace hsame := Lib.hid hsame
  replace hfo := Lib.hid hfo
  go_enter Tryd.func7, Tryd.ntmps7
  go_wp2_with fail
  refine (CE.out _ hE).mono ?_; rintro e w1 ⟨rfl, h1⟩
  replace hC := hC.ext h1
  replace hE := hE.trans h1
  clear h1
  go_wp2_with fail
  refine (CG.out _ hE).mono ?_; rintro e w2 ⟨v0, rfl, hx, h2⟩
  replace hC := hC.ext h2
  replace hE := hE.trans h2
  clear h2
  obtain ⟨zl, z0, z1, z2, z3, z4, z5⟩ := id hC
  go_wp2_with fail
  try simp only [Act.put, List.setIfInBounds_toArray, List.set_cons_succ, List.set_cons_zero]
  refine Dm.wp_region_ext 7 (Dm.bits 7 0) (Ext.refl w2) (by kernel_rfl) (by kernel_rfl) (by kernel_rfl) ?_
  refine Dm.wpE_take (i := 1) (listed' := (Dm.bits 7 2)) (by kernel_rfl) (by kernel_rfl) rfl (fun _ _ _ _ h => h) ?_; apply Exists.intro; refine And.intro (fun x => ?_) ?_
  · go_big_quiet_step (fail); exact wpQuiet_nil rfl
  refine Dm.wpE_take (i := 2) (listed' := (Dm.bits 7 6)) (by kernel_rfl) (by kernel_rfl) rfl (fun _ _ _ _ h => h) ?_; apply Exists.intro; refine And.intro (fun x => ?_) ?_
  · go_big_quiet_step (fail); exact wpQuiet_nil rfl
  refine Dm.wpE_take (i := 3) (listed' := (Dm.bits 7 14)) (by kernel_rfl) (by kernel_rfl) rfl (fun _ _ _ _ h => h) ?_; apply Exists.intro; refine And.intro (fun x => ?_) ?_
  · go_big_quiet_step (fail); exact wpQuiet_nil rfl
  refine Dm.wpE_one (i := 0) (listed' := (Dm.bits 7 15)) (by kernel_rfl) (by kernel_rfl) rfl (Ext.refl w2) (fun w1a hx1a => ?_)
  have hX1a := Ext.trans (Ext.refl w2) hx1a
  go_wp2_with (go_at_call 13; go_must (refine (CP.out w1a).mono ?_; rintro e w1b ⟨vp, rfl, hPs, hs1⟩))
  obtain ⟨pp, pcap, rfl, _, _⟩ := hPs.shape
  obtain ⟨pb, po, rfl, hpbl, hpc⟩ := hPs.at (k := pk) hpk
  have hAt : AtC pb (po + pk) (.string (pth pk)) w1b := ⟨hpbl, hpc⟩
  clear hPs hpc hpbl
  have hpkl : pk < pathsB.length := hpk
  have hX1b := Ext.trans hX1a hs1
  try simp only [Exit.then, Act.put]
  refine Dm.wpE_take (i := 4) (listed' := (Dm.bits 7 31)) (by kernel_rfl) (by kernel_rfl) rfl (fun _ _ _ _ h => h) ?_; apply Exists.intro; refine And.intro (fun x => ?_) ?_
  · go_big_quiet_step (fail); exact wpQuiet_nil rfl
  refine Dm.wpE_one (i := 5) (listed' := (Dm.bits 7 63)) (by kernel_rfl) (by kernel_rfl) rfl hX1b (fun w2a hx2a => ?_)
  have hX2a := Ext.trans hX1b hx2a
  replace hAt := hAt.ext hx2a
  obtain ⟨hAl, hAc⟩ := hAt
  go_wp2_with fail
  clear hAl hAc
  have hX2b := hX2a
  have hs2 := Ext.refl w2a
  generalize w2a = w2b at *
  try simp only [Exit.then, Act.put]
  refine Dm.wpE_take (i := 6) (listed' := (Dm.bits 7 127)) (by kernel_rfl) (by kernel_rfl) rfl (fun _ _ _ _ h => h) ?_; apply Exists.intro; refine And.intro (fun x => ?_) ?_
  · go_big_quiet_step (fail); exact wpQuiet_nil rfl
  refine Dm.wpE_done (by kernel_rfl) hX2b (fun w3a hx3a => ?_)
  have hX3a := Ext.trans hX2b hx3a
  replace hC := hC.ext hX3a
  replace hE := hE.trans hX3a
  replace hx := hx.ext hX3a
  clear zl z0 z1 z2 z3 z4 z5
  generalize w3a = w3 at *
  have CF1 := CF0.out _ w3 hx
  replace CF1 := Lib.hid CF1
  go_wp2_with fail
  refine CF1.out.mono ?_; rintro e w4 ⟨rfl, h4⟩
  have h4a := h4.alloc (.cells #[.string os, .int .u64 (vG ol 0 : Nat), .int .u64 (vG ol 1 : Nat), .int .u64 (vG ol 2 : Nat), .int .u64 (vG ol 3 : Nat), .int .u64 (vG ou 0 : Nat), .int .u64 (vG ou 1 : Nat), .int .u64 (vG ou 2 : Nat), .int .u64 (vG ou 3 : Nat)] 44)
  have hEb := EBox.new w4 os (vG ol) (vG ou) 44
  replace hC := hC.ext h4a
  replace hE := hE.trans h4a
  replace hx := hx.ext h4a
  clear h4 h4a CF1
  obtain ⟨zl, z0, z1, z2, z3, z4, z5⟩ := id hC
  go_wp2_with fail
  refine (CA.out _).mono ?_; rintro e w5 ⟨rfl, h5⟩
  clear zl z0 z1 z2 z3 z4 z5
  replace hC := hC.ext h5
  replace hE := hE.trans h5
  replace hx := hx.ext h5
  replace hEb := hEb.ext h5
  clear h5
  go_wp2_with fail
  refine (CS.out _ _ hx hE).mono ?_; rintro e w6 ⟨vU, rfl, hxU, h6⟩
  replace hC := hC.ext h6
  replace hE := hE.trans h6
  replace hx := hx.ext h6
  replace hEb := hEb.ext h6
  clear h6 CS
  have h6a := (Ext.refl w6).alloc (.cells #[.string ⟨#[]⟩] 9)
  have CU2 := CU.out (w6.alloc (.cells #[.string ⟨#[]⟩] 9)) (hE.trans h6a)
  replace CU2 := Lib.hid CU2
  go_wp2_with fail
  refine CU2.out.mono ?_; rintro e w7 ⟨r6, ss, rfl, hP, ho6, h6⟩
  obtain rfl : ss = upsB (pth pk) := bytesOf_inj (by rw [hP, upsB_bytes])
  have ho0 : (w6.alloc (.cells #[.string ⟨#[]⟩] 9)).ownsRow w6.heap.size 9 1 (.slice (some ⟨w6.heap.size, 0, none⟩) 1 1) 1 [.string ⟨#[]⟩] := World.ownsRow_lit w6 #[.string ⟨#[]⟩] 1 (Nat.le_refl _) (by simp [maxLen]) rfl
  have hsl6 : Sl w7 1 r6 (upsB (pth pk)).length ((upsB (pth pk)).map .string) := Sl.of_owns ho6
  have hones : ∀ u ∈ (upsB (pth pk)).map Value.string, u.oneCell' = true := fun u hu => by
    obtain ⟨x, _, rfl⟩ := List.mem_map.1 hu; rfl
  have h6' := h6a.trans h6
  have ho0' := Ext.row ho0 h6
  have hul : (upsB (pth pk)).length ≤ 3 := upsB_len _
  obtain ⟨ra, rc, rfl⟩ : ∃ a c, r6 = .slice a (upsB (pth pk)).length c := by
    obtain ⟨a, c, e, _⟩ := hsl6.shape; exact ⟨a, c, e⟩
  have hlen1 : 1 + (upsB (pth pk)).length = L.length := by rw [hups, hL0]; simp; omega
  have hcel1 : ([.string ⟨#[]⟩] : List Value) ++ (upsB (pth pk)).map .string = (L.map pth).map .string := by rw [hups, hL0]; rfl
  replace hlen1 := Lib.hid hlen1
  replace hcel1 := Lib.hid hcel1
  clear hP hups ho6 CU2 CU
  generalize upsB (pth pk) = us at *
  by_cases hp0 : pk = 0
  · have hnA : ¬ (pk ≠ 0 ∧ S (parK pk) = none) := fun h => h.1 hp0
    have hz2 : (pth pk).toList = [] := by rw [hp0, ByteArray.toList_eq]; rfl
    clear hLp hSA hp0
    go_wp2_with (at_builtin; go_must (refine wpList_appE (n := 1) (m := us.length) rfl _ _ Tryd.slStr rfl h6' rfl ho0' rfl hsl6 hones (by omega) ?_; intro vl wl hol hbl _; refine Hid.out ?_))
    rw [hlen1.out, hcel1.out] at hol
    have hsL : Strs wl vl (L.map pth) := Strs.of_row hol (by simp)
    replace hC := hC.ext hbl
    replace hE := hE.trans hbl
    replace hx := hx.ext hbl
    replace hxU := hxU.ext hbl
    replace hEb := hEb.ext hbl
    clear hbl hol hlen1 hcel1 hsl6 hones h6a h6 h6' ho0 ho0' hL0
    obtain ⟨lp, lc, hle, _, _⟩ := hsL.shape
    rw [List.length_map] at hle
    subst hle
    generalize wl = w8 at *
    have hxS := hx.shape
    have hxUs := hxU.shape
    obtain ⟨tq, tc, rfl, _, _⟩ := hxS
    obtain ⟨uq, uc, rfl, _, _⟩ := hxUs
    refine Lib.hid ?_
    go_wp2_with fail
    clear hz2
    have CV1 := CV.out
    cases hdf : vfits ou am with
    | false =>
      -- refused
      rw [hdf] at CV1
      replace CV1 := Lib.hid CV1
      have hth : ∃ X, S pk = some X := by
        cases e : S pk with
        | some X => exact ⟨X, rfl⟩
        | none =>
          have h := hfo.out
          rw [hfs0.out pk e] at h
          injection h with h _; injection h with _ h; injection h with _ h
          rw [← h, vfits_no_le] at hdf; cases hdf
      obtain ⟨X, hX⟩ := hth
      have h2 := hfo.out
      rw [hfs1.out pk X hX] at h2
      injection h2 with h2 h3; injection h2 with h4 h2; injection h2 with h5 h2
      subst h3 h4 h5 h2
      have h6 := hSB1.out hnA X hX hdf
      injection h6 with h7 h8
      subst h7 h8
      clear hdf
      obtain ⟨zl, z0, z1, z2, z3, z4, z5⟩ := id hC
      obtain ⟨el, e0, e1, e2, e3, e4, e5, e6, e7, e8, _, _, _, _, _, _, _, _, _⟩ := id hEb
      go_wp2_with fail
      refine Dm.wp_region_grow (by kernel_rfl) (by kernel_rfl) ?_
      repeat (go_big_quiet_step (first
        | (go_at_call 14; with_reducible exact Calls.quietE (CA.out _))
        | (go_at_call 18; with_reducible exact Calls.quietE (CV1.out _))))
      refine wpQuiet_nil ?_
      intro w10 h10
      go_wp2_with fail
      refine (hsame.out _ _ _ (hx.ext h10) (hxU.ext h10)).mono ?_; rintro e w11 ⟨rfl, h11⟩
      go_wp2
      go_ret
      exact ⟨by simp, (hE.trans h10).trans h11⟩
    | true =>
      rw [hdf] at CV1
      replace CV1 := Lib.hid CV1
      have hU0 : eno = 0 ∧ U = updQ S pk (some (am, ou)) := by
        cases e : S pk with
        | some X =>
          have h2 := hfo.out
          rw [hfs1.out pk X e] at h2
          injection h2 with h2 h3; injection h2 with h4 h2; injection h2 with h5 h2
          subst h2
          have h6 := hSB2.out hnA X e hdf
          injection h6 with h7 h8
          exact ⟨h8, h7⟩
        | none =>
          have h2 := hfo.out
          rw [hfs0.out pk e] at h2
          injection h2 with h2 h3; injection h2 with h4 h2; injection h2 with h5 h2
          subst h2
          have h6 := hSB3.out hnA e
          injection h6 with h7 h8
          exact ⟨h8, h7⟩
      obtain ⟨he0, hUe⟩ := hU0
      subst he0
      have hpre : ∀ j, S j ≠ none → U j ≠ none := fun j hj => by rw [hUe]; unfold updQ; split <;> first | exact hj | simp
      have hoth : ∀ j, j ≠ pk → U j = S j := fun j hj => by rw [hUe]; unfold updQ; rw [if_neg hj]
      have hus : ∀ j i, uS U j i = uS S j i := fun j i => by
        by_cases hj : j = pk
        · subst hj
          have h2 := hfo.out
          unfold uS
          rw [hUe]
          unfold updQ
          rw [if_pos rfl]
          cases e : S j with
          | some X =>
            rw [hfs1.out j X e] at h2
            injection h2 with h2 h3; injection h2 with h4 h2; injection h2 with h5 h2
            rw [← h2]
          | none =>
            rw [hfs0.out j e] at h2
            injection h2 with h2 h3; injection h2 with h4 h2; injection h2 with h5 h2
            show vG ou i = 0
            rw [← h2]
            exact vG_noV i
        · unfold uS; rw [hoth j hj]
      have hru : rightQ (conc U) = rightQ (conc S) := by
        rw [Bool.eq_iff_iff, right_conc hokU, right_conc hS]
        exact rightS_congr hus
      have CR1 := fun W (hx : Tree W (.slice tq (conc S).length tc) (conc S)) (h : Ext w W) => right_c S hS _ W hx (ht.ext h)
      have CR2 := fun W (hx : Tree W (.slice uq (conc U).length uc) (conc U)) (h : Ext w W) => right_c U hokU _ W hx (ht.ext h)
      rw [hru] at CR2
      have hcnt : (conc U).countP (hadS S) = (conc S).length := had_count hpre
      have CF2 := fun W (hx : Tree W (.slice uq (conc U).length uc) (conc U)) => find_c U _ hpk W hx
      rw [show findS U pk = ((pth pk, am, ou), true) by unfold findS; rw [hUe]; simp [updQ]] at CF2
      have hat : ∀ i, i < (conc U).length → ∃ j, j < 8 ∧ (eAt (conc U) i).1 = pth j ∧ U j = some (eAt (conc U) i).2 := fun i hi => conc_mem (eAt_mem hi)
      have hfitU := hokU.fit_conc
      clear hUe hdf hus hru hpre
      generalize rightQ (conc S) = rr at *
      unfold entVal uAt at CF2
      simp only at CF2
      replace CF2 := Lib.hid CF2
      replace CR1 := Lib.hid CR1
      replace CR2 := Lib.hid CR2
      replace hcnt := Lib.hid hcnt
      replace hat := Lib.hid hat
      replace hoth := Lib.hid hoth
      obtain ⟨zl, z0, z1, z2, z3, z4, z5⟩ := id hC
      obtain ⟨el, e0, e1, e2, e3, e4, e5, e6, e7, e8, _, _, _, _, _, _, _, _, _⟩ := id hEb
      go_wp2_with fail
      refine Dm.wp_region_grow (by kernel_rfl) (by kernel_rfl) ?_
      repeat (go_big_quiet_step (first
        | (go_at_call 14; with_reducible exact Calls.quietE (CA.out _))
        | (go_at_call 18; with_reducible exact Calls.quietE (CV1.out _))))
      refine wpQuiet_nil ?_
      intro w10 h10
      clear el e0 e1 e2 e3 e4 e5 e6 e7 e8 zl z0 z1 z2 z3 z4 z5
      replace hC := hC.ext h10
      replace hE := hE.trans h10
      replace hx := hx.ext h10
      replace hxU := hxU.ext h10
      replace hEb := hEb.ext h10
      clear h10
      go_wp2_with fail
      refine (CF2.out _ hxU).mono ?_; rintro e w11 ⟨rfl, h11⟩
      have h11a := h11.alloc (.cells #[.string (pth pk), .int .u64 (vG am 0 : Nat), .int .u64 (vG am 1 : Nat), .int .u64 (vG am 2 : Nat), .int .u64 (vG am 3 : Nat), .int .u64 (vG ou 0 : Nat), .int .u64 (vG ou 1 : Nat), .int .u64 (vG ou 2 : Nat), .int .u64 (vG ou 3 : Nat)] 44)
      have hEx := EBox.new w11 (pth pk) (vG am) (vG ou) 44
      replace hC := hC.ext h11a
      replace hE := hE.trans h11a
      replace hx := hx.ext h11a
      replace hxU := hxU.ext h11a
      replace hEb := hEb.ext h11a
      clear h11 h11a
      obtain ⟨zl, z0, z1, z2, z3, z4, z5⟩ := id hC
      obtain ⟨el, e0, e1, e2, e3, e4, e5, e6, e7, e8, _, _, _, _, _, _, _, _, _⟩ := id hEb
      obtain ⟨yl, y0, y1, y2, y3, y4, y5, y6, y7, y8, _, _, _, _, _, _, _, _, _⟩ := id hEx
      obtain ⟨w12, hw12⟩ : ∃ w12, w12 = w11.alloc (.cells #[.string (pth pk), .int .u64 (vG am 0 : Nat), .int .u64 (vG am 1 : Nat), .int .u64 (vG am 2 : Nat), .int .u64 (vG am 3 : Nat), .int .u64 (vG ou 0 : Nat), .int .u64 (vG ou 1 : Nat), .int .u64 (vG ou 2 : Nat), .int .u64 (vG ou 3 : Nat)] 44) := ⟨_, rfl⟩
      rw [← hw12] at hC hE hx hxU hEb hEx zl z0 z1 z2 z3 z4 z5 el e0 e1 e2 e3 e4 e5 e6 e7 e8 yl y0 y1 y2 y3 y4 y5 y6 y7 y8
      go_wp2_with fail
      rw [← hw12]
      clear hw12
      refine Dm.wp_region_grow (by kernel_rfl) (by kernel_rfl) ?_
      repeat (go_big_quiet_step (first
        | (go_at_call 14; with_reducible exact Calls.quietE (CA.out _))))
      refine wpQuiet_nil ?_
      intro w13 h13
      clear el e0 e1 e2 e3 e4 e5 e6 e7 e8 zl z0 z1 z2 z3 z4 z5 yl y0 y1 y2 y3 y4 y5 y6 y7 y8
      replace hE := hE.trans h13
      replace hx := hx.ext h13
      replace hxU := hxU.ext h13
      clear h13 hC hEb hEx
      go_wp2
      have hcl8 := conc_len U
      go_loopw [18, 19, 20, 21] (fun c i _ _ wr => ∃ n : Nat, n ≤ (conc U).length ∧ i = .int .i64 n ∧ c = .int .i64 (((conc U).take n).countP (hadS S) : Nat) ∧ Ext w13 wr) (fun _ i _ _ _ => (conc U).length - (intOf i).toNat)
      case atStart => exact ⟨0, by omega, rfl, rfl, Ext.refl _⟩
      case round =>
        obtain ⟨n, hn, rfl, rfl, hb⟩ := hrel
        have hEr := hE.trans hb
        have hxr := hx.ext hb
        have hxUr := hxU.ext hb
        by_cases hlt : n < (conc U).length
        · obtain ⟨j, hj8, hje, hjU⟩ := hat.out n hlt
          obtain ⟨ub, uo, rfl, hubl, hcs⟩ := hxUr.at hlt
          have hfe := hfitU.at hlt
          have htk : (conc U).take (n + 1) = (conc U).take n ++ [eAt (conc U) n] := by rw [List.take_add_one, List.getElem?_eq_getElem hlt, eAt_eq hlt]; rfl
          have hct : ((conc U).take (n + 1)).countP (hadS S) = ((conc U).take n).countP (hadS S) + if (S j).isSome = true then 1 else 0 := by
            rw [htk, List.countP_append, List.countP_singleton, hadS_pth hj8 hje]
          have hnb : ((conc U).take n).countP (hadS S) ≤ 8 := Nat.le_trans List.countP_le_length (by rw [List.length_take]; have := conc_len U; omega)
          have CFj := CF.out _ j hj8 wr hxr
          obtain ⟨⟨xs, xl, xu⟩, hr⟩ : ∃ r, eAt (conc U) n = r := ⟨_, rfl⟩
          rw [hr] at hje hjU hcs hfe
          simp only at hje hjU hfe
          subst hje
          clear hr htk
          generalize ((conc U).take n).countP (hadS S) = cn at *
          by_cases hjp : j = pk
          · -- the one that was set
            subst hjp
            have hz : ((pth j).toList == (pth j).toList) = true := by simp
            obtain ⟨⟨⟨fs, fl, fu⟩, had⟩, hfj⟩ : ∃ r, findS S j = r := ⟨_, rfl⟩
            rw [hfj] at CFj
            have hhad : (S j).isSome = had := by
              cases e : S j with
              | some X => rw [hfs1.out j X e] at hfj; exact congrArg Prod.snd hfj
              | none => rw [hfs0.out j e] at hfj; exact congrArg Prod.snd hfj
            rw [hhad] at hct
            clear hhad hfj
            unfold entVal uAt at CFj
            simp only at CFj
            replace CFj := Lib.hid CFj
            replace hct := Lib.hid hct
            have hcs2 : ∀ U', Ext wr U' → ∀ j', j' < 9 → U'.cell? ⟨ub, uo + n * 9 + j', none⟩ = (entOne (pth j, xl, xu))[j']? := fun U' hU j' hj' => by rw [hU.cell (by exact hubl)]; exact hcs j' hj'
            replace hcs2 := Lib.hid hcs2
            have c0 := hcs 0 (by omega)
            have c1 := hcs 1 (by omega)
            have c2 := hcs 2 (by omega)
            have c3 := hcs 3 (by omega)
            have c4 := hcs 4 (by omega)
            have c5 := hcs 5 (by omega)
            have c6 := hcs 6 (by omega)
            have c7 := hcs 7 (by omega)
            have c8 := hcs 8 (by omega)
            simp only [entOne, uAt, List.getElem?_cons_zero, List.getElem?_cons_succ, Nat.add_zero] at c0 c1 c2 c3 c4 c5 c6 c7 c8
            clear hcs
            generalize pth j = pp at *
            go_wp2_with fail
            refine CFj.out.mono ?_; rintro e w14 ⟨rfl, h14⟩
            have h14a := h14.alloc (.cells #[.string fs, .int .u64 (vG fl 0 : Nat), .int .u64 (vG fl 1 : Nat), .int .u64 (vG fl 2 : Nat), .int .u64 (vG fl 3 : Nat), .int .u64 (vG fu 0 : Nat), .int .u64 (vG fu 1 : Nat), .int .u64 (vG fu 2 : Nat), .int .u64 (vG fu 3 : Nat)] 44)
            clear c0 c1 c2 c3 c4 c5 c6 c7 c8
            have hcs := hcs2.out _ h14a
            have c0 := hcs 0 (by omega)
            have c1 := hcs 1 (by omega)
            have c2 := hcs 2 (by omega)
            have c3 := hcs 3 (by omega)
            have c4 := hcs 4 (by omega)
            have c5 := hcs 5 (by omega)
            have c6 := hcs 6 (by omega)
            have c7 := hcs 7 (by omega)
            have c8 := hcs 8 (by omega)
            simp only [entOne, uAt, List.getElem?_cons_zero, List.getElem?_cons_succ, Nat.add_zero] at c0 c1 c2 c3 c4 c5 c6 c7 c8
            clear hcs
            have hubl2 : ub < (w14.alloc (.cells #[.string fs, .int .u64 (vG fl 0 : Nat), .int .u64 (vG fl 1 : Nat), .int .u64 (vG fl 2 : Nat), .int .u64 (vG fl 3 : Nat), .int .u64 (vG fu 0 : Nat), .int .u64 (vG fu 1 : Nat), .int .u64 (vG fu 2 : Nat), .int .u64 (vG fu 3 : Nat)] 44)).heap.size := Nat.lt_of_lt_of_le hubl h14a.size
            obtain ⟨w15, hw15⟩ : ∃ w15, w15 = w14.alloc (.cells #[.string fs, .int .u64 (vG fl 0 : Nat), .int .u64 (vG fl 1 : Nat), .int .u64 (vG fl 2 : Nat), .int .u64 (vG fl 3 : Nat), .int .u64 (vG fu 0 : Nat), .int .u64 (vG fu 1 : Nat), .int .u64 (vG fu 2 : Nat), .int .u64 (vG fu 3 : Nat)] 44) := ⟨_, rfl⟩
            rw [← hw15] at hubl2 c0 c1 c2 c3 c4 c5 c6 c7 c8 h14a
            cases had with
            | true =>
              rw [if_pos rfl] at hct
              go_wp2_with fail
              rw [← hw15]
              clear hw15
              refine Dm.wp_region_grow (by kernel_rfl) (by kernel_rfl) ?_
              repeat (go_big_quiet_step (fail))
              refine wpQuiet_nil ?_
              intro w16 h16
              go_wp2
              go_roundw
              case rel => exact ⟨n + 1, by omega, by go_num, by rw [hct.out]; go_num, hb.trans (h14a.trans h16)⟩
              case measure => simp [intOf]; omega
            | false =>
              rw [if_neg (by simp)] at hct
              go_wp2_with fail
              rw [← hw15]
              clear hw15
              refine Dm.wp_region_grow (by kernel_rfl) (by kernel_rfl) ?_
              repeat (go_big_quiet_step (fail))
              refine wpQuiet_nil ?_
              intro w16 h16
              go_wp2
              go_roundw
              case rel => exact ⟨n + 1, by omega, by go_num, by rw [hct.out]; rfl, hb.trans (h14a.trans h16)⟩
              case measure => simp [intOf]; omega
          · -- another
            have hS2 : S j = some (xl, xu) := by rw [← hoth.out j hjp]; exact hjU
            rw [hfs1.out j _ hS2] at CFj
            rw [hS2] at hct
            simp only [Option.isSome_some, if_true] at hct
            have hpne : ¬ (pth j).toList = (pth pk).toList := fun h => hjp (pth_inj hj8 hpk (bytes_eq.1 (by simpa using h)))
            have hpnb : ((pth j).toList == (pth pk).toList) = false := beq_eq_false_iff_ne.2 hpne
            have hpxb : ((pth j).toList != (pth pk).toList) = true := bne_iff_ne.2 hpne
            have hqe := fun W => run_neq_entQ (eqEnt (a := (pth j, xl, xu)) (b := (pth j, xl, xu)) ⟨by have := pth_len j; show (pth j).size ≤ _; unfold maxLen; omega, hfe.2⟩ ⟨by have := pth_len j; show (pth j).size ≤ _; unfold maxLen; omega, hfe.2⟩ W)
            rw [decide_eq_true rfl] at hqe
            have hqe2 : ∀ W, (binOp .neq 44 (.agg #[.string (pth j), .int .u64 (vG xl 0 : Nat), .int .u64 (vG xl 1 : Nat), .int .u64 (vG xl 2 : Nat), .int .u64 (vG xl 3 : Nat), .int .u64 (vG xu 0 : Nat), .int .u64 (vG xu 1 : Nat), .int .u64 (vG xu 2 : Nat), .int .u64 (vG xu 3 : Nat)]) (.agg #[.string (pth j), .int .u64 (vG xl 0 : Nat), .int .u64 (vG xl 1 : Nat), .int .u64 (vG xl 2 : Nat), .int .u64 (vG xl 3 : Nat), .int .u64 (vG xu 0 : Nat), .int .u64 (vG xu 1 : Nat), .int .u64 (vG xu 2 : Nat), .int .u64 (vG xu 3 : Nat)])).run Tryd.prog W = .ok (.bool false) W := hqe
            clear hqe hS2 hjU hfe
            unfold entVal uAt at CFj
            simp only at CFj
            replace CFj := Lib.hid CFj
            replace hct := Lib.hid hct
            have hcs2 : ∀ U', Ext wr U' → ∀ j', j' < 9 → U'.cell? ⟨ub, uo + n * 9 + j', none⟩ = (entOne (pth j, xl, xu))[j']? := fun U' hU j' hj' => by rw [hU.cell (by exact hubl)]; exact hcs j' hj'
            replace hcs2 := Lib.hid hcs2
            have c0 := hcs 0 (by omega)
            have c1 := hcs 1 (by omega)
            have c2 := hcs 2 (by omega)
            have c3 := hcs 3 (by omega)
            have c4 := hcs 4 (by omega)
            have c5 := hcs 5 (by omega)
            have c6 := hcs 6 (by omega)
            have c7 := hcs 7 (by omega)
            have c8 := hcs 8 (by omega)
            simp only [entOne, uAt, List.getElem?_cons_zero, List.getElem?_cons_succ, Nat.add_zero] at c0 c1 c2 c3 c4 c5 c6 c7 c8
            clear hcs
            generalize pth j = pp at *
            go_wp2_with fail
            refine CFj.out.mono ?_; rintro e w14 ⟨rfl, h14⟩
            have h14a := h14.alloc (.cells #[.string pp, .int .u64 (vG xl 0 : Nat), .int .u64 (vG xl 1 : Nat), .int .u64 (vG xl 2 : Nat), .int .u64 (vG xl 3 : Nat), .int .u64 (vG xu 0 : Nat), .int .u64 (vG xu 1 : Nat), .int .u64 (vG xu 2 : Nat), .int .u64 (vG xu 3 : Nat)] 44)
            have hEo := EBox.new w14 pp (vG xl) (vG xu) 44
            clear c0 c1 c2 c3 c4 c5 c6 c7 c8
            have hcs := hcs2.out _ h14a
            have c0 := hcs 0 (by omega)
            have c1 := hcs 1 (by omega)
            have c2 := hcs 2 (by omega)
            have c3 := hcs 3 (by omega)
            have c4 := hcs 4 (by omega)
            have c5 := hcs 5 (by omega)
            have c6 := hcs 6 (by omega)
            have c7 := hcs 7 (by omega)
            have c8 := hcs 8 (by omega)
            simp only [entOne, uAt, List.getElem?_cons_zero, List.getElem?_cons_succ, Nat.add_zero] at c0 c1 c2 c3 c4 c5 c6 c7 c8
            clear hcs
            have hubl2 : ub < (w14.alloc (.cells #[.string pp, .int .u64 (vG xl 0 : Nat), .int .u64 (vG xl 1 : Nat), .int .u64 (vG xl 2 : Nat), .int .u64 (vG xl 3 : Nat), .int .u64 (vG xu 0 : Nat), .int .u64 (vG xu 1 : Nat), .int .u64 (vG xu 2 : Nat), .int .u64 (vG xu 3 : Nat)] 44)).heap.size := Nat.lt_of_lt_of_le hubl h14a.size
            obtain ⟨ol2, o0, o1, o2, o3, o4, o5, o6, o7, o8, _, _, _, _, _, _, _, _, _⟩ := id hEo
            obtain ⟨w15, hw15⟩ : ∃ w15, w15 = w14.alloc (.cells #[.string pp, .int .u64 (vG xl 0 : Nat), .int .u64 (vG xl 1 : Nat), .int .u64 (vG xl 2 : Nat), .int .u64 (vG xl 3 : Nat), .int .u64 (vG xu 0 : Nat), .int .u64 (vG xu 1 : Nat), .int .u64 (vG xu 2 : Nat), .int .u64 (vG xu 3 : Nat)] 44) := ⟨_, rfl⟩
            rw [← hw15] at hubl2 c0 c1 c2 c3 c4 c5 c6 c7 c8 h14a ol2 o0 o1 o2 o3 o4 o5 o6 o7 o8
            clear hEo
            go_wp2_with fail
            rw [← hw15]
            clear hw15
            refine Dm.wp_region_grow (by kernel_rfl) (by kernel_rfl) ?_
            repeat (go_big_quiet_step (fail))
            refine wpQuiet_nil ?_
            intro w16 h16
            go_wp2
            go_roundw
            case rel => exact ⟨n + 1, by omega, by go_num, by rw [hct.out]; go_num, hb.trans (h14a.trans h16)⟩
            case measure => simp [intOf]; omega
        · obtain rfl : n = (conc U).length := by omega
          have hcn : ((conc U).take (conc U).length).countP (hadS S) = (conc S).length := by rw [List.take_length]; exact hcnt.out
          rw [hcn]
          clear hcn
          have CR1' := fun W h => CR1.out W (hxr.ext h) (hEr.trans h)
          have CR2' := fun W h => CR2.out W (hxUr.ext h) (hEr.trans h)
          replace CR1' := Lib.hid CR1'
          replace CR2' := Lib.hid CR2'
          go_wp2_with fail
          refine (CR1'.out _ (Ext.refl _)).mono ?_; rintro e w14 ⟨rfl, h14⟩
          cases rr with
          | false =>
            go_wp2
            go_ret
            exact ⟨by simp, hEr.trans h14⟩
          | true =>
            go_wp2_with fail
            refine (CR2'.out _ h14).mono ?_; rintro e w15 ⟨rfl, h15⟩
            go_wp2
            go_ret
            exact ⟨by simp, (hEr.trans h14).trans h15⟩
  · obtain ⟨hl2, hLe⟩ := hLp.out hp0
    have hpe : pth pk ≠ ⟨#[]⟩ := fun h => hp0 ((pth_nil hpk).1 h)
    have hz2 : (pth pk).toList.isEmpty = false := by
      rw [List.isEmpty_eq_false_iff, ByteArray.toList_eq]
      intro e
      exact hpe (mk_bytes e)
    have hz3 : ¬ (pth pk).toList = [] := by rw [← List.isEmpty_iff, hz2]; simp
    obtain ⟨m2, hm2⟩ : ∃ m2, L.length - 2 = m2 := ⟨_, rfl⟩
    have hmi : (L.length : Int) - 2 = (m2 : Int) := by omega
    have hml : m2 < L.length := by omega
    have hm24 : m2 ≤ 4 := by omega
    have hm2h := Lib.hid hm2
    clear hm2
    have hLe2 := hLe (by omega)
    have hsp : strAt (L.map pth) m2 = pth (parK pk) := by rw [← hm2h.out, ← hLe2]; simp [strAt, show L.length - 2 < L.length by omega]
    replace hsp := Lib.hid hsp
    clear hLe hLe2 hpe
    go_wp2_with (at_builtin; go_must (refine wpList_appE (n := 1) (m := us.length) rfl _ _ Tryd.slStr rfl h6' rfl ho0' rfl hsl6 hones (by omega) ?_; intro vl wl hol hbl _; refine Hid.out ?_))
    rw [hlen1.out, hcel1.out] at hol
    have hsL : Strs wl vl (L.map pth) := Strs.of_row hol (by simp)
    replace hC := hC.ext hbl
    replace hE := hE.trans hbl
    replace hx := hx.ext hbl
    replace hxU := hxU.ext hbl
    replace hEb := hEb.ext hbl
    clear hbl hol hlen1 hcel1 hsl6 hones h6a h6 h6' ho0 ho0' hL0
    obtain ⟨lp, lc, hle, _, _⟩ := hsL.shape
    rw [List.length_map] at hle
    subst hle
    generalize wl = w8 at *
    have hxS := hx.shape
    have hxUs := hxU.shape
    obtain ⟨tq, tc, rfl, _, _⟩ := hxS
    obtain ⟨uq, uc, rfl, _, _⟩ := hxUs
    obtain ⟨sb, so, hse, hsbl, hsc⟩ := hsL.at' (k := m2) (by rw [List.length_map]; exact hml)
    subst hse
    rw [hsp.out] at hsc
    refine Lib.hid ?_
    go_wp2_with fail
    clear hz2 hz3
    have CFp := CF.out _ (parK pk) (parK_lt pk hpk) w8 hx
    cases hSp : S (parK pk) with
    | none =>
      rw [hfs0.out _ hSp] at CFp
      have h6 := hSA.out hp0 hSp
      injection h6 with h7 h8
      subst h7 h8
      change Calls _ _ _ _ fun e w' => e = .returned (.tuple #[.agg #[.string ⟨#[]⟩, .int .u64 0, .int .u64 0, .int .u64 0, .int .u64 0, .int .u64 0, .int .u64 0, .int .u64 0, .int .u64 0], .bool false]) ∧ Ext w8 w' at CFp
      replace CFp := Lib.hid CFp
      refine CFp.out.mono ?_; rintro e w9 ⟨rfl, h9⟩
      go_wp2_with fail
      refine (hsame.out _ _ _ (hx.ext h9) (hxU.ext h9)).mono ?_; rintro e w10 ⟨rfl, h10⟩
      go_wp2
      go_ret
      exact ⟨by simp, (hE.trans h9).trans h10⟩
    | some X =>
      rw [hfs1.out _ X hSp] at CFp
      have hnA : ¬ (pk ≠ 0 ∧ S (parK pk) = none) := fun h => by rw [hSp] at h; cases h.2
      obtain ⟨X1, X2⟩ := X
      unfold entVal uAt at CFp
      simp only at CFp
      replace CFp := Lib.hid CFp
      clear hSp
      refine CFp.out.mono ?_; rintro e w9 ⟨rfl, h9⟩
      replace hC := hC.ext h9
      replace hE := hE.trans h9
      replace hx := hx.ext h9
      replace hxU := hxU.ext h9
      replace hEb := hEb.ext h9
      clear h9 hsc hsbl CFp
      go_wp2_with fail
      have CV1 := CV.out
      cases hdf : vfits ou am with
      | false =>
        -- refused
        rw [hdf] at CV1
        replace CV1 := Lib.hid CV1
        have hth : ∃ X, S pk = some X := by
          cases e : S pk with
          | some X => exact ⟨X, rfl⟩
          | none =>
            have h := hfo.out
            rw [hfs0.out pk e] at h
            injection h with h _; injection h with _ h; injection h with _ h
            rw [← h, vfits_no_le] at hdf; cases hdf
        obtain ⟨X, hX⟩ := hth
        have h2 := hfo.out
        rw [hfs1.out pk X hX] at h2
        injection h2 with h2 h3; injection h2 with h4 h2; injection h2 with h5 h2
        subst h3 h4 h5 h2
        have h6 := hSB1.out hnA X hX hdf
        injection h6 with h7 h8
        subst h7 h8
        clear hdf
        obtain ⟨zl, z0, z1, z2, z3, z4, z5⟩ := id hC
        obtain ⟨el, e0, e1, e2, e3, e4, e5, e6, e7, e8, _, _, _, _, _, _, _, _, _⟩ := id hEb
        go_wp2_with fail
        refine Dm.wp_region_grow (by kernel_rfl) (by kernel_rfl) ?_
        repeat (go_big_quiet_step (first
          | (go_at_call 14; with_reducible exact Calls.quietE (CA.out _))
          | (go_at_call 18; with_reducible exact Calls.quietE (CV1.out _))))
        refine wpQuiet_nil ?_
        intro w10 h10
        go_wp2_with fail
        refine (hsame.out _ _ _ (hx.ext h10) (hxU.ext h10)).mono ?_; rintro e w11 ⟨rfl, h11⟩
        go_wp2
        go_ret
        exact ⟨by simp, (hE.trans h10).trans h11⟩
      | true =>
        rw [hdf] at CV1
        replace CV1 := Lib.hid CV1
        have hU0 : eno = 0 ∧ U = updQ S pk (some (am, ou)) := by
          cases e : S pk with
          | some X =>
            have h2 := hfo.out
            rw [hfs1.out pk X e] at h2
            injection h2 with h2 h3; injection h2 with h4 h2; injection h2 with h5 h2
            subst h2
            have h6 := hSB2.out hnA X e hdf
            injection h6 with h7 h8
            exact ⟨h8, h7⟩
          | none =>
            have h2 := hfo.out
            rw [hfs0.out pk e] at h2
            injection h2 with h2 h3; injection h2 with h4 h2; injection h2 with h5 h2
            subst h2
            have h6 := hSB3.out hnA e
            injection h6 with h7 h8
            exact ⟨h8, h7⟩
        obtain ⟨he0, hUe⟩ := hU0
        subst he0
        have hpre : ∀ j, S j ≠ none → U j ≠ none := fun j hj => by rw [hUe]; unfold updQ; split <;> first | exact hj | simp
        have hoth : ∀ j, j ≠ pk → U j = S j := fun j hj => by rw [hUe]; unfold updQ; rw [if_neg hj]
        have hus : ∀ j i, uS U j i = uS S j i := fun j i => by
          by_cases hj : j = pk
          · subst hj
            have h2 := hfo.out
            unfold uS
            rw [hUe]
            unfold updQ
            rw [if_pos rfl]
            cases e : S j with
            | some X =>
              rw [hfs1.out j X e] at h2
              injection h2 with h2 h3; injection h2 with h4 h2; injection h2 with h5 h2
              rw [← h2]
            | none =>
              rw [hfs0.out j e] at h2
              injection h2 with h2 h3; injection h2 with h4 h2; injection h2 with h5 h2
              show vG ou i = 0
              rw [← h2]
              exact vG_noV i
          · unfold uS; rw [hoth j hj]
        have hru : rightQ (conc U) = rightQ (conc S) := by
          rw [Bool.eq_iff_iff, right_conc hokU, right_conc hS]
          exact rightS_congr hus
        have CR1 := fun W (hx : Tree W (.slice tq (conc S).length tc) (conc S)) (h : Ext w W) => right_c S hS _ W hx (ht.ext h)
        have CR2 := fun W (hx : Tree W (.slice uq (conc U).length uc) (conc U)) (h : Ext w W) => right_c U hokU _ W hx (ht.ext h)
        rw [hru] at CR2
        have hcnt : (conc U).countP (hadS S) = (conc S).length := had_count hpre
        have CF2 := fun W (hx : Tree W (.slice uq (conc U).length uc) (conc U)) => find_c U _ hpk W hx
        rw [show findS U pk = ((pth pk, am, ou), true) by unfold findS; rw [hUe]; simp [updQ]] at CF2
        have hat : ∀ i, i < (conc U).length → ∃ j, j < 8 ∧ (eAt (conc U) i).1 = pth j ∧ U j = some (eAt (conc U) i).2 := fun i hi => conc_mem (eAt_mem hi)
        have hfitU := hokU.fit_conc
        clear hUe hdf hus hru hpre
        generalize rightQ (conc S) = rr at *
        unfold entVal uAt at CF2
        simp only at CF2
        replace CF2 := Lib.hid CF2
        replace CR1 := Lib.hid CR1
        replace CR2 := Lib.hid CR2
        replace hcnt := Lib.hid hcnt
        replace hat := Lib.hid hat
        replace hoth := Lib.hid hoth
        obtain ⟨zl, z0, z1, z2, z3, z4, z5⟩ := id hC
        obtain ⟨el, e0, e1, e2, e3, e4, e5, e6, e7, e8, _, _, _, _, _, _, _, _, _⟩ := id hEb
        go_wp2_with fail
        refine Dm.wp_region_grow (by kernel_rfl) (by kernel_rfl) ?_
        repeat (go_big_quiet_step (first
          | (go_at_call 14; with_reducible exact Calls.quietE (CA.out _))
          | (go_at_call 18; with_reducible exact Calls.quietE (CV1.out _))))
        refine wpQuiet_nil ?_
        intro w10 h10
        clear el e0 e1 e2 e3 e4 e5 e6 e7 e8 zl z0 z1 z2 z3 z4 z5
        replace hC := hC.ext h10
        replace hE := hE.trans h10
        replace hx := hx.ext h10
        replace hxU := hxU.ext h10
        replace hEb := hEb.ext h10
        clear h10
        go_wp2_with fail
        refine (CF2.out _ hxU).mono ?_; rintro e w11 ⟨rfl, h11⟩
        have h11a := h11.alloc (.cells #[.string (pth pk), .int .u64 (vG am 0 : Nat), .int .u64 (vG am 1 : Nat), .int .u64 (vG am 2 : Nat), .int .u64 (vG am 3 : Nat), .int .u64 (vG ou 0 : Nat), .int .u64 (vG ou 1 : Nat), .int .u64 (vG ou 2 : Nat), .int .u64 (vG ou 3 : Nat)] 44)
        have hEx := EBox.new w11 (pth pk) (vG am) (vG ou) 44
        replace hC := hC.ext h11a
        replace hE := hE.trans h11a
        replace hx := hx.ext h11a
        replace hxU := hxU.ext h11a
        replace hEb := hEb.ext h11a
        clear h11 h11a
        obtain ⟨zl, z0, z1, z2, z3, z4, z5⟩ := id hC
        obtain ⟨el, e0, e1, e2, e3, e4, e5, e6, e7, e8, _, _, _, _, _, _, _, _, _⟩ := id hEb
        obtain ⟨yl, y0, y1, y2, y3, y4, y5, y6, y7, y8, _, _, _, _, _, _, _, _, _⟩ := id hEx
        obtain ⟨w12, hw12⟩ : ∃ w12, w12 = w11.alloc (.cells #[.string (pth pk), .int .u64 (vG am 0 : Nat), .int .u64 (vG am 1 : Nat), .int .u64 (vG am 2 : Nat), .int .u64 (vG am 3 : Nat), .int .u64 (vG ou 0 : Nat), .int .u64 (vG ou 1 : Nat), .int .u64 (vG ou 2 : Nat), .int .u64 (vG ou 3 : Nat)] 44) := ⟨_, rfl⟩
        rw [← hw12] at hC hE hx hxU hEb hEx zl z0 z1 z2 z3 z4 z5 el e0 e1 e2 e3 e4 e5 e6 e7 e8 yl y0 y1 y2 y3 y4 y5 y6 y7 y8
        go_wp2_with fail
        rw [← hw12]
        clear hw12
        refine Dm.wp_region_grow (by kernel_rfl) (by kernel_rfl) ?_
        repeat (go_big_quiet_step (first
          | (go_at_call 14; with_reducible exact Calls.quietE (CA.out _))))
        refine wpQuiet_nil ?_
        intro w13 h13
        clear el e0 e1 e2 e3 e4 e5 e6 e7 e8 zl z0 z1 z2 z3 z4 z5 yl y0 y1 y2 y3 y4 y5 y6 y7 y8
        replace hE := hE.trans h13
        replace hx := hx.ext h13
        replace hxU := hxU.ext h13
        clear h13 hC hEb hEx
        go_wp2
        have hcl8 := conc_len U
        go_loopw [18, 19, 20, 21] (fun c i _ _ wr => ∃ n : Nat, n ≤ (conc U).length ∧ i = .int .i64 n ∧ c = .int .i64 (((conc U).take n).countP (hadS S) : Nat) ∧ Ext w13 wr) (fun _ i _ _ _ => (conc U).length - (intOf i).toNat)
        case atStart => exact ⟨0, by omega, rfl, rfl, Ext.refl _⟩
        case round =>
          obtain ⟨n, hn, rfl, rfl, hb⟩ := hrel
          have hEr := hE.trans hb
          have hxr := hx.ext hb
          have hxUr := hxU.ext hb
          by_cases hlt : n < (conc U).length
          · obtain ⟨j, hj8, hje, hjU⟩ := hat.out n hlt
            obtain ⟨ub, uo, rfl, hubl, hcs⟩ := hxUr.at hlt
            have hfe := hfitU.at hlt
            have htk : (conc U).take (n + 1) = (conc U).take n ++ [eAt (conc U) n] := by rw [List.take_add_one, List.getElem?_eq_getElem hlt, eAt_eq hlt]; rfl
            have hct : ((conc U).take (n + 1)).countP (hadS S) = ((conc U).take n).countP (hadS S) + if (S j).isSome = true then 1 else 0 := by
              rw [htk, List.countP_append, List.countP_singleton, hadS_pth hj8 hje]
            have hnb : ((conc U).take n).countP (hadS S) ≤ 8 := Nat.le_trans List.countP_le_length (by rw [List.length_take]; have := conc_len U; omega)
            have CFj := CF.out _ j hj8 wr hxr
            obtain ⟨⟨xs, xl, xu⟩, hr⟩ : ∃ r, eAt (conc U) n = r := ⟨_, rfl⟩
            rw [hr] at hje hjU hcs hfe
            simp only at hje hjU hfe
            subst hje
            clear hr htk
            generalize ((conc U).take n).countP (hadS S) = cn at *
            by_cases hjp : j = pk
            · -- the one that was set
              subst hjp
              have hz : ((pth j).toList == (pth j).toList) = true := by simp
              obtain ⟨⟨⟨fs, fl, fu⟩, had⟩, hfj⟩ : ∃ r, findS S j = r := ⟨_, rfl⟩
              rw [hfj] at CFj
              have hhad : (S j).isSome = had := by
                cases e : S j with
                | some X => rw [hfs1.out j X e] at hfj; exact congrArg Prod.snd hfj
                | none => rw [hfs0.out j e] at hfj; exact congrArg Prod.snd hfj
              rw [hhad] at hct
              clear hhad hfj
              unfold entVal uAt at CFj
              simp only at CFj
              replace CFj := Lib.hid CFj
              replace hct := Lib.hid hct
              have hcs2 : ∀ U', Ext wr U' → ∀ j', j' < 9 → U'.cell? ⟨ub, uo + n * 9 + j', none⟩ = (entOne (pth j, xl, xu))[j']? := fun U' hU j' hj' => by rw [hU.cell (by exact hubl)]; exact hcs j' hj'
              replace hcs2 := Lib.hid hcs2
              have c0 := hcs 0 (by omega)
              have c1 := hcs 1 (by omega)
              have c2 := hcs 2 (by omega)
              have c3 := hcs 3 (by omega)
              have c4 := hcs 4 (by omega)
              have c5 := hcs 5 (by omega)
              have c6 := hcs 6 (by omega)
              have c7 := hcs 7 (by omega)
              have c8 := hcs 8 (by omega)
              simp only [entOne, uAt, List.getElem?_cons_zero, List.getElem?_cons_succ, Nat.add_zero] at c0 c1 c2 c3 c4 c5 c6 c7 c8
              clear hcs
              generalize pth j = pp at *
              go_wp2_with fail
              refine CFj.out.mono ?_; rintro e w14 ⟨rfl, h14⟩
              have h14a := h14.alloc (.cells #[.string fs, .int .u64 (vG fl 0 : Nat), .int .u64 (vG fl 1 : Nat), .int .u64 (vG fl 2 : Nat), .int .u64 (vG fl 3 : Nat), .int .u64 (vG fu 0 : Nat), .int .u64 (vG fu 1 : Nat), .int .u64 (vG fu 2 : Nat), .int .u64 (vG fu 3 : Nat)] 44)
              clear c0 c1 c2 c3 c4 c5 c6 c7 c8
              have hcs := hcs2.out _ h14a
              have c0 := hcs 0 (by omega)
              have c1 := hcs 1 (by omega)
              have c2 := hcs 2 (by omega)
              have c3 := hcs 3 (by omega)
              have c4 := hcs 4 (by omega)
              have c5 := hcs 5 (by omega)
              have c6 := hcs 6 (by omega)
              have c7 := hcs 7 (by omega)
              have c8 := hcs 8 (by omega)
              simp only [entOne, uAt, List.getElem?_cons_zero, List.getElem?_cons_succ, Nat.add_zero] at c0 c1 c2 c3 c4 c5 c6 c7 c8
              clear hcs
              have hubl2 : ub < (w14.alloc (.cells #[.string fs, .int .u64 (vG fl 0 : Nat), .int .u64 (vG fl 1 : Nat), .int .u64 (vG fl 2 : Nat), .int .u64 (vG fl 3 : Nat), .int .u64 (vG fu 0 : Nat), .int .u64 (vG fu 1 : Nat), .int .u64 (vG fu 2 : Nat), .int .u64 (vG fu 3 : Nat)] 44)).heap.size := Nat.lt_of_lt_of_le hubl h14a.size
              obtain ⟨w15, hw15⟩ : ∃ w15, w15 = w14.alloc (.cells #[.string fs, .int .u64 (vG fl 0 : Nat), .int .u64 (vG fl 1 : Nat), .int .u64 (vG fl 2 : Nat), .int .u64 (vG fl 3 : Nat), .int .u64 (vG fu 0 : Nat), .int .u64 (vG fu 1 : Nat), .int .u64 (vG fu 2 : Nat), .int .u64 (vG fu 3 : Nat)] 44) := ⟨_, rfl⟩
              rw [← hw15] at hubl2 c0 c1 c2 c3 c4 c5 c6 c7 c8 h14a
              cases had with
              | true =>
                rw [if_pos rfl] at hct
                go_wp2_with fail
                rw [← hw15]
                clear hw15
                refine Dm.wp_region_grow (by kernel_rfl) (by kernel_rfl) ?_
                repeat (go_big_quiet_step (fail))
                refine wpQuiet_nil ?_
                intro w16 h16
                go_wp2
                go_roundw
                case rel => exact ⟨n + 1, by omega, by go_num, by rw [hct.out]; go_num, hb.trans (h14a.trans h16)⟩
                case measure => simp [intOf]; omega
              | false =>
                rw [if_neg (by simp)] at hct
                go_wp2_with fail
                rw [← hw15]
                clear hw15
                refine Dm.wp_region_grow (by kernel_rfl) (by kernel_rfl) ?_
                repeat (go_big_quiet_step (fail))
                refine wpQuiet_nil ?_
                intro w16 h16
                go_wp2
                go_roundw
                case rel => exact ⟨n + 1, by omega, by go_num, by rw [hct.out]; rfl, hb.trans (h14a.trans h16)⟩
                case measure => simp [intOf]; omega
            · -- another
              have hS2 : S j = some (xl, xu) := by rw [← hoth.out j hjp]; exact hjU
              rw [hfs1.out j _ hS2] at CFj
              rw [hS2] at hct
              simp only [Option.isSome_some, if_true] at hct
              have hpne : ¬ (pth j).toList = (pth pk).toList := fun h => hjp (pth_inj hj8 hpk (bytes_eq.1 (by simpa using h)))
              have hpnb : ((pth j).toList == (pth pk).toList) = false := beq_eq_false_iff_ne.2 hpne
              have hpxb : ((pth j).toList != (pth pk).toList) = true := bne_iff_ne.2 hpne
              have hqe := fun W => run_neq_entQ (eqEnt (a := (pth j, xl, xu)) (b := (pth j, xl, xu)) ⟨by have := pth_len j; show (pth j).size ≤ _; unfold maxLen; omega, hfe.2⟩ ⟨by have := pth_len j; show (pth j).size ≤ _; unfold maxLen; omega, hfe.2⟩ W)
              rw [decide_eq_true rfl] at hqe
              have hqe2 : ∀ W, (binOp .neq 44 (.agg #[.string (pth j), .int .u64 (vG xl 0 : Nat), .int .u64 (vG xl 1 : Nat), .int .u64 (vG xl 2 : Nat), .int .u64 (vG xl 3 : Nat), .int .u64 (vG xu 0 : Nat), .int .u64 (vG xu 1 : Nat), .int .u64 (vG xu 2 : Nat), .int .u64 (vG xu 3 : Nat)]) (.agg #[.string (pth j), .int .u64 (vG xl 0 : Nat), .int .u64 (vG xl 1 : Nat), .int .u64 (vG xl 2 : Nat), .int .u64 (vG xl 3 : Nat), .int .u64 (vG xu 0 : Nat), .int .u64 (vG xu 1 : Nat), .int .u64 (vG xu 2 : Nat), .int .u64 (vG xu 3 : Nat)])).run Tryd.prog W = .ok (.bool false) W := hqe
              clear hqe hS2 hjU hfe
              unfold entVal uAt at CFj
              simp only at CFj
              replace CFj := Lib.hid CFj
              replace hct := Lib.hid hct
              have hcs2 : ∀ U', Ext wr U' → ∀ j', j' < 9 → U'.cell? ⟨ub, uo + n * 9 + j', none⟩ = (entOne (pth j, xl, xu))[j']? := fun U' hU j' hj' => by rw [hU.cell (by exact hubl)]; exact hcs j' hj'
              replace hcs2 := Lib.hid hcs2
              have c0 := hcs 0 (by omega)
              have c1 := hcs 1 (by omega)
              have c2 := hcs 2 (by omega)
              have c3 := hcs 3 (by omega)
              have c4 := hcs 4 (by omega)
              have c5 := hcs 5 (by omega)
              have c6 := hcs 6 (by omega)
              have c7 := hcs 7 (by omega)
              have c8 := hcs 8 (by omega)
              simp only [entOne, uAt, List.getElem?_cons_zero, List.getElem?_cons_succ, Nat.add_zero] at c0 c1 c2 c3 c4 c5 c6 c7 c8
              clear hcs
              generalize pth j = pp at *
              go_wp2_with fail
              refine CFj.out.mono ?_; rintro e w14 ⟨rfl, h14⟩
              have h14a := h14.alloc (.cells #[.string pp, .int .u64 (vG xl 0 : Nat), .int .u64 (vG xl 1 : Nat), .int .u64 (vG xl 2 : Nat), .int .u64 (vG xl 3 : Nat), .int .u64 (vG xu 0 : Nat), .int .u64 (vG xu 1 : Nat), .int .u64 (vG xu 2 : Nat), .int .u64 (vG xu 3 : Nat)] 44)
              have hEo := EBox.new w14 pp (vG xl) (vG xu) 44
              clear c0 c1 c2 c3 c4 c5 c6 c7 c8
              have hcs := hcs2.out _ h14a
              have c0 := hcs 0 (by omega)
              have c1 := hcs 1 (by omega)
              have c2 := hcs 2 (by omega)
              have c3 := hcs 3 (by omega)
              have c4 := hcs 4 (by omega)
              have c5 := hcs 5 (by omega)
              have c6 := hcs 6 (by omega)
              have c7 := hcs 7 (by omega)
              have c8 := hcs 8 (by omega)
              simp only [entOne, uAt, List.getElem?_cons_zero, List.getElem?_cons_succ, Nat.add_zero] at c0 c1 c2 c3 c4 c5 c6 c7 c8
              clear hcs
              have hubl2 : ub < (w14.alloc (.cells #[.string pp, .int .u64 (vG xl 0 : Nat), .int .u64 (vG xl 1 : Nat), .int .u64 (vG xl 2 : Nat), .int .u64 (vG xl 3 : Nat), .int .u64 (vG xu 0 : Nat), .int .u64 (vG xu 1 : Nat), .int .u64 (vG xu 2 : Nat), .int .u64 (vG xu 3 : Nat)] 44)).heap.size := Nat.lt_of_lt_of_le hubl h14a.size
              obtain ⟨ol2, o0, o1, o2, o3, o4, o5, o6, o7, o8, _, _, _, _, _, _, _, _, _⟩ := id hEo
              obtain ⟨w15, hw15⟩ : ∃ w15, w15 = w14.alloc (.cells #[.string pp, .int .u64 (vG xl 0 : Nat), .int .u64 (vG xl 1 : Nat), .int .u64 (vG xl 2 : Nat), .int .u64 (vG xl 3 : Nat), .int .u64 (vG xu 0 : Nat), .int .u64 (vG xu 1 : Nat), .int .u64 (vG xu 2 : Nat), .int .u64 (vG xu 3 : Nat)] 44) := ⟨_, rfl⟩
              rw [← hw15] at hubl2 c0 c1 c2 c3 c4 c5 c6 c7 c8 h14a ol2 o0 o1 o2 o3 o4 o5 o6 o7 o8
              clear hEo
              go_wp2_with fail
              rw [← hw15]
              clear hw15
              refine Dm.wp_region_grow (by kernel_rfl) (by kernel_rfl) ?_
              repeat (go_big_quiet_step (fail))
              refine wpQuiet_nil ?_
              intro w16 h16
              go_wp2
              go_roundw
              case rel => exact ⟨n + 1, by omega, by go_num, by rw [hct.out]; go_num, hb.trans (h14a.trans h16)⟩
              case measure => simp [intOf]; omega
          · obtain rfl : n = (conc U).length := by omega
            have hcn : ((conc U).take (conc U).length).countP (hadS S) = (conc S).length := by rw [List.take_length]; exact hcnt.out
            rw [hcn]
            clear hcn
            have CR1' := fun W h => CR1.out W (hxr.ext h) (hEr.trans h)
            have CR2' := fun W h => CR2.out W (hxUr.ext h) (hEr.trans h)
            replace CR1' := Lib.hid CR1'
            replace CR2' := Lib.hid CR2'
            go_wp2_with fail
            refine (CR1'.out _ (Ext.refl _)).mono ?_; rintro e w14 ⟨rfl, h14⟩
            cases rr with
            | false =>
              go_wp2
              go_ret
              exact ⟨by simp, hEr.trans h14⟩
            | true =>
              go_wp2_with fail
              refine (CR2'.out _ h14).mono ?_; rintro e w15 ⟨rfl, h15⟩
              go_wp2
              go_ret
              exact ⟨by simp, (hEr.trans h14).trans h15⟩
end Go.Proofs.YtopnllbfhhjobaaDoor
