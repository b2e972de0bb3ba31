/- Texts one behind the other: Chapter 10: the walk of QuotaSums. -/
import Derived.Test.YtopnllbfhhjobaaDoorT23
namespace Go.Dm
open Go Go.RowKit
theorem Ext.grown1 {w0 w w' : World} {B : Nat} (h : Ext w0 w) (hg : w.grownBy w' (some B)) (hb : w0.heap.size ≤ B) : Ext w0 w' := Below.grown h hg h.size (fun k hk => by injection hk with hk; omega)
theorem chOne_some (c : ChQ) {i : Nat} (hi : i < 6) : ((chOne c)[i]?).isSome = true := by
  rw [List.getElem?_eq_getElem (show i < (chOne c).length from hi)]; rfl
/-- A block that a map lies in has no cells. -/
theorem map_cell {w : World} {B : Nat} {es : Array MapEntry} {cl : Nat} (h : w.heap[B]? = some (.map es cl)) (o : Nat) : w.cell? ⟨B, o, none⟩ = none := by
  unfold World.cell?
  simp [h]
theorem sl_other {w w' : World} {B sz n : Nat} {v : Value} {cs : List Value} {es : Array MapEntry} {cl : Nat} (h : w.heap[B]? = some (.map es cl)) (hg : w.grownBy w' (some B)) (hs : Sl w sz v n cs) (hp : n = 0 ∨ 0 < cs.length) : Sl w' sz v n cs := by
  obtain ⟨hl, p, cap, h1, h2, h3, h4, h5⟩ := hs
  refine ⟨hl, p, cap, h1, h2, h3, h4, ?_⟩
  rcases h5 with h5 | ⟨b, off, e, hb, hc⟩
  · exact Or.inl h5
  · rcases hp with hp | hp
    · exact Or.inl hp
    · have h0 := hc 0 _ (List.getElem?_eq_getElem hp)
      have hne : b ≠ B := fun e => by
        subst e
        rw [map_cell h] at h0; cases h0
      refine Or.inr ⟨b, off, e, Nat.lt_of_lt_of_le hb hg.size, fun j u hj => ?_⟩
      rw [← hc j u hj]
      exact World.cell?_of_block (w := w) (hg.block b hb (fun e => hne (by injection e)))
theorem entCellsQ_pos (R : List EntQ) : R.length = 0 ∨ 0 < (entCellsQ R).length := by
  rcases Nat.eq_zero_or_pos R.length with h | h
  · exact Or.inl h
  · exact Or.inr (by rw [entCellsQ_len]; omega)
theorem strs_pos (ss : List ByteArray) : ss.length = 0 ∨ 0 < (ss.map Value.string).length := by
  rw [List.length_map]; omega
end Go.Dm
namespace Go.Proofs.YtopnllbfhhjobaaDoor
open Go.RowKit Go.Dm
theorem sl_map {w w' : World} {B n sz k : Nat} {g} {v : Value} {cs : List Value} (h : MapG w B n g) (hg : w.grownBy w' (some B)) (hs : Sl w sz v k cs) (hp : k = 0 ∨ 0 < cs.length) : Sl w' sz v k cs := by
  obtain ⟨D, ⟨es, cl, hb, _⟩, _⟩ := h
  exact sl_other hb hg hs hp
theorem cell_map {w w' : World} {B n b o : Nat} {g} (h : MapG w B n g) (hg : w.grownBy w' (some B)) (hs : (w.cell? ⟨b, o, none⟩).isSome = true) : w'.cell? ⟨b, o, none⟩ = w.cell? ⟨b, o, none⟩ := by
  obtain ⟨D, ⟨es, cl, hb, _⟩, _⟩ := h
  have hne : b ≠ B := fun e => by subst e; rw [map_cell hb] at hs; cases hs
  obtain ⟨u, hu⟩ := Option.isSome_iff_exists.1 hs
  exact World.cell?_of_block (w := w) (hg.block b (World.block_lt_of_cell? _ _ hu) (fun e => hne (by injection e)))
set_option maxHeartbeats 16000000 in
set_option maxRecDepth 100000 in
theorem quotaSums_w (l m : List ChQ) (vl vm : Value) (w : World) (hl : ∀ c ∈ l, OkC c) (hxl : Chs w vl l) (hm : ∀ c ∈ m, OkC c) (hxm : Chs w vm m) (ht : Vars w) :
    Calls Tryd.prog 4 #[vl, vm] w fun e w' => e = .returned (.bool true) ∧ Ext w w' := by
  obtain ⟨ql, capl, rfl, _, _⟩ := hxl.shape
  obtain ⟨qm, capm, rfl, _, _⟩ := hxm.shape
  have CE := fun U (h : Ext w U) => qexamples_w U (ht.ext h)
  have CG := fun U (h : Ext w U) => qgrown_w l [] _ (.slice none 0 0) U hl (fun c hc => by cases hc) (hxl.ext h) (Sl.nil U 6) (ht.ext h)
  have CA := fun c (h : OkC c) U => qamount_w c h U
  have CP := fun U => qpaths_w U
  have CC := fun S (hS : OkS S) v k (hk : k < 8) c U hx (h : Ext w U) => charge_c S hS v hk (amtC c) (amtC_ok c) U hx (ht.ext h)
  have CU := fun pk U (h : Ext w U) => upsOwn_w (pth pk) U (pth_small pk) (ht.ext h)
  have CD := fun (a b : Vc) (ha : OkV a) (hb : OkV b) U => vadd_w a b ha hb U
  have CV := fun (a b : Vc) (ha : OkV a) (hb : OkV b) U => vfits_w a b ha hb U
  have hI0 := invR_init l
  generalize growS l [] = G at *
  unfold vVal vF at CA CC CD CV
  unfold chVal at CA
  replace CE := Lib.hid CE
  replace CG := Lib.hid CG
  replace CA := Lib.hid CA
  replace CP := Lib.hid CP
  replace CC := Lib.hid CC
  replace CU := Lib.hid CU
  replace CD := Lib.hid CD
  replace CV := Lib.hid CV
  go_enter Tryd.func4, Tryd.ntmps4
  go_wp2_with fail
  refine (CE.out _ (Ext.refl _)).mono ?_; rintro e w1 ⟨rfl, h1⟩
  go_wp2_with fail
  refine (CG.out _ h1).mono ?_; rintro e w2 ⟨v0, rfl, hx0, h2⟩
  replace h2 := h1.trans h2
  clear h1
  have hM0 := MapG.made w2
  have h2a := (Ext.refl w2).alloc (.map #[] 0)
  have hmm : (Instr.makeMap 39 none).run Tryd.prog w2 = .ok (.map (some w2.heap.size)) (w2.alloc (.map #[] 0)) := rfl
  go_wp2
  go_loopw [6, 8, 9, 10, 11, 12, 13, 14, 15] (fun t i _ _ _ _ _ _ _ wr => ∃ (n : Nat) (S : StQ) (L : List ChQ) (cnt : Nat) (g : ByteArray → Nat → Nat), n ≤ m.length ∧ n ≤ 24 ∧ i = .int .i64 n ∧ cnt ≤ n * 4 ∧ Ext w wr ∧ Tree wr t (conc S) ∧ MapG wr w2.heap.size cnt g ∧ Hid (InvR S L) ∧ Hid (∀ k, k < 8 → ∀ i, i < 4 → g (pth k) i = sumU L k i)) (fun _ i _ _ _ _ _ _ _ _ => 24 - (intOf i).toNat)
  case atStart => exact ⟨0, G, [], 0, _, by omega, by omega, rfl, by omega, h2.trans h2a, hx0.ext h2a, hM0, hI0, fun k _ i _ => rfl⟩
  case round =>
    obtain ⟨n, S, L, cnt, g, hn, hn24, rfl, hcnt, hb, hx, hM, HI, HG⟩ := hrel
    obtain ⟨wo, rfl⟩ : ∃ wo : World, wo = wr := ⟨_, rfl⟩
    have hS := HI.out.ok
    have hB := h2.size
    obtain ⟨tq, tc, rfl, _, _⟩ := hx.shape
    by_cases hlt : n < m.length
    case neg =>
      go_wp2
      have hcl8 := conc_len S
      go_loopw [16] (fun i wr => ∃ n : Nat, n ≤ (conc S).length ∧ i = .int .i64 n ∧ Ext wo wr) (fun i _ => (conc S).length - (intOf i).toNat)
      case atStart => exact ⟨0, by omega, rfl, Ext.refl _⟩
      case round =>
        obtain ⟨q, hq, rfl, hbq⟩ := hrel
        have hxr := hx.ext hbq
        have hMr := hM.ext hbq
        by_cases hql : q < (conc S).length
        · obtain ⟨j, hj8, hje, hjU⟩ := conc_mem (eAt_mem hql)
          obtain ⟨ub, uo, hqe, hubl, hcs⟩ := hxr.at hql
          subst hqe
          have hfe := hS.fit_conc.at hql
          obtain ⟨⟨xs, xl, xu⟩, hr⟩ : ∃ r, eAt (conc S) q = r := ⟨_, rfl⟩
          rw [hr] at hje hjU hcs hfe
          simp only at hje hjU hfe
          subst hje
          clear hr
          have hfit := hS.fit j _ hjU
          simp only at hfit
          have hgv : vF (g (pth j)) = vVal xu := vF_eq fun i hi => by
            rw [HG.out j hj8 i hi, ← HI.out.use j hj8 i hi, uS_some hjU]
          have hlk : ∀ x y, (Instr.lookup 39 (.map (some w2.heap.size)) (.string (pth j)) false).run Tryd.prog (World.grow (World.grow wr x) y) = .ok (.agg #[.int .u64 (vG xu 0 : Nat), .int .u64 (vG xu 1 : Nat), .int .u64 (vG xu 2 : Nat), .int .u64 (vG xu 3 : Nat)]) (World.grow (World.grow wr x) y) := fun x y => by
            rw [((hMr.ext (ext_grow _ x)).ext (ext_grow _ y)).look (by have := pth_len j; unfold maxLen; omega), hgv]; rfl
          have hlk1 : ∀ x, (Instr.lookup 39 (.map (some w2.heap.size)) (.string (pth j)) false).run Tryd.prog (World.grow wr x) = .ok (.agg #[.int .u64 (vG xu 0 : Nat), .int .u64 (vG xu 1 : Nat), .int .u64 (vG xu 2 : Nat), .int .u64 (vG xu 3 : Nat)]) (World.grow wr x) := fun x => by
            rw [(hMr.ext (ext_grow _ x)).look (by have := pth_len j; unfold maxLen; omega), hgv]; rfl
          have hne := fun U => run_neq_vals (P := Tryd.prog) Tryd.underlying36 Tryd.underlying34 (by kernel_rfl) hfe.2.2 hfe.2.2 U
          rw [decide_eq_true rfl] at hne
          have hne2 : ∀ U, (binOp .neq 36 (.agg #[.int .u64 (vG xu 0 : Nat), .int .u64 (vG xu 1 : Nat), .int .u64 (vG xu 2 : Nat), .int .u64 (vG xu 3 : Nat)]) (.agg #[.int .u64 (vG xu 0 : Nat), .int .u64 (vG xu 1 : Nat), .int .u64 (vG xu 2 : Nat), .int .u64 (vG xu 3 : Nat)])).run Tryd.prog U = .ok (.bool false) U := hne
          clear hne
          have CV1 := fun U => CV.out xu xl hfe.2.2 hfe.2.1 U
          rw [hfit] at CV1
          clear hgv hfit hjU hfe
          generalize pth j = pj at *
          replace CV1 := Lib.hid CV1
          have c0 := hcs 0 (by omega)
          have c1 := hcs 1 (by omega)
          have c2 := hcs 2 (by omega)
          have c3 := hcs 3 (by omega)
          have c4 := hcs 4 (by omega)
          have c5 := hcs 5 (by omega)
          have c6 := hcs 6 (by omega)
          have c7 := hcs 7 (by omega)
          have c8 := hcs 8 (by omega)
          simp only [entOne, uAt, List.getElem?_cons_zero, List.getElem?_cons_succ, Nat.add_zero] at c0 c1 c2 c3 c4 c5 c6 c7 c8
          clear hcs
          go_wp2_with fail
          refine Dm.wp_region_grow (by kernel_rfl) (by kernel_rfl) ?_
          repeat (go_big_quiet_step (first
            | (go_at_call 18; with_reducible exact Calls.quietE (CV1.out _))))
          refine wpQuiet_nil ?_
          intro w9 h9
          go_wp2
          go_roundw
          case rel => exact ⟨q + 1, by omega, by go_num, hbq.trans h9⟩
          case measure => simp [intOf]; omega
        · obtain rfl : q = (conc S).length := by omega
          go_wp2
          go_ret
          exact ⟨rfl, hb.trans hbq⟩
    by_cases hlt2 : n < 24
    case neg =>
      go_wp2
      have hcl8 := conc_len S
      go_loopw [16] (fun i wr => ∃ n : Nat, n ≤ (conc S).length ∧ i = .int .i64 n ∧ Ext wo wr) (fun i _ => (conc S).length - (intOf i).toNat)
      case atStart => exact ⟨0, by omega, rfl, Ext.refl _⟩
      case round =>
        obtain ⟨q, hq, rfl, hbq⟩ := hrel
        have hxr := hx.ext hbq
        have hMr := hM.ext hbq
        by_cases hql : q < (conc S).length
        · obtain ⟨j, hj8, hje, hjU⟩ := conc_mem (eAt_mem hql)
          obtain ⟨ub, uo, hqe, hubl, hcs⟩ := hxr.at hql
          subst hqe
          have hfe := hS.fit_conc.at hql
          obtain ⟨⟨xs, xl, xu⟩, hr⟩ : ∃ r, eAt (conc S) q = r := ⟨_, rfl⟩
          rw [hr] at hje hjU hcs hfe
          simp only at hje hjU hfe
          subst hje
          clear hr
          have hfit := hS.fit j _ hjU
          simp only at hfit
          have hgv : vF (g (pth j)) = vVal xu := vF_eq fun i hi => by
            rw [HG.out j hj8 i hi, ← HI.out.use j hj8 i hi, uS_some hjU]
          have hlk : ∀ x y, (Instr.lookup 39 (.map (some w2.heap.size)) (.string (pth j)) false).run Tryd.prog (World.grow (World.grow wr x) y) = .ok (.agg #[.int .u64 (vG xu 0 : Nat), .int .u64 (vG xu 1 : Nat), .int .u64 (vG xu 2 : Nat), .int .u64 (vG xu 3 : Nat)]) (World.grow (World.grow wr x) y) := fun x y => by
            rw [((hMr.ext (ext_grow _ x)).ext (ext_grow _ y)).look (by have := pth_len j; unfold maxLen; omega), hgv]; rfl
          have hlk1 : ∀ x, (Instr.lookup 39 (.map (some w2.heap.size)) (.string (pth j)) false).run Tryd.prog (World.grow wr x) = .ok (.agg #[.int .u64 (vG xu 0 : Nat), .int .u64 (vG xu 1 : Nat), .int .u64 (vG xu 2 : Nat), .int .u64 (vG xu 3 : Nat)]) (World.grow wr x) := fun x => by
            rw [(hMr.ext (ext_grow _ x)).look (by have := pth_len j; unfold maxLen; omega), hgv]; rfl
          have hne := fun U => run_neq_vals (P := Tryd.prog) Tryd.underlying36 Tryd.underlying34 (by kernel_rfl) hfe.2.2 hfe.2.2 U
          rw [decide_eq_true rfl] at hne
          have hne2 : ∀ U, (binOp .neq 36 (.agg #[.int .u64 (vG xu 0 : Nat), .int .u64 (vG xu 1 : Nat), .int .u64 (vG xu 2 : Nat), .int .u64 (vG xu 3 : Nat)]) (.agg #[.int .u64 (vG xu 0 : Nat), .int .u64 (vG xu 1 : Nat), .int .u64 (vG xu 2 : Nat), .int .u64 (vG xu 3 : Nat)])).run Tryd.prog U = .ok (.bool false) U := hne
          clear hne
          have CV1 := fun U => CV.out xu xl hfe.2.2 hfe.2.1 U
          rw [hfit] at CV1
          clear hgv hfit hjU hfe
          generalize pth j = pj at *
          replace CV1 := Lib.hid CV1
          have c0 := hcs 0 (by omega)
          have c1 := hcs 1 (by omega)
          have c2 := hcs 2 (by omega)
          have c3 := hcs 3 (by omega)
          have c4 := hcs 4 (by omega)
          have c5 := hcs 5 (by omega)
          have c6 := hcs 6 (by omega)
          have c7 := hcs 7 (by omega)
          have c8 := hcs 8 (by omega)
          simp only [entOne, uAt, List.getElem?_cons_zero, List.getElem?_cons_succ, Nat.add_zero] at c0 c1 c2 c3 c4 c5 c6 c7 c8
          clear hcs
          go_wp2_with fail
          refine Dm.wp_region_grow (by kernel_rfl) (by kernel_rfl) ?_
          repeat (go_big_quiet_step (first
            | (go_at_call 18; with_reducible exact Calls.quietE (CV1.out _))))
          refine wpQuiet_nil ?_
          intro w9 h9
          go_wp2
          go_roundw
          case rel => exact ⟨q + 1, by omega, by go_num, hbq.trans h9⟩
          case measure => simp [intOf]; omega
        · obtain rfl : q = (conc S).length := by omega
          go_wp2
          go_ret
          exact ⟨rfl, hb.trans hbq⟩
    obtain ⟨mb, mo, rfl, hmbl, hcs⟩ := (hxm.ext hb).at hlt
    have hok := hm _ (show chAt m n ∈ m by rw [chAt_eq hlt]; exact List.getElem_mem hlt)
    have CC1 := fun v U hx h => CC.out S hS v ((chAt m n).1.1 % 8) (by omega) (chAt m n) U hx h
    have CA1 := fun U => CA.out (chAt m n) hok U
    have hpk : (chAt m n).1.1 % 8 < 8 := by omega
    have hgo := fun h => invR_charge (c := chAt m n) HI.out h
    have hst := chargeQ_err (S := S) (h := chgS (amtC (chAt m n))) (p := (chAt m n).1.1 % 8)
    have hcon : ∀ k i, conU (chAt m n) k i = if k ∈ abvK ((chAt m n).1.1 % 8) then vG (amtC (chAt m n)) i else 0 := fun k i => rfl
    have ham : ∀ j, vG (amtC (chAt m n)) j < 8 := amtC_lt _
    have hao := amtC_ok (chAt m n)
    have hpres := fun (h : (chargeQ S (chgS (amtC (chAt m n))) ((chAt m n).1.1 % 8)).2 = 0) => (chargeQ_ok h).1
    have hsumc : ∀ k i, sumU (L ++ [chAt m n]) k i = sumU L k i + conU (chAt m n) k i := fun k i => by simp [sumU]
    obtain ⟨⟨R, eno⟩, hR⟩ : ∃ r, chargeQ S (chgS (amtC (chAt m n))) ((chAt m n).1.1 % 8) = r := ⟨_, rfl⟩
    rw [hR] at CC1 hgo hst hpres
    simp only at CC1 hgo hst hpres
    generalize L ++ [chAt m n] = L2 at *
    generalize conU (chAt m n) = con at *
    generalize amtC (chAt m n) = am at *
    obtain ⟨K, hK⟩ : ∃ K, chAt m n = K := ⟨_, rfl⟩
    rw [hK] at CC1 CA1 hcs hok hpk hcon hpres
    obtain ⟨⟨x, a, b, g0, d⟩, bk⟩ := K
    simp only at CC1 CA1 hpk hcon hpres
    obtain ⟨hc0, hc1, hc2, hc3, hc4⟩ := id hok
    simp only at hc0 hc1 hc2 hc3 hc4
    clear hR hK hok
    have hx8 : ((x : Int) % 8) = ((x % 8 : Nat) : Int) := by omega
    have hx8' : ((x : Int).tmod 8) = ((x % 8 : Nat) : Int) := by rw [Int.tmod_eq_emod_of_nonneg (by omega)]; exact hx8
    generalize x % 8 = pk at *
    have CD1 := fun a (ha : OkV a) U => CD.out a am ha hao U
    replace CC1 := Lib.hid CC1
    replace CA1 := Lib.hid CA1
    replace CD1 := Lib.hid CD1
    replace hgo := Lib.hid hgo
    replace hst := Lib.hid hst
    replace hcon := Lib.hid hcon
    replace hpres := Lib.hid hpres
    replace hsumc := Lib.hid hsumc
    have hcs2 : ∀ U, Ext wo U → ∀ j, j < 6 → U.cell? ⟨mb, mo + n * 6 + j, none⟩ = (chOne ((x, a, b, g0, d), bk))[j]? := fun U hU j hj => by rw [hU.cell (by exact hmbl)]; exact hcs j hj
    have hmb2 : ∀ U, Ext wo U → mb < U.heap.size := fun U h => Nat.lt_of_lt_of_le hmbl h.size
    replace hcs2 := Lib.hid hcs2
    have c0 := hcs 0 (by omega)
    have c1 := hcs 1 (by omega)
    have c2 := hcs 2 (by omega)
    have c3 := hcs 3 (by omega)
    have c4 := hcs 4 (by omega)
    have c5 := hcs 5 (by omega)
    simp only [chOne, List.getElem?_cons_zero, List.getElem?_cons_succ, Nat.add_zero] at c0 c1 c2 c3 c4 c5
    clear hcs
    go_wp2_with fail
    try simp only [Act.put, List.setIfInBounds_toArray, List.set_cons_succ, List.set_cons_zero]
    refine Dm.wp_region_ext 10 (Dm.bits 10 0) (Ext.refl wo) (by kernel_rfl) (by kernel_rfl) (by kernel_rfl) ?_
    refine Dm.wpE_take (i := 1) (listed' := (Dm.bits 10 2)) (by kernel_rfl) (by kernel_rfl) rfl (fun _ _ _ _ h => h) ?_; apply Exists.intro; refine And.intro (fun x => ?_) ?_
    · go_big_quiet_step (fail); exact wpQuiet_nil rfl
    refine Dm.wpE_take (i := 2) (listed' := (Dm.bits 10 6)) (by kernel_rfl) (by kernel_rfl) rfl (fun _ _ _ _ h => h) ?_; apply Exists.intro; refine And.intro (fun x => ?_) ?_
    · go_big_quiet_step (fail); exact wpQuiet_nil rfl
    refine Dm.wpE_take (i := 3) (listed' := (Dm.bits 10 14)) (by kernel_rfl) (by kernel_rfl) rfl (fun _ _ _ _ h => h) ?_; apply Exists.intro; refine And.intro (fun x => ?_) ?_
    · go_big_quiet_step (fail); exact wpQuiet_nil rfl
    refine Dm.wpE_take (i := 4) (listed' := (Dm.bits 10 30)) (by kernel_rfl) (by kernel_rfl) rfl (fun _ _ _ _ h => h) ?_; apply Exists.intro; refine And.intro (fun x => ?_) ?_
    · go_big_quiet_step (fail); exact wpQuiet_nil rfl
    refine Dm.wpE_take (i := 5) (listed' := (Dm.bits 10 62)) (by kernel_rfl) (by kernel_rfl) rfl (fun _ _ _ _ h => h) ?_; apply Exists.intro; refine And.intro (fun x => ?_) ?_
    · go_big_quiet_step (fail); exact wpQuiet_nil rfl
    refine Dm.wpE_take (i := 6) (listed' := (Dm.bits 10 126)) (by kernel_rfl) (by kernel_rfl) rfl (fun _ _ _ _ h => h) ?_; apply Exists.intro; refine And.intro (fun x => ?_) ?_
    · go_big_quiet_step (fail); exact wpQuiet_nil rfl
    refine Dm.wpE_one (i := 0) (listed' := (Dm.bits 10 127)) (by kernel_rfl) (by kernel_rfl) rfl (Ext.refl wo) (fun w1a hx1a => ?_)
    have hX1a := Ext.trans (Ext.refl wo) hx1a
    go_wp2_with (go_at_call 13; go_must (refine (CP.out w1a).mono ?_; rintro e w1b ⟨vp, rfl, hPs, hs1⟩))
    obtain ⟨pp, pcap, rfl, _, _⟩ := hPs.shape
    obtain ⟨pb, po, rfl, hpbl, hpc⟩ := hPs.at (k := pk) hpk
    have hAt : AtC pb (po + pk) (.string (pth pk)) w1b := ⟨hpbl, hpc⟩
    clear hPs hpc hpbl
    have hpkl : pk < pathsB.length := hpk
    have hX1b := Ext.trans hX1a hs1
    try simp only [Exit.then, Act.put]
    refine Dm.wpE_take (i := 7) (listed' := (Dm.bits 10 255)) (by kernel_rfl) (by kernel_rfl) rfl (fun _ _ _ _ h => h) ?_; apply Exists.intro; refine And.intro (fun x => ?_) ?_
    · go_big_quiet_step (fail); exact wpQuiet_nil rfl
    refine Dm.wpE_one (i := 8) (listed' := (Dm.bits 10 511)) (by kernel_rfl) (by kernel_rfl) rfl hX1b (fun w2a hx2a => ?_)
    have hX2a := Ext.trans hX1b hx2a
    replace hAt := hAt.ext hx2a
    obtain ⟨hAl, hAc⟩ := hAt
    go_wp2_with fail
    clear hAl hAc
    have hX2b := hX2a
    have hs2 := Ext.refl w2a
    generalize w2a = w2b at *
    try simp only [Exit.then, Act.put]
    refine Dm.wpE_take (i := 9) (listed' := (Dm.bits 10 1023)) (by kernel_rfl) (by kernel_rfl) rfl (fun _ _ _ _ h => h) ?_; apply Exists.intro; refine And.intro (fun x => ?_) ?_
    · go_big_quiet_step (fail); exact wpQuiet_nil rfl
    refine Dm.wpE_done (by kernel_rfl) hX2b (fun w3a hx3a => ?_)
    have hX3a := Ext.trans hX2b hx3a
    replace hb := hb.trans hX3a
    replace hx := hx.ext hX3a
    replace hM := hM.ext hX3a
    have hoE := hX3a
    clear c0 c1 c2 c3 c4 c5
    generalize w3a = w3 at *
    have hcs := hcs2.out _ hoE
    have hmb3 := hmb2 _ hoE
    have c0 := hcs 0 (by omega)
    have c1 := hcs 1 (by omega)
    have c2 := hcs 2 (by omega)
    have c3 := hcs 3 (by omega)
    have c4 := hcs 4 (by omega)
    have c5 := hcs 5 (by omega)
    simp only [chOne, List.getElem?_cons_zero, List.getElem?_cons_succ, Nat.add_zero] at c0 c1 c2 c3 c4 c5
    clear hcs
    go_wp2_with fail
    refine (CA1.out _).mono ?_; rintro e w4 ⟨rfl, h4⟩
    replace hb := hb.trans h4
    replace hx := hx.ext h4
    replace hM := hM.ext h4
    replace hoE := hoE.trans h4
    clear c0 c1 c2 c3 c4 c5 h4 hmb3
    go_wp2_with fail
    refine (CC1.out _ _ hx hb).mono ?_; rintro e w5 ⟨v5, rfl, hx5, h5⟩
    replace hb := hb.trans h5
    replace hx := hx.ext h5
    replace hM := hM.ext h5
    replace hoE := hoE.trans h5
    clear h5
    by_cases he : eno = 0
    case neg =>
      have hRS : R = S := hst.out he
      subst hRS
      have hei : ¬ (eno : Int) = 0 := by omega
      go_wp2
      go_roundw
      case rel => exact ⟨n + 1, R, L, cnt, g, by omega, by omega, by go_num, by omega, hb, hx5, hM, HI, HG⟩
      case measure => simp [intOf]; omega
    subst he
    have hI2 := Lib.hid (hgo.out rfl)
    have hpr := hpres.out rfl
    clear hgo hst hpres
    have hups : upsB (pth pk) = ((abvK pk).drop 1).map pth := ups_drop hpk
    have hL0 : abvK pk = 0 :: (abvK pk).drop 1 := abvK_head pk hpk
    have hL4 := abvK_four pk hpk
    have hL8 := abvK_lt pk hpk
    have hLn := abvK_nodup pk hpk
    replace hpr := Lib.hid hpr
    have h6a := (Ext.refl w5).alloc (.cells #[.string ⟨#[]⟩] 9)
    have CU2 := CU.out pk (w5.alloc (.cells #[.string ⟨#[]⟩] 9)) (hb.trans h6a)
    replace CU2 := Lib.hid CU2
    go_wp2_with fail
    refine CU2.out.mono ?_; rintro e w6 ⟨r6, ss, rfl, hP, ho6, h6⟩
    obtain rfl : ss = upsB (pth pk) := bytesOf_inj (by rw [hP, upsB_bytes])
    generalize abvK pk = KL at *
    have ho0 : (w5.alloc (.cells #[.string ⟨#[]⟩] 9)).ownsRow w5.heap.size 9 1 (.slice (some ⟨w5.heap.size, 0, none⟩) 1 1) 1 [.string ⟨#[]⟩] := World.ownsRow_lit w5 #[.string ⟨#[]⟩] 1 (Nat.le_refl _) (by simp [maxLen]) rfl
    have hsl6 : Sl w6 1 r6 (upsB (pth pk)).length ((upsB (pth pk)).map .string) := Sl.of_owns ho6
    have hones : ∀ u ∈ (upsB (pth pk)).map Value.string, u.oneCell' = true := fun u hu => by
      obtain ⟨x, _, rfl⟩ := List.mem_map.1 hu; rfl
    have h6' := h6a.trans h6
    have ho0' := Ext.row ho0 h6
    have hul : (upsB (pth pk)).length ≤ 3 := upsB_len _
    obtain ⟨ra, rc, rfl⟩ : ∃ a c, r6 = .slice a (upsB (pth pk)).length c := by
      obtain ⟨a, c, e, _⟩ := hsl6.shape; exact ⟨a, c, e⟩
    have hlen1 : 1 + (upsB (pth pk)).length = KL.length := by rw [hups, hL0]; simp; omega
    have hcel1 : ([.string ⟨#[]⟩] : List Value) ++ (upsB (pth pk)).map .string = (KL.map pth).map .string := by rw [hups, hL0]; rfl
    replace hlen1 := Lib.hid hlen1
    replace hcel1 := Lib.hid hcel1
    clear hP hups ho6 CU2
    generalize upsB (pth pk) = us at *
    go_wp2_with (at_builtin; go_must (refine wpList_appE (n := 1) (m := us.length) rfl _ _ Tryd.slStr rfl h6' rfl ho0' rfl hsl6 hones (by omega) ?_; intro vl wl hol hbl _; refine Hid.out ?_))
    rw [hlen1.out, hcel1.out] at hol
    have hsL : Strs wl vl (KL.map pth) := Strs.of_row hol (by simp)
    replace hb := hb.trans hbl
    replace hx5 := hx5.ext hbl
    replace hM := hM.ext hbl
    replace hoE := hoE.trans hbl
    clear hbl hol hlen1 hcel1 hsl6 hones h6a h6 h6' ho0 ho0' hL0 hx
    obtain ⟨lp, lc, hle, _, _⟩ := hsL.shape
    rw [List.length_map] at hle
    subst hle
    generalize wl = w7 at *
    refine Lib.hid ?_
    go_wp2
    go_loopw [13, 14, 15] (fun i _ _ wr => ∃ (j : Nat) (g' : ByteArray → Nat → Nat) (cnt' : Nat), j ≤ KL.length ∧ i = .int .i64 j ∧ cnt' ≤ cnt + j ∧ Ext w wr ∧ mb < wr.heap.size ∧ (∀ j, j < 6 → wr.cell? ⟨mb, mo + n * 6 + j, none⟩ = (chOne ((x, a, b, g0, d), bk))[j]?) ∧ Tree wr v5 (conc R) ∧ Strs wr (.slice lp KL.length lc) (KL.map pth) ∧ MapG wr w2.heap.size cnt' g' ∧ Hid (∀ k, k < 8 → ∀ i, i < 4 → g' (pth k) i = sumU L k i + if k ∈ KL.take j then vG am i else 0)) (fun i _ _ _ => KL.length - (intOf i).toNat)
    case atStart => exact ⟨0, g, cnt, by omega, rfl, by omega, hb, hmb2 _ hoE, hcs2.out _ hoE, hx5, hsL, hM, fun k hk i hi => by rw [HG.out k hk i hi]; simp⟩
    case round =>
      obtain ⟨j, g', cnt', hj, rfl, hcnt', hbr, hmbr, hcr, hxr, hsr, hMr, HG'⟩ := hrel
      by_cases hjl : j < KL.length
      · obtain ⟨k, hk⟩ : ∃ k, KL[j] = k := ⟨_, rfl⟩
        have hkm : k ∈ KL := by rw [← hk]; exact List.getElem_mem hjl
        have hk8 := hL8 k hkm
        have hnot : k ∉ KL.take j := fun h => by
          rw [← hk] at h
          obtain ⟨i, hi, e⟩ := List.getElem_of_mem h
          rw [List.length_take] at hi
          rw [List.getElem_take] at e
          exact List.pairwise_iff_getElem.1 hLn i j (by omega) hjl (by omega) e
        obtain ⟨sb, so, hse, hsbl, hsc⟩ := hsr.at' (k := j) (by rw [List.length_map]; exact hjl)
        subst hse
        rw [show strAt (KL.map pth) j = pth k by rw [← hk]; simp [strAt, hjl]] at hsc
        have hgk : ∀ i, i < 4 → g' (pth k) i = sumU L k i := fun i hi => by rw [HG'.out k hk8 i hi, if_neg hnot]; omega
        have hgs : ∀ i, i < 4 → g' (pth k) i ≤ 40 := fun i hi => by
          rw [hgk i hi, ← HI.out.use k hk8 i hi]; exact uS_small hS k i hi
        obtain ⟨ga, hga⟩ : ∃ ga : Vc, ga = [g' (pth k) 0, g' (pth k) 1, g' (pth k) 2, g' (pth k) 3] := ⟨_, rfl⟩
        have hgo : OkV ga := by rw [hga]; exact okV_small ⟨by have := hgs 0 (by omega); omega, by have := hgs 1 (by omega); omega, by have := hgs 2 (by omega); omega, by have := hgs 3 (by omega); omega⟩
        have hgv : vF (g' (pth k)) = vVal ga := vF_eq fun i hi => by
          rw [hga]
          match i, hi with
          | 0, _ => rfl
          | 1, _ => rfl
          | 2, _ => rfl
          | 3, _ => rfl
        have hgi : ∀ i, i < 4 → vG ga i = g' (pth k) i := fun i hi => by
          rw [hga]
          match i, hi with
          | 0, _ => rfl
          | 1, _ => rfl
          | 2, _ => rfl
          | 3, _ => rfl
        have hadd : vaddOk ga am = true := by
          rw [vaddOk_four, hgi 0 (by omega), hgi 1 (by omega), hgi 2 (by omega), hgi 3 (by omega)]
          have a0 := hgs 0 (by omega)
          have a1 := hgs 1 (by omega)
          have a2 := hgs 2 (by omega)
          have a3 := hgs 3 (by omega)
          have b0 := ham 0
          have b1 := ham 1
          have b2 := ham 2
          have b3 := ham 3
          omega
        have CD2 := fun U => CD1.out ga hgo U
        rw [hadd, show vOr true (vadd ga am) = vadd ga am from rfl] at CD2
        have hlk : ∀ x y, (Instr.lookup 39 (.map (some w2.heap.size)) (.string (pth k)) false).run Tryd.prog (World.grow (World.grow wr x) y) = .ok (.agg #[.int .u64 (vG ga 0 : Nat), .int .u64 (vG ga 1 : Nat), .int .u64 (vG ga 2 : Nat), .int .u64 (vG ga 3 : Nat)]) (World.grow (World.grow wr x) y) := fun x y => by
          rw [((hMr.ext (ext_grow _ x)).ext (ext_grow _ y)).look (by have := pth_len k; unfold maxLen; omega), hgv]; rfl
        have hlk1 : ∀ x, (Instr.lookup 39 (.map (some w2.heap.size)) (.string (pth k)) false).run Tryd.prog (World.grow wr x) = .ok (.agg #[.int .u64 (vG ga 0 : Nat), .int .u64 (vG ga 1 : Nat), .int .u64 (vG ga 2 : Nat), .int .u64 (vG ga 3 : Nat)]) (World.grow wr x) := fun x => by
          rw [(hMr.ext (ext_grow _ x)).look (by have := pth_len k; unfold maxLen; omega), hgv]; rfl
        have hnew : Hid (∀ k', k' < 8 → ∀ i, i < 4 → putG g' (pth k) (vG (vadd ga am)) (pth k') i = sumU L k' i + if k' ∈ KL.take (j + 1) then vG am i else 0) := fun k' hk' i hi => by
          have htk : KL.take (j + 1) = KL.take j ++ [k] := by rw [List.take_add_one, List.getElem?_eq_getElem hjl, hk]; rfl
          rw [htk]
          unfold putG
          by_cases hkk : k' = k
          · subst hkk
            rw [if_pos rfl, if_pos (by simp), vadd_at4 _ _ hi, hgi i hi, hgk i hi]
          · rw [if_neg (fun h => hkk (pth_inj hk' hk8 h)), HG'.out k' hk' i hi]
            congr 1
            have : (k' ∈ KL.take j ++ [k]) ↔ k' ∈ KL.take j := by simp [hkk]
            simp only [this]
        have hpl : (pth k).size ≤ maxLen := by have := pth_len k; unfold maxLen; omega
        clear hgv hgi hgs hgk hga hgo hadd hnot HG' hk hkm
        generalize vG (vadd ga am) = N at *
        generalize vG ga = GA at *
        generalize pth k = pj at *
        replace CD2 := Lib.hid CD2
        replace hpl := Lib.hid hpl
        have c0 := hcr 0 (by omega)
        have c1 := hcr 1 (by omega)
        have c2 := hcr 2 (by omega)
        have c3 := hcr 3 (by omega)
        have c4 := hcr 4 (by omega)
        have c5 := hcr 5 (by omega)
        simp only [chOne, List.getElem?_cons_zero, List.getElem?_cons_succ, Nat.add_zero] at c0 c1 c2 c3 c4 c5
        have hcrH := Lib.hid hcr
        clear hcr
        go_wp2_with fail
        try simp only [Act.put, List.setIfInBounds_toArray, List.set_cons_succ, List.set_cons_zero]
        refine Dm.wp_region_ext 18 (Dm.bits 18 0) (Ext.refl wr) (by kernel_rfl) (by kernel_rfl) (by kernel_rfl) ?_
        refine Dm.wpE_take (i := 0) (listed' := (Dm.bits 18 1)) (by kernel_rfl) (by kernel_rfl) rfl (fun _ _ _ _ h => h) ?_; apply Exists.intro; refine And.intro (fun x => ?_) ?_
        · go_big_quiet_step ((first | (go_at_call 14; exact Calls.quietE (CA1.out _)) | (go_at_call 17; exact Calls.quietE (CD2.out _)))); exact wpQuiet_nil rfl
        refine Dm.wpE_take (i := 1) (listed' := (Dm.bits 18 3)) (by kernel_rfl) (by kernel_rfl) rfl (fun _ _ _ _ h => h) ?_; apply Exists.intro; refine And.intro (fun x => ?_) ?_
        · go_big_quiet_step ((first | (go_at_call 14; exact Calls.quietE (CA1.out _)) | (go_at_call 17; exact Calls.quietE (CD2.out _)))); exact wpQuiet_nil rfl
        refine Dm.wpE_take (i := 2) (listed' := (Dm.bits 18 7)) (by kernel_rfl) (by kernel_rfl) rfl (fun _ _ _ _ h => h) ?_; apply Exists.intro; refine And.intro (fun x => ?_) ?_
        · go_big_quiet_step ((first | (go_at_call 14; exact Calls.quietE (CA1.out _)) | (go_at_call 17; exact Calls.quietE (CD2.out _)))); exact wpQuiet_nil rfl
        refine Dm.wpE_take (i := 3) (listed' := (Dm.bits 18 15)) (by kernel_rfl) (by kernel_rfl) rfl (fun _ _ _ _ h => h) ?_; apply Exists.intro; refine And.intro (fun x => ?_) ?_
        · go_big_quiet_step ((first | (go_at_call 14; exact Calls.quietE (CA1.out _)) | (go_at_call 17; exact Calls.quietE (CD2.out _)))); exact wpQuiet_nil rfl
        refine Dm.wpE_take (i := 4) (listed' := (Dm.bits 18 31)) (by kernel_rfl) (by kernel_rfl) rfl (fun _ _ _ _ h => h) ?_; apply Exists.intro; refine And.intro (fun x => ?_) ?_
        · go_big_quiet_step ((first | (go_at_call 14; exact Calls.quietE (CA1.out _)) | (go_at_call 17; exact Calls.quietE (CD2.out _)))); exact wpQuiet_nil rfl
        refine Dm.wpE_take (i := 5) (listed' := (Dm.bits 18 63)) (by kernel_rfl) (by kernel_rfl) rfl (fun _ _ _ _ h => h) ?_; apply Exists.intro; refine And.intro (fun x => ?_) ?_
        · go_big_quiet_step ((first | (go_at_call 14; exact Calls.quietE (CA1.out _)) | (go_at_call 17; exact Calls.quietE (CD2.out _)))); exact wpQuiet_nil rfl
        refine Dm.wpE_take (i := 6) (listed' := (Dm.bits 18 127)) (by kernel_rfl) (by kernel_rfl) rfl (fun _ _ _ _ h => h) ?_; apply Exists.intro; refine And.intro (fun x => ?_) ?_
        · go_big_quiet_step ((first | (go_at_call 14; exact Calls.quietE (CA1.out _)) | (go_at_call 17; exact Calls.quietE (CD2.out _)))); exact wpQuiet_nil rfl
        refine Dm.wpE_take (i := 7) (listed' := (Dm.bits 18 255)) (by kernel_rfl) (by kernel_rfl) rfl (fun _ _ _ _ h => h) ?_; apply Exists.intro; refine And.intro (fun x => ?_) ?_
        · go_big_quiet_step ((first | (go_at_call 14; exact Calls.quietE (CA1.out _)) | (go_at_call 17; exact Calls.quietE (CD2.out _)))); exact wpQuiet_nil rfl
        refine Dm.wpE_take (i := 8) (listed' := (Dm.bits 18 511)) (by kernel_rfl) (by kernel_rfl) rfl (fun _ _ _ _ h => h) ?_; apply Exists.intro; refine And.intro (fun x => ?_) ?_
        · go_big_quiet_step ((first | (go_at_call 14; exact Calls.quietE (CA1.out _)) | (go_at_call 17; exact Calls.quietE (CD2.out _)))); exact wpQuiet_nil rfl
        refine Dm.wpE_take (i := 9) (listed' := (Dm.bits 18 1023)) (by kernel_rfl) (by kernel_rfl) rfl (fun _ _ _ _ h => h) ?_; apply Exists.intro; refine And.intro (fun x => ?_) ?_
        · go_big_quiet_step ((first | (go_at_call 14; exact Calls.quietE (CA1.out _)) | (go_at_call 17; exact Calls.quietE (CD2.out _)))); exact wpQuiet_nil rfl
        refine Dm.wpE_take (i := 10) (listed' := (Dm.bits 18 2047)) (by kernel_rfl) (by kernel_rfl) rfl (fun _ _ _ _ h => h) ?_; apply Exists.intro; refine And.intro (fun x => ?_) ?_
        · go_big_quiet_step ((first | (go_at_call 14; exact Calls.quietE (CA1.out _)) | (go_at_call 17; exact Calls.quietE (CD2.out _)))); exact wpQuiet_nil rfl
        refine Dm.wpE_take (i := 11) (listed' := (Dm.bits 18 4095)) (by kernel_rfl) (by kernel_rfl) rfl (fun _ _ _ _ h => h) ?_; apply Exists.intro; refine And.intro (fun x => ?_) ?_
        · go_big_quiet_step ((first | (go_at_call 14; exact Calls.quietE (CA1.out _)) | (go_at_call 17; exact Calls.quietE (CD2.out _)))); exact wpQuiet_nil rfl
        refine Dm.wpE_take (i := 12) (listed' := (Dm.bits 18 8191)) (by kernel_rfl) (by kernel_rfl) rfl (fun _ _ _ _ h => h) ?_; apply Exists.intro; refine And.intro (fun x => ?_) ?_
        · go_big_quiet_step ((first | (go_at_call 14; exact Calls.quietE (CA1.out _)) | (go_at_call 17; exact Calls.quietE (CD2.out _)))); exact wpQuiet_nil rfl
        refine Dm.wpE_take (i := 13) (listed' := (Dm.bits 18 16383)) (by kernel_rfl) (by kernel_rfl) rfl (fun _ _ _ _ h => h) ?_; apply Exists.intro; refine And.intro (fun x => ?_) ?_
        · go_big_quiet_step ((first | (go_at_call 14; exact Calls.quietE (CA1.out _)) | (go_at_call 17; exact Calls.quietE (CD2.out _)))); exact wpQuiet_nil rfl
        refine Dm.wpE_take (i := 14) (listed' := (Dm.bits 18 32767)) (by kernel_rfl) (by kernel_rfl) rfl (fun _ _ _ _ h => h) ?_; apply Exists.intro; refine And.intro (fun x => ?_) ?_
        · go_big_quiet_step ((first | (go_at_call 14; exact Calls.quietE (CA1.out _)) | (go_at_call 17; exact Calls.quietE (CD2.out _)))); exact wpQuiet_nil rfl
        refine Dm.wpE_one (i := 15) (listed' := (Dm.bits 18 65535)) (by kernel_rfl) (by kernel_rfl) rfl (Ext.refl wr) (fun w1a hx1a => ?_)
        have hX1a := Ext.trans (Ext.refl wr) hx1a
        have hs1 := (Ext.refl w1a).alloc (.cells #[.int .u64 0, .int .u64 0, .int .u64 0, .int .u64 0] 36)
        have hN0 : VBox w1a.heap.size (fun _ => 0) (w1a.alloc (.cells #[.int .u64 0, .int .u64 0, .int .u64 0, .int .u64 0] 36)) := VBox.new w1a (fun _ => 0) 36
        have hge : wr.heap.size ≤ w1a.heap.size := hX1a.size
        go_wp2_with fail
        have hX1b := Ext.trans hX1a hs1
        generalize w1a.alloc (.cells #[.int .u64 0, .int .u64 0, .int .u64 0, .int .u64 0] 36) = w1b at *
        try simp only [Exit.then, Act.put]
        refine Dm.wpE_one (i := 16) (listed' := (Dm.bits 18 131071)) (by kernel_rfl) (by kernel_rfl) rfl hX1b (fun w2a hx2a => ?_)
        have hX2a := Ext.trans hX1b hx2a
        replace hN0 := hN0.ext hx2a
        obtain ⟨_, q0, q1, q2, q3, g0', g1', g2', g3'⟩ := hN0.four
        go_wp2_with fail
        clear q0 q1 q2 q3 g0' g1' g2' g3'
        have hN1 := hN0.put N
        have hX2b := Ext.put4 hX2a hge N
        have hgw : put4 w2a w1a.heap.size N = (((w2a.setCell ⟨w1a.heap.size, 0, none⟩ (.int .u64 (N 0 : Nat))).setCell ⟨w1a.heap.size, 1, none⟩ (.int .u64 (N 1 : Nat))).setCell ⟨w1a.heap.size, 2, none⟩ (.int .u64 (N 2 : Nat))).setCell ⟨w1a.heap.size, 3, none⟩ (.int .u64 (N 3 : Nat)) := rfl
        rw [← hgw]
        clear hgw
        generalize put4 w2a w1a.heap.size N = w2b at *
        try simp only [Exit.then, Act.put]
        refine Dm.wpE_take (i := 17) (listed' := (Dm.bits 18 262143)) (by kernel_rfl) (by kernel_rfl) rfl (fun _ _ _ _ h => h) ?_; apply Exists.intro; refine And.intro (fun x => ?_) ?_
        · go_big_quiet_step ((first | (go_at_call 14; exact Calls.quietE (CA1.out _)) | (go_at_call 17; exact Calls.quietE (CD2.out _)))); exact wpQuiet_nil rfl
        refine Dm.wpE_done (by kernel_rfl) hX2b (fun w3a hx3a => ?_)
        have hX3a := Ext.trans hX2b hx3a
        replace hN1 := hN1.ext hx3a
        replace hbr := hbr.trans hX3a
        replace hxr := hxr.ext hX3a
        replace hsr := hsr.ext hX3a
        replace hMr := hMr.ext hX3a
        have hsA : AtC sb (so + j) (.string pj) w3a := AtC.ext ⟨hsbl, hsc⟩ hX3a
        have hcr2 : ∀ j, j < 6 → (w3a).cell? ⟨mb, mo + n * 6 + j, none⟩ = (chOne ((x, a, b, g0, d), bk))[j]? := fun j hj => by rw [hX3a.cell (by exact hmbr)]; exact hcrH.out j hj
        have hmbr2 := Nat.lt_of_lt_of_le hmbr hX3a.size
        clear c0 c1 c2 c3 c4 c5 hcrH hmbr hge hlk hlk1 hsbl hsc
        generalize w3a = w8 at *
        have HI8 : AtC sb (so + j) (.string pj) w8 ∧ V4 w1a.heap.size N w8 := ⟨hsA, hN1.four⟩
        go_wp2_with fail
        try simp only [Act.put, List.setIfInBounds_toArray, List.set_cons_succ, List.set_cons_zero]
        refine Dm.wp_region_fin (I := (fun U => AtC sb (so + j) (.string pj) U ∧ V4 w1a.heap.size N U)) (z := 6) 7 (Dm.bits 7 0) (by kernel_rfl) (by kernel_rfl) (by kernel_rfl) ?_
        refine Dm.wpF_take (i := 0) (listed' := (Dm.bits 7 1)) (fun _ _ h hx => ⟨h.1.ext hx, h.2.ext hx⟩) HI8 (by kernel_rfl) (by kernel_rfl) rfl (fun _ _ _ _ h => h) ?_; apply Exists.intro; refine And.intro (fun wq hwq => ?_) ?_
        · obtain ⟨⟨sl', sc'⟩, ⟨nl', n0', n1', n2', n3', _, _, _, _⟩⟩ := hwq; go_big_quiet_step (fail); exact wpQuiet_nil rfl
        refine Dm.wpF_take (i := 1) (listed' := (Dm.bits 7 3)) (fun _ _ h hx => ⟨h.1.ext hx, h.2.ext hx⟩) HI8 (by kernel_rfl) (by kernel_rfl) rfl (fun _ _ _ _ h => h) ?_; apply Exists.intro; refine And.intro (fun wq hwq => ?_) ?_
        · obtain ⟨⟨sl', sc'⟩, ⟨nl', n0', n1', n2', n3', _, _, _, _⟩⟩ := hwq; go_big_quiet_step (fail); exact wpQuiet_nil rfl
        refine Dm.wpF_take (i := 2) (listed' := (Dm.bits 7 7)) (fun _ _ h hx => ⟨h.1.ext hx, h.2.ext hx⟩) HI8 (by kernel_rfl) (by kernel_rfl) rfl (fun _ _ _ _ h => h) ?_; apply Exists.intro; refine And.intro (fun wq hwq => ?_) ?_
        · obtain ⟨⟨sl', sc'⟩, ⟨nl', n0', n1', n2', n3', _, _, _, _⟩⟩ := hwq; go_big_quiet_step (fail); exact wpQuiet_nil rfl
        refine Dm.wpF_take (i := 3) (listed' := (Dm.bits 7 15)) (fun _ _ h hx => ⟨h.1.ext hx, h.2.ext hx⟩) HI8 (by kernel_rfl) (by kernel_rfl) rfl (fun _ _ _ _ h => h) ?_; apply Exists.intro; refine And.intro (fun wq hwq => ?_) ?_
        · obtain ⟨⟨sl', sc'⟩, ⟨nl', n0', n1', n2', n3', _, _, _, _⟩⟩ := hwq; go_big_quiet_step (fail); exact wpQuiet_nil rfl
        refine Dm.wpF_take (i := 4) (listed' := (Dm.bits 7 31)) (fun _ _ h hx => ⟨h.1.ext hx, h.2.ext hx⟩) HI8 (by kernel_rfl) (by kernel_rfl) rfl (fun _ _ _ _ h => h) ?_; apply Exists.intro; refine And.intro (fun wq hwq => ?_) ?_
        · obtain ⟨⟨sl', sc'⟩, ⟨nl', n0', n1', n2', n3', _, _, _, _⟩⟩ := hwq; go_big_quiet_step (fail); exact wpQuiet_nil rfl
        refine Dm.wpF_take (i := 5) (listed' := (Dm.bits 7 63)) (fun _ _ h hx => ⟨h.1.ext hx, h.2.ext hx⟩) HI8 (by kernel_rfl) (by kernel_rfl) rfl (fun _ _ _ _ h => h) ?_; apply Exists.intro; refine And.intro (fun wq hwq => ?_) ?_
        · obtain ⟨⟨sl', sc'⟩, ⟨nl', n0', n1', n2', n3', _, _, _, _⟩⟩ := hwq; go_big_quiet_step (fail); exact wpQuiet_nil rfl
        refine Dm.wpF_one (i := 6) (listed' := (Dm.bits 7 127)) (by kernel_rfl) (by kernel_rfl) rfl (fun wz hxz => ?_)
        refine wpList_putG (A := N) (s := pj) rfl _ _ _ rfl rfl (hMr.ext hxz) (by unfold maxLen; omega) hpl.out rfl rfl ?_; intro w9 hM9 hg9; refine wpList_nil ?_
        go_wp2_with fail
        first | refine ⟨fun h => absurd rfl h, ?_⟩ | skip
        refine Dm.wpF_done (by kernel_rfl) (fun wy hxy => ?_)
        have hMz := hMr.ext hxz
        have hbr9 : Ext w wy := ((hbr.trans hxz).grown1 hg9 hB).trans hxy
        go_wp2
        go_roundw
        case rel =>
          exact ⟨j + 1, _, cnt' + 1, by omega, by go_num, by omega, hbr9, Nat.lt_of_lt_of_le (Nat.lt_of_lt_of_le (Nat.lt_of_lt_of_le hmbr2 hxz.size) hg9.size) hxy.size, fun i hi => by rw [hxy.cell (by exact Nat.lt_of_lt_of_le (Nat.lt_of_lt_of_le hmbr2 hxz.size) hg9.size), cell_map hMz hg9 (by rw [hxz.cell (by exact hmbr2), hcr2 i hi]; exact chOne_some _ hi), hxz.cell (by exact hmbr2)]; exact hcr2 i hi, (sl_map hMz hg9 (hxr.ext hxz) (entCellsQ_pos _)).ext hxy, (sl_map hMz hg9 (hsr.ext hxz) (strs_pos _)).ext hxy, hM9.ext hxy, hnew.out⟩
        case measure => simp [intOf]; omega
      · obtain rfl : j = KL.length := by omega
        go_wp2
        go_roundw
        case rel =>
          refine ⟨n + 1, R, L2, cnt', g', by omega, by omega, by go_num, by omega, hbr, hxr, hMr, hI2.out, fun k hk i hi => ?_⟩
          rw [HG'.out k hk i hi, hsumc.out, hcon.out, List.take_length]
        case measure => simp [intOf]; omega
end Go.Proofs.YtopnllbfhhjobaaDoor
