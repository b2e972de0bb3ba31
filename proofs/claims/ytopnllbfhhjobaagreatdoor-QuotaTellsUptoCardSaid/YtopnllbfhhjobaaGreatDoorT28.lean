/- Texts one behind the other: Chapter 10, the document's: the walk of Set. -/
import Derived.Test.YtopnllbfhhjobaaGreatDoorT27
import Derived.Test.YtopnllbfhhjobaaGreatDoorT10
namespace Go.Proofs.YtopnllbfhhjobaaGreatDoor
open Go.RowKit Go.Dm
set_option maxHeartbeats 16000000 in
set_option maxRecDepth 100000 in
theorem dset_w (R : List EntQ) (va : Value) (p : ByteArray) (lim : Vc) (hl : OkV lim) (w : World) (hm : R.length ≤ 1099511627776) (hR : FitT R) (hx : Tree w va R) (hp : p.size ≤ 1048576) :
    Calls Tryz.prog 7 #[va, .string p, vVal lim] w fun e w' => ∃ v', e = .returned (.tuple #[v', .int .i64 ((setT R p lim).2 : Nat)]) ∧ Tree w' v' (setT R p lim).1 ∧ Ext w w' := by
  obtain ⟨q, cap, rfl, _, _⟩ := hx.shape
  have hW : Ext w (w.alloc (.cells #[.int .u64 (vG lim 0 : Nat), .int .u64 (vG lim 1 : Nat), .int .u64 (vG lim 2 : Nat), .int .u64 (vG lim 3 : Nat)] 34)) := (Ext.refl _).alloc _
  have hV : VBox w.heap.size (vG lim) (w.alloc (.cells #[.int .u64 (vG lim 0 : Nat), .int .u64 (vG lim 1 : Nat), .int .u64 (vG lim 2 : Nat), .int .u64 (vG lim 3 : Nat)] 34)) := VBox.new w (vG lim) 34
  generalize hW0 : w.alloc (.cells #[.int .u64 (vG lim 0 : Nat), .int .u64 (vG lim 1 : Nat), .int .u64 (vG lim 2 : Nat), .int .u64 (vG lim 3 : Nat)] 34) = W at *
  have C1 := fun U (h : Ext W U) => dfind_w R p _ U hm (hx.ext (hW.trans h))
  have C2 := fun U => dnamed_w p U hp
  have C3 := fun (h2 : 2 ≤ (abvB p).length) U => dparent_w p U hp h2
  have C4 := fun U (h : Ext W U) => dfind_w R (parB p) _ U hm (hx.ext (hW.trans h))
  have hnu : namB p = true → HasUp p := namB_up
  have hE1 : namB p = false → setT R p lim = (R, 6) := fun h => by unfold setT; rw [if_pos h]
  have hE2 : namB p = true → p ≠ ⟨#[]⟩ → plI R (parB p) < 0 → setT R p lim = (R, 7) := fun h h1 h2 => by
    unfold setT
    rw [if_neg (show ¬ namB p = false by rw [h]; simp), if_pos ⟨h1, by have := plN_le R (parB p); unfold plI at h2; split at h2 <;> omega⟩]
  have hgo : (p = ⟨#[]⟩ ∨ 0 ≤ plI R (parB p)) → ¬ (p ≠ ⟨#[]⟩ ∧ plN R (parB p) = R.length) := fun h h2 => by
    rcases h with h | h
    · exact h2.1 h
    · have e : plI R (parB p) = -1 := by unfold plI; rw [if_neg (by omega)]
      omega
  have hE3 : namB p = true → (p = ⟨#[]⟩ ∨ 0 ≤ plI R (parB p)) → plN R p = R.length → 16 ≤ R.length → setT R p lim = (R, 9) := fun h h1 h2 h3 => by
    unfold setT
    rw [if_neg (show ¬ namB p = false by rw [h]; simp), if_neg (hgo h1), if_pos ⟨h2, h3⟩]
  have hE4 : namB p = true → (p = ⟨#[]⟩ ∨ 0 ≤ plI R (parB p)) → plN R p < R.length → vfits (eAt R (plN R p)).2.2 lim = false → setT R p lim = (R, 10) := fun h h1 h2 h3 => by
    unfold setT
    rw [if_neg (show ¬ namB p = false by rw [h]; simp), if_neg (hgo h1), if_neg (by omega), if_pos ⟨h2, h3⟩]
  have hE5 : namB p = true → (p = ⟨#[]⟩ ∨ 0 ≤ plI R (parB p)) → plN R p < R.length → vfits (eAt R (plN R p)).2.2 lim = true → setT R p lim = (R.set (plN R p) ((eAt R (plN R p)).1, lim, (eAt R (plN R p)).2.2), 0) := fun h h1 h2 h3 => by
    unfold setT
    rw [if_neg (show ¬ namB p = false by rw [h]; simp), if_neg (hgo h1), if_neg (by omega), if_neg (fun e => by rw [h3] at e; exact absurd e.2 (by simp)), if_pos h2]
  have hE6 : namB p = true → (p = ⟨#[]⟩ ∨ 0 ≤ plI R (parB p)) → plN R p = R.length → ¬ 16 ≤ R.length → setT R p lim = (R.take (upN R p) ++ (p, lim, noV) :: R.drop (upN R p), 0) := fun h h1 h2 h3 => by
    unfold setT
    rw [if_neg (show ¬ namB p = false by rw [h]; simp), if_neg (hgo h1), if_neg (fun e => h3 e.2), if_neg (by omega), if_neg (by omega)]
  clear hgo
  have hhit : ∀ k, k < R.length → (∀ j, j < k → Op.bytesLess (eAt R j).1.toList p.toList = true) → Op.bytesLess (eAt R k).1.toList p.toList = false → upN R p = k := fun k hk h1 h2 => by
    simp only [ByteArray.toList_eq] at h1 h2
    exact upN_hit hk h1 h2
  have hmiss : (∀ j, j < R.length → Op.bytesLess (eAt R j).1.toList p.toList = true) → upN R p = R.length := fun h1 => by
    simp only [ByteArray.toList_eq] at h1
    exact upN_miss h1
  generalize setT R p lim = E at *
  generalize namB p = nm at *
  generalize parB p = pp at *
  have hpl : plI R p = if plN R p < R.length then (plN R p : Int) else -1 := rfl
  have hple := plN_le R p
  generalize plI R p = pi at *
  generalize plI R pp = ppi at *
  generalize plN R p = k at *
  generalize upN R p = un at *
  unfold vVal vF at *
  replace C1 := Lib.hid C1
  replace C2 := Lib.hid C2
  replace C3 := Lib.hid C3
  replace C4 := Lib.hid C4
  replace hE1 := Lib.hid hE1
  replace hE2 := Lib.hid hE2
  replace hE3 := Lib.hid hE3
  replace hE4 := Lib.hid hE4
  replace hE5 := Lib.hid hE5
  replace hE6 := Lib.hid hE6
  replace hpl := Lib.hid hpl
  replace hhit := Lib.hid hhit
  replace hmiss := Lib.hid hmiss
  replace hnu := Lib.hid hnu
  go_enter Tryz.func7, Tryz.ntmps7
  go_wp2_with fail
  refine (C1.out W (Ext.refl _)).mono ?_; rintro e w1 ⟨rfl, h1⟩
  go_wp2_with fail
  refine (C2.out w1).mono ?_; rintro e w2 ⟨rfl, h2⟩
  replace h2 := h1.trans h2
  clear h1
  cases nm with
  | false =>
    have hE := Lib.hid (hE1.out (by trivial))
    go_wp2
    go_ret2
    exact ⟨_, by rw [hE.out]; rfl, by rw [hE.out]; exact hx.ext (hW.trans h2), hW.trans h2⟩
  | true =>
    by_cases hpe : p = ⟨#[]⟩
    · have hz2 : p.toList = [] := by rw [hpe, ByteArray.toList_eq]
      have hpe2 := Lib.hid hpe
      clear hpe
      have hor : Hid (p = ⟨#[]⟩ ∨ 0 ≤ ppi) := Or.inl hpe2.out
      by_cases hk : k < R.length
      · have hpi := hpl.out
        rw [if_pos hk] at hpi
        subst hpi
        obtain ⟨tb, tof, hqe, htbl, hcs⟩ := hx.at hk
        subst hqe
        have C7 := fun U => r03fits_w (eAt R k).2.2 lim U
        obtain ⟨⟨s1, l1, u1⟩, hr⟩ : ∃ r, eAt R k = r := ⟨_, rfl⟩
        rw [hr] at hcs C7 hE4 hE5
        have hrr := Lib.hid hr
        clear hr hE3 hE6 hE1 hE2
        simp only at C7 hE4 hE5
        unfold vVal vF at C7
        have hcs2 : ∀ U, Ext w U → ∀ j', j' < 9 → U.cell? ⟨tb, tof + k * 9 + j', none⟩ = (entOne (s1, l1, u1))[j']? := fun U hU j' hj' => by rw [hU.cell (by exact htbl)]; exact hcs j' hj'
        clear hcs
        replace hcs2 := Lib.hid hcs2
        have htl := Nat.lt_of_lt_of_le htbl (hW.trans h2).size
        have hcs := hcs2.out _ (hW.trans h2)
        obtain ⟨al, a0, a1, a2, a3, _, _, _, _⟩ := (hV.ext h2).four
        have c0 := hcs 0 (by omega)
        have c1 := hcs 1 (by omega)
        have c2 := hcs 2 (by omega)
        have c3 := hcs 3 (by omega)
        have c4 := hcs 4 (by omega)
        have c5 := hcs 5 (by omega)
        have c6 := hcs 6 (by omega)
        have c7 := hcs 7 (by omega)
        have c8 := hcs 8 (by omega)
        simp only [entOne, uAt, List.getElem?_cons_zero, List.getElem?_cons_succ, Nat.add_zero] at c0 c1 c2 c3 c4 c5 c6 c7 c8
        clear hcs
        cases hd : vfits u1 lim with
        | false =>
          have hE := Lib.hid (hE4.out (by trivial) hor.out hk hd)
          rw [hd] at C7
          replace C7 := Lib.hid C7
          clear hd hE4 hE5
          go_wp2_with fail
          refine Dm.wp_region_grow (by kernel_rfl) (by kernel_rfl) ?_
          repeat (go_big_quiet_step (first | (go_at_call 37; with_reducible exact Calls.quietE (C7.out _))))
          refine wpQuiet_nil ?_
          intro w9 h9
          replace h9 := h2.trans h9
          clear al a0 a1 a2 a3 c0 c1 c2 c3 c4 c5 c6 c7 c8 C7
          go_wp2
          go_ret2
          exact ⟨_, by rw [hE.out]; rfl, by rw [hE.out]; exact hx.ext (hW.trans h9), hW.trans h9⟩
        | true =>
          have hE := Lib.hid (hE5.out (by trivial) hor.out hk hd)
          rw [hd] at C7
          replace C7 := Lib.hid C7
          clear hd hE4 hE5
          go_wp2_with fail
          refine Dm.wp_region_grow (by kernel_rfl) (by kernel_rfl) ?_
          repeat (go_big_quiet_step (first | (go_at_call 37; with_reducible exact Calls.quietE (C7.out _))))
          refine wpQuiet_nil ?_
          intro w9 h9
          replace h9 := h2.trans h9
          clear al a0 a1 a2 a3 c0 c1 c2 c3 c4 c5 c6 c7 c8 C7
          have hx9 := hx.ext (hW.trans h9)
          go_wp2_with (at_builtin; go_must (refine wpList_appE (n := 0) (m := R.length) rfl _ _ Tryz.slEntR rfl (Ext.refl _) rfl (World.ownsRow_nil _ _ _ _) rfl hx9 (entCellsQ_one R) (by omega) ?_; intro vo w10 ho h10 _; refine Hid.out ?_))
          rw [Nat.zero_add, List.nil_append] at ho
          obtain ⟨ao, co, rfl⟩ : ∃ a c, vo = .slice a R.length c := by
            obtain ⟨a, c, e, _⟩ := (Sl.of_owns ho).shape
            exact ⟨a, c, e⟩
          have h10' := h9.trans h10
          obtain ⟨al, a0, a1, a2, a3, _, _, _, _⟩ := (hV.ext h10').four
          obtain ⟨hxl, hrow⟩ := ho
          rcases hrow with ⟨h0, h00⟩ | ⟨g, cap', cur, hg0, hBg, hg, hnc, hcm, hcsz, htk⟩
          · exact absurd h00 (by omega)
          · simp only [Value.slice.injEq, true_and] at hg0
            obtain ⟨rfl, rfl⟩ := hg0
            have HCL : Hid (cur.toList.length = co * 9) := by show _ = _; rw [Array.length_toList, hcsz]
            have hg6 : w10.heap[g]? = some (.cells cur.toList.toArray 42 (0, 0)) := by rw [Array.toArray_toList]; exact hg
            have hfit : k * 9 + 1 + ([uAt lim 0, uAt lim 1, uAt lim 2, uAt lim 3] : List Value).length ≤ cur.toList.length := by rw [HCL.out]; show k * 9 + 1 + 4 ≤ _; omega
            have hone : ∀ u ∈ ([uAt lim 0, uAt lim 1, uAt lim 2, uAt lim 3] : List Value), u.oneCell' = true := fun u hu => by
              simp only [List.mem_cons, List.not_mem_nil, or_false] at hu
              rcases hu with rfl | rfl | rfl | rfl <;> rfl
            replace htk := Lib.hid htk
            replace hxl := Lib.hid hxl
            replace hcsz := Lib.hid hcsz
            replace hfit := Lib.hid hfit
            refine Lib.hid ?_
            go_wp2_with (refine wpList_store_at rfl _ _ _ rfl (g := g) (off := k * 9 + 1) (cells := [uAt lim 0, uAt lim 1, uAt lim 2, uAt lim 3]) rfl rfl rfl (by kernel_rfl) hg6 hfit.out hone ?_; intro w7 hg7 hgr7)
            go_ret2
            have hfin := Ext.putQ (hW.trans h10') hgr7 (by have := (hW.trans h9).size; omega)
            refine ⟨_, by rw [hE.out]; rfl, ?_, hfin⟩
            rw [hE.out]
            refine Tree.of_row (B := w9.heap.size) (e := 42) (n := R.length) ⟨by rw [entCellsQ_len, List.length_set], Or.inr ⟨g, co, _, rfl, hBg, hg7, hnc, hcm, ?_, ?_⟩⟩ (by rw [List.length_set])
            · rw [List.size_toArray, length_splice _ _ _ hfit.out]; exact HCL.out
            · show (splice cur.toList (k * 9 + 1) [uAt lim 0, uAt lim 1, uAt lim 2, uAt lim 3]).take (R.length * 9) = _
              rw [take_splice _ _ (by show k * 9 + 1 + 4 ≤ _; omega) (by rw [HCL.out]; omega), htk.out, entCellsQ_lim hk]
              rw [hrr.out]
      · have hk2 : k = R.length := by omega
        have hpi := hpl.out
        rw [if_neg hk] at hpi
        subst hpi
        clear hE1 hE2 hE4 hE5
        obtain ⟨al, a0, a1, a2, a3, _, _, _, _⟩ := (hV.ext h2).four
        by_cases h16 : 16 ≤ R.length
        · have hE := Lib.hid (hE3.out (by trivial) hor.out hk2 h16)
          clear hE3 hE6
          go_wp2
          go_ret2
          exact ⟨_, by rw [hE.out]; rfl, by rw [hE.out]; exact hx.ext (hW.trans h2), hW.trans h2⟩
        · have hE := Lib.hid (hE6.out (by trivial) hor.out hk2 h16)
          clear hE3 hE6
          go_wp2_with fail
          refine Dm.wp_region_grow (by kernel_rfl) (by kernel_rfl) ?_
          repeat (go_big_quiet_step (fail))
          refine wpQuiet_nil ?_
          intro w9 h9
          replace h9 := h2.trans h9
          clear al a0 a1 a2 a3
          have hx9 := hx.ext (hW.trans h9)
          go_wp2_with (at_builtin; go_must (refine wpList_appE (n := 0) (m := R.length) rfl _ _ Tryz.slEntR rfl (Ext.refl _) rfl (World.ownsRow_nil _ _ _ _) rfl hx9 (entCellsQ_one R) (by omega) ?_; intro vo w10 ho h10 _; refine Hid.out ?_))
          clear ho
          have h10' := h9.trans h10
          refine Lib.hid ?_
          go_wp2
          go_loopw [10] (fun i wr => ∃ m : Nat, m ≤ R.length ∧ i = .int .i64 m ∧ Ext W wr ∧ Hid (∀ j, j < m → Op.bytesLess (eAt R j).1.toList p.toList = true)) (fun i _ => R.length - (intOf i).toNat)
          case atStart => exact ⟨0, by omega, rfl, h10', fun j hj => by omega⟩
          case round =>
            obtain ⟨m, hmk, rfl, hb, HN⟩ := hrel
            by_cases hlt : m < R.length
            · obtain ⟨b, off, hbe, hbl, hcs⟩ := (hx.ext (hW.trans hb)).at hlt
              subst hbe
              have c0 := hcs 0 (by omega)
              simp only [entOne, List.getElem?_cons_zero, Nat.add_zero] at c0
              clear hcs
              have hY : Hid (Op.bytesLess (eAt R m).1.toList p.toList = false → un = m) := fun h => hhit.out m hlt HN.out h
              have hN2 : Hid (Op.bytesLess (eAt R m).1.toList p.toList = true → ∀ j, j < m + 1 → Op.bytesLess (eAt R j).1.toList p.toList = true) := fun h j hj => by
                rcases Nat.lt_succ_iff_lt_or_eq.1 hj with h' | rfl
                · exact HN.out j h'
                · exact h
              generalize (eAt R m).1 = s at c0 hY hN2
              cases hle : Op.bytesLess s.toList p.toList with
              | true =>
                first
                  | (rw [hz2, less_nil] at hle; cases hle; done)
                  | skip
                all_goals replace hN2 := Lib.hid (hN2.out hle)
                all_goals go_wp2
                all_goals go_roundw
                all_goals first | exact ⟨m + 1, by omega, by go_num, hb, hN2⟩ | (simp [intOf]; omega)
              | false =>
                have hun := hY.out hle
                clear hY hN2 HN
                try rw [hz2] at hle
                have hum := hun.symm
                clear hun
                subst hum
                have hT1 := (hx.ext (hW.trans hb)).take (k := m) (by omega)
                have hT2 := (hx.ext (hW.trans hb)).drop (k := m) (by omega)
                obtain ⟨zl, z0, z1, z2, z3, _, _, _, _⟩ := (hV.ext hb).four
                have hm' : m ≤ R.length := by omega
                have hs2 := fun w => run_slice_low (P := Tryz.prog) 27 42 9 Tryz.slEntR.ht Tryz.slEntR.hs (some ⟨b, off, none⟩) R.length cap m (by omega) w
                have hone : ∀ u ∈ (#[.string p, .int .u64 (vG lim 0 : Nat), .int .u64 (vG lim 1 : Nat), .int .u64 (vG lim 2 : Nat), .int .u64 (vG lim 3 : Nat), .int .u64 0, .int .u64 0, .int .u64 0, .int .u64 0] : Array Value).toList, u.oneCell' = true := by rw [lit_free]; exact entOne_one _
                replace hone := Lib.hid hone
                have hfin : Hid (∀ (w' : World) (r' : Value), w'.ownsRow wr.heap.size 42 9 r' (0 + m + 1 + (R.length - m)) (([] ++ (entCellsQ R).take (m * 9) ++ (#[.string p, .int .u64 (vG lim 0 : Nat), .int .u64 (vG lim 1 : Nat), .int .u64 (vG lim 2 : Nat), .int .u64 (vG lim 3 : Nat), .int .u64 0, .int .u64 0, .int .u64 0, .int .u64 0] : Array Value).toList) ++ (entCellsQ R).drop (m * 9)) → Tree w' r' (R.take m ++ (p, lim, noV) :: R.drop m)) := fun w' r' h => by
                  rw [List.nil_append, entCellsQ_take R m hm', entCellsQ_drop R m hm', lit_free, List.append_assoc] at h
                  refine Tree.of_row (B := wr.heap.size) (e := 42) (n := 0 + m + 1 + (R.length - m)) ?_ (by simp; omega)
                  rw [entCellsQ_app]
                  exact h
                go_wp2_with fail
                try simp only [Act.put, List.setIfInBounds_toArray, List.set_cons_succ, List.set_cons_zero]
                refine Dm.wp_region_ext 15 (Dm.bits 15 0) (Ext.refl wr) (by kernel_rfl) (by kernel_rfl) (by kernel_rfl) ?_
                refine Dm.wpE_take (i := 0) (listed' := (Dm.bits 15 1)) (by kernel_rfl) (by kernel_rfl) rfl (fun _ _ _ _ h => h) ?_; apply Exists.intro; refine And.intro (fun x => ?_) ?_
                · go_big_quiet_step (fail); exact wpQuiet_nil rfl
                refine Dm.wpE_take (i := 1) (listed' := (Dm.bits 15 3)) (by kernel_rfl) (by kernel_rfl) rfl (fun _ _ _ _ h => h) ?_; apply Exists.intro; refine And.intro (fun x => ?_) ?_
                · go_big_quiet_step (fail); exact wpQuiet_nil rfl
                refine Dm.wpE_take (i := 2) (listed' := (Dm.bits 15 7)) (by kernel_rfl) (by kernel_rfl) rfl (fun _ _ _ _ h => h) ?_; apply Exists.intro; refine And.intro (fun x => ?_) ?_
                · go_big_quiet_step (fail); exact wpQuiet_nil rfl
                refine Dm.wpE_take (i := 4) (listed' := (Dm.bits 15 23)) (by kernel_rfl) (by kernel_rfl) rfl (fun _ _ _ _ h => h) ?_; apply Exists.intro; refine And.intro (fun x => ?_) ?_
                · go_big_quiet_step (fail); exact wpQuiet_nil rfl
                refine Dm.wpE_take (i := 5) (listed' := (Dm.bits 15 55)) (by kernel_rfl) (by kernel_rfl) rfl (fun _ _ _ _ h => h) ?_; apply Exists.intro; refine And.intro (fun x => ?_) ?_
                · go_big_quiet_step (fail); exact wpQuiet_nil rfl
                refine Dm.wpE_take (i := 6) (listed' := (Dm.bits 15 119)) (by kernel_rfl) (by kernel_rfl) rfl (fun _ _ _ _ h => h) ?_; apply Exists.intro; refine And.intro (fun x => ?_) ?_
                · go_big_quiet_step (fail); exact wpQuiet_nil rfl
                refine Dm.wpE_take (i := 9) (listed' := (Dm.bits 15 631)) (by kernel_rfl) (by kernel_rfl) rfl (fun _ _ _ _ h => h) ?_; apply Exists.intro; refine And.intro (fun x => ?_) ?_
                · go_big_quiet_step (fail); exact wpQuiet_nil rfl
                refine Dm.wpE_take (i := 10) (listed' := (Dm.bits 15 1655)) (by kernel_rfl) (by kernel_rfl) rfl (fun _ _ _ _ h => h) ?_; apply Exists.intro; refine And.intro (fun x => ?_) ?_
                · go_big_quiet_step (fail); exact wpQuiet_nil rfl
                refine Dm.wpE_take (i := 11) (listed' := (Dm.bits 15 3703)) (by kernel_rfl) (by kernel_rfl) rfl (fun _ _ _ _ h => h) ?_; apply Exists.intro; refine And.intro (fun x => ?_) ?_
                · go_big_quiet_step (fail); exact wpQuiet_nil rfl
                refine Dm.wpE_two (i := 3) (j := 7) (li := (Dm.bits 15 3711)) (lj := (Dm.bits 15 3831)) (by kernel_rfl) (by kernel_rfl) (by kernel_rfl) rfl rfl (Ext.refl wr) (fun w1a hx1a => ?_) (fun w1a hx1a => ?_)
                ·
                  have hX1a := Ext.trans (Ext.refl wr) hx1a
                  refine wpList_appE (n := 0) (m := m) rfl _ _ Tryz.slEntR rfl hX1a rfl (World.ownsRow_nil _ _ _ _) rfl (Sl.ext hT1 hX1a) (fun u hu => entCellsQ_one R u (List.mem_of_mem_take hu)) (by omega) ?_
                  intro v5 w1b ho5 hbn5 hg5
                  have hs1 := hg5 rfl
                  have hX1b := Ext.trans hX1a hs1
                  clear hg5 hbn5
                  refine wpList_nil ?_
                  try simp only [Exit.then, Act.put, List.setIfInBounds_toArray, List.set_cons_succ, List.set_cons_zero]
                  refine Dm.wpE_one (i := 7) (listed' := (Dm.bits 15 3839)) (by kernel_rfl) (by kernel_rfl) rfl hX1b (fun w2a hx2a => ?_)
                  have hX2a := Ext.trans hX1b hx2a
                  replace ho5 := Ext.row ho5 hx2a
                  go_wp2_with fail
                  have hl := Sl.lit w2a 42 9 1 #[.string p, .int .u64 (vG lim 0 : Nat), .int .u64 (vG lim 1 : Nat), .int .u64 (vG lim 2 : Nat), .int .u64 (vG lim 3 : Nat), .int .u64 0, .int .u64 0, .int .u64 0, .int .u64 0] rfl (by simp [maxLen])
                  have hs2 := (Ext.refl w2a).alloc (.cells #[.string p, .int .u64 (vG lim 0 : Nat), .int .u64 (vG lim 1 : Nat), .int .u64 (vG lim 2 : Nat), .int .u64 (vG lim 3 : Nat), .int .u64 0, .int .u64 0, .int .u64 0, .int .u64 0] 42)
                  generalize w2a.alloc (.cells #[.string p, .int .u64 (vG lim 0 : Nat), .int .u64 (vG lim 1 : Nat), .int .u64 (vG lim 2 : Nat), .int .u64 (vG lim 3 : Nat), .int .u64 0, .int .u64 0, .int .u64 0, .int .u64 0] 42) = w2b at *
                  have hX2b := Ext.trans hX2a hs2
                  replace ho5 := Ext.row ho5 hs2
                  try simp only [Exit.then, Act.put, List.setIfInBounds_toArray, List.set_cons_succ, List.set_cons_zero]
                  refine Dm.wpE_one (i := 8) (listed' := (Dm.bits 15 4095)) (by kernel_rfl) (by kernel_rfl) rfl hX2b (fun w3a hx3a => ?_)
                  have hX3a := Ext.trans hX2b hx3a
                  replace ho5 := Ext.row ho5 hx3a
                  replace hl := hl.ext hx3a
                  refine wpList_appE (n := 0 + m) (m := 1) rfl _ _ Tryz.slEntR rfl hX3a rfl ho5 rfl hl hone.out (by omega) ?_
                  intro v6 w3b ho6 hX3b _
                  refine wpList_nil ?_
                  try simp only [Exit.then, Act.put, List.setIfInBounds_toArray, List.set_cons_succ, List.set_cons_zero]
                  refine Dm.wpE_one (i := 12) (listed' := (Dm.bits 15 8191)) (by kernel_rfl) (by kernel_rfl) rfl hX3b (fun w4a hx4a => ?_)
                  have hX4a := Ext.trans hX3b hx4a
                  replace ho6 := Ext.row ho6 hx4a
                  refine wpList_appE (n := 0 + m + 1) (m := R.length - m) rfl _ _ Tryz.slEntR rfl hX4a rfl ho6 rfl (Sl.ext hT2 hX4a) (fun u hu => entCellsQ_one R u (List.mem_of_mem_drop hu)) (by omega) ?_
                  intro v7 w4b ho7 hX4b _
                  refine wpList_nil ?_
                  try simp only [Exit.then, Act.put, List.setIfInBounds_toArray, List.set_cons_succ, List.set_cons_zero]
                  refine Dm.wpE_take (i := 13) (listed' := (Dm.bits 15 16383)) (by kernel_rfl) (by kernel_rfl) rfl (fun _ _ _ _ h => h) ?_; apply Exists.intro; refine And.intro (fun x => ?_) ?_
                  · go_big_quiet_step (fail); exact wpQuiet_nil rfl
                  refine Dm.wpE_take (i := 14) (listed' := (Dm.bits 15 32767)) (by kernel_rfl) (by kernel_rfl) rfl (fun _ _ _ _ h => h) ?_; apply Exists.intro; refine And.intro (fun x => ?_) ?_
                  · go_big_quiet_step (fail); exact wpQuiet_nil rfl
                  refine Dm.wpE_done (by kernel_rfl) hX4b (fun w5a hx5a => ?_)
                  have hX5a := Ext.trans hX4b hx5a
                  replace ho7 := Ext.row ho7 hx5a
                  go_wp2
                  go_ret2
                  exact ⟨_, by rw [hE.out]; rfl, by rw [hE.out]; exact hfin.out _ _ ho7, (hW.trans hb).trans hX5a⟩
                ·
                  have hX1a := Ext.trans (Ext.refl wr) hx1a
                  go_wp2_with fail
                  have hl := Sl.lit w1a 42 9 1 #[.string p, .int .u64 (vG lim 0 : Nat), .int .u64 (vG lim 1 : Nat), .int .u64 (vG lim 2 : Nat), .int .u64 (vG lim 3 : Nat), .int .u64 0, .int .u64 0, .int .u64 0, .int .u64 0] rfl (by simp [maxLen])
                  have hs1 := (Ext.refl w1a).alloc (.cells #[.string p, .int .u64 (vG lim 0 : Nat), .int .u64 (vG lim 1 : Nat), .int .u64 (vG lim 2 : Nat), .int .u64 (vG lim 3 : Nat), .int .u64 0, .int .u64 0, .int .u64 0, .int .u64 0] 42)
                  generalize w1a.alloc (.cells #[.string p, .int .u64 (vG lim 0 : Nat), .int .u64 (vG lim 1 : Nat), .int .u64 (vG lim 2 : Nat), .int .u64 (vG lim 3 : Nat), .int .u64 0, .int .u64 0, .int .u64 0, .int .u64 0] 42) = w1b at *
                  have hX1b := Ext.trans hX1a hs1
                  try simp only [Exit.then, Act.put, List.setIfInBounds_toArray, List.set_cons_succ, List.set_cons_zero]
                  refine Dm.wpE_one (i := 3) (listed' := (Dm.bits 15 3839)) (by kernel_rfl) (by kernel_rfl) rfl hX1b (fun w6a hx6a => ?_)
                  have hX6a := Ext.trans hX1b hx6a
                  replace hl := hl.ext hx6a
                  refine wpList_appE (n := 0) (m := m) rfl _ _ Tryz.slEntR rfl hX6a rfl (World.ownsRow_nil _ _ _ _) rfl (Sl.ext hT1 hX6a) (fun u hu => entCellsQ_one R u (List.mem_of_mem_take hu)) (by omega) ?_
                  intro v5 w6b ho5 hbn5 hg5
                  have hs6 := hg5 rfl
                  have hX6b := Ext.trans hX6a hs6
                  clear hg5 hbn5
                  refine wpList_nil ?_
                  replace hl := hl.ext hs6
                  try simp only [Exit.then, Act.put, List.setIfInBounds_toArray, List.set_cons_succ, List.set_cons_zero]
                  refine Dm.wpE_one (i := 8) (listed' := (Dm.bits 15 4095)) (by kernel_rfl) (by kernel_rfl) rfl hX6b (fun w7a hx7a => ?_)
                  have hX7a := Ext.trans hX6b hx7a
                  replace hl := hl.ext hx7a
                  replace ho5 := Ext.row ho5 hx7a
                  refine wpList_appE (n := 0 + m) (m := 1) rfl _ _ Tryz.slEntR rfl hX7a rfl ho5 rfl hl hone.out (by omega) ?_
                  intro v6 w7b ho6 hX7b _
                  refine wpList_nil ?_
                  try simp only [Exit.then, Act.put, List.setIfInBounds_toArray, List.set_cons_succ, List.set_cons_zero]
                  refine Dm.wpE_one (i := 12) (listed' := (Dm.bits 15 8191)) (by kernel_rfl) (by kernel_rfl) rfl hX7b (fun w8a hx8a => ?_)
                  have hX8a := Ext.trans hX7b hx8a
                  replace ho6 := Ext.row ho6 hx8a
                  refine wpList_appE (n := 0 + m + 1) (m := R.length - m) rfl _ _ Tryz.slEntR rfl hX8a rfl ho6 rfl (Sl.ext hT2 hX8a) (fun u hu => entCellsQ_one R u (List.mem_of_mem_drop hu)) (by omega) ?_
                  intro v7 w8b ho7 hX8b _
                  refine wpList_nil ?_
                  try simp only [Exit.then, Act.put, List.setIfInBounds_toArray, List.set_cons_succ, List.set_cons_zero]
                  refine Dm.wpE_take (i := 13) (listed' := (Dm.bits 15 16383)) (by kernel_rfl) (by kernel_rfl) rfl (fun _ _ _ _ h => h) ?_; apply Exists.intro; refine And.intro (fun x => ?_) ?_
                  · go_big_quiet_step (fail); exact wpQuiet_nil rfl
                  refine Dm.wpE_take (i := 14) (listed' := (Dm.bits 15 32767)) (by kernel_rfl) (by kernel_rfl) rfl (fun _ _ _ _ h => h) ?_; apply Exists.intro; refine And.intro (fun x => ?_) ?_
                  · go_big_quiet_step (fail); exact wpQuiet_nil rfl
                  refine Dm.wpE_done (by kernel_rfl) hX8b (fun w9a hx9a => ?_)
                  have hX9a := Ext.trans hX8b hx9a
                  replace ho7 := Ext.row ho7 hx9a
                  go_wp2
                  go_ret2
                  exact ⟨_, by rw [hE.out]; rfl, by rw [hE.out]; exact hfin.out _ _ ho7, (hW.trans hb).trans hX9a⟩
            · have hun : un = m := by
                obtain rfl : m = R.length := by omega
                exact hmiss.out (fun j hj => HN.out j hj)
              clear HN
              have hum := hun.symm
              clear hun
              subst hum
              have hT1 := (hx.ext (hW.trans hb)).take (k := m) (by omega)
              have hT2 := (hx.ext (hW.trans hb)).drop (k := m) (by omega)
              obtain ⟨zl, z0, z1, z2, z3, _, _, _, _⟩ := (hV.ext hb).four
              have hm' : m ≤ R.length := by omega
              have hs2 := fun w => run_slice_low (P := Tryz.prog) 27 42 9 Tryz.slEntR.ht Tryz.slEntR.hs q R.length cap m (by omega) w
              have hone : ∀ u ∈ (#[.string p, .int .u64 (vG lim 0 : Nat), .int .u64 (vG lim 1 : Nat), .int .u64 (vG lim 2 : Nat), .int .u64 (vG lim 3 : Nat), .int .u64 0, .int .u64 0, .int .u64 0, .int .u64 0] : Array Value).toList, u.oneCell' = true := by rw [lit_free]; exact entOne_one _
              replace hone := Lib.hid hone
              have hfin : Hid (∀ (w' : World) (r' : Value), w'.ownsRow wr.heap.size 42 9 r' (0 + m + 1 + (R.length - m)) (([] ++ (entCellsQ R).take (m * 9) ++ (#[.string p, .int .u64 (vG lim 0 : Nat), .int .u64 (vG lim 1 : Nat), .int .u64 (vG lim 2 : Nat), .int .u64 (vG lim 3 : Nat), .int .u64 0, .int .u64 0, .int .u64 0, .int .u64 0] : Array Value).toList) ++ (entCellsQ R).drop (m * 9)) → Tree w' r' (R.take m ++ (p, lim, noV) :: R.drop m)) := fun w' r' h => by
                rw [List.nil_append, entCellsQ_take R m hm', entCellsQ_drop R m hm', lit_free, List.append_assoc] at h
                refine Tree.of_row (B := wr.heap.size) (e := 42) (n := 0 + m + 1 + (R.length - m)) ?_ (by simp; omega)
                rw [entCellsQ_app]
                exact h
              go_wp2_with fail
              try simp only [Act.put, List.setIfInBounds_toArray, List.set_cons_succ, List.set_cons_zero]
              refine Dm.wp_region_ext 15 (Dm.bits 15 0) (Ext.refl wr) (by kernel_rfl) (by kernel_rfl) (by kernel_rfl) ?_
              refine Dm.wpE_take (i := 0) (listed' := (Dm.bits 15 1)) (by kernel_rfl) (by kernel_rfl) rfl (fun _ _ _ _ h => h) ?_; apply Exists.intro; refine And.intro (fun x => ?_) ?_
              · go_big_quiet_step (fail); exact wpQuiet_nil rfl
              refine Dm.wpE_take (i := 1) (listed' := (Dm.bits 15 3)) (by kernel_rfl) (by kernel_rfl) rfl (fun _ _ _ _ h => h) ?_; apply Exists.intro; refine And.intro (fun x => ?_) ?_
              · go_big_quiet_step (fail); exact wpQuiet_nil rfl
              refine Dm.wpE_take (i := 2) (listed' := (Dm.bits 15 7)) (by kernel_rfl) (by kernel_rfl) rfl (fun _ _ _ _ h => h) ?_; apply Exists.intro; refine And.intro (fun x => ?_) ?_
              · go_big_quiet_step (fail); exact wpQuiet_nil rfl
              refine Dm.wpE_take (i := 4) (listed' := (Dm.bits 15 23)) (by kernel_rfl) (by kernel_rfl) rfl (fun _ _ _ _ h => h) ?_; apply Exists.intro; refine And.intro (fun x => ?_) ?_
              · go_big_quiet_step (fail); exact wpQuiet_nil rfl
              refine Dm.wpE_take (i := 5) (listed' := (Dm.bits 15 55)) (by kernel_rfl) (by kernel_rfl) rfl (fun _ _ _ _ h => h) ?_; apply Exists.intro; refine And.intro (fun x => ?_) ?_
              · go_big_quiet_step (fail); exact wpQuiet_nil rfl
              refine Dm.wpE_take (i := 6) (listed' := (Dm.bits 15 119)) (by kernel_rfl) (by kernel_rfl) rfl (fun _ _ _ _ h => h) ?_; apply Exists.intro; refine And.intro (fun x => ?_) ?_
              · go_big_quiet_step (fail); exact wpQuiet_nil rfl
              refine Dm.wpE_take (i := 9) (listed' := (Dm.bits 15 631)) (by kernel_rfl) (by kernel_rfl) rfl (fun _ _ _ _ h => h) ?_; apply Exists.intro; refine And.intro (fun x => ?_) ?_
              · go_big_quiet_step (fail); exact wpQuiet_nil rfl
              refine Dm.wpE_take (i := 10) (listed' := (Dm.bits 15 1655)) (by kernel_rfl) (by kernel_rfl) rfl (fun _ _ _ _ h => h) ?_; apply Exists.intro; refine And.intro (fun x => ?_) ?_
              · go_big_quiet_step (fail); exact wpQuiet_nil rfl
              refine Dm.wpE_take (i := 11) (listed' := (Dm.bits 15 3703)) (by kernel_rfl) (by kernel_rfl) rfl (fun _ _ _ _ h => h) ?_; apply Exists.intro; refine And.intro (fun x => ?_) ?_
              · go_big_quiet_step (fail); exact wpQuiet_nil rfl
              refine Dm.wpE_two (i := 3) (j := 7) (li := (Dm.bits 15 3711)) (lj := (Dm.bits 15 3831)) (by kernel_rfl) (by kernel_rfl) (by kernel_rfl) rfl rfl (Ext.refl wr) (fun w1a hx1a => ?_) (fun w1a hx1a => ?_)
              ·
                have hX1a := Ext.trans (Ext.refl wr) hx1a
                refine wpList_appE (n := 0) (m := m) rfl _ _ Tryz.slEntR rfl hX1a rfl (World.ownsRow_nil _ _ _ _) rfl (Sl.ext hT1 hX1a) (fun u hu => entCellsQ_one R u (List.mem_of_mem_take hu)) (by omega) ?_
                intro v5 w1b ho5 hbn5 hg5
                have hs1 := hg5 rfl
                have hX1b := Ext.trans hX1a hs1
                clear hg5 hbn5
                refine wpList_nil ?_
                try simp only [Exit.then, Act.put, List.setIfInBounds_toArray, List.set_cons_succ, List.set_cons_zero]
                refine Dm.wpE_one (i := 7) (listed' := (Dm.bits 15 3839)) (by kernel_rfl) (by kernel_rfl) rfl hX1b (fun w2a hx2a => ?_)
                have hX2a := Ext.trans hX1b hx2a
                replace ho5 := Ext.row ho5 hx2a
                go_wp2_with fail
                have hl := Sl.lit w2a 42 9 1 #[.string p, .int .u64 (vG lim 0 : Nat), .int .u64 (vG lim 1 : Nat), .int .u64 (vG lim 2 : Nat), .int .u64 (vG lim 3 : Nat), .int .u64 0, .int .u64 0, .int .u64 0, .int .u64 0] rfl (by simp [maxLen])
                have hs2 := (Ext.refl w2a).alloc (.cells #[.string p, .int .u64 (vG lim 0 : Nat), .int .u64 (vG lim 1 : Nat), .int .u64 (vG lim 2 : Nat), .int .u64 (vG lim 3 : Nat), .int .u64 0, .int .u64 0, .int .u64 0, .int .u64 0] 42)
                generalize w2a.alloc (.cells #[.string p, .int .u64 (vG lim 0 : Nat), .int .u64 (vG lim 1 : Nat), .int .u64 (vG lim 2 : Nat), .int .u64 (vG lim 3 : Nat), .int .u64 0, .int .u64 0, .int .u64 0, .int .u64 0] 42) = w2b at *
                have hX2b := Ext.trans hX2a hs2
                replace ho5 := Ext.row ho5 hs2
                try simp only [Exit.then, Act.put, List.setIfInBounds_toArray, List.set_cons_succ, List.set_cons_zero]
                refine Dm.wpE_one (i := 8) (listed' := (Dm.bits 15 4095)) (by kernel_rfl) (by kernel_rfl) rfl hX2b (fun w3a hx3a => ?_)
                have hX3a := Ext.trans hX2b hx3a
                replace ho5 := Ext.row ho5 hx3a
                replace hl := hl.ext hx3a
                refine wpList_appE (n := 0 + m) (m := 1) rfl _ _ Tryz.slEntR rfl hX3a rfl ho5 rfl hl hone.out (by omega) ?_
                intro v6 w3b ho6 hX3b _
                refine wpList_nil ?_
                try simp only [Exit.then, Act.put, List.setIfInBounds_toArray, List.set_cons_succ, List.set_cons_zero]
                refine Dm.wpE_one (i := 12) (listed' := (Dm.bits 15 8191)) (by kernel_rfl) (by kernel_rfl) rfl hX3b (fun w4a hx4a => ?_)
                have hX4a := Ext.trans hX3b hx4a
                replace ho6 := Ext.row ho6 hx4a
                refine wpList_appE (n := 0 + m + 1) (m := R.length - m) rfl _ _ Tryz.slEntR rfl hX4a rfl ho6 rfl (Sl.ext hT2 hX4a) (fun u hu => entCellsQ_one R u (List.mem_of_mem_drop hu)) (by omega) ?_
                intro v7 w4b ho7 hX4b _
                refine wpList_nil ?_
                try simp only [Exit.then, Act.put, List.setIfInBounds_toArray, List.set_cons_succ, List.set_cons_zero]
                refine Dm.wpE_take (i := 13) (listed' := (Dm.bits 15 16383)) (by kernel_rfl) (by kernel_rfl) rfl (fun _ _ _ _ h => h) ?_; apply Exists.intro; refine And.intro (fun x => ?_) ?_
                · go_big_quiet_step (fail); exact wpQuiet_nil rfl
                refine Dm.wpE_take (i := 14) (listed' := (Dm.bits 15 32767)) (by kernel_rfl) (by kernel_rfl) rfl (fun _ _ _ _ h => h) ?_; apply Exists.intro; refine And.intro (fun x => ?_) ?_
                · go_big_quiet_step (fail); exact wpQuiet_nil rfl
                refine Dm.wpE_done (by kernel_rfl) hX4b (fun w5a hx5a => ?_)
                have hX5a := Ext.trans hX4b hx5a
                replace ho7 := Ext.row ho7 hx5a
                go_wp2
                go_ret2
                exact ⟨_, by rw [hE.out]; rfl, by rw [hE.out]; exact hfin.out _ _ ho7, (hW.trans hb).trans hX5a⟩
              ·
                have hX1a := Ext.trans (Ext.refl wr) hx1a
                go_wp2_with fail
                have hl := Sl.lit w1a 42 9 1 #[.string p, .int .u64 (vG lim 0 : Nat), .int .u64 (vG lim 1 : Nat), .int .u64 (vG lim 2 : Nat), .int .u64 (vG lim 3 : Nat), .int .u64 0, .int .u64 0, .int .u64 0, .int .u64 0] rfl (by simp [maxLen])
                have hs1 := (Ext.refl w1a).alloc (.cells #[.string p, .int .u64 (vG lim 0 : Nat), .int .u64 (vG lim 1 : Nat), .int .u64 (vG lim 2 : Nat), .int .u64 (vG lim 3 : Nat), .int .u64 0, .int .u64 0, .int .u64 0, .int .u64 0] 42)
                generalize w1a.alloc (.cells #[.string p, .int .u64 (vG lim 0 : Nat), .int .u64 (vG lim 1 : Nat), .int .u64 (vG lim 2 : Nat), .int .u64 (vG lim 3 : Nat), .int .u64 0, .int .u64 0, .int .u64 0, .int .u64 0] 42) = w1b at *
                have hX1b := Ext.trans hX1a hs1
                try simp only [Exit.then, Act.put, List.setIfInBounds_toArray, List.set_cons_succ, List.set_cons_zero]
                refine Dm.wpE_one (i := 3) (listed' := (Dm.bits 15 3839)) (by kernel_rfl) (by kernel_rfl) rfl hX1b (fun w6a hx6a => ?_)
                have hX6a := Ext.trans hX1b hx6a
                replace hl := hl.ext hx6a
                refine wpList_appE (n := 0) (m := m) rfl _ _ Tryz.slEntR rfl hX6a rfl (World.ownsRow_nil _ _ _ _) rfl (Sl.ext hT1 hX6a) (fun u hu => entCellsQ_one R u (List.mem_of_mem_take hu)) (by omega) ?_
                intro v5 w6b ho5 hbn5 hg5
                have hs6 := hg5 rfl
                have hX6b := Ext.trans hX6a hs6
                clear hg5 hbn5
                refine wpList_nil ?_
                replace hl := hl.ext hs6
                try simp only [Exit.then, Act.put, List.setIfInBounds_toArray, List.set_cons_succ, List.set_cons_zero]
                refine Dm.wpE_one (i := 8) (listed' := (Dm.bits 15 4095)) (by kernel_rfl) (by kernel_rfl) rfl hX6b (fun w7a hx7a => ?_)
                have hX7a := Ext.trans hX6b hx7a
                replace hl := hl.ext hx7a
                replace ho5 := Ext.row ho5 hx7a
                refine wpList_appE (n := 0 + m) (m := 1) rfl _ _ Tryz.slEntR rfl hX7a rfl ho5 rfl hl hone.out (by omega) ?_
                intro v6 w7b ho6 hX7b _
                refine wpList_nil ?_
                try simp only [Exit.then, Act.put, List.setIfInBounds_toArray, List.set_cons_succ, List.set_cons_zero]
                refine Dm.wpE_one (i := 12) (listed' := (Dm.bits 15 8191)) (by kernel_rfl) (by kernel_rfl) rfl hX7b (fun w8a hx8a => ?_)
                have hX8a := Ext.trans hX7b hx8a
                replace ho6 := Ext.row ho6 hx8a
                refine wpList_appE (n := 0 + m + 1) (m := R.length - m) rfl _ _ Tryz.slEntR rfl hX8a rfl ho6 rfl (Sl.ext hT2 hX8a) (fun u hu => entCellsQ_one R u (List.mem_of_mem_drop hu)) (by omega) ?_
                intro v7 w8b ho7 hX8b _
                refine wpList_nil ?_
                try simp only [Exit.then, Act.put, List.setIfInBounds_toArray, List.set_cons_succ, List.set_cons_zero]
                refine Dm.wpE_take (i := 13) (listed' := (Dm.bits 15 16383)) (by kernel_rfl) (by kernel_rfl) rfl (fun _ _ _ _ h => h) ?_; apply Exists.intro; refine And.intro (fun x => ?_) ?_
                · go_big_quiet_step (fail); exact wpQuiet_nil rfl
                refine Dm.wpE_take (i := 14) (listed' := (Dm.bits 15 32767)) (by kernel_rfl) (by kernel_rfl) rfl (fun _ _ _ _ h => h) ?_; apply Exists.intro; refine And.intro (fun x => ?_) ?_
                · go_big_quiet_step (fail); exact wpQuiet_nil rfl
                refine Dm.wpE_done (by kernel_rfl) hX8b (fun w9a hx9a => ?_)
                have hX9a := Ext.trans hX8b hx9a
                replace ho7 := Ext.row ho7 hx9a
                go_wp2
                go_ret2
                exact ⟨_, by rw [hE.out]; rfl, by rw [hE.out]; exact hfin.out _ _ ho7, (hW.trans hb).trans hX9a⟩
    · have hz2 : p.toList.isEmpty = false := by
        rw [List.isEmpty_eq_false_iff, ByteArray.toList_eq]
        intro e
        exact hpe (mk_bytes e)
      have hz3 : ¬ p.toList = [] := by rw [← List.isEmpty_iff, hz2]; simp
      have C3' := C3.out ((hnu.out (by trivial)).resolve_left hpe)
      have hpe2 := Lib.hid hpe
      clear hpe
      replace C3' := Lib.hid C3'
      go_wp2_with fail
      refine (C3'.out w2).mono ?_; rintro e w3 ⟨rfl, h3⟩
      replace h3 := h2.trans h3
      clear h2
      go_wp2_with fail
      refine (C4.out w3 h3).mono ?_; rintro e w4 ⟨rfl, h4⟩
      replace h4 := h3.trans h4
      clear h3
      by_cases hneg : ppi < 0
      · have hE := Lib.hid (hE2.out (by trivial) hpe2.out hneg)
        go_wp2
        go_ret2
        exact ⟨_, by rw [hE.out]; rfl, by rw [hE.out]; exact hx.ext (hW.trans h4), hW.trans h4⟩
      · have hor : Hid (p = ⟨#[]⟩ ∨ 0 ≤ ppi) := Or.inr (by omega)
        by_cases hk : k < R.length
        · have hpi := hpl.out
          rw [if_pos hk] at hpi
          subst hpi
          obtain ⟨tb, tof, hqe, htbl, hcs⟩ := hx.at hk
          subst hqe
          have C7 := fun U => r03fits_w (eAt R k).2.2 lim U
          obtain ⟨⟨s1, l1, u1⟩, hr⟩ : ∃ r, eAt R k = r := ⟨_, rfl⟩
          rw [hr] at hcs C7 hE4 hE5
          have hrr := Lib.hid hr
          clear hr hE3 hE6 hE1 hE2
          simp only at C7 hE4 hE5
          unfold vVal vF at C7
          have hcs2 : ∀ U, Ext w U → ∀ j', j' < 9 → U.cell? ⟨tb, tof + k * 9 + j', none⟩ = (entOne (s1, l1, u1))[j']? := fun U hU j' hj' => by rw [hU.cell (by exact htbl)]; exact hcs j' hj'
          clear hcs
          replace hcs2 := Lib.hid hcs2
          have htl := Nat.lt_of_lt_of_le htbl (hW.trans h4).size
          have hcs := hcs2.out _ (hW.trans h4)
          obtain ⟨al, a0, a1, a2, a3, _, _, _, _⟩ := (hV.ext h4).four
          have c0 := hcs 0 (by omega)
          have c1 := hcs 1 (by omega)
          have c2 := hcs 2 (by omega)
          have c3 := hcs 3 (by omega)
          have c4 := hcs 4 (by omega)
          have c5 := hcs 5 (by omega)
          have c6 := hcs 6 (by omega)
          have c7 := hcs 7 (by omega)
          have c8 := hcs 8 (by omega)
          simp only [entOne, uAt, List.getElem?_cons_zero, List.getElem?_cons_succ, Nat.add_zero] at c0 c1 c2 c3 c4 c5 c6 c7 c8
          clear hcs
          cases hd : vfits u1 lim with
          | false =>
            have hE := Lib.hid (hE4.out (by trivial) hor.out hk hd)
            rw [hd] at C7
            replace C7 := Lib.hid C7
            clear hd hE4 hE5
            go_wp2_with fail
            refine Dm.wp_region_grow (by kernel_rfl) (by kernel_rfl) ?_
            repeat (go_big_quiet_step (first | (go_at_call 37; with_reducible exact Calls.quietE (C7.out _))))
            refine wpQuiet_nil ?_
            intro w9 h9
            replace h9 := h4.trans h9
            clear al a0 a1 a2 a3 c0 c1 c2 c3 c4 c5 c6 c7 c8 C7
            go_wp2
            go_ret2
            exact ⟨_, by rw [hE.out]; rfl, by rw [hE.out]; exact hx.ext (hW.trans h9), hW.trans h9⟩
          | true =>
            have hE := Lib.hid (hE5.out (by trivial) hor.out hk hd)
            rw [hd] at C7
            replace C7 := Lib.hid C7
            clear hd hE4 hE5
            go_wp2_with fail
            refine Dm.wp_region_grow (by kernel_rfl) (by kernel_rfl) ?_
            repeat (go_big_quiet_step (first | (go_at_call 37; with_reducible exact Calls.quietE (C7.out _))))
            refine wpQuiet_nil ?_
            intro w9 h9
            replace h9 := h4.trans h9
            clear al a0 a1 a2 a3 c0 c1 c2 c3 c4 c5 c6 c7 c8 C7
            have hx9 := hx.ext (hW.trans h9)
            go_wp2_with (at_builtin; go_must (refine wpList_appE (n := 0) (m := R.length) rfl _ _ Tryz.slEntR rfl (Ext.refl _) rfl (World.ownsRow_nil _ _ _ _) rfl hx9 (entCellsQ_one R) (by omega) ?_; intro vo w10 ho h10 _; refine Hid.out ?_))
            rw [Nat.zero_add, List.nil_append] at ho
            obtain ⟨ao, co, rfl⟩ : ∃ a c, vo = .slice a R.length c := by
              obtain ⟨a, c, e, _⟩ := (Sl.of_owns ho).shape
              exact ⟨a, c, e⟩
            have h10' := h9.trans h10
            obtain ⟨al, a0, a1, a2, a3, _, _, _, _⟩ := (hV.ext h10').four
            obtain ⟨hxl, hrow⟩ := ho
            rcases hrow with ⟨h0, h00⟩ | ⟨g, cap', cur, hg0, hBg, hg, hnc, hcm, hcsz, htk⟩
            · exact absurd h00 (by omega)
            · simp only [Value.slice.injEq, true_and] at hg0
              obtain ⟨rfl, rfl⟩ := hg0
              have HCL : Hid (cur.toList.length = co * 9) := by show _ = _; rw [Array.length_toList, hcsz]
              have hg6 : w10.heap[g]? = some (.cells cur.toList.toArray 42 (0, 0)) := by rw [Array.toArray_toList]; exact hg
              have hfit : k * 9 + 1 + ([uAt lim 0, uAt lim 1, uAt lim 2, uAt lim 3] : List Value).length ≤ cur.toList.length := by rw [HCL.out]; show k * 9 + 1 + 4 ≤ _; omega
              have hone : ∀ u ∈ ([uAt lim 0, uAt lim 1, uAt lim 2, uAt lim 3] : List Value), u.oneCell' = true := fun u hu => by
                simp only [List.mem_cons, List.not_mem_nil, or_false] at hu
                rcases hu with rfl | rfl | rfl | rfl <;> rfl
              replace htk := Lib.hid htk
              replace hxl := Lib.hid hxl
              replace hcsz := Lib.hid hcsz
              replace hfit := Lib.hid hfit
              refine Lib.hid ?_
              go_wp2_with (refine wpList_store_at rfl _ _ _ rfl (g := g) (off := k * 9 + 1) (cells := [uAt lim 0, uAt lim 1, uAt lim 2, uAt lim 3]) rfl rfl rfl (by kernel_rfl) hg6 hfit.out hone ?_; intro w7 hg7 hgr7)
              go_ret2
              have hfin := Ext.putQ (hW.trans h10') hgr7 (by have := (hW.trans h9).size; omega)
              refine ⟨_, by rw [hE.out]; rfl, ?_, hfin⟩
              rw [hE.out]
              refine Tree.of_row (B := w9.heap.size) (e := 42) (n := R.length) ⟨by rw [entCellsQ_len, List.length_set], Or.inr ⟨g, co, _, rfl, hBg, hg7, hnc, hcm, ?_, ?_⟩⟩ (by rw [List.length_set])
              · rw [List.size_toArray, length_splice _ _ _ hfit.out]; exact HCL.out
              · show (splice cur.toList (k * 9 + 1) [uAt lim 0, uAt lim 1, uAt lim 2, uAt lim 3]).take (R.length * 9) = _
                rw [take_splice _ _ (by show k * 9 + 1 + 4 ≤ _; omega) (by rw [HCL.out]; omega), htk.out, entCellsQ_lim hk]
                rw [hrr.out]
        · have hk2 : k = R.length := by omega
          have hpi := hpl.out
          rw [if_neg hk] at hpi
          subst hpi
          clear hE1 hE2 hE4 hE5
          obtain ⟨al, a0, a1, a2, a3, _, _, _, _⟩ := (hV.ext h4).four
          by_cases h16 : 16 ≤ R.length
          · have hE := Lib.hid (hE3.out (by trivial) hor.out hk2 h16)
            clear hE3 hE6
            go_wp2
            go_ret2
            exact ⟨_, by rw [hE.out]; rfl, by rw [hE.out]; exact hx.ext (hW.trans h4), hW.trans h4⟩
          · have hE := Lib.hid (hE6.out (by trivial) hor.out hk2 h16)
            clear hE3 hE6
            go_wp2_with fail
            refine Dm.wp_region_grow (by kernel_rfl) (by kernel_rfl) ?_
            repeat (go_big_quiet_step (fail))
            refine wpQuiet_nil ?_
            intro w9 h9
            replace h9 := h4.trans h9
            clear al a0 a1 a2 a3
            have hx9 := hx.ext (hW.trans h9)
            go_wp2_with (at_builtin; go_must (refine wpList_appE (n := 0) (m := R.length) rfl _ _ Tryz.slEntR rfl (Ext.refl _) rfl (World.ownsRow_nil _ _ _ _) rfl hx9 (entCellsQ_one R) (by omega) ?_; intro vo w10 ho h10 _; refine Hid.out ?_))
            clear ho
            have h10' := h9.trans h10
            refine Lib.hid ?_
            go_wp2
            go_loopw [10] (fun i wr => ∃ m : Nat, m ≤ R.length ∧ i = .int .i64 m ∧ Ext W wr ∧ Hid (∀ j, j < m → Op.bytesLess (eAt R j).1.toList p.toList = true)) (fun i _ => R.length - (intOf i).toNat)
            case atStart => exact ⟨0, by omega, rfl, h10', fun j hj => by omega⟩
            case round =>
              obtain ⟨m, hmk, rfl, hb, HN⟩ := hrel
              by_cases hlt : m < R.length
              · obtain ⟨b, off, hbe, hbl, hcs⟩ := (hx.ext (hW.trans hb)).at hlt
                subst hbe
                have c0 := hcs 0 (by omega)
                simp only [entOne, List.getElem?_cons_zero, Nat.add_zero] at c0
                clear hcs
                have hY : Hid (Op.bytesLess (eAt R m).1.toList p.toList = false → un = m) := fun h => hhit.out m hlt HN.out h
                have hN2 : Hid (Op.bytesLess (eAt R m).1.toList p.toList = true → ∀ j, j < m + 1 → Op.bytesLess (eAt R j).1.toList p.toList = true) := fun h j hj => by
                  rcases Nat.lt_succ_iff_lt_or_eq.1 hj with h' | rfl
                  · exact HN.out j h'
                  · exact h
                generalize (eAt R m).1 = s at c0 hY hN2
                cases hle : Op.bytesLess s.toList p.toList with
                | true =>
                  first
                    | (rw [hz2, less_nil] at hle; cases hle; done)
                    | skip
                  all_goals replace hN2 := Lib.hid (hN2.out hle)
                  all_goals go_wp2
                  all_goals go_roundw
                  all_goals first | exact ⟨m + 1, by omega, by go_num, hb, hN2⟩ | (simp [intOf]; omega)
                | false =>
                  have hun := hY.out hle
                  clear hY hN2 HN
                  try rw [hz2] at hle
                  have hum := hun.symm
                  clear hun
                  subst hum
                  have hT1 := (hx.ext (hW.trans hb)).take (k := m) (by omega)
                  have hT2 := (hx.ext (hW.trans hb)).drop (k := m) (by omega)
                  obtain ⟨zl, z0, z1, z2, z3, _, _, _, _⟩ := (hV.ext hb).four
                  have hm' : m ≤ R.length := by omega
                  have hs2 := fun w => run_slice_low (P := Tryz.prog) 27 42 9 Tryz.slEntR.ht Tryz.slEntR.hs (some ⟨b, off, none⟩) R.length cap m (by omega) w
                  have hone : ∀ u ∈ (#[.string p, .int .u64 (vG lim 0 : Nat), .int .u64 (vG lim 1 : Nat), .int .u64 (vG lim 2 : Nat), .int .u64 (vG lim 3 : Nat), .int .u64 0, .int .u64 0, .int .u64 0, .int .u64 0] : Array Value).toList, u.oneCell' = true := by rw [lit_free]; exact entOne_one _
                  replace hone := Lib.hid hone
                  have hfin : Hid (∀ (w' : World) (r' : Value), w'.ownsRow wr.heap.size 42 9 r' (0 + m + 1 + (R.length - m)) (([] ++ (entCellsQ R).take (m * 9) ++ (#[.string p, .int .u64 (vG lim 0 : Nat), .int .u64 (vG lim 1 : Nat), .int .u64 (vG lim 2 : Nat), .int .u64 (vG lim 3 : Nat), .int .u64 0, .int .u64 0, .int .u64 0, .int .u64 0] : Array Value).toList) ++ (entCellsQ R).drop (m * 9)) → Tree w' r' (R.take m ++ (p, lim, noV) :: R.drop m)) := fun w' r' h => by
                    rw [List.nil_append, entCellsQ_take R m hm', entCellsQ_drop R m hm', lit_free, List.append_assoc] at h
                    refine Tree.of_row (B := wr.heap.size) (e := 42) (n := 0 + m + 1 + (R.length - m)) ?_ (by simp; omega)
                    rw [entCellsQ_app]
                    exact h
                  go_wp2_with fail
                  try simp only [Act.put, List.setIfInBounds_toArray, List.set_cons_succ, List.set_cons_zero]
                  refine Dm.wp_region_ext 15 (Dm.bits 15 0) (Ext.refl wr) (by kernel_rfl) (by kernel_rfl) (by kernel_rfl) ?_
                  refine Dm.wpE_take (i := 0) (listed' := (Dm.bits 15 1)) (by kernel_rfl) (by kernel_rfl) rfl (fun _ _ _ _ h => h) ?_; apply Exists.intro; refine And.intro (fun x => ?_) ?_
                  · go_big_quiet_step (fail); exact wpQuiet_nil rfl
                  refine Dm.wpE_take (i := 1) (listed' := (Dm.bits 15 3)) (by kernel_rfl) (by kernel_rfl) rfl (fun _ _ _ _ h => h) ?_; apply Exists.intro; refine And.intro (fun x => ?_) ?_
                  · go_big_quiet_step (fail); exact wpQuiet_nil rfl
                  refine Dm.wpE_take (i := 2) (listed' := (Dm.bits 15 7)) (by kernel_rfl) (by kernel_rfl) rfl (fun _ _ _ _ h => h) ?_; apply Exists.intro; refine And.intro (fun x => ?_) ?_
                  · go_big_quiet_step (fail); exact wpQuiet_nil rfl
                  refine Dm.wpE_take (i := 4) (listed' := (Dm.bits 15 23)) (by kernel_rfl) (by kernel_rfl) rfl (fun _ _ _ _ h => h) ?_; apply Exists.intro; refine And.intro (fun x => ?_) ?_
                  · go_big_quiet_step (fail); exact wpQuiet_nil rfl
                  refine Dm.wpE_take (i := 5) (listed' := (Dm.bits 15 55)) (by kernel_rfl) (by kernel_rfl) rfl (fun _ _ _ _ h => h) ?_; apply Exists.intro; refine And.intro (fun x => ?_) ?_
                  · go_big_quiet_step (fail); exact wpQuiet_nil rfl
                  refine Dm.wpE_take (i := 6) (listed' := (Dm.bits 15 119)) (by kernel_rfl) (by kernel_rfl) rfl (fun _ _ _ _ h => h) ?_; apply Exists.intro; refine And.intro (fun x => ?_) ?_
                  · go_big_quiet_step (fail); exact wpQuiet_nil rfl
                  refine Dm.wpE_take (i := 9) (listed' := (Dm.bits 15 631)) (by kernel_rfl) (by kernel_rfl) rfl (fun _ _ _ _ h => h) ?_; apply Exists.intro; refine And.intro (fun x => ?_) ?_
                  · go_big_quiet_step (fail); exact wpQuiet_nil rfl
                  refine Dm.wpE_take (i := 10) (listed' := (Dm.bits 15 1655)) (by kernel_rfl) (by kernel_rfl) rfl (fun _ _ _ _ h => h) ?_; apply Exists.intro; refine And.intro (fun x => ?_) ?_
                  · go_big_quiet_step (fail); exact wpQuiet_nil rfl
                  refine Dm.wpE_take (i := 11) (listed' := (Dm.bits 15 3703)) (by kernel_rfl) (by kernel_rfl) rfl (fun _ _ _ _ h => h) ?_; apply Exists.intro; refine And.intro (fun x => ?_) ?_
                  · go_big_quiet_step (fail); exact wpQuiet_nil rfl
                  refine Dm.wpE_two (i := 3) (j := 7) (li := (Dm.bits 15 3711)) (lj := (Dm.bits 15 3831)) (by kernel_rfl) (by kernel_rfl) (by kernel_rfl) rfl rfl (Ext.refl wr) (fun w1a hx1a => ?_) (fun w1a hx1a => ?_)
                  ·
                    have hX1a := Ext.trans (Ext.refl wr) hx1a
                    refine wpList_appE (n := 0) (m := m) rfl _ _ Tryz.slEntR rfl hX1a rfl (World.ownsRow_nil _ _ _ _) rfl (Sl.ext hT1 hX1a) (fun u hu => entCellsQ_one R u (List.mem_of_mem_take hu)) (by omega) ?_
                    intro v5 w1b ho5 hbn5 hg5
                    have hs1 := hg5 rfl
                    have hX1b := Ext.trans hX1a hs1
                    clear hg5 hbn5
                    refine wpList_nil ?_
                    try simp only [Exit.then, Act.put, List.setIfInBounds_toArray, List.set_cons_succ, List.set_cons_zero]
                    refine Dm.wpE_one (i := 7) (listed' := (Dm.bits 15 3839)) (by kernel_rfl) (by kernel_rfl) rfl hX1b (fun w2a hx2a => ?_)
                    have hX2a := Ext.trans hX1b hx2a
                    replace ho5 := Ext.row ho5 hx2a
                    go_wp2_with fail
                    have hl := Sl.lit w2a 42 9 1 #[.string p, .int .u64 (vG lim 0 : Nat), .int .u64 (vG lim 1 : Nat), .int .u64 (vG lim 2 : Nat), .int .u64 (vG lim 3 : Nat), .int .u64 0, .int .u64 0, .int .u64 0, .int .u64 0] rfl (by simp [maxLen])
                    have hs2 := (Ext.refl w2a).alloc (.cells #[.string p, .int .u64 (vG lim 0 : Nat), .int .u64 (vG lim 1 : Nat), .int .u64 (vG lim 2 : Nat), .int .u64 (vG lim 3 : Nat), .int .u64 0, .int .u64 0, .int .u64 0, .int .u64 0] 42)
                    generalize w2a.alloc (.cells #[.string p, .int .u64 (vG lim 0 : Nat), .int .u64 (vG lim 1 : Nat), .int .u64 (vG lim 2 : Nat), .int .u64 (vG lim 3 : Nat), .int .u64 0, .int .u64 0, .int .u64 0, .int .u64 0] 42) = w2b at *
                    have hX2b := Ext.trans hX2a hs2
                    replace ho5 := Ext.row ho5 hs2
                    try simp only [Exit.then, Act.put, List.setIfInBounds_toArray, List.set_cons_succ, List.set_cons_zero]
                    refine Dm.wpE_one (i := 8) (listed' := (Dm.bits 15 4095)) (by kernel_rfl) (by kernel_rfl) rfl hX2b (fun w3a hx3a => ?_)
                    have hX3a := Ext.trans hX2b hx3a
                    replace ho5 := Ext.row ho5 hx3a
                    replace hl := hl.ext hx3a
                    refine wpList_appE (n := 0 + m) (m := 1) rfl _ _ Tryz.slEntR rfl hX3a rfl ho5 rfl hl hone.out (by omega) ?_
                    intro v6 w3b ho6 hX3b _
                    refine wpList_nil ?_
                    try simp only [Exit.then, Act.put, List.setIfInBounds_toArray, List.set_cons_succ, List.set_cons_zero]
                    refine Dm.wpE_one (i := 12) (listed' := (Dm.bits 15 8191)) (by kernel_rfl) (by kernel_rfl) rfl hX3b (fun w4a hx4a => ?_)
                    have hX4a := Ext.trans hX3b hx4a
                    replace ho6 := Ext.row ho6 hx4a
                    refine wpList_appE (n := 0 + m + 1) (m := R.length - m) rfl _ _ Tryz.slEntR rfl hX4a rfl ho6 rfl (Sl.ext hT2 hX4a) (fun u hu => entCellsQ_one R u (List.mem_of_mem_drop hu)) (by omega) ?_
                    intro v7 w4b ho7 hX4b _
                    refine wpList_nil ?_
                    try simp only [Exit.then, Act.put, List.setIfInBounds_toArray, List.set_cons_succ, List.set_cons_zero]
                    refine Dm.wpE_take (i := 13) (listed' := (Dm.bits 15 16383)) (by kernel_rfl) (by kernel_rfl) rfl (fun _ _ _ _ h => h) ?_; apply Exists.intro; refine And.intro (fun x => ?_) ?_
                    · go_big_quiet_step (fail); exact wpQuiet_nil rfl
                    refine Dm.wpE_take (i := 14) (listed' := (Dm.bits 15 32767)) (by kernel_rfl) (by kernel_rfl) rfl (fun _ _ _ _ h => h) ?_; apply Exists.intro; refine And.intro (fun x => ?_) ?_
                    · go_big_quiet_step (fail); exact wpQuiet_nil rfl
                    refine Dm.wpE_done (by kernel_rfl) hX4b (fun w5a hx5a => ?_)
                    have hX5a := Ext.trans hX4b hx5a
                    replace ho7 := Ext.row ho7 hx5a
                    go_wp2
                    go_ret2
                    exact ⟨_, by rw [hE.out]; rfl, by rw [hE.out]; exact hfin.out _ _ ho7, (hW.trans hb).trans hX5a⟩
                  ·
                    have hX1a := Ext.trans (Ext.refl wr) hx1a
                    go_wp2_with fail
                    have hl := Sl.lit w1a 42 9 1 #[.string p, .int .u64 (vG lim 0 : Nat), .int .u64 (vG lim 1 : Nat), .int .u64 (vG lim 2 : Nat), .int .u64 (vG lim 3 : Nat), .int .u64 0, .int .u64 0, .int .u64 0, .int .u64 0] rfl (by simp [maxLen])
                    have hs1 := (Ext.refl w1a).alloc (.cells #[.string p, .int .u64 (vG lim 0 : Nat), .int .u64 (vG lim 1 : Nat), .int .u64 (vG lim 2 : Nat), .int .u64 (vG lim 3 : Nat), .int .u64 0, .int .u64 0, .int .u64 0, .int .u64 0] 42)
                    generalize w1a.alloc (.cells #[.string p, .int .u64 (vG lim 0 : Nat), .int .u64 (vG lim 1 : Nat), .int .u64 (vG lim 2 : Nat), .int .u64 (vG lim 3 : Nat), .int .u64 0, .int .u64 0, .int .u64 0, .int .u64 0] 42) = w1b at *
                    have hX1b := Ext.trans hX1a hs1
                    try simp only [Exit.then, Act.put, List.setIfInBounds_toArray, List.set_cons_succ, List.set_cons_zero]
                    refine Dm.wpE_one (i := 3) (listed' := (Dm.bits 15 3839)) (by kernel_rfl) (by kernel_rfl) rfl hX1b (fun w6a hx6a => ?_)
                    have hX6a := Ext.trans hX1b hx6a
                    replace hl := hl.ext hx6a
                    refine wpList_appE (n := 0) (m := m) rfl _ _ Tryz.slEntR rfl hX6a rfl (World.ownsRow_nil _ _ _ _) rfl (Sl.ext hT1 hX6a) (fun u hu => entCellsQ_one R u (List.mem_of_mem_take hu)) (by omega) ?_
                    intro v5 w6b ho5 hbn5 hg5
                    have hs6 := hg5 rfl
                    have hX6b := Ext.trans hX6a hs6
                    clear hg5 hbn5
                    refine wpList_nil ?_
                    replace hl := hl.ext hs6
                    try simp only [Exit.then, Act.put, List.setIfInBounds_toArray, List.set_cons_succ, List.set_cons_zero]
                    refine Dm.wpE_one (i := 8) (listed' := (Dm.bits 15 4095)) (by kernel_rfl) (by kernel_rfl) rfl hX6b (fun w7a hx7a => ?_)
                    have hX7a := Ext.trans hX6b hx7a
                    replace hl := hl.ext hx7a
                    replace ho5 := Ext.row ho5 hx7a
                    refine wpList_appE (n := 0 + m) (m := 1) rfl _ _ Tryz.slEntR rfl hX7a rfl ho5 rfl hl hone.out (by omega) ?_
                    intro v6 w7b ho6 hX7b _
                    refine wpList_nil ?_
                    try simp only [Exit.then, Act.put, List.setIfInBounds_toArray, List.set_cons_succ, List.set_cons_zero]
                    refine Dm.wpE_one (i := 12) (listed' := (Dm.bits 15 8191)) (by kernel_rfl) (by kernel_rfl) rfl hX7b (fun w8a hx8a => ?_)
                    have hX8a := Ext.trans hX7b hx8a
                    replace ho6 := Ext.row ho6 hx8a
                    refine wpList_appE (n := 0 + m + 1) (m := R.length - m) rfl _ _ Tryz.slEntR rfl hX8a rfl ho6 rfl (Sl.ext hT2 hX8a) (fun u hu => entCellsQ_one R u (List.mem_of_mem_drop hu)) (by omega) ?_
                    intro v7 w8b ho7 hX8b _
                    refine wpList_nil ?_
                    try simp only [Exit.then, Act.put, List.setIfInBounds_toArray, List.set_cons_succ, List.set_cons_zero]
                    refine Dm.wpE_take (i := 13) (listed' := (Dm.bits 15 16383)) (by kernel_rfl) (by kernel_rfl) rfl (fun _ _ _ _ h => h) ?_; apply Exists.intro; refine And.intro (fun x => ?_) ?_
                    · go_big_quiet_step (fail); exact wpQuiet_nil rfl
                    refine Dm.wpE_take (i := 14) (listed' := (Dm.bits 15 32767)) (by kernel_rfl) (by kernel_rfl) rfl (fun _ _ _ _ h => h) ?_; apply Exists.intro; refine And.intro (fun x => ?_) ?_
                    · go_big_quiet_step (fail); exact wpQuiet_nil rfl
                    refine Dm.wpE_done (by kernel_rfl) hX8b (fun w9a hx9a => ?_)
                    have hX9a := Ext.trans hX8b hx9a
                    replace ho7 := Ext.row ho7 hx9a
                    go_wp2
                    go_ret2
                    exact ⟨_, by rw [hE.out]; rfl, by rw [hE.out]; exact hfin.out _ _ ho7, (hW.trans hb).trans hX9a⟩
              · have hun : un = m := by
                  obtain rfl : m = R.length := by omega
                  exact hmiss.out (fun j hj => HN.out j hj)
                clear HN
                have hum := hun.symm
                clear hun
                subst hum
                have hT1 := (hx.ext (hW.trans hb)).take (k := m) (by omega)
                have hT2 := (hx.ext (hW.trans hb)).drop (k := m) (by omega)
                obtain ⟨zl, z0, z1, z2, z3, _, _, _, _⟩ := (hV.ext hb).four
                have hm' : m ≤ R.length := by omega
                have hs2 := fun w => run_slice_low (P := Tryz.prog) 27 42 9 Tryz.slEntR.ht Tryz.slEntR.hs q R.length cap m (by omega) w
                have hone : ∀ u ∈ (#[.string p, .int .u64 (vG lim 0 : Nat), .int .u64 (vG lim 1 : Nat), .int .u64 (vG lim 2 : Nat), .int .u64 (vG lim 3 : Nat), .int .u64 0, .int .u64 0, .int .u64 0, .int .u64 0] : Array Value).toList, u.oneCell' = true := by rw [lit_free]; exact entOne_one _
                replace hone := Lib.hid hone
                have hfin : Hid (∀ (w' : World) (r' : Value), w'.ownsRow wr.heap.size 42 9 r' (0 + m + 1 + (R.length - m)) (([] ++ (entCellsQ R).take (m * 9) ++ (#[.string p, .int .u64 (vG lim 0 : Nat), .int .u64 (vG lim 1 : Nat), .int .u64 (vG lim 2 : Nat), .int .u64 (vG lim 3 : Nat), .int .u64 0, .int .u64 0, .int .u64 0, .int .u64 0] : Array Value).toList) ++ (entCellsQ R).drop (m * 9)) → Tree w' r' (R.take m ++ (p, lim, noV) :: R.drop m)) := fun w' r' h => by
                  rw [List.nil_append, entCellsQ_take R m hm', entCellsQ_drop R m hm', lit_free, List.append_assoc] at h
                  refine Tree.of_row (B := wr.heap.size) (e := 42) (n := 0 + m + 1 + (R.length - m)) ?_ (by simp; omega)
                  rw [entCellsQ_app]
                  exact h
                go_wp2_with fail
                try simp only [Act.put, List.setIfInBounds_toArray, List.set_cons_succ, List.set_cons_zero]
                refine Dm.wp_region_ext 15 (Dm.bits 15 0) (Ext.refl wr) (by kernel_rfl) (by kernel_rfl) (by kernel_rfl) ?_
                refine Dm.wpE_take (i := 0) (listed' := (Dm.bits 15 1)) (by kernel_rfl) (by kernel_rfl) rfl (fun _ _ _ _ h => h) ?_; apply Exists.intro; refine And.intro (fun x => ?_) ?_
                · go_big_quiet_step (fail); exact wpQuiet_nil rfl
                refine Dm.wpE_take (i := 1) (listed' := (Dm.bits 15 3)) (by kernel_rfl) (by kernel_rfl) rfl (fun _ _ _ _ h => h) ?_; apply Exists.intro; refine And.intro (fun x => ?_) ?_
                · go_big_quiet_step (fail); exact wpQuiet_nil rfl
                refine Dm.wpE_take (i := 2) (listed' := (Dm.bits 15 7)) (by kernel_rfl) (by kernel_rfl) rfl (fun _ _ _ _ h => h) ?_; apply Exists.intro; refine And.intro (fun x => ?_) ?_
                · go_big_quiet_step (fail); exact wpQuiet_nil rfl
                refine Dm.wpE_take (i := 4) (listed' := (Dm.bits 15 23)) (by kernel_rfl) (by kernel_rfl) rfl (fun _ _ _ _ h => h) ?_; apply Exists.intro; refine And.intro (fun x => ?_) ?_
                · go_big_quiet_step (fail); exact wpQuiet_nil rfl
                refine Dm.wpE_take (i := 5) (listed' := (Dm.bits 15 55)) (by kernel_rfl) (by kernel_rfl) rfl (fun _ _ _ _ h => h) ?_; apply Exists.intro; refine And.intro (fun x => ?_) ?_
                · go_big_quiet_step (fail); exact wpQuiet_nil rfl
                refine Dm.wpE_take (i := 6) (listed' := (Dm.bits 15 119)) (by kernel_rfl) (by kernel_rfl) rfl (fun _ _ _ _ h => h) ?_; apply Exists.intro; refine And.intro (fun x => ?_) ?_
                · go_big_quiet_step (fail); exact wpQuiet_nil rfl
                refine Dm.wpE_take (i := 9) (listed' := (Dm.bits 15 631)) (by kernel_rfl) (by kernel_rfl) rfl (fun _ _ _ _ h => h) ?_; apply Exists.intro; refine And.intro (fun x => ?_) ?_
                · go_big_quiet_step (fail); exact wpQuiet_nil rfl
                refine Dm.wpE_take (i := 10) (listed' := (Dm.bits 15 1655)) (by kernel_rfl) (by kernel_rfl) rfl (fun _ _ _ _ h => h) ?_; apply Exists.intro; refine And.intro (fun x => ?_) ?_
                · go_big_quiet_step (fail); exact wpQuiet_nil rfl
                refine Dm.wpE_take (i := 11) (listed' := (Dm.bits 15 3703)) (by kernel_rfl) (by kernel_rfl) rfl (fun _ _ _ _ h => h) ?_; apply Exists.intro; refine And.intro (fun x => ?_) ?_
                · go_big_quiet_step (fail); exact wpQuiet_nil rfl
                refine Dm.wpE_two (i := 3) (j := 7) (li := (Dm.bits 15 3711)) (lj := (Dm.bits 15 3831)) (by kernel_rfl) (by kernel_rfl) (by kernel_rfl) rfl rfl (Ext.refl wr) (fun w1a hx1a => ?_) (fun w1a hx1a => ?_)
                ·
                  have hX1a := Ext.trans (Ext.refl wr) hx1a
                  refine wpList_appE (n := 0) (m := m) rfl _ _ Tryz.slEntR rfl hX1a rfl (World.ownsRow_nil _ _ _ _) rfl (Sl.ext hT1 hX1a) (fun u hu => entCellsQ_one R u (List.mem_of_mem_take hu)) (by omega) ?_
                  intro v5 w1b ho5 hbn5 hg5
                  have hs1 := hg5 rfl
                  have hX1b := Ext.trans hX1a hs1
                  clear hg5 hbn5
                  refine wpList_nil ?_
                  try simp only [Exit.then, Act.put, List.setIfInBounds_toArray, List.set_cons_succ, List.set_cons_zero]
                  refine Dm.wpE_one (i := 7) (listed' := (Dm.bits 15 3839)) (by kernel_rfl) (by kernel_rfl) rfl hX1b (fun w2a hx2a => ?_)
                  have hX2a := Ext.trans hX1b hx2a
                  replace ho5 := Ext.row ho5 hx2a
                  go_wp2_with fail
                  have hl := Sl.lit w2a 42 9 1 #[.string p, .int .u64 (vG lim 0 : Nat), .int .u64 (vG lim 1 : Nat), .int .u64 (vG lim 2 : Nat), .int .u64 (vG lim 3 : Nat), .int .u64 0, .int .u64 0, .int .u64 0, .int .u64 0] rfl (by simp [maxLen])
                  have hs2 := (Ext.refl w2a).alloc (.cells #[.string p, .int .u64 (vG lim 0 : Nat), .int .u64 (vG lim 1 : Nat), .int .u64 (vG lim 2 : Nat), .int .u64 (vG lim 3 : Nat), .int .u64 0, .int .u64 0, .int .u64 0, .int .u64 0] 42)
                  generalize w2a.alloc (.cells #[.string p, .int .u64 (vG lim 0 : Nat), .int .u64 (vG lim 1 : Nat), .int .u64 (vG lim 2 : Nat), .int .u64 (vG lim 3 : Nat), .int .u64 0, .int .u64 0, .int .u64 0, .int .u64 0] 42) = w2b at *
                  have hX2b := Ext.trans hX2a hs2
                  replace ho5 := Ext.row ho5 hs2
                  try simp only [Exit.then, Act.put, List.setIfInBounds_toArray, List.set_cons_succ, List.set_cons_zero]
                  refine Dm.wpE_one (i := 8) (listed' := (Dm.bits 15 4095)) (by kernel_rfl) (by kernel_rfl) rfl hX2b (fun w3a hx3a => ?_)
                  have hX3a := Ext.trans hX2b hx3a
                  replace ho5 := Ext.row ho5 hx3a
                  replace hl := hl.ext hx3a
                  refine wpList_appE (n := 0 + m) (m := 1) rfl _ _ Tryz.slEntR rfl hX3a rfl ho5 rfl hl hone.out (by omega) ?_
                  intro v6 w3b ho6 hX3b _
                  refine wpList_nil ?_
                  try simp only [Exit.then, Act.put, List.setIfInBounds_toArray, List.set_cons_succ, List.set_cons_zero]
                  refine Dm.wpE_one (i := 12) (listed' := (Dm.bits 15 8191)) (by kernel_rfl) (by kernel_rfl) rfl hX3b (fun w4a hx4a => ?_)
                  have hX4a := Ext.trans hX3b hx4a
                  replace ho6 := Ext.row ho6 hx4a
                  refine wpList_appE (n := 0 + m + 1) (m := R.length - m) rfl _ _ Tryz.slEntR rfl hX4a rfl ho6 rfl (Sl.ext hT2 hX4a) (fun u hu => entCellsQ_one R u (List.mem_of_mem_drop hu)) (by omega) ?_
                  intro v7 w4b ho7 hX4b _
                  refine wpList_nil ?_
                  try simp only [Exit.then, Act.put, List.setIfInBounds_toArray, List.set_cons_succ, List.set_cons_zero]
                  refine Dm.wpE_take (i := 13) (listed' := (Dm.bits 15 16383)) (by kernel_rfl) (by kernel_rfl) rfl (fun _ _ _ _ h => h) ?_; apply Exists.intro; refine And.intro (fun x => ?_) ?_
                  · go_big_quiet_step (fail); exact wpQuiet_nil rfl
                  refine Dm.wpE_take (i := 14) (listed' := (Dm.bits 15 32767)) (by kernel_rfl) (by kernel_rfl) rfl (fun _ _ _ _ h => h) ?_; apply Exists.intro; refine And.intro (fun x => ?_) ?_
                  · go_big_quiet_step (fail); exact wpQuiet_nil rfl
                  refine Dm.wpE_done (by kernel_rfl) hX4b (fun w5a hx5a => ?_)
                  have hX5a := Ext.trans hX4b hx5a
                  replace ho7 := Ext.row ho7 hx5a
                  go_wp2
                  go_ret2
                  exact ⟨_, by rw [hE.out]; rfl, by rw [hE.out]; exact hfin.out _ _ ho7, (hW.trans hb).trans hX5a⟩
                ·
                  have hX1a := Ext.trans (Ext.refl wr) hx1a
                  go_wp2_with fail
                  have hl := Sl.lit w1a 42 9 1 #[.string p, .int .u64 (vG lim 0 : Nat), .int .u64 (vG lim 1 : Nat), .int .u64 (vG lim 2 : Nat), .int .u64 (vG lim 3 : Nat), .int .u64 0, .int .u64 0, .int .u64 0, .int .u64 0] rfl (by simp [maxLen])
                  have hs1 := (Ext.refl w1a).alloc (.cells #[.string p, .int .u64 (vG lim 0 : Nat), .int .u64 (vG lim 1 : Nat), .int .u64 (vG lim 2 : Nat), .int .u64 (vG lim 3 : Nat), .int .u64 0, .int .u64 0, .int .u64 0, .int .u64 0] 42)
                  generalize w1a.alloc (.cells #[.string p, .int .u64 (vG lim 0 : Nat), .int .u64 (vG lim 1 : Nat), .int .u64 (vG lim 2 : Nat), .int .u64 (vG lim 3 : Nat), .int .u64 0, .int .u64 0, .int .u64 0, .int .u64 0] 42) = w1b at *
                  have hX1b := Ext.trans hX1a hs1
                  try simp only [Exit.then, Act.put, List.setIfInBounds_toArray, List.set_cons_succ, List.set_cons_zero]
                  refine Dm.wpE_one (i := 3) (listed' := (Dm.bits 15 3839)) (by kernel_rfl) (by kernel_rfl) rfl hX1b (fun w6a hx6a => ?_)
                  have hX6a := Ext.trans hX1b hx6a
                  replace hl := hl.ext hx6a
                  refine wpList_appE (n := 0) (m := m) rfl _ _ Tryz.slEntR rfl hX6a rfl (World.ownsRow_nil _ _ _ _) rfl (Sl.ext hT1 hX6a) (fun u hu => entCellsQ_one R u (List.mem_of_mem_take hu)) (by omega) ?_
                  intro v5 w6b ho5 hbn5 hg5
                  have hs6 := hg5 rfl
                  have hX6b := Ext.trans hX6a hs6
                  clear hg5 hbn5
                  refine wpList_nil ?_
                  replace hl := hl.ext hs6
                  try simp only [Exit.then, Act.put, List.setIfInBounds_toArray, List.set_cons_succ, List.set_cons_zero]
                  refine Dm.wpE_one (i := 8) (listed' := (Dm.bits 15 4095)) (by kernel_rfl) (by kernel_rfl) rfl hX6b (fun w7a hx7a => ?_)
                  have hX7a := Ext.trans hX6b hx7a
                  replace hl := hl.ext hx7a
                  replace ho5 := Ext.row ho5 hx7a
                  refine wpList_appE (n := 0 + m) (m := 1) rfl _ _ Tryz.slEntR rfl hX7a rfl ho5 rfl hl hone.out (by omega) ?_
                  intro v6 w7b ho6 hX7b _
                  refine wpList_nil ?_
                  try simp only [Exit.then, Act.put, List.setIfInBounds_toArray, List.set_cons_succ, List.set_cons_zero]
                  refine Dm.wpE_one (i := 12) (listed' := (Dm.bits 15 8191)) (by kernel_rfl) (by kernel_rfl) rfl hX7b (fun w8a hx8a => ?_)
                  have hX8a := Ext.trans hX7b hx8a
                  replace ho6 := Ext.row ho6 hx8a
                  refine wpList_appE (n := 0 + m + 1) (m := R.length - m) rfl _ _ Tryz.slEntR rfl hX8a rfl ho6 rfl (Sl.ext hT2 hX8a) (fun u hu => entCellsQ_one R u (List.mem_of_mem_drop hu)) (by omega) ?_
                  intro v7 w8b ho7 hX8b _
                  refine wpList_nil ?_
                  try simp only [Exit.then, Act.put, List.setIfInBounds_toArray, List.set_cons_succ, List.set_cons_zero]
                  refine Dm.wpE_take (i := 13) (listed' := (Dm.bits 15 16383)) (by kernel_rfl) (by kernel_rfl) rfl (fun _ _ _ _ h => h) ?_; apply Exists.intro; refine And.intro (fun x => ?_) ?_
                  · go_big_quiet_step (fail); exact wpQuiet_nil rfl
                  refine Dm.wpE_take (i := 14) (listed' := (Dm.bits 15 32767)) (by kernel_rfl) (by kernel_rfl) rfl (fun _ _ _ _ h => h) ?_; apply Exists.intro; refine And.intro (fun x => ?_) ?_
                  · go_big_quiet_step (fail); exact wpQuiet_nil rfl
                  refine Dm.wpE_done (by kernel_rfl) hX8b (fun w9a hx9a => ?_)
                  have hX9a := Ext.trans hX8b hx9a
                  replace ho7 := Ext.row ho7 hx9a
                  go_wp2
                  go_ret2
                  exact ⟨_, by rw [hE.out]; rfl, by rw [hE.out]; exact hfin.out _ _ ho7, (hW.trans hb).trans hX9a⟩
end Go.Proofs.YtopnllbfhhjobaaGreatDoor
