/- Chapter 4: the walk of the program's Right. -/
import Derived.Test.YtbkemhheombfcaaDoorLPure
import Derived.Test.YtbkemhheombfcaaDoorWWalkA
namespace Go.Proofs.YtbkemhheombfcaaDoor
open Go.RowKit Go.Dm

theorem right_fit (s : ByteArray) (w : World) (hs : s.size ≤ 140737488351232) (ht : Tabs w) :
    Calls Tryd.prog 19 #[.string s] w fun e w' => e = .returned (.bool (rightL s.data.toList)) ∧ Ext w w' := right_w s w (by omega) ht

set_option maxHeartbeats 2000000 in
theorem lright_w (l : List PairS) (v : Value) (w : World) (hm : l.length ≤ 35184372088832) (hf : FitP l) (hx : Pairs w v l) (ht : Tabs w) :
    Calls Tryd.prog 18 #[v] w fun e w' => e = .returned (.bool (rightLab (labL l))) ∧ Ext w w' := by
  obtain ⟨q, cap, rfl, hcap, hcm⟩ := hx.shape
  go_enter Tryd.func18, Tryd.ntmps18
  go_wp2
  go_loopw [7] (fun i' wr => ∃ k : Nat, k ≤ l.length ∧ i' = .int .i64 k ∧ Ext w wr ∧ Hid (∀ j, j < k → okLab (labL l) j = true)) (fun i' _ => l.length - (intOf i').toNat)
  case atStart => exact ⟨0, by omega, rfl, Ext.refl _, fun j hj => by omega⟩
  case round =>
    obtain ⟨k, hk, rfl, hb, HN⟩ := hrel
    by_cases hlt : k < l.length
    · obtain ⟨b, off, rfl, hbl, c0, c1⟩ := (hx.ext hb).at hlt
      have hfk := hf _ (pairAt_mem hlt)
      have hok : ∀ c1 c2 c3, rightL (pairAt l k).1.data.toList = c1 → rightL (pairAt l k).2.data.toList = c2 → (k == 0 || !leB (pairAt l k).1.data.toList (pairAt l (k-1)).1.data.toList) = c3 → okLab (labL l) k = (c1 && (c2 && c3)) := by
        intro c1 c2 c3 e1 e2 e3
        unfold okLab
        rw [labL_at l hlt, labL_at l (by omega : k - 1 < l.length), ← e1, ← e2, ← e3]
        rfl
      have hbad : okLab (labL l) k = false → rightLab (labL l) = false := fun h => rightLab_bad (by rw [labL_len]; exact hlt) h
      have hgood : okLab (labL l) k = true → ∀ j, j < k + 1 → okLab (labL l) j = true := fun h j hj => by
        rcases Nat.lt_succ_iff_lt_or_eq.1 hj with h' | rfl
        · exact HN.out j h'
        · exact h
      have hW : Ext w (wr.alloc (.cells #[.string (pairAt l k).1, .string (pairAt l k).2] 29)) := hb.trans ((Ext.refl _).alloc _)
      have C1 : ∀ c, rightL (pairAt l k).1.data.toList = c → Hid (∀ U, Ext (wr.alloc (.cells #[.string (pairAt l k).1, .string (pairAt l k).2] 29)) U → Calls Tryd.prog 19 #[.string (pairAt l k).1] U fun e w' => e = .returned (.bool c) ∧ Ext U w') := by
        intro c h U hU
        rw [← h]
        exact right_fit _ U hfk.1 (ht.ext (hW.trans hU))
      have C2 : ∀ c, rightL (pairAt l k).2.data.toList = c → Hid (∀ U, Ext (wr.alloc (.cells #[.string (pairAt l k).1, .string (pairAt l k).2] 29)) U → Calls Tryd.prog 19 #[.string (pairAt l k).2] U fun e w' => e = .returned (.bool c) ∧ Ext U w') := by
        intro c h U hU
        rw [← h]
        exact right_fit _ U hfk.2 (ht.ext (hW.trans hU))
      replace hok := Lib.hid hok
      replace hbad := Lib.hid hbad
      replace hgood := Lib.hid hgood
      cases h1 : rightL (pairAt l k).1.data.toList with
      | false =>
        replace C1 := C1 _ h1
        replace C2 := C2 _ rfl
        have hB := Lib.hid (hbad.out (hok.out _ _ _ h1 rfl rfl))
        clear h1
        go_wp2_with fail
        refine Dm.wp_region_grow (by kernel_rfl) (by kernel_rfl) ?_
        repeat (go_big_quiet_step (first
          | (go_at_call 19; with_reducible exact Calls.quietE (C1.out _ (ext_grow _ _)))
          | (go_at_call 19; with_reducible exact Calls.quietE (C2.out _ (ext_grow _ _)))))
        refine wpQuiet_nil ?_
        intro U hU
        have hU' := hW.trans hU
        go_wp2
        go_ret
        exact ⟨by rw [hB.out]; rfl, hU'⟩
      | true =>
        replace C1 := C1 _ h1
        cases h2 : rightL (pairAt l k).2.data.toList with
        | false =>
          replace C2 := C2 _ h2
          have hB := Lib.hid (hbad.out (hok.out _ _ _ h1 h2 rfl))
          clear h1 h2
          go_wp2_with fail
          refine Dm.wp_region_grow (by kernel_rfl) (by kernel_rfl) ?_
          repeat (go_big_quiet_step (first
            | (go_at_call 19; with_reducible exact Calls.quietE (C1.out _ (ext_grow _ _)))
            | (go_at_call 19; with_reducible exact Calls.quietE (C2.out _ (ext_grow _ _)))))
          refine wpQuiet_nil ?_
          intro U hU
          have hU' := hW.trans hU
          go_wp2
          go_ret
          exact ⟨by rw [hB.out]; rfl, hU'⟩
        | true =>
          replace C2 := C2 _ h2
          by_cases h0 : k = 0
          · subst h0
            have hG := Lib.hid (hgood.out (hok.out _ _ true h1 h2 rfl))
            clear h1 h2 hok hbad hgood
            rw [Nat.zero_mul, Nat.add_zero] at c0 c1
            go_wp2_with fail
            refine Dm.wp_region_grow (by kernel_rfl) (by kernel_rfl) ?_
            repeat (go_big_quiet_step (first
              | (go_at_call 19; with_reducible exact Calls.quietE (C1.out _ (ext_grow _ _)))
              | (go_at_call 19; with_reducible exact Calls.quietE (C2.out _ (ext_grow _ _)))))
            refine wpQuiet_nil ?_
            intro U hU
            have hU' := hW.trans hU
            go_wp2
            go_roundw
            case rel => exact ⟨1, by omega, rfl, hU', hG⟩
            case measure => simp [intOf]; omega
          · obtain ⟨j, rfl⟩ : ∃ j, k = j + 1 := ⟨k - 1, by omega⟩
            obtain ⟨d0, _⟩ := (hx.ext hb).cells (k := j) (by omega)
            have hle : ∀ c c', Op.bytesLess (pairAt l (j + 1)).1.toList (pairAt l j).1.toList = c → ((pairAt l (j + 1)).1.toList == (pairAt l j).1.toList) = c' → (j + 1 == 0 || !leB (pairAt l (j + 1)).1.data.toList (pairAt l (j + 1 - 1)).1.data.toList) = !(c || c') := by
              intro c c' e1 e2
              rw [ByteArray.toList_eq, ByteArray.toList_eq] at e1 e2
              rw [← e1, ← e2]
              rfl
            cases q1 : Op.bytesLess (pairAt l (j + 1)).1.toList (pairAt l j).1.toList with
            | true =>
              have hB := Lib.hid (hbad.out (hok.out _ _ _ h1 h2 (hle _ _ q1 rfl)))
              clear h1 h2 hok hbad hgood hle
              go_wp2_with fail
              refine Dm.wp_region_grow (by kernel_rfl) (by kernel_rfl) ?_
              repeat (go_big_quiet_step (first
                | (go_at_call 19; with_reducible exact Calls.quietE (C1.out _ (ext_grow _ _)))
                | (go_at_call 19; with_reducible exact Calls.quietE (C2.out _ (ext_grow _ _)))))
              refine wpQuiet_nil ?_
              intro U hU
              have hU' := hW.trans hU
              go_wp2
              go_ret
              exact ⟨by rw [hB.out]; rfl, hU'⟩
            | false =>
              cases q2 : ((pairAt l (j + 1)).1.toList == (pairAt l j).1.toList) with
              | true =>
                have hB := Lib.hid (hbad.out (hok.out _ _ _ h1 h2 (hle _ _ q1 q2)))
                clear h1 h2 hok hbad hgood hle
                go_wp2_with fail
                refine Dm.wp_region_grow (by kernel_rfl) (by kernel_rfl) ?_
                repeat (go_big_quiet_step (first
                  | (go_at_call 19; with_reducible exact Calls.quietE (C1.out _ (ext_grow _ _)))
                  | (go_at_call 19; with_reducible exact Calls.quietE (C2.out _ (ext_grow _ _)))))
                refine wpQuiet_nil ?_
                intro U hU
                have hU' := hW.trans hU
                go_wp2
                go_ret
                exact ⟨by rw [hB.out]; rfl, hU'⟩
              | false =>
                have hG := Lib.hid (hgood.out (hok.out _ _ _ h1 h2 (hle _ _ q1 q2)))
                clear h1 h2 hok hbad hgood hle
                go_wp2_with fail
                refine Dm.wp_region_grow (by kernel_rfl) (by kernel_rfl) ?_
                repeat (go_big_quiet_step (first
                  | (go_at_call 19; with_reducible exact Calls.quietE (C1.out _ (ext_grow _ _)))
                  | (go_at_call 19; with_reducible exact Calls.quietE (C2.out _ (ext_grow _ _)))))
                refine wpQuiet_nil ?_
                intro U hU
                have hU' := hW.trans hU
                go_wp2
                go_roundw
                case rel => exact ⟨j + 1 + 1, by omega, by go_num, hU', hG⟩
                case measure => simp [intOf]; omega
    · go_wp2
      go_ret
      obtain rfl : k = l.length := by omega
      have hA := rightLab_all (L := labL l) (fun j hj => HN.out j (by rw [labL_len] at hj; exact hj))
      rw [labL_len] at hA
      exact ⟨by rw [hA, show decide (l.length ≤ 8) = decide ((l.length : Int) ≤ 8) from decide_eq_decide.2 (by omega)]; rfl, hb⟩

end Go.Proofs.YtbkemhheombfcaaDoor
