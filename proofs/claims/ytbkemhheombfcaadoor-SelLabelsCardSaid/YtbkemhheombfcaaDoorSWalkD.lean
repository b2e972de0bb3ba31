/- Chapter 5: the walk of Right. -/
import Derived.Test.YtbkemhheombfcaaDoorSWalkC
import Derived.Test.YtbkemhheombfcaaDoorLRight
namespace Go.Proofs.YtbkemhheombfcaaDoor
open Go.RowKit Go.Dm

set_option maxHeartbeats 2000000 in
theorem tright_w (key : ByteArray) (no : Bool) (vals : List ByteArray) (v : Value) (w : World) (hf : FitT (key, no, vals)) (hx : Strs w v vals) (ht : Tabs w) :
    Calls Tryd.prog 79 #[.agg #[.string key, .bool no, v]] w fun e w' => e = .returned (.bool (rightT (key, no, vals))) ∧ Ext w w' := by
  have hW : Ext w (w.alloc (.cells #[.string key, .bool no, v] 57)) := (Ext.refl _).alloc _
  obtain ⟨q, cap, rfl, hcap, hcm⟩ := hx.shape
  have hbad := fun k (hk : k < vals.length) h => rightT_bad (t := (key, no, vals)) hk h
  have hall := rightT_all (t := (key, no, vals))
  obtain ⟨hf1, hf2, hf3⟩ := hf
  simp only at hbad hall hf1 hf2 hf3
  have CK := fun U (hU : Ext w U) => right_fit key U hf1 (ht.ext hU)
  replace hall := fun h => (hall h).trans (show (rightL (bS key) && decide (vals.length ≤ 4)) = (rightL key.data.toList && decide (vals.length ≤ 4)) from rfl)
  generalize rightT (key, no, vals) = d at *
  generalize rightL key.data.toList = rk at CK hall
  replace hbad := Lib.hid hbad
  replace hall := Lib.hid hall
  replace CK := Lib.hid CK
  go_enter Tryd.func79, Tryd.ntmps79
  go_wp2
  generalize hW0 : w.alloc (.cells #[.string key, .bool no, .slice q vals.length cap] 57) = W at *
  have g := (Ext.box (w := w) (cs := #[.string key, .bool no, .slice q vals.length cap]) (e := 57) (Ext.refl _))
  rw [hW0] at g
  clear hW0
  obtain ⟨gs, g⟩ := g
  have g0 := g 0 _ rfl
  have g1 := g 1 _ rfl
  have g2 := g 2 _ rfl
  clear g
  have gsz : w.heap.size < W.heap.size := gs
  go_loopw [8] (fun i' wr => ∃ k : Nat, k ≤ vals.length ∧ i' = .int .i64 k ∧ Ext W wr ∧ Hid (∀ j, j < k → okVal vals j = true)) (fun i' _ => vals.length - (intOf i').toNat)
  case atStart => exact ⟨0, by omega, rfl, Ext.refl _, fun j hj => by omega⟩
  case round =>
    obtain ⟨k, hk, rfl, hb, HN⟩ := hrel
    have er := hW.trans hb
    have gr : w.heap.size < wr.heap.size := Nat.lt_of_lt_of_le gs hb.size
    have k0 : wr.cell? ⟨w.heap.size, 0, none⟩ = some (.string key) := by rw [hb.cell (by exact gs)]; exact g0
    have k2 : wr.cell? ⟨w.heap.size, 2, none⟩ = some (.slice q vals.length cap) := by rw [hb.cell (by exact gs)]; exact g2
    by_cases hlt : k < vals.length
    · obtain ⟨b, off, rfl, hbl, c0⟩ := (hx.ext er).at hlt
      have hfk := hf3 _ (strAt_mem hlt)
      have C := right_fit (strAt vals k) wr hfk (ht.ext er)
      have hB := hbad.out k hlt
      have hG : okVal vals k = true → Hid (∀ j, j < k + 1 → okVal vals j = true) := fun h j hj => by
        rcases Nat.lt_succ_iff_lt_or_eq.1 hj with h' | rfl
        · exact HN.out j h'
        · exact h
      have hok : ∀ c1 c2, rightL (strAt vals k).data.toList = c1 → (k == 0 || !leB (bS (strAt vals k)) (bS (strAt vals (k - 1)))) = c2 → okVal vals k = (c1 && c2) := by
        intro c1 c2 e1 e2
        unfold okVal
        rw [← e1, ← e2]; rfl
      cases h1 : rightL (strAt vals k).data.toList with
      | false =>
        have hd := hB (hok _ _ h1 rfl)
        subst hd
        rw [h1] at C
        clear h1 hok hG hB
        go_wp2_with fail
        refine C.mono ?_; rintro e w1 ⟨rfl, hh1⟩
        go_wp2
        go_ret
        exact ⟨rfl, er.trans hh1⟩
      | true =>
        rw [h1] at C
        by_cases h0 : k = 0
        · subst h0
          have hg := hG (hok _ true h1 rfl)
          rw [Nat.add_zero] at c0
          clear h1 hok hG hB
          go_wp2_with fail
          refine C.mono ?_; rintro e w1 ⟨rfl, hh1⟩
          go_wp2
          go_roundw
          case rel => exact ⟨1, by omega, rfl, hb.trans hh1, hg⟩
          case measure => simp [intOf]; omega
        · obtain ⟨j, rfl⟩ : ∃ j, k = j + 1 := ⟨k - 1, by omega⟩
          obtain ⟨_, d0⟩ := (hx.ext er).cells (k := j) (by omega)
          have hle : ∀ c c', Op.bytesLess (strAt vals (j + 1)).toList (strAt vals j).toList = c → ((strAt vals (j + 1)).toList == (strAt vals j).toList) = c' → (j + 1 == 0 || !leB (bS (strAt vals (j + 1))) (bS (strAt vals (j + 1 - 1)))) = !(c || c') := by
            intro c c' e1 e2
            rw [ByteArray.toList_eq, ByteArray.toList_eq] at e1 e2
            rw [← e1, ← e2]
            rfl
          cases q1 : Op.bytesLess (strAt vals (j + 1)).toList (strAt vals j).toList with
          | true =>
            have hd := hB (hok _ _ h1 (hle _ _ q1 rfl))
            subst hd
            clear h1 hok hG hB hle
            go_wp2_with fail
            refine C.mono ?_; rintro e w1 ⟨rfl, hh1⟩
            have k2' : w1.cell? ⟨w.heap.size, 2, none⟩ = some (.slice (some ⟨b, off, none⟩) vals.length cap) := by rw [hh1.cell (by exact gr)]; exact k2
            have d0' : w1.cell? ⟨b, off + j, none⟩ = some (.string (strAt vals j)) := by rw [hh1.cell (by exact hbl)]; exact d0
            have gr' := Nat.lt_of_lt_of_le gr hh1.size
            have hbl' := Nat.lt_of_lt_of_le hbl hh1.size
            go_wp2
            go_ret
            exact ⟨rfl, er.trans hh1⟩
          | false =>
            cases q2 : ((strAt vals (j + 1)).toList == (strAt vals j).toList) with
            | true =>
              have hd := hB (hok _ _ h1 (hle _ _ q1 q2))
              subst hd
              clear h1 hok hG hB hle
              go_wp2_with fail
              refine C.mono ?_; rintro e w1 ⟨rfl, hh1⟩
              have k2' : w1.cell? ⟨w.heap.size, 2, none⟩ = some (.slice (some ⟨b, off, none⟩) vals.length cap) := by rw [hh1.cell (by exact gr)]; exact k2
              have d0' : w1.cell? ⟨b, off + j, none⟩ = some (.string (strAt vals j)) := by rw [hh1.cell (by exact hbl)]; exact d0
              have gr' := Nat.lt_of_lt_of_le gr hh1.size
              have hbl' := Nat.lt_of_lt_of_le hbl hh1.size
              go_wp2
              go_ret
              exact ⟨rfl, er.trans hh1⟩
            | false =>
              have hg := hG (hok _ _ h1 (hle _ _ q1 q2))
              clear h1 hok hG hB hle
              go_wp2_with fail
              refine C.mono ?_; rintro e w1 ⟨rfl, hh1⟩
              have k2' : w1.cell? ⟨w.heap.size, 2, none⟩ = some (.slice (some ⟨b, off, none⟩) vals.length cap) := by rw [hh1.cell (by exact gr)]; exact k2
              have d0' : w1.cell? ⟨b, off + j, none⟩ = some (.string (strAt vals j)) := by rw [hh1.cell (by exact hbl)]; exact d0
              have gr' := Nat.lt_of_lt_of_le gr hh1.size
              have hbl' := Nat.lt_of_lt_of_le hbl hh1.size
              go_wp2
              go_roundw
              case rel => exact ⟨j + 1 + 1, by omega, by go_num, hb.trans hh1, hg⟩
              case measure => simp [intOf]; omega
    · obtain rfl : k = vals.length := by omega
      have hd := hall.out HN.out
      have C := CK.out wr er
      cases rk with
      | false =>
        rw [Bool.false_and] at hd
        subst hd
        go_wp2_with fail
        refine C.mono ?_; rintro e w1 ⟨rfl, hh1⟩
        go_wp2
        go_ret
        exact ⟨rfl, er.trans hh1⟩
      | true =>
        rw [Bool.true_and] at hd
        have hd' : d = decide ((vals.length : Int) ≤ 4) := by rw [hd]; exact decide_eq_decide.2 (by omega)
        clear hd
        replace hd' := Lib.hid hd'
        go_wp2_with fail
        refine C.mono ?_; rintro e w1 ⟨rfl, hh1⟩
        have k2' : w1.cell? ⟨w.heap.size, 2, none⟩ = some (.slice q vals.length cap) := by rw [hh1.cell (by exact gr)]; exact k2
        have gr' := Nat.lt_of_lt_of_le gr hh1.size
        go_wp2
        go_ret
        exact ⟨by rw [hd'.out]; rfl, er.trans hh1⟩

set_option maxHeartbeats 400000 in
theorem right1_w (r : RowS) (w : World) (hf : FitT (rowT r)) (hx : Strs w r.2.2.1 r.2.2.2) (ht : Tabs w) :
    Calls Tryd.prog 78 #[.agg #[.string r.1, .bool r.2.1, r.2.2.1]] w fun e w' => e = .returned (.bool (!rightT (rowT r))) ∧ Ext w w' := by
  obtain ⟨key, no, v, vals⟩ := r
  have hW : Ext w (w.alloc (.cells #[.string key, .bool no, v] 57)) := (Ext.refl _).alloc _
  have C := tright_w key no vals v _ hf (hx.ext hW) (ht.ext hW)
  show Calls Tryd.prog 78 #[.agg #[.string key, .bool no, v]] w fun e w' => e = .returned (.bool (!rightT (key, no, vals))) ∧ Ext w w'
  generalize rightT (key, no, vals) = d at C
  go_enter Tryd.func78, Tryd.ntmps78
  go_wp2_with fail
  refine C.mono ?_; rintro e w1 ⟨rfl, h1⟩
  go_wp2
  go_ret
  exact ⟨rfl, hW.trans h1⟩

set_option maxHeartbeats 1000000 in
theorem indexR_w (R : List RowS) (v : Value) (w : World) (hm : R.length ≤ 35184372088832) (hf : FitR R) (hx : Terms w v R) (ht : Tabs w) :
    Calls Tryd.prog 99 #[v, .func (.func 78) #[] #[]] w
      fun e w' => ∃ i : Int, e = .returned (.int .i64 i) ∧ decide (0 ≤ i) = !(R.map rowT).all rightT ∧ Ext w w' := by
  obtain ⟨q, cap, rfl, _, _⟩ := hx.shape
  have hhit := fun k (hk : k < R.length) h => allR_hit hk h
  have hmiss := allR_miss (R := R)
  generalize (R.map rowT).all rightT = d at *
  replace hhit := Lib.hid hhit
  replace hmiss := Lib.hid hmiss
  go_enter Tryd.func99, Tryd.ntmps99
  go_wp2
  go_loopw [4, 8] (fun z i wr => ∃ k : Nat, k ≤ R.length ∧ i = .int .i64 k ∧ z = .int .i64 0 ∧ Ext w wr ∧ Hid (∀ j, j < k → rightT (rowT (sAtR R j)) = true)) (fun _ i _ => R.length - (intOf i).toNat)
  case atStart => exact ⟨0, by omega, rfl, rfl, Ext.refl w, fun j hj => by omega⟩
  case round =>
    obtain ⟨k, hk, rfl, rfl, hb, HN⟩ := hrel
    by_cases hlt : k < R.length
    · obtain ⟨b, off, rfl, hbl, c0, c1, c2⟩ := (hx.ext hb).at hlt
      have C := right1_w (sAtR R k) wr (hf _ (sAtR_mem hlt)) ((hx.ext hb).val hlt) (ht.ext hb)
      have hH := hhit.out k hlt
      have hN2 : rightT (rowT (sAtR R k)) = true → Hid (∀ j, j < k + 1 → rightT (rowT (sAtR R j)) = true) := fun h j hj => by
        rcases Nat.lt_succ_iff_lt_or_eq.1 hj with h' | rfl
        · exact HN.out j h'
        · exact h
      generalize rightT (rowT (sAtR R k)) = t at C hH hN2
      generalize sAtR R k = r at *
      cases t with
      | false =>
        have hd := hH rfl
        subst hd
        clear hH hN2
        go_wp2_with fail
        refine C.mono ?_; rintro e w1 ⟨rfl, h1⟩
        go_wp2
        go_ret
        exact ⟨_, rfl, by first | omega | simp, hb.trans h1⟩
      | true =>
        replace hN2 := hN2 rfl
        clear hH
        go_wp2_with fail
        refine C.mono ?_; rintro e w1 ⟨rfl, h1⟩
        go_wp2
        go_roundw
        case rel => exact ⟨k + 1, by omega, by go_num, rfl, hb.trans h1, hN2⟩
        case measure => simp [intOf]; omega
    · obtain rfl : k = R.length := by omega
      have hd := hmiss.out HN.out
      subst hd
      go_wp2
      go_ret
      exact ⟨-1, rfl, by first | omega | simp, hb⟩

set_option maxHeartbeats 400000 in
theorem containsR_w (R : List RowS) (v : Value) (w : World) (hm : R.length ≤ 35184372088832) (hf : FitR R) (hx : Terms w v R) (ht : Tabs w) :
    Calls Tryd.prog 69 #[v, .func (.func 78) #[] #[]] w
      fun e w' => e = .returned (.bool (!(R.map rowT).all rightT)) ∧ Ext w w' := by
  have C := indexR_w R v w hm hf hx ht
  generalize (R.map rowT).all rightT = d at C
  go_enter Tryd.func69, Tryd.ntmps69
  go_wp2_with fail
  refine C.mono ?_; rintro e w1 ⟨i, rfl, hi, h1⟩
  go_wp2
  go_ret
  exact ⟨by rw [← hi]; rfl, h1⟩

set_option maxHeartbeats 400000 in
theorem sright_w (R : List RowS) (v : Value) (w : World) (hm : R.length ≤ 35184372088832) (hf : FitR R) (hx : Terms w v R) (ht : Tabs w) :
    Calls Tryd.prog 41 #[v] w fun e w' => e = .returned (.bool (rightS (R.map rowT))) ∧ Ext w w' := by
  obtain ⟨q, cap, rfl, _, _⟩ := hx.shape
  have C := containsR_w R _ w hm hf hx ht
  have hr : rightS (R.map rowT) = (decide (R.length ≤ 4) && (R.map rowT).all rightT) := by unfold rightS; rw [List.length_map]
  rw [hr]
  clear hr
  generalize (R.map rowT).all rightT = d at *
  by_cases h4 : R.length ≤ 4
  · rw [decide_eq_true h4, Bool.true_and]
    go_enter Tryd.func41, Tryd.ntmps41
    go_wp2_with fail
    refine C.mono ?_; rintro e w1 ⟨rfl, h1⟩
    go_wp2
    go_ret
    exact ⟨by simp, h1⟩
  · rw [decide_eq_false h4, Bool.false_and]
    clear C
    have h4' : decide ((R.length : Int) ≤ 4) = false := decide_eq_false (by omega)
    go_enter Tryd.func41, Tryd.ntmps41
    go_wp2
    go_ret
    exact ⟨rfl, Ext.refl _⟩

end Go.Proofs.YtbkemhheombfcaaDoor
