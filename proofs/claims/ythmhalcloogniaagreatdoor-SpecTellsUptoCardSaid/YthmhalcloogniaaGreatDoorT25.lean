/- Texts one behind the other: Chapter 4: the walk of the laws' made labels; Chapter 4: the walk of the laws' examples; LabelRight, walked: labels are right just if they are at most eight, keys and values are names, and the keys rise; else they are put as nothing; Chapter 5: the walk of Right; Chapter 5: the walk of Put; Chapter 5: the walk of Text; Chapter 5: the walks of the library's CutPrefix, CutSuffix; Chapter 5: the walk of a term of a text; The law's helper same: two slices of labels hold the same; Chapter 4, plain laws: made labels are right. No program in sight; Chapter 4, plain laws: of what is put no beginning is got. No program in sight; Chapter 4, plain laws of what is put and got at a place. No program in sight; Chapter 5: the walks of the document's has, Match, Right; Chapter 4: the walks of the document's Put, Text; of the law's refL, sameL. -/
import Derived.Test.YthmhalcloogniaaGreatDoorT10
import Derived.Test.YthmhalcloogniaaGreatDoorT5
import Derived.Test.YthmhalcloogniaaGreatDoorT20
namespace Go.Dm
open Go Go.RowKit

end Go.Dm
namespace Go.Proofs.YthmhalcloogniaaGreatDoor
open Go.RowKit Go.Dm

end Go.Proofs.YthmhalcloogniaaGreatDoor

namespace Go.Dm
open Go Go.RowKit
theorem Pairs.drop {w : World} {xs : List PairS} {p cap} (h : Pairs w (.slice p xs.length cap) xs) {k : Nat} (hk : k ≤ xs.length) : Pairs w (dropV p xs.length cap k 2) (xs.drop k) := by
  have := Sl.drop h hk
  have e : (pairCells xs).drop (k * 2) = pairCells (xs.drop k) := by
    clear this h
    induction k generalizing xs with
    | zero => simp
    | succ k ih =>
      cases xs with
      | nil => simp at hk
      | cons x xs =>
        have := ih (xs := xs) (by simpa using hk)
        rw [List.drop_succ_cons, ← this]
        rw [show (k + 1) * 2 = k * 2 + 1 + 1 by omega]
        rfl
  rw [e] at this
  show Sl w 2 _ (xs.drop k).length _
  rw [List.length_drop]
  exact this
end Go.Dm
namespace Go.Proofs.YthmhalcloogniaaGreatDoor
open Go.RowKit Go.Dm

end Go.Proofs.YthmhalcloogniaaGreatDoor

namespace Go.Dm
open Go Go.RowKit

end Go.Dm
namespace Go.Proofs.YthmhalcloogniaaGreatDoor
open Go.RowKit Go.Dm

end Go.Proofs.YthmhalcloogniaaGreatDoor

namespace Go.Proofs.YthmhalcloogniaaGreatDoor
open Go.RowKit Go.Dm

set_option maxHeartbeats 2000000 in
theorem tright_w (key : ByteArray) (no : Bool) (vals : List ByteArray) (v : Value) (w : World) (hf : FitT (key, no, vals)) (hx : Strs w v vals) (ht : Tabs w) :
    Calls Tryz.prog 73 #[.agg #[.string key, .bool no, v]] w fun e w' => e = .returned (.bool (rightT (key, no, vals))) ∧ Ext w w' := by
  have hW : Ext w (w.alloc (.cells #[.string key, .bool no, v] 115)) := (Ext.refl _).alloc _
  obtain ⟨q, cap, rfl, hcap, hcm⟩ := hx.shape
  have hbad := fun k (hk : k < vals.length) h => rightT_bad (t := (key, no, vals)) hk h
  have hall := rightT_all (t := (key, no, vals))
  obtain ⟨hf1, hf2, hf3⟩ := hf
  simp only at hbad hall hf1 hf2 hf3
  have CK := fun U (hU : Ext w U) => right_fit key U hf1 (ht.ext hU)
  replace hall := fun h => (hall h).trans (show (rightL (bS key) && decide (vals.length ≤ 4)) = (rightL key.data.toList && decide (vals.length ≤ 4)) from rfl)
  generalize rightT (key, no, vals) = d at *
  generalize rightL key.data.toList = rk at CK hall
  replace hbad := Lib.hid hbad
  replace hall := Lib.hid hall
  replace CK := Lib.hid CK
  go_enter Tryz.func73, Tryz.ntmps73
  go_wp2
  generalize hW0 : w.alloc (.cells #[.string key, .bool no, .slice q vals.length cap] 115) = W at *
  have g := (Ext.box (w := w) (cs := #[.string key, .bool no, .slice q vals.length cap]) (e := 115) (Ext.refl _))
  rw [hW0] at g
  clear hW0
  obtain ⟨gs, g⟩ := g
  have g0 := g 0 _ rfl
  have g1 := g 1 _ rfl
  have g2 := g 2 _ rfl
  clear g
  have gsz : w.heap.size < W.heap.size := gs
  go_loopw [8] (fun i' wr => ∃ k : Nat, k ≤ vals.length ∧ i' = .int .i64 k ∧ Ext W wr ∧ Hid (∀ j, j < k → okVal vals j = true)) (fun i' _ => vals.length - (intOf i').toNat)
  case atStart => exact ⟨0, by omega, rfl, Ext.refl _, fun j hj => by omega⟩
  case round =>
    obtain ⟨k, hk, rfl, hb, HN⟩ := hrel
    have er := hW.trans hb
    have gr : w.heap.size < wr.heap.size := Nat.lt_of_lt_of_le gs hb.size
    have k0 : wr.cell? ⟨w.heap.size, 0, none⟩ = some (.string key) := by rw [hb.cell (by exact gs)]; exact g0
    have k2 : wr.cell? ⟨w.heap.size, 2, none⟩ = some (.slice q vals.length cap) := by rw [hb.cell (by exact gs)]; exact g2
    by_cases hlt : k < vals.length
    · obtain ⟨b, off, rfl, hbl, c0⟩ := (hx.ext er).at hlt
      have hfk := hf3 _ (strAt_mem hlt)
      have C := right_fit (strAt vals k) wr hfk (ht.ext er)
      have hB := hbad.out k hlt
      have hG : okVal vals k = true → Hid (∀ j, j < k + 1 → okVal vals j = true) := fun h j hj => by
        rcases Nat.lt_succ_iff_lt_or_eq.1 hj with h' | rfl
        · exact HN.out j h'
        · exact h
      have hok : ∀ c1 c2, rightL (strAt vals k).data.toList = c1 → (k == 0 || !leB (bS (strAt vals k)) (bS (strAt vals (k - 1)))) = c2 → okVal vals k = (c1 && c2) := by
        intro c1 c2 e1 e2
        unfold okVal
        rw [← e1, ← e2]; rfl
      cases h1 : rightL (strAt vals k).data.toList with
      | false =>
        have hd := hB (hok _ _ h1 rfl)
        subst hd
        rw [h1] at C
        clear h1 hok hG hB
        go_wp2_with fail
        refine C.mono ?_; rintro e w1 ⟨rfl, hh1⟩
        go_wp2
        go_ret
        exact ⟨rfl, er.trans hh1⟩
      | true =>
        rw [h1] at C
        by_cases h0 : k = 0
        · subst h0
          have hg := hG (hok _ true h1 rfl)
          rw [Nat.add_zero] at c0
          clear h1 hok hG hB
          go_wp2_with fail
          refine C.mono ?_; rintro e w1 ⟨rfl, hh1⟩
          go_wp2
          go_roundw
          case rel => exact ⟨1, by omega, rfl, hb.trans hh1, hg⟩
          case measure => simp [intOf]; omega
        · obtain ⟨j, rfl⟩ : ∃ j, k = j + 1 := ⟨k - 1, by omega⟩
          obtain ⟨_, d0⟩ := (hx.ext er).cells (k := j) (by omega)
          have hle : ∀ c c', Op.bytesLess (strAt vals (j + 1)).toList (strAt vals j).toList = c → ((strAt vals (j + 1)).toList == (strAt vals j).toList) = c' → (j + 1 == 0 || !leB (bS (strAt vals (j + 1))) (bS (strAt vals (j + 1 - 1)))) = !(c || c') := by
            intro c c' e1 e2
            rw [ByteArray.toList_eq, ByteArray.toList_eq] at e1 e2
            rw [← e1, ← e2]
            rfl
          cases q1 : Op.bytesLess (strAt vals (j + 1)).toList (strAt vals j).toList with
          | true =>
            have hd := hB (hok _ _ h1 (hle _ _ q1 rfl))
            subst hd
            clear h1 hok hG hB hle
            go_wp2_with fail
            refine C.mono ?_; rintro e w1 ⟨rfl, hh1⟩
            have k2' : w1.cell? ⟨w.heap.size, 2, none⟩ = some (.slice (some ⟨b, off, none⟩) vals.length cap) := by rw [hh1.cell (by exact gr)]; exact k2
            have d0' : w1.cell? ⟨b, off + j, none⟩ = some (.string (strAt vals j)) := by rw [hh1.cell (by exact hbl)]; exact d0
            have gr' := Nat.lt_of_lt_of_le gr hh1.size
            have hbl' := Nat.lt_of_lt_of_le hbl hh1.size
            go_wp2
            go_ret
            exact ⟨rfl, er.trans hh1⟩
          | false =>
            cases q2 : ((strAt vals (j + 1)).toList == (strAt vals j).toList) with
            | true =>
              have hd := hB (hok _ _ h1 (hle _ _ q1 q2))
              subst hd
              clear h1 hok hG hB hle
              go_wp2_with fail
              refine C.mono ?_; rintro e w1 ⟨rfl, hh1⟩
              have k2' : w1.cell? ⟨w.heap.size, 2, none⟩ = some (.slice (some ⟨b, off, none⟩) vals.length cap) := by rw [hh1.cell (by exact gr)]; exact k2
              have d0' : w1.cell? ⟨b, off + j, none⟩ = some (.string (strAt vals j)) := by rw [hh1.cell (by exact hbl)]; exact d0
              have gr' := Nat.lt_of_lt_of_le gr hh1.size
              have hbl' := Nat.lt_of_lt_of_le hbl hh1.size
              go_wp2
              go_ret
              exact ⟨rfl, er.trans hh1⟩
            | false =>
              have hg := hG (hok _ _ h1 (hle _ _ q1 q2))
              clear h1 hok hG hB hle
              go_wp2_with fail
              refine C.mono ?_; rintro e w1 ⟨rfl, hh1⟩
              have k2' : w1.cell? ⟨w.heap.size, 2, none⟩ = some (.slice (some ⟨b, off, none⟩) vals.length cap) := by rw [hh1.cell (by exact gr)]; exact k2
              have d0' : w1.cell? ⟨b, off + j, none⟩ = some (.string (strAt vals j)) := by rw [hh1.cell (by exact hbl)]; exact d0
              have gr' := Nat.lt_of_lt_of_le gr hh1.size
              have hbl' := Nat.lt_of_lt_of_le hbl hh1.size
              go_wp2
              go_roundw
              case rel => exact ⟨j + 1 + 1, by omega, by go_num, hb.trans hh1, hg⟩
              case measure => simp [intOf]; omega
    · obtain rfl : k = vals.length := by omega
      have hd := hall.out HN.out
      have C := CK.out wr er
      cases rk with
      | false =>
        rw [Bool.false_and] at hd
        subst hd
        go_wp2_with fail
        refine C.mono ?_; rintro e w1 ⟨rfl, hh1⟩
        go_wp2
        go_ret
        exact ⟨rfl, er.trans hh1⟩
      | true =>
        rw [Bool.true_and] at hd
        have hd' : d = decide ((vals.length : Int) ≤ 4) := by rw [hd]; exact decide_eq_decide.2 (by omega)
        clear hd
        replace hd' := Lib.hid hd'
        go_wp2_with fail
        refine C.mono ?_; rintro e w1 ⟨rfl, hh1⟩
        have k2' : w1.cell? ⟨w.heap.size, 2, none⟩ = some (.slice q vals.length cap) := by rw [hh1.cell (by exact gr)]; exact k2
        have gr' := Nat.lt_of_lt_of_le gr hh1.size
        go_wp2
        go_ret
        exact ⟨by rw [hd'.out]; rfl, er.trans hh1⟩

set_option maxHeartbeats 400000 in
theorem right1_w (r : RowS) (w : World) (hf : FitT (rowT r)) (hx : Strs w r.2.2.1 r.2.2.2) (ht : Tabs w) :
    Calls Tryz.prog 72 #[.agg #[.string r.1, .bool r.2.1, r.2.2.1]] w fun e w' => e = .returned (.bool (!rightT (rowT r))) ∧ Ext w w' := by
  obtain ⟨key, no, v, vals⟩ := r
  have hW : Ext w (w.alloc (.cells #[.string key, .bool no, v] 115)) := (Ext.refl _).alloc _
  have C := tright_w key no vals v _ hf (hx.ext hW) (ht.ext hW)
  show Calls Tryz.prog 72 #[.agg #[.string key, .bool no, v]] w fun e w' => e = .returned (.bool (!rightT (key, no, vals))) ∧ Ext w w'
  generalize rightT (key, no, vals) = d at C
  go_enter Tryz.func72, Tryz.ntmps72
  go_wp2_with fail
  refine C.mono ?_; rintro e w1 ⟨rfl, h1⟩
  go_wp2
  go_ret
  exact ⟨rfl, hW.trans h1⟩

set_option maxHeartbeats 1000000 in
theorem indexR_w (R : List RowS) (v : Value) (w : World) (hm : R.length ≤ 35184372088832) (hf : FitR R) (hx : Terms w v R) (ht : Tabs w) :
    Calls Tryz.prog 106 #[v, .func (.func 72) #[] #[]] w
      fun e w' => ∃ i : Int, e = .returned (.int .i64 i) ∧ decide (0 ≤ i) = !(R.map rowT).all rightT ∧ Ext w w' := by
  obtain ⟨q, cap, rfl, _, _⟩ := hx.shape
  have hhit := fun k (hk : k < R.length) h => allR_hit hk h
  have hmiss := allR_miss (R := R)
  generalize (R.map rowT).all rightT = d at *
  replace hhit := Lib.hid hhit
  replace hmiss := Lib.hid hmiss
  go_enter Tryz.func106, Tryz.ntmps106
  go_wp2
  go_loopw [4, 8] (fun z i wr => ∃ k : Nat, k ≤ R.length ∧ i = .int .i64 k ∧ z = .int .i64 0 ∧ Ext w wr ∧ Hid (∀ j, j < k → rightT (rowT (sAtR R j)) = true)) (fun _ i _ => R.length - (intOf i).toNat)
  case atStart => exact ⟨0, by omega, rfl, rfl, Ext.refl w, fun j hj => by omega⟩
  case round =>
    obtain ⟨k, hk, rfl, rfl, hb, HN⟩ := hrel
    by_cases hlt : k < R.length
    · obtain ⟨b, off, rfl, hbl, c0, c1, c2⟩ := (hx.ext hb).at hlt
      have C := right1_w (sAtR R k) wr (hf _ (sAtR_mem hlt)) ((hx.ext hb).val hlt) (ht.ext hb)
      have hH := hhit.out k hlt
      have hN2 : rightT (rowT (sAtR R k)) = true → Hid (∀ j, j < k + 1 → rightT (rowT (sAtR R j)) = true) := fun h j hj => by
        rcases Nat.lt_succ_iff_lt_or_eq.1 hj with h' | rfl
        · exact HN.out j h'
        · exact h
      generalize rightT (rowT (sAtR R k)) = t at C hH hN2
      generalize sAtR R k = r at *
      cases t with
      | false =>
        have hd := hH rfl
        subst hd
        clear hH hN2
        go_wp2_with fail
        refine C.mono ?_; rintro e w1 ⟨rfl, h1⟩
        go_wp2
        go_ret
        exact ⟨_, rfl, by first | omega | simp, hb.trans h1⟩
      | true =>
        replace hN2 := hN2 rfl
        clear hH
        go_wp2_with fail
        refine C.mono ?_; rintro e w1 ⟨rfl, h1⟩
        go_wp2
        go_roundw
        case rel => exact ⟨k + 1, by omega, by go_num, rfl, hb.trans h1, hN2⟩
        case measure => simp [intOf]; omega
    · obtain rfl : k = R.length := by omega
      have hd := hmiss.out HN.out
      subst hd
      go_wp2
      go_ret
      exact ⟨-1, rfl, by first | omega | simp, hb⟩

set_option maxHeartbeats 400000 in
theorem containsR_w (R : List RowS) (v : Value) (w : World) (hm : R.length ≤ 35184372088832) (hf : FitR R) (hx : Terms w v R) (ht : Tabs w) :
    Calls Tryz.prog 71 #[v, .func (.func 72) #[] #[]] w
      fun e w' => e = .returned (.bool (!(R.map rowT).all rightT)) ∧ Ext w w' := by
  have C := indexR_w R v w hm hf hx ht
  generalize (R.map rowT).all rightT = d at C
  go_enter Tryz.func71, Tryz.ntmps71
  go_wp2_with fail
  refine C.mono ?_; rintro e w1 ⟨i, rfl, hi, h1⟩
  go_wp2
  go_ret
  exact ⟨by rw [← hi]; rfl, h1⟩

set_option maxHeartbeats 400000 in
theorem sright_w (R : List RowS) (v : Value) (w : World) (hm : R.length ≤ 35184372088832) (hf : FitR R) (hx : Terms w v R) (ht : Tabs w) :
    Calls Tryz.prog 28 #[v] w fun e w' => e = .returned (.bool (rightS (R.map rowT))) ∧ Ext w w' := by
  obtain ⟨q, cap, rfl, _, _⟩ := hx.shape
  have C := containsR_w R _ w hm hf hx ht
  have hr : rightS (R.map rowT) = (decide (R.length ≤ 4) && (R.map rowT).all rightT) := by unfold rightS; rw [List.length_map]
  rw [hr]
  clear hr
  generalize (R.map rowT).all rightT = d at *
  by_cases h4 : R.length ≤ 4
  · rw [decide_eq_true h4, Bool.true_and]
    go_enter Tryz.func28, Tryz.ntmps28
    go_wp2_with fail
    refine C.mono ?_; rintro e w1 ⟨rfl, h1⟩
    go_wp2
    go_ret
    exact ⟨by simp, h1⟩
  · rw [decide_eq_false h4, Bool.false_and]
    clear C
    have h4' : decide ((R.length : Int) ≤ 4) = false := decide_eq_false (by omega)
    go_enter Tryz.func28, Tryz.ntmps28
    go_wp2
    go_ret
    exact ⟨rfl, Ext.refl _⟩

end Go.Proofs.YthmhalcloogniaaGreatDoor

namespace Go.Dm
open Go Go.RowKit
theorem textB32s {t : ByteArray} (h : t.size ≤ 32) : (textB t).size ≤ 42 := by
  rw [size_len]
  have := putL_ten (u := t.data.toList.length) (Nat.lt_of_le_of_lt (show t.data.toList.length ≤ 32 from h) (by decide))
  show (putT t.data.toList).length ≤ 42
  rw [putT, List.length_append]
  have h2 : t.data.toList.length = t.size := rfl
  omega
/-- A term whose texts are short. -/
def ShortT (t : TermS) : Prop := t.1.size ≤ 32 ∧ t.2.2.length ≤ 4 ∧ ∀ x ∈ t.2.2, x.size ≤ 32
def putTmB (t : TermS) : ByteArray := ⟨(putTm t).toArray⟩
theorem putVals_short : ∀ {vs : List ByteArray}, (∀ x ∈ vs, x.size ≤ 32) → (putVals vs).length ≤ 42 * vs.length
  | [], _ => by simp [putVals]
  | x :: vs, h => by
    have h1 := textB32s (h x (by simp))
    have ih := putVals_short (vs := vs) (fun y hy => h y (List.mem_cons_of_mem _ hy))
    have e : putVals (x :: vs) = putT (bS x) ++ putVals vs := by simp [putVals]
    have e2 : (textB x).size = (putT (bS x)).length := by rw [size_len]; rfl
    rw [e, List.length_append, List.length_cons]; omega
theorem putTmB_short {t : TermS} (h : ShortT t) : (putTmB t).size ≤ 220 := by
  obtain ⟨h1, h2, h3⟩ := h
  have a1 := textB32s h1
  have e2 : (textB t.1).size = (putT (bS t.1)).length := by rw [size_len]; rfl
  have a2 := putVals_short h3
  have a3 := putL_ten (u := numT t) (show numT t < 18446744073709551616 by unfold numT; split <;> omega)
  rw [size_len]
  show (putTm t).length ≤ 220
  unfold putTm
  rw [List.length_append, List.length_append]
  omega
end Go.Dm
namespace Go.Proofs.YthmhalcloogniaaGreatDoor
open Go.RowKit Go.Dm

set_option maxHeartbeats 2000000 in
set_option maxRecDepth 100000 in
theorem tput_w (key : ByteArray) (no : Bool) (vals : List ByteArray) (v : Value) (w : World) (hf : ShortT (key, no, vals)) (hx : Strs w v vals) :
    Calls Tryz.prog 96 #[.agg #[.string key, .bool no, v]] w fun e w' => e = .returned (.string (putTmB (key, no, vals))) ∧ Ext w w' := by
  have hW : Ext w (w.alloc (.cells #[.string key, .bool no, v] 115)) := (Ext.refl _).alloc _
  obtain ⟨q, cap, rfl, hcap, hcm⟩ := hx.shape
  obtain ⟨hf1, hf2, hf3⟩ := hf
  simp only at hf1 hf2 hf3
  have CK := fun U => puttext_w key U (by omega)
  have sK := textB32s hf1
  obtain ⟨N, hN⟩ : ∃ N : Nat, N = numT (key, no, vals) := ⟨_, rfl⟩
  have hNu : U64 N := by rw [hN]; show numT _ < 18446744073709551616; unfold numT; split <;> simp only <;> omega
  have CN := fun U => put_w N U hNu
  have sN : (⟨(putL N).toArray⟩ : ByteArray).size ≤ 10 := by rw [size_len]; exact putL_ten hNu
  have hst0 : Hid ((textB key ++ ⟨(putL N).toArray⟩).data.toList = (putT (bS key) ++ putL (numT (key, no, vals))) ++ putVals (vals.take 0)) := by
    show _ = _
    rw [data_append, ← hN]; simp [putVals, textB, bS]
  have hfin : Hid (∀ b : ByteArray, b.data.toList = (putT (bS key) ++ putL (numT (key, no, vals))) ++ putVals vals → b = putTmB (key, no, vals)) := fun b h => mk_bytes h
  have hNI : (N : Int) = if no then 2 * (vals.length : Int) + 1 else 2 * (vals.length : Int) := by
    rw [hN]; unfold numT; cases no <;> simp
  replace CK : ∀ U, Calls Tryz.prog 55 #[.string key] U fun e w' => e = .returned (.string (textB key)) ∧ Ext U w' := CK
  rw [hNI] at CN
  generalize numT (key, no, vals) = M at *
  generalize (⟨(putL N).toArray⟩ : ByteArray) = tn at *
  generalize textB key = tk at *
  replace CK := Lib.hid CK
  clear hN hNI hNu
  cases no
  all_goals
    simp only [Bool.false_eq_true, if_false, if_true] at CN
    replace CN := Lib.hid CN
    go_enter Tryz.func96, Tryz.ntmps96
    go_wp2_with fail
    refine (CK.out _).mono ?_; rintro e w1 ⟨rfl, h1⟩
    obtain ⟨gs, g⟩ := h1.box
    have g2 := g 2 _ rfl
    clear g
    go_wp2_with fail
    refine (CN.out _).mono ?_; rintro e w2 ⟨rfl, h2⟩
    have gs2 := Nat.lt_of_lt_of_le gs h2.size
    have g2' : w2.cell? ⟨w.heap.size, 2, none⟩ = some (.slice q vals.length cap) := by rw [h2.cell (by exact gs)]; exact g2
    have e2 := hW.trans (h1.trans h2)
    clear CK CN
    go_wp2
    go_loopw [4, 25] (fun s' i' wr => ∃ (k : Nat) (b : ByteArray), k ≤ vals.length ∧ i' = .int .i64 k ∧ s' = .string b ∧ b.size ≤ 52 + k * 42 ∧ Ext w2 wr ∧ Hid (b.data.toList = (putT (bS key) ++ putL M) ++ putVals (vals.take k))) (fun _ i' _ => vals.length - (intOf i').toNat)
    case atStart => exact ⟨0, _, by omega, rfl, rfl, by rw [ByteArray.size_append]; omega, Ext.refl _, hst0⟩
    case round =>
      obtain ⟨k, b, hk, rfl, rfl, hbs, hb, HB⟩ := hrel
      have er := e2.trans hb
      by_cases hlt : k < vals.length
      · obtain ⟨bb, off, rfl, hbl, c0⟩ := (hx.ext er).at hlt
        have s1 := hf3 _ (strAt_mem hlt)
        have s2 := textB32s s1
        have C : Calls Tryz.prog 55 #[.string (strAt vals k)] wr fun e w' => e = .returned (.string (textB (strAt vals k))) ∧ Ext wr w' := puttext_w _ wr (by omega)
        have hst : Hid ((b ++ textB (strAt vals k)).data.toList = (putT (bS key) ++ putL M) ++ putVals (vals.take (k + 1))) := by
          show _ = _
          rw [data_append, HB.out, putVals_step hlt, List.append_assoc]; rfl
        generalize textB (strAt vals k) = t1 at *
        go_wp2_with fail
        refine C.mono ?_; rintro e w3 ⟨rfl, h3⟩
        go_wp2
        go_roundw
        case rel => exact ⟨k + 1, _, by omega, by go_num, rfl, by rw [ByteArray.size_append]; omega, hb.trans h3, hst⟩
        case measure => simp [intOf]; omega
      · obtain rfl : k = vals.length := by omega
        have h := HB.out
        rw [List.take_length] at h
        have hz := Lib.hid (hfin.out b h)
        clear h
        go_wp2
        go_ret
        exact ⟨by rw [← hz.out]; rfl, er⟩

set_option maxHeartbeats 2000000 in
set_option maxRecDepth 100000 in
theorem sput_w (R : List RowS) (v : Value) (w : World) (hm : R.length ≤ 35184372088832) (hf : FitR R) (hx : Terms w v R) (ht : Tabs w) :
    Calls Tryz.prog 58 #[v] w fun e w' => e = .returned (.string ⟨(putS (R.map rowT)).toArray⟩) ∧ Ext w w' := by
  obtain ⟨q, cap, rfl, hcap, hcm⟩ := hx.shape
  have C := sright_w R _ w hm hf hx ht
  cases hR : rightS (R.map rowT) with
  | false =>
    have hz : Hid (putS (R.map rowT) = []) := by show _ = _; unfold putS; rw [hR]; rfl
    rw [hR] at C
    clear hR
    go_enter Tryz.func58, Tryz.ntmps58
    go_wp2_with fail
    refine C.mono ?_; rintro e w1 ⟨rfl, h1⟩
    go_wp2
    go_ret
    exact ⟨by rw [hz.out]; rfl, h1⟩
  | true =>
    have hz : Hid (putS (R.map rowT) = putL R.length ++ putTms (R.map rowT)) := by show _ = _; unfold putS; rw [hR, List.length_map]; rfl
    have h4 : R.length ≤ 4 := by have := (rightS_iff.1 hR).1; rwa [List.length_map] at this
    have hsh : Hid (∀ k, k < R.length → ShortT (rowT (sAtR R k))) := fun k hk => rightT_sizes ((rightS_iff.1 hR).2 _ (List.mem_map_of_mem (sAtR_mem hk)))
    have hU : U64 R.length := show R.length < _ by omega
    have hpl := putL_ten hU
    rw [hR] at C
    clear hR
    go_enter Tryz.func58, Tryz.ntmps58
    go_wp2_with fail
    refine C.mono ?_; rintro e w1 ⟨rfl, h1⟩
    clear C
    go_wp2_with fail
    refine (put_w R.length w1 hU).mono ?_; rintro e w2 ⟨rfl, h2⟩
    have e2 := h1.trans h2
    go_wp2
    go_loopw [3, 15] (fun s' i' wr => ∃ (k : Nat) (b : ByteArray), k ≤ R.length ∧ i' = .int .i64 k ∧ s' = .string b ∧ b.size ≤ 10 + k * 220 ∧ Ext w2 wr ∧ Hid (b.data.toList = putL R.length ++ putTms ((R.take k).map rowT))) (fun _ i' _ => R.length - (intOf i').toNat)
    case atStart => exact ⟨0, ⟨(putL R.length).toArray⟩, by omega, rfl, rfl, by rw [size_len]; exact hpl, Ext.refl _, by show _ = _; simp [putTms]⟩
    case round =>
      obtain ⟨k, b, hk, rfl, rfl, hbs, hb, HB⟩ := hrel
      have er := e2.trans hb
      by_cases hlt : k < R.length
      · obtain ⟨bb, off, rfl, hbl, c0, c1, c2⟩ := (hx.ext er).at hlt
        have vx := (hx.ext er).val hlt
        have hs := hsh.out k hlt
        have hst : Hid ((b ++ putTmB (rowT (sAtR R k))).data.toList = putL R.length ++ putTms ((R.take (k + 1)).map rowT)) := by
          show _ = _
          rw [data_append, HB.out, rowT_take hlt, putTms_step, List.append_assoc]; rfl
        have ss := putTmB_short hs
        generalize sAtR R k = r at *
        obtain ⟨k1, n1, v1, vals1⟩ := r
        have vx : Strs wr v1 vals1 := vx
        simp only at c0 c1 c2
        obtain ⟨q3, cap3, rfl, _, _⟩ := vx.shape
        have hW := (Ext.refl wr).alloc (.cells #[.string k1, .bool n1, .slice q3 vals1.length cap3] 115)
        have C : Calls Tryz.prog 96 #[.agg #[.string k1, .bool n1, .slice q3 vals1.length cap3]] (wr.alloc (.cells #[.string k1, .bool n1, .slice q3 vals1.length cap3] 115)) fun e w' => e = .returned (.string (putTmB (rowT (k1, n1, .slice q3 vals1.length cap3, vals1)))) ∧ Ext (wr.alloc (.cells #[.string k1, .bool n1, .slice q3 vals1.length cap3] 115)) w' := tput_w k1 n1 vals1 _ _ hs (vx.ext hW)
        generalize putTmB (rowT (k1, n1, .slice q3 vals1.length cap3, vals1)) = t1 at *
        go_wp2_with fail
        refine C.mono ?_; rintro e w3 ⟨rfl, h3⟩
        go_wp2
        go_roundw
        case rel => exact ⟨k + 1, _, by omega, by go_num, rfl, by rw [ByteArray.size_append]; omega, hb.trans (hW.trans h3), hst⟩
        case measure => simp [intOf]; omega
      · obtain rfl : k = R.length := by omega
        have h := HB.out
        rw [List.take_length, ← hz.out] at h
        have hz' := Lib.hid (mk_bytes h)
        clear h
        go_wp2
        go_ret
        exact ⟨by rw [← hz'.out]; rfl, er⟩

end Go.Proofs.YthmhalcloogniaaGreatDoor

namespace Go.Dm
open Go Go.RowKit
def textTmB (t : TermS) : ByteArray := ⟨(textTm t).toArray⟩
theorem joinB_short {vs : List ByteArray} {c : UInt8} (h : ∀ x ∈ vs, x.size ≤ 32) : (joinB vs c).length ≤ 33 * vs.length := by
  have := join_len (c := c) (n := 32) (xs := vs.map (·.data.toList)) (fun x hx => by
    obtain ⟨y, hy, rfl⟩ := List.mem_map.1 hx
    exact h y hy)
  rw [List.length_map] at this
  exact this
theorem textTmB_short {t : TermS} (h : ShortT t) : (textTmB t).size ≤ 170 := by
  obtain ⟨h1, h2, h3⟩ := h
  have a2 := joinB_short (c := 124) h3
  have e : (bS t.1).length = t.1.size := rfl
  rw [size_len]
  show (textTm t).length ≤ 170
  unfold textTm
  split
  · split
    · simp only [List.length_cons]; omega
    · omega
  · split <;> simp only [List.length_append, List.length_cons] <;> omega
end Go.Dm
namespace Go.Proofs.YthmhalcloogniaaGreatDoor
open Go.RowKit Go.Dm

theorem join_w (vs : List ByteArray) (c : UInt8) (v : Value) (w : World) (hx : Strs w v vs) (h0 : vs ≠ []) (hl : vs.length ≤ 35184372088832) (hj : (joinB vs c).length ≤ 140737488355328) :
    Calls Tryz.prog 66 #[v, .string ⟨#[c]⟩] w fun e w' => e = .returned (.string ⟨(joinB vs c).toArray⟩) ∧ Ext w w' := by
  obtain ⟨q, cap, rfl, hc, hm⟩ := hx.shape
  have hn : 0 < vs.length := List.length_pos_iff.2 h0
  obtain ⟨bb, off, rfl, hbl, _⟩ := hx.at (k := 0) hn
  exact Tryz.strings_Join bb off cap vs ⟨#[c]⟩ w (fun j x hj => by
    obtain ⟨hjl, _⟩ := List.getElem?_eq_some_iff.1 hj
    have := (hx.cells hjl).2
    rw [this]
    simp [strAt, hj]) hbl (by omega) hc hj

theorem assert_present (w : World) : (Instr.typeAssert (.iface 191 (.agg #[])) 170 167 true).run Tryz.prog w = .ok (.tuple #[.slice none 0 0, .bool false]) w := by kernel_rfl
theorem assert_oneOf (a : Option Addr) (n c : Nat) (w : World) : (Instr.typeAssert (.iface 167 (.slice a n c)) 170 167 true).run Tryz.prog w = .ok (.tuple #[.slice a n c, .bool true]) w := by kernel_rfl

set_option maxHeartbeats 2000000 in
set_option maxRecDepth 100000 in
theorem ttext_w (key : ByteArray) (no : Bool) (vals : List ByteArray) (v : Value) (w : World) (hf : ShortT (key, no, vals)) (hx : Strs w v vals) :
    Calls Tryz.prog 99 #[.agg #[.string key, .bool no, v]] w fun e w' => e = .returned (.string (textTmB (key, no, vals))) ∧ Ext w w' := by
  have aP := assert_present
  have aO := assert_oneOf
  have hW : Ext w (w.alloc (.cells #[.string key, .bool no, v] 115)) := (Ext.refl _).alloc _
  obtain ⟨q, cap, rfl, hcap, hcm⟩ := hx.shape
  obtain ⟨hf1, hf2, hf3⟩ := hf
  simp only at hf1 hf2 hf3
  have CR := rule_w key no vals _ _ (hx.ext hW)
  cases hvs : vals.isEmpty with
  | true =>
    obtain rfl := List.isEmpty_iff.1 hvs
    have CR : Calls Tryz.prog 128 #[.agg #[.string key, .bool no, .slice q 0 cap]] (w.alloc (.cells #[.string key, .bool no, .slice q 0 cap] 115)) fun e w' => e = .returned (.iface 191 (.agg #[])) ∧ Ext (w.alloc (.cells #[.string key, .bool no, .slice q 0 cap] 115)) w' := CR
    cases no with
    | true =>
      have hz : Hid (textTmB (key, true, []) = (⟨#[33]⟩ : ByteArray) ++ key) := (mk_bytes (by rw [data_append]; rfl)).symm
      have s1 : (⟨#[33]⟩ : ByteArray).size = 1 := rfl
      go_enter Tryz.func99, Tryz.ntmps99
      go_wp2_with fail
      refine CR.mono ?_; rintro e w1 ⟨rfl, h1⟩
      obtain ⟨gs, g⟩ := h1.box
      have g0 := g 0 _ rfl
      have g1 := g 1 _ rfl
      clear g
      go_wp2
      go_ret
      exact ⟨by rw [hz.out]; rfl, hW.trans h1⟩
    | false =>
      have hz : Hid (textTmB (key, false, []) = key) := (mk_bytes rfl).symm
      go_enter Tryz.func99, Tryz.ntmps99
      go_wp2_with fail
      refine CR.mono ?_; rintro e w1 ⟨rfl, h1⟩
      obtain ⟨gs, g⟩ := h1.box
      have g0 := g 0 _ rfl
      have g1 := g 1 _ rfl
      clear g
      go_wp2
      go_ret
      exact ⟨by rw [hz.out]; rfl, hW.trans h1⟩
  | false =>
    rw [hvs] at CR
    have CR : Calls Tryz.prog 128 #[.agg #[.string key, .bool no, .slice q vals.length cap]] (w.alloc (.cells #[.string key, .bool no, .slice q vals.length cap] 115)) fun e w' => e = .returned (.iface 167 (.slice q vals.length cap)) ∧ Ext (w.alloc (.cells #[.string key, .bool no, .slice q vals.length cap] 115)) w' := CR
    have hne : vals ≠ [] := fun e => by rw [e] at hvs; cases hvs
    have hjs := joinB_short (c := 124) hf3
    have CJ := fun U (hU : Ext w U) => join_w vals 124 _ U (hx.ext hU) hne (by omega) (by omega)
    have hz : Hid (textTmB (key, no, vals) = if no then ((key ++ (⟨#[33]⟩ : ByteArray)) ++ (⟨#[61]⟩ : ByteArray)) ++ ⟨(joinB vals 124).toArray⟩ else (key ++ (⟨#[61]⟩ : ByteArray)) ++ ⟨(joinB vals 124).toArray⟩) := by
      show _ = _
      cases no
      · refine (mk_bytes ?_).symm
        rw [if_neg (by decide)]
        simp only [data_append]
        show _ = textTm (key, false, vals)
        unfold textTm
        simp only [hvs]
        simp [bS]
      · refine (mk_bytes ?_).symm
        rw [if_pos rfl]
        simp only [data_append]
        show _ = textTm (key, true, vals)
        unfold textTm
        simp only [hvs]
        simp [bS]
    have sj : (⟨(joinB vals 124).toArray⟩ : ByteArray).size ≤ 132 := by rw [size_len]; show (joinB vals 124).length ≤ 132; omega
    generalize (⟨(joinB vals 124).toArray⟩ : ByteArray) = J at *
    have s1 : (⟨#[33]⟩ : ByteArray).size = 1 := rfl
    have s2 : (⟨#[61]⟩ : ByteArray).size = 1 := rfl
    have z1 : (key ++ (⟨#[33]⟩ : ByteArray)).size ≤ 33 := by rw [ByteArray.size_append]; omega
    have z2 : ((key ++ (⟨#[33]⟩ : ByteArray)) ++ (⟨#[61]⟩ : ByteArray)).size ≤ 34 := by rw [ByteArray.size_append, ByteArray.size_append]; omega
    have z3 : (key ++ (⟨#[61]⟩ : ByteArray)).size ≤ 33 := by rw [ByteArray.size_append]; omega
    replace CJ := Lib.hid CJ
    clear hjs hvs hne s1 s2
    cases no with
    | true =>
      go_enter Tryz.func99, Tryz.ntmps99
      go_wp2_with fail
      refine CR.mono ?_; rintro e w1 ⟨rfl, h1⟩
      obtain ⟨gs, g⟩ := h1.box
      have g0 := g 0 _ rfl
      have g1 := g 1 _ rfl
      clear g
      have e1 := hW.trans h1
      have CJ := Lib.hid (fun U (hU : Ext w1 U) => CJ.out U (e1.trans hU))
      go_wp2_with fail
      refine Dm.wp_region_grow (by kernel_rfl) (by kernel_rfl) ?_
      repeat (go_big_quiet_step (first
        | (go_at_call 66; with_reducible exact Calls.quietE (CJ.out _ (ext_grow _ _)))))
      refine wpQuiet_nil ?_
      intro U hU
      go_wp2
      go_ret
      exact ⟨by rw [hz.out]; rfl, e1.trans hU⟩
    | false =>
      go_enter Tryz.func99, Tryz.ntmps99
      go_wp2_with fail
      refine CR.mono ?_; rintro e w1 ⟨rfl, h1⟩
      obtain ⟨gs, g⟩ := h1.box
      have g0 := g 0 _ rfl
      have g1 := g 1 _ rfl
      clear g
      have e1 := hW.trans h1
      have CJ := Lib.hid (fun U (hU : Ext w1 U) => CJ.out U (e1.trans hU))
      go_wp2_with fail
      refine Dm.wp_region_grow (by kernel_rfl) (by kernel_rfl) ?_
      repeat (go_big_quiet_step (first
        | (go_at_call 66; with_reducible exact Calls.quietE (CJ.out _ (ext_grow _ _)))))
      refine wpQuiet_nil ?_
      intro U hU
      go_wp2
      go_ret
      exact ⟨by rw [hz.out]; rfl, e1.trans hU⟩

set_option maxHeartbeats 2000000 in
set_option maxRecDepth 100000 in
theorem stext_w (R : List RowS) (v : Value) (w : World) (hm : R.length ≤ 35184372088832) (hf : FitR R) (hx : Terms w v R) (ht : Tabs w) :
    Calls Tryz.prog 65 #[v] w fun e w' => e = .returned (.string ⟨(textS (R.map rowT)).toArray⟩) ∧ Ext w w' := by
  obtain ⟨q, cap, rfl, hcap, hcm⟩ := hx.shape
  have C := sright_w R _ w hm hf hx ht
  cases hR : rightS (R.map rowT) with
  | false =>
    have hz : Hid (textS (R.map rowT) = [63]) := by show _ = _; unfold textS; rw [hR]; rfl
    rw [hR] at C
    clear hR
    go_enter Tryz.func65, Tryz.ntmps65
    go_wp2_with fail
    refine C.mono ?_; rintro e w1 ⟨rfl, h1⟩
    go_wp2
    go_ret
    exact ⟨by rw [hz.out]; rfl, h1⟩
  | true =>
    have h4 : R.length ≤ 4 := by have := (rightS_iff.1 hR).1; rwa [List.length_map] at this
    have hz : Hid (textS (R.map rowT) = if R.length = 0 then [45] else joinB (R.map fun r => textTmB (rowT r)) 44) := by
      show _ = _
      unfold textS
      rw [hR, if_pos rfl]
      cases R with
      | nil => rfl
      | cons r R =>
        rw [if_neg (by simp), if_neg (by simp)]
        unfold joinB
        congr 1
        rw [List.map_map, List.map_map]
        exact List.map_congr_left fun x _ => rfl
    have hsh : Hid (∀ k, k < R.length → ShortT (rowT (sAtR R k))) := fun k hk => rightT_sizes ((rightS_iff.1 hR).2 _ (List.mem_map_of_mem (sAtR_mem hk)))
    rw [hR] at C
    clear hR
    go_enter Tryz.func65, Tryz.ntmps65
    go_wp2_with fail
    refine C.mono ?_; rintro e w1 ⟨rfl, h1⟩
    clear C
    go_wp2
    go_loopw [3, 11] (fun r i' wr => ∃ k : Nat, k ≤ R.length ∧ i' = .int .i64 k ∧ Ext w1 wr ∧ wr.ownsRow w1.heap.size 9 1 r k (((R.take k).map fun r => textTmB (rowT r)).map .string)) (fun _ i' _ => R.length - (intOf i').toNat)
    case atStart => exact ⟨0, by omega, rfl, Ext.refl _, World.ownsRow_nil _ _ _ _⟩
    case round =>
      obtain ⟨k, hk, rfl, hb, ho⟩ := hrel
      have er := h1.trans hb
      by_cases hlt : k < R.length
      · obtain ⟨bb, off, rfl, hbl, c0, c1, c2⟩ := (hx.ext er).at hlt
        have vx := (hx.ext er).val hlt
        have hs := hsh.out k hlt
        have hst : Hid ((((R.take (k + 1)).map fun r => textTmB (rowT r)).map Value.string) = (((R.take k).map fun r => textTmB (rowT r)).map Value.string) ++ [.string (textTmB (rowT (sAtR R k)))]) := by
          show _ = _
          rw [take_snocT hlt, List.map_append, List.map_append]; rfl
        generalize sAtR R k = r at *
        obtain ⟨k1, n1, v1, vals1⟩ := r
        have vx : Strs wr v1 vals1 := vx
        simp only at c0 c1 c2
        obtain ⟨q3, cap3, rfl, _, _⟩ := vx.shape
        have hW := (Ext.refl wr).alloc (.cells #[.string k1, .bool n1, .slice q3 vals1.length cap3] 115)
        have C : Calls Tryz.prog 99 #[.agg #[.string k1, .bool n1, .slice q3 vals1.length cap3]] (wr.alloc (.cells #[.string k1, .bool n1, .slice q3 vals1.length cap3] 115)) fun e w' => e = .returned (.string (textTmB (rowT (k1, n1, .slice q3 vals1.length cap3, vals1)))) ∧ Ext (wr.alloc (.cells #[.string k1, .bool n1, .slice q3 vals1.length cap3] 115)) w' := ttext_w k1 n1 vals1 _ _ hs (vx.ext hW)
        generalize textTmB (rowT (k1, n1, .slice q3 vals1.length cap3, vals1)) = t1 at *
        go_wp2_with fail
        refine C.mono ?_; rintro e w3 ⟨rfl, h3⟩
        have hb3 := (hb.trans hW).trans h3
        have ho4 := Ext.row (Ext.row (Ext.row ho hW) h3) ((Ext.refl w3).alloc (.cells #[.string t1] 9))
        have hb4 := hb3.trans ((Ext.refl w3).alloc (.cells #[.string t1] 9))
        have hl4 := Sl.lit w3 9 1 1 #[.string t1] rfl (by simp [maxLen])
        clear ho
        go_wp2_with (at_builtin; refine wpList_appE rfl _ _ Tryz.slStr rfl hb4 rfl ho4 rfl hl4 (strs_one [t1]) (by omega) ?_; intro v5 w5 ho5 hb5 _)
        go_roundw
        case rel => exact ⟨k + 1, by omega, by go_num, hb5, by rw [hst.out]; exact ho5⟩
        case measure => simp [intOf]; omega
      · obtain rfl : k = R.length := by omega
        rw [List.take_length] at ho
        have hS : Strs wr _ (R.map fun r => textTmB (rowT r)) := Strs.of_row ho (by simp)
        obtain ⟨q2, cap2, rfl, hc2, hm2⟩ := hS.shape
        have hll : (R.map fun r => textTmB (rowT r)).length = R.length := List.length_map _
        by_cases h0 : R.length = 0
        · have hlb : ((R.length : Int) == 0) = true := by rw [beq_iff_eq]; omega
          have hz' : Hid (textS (R.map rowT) = [45]) := by show _ = _; rw [hz.out, if_pos h0]
          rw [hll]
          clear h0
          go_wp2
          go_ret
          exact ⟨by rw [hz'.out]; rfl, er⟩
        · have hlb : ((R.length : Int) == 0) = false := by rw [beq_eq_false_iff_ne]; omega
          have hz' : Hid (textS (R.map rowT) = joinB (R.map fun r => textTmB (rowT r)) 44) := by show _ = _; rw [hz.out, if_neg h0]
          have hjl : (joinB (R.map fun r => textTmB (rowT r)) 44).length ≤ 684 := by
            have := join_len (c := 44) (n := 170) (xs := (R.map fun r => textTmB (rowT r)).map (·.data.toList)) (fun x hx => by
              obtain ⟨y, hy, rfl⟩ := List.mem_map.1 hx
              obtain ⟨r, hr, rfl⟩ := List.mem_map.1 hy
              obtain ⟨k, hk, rfl⟩ := List.getElem_of_mem hr
              have := hsh.out k hk
              rw [show sAtR R k = R[k] by simp [sAtR, hk]] at this
              exact textTmB_short this)
            rw [List.length_map, hll] at this
            unfold joinB
            omega
          have C := join_w (R.map fun r => textTmB (rowT r)) 44 _ wr hS (fun e => h0 (by rw [← hll, e]; rfl)) (by rw [hll]; omega) (by omega)
          rw [hll] at C ⊢
          clear h0 hjl hS
          generalize joinB (R.map fun r => textTmB (rowT r)) 44 = J at *
          go_wp2_with fail
          refine C.mono ?_; rintro e w3 ⟨rfl, h3⟩
          go_wp2
          go_ret
          exact ⟨by rw [hz'.out]; rfl, er.trans h3⟩

end Go.Proofs.YthmhalcloogniaaGreatDoor

namespace Go.Proofs.YthmhalcloogniaaGreatDoor
open Go.RowKit Go.Dm

set_option maxHeartbeats 400000 in
theorem hasprefix_w (x : ByteArray) (w : World) (hs : x.size ≤ 140737488355328) :
    Calls Tryz.prog 155 #[.string x, .string ⟨#[33]⟩] w fun e w' => e = .returned (.bool (pre33 x)) ∧ Ext w w' := by
  have s1 : (⟨#[33]⟩ : ByteArray).size = 1 := rfl
  by_cases h : 1 ≤ x.size
  · have hq := pre33_at h
    generalize pre33 x = p at *
    go_enter Tryz.func155, Tryz.ntmps155
    go_wp2
    go_ret
    exact ⟨rfl, Ext.refl _⟩
  · have hq := pre33_short (x := x) (by omega)
    generalize pre33 x = p at *
    subst hq
    go_enter Tryz.func155, Tryz.ntmps155
    go_wp2
    go_ret
    exact ⟨rfl, Ext.refl _⟩

set_option maxHeartbeats 400000 in
theorem hassuffix_w (x : ByteArray) (w : World) (hs : x.size ≤ 140737488355328) :
    Calls Tryz.prog 156 #[.string x, .string ⟨#[33]⟩] w fun e w' => e = .returned (.bool (suf33 x)) ∧ Ext w w' := by
  have s1 : (⟨#[33]⟩ : ByteArray).size = 1 := rfl
  by_cases h : 1 ≤ x.size
  · have hq := suf33_at h
    have hw : IntKind.i64.wrap ((x.size : Int) - 1) = ((x.size - 1 : Nat) : Int) := by rw [IntKind.wrap_i64]; omega
    generalize suf33 x = p at *
    go_enter Tryz.func156, Tryz.ntmps156
    go_wp2
    go_ret
    exact ⟨rfl, Ext.refl _⟩
  · have hq := suf33_short (x := x) (by omega)
    generalize suf33 x = p at *
    subst hq
    go_enter Tryz.func156, Tryz.ntmps156
    go_wp2
    go_ret
    exact ⟨rfl, Ext.refl _⟩

set_option maxHeartbeats 400000 in
theorem cutprefix0_w (x : ByteArray) (w : World) (hs : x.size ≤ 140737488355328) :
    Calls Tryz.prog 139 #[.string x, .string ⟨#[33]⟩] w fun e w' => e = .returned (.tuple #[.string (if pre33 x then ⟨(x.data.toList.drop 1).toArray⟩ else x), .bool (pre33 x)]) ∧ Ext w w' := by
  have s1 : (⟨#[33]⟩ : ByteArray).size = 1 := rfl
  have C := hasprefix_w x w hs
  cases hp : pre33 x with
  | true =>
    have h : 1 ≤ x.size := by
      rcases Nat.eq_zero_or_pos x.size with h | h
      · rw [pre33_short h] at hp; cases hp
      · exact h
    have hd := mk_drop (x := x)
    rw [hp] at C
    clear hp
    go_enter Tryz.func139, Tryz.ntmps139
    go_wp2_with fail
    refine C.mono ?_; rintro e w1 ⟨rfl, h1⟩
    go_wp2
    go_ret2
    exact ⟨rfl, h1⟩
  | false =>
    rw [hp] at C
    clear hp
    go_enter Tryz.func139, Tryz.ntmps139
    go_wp2_with fail
    refine C.mono ?_; rintro e w1 ⟨rfl, h1⟩
    go_wp2
    go_ret2
    exact ⟨rfl, h1⟩

set_option maxHeartbeats 400000 in
theorem cutsuffix0_w (x : ByteArray) (w : World) (hs : x.size ≤ 140737488355328) :
    Calls Tryz.prog 141 #[.string x, .string ⟨#[33]⟩] w fun e w' => e = .returned (.tuple #[.string (if suf33 x then ⟨x.data.toList.dropLast.toArray⟩ else x), .bool (suf33 x)]) ∧ Ext w w' := by
  have s1 : (⟨#[33]⟩ : ByteArray).size = 1 := rfl
  have C := hassuffix_w x w hs
  cases hp : suf33 x with
  | true =>
    have h : 1 ≤ x.size := by
      rcases Nat.eq_zero_or_pos x.size with h | h
      · rw [suf33_short h] at hp; cases hp
      · exact h
    have hd := mk_dropLast (x := x)
    have hw : IntKind.i64.wrap ((x.size : Int) - 1) = ((x.size - 1 : Nat) : Int) := by rw [IntKind.wrap_i64]; omega
    rw [hp] at C
    clear hp
    go_enter Tryz.func141, Tryz.ntmps141
    go_wp2_with fail
    refine C.mono ?_; rintro e w1 ⟨rfl, h1⟩
    go_wp2
    go_ret2
    exact ⟨rfl, h1⟩
  | false =>
    rw [hp] at C
    clear hp
    go_enter Tryz.func141, Tryz.ntmps141
    go_wp2_with fail
    refine C.mono ?_; rintro e w1 ⟨rfl, h1⟩
    go_wp2
    go_ret2
    exact ⟨rfl, h1⟩

set_option maxHeartbeats 400000 in
theorem cutprefix_w (x : ByteArray) (w : World) (hs : x.size ≤ 140737488355328) :
    Calls Tryz.prog 117 #[.string x, .string ⟨#[33]⟩] w fun e w' => e = .returned (.tuple #[.string (if pre33 x then ⟨(x.data.toList.drop 1).toArray⟩ else x), .bool (pre33 x)]) ∧ Ext w w' := by
  have C := cutprefix0_w x w hs
  generalize (if pre33 x then (⟨(x.data.toList.drop 1).toArray⟩ : ByteArray) else x) = y at *
  generalize pre33 x = p at *
  go_enter Tryz.func117, Tryz.ntmps117
  go_wp2_with fail
  refine C.mono ?_; rintro e w1 ⟨rfl, h1⟩
  go_wp2
  go_ret2
  exact ⟨rfl, h1⟩

set_option maxHeartbeats 400000 in
theorem cutsuffix_w (x : ByteArray) (w : World) (hs : x.size ≤ 140737488355328) :
    Calls Tryz.prog 119 #[.string x, .string ⟨#[33]⟩] w fun e w' => e = .returned (.tuple #[.string (if suf33 x then ⟨x.data.toList.dropLast.toArray⟩ else x), .bool (suf33 x)]) ∧ Ext w w' := by
  have C := cutsuffix0_w x w hs
  generalize (if suf33 x then (⟨x.data.toList.dropLast.toArray⟩ : ByteArray) else x) = y at *
  generalize suf33 x = p at *
  go_enter Tryz.func119, Tryz.ntmps119
  go_wp2_with fail
  refine C.mono ?_; rintro e w1 ⟨rfl, h1⟩
  go_wp2
  go_ret2
  exact ⟨rfl, h1⟩

end Go.Proofs.YthmhalcloogniaaGreatDoor

namespace Go.Dm
open Go Go.RowKit
theorem cellAt_ne {b i j : Nat} (h : i ≠ j) : (⟨b, i, none⟩ : Addr) ≠ ⟨b, j, none⟩ := by intro e; injection e with _ e; exact h e
theorem cell_set_ne {w : World} {b i j : Nat} {u v : Value} (h : w.cell? ⟨b, j, none⟩ = some v) (hij : i ≠ j) : (w.setCell ⟨b, i, none⟩ u).cell? ⟨b, j, none⟩ = some v := by
  have hne := cellAt_ne (b := b) hij
  first
    | (rw [World.cell?_setCell_other _ _ _ hne]; exact h)
    | (rw [World.cell?_setCell_other _ _ _ _ hne]; exact h)
    | (rw [World.cell?_setCell_other (h := hne)]; exact h)
theorem cell_set_eq {w : World} {b i : Nat} {u v : Value} (h : w.cell? ⟨b, i, none⟩ = some v) : (w.setCell ⟨b, i, none⟩ u).cell? ⟨b, i, none⟩ = some u := by
  first
    | exact World.cell?_setCell_same _ _ _ h
    | exact World.cell?_setCell_same _ _ h
theorem cell_set_far {w : World} {b c i j : Nat} {u v : Value} (h : w.cell? ⟨b, j, none⟩ = some v) (hbc : c ≠ b) : (w.setCell ⟨c, i, none⟩ u).cell? ⟨b, j, none⟩ = some v := by
  have hne : (⟨c, i, none⟩ : Addr) ≠ ⟨b, j, none⟩ := by intro e; injection e with e; exact hbc e
  first
    | (rw [World.cell?_setCell_other _ _ _ hne]; exact h)
    | (rw [World.cell?_setCell_other _ _ _ _ hne]; exact h)
    | (rw [World.cell?_setCell_other (h := hne)]; exact h)

/-- A variable of three cells. -/
structure Cell3 (b : Nat) (x y z : Value) (w : World) : Prop where
  lt : b < w.heap.size
  c0 : w.cell? ⟨b, 0, none⟩ = some x
  c1 : w.cell? ⟨b, 1, none⟩ = some y
  c2 : w.cell? ⟨b, 2, none⟩ = some z
  f0 : w.frozen? ⟨b, 0, none⟩ = false
  f1 : w.frozen? ⟨b, 1, none⟩ = false
  f2 : w.frozen? ⟨b, 2, none⟩ = false
theorem Cell3.ext {b : Nat} {x y z : Value} {w w' : World} (h : Cell3 b x y z w) (hx : Ext w w') : Cell3 b x y z w' :=
  ⟨Nat.lt_of_lt_of_le h.lt hx.size, by rw [hx.cell (by exact h.lt)]; exact h.c0, by rw [hx.cell (by exact h.lt)]; exact h.c1, by rw [hx.cell (by exact h.lt)]; exact h.c2,
    by rw [hx.frozen (by exact h.lt)]; exact h.f0, by rw [hx.frozen (by exact h.lt)]; exact h.f1, by rw [hx.frozen (by exact h.lt)]; exact h.f2⟩
theorem Cell3.set0 {b : Nat} {x y z : Value} {w : World} (h : Cell3 b x y z w) (u : Value) : Cell3 b u y z (w.setCell ⟨b, 0, none⟩ u) :=
  ⟨by rw [World.size_setCell]; exact h.lt, cell_set_eq h.c0, cell_set_ne h.c1 (by decide), cell_set_ne h.c2 (by decide), by rw [World.frozen?_setCell]; exact h.f0, by rw [World.frozen?_setCell]; exact h.f1, by rw [World.frozen?_setCell]; exact h.f2⟩
theorem Cell3.set1 {b : Nat} {x y z : Value} {w : World} (h : Cell3 b x y z w) (u : Value) : Cell3 b x u z (w.setCell ⟨b, 1, none⟩ u) :=
  ⟨by rw [World.size_setCell]; exact h.lt, cell_set_ne h.c0 (by decide), cell_set_eq h.c1, cell_set_ne h.c2 (by decide), by rw [World.frozen?_setCell]; exact h.f0, by rw [World.frozen?_setCell]; exact h.f1, by rw [World.frozen?_setCell]; exact h.f2⟩
theorem Cell3.set2 {b : Nat} {x y z : Value} {w : World} (h : Cell3 b x y z w) (u : Value) : Cell3 b x y u (w.setCell ⟨b, 2, none⟩ u) :=
  ⟨by rw [World.size_setCell]; exact h.lt, cell_set_ne h.c0 (by decide), cell_set_ne h.c1 (by decide), cell_set_eq h.c2, by rw [World.frozen?_setCell]; exact h.f0, by rw [World.frozen?_setCell]; exact h.f1, by rw [World.frozen?_setCell]; exact h.f2⟩
theorem Cell3.far {b c i : Nat} {x y z : Value} {w : World} (h : Cell3 b x y z w) (hc : c ≠ b) (u : Value) : Cell3 b x y z (w.setCell ⟨c, i, none⟩ u) :=
  ⟨by rw [World.size_setCell]; exact h.lt, cell_set_far h.c0 hc, cell_set_far h.c1 hc, cell_set_far h.c2 hc, by rw [World.frozen?_setCell]; exact h.f0, by rw [World.frozen?_setCell]; exact h.f1, by rw [World.frozen?_setCell]; exact h.f2⟩
theorem Cell3.new (w : World) (x y z : Value) (t : TypeId) : Cell3 w.heap.size x y z (w.alloc (.cells #[x, y, z] t)) :=
  ⟨by simp, by simp, by simp, by simp, by simp, by simp, by simp⟩
/-- All three written. -/
theorem Cell3.put {b : Nat} {x y z : Value} {w : World} (h : Cell3 b x y z w) (u v q : Value) : Cell3 b u v q (((w.setCell ⟨b, 0, none⟩ u).setCell ⟨b, 1, none⟩ v).setCell ⟨b, 2, none⟩ q) := ((h.set0 u).set1 v).set2 q
theorem Sl.far {w : World} {sz b off n cap c i : Nat} {cs : List Value} (h : Sl w sz (.slice (some ⟨b, off, none⟩) n cap) n cs) (hc : c ≠ b) (u : Value) : Sl (w.setCell ⟨c, i, none⟩ u) sz (.slice (some ⟨b, off, none⟩) n cap) n cs := by
  obtain ⟨hl, p, cap', hv, hn, hm, hz, h⟩ := h
  injection hv with e1 _ e2
  subst e1 e2
  refine ⟨hl, _, _, rfl, hn, hm, hz, ?_⟩
  rcases h with h | ⟨b', off', hp, hlt, h⟩
  · exact Or.inl h
  · injection hp with hp; injection hp with hp1 hp2
    subst hp1 hp2
    exact Or.inr ⟨b, off, rfl, by rw [World.size_setCell]; exact hlt, fun j u' hj => cell_set_far (h j u' hj) hc⟩
theorem below_put3 {B b : Nat} {w w' : World} (h : Below B w w') (hb : B ≤ b) (u v q : Value) : Below B w (((w'.setCell ⟨b, 0, none⟩ u).setCell ⟨b, 1, none⟩ v).setCell ⟨b, 2, none⟩ q) :=
  ((h.setCell (p := ⟨b, 0, none⟩) hb u).setCell (p := ⟨b, 1, none⟩) hb v).setCell (p := ⟨b, 2, none⟩) hb q
end Go.Dm
namespace Go.Proofs.YthmhalcloogniaaGreatDoor
open Go.RowKit Go.Dm

/-- Texts cut at a byte. -/
theorem split_w (x : ByteArray) (c : UInt8) (w : World) (hs : x.size < 4294967281) (ht : Vars w) :
    Calls Tryz.prog 46 #[.string x, .string ⟨#[c]⟩] w fun e w' => ∃ vs : List ByteArray, e = .returned (.slice (some ⟨w.heap.size, 0, none⟩) vs.length vs.length) ∧ Strs w' (.slice (some ⟨w.heap.size, 0, none⟩) vs.length vs.length) vs ∧ bytesOf vs = splitC c x.data.toList ∧ vs.length ≤ 4294967281 ∧ Ext w w' := by
  obtain ⟨m, hm⟩ := ht.most
  have hlen := splitB_bytesC x c
  have hall := Lib.splitB_all ⟨#[c]⟩ (by simp [ByteArray.size]) 0 (Lib.countB x ⟨#[c]⟩) x rfl
  have hcl : Lib.countB x ⟨#[c]⟩ ≤ x.size := Lib.countB_le ⟨#[c]⟩ (by simp [ByteArray.size]) x.size x (Nat.le_refl _)
  have C := Tryz.strings_Split x ⟨#[c]⟩ m w hs hm (by simp [ByteArray.size])
  rw [← hall] at C
  generalize hss : Lib.splitB ⟨#[c]⟩ 0 (Lib.countB x ⟨#[c]⟩) x = ss at C hlen hall
  have hl : ss.length ≤ 4294967281 := by omega
  have hal : Ext w (w.alloc (.cells (ss.map Value.string).toArray 9)) := (Ext.refl w).alloc _
  have hx : Strs (w.alloc (.cells (ss.map Value.string).toArray 9)) (.slice (some ⟨w.heap.size, 0, none⟩) ss.length ss.length) ss := by
    have := Sl.lit w 9 1 ss.length (ss.map Value.string).toArray (by simp) (by simp [maxLen]; omega)
    simpa [Strs] using this
  refine C.mono ?_; rintro e w1 ⟨rfl, rfl⟩
  exact ⟨ss, rfl, hx, hlen, hl, hal⟩
/-- A text cut in two. -/
theorem cut_w (x : ByteArray) (c : UInt8) (w : World) (hs : x.size < 4294967281) (ht : Vars w) :
    Calls Tryz.prog 118 #[.string x, .string ⟨#[c]⟩] w fun e w' => e = .returned (.tuple #[.string ⟨(cutC c x.data.toList).1.toArray⟩, .string ⟨(cutC c x.data.toList).2.1.toArray⟩, .bool (cutC c x.data.toList).2.2]) ∧ Ext w w' := by
  obtain ⟨m, hm⟩ := ht.most
  have C := Tryz.strings_Cut x ⟨#[c]⟩ m w (by omega) hm
  rw [show (⟨#[c]⟩ : ByteArray).data.toList = [c] from rfl, cut_eqC] at C
  refine C.mono ?_; rintro e w2 ⟨he, n, hw2⟩
  refine ⟨he, ?_⟩
  rw [hw2]
  exact (Below.refl _ _).trans ⟨rfl, rfl, rfl, Nat.le_refl _, fun _ _ => rfl⟩

set_option maxHeartbeats 1000000 in
set_option maxRecDepth 100000 in
theorem termof_w (x : ByteArray) (w : World) (hs : x.size < 4294967281) (ht : Vars w) :
    Calls Tryz.prog 87 #[.string x] w fun e w' => ∃ r : RowS, e = .returned (.agg #[.string r.1, .bool r.2.1, r.2.2.1]) ∧ rowT r = mkT (termL x.data.toList) ∧ Strs w' r.2.2.1 r.2.2.2 ∧ (∀ b, r.2.2.1.ownBlock = some b → w.heap.size ≤ b) ∧ Ext w w' := by
  have hW : Ext w (w.alloc (.cells #[.string ⟨#[]⟩, .bool false, .slice none 0 0] 115)) := (Ext.refl _).alloc _
  have C := cutprefix_w x (w.alloc (.cells #[.string ⟨#[]⟩, .bool false, .slice none 0 0] 115)) (by omega)
  have K0 := Cell3.new w (.string ⟨#[]⟩) (.bool false) (.slice none 0 0) 115
  cases hp : pre33 x with
  | true =>
    have hz := Lib.hid (termL_pre hp)
    rw [hp, if_pos rfl] at C
    clear hp
    generalize (⟨(x.data.toList.drop 1).toArray⟩ : ByteArray) = y at *
    go_enter Tryz.func87, Tryz.ntmps87
    go_wp2_with fail
    refine C.mono ?_; rintro e w1 ⟨rfl, h1⟩
    have K1 := (K0.ext h1).put (.string y) (.bool true) (.slice none 0 0)
    have hB := below_put3 (hW.trans h1) (Nat.le_refl _) (.string y) (.bool true) (.slice none 0 0)
    obtain ⟨q1, q2, q3, q4, q5, q6, q7⟩ := K0.ext h1
    go_wp2
    obtain ⟨_, k0, k1, k2, _, _, _⟩ := K1
    refine bodyPost_ret (v := .agg #[.string y, .bool true, .slice none 0 0]) (by simp [results, Tryz.results87, go_sem, k0, k1, k2]) rfl ?_
    exact ⟨(y, true, .slice none 0 0, []), rfl, by rw [hz.out]; rfl, Strs.nil _, (fun b hb => by cases hb), hB⟩
  | false =>
    have hcl := cutC_len 61 x.data.toList
    have CC := fun w1 (h1 : Ext w w1) => cut_w x 61 w1 hs (ht.ext h1)
    rw [hp, if_neg (by decide)] at C
    cases hc : (cutC 61 x.data.toList).2.2 with
    | false =>
      have hz := Lib.hid (termL_bare hp hc)
      rw [hc] at CC
      clear hp hc hcl
      generalize (⟨(cutC 61 x.data.toList).1.toArray⟩ : ByteArray) = y1 at *
      generalize (⟨(cutC 61 x.data.toList).2.1.toArray⟩ : ByteArray) = y2 at *
      replace CC := Lib.hid CC
      go_enter Tryz.func87, Tryz.ntmps87
      go_wp2_with fail
      refine C.mono ?_; rintro e w1 ⟨rfl, h1⟩
      go_wp2_with fail
      refine (CC.out w1 (hW.trans h1)).mono ?_; rintro e w2 ⟨rfl, h2⟩
      have K1 := ((K0.ext h1).ext h2).put (.string x) (.bool false) (.slice none 0 0)
      have hB := below_put3 ((hW.trans h1).trans h2) (Nat.le_refl _) (.string x) (.bool false) (.slice none 0 0)
      obtain ⟨q1, q2, q3, q4, q5, q6, q7⟩ := (K0.ext h1).ext h2
      go_wp2
      obtain ⟨_, k0, k1, k2, _, _, _⟩ := K1
      refine bodyPost_ret (v := .agg #[.string x, .bool false, .slice none 0 0]) (by simp [results, Tryz.results87, go_sem, k0, k1, k2]) rfl ?_
      exact ⟨(x, false, .slice none 0 0, []), rfl, by rw [hz.out]; rfl, Strs.nil _, (fun b hb => by cases hb), hB⟩
    | true =>
      have hz := fun vs hv => Lib.hid (termL_vals (k := ⟨(cutC 61 x.data.toList).1.toArray⟩) (vs := vs) hp hc rfl hv)
      rw [hc] at CC
      rw [← size_len] at hcl
      have s1 : (⟨(cutC 61 x.data.toList).1.toArray⟩ : ByteArray).size ≤ x.size := by rw [size_len]; show (cutC 61 x.data.toList).1.length ≤ _; omega
      have s2 : (⟨(cutC 61 x.data.toList).2.1.toArray⟩ : ByteArray).size ≤ x.size := by rw [size_len]; show (cutC 61 x.data.toList).2.1.length ≤ _; omega
      have hv2 : (cutC 61 x.data.toList).2.1 = (⟨(cutC 61 x.data.toList).2.1.toArray⟩ : ByteArray).data.toList := rfl
      rw [hv2] at hz
      clear hp hc hcl hv2
      generalize (⟨(cutC 61 x.data.toList).1.toArray⟩ : ByteArray) = y1 at *
      generalize (⟨(cutC 61 x.data.toList).2.1.toArray⟩ : ByteArray) = y2 at *
      have CS := fun w1 => cutsuffix_w y1 w1 (by omega)
      generalize hy3 : (if suf33 y1 then (⟨y1.data.toList.dropLast.toArray⟩ : ByteArray) else y1) = y3 at *
      generalize hs3 : suf33 y1 = s3 at *
      clear hy3 hs3
      replace hz := Lib.hid hz
      replace CC := Lib.hid CC
      replace CS := Lib.hid CS
      go_enter Tryz.func87, Tryz.ntmps87
      go_wp2_with fail
      refine C.mono ?_; rintro e w1 ⟨rfl, h1⟩
      go_wp2_with fail
      refine (CC.out w1 (hW.trans h1)).mono ?_; rintro e w2 ⟨rfl, h2⟩
      go_wp2_with fail
      refine (CS.out w2).mono ?_; rintro e w3 ⟨rfl, h3⟩
      have e3 := ((hW.trans h1).trans h2).trans h3
      go_wp2_with fail
      refine (split_w y2 124 w3 (by omega) (ht.ext e3)).mono ?_; rintro e w4 ⟨vs, rfl, hx, hv, hl, h4⟩
      have hz' := (hz.out vs hv).out
      have K1 := ((((K0.ext h1).ext h2).ext h3).ext h4).put (.string y3) (.bool s3) (.slice (some ⟨w3.heap.size, 0, none⟩) vs.length vs.length)
      have hB := below_put3 (e3.trans h4) (Nat.le_refl _) (.string y3) (.bool s3) (.slice (some ⟨w3.heap.size, 0, none⟩) vs.length vs.length)
      have hne : w.heap.size ≠ w3.heap.size := Nat.ne_of_lt (((K0.ext h1).ext h2).ext h3).lt
      have hx5 := Sl.far (i := 2) (Sl.far (i := 1) (Sl.far (i := 0) hx hne (.string y3)) hne (.bool s3)) hne (.slice (some ⟨w3.heap.size, 0, none⟩) vs.length vs.length)
      clear hne
      obtain ⟨q1, q2, q3, q4, q5, q6, q7⟩ := (((K0.ext h1).ext h2).ext h3).ext h4
      replace hz' := Lib.hid hz'
      clear hv
      go_wp2
      obtain ⟨_, k0, k1, k2, _, _, _⟩ := K1
      refine bodyPost_ret (v := .agg #[.string y3, .bool s3, .slice (some ⟨w3.heap.size, 0, none⟩) vs.length vs.length]) (by simp [results, Tryz.results87, go_sem, k0, k1, k2]) rfl ?_
      exact ⟨(y3, s3, .slice (some ⟨w3.heap.size, 0, none⟩) vs.length vs.length, vs), rfl, by rw [hz'.out]; rfl, hx5, (fun b hb => by injection hb with hb; subst hb; exact e3.size), hB⟩

end Go.Proofs.YthmhalcloogniaaGreatDoor

namespace Go.Dm
open Go Go.RowKit
end Go.Dm
namespace Go.Proofs.YthmhalcloogniaaGreatDoor
open Go.RowKit Go.Dm

end Go.Proofs.YthmhalcloogniaaGreatDoor

namespace Go.Dm
open Go Go.RowKit

end Go.Dm

namespace Go.Dm
open Go Go.RowKit

theorem putT_short {t : Bs} (h : t.length ≤ 32) : (putT t).length ≤ 42 := by
  have := putL_ten (u := t.length) (Nat.lt_of_le_of_lt h (by decide))
  rw [putT, List.length_append]; omega
theorem u64_of {n : Nat} (h : n ≤ 281474976710656) : U64 n := Nat.lt_of_le_of_lt h (by decide)

end Go.Dm

namespace Go.Dm
open Go Go.RowKit

end Go.Dm

namespace Go.Dm
open Go Go.RowKit
theorem Terms.cells {w : World} {R : List RowS} {b off cap : Nat} (h : Terms w (.slice (some ⟨b, off, none⟩) R.length cap) R) {k : Nat} (hk : k < R.length) :
    b < w.heap.size ∧ w.cell? ⟨b, off + k * 3, none⟩ = some (.string (sAtR R k).1) ∧ w.cell? ⟨b, off + k * 3 + 1, none⟩ = some (.bool (sAtR R k).2.1) ∧ w.cell? ⟨b, off + k * 3 + 2, none⟩ = some (sAtR R k).2.2.1 := by
  obtain ⟨b', off', e, hb, c0, c1, c2⟩ := h.at hk
  injection e with e; injection e with e1 e2
  subst e1 e2
  exact ⟨hb, c0, c1, c2⟩
end Go.Dm
namespace Go.Proofs.YthmhalcloogniaaGreatDoor
open Go.RowKit Go.Dm

end Go.Proofs.YthmhalcloogniaaGreatDoor

namespace Go.Dm
open Go Go.RowKit
end Go.Dm
namespace Go.Proofs.YthmhalcloogniaaGreatDoor
open Go.RowKit Go.Dm

end Go.Proofs.YthmhalcloogniaaGreatDoor
