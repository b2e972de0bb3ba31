/- Texts of the base. -/

import Derived.Test.YtefjdmjkofaajaaGreatDoorT15
import Derived.Test.YtefjdmjkofaajaaGreatDoorT4
import Derived.Recover
namespace Go.Dm
open Go Go.RowKit
end Go.Dm
namespace Go.Proofs.YtefjdmjkofaajaaGreatDoor
open Go.RowKit Go.Dm
end Go.Proofs.YtefjdmjkofaajaaGreatDoor
namespace Go.Dm
open Go Go.RowKit
theorem Pairs.drop {w : World} {xs : List PairS} {p cap} (h : Pairs w (.slice p xs.length cap) xs) {k : Nat} (hk : k ≤ xs.length) : Pairs w (dropV p xs.length cap k 2) (xs.drop k) := by
 have := Sl.drop h hk
 have e : (pairCells xs).drop (k * 2) = pairCells (xs.drop k) := by
  clear this h
  induction k generalizing xs with
  | zero => simp
  | succ k ih =>
   cases xs with
   | nil => simp at hk
   | cons x xs =>
    have := ih (xs := xs) (by simpa using hk)
    rw [List.drop_succ_cons, ← this]
    rw [show (k + 1) * 2 = k * 2 + 1 + 1 by omega]
    rfl
 rw [e] at this
 show Sl w 2 _ (xs.drop k).length _
 rw [List.length_drop]
 exact this
end Go.Dm
namespace Go.Proofs.YtefjdmjkofaajaaGreatDoor
open Go.RowKit Go.Dm
end Go.Proofs.YtefjdmjkofaajaaGreatDoor
namespace Go.Dm
open Go Go.RowKit
end Go.Dm
namespace Go.Proofs.YtefjdmjkofaajaaGreatDoor
open Go.RowKit Go.Dm
set_option maxHeartbeats 2000000 in
theorem tright_w (key : ByteArray) (no : Bool) (vals : List ByteArray) (v : Value) (w : World) (hf : FitT (key, no, vals)) (hx : Strs w v vals) (ht : Tabs w) :
  Calls Tryz.prog 129 #[.agg #[.string key, .bool no, v]] w fun e w' => e = .returned (.bool (rightT (key, no, vals))) ∧ Ext w w' := by
 have hW : Ext w (w.alloc (.cells #[.string key, .bool no, v] 179)) := (Ext.refl _).alloc _
 obtain ⟨q, cap, rfl, hcap, hcm⟩ := hx.shape
 have hbad := fun k (hk : k < vals.length) h => rightT_bad (t := (key, no, vals)) hk h
 have hall := rightT_all (t := (key, no, vals))
 obtain ⟨hf1, hf2, hf3⟩ := hf
 simp only at hbad hall hf1 hf2 hf3
 have CK := fun U (hU : Ext w U) => right_fit key U hf1 (ht.ext hU)
 replace hall := fun h => (hall h).trans (show (rightL (bS key) && decide (vals.length ≤ 4)) = (rightL key.data.toList && decide (vals.length ≤ 4)) from rfl)
 generalize rightT (key, no, vals) = d at *
 generalize rightL key.data.toList = rk at CK hall
 replace hbad := Lib.hid hbad
 replace hall := Lib.hid hall
 replace CK := Lib.hid CK
 go_enter Tryz.func129, Tryz.ntmps129
 go_wp2
 generalize hW0 : w.alloc (.cells #[.string key, .bool no, .slice q vals.length cap] 179) = W at *
 have g := (Ext.box (w := w) (cs := #[.string key, .bool no, .slice q vals.length cap]) (e := 179) (Ext.refl _))
 rw [hW0] at g
 clear hW0
 obtain ⟨gs, g⟩ := g
 have g0 := g 0 _ rfl
 have g1 := g 1 _ rfl
 have g2 := g 2 _ rfl
 clear g
 have gsz : w.heap.size < W.heap.size := gs
 go_loopw [8] (fun i' wr => ∃ k : Nat, k ≤ vals.length ∧ i' = .int .i64 k ∧ Ext W wr ∧ Hid (∀ j, j < k → okVal vals j = true)) (fun i' _ => vals.length - (intOf i').toNat)
 case atStart => exact ⟨0, by omega, rfl, Ext.refl _, fun j hj => by omega⟩
 case round =>
  obtain ⟨k, hk, rfl, hb, HN⟩ := hrel
  have er := hW.trans hb
  have gr : w.heap.size < wr.heap.size := Nat.lt_of_lt_of_le gs hb.size
  have k0 : wr.cell? ⟨w.heap.size, 0, none⟩ = some (.string key) := by rw [hb.cell (by exact gs)]; exact g0
  have k2 : wr.cell? ⟨w.heap.size, 2, none⟩ = some (.slice q vals.length cap) := by rw [hb.cell (by exact gs)]; exact g2
  by_cases hlt : k < vals.length
  ·obtain ⟨b, off, rfl, hbl, c0⟩ := (hx.ext er).at hlt
   have hfk := hf3 _ (strAt_mem hlt)
   have C := right_fit (strAt vals k) wr hfk (ht.ext er)
   have hB := hbad.out k hlt
   have hG : okVal vals k = true → Hid (∀ j, j < k + 1 → okVal vals j = true) := fun h j hj => by
    rcases Nat.lt_succ_iff_lt_or_eq.1 hj with h' | rfl
    ·exact HN.out j h'
    ·exact h
   have hok : ∀ c1 c2, rightL (strAt vals k).data.toList = c1 → (k == 0 || !leB (bS (strAt vals k)) (bS (strAt vals (k - 1)))) = c2 → okVal vals k = (c1 && c2) := by
    intro c1 c2 e1 e2
    unfold okVal
    rw [← e1, ← e2]; rfl
   cases h1 : rightL (strAt vals k).data.toList with
   | false =>
    have hd := hB (hok _ _ h1 rfl)
    subst hd
    rw [h1] at C
    clear h1 hok hG hB
    go_wp2_with fail
    refine C.mono ?_; rintro e w1 ⟨rfl, hh1⟩
    go_wp2
    go_ret
    exact ⟨rfl, er.trans hh1⟩
   | true =>
    rw [h1] at C
    by_cases h0 : k = 0
    ·subst h0
     have hg := hG (hok _ true h1 rfl)
     rw [Nat.add_zero] at c0
     clear h1 hok hG hB
     go_wp2_with fail
     refine C.mono ?_; rintro e w1 ⟨rfl, hh1⟩
     go_wp2
     go_roundw
     case rel => exact ⟨1, by omega, rfl, hb.trans hh1, hg⟩
     case measure => simp [intOf]; omega
    ·obtain ⟨j, rfl⟩ : ∃ j, k = j + 1 := ⟨k - 1, by omega⟩
     obtain ⟨_, d0⟩ := (hx.ext er).cells (k := j) (by omega)
     have hle : ∀ c c', Op.bytesLess (strAt vals (j + 1)).toList (strAt vals j).toList = c → ((strAt vals (j + 1)).toList == (strAt vals j).toList) = c' → (j + 1 == 0 || !leB (bS (strAt vals (j + 1))) (bS (strAt vals (j + 1 - 1)))) = !(c || c') := by
      intro c c' e1 e2
      rw [ByteArray.toList_eq, ByteArray.toList_eq] at e1 e2
      rw [← e1, ← e2]
      rfl
     cases q1 : Op.bytesLess (strAt vals (j + 1)).toList (strAt vals j).toList with
     | true =>
      have hd := hB (hok _ _ h1 (hle _ _ q1 rfl))
      subst hd
      clear h1 hok hG hB hle
      go_wp2_with fail
      refine C.mono ?_; rintro e w1 ⟨rfl, hh1⟩
      have k2' : w1.cell? ⟨w.heap.size, 2, none⟩ = some (.slice (some ⟨b, off, none⟩) vals.length cap) := by rw [hh1.cell (by exact gr)]; exact k2
      have d0' : w1.cell? ⟨b, off + j, none⟩ = some (.string (strAt vals j)) := by rw [hh1.cell (by exact hbl)]; exact d0
      have gr' := Nat.lt_of_lt_of_le gr hh1.size
      have hbl' := Nat.lt_of_lt_of_le hbl hh1.size
      go_wp2
      go_ret
      exact ⟨rfl, er.trans hh1⟩
     | false =>
      cases q2 : ((strAt vals (j + 1)).toList == (strAt vals j).toList) with
      | true =>
       have hd := hB (hok _ _ h1 (hle _ _ q1 q2))
       subst hd
       clear h1 hok hG hB hle
       go_wp2_with fail
       refine C.mono ?_; rintro e w1 ⟨rfl, hh1⟩
       have k2' : w1.cell? ⟨w.heap.size, 2, none⟩ = some (.slice (some ⟨b, off, none⟩) vals.length cap) := by rw [hh1.cell (by exact gr)]; exact k2
       have d0' : w1.cell? ⟨b, off + j, none⟩ = some (.string (strAt vals j)) := by rw [hh1.cell (by exact hbl)]; exact d0
       have gr' := Nat.lt_of_lt_of_le gr hh1.size
       have hbl' := Nat.lt_of_lt_of_le hbl hh1.size
       go_wp2
       go_ret
       exact ⟨rfl, er.trans hh1⟩
      | false =>
       have hg := hG (hok _ _ h1 (hle _ _ q1 q2))
       clear h1 hok hG hB hle
       go_wp2_with fail
       refine C.mono ?_; rintro e w1 ⟨rfl, hh1⟩
       have k2' : w1.cell? ⟨w.heap.size, 2, none⟩ = some (.slice (some ⟨b, off, none⟩) vals.length cap) := by rw [hh1.cell (by exact gr)]; exact k2
       have d0' : w1.cell? ⟨b, off + j, none⟩ = some (.string (strAt vals j)) := by rw [hh1.cell (by exact hbl)]; exact d0
       have gr' := Nat.lt_of_lt_of_le gr hh1.size
       have hbl' := Nat.lt_of_lt_of_le hbl hh1.size
       go_wp2
       go_roundw
       case rel => exact ⟨j + 1 + 1, by omega, by go_num, hb.trans hh1, hg⟩
       case measure => simp [intOf]; omega
  ·obtain rfl : k = vals.length := by omega
   have hd := hall.out HN.out
   have C := CK.out wr er
   cases rk with
   | false =>
    rw [Bool.false_and] at hd
    subst hd
    go_wp2_with fail
    refine C.mono ?_; rintro e w1 ⟨rfl, hh1⟩
    go_wp2
    go_ret
    exact ⟨rfl, er.trans hh1⟩
   | true =>
    rw [Bool.true_and] at hd
    have hd' : d = decide ((vals.length : Int) ≤ 4) := by rw [hd]; exact decide_eq_decide.2 (by omega)
    clear hd
    replace hd' := Lib.hid hd'
    go_wp2_with fail
    refine C.mono ?_; rintro e w1 ⟨rfl, hh1⟩
    have k2' : w1.cell? ⟨w.heap.size, 2, none⟩ = some (.slice q vals.length cap) := by rw [hh1.cell (by exact gr)]; exact k2
    have gr' := Nat.lt_of_lt_of_le gr hh1.size
    go_wp2
    go_ret
    exact ⟨by rw [hd'.out]; rfl, er.trans hh1⟩
set_option maxHeartbeats 400000 in
theorem right1_w (r : RowS) (w : World) (hf : FitT (rowT r)) (hx : Strs w r.2.2.1 r.2.2.2) (ht : Tabs w) :
  Calls Tryz.prog 128 #[.agg #[.string r.1, .bool r.2.1, r.2.2.1]] w fun e w' => e = .returned (.bool (!rightT (rowT r))) ∧ Ext w w' := by
 obtain ⟨key, no, v, vals⟩ := r
 have hW : Ext w (w.alloc (.cells #[.string key, .bool no, v] 179)) := (Ext.refl _).alloc _
 have C := tright_w key no vals v _ hf (hx.ext hW) (ht.ext hW)
 show Calls Tryz.prog 128 #[.agg #[.string key, .bool no, v]] w fun e w' => e = .returned (.bool (!rightT (key, no, vals))) ∧ Ext w w'
 generalize rightT (key, no, vals) = d at C
 go_enter Tryz.func128, Tryz.ntmps128
 go_wp2_with fail
 refine C.mono ?_; rintro e w1 ⟨rfl, h1⟩
 go_wp2
 go_ret
 exact ⟨rfl, hW.trans h1⟩
set_option maxHeartbeats 1000000 in
theorem indexR_w (R : List RowS) (v : Value) (w : World) (hm : R.length ≤ 35184372088832) (hf : FitR R) (hx : Terms w v R) (ht : Tabs w) :
  Calls Tryz.prog 152 #[v, .func (.func 128) #[] #[]] w
   fun e w' => ∃ i : Int, e = .returned (.int .i64 i) ∧ decide (0 ≤ i) = !(R.map rowT).all rightT ∧ Ext w w' := by
 obtain ⟨q, cap, rfl, _, _⟩ := hx.shape
 have hhit := fun k (hk : k < R.length) h => allR_hit hk h
 have hmiss := allR_miss (R := R)
 generalize (R.map rowT).all rightT = d at *
 replace hhit := Lib.hid hhit
 replace hmiss := Lib.hid hmiss
 go_enter Tryz.func152, Tryz.ntmps152
 go_wp2
 go_loopw [4, 8] (fun z i wr => ∃ k : Nat, k ≤ R.length ∧ i = .int .i64 k ∧ z = .int .i64 0 ∧ Ext w wr ∧ Hid (∀ j, j < k → rightT (rowT (sAtR R j)) = true)) (fun _ i _ => R.length - (intOf i).toNat)
 case atStart => exact ⟨0, by omega, rfl, rfl, Ext.refl w, fun j hj => by omega⟩
 case round =>
  obtain ⟨k, hk, rfl, rfl, hb, HN⟩ := hrel
  by_cases hlt : k < R.length
  ·obtain ⟨b, off, rfl, hbl, c0, c1, c2⟩ := (hx.ext hb).at hlt
   have C := right1_w (sAtR R k) wr (hf _ (sAtR_mem hlt)) ((hx.ext hb).val hlt) (ht.ext hb)
   have hH := hhit.out k hlt
   have hN2 : rightT (rowT (sAtR R k)) = true → Hid (∀ j, j < k + 1 → rightT (rowT (sAtR R j)) = true) := fun h j hj => by
    rcases Nat.lt_succ_iff_lt_or_eq.1 hj with h' | rfl
    ·exact HN.out j h'
    ·exact h
   generalize rightT (rowT (sAtR R k)) = t at C hH hN2
   generalize sAtR R k = r at *
   cases t with
   | false =>
    have hd := hH rfl
    subst hd
    clear hH hN2
    go_wp2_with fail
    refine C.mono ?_; rintro e w1 ⟨rfl, h1⟩
    go_wp2
    go_ret
    exact ⟨_, rfl, by first | omega | simp, hb.trans h1⟩
   | true =>
    replace hN2 := hN2 rfl
    clear hH
    go_wp2_with fail
    refine C.mono ?_; rintro e w1 ⟨rfl, h1⟩
    go_wp2
    go_roundw
    case rel => exact ⟨k + 1, by omega, by go_num, rfl, hb.trans h1, hN2⟩
    case measure => simp [intOf]; omega
  ·obtain rfl : k = R.length := by omega
   have hd := hmiss.out HN.out
   subst hd
   go_wp2
   go_ret
   exact ⟨-1, rfl, by first | omega | simp, hb⟩
set_option maxHeartbeats 400000 in
theorem containsR_w (R : List RowS) (v : Value) (w : World) (hm : R.length ≤ 35184372088832) (hf : FitR R) (hx : Terms w v R) (ht : Tabs w) :
  Calls Tryz.prog 127 #[v, .func (.func 128) #[] #[]] w
   fun e w' => e = .returned (.bool (!(R.map rowT).all rightT)) ∧ Ext w w' := by
 have C := indexR_w R v w hm hf hx ht
 generalize (R.map rowT).all rightT = d at C
 go_enter Tryz.func127, Tryz.ntmps127
 go_wp2_with fail
 refine C.mono ?_; rintro e w1 ⟨i, rfl, hi, h1⟩
 go_wp2
 go_ret
 exact ⟨by rw [← hi]; rfl, h1⟩
set_option maxHeartbeats 400000 in
theorem sright_w (R : List RowS) (v : Value) (w : World) (hm : R.length ≤ 35184372088832) (hf : FitR R) (hx : Terms w v R) (ht : Tabs w) :
  Calls Tryz.prog 100 #[v] w fun e w' => e = .returned (.bool (rightS (R.map rowT))) ∧ Ext w w' := by
 obtain ⟨q, cap, rfl, _, _⟩ := hx.shape
 have C := containsR_w R _ w hm hf hx ht
 have hr : rightS (R.map rowT) = (decide (R.length ≤ 4) && (R.map rowT).all rightT) := by unfold rightS; rw [List.length_map]
 rw [hr]
 clear hr
 generalize (R.map rowT).all rightT = d at *
 by_cases h4 : R.length ≤ 4
 ·rw [decide_eq_true h4, Bool.true_and]
  go_enter Tryz.func100, Tryz.ntmps100
  go_wp2_with fail
  refine C.mono ?_; rintro e w1 ⟨rfl, h1⟩
  go_wp2
  go_ret
  exact ⟨by simp, h1⟩
 ·rw [decide_eq_false h4, Bool.false_and]
  clear C
  have h4' : decide ((R.length : Int) ≤ 4) = false := decide_eq_false (by omega)
  go_enter Tryz.func100, Tryz.ntmps100
  go_wp2
  go_ret
  exact ⟨rfl, Ext.refl _⟩
end Go.Proofs.YtefjdmjkofaajaaGreatDoor
namespace Go.Dm
open Go Go.RowKit
theorem textB32s {t : ByteArray} (h : t.size ≤ 32) : (textB t).size ≤ 42 := by
 rw [size_len]
 have := putL_ten (u := t.data.toList.length) (Nat.lt_of_le_of_lt (show t.data.toList.length ≤ 32 from h) (by decide))
 show (putT t.data.toList).length ≤ 42
 rw [putT, List.length_append]
 have h2 : t.data.toList.length = t.size := rfl
 omega
def ShortT (t : TermS) : Prop := t.1.size ≤ 32 ∧ t.2.2.length ≤ 4 ∧ ∀ x ∈ t.2.2, x.size ≤ 32
def putTmB (t : TermS) : ByteArray := ⟨(putTm t).toArray⟩
theorem putVals_short : ∀ {vs : List ByteArray}, (∀ x ∈ vs, x.size ≤ 32) → (putVals vs).length ≤ 42 * vs.length
 | [], _ => by simp [putVals]
 | x :: vs, h => by
  have h1 := textB32s (h x (by simp))
  have ih := putVals_short (vs := vs) (fun y hy => h y (List.mem_cons_of_mem _ hy))
  have e : putVals (x :: vs) = putT (bS x) ++ putVals vs := by simp [putVals]
  have e2 : (textB x).size = (putT (bS x)).length := by rw [size_len]; rfl
  rw [e, List.length_append, List.length_cons]; omega
theorem putTmB_short {t : TermS} (h : ShortT t) : (putTmB t).size ≤ 220 := by
 obtain ⟨h1, h2, h3⟩ := h
 have a1 := textB32s h1
 have e2 : (textB t.1).size = (putT (bS t.1)).length := by rw [size_len]; rfl
 have a2 := putVals_short h3
 have a3 := putL_ten (u := numT t) (show numT t < 18446744073709551616 by unfold numT; split <;> omega)
 rw [size_len]
 show (putTm t).length ≤ 220
 unfold putTm
 rw [List.length_append, List.length_append]
 omega
end Go.Dm
namespace Go.Proofs.YtefjdmjkofaajaaGreatDoor
open Go.RowKit Go.Dm
set_option maxHeartbeats 2000000 in
set_option maxRecDepth 100000 in
theorem tput_w (key : ByteArray) (no : Bool) (vals : List ByteArray) (v : Value) (w : World) (hf : ShortT (key, no, vals)) (hx : Strs w v vals) :
  Calls Tryz.prog 133 #[.agg #[.string key, .bool no, v]] w fun e w' => e = .returned (.string (putTmB (key, no, vals))) ∧ Ext w w' := by
 have hW : Ext w (w.alloc (.cells #[.string key, .bool no, v] 179)) := (Ext.refl _).alloc _
 obtain ⟨q, cap, rfl, hcap, hcm⟩ := hx.shape
 obtain ⟨hf1, hf2, hf3⟩ := hf
 simp only at hf1 hf2 hf3
 have CK := fun U => puttext_w key U (by omega)
 have sK := textB32s hf1
 obtain ⟨N, hN⟩ : ∃ N : Nat, N = numT (key, no, vals) := ⟨_, rfl⟩
 have hNu : U64 N := by rw [hN]; show numT _ < 18446744073709551616; unfold numT; split <;> simp only <;> omega
 have CN := fun U => put_w N U hNu
 have sN : (⟨(putL N).toArray⟩ : ByteArray).size ≤ 10 := by rw [size_len]; exact putL_ten hNu
 have hst0 : Hid ((textB key ++ ⟨(putL N).toArray⟩).data.toList = (putT (bS key) ++ putL (numT (key, no, vals))) ++ putVals (vals.take 0)) := by
  show _ = _
  rw [data_append, ← hN]; simp [putVals, textB, bS]
 have hfin : Hid (∀ b : ByteArray, b.data.toList = (putT (bS key) ++ putL (numT (key, no, vals))) ++ putVals vals → b = putTmB (key, no, vals)) := fun b h => mk_bytes h
 have hNI : (N : Int) = if no then 2 * (vals.length : Int) + 1 else 2 * (vals.length : Int) := by
  rw [hN]; unfold numT; cases no <;> simp
 replace CK : ∀ U, Calls Tryz.prog 62 #[.string key] U fun e w' => e = .returned (.string (textB key)) ∧ Ext U w' := CK
 rw [hNI] at CN
 generalize numT (key, no, vals) = M at *
 generalize (⟨(putL N).toArray⟩ : ByteArray) = tn at *
 generalize textB key = tk at *
 replace CK := Lib.hid CK
 clear hN hNI hNu
 cases no
 all_goals
  simp only [Bool.false_eq_true, if_false, if_true] at CN
  replace CN := Lib.hid CN
  go_enter Tryz.func133, Tryz.ntmps133
  go_wp2_with fail
  refine (CK.out _).mono ?_; rintro e w1 ⟨rfl, h1⟩
  obtain ⟨gs, g⟩ := h1.box
  have g2 := g 2 _ rfl
  clear g
  go_wp2_with fail
  refine (CN.out _).mono ?_; rintro e w2 ⟨rfl, h2⟩
  have gs2 := Nat.lt_of_lt_of_le gs h2.size
  have g2' : w2.cell? ⟨w.heap.size, 2, none⟩ = some (.slice q vals.length cap) := by rw [h2.cell (by exact gs)]; exact g2
  have e2 := hW.trans (h1.trans h2)
  clear CK CN
  go_wp2
  go_loopw [4, 25] (fun s' i' wr => ∃ (k : Nat) (b : ByteArray), k ≤ vals.length ∧ i' = .int .i64 k ∧ s' = .string b ∧ b.size ≤ 52 + k * 42 ∧ Ext w2 wr ∧ Hid (b.data.toList = (putT (bS key) ++ putL M) ++ putVals (vals.take k))) (fun _ i' _ => vals.length - (intOf i').toNat)
  case atStart => exact ⟨0, _, by omega, rfl, rfl, by rw [ByteArray.size_append]; omega, Ext.refl _, hst0⟩
  case round =>
   obtain ⟨k, b, hk, rfl, rfl, hbs, hb, HB⟩ := hrel
   have er := e2.trans hb
   by_cases hlt : k < vals.length
   ·obtain ⟨bb, off, rfl, hbl, c0⟩ := (hx.ext er).at hlt
    have s1 := hf3 _ (strAt_mem hlt)
    have s2 := textB32s s1
    have C : Calls Tryz.prog 62 #[.string (strAt vals k)] wr fun e w' => e = .returned (.string (textB (strAt vals k))) ∧ Ext wr w' := puttext_w _ wr (by omega)
    have hst : Hid ((b ++ textB (strAt vals k)).data.toList = (putT (bS key) ++ putL M) ++ putVals (vals.take (k + 1))) := by
     show _ = _
     rw [data_append, HB.out, putVals_step hlt, List.append_assoc]; rfl
    generalize textB (strAt vals k) = t1 at *
    go_wp2_with fail
    refine C.mono ?_; rintro e w3 ⟨rfl, h3⟩
    go_wp2
    go_roundw
    case rel => exact ⟨k + 1, _, by omega, by go_num, rfl, by rw [ByteArray.size_append]; omega, hb.trans h3, hst⟩
    case measure => simp [intOf]; omega
   ·obtain rfl : k = vals.length := by omega
    have h := HB.out
    rw [List.take_length] at h
    have hz := Lib.hid (hfin.out b h)
    clear h
    go_wp2
    go_ret
    exact ⟨by rw [← hz.out]; rfl, er⟩
set_option maxHeartbeats 2000000 in
set_option maxRecDepth 100000 in
theorem sput_w (R : List RowS) (v : Value) (w : World) (hm : R.length ≤ 35184372088832) (hf : FitR R) (hx : Terms w v R) (ht : Tabs w) :
  Calls Tryz.prog 105 #[v] w fun e w' => e = .returned (.string ⟨(putS (R.map rowT)).toArray⟩) ∧ Ext w w' := by
 obtain ⟨q, cap, rfl, hcap, hcm⟩ := hx.shape
 have C := sright_w R _ w hm hf hx ht
 cases hR : rightS (R.map rowT) with
 | false =>
  have hz : Hid (putS (R.map rowT) = []) := by show _ = _; unfold putS; rw [hR]; rfl
  rw [hR] at C
  clear hR
  go_enter Tryz.func105, Tryz.ntmps105
  go_wp2_with fail
  refine C.mono ?_; rintro e w1 ⟨rfl, h1⟩
  go_wp2
  go_ret
  exact ⟨by rw [hz.out]; rfl, h1⟩
 | true =>
  have hz : Hid (putS (R.map rowT) = putL R.length ++ putTms (R.map rowT)) := by show _ = _; unfold putS; rw [hR, List.length_map]; rfl
  have h4 : R.length ≤ 4 := by have := (rightS_iff.1 hR).1; rwa [List.length_map] at this
  have hsh : Hid (∀ k, k < R.length → ShortT (rowT (sAtR R k))) := fun k hk => rightT_sizes ((rightS_iff.1 hR).2 _ (List.mem_map_of_mem (sAtR_mem hk)))
  have hU : U64 R.length := show R.length < _ by omega
  have hpl := putL_ten hU
  rw [hR] at C
  clear hR
  go_enter Tryz.func105, Tryz.ntmps105
  go_wp2_with fail
  refine C.mono ?_; rintro e w1 ⟨rfl, h1⟩
  clear C
  go_wp2_with fail
  refine (put_w R.length w1 hU).mono ?_; rintro e w2 ⟨rfl, h2⟩
  have e2 := h1.trans h2
  go_wp2
  go_loopw [3, 15] (fun s' i' wr => ∃ (k : Nat) (b : ByteArray), k ≤ R.length ∧ i' = .int .i64 k ∧ s' = .string b ∧ b.size ≤ 10 + k * 220 ∧ Ext w2 wr ∧ Hid (b.data.toList = putL R.length ++ putTms ((R.take k).map rowT))) (fun _ i' _ => R.length - (intOf i').toNat)
  case atStart => exact ⟨0, ⟨(putL R.length).toArray⟩, by omega, rfl, rfl, by rw [size_len]; exact hpl, Ext.refl _, by show _ = _; simp [putTms]⟩
  case round =>
   obtain ⟨k, b, hk, rfl, rfl, hbs, hb, HB⟩ := hrel
   have er := e2.trans hb
   by_cases hlt : k < R.length
   ·obtain ⟨bb, off, rfl, hbl, c0, c1, c2⟩ := (hx.ext er).at hlt
    have vx := (hx.ext er).val hlt
    have hs := hsh.out k hlt
    have hst : Hid ((b ++ putTmB (rowT (sAtR R k))).data.toList = putL R.length ++ putTms ((R.take (k + 1)).map rowT)) := by
     show _ = _
     rw [data_append, HB.out, rowT_take hlt, putTms_step, List.append_assoc]; rfl
    have ss := putTmB_short hs
    generalize sAtR R k = r at *
    obtain ⟨k1, n1, v1, vals1⟩ := r
    have vx : Strs wr v1 vals1 := vx
    simp only at c0 c1 c2
    obtain ⟨q3, cap3, rfl, _, _⟩ := vx.shape
    have hW := (Ext.refl wr).alloc (.cells #[.string k1, .bool n1, .slice q3 vals1.length cap3] 179)
    have C : Calls Tryz.prog 133 #[.agg #[.string k1, .bool n1, .slice q3 vals1.length cap3]] (wr.alloc (.cells #[.string k1, .bool n1, .slice q3 vals1.length cap3] 179)) fun e w' => e = .returned (.string (putTmB (rowT (k1, n1, .slice q3 vals1.length cap3, vals1)))) ∧ Ext (wr.alloc (.cells #[.string k1, .bool n1, .slice q3 vals1.length cap3] 179)) w' := tput_w k1 n1 vals1 _ _ hs (vx.ext hW)
    generalize putTmB (rowT (k1, n1, .slice q3 vals1.length cap3, vals1)) = t1 at *
    go_wp2_with fail
    refine C.mono ?_; rintro e w3 ⟨rfl, h3⟩
    go_wp2
    go_roundw
    case rel => exact ⟨k + 1, _, by omega, by go_num, rfl, by rw [ByteArray.size_append]; omega, hb.trans (hW.trans h3), hst⟩
    case measure => simp [intOf]; omega
   ·obtain rfl : k = R.length := by omega
    have h := HB.out
    rw [List.take_length, ← hz.out] at h
    have hz' := Lib.hid (mk_bytes h)
    clear h
    go_wp2
    go_ret
    exact ⟨by rw [← hz'.out]; rfl, er⟩
end Go.Proofs.YtefjdmjkofaajaaGreatDoor
namespace Go.Dm
open Go Go.RowKit
end Go.Dm
namespace Go.Proofs.YtefjdmjkofaajaaGreatDoor
open Go.RowKit Go.Dm
end Go.Proofs.YtefjdmjkofaajaaGreatDoor
namespace Go.Dm
open Go Go.RowKit
theorem cellAt_ne {b i j : Nat} (h : i ≠ j) : (⟨b, i, none⟩ : Addr) ≠ ⟨b, j, none⟩ := by intro e; injection e with _ e; exact h e
theorem cell_set_ne {w : World} {b i j : Nat} {u v : Value} (h : w.cell? ⟨b, j, none⟩ = some v) (hij : i ≠ j) : (w.setCell ⟨b, i, none⟩ u).cell? ⟨b, j, none⟩ = some v := by
 have hne := cellAt_ne (b := b) hij
 first
  | (rw [World.cell?_setCell_other _ _ _ hne]; exact h)
  | (rw [World.cell?_setCell_other _ _ _ _ hne]; exact h)
  | (rw [World.cell?_setCell_other (h := hne)]; exact h)
theorem cell_set_eq {w : World} {b i : Nat} {u v : Value} (h : w.cell? ⟨b, i, none⟩ = some v) : (w.setCell ⟨b, i, none⟩ u).cell? ⟨b, i, none⟩ = some u := by
 first
  | exact World.cell?_setCell_same _ _ _ h
  | exact World.cell?_setCell_same _ _ h
theorem cell_set_far {w : World} {b c i j : Nat} {u v : Value} (h : w.cell? ⟨b, j, none⟩ = some v) (hbc : c ≠ b) : (w.setCell ⟨c, i, none⟩ u).cell? ⟨b, j, none⟩ = some v := by
 have hne : (⟨c, i, none⟩ : Addr) ≠ ⟨b, j, none⟩ := by intro e; injection e with e; exact hbc e
 first
  | (rw [World.cell?_setCell_other _ _ _ hne]; exact h)
  | (rw [World.cell?_setCell_other _ _ _ _ hne]; exact h)
  | (rw [World.cell?_setCell_other (h := hne)]; exact h)
structure Cell3 (b : Nat) (x y z : Value) (w : World) : Prop where
 lt : b < w.heap.size
 c0 : w.cell? ⟨b, 0, none⟩ = some x
 c1 : w.cell? ⟨b, 1, none⟩ = some y
 c2 : w.cell? ⟨b, 2, none⟩ = some z
 f0 : w.frozen? ⟨b, 0, none⟩ = false
 f1 : w.frozen? ⟨b, 1, none⟩ = false
 f2 : w.frozen? ⟨b, 2, none⟩ = false
theorem Cell3.ext {b : Nat} {x y z : Value} {w w' : World} (h : Cell3 b x y z w) (hx : Ext w w') : Cell3 b x y z w' :=
 ⟨Nat.lt_of_lt_of_le h.lt hx.size, by rw [hx.cell (by exact h.lt)]; exact h.c0, by rw [hx.cell (by exact h.lt)]; exact h.c1, by rw [hx.cell (by exact h.lt)]; exact h.c2,
  by rw [hx.frozen (by exact h.lt)]; exact h.f0, by rw [hx.frozen (by exact h.lt)]; exact h.f1, by rw [hx.frozen (by exact h.lt)]; exact h.f2⟩
theorem Cell3.set0 {b : Nat} {x y z : Value} {w : World} (h : Cell3 b x y z w) (u : Value) : Cell3 b u y z (w.setCell ⟨b, 0, none⟩ u) :=
 ⟨by rw [World.size_setCell]; exact h.lt, cell_set_eq h.c0, cell_set_ne h.c1 (by decide), cell_set_ne h.c2 (by decide), by rw [World.frozen?_setCell]; exact h.f0, by rw [World.frozen?_setCell]; exact h.f1, by rw [World.frozen?_setCell]; exact h.f2⟩
theorem Cell3.set1 {b : Nat} {x y z : Value} {w : World} (h : Cell3 b x y z w) (u : Value) : Cell3 b x u z (w.setCell ⟨b, 1, none⟩ u) :=
 ⟨by rw [World.size_setCell]; exact h.lt, cell_set_ne h.c0 (by decide), cell_set_eq h.c1, cell_set_ne h.c2 (by decide), by rw [World.frozen?_setCell]; exact h.f0, by rw [World.frozen?_setCell]; exact h.f1, by rw [World.frozen?_setCell]; exact h.f2⟩
theorem Cell3.set2 {b : Nat} {x y z : Value} {w : World} (h : Cell3 b x y z w) (u : Value) : Cell3 b x y u (w.setCell ⟨b, 2, none⟩ u) :=
 ⟨by rw [World.size_setCell]; exact h.lt, cell_set_ne h.c0 (by decide), cell_set_ne h.c1 (by decide), cell_set_eq h.c2, by rw [World.frozen?_setCell]; exact h.f0, by rw [World.frozen?_setCell]; exact h.f1, by rw [World.frozen?_setCell]; exact h.f2⟩
theorem Cell3.far {b c i : Nat} {x y z : Value} {w : World} (h : Cell3 b x y z w) (hc : c ≠ b) (u : Value) : Cell3 b x y z (w.setCell ⟨c, i, none⟩ u) :=
 ⟨by rw [World.size_setCell]; exact h.lt, cell_set_far h.c0 hc, cell_set_far h.c1 hc, cell_set_far h.c2 hc, by rw [World.frozen?_setCell]; exact h.f0, by rw [World.frozen?_setCell]; exact h.f1, by rw [World.frozen?_setCell]; exact h.f2⟩
theorem Cell3.new (w : World) (x y z : Value) (t : TypeId) : Cell3 w.heap.size x y z (w.alloc (.cells #[x, y, z] t)) :=
 ⟨by simp, by simp, by simp, by simp, by simp, by simp, by simp⟩
theorem Cell3.put {b : Nat} {x y z : Value} {w : World} (h : Cell3 b x y z w) (u v q : Value) : Cell3 b u v q (((w.setCell ⟨b, 0, none⟩ u).setCell ⟨b, 1, none⟩ v).setCell ⟨b, 2, none⟩ q) := ((h.set0 u).set1 v).set2 q
theorem Sl.far {w : World} {sz b off n cap c i : Nat} {cs : List Value} (h : Sl w sz (.slice (some ⟨b, off, none⟩) n cap) n cs) (hc : c ≠ b) (u : Value) : Sl (w.setCell ⟨c, i, none⟩ u) sz (.slice (some ⟨b, off, none⟩) n cap) n cs := by
 obtain ⟨hl, p, cap', hv, hn, hm, hz, h⟩ := h
 injection hv with e1 _ e2
 subst e1 e2
 refine ⟨hl, _, _, rfl, hn, hm, hz, ?_⟩
 rcases h with h | ⟨b', off', hp, hlt, h⟩
 ·exact Or.inl h
 ·injection hp with hp; injection hp with hp1 hp2
  subst hp1 hp2
  exact Or.inr ⟨b, off, rfl, by rw [World.size_setCell]; exact hlt, fun j u' hj => cell_set_far (h j u' hj) hc⟩
theorem below_put3 {B b : Nat} {w w' : World} (h : Below B w w') (hb : B ≤ b) (u v q : Value) : Below B w (((w'.setCell ⟨b, 0, none⟩ u).setCell ⟨b, 1, none⟩ v).setCell ⟨b, 2, none⟩ q) :=
 ((h.setCell (p := ⟨b, 0, none⟩) hb u).setCell (p := ⟨b, 1, none⟩) hb v).setCell (p := ⟨b, 2, none⟩) hb q
end Go.Dm
namespace Go.Proofs.YtefjdmjkofaajaaGreatDoor
open Go.RowKit Go.Dm
end Go.Proofs.YtefjdmjkofaajaaGreatDoor
namespace Go.Dm
open Go Go.RowKit
end Go.Dm
namespace Go.Proofs.YtefjdmjkofaajaaGreatDoor
open Go.RowKit Go.Dm
theorem Tryz.slTerm : SlT Tryz.prog 28 179 3 48 := SlT.mk' Tryz.underlying28 (by kernel_rfl) (by decide) (by decide)
end Go.Proofs.YtefjdmjkofaajaaGreatDoor
namespace Go.Dm
open Go Go.RowKit
theorem Ext.grownBy {w w' : World} (h : Ext w w') (r : Option Nat) : w.grownBy w' r := ⟨h.os, h.tape, h.output, h.size, fun k hk _ => h.block k hk⟩
theorem grown_trans {w w' w'' : World} {r : Option Nat} (h : w.grownBy w' r) (h' : w'.grownBy w'' r) : w.grownBy w'' r :=
 ⟨h'.os.trans h.os, h'.tape.trans h.tape, h'.output.trans h.output, Nat.le_trans h.size h'.size, fun k hk hr => (h'.block k (Nat.lt_of_lt_of_le hk h.size) hr).trans (h.block k hk hr)⟩
theorem grown_set (w : World) (b i : Nat) (v : Value) : w.grownBy (w.setCell ⟨b, i, none⟩ v) (some b) := by
 refine ⟨rfl, rfl, rfl, by rw [World.size_setCell]; exact Nat.le_refl _, fun k _ hr => ?_⟩
 simp only [World.setCell, Array.getElem?_modify]
 rw [if_neg (fun e => hr (by rw [e]))]
theorem grown_set_new {w w' : World} {r : Option Nat} (h : w.grownBy w' r) {c : Nat} (hc : w.heap.size ≤ c) (i : Nat) (v : Value) : w.grownBy (w'.setCell ⟨c, i, none⟩ v) r := by
 refine ⟨h.os, h.tape, h.output, by rw [World.size_setCell]; exact h.size, fun k hk hr => ?_⟩
 rw [← h.block k hk hr]
 simp only [World.setCell, Array.getElem?_modify]
 rw [if_neg (fun e => by omega)]
theorem grown_new {w w' w'' : World} {r q : Option Nat} (h : w.grownBy w' r) (h' : w'.grownBy w'' q) (hq : ∀ c, q = some c → w.heap.size ≤ c) : w.grownBy w'' r := by
 refine ⟨h'.os.trans h.os, h'.tape.trans h.tape, h'.output.trans h.output, Nat.le_trans h.size h'.size, fun k hk hr => ?_⟩
 rw [← h.block k hk hr]
 exact h'.block k (Nat.lt_of_lt_of_le hk h.size) (fun e => by have := hq k e.symm; omega)
theorem Cell2.far {b c i : Nat} {x y : Value} {w : World} (h : Cell2 b x y w) (hc : c ≠ b) (u : Value) : Cell2 b x y (w.setCell ⟨c, i, none⟩ u) :=
 ⟨by rw [World.size_setCell]; exact h.lt, cell_set_far h.c0 hc, cell_set_far h.c1 hc, by rw [World.frozen?_setCell]; exact h.f0, by rw [World.frozen?_setCell]; exact h.f1⟩
theorem Cell2.grown {b : Nat} {x y : Value} {w w' : World} {q : Option Nat} (h : Cell2 b x y w) (hg : w.grownBy w' q) (hb : q ≠ some b) : Cell2 b x y w' := by
 have hc : ∀ i, w'.cell? ⟨b, i, none⟩ = w.cell? ⟨b, i, none⟩ := fun i => World.cell?_of_block (a := ⟨b, i, none⟩) (hg.block b h.lt (fun e => hb e.symm))
 have hf : ∀ i, w'.frozen? ⟨b, i, none⟩ = w.frozen? ⟨b, i, none⟩ := fun i => World.frozen?_of_block (a := ⟨b, i, none⟩) (hg.block b h.lt (fun e => hb e.symm))
 exact ⟨Nat.lt_of_lt_of_le h.lt hg.size, by rw [hc]; exact h.c0, by rw [hc]; exact h.c1, by rw [hf]; exact h.f0, by rw [hf]; exact h.f1⟩
theorem Cell3.grown {b : Nat} {x y z : Value} {w w' : World} {q : Option Nat} (h : Cell3 b x y z w) (hg : w.grownBy w' q) (hb : q ≠ some b) : Cell3 b x y z w' := by
 have hc : ∀ i, w'.cell? ⟨b, i, none⟩ = w.cell? ⟨b, i, none⟩ := fun i => World.cell?_of_block (a := ⟨b, i, none⟩) (hg.block b h.lt (fun e => hb e.symm))
 have hf : ∀ i, w'.frozen? ⟨b, i, none⟩ = w.frozen? ⟨b, i, none⟩ := fun i => World.frozen?_of_block (a := ⟨b, i, none⟩) (hg.block b h.lt (fun e => hb e.symm))
 exact ⟨Nat.lt_of_lt_of_le h.lt hg.size, by rw [hc]; exact h.c0, by rw [hc]; exact h.c1, by rw [hc]; exact h.c2, by rw [hf]; exact h.f0, by rw [hf]; exact h.f1, by rw [hf]; exact h.f2⟩
theorem row_shape {w : World} {base e size n : Nat} {v : Value} {xs : List Value} (h : w.ownsRow base e size v n xs) : ∃ p cap, v = .slice p n cap := by
 obtain ⟨_, h⟩ := h
 rcases h with ⟨rfl, rfl⟩ | ⟨g, cap, cur, hv, _⟩
 ·exact ⟨none, 0, rfl⟩
 ·exact ⟨_, _, hv⟩
theorem some_ne {b c : Nat} (h : b ≠ c) : some b ≠ some c := fun e => h (by injection e)
theorem grown_row {w w' : World} {q : Option Nat} {base e size n : Nat} {v : Value} {xs : List Value} (h : w.ownsRow base e size v n xs) (hg : w.grownBy w' q) (hq : ∀ c, q = some c → c < base) : w'.ownsRow base e size v n xs := by
 obtain ⟨hl, h⟩ := h
 refine ⟨hl, ?_⟩
 rcases h with h | ⟨g, cap, cur, hv, hb, hgg, r⟩
 ·exact Or.inl h
 ·exact Or.inr ⟨g, cap, cur, hv, hb, by rw [hg.block g (Array.getElem?_eq_some_iff.1 hgg).1 (fun e => by have := hq g e.symm; omega)]; exact hgg, r⟩
end Go.Dm
namespace Go.Proofs.YtefjdmjkofaajaaGreatDoor
open Go.RowKit Go.Dm
def badV : Value := .iface 209 (.agg #[])
set_option maxHeartbeats 1000000 in
theorem number_yes (b : Nat) (s : ByteArray) (p n : Int) (u most : Nat) (w : World) (hs : s.size ≤ 281474976710656) (K : Cell2 b (.string s) (.int .i64 p) w) (hu : u ≤ most) (hm : most ≤ 1000) (hg : getI s.data.toList p = (u, n, true)) :
  Calls Tryz.prog 140 #[.pointer (some ⟨b, 0, none⟩), .int .u64 most] w fun e w' => e = .returned (.int .i64 u) ∧ Cell2 b (.string s) (.int .i64 n) w' ∧ w.grownBy w' (some b) := by
 have C : Hid (∀ U, Calls Tryz.prog 81 #[.string s, .int .i64 p] U fun e w' => e = .returned (.tuple #[.int .u64 u, .int .i64 n, .bool true]) ∧ Ext U w') := fun U => by
  have := wget_w s p U hs
  rw [hg] at this
  exact this
 clear hg
 have k0 := K.c0
 have k1 := K.c1
 have hlt := K.lt
 go_enter Tryz.func140, Tryz.ntmps140
 go_wp2_with fail
 refine Dm.wp_region_grow (by kernel_rfl) (by kernel_rfl) ?_
 repeat (go_big_quiet_step (first
  | (go_at_call 81; with_reducible exact Calls.quietE (C.out _))))
 refine wpQuiet_nil ?_
 intro U hU
 have KU := K.ext hU
 have KF := KU.set1 (.int .i64 n)
 have hG := grown_trans (Ext.grownBy hU (some b)) (grown_set U b 1 (.int .i64 n))
 obtain ⟨u0, u1, u2, u3, u4⟩ := KU
 clear C k0 k1
 go_wp2
 go_ret
 exact ⟨rfl, KF, hG⟩
set_option maxHeartbeats 1000000 in
theorem number_no (b : Nat) (s : ByteArray) (p : Int) (most : Nat) (w : World) (hs : s.size ≤ 281474976710656) (K : Cell2 b (.string s) (.int .i64 p) w) (_hm : most ≤ 1000) (hg : (getI s.data.toList p).2.2 = true → most < (getI s.data.toList p).1) :
  Calls Tryz.prog 140 #[.pointer (some ⟨b, 0, none⟩), .int .u64 most] w fun e w' => e = .panicked [{ v := badV, recovered := false }] ∧ w.grownBy w' (some b) := by
 have C := fun U => wget_w s p U hs
 generalize (getI s.data.toList p).1 = u at *
 generalize (getI s.data.toList p).2.1 = n at *
 generalize (getI s.data.toList p).2.2 = o at *
 have C : Hid (∀ U, Calls Tryz.prog 81 #[.string s, .int .i64 p] U fun e w' => e = .returned (.tuple #[.int .u64 u, .int .i64 n, .bool o]) ∧ Ext U w') := C
 have k0 := K.c0
 have k1 := K.c1
 have hlt := K.lt
 cases o with
 | false =>
  clear hg
  go_enter Tryz.func140, Tryz.ntmps140
  go_wp2_with fail
  refine Dm.wp_region_grow (by kernel_rfl) (by kernel_rfl) ?_
  repeat (go_big_quiet_step (first
   | (go_at_call 81; with_reducible exact Calls.quietE (C.out _))))
  refine wpQuiet_nil ?_
  intro U hU
  clear C k0 k1
  go_wp2
  exact ⟨rfl, rfl, Ext.grownBy hU (some b)⟩
 | true =>
  replace hg := hg rfl
  go_enter Tryz.func140, Tryz.ntmps140
  go_wp2_with fail
  refine Dm.wp_region_grow (by kernel_rfl) (by kernel_rfl) ?_
  repeat (go_big_quiet_step (first
   | (go_at_call 81; with_reducible exact Calls.quietE (C.out _))))
  refine wpQuiet_nil ?_
  intro U hU
  clear C k0 k1
  go_wp2
  exact ⟨rfl, rfl, Ext.grownBy hU (some b)⟩
set_option maxHeartbeats 1000000 in
theorem rtext_yes (b : Nat) (s : ByteArray) (p n : Int) (t : Bs) (w : World) (hs : s.size ≤ 281474976710656) (K : Cell2 b (.string s) (.int .i64 p) w) (hg : atI (getTextL 32) [] s.data.toList p = (t, n, true)) :
  Calls Tryz.prog 163 #[.pointer (some ⟨b, 0, none⟩)] w fun e w' => e = .returned (.string ⟨t.toArray⟩) ∧ Cell2 b (.string s) (.int .i64 n) w' ∧ w.grownBy w' (some b) := by
 have C : Hid (∀ U, Calls Tryz.prog 80 #[.string s, .int .i64 p, .int .i64 32] U fun e w' => e = .returned (.tuple #[.string ⟨t.toArray⟩, .int .i64 n, .bool true]) ∧ Ext U w') := fun U => by
  have := wgettext_w s p 32 U hs (by omega)
  rw [hg] at this
  exact this
 clear hg
 have k0 := K.c0
 have k1 := K.c1
 have hlt := K.lt
 generalize (⟨t.toArray⟩ : ByteArray) = T at *
 go_enter Tryz.func163, Tryz.ntmps163
 go_wp2_with fail
 refine Dm.wp_region_grow (by kernel_rfl) (by kernel_rfl) ?_
 repeat (go_big_quiet_step (first
  | (go_at_call 80; with_reducible exact Calls.quietE (C.out _))))
 refine wpQuiet_nil ?_
 intro U hU
 have KU := K.ext hU
 have KF := KU.set1 (.int .i64 n)
 have hG := grown_trans (Ext.grownBy hU (some b)) (grown_set U b 1 (.int .i64 n))
 obtain ⟨u0, u1, u2, u3, u4⟩ := KU
 clear C k0 k1
 go_wp2
 go_ret
 exact ⟨rfl, KF, hG⟩
set_option maxHeartbeats 1000000 in
theorem rtext_no (b : Nat) (s : ByteArray) (p : Int) (w : World) (hs : s.size ≤ 281474976710656) (K : Cell2 b (.string s) (.int .i64 p) w) (hg : (atI (getTextL 32) [] s.data.toList p).2.2 = false) :
  Calls Tryz.prog 163 #[.pointer (some ⟨b, 0, none⟩)] w fun e w' => e = .panicked [{ v := badV, recovered := false }] ∧ w.grownBy w' (some b) := by
 have C := fun U => wgettext_w s p 32 U hs (by omega)
 generalize (atI (getTextL 32) [] s.data.toList p).1 = t at *
 generalize (atI (getTextL 32) [] s.data.toList p).2.1 = n at *
 rw [hg] at C
 clear hg
 generalize (⟨t.toArray⟩ : ByteArray) = T at *
 have C : Hid (∀ U, Calls Tryz.prog 80 #[.string s, .int .i64 p, .int .i64 32] U fun e w' => e = .returned (.tuple #[.string T, .int .i64 n, .bool false]) ∧ Ext U w') := C
 have k0 := K.c0
 have k1 := K.c1
 have hlt := K.lt
 go_enter Tryz.func163, Tryz.ntmps163
 go_wp2_with fail
 refine Dm.wp_region_grow (by kernel_rfl) (by kernel_rfl) ?_
 repeat (go_big_quiet_step (first
  | (go_at_call 80; with_reducible exact Calls.quietE (C.out _))))
 refine wpQuiet_nil ?_
 intro U hU
 clear C k0 k1
 go_wp2
 exact ⟨rfl, rfl, Ext.grownBy hU (some b)⟩
end Go.Proofs.YtefjdmjkofaajaaGreatDoor
namespace Go.Dm
open Go Go.RowKit
def getTermL (l : Bs) : Option ((Bs × Bool × List Bs) × Nat) :=
  match getTextL 32 l with
  | none => none
  | some (k, n) => match getL (l.drop n) with
    | none => none
    | some (u, m) => if u ≤ 9 then (match readsL (getTextL 32) l (n + m) (u / 2) with
      | none => none
      | some (vs, r) => some ((k, u % 2 == 1, vs), r)) else none
theorem getTermL_no1 {l : Bs} (h : getTextL 32 l = none) : getTermL l = none := by unfold getTermL; rw [h]
theorem getTermL_no2 {l k : Bs} {n : Nat} (h : getTextL 32 l = some (k, n)) (h2 : getL (l.drop n) = none) : getTermL l = none := by unfold getTermL; rw [h]; simp only; rw [h2]
theorem getTermL_mid {l k : Bs} {n u m : Nat} (h : getTextL 32 l = some (k, n)) (h2 : getL (l.drop n) = some (u, m)) : getTermL l = if u ≤ 9 then (match readsL (getTextL 32) l (n + m) (u / 2) with | none => none | some (vs, r) => some ((k, u % 2 == 1, vs), r)) else none := by unfold getTermL; rw [h]; simp only; rw [h2]
theorem atI_pos {α : Type} {g : Bs → Option (α × Nat)} {d : α} {l : Bs} {p : Nat} (h0 : g [] = none) : atI g d l (p : Int) = match g (l.drop p) with | some (u, m) => (u, (p : Int) + (m : Int), true) | none => (d, 0, false) := by
  have := atI_drop (d := d) (l := l) (q := p) (n := 0) h0
  simp only [Int.natCast_zero, Int.add_zero, Nat.add_zero] at this
  rw [this]
  cases g (l.drop p) <;> rfl
theorem getL_nil : getL [] = none := rfl
theorem strs_snoc (vs : List ByteArray) (x : ByteArray) : (vs ++ [x]).map Value.string = vs.map Value.string ++ [.string x] := List.map_append
theorem readsL_succ {α : Type} {g : Bs → Option (α × Nat)} {l : Bs} {q k r : Nat} {xs : List α} (h : readsL g l q k = some (xs, r)) : readsL g l q (k + 1) = match g (l.drop r) with | some (x, n) => some (xs ++ [x], r + n) | none => none := by
  rw [readsL, h]
  rfl
end Go.Dm
namespace Go.Proofs.YtefjdmjkofaajaaGreatDoor
open Go.RowKit Go.Dm
set_option maxHeartbeats 2000000 in
set_option maxRecDepth 100000 in
theorem rterm_w (b : Nat) (s : ByteArray) (p : Nat) (w : World) (hs : s.size ≤ 281474976710656) (K : Cell2 b (.string s) (.int .i64 p) w) :
    Calls Tryz.prog 141 #[.pointer (some ⟨b, 0, none⟩)] w fun e w' => w.grownBy w' (some b) ∧
      ((∃ (T : Bs × Bool × List Bs) (r : Nat) (row : RowS), getTermL (s.data.toList.drop p) = some (T, r) ∧ e = .returned (.agg #[.string row.1, .bool row.2.1, row.2.2.1]) ∧ rowT row = mkT T ∧ Strs w' row.2.2.1 row.2.2.2 ∧ (∀ c, row.2.2.1.ownBlock = some c → w.heap.size ≤ c) ∧ Cell2 b (.string s) (.int .i64 ((p + r : Nat) : Int)) w') ∨
       (getTermL (s.data.toList.drop p) = none ∧ e = .panicked [{ v := badV, recovered := false }])) := by
  have hlt := K.lt
  have hW : Ext w (w.alloc (.cells #[.string ⟨#[]⟩, .bool false, .slice none 0 0] 179)) := (Ext.refl _).alloc _
  have R0 := Cell3.new w (.string ⟨#[]⟩) (.bool false) (.slice none 0 0) 179
  have K1 := K.ext hW
  have A1 : atI (getTextL 32) [] s.data.toList (p : Int) = _ := atI_pos (getTextL_nil 32)
  cases hT : getTextL 32 (s.data.toList.drop p) with
  | none =>
    have hz := Lib.hid (getTermL_no1 hT)
    rw [hT] at A1
    have C := rtext_no b s p _ hs K1 (by rw [A1])
    clear A1 hT
    go_enter Tryz.func141, Tryz.ntmps141
    go_wp2_with fail
    refine C.mono ?_; rintro e w1 ⟨rfl, h1⟩
    exact ⟨rfl, grown_trans (Ext.grownBy hW _) h1, Or.inr ⟨hz.out, rfl⟩⟩
  | some x =>
    obtain ⟨k, n⟩ := x
    rw [hT] at A1
    have C := rtext_yes b s p _ k _ hs K1 A1
    clear A1
    have A2 : getI s.data.toList ((p + n : Nat) : Int) = _ := (getI_at _ _).trans (atI_pos getL_nil)
    rw [← List.drop_drop] at A2
    cases hN : getL ((s.data.toList.drop p).drop n) with
    | none =>
      have hz := Lib.hid (getTermL_no2 hT hN)
      rw [hN] at A2
      have C2 := fun w2 K2 => number_no b s ((p + n : Nat) : Int) 9 w2 hs K2 (by omega) (fun h => by rw [A2] at h; cases h)
      clear A2 hT hN
      replace C2 := Lib.hid C2
      go_enter Tryz.func141, Tryz.ntmps141
      go_wp2_with fail
      refine C.mono ?_; rintro e w1 ⟨rfl, K2, h1⟩
      have hA := (Ext.refl w1).alloc (.cells #[.string ⟨k.toArray⟩, .bool false, .slice none 0 0] 179)
      go_wp2_with fail
      refine (C2.out _ (K2.ext hA)).mono ?_; rintro e w2 ⟨rfl, h2⟩
      exact ⟨rfl, grown_trans (grown_trans (Ext.grownBy hW _) h1) (grown_trans (Ext.grownBy hA _) h2), Or.inr ⟨hz.out, rfl⟩⟩
    | some x =>
      obtain ⟨u, m⟩ := x
      have hz := getTermL_mid hT hN
      rw [hN] at A2
      clear hT hN
      by_cases h9 : u ≤ 9
      · rw [if_pos h9] at hz
        have C2 := fun w2 K2 => number_yes b s ((p + n : Nat) : Int) _ u 9 w2 hs K2 h9 (by omega) A2
        clear A2
        replace C2 := Lib.hid C2
        replace hz := Lib.hid hz
        go_enter Tryz.func141, Tryz.ntmps141
        go_wp2_with fail
        refine C.mono ?_; rintro e w1 ⟨rfl, K2, h1⟩
        have hA := (Ext.refl w1).alloc (.cells #[.string ⟨k.toArray⟩, .bool false, .slice none 0 0] 179)
        go_wp2_with fail
        refine (C2.out _ (K2.ext hA)).mono ?_; rintro e w2 ⟨rfl, K3, h2⟩
        have hb1 : b < w1.heap.size := Nat.lt_of_lt_of_le K1.lt h1.size
        have hBB : w.heap.size < w1.heap.size := by have := h1.size; rw [World.size_alloc] at this; omega
        have T2 := (Cell3.new w1 (.string ⟨k.toArray⟩) (.bool false) (.slice none 0 0) 179).grown h2 (some_ne (by omega))
        have R2 := ((R0.grown h1 (some_ne (by omega))).ext hA).grown h2 (some_ne (by omega))
        have G2 := grown_trans (grown_trans (Ext.grownBy hW (some b)) h1) (grown_trans (Ext.grownBy hA (some b)) h2)
        have T3 := T2.set1 (.bool (u % 2 == 1))
        have R3 := R2.far (c := w1.heap.size) (i := 1) (by omega) (.bool (u % 2 == 1))
        have K4 := K3.far (c := w1.heap.size) (i := 1) (by omega) (.bool (u % 2 == 1))
        have G3 := grown_set_new G2 (c := w1.heap.size) (by omega) 1 (.bool (u % 2 == 1))
        obtain ⟨t0, t1, t2, t3, t4, t5, t6⟩ := T2
        have e0 : ((p + n : Nat) : Int) + (m : Int) = ((p + (n + m) : Nat) : Int) := by omega
        rw [e0] at K4
        have hno : ((u : Int) % 2 == 1) = (u % 2 == 1) := by
          rw [Bool.eq_iff_iff, beq_iff_eq, beq_iff_eq]; omega
        clear e0 K2 K3 K1 K R0 C C2 hA h1 h2 hW R2 G2
        go_wp2
        clear hno
        generalize (u % 2 == 1) = no at *
        generalize hw3 : w2.setCell ⟨w1.heap.size, 1, none⟩ (.bool no) = w3 at *
        have hd2 : (u : Int) / 2 = ((u / 2 : Nat) : Int) := by omega
        obtain ⟨h, hh⟩ : ∃ h, h = u / 2 := ⟨_, rfl⟩
        rw [← hh] at hd2 hz
        rw [hd2]
        have h4 : h ≤ 4 := by omega
        generalize hKB : (⟨k.toArray⟩ : ByteArray) = KB at *
        replace hKB := Lib.hid hKB
        replace hh := Lib.hid hh
        replace hw3 := Lib.hid hw3
        have hb3 : w1.heap.size < w3.heap.size := T3.lt
        obtain ⟨B3, hB3⟩ : ∃ B3, B3 = w3.heap.size := ⟨_, rfl⟩
        have hbb : b < B3 ∧ w.heap.size < B3 ∧ w1.heap.size < B3 := by omega
        clear t0 t1 t2 t3 t4 t5 t6
        go_loopw [16] (fun i' wr => ∃ (j : Nat) (vs : List ByteArray) (r : Nat) (v : Value), j ≤ h ∧ i' = .int .i64 j ∧ Cell2 b (.string s) (.int .i64 ((p + r : Nat) : Int)) wr ∧ Cell3 w1.heap.size (.string KB) (.bool no) v wr ∧
          Cell3 w.heap.size (.string ⟨#[]⟩) (.bool false) (.slice none 0 0) wr ∧ wr.ownsRow B3 9 1 v j (vs.map .string) ∧ vs.length = j ∧ B3 ≤ wr.heap.size ∧ w.grownBy wr (some b) ∧ Hid (readsL (getTextL 32) (s.data.toList.drop p) (n + m) j = some (bytesOf vs, r))) (fun i' _ => h - (intOf i').toNat)
        case atStart => exact ⟨0, [], n + m, .slice none 0 0, by omega, rfl, K4, T3, R3, World.ownsRow_nil _ _ _ _, rfl, by omega, G3, rfl⟩
        case round =>
          obtain ⟨j, vs, r, v, hj, rfl, hK, hT, hR, ho, hvl, hB, hG, HR⟩ := hrel
          by_cases hlt2 : j < h
          · have hst := readsL_succ HR.out
            have A1 : atI (getTextL 32) [] s.data.toList ((p + r : Nat) : Int) = _ := atI_pos (getTextL_nil 32)
            rw [← List.drop_drop] at A1
            cases hX : getTextL 32 ((s.data.toList.drop p).drop r) with
            | none =>
              rw [hX] at hst A1
              have hz' : Hid (getTermL (s.data.toList.drop p) = none) := by
                have := readsL_none hst (show j + 1 ≤ h by omega)
                show _ = _
                rw [hz.out, this]
              have C := fun U K => rtext_no b s ((p + r : Nat) : Int) U hs K (by rw [A1])
              clear hst A1 hX
              replace C := Lib.hid C
              go_wp2_with fail
              refine sx_ ?_
              refine rf_ (Cell3 w1.heap.size (.string KB) (.bool no) v) 7 8 ?_
              refine tfs [0, 1, 2] 7 5 (fun _ _ h hx => h.ext hx) hT ?_ (hq := by intro wq hwq; obtain ⟨_, a0, a1, a2, _, _, _⟩ := hwq; (repeat go_big_quiet_step (fail)); exact wpQuiet_nil rfl)
              refine f1_ 3 15 fun wm3 hxm3 => ?_
              go_wp2_with fail
              refine (C.out _ (hK.ext hxm3)).mono ?_; rintro e w5 ⟨rfl, h5⟩
              exact ⟨rfl, grown_trans (grown_trans hG (Ext.grownBy hxm3 _)) h5, Or.inr ⟨hz'.out, rfl⟩⟩
            | some x =>
              obtain ⟨t, n2⟩ := x
              rw [hX] at hst A1
              have C := fun U K => rtext_yes b s ((p + r : Nat) : Int) _ t U hs K A1
              clear A1 hX
              generalize hTB : (⟨t.toArray⟩ : ByteArray) = TB at *
              have hst' : Hid (readsL (getTextL 32) (s.data.toList.drop p) (n + m) (j + 1) = some (bytesOf (vs ++ [TB]), r + n2)) := by
                show _ = _
                rw [hst, ← hTB]
                simp [bytesOf]
              clear hst hTB
              replace C := Lib.hid C
              have HI := hT
              go_wp2_with fail
              refine sx_ ?_
              refine rf_ (Cell3 w1.heap.size (.string KB) (.bool no) v) 7 8 ?_
              refine tfs [0, 1, 2] 7 5 (fun _ _ h hx => h.ext hx) HI ?_ (hq := by intro wq hwq; obtain ⟨_, a0, a1, a2, _, _, _⟩ := hwq; (repeat go_big_quiet_step (fail)); exact wpQuiet_nil rfl)
              refine f1_ 3 15 fun wm3 hxm3 => ?_
              go_wp2_with fail
              refine (C.out _ (hK.ext hxm3)).mono ?_; rintro e w5 ⟨rfl, K5, h5⟩
              have T5 := (hT.ext hxm3).grown h5 (some_ne (by omega))
              have R5 := (hR.ext hxm3).grown h5 (some_ne (by omega))
              have G5 := grown_trans (grown_trans hG (Ext.grownBy hxm3 _)) h5
              have o5 := grown_row (Ext.row ho hxm3) h5 (fun c e => by injection e with e; omega)
              have B5 := Nat.le_trans (Nat.le_trans hB hxm3.size) h5.size
              go_wp2_with fail
              refine ⟨(by first | exact T5 | exact fun _ => T5), ?_⟩
              replace HI := T5
              refine sx_ ?_
              refine f1_ 4 31 fun wm4 hxm4 => ?_
              have ha := hxm4.trans ((Ext.refl wm4).alloc (.cells #[.string TB] 9))
              have hl5 := Sl.lit wm4 9 1 1 #[.string TB] rfl (by simp [maxLen])
              go_wp2_with fail
              generalize wm4.alloc (.cells #[.string TB] 9) = w6 at *
              refine ⟨(by first | exact T5.ext ha | exact fun _ => T5.ext ha), ?_⟩
              replace T5 := T5.ext ha
              replace R5 := R5.ext ha
              replace K5 := K5.ext ha
              replace o5 := Ext.row o5 ha
              replace G5 := grown_trans G5 (Ext.grownBy ha _)
              replace B5 := Nat.le_trans B5 ha.size
              replace HI := T5
              refine sx_ ?_
              refine f1_ 5 63 fun wm5 hxm5 => ?_
              replace T5 := T5.ext hxm5
              replace R5 := R5.ext hxm5
              replace K5 := K5.ext hxm5
              replace o5 := Ext.row o5 hxm5
              replace hl5 := hl5.ext hxm5
              replace G5 := grown_trans G5 (Ext.grownBy hxm5 _)
              replace B5 := Nat.le_trans B5 hxm5.size
              refine wpList_app rfl _ _ Tryz.slStr rfl rfl o5 rfl hl5 (strs_one [TB]) (by omega) B5 ?_; intro v6 w7 o7 g7
              have hq : ∀ c, v.ownBlock = some c → B3 ≤ c := fun c e => (World.ownsRow.lt o5 c e).1
              replace T5 := T5.grown g7 (fun e => by have := hq _ e; omega)
              replace R5 := R5.grown g7 (fun e => by have := hq _ e; omega)
              replace K5 := K5.grown g7 (fun e => by have := hq _ e; omega)
              replace G5 := grown_new G5 g7 (fun c e => by have := hq _ e; omega)
              replace B5 := Nat.le_trans B5 g7.size
              refine wpList_nil ?_
              refine ⟨(by first | exact T5 | exact fun _ => T5), ?_⟩
              replace HI := T5
              obtain ⟨q6, cap6, rfl⟩ := row_shape o7
              refine sx_ ?_
              refine tfs [6] 127 1 (fun _ _ h hx => h.ext hx) HI ?_ (hq := by intro wq hwq; obtain ⟨_, a0, a1, a2, _, _, _⟩ := hwq; go_big_quiet_step (fail); exact wpQuiet_nil rfl)
              refine f1_ 7 255 fun wz hxz => ?_
              obtain ⟨_, z0, z1, z2, _, _, y2⟩ := T5.ext hxz
              go_wp2_with fail
              first | refine ⟨fun h => absurd h (by decide), ?_⟩ | skip
              refine fd_ fun wy hxy => ?_
              have T8 := ((T5.ext hxz).set2 (.slice q6 (j + 1) cap6)).ext hxy
              have R8 := ((R5.ext hxz).far (c := w1.heap.size) (i := 2) (by omega) (.slice q6 (j + 1) cap6)).ext hxy
              have K8 := ((K5.ext hxz).far (c := w1.heap.size) (i := 2) (by omega) (.slice q6 (j + 1) cap6)).ext hxy
              have o8 := Ext.row (grown_row (Ext.row o7 hxz) (grown_set wz w1.heap.size 2 (.slice q6 (j + 1) cap6)) (fun c e => by injection e with e; omega)) hxy
              have G8 := grown_trans (grown_set_new (grown_trans G5 (Ext.grownBy hxz _)) (c := w1.heap.size) (by omega) 2 (.slice q6 (j + 1) cap6)) (Ext.grownBy hxy _)
              have B8 : B3 ≤ wy.heap.size := by have h1 := hxz.size; have h2 := hxy.size; rw [World.size_setCell] at h2; omega
              rw [← strs_snoc] at o8
              clear T5 R5 K5 o7 G5 B5 z0 z1 z2 y2
              go_wp2
              go_roundw
              case rel => exact ⟨j + 1, vs ++ [TB], r + n2, .slice q6 (j + 1) cap6, by omega, by go_num, (by rw [← Nat.add_assoc]; exact K8), T8, R8, o8, by simp [hvl], B8, G8, hst'⟩
              case measure => simp [intOf]; omega
          · obtain rfl : j = h := by omega
            obtain ⟨q6, cap6, rfl⟩ := row_shape ho
            have hvs : Strs wr (.slice q6 j cap6) vs := Strs.of_row ho hvl.symm
            have hq : ∀ c, (Value.slice q6 j cap6).ownBlock = some c → B3 ≤ c := fun c e => (World.ownsRow.lt ho c e).1
            have hfin : Hid (getTermL (s.data.toList.drop p) = some ((k, no, bytesOf vs), r)) := by
              show _ = _
              rw [hz.out, HR.out]
            have R8 := hR.put (.string KB) (.bool no) (.slice q6 j cap6)
            have G8 := grown_set_new (grown_set_new (grown_set_new hG (c := w.heap.size) (Nat.le_refl _) 0 (.string KB)) (c := w.heap.size) (Nat.le_refl _) 1 (.bool no)) (c := w.heap.size) (Nat.le_refl _) 2 (.slice q6 j cap6)
            have K8 := ((hK.far (c := w.heap.size) (i := 0) (by omega) (.string KB)).far (c := w.heap.size) (i := 1) (by omega) (.bool no)).far (c := w.heap.size) (i := 2) (by omega) (.slice q6 j cap6)
            have V8 : Strs (((wr.setCell ⟨w.heap.size, 0, none⟩ (.string KB)).setCell ⟨w.heap.size, 1, none⟩ (.bool no)).setCell ⟨w.heap.size, 2, none⟩ (.slice q6 j cap6)) (.slice q6 j cap6) vs := by
              cases q6 with
              | none =>
                have : vs = [] := by
                  by_cases h0 : vs.length = 0
                  · exact List.length_eq_zero_iff.1 h0
                  · subst hvl
                    obtain ⟨_, _, e, _⟩ := hvs.at (k := 0) (by omega)
                    cases e
                subst this
                exact ⟨rfl, hvs.2.choose, hvs.2.choose_spec.choose, hvs.2.choose_spec.choose_spec.1, hvs.2.choose_spec.choose_spec.2.1, hvs.2.choose_spec.choose_spec.2.2.1, hvs.2.choose_spec.choose_spec.2.2.2.1, Or.inl rfl⟩
              | some a =>
                obtain ⟨ab, ao, asp⟩ := a
                have := hq ab rfl
                subst hvl
                by_cases h0 : vs.length = 0
                · have : vs = [] := List.length_eq_zero_iff.1 h0
                  subst this
                  exact ⟨rfl, hvs.2.choose, hvs.2.choose_spec.choose, hvs.2.choose_spec.choose_spec.1, hvs.2.choose_spec.choose_spec.2.1, hvs.2.choose_spec.choose_spec.2.2.1, hvs.2.choose_spec.choose_spec.2.2.2.1, Or.inl rfl⟩
                · obtain ⟨_, _, e, _⟩ := hvs.at (k := 0) (by omega)
                  injection e with e; injection e with e1 e2 e3
                  subst e1 e2 e3
                  exact Sl.far (i := 2) (Sl.far (i := 1) (Sl.far (i := 0) hvs (by omega) _) (by omega) _) (by omega) _
            obtain ⟨_, r0, r1, r2, r3, r4, r5⟩ := hR
            obtain ⟨_, s0, s1, s2, _, _, _⟩ := hT
            have hq' : Hid (∀ c, (Value.slice q6 j cap6).ownBlock = some c → w.heap.size ≤ c) := fun c e => by have := hq c e; omega
            clear ho hvs hq HR hz
            go_wp2
            obtain ⟨_, k0, k1, k2, _, _, _⟩ := R8
            refine bodyPost_ret (v := .agg #[.string KB, .bool no, .slice q6 j cap6]) (by simp [results, Tryz.results141, go_sem, k0, k1, k2]) rfl ?_
            refine ⟨G8, Or.inl ⟨(k, no, bytesOf vs), r, (KB, no, .slice q6 j cap6, vs), hfin.out, rfl, ?_, V8, hq'.out, K8⟩⟩
            rw [← hKB.out]
            simp only [rowT, mkT, bytesOf, List.map_map, Prod.mk.injEq, true_and]
            conv => lhs; rw [← List.map_id vs]
            exact List.map_congr_left fun x _ => by cases x; simp
      · rw [if_neg h9] at hz
        have C2 := fun w2 K2 => number_no b s ((p + n : Nat) : Int) 9 w2 hs K2 (by omega) (fun _ => by rw [A2]; show 9 < u; omega)
        clear A2
        replace C2 := Lib.hid C2
        replace hz := Lib.hid hz
        go_enter Tryz.func141, Tryz.ntmps141
        go_wp2_with fail
        refine C.mono ?_; rintro e w1 ⟨rfl, K2, h1⟩
        have hA := (Ext.refl w1).alloc (.cells #[.string ⟨k.toArray⟩, .bool false, .slice none 0 0] 179)
        go_wp2_with fail
        refine (C2.out _ (K2.ext hA)).mono ?_; rintro e w2 ⟨rfl, h2⟩
        exact ⟨rfl, grown_trans (grown_trans (Ext.grownBy hW _) h1) (grown_trans (Ext.grownBy hA _) h2), Or.inr ⟨hz.out, rfl⟩⟩
theorem assert_bad (w : World) : (Instr.typeAssert badV 20 209 false).run Tryz.prog w = .ok (.agg #[]) w := by kernel_rfl
theorem sget1_panicking (bl bn bo : Nat) (vl vn vo : Value) (older : List PanicEntry) (w : World) (kl : Go.Dm.Cell bl vl w) (kn : Go.Dm.Cell bn vn w) (ko : Go.Dm.Cell bo vo w) (h1 : bl ≠ bn) (h2 : bl ≠ bo) (h3 : bn ≠ bo) :
  CallsD Tryz.prog 139 #[.pointer (some ⟨bl, 0, none⟩), .pointer (some ⟨bn, 0, none⟩), .pointer (some ⟨bo, 0, none⟩)] (.panicking ({ v := badV, recovered := false } :: older)) w fun e u' w' =>
   e = .returned (.tuple #[]) ∧ u' = .panicking ({ v := badV, recovered := true } :: older) ∧ w' = ((w.setCell ⟨bl, 0, none⟩ (.slice none 0 0)).setCell ⟨bn, 0, none⟩ (.int .i64 0)).setCell ⟨bo, 0, none⟩ (.bool false) := by
 have hA := assert_bad
 unfold badV at *
 refine callsD_of_wpS Tryz.func139 rfl fun c₀ cs hu => ?_
 apply wpS_seq
 apply wpS_region
 simp [wpOpsS, go_sem, recoverD, hu, Tryz.ntmps139, Exit.thenS]
 apply wpS_seq
 apply wpS_region
 simp [wpOpsS, go_sem, Exit.thenS]
 refine wpS_cond (t := true) (by simp [Act.eval, Array.replicate]) ?_
 simp only [if_true]
 obtain ⟨_, l1, l2⟩ := kl
 obtain ⟨_, n1, n2⟩ := kn.other (c := bl) (Ne.symm h1) (.slice none 0 0)
 obtain ⟨_, o1, o2⟩ := (ko.other (c := bl) (Ne.symm h2) (.slice none 0 0)).other (c := bn) (Ne.symm h3) (.int .i64 0)
 apply wpS_seq
 apply wpS_region
 simp [wpOpsS, go_sem, Exit.thenS, hA, Array.replicate]
 apply wpS_region
 simp [wpOpsS, go_sem, l1, l2, n1, n2, o1, o2, bodyPostS, results, Tryz.results139]
theorem sget1_idle (bl bn bo : Nat) (w : World) :
  CallsD Tryz.prog 139 #[.pointer (some ⟨bl, 0, none⟩), .pointer (some ⟨bn, 0, none⟩), .pointer (some ⟨bo, 0, none⟩)] .returning w fun e u' w' => e = .returned (.tuple #[]) ∧ u' = .returning ∧ w' = w := by
 refine callsD_of_wpS Tryz.func139 rfl fun c₀ cs hu => ?_
 apply wpS_seq
 apply wpS_region
 simp [wpOpsS, go_sem, recoverD, hu, Tryz.ntmps139, Exit.thenS]
 apply wpS_seq
 apply wpS_region
 simp [wpOpsS, go_sem, Exit.thenS]
 refine wpS_cond (t := false) (by simp [Act.eval]) ?_
 simp only [Bool.false_eq_true, if_false]
 refine wpS_of_wp (wp_skip ?_)
 cases c₀
 simp_all [bodyPostS, results, Tryz.results139]
end Go.Proofs.YtefjdmjkofaajaaGreatDoor
namespace Go.Dm
open Go Go.RowKit
def getSelL (l : Bs) : Option (List (Bs × Bool × List Bs) × Nat) :=
 match someL getTermL 4 l with
 | some (T, n) => if rightS (T.map mkT) = true then some (T, n) else none
 | none => none
theorem getSelL_none {l : Bs} (h : someL getTermL 4 l = none) : getSelL l = none := by unfold getSelL; rw [h]
theorem getSelL_some {l : Bs} {T : List (Bs × Bool × List Bs)} {n : Nat} (h : someL getTermL 4 l = some (T, n)) : getSelL l = if rightS (T.map mkT) = true then some (T, n) else none := by unfold getSelL; rw [h]
theorem getSelL_nil : getSelL [] = none := rfl
theorem getSelI_no {l : Bs} {p : Int} (h : (getI l p).2.2 = false) : atI getSelL [] l p = ([], 0, false) := by
 have := someI_no (g := getTermL) (most := 4) h
 unfold atI at *
 split
 ·rfl
 ·rename_i hp
  rw [if_neg hp] at this
  cases hg : someL getTermL 4 (l.drop p.toNat) with
  | none => rw [getSelL_none hg]
  | some x => rw [hg] at this; injection this with _ h; injection h with _ h; cases h
theorem getTextL_fit {most : Nat} {l t : Bs} {n : Nat} (h : getTextL most l = some (t, n)) : t.length ≤ most := by
 cases hg : getL l with
 | none => rw [getTextL_none hg] at h; cases h
 | some x =>
  obtain ⟨u, m⟩ := x
  rw [getTextL_some hg] at h
  split at h
  ·rename_i hu
   injection h with h
   injection h with h1 h2
   rw [← h1, List.length_take]; omega
  ·cases h
theorem readsL_all {α : Type} {g : Bs → Option (α × Nat)} {l : Bs} {q : Nat} : ∀ {i : Nat} {xs : List α} {r : Nat}, readsL g l q i = some (xs, r) → xs.length = i ∧ ∀ x ∈ xs, ∃ l' n, g l' = some (x, n)
 | 0, xs, r, h => by
  injection h with h
  injection h with h1 _
  subst h1
  exact ⟨rfl, fun x hx => by cases hx⟩
 | i + 1, xs, r, h => by
  cases hi : readsL g l q i with
  | none => rw [readsL_none hi (Nat.le_succ i)] at h; cases h
  | some y =>
   obtain ⟨ys, r2⟩ := y
   rw [readsL_succ hi] at h
   cases hg : g (l.drop r2) with
   | none => rw [hg] at h; cases h
   | some z =>
    obtain ⟨z, n⟩ := z
    rw [hg] at h
    injection h with h
    injection h with h1 _
    obtain ⟨e1, e2⟩ := readsL_all hi
    subst h1
    refine ⟨by simp [e1], fun x hx => ?_⟩
    rcases List.mem_append.1 hx with hx | hx
    ·exact e2 x hx
    ·rw [List.mem_singleton.1 hx]; exact ⟨_, _, hg⟩
theorem getTermL_fit {l : Bs} {T : Bs × Bool × List Bs} {n : Nat} (h : getTermL l = some (T, n)) : T.1.length ≤ 32 ∧ T.2.2.length ≤ 4 ∧ ∀ x ∈ T.2.2, x.length ≤ 32 := by
 cases hT : getTextL 32 l with
 | none => rw [getTermL_no1 hT] at h; cases h
 | some x =>
  obtain ⟨k, n1⟩ := x
  cases hN : getL (l.drop n1) with
  | none => rw [getTermL_no2 hT hN] at h; cases h
  | some x =>
   obtain ⟨u, m⟩ := x
   rw [getTermL_mid hT hN] at h
   split at h
   ·rename_i h9
    cases hr : readsL (getTextL 32) l (n1 + m) (u / 2) with
    | none => rw [hr] at h; cases h
    | some y =>
     obtain ⟨vs, r⟩ := y
     rw [hr] at h
     injection h with h
     injection h with h1 _
     subst h1
     obtain ⟨e1, e2⟩ := readsL_all hr
     refine ⟨getTextL_fit hT, by show vs.length ≤ 4; omega, fun x hx => ?_⟩
     obtain ⟨l', n', h'⟩ := e2 x hx
     exact getTextL_fit h'
   ·cases h
theorem mkT_fit {T : Bs × Bool × List Bs} (h : T.1.length ≤ 32 ∧ T.2.2.length ≤ 4 ∧ ∀ x ∈ T.2.2, x.length ≤ 32) : FitT (mkT T) := by
 obtain ⟨h1, h2, h3⟩ := h
 refine ⟨?_, ?_, ?_⟩
 ·show T.1.length ≤ _
  omega
 ·show (T.2.2.map _).length ≤ _
  rw [List.length_map]; omega
 ·intro x hx
  obtain ⟨y, hy, rfl⟩ := List.mem_map.1 hx
  have := h3 y hy
  show y.length ≤ _
  omega
structure GS (B : Nat) (s : ByteArray) (v : Value) (p : Int) (w : World) : Prop where
 l : Go.Dm.Cell B v w
 n : Go.Dm.Cell (B + 1) (.int .i64 0) w
 o : Go.Dm.Cell (B + 1 + 1) (.bool false) w
 r : Cell2 (B + 1 + 1 + 1) (.string s) (.int .i64 p) w
theorem GS.ext {B : Nat} {s : ByteArray} {v : Value} {p : Int} {w w' : World} (h : GS B s v p w) (hx : Ext w w') : GS B s v p w' := ⟨h.l.ext hx, h.n.ext hx, h.o.ext hx, h.r.ext hx⟩
theorem Cell.grown {b : Nat} {x : Value} {w w' : World} {q : Option Nat} (h : Go.Dm.Cell b x w) (hg : w.grownBy w' q) (hb : q ≠ some b) : Go.Dm.Cell b x w' := by
 have hc : w'.cell? ⟨b, 0, none⟩ = w.cell? ⟨b, 0, none⟩ := World.cell?_of_block (a := ⟨b, 0, none⟩) (hg.block b h.1 (fun e => hb e.symm))
 have hf : w'.frozen? ⟨b, 0, none⟩ = w.frozen? ⟨b, 0, none⟩ := World.frozen?_of_block (a := ⟨b, 0, none⟩) (hg.block b h.1 (fun e => hb e.symm))
 exact ⟨Nat.lt_of_lt_of_le h.1 hg.size, by rw [hc]; exact h.2.1, by rw [hf]; exact h.2.2⟩
theorem GS.read {B : Nat} {s : ByteArray} {v : Value} {p p' : Int} {w w' : World} (h : GS B s v p w) (hg : w.grownBy w' (some (B + 1 + 1 + 1))) (hr : Cell2 (B + 1 + 1 + 1) (.string s) (.int .i64 p') w') : GS B s v p' w' :=
 ⟨Cell.grown h.l hg (some_ne (by omega)), Cell.grown h.n hg (some_ne (by omega)), Cell.grown h.o hg (some_ne (by omega)), hr⟩
structure GP (B : Nat) (v : Value) (w : World) : Prop where
 l : Go.Dm.Cell B v w
 n : Go.Dm.Cell (B + 1) (.int .i64 0) w
 o : Go.Dm.Cell (B + 1 + 1) (.bool false) w
theorem GS.torn {B : Nat} {s : ByteArray} {v : Value} {p : Int} {w w' : World} (h : GS B s v p w) (hg : w.grownBy w' (some (B + 1 + 1 + 1))) : GP B v w' :=
 ⟨Cell.grown h.l hg (some_ne (by omega)), Cell.grown h.n hg (some_ne (by omega)), Cell.grown h.o hg (some_ne (by omega))⟩
theorem GS.grown {B : Nat} {s : ByteArray} {v : Value} {p : Int} {w w' : World} {q : Option Nat} (h : GS B s v p w) (hg : w.grownBy w' q) (hq : ∀ c, q = some c → B + 1 + 1 + 1 < c) : GS B s v p w' :=
 ⟨Cell.grown h.l hg (fun e => by have := hq _ e; omega), Cell.grown h.n hg (fun e => by have := hq _ e; omega), Cell.grown h.o hg (fun e => by have := hq _ e; omega), h.r.grown hg (fun e => by have := hq _ e; omega)⟩
theorem GS.set {B : Nat} {s : ByteArray} {v : Value} {p : Int} {w : World} (h : GS B s v p w) (u : Value) : GS B s u p (w.setCell ⟨B, 0, none⟩ u) :=
 ⟨h.l.set u, h.n.other (by omega) u, h.o.other (by omega) u, h.r.far (by omega) u⟩
def laid4 (w : World) (s : ByteArray) (p : Int) (t0 t1 t2 t3 : TypeId) : World :=
 (((w.alloc (.cells #[.slice none 0 0] t0)).alloc (.cells #[.int .i64 0] t1)).alloc (.cells #[.bool false] t2)).alloc (.cells #[.string s, .int .i64 p] t3)
theorem laid4_ext (w : World) (s : ByteArray) (p : Int) (t0 t1 t2 t3 : TypeId) : Ext w (laid4 w s p t0 t1 t2 t3) := ((((Ext.refl w).alloc _).alloc _).alloc _).alloc _
theorem laid4_size (w : World) (s : ByteArray) (p : Int) (t0 t1 t2 t3 : TypeId) : (laid4 w s p t0 t1 t2 t3).heap.size = w.heap.size + 1 + 1 + 1 + 1 := by simp [laid4]
theorem laid4_gs (w : World) (s : ByteArray) (p : Int) (t0 t1 t2 t3 : TypeId) : GS w.heap.size s (.slice none 0 0) p (laid4 w s p t0 t1 t2 t3) := by
 unfold laid4
 have a0 := Cell.new w (.slice none 0 0) t0
 generalize h0 : w.alloc (.cells #[.slice none 0 0] t0) = w0 at *
 have s0 : w0.heap.size = w.heap.size + 1 := by rw [← h0]; simp
 have a1 := Cell.new w0 (.int .i64 0) t1
 have a0 := a0.ext ((Ext.refl w0).alloc (.cells #[.int .i64 0] t1))
 generalize h1 : w0.alloc (.cells #[.int .i64 0] t1) = w1 at *
 have s1 : w1.heap.size = w.heap.size + 1 + 1 := by rw [← h1]; simp [s0]
 have a2 := Cell.new w1 (.bool false) t2
 have a0 := a0.ext ((Ext.refl w1).alloc (.cells #[.bool false] t2))
 have a1 := a1.ext ((Ext.refl w1).alloc (.cells #[.bool false] t2))
 generalize h2 : w1.alloc (.cells #[.bool false] t2) = w2 at *
 have s2 : w2.heap.size = w.heap.size + 1 + 1 + 1 := by rw [← h2]; simp [s1]
 have a3 := Cell2.new w2 (.string s) (.int .i64 p) t3
 have x := (Ext.refl w2).alloc (.cells #[.string s, .int .i64 p] t3)
 rw [s0] at a1
 rw [s1] at a2
 rw [s2] at a3
 exact ⟨a0.ext x, a1.ext x, a2.ext x, a3⟩
end Go.Dm
namespace Go.Proofs.YtefjdmjkofaajaaGreatDoor
open Go.RowKit Go.Dm
end Go.Proofs.YtefjdmjkofaajaaGreatDoor
namespace Go.Dm
open Go Go.RowKit
theorem putT_short {t : Bs} (h : t.length ≤ 32) : (putT t).length ≤ 42 := by
 have := putL_ten (u := t.length) (Nat.lt_of_le_of_lt h (by decide))
 rw [putT, List.length_append]; omega
theorem putP_short : ∀ {L : List PairL}, (∀ p ∈ L, fitPair p) → (putP L).length ≤ 84 * L.length
 | [], _ => by simp [putP]
 | p :: L, h => by
  have h1 := putT_short (h p (by simp)).1
  have h2 := putT_short (h p (by simp)).2
  have ih := putP_short (L := L) (fun q hq => h q (by simp [hq]))
  have e : putP (p :: L) = (putT p.1 ++ putT p.2) ++ putP L := by simp [putP]
  rw [e, List.length_append, List.length_append, List.length_cons]; omega
theorem putLab_short {L : List PairL} (hr : rightLab L = true) : 1 ≤ (putLab L).length ∧ (putLab L).length ≤ 700 := by
 obtain ⟨f1, f2⟩ := right_fits hr
 have h1 := putP_short f2
 have h2 := putL_ten (u := L.length) (Nat.lt_of_le_of_lt f1 (by decide))
 have h3 := putL_pos L.length
 unfold putLab
 rw [if_pos hr, List.length_append]; omega
theorem u64_of {n : Nat} (h : n ≤ 281474976710656) : U64 n := Nat.lt_of_le_of_lt h (by decide)
section
variable {α : Type} {g : Bs → Option (α × Nat)} {put : α → Bs} {fit : α → Prop}
theorem reads_beginsG (G : ∀ (l : Bs) (x : α) (n : Nat), U64 l.length → (g l = some (x, n) ↔ fit x ∧ n = (put x).length ∧ Begins (put x) l)) {l : Bs} {q : Nat} (hl : U64 l.length) :
  ∀ (i : Nat) (L : List α) (r : Nat), readsL g l q i = some (L, r) ↔ L.length = i ∧ (∀ p ∈ L, fit p) ∧ r = q + (L.flatMap put).length ∧ Begins (L.flatMap put) (l.drop q)
 | 0, L, r => by
  constructor
  ·intro h
   injection h with h
   injection h with h1 h2
   subst h1 h2
   exact ⟨rfl, (fun p hp => by simp at hp), rfl, begins_nil _⟩
  ·rintro ⟨h1, _, h3, _⟩
   obtain rfl := List.length_eq_zero_iff.1 h1
   subst h3
   rfl
 | i + 1, L, r => by
  have snoc : ∀ (K : List α) (p : α), (K ++ [p]).flatMap put = K.flatMap put ++ put p := fun K p => by simp
  constructor
  ·intro h
   rw [readsL] at h
   cases h1 : readsL g l q i with
   | none => rw [h1] at h; cases h
   | some x =>
    obtain ⟨K, k⟩ := x
    rw [h1] at h
    simp only at h
    cases h2 : g (l.drop k) with
    | none => rw [h2] at h; cases h
    | some y =>
     obtain ⟨p, m⟩ := y
     rw [h2] at h
     injection h with h
     injection h with e1 e2
     subst e1 e2
     obtain ⟨a1, a2, rfl, a4⟩ := (reads_beginsG G hl i K k).1 h1
     obtain ⟨b1, rfl, b3⟩ := (G _ _ _ (hl.drop _)).1 h2
     refine ⟨by simp [a1], fun x hx => ?_, by rw [snoc, List.length_append]; omega, ?_⟩
     ·rcases List.mem_append.1 hx with hx | hx
      ·exact a2 x hx
      ·rw [List.mem_singleton] at hx; subst hx; exact b1
     ·rw [snoc, begins_app, List.drop_drop]
      exact ⟨a4, b3⟩
  ·rintro ⟨h1, h2, rfl, h4⟩
   rcases List.eq_nil_or_concat L with rfl | ⟨K, p, rfl⟩
   ·simp at h1
   ·rw [List.concat_eq_append] at *
    rw [snoc, begins_app, List.drop_drop] at h4
    have hK := (reads_beginsG G hl i K (q + (K.flatMap put).length)).2 ⟨by simpa using h1, fun x hx => h2 x (List.mem_append_left _ hx), rfl, h4.1⟩
    have hp := (G _ _ _ (hl.drop _)).2 ⟨h2 p (by simp), rfl, h4.2⟩
    rw [readsL, hK]
    simp only [hp]
    rw [snoc, List.length_append]
    simp [Nat.add_assoc]
theorem some_beginsG (G : ∀ (l : Bs) (x : α) (n : Nat), U64 l.length → (g l = some (x, n) ↔ fit x ∧ n = (put x).length ∧ Begins (put x) l)) {most : Nat} (hm : U64 most) {l : Bs} {L : List α} {n : Nat} (hl : U64 l.length) :
  someL g most l = some (L, n) ↔ L.length ≤ most ∧ (∀ p ∈ L, fit p) ∧ n = (putL L.length ++ L.flatMap put).length ∧ Begins (putL L.length ++ L.flatMap put) l := by
 rw [begins_app, List.length_append]
 constructor
 ·intro h
  cases hg : getL l with
  | none => rw [someL_none hg] at h; cases h
  | some x =>
   obtain ⟨u, k⟩ := x
   rw [someL_some hg] at h
   split at h
   ·rename_i hu
    obtain ⟨a1, rfl, a3⟩ := getL_begins.1 hg
    obtain ⟨rfl, b2, rfl, b4⟩ := (reads_beginsG G hl _ _ _).1 h
    exact ⟨hu, b2, rfl, a3, b4⟩
   ·cases h
 ·rintro ⟨h1, h2, rfl, h4, h5⟩
  have hg := getL_begins.2 ⟨show U64 L.length from Nat.lt_of_le_of_lt h1 hm, rfl, h4⟩
  rw [someL_some hg, if_pos h1]
  exact (reads_beginsG G hl _ _ _).2 ⟨rfl, h2, rfl, h5⟩
end
abbrev TermB := Bs × Bool × List Bs
def numB (T : TermB) : Nat := 2 * T.2.2.length + (if T.2.1 then 1 else 0)
def putTerm (T : TermB) : Bs := (putT T.1 ++ putL (numB T)) ++ T.2.2.flatMap putT
def fitTerm (T : TermB) : Prop := T.1.length ≤ 32 ∧ T.2.2.length ≤ 4 ∧ ∀ x ∈ T.2.2, x.length ≤ 32
theorem term_begins (l : Bs) (T : TermB) (n : Nat) (hl : U64 l.length) : getTermL l = some (T, n) ↔ fitTerm T ∧ n = (putTerm T).length ∧ Begins (putTerm T) l := by
 unfold putTerm
 rw [begins_app, begins_app, List.length_append, List.length_append]
 constructor
 ·intro h
  have hf := getTermL_fit h
  refine ⟨hf, ?_⟩
  cases hT : getTextL 32 l with
  | none => rw [getTermL_no1 hT] at h; cases h
  | some x =>
   obtain ⟨k, n1⟩ := x
   cases hN : getL (l.drop n1) with
   | none => rw [getTermL_no2 hT hN] at h; cases h
   | some x =>
    obtain ⟨u, m⟩ := x
    rw [getTermL_mid hT hN] at h
    split at h
    ·cases hr : readsL (getTextL 32) l (n1 + m) (u / 2) with
     | none => rw [hr] at h; cases h
     | some y =>
      obtain ⟨vs, r⟩ := y
      rw [hr] at h
      injection h with h
      injection h with h1 h2
      subst h1 h2
      obtain ⟨a1, rfl, a3⟩ := (getText_begins hl).1 hT
      obtain ⟨b1, rfl, b3⟩ := getL_begins.1 hN
      obtain ⟨c1, c2, rfl, c4⟩ := (reads_beginsG (g := getTextL 32) (put := putT) (fit := fun t => t.length ≤ 32) (fun l x n hl => getText_begins hl) hl _ _ _).1 hr
      have hu : numB (k, u % 2 == 1, vs) = u := by
       unfold numB
       simp only
       by_cases h1 : u % 2 = 1
       ·rw [if_pos (by simpa using h1)]; omega
       ·rw [if_neg (by simpa using h1)]; omega
      rw [hu]
      exact ⟨rfl, ⟨a3, b3⟩, c4⟩
    ·cases h
 ·rintro ⟨⟨f1, f2, f3⟩, rfl, ⟨h1, h2⟩, h3⟩
  obtain ⟨k, no, vs⟩ := T
  simp only at f1 f2 f3 h1 h2 h3
  have hT := (getText_begins hl).2 ⟨f1, rfl, h1⟩
  have hu9 : numB (k, no, vs) ≤ 9 := by unfold numB; simp only; split <;> omega
  have hN := getL_begins.2 ⟨show U64 (numB (k, no, vs)) from Nat.lt_of_le_of_lt hu9 (by decide), rfl, h2⟩
  have hd : numB (k, no, vs) / 2 = vs.length := by unfold numB; simp only; split <;> omega
  have hm : (numB (k, no, vs) % 2 == 1) = no := by
   unfold numB; simp only
   cases no with
   | true => simp
   | false => simp
  have hr := (reads_beginsG (g := getTextL 32) (put := putT) (fit := fun t => t.length ≤ 32) (fun l x n hl => getText_begins hl) hl vs.length vs _).2 ⟨rfl, f3, rfl, h3⟩
  rw [getTermL_mid hT hN, if_pos hu9, hd, hr, hm]
def unT (t : TermS) : TermB := (bS t.1, t.2.1, t.2.2.map bS)
theorem mk_bS (x : ByteArray) : (⟨(bS x).toArray⟩ : ByteArray) = x := by cases x; simp [bS]
theorem mk_un (t : TermS) : mkT (unT t) = t := by
 obtain ⟨k, no, vs⟩ := t
 have e : (vs.map bS).map (fun x => (⟨x.toArray⟩ : ByteArray)) = vs := by
  rw [List.map_map]
  conv => rhs; rw [← List.map_id vs]
  exact List.map_congr_left fun x _ => mk_bS x
 show ((⟨(bS k).toArray⟩ : ByteArray), no, (vs.map bS).map (fun x => (⟨x.toArray⟩ : ByteArray))) = (k, no, vs)
 rw [e, mk_bS]
theorem un_mk (T : TermB) : unT (mkT T) = T := by
 obtain ⟨k, no, vs⟩ := T
 have e : (vs.map (fun x => (⟨x.toArray⟩ : ByteArray))).map bS = vs := by
  rw [List.map_map]
  conv => rhs; rw [← List.map_id vs]
  exact List.map_congr_left fun x _ => rfl
 show (bS ⟨k.toArray⟩, no, (vs.map (fun x => (⟨x.toArray⟩ : ByteArray))).map bS) = (k, no, vs)
 rw [e]; rfl
theorem mk_uns (S : List TermS) : (S.map unT).map mkT = S := by
 rw [List.map_map]
 conv => rhs; rw [← List.map_id S]
 exact List.map_congr_left fun t _ => mk_un t
theorem un_mks (T : List TermB) : (T.map mkT).map unT = T := by
 rw [List.map_map]
 conv => rhs; rw [← List.map_id T]
 exact List.map_congr_left fun t _ => un_mk t
theorem putTerm_un (t : TermS) : putTerm (unT t) = putTm t := by
 unfold putTerm putTm unT numB numT putVals
 simp only [List.length_map]
 rw [List.flatMap_map]
theorem putTerms_un (S : List TermS) : (S.map unT).flatMap putTerm = putTms S := by
 rw [List.flatMap_map]
 unfold putTms
 congr 1
 funext t
 exact putTerm_un t
theorem rightS_fit {S : List TermS} (h : rightS S = true) : S.length ≤ 4 ∧ ∀ p ∈ S.map unT, fitTerm p := by
 obtain ⟨h1, h2⟩ := rightS_iff.1 h
 refine ⟨h1, fun p hp => ?_⟩
 obtain ⟨t, ht, rfl⟩ := List.mem_map.1 hp
 obtain ⟨f1, f2, f3⟩ := rightT_sizes (h2 t ht)
 refine ⟨f1, by show (t.2.2.map bS).length ≤ 4; rw [List.length_map]; exact f2, fun x hx => ?_⟩
 obtain ⟨y, hy, rfl⟩ := List.mem_map.1 hx
 exact f3 y hy
theorem sel_begins {l : Bs} {S : List TermS} {n : Nat} (hl : U64 l.length) : getSelL l = some (S.map unT, n) ↔ rightS S = true ∧ n = (putS S).length ∧ Begins (putS S) l := by
 have hput : rightS S = true → putS S = putL (S.map unT).length ++ (S.map unT).flatMap putTerm := fun hr => by
  unfold putS; rw [if_pos hr, putTerms_un, List.length_map]
 constructor
 ·intro h
  cases hg : someL getTermL 4 l with
  | none => rw [getSelL_none hg] at h; cases h
  | some x =>
   obtain ⟨K, k⟩ := x
   rw [getSelL_some hg] at h
   split at h
   ·rename_i hr
    injection h with h
    injection h with e1 e2
    subst e1 e2
    rw [mk_uns] at hr
    obtain ⟨_, _, rfl, h4⟩ := (some_beginsG term_begins (most := 4) (u64_of (by decide)) hl).1 hg
    rw [hput hr]
    exact ⟨hr, rfl, h4⟩
   ·cases h
 ·rintro ⟨hr, rfl, h3⟩
  obtain ⟨f1, f2⟩ := rightS_fit hr
  rw [hput hr] at h3 ⊢
  have hg := (some_beginsG term_begins (most := 4) (u64_of (by decide)) hl).2 ⟨by rw [List.length_map]; exact f1, f2, rfl, h3⟩
  rw [getSelL_some hg, mk_uns, if_pos hr]
theorem putTms_short : ∀ {S : List TermS}, (∀ t ∈ S, rightT t = true) → (putTms S).length ≤ 230 * S.length
 | [], _ => by simp [putTms]
 | t :: S, h => by
  obtain ⟨f1, f2, f3⟩ := rightT_sizes (h t (by simp))
  have h1 := putT_short (t := bS t.1) f1
  have h2 := putL_ten (u := numT t) (Nat.lt_of_le_of_lt (show numT t ≤ 9 by unfold numT; split <;> omega) (by decide))
  have h3 : ∀ (vs : List ByteArray), (∀ x ∈ vs, x.size ≤ 32) → (putVals vs).length ≤ 42 * vs.length := by
   intro vs
   induction vs with
   | nil => intro _; simp [putVals]
   | cons v vs ih =>
    intro hv
    have a1 := putT_short (t := bS v) (hv v (by simp))
    have a2 := ih (fun x hx => hv x (by simp [hx]))
    have e : putVals (v :: vs) = putT (bS v) ++ putVals vs := by simp [putVals]
    rw [e, List.length_append, List.length_cons]; omega
  have h4 := h3 _ f3
  have ih := putTms_short (S := S) (fun q hq => h q (by simp [hq]))
  have e : putTms (t :: S) = putTm t ++ putTms S := by simp [putTms]
  have e2 : (putTm t).length = (putT (bS t.1)).length + (putL (numT t)).length + (putVals t.2.2).length := by unfold putTm; rw [List.length_append, List.length_append]
  rw [e, List.length_append, List.length_cons, e2]; omega
theorem putS_short {S : List TermS} (hr : rightS S = true) : 1 ≤ (putS S).length ∧ (putS S).length ≤ 1000 := by
 obtain ⟨f1, f2⟩ := rightS_iff.1 hr
 have h1 := putTms_short f2
 have h2 := putL_ten (u := S.length) (Nat.lt_of_le_of_lt f1 (by decide))
 have h3 := putL_pos S.length
 unfold putS
 rw [if_pos hr, List.length_append]; omega
theorem Terms.cells {w : World} {R : List RowS} {b off cap : Nat} (h : Terms w (.slice (some ⟨b, off, none⟩) R.length cap) R) {k : Nat} (hk : k < R.length) :
  b < w.heap.size ∧ w.cell? ⟨b, off + k * 3, none⟩ = some (.string (sAtR R k).1) ∧ w.cell? ⟨b, off + k * 3 + 1, none⟩ = some (.bool (sAtR R k).2.1) ∧ w.cell? ⟨b, off + k * 3 + 2, none⟩ = some (sAtR R k).2.2.1 := by
 obtain ⟨b', off', e, hb, c0, c1, c2⟩ := h.at hk
 injection e with e; injection e with e1 e2
 subst e1 e2
 exact ⟨hb, c0, c1, c2⟩
end Go.Dm
namespace Go.Proofs.YtefjdmjkofaajaaGreatDoor
open Go.RowKit Go.Dm
set_option maxHeartbeats 4000000 in
set_option maxRecDepth 100000 in
theorem smright_w (R : List RowS) (v : Value) (w : World) (hf : FitR R) (hx : Terms w v R) :
  Calls Tryz.prog 122 #[v] w fun e w' => e = .returned (.bool (rightS (R.map rowT))) ∧ Ext w w' := by
 obtain ⟨q, cap, rfl, hcap, hcm⟩ := hx.shape
 by_cases h4 : R.length ≤ 4
 ·have hbad : ∀ k, k < R.length → rightT (rowT (sAtR R k)) = false → rightS (R.map rowT) = false := fun k hk h => by
   unfold rightS; rw [allR_hit hk h, Bool.and_false]
  have hgood : (∀ k, k < R.length → rightT (rowT (sAtR R k)) = true) → rightS (R.map rowT) = true := fun h => by
   unfold rightS; rw [allR_miss h, decide_eq_true (by rw [List.length_map]; exact h4)]; rfl
  generalize rightS (R.map rowT) = d at *
  replace hbad := Lib.hid hbad
  replace hgood := Lib.hid hgood
  go_enter Tryz.func122, Tryz.ntmps122
  go_wp2
  go_loopw [3] (fun i' wr => ∃ k : Nat, k ≤ R.length ∧ i' = .int .i64 k ∧ Ext w wr ∧ Hid (∀ j, j < k → rightT (rowT (sAtR R j)) = true)) (fun i' _ => R.length - (intOf i').toNat)
  case atStart => exact ⟨0, by omega, rfl, Ext.refl _, fun j hj => by omega⟩
  case round =>
   obtain ⟨k, hk, rfl, hb, HN⟩ := hrel
   by_cases hlt : k < R.length
   ·obtain ⟨b, off, rfl, hbl, c0, c1, c2⟩ := (hx.ext hb).at hlt
    have vx := (hx.ext hb).val hlt
    have hfk := hf _ (sAtR_mem hlt)
    have hB := hbad.out k hlt
    have hG : rightT (rowT (sAtR R k)) = true → Hid (∀ j, j < k + 1 → rightT (rowT (sAtR R j)) = true) := fun h j hj => by
     rcases Nat.lt_succ_iff_lt_or_eq.1 hj with h' | rfl
     ·exact HN.out j h'
     ·exact h
    generalize sAtR R k = r at *
    obtain ⟨k1, n1, v1, vals1⟩ := r
    have vx : Strs wr v1 vals1 := vx
    simp only at c0 c1 c2
    obtain ⟨q3, cap3, rfl, _, _⟩ := vx.shape
    obtain ⟨hf1, hf2, hf3⟩ := hfk
    have hf1 : k1.size ≤ 140737488351232 := hf1
    have hf2 : vals1.length ≤ 35184372088832 := hf2
    have hf3 : ∀ x ∈ vals1, x.size ≤ 140737488351232 := hf3
    have hvb : ∀ m, m < vals1.length → okVal vals1 m = false → rightT (rowT (k1, n1, .slice q3 vals1.length cap3, vals1)) = false := fun m hm h => rightT_bad (t := (k1, n1, vals1)) hm h
    have hva : (∀ m, m < vals1.length → okVal vals1 m = true) → rightT (rowT (k1, n1, .slice q3 vals1.length cap3, vals1)) = (rightL k1.data.toList && decide (vals1.length ≤ 4)) := fun h => rightT_all (t := (k1, n1, vals1)) h
    have hkb : (rightL k1.data.toList && decide (vals1.length ≤ 4)) = false → rightT (rowT (k1, n1, .slice q3 vals1.length cap3, vals1)) = false := fun h => by
     rw [Bool.eq_false_iff, Ne, rightT_iff]
     rintro ⟨_, h2, h3⟩
     have h2 : rightL k1.data.toList = true := h2
     have h3 : vals1.length ≤ 4 := h3
     rw [h2, decide_eq_true h3] at h
     cases h
    generalize rightT (rowT (k1, n1, .slice q3 vals1.length cap3, vals1)) = t at *
    have C := rright_fit k1 wr hf1
    generalize rightL k1.data.toList = rk at *
    replace hvb := Lib.hid hvb
    replace hva := Lib.hid hva
    cases rk with
    | false =>
     have ht := hkb rfl
     subst ht
     have hd := hB rfl
     subst hd
     clear hB hG hkb
     go_wp2_with fail
     refine C.mono ?_; rintro e w1 ⟨rfl, h1⟩
     go_wp2
     go_ret
     exact ⟨rfl, hb.trans h1⟩
    | true =>
     by_cases hl4 : vals1.length ≤ 4
     ·replace hB := Lib.hid hB
      replace hG := Lib.hid hG
      clear hkb
      go_wp2_with fail
      refine C.mono ?_; rintro e w1 ⟨rfl, h1⟩
      clear C
      have hE1 := hb.trans h1
      go_wp2
      go_loopw [5] (fun i' wq => ∃ m : Nat, m ≤ vals1.length ∧ i' = .int .i64 m ∧ Ext w1 wq ∧ Hid (∀ j, j < m → okVal vals1 j = true)) (fun i' _ => vals1.length - (intOf i').toNat)
      case atStart => exact ⟨0, by omega, rfl, Ext.refl _, fun j hj => by omega⟩
      case round =>
       obtain ⟨m, hm, rfl, hbq, HM⟩ := hrel
       have er := h1.trans hbq
       have eR := hE1.trans hbq
       by_cases hltm : m < vals1.length
       ·obtain ⟨b3, off3, rfl, hbl3, d0⟩ := (vx.ext er).at hltm
        have hfm := hf3 _ (strAt_mem hltm)
        have hB2 := hvb.out m hltm
        have hG2 : okVal vals1 m = true → Hid (∀ j, j < m + 1 → okVal vals1 j = true) := fun h j hj => by
         rcases Nat.lt_succ_iff_lt_or_eq.1 hj with h' | rfl
         ·exact HM.out j h'
         ·exact h
        have hok : ∀ c1 c2, rightL (strAt vals1 m).data.toList = c1 → (m == 0 || !leB (bS (strAt vals1 m)) (bS (strAt vals1 (m - 1)))) = c2 → okVal vals1 m = (c1 && c2) := by
         intro c1 c2 e1 e2
         unfold okVal
         rw [← e1, ← e2]; rfl
        have CV : ∀ c, rightL (strAt vals1 m).data.toList = c → Hid (∀ U, Calls Tryz.prog 75 #[.string (strAt vals1 m)] U fun e w' => e = .returned (.bool c) ∧ Ext U w') := by
         intro c h U
         rw [← h]
         exact rright_fit _ U hfm
        cases q1 : rightL (strAt vals1 m).data.toList with
        | false =>
         have CV := CV _ q1
         have ht := hB2 (hok _ _ q1 rfl)
         have hd := hB.out ht
         subst hd
         clear hok hG2 hB2 q1
         go_wp2_with fail
         refine Dm.wp_region_grow (by kernel_rfl) (by kernel_rfl) ?_
         repeat (go_big_quiet_step (first
          | (go_at_call 75; with_reducible exact Calls.quietE (CV.out _))))
         refine wpQuiet_nil ?_
         intro U hU
         go_wp2
         go_ret
         exact ⟨rfl, eR.trans hU⟩
        | true =>
         have CV := CV _ q1
         by_cases h0 : m = 0
         ·subst h0
          have hg := hG2 (hok _ true q1 rfl)
          rw [Nat.add_zero] at d0
          clear hok hG2 hB2 q1
          go_wp2_with fail
          refine Dm.wp_region_grow (by kernel_rfl) (by kernel_rfl) ?_
          repeat (go_big_quiet_step (first
           | (go_at_call 75; with_reducible exact Calls.quietE (CV.out _))))
          refine wpQuiet_nil ?_
          intro U hU
          go_wp2
          go_roundw
          case rel => exact ⟨1, by omega, rfl, hbq.trans hU, hg⟩
          case measure => simp [intOf]; omega
         ·obtain ⟨j, rfl⟩ : ∃ j, m = j + 1 := ⟨m - 1, by omega⟩
          obtain ⟨_, d1⟩ := (vx.ext er).cells (k := j) (by omega)
          have hj0 : decide ((0 : Int) < (j : Int) + 1) = true := decide_eq_true (by omega)
          have hle : ∀ c c', Op.bytesLess (strAt vals1 (j + 1)).toList (strAt vals1 j).toList = c → ((strAt vals1 (j + 1)).toList == (strAt vals1 j).toList) = c' → (j + 1 == 0 || !leB (bS (strAt vals1 (j + 1))) (bS (strAt vals1 (j + 1 - 1)))) = !(c || c') := by
           intro c c' e1 e2
           rw [ByteArray.toList_eq, ByteArray.toList_eq] at e1 e2
           rw [← e1, ← e2]
           rfl
          cases q2 : Op.bytesLess (strAt vals1 (j + 1)).toList (strAt vals1 j).toList with
          | true =>
           have ht := hB2 (hok _ _ q1 (hle _ _ q2 rfl))
           have hd := hB.out ht
           subst hd
           clear hok hG2 hB2 q1 hle
           go_wp2_with fail
           refine Dm.wp_region_grow (by kernel_rfl) (by kernel_rfl) ?_
           repeat (go_big_quiet_step (first
            | (go_at_call 75; with_reducible exact Calls.quietE (CV.out _))))
           refine wpQuiet_nil ?_
           intro U hU
           go_wp2
           go_ret
           exact ⟨rfl, eR.trans hU⟩
          | false =>
           cases q3 : ((strAt vals1 (j + 1)).toList == (strAt vals1 j).toList) with
           | true =>
            have ht := hB2 (hok _ _ q1 (hle _ _ q2 q3))
            have hd := hB.out ht
            subst hd
            clear hok hG2 hB2 q1 hle
            go_wp2_with fail
            refine Dm.wp_region_grow (by kernel_rfl) (by kernel_rfl) ?_
            repeat (go_big_quiet_step (first
             | (go_at_call 75; with_reducible exact Calls.quietE (CV.out _))))
            refine wpQuiet_nil ?_
            intro U hU
            go_wp2
            go_ret
            exact ⟨rfl, eR.trans hU⟩
           | false =>
            have hg := hG2 (hok _ _ q1 (hle _ _ q2 q3))
            clear hok hG2 hB2 q1 hle
            go_wp2_with fail
            refine Dm.wp_region_grow (by kernel_rfl) (by kernel_rfl) ?_
            repeat (go_big_quiet_step (first
             | (go_at_call 75; with_reducible exact Calls.quietE (CV.out _))))
            refine wpQuiet_nil ?_
            intro U hU
            go_wp2
            go_roundw
            case rel => exact ⟨j + 1 + 1, by omega, by go_num, hbq.trans hU, hg⟩
            case measure => simp [intOf]; omega
       ·obtain rfl : m = vals1.length := by omega
        have ht := hva.out HM.out
        rw [decide_eq_true hl4] at ht
        have hg := hG.out ht
        clear HM
        go_wp2
        go_roundw
        case rel => exact ⟨k + 1, by omega, by go_num, eR, hg⟩
        case measure => simp [intOf]; omega
     ·have ht := hkb (by rw [decide_eq_false hl4]; rfl)
      subst ht
      have hd := hB rfl
      subst hd
      have hl4' : decide ((4 : Int) < (vals1.length : Int)) = true := decide_eq_true (by omega)
      clear hB hG hkb
      go_wp2_with fail
      refine C.mono ?_; rintro e w1 ⟨rfl, h1⟩
      go_wp2
      go_ret
      exact ⟨rfl, hb.trans h1⟩
   ·obtain rfl : k = R.length := by omega
    have hd := hgood.out HN.out
    subst hd
    go_wp2
    go_ret
    exact ⟨rfl, hb⟩
 ·have hz : rightS (R.map rowT) = false := by
   unfold rightS; rw [decide_eq_false (by rw [List.length_map]; exact h4)]; rfl
  generalize rightS (R.map rowT) = d at *
  subst hz
  go_enter Tryz.func122, Tryz.ntmps122
  go_wp2
  go_ret
  exact ⟨rfl, Ext.refl _⟩
end Go.Proofs.YtefjdmjkofaajaaGreatDoor
namespace Go.Dm
open Go Go.RowKit
theorem textB32 {t : ByteArray} (h : t.size ≤ 32) : (textB t).size ≤ 42 := by
 rw [size_len]
 have := putL_ten (u := t.data.toList.length) (Nat.lt_of_le_of_lt (show t.data.toList.length ≤ 32 from h) (by decide))
 show (putT t.data.toList).length ≤ 42
 rw [putT, List.length_append]
 have h2 : t.data.toList.length = t.size := rfl
 omega
theorem putLab_some {L : List PairL} (h : rightLab L = true) : putLab L = putL L.length ++ putP L := by unfold putLab; rw [if_pos h]
end Go.Dm
namespace Go.Proofs.YtefjdmjkofaajaaGreatDoor
open Go.RowKit Go.Dm
theorem Tryz.slPair2 : SlT Tryz.prog 43 127 2 32 := SlT.mk' Tryz.underlying43 (by kernel_rfl) (by decide) (by decide)
set_option maxHeartbeats 2000000 in
set_option maxRecDepth 100000 in
theorem mlput_w (l : List PairS) (v : Value) (w : World) (hf : FitP l) (hx : Pairs w v l) :
  Calls Tryz.prog 54 #[v] w fun e w' => e = .returned (.string ⟨(putLab (labL l)).toArray⟩) ∧ Ext w w' := by
 obtain ⟨q, cap, rfl, hcap, hcm⟩ := hx.shape
 have C := mright_w l _ w hf hx
 cases hR : rightLab (labL l) with
 | false =>
  have hz : Hid (putLab (labL l) = []) := by show _ = _; unfold putLab; rw [hR]; rfl
  rw [hR] at C
  clear hR
  go_enter Tryz.func54, Tryz.ntmps54
  go_wp2_with fail
  refine C.mono ?_; rintro e w1 ⟨rfl, h1⟩
  go_wp2
  go_ret
  exact ⟨by rw [hz.out]; rfl, h1⟩
 | true =>
  have hz : Hid (putLab (labL l) = putL l.length ++ putP (labL l)) := by show _ = _; rw [putLab_some hR, labL_len]
  have h8 : l.length ≤ 8 := by have := (rightLab_iff.1 hR).1; rwa [labL_len] at this
  have hAt := Lib.hid (fun k (hk : k < l.length) => rightLab_at hR hk)
  have hU : U64 l.length := show l.length < _ by omega
  have hpl := putL_ten hU
  have hwl : IntKind.u64.wrap (l.length : Int) = (l.length : Int) := by
   simp only [IntKind.wrap, IntKind.bits, IntKind.signed]
   simp; omega
  rw [hR] at C
  clear hR
  go_enter Tryz.func54, Tryz.ntmps54
  go_wp2_with fail
  refine C.mono ?_; rintro e w1 ⟨rfl, h1⟩
  clear C
  go_wp2_with fail
  refine (rput_w l.length w1 hU).mono ?_; rintro e w2 ⟨rfl, h2⟩
  have e2 := h1.trans h2
  clear hwl
  go_wp2
  go_loopw [3, 4] (fun s' i' wr => ∃ (k : Nat) (b : ByteArray), k ≤ l.length ∧ i' = .int .i64 k ∧ s' = .string b ∧ b.size ≤ 10 + k * 84 ∧ Ext w2 wr ∧ Hid (b.data.toList = putL l.length ++ putP ((labL l).take k))) (fun _ i' _ => l.length - (intOf i').toNat)
  case atStart => exact ⟨0, ⟨(putL l.length).toArray⟩, by omega, rfl, rfl, by rw [size_len]; exact hpl, Ext.refl _, by show _ = _; simp [putP]⟩
  case round =>
   obtain ⟨k, b, hk, rfl, rfl, hbs, hb, HB⟩ := hrel
   have er := e2.trans hb
   by_cases hlt : k < l.length
   ·obtain ⟨bb, off, rfl, hbl, c0, c1⟩ := (hx.ext er).at hlt
    obtain ⟨hf1, hf2⟩ := hAt.out k hlt
    have s1 := textB32 hf1
    have s2 := textB32 hf2
    have hst : Hid (((b ++ textB (pairAt l k).1) ++ textB (pairAt l k).2).data.toList = putL l.length ++ putP ((labL l).take (k + 1))) := by
     show _ = _
     rw [putP_step (by rw [labL_len]; exact hlt), labL_at l hlt, data_append, data_append, HB.out, List.append_assoc, List.append_assoc]
     rfl
    have C1 : Hid (∀ U, Ext wr U → Calls Tryz.prog 48 #[.string (pairAt l k).1] U fun e w' => e = .returned (.string (textB (pairAt l k).1)) ∧ Ext U w') := fun U _ => rputtext_w _ U (by omega)
    have C2 : Hid (∀ U, Ext wr U → Calls Tryz.prog 48 #[.string (pairAt l k).2] U fun e w' => e = .returned (.string (textB (pairAt l k).2)) ∧ Ext U w') := fun U _ => rputtext_w _ U (by omega)
    generalize textB (pairAt l k).1 = t1 at *
    generalize textB (pairAt l k).2 = t2 at *
    go_wp2_with fail
    refine Dm.wp_region_grow (by kernel_rfl) (by kernel_rfl) ?_
    repeat (go_big_quiet_step (first
     | (go_at_call 48; with_reducible exact Calls.quietE (C1.out _ (ext_grow _ _)))
     | (go_at_call 48; with_reducible exact Calls.quietE (C2.out _ (ext_grow _ _)))))
    refine wpQuiet_nil ?_
    intro U hU
    have hU' := hb.trans hU
    clear C1 C2
    go_wp2
    go_roundw
    case rel => exact ⟨k + 1, _, by omega, by go_num, rfl, by rw [ByteArray.size_append, ByteArray.size_append]; omega, hU', hst⟩
    case measure => simp [intOf]; omega
   ·go_wp2
    go_ret
    obtain rfl : k = l.length := by omega
    have h := HB.out
    rw [← labL_len, List.take_length, labL_len, ← hz.out] at h
    exact ⟨by rw [← mk_bytes h]; rfl, er⟩
end Go.Proofs.YtefjdmjkofaajaaGreatDoor
