/- Chapter 5: the walk of Put. -/
import Derived.Test.YtbkemhheombfcaaDoorSWalkD
import Derived.Test.YtbkemhheombfcaaDoorLWalkC
namespace Go.Dm
open Go Go.RowKit
theorem textB32s {t : ByteArray} (h : t.size ≤ 32) : (textB t).size ≤ 42 := by
  rw [size_len]
  have := putL_ten (u := t.data.toList.length) (Nat.lt_of_le_of_lt (show t.data.toList.length ≤ 32 from h) (by decide))
  show (putT t.data.toList).length ≤ 42
  rw [putT, List.length_append]
  have h2 : t.data.toList.length = t.size := rfl
  omega
/-- A term whose texts are short. -/
def ShortT (t : TermS) : Prop := t.1.size ≤ 32 ∧ t.2.2.length ≤ 4 ∧ ∀ x ∈ t.2.2, x.size ≤ 32
def putTmB (t : TermS) : ByteArray := ⟨(putTm t).toArray⟩
theorem putVals_short : ∀ {vs : List ByteArray}, (∀ x ∈ vs, x.size ≤ 32) → (putVals vs).length ≤ 42 * vs.length
  | [], _ => by simp [putVals]
  | x :: vs, h => by
    have h1 := textB32s (h x (by simp))
    have ih := putVals_short (vs := vs) (fun y hy => h y (List.mem_cons_of_mem _ hy))
    have e : putVals (x :: vs) = putT (bS x) ++ putVals vs := by simp [putVals]
    have e2 : (textB x).size = (putT (bS x)).length := by rw [size_len]; rfl
    rw [e, List.length_append, List.length_cons]; omega
theorem putTmB_short {t : TermS} (h : ShortT t) : (putTmB t).size ≤ 220 := by
  obtain ⟨h1, h2, h3⟩ := h
  have a1 := textB32s h1
  have e2 : (textB t.1).size = (putT (bS t.1)).length := by rw [size_len]; rfl
  have a2 := putVals_short h3
  have a3 := putL_ten (u := numT t) (show numT t < 18446744073709551616 by unfold numT; split <;> omega)
  rw [size_len]
  show (putTm t).length ≤ 220
  unfold putTm
  rw [List.length_append, List.length_append]
  omega
end Go.Dm
namespace Go.Proofs.YtbkemhheombfcaaDoor
open Go.RowKit Go.Dm

set_option maxHeartbeats 2000000 in
set_option maxRecDepth 100000 in
theorem tput_w (key : ByteArray) (no : Bool) (vals : List ByteArray) (v : Value) (w : World) (hf : ShortT (key, no, vals)) (hx : Strs w v vals) :
    Calls Tryd.prog 83 #[.agg #[.string key, .bool no, v]] w fun e w' => e = .returned (.string (putTmB (key, no, vals))) ∧ Ext w w' := by
  have hW : Ext w (w.alloc (.cells #[.string key, .bool no, v] 57)) := (Ext.refl _).alloc _
  obtain ⟨q, cap, rfl, hcap, hcm⟩ := hx.shape
  obtain ⟨hf1, hf2, hf3⟩ := hf
  simp only at hf1 hf2 hf3
  have CK := fun U => puttext_w key U (by omega)
  have sK := textB32s hf1
  obtain ⟨N, hN⟩ : ∃ N : Nat, N = numT (key, no, vals) := ⟨_, rfl⟩
  have hNu : U64 N := by rw [hN]; show numT _ < 18446744073709551616; unfold numT; split <;> simp only <;> omega
  have CN := fun U => put_w N U hNu
  have sN : (⟨(putL N).toArray⟩ : ByteArray).size ≤ 10 := by rw [size_len]; exact putL_ten hNu
  have hst0 : Hid ((textB key ++ ⟨(putL N).toArray⟩).data.toList = (putT (bS key) ++ putL (numT (key, no, vals))) ++ putVals (vals.take 0)) := by
    show _ = _
    rw [data_append, ← hN]; simp [putVals, textB, bS]
  have hfin : Hid (∀ b : ByteArray, b.data.toList = (putT (bS key) ++ putL (numT (key, no, vals))) ++ putVals vals → b = putTmB (key, no, vals)) := fun b h => mk_bytes h
  have hNI : (N : Int) = if no then 2 * (vals.length : Int) + 1 else 2 * (vals.length : Int) := by
    rw [hN]; unfold numT; cases no <;> simp
  replace CK : ∀ U, Calls Tryd.prog 56 #[.string key] U fun e w' => e = .returned (.string (textB key)) ∧ Ext U w' := CK
  rw [hNI] at CN
  generalize numT (key, no, vals) = M at *
  generalize (⟨(putL N).toArray⟩ : ByteArray) = tn at *
  generalize textB key = tk at *
  replace CK := Lib.hid CK
  clear hN hNI hNu
  cases no
  all_goals
    simp only [Bool.false_eq_true, if_false, if_true] at CN
    replace CN := Lib.hid CN
    go_enter Tryd.func83, Tryd.ntmps83
    go_wp2_with fail
    refine (CK.out _).mono ?_; rintro e w1 ⟨rfl, h1⟩
    obtain ⟨gs, g⟩ := h1.box
    have g2 := g 2 _ rfl
    clear g
    go_wp2_with fail
    refine (CN.out _).mono ?_; rintro e w2 ⟨rfl, h2⟩
    have gs2 := Nat.lt_of_lt_of_le gs h2.size
    have g2' : w2.cell? ⟨w.heap.size, 2, none⟩ = some (.slice q vals.length cap) := by rw [h2.cell (by exact gs)]; exact g2
    have e2 := hW.trans (h1.trans h2)
    clear CK CN
    go_wp2
    go_loopw [4, 25] (fun s' i' wr => ∃ (k : Nat) (b : ByteArray), k ≤ vals.length ∧ i' = .int .i64 k ∧ s' = .string b ∧ b.size ≤ 52 + k * 42 ∧ Ext w2 wr ∧ Hid (b.data.toList = (putT (bS key) ++ putL M) ++ putVals (vals.take k))) (fun _ i' _ => vals.length - (intOf i').toNat)
    case atStart => exact ⟨0, _, by omega, rfl, rfl, by rw [ByteArray.size_append]; omega, Ext.refl _, hst0⟩
    case round =>
      obtain ⟨k, b, hk, rfl, rfl, hbs, hb, HB⟩ := hrel
      have er := e2.trans hb
      by_cases hlt : k < vals.length
      · obtain ⟨bb, off, rfl, hbl, c0⟩ := (hx.ext er).at hlt
        have s1 := hf3 _ (strAt_mem hlt)
        have s2 := textB32s s1
        have C : Calls Tryd.prog 56 #[.string (strAt vals k)] wr fun e w' => e = .returned (.string (textB (strAt vals k))) ∧ Ext wr w' := puttext_w _ wr (by omega)
        have hst : Hid ((b ++ textB (strAt vals k)).data.toList = (putT (bS key) ++ putL M) ++ putVals (vals.take (k + 1))) := by
          show _ = _
          rw [data_append, HB.out, putVals_step hlt, List.append_assoc]; rfl
        generalize textB (strAt vals k) = t1 at *
        go_wp2_with fail
        refine C.mono ?_; rintro e w3 ⟨rfl, h3⟩
        go_wp2
        go_roundw
        case rel => exact ⟨k + 1, _, by omega, by go_num, rfl, by rw [ByteArray.size_append]; omega, hb.trans h3, hst⟩
        case measure => simp [intOf]; omega
      · obtain rfl : k = vals.length := by omega
        have h := HB.out
        rw [List.take_length] at h
        have hz := Lib.hid (hfin.out b h)
        clear h
        go_wp2
        go_ret
        exact ⟨by rw [← hz.out]; rfl, er⟩

set_option maxHeartbeats 2000000 in
set_option maxRecDepth 100000 in
theorem sput_w (R : List RowS) (v : Value) (w : World) (hm : R.length ≤ 35184372088832) (hf : FitR R) (hx : Terms w v R) (ht : Tabs w) :
    Calls Tryd.prog 46 #[v] w fun e w' => e = .returned (.string ⟨(putS (R.map rowT)).toArray⟩) ∧ Ext w w' := by
  obtain ⟨q, cap, rfl, hcap, hcm⟩ := hx.shape
  have C := sright_w R _ w hm hf hx ht
  cases hR : rightS (R.map rowT) with
  | false =>
    have hz : Hid (putS (R.map rowT) = []) := by show _ = _; unfold putS; rw [hR]; rfl
    rw [hR] at C
    clear hR
    go_enter Tryd.func46, Tryd.ntmps46
    go_wp2_with fail
    refine C.mono ?_; rintro e w1 ⟨rfl, h1⟩
    go_wp2
    go_ret
    exact ⟨by rw [hz.out]; rfl, h1⟩
  | true =>
    have hz : Hid (putS (R.map rowT) = putL R.length ++ putTms (R.map rowT)) := by show _ = _; unfold putS; rw [hR, List.length_map]; rfl
    have h4 : R.length ≤ 4 := by have := (rightS_iff.1 hR).1; rwa [List.length_map] at this
    have hsh : Hid (∀ k, k < R.length → ShortT (rowT (sAtR R k))) := fun k hk => rightT_sizes ((rightS_iff.1 hR).2 _ (List.mem_map_of_mem (sAtR_mem hk)))
    have hU : U64 R.length := show R.length < _ by omega
    have hpl := putL_ten hU
    rw [hR] at C
    clear hR
    go_enter Tryd.func46, Tryd.ntmps46
    go_wp2_with fail
    refine C.mono ?_; rintro e w1 ⟨rfl, h1⟩
    clear C
    go_wp2_with fail
    refine (put_w R.length w1 hU).mono ?_; rintro e w2 ⟨rfl, h2⟩
    have e2 := h1.trans h2
    go_wp2
    go_loopw [3, 15] (fun s' i' wr => ∃ (k : Nat) (b : ByteArray), k ≤ R.length ∧ i' = .int .i64 k ∧ s' = .string b ∧ b.size ≤ 10 + k * 220 ∧ Ext w2 wr ∧ Hid (b.data.toList = putL R.length ++ putTms ((R.take k).map rowT))) (fun _ i' _ => R.length - (intOf i').toNat)
    case atStart => exact ⟨0, ⟨(putL R.length).toArray⟩, by omega, rfl, rfl, by rw [size_len]; exact hpl, Ext.refl _, by show _ = _; simp [putTms]⟩
    case round =>
      obtain ⟨k, b, hk, rfl, rfl, hbs, hb, HB⟩ := hrel
      have er := e2.trans hb
      by_cases hlt : k < R.length
      · obtain ⟨bb, off, rfl, hbl, c0, c1, c2⟩ := (hx.ext er).at hlt
        have vx := (hx.ext er).val hlt
        have hs := hsh.out k hlt
        have hst : Hid ((b ++ putTmB (rowT (sAtR R k))).data.toList = putL R.length ++ putTms ((R.take (k + 1)).map rowT)) := by
          show _ = _
          rw [data_append, HB.out, rowT_take hlt, putTms_step, List.append_assoc]; rfl
        have ss := putTmB_short hs
        generalize sAtR R k = r at *
        obtain ⟨k1, n1, v1, vals1⟩ := r
        have vx : Strs wr v1 vals1 := vx
        simp only at c0 c1 c2
        obtain ⟨q3, cap3, rfl, _, _⟩ := vx.shape
        have hW := (Ext.refl wr).alloc (.cells #[.string k1, .bool n1, .slice q3 vals1.length cap3] 57)
        have C : Calls Tryd.prog 83 #[.agg #[.string k1, .bool n1, .slice q3 vals1.length cap3]] (wr.alloc (.cells #[.string k1, .bool n1, .slice q3 vals1.length cap3] 57)) fun e w' => e = .returned (.string (putTmB (rowT (k1, n1, .slice q3 vals1.length cap3, vals1)))) ∧ Ext (wr.alloc (.cells #[.string k1, .bool n1, .slice q3 vals1.length cap3] 57)) w' := tput_w k1 n1 vals1 _ _ hs (vx.ext hW)
        generalize putTmB (rowT (k1, n1, .slice q3 vals1.length cap3, vals1)) = t1 at *
        go_wp2_with fail
        refine C.mono ?_; rintro e w3 ⟨rfl, h3⟩
        go_wp2
        go_roundw
        case rel => exact ⟨k + 1, _, by omega, by go_num, rfl, by rw [ByteArray.size_append]; omega, hb.trans (hW.trans h3), hst⟩
        case measure => simp [intOf]; omega
      · obtain rfl : k = R.length := by omega
        have h := HB.out
        rw [List.take_length, ← hz.out] at h
        have hz' := Lib.hid (mk_bytes h)
        clear h
        go_wp2
        go_ret
        exact ⟨by rw [← hz'.out]; rfl, er⟩

end Go.Proofs.YtbkemhheombfcaaDoor
