/- Texts of the base. -/

import Derived.Test.YtefjdmjkofaajaaGreatDoorT8
namespace Go.Proofs.YtefjdmjkofaajaaGreatDoor
open Go.RowKit Go.Dm
theorem wrap_u64 {x : Int} (h : 0 ≤ x) (h' : x < 18446744073709551616) : IntKind.u64.wrap x = x := by
 simp only [IntKind.wrap, IntKind.bits, IntKind.signed]
 simp; omega
set_option maxHeartbeats 4000000 in
set_option maxRecDepth 100000 in
theorem smput_w (R : List RowS) (v : Value) (w : World) (hf : FitR R) (hx : Terms w v R) :
  Calls Tryz.prog 94 #[v] w fun e w' => e = .returned (.string ⟨(putS (R.map rowT)).toArray⟩) ∧ Ext w w' := by
 obtain ⟨q, cap, rfl, hcap, hcm⟩ := hx.shape
 have C := smright_w R _ w hf hx
 cases hR : rightS (R.map rowT) with
 | false =>
  have hz : Hid (putS (R.map rowT) = []) := by show _ = _; unfold putS; rw [hR]; rfl
  rw [hR] at C
  clear hR
  go_enter Tryz.func94, Tryz.ntmps94
  go_wp2_with fail
  refine C.mono ?_; rintro e w1 ⟨rfl, h1⟩
  go_wp2
  go_ret
  exact ⟨by rw [hz.out]; rfl, h1⟩
 | true =>
  have hz : Hid (putS (R.map rowT) = putL R.length ++ putTms (R.map rowT)) := by show _ = _; unfold putS; rw [hR, List.length_map]; rfl
  have h4 : R.length ≤ 4 := by have := (rightS_iff.1 hR).1; rwa [List.length_map] at this
  have hsh : Hid (∀ k, k < R.length → ShortT (rowT (sAtR R k))) := fun k hk => rightT_sizes ((rightS_iff.1 hR).2 _ (List.mem_map_of_mem (sAtR_mem hk)))
  have hU : U64 R.length := show R.length < _ by omega
  have hpl := putL_ten hU
  have hwl : IntKind.u64.wrap (R.length : Int) = (R.length : Int) := wrap_u64 (by omega) (by omega)
  rw [hR] at C
  clear hR
  go_enter Tryz.func94, Tryz.ntmps94
  go_wp2_with fail
  refine C.mono ?_; rintro e w1 ⟨rfl, h1⟩
  clear C
  go_wp2_with fail
  refine (rput_w R.length w1 hU).mono ?_; rintro e w2 ⟨rfl, h2⟩
  have e2 := h1.trans h2
  clear hwl
  go_wp2
  go_loopw [3, 4] (fun s' i' wr => ∃ (k : Nat) (b : ByteArray), k ≤ R.length ∧ i' = .int .i64 k ∧ s' = .string b ∧ b.size ≤ 10 + k * 220 ∧ Ext w2 wr ∧ Hid (b.data.toList = putL R.length ++ putTms ((R.take k).map rowT))) (fun _ i' _ => R.length - (intOf i').toNat)
  case atStart => exact ⟨0, ⟨(putL R.length).toArray⟩, by omega, rfl, rfl, by rw [size_len]; exact hpl, Ext.refl _, by show _ = _; simp [putTms]⟩
  case round =>
   obtain ⟨k, b, hk, rfl, rfl, hbs, hb, HB⟩ := hrel
   have er := e2.trans hb
   by_cases hlt : k < R.length
   ·obtain ⟨bb, off, rfl, hbl, c0, c1, c2⟩ := (hx.ext er).at hlt
    have vx := (hx.ext er).val hlt
    obtain ⟨hf1, hf2, hf3⟩ := hsh.out k hlt
    have hst : Hid (∀ x : Bs, x = putTm (rowT (sAtR R k)) → b.data.toList ++ x = putL R.length ++ putTms ((R.take (k + 1)).map rowT)) := fun x hx => by
     rw [hx, HB.out, rowT_take hlt, putTms_step, List.append_assoc]
    have hcell := fun w' (h : Ext wr w') => (hx.ext (er.trans h)).cells hlt
    generalize sAtR R k = r at *
    obtain ⟨k1, n1, v1, vals1⟩ := r
    have vx : Strs wr v1 vals1 := vx
    have hf1 : k1.size ≤ 32 := hf1
    have hf2 : vals1.length ≤ 4 := hf2
    have hf3 : ∀ x ∈ vals1, x.size ≤ 32 := hf3
    simp only at c0 c1 c2 hcell
    obtain ⟨q3, cap3, rfl, _, _⟩ := vx.shape
    have hst : Hid (b.data.toList ++ ((putT (bS k1) ++ putL (numT (k1, n1, vals1))) ++ putVals vals1) = putL R.length ++ putTms ((R.take (k + 1)).map rowT)) := hst.out _ rfl
    obtain ⟨N, hN⟩ : ∃ N : Nat, N = numT (k1, n1, vals1) := ⟨_, rfl⟩
    have hN9 : N ≤ 9 := by rw [hN]; unfold numT; simp only; split <;> omega
    have hNu : U64 N := show N < _ by omega
    have CN := fun U => rput_w N U hNu
    have sN : (⟨(putL N).toArray⟩ : ByteArray).size ≤ 10 := by rw [size_len]; exact putL_ten hNu
    have hNI : (N : Int) = if n1 then (vals1.length : Int) * 2 + 1 else (vals1.length : Int) * 2 := by
     rw [hN]; unfold numT; cases n1 <;> simp <;> omega
    have hw1 : IntKind.u64.wrap (vals1.length : Int) = (vals1.length : Int) := wrap_u64 (by omega) (by omega)
    have hw2 : IntKind.u64.wrap ((vals1.length : Int) * 2) = (vals1.length : Int) * 2 := wrap_u64 (by omega) (by omega)
    have hw3 : IntKind.u64.wrap ((vals1.length : Int) * 2 + 1) = (vals1.length : Int) * 2 + 1 := wrap_u64 (by omega) (by omega)
    have CK : ∀ U, Calls Tryz.prog 48 #[.string k1] U fun e w' => e = .returned (.string (textB k1)) ∧ Ext U w' := fun U => rputtext_w _ U (by omega)
    have sK : (textB k1).size ≤ 42 := textB32s hf1
    have hst2 : Hid (∀ b2 : ByteArray, b2.data.toList = ((b ++ textB k1) ++ (⟨(putL N).toArray⟩ : ByteArray)).data.toList ++ putVals vals1 → b2.data.toList = putL R.length ++ putTms ((R.take (k + 1)).map rowT)) := fun b2 h => by
     rw [h, ← hst.out, data_append, data_append, ← hN]
     simp [textB, bS]
    rw [hNI] at CN
    have hb0 : ((b ++ textB k1) ++ (⟨(putL N).toArray⟩ : ByteArray)).size ≤ b.size + 52 := by rw [ByteArray.size_append, ByteArray.size_append]; omega
    have hb1 : (b ++ textB k1).size ≤ b.size + 42 := by rw [ByteArray.size_append]; omega
    generalize (⟨(putL N).toArray⟩ : ByteArray) = tn at *
    generalize textB k1 = tk at *
    clear hN hNI hNu hst hN9
    replace CK := Lib.hid CK
    replace hcell := Lib.hid hcell
    cases n1
    all_goals
     simp only [Bool.false_eq_true, if_false, if_true] at CN
     have CN := Lib.hid CN
     go_wp2_with fail
     refine (CK.out _).mono ?_; rintro e w3 ⟨rfl, h3⟩
     go_wp2_with fail
     refine (CN.out _).mono ?_; rintro e w4 ⟨rfl, h4'⟩
     have h34 := h3.trans h4'
     clear c0 c1 c2 hw1 hw2 hw3
     go_wp2
     generalize hB0 : (b ++ tk) ++ tn = B0 at *
     replace hB0 := Lib.hid hB0
     go_loopw [3, 6] (fun s' i' wq => ∃ (m : Nat) (b2 : ByteArray), m ≤ vals1.length ∧ i' = .int .i64 m ∧ s' = .string b2 ∧ b2.size ≤ b.size + 52 + m * 42 ∧ Ext w4 wq ∧ Hid (b2.data.toList = B0.data.toList ++ putVals (vals1.take m))) (fun _ i' _ => vals1.length - (intOf i').toNat)
     case atStart => exact ⟨0, B0, by omega, rfl, rfl, by omega, Ext.refl _, by show _ = _; simp [putVals]⟩
     case round =>
      obtain ⟨m, b2, hm, rfl, rfl, hbs2, hbq, HB2⟩ := hrel
      have eq := h34.trans hbq
      obtain ⟨xb, x0, x1, x2⟩ := hcell.out _ eq
      by_cases hltm : m < vals1.length
      ·obtain ⟨b3, off3, rfl, hbl3, d0⟩ := (vx.ext eq).at hltm
       have s1 : (strAt vals1 m).size ≤ 32 := hf3 _ (strAt_mem hltm)
       have s2 : (textB (strAt vals1 m)).size ≤ 42 := textB32s s1
       have C : Calls Tryz.prog 48 #[.string (strAt vals1 m)] wr fun e w' => e = .returned (.string (textB (strAt vals1 m))) ∧ Ext wr w' := rputtext_w (strAt vals1 m) wr (by omega)
       have hst3 : Hid ((b2 ++ textB (strAt vals1 m)).data.toList = B0.data.toList ++ putVals (vals1.take (m + 1))) := by
        show _ = _
        rw [data_append, HB2.out, putVals_step hltm, List.append_assoc]; rfl
       generalize textB (strAt vals1 m) = t1 at *
       go_wp2_with fail
       refine C.mono ?_; rintro e w5 ⟨rfl, h5⟩
       go_wp2
       go_roundw
       case rel => exact ⟨m + 1, _, by omega, by go_num, rfl, by rw [ByteArray.size_append]; omega, hbq.trans h5, hst3⟩
       case measure => simp [intOf]; omega
      ·obtain rfl : m = vals1.length := by omega
       have hfin : Hid (b2.data.toList = putL R.length ++ putTms ((R.take (k + 1)).map rowT)) := hst2.out b2 (by have := HB2.out; rw [List.take_length] at this; exact this)
       clear HB2
       go_wp2
       go_roundw
       case rel => exact ⟨k + 1, b2, by omega, by go_num, rfl, by omega, hb.trans eq, hfin⟩
       case measure => simp [intOf]; omega
   ·obtain rfl : k = R.length := by omega
    have h := HB.out
    rw [List.take_length, ← hz.out] at h
    have hz' := Lib.hid (mk_bytes h)
    clear h
    go_wp2
    go_ret
    exact ⟨by rw [← hz'.out]; rfl, er⟩
end Go.Proofs.YtefjdmjkofaajaaGreatDoor
namespace Go.Dm
open Go Go.RowKit
end Go.Dm
namespace Go.Proofs.YtefjdmjkofaajaaGreatDoor
open Go.RowKit Go.Dm
end Go.Proofs.YtefjdmjkofaajaaGreatDoor
