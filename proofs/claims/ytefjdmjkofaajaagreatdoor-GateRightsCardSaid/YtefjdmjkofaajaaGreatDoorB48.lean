/- Texts one behind the other: Chapter 19: the walk of GateRights. -/
import Derived.Test.YtefjdmjkofaajaaGreatDoorB47
namespace Go.Proofs.YtefjdmjkofaajaaGreatDoor
open Go.RowKit Go.Dm

set_option maxHeartbeats 4000000 in
set_option maxRecDepth 100000 in
theorem gateRights_w (key : ByteArray) (l : List Cav) (V : Value) (k : Int) (r : Nat) (v : Value) (w : World) (hk : key.size ≤ 140737488351232) (hx : Cavs w v l) (hU : ∀ c ∈ l, U64 c.2) (hV : KindAt V k) (_hr : U64 r) (ha : Vars w) (hs : ShaV w) (hg : GateV w) :
  Calls Tryz.prog 6 #[.string key, v, V, .int .u64 (r : Nat)] w fun e w' => e = .returned (.bool true) ∧ Ext w w' := by
 have CX : Hid (∀ U, Ext w U → Calls Tryz.prog 9 #[] U fun e w' => e = .returned (.bool true) ∧ Ext U w') := fun U h => exam_w U (ha.ext h) (hs.ext h) (hg.ext h)
 have CM : Hid (∀ (K : ByteArray) U, Ext w U → K.size ≤ 281474976710656 → Calls Tryz.prog 24 #[.string K, v] U fun e w' => (∃ T, e = .returned T ∧ TokAt w' T (mintT K.data.toList l)) ∧ Ext U w') := fun K U h h2 =>
  (minted_w K v l U h2 (Sl.ext hx h) hU (hs.ext h)).mono fun e w' ⟨T, h1, h2, h3⟩ => ⟨⟨T, h1, h2⟩, h3⟩
 have CN : Hid (∀ U, Ext w U → Calls Tryz.prog 13 #[V] U fun e w' => e = .returned (.tuple #[.int .u64 (needsK k : Nat), .bool (decide (needsK k ≠ 0))]) ∧ Ext U w') := fun U h => needs_w k V U hV (hg.ext h)
 have CA : Hid (∀ (K : ByteArray) T U, Ext w U → K.size ≤ 281474976710656 → TokAt U T (mintT K.data.toList l) → Calls Tryz.prog 18 #[.string K, T, V, .int .u64 (r : Nat)] U fun e w' => e = .returned (.int .i64 (if needsK k = 0 ∨ allowC (mintL l) (needsK k) r = false then 14 else 0)) ∧ Ext U w') := fun K T U h h2 hT => by
  have := gallowK_w K T V (mintT K.data.toList l) k r U h2 hT.c hV (hs.ext h) (hg.ext h)
  rw [allowK_mint] at this
  exact this
 have CL : Hid (∀ (K : ByteArray) T U, TokAt U T (mintT K.data.toList l) → Calls Tryz.prog 29 #[T, .int .u64 (needsK k : Nat), .int .u64 (r : Nat)] U fun e w' => e = .returned (.bool (allowC (mintL l) (needsK k) r)) ∧ Ext U w') := fun K T U hT => allowsA (needsK k) r hT.c
 have hz := @needsK_zero k
 have hy := @needsK_some k
 generalize needsK k = c at *
 generalize allowC (mintL l) c r = al at *
 obtain ⟨v1, v2, v3, v4, v5, v6, v7, v8, v9, v10, v11, v12, v13, v14, v15, v16, v17, rfl⟩ := hV
 obtain ⟨q, cap, rfl, _, _⟩ := hx.shape
 have hA : RB w.heap.size 33 [.int .i64 k, v1, v2, v3, v4, v5, v6, v7, v8, v9, v10, v11, v12, v13, v14, v15, v16, v17] (w.alloc (.cells #[.int .i64 k, v1, v2, v3, v4, v5, v6, v7, v8, v9, v10, v11, v12, v13, v14, v15, v16, v17] 33)) := RB.new w 33 [.int .i64 k, v1, v2, v3, v4, v5, v6, v7, v8, v9, v10, v11, v12, v13, v14, v15, v16, v17]
 have hE : Ext w (w.alloc (.cells #[.int .i64 k, v1, v2, v3, v4, v5, v6, v7, v8, v9, v10, v11, v12, v13, v14, v15, v16, v17] 33)) := (Ext.refl _).alloc _
 generalize hW1 : w.alloc (.cells #[.int .i64 k, v1, v2, v3, v4, v5, v6, v7, v8, v9, v10, v11, v12, v13, v14, v15, v16, v17] 33) = w1 at *
 obtain ⟨bA, hbA⟩ : ∃ x, w.heap.size = x := ⟨_, rfl⟩
 rw [hbA] at hA
 clear hx
 go_enter Tryz.func6, Tryz.ntmps6
 go_upto_region 1 with fail
 clear hW1 hbA
 go_wp2_with fail
 refine (CX.out _ hE).mono ?_; rintro e_ w2 ⟨rfl, h2⟩
 replace hE := hE.trans h2
 replace hA := hA.ext h2
 clear h2
 go_upto_region 5 with fail
 have hK : (key.extract 0 (min (key.size : Int) 100).toNat).size ≤ 281474976710656 := by rw [ByteArray.size_extract]; omega
 generalize key.extract 0 (min (key.size : Int) 100).toNat = K at *
 go_wp2_with fail
 refine (CM.out K _ hE hK).mono ?_; rintro e_ w3 ⟨⟨T_, rfl, hT⟩, h3⟩
 replace hE := hE.trans h3
 replace hA := hA.ext h3
 clear h3
 obtain ⟨vt, rfl, hCv, hOk⟩ := hT
 obtain ⟨qt, ct, rfl, _, _⟩ := hCv.shape
 unfold mintT at hCv hOk ⊢
 simp only at hCv hOk ⊢
 have hT : TokAt w3 (.agg #[.string ⟨#[97]⟩, .slice qt (mintL l).length ct, .string ⟨(narrowB (signB K.data.toList [97]) (mintL l)).toArray⟩]) (mintT K.data.toList l) := ⟨_, rfl, hCv, hOk⟩
 clear hCv hOk
 generalize (⟨(narrowB (signB K.data.toList [97]) (mintL l)).toArray⟩ : ByteArray) = sg at *
 have hB := RB.new w3 24 [.string ⟨#[97]⟩, .slice qt (mintL l).length ct, .string sg]
 have e_ : Ext w3 (w3.alloc (.cells #[.string ⟨#[97]⟩, .slice qt (mintL l).length ct, .string sg] 24)) := (Ext.refl w3).alloc _
 go_upto_region 6 with fail
 change RB w3.heap.size 24 [.string ⟨#[97]⟩, .slice qt (mintL l).length ct, .string sg] (w3.alloc (.cells #[.string ⟨#[97]⟩, .slice qt (mintL l).length ct, .string sg] 24)) at hB
 replace hE := hE.trans e_
 replace hA := hA.ext e_
 replace hT := hT.ext e_
 clear e_
 generalize w3.alloc (.cells #[.string ⟨#[97]⟩, .slice qt (mintL l).length ct, .string sg] 24) = w4 at *
 generalize w3.heap.size = bT at *
 go_wp2_with (first | (refine wpList_load_row_g (by kernel_rfl) 33 _ rfl bA rfl _ _ _ _ hA Tryz.underlying33 rfl (by kernel_rfl) ?_))
 refine (CN.out _ hE).mono ?_; rintro e_ w5 ⟨rfl, h5⟩
 replace hE := hE.trans h5
 replace hA := hA.ext h5
 replace hT := hT.ext h5
 replace hB := hB.ext h5
 clear h5
 go_upto_region 7 with fail
 go_wp2_with (first | (refine wpList_load_row_g (by kernel_rfl) 24 _ rfl bT rfl _ _ _ _ hB Tryz.underlying24 rfl (by kernel_rfl) ?_) | (refine wpList_load_row_g (by kernel_rfl) 33 _ rfl bA rfl _ _ _ _ hA Tryz.underlying33 rfl (by kernel_rfl) ?_))
 refine (CA.out K _ _ hE hK hT).mono ?_; rintro e_ w6 ⟨rfl, h6⟩
 replace hE := hE.trans h6
 replace hA := hA.ext h6
 replace hT := hT.ext h6
 replace hB := hB.ext h6
 clear h6
 have al_ := hA.lt
 have a0 : w6.cell? ⟨bA, 0, none⟩ = some (.int .i64 k) := hA.cell 0
 by_cases hc : c = 0
 ·subst hc
  have hk18 := hz rfl
  clear hz hy
  rcases hk18 with h1 | h8
  ·go_wp2
   go_ret
   exact ⟨by simp, hE⟩
  ·have h1 : ¬ k < 1 := by omega
   go_wp2
   go_ret
   exact ⟨by simp, hE⟩
 ·obtain ⟨⟨h1, h8⟩, hc3⟩ := hy hc
  clear hz hy
  have hcd : decide (c ≠ 0) = true := decide_eq_true hc
  cases al with
  | false =>
   rcases hc3 with rfl | rfl | rfl
   all_goals
    go_wp2_with (first | (refine wpList_load_row_g (by kernel_rfl) 24 _ rfl bT rfl _ _ _ _ hB Tryz.underlying24 rfl (by kernel_rfl) ?_))
    refine (CL.out K _ _ hT).mono ?_; rintro e_ wz ⟨rfl, hz⟩
    replace hE := hE.trans hz
    replace hA := hA.ext hz
    clear al_ a0
    have al_ := hA.lt
    have a0 : wz.cell? ⟨bA, 0, none⟩ = some (.int .i64 k) := hA.cell 0
    go_wp2
    go_ret
    exact ⟨by simp, hE⟩
  | true =>
   rcases hc3 with rfl | rfl | rfl
   all_goals
    go_wp2_with (first | (refine wpList_load_row_g (by kernel_rfl) 24 _ rfl bT rfl _ _ _ _ hB Tryz.underlying24 rfl (by kernel_rfl) ?_))
    refine (CL.out K _ _ hT).mono ?_; rintro e_ wz ⟨rfl, hz⟩
    replace hE := hE.trans hz
    replace hA := hA.ext hz
    clear al_ a0
    have al_ := hA.lt
    have a0 : wz.cell? ⟨bA, 0, none⟩ = some (.int .i64 k) := hA.cell 0
    go_wp2
    go_ret
    exact ⟨by simp, hE⟩
end Go.Proofs.YtefjdmjkofaajaaGreatDoor
