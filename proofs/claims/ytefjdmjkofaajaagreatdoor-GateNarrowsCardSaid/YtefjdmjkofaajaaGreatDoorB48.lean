/- Texts one behind the other: Chapter 19: the walk of GateNarrows. -/
import Derived.Test.YtefjdmjkofaajaaGreatDoorB47
namespace Go.Dm
open Go Go.RowKit
theorem allowC_snoc (L : List Cav) (c : Cav) (right r : Nat) : allowC (L ++ [c]) right r = (allowC L right r && letC right r c) := by
 unfold allowC; simp
theorem letC_later {right r s : Nat} {c : Cav} (h : r ≤ s) (hl : letC right s c = true) : letC right r c = true := by
 unfold letC at *
 simp only [Bool.not_eq_true', Bool.or_eq_false_iff, Bool.and_eq_false_iff, decide_eq_false_iff_not] at *
 refine ⟨hl.1, ?_⟩
 rcases hl.2 with h2 | h2
 ·exact Or.inl h2
 ·exact Or.inr (by omega)
theorem allowC_later {L : List Cav} {right r s : Nat} (h : r ≤ s) (hl : allowC L right s = true) : allowC L right r = true := by
 unfold allowC at *
 rw [List.all_eq_true] at *
 exact fun c hc => letC_later h (hl c hc)
theorem narrowB_one (s : Bs) (L : List Cav) (c : Cav) : narrowB s (L ++ [c]) = signB (narrowB s L) (putC c) := by
 unfold narrowB; simp
/-- A token of a key that was narrowed once more. -/
def moreT (key : Bs) (l : List Cav) (c : Cav) : TokQ := (⟨#[97]⟩, mintL l ++ [c], ⟨(signB (narrowB (signB key [97]) (mintL l)) (putC c)).toArray⟩)
theorem allowK_more {key : Bs} {l : List Cav} {c : Cav} {k : Int} {r : Nat} (h : allowK key (moreT key l c) k r = 0) : (if needsK k = 0 ∨ allowC (mintL l) (needsK k) r = false then (14 : Int) else 0) = 0 := by
 unfold allowK at h
 split at h
 ·cases h
 split at h
 ·cases h
 ·rename_i h2
  rw [not_or] at h2
  have h3 : allowC (mintL l ++ [c]) (needsK k) r ≠ false := h2.2
  rw [allowC_snoc] at h3
  rw [if_neg]
  rw [not_or]
  refine ⟨h2.1, fun e => h3 (by rw [e]; rfl)⟩
theorem later_zero {n r s : Nat} {L : List Cav} (h : r ≤ s) (h2 : (if n = 0 ∨ allowC L n s = false then (14 : Int) else 0) = 0) : (if n = 0 ∨ allowC L n r = false then (14 : Int) else 0) = 0 := by
 split at h2
 ·cases h2
 ·rename_i h3
  rw [not_or] at h3
  rw [if_neg]
  rw [not_or]
  refine ⟨h3.1, fun e => h3.2 ?_⟩
  cases hc : allowC L n s with
  | false => rfl
  | true => rw [allowC_later h hc] at e; cases e
theorem moreT_ok {key : Bs} {l : List Cav} {c : Cav} (hU : ∀ c ∈ l, U64 c.2) (hc : U64 c.2) : OkT (moreT key l c) := by
 have h1 := (mintL_len l).1
 refine ⟨by show (1 : Nat) ≤ _; omega, ?_, by show (mintL l ++ [c]).length ≤ _; rw [List.length_append]; show _ + 1 ≤ _; omega, fun x hx => ?_⟩
 ·show (signB _ _).toArray.size ≤ _
  rw [List.size_toArray, signB_len]; omega
 ·rcases List.mem_append.1 hx with h | h
  ·exact mintL_u64 hU x h
  ·rw [List.mem_singleton] at h; subst h; exact hc
end Go.Dm
namespace Go.Proofs.YtefjdmjkofaajaaGreatDoor
open Go.RowKit Go.Dm

set_option maxHeartbeats 4000000 in
set_option maxRecDepth 100000 in
theorem gateNarrows_w (key : ByteArray) (l : List Cav) (c : Cav) (V : Value) (k : Int) (r d : Nat) (v : Value) (w : World) (hk : key.size ≤ 140737488351232) (hx : Cavs w v l) (hU : ∀ c ∈ l, U64 c.2) (hc : U64 c.2) (hV : KindAt V k) (hr : r < 18446744073709551616) (hd : d < 65536) (ha : Vars w) (hs : ShaV w) (hg : GateV w) :
  Calls Tryz.prog 5 #[.string key, v, .agg #[.int .i64 c.1, .int .u64 (c.2 : Nat)], V, .int .u64 (r : Nat), .int .u16 (d : Nat)] w fun e w' => e = .returned (.bool true) ∧ Ext w w' := by
 have CX : Hid (∀ U, Ext w U → Calls Tryz.prog 9 #[] U fun e w' => e = .returned (.bool true) ∧ Ext U w') := fun U h => exam_w U (ha.ext h) (hs.ext h) (hg.ext h)
 have CM : Hid (∀ (K : ByteArray) U, Ext w U → K.size ≤ 281474976710656 → Calls Tryz.prog 24 #[.string K, v] U fun e w' => (∃ T, e = .returned T ∧ TokAt w' T (mintT K.data.toList l)) ∧ Ext U w') := fun K U h h2 =>
  (minted_w K v l U h2 (Sl.ext hx h) hU (hs.ext h)).mono fun e w' ⟨T, h1, h2, h3⟩ => ⟨⟨T, h1, h2⟩, h3⟩
 have CA : Hid (∀ (K : ByteArray) T (s : Nat) U, Ext w U → K.size ≤ 281474976710656 → TokAt U T (mintT K.data.toList l) → Calls Tryz.prog 18 #[.string K, T, V, .int .u64 (s : Nat)] U fun e w' => e = .returned (.int .i64 (if needsK k = 0 ∨ allowC (mintL l) (needsK k) s = false then 14 else 0)) ∧ Ext U w') := fun K T s U h h2 hT => by
  have := gallowK_w K T V (mintT K.data.toList l) k s U h2 hT.c hV (hs.ext h) (hg.ext h)
  rw [allowK_mint] at this
  exact this
 have CB_ : Hid (∀ (K : ByteArray) T U, Ext w U → K.size ≤ 281474976710656 → TokAt U T (moreT K.data.toList l c) → Calls Tryz.prog 18 #[.string K, T, V, .int .u64 (r : Nat)] U fun e w' => (∃ E, e = .returned (.int .i64 E) ∧ (E = 0 → (if needsK k = 0 ∨ allowC (mintL l) (needsK k) r = false then (14 : Int) else 0) = 0)) ∧ Ext U w') := fun K T U h h2 hT =>
  (gallowK_w K T V (moreT K.data.toList l c) k r U h2 hT.c hV (hs.ext h) (hg.ext h)).mono fun e w' he => ⟨⟨_, he.1, fun h => allowK_more h⟩, he.2⟩
 have CK : Hid (∀ (K : ByteArray) T U, Ext w U → K.size ≤ 281474976710656 → TokAt U T (mintT K.data.toList l) → Calls Tryz.prog 28 #[.string K, T] U fun e w' => e = .returned (.bool true) ∧ Ext U w') := fun K T U h h2 hT => by
  have := checkA K h2 hT.c (hs.ext h)
  rw [check_mint] at this
  exact this
 have CW : Hid (∀ (K : ByteArray) sg vt U, Ext w U → sg = ⟨(narrowB (signB K.data.toList [97]) (mintL l)).toArray⟩ → Cavs U vt (mintL l) → Calls Tryz.prog 11 #[.agg #[.string ⟨#[97]⟩, vt, .string sg], .agg #[.int .i64 c.1, .int .u64 (c.2 : Nat)]] U fun e w' => (∃ T, e = .returned T ∧ TokAt w' T (moreT K.data.toList l c)) ∧ Ext U w') := fun K sg vt U h hsg hv => by
  have hz : sg.size ≤ 140737488355328 := by rw [hsg]; show (narrowB _ _).toArray.size ≤ _; rw [List.size_toArray, narrowB_len (signB_len _ _)]; omega
  have hl := (mintL_len l).1
  refine (narrow_w ⟨#[97]⟩ sg vt (mintL l) c U hv hc (by omega) hz (hs.ext h)).mono fun e w' ⟨rr, h1, h2, h3⟩ => ⟨⟨_, h1, rr, ?_, h2, moreT_ok hU hc⟩, h3⟩
  show Value.agg _ = .agg #[.string ⟨#[97]⟩, rr, .string ⟨(signB (narrowB (signB K.data.toList [97]) (mintL l)) (putC c)).toArray⟩]
  rw [hsg]
 have hmono := fun (s : Nat) (h : r ≤ s) => later_zero (n := needsK k) (L := mintL l) h
 obtain ⟨E, hEr⟩ : ∃ E : Nat → Int, ∀ s, (if needsK k = 0 ∨ allowC (mintL l) (needsK k) s = false then (14 : Int) else 0) = E s := ⟨_, fun _ => rfl⟩
 simp only [hEr] at CA CB_ hmono
 replace hmono := Lib.hid hmono
 clear hEr
 obtain ⟨v1, v2, v3, v4, v5, v6, v7, v8, v9, v10, v11, v12, v13, v14, v15, v16, v17, rfl⟩ := hV
 obtain ⟨q, cap, rfl, _, _⟩ := hx.shape
 obtain ⟨w1, hW1, hC, hE, hs1⟩ := new_row w 38 [.int .i64 c.1, .int .u64 (c.2 : Nat)]
 obtain ⟨w2, hW2, hA, hE2, -⟩ := new_row w1 33 [.int .i64 k, v1, v2, v3, v4, v5, v6, v7, v8, v9, v10, v11, v12, v13, v14, v15, v16, v17]
 replace hC := hC.ext hE2
 replace hE := hE.trans hE2
 clear hE2
 rw [hs1] at hA
 obtain ⟨bC, hbC⟩ : ∃ x, w.heap.size = x := ⟨_, rfl⟩
 rw [hbC] at hA hC hs1
 clear hx
 go_enter Tryz.func5, Tryz.ntmps5
 go_upto_region 1 with fail
 clear hW1 hW2 hbC hs1
 generalize bC + 1 = bA at *
 go_wp2_with fail
 refine (CX.out _ hE).mono ?_; rintro e_ w3 ⟨rfl, h3⟩
 replace hE := hE.trans h3
 replace hA := hA.ext h3
 replace hC := hC.ext h3
 clear h3
 go_upto_region 5 with fail
 have hK : (key.extract 0 (min (key.size : Int) 100).toNat).size ≤ 281474976710656 := by rw [ByteArray.size_extract]; omega
 generalize key.extract 0 (min (key.size : Int) 100).toNat = K at *
 go_wp2_with fail
 refine (CM.out K _ hE hK).mono ?_; rintro e_ w4 ⟨⟨T_, rfl, hT⟩, h4⟩
 replace hE := hE.trans h4
 replace hA := hA.ext h4
 replace hC := hC.ext h4
 clear h4
 obtain ⟨vt, rfl, hCv, hOk⟩ := hT
 obtain ⟨qt, ct, rfl, _, _⟩ := hCv.shape
 unfold mintT at hCv hOk ⊢
 simp only at hCv hOk ⊢
 have hT : TokAt w4 (.agg #[.string ⟨#[97]⟩, .slice qt (mintL l).length ct, .string ⟨(narrowB (signB K.data.toList [97]) (mintL l)).toArray⟩]) (mintT K.data.toList l) := ⟨_, rfl, hCv, hOk⟩
 clear hOk
 obtain ⟨sg, hsg⟩ : ∃ s : ByteArray, s = ⟨(narrowB (signB K.data.toList [97]) (mintL l)).toArray⟩ := ⟨_, rfl⟩
 rw [← hsg] at hT ⊢
 replace hsg := Lib.hid hsg
 have hCv : Sl w4 2 _ _ _ := hCv
 have hB := RB.new w4 24 [.string ⟨#[97]⟩, .slice qt (mintL l).length ct, .string sg]
 have e_ : Ext w4 (w4.alloc (.cells #[.string ⟨#[97]⟩, .slice qt (mintL l).length ct, .string sg] 24)) := (Ext.refl w4).alloc _
 go_upto_region 6 with fail
 change RB w4.heap.size 24 [.string ⟨#[97]⟩, .slice qt (mintL l).length ct, .string sg] (w4.alloc (.cells #[.string ⟨#[97]⟩, .slice qt (mintL l).length ct, .string sg] 24)) at hB
 replace hE := hE.trans e_
 replace hA := hA.ext e_
 replace hC := hC.ext e_
 replace hT := hT.ext e_
 replace hCv := hCv.ext e_
 clear e_
 generalize w4.alloc (.cells #[.string ⟨#[97]⟩, .slice qt (mintL l).length ct, .string sg] 24) = w5 at *
 generalize w4.heap.size = bT at *
 go_wp2_with (first | (refine wpList_load_row_g (by kernel_rfl) 24 _ rfl bT rfl _ _ _ _ hB Tryz.underlying24 rfl (by kernel_rfl) ?_) | (refine wpList_load_row_g (by kernel_rfl) 38 _ rfl bC rfl _ _ _ _ hC Tryz.underlying38 rfl (by kernel_rfl) ?_))
 refine (CW.out K _ _ _ hE hsg.out hCv).mono ?_; rintro e_ w6 ⟨⟨T_, rfl, hN⟩, h6⟩
 replace hE := hE.trans h6
 replace hA := hA.ext h6
 replace hC := hC.ext h6
 replace hT := hT.ext h6
 replace hCv := hCv.ext h6
 replace hB := hB.ext h6
 clear h6
 obtain ⟨vn, rfl, hNv, hNk⟩ := hN
 obtain ⟨qn, cn, rfl, _, _⟩ := hNv.shape
 unfold moreT at hNv hNk ⊢
 simp only at hNv hNk ⊢
 have hN : TokAt w6 (.agg #[.string ⟨#[97]⟩, .slice qn (mintL l ++ [c]).length cn, .string ⟨(signB (narrowB (signB K.data.toList [97]) (mintL l)) (putC c)).toArray⟩]) (moreT K.data.toList l c) := ⟨_, rfl, hNv, hNk⟩
 clear hNv hNk
 generalize (⟨(signB (narrowB (signB K.data.toList [97]) (mintL l)) (putC c)).toArray⟩ : ByteArray) = sn at *
 generalize (mintL l ++ [c]).length = ln at *
 have hD := RB.new w6 24 [.string ⟨#[97]⟩, .slice qn ln cn, .string sn]
 have e_ : Ext w6 (w6.alloc (.cells #[.string ⟨#[97]⟩, .slice qn ln cn, .string sn] 24)) := (Ext.refl w6).alloc _
 go_upto_region 7 with fail
 change RB w6.heap.size 24 [.string ⟨#[97]⟩, .slice qn ln cn, .string sn] (w6.alloc (.cells #[.string ⟨#[97]⟩, .slice qn ln cn, .string sn] 24)) at hD
 replace hE := hE.trans e_
 replace hA := hA.ext e_
 replace hC := hC.ext e_
 replace hT := hT.ext e_
 replace hCv := hCv.ext e_
 replace hB := hB.ext e_
 replace hN := hN.ext e_
 clear e_
 generalize w6.alloc (.cells #[.string ⟨#[97]⟩, .slice qn ln cn, .string sn] 24) = w7 at *
 generalize w6.heap.size = bN at *
 go_wp2_with (first | (refine wpList_load_row_g (by kernel_rfl) 24 _ rfl bT rfl _ _ _ _ hB Tryz.underlying24 rfl (by kernel_rfl) ?_) | (refine wpList_load_row_g (by kernel_rfl) 33 _ rfl bA rfl _ _ _ _ hA Tryz.underlying33 rfl (by kernel_rfl) ?_))
 refine (CA.out K _ r _ hE hK hT).mono ?_; rintro e_ w8 ⟨rfl, h8⟩
 replace hE := hE.trans h8
 replace hA := hA.ext h8
 replace hC := hC.ext h8
 replace hT := hT.ext h8
 replace hCv := hCv.ext h8
 replace hB := hB.ext h8
 replace hN := hN.ext h8
 replace hD := hD.ext h8
 clear h8
 go_upto_region 8 with fail
 go_wp2_with (first | (refine wpList_load_row_g (by kernel_rfl) 24 _ rfl bN rfl _ _ _ _ hD Tryz.underlying24 rfl (by kernel_rfl) ?_) | (refine wpList_load_row_g (by kernel_rfl) 33 _ rfl bA rfl _ _ _ _ hA Tryz.underlying33 rfl (by kernel_rfl) ?_))
 refine (CB_.out K _ _ hE hK hN).mono ?_; rintro e_ w9 ⟨⟨E2, rfl, hE2⟩, h9⟩
 replace hE := hE.trans h9
 replace hA := hA.ext h9
 replace hC := hC.ext h9
 replace hT := hT.ext h9
 replace hCv := hCv.ext h9
 replace hB := hB.ext h9
 replace hN := hN.ext h9
 replace hD := hD.ext h9
 clear h9
 replace hE2 := Lib.hid hE2
 go_upto_region 9 with fail
 by_cases hov : r + d < 18446744073709551616
 ·
  have hovi : (r : Int) + (d : Int) < 18446744073709551616 := by omega
  have CA3 := CA.out K (.agg #[.string ⟨#[97]⟩, .slice qt (mintL l).length ct, .string sg]) (r + d) _ hE hK hT
  rw [show (((r + d : Nat)) : Int) = (r : Int) + (d : Int) by omega] at CA3
  replace CA3 := Lib.hid CA3
  go_wp2_with (first | (refine wpList_load_row_g (by kernel_rfl) 24 _ rfl bT rfl _ _ _ _ hB Tryz.underlying24 rfl (by kernel_rfl) ?_) | (refine wpList_load_row_g (by kernel_rfl) 33 _ rfl bA rfl _ _ _ _ hA Tryz.underlying33 rfl (by kernel_rfl) ?_))
  refine CA3.out.mono ?_
  rintro e_ w10 ⟨rfl, h_⟩
  replace hE := hE.trans h_
  replace hB := hB.ext h_
  replace hT := hT.ext h_
  clear h_
  by_cases h0 : E r = 0
  ·have hm : (E r == 0) = true := by rw [h0]; rfl
   cases hl_ : (E2 == 0) with
   | false =>
    cases ha_ : (E (r + d) == 0) with
    | false =>
     go_wp2_with (first | (refine wpList_load_row_g (by kernel_rfl) 24 _ rfl bT rfl _ _ _ _ hB Tryz.underlying24 rfl (by kernel_rfl) ?_))
     refine (CK.out K _ _ hE hK hT).mono ?_; rintro e_ wz ⟨rfl, hz⟩
     replace hE := hE.trans hz
     go_wp2
     go_ret
     exact ⟨by simp, hE⟩
    | true =>
     go_wp2_with (first | (refine wpList_load_row_g (by kernel_rfl) 24 _ rfl bT rfl _ _ _ _ hB Tryz.underlying24 rfl (by kernel_rfl) ?_))
     refine (CK.out K _ _ hE hK hT).mono ?_; rintro e_ wz ⟨rfl, hz⟩
     replace hE := hE.trans hz
     go_wp2
     go_ret
     exact ⟨by simp, hE⟩
   | true =>
    cases ha_ : (E (r + d) == 0) with
    | false =>
     go_wp2_with (first | (refine wpList_load_row_g (by kernel_rfl) 24 _ rfl bT rfl _ _ _ _ hB Tryz.underlying24 rfl (by kernel_rfl) ?_))
     refine (CK.out K _ _ hE hK hT).mono ?_; rintro e_ wz ⟨rfl, hz⟩
     replace hE := hE.trans hz
     go_wp2
     go_ret
     exact ⟨by simp, hE⟩
    | true =>
     go_wp2_with (first | (refine wpList_load_row_g (by kernel_rfl) 24 _ rfl bT rfl _ _ _ _ hB Tryz.underlying24 rfl (by kernel_rfl) ?_))
     refine (CK.out K _ _ hE hK hT).mono ?_; rintro e_ wz ⟨rfl, hz⟩
     replace hE := hE.trans hz
     go_wp2
     go_ret
     exact ⟨by simp, hE⟩
  ·have hm : (E r == 0) = false := beq_eq_false_iff_ne.2 h0
   have hl_ : (E2 == 0) = false := beq_eq_false_iff_ne.2 fun h => h0 (hE2.out h)
   have ha_ : (E (r + d) == 0) = false := beq_eq_false_iff_ne.2 fun h => h0 (hmono.out _ (by omega) h)
   go_wp2_with (first | (refine wpList_load_row_g (by kernel_rfl) 24 _ rfl bT rfl _ _ _ _ hB Tryz.underlying24 rfl (by kernel_rfl) ?_))
   refine (CK.out K _ _ hE hK hT).mono ?_; rintro e_ wz ⟨rfl, hz⟩
   replace hE := hE.trans hz
   go_wp2
   go_ret
   exact ⟨by simp, hE⟩
 ·
  have hovi : ¬ ((r : Int) + (d : Int) < 18446744073709551616) := by omega
  have hwr : IntKind.u64.wrap ((r : Int) + (d : Int)) = ((r + d - 18446744073709551616 : Nat) : Int) := by
   simp [IntKind.wrap, IntKind.signed, IntKind.bits]
   omega
  have CA3 := CA.out K (.agg #[.string ⟨#[97]⟩, .slice qt (mintL l).length ct, .string sg]) (r + d - 18446744073709551616) _ hE hK hT
  rw [← hwr] at CA3
  have hlt : IntKind.u64.wrap ((r : Int) + (d : Int)) < (r : Int) := by rw [hwr]; omega
  replace CA3 := Lib.hid CA3
  replace hwr := Lib.hid hwr
  go_wp2_with (first | (refine wpList_load_row_g (by kernel_rfl) 24 _ rfl bT rfl _ _ _ _ hB Tryz.underlying24 rfl (by kernel_rfl) ?_) | (refine wpList_load_row_g (by kernel_rfl) 33 _ rfl bA rfl _ _ _ _ hA Tryz.underlying33 rfl (by kernel_rfl) ?_))
  refine CA3.out.mono ?_
  rintro e_ w10 ⟨rfl, h_⟩
  replace hE := hE.trans h_
  replace hB := hB.ext h_
  replace hT := hT.ext h_
  clear h_
  by_cases h0 : E r = 0
  ·have hm : (E r == 0) = true := by rw [h0]; rfl
   cases hl_ : (E2 == 0) with
   | false =>
    cases ha_ : (E (r + d - 18446744073709551616) == 0) with
    | false =>
     go_wp2_with (first | (refine wpList_load_row_g (by kernel_rfl) 24 _ rfl bT rfl _ _ _ _ hB Tryz.underlying24 rfl (by kernel_rfl) ?_))
     refine (CK.out K _ _ hE hK hT).mono ?_; rintro e_ wz ⟨rfl, hz⟩
     replace hE := hE.trans hz
     go_wp2
     go_ret
     exact ⟨by simp, hE⟩
    | true =>
     go_wp2_with (first | (refine wpList_load_row_g (by kernel_rfl) 24 _ rfl bT rfl _ _ _ _ hB Tryz.underlying24 rfl (by kernel_rfl) ?_))
     refine (CK.out K _ _ hE hK hT).mono ?_; rintro e_ wz ⟨rfl, hz⟩
     replace hE := hE.trans hz
     go_wp2
     go_ret
     exact ⟨by simp, hE⟩
   | true =>
    cases ha_ : (E (r + d - 18446744073709551616) == 0) with
    | false =>
     go_wp2_with (first | (refine wpList_load_row_g (by kernel_rfl) 24 _ rfl bT rfl _ _ _ _ hB Tryz.underlying24 rfl (by kernel_rfl) ?_))
     refine (CK.out K _ _ hE hK hT).mono ?_; rintro e_ wz ⟨rfl, hz⟩
     replace hE := hE.trans hz
     go_wp2
     go_ret
     exact ⟨by simp, hE⟩
    | true =>
     go_wp2_with (first | (refine wpList_load_row_g (by kernel_rfl) 24 _ rfl bT rfl _ _ _ _ hB Tryz.underlying24 rfl (by kernel_rfl) ?_))
     refine (CK.out K _ _ hE hK hT).mono ?_; rintro e_ wz ⟨rfl, hz⟩
     replace hE := hE.trans hz
     go_wp2
     go_ret
     exact ⟨by simp, hE⟩
  ·have hm : (E r == 0) = false := beq_eq_false_iff_ne.2 h0
   have hl_ : (E2 == 0) = false := beq_eq_false_iff_ne.2 fun h => h0 (hE2.out h)
   cases ha_ : (E (r + d - 18446744073709551616) == 0) with
   | false =>
    go_wp2_with (first | (refine wpList_load_row_g (by kernel_rfl) 24 _ rfl bT rfl _ _ _ _ hB Tryz.underlying24 rfl (by kernel_rfl) ?_))
    refine (CK.out K _ _ hE hK hT).mono ?_; rintro e_ wz ⟨rfl, hz⟩
    replace hE := hE.trans hz
    go_wp2
    go_ret
    exact ⟨by simp, hE⟩
   | true =>
    go_wp2_with (first | (refine wpList_load_row_g (by kernel_rfl) 24 _ rfl bT rfl _ _ _ _ hB Tryz.underlying24 rfl (by kernel_rfl) ?_))
    refine (CK.out K _ _ hE hK hT).mono ?_; rintro e_ wz ⟨rfl, hz⟩
    replace hE := hE.trans hz
    go_wp2
    go_ret
    exact ⟨by simp, hE⟩
end Go.Proofs.YtefjdmjkofaajaaGreatDoor
