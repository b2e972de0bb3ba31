/- Texts of the base. -/

import Derived.Test.YtefjdmjkofaajaaGreatDoorT36
namespace Go.Proofs.YtefjdmjkofaajaaGreatDoor
open Go.RowKit Go.Dm
theorem opAt_lit (w : World) (k : Int) (i : Nat) (hk : -9223372036854775808 ≤ k ∧ k ≤ 9223372036854775807) (hi : U64 i) :
  OpAt w (.agg #[.int .i64 k, .int .u64 (i : Nat), .int .u64 0, .string ⟨#[]⟩, .int .u64 0, .int .u64 0, .int .u64 0, .int .u64 0, .string ⟨#[]⟩, .int .u64 0, .int .u64 0, .int .u64 0, .int .u64 0, .int .i64 0, .int .i64 0, .int .i64 0, .slice none 0 0, .slice none 0 0]) (k, (i, 0), ⟨#[]⟩, noV, noSp, []) :=
 ⟨.slice none 0 0, .slice none 0 0, [], rfl, Terms.nil w, (fun r hr => by cases hr), by simp, rfl, Pairs.nil w, ⟨hk, hi, u64_zero, okV_no, by show (0 : Nat) < _; decide, okV_no, by show (0 : Nat) ≤ _; omega, FitP.nil⟩⟩
set_option maxHeartbeats 8000000 in
set_option maxRecDepth 100000 in
theorem exam_w (w : World) (hv : Vars w) (hs : ShaV w) (hg : GateV w) :
  Calls Tryz.prog 9 #[] w fun e w' => e = .returned (.bool true) ∧ Ext w w' := by
 have okt : OkT tE := ⟨by decide +kernel, by decide +kernel, by decide +kernel, fun c hc => by cases hc⟩
 have okn : OkT nE := ⟨by decide +kernel, by decide +kernel, by decide +kernel, fun c hc => by obtain rfl : c = (1, 2) := (by simpa [nE] using hc); show (2 : Nat) < _; decide⟩
 have oku : OkT uE := ⟨by show (1 : Nat) ≤ _; omega, by show (signB _ _).toArray.size ≤ _; rw [List.size_toArray, signB_len]; omega, by show (1 : Nat) ≤ _; omega, fun c hc => by obtain rfl : c = (2, 9) := (by simpa [uE] using hc); show (9 : Nat) < _; decide⟩
 obtain ⟨sv0, hv0⟩ : ∃ s : ByteArray, s = ⟨s0L.toArray⟩ := ⟨_, rfl⟩
 obtain ⟨sv1, hv1⟩ : ∃ s : ByteArray, s = ⟨n1L.toArray⟩ := ⟨_, rfl⟩
 obtain ⟨sv2, hv2⟩ : ∃ s : ByteArray, s = ⟨(signB s0L (putC (2, 9))).toArray⟩ := ⟨_, rfl⟩
 have hz0 : sv0.size = 32 := by rw [hv0]; decide +kernel
 have CW : Hid (∀ U, Ext w U → Calls Tryz.prog 10 #[.string ⟨#[107, 101, 121]⟩, .string ⟨#[97]⟩] U fun e w' => e = .returned (.agg #[.string ⟨#[97]⟩, .slice none 0 0, .string sv0]) ∧ Ext U w') := fun U h => by
  have := new_w ⟨#[107, 101, 121]⟩ ⟨#[97]⟩ U (by decide +kernel) (by decide +kernel) (hs.ext h)
  rw [show (⟨#[107, 101, 121]⟩ : ByteArray).data.toList = keyE from rfl, show (⟨#[97]⟩ : ByteArray).data.toList = [97] from rfl, s0_eq, ← hv0] at this
  exact this
 have CNn : Hid (∀ U, Ext w U → Calls Tryz.prog 11 #[.agg #[.string ⟨#[97]⟩, .slice none 0 0, .string sv0], .agg #[.int .i64 1, .int .u64 2]] U fun e w' => (∃ r, e = .returned (.agg #[.string ⟨#[97]⟩, r, .string sv1]) ∧ Cavs w' r [(1, 2)]) ∧ Ext U w') := fun U h => by
  have := narrow_w ⟨#[97]⟩ sv0 (.slice none 0 0) [] (1, 2) U (Sl.nil U 2) (by first | (show (2 : Nat) < _; decide) | (show (9 : Nat) < _; decide)) (by decide +kernel) (by omega) (hs.ext h)
  rw [show sv0.data.toList = s0L by rw [hv0], n1_eq, ← hv1] at this
  exact this.mono fun e w' ⟨r, h1, h2, h3⟩ => ⟨⟨r, h1, h2⟩, h3⟩
 have CNu : Hid (∀ U, Ext w U → Calls Tryz.prog 11 #[.agg #[.string ⟨#[97]⟩, .slice none 0 0, .string sv0], .agg #[.int .i64 2, .int .u64 9]] U fun e w' => (∃ r, e = .returned (.agg #[.string ⟨#[97]⟩, r, .string sv2]) ∧ Cavs w' r [(2, 9)]) ∧ Ext U w') := fun U h => by
  have := narrow_w ⟨#[97]⟩ sv0 (.slice none 0 0) [] (2, 9) U (Sl.nil U 2) (by first | (show (2 : Nat) < _; decide) | (show (9 : Nat) < _; decide)) (by decide +kernel) (by omega) (hs.ext h)
  rw [show sv0.data.toList = s0L by rw [hv0], ← hv2] at this
  exact this.mono fun e w' ⟨r, h1, h2, h3⟩ => ⟨⟨r, h1, h2⟩, h3⟩
 obtain ⟨PB, hPB⟩ : ∃ s : ByteArray, s = ⟨(putG nE oE).toArray⟩ := ⟨_, rfl⟩
 have hPz : PB.size ≤ 1000 := by rw [hPB]; show (putG nE oE).toArray.size ≤ _; rw [List.size_toArray]; exact put_len
 have CP : Hid (∀ T V U, TokAt U T nE → OpAt U V oE → Ext w U → Calls Tryz.prog 15 #[T, V] U fun e w' => e = .returned (.string PB) ∧ Ext U w') := fun T V U h1 h2 h => by
  have := gput_w T V nE oE U h1 h2 (hv.ext h)
  rw [← hPB] at this
  exact this
 have CPz : Hid (∀ T V U, TokAt U T noTok.1 → OpAt U V oE → Ext w U → Calls Tryz.prog 15 #[T, V] U fun e w' => e = .returned (.string ⟨#[]⟩) ∧ Ext U w') := fun T V U h1 h2 h => by
  have := gput_w T V noTok.1 oE U h1 h2 (hv.ext h)
  rw [put_none] at this
  exact this
 have COy : Hid (∀ U, Ext w U → Calls Tryz.prog 20 #[.string PB] U fun e w' => (∃ T V, e = .returned (.tuple #[T, V, .bool true]) ∧ TokAt w' T nE ∧ OpAt w' V oE) ∧ Ext U w') := fun U h => by
  have := gopen_w PB U (by omega) (hv.ext h)
  rw [show openG PB.data.toList = (nE, oE, true) by rw [hPB]; exact open_n] at this
  exact this
 have COn : Hid (∀ U, Ext w U → Calls Tryz.prog 20 #[.string (PB ++ ⟨#[0]⟩)] U fun e w' => (∃ T V, e = .returned (.tuple #[T, V, .bool false]) ∧ TokAt w' T noTok.1 ∧ OpAt w' V (opQ0 0)) ∧ Ext U w') := fun U h => by
  have := gopen_w (PB ++ ⟨#[0]⟩) U (by rw [ByteArray.size_append]; show PB.size + 1 ≤ _; omega) (hv.ext h)
  rw [show openG (PB ++ ⟨#[0]⟩).data.toList = noG by rw [data_append, hPB]; exact open_no] at this
  exact this
 have CD3 : Hid (∀ U, Ext w U → Calls Tryz.prog 13 #[.agg #[.int .i64 3, .int .u64 0, .int .u64 0, .string ⟨#[]⟩, .int .u64 0, .int .u64 0, .int .u64 0, .int .u64 0, .string ⟨#[]⟩, .int .u64 0, .int .u64 0, .int .u64 0, .int .u64 0, .int .i64 0, .int .i64 0, .int .i64 0, .slice none 0 0, .slice none 0 0]] U fun e w' => e = .returned (.tuple #[.int .u64 4, .bool true]) ∧ Ext U w') := fun U h => needsA (opAt_lit U 3 0 (by omega) u64_zero) (hg.ext h)
 have CD13 : Hid (∀ U, Ext w U → Calls Tryz.prog 13 #[.agg #[.int .i64 13, .int .u64 0, .int .u64 0, .string ⟨#[]⟩, .int .u64 0, .int .u64 0, .int .u64 0, .int .u64 0, .string ⟨#[]⟩, .int .u64 0, .int .u64 0, .int .u64 0, .int .u64 0, .int .i64 0, .int .i64 0, .int .i64 0, .slice none 0 0, .slice none 0 0]] U fun e w' => e = .returned (.tuple #[.int .u64 0, .bool false]) ∧ Ext U w') := fun U h => needsA (opAt_lit U 13 0 (by omega) u64_zero) (hg.ext h)
 have A1 : Hid (∀ T V U, TokAt U T tE → OpAt U V oE → Ext w U → Calls Tryz.prog 18 #[.string ⟨#[107, 101, 121]⟩, T, V, .int .u64 9] U fun e w' => e = .returned (.int .i64 0) ∧ Ext U w') := fun T V U h1 h2 h => by
  have := gallow_w ⟨#[107, 101, 121]⟩ T V tE oE 9 U (by decide +kernel) h1 h2 (hs.ext h) (hg.ext h)
  rw [show (⟨#[107, 101, 121]⟩ : ByteArray).data.toList = keyE from rfl, al_t] at this
  exact this
 have A2 : Hid (∀ T V U, TokAt U T tE → OpAt U V oE → Ext w U → Calls Tryz.prog 18 #[.string ⟨#[107, 101, 122]⟩, T, V, .int .u64 9] U fun e w' => e = .returned (.int .i64 13) ∧ Ext U w') := fun T V U h1 h2 h => by
  have := gallow_w ⟨#[107, 101, 122]⟩ T V tE oE 9 U (by decide +kernel) h1 h2 (hs.ext h) (hg.ext h)
  rw [show (⟨#[107, 101, 122]⟩ : ByteArray).data.toList = kezE from rfl, al_z] at this
  exact this
 have A3 : Hid (∀ T V U, TokAt U T nE → OpAt U V oE → Ext w U → Calls Tryz.prog 18 #[.string ⟨#[107, 101, 121]⟩, T, V, .int .u64 9] U fun e w' => e = .returned (.int .i64 0) ∧ Ext U w') := fun T V U h1 h2 h => by
  have := gallow_w ⟨#[107, 101, 121]⟩ T V nE oE 9 U (by decide +kernel) h1 h2 (hs.ext h) (hg.ext h)
  rw [show (⟨#[107, 101, 121]⟩ : ByteArray).data.toList = keyE from rfl, al_n] at this
  exact this
 have A4 : Hid (∀ T V U, TokAt U T nE → OpAt U V (opQ0 2) → Ext w U → Calls Tryz.prog 18 #[.string ⟨#[107, 101, 121]⟩, T, V, .int .u64 9] U fun e w' => e = .returned (.int .i64 14) ∧ Ext U w') := fun T V U h1 h2 h => by
  have := gallow_w ⟨#[107, 101, 121]⟩ T V nE (opQ0 2) 9 U (by decide +kernel) h1 h2 (hs.ext h) (hg.ext h)
  rw [show (⟨#[107, 101, 121]⟩ : ByteArray).data.toList = keyE from rfl, al_n2] at this
  exact this
 have A5 : Hid (∀ T V U, TokAt U T uE → OpAt U V oE → Ext w U → Calls Tryz.prog 18 #[.string ⟨#[107, 101, 121]⟩, T, V, .int .u64 9] U fun e w' => e = .returned (.int .i64 0) ∧ Ext U w') := fun T V U h1 h2 h => by
  have := gallow_w ⟨#[107, 101, 121]⟩ T V uE oE 9 U (by decide +kernel) h1 h2 (hs.ext h) (hg.ext h)
  rw [show (⟨#[107, 101, 121]⟩ : ByteArray).data.toList = keyE from rfl, al_u] at this
  exact this
 have A6 : Hid (∀ T V U, TokAt U T uE → OpAt U V oE → Ext w U → Calls Tryz.prog 18 #[.string ⟨#[107, 101, 121]⟩, T, V, .int .u64 10] U fun e w' => e = .returned (.int .i64 14) ∧ Ext U w') := fun T V U h1 h2 h => by
  have := gallow_w ⟨#[107, 101, 121]⟩ T V uE oE 10 U (by decide +kernel) h1 h2 (hs.ext h) (hg.ext h)
  rw [show (⟨#[107, 101, 121]⟩ : ByteArray).data.toList = keyE from rfl, al_u10] at this
  exact this
 have A7 : Hid (∀ T V U, TokAt U T tE → OpAt U V (opQ0 9) → Ext w U → Calls Tryz.prog 18 #[.string ⟨#[107, 101, 121]⟩, T, V, .int .u64 0] U fun e w' => e = .returned (.int .i64 14) ∧ Ext U w') := fun T V U h1 h2 h => by
  have := gallow_w ⟨#[107, 101, 121]⟩ T V tE (opQ0 9) 0 U (by decide +kernel) h1 h2 (hs.ext h) (hg.ext h)
  rw [show (⟨#[107, 101, 121]⟩ : ByteArray).data.toList = keyE from rfl, al_r] at this
  exact this
 replace hv0 := Lib.hid hv0
 replace hv1 := Lib.hid hv1
 replace hv2 := Lib.hid hv2
 clear hPB hz0
 have hE := Ext.refl w
 go_enter Tryz.func9, Tryz.ntmps9
 go_wp2_with fail
 refine (CW.out _ hE).mono ?_; rintro e_ w2 ⟨rfl, h2⟩
 replace hE := hE.trans h2
 clear h2
 have hB1 := RB.new w2 24 [.string ⟨#[97]⟩, .slice none 0 0, .string sv0]
 have e_ : Ext w2 (w2.alloc (.cells #[.string ⟨#[97]⟩, .slice none 0 0, .string sv0] 24)) := (Ext.refl w2).alloc _
 go_upto_region 2 with fail
 change RB w2.heap.size 24 [.string ⟨#[97]⟩, .slice none 0 0, .string sv0] (w2.alloc (.cells #[.string ⟨#[97]⟩, .slice none 0 0, .string sv0] 24)) at hB1
 replace hE := hE.trans e_
 clear e_
 generalize w2.alloc (.cells #[.string ⟨#[97]⟩, .slice none 0 0, .string sv0] 24) = w3 at *
 generalize w2.heap.size = b1 at *
 have hB2 := (RB.new w3 33 [.int .i64 0, .int .u64 0, .int .u64 0, .string ⟨#[]⟩, .int .u64 0, .int .u64 0, .int .u64 0, .int .u64 0, .string ⟨#[]⟩, .int .u64 0, .int .u64 0, .int .u64 0, .int .u64 0, .int .i64 0, .int .i64 0, .int .i64 0, .slice none 0 0, .slice none 0 0]).setRow [.int .i64 4, .int .u64 7, .int .u64 0, .string ⟨#[]⟩, .int .u64 0, .int .u64 0, .int .u64 0, .int .u64 0, .string ⟨#[]⟩, .int .u64 0, .int .u64 0, .int .u64 0, .int .u64 0, .int .i64 0, .int .i64 0, .int .i64 0, .slice none 0 0, .slice none 0 0]
 have e_ : Ext w3 ((w3.alloc (.cells #[.int .i64 0, .int .u64 0, .int .u64 0, .string ⟨#[]⟩, .int .u64 0, .int .u64 0, .int .u64 0, .int .u64 0, .string ⟨#[]⟩, .int .u64 0, .int .u64 0, .int .u64 0, .int .u64 0, .int .i64 0, .int .i64 0, .int .i64 0, .slice none 0 0, .slice none 0 0] 33)).setRow w3.heap.size #[.int .i64 4, .int .u64 7, .int .u64 0, .string ⟨#[]⟩, .int .u64 0, .int .u64 0, .int .u64 0, .int .u64 0, .string ⟨#[]⟩, .int .u64 0, .int .u64 0, .int .u64 0, .int .u64 0, .int .i64 0, .int .i64 0, .int .i64 0, .slice none 0 0, .slice none 0 0]) := Ext.setRow ((Ext.refl w3).alloc _) (Nat.le_refl _) _
 go_upto_region 3 with (refine wpList_store_row (cells := #[.int .i64 4, .int .u64 7, .int .u64 0, .string ⟨#[]⟩, .int .u64 0, .int .u64 0, .int .u64 0, .int .u64 0, .string ⟨#[]⟩, .int .u64 0, .int .u64 0, .int .u64 0, .int .u64 0, .int .i64 0, .int .i64 0, .int .i64 0, .slice none 0 0, .slice none 0 0]) rfl 33 _ _ rfl w3.heap.size rfl rfl _ _ (RB.new w3 33 [.int .i64 0, .int .u64 0, .int .u64 0, .string ⟨#[]⟩, .int .u64 0, .int .u64 0, .int .u64 0, .int .u64 0, .string ⟨#[]⟩, .int .u64 0, .int .u64 0, .int .u64 0, .int .u64 0, .int .i64 0, .int .i64 0, .int .i64 0, .slice none 0 0, .slice none 0 0]) (by kernel_rfl) rfl (by first | rfl | decide | simp [Value.oneCell']) ?_)
 change RB w3.heap.size 33 [.int .i64 4, .int .u64 7, .int .u64 0, .string ⟨#[]⟩, .int .u64 0, .int .u64 0, .int .u64 0, .int .u64 0, .string ⟨#[]⟩, .int .u64 0, .int .u64 0, .int .u64 0, .int .u64 0, .int .i64 0, .int .i64 0, .int .i64 0, .slice none 0 0, .slice none 0 0] ((w3.alloc (.cells #[.int .i64 0, .int .u64 0, .int .u64 0, .string ⟨#[]⟩, .int .u64 0, .int .u64 0, .int .u64 0, .int .u64 0, .string ⟨#[]⟩, .int .u64 0, .int .u64 0, .int .u64 0, .int .u64 0, .int .i64 0, .int .i64 0, .int .i64 0, .slice none 0 0, .slice none 0 0] 33)).setRow w3.heap.size #[.int .i64 4, .int .u64 7, .int .u64 0, .string ⟨#[]⟩, .int .u64 0, .int .u64 0, .int .u64 0, .int .u64 0, .string ⟨#[]⟩, .int .u64 0, .int .u64 0, .int .u64 0, .int .u64 0, .int .i64 0, .int .i64 0, .int .i64 0, .slice none 0 0, .slice none 0 0]) at hB2
 replace hE := hE.trans e_
 replace hB1 := hB1.ext e_
 clear e_
 generalize (w3.alloc (.cells #[.int .i64 0, .int .u64 0, .int .u64 0, .string ⟨#[]⟩, .int .u64 0, .int .u64 0, .int .u64 0, .int .u64 0, .string ⟨#[]⟩, .int .u64 0, .int .u64 0, .int .u64 0, .int .u64 0, .int .i64 0, .int .i64 0, .int .i64 0, .slice none 0 0, .slice none 0 0] 33)).setRow w3.heap.size #[.int .i64 4, .int .u64 7, .int .u64 0, .string ⟨#[]⟩, .int .u64 0, .int .u64 0, .int .u64 0, .int .u64 0, .string ⟨#[]⟩, .int .u64 0, .int .u64 0, .int .u64 0, .int .u64 0, .int .i64 0, .int .i64 0, .int .i64 0, .slice none 0 0, .slice none 0 0] = w4 at *
 generalize w3.heap.size = b2 at *
 go_wp2_with (first | (refine wpList_load_row_g (by kernel_rfl) 24 _ rfl b1 rfl _ _ _ _ hB1 Tryz.underlying24 rfl (by kernel_rfl) ?_))
 refine (CNn.out _ hE).mono ?_; rintro e_ w5 ⟨⟨r_, rfl, hCn⟩, h5⟩
 replace hE := hE.trans h5
 replace hB1 := hB1.ext h5
 replace hB2 := hB2.ext h5
 clear h5
 obtain ⟨qn, cn, rfl, _, _⟩ := hCn.shape
 have hCn_ : TokAt w5 (.agg #[.string ⟨#[97]⟩, .slice qn 1 cn, .string sv1]) nE := ⟨_, by rw [hv1.out]; rfl, hCn, okn⟩
 clear hCn
 have hB3 := RB.new w5 24 [.string ⟨#[97]⟩, .slice qn 1 cn, .string sv1]
 have e_ : Ext w5 (w5.alloc (.cells #[.string ⟨#[97]⟩, .slice qn 1 cn, .string sv1] 24)) := (Ext.refl w5).alloc _
 go_upto_region 4 with fail
 change RB w5.heap.size 24 [.string ⟨#[97]⟩, .slice qn 1 cn, .string sv1] (w5.alloc (.cells #[.string ⟨#[97]⟩, .slice qn 1 cn, .string sv1] 24)) at hB3
 replace hE := hE.trans e_
 replace hB1 := hB1.ext e_
 replace hB2 := hB2.ext e_
 replace hCn_ := hCn_.ext e_
 clear e_
 generalize w5.alloc (.cells #[.string ⟨#[97]⟩, .slice qn 1 cn, .string sv1] 24) = w6 at *
 generalize w5.heap.size = b3 at *
 go_wp2_with (first | (refine wpList_load_row_g (by kernel_rfl) 24 _ rfl b1 rfl _ _ _ _ hB1 Tryz.underlying24 rfl (by kernel_rfl) ?_))
 refine (CNu.out _ hE).mono ?_; rintro e_ w7 ⟨⟨r_, rfl, hCu⟩, h7⟩
 replace hE := hE.trans h7
 replace hB1 := hB1.ext h7
 replace hB2 := hB2.ext h7
 replace hCn_ := hCn_.ext h7
 replace hB3 := hB3.ext h7
 clear h7
 obtain ⟨qu, cu, rfl, _, _⟩ := hCu.shape
 have hCu_ : TokAt w7 (.agg #[.string ⟨#[97]⟩, .slice qu 1 cu, .string sv2]) uE := ⟨_, by rw [hv2.out]; rfl, hCu, oku⟩
 clear hCu
 have hB4 := RB.new w7 24 [.string ⟨#[97]⟩, .slice qu 1 cu, .string sv2]
 have e_ : Ext w7 (w7.alloc (.cells #[.string ⟨#[97]⟩, .slice qu 1 cu, .string sv2] 24)) := (Ext.refl w7).alloc _
 go_upto_region 5 with fail
 change RB w7.heap.size 24 [.string ⟨#[97]⟩, .slice qu 1 cu, .string sv2] (w7.alloc (.cells #[.string ⟨#[97]⟩, .slice qu 1 cu, .string sv2] 24)) at hB4
 replace hE := hE.trans e_
 replace hB1 := hB1.ext e_
 replace hB2 := hB2.ext e_
 replace hCn_ := hCn_.ext e_
 replace hB3 := hB3.ext e_
 replace hCu_ := hCu_.ext e_
 clear e_
 generalize w7.alloc (.cells #[.string ⟨#[97]⟩, .slice qu 1 cu, .string sv2] 24) = w8 at *
 generalize w7.heap.size = b4 at *
 have hTt : ∀ U, TokAt U (.agg #[.string ⟨#[97]⟩, .slice none 0 0, .string sv0]) tE := fun U => ⟨_, by rw [hv0.out]; rfl, Sl.nil U 2, okt⟩
 replace hTt := Lib.hid hTt
 go_wp2_with (first | (refine wpList_load_row_g (by kernel_rfl) 24 _ rfl b3 rfl _ _ _ _ hB3 Tryz.underlying24 rfl (by kernel_rfl) ?_) | (refine wpList_load_row_g (by kernel_rfl) 33 _ rfl b2 rfl _ _ _ _ hB2 Tryz.underlying33 rfl (by kernel_rfl) ?_))
 refine (CP.out _ _ _ hCn_ (opAt_lit _ 4 7 (by omega) (by show (7 : Nat) < _; decide)) hE).mono ?_; rintro e_ w9 ⟨rfl, h9⟩
 replace hE := hE.trans h9
 replace hB1 := hB1.ext h9
 replace hB2 := hB2.ext h9
 replace hCn_ := hCn_.ext h9
 replace hB3 := hB3.ext h9
 replace hCu_ := hCu_.ext h9
 replace hB4 := hB4.ext h9
 clear h9
 go_wp2_with fail
 refine (COy.out _ hE).mono ?_; rintro e_ w10 ⟨⟨T_, V_, rfl, hT_, hV_⟩, h10⟩
 replace hE := hE.trans h10
 replace hB1 := hB1.ext h10
 replace hB2 := hB2.ext h10
 replace hCn_ := hCn_.ext h10
 replace hB3 := hB3.ext h10
 replace hCu_ := hCu_.ext h10
 replace hB4 := hB4.ext h10
 clear h10
 obtain ⟨vx, rfl, hCx, _⟩ := hT_
 obtain ⟨qx, cx, rfl, _, _⟩ := hCx.shape
 obtain ⟨vv, vl, Rx, rfl, hTx, _, _, _, hPx, _⟩ := hV_
 obtain ⟨qv, cv, rfl, _, _⟩ := hTx.shape
 obtain ⟨ql, cl, rfl, _, _⟩ := hPx.shape
 clear hCx hTx hPx
 unfold opV
 obtain ⟨w11, hW_, r1, r3, hB5, hB6, e_⟩ := two_rows w10 24 33 [.string ⟨#[]⟩, .slice none 0 0, .string ⟨#[]⟩] [.int .i64 0, .int .u64 0, .int .u64 0, .string ⟨#[]⟩, .int .u64 0, .int .u64 0, .int .u64 0, .int .u64 0, .string ⟨#[]⟩, .int .u64 0, .int .u64 0, .int .u64 0, .int .u64 0, .int .i64 0, .int .i64 0, .int .i64 0, .slice none 0 0, .slice none 0 0] [.string nE.1, .slice qx nE.2.1.length cx, .string nE.2.2] [.int .i64 oE.1, .int .u64 (oE.2.1.1 : Nat), .int .u64 (oE.2.1.2 : Nat), .string oE.2.2.1, .int .u64 ((vG oE.2.2.2.1) 0 : Nat), .int .u64 ((vG oE.2.2.2.1) 1 : Nat), .int .u64 ((vG oE.2.2.2.1) 2 : Nat), .int .u64 ((vG oE.2.2.2.1) 3 : Nat), .string oE.2.2.2.2.1.1, .int .u64 ((vG oE.2.2.2.2.1.2.1) 0 : Nat), .int .u64 ((vG oE.2.2.2.2.1.2.1) 1 : Nat), .int .u64 ((vG oE.2.2.2.2.1.2.1) 2 : Nat), .int .u64 ((vG oE.2.2.2.2.1.2.1) 3 : Nat), .int .i64 oE.2.2.2.2.1.2.2.1.1, .int .i64 oE.2.2.2.2.1.2.2.1.2.1, .int .i64 oE.2.2.2.2.1.2.2.1.2.2, .slice qv Rx.length cv, .slice ql oE.2.2.2.2.2.length cl]
 go_upto_region 6 with (first | (refine wpList_store_row (cells := #[.string nE.1, .slice qx nE.2.1.length cx, .string nE.2.2]) rfl 24 _ _ rfl w10.heap.size rfl rfl _ _ r1 (by kernel_rfl) rfl (by first | rfl | decide | simp [Value.oneCell']) ?_) | (refine wpList_store_row (cells := #[.int .i64 oE.1, .int .u64 (oE.2.1.1 : Nat), .int .u64 (oE.2.1.2 : Nat), .string oE.2.2.1, .int .u64 ((vG oE.2.2.2.1) 0 : Nat), .int .u64 ((vG oE.2.2.2.1) 1 : Nat), .int .u64 ((vG oE.2.2.2.1) 2 : Nat), .int .u64 ((vG oE.2.2.2.1) 3 : Nat), .string oE.2.2.2.2.1.1, .int .u64 ((vG oE.2.2.2.2.1.2.1) 0 : Nat), .int .u64 ((vG oE.2.2.2.2.1.2.1) 1 : Nat), .int .u64 ((vG oE.2.2.2.2.1.2.1) 2 : Nat), .int .u64 ((vG oE.2.2.2.2.1.2.1) 3 : Nat), .int .i64 oE.2.2.2.2.1.2.2.1.1, .int .i64 oE.2.2.2.2.1.2.2.1.2.1, .int .i64 oE.2.2.2.2.1.2.2.1.2.2, .slice qv Rx.length cv, .slice ql oE.2.2.2.2.2.length cl]) rfl 33 _ _ rfl (w10.heap.size + 1) rfl rfl _ _ r3 (by kernel_rfl) rfl (by first | rfl | decide | simp [Value.oneCell']) ?_))
 try rw [hW_]
 clear r1 r3 hW_
 replace hE := hE.trans e_
 replace hB1 := hB1.ext e_
 replace hB2 := hB2.ext e_
 replace hCn_ := hCn_.ext e_
 replace hB3 := hB3.ext e_
 replace hCu_ := hCu_.ext e_
 replace hB4 := hB4.ext e_
 clear e_
 generalize w10.heap.size + 1 = b6 at *
 generalize w10.heap.size = b5 at *
 go_wp2_with (first | (refine wpList_load_row_g (by kernel_rfl) 24 _ rfl b3 rfl _ _ _ _ hB3 Tryz.underlying24 rfl (by kernel_rfl) ?_) | (refine wpList_load_row_g (by kernel_rfl) 33 _ rfl b2 rfl _ _ _ _ hB2 Tryz.underlying33 rfl (by kernel_rfl) ?_))
 refine (CP.out _ _ _ hCn_ (opAt_lit _ 4 7 (by omega) (by show (7 : Nat) < _; decide)) hE).mono ?_; rintro e_ w12 ⟨rfl, h12⟩
 replace hE := hE.trans h12
 replace hB1 := hB1.ext h12
 replace hB2 := hB2.ext h12
 replace hCn_ := hCn_.ext h12
 replace hB3 := hB3.ext h12
 replace hCu_ := hCu_.ext h12
 replace hB4 := hB4.ext h12
 replace hB5 := hB5.ext h12
 replace hB6 := hB6.ext h12
 clear h12
 go_wp2_with fail
 refine (COn.out _ hE).mono ?_; rintro e_ w13 ⟨⟨T_, V_, rfl, hT_, hV_⟩, h13⟩
 replace hE := hE.trans h13
 replace hB1 := hB1.ext h13
 replace hB2 := hB2.ext h13
 replace hCn_ := hCn_.ext h13
 replace hB3 := hB3.ext h13
 replace hCu_ := hCu_.ext h13
 replace hB4 := hB4.ext h13
 replace hB5 := hB5.ext h13
 replace hB6 := hB6.ext h13
 clear h13
 obtain ⟨vx, rfl, hCx, _⟩ := hT_
 obtain ⟨qx, cx, rfl, _, _⟩ := hCx.shape
 obtain ⟨vv, vl, Rx, rfl, hTx, _, _, _, hPx, _⟩ := hV_
 obtain ⟨qv, cv, rfl, _, _⟩ := hTx.shape
 obtain ⟨ql, cl, rfl, _, _⟩ := hPx.shape
 clear hCx hTx hPx
 unfold opV
 obtain ⟨w14, hW_, r1, r3, hB8, hB9, e_⟩ := two_rows w13 24 33 [.string ⟨#[]⟩, .slice none 0 0, .string ⟨#[]⟩] [.int .i64 0, .int .u64 0, .int .u64 0, .string ⟨#[]⟩, .int .u64 0, .int .u64 0, .int .u64 0, .int .u64 0, .string ⟨#[]⟩, .int .u64 0, .int .u64 0, .int .u64 0, .int .u64 0, .int .i64 0, .int .i64 0, .int .i64 0, .slice none 0 0, .slice none 0 0] [.string noTok.1.1, .slice qx noTok.1.2.1.length cx, .string noTok.1.2.2] [.int .i64 (opQ0 0).1, .int .u64 ((opQ0 0).2.1.1 : Nat), .int .u64 ((opQ0 0).2.1.2 : Nat), .string (opQ0 0).2.2.1, .int .u64 ((vG (opQ0 0).2.2.2.1) 0 : Nat), .int .u64 ((vG (opQ0 0).2.2.2.1) 1 : Nat), .int .u64 ((vG (opQ0 0).2.2.2.1) 2 : Nat), .int .u64 ((vG (opQ0 0).2.2.2.1) 3 : Nat), .string (opQ0 0).2.2.2.2.1.1, .int .u64 ((vG (opQ0 0).2.2.2.2.1.2.1) 0 : Nat), .int .u64 ((vG (opQ0 0).2.2.2.2.1.2.1) 1 : Nat), .int .u64 ((vG (opQ0 0).2.2.2.2.1.2.1) 2 : Nat), .int .u64 ((vG (opQ0 0).2.2.2.2.1.2.1) 3 : Nat), .int .i64 (opQ0 0).2.2.2.2.1.2.2.1.1, .int .i64 (opQ0 0).2.2.2.2.1.2.2.1.2.1, .int .i64 (opQ0 0).2.2.2.2.1.2.2.1.2.2, .slice qv Rx.length cv, .slice ql (opQ0 0).2.2.2.2.2.length cl]
 go_upto_region 7 with (first | (refine wpList_store_row (cells := #[.string noTok.1.1, .slice qx noTok.1.2.1.length cx, .string noTok.1.2.2]) rfl 24 _ _ rfl w13.heap.size rfl rfl _ _ r1 (by kernel_rfl) rfl (by first | rfl | decide | simp [Value.oneCell']) ?_) | (refine wpList_store_row (cells := #[.int .i64 (opQ0 0).1, .int .u64 ((opQ0 0).2.1.1 : Nat), .int .u64 ((opQ0 0).2.1.2 : Nat), .string (opQ0 0).2.2.1, .int .u64 ((vG (opQ0 0).2.2.2.1) 0 : Nat), .int .u64 ((vG (opQ0 0).2.2.2.1) 1 : Nat), .int .u64 ((vG (opQ0 0).2.2.2.1) 2 : Nat), .int .u64 ((vG (opQ0 0).2.2.2.1) 3 : Nat), .string (opQ0 0).2.2.2.2.1.1, .int .u64 ((vG (opQ0 0).2.2.2.2.1.2.1) 0 : Nat), .int .u64 ((vG (opQ0 0).2.2.2.2.1.2.1) 1 : Nat), .int .u64 ((vG (opQ0 0).2.2.2.2.1.2.1) 2 : Nat), .int .u64 ((vG (opQ0 0).2.2.2.2.1.2.1) 3 : Nat), .int .i64 (opQ0 0).2.2.2.2.1.2.2.1.1, .int .i64 (opQ0 0).2.2.2.2.1.2.2.1.2.1, .int .i64 (opQ0 0).2.2.2.2.1.2.2.1.2.2, .slice qv Rx.length cv, .slice ql (opQ0 0).2.2.2.2.2.length cl]) rfl 33 _ _ rfl (w13.heap.size + 1) rfl rfl _ _ r3 (by kernel_rfl) rfl (by first | rfl | decide | simp [Value.oneCell']) ?_))
 try rw [hW_]
 clear r1 r3 hW_
 replace hE := hE.trans e_
 replace hB1 := hB1.ext e_
 replace hB2 := hB2.ext e_
 replace hCn_ := hCn_.ext e_
 replace hB3 := hB3.ext e_
 replace hCu_ := hCu_.ext e_
 replace hB4 := hB4.ext e_
 replace hB5 := hB5.ext e_
 replace hB6 := hB6.ext e_
 clear e_ hB8 hB9
 go_wp2_with fail
 refine (CD3.out _ hE).mono ?_; rintro e_ w15 ⟨rfl, h15⟩
 replace hE := hE.trans h15
 replace hB1 := hB1.ext h15
 replace hB2 := hB2.ext h15
 replace hCn_ := hCn_.ext h15
 replace hB3 := hB3.ext h15
 replace hCu_ := hCu_.ext h15
 replace hB4 := hB4.ext h15
 replace hB5 := hB5.ext h15
 replace hB6 := hB6.ext h15
 clear h15
 go_upto_region 8 with fail
 go_wp2_with fail
 refine (CD13.out _ hE).mono ?_; rintro e_ w16 ⟨rfl, h16⟩
 replace hE := hE.trans h16
 replace hB1 := hB1.ext h16
 replace hB2 := hB2.ext h16
 replace hCn_ := hCn_.ext h16
 replace hB3 := hB3.ext h16
 replace hCu_ := hCu_.ext h16
 replace hB4 := hB4.ext h16
 replace hB5 := hB5.ext h16
 replace hB6 := hB6.ext h16
 clear h16
 go_upto_region 9 with fail
 simp only [List.append_eq, List.cons_append, List.nil_append]
 go_wp2_with (first | (refine wpList_load_row_g (by kernel_rfl) 24 _ rfl b1 rfl _ _ _ _ hB1 Tryz.underlying24 rfl (by kernel_rfl) ?_) | (refine wpList_load_row_g (by kernel_rfl) 33 _ rfl b2 rfl _ _ _ _ hB2 Tryz.underlying33 rfl (by kernel_rfl) ?_))
 refine (A1.out _ _ _ (hTt.out _) (opAt_lit _ 4 7 (by omega) (by show (7 : Nat) < _; decide)) hE).mono ?_; rintro e_ w17 ⟨rfl, h17⟩
 replace hE := hE.trans h17
 replace hB1 := hB1.ext h17
 replace hB2 := hB2.ext h17
 replace hCn_ := hCn_.ext h17
 replace hB3 := hB3.ext h17
 replace hCu_ := hCu_.ext h17
 replace hB4 := hB4.ext h17
 replace hB5 := hB5.ext h17
 replace hB6 := hB6.ext h17
 clear h17
 go_wp2_with (first | (refine wpList_load_row_g (by kernel_rfl) 24 _ rfl b1 rfl _ _ _ _ hB1 Tryz.underlying24 rfl (by kernel_rfl) ?_) | (refine wpList_load_row_g (by kernel_rfl) 33 _ rfl b2 rfl _ _ _ _ hB2 Tryz.underlying33 rfl (by kernel_rfl) ?_))
 refine (A2.out _ _ _ (hTt.out _) (opAt_lit _ 4 7 (by omega) (by show (7 : Nat) < _; decide)) hE).mono ?_; rintro e_ w18 ⟨rfl, h18⟩
 replace hE := hE.trans h18
 replace hB1 := hB1.ext h18
 replace hB2 := hB2.ext h18
 replace hCn_ := hCn_.ext h18
 replace hB3 := hB3.ext h18
 replace hCu_ := hCu_.ext h18
 replace hB4 := hB4.ext h18
 replace hB5 := hB5.ext h18
 replace hB6 := hB6.ext h18
 clear h18
 go_wp2_with (first | (refine wpList_load_row_g (by kernel_rfl) 24 _ rfl b3 rfl _ _ _ _ hB3 Tryz.underlying24 rfl (by kernel_rfl) ?_) | (refine wpList_load_row_g (by kernel_rfl) 33 _ rfl b2 rfl _ _ _ _ hB2 Tryz.underlying33 rfl (by kernel_rfl) ?_))
 refine (A3.out _ _ _ hCn_ (opAt_lit _ 4 7 (by omega) (by show (7 : Nat) < _; decide)) hE).mono ?_; rintro e_ w19 ⟨rfl, h19⟩
 replace hE := hE.trans h19
 replace hB1 := hB1.ext h19
 replace hB2 := hB2.ext h19
 replace hCn_ := hCn_.ext h19
 replace hB3 := hB3.ext h19
 replace hCu_ := hCu_.ext h19
 replace hB4 := hB4.ext h19
 replace hB5 := hB5.ext h19
 replace hB6 := hB6.ext h19
 clear h19
 go_wp2_with (first | (refine wpList_load_row_g (by kernel_rfl) 24 _ rfl b3 rfl _ _ _ _ hB3 Tryz.underlying24 rfl (by kernel_rfl) ?_) | (refine wpList_load_row_g (by kernel_rfl) 33 _ rfl b2 rfl _ _ _ _ hB2 Tryz.underlying33 rfl (by kernel_rfl) ?_))
 refine (A4.out _ _ _ hCn_ (opAt_lit _ 2 0 (by omega) u64_zero) hE).mono ?_; rintro e_ w20 ⟨rfl, h20⟩
 replace hE := hE.trans h20
 replace hB1 := hB1.ext h20
 replace hB2 := hB2.ext h20
 replace hCn_ := hCn_.ext h20
 replace hB3 := hB3.ext h20
 replace hCu_ := hCu_.ext h20
 replace hB4 := hB4.ext h20
 replace hB5 := hB5.ext h20
 replace hB6 := hB6.ext h20
 clear h20
 go_wp2_with (first | (refine wpList_load_row_g (by kernel_rfl) 24 _ rfl b4 rfl _ _ _ _ hB4 Tryz.underlying24 rfl (by kernel_rfl) ?_) | (refine wpList_load_row_g (by kernel_rfl) 33 _ rfl b2 rfl _ _ _ _ hB2 Tryz.underlying33 rfl (by kernel_rfl) ?_))
 refine (A5.out _ _ _ hCu_ (opAt_lit _ 4 7 (by omega) (by show (7 : Nat) < _; decide)) hE).mono ?_; rintro e_ w21 ⟨rfl, h21⟩
 replace hE := hE.trans h21
 replace hB1 := hB1.ext h21
 replace hB2 := hB2.ext h21
 replace hCn_ := hCn_.ext h21
 replace hB3 := hB3.ext h21
 replace hCu_ := hCu_.ext h21
 replace hB4 := hB4.ext h21
 replace hB5 := hB5.ext h21
 replace hB6 := hB6.ext h21
 clear h21
 go_wp2_with (first | (refine wpList_load_row_g (by kernel_rfl) 24 _ rfl b4 rfl _ _ _ _ hB4 Tryz.underlying24 rfl (by kernel_rfl) ?_) | (refine wpList_load_row_g (by kernel_rfl) 33 _ rfl b2 rfl _ _ _ _ hB2 Tryz.underlying33 rfl (by kernel_rfl) ?_))
 refine (A6.out _ _ _ hCu_ (opAt_lit _ 4 7 (by omega) (by show (7 : Nat) < _; decide)) hE).mono ?_; rintro e_ w22 ⟨rfl, h22⟩
 replace hE := hE.trans h22
 replace hB1 := hB1.ext h22
 replace hB2 := hB2.ext h22
 replace hCn_ := hCn_.ext h22
 replace hB3 := hB3.ext h22
 replace hCu_ := hCu_.ext h22
 replace hB4 := hB4.ext h22
 replace hB5 := hB5.ext h22
 replace hB6 := hB6.ext h22
 clear h22
 go_wp2_with (first | (refine wpList_load_row_g (by kernel_rfl) 24 _ rfl b1 rfl _ _ _ _ hB1 Tryz.underlying24 rfl (by kernel_rfl) ?_) | (refine wpList_load_row_g (by kernel_rfl) 33 _ rfl b2 rfl _ _ _ _ hB2 Tryz.underlying33 rfl (by kernel_rfl) ?_))
 refine (A7.out _ _ _ (hTt.out _) (opAt_lit _ 9 0 (by omega) u64_zero) hE).mono ?_; rintro e_ w23 ⟨rfl, h23⟩
 replace hE := hE.trans h23
 replace hB1 := hB1.ext h23
 replace hB2 := hB2.ext h23
 replace hCn_ := hCn_.ext h23
 replace hB3 := hB3.ext h23
 replace hCu_ := hCu_.ext h23
 replace hB4 := hB4.ext h23
 replace hB5 := hB5.ext h23
 replace hB6 := hB6.ext h23
 clear h23
 have l5 := hB5.lt
 have x52 : w23.cell? ⟨b5, 2, none⟩ = some (.string sv1) := by rw [hv1.out]; exact hB5.cell 2
 have l3 := hB3.lt
 have x32 : w23.cell? ⟨b3, 2, none⟩ = some (.string sv1) := hB3.cell 2
 have l6 := hB6.lt
 have x61 : w23.cell? ⟨b6, 1, none⟩ = some (.int .u64 7) := hB6.cell 1
 go_wp2_with (first | (refine wpList_load_row_g (by kernel_rfl) 33 _ rfl b2 rfl _ _ _ _ hB2 Tryz.underlying33 rfl (by kernel_rfl) ?_))
 refine (CPz.out _ _ _ ⟨_, rfl, Sl.nil _ _, OkT.zero⟩ (opAt_lit _ 4 7 (by omega) (by show (7 : Nat) < _; decide)) hE).mono ?_; rintro e_ w24 ⟨rfl, h24⟩
 replace hE := hE.trans h24
 replace hB1 := hB1.ext h24
 replace hB2 := hB2.ext h24
 replace hCn_ := hCn_.ext h24
 replace hB3 := hB3.ext h24
 replace hCu_ := hCu_.ext h24
 replace hB4 := hB4.ext h24
 replace hB5 := hB5.ext h24
 replace hB6 := hB6.ext h24
 clear h24
 go_wp2
 go_ret
 exact ⟨rfl, hE⟩
end Go.Proofs.YtefjdmjkofaajaaGreatDoor
