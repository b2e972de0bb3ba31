/- Texts one behind the other: Chapter 19: the walk of the laws' examples; Chapter 19: plain laws of tokens that were minted, and of rights; Chapter 19: what is put of a token and an op is opened as these, in plain terms; Chapter 19: the walk of GateBack. -/
import Derived.Test.YtefjdmjkofaajaaGreatDoorB30
namespace Go.Proofs.YtefjdmjkofaajaaGreatDoor
open Go.RowKit Go.Dm
theorem opAt_lit (w : World) (k : Int) (i : Nat) (hk : -9223372036854775808 ≤ k ∧ k ≤ 9223372036854775807) (hi : U64 i) :
  OpAt w (.agg #[.int .i64 k, .int .u64 (i : Nat), .int .u64 0, .string ⟨#[]⟩, .int .u64 0, .int .u64 0, .int .u64 0, .int .u64 0, .string ⟨#[]⟩, .int .u64 0, .int .u64 0, .int .u64 0, .int .u64 0, .int .i64 0, .int .i64 0, .int .i64 0, .slice none 0 0, .slice none 0 0]) (k, (i, 0), ⟨#[]⟩, noV, noSp, []) :=
 ⟨.slice none 0 0, .slice none 0 0, [], rfl, Terms.nil w, (fun r hr => by cases hr), by simp, rfl, Pairs.nil w, ⟨hk, hi, u64_zero, okV_no, by show (0 : Nat) < _; decide, okV_no, by show (0 : Nat) ≤ _; omega, FitP.nil⟩⟩

set_option maxHeartbeats 8000000 in
set_option maxRecDepth 100000 in
theorem exam_w (w : World) (hv : Vars w) (hs : ShaV w) (hg : GateV w) :
  Calls Tryz.prog 9 #[] w fun e w' => e = .returned (.bool true) ∧ Ext w w' := by
 have okt : OkT tE := ⟨by decide +kernel, by decide +kernel, by decide +kernel, fun c hc => by cases hc⟩
 have okn : OkT nE := ⟨by decide +kernel, by decide +kernel, by decide +kernel, fun c hc => by obtain rfl : c = (1, 2) := (by simpa [nE] using hc); show (2 : Nat) < _; decide⟩
 have oku : OkT uE := ⟨by show (1 : Nat) ≤ _; omega, by show (signB _ _).toArray.size ≤ _; rw [List.size_toArray, signB_len]; omega, by show (1 : Nat) ≤ _; omega, fun c hc => by obtain rfl : c = (2, 9) := (by simpa [uE] using hc); show (9 : Nat) < _; decide⟩
 obtain ⟨sv0, hv0⟩ : ∃ s : ByteArray, s = ⟨s0L.toArray⟩ := ⟨_, rfl⟩
 obtain ⟨sv1, hv1⟩ : ∃ s : ByteArray, s = ⟨n1L.toArray⟩ := ⟨_, rfl⟩
 obtain ⟨sv2, hv2⟩ : ∃ s : ByteArray, s = ⟨(signB s0L (putC (2, 9))).toArray⟩ := ⟨_, rfl⟩
 have hz0 : sv0.size = 32 := by rw [hv0]; decide +kernel
 have CW : Hid (∀ U, Ext w U → Calls Tryz.prog 10 #[.string ⟨#[107, 101, 121]⟩, .string ⟨#[97]⟩] U fun e w' => e = .returned (.agg #[.string ⟨#[97]⟩, .slice none 0 0, .string sv0]) ∧ Ext U w') := fun U h => by
  have := new_w ⟨#[107, 101, 121]⟩ ⟨#[97]⟩ U (by decide +kernel) (by decide +kernel) (hs.ext h)
  rw [show (⟨#[107, 101, 121]⟩ : ByteArray).data.toList = keyE from rfl, show (⟨#[97]⟩ : ByteArray).data.toList = [97] from rfl, s0_eq, ← hv0] at this
  exact this
 have CNn : Hid (∀ U, Ext w U → Calls Tryz.prog 11 #[.agg #[.string ⟨#[97]⟩, .slice none 0 0, .string sv0], .agg #[.int .i64 1, .int .u64 2]] U fun e w' => (∃ r, e = .returned (.agg #[.string ⟨#[97]⟩, r, .string sv1]) ∧ Cavs w' r [(1, 2)]) ∧ Ext U w') := fun U h => by
  have := narrow_w ⟨#[97]⟩ sv0 (.slice none 0 0) [] (1, 2) U (Sl.nil U 2) (by first | (show (2 : Nat) < _; decide) | (show (9 : Nat) < _; decide)) (by decide +kernel) (by omega) (hs.ext h)
  rw [show sv0.data.toList = s0L by rw [hv0], n1_eq, ← hv1] at this
  exact this.mono fun e w' ⟨r, h1, h2, h3⟩ => ⟨⟨r, h1, h2⟩, h3⟩
 have CNu : Hid (∀ U, Ext w U → Calls Tryz.prog 11 #[.agg #[.string ⟨#[97]⟩, .slice none 0 0, .string sv0], .agg #[.int .i64 2, .int .u64 9]] U fun e w' => (∃ r, e = .returned (.agg #[.string ⟨#[97]⟩, r, .string sv2]) ∧ Cavs w' r [(2, 9)]) ∧ Ext U w') := fun U h => by
  have := narrow_w ⟨#[97]⟩ sv0 (.slice none 0 0) [] (2, 9) U (Sl.nil U 2) (by first | (show (2 : Nat) < _; decide) | (show (9 : Nat) < _; decide)) (by decide +kernel) (by omega) (hs.ext h)
  rw [show sv0.data.toList = s0L by rw [hv0], ← hv2] at this
  exact this.mono fun e w' ⟨r, h1, h2, h3⟩ => ⟨⟨r, h1, h2⟩, h3⟩
 obtain ⟨PB, hPB⟩ : ∃ s : ByteArray, s = ⟨(putG nE oE).toArray⟩ := ⟨_, rfl⟩
 have hPz : PB.size ≤ 1000 := by rw [hPB]; show (putG nE oE).toArray.size ≤ _; rw [List.size_toArray]; exact put_len
 have CP : Hid (∀ T V U, TokAt U T nE → OpAt U V oE → Ext w U → Calls Tryz.prog 15 #[T, V] U fun e w' => e = .returned (.string PB) ∧ Ext U w') := fun T V U h1 h2 h => by
  have := gput_w T V nE oE U h1 h2 (hv.ext h)
  rw [← hPB] at this
  exact this
 have CPz : Hid (∀ T V U, TokAt U T noTok.1 → OpAt U V oE → Ext w U → Calls Tryz.prog 15 #[T, V] U fun e w' => e = .returned (.string ⟨#[]⟩) ∧ Ext U w') := fun T V U h1 h2 h => by
  have := gput_w T V noTok.1 oE U h1 h2 (hv.ext h)
  rw [put_none] at this
  exact this
 have COy : Hid (∀ U, Ext w U → Calls Tryz.prog 20 #[.string PB] U fun e w' => (∃ T V, e = .returned (.tuple #[T, V, .bool true]) ∧ TokAt w' T nE ∧ OpAt w' V oE) ∧ Ext U w') := fun U h => by
  have := gopen_w PB U (by omega) (hv.ext h)
  rw [show openG PB.data.toList = (nE, oE, true) by rw [hPB]; exact open_n] at this
  exact this
 have COn : Hid (∀ U, Ext w U → Calls Tryz.prog 20 #[.string (PB ++ ⟨#[0]⟩)] U fun e w' => (∃ T V, e = .returned (.tuple #[T, V, .bool false]) ∧ TokAt w' T noTok.1 ∧ OpAt w' V (opQ0 0)) ∧ Ext U w') := fun U h => by
  have := gopen_w (PB ++ ⟨#[0]⟩) U (by rw [ByteArray.size_append]; show PB.size + 1 ≤ _; omega) (hv.ext h)
  rw [show openG (PB ++ ⟨#[0]⟩).data.toList = noG by rw [data_append, hPB]; exact open_no] at this
  exact this
 have CD3 : Hid (∀ U, Ext w U → Calls Tryz.prog 13 #[.agg #[.int .i64 3, .int .u64 0, .int .u64 0, .string ⟨#[]⟩, .int .u64 0, .int .u64 0, .int .u64 0, .int .u64 0, .string ⟨#[]⟩, .int .u64 0, .int .u64 0, .int .u64 0, .int .u64 0, .int .i64 0, .int .i64 0, .int .i64 0, .slice none 0 0, .slice none 0 0]] U fun e w' => e = .returned (.tuple #[.int .u64 4, .bool true]) ∧ Ext U w') := fun U h => needsA (opAt_lit U 3 0 (by omega) u64_zero) (hg.ext h)
 have CD13 : Hid (∀ U, Ext w U → Calls Tryz.prog 13 #[.agg #[.int .i64 13, .int .u64 0, .int .u64 0, .string ⟨#[]⟩, .int .u64 0, .int .u64 0, .int .u64 0, .int .u64 0, .string ⟨#[]⟩, .int .u64 0, .int .u64 0, .int .u64 0, .int .u64 0, .int .i64 0, .int .i64 0, .int .i64 0, .slice none 0 0, .slice none 0 0]] U fun e w' => e = .returned (.tuple #[.int .u64 0, .bool false]) ∧ Ext U w') := fun U h => needsA (opAt_lit U 13 0 (by omega) u64_zero) (hg.ext h)
 have A1 : Hid (∀ T V U, TokAt U T tE → OpAt U V oE → Ext w U → Calls Tryz.prog 18 #[.string ⟨#[107, 101, 121]⟩, T, V, .int .u64 9] U fun e w' => e = .returned (.int .i64 0) ∧ Ext U w') := fun T V U h1 h2 h => by
  have := gallow_w ⟨#[107, 101, 121]⟩ T V tE oE 9 U (by decide +kernel) h1 h2 (hs.ext h) (hg.ext h)
  rw [show (⟨#[107, 101, 121]⟩ : ByteArray).data.toList = keyE from rfl, al_t] at this
  exact this
 have A2 : Hid (∀ T V U, TokAt U T tE → OpAt U V oE → Ext w U → Calls Tryz.prog 18 #[.string ⟨#[107, 101, 122]⟩, T, V, .int .u64 9] U fun e w' => e = .returned (.int .i64 13) ∧ Ext U w') := fun T V U h1 h2 h => by
  have := gallow_w ⟨#[107, 101, 122]⟩ T V tE oE 9 U (by decide +kernel) h1 h2 (hs.ext h) (hg.ext h)
  rw [show (⟨#[107, 101, 122]⟩ : ByteArray).data.toList = kezE from rfl, al_z] at this
  exact this
 have A3 : Hid (∀ T V U, TokAt U T nE → OpAt U V oE → Ext w U → Calls Tryz.prog 18 #[.string ⟨#[107, 101, 121]⟩, T, V, .int .u64 9] U fun e w' => e = .returned (.int .i64 0) ∧ Ext U w') := fun T V U h1 h2 h => by
  have := gallow_w ⟨#[107, 101, 121]⟩ T V nE oE 9 U (by decide +kernel) h1 h2 (hs.ext h) (hg.ext h)
  rw [show (⟨#[107, 101, 121]⟩ : ByteArray).data.toList = keyE from rfl, al_n] at this
  exact this
 have A4 : Hid (∀ T V U, TokAt U T nE → OpAt U V (opQ0 2) → Ext w U → Calls Tryz.prog 18 #[.string ⟨#[107, 101, 121]⟩, T, V, .int .u64 9] U fun e w' => e = .returned (.int .i64 14) ∧ Ext U w') := fun T V U h1 h2 h => by
  have := gallow_w ⟨#[107, 101, 121]⟩ T V nE (opQ0 2) 9 U (by decide +kernel) h1 h2 (hs.ext h) (hg.ext h)
  rw [show (⟨#[107, 101, 121]⟩ : ByteArray).data.toList = keyE from rfl, al_n2] at this
  exact this
 have A5 : Hid (∀ T V U, TokAt U T uE → OpAt U V oE → Ext w U → Calls Tryz.prog 18 #[.string ⟨#[107, 101, 121]⟩, T, V, .int .u64 9] U fun e w' => e = .returned (.int .i64 0) ∧ Ext U w') := fun T V U h1 h2 h => by
  have := gallow_w ⟨#[107, 101, 121]⟩ T V uE oE 9 U (by decide +kernel) h1 h2 (hs.ext h) (hg.ext h)
  rw [show (⟨#[107, 101, 121]⟩ : ByteArray).data.toList = keyE from rfl, al_u] at this
  exact this
 have A6 : Hid (∀ T V U, TokAt U T uE → OpAt U V oE → Ext w U → Calls Tryz.prog 18 #[.string ⟨#[107, 101, 121]⟩, T, V, .int .u64 10] U fun e w' => e = .returned (.int .i64 14) ∧ Ext U w') := fun T V U h1 h2 h => by
  have := gallow_w ⟨#[107, 101, 121]⟩ T V uE oE 10 U (by decide +kernel) h1 h2 (hs.ext h) (hg.ext h)
  rw [show (⟨#[107, 101, 121]⟩ : ByteArray).data.toList = keyE from rfl, al_u10] at this
  exact this
 have A7 : Hid (∀ T V U, TokAt U T tE → OpAt U V (opQ0 9) → Ext w U → Calls Tryz.prog 18 #[.string ⟨#[107, 101, 121]⟩, T, V, .int .u64 0] U fun e w' => e = .returned (.int .i64 14) ∧ Ext U w') := fun T V U h1 h2 h => by
  have := gallow_w ⟨#[107, 101, 121]⟩ T V tE (opQ0 9) 0 U (by decide +kernel) h1 h2 (hs.ext h) (hg.ext h)
  rw [show (⟨#[107, 101, 121]⟩ : ByteArray).data.toList = keyE from rfl, al_r] at this
  exact this
 replace hv0 := Lib.hid hv0
 replace hv1 := Lib.hid hv1
 replace hv2 := Lib.hid hv2
 clear hPB hz0
 have hE := Ext.refl w
 go_enter Tryz.func9, Tryz.ntmps9
 go_wp2_with fail
 refine (CW.out _ hE).mono ?_; rintro e_ w2 ⟨rfl, h2⟩
 replace hE := hE.trans h2
 clear h2
 have hB1 := RB.new w2 24 [.string ⟨#[97]⟩, .slice none 0 0, .string sv0]
 have e_ : Ext w2 (w2.alloc (.cells #[.string ⟨#[97]⟩, .slice none 0 0, .string sv0] 24)) := (Ext.refl w2).alloc _
 go_upto_region 2 with fail
 change RB w2.heap.size 24 [.string ⟨#[97]⟩, .slice none 0 0, .string sv0] (w2.alloc (.cells #[.string ⟨#[97]⟩, .slice none 0 0, .string sv0] 24)) at hB1
 replace hE := hE.trans e_
 clear e_
 generalize w2.alloc (.cells #[.string ⟨#[97]⟩, .slice none 0 0, .string sv0] 24) = w3 at *
 generalize w2.heap.size = b1 at *
 have hB2 := (RB.new w3 33 [.int .i64 0, .int .u64 0, .int .u64 0, .string ⟨#[]⟩, .int .u64 0, .int .u64 0, .int .u64 0, .int .u64 0, .string ⟨#[]⟩, .int .u64 0, .int .u64 0, .int .u64 0, .int .u64 0, .int .i64 0, .int .i64 0, .int .i64 0, .slice none 0 0, .slice none 0 0]).setRow [.int .i64 4, .int .u64 7, .int .u64 0, .string ⟨#[]⟩, .int .u64 0, .int .u64 0, .int .u64 0, .int .u64 0, .string ⟨#[]⟩, .int .u64 0, .int .u64 0, .int .u64 0, .int .u64 0, .int .i64 0, .int .i64 0, .int .i64 0, .slice none 0 0, .slice none 0 0]
 have e_ : Ext w3 ((w3.alloc (.cells #[.int .i64 0, .int .u64 0, .int .u64 0, .string ⟨#[]⟩, .int .u64 0, .int .u64 0, .int .u64 0, .int .u64 0, .string ⟨#[]⟩, .int .u64 0, .int .u64 0, .int .u64 0, .int .u64 0, .int .i64 0, .int .i64 0, .int .i64 0, .slice none 0 0, .slice none 0 0] 33)).setRow w3.heap.size #[.int .i64 4, .int .u64 7, .int .u64 0, .string ⟨#[]⟩, .int .u64 0, .int .u64 0, .int .u64 0, .int .u64 0, .string ⟨#[]⟩, .int .u64 0, .int .u64 0, .int .u64 0, .int .u64 0, .int .i64 0, .int .i64 0, .int .i64 0, .slice none 0 0, .slice none 0 0]) := Ext.setRow ((Ext.refl w3).alloc _) (Nat.le_refl _) _
 go_upto_region 3 with (refine wpList_store_row (cells := #[.int .i64 4, .int .u64 7, .int .u64 0, .string ⟨#[]⟩, .int .u64 0, .int .u64 0, .int .u64 0, .int .u64 0, .string ⟨#[]⟩, .int .u64 0, .int .u64 0, .int .u64 0, .int .u64 0, .int .i64 0, .int .i64 0, .int .i64 0, .slice none 0 0, .slice none 0 0]) rfl 33 _ _ rfl w3.heap.size rfl rfl _ _ (RB.new w3 33 [.int .i64 0, .int .u64 0, .int .u64 0, .string ⟨#[]⟩, .int .u64 0, .int .u64 0, .int .u64 0, .int .u64 0, .string ⟨#[]⟩, .int .u64 0, .int .u64 0, .int .u64 0, .int .u64 0, .int .i64 0, .int .i64 0, .int .i64 0, .slice none 0 0, .slice none 0 0]) (by kernel_rfl) rfl (by first | rfl | decide | simp [Value.oneCell']) ?_)
 change RB w3.heap.size 33 [.int .i64 4, .int .u64 7, .int .u64 0, .string ⟨#[]⟩, .int .u64 0, .int .u64 0, .int .u64 0, .int .u64 0, .string ⟨#[]⟩, .int .u64 0, .int .u64 0, .int .u64 0, .int .u64 0, .int .i64 0, .int .i64 0, .int .i64 0, .slice none 0 0, .slice none 0 0] ((w3.alloc (.cells #[.int .i64 0, .int .u64 0, .int .u64 0, .string ⟨#[]⟩, .int .u64 0, .int .u64 0, .int .u64 0, .int .u64 0, .string ⟨#[]⟩, .int .u64 0, .int .u64 0, .int .u64 0, .int .u64 0, .int .i64 0, .int .i64 0, .int .i64 0, .slice none 0 0, .slice none 0 0] 33)).setRow w3.heap.size #[.int .i64 4, .int .u64 7, .int .u64 0, .string ⟨#[]⟩, .int .u64 0, .int .u64 0, .int .u64 0, .int .u64 0, .string ⟨#[]⟩, .int .u64 0, .int .u64 0, .int .u64 0, .int .u64 0, .int .i64 0, .int .i64 0, .int .i64 0, .slice none 0 0, .slice none 0 0]) at hB2
 replace hE := hE.trans e_
 replace hB1 := hB1.ext e_
 clear e_
 generalize (w3.alloc (.cells #[.int .i64 0, .int .u64 0, .int .u64 0, .string ⟨#[]⟩, .int .u64 0, .int .u64 0, .int .u64 0, .int .u64 0, .string ⟨#[]⟩, .int .u64 0, .int .u64 0, .int .u64 0, .int .u64 0, .int .i64 0, .int .i64 0, .int .i64 0, .slice none 0 0, .slice none 0 0] 33)).setRow w3.heap.size #[.int .i64 4, .int .u64 7, .int .u64 0, .string ⟨#[]⟩, .int .u64 0, .int .u64 0, .int .u64 0, .int .u64 0, .string ⟨#[]⟩, .int .u64 0, .int .u64 0, .int .u64 0, .int .u64 0, .int .i64 0, .int .i64 0, .int .i64 0, .slice none 0 0, .slice none 0 0] = w4 at *
 generalize w3.heap.size = b2 at *
 go_wp2_with (first | (refine wpList_load_row_g (by kernel_rfl) 24 _ rfl b1 rfl _ _ _ _ hB1 Tryz.underlying24 rfl (by kernel_rfl) ?_))
 refine (CNn.out _ hE).mono ?_; rintro e_ w5 ⟨⟨r_, rfl, hCn⟩, h5⟩
 replace hE := hE.trans h5
 replace hB1 := hB1.ext h5
 replace hB2 := hB2.ext h5
 clear h5
 obtain ⟨qn, cn, rfl, _, _⟩ := hCn.shape
 have hCn_ : TokAt w5 (.agg #[.string ⟨#[97]⟩, .slice qn 1 cn, .string sv1]) nE := ⟨_, by rw [hv1.out]; rfl, hCn, okn⟩
 clear hCn
 have hB3 := RB.new w5 24 [.string ⟨#[97]⟩, .slice qn 1 cn, .string sv1]
 have e_ : Ext w5 (w5.alloc (.cells #[.string ⟨#[97]⟩, .slice qn 1 cn, .string sv1] 24)) := (Ext.refl w5).alloc _
 go_upto_region 4 with fail
 change RB w5.heap.size 24 [.string ⟨#[97]⟩, .slice qn 1 cn, .string sv1] (w5.alloc (.cells #[.string ⟨#[97]⟩, .slice qn 1 cn, .string sv1] 24)) at hB3
 replace hE := hE.trans e_
 replace hB1 := hB1.ext e_
 replace hB2 := hB2.ext e_
 replace hCn_ := hCn_.ext e_
 clear e_
 generalize w5.alloc (.cells #[.string ⟨#[97]⟩, .slice qn 1 cn, .string sv1] 24) = w6 at *
 generalize w5.heap.size = b3 at *
 go_wp2_with (first | (refine wpList_load_row_g (by kernel_rfl) 24 _ rfl b1 rfl _ _ _ _ hB1 Tryz.underlying24 rfl (by kernel_rfl) ?_))
 refine (CNu.out _ hE).mono ?_; rintro e_ w7 ⟨⟨r_, rfl, hCu⟩, h7⟩
 replace hE := hE.trans h7
 replace hB1 := hB1.ext h7
 replace hB2 := hB2.ext h7
 replace hCn_ := hCn_.ext h7
 replace hB3 := hB3.ext h7
 clear h7
 obtain ⟨qu, cu, rfl, _, _⟩ := hCu.shape
 have hCu_ : TokAt w7 (.agg #[.string ⟨#[97]⟩, .slice qu 1 cu, .string sv2]) uE := ⟨_, by rw [hv2.out]; rfl, hCu, oku⟩
 clear hCu
 have hB4 := RB.new w7 24 [.string ⟨#[97]⟩, .slice qu 1 cu, .string sv2]
 have e_ : Ext w7 (w7.alloc (.cells #[.string ⟨#[97]⟩, .slice qu 1 cu, .string sv2] 24)) := (Ext.refl w7).alloc _
 go_upto_region 5 with fail
 change RB w7.heap.size 24 [.string ⟨#[97]⟩, .slice qu 1 cu, .string sv2] (w7.alloc (.cells #[.string ⟨#[97]⟩, .slice qu 1 cu, .string sv2] 24)) at hB4
 replace hE := hE.trans e_
 replace hB1 := hB1.ext e_
 replace hB2 := hB2.ext e_
 replace hCn_ := hCn_.ext e_
 replace hB3 := hB3.ext e_
 replace hCu_ := hCu_.ext e_
 clear e_
 generalize w7.alloc (.cells #[.string ⟨#[97]⟩, .slice qu 1 cu, .string sv2] 24) = w8 at *
 generalize w7.heap.size = b4 at *
 have hTt : ∀ U, TokAt U (.agg #[.string ⟨#[97]⟩, .slice none 0 0, .string sv0]) tE := fun U => ⟨_, by rw [hv0.out]; rfl, Sl.nil U 2, okt⟩
 replace hTt := Lib.hid hTt
 go_wp2_with (first | (refine wpList_load_row_g (by kernel_rfl) 24 _ rfl b3 rfl _ _ _ _ hB3 Tryz.underlying24 rfl (by kernel_rfl) ?_) | (refine wpList_load_row_g (by kernel_rfl) 33 _ rfl b2 rfl _ _ _ _ hB2 Tryz.underlying33 rfl (by kernel_rfl) ?_))
 refine (CP.out _ _ _ hCn_ (opAt_lit _ 4 7 (by omega) (by show (7 : Nat) < _; decide)) hE).mono ?_; rintro e_ w9 ⟨rfl, h9⟩
 replace hE := hE.trans h9
 replace hB1 := hB1.ext h9
 replace hB2 := hB2.ext h9
 replace hCn_ := hCn_.ext h9
 replace hB3 := hB3.ext h9
 replace hCu_ := hCu_.ext h9
 replace hB4 := hB4.ext h9
 clear h9
 go_wp2_with fail
 refine (COy.out _ hE).mono ?_; rintro e_ w10 ⟨⟨T_, V_, rfl, hT_, hV_⟩, h10⟩
 replace hE := hE.trans h10
 replace hB1 := hB1.ext h10
 replace hB2 := hB2.ext h10
 replace hCn_ := hCn_.ext h10
 replace hB3 := hB3.ext h10
 replace hCu_ := hCu_.ext h10
 replace hB4 := hB4.ext h10
 clear h10
 obtain ⟨vx, rfl, hCx, _⟩ := hT_
 obtain ⟨qx, cx, rfl, _, _⟩ := hCx.shape
 obtain ⟨vv, vl, Rx, rfl, hTx, _, _, _, hPx, _⟩ := hV_
 obtain ⟨qv, cv, rfl, _, _⟩ := hTx.shape
 obtain ⟨ql, cl, rfl, _, _⟩ := hPx.shape
 clear hCx hTx hPx
 unfold opV
 obtain ⟨w11, hW_, r1, r3, hB5, hB6, e_⟩ := two_rows w10 24 33 [.string ⟨#[]⟩, .slice none 0 0, .string ⟨#[]⟩] [.int .i64 0, .int .u64 0, .int .u64 0, .string ⟨#[]⟩, .int .u64 0, .int .u64 0, .int .u64 0, .int .u64 0, .string ⟨#[]⟩, .int .u64 0, .int .u64 0, .int .u64 0, .int .u64 0, .int .i64 0, .int .i64 0, .int .i64 0, .slice none 0 0, .slice none 0 0] [.string nE.1, .slice qx nE.2.1.length cx, .string nE.2.2] [.int .i64 oE.1, .int .u64 (oE.2.1.1 : Nat), .int .u64 (oE.2.1.2 : Nat), .string oE.2.2.1, .int .u64 ((vG oE.2.2.2.1) 0 : Nat), .int .u64 ((vG oE.2.2.2.1) 1 : Nat), .int .u64 ((vG oE.2.2.2.1) 2 : Nat), .int .u64 ((vG oE.2.2.2.1) 3 : Nat), .string oE.2.2.2.2.1.1, .int .u64 ((vG oE.2.2.2.2.1.2.1) 0 : Nat), .int .u64 ((vG oE.2.2.2.2.1.2.1) 1 : Nat), .int .u64 ((vG oE.2.2.2.2.1.2.1) 2 : Nat), .int .u64 ((vG oE.2.2.2.2.1.2.1) 3 : Nat), .int .i64 oE.2.2.2.2.1.2.2.1.1, .int .i64 oE.2.2.2.2.1.2.2.1.2.1, .int .i64 oE.2.2.2.2.1.2.2.1.2.2, .slice qv Rx.length cv, .slice ql oE.2.2.2.2.2.length cl]
 go_upto_region 6 with (first | (refine wpList_store_row (cells := #[.string nE.1, .slice qx nE.2.1.length cx, .string nE.2.2]) rfl 24 _ _ rfl w10.heap.size rfl rfl _ _ r1 (by kernel_rfl) rfl (by first | rfl | decide | simp [Value.oneCell']) ?_) | (refine wpList_store_row (cells := #[.int .i64 oE.1, .int .u64 (oE.2.1.1 : Nat), .int .u64 (oE.2.1.2 : Nat), .string oE.2.2.1, .int .u64 ((vG oE.2.2.2.1) 0 : Nat), .int .u64 ((vG oE.2.2.2.1) 1 : Nat), .int .u64 ((vG oE.2.2.2.1) 2 : Nat), .int .u64 ((vG oE.2.2.2.1) 3 : Nat), .string oE.2.2.2.2.1.1, .int .u64 ((vG oE.2.2.2.2.1.2.1) 0 : Nat), .int .u64 ((vG oE.2.2.2.2.1.2.1) 1 : Nat), .int .u64 ((vG oE.2.2.2.2.1.2.1) 2 : Nat), .int .u64 ((vG oE.2.2.2.2.1.2.1) 3 : Nat), .int .i64 oE.2.2.2.2.1.2.2.1.1, .int .i64 oE.2.2.2.2.1.2.2.1.2.1, .int .i64 oE.2.2.2.2.1.2.2.1.2.2, .slice qv Rx.length cv, .slice ql oE.2.2.2.2.2.length cl]) rfl 33 _ _ rfl (w10.heap.size + 1) rfl rfl _ _ r3 (by kernel_rfl) rfl (by first | rfl | decide | simp [Value.oneCell']) ?_))
 try rw [hW_]
 clear r1 r3 hW_
 replace hE := hE.trans e_
 replace hB1 := hB1.ext e_
 replace hB2 := hB2.ext e_
 replace hCn_ := hCn_.ext e_
 replace hB3 := hB3.ext e_
 replace hCu_ := hCu_.ext e_
 replace hB4 := hB4.ext e_
 clear e_
 generalize w10.heap.size + 1 = b6 at *
 generalize w10.heap.size = b5 at *
 go_wp2_with (first | (refine wpList_load_row_g (by kernel_rfl) 24 _ rfl b3 rfl _ _ _ _ hB3 Tryz.underlying24 rfl (by kernel_rfl) ?_) | (refine wpList_load_row_g (by kernel_rfl) 33 _ rfl b2 rfl _ _ _ _ hB2 Tryz.underlying33 rfl (by kernel_rfl) ?_))
 refine (CP.out _ _ _ hCn_ (opAt_lit _ 4 7 (by omega) (by show (7 : Nat) < _; decide)) hE).mono ?_; rintro e_ w12 ⟨rfl, h12⟩
 replace hE := hE.trans h12
 replace hB1 := hB1.ext h12
 replace hB2 := hB2.ext h12
 replace hCn_ := hCn_.ext h12
 replace hB3 := hB3.ext h12
 replace hCu_ := hCu_.ext h12
 replace hB4 := hB4.ext h12
 replace hB5 := hB5.ext h12
 replace hB6 := hB6.ext h12
 clear h12
 go_wp2_with fail
 refine (COn.out _ hE).mono ?_; rintro e_ w13 ⟨⟨T_, V_, rfl, hT_, hV_⟩, h13⟩
 replace hE := hE.trans h13
 replace hB1 := hB1.ext h13
 replace hB2 := hB2.ext h13
 replace hCn_ := hCn_.ext h13
 replace hB3 := hB3.ext h13
 replace hCu_ := hCu_.ext h13
 replace hB4 := hB4.ext h13
 replace hB5 := hB5.ext h13
 replace hB6 := hB6.ext h13
 clear h13
 obtain ⟨vx, rfl, hCx, _⟩ := hT_
 obtain ⟨qx, cx, rfl, _, _⟩ := hCx.shape
 obtain ⟨vv, vl, Rx, rfl, hTx, _, _, _, hPx, _⟩ := hV_
 obtain ⟨qv, cv, rfl, _, _⟩ := hTx.shape
 obtain ⟨ql, cl, rfl, _, _⟩ := hPx.shape
 clear hCx hTx hPx
 unfold opV
 obtain ⟨w14, hW_, r1, r3, hB8, hB9, e_⟩ := two_rows w13 24 33 [.string ⟨#[]⟩, .slice none 0 0, .string ⟨#[]⟩] [.int .i64 0, .int .u64 0, .int .u64 0, .string ⟨#[]⟩, .int .u64 0, .int .u64 0, .int .u64 0, .int .u64 0, .string ⟨#[]⟩, .int .u64 0, .int .u64 0, .int .u64 0, .int .u64 0, .int .i64 0, .int .i64 0, .int .i64 0, .slice none 0 0, .slice none 0 0] [.string noTok.1.1, .slice qx noTok.1.2.1.length cx, .string noTok.1.2.2] [.int .i64 (opQ0 0).1, .int .u64 ((opQ0 0).2.1.1 : Nat), .int .u64 ((opQ0 0).2.1.2 : Nat), .string (opQ0 0).2.2.1, .int .u64 ((vG (opQ0 0).2.2.2.1) 0 : Nat), .int .u64 ((vG (opQ0 0).2.2.2.1) 1 : Nat), .int .u64 ((vG (opQ0 0).2.2.2.1) 2 : Nat), .int .u64 ((vG (opQ0 0).2.2.2.1) 3 : Nat), .string (opQ0 0).2.2.2.2.1.1, .int .u64 ((vG (opQ0 0).2.2.2.2.1.2.1) 0 : Nat), .int .u64 ((vG (opQ0 0).2.2.2.2.1.2.1) 1 : Nat), .int .u64 ((vG (opQ0 0).2.2.2.2.1.2.1) 2 : Nat), .int .u64 ((vG (opQ0 0).2.2.2.2.1.2.1) 3 : Nat), .int .i64 (opQ0 0).2.2.2.2.1.2.2.1.1, .int .i64 (opQ0 0).2.2.2.2.1.2.2.1.2.1, .int .i64 (opQ0 0).2.2.2.2.1.2.2.1.2.2, .slice qv Rx.length cv, .slice ql (opQ0 0).2.2.2.2.2.length cl]
 go_upto_region 7 with (first | (refine wpList_store_row (cells := #[.string noTok.1.1, .slice qx noTok.1.2.1.length cx, .string noTok.1.2.2]) rfl 24 _ _ rfl w13.heap.size rfl rfl _ _ r1 (by kernel_rfl) rfl (by first | rfl | decide | simp [Value.oneCell']) ?_) | (refine wpList_store_row (cells := #[.int .i64 (opQ0 0).1, .int .u64 ((opQ0 0).2.1.1 : Nat), .int .u64 ((opQ0 0).2.1.2 : Nat), .string (opQ0 0).2.2.1, .int .u64 ((vG (opQ0 0).2.2.2.1) 0 : Nat), .int .u64 ((vG (opQ0 0).2.2.2.1) 1 : Nat), .int .u64 ((vG (opQ0 0).2.2.2.1) 2 : Nat), .int .u64 ((vG (opQ0 0).2.2.2.1) 3 : Nat), .string (opQ0 0).2.2.2.2.1.1, .int .u64 ((vG (opQ0 0).2.2.2.2.1.2.1) 0 : Nat), .int .u64 ((vG (opQ0 0).2.2.2.2.1.2.1) 1 : Nat), .int .u64 ((vG (opQ0 0).2.2.2.2.1.2.1) 2 : Nat), .int .u64 ((vG (opQ0 0).2.2.2.2.1.2.1) 3 : Nat), .int .i64 (opQ0 0).2.2.2.2.1.2.2.1.1, .int .i64 (opQ0 0).2.2.2.2.1.2.2.1.2.1, .int .i64 (opQ0 0).2.2.2.2.1.2.2.1.2.2, .slice qv Rx.length cv, .slice ql (opQ0 0).2.2.2.2.2.length cl]) rfl 33 _ _ rfl (w13.heap.size + 1) rfl rfl _ _ r3 (by kernel_rfl) rfl (by first | rfl | decide | simp [Value.oneCell']) ?_))
 try rw [hW_]
 clear r1 r3 hW_
 replace hE := hE.trans e_
 replace hB1 := hB1.ext e_
 replace hB2 := hB2.ext e_
 replace hCn_ := hCn_.ext e_
 replace hB3 := hB3.ext e_
 replace hCu_ := hCu_.ext e_
 replace hB4 := hB4.ext e_
 replace hB5 := hB5.ext e_
 replace hB6 := hB6.ext e_
 clear e_ hB8 hB9
 go_wp2_with fail
 refine (CD3.out _ hE).mono ?_; rintro e_ w15 ⟨rfl, h15⟩
 replace hE := hE.trans h15
 replace hB1 := hB1.ext h15
 replace hB2 := hB2.ext h15
 replace hCn_ := hCn_.ext h15
 replace hB3 := hB3.ext h15
 replace hCu_ := hCu_.ext h15
 replace hB4 := hB4.ext h15
 replace hB5 := hB5.ext h15
 replace hB6 := hB6.ext h15
 clear h15
 go_upto_region 8 with fail
 go_wp2_with fail
 refine (CD13.out _ hE).mono ?_; rintro e_ w16 ⟨rfl, h16⟩
 replace hE := hE.trans h16
 replace hB1 := hB1.ext h16
 replace hB2 := hB2.ext h16
 replace hCn_ := hCn_.ext h16
 replace hB3 := hB3.ext h16
 replace hCu_ := hCu_.ext h16
 replace hB4 := hB4.ext h16
 replace hB5 := hB5.ext h16
 replace hB6 := hB6.ext h16
 clear h16
 go_upto_region 9 with fail
 simp only [List.append_eq, List.cons_append, List.nil_append]
 go_wp2_with (first | (refine wpList_load_row_g (by kernel_rfl) 24 _ rfl b1 rfl _ _ _ _ hB1 Tryz.underlying24 rfl (by kernel_rfl) ?_) | (refine wpList_load_row_g (by kernel_rfl) 33 _ rfl b2 rfl _ _ _ _ hB2 Tryz.underlying33 rfl (by kernel_rfl) ?_))
 refine (A1.out _ _ _ (hTt.out _) (opAt_lit _ 4 7 (by omega) (by show (7 : Nat) < _; decide)) hE).mono ?_; rintro e_ w17 ⟨rfl, h17⟩
 replace hE := hE.trans h17
 replace hB1 := hB1.ext h17
 replace hB2 := hB2.ext h17
 replace hCn_ := hCn_.ext h17
 replace hB3 := hB3.ext h17
 replace hCu_ := hCu_.ext h17
 replace hB4 := hB4.ext h17
 replace hB5 := hB5.ext h17
 replace hB6 := hB6.ext h17
 clear h17
 go_wp2_with (first | (refine wpList_load_row_g (by kernel_rfl) 24 _ rfl b1 rfl _ _ _ _ hB1 Tryz.underlying24 rfl (by kernel_rfl) ?_) | (refine wpList_load_row_g (by kernel_rfl) 33 _ rfl b2 rfl _ _ _ _ hB2 Tryz.underlying33 rfl (by kernel_rfl) ?_))
 refine (A2.out _ _ _ (hTt.out _) (opAt_lit _ 4 7 (by omega) (by show (7 : Nat) < _; decide)) hE).mono ?_; rintro e_ w18 ⟨rfl, h18⟩
 replace hE := hE.trans h18
 replace hB1 := hB1.ext h18
 replace hB2 := hB2.ext h18
 replace hCn_ := hCn_.ext h18
 replace hB3 := hB3.ext h18
 replace hCu_ := hCu_.ext h18
 replace hB4 := hB4.ext h18
 replace hB5 := hB5.ext h18
 replace hB6 := hB6.ext h18
 clear h18
 go_wp2_with (first | (refine wpList_load_row_g (by kernel_rfl) 24 _ rfl b3 rfl _ _ _ _ hB3 Tryz.underlying24 rfl (by kernel_rfl) ?_) | (refine wpList_load_row_g (by kernel_rfl) 33 _ rfl b2 rfl _ _ _ _ hB2 Tryz.underlying33 rfl (by kernel_rfl) ?_))
 refine (A3.out _ _ _ hCn_ (opAt_lit _ 4 7 (by omega) (by show (7 : Nat) < _; decide)) hE).mono ?_; rintro e_ w19 ⟨rfl, h19⟩
 replace hE := hE.trans h19
 replace hB1 := hB1.ext h19
 replace hB2 := hB2.ext h19
 replace hCn_ := hCn_.ext h19
 replace hB3 := hB3.ext h19
 replace hCu_ := hCu_.ext h19
 replace hB4 := hB4.ext h19
 replace hB5 := hB5.ext h19
 replace hB6 := hB6.ext h19
 clear h19
 go_wp2_with (first | (refine wpList_load_row_g (by kernel_rfl) 24 _ rfl b3 rfl _ _ _ _ hB3 Tryz.underlying24 rfl (by kernel_rfl) ?_) | (refine wpList_load_row_g (by kernel_rfl) 33 _ rfl b2 rfl _ _ _ _ hB2 Tryz.underlying33 rfl (by kernel_rfl) ?_))
 refine (A4.out _ _ _ hCn_ (opAt_lit _ 2 0 (by omega) u64_zero) hE).mono ?_; rintro e_ w20 ⟨rfl, h20⟩
 replace hE := hE.trans h20
 replace hB1 := hB1.ext h20
 replace hB2 := hB2.ext h20
 replace hCn_ := hCn_.ext h20
 replace hB3 := hB3.ext h20
 replace hCu_ := hCu_.ext h20
 replace hB4 := hB4.ext h20
 replace hB5 := hB5.ext h20
 replace hB6 := hB6.ext h20
 clear h20
 go_wp2_with (first | (refine wpList_load_row_g (by kernel_rfl) 24 _ rfl b4 rfl _ _ _ _ hB4 Tryz.underlying24 rfl (by kernel_rfl) ?_) | (refine wpList_load_row_g (by kernel_rfl) 33 _ rfl b2 rfl _ _ _ _ hB2 Tryz.underlying33 rfl (by kernel_rfl) ?_))
 refine (A5.out _ _ _ hCu_ (opAt_lit _ 4 7 (by omega) (by show (7 : Nat) < _; decide)) hE).mono ?_; rintro e_ w21 ⟨rfl, h21⟩
 replace hE := hE.trans h21
 replace hB1 := hB1.ext h21
 replace hB2 := hB2.ext h21
 replace hCn_ := hCn_.ext h21
 replace hB3 := hB3.ext h21
 replace hCu_ := hCu_.ext h21
 replace hB4 := hB4.ext h21
 replace hB5 := hB5.ext h21
 replace hB6 := hB6.ext h21
 clear h21
 go_wp2_with (first | (refine wpList_load_row_g (by kernel_rfl) 24 _ rfl b4 rfl _ _ _ _ hB4 Tryz.underlying24 rfl (by kernel_rfl) ?_) | (refine wpList_load_row_g (by kernel_rfl) 33 _ rfl b2 rfl _ _ _ _ hB2 Tryz.underlying33 rfl (by kernel_rfl) ?_))
 refine (A6.out _ _ _ hCu_ (opAt_lit _ 4 7 (by omega) (by show (7 : Nat) < _; decide)) hE).mono ?_; rintro e_ w22 ⟨rfl, h22⟩
 replace hE := hE.trans h22
 replace hB1 := hB1.ext h22
 replace hB2 := hB2.ext h22
 replace hCn_ := hCn_.ext h22
 replace hB3 := hB3.ext h22
 replace hCu_ := hCu_.ext h22
 replace hB4 := hB4.ext h22
 replace hB5 := hB5.ext h22
 replace hB6 := hB6.ext h22
 clear h22
 go_wp2_with (first | (refine wpList_load_row_g (by kernel_rfl) 24 _ rfl b1 rfl _ _ _ _ hB1 Tryz.underlying24 rfl (by kernel_rfl) ?_) | (refine wpList_load_row_g (by kernel_rfl) 33 _ rfl b2 rfl _ _ _ _ hB2 Tryz.underlying33 rfl (by kernel_rfl) ?_))
 refine (A7.out _ _ _ (hTt.out _) (opAt_lit _ 9 0 (by omega) u64_zero) hE).mono ?_; rintro e_ w23 ⟨rfl, h23⟩
 replace hE := hE.trans h23
 replace hB1 := hB1.ext h23
 replace hB2 := hB2.ext h23
 replace hCn_ := hCn_.ext h23
 replace hB3 := hB3.ext h23
 replace hCu_ := hCu_.ext h23
 replace hB4 := hB4.ext h23
 replace hB5 := hB5.ext h23
 replace hB6 := hB6.ext h23
 clear h23
 have l5 := hB5.lt
 have x52 : w23.cell? ⟨b5, 2, none⟩ = some (.string sv1) := by rw [hv1.out]; exact hB5.cell 2
 have l3 := hB3.lt
 have x32 : w23.cell? ⟨b3, 2, none⟩ = some (.string sv1) := hB3.cell 2
 have l6 := hB6.lt
 have x61 : w23.cell? ⟨b6, 1, none⟩ = some (.int .u64 7) := hB6.cell 1
 go_wp2_with (first | (refine wpList_load_row_g (by kernel_rfl) 33 _ rfl b2 rfl _ _ _ _ hB2 Tryz.underlying33 rfl (by kernel_rfl) ?_))
 refine (CPz.out _ _ _ ⟨_, rfl, Sl.nil _ _, OkT.zero⟩ (opAt_lit _ 4 7 (by omega) (by show (7 : Nat) < _; decide)) hE).mono ?_; rintro e_ w24 ⟨rfl, h24⟩
 replace hE := hE.trans h24
 replace hB1 := hB1.ext h24
 replace hB2 := hB2.ext h24
 replace hCn_ := hCn_.ext h24
 replace hB3 := hB3.ext h24
 replace hCu_ := hCu_.ext h24
 replace hB4 := hB4.ext h24
 replace hB5 := hB5.ext h24
 replace hB6 := hB6.ext h24
 clear h24
 go_wp2
 go_ret
 exact ⟨rfl, hE⟩
end Go.Proofs.YtefjdmjkofaajaaGreatDoor

namespace Go.Dm
open Go Go.RowKit
theorem fits_mint (l : List Cav) : fitsC (mintL l) = true := by
 unfold fitsC
 rw [Bool.and_eq_true]
 refine ⟨decide_eq_true (by have := (mintL_len l).1; omega), List.all_eq_true.2 fun c hc => ?_⟩
 unfold mintL at hc
 obtain ⟨x, _, rfl⟩ := List.mem_map.1 hc
 unfold knownC mintC
 rw [Bool.or_eq_true, decide_eq_true_iff, decide_eq_true_iff]
 show 1 + (x.2 : Int) % 2 = 1 ∨ 1 + (x.2 : Int) % 2 = 2
 omega
end Go.Dm

namespace Go.Dm
open Go Go.RowKit
theorem cav_fwd {l : Bs} (hU : U64 l.length) {p n : Int} {c : Cav} (hk : knownC c = true) (hc : U64 c.2) (h : At (putC c) l p n) : getCav l p = (c, n, true) := by
 unfold knownC at hk
 simp only [Bool.or_eq_true, decide_eq_true_eq] at hk
 unfold putC at h
 rw [At.app] at h
 obtain ⟨m, a1, a2⟩ := h
 have hu : U64 (u64of c.1) := by show u64of c.1 < 18446744073709551616; unfold u64of; omega
 have e1 := (getI_iff hU).2 ⟨hu, a1⟩
 have e2 := (getI_iff hU).2 ⟨hc, a2⟩
 unfold getCav
 rw [e1]
 simp only
 rw [e2]
 obtain ⟨a, b⟩ := c
 have : ((min (u64of a) 3 : Nat) : Int) = a := by unfold u64of; simp only at hk; omega
 simp only at this ⊢
 rw [this]
 rfl
theorem cavs_fwd {l : Bs} (hU : U64 l.length) {p : Int} : ∀ {k : Nat} {cs : List Cav} {z : Int}, cs.length = k → (∀ c ∈ cs, knownC c = true) → (∀ c ∈ cs, U64 c.2) → At (cs.flatMap putC) l p z → cavsAt l p k = some (cs, z)
 | 0, cs, z, hl, _, _, h => by
  obtain rfl := List.length_eq_zero_iff.1 hl
  obtain ⟨q, h1, h2, _⟩ := h
  have : z = p := by rw [h2, h1]; rfl
  rw [this]; rfl
 | k + 1, cs, z, hl, hk, hc, h => by
  have hne : cs ≠ [] := fun e => by rw [e] at hl; cases hl
  have hs := List.dropLast_concat_getLast hne
  generalize cs.dropLast = ds at hs
  generalize cs.getLast hne = c at hs
  subst hs
  rw [List.flatMap_append, At.app] at h
  obtain ⟨m, a1, a2⟩ := h
  have a2 : At (putC c) l m z := by simpa using a2
  have hdl : ds.length = k := by simpa using hl
  have ih := cavs_fwd hU hdl (fun x hx => hk x (List.mem_append_left _ hx)) (fun x hx => hc x (List.mem_append_left _ hx)) a1
  have hg := cav_fwd hU (hk c (List.mem_append_right _ (by simp))) (hc c (List.mem_append_right _ (by simp))) a2
  unfold cavsAt
  rw [ih]
  simp only
  rw [hg]
  rfl
theorem tok_fwd {l : Bs} (hU : U64 l.length) {p n : Int} {t : TokQ} (hok : OkT t) (hne : putTok t ≠ []) (h : At (putTok t) l p n) : getTok l p = (t, n, true) := by
 obtain ⟨tn, cs, sg⟩ := t
 have hp : putTok (tn, cs, sg) = putTok (tn, cs, sg) := rfl
 unfold putTok at hne h
 split at hne
 ·rename_i hc
  rw [if_pos hc] at h
  obtain ⟨r1, r2, r3⟩ := hc
  simp only at r1 r2 r3 h
  rw [At.app] at h
  obtain ⟨q1, a1, h⟩ := h
  rw [At.app] at h
  obtain ⟨q2, a2, h⟩ := h
  rw [At.app] at h
  obtain ⟨z, a3, a4⟩ := h
  have hl8 : cs.length ≤ 8 ∧ ∀ c ∈ cs, knownC c = true := by
   unfold fitsC at r2
   rw [Bool.and_eq_true, List.all_eq_true, decide_eq_true_eq] at r2
   exact r2
  have e1 := (text_iff (most := 32) hU).2 ⟨right_len r1, a1⟩
  have e2 := (getI_iff hU).2 ⟨Nat.lt_of_le_of_lt hl8.1 (by decide), a2⟩
  have e3 := cavs_fwd hU rfl hl8.2 hok.n a3
  obtain ⟨zn, rfl, hn, hb⟩ := a4
  have h32 : sg.data.toList.length = 32 := r3
  have hs : (l.drop zn).take 32 = sg.data.toList := by
   have := (begins_take.1 hb).1
   rw [h32] at this
   exact this.symm
  have hsg : (⟨((l.drop ((zn : Int)).toNat).take 32).toArray⟩ : ByteArray) = sg := (mk_bytes (by rw [show ((zn : Int)).toNat = zn from rfl, hs])).symm
  unfold getTok
  rw [e1]
  simp only
  rw [e2]
  simp only
  rw [if_neg (by simp; omega), e3]
  unfold tokAt
  simp only
  rw [hsg]
  have htn : (⟨tn.data.toList.toArray⟩ : ByteArray) = tn := rfl
  rw [htn, if_neg (by unfold putTok; rw [if_pos ⟨r1, r2, r3⟩]; exact hne), hn, h32]
  rfl
 ·exact absurd rfl hne
theorem sameX_refl (x : SpQ) : sameX x x = true := by unfold sameX; simp
theorem bare_bare {f : Fld} (hf : isFld f) (o : OpQ) : bareO f (bareO f o) = bareO f o := by
 rcases hf with rfl | rfl | rfl | rfl | rfl | rfl | rfl | rfl <;> rfl
theorem puts_bare {f : Fld} (hf : isFld f) (o : OpQ) : putsOf f (bareO f o) = putsOf f o := by
 rcases hf with rfl | rfl | rfl | rfl | rfl | rfl | rfl | rfl <;> rfl
theorem right_bare {o : OpQ} {f : Fld} (hf : knownF o.1 = some f) (h : rightO o = true) : rightO (bareO f o) = true := by
 have hfl := knownF_is hf
 unfold rightO at h ⊢
 have hk : knownF (bareO f o).1 = some f := hf
 rw [hf] at h
 rw [hk]
 simp only at h ⊢
 rw [bare_bare hfl]
 simp only [Bool.and_eq_true, Bool.or_eq_true, decide_eq_true_eq] at h ⊢
 obtain ⟨_, h2, h3, h4⟩ := h
 refine ⟨?_, ?_, ?_, ?_⟩
 ·unfold eqO
  rw [sameX_refl]
  simp
 ·rcases h2 with h2 | h2
  ·exact Or.inl h2
  ·cases hx : f.2.2.2.2.1 with
   | false => exact Or.inl rfl
   | true => refine Or.inr ?_; show chkX (cond f.2.2.2.2.1 o.2.2.2.2.1 noSp) = 0; rw [hx]; exact h2
 ·show (cond f.2.2.1 o.2.2.1 ⟨#[]⟩).size ≤ 98
  cases f.2.2.1
  ·show (0 : Nat) ≤ 98; omega
  ·exact h3
 ·show rightLab (labL (cond f.2.2.2.2.2 o.2.2.2.2.2 [])) = true
  cases f.2.2.2.2.2
  ·rfl
  ·exact h4
theorem put_bare {o : OpQ} {f : Fld} (hf : knownF o.1 = some f) (h : rightO o = true) : putO (bareO f o) = putO o := by
 unfold putO
 rw [if_pos h, if_pos (right_bare hf h)]
 have hk : knownF (bareO f o).1 = some f := hf
 rw [hk, hf]
 show putL o.1.toNat ++ putsOf f (bareO f o) = _
 rw [puts_bare (knownF_is hf)]
 rfl
theorem rdF_fwd {l : Bs} (hU : U64 l.length) {f : Fld} (hf : isFld f) {q n : Int} {o : OpQ} (hok : OkO o) (h98 : o.2.2.1.size ≤ 98) (hx : f.2.2.2.2.1 = true → chkX o.2.2.2.2.1 = 0) (hl : rightLab (labL o.2.2.2.2.2) = true) (h : At (putsOf f o) l q n) : rdF l f o.1 q = (bareO f o, n, true) := by
 obtain ⟨k, ⟨i, m⟩, p, d, x, P⟩ := o
 have p98 : p.data.toList.length ≤ 98 := h98
 have hP := unP_lab P
 unfold rdF rdA rdT rdV rdX rdL
 rcases hf with rfl | rfl | rfl | rfl | rfl | rfl | rfl | rfl
 ·simp only [putsOf, cond_true, cond_false, List.nil_append, List.append_nil, Bool.and_false] at h ⊢
  have hc := hx rfl
  rw [putX_ok hc] at h
  rw [(getX_iff hU).2 ⟨hc, hok.e, h⟩]
  rfl
 ·simp only [putsOf, cond_true, cond_false, List.append_nil, Bool.and_false] at h ⊢
  rw [(getI_iff hU).2 ⟨hok.i, h⟩]
  rfl
 ·simp only [putsOf, cond_true, cond_false, List.nil_append, List.append_nil, Bool.and_true, Bool.and_false] at h ⊢
  rw [At.app] at h
  obtain ⟨q1, a1, a2⟩ := h
  rw [(text_iff (most := 98) hU).2 ⟨p98, a1⟩]
  simp only [cond_true]
  rw [(getV_iff hU).2 ⟨hok.d, a2⟩]
  rfl
 ·simp only [putsOf, cond_true, cond_false, List.nil_append, List.append_nil, Bool.and_false] at h ⊢
  rw [(getI_iff hU).2 ⟨hok.n, h⟩]
  rfl
 ·simp only [putsOf, cond_true, cond_false, List.nil_append, List.append_nil, Bool.and_false] at h ⊢
  rw [(text_iff (most := 98) hU).2 ⟨p98, h⟩]
  rfl
 ·simp only [putsOf, cond_true, cond_false, List.nil_append, List.append_nil, Bool.and_true, Bool.and_false] at h ⊢
  rw [(getV_iff hU).2 ⟨hok.d, h⟩]
  rfl
 ·simp only [putsOf, cond_true, cond_false, List.nil_append, Bool.and_true] at h ⊢
  rw [At.app] at h
  obtain ⟨q1, a1, h⟩ := h
  rw [At.app] at h
  obtain ⟨q2, a2, a3⟩ := h
  rw [(text_iff (most := 98) hU).2 ⟨p98, a1⟩]
  simp only [cond_true]
  rw [(getV_iff hU).2 ⟨hok.d, a2⟩]
  simp only [cond_true]
  rw [(lab_iff hU).2 ⟨hl, a3⟩]
  simp only
  rw [hP]
  rfl
 ·simp only [putsOf, cond_false, List.append_nil, Bool.and_false] at h ⊢
  obtain ⟨z, h1, h2, _⟩ := h
  have : n = q := by rw [h2, h1]; rfl
  rw [this]
  rfl
theorem op_fwd {l : Bs} (hU : U64 l.length) {p n : Int} {o : OpQ} (hok : OkO o) (hr : rightO o = true) (h : At (putO o) l p n) : ∃ f, knownF o.1 = some f ∧ getO l p = (bareO f o, n, true) := by
 obtain ⟨k, hk, h1, h13, h98⟩ := rightO_kind hr
 cases hf : knownF o.1 with
 | none => unfold rightO at hr; rw [hf] at hr; cases hr
 | some f =>
  refine ⟨f, rfl, ?_⟩
  have hrr := hr
  unfold rightO at hrr
  rw [hf] at hrr
  simp only [Bool.and_eq_true, Bool.or_eq_true, decide_eq_true_eq] at hrr
  obtain ⟨_, h2, _, h4⟩ := hrr
  unfold putO at h
  rw [if_pos hr, hf, At.app] at h
  obtain ⟨q, a1, a2⟩ := h
  have hkn : o.1.toNat = k := by omega
  rw [hkn] at a1
  have e1 := (getI_iff hU).2 ⟨Nat.lt_of_le_of_lt h13 (by decide), a1⟩
  have e2 := rdF_fwd hU (knownF_is hf) hok h98 (fun hx => by
   rcases h2 with h2 | h2
   ·rw [hx] at h2; cases h2
   ·exact h2) h4 a2
  unfold getO
  rw [e1]
  simp only
  rw [if_neg (by simp; omega), ← hk, hf]
  show finO (rdF l f o.1 q) = _
  rw [e2]
  unfold finO
  rw [if_pos ⟨rfl, right_bare hf hr⟩]
theorem at_start {b r : Bs} : At b (b ++ r) 0 (b.length : Int) := ⟨0, rfl, by simp, ⟨r, by simp⟩⟩
theorem at_mid {a b r : Bs} : At b (a ++ (b ++ r)) (a.length : Int) ((a ++ b).length : Int) := ⟨a.length, rfl, by simp, ⟨r, by simp⟩⟩
theorem putG_eq {t : TokQ} {o : OpQ} (hne : putTok t ≠ []) (hr : rightO o = true) : putG t o = putTok t ++ putO o := by
 have hno : putO o ≠ [] := by
  unfold putO
  rw [if_pos hr]
  intro e
  exact putL_ne _ (List.append_eq_nil_iff.1 e).1
 unfold putG
 rw [if_neg (by rw [not_or]; exact ⟨hne, hno⟩)]
theorem open_fwd {t : TokQ} {o : OpQ} (r : Bs) (hU : U64 (putG t o ++ r).length) (ht : OkT t) (hne : putTok t ≠ []) (hok : OkO o) (hr : rightO o = true) : ∃ f, knownF o.1 = some f ∧ getTok (putG t o ++ r) 0 = (t, ((putTok t).length : Int), true) ∧ getO (putG t o ++ r) ((putTok t).length : Int) = (bareO f o, ((putG t o).length : Int), true) := by
 have hp := putG_eq hne hr
 have hU2 : U64 (putTok t ++ (putO o ++ r)).length := by rw [← List.append_assoc, ← hp]; exact hU
 obtain ⟨f, hf, h2⟩ := op_fwd (l := putTok t ++ (putO o ++ r)) hU2 hok hr at_mid
 rw [hp, List.append_assoc]
 exact ⟨f, hf, tok_fwd hU2 ht hne at_start, h2⟩
/-- P19.2. -/
theorem back_yes {t : TokQ} {o : OpQ} (hU : U64 (putG t o).length) (ht : OkT t) (hne : putTok t ≠ []) (hok : OkO o) (hr : rightO o = true) : ∃ p, openG (putG t o) = (t, p, true) ∧ putO p = putO o := by
 obtain ⟨f, hf, h1, h2⟩ := open_fwd [] (by rw [List.append_nil]; exact hU) ht hne hok hr
 rw [List.append_nil] at h1 h2
 refine ⟨bareO f o, ?_, put_bare hf hr⟩
 unfold openG
 rw [h1, if_neg (by simp)]
 simp only
 rw [h2, if_neg (by simp)]
theorem back_more {t : TokQ} {o : OpQ} (b : UInt8) (hU : U64 (putG t o ++ [b]).length) (ht : OkT t) (hne : putTok t ≠ []) (hok : OkO o) (hr : rightO o = true) : (openG (putG t o ++ [b])).2.2 = false := by
 obtain ⟨f, hf, h1, h2⟩ := open_fwd [b] hU ht hne hok hr
 unfold openG
 rw [h1, if_neg (by simp)]
 simp only
 rw [h2, if_pos (Or.inr (by simp; omega))]
 rfl
theorem back_less {t t2 : TokQ} {o o2 : OpQ} (hU : U64 (putG t o).length) (ht : OkT t) (hne : putTok t ≠ []) (hok : OkO o) (hr : rightO o = true) (h : openG ((putG t o).take ((putG t o).length - 1)) = (t2, o2, true)) (ht2 : OkT t2) (ho2 : OkO o2) : False := by
 have hU1 : U64 ((putG t o).take ((putG t o).length - 1)).length := by rw [List.length_take]; exact Nat.lt_of_le_of_lt (by omega) hU
 obtain ⟨hp2, hr2⟩ := open_put hU1 h
 have hne2 : putTok t2 ≠ [] := by
  unfold openG at h
  rcases h1 : getTok ((putG t o).take ((putG t o).length - 1)) 0 with ⟨t3, q, b⟩
  rw [h1] at h
  simp only at h
  cases b with
  | false => rw [if_pos rfl] at h; cases h
  | true =>
   rw [if_neg (by simp)] at h
   split at h
   ·cases h
   ·injection h with e1 _
    rw [← e1]
    exact (tok_at hU1 h1).2
 obtain ⟨f, hf, h1, h2⟩ := open_fwd [] (by rw [List.append_nil]; exact hU) ht hne hok hr
 rw [List.append_nil] at h1 h2
 have hs : putG t o ≠ [] := by
  rw [putG_eq hne hr]
  exact fun e => hne (List.append_eq_nil_iff.1 e).1
 have hsp : putG t2 o2 ++ [(putG t o).getLast hs] = putG t o := by
  rw [hp2, ← List.dropLast_eq_take]
  exact List.dropLast_concat_getLast hs
 obtain ⟨f2, hf2, g1, g2⟩ := open_fwd (t := t2) (o := o2) [(putG t o).getLast hs] (by rw [hsp]; exact hU) ht2 hne2 ho2 hr2
 rw [hsp] at g1 g2
 rw [h1] at g1
 injection g1 with _ g1
 injection g1 with g1 _
 rw [← g1, h2] at g2
 injection g2 with _ g2
 injection g2 with g2 _
 have := congrArg List.length hsp
 rw [List.length_append] at this
 simp at this
 omega
theorem mint_ne (key : Bs) (l : List Cav) : putTok (mintT key l) ≠ [] := by
 unfold putTok
 rw [if_pos ⟨show rightL [97] = true by decide +kernel, fits_mint l, by show (narrowB _ _).toArray.size = _; rw [List.size_toArray, narrowB_len (signB_len _ _)]⟩]
 intro e
 have := (List.append_eq_nil_iff.1 e).1
 unfold putT at this
 exact putL_ne _ (List.append_eq_nil_iff.1 this).1
end Go.Dm

namespace Go.Proofs.YtefjdmjkofaajaaGreatDoor
open Go.RowKit Go.Dm

set_option maxHeartbeats 8000000 in
set_option maxRecDepth 100000 in
theorem gateBack_w (key : ByteArray) (l : List Cav) (V : Value) (o : OpQ) (b : Nat) (v : Value) (w : World) (hk : key.size ≤ 1048576) (hx : Cavs w v l) (hU : ∀ c ∈ l, U64 c.2) (hV : OpAt w V o) (hb : b ≤ 255) (ha : Vars w) (hs : ShaV w) (hg : GateV w) :
  Calls Tryz.prog 4 #[.string key, v, V, .int .u8 (b : Nat)] w fun e w' => e = .returned (.bool true) ∧ Ext w w' := by
 have CX : Hid (∀ U, Ext w U → Calls Tryz.prog 9 #[] U fun e w' => e = .returned (.bool true) ∧ Ext U w') := fun U h => exam_w U (ha.ext h) (hs.ext h) (hg.ext h)
 have CM : Hid (∀ (K : ByteArray) U, Ext w U → K.size ≤ 281474976710656 → Calls Tryz.prog 24 #[.string K, v] U fun e w' => (∃ T, e = .returned T ∧ TokAt w' T (mintT K.data.toList l)) ∧ Ext U w') := fun K U h h2 =>
  (minted_w K v l U h2 (Sl.ext hx h) hU (hs.ext h)).mono fun e w' ⟨T, h1, h2, h3⟩ => ⟨⟨T, h1, h2⟩, h3⟩
 have CPg : Hid (∀ T V t U, Ext w U → TokAt U T t → OpAt U V o → Calls Tryz.prog 15 #[T, V] U fun e w' => e = .returned (.string ⟨(putG t o).toArray⟩) ∧ Ext U w') := fun T V t U h h1 h2 => gput_w T V t o U h1 h2 (ha.ext h)
 have CR : Hid (∀ V U, Ext w U → OpAt U V o → Calls Tryz.prog 25 #[V] U fun e w' => e = .returned (.bool (rightO o)) ∧ Ext U w') := fun V U h h2 => rightA h2 (ha.ext h)
 have CO : Hid (∀ (s : ByteArray) U, Ext w U → s.size ≤ 281474976710656 → Calls Tryz.prog 20 #[.string s] U fun e w' => GotG w' (openG s.data.toList) e ∧ Ext U w') := fun s U h h2 => gopen_w s U h2 (ha.ext h)
 have CT : Hid (∀ T t U, Ext w U → TokAt U T t → Calls Tryz.prog 26 #[T] U fun e w' => e = .returned (.string ⟨(putTok t).toArray⟩) ∧ Ext U w') := fun T t U h h1 => putTA h1 (ha.ext h)
 have CV : Hid (∀ V p U, Ext w U → OpAt U V p → Calls Tryz.prog 27 #[V] U fun e w' => e = .returned (.string ⟨(putO p).toArray⟩) ∧ Ext U w') := fun V p U h h1 => putA h1 (ha.ext h)
 obtain ⟨q, cap, rfl, _, _⟩ := hx.shape
 obtain ⟨vo, vp, R0, rfl, hT0, hF0, hR0, hRt0, hP0, hOo⟩ := hV
 obtain ⟨qo, co, rfl, _, _⟩ := hT0.shape
 obtain ⟨qp, cp, rfl, _, _⟩ := hP0.shape
 unfold opV
 have hV : OpAt w (.agg #[.int .i64 o.1, .int .u64 (o.2.1.1 : Nat), .int .u64 (o.2.1.2 : Nat), .string o.2.2.1, .int .u64 ((vG o.2.2.2.1) 0 : Nat), .int .u64 ((vG o.2.2.2.1) 1 : Nat), .int .u64 ((vG o.2.2.2.1) 2 : Nat), .int .u64 ((vG o.2.2.2.1) 3 : Nat), .string o.2.2.2.2.1.1, .int .u64 ((vG o.2.2.2.2.1.2.1) 0 : Nat), .int .u64 ((vG o.2.2.2.2.1.2.1) 1 : Nat), .int .u64 ((vG o.2.2.2.2.1.2.1) 2 : Nat), .int .u64 ((vG o.2.2.2.2.1.2.1) 3 : Nat), .int .i64 o.2.2.2.2.1.2.2.1.1, .int .i64 o.2.2.2.2.1.2.2.1.2.1, .int .i64 o.2.2.2.2.1.2.2.1.2.2, .slice qo R0.length co, .slice qp o.2.2.2.2.2.length cp]) o := ⟨_, _, R0, rfl, hT0, hF0, hR0, hRt0, hP0, hOo⟩
 clear hT0 hF0 hR0 hRt0 hP0
 obtain ⟨w1, hW1, hA, hE, -⟩ := new_row w 33 [.int .i64 o.1, .int .u64 (o.2.1.1 : Nat), .int .u64 (o.2.1.2 : Nat), .string o.2.2.1, .int .u64 ((vG o.2.2.2.1) 0 : Nat), .int .u64 ((vG o.2.2.2.1) 1 : Nat), .int .u64 ((vG o.2.2.2.1) 2 : Nat), .int .u64 ((vG o.2.2.2.1) 3 : Nat), .string o.2.2.2.2.1.1, .int .u64 ((vG o.2.2.2.2.1.2.1) 0 : Nat), .int .u64 ((vG o.2.2.2.2.1.2.1) 1 : Nat), .int .u64 ((vG o.2.2.2.2.1.2.1) 2 : Nat), .int .u64 ((vG o.2.2.2.2.1.2.1) 3 : Nat), .int .i64 o.2.2.2.2.1.2.2.1.1, .int .i64 o.2.2.2.2.1.2.2.1.2.1, .int .i64 o.2.2.2.2.1.2.2.1.2.2, .slice qo R0.length co, .slice qp o.2.2.2.2.2.length cp]
 replace hV := hV.ext hE
 obtain ⟨bA, hbA⟩ : ∃ x, w.heap.size = x := ⟨_, rfl⟩
 rw [hbA] at hA
 clear hx
 go_enter Tryz.func4, Tryz.ntmps4
 go_upto_region 1 with fail
 clear hW1 hbA
 go_wp2_with fail
 refine (CX.out _ hE).mono ?_; rintro e_ w2 ⟨rfl, h2⟩
 replace hE := hE.trans h2
 replace hA := hA.ext h2
 replace hV := hV.ext h2
 clear h2
 go_upto_region 5 with fail
 have hK : (key.extract 0 (min (key.size : Int) 100).toNat).size ≤ 281474976710656 := by rw [ByteArray.size_extract]; omega
 generalize key.extract 0 (min (key.size : Int) 100).toNat = K at *
 go_wp2_with fail
 refine (CM.out K _ hE hK).mono ?_; rintro e_ w3 ⟨⟨T_, rfl, hT⟩, h3⟩
 replace hE := hE.trans h3
 replace hA := hA.ext h3
 replace hV := hV.ext h3
 clear h3
 have hne := mint_ne K.data.toList l
 obtain ⟨vt, rfl, hCv, hOk⟩ := hT
 obtain ⟨qt, ct, rfl, _, _⟩ := hCv.shape
 generalize mintT K.data.toList l = t at *
 replace hne := Lib.hid hne
 replace hOk := Lib.hid hOk
 have hT : TokAt w3 (.agg #[.string t.1, .slice qt t.2.1.length ct, .string t.2.2]) t := ⟨_, rfl, hCv, hOk.out⟩
 clear hCv
 have hB := RB.new w3 24 [.string t.1, .slice qt t.2.1.length ct, .string t.2.2]
 have e_ : Ext w3 (w3.alloc (.cells #[.string t.1, .slice qt t.2.1.length ct, .string t.2.2] 24)) := (Ext.refl w3).alloc _
 go_upto_region 6 with fail
 change RB w3.heap.size 24 [.string t.1, .slice qt t.2.1.length ct, .string t.2.2] (w3.alloc (.cells #[.string t.1, .slice qt t.2.1.length ct, .string t.2.2] 24)) at hB
 replace hE := hE.trans e_
 replace hA := hA.ext e_
 replace hV := hV.ext e_
 replace hT := hT.ext e_
 clear e_
 generalize w3.alloc (.cells #[.string t.1, .slice qt t.2.1.length ct, .string t.2.2] 24) = w4 at *
 generalize w3.heap.size = bT at *
 go_wp2_with (first | (refine wpList_load_row_g (by kernel_rfl) 24 _ rfl bT rfl _ _ _ _ hB Tryz.underlying24 rfl (by kernel_rfl) ?_) | (refine wpList_load_row_g (by kernel_rfl) 33 _ rfl bA rfl _ _ _ _ hA Tryz.underlying33 rfl (by kernel_rfl) ?_))
 refine (CPg.out _ _ t _ hE hT hV).mono ?_; rintro e_ w5 ⟨rfl, h5⟩
 replace hE := hE.trans h5
 replace hA := hA.ext h5
 replace hV := hV.ext h5
 replace hT := hT.ext h5
 replace hB := hB.ext h5
 clear h5
 have hz : (⟨(putG t o).toArray⟩ : ByteArray).size ≤ 6000 := by
  show (putG t o).toArray.size ≤ _
  rw [List.size_toArray]
  have h1 := putTok_len hOk.out
  have h2 := putO_len hOo
  unfold putG
  split
  ·simp
  ·rw [List.length_append]; omega
 have em := emptyB (putG t o)
 have hpu : putG t o = if putTok t = [] ∨ putO o = [] then [] else putTok t ++ putO o := rfl
 obtain ⟨sv, hsv⟩ : ∃ s : ByteArray, s = ⟨(putG t o).toArray⟩ := ⟨_, rfl⟩
 rw [← hsv] at hz em ⊢
 have hsd : sv.data.toList = putG t o := by rw [hsv]
 replace hsv := Lib.hid hsv
 replace hsd := Lib.hid hsd
 go_upto_region 7 with fail
 go_wp2_with (first | (refine wpList_load_row_g (by kernel_rfl) 33 _ rfl bA rfl _ _ _ _ hA Tryz.underlying33 rfl (by kernel_rfl) ?_))
 refine (CR.out _ _ hE hV).mono ?_; rintro e_ w6 ⟨rfl, h6⟩
 replace hE := hE.trans h6
 replace hA := hA.ext h6
 replace hV := hV.ext h6
 replace hT := hT.ext h6
 replace hB := hB.ext h6
 clear h6
 cases hr : rightO o with
 | false =>
  have hp0 : putG t o = [] := by rw [hpu, if_pos (Or.inr (by unfold putO; rw [hr]; rfl))]
  rw [hp0, decide_eq_true rfl] at em
  go_wp2
  go_ret
  exact ⟨rfl, hE⟩
 | true =>
  have hpn : putG t o ≠ [] := by rw [putG_eq hne.out hr]; exact fun e => hne.out (List.append_eq_nil_iff.1 e).1
  rw [decide_eq_false hpn] at em
  have hU0 : U64 (putG t o).length := by rw [← hsd.out]; exact Nat.lt_of_le_of_lt (show sv.size ≤ 6000 from hz) (by decide)
  have hpos : 0 < sv.size := by
   have := List.length_pos_iff.2 hpn
   rw [← hsd.out] at this
   exact this
  obtain ⟨p, hop, hpp⟩ := back_yes hU0 hOk.out hne.out hOo hr
  replace hop := Lib.hid hop
  replace hpp := Lib.hid hpp
  replace hpn := Lib.hid hpn
  replace hr := Lib.hid hr
  clear hpu
  go_upto_region 11 with fail
  clear em
  go_wp2_with fail
  refine (CO.out sv _ hE (by omega)).mono ?_; rintro e_ w7 ⟨hG, h7⟩
  replace hE := hE.trans h7
  replace hA := hA.ext h7
  replace hV := hV.ext h7
  replace hT := hT.ext h7
  replace hB := hB.ext h7
  clear h7
  rw [hsd.out, hop.out] at hG
  obtain ⟨T_, V_, rfl, hT_, hV_⟩ := hG
  obtain ⟨vx, rfl, hCx, hOk⟩ := hT_
  obtain ⟨qx, cx, rfl, _, _⟩ := hCx.shape
  obtain ⟨vv, vl, Rx, rfl, hTx, hFx, hRx, hRt, hPx, hOo⟩ := hV_
  obtain ⟨qv, cv, rfl, _, _⟩ := hTx.shape
  obtain ⟨ql, cl, rfl, _, _⟩ := hPx.shape
  unfold opV
  have hT_ : TokAt w7 (.agg #[.string t.1, .slice qx t.2.1.length cx, .string t.2.2]) t := ⟨_, rfl, hCx, hOk⟩
  have hV_ : OpAt w7 (.agg #[.int .i64 p.1, .int .u64 (p.2.1.1 : Nat), .int .u64 (p.2.1.2 : Nat), .string p.2.2.1, .int .u64 ((vG p.2.2.2.1) 0 : Nat), .int .u64 ((vG p.2.2.2.1) 1 : Nat), .int .u64 ((vG p.2.2.2.1) 2 : Nat), .int .u64 ((vG p.2.2.2.1) 3 : Nat), .string p.2.2.2.2.1.1, .int .u64 ((vG p.2.2.2.2.1.2.1) 0 : Nat), .int .u64 ((vG p.2.2.2.2.1.2.1) 1 : Nat), .int .u64 ((vG p.2.2.2.2.1.2.1) 2 : Nat), .int .u64 ((vG p.2.2.2.2.1.2.1) 3 : Nat), .int .i64 p.2.2.2.2.1.2.2.1.1, .int .i64 p.2.2.2.2.1.2.2.1.2.1, .int .i64 p.2.2.2.2.1.2.2.1.2.2, .slice qv Rx.length cv, .slice ql p.2.2.2.2.2.length cl]) p := ⟨_, _, Rx, rfl, hTx, hFx, hRx, hRt, hPx, hOo⟩
  clear hCx hTx hPx hOk hFx hRx hRt hOo
  obtain ⟨w8, hW_, r1, r3, hB12, hB13, e_⟩ := two_rows w7 24 33 [.string ⟨#[]⟩, .slice none 0 0, .string ⟨#[]⟩] [.int .i64 0, .int .u64 0, .int .u64 0, .string ⟨#[]⟩, .int .u64 0, .int .u64 0, .int .u64 0, .int .u64 0, .string ⟨#[]⟩, .int .u64 0, .int .u64 0, .int .u64 0, .int .u64 0, .int .i64 0, .int .i64 0, .int .i64 0, .slice none 0 0, .slice none 0 0] [.string t.1, .slice qx t.2.1.length cx, .string t.2.2] [.int .i64 p.1, .int .u64 (p.2.1.1 : Nat), .int .u64 (p.2.1.2 : Nat), .string p.2.2.1, .int .u64 ((vG p.2.2.2.1) 0 : Nat), .int .u64 ((vG p.2.2.2.1) 1 : Nat), .int .u64 ((vG p.2.2.2.1) 2 : Nat), .int .u64 ((vG p.2.2.2.1) 3 : Nat), .string p.2.2.2.2.1.1, .int .u64 ((vG p.2.2.2.2.1.2.1) 0 : Nat), .int .u64 ((vG p.2.2.2.2.1.2.1) 1 : Nat), .int .u64 ((vG p.2.2.2.2.1.2.1) 2 : Nat), .int .u64 ((vG p.2.2.2.2.1.2.1) 3 : Nat), .int .i64 p.2.2.2.2.1.2.2.1.1, .int .i64 p.2.2.2.2.1.2.2.1.2.1, .int .i64 p.2.2.2.2.1.2.2.1.2.2, .slice qv Rx.length cv, .slice ql p.2.2.2.2.2.length cl]
  go_upto_region 12 with (first | (refine wpList_store_row (cells := #[.string t.1, .slice qx t.2.1.length cx, .string t.2.2]) rfl 24 _ _ rfl w7.heap.size rfl rfl _ _ r1 (by kernel_rfl) rfl (by first | rfl | decide | simp [Value.oneCell']) ?_) | (refine wpList_store_row (cells := #[.int .i64 p.1, .int .u64 (p.2.1.1 : Nat), .int .u64 (p.2.1.2 : Nat), .string p.2.2.1, .int .u64 ((vG p.2.2.2.1) 0 : Nat), .int .u64 ((vG p.2.2.2.1) 1 : Nat), .int .u64 ((vG p.2.2.2.1) 2 : Nat), .int .u64 ((vG p.2.2.2.1) 3 : Nat), .string p.2.2.2.2.1.1, .int .u64 ((vG p.2.2.2.2.1.2.1) 0 : Nat), .int .u64 ((vG p.2.2.2.2.1.2.1) 1 : Nat), .int .u64 ((vG p.2.2.2.2.1.2.1) 2 : Nat), .int .u64 ((vG p.2.2.2.2.1.2.1) 3 : Nat), .int .i64 p.2.2.2.2.1.2.2.1.1, .int .i64 p.2.2.2.2.1.2.2.1.2.1, .int .i64 p.2.2.2.2.1.2.2.1.2.2, .slice qv Rx.length cv, .slice ql p.2.2.2.2.2.length cl]) rfl 33 _ _ rfl (w7.heap.size + 1) rfl rfl _ _ r3 (by kernel_rfl) rfl (by first | rfl | decide | simp [Value.oneCell']) ?_))
  try rw [hW_]
  clear r1 r3 hW_
  replace hE := hE.trans e_
  replace hA := hA.ext e_
  replace hV := hV.ext e_
  replace hT := hT.ext e_
  replace hB := hB.ext e_
  replace hT_ := hT_.ext e_
  replace hV_ := hV_.ext e_
  clear e_
  generalize w7.heap.size + 1 = b13 at *
  generalize w7.heap.size = b12 at *
  have hT1 := hT_
  have hV1 := hV_
  clear hT_ hV_
  have hb8 : (UInt8.ofNat b).toNat = b := by rw [UInt8.toNat_ofNat']; exact Nat.mod_eq_of_lt (by omega)
  have hcb := run_convert_bytes_back (P := Tryz.prog) (w8.alloc (.cells #[.int .u8 (b : Nat)] 5)) 70 9 5 ⟨w8.heap.size, 0, none⟩ 1 [UInt8.ofNat b] Tryz.underlying70 Tryz.underlying5 Tryz.underlying9 (fun j hj => by
   have hj0 : j = 0 := by simp at hj; exact hj
   subst hj0
   rw [show (⟨w8.heap.size, 0, none⟩ : Addr).add 0 = ⟨w8.heap.size, 0, none⟩ by unfold Addr.add; split <;> simp_all]
   simp [hb8])
  rw [show [UInt8.ofNat b].length = 1 from rfl] at hcb
  have e_ : Ext w8 (w8.alloc (.cells #[.int .u8 (b : Nat)] 5)) := (Ext.refl _).alloc _
  go_wp2_with fail
  clear hcb
  replace hE := hE.trans e_
  replace hA := hA.ext e_
  replace hV := hV.ext e_
  replace hT := hT.ext e_
  replace hB := hB.ext e_
  replace hB12 := hB12.ext e_
  replace hB13 := hB13.ext e_
  replace hT1 := hT1.ext e_
  replace hV1 := hV1.ext e_
  clear e_
  generalize w8.alloc (.cells #[.int .u8 (b : Nat)] 5) = w9 at *
  have hmo := back_more (UInt8.ofNat b) (by rw [List.length_append, ← hsd.out]; exact Nat.lt_of_le_of_lt (show sv.size + 1 ≤ 6001 by omega) (by decide)) hOk.out hne.out hOo hr.out
  have hmd : (sv ++ ⟨#[UInt8.ofNat b]⟩ : ByteArray).data.toList = putG t o ++ [UInt8.ofNat b] := by rw [data_append, hsd.out]
  have hmn := open_none hmo
  rw [← hmd] at hmn
  replace hmn := Lib.hid hmn
  clear hmo hmd
  have hsz1 : (sv ++ ⟨#[UInt8.ofNat b]⟩ : ByteArray).size ≤ 281474976710656 := by rw [ByteArray.size_append]; show sv.size + 1 ≤ _; omega
  have CO2 := CO.out (sv ++ ⟨#[UInt8.ofNat b]⟩) _ hE hsz1
  rw [hmn.out] at CO2
  clear hmn hsz1
  refine CO2.mono ?_; rintro e_ w10 ⟨hG, h_⟩
  clear CO2
  
  replace hE := hE.trans h_
  replace hA := hA.ext h_
  replace hV := hV.ext h_
  replace hT := hT.ext h_
  replace hB := hB.ext h_
  replace hB12 := hB12.ext h_
  replace hB13 := hB13.ext h_
  replace hT1 := hT1.ext h_
  replace hV1 := hV1.ext h_
  clear h_
  obtain ⟨T_, V_, rfl, hT_, hV_⟩ := hG
  rw [show noG.2.2 = false from rfl]
  replace hT_ : TokAt _ T_ noTok.1 := hT_
  replace hV_ : OpAt _ V_ (opQ0 0) := hV_
  obtain ⟨vx, rfl, hCx, hOk⟩ := hT_
  obtain ⟨qx, cx, rfl, _, _⟩ := hCx.shape
  obtain ⟨vv, vl, Rx, rfl, hTx, hFx, hRx, hRt, hPx, hOo⟩ := hV_
  obtain ⟨qv, cv, rfl, _, _⟩ := hTx.shape
  obtain ⟨ql, cl, rfl, _, _⟩ := hPx.shape
  unfold opV
  have hT_ : TokAt w10 (.agg #[.string noTok.1.1, .slice qx noTok.1.2.1.length cx, .string noTok.1.2.2]) noTok.1 := ⟨_, rfl, hCx, hOk⟩
  have hV_ : OpAt w10 (.agg #[.int .i64 (opQ0 0).1, .int .u64 ((opQ0 0).2.1.1 : Nat), .int .u64 ((opQ0 0).2.1.2 : Nat), .string (opQ0 0).2.2.1, .int .u64 ((vG (opQ0 0).2.2.2.1) 0 : Nat), .int .u64 ((vG (opQ0 0).2.2.2.1) 1 : Nat), .int .u64 ((vG (opQ0 0).2.2.2.1) 2 : Nat), .int .u64 ((vG (opQ0 0).2.2.2.1) 3 : Nat), .string (opQ0 0).2.2.2.2.1.1, .int .u64 ((vG (opQ0 0).2.2.2.2.1.2.1) 0 : Nat), .int .u64 ((vG (opQ0 0).2.2.2.2.1.2.1) 1 : Nat), .int .u64 ((vG (opQ0 0).2.2.2.2.1.2.1) 2 : Nat), .int .u64 ((vG (opQ0 0).2.2.2.2.1.2.1) 3 : Nat), .int .i64 (opQ0 0).2.2.2.2.1.2.2.1.1, .int .i64 (opQ0 0).2.2.2.2.1.2.2.1.2.1, .int .i64 (opQ0 0).2.2.2.2.1.2.2.1.2.2, .slice qv Rx.length cv, .slice ql (opQ0 0).2.2.2.2.2.length cl]) (opQ0 0) := ⟨_, _, Rx, rfl, hTx, hFx, hRx, hRt, hPx, hOo⟩
  clear hCx hTx hPx hOk hFx hRx hRt hOo
  obtain ⟨w11, hW_, r1, r3, hB15, hB16, e_⟩ := two_rows w10 24 33 [.string ⟨#[]⟩, .slice none 0 0, .string ⟨#[]⟩] [.int .i64 0, .int .u64 0, .int .u64 0, .string ⟨#[]⟩, .int .u64 0, .int .u64 0, .int .u64 0, .int .u64 0, .string ⟨#[]⟩, .int .u64 0, .int .u64 0, .int .u64 0, .int .u64 0, .int .i64 0, .int .i64 0, .int .i64 0, .slice none 0 0, .slice none 0 0] [.string noTok.1.1, .slice qx noTok.1.2.1.length cx, .string noTok.1.2.2] [.int .i64 (opQ0 0).1, .int .u64 ((opQ0 0).2.1.1 : Nat), .int .u64 ((opQ0 0).2.1.2 : Nat), .string (opQ0 0).2.2.1, .int .u64 ((vG (opQ0 0).2.2.2.1) 0 : Nat), .int .u64 ((vG (opQ0 0).2.2.2.1) 1 : Nat), .int .u64 ((vG (opQ0 0).2.2.2.1) 2 : Nat), .int .u64 ((vG (opQ0 0).2.2.2.1) 3 : Nat), .string (opQ0 0).2.2.2.2.1.1, .int .u64 ((vG (opQ0 0).2.2.2.2.1.2.1) 0 : Nat), .int .u64 ((vG (opQ0 0).2.2.2.2.1.2.1) 1 : Nat), .int .u64 ((vG (opQ0 0).2.2.2.2.1.2.1) 2 : Nat), .int .u64 ((vG (opQ0 0).2.2.2.2.1.2.1) 3 : Nat), .int .i64 (opQ0 0).2.2.2.2.1.2.2.1.1, .int .i64 (opQ0 0).2.2.2.2.1.2.2.1.2.1, .int .i64 (opQ0 0).2.2.2.2.1.2.2.1.2.2, .slice qv Rx.length cv, .slice ql (opQ0 0).2.2.2.2.2.length cl]
  go_upto_region 13 with (first | (refine wpList_store_row (cells := #[.string noTok.1.1, .slice qx noTok.1.2.1.length cx, .string noTok.1.2.2]) rfl 24 _ _ rfl w10.heap.size rfl rfl _ _ r1 (by kernel_rfl) rfl (by first | rfl | decide | simp [Value.oneCell']) ?_) | (refine wpList_store_row (cells := #[.int .i64 (opQ0 0).1, .int .u64 ((opQ0 0).2.1.1 : Nat), .int .u64 ((opQ0 0).2.1.2 : Nat), .string (opQ0 0).2.2.1, .int .u64 ((vG (opQ0 0).2.2.2.1) 0 : Nat), .int .u64 ((vG (opQ0 0).2.2.2.1) 1 : Nat), .int .u64 ((vG (opQ0 0).2.2.2.1) 2 : Nat), .int .u64 ((vG (opQ0 0).2.2.2.1) 3 : Nat), .string (opQ0 0).2.2.2.2.1.1, .int .u64 ((vG (opQ0 0).2.2.2.2.1.2.1) 0 : Nat), .int .u64 ((vG (opQ0 0).2.2.2.2.1.2.1) 1 : Nat), .int .u64 ((vG (opQ0 0).2.2.2.2.1.2.1) 2 : Nat), .int .u64 ((vG (opQ0 0).2.2.2.2.1.2.1) 3 : Nat), .int .i64 (opQ0 0).2.2.2.2.1.2.2.1.1, .int .i64 (opQ0 0).2.2.2.2.1.2.2.1.2.1, .int .i64 (opQ0 0).2.2.2.2.1.2.2.1.2.2, .slice qv Rx.length cv, .slice ql (opQ0 0).2.2.2.2.2.length cl]) rfl 33 _ _ rfl (w10.heap.size + 1) rfl rfl _ _ r3 (by kernel_rfl) rfl (by first | rfl | decide | simp [Value.oneCell']) ?_))
  try rw [hW_]
  clear r1 r3 hW_
  replace hE := hE.trans e_
  replace hA := hA.ext e_
  replace hV := hV.ext e_
  replace hT := hT.ext e_
  replace hB := hB.ext e_
  replace hB12 := hB12.ext e_
  replace hB13 := hB13.ext e_
  replace hT1 := hT1.ext e_
  replace hV1 := hV1.ext e_
  replace hT_ := hT_.ext e_
  replace hV_ := hV_.ext e_
  clear e_
  generalize w10.heap.size + 1 = b16 at *
  generalize w10.heap.size = b15 at *
  clear hT_ hV_ hB15 hB16
  go_wp2_with fail
  have hex : (sv.extract 0 (sv.size - 1)).data.toList = (putG t o).take ((putG t o).length - 1) := by
   rw [← hsd.out, ByteArray.data_extract, Array.toList_extract]
   have hn : sv.size - 1 = sv.data.toList.length - 1 := rfl
   rw [hn, List.extract_eq_take_drop, List.drop_zero, Nat.sub_zero]
  have hsz1 : (sv.extract 0 (sv.size - 1)).size ≤ 281474976710656 := by rw [ByteArray.size_extract]; omega
  have CO2 := CO.out (sv.extract 0 (sv.size - 1)) _ hE hsz1
  rw [hex] at CO2
  clear hex hsz1
  refine CO2.mono ?_; rintro e_ w12 ⟨hG, h_⟩
  clear CO2
  replace hE := hE.trans h_
  replace hA := hA.ext h_
  replace hV := hV.ext h_
  replace hT := hT.ext h_
  replace hB := hB.ext h_
  replace hB12 := hB12.ext h_
  replace hB13 := hB13.ext h_
  replace hT1 := hT1.ext h_
  replace hV1 := hV1.ext h_
  clear h_
  obtain ⟨T_, V_, rfl, hT_, hV_⟩ := hG
  have hb2 : (openG ((putG t o).take ((putG t o).length - 1))).2.2 = false := by
   rcases hq : openG ((putG t o).take ((putG t o).length - 1)) with ⟨t2, o2, b2⟩
   rw [hq] at hT_ hV_
   cases b2 with
   | false => rfl
   | true =>
    obtain ⟨_, _, _, k1⟩ := hT_
    obtain ⟨_, _, _, _, _, _, _, _, _, k2⟩ := hV_
    exact (back_less hU0 hOk.out hne.out hOo hr.out hq k1 k2).elim
  rw [hb2]
  clear hb2
  generalize openG ((putG t o).take ((putG t o).length - 1)) = G at *
  obtain ⟨t2, o2, b2⟩ := G
  simp only at hT_ hV_
  obtain ⟨vx, rfl, hCx, hOk⟩ := hT_
  obtain ⟨qx, cx, rfl, _, _⟩ := hCx.shape
  obtain ⟨vv, vl, Rx, rfl, hTx, hFx, hRx, hRt, hPx, hOo⟩ := hV_
  obtain ⟨qv, cv, rfl, _, _⟩ := hTx.shape
  obtain ⟨ql, cl, rfl, _, _⟩ := hPx.shape
  unfold opV
  have hT_ : TokAt w12 (.agg #[.string t2.1, .slice qx t2.2.1.length cx, .string t2.2.2]) t2 := ⟨_, rfl, hCx, hOk⟩
  have hV_ : OpAt w12 (.agg #[.int .i64 o2.1, .int .u64 (o2.2.1.1 : Nat), .int .u64 (o2.2.1.2 : Nat), .string o2.2.2.1, .int .u64 ((vG o2.2.2.2.1) 0 : Nat), .int .u64 ((vG o2.2.2.2.1) 1 : Nat), .int .u64 ((vG o2.2.2.2.1) 2 : Nat), .int .u64 ((vG o2.2.2.2.1) 3 : Nat), .string o2.2.2.2.2.1.1, .int .u64 ((vG o2.2.2.2.2.1.2.1) 0 : Nat), .int .u64 ((vG o2.2.2.2.2.1.2.1) 1 : Nat), .int .u64 ((vG o2.2.2.2.2.1.2.1) 2 : Nat), .int .u64 ((vG o2.2.2.2.2.1.2.1) 3 : Nat), .int .i64 o2.2.2.2.2.1.2.2.1.1, .int .i64 o2.2.2.2.2.1.2.2.1.2.1, .int .i64 o2.2.2.2.2.1.2.2.1.2.2, .slice qv Rx.length cv, .slice ql o2.2.2.2.2.2.length cl]) o2 := ⟨_, _, Rx, rfl, hTx, hFx, hRx, hRt, hPx, hOo⟩
  clear hCx hTx hPx hOk hFx hRx hRt hOo
  obtain ⟨w13, hW_, r1, r3, hB18, hB19, e_⟩ := two_rows w12 24 33 [.string ⟨#[]⟩, .slice none 0 0, .string ⟨#[]⟩] [.int .i64 0, .int .u64 0, .int .u64 0, .string ⟨#[]⟩, .int .u64 0, .int .u64 0, .int .u64 0, .int .u64 0, .string ⟨#[]⟩, .int .u64 0, .int .u64 0, .int .u64 0, .int .u64 0, .int .i64 0, .int .i64 0, .int .i64 0, .slice none 0 0, .slice none 0 0] [.string t2.1, .slice qx t2.2.1.length cx, .string t2.2.2] [.int .i64 o2.1, .int .u64 (o2.2.1.1 : Nat), .int .u64 (o2.2.1.2 : Nat), .string o2.2.2.1, .int .u64 ((vG o2.2.2.2.1) 0 : Nat), .int .u64 ((vG o2.2.2.2.1) 1 : Nat), .int .u64 ((vG o2.2.2.2.1) 2 : Nat), .int .u64 ((vG o2.2.2.2.1) 3 : Nat), .string o2.2.2.2.2.1.1, .int .u64 ((vG o2.2.2.2.2.1.2.1) 0 : Nat), .int .u64 ((vG o2.2.2.2.2.1.2.1) 1 : Nat), .int .u64 ((vG o2.2.2.2.2.1.2.1) 2 : Nat), .int .u64 ((vG o2.2.2.2.2.1.2.1) 3 : Nat), .int .i64 o2.2.2.2.2.1.2.2.1.1, .int .i64 o2.2.2.2.2.1.2.2.1.2.1, .int .i64 o2.2.2.2.2.1.2.2.1.2.2, .slice qv Rx.length cv, .slice ql o2.2.2.2.2.2.length cl]
  go_upto_region 14 with (first | (refine wpList_store_row (cells := #[.string t2.1, .slice qx t2.2.1.length cx, .string t2.2.2]) rfl 24 _ _ rfl w12.heap.size rfl rfl _ _ r1 (by kernel_rfl) rfl (by first | rfl | decide | simp [Value.oneCell']) ?_) | (refine wpList_store_row (cells := #[.int .i64 o2.1, .int .u64 (o2.2.1.1 : Nat), .int .u64 (o2.2.1.2 : Nat), .string o2.2.2.1, .int .u64 ((vG o2.2.2.2.1) 0 : Nat), .int .u64 ((vG o2.2.2.2.1) 1 : Nat), .int .u64 ((vG o2.2.2.2.1) 2 : Nat), .int .u64 ((vG o2.2.2.2.1) 3 : Nat), .string o2.2.2.2.2.1.1, .int .u64 ((vG o2.2.2.2.2.1.2.1) 0 : Nat), .int .u64 ((vG o2.2.2.2.2.1.2.1) 1 : Nat), .int .u64 ((vG o2.2.2.2.2.1.2.1) 2 : Nat), .int .u64 ((vG o2.2.2.2.2.1.2.1) 3 : Nat), .int .i64 o2.2.2.2.2.1.2.2.1.1, .int .i64 o2.2.2.2.2.1.2.2.1.2.1, .int .i64 o2.2.2.2.2.1.2.2.1.2.2, .slice qv Rx.length cv, .slice ql o2.2.2.2.2.2.length cl]) rfl 33 _ _ rfl (w12.heap.size + 1) rfl rfl _ _ r3 (by kernel_rfl) rfl (by first | rfl | decide | simp [Value.oneCell']) ?_))
  try rw [hW_]
  clear r1 r3 hW_
  replace hE := hE.trans e_
  replace hA := hA.ext e_
  replace hV := hV.ext e_
  replace hT := hT.ext e_
  replace hB := hB.ext e_
  replace hB12 := hB12.ext e_
  replace hB13 := hB13.ext e_
  replace hT1 := hT1.ext e_
  replace hV1 := hV1.ext e_
  replace hT_ := hT_.ext e_
  replace hV_ := hV_.ext e_
  clear e_
  generalize w12.heap.size + 1 = b19 at *
  generalize w12.heap.size = b18 at *
  clear hT_ hV_ hB18 hB19
  have CTa := fun T U (h : Ext w U) (h1 : TokAt U T t) => CT.out T t U h h1
  have CVa := fun V U (h : Ext w U) (h1 : OpAt U V o) => CV.out V o U h h1
  have CVb := fun V U (h : Ext w U) (h1 : OpAt U V p) => CV.out V p U h h1
  rw [hpp.out] at CVb
  replace CTa := Lib.hid CTa
  replace CVa := Lib.hid CVa
  replace CVb := Lib.hid CVb
  try simp only [Act.put, List.setIfInBounds_toArray, List.set_cons_succ, List.set_cons_zero]
  refine Dm.wp_region_ext 27 (Dm.bits 27 0) (Ext.refl w13) (by kernel_rfl) (by kernel_rfl) (by kernel_rfl) ?_
  refine tks (List.range' 0 27) 134217727 0 (hq := by intro x; (iterate 13 go_big_quiet_step (fail)); go_big_quiet_want; refine quiet_load_row 24 _ rfl b12 rfl _ _ _ _ (fun _ hw => by obtain ⟨_, rfl⟩ := hw; exact hB12.ext (by repeat (first | assumption | exact Ext.refl _ | refine Ext.trans ?_ (ext_grow _ _)))) Tryz.underlying24 rfl (by kernel_rfl) ?_; simp only [Act.put, List.setIfInBounds_toArray, List.set_cons_succ, List.set_cons_zero]; go_big_quiet_on; go_big_quiet_step ((first | (go_at_call 26; with_reducible first | exact Calls.quietE (CTa.out _ _ (hE.trans (by repeat (first | assumption | exact Ext.refl _ | refine Ext.trans ?_ (ext_grow _ _)))) (hT1.ext (by repeat (first | assumption | exact Ext.refl _ | refine Ext.trans ?_ (ext_grow _ _))))) | exact Calls.quietE (CTa.out _ _ (hE.trans (by repeat (first | assumption | exact Ext.refl _ | refine Ext.trans ?_ (ext_grow _ _)))) (hT.ext (by repeat (first | assumption | exact Ext.refl _ | refine Ext.trans ?_ (ext_grow _ _)))))) | (go_at_call 27; with_reducible first | exact Calls.quietE (CVb.out _ _ (hE.trans (by repeat (first | assumption | exact Ext.refl _ | refine Ext.trans ?_ (ext_grow _ _)))) (hV1.ext (by repeat (first | assumption | exact Ext.refl _ | refine Ext.trans ?_ (ext_grow _ _))))) | exact Calls.quietE (CVa.out _ _ (hE.trans (by repeat (first | assumption | exact Ext.refl _ | refine Ext.trans ?_ (ext_grow _ _)))) (hV.ext (by repeat (first | assumption | exact Ext.refl _ | refine Ext.trans ?_ (ext_grow _ _)))))))); go_big_quiet_want; refine quiet_load_row 24 _ rfl bT rfl _ _ _ _ (fun _ hw => by obtain ⟨_, rfl⟩ := hw; exact hB.ext (by repeat (first | assumption | exact Ext.refl _ | refine Ext.trans ?_ (ext_grow _ _)))) Tryz.underlying24 rfl (by kernel_rfl) ?_; simp only [Act.put, List.setIfInBounds_toArray, List.set_cons_succ, List.set_cons_zero]; go_big_quiet_on; go_big_quiet_step ((first | (go_at_call 26; with_reducible first | exact Calls.quietE (CTa.out _ _ (hE.trans (by repeat (first | assumption | exact Ext.refl _ | refine Ext.trans ?_ (ext_grow _ _)))) (hT1.ext (by repeat (first | assumption | exact Ext.refl _ | refine Ext.trans ?_ (ext_grow _ _))))) | exact Calls.quietE (CTa.out _ _ (hE.trans (by repeat (first | assumption | exact Ext.refl _ | refine Ext.trans ?_ (ext_grow _ _)))) (hT.ext (by repeat (first | assumption | exact Ext.refl _ | refine Ext.trans ?_ (ext_grow _ _)))))) | (go_at_call 27; with_reducible first | exact Calls.quietE (CVb.out _ _ (hE.trans (by repeat (first | assumption | exact Ext.refl _ | refine Ext.trans ?_ (ext_grow _ _)))) (hV1.ext (by repeat (first | assumption | exact Ext.refl _ | refine Ext.trans ?_ (ext_grow _ _))))) | exact Calls.quietE (CVa.out _ _ (hE.trans (by repeat (first | assumption | exact Ext.refl _ | refine Ext.trans ?_ (ext_grow _ _)))) (hV.ext (by repeat (first | assumption | exact Ext.refl _ | refine Ext.trans ?_ (ext_grow _ _)))))))); (iterate 3 go_big_quiet_step (fail)); go_big_quiet_want; refine quiet_load_row 33 _ rfl b13 rfl _ _ _ _ (fun _ hw => by obtain ⟨_, rfl⟩ := hw; exact hB13.ext (by repeat (first | assumption | exact Ext.refl _ | refine Ext.trans ?_ (ext_grow _ _)))) Tryz.underlying33 rfl (by kernel_rfl) ?_; simp only [Act.put, List.setIfInBounds_toArray, List.set_cons_succ, List.set_cons_zero]; go_big_quiet_on; go_big_quiet_step ((first | (go_at_call 26; with_reducible first | exact Calls.quietE (CTa.out _ _ (hE.trans (by repeat (first | assumption | exact Ext.refl _ | refine Ext.trans ?_ (ext_grow _ _)))) (hT1.ext (by repeat (first | assumption | exact Ext.refl _ | refine Ext.trans ?_ (ext_grow _ _))))) | exact Calls.quietE (CTa.out _ _ (hE.trans (by repeat (first | assumption | exact Ext.refl _ | refine Ext.trans ?_ (ext_grow _ _)))) (hT.ext (by repeat (first | assumption | exact Ext.refl _ | refine Ext.trans ?_ (ext_grow _ _)))))) | (go_at_call 27; with_reducible first | exact Calls.quietE (CVb.out _ _ (hE.trans (by repeat (first | assumption | exact Ext.refl _ | refine Ext.trans ?_ (ext_grow _ _)))) (hV1.ext (by repeat (first | assumption | exact Ext.refl _ | refine Ext.trans ?_ (ext_grow _ _))))) | exact Calls.quietE (CVa.out _ _ (hE.trans (by repeat (first | assumption | exact Ext.refl _ | refine Ext.trans ?_ (ext_grow _ _)))) (hV.ext (by repeat (first | assumption | exact Ext.refl _ | refine Ext.trans ?_ (ext_grow _ _)))))))); go_big_quiet_want; refine quiet_load_row 33 _ rfl bA rfl _ _ _ _ (fun _ hw => by obtain ⟨_, rfl⟩ := hw; exact hA.ext (by repeat (first | assumption | exact Ext.refl _ | refine Ext.trans ?_ (ext_grow _ _)))) Tryz.underlying33 rfl (by kernel_rfl) ?_; simp only [Act.put, List.setIfInBounds_toArray, List.set_cons_succ, List.set_cons_zero]; go_big_quiet_on; go_big_quiet_step ((first | (go_at_call 26; with_reducible first | exact Calls.quietE (CTa.out _ _ (hE.trans (by repeat (first | assumption | exact Ext.refl _ | refine Ext.trans ?_ (ext_grow _ _)))) (hT1.ext (by repeat (first | assumption | exact Ext.refl _ | refine Ext.trans ?_ (ext_grow _ _))))) | exact Calls.quietE (CTa.out _ _ (hE.trans (by repeat (first | assumption | exact Ext.refl _ | refine Ext.trans ?_ (ext_grow _ _)))) (hT.ext (by repeat (first | assumption | exact Ext.refl _ | refine Ext.trans ?_ (ext_grow _ _)))))) | (go_at_call 27; with_reducible first | exact Calls.quietE (CVb.out _ _ (hE.trans (by repeat (first | assumption | exact Ext.refl _ | refine Ext.trans ?_ (ext_grow _ _)))) (hV1.ext (by repeat (first | assumption | exact Ext.refl _ | refine Ext.trans ?_ (ext_grow _ _))))) | exact Calls.quietE (CVa.out _ _ (hE.trans (by repeat (first | assumption | exact Ext.refl _ | refine Ext.trans ?_ (ext_grow _ _)))) (hV.ext (by repeat (first | assumption | exact Ext.refl _ | refine Ext.trans ?_ (ext_grow _ _)))))))); (iterate 3 go_big_quiet_step (fail)); exact wpQuiet_nil rfl) ?_
  refine Dm.wpE_done (by kernel_rfl) (Ext.refl w13) (fun w1a hx1a => ?_)
  have hX1a := Ext.trans (Ext.refl w13) hx1a
  go_wp2
  go_ret
  exact ⟨by simp, hE.trans hX1a⟩
end Go.Proofs.YtefjdmjkofaajaaGreatDoor
