/- Texts of the base. -/

import Derived.Test.YtefjdmjkofaajaaGreatDoorT20
import Derived.Test.YtefjdmjkofaajaaGreatDoorT26
import Derived.Test.YtefjdmjkofaajaaGreatDoorT8
import Derived.Test.YtefjdmjkofaajaaGreatDoorT24
import Derived.Test.YtefjdmjkofaajaaGreatDoorT36
import Derived.Test.YtefjdmjkofaajaaGreatDoorT32
import Derived.Test.YtefjdmjkofaajaaGreatDoorT30
import Derived.Test.YtefjdmjkofaajaaGreatDoorT31
import Derived.Test.YtefjdmjkofaajaaGreatDoorT17
import Derived.Deep.Cut
namespace Go.Proofs.YtefjdmjkofaajaaGreatDoor
open Go.RowKit Go.Dm
set_option maxHeartbeats 4000000 in
set_option maxRecDepth 100000 in
theorem put18_w (k : Nat) (i n : Nat) (p : ByteArray) (d : Vc) (s : ByteArray) (e : Vc) (m : Nums3) (v l : Value) (R : List RowS) (P : List PairS) (w : World)
  (hk13 : k ≤ 13) (hi : U64 i) (hn : U64 n) (hp98 : p.size ≤ 98) (hd : OkV d) (hs : s.size ≤ 1048576) (he : OkV e) (hm : R.length ≤ 35184372088832) (hf : FitR R) (hx : Terms w v R) (hfp : FitP P) (hy : Pairs w l P)
  (hro : rightO (↑k, (i, n), p, d, (s, e, m, R.map rowT), P) = true) :
  Calls Tryz.prog 23 #[opV k i n p (vG d) s (vG e) m v l] w fun e_ w' => e_ = .returned (.string ⟨(putO (↑k, (i, n), p, d, (s, e, m, R.map rowT), P)).toArray⟩) ∧ Ext w w' := by
 obtain ⟨qv, cv, rfl, _, _⟩ := hx.shape
 obtain ⟨ql, cl, rfl, _, _⟩ := hy.shape
 have CR := fun U (h : Ext w U) => right18_w k i n p d s e m _ _ R P U hd hs he hm hf (hx.ext h) hfp (hy.ext h)
 rw [hro] at CR
 have hU : U64 k := Nat.lt_of_le_of_lt hk13 (by decide)
 have C0 := fun U => rput_w k U hU
 have C1 := fun U => rput_w i U hi
 have C2 := fun U => rput_w n U hn
 have C3 := fun U => rputtext_w p U (by omega)
 have C4 := fun U => r03put_w d hd U
 have C5 := fun U (h : Ext w U) => rputx_w s e m _ R U hs he hf (hx.ext h)
 have C6 := fun U (h : Ext w U) => mlput_w P _ U hfp (hy.ext h)
 have hput : ∀ S : ByteArray, S.data.toList = ((⟨(putL k).toArray⟩ : ByteArray).data.toList ++ (cond ((knownF k).getD noFld).1 (⟨(putL i).toArray⟩ : ByteArray).data.toList [] ++ (cond ((knownF k).getD noFld).2.1 (⟨(putL n).toArray⟩ : ByteArray).data.toList [] ++ (cond ((knownF k).getD noFld).2.2.1 (⟨(putT p.data.toList).toArray⟩ : ByteArray).data.toList [] ++ (cond ((knownF k).getD noFld).2.2.2.1 (⟨(putV d).toArray⟩ : ByteArray).data.toList [] ++ (cond ((knownF k).getD noFld).2.2.2.2.1 (⟨(putX (s, e, m, R.map rowT)).toArray⟩ : ByteArray).data.toList [] ++ cond ((knownF k).getD noFld).2.2.2.2.2 (⟨(putLab (labL P)).toArray⟩ : ByteArray).data.toList [])))))) → (⟨(putO (↑k, (i, n), p, d, (s, e, m, R.map rowT), P)).toArray⟩ : ByteArray) = S := fun S h => by
  refine (mk_bytes ?_).symm
  rw [h]
  unfold putO putsOf
  rw [if_pos hro]
  simp
 have z0 : (⟨(putL k).toArray⟩ : ByteArray).size ≤ 1200 := by rw [size_len]; have := putL_ten hU; show (putL k).length ≤ _; omega
 have z1 : (⟨(putL i).toArray⟩ : ByteArray).size ≤ 1200 := by rw [size_len]; have := putL_ten hi; show (putL i).length ≤ _; omega
 have z2 : (⟨(putL n).toArray⟩ : ByteArray).size ≤ 1200 := by rw [size_len]; have := putL_ten hn; show (putL n).length ≤ _; omega
 have z3 : (⟨(putT p.data.toList).toArray⟩ : ByteArray).size ≤ 1200 := by
  rw [size_len]
  have := putL_ten (u := p.data.toList.length) (Nat.lt_of_le_of_lt (show p.data.toList.length ≤ 98 from hp98) (by decide))
  have h9 : p.data.toList.length ≤ 98 := hp98
  show (putL p.data.toList.length ++ p.data.toList).length ≤ _
  rw [List.length_append]; omega
 have z4 : (⟨(putV d).toArray⟩ : ByteArray).size ≤ 1200 := by rw [size_len]; have := putV_40 hd; show (putV d).length ≤ _; omega
 have z5 : (⟨(putX (s, e, m, R.map rowT)).toArray⟩ : ByteArray).size ≤ 1200 := by rw [size_len]; exact putX_short (x := (s, e, m, R.map rowT)) he
 have z6 : (⟨(putLab (labL P)).toArray⟩ : ByteArray).size ≤ 1200 := by rw [size_len]; have := putLab_700 (labL P); show (putLab (labL P)).length ≤ _; omega
 generalize (⟨(putL k).toArray⟩ : ByteArray) = T0 at *
 generalize (⟨(putL i).toArray⟩ : ByteArray) = T1 at *
 generalize (⟨(putL n).toArray⟩ : ByteArray) = T2 at *
 generalize (⟨(putT p.data.toList).toArray⟩ : ByteArray) = T3 at *
 generalize (⟨(putV d).toArray⟩ : ByteArray) = T4 at *
 generalize (⟨(putX (s, e, m, R.map rowT)).toArray⟩ : ByteArray) = T5 at *
 generalize (⟨(putLab (labL P)).toArray⟩ : ByteArray) = T6 at *
 generalize (⟨(putO (↑k, (i, n), p, d, (s, e, m, R.map rowT), P)).toArray⟩ : ByteArray) = TT at *
 have hz : ∃ f, knownF (k : Int) = some f := by
  cases h : knownF (k : Int) with
  | some f => exact ⟨f, rfl⟩
  | none => unfold rightO at hro; simp only [h] at hro; cases hro
 obtain ⟨f, hk⟩ := hz
 rw [hk] at hput
 simp only [Option.getD_some] at hput
 have hfl := flags18 hk
 have hfi := knownF_is hk
 have hkr := knownF_range hk
 clear hk hro
 have FF := fun (f : FuncId) {b : Bool} (h : pick18 f (id18 k, n18 k, path18 k, v18 k, x18 k, labels18 k) = some b) U => flag18_w k h U
 generalize id18 k = b0 at *
 generalize n18 k = b1 at *
 generalize path18 k = b2 at *
 generalize v18 k = b3 at *
 generalize x18 k = b4 at *
 generalize labels18 k = b5 at *
 subst hfl
 simp only at hput
 unfold vVal vF at C4
 unfold spVal at C5
 unfold opV at CR ⊢
 obtain ⟨w1, hW1, hO, hE, -⟩ := new_row w 45 [.int .i64 (k : Nat), .int .u64 (i : Nat), .int .u64 (n : Nat), .string p, .int .u64 (vG d 0 : Nat), .int .u64 (vG d 1 : Nat), .int .u64 (vG d 2 : Nat), .int .u64 (vG d 3 : Nat), .string s, .int .u64 (vG e 0 : Nat), .int .u64 (vG e 1 : Nat), .int .u64 (vG e 2 : Nat), .int .u64 (vG e 3 : Nat), .int .i64 m.1, .int .i64 m.2.1, .int .i64 m.2.2, .slice qv R.length cv, .slice ql P.length cl]
 obtain ⟨bO, hbO⟩ : ∃ x, w.heap.size = x := ⟨_, rfl⟩
 have hO1 := hO.at 0 rfl
 have hl1 := hO.lt
 rw [hbO] at hO hO1 hl1
 replace hput := Lib.hid hput
 replace CR := Lib.hid CR
 replace C0 := Lib.hid C0
 replace C1 := Lib.hid C1
 replace C2 := Lib.hid C2
 replace C3 := Lib.hid C3
 replace C4 := Lib.hid C4
 replace C5 := Lib.hid C5
 replace C6 := Lib.hid C6
 replace FF := Lib.hid FF
 go_enter Tryz.func23, Tryz.ntmps23
 go_upto_region 1 with fail
 clear hW1 hbO hO1 hl1
 rcases hfi with h | h | h | h | h | h | h | h <;> (simp only [Prod.mk.injEq] at h; obtain ⟨rfl, rfl, rfl, rfl, rfl, rfl⟩ := h)
 ·have ol := hO.lt
  have o0 := hO.at 0 rfl
  go_wp2_with (first | (refine wpList_load_row rfl 45 _ rfl bO rfl _ _ _ _ hO Tryz.underlying45 rfl (by kernel_rfl) ?_) | ((first | go_at_call 45 | go_at_call 46 | go_at_call 47 | go_at_call 49 | go_at_call 51 | go_at_call 53); refine (FF.out _ (by rfl) _).mono ?_; rintro e_ w' ⟨rfl, rfl⟩))
  refine (CR.out _ hE).mono ?_; rintro e_ w2 ⟨rfl, h_⟩
  replace hO := hO.ext h_
  replace hE := hE.trans h_
  clear h_
  clear ol o0
  have ol := hO.lt
  have o0 := hO.at 0 rfl
  go_wp2_with (first | (refine wpList_load_row rfl 45 _ rfl bO rfl _ _ _ _ hO Tryz.underlying45 rfl (by kernel_rfl) ?_) | ((first | go_at_call 45 | go_at_call 46 | go_at_call 47 | go_at_call 49 | go_at_call 51 | go_at_call 53); refine (FF.out _ (by rfl) _).mono ?_; rintro e_ w' ⟨rfl, rfl⟩))
  refine (C0.out _).mono ?_; rintro e_ w3 ⟨rfl, h_⟩
  replace hO := hO.ext h_
  replace hE := hE.trans h_
  clear h_
  clear ol o0
  have ol := hO.lt
  have o0 := hO.at 0 rfl
  have o8 := hO.at 8 rfl
  have o9 := hO.at 9 rfl
  have o10 := hO.at 10 rfl
  have o11 := hO.at 11 rfl
  have o12 := hO.at 12 rfl
  have o13 := hO.at 13 rfl
  have o14 := hO.at 14 rfl
  have o15 := hO.at 15 rfl
  have o16 := hO.at 16 rfl
  go_wp2_with (first | (refine wpList_load_row rfl 45 _ rfl bO rfl _ _ _ _ hO Tryz.underlying45 rfl (by kernel_rfl) ?_) | ((first | go_at_call 45 | go_at_call 46 | go_at_call 47 | go_at_call 49 | go_at_call 51 | go_at_call 53); refine (FF.out _ (by rfl) _).mono ?_; rintro e_ w' ⟨rfl, rfl⟩))
  refine (C5.out _ hE).mono ?_; rintro e_ w4 ⟨rfl, h_⟩
  replace hO := hO.ext h_
  replace hE := hE.trans h_
  clear h_
  clear ol o0 o8 o9 o10 o11 o12 o13 o14 o15 o16
  have ol := hO.lt
  have o0 := hO.at 0 rfl
  go_wp2_with (first | (refine wpList_load_row rfl 45 _ rfl bO rfl _ _ _ _ hO Tryz.underlying45 rfl (by kernel_rfl) ?_) | ((first | go_at_call 45 | go_at_call 46 | go_at_call 47 | go_at_call 49 | go_at_call 51 | go_at_call 53); refine (FF.out _ (by rfl) _).mono ?_; rintro e_ w' ⟨rfl, rfl⟩))
  go_ret
  refine ⟨(congrArg (fun x => Ending.returned (Value.string x)) (hput.out _ ?_)).symm, hE⟩
  simp [data_append]
 ·have ol := hO.lt
  have o0 := hO.at 0 rfl
  go_wp2_with (first | (refine wpList_load_row rfl 45 _ rfl bO rfl _ _ _ _ hO Tryz.underlying45 rfl (by kernel_rfl) ?_) | ((first | go_at_call 45 | go_at_call 46 | go_at_call 47 | go_at_call 49 | go_at_call 51 | go_at_call 53); refine (FF.out _ (by rfl) _).mono ?_; rintro e_ w' ⟨rfl, rfl⟩))
  refine (CR.out _ hE).mono ?_; rintro e_ w2 ⟨rfl, h_⟩
  replace hO := hO.ext h_
  replace hE := hE.trans h_
  clear h_
  clear ol o0
  have ol := hO.lt
  have o0 := hO.at 0 rfl
  go_wp2_with (first | (refine wpList_load_row rfl 45 _ rfl bO rfl _ _ _ _ hO Tryz.underlying45 rfl (by kernel_rfl) ?_) | ((first | go_at_call 45 | go_at_call 46 | go_at_call 47 | go_at_call 49 | go_at_call 51 | go_at_call 53); refine (FF.out _ (by rfl) _).mono ?_; rintro e_ w' ⟨rfl, rfl⟩))
  refine (C0.out _).mono ?_; rintro e_ w3 ⟨rfl, h_⟩
  replace hO := hO.ext h_
  replace hE := hE.trans h_
  clear h_
  clear ol o0
  have ol := hO.lt
  have o0 := hO.at 0 rfl
  have o1 := hO.at 1 rfl
  go_wp2_with (first | (refine wpList_load_row rfl 45 _ rfl bO rfl _ _ _ _ hO Tryz.underlying45 rfl (by kernel_rfl) ?_) | ((first | go_at_call 45 | go_at_call 46 | go_at_call 47 | go_at_call 49 | go_at_call 51 | go_at_call 53); refine (FF.out _ (by rfl) _).mono ?_; rintro e_ w' ⟨rfl, rfl⟩))
  refine (C1.out _).mono ?_; rintro e_ w4 ⟨rfl, h_⟩
  replace hO := hO.ext h_
  replace hE := hE.trans h_
  clear h_
  clear ol o0 o1
  have ol := hO.lt
  have o0 := hO.at 0 rfl
  go_wp2_with (first | (refine wpList_load_row rfl 45 _ rfl bO rfl _ _ _ _ hO Tryz.underlying45 rfl (by kernel_rfl) ?_) | ((first | go_at_call 45 | go_at_call 46 | go_at_call 47 | go_at_call 49 | go_at_call 51 | go_at_call 53); refine (FF.out _ (by rfl) _).mono ?_; rintro e_ w' ⟨rfl, rfl⟩))
  go_ret
  refine ⟨(congrArg (fun x => Ending.returned (Value.string x)) (hput.out _ ?_)).symm, hE⟩
  simp [data_append]
 ·have ol := hO.lt
  have o0 := hO.at 0 rfl
  go_wp2_with (first | (refine wpList_load_row rfl 45 _ rfl bO rfl _ _ _ _ hO Tryz.underlying45 rfl (by kernel_rfl) ?_) | ((first | go_at_call 45 | go_at_call 46 | go_at_call 47 | go_at_call 49 | go_at_call 51 | go_at_call 53); refine (FF.out _ (by rfl) _).mono ?_; rintro e_ w' ⟨rfl, rfl⟩))
  refine (CR.out _ hE).mono ?_; rintro e_ w2 ⟨rfl, h_⟩
  replace hO := hO.ext h_
  replace hE := hE.trans h_
  clear h_
  clear ol o0
  have ol := hO.lt
  have o0 := hO.at 0 rfl
  go_wp2_with (first | (refine wpList_load_row rfl 45 _ rfl bO rfl _ _ _ _ hO Tryz.underlying45 rfl (by kernel_rfl) ?_) | ((first | go_at_call 45 | go_at_call 46 | go_at_call 47 | go_at_call 49 | go_at_call 51 | go_at_call 53); refine (FF.out _ (by rfl) _).mono ?_; rintro e_ w' ⟨rfl, rfl⟩))
  refine (C0.out _).mono ?_; rintro e_ w3 ⟨rfl, h_⟩
  replace hO := hO.ext h_
  replace hE := hE.trans h_
  clear h_
  clear ol o0
  have ol := hO.lt
  have o0 := hO.at 0 rfl
  have o3 := hO.at 3 rfl
  go_wp2_with (first | (refine wpList_load_row rfl 45 _ rfl bO rfl _ _ _ _ hO Tryz.underlying45 rfl (by kernel_rfl) ?_) | ((first | go_at_call 45 | go_at_call 46 | go_at_call 47 | go_at_call 49 | go_at_call 51 | go_at_call 53); refine (FF.out _ (by rfl) _).mono ?_; rintro e_ w' ⟨rfl, rfl⟩))
  refine (C3.out _).mono ?_; rintro e_ w4 ⟨rfl, h_⟩
  replace hO := hO.ext h_
  replace hE := hE.trans h_
  clear h_
  clear ol o0 o3
  have ol := hO.lt
  have o0 := hO.at 0 rfl
  have o4 := hO.at 4 rfl
  have o5 := hO.at 5 rfl
  have o6 := hO.at 6 rfl
  have o7 := hO.at 7 rfl
  go_wp2_with (first | (refine wpList_load_row rfl 45 _ rfl bO rfl _ _ _ _ hO Tryz.underlying45 rfl (by kernel_rfl) ?_) | ((first | go_at_call 45 | go_at_call 46 | go_at_call 47 | go_at_call 49 | go_at_call 51 | go_at_call 53); refine (FF.out _ (by rfl) _).mono ?_; rintro e_ w' ⟨rfl, rfl⟩))
  refine (C4.out _).mono ?_; rintro e_ w5 ⟨rfl, h_⟩
  replace hO := hO.ext h_
  replace hE := hE.trans h_
  clear h_
  clear ol o0 o4 o5 o6 o7
  have ol := hO.lt
  have o0 := hO.at 0 rfl
  go_wp2_with (first | (refine wpList_load_row rfl 45 _ rfl bO rfl _ _ _ _ hO Tryz.underlying45 rfl (by kernel_rfl) ?_) | ((first | go_at_call 45 | go_at_call 46 | go_at_call 47 | go_at_call 49 | go_at_call 51 | go_at_call 53); refine (FF.out _ (by rfl) _).mono ?_; rintro e_ w' ⟨rfl, rfl⟩))
  go_ret
  refine ⟨(congrArg (fun x => Ending.returned (Value.string x)) (hput.out _ ?_)).symm, hE⟩
  simp [data_append]
 ·have ol := hO.lt
  have o0 := hO.at 0 rfl
  go_wp2_with (first | (refine wpList_load_row rfl 45 _ rfl bO rfl _ _ _ _ hO Tryz.underlying45 rfl (by kernel_rfl) ?_) | ((first | go_at_call 45 | go_at_call 46 | go_at_call 47 | go_at_call 49 | go_at_call 51 | go_at_call 53); refine (FF.out _ (by rfl) _).mono ?_; rintro e_ w' ⟨rfl, rfl⟩))
  refine (CR.out _ hE).mono ?_; rintro e_ w2 ⟨rfl, h_⟩
  replace hO := hO.ext h_
  replace hE := hE.trans h_
  clear h_
  clear ol o0
  have ol := hO.lt
  have o0 := hO.at 0 rfl
  go_wp2_with (first | (refine wpList_load_row rfl 45 _ rfl bO rfl _ _ _ _ hO Tryz.underlying45 rfl (by kernel_rfl) ?_) | ((first | go_at_call 45 | go_at_call 46 | go_at_call 47 | go_at_call 49 | go_at_call 51 | go_at_call 53); refine (FF.out _ (by rfl) _).mono ?_; rintro e_ w' ⟨rfl, rfl⟩))
  refine (C0.out _).mono ?_; rintro e_ w3 ⟨rfl, h_⟩
  replace hO := hO.ext h_
  replace hE := hE.trans h_
  clear h_
  clear ol o0
  have ol := hO.lt
  have o0 := hO.at 0 rfl
  have o2 := hO.at 2 rfl
  go_wp2_with (first | (refine wpList_load_row rfl 45 _ rfl bO rfl _ _ _ _ hO Tryz.underlying45 rfl (by kernel_rfl) ?_) | ((first | go_at_call 45 | go_at_call 46 | go_at_call 47 | go_at_call 49 | go_at_call 51 | go_at_call 53); refine (FF.out _ (by rfl) _).mono ?_; rintro e_ w' ⟨rfl, rfl⟩))
  refine (C2.out _).mono ?_; rintro e_ w4 ⟨rfl, h_⟩
  replace hO := hO.ext h_
  replace hE := hE.trans h_
  clear h_
  clear ol o0 o2
  have ol := hO.lt
  have o0 := hO.at 0 rfl
  go_wp2_with (first | (refine wpList_load_row rfl 45 _ rfl bO rfl _ _ _ _ hO Tryz.underlying45 rfl (by kernel_rfl) ?_) | ((first | go_at_call 45 | go_at_call 46 | go_at_call 47 | go_at_call 49 | go_at_call 51 | go_at_call 53); refine (FF.out _ (by rfl) _).mono ?_; rintro e_ w' ⟨rfl, rfl⟩))
  go_ret
  refine ⟨(congrArg (fun x => Ending.returned (Value.string x)) (hput.out _ ?_)).symm, hE⟩
  simp [data_append]
 ·have ol := hO.lt
  have o0 := hO.at 0 rfl
  go_wp2_with (first | (refine wpList_load_row rfl 45 _ rfl bO rfl _ _ _ _ hO Tryz.underlying45 rfl (by kernel_rfl) ?_) | ((first | go_at_call 45 | go_at_call 46 | go_at_call 47 | go_at_call 49 | go_at_call 51 | go_at_call 53); refine (FF.out _ (by rfl) _).mono ?_; rintro e_ w' ⟨rfl, rfl⟩))
  refine (CR.out _ hE).mono ?_; rintro e_ w2 ⟨rfl, h_⟩
  replace hO := hO.ext h_
  replace hE := hE.trans h_
  clear h_
  clear ol o0
  have ol := hO.lt
  have o0 := hO.at 0 rfl
  go_wp2_with (first | (refine wpList_load_row rfl 45 _ rfl bO rfl _ _ _ _ hO Tryz.underlying45 rfl (by kernel_rfl) ?_) | ((first | go_at_call 45 | go_at_call 46 | go_at_call 47 | go_at_call 49 | go_at_call 51 | go_at_call 53); refine (FF.out _ (by rfl) _).mono ?_; rintro e_ w' ⟨rfl, rfl⟩))
  refine (C0.out _).mono ?_; rintro e_ w3 ⟨rfl, h_⟩
  replace hO := hO.ext h_
  replace hE := hE.trans h_
  clear h_
  clear ol o0
  have ol := hO.lt
  have o0 := hO.at 0 rfl
  have o3 := hO.at 3 rfl
  go_wp2_with (first | (refine wpList_load_row rfl 45 _ rfl bO rfl _ _ _ _ hO Tryz.underlying45 rfl (by kernel_rfl) ?_) | ((first | go_at_call 45 | go_at_call 46 | go_at_call 47 | go_at_call 49 | go_at_call 51 | go_at_call 53); refine (FF.out _ (by rfl) _).mono ?_; rintro e_ w' ⟨rfl, rfl⟩))
  refine (C3.out _).mono ?_; rintro e_ w4 ⟨rfl, h_⟩
  replace hO := hO.ext h_
  replace hE := hE.trans h_
  clear h_
  clear ol o0 o3
  have ol := hO.lt
  have o0 := hO.at 0 rfl
  go_wp2_with (first | (refine wpList_load_row rfl 45 _ rfl bO rfl _ _ _ _ hO Tryz.underlying45 rfl (by kernel_rfl) ?_) | ((first | go_at_call 45 | go_at_call 46 | go_at_call 47 | go_at_call 49 | go_at_call 51 | go_at_call 53); refine (FF.out _ (by rfl) _).mono ?_; rintro e_ w' ⟨rfl, rfl⟩))
  go_ret
  refine ⟨(congrArg (fun x => Ending.returned (Value.string x)) (hput.out _ ?_)).symm, hE⟩
  simp [data_append]
 ·have ol := hO.lt
  have o0 := hO.at 0 rfl
  go_wp2_with (first | (refine wpList_load_row rfl 45 _ rfl bO rfl _ _ _ _ hO Tryz.underlying45 rfl (by kernel_rfl) ?_) | ((first | go_at_call 45 | go_at_call 46 | go_at_call 47 | go_at_call 49 | go_at_call 51 | go_at_call 53); refine (FF.out _ (by rfl) _).mono ?_; rintro e_ w' ⟨rfl, rfl⟩))
  refine (CR.out _ hE).mono ?_; rintro e_ w2 ⟨rfl, h_⟩
  replace hO := hO.ext h_
  replace hE := hE.trans h_
  clear h_
  clear ol o0
  have ol := hO.lt
  have o0 := hO.at 0 rfl
  go_wp2_with (first | (refine wpList_load_row rfl 45 _ rfl bO rfl _ _ _ _ hO Tryz.underlying45 rfl (by kernel_rfl) ?_) | ((first | go_at_call 45 | go_at_call 46 | go_at_call 47 | go_at_call 49 | go_at_call 51 | go_at_call 53); refine (FF.out _ (by rfl) _).mono ?_; rintro e_ w' ⟨rfl, rfl⟩))
  refine (C0.out _).mono ?_; rintro e_ w3 ⟨rfl, h_⟩
  replace hO := hO.ext h_
  replace hE := hE.trans h_
  clear h_
  clear ol o0
  have ol := hO.lt
  have o0 := hO.at 0 rfl
  have o4 := hO.at 4 rfl
  have o5 := hO.at 5 rfl
  have o6 := hO.at 6 rfl
  have o7 := hO.at 7 rfl
  go_wp2_with (first | (refine wpList_load_row rfl 45 _ rfl bO rfl _ _ _ _ hO Tryz.underlying45 rfl (by kernel_rfl) ?_) | ((first | go_at_call 45 | go_at_call 46 | go_at_call 47 | go_at_call 49 | go_at_call 51 | go_at_call 53); refine (FF.out _ (by rfl) _).mono ?_; rintro e_ w' ⟨rfl, rfl⟩))
  refine (C4.out _).mono ?_; rintro e_ w4 ⟨rfl, h_⟩
  replace hO := hO.ext h_
  replace hE := hE.trans h_
  clear h_
  clear ol o0 o4 o5 o6 o7
  have ol := hO.lt
  have o0 := hO.at 0 rfl
  go_wp2_with (first | (refine wpList_load_row rfl 45 _ rfl bO rfl _ _ _ _ hO Tryz.underlying45 rfl (by kernel_rfl) ?_) | ((first | go_at_call 45 | go_at_call 46 | go_at_call 47 | go_at_call 49 | go_at_call 51 | go_at_call 53); refine (FF.out _ (by rfl) _).mono ?_; rintro e_ w' ⟨rfl, rfl⟩))
  go_ret
  refine ⟨(congrArg (fun x => Ending.returned (Value.string x)) (hput.out _ ?_)).symm, hE⟩
  simp [data_append]
 ·have ol := hO.lt
  have o0 := hO.at 0 rfl
  go_wp2_with (first | (refine wpList_load_row rfl 45 _ rfl bO rfl _ _ _ _ hO Tryz.underlying45 rfl (by kernel_rfl) ?_) | ((first | go_at_call 45 | go_at_call 46 | go_at_call 47 | go_at_call 49 | go_at_call 51 | go_at_call 53); refine (FF.out _ (by rfl) _).mono ?_; rintro e_ w' ⟨rfl, rfl⟩))
  refine (CR.out _ hE).mono ?_; rintro e_ w2 ⟨rfl, h_⟩
  replace hO := hO.ext h_
  replace hE := hE.trans h_
  clear h_
  clear ol o0
  have ol := hO.lt
  have o0 := hO.at 0 rfl
  go_wp2_with (first | (refine wpList_load_row rfl 45 _ rfl bO rfl _ _ _ _ hO Tryz.underlying45 rfl (by kernel_rfl) ?_) | ((first | go_at_call 45 | go_at_call 46 | go_at_call 47 | go_at_call 49 | go_at_call 51 | go_at_call 53); refine (FF.out _ (by rfl) _).mono ?_; rintro e_ w' ⟨rfl, rfl⟩))
  refine (C0.out _).mono ?_; rintro e_ w3 ⟨rfl, h_⟩
  replace hO := hO.ext h_
  replace hE := hE.trans h_
  clear h_
  clear ol o0
  have ol := hO.lt
  have o0 := hO.at 0 rfl
  have o3 := hO.at 3 rfl
  go_wp2_with (first | (refine wpList_load_row rfl 45 _ rfl bO rfl _ _ _ _ hO Tryz.underlying45 rfl (by kernel_rfl) ?_) | ((first | go_at_call 45 | go_at_call 46 | go_at_call 47 | go_at_call 49 | go_at_call 51 | go_at_call 53); refine (FF.out _ (by rfl) _).mono ?_; rintro e_ w' ⟨rfl, rfl⟩))
  refine (C3.out _).mono ?_; rintro e_ w4 ⟨rfl, h_⟩
  replace hO := hO.ext h_
  replace hE := hE.trans h_
  clear h_
  clear ol o0 o3
  have ol := hO.lt
  have o0 := hO.at 0 rfl
  have o4 := hO.at 4 rfl
  have o5 := hO.at 5 rfl
  have o6 := hO.at 6 rfl
  have o7 := hO.at 7 rfl
  go_wp2_with (first | (refine wpList_load_row rfl 45 _ rfl bO rfl _ _ _ _ hO Tryz.underlying45 rfl (by kernel_rfl) ?_) | ((first | go_at_call 45 | go_at_call 46 | go_at_call 47 | go_at_call 49 | go_at_call 51 | go_at_call 53); refine (FF.out _ (by rfl) _).mono ?_; rintro e_ w' ⟨rfl, rfl⟩))
  refine (C4.out _).mono ?_; rintro e_ w5 ⟨rfl, h_⟩
  replace hO := hO.ext h_
  replace hE := hE.trans h_
  clear h_
  clear ol o0 o4 o5 o6 o7
  have ol := hO.lt
  have o0 := hO.at 0 rfl
  have o17 := hO.at 17 rfl
  go_wp2_with (first | (refine wpList_load_row rfl 45 _ rfl bO rfl _ _ _ _ hO Tryz.underlying45 rfl (by kernel_rfl) ?_) | ((first | go_at_call 45 | go_at_call 46 | go_at_call 47 | go_at_call 49 | go_at_call 51 | go_at_call 53); refine (FF.out _ (by rfl) _).mono ?_; rintro e_ w' ⟨rfl, rfl⟩))
  refine (C6.out _ hE).mono ?_; rintro e_ w6 ⟨rfl, h_⟩
  replace hO := hO.ext h_
  replace hE := hE.trans h_
  clear h_
  clear ol o0 o17
  have ol := hO.lt
  have o0 := hO.at 0 rfl
  go_wp2_with (first | (refine wpList_load_row rfl 45 _ rfl bO rfl _ _ _ _ hO Tryz.underlying45 rfl (by kernel_rfl) ?_) | ((first | go_at_call 45 | go_at_call 46 | go_at_call 47 | go_at_call 49 | go_at_call 51 | go_at_call 53); refine (FF.out _ (by rfl) _).mono ?_; rintro e_ w' ⟨rfl, rfl⟩))
  go_ret
  refine ⟨(congrArg (fun x => Ending.returned (Value.string x)) (hput.out _ ?_)).symm, hE⟩
  simp [data_append]
 ·have ol := hO.lt
  have o0 := hO.at 0 rfl
  go_wp2_with (first | (refine wpList_load_row rfl 45 _ rfl bO rfl _ _ _ _ hO Tryz.underlying45 rfl (by kernel_rfl) ?_) | ((first | go_at_call 45 | go_at_call 46 | go_at_call 47 | go_at_call 49 | go_at_call 51 | go_at_call 53); refine (FF.out _ (by rfl) _).mono ?_; rintro e_ w' ⟨rfl, rfl⟩))
  refine (CR.out _ hE).mono ?_; rintro e_ w2 ⟨rfl, h_⟩
  replace hO := hO.ext h_
  replace hE := hE.trans h_
  clear h_
  clear ol o0
  have ol := hO.lt
  have o0 := hO.at 0 rfl
  go_wp2_with (first | (refine wpList_load_row rfl 45 _ rfl bO rfl _ _ _ _ hO Tryz.underlying45 rfl (by kernel_rfl) ?_) | ((first | go_at_call 45 | go_at_call 46 | go_at_call 47 | go_at_call 49 | go_at_call 51 | go_at_call 53); refine (FF.out _ (by rfl) _).mono ?_; rintro e_ w' ⟨rfl, rfl⟩))
  refine (C0.out _).mono ?_; rintro e_ w3 ⟨rfl, h_⟩
  replace hO := hO.ext h_
  replace hE := hE.trans h_
  clear h_
  clear ol o0
  have ol := hO.lt
  have o0 := hO.at 0 rfl
  go_wp2_with (first | (refine wpList_load_row rfl 45 _ rfl bO rfl _ _ _ _ hO Tryz.underlying45 rfl (by kernel_rfl) ?_) | ((first | go_at_call 45 | go_at_call 46 | go_at_call 47 | go_at_call 49 | go_at_call 51 | go_at_call 53); refine (FF.out _ (by rfl) _).mono ?_; rintro e_ w' ⟨rfl, rfl⟩))
  go_ret
  refine ⟨(congrArg (fun x => Ending.returned (Value.string x)) (hput.out _ ?_)).symm, hE⟩
  simp [data_append]
set_option maxHeartbeats 4000000 in
set_option maxRecDepth 100000 in
theorem rput18_w (k : Int) (i n : Nat) (p : ByteArray) (d : Vc) (s : ByteArray) (e : Vc) (m : Nums3) (v l : Value) (R : List RowS) (P : List PairS) (w : World)
  (hi : U64 i) (hn : U64 n) (hd : OkV d) (hs : s.size ≤ 1048576) (he : OkV e) (hm : R.length ≤ 35184372088832) (hf : FitR R) (hx : Terms w v R) (hfp : FitP P) (hy : Pairs w l P) :
  Calls Tryz.prog 23 #[opV k i n p (vG d) s (vG e) m v l] w fun e_ w' => e_ = .returned (.string ⟨(putO (k, (i, n), p, d, (s, e, m, R.map rowT), P)).toArray⟩) ∧ Ext w w' := by
 cases hro : rightO (k, (i, n), p, d, (s, e, m, R.map rowT), P) with
 | true =>
  obtain ⟨k', hk', h1, h13, h98⟩ := rightO_kind hro
  obtain rfl : k = (k' : Int) := hk'
  exact put18_w k' i n p d s e m v l R P w h13 hi hn h98 hd hs he hm hf hx hfp hy hro
 | false =>
  obtain ⟨qv, cv, rfl, _, _⟩ := hx.shape
  obtain ⟨ql, cl, rfl, _, _⟩ := hy.shape
  have CR := fun U (h : Ext w U) => right18_w k i n p d s e m _ _ R P U hd hs he hm hf (hx.ext h) hfp (hy.ext h)
  rw [hro] at CR
  have hp : Hid ((⟨(putO (k, (i, n), p, d, (s, e, m, R.map rowT), P)).toArray⟩ : ByteArray) = ⟨#[]⟩) := by
   show _ = _
   unfold putO
   rw [hro, if_neg (by decide)]
  generalize (⟨(putO (k, (i, n), p, d, (s, e, m, R.map rowT), P)).toArray⟩ : ByteArray) = TT at *
  unfold opV at CR ⊢
  obtain ⟨w1, hW1, hO, hE, -⟩ := new_row w 45 [.int .i64 k, .int .u64 (i : Nat), .int .u64 (n : Nat), .string p, .int .u64 (vG d 0 : Nat), .int .u64 (vG d 1 : Nat), .int .u64 (vG d 2 : Nat), .int .u64 (vG d 3 : Nat), .string s, .int .u64 (vG e 0 : Nat), .int .u64 (vG e 1 : Nat), .int .u64 (vG e 2 : Nat), .int .u64 (vG e 3 : Nat), .int .i64 m.1, .int .i64 m.2.1, .int .i64 m.2.2, .slice qv R.length cv, .slice ql P.length cl]
  obtain ⟨bO, hbO⟩ : ∃ x, w.heap.size = x := ⟨_, rfl⟩
  have hO1 := hO.at 0 rfl
  have hl1 := hO.lt
  rw [hbO] at hO hO1 hl1
  replace CR := Lib.hid CR
  clear hro
  go_enter Tryz.func23, Tryz.ntmps23
  go_upto_region 1 with fail
  clear hW1 hbO hO1
  go_wp2_with (refine wpList_load_row rfl 45 _ rfl bO rfl _ _ _ _ hO Tryz.underlying45 rfl (by kernel_rfl) ?_)
  refine (CR.out _ hE).mono ?_; rintro e_ w2 ⟨rfl, h_⟩
  go_wp2
  go_ret
  exact ⟨congrArg (fun x => Ending.returned (Value.string x)) hp.out.symm, hE.trans h_⟩
theorem put07A {w : World} {T : Value} {t : TokQ} (h : TokAt w T t) : Calls Tryz.prog 35 #[T] w fun e w' => e = .returned (.string ⟨(putTok t).toArray⟩) ∧ Ext w w' := by
 obtain ⟨v, rfl, h2, h3⟩ := h
 exact put07t_w t.1 t.2.2 v t.2.1 w h3.tn h3.sg h3.len h3.n h2
theorem put18A {w : World} {V : Value} {o : OpQ} (h : OpAt w V o) (hs : o.2.2.2.2.1.1.size ≤ 1048576) : Calls Tryz.prog 23 #[V] w fun e w' => e = .returned (.string ⟨(putO o).toArray⟩) ∧ Ext w w' := by
 obtain ⟨v, l, R, rfl, hT, hf, hm, hR, hP, hO⟩ := h
 obtain ⟨k, ⟨i, n⟩, p, d, ⟨s, e, m, t⟩, P⟩ := o
 simp only at hR
 subst hR
 exact rput18_w k i n p d s e m v l R P w hO.i hO.n hO.d hs hO.e hm hf hT hO.f hP
theorem check07A {w : World} {T : Value} {t : TokQ} (key : ByteArray) (hk : key.size ≤ 281474976710656) (h : TokC w T t) : Calls Tryz.prog 36 #[.string key, T] w fun e w' => e = .returned (.bool (checkT key.data.toList t)) ∧ Ext w w' := by
 obtain ⟨v, rfl, h2, h3, h4, h5⟩ := h
 exact check07_w key t.1 t.2.2 v t.2.1 w hk (by omega) h4 h5 h2
theorem allows07A {w : World} {T : Value} {t : TokQ} (right round : Nat) (hr : U64 right) (h : TokC w T t) : Calls Tryz.prog 37 #[T, .int .u64 (right : Nat), .int .u64 (round : Nat)] w fun e w' => e = .returned (.bool (allowC t.2.1 right round)) ∧ Ext w w' := by
 obtain ⟨v, rfl, h2, h3, h4, h5⟩ := h
 exact allows07_w t.1 t.2.2 v t.2.1 right round w (by omega) h5 hr h2
theorem needsK_small (k : Int) : U64 (needsK k) := by
 unfold needsK
 by_cases h : k < 0
 ·rw [if_pos h]; exact u64_zero
 ·rw [if_neg h]
  match k.toNat with
  | 0 | 1 | 2 | 3 | 4 | 5 | 6 | 7 | 8 => show (_ : Nat) < _; decide
  | n + 9 => show (0 : Nat) < _; decide
set_option maxHeartbeats 2000000 in
set_option maxRecDepth 100000 in
theorem needs19_w (k : Int) (V : Value) (w : World) (hV : KindAt V k) :
  Calls Tryz.prog 14 #[V] w fun e w' => e = .returned (needsV k) ∧ Ext w w' := by
 obtain ⟨v1, v2, v3, v4, v5, v6, v7, v8, v9, v10, v11, v12, v13, v14, v15, v16, v17, rfl⟩ := hV
 obtain ⟨w1, hW1, hA, hE, -⟩ := new_row w 45 [.int .i64 k, v1, v2, v3, v4, v5, v6, v7, v8, v9, v10, v11, v12, v13, v14, v15, v16, v17]
 obtain ⟨bA, hbA⟩ : ∃ x, w.heap.size = x := ⟨_, rfl⟩
 rw [hbA] at hA
 have al := hA.lt
 have a0 := hA.at 0 rfl
 have hc : (k < 1 ∨ 9 ≤ k) ∨ k = 1 ∨ k = 2 ∨ k = 3 ∨ k = 4 ∨ k = 5 ∨ k = 6 ∨ k = 7 ∨ k = 8 := by omega
 unfold needsV
 rcases hc with h | rfl | rfl | rfl | rfl | rfl | rfl | rfl | rfl
 ·rw [show needsK k = 0 by
   by_cases h0 : k = 0
   ·rw [h0]; rfl
   ·exact needsK_out (by omega)]
  have n1 : (k == 1) = false := beq_eq_false_iff_ne.2 (by omega)
  have n2 : (k == 2) = false := beq_eq_false_iff_ne.2 (by omega)
  have n3 : (k == 3) = false := beq_eq_false_iff_ne.2 (by omega)
  go_enter Tryz.func14, Tryz.ntmps14
  rcases h with h | h
  ·have n4 : ¬ (4 : Int) ≤ k := by omega
   go_wp2
   refine bodyPost_ret (results_tmp2 rfl _ _ _) rfl ?_
   exact ⟨rfl, hE⟩
  ·have n4 : (4 : Int) ≤ k := by omega
   have n8 : ¬ k ≤ 8 := by omega
   go_wp2
   refine bodyPost_ret (results_tmp2 rfl _ _ _) rfl ?_
   exact ⟨rfl, hE⟩
 all_goals
  go_enter Tryz.func14, Tryz.ntmps14
  go_wp2
  refine bodyPost_ret (results_tmp2 rfl _ _ _) rfl ?_
  exact ⟨rfl, hE⟩
set_option maxHeartbeats 2000000 in
set_option maxRecDepth 100000 in
theorem put19_w (T V : Value) (t : TokQ) (o : OpQ) (w : World) (ht : TokAt w T t) (ho : OpAt w V o) (h98 : o.2.2.2.2.1.1.size ≤ 1048576) :
  Calls Tryz.prog 16 #[T, V] w fun e w' => e = .returned (.string ⟨(putG t o).toArray⟩) ∧ Ext w w' := by
 have CT := fun U (h : Ext w U) => put07A (ht.ext h)
 have CO := fun U (h : Ext w U) => put18A (ho.ext h) h98
 have zT : (⟨(putTok t).toArray⟩ : ByteArray).size ≤ 1000 := by
  obtain ⟨_, _, _, h3⟩ := ht
  rw [size_len]; exact putTok_len h3
 have zO : (⟨(putO o).toArray⟩ : ByteArray).size ≤ 5000 := by
  obtain ⟨_, _, _, _, _, _, _, _, _, h7⟩ := ho
  rw [size_len]; exact putO_len h7
 have eT := emptyB (putTok t)
 have eO := emptyB (putO o)
 have hG : (⟨(putG t o).toArray⟩ : ByteArray) = if putTok t = [] ∨ putO o = [] then ⟨#[]⟩ else ⟨(putTok t).toArray⟩ ++ ⟨(putO o).toArray⟩ := by
  unfold putG
  by_cases h : putTok t = [] ∨ putO o = []
  ·rw [if_pos h, if_pos h]
  ·rw [if_neg h, if_neg h]
   exact (mk_bytes (by rw [data_append])).symm
 obtain ⟨vt, rfl, hcv, _⟩ := ht
 obtain ⟨qt, ct, rfl, _, _⟩ := hcv.shape
 obtain ⟨v, l, R, rfl, hT, _, _, _, hP, _⟩ := ho
 obtain ⟨qv, cv, rfl, _, _⟩ := hT.shape
 obtain ⟨ql, cl, rfl, _, _⟩ := hP.shape
 clear hcv hT hP
 obtain ⟨tn, L, sg⟩ := t
 obtain ⟨k, ⟨i, n⟩, p, d, ⟨s, e, m, tt⟩, P⟩ := o
 unfold opV at CO ⊢
 simp only at CT CO hG zT zO eT eO ⊢
 generalize (⟨(putG (tn, L, sg) (k, (i, n), p, d, (s, e, m, tt), P)).toArray⟩ : ByteArray) = TG at *
 generalize (⟨(putTok (tn, L, sg)).toArray⟩ : ByteArray) = TA at *
 generalize (⟨(putO (k, (i, n), p, d, (s, e, m, tt), P)).toArray⟩ : ByteArray) = TB at *
 generalize putTok (tn, L, sg) = la at *
 generalize putO (k, (i, n), p, d, (s, e, m, tt), P) = lb at *
 have hB : RB w.heap.size 55 [.string tn, .slice qt L.length ct, .string sg] (w.alloc (.cells #[.string tn, .slice qt L.length ct, .string sg] 55)) := RB.new w 55 [.string tn, .slice qt L.length ct, .string sg]
 have hE : Ext w (w.alloc (.cells #[.string tn, .slice qt L.length ct, .string sg] 55)) := (Ext.refl _).alloc _
 generalize hW1 : w.alloc (.cells #[.string tn, .slice qt L.length ct, .string sg] 55) = w1 at *
 have hA : RB w1.heap.size 45 [.int .i64 k, .int .u64 (i : Nat), .int .u64 (n : Nat), .string p, .int .u64 ((vG d) 0 : Nat), .int .u64 ((vG d) 1 : Nat), .int .u64 ((vG d) 2 : Nat), .int .u64 ((vG d) 3 : Nat), .string s, .int .u64 ((vG e) 0 : Nat), .int .u64 ((vG e) 1 : Nat), .int .u64 ((vG e) 2 : Nat), .int .u64 ((vG e) 3 : Nat), .int .i64 m.1, .int .i64 m.2.1, .int .i64 m.2.2, .slice qv R.length cv, .slice ql P.length cl] (w1.alloc (.cells #[.int .i64 k, .int .u64 (i : Nat), .int .u64 (n : Nat), .string p, .int .u64 ((vG d) 0 : Nat), .int .u64 ((vG d) 1 : Nat), .int .u64 ((vG d) 2 : Nat), .int .u64 ((vG d) 3 : Nat), .string s, .int .u64 ((vG e) 0 : Nat), .int .u64 ((vG e) 1 : Nat), .int .u64 ((vG e) 2 : Nat), .int .u64 ((vG e) 3 : Nat), .int .i64 m.1, .int .i64 m.2.1, .int .i64 m.2.2, .slice qv R.length cv, .slice ql P.length cl] 45)) := RB.new w1 45 [.int .i64 k, .int .u64 (i : Nat), .int .u64 (n : Nat), .string p, .int .u64 ((vG d) 0 : Nat), .int .u64 ((vG d) 1 : Nat), .int .u64 ((vG d) 2 : Nat), .int .u64 ((vG d) 3 : Nat), .string s, .int .u64 ((vG e) 0 : Nat), .int .u64 ((vG e) 1 : Nat), .int .u64 ((vG e) 2 : Nat), .int .u64 ((vG e) 3 : Nat), .int .i64 m.1, .int .i64 m.2.1, .int .i64 m.2.2, .slice qv R.length cv, .slice ql P.length cl]
 have hE2 : Ext w1 (w1.alloc (.cells #[.int .i64 k, .int .u64 (i : Nat), .int .u64 (n : Nat), .string p, .int .u64 ((vG d) 0 : Nat), .int .u64 ((vG d) 1 : Nat), .int .u64 ((vG d) 2 : Nat), .int .u64 ((vG d) 3 : Nat), .string s, .int .u64 ((vG e) 0 : Nat), .int .u64 ((vG e) 1 : Nat), .int .u64 ((vG e) 2 : Nat), .int .u64 ((vG e) 3 : Nat), .int .i64 m.1, .int .i64 m.2.1, .int .i64 m.2.2, .slice qv R.length cv, .slice ql P.length cl] 45)) := (Ext.refl _).alloc _
 have hs1 : w1.heap.size = w.heap.size + 1 := by rw [← hW1, World.size_alloc]
 generalize hW2 : w1.alloc (.cells #[.int .i64 k, .int .u64 (i : Nat), .int .u64 (n : Nat), .string p, .int .u64 ((vG d) 0 : Nat), .int .u64 ((vG d) 1 : Nat), .int .u64 ((vG d) 2 : Nat), .int .u64 ((vG d) 3 : Nat), .string s, .int .u64 ((vG e) 0 : Nat), .int .u64 ((vG e) 1 : Nat), .int .u64 ((vG e) 2 : Nat), .int .u64 ((vG e) 3 : Nat), .int .i64 m.1, .int .i64 m.2.1, .int .i64 m.2.2, .slice qv R.length cv, .slice ql P.length cl] 45) = w2 at *
 replace hB := hB.ext hE2
 replace hE := hE.trans hE2
 clear hE2
 obtain ⟨bA, hbA⟩ : ∃ x, w1.heap.size = x := ⟨_, rfl⟩
 obtain ⟨bB, hbB⟩ : ∃ x, w.heap.size = x := ⟨_, rfl⟩
 rw [hbA] at hA
 rw [hbB] at hB
 rw [hbA, hbB] at hs1
 subst hs1
 replace CT := Lib.hid CT
 replace CO := Lib.hid CO
 replace hG := Lib.hid hG
 have bl := hB.lt
 have c0 : w2.cell? ⟨bB, 0, none⟩ = some (.string tn) := hB.cell 0
 have c1 : w2.cell? ⟨bB, 1, none⟩ = some (.slice qt L.length ct) := hB.cell 1
 have c2 : w2.cell? ⟨bB, 2, none⟩ = some (.string sg) := hB.cell 2
 go_enter Tryz.func16, Tryz.ntmps16
 go_upto_region 1 with fail
 clear hW1 hW2 hbA hbB
 generalize bB + 1 = bA at *
 go_wp2_with fail
 refine (CT.out _ hE).mono ?_; rintro e_ w3 ⟨rfl, h3⟩
 replace hA := hA.ext h3
 replace hE := hE.trans h3
 clear h3 bl c0 c1 c2 hB
 go_wp2_with (refine wpList_load_row rfl 45 _ rfl bA rfl _ _ _ _ hA Tryz.underlying45 rfl (by kernel_rfl) ?_)
 refine (CO.out _ hE).mono ?_; rintro e_ w4 ⟨rfl, h4⟩
 replace hE := hE.trans h4
 clear h4 hA
 by_cases h1 : la = []
 ·rw [decide_eq_true h1] at eT
  go_wp2
  go_ret
  exact ⟨by rw [hG.out, if_pos (Or.inl h1)]; rfl, hE⟩
 ·rw [decide_eq_false h1] at eT
  by_cases h2 : lb = []
  ·rw [decide_eq_true h2] at eO
   go_wp2
   go_ret
   exact ⟨by rw [hG.out, if_pos (Or.inr h2)]; rfl, hE⟩
  ·rw [decide_eq_false h2] at eO
   go_wp2
   go_ret
   exact ⟨by rw [hG.out, if_neg (by rw [not_or]; exact ⟨h1, h2⟩)]; rfl, hE⟩
set_option maxHeartbeats 2000000 in
set_option maxRecDepth 100000 in
theorem allow19_w (key : ByteArray) (T V : Value) (t : TokQ) (k : Int) (r : Nat) (w : World) (hk : key.size ≤ 281474976710656) (ht : TokC w T t) (ho : KindAt V k) :
  Calls Tryz.prog 19 #[.string key, T, V, .int .u64 (r : Nat)] w fun e w' => e = .returned (.int .i64 (allowK key.data.toList t k r)) ∧ Ext w w' := by
 have CC := fun U (h : Ext w U) => check07A key hk (ht.ext h)
 have CN := fun U (h : Ext w U) => needs19_w k V U ho
 have CA := fun U (h : Ext w U) => allows07A (needsK k) r (needsK_small k) (ht.ext h)
 have hG : allowK key.data.toList t k r = if checkT key.data.toList t = false then 13 else if needsK k = 0 ∨ allowC t.2.1 (needsK k) r = false then 14 else 0 := rfl
 obtain ⟨vt, rfl, hcv, _⟩ := ht
 obtain ⟨qt, ct, rfl, _, _⟩ := hcv.shape
 obtain ⟨v1, v2, v3, v4, v5, v6, v7, v8, v9, v10, v11, v12, v13, v14, v15, v16, v17, rfl⟩ := ho
 clear hcv
 obtain ⟨tn, L, sg⟩ := t
 unfold needsV at CN
 simp only at CC CN CA hG ⊢
 generalize allowK key.data.toList (tn, L, sg) k r = G at *
 generalize checkT key.data.toList (tn, L, sg) = ck at *
 generalize allowC L (needsK k) r = al at *
 generalize needsK k = c at *
 have hB : RB w.heap.size 55 [.string tn, .slice qt L.length ct, .string sg] (w.alloc (.cells #[.string tn, .slice qt L.length ct, .string sg] 55)) := RB.new w 55 [.string tn, .slice qt L.length ct, .string sg]
 have hE : Ext w (w.alloc (.cells #[.string tn, .slice qt L.length ct, .string sg] 55)) := (Ext.refl _).alloc _
 generalize hW1 : w.alloc (.cells #[.string tn, .slice qt L.length ct, .string sg] 55) = w1 at *
 have hA : RB w1.heap.size 45 [.int .i64 k, v1, v2, v3, v4, v5, v6, v7, v8, v9, v10, v11, v12, v13, v14, v15, v16, v17] (w1.alloc (.cells #[.int .i64 k, v1, v2, v3, v4, v5, v6, v7, v8, v9, v10, v11, v12, v13, v14, v15, v16, v17] 45)) := RB.new w1 45 [.int .i64 k, v1, v2, v3, v4, v5, v6, v7, v8, v9, v10, v11, v12, v13, v14, v15, v16, v17]
 have hE2 : Ext w1 (w1.alloc (.cells #[.int .i64 k, v1, v2, v3, v4, v5, v6, v7, v8, v9, v10, v11, v12, v13, v14, v15, v16, v17] 45)) := (Ext.refl _).alloc _
 have hs1 : w1.heap.size = w.heap.size + 1 := by rw [← hW1, World.size_alloc]
 generalize hW2 : w1.alloc (.cells #[.int .i64 k, v1, v2, v3, v4, v5, v6, v7, v8, v9, v10, v11, v12, v13, v14, v15, v16, v17] 45) = w2 at *
 replace hB := hB.ext hE2
 replace hE := hE.trans hE2
 clear hE2
 obtain ⟨bA, hbA⟩ : ∃ x, w1.heap.size = x := ⟨_, rfl⟩
 obtain ⟨bB, hbB⟩ : ∃ x, w.heap.size = x := ⟨_, rfl⟩
 rw [hbA] at hA
 rw [hbB] at hB
 rw [hbA, hbB] at hs1
 subst hs1
 replace CC := Lib.hid CC
 replace CN := Lib.hid CN
 replace CA := Lib.hid CA
 replace hG := Lib.hid hG
 have bl := hB.lt
 have c0 : w2.cell? ⟨bB, 0, none⟩ = some (.string tn) := hB.cell 0
 have c1 : w2.cell? ⟨bB, 1, none⟩ = some (.slice qt L.length ct) := hB.cell 1
 have c2 : w2.cell? ⟨bB, 2, none⟩ = some (.string sg) := hB.cell 2
 go_enter Tryz.func19, Tryz.ntmps19
 go_upto_region 1 with fail
 clear hW1 hW2 hbA hbB
 generalize bB + 1 = bA at *
 go_wp2_with fail
 refine (CC.out _ hE).mono ?_; rintro e_ w3 ⟨rfl, h3⟩
 clear bl c0 c1 c2
 replace hA := hA.ext h3
 replace hB := hB.ext h3
 replace hE := hE.trans h3
 clear h3
 cases ck with
 | false =>
  go_wp2
  go_ret
  exact ⟨by show Ending.returned (.int .i64 13) = _; rw [hG.out]; simp, hE⟩
 | true =>
  go_upto_region 3 with fail
  go_wp2_with (refine wpList_load_row rfl 45 _ rfl bA rfl _ _ _ _ hA Tryz.underlying45 rfl (by kernel_rfl) ?_)
  refine (CN.out _ hE).mono ?_; rintro e_ w4 ⟨rfl, h4⟩
  replace hB := hB.ext h4
  replace hE := hE.trans h4
  clear h4 hA
  have bl := hB.lt
  have c0 : w4.cell? ⟨bB, 0, none⟩ = some (.string tn) := hB.cell 0
  have c1 : w4.cell? ⟨bB, 1, none⟩ = some (.slice qt L.length ct) := hB.cell 1
  have c2 : w4.cell? ⟨bB, 2, none⟩ = some (.string sg) := hB.cell 2
  by_cases h0 : c = 0
  ·subst h0
   go_wp2
   go_ret
   exact ⟨by show Ending.returned (.int .i64 14) = _; rw [hG.out]; simp, hE⟩
  ·have h0d : decide (c ≠ 0) = true := decide_eq_true h0
   go_wp2_with fail
   refine (CA.out _ hE).mono ?_; rintro e_ w5 ⟨rfl, h5⟩
   replace hE := hE.trans h5
   clear h5 bl c0 c1 c2
   cases al with
   | false =>
    go_wp2
    go_ret
    exact ⟨by show Ending.returned (.int .i64 14) = _; rw [hG.out]; simp, hE⟩
   | true =>
    go_wp2
    go_ret
    exact ⟨by show Ending.returned (.int .i64 0) = _; rw [hG.out]; simp [h0], hE⟩
set_option maxHeartbeats 4000000 in
set_option maxRecDepth 100000 in
theorem rget18_w (s : ByteArray) (p : Int) (w : World) (hs : s.size ≤ 281474976710656) :
    Calls Tryz.prog 42 #[.string s, .int .i64 p] w fun e_ w' => GotO w.heap.size w' (getO s.data.toList p) e_ ∧ Ext w w' := by
  have hU : U64 s.data.toList.length := Nat.lt_of_le_of_lt (show s.size ≤ _ from hs) (by decide)
  unfold getO
  have C1 := fun U => rget_w s p U hs
  obtain ⟨⟨k, q, b⟩, hr⟩ : ∃ r, getI s.data.toList p = r := ⟨_, rfl⟩
  rw [hr] at C1 ⊢
  simp only at C1 ⊢
  clear hr
  obtain ⟨f, hf⟩ : ∃ f, (knownF (k : Nat)).getD noFld = f := ⟨_, rfl⟩
  have hfg : k ≤ 13 → (id18 (k : Nat), n18 (k : Nat), path18 (k : Nat), v18 (k : Nat), x18 (k : Nat), labels18 (k : Nat)) = f := fun h13 => by
    rw [← hf]
    cases h : knownF (k : Nat) with
    | none => obtain rfl : k = 0 := by have := knownF_none h; omega
              rfl
    | some f => exact (flags18 h).symm
  rw [hf]
  clear hf
  obtain ⟨b0, b1, b2, b3, b4, b5⟩ := f
  rw [← leftF_all]
  obtain ⟨RR, hR⟩ : ∃ r, (if b = false ∨ 13 < k then noO else finO (leftF s.data.toList (b0, b1, b2, b3, b4, b5) 6 (opQ0 k, q, true))) = r := ⟨_, rfl⟩
  rw [hR]
  replace hR := Lib.hid hR
  obtain ⟨w1, hW1, hA, hE, -⟩ := new_row w 45 zOp
  obtain ⟨bA, hbA⟩ : ∃ x, w.heap.size = x := ⟨_, rfl⟩
  have hwA : w.heap.size ≤ bA := by omega
  rw [hbA] at hA
  replace hfg := Lib.hid hfg
  go_enter Tryz.func42, Tryz.ntmps42
  go_upto_region 1 with fail
  clear hW1 hbA
  go_wp2_with fail
  refine (C1 _).mono ?_; rintro e_ w2 ⟨rfl, h2⟩
  replace hA := hA.ext h2
  replace hE := hE.trans h2
  clear h2 C1
  by_cases h13 : b = true ∧ k ≤ 13
  rotate_left
  · have hR0 : noO = RR := by
      rw [← hR.out, if_pos]
      cases b with
      | false => exact Or.inl rfl
      | true => exact Or.inr (by have := not_and.1 h13 rfl; omega)
    subst hR0
    clear hR
    have hZ := hA.setRow zOp
    clear hfg
    have hk13 : b = true → 13 < k := fun h => by have := not_and.1 h13 h; omega
    clear h13
    cases b
    case' true => have hk13 := hk13 rfl
    all_goals
      go_wp2_with (refine wpList_store_row (cells := zOp.toArray) rfl 45 _ _ rfl bA rfl rfl _ _ hA (by kernel_rfl) rfl (by first | rfl | decide | simp [Value.oneCell']) ?_)
      refine bodyPost_ret (results_row3 (p := 4) (t := 5) (u := 6) rfl _ _ _ _ _ _ _ rfl hZ Tryz.underlying45 rfl (by kernel_rfl)) rfl ?_
      exact ⟨GotO.none_ _ _, Ext.setRow hE hwA _⟩
  obtain ⟨rfl, h13⟩ := h13
  replace hR := Lib.hid ((if_neg (show ¬ (true = false ∨ 13 < k) by rintro (h | h); (cases h); omega)).symm.trans hR.out)
  replace hfg := hfg.out h13
  have F0 := fun U => id18_w k U
  have F1 := fun U => n18_w k U
  have F2 := fun U => path18_w k U
  have F3 := fun U => v18_w k U
  have F4 := fun U => x18_w k U
  have F5 := fun U => labels18_w k U
  generalize id18 k = c0 at *
  generalize n18 k = c1 at *
  generalize path18 k = c2 at *
  generalize v18 k = c3 at *
  generalize x18 k = c4 at *
  generalize labels18 k = c5 at *
  simp only [Prod.mk.injEq] at hfg
  obtain ⟨rfl, rfl, rfl, rfl, rfl, rfl⟩ := hfg
  obtain ⟨G, hG⟩ : ∃ g, leftF s.data.toList (c0, c1, c2, c3, c4, c5) 6 (opQ0 k, q, true) = g := ⟨_, rfl⟩
  replace hR := Lib.hid (show finO G = RR by rw [← hG]; exact hR.out)
  replace hG := Lib.hid hG
  obtain ⟨w3, hW3, hO, h3, -⟩ := new_row w2 45 zOp
  obtain ⟨bO, hbO⟩ : ∃ x, w2.heap.size = x := ⟨_, rfl⟩
  have hbAO : bA < bO := by have := RB.lt hA; omega
  have hAO : bO ≠ bA := by omega
  have hwO : w.heap.size ≤ bO := by have := RB.lt hA; omega
  rw [hbO] at hO
  replace hA := hA.ext h3
  replace hE := hE.trans h3
  obtain ⟨w4, hW4, hO', hfar, hEx⟩ := set_row hO [.int .i64 (k : Nat), .int .u64 0, .int .u64 0, .string ⟨#[]⟩, .int .u64 0, .int .u64 0, .int .u64 0, .int .u64 0, .string ⟨#[]⟩, .int .u64 0, .int .u64 0, .int .u64 0, .int .u64 0, .int .i64 0, .int .i64 0, .int .i64 0, .slice none 0 0, .slice none 0 0]
  go_upto_region 5 with (refine wpList_store_row (cells := #[.int .i64 (k : Nat), .int .u64 0, .int .u64 0, .string ⟨#[]⟩, .int .u64 0, .int .u64 0, .int .u64 0, .int .u64 0, .string ⟨#[]⟩, .int .u64 0, .int .u64 0, .int .u64 0, .int .u64 0, .int .i64 0, .int .i64 0, .int .i64 0, .slice none 0 0, .slice none 0 0]) rfl 45 _ _ rfl bO rfl rfl _ _ hO (by kernel_rfl) rfl (by first | rfl | decide | simp [Value.oneCell']) ?_)
  rw [hW4]
  have hk : -9223372036854775808 ≤ (k : Int) ∧ (k : Int) ≤ 9223372036854775807 := by omega
  have h : HoldO bA 45 zOp bO 45 w w4 (cellsO k 0 0 ⟨#[]⟩ noV ⟨#[]⟩ noV (0, 0, 0) (.slice none 0 0) (.slice none 0 0)) (.slice none 0 0) (.slice none 0 0) [] [] :=
    ⟨hfar _ _ _ hAO hA, hO', hAO, hwO, hEx _ hE hwO, Terms.nil _, Pairs.nil _, OwnT.nil _, fun c h => by cases h⟩
  have hOk : OkO (k, (0, 0), ⟨#[]⟩, noV, (⟨#[]⟩, noV, (0, 0, 0), List.map rowT []), []) := ⟨hk, u64_zero, u64_zero, okV_no, (by show (0 : Nat) < _; decide), okV_no, (by show (0 : Nat) ≤ _; decide), FitP.nil⟩
  clear hA hE hO hW3 hbO hW4 hfar hEx h3 hO' hk
  have hcut : AtO s.data.toList (c0, c1, c2, c3, c4, c5) 6 G bA 45 zOp bO 45 w k (.int .i64 q) (.bool true) w4 := ⟨0, 0, ⟨#[]⟩, noV, ⟨#[]⟩, noV, (0, 0, 0), _, _, [], [], q, true, rfl, rfl, h, hOk, (fun r hr => by cases hr), by simp, by show (0 : Nat) ≤ _; decide, hG⟩
  clear h hOk hG hAO hwO
  obtain ⟨i, n, t, d, y, e, m, v, x, R, P, q1, ok, e1, e2, h, hO, hf, hl, hy, hG⟩ := hcut
  simp only [Value.int.injEq, Value.bool.injEq, true_and] at e1 e2
  subst e1 e2
  have ol := RB.lt h.hb
  have o0 := h.hb.at 0 rfl
  go_upto_if 29 with (go_at_call 45; go_must (refine (F0 _).mono ?_; rintro e_ w' ⟨rfl, rfl⟩))
  go_cut [1, 8] from 10 (fun u1 u2 W => AtO s.data.toList (c0, c1, c2, c3, c4, c5) 5 G bA 45 zOp bO 45 w k u1 u2 W)
  case first =>
    cases c0 with
    | false =>
      go_wp2_with fail
      go_meet
      case rel => exact ⟨i, n, t, d, y, e, m, v, x, R, P, q, true, rfl, rfl, h, hO, hf, hl, hy, Lib.hid (by rw [← hG.out]; show _ = leftF _ _ 5 (stA _ _ _); unfold stA; simp only [cond_false])⟩
    | true =>
      have C := fun U => rget_w s q U hs
      have fa := getI_fit (l := s.data.toList) (p := q) hs
      obtain ⟨⟨a, qa, ba⟩, ra⟩ : ∃ r, getI s.data.toList q = r := ⟨_, rfl⟩
      rw [ra] at C fa
      simp only at C fa
      go_wp2_with fail
      refine (C _).mono ?_; rintro e_ W1 ⟨rfl, h1⟩
      clear ol o0 C
      replace h := h.ext h1
      have ol := RB.lt h.hb
      have o1 := h.hb.at 1 rfl
      have of1 := h.hb.free 1
      go_wp2_with fail
      go_meet
      case rel => exact ⟨a, n, t, d, y, e, m, v, x, R, P, qa, ba, rfl, rfl, h.put [(1, .int .u64 (a : Nat))], ⟨hO.k, fa, hO.n, hO.d, hO.s, hO.e, hO.p, hO.f⟩, hf, hl, hy, Lib.hid (by rw [← hG.out]; show _ = leftF _ _ 5 (stA _ _ _); unfold stA; simp only [cond_true]; rw [ra])⟩
  clear ol o0 h hO hf hl hy hG
  obtain ⟨i, n, t, d, y, e, m, v, x, R, P, q, ok, rfl, rfl, h, hO, hf, hl, hy, hG⟩ := hcut
  have ol := RB.lt h.hb
  have o0 := h.hb.at 0 rfl
  go_upto_if 40 with (go_at_call 46; go_must (refine (F1 _).mono ?_; rintro e_ w' ⟨rfl, rfl⟩))
  go_cut [1, 8] from 10 (fun u1 u2 W => AtO s.data.toList (c0, c1, c2, c3, c4, c5) 4 G bA 45 zOp bO 45 w k u1 u2 W)
  case first =>
    cases c1 with
    | false =>
      go_wp2_with fail
      go_meet
      case rel => exact ⟨i, n, t, d, y, e, m, v, x, R, P, q, ok, rfl, rfl, h, hO, hf, hl, hy, Lib.hid (by rw [← hG.out]; show _ = leftF _ _ 4 (stB _ _ _); unfold stB; simp only [cond_false])⟩
    | true =>
      have C := fun U => rget_w s q U hs
      have fa := getI_fit (l := s.data.toList) (p := q) hs
      obtain ⟨⟨a, qa, ba⟩, ra⟩ : ∃ r, getI s.data.toList q = r := ⟨_, rfl⟩
      rw [ra] at C fa
      simp only at C fa
      go_wp2_with fail
      refine (C _).mono ?_; rintro e_ W1 ⟨rfl, h1⟩
      clear ol o0 C
      replace h := h.ext h1
      have ol := RB.lt h.hb
      have o2 := h.hb.at 2 rfl
      have of2 := h.hb.free 2
      go_wp2_with fail
      go_meet
      case rel => exact ⟨i, a, t, d, y, e, m, v, x, R, P, qa, ba, rfl, rfl, h.put [(2, .int .u64 (a : Nat))], ⟨hO.k, hO.i, fa, hO.d, hO.s, hO.e, hO.p, hO.f⟩, hf, hl, hy, Lib.hid (by rw [← hG.out]; show _ = leftF _ _ 4 (stB _ _ _); unfold stB; simp only [cond_true]; rw [ra])⟩
  clear ol o0 h hO hf hl hy hG
  obtain ⟨i, n, t, d, y, e, m, v, x, R, P, q, ok, rfl, rfl, h, hO, hf, hl, hy, hG⟩ := hcut
  have ol := RB.lt h.hb
  have o0 := h.hb.at 0 rfl
  go_upto_if 51 with (go_at_call 47; go_must (refine (F2 _).mono ?_; rintro e_ w' ⟨rfl, rfl⟩))
  go_cut [1, 8] from 10 (fun u1 u2 W => AtO s.data.toList (c0, c1, c2, c3, c4, c5) 3 G bA 45 zOp bO 45 w k u1 u2 W)
  case first =>
    cases c2 with
    | false =>
      go_wp2_with fail
      go_meet
      case rel => exact ⟨i, n, t, d, y, e, m, v, x, R, P, q, ok, rfl, rfl, h, hO, hf, hl, hy, Lib.hid (by rw [← hG.out]; show _ = leftF _ _ 3 (stT _ _ _); unfold stT; simp only [cond_false])⟩
    | true =>
      have C := fun U => rgettext_w s q 98 U hs (by omega)
      obtain ⟨⟨a, qa, ba⟩, ra⟩ : ∃ r, atI (getTextL 98) [] s.data.toList q = r := ⟨_, rfl⟩
      rw [ra] at C
      simp only at C
      go_wp2_with fail
      refine (C _).mono ?_; rintro e_ W1 ⟨rfl, h1⟩
      clear ol o0 C
      replace h := h.ext h1
      have ol := RB.lt h.hb
      have o3 := h.hb.at 3 rfl
      have of3 := h.hb.free 3
      go_wp2_with fail
      go_meet
      case rel => exact ⟨i, n, ⟨a.toArray⟩, d, y, e, m, v, x, R, P, qa, ba, rfl, rfl, h.put [(3, .string ⟨a.toArray⟩)], ⟨hO.k, hO.i, hO.n, hO.d, hO.s, hO.e, hO.p, hO.f⟩, hf, hl, hy, Lib.hid (by rw [← hG.out]; show _ = leftF _ _ 3 (stT _ _ _); unfold stT; simp only [cond_true]; rw [ra])⟩
  clear ol o0 h hO hf hl hy hG
  obtain ⟨i, n, t, d, y, e, m, v, x, R, P, q, ok, rfl, rfl, h, hO, hf, hl, hy, hG⟩ := hcut
  have ol := RB.lt h.hb
  have o0 := h.hb.at 0 rfl
  go_upto_region 11 with fail
  go_cut [65] from 10 (fun r w' => r = .bool (ok && c3) ∧ w' = wc)
  case first =>
    cases ok with
    | false => go_wp2_with fail; go_meet; case rel => exact ⟨rfl, rfl⟩
    | true => go_wp2_with (go_at_call 49; go_must (refine (F3 _).mono ?_; rintro e_ w' ⟨rfl, rfl⟩)); go_meet; case rel => exact ⟨rfl, rfl⟩
  obtain ⟨rfl, rfl⟩ := hcut
  go_upto_if 65 with fail
  go_cut [1, 8] from 10 (fun u1 u2 W => AtO s.data.toList (c0, c1, c2, c3, c4, c5) 2 G bA 45 zOp bO 45 w k u1 u2 W)
  case first =>
    cases hb : (ok && c3) with
    | false =>
      go_wp2_with fail
      go_meet
      case rel => exact ⟨i, n, t, d, y, e, m, v, x, R, P, q, ok, rfl, rfl, h, hO, hf, hl, hy, Lib.hid (by rw [← hG.out]; show _ = leftF _ _ 2 (stV _ _ _); unfold stV; simp only [hb, cond_false])⟩
    | true =>
      have C := fun U => r03get_w s q U hs
      have fa := getV_fit (l := s.data.toList) (q := q) hU
      obtain ⟨⟨a, qa, ba⟩, ra⟩ : ∃ r, getV s.data.toList q = r := ⟨_, rfl⟩
      rw [ra] at C fa
      unfold vVal vF at C
      simp only at C fa
      go_wp2_with fail
      refine (C _).mono ?_; rintro e_ W1 ⟨rfl, h1⟩
      clear ol o0 C
      replace h := h.ext h1
      have ol := RB.lt h.hb
      have o4 := h.hb.at 4 rfl
      have of4 := h.hb.free 4
      have o5 := h.hb.at 5 rfl
      have of5 := h.hb.free 5
      have o6 := h.hb.at 6 rfl
      have of6 := h.hb.free 6
      have o7 := h.hb.at 7 rfl
      have of7 := h.hb.free 7
      go_wp2_with fail
      go_meet
      case rel => exact ⟨i, n, t, a, y, e, m, v, x, R, P, qa, ba, rfl, rfl, h.put [(4, .int .u64 (vG a 0 : Nat)), (5, .int .u64 (vG a 1 : Nat)), (6, .int .u64 (vG a 2 : Nat)), (7, .int .u64 (vG a 3 : Nat))], ⟨hO.k, hO.i, hO.n, fa, hO.s, hO.e, hO.p, hO.f⟩, hf, hl, hy, Lib.hid (by rw [← hG.out]; show _ = leftF _ _ 2 (stV _ _ _); unfold stV; simp only [hb, cond_true]; rw [ra])⟩
  clear ol o0 h hO hf hl hy hG
  obtain ⟨i, n, t, d, y, e, m, v, x, R, P, q, ok, rfl, rfl, h, hO, hf, hl, hy, hG⟩ := hcut
  have ol := RB.lt h.hb
  have o0 := h.hb.at 0 rfl
  go_upto_if 76 with (go_at_call 51; go_must (refine (F4 _).mono ?_; rintro e_ w' ⟨rfl, rfl⟩))
  go_cut [1, 8] from 10 (fun u1 u2 W => AtO s.data.toList (c0, c1, c2, c3, c4, c5) 1 G bA 45 zOp bO 45 w k u1 u2 W)
  case first =>
    cases c4 with
    | false =>
      go_wp2_with fail
      go_meet
      case rel => exact ⟨i, n, t, d, y, e, m, v, x, R, P, q, ok, rfl, rfl, h, hO, hf, hl, hy, Lib.hid (by rw [← hG.out]; show _ = leftF _ _ 1 (stX _ _ _); unfold stX; simp only [cond_false])⟩
    | true =>
      have C := fun U => rgetxO_w s q U hs
      have fa := getX_fit (l := s.data.toList) (q := q) hU
      obtain ⟨⟨⟨y1, e1, m1, t1⟩, qa, ba⟩, ra⟩ : ∃ r, getX s.data.toList q = r := ⟨_, rfl⟩
      rw [ra] at C fa
      unfold GotXO spVal at C
      simp only at C fa
      have hbB := RB.lt h.hb
      go_wp2_with fail
      refine (C _).mono ?_; rintro e_ W1 ⟨⟨v1, R1, rfl, hT, hfR, hl4, hRT, hxd, hOT⟩, h1⟩
      subst hRT
      obtain ⟨qv, cv, rfl, _, _⟩ := hT.shape
      clear ol o0 C
      replace h := h.ext h1
      replace h := h.terms hT hOT hbB
      have ol := RB.lt h.hb
      have o8 := h.hb.at 8 rfl
      have of8 := h.hb.free 8
      have o9 := h.hb.at 9 rfl
      have of9 := h.hb.free 9
      have o10 := h.hb.at 10 rfl
      have of10 := h.hb.free 10
      have o11 := h.hb.at 11 rfl
      have of11 := h.hb.free 11
      have o12 := h.hb.at 12 rfl
      have of12 := h.hb.free 12
      have o13 := h.hb.at 13 rfl
      have of13 := h.hb.free 13
      have o14 := h.hb.at 14 rfl
      have of14 := h.hb.free 14
      have o15 := h.hb.at 15 rfl
      have of15 := h.hb.free 15
      have o16 := h.hb.at 16 rfl
      have of16 := h.hb.free 16
      go_wp2_with fail
      go_meet
      case rel => exact ⟨i, n, t, d, y1, e1, m1, _, x, R1, P, qa, ba, rfl, rfl, h.put [(8, .string y1), (9, .int .u64 (vG e1 0 : Nat)), (10, .int .u64 (vG e1 1 : Nat)), (11, .int .u64 (vG e1 2 : Nat)), (12, .int .u64 (vG e1 3 : Nat)), (13, .int .i64 m1.1), (14, .int .i64 m1.2.1), (15, .int .i64 m1.2.2), (16, .slice qv R1.length cv)], ⟨hO.k, hO.i, hO.n, hO.d, Nat.lt_of_le_of_lt fa (by decide), hxd, hO.p, hO.f⟩, hfR, hl4, fa, Lib.hid (by rw [← hG.out]; show _ = leftF _ _ 1 (stX _ _ _); unfold stX; simp only [cond_true]; rw [ra])⟩
  clear ol o0 h hO hf hl hy hG
  obtain ⟨i, n, t, d, y, e, m, v, x, R, P, q, ok, rfl, rfl, h, hO, hf, hl, hy, hG⟩ := hcut
  have ol := RB.lt h.hb
  have o0 := h.hb.at 0 rfl
  go_upto_region 15 with fail
  go_cut [90] from 10 (fun r w' => r = .bool (ok && c5) ∧ w' = wc)
  case first =>
    cases ok with
    | false => go_wp2_with fail; go_meet; case rel => exact ⟨rfl, rfl⟩
    | true => go_wp2_with (go_at_call 53; go_must (refine (F5 _).mono ?_; rintro e_ w' ⟨rfl, rfl⟩)); go_meet; case rel => exact ⟨rfl, rfl⟩
  obtain ⟨rfl, rfl⟩ := hcut
  go_upto_if 90 with fail
  go_cut [1, 8] from 10 (fun u1 u2 W => AtO s.data.toList (c0, c1, c2, c3, c4, c5) 0 G bA 45 zOp bO 45 w k u1 u2 W)
  case first =>
    cases hb : (ok && c5) with
    | false =>
      go_wp2_with fail
      go_meet
      case rel => exact ⟨i, n, t, d, y, e, m, v, x, R, P, q, ok, rfl, rfl, h, hO, hf, hl, hy, Lib.hid (by rw [← hG.out]; show _ = stL _ _ _; unfold stL; simp only [hb, cond_false]; rfl)⟩
    | true =>
      have C := fun U => m04getO_w s q U hs
      have hbB := RB.lt h.hb
      go_wp2_with fail
      refine (C _).mono ?_; rintro e_ W1 ⟨x1, P1, qa, ba, rfl, hP, ra, hFP, hl8, hOP, h1⟩
      obtain ⟨ql, cl, rfl, _, _⟩ := hP.shape
      clear ol o0 C
      replace h := h.ext h1
      replace h := h.pairs hP hOP hbB
      have ol := RB.lt h.hb
      have o17 := h.hb.at 17 rfl
      have of17 := h.hb.free 17
      go_wp2_with fail
      go_meet
      case rel => exact ⟨i, n, t, d, y, e, m, v, _, R, P1, qa, ba, rfl, rfl, h.put [(17, .slice ql P1.length cl)], ⟨hO.k, hO.i, hO.n, hO.d, hO.s, hO.e, Nat.le_trans hl8 (by decide), hFP⟩, hf, hl, hy, Lib.hid (by rw [← hG.out]; show _ = stL _ _ _; unfold stL; simp only [hb, cond_true]; rw [ra, unP_lab]; rfl)⟩
  clear ol o0 h hO hf hl hy hG
  obtain ⟨i, n, t, d, y, e, m, v, x, R, P, q, ok, rfl, rfl, h, hO, hf, hl, hy, hG⟩ := hcut
  have hRR : Hid (finO ((k, (i, n), t, d, (y, e, m, R.map rowT), P), q, ok) = RR) := Lib.hid ((congrArg finO (show (((k, (i, n), t, d, (y, e, m, R.map rowT), P), q, ok) : OpQ × Int × Bool) = G from hG.out)).trans hR.out)
  clear hG hR
  have ol := RB.lt h.hb
  have o0 := h.hb.at 0 rfl
  cases ok with
  | false =>
    have hA := h.hc
    have hZ := hA.setRow zOp
    go_wp2_with (refine wpList_store_row (cells := zOp.toArray) rfl 45 _ _ rfl bA rfl rfl _ _ hA (by kernel_rfl) rfl (by first | rfl | decide | simp [Value.oneCell']) ?_; refine Hid.out ?_)
    refine Lib.hid ?_
    repeat go_step
    refine bodyPost_ret (results_row3 (p := 4) (t := 5) (u := 6) rfl _ _ _ _ _ _ _ rfl hZ Tryz.underlying45 rfl (by kernel_rfl)) rfl ?_
    exact ⟨hRR.out ▸ GotO.no _ _ _ (fun h => by cases h.1), Ext.setRow h.hE hwA _⟩
  | true =>
    have CR := right18_w k i n t d y e m v x R P wc hO.d (Nat.le_trans hy (by decide)) hO.e (by omega) hf h.hT hO.f h.hP
    unfold opV at CR
    have hO1 := h.hb
    obtain ⟨qv, cv, rfl, _, _⟩ := h.hT.shape
    obtain ⟨ql, cl, rfl, _, _⟩ := h.hP.shape
    cases hro : rightO (k, (i, n), t, d, (y, e, m, R.map rowT), P) with
    | false =>
      have hg : ∀ U, GotO w.heap.size U RR _ := fun U => hRR.out ▸ GotO.no w.heap.size U (((k, (i, n), t, d, (y, e, m, R.map rowT), P), q, true) : OpQ × Int × Bool) (fun h => by rw [hro] at h; cases h.2)
      rw [hro] at CR
      clear hro
      replace hg := Lib.hid hg
      go_wp2_with (refine wpList_load_row_g (by kernel_rfl) 45 _ rfl bO rfl _ _ _ _ hO1 Tryz.underlying45 rfl (by kernel_rfl) ?_)
      refine CR.mono ?_; rintro e_ wq ⟨rfl, hq⟩
      clear ol o0 CR hO1
      replace h := h.ext hq
      have hA := h.hc
      have hZ := hA.setRow zOp
      go_wp2_with (refine wpList_store_row (cells := zOp.toArray) rfl 45 _ _ rfl bA rfl rfl _ _ hA (by kernel_rfl) rfl (by first | rfl | decide | simp [Value.oneCell']) ?_; refine Hid.out ?_)
      refine Lib.hid ?_
      repeat go_step
      refine bodyPost_ret (results_row3 (p := 4) (t := 5) (u := 6) rfl _ _ _ _ _ _ _ rfl hZ Tryz.underlying45 rfl (by kernel_rfl)) rfl ?_
      exact ⟨hg.out _, Ext.setRow h.hE hwA _⟩
    | true =>
      have hFe : Hid (RR = (((k, (i, n), t, d, (y, e, m, R.map rowT), P), q, true) : OpQ × Int × Bool)) := Lib.hid (by rw [← hRR.out]; unfold finO; rw [if_pos ⟨rfl, hro⟩])
      rw [hro] at CR
      clear hro
      go_wp2_with (refine wpList_load_row_g (by kernel_rfl) 45 _ rfl bO rfl _ _ _ _ hO1 Tryz.underlying45 rfl (by kernel_rfl) ?_)
      refine CR.mono ?_; rintro e_ wq ⟨rfl, hq⟩
      clear ol o0 CR hO1
      replace h := h.ext hq
      have hA := h.hc
      have hO1 := h.hb
      have hZ := hA.setRow (cellsO k i n t d y e m (.slice qv R.length cv) (.slice ql P.length cl))
      go_wp2_with (first | (refine wpList_load_row_g (by kernel_rfl) 45 _ rfl bO rfl _ _ _ _ hO1 Tryz.underlying45 rfl (by kernel_rfl) ?_) | (refine wpList_store_row (cells := (cellsO k i n t d y e m (.slice qv R.length cv) (.slice ql P.length cl)).toArray) rfl 45 _ _ rfl bA rfl rfl _ _ hA (by kernel_rfl) rfl (by first | rfl | decide | simp [Value.oneCell']) ?_; refine Hid.out ?_))
      refine Lib.hid ?_
      repeat go_step
      refine bodyPost_ret (results_row3 (p := 4) (t := 5) (u := 6) rfl _ _ _ _ _ _ _ rfl hZ Tryz.underlying45 rfl (by kernel_rfl)) rfl ?_
      refine ⟨?_, Ext.setRow h.hE hwA _⟩
      rw [hFe.out]
      have hof := (Off.refl bA wq).setRow (cellsO k i n t d y e m (.slice qv R.length cv) (.slice ql P.length cl)).toArray
      have hlt : bA < bO + 1 := by have := h.ne; have := hbAO; omega
      exact ⟨.slice qv R.length cv, .slice ql P.length cl, R, rfl, h.hT.off h.oT hlt hof, hf, by omega, rfl, h.hP.off h.oL hlt hof, hO, h.oT.le (Nat.le_succ_of_le h.le), fun c hc => Nat.le_trans (Nat.le_succ_of_le h.le) (h.oL c hc)⟩
end Go.Proofs.YtefjdmjkofaajaaGreatDoor
namespace Go.Dm
open Go Go.RowKit
def GotG19 (w : World) (G : TokQ × OpQ × Bool) (e : Ending) : Prop :=
 ∃ v V, e = .returned (.tuple #[.agg #[.string G.1.1, v, .string G.1.2.2], V, .bool G.2.2]) ∧ Cavs w v G.1.2.1 ∧ OpAt w V G.2.1
theorem GotG19.no (w : World) : GotG19 w noG (.returned (.tuple #[.agg zTk.toArray, .agg zOp.toArray, .bool false])) :=
 ⟨_, _, rfl, Sl.nil _ _, ⟨.slice none 0 0, .slice none 0 0, [], rfl, Terms.nil w, (fun r hr => by cases hr), by simp, rfl, Pairs.nil w, OkO.zero⟩⟩
end Go.Dm
namespace Go.Proofs.YtefjdmjkofaajaaGreatDoor
open Go.RowKit Go.Dm
set_option maxHeartbeats 4000000 in
set_option maxRecDepth 100000 in
theorem open19_w (s : ByteArray) (w : World) (hs : s.size ≤ 281474976710656) :
  Calls Tryz.prog 21 #[.string s] w fun e w' => GotG19 w' (openG s.data.toList) e ∧ Ext w w' := by
 have CG := fun U => get07_w s 0 U hs
 unfold openG
 rw [show s.data.toList.length = s.size from rfl]
 obtain ⟨⟨⟨tn, L, sg⟩, q, b⟩, hK⟩ : ∃ K, getTok s.data.toList 0 = K := ⟨_, rfl⟩
 rw [hK] at CG ⊢
 have CO := fun U => rget18_w s q U hs
 obtain ⟨⟨⟨k, ⟨i, n⟩, p, d, ⟨xs, xd, xm, xt⟩, LB⟩, nx, b'⟩, hM⟩ : ∃ M, getO s.data.toList q = M := ⟨_, rfl⟩
 simp only
 rw [hM] at CO ⊢
 clear hK hM
 obtain ⟨G, hG⟩ : ∃ g, (if b = false then noG else if b' = false ∨ nx ≠ (s.size : Int) then noG else ((tn, L, sg), (k, (i, n), p, d, (xs, xd, xm, xt), LB), true)) = g := ⟨_, rfl⟩
 rw [hG]
 replace hG := Lib.hid hG
 unfold GotKB at CG
 unfold GotO opV at CO
 simp only at CG CO ⊢
 replace CG := Lib.hid CG
 replace CO := Lib.hid CO
 obtain ⟨w1, hW1, hR2, hE1, s1⟩ := new_row w 55 zTk
 obtain ⟨w2, hW2, hR3, hE2, s2⟩ := new_row w1 45 zOp
 replace hR2 := hR2.ext hE2
 have hE := hE1.trans hE2
 obtain ⟨b2, hb2⟩ : ∃ x, w.heap.size = x := ⟨_, rfl⟩
 obtain ⟨b3, hb3⟩ : ∃ x, w1.heap.size = x := ⟨_, rfl⟩
 have h23 : b2 ≠ b3 := by omega
 have hw2 : w.heap.size ≤ b2 := by omega
 have hw3 : w.heap.size ≤ b3 := by omega
 rw [hb2] at hR2
 rw [hb3] at hR3
 clear hE1 hE2 s1 s2
 go_enter Tryz.func21, Tryz.ntmps21
 go_upto_region 1 with fail
 clear hW1 hW2 hb2 hb3
 go_wp2_with fail
 have l2 := hR2.lt
 have l3 := hR3.lt
 refine (CG.out _).mono ?_; rintro e_ w3 ⟨⟨vt, rfl, hcv, hown⟩, h3⟩
 have ho2 : ∀ c, vt.ownBlock = some c → c ≠ b2 ∧ c ≠ b3 := fun c hc => by have := hown c hc; omega
 clear hown l2 l3
 replace hR2 := hR2.ext h3
 replace hR3 := hR3.ext h3
 replace hE := hE.trans h3
 clear h3
 obtain ⟨TR, hTR⟩ : ∃ x, [Value.string tn, vt, .string sg] = x := ⟨_, rfl⟩
 have oT : TR.toArray.all (·.oneCell') = true := by obtain ⟨_, _, rfl, _, _⟩ := hcv.shape; rw [← hTR]; kernel_rfl
 have nT : zTk.toArray.size = TR.toArray.size := by rw [← hTR]; rfl
 have iT : (Tryz.prog.info? 55).map (·.size) = some TR.toArray.size := by rw [← nT]; kernel_rfl
 rw [hTR]
 obtain ⟨w4, hW4, hB4, hE4, -⟩ := new_row w3 55 zTk
 obtain ⟨w5, hW5, hB5, -, hEx⟩ := set_row hB4 TR
 obtain ⟨b6, hb6⟩ : ∃ x, w3.heap.size = x := ⟨_, rfl⟩
 have h5 := hEx w3 hE4 (Nat.le_refl _)
 have h26 : b2 ≠ b6 := by have := hR2.lt; omega
 have h36 : b3 ≠ b6 := by have := hR3.lt; omega
 rw [hb6] at hB4 hB5 hW5
 clear hEx hE4
 go_upto_region 2 with (refine wpList_store_row (cells := TR.toArray) rfl 55 _ _ rfl b6 rfl rfl _ _ hB4 iT nT oT ?_)
 try rw [hW5]
 clear hW4 hW5 hb6 hB4
 replace hR2 := hR2.ext h5
 replace hR3 := hR3.ext h5
 replace hE := hE.trans h5
 replace hcv := Sl.ext hcv h5
 clear h5
 cases b with
 | false =>
  have hGe : noG = G := by rw [← hG.out, if_pos rfl]
  subst hGe
  clear hG hTR oT nT iT hcv ho2 hB5 CG CO
  have hR3f := hR3.farRow (c := b2) h23 zTk.toArray
  have hZ2 := (hR2.setRow zTk).farRow (c := b3) (Ne.symm h23) zOp.toArray
  have hZ3 := hR3f.setRow zOp
  go_wp2_with (first | (refine wpList_store_row (cells := zTk.toArray) rfl 55 _ _ rfl b2 rfl rfl _ _ hR2 (by kernel_rfl) rfl (by kernel_rfl) ?_) | (refine wpList_store_row (cells := zOp.toArray) rfl 45 _ _ rfl b3 rfl rfl _ _ hR3f (by kernel_rfl) rfl (by kernel_rfl) ?_))
  refine bodyPost_ret (results_rows2 (p1 := 2) (p2 := 3) (t := 4) rfl _ _ _ _ _ _ _ rfl hZ2 Tryz.underlying55 rfl (by kernel_rfl) _ _ _ _ _ rfl hZ3 Tryz.underlying45 rfl (by kernel_rfl)) rfl ?_
  exact ⟨GotG19.no _, Ext.setRow (Ext.setRow hE hw2 _) hw3 _⟩
 | true =>
  have l2 := hR2.lt
  have l3 := hR3.lt
  go_wp2_with fail
  refine (CO.out _).mono ?_; rintro e_ w6 ⟨⟨v_, l_, R, rfl, hT, hfR, hRl, hRT, hP, hok, hOT, hOP⟩, h6⟩
  replace hR2 := hR2.ext h6
  replace hR3 := hR3.ext h6
  replace hB5 := hB5.ext h6
  replace hE := hE.trans h6
  replace hcv := Sl.ext hcv h6
  clear h6 CG CO
  subst hRT
  obtain ⟨OR, hOR⟩ : ∃ x, [Value.int .i64 k, .int .u64 (i : Nat), .int .u64 (n : Nat), .string p, .int .u64 (vG d 0 : Nat), .int .u64 (vG d 1 : Nat), .int .u64 (vG d 2 : Nat), .int .u64 (vG d 3 : Nat), .string xs, .int .u64 (vG xd 0 : Nat), .int .u64 (vG xd 1 : Nat), .int .u64 (vG xd 2 : Nat), .int .u64 (vG xd 3 : Nat), .int .i64 xm.1, .int .i64 xm.2.1, .int .i64 xm.2.2, v_, l_] = x := ⟨_, rfl⟩
  have oO : OR.toArray.all (·.oneCell') = true := by obtain ⟨_, _, rfl, _, _⟩ := hT.shape; obtain ⟨_, _, rfl, _, _⟩ := hP.shape; rw [← hOR]; kernel_rfl
  have nO : zOp.toArray.size = OR.toArray.size := by rw [← hOR]; rfl
  have iO : (Tryz.prog.info? 45).map (·.size) = some OR.toArray.size := by rw [← nO]; kernel_rfl
  rw [hOR]
  obtain ⟨w7, hW7, hB7, hE7, -⟩ := new_row w6 45 zOp
  obtain ⟨w8, hW8, hB8, -, hEx⟩ := set_row hB7 OR
  obtain ⟨b9, hb9⟩ : ∃ x, w6.heap.size = x := ⟨_, rfl⟩
  have h8 := hEx w6 hE7 (Nat.le_refl _)
  have h29 : b2 ≠ b9 := by have := hR2.lt; omega
  have h39 : b3 ≠ b9 := by have := hR3.lt; omega
  rw [hb9] at hB7 hB8 hW8
  clear hEx hE7
  go_upto_region 5 with (refine wpList_store_row (cells := OR.toArray) rfl 45 _ _ rfl b9 rfl rfl _ _ hB7 iO nO oO ?_)
  try rw [hW8]
  clear hW7 hW8 hb9 hB7
  replace hR2 := hR2.ext h8
  replace hR3 := hR3.ext h8
  replace hB5 := hB5.ext h8
  replace hE := hE.trans h8
  replace hcv := Sl.ext hcv h8
  replace hT := hT.ext h8
  replace hP := hP.ext h8
  clear h8
  by_cases hyes : b' = true ∧ nx = (s.size : Int)
  ·obtain ⟨rfl, rfl⟩ := hyes
   have hGe : ((tn, L, sg), (k, (i, n), p, d, (xs, xd, xm, R.map rowT), LB), true) = G := by rw [← hG.out]; simp
   subst hGe
   clear hG
   go_upto_region 7 with fail
   have HI : RB b6 55 TR w8 ∧ RB b9 45 OR w8 := ⟨hB5, hB8⟩
   refine sx_ ?_
   refine rf_ (fun U => RB b6 55 TR U ∧ RB b9 45 OR U) 4 5 ?_
   refine tfs [0, 1] 3 3 (fun _ _ h hx => ⟨h.1.ext hx, h.2.ext hx⟩) HI ?_ (hq := by intro wq hwq; obtain ⟨q1, q2⟩ := hwq; go_big_quiet_want; refine quiet_load_row 55 _ rfl b6 rfl _ _ _ _ (fun _ hw => by obtain ⟨_, rfl⟩ := hw; exact q1.ext (ext_grow _ _)) Tryz.underlying55 rfl iT ?_; simp only [Act.put, List.setIfInBounds_toArray, List.set_cons_succ, List.set_cons_zero]; go_big_quiet_on; go_big_quiet_want; refine quiet_load_row 45 _ rfl b9 rfl _ _ _ _ (fun _ hw => by obtain ⟨_, rfl⟩ := hw; exact q2.ext (ext_grow _ _)) Tryz.underlying45 rfl iO ?_; simp only [Act.put, List.setIfInBounds_toArray, List.set_cons_succ, List.set_cons_zero]; go_big_quiet_on; exact wpQuiet_nil rfl)
   refine f1_ 2 7 fun wm2 hxm2 => ?_
   obtain ⟨x2, x3, x6, x9, xE, xc, xT, xP⟩ := (⟨hR2.ext hxm2, hR3.ext hxm2, hB5.ext hxm2, hB8.ext hxm2, hE.trans hxm2, Sl.ext hcv hxm2, hT.ext hxm2, hP.ext hxm2⟩ : _ ∧ _ ∧ _ ∧ _ ∧ _ ∧ _ ∧ _ ∧ _)
   go_wp2_with (refine wpList_store_row (cells := TR.toArray) rfl 55 _ _ rfl b2 rfl rfl _ _ x2 iT nT oT ?_)
   clear hR2 hR3 hB5 hB8 hE hcv hT hP
   have hof := (Off.refl b2 wm2).setRow TR.toArray
   have hR2 : RB b2 55 TR _ := x2.setRow TR
   have hR3 := row_kept x3 (Ne.symm h23) TR.toArray
   have hB5 := row_kept x6 (Ne.symm h26) TR.toArray
   have hB8 := row_kept x9 (Ne.symm h29) TR.toArray
   have hE : Ext w (wm2.setRow b2 TR.toArray) := Ext.setRow xE hw2 _
   have hcv := Sl.off xc hof (fun c hc => (ho2 c hc).1)
   have hT := xT.off hOT l2 hof
   have hP := xP.off hOP l2 hof
   clear x2 x3 x6 x9 xE xc xT xP hof
   generalize wm2.setRow b2 TR.toArray = wm2a at *
   refine ⟨fun _ => ⟨hB5, hB8⟩, ?_⟩
   refine sx_ ?_
   refine f1_ 3 15 fun wm3 hxm3 => ?_
   obtain ⟨x2, x3, x6, x9, xE, xc, xT, xP⟩ := (⟨hR2.ext hxm3, hR3.ext hxm3, hB5.ext hxm3, hB8.ext hxm3, hE.trans hxm3, Sl.ext hcv hxm3, hT.ext hxm3, hP.ext hxm3⟩ : _ ∧ _ ∧ _ ∧ _ ∧ _ ∧ _ ∧ _ ∧ _)
   go_wp2_with (refine wpList_store_row (cells := OR.toArray) rfl 45 _ _ rfl b3 rfl rfl _ _ x3 iO nO oO ?_)
   clear hR2 hR3 hB5 hB8 hE hcv hT hP
   have hof := (Off.refl b3 wm3).setRow OR.toArray
   have hR2 := row_kept x2 h23 OR.toArray
   have hR3 : RB b3 45 OR _ := x3.setRow OR
   have hB5 := row_kept x6 (Ne.symm h36) OR.toArray
   have hB8 := row_kept x9 (Ne.symm h39) OR.toArray
   have hE : Ext w (wm3.setRow b3 OR.toArray) := Ext.setRow xE hw3 _
   have hcv := Sl.off xc hof (fun c hc => (ho2 c hc).2)
   have hT := xT.off hOT l3 hof
   have hP := xP.off hOP l3 hof
   clear x2 x3 x6 x9 xE xc xT xP hof
   generalize wm3.setRow b3 OR.toArray = wm3a at *
   refine ⟨fun _ => ⟨hB5, hB8⟩, ?_⟩
   refine sx_ ?_
   refine f1_ 4 31 fun wz hxz => ?_
   skip
   go_wp2_with fail
   first | refine ⟨fun h => absurd h (by decide), ?_⟩ | skip
   refine fd_ fun wy hxy => ?_
   have hZ2 := (hR2.ext hxz).ext hxy
   have hZ3 := (hR3.ext hxz).ext hxy
   replace hE := (hE.trans hxz).trans hxy
   replace hcv := Sl.ext (Sl.ext hcv hxz) hxy
   replace hT := (hT.ext hxz).ext hxy
   replace hP := (hP.ext hxz).ext hxy
   go_wp2
   refine bodyPost_ret (results_rows2 (p1 := 2) (p2 := 3) (t := 4) rfl _ _ _ _ _ _ _ rfl hZ2 Tryz.underlying55 rfl iT _ _ _ _ _ rfl hZ3 Tryz.underlying45 rfl iO) rfl ?_
   exact ⟨⟨vt, .agg OR.toArray, by rw [← hTR]; rfl, hcv, ⟨_, _, R, by rw [← hOR]; rfl, hT, hfR, hRl, rfl, hP, hok⟩⟩, hE⟩
  ·have hGe : noG = G := by
    rw [← hG.out, if_neg (by decide), if_pos]
    rcases Bool.eq_false_or_eq_true b' with h | h
    ·exact Or.inr fun e => hyes ⟨h, e⟩
    ·exact Or.inl h
   subst hGe
   clear hG hTR oT nT iT hcv ho2 hB5 hOR oO nO iO hB8 hT hP hOT hOP
   have hne : b' = true → ¬ (nx = (s.size : Int)) := fun h e => hyes ⟨h, e⟩
   clear hyes
   cases b'
   case' true => have hne := hne rfl
   all_goals
    have hR3f := hR3.farRow (c := b2) h23 zTk.toArray
    have hZ2 := (hR2.setRow zTk).farRow (c := b3) (Ne.symm h23) zOp.toArray
    have hZ3 := hR3f.setRow zOp
    go_wp2_with (first | (refine wpList_store_row (cells := zTk.toArray) rfl 55 _ _ rfl b2 rfl rfl _ _ hR2 (by kernel_rfl) rfl (by kernel_rfl) ?_) | (refine wpList_store_row (cells := zOp.toArray) rfl 45 _ _ rfl b3 rfl rfl _ _ hR3f (by kernel_rfl) rfl (by kernel_rfl) ?_))
    refine bodyPost_ret (results_rows2 (p1 := 2) (p2 := 3) (t := 4) rfl _ _ _ _ _ _ _ rfl hZ2 Tryz.underlying55 rfl (by kernel_rfl) _ _ _ _ _ rfl hZ3 Tryz.underlying45 rfl (by kernel_rfl)) rfl ?_
    exact ⟨GotG19.no _, Ext.setRow (Ext.setRow hE hw2 _) hw3 _⟩
end Go.Proofs.YtefjdmjkofaajaaGreatDoor
namespace Go.Dm
open Go Go.RowKit
structure CelP (b o : Nat) (a0 a1 : Value) (w : World) : Prop where
 lt : b < w.heap.size
 c0 : w.cell? ⟨b, o, none⟩ = some a0
 c1 : w.cell? ⟨b, o + 1, none⟩ = some a1
theorem CelP.ext {b o : Nat} {a0 a1 : Value} {w w' : World} (h : CelP b o a0 a1 w) (hx : Ext w w') : CelP b o a0 a1 w' := by
 have hc : ∀ {i : Nat} {u}, w.cell? ⟨b, i, none⟩ = some u → w'.cell? ⟨b, i, none⟩ = some u := fun {i u} e => by rw [hx.cell (by exact h.lt)]; exact e
 exact ⟨Nat.lt_of_lt_of_le h.lt hx.size, hc h.c0, hc h.c1⟩
end Go.Dm
namespace Go.Proofs.YtefjdmjkofaajaaGreatDoor
open Go.RowKit Go.Dm
set_option maxHeartbeats 4000000 in
set_option maxRecDepth 100000 in
theorem refT_w (tn sg : ByteArray) (v : Value) (L : List Cav) (w : World) (hl : L.length ≤ 4398046511103) (hx : Cavs w v L) :
  Calls Tryz.prog 17 #[.agg #[.string tn, v, .string sg]] w fun e w' => ∃ r, e = .returned (.agg #[.string tn, r, .string sg]) ∧ Cavs w' r L ∧ Ext w w' := by
 obtain ⟨q, cap, rfl, _, _⟩ := hx.shape
 obtain ⟨w1, hW1⟩ : ∃ x, w.alloc (.cells #[.string tn, .slice q L.length cap, .string sg] 24) = x := ⟨_, rfl⟩
 have hA : CB w.heap.size [.string tn, .slice q L.length cap, .string sg] w1 := hW1 ▸ CB.new w #[.string tn, .slice q L.length cap, .string sg] 24
 have s1 : w1.heap.size = w.heap.size + 1 := by rw [← hW1]; exact World.size_alloc ..
 have hE1 : Ext w w1 := hW1 ▸ (Ext.refl _).alloc _
 obtain ⟨w2, hW2⟩ : ∃ x, w1.alloc (.cells #[.string ⟨#[]⟩, .slice none 0 0, .string ⟨#[]⟩] 55) = x := ⟨_, rfl⟩
 have hR : CB w1.heap.size [.string ⟨#[]⟩, .slice none 0 0, .string ⟨#[]⟩] w2 := hW2 ▸ CB.new w1 #[.string ⟨#[]⟩, .slice none 0 0, .string ⟨#[]⟩] 55
 have s2 : w2.heap.size = w1.heap.size + 1 := by rw [← hW2]; exact World.size_alloc ..
 have hE2 : Ext w1 w2 := hW2 ▸ (Ext.refl _).alloc _
 have hB : CB w2.heap.size [.string tn, .slice none 0 0, .string sg] (w2.alloc (.cells #[.string tn, .slice none 0 0, .string sg] 55)) := CB.new w2 #[.string tn, .slice none 0 0, .string sg] 55
 have hE3 : Ext w2 (w2.alloc (.cells #[.string tn, .slice none 0 0, .string sg] 55)) := (Ext.refl _).alloc _
 have s3 : (w2.alloc (.cells #[.string tn, .slice none 0 0, .string sg] 55)).heap.size = w2.heap.size + 1 := World.size_alloc ..
 replace hA := hA.ext hE2
 replace hR := hR.ext hE3
 have hE := hE1.trans hE2
 obtain ⟨bA, hbA⟩ : ∃ x, w.heap.size = x := ⟨_, rfl⟩
 obtain ⟨bR, hbR⟩ : ∃ x, w1.heap.size = x := ⟨_, rfl⟩
 have hx2 := hx.ext hE
 rw [hbA] at hA
 rw [hbR] at hR
 obtain ⟨al, a0, a1, a2, af0, af1, af2⟩ := hA.cells3
 have hAR0 : bA < bR ∧ bR < w2.heap.size ∧ w.heap.size ≤ bA := ⟨by omega, by omega, by omega⟩
 clear s1 s2
 go_enter Tryz.func17, Tryz.ntmps17
 go_upto_region 2 with fail
 clear al a0 a1 a2 af0 af1 af2
 generalize w2.alloc (.cells #[.string tn, .slice none 0 0, .string sg] 55) = w4 at *
 have hAR : bA < bR ∧ bR < w2.heap.size ∧ w.heap.size ≤ bA ∧ w2.heap.size + 1 ≤ w4.heap.size := ⟨hAR0.1, hAR0.2.1, hAR0.2.2, by omega⟩
 clear hW1 hW2 hbA hbR s3 hE1 hE2 hAR0
 generalize hbB : w2.heap.size = bB at *
 have hwB : w2.heap.size ≤ bB := by omega
 clear hbB
 have hA2 := hA
 go_wp2_with fail
 go_loopw [4] (fun i wr => ∃ (k : Nat) (v : Value), k ≤ L.length ∧ i = .int .i64 (k : Nat) ∧ Ext w2 wr ∧ bB + 1 ≤ wr.heap.size ∧ wr.ownsRow (bB + 1) 88 2 v k (cavC (L.take k)) ∧ CB bB [.string tn, v, .string sg] wr ∧ CB bR [.string ⟨#[]⟩, .slice none 0 0, .string ⟨#[]⟩] wr) (fun i _ => L.length - (intOf i).toNat)
 case atStart => exact ⟨0, .slice none 0 0, by omega, rfl, hE3, hAR.2.2.2, World.ownsRow_nil _ _ _ _, hB, hR⟩
 case round =>
  obtain ⟨k, v, hk, rfl, g1, g2, g3, g4, g5⟩ := hrel
  clear hR hB hE3
  obtain ⟨q3, cp3, rfl, hq1, hq2, hq0⟩ := (Sl.of_owns g3).shape
  have hA3 := hA.ext g1
  by_cases hlt : k < L.length
  ·have hlti : (k : Int) < (L.length : Int) := by omega
   obtain ⟨bb, off, rfl, hbl, c0, c1⟩ := hx2.at hlt
   have hst : Hid (cavC (L.take (k + 1)) = cavC (L.take k) ++ [.int .i64 (L.getD k (0, 0)).1, .int .u64 ((L.getD k (0, 0)).2 : Nat)]) := by
    show _ = _
    rw [List.take_add_one, cavC_app, show L[k]? = some (L.getD k (0, 0)) by rw [List.getD_eq_getElem?_getD, List.getElem?_eq_getElem hlt]; rfl]
    rfl
   generalize (L.getD k (0, 0)).1 = z at *
   generalize (L.getD k (0, 0)).2 = n at *
   obtain ⟨al, a0, a1, a2, af0, af1, af2⟩ := hA3.cells3
   obtain ⟨xl, x0, x1, x2, xf0, xf1, xf2⟩ := g4.cells3
   have hne : ∀ c, (Value.slice q3 k cp3).ownBlock = some c → c ≠ bB ∧ c ≠ bR := fun c hc => by have := (g3.lt c hc).1; omega
   have hI2 : CelP bb (off + k * 2) (.int .i64 z) (.int .u64 (n : Nat)) w2 := ⟨hbl, c0, c1⟩
   clear c0 c1 hbl
   go_upto_region 5 with fail
   clear xl x0 x1 x2 xf0 xf1 xf2
   clear al a0 a1 a2 af0 af1 af2
   have HI : Cel3 bA (.string tn) (.slice (some ⟨bb, off, none⟩) L.length cap) (.string sg) wr ∧ Cel3 bB (.string tn) (.slice q3 k cp3) (.string sg) wr ∧ CelP bb (off + k * 2) (.int .i64 z) (.int .u64 (n : Nat)) wr := ⟨hA3.c3, g4.c3, hI2.ext g1⟩
   clear hA3
   refine sx_ ?_
   refine rf_ (fun U => Cel3 bA (.string tn) (.slice (some ⟨bb, off, none⟩) L.length cap) (.string sg) U ∧ Cel3 bB (.string tn) (.slice q3 k cp3) (.string sg) U ∧ CelP bb (off + k * 2) (.int .i64 z) (.int .u64 (n : Nat)) U) 18 19 ?_
   refine tfs (List.range' 0 15) 32767 4 (fun _ _ h hx => ⟨h.1.ext hx, h.2.1.ext hx, h.2.2.ext hx⟩) HI ?_ (hq := by intro wq hwq; obtain ⟨⟨al, a0, a1, a2⟩, ⟨xl, x0, x1, x2⟩, ⟨bl, c0, c1⟩⟩ := hwq; (repeat go_big_quiet_step (fail)); exact wpQuiet_nil rfl)
   refine f1_ 15 65535 fun wm15 hxm15 => ?_
   obtain ⟨p1, p2, p3, p4, p5⟩ := (⟨g1.trans hxm15, Nat.le_trans g2 (hxm15).size, Ext.row g3 hxm15, g4.ext hxm15, g5.ext hxm15⟩ : _ ∧ _ ∧ _ ∧ _ ∧ _)
   have e15 := (Ext.refl wm15).alloc (.cells #[.int .i64 z, .int .u64 (n : Nat)] 88)
   have hl15 := Sl.lit wm15 88 2 1 #[.int .i64 z, .int .u64 (n : Nat)] rfl (by simp [maxLen])
   go_wp2_with fail
   generalize wm15.alloc (.cells #[.int .i64 z, .int .u64 (n : Nat)] 88) = w15 at *
   have hx15 := hxm15.trans e15
   replace HI := (⟨HI.1.ext hx15, HI.2.1.ext hx15, HI.2.2.ext hx15⟩ : _ ∧ _ ∧ _)
   replace p1 := p1.trans e15
   replace p2 := Nat.le_trans p2 e15.size
   replace p3 := Ext.row p3 e15
   replace p4 := p4.ext e15
   replace p5 := p5.ext e15
   clear hx15 e15
   refine ⟨fun _ => HI, ?_⟩
   refine sx_ ?_
   refine f1_ 16 131071 fun wm16 hxm16 => ?_
   go_wp2_with (at_builtin; refine wpList_app rfl _ _ Tryz.slCav7 rfl rfl (Ext.row p3 hxm16) rfl (hl15.ext hxm16) (cavC_one [(z, n)]) (by omega) (Nat.le_trans p2 (hxm16).size) ?_; intro v9 w16 ho9 hg9; refine Hid.out ?_)
   have r1 := Ext.app (p1.trans hxm16) (Ext.row p3 hxm16) hg9 (by omega)
   have r2 := Nat.le_trans (Nat.le_trans p2 (hxm16).size) hg9.size
   have r4 := (p4.ext hxm16).grown hg9 (fun e => (hne _ e.symm).1 rfl)
   have r5 := (p5.ext hxm16).grown hg9 (fun e => (hne _ e.symm).2 rfl)
   obtain ⟨q9, cp9, rfl, _, _, _⟩ := (Sl.of_owns ho9).shape
   refine Lib.hid ?_
   have hne9 : ∀ c, (Value.slice q9 (k + 1) cp9).ownBlock = some c → c ≠ bB := fun c hc => by have := (ho9.lt c hc).1; omega
   clear p1 p2 p3 p4 p5 hl15 hg9 HI
   go_wp2
   refine ⟨fun _ => ⟨(hA2.ext r1).c3, r4.c3, hI2.ext r1⟩, ?_⟩
   have HI : _ ∧ _ ∧ _ := ⟨(hA2.ext r1).c3, r4.c3, hI2.ext r1⟩
   refine sx_ ?_
   refine tfs [17] 262143 1 (fun _ _ h hx => ⟨h.1.ext hx, h.2.1.ext hx, h.2.2.ext hx⟩) HI ?_ (hq := by intro wq hwq; obtain ⟨⟨al, a0, a1, a2⟩, ⟨xl, x0, x1, x2⟩, ⟨bl, c0, c1⟩⟩ := hwq; go_big_quiet_step (fail); exact wpQuiet_nil rfl)
   refine f1_ 18 524287 fun wz hxz => ?_
   obtain ⟨yl, y0, y1, y2, yf0, yf1, yf2⟩ := (r4.ext hxz).cells3
   go_wp2_with fail
   first | refine ⟨fun h => absurd h (by decide), ?_⟩ | skip
   refine fd_ fun wy hxy => ?_
   have k4 := ((r4.ext hxz).set 1 (.slice q9 (k + 1) cp9) (by simp)).ext hxy
   have k5 := ((r5.ext hxz).far (c := bB) (i := 1) (by omega) (.slice q9 (k + 1) cp9)).ext hxy
   have k1 := Ext.trans (Below.setCell (r1.trans hxz) (p := ⟨bB, 1, none⟩) hwB (.slice q9 (k + 1) cp9)) hxy
   have k3 := Ext.row ((Ext.row ho9 hxz).kept (grown_set wz bB 1 (.slice q9 (k + 1) cp9)) (Or.inr fun e => hne9 _ e rfl)) hxy
   have k2 : bB + 1 ≤ wy.heap.size := Nat.le_trans (by rw [World.size_setCell]; exact Nat.le_trans r2 hxz.size) hxy.size
   clear yl y0 y1 y2 yf0 yf1 yf2
   clear HI r1 r2 r4 r5 ho9
   go_wp2
   go_roundw
   case rel => exact ⟨k + 1, .slice q9 (k + 1) cp9, by omega, by go_num, k1, k2, by rw [hst.out]; exact k3, k4, k5⟩
   case measure => simp [intOf]; omega
  ·obtain rfl : k = L.length := by omega
   rw [List.take_length] at g3
   obtain ⟨al, a0, a1, a2, af0, af1, af2⟩ := hA3.cells3
   obtain ⟨xl, x0, x1, x2, xf0, xf1, xf2⟩ := g4.cells3
   obtain ⟨yl, y0, y1, y2, yf0, yf1, yf2⟩ := g5.cells3
   have hne : ∀ c, (Value.slice q3 L.length cp3).ownBlock = some c → c ≠ bR := fun c hc => by have := (g3.lt c hc).1; omega
   have hz := g5.put3 (.string tn) (.slice q3 L.length cp3) (.string sg)
   obtain ⟨_, k0, k1, k2, _, _, _⟩ := hz.cells3
   have hcv : Cavs wr (.slice q3 L.length cp3) L := Sl.of_owns g3
   go_wp2
   refine bodyPost_ret (v := .agg #[.string tn, .slice q3 L.length cp3, .string sg]) (by simp [results, Tryz.results17, go_sem, k0, k1, k2]) rfl ?_
   exact ⟨_, rfl, sl_set (sl_set (sl_set hcv hne _) hne _) hne _, Ext.cput3 (hE.trans g1) (by omega) _ _ _⟩
set_option maxHeartbeats 4000000 in
set_option maxRecDepth 100000 in
theorem sameT_w (tn sg : ByteArray) (v v' : Value) (L : List Cav) (w : World) (hl : L.length ≤ 4398046511103) (hx : Cavs w v L) (hy : Cavs w v' L) :
  Calls Tryz.prog 22 #[.agg #[.string tn, v, .string sg], .agg #[.string tn, v', .string sg]] w fun e w' => e = .returned (.bool true) ∧ Ext w w' := by
 obtain ⟨q, cap, rfl, _, _⟩ := hx.shape
 obtain ⟨q', cap', rfl, _, _⟩ := hy.shape
 have CR := fun U (h : Ext w U) => refT_w tn sg _ L U hl (hx.ext h)
 obtain ⟨w1, hW1⟩ : ∃ x, w.alloc (.cells #[.string tn, .slice q L.length cap, .string sg] 24) = x := ⟨_, rfl⟩
 have hA : CB w.heap.size [.string tn, .slice q L.length cap, .string sg] w1 := hW1 ▸ CB.new w #[.string tn, .slice q L.length cap, .string sg] 24
 have s1 : w1.heap.size = w.heap.size + 1 := by rw [← hW1]; exact World.size_alloc ..
 have hE1 : Ext w w1 := hW1 ▸ (Ext.refl _).alloc _
 obtain ⟨w2, hW2⟩ : ∃ x, w1.alloc (.cells #[.string tn, .slice q' L.length cap', .string sg] 55) = x := ⟨_, rfl⟩
 have hR : CB w1.heap.size [.string tn, .slice q' L.length cap', .string sg] w2 := hW2 ▸ CB.new w1 #[.string tn, .slice q' L.length cap', .string sg] 55
 have hE2 : Ext w1 w2 := hW2 ▸ (Ext.refl _).alloc _
 replace hA := hA.ext hE2
 have hE := hE1.trans hE2
 obtain ⟨bA, hbA⟩ : ∃ x, w.heap.size = x := ⟨_, rfl⟩
 obtain ⟨bR, hbR⟩ : ∃ x, w1.heap.size = x := ⟨_, rfl⟩
 rw [hbA] at hA
 rw [hbR] at hR
 replace CR := Lib.hid CR
 obtain ⟨al, a0, a1, a2, af0, af1, af2⟩ := hA.cells3
 clear s1
 go_enter Tryz.func22, Tryz.ntmps22
 go_upto_region 1 with fail
 clear hW1 hW2 hbA hbR hE1 hE2
 go_wp2_with fail
 refine (CR.out _ hE).mono ?_; rintro e_ w3 ⟨r, rfl, hC, h3⟩
 clear al a0 a1 a2 af0 af1 af2
 obtain ⟨q3, cp3, rfl, _, _⟩ := hC.shape
 replace hR := hR.ext h3
 replace hE := hE.trans h3
 clear h3 CR
 have hB := CB.new w3 #[.string tn, .slice q3 L.length cp3, .string sg] 55
 have hE3 : Ext w3 (w3.alloc (.cells #[.string tn, .slice q3 L.length cp3, .string sg] 55)) := (Ext.refl _).alloc _
 go_upto_region 2 with fail
 generalize w3.alloc (.cells #[.string tn, .slice q3 L.length cp3, .string sg] 55) = w4 at *
 generalize w3.heap.size = bB at *
 replace hR := hR.ext hE3
 replace hE := hE.trans hE3
 replace hC := hC.ext hE3
 replace hy := hy.ext hE
 clear hE3
 obtain ⟨al, a0, a1, a2, af0, af1, af2⟩ := hB.cells3
 obtain ⟨xl, x0, x1, x2, xf0, xf1, xf2⟩ := hR.cells3
 go_wp2_with fail
 go_loopw [6] (fun i wr => ∃ k : Nat, k ≤ L.length ∧ i = .int .i64 (k : Nat) ∧ Ext w4 wr) (fun i _ => L.length - (intOf i).toNat)
 case atStart => exact ⟨0, by omega, rfl, Ext.refl _⟩
 case round =>
  obtain ⟨k, hk, rfl, g1⟩ := hrel
  clear al a0 a1 a2 af0 af1 af2
  clear xl x0 x1 x2 xf0 xf1 xf2
  obtain ⟨al, a0, a1, a2, af0, af1, af2⟩ := (hB.ext g1).cells3
  obtain ⟨xl, x0, x1, x2, xf0, xf1, xf2⟩ := (hR.ext g1).cells3
  by_cases hlt : k < L.length
  ·have hlti : (k : Int) < (L.length : Int) := by omega
   obtain ⟨b1, o1, rfl, hb1, c0, c1⟩ := (hC.ext g1).at hlt
   obtain ⟨b2, o2, rfl, hb2, d0, d1⟩ := (hy.ext g1).at hlt
   generalize (L.getD k (0, 0)).1 = z at *
   generalize (L.getD k (0, 0)).2 = n at *
   go_wp2_with fail
   refine Dm.wp_region_grow (by kernel_rfl) (by kernel_rfl) ?_
   repeat (go_big_quiet_step (fail))
   refine wpQuiet_nil ?_
   intro U hU
   clear al a0 a1 a2 af0 af1 af2
   clear xl x0 x1 x2 xf0 xf1 xf2
   clear c0 c1 d0 d1
   go_wp2
   go_roundw
   case rel => exact ⟨k + 1, by omega, by go_num, g1.trans hU⟩
   case measure => simp [intOf]; omega
  ·have hge : ¬ ((k : Int) < (L.length : Int)) := by omega
   go_wp2
   go_ret
   exact ⟨rfl, hE.trans g1⟩
end Go.Proofs.YtefjdmjkofaajaaGreatDoor
