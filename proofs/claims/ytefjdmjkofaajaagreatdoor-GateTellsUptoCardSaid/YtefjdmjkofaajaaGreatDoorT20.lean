/- Texts of the base. -/

import Derived.Test.YtefjdmjkofaajaaGreatDoorT17
import Derived.Test.YtefjdmjkofaajaaGreatDoorT23
import Derived.Test.YtefjdmjkofaajaaGreatDoorT15
namespace Go.Proofs.YtefjdmjkofaajaaGreatDoor
open Go.RowKit Go.Dm
set_option maxHeartbeats 4000000 in
set_option maxRecDepth 100000 in
theorem right18_w (k : Int) (i n : Nat) (p : ByteArray) (d : Vc) (s : ByteArray) (e : Vc) (m : Nums3) (v l : Value) (R : List RowS) (P : List PairS) (w : World)
  (hd : OkV d) (hs : s.size ≤ 1048576) (he : OkV e) (hm : R.length ≤ 35184372088832) (hf : FitR R) (hx : Terms w v R) (hfp : FitP P) (hy : Pairs w l P) :
  Calls Tryz.prog 43 #[opV k i n p (vG d) s (vG e) m v l] w fun e_ w' => e_ = .returned (.bool (rightO (k, (i, n), p, d, (s, e, m, R.map rowT), P))) ∧ Ext w w' := by
 obtain ⟨qv, cv, rfl, _, _⟩ := hx.shape
 obtain ⟨ql, cl, rfl, _, _⟩ := hy.shape
 have CS := fun U (h : Ext w U) => rsame_w s e m _ R ⟨#[]⟩ noV (0, 0, 0) (.slice none 0 0) [] U he okV_no hm hf (hx.ext h) (Terms.nil U)
 have CC := fun U (h : Ext w U) => rcheck_w s e m _ R U hs he hf (hx.ext h)
 have CL := fun U (h : Ext w U) => mright_w P _ U hfp (hy.ext h)
 have qn := fun U => run_neq_vals (P := Tryz.prog) Tryz.underlying39 Tryz.underlying25 (by kernel_rfl) hd okV_no U
 unfold vVal vF at qn
 unfold opV
 obtain ⟨w1, hW1, hO, hE, -⟩ := new_row w 45 [.int .i64 k, .int .u64 (i : Nat), .int .u64 (n : Nat), .string p, .int .u64 (vG d 0 : Nat), .int .u64 (vG d 1 : Nat), .int .u64 (vG d 2 : Nat), .int .u64 (vG d 3 : Nat), .string s, .int .u64 (vG e 0 : Nat), .int .u64 (vG e 1 : Nat), .int .u64 (vG e 2 : Nat), .int .u64 (vG e 3 : Nat), .int .i64 m.1, .int .i64 m.2.1, .int .i64 m.2.2, .slice qv R.length cv, .slice ql P.length cl]
 have hO1 := hO.at 0 rfl
 have hl1 := hO.lt
 obtain ⟨bO, hbO⟩ : ∃ x, w.heap.size = x := ⟨_, rfl⟩
 rw [hbO] at hO hO1 hl1
 have hro : rightO (k, (i, n), p, d, (s, e, m, R.map rowT), P) = match knownF k with
   | none => false
   | some f => eqO (k, (i, n), p, d, (s, e, m, R.map rowT), P) (bareO f (k, (i, n), p, d, (s, e, m, R.map rowT), P)) && ((!f.2.2.2.2.1 || decide (chkX (s, e, m, R.map rowT) = 0)) && (decide (p.size ≤ 98) && rightLab (labL P))) := rfl
 obtain ⟨ro, hr⟩ : ∃ b, rightO (k, (i, n), p, d, (s, e, m, R.map rowT), P) = b := ⟨_, rfl⟩
 rw [hr] at hro
 replace hr := Lib.hid hr
 unfold spVal at CS CC
 rw [show (vG noV) = fun _ => 0 from vG_noV] at CS qn
 simp only [show ((0 : Nat) : Int) = 0 from rfl] at CS qn
 cases hk : knownF k with
 | none =>
  rw [hk] at hro
  obtain rfl : ro = false := hro
  have hkr := knownF_none hk
  clear hk CS CC CL qn
  go_enter Tryz.func43, Tryz.ntmps43
  go_upto_region 3 with fail
  obtain ⟨w2, hW2, hN, h2, -⟩ := new_row w1 39 [.int .u64 0, .int .u64 0, .int .u64 0, .int .u64 0]
  rw [hW2]
  obtain ⟨bN, hbN⟩ : ∃ x, w1.heap.size = x := ⟨_, rfl⟩
  rw [hbN] at hN
  rw [hbN]
  replace hO := hO.ext h2
  replace hE := hE.trans h2
  clear hW1 hW2 hbO hbN hO1 hl1
  rcases hkr with h | h
  ·go_wp2
   go_ret
   exact ⟨by rw [hr.out]; rfl, hE⟩
  ·have h1 : ¬ k < 1 := by omega
   go_wp2
   go_ret
   exact ⟨by rw [hr.out]; rfl, hE⟩
 | some f =>
  rw [hk] at hro
  have hkr := knownF_range hk
  have hfl := flags18 hk
  have hfi := knownF_is hk
  have K1 : ¬ k < 1 := by omega
  have K2 : ¬ 13 < k := by omega
  clear hk hkr
  have FF := fun (f : FuncId) {b : Bool} (h : pick18 f (id18 k, n18 k, path18 k, v18 k, x18 k, labels18 k) = some b) U => flag18_w k h U
  generalize id18 k = b0 at *
  generalize n18 k = b1 at *
  generalize path18 k = b2 at *
  generalize v18 k = b3 at *
  generalize x18 k = b4 at *
  generalize labels18 k = b5 at *
  subst hfl
  unfold eqO bareO at hro
  simp only at hro
  obtain ⟨sx, hsx⟩ : ∃ b, sameX (s, e, m, R.map rowT) noSp = b := ⟨_, rfl⟩
  rw [show sameX (s, e, m, R.map rowT) (⟨#[]⟩, noV, (0, 0, 0), ([] : List RowS).map rowT) = sx from hsx] at CS
  replace hsx := Lib.hid hsx
  generalize chkX (s, e, m, R.map rowT) = ck at *
  generalize rightLab (labL P) = rl at *
  replace FF := Lib.hid FF
  replace CS := Lib.hid CS
  replace CC := Lib.hid CC
  replace CL := Lib.hid CL
  replace qn := Lib.hid qn
  replace hro := Lib.hid hro
  go_enter Tryz.func43, Tryz.ntmps43
  go_upto_region 3 with fail
  obtain ⟨w2, hW2, hN, h2, -⟩ := new_row w1 39 [.int .u64 0, .int .u64 0, .int .u64 0, .int .u64 0]
  rw [hW2]
  obtain ⟨bN, hbN⟩ : ∃ x, w1.heap.size = x := ⟨_, rfl⟩
  rw [hbN] at hN
  rw [hbN]
  replace hO := hO.ext h2
  replace hE := hE.trans h2
  clear hW1 hW2 hbO hbN hO1 hl1
  rcases hfi with h | h | h | h | h | h | h | h <;> (simp only [Prod.mk.injEq] at h; obtain ⟨rfl, rfl, rfl, rfl, rfl, rfl⟩ := h)
  ·skip
   have ol := hO.lt
   have nl := hN.lt
   have o0 := hO.at 0 rfl
   have z0 := hN.at 0 rfl
   have z1 := hN.at 1 rfl
   have z2 := hN.at 2 rfl
   have z3 := hN.at 3 rfl
   have o1 := hO.at 1 rfl
   have o2 := hO.at 2 rfl
   have o3 := hO.at 3 rfl
   have o4 := hO.at 4 rfl
   have o5 := hO.at 5 rfl
   have o6 := hO.at 6 rfl
   have o7 := hO.at 7 rfl
   have o17 := hO.at 17 rfl
   by_cases a0 : i = 0
   rotate_left
   ·have b_ : ((i : Int) != 0) = true := by rw [bne_iff_ne]; omega
    go_wp2_with (first | ((first | go_at_call 45 | go_at_call 46 | go_at_call 47 | go_at_call 49 | go_at_call 51 | go_at_call 53); refine (FF.out _ (by rfl) _).mono ?_; rintro e_ w' ⟨rfl, rfl⟩))
    go_ret
    exact ⟨by rw [hr.out, hro.out]; simp [a0], hE⟩
   have y0 : ((i : Int) != 0) = false := by rw [a0]; rfl
   replace a0 := Lib.hid a0
   by_cases a1 : n = 0
   rotate_left
   ·have b_ : ((n : Int) != 0) = true := by rw [bne_iff_ne]; omega
    go_wp2_with (first | ((first | go_at_call 45 | go_at_call 46 | go_at_call 47 | go_at_call 49 | go_at_call 51 | go_at_call 53); refine (FF.out _ (by rfl) _).mono ?_; rintro e_ w' ⟨rfl, rfl⟩))
    go_ret
    exact ⟨by rw [hr.out, hro.out]; simp [a0.out, a1], hE⟩
   have y1 : ((n : Int) != 0) = false := by rw [a1]; rfl
   replace a1 := Lib.hid a1
   by_cases a2 : p = ⟨#[]⟩
   rotate_left
   ·have b_ : p.toList.isEmpty = false := by
     rw [ByteArray.toList_eq, List.isEmpty_eq_false_iff]
     intro h
     exact a2 (mk_bytes h)
    go_wp2_with (first | ((first | go_at_call 45 | go_at_call 46 | go_at_call 47 | go_at_call 49 | go_at_call 51 | go_at_call 53); refine (FF.out _ (by rfl) _).mono ?_; rintro e_ w' ⟨rfl, rfl⟩))
    go_ret
    exact ⟨by rw [hr.out, hro.out]; simp [a0.out, a1.out, a2], hE⟩
   have y2 : p.toList.isEmpty = true := by rw [a2, ByteArray.toList_eq]; rfl
   replace a2 := Lib.hid a2
   by_cases a3 : d = noV
   rotate_left
   ·have b_ := qn.out
    rw [decide_eq_false a3, Bool.not_false] at b_
    go_wp2_with (first | ((first | go_at_call 45 | go_at_call 46 | go_at_call 47 | go_at_call 49 | go_at_call 51 | go_at_call 53); refine (FF.out _ (by rfl) _).mono ?_; rintro e_ w' ⟨rfl, rfl⟩))
    go_ret
    exact ⟨by rw [hr.out, hro.out]; simp [a0.out, a1.out, a2.out, a3], hE⟩
   have q_ := qn.out
   rw [decide_eq_true a3, Bool.not_true] at q_
   replace a3 := Lib.hid a3
   by_cases a5 : P = []
   rotate_left
   ·have b_ : (0 : Int) < (P.length : Int) := by have := List.length_pos_iff.2 a5; omega
    go_wp2_with (first | ((first | go_at_call 45 | go_at_call 46 | go_at_call 47 | go_at_call 49 | go_at_call 51 | go_at_call 53); refine (FF.out _ (by rfl) _).mono ?_; rintro e_ w' ⟨rfl, rfl⟩))
    go_ret
    exact ⟨by rw [hr.out, hro.out]; simp [a0.out, a1.out, a2.out, a3.out, a5], hE⟩
   have y5 : ¬ (0 : Int) < (P.length : Int) := by rw [a5]; simp
   replace a5 := Lib.hid a5
   have p3 := hO.at 3 rfl
   have p17 := hO.at 17 rfl
   have p8 := hO.at 8 rfl
   have p9 := hO.at 9 rfl
   have p10 := hO.at 10 rfl
   have p11 := hO.at 11 rfl
   have p12 := hO.at 12 rfl
   have p13 := hO.at 13 rfl
   have p14 := hO.at 14 rfl
   have p15 := hO.at 15 rfl
   have p16 := hO.at 16 rfl
   go_wp2_with (first | ((first | go_at_call 45 | go_at_call 46 | go_at_call 47 | go_at_call 49 | go_at_call 51 | go_at_call 53); refine (FF.out _ (by rfl) _).mono ?_; rintro e_ w' ⟨rfl, rfl⟩))
   refine (CC.out _ hE).mono ?_; rintro e_ w6 ⟨rfl, h6⟩
   by_cases c0 : ck = 0
   rotate_left
   ·have ci : ¬ ((ck : Int) = 0) := by omega
    go_wp2_with (first | ((first | go_at_call 45 | go_at_call 46 | go_at_call 47 | go_at_call 49 | go_at_call 51 | go_at_call 53); refine (FF.out _ (by rfl) _).mono ?_; rintro e_ w' ⟨rfl, rfl⟩))
    go_ret
    exact ⟨by rw [hr.out, hro.out]; simp [c0, a0.out, a1.out, a2.out, a3.out, a5.out], hE.trans h6⟩
   subst c0
   replace hO := hO.ext h6
   replace hE := hE.trans h6
   clear h6 ol nl o0 z0 z1 z2 z3 p3 p17 o1 o2 o3 o4 o5 o6 o7 o17 p8 p9 p10 p11 p12 p13 p14 p15 p16
   have ol := hO.lt
   have p3 := hO.at 3 rfl
   have p17 := hO.at 17 rfl
   have h98i : (p.size : Int) ≤ 98 := by rw [a2.out]; decide
   go_wp2_with (first | ((first | go_at_call 45 | go_at_call 46 | go_at_call 47 | go_at_call 49 | go_at_call 51 | go_at_call 53); refine (FF.out _ (by rfl) _).mono ?_; rintro e_ w' ⟨rfl, rfl⟩))
   refine (CL.out _ hE).mono ?_; rintro e_ w7 ⟨rfl, h7⟩
   go_wp2
   go_ret
   exact ⟨by rw [hr.out, hro.out]; simp [a0.out, a1.out, a2.out, a3.out, a5.out, show ByteArray.size ⟨#[]⟩ ≤ 98 from by decide, show sameX (s, e, m, R.map rowT) (s, e, m, R.map rowT) = true from sameX_iff.2 rfl], hE.trans h7⟩
  ·skip
   have ol := hO.lt
   have nl := hN.lt
   have o0 := hO.at 0 rfl
   have z0 := hN.at 0 rfl
   have z1 := hN.at 1 rfl
   have z2 := hN.at 2 rfl
   have z3 := hN.at 3 rfl
   have o2 := hO.at 2 rfl
   have o3 := hO.at 3 rfl
   have o4 := hO.at 4 rfl
   have o5 := hO.at 5 rfl
   have o6 := hO.at 6 rfl
   have o7 := hO.at 7 rfl
   have o17 := hO.at 17 rfl
   by_cases a1 : n = 0
   rotate_left
   ·have b_ : ((n : Int) != 0) = true := by rw [bne_iff_ne]; omega
    go_wp2_with (first | ((first | go_at_call 45 | go_at_call 46 | go_at_call 47 | go_at_call 49 | go_at_call 51 | go_at_call 53); refine (FF.out _ (by rfl) _).mono ?_; rintro e_ w' ⟨rfl, rfl⟩))
    go_ret
    exact ⟨by rw [hr.out, hro.out]; simp [a1], hE⟩
   have y1 : ((n : Int) != 0) = false := by rw [a1]; rfl
   replace a1 := Lib.hid a1
   by_cases a2 : p = ⟨#[]⟩
   rotate_left
   ·have b_ : p.toList.isEmpty = false := by
     rw [ByteArray.toList_eq, List.isEmpty_eq_false_iff]
     intro h
     exact a2 (mk_bytes h)
    go_wp2_with (first | ((first | go_at_call 45 | go_at_call 46 | go_at_call 47 | go_at_call 49 | go_at_call 51 | go_at_call 53); refine (FF.out _ (by rfl) _).mono ?_; rintro e_ w' ⟨rfl, rfl⟩))
    go_ret
    exact ⟨by rw [hr.out, hro.out]; simp [a1.out, a2], hE⟩
   have y2 : p.toList.isEmpty = true := by rw [a2, ByteArray.toList_eq]; rfl
   replace a2 := Lib.hid a2
   by_cases a3 : d = noV
   rotate_left
   ·have b_ := qn.out
    rw [decide_eq_false a3, Bool.not_false] at b_
    go_wp2_with (first | ((first | go_at_call 45 | go_at_call 46 | go_at_call 47 | go_at_call 49 | go_at_call 51 | go_at_call 53); refine (FF.out _ (by rfl) _).mono ?_; rintro e_ w' ⟨rfl, rfl⟩))
    go_ret
    exact ⟨by rw [hr.out, hro.out]; simp [a1.out, a2.out, a3], hE⟩
   have q_ := qn.out
   rw [decide_eq_true a3, Bool.not_true] at q_
   replace a3 := Lib.hid a3
   by_cases a5 : P = []
   rotate_left
   ·have b_ : (0 : Int) < (P.length : Int) := by have := List.length_pos_iff.2 a5; omega
    go_wp2_with (first | ((first | go_at_call 45 | go_at_call 46 | go_at_call 47 | go_at_call 49 | go_at_call 51 | go_at_call 53); refine (FF.out _ (by rfl) _).mono ?_; rintro e_ w' ⟨rfl, rfl⟩))
    go_ret
    exact ⟨by rw [hr.out, hro.out]; simp [a1.out, a2.out, a3.out, a5], hE⟩
   have y5 : ¬ (0 : Int) < (P.length : Int) := by rw [a5]; simp
   replace a5 := Lib.hid a5
   have o8 := hO.at 8 rfl
   have o9 := hO.at 9 rfl
   have o10 := hO.at 10 rfl
   have o11 := hO.at 11 rfl
   have o12 := hO.at 12 rfl
   have o13 := hO.at 13 rfl
   have o14 := hO.at 14 rfl
   have o15 := hO.at 15 rfl
   have o16 := hO.at 16 rfl
   go_wp2_with (first | ((first | go_at_call 45 | go_at_call 46 | go_at_call 47 | go_at_call 49 | go_at_call 51 | go_at_call 53); refine (FF.out _ (by rfl) _).mono ?_; rintro e_ w' ⟨rfl, rfl⟩))
   refine (CS.out _ hE).mono ?_; rintro e_ w5 ⟨rfl, h5⟩
   cases sx with
   | false =>
    go_wp2_with (first | ((first | go_at_call 45 | go_at_call 46 | go_at_call 47 | go_at_call 49 | go_at_call 51 | go_at_call 53); refine (FF.out _ (by rfl) _).mono ?_; rintro e_ w' ⟨rfl, rfl⟩))
    go_ret
    exact ⟨by rw [hr.out, hro.out]; simp [a1.out, a2.out, a3.out, a5.out, hsx.out], hE.trans h5⟩
   | true =>
    replace hO := hO.ext h5
    replace hE := hE.trans h5
    clear h5 ol nl o0 z0 z1 z2 z3
    clear o2 o3 o4 o5 o6 o7 o17 o8 o9 o10 o11 o12 o13 o14 o15 o16
    have ol := hO.lt
    have p3 := hO.at 3 rfl
    have p17 := hO.at 17 rfl
    have h98i : (p.size : Int) ≤ 98 := by rw [a2.out]; decide
    go_wp2_with (first | ((first | go_at_call 45 | go_at_call 46 | go_at_call 47 | go_at_call 49 | go_at_call 51 | go_at_call 53); refine (FF.out _ (by rfl) _).mono ?_; rintro e_ w' ⟨rfl, rfl⟩))
    refine (CL.out _ hE).mono ?_; rintro e_ w7 ⟨rfl, h7⟩
    go_wp2
    go_ret
    exact ⟨by rw [hr.out, hro.out]; simp [a1.out, a2.out, a3.out, a5.out, hsx.out, show ByteArray.size ⟨#[]⟩ ≤ 98 from by decide], hE.trans h7⟩
  ·skip
   have ol := hO.lt
   have nl := hN.lt
   have o0 := hO.at 0 rfl
   have z0 := hN.at 0 rfl
   have z1 := hN.at 1 rfl
   have z2 := hN.at 2 rfl
   have z3 := hN.at 3 rfl
   have o1 := hO.at 1 rfl
   have o2 := hO.at 2 rfl
   have o17 := hO.at 17 rfl
   by_cases a0 : i = 0
   rotate_left
   ·have b_ : ((i : Int) != 0) = true := by rw [bne_iff_ne]; omega
    go_wp2_with (first | ((first | go_at_call 45 | go_at_call 46 | go_at_call 47 | go_at_call 49 | go_at_call 51 | go_at_call 53); refine (FF.out _ (by rfl) _).mono ?_; rintro e_ w' ⟨rfl, rfl⟩))
    go_ret
    exact ⟨by rw [hr.out, hro.out]; simp [a0], hE⟩
   have y0 : ((i : Int) != 0) = false := by rw [a0]; rfl
   replace a0 := Lib.hid a0
   by_cases a1 : n = 0
   rotate_left
   ·have b_ : ((n : Int) != 0) = true := by rw [bne_iff_ne]; omega
    go_wp2_with (first | ((first | go_at_call 45 | go_at_call 46 | go_at_call 47 | go_at_call 49 | go_at_call 51 | go_at_call 53); refine (FF.out _ (by rfl) _).mono ?_; rintro e_ w' ⟨rfl, rfl⟩))
    go_ret
    exact ⟨by rw [hr.out, hro.out]; simp [a0.out, a1], hE⟩
   have y1 : ((n : Int) != 0) = false := by rw [a1]; rfl
   replace a1 := Lib.hid a1
   by_cases a5 : P = []
   rotate_left
   ·have b_ : (0 : Int) < (P.length : Int) := by have := List.length_pos_iff.2 a5; omega
    go_wp2_with (first | ((first | go_at_call 45 | go_at_call 46 | go_at_call 47 | go_at_call 49 | go_at_call 51 | go_at_call 53); refine (FF.out _ (by rfl) _).mono ?_; rintro e_ w' ⟨rfl, rfl⟩))
    go_ret
    exact ⟨by rw [hr.out, hro.out]; simp [a0.out, a1.out, a5], hE⟩
   have y5 : ¬ (0 : Int) < (P.length : Int) := by rw [a5]; simp
   replace a5 := Lib.hid a5
   have o8 := hO.at 8 rfl
   have o9 := hO.at 9 rfl
   have o10 := hO.at 10 rfl
   have o11 := hO.at 11 rfl
   have o12 := hO.at 12 rfl
   have o13 := hO.at 13 rfl
   have o14 := hO.at 14 rfl
   have o15 := hO.at 15 rfl
   have o16 := hO.at 16 rfl
   go_wp2_with (first | ((first | go_at_call 45 | go_at_call 46 | go_at_call 47 | go_at_call 49 | go_at_call 51 | go_at_call 53); refine (FF.out _ (by rfl) _).mono ?_; rintro e_ w' ⟨rfl, rfl⟩))
   refine (CS.out _ hE).mono ?_; rintro e_ w5 ⟨rfl, h5⟩
   cases sx with
   | false =>
    go_wp2_with (first | ((first | go_at_call 45 | go_at_call 46 | go_at_call 47 | go_at_call 49 | go_at_call 51 | go_at_call 53); refine (FF.out _ (by rfl) _).mono ?_; rintro e_ w' ⟨rfl, rfl⟩))
    go_ret
    exact ⟨by rw [hr.out, hro.out]; simp [a0.out, a1.out, a5.out, hsx.out], hE.trans h5⟩
   | true =>
    replace hO := hO.ext h5
    replace hE := hE.trans h5
    clear h5 ol nl o0 z0 z1 z2 z3
    clear o1 o2 o17 o8 o9 o10 o11 o12 o13 o14 o15 o16
    have ol := hO.lt
    have p3 := hO.at 3 rfl
    have p17 := hO.at 17 rfl
    by_cases h98 : p.size ≤ 98
    rotate_left
    ·have h98i : ¬ ((p.size : Int) ≤ 98) := by omega
     go_wp2_with (first | ((first | go_at_call 45 | go_at_call 46 | go_at_call 47 | go_at_call 49 | go_at_call 51 | go_at_call 53); refine (FF.out _ (by rfl) _).mono ?_; rintro e_ w' ⟨rfl, rfl⟩))
     go_ret
     exact ⟨by rw [hr.out, hro.out]; simp [h98, a0.out, a1.out, a5.out, hsx.out], hE⟩
    have h98i : (p.size : Int) ≤ 98 := by omega
    go_wp2_with (first | ((first | go_at_call 45 | go_at_call 46 | go_at_call 47 | go_at_call 49 | go_at_call 51 | go_at_call 53); refine (FF.out _ (by rfl) _).mono ?_; rintro e_ w' ⟨rfl, rfl⟩))
    refine (CL.out _ hE).mono ?_; rintro e_ w7 ⟨rfl, h7⟩
    go_wp2
    go_ret
    exact ⟨by rw [hr.out, hro.out]; simp [h98, a0.out, a1.out, a5.out, hsx.out, show ByteArray.size ⟨#[]⟩ ≤ 98 from by decide], hE.trans h7⟩
  ·skip
   have ol := hO.lt
   have nl := hN.lt
   have o0 := hO.at 0 rfl
   have z0 := hN.at 0 rfl
   have z1 := hN.at 1 rfl
   have z2 := hN.at 2 rfl
   have z3 := hN.at 3 rfl
   have o1 := hO.at 1 rfl
   have o3 := hO.at 3 rfl
   have o4 := hO.at 4 rfl
   have o5 := hO.at 5 rfl
   have o6 := hO.at 6 rfl
   have o7 := hO.at 7 rfl
   have o17 := hO.at 17 rfl
   by_cases a0 : i = 0
   rotate_left
   ·have b_ : ((i : Int) != 0) = true := by rw [bne_iff_ne]; omega
    go_wp2_with (first | ((first | go_at_call 45 | go_at_call 46 | go_at_call 47 | go_at_call 49 | go_at_call 51 | go_at_call 53); refine (FF.out _ (by rfl) _).mono ?_; rintro e_ w' ⟨rfl, rfl⟩))
    go_ret
    exact ⟨by rw [hr.out, hro.out]; simp [a0], hE⟩
   have y0 : ((i : Int) != 0) = false := by rw [a0]; rfl
   replace a0 := Lib.hid a0
   by_cases a2 : p = ⟨#[]⟩
   rotate_left
   ·have b_ : p.toList.isEmpty = false := by
     rw [ByteArray.toList_eq, List.isEmpty_eq_false_iff]
     intro h
     exact a2 (mk_bytes h)
    go_wp2_with (first | ((first | go_at_call 45 | go_at_call 46 | go_at_call 47 | go_at_call 49 | go_at_call 51 | go_at_call 53); refine (FF.out _ (by rfl) _).mono ?_; rintro e_ w' ⟨rfl, rfl⟩))
    go_ret
    exact ⟨by rw [hr.out, hro.out]; simp [a0.out, a2], hE⟩
   have y2 : p.toList.isEmpty = true := by rw [a2, ByteArray.toList_eq]; rfl
   replace a2 := Lib.hid a2
   by_cases a3 : d = noV
   rotate_left
   ·have b_ := qn.out
    rw [decide_eq_false a3, Bool.not_false] at b_
    go_wp2_with (first | ((first | go_at_call 45 | go_at_call 46 | go_at_call 47 | go_at_call 49 | go_at_call 51 | go_at_call 53); refine (FF.out _ (by rfl) _).mono ?_; rintro e_ w' ⟨rfl, rfl⟩))
    go_ret
    exact ⟨by rw [hr.out, hro.out]; simp [a0.out, a2.out, a3], hE⟩
   have q_ := qn.out
   rw [decide_eq_true a3, Bool.not_true] at q_
   replace a3 := Lib.hid a3
   by_cases a5 : P = []
   rotate_left
   ·have b_ : (0 : Int) < (P.length : Int) := by have := List.length_pos_iff.2 a5; omega
    go_wp2_with (first | ((first | go_at_call 45 | go_at_call 46 | go_at_call 47 | go_at_call 49 | go_at_call 51 | go_at_call 53); refine (FF.out _ (by rfl) _).mono ?_; rintro e_ w' ⟨rfl, rfl⟩))
    go_ret
    exact ⟨by rw [hr.out, hro.out]; simp [a0.out, a2.out, a3.out, a5], hE⟩
   have y5 : ¬ (0 : Int) < (P.length : Int) := by rw [a5]; simp
   replace a5 := Lib.hid a5
   have o8 := hO.at 8 rfl
   have o9 := hO.at 9 rfl
   have o10 := hO.at 10 rfl
   have o11 := hO.at 11 rfl
   have o12 := hO.at 12 rfl
   have o13 := hO.at 13 rfl
   have o14 := hO.at 14 rfl
   have o15 := hO.at 15 rfl
   have o16 := hO.at 16 rfl
   go_wp2_with (first | ((first | go_at_call 45 | go_at_call 46 | go_at_call 47 | go_at_call 49 | go_at_call 51 | go_at_call 53); refine (FF.out _ (by rfl) _).mono ?_; rintro e_ w' ⟨rfl, rfl⟩))
   refine (CS.out _ hE).mono ?_; rintro e_ w5 ⟨rfl, h5⟩
   cases sx with
   | false =>
    go_wp2_with (first | ((first | go_at_call 45 | go_at_call 46 | go_at_call 47 | go_at_call 49 | go_at_call 51 | go_at_call 53); refine (FF.out _ (by rfl) _).mono ?_; rintro e_ w' ⟨rfl, rfl⟩))
    go_ret
    exact ⟨by rw [hr.out, hro.out]; simp [a0.out, a2.out, a3.out, a5.out, hsx.out], hE.trans h5⟩
   | true =>
    replace hO := hO.ext h5
    replace hE := hE.trans h5
    clear h5 ol nl o0 z0 z1 z2 z3
    clear o1 o3 o4 o5 o6 o7 o17 o8 o9 o10 o11 o12 o13 o14 o15 o16
    have ol := hO.lt
    have p3 := hO.at 3 rfl
    have p17 := hO.at 17 rfl
    have h98i : (p.size : Int) ≤ 98 := by rw [a2.out]; decide
    go_wp2_with (first | ((first | go_at_call 45 | go_at_call 46 | go_at_call 47 | go_at_call 49 | go_at_call 51 | go_at_call 53); refine (FF.out _ (by rfl) _).mono ?_; rintro e_ w' ⟨rfl, rfl⟩))
    refine (CL.out _ hE).mono ?_; rintro e_ w7 ⟨rfl, h7⟩
    go_wp2
    go_ret
    exact ⟨by rw [hr.out, hro.out]; simp [a0.out, a2.out, a3.out, a5.out, hsx.out, show ByteArray.size ⟨#[]⟩ ≤ 98 from by decide], hE.trans h7⟩
  ·skip
   have ol := hO.lt
   have nl := hN.lt
   have o0 := hO.at 0 rfl
   have z0 := hN.at 0 rfl
   have z1 := hN.at 1 rfl
   have z2 := hN.at 2 rfl
   have z3 := hN.at 3 rfl
   have o1 := hO.at 1 rfl
   have o2 := hO.at 2 rfl
   have o4 := hO.at 4 rfl
   have o5 := hO.at 5 rfl
   have o6 := hO.at 6 rfl
   have o7 := hO.at 7 rfl
   have o17 := hO.at 17 rfl
   by_cases a0 : i = 0
   rotate_left
   ·have b_ : ((i : Int) != 0) = true := by rw [bne_iff_ne]; omega
    go_wp2_with (first | ((first | go_at_call 45 | go_at_call 46 | go_at_call 47 | go_at_call 49 | go_at_call 51 | go_at_call 53); refine (FF.out _ (by rfl) _).mono ?_; rintro e_ w' ⟨rfl, rfl⟩))
    go_ret
    exact ⟨by rw [hr.out, hro.out]; simp [a0], hE⟩
   have y0 : ((i : Int) != 0) = false := by rw [a0]; rfl
   replace a0 := Lib.hid a0
   by_cases a1 : n = 0
   rotate_left
   ·have b_ : ((n : Int) != 0) = true := by rw [bne_iff_ne]; omega
    go_wp2_with (first | ((first | go_at_call 45 | go_at_call 46 | go_at_call 47 | go_at_call 49 | go_at_call 51 | go_at_call 53); refine (FF.out _ (by rfl) _).mono ?_; rintro e_ w' ⟨rfl, rfl⟩))
    go_ret
    exact ⟨by rw [hr.out, hro.out]; simp [a0.out, a1], hE⟩
   have y1 : ((n : Int) != 0) = false := by rw [a1]; rfl
   replace a1 := Lib.hid a1
   by_cases a3 : d = noV
   rotate_left
   ·have b_ := qn.out
    rw [decide_eq_false a3, Bool.not_false] at b_
    go_wp2_with (first | ((first | go_at_call 45 | go_at_call 46 | go_at_call 47 | go_at_call 49 | go_at_call 51 | go_at_call 53); refine (FF.out _ (by rfl) _).mono ?_; rintro e_ w' ⟨rfl, rfl⟩))
    go_ret
    exact ⟨by rw [hr.out, hro.out]; simp [a0.out, a1.out, a3], hE⟩
   have q_ := qn.out
   rw [decide_eq_true a3, Bool.not_true] at q_
   replace a3 := Lib.hid a3
   by_cases a5 : P = []
   rotate_left
   ·have b_ : (0 : Int) < (P.length : Int) := by have := List.length_pos_iff.2 a5; omega
    go_wp2_with (first | ((first | go_at_call 45 | go_at_call 46 | go_at_call 47 | go_at_call 49 | go_at_call 51 | go_at_call 53); refine (FF.out _ (by rfl) _).mono ?_; rintro e_ w' ⟨rfl, rfl⟩))
    go_ret
    exact ⟨by rw [hr.out, hro.out]; simp [a0.out, a1.out, a3.out, a5], hE⟩
   have y5 : ¬ (0 : Int) < (P.length : Int) := by rw [a5]; simp
   replace a5 := Lib.hid a5
   have o8 := hO.at 8 rfl
   have o9 := hO.at 9 rfl
   have o10 := hO.at 10 rfl
   have o11 := hO.at 11 rfl
   have o12 := hO.at 12 rfl
   have o13 := hO.at 13 rfl
   have o14 := hO.at 14 rfl
   have o15 := hO.at 15 rfl
   have o16 := hO.at 16 rfl
   go_wp2_with (first | ((first | go_at_call 45 | go_at_call 46 | go_at_call 47 | go_at_call 49 | go_at_call 51 | go_at_call 53); refine (FF.out _ (by rfl) _).mono ?_; rintro e_ w' ⟨rfl, rfl⟩))
   refine (CS.out _ hE).mono ?_; rintro e_ w5 ⟨rfl, h5⟩
   cases sx with
   | false =>
    go_wp2_with (first | ((first | go_at_call 45 | go_at_call 46 | go_at_call 47 | go_at_call 49 | go_at_call 51 | go_at_call 53); refine (FF.out _ (by rfl) _).mono ?_; rintro e_ w' ⟨rfl, rfl⟩))
    go_ret
    exact ⟨by rw [hr.out, hro.out]; simp [a0.out, a1.out, a3.out, a5.out, hsx.out], hE.trans h5⟩
   | true =>
    replace hO := hO.ext h5
    replace hE := hE.trans h5
    clear h5 ol nl o0 z0 z1 z2 z3
    clear o1 o2 o4 o5 o6 o7 o17 o8 o9 o10 o11 o12 o13 o14 o15 o16
    have ol := hO.lt
    have p3 := hO.at 3 rfl
    have p17 := hO.at 17 rfl
    by_cases h98 : p.size ≤ 98
    rotate_left
    ·have h98i : ¬ ((p.size : Int) ≤ 98) := by omega
     go_wp2_with (first | ((first | go_at_call 45 | go_at_call 46 | go_at_call 47 | go_at_call 49 | go_at_call 51 | go_at_call 53); refine (FF.out _ (by rfl) _).mono ?_; rintro e_ w' ⟨rfl, rfl⟩))
     go_ret
     exact ⟨by rw [hr.out, hro.out]; simp [h98, a0.out, a1.out, a3.out, a5.out, hsx.out], hE⟩
    have h98i : (p.size : Int) ≤ 98 := by omega
    go_wp2_with (first | ((first | go_at_call 45 | go_at_call 46 | go_at_call 47 | go_at_call 49 | go_at_call 51 | go_at_call 53); refine (FF.out _ (by rfl) _).mono ?_; rintro e_ w' ⟨rfl, rfl⟩))
    refine (CL.out _ hE).mono ?_; rintro e_ w7 ⟨rfl, h7⟩
    go_wp2
    go_ret
    exact ⟨by rw [hr.out, hro.out]; simp [h98, a0.out, a1.out, a3.out, a5.out, hsx.out, show ByteArray.size ⟨#[]⟩ ≤ 98 from by decide], hE.trans h7⟩
  ·skip
   have ol := hO.lt
   have nl := hN.lt
   have o0 := hO.at 0 rfl
   have z0 := hN.at 0 rfl
   have z1 := hN.at 1 rfl
   have z2 := hN.at 2 rfl
   have z3 := hN.at 3 rfl
   have o1 := hO.at 1 rfl
   have o2 := hO.at 2 rfl
   have o3 := hO.at 3 rfl
   have o17 := hO.at 17 rfl
   by_cases a0 : i = 0
   rotate_left
   ·have b_ : ((i : Int) != 0) = true := by rw [bne_iff_ne]; omega
    go_wp2_with (first | ((first | go_at_call 45 | go_at_call 46 | go_at_call 47 | go_at_call 49 | go_at_call 51 | go_at_call 53); refine (FF.out _ (by rfl) _).mono ?_; rintro e_ w' ⟨rfl, rfl⟩))
    go_ret
    exact ⟨by rw [hr.out, hro.out]; simp [a0], hE⟩
   have y0 : ((i : Int) != 0) = false := by rw [a0]; rfl
   replace a0 := Lib.hid a0
   by_cases a1 : n = 0
   rotate_left
   ·have b_ : ((n : Int) != 0) = true := by rw [bne_iff_ne]; omega
    go_wp2_with (first | ((first | go_at_call 45 | go_at_call 46 | go_at_call 47 | go_at_call 49 | go_at_call 51 | go_at_call 53); refine (FF.out _ (by rfl) _).mono ?_; rintro e_ w' ⟨rfl, rfl⟩))
    go_ret
    exact ⟨by rw [hr.out, hro.out]; simp [a0.out, a1], hE⟩
   have y1 : ((n : Int) != 0) = false := by rw [a1]; rfl
   replace a1 := Lib.hid a1
   by_cases a2 : p = ⟨#[]⟩
   rotate_left
   ·have b_ : p.toList.isEmpty = false := by
     rw [ByteArray.toList_eq, List.isEmpty_eq_false_iff]
     intro h
     exact a2 (mk_bytes h)
    go_wp2_with (first | ((first | go_at_call 45 | go_at_call 46 | go_at_call 47 | go_at_call 49 | go_at_call 51 | go_at_call 53); refine (FF.out _ (by rfl) _).mono ?_; rintro e_ w' ⟨rfl, rfl⟩))
    go_ret
    exact ⟨by rw [hr.out, hro.out]; simp [a0.out, a1.out, a2], hE⟩
   have y2 : p.toList.isEmpty = true := by rw [a2, ByteArray.toList_eq]; rfl
   replace a2 := Lib.hid a2
   by_cases a5 : P = []
   rotate_left
   ·have b_ : (0 : Int) < (P.length : Int) := by have := List.length_pos_iff.2 a5; omega
    go_wp2_with (first | ((first | go_at_call 45 | go_at_call 46 | go_at_call 47 | go_at_call 49 | go_at_call 51 | go_at_call 53); refine (FF.out _ (by rfl) _).mono ?_; rintro e_ w' ⟨rfl, rfl⟩))
    go_ret
    exact ⟨by rw [hr.out, hro.out]; simp [a0.out, a1.out, a2.out, a5], hE⟩
   have y5 : ¬ (0 : Int) < (P.length : Int) := by rw [a5]; simp
   replace a5 := Lib.hid a5
   have o8 := hO.at 8 rfl
   have o9 := hO.at 9 rfl
   have o10 := hO.at 10 rfl
   have o11 := hO.at 11 rfl
   have o12 := hO.at 12 rfl
   have o13 := hO.at 13 rfl
   have o14 := hO.at 14 rfl
   have o15 := hO.at 15 rfl
   have o16 := hO.at 16 rfl
   go_wp2_with (first | ((first | go_at_call 45 | go_at_call 46 | go_at_call 47 | go_at_call 49 | go_at_call 51 | go_at_call 53); refine (FF.out _ (by rfl) _).mono ?_; rintro e_ w' ⟨rfl, rfl⟩))
   refine (CS.out _ hE).mono ?_; rintro e_ w5 ⟨rfl, h5⟩
   cases sx with
   | false =>
    go_wp2_with (first | ((first | go_at_call 45 | go_at_call 46 | go_at_call 47 | go_at_call 49 | go_at_call 51 | go_at_call 53); refine (FF.out _ (by rfl) _).mono ?_; rintro e_ w' ⟨rfl, rfl⟩))
    go_ret
    exact ⟨by rw [hr.out, hro.out]; simp [a0.out, a1.out, a2.out, a5.out, hsx.out], hE.trans h5⟩
   | true =>
    replace hO := hO.ext h5
    replace hE := hE.trans h5
    clear h5 ol nl o0 z0 z1 z2 z3
    clear o1 o2 o3 o17 o8 o9 o10 o11 o12 o13 o14 o15 o16
    have ol := hO.lt
    have p3 := hO.at 3 rfl
    have p17 := hO.at 17 rfl
    have h98i : (p.size : Int) ≤ 98 := by rw [a2.out]; decide
    go_wp2_with (first | ((first | go_at_call 45 | go_at_call 46 | go_at_call 47 | go_at_call 49 | go_at_call 51 | go_at_call 53); refine (FF.out _ (by rfl) _).mono ?_; rintro e_ w' ⟨rfl, rfl⟩))
    refine (CL.out _ hE).mono ?_; rintro e_ w7 ⟨rfl, h7⟩
    go_wp2
    go_ret
    exact ⟨by rw [hr.out, hro.out]; simp [a0.out, a1.out, a2.out, a5.out, hsx.out, show ByteArray.size ⟨#[]⟩ ≤ 98 from by decide], hE.trans h7⟩
  ·skip
   have ol := hO.lt
   have nl := hN.lt
   have o0 := hO.at 0 rfl
   have z0 := hN.at 0 rfl
   have z1 := hN.at 1 rfl
   have z2 := hN.at 2 rfl
   have z3 := hN.at 3 rfl
   have o1 := hO.at 1 rfl
   have o2 := hO.at 2 rfl
   by_cases a0 : i = 0
   rotate_left
   ·have b_ : ((i : Int) != 0) = true := by rw [bne_iff_ne]; omega
    go_wp2_with (first | ((first | go_at_call 45 | go_at_call 46 | go_at_call 47 | go_at_call 49 | go_at_call 51 | go_at_call 53); refine (FF.out _ (by rfl) _).mono ?_; rintro e_ w' ⟨rfl, rfl⟩))
    go_ret
    exact ⟨by rw [hr.out, hro.out]; simp [a0], hE⟩
   have y0 : ((i : Int) != 0) = false := by rw [a0]; rfl
   replace a0 := Lib.hid a0
   by_cases a1 : n = 0
   rotate_left
   ·have b_ : ((n : Int) != 0) = true := by rw [bne_iff_ne]; omega
    go_wp2_with (first | ((first | go_at_call 45 | go_at_call 46 | go_at_call 47 | go_at_call 49 | go_at_call 51 | go_at_call 53); refine (FF.out _ (by rfl) _).mono ?_; rintro e_ w' ⟨rfl, rfl⟩))
    go_ret
    exact ⟨by rw [hr.out, hro.out]; simp [a0.out, a1], hE⟩
   have y1 : ((n : Int) != 0) = false := by rw [a1]; rfl
   replace a1 := Lib.hid a1
   have o8 := hO.at 8 rfl
   have o9 := hO.at 9 rfl
   have o10 := hO.at 10 rfl
   have o11 := hO.at 11 rfl
   have o12 := hO.at 12 rfl
   have o13 := hO.at 13 rfl
   have o14 := hO.at 14 rfl
   have o15 := hO.at 15 rfl
   have o16 := hO.at 16 rfl
   go_wp2_with (first | ((first | go_at_call 45 | go_at_call 46 | go_at_call 47 | go_at_call 49 | go_at_call 51 | go_at_call 53); refine (FF.out _ (by rfl) _).mono ?_; rintro e_ w' ⟨rfl, rfl⟩))
   refine (CS.out _ hE).mono ?_; rintro e_ w5 ⟨rfl, h5⟩
   cases sx with
   | false =>
    go_wp2_with (first | ((first | go_at_call 45 | go_at_call 46 | go_at_call 47 | go_at_call 49 | go_at_call 51 | go_at_call 53); refine (FF.out _ (by rfl) _).mono ?_; rintro e_ w' ⟨rfl, rfl⟩))
    go_ret
    exact ⟨by rw [hr.out, hro.out]; simp [a0.out, a1.out, hsx.out], hE.trans h5⟩
   | true =>
    replace hO := hO.ext h5
    replace hE := hE.trans h5
    clear h5 ol nl o0 z0 z1 z2 z3
    clear o1 o2 o8 o9 o10 o11 o12 o13 o14 o15 o16
    have ol := hO.lt
    have p3 := hO.at 3 rfl
    have p17 := hO.at 17 rfl
    by_cases h98 : p.size ≤ 98
    rotate_left
    ·have h98i : ¬ ((p.size : Int) ≤ 98) := by omega
     go_wp2_with (first | ((first | go_at_call 45 | go_at_call 46 | go_at_call 47 | go_at_call 49 | go_at_call 51 | go_at_call 53); refine (FF.out _ (by rfl) _).mono ?_; rintro e_ w' ⟨rfl, rfl⟩))
     go_ret
     exact ⟨by rw [hr.out, hro.out]; simp [h98, a0.out, a1.out, hsx.out], hE⟩
    have h98i : (p.size : Int) ≤ 98 := by omega
    go_wp2_with (first | ((first | go_at_call 45 | go_at_call 46 | go_at_call 47 | go_at_call 49 | go_at_call 51 | go_at_call 53); refine (FF.out _ (by rfl) _).mono ?_; rintro e_ w' ⟨rfl, rfl⟩))
    refine (CL.out _ hE).mono ?_; rintro e_ w7 ⟨rfl, h7⟩
    go_wp2
    go_ret
    exact ⟨by rw [hr.out, hro.out]; simp [h98, a0.out, a1.out, hsx.out, show ByteArray.size ⟨#[]⟩ ≤ 98 from by decide], hE.trans h7⟩
  ·skip
   have ol := hO.lt
   have nl := hN.lt
   have o0 := hO.at 0 rfl
   have z0 := hN.at 0 rfl
   have z1 := hN.at 1 rfl
   have z2 := hN.at 2 rfl
   have z3 := hN.at 3 rfl
   have o1 := hO.at 1 rfl
   have o2 := hO.at 2 rfl
   have o3 := hO.at 3 rfl
   have o4 := hO.at 4 rfl
   have o5 := hO.at 5 rfl
   have o6 := hO.at 6 rfl
   have o7 := hO.at 7 rfl
   have o17 := hO.at 17 rfl
   by_cases a0 : i = 0
   rotate_left
   ·have b_ : ((i : Int) != 0) = true := by rw [bne_iff_ne]; omega
    go_wp2_with (first | ((first | go_at_call 45 | go_at_call 46 | go_at_call 47 | go_at_call 49 | go_at_call 51 | go_at_call 53); refine (FF.out _ (by rfl) _).mono ?_; rintro e_ w' ⟨rfl, rfl⟩))
    go_ret
    exact ⟨by rw [hr.out, hro.out]; simp [a0], hE⟩
   have y0 : ((i : Int) != 0) = false := by rw [a0]; rfl
   replace a0 := Lib.hid a0
   by_cases a1 : n = 0
   rotate_left
   ·have b_ : ((n : Int) != 0) = true := by rw [bne_iff_ne]; omega
    go_wp2_with (first | ((first | go_at_call 45 | go_at_call 46 | go_at_call 47 | go_at_call 49 | go_at_call 51 | go_at_call 53); refine (FF.out _ (by rfl) _).mono ?_; rintro e_ w' ⟨rfl, rfl⟩))
    go_ret
    exact ⟨by rw [hr.out, hro.out]; simp [a0.out, a1], hE⟩
   have y1 : ((n : Int) != 0) = false := by rw [a1]; rfl
   replace a1 := Lib.hid a1
   by_cases a2 : p = ⟨#[]⟩
   rotate_left
   ·have b_ : p.toList.isEmpty = false := by
     rw [ByteArray.toList_eq, List.isEmpty_eq_false_iff]
     intro h
     exact a2 (mk_bytes h)
    go_wp2_with (first | ((first | go_at_call 45 | go_at_call 46 | go_at_call 47 | go_at_call 49 | go_at_call 51 | go_at_call 53); refine (FF.out _ (by rfl) _).mono ?_; rintro e_ w' ⟨rfl, rfl⟩))
    go_ret
    exact ⟨by rw [hr.out, hro.out]; simp [a0.out, a1.out, a2], hE⟩
   have y2 : p.toList.isEmpty = true := by rw [a2, ByteArray.toList_eq]; rfl
   replace a2 := Lib.hid a2
   by_cases a3 : d = noV
   rotate_left
   ·have b_ := qn.out
    rw [decide_eq_false a3, Bool.not_false] at b_
    go_wp2_with (first | ((first | go_at_call 45 | go_at_call 46 | go_at_call 47 | go_at_call 49 | go_at_call 51 | go_at_call 53); refine (FF.out _ (by rfl) _).mono ?_; rintro e_ w' ⟨rfl, rfl⟩))
    go_ret
    exact ⟨by rw [hr.out, hro.out]; simp [a0.out, a1.out, a2.out, a3], hE⟩
   have q_ := qn.out
   rw [decide_eq_true a3, Bool.not_true] at q_
   replace a3 := Lib.hid a3
   by_cases a5 : P = []
   rotate_left
   ·have b_ : (0 : Int) < (P.length : Int) := by have := List.length_pos_iff.2 a5; omega
    go_wp2_with (first | ((first | go_at_call 45 | go_at_call 46 | go_at_call 47 | go_at_call 49 | go_at_call 51 | go_at_call 53); refine (FF.out _ (by rfl) _).mono ?_; rintro e_ w' ⟨rfl, rfl⟩))
    go_ret
    exact ⟨by rw [hr.out, hro.out]; simp [a0.out, a1.out, a2.out, a3.out, a5], hE⟩
   have y5 : ¬ (0 : Int) < (P.length : Int) := by rw [a5]; simp
   replace a5 := Lib.hid a5
   have o8 := hO.at 8 rfl
   have o9 := hO.at 9 rfl
   have o10 := hO.at 10 rfl
   have o11 := hO.at 11 rfl
   have o12 := hO.at 12 rfl
   have o13 := hO.at 13 rfl
   have o14 := hO.at 14 rfl
   have o15 := hO.at 15 rfl
   have o16 := hO.at 16 rfl
   go_wp2_with (first | ((first | go_at_call 45 | go_at_call 46 | go_at_call 47 | go_at_call 49 | go_at_call 51 | go_at_call 53); refine (FF.out _ (by rfl) _).mono ?_; rintro e_ w' ⟨rfl, rfl⟩))
   refine (CS.out _ hE).mono ?_; rintro e_ w5 ⟨rfl, h5⟩
   cases sx with
   | false =>
    go_wp2_with (first | ((first | go_at_call 45 | go_at_call 46 | go_at_call 47 | go_at_call 49 | go_at_call 51 | go_at_call 53); refine (FF.out _ (by rfl) _).mono ?_; rintro e_ w' ⟨rfl, rfl⟩))
    go_ret
    exact ⟨by rw [hr.out, hro.out]; simp [a0.out, a1.out, a2.out, a3.out, a5.out, hsx.out], hE.trans h5⟩
   | true =>
    replace hO := hO.ext h5
    replace hE := hE.trans h5
    clear h5 ol nl o0 z0 z1 z2 z3
    clear o1 o2 o3 o4 o5 o6 o7 o17 o8 o9 o10 o11 o12 o13 o14 o15 o16
    have ol := hO.lt
    have p3 := hO.at 3 rfl
    have p17 := hO.at 17 rfl
    have h98i : (p.size : Int) ≤ 98 := by rw [a2.out]; decide
    go_wp2_with (first | ((first | go_at_call 45 | go_at_call 46 | go_at_call 47 | go_at_call 49 | go_at_call 51 | go_at_call 53); refine (FF.out _ (by rfl) _).mono ?_; rintro e_ w' ⟨rfl, rfl⟩))
    refine (CL.out _ hE).mono ?_; rintro e_ w7 ⟨rfl, h7⟩
    go_wp2
    go_ret
    exact ⟨by rw [hr.out, hro.out]; simp [a0.out, a1.out, a2.out, a3.out, a5.out, hsx.out, show ByteArray.size ⟨#[]⟩ ≤ 98 from by decide], hE.trans h7⟩
end Go.Proofs.YtefjdmjkofaajaaGreatDoor
