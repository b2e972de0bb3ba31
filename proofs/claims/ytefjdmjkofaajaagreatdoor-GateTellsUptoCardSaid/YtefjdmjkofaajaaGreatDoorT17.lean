/- Texts of the base. -/

import Derived.Test.YtefjdmjkofaajaaGreatDoorT34
import Derived.Test.YtefjdmjkofaajaaGreatDoorT23
import Derived.Test.YtefjdmjkofaajaaGreatDoorT15
import Derived.Test.YtefjdmjkofaajaaGreatDoorT14
import Derived.Test.YtefjdmjkofaajaaGreatDoorT8
namespace Go.Proofs.YtefjdmjkofaajaaGreatDoor
open Go.RowKit Go.Dm
set_option maxHeartbeats 4000000 in
set_option maxRecDepth 100000 in
theorem asame_w (k1 : Int) (i1 n1 : Nat) (p1 : ByteArray) (d1 : Vc) (s1 : ByteArray) (e1 : Vc) (m1 : Nums3) (v1 l1 : Value) (R1 : List RowS) (P1 : List PairS) (k2 : Int) (i2 n2 : Nat) (p2 : ByteArray) (d2 : Vc) (s2 : ByteArray) (e2 : Vc) (m2 : Nums3) (v2 l2 : Value) (R2 : List RowS) (P2 : List PairS) (w : World)
  (hd1 : OkV d1) (hd2 : OkV d2) (he1 : OkV e1) (he2 : OkV e2) (hm : R1.length ≤ 35184372088832) (hf : FitR R1) (hx1 : Terms w v1 R1) (hx2 : Terms w v2 R2) (hpm : P1.length ≤ 35184372088832) (hy1 : Pairs w l1 P1) (hy2 : Pairs w l2 P2) :
  Calls Tryz.prog 56 #[opV k1 i1 n1 p1 (vG d1) s1 (vG e1) m1 v1 l1, opV k2 i2 n2 p2 (vG d2) s2 (vG e2) m2 v2 l2] w fun e w' => e = .returned (.bool (decide (i1 = i2) && (decide (n1 = n2) && (decide (p1 = p2) && (decide (d1 = d2) && (sameX (s1, e1, m1, R1.map rowT) (s2, e2, m2, R2.map rowT) && decide (P1 = P2))))))) ∧ Ext w w' := by
 obtain ⟨q1, c1, rfl, _, _⟩ := hx1.shape
 obtain ⟨q2, c2, rfl, _, _⟩ := hx2.shape
 obtain ⟨ql1, cl1, rfl, _, _⟩ := hy1.shape
 obtain ⟨ql2, cl2, rfl, _, _⟩ := hy2.shape
 have CS := fun U (h : Ext w U) => xsame_w s1 e1 m1 _ R1 s2 e2 m2 _ R2 U he1 he2 hm hf (hx1.ext h) (hx2.ext h)
 have CP := fun U (h : Ext w U) => pairsEq_w P1 P2 _ _ U hpm (hy1.ext h) (hy2.ext h)
 have qv := fun U => run_eql_vals (P := Tryz.prog) Tryz.underlying27 Tryz.underlying25 (by kernel_rfl) hd1 hd2 U
 unfold vVal vF at qv
 unfold spVal at CS
 have ht := beq_texts p1 p2
 obtain ⟨sx, hsx⟩ : ∃ b, sameX (s1, e1, m1, R1.map rowT) (s2, e2, m2, R2.map rowT) = b := ⟨_, rfl⟩
 obtain ⟨dp, hdp⟩ : ∃ b, decide (P1 = P2) = b := ⟨_, rfl⟩
 obtain ⟨dd, hdd⟩ : ∃ b, decide (d1 = d2) = b := ⟨_, rfl⟩
 obtain ⟨pp, hpp⟩ : ∃ b, decide (p1 = p2) = b := ⟨_, rfl⟩
 rw [hsx] at CS
 rw [hdp] at CP
 rw [hdd] at qv
 rw [hpp] at ht
 replace hsx := Lib.hid hsx
 replace hdp := Lib.hid hdp
 replace hdd := Lib.hid hdd
 replace hpp := Lib.hid hpp
 have i1i : (i1 = i2) ↔ ((i1 : Int) = (i2 : Int)) := by omega
 have n1i : (n1 = n2) ↔ ((n1 : Int) = (n2 : Int)) := by omega
 replace CS := Lib.hid CS
 replace CP := Lib.hid CP
 have hA : RB w.heap.size 33 [.int .i64 k1, .int .u64 (i1 : Nat), .int .u64 (n1 : Nat), .string p1, .int .u64 ((vG d1) 0 : Nat), .int .u64 ((vG d1) 1 : Nat), .int .u64 ((vG d1) 2 : Nat), .int .u64 ((vG d1) 3 : Nat), .string s1, .int .u64 ((vG e1) 0 : Nat), .int .u64 ((vG e1) 1 : Nat), .int .u64 ((vG e1) 2 : Nat), .int .u64 ((vG e1) 3 : Nat), .int .i64 m1.1, .int .i64 m1.2.1, .int .i64 m1.2.2, .slice q1 R1.length c1, .slice ql1 P1.length cl1] (w.alloc (.cells #[.int .i64 k1, .int .u64 (i1 : Nat), .int .u64 (n1 : Nat), .string p1, .int .u64 ((vG d1) 0 : Nat), .int .u64 ((vG d1) 1 : Nat), .int .u64 ((vG d1) 2 : Nat), .int .u64 ((vG d1) 3 : Nat), .string s1, .int .u64 ((vG e1) 0 : Nat), .int .u64 ((vG e1) 1 : Nat), .int .u64 ((vG e1) 2 : Nat), .int .u64 ((vG e1) 3 : Nat), .int .i64 m1.1, .int .i64 m1.2.1, .int .i64 m1.2.2, .slice q1 R1.length c1, .slice ql1 P1.length cl1] 33)) := RB.new w 33 [.int .i64 k1, .int .u64 (i1 : Nat), .int .u64 (n1 : Nat), .string p1, .int .u64 ((vG d1) 0 : Nat), .int .u64 ((vG d1) 1 : Nat), .int .u64 ((vG d1) 2 : Nat), .int .u64 ((vG d1) 3 : Nat), .string s1, .int .u64 ((vG e1) 0 : Nat), .int .u64 ((vG e1) 1 : Nat), .int .u64 ((vG e1) 2 : Nat), .int .u64 ((vG e1) 3 : Nat), .int .i64 m1.1, .int .i64 m1.2.1, .int .i64 m1.2.2, .slice q1 R1.length c1, .slice ql1 P1.length cl1]
 have hE : Ext w (w.alloc (.cells #[.int .i64 k1, .int .u64 (i1 : Nat), .int .u64 (n1 : Nat), .string p1, .int .u64 ((vG d1) 0 : Nat), .int .u64 ((vG d1) 1 : Nat), .int .u64 ((vG d1) 2 : Nat), .int .u64 ((vG d1) 3 : Nat), .string s1, .int .u64 ((vG e1) 0 : Nat), .int .u64 ((vG e1) 1 : Nat), .int .u64 ((vG e1) 2 : Nat), .int .u64 ((vG e1) 3 : Nat), .int .i64 m1.1, .int .i64 m1.2.1, .int .i64 m1.2.2, .slice q1 R1.length c1, .slice ql1 P1.length cl1] 33)) := (Ext.refl _).alloc _
 generalize hW1 : w.alloc (.cells #[.int .i64 k1, .int .u64 (i1 : Nat), .int .u64 (n1 : Nat), .string p1, .int .u64 ((vG d1) 0 : Nat), .int .u64 ((vG d1) 1 : Nat), .int .u64 ((vG d1) 2 : Nat), .int .u64 ((vG d1) 3 : Nat), .string s1, .int .u64 ((vG e1) 0 : Nat), .int .u64 ((vG e1) 1 : Nat), .int .u64 ((vG e1) 2 : Nat), .int .u64 ((vG e1) 3 : Nat), .int .i64 m1.1, .int .i64 m1.2.1, .int .i64 m1.2.2, .slice q1 R1.length c1, .slice ql1 P1.length cl1] 33) = w1 at *
 have hB : RB w1.heap.size 33 [.int .i64 k2, .int .u64 (i2 : Nat), .int .u64 (n2 : Nat), .string p2, .int .u64 ((vG d2) 0 : Nat), .int .u64 ((vG d2) 1 : Nat), .int .u64 ((vG d2) 2 : Nat), .int .u64 ((vG d2) 3 : Nat), .string s2, .int .u64 ((vG e2) 0 : Nat), .int .u64 ((vG e2) 1 : Nat), .int .u64 ((vG e2) 2 : Nat), .int .u64 ((vG e2) 3 : Nat), .int .i64 m2.1, .int .i64 m2.2.1, .int .i64 m2.2.2, .slice q2 R2.length c2, .slice ql2 P2.length cl2] (w1.alloc (.cells #[.int .i64 k2, .int .u64 (i2 : Nat), .int .u64 (n2 : Nat), .string p2, .int .u64 ((vG d2) 0 : Nat), .int .u64 ((vG d2) 1 : Nat), .int .u64 ((vG d2) 2 : Nat), .int .u64 ((vG d2) 3 : Nat), .string s2, .int .u64 ((vG e2) 0 : Nat), .int .u64 ((vG e2) 1 : Nat), .int .u64 ((vG e2) 2 : Nat), .int .u64 ((vG e2) 3 : Nat), .int .i64 m2.1, .int .i64 m2.2.1, .int .i64 m2.2.2, .slice q2 R2.length c2, .slice ql2 P2.length cl2] 33)) := RB.new w1 33 [.int .i64 k2, .int .u64 (i2 : Nat), .int .u64 (n2 : Nat), .string p2, .int .u64 ((vG d2) 0 : Nat), .int .u64 ((vG d2) 1 : Nat), .int .u64 ((vG d2) 2 : Nat), .int .u64 ((vG d2) 3 : Nat), .string s2, .int .u64 ((vG e2) 0 : Nat), .int .u64 ((vG e2) 1 : Nat), .int .u64 ((vG e2) 2 : Nat), .int .u64 ((vG e2) 3 : Nat), .int .i64 m2.1, .int .i64 m2.2.1, .int .i64 m2.2.2, .slice q2 R2.length c2, .slice ql2 P2.length cl2]
 have ee : Ext w1 (w1.alloc (.cells #[.int .i64 k2, .int .u64 (i2 : Nat), .int .u64 (n2 : Nat), .string p2, .int .u64 ((vG d2) 0 : Nat), .int .u64 ((vG d2) 1 : Nat), .int .u64 ((vG d2) 2 : Nat), .int .u64 ((vG d2) 3 : Nat), .string s2, .int .u64 ((vG e2) 0 : Nat), .int .u64 ((vG e2) 1 : Nat), .int .u64 ((vG e2) 2 : Nat), .int .u64 ((vG e2) 3 : Nat), .int .i64 m2.1, .int .i64 m2.2.1, .int .i64 m2.2.2, .slice q2 R2.length c2, .slice ql2 P2.length cl2] 33)) := (Ext.refl _).alloc _
 generalize hW2 : w1.alloc (.cells #[.int .i64 k2, .int .u64 (i2 : Nat), .int .u64 (n2 : Nat), .string p2, .int .u64 ((vG d2) 0 : Nat), .int .u64 ((vG d2) 1 : Nat), .int .u64 ((vG d2) 2 : Nat), .int .u64 ((vG d2) 3 : Nat), .string s2, .int .u64 ((vG e2) 0 : Nat), .int .u64 ((vG e2) 1 : Nat), .int .u64 ((vG e2) 2 : Nat), .int .u64 ((vG e2) 3 : Nat), .int .i64 m2.1, .int .i64 m2.2.1, .int .i64 m2.2.2, .slice q2 R2.length c2, .slice ql2 P2.length cl2] 33) = w2 at *
 replace hA := hA.ext ee
 replace hE := hE.trans ee
 obtain ⟨bA, hbA⟩ : ∃ x, w.heap.size = x := ⟨_, rfl⟩
 obtain ⟨bB, hbB⟩ : ∃ x, w1.heap.size = x := ⟨_, rfl⟩
 rw [hbA] at hA
 rw [hbB] at hB
 have al := hA.lt
 have bl := hB.lt
 have x1 : w2.cell? ⟨bA, 1, none⟩ = some (.int .u64 (i1 : Nat)) := hA.cell 1
 have x2 : w2.cell? ⟨bA, 2, none⟩ = some (.int .u64 (n1 : Nat)) := hA.cell 2
 have x3 : w2.cell? ⟨bA, 3, none⟩ = some (.string p1) := hA.cell 3
 have x4 : w2.cell? ⟨bA, 4, none⟩ = some (.int .u64 ((vG d1) 0 : Nat)) := hA.cell 4
 have x5 : w2.cell? ⟨bA, 5, none⟩ = some (.int .u64 ((vG d1) 1 : Nat)) := hA.cell 5
 have x6 : w2.cell? ⟨bA, 6, none⟩ = some (.int .u64 ((vG d1) 2 : Nat)) := hA.cell 6
 have x7 : w2.cell? ⟨bA, 7, none⟩ = some (.int .u64 ((vG d1) 3 : Nat)) := hA.cell 7
 have x8 : w2.cell? ⟨bA, 8, none⟩ = some (.string s1) := hA.cell 8
 have x9 : w2.cell? ⟨bA, 9, none⟩ = some (.int .u64 ((vG e1) 0 : Nat)) := hA.cell 9
 have x10 : w2.cell? ⟨bA, 10, none⟩ = some (.int .u64 ((vG e1) 1 : Nat)) := hA.cell 10
 have x11 : w2.cell? ⟨bA, 11, none⟩ = some (.int .u64 ((vG e1) 2 : Nat)) := hA.cell 11
 have x12 : w2.cell? ⟨bA, 12, none⟩ = some (.int .u64 ((vG e1) 3 : Nat)) := hA.cell 12
 have x13 : w2.cell? ⟨bA, 13, none⟩ = some (.int .i64 m1.1) := hA.cell 13
 have x14 : w2.cell? ⟨bA, 14, none⟩ = some (.int .i64 m1.2.1) := hA.cell 14
 have x15 : w2.cell? ⟨bA, 15, none⟩ = some (.int .i64 m1.2.2) := hA.cell 15
 have x16 : w2.cell? ⟨bA, 16, none⟩ = some (.slice q1 R1.length c1) := hA.cell 16
 have x17 : w2.cell? ⟨bA, 17, none⟩ = some (.slice ql1 P1.length cl1) := hA.cell 17
 have y1 : w2.cell? ⟨bB, 1, none⟩ = some (.int .u64 (i2 : Nat)) := hB.cell 1
 have y2 : w2.cell? ⟨bB, 2, none⟩ = some (.int .u64 (n2 : Nat)) := hB.cell 2
 have y3 : w2.cell? ⟨bB, 3, none⟩ = some (.string p2) := hB.cell 3
 have y4 : w2.cell? ⟨bB, 4, none⟩ = some (.int .u64 ((vG d2) 0 : Nat)) := hB.cell 4
 have y5 : w2.cell? ⟨bB, 5, none⟩ = some (.int .u64 ((vG d2) 1 : Nat)) := hB.cell 5
 have y6 : w2.cell? ⟨bB, 6, none⟩ = some (.int .u64 ((vG d2) 2 : Nat)) := hB.cell 6
 have y7 : w2.cell? ⟨bB, 7, none⟩ = some (.int .u64 ((vG d2) 3 : Nat)) := hB.cell 7
 have y8 : w2.cell? ⟨bB, 8, none⟩ = some (.string s2) := hB.cell 8
 have y9 : w2.cell? ⟨bB, 9, none⟩ = some (.int .u64 ((vG e2) 0 : Nat)) := hB.cell 9
 have y10 : w2.cell? ⟨bB, 10, none⟩ = some (.int .u64 ((vG e2) 1 : Nat)) := hB.cell 10
 have y11 : w2.cell? ⟨bB, 11, none⟩ = some (.int .u64 ((vG e2) 2 : Nat)) := hB.cell 11
 have y12 : w2.cell? ⟨bB, 12, none⟩ = some (.int .u64 ((vG e2) 3 : Nat)) := hB.cell 12
 have y13 : w2.cell? ⟨bB, 13, none⟩ = some (.int .i64 m2.1) := hB.cell 13
 have y14 : w2.cell? ⟨bB, 14, none⟩ = some (.int .i64 m2.2.1) := hB.cell 14
 have y15 : w2.cell? ⟨bB, 15, none⟩ = some (.int .i64 m2.2.2) := hB.cell 15
 have y16 : w2.cell? ⟨bB, 16, none⟩ = some (.slice q2 R2.length c2) := hB.cell 16
 have y17 : w2.cell? ⟨bB, 17, none⟩ = some (.slice ql2 P2.length cl2) := hB.cell 17
 clear ee hA hB
 unfold opV
 have rst : ∀ Q : Prop, Q → Q := fun _ h => h
 go_enter Tryz.func56, Tryz.ntmps56
 go_upto_region 1 with fail
 clear hW1 hW2 hbA hbB rst
 by_cases h1 : (i1 : Int) = (i2 : Int)
 ·have g1 := i1i.2 h1
  replace g1 := Lib.hid g1
  by_cases h2 : (n1 : Int) = (n2 : Int)
  ·have g2 := n1i.2 h2
   replace g2 := Lib.hid g2
   cases pp with
   | false =>
    go_wp2
    go_ret
    exact ⟨by rw [hpp.out]; simp, hE⟩
   | true =>
    cases dd with
    | false =>
     go_wp2
     go_ret
     exact ⟨by rw [hdd.out]; simp, hE⟩
    | true =>
     go_wp2_with fail
     refine (CS.out _ hE).mono ?_; rintro e w3 ⟨rfl, h3⟩
     cases sx with
     | false =>
      go_wp2
      go_ret
      exact ⟨by rw [hsx.out]; simp, hE.trans h3⟩
     | true =>
      have lA := Nat.lt_of_lt_of_le al h3.size
      have lB := Nat.lt_of_lt_of_le bl h3.size
      have z1 : w3.cell? ⟨bA, 17, none⟩ = _ := (h3.cell (p := ⟨bA, 17, none⟩) al).trans x17
      have z2 : w3.cell? ⟨bB, 17, none⟩ = _ := (h3.cell (p := ⟨bB, 17, none⟩) bl).trans y17
      go_wp2_with fail
      refine (CP.out _ (hE.trans h3)).mono ?_; rintro e w4 ⟨rfl, h4⟩
      go_wp2
      go_ret
      exact ⟨by rw [hpp.out, hdd.out, hsx.out, hdp.out, decide_eq_true g1.out, decide_eq_true g2.out]; simp, (hE.trans h3).trans h4⟩
  ·have g2 : ¬ n1 = n2 := fun h => h2 (n1i.1 h)
   replace g2 := Lib.hid g2
   go_wp2
   go_ret
   exact ⟨by rw [decide_eq_false g2.out]; simp, hE⟩
 ·have g1 : ¬ i1 = i2 := fun h => h1 (i1i.1 h)
  replace g1 := Lib.hid g1
  go_wp2
  go_ret
  exact ⟨by rw [decide_eq_false g1.out]; simp, hE⟩
end Go.Proofs.YtefjdmjkofaajaaGreatDoor
namespace Go.Dm
open Go Go.RowKit
abbrev OpQ := Int × (Nat × Nat) × ByteArray × Vc × SpQ × List PairS
def bareO (f : Fld) (o : OpQ) : OpQ := (o.1, (cond f.1 o.2.1.1 0, cond f.2.1 o.2.1.2 0), cond f.2.2.1 o.2.2.1 ⟨#[]⟩, cond f.2.2.2.1 o.2.2.2.1 noV, cond f.2.2.2.2.1 o.2.2.2.2.1 noSp, cond f.2.2.2.2.2 o.2.2.2.2.2 [])
def eqO (a b : OpQ) : Bool := decide (a.2.1.1 = b.2.1.1) && (decide (a.2.1.2 = b.2.1.2) && (decide (a.2.2.1 = b.2.2.1) && (decide (a.2.2.2.1 = b.2.2.2.1) && (sameX a.2.2.2.2.1 b.2.2.2.2.1 && decide (a.2.2.2.2.2 = b.2.2.2.2.2)))))
def rightO (o : OpQ) : Bool := match knownF o.1 with
 | none => false
 | some f => eqO o (bareO f o) && ((!f.2.2.2.2.1 || decide (chkX o.2.2.2.2.1 = 0)) && (decide (o.2.2.1.size ≤ 98) && rightLab (labL o.2.2.2.2.2)))
theorem vG_noV : vG noV = fun _ => 0 := by
 funext i
 match i with
 | 0 | 1 | 2 | 3 => rfl
 | _ + 4 => rfl
theorem bareV_eq (f : Fld) (k : Int) (i n : Nat) (p : ByteArray) (d : Vc) (s : ByteArray) (e : Vc) (m : Nums3) (v l : Value) :
  bareV f k i n p (vG d) s (vG e) m v l = opV k (cond f.1 i 0) (cond f.2.1 n 0) (cond f.2.2.1 p ⟨#[]⟩) (vG (cond f.2.2.2.1 d noV)) (cond f.2.2.2.2.1 s ⟨#[]⟩) (vG (cond f.2.2.2.2.1 e noV)) (cond f.2.2.2.2.1 m (0, 0, 0)) (cond f.2.2.2.2.1 v (.slice none 0 0)) (cond f.2.2.2.2.2 l (.slice none 0 0)) := by
 obtain ⟨b0, b1, b2, b3, b4, b5⟩ := f
 unfold bareV
 cases b3 <;> cases b4 <;> simp [vG_noV]
end Go.Dm
namespace Go.Proofs.YtefjdmjkofaajaaGreatDoor
open Go.RowKit Go.Dm
theorem samebare_w (f : Fld) (k : Int) (i n : Nat) (p : ByteArray) (d : Vc) (s : ByteArray) (e : Vc) (m : Nums3) (v l : Value) (R : List RowS) (P : List PairS) (w : World)
  (hd : OkV d) (he : OkV e) (hm : R.length ≤ 35184372088832) (hf : FitR R) (hx : Terms w v R) (hpm : P.length ≤ 35184372088832) (hy : Pairs w l P) :
  Calls Tryz.prog 56 #[opV k i n p (vG d) s (vG e) m v l, bareV f k i n p (vG d) s (vG e) m v l] w fun e_ w' => e_ = .returned (.bool (eqO (k, (i, n), p, d, (s, e, m, R.map rowT), P) (bareO f (k, (i, n), p, d, (s, e, m, R.map rowT), P)))) ∧ Ext w w' := by
 rw [bareV_eq]
 obtain ⟨b0, b1, b2, b3, b4, b5⟩ := f
 have hx2 : Terms w (cond b4 v (.slice none 0 0)) (cond b4 R []) := by
  cases b4
  ·exact Terms.nil w
  ·exact hx
 have hy2 : Pairs w (cond b5 l (.slice none 0 0)) (cond b5 P []) := by
  cases b5
  ·exact Pairs.nil w
  ·exact hy
 have hd2 : OkV (cond b3 d noV) := by
  cases b3
  ·exact okV_no
  ·exact hd
 have he2 : OkV (cond b4 e noV) := by
  cases b4
  ·exact okV_no
  ·exact he
 refine (asame_w k i n p d s e m v l R P k (cond b0 i 0) (cond b1 n 0) (cond b2 p ⟨#[]⟩) (cond b3 d noV) (cond b4 s ⟨#[]⟩) (cond b4 e noV) (cond b4 m (0, 0, 0)) (cond b4 v (.slice none 0 0)) (cond b5 l (.slice none 0 0)) (cond b4 R []) (cond b5 P []) w hd hd2 he he2 hm hf hx hx2 hpm hy hy2).mono fun e_ w' h => ⟨?_, h.2⟩
 rw [h.1]
 unfold eqO bareO
 cases b4 <;> rfl
set_option maxHeartbeats 4000000 in
set_option maxRecDepth 100000 in
theorem aright_w (k : Int) (i n : Nat) (p : ByteArray) (d : Vc) (s : ByteArray) (e : Vc) (m : Nums3) (v l : Value) (R : List RowS) (P : List PairS) (w : World)
  (hk : -9223372036854775808 ≤ k ∧ k ≤ 9223372036854775807) (hd : OkV d) (hs : s.size < 4294967281) (he : OkV e) (hm : R.length ≤ 35184372088832) (hf : FitR R) (hx : Terms w v R) (hpm : P.length ≤ 35184372088832) (hfp : FitP P) (hy : Pairs w l P) (hv : Vars w) :
  Calls Tryz.prog 25 #[opV k i n p (vG d) s (vG e) m v l] w fun e_ w' => e_ = .returned (.bool (rightO (k, (i, n), p, d, (s, e, m, R.map rowT), P))) ∧ Ext w w' := by
 obtain ⟨qv, cv, rfl, _, _⟩ := hx.shape
 obtain ⟨ql, cl, rfl, _, _⟩ := hy.shape
 have CK := fun U => aknown_w U
 have CB_ := fun f (hf : isFld f) U => bare_w f hf k i n p (vG d) s (vG e) m qv ql R.length cv P.length cl U
 have CS := fun f U (h : Ext w U) => samebare_w f k i n p d s e m _ _ R P U hd he hm hf (hx.ext h) hpm (hy.ext h)
 have CC := fun U (h : Ext w U) => xcheck_w s e m _ R U hs he hm hf (hx.ext h) (hv.ext h)
 have CL := fun U (h : Ext w U) => lright_w P _ U hpm hfp (hy.ext h) (hv.tabs.ext h)
 have hro : rightO (k, (i, n), p, d, (s, e, m, R.map rowT), P) = match knownF k with | none => false | some f => eqO (k, (i, n), p, d, (s, e, m, R.map rowT), P) (bareO f (k, (i, n), p, d, (s, e, m, R.map rowT), P)) && ((!f.2.2.2.2.1 || decide (chkX (s, e, m, R.map rowT) = 0)) && (decide (p.size ≤ 98) && rightLab (labL P))) := rfl
 obtain ⟨ro, hr⟩ : ∃ b, rightO (k, (i, n), p, d, (s, e, m, R.map rowT), P) = b := ⟨_, rfl⟩
 rw [hr] at hro
 have hkf := fun f (h : knownF k = some f) => knownF_is h
 have hlook := fun (U : World) B (h : MapK U B 13 knownF) => h.look hk
 unfold spVal at CC
 generalize chkX (s, e, m, R.map rowT) = ck at *
 generalize rightLab (labL P) = rl at *
 obtain ⟨f0, hf0⟩ : ∃ f, (knownF k).getD noFld = f := ⟨_, rfl⟩
 obtain ⟨ok, hok⟩ : ∃ b, (knownF k).isSome = b := ⟨_, rfl⟩
 rw [hf0, hok] at hlook
 have hcase : (ok = false ∧ ro = false) ∨ (ok = true ∧ isFld f0 ∧ ro = (eqO (k, (i, n), p, d, (s, e, m, R.map rowT), P) (bareO f0 (k, (i, n), p, d, (s, e, m, R.map rowT), P)) && ((!f0.2.2.2.2.1 || decide (ck = 0)) && (decide (p.size ≤ 98) && rl)))) := by
  cases h : knownF k with
  | none => rw [h] at hro hok; exact Or.inl ⟨hok.symm, hro⟩
  | some f =>
   rw [h] at hro hok hf0
   have : f = f0 := hf0
   subst this
   exact Or.inr ⟨hok.symm, hkf _ h, hro⟩
 clear hro hkf hf0 hok
 obtain ⟨b0, b1, b2, b3, b4, b5⟩ := f0
 unfold fldV at hlook CB_
 simp only at hlook hcase
 have CB_ := CB_ (b0, b1, b2, b3, b4, b5)
 have CS := CS (b0, b1, b2, b3, b4, b5)
 generalize eqO (k, (i, n), p, d, (s, e, m, R.map rowT), P) (bareO (b0, b1, b2, b3, b4, b5) (k, (i, n), p, d, (s, e, m, R.map rowT), P)) = eq at *
 obtain ⟨BV, hBV⟩ : ∃ x, bareV (b0, b1, b2, b3, b4, b5) k i n p (vG d) s (vG e) m (.slice qv R.length cv) (.slice ql P.length cl) = x := ⟨_, rfl⟩
 rw [hBV] at CB_ CS
 unfold opV at CB_ CS ⊢
 simp only at CB_
 obtain ⟨w1, hW1, hA, hE, -⟩ := new_row w 33 [.int .i64 k, .int .u64 (i : Nat), .int .u64 (n : Nat), .string p, .int .u64 ((vG d) 0 : Nat), .int .u64 ((vG d) 1 : Nat), .int .u64 ((vG d) 2 : Nat), .int .u64 ((vG d) 3 : Nat), .string s, .int .u64 ((vG e) 0 : Nat), .int .u64 ((vG e) 1 : Nat), .int .u64 ((vG e) 2 : Nat), .int .u64 ((vG e) 3 : Nat), .int .i64 m.1, .int .i64 m.2.1, .int .i64 m.2.2, .slice qv R.length cv, .slice ql P.length cl]
 obtain ⟨bA, hbA⟩ : ∃ x, w.heap.size = x := ⟨_, rfl⟩
 have hwA : w.heap.size ≤ bA := by omega
 rw [hbA] at hA
 have al := hA.lt
 have a0 : w1.cell? ⟨bA, 0, none⟩ = some (.int .i64 k) := hA.cell 0
 replace CK := Lib.hid CK
 replace CB_ := Lib.hid CB_
 replace CS := Lib.hid CS
 replace CC := Lib.hid CC
 replace CL := Lib.hid CL
 replace hlook := Lib.hid hlook
 replace hcase := Lib.hid hcase
 replace hr := Lib.hid hr
 replace hBV := Lib.hid hBV
 go_enter Tryz.func25, Tryz.ntmps25
 go_upto_region 1 with fail
 clear hW1 hbA
 refine region_cut (fun a_ a' w' => ∃ bM bF : Nat, a' = ((((((((a_.put (some 6) (.map (some bM))).put (some 7) (.pointer (some ⟨bA, 0, none⟩))).put (some 8) (.int .i64 k)).put (some 9) (.tuple #[.agg #[.bool b0, .bool b1, .bool b2, .bool b3, .bool b4, .bool b5], .bool ok])).put (some 5) (.tuple #[.agg #[.bool b0, .bool b1, .bool b2, .bool b3, .bool b4, .bool b5], .bool ok])).put (some 10) (.agg #[.bool b0, .bool b1, .bool b2, .bool b3, .bool b4, .bool b5])).put (some 11) (.bool ok)).put (some 3) (.pointer (some ⟨bF, 0, none⟩))).put (some 4) (.bool ok) ∧ RB bF 108 [.bool b0, .bool b1, .bool b2, .bool b3, .bool b4, .bool b5] w' ∧ Ext w1 w') ?_ ?_
 ·skip
  refine sx_ ?_
  refine rg_ 10 (Ext.refl w1) ?_
  refine tks [1, 2] 6 8 ?_
  refine k2_ 0 7 7 134 (Ext.refl w1) (fun w1a hx1a hX1a => ?_) fun w1a hx1a hX1a => ?_
  ·
   go_wp2_with (go_at_call 55; go_must (refine (CK.out w1a).mono ?_; rintro e_ w1b ⟨bM, rfl, hM, hs1⟩))
   have hX1b := Ext.trans hX1a hs1
   refine sx_ ?_
   refine k2_ 3 7 15 135 hX1b (fun w2a hx2a hX2a => ?_) fun w2a hx2a hX2a => ?_
   ·
    replace hM := hM.ext hx2a
    have hlk := hlook.out _ _ hM
    go_wp2_with fail
    clear hlk hM
    obtain ⟨w2b, hw2⟩ : ∃ x, x = w2a := ⟨_, rfl⟩
    subst hw2
    have hX2b := hX2a
    refine sx_ ?_
    refine tks [4, 5, 6] 127 3 ?_
    refine k1_ 7 255 hX2b fun w3a hx3a hX3a => ?_
    have hF : RB w3a.heap.size 108 [.bool false, .bool false, .bool false, .bool false, .bool false, .bool false] (w3a.alloc (.cells #[.bool false, .bool false, .bool false, .bool false, .bool false, .bool false] 108)) := RB.new w3a 108 [.bool false, .bool false, .bool false, .bool false, .bool false, .bool false]
    have hbF := (hX3a).size
    go_wp2_with fail
    have hs3 : Ext w3a (w3a.alloc (.cells #[.bool false, .bool false, .bool false, .bool false, .bool false, .bool false] 108)) := (Ext.refl _).alloc _
    have hX3b := Ext.trans hX3a hs3
    generalize w3a.alloc (.cells #[.bool false, .bool false, .bool false, .bool false, .bool false, .bool false] 108) = w3b at *
    generalize w3a.heap.size = bF at *
    refine sx_ ?_
    refine k1_ 8 511 hX3b fun w4a hx4a hX4a => ?_
    replace hF := hF.ext hx4a
    have hG := hF.setRow [.bool b0, .bool b1, .bool b2, .bool b3, .bool b4, .bool b5]
    go_wp2_with (refine wpList_store_row (cells := #[.bool b0, .bool b1, .bool b2, .bool b3, .bool b4, .bool b5]) rfl 108 _ _ rfl bF rfl rfl _ _ hF (by kernel_rfl) rfl (by first | rfl | decide | simp [Value.oneCell']) ?_)
    change RB bF 108 [.bool b0, .bool b1, .bool b2, .bool b3, .bool b4, .bool b5] (w4a.setRow bF #[.bool b0, .bool b1, .bool b2, .bool b3, .bool b4, .bool b5]) at hG
    have hX4b : Ext w1 (w4a.setRow bF #[.bool b0, .bool b1, .bool b2, .bool b3, .bool b4, .bool b5]) := Ext.setRow hX4a hbF _
    clear hF
    generalize w4a.setRow bF #[.bool b0, .bool b1, .bool b2, .bool b3, .bool b4, .bool b5] = w4b at *
    refine sx_ ?_
    refine tks [9] 1023 0 ?_
    refine kd_ hX4b fun w5a hx5a hX5a => ?_
    replace hG := hG.ext hx5a
    exact ⟨bM, bF, rfl, hG, hX5a⟩
   ·
    replace hM := hM.ext hx2a
    have hF : RB w2a.heap.size 108 [.bool false, .bool false, .bool false, .bool false, .bool false, .bool false] (w2a.alloc (.cells #[.bool false, .bool false, .bool false, .bool false, .bool false, .bool false] 108)) := RB.new w2a 108 [.bool false, .bool false, .bool false, .bool false, .bool false, .bool false]
    have hbF := (hX2a).size
    go_wp2_with fail
    have hs2 : Ext w2a (w2a.alloc (.cells #[.bool false, .bool false, .bool false, .bool false, .bool false, .bool false] 108)) := (Ext.refl _).alloc _
    have hX2b := Ext.trans hX2a hs2
    generalize w2a.alloc (.cells #[.bool false, .bool false, .bool false, .bool false, .bool false, .bool false] 108) = w2b at *
    generalize w2a.heap.size = bF at *
    replace hM := hM.ext hs2
    refine sx_ ?_
    refine k1_ 3 143 hX2b fun w6a hx6a hX6a => ?_
    replace hM := hM.ext hx6a
    replace hF := hF.ext hx6a
    have hlk := hlook.out _ _ hM
    go_wp2_with fail
    clear hlk hM
    obtain ⟨w6b, hw2⟩ : ∃ x, x = w6a := ⟨_, rfl⟩
    subst hw2
    have hX6b := hX6a
    refine sx_ ?_
    refine tks [4, 5, 6] 255 2 ?_
    refine k1_ 8 511 hX6b fun w7a hx7a hX7a => ?_
    replace hF := hF.ext hx7a
    have hG := hF.setRow [.bool b0, .bool b1, .bool b2, .bool b3, .bool b4, .bool b5]
    go_wp2_with (refine wpList_store_row (cells := #[.bool b0, .bool b1, .bool b2, .bool b3, .bool b4, .bool b5]) rfl 108 _ _ rfl bF rfl rfl _ _ hF (by kernel_rfl) rfl (by first | rfl | decide | simp [Value.oneCell']) ?_)
    change RB bF 108 [.bool b0, .bool b1, .bool b2, .bool b3, .bool b4, .bool b5] (w7a.setRow bF #[.bool b0, .bool b1, .bool b2, .bool b3, .bool b4, .bool b5]) at hG
    have hX7b : Ext w1 (w7a.setRow bF #[.bool b0, .bool b1, .bool b2, .bool b3, .bool b4, .bool b5]) := Ext.setRow hX7a hbF _
    clear hF
    generalize w7a.setRow bF #[.bool b0, .bool b1, .bool b2, .bool b3, .bool b4, .bool b5] = w7b at *
    refine sx_ ?_
    refine tks [9] 1023 0 ?_
    refine kd_ hX7b fun w8a hx8a hX8a => ?_
    replace hG := hG.ext hx8a
    exact ⟨bM, bF, rfl, hG, hX8a⟩
  ·
   have hF : RB w1a.heap.size 108 [.bool false, .bool false, .bool false, .bool false, .bool false, .bool false] (w1a.alloc (.cells #[.bool false, .bool false, .bool false, .bool false, .bool false, .bool false] 108)) := RB.new w1a 108 [.bool false, .bool false, .bool false, .bool false, .bool false, .bool false]
   have hbF := (hX1a).size
   go_wp2_with fail
   have hs1 : Ext w1a (w1a.alloc (.cells #[.bool false, .bool false, .bool false, .bool false, .bool false, .bool false] 108)) := (Ext.refl _).alloc _
   have hX1b := Ext.trans hX1a hs1
   generalize w1a.alloc (.cells #[.bool false, .bool false, .bool false, .bool false, .bool false, .bool false] 108) = w1b at *
   generalize w1a.heap.size = bF at *
   refine sx_ ?_
   refine k1_ 0 135 hX1b fun w9a hx9a hX9a => ?_
   replace hF := hF.ext hx9a
   go_wp2_with (go_at_call 55; go_must (refine (CK.out w9a).mono ?_; rintro e_ w9b ⟨bM, rfl, hM, hs9⟩))
   have hX9b := Ext.trans hX9a hs9
   replace hF := hF.ext hs9
   refine sx_ ?_
   refine k1_ 3 143 hX9b fun w10a hx10a hX10a => ?_
   replace hF := hF.ext hx10a
   replace hM := hM.ext hx10a
   have hlk := hlook.out _ _ hM
   go_wp2_with fail
   clear hlk hM
   obtain ⟨w10b, hw2⟩ : ∃ x, x = w10a := ⟨_, rfl⟩
   subst hw2
   have hX10b := hX10a
   refine sx_ ?_
   refine tks [4, 5, 6] 255 2 ?_
   refine k1_ 8 511 hX10b fun w11a hx11a hX11a => ?_
   replace hF := hF.ext hx11a
   have hG := hF.setRow [.bool b0, .bool b1, .bool b2, .bool b3, .bool b4, .bool b5]
   go_wp2_with (refine wpList_store_row (cells := #[.bool b0, .bool b1, .bool b2, .bool b3, .bool b4, .bool b5]) rfl 108 _ _ rfl bF rfl rfl _ _ hF (by kernel_rfl) rfl (by first | rfl | decide | simp [Value.oneCell']) ?_)
   change RB bF 108 [.bool b0, .bool b1, .bool b2, .bool b3, .bool b4, .bool b5] (w11a.setRow bF #[.bool b0, .bool b1, .bool b2, .bool b3, .bool b4, .bool b5]) at hG
   have hX11b : Ext w1 (w11a.setRow bF #[.bool b0, .bool b1, .bool b2, .bool b3, .bool b4, .bool b5]) := Ext.setRow hX11a hbF _
   clear hF
   generalize w11a.setRow bF #[.bool b0, .bool b1, .bool b2, .bool b3, .bool b4, .bool b5] = w11b at *
   refine sx_ ?_
   refine tks [9] 1023 0 ?_
   refine kd_ hX11b fun w12a hx12a hX12a => ?_
   replace hG := hG.ext hx12a
   exact ⟨bM, bF, rfl, hG, hX12a⟩
 rintro a_ wr ⟨bM, bF, rfl, hG, hX⟩
 simp only [Act.put, List.setIfInBounds_toArray, List.set_cons_succ, List.set_cons_zero]
 clear a0 al CK hlook
 replace hA := hA.ext hX
 replace hE := hE.trans hX
 go_upto_region 2 with fail
 have al := hA.lt
 have gl := hG.lt
 cases ok with
 | false =>
  rcases hcase.out with ⟨hok0, hro0⟩ | ⟨hok0, hfd, hro0⟩
  rotate_left
  ·cases hok0
  subst hro0
  clear hcase
  refine sx_ ?_
  refine rg_ 20 (Ext.refl wr) ?_
  refine tks (List.range' 0 20) 1048575 0 (hq := by intro x; (iterate 3 go_big_quiet_step (fail)); (iterate 6 go_big_quiet_skip); go_big_quiet_step (fail); go_big_quiet_step (fail); (iterate 8 go_big_quiet_skip); go_big_quiet_step (fail); exact wpQuiet_nil rfl) ?_
  refine kd_ (Ext.refl wr) fun w1a hx1a hX1a => ?_
  go_wp2
  go_ret
  exact ⟨by rw [hr.out]; rfl, hE.trans hX1a⟩
 | true =>
 cases eq with
 | false =>
  rcases hcase.out with ⟨hok0, hro0⟩ | ⟨hok0, hfd, hro0⟩
  ·cases hok0
  obtain rfl : ro = false := by rw [hro0]; simp
  clear hro0 hcase
  refine sx_ ?_
  refine rg_ 20 (Ext.refl wr) ?_
  refine tks (List.range' 0 20) 1048575 0 (hq := by intro x; (iterate 3 go_big_quiet_step (fail)); (iterate 2 go_big_quiet_want; refine quiet_load_row 33 _ rfl bA rfl _ _ _ _ (fun _ hw => by obtain ⟨_, rfl⟩ := hw; exact hA.ext ex_) Tryz.underlying33 rfl (by kernel_rfl) ?_; simp only [Act.put, List.setIfInBounds_toArray, List.set_cons_succ, List.set_cons_zero]; go_big_quiet_on); go_big_quiet_want; refine quiet_load_row 108 _ rfl bF rfl _ _ _ _ (fun _ hw => by obtain ⟨_, rfl⟩ := hw; exact hG.ext ex_) Tryz.underlying108 rfl (by kernel_rfl) ?_; simp only [Act.put, List.setIfInBounds_toArray, List.set_cons_succ, List.set_cons_zero]; go_big_quiet_on; (iterate 2 go_big_quiet_step ((first | (go_at_call 57; with_reducible exact Calls.quietE (CB_.out hfd _)) | (go_at_call 56; with_reducible exact Calls.quietE (CS.out _ (hE.trans ex_))) | (go_at_call 58; with_reducible exact Calls.quietE (CC.out _ (hE.trans ex_)))))); (iterate 3 go_big_quiet_step (fail)); (iterate 8 go_big_quiet_skip); go_big_quiet_step (fail); exact wpQuiet_nil rfl) ?_
  refine kd_ (Ext.refl wr) fun w1a hx1a hX1a => ?_
  go_wp2
  go_ret
  exact ⟨by rw [hr.out]; rfl, hE.trans hX1a⟩
 | true =>
 cases b4 with
 | false =>
  have g4 := hG.at 4 rfl
  rcases hcase.out with ⟨hok0, hro0⟩ | ⟨hok0, hfd, hro0⟩
  ·cases hok0
  obtain rfl : ro = (decide (p.size ≤ 98) && rl) := by rw [hro0]; simp
  clear hro0 hcase
  refine sx_ ?_
  refine rg_ 20 (Ext.refl wr) ?_
  refine tks (List.range' 0 20) 1048575 0 (hq := by intro x; (iterate 3 go_big_quiet_step (fail)); (iterate 2 go_big_quiet_want; refine quiet_load_row 33 _ rfl bA rfl _ _ _ _ (fun _ hw => by obtain ⟨_, rfl⟩ := hw; exact hA.ext ex_) Tryz.underlying33 rfl (by kernel_rfl) ?_; simp only [Act.put, List.setIfInBounds_toArray, List.set_cons_succ, List.set_cons_zero]; go_big_quiet_on); go_big_quiet_want; refine quiet_load_row 108 _ rfl bF rfl _ _ _ _ (fun _ hw => by obtain ⟨_, rfl⟩ := hw; exact hG.ext ex_) Tryz.underlying108 rfl (by kernel_rfl) ?_; simp only [Act.put, List.setIfInBounds_toArray, List.set_cons_succ, List.set_cons_zero]; go_big_quiet_on; (iterate 2 go_big_quiet_step ((first | (go_at_call 57; with_reducible exact Calls.quietE (CB_.out hfd _)) | (go_at_call 56; with_reducible exact Calls.quietE (CS.out _ (hE.trans ex_))) | (go_at_call 58; with_reducible exact Calls.quietE (CC.out _ (hE.trans ex_)))))); (iterate 6 go_big_quiet_step (fail)); (iterate 4 go_big_quiet_skip); go_big_quiet_step (fail); go_big_quiet_step (fail); exact wpQuiet_nil rfl) ?_
  refine kd_ (Ext.refl wr) fun w1a hx1a hX1a => ?_
  clear al gl  g4
  replace hA := hA.ext hX1a
  replace hE := hE.trans hX1a
  have al := hA.lt
  have a3 : _ = some (Value.string p) := hA.cell 3
  have a17 : _ = some (Value.slice ql P.length cl) := hA.cell 17
  by_cases h98 : p.size ≤ 98
  ·have h98i : (p.size : Int) ≤ 98 := by omega
   go_wp2_with fail
   refine (CL.out _ hE).mono ?_; rintro e_ w9 ⟨rfl, h9⟩
   go_wp2
   go_ret
   exact ⟨by rw [hr.out]; simp [h98], hE.trans h9⟩
  ·have h98i : ¬ (p.size : Int) ≤ 98 := by omega
   go_wp2
   go_ret
   exact ⟨by rw [hr.out]; simp [h98], hE⟩
 | true =>
 by_cases h4 : ck = 0
 ·subst h4
  have a8 := hA.at 8 rfl
  have a9 := hA.at 9 rfl
  have a10 := hA.at 10 rfl
  have a11 := hA.at 11 rfl
  have a12 := hA.at 12 rfl
  have a13 := hA.at 13 rfl
  have a14 := hA.at 14 rfl
  have a15 := hA.at 15 rfl
  have a16 := hA.at 16 rfl
  have g4 := hG.at 4 rfl
  rcases hcase.out with ⟨hok0, hro0⟩ | ⟨hok0, hfd, hro0⟩
  ·cases hok0
  obtain rfl : ro = (decide (p.size ≤ 98) && rl) := by rw [hro0]; simp
  clear hro0 hcase
  refine sx_ ?_
  refine rg_ 20 (Ext.refl wr) ?_
  refine tks (List.range' 0 20) 1048575 0 (hq := by intro x; (iterate 3 go_big_quiet_step (fail)); (iterate 2 go_big_quiet_want; refine quiet_load_row 33 _ rfl bA rfl _ _ _ _ (fun _ hw => by obtain ⟨_, rfl⟩ := hw; exact hA.ext ex_) Tryz.underlying33 rfl (by kernel_rfl) ?_; simp only [Act.put, List.setIfInBounds_toArray, List.set_cons_succ, List.set_cons_zero]; go_big_quiet_on); go_big_quiet_want; refine quiet_load_row 108 _ rfl bF rfl _ _ _ _ (fun _ hw => by obtain ⟨_, rfl⟩ := hw; exact hG.ext ex_) Tryz.underlying108 rfl (by kernel_rfl) ?_; simp only [Act.put, List.setIfInBounds_toArray, List.set_cons_succ, List.set_cons_zero]; go_big_quiet_on; (iterate 2 go_big_quiet_step ((first | (go_at_call 57; with_reducible exact Calls.quietE (CB_.out hfd _)) | (go_at_call 56; with_reducible exact Calls.quietE (CS.out _ (hE.trans ex_))) | (go_at_call 58; with_reducible exact Calls.quietE (CC.out _ (hE.trans ex_)))))); (iterate 8 go_big_quiet_step (fail)); go_big_quiet_step ((first | (go_at_call 57; with_reducible exact Calls.quietE (CB_.out hfd _)) | (go_at_call 56; with_reducible exact Calls.quietE (CS.out _ (hE.trans ex_))) | (go_at_call 58; with_reducible exact Calls.quietE (CC.out _ (hE.trans ex_))))); (iterate 3 go_big_quiet_step (fail)); exact wpQuiet_nil rfl) ?_
  refine kd_ (Ext.refl wr) fun w1a hx1a hX1a => ?_
  clear al gl a8 a9 a10 a11 a12 a13 a14 a15 a16 g4
  replace hA := hA.ext hX1a
  replace hE := hE.trans hX1a
  have al := hA.lt
  have a3 : _ = some (Value.string p) := hA.cell 3
  have a17 : _ = some (Value.slice ql P.length cl) := hA.cell 17
  by_cases h98 : p.size ≤ 98
  ·have h98i : (p.size : Int) ≤ 98 := by omega
   go_wp2_with fail
   refine (CL.out _ hE).mono ?_; rintro e_ w9 ⟨rfl, h9⟩
   go_wp2
   go_ret
   exact ⟨by rw [hr.out]; simp [h98], hE.trans h9⟩
  ·have h98i : ¬ (p.size : Int) ≤ 98 := by omega
   go_wp2
   go_ret
   exact ⟨by rw [hr.out]; simp [h98], hE⟩
 ·skip
  have a8 := hA.at 8 rfl
  have a9 := hA.at 9 rfl
  have a10 := hA.at 10 rfl
  have a11 := hA.at 11 rfl
  have a12 := hA.at 12 rfl
  have a13 := hA.at 13 rfl
  have a14 := hA.at 14 rfl
  have a15 := hA.at 15 rfl
  have a16 := hA.at 16 rfl
  have g4 := hG.at 4 rfl
  rcases hcase.out with ⟨hok0, hro0⟩ | ⟨hok0, hfd, hro0⟩
  ·cases hok0
  obtain rfl : ro = false := by rw [hro0]; simp [h4]
  clear hro0 hcase
  have hcki : ¬ ((ck : Int) = 0) := by omega
  refine sx_ ?_
  refine rg_ 20 (Ext.refl wr) ?_
  refine tks (List.range' 0 20) 1048575 0 (hq := by intro x; (iterate 3 go_big_quiet_step (fail)); (iterate 2 go_big_quiet_want; refine quiet_load_row 33 _ rfl bA rfl _ _ _ _ (fun _ hw => by obtain ⟨_, rfl⟩ := hw; exact hA.ext ex_) Tryz.underlying33 rfl (by kernel_rfl) ?_; simp only [Act.put, List.setIfInBounds_toArray, List.set_cons_succ, List.set_cons_zero]; go_big_quiet_on); go_big_quiet_want; refine quiet_load_row 108 _ rfl bF rfl _ _ _ _ (fun _ hw => by obtain ⟨_, rfl⟩ := hw; exact hG.ext ex_) Tryz.underlying108 rfl (by kernel_rfl) ?_; simp only [Act.put, List.setIfInBounds_toArray, List.set_cons_succ, List.set_cons_zero]; go_big_quiet_on; (iterate 2 go_big_quiet_step ((first | (go_at_call 57; with_reducible exact Calls.quietE (CB_.out hfd _)) | (go_at_call 56; with_reducible exact Calls.quietE (CS.out _ (hE.trans ex_))) | (go_at_call 58; with_reducible exact Calls.quietE (CC.out _ (hE.trans ex_)))))); (iterate 8 go_big_quiet_step (fail)); go_big_quiet_step ((first | (go_at_call 57; with_reducible exact Calls.quietE (CB_.out hfd _)) | (go_at_call 56; with_reducible exact Calls.quietE (CS.out _ (hE.trans ex_))) | (go_at_call 58; with_reducible exact Calls.quietE (CC.out _ (hE.trans ex_))))); (iterate 3 go_big_quiet_step (fail)); exact wpQuiet_nil rfl) ?_
  refine kd_ (Ext.refl wr) fun w1a hx1a hX1a => ?_
  go_wp2
  go_ret
  exact ⟨by rw [hr.out]; rfl, hE.trans hX1a⟩
end Go.Proofs.YtefjdmjkofaajaaGreatDoor
namespace Go.Dm
open Go Go.RowKit
def putsOf (f : Fld) (o : OpQ) : Bs := cond f.1 (putL o.2.1.1) [] ++ (cond f.2.1 (putL o.2.1.2) [] ++ (cond f.2.2.1 (putT o.2.2.1.data.toList) [] ++ (cond f.2.2.2.1 (putV o.2.2.2.1) [] ++ (cond f.2.2.2.2.1 (putX o.2.2.2.2.1) [] ++ cond f.2.2.2.2.2 (putLab (labL o.2.2.2.2.2)) []))))
def putO (o : OpQ) : Bs := if rightO o = true then putL o.1.toNat ++ putsOf ((knownF o.1).getD noFld) o else []
def addW (b : Bool) (c : Nat) (S T : ByteArray) (w : World) : World := cond b (w.setCell ⟨c, 0, none⟩ (.string (S ++ T))) w
theorem RB.add {c : Nat} {t : TypeId} {S : ByteArray} {w : World} (h : RB c t [.string S] w) (b : Bool) (T : ByteArray) : RB c t [.string (cond b (S ++ T) S)] (addW b c S T w) := by
 cases b
 ·exact h
 ·exact h.set 0 (.string (S ++ T))
theorem RB.addFar {c d : Nat} {t : TypeId} {cs : List Value} {w : World} (h : RB d t cs w) (hcd : c ≠ d) (b : Bool) (S T : ByteArray) : RB d t cs (addW b c S T w) := by
 cases b
 ·exact h
 ·exact h.far hcd _
theorem Ext.addW {w0 w : World} (h : Ext w0 w) {c : Nat} (hc : w0.heap.size ≤ c) (b : Bool) (S T : ByteArray) : Ext w0 (addW b c S T w) := by
 cases b
 ·exact h
 ·exact Below.setCell h hc _
theorem add_data (b : Bool) (S T : ByteArray) : (cond b (S ++ T) S).data.toList = S.data.toList ++ cond b T.data.toList [] := by
 cases b
 ·simp
 ·exact data_append S T
theorem add_size (b : Bool) (S T : ByteArray) : (cond b (S ++ T) S).size ≤ S.size + T.size := by
 cases b
 ·show S.size ≤ _; omega
 ·show (S ++ T).size ≤ _; rw [ByteArray.size_append]; omega
theorem putX_short {x : SpQ} (ho : OkV x.2.1) : (putX x).length ≤ 1200 := by
 by_cases h : chkX x = 0
 ·rw [putX_ok h]; exact putB_short h ho
 ·rw [putX_bad h]; simp
theorem putV_40 {a : Vc} (h : OkV a) : (putV a).length ≤ 40 := by rw [← putVF_four]; exact putVF_len h 4
theorem putLab_700 (L : List PairL) : (putLab L).length ≤ 700 := by
 cases h : rightLab L with
 | true => exact (putLab_short h).2
 | false => unfold putLab; rw [h]; simp
end Go.Dm
namespace Go.Proofs.YtefjdmjkofaajaaGreatDoor
open Go.RowKit Go.Dm
theorem add_w (b : Bool) (S T : ByteArray) (c : Nat) (w : World) (hc : RB c 9 [.string S] w) (hs : S.size + T.size ≤ 140737488355328) :
  Calls Tryz.prog 65 #[.bool b, .string T, .pointer (some ⟨c, 0, none⟩)] w fun e w' => e = .returned (.tuple #[]) ∧ w' = addW b c S T w := by
 have cl := hc.lt
 have c0 : w.cell? ⟨c, 0, none⟩ = some (.string S) := hc.cell 0
 have cf : w.frozen? ⟨c, 0, none⟩ = false := hc.free 0
 cases b with
 | false =>
  go_enter Tryz.func65, Tryz.ntmps65
  go_wp2
  first | go_end0 | refine bodyPost_end (v := .tuple #[]) rfl rfl ?_
  exact ⟨rfl, rfl⟩
 | true =>
  go_enter Tryz.func65, Tryz.ntmps65
  go_wp2
  first | go_end0 | refine bodyPost_end (v := .tuple #[]) rfl rfl ?_
  exact ⟨rfl, rfl⟩
set_option maxHeartbeats 4000000 in
set_option maxRecDepth 100000 in
theorem aput_no (k : Int) (i n : Nat) (p : ByteArray) (d : Vc) (s : ByteArray) (e : Vc) (m : Nums3) (v l : Value) (R : List RowS) (P : List PairS) (w : World)
  (hk : -9223372036854775808 ≤ k ∧ k ≤ 9223372036854775807) (hd : OkV d) (hs : s.size < 4294967281) (he : OkV e) (hm : R.length ≤ 35184372088832) (hf : FitR R) (hx : Terms w v R) (hpm : P.length ≤ 35184372088832) (hfp : FitP P) (hy : Pairs w l P) (hv : Vars w)
  (hro : rightO (k, (i, n), p, d, (s, e, m, R.map rowT), P) = false) :
  Calls Tryz.prog 27 #[opV k i n p (vG d) s (vG e) m v l] w fun e_ w' => e_ = .returned (.string ⟨(putO (k, (i, n), p, d, (s, e, m, R.map rowT), P)).toArray⟩) ∧ Ext w w' := by
  obtain ⟨qv, cv, rfl, _, _⟩ := hx.shape
  obtain ⟨ql, cl, rfl, _, _⟩ := hy.shape
  have CR := fun U (h : Ext w U) => aright_w k i n p d s e m _ _ R P U hk hd hs he hm hf (hx.ext h) hpm hfp (hy.ext h) (hv.ext h)
  rw [show putO (k, (i, n), p, d, (s, e, m, R.map rowT), P) = [] by unfold putO; rw [hro]; rfl]
  rw [hro] at CR
  unfold opV at CR ⊢
  obtain ⟨w1, hW1, hA, hE, -⟩ := new_row w 33 [.int .i64 k, .int .u64 (i : Nat), .int .u64 (n : Nat), .string p, .int .u64 ((vG d) 0 : Nat), .int .u64 ((vG d) 1 : Nat), .int .u64 ((vG d) 2 : Nat), .int .u64 ((vG d) 3 : Nat), .string s, .int .u64 ((vG e) 0 : Nat), .int .u64 ((vG e) 1 : Nat), .int .u64 ((vG e) 2 : Nat), .int .u64 ((vG e) 3 : Nat), .int .i64 m.1, .int .i64 m.2.1, .int .i64 m.2.2, .slice qv R.length cv, .slice ql P.length cl]
  obtain ⟨bA, hbA⟩ : ∃ x, w.heap.size = x := ⟨_, rfl⟩
  have hwA : w.heap.size ≤ bA := by omega
  rw [hbA] at hA
  replace CR := Lib.hid CR
  have al := hA.lt
  go_enter Tryz.func27, Tryz.ntmps27
  go_upto_region 1 with fail
  clear hW1 hbA
  go_wp2_with (refine wpList_load_row rfl 33 _ rfl bA rfl _ _ _ _ hA Tryz.underlying33 rfl (by kernel_rfl) ?_)
  refine (CR.out _ hE).mono ?_; rintro e_ w2 ⟨rfl, h2⟩
  go_wp2
  go_ret
  exact ⟨rfl, hE.trans h2⟩
set_option maxHeartbeats 8000000 in
set_option maxRecDepth 100000 in
theorem aput_yes (k : Nat) (i n : Nat) (p : ByteArray) (d : Vc) (s : ByteArray) (e : Vc) (m : Nums3) (v l : Value) (R : List RowS) (P : List PairS) (w : World)
  (hk13 : k ≤ 13) (hi : U64 i) (hn : U64 n) (hp98 : p.size ≤ 98) (hd : OkV d) (hs : s.size < 4294967281) (he : OkV e) (hm : R.length ≤ 35184372088832) (hf : FitR R) (hx : Terms w v R) (hpm : P.length ≤ 35184372088832) (hfp : FitP P) (hy : Pairs w l P) (hv : Vars w)
  (hro : rightO (↑k, (i, n), p, d, (s, e, m, R.map rowT), P) = true) :
  Calls Tryz.prog 27 #[opV k i n p (vG d) s (vG e) m v l] w fun e_ w' => e_ = .returned (.string ⟨(putO (↑k, (i, n), p, d, (s, e, m, R.map rowT), P)).toArray⟩) ∧ Ext w w' := by
  have hk : -9223372036854775808 ≤ (k : Int) ∧ (k : Int) ≤ 9223372036854775807 := by omega
  obtain ⟨qv, cv, rfl, _, _⟩ := hx.shape
  obtain ⟨ql, cl, rfl, _, _⟩ := hy.shape
  have CR := fun U (h : Ext w U) => aright_w k i n p d s e m _ _ R P U hk hd hs he hm hf (hx.ext h) hpm hfp (hy.ext h) (hv.ext h)
  rw [hro] at CR
  have CK := fun U => aknown_w U
  have hlook := fun (U : World) B (h : MapK U B 13 knownF) => h.look1 hk
  have hU : U64 k := Nat.lt_of_le_of_lt hk13 (by decide)
  have C0 := fun U => put_w k U hU
  have C1 := fun U => put_w i U hi
  have C2 := fun U => put_w n U hn
  have C3 := fun U => puttext_w p U (by omega)
  have C4 := fun U => vput_w d hd U
  have C5 := fun U (h : Ext w U) => xput_w s e m _ R U hs he hm hf (hx.ext h) (hv.ext h)
  have C6 := fun U (h : Ext w U) => lput_w P _ U hpm hfp (hy.ext h) (hv.tabs.ext h)
  have hput : ∀ S : ByteArray, S.data.toList = (((((((⟨(putL k).toArray⟩ : ByteArray).data.toList ++ cond ((knownF k).getD noFld).1 (⟨(putL i).toArray⟩ : ByteArray).data.toList []) ++ cond ((knownF k).getD noFld).2.1 (⟨(putL n).toArray⟩ : ByteArray).data.toList []) ++ cond ((knownF k).getD noFld).2.2.1 (⟨(putT p.data.toList).toArray⟩ : ByteArray).data.toList []) ++ cond ((knownF k).getD noFld).2.2.2.1 (⟨(putV d).toArray⟩ : ByteArray).data.toList []) ++ cond ((knownF k).getD noFld).2.2.2.2.1 (⟨(putX (s, e, m, R.map rowT)).toArray⟩ : ByteArray).data.toList []) ++ cond ((knownF k).getD noFld).2.2.2.2.2 (⟨(putLab (labL P)).toArray⟩ : ByteArray).data.toList []) → (⟨(putO (↑k, (i, n), p, d, (s, e, m, R.map rowT), P)).toArray⟩ : ByteArray) = S := fun S h => by
   refine (mk_bytes ?_).symm
   rw [h]
   unfold putO putsOf
   rw [if_pos hro]
   simp [List.append_assoc]
  have z0 : (⟨(putL k).toArray⟩ : ByteArray).size ≤ 1200 := by rw [size_len]; have := putL_ten hU; show (putL k).length ≤ _; omega
  have z1 : (⟨(putL i).toArray⟩ : ByteArray).size ≤ 1200 := by rw [size_len]; have := putL_ten hi; show (putL i).length ≤ _; omega
  have z2 : (⟨(putL n).toArray⟩ : ByteArray).size ≤ 1200 := by rw [size_len]; have := putL_ten hn; show (putL n).length ≤ _; omega
  have z3 : (⟨(putT p.data.toList).toArray⟩ : ByteArray).size ≤ 1200 := by
   rw [size_len]
   have := putL_ten (u := p.data.toList.length) (Nat.lt_of_le_of_lt (show p.data.toList.length ≤ 98 from hp98) (by decide))
   have h9 : p.data.toList.length ≤ 98 := hp98
   show (putL p.data.toList.length ++ p.data.toList).length ≤ _
   rw [List.length_append]; omega
  have z4 : (⟨(putV d).toArray⟩ : ByteArray).size ≤ 1200 := by rw [size_len]; have := putV_40 hd; show (putV d).length ≤ _; omega
  have z5 : (⟨(putX (s, e, m, R.map rowT)).toArray⟩ : ByteArray).size ≤ 1200 := by rw [size_len]; exact putX_short (x := (s, e, m, R.map rowT)) he
  have z6 : (⟨(putLab (labL P)).toArray⟩ : ByteArray).size ≤ 1200 := by rw [size_len]; have := putLab_700 (labL P); show (putLab (labL P)).length ≤ _; omega
  generalize (⟨(putL k).toArray⟩ : ByteArray) = T0 at *
  generalize (⟨(putL i).toArray⟩ : ByteArray) = T1 at *
  generalize (⟨(putL n).toArray⟩ : ByteArray) = T2 at *
  generalize (⟨(putT p.data.toList).toArray⟩ : ByteArray) = T3 at *
  generalize (⟨(putV d).toArray⟩ : ByteArray) = T4 at *
  generalize (⟨(putX (s, e, m, R.map rowT)).toArray⟩ : ByteArray) = T5 at *
  generalize (⟨(putLab (labL P)).toArray⟩ : ByteArray) = T6 at *
  generalize (⟨(putO (↑k, (i, n), p, d, (s, e, m, R.map rowT), P)).toArray⟩ : ByteArray) = TT at *
  generalize (knownF k).getD noFld = f0 at *
  obtain ⟨b0, b1, b2, b3, b4, b5⟩ := f0
  unfold fldV at hlook
  simp only at hlook hput
  unfold vVal vF at C4
  unfold spVal at C5
  have hmf : ∀ (fn : Fn) (first cap : Array Value) (w : World), (Instr.makeFunc fn first cap).run Tryz.prog w = .ok (.func fn first cap) w := fun _ _ _ _ => rfl
  replace hput := Lib.hid hput
  replace hlook := Lib.hid hlook
  replace CK := Lib.hid CK
  replace C0 := Lib.hid C0
  replace C1 := Lib.hid C1
  replace C2 := Lib.hid C2
  replace C3 := Lib.hid C3
  replace C4 := Lib.hid C4
  replace C5 := Lib.hid C5
  replace C6 := Lib.hid C6
  clear hro hk hU
  unfold opV at CR ⊢
  obtain ⟨w1, hW1, hA, hE, -⟩ := new_row w 33 [.int .i64 k, .int .u64 (i : Nat), .int .u64 (n : Nat), .string p, .int .u64 ((vG d) 0 : Nat), .int .u64 ((vG d) 1 : Nat), .int .u64 ((vG d) 2 : Nat), .int .u64 ((vG d) 3 : Nat), .string s, .int .u64 ((vG e) 0 : Nat), .int .u64 ((vG e) 1 : Nat), .int .u64 ((vG e) 2 : Nat), .int .u64 ((vG e) 3 : Nat), .int .i64 m.1, .int .i64 m.2.1, .int .i64 m.2.2, .slice qv R.length cv, .slice ql P.length cl]
  obtain ⟨bA, hbA⟩ : ∃ x, w.heap.size = x := ⟨_, rfl⟩
  have hwA : w.heap.size ≤ bA := by omega
  rw [hbA] at hA
  replace CR := Lib.hid CR
  have al := hA.lt
  go_enter Tryz.func27, Tryz.ntmps27
  go_upto_region 1 with fail
  clear hW1 hbA
  go_wp2_with (refine wpList_load_row rfl 33 _ rfl bA rfl _ _ _ _ hA Tryz.underlying33 rfl (by kernel_rfl) ?_)
  refine (CR.out _ hE).mono ?_; rintro e_ w2 ⟨rfl, h2⟩
  replace hA := hA.ext h2
  replace hE := hE.trans h2
  clear al h2
  go_upto_region 3 with fail
  have al := hA.lt
  have a0 : w2.cell? ⟨bA, 0, none⟩ = some (.int .i64 (k : Nat)) := hA.cell 0
  refine region_cut (fun a_ a' w' => ∃ bM bF : Nat, a' = ((((a_.put (some 9) (.map (some bM))).put (some 10) (.pointer (some ⟨bA, 0, none⟩))).put (some 11) (.int .i64 (k : Nat))).put (some 12) (.agg #[.bool b0, .bool b1, .bool b2, .bool b3, .bool b4, .bool b5])).put (some 3) (.pointer (some ⟨bF, 0, none⟩)) ∧ RB bF 108 [.bool b0, .bool b1, .bool b2, .bool b3, .bool b4, .bool b5] w' ∧ Ext w2 w') ?_ ?_
  ·skip
   refine sx_ ?_
   refine rg_ 6 (Ext.refl w2) ?_
   refine tks [1, 2] 6 4 ?_
   refine k2_ 0 4 7 22 (Ext.refl w2) (fun w1a hx1a hX1a => ?_) fun w1a hx1a hX1a => ?_
   ·
    go_wp2_with (go_at_call 55; go_must (refine (CK.out w1a).mono ?_; rintro e_ w1b ⟨bM, rfl, hM, hs1⟩))
    have hX1b := Ext.trans hX1a hs1
    refine sx_ ?_
    refine k2_ 3 4 15 23 hX1b (fun w2a hx2a hX2a => ?_) fun w2a hx2a hX2a => ?_
    ·
     replace hM := hM.ext hx2a
     have hlk := hlook.out _ _ hM
     go_wp2_with fail
     clear hlk hM
     obtain ⟨w2b, hw2⟩ : ∃ x, x = w2a := ⟨_, rfl⟩
     subst hw2
     have hX2b := hX2a
     refine sx_ ?_
     refine k1_ 4 31 hX2b fun w3a hx3a hX3a => ?_
     have hF : RB w3a.heap.size 108 [.bool false, .bool false, .bool false, .bool false, .bool false, .bool false] (w3a.alloc (.cells #[.bool false, .bool false, .bool false, .bool false, .bool false, .bool false] 108)) := RB.new w3a 108 [.bool false, .bool false, .bool false, .bool false, .bool false, .bool false]
     have hbF := (hX3a).size
     go_wp2_with fail
     have hs3 : Ext w3a (w3a.alloc (.cells #[.bool false, .bool false, .bool false, .bool false, .bool false, .bool false] 108)) := (Ext.refl _).alloc _
     have hX3b := Ext.trans hX3a hs3
     generalize w3a.alloc (.cells #[.bool false, .bool false, .bool false, .bool false, .bool false, .bool false] 108) = w3b at *
     generalize w3a.heap.size = bF at *
     refine sx_ ?_
     refine k1_ 5 63 hX3b fun w4a hx4a hX4a => ?_
     replace hF := hF.ext hx4a
     have hG := hF.setRow [.bool b0, .bool b1, .bool b2, .bool b3, .bool b4, .bool b5]
     go_wp2_with (refine wpList_store_row (cells := #[.bool b0, .bool b1, .bool b2, .bool b3, .bool b4, .bool b5]) rfl 108 _ _ rfl bF rfl rfl _ _ hF (by kernel_rfl) rfl (by first | rfl | decide | simp [Value.oneCell']) ?_)
     change RB bF 108 [.bool b0, .bool b1, .bool b2, .bool b3, .bool b4, .bool b5] (w4a.setRow bF #[.bool b0, .bool b1, .bool b2, .bool b3, .bool b4, .bool b5]) at hG
     have hX4b : Ext w2 (w4a.setRow bF #[.bool b0, .bool b1, .bool b2, .bool b3, .bool b4, .bool b5]) := Ext.setRow hX4a hbF _
     clear hF
     generalize w4a.setRow bF #[.bool b0, .bool b1, .bool b2, .bool b3, .bool b4, .bool b5] = w4b at *
     refine sx_ ?_
     refine kd_ hX4b fun w5a hx5a hX5a => ?_
     replace hG := hG.ext hx5a
     exact ⟨bM, bF, rfl, hG, hX5a⟩
    ·
     replace hM := hM.ext hx2a
     have hF : RB w2a.heap.size 108 [.bool false, .bool false, .bool false, .bool false, .bool false, .bool false] (w2a.alloc (.cells #[.bool false, .bool false, .bool false, .bool false, .bool false, .bool false] 108)) := RB.new w2a 108 [.bool false, .bool false, .bool false, .bool false, .bool false, .bool false]
     have hbF := (hX2a).size
     go_wp2_with fail
     have hs2 : Ext w2a (w2a.alloc (.cells #[.bool false, .bool false, .bool false, .bool false, .bool false, .bool false] 108)) := (Ext.refl _).alloc _
     have hX2b := Ext.trans hX2a hs2
     generalize w2a.alloc (.cells #[.bool false, .bool false, .bool false, .bool false, .bool false, .bool false] 108) = w2b at *
     generalize w2a.heap.size = bF at *
     replace hM := hM.ext hs2
     refine sx_ ?_
     refine k1_ 3 31 hX2b fun w6a hx6a hX6a => ?_
     replace hM := hM.ext hx6a
     replace hF := hF.ext hx6a
     have hlk := hlook.out _ _ hM
     go_wp2_with fail
     clear hlk hM
     obtain ⟨w6b, hw2⟩ : ∃ x, x = w6a := ⟨_, rfl⟩
     subst hw2
     have hX6b := hX6a
     refine sx_ ?_
     refine k1_ 5 63 hX6b fun w7a hx7a hX7a => ?_
     replace hF := hF.ext hx7a
     have hG := hF.setRow [.bool b0, .bool b1, .bool b2, .bool b3, .bool b4, .bool b5]
     go_wp2_with (refine wpList_store_row (cells := #[.bool b0, .bool b1, .bool b2, .bool b3, .bool b4, .bool b5]) rfl 108 _ _ rfl bF rfl rfl _ _ hF (by kernel_rfl) rfl (by first | rfl | decide | simp [Value.oneCell']) ?_)
     change RB bF 108 [.bool b0, .bool b1, .bool b2, .bool b3, .bool b4, .bool b5] (w7a.setRow bF #[.bool b0, .bool b1, .bool b2, .bool b3, .bool b4, .bool b5]) at hG
     have hX7b : Ext w2 (w7a.setRow bF #[.bool b0, .bool b1, .bool b2, .bool b3, .bool b4, .bool b5]) := Ext.setRow hX7a hbF _
     clear hF
     generalize w7a.setRow bF #[.bool b0, .bool b1, .bool b2, .bool b3, .bool b4, .bool b5] = w7b at *
     refine sx_ ?_
     refine kd_ hX7b fun w8a hx8a hX8a => ?_
     replace hG := hG.ext hx8a
     exact ⟨bM, bF, rfl, hG, hX8a⟩
   ·
    have hF : RB w1a.heap.size 108 [.bool false, .bool false, .bool false, .bool false, .bool false, .bool false] (w1a.alloc (.cells #[.bool false, .bool false, .bool false, .bool false, .bool false, .bool false] 108)) := RB.new w1a 108 [.bool false, .bool false, .bool false, .bool false, .bool false, .bool false]
    have hbF := (hX1a).size
    go_wp2_with fail
    have hs1 : Ext w1a (w1a.alloc (.cells #[.bool false, .bool false, .bool false, .bool false, .bool false, .bool false] 108)) := (Ext.refl _).alloc _
    have hX1b := Ext.trans hX1a hs1
    generalize w1a.alloc (.cells #[.bool false, .bool false, .bool false, .bool false, .bool false, .bool false] 108) = w1b at *
    generalize w1a.heap.size = bF at *
    refine sx_ ?_
    refine k1_ 0 23 hX1b fun w9a hx9a hX9a => ?_
    replace hF := hF.ext hx9a
    go_wp2_with (go_at_call 55; go_must (refine (CK.out w9a).mono ?_; rintro e_ w9b ⟨bM, rfl, hM, hs9⟩))
    have hX9b := Ext.trans hX9a hs9
    replace hF := hF.ext hs9
    refine sx_ ?_
    refine k1_ 3 31 hX9b fun w10a hx10a hX10a => ?_
    replace hF := hF.ext hx10a
    replace hM := hM.ext hx10a
    have hlk := hlook.out _ _ hM
    go_wp2_with fail
    clear hlk hM
    obtain ⟨w10b, hw2⟩ : ∃ x, x = w10a := ⟨_, rfl⟩
    subst hw2
    have hX10b := hX10a
    refine sx_ ?_
    refine k1_ 5 63 hX10b fun w11a hx11a hX11a => ?_
    replace hF := hF.ext hx11a
    have hG := hF.setRow [.bool b0, .bool b1, .bool b2, .bool b3, .bool b4, .bool b5]
    go_wp2_with (refine wpList_store_row (cells := #[.bool b0, .bool b1, .bool b2, .bool b3, .bool b4, .bool b5]) rfl 108 _ _ rfl bF rfl rfl _ _ hF (by kernel_rfl) rfl (by first | rfl | decide | simp [Value.oneCell']) ?_)
    change RB bF 108 [.bool b0, .bool b1, .bool b2, .bool b3, .bool b4, .bool b5] (w11a.setRow bF #[.bool b0, .bool b1, .bool b2, .bool b3, .bool b4, .bool b5]) at hG
    have hX11b : Ext w2 (w11a.setRow bF #[.bool b0, .bool b1, .bool b2, .bool b3, .bool b4, .bool b5]) := Ext.setRow hX11a hbF _
    clear hF
    generalize w11a.setRow bF #[.bool b0, .bool b1, .bool b2, .bool b3, .bool b4, .bool b5] = w11b at *
    refine sx_ ?_
    refine kd_ hX11b fun w12a hx12a hX12a => ?_
    replace hG := hG.ext hx12a
    exact ⟨bM, bF, rfl, hG, hX12a⟩
  rintro a_ wr ⟨bM, bF, rfl, hG, hX⟩
  simp only [Act.put, List.setIfInBounds_toArray, List.set_cons_succ, List.set_cons_zero]
  clear a0 al CK hlook
  replace hA := hA.ext hX
  replace hE := hE.trans hX
  clear hX
  have al := hA.lt
  have a0 : wr.cell? ⟨bA, 0, none⟩ = some (.int .i64 (k : Nat)) := hA.cell 0
  go_wp2_with fail
  refine (C0.out _).mono ?_; rintro e_ w5 ⟨rfl, h5⟩
  clear al a0
  replace hA := hA.ext h5
  replace hG := hG.ext h5
  replace hE := hE.trans h5
  have hS := RB.new w5 9 [.string T0]
  have e6 : Ext w5 (w5.alloc (.cells #[.string T0] 9)) := (Ext.refl w5).alloc _
  have hSA : w5.heap.size ≠ bA := by have := hA.lt; omega
  have hSG : w5.heap.size ≠ bF := by have := hG.lt; omega
  have hwS : w.heap.size ≤ w5.heap.size := hE.size
  go_upto_region 5 with fail
  change RB w5.heap.size 9 [.string T0] (w5.alloc (.cells #[.string T0] 9)) at hS
  replace hA := hA.ext e6
  replace hG := hG.ext e6
  replace hE := hE.trans e6
  clear e6
  generalize w5.alloc (.cells #[.string T0] 9) = w6 at *
  generalize w5.heap.size = bS at *
  go_upto_region 6 with fail
  have HI : Rd1 bF 0 (.bool b0) w6 ∧ Rd1 bA 1 (.int .u64 (i : Nat)) w6 ∧ Ext w w6 := ⟨⟨hG.lt, hG.cell 0⟩, ⟨hA.lt, hA.cell 1⟩, hE⟩
  refine sx_ ?_
  refine rf_ (fun U => Rd1 bF 0 (.bool b0) U ∧ Rd1 bA 1 (.int .u64 (i : Nat)) U ∧ Ext w U) 6 7 ?_
  refine tts [0, 1, 2, 3, 4, 5] 63 1 (fun _ _ h hx => ⟨h.1.ext hx, h.2.1.ext hx, h.2.2.trans hx⟩) HI ?_ (hq := by intro wq hwq; obtain ⟨⟨ql0, qc0⟩, ⟨ql1, qc1⟩, qE⟩ := hwq; (repeat go_big_quiet_step ((go_at_call 63; with_reducible exact Calls.quietE (C1.out _)))); exact wpQuiet_nil rfl)
  refine f1_ 6 127 fun wz hxz => ?_
  go_wp2_with (go_at_call 65; go_must (refine (add_w b0 T0 T1 bS wz (hS.ext hxz) (by omega)).mono ?_; rintro e_ wc ⟨rfl, rfl⟩))
  first | refine ⟨fun h => absurd h (by decide), ?_⟩ | skip
  refine fd_ fun wy hxy => ?_
  have kS := ((hS.ext hxz).add b0 T1).ext hxy
  have kA := ((hA.ext hxz).addFar hSA b0 T0 T1).ext hxy
  have kG := ((hG.ext hxz).addFar hSG b0 T0 T1).ext hxy
  have kE := ((hE.trans hxz).addW hwS b0 T0 T1).trans hxy
  have zT0 := add_size b0 T0 T1
  have dT0 := Lib.hid (add_data b0 T0 T1)
  clear HI hA hG hS hE hxz hxy
  have hA := kA
  have hG := kG
  have hS := kS
  have hE := kE
  clear kA kG kS kE
  generalize cond b0 (T0 ++ T1) T0 = S1 at *
  obtain ⟨wa, rfl⟩ : ∃ x, x = wy := ⟨_, rfl⟩
  go_upto_region 7 with fail
  have HI : Rd1 bF 1 (.bool b1) wa ∧ Rd1 bA 2 (.int .u64 (n : Nat)) wa ∧ Ext w wa := ⟨⟨hG.lt, hG.cell 1⟩, ⟨hA.lt, hA.cell 2⟩, hE⟩
  refine sx_ ?_
  refine rf_ (fun U => Rd1 bF 1 (.bool b1) U ∧ Rd1 bA 2 (.int .u64 (n : Nat)) U ∧ Ext w U) 6 7 ?_
  refine tts [0, 1, 2, 3, 4, 5] 63 1 (fun _ _ h hx => ⟨h.1.ext hx, h.2.1.ext hx, h.2.2.trans hx⟩) HI ?_ (hq := by intro wq hwq; obtain ⟨⟨ql0, qc0⟩, ⟨ql1, qc1⟩, qE⟩ := hwq; (repeat go_big_quiet_step ((go_at_call 63; with_reducible exact Calls.quietE (C2.out _)))); exact wpQuiet_nil rfl)
  refine f1_ 6 127 fun wz hxz => ?_
  go_wp2_with (go_at_call 65; go_must (refine (add_w b1 S1 T2 bS wz (hS.ext hxz) (by omega)).mono ?_; rintro e_ wc ⟨rfl, rfl⟩))
  first | refine ⟨fun h => absurd h (by decide), ?_⟩ | skip
  refine fd_ fun wy hxy => ?_
  have kS := ((hS.ext hxz).add b1 T2).ext hxy
  have kA := ((hA.ext hxz).addFar hSA b1 S1 T2).ext hxy
  have kG := ((hG.ext hxz).addFar hSG b1 S1 T2).ext hxy
  have kE := ((hE.trans hxz).addW hwS b1 S1 T2).trans hxy
  have zS1 := add_size b1 S1 T2
  have dS1 := Lib.hid (add_data b1 S1 T2)
  clear HI hA hG hS hE hxz hxy
  have hA := kA
  have hG := kG
  have hS := kS
  have hE := kE
  clear kA kG kS kE
  generalize cond b1 (S1 ++ T2) S1 = S2 at *
  obtain ⟨wb, rfl⟩ : ∃ x, x = wy := ⟨_, rfl⟩
  go_upto_region 8 with fail
  have HI : Rd1 bF 2 (.bool b2) wb ∧ Rd1 bA 3 (.string p) wb ∧ Ext w wb := ⟨⟨hG.lt, hG.cell 2⟩, ⟨hA.lt, hA.cell 3⟩, hE⟩
  refine sx_ ?_
  refine rf_ (fun U => Rd1 bF 2 (.bool b2) U ∧ Rd1 bA 3 (.string p) U ∧ Ext w U) 6 7 ?_
  refine tts [0, 1, 2, 3, 4, 5] 63 1 (fun _ _ h hx => ⟨h.1.ext hx, h.2.1.ext hx, h.2.2.trans hx⟩) HI ?_ (hq := by intro wq hwq; obtain ⟨⟨ql0, qc0⟩, ⟨ql1, qc1⟩, qE⟩ := hwq; (repeat go_big_quiet_step ((go_at_call 62; with_reducible exact Calls.quietE (C3.out _)))); exact wpQuiet_nil rfl)
  refine f1_ 6 127 fun wz hxz => ?_
  go_wp2_with (go_at_call 65; go_must (refine (add_w b2 S2 T3 bS wz (hS.ext hxz) (by omega)).mono ?_; rintro e_ wc ⟨rfl, rfl⟩))
  first | refine ⟨fun h => absurd h (by decide), ?_⟩ | skip
  refine fd_ fun wy hxy => ?_
  have kS := ((hS.ext hxz).add b2 T3).ext hxy
  have kA := ((hA.ext hxz).addFar hSA b2 S2 T3).ext hxy
  have kG := ((hG.ext hxz).addFar hSG b2 S2 T3).ext hxy
  have kE := ((hE.trans hxz).addW hwS b2 S2 T3).trans hxy
  have zS2 := add_size b2 S2 T3
  have dS2 := Lib.hid (add_data b2 S2 T3)
  clear HI hA hG hS hE hxz hxy
  have hA := kA
  have hG := kG
  have hS := kS
  have hE := kE
  clear kA kG kS kE
  generalize cond b2 (S2 ++ T3) S2 = S3 at *
  obtain ⟨wc1, rfl⟩ : ∃ x, x = wy := ⟨_, rfl⟩
  go_upto_region 9 with fail
  have HI : Rd1 bF 3 (.bool b3) wc1 ∧ Rd1 bA 4 (.int .u64 ((vG d) 0 : Nat)) wc1 ∧ Rd1 bA 5 (.int .u64 ((vG d) 1 : Nat)) wc1 ∧ Rd1 bA 6 (.int .u64 ((vG d) 2 : Nat)) wc1 ∧ Rd1 bA 7 (.int .u64 ((vG d) 3 : Nat)) wc1 ∧ Ext w wc1 := ⟨⟨hG.lt, hG.cell 3⟩, ⟨hA.lt, hA.cell 4⟩, ⟨hA.lt, hA.cell 5⟩, ⟨hA.lt, hA.cell 6⟩, ⟨hA.lt, hA.cell 7⟩, hE⟩
  refine sx_ ?_
  refine rf_ (fun U => Rd1 bF 3 (.bool b3) U ∧ Rd1 bA 4 (.int .u64 ((vG d) 0 : Nat)) U ∧ Rd1 bA 5 (.int .u64 ((vG d) 1 : Nat)) U ∧ Rd1 bA 6 (.int .u64 ((vG d) 2 : Nat)) U ∧ Rd1 bA 7 (.int .u64 ((vG d) 3 : Nat)) U ∧ Ext w U) 6 7 ?_
  refine tts [0, 1, 2, 3, 4, 5] 63 1 (fun _ _ h hx => ⟨h.1.ext hx, h.2.1.ext hx, h.2.2.1.ext hx, h.2.2.2.1.ext hx, h.2.2.2.2.1.ext hx, h.2.2.2.2.2.trans hx⟩) HI ?_ (hq := by intro wq hwq; obtain ⟨⟨ql0, qc0⟩, ⟨ql1, qc1⟩, ⟨ql2, qc2⟩, ⟨ql3, qc3⟩, ⟨ql4, qc4⟩, qE⟩ := hwq; (repeat go_big_quiet_step ((go_at_call 66; with_reducible exact Calls.quietE (C4.out _)))); exact wpQuiet_nil rfl)
  refine f1_ 6 127 fun wz hxz => ?_
  go_wp2_with (go_at_call 65; go_must (refine (add_w b3 S3 T4 bS wz (hS.ext hxz) (by omega)).mono ?_; rintro e_ wc ⟨rfl, rfl⟩))
  first | refine ⟨fun h => absurd h (by decide), ?_⟩ | skip
  refine fd_ fun wy hxy => ?_
  have kS := ((hS.ext hxz).add b3 T4).ext hxy
  have kA := ((hA.ext hxz).addFar hSA b3 S3 T4).ext hxy
  have kG := ((hG.ext hxz).addFar hSG b3 S3 T4).ext hxy
  have kE := ((hE.trans hxz).addW hwS b3 S3 T4).trans hxy
  have zS3 := add_size b3 S3 T4
  have dS3 := Lib.hid (add_data b3 S3 T4)
  clear HI hA hG hS hE hxz hxy
  have hA := kA
  have hG := kG
  have hS := kS
  have hE := kE
  clear kA kG kS kE
  generalize cond b3 (S3 ++ T4) S3 = S4 at *
  obtain ⟨wd, rfl⟩ : ∃ x, x = wy := ⟨_, rfl⟩
  go_upto_region 10 with fail
  have HI : Rd1 bF 4 (.bool b4) wd ∧ Rd1 bA 8 (.string s) wd ∧ Rd1 bA 9 (.int .u64 ((vG e) 0 : Nat)) wd ∧ Rd1 bA 10 (.int .u64 ((vG e) 1 : Nat)) wd ∧ Rd1 bA 11 (.int .u64 ((vG e) 2 : Nat)) wd ∧ Rd1 bA 12 (.int .u64 ((vG e) 3 : Nat)) wd ∧ Rd1 bA 13 (.int .i64 m.1) wd ∧ Rd1 bA 14 (.int .i64 m.2.1) wd ∧ Rd1 bA 15 (.int .i64 m.2.2) wd ∧ Rd1 bA 16 (.slice qv R.length cv) wd ∧ Ext w wd := ⟨⟨hG.lt, hG.cell 4⟩, ⟨hA.lt, hA.cell 8⟩, ⟨hA.lt, hA.cell 9⟩, ⟨hA.lt, hA.cell 10⟩, ⟨hA.lt, hA.cell 11⟩, ⟨hA.lt, hA.cell 12⟩, ⟨hA.lt, hA.cell 13⟩, ⟨hA.lt, hA.cell 14⟩, ⟨hA.lt, hA.cell 15⟩, ⟨hA.lt, hA.cell 16⟩, hE⟩
  refine sx_ ?_
  refine rf_ (fun U => Rd1 bF 4 (.bool b4) U ∧ Rd1 bA 8 (.string s) U ∧ Rd1 bA 9 (.int .u64 ((vG e) 0 : Nat)) U ∧ Rd1 bA 10 (.int .u64 ((vG e) 1 : Nat)) U ∧ Rd1 bA 11 (.int .u64 ((vG e) 2 : Nat)) U ∧ Rd1 bA 12 (.int .u64 ((vG e) 3 : Nat)) U ∧ Rd1 bA 13 (.int .i64 m.1) U ∧ Rd1 bA 14 (.int .i64 m.2.1) U ∧ Rd1 bA 15 (.int .i64 m.2.2) U ∧ Rd1 bA 16 (.slice qv R.length cv) U ∧ Ext w U) 6 7 ?_
  refine tts [0, 1, 2, 3, 4, 5] 63 1 (fun _ _ h hx => ⟨h.1.ext hx, h.2.1.ext hx, h.2.2.1.ext hx, h.2.2.2.1.ext hx, h.2.2.2.2.1.ext hx, h.2.2.2.2.2.1.ext hx, h.2.2.2.2.2.2.1.ext hx, h.2.2.2.2.2.2.2.1.ext hx, h.2.2.2.2.2.2.2.2.1.ext hx, h.2.2.2.2.2.2.2.2.2.1.ext hx, h.2.2.2.2.2.2.2.2.2.2.trans hx⟩) HI ?_ (hq := by intro wq hwq; obtain ⟨⟨ql0, qc0⟩, ⟨ql1, qc1⟩, ⟨ql2, qc2⟩, ⟨ql3, qc3⟩, ⟨ql4, qc4⟩, ⟨ql5, qc5⟩, ⟨ql6, qc6⟩, ⟨ql7, qc7⟩, ⟨ql8, qc8⟩, ⟨ql9, qc9⟩, qE⟩ := hwq; (repeat go_big_quiet_step ((go_at_call 67; with_reducible exact Calls.quietE (C5.out _ (qE.trans ex_))))); exact wpQuiet_nil rfl)
  refine f1_ 6 127 fun wz hxz => ?_
  go_wp2_with (go_at_call 65; go_must (refine (add_w b4 S4 T5 bS wz (hS.ext hxz) (by omega)).mono ?_; rintro e_ wc ⟨rfl, rfl⟩))
  first | refine ⟨fun h => absurd h (by decide), ?_⟩ | skip
  refine fd_ fun wy hxy => ?_
  have kS := ((hS.ext hxz).add b4 T5).ext hxy
  have kA := ((hA.ext hxz).addFar hSA b4 S4 T5).ext hxy
  have kG := ((hG.ext hxz).addFar hSG b4 S4 T5).ext hxy
  have kE := ((hE.trans hxz).addW hwS b4 S4 T5).trans hxy
  have zS4 := add_size b4 S4 T5
  have dS4 := Lib.hid (add_data b4 S4 T5)
  clear HI hA hG hS hE hxz hxy
  have hA := kA
  have hG := kG
  have hS := kS
  have hE := kE
  clear kA kG kS kE
  generalize cond b4 (S4 ++ T5) S4 = S5 at *
  obtain ⟨we, rfl⟩ : ∃ x, x = wy := ⟨_, rfl⟩
  go_upto_region 11 with fail
  have HI : Rd1 bF 5 (.bool b5) we ∧ Rd1 bA 17 (.slice ql P.length cl) we ∧ Ext w we := ⟨⟨hG.lt, hG.cell 5⟩, ⟨hA.lt, hA.cell 17⟩, hE⟩
  refine sx_ ?_
  refine rf_ (fun U => Rd1 bF 5 (.bool b5) U ∧ Rd1 bA 17 (.slice ql P.length cl) U ∧ Ext w U) 6 7 ?_
  refine tts [0, 1, 2, 3, 4, 5] 63 1 (fun _ _ h hx => ⟨h.1.ext hx, h.2.1.ext hx, h.2.2.trans hx⟩) HI ?_ (hq := by intro wq hwq; obtain ⟨⟨ql0, qc0⟩, ⟨ql1, qc1⟩, qE⟩ := hwq; (repeat go_big_quiet_step ((go_at_call 68; with_reducible exact Calls.quietE (C6.out _ (qE.trans ex_))))); exact wpQuiet_nil rfl)
  refine f1_ 6 127 fun wz hxz => ?_
  go_wp2_with (go_at_call 65; go_must (refine (add_w b5 S5 T6 bS wz (hS.ext hxz) (by omega)).mono ?_; rintro e_ wc ⟨rfl, rfl⟩))
  first | refine ⟨fun h => absurd h (by decide), ?_⟩ | skip
  refine fd_ fun wy hxy => ?_
  have kS := ((hS.ext hxz).add b5 T6).ext hxy
  have kA := ((hA.ext hxz).addFar hSA b5 S5 T6).ext hxy
  have kG := ((hG.ext hxz).addFar hSG b5 S5 T6).ext hxy
  have kE := ((hE.trans hxz).addW hwS b5 S5 T6).trans hxy
  have zS5 := add_size b5 S5 T6
  have dS5 := Lib.hid (add_data b5 S5 T6)
  clear HI hA hG hS hE hxz hxy
  have hA := kA
  have hG := kG
  have hS := kS
  have hE := kE
  clear kA kG kS kE
  generalize cond b5 (S5 ++ T6) S5 = S6 at *
  obtain ⟨wf, rfl⟩ : ∃ x, x = wy := ⟨_, rfl⟩
  skip
  have sl := hS.lt
  have s0 : wf.cell? ⟨bS, 0, none⟩ = some (.string S6) := hS.cell 0
  go_wp2
  go_ret
  exact ⟨by rw [hput.out S6 (by rw [dS5.out, dS4.out, dS3.out, dS2.out, dS1.out, dT0.out])]; rfl, hE⟩
end Go.Proofs.YtefjdmjkofaajaaGreatDoor
namespace Go.Dm
open Go Go.RowKit
theorem knownF_range {z : Int} {f : Fld} (h : knownF z = some f) : 1 ≤ z ∧ z ≤ 13 := by
 simp only [knownF, putKF] at h
 by_cases e13 : z = 13
 ·exact ⟨by omega, by omega⟩
 rw [if_neg e13] at h
 by_cases e12 : z = 12
 ·exact ⟨by omega, by omega⟩
 rw [if_neg e12] at h
 by_cases e11 : z = 11
 ·exact ⟨by omega, by omega⟩
 rw [if_neg e11] at h
 by_cases e10 : z = 10
 ·exact ⟨by omega, by omega⟩
 rw [if_neg e10] at h
 by_cases e9 : z = 9
 ·exact ⟨by omega, by omega⟩
 rw [if_neg e9] at h
 by_cases e8 : z = 8
 ·exact ⟨by omega, by omega⟩
 rw [if_neg e8] at h
 by_cases e7 : z = 7
 ·exact ⟨by omega, by omega⟩
 rw [if_neg e7] at h
 by_cases e6 : z = 6
 ·exact ⟨by omega, by omega⟩
 rw [if_neg e6] at h
 by_cases e5 : z = 5
 ·exact ⟨by omega, by omega⟩
 rw [if_neg e5] at h
 by_cases e4 : z = 4
 ·exact ⟨by omega, by omega⟩
 rw [if_neg e4] at h
 by_cases e3 : z = 3
 ·exact ⟨by omega, by omega⟩
 rw [if_neg e3] at h
 by_cases e2 : z = 2
 ·exact ⟨by omega, by omega⟩
 rw [if_neg e2] at h
 by_cases e1 : z = 1
 ·exact ⟨by omega, by omega⟩
 rw [if_neg e1] at h
 cases h
theorem rightO_kind {o : OpQ} (h : rightO o = true) : ∃ k : Nat, o.1 = (k : Int) ∧ 1 ≤ k ∧ k ≤ 13 ∧ o.2.2.1.size ≤ 98 := by
 unfold rightO at h
 cases hk : knownF o.1 with
 | none => rw [hk] at h; cases h
 | some f =>
  rw [hk] at h
  simp only [Bool.and_eq_true, decide_eq_true_eq] at h
  have := knownF_range hk
  exact ⟨o.1.toNat, by omega, by omega, by omega, h.2.2.1⟩
theorem Terms.off {w w' : World} {v : Value} {R : List RowS} {B b : Nat} (h : Terms w v R) (hO : OwnT B v R) (hb : b < B) (ho : Off b w w') : Terms w' v R :=
 ⟨Sl.off h.1 ho (fun c hc => by have := hO.1 c hc; omega), fun r hr => Sl.off (h.2 r hr) ho (fun c hc => by have := hO.2 r hr c hc; omega)⟩
theorem Pairs.off {w w' : World} {v : Value} {L : List PairS} {B b : Nat} (h : Pairs w v L) (hO : ∀ c, v.ownBlock = some c → B ≤ c) (hb : b < B) (ho : Off b w w') : Pairs w' v L :=
 Sl.off h ho (fun c hc => by have := hO c hc; omega)
theorem results_row3 {P : Program} {fn : Func} {p t u : Tmp} {ty : TypeId} (h : fn.results = #[.cell p ty, .tmp t, .tmp u]) (tmps : Array Value) (w : World) (g : Nat) (tt : TypeId) (cs : Array Value) (fr : Nat × Nat) (d : TypeDesc)
  (hp : tmps.getD p undef = .pointer (some ⟨g, 0, none⟩)) (hg : w.heap[g]? = some (.cells cs tt fr))
  (hu : P.underlying ty = some d) (hd : (match d with | .struct _ | .array _ _ => true | _ => false) = true) (hi : (P.info? ty).map (·.size) = some cs.size) :
  (results fn tmps).run P w = .ok (.tuple #[.agg cs, tmps.getD t undef, tmps.getD u undef]) w := by
 have hp' : tmps[p]?.getD undef = .pointer (some ⟨g, 0, none⟩) := by simpa using hp
 simp [results, h, hp', asAddr, run_loadVar_row w g tt ty cs fr d hg hu hd hi, Sem.run_bind]
def opQ0 (k : Int) : OpQ := (k, (0, 0), ⟨#[]⟩, noV, noSp, [])
def noO : OpQ × Int × Bool := (opQ0 0, 0, false)
def unP (x : PairL) : PairS := (⟨x.1.toArray⟩, ⟨x.2.toArray⟩)
theorem unP_lab (l : List PairS) : (labL l).map unP = l := by
 unfold labL
 rw [List.map_map]
 conv => rhs; rw [← List.map_id l]
 refine List.map_congr_left fun x _ => ?_
 obtain ⟨⟨⟨a⟩⟩, ⟨⟨b⟩⟩⟩ := x
 rfl
def rdA (l : Bs) (b : Bool) (q : Int) (ok : Bool) : Nat × Int × Bool := cond b (getI l q) (0, q, ok)
def rdT (l : Bs) (b : Bool) (q : Int) (ok : Bool) : Bs × Int × Bool := cond b (atI (getTextL 98) [] l q) ([], q, ok)
def rdV (l : Bs) (b : Bool) (q : Int) (ok : Bool) : Vc × Int × Bool := cond (ok && b) (getV l q) (noV, q, ok)
def rdX (l : Bs) (b : Bool) (q : Int) (ok : Bool) : SpQ × Int × Bool := cond b (getX l q) (noSp, q, ok)
def rdL (l : Bs) (b : Bool) (q : Int) (ok : Bool) : List PairL × Int × Bool := cond (ok && b) (atI getLabL [] l q) ([], q, ok)
def rdF (l : Bs) (f : Fld) (k q : Int) : OpQ × Int × Bool :=
 let a := rdA l f.1 q true
 let b := rdA l f.2.1 a.2.1 a.2.2
 let t := rdT l f.2.2.1 b.2.1 b.2.2
 let v := rdV l f.2.2.2.1 t.2.1 t.2.2
 let x := rdX l f.2.2.2.2.1 v.2.1 v.2.2
 let y := rdL l f.2.2.2.2.2 x.2.1 x.2.2
 ((k, (a.1, b.1), ⟨t.1.toArray⟩, v.1, x.1, y.1.map unP), y.2.1, y.2.2)
def finO (s : OpQ × Int × Bool) : OpQ × Int × Bool := if s.2.2 = true ∧ rightO s.1 = true then s else noO
def getO (l : Bs) (p : Int) : OpQ × Int × Bool :=
 if (getI l p).2.2 = false ∨ 13 < (getI l p).1 then noO else finO (rdF l ((knownF ((getI l p).1 : Nat)).getD noFld) ((getI l p).1 : Nat) (getI l p).2.1)
structure OkO (o : OpQ) : Prop where
 k : -9223372036854775808 ≤ o.1 ∧ o.1 ≤ 9223372036854775807
 i : U64 o.2.1.1
 n : U64 o.2.1.2
 d : OkV o.2.2.2.1
 s : o.2.2.2.2.1.1.size < 4294967281
 e : OkV o.2.2.2.2.1.2.1
 p : o.2.2.2.2.2.length ≤ 35184372088832
 f : FitP o.2.2.2.2.2
theorem OkO.zero : OkO (opQ0 0) := ⟨by show (_ : Int) ≤ 0 ∧ (0 : Int) ≤ _; omega, by show (0 : Nat) < _; decide, by show (0 : Nat) < _; decide, okV_no, by show (0 : Nat) < _; decide, okV_no, by show (0 : Nat) ≤ _; omega, FitP.nil⟩
def GotO (B : Nat) (w : World) (G : OpQ × Int × Bool) (e : Ending) : Prop :=
 ∃ v l R, e = .returned (.tuple #[opV G.1.1 G.1.2.1.1 G.1.2.1.2 G.1.2.2.1 (vG G.1.2.2.2.1) G.1.2.2.2.2.1.1 (vG G.1.2.2.2.2.1.2.1) G.1.2.2.2.2.1.2.2.1 v l, .int .i64 G.2.1, .bool G.2.2]) ∧
  Terms w v R ∧ FitR R ∧ R.length ≤ 35184372088832 ∧ R.map rowT = G.1.2.2.2.2.1.2.2.2 ∧ Pairs w l G.1.2.2.2.2.2 ∧ OkO G.1 ∧ OwnT B v R ∧ (∀ c, l.ownBlock = some c → B ≤ c)
end Go.Dm
namespace Go.Proofs.YtefjdmjkofaajaaGreatDoor
open Go.RowKit Go.Dm
theorem aput_w (k : Int) (i n : Nat) (p : ByteArray) (d : Vc) (s : ByteArray) (e : Vc) (m : Nums3) (v l : Value) (R : List RowS) (P : List PairS) (w : World)
  (hk : -9223372036854775808 ≤ k ∧ k ≤ 9223372036854775807) (hi : U64 i) (hn : U64 n) (hd : OkV d) (hs : s.size < 4294967281) (he : OkV e) (hm : R.length ≤ 35184372088832) (hf : FitR R) (hx : Terms w v R) (hpm : P.length ≤ 35184372088832) (hfp : FitP P) (hy : Pairs w l P) (hv : Vars w) :
  Calls Tryz.prog 27 #[opV k i n p (vG d) s (vG e) m v l] w fun e_ w' => e_ = .returned (.string ⟨(putO (k, (i, n), p, d, (s, e, m, R.map rowT), P)).toArray⟩) ∧ Ext w w' := by
 cases hro : rightO (k, (i, n), p, d, (s, e, m, R.map rowT), P) with
 | false => exact aput_no k i n p d s e m v l R P w hk hd hs he hm hf hx hpm hfp hy hv hro
 | true =>
  obtain ⟨k', hk', h1, h13, h98⟩ := rightO_kind hro
  obtain rfl : k = (k' : Int) := hk'
  exact aput_yes k' i n p d s e m v l R P w h13 hi hn h98 hd hs he hm hf hx hpm hfp hy hv hro
end Go.Proofs.YtefjdmjkofaajaaGreatDoor
namespace Go.Dm
open Go Go.RowKit
abbrev zOp : List Value := [.int .i64 0, .int .u64 0, .int .u64 0, .string ⟨#[]⟩, .int .u64 0, .int .u64 0, .int .u64 0, .int .u64 0, .string ⟨#[]⟩, .int .u64 0, .int .u64 0, .int .u64 0, .int .u64 0, .int .i64 0, .int .i64 0, .int .i64 0, .slice none 0 0, .slice none 0 0]
abbrev cellsO (k : Int) (i n : Nat) (p : ByteArray) (d : Vc) (s : ByteArray) (e : Vc) (m : Nums3) (v l : Value) : List Value :=
 [.int .i64 k, .int .u64 (i : Nat), .int .u64 (n : Nat), .string p, .int .u64 (vG d 0 : Nat), .int .u64 (vG d 1 : Nat), .int .u64 (vG d 2 : Nat), .int .u64 (vG d 3 : Nat), .string s, .int .u64 (vG e 0 : Nat), .int .u64 (vG e 1 : Nat), .int .u64 (vG e 2 : Nat), .int .u64 (vG e 3 : Nat), .int .i64 m.1, .int .i64 m.2.1, .int .i64 m.2.2, v, l]
theorem wpList_load_row_g {P : Program} {ops : Array Oper} {rest : List Oper} {o : Oper} {a : Act} {w : World} {Q : Exit → Act → World → Prop} (hgd : Region.wanted o (yielded ops a.tmps) = true) (ty : TypeId) (x : Operand) (ho : o.op = .load ty x)
  (g : Nat) (hx : a.eval x = .pointer (some ⟨g, 0, none⟩)) (t : TypeId) (cs : Array Value) (fr : Nat × Nat) (d : TypeDesc) (hg : w.heap[g]? = some (.cells cs t fr))
  (hu : P.underlying ty = some d) (hd : (match d with | .struct _ | .array _ _ => true | _ => false) = true) (hi : (P.info? ty).map (·.size) = some cs.size)
  (h : wpList P ops Q rest (a.put o.dst (.agg cs)) w) : wpList P ops Q (o :: rest) a w :=
 BigFrame.wpList_want hgd fun _ hK => wp_load_row ty x ho g hx t cs fr d hg hu hd hi (hK _ _ h)
theorem u64_zero : U64 0 := by show (0 : Nat) < _; decide
theorem GotO.none_ (B : Nat) (w : World) : GotO B w noO (.returned (.tuple #[.agg zOp.toArray, .int .i64 0, .bool false])) :=
 ⟨.slice none 0 0, .slice none 0 0, [], rfl, Terms.nil w, (fun r hr => by cases hr), by simp, rfl, Pairs.nil w, OkO.zero, OwnT.nil B, fun c h => by cases h⟩
theorem GotO.no (B : Nat) (w : World) (s : OpQ × Int × Bool) (h : s.2.2 = true ∧ rightO s.1 = true → False) : GotO B w (finO s) (.returned (.tuple #[.agg zOp.toArray, .int .i64 0, .bool false])) := by
 rw [show finO s = noO by unfold finO; rw [if_neg h]]
 exact GotO.none_ B w
theorem getV_fit {l : Bs} {q : Int} (hU : U64 l.length) : OkV (getV l q).1 := by
 cases h : (getV l q).2.2 with
 | true => exact ((getV_iff hU).1 (show getV l q = ((getV l q).1, (getV l q).2.1, true) by rw [← h])).1
 | false =>
  revert h
  unfold getV
  cases getVF l q 4 with
  | none => exact fun _ => okV_no
  | some x => exact fun h => by cases h
theorem getX_fit {l : Bs} {q : Int} (hU : U64 l.length) : (getX l q).1.1.size ≤ 98 := by
 cases h : (getX l q).2.2 with
 | true => exact (under_short (chkX_iff.1 ((getX_iff hU).1 (show getX l q = ((getX l q).1, (getX l q).2.1, true) by rw [← h])).1).1).1
 | false =>
  revert h
  unfold getX getX2 getX3 getX4 getX5 getX6
  (repeat' split) <;> intro h <;> first | (show 0 ≤ _; omega) | cases h
def stA (l : Bs) (b : Bool) (z : OpQ × Int × Bool) : OpQ × Int × Bool := cond b ((z.1.1, ((getI l z.2.1).1, z.1.2.1.2), z.1.2.2), (getI l z.2.1).2) z
def stB (l : Bs) (b : Bool) (z : OpQ × Int × Bool) : OpQ × Int × Bool := cond b ((z.1.1, (z.1.2.1.1, (getI l z.2.1).1), z.1.2.2), (getI l z.2.1).2) z
def stT (l : Bs) (b : Bool) (z : OpQ × Int × Bool) : OpQ × Int × Bool := cond b ((z.1.1, z.1.2.1, ⟨(atI (getTextL 98) [] l z.2.1).1.toArray⟩, z.1.2.2.2), (atI (getTextL 98) [] l z.2.1).2) z
def stV (l : Bs) (b : Bool) (z : OpQ × Int × Bool) : OpQ × Int × Bool := cond (z.2.2 && b) ((z.1.1, z.1.2.1, z.1.2.2.1, (getV l z.2.1).1, z.1.2.2.2.2), (getV l z.2.1).2) z
def stX (l : Bs) (b : Bool) (z : OpQ × Int × Bool) : OpQ × Int × Bool := cond b ((z.1.1, z.1.2.1, z.1.2.2.1, z.1.2.2.2.1, (getX l z.2.1).1, z.1.2.2.2.2.2), (getX l z.2.1).2) z
def stL (l : Bs) (b : Bool) (z : OpQ × Int × Bool) : OpQ × Int × Bool := cond (z.2.2 && b) ((z.1.1, z.1.2.1, z.1.2.2.1, z.1.2.2.2.1, z.1.2.2.2.2.1, (atI getLabL [] l z.2.1).1.map unP), (atI getLabL [] l z.2.1).2) z
def leftF (l : Bs) (f : Fld) (j : Nat) (z : OpQ × Int × Bool) : OpQ × Int × Bool := match j with
 | 0 => z
 | 1 => stL l f.2.2.2.2.2 z
 | 2 => stL l f.2.2.2.2.2 (stX l f.2.2.2.2.1 z)
 | 3 => stL l f.2.2.2.2.2 (stX l f.2.2.2.2.1 (stV l f.2.2.2.1 z))
 | 4 => stL l f.2.2.2.2.2 (stX l f.2.2.2.2.1 (stV l f.2.2.2.1 (stT l f.2.2.1 z)))
 | 5 => stL l f.2.2.2.2.2 (stX l f.2.2.2.2.1 (stV l f.2.2.2.1 (stT l f.2.2.1 (stB l f.2.1 z))))
 | _ => stL l f.2.2.2.2.2 (stX l f.2.2.2.2.1 (stV l f.2.2.2.1 (stT l f.2.2.1 (stB l f.2.1 (stA l f.1 z)))))
theorem leftF_all (l : Bs) (f : Fld) (k q : Int) : leftF l f 6 (opQ0 k, q, true) = rdF l f k q := by
 obtain ⟨b0, b1, b2, b3, b4, b5⟩ := f
 have hV : ∀ b (z : OpQ × Int × Bool), z.1.2.2.2.1 = noV → stV l b z = ((z.1.1, z.1.2.1, z.1.2.2.1, (rdV l b z.2.1 z.2.2).1, z.1.2.2.2.2), (rdV l b z.2.1 z.2.2).2) := fun b z hz => by
  obtain ⟨⟨k, ij, p, d, r⟩, q, ok⟩ := z
  obtain rfl : d = noV := hz
  unfold stV rdV
  show cond (ok && b) _ _ = ((k, ij, p, (cond (ok && b) _ _ : Vc × Int × Bool).1, r), (cond (ok && b) _ _ : Vc × Int × Bool).2)
  cases ok && b <;> rfl
 have hL : ∀ b (z : OpQ × Int × Bool), z.1.2.2.2.2.2 = [] → stL l b z = ((z.1.1, z.1.2.1, z.1.2.2.1, z.1.2.2.2.1, z.1.2.2.2.2.1, (rdL l b z.2.1 z.2.2).1.map unP), (rdL l b z.2.1 z.2.2).2) := fun b z hz => by
  obtain ⟨⟨k, ij, p, d, x, r⟩, q, ok⟩ := z
  obtain rfl : r = [] := hz
  unfold stL rdL
  show cond (ok && b) _ _ = ((k, ij, p, d, x, (cond (ok && b) _ _ : List PairL × Int × Bool).1.map unP), (cond (ok && b) _ _ : List PairL × Int × Bool).2)
  cases ok && b <;> rfl
 show stL l b5 (stX l b4 (stV l b3 (stT l b2 (stB l b1 (stA l b0 (opQ0 k, q, true)))))) = _
 rw [hV _ _ (by cases b0 <;> cases b1 <;> cases b2 <;> rfl), hL _ _ (by cases b0 <;> cases b1 <;> cases b2 <;> cases b4 <;> rfl)]
 cases b0 <;> cases b1 <;> cases b2 <;> cases b4 <;> rfl
structure HoldO (c : Nat) (t2 : TypeId) (ds : List Value) (b : Nat) (t : TypeId) (w0 W : World) (cs : List Value) (v l : Value) (R : List RowS) (P : List PairS) : Prop where
 hc : RB c t2 ds W
 hb : RB b t cs W
 ne : b ≠ c
 le : w0.heap.size ≤ b
 hE : Ext w0 W
 hT : Terms W v R
 hP : Pairs W l P
 oT : OwnT (b + 1) v R
 oL : ∀ c, l.ownBlock = some c → b + 1 ≤ c
theorem HoldO.ext {c : Nat} {t2 : TypeId} {ds : List Value} {b : Nat} {t : TypeId} {w0 W W' : World} {cs : List Value} {v l : Value} {R : List RowS} {P : List PairS} (h : HoldO c t2 ds b t w0 W cs v l R P) (x : Ext W W') : HoldO c t2 ds b t w0 W' cs v l R P :=
 ⟨h.hc.ext x, h.hb.ext x, h.ne, h.le, h.hE.trans x, h.hT.ext x, h.hP.ext x, h.oT, h.oL⟩
theorem HoldO.put {c : Nat} {t2 : TypeId} {ds : List Value} {b : Nat} {t : TypeId} {w0 W : World} {cs : List Value} {v l : Value} {R : List RowS} {P : List PairS} (h : HoldO c t2 ds b t w0 W cs v l R P) (us : List (Nat × Value)) :
  HoldO c t2 ds b t w0 (us.foldl (fun w u => w.setCell ⟨b, u.1, none⟩ u.2) W) (us.foldl (fun l u => l.set u.1 u.2) cs) v l R P := by
 obtain ⟨W', e, h1, h2, h3, h4⟩ := set_cells us h.hb h.hc h.ne h.hE h.le
 rw [e]
 exact ⟨h2, h1, h.ne, h.le, h3, h.hT.off h.oT (Nat.lt_succ_self _) h4, h.hP.off h.oL (Nat.lt_succ_self _) h4, h.oT, h.oL⟩
theorem HoldO.terms {c : Nat} {t2 : TypeId} {ds : List Value} {b : Nat} {t : TypeId} {w0 W : World} {cs : List Value} {v l v' : Value} {R R' : List RowS} {P : List PairS} {B : Nat} (h : HoldO c t2 ds b t w0 W cs v l R P) (x : Terms W v' R') (o : OwnT B v' R') (hB : b < B) : HoldO c t2 ds b t w0 W cs v' l R' P :=
 ⟨h.hc, h.hb, h.ne, h.le, h.hE, x, h.hP, o.le hB, h.oL⟩
theorem HoldO.pairs {c : Nat} {t2 : TypeId} {ds : List Value} {b : Nat} {t : TypeId} {w0 W : World} {cs : List Value} {v l l' : Value} {R : List RowS} {P P' : List PairS} {B : Nat} (h : HoldO c t2 ds b t w0 W cs v l R P) (x : Pairs W l' P') (o : ∀ c, l'.ownBlock = some c → B ≤ c) (hB : b < B) : HoldO c t2 ds b t w0 W cs v l' R P' :=
 ⟨h.hc, h.hb, h.ne, h.le, h.hE, h.hT, x, h.oT, fun c e => Nat.le_trans hB (o c e)⟩
def AtO (l : Bs) (f : Fld) (j : Nat) (G : OpQ × Int × Bool) (c : Nat) (t2 : TypeId) (ds : List Value) (b : Nat) (t : TypeId) (w0 : World) (k : Int) (u1 u2 : Value) (W : World) : Prop :=
 ∃ i n p d s e m v x R P q ok, u1 = .int .i64 q ∧ u2 = .bool ok ∧ HoldO c t2 ds b t w0 W (cellsO k i n p d s e m v x) v x R P ∧ OkO (k, (i, n), p, d, (s, e, m, R.map rowT), P) ∧ FitR R ∧ R.length ≤ 4 ∧ s.size ≤ 98 ∧
  Hid (leftF l f j ((k, (i, n), p, d, (s, e, m, R.map rowT), P), q, ok) = G)
def id18 (k : Int) : Bool := (decide (k = 2) || decide (k = 4))
def n18 (k : Int) : Bool := (decide (k = 5) || decide (k = 6))
def path18 (k : Int) : Bool := (((((decide (k = 3) || decide (k = 7)) || decide (k = 8)) || decide (k = 10)) || decide (k = 11)) || decide (k = 12))
def v18 (k : Int) : Bool := ((decide (k = 3) || decide (k = 9)) || decide (k = 10))
def x18 (k : Int) : Bool := decide (k = 1)
def labels18 (k : Int) : Bool := decide (k = 10)
theorem flags18 {k : Int} {f : Fld} (h : knownF k = some f) : f = (id18 k, n18 k, path18 k, v18 k, x18 k, labels18 k) := by
 simp only [knownF, putKF] at h
 by_cases e13 : k = 13
 ·subst e13
  rw [if_pos rfl] at h
  injection h with h
  subst h
  rfl
 rw [if_neg e13] at h
 by_cases e12 : k = 12
 ·subst e12
  rw [if_pos rfl] at h
  injection h with h
  subst h
  rfl
 rw [if_neg e12] at h
 by_cases e11 : k = 11
 ·subst e11
  rw [if_pos rfl] at h
  injection h with h
  subst h
  rfl
 rw [if_neg e11] at h
 by_cases e10 : k = 10
 ·subst e10
  rw [if_pos rfl] at h
  injection h with h
  subst h
  rfl
 rw [if_neg e10] at h
 by_cases e9 : k = 9
 ·subst e9
  rw [if_pos rfl] at h
  injection h with h
  subst h
  rfl
 rw [if_neg e9] at h
 by_cases e8 : k = 8
 ·subst e8
  rw [if_pos rfl] at h
  injection h with h
  subst h
  rfl
 rw [if_neg e8] at h
 by_cases e7 : k = 7
 ·subst e7
  rw [if_pos rfl] at h
  injection h with h
  subst h
  rfl
 rw [if_neg e7] at h
 by_cases e6 : k = 6
 ·subst e6
  rw [if_pos rfl] at h
  injection h with h
  subst h
  rfl
 rw [if_neg e6] at h
 by_cases e5 : k = 5
 ·subst e5
  rw [if_pos rfl] at h
  injection h with h
  subst h
  rfl
 rw [if_neg e5] at h
 by_cases e4 : k = 4
 ·subst e4
  rw [if_pos rfl] at h
  injection h with h
  subst h
  rfl
 rw [if_neg e4] at h
 by_cases e3 : k = 3
 ·subst e3
  rw [if_pos rfl] at h
  injection h with h
  subst h
  rfl
 rw [if_neg e3] at h
 by_cases e2 : k = 2
 ·subst e2
  rw [if_pos rfl] at h
  injection h with h
  subst h
  rfl
 rw [if_neg e2] at h
 by_cases e1 : k = 1
 ·subst e1
  rw [if_pos rfl] at h
  injection h with h
  subst h
  rfl
 rw [if_neg e1] at h
 cases h
theorem knownF_none {k : Int} (h : knownF k = none) : k < 1 ∨ 13 < k := by
 apply Classical.byContradiction
 intro hc
 simp only [knownF, putKF] at h
 by_cases e13 : k = 13
 ·rw [if_pos e13] at h; cases h
 rw [if_neg e13] at h
 by_cases e12 : k = 12
 ·rw [if_pos e12] at h; cases h
 rw [if_neg e12] at h
 by_cases e11 : k = 11
 ·rw [if_pos e11] at h; cases h
 rw [if_neg e11] at h
 by_cases e10 : k = 10
 ·rw [if_pos e10] at h; cases h
 rw [if_neg e10] at h
 by_cases e9 : k = 9
 ·rw [if_pos e9] at h; cases h
 rw [if_neg e9] at h
 by_cases e8 : k = 8
 ·rw [if_pos e8] at h; cases h
 rw [if_neg e8] at h
 by_cases e7 : k = 7
 ·rw [if_pos e7] at h; cases h
 rw [if_neg e7] at h
 by_cases e6 : k = 6
 ·rw [if_pos e6] at h; cases h
 rw [if_neg e6] at h
 by_cases e5 : k = 5
 ·rw [if_pos e5] at h; cases h
 rw [if_neg e5] at h
 by_cases e4 : k = 4
 ·rw [if_pos e4] at h; cases h
 rw [if_neg e4] at h
 by_cases e3 : k = 3
 ·rw [if_pos e3] at h; cases h
 rw [if_neg e3] at h
 by_cases e2 : k = 2
 ·rw [if_pos e2] at h; cases h
 rw [if_neg e2] at h
 by_cases e1 : k = 1
 ·rw [if_pos e1] at h; cases h
 rw [if_neg e1] at h
 omega
end Go.Dm
namespace Go.Proofs.YtefjdmjkofaajaaGreatDoor
open Go.RowKit Go.Dm
theorem id18_w (k : Int) (w : World) : Calls Tryz.prog 45 #[.int .i64 k] w fun e w' => e = .returned (.bool (id18 k)) ∧ w' = w := by
 unfold id18
 by_cases e2 : k = 2
 ·subst e2
  go_enter Tryz.func45, Tryz.ntmps45
  go_wp2
  go_ret
  exact ⟨rfl, rfl⟩
 by_cases e4 : k = 4
 ·subst e4
  go_enter Tryz.func45, Tryz.ntmps45
  go_wp2
  go_ret
  exact ⟨rfl, rfl⟩
 go_enter Tryz.func45, Tryz.ntmps45
 go_wp2
 go_ret
 exact ⟨by simp [e2, e4], rfl⟩
theorem n18_w (k : Int) (w : World) : Calls Tryz.prog 46 #[.int .i64 k] w fun e w' => e = .returned (.bool (n18 k)) ∧ w' = w := by
 unfold n18
 by_cases e5 : k = 5
 ·subst e5
  go_enter Tryz.func46, Tryz.ntmps46
  go_wp2
  go_ret
  exact ⟨rfl, rfl⟩
 by_cases e6 : k = 6
 ·subst e6
  go_enter Tryz.func46, Tryz.ntmps46
  go_wp2
  go_ret
  exact ⟨rfl, rfl⟩
 go_enter Tryz.func46, Tryz.ntmps46
 go_wp2
 go_ret
 exact ⟨by simp [e5, e6], rfl⟩
theorem path18_w (k : Int) (w : World) : Calls Tryz.prog 47 #[.int .i64 k] w fun e w' => e = .returned (.bool (path18 k)) ∧ w' = w := by
 unfold path18
 by_cases e3 : k = 3
 ·subst e3
  go_enter Tryz.func47, Tryz.ntmps47
  go_wp2
  go_ret
  exact ⟨rfl, rfl⟩
 by_cases e7 : k = 7
 ·subst e7
  go_enter Tryz.func47, Tryz.ntmps47
  go_wp2
  go_ret
  exact ⟨rfl, rfl⟩
 by_cases e8 : k = 8
 ·subst e8
  go_enter Tryz.func47, Tryz.ntmps47
  go_wp2
  go_ret
  exact ⟨rfl, rfl⟩
 by_cases e10 : k = 10
 ·subst e10
  go_enter Tryz.func47, Tryz.ntmps47
  go_wp2
  go_ret
  exact ⟨rfl, rfl⟩
 by_cases e11 : k = 11
 ·subst e11
  go_enter Tryz.func47, Tryz.ntmps47
  go_wp2
  go_ret
  exact ⟨rfl, rfl⟩
 by_cases e12 : k = 12
 ·subst e12
  go_enter Tryz.func47, Tryz.ntmps47
  go_wp2
  go_ret
  exact ⟨rfl, rfl⟩
 go_enter Tryz.func47, Tryz.ntmps47
 go_wp2
 go_ret
 exact ⟨by simp [e3, e7, e8, e10, e11, e12], rfl⟩
theorem v18_w (k : Int) (w : World) : Calls Tryz.prog 49 #[.int .i64 k] w fun e w' => e = .returned (.bool (v18 k)) ∧ w' = w := by
 unfold v18
 by_cases e3 : k = 3
 ·subst e3
  go_enter Tryz.func49, Tryz.ntmps49
  go_wp2
  go_ret
  exact ⟨rfl, rfl⟩
 by_cases e9 : k = 9
 ·subst e9
  go_enter Tryz.func49, Tryz.ntmps49
  go_wp2
  go_ret
  exact ⟨rfl, rfl⟩
 by_cases e10 : k = 10
 ·subst e10
  go_enter Tryz.func49, Tryz.ntmps49
  go_wp2
  go_ret
  exact ⟨rfl, rfl⟩
 go_enter Tryz.func49, Tryz.ntmps49
 go_wp2
 go_ret
 exact ⟨by simp [e3, e9, e10], rfl⟩
theorem x18_w (k : Int) (w : World) : Calls Tryz.prog 51 #[.int .i64 k] w fun e w' => e = .returned (.bool (x18 k)) ∧ w' = w := by
 unfold x18
 by_cases e1 : k = 1
 ·subst e1
  go_enter Tryz.func51, Tryz.ntmps51
  go_wp2
  go_ret
  exact ⟨rfl, rfl⟩
 go_enter Tryz.func51, Tryz.ntmps51
 go_wp2
 go_ret
 exact ⟨by simp [e1], rfl⟩
theorem labels18_w (k : Int) (w : World) : Calls Tryz.prog 53 #[.int .i64 k] w fun e w' => e = .returned (.bool (labels18 k)) ∧ w' = w := by
 unfold labels18
 by_cases e10 : k = 10
 ·subst e10
  go_enter Tryz.func53, Tryz.ntmps53
  go_wp2
  go_ret
  exact ⟨rfl, rfl⟩
 go_enter Tryz.func53, Tryz.ntmps53
 go_wp2
 go_ret
 exact ⟨by simp [e10], rfl⟩
def pick18 (f : FuncId) (c : Fld) : Option Bool :=
 if f = 45 then some c.1 else if f = 46 then some c.2.1 else if f = 47 then some c.2.2.1 else if f = 49 then some c.2.2.2.1 else if f = 51 then some c.2.2.2.2.1 else if f = 53 then some c.2.2.2.2.2 else none
theorem flag18_w (k : Int) {f : FuncId} {b : Bool} (hf : pick18 f (id18 k, n18 k, path18 k, v18 k, x18 k, labels18 k) = some b) (w : World) : Calls Tryz.prog f #[.int .i64 k] w fun e w' => e = .returned (.bool b) ∧ w' = w := by
 unfold pick18 at hf
 by_cases h0 : f = 45
 ·rw [if_pos h0] at hf; injection hf with hf; subst h0 hf; exact id18_w k w
 rw [if_neg h0] at hf
 by_cases h1 : f = 46
 ·rw [if_pos h1] at hf; injection hf with hf; subst h1 hf; exact n18_w k w
 rw [if_neg h1] at hf
 by_cases h2 : f = 47
 ·rw [if_pos h2] at hf; injection hf with hf; subst h2 hf; exact path18_w k w
 rw [if_neg h2] at hf
 by_cases h3 : f = 49
 ·rw [if_pos h3] at hf; injection hf with hf; subst h3 hf; exact v18_w k w
 rw [if_neg h3] at hf
 by_cases h4 : f = 51
 ·rw [if_pos h4] at hf; injection hf with hf; subst h4 hf; exact x18_w k w
 rw [if_neg h4] at hf
 by_cases h5 : f = 53
 ·rw [if_pos h5] at hf; injection hf with hf; subst h5 hf; exact labels18_w k w
 rw [if_neg h5] at hf
 cases hf
end Go.Proofs.YtefjdmjkofaajaaGreatDoor
