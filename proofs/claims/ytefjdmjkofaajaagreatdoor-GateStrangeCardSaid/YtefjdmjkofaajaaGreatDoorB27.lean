/- Texts one behind the other: Chapter 18: the walk of slices.Equal at labels; Chapter 18: the walk of an op's same; Chapter 18: the walk of Right; Chapter 18: the walk of Right, an unknown kind. -/
import Derived.Test.YtefjdmjkofaajaaGreatDoorB16
import Derived.Test.YtefjdmjkofaajaaGreatDoorB23
import Derived.Test.YtefjdmjkofaajaaGreatDoorB30
import Derived.Test.YtefjdmjkofaajaaGreatDoorB14
import Derived.Test.YtefjdmjkofaajaaGreatDoorB32
namespace Go.Dm
open Go Go.RowKit
theorem pairAt_extB {l m : List PairS} (hlen : l.length = m.length) (h : ∀ k, k < l.length → pairAt l k = pairAt m k) : l = m := by
 apply List.ext_getElem hlen
 intro i h1 h2
 have := h i h1
 simpa [pairAt, h1, h2] using this
end Go.Dm
namespace Go.Proofs.YtefjdmjkofaajaaGreatDoor
open Go.RowKit Go.Dm

set_option maxHeartbeats 2000000 in
theorem pairsEq_w (l m : List PairS) (v v2 : Value) (w : World) (hl : l.length ≤ 35184372088832) (hx : Pairs w v l) (hy : Pairs w v2 m) :
  Calls Tryz.prog 96 #[v, v2] w fun e w' => e = .returned (.bool (decide (l = m))) ∧ Ext w w' := by
 obtain ⟨q, cap, rfl, hcap, hcm⟩ := hx.shape
 obtain ⟨q2, cap2, rfl, hcap2, hcm2⟩ := hy.shape
 by_cases hlen : l.length = m.length
 ·have heq : (∀ k, k < l.length → pairAt l k = pairAt m k) → decide (l = m) = true := fun h => decide_eq_true (pairAt_extB hlen h)
  have hneq : ∀ k, k < l.length → pairAt l k ≠ pairAt m k → decide (l = m) = false := fun k hk h => decide_eq_false (fun e => h (by rw [e]))
  generalize decide (l = m) = d at *
  replace heq := Lib.hid heq
  replace hneq := Lib.hid hneq
  have hlt' : ∀ k, k < l.length → k < m.length := fun k h => hlen ▸ h
  have hlenI : ((m.length : Nat) : Int) = ((l.length : Nat) : Int) := by rw [hlen]
  go_enter Tryz.func96, Tryz.ntmps96
  go_wp2
  go_loopw [13] (fun i' wr => ∃ k : Nat, k ≤ l.length ∧ i' = .int .i64 k ∧ Ext w wr ∧ Hid (∀ j, j < k → pairAt l j = pairAt m j)) (fun i' _ => l.length - (intOf i').toNat)
  case atStart => exact ⟨0, by omega, rfl, Ext.refl _, fun j hj => by omega⟩
  case round =>
   obtain ⟨k, hk, rfl, hb, HN⟩ := hrel
   by_cases hlt : k < l.length
   ·have hlt2 := hlt' k hlt
    obtain ⟨b, off, rfl, hbl, c0, c1⟩ := (hx.ext hb).at hlt
    obtain ⟨b2, off2, rfl, hbl2, d0, d1⟩ := (hy.ext hb).at hlt2
    have hq : ∀ U, (Op.equalIn 10000 126 (.agg #[.string (pairAt l k).1, .string (pairAt l k).2]) (.agg #[.string (pairAt m k).1, .string (pairAt m k).2])).run Tryz.prog U = .ok (decide (pairAt l k = pairAt m k)) U := fun U => by
     rw [Tryz.eq_pair]
     congr 1
     rw [Bool.eq_iff_iff, Bool.and_eq_true, bytes_eq, bytes_eq, decide_eq_true_eq]
     exact ⟨fun h => Prod.ext h.1 h.2, fun h => by rw [h]; exact ⟨rfl, rfl⟩⟩
    by_cases he : pairAt l k = pairAt m k
    ·have HN2 : Hid (∀ j, j < k + 1 → pairAt l j = pairAt m j) := fun j hj => by
      rcases Nat.lt_succ_iff_lt_or_eq.1 hj with h | rfl
      ·exact HN.out j h
      ·exact he
     rw [decide_eq_true he] at hq
     replace he := Lib.hid he
     go_wp2_with fail
     refine Dm.wp_region_grow (by kernel_rfl) (by kernel_rfl) ?_
     repeat (go_big_quiet_step (fail))
     refine wpQuiet_nil ?_
     intro U hU
     have hU' := hb.trans hU
     go_wp2
     go_roundw
     case rel => exact ⟨k + 1, by omega, by go_num, hU', HN2⟩
     case measure => simp [intOf]; omega
    ·rw [decide_eq_false he] at hq
     have hd := hneq.out k hlt he
     replace he := Lib.hid he
     subst hd
     go_wp2_with fail
     refine Dm.wp_region_grow (by kernel_rfl) (by kernel_rfl) ?_
     repeat (go_big_quiet_step (fail))
     refine wpQuiet_nil ?_
     intro U hU
     have hU' := hb.trans hU
     go_wp2
     go_ret
     exact ⟨rfl, hU'⟩
   ·obtain rfl : k = l.length := by omega
    have hd := heq.out HN.out
    subst hd
    go_wp2
    go_ret
    exact ⟨rfl, hb⟩
 ·rw [decide_eq_false (fun e => hlen (by rw [e]))]
  have hlenI : ¬ ((l.length : Nat) : Int) = ((m.length : Nat) : Int) := by omega
  go_enter Tryz.func96, Tryz.ntmps96
  go_wp2
  go_ret
  exact ⟨rfl, Ext.refl _⟩

end Go.Proofs.YtefjdmjkofaajaaGreatDoor

namespace Go.Proofs.YtefjdmjkofaajaaGreatDoor
open Go.RowKit Go.Dm

set_option maxHeartbeats 4000000 in
set_option maxRecDepth 100000 in
theorem asame_w (k1 : Int) (i1 n1 : Nat) (p1 : ByteArray) (d1 : Vc) (s1 : ByteArray) (e1 : Vc) (m1 : Nums3) (v1 l1 : Value) (R1 : List RowS) (P1 : List PairS) (k2 : Int) (i2 n2 : Nat) (p2 : ByteArray) (d2 : Vc) (s2 : ByteArray) (e2 : Vc) (m2 : Nums3) (v2 l2 : Value) (R2 : List RowS) (P2 : List PairS) (w : World)
  (hd1 : OkV d1) (hd2 : OkV d2) (he1 : OkV e1) (he2 : OkV e2) (hm : R1.length ≤ 35184372088832) (hf : FitR R1) (hx1 : Terms w v1 R1) (hx2 : Terms w v2 R2) (hpm : P1.length ≤ 35184372088832) (hy1 : Pairs w l1 P1) (hy2 : Pairs w l2 P2) :
  Calls Tryz.prog 56 #[opV k1 i1 n1 p1 (vG d1) s1 (vG e1) m1 v1 l1, opV k2 i2 n2 p2 (vG d2) s2 (vG e2) m2 v2 l2] w fun e w' => e = .returned (.bool (decide (i1 = i2) && (decide (n1 = n2) && (decide (p1 = p2) && (decide (d1 = d2) && (sameX (s1, e1, m1, R1.map rowT) (s2, e2, m2, R2.map rowT) && decide (P1 = P2))))))) ∧ Ext w w' := by
 obtain ⟨q1, c1, rfl, _, _⟩ := hx1.shape
 obtain ⟨q2, c2, rfl, _, _⟩ := hx2.shape
 obtain ⟨ql1, cl1, rfl, _, _⟩ := hy1.shape
 obtain ⟨ql2, cl2, rfl, _, _⟩ := hy2.shape
 have CS := fun U (h : Ext w U) => xsame_w s1 e1 m1 _ R1 s2 e2 m2 _ R2 U he1 he2 hm hf (hx1.ext h) (hx2.ext h)
 have CP := fun U (h : Ext w U) => pairsEq_w P1 P2 _ _ U hpm (hy1.ext h) (hy2.ext h)
 have qv := fun U => run_eql_vals (P := Tryz.prog) Tryz.underlying27 Tryz.underlying25 (by kernel_rfl) hd1 hd2 U
 unfold vVal vF at qv
 unfold spVal at CS
 have ht := beq_texts p1 p2
 obtain ⟨sx, hsx⟩ : ∃ b, sameX (s1, e1, m1, R1.map rowT) (s2, e2, m2, R2.map rowT) = b := ⟨_, rfl⟩
 obtain ⟨dp, hdp⟩ : ∃ b, decide (P1 = P2) = b := ⟨_, rfl⟩
 obtain ⟨dd, hdd⟩ : ∃ b, decide (d1 = d2) = b := ⟨_, rfl⟩
 obtain ⟨pp, hpp⟩ : ∃ b, decide (p1 = p2) = b := ⟨_, rfl⟩
 rw [hsx] at CS
 rw [hdp] at CP
 rw [hdd] at qv
 rw [hpp] at ht
 replace hsx := Lib.hid hsx
 replace hdp := Lib.hid hdp
 replace hdd := Lib.hid hdd
 replace hpp := Lib.hid hpp
 have i1i : (i1 = i2) ↔ ((i1 : Int) = (i2 : Int)) := by omega
 have n1i : (n1 = n2) ↔ ((n1 : Int) = (n2 : Int)) := by omega
 replace CS := Lib.hid CS
 replace CP := Lib.hid CP
 have hA : RB w.heap.size 33 [.int .i64 k1, .int .u64 (i1 : Nat), .int .u64 (n1 : Nat), .string p1, .int .u64 ((vG d1) 0 : Nat), .int .u64 ((vG d1) 1 : Nat), .int .u64 ((vG d1) 2 : Nat), .int .u64 ((vG d1) 3 : Nat), .string s1, .int .u64 ((vG e1) 0 : Nat), .int .u64 ((vG e1) 1 : Nat), .int .u64 ((vG e1) 2 : Nat), .int .u64 ((vG e1) 3 : Nat), .int .i64 m1.1, .int .i64 m1.2.1, .int .i64 m1.2.2, .slice q1 R1.length c1, .slice ql1 P1.length cl1] (w.alloc (.cells #[.int .i64 k1, .int .u64 (i1 : Nat), .int .u64 (n1 : Nat), .string p1, .int .u64 ((vG d1) 0 : Nat), .int .u64 ((vG d1) 1 : Nat), .int .u64 ((vG d1) 2 : Nat), .int .u64 ((vG d1) 3 : Nat), .string s1, .int .u64 ((vG e1) 0 : Nat), .int .u64 ((vG e1) 1 : Nat), .int .u64 ((vG e1) 2 : Nat), .int .u64 ((vG e1) 3 : Nat), .int .i64 m1.1, .int .i64 m1.2.1, .int .i64 m1.2.2, .slice q1 R1.length c1, .slice ql1 P1.length cl1] 33)) := RB.new w 33 [.int .i64 k1, .int .u64 (i1 : Nat), .int .u64 (n1 : Nat), .string p1, .int .u64 ((vG d1) 0 : Nat), .int .u64 ((vG d1) 1 : Nat), .int .u64 ((vG d1) 2 : Nat), .int .u64 ((vG d1) 3 : Nat), .string s1, .int .u64 ((vG e1) 0 : Nat), .int .u64 ((vG e1) 1 : Nat), .int .u64 ((vG e1) 2 : Nat), .int .u64 ((vG e1) 3 : Nat), .int .i64 m1.1, .int .i64 m1.2.1, .int .i64 m1.2.2, .slice q1 R1.length c1, .slice ql1 P1.length cl1]
 have hE : Ext w (w.alloc (.cells #[.int .i64 k1, .int .u64 (i1 : Nat), .int .u64 (n1 : Nat), .string p1, .int .u64 ((vG d1) 0 : Nat), .int .u64 ((vG d1) 1 : Nat), .int .u64 ((vG d1) 2 : Nat), .int .u64 ((vG d1) 3 : Nat), .string s1, .int .u64 ((vG e1) 0 : Nat), .int .u64 ((vG e1) 1 : Nat), .int .u64 ((vG e1) 2 : Nat), .int .u64 ((vG e1) 3 : Nat), .int .i64 m1.1, .int .i64 m1.2.1, .int .i64 m1.2.2, .slice q1 R1.length c1, .slice ql1 P1.length cl1] 33)) := (Ext.refl _).alloc _
 generalize hW1 : w.alloc (.cells #[.int .i64 k1, .int .u64 (i1 : Nat), .int .u64 (n1 : Nat), .string p1, .int .u64 ((vG d1) 0 : Nat), .int .u64 ((vG d1) 1 : Nat), .int .u64 ((vG d1) 2 : Nat), .int .u64 ((vG d1) 3 : Nat), .string s1, .int .u64 ((vG e1) 0 : Nat), .int .u64 ((vG e1) 1 : Nat), .int .u64 ((vG e1) 2 : Nat), .int .u64 ((vG e1) 3 : Nat), .int .i64 m1.1, .int .i64 m1.2.1, .int .i64 m1.2.2, .slice q1 R1.length c1, .slice ql1 P1.length cl1] 33) = w1 at *
 have hB : RB w1.heap.size 33 [.int .i64 k2, .int .u64 (i2 : Nat), .int .u64 (n2 : Nat), .string p2, .int .u64 ((vG d2) 0 : Nat), .int .u64 ((vG d2) 1 : Nat), .int .u64 ((vG d2) 2 : Nat), .int .u64 ((vG d2) 3 : Nat), .string s2, .int .u64 ((vG e2) 0 : Nat), .int .u64 ((vG e2) 1 : Nat), .int .u64 ((vG e2) 2 : Nat), .int .u64 ((vG e2) 3 : Nat), .int .i64 m2.1, .int .i64 m2.2.1, .int .i64 m2.2.2, .slice q2 R2.length c2, .slice ql2 P2.length cl2] (w1.alloc (.cells #[.int .i64 k2, .int .u64 (i2 : Nat), .int .u64 (n2 : Nat), .string p2, .int .u64 ((vG d2) 0 : Nat), .int .u64 ((vG d2) 1 : Nat), .int .u64 ((vG d2) 2 : Nat), .int .u64 ((vG d2) 3 : Nat), .string s2, .int .u64 ((vG e2) 0 : Nat), .int .u64 ((vG e2) 1 : Nat), .int .u64 ((vG e2) 2 : Nat), .int .u64 ((vG e2) 3 : Nat), .int .i64 m2.1, .int .i64 m2.2.1, .int .i64 m2.2.2, .slice q2 R2.length c2, .slice ql2 P2.length cl2] 33)) := RB.new w1 33 [.int .i64 k2, .int .u64 (i2 : Nat), .int .u64 (n2 : Nat), .string p2, .int .u64 ((vG d2) 0 : Nat), .int .u64 ((vG d2) 1 : Nat), .int .u64 ((vG d2) 2 : Nat), .int .u64 ((vG d2) 3 : Nat), .string s2, .int .u64 ((vG e2) 0 : Nat), .int .u64 ((vG e2) 1 : Nat), .int .u64 ((vG e2) 2 : Nat), .int .u64 ((vG e2) 3 : Nat), .int .i64 m2.1, .int .i64 m2.2.1, .int .i64 m2.2.2, .slice q2 R2.length c2, .slice ql2 P2.length cl2]
 have ee : Ext w1 (w1.alloc (.cells #[.int .i64 k2, .int .u64 (i2 : Nat), .int .u64 (n2 : Nat), .string p2, .int .u64 ((vG d2) 0 : Nat), .int .u64 ((vG d2) 1 : Nat), .int .u64 ((vG d2) 2 : Nat), .int .u64 ((vG d2) 3 : Nat), .string s2, .int .u64 ((vG e2) 0 : Nat), .int .u64 ((vG e2) 1 : Nat), .int .u64 ((vG e2) 2 : Nat), .int .u64 ((vG e2) 3 : Nat), .int .i64 m2.1, .int .i64 m2.2.1, .int .i64 m2.2.2, .slice q2 R2.length c2, .slice ql2 P2.length cl2] 33)) := (Ext.refl _).alloc _
 generalize hW2 : w1.alloc (.cells #[.int .i64 k2, .int .u64 (i2 : Nat), .int .u64 (n2 : Nat), .string p2, .int .u64 ((vG d2) 0 : Nat), .int .u64 ((vG d2) 1 : Nat), .int .u64 ((vG d2) 2 : Nat), .int .u64 ((vG d2) 3 : Nat), .string s2, .int .u64 ((vG e2) 0 : Nat), .int .u64 ((vG e2) 1 : Nat), .int .u64 ((vG e2) 2 : Nat), .int .u64 ((vG e2) 3 : Nat), .int .i64 m2.1, .int .i64 m2.2.1, .int .i64 m2.2.2, .slice q2 R2.length c2, .slice ql2 P2.length cl2] 33) = w2 at *
 replace hA := hA.ext ee
 replace hE := hE.trans ee
 obtain ⟨bA, hbA⟩ : ∃ x, w.heap.size = x := ⟨_, rfl⟩
 obtain ⟨bB, hbB⟩ : ∃ x, w1.heap.size = x := ⟨_, rfl⟩
 rw [hbA] at hA
 rw [hbB] at hB
 have al := hA.lt
 have bl := hB.lt
 have x1 : w2.cell? ⟨bA, 1, none⟩ = some (.int .u64 (i1 : Nat)) := hA.cell 1
 have x2 : w2.cell? ⟨bA, 2, none⟩ = some (.int .u64 (n1 : Nat)) := hA.cell 2
 have x3 : w2.cell? ⟨bA, 3, none⟩ = some (.string p1) := hA.cell 3
 have x4 : w2.cell? ⟨bA, 4, none⟩ = some (.int .u64 ((vG d1) 0 : Nat)) := hA.cell 4
 have x5 : w2.cell? ⟨bA, 5, none⟩ = some (.int .u64 ((vG d1) 1 : Nat)) := hA.cell 5
 have x6 : w2.cell? ⟨bA, 6, none⟩ = some (.int .u64 ((vG d1) 2 : Nat)) := hA.cell 6
 have x7 : w2.cell? ⟨bA, 7, none⟩ = some (.int .u64 ((vG d1) 3 : Nat)) := hA.cell 7
 have x8 : w2.cell? ⟨bA, 8, none⟩ = some (.string s1) := hA.cell 8
 have x9 : w2.cell? ⟨bA, 9, none⟩ = some (.int .u64 ((vG e1) 0 : Nat)) := hA.cell 9
 have x10 : w2.cell? ⟨bA, 10, none⟩ = some (.int .u64 ((vG e1) 1 : Nat)) := hA.cell 10
 have x11 : w2.cell? ⟨bA, 11, none⟩ = some (.int .u64 ((vG e1) 2 : Nat)) := hA.cell 11
 have x12 : w2.cell? ⟨bA, 12, none⟩ = some (.int .u64 ((vG e1) 3 : Nat)) := hA.cell 12
 have x13 : w2.cell? ⟨bA, 13, none⟩ = some (.int .i64 m1.1) := hA.cell 13
 have x14 : w2.cell? ⟨bA, 14, none⟩ = some (.int .i64 m1.2.1) := hA.cell 14
 have x15 : w2.cell? ⟨bA, 15, none⟩ = some (.int .i64 m1.2.2) := hA.cell 15
 have x16 : w2.cell? ⟨bA, 16, none⟩ = some (.slice q1 R1.length c1) := hA.cell 16
 have x17 : w2.cell? ⟨bA, 17, none⟩ = some (.slice ql1 P1.length cl1) := hA.cell 17
 have y1 : w2.cell? ⟨bB, 1, none⟩ = some (.int .u64 (i2 : Nat)) := hB.cell 1
 have y2 : w2.cell? ⟨bB, 2, none⟩ = some (.int .u64 (n2 : Nat)) := hB.cell 2
 have y3 : w2.cell? ⟨bB, 3, none⟩ = some (.string p2) := hB.cell 3
 have y4 : w2.cell? ⟨bB, 4, none⟩ = some (.int .u64 ((vG d2) 0 : Nat)) := hB.cell 4
 have y5 : w2.cell? ⟨bB, 5, none⟩ = some (.int .u64 ((vG d2) 1 : Nat)) := hB.cell 5
 have y6 : w2.cell? ⟨bB, 6, none⟩ = some (.int .u64 ((vG d2) 2 : Nat)) := hB.cell 6
 have y7 : w2.cell? ⟨bB, 7, none⟩ = some (.int .u64 ((vG d2) 3 : Nat)) := hB.cell 7
 have y8 : w2.cell? ⟨bB, 8, none⟩ = some (.string s2) := hB.cell 8
 have y9 : w2.cell? ⟨bB, 9, none⟩ = some (.int .u64 ((vG e2) 0 : Nat)) := hB.cell 9
 have y10 : w2.cell? ⟨bB, 10, none⟩ = some (.int .u64 ((vG e2) 1 : Nat)) := hB.cell 10
 have y11 : w2.cell? ⟨bB, 11, none⟩ = some (.int .u64 ((vG e2) 2 : Nat)) := hB.cell 11
 have y12 : w2.cell? ⟨bB, 12, none⟩ = some (.int .u64 ((vG e2) 3 : Nat)) := hB.cell 12
 have y13 : w2.cell? ⟨bB, 13, none⟩ = some (.int .i64 m2.1) := hB.cell 13
 have y14 : w2.cell? ⟨bB, 14, none⟩ = some (.int .i64 m2.2.1) := hB.cell 14
 have y15 : w2.cell? ⟨bB, 15, none⟩ = some (.int .i64 m2.2.2) := hB.cell 15
 have y16 : w2.cell? ⟨bB, 16, none⟩ = some (.slice q2 R2.length c2) := hB.cell 16
 have y17 : w2.cell? ⟨bB, 17, none⟩ = some (.slice ql2 P2.length cl2) := hB.cell 17
 clear ee hA hB
 unfold opV
 have rst : ∀ Q : Prop, Q → Q := fun _ h => h
 go_enter Tryz.func56, Tryz.ntmps56
 go_upto_region 1 with fail
 clear hW1 hW2 hbA hbB rst
 by_cases h1 : (i1 : Int) = (i2 : Int)
 ·have g1 := i1i.2 h1
  replace g1 := Lib.hid g1
  by_cases h2 : (n1 : Int) = (n2 : Int)
  ·have g2 := n1i.2 h2
   replace g2 := Lib.hid g2
   cases pp with
   | false =>
    go_wp2
    go_ret
    exact ⟨by rw [hpp.out]; simp, hE⟩
   | true =>
    cases dd with
    | false =>
     go_wp2
     go_ret
     exact ⟨by rw [hdd.out]; simp, hE⟩
    | true =>
     go_wp2_with fail
     refine (CS.out _ hE).mono ?_; rintro e w3 ⟨rfl, h3⟩
     cases sx with
     | false =>
      go_wp2
      go_ret
      exact ⟨by rw [hsx.out]; simp, hE.trans h3⟩
     | true =>
      have lA := Nat.lt_of_lt_of_le al h3.size
      have lB := Nat.lt_of_lt_of_le bl h3.size
      have z1 : w3.cell? ⟨bA, 17, none⟩ = _ := (h3.cell (p := ⟨bA, 17, none⟩) al).trans x17
      have z2 : w3.cell? ⟨bB, 17, none⟩ = _ := (h3.cell (p := ⟨bB, 17, none⟩) bl).trans y17
      go_wp2_with fail
      refine (CP.out _ (hE.trans h3)).mono ?_; rintro e w4 ⟨rfl, h4⟩
      go_wp2
      go_ret
      exact ⟨by rw [hpp.out, hdd.out, hsx.out, hdp.out, decide_eq_true g1.out, decide_eq_true g2.out]; simp, (hE.trans h3).trans h4⟩
  ·have g2 : ¬ n1 = n2 := fun h => h2 (n1i.1 h)
   replace g2 := Lib.hid g2
   go_wp2
   go_ret
   exact ⟨by rw [decide_eq_false g2.out]; simp, hE⟩
 ·have g1 : ¬ i1 = i2 := fun h => h1 (i1i.1 h)
  replace g1 := Lib.hid g1
  go_wp2
  go_ret
  exact ⟨by rw [decide_eq_false g1.out]; simp, hE⟩
end Go.Proofs.YtefjdmjkofaajaaGreatDoor

namespace Go.Dm
open Go Go.RowKit
/-- An op: its kind, numbers, path, amount, job, labels. -/
abbrev OpQ := Int × (Nat × Nat) × ByteArray × Vc × SpQ × List PairS
def bareO (f : Fld) (o : OpQ) : OpQ := (o.1, (cond f.1 o.2.1.1 0, cond f.2.1 o.2.1.2 0), cond f.2.2.1 o.2.2.1 ⟨#[]⟩, cond f.2.2.2.1 o.2.2.2.1 noV, cond f.2.2.2.2.1 o.2.2.2.2.1 noSp, cond f.2.2.2.2.2 o.2.2.2.2.2 [])
def eqO (a b : OpQ) : Bool := decide (a.2.1.1 = b.2.1.1) && (decide (a.2.1.2 = b.2.1.2) && (decide (a.2.2.1 = b.2.2.1) && (decide (a.2.2.2.1 = b.2.2.2.1) && (sameX a.2.2.2.2.1 b.2.2.2.2.1 && decide (a.2.2.2.2.2 = b.2.2.2.2.2)))))
/-- P18.1. -/
def rightO (o : OpQ) : Bool := match knownF o.1 with
 | none => false
 | some f => eqO o (bareO f o) && ((!f.2.2.2.2.1 || decide (chkX o.2.2.2.2.1 = 0)) && (decide (o.2.2.1.size ≤ 98) && rightLab (labL o.2.2.2.2.2)))
theorem vG_noV : vG noV = fun _ => 0 := by
 funext i
 match i with
 | 0 | 1 | 2 | 3 => rfl
 | _ + 4 => rfl
theorem bareV_eq (f : Fld) (k : Int) (i n : Nat) (p : ByteArray) (d : Vc) (s : ByteArray) (e : Vc) (m : Nums3) (v l : Value) :
  bareV f k i n p (vG d) s (vG e) m v l = opV k (cond f.1 i 0) (cond f.2.1 n 0) (cond f.2.2.1 p ⟨#[]⟩) (vG (cond f.2.2.2.1 d noV)) (cond f.2.2.2.2.1 s ⟨#[]⟩) (vG (cond f.2.2.2.2.1 e noV)) (cond f.2.2.2.2.1 m (0, 0, 0)) (cond f.2.2.2.2.1 v (.slice none 0 0)) (cond f.2.2.2.2.2 l (.slice none 0 0)) := by
 obtain ⟨b0, b1, b2, b3, b4, b5⟩ := f
 unfold bareV
 cases b3 <;> cases b4 <;> simp [vG_noV]
end Go.Dm
namespace Go.Proofs.YtefjdmjkofaajaaGreatDoor
open Go.RowKit Go.Dm

theorem samebare_w (f : Fld) (k : Int) (i n : Nat) (p : ByteArray) (d : Vc) (s : ByteArray) (e : Vc) (m : Nums3) (v l : Value) (R : List RowS) (P : List PairS) (w : World)
  (hd : OkV d) (he : OkV e) (hm : R.length ≤ 35184372088832) (hf : FitR R) (hx : Terms w v R) (hpm : P.length ≤ 35184372088832) (hy : Pairs w l P) :
  Calls Tryz.prog 56 #[opV k i n p (vG d) s (vG e) m v l, bareV f k i n p (vG d) s (vG e) m v l] w fun e_ w' => e_ = .returned (.bool (eqO (k, (i, n), p, d, (s, e, m, R.map rowT), P) (bareO f (k, (i, n), p, d, (s, e, m, R.map rowT), P)))) ∧ Ext w w' := by
 rw [bareV_eq]
 obtain ⟨b0, b1, b2, b3, b4, b5⟩ := f
 have hx2 : Terms w (cond b4 v (.slice none 0 0)) (cond b4 R []) := by
  cases b4
  ·exact Terms.nil w
  ·exact hx
 have hy2 : Pairs w (cond b5 l (.slice none 0 0)) (cond b5 P []) := by
  cases b5
  ·exact Pairs.nil w
  ·exact hy
 have hd2 : OkV (cond b3 d noV) := by
  cases b3
  ·exact okV_no
  ·exact hd
 have he2 : OkV (cond b4 e noV) := by
  cases b4
  ·exact okV_no
  ·exact he
 refine (asame_w k i n p d s e m v l R P k (cond b0 i 0) (cond b1 n 0) (cond b2 p ⟨#[]⟩) (cond b3 d noV) (cond b4 s ⟨#[]⟩) (cond b4 e noV) (cond b4 m (0, 0, 0)) (cond b4 v (.slice none 0 0)) (cond b5 l (.slice none 0 0)) (cond b4 R []) (cond b5 P []) w hd hd2 he he2 hm hf hx hx2 hpm hy hy2).mono fun e_ w' h => ⟨?_, h.2⟩
 rw [h.1]
 unfold eqO bareO
 cases b4 <;> rfl


end Go.Proofs.YtefjdmjkofaajaaGreatDoor

namespace Go.Proofs.YtefjdmjkofaajaaGreatDoor
open Go.RowKit Go.Dm

set_option maxHeartbeats 4000000 in
set_option maxRecDepth 100000 in
theorem aright_cA (k : Int) (i n : Nat) (p : ByteArray) (d : Vc) (s : ByteArray) (e : Vc) (m : Nums3) (v l : Value) (R : List RowS) (P : List PairS) (w : World)
  (hk : -9223372036854775808 ≤ k ∧ k ≤ 9223372036854775807) (hd : OkV d) (hs : s.size < 4294967281) (he : OkV e) (hm : R.length ≤ 35184372088832) (hf : FitR R) (hx : Terms w v R) (hpm : P.length ≤ 35184372088832) (hfp : FitP P) (hy : Pairs w l P) (hv : Vars w)
  (h1 : (knownF k).isSome = false) :
  Calls Tryz.prog 25 #[opV k i n p (vG d) s (vG e) m v l] w fun e_ w' => e_ = .returned (.bool (rightO (k, (i, n), p, d, (s, e, m, R.map rowT), P))) ∧ Ext w w' := by
 obtain ⟨qv, cv, rfl, _, _⟩ := hx.shape
 obtain ⟨ql, cl, rfl, _, _⟩ := hy.shape
 have CK := fun U => aknown_w U
 have CB_ := fun f (hf : isFld f) U => bare_w f hf k i n p (vG d) s (vG e) m qv ql R.length cv P.length cl U
 have CS := fun f U (h : Ext w U) => samebare_w f k i n p d s e m _ _ R P U hd he hm hf (hx.ext h) hpm (hy.ext h)
 have CC := fun U (h : Ext w U) => xcheck_w s e m _ R U hs he hm hf (hx.ext h) (hv.ext h)
 have CL := fun U (h : Ext w U) => lright_w P _ U hpm hfp (hy.ext h) (hv.tabs.ext h)
 have hro : rightO (k, (i, n), p, d, (s, e, m, R.map rowT), P) = match knownF k with | none => false | some f => eqO (k, (i, n), p, d, (s, e, m, R.map rowT), P) (bareO f (k, (i, n), p, d, (s, e, m, R.map rowT), P)) && ((!f.2.2.2.2.1 || decide (chkX (s, e, m, R.map rowT) = 0)) && (decide (p.size ≤ 98) && rightLab (labL P))) := rfl
 obtain ⟨ro, hr⟩ : ∃ b, rightO (k, (i, n), p, d, (s, e, m, R.map rowT), P) = b := ⟨_, rfl⟩
 rw [hr] at hro
 have hkf := fun f (h : knownF k = some f) => knownF_is h
 have hlook := fun (U : World) B (h : MapK U B 13 knownF) => h.look hk
 unfold spVal at CC
 generalize chkX (s, e, m, R.map rowT) = ck at *
 generalize rightLab (labL P) = rl at *
 obtain ⟨f0, hf0⟩ : ∃ f, (knownF k).getD noFld = f := ⟨_, rfl⟩
 obtain ⟨ok, hok⟩ : ∃ b, (knownF k).isSome = b := ⟨_, rfl⟩
 rw [hf0, hok] at hlook
 rw [hok] at h1
 have hcase : (ok = false ∧ ro = false) ∨ (ok = true ∧ isFld f0 ∧ ro = (eqO (k, (i, n), p, d, (s, e, m, R.map rowT), P) (bareO f0 (k, (i, n), p, d, (s, e, m, R.map rowT), P)) && ((!f0.2.2.2.2.1 || decide (ck = 0)) && (decide (p.size ≤ 98) && rl)))) := by
  cases h : knownF k with
  | none => rw [h] at hro hok; exact Or.inl ⟨hok.symm, hro⟩
  | some f =>
   rw [h] at hro hok hf0
   have : f = f0 := hf0
   subst this
   exact Or.inr ⟨hok.symm, hkf _ h, hro⟩
 clear hro hkf hf0 hok
 obtain ⟨b0, b1, b2, b3, b4, b5⟩ := f0
 unfold fldV at hlook CB_
 simp only at hlook hcase
 have CB_ := CB_ (b0, b1, b2, b3, b4, b5)
 have CS := CS (b0, b1, b2, b3, b4, b5)
 generalize eqO (k, (i, n), p, d, (s, e, m, R.map rowT), P) (bareO (b0, b1, b2, b3, b4, b5) (k, (i, n), p, d, (s, e, m, R.map rowT), P)) = eq at *
 obtain ⟨BV, hBV⟩ : ∃ x, bareV (b0, b1, b2, b3, b4, b5) k i n p (vG d) s (vG e) m (.slice qv R.length cv) (.slice ql P.length cl) = x := ⟨_, rfl⟩
 rw [hBV] at CB_ CS
 unfold opV at CB_ CS ⊢
 simp only at CB_
 try simp only at h1 h2 h3
 try simp only at h3
 obtain ⟨w1, hW1, hA, hE, -⟩ := new_row w 33 [.int .i64 k, .int .u64 (i : Nat), .int .u64 (n : Nat), .string p, .int .u64 ((vG d) 0 : Nat), .int .u64 ((vG d) 1 : Nat), .int .u64 ((vG d) 2 : Nat), .int .u64 ((vG d) 3 : Nat), .string s, .int .u64 ((vG e) 0 : Nat), .int .u64 ((vG e) 1 : Nat), .int .u64 ((vG e) 2 : Nat), .int .u64 ((vG e) 3 : Nat), .int .i64 m.1, .int .i64 m.2.1, .int .i64 m.2.2, .slice qv R.length cv, .slice ql P.length cl]
 obtain ⟨bA, hbA⟩ : ∃ x, w.heap.size = x := ⟨_, rfl⟩
 have hwA : w.heap.size ≤ bA := by omega
 rw [hbA] at hA
 have al := hA.lt
 have a0 : w1.cell? ⟨bA, 0, none⟩ = some (.int .i64 k) := hA.cell 0
 replace CK := Lib.hid CK
 replace CB_ := Lib.hid CB_
 replace CS := Lib.hid CS
 replace CC := Lib.hid CC
 replace CL := Lib.hid CL
 replace hlook := Lib.hid hlook
 replace hcase := Lib.hid hcase
 replace hr := Lib.hid hr
 replace hBV := Lib.hid hBV
 go_enter Tryz.func25, Tryz.ntmps25
 go_upto_region 1 with fail
 clear hW1 hbA
 refine region_cut (fun a_ a' w' => ∃ bM bF : Nat, a' = ((((((((a_.put (some 6) (.map (some bM))).put (some 7) (.pointer (some ⟨bA, 0, none⟩))).put (some 8) (.int .i64 k)).put (some 9) (.tuple #[.agg #[.bool b0, .bool b1, .bool b2, .bool b3, .bool b4, .bool b5], .bool false])).put (some 5) (.tuple #[.agg #[.bool b0, .bool b1, .bool b2, .bool b3, .bool b4, .bool b5], .bool false])).put (some 10) (.agg #[.bool b0, .bool b1, .bool b2, .bool b3, .bool b4, .bool b5])).put (some 11) (.bool false)).put (some 3) (.pointer (some ⟨bF, 0, none⟩))).put (some 4) (.bool false) ∧ RB bF 108 [.bool b0, .bool b1, .bool b2, .bool b3, .bool b4, .bool b5] w' ∧ Ext w1 w') ?_ ?_
 ·skip
  try simp only [Act.put, List.setIfInBounds_toArray, List.set_cons_succ, List.set_cons_zero]
  refine Dm.wp_region_ext 10 (Dm.bits 10 0) (Ext.refl w1) (by kernel_rfl) (by kernel_rfl) (by kernel_rfl) ?_
  refine Dm.wpE_take (i := 1) (listed' := (Dm.bits 10 2)) (by kernel_rfl) (by kernel_rfl) rfl (fun _ _ _ _ h => h) ?_; apply Exists.intro; refine And.intro (fun x => ?_) ?_
  ·go_big_quiet_step (fail); exact wpQuiet_nil rfl
  refine Dm.wpE_take (i := 2) (listed' := (Dm.bits 10 6)) (by kernel_rfl) (by kernel_rfl) rfl (fun _ _ _ _ h => h) ?_; apply Exists.intro; refine And.intro (fun x => ?_) ?_
  ·go_big_quiet_step (fail); exact wpQuiet_nil rfl
  refine Dm.wpE_two (i := 0) (j := 7) (li := (Dm.bits 10 7)) (lj := (Dm.bits 10 134)) (by kernel_rfl) (by kernel_rfl) (by kernel_rfl) rfl rfl (Ext.refl w1) (fun w1a hx1a => ?_) (fun w1a hx1a => ?_)
  ·
   have hX1a := Ext.trans (Ext.refl w1) hx1a
   go_wp2_with (go_at_call 55; go_must (refine (CK.out w1a).mono ?_; rintro e_ w1b ⟨bM, rfl, hM, hs1⟩))
   have hX1b := Ext.trans hX1a hs1
   try simp only [Exit.then, Act.put, List.setIfInBounds_toArray, List.set_cons_succ, List.set_cons_zero]
   refine Dm.wpE_two (i := 3) (j := 7) (li := (Dm.bits 10 15)) (lj := (Dm.bits 10 135)) (by kernel_rfl) (by kernel_rfl) (by kernel_rfl) rfl rfl hX1b (fun w2a hx2a => ?_) (fun w2a hx2a => ?_)
   ·
    have hX2a := Ext.trans hX1b hx2a
    replace hM := hM.ext hx2a
    have hlk := hlook.out _ _ hM
    go_wp2_with fail
    clear hlk hM
    obtain ⟨w2b, hw2⟩ : ∃ x, x = w2a := ⟨_, rfl⟩
    subst hw2
    have hX2b := hX2a
    try simp only [Exit.then, Act.put, List.setIfInBounds_toArray, List.set_cons_succ, List.set_cons_zero]
    refine Dm.wpE_take (i := 4) (listed' := (Dm.bits 10 31)) (by kernel_rfl) (by kernel_rfl) rfl (fun _ _ _ _ h => h) ?_; apply Exists.intro; refine And.intro (fun x => ?_) ?_
    ·go_big_quiet_step (fail); exact wpQuiet_nil rfl
    refine Dm.wpE_take (i := 5) (listed' := (Dm.bits 10 63)) (by kernel_rfl) (by kernel_rfl) rfl (fun _ _ _ _ h => h) ?_; apply Exists.intro; refine And.intro (fun x => ?_) ?_
    ·go_big_quiet_step (fail); exact wpQuiet_nil rfl
    refine Dm.wpE_take (i := 6) (listed' := (Dm.bits 10 127)) (by kernel_rfl) (by kernel_rfl) rfl (fun _ _ _ _ h => h) ?_; apply Exists.intro; refine And.intro (fun x => ?_) ?_
    ·go_big_quiet_step (fail); exact wpQuiet_nil rfl
    refine Dm.wpE_one (i := 7) (listed' := (Dm.bits 10 255)) (by kernel_rfl) (by kernel_rfl) rfl hX2b (fun w3a hx3a => ?_)
    have hX3a := Ext.trans hX2b hx3a
    have hF : RB w3a.heap.size 108 [.bool false, .bool false, .bool false, .bool false, .bool false, .bool false] (w3a.alloc (.cells #[.bool false, .bool false, .bool false, .bool false, .bool false, .bool false] 108)) := RB.new w3a 108 [.bool false, .bool false, .bool false, .bool false, .bool false, .bool false]
    have hbF := (hX3a).size
    go_wp2_with fail
    have hs3 : Ext w3a (w3a.alloc (.cells #[.bool false, .bool false, .bool false, .bool false, .bool false, .bool false] 108)) := (Ext.refl _).alloc _
    have hX3b := Ext.trans hX3a hs3
    generalize w3a.alloc (.cells #[.bool false, .bool false, .bool false, .bool false, .bool false, .bool false] 108) = w3b at *
    generalize w3a.heap.size = bF at *
    try simp only [Exit.then, Act.put, List.setIfInBounds_toArray, List.set_cons_succ, List.set_cons_zero]
    refine Dm.wpE_one (i := 8) (listed' := (Dm.bits 10 511)) (by kernel_rfl) (by kernel_rfl) rfl hX3b (fun w4a hx4a => ?_)
    have hX4a := Ext.trans hX3b hx4a
    replace hF := hF.ext hx4a
    have hG := hF.setRow [.bool b0, .bool b1, .bool b2, .bool b3, .bool b4, .bool b5]
    go_wp2_with (refine wpList_store_row (cells := #[.bool b0, .bool b1, .bool b2, .bool b3, .bool b4, .bool b5]) rfl 108 _ _ rfl bF rfl rfl _ _ hF (by kernel_rfl) rfl (by first | rfl | decide | simp [Value.oneCell']) ?_)
    change RB bF 108 [.bool b0, .bool b1, .bool b2, .bool b3, .bool b4, .bool b5] (w4a.setRow bF #[.bool b0, .bool b1, .bool b2, .bool b3, .bool b4, .bool b5]) at hG
    have hX4b : Ext w1 (w4a.setRow bF #[.bool b0, .bool b1, .bool b2, .bool b3, .bool b4, .bool b5]) := Ext.setRow hX4a hbF _
    clear hF
    generalize w4a.setRow bF #[.bool b0, .bool b1, .bool b2, .bool b3, .bool b4, .bool b5] = w4b at *
    try simp only [Act.put]
    refine Dm.wpE_take (i := 9) (listed' := (Dm.bits 10 1023)) (by kernel_rfl) (by kernel_rfl) rfl (fun _ _ _ _ h => h) ?_; apply Exists.intro; refine And.intro (fun x => ?_) ?_
    ·go_big_quiet_step (fail); exact wpQuiet_nil rfl
    refine Dm.wpE_done (by kernel_rfl) hX4b (fun w5a hx5a => ?_)
    have hX5a := Ext.trans hX4b hx5a
    replace hG := hG.ext hx5a
    exact ⟨bM, bF, rfl, hG, hX5a⟩
   ·
    have hX2a := Ext.trans hX1b hx2a
    replace hM := hM.ext hx2a
    have hF : RB w2a.heap.size 108 [.bool false, .bool false, .bool false, .bool false, .bool false, .bool false] (w2a.alloc (.cells #[.bool false, .bool false, .bool false, .bool false, .bool false, .bool false] 108)) := RB.new w2a 108 [.bool false, .bool false, .bool false, .bool false, .bool false, .bool false]
    have hbF := (hX2a).size
    go_wp2_with fail
    have hs2 : Ext w2a (w2a.alloc (.cells #[.bool false, .bool false, .bool false, .bool false, .bool false, .bool false] 108)) := (Ext.refl _).alloc _
    have hX2b := Ext.trans hX2a hs2
    generalize w2a.alloc (.cells #[.bool false, .bool false, .bool false, .bool false, .bool false, .bool false] 108) = w2b at *
    generalize w2a.heap.size = bF at *
    replace hM := hM.ext hs2
    try simp only [Exit.then, Act.put, List.setIfInBounds_toArray, List.set_cons_succ, List.set_cons_zero]
    refine Dm.wpE_one (i := 3) (listed' := (Dm.bits 10 143)) (by kernel_rfl) (by kernel_rfl) rfl hX2b (fun w6a hx6a => ?_)
    have hX6a := Ext.trans hX2b hx6a
    replace hM := hM.ext hx6a
    replace hF := hF.ext hx6a
    have hlk := hlook.out _ _ hM
    go_wp2_with fail
    clear hlk hM
    obtain ⟨w6b, hw2⟩ : ∃ x, x = w6a := ⟨_, rfl⟩
    subst hw2
    have hX6b := hX6a
    try simp only [Exit.then, Act.put, List.setIfInBounds_toArray, List.set_cons_succ, List.set_cons_zero]
    refine Dm.wpE_take (i := 4) (listed' := (Dm.bits 10 159)) (by kernel_rfl) (by kernel_rfl) rfl (fun _ _ _ _ h => h) ?_; apply Exists.intro; refine And.intro (fun x => ?_) ?_
    ·go_big_quiet_step (fail); exact wpQuiet_nil rfl
    refine Dm.wpE_take (i := 5) (listed' := (Dm.bits 10 191)) (by kernel_rfl) (by kernel_rfl) rfl (fun _ _ _ _ h => h) ?_; apply Exists.intro; refine And.intro (fun x => ?_) ?_
    ·go_big_quiet_step (fail); exact wpQuiet_nil rfl
    refine Dm.wpE_take (i := 6) (listed' := (Dm.bits 10 255)) (by kernel_rfl) (by kernel_rfl) rfl (fun _ _ _ _ h => h) ?_; apply Exists.intro; refine And.intro (fun x => ?_) ?_
    ·go_big_quiet_step (fail); exact wpQuiet_nil rfl
    refine Dm.wpE_one (i := 8) (listed' := (Dm.bits 10 511)) (by kernel_rfl) (by kernel_rfl) rfl hX6b (fun w7a hx7a => ?_)
    have hX7a := Ext.trans hX6b hx7a
    replace hF := hF.ext hx7a
    have hG := hF.setRow [.bool b0, .bool b1, .bool b2, .bool b3, .bool b4, .bool b5]
    go_wp2_with (refine wpList_store_row (cells := #[.bool b0, .bool b1, .bool b2, .bool b3, .bool b4, .bool b5]) rfl 108 _ _ rfl bF rfl rfl _ _ hF (by kernel_rfl) rfl (by first | rfl | decide | simp [Value.oneCell']) ?_)
    change RB bF 108 [.bool b0, .bool b1, .bool b2, .bool b3, .bool b4, .bool b5] (w7a.setRow bF #[.bool b0, .bool b1, .bool b2, .bool b3, .bool b4, .bool b5]) at hG
    have hX7b : Ext w1 (w7a.setRow bF #[.bool b0, .bool b1, .bool b2, .bool b3, .bool b4, .bool b5]) := Ext.setRow hX7a hbF _
    clear hF
    generalize w7a.setRow bF #[.bool b0, .bool b1, .bool b2, .bool b3, .bool b4, .bool b5] = w7b at *
    try simp only [Act.put]
    refine Dm.wpE_take (i := 9) (listed' := (Dm.bits 10 1023)) (by kernel_rfl) (by kernel_rfl) rfl (fun _ _ _ _ h => h) ?_; apply Exists.intro; refine And.intro (fun x => ?_) ?_
    ·go_big_quiet_step (fail); exact wpQuiet_nil rfl
    refine Dm.wpE_done (by kernel_rfl) hX7b (fun w8a hx8a => ?_)
    have hX8a := Ext.trans hX7b hx8a
    replace hG := hG.ext hx8a
    exact ⟨bM, bF, rfl, hG, hX8a⟩
  ·
   have hX1a := Ext.trans (Ext.refl w1) hx1a
   have hF : RB w1a.heap.size 108 [.bool false, .bool false, .bool false, .bool false, .bool false, .bool false] (w1a.alloc (.cells #[.bool false, .bool false, .bool false, .bool false, .bool false, .bool false] 108)) := RB.new w1a 108 [.bool false, .bool false, .bool false, .bool false, .bool false, .bool false]
   have hbF := (hX1a).size
   go_wp2_with fail
   have hs1 : Ext w1a (w1a.alloc (.cells #[.bool false, .bool false, .bool false, .bool false, .bool false, .bool false] 108)) := (Ext.refl _).alloc _
   have hX1b := Ext.trans hX1a hs1
   generalize w1a.alloc (.cells #[.bool false, .bool false, .bool false, .bool false, .bool false, .bool false] 108) = w1b at *
   generalize w1a.heap.size = bF at *
   try simp only [Exit.then, Act.put, List.setIfInBounds_toArray, List.set_cons_succ, List.set_cons_zero]
   refine Dm.wpE_one (i := 0) (listed' := (Dm.bits 10 135)) (by kernel_rfl) (by kernel_rfl) rfl hX1b (fun w9a hx9a => ?_)
   have hX9a := Ext.trans hX1b hx9a
   replace hF := hF.ext hx9a
   go_wp2_with (go_at_call 55; go_must (refine (CK.out w9a).mono ?_; rintro e_ w9b ⟨bM, rfl, hM, hs9⟩))
   have hX9b := Ext.trans hX9a hs9
   replace hF := hF.ext hs9
   try simp only [Exit.then, Act.put, List.setIfInBounds_toArray, List.set_cons_succ, List.set_cons_zero]
   refine Dm.wpE_one (i := 3) (listed' := (Dm.bits 10 143)) (by kernel_rfl) (by kernel_rfl) rfl hX9b (fun w10a hx10a => ?_)
   have hX10a := Ext.trans hX9b hx10a
   replace hF := hF.ext hx10a
   replace hM := hM.ext hx10a
   have hlk := hlook.out _ _ hM
   go_wp2_with fail
   clear hlk hM
   obtain ⟨w10b, hw2⟩ : ∃ x, x = w10a := ⟨_, rfl⟩
   subst hw2
   have hX10b := hX10a
   try simp only [Exit.then, Act.put, List.setIfInBounds_toArray, List.set_cons_succ, List.set_cons_zero]
   refine Dm.wpE_take (i := 4) (listed' := (Dm.bits 10 159)) (by kernel_rfl) (by kernel_rfl) rfl (fun _ _ _ _ h => h) ?_; apply Exists.intro; refine And.intro (fun x => ?_) ?_
   ·go_big_quiet_step (fail); exact wpQuiet_nil rfl
   refine Dm.wpE_take (i := 5) (listed' := (Dm.bits 10 191)) (by kernel_rfl) (by kernel_rfl) rfl (fun _ _ _ _ h => h) ?_; apply Exists.intro; refine And.intro (fun x => ?_) ?_
   ·go_big_quiet_step (fail); exact wpQuiet_nil rfl
   refine Dm.wpE_take (i := 6) (listed' := (Dm.bits 10 255)) (by kernel_rfl) (by kernel_rfl) rfl (fun _ _ _ _ h => h) ?_; apply Exists.intro; refine And.intro (fun x => ?_) ?_
   ·go_big_quiet_step (fail); exact wpQuiet_nil rfl
   refine Dm.wpE_one (i := 8) (listed' := (Dm.bits 10 511)) (by kernel_rfl) (by kernel_rfl) rfl hX10b (fun w11a hx11a => ?_)
   have hX11a := Ext.trans hX10b hx11a
   replace hF := hF.ext hx11a
   have hG := hF.setRow [.bool b0, .bool b1, .bool b2, .bool b3, .bool b4, .bool b5]
   go_wp2_with (refine wpList_store_row (cells := #[.bool b0, .bool b1, .bool b2, .bool b3, .bool b4, .bool b5]) rfl 108 _ _ rfl bF rfl rfl _ _ hF (by kernel_rfl) rfl (by first | rfl | decide | simp [Value.oneCell']) ?_)
   change RB bF 108 [.bool b0, .bool b1, .bool b2, .bool b3, .bool b4, .bool b5] (w11a.setRow bF #[.bool b0, .bool b1, .bool b2, .bool b3, .bool b4, .bool b5]) at hG
   have hX11b : Ext w1 (w11a.setRow bF #[.bool b0, .bool b1, .bool b2, .bool b3, .bool b4, .bool b5]) := Ext.setRow hX11a hbF _
   clear hF
   generalize w11a.setRow bF #[.bool b0, .bool b1, .bool b2, .bool b3, .bool b4, .bool b5] = w11b at *
   try simp only [Act.put]
   refine Dm.wpE_take (i := 9) (listed' := (Dm.bits 10 1023)) (by kernel_rfl) (by kernel_rfl) rfl (fun _ _ _ _ h => h) ?_; apply Exists.intro; refine And.intro (fun x => ?_) ?_
   ·go_big_quiet_step (fail); exact wpQuiet_nil rfl
   refine Dm.wpE_done (by kernel_rfl) hX11b (fun w12a hx12a => ?_)
   have hX12a := Ext.trans hX11b hx12a
   replace hG := hG.ext hx12a
   exact ⟨bM, bF, rfl, hG, hX12a⟩
 rintro a_ wr ⟨bM, bF, rfl, hG, hX⟩
 simp only [Act.put, List.setIfInBounds_toArray, List.set_cons_succ, List.set_cons_zero]
 clear a0 al CK hlook
 replace hA := hA.ext hX
 replace hE := hE.trans hX
 go_upto_region 2 with fail
 have al := hA.lt
 have gl := hG.lt
 subst h1
 rcases hcase.out with ⟨hok0, hro0⟩ | ⟨hok0, hfd, hro0⟩
 rotate_left
 ·cases hok0
 subst hro0
 clear hcase
 try simp only [Act.put, List.setIfInBounds_toArray, List.set_cons_succ, List.set_cons_zero]
 refine Dm.wp_region_ext 20 (Dm.bits 20 0) (Ext.refl wr) (by kernel_rfl) (by kernel_rfl) (by kernel_rfl) ?_
 refine Dm.wpE_take (i := 0) (listed' := (Dm.bits 20 1)) (by kernel_rfl) (by kernel_rfl) rfl (fun _ _ _ _ h => h) ?_; apply Exists.intro; refine And.intro (fun x => ?_) ?_
 ·go_big_quiet_step (fail); exact wpQuiet_nil rfl
 refine Dm.wpE_take (i := 1) (listed' := (Dm.bits 20 3)) (by kernel_rfl) (by kernel_rfl) rfl (fun _ _ _ _ h => h) ?_; apply Exists.intro; refine And.intro (fun x => ?_) ?_
 ·go_big_quiet_step (fail); exact wpQuiet_nil rfl
 refine Dm.wpE_take (i := 2) (listed' := (Dm.bits 20 7)) (by kernel_rfl) (by kernel_rfl) rfl (fun _ _ _ _ h => h) ?_; apply Exists.intro; refine And.intro (fun x => ?_) ?_
 ·go_big_quiet_step (fail); exact wpQuiet_nil rfl
 refine Dm.wpE_take (i := 3) (listed' := (Dm.bits 20 15)) (by kernel_rfl) (by kernel_rfl) rfl (fun _ _ _ _ h => h) ?_; apply Exists.intro; refine And.intro (fun x => ?_) ?_
 ·go_big_quiet_skip; exact wpQuiet_nil rfl
 refine Dm.wpE_take (i := 4) (listed' := (Dm.bits 20 31)) (by kernel_rfl) (by kernel_rfl) rfl (fun _ _ _ _ h => h) ?_; apply Exists.intro; refine And.intro (fun x => ?_) ?_
 ·go_big_quiet_skip; exact wpQuiet_nil rfl
 refine Dm.wpE_take (i := 5) (listed' := (Dm.bits 20 63)) (by kernel_rfl) (by kernel_rfl) rfl (fun _ _ _ _ h => h) ?_; apply Exists.intro; refine And.intro (fun x => ?_) ?_
 ·go_big_quiet_skip; exact wpQuiet_nil rfl
 refine Dm.wpE_take (i := 6) (listed' := (Dm.bits 20 127)) (by kernel_rfl) (by kernel_rfl) rfl (fun _ _ _ _ h => h) ?_; apply Exists.intro; refine And.intro (fun x => ?_) ?_
 ·go_big_quiet_skip; exact wpQuiet_nil rfl
 refine Dm.wpE_take (i := 7) (listed' := (Dm.bits 20 255)) (by kernel_rfl) (by kernel_rfl) rfl (fun _ _ _ _ h => h) ?_; apply Exists.intro; refine And.intro (fun x => ?_) ?_
 ·go_big_quiet_skip; exact wpQuiet_nil rfl
 refine Dm.wpE_take (i := 8) (listed' := (Dm.bits 20 511)) (by kernel_rfl) (by kernel_rfl) rfl (fun _ _ _ _ h => h) ?_; apply Exists.intro; refine And.intro (fun x => ?_) ?_
 ·go_big_quiet_skip; exact wpQuiet_nil rfl
 refine Dm.wpE_take (i := 9) (listed' := (Dm.bits 20 1023)) (by kernel_rfl) (by kernel_rfl) rfl (fun _ _ _ _ h => h) ?_; apply Exists.intro; refine And.intro (fun x => ?_) ?_
 ·go_big_quiet_step (fail); exact wpQuiet_nil rfl
 refine Dm.wpE_take (i := 10) (listed' := (Dm.bits 20 2047)) (by kernel_rfl) (by kernel_rfl) rfl (fun _ _ _ _ h => h) ?_; apply Exists.intro; refine And.intro (fun x => ?_) ?_
 ·go_big_quiet_step (fail); exact wpQuiet_nil rfl
 refine Dm.wpE_take (i := 11) (listed' := (Dm.bits 20 4095)) (by kernel_rfl) (by kernel_rfl) rfl (fun _ _ _ _ h => h) ?_; apply Exists.intro; refine And.intro (fun x => ?_) ?_
 ·go_big_quiet_skip; exact wpQuiet_nil rfl
 refine Dm.wpE_take (i := 12) (listed' := (Dm.bits 20 8191)) (by kernel_rfl) (by kernel_rfl) rfl (fun _ _ _ _ h => h) ?_; apply Exists.intro; refine And.intro (fun x => ?_) ?_
 ·go_big_quiet_skip; exact wpQuiet_nil rfl
 refine Dm.wpE_take (i := 13) (listed' := (Dm.bits 20 16383)) (by kernel_rfl) (by kernel_rfl) rfl (fun _ _ _ _ h => h) ?_; apply Exists.intro; refine And.intro (fun x => ?_) ?_
 ·go_big_quiet_skip; exact wpQuiet_nil rfl
 refine Dm.wpE_take (i := 14) (listed' := (Dm.bits 20 32767)) (by kernel_rfl) (by kernel_rfl) rfl (fun _ _ _ _ h => h) ?_; apply Exists.intro; refine And.intro (fun x => ?_) ?_
 ·go_big_quiet_skip; exact wpQuiet_nil rfl
 refine Dm.wpE_take (i := 15) (listed' := (Dm.bits 20 65535)) (by kernel_rfl) (by kernel_rfl) rfl (fun _ _ _ _ h => h) ?_; apply Exists.intro; refine And.intro (fun x => ?_) ?_
 ·go_big_quiet_skip; exact wpQuiet_nil rfl
 refine Dm.wpE_take (i := 16) (listed' := (Dm.bits 20 131071)) (by kernel_rfl) (by kernel_rfl) rfl (fun _ _ _ _ h => h) ?_; apply Exists.intro; refine And.intro (fun x => ?_) ?_
 ·go_big_quiet_skip; exact wpQuiet_nil rfl
 refine Dm.wpE_take (i := 17) (listed' := (Dm.bits 20 262143)) (by kernel_rfl) (by kernel_rfl) rfl (fun _ _ _ _ h => h) ?_; apply Exists.intro; refine And.intro (fun x => ?_) ?_
 ·go_big_quiet_skip; exact wpQuiet_nil rfl
 refine Dm.wpE_take (i := 18) (listed' := (Dm.bits 20 524287)) (by kernel_rfl) (by kernel_rfl) rfl (fun _ _ _ _ h => h) ?_; apply Exists.intro; refine And.intro (fun x => ?_) ?_
 ·go_big_quiet_skip; exact wpQuiet_nil rfl
 refine Dm.wpE_take (i := 19) (listed' := (Dm.bits 20 1048575)) (by kernel_rfl) (by kernel_rfl) rfl (fun _ _ _ _ h => h) ?_; apply Exists.intro; refine And.intro (fun x => ?_) ?_
 ·go_big_quiet_step (fail); exact wpQuiet_nil rfl
 refine Dm.wpE_done (by kernel_rfl) (Ext.refl wr) (fun w1a hx1a => ?_)
 have hX1a := Ext.trans (Ext.refl wr) hx1a
 go_wp2
 go_ret
 exact ⟨by rw [hr.out]; rfl, hE.trans hX1a⟩

end Go.Proofs.YtefjdmjkofaajaaGreatDoor
