/- Texts one behind the other: Chapter 18: an op as cells; the walk of bare; Chapter 18: the walk of slices.Equal at labels; Chapter 18: the walk of an op's same; Chapter 18: the walk of Right. -/
import Derived.Test.YtefjdmjkofaajaaGreatDoorB29
import Derived.Test.YtefjdmjkofaajaaGreatDoorB17
import Derived.Test.YtefjdmjkofaajaaGreatDoorB26
import Derived.Test.YtefjdmjkofaajaaGreatDoorB9
namespace Go.Dm
open Go Go.RowKit
/-- An op as a value; its selector and its labels are values of their own. -/
def opV (k : Int) (i n : Nat) (p : ByteArray) (D : Nat → Nat) (s : ByteArray) (E : Nat → Nat) (m : Nums3) (v l : Value) : Value := .agg #[.int .i64 k, .int .u64 (i : Nat), .int .u64 (n : Nat), .string p, .int .u64 (D 0 : Nat), .int .u64 (D 1 : Nat), .int .u64 (D 2 : Nat), .int .u64 (D 3 : Nat), .string s, .int .u64 (E 0 : Nat), .int .u64 (E 1 : Nat), .int .u64 (E 2 : Nat), .int .u64 (E 3 : Nat), .int .i64 m.1, .int .i64 m.2.1, .int .i64 m.2.2, v, l]
/-- A block that holds just these cells. -/
def RB (b : Nat) (t : TypeId) (cs : List Value) (w : World) : Prop := w.heap[b]? = some (.cells cs.toArray t (0, 0))
theorem RB.lt {b : Nat} {t : TypeId} {cs : List Value} {w : World} (h : RB b t cs w) : b < w.heap.size := (Array.getElem?_eq_some_iff.1 h).1
theorem RB.ext {b : Nat} {t : TypeId} {cs : List Value} {w w' : World} (h : RB b t cs w) (hx : Ext w w') : RB b t cs w' := Ext.heap h hx
theorem RB.new (w : World) (t : TypeId) (cs : List Value) : RB w.heap.size t cs (w.alloc (.cells cs.toArray t)) := by
 show (w.heap.push _)[w.heap.size]? = _
 simp
theorem new_row (w : World) (t : TypeId) (cs : List Value) : ∃ w', w.alloc (.cells cs.toArray t) = w' ∧ RB w.heap.size t cs w' ∧ Ext w w' ∧ w'.heap.size = w.heap.size + 1 := ⟨_, rfl, RB.new w t cs, (Ext.refl _).alloc _, World.size_alloc ..⟩
theorem RB.cell {b : Nat} {t : TypeId} {cs : List Value} {w : World} (h : RB b t cs w) (i : Nat) : w.cell? ⟨b, i, none⟩ = cs[i]? := by
 rw [cell_of_row w b i _ _ _ h]; simp
theorem RB.free {b : Nat} {t : TypeId} {cs : List Value} {w : World} (h : RB b t cs w) (i : Nat) : w.frozen? ⟨b, i, none⟩ = false := by
 simp [World.frozen?, show w.heap[b]? = _ from h]
theorem RB.set {b : Nat} {t : TypeId} {cs : List Value} {w : World} (h : RB b t cs w) (i : Nat) (u : Value) : RB b t (cs.set i u) (w.setCell ⟨b, i, none⟩ u) := by
 have h := show w.heap[b]? = _ from h
 show (w.setCell ⟨b, i, none⟩ u).heap[b]? = _
 simp only [World.setCell, Array.getElem?_modify, h]
 simp
theorem RB.far {b c i : Nat} {t : TypeId} {cs : List Value} {w : World} (h : RB b t cs w) (hbc : c ≠ b) (u : Value) : RB b t cs (w.setCell ⟨c, i, none⟩ u) := by
 have h := show w.heap[b]? = _ from h
 show (w.setCell ⟨c, i, none⟩ u).heap[b]? = _
 simp only [World.setCell, Array.getElem?_modify, if_neg hbc]
 exact h
theorem RB.setRow {b : Nat} {t : TypeId} {cs : List Value} {w : World} (h : RB b t cs w) (cs' : List Value) : RB b t cs' (w.setRow b cs'.toArray) := by
 have h := show w.heap[b]? = _ from h
 show (w.setRow b cs'.toArray).heap[b]? = _
 simp [World.setRow, Array.getElem?_modify, h]
theorem RB.farRow {b c : Nat} {t : TypeId} {cs : List Value} {w : World} (h : RB b t cs w) (hbc : c ≠ b) (cs' : Array Value) : RB b t cs (w.setRow c cs') := by
 have h := show w.heap[b]? = _ from h
 show (w.setRow c cs').heap[b]? = _
 simp only [World.setRow, Array.getElem?_modify, if_neg hbc]
 exact h
theorem set_row {b : Nat} {t : TypeId} {cs : List Value} {w : World} (h : RB b t cs w) (cs' : List Value) : ∃ w', w.setRow b cs'.toArray = w' ∧ RB b t cs' w' ∧ (∀ d t2 cs2, b ≠ d → RB d t2 cs2 w → RB d t2 cs2 w') ∧ (∀ w0, Ext w0 w → w0.heap.size ≤ b → Ext w0 w') :=
 ⟨_, rfl, h.setRow cs', fun _ _ _ hne h2 => h2.farRow hne _, fun _ hx hb => Ext.setRow hx hb _⟩
/-- An op without the fields that its kind has not. -/
def bareV (f : Fld) (k : Int) (i n : Nat) (p : ByteArray) (D : Nat → Nat) (s : ByteArray) (E : Nat → Nat) (m : Nums3) (v l : Value) : Value :=
 opV k (cond f.1 i 0) (cond f.2.1 n 0) (cond f.2.2.1 p ⟨#[]⟩) (cond f.2.2.2.1 D fun _ => 0) (cond f.2.2.2.2.1 s ⟨#[]⟩) (cond f.2.2.2.2.1 E fun _ => 0) (cond f.2.2.2.2.1 m (0, 0, 0)) (cond f.2.2.2.2.1 v (.slice none 0 0)) (cond f.2.2.2.2.2 l (.slice none 0 0))
def isFld (f : Fld) : Prop := f = (false, false, false, false, true, false) ∨ f = (true, false, false, false, false, false) ∨ f = (false, false, true, true, false, false) ∨ f = (false, true, false, false, false, false) ∨ f = (false, false, true, false, false, false) ∨ f = (false, false, false, true, false, false) ∨ f = (false, false, true, true, false, true) ∨ f = (false, false, false, false, false, false)
theorem knownF_is {z : Int} {f : Fld} (h : knownF z = some f) : isFld f := by
 simp only [knownF, putKF] at h
 unfold isFld
 by_cases e13 : z = 13
 ·rw [if_pos e13] at h
  injection h with h
  subst h
  simp
 rw [if_neg e13] at h
 by_cases e12 : z = 12
 ·rw [if_pos e12] at h
  injection h with h
  subst h
  simp
 rw [if_neg e12] at h
 by_cases e11 : z = 11
 ·rw [if_pos e11] at h
  injection h with h
  subst h
  simp
 rw [if_neg e11] at h
 by_cases e10 : z = 10
 ·rw [if_pos e10] at h
  injection h with h
  subst h
  simp
 rw [if_neg e10] at h
 by_cases e9 : z = 9
 ·rw [if_pos e9] at h
  injection h with h
  subst h
  simp
 rw [if_neg e9] at h
 by_cases e8 : z = 8
 ·rw [if_pos e8] at h
  injection h with h
  subst h
  simp
 rw [if_neg e8] at h
 by_cases e7 : z = 7
 ·rw [if_pos e7] at h
  injection h with h
  subst h
  simp
 rw [if_neg e7] at h
 by_cases e6 : z = 6
 ·rw [if_pos e6] at h
  injection h with h
  subst h
  simp
 rw [if_neg e6] at h
 by_cases e5 : z = 5
 ·rw [if_pos e5] at h
  injection h with h
  subst h
  simp
 rw [if_neg e5] at h
 by_cases e4 : z = 4
 ·rw [if_pos e4] at h
  injection h with h
  subst h
  simp
 rw [if_neg e4] at h
 by_cases e3 : z = 3
 ·rw [if_pos e3] at h
  injection h with h
  subst h
  simp
 rw [if_neg e3] at h
 by_cases e2 : z = 2
 ·rw [if_pos e2] at h
  injection h with h
  subst h
  simp
 rw [if_neg e2] at h
 by_cases e1 : z = 1
 ·rw [if_pos e1] at h
  injection h with h
  subst h
  simp
 rw [if_neg e1] at h
 cases h
end Go.Dm
namespace Go.Proofs.YtefjdmjkofaajaaGreatDoor
open Go.RowKit Go.Dm

set_option maxHeartbeats 2000000 in
set_option maxRecDepth 100000 in
theorem bare0_w (k : Int) (i n : Nat) (p : ByteArray) (D : Nat → Nat) (s : ByteArray) (E : Nat → Nat) (m : Nums3) (qv ql : Option Addr) (nv cv nl cl : Nat) (w : World) :
  Calls Tryz.prog 57 #[.agg #[.int .i64 k, .int .u64 (i : Nat), .int .u64 (n : Nat), .string p, .int .u64 (D 0 : Nat), .int .u64 (D 1 : Nat), .int .u64 (D 2 : Nat), .int .u64 (D 3 : Nat), .string s, .int .u64 (E 0 : Nat), .int .u64 (E 1 : Nat), .int .u64 (E 2 : Nat), .int .u64 (E 3 : Nat), .int .i64 m.1, .int .i64 m.2.1, .int .i64 m.2.2, .slice qv nv cv, .slice ql nl cl], .agg #[.bool false, .bool false, .bool false, .bool false, .bool true, .bool false]] w fun e w' => e = .returned (.agg #[.int .i64 k, .int .u64 0, .int .u64 0, .string ⟨#[]⟩, .int .u64 0, .int .u64 0, .int .u64 0, .int .u64 0, .string s, .int .u64 (E 0 : Nat), .int .u64 (E 1 : Nat), .int .u64 (E 2 : Nat), .int .u64 (E 3 : Nat), .int .i64 m.1, .int .i64 m.2.1, .int .i64 m.2.2, .slice qv nv cv, .slice none 0 0]) ∧ Ext w w' := by
 obtain ⟨w1, hW1, hO, hE, s1⟩ := new_row w 33 [.int .i64 k, .int .u64 (i : Nat), .int .u64 (n : Nat), .string p, .int .u64 (D 0 : Nat), .int .u64 (D 1 : Nat), .int .u64 (D 2 : Nat), .int .u64 (D 3 : Nat), .string s, .int .u64 (E 0 : Nat), .int .u64 (E 1 : Nat), .int .u64 (E 2 : Nat), .int .u64 (E 3 : Nat), .int .i64 m.1, .int .i64 m.2.1, .int .i64 m.2.2, .slice qv nv cv, .slice ql nl cl]
 obtain ⟨w2, hW2, hF, e2, s2⟩ := new_row w1 108 [.bool false, .bool false, .bool false, .bool false, .bool true, .bool false]
 obtain ⟨w3, hW3, hR, e3, s3⟩ := new_row w2 33 [.int .i64 0, .int .u64 0, .int .u64 0, .string ⟨#[]⟩, .int .u64 0, .int .u64 0, .int .u64 0, .int .u64 0, .string ⟨#[]⟩, .int .u64 0, .int .u64 0, .int .u64 0, .int .u64 0, .int .i64 0, .int .i64 0, .int .i64 0, .slice none 0 0, .slice none 0 0]
 obtain ⟨w4, hW4, hN, e4, _⟩ := new_row w3 33 [.int .i64 0, .int .u64 0, .int .u64 0, .string ⟨#[]⟩, .int .u64 0, .int .u64 0, .int .u64 0, .int .u64 0, .string ⟨#[]⟩, .int .u64 0, .int .u64 0, .int .u64 0, .int .u64 0, .int .i64 0, .int .i64 0, .int .i64 0, .slice none 0 0, .slice none 0 0]
 obtain ⟨bF, hbF⟩ : ∃ x, w1.heap.size = x := ⟨_, rfl⟩
 obtain ⟨bR, hbR⟩ : ∃ x, w2.heap.size = x := ⟨_, rfl⟩
 obtain ⟨bN, hbN⟩ : ∃ x, w3.heap.size = x := ⟨_, rfl⟩
 have q1 : w.heap.size ≤ bR ∧ bR < bN ∧ w.heap.size < bR ∧ bF < bR ∧ w.heap.size < w3.heap.size := by omega
 obtain ⟨q1, q2, q3, q4, xl⟩ := q1
 clear s1 s2 s3
 rw [hbF] at hF
 rw [hbR] at hR
 rw [hbN] at hN
 have x0 : w3.cell? ⟨w.heap.size, 0, none⟩ = some (.int .i64 k) := ((hO.ext e2).ext e3).cell 0
 replace hO := ((hO.ext e2).ext e3).ext e4
 replace hF := (hF.ext e3).ext e4
 replace hR := hR.ext e4
 replace hE := ((hE.trans e2).trans e3).trans e4
 rw [hbN] at xl
 have xl' : w.heap.size < w3.heap.size := by omega
 have x0' : w4.cell? ⟨w.heap.size, 0, none⟩ = some (.int .i64 k) := hO.cell 0
 have xl4 := hO.lt
 go_enter Tryz.func57, Tryz.ntmps57
 go_wp2_with (first | (refine wpList_store_row (cells := #[.int .i64 k, .int .u64 0, .int .u64 0, .string ⟨#[]⟩, .int .u64 0, .int .u64 0, .int .u64 0, .int .u64 0, .string ⟨#[]⟩, .int .u64 0, .int .u64 0, .int .u64 0, .int .u64 0, .int .i64 0, .int .i64 0, .int .i64 0, .slice none 0 0, .slice none 0 0]) rfl 33 _ _ rfl bN rfl rfl _ _ hN (by kernel_rfl) rfl (by first | rfl | decide | simp [Value.oneCell']) ?_; refine Hid.out ?_))
 refine Lib.hid ?_
 obtain ⟨w5, hW5, hN5, hfar, hext⟩ := set_row hN [.int .i64 k, .int .u64 0, .int .u64 0, .string ⟨#[]⟩, .int .u64 0, .int .u64 0, .int .u64 0, .int .u64 0, .string ⟨#[]⟩, .int .u64 0, .int .u64 0, .int .u64 0, .int .u64 0, .int .i64 0, .int .i64 0, .int .i64 0, .slice none 0 0, .slice none 0 0]
 have hO5 := hfar _ _ _ (by omega) hO
 have hF5 := hfar _ _ _ (by omega) hF
 have hR5 := hfar _ _ _ (by omega) hR
 have hE5 := hext _ hE (by omega)
 clear hW1 hW2 hW3 hW4 hbF hbR hbN x0 x0' xl xl' xl4 hN hO hF hR hE e2 e3 e4 hfar hext
 rw [hW5]
 clear hW5
 obtain ⟨bO, hbO⟩ : ∃ x, x = w.heap.size := ⟨_, rfl⟩
 rw [← hbO] at hO5 q3
 rw [← hbO]
 clear hbO
 have hN := hN5
 have hO := hO5
 have hR := hR5
 have hE := hE5
 clear hN5 hO5 hR5 hE5
 have f0 := hF5.cell 0
 have f1 := hF5.cell 1
 have f2 := hF5.cell 2
 have f3 := hF5.cell 3
 have f4 := hF5.cell 4
 have f5 := hF5.cell 5
 simp only [List.getElem?_cons_zero, List.getElem?_cons_succ] at f0 f1 f2 f3 f4 f5
 have fl := hF5.lt
 have bol := hO.lt
 have bnl := hN.lt
 have x8 : w5.cell? ⟨bO, 8, none⟩ = some (.string s) := hO.cell 8
 have x9 : w5.cell? ⟨bO, 9, none⟩ = some (.int .u64 (E 0 : Nat)) := hO.cell 9
 have x10 : w5.cell? ⟨bO, 10, none⟩ = some (.int .u64 (E 1 : Nat)) := hO.cell 10
 have x11 : w5.cell? ⟨bO, 11, none⟩ = some (.int .u64 (E 2 : Nat)) := hO.cell 11
 have x12 : w5.cell? ⟨bO, 12, none⟩ = some (.int .u64 (E 3 : Nat)) := hO.cell 12
 have x13 : w5.cell? ⟨bO, 13, none⟩ = some (.int .i64 m.1) := hO.cell 13
 have x14 : w5.cell? ⟨bO, 14, none⟩ = some (.int .i64 m.2.1) := hO.cell 14
 have x15 : w5.cell? ⟨bO, 15, none⟩ = some (.int .i64 m.2.2) := hO.cell 15
 have x16 : w5.cell? ⟨bO, 16, none⟩ = some (.slice qv nv cv) := hO.cell 16
 have y8 : w5.cell? ⟨bN, 8, none⟩ = some (.string ⟨#[]⟩) := hN.cell 8
 have yf8 := hN.free 8
 have y9 : w5.cell? ⟨bN, 9, none⟩ = some (.int .u64 0) := hN.cell 9
 have yf9 := hN.free 9
 have y10 : w5.cell? ⟨bN, 10, none⟩ = some (.int .u64 0) := hN.cell 10
 have yf10 := hN.free 10
 have y11 : w5.cell? ⟨bN, 11, none⟩ = some (.int .u64 0) := hN.cell 11
 have yf11 := hN.free 11
 have y12 : w5.cell? ⟨bN, 12, none⟩ = some (.int .u64 0) := hN.cell 12
 have yf12 := hN.free 12
 have y13 : w5.cell? ⟨bN, 13, none⟩ = some (.int .i64 0) := hN.cell 13
 have yf13 := hN.free 13
 have y14 : w5.cell? ⟨bN, 14, none⟩ = some (.int .i64 0) := hN.cell 14
 have yf14 := hN.free 14
 have y15 : w5.cell? ⟨bN, 15, none⟩ = some (.int .i64 0) := hN.cell 15
 have yf15 := hN.free 15
 have y16 : w5.cell? ⟨bN, 16, none⟩ = some (.slice none 0 0) := hN.cell 16
 have yf16 := hN.free 16
 go_upto_region 14 with fail
 clear x8 y8 yf8 x9 y9 yf9 x10 y10 yf10 x11 y11 yf11 x12 y12 yf12 x13 y13 yf13 x14 y14 yf14 x15 y15 yf15 x16 y16 yf16
 clear f0 f1 f2 f3 f4 f5 fl bol bnl hF5 hO
 have hN6 : RB bN 33 [.int .i64 k, .int .u64 0, .int .u64 0, .string ⟨#[]⟩, .int .u64 0, .int .u64 0, .int .u64 0, .int .u64 0, .string s, .int .u64 (E 0 : Nat), .int .u64 (E 1 : Nat), .int .u64 (E 2 : Nat), .int .u64 (E 3 : Nat), .int .i64 m.1, .int .i64 m.2.1, .int .i64 m.2.2, .slice qv nv cv, .slice none 0 0] (((((((((w5.setCell ⟨bN, 8, none⟩ (.string s)).setCell ⟨bN, 9, none⟩ (.int .u64 (E 0 : Nat))).setCell ⟨bN, 10, none⟩ (.int .u64 (E 1 : Nat))).setCell ⟨bN, 11, none⟩ (.int .u64 (E 2 : Nat))).setCell ⟨bN, 12, none⟩ (.int .u64 (E 3 : Nat))).setCell ⟨bN, 13, none⟩ (.int .i64 m.1)).setCell ⟨bN, 14, none⟩ (.int .i64 m.2.1)).setCell ⟨bN, 15, none⟩ (.int .i64 m.2.2)).setCell ⟨bN, 16, none⟩ (.slice qv nv cv)) := (((((((((hN.set 8 (.string s)).set 9 (.int .u64 (E 0 : Nat))).set 10 (.int .u64 (E 1 : Nat))).set 11 (.int .u64 (E 2 : Nat))).set 12 (.int .u64 (E 3 : Nat))).set 13 (.int .i64 m.1)).set 14 (.int .i64 m.2.1)).set 15 (.int .i64 m.2.2)).set 16 (.slice qv nv cv))
 have hR6 : RB bR 33 [.int .i64 0, .int .u64 0, .int .u64 0, .string ⟨#[]⟩, .int .u64 0, .int .u64 0, .int .u64 0, .int .u64 0, .string ⟨#[]⟩, .int .u64 0, .int .u64 0, .int .u64 0, .int .u64 0, .int .i64 0, .int .i64 0, .int .i64 0, .slice none 0 0, .slice none 0 0] (((((((((w5.setCell ⟨bN, 8, none⟩ (.string s)).setCell ⟨bN, 9, none⟩ (.int .u64 (E 0 : Nat))).setCell ⟨bN, 10, none⟩ (.int .u64 (E 1 : Nat))).setCell ⟨bN, 11, none⟩ (.int .u64 (E 2 : Nat))).setCell ⟨bN, 12, none⟩ (.int .u64 (E 3 : Nat))).setCell ⟨bN, 13, none⟩ (.int .i64 m.1)).setCell ⟨bN, 14, none⟩ (.int .i64 m.2.1)).setCell ⟨bN, 15, none⟩ (.int .i64 m.2.2)).setCell ⟨bN, 16, none⟩ (.slice qv nv cv)) := (((((((((hR.far (c := bN) (i := 8) (by omega) (.string s)).far (c := bN) (i := 9) (by omega) (.int .u64 (E 0 : Nat))).far (c := bN) (i := 10) (by omega) (.int .u64 (E 1 : Nat))).far (c := bN) (i := 11) (by omega) (.int .u64 (E 2 : Nat))).far (c := bN) (i := 12) (by omega) (.int .u64 (E 3 : Nat))).far (c := bN) (i := 13) (by omega) (.int .i64 m.1)).far (c := bN) (i := 14) (by omega) (.int .i64 m.2.1)).far (c := bN) (i := 15) (by omega) (.int .i64 m.2.2)).far (c := bN) (i := 16) (by omega) (.slice qv nv cv))
 have hE6 : Ext w (((((((((w5.setCell ⟨bN, 8, none⟩ (.string s)).setCell ⟨bN, 9, none⟩ (.int .u64 (E 0 : Nat))).setCell ⟨bN, 10, none⟩ (.int .u64 (E 1 : Nat))).setCell ⟨bN, 11, none⟩ (.int .u64 (E 2 : Nat))).setCell ⟨bN, 12, none⟩ (.int .u64 (E 3 : Nat))).setCell ⟨bN, 13, none⟩ (.int .i64 m.1)).setCell ⟨bN, 14, none⟩ (.int .i64 m.2.1)).setCell ⟨bN, 15, none⟩ (.int .i64 m.2.2)).setCell ⟨bN, 16, none⟩ (.slice qv nv cv)) := (Below.setCell (Below.setCell (Below.setCell (Below.setCell (Below.setCell (Below.setCell (Below.setCell (Below.setCell (Below.setCell hE (p := ⟨bN, 8, none⟩) (by show _ ≤ bN; omega) (.string s)) (p := ⟨bN, 9, none⟩) (by show _ ≤ bN; omega) (.int .u64 (E 0 : Nat))) (p := ⟨bN, 10, none⟩) (by show _ ≤ bN; omega) (.int .u64 (E 1 : Nat))) (p := ⟨bN, 11, none⟩) (by show _ ≤ bN; omega) (.int .u64 (E 2 : Nat))) (p := ⟨bN, 12, none⟩) (by show _ ≤ bN; omega) (.int .u64 (E 3 : Nat))) (p := ⟨bN, 13, none⟩) (by show _ ≤ bN; omega) (.int .i64 m.1)) (p := ⟨bN, 14, none⟩) (by show _ ≤ bN; omega) (.int .i64 m.2.1)) (p := ⟨bN, 15, none⟩) (by show _ ≤ bN; omega) (.int .i64 m.2.2)) (p := ⟨bN, 16, none⟩) (by show _ ≤ bN; omega) (.slice qv nv cv))
 clear hN hR hE
 generalize (((((((((w5.setCell ⟨bN, 8, none⟩ (.string s)).setCell ⟨bN, 9, none⟩ (.int .u64 (E 0 : Nat))).setCell ⟨bN, 10, none⟩ (.int .u64 (E 1 : Nat))).setCell ⟨bN, 11, none⟩ (.int .u64 (E 2 : Nat))).setCell ⟨bN, 12, none⟩ (.int .u64 (E 3 : Nat))).setCell ⟨bN, 13, none⟩ (.int .i64 m.1)).setCell ⟨bN, 14, none⟩ (.int .i64 m.2.1)).setCell ⟨bN, 15, none⟩ (.int .i64 m.2.2)).setCell ⟨bN, 16, none⟩ (.slice qv nv cv)) = w6 at *
 have hZ := hR6.setRow [.int .i64 k, .int .u64 0, .int .u64 0, .string ⟨#[]⟩, .int .u64 0, .int .u64 0, .int .u64 0, .int .u64 0, .string s, .int .u64 (E 0 : Nat), .int .u64 (E 1 : Nat), .int .u64 (E 2 : Nat), .int .u64 (E 3 : Nat), .int .i64 m.1, .int .i64 m.2.1, .int .i64 m.2.2, .slice qv nv cv, .slice none 0 0]
 have hE7 : Ext w (w6.setRow bR #[.int .i64 k, .int .u64 0, .int .u64 0, .string ⟨#[]⟩, .int .u64 0, .int .u64 0, .int .u64 0, .int .u64 0, .string s, .int .u64 (E 0 : Nat), .int .u64 (E 1 : Nat), .int .u64 (E 2 : Nat), .int .u64 (E 3 : Nat), .int .i64 m.1, .int .i64 m.2.1, .int .i64 m.2.2, .slice qv nv cv, .slice none 0 0]) := Ext.setRow hE6 q1 _
 go_wp2_with (first | (refine wpList_load_row rfl 33 _ rfl bN rfl _ _ _ _ hN6 Tryz.underlying33 rfl (by kernel_rfl) ?_) | (refine wpList_store_row (cells := #[.int .i64 k, .int .u64 0, .int .u64 0, .string ⟨#[]⟩, .int .u64 0, .int .u64 0, .int .u64 0, .int .u64 0, .string s, .int .u64 (E 0 : Nat), .int .u64 (E 1 : Nat), .int .u64 (E 2 : Nat), .int .u64 (E 3 : Nat), .int .i64 m.1, .int .i64 m.2.1, .int .i64 m.2.2, .slice qv nv cv, .slice none 0 0]) rfl 33 _ _ rfl bR rfl rfl _ _ hR6 (by kernel_rfl) rfl (by first | rfl | decide | simp [Value.oneCell']) ?_))
 refine bodyPost_ret (results_cell_row rfl _ _ _ _ _ _ _ rfl hZ Tryz.underlying33 rfl (by kernel_rfl)) rfl ?_
 exact ⟨rfl, hE7⟩

set_option maxHeartbeats 2000000 in
set_option maxRecDepth 100000 in
theorem bare1_w (k : Int) (i n : Nat) (p : ByteArray) (D : Nat → Nat) (s : ByteArray) (E : Nat → Nat) (m : Nums3) (qv ql : Option Addr) (nv cv nl cl : Nat) (w : World) :
  Calls Tryz.prog 57 #[.agg #[.int .i64 k, .int .u64 (i : Nat), .int .u64 (n : Nat), .string p, .int .u64 (D 0 : Nat), .int .u64 (D 1 : Nat), .int .u64 (D 2 : Nat), .int .u64 (D 3 : Nat), .string s, .int .u64 (E 0 : Nat), .int .u64 (E 1 : Nat), .int .u64 (E 2 : Nat), .int .u64 (E 3 : Nat), .int .i64 m.1, .int .i64 m.2.1, .int .i64 m.2.2, .slice qv nv cv, .slice ql nl cl], .agg #[.bool true, .bool false, .bool false, .bool false, .bool false, .bool false]] w fun e w' => e = .returned (.agg #[.int .i64 k, .int .u64 (i : Nat), .int .u64 0, .string ⟨#[]⟩, .int .u64 0, .int .u64 0, .int .u64 0, .int .u64 0, .string ⟨#[]⟩, .int .u64 0, .int .u64 0, .int .u64 0, .int .u64 0, .int .i64 0, .int .i64 0, .int .i64 0, .slice none 0 0, .slice none 0 0]) ∧ Ext w w' := by
 obtain ⟨w1, hW1, hO, hE, s1⟩ := new_row w 33 [.int .i64 k, .int .u64 (i : Nat), .int .u64 (n : Nat), .string p, .int .u64 (D 0 : Nat), .int .u64 (D 1 : Nat), .int .u64 (D 2 : Nat), .int .u64 (D 3 : Nat), .string s, .int .u64 (E 0 : Nat), .int .u64 (E 1 : Nat), .int .u64 (E 2 : Nat), .int .u64 (E 3 : Nat), .int .i64 m.1, .int .i64 m.2.1, .int .i64 m.2.2, .slice qv nv cv, .slice ql nl cl]
 obtain ⟨w2, hW2, hF, e2, s2⟩ := new_row w1 108 [.bool true, .bool false, .bool false, .bool false, .bool false, .bool false]
 obtain ⟨w3, hW3, hR, e3, s3⟩ := new_row w2 33 [.int .i64 0, .int .u64 0, .int .u64 0, .string ⟨#[]⟩, .int .u64 0, .int .u64 0, .int .u64 0, .int .u64 0, .string ⟨#[]⟩, .int .u64 0, .int .u64 0, .int .u64 0, .int .u64 0, .int .i64 0, .int .i64 0, .int .i64 0, .slice none 0 0, .slice none 0 0]
 obtain ⟨w4, hW4, hN, e4, _⟩ := new_row w3 33 [.int .i64 0, .int .u64 0, .int .u64 0, .string ⟨#[]⟩, .int .u64 0, .int .u64 0, .int .u64 0, .int .u64 0, .string ⟨#[]⟩, .int .u64 0, .int .u64 0, .int .u64 0, .int .u64 0, .int .i64 0, .int .i64 0, .int .i64 0, .slice none 0 0, .slice none 0 0]
 obtain ⟨bF, hbF⟩ : ∃ x, w1.heap.size = x := ⟨_, rfl⟩
 obtain ⟨bR, hbR⟩ : ∃ x, w2.heap.size = x := ⟨_, rfl⟩
 obtain ⟨bN, hbN⟩ : ∃ x, w3.heap.size = x := ⟨_, rfl⟩
 have q1 : w.heap.size ≤ bR ∧ bR < bN ∧ w.heap.size < bR ∧ bF < bR ∧ w.heap.size < w3.heap.size := by omega
 obtain ⟨q1, q2, q3, q4, xl⟩ := q1
 clear s1 s2 s3
 rw [hbF] at hF
 rw [hbR] at hR
 rw [hbN] at hN
 have x0 : w3.cell? ⟨w.heap.size, 0, none⟩ = some (.int .i64 k) := ((hO.ext e2).ext e3).cell 0
 replace hO := ((hO.ext e2).ext e3).ext e4
 replace hF := (hF.ext e3).ext e4
 replace hR := hR.ext e4
 replace hE := ((hE.trans e2).trans e3).trans e4
 rw [hbN] at xl
 have xl' : w.heap.size < w3.heap.size := by omega
 have x0' : w4.cell? ⟨w.heap.size, 0, none⟩ = some (.int .i64 k) := hO.cell 0
 have xl4 := hO.lt
 go_enter Tryz.func57, Tryz.ntmps57
 go_wp2_with (first | (refine wpList_store_row (cells := #[.int .i64 k, .int .u64 0, .int .u64 0, .string ⟨#[]⟩, .int .u64 0, .int .u64 0, .int .u64 0, .int .u64 0, .string ⟨#[]⟩, .int .u64 0, .int .u64 0, .int .u64 0, .int .u64 0, .int .i64 0, .int .i64 0, .int .i64 0, .slice none 0 0, .slice none 0 0]) rfl 33 _ _ rfl bN rfl rfl _ _ hN (by kernel_rfl) rfl (by first | rfl | decide | simp [Value.oneCell']) ?_; refine Hid.out ?_))
 refine Lib.hid ?_
 obtain ⟨w5, hW5, hN5, hfar, hext⟩ := set_row hN [.int .i64 k, .int .u64 0, .int .u64 0, .string ⟨#[]⟩, .int .u64 0, .int .u64 0, .int .u64 0, .int .u64 0, .string ⟨#[]⟩, .int .u64 0, .int .u64 0, .int .u64 0, .int .u64 0, .int .i64 0, .int .i64 0, .int .i64 0, .slice none 0 0, .slice none 0 0]
 have hO5 := hfar _ _ _ (by omega) hO
 have hF5 := hfar _ _ _ (by omega) hF
 have hR5 := hfar _ _ _ (by omega) hR
 have hE5 := hext _ hE (by omega)
 clear hW1 hW2 hW3 hW4 hbF hbR hbN x0 x0' xl xl' xl4 hN hO hF hR hE e2 e3 e4 hfar hext
 rw [hW5]
 clear hW5
 obtain ⟨bO, hbO⟩ : ∃ x, x = w.heap.size := ⟨_, rfl⟩
 rw [← hbO] at hO5 q3
 rw [← hbO]
 clear hbO
 have hN := hN5
 have hO := hO5
 have hR := hR5
 have hE := hE5
 clear hN5 hO5 hR5 hE5
 have f0 := hF5.cell 0
 have f1 := hF5.cell 1
 have f2 := hF5.cell 2
 have f3 := hF5.cell 3
 have f4 := hF5.cell 4
 have f5 := hF5.cell 5
 simp only [List.getElem?_cons_zero, List.getElem?_cons_succ] at f0 f1 f2 f3 f4 f5
 have fl := hF5.lt
 have bol := hO.lt
 have bnl := hN.lt
 have x1 : w5.cell? ⟨bO, 1, none⟩ = some (.int .u64 (i : Nat)) := hO.cell 1
 have y1 : w5.cell? ⟨bN, 1, none⟩ = some (.int .u64 0) := hN.cell 1
 have yf1 := hN.free 1
 go_upto_region 14 with fail
 clear x1 y1 yf1
 clear f0 f1 f2 f3 f4 f5 fl bol bnl hF5 hO
 have hN6 : RB bN 33 [.int .i64 k, .int .u64 (i : Nat), .int .u64 0, .string ⟨#[]⟩, .int .u64 0, .int .u64 0, .int .u64 0, .int .u64 0, .string ⟨#[]⟩, .int .u64 0, .int .u64 0, .int .u64 0, .int .u64 0, .int .i64 0, .int .i64 0, .int .i64 0, .slice none 0 0, .slice none 0 0] (w5.setCell ⟨bN, 1, none⟩ (.int .u64 (i : Nat))) := (hN.set 1 (.int .u64 (i : Nat)))
 have hR6 : RB bR 33 [.int .i64 0, .int .u64 0, .int .u64 0, .string ⟨#[]⟩, .int .u64 0, .int .u64 0, .int .u64 0, .int .u64 0, .string ⟨#[]⟩, .int .u64 0, .int .u64 0, .int .u64 0, .int .u64 0, .int .i64 0, .int .i64 0, .int .i64 0, .slice none 0 0, .slice none 0 0] (w5.setCell ⟨bN, 1, none⟩ (.int .u64 (i : Nat))) := (hR.far (c := bN) (i := 1) (by omega) (.int .u64 (i : Nat)))
 have hE6 : Ext w (w5.setCell ⟨bN, 1, none⟩ (.int .u64 (i : Nat))) := (Below.setCell hE (p := ⟨bN, 1, none⟩) (by show _ ≤ bN; omega) (.int .u64 (i : Nat)))
 clear hN hR hE
 generalize (w5.setCell ⟨bN, 1, none⟩ (.int .u64 (i : Nat))) = w6 at *
 have hZ := hR6.setRow [.int .i64 k, .int .u64 (i : Nat), .int .u64 0, .string ⟨#[]⟩, .int .u64 0, .int .u64 0, .int .u64 0, .int .u64 0, .string ⟨#[]⟩, .int .u64 0, .int .u64 0, .int .u64 0, .int .u64 0, .int .i64 0, .int .i64 0, .int .i64 0, .slice none 0 0, .slice none 0 0]
 have hE7 : Ext w (w6.setRow bR #[.int .i64 k, .int .u64 (i : Nat), .int .u64 0, .string ⟨#[]⟩, .int .u64 0, .int .u64 0, .int .u64 0, .int .u64 0, .string ⟨#[]⟩, .int .u64 0, .int .u64 0, .int .u64 0, .int .u64 0, .int .i64 0, .int .i64 0, .int .i64 0, .slice none 0 0, .slice none 0 0]) := Ext.setRow hE6 q1 _
 go_wp2_with (first | (refine wpList_load_row rfl 33 _ rfl bN rfl _ _ _ _ hN6 Tryz.underlying33 rfl (by kernel_rfl) ?_) | (refine wpList_store_row (cells := #[.int .i64 k, .int .u64 (i : Nat), .int .u64 0, .string ⟨#[]⟩, .int .u64 0, .int .u64 0, .int .u64 0, .int .u64 0, .string ⟨#[]⟩, .int .u64 0, .int .u64 0, .int .u64 0, .int .u64 0, .int .i64 0, .int .i64 0, .int .i64 0, .slice none 0 0, .slice none 0 0]) rfl 33 _ _ rfl bR rfl rfl _ _ hR6 (by kernel_rfl) rfl (by first | rfl | decide | simp [Value.oneCell']) ?_))
 refine bodyPost_ret (results_cell_row rfl _ _ _ _ _ _ _ rfl hZ Tryz.underlying33 rfl (by kernel_rfl)) rfl ?_
 exact ⟨rfl, hE7⟩

set_option maxHeartbeats 2000000 in
set_option maxRecDepth 100000 in
theorem bare2_w (k : Int) (i n : Nat) (p : ByteArray) (D : Nat → Nat) (s : ByteArray) (E : Nat → Nat) (m : Nums3) (qv ql : Option Addr) (nv cv nl cl : Nat) (w : World) :
  Calls Tryz.prog 57 #[.agg #[.int .i64 k, .int .u64 (i : Nat), .int .u64 (n : Nat), .string p, .int .u64 (D 0 : Nat), .int .u64 (D 1 : Nat), .int .u64 (D 2 : Nat), .int .u64 (D 3 : Nat), .string s, .int .u64 (E 0 : Nat), .int .u64 (E 1 : Nat), .int .u64 (E 2 : Nat), .int .u64 (E 3 : Nat), .int .i64 m.1, .int .i64 m.2.1, .int .i64 m.2.2, .slice qv nv cv, .slice ql nl cl], .agg #[.bool false, .bool false, .bool true, .bool true, .bool false, .bool false]] w fun e w' => e = .returned (.agg #[.int .i64 k, .int .u64 0, .int .u64 0, .string p, .int .u64 (D 0 : Nat), .int .u64 (D 1 : Nat), .int .u64 (D 2 : Nat), .int .u64 (D 3 : Nat), .string ⟨#[]⟩, .int .u64 0, .int .u64 0, .int .u64 0, .int .u64 0, .int .i64 0, .int .i64 0, .int .i64 0, .slice none 0 0, .slice none 0 0]) ∧ Ext w w' := by
 obtain ⟨w1, hW1, hO, hE, s1⟩ := new_row w 33 [.int .i64 k, .int .u64 (i : Nat), .int .u64 (n : Nat), .string p, .int .u64 (D 0 : Nat), .int .u64 (D 1 : Nat), .int .u64 (D 2 : Nat), .int .u64 (D 3 : Nat), .string s, .int .u64 (E 0 : Nat), .int .u64 (E 1 : Nat), .int .u64 (E 2 : Nat), .int .u64 (E 3 : Nat), .int .i64 m.1, .int .i64 m.2.1, .int .i64 m.2.2, .slice qv nv cv, .slice ql nl cl]
 obtain ⟨w2, hW2, hF, e2, s2⟩ := new_row w1 108 [.bool false, .bool false, .bool true, .bool true, .bool false, .bool false]
 obtain ⟨w3, hW3, hR, e3, s3⟩ := new_row w2 33 [.int .i64 0, .int .u64 0, .int .u64 0, .string ⟨#[]⟩, .int .u64 0, .int .u64 0, .int .u64 0, .int .u64 0, .string ⟨#[]⟩, .int .u64 0, .int .u64 0, .int .u64 0, .int .u64 0, .int .i64 0, .int .i64 0, .int .i64 0, .slice none 0 0, .slice none 0 0]
 obtain ⟨w4, hW4, hN, e4, _⟩ := new_row w3 33 [.int .i64 0, .int .u64 0, .int .u64 0, .string ⟨#[]⟩, .int .u64 0, .int .u64 0, .int .u64 0, .int .u64 0, .string ⟨#[]⟩, .int .u64 0, .int .u64 0, .int .u64 0, .int .u64 0, .int .i64 0, .int .i64 0, .int .i64 0, .slice none 0 0, .slice none 0 0]
 obtain ⟨bF, hbF⟩ : ∃ x, w1.heap.size = x := ⟨_, rfl⟩
 obtain ⟨bR, hbR⟩ : ∃ x, w2.heap.size = x := ⟨_, rfl⟩
 obtain ⟨bN, hbN⟩ : ∃ x, w3.heap.size = x := ⟨_, rfl⟩
 have q1 : w.heap.size ≤ bR ∧ bR < bN ∧ w.heap.size < bR ∧ bF < bR ∧ w.heap.size < w3.heap.size := by omega
 obtain ⟨q1, q2, q3, q4, xl⟩ := q1
 clear s1 s2 s3
 rw [hbF] at hF
 rw [hbR] at hR
 rw [hbN] at hN
 have x0 : w3.cell? ⟨w.heap.size, 0, none⟩ = some (.int .i64 k) := ((hO.ext e2).ext e3).cell 0
 replace hO := ((hO.ext e2).ext e3).ext e4
 replace hF := (hF.ext e3).ext e4
 replace hR := hR.ext e4
 replace hE := ((hE.trans e2).trans e3).trans e4
 rw [hbN] at xl
 have xl' : w.heap.size < w3.heap.size := by omega
 have x0' : w4.cell? ⟨w.heap.size, 0, none⟩ = some (.int .i64 k) := hO.cell 0
 have xl4 := hO.lt
 go_enter Tryz.func57, Tryz.ntmps57
 go_wp2_with (first | (refine wpList_store_row (cells := #[.int .i64 k, .int .u64 0, .int .u64 0, .string ⟨#[]⟩, .int .u64 0, .int .u64 0, .int .u64 0, .int .u64 0, .string ⟨#[]⟩, .int .u64 0, .int .u64 0, .int .u64 0, .int .u64 0, .int .i64 0, .int .i64 0, .int .i64 0, .slice none 0 0, .slice none 0 0]) rfl 33 _ _ rfl bN rfl rfl _ _ hN (by kernel_rfl) rfl (by first | rfl | decide | simp [Value.oneCell']) ?_; refine Hid.out ?_))
 refine Lib.hid ?_
 obtain ⟨w5, hW5, hN5, hfar, hext⟩ := set_row hN [.int .i64 k, .int .u64 0, .int .u64 0, .string ⟨#[]⟩, .int .u64 0, .int .u64 0, .int .u64 0, .int .u64 0, .string ⟨#[]⟩, .int .u64 0, .int .u64 0, .int .u64 0, .int .u64 0, .int .i64 0, .int .i64 0, .int .i64 0, .slice none 0 0, .slice none 0 0]
 have hO5 := hfar _ _ _ (by omega) hO
 have hF5 := hfar _ _ _ (by omega) hF
 have hR5 := hfar _ _ _ (by omega) hR
 have hE5 := hext _ hE (by omega)
 clear hW1 hW2 hW3 hW4 hbF hbR hbN x0 x0' xl xl' xl4 hN hO hF hR hE e2 e3 e4 hfar hext
 rw [hW5]
 clear hW5
 obtain ⟨bO, hbO⟩ : ∃ x, x = w.heap.size := ⟨_, rfl⟩
 rw [← hbO] at hO5 q3
 rw [← hbO]
 clear hbO
 have hN := hN5
 have hO := hO5
 have hR := hR5
 have hE := hE5
 clear hN5 hO5 hR5 hE5
 have f0 := hF5.cell 0
 have f1 := hF5.cell 1
 have f2 := hF5.cell 2
 have f3 := hF5.cell 3
 have f4 := hF5.cell 4
 have f5 := hF5.cell 5
 simp only [List.getElem?_cons_zero, List.getElem?_cons_succ] at f0 f1 f2 f3 f4 f5
 have fl := hF5.lt
 have bol := hO.lt
 have bnl := hN.lt
 have x3 : w5.cell? ⟨bO, 3, none⟩ = some (.string p) := hO.cell 3
 have x4 : w5.cell? ⟨bO, 4, none⟩ = some (.int .u64 (D 0 : Nat)) := hO.cell 4
 have x5 : w5.cell? ⟨bO, 5, none⟩ = some (.int .u64 (D 1 : Nat)) := hO.cell 5
 have x6 : w5.cell? ⟨bO, 6, none⟩ = some (.int .u64 (D 2 : Nat)) := hO.cell 6
 have x7 : w5.cell? ⟨bO, 7, none⟩ = some (.int .u64 (D 3 : Nat)) := hO.cell 7
 have y3 : w5.cell? ⟨bN, 3, none⟩ = some (.string ⟨#[]⟩) := hN.cell 3
 have yf3 := hN.free 3
 have y4 : w5.cell? ⟨bN, 4, none⟩ = some (.int .u64 0) := hN.cell 4
 have yf4 := hN.free 4
 have y5 : w5.cell? ⟨bN, 5, none⟩ = some (.int .u64 0) := hN.cell 5
 have yf5 := hN.free 5
 have y6 : w5.cell? ⟨bN, 6, none⟩ = some (.int .u64 0) := hN.cell 6
 have yf6 := hN.free 6
 have y7 : w5.cell? ⟨bN, 7, none⟩ = some (.int .u64 0) := hN.cell 7
 have yf7 := hN.free 7
 go_upto_region 14 with fail
 clear x3 y3 yf3 x4 y4 yf4 x5 y5 yf5 x6 y6 yf6 x7 y7 yf7
 clear f0 f1 f2 f3 f4 f5 fl bol bnl hF5 hO
 have hN6 : RB bN 33 [.int .i64 k, .int .u64 0, .int .u64 0, .string p, .int .u64 (D 0 : Nat), .int .u64 (D 1 : Nat), .int .u64 (D 2 : Nat), .int .u64 (D 3 : Nat), .string ⟨#[]⟩, .int .u64 0, .int .u64 0, .int .u64 0, .int .u64 0, .int .i64 0, .int .i64 0, .int .i64 0, .slice none 0 0, .slice none 0 0] (((((w5.setCell ⟨bN, 3, none⟩ (.string p)).setCell ⟨bN, 4, none⟩ (.int .u64 (D 0 : Nat))).setCell ⟨bN, 5, none⟩ (.int .u64 (D 1 : Nat))).setCell ⟨bN, 6, none⟩ (.int .u64 (D 2 : Nat))).setCell ⟨bN, 7, none⟩ (.int .u64 (D 3 : Nat))) := (((((hN.set 3 (.string p)).set 4 (.int .u64 (D 0 : Nat))).set 5 (.int .u64 (D 1 : Nat))).set 6 (.int .u64 (D 2 : Nat))).set 7 (.int .u64 (D 3 : Nat)))
 have hR6 : RB bR 33 [.int .i64 0, .int .u64 0, .int .u64 0, .string ⟨#[]⟩, .int .u64 0, .int .u64 0, .int .u64 0, .int .u64 0, .string ⟨#[]⟩, .int .u64 0, .int .u64 0, .int .u64 0, .int .u64 0, .int .i64 0, .int .i64 0, .int .i64 0, .slice none 0 0, .slice none 0 0] (((((w5.setCell ⟨bN, 3, none⟩ (.string p)).setCell ⟨bN, 4, none⟩ (.int .u64 (D 0 : Nat))).setCell ⟨bN, 5, none⟩ (.int .u64 (D 1 : Nat))).setCell ⟨bN, 6, none⟩ (.int .u64 (D 2 : Nat))).setCell ⟨bN, 7, none⟩ (.int .u64 (D 3 : Nat))) := (((((hR.far (c := bN) (i := 3) (by omega) (.string p)).far (c := bN) (i := 4) (by omega) (.int .u64 (D 0 : Nat))).far (c := bN) (i := 5) (by omega) (.int .u64 (D 1 : Nat))).far (c := bN) (i := 6) (by omega) (.int .u64 (D 2 : Nat))).far (c := bN) (i := 7) (by omega) (.int .u64 (D 3 : Nat)))
 have hE6 : Ext w (((((w5.setCell ⟨bN, 3, none⟩ (.string p)).setCell ⟨bN, 4, none⟩ (.int .u64 (D 0 : Nat))).setCell ⟨bN, 5, none⟩ (.int .u64 (D 1 : Nat))).setCell ⟨bN, 6, none⟩ (.int .u64 (D 2 : Nat))).setCell ⟨bN, 7, none⟩ (.int .u64 (D 3 : Nat))) := (Below.setCell (Below.setCell (Below.setCell (Below.setCell (Below.setCell hE (p := ⟨bN, 3, none⟩) (by show _ ≤ bN; omega) (.string p)) (p := ⟨bN, 4, none⟩) (by show _ ≤ bN; omega) (.int .u64 (D 0 : Nat))) (p := ⟨bN, 5, none⟩) (by show _ ≤ bN; omega) (.int .u64 (D 1 : Nat))) (p := ⟨bN, 6, none⟩) (by show _ ≤ bN; omega) (.int .u64 (D 2 : Nat))) (p := ⟨bN, 7, none⟩) (by show _ ≤ bN; omega) (.int .u64 (D 3 : Nat)))
 clear hN hR hE
 generalize (((((w5.setCell ⟨bN, 3, none⟩ (.string p)).setCell ⟨bN, 4, none⟩ (.int .u64 (D 0 : Nat))).setCell ⟨bN, 5, none⟩ (.int .u64 (D 1 : Nat))).setCell ⟨bN, 6, none⟩ (.int .u64 (D 2 : Nat))).setCell ⟨bN, 7, none⟩ (.int .u64 (D 3 : Nat))) = w6 at *
 have hZ := hR6.setRow [.int .i64 k, .int .u64 0, .int .u64 0, .string p, .int .u64 (D 0 : Nat), .int .u64 (D 1 : Nat), .int .u64 (D 2 : Nat), .int .u64 (D 3 : Nat), .string ⟨#[]⟩, .int .u64 0, .int .u64 0, .int .u64 0, .int .u64 0, .int .i64 0, .int .i64 0, .int .i64 0, .slice none 0 0, .slice none 0 0]
 have hE7 : Ext w (w6.setRow bR #[.int .i64 k, .int .u64 0, .int .u64 0, .string p, .int .u64 (D 0 : Nat), .int .u64 (D 1 : Nat), .int .u64 (D 2 : Nat), .int .u64 (D 3 : Nat), .string ⟨#[]⟩, .int .u64 0, .int .u64 0, .int .u64 0, .int .u64 0, .int .i64 0, .int .i64 0, .int .i64 0, .slice none 0 0, .slice none 0 0]) := Ext.setRow hE6 q1 _
 go_wp2_with (first | (refine wpList_load_row rfl 33 _ rfl bN rfl _ _ _ _ hN6 Tryz.underlying33 rfl (by kernel_rfl) ?_) | (refine wpList_store_row (cells := #[.int .i64 k, .int .u64 0, .int .u64 0, .string p, .int .u64 (D 0 : Nat), .int .u64 (D 1 : Nat), .int .u64 (D 2 : Nat), .int .u64 (D 3 : Nat), .string ⟨#[]⟩, .int .u64 0, .int .u64 0, .int .u64 0, .int .u64 0, .int .i64 0, .int .i64 0, .int .i64 0, .slice none 0 0, .slice none 0 0]) rfl 33 _ _ rfl bR rfl rfl _ _ hR6 (by kernel_rfl) rfl (by first | rfl | decide | simp [Value.oneCell']) ?_))
 refine bodyPost_ret (results_cell_row rfl _ _ _ _ _ _ _ rfl hZ Tryz.underlying33 rfl (by kernel_rfl)) rfl ?_
 exact ⟨rfl, hE7⟩

set_option maxHeartbeats 2000000 in
set_option maxRecDepth 100000 in
theorem bare3_w (k : Int) (i n : Nat) (p : ByteArray) (D : Nat → Nat) (s : ByteArray) (E : Nat → Nat) (m : Nums3) (qv ql : Option Addr) (nv cv nl cl : Nat) (w : World) :
  Calls Tryz.prog 57 #[.agg #[.int .i64 k, .int .u64 (i : Nat), .int .u64 (n : Nat), .string p, .int .u64 (D 0 : Nat), .int .u64 (D 1 : Nat), .int .u64 (D 2 : Nat), .int .u64 (D 3 : Nat), .string s, .int .u64 (E 0 : Nat), .int .u64 (E 1 : Nat), .int .u64 (E 2 : Nat), .int .u64 (E 3 : Nat), .int .i64 m.1, .int .i64 m.2.1, .int .i64 m.2.2, .slice qv nv cv, .slice ql nl cl], .agg #[.bool false, .bool true, .bool false, .bool false, .bool false, .bool false]] w fun e w' => e = .returned (.agg #[.int .i64 k, .int .u64 0, .int .u64 (n : Nat), .string ⟨#[]⟩, .int .u64 0, .int .u64 0, .int .u64 0, .int .u64 0, .string ⟨#[]⟩, .int .u64 0, .int .u64 0, .int .u64 0, .int .u64 0, .int .i64 0, .int .i64 0, .int .i64 0, .slice none 0 0, .slice none 0 0]) ∧ Ext w w' := by
 obtain ⟨w1, hW1, hO, hE, s1⟩ := new_row w 33 [.int .i64 k, .int .u64 (i : Nat), .int .u64 (n : Nat), .string p, .int .u64 (D 0 : Nat), .int .u64 (D 1 : Nat), .int .u64 (D 2 : Nat), .int .u64 (D 3 : Nat), .string s, .int .u64 (E 0 : Nat), .int .u64 (E 1 : Nat), .int .u64 (E 2 : Nat), .int .u64 (E 3 : Nat), .int .i64 m.1, .int .i64 m.2.1, .int .i64 m.2.2, .slice qv nv cv, .slice ql nl cl]
 obtain ⟨w2, hW2, hF, e2, s2⟩ := new_row w1 108 [.bool false, .bool true, .bool false, .bool false, .bool false, .bool false]
 obtain ⟨w3, hW3, hR, e3, s3⟩ := new_row w2 33 [.int .i64 0, .int .u64 0, .int .u64 0, .string ⟨#[]⟩, .int .u64 0, .int .u64 0, .int .u64 0, .int .u64 0, .string ⟨#[]⟩, .int .u64 0, .int .u64 0, .int .u64 0, .int .u64 0, .int .i64 0, .int .i64 0, .int .i64 0, .slice none 0 0, .slice none 0 0]
 obtain ⟨w4, hW4, hN, e4, _⟩ := new_row w3 33 [.int .i64 0, .int .u64 0, .int .u64 0, .string ⟨#[]⟩, .int .u64 0, .int .u64 0, .int .u64 0, .int .u64 0, .string ⟨#[]⟩, .int .u64 0, .int .u64 0, .int .u64 0, .int .u64 0, .int .i64 0, .int .i64 0, .int .i64 0, .slice none 0 0, .slice none 0 0]
 obtain ⟨bF, hbF⟩ : ∃ x, w1.heap.size = x := ⟨_, rfl⟩
 obtain ⟨bR, hbR⟩ : ∃ x, w2.heap.size = x := ⟨_, rfl⟩
 obtain ⟨bN, hbN⟩ : ∃ x, w3.heap.size = x := ⟨_, rfl⟩
 have q1 : w.heap.size ≤ bR ∧ bR < bN ∧ w.heap.size < bR ∧ bF < bR ∧ w.heap.size < w3.heap.size := by omega
 obtain ⟨q1, q2, q3, q4, xl⟩ := q1
 clear s1 s2 s3
 rw [hbF] at hF
 rw [hbR] at hR
 rw [hbN] at hN
 have x0 : w3.cell? ⟨w.heap.size, 0, none⟩ = some (.int .i64 k) := ((hO.ext e2).ext e3).cell 0
 replace hO := ((hO.ext e2).ext e3).ext e4
 replace hF := (hF.ext e3).ext e4
 replace hR := hR.ext e4
 replace hE := ((hE.trans e2).trans e3).trans e4
 rw [hbN] at xl
 have xl' : w.heap.size < w3.heap.size := by omega
 have x0' : w4.cell? ⟨w.heap.size, 0, none⟩ = some (.int .i64 k) := hO.cell 0
 have xl4 := hO.lt
 go_enter Tryz.func57, Tryz.ntmps57
 go_wp2_with (first | (refine wpList_store_row (cells := #[.int .i64 k, .int .u64 0, .int .u64 0, .string ⟨#[]⟩, .int .u64 0, .int .u64 0, .int .u64 0, .int .u64 0, .string ⟨#[]⟩, .int .u64 0, .int .u64 0, .int .u64 0, .int .u64 0, .int .i64 0, .int .i64 0, .int .i64 0, .slice none 0 0, .slice none 0 0]) rfl 33 _ _ rfl bN rfl rfl _ _ hN (by kernel_rfl) rfl (by first | rfl | decide | simp [Value.oneCell']) ?_; refine Hid.out ?_))
 refine Lib.hid ?_
 obtain ⟨w5, hW5, hN5, hfar, hext⟩ := set_row hN [.int .i64 k, .int .u64 0, .int .u64 0, .string ⟨#[]⟩, .int .u64 0, .int .u64 0, .int .u64 0, .int .u64 0, .string ⟨#[]⟩, .int .u64 0, .int .u64 0, .int .u64 0, .int .u64 0, .int .i64 0, .int .i64 0, .int .i64 0, .slice none 0 0, .slice none 0 0]
 have hO5 := hfar _ _ _ (by omega) hO
 have hF5 := hfar _ _ _ (by omega) hF
 have hR5 := hfar _ _ _ (by omega) hR
 have hE5 := hext _ hE (by omega)
 clear hW1 hW2 hW3 hW4 hbF hbR hbN x0 x0' xl xl' xl4 hN hO hF hR hE e2 e3 e4 hfar hext
 rw [hW5]
 clear hW5
 obtain ⟨bO, hbO⟩ : ∃ x, x = w.heap.size := ⟨_, rfl⟩
 rw [← hbO] at hO5 q3
 rw [← hbO]
 clear hbO
 have hN := hN5
 have hO := hO5
 have hR := hR5
 have hE := hE5
 clear hN5 hO5 hR5 hE5
 have f0 := hF5.cell 0
 have f1 := hF5.cell 1
 have f2 := hF5.cell 2
 have f3 := hF5.cell 3
 have f4 := hF5.cell 4
 have f5 := hF5.cell 5
 simp only [List.getElem?_cons_zero, List.getElem?_cons_succ] at f0 f1 f2 f3 f4 f5
 have fl := hF5.lt
 have bol := hO.lt
 have bnl := hN.lt
 have x2 : w5.cell? ⟨bO, 2, none⟩ = some (.int .u64 (n : Nat)) := hO.cell 2
 have y2 : w5.cell? ⟨bN, 2, none⟩ = some (.int .u64 0) := hN.cell 2
 have yf2 := hN.free 2
 go_upto_region 14 with fail
 clear x2 y2 yf2
 clear f0 f1 f2 f3 f4 f5 fl bol bnl hF5 hO
 have hN6 : RB bN 33 [.int .i64 k, .int .u64 0, .int .u64 (n : Nat), .string ⟨#[]⟩, .int .u64 0, .int .u64 0, .int .u64 0, .int .u64 0, .string ⟨#[]⟩, .int .u64 0, .int .u64 0, .int .u64 0, .int .u64 0, .int .i64 0, .int .i64 0, .int .i64 0, .slice none 0 0, .slice none 0 0] (w5.setCell ⟨bN, 2, none⟩ (.int .u64 (n : Nat))) := (hN.set 2 (.int .u64 (n : Nat)))
 have hR6 : RB bR 33 [.int .i64 0, .int .u64 0, .int .u64 0, .string ⟨#[]⟩, .int .u64 0, .int .u64 0, .int .u64 0, .int .u64 0, .string ⟨#[]⟩, .int .u64 0, .int .u64 0, .int .u64 0, .int .u64 0, .int .i64 0, .int .i64 0, .int .i64 0, .slice none 0 0, .slice none 0 0] (w5.setCell ⟨bN, 2, none⟩ (.int .u64 (n : Nat))) := (hR.far (c := bN) (i := 2) (by omega) (.int .u64 (n : Nat)))
 have hE6 : Ext w (w5.setCell ⟨bN, 2, none⟩ (.int .u64 (n : Nat))) := (Below.setCell hE (p := ⟨bN, 2, none⟩) (by show _ ≤ bN; omega) (.int .u64 (n : Nat)))
 clear hN hR hE
 generalize (w5.setCell ⟨bN, 2, none⟩ (.int .u64 (n : Nat))) = w6 at *
 have hZ := hR6.setRow [.int .i64 k, .int .u64 0, .int .u64 (n : Nat), .string ⟨#[]⟩, .int .u64 0, .int .u64 0, .int .u64 0, .int .u64 0, .string ⟨#[]⟩, .int .u64 0, .int .u64 0, .int .u64 0, .int .u64 0, .int .i64 0, .int .i64 0, .int .i64 0, .slice none 0 0, .slice none 0 0]
 have hE7 : Ext w (w6.setRow bR #[.int .i64 k, .int .u64 0, .int .u64 (n : Nat), .string ⟨#[]⟩, .int .u64 0, .int .u64 0, .int .u64 0, .int .u64 0, .string ⟨#[]⟩, .int .u64 0, .int .u64 0, .int .u64 0, .int .u64 0, .int .i64 0, .int .i64 0, .int .i64 0, .slice none 0 0, .slice none 0 0]) := Ext.setRow hE6 q1 _
 go_wp2_with (first | (refine wpList_load_row rfl 33 _ rfl bN rfl _ _ _ _ hN6 Tryz.underlying33 rfl (by kernel_rfl) ?_) | (refine wpList_store_row (cells := #[.int .i64 k, .int .u64 0, .int .u64 (n : Nat), .string ⟨#[]⟩, .int .u64 0, .int .u64 0, .int .u64 0, .int .u64 0, .string ⟨#[]⟩, .int .u64 0, .int .u64 0, .int .u64 0, .int .u64 0, .int .i64 0, .int .i64 0, .int .i64 0, .slice none 0 0, .slice none 0 0]) rfl 33 _ _ rfl bR rfl rfl _ _ hR6 (by kernel_rfl) rfl (by first | rfl | decide | simp [Value.oneCell']) ?_))
 refine bodyPost_ret (results_cell_row rfl _ _ _ _ _ _ _ rfl hZ Tryz.underlying33 rfl (by kernel_rfl)) rfl ?_
 exact ⟨rfl, hE7⟩

set_option maxHeartbeats 2000000 in
set_option maxRecDepth 100000 in
theorem bare4_w (k : Int) (i n : Nat) (p : ByteArray) (D : Nat → Nat) (s : ByteArray) (E : Nat → Nat) (m : Nums3) (qv ql : Option Addr) (nv cv nl cl : Nat) (w : World) :
  Calls Tryz.prog 57 #[.agg #[.int .i64 k, .int .u64 (i : Nat), .int .u64 (n : Nat), .string p, .int .u64 (D 0 : Nat), .int .u64 (D 1 : Nat), .int .u64 (D 2 : Nat), .int .u64 (D 3 : Nat), .string s, .int .u64 (E 0 : Nat), .int .u64 (E 1 : Nat), .int .u64 (E 2 : Nat), .int .u64 (E 3 : Nat), .int .i64 m.1, .int .i64 m.2.1, .int .i64 m.2.2, .slice qv nv cv, .slice ql nl cl], .agg #[.bool false, .bool false, .bool true, .bool false, .bool false, .bool false]] w fun e w' => e = .returned (.agg #[.int .i64 k, .int .u64 0, .int .u64 0, .string p, .int .u64 0, .int .u64 0, .int .u64 0, .int .u64 0, .string ⟨#[]⟩, .int .u64 0, .int .u64 0, .int .u64 0, .int .u64 0, .int .i64 0, .int .i64 0, .int .i64 0, .slice none 0 0, .slice none 0 0]) ∧ Ext w w' := by
 obtain ⟨w1, hW1, hO, hE, s1⟩ := new_row w 33 [.int .i64 k, .int .u64 (i : Nat), .int .u64 (n : Nat), .string p, .int .u64 (D 0 : Nat), .int .u64 (D 1 : Nat), .int .u64 (D 2 : Nat), .int .u64 (D 3 : Nat), .string s, .int .u64 (E 0 : Nat), .int .u64 (E 1 : Nat), .int .u64 (E 2 : Nat), .int .u64 (E 3 : Nat), .int .i64 m.1, .int .i64 m.2.1, .int .i64 m.2.2, .slice qv nv cv, .slice ql nl cl]
 obtain ⟨w2, hW2, hF, e2, s2⟩ := new_row w1 108 [.bool false, .bool false, .bool true, .bool false, .bool false, .bool false]
 obtain ⟨w3, hW3, hR, e3, s3⟩ := new_row w2 33 [.int .i64 0, .int .u64 0, .int .u64 0, .string ⟨#[]⟩, .int .u64 0, .int .u64 0, .int .u64 0, .int .u64 0, .string ⟨#[]⟩, .int .u64 0, .int .u64 0, .int .u64 0, .int .u64 0, .int .i64 0, .int .i64 0, .int .i64 0, .slice none 0 0, .slice none 0 0]
 obtain ⟨w4, hW4, hN, e4, _⟩ := new_row w3 33 [.int .i64 0, .int .u64 0, .int .u64 0, .string ⟨#[]⟩, .int .u64 0, .int .u64 0, .int .u64 0, .int .u64 0, .string ⟨#[]⟩, .int .u64 0, .int .u64 0, .int .u64 0, .int .u64 0, .int .i64 0, .int .i64 0, .int .i64 0, .slice none 0 0, .slice none 0 0]
 obtain ⟨bF, hbF⟩ : ∃ x, w1.heap.size = x := ⟨_, rfl⟩
 obtain ⟨bR, hbR⟩ : ∃ x, w2.heap.size = x := ⟨_, rfl⟩
 obtain ⟨bN, hbN⟩ : ∃ x, w3.heap.size = x := ⟨_, rfl⟩
 have q1 : w.heap.size ≤ bR ∧ bR < bN ∧ w.heap.size < bR ∧ bF < bR ∧ w.heap.size < w3.heap.size := by omega
 obtain ⟨q1, q2, q3, q4, xl⟩ := q1
 clear s1 s2 s3
 rw [hbF] at hF
 rw [hbR] at hR
 rw [hbN] at hN
 have x0 : w3.cell? ⟨w.heap.size, 0, none⟩ = some (.int .i64 k) := ((hO.ext e2).ext e3).cell 0
 replace hO := ((hO.ext e2).ext e3).ext e4
 replace hF := (hF.ext e3).ext e4
 replace hR := hR.ext e4
 replace hE := ((hE.trans e2).trans e3).trans e4
 rw [hbN] at xl
 have xl' : w.heap.size < w3.heap.size := by omega
 have x0' : w4.cell? ⟨w.heap.size, 0, none⟩ = some (.int .i64 k) := hO.cell 0
 have xl4 := hO.lt
 go_enter Tryz.func57, Tryz.ntmps57
 go_wp2_with (first | (refine wpList_store_row (cells := #[.int .i64 k, .int .u64 0, .int .u64 0, .string ⟨#[]⟩, .int .u64 0, .int .u64 0, .int .u64 0, .int .u64 0, .string ⟨#[]⟩, .int .u64 0, .int .u64 0, .int .u64 0, .int .u64 0, .int .i64 0, .int .i64 0, .int .i64 0, .slice none 0 0, .slice none 0 0]) rfl 33 _ _ rfl bN rfl rfl _ _ hN (by kernel_rfl) rfl (by first | rfl | decide | simp [Value.oneCell']) ?_; refine Hid.out ?_))
 refine Lib.hid ?_
 obtain ⟨w5, hW5, hN5, hfar, hext⟩ := set_row hN [.int .i64 k, .int .u64 0, .int .u64 0, .string ⟨#[]⟩, .int .u64 0, .int .u64 0, .int .u64 0, .int .u64 0, .string ⟨#[]⟩, .int .u64 0, .int .u64 0, .int .u64 0, .int .u64 0, .int .i64 0, .int .i64 0, .int .i64 0, .slice none 0 0, .slice none 0 0]
 have hO5 := hfar _ _ _ (by omega) hO
 have hF5 := hfar _ _ _ (by omega) hF
 have hR5 := hfar _ _ _ (by omega) hR
 have hE5 := hext _ hE (by omega)
 clear hW1 hW2 hW3 hW4 hbF hbR hbN x0 x0' xl xl' xl4 hN hO hF hR hE e2 e3 e4 hfar hext
 rw [hW5]
 clear hW5
 obtain ⟨bO, hbO⟩ : ∃ x, x = w.heap.size := ⟨_, rfl⟩
 rw [← hbO] at hO5 q3
 rw [← hbO]
 clear hbO
 have hN := hN5
 have hO := hO5
 have hR := hR5
 have hE := hE5
 clear hN5 hO5 hR5 hE5
 have f0 := hF5.cell 0
 have f1 := hF5.cell 1
 have f2 := hF5.cell 2
 have f3 := hF5.cell 3
 have f4 := hF5.cell 4
 have f5 := hF5.cell 5
 simp only [List.getElem?_cons_zero, List.getElem?_cons_succ] at f0 f1 f2 f3 f4 f5
 have fl := hF5.lt
 have bol := hO.lt
 have bnl := hN.lt
 have x3 : w5.cell? ⟨bO, 3, none⟩ = some (.string p) := hO.cell 3
 have y3 : w5.cell? ⟨bN, 3, none⟩ = some (.string ⟨#[]⟩) := hN.cell 3
 have yf3 := hN.free 3
 go_upto_region 14 with fail
 clear x3 y3 yf3
 clear f0 f1 f2 f3 f4 f5 fl bol bnl hF5 hO
 have hN6 : RB bN 33 [.int .i64 k, .int .u64 0, .int .u64 0, .string p, .int .u64 0, .int .u64 0, .int .u64 0, .int .u64 0, .string ⟨#[]⟩, .int .u64 0, .int .u64 0, .int .u64 0, .int .u64 0, .int .i64 0, .int .i64 0, .int .i64 0, .slice none 0 0, .slice none 0 0] (w5.setCell ⟨bN, 3, none⟩ (.string p)) := (hN.set 3 (.string p))
 have hR6 : RB bR 33 [.int .i64 0, .int .u64 0, .int .u64 0, .string ⟨#[]⟩, .int .u64 0, .int .u64 0, .int .u64 0, .int .u64 0, .string ⟨#[]⟩, .int .u64 0, .int .u64 0, .int .u64 0, .int .u64 0, .int .i64 0, .int .i64 0, .int .i64 0, .slice none 0 0, .slice none 0 0] (w5.setCell ⟨bN, 3, none⟩ (.string p)) := (hR.far (c := bN) (i := 3) (by omega) (.string p))
 have hE6 : Ext w (w5.setCell ⟨bN, 3, none⟩ (.string p)) := (Below.setCell hE (p := ⟨bN, 3, none⟩) (by show _ ≤ bN; omega) (.string p))
 clear hN hR hE
 generalize (w5.setCell ⟨bN, 3, none⟩ (.string p)) = w6 at *
 have hZ := hR6.setRow [.int .i64 k, .int .u64 0, .int .u64 0, .string p, .int .u64 0, .int .u64 0, .int .u64 0, .int .u64 0, .string ⟨#[]⟩, .int .u64 0, .int .u64 0, .int .u64 0, .int .u64 0, .int .i64 0, .int .i64 0, .int .i64 0, .slice none 0 0, .slice none 0 0]
 have hE7 : Ext w (w6.setRow bR #[.int .i64 k, .int .u64 0, .int .u64 0, .string p, .int .u64 0, .int .u64 0, .int .u64 0, .int .u64 0, .string ⟨#[]⟩, .int .u64 0, .int .u64 0, .int .u64 0, .int .u64 0, .int .i64 0, .int .i64 0, .int .i64 0, .slice none 0 0, .slice none 0 0]) := Ext.setRow hE6 q1 _
 go_wp2_with (first | (refine wpList_load_row rfl 33 _ rfl bN rfl _ _ _ _ hN6 Tryz.underlying33 rfl (by kernel_rfl) ?_) | (refine wpList_store_row (cells := #[.int .i64 k, .int .u64 0, .int .u64 0, .string p, .int .u64 0, .int .u64 0, .int .u64 0, .int .u64 0, .string ⟨#[]⟩, .int .u64 0, .int .u64 0, .int .u64 0, .int .u64 0, .int .i64 0, .int .i64 0, .int .i64 0, .slice none 0 0, .slice none 0 0]) rfl 33 _ _ rfl bR rfl rfl _ _ hR6 (by kernel_rfl) rfl (by first | rfl | decide | simp [Value.oneCell']) ?_))
 refine bodyPost_ret (results_cell_row rfl _ _ _ _ _ _ _ rfl hZ Tryz.underlying33 rfl (by kernel_rfl)) rfl ?_
 exact ⟨rfl, hE7⟩

set_option maxHeartbeats 2000000 in
set_option maxRecDepth 100000 in
theorem bare5_w (k : Int) (i n : Nat) (p : ByteArray) (D : Nat → Nat) (s : ByteArray) (E : Nat → Nat) (m : Nums3) (qv ql : Option Addr) (nv cv nl cl : Nat) (w : World) :
  Calls Tryz.prog 57 #[.agg #[.int .i64 k, .int .u64 (i : Nat), .int .u64 (n : Nat), .string p, .int .u64 (D 0 : Nat), .int .u64 (D 1 : Nat), .int .u64 (D 2 : Nat), .int .u64 (D 3 : Nat), .string s, .int .u64 (E 0 : Nat), .int .u64 (E 1 : Nat), .int .u64 (E 2 : Nat), .int .u64 (E 3 : Nat), .int .i64 m.1, .int .i64 m.2.1, .int .i64 m.2.2, .slice qv nv cv, .slice ql nl cl], .agg #[.bool false, .bool false, .bool false, .bool true, .bool false, .bool false]] w fun e w' => e = .returned (.agg #[.int .i64 k, .int .u64 0, .int .u64 0, .string ⟨#[]⟩, .int .u64 (D 0 : Nat), .int .u64 (D 1 : Nat), .int .u64 (D 2 : Nat), .int .u64 (D 3 : Nat), .string ⟨#[]⟩, .int .u64 0, .int .u64 0, .int .u64 0, .int .u64 0, .int .i64 0, .int .i64 0, .int .i64 0, .slice none 0 0, .slice none 0 0]) ∧ Ext w w' := by
 obtain ⟨w1, hW1, hO, hE, s1⟩ := new_row w 33 [.int .i64 k, .int .u64 (i : Nat), .int .u64 (n : Nat), .string p, .int .u64 (D 0 : Nat), .int .u64 (D 1 : Nat), .int .u64 (D 2 : Nat), .int .u64 (D 3 : Nat), .string s, .int .u64 (E 0 : Nat), .int .u64 (E 1 : Nat), .int .u64 (E 2 : Nat), .int .u64 (E 3 : Nat), .int .i64 m.1, .int .i64 m.2.1, .int .i64 m.2.2, .slice qv nv cv, .slice ql nl cl]
 obtain ⟨w2, hW2, hF, e2, s2⟩ := new_row w1 108 [.bool false, .bool false, .bool false, .bool true, .bool false, .bool false]
 obtain ⟨w3, hW3, hR, e3, s3⟩ := new_row w2 33 [.int .i64 0, .int .u64 0, .int .u64 0, .string ⟨#[]⟩, .int .u64 0, .int .u64 0, .int .u64 0, .int .u64 0, .string ⟨#[]⟩, .int .u64 0, .int .u64 0, .int .u64 0, .int .u64 0, .int .i64 0, .int .i64 0, .int .i64 0, .slice none 0 0, .slice none 0 0]
 obtain ⟨w4, hW4, hN, e4, _⟩ := new_row w3 33 [.int .i64 0, .int .u64 0, .int .u64 0, .string ⟨#[]⟩, .int .u64 0, .int .u64 0, .int .u64 0, .int .u64 0, .string ⟨#[]⟩, .int .u64 0, .int .u64 0, .int .u64 0, .int .u64 0, .int .i64 0, .int .i64 0, .int .i64 0, .slice none 0 0, .slice none 0 0]
 obtain ⟨bF, hbF⟩ : ∃ x, w1.heap.size = x := ⟨_, rfl⟩
 obtain ⟨bR, hbR⟩ : ∃ x, w2.heap.size = x := ⟨_, rfl⟩
 obtain ⟨bN, hbN⟩ : ∃ x, w3.heap.size = x := ⟨_, rfl⟩
 have q1 : w.heap.size ≤ bR ∧ bR < bN ∧ w.heap.size < bR ∧ bF < bR ∧ w.heap.size < w3.heap.size := by omega
 obtain ⟨q1, q2, q3, q4, xl⟩ := q1
 clear s1 s2 s3
 rw [hbF] at hF
 rw [hbR] at hR
 rw [hbN] at hN
 have x0 : w3.cell? ⟨w.heap.size, 0, none⟩ = some (.int .i64 k) := ((hO.ext e2).ext e3).cell 0
 replace hO := ((hO.ext e2).ext e3).ext e4
 replace hF := (hF.ext e3).ext e4
 replace hR := hR.ext e4
 replace hE := ((hE.trans e2).trans e3).trans e4
 rw [hbN] at xl
 have xl' : w.heap.size < w3.heap.size := by omega
 have x0' : w4.cell? ⟨w.heap.size, 0, none⟩ = some (.int .i64 k) := hO.cell 0
 have xl4 := hO.lt
 go_enter Tryz.func57, Tryz.ntmps57
 go_wp2_with (first | (refine wpList_store_row (cells := #[.int .i64 k, .int .u64 0, .int .u64 0, .string ⟨#[]⟩, .int .u64 0, .int .u64 0, .int .u64 0, .int .u64 0, .string ⟨#[]⟩, .int .u64 0, .int .u64 0, .int .u64 0, .int .u64 0, .int .i64 0, .int .i64 0, .int .i64 0, .slice none 0 0, .slice none 0 0]) rfl 33 _ _ rfl bN rfl rfl _ _ hN (by kernel_rfl) rfl (by first | rfl | decide | simp [Value.oneCell']) ?_; refine Hid.out ?_))
 refine Lib.hid ?_
 obtain ⟨w5, hW5, hN5, hfar, hext⟩ := set_row hN [.int .i64 k, .int .u64 0, .int .u64 0, .string ⟨#[]⟩, .int .u64 0, .int .u64 0, .int .u64 0, .int .u64 0, .string ⟨#[]⟩, .int .u64 0, .int .u64 0, .int .u64 0, .int .u64 0, .int .i64 0, .int .i64 0, .int .i64 0, .slice none 0 0, .slice none 0 0]
 have hO5 := hfar _ _ _ (by omega) hO
 have hF5 := hfar _ _ _ (by omega) hF
 have hR5 := hfar _ _ _ (by omega) hR
 have hE5 := hext _ hE (by omega)
 clear hW1 hW2 hW3 hW4 hbF hbR hbN x0 x0' xl xl' xl4 hN hO hF hR hE e2 e3 e4 hfar hext
 rw [hW5]
 clear hW5
 obtain ⟨bO, hbO⟩ : ∃ x, x = w.heap.size := ⟨_, rfl⟩
 rw [← hbO] at hO5 q3
 rw [← hbO]
 clear hbO
 have hN := hN5
 have hO := hO5
 have hR := hR5
 have hE := hE5
 clear hN5 hO5 hR5 hE5
 have f0 := hF5.cell 0
 have f1 := hF5.cell 1
 have f2 := hF5.cell 2
 have f3 := hF5.cell 3
 have f4 := hF5.cell 4
 have f5 := hF5.cell 5
 simp only [List.getElem?_cons_zero, List.getElem?_cons_succ] at f0 f1 f2 f3 f4 f5
 have fl := hF5.lt
 have bol := hO.lt
 have bnl := hN.lt
 have x4 : w5.cell? ⟨bO, 4, none⟩ = some (.int .u64 (D 0 : Nat)) := hO.cell 4
 have x5 : w5.cell? ⟨bO, 5, none⟩ = some (.int .u64 (D 1 : Nat)) := hO.cell 5
 have x6 : w5.cell? ⟨bO, 6, none⟩ = some (.int .u64 (D 2 : Nat)) := hO.cell 6
 have x7 : w5.cell? ⟨bO, 7, none⟩ = some (.int .u64 (D 3 : Nat)) := hO.cell 7
 have y4 : w5.cell? ⟨bN, 4, none⟩ = some (.int .u64 0) := hN.cell 4
 have yf4 := hN.free 4
 have y5 : w5.cell? ⟨bN, 5, none⟩ = some (.int .u64 0) := hN.cell 5
 have yf5 := hN.free 5
 have y6 : w5.cell? ⟨bN, 6, none⟩ = some (.int .u64 0) := hN.cell 6
 have yf6 := hN.free 6
 have y7 : w5.cell? ⟨bN, 7, none⟩ = some (.int .u64 0) := hN.cell 7
 have yf7 := hN.free 7
 go_upto_region 14 with fail
 clear x4 y4 yf4 x5 y5 yf5 x6 y6 yf6 x7 y7 yf7
 clear f0 f1 f2 f3 f4 f5 fl bol bnl hF5 hO
 have hN6 : RB bN 33 [.int .i64 k, .int .u64 0, .int .u64 0, .string ⟨#[]⟩, .int .u64 (D 0 : Nat), .int .u64 (D 1 : Nat), .int .u64 (D 2 : Nat), .int .u64 (D 3 : Nat), .string ⟨#[]⟩, .int .u64 0, .int .u64 0, .int .u64 0, .int .u64 0, .int .i64 0, .int .i64 0, .int .i64 0, .slice none 0 0, .slice none 0 0] ((((w5.setCell ⟨bN, 4, none⟩ (.int .u64 (D 0 : Nat))).setCell ⟨bN, 5, none⟩ (.int .u64 (D 1 : Nat))).setCell ⟨bN, 6, none⟩ (.int .u64 (D 2 : Nat))).setCell ⟨bN, 7, none⟩ (.int .u64 (D 3 : Nat))) := ((((hN.set 4 (.int .u64 (D 0 : Nat))).set 5 (.int .u64 (D 1 : Nat))).set 6 (.int .u64 (D 2 : Nat))).set 7 (.int .u64 (D 3 : Nat)))
 have hR6 : RB bR 33 [.int .i64 0, .int .u64 0, .int .u64 0, .string ⟨#[]⟩, .int .u64 0, .int .u64 0, .int .u64 0, .int .u64 0, .string ⟨#[]⟩, .int .u64 0, .int .u64 0, .int .u64 0, .int .u64 0, .int .i64 0, .int .i64 0, .int .i64 0, .slice none 0 0, .slice none 0 0] ((((w5.setCell ⟨bN, 4, none⟩ (.int .u64 (D 0 : Nat))).setCell ⟨bN, 5, none⟩ (.int .u64 (D 1 : Nat))).setCell ⟨bN, 6, none⟩ (.int .u64 (D 2 : Nat))).setCell ⟨bN, 7, none⟩ (.int .u64 (D 3 : Nat))) := ((((hR.far (c := bN) (i := 4) (by omega) (.int .u64 (D 0 : Nat))).far (c := bN) (i := 5) (by omega) (.int .u64 (D 1 : Nat))).far (c := bN) (i := 6) (by omega) (.int .u64 (D 2 : Nat))).far (c := bN) (i := 7) (by omega) (.int .u64 (D 3 : Nat)))
 have hE6 : Ext w ((((w5.setCell ⟨bN, 4, none⟩ (.int .u64 (D 0 : Nat))).setCell ⟨bN, 5, none⟩ (.int .u64 (D 1 : Nat))).setCell ⟨bN, 6, none⟩ (.int .u64 (D 2 : Nat))).setCell ⟨bN, 7, none⟩ (.int .u64 (D 3 : Nat))) := (Below.setCell (Below.setCell (Below.setCell (Below.setCell hE (p := ⟨bN, 4, none⟩) (by show _ ≤ bN; omega) (.int .u64 (D 0 : Nat))) (p := ⟨bN, 5, none⟩) (by show _ ≤ bN; omega) (.int .u64 (D 1 : Nat))) (p := ⟨bN, 6, none⟩) (by show _ ≤ bN; omega) (.int .u64 (D 2 : Nat))) (p := ⟨bN, 7, none⟩) (by show _ ≤ bN; omega) (.int .u64 (D 3 : Nat)))
 clear hN hR hE
 generalize ((((w5.setCell ⟨bN, 4, none⟩ (.int .u64 (D 0 : Nat))).setCell ⟨bN, 5, none⟩ (.int .u64 (D 1 : Nat))).setCell ⟨bN, 6, none⟩ (.int .u64 (D 2 : Nat))).setCell ⟨bN, 7, none⟩ (.int .u64 (D 3 : Nat))) = w6 at *
 have hZ := hR6.setRow [.int .i64 k, .int .u64 0, .int .u64 0, .string ⟨#[]⟩, .int .u64 (D 0 : Nat), .int .u64 (D 1 : Nat), .int .u64 (D 2 : Nat), .int .u64 (D 3 : Nat), .string ⟨#[]⟩, .int .u64 0, .int .u64 0, .int .u64 0, .int .u64 0, .int .i64 0, .int .i64 0, .int .i64 0, .slice none 0 0, .slice none 0 0]
 have hE7 : Ext w (w6.setRow bR #[.int .i64 k, .int .u64 0, .int .u64 0, .string ⟨#[]⟩, .int .u64 (D 0 : Nat), .int .u64 (D 1 : Nat), .int .u64 (D 2 : Nat), .int .u64 (D 3 : Nat), .string ⟨#[]⟩, .int .u64 0, .int .u64 0, .int .u64 0, .int .u64 0, .int .i64 0, .int .i64 0, .int .i64 0, .slice none 0 0, .slice none 0 0]) := Ext.setRow hE6 q1 _
 go_wp2_with (first | (refine wpList_load_row rfl 33 _ rfl bN rfl _ _ _ _ hN6 Tryz.underlying33 rfl (by kernel_rfl) ?_) | (refine wpList_store_row (cells := #[.int .i64 k, .int .u64 0, .int .u64 0, .string ⟨#[]⟩, .int .u64 (D 0 : Nat), .int .u64 (D 1 : Nat), .int .u64 (D 2 : Nat), .int .u64 (D 3 : Nat), .string ⟨#[]⟩, .int .u64 0, .int .u64 0, .int .u64 0, .int .u64 0, .int .i64 0, .int .i64 0, .int .i64 0, .slice none 0 0, .slice none 0 0]) rfl 33 _ _ rfl bR rfl rfl _ _ hR6 (by kernel_rfl) rfl (by first | rfl | decide | simp [Value.oneCell']) ?_))
 refine bodyPost_ret (results_cell_row rfl _ _ _ _ _ _ _ rfl hZ Tryz.underlying33 rfl (by kernel_rfl)) rfl ?_
 exact ⟨rfl, hE7⟩

set_option maxHeartbeats 2000000 in
set_option maxRecDepth 100000 in
theorem bare6_w (k : Int) (i n : Nat) (p : ByteArray) (D : Nat → Nat) (s : ByteArray) (E : Nat → Nat) (m : Nums3) (qv ql : Option Addr) (nv cv nl cl : Nat) (w : World) :
  Calls Tryz.prog 57 #[.agg #[.int .i64 k, .int .u64 (i : Nat), .int .u64 (n : Nat), .string p, .int .u64 (D 0 : Nat), .int .u64 (D 1 : Nat), .int .u64 (D 2 : Nat), .int .u64 (D 3 : Nat), .string s, .int .u64 (E 0 : Nat), .int .u64 (E 1 : Nat), .int .u64 (E 2 : Nat), .int .u64 (E 3 : Nat), .int .i64 m.1, .int .i64 m.2.1, .int .i64 m.2.2, .slice qv nv cv, .slice ql nl cl], .agg #[.bool false, .bool false, .bool true, .bool true, .bool false, .bool true]] w fun e w' => e = .returned (.agg #[.int .i64 k, .int .u64 0, .int .u64 0, .string p, .int .u64 (D 0 : Nat), .int .u64 (D 1 : Nat), .int .u64 (D 2 : Nat), .int .u64 (D 3 : Nat), .string ⟨#[]⟩, .int .u64 0, .int .u64 0, .int .u64 0, .int .u64 0, .int .i64 0, .int .i64 0, .int .i64 0, .slice none 0 0, .slice ql nl cl]) ∧ Ext w w' := by
 obtain ⟨w1, hW1, hO, hE, s1⟩ := new_row w 33 [.int .i64 k, .int .u64 (i : Nat), .int .u64 (n : Nat), .string p, .int .u64 (D 0 : Nat), .int .u64 (D 1 : Nat), .int .u64 (D 2 : Nat), .int .u64 (D 3 : Nat), .string s, .int .u64 (E 0 : Nat), .int .u64 (E 1 : Nat), .int .u64 (E 2 : Nat), .int .u64 (E 3 : Nat), .int .i64 m.1, .int .i64 m.2.1, .int .i64 m.2.2, .slice qv nv cv, .slice ql nl cl]
 obtain ⟨w2, hW2, hF, e2, s2⟩ := new_row w1 108 [.bool false, .bool false, .bool true, .bool true, .bool false, .bool true]
 obtain ⟨w3, hW3, hR, e3, s3⟩ := new_row w2 33 [.int .i64 0, .int .u64 0, .int .u64 0, .string ⟨#[]⟩, .int .u64 0, .int .u64 0, .int .u64 0, .int .u64 0, .string ⟨#[]⟩, .int .u64 0, .int .u64 0, .int .u64 0, .int .u64 0, .int .i64 0, .int .i64 0, .int .i64 0, .slice none 0 0, .slice none 0 0]
 obtain ⟨w4, hW4, hN, e4, _⟩ := new_row w3 33 [.int .i64 0, .int .u64 0, .int .u64 0, .string ⟨#[]⟩, .int .u64 0, .int .u64 0, .int .u64 0, .int .u64 0, .string ⟨#[]⟩, .int .u64 0, .int .u64 0, .int .u64 0, .int .u64 0, .int .i64 0, .int .i64 0, .int .i64 0, .slice none 0 0, .slice none 0 0]
 obtain ⟨bF, hbF⟩ : ∃ x, w1.heap.size = x := ⟨_, rfl⟩
 obtain ⟨bR, hbR⟩ : ∃ x, w2.heap.size = x := ⟨_, rfl⟩
 obtain ⟨bN, hbN⟩ : ∃ x, w3.heap.size = x := ⟨_, rfl⟩
 have q1 : w.heap.size ≤ bR ∧ bR < bN ∧ w.heap.size < bR ∧ bF < bR ∧ w.heap.size < w3.heap.size := by omega
 obtain ⟨q1, q2, q3, q4, xl⟩ := q1
 clear s1 s2 s3
 rw [hbF] at hF
 rw [hbR] at hR
 rw [hbN] at hN
 have x0 : w3.cell? ⟨w.heap.size, 0, none⟩ = some (.int .i64 k) := ((hO.ext e2).ext e3).cell 0
 replace hO := ((hO.ext e2).ext e3).ext e4
 replace hF := (hF.ext e3).ext e4
 replace hR := hR.ext e4
 replace hE := ((hE.trans e2).trans e3).trans e4
 rw [hbN] at xl
 have xl' : w.heap.size < w3.heap.size := by omega
 have x0' : w4.cell? ⟨w.heap.size, 0, none⟩ = some (.int .i64 k) := hO.cell 0
 have xl4 := hO.lt
 go_enter Tryz.func57, Tryz.ntmps57
 go_wp2_with (first | (refine wpList_store_row (cells := #[.int .i64 k, .int .u64 0, .int .u64 0, .string ⟨#[]⟩, .int .u64 0, .int .u64 0, .int .u64 0, .int .u64 0, .string ⟨#[]⟩, .int .u64 0, .int .u64 0, .int .u64 0, .int .u64 0, .int .i64 0, .int .i64 0, .int .i64 0, .slice none 0 0, .slice none 0 0]) rfl 33 _ _ rfl bN rfl rfl _ _ hN (by kernel_rfl) rfl (by first | rfl | decide | simp [Value.oneCell']) ?_; refine Hid.out ?_))
 refine Lib.hid ?_
 obtain ⟨w5, hW5, hN5, hfar, hext⟩ := set_row hN [.int .i64 k, .int .u64 0, .int .u64 0, .string ⟨#[]⟩, .int .u64 0, .int .u64 0, .int .u64 0, .int .u64 0, .string ⟨#[]⟩, .int .u64 0, .int .u64 0, .int .u64 0, .int .u64 0, .int .i64 0, .int .i64 0, .int .i64 0, .slice none 0 0, .slice none 0 0]
 have hO5 := hfar _ _ _ (by omega) hO
 have hF5 := hfar _ _ _ (by omega) hF
 have hR5 := hfar _ _ _ (by omega) hR
 have hE5 := hext _ hE (by omega)
 clear hW1 hW2 hW3 hW4 hbF hbR hbN x0 x0' xl xl' xl4 hN hO hF hR hE e2 e3 e4 hfar hext
 rw [hW5]
 clear hW5
 obtain ⟨bO, hbO⟩ : ∃ x, x = w.heap.size := ⟨_, rfl⟩
 rw [← hbO] at hO5 q3
 rw [← hbO]
 clear hbO
 have hN := hN5
 have hO := hO5
 have hR := hR5
 have hE := hE5
 clear hN5 hO5 hR5 hE5
 have f0 := hF5.cell 0
 have f1 := hF5.cell 1
 have f2 := hF5.cell 2
 have f3 := hF5.cell 3
 have f4 := hF5.cell 4
 have f5 := hF5.cell 5
 simp only [List.getElem?_cons_zero, List.getElem?_cons_succ] at f0 f1 f2 f3 f4 f5
 have fl := hF5.lt
 have bol := hO.lt
 have bnl := hN.lt
 have x3 : w5.cell? ⟨bO, 3, none⟩ = some (.string p) := hO.cell 3
 have x4 : w5.cell? ⟨bO, 4, none⟩ = some (.int .u64 (D 0 : Nat)) := hO.cell 4
 have x5 : w5.cell? ⟨bO, 5, none⟩ = some (.int .u64 (D 1 : Nat)) := hO.cell 5
 have x6 : w5.cell? ⟨bO, 6, none⟩ = some (.int .u64 (D 2 : Nat)) := hO.cell 6
 have x7 : w5.cell? ⟨bO, 7, none⟩ = some (.int .u64 (D 3 : Nat)) := hO.cell 7
 have x17 : w5.cell? ⟨bO, 17, none⟩ = some (.slice ql nl cl) := hO.cell 17
 have y3 : w5.cell? ⟨bN, 3, none⟩ = some (.string ⟨#[]⟩) := hN.cell 3
 have yf3 := hN.free 3
 have y4 : w5.cell? ⟨bN, 4, none⟩ = some (.int .u64 0) := hN.cell 4
 have yf4 := hN.free 4
 have y5 : w5.cell? ⟨bN, 5, none⟩ = some (.int .u64 0) := hN.cell 5
 have yf5 := hN.free 5
 have y6 : w5.cell? ⟨bN, 6, none⟩ = some (.int .u64 0) := hN.cell 6
 have yf6 := hN.free 6
 have y7 : w5.cell? ⟨bN, 7, none⟩ = some (.int .u64 0) := hN.cell 7
 have yf7 := hN.free 7
 have y17 : w5.cell? ⟨bN, 17, none⟩ = some (.slice none 0 0) := hN.cell 17
 have yf17 := hN.free 17
 go_upto_region 14 with fail
 clear x3 y3 yf3 x4 y4 yf4 x5 y5 yf5 x6 y6 yf6 x7 y7 yf7 x17 y17 yf17
 clear f0 f1 f2 f3 f4 f5 fl bol bnl hF5 hO
 have hN6 : RB bN 33 [.int .i64 k, .int .u64 0, .int .u64 0, .string p, .int .u64 (D 0 : Nat), .int .u64 (D 1 : Nat), .int .u64 (D 2 : Nat), .int .u64 (D 3 : Nat), .string ⟨#[]⟩, .int .u64 0, .int .u64 0, .int .u64 0, .int .u64 0, .int .i64 0, .int .i64 0, .int .i64 0, .slice none 0 0, .slice ql nl cl] ((((((w5.setCell ⟨bN, 3, none⟩ (.string p)).setCell ⟨bN, 4, none⟩ (.int .u64 (D 0 : Nat))).setCell ⟨bN, 5, none⟩ (.int .u64 (D 1 : Nat))).setCell ⟨bN, 6, none⟩ (.int .u64 (D 2 : Nat))).setCell ⟨bN, 7, none⟩ (.int .u64 (D 3 : Nat))).setCell ⟨bN, 17, none⟩ (.slice ql nl cl)) := ((((((hN.set 3 (.string p)).set 4 (.int .u64 (D 0 : Nat))).set 5 (.int .u64 (D 1 : Nat))).set 6 (.int .u64 (D 2 : Nat))).set 7 (.int .u64 (D 3 : Nat))).set 17 (.slice ql nl cl))
 have hR6 : RB bR 33 [.int .i64 0, .int .u64 0, .int .u64 0, .string ⟨#[]⟩, .int .u64 0, .int .u64 0, .int .u64 0, .int .u64 0, .string ⟨#[]⟩, .int .u64 0, .int .u64 0, .int .u64 0, .int .u64 0, .int .i64 0, .int .i64 0, .int .i64 0, .slice none 0 0, .slice none 0 0] ((((((w5.setCell ⟨bN, 3, none⟩ (.string p)).setCell ⟨bN, 4, none⟩ (.int .u64 (D 0 : Nat))).setCell ⟨bN, 5, none⟩ (.int .u64 (D 1 : Nat))).setCell ⟨bN, 6, none⟩ (.int .u64 (D 2 : Nat))).setCell ⟨bN, 7, none⟩ (.int .u64 (D 3 : Nat))).setCell ⟨bN, 17, none⟩ (.slice ql nl cl)) := ((((((hR.far (c := bN) (i := 3) (by omega) (.string p)).far (c := bN) (i := 4) (by omega) (.int .u64 (D 0 : Nat))).far (c := bN) (i := 5) (by omega) (.int .u64 (D 1 : Nat))).far (c := bN) (i := 6) (by omega) (.int .u64 (D 2 : Nat))).far (c := bN) (i := 7) (by omega) (.int .u64 (D 3 : Nat))).far (c := bN) (i := 17) (by omega) (.slice ql nl cl))
 have hE6 : Ext w ((((((w5.setCell ⟨bN, 3, none⟩ (.string p)).setCell ⟨bN, 4, none⟩ (.int .u64 (D 0 : Nat))).setCell ⟨bN, 5, none⟩ (.int .u64 (D 1 : Nat))).setCell ⟨bN, 6, none⟩ (.int .u64 (D 2 : Nat))).setCell ⟨bN, 7, none⟩ (.int .u64 (D 3 : Nat))).setCell ⟨bN, 17, none⟩ (.slice ql nl cl)) := (Below.setCell (Below.setCell (Below.setCell (Below.setCell (Below.setCell (Below.setCell hE (p := ⟨bN, 3, none⟩) (by show _ ≤ bN; omega) (.string p)) (p := ⟨bN, 4, none⟩) (by show _ ≤ bN; omega) (.int .u64 (D 0 : Nat))) (p := ⟨bN, 5, none⟩) (by show _ ≤ bN; omega) (.int .u64 (D 1 : Nat))) (p := ⟨bN, 6, none⟩) (by show _ ≤ bN; omega) (.int .u64 (D 2 : Nat))) (p := ⟨bN, 7, none⟩) (by show _ ≤ bN; omega) (.int .u64 (D 3 : Nat))) (p := ⟨bN, 17, none⟩) (by show _ ≤ bN; omega) (.slice ql nl cl))
 clear hN hR hE
 generalize ((((((w5.setCell ⟨bN, 3, none⟩ (.string p)).setCell ⟨bN, 4, none⟩ (.int .u64 (D 0 : Nat))).setCell ⟨bN, 5, none⟩ (.int .u64 (D 1 : Nat))).setCell ⟨bN, 6, none⟩ (.int .u64 (D 2 : Nat))).setCell ⟨bN, 7, none⟩ (.int .u64 (D 3 : Nat))).setCell ⟨bN, 17, none⟩ (.slice ql nl cl)) = w6 at *
 have hZ := hR6.setRow [.int .i64 k, .int .u64 0, .int .u64 0, .string p, .int .u64 (D 0 : Nat), .int .u64 (D 1 : Nat), .int .u64 (D 2 : Nat), .int .u64 (D 3 : Nat), .string ⟨#[]⟩, .int .u64 0, .int .u64 0, .int .u64 0, .int .u64 0, .int .i64 0, .int .i64 0, .int .i64 0, .slice none 0 0, .slice ql nl cl]
 have hE7 : Ext w (w6.setRow bR #[.int .i64 k, .int .u64 0, .int .u64 0, .string p, .int .u64 (D 0 : Nat), .int .u64 (D 1 : Nat), .int .u64 (D 2 : Nat), .int .u64 (D 3 : Nat), .string ⟨#[]⟩, .int .u64 0, .int .u64 0, .int .u64 0, .int .u64 0, .int .i64 0, .int .i64 0, .int .i64 0, .slice none 0 0, .slice ql nl cl]) := Ext.setRow hE6 q1 _
 go_wp2_with (first | (refine wpList_load_row rfl 33 _ rfl bN rfl _ _ _ _ hN6 Tryz.underlying33 rfl (by kernel_rfl) ?_) | (refine wpList_store_row (cells := #[.int .i64 k, .int .u64 0, .int .u64 0, .string p, .int .u64 (D 0 : Nat), .int .u64 (D 1 : Nat), .int .u64 (D 2 : Nat), .int .u64 (D 3 : Nat), .string ⟨#[]⟩, .int .u64 0, .int .u64 0, .int .u64 0, .int .u64 0, .int .i64 0, .int .i64 0, .int .i64 0, .slice none 0 0, .slice ql nl cl]) rfl 33 _ _ rfl bR rfl rfl _ _ hR6 (by kernel_rfl) rfl (by first | rfl | decide | simp [Value.oneCell']) ?_))
 refine bodyPost_ret (results_cell_row rfl _ _ _ _ _ _ _ rfl hZ Tryz.underlying33 rfl (by kernel_rfl)) rfl ?_
 exact ⟨rfl, hE7⟩

set_option maxHeartbeats 2000000 in
set_option maxRecDepth 100000 in
theorem bare7_w (k : Int) (i n : Nat) (p : ByteArray) (D : Nat → Nat) (s : ByteArray) (E : Nat → Nat) (m : Nums3) (qv ql : Option Addr) (nv cv nl cl : Nat) (w : World) :
  Calls Tryz.prog 57 #[.agg #[.int .i64 k, .int .u64 (i : Nat), .int .u64 (n : Nat), .string p, .int .u64 (D 0 : Nat), .int .u64 (D 1 : Nat), .int .u64 (D 2 : Nat), .int .u64 (D 3 : Nat), .string s, .int .u64 (E 0 : Nat), .int .u64 (E 1 : Nat), .int .u64 (E 2 : Nat), .int .u64 (E 3 : Nat), .int .i64 m.1, .int .i64 m.2.1, .int .i64 m.2.2, .slice qv nv cv, .slice ql nl cl], .agg #[.bool false, .bool false, .bool false, .bool false, .bool false, .bool false]] w fun e w' => e = .returned (.agg #[.int .i64 k, .int .u64 0, .int .u64 0, .string ⟨#[]⟩, .int .u64 0, .int .u64 0, .int .u64 0, .int .u64 0, .string ⟨#[]⟩, .int .u64 0, .int .u64 0, .int .u64 0, .int .u64 0, .int .i64 0, .int .i64 0, .int .i64 0, .slice none 0 0, .slice none 0 0]) ∧ Ext w w' := by
 obtain ⟨w1, hW1, hO, hE, s1⟩ := new_row w 33 [.int .i64 k, .int .u64 (i : Nat), .int .u64 (n : Nat), .string p, .int .u64 (D 0 : Nat), .int .u64 (D 1 : Nat), .int .u64 (D 2 : Nat), .int .u64 (D 3 : Nat), .string s, .int .u64 (E 0 : Nat), .int .u64 (E 1 : Nat), .int .u64 (E 2 : Nat), .int .u64 (E 3 : Nat), .int .i64 m.1, .int .i64 m.2.1, .int .i64 m.2.2, .slice qv nv cv, .slice ql nl cl]
 obtain ⟨w2, hW2, hF, e2, s2⟩ := new_row w1 108 [.bool false, .bool false, .bool false, .bool false, .bool false, .bool false]
 obtain ⟨w3, hW3, hR, e3, s3⟩ := new_row w2 33 [.int .i64 0, .int .u64 0, .int .u64 0, .string ⟨#[]⟩, .int .u64 0, .int .u64 0, .int .u64 0, .int .u64 0, .string ⟨#[]⟩, .int .u64 0, .int .u64 0, .int .u64 0, .int .u64 0, .int .i64 0, .int .i64 0, .int .i64 0, .slice none 0 0, .slice none 0 0]
 obtain ⟨w4, hW4, hN, e4, _⟩ := new_row w3 33 [.int .i64 0, .int .u64 0, .int .u64 0, .string ⟨#[]⟩, .int .u64 0, .int .u64 0, .int .u64 0, .int .u64 0, .string ⟨#[]⟩, .int .u64 0, .int .u64 0, .int .u64 0, .int .u64 0, .int .i64 0, .int .i64 0, .int .i64 0, .slice none 0 0, .slice none 0 0]
 obtain ⟨bF, hbF⟩ : ∃ x, w1.heap.size = x := ⟨_, rfl⟩
 obtain ⟨bR, hbR⟩ : ∃ x, w2.heap.size = x := ⟨_, rfl⟩
 obtain ⟨bN, hbN⟩ : ∃ x, w3.heap.size = x := ⟨_, rfl⟩
 have q1 : w.heap.size ≤ bR ∧ bR < bN ∧ w.heap.size < bR ∧ bF < bR ∧ w.heap.size < w3.heap.size := by omega
 obtain ⟨q1, q2, q3, q4, xl⟩ := q1
 clear s1 s2 s3
 rw [hbF] at hF
 rw [hbR] at hR
 rw [hbN] at hN
 have x0 : w3.cell? ⟨w.heap.size, 0, none⟩ = some (.int .i64 k) := ((hO.ext e2).ext e3).cell 0
 replace hO := ((hO.ext e2).ext e3).ext e4
 replace hF := (hF.ext e3).ext e4
 replace hR := hR.ext e4
 replace hE := ((hE.trans e2).trans e3).trans e4
 rw [hbN] at xl
 have xl' : w.heap.size < w3.heap.size := by omega
 have x0' : w4.cell? ⟨w.heap.size, 0, none⟩ = some (.int .i64 k) := hO.cell 0
 have xl4 := hO.lt
 go_enter Tryz.func57, Tryz.ntmps57
 go_wp2_with (first | (refine wpList_store_row (cells := #[.int .i64 k, .int .u64 0, .int .u64 0, .string ⟨#[]⟩, .int .u64 0, .int .u64 0, .int .u64 0, .int .u64 0, .string ⟨#[]⟩, .int .u64 0, .int .u64 0, .int .u64 0, .int .u64 0, .int .i64 0, .int .i64 0, .int .i64 0, .slice none 0 0, .slice none 0 0]) rfl 33 _ _ rfl bN rfl rfl _ _ hN (by kernel_rfl) rfl (by first | rfl | decide | simp [Value.oneCell']) ?_; refine Hid.out ?_))
 refine Lib.hid ?_
 obtain ⟨w5, hW5, hN5, hfar, hext⟩ := set_row hN [.int .i64 k, .int .u64 0, .int .u64 0, .string ⟨#[]⟩, .int .u64 0, .int .u64 0, .int .u64 0, .int .u64 0, .string ⟨#[]⟩, .int .u64 0, .int .u64 0, .int .u64 0, .int .u64 0, .int .i64 0, .int .i64 0, .int .i64 0, .slice none 0 0, .slice none 0 0]
 have hO5 := hfar _ _ _ (by omega) hO
 have hF5 := hfar _ _ _ (by omega) hF
 have hR5 := hfar _ _ _ (by omega) hR
 have hE5 := hext _ hE (by omega)
 clear hW1 hW2 hW3 hW4 hbF hbR hbN x0 x0' xl xl' xl4 hN hO hF hR hE e2 e3 e4 hfar hext
 rw [hW5]
 clear hW5
 obtain ⟨bO, hbO⟩ : ∃ x, x = w.heap.size := ⟨_, rfl⟩
 rw [← hbO] at hO5 q3
 rw [← hbO]
 clear hbO
 have hN := hN5
 have hO := hO5
 have hR := hR5
 have hE := hE5
 clear hN5 hO5 hR5 hE5
 have f0 := hF5.cell 0
 have f1 := hF5.cell 1
 have f2 := hF5.cell 2
 have f3 := hF5.cell 3
 have f4 := hF5.cell 4
 have f5 := hF5.cell 5
 simp only [List.getElem?_cons_zero, List.getElem?_cons_succ] at f0 f1 f2 f3 f4 f5
 have fl := hF5.lt
 have bol := hO.lt
 have bnl := hN.lt

 go_upto_region 14 with fail

 clear f0 f1 f2 f3 f4 f5 fl bol bnl hF5 hO
 have hN6 : RB bN 33 [.int .i64 k, .int .u64 0, .int .u64 0, .string ⟨#[]⟩, .int .u64 0, .int .u64 0, .int .u64 0, .int .u64 0, .string ⟨#[]⟩, .int .u64 0, .int .u64 0, .int .u64 0, .int .u64 0, .int .i64 0, .int .i64 0, .int .i64 0, .slice none 0 0, .slice none 0 0] w5 := hN
 have hR6 : RB bR 33 [.int .i64 0, .int .u64 0, .int .u64 0, .string ⟨#[]⟩, .int .u64 0, .int .u64 0, .int .u64 0, .int .u64 0, .string ⟨#[]⟩, .int .u64 0, .int .u64 0, .int .u64 0, .int .u64 0, .int .i64 0, .int .i64 0, .int .i64 0, .slice none 0 0, .slice none 0 0] w5 := hR
 have hE6 : Ext w w5 := hE
 clear hN hR hE
 obtain ⟨w6, rfl⟩ : ∃ x, x = w5 := ⟨_, rfl⟩
 have hZ := hR6.setRow [.int .i64 k, .int .u64 0, .int .u64 0, .string ⟨#[]⟩, .int .u64 0, .int .u64 0, .int .u64 0, .int .u64 0, .string ⟨#[]⟩, .int .u64 0, .int .u64 0, .int .u64 0, .int .u64 0, .int .i64 0, .int .i64 0, .int .i64 0, .slice none 0 0, .slice none 0 0]
 have hE7 : Ext w (w6.setRow bR #[.int .i64 k, .int .u64 0, .int .u64 0, .string ⟨#[]⟩, .int .u64 0, .int .u64 0, .int .u64 0, .int .u64 0, .string ⟨#[]⟩, .int .u64 0, .int .u64 0, .int .u64 0, .int .u64 0, .int .i64 0, .int .i64 0, .int .i64 0, .slice none 0 0, .slice none 0 0]) := Ext.setRow hE6 q1 _
 go_wp2_with (first | (refine wpList_load_row rfl 33 _ rfl bN rfl _ _ _ _ hN6 Tryz.underlying33 rfl (by kernel_rfl) ?_) | (refine wpList_store_row (cells := #[.int .i64 k, .int .u64 0, .int .u64 0, .string ⟨#[]⟩, .int .u64 0, .int .u64 0, .int .u64 0, .int .u64 0, .string ⟨#[]⟩, .int .u64 0, .int .u64 0, .int .u64 0, .int .u64 0, .int .i64 0, .int .i64 0, .int .i64 0, .slice none 0 0, .slice none 0 0]) rfl 33 _ _ rfl bR rfl rfl _ _ hR6 (by kernel_rfl) rfl (by first | rfl | decide | simp [Value.oneCell']) ?_))
 refine bodyPost_ret (results_cell_row rfl _ _ _ _ _ _ _ rfl hZ Tryz.underlying33 rfl (by kernel_rfl)) rfl ?_
 exact ⟨rfl, hE7⟩

theorem bare_w (f : Fld) (hf : isFld f) (k : Int) (i n : Nat) (p : ByteArray) (D : Nat → Nat) (s : ByteArray) (E : Nat → Nat) (m : Nums3) (qv ql : Option Addr) (nv cv nl cl : Nat) (w : World) :
  Calls Tryz.prog 57 #[opV k i n p D s E m (.slice qv nv cv) (.slice ql nl cl), fldV f] w fun e w' => e = .returned (bareV f k i n p D s E m (.slice qv nv cv) (.slice ql nl cl)) ∧ Ext w w' := by
 rcases hf with rfl | rfl | rfl | rfl | rfl | rfl | rfl | rfl
 ·exact (bare0_w k i n p D s E m qv ql nv cv nl cl w).mono fun e w' h => ⟨by rw [h.1]; rfl, h.2⟩
 ·exact (bare1_w k i n p D s E m qv ql nv cv nl cl w).mono fun e w' h => ⟨by rw [h.1]; rfl, h.2⟩
 ·exact (bare2_w k i n p D s E m qv ql nv cv nl cl w).mono fun e w' h => ⟨by rw [h.1]; rfl, h.2⟩
 ·exact (bare3_w k i n p D s E m qv ql nv cv nl cl w).mono fun e w' h => ⟨by rw [h.1]; rfl, h.2⟩
 ·exact (bare4_w k i n p D s E m qv ql nv cv nl cl w).mono fun e w' h => ⟨by rw [h.1]; rfl, h.2⟩
 ·exact (bare5_w k i n p D s E m qv ql nv cv nl cl w).mono fun e w' h => ⟨by rw [h.1]; rfl, h.2⟩
 ·exact (bare6_w k i n p D s E m qv ql nv cv nl cl w).mono fun e w' h => ⟨by rw [h.1]; rfl, h.2⟩
 ·exact (bare7_w k i n p D s E m qv ql nv cv nl cl w).mono fun e w' h => ⟨by rw [h.1]; rfl, h.2⟩
end Go.Proofs.YtefjdmjkofaajaaGreatDoor

namespace Go.Dm
open Go Go.RowKit
theorem pairAt_extB {l m : List PairS} (hlen : l.length = m.length) (h : ∀ k, k < l.length → pairAt l k = pairAt m k) : l = m := by
 apply List.ext_getElem hlen
 intro i h1 h2
 have := h i h1
 simpa [pairAt, h1, h2] using this
end Go.Dm
namespace Go.Proofs.YtefjdmjkofaajaaGreatDoor
open Go.RowKit Go.Dm

set_option maxHeartbeats 2000000 in
theorem pairsEq_w (l m : List PairS) (v v2 : Value) (w : World) (hl : l.length ≤ 35184372088832) (hx : Pairs w v l) (hy : Pairs w v2 m) :
  Calls Tryz.prog 96 #[v, v2] w fun e w' => e = .returned (.bool (decide (l = m))) ∧ Ext w w' := by
 obtain ⟨q, cap, rfl, hcap, hcm⟩ := hx.shape
 obtain ⟨q2, cap2, rfl, hcap2, hcm2⟩ := hy.shape
 by_cases hlen : l.length = m.length
 ·have heq : (∀ k, k < l.length → pairAt l k = pairAt m k) → decide (l = m) = true := fun h => decide_eq_true (pairAt_extB hlen h)
  have hneq : ∀ k, k < l.length → pairAt l k ≠ pairAt m k → decide (l = m) = false := fun k hk h => decide_eq_false (fun e => h (by rw [e]))
  generalize decide (l = m) = d at *
  replace heq := Lib.hid heq
  replace hneq := Lib.hid hneq
  have hlt' : ∀ k, k < l.length → k < m.length := fun k h => hlen ▸ h
  have hlenI : ((m.length : Nat) : Int) = ((l.length : Nat) : Int) := by rw [hlen]
  go_enter Tryz.func96, Tryz.ntmps96
  go_wp2
  go_loopw [13] (fun i' wr => ∃ k : Nat, k ≤ l.length ∧ i' = .int .i64 k ∧ Ext w wr ∧ Hid (∀ j, j < k → pairAt l j = pairAt m j)) (fun i' _ => l.length - (intOf i').toNat)
  case atStart => exact ⟨0, by omega, rfl, Ext.refl _, fun j hj => by omega⟩
  case round =>
   obtain ⟨k, hk, rfl, hb, HN⟩ := hrel
   by_cases hlt : k < l.length
   ·have hlt2 := hlt' k hlt
    obtain ⟨b, off, rfl, hbl, c0, c1⟩ := (hx.ext hb).at hlt
    obtain ⟨b2, off2, rfl, hbl2, d0, d1⟩ := (hy.ext hb).at hlt2
    have hq : ∀ U, (Op.equalIn 10000 126 (.agg #[.string (pairAt l k).1, .string (pairAt l k).2]) (.agg #[.string (pairAt m k).1, .string (pairAt m k).2])).run Tryz.prog U = .ok (decide (pairAt l k = pairAt m k)) U := fun U => by
     rw [Tryz.eq_pair]
     congr 1
     rw [Bool.eq_iff_iff, Bool.and_eq_true, bytes_eq, bytes_eq, decide_eq_true_eq]
     exact ⟨fun h => Prod.ext h.1 h.2, fun h => by rw [h]; exact ⟨rfl, rfl⟩⟩
    by_cases he : pairAt l k = pairAt m k
    ·have HN2 : Hid (∀ j, j < k + 1 → pairAt l j = pairAt m j) := fun j hj => by
      rcases Nat.lt_succ_iff_lt_or_eq.1 hj with h | rfl
      ·exact HN.out j h
      ·exact he
     rw [decide_eq_true he] at hq
     replace he := Lib.hid he
     go_wp2_with fail
     refine Dm.wp_region_grow (by kernel_rfl) (by kernel_rfl) ?_
     repeat (go_big_quiet_step (fail))
     refine wpQuiet_nil ?_
     intro U hU
     have hU' := hb.trans hU
     go_wp2
     go_roundw
     case rel => exact ⟨k + 1, by omega, by go_num, hU', HN2⟩
     case measure => simp [intOf]; omega
    ·rw [decide_eq_false he] at hq
     have hd := hneq.out k hlt he
     replace he := Lib.hid he
     subst hd
     go_wp2_with fail
     refine Dm.wp_region_grow (by kernel_rfl) (by kernel_rfl) ?_
     repeat (go_big_quiet_step (fail))
     refine wpQuiet_nil ?_
     intro U hU
     have hU' := hb.trans hU
     go_wp2
     go_ret
     exact ⟨rfl, hU'⟩
   ·obtain rfl : k = l.length := by omega
    have hd := heq.out HN.out
    subst hd
    go_wp2
    go_ret
    exact ⟨rfl, hb⟩
 ·rw [decide_eq_false (fun e => hlen (by rw [e]))]
  have hlenI : ¬ ((l.length : Nat) : Int) = ((m.length : Nat) : Int) := by omega
  go_enter Tryz.func96, Tryz.ntmps96
  go_wp2
  go_ret
  exact ⟨rfl, Ext.refl _⟩

end Go.Proofs.YtefjdmjkofaajaaGreatDoor

namespace Go.Proofs.YtefjdmjkofaajaaGreatDoor
open Go.RowKit Go.Dm

set_option maxHeartbeats 4000000 in
set_option maxRecDepth 100000 in
theorem asame_w (k1 : Int) (i1 n1 : Nat) (p1 : ByteArray) (d1 : Vc) (s1 : ByteArray) (e1 : Vc) (m1 : Nums3) (v1 l1 : Value) (R1 : List RowS) (P1 : List PairS) (k2 : Int) (i2 n2 : Nat) (p2 : ByteArray) (d2 : Vc) (s2 : ByteArray) (e2 : Vc) (m2 : Nums3) (v2 l2 : Value) (R2 : List RowS) (P2 : List PairS) (w : World)
  (hd1 : OkV d1) (hd2 : OkV d2) (he1 : OkV e1) (he2 : OkV e2) (hm : R1.length ≤ 35184372088832) (hf : FitR R1) (hx1 : Terms w v1 R1) (hx2 : Terms w v2 R2) (hpm : P1.length ≤ 35184372088832) (hy1 : Pairs w l1 P1) (hy2 : Pairs w l2 P2) :
  Calls Tryz.prog 56 #[opV k1 i1 n1 p1 (vG d1) s1 (vG e1) m1 v1 l1, opV k2 i2 n2 p2 (vG d2) s2 (vG e2) m2 v2 l2] w fun e w' => e = .returned (.bool (decide (i1 = i2) && (decide (n1 = n2) && (decide (p1 = p2) && (decide (d1 = d2) && (sameX (s1, e1, m1, R1.map rowT) (s2, e2, m2, R2.map rowT) && decide (P1 = P2))))))) ∧ Ext w w' := by
 obtain ⟨q1, c1, rfl, _, _⟩ := hx1.shape
 obtain ⟨q2, c2, rfl, _, _⟩ := hx2.shape
 obtain ⟨ql1, cl1, rfl, _, _⟩ := hy1.shape
 obtain ⟨ql2, cl2, rfl, _, _⟩ := hy2.shape
 have CS := fun U (h : Ext w U) => xsame_w s1 e1 m1 _ R1 s2 e2 m2 _ R2 U he1 he2 hm hf (hx1.ext h) (hx2.ext h)
 have CP := fun U (h : Ext w U) => pairsEq_w P1 P2 _ _ U hpm (hy1.ext h) (hy2.ext h)
 have qv := fun U => run_eql_vals (P := Tryz.prog) Tryz.underlying27 Tryz.underlying25 (by kernel_rfl) hd1 hd2 U
 unfold vVal vF at qv
 unfold spVal at CS
 have ht := beq_texts p1 p2
 obtain ⟨sx, hsx⟩ : ∃ b, sameX (s1, e1, m1, R1.map rowT) (s2, e2, m2, R2.map rowT) = b := ⟨_, rfl⟩
 obtain ⟨dp, hdp⟩ : ∃ b, decide (P1 = P2) = b := ⟨_, rfl⟩
 obtain ⟨dd, hdd⟩ : ∃ b, decide (d1 = d2) = b := ⟨_, rfl⟩
 obtain ⟨pp, hpp⟩ : ∃ b, decide (p1 = p2) = b := ⟨_, rfl⟩
 rw [hsx] at CS
 rw [hdp] at CP
 rw [hdd] at qv
 rw [hpp] at ht
 replace hsx := Lib.hid hsx
 replace hdp := Lib.hid hdp
 replace hdd := Lib.hid hdd
 replace hpp := Lib.hid hpp
 have i1i : (i1 = i2) ↔ ((i1 : Int) = (i2 : Int)) := by omega
 have n1i : (n1 = n2) ↔ ((n1 : Int) = (n2 : Int)) := by omega
 replace CS := Lib.hid CS
 replace CP := Lib.hid CP
 have hA : RB w.heap.size 33 [.int .i64 k1, .int .u64 (i1 : Nat), .int .u64 (n1 : Nat), .string p1, .int .u64 ((vG d1) 0 : Nat), .int .u64 ((vG d1) 1 : Nat), .int .u64 ((vG d1) 2 : Nat), .int .u64 ((vG d1) 3 : Nat), .string s1, .int .u64 ((vG e1) 0 : Nat), .int .u64 ((vG e1) 1 : Nat), .int .u64 ((vG e1) 2 : Nat), .int .u64 ((vG e1) 3 : Nat), .int .i64 m1.1, .int .i64 m1.2.1, .int .i64 m1.2.2, .slice q1 R1.length c1, .slice ql1 P1.length cl1] (w.alloc (.cells #[.int .i64 k1, .int .u64 (i1 : Nat), .int .u64 (n1 : Nat), .string p1, .int .u64 ((vG d1) 0 : Nat), .int .u64 ((vG d1) 1 : Nat), .int .u64 ((vG d1) 2 : Nat), .int .u64 ((vG d1) 3 : Nat), .string s1, .int .u64 ((vG e1) 0 : Nat), .int .u64 ((vG e1) 1 : Nat), .int .u64 ((vG e1) 2 : Nat), .int .u64 ((vG e1) 3 : Nat), .int .i64 m1.1, .int .i64 m1.2.1, .int .i64 m1.2.2, .slice q1 R1.length c1, .slice ql1 P1.length cl1] 33)) := RB.new w 33 [.int .i64 k1, .int .u64 (i1 : Nat), .int .u64 (n1 : Nat), .string p1, .int .u64 ((vG d1) 0 : Nat), .int .u64 ((vG d1) 1 : Nat), .int .u64 ((vG d1) 2 : Nat), .int .u64 ((vG d1) 3 : Nat), .string s1, .int .u64 ((vG e1) 0 : Nat), .int .u64 ((vG e1) 1 : Nat), .int .u64 ((vG e1) 2 : Nat), .int .u64 ((vG e1) 3 : Nat), .int .i64 m1.1, .int .i64 m1.2.1, .int .i64 m1.2.2, .slice q1 R1.length c1, .slice ql1 P1.length cl1]
 have hE : Ext w (w.alloc (.cells #[.int .i64 k1, .int .u64 (i1 : Nat), .int .u64 (n1 : Nat), .string p1, .int .u64 ((vG d1) 0 : Nat), .int .u64 ((vG d1) 1 : Nat), .int .u64 ((vG d1) 2 : Nat), .int .u64 ((vG d1) 3 : Nat), .string s1, .int .u64 ((vG e1) 0 : Nat), .int .u64 ((vG e1) 1 : Nat), .int .u64 ((vG e1) 2 : Nat), .int .u64 ((vG e1) 3 : Nat), .int .i64 m1.1, .int .i64 m1.2.1, .int .i64 m1.2.2, .slice q1 R1.length c1, .slice ql1 P1.length cl1] 33)) := (Ext.refl _).alloc _
 generalize hW1 : w.alloc (.cells #[.int .i64 k1, .int .u64 (i1 : Nat), .int .u64 (n1 : Nat), .string p1, .int .u64 ((vG d1) 0 : Nat), .int .u64 ((vG d1) 1 : Nat), .int .u64 ((vG d1) 2 : Nat), .int .u64 ((vG d1) 3 : Nat), .string s1, .int .u64 ((vG e1) 0 : Nat), .int .u64 ((vG e1) 1 : Nat), .int .u64 ((vG e1) 2 : Nat), .int .u64 ((vG e1) 3 : Nat), .int .i64 m1.1, .int .i64 m1.2.1, .int .i64 m1.2.2, .slice q1 R1.length c1, .slice ql1 P1.length cl1] 33) = w1 at *
 have hB : RB w1.heap.size 33 [.int .i64 k2, .int .u64 (i2 : Nat), .int .u64 (n2 : Nat), .string p2, .int .u64 ((vG d2) 0 : Nat), .int .u64 ((vG d2) 1 : Nat), .int .u64 ((vG d2) 2 : Nat), .int .u64 ((vG d2) 3 : Nat), .string s2, .int .u64 ((vG e2) 0 : Nat), .int .u64 ((vG e2) 1 : Nat), .int .u64 ((vG e2) 2 : Nat), .int .u64 ((vG e2) 3 : Nat), .int .i64 m2.1, .int .i64 m2.2.1, .int .i64 m2.2.2, .slice q2 R2.length c2, .slice ql2 P2.length cl2] (w1.alloc (.cells #[.int .i64 k2, .int .u64 (i2 : Nat), .int .u64 (n2 : Nat), .string p2, .int .u64 ((vG d2) 0 : Nat), .int .u64 ((vG d2) 1 : Nat), .int .u64 ((vG d2) 2 : Nat), .int .u64 ((vG d2) 3 : Nat), .string s2, .int .u64 ((vG e2) 0 : Nat), .int .u64 ((vG e2) 1 : Nat), .int .u64 ((vG e2) 2 : Nat), .int .u64 ((vG e2) 3 : Nat), .int .i64 m2.1, .int .i64 m2.2.1, .int .i64 m2.2.2, .slice q2 R2.length c2, .slice ql2 P2.length cl2] 33)) := RB.new w1 33 [.int .i64 k2, .int .u64 (i2 : Nat), .int .u64 (n2 : Nat), .string p2, .int .u64 ((vG d2) 0 : Nat), .int .u64 ((vG d2) 1 : Nat), .int .u64 ((vG d2) 2 : Nat), .int .u64 ((vG d2) 3 : Nat), .string s2, .int .u64 ((vG e2) 0 : Nat), .int .u64 ((vG e2) 1 : Nat), .int .u64 ((vG e2) 2 : Nat), .int .u64 ((vG e2) 3 : Nat), .int .i64 m2.1, .int .i64 m2.2.1, .int .i64 m2.2.2, .slice q2 R2.length c2, .slice ql2 P2.length cl2]
 have ee : Ext w1 (w1.alloc (.cells #[.int .i64 k2, .int .u64 (i2 : Nat), .int .u64 (n2 : Nat), .string p2, .int .u64 ((vG d2) 0 : Nat), .int .u64 ((vG d2) 1 : Nat), .int .u64 ((vG d2) 2 : Nat), .int .u64 ((vG d2) 3 : Nat), .string s2, .int .u64 ((vG e2) 0 : Nat), .int .u64 ((vG e2) 1 : Nat), .int .u64 ((vG e2) 2 : Nat), .int .u64 ((vG e2) 3 : Nat), .int .i64 m2.1, .int .i64 m2.2.1, .int .i64 m2.2.2, .slice q2 R2.length c2, .slice ql2 P2.length cl2] 33)) := (Ext.refl _).alloc _
 generalize hW2 : w1.alloc (.cells #[.int .i64 k2, .int .u64 (i2 : Nat), .int .u64 (n2 : Nat), .string p2, .int .u64 ((vG d2) 0 : Nat), .int .u64 ((vG d2) 1 : Nat), .int .u64 ((vG d2) 2 : Nat), .int .u64 ((vG d2) 3 : Nat), .string s2, .int .u64 ((vG e2) 0 : Nat), .int .u64 ((vG e2) 1 : Nat), .int .u64 ((vG e2) 2 : Nat), .int .u64 ((vG e2) 3 : Nat), .int .i64 m2.1, .int .i64 m2.2.1, .int .i64 m2.2.2, .slice q2 R2.length c2, .slice ql2 P2.length cl2] 33) = w2 at *
 replace hA := hA.ext ee
 replace hE := hE.trans ee
 obtain ⟨bA, hbA⟩ : ∃ x, w.heap.size = x := ⟨_, rfl⟩
 obtain ⟨bB, hbB⟩ : ∃ x, w1.heap.size = x := ⟨_, rfl⟩
 rw [hbA] at hA
 rw [hbB] at hB
 have al := hA.lt
 have bl := hB.lt
 have x1 : w2.cell? ⟨bA, 1, none⟩ = some (.int .u64 (i1 : Nat)) := hA.cell 1
 have x2 : w2.cell? ⟨bA, 2, none⟩ = some (.int .u64 (n1 : Nat)) := hA.cell 2
 have x3 : w2.cell? ⟨bA, 3, none⟩ = some (.string p1) := hA.cell 3
 have x4 : w2.cell? ⟨bA, 4, none⟩ = some (.int .u64 ((vG d1) 0 : Nat)) := hA.cell 4
 have x5 : w2.cell? ⟨bA, 5, none⟩ = some (.int .u64 ((vG d1) 1 : Nat)) := hA.cell 5
 have x6 : w2.cell? ⟨bA, 6, none⟩ = some (.int .u64 ((vG d1) 2 : Nat)) := hA.cell 6
 have x7 : w2.cell? ⟨bA, 7, none⟩ = some (.int .u64 ((vG d1) 3 : Nat)) := hA.cell 7
 have x8 : w2.cell? ⟨bA, 8, none⟩ = some (.string s1) := hA.cell 8
 have x9 : w2.cell? ⟨bA, 9, none⟩ = some (.int .u64 ((vG e1) 0 : Nat)) := hA.cell 9
 have x10 : w2.cell? ⟨bA, 10, none⟩ = some (.int .u64 ((vG e1) 1 : Nat)) := hA.cell 10
 have x11 : w2.cell? ⟨bA, 11, none⟩ = some (.int .u64 ((vG e1) 2 : Nat)) := hA.cell 11
 have x12 : w2.cell? ⟨bA, 12, none⟩ = some (.int .u64 ((vG e1) 3 : Nat)) := hA.cell 12
 have x13 : w2.cell? ⟨bA, 13, none⟩ = some (.int .i64 m1.1) := hA.cell 13
 have x14 : w2.cell? ⟨bA, 14, none⟩ = some (.int .i64 m1.2.1) := hA.cell 14
 have x15 : w2.cell? ⟨bA, 15, none⟩ = some (.int .i64 m1.2.2) := hA.cell 15
 have x16 : w2.cell? ⟨bA, 16, none⟩ = some (.slice q1 R1.length c1) := hA.cell 16
 have x17 : w2.cell? ⟨bA, 17, none⟩ = some (.slice ql1 P1.length cl1) := hA.cell 17
 have y1 : w2.cell? ⟨bB, 1, none⟩ = some (.int .u64 (i2 : Nat)) := hB.cell 1
 have y2 : w2.cell? ⟨bB, 2, none⟩ = some (.int .u64 (n2 : Nat)) := hB.cell 2
 have y3 : w2.cell? ⟨bB, 3, none⟩ = some (.string p2) := hB.cell 3
 have y4 : w2.cell? ⟨bB, 4, none⟩ = some (.int .u64 ((vG d2) 0 : Nat)) := hB.cell 4
 have y5 : w2.cell? ⟨bB, 5, none⟩ = some (.int .u64 ((vG d2) 1 : Nat)) := hB.cell 5
 have y6 : w2.cell? ⟨bB, 6, none⟩ = some (.int .u64 ((vG d2) 2 : Nat)) := hB.cell 6
 have y7 : w2.cell? ⟨bB, 7, none⟩ = some (.int .u64 ((vG d2) 3 : Nat)) := hB.cell 7
 have y8 : w2.cell? ⟨bB, 8, none⟩ = some (.string s2) := hB.cell 8
 have y9 : w2.cell? ⟨bB, 9, none⟩ = some (.int .u64 ((vG e2) 0 : Nat)) := hB.cell 9
 have y10 : w2.cell? ⟨bB, 10, none⟩ = some (.int .u64 ((vG e2) 1 : Nat)) := hB.cell 10
 have y11 : w2.cell? ⟨bB, 11, none⟩ = some (.int .u64 ((vG e2) 2 : Nat)) := hB.cell 11
 have y12 : w2.cell? ⟨bB, 12, none⟩ = some (.int .u64 ((vG e2) 3 : Nat)) := hB.cell 12
 have y13 : w2.cell? ⟨bB, 13, none⟩ = some (.int .i64 m2.1) := hB.cell 13
 have y14 : w2.cell? ⟨bB, 14, none⟩ = some (.int .i64 m2.2.1) := hB.cell 14
 have y15 : w2.cell? ⟨bB, 15, none⟩ = some (.int .i64 m2.2.2) := hB.cell 15
 have y16 : w2.cell? ⟨bB, 16, none⟩ = some (.slice q2 R2.length c2) := hB.cell 16
 have y17 : w2.cell? ⟨bB, 17, none⟩ = some (.slice ql2 P2.length cl2) := hB.cell 17
 clear ee hA hB
 unfold opV
 have rst : ∀ Q : Prop, Q → Q := fun _ h => h
 go_enter Tryz.func56, Tryz.ntmps56
 go_upto_region 1 with fail
 clear hW1 hW2 hbA hbB rst
 by_cases h1 : (i1 : Int) = (i2 : Int)
 ·have g1 := i1i.2 h1
  replace g1 := Lib.hid g1
  by_cases h2 : (n1 : Int) = (n2 : Int)
  ·have g2 := n1i.2 h2
   replace g2 := Lib.hid g2
   cases pp with
   | false =>
    go_wp2
    go_ret
    exact ⟨by rw [hpp.out]; simp, hE⟩
   | true =>
    cases dd with
    | false =>
     go_wp2
     go_ret
     exact ⟨by rw [hdd.out]; simp, hE⟩
    | true =>
     go_wp2_with fail
     refine (CS.out _ hE).mono ?_; rintro e w3 ⟨rfl, h3⟩
     cases sx with
     | false =>
      go_wp2
      go_ret
      exact ⟨by rw [hsx.out]; simp, hE.trans h3⟩
     | true =>
      have lA := Nat.lt_of_lt_of_le al h3.size
      have lB := Nat.lt_of_lt_of_le bl h3.size
      have z1 : w3.cell? ⟨bA, 17, none⟩ = _ := (h3.cell (p := ⟨bA, 17, none⟩) al).trans x17
      have z2 : w3.cell? ⟨bB, 17, none⟩ = _ := (h3.cell (p := ⟨bB, 17, none⟩) bl).trans y17
      go_wp2_with fail
      refine (CP.out _ (hE.trans h3)).mono ?_; rintro e w4 ⟨rfl, h4⟩
      go_wp2
      go_ret
      exact ⟨by rw [hpp.out, hdd.out, hsx.out, hdp.out, decide_eq_true g1.out, decide_eq_true g2.out]; simp, (hE.trans h3).trans h4⟩
  ·have g2 : ¬ n1 = n2 := fun h => h2 (n1i.1 h)
   replace g2 := Lib.hid g2
   go_wp2
   go_ret
   exact ⟨by rw [decide_eq_false g2.out]; simp, hE⟩
 ·have g1 : ¬ i1 = i2 := fun h => h1 (i1i.1 h)
  replace g1 := Lib.hid g1
  go_wp2
  go_ret
  exact ⟨by rw [decide_eq_false g1.out]; simp, hE⟩
end Go.Proofs.YtefjdmjkofaajaaGreatDoor

namespace Go.Dm
open Go Go.RowKit
/-- An op: its kind, numbers, path, amount, job, labels. -/
abbrev OpQ := Int × (Nat × Nat) × ByteArray × Vc × SpQ × List PairS
def bareO (f : Fld) (o : OpQ) : OpQ := (o.1, (cond f.1 o.2.1.1 0, cond f.2.1 o.2.1.2 0), cond f.2.2.1 o.2.2.1 ⟨#[]⟩, cond f.2.2.2.1 o.2.2.2.1 noV, cond f.2.2.2.2.1 o.2.2.2.2.1 noSp, cond f.2.2.2.2.2 o.2.2.2.2.2 [])
def eqO (a b : OpQ) : Bool := decide (a.2.1.1 = b.2.1.1) && (decide (a.2.1.2 = b.2.1.2) && (decide (a.2.2.1 = b.2.2.1) && (decide (a.2.2.2.1 = b.2.2.2.1) && (sameX a.2.2.2.2.1 b.2.2.2.2.1 && decide (a.2.2.2.2.2 = b.2.2.2.2.2)))))
/-- P18.1. -/
def rightO (o : OpQ) : Bool := match knownF o.1 with
 | none => false
 | some f => eqO o (bareO f o) && ((!f.2.2.2.2.1 || decide (chkX o.2.2.2.2.1 = 0)) && (decide (o.2.2.1.size ≤ 98) && rightLab (labL o.2.2.2.2.2)))
theorem vG_noV : vG noV = fun _ => 0 := by
 funext i
 match i with
 | 0 | 1 | 2 | 3 => rfl
 | _ + 4 => rfl
theorem bareV_eq (f : Fld) (k : Int) (i n : Nat) (p : ByteArray) (d : Vc) (s : ByteArray) (e : Vc) (m : Nums3) (v l : Value) :
  bareV f k i n p (vG d) s (vG e) m v l = opV k (cond f.1 i 0) (cond f.2.1 n 0) (cond f.2.2.1 p ⟨#[]⟩) (vG (cond f.2.2.2.1 d noV)) (cond f.2.2.2.2.1 s ⟨#[]⟩) (vG (cond f.2.2.2.2.1 e noV)) (cond f.2.2.2.2.1 m (0, 0, 0)) (cond f.2.2.2.2.1 v (.slice none 0 0)) (cond f.2.2.2.2.2 l (.slice none 0 0)) := by
 obtain ⟨b0, b1, b2, b3, b4, b5⟩ := f
 unfold bareV
 cases b3 <;> cases b4 <;> simp [vG_noV]
end Go.Dm
namespace Go.Proofs.YtefjdmjkofaajaaGreatDoor
open Go.RowKit Go.Dm

theorem samebare_w (f : Fld) (k : Int) (i n : Nat) (p : ByteArray) (d : Vc) (s : ByteArray) (e : Vc) (m : Nums3) (v l : Value) (R : List RowS) (P : List PairS) (w : World)
  (hd : OkV d) (he : OkV e) (hm : R.length ≤ 35184372088832) (hf : FitR R) (hx : Terms w v R) (hpm : P.length ≤ 35184372088832) (hy : Pairs w l P) :
  Calls Tryz.prog 56 #[opV k i n p (vG d) s (vG e) m v l, bareV f k i n p (vG d) s (vG e) m v l] w fun e_ w' => e_ = .returned (.bool (eqO (k, (i, n), p, d, (s, e, m, R.map rowT), P) (bareO f (k, (i, n), p, d, (s, e, m, R.map rowT), P)))) ∧ Ext w w' := by
 rw [bareV_eq]
 obtain ⟨b0, b1, b2, b3, b4, b5⟩ := f
 have hx2 : Terms w (cond b4 v (.slice none 0 0)) (cond b4 R []) := by
  cases b4
  ·exact Terms.nil w
  ·exact hx
 have hy2 : Pairs w (cond b5 l (.slice none 0 0)) (cond b5 P []) := by
  cases b5
  ·exact Pairs.nil w
  ·exact hy
 have hd2 : OkV (cond b3 d noV) := by
  cases b3
  ·exact okV_no
  ·exact hd
 have he2 : OkV (cond b4 e noV) := by
  cases b4
  ·exact okV_no
  ·exact he
 refine (asame_w k i n p d s e m v l R P k (cond b0 i 0) (cond b1 n 0) (cond b2 p ⟨#[]⟩) (cond b3 d noV) (cond b4 s ⟨#[]⟩) (cond b4 e noV) (cond b4 m (0, 0, 0)) (cond b4 v (.slice none 0 0)) (cond b5 l (.slice none 0 0)) (cond b4 R []) (cond b5 P []) w hd hd2 he he2 hm hf hx hx2 hpm hy hy2).mono fun e_ w' h => ⟨?_, h.2⟩
 rw [h.1]
 unfold eqO bareO
 cases b4 <;> rfl


end Go.Proofs.YtefjdmjkofaajaaGreatDoor
