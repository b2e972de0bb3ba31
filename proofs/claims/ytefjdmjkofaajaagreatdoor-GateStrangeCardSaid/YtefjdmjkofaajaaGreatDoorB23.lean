/- Texts one behind the other: Chapter 18: an op as cells; the walk of bare. -/
import Derived.Test.YtefjdmjkofaajaaGreatDoorB41
namespace Go.Dm
open Go Go.RowKit
/-- An op as a value; its selector and its labels are values of their own. -/
def opV (k : Int) (i n : Nat) (p : ByteArray) (D : Nat → Nat) (s : ByteArray) (E : Nat → Nat) (m : Nums3) (v l : Value) : Value := .agg #[.int .i64 k, .int .u64 (i : Nat), .int .u64 (n : Nat), .string p, .int .u64 (D 0 : Nat), .int .u64 (D 1 : Nat), .int .u64 (D 2 : Nat), .int .u64 (D 3 : Nat), .string s, .int .u64 (E 0 : Nat), .int .u64 (E 1 : Nat), .int .u64 (E 2 : Nat), .int .u64 (E 3 : Nat), .int .i64 m.1, .int .i64 m.2.1, .int .i64 m.2.2, v, l]
/-- A block that holds just these cells. -/
def RB (b : Nat) (t : TypeId) (cs : List Value) (w : World) : Prop := w.heap[b]? = some (.cells cs.toArray t (0, 0))
theorem RB.lt {b : Nat} {t : TypeId} {cs : List Value} {w : World} (h : RB b t cs w) : b < w.heap.size := (Array.getElem?_eq_some_iff.1 h).1
theorem RB.ext {b : Nat} {t : TypeId} {cs : List Value} {w w' : World} (h : RB b t cs w) (hx : Ext w w') : RB b t cs w' := Ext.heap h hx
theorem RB.new (w : World) (t : TypeId) (cs : List Value) : RB w.heap.size t cs (w.alloc (.cells cs.toArray t)) := by
 show (w.heap.push _)[w.heap.size]? = _
 simp
theorem new_row (w : World) (t : TypeId) (cs : List Value) : ∃ w', w.alloc (.cells cs.toArray t) = w' ∧ RB w.heap.size t cs w' ∧ Ext w w' ∧ w'.heap.size = w.heap.size + 1 := ⟨_, rfl, RB.new w t cs, (Ext.refl _).alloc _, World.size_alloc ..⟩
theorem RB.cell {b : Nat} {t : TypeId} {cs : List Value} {w : World} (h : RB b t cs w) (i : Nat) : w.cell? ⟨b, i, none⟩ = cs[i]? := by
 rw [cell_of_row w b i _ _ _ h]; simp
theorem RB.free {b : Nat} {t : TypeId} {cs : List Value} {w : World} (h : RB b t cs w) (i : Nat) : w.frozen? ⟨b, i, none⟩ = false := by
 simp [World.frozen?, show w.heap[b]? = _ from h]
theorem RB.set {b : Nat} {t : TypeId} {cs : List Value} {w : World} (h : RB b t cs w) (i : Nat) (u : Value) : RB b t (cs.set i u) (w.setCell ⟨b, i, none⟩ u) := by
 have h := show w.heap[b]? = _ from h
 show (w.setCell ⟨b, i, none⟩ u).heap[b]? = _
 simp only [World.setCell, Array.getElem?_modify, h]
 simp
theorem RB.far {b c i : Nat} {t : TypeId} {cs : List Value} {w : World} (h : RB b t cs w) (hbc : c ≠ b) (u : Value) : RB b t cs (w.setCell ⟨c, i, none⟩ u) := by
 have h := show w.heap[b]? = _ from h
 show (w.setCell ⟨c, i, none⟩ u).heap[b]? = _
 simp only [World.setCell, Array.getElem?_modify, if_neg hbc]
 exact h
theorem RB.setRow {b : Nat} {t : TypeId} {cs : List Value} {w : World} (h : RB b t cs w) (cs' : List Value) : RB b t cs' (w.setRow b cs'.toArray) := by
 have h := show w.heap[b]? = _ from h
 show (w.setRow b cs'.toArray).heap[b]? = _
 simp [World.setRow, Array.getElem?_modify, h]
theorem RB.farRow {b c : Nat} {t : TypeId} {cs : List Value} {w : World} (h : RB b t cs w) (hbc : c ≠ b) (cs' : Array Value) : RB b t cs (w.setRow c cs') := by
 have h := show w.heap[b]? = _ from h
 show (w.setRow c cs').heap[b]? = _
 simp only [World.setRow, Array.getElem?_modify, if_neg hbc]
 exact h
theorem set_row {b : Nat} {t : TypeId} {cs : List Value} {w : World} (h : RB b t cs w) (cs' : List Value) : ∃ w', w.setRow b cs'.toArray = w' ∧ RB b t cs' w' ∧ (∀ d t2 cs2, b ≠ d → RB d t2 cs2 w → RB d t2 cs2 w') ∧ (∀ w0, Ext w0 w → w0.heap.size ≤ b → Ext w0 w') :=
 ⟨_, rfl, h.setRow cs', fun _ _ _ hne h2 => h2.farRow hne _, fun _ hx hb => Ext.setRow hx hb _⟩
/-- An op without the fields that its kind has not. -/
def bareV (f : Fld) (k : Int) (i n : Nat) (p : ByteArray) (D : Nat → Nat) (s : ByteArray) (E : Nat → Nat) (m : Nums3) (v l : Value) : Value :=
 opV k (cond f.1 i 0) (cond f.2.1 n 0) (cond f.2.2.1 p ⟨#[]⟩) (cond f.2.2.2.1 D fun _ => 0) (cond f.2.2.2.2.1 s ⟨#[]⟩) (cond f.2.2.2.2.1 E fun _ => 0) (cond f.2.2.2.2.1 m (0, 0, 0)) (cond f.2.2.2.2.1 v (.slice none 0 0)) (cond f.2.2.2.2.2 l (.slice none 0 0))
def isFld (f : Fld) : Prop := f = (false, false, false, false, true, false) ∨ f = (true, false, false, false, false, false) ∨ f = (false, false, true, true, false, false) ∨ f = (false, true, false, false, false, false) ∨ f = (false, false, true, false, false, false) ∨ f = (false, false, false, true, false, false) ∨ f = (false, false, true, true, false, true) ∨ f = (false, false, false, false, false, false)
theorem knownF_is {z : Int} {f : Fld} (h : knownF z = some f) : isFld f := by
 simp only [knownF, putKF] at h
 unfold isFld
 by_cases e13 : z = 13
 ·rw [if_pos e13] at h
  injection h with h
  subst h
  simp
 rw [if_neg e13] at h
 by_cases e12 : z = 12
 ·rw [if_pos e12] at h
  injection h with h
  subst h
  simp
 rw [if_neg e12] at h
 by_cases e11 : z = 11
 ·rw [if_pos e11] at h
  injection h with h
  subst h
  simp
 rw [if_neg e11] at h
 by_cases e10 : z = 10
 ·rw [if_pos e10] at h
  injection h with h
  subst h
  simp
 rw [if_neg e10] at h
 by_cases e9 : z = 9
 ·rw [if_pos e9] at h
  injection h with h
  subst h
  simp
 rw [if_neg e9] at h
 by_cases e8 : z = 8
 ·rw [if_pos e8] at h
  injection h with h
  subst h
  simp
 rw [if_neg e8] at h
 by_cases e7 : z = 7
 ·rw [if_pos e7] at h
  injection h with h
  subst h
  simp
 rw [if_neg e7] at h
 by_cases e6 : z = 6
 ·rw [if_pos e6] at h
  injection h with h
  subst h
  simp
 rw [if_neg e6] at h
 by_cases e5 : z = 5
 ·rw [if_pos e5] at h
  injection h with h
  subst h
  simp
 rw [if_neg e5] at h
 by_cases e4 : z = 4
 ·rw [if_pos e4] at h
  injection h with h
  subst h
  simp
 rw [if_neg e4] at h
 by_cases e3 : z = 3
 ·rw [if_pos e3] at h
  injection h with h
  subst h
  simp
 rw [if_neg e3] at h
 by_cases e2 : z = 2
 ·rw [if_pos e2] at h
  injection h with h
  subst h
  simp
 rw [if_neg e2] at h
 by_cases e1 : z = 1
 ·rw [if_pos e1] at h
  injection h with h
  subst h
  simp
 rw [if_neg e1] at h
 cases h
end Go.Dm
namespace Go.Proofs.YtefjdmjkofaajaaGreatDoor
open Go.RowKit Go.Dm

set_option maxHeartbeats 2000000 in
set_option maxRecDepth 100000 in
theorem bare0_w (k : Int) (i n : Nat) (p : ByteArray) (D : Nat → Nat) (s : ByteArray) (E : Nat → Nat) (m : Nums3) (qv ql : Option Addr) (nv cv nl cl : Nat) (w : World) :
  Calls Tryz.prog 57 #[.agg #[.int .i64 k, .int .u64 (i : Nat), .int .u64 (n : Nat), .string p, .int .u64 (D 0 : Nat), .int .u64 (D 1 : Nat), .int .u64 (D 2 : Nat), .int .u64 (D 3 : Nat), .string s, .int .u64 (E 0 : Nat), .int .u64 (E 1 : Nat), .int .u64 (E 2 : Nat), .int .u64 (E 3 : Nat), .int .i64 m.1, .int .i64 m.2.1, .int .i64 m.2.2, .slice qv nv cv, .slice ql nl cl], .agg #[.bool false, .bool false, .bool false, .bool false, .bool true, .bool false]] w fun e w' => e = .returned (.agg #[.int .i64 k, .int .u64 0, .int .u64 0, .string ⟨#[]⟩, .int .u64 0, .int .u64 0, .int .u64 0, .int .u64 0, .string s, .int .u64 (E 0 : Nat), .int .u64 (E 1 : Nat), .int .u64 (E 2 : Nat), .int .u64 (E 3 : Nat), .int .i64 m.1, .int .i64 m.2.1, .int .i64 m.2.2, .slice qv nv cv, .slice none 0 0]) ∧ Ext w w' := by
 obtain ⟨w1, hW1, hO, hE, s1⟩ := new_row w 33 [.int .i64 k, .int .u64 (i : Nat), .int .u64 (n : Nat), .string p, .int .u64 (D 0 : Nat), .int .u64 (D 1 : Nat), .int .u64 (D 2 : Nat), .int .u64 (D 3 : Nat), .string s, .int .u64 (E 0 : Nat), .int .u64 (E 1 : Nat), .int .u64 (E 2 : Nat), .int .u64 (E 3 : Nat), .int .i64 m.1, .int .i64 m.2.1, .int .i64 m.2.2, .slice qv nv cv, .slice ql nl cl]
 obtain ⟨w2, hW2, hF, e2, s2⟩ := new_row w1 108 [.bool false, .bool false, .bool false, .bool false, .bool true, .bool false]
 obtain ⟨w3, hW3, hR, e3, s3⟩ := new_row w2 33 [.int .i64 0, .int .u64 0, .int .u64 0, .string ⟨#[]⟩, .int .u64 0, .int .u64 0, .int .u64 0, .int .u64 0, .string ⟨#[]⟩, .int .u64 0, .int .u64 0, .int .u64 0, .int .u64 0, .int .i64 0, .int .i64 0, .int .i64 0, .slice none 0 0, .slice none 0 0]
 obtain ⟨w4, hW4, hN, e4, _⟩ := new_row w3 33 [.int .i64 0, .int .u64 0, .int .u64 0, .string ⟨#[]⟩, .int .u64 0, .int .u64 0, .int .u64 0, .int .u64 0, .string ⟨#[]⟩, .int .u64 0, .int .u64 0, .int .u64 0, .int .u64 0, .int .i64 0, .int .i64 0, .int .i64 0, .slice none 0 0, .slice none 0 0]
 obtain ⟨bF, hbF⟩ : ∃ x, w1.heap.size = x := ⟨_, rfl⟩
 obtain ⟨bR, hbR⟩ : ∃ x, w2.heap.size = x := ⟨_, rfl⟩
 obtain ⟨bN, hbN⟩ : ∃ x, w3.heap.size = x := ⟨_, rfl⟩
 have q1 : w.heap.size ≤ bR ∧ bR < bN ∧ w.heap.size < bR ∧ bF < bR ∧ w.heap.size < w3.heap.size := by omega
 obtain ⟨q1, q2, q3, q4, xl⟩ := q1
 clear s1 s2 s3
 rw [hbF] at hF
 rw [hbR] at hR
 rw [hbN] at hN
 have x0 : w3.cell? ⟨w.heap.size, 0, none⟩ = some (.int .i64 k) := ((hO.ext e2).ext e3).cell 0
 replace hO := ((hO.ext e2).ext e3).ext e4
 replace hF := (hF.ext e3).ext e4
 replace hR := hR.ext e4
 replace hE := ((hE.trans e2).trans e3).trans e4
 rw [hbN] at xl
 have xl' : w.heap.size < w3.heap.size := by omega
 have x0' : w4.cell? ⟨w.heap.size, 0, none⟩ = some (.int .i64 k) := hO.cell 0
 have xl4 := hO.lt
 go_enter Tryz.func57, Tryz.ntmps57
 go_wp2_with (first | (refine wpList_store_row (cells := #[.int .i64 k, .int .u64 0, .int .u64 0, .string ⟨#[]⟩, .int .u64 0, .int .u64 0, .int .u64 0, .int .u64 0, .string ⟨#[]⟩, .int .u64 0, .int .u64 0, .int .u64 0, .int .u64 0, .int .i64 0, .int .i64 0, .int .i64 0, .slice none 0 0, .slice none 0 0]) rfl 33 _ _ rfl bN rfl rfl _ _ hN (by kernel_rfl) rfl (by first | rfl | decide | simp [Value.oneCell']) ?_; refine Hid.out ?_))
 refine Lib.hid ?_
 obtain ⟨w5, hW5, hN5, hfar, hext⟩ := set_row hN [.int .i64 k, .int .u64 0, .int .u64 0, .string ⟨#[]⟩, .int .u64 0, .int .u64 0, .int .u64 0, .int .u64 0, .string ⟨#[]⟩, .int .u64 0, .int .u64 0, .int .u64 0, .int .u64 0, .int .i64 0, .int .i64 0, .int .i64 0, .slice none 0 0, .slice none 0 0]
 have hO5 := hfar _ _ _ (by omega) hO
 have hF5 := hfar _ _ _ (by omega) hF
 have hR5 := hfar _ _ _ (by omega) hR
 have hE5 := hext _ hE (by omega)
 clear hW1 hW2 hW3 hW4 hbF hbR hbN x0 x0' xl xl' xl4 hN hO hF hR hE e2 e3 e4 hfar hext
 rw [hW5]
 clear hW5
 obtain ⟨bO, hbO⟩ : ∃ x, x = w.heap.size := ⟨_, rfl⟩
 rw [← hbO] at hO5 q3
 rw [← hbO]
 clear hbO
 have hN := hN5
 have hO := hO5
 have hR := hR5
 have hE := hE5
 clear hN5 hO5 hR5 hE5
 have f0 := hF5.cell 0
 have f1 := hF5.cell 1
 have f2 := hF5.cell 2
 have f3 := hF5.cell 3
 have f4 := hF5.cell 4
 have f5 := hF5.cell 5
 simp only [List.getElem?_cons_zero, List.getElem?_cons_succ] at f0 f1 f2 f3 f4 f5
 have fl := hF5.lt
 have bol := hO.lt
 have bnl := hN.lt
 have x8 : w5.cell? ⟨bO, 8, none⟩ = some (.string s) := hO.cell 8
 have x9 : w5.cell? ⟨bO, 9, none⟩ = some (.int .u64 (E 0 : Nat)) := hO.cell 9
 have x10 : w5.cell? ⟨bO, 10, none⟩ = some (.int .u64 (E 1 : Nat)) := hO.cell 10
 have x11 : w5.cell? ⟨bO, 11, none⟩ = some (.int .u64 (E 2 : Nat)) := hO.cell 11
 have x12 : w5.cell? ⟨bO, 12, none⟩ = some (.int .u64 (E 3 : Nat)) := hO.cell 12
 have x13 : w5.cell? ⟨bO, 13, none⟩ = some (.int .i64 m.1) := hO.cell 13
 have x14 : w5.cell? ⟨bO, 14, none⟩ = some (.int .i64 m.2.1) := hO.cell 14
 have x15 : w5.cell? ⟨bO, 15, none⟩ = some (.int .i64 m.2.2) := hO.cell 15
 have x16 : w5.cell? ⟨bO, 16, none⟩ = some (.slice qv nv cv) := hO.cell 16
 have y8 : w5.cell? ⟨bN, 8, none⟩ = some (.string ⟨#[]⟩) := hN.cell 8
 have yf8 := hN.free 8
 have y9 : w5.cell? ⟨bN, 9, none⟩ = some (.int .u64 0) := hN.cell 9
 have yf9 := hN.free 9
 have y10 : w5.cell? ⟨bN, 10, none⟩ = some (.int .u64 0) := hN.cell 10
 have yf10 := hN.free 10
 have y11 : w5.cell? ⟨bN, 11, none⟩ = some (.int .u64 0) := hN.cell 11
 have yf11 := hN.free 11
 have y12 : w5.cell? ⟨bN, 12, none⟩ = some (.int .u64 0) := hN.cell 12
 have yf12 := hN.free 12
 have y13 : w5.cell? ⟨bN, 13, none⟩ = some (.int .i64 0) := hN.cell 13
 have yf13 := hN.free 13
 have y14 : w5.cell? ⟨bN, 14, none⟩ = some (.int .i64 0) := hN.cell 14
 have yf14 := hN.free 14
 have y15 : w5.cell? ⟨bN, 15, none⟩ = some (.int .i64 0) := hN.cell 15
 have yf15 := hN.free 15
 have y16 : w5.cell? ⟨bN, 16, none⟩ = some (.slice none 0 0) := hN.cell 16
 have yf16 := hN.free 16
 go_upto_region 14 with fail
 clear x8 y8 yf8 x9 y9 yf9 x10 y10 yf10 x11 y11 yf11 x12 y12 yf12 x13 y13 yf13 x14 y14 yf14 x15 y15 yf15 x16 y16 yf16
 clear f0 f1 f2 f3 f4 f5 fl bol bnl hF5 hO
 have hN6 : RB bN 33 [.int .i64 k, .int .u64 0, .int .u64 0, .string ⟨#[]⟩, .int .u64 0, .int .u64 0, .int .u64 0, .int .u64 0, .string s, .int .u64 (E 0 : Nat), .int .u64 (E 1 : Nat), .int .u64 (E 2 : Nat), .int .u64 (E 3 : Nat), .int .i64 m.1, .int .i64 m.2.1, .int .i64 m.2.2, .slice qv nv cv, .slice none 0 0] (((((((((w5.setCell ⟨bN, 8, none⟩ (.string s)).setCell ⟨bN, 9, none⟩ (.int .u64 (E 0 : Nat))).setCell ⟨bN, 10, none⟩ (.int .u64 (E 1 : Nat))).setCell ⟨bN, 11, none⟩ (.int .u64 (E 2 : Nat))).setCell ⟨bN, 12, none⟩ (.int .u64 (E 3 : Nat))).setCell ⟨bN, 13, none⟩ (.int .i64 m.1)).setCell ⟨bN, 14, none⟩ (.int .i64 m.2.1)).setCell ⟨bN, 15, none⟩ (.int .i64 m.2.2)).setCell ⟨bN, 16, none⟩ (.slice qv nv cv)) := (((((((((hN.set 8 (.string s)).set 9 (.int .u64 (E 0 : Nat))).set 10 (.int .u64 (E 1 : Nat))).set 11 (.int .u64 (E 2 : Nat))).set 12 (.int .u64 (E 3 : Nat))).set 13 (.int .i64 m.1)).set 14 (.int .i64 m.2.1)).set 15 (.int .i64 m.2.2)).set 16 (.slice qv nv cv))
 have hR6 : RB bR 33 [.int .i64 0, .int .u64 0, .int .u64 0, .string ⟨#[]⟩, .int .u64 0, .int .u64 0, .int .u64 0, .int .u64 0, .string ⟨#[]⟩, .int .u64 0, .int .u64 0, .int .u64 0, .int .u64 0, .int .i64 0, .int .i64 0, .int .i64 0, .slice none 0 0, .slice none 0 0] (((((((((w5.setCell ⟨bN, 8, none⟩ (.string s)).setCell ⟨bN, 9, none⟩ (.int .u64 (E 0 : Nat))).setCell ⟨bN, 10, none⟩ (.int .u64 (E 1 : Nat))).setCell ⟨bN, 11, none⟩ (.int .u64 (E 2 : Nat))).setCell ⟨bN, 12, none⟩ (.int .u64 (E 3 : Nat))).setCell ⟨bN, 13, none⟩ (.int .i64 m.1)).setCell ⟨bN, 14, none⟩ (.int .i64 m.2.1)).setCell ⟨bN, 15, none⟩ (.int .i64 m.2.2)).setCell ⟨bN, 16, none⟩ (.slice qv nv cv)) := (((((((((hR.far (c := bN) (i := 8) (by omega) (.string s)).far (c := bN) (i := 9) (by omega) (.int .u64 (E 0 : Nat))).far (c := bN) (i := 10) (by omega) (.int .u64 (E 1 : Nat))).far (c := bN) (i := 11) (by omega) (.int .u64 (E 2 : Nat))).far (c := bN) (i := 12) (by omega) (.int .u64 (E 3 : Nat))).far (c := bN) (i := 13) (by omega) (.int .i64 m.1)).far (c := bN) (i := 14) (by omega) (.int .i64 m.2.1)).far (c := bN) (i := 15) (by omega) (.int .i64 m.2.2)).far (c := bN) (i := 16) (by omega) (.slice qv nv cv))
 have hE6 : Ext w (((((((((w5.setCell ⟨bN, 8, none⟩ (.string s)).setCell ⟨bN, 9, none⟩ (.int .u64 (E 0 : Nat))).setCell ⟨bN, 10, none⟩ (.int .u64 (E 1 : Nat))).setCell ⟨bN, 11, none⟩ (.int .u64 (E 2 : Nat))).setCell ⟨bN, 12, none⟩ (.int .u64 (E 3 : Nat))).setCell ⟨bN, 13, none⟩ (.int .i64 m.1)).setCell ⟨bN, 14, none⟩ (.int .i64 m.2.1)).setCell ⟨bN, 15, none⟩ (.int .i64 m.2.2)).setCell ⟨bN, 16, none⟩ (.slice qv nv cv)) := (Below.setCell (Below.setCell (Below.setCell (Below.setCell (Below.setCell (Below.setCell (Below.setCell (Below.setCell (Below.setCell hE (p := ⟨bN, 8, none⟩) (by show _ ≤ bN; omega) (.string s)) (p := ⟨bN, 9, none⟩) (by show _ ≤ bN; omega) (.int .u64 (E 0 : Nat))) (p := ⟨bN, 10, none⟩) (by show _ ≤ bN; omega) (.int .u64 (E 1 : Nat))) (p := ⟨bN, 11, none⟩) (by show _ ≤ bN; omega) (.int .u64 (E 2 : Nat))) (p := ⟨bN, 12, none⟩) (by show _ ≤ bN; omega) (.int .u64 (E 3 : Nat))) (p := ⟨bN, 13, none⟩) (by show _ ≤ bN; omega) (.int .i64 m.1)) (p := ⟨bN, 14, none⟩) (by show _ ≤ bN; omega) (.int .i64 m.2.1)) (p := ⟨bN, 15, none⟩) (by show _ ≤ bN; omega) (.int .i64 m.2.2)) (p := ⟨bN, 16, none⟩) (by show _ ≤ bN; omega) (.slice qv nv cv))
 clear hN hR hE
 generalize (((((((((w5.setCell ⟨bN, 8, none⟩ (.string s)).setCell ⟨bN, 9, none⟩ (.int .u64 (E 0 : Nat))).setCell ⟨bN, 10, none⟩ (.int .u64 (E 1 : Nat))).setCell ⟨bN, 11, none⟩ (.int .u64 (E 2 : Nat))).setCell ⟨bN, 12, none⟩ (.int .u64 (E 3 : Nat))).setCell ⟨bN, 13, none⟩ (.int .i64 m.1)).setCell ⟨bN, 14, none⟩ (.int .i64 m.2.1)).setCell ⟨bN, 15, none⟩ (.int .i64 m.2.2)).setCell ⟨bN, 16, none⟩ (.slice qv nv cv)) = w6 at *
 have hZ := hR6.setRow [.int .i64 k, .int .u64 0, .int .u64 0, .string ⟨#[]⟩, .int .u64 0, .int .u64 0, .int .u64 0, .int .u64 0, .string s, .int .u64 (E 0 : Nat), .int .u64 (E 1 : Nat), .int .u64 (E 2 : Nat), .int .u64 (E 3 : Nat), .int .i64 m.1, .int .i64 m.2.1, .int .i64 m.2.2, .slice qv nv cv, .slice none 0 0]
 have hE7 : Ext w (w6.setRow bR #[.int .i64 k, .int .u64 0, .int .u64 0, .string ⟨#[]⟩, .int .u64 0, .int .u64 0, .int .u64 0, .int .u64 0, .string s, .int .u64 (E 0 : Nat), .int .u64 (E 1 : Nat), .int .u64 (E 2 : Nat), .int .u64 (E 3 : Nat), .int .i64 m.1, .int .i64 m.2.1, .int .i64 m.2.2, .slice qv nv cv, .slice none 0 0]) := Ext.setRow hE6 q1 _
 go_wp2_with (first | (refine wpList_load_row rfl 33 _ rfl bN rfl _ _ _ _ hN6 Tryz.underlying33 rfl (by kernel_rfl) ?_) | (refine wpList_store_row (cells := #[.int .i64 k, .int .u64 0, .int .u64 0, .string ⟨#[]⟩, .int .u64 0, .int .u64 0, .int .u64 0, .int .u64 0, .string s, .int .u64 (E 0 : Nat), .int .u64 (E 1 : Nat), .int .u64 (E 2 : Nat), .int .u64 (E 3 : Nat), .int .i64 m.1, .int .i64 m.2.1, .int .i64 m.2.2, .slice qv nv cv, .slice none 0 0]) rfl 33 _ _ rfl bR rfl rfl _ _ hR6 (by kernel_rfl) rfl (by first | rfl | decide | simp [Value.oneCell']) ?_))
 refine bodyPost_ret (results_cell_row rfl _ _ _ _ _ _ _ rfl hZ Tryz.underlying33 rfl (by kernel_rfl)) rfl ?_
 exact ⟨rfl, hE7⟩

set_option maxHeartbeats 2000000 in
set_option maxRecDepth 100000 in
theorem bare1_w (k : Int) (i n : Nat) (p : ByteArray) (D : Nat → Nat) (s : ByteArray) (E : Nat → Nat) (m : Nums3) (qv ql : Option Addr) (nv cv nl cl : Nat) (w : World) :
  Calls Tryz.prog 57 #[.agg #[.int .i64 k, .int .u64 (i : Nat), .int .u64 (n : Nat), .string p, .int .u64 (D 0 : Nat), .int .u64 (D 1 : Nat), .int .u64 (D 2 : Nat), .int .u64 (D 3 : Nat), .string s, .int .u64 (E 0 : Nat), .int .u64 (E 1 : Nat), .int .u64 (E 2 : Nat), .int .u64 (E 3 : Nat), .int .i64 m.1, .int .i64 m.2.1, .int .i64 m.2.2, .slice qv nv cv, .slice ql nl cl], .agg #[.bool true, .bool false, .bool false, .bool false, .bool false, .bool false]] w fun e w' => e = .returned (.agg #[.int .i64 k, .int .u64 (i : Nat), .int .u64 0, .string ⟨#[]⟩, .int .u64 0, .int .u64 0, .int .u64 0, .int .u64 0, .string ⟨#[]⟩, .int .u64 0, .int .u64 0, .int .u64 0, .int .u64 0, .int .i64 0, .int .i64 0, .int .i64 0, .slice none 0 0, .slice none 0 0]) ∧ Ext w w' := by
 obtain ⟨w1, hW1, hO, hE, s1⟩ := new_row w 33 [.int .i64 k, .int .u64 (i : Nat), .int .u64 (n : Nat), .string p, .int .u64 (D 0 : Nat), .int .u64 (D 1 : Nat), .int .u64 (D 2 : Nat), .int .u64 (D 3 : Nat), .string s, .int .u64 (E 0 : Nat), .int .u64 (E 1 : Nat), .int .u64 (E 2 : Nat), .int .u64 (E 3 : Nat), .int .i64 m.1, .int .i64 m.2.1, .int .i64 m.2.2, .slice qv nv cv, .slice ql nl cl]
 obtain ⟨w2, hW2, hF, e2, s2⟩ := new_row w1 108 [.bool true, .bool false, .bool false, .bool false, .bool false, .bool false]
 obtain ⟨w3, hW3, hR, e3, s3⟩ := new_row w2 33 [.int .i64 0, .int .u64 0, .int .u64 0, .string ⟨#[]⟩, .int .u64 0, .int .u64 0, .int .u64 0, .int .u64 0, .string ⟨#[]⟩, .int .u64 0, .int .u64 0, .int .u64 0, .int .u64 0, .int .i64 0, .int .i64 0, .int .i64 0, .slice none 0 0, .slice none 0 0]
 obtain ⟨w4, hW4, hN, e4, _⟩ := new_row w3 33 [.int .i64 0, .int .u64 0, .int .u64 0, .string ⟨#[]⟩, .int .u64 0, .int .u64 0, .int .u64 0, .int .u64 0, .string ⟨#[]⟩, .int .u64 0, .int .u64 0, .int .u64 0, .int .u64 0, .int .i64 0, .int .i64 0, .int .i64 0, .slice none 0 0, .slice none 0 0]
 obtain ⟨bF, hbF⟩ : ∃ x, w1.heap.size = x := ⟨_, rfl⟩
 obtain ⟨bR, hbR⟩ : ∃ x, w2.heap.size = x := ⟨_, rfl⟩
 obtain ⟨bN, hbN⟩ : ∃ x, w3.heap.size = x := ⟨_, rfl⟩
 have q1 : w.heap.size ≤ bR ∧ bR < bN ∧ w.heap.size < bR ∧ bF < bR ∧ w.heap.size < w3.heap.size := by omega
 obtain ⟨q1, q2, q3, q4, xl⟩ := q1
 clear s1 s2 s3
 rw [hbF] at hF
 rw [hbR] at hR
 rw [hbN] at hN
 have x0 : w3.cell? ⟨w.heap.size, 0, none⟩ = some (.int .i64 k) := ((hO.ext e2).ext e3).cell 0
 replace hO := ((hO.ext e2).ext e3).ext e4
 replace hF := (hF.ext e3).ext e4
 replace hR := hR.ext e4
 replace hE := ((hE.trans e2).trans e3).trans e4
 rw [hbN] at xl
 have xl' : w.heap.size < w3.heap.size := by omega
 have x0' : w4.cell? ⟨w.heap.size, 0, none⟩ = some (.int .i64 k) := hO.cell 0
 have xl4 := hO.lt
 go_enter Tryz.func57, Tryz.ntmps57
 go_wp2_with (first | (refine wpList_store_row (cells := #[.int .i64 k, .int .u64 0, .int .u64 0, .string ⟨#[]⟩, .int .u64 0, .int .u64 0, .int .u64 0, .int .u64 0, .string ⟨#[]⟩, .int .u64 0, .int .u64 0, .int .u64 0, .int .u64 0, .int .i64 0, .int .i64 0, .int .i64 0, .slice none 0 0, .slice none 0 0]) rfl 33 _ _ rfl bN rfl rfl _ _ hN (by kernel_rfl) rfl (by first | rfl | decide | simp [Value.oneCell']) ?_; refine Hid.out ?_))
 refine Lib.hid ?_
 obtain ⟨w5, hW5, hN5, hfar, hext⟩ := set_row hN [.int .i64 k, .int .u64 0, .int .u64 0, .string ⟨#[]⟩, .int .u64 0, .int .u64 0, .int .u64 0, .int .u64 0, .string ⟨#[]⟩, .int .u64 0, .int .u64 0, .int .u64 0, .int .u64 0, .int .i64 0, .int .i64 0, .int .i64 0, .slice none 0 0, .slice none 0 0]
 have hO5 := hfar _ _ _ (by omega) hO
 have hF5 := hfar _ _ _ (by omega) hF
 have hR5 := hfar _ _ _ (by omega) hR
 have hE5 := hext _ hE (by omega)
 clear hW1 hW2 hW3 hW4 hbF hbR hbN x0 x0' xl xl' xl4 hN hO hF hR hE e2 e3 e4 hfar hext
 rw [hW5]
 clear hW5
 obtain ⟨bO, hbO⟩ : ∃ x, x = w.heap.size := ⟨_, rfl⟩
 rw [← hbO] at hO5 q3
 rw [← hbO]
 clear hbO
 have hN := hN5
 have hO := hO5
 have hR := hR5
 have hE := hE5
 clear hN5 hO5 hR5 hE5
 have f0 := hF5.cell 0
 have f1 := hF5.cell 1
 have f2 := hF5.cell 2
 have f3 := hF5.cell 3
 have f4 := hF5.cell 4
 have f5 := hF5.cell 5
 simp only [List.getElem?_cons_zero, List.getElem?_cons_succ] at f0 f1 f2 f3 f4 f5
 have fl := hF5.lt
 have bol := hO.lt
 have bnl := hN.lt
 have x1 : w5.cell? ⟨bO, 1, none⟩ = some (.int .u64 (i : Nat)) := hO.cell 1
 have y1 : w5.cell? ⟨bN, 1, none⟩ = some (.int .u64 0) := hN.cell 1
 have yf1 := hN.free 1
 go_upto_region 14 with fail
 clear x1 y1 yf1
 clear f0 f1 f2 f3 f4 f5 fl bol bnl hF5 hO
 have hN6 : RB bN 33 [.int .i64 k, .int .u64 (i : Nat), .int .u64 0, .string ⟨#[]⟩, .int .u64 0, .int .u64 0, .int .u64 0, .int .u64 0, .string ⟨#[]⟩, .int .u64 0, .int .u64 0, .int .u64 0, .int .u64 0, .int .i64 0, .int .i64 0, .int .i64 0, .slice none 0 0, .slice none 0 0] (w5.setCell ⟨bN, 1, none⟩ (.int .u64 (i : Nat))) := (hN.set 1 (.int .u64 (i : Nat)))
 have hR6 : RB bR 33 [.int .i64 0, .int .u64 0, .int .u64 0, .string ⟨#[]⟩, .int .u64 0, .int .u64 0, .int .u64 0, .int .u64 0, .string ⟨#[]⟩, .int .u64 0, .int .u64 0, .int .u64 0, .int .u64 0, .int .i64 0, .int .i64 0, .int .i64 0, .slice none 0 0, .slice none 0 0] (w5.setCell ⟨bN, 1, none⟩ (.int .u64 (i : Nat))) := (hR.far (c := bN) (i := 1) (by omega) (.int .u64 (i : Nat)))
 have hE6 : Ext w (w5.setCell ⟨bN, 1, none⟩ (.int .u64 (i : Nat))) := (Below.setCell hE (p := ⟨bN, 1, none⟩) (by show _ ≤ bN; omega) (.int .u64 (i : Nat)))
 clear hN hR hE
 generalize (w5.setCell ⟨bN, 1, none⟩ (.int .u64 (i : Nat))) = w6 at *
 have hZ := hR6.setRow [.int .i64 k, .int .u64 (i : Nat), .int .u64 0, .string ⟨#[]⟩, .int .u64 0, .int .u64 0, .int .u64 0, .int .u64 0, .string ⟨#[]⟩, .int .u64 0, .int .u64 0, .int .u64 0, .int .u64 0, .int .i64 0, .int .i64 0, .int .i64 0, .slice none 0 0, .slice none 0 0]
 have hE7 : Ext w (w6.setRow bR #[.int .i64 k, .int .u64 (i : Nat), .int .u64 0, .string ⟨#[]⟩, .int .u64 0, .int .u64 0, .int .u64 0, .int .u64 0, .string ⟨#[]⟩, .int .u64 0, .int .u64 0, .int .u64 0, .int .u64 0, .int .i64 0, .int .i64 0, .int .i64 0, .slice none 0 0, .slice none 0 0]) := Ext.setRow hE6 q1 _
 go_wp2_with (first | (refine wpList_load_row rfl 33 _ rfl bN rfl _ _ _ _ hN6 Tryz.underlying33 rfl (by kernel_rfl) ?_) | (refine wpList_store_row (cells := #[.int .i64 k, .int .u64 (i : Nat), .int .u64 0, .string ⟨#[]⟩, .int .u64 0, .int .u64 0, .int .u64 0, .int .u64 0, .string ⟨#[]⟩, .int .u64 0, .int .u64 0, .int .u64 0, .int .u64 0, .int .i64 0, .int .i64 0, .int .i64 0, .slice none 0 0, .slice none 0 0]) rfl 33 _ _ rfl bR rfl rfl _ _ hR6 (by kernel_rfl) rfl (by first | rfl | decide | simp [Value.oneCell']) ?_))
 refine bodyPost_ret (results_cell_row rfl _ _ _ _ _ _ _ rfl hZ Tryz.underlying33 rfl (by kernel_rfl)) rfl ?_
 exact ⟨rfl, hE7⟩

set_option maxHeartbeats 2000000 in
set_option maxRecDepth 100000 in
theorem bare2_w (k : Int) (i n : Nat) (p : ByteArray) (D : Nat → Nat) (s : ByteArray) (E : Nat → Nat) (m : Nums3) (qv ql : Option Addr) (nv cv nl cl : Nat) (w : World) :
  Calls Tryz.prog 57 #[.agg #[.int .i64 k, .int .u64 (i : Nat), .int .u64 (n : Nat), .string p, .int .u64 (D 0 : Nat), .int .u64 (D 1 : Nat), .int .u64 (D 2 : Nat), .int .u64 (D 3 : Nat), .string s, .int .u64 (E 0 : Nat), .int .u64 (E 1 : Nat), .int .u64 (E 2 : Nat), .int .u64 (E 3 : Nat), .int .i64 m.1, .int .i64 m.2.1, .int .i64 m.2.2, .slice qv nv cv, .slice ql nl cl], .agg #[.bool false, .bool false, .bool true, .bool true, .bool false, .bool false]] w fun e w' => e = .returned (.agg #[.int .i64 k, .int .u64 0, .int .u64 0, .string p, .int .u64 (D 0 : Nat), .int .u64 (D 1 : Nat), .int .u64 (D 2 : Nat), .int .u64 (D 3 : Nat), .string ⟨#[]⟩, .int .u64 0, .int .u64 0, .int .u64 0, .int .u64 0, .int .i64 0, .int .i64 0, .int .i64 0, .slice none 0 0, .slice none 0 0]) ∧ Ext w w' := by
 obtain ⟨w1, hW1, hO, hE, s1⟩ := new_row w 33 [.int .i64 k, .int .u64 (i : Nat), .int .u64 (n : Nat), .string p, .int .u64 (D 0 : Nat), .int .u64 (D 1 : Nat), .int .u64 (D 2 : Nat), .int .u64 (D 3 : Nat), .string s, .int .u64 (E 0 : Nat), .int .u64 (E 1 : Nat), .int .u64 (E 2 : Nat), .int .u64 (E 3 : Nat), .int .i64 m.1, .int .i64 m.2.1, .int .i64 m.2.2, .slice qv nv cv, .slice ql nl cl]
 obtain ⟨w2, hW2, hF, e2, s2⟩ := new_row w1 108 [.bool false, .bool false, .bool true, .bool true, .bool false, .bool false]
 obtain ⟨w3, hW3, hR, e3, s3⟩ := new_row w2 33 [.int .i64 0, .int .u64 0, .int .u64 0, .string ⟨#[]⟩, .int .u64 0, .int .u64 0, .int .u64 0, .int .u64 0, .string ⟨#[]⟩, .int .u64 0, .int .u64 0, .int .u64 0, .int .u64 0, .int .i64 0, .int .i64 0, .int .i64 0, .slice none 0 0, .slice none 0 0]
 obtain ⟨w4, hW4, hN, e4, _⟩ := new_row w3 33 [.int .i64 0, .int .u64 0, .int .u64 0, .string ⟨#[]⟩, .int .u64 0, .int .u64 0, .int .u64 0, .int .u64 0, .string ⟨#[]⟩, .int .u64 0, .int .u64 0, .int .u64 0, .int .u64 0, .int .i64 0, .int .i64 0, .int .i64 0, .slice none 0 0, .slice none 0 0]
 obtain ⟨bF, hbF⟩ : ∃ x, w1.heap.size = x := ⟨_, rfl⟩
 obtain ⟨bR, hbR⟩ : ∃ x, w2.heap.size = x := ⟨_, rfl⟩
 obtain ⟨bN, hbN⟩ : ∃ x, w3.heap.size = x := ⟨_, rfl⟩
 have q1 : w.heap.size ≤ bR ∧ bR < bN ∧ w.heap.size < bR ∧ bF < bR ∧ w.heap.size < w3.heap.size := by omega
 obtain ⟨q1, q2, q3, q4, xl⟩ := q1
 clear s1 s2 s3
 rw [hbF] at hF
 rw [hbR] at hR
 rw [hbN] at hN
 have x0 : w3.cell? ⟨w.heap.size, 0, none⟩ = some (.int .i64 k) := ((hO.ext e2).ext e3).cell 0
 replace hO := ((hO.ext e2).ext e3).ext e4
 replace hF := (hF.ext e3).ext e4
 replace hR := hR.ext e4
 replace hE := ((hE.trans e2).trans e3).trans e4
 rw [hbN] at xl
 have xl' : w.heap.size < w3.heap.size := by omega
 have x0' : w4.cell? ⟨w.heap.size, 0, none⟩ = some (.int .i64 k) := hO.cell 0
 have xl4 := hO.lt
 go_enter Tryz.func57, Tryz.ntmps57
 go_wp2_with (first | (refine wpList_store_row (cells := #[.int .i64 k, .int .u64 0, .int .u64 0, .string ⟨#[]⟩, .int .u64 0, .int .u64 0, .int .u64 0, .int .u64 0, .string ⟨#[]⟩, .int .u64 0, .int .u64 0, .int .u64 0, .int .u64 0, .int .i64 0, .int .i64 0, .int .i64 0, .slice none 0 0, .slice none 0 0]) rfl 33 _ _ rfl bN rfl rfl _ _ hN (by kernel_rfl) rfl (by first | rfl | decide | simp [Value.oneCell']) ?_; refine Hid.out ?_))
 refine Lib.hid ?_
 obtain ⟨w5, hW5, hN5, hfar, hext⟩ := set_row hN [.int .i64 k, .int .u64 0, .int .u64 0, .string ⟨#[]⟩, .int .u64 0, .int .u64 0, .int .u64 0, .int .u64 0, .string ⟨#[]⟩, .int .u64 0, .int .u64 0, .int .u64 0, .int .u64 0, .int .i64 0, .int .i64 0, .int .i64 0, .slice none 0 0, .slice none 0 0]
 have hO5 := hfar _ _ _ (by omega) hO
 have hF5 := hfar _ _ _ (by omega) hF
 have hR5 := hfar _ _ _ (by omega) hR
 have hE5 := hext _ hE (by omega)
 clear hW1 hW2 hW3 hW4 hbF hbR hbN x0 x0' xl xl' xl4 hN hO hF hR hE e2 e3 e4 hfar hext
 rw [hW5]
 clear hW5
 obtain ⟨bO, hbO⟩ : ∃ x, x = w.heap.size := ⟨_, rfl⟩
 rw [← hbO] at hO5 q3
 rw [← hbO]
 clear hbO
 have hN := hN5
 have hO := hO5
 have hR := hR5
 have hE := hE5
 clear hN5 hO5 hR5 hE5
 have f0 := hF5.cell 0
 have f1 := hF5.cell 1
 have f2 := hF5.cell 2
 have f3 := hF5.cell 3
 have f4 := hF5.cell 4
 have f5 := hF5.cell 5
 simp only [List.getElem?_cons_zero, List.getElem?_cons_succ] at f0 f1 f2 f3 f4 f5
 have fl := hF5.lt
 have bol := hO.lt
 have bnl := hN.lt
 have x3 : w5.cell? ⟨bO, 3, none⟩ = some (.string p) := hO.cell 3
 have x4 : w5.cell? ⟨bO, 4, none⟩ = some (.int .u64 (D 0 : Nat)) := hO.cell 4
 have x5 : w5.cell? ⟨bO, 5, none⟩ = some (.int .u64 (D 1 : Nat)) := hO.cell 5
 have x6 : w5.cell? ⟨bO, 6, none⟩ = some (.int .u64 (D 2 : Nat)) := hO.cell 6
 have x7 : w5.cell? ⟨bO, 7, none⟩ = some (.int .u64 (D 3 : Nat)) := hO.cell 7
 have y3 : w5.cell? ⟨bN, 3, none⟩ = some (.string ⟨#[]⟩) := hN.cell 3
 have yf3 := hN.free 3
 have y4 : w5.cell? ⟨bN, 4, none⟩ = some (.int .u64 0) := hN.cell 4
 have yf4 := hN.free 4
 have y5 : w5.cell? ⟨bN, 5, none⟩ = some (.int .u64 0) := hN.cell 5
 have yf5 := hN.free 5
 have y6 : w5.cell? ⟨bN, 6, none⟩ = some (.int .u64 0) := hN.cell 6
 have yf6 := hN.free 6
 have y7 : w5.cell? ⟨bN, 7, none⟩ = some (.int .u64 0) := hN.cell 7
 have yf7 := hN.free 7
 go_upto_region 14 with fail
 clear x3 y3 yf3 x4 y4 yf4 x5 y5 yf5 x6 y6 yf6 x7 y7 yf7
 clear f0 f1 f2 f3 f4 f5 fl bol bnl hF5 hO
 have hN6 : RB bN 33 [.int .i64 k, .int .u64 0, .int .u64 0, .string p, .int .u64 (D 0 : Nat), .int .u64 (D 1 : Nat), .int .u64 (D 2 : Nat), .int .u64 (D 3 : Nat), .string ⟨#[]⟩, .int .u64 0, .int .u64 0, .int .u64 0, .int .u64 0, .int .i64 0, .int .i64 0, .int .i64 0, .slice none 0 0, .slice none 0 0] (((((w5.setCell ⟨bN, 3, none⟩ (.string p)).setCell ⟨bN, 4, none⟩ (.int .u64 (D 0 : Nat))).setCell ⟨bN, 5, none⟩ (.int .u64 (D 1 : Nat))).setCell ⟨bN, 6, none⟩ (.int .u64 (D 2 : Nat))).setCell ⟨bN, 7, none⟩ (.int .u64 (D 3 : Nat))) := (((((hN.set 3 (.string p)).set 4 (.int .u64 (D 0 : Nat))).set 5 (.int .u64 (D 1 : Nat))).set 6 (.int .u64 (D 2 : Nat))).set 7 (.int .u64 (D 3 : Nat)))
 have hR6 : RB bR 33 [.int .i64 0, .int .u64 0, .int .u64 0, .string ⟨#[]⟩, .int .u64 0, .int .u64 0, .int .u64 0, .int .u64 0, .string ⟨#[]⟩, .int .u64 0, .int .u64 0, .int .u64 0, .int .u64 0, .int .i64 0, .int .i64 0, .int .i64 0, .slice none 0 0, .slice none 0 0] (((((w5.setCell ⟨bN, 3, none⟩ (.string p)).setCell ⟨bN, 4, none⟩ (.int .u64 (D 0 : Nat))).setCell ⟨bN, 5, none⟩ (.int .u64 (D 1 : Nat))).setCell ⟨bN, 6, none⟩ (.int .u64 (D 2 : Nat))).setCell ⟨bN, 7, none⟩ (.int .u64 (D 3 : Nat))) := (((((hR.far (c := bN) (i := 3) (by omega) (.string p)).far (c := bN) (i := 4) (by omega) (.int .u64 (D 0 : Nat))).far (c := bN) (i := 5) (by omega) (.int .u64 (D 1 : Nat))).far (c := bN) (i := 6) (by omega) (.int .u64 (D 2 : Nat))).far (c := bN) (i := 7) (by omega) (.int .u64 (D 3 : Nat)))
 have hE6 : Ext w (((((w5.setCell ⟨bN, 3, none⟩ (.string p)).setCell ⟨bN, 4, none⟩ (.int .u64 (D 0 : Nat))).setCell ⟨bN, 5, none⟩ (.int .u64 (D 1 : Nat))).setCell ⟨bN, 6, none⟩ (.int .u64 (D 2 : Nat))).setCell ⟨bN, 7, none⟩ (.int .u64 (D 3 : Nat))) := (Below.setCell (Below.setCell (Below.setCell (Below.setCell (Below.setCell hE (p := ⟨bN, 3, none⟩) (by show _ ≤ bN; omega) (.string p)) (p := ⟨bN, 4, none⟩) (by show _ ≤ bN; omega) (.int .u64 (D 0 : Nat))) (p := ⟨bN, 5, none⟩) (by show _ ≤ bN; omega) (.int .u64 (D 1 : Nat))) (p := ⟨bN, 6, none⟩) (by show _ ≤ bN; omega) (.int .u64 (D 2 : Nat))) (p := ⟨bN, 7, none⟩) (by show _ ≤ bN; omega) (.int .u64 (D 3 : Nat)))
 clear hN hR hE
 generalize (((((w5.setCell ⟨bN, 3, none⟩ (.string p)).setCell ⟨bN, 4, none⟩ (.int .u64 (D 0 : Nat))).setCell ⟨bN, 5, none⟩ (.int .u64 (D 1 : Nat))).setCell ⟨bN, 6, none⟩ (.int .u64 (D 2 : Nat))).setCell ⟨bN, 7, none⟩ (.int .u64 (D 3 : Nat))) = w6 at *
 have hZ := hR6.setRow [.int .i64 k, .int .u64 0, .int .u64 0, .string p, .int .u64 (D 0 : Nat), .int .u64 (D 1 : Nat), .int .u64 (D 2 : Nat), .int .u64 (D 3 : Nat), .string ⟨#[]⟩, .int .u64 0, .int .u64 0, .int .u64 0, .int .u64 0, .int .i64 0, .int .i64 0, .int .i64 0, .slice none 0 0, .slice none 0 0]
 have hE7 : Ext w (w6.setRow bR #[.int .i64 k, .int .u64 0, .int .u64 0, .string p, .int .u64 (D 0 : Nat), .int .u64 (D 1 : Nat), .int .u64 (D 2 : Nat), .int .u64 (D 3 : Nat), .string ⟨#[]⟩, .int .u64 0, .int .u64 0, .int .u64 0, .int .u64 0, .int .i64 0, .int .i64 0, .int .i64 0, .slice none 0 0, .slice none 0 0]) := Ext.setRow hE6 q1 _
 go_wp2_with (first | (refine wpList_load_row rfl 33 _ rfl bN rfl _ _ _ _ hN6 Tryz.underlying33 rfl (by kernel_rfl) ?_) | (refine wpList_store_row (cells := #[.int .i64 k, .int .u64 0, .int .u64 0, .string p, .int .u64 (D 0 : Nat), .int .u64 (D 1 : Nat), .int .u64 (D 2 : Nat), .int .u64 (D 3 : Nat), .string ⟨#[]⟩, .int .u64 0, .int .u64 0, .int .u64 0, .int .u64 0, .int .i64 0, .int .i64 0, .int .i64 0, .slice none 0 0, .slice none 0 0]) rfl 33 _ _ rfl bR rfl rfl _ _ hR6 (by kernel_rfl) rfl (by first | rfl | decide | simp [Value.oneCell']) ?_))
 refine bodyPost_ret (results_cell_row rfl _ _ _ _ _ _ _ rfl hZ Tryz.underlying33 rfl (by kernel_rfl)) rfl ?_
 exact ⟨rfl, hE7⟩

set_option maxHeartbeats 2000000 in
set_option maxRecDepth 100000 in
theorem bare3_w (k : Int) (i n : Nat) (p : ByteArray) (D : Nat → Nat) (s : ByteArray) (E : Nat → Nat) (m : Nums3) (qv ql : Option Addr) (nv cv nl cl : Nat) (w : World) :
  Calls Tryz.prog 57 #[.agg #[.int .i64 k, .int .u64 (i : Nat), .int .u64 (n : Nat), .string p, .int .u64 (D 0 : Nat), .int .u64 (D 1 : Nat), .int .u64 (D 2 : Nat), .int .u64 (D 3 : Nat), .string s, .int .u64 (E 0 : Nat), .int .u64 (E 1 : Nat), .int .u64 (E 2 : Nat), .int .u64 (E 3 : Nat), .int .i64 m.1, .int .i64 m.2.1, .int .i64 m.2.2, .slice qv nv cv, .slice ql nl cl], .agg #[.bool false, .bool true, .bool false, .bool false, .bool false, .bool false]] w fun e w' => e = .returned (.agg #[.int .i64 k, .int .u64 0, .int .u64 (n : Nat), .string ⟨#[]⟩, .int .u64 0, .int .u64 0, .int .u64 0, .int .u64 0, .string ⟨#[]⟩, .int .u64 0, .int .u64 0, .int .u64 0, .int .u64 0, .int .i64 0, .int .i64 0, .int .i64 0, .slice none 0 0, .slice none 0 0]) ∧ Ext w w' := by
 obtain ⟨w1, hW1, hO, hE, s1⟩ := new_row w 33 [.int .i64 k, .int .u64 (i : Nat), .int .u64 (n : Nat), .string p, .int .u64 (D 0 : Nat), .int .u64 (D 1 : Nat), .int .u64 (D 2 : Nat), .int .u64 (D 3 : Nat), .string s, .int .u64 (E 0 : Nat), .int .u64 (E 1 : Nat), .int .u64 (E 2 : Nat), .int .u64 (E 3 : Nat), .int .i64 m.1, .int .i64 m.2.1, .int .i64 m.2.2, .slice qv nv cv, .slice ql nl cl]
 obtain ⟨w2, hW2, hF, e2, s2⟩ := new_row w1 108 [.bool false, .bool true, .bool false, .bool false, .bool false, .bool false]
 obtain ⟨w3, hW3, hR, e3, s3⟩ := new_row w2 33 [.int .i64 0, .int .u64 0, .int .u64 0, .string ⟨#[]⟩, .int .u64 0, .int .u64 0, .int .u64 0, .int .u64 0, .string ⟨#[]⟩, .int .u64 0, .int .u64 0, .int .u64 0, .int .u64 0, .int .i64 0, .int .i64 0, .int .i64 0, .slice none 0 0, .slice none 0 0]
 obtain ⟨w4, hW4, hN, e4, _⟩ := new_row w3 33 [.int .i64 0, .int .u64 0, .int .u64 0, .string ⟨#[]⟩, .int .u64 0, .int .u64 0, .int .u64 0, .int .u64 0, .string ⟨#[]⟩, .int .u64 0, .int .u64 0, .int .u64 0, .int .u64 0, .int .i64 0, .int .i64 0, .int .i64 0, .slice none 0 0, .slice none 0 0]
 obtain ⟨bF, hbF⟩ : ∃ x, w1.heap.size = x := ⟨_, rfl⟩
 obtain ⟨bR, hbR⟩ : ∃ x, w2.heap.size = x := ⟨_, rfl⟩
 obtain ⟨bN, hbN⟩ : ∃ x, w3.heap.size = x := ⟨_, rfl⟩
 have q1 : w.heap.size ≤ bR ∧ bR < bN ∧ w.heap.size < bR ∧ bF < bR ∧ w.heap.size < w3.heap.size := by omega
 obtain ⟨q1, q2, q3, q4, xl⟩ := q1
 clear s1 s2 s3
 rw [hbF] at hF
 rw [hbR] at hR
 rw [hbN] at hN
 have x0 : w3.cell? ⟨w.heap.size, 0, none⟩ = some (.int .i64 k) := ((hO.ext e2).ext e3).cell 0
 replace hO := ((hO.ext e2).ext e3).ext e4
 replace hF := (hF.ext e3).ext e4
 replace hR := hR.ext e4
 replace hE := ((hE.trans e2).trans e3).trans e4
 rw [hbN] at xl
 have xl' : w.heap.size < w3.heap.size := by omega
 have x0' : w4.cell? ⟨w.heap.size, 0, none⟩ = some (.int .i64 k) := hO.cell 0
 have xl4 := hO.lt
 go_enter Tryz.func57, Tryz.ntmps57
 go_wp2_with (first | (refine wpList_store_row (cells := #[.int .i64 k, .int .u64 0, .int .u64 0, .string ⟨#[]⟩, .int .u64 0, .int .u64 0, .int .u64 0, .int .u64 0, .string ⟨#[]⟩, .int .u64 0, .int .u64 0, .int .u64 0, .int .u64 0, .int .i64 0, .int .i64 0, .int .i64 0, .slice none 0 0, .slice none 0 0]) rfl 33 _ _ rfl bN rfl rfl _ _ hN (by kernel_rfl) rfl (by first | rfl | decide | simp [Value.oneCell']) ?_; refine Hid.out ?_))
 refine Lib.hid ?_
 obtain ⟨w5, hW5, hN5, hfar, hext⟩ := set_row hN [.int .i64 k, .int .u64 0, .int .u64 0, .string ⟨#[]⟩, .int .u64 0, .int .u64 0, .int .u64 0, .int .u64 0, .string ⟨#[]⟩, .int .u64 0, .int .u64 0, .int .u64 0, .int .u64 0, .int .i64 0, .int .i64 0, .int .i64 0, .slice none 0 0, .slice none 0 0]
 have hO5 := hfar _ _ _ (by omega) hO
 have hF5 := hfar _ _ _ (by omega) hF
 have hR5 := hfar _ _ _ (by omega) hR
 have hE5 := hext _ hE (by omega)
 clear hW1 hW2 hW3 hW4 hbF hbR hbN x0 x0' xl xl' xl4 hN hO hF hR hE e2 e3 e4 hfar hext
 rw [hW5]
 clear hW5
 obtain ⟨bO, hbO⟩ : ∃ x, x = w.heap.size := ⟨_, rfl⟩
 rw [← hbO] at hO5 q3
 rw [← hbO]
 clear hbO
 have hN := hN5
 have hO := hO5
 have hR := hR5
 have hE := hE5
 clear hN5 hO5 hR5 hE5
 have f0 := hF5.cell 0
 have f1 := hF5.cell 1
 have f2 := hF5.cell 2
 have f3 := hF5.cell 3
 have f4 := hF5.cell 4
 have f5 := hF5.cell 5
 simp only [List.getElem?_cons_zero, List.getElem?_cons_succ] at f0 f1 f2 f3 f4 f5
 have fl := hF5.lt
 have bol := hO.lt
 have bnl := hN.lt
 have x2 : w5.cell? ⟨bO, 2, none⟩ = some (.int .u64 (n : Nat)) := hO.cell 2
 have y2 : w5.cell? ⟨bN, 2, none⟩ = some (.int .u64 0) := hN.cell 2
 have yf2 := hN.free 2
 go_upto_region 14 with fail
 clear x2 y2 yf2
 clear f0 f1 f2 f3 f4 f5 fl bol bnl hF5 hO
 have hN6 : RB bN 33 [.int .i64 k, .int .u64 0, .int .u64 (n : Nat), .string ⟨#[]⟩, .int .u64 0, .int .u64 0, .int .u64 0, .int .u64 0, .string ⟨#[]⟩, .int .u64 0, .int .u64 0, .int .u64 0, .int .u64 0, .int .i64 0, .int .i64 0, .int .i64 0, .slice none 0 0, .slice none 0 0] (w5.setCell ⟨bN, 2, none⟩ (.int .u64 (n : Nat))) := (hN.set 2 (.int .u64 (n : Nat)))
 have hR6 : RB bR 33 [.int .i64 0, .int .u64 0, .int .u64 0, .string ⟨#[]⟩, .int .u64 0, .int .u64 0, .int .u64 0, .int .u64 0, .string ⟨#[]⟩, .int .u64 0, .int .u64 0, .int .u64 0, .int .u64 0, .int .i64 0, .int .i64 0, .int .i64 0, .slice none 0 0, .slice none 0 0] (w5.setCell ⟨bN, 2, none⟩ (.int .u64 (n : Nat))) := (hR.far (c := bN) (i := 2) (by omega) (.int .u64 (n : Nat)))
 have hE6 : Ext w (w5.setCell ⟨bN, 2, none⟩ (.int .u64 (n : Nat))) := (Below.setCell hE (p := ⟨bN, 2, none⟩) (by show _ ≤ bN; omega) (.int .u64 (n : Nat)))
 clear hN hR hE
 generalize (w5.setCell ⟨bN, 2, none⟩ (.int .u64 (n : Nat))) = w6 at *
 have hZ := hR6.setRow [.int .i64 k, .int .u64 0, .int .u64 (n : Nat), .string ⟨#[]⟩, .int .u64 0, .int .u64 0, .int .u64 0, .int .u64 0, .string ⟨#[]⟩, .int .u64 0, .int .u64 0, .int .u64 0, .int .u64 0, .int .i64 0, .int .i64 0, .int .i64 0, .slice none 0 0, .slice none 0 0]
 have hE7 : Ext w (w6.setRow bR #[.int .i64 k, .int .u64 0, .int .u64 (n : Nat), .string ⟨#[]⟩, .int .u64 0, .int .u64 0, .int .u64 0, .int .u64 0, .string ⟨#[]⟩, .int .u64 0, .int .u64 0, .int .u64 0, .int .u64 0, .int .i64 0, .int .i64 0, .int .i64 0, .slice none 0 0, .slice none 0 0]) := Ext.setRow hE6 q1 _
 go_wp2_with (first | (refine wpList_load_row rfl 33 _ rfl bN rfl _ _ _ _ hN6 Tryz.underlying33 rfl (by kernel_rfl) ?_) | (refine wpList_store_row (cells := #[.int .i64 k, .int .u64 0, .int .u64 (n : Nat), .string ⟨#[]⟩, .int .u64 0, .int .u64 0, .int .u64 0, .int .u64 0, .string ⟨#[]⟩, .int .u64 0, .int .u64 0, .int .u64 0, .int .u64 0, .int .i64 0, .int .i64 0, .int .i64 0, .slice none 0 0, .slice none 0 0]) rfl 33 _ _ rfl bR rfl rfl _ _ hR6 (by kernel_rfl) rfl (by first | rfl | decide | simp [Value.oneCell']) ?_))
 refine bodyPost_ret (results_cell_row rfl _ _ _ _ _ _ _ rfl hZ Tryz.underlying33 rfl (by kernel_rfl)) rfl ?_
 exact ⟨rfl, hE7⟩

set_option maxHeartbeats 2000000 in
set_option maxRecDepth 100000 in
theorem bare4_w (k : Int) (i n : Nat) (p : ByteArray) (D : Nat → Nat) (s : ByteArray) (E : Nat → Nat) (m : Nums3) (qv ql : Option Addr) (nv cv nl cl : Nat) (w : World) :
  Calls Tryz.prog 57 #[.agg #[.int .i64 k, .int .u64 (i : Nat), .int .u64 (n : Nat), .string p, .int .u64 (D 0 : Nat), .int .u64 (D 1 : Nat), .int .u64 (D 2 : Nat), .int .u64 (D 3 : Nat), .string s, .int .u64 (E 0 : Nat), .int .u64 (E 1 : Nat), .int .u64 (E 2 : Nat), .int .u64 (E 3 : Nat), .int .i64 m.1, .int .i64 m.2.1, .int .i64 m.2.2, .slice qv nv cv, .slice ql nl cl], .agg #[.bool false, .bool false, .bool true, .bool false, .bool false, .bool false]] w fun e w' => e = .returned (.agg #[.int .i64 k, .int .u64 0, .int .u64 0, .string p, .int .u64 0, .int .u64 0, .int .u64 0, .int .u64 0, .string ⟨#[]⟩, .int .u64 0, .int .u64 0, .int .u64 0, .int .u64 0, .int .i64 0, .int .i64 0, .int .i64 0, .slice none 0 0, .slice none 0 0]) ∧ Ext w w' := by
 obtain ⟨w1, hW1, hO, hE, s1⟩ := new_row w 33 [.int .i64 k, .int .u64 (i : Nat), .int .u64 (n : Nat), .string p, .int .u64 (D 0 : Nat), .int .u64 (D 1 : Nat), .int .u64 (D 2 : Nat), .int .u64 (D 3 : Nat), .string s, .int .u64 (E 0 : Nat), .int .u64 (E 1 : Nat), .int .u64 (E 2 : Nat), .int .u64 (E 3 : Nat), .int .i64 m.1, .int .i64 m.2.1, .int .i64 m.2.2, .slice qv nv cv, .slice ql nl cl]
 obtain ⟨w2, hW2, hF, e2, s2⟩ := new_row w1 108 [.bool false, .bool false, .bool true, .bool false, .bool false, .bool false]
 obtain ⟨w3, hW3, hR, e3, s3⟩ := new_row w2 33 [.int .i64 0, .int .u64 0, .int .u64 0, .string ⟨#[]⟩, .int .u64 0, .int .u64 0, .int .u64 0, .int .u64 0, .string ⟨#[]⟩, .int .u64 0, .int .u64 0, .int .u64 0, .int .u64 0, .int .i64 0, .int .i64 0, .int .i64 0, .slice none 0 0, .slice none 0 0]
 obtain ⟨w4, hW4, hN, e4, _⟩ := new_row w3 33 [.int .i64 0, .int .u64 0, .int .u64 0, .string ⟨#[]⟩, .int .u64 0, .int .u64 0, .int .u64 0, .int .u64 0, .string ⟨#[]⟩, .int .u64 0, .int .u64 0, .int .u64 0, .int .u64 0, .int .i64 0, .int .i64 0, .int .i64 0, .slice none 0 0, .slice none 0 0]
 obtain ⟨bF, hbF⟩ : ∃ x, w1.heap.size = x := ⟨_, rfl⟩
 obtain ⟨bR, hbR⟩ : ∃ x, w2.heap.size = x := ⟨_, rfl⟩
 obtain ⟨bN, hbN⟩ : ∃ x, w3.heap.size = x := ⟨_, rfl⟩
 have q1 : w.heap.size ≤ bR ∧ bR < bN ∧ w.heap.size < bR ∧ bF < bR ∧ w.heap.size < w3.heap.size := by omega
 obtain ⟨q1, q2, q3, q4, xl⟩ := q1
 clear s1 s2 s3
 rw [hbF] at hF
 rw [hbR] at hR
 rw [hbN] at hN
 have x0 : w3.cell? ⟨w.heap.size, 0, none⟩ = some (.int .i64 k) := ((hO.ext e2).ext e3).cell 0
 replace hO := ((hO.ext e2).ext e3).ext e4
 replace hF := (hF.ext e3).ext e4
 replace hR := hR.ext e4
 replace hE := ((hE.trans e2).trans e3).trans e4
 rw [hbN] at xl
 have xl' : w.heap.size < w3.heap.size := by omega
 have x0' : w4.cell? ⟨w.heap.size, 0, none⟩ = some (.int .i64 k) := hO.cell 0
 have xl4 := hO.lt
 go_enter Tryz.func57, Tryz.ntmps57
 go_wp2_with (first | (refine wpList_store_row (cells := #[.int .i64 k, .int .u64 0, .int .u64 0, .string ⟨#[]⟩, .int .u64 0, .int .u64 0, .int .u64 0, .int .u64 0, .string ⟨#[]⟩, .int .u64 0, .int .u64 0, .int .u64 0, .int .u64 0, .int .i64 0, .int .i64 0, .int .i64 0, .slice none 0 0, .slice none 0 0]) rfl 33 _ _ rfl bN rfl rfl _ _ hN (by kernel_rfl) rfl (by first | rfl | decide | simp [Value.oneCell']) ?_; refine Hid.out ?_))
 refine Lib.hid ?_
 obtain ⟨w5, hW5, hN5, hfar, hext⟩ := set_row hN [.int .i64 k, .int .u64 0, .int .u64 0, .string ⟨#[]⟩, .int .u64 0, .int .u64 0, .int .u64 0, .int .u64 0, .string ⟨#[]⟩, .int .u64 0, .int .u64 0, .int .u64 0, .int .u64 0, .int .i64 0, .int .i64 0, .int .i64 0, .slice none 0 0, .slice none 0 0]
 have hO5 := hfar _ _ _ (by omega) hO
 have hF5 := hfar _ _ _ (by omega) hF
 have hR5 := hfar _ _ _ (by omega) hR
 have hE5 := hext _ hE (by omega)
 clear hW1 hW2 hW3 hW4 hbF hbR hbN x0 x0' xl xl' xl4 hN hO hF hR hE e2 e3 e4 hfar hext
 rw [hW5]
 clear hW5
 obtain ⟨bO, hbO⟩ : ∃ x, x = w.heap.size := ⟨_, rfl⟩
 rw [← hbO] at hO5 q3
 rw [← hbO]
 clear hbO
 have hN := hN5
 have hO := hO5
 have hR := hR5
 have hE := hE5
 clear hN5 hO5 hR5 hE5
 have f0 := hF5.cell 0
 have f1 := hF5.cell 1
 have f2 := hF5.cell 2
 have f3 := hF5.cell 3
 have f4 := hF5.cell 4
 have f5 := hF5.cell 5
 simp only [List.getElem?_cons_zero, List.getElem?_cons_succ] at f0 f1 f2 f3 f4 f5
 have fl := hF5.lt
 have bol := hO.lt
 have bnl := hN.lt
 have x3 : w5.cell? ⟨bO, 3, none⟩ = some (.string p) := hO.cell 3
 have y3 : w5.cell? ⟨bN, 3, none⟩ = some (.string ⟨#[]⟩) := hN.cell 3
 have yf3 := hN.free 3
 go_upto_region 14 with fail
 clear x3 y3 yf3
 clear f0 f1 f2 f3 f4 f5 fl bol bnl hF5 hO
 have hN6 : RB bN 33 [.int .i64 k, .int .u64 0, .int .u64 0, .string p, .int .u64 0, .int .u64 0, .int .u64 0, .int .u64 0, .string ⟨#[]⟩, .int .u64 0, .int .u64 0, .int .u64 0, .int .u64 0, .int .i64 0, .int .i64 0, .int .i64 0, .slice none 0 0, .slice none 0 0] (w5.setCell ⟨bN, 3, none⟩ (.string p)) := (hN.set 3 (.string p))
 have hR6 : RB bR 33 [.int .i64 0, .int .u64 0, .int .u64 0, .string ⟨#[]⟩, .int .u64 0, .int .u64 0, .int .u64 0, .int .u64 0, .string ⟨#[]⟩, .int .u64 0, .int .u64 0, .int .u64 0, .int .u64 0, .int .i64 0, .int .i64 0, .int .i64 0, .slice none 0 0, .slice none 0 0] (w5.setCell ⟨bN, 3, none⟩ (.string p)) := (hR.far (c := bN) (i := 3) (by omega) (.string p))
 have hE6 : Ext w (w5.setCell ⟨bN, 3, none⟩ (.string p)) := (Below.setCell hE (p := ⟨bN, 3, none⟩) (by show _ ≤ bN; omega) (.string p))
 clear hN hR hE
 generalize (w5.setCell ⟨bN, 3, none⟩ (.string p)) = w6 at *
 have hZ := hR6.setRow [.int .i64 k, .int .u64 0, .int .u64 0, .string p, .int .u64 0, .int .u64 0, .int .u64 0, .int .u64 0, .string ⟨#[]⟩, .int .u64 0, .int .u64 0, .int .u64 0, .int .u64 0, .int .i64 0, .int .i64 0, .int .i64 0, .slice none 0 0, .slice none 0 0]
 have hE7 : Ext w (w6.setRow bR #[.int .i64 k, .int .u64 0, .int .u64 0, .string p, .int .u64 0, .int .u64 0, .int .u64 0, .int .u64 0, .string ⟨#[]⟩, .int .u64 0, .int .u64 0, .int .u64 0, .int .u64 0, .int .i64 0, .int .i64 0, .int .i64 0, .slice none 0 0, .slice none 0 0]) := Ext.setRow hE6 q1 _
 go_wp2_with (first | (refine wpList_load_row rfl 33 _ rfl bN rfl _ _ _ _ hN6 Tryz.underlying33 rfl (by kernel_rfl) ?_) | (refine wpList_store_row (cells := #[.int .i64 k, .int .u64 0, .int .u64 0, .string p, .int .u64 0, .int .u64 0, .int .u64 0, .int .u64 0, .string ⟨#[]⟩, .int .u64 0, .int .u64 0, .int .u64 0, .int .u64 0, .int .i64 0, .int .i64 0, .int .i64 0, .slice none 0 0, .slice none 0 0]) rfl 33 _ _ rfl bR rfl rfl _ _ hR6 (by kernel_rfl) rfl (by first | rfl | decide | simp [Value.oneCell']) ?_))
 refine bodyPost_ret (results_cell_row rfl _ _ _ _ _ _ _ rfl hZ Tryz.underlying33 rfl (by kernel_rfl)) rfl ?_
 exact ⟨rfl, hE7⟩

set_option maxHeartbeats 2000000 in
set_option maxRecDepth 100000 in
theorem bare5_w (k : Int) (i n : Nat) (p : ByteArray) (D : Nat → Nat) (s : ByteArray) (E : Nat → Nat) (m : Nums3) (qv ql : Option Addr) (nv cv nl cl : Nat) (w : World) :
  Calls Tryz.prog 57 #[.agg #[.int .i64 k, .int .u64 (i : Nat), .int .u64 (n : Nat), .string p, .int .u64 (D 0 : Nat), .int .u64 (D 1 : Nat), .int .u64 (D 2 : Nat), .int .u64 (D 3 : Nat), .string s, .int .u64 (E 0 : Nat), .int .u64 (E 1 : Nat), .int .u64 (E 2 : Nat), .int .u64 (E 3 : Nat), .int .i64 m.1, .int .i64 m.2.1, .int .i64 m.2.2, .slice qv nv cv, .slice ql nl cl], .agg #[.bool false, .bool false, .bool false, .bool true, .bool false, .bool false]] w fun e w' => e = .returned (.agg #[.int .i64 k, .int .u64 0, .int .u64 0, .string ⟨#[]⟩, .int .u64 (D 0 : Nat), .int .u64 (D 1 : Nat), .int .u64 (D 2 : Nat), .int .u64 (D 3 : Nat), .string ⟨#[]⟩, .int .u64 0, .int .u64 0, .int .u64 0, .int .u64 0, .int .i64 0, .int .i64 0, .int .i64 0, .slice none 0 0, .slice none 0 0]) ∧ Ext w w' := by
 obtain ⟨w1, hW1, hO, hE, s1⟩ := new_row w 33 [.int .i64 k, .int .u64 (i : Nat), .int .u64 (n : Nat), .string p, .int .u64 (D 0 : Nat), .int .u64 (D 1 : Nat), .int .u64 (D 2 : Nat), .int .u64 (D 3 : Nat), .string s, .int .u64 (E 0 : Nat), .int .u64 (E 1 : Nat), .int .u64 (E 2 : Nat), .int .u64 (E 3 : Nat), .int .i64 m.1, .int .i64 m.2.1, .int .i64 m.2.2, .slice qv nv cv, .slice ql nl cl]
 obtain ⟨w2, hW2, hF, e2, s2⟩ := new_row w1 108 [.bool false, .bool false, .bool false, .bool true, .bool false, .bool false]
 obtain ⟨w3, hW3, hR, e3, s3⟩ := new_row w2 33 [.int .i64 0, .int .u64 0, .int .u64 0, .string ⟨#[]⟩, .int .u64 0, .int .u64 0, .int .u64 0, .int .u64 0, .string ⟨#[]⟩, .int .u64 0, .int .u64 0, .int .u64 0, .int .u64 0, .int .i64 0, .int .i64 0, .int .i64 0, .slice none 0 0, .slice none 0 0]
 obtain ⟨w4, hW4, hN, e4, _⟩ := new_row w3 33 [.int .i64 0, .int .u64 0, .int .u64 0, .string ⟨#[]⟩, .int .u64 0, .int .u64 0, .int .u64 0, .int .u64 0, .string ⟨#[]⟩, .int .u64 0, .int .u64 0, .int .u64 0, .int .u64 0, .int .i64 0, .int .i64 0, .int .i64 0, .slice none 0 0, .slice none 0 0]
 obtain ⟨bF, hbF⟩ : ∃ x, w1.heap.size = x := ⟨_, rfl⟩
 obtain ⟨bR, hbR⟩ : ∃ x, w2.heap.size = x := ⟨_, rfl⟩
 obtain ⟨bN, hbN⟩ : ∃ x, w3.heap.size = x := ⟨_, rfl⟩
 have q1 : w.heap.size ≤ bR ∧ bR < bN ∧ w.heap.size < bR ∧ bF < bR ∧ w.heap.size < w3.heap.size := by omega
 obtain ⟨q1, q2, q3, q4, xl⟩ := q1
 clear s1 s2 s3
 rw [hbF] at hF
 rw [hbR] at hR
 rw [hbN] at hN
 have x0 : w3.cell? ⟨w.heap.size, 0, none⟩ = some (.int .i64 k) := ((hO.ext e2).ext e3).cell 0
 replace hO := ((hO.ext e2).ext e3).ext e4
 replace hF := (hF.ext e3).ext e4
 replace hR := hR.ext e4
 replace hE := ((hE.trans e2).trans e3).trans e4
 rw [hbN] at xl
 have xl' : w.heap.size < w3.heap.size := by omega
 have x0' : w4.cell? ⟨w.heap.size, 0, none⟩ = some (.int .i64 k) := hO.cell 0
 have xl4 := hO.lt
 go_enter Tryz.func57, Tryz.ntmps57
 go_wp2_with (first | (refine wpList_store_row (cells := #[.int .i64 k, .int .u64 0, .int .u64 0, .string ⟨#[]⟩, .int .u64 0, .int .u64 0, .int .u64 0, .int .u64 0, .string ⟨#[]⟩, .int .u64 0, .int .u64 0, .int .u64 0, .int .u64 0, .int .i64 0, .int .i64 0, .int .i64 0, .slice none 0 0, .slice none 0 0]) rfl 33 _ _ rfl bN rfl rfl _ _ hN (by kernel_rfl) rfl (by first | rfl | decide | simp [Value.oneCell']) ?_; refine Hid.out ?_))
 refine Lib.hid ?_
 obtain ⟨w5, hW5, hN5, hfar, hext⟩ := set_row hN [.int .i64 k, .int .u64 0, .int .u64 0, .string ⟨#[]⟩, .int .u64 0, .int .u64 0, .int .u64 0, .int .u64 0, .string ⟨#[]⟩, .int .u64 0, .int .u64 0, .int .u64 0, .int .u64 0, .int .i64 0, .int .i64 0, .int .i64 0, .slice none 0 0, .slice none 0 0]
 have hO5 := hfar _ _ _ (by omega) hO
 have hF5 := hfar _ _ _ (by omega) hF
 have hR5 := hfar _ _ _ (by omega) hR
 have hE5 := hext _ hE (by omega)
 clear hW1 hW2 hW3 hW4 hbF hbR hbN x0 x0' xl xl' xl4 hN hO hF hR hE e2 e3 e4 hfar hext
 rw [hW5]
 clear hW5
 obtain ⟨bO, hbO⟩ : ∃ x, x = w.heap.size := ⟨_, rfl⟩
 rw [← hbO] at hO5 q3
 rw [← hbO]
 clear hbO
 have hN := hN5
 have hO := hO5
 have hR := hR5
 have hE := hE5
 clear hN5 hO5 hR5 hE5
 have f0 := hF5.cell 0
 have f1 := hF5.cell 1
 have f2 := hF5.cell 2
 have f3 := hF5.cell 3
 have f4 := hF5.cell 4
 have f5 := hF5.cell 5
 simp only [List.getElem?_cons_zero, List.getElem?_cons_succ] at f0 f1 f2 f3 f4 f5
 have fl := hF5.lt
 have bol := hO.lt
 have bnl := hN.lt
 have x4 : w5.cell? ⟨bO, 4, none⟩ = some (.int .u64 (D 0 : Nat)) := hO.cell 4
 have x5 : w5.cell? ⟨bO, 5, none⟩ = some (.int .u64 (D 1 : Nat)) := hO.cell 5
 have x6 : w5.cell? ⟨bO, 6, none⟩ = some (.int .u64 (D 2 : Nat)) := hO.cell 6
 have x7 : w5.cell? ⟨bO, 7, none⟩ = some (.int .u64 (D 3 : Nat)) := hO.cell 7
 have y4 : w5.cell? ⟨bN, 4, none⟩ = some (.int .u64 0) := hN.cell 4
 have yf4 := hN.free 4
 have y5 : w5.cell? ⟨bN, 5, none⟩ = some (.int .u64 0) := hN.cell 5
 have yf5 := hN.free 5
 have y6 : w5.cell? ⟨bN, 6, none⟩ = some (.int .u64 0) := hN.cell 6
 have yf6 := hN.free 6
 have y7 : w5.cell? ⟨bN, 7, none⟩ = some (.int .u64 0) := hN.cell 7
 have yf7 := hN.free 7
 go_upto_region 14 with fail
 clear x4 y4 yf4 x5 y5 yf5 x6 y6 yf6 x7 y7 yf7
 clear f0 f1 f2 f3 f4 f5 fl bol bnl hF5 hO
 have hN6 : RB bN 33 [.int .i64 k, .int .u64 0, .int .u64 0, .string ⟨#[]⟩, .int .u64 (D 0 : Nat), .int .u64 (D 1 : Nat), .int .u64 (D 2 : Nat), .int .u64 (D 3 : Nat), .string ⟨#[]⟩, .int .u64 0, .int .u64 0, .int .u64 0, .int .u64 0, .int .i64 0, .int .i64 0, .int .i64 0, .slice none 0 0, .slice none 0 0] ((((w5.setCell ⟨bN, 4, none⟩ (.int .u64 (D 0 : Nat))).setCell ⟨bN, 5, none⟩ (.int .u64 (D 1 : Nat))).setCell ⟨bN, 6, none⟩ (.int .u64 (D 2 : Nat))).setCell ⟨bN, 7, none⟩ (.int .u64 (D 3 : Nat))) := ((((hN.set 4 (.int .u64 (D 0 : Nat))).set 5 (.int .u64 (D 1 : Nat))).set 6 (.int .u64 (D 2 : Nat))).set 7 (.int .u64 (D 3 : Nat)))
 have hR6 : RB bR 33 [.int .i64 0, .int .u64 0, .int .u64 0, .string ⟨#[]⟩, .int .u64 0, .int .u64 0, .int .u64 0, .int .u64 0, .string ⟨#[]⟩, .int .u64 0, .int .u64 0, .int .u64 0, .int .u64 0, .int .i64 0, .int .i64 0, .int .i64 0, .slice none 0 0, .slice none 0 0] ((((w5.setCell ⟨bN, 4, none⟩ (.int .u64 (D 0 : Nat))).setCell ⟨bN, 5, none⟩ (.int .u64 (D 1 : Nat))).setCell ⟨bN, 6, none⟩ (.int .u64 (D 2 : Nat))).setCell ⟨bN, 7, none⟩ (.int .u64 (D 3 : Nat))) := ((((hR.far (c := bN) (i := 4) (by omega) (.int .u64 (D 0 : Nat))).far (c := bN) (i := 5) (by omega) (.int .u64 (D 1 : Nat))).far (c := bN) (i := 6) (by omega) (.int .u64 (D 2 : Nat))).far (c := bN) (i := 7) (by omega) (.int .u64 (D 3 : Nat)))
 have hE6 : Ext w ((((w5.setCell ⟨bN, 4, none⟩ (.int .u64 (D 0 : Nat))).setCell ⟨bN, 5, none⟩ (.int .u64 (D 1 : Nat))).setCell ⟨bN, 6, none⟩ (.int .u64 (D 2 : Nat))).setCell ⟨bN, 7, none⟩ (.int .u64 (D 3 : Nat))) := (Below.setCell (Below.setCell (Below.setCell (Below.setCell hE (p := ⟨bN, 4, none⟩) (by show _ ≤ bN; omega) (.int .u64 (D 0 : Nat))) (p := ⟨bN, 5, none⟩) (by show _ ≤ bN; omega) (.int .u64 (D 1 : Nat))) (p := ⟨bN, 6, none⟩) (by show _ ≤ bN; omega) (.int .u64 (D 2 : Nat))) (p := ⟨bN, 7, none⟩) (by show _ ≤ bN; omega) (.int .u64 (D 3 : Nat)))
 clear hN hR hE
 generalize ((((w5.setCell ⟨bN, 4, none⟩ (.int .u64 (D 0 : Nat))).setCell ⟨bN, 5, none⟩ (.int .u64 (D 1 : Nat))).setCell ⟨bN, 6, none⟩ (.int .u64 (D 2 : Nat))).setCell ⟨bN, 7, none⟩ (.int .u64 (D 3 : Nat))) = w6 at *
 have hZ := hR6.setRow [.int .i64 k, .int .u64 0, .int .u64 0, .string ⟨#[]⟩, .int .u64 (D 0 : Nat), .int .u64 (D 1 : Nat), .int .u64 (D 2 : Nat), .int .u64 (D 3 : Nat), .string ⟨#[]⟩, .int .u64 0, .int .u64 0, .int .u64 0, .int .u64 0, .int .i64 0, .int .i64 0, .int .i64 0, .slice none 0 0, .slice none 0 0]
 have hE7 : Ext w (w6.setRow bR #[.int .i64 k, .int .u64 0, .int .u64 0, .string ⟨#[]⟩, .int .u64 (D 0 : Nat), .int .u64 (D 1 : Nat), .int .u64 (D 2 : Nat), .int .u64 (D 3 : Nat), .string ⟨#[]⟩, .int .u64 0, .int .u64 0, .int .u64 0, .int .u64 0, .int .i64 0, .int .i64 0, .int .i64 0, .slice none 0 0, .slice none 0 0]) := Ext.setRow hE6 q1 _
 go_wp2_with (first | (refine wpList_load_row rfl 33 _ rfl bN rfl _ _ _ _ hN6 Tryz.underlying33 rfl (by kernel_rfl) ?_) | (refine wpList_store_row (cells := #[.int .i64 k, .int .u64 0, .int .u64 0, .string ⟨#[]⟩, .int .u64 (D 0 : Nat), .int .u64 (D 1 : Nat), .int .u64 (D 2 : Nat), .int .u64 (D 3 : Nat), .string ⟨#[]⟩, .int .u64 0, .int .u64 0, .int .u64 0, .int .u64 0, .int .i64 0, .int .i64 0, .int .i64 0, .slice none 0 0, .slice none 0 0]) rfl 33 _ _ rfl bR rfl rfl _ _ hR6 (by kernel_rfl) rfl (by first | rfl | decide | simp [Value.oneCell']) ?_))
 refine bodyPost_ret (results_cell_row rfl _ _ _ _ _ _ _ rfl hZ Tryz.underlying33 rfl (by kernel_rfl)) rfl ?_
 exact ⟨rfl, hE7⟩

set_option maxHeartbeats 2000000 in
set_option maxRecDepth 100000 in
theorem bare6_w (k : Int) (i n : Nat) (p : ByteArray) (D : Nat → Nat) (s : ByteArray) (E : Nat → Nat) (m : Nums3) (qv ql : Option Addr) (nv cv nl cl : Nat) (w : World) :
  Calls Tryz.prog 57 #[.agg #[.int .i64 k, .int .u64 (i : Nat), .int .u64 (n : Nat), .string p, .int .u64 (D 0 : Nat), .int .u64 (D 1 : Nat), .int .u64 (D 2 : Nat), .int .u64 (D 3 : Nat), .string s, .int .u64 (E 0 : Nat), .int .u64 (E 1 : Nat), .int .u64 (E 2 : Nat), .int .u64 (E 3 : Nat), .int .i64 m.1, .int .i64 m.2.1, .int .i64 m.2.2, .slice qv nv cv, .slice ql nl cl], .agg #[.bool false, .bool false, .bool true, .bool true, .bool false, .bool true]] w fun e w' => e = .returned (.agg #[.int .i64 k, .int .u64 0, .int .u64 0, .string p, .int .u64 (D 0 : Nat), .int .u64 (D 1 : Nat), .int .u64 (D 2 : Nat), .int .u64 (D 3 : Nat), .string ⟨#[]⟩, .int .u64 0, .int .u64 0, .int .u64 0, .int .u64 0, .int .i64 0, .int .i64 0, .int .i64 0, .slice none 0 0, .slice ql nl cl]) ∧ Ext w w' := by
 obtain ⟨w1, hW1, hO, hE, s1⟩ := new_row w 33 [.int .i64 k, .int .u64 (i : Nat), .int .u64 (n : Nat), .string p, .int .u64 (D 0 : Nat), .int .u64 (D 1 : Nat), .int .u64 (D 2 : Nat), .int .u64 (D 3 : Nat), .string s, .int .u64 (E 0 : Nat), .int .u64 (E 1 : Nat), .int .u64 (E 2 : Nat), .int .u64 (E 3 : Nat), .int .i64 m.1, .int .i64 m.2.1, .int .i64 m.2.2, .slice qv nv cv, .slice ql nl cl]
 obtain ⟨w2, hW2, hF, e2, s2⟩ := new_row w1 108 [.bool false, .bool false, .bool true, .bool true, .bool false, .bool true]
 obtain ⟨w3, hW3, hR, e3, s3⟩ := new_row w2 33 [.int .i64 0, .int .u64 0, .int .u64 0, .string ⟨#[]⟩, .int .u64 0, .int .u64 0, .int .u64 0, .int .u64 0, .string ⟨#[]⟩, .int .u64 0, .int .u64 0, .int .u64 0, .int .u64 0, .int .i64 0, .int .i64 0, .int .i64 0, .slice none 0 0, .slice none 0 0]
 obtain ⟨w4, hW4, hN, e4, _⟩ := new_row w3 33 [.int .i64 0, .int .u64 0, .int .u64 0, .string ⟨#[]⟩, .int .u64 0, .int .u64 0, .int .u64 0, .int .u64 0, .string ⟨#[]⟩, .int .u64 0, .int .u64 0, .int .u64 0, .int .u64 0, .int .i64 0, .int .i64 0, .int .i64 0, .slice none 0 0, .slice none 0 0]
 obtain ⟨bF, hbF⟩ : ∃ x, w1.heap.size = x := ⟨_, rfl⟩
 obtain ⟨bR, hbR⟩ : ∃ x, w2.heap.size = x := ⟨_, rfl⟩
 obtain ⟨bN, hbN⟩ : ∃ x, w3.heap.size = x := ⟨_, rfl⟩
 have q1 : w.heap.size ≤ bR ∧ bR < bN ∧ w.heap.size < bR ∧ bF < bR ∧ w.heap.size < w3.heap.size := by omega
 obtain ⟨q1, q2, q3, q4, xl⟩ := q1
 clear s1 s2 s3
 rw [hbF] at hF
 rw [hbR] at hR
 rw [hbN] at hN
 have x0 : w3.cell? ⟨w.heap.size, 0, none⟩ = some (.int .i64 k) := ((hO.ext e2).ext e3).cell 0
 replace hO := ((hO.ext e2).ext e3).ext e4
 replace hF := (hF.ext e3).ext e4
 replace hR := hR.ext e4
 replace hE := ((hE.trans e2).trans e3).trans e4
 rw [hbN] at xl
 have xl' : w.heap.size < w3.heap.size := by omega
 have x0' : w4.cell? ⟨w.heap.size, 0, none⟩ = some (.int .i64 k) := hO.cell 0
 have xl4 := hO.lt
 go_enter Tryz.func57, Tryz.ntmps57
 go_wp2_with (first | (refine wpList_store_row (cells := #[.int .i64 k, .int .u64 0, .int .u64 0, .string ⟨#[]⟩, .int .u64 0, .int .u64 0, .int .u64 0, .int .u64 0, .string ⟨#[]⟩, .int .u64 0, .int .u64 0, .int .u64 0, .int .u64 0, .int .i64 0, .int .i64 0, .int .i64 0, .slice none 0 0, .slice none 0 0]) rfl 33 _ _ rfl bN rfl rfl _ _ hN (by kernel_rfl) rfl (by first | rfl | decide | simp [Value.oneCell']) ?_; refine Hid.out ?_))
 refine Lib.hid ?_
 obtain ⟨w5, hW5, hN5, hfar, hext⟩ := set_row hN [.int .i64 k, .int .u64 0, .int .u64 0, .string ⟨#[]⟩, .int .u64 0, .int .u64 0, .int .u64 0, .int .u64 0, .string ⟨#[]⟩, .int .u64 0, .int .u64 0, .int .u64 0, .int .u64 0, .int .i64 0, .int .i64 0, .int .i64 0, .slice none 0 0, .slice none 0 0]
 have hO5 := hfar _ _ _ (by omega) hO
 have hF5 := hfar _ _ _ (by omega) hF
 have hR5 := hfar _ _ _ (by omega) hR
 have hE5 := hext _ hE (by omega)
 clear hW1 hW2 hW3 hW4 hbF hbR hbN x0 x0' xl xl' xl4 hN hO hF hR hE e2 e3 e4 hfar hext
 rw [hW5]
 clear hW5
 obtain ⟨bO, hbO⟩ : ∃ x, x = w.heap.size := ⟨_, rfl⟩
 rw [← hbO] at hO5 q3
 rw [← hbO]
 clear hbO
 have hN := hN5
 have hO := hO5
 have hR := hR5
 have hE := hE5
 clear hN5 hO5 hR5 hE5
 have f0 := hF5.cell 0
 have f1 := hF5.cell 1
 have f2 := hF5.cell 2
 have f3 := hF5.cell 3
 have f4 := hF5.cell 4
 have f5 := hF5.cell 5
 simp only [List.getElem?_cons_zero, List.getElem?_cons_succ] at f0 f1 f2 f3 f4 f5
 have fl := hF5.lt
 have bol := hO.lt
 have bnl := hN.lt
 have x3 : w5.cell? ⟨bO, 3, none⟩ = some (.string p) := hO.cell 3
 have x4 : w5.cell? ⟨bO, 4, none⟩ = some (.int .u64 (D 0 : Nat)) := hO.cell 4
 have x5 : w5.cell? ⟨bO, 5, none⟩ = some (.int .u64 (D 1 : Nat)) := hO.cell 5
 have x6 : w5.cell? ⟨bO, 6, none⟩ = some (.int .u64 (D 2 : Nat)) := hO.cell 6
 have x7 : w5.cell? ⟨bO, 7, none⟩ = some (.int .u64 (D 3 : Nat)) := hO.cell 7
 have x17 : w5.cell? ⟨bO, 17, none⟩ = some (.slice ql nl cl) := hO.cell 17
 have y3 : w5.cell? ⟨bN, 3, none⟩ = some (.string ⟨#[]⟩) := hN.cell 3
 have yf3 := hN.free 3
 have y4 : w5.cell? ⟨bN, 4, none⟩ = some (.int .u64 0) := hN.cell 4
 have yf4 := hN.free 4
 have y5 : w5.cell? ⟨bN, 5, none⟩ = some (.int .u64 0) := hN.cell 5
 have yf5 := hN.free 5
 have y6 : w5.cell? ⟨bN, 6, none⟩ = some (.int .u64 0) := hN.cell 6
 have yf6 := hN.free 6
 have y7 : w5.cell? ⟨bN, 7, none⟩ = some (.int .u64 0) := hN.cell 7
 have yf7 := hN.free 7
 have y17 : w5.cell? ⟨bN, 17, none⟩ = some (.slice none 0 0) := hN.cell 17
 have yf17 := hN.free 17
 go_upto_region 14 with fail
 clear x3 y3 yf3 x4 y4 yf4 x5 y5 yf5 x6 y6 yf6 x7 y7 yf7 x17 y17 yf17
 clear f0 f1 f2 f3 f4 f5 fl bol bnl hF5 hO
 have hN6 : RB bN 33 [.int .i64 k, .int .u64 0, .int .u64 0, .string p, .int .u64 (D 0 : Nat), .int .u64 (D 1 : Nat), .int .u64 (D 2 : Nat), .int .u64 (D 3 : Nat), .string ⟨#[]⟩, .int .u64 0, .int .u64 0, .int .u64 0, .int .u64 0, .int .i64 0, .int .i64 0, .int .i64 0, .slice none 0 0, .slice ql nl cl] ((((((w5.setCell ⟨bN, 3, none⟩ (.string p)).setCell ⟨bN, 4, none⟩ (.int .u64 (D 0 : Nat))).setCell ⟨bN, 5, none⟩ (.int .u64 (D 1 : Nat))).setCell ⟨bN, 6, none⟩ (.int .u64 (D 2 : Nat))).setCell ⟨bN, 7, none⟩ (.int .u64 (D 3 : Nat))).setCell ⟨bN, 17, none⟩ (.slice ql nl cl)) := ((((((hN.set 3 (.string p)).set 4 (.int .u64 (D 0 : Nat))).set 5 (.int .u64 (D 1 : Nat))).set 6 (.int .u64 (D 2 : Nat))).set 7 (.int .u64 (D 3 : Nat))).set 17 (.slice ql nl cl))
 have hR6 : RB bR 33 [.int .i64 0, .int .u64 0, .int .u64 0, .string ⟨#[]⟩, .int .u64 0, .int .u64 0, .int .u64 0, .int .u64 0, .string ⟨#[]⟩, .int .u64 0, .int .u64 0, .int .u64 0, .int .u64 0, .int .i64 0, .int .i64 0, .int .i64 0, .slice none 0 0, .slice none 0 0] ((((((w5.setCell ⟨bN, 3, none⟩ (.string p)).setCell ⟨bN, 4, none⟩ (.int .u64 (D 0 : Nat))).setCell ⟨bN, 5, none⟩ (.int .u64 (D 1 : Nat))).setCell ⟨bN, 6, none⟩ (.int .u64 (D 2 : Nat))).setCell ⟨bN, 7, none⟩ (.int .u64 (D 3 : Nat))).setCell ⟨bN, 17, none⟩ (.slice ql nl cl)) := ((((((hR.far (c := bN) (i := 3) (by omega) (.string p)).far (c := bN) (i := 4) (by omega) (.int .u64 (D 0 : Nat))).far (c := bN) (i := 5) (by omega) (.int .u64 (D 1 : Nat))).far (c := bN) (i := 6) (by omega) (.int .u64 (D 2 : Nat))).far (c := bN) (i := 7) (by omega) (.int .u64 (D 3 : Nat))).far (c := bN) (i := 17) (by omega) (.slice ql nl cl))
 have hE6 : Ext w ((((((w5.setCell ⟨bN, 3, none⟩ (.string p)).setCell ⟨bN, 4, none⟩ (.int .u64 (D 0 : Nat))).setCell ⟨bN, 5, none⟩ (.int .u64 (D 1 : Nat))).setCell ⟨bN, 6, none⟩ (.int .u64 (D 2 : Nat))).setCell ⟨bN, 7, none⟩ (.int .u64 (D 3 : Nat))).setCell ⟨bN, 17, none⟩ (.slice ql nl cl)) := (Below.setCell (Below.setCell (Below.setCell (Below.setCell (Below.setCell (Below.setCell hE (p := ⟨bN, 3, none⟩) (by show _ ≤ bN; omega) (.string p)) (p := ⟨bN, 4, none⟩) (by show _ ≤ bN; omega) (.int .u64 (D 0 : Nat))) (p := ⟨bN, 5, none⟩) (by show _ ≤ bN; omega) (.int .u64 (D 1 : Nat))) (p := ⟨bN, 6, none⟩) (by show _ ≤ bN; omega) (.int .u64 (D 2 : Nat))) (p := ⟨bN, 7, none⟩) (by show _ ≤ bN; omega) (.int .u64 (D 3 : Nat))) (p := ⟨bN, 17, none⟩) (by show _ ≤ bN; omega) (.slice ql nl cl))
 clear hN hR hE
 generalize ((((((w5.setCell ⟨bN, 3, none⟩ (.string p)).setCell ⟨bN, 4, none⟩ (.int .u64 (D 0 : Nat))).setCell ⟨bN, 5, none⟩ (.int .u64 (D 1 : Nat))).setCell ⟨bN, 6, none⟩ (.int .u64 (D 2 : Nat))).setCell ⟨bN, 7, none⟩ (.int .u64 (D 3 : Nat))).setCell ⟨bN, 17, none⟩ (.slice ql nl cl)) = w6 at *
 have hZ := hR6.setRow [.int .i64 k, .int .u64 0, .int .u64 0, .string p, .int .u64 (D 0 : Nat), .int .u64 (D 1 : Nat), .int .u64 (D 2 : Nat), .int .u64 (D 3 : Nat), .string ⟨#[]⟩, .int .u64 0, .int .u64 0, .int .u64 0, .int .u64 0, .int .i64 0, .int .i64 0, .int .i64 0, .slice none 0 0, .slice ql nl cl]
 have hE7 : Ext w (w6.setRow bR #[.int .i64 k, .int .u64 0, .int .u64 0, .string p, .int .u64 (D 0 : Nat), .int .u64 (D 1 : Nat), .int .u64 (D 2 : Nat), .int .u64 (D 3 : Nat), .string ⟨#[]⟩, .int .u64 0, .int .u64 0, .int .u64 0, .int .u64 0, .int .i64 0, .int .i64 0, .int .i64 0, .slice none 0 0, .slice ql nl cl]) := Ext.setRow hE6 q1 _
 go_wp2_with (first | (refine wpList_load_row rfl 33 _ rfl bN rfl _ _ _ _ hN6 Tryz.underlying33 rfl (by kernel_rfl) ?_) | (refine wpList_store_row (cells := #[.int .i64 k, .int .u64 0, .int .u64 0, .string p, .int .u64 (D 0 : Nat), .int .u64 (D 1 : Nat), .int .u64 (D 2 : Nat), .int .u64 (D 3 : Nat), .string ⟨#[]⟩, .int .u64 0, .int .u64 0, .int .u64 0, .int .u64 0, .int .i64 0, .int .i64 0, .int .i64 0, .slice none 0 0, .slice ql nl cl]) rfl 33 _ _ rfl bR rfl rfl _ _ hR6 (by kernel_rfl) rfl (by first | rfl | decide | simp [Value.oneCell']) ?_))
 refine bodyPost_ret (results_cell_row rfl _ _ _ _ _ _ _ rfl hZ Tryz.underlying33 rfl (by kernel_rfl)) rfl ?_
 exact ⟨rfl, hE7⟩

set_option maxHeartbeats 2000000 in
set_option maxRecDepth 100000 in
theorem bare7_w (k : Int) (i n : Nat) (p : ByteArray) (D : Nat → Nat) (s : ByteArray) (E : Nat → Nat) (m : Nums3) (qv ql : Option Addr) (nv cv nl cl : Nat) (w : World) :
  Calls Tryz.prog 57 #[.agg #[.int .i64 k, .int .u64 (i : Nat), .int .u64 (n : Nat), .string p, .int .u64 (D 0 : Nat), .int .u64 (D 1 : Nat), .int .u64 (D 2 : Nat), .int .u64 (D 3 : Nat), .string s, .int .u64 (E 0 : Nat), .int .u64 (E 1 : Nat), .int .u64 (E 2 : Nat), .int .u64 (E 3 : Nat), .int .i64 m.1, .int .i64 m.2.1, .int .i64 m.2.2, .slice qv nv cv, .slice ql nl cl], .agg #[.bool false, .bool false, .bool false, .bool false, .bool false, .bool false]] w fun e w' => e = .returned (.agg #[.int .i64 k, .int .u64 0, .int .u64 0, .string ⟨#[]⟩, .int .u64 0, .int .u64 0, .int .u64 0, .int .u64 0, .string ⟨#[]⟩, .int .u64 0, .int .u64 0, .int .u64 0, .int .u64 0, .int .i64 0, .int .i64 0, .int .i64 0, .slice none 0 0, .slice none 0 0]) ∧ Ext w w' := by
 obtain ⟨w1, hW1, hO, hE, s1⟩ := new_row w 33 [.int .i64 k, .int .u64 (i : Nat), .int .u64 (n : Nat), .string p, .int .u64 (D 0 : Nat), .int .u64 (D 1 : Nat), .int .u64 (D 2 : Nat), .int .u64 (D 3 : Nat), .string s, .int .u64 (E 0 : Nat), .int .u64 (E 1 : Nat), .int .u64 (E 2 : Nat), .int .u64 (E 3 : Nat), .int .i64 m.1, .int .i64 m.2.1, .int .i64 m.2.2, .slice qv nv cv, .slice ql nl cl]
 obtain ⟨w2, hW2, hF, e2, s2⟩ := new_row w1 108 [.bool false, .bool false, .bool false, .bool false, .bool false, .bool false]
 obtain ⟨w3, hW3, hR, e3, s3⟩ := new_row w2 33 [.int .i64 0, .int .u64 0, .int .u64 0, .string ⟨#[]⟩, .int .u64 0, .int .u64 0, .int .u64 0, .int .u64 0, .string ⟨#[]⟩, .int .u64 0, .int .u64 0, .int .u64 0, .int .u64 0, .int .i64 0, .int .i64 0, .int .i64 0, .slice none 0 0, .slice none 0 0]
 obtain ⟨w4, hW4, hN, e4, _⟩ := new_row w3 33 [.int .i64 0, .int .u64 0, .int .u64 0, .string ⟨#[]⟩, .int .u64 0, .int .u64 0, .int .u64 0, .int .u64 0, .string ⟨#[]⟩, .int .u64 0, .int .u64 0, .int .u64 0, .int .u64 0, .int .i64 0, .int .i64 0, .int .i64 0, .slice none 0 0, .slice none 0 0]
 obtain ⟨bF, hbF⟩ : ∃ x, w1.heap.size = x := ⟨_, rfl⟩
 obtain ⟨bR, hbR⟩ : ∃ x, w2.heap.size = x := ⟨_, rfl⟩
 obtain ⟨bN, hbN⟩ : ∃ x, w3.heap.size = x := ⟨_, rfl⟩
 have q1 : w.heap.size ≤ bR ∧ bR < bN ∧ w.heap.size < bR ∧ bF < bR ∧ w.heap.size < w3.heap.size := by omega
 obtain ⟨q1, q2, q3, q4, xl⟩ := q1
 clear s1 s2 s3
 rw [hbF] at hF
 rw [hbR] at hR
 rw [hbN] at hN
 have x0 : w3.cell? ⟨w.heap.size, 0, none⟩ = some (.int .i64 k) := ((hO.ext e2).ext e3).cell 0
 replace hO := ((hO.ext e2).ext e3).ext e4
 replace hF := (hF.ext e3).ext e4
 replace hR := hR.ext e4
 replace hE := ((hE.trans e2).trans e3).trans e4
 rw [hbN] at xl
 have xl' : w.heap.size < w3.heap.size := by omega
 have x0' : w4.cell? ⟨w.heap.size, 0, none⟩ = some (.int .i64 k) := hO.cell 0
 have xl4 := hO.lt
 go_enter Tryz.func57, Tryz.ntmps57
 go_wp2_with (first | (refine wpList_store_row (cells := #[.int .i64 k, .int .u64 0, .int .u64 0, .string ⟨#[]⟩, .int .u64 0, .int .u64 0, .int .u64 0, .int .u64 0, .string ⟨#[]⟩, .int .u64 0, .int .u64 0, .int .u64 0, .int .u64 0, .int .i64 0, .int .i64 0, .int .i64 0, .slice none 0 0, .slice none 0 0]) rfl 33 _ _ rfl bN rfl rfl _ _ hN (by kernel_rfl) rfl (by first | rfl | decide | simp [Value.oneCell']) ?_; refine Hid.out ?_))
 refine Lib.hid ?_
 obtain ⟨w5, hW5, hN5, hfar, hext⟩ := set_row hN [.int .i64 k, .int .u64 0, .int .u64 0, .string ⟨#[]⟩, .int .u64 0, .int .u64 0, .int .u64 0, .int .u64 0, .string ⟨#[]⟩, .int .u64 0, .int .u64 0, .int .u64 0, .int .u64 0, .int .i64 0, .int .i64 0, .int .i64 0, .slice none 0 0, .slice none 0 0]
 have hO5 := hfar _ _ _ (by omega) hO
 have hF5 := hfar _ _ _ (by omega) hF
 have hR5 := hfar _ _ _ (by omega) hR
 have hE5 := hext _ hE (by omega)
 clear hW1 hW2 hW3 hW4 hbF hbR hbN x0 x0' xl xl' xl4 hN hO hF hR hE e2 e3 e4 hfar hext
 rw [hW5]
 clear hW5
 obtain ⟨bO, hbO⟩ : ∃ x, x = w.heap.size := ⟨_, rfl⟩
 rw [← hbO] at hO5 q3
 rw [← hbO]
 clear hbO
 have hN := hN5
 have hO := hO5
 have hR := hR5
 have hE := hE5
 clear hN5 hO5 hR5 hE5
 have f0 := hF5.cell 0
 have f1 := hF5.cell 1
 have f2 := hF5.cell 2
 have f3 := hF5.cell 3
 have f4 := hF5.cell 4
 have f5 := hF5.cell 5
 simp only [List.getElem?_cons_zero, List.getElem?_cons_succ] at f0 f1 f2 f3 f4 f5
 have fl := hF5.lt
 have bol := hO.lt
 have bnl := hN.lt

 go_upto_region 14 with fail

 clear f0 f1 f2 f3 f4 f5 fl bol bnl hF5 hO
 have hN6 : RB bN 33 [.int .i64 k, .int .u64 0, .int .u64 0, .string ⟨#[]⟩, .int .u64 0, .int .u64 0, .int .u64 0, .int .u64 0, .string ⟨#[]⟩, .int .u64 0, .int .u64 0, .int .u64 0, .int .u64 0, .int .i64 0, .int .i64 0, .int .i64 0, .slice none 0 0, .slice none 0 0] w5 := hN
 have hR6 : RB bR 33 [.int .i64 0, .int .u64 0, .int .u64 0, .string ⟨#[]⟩, .int .u64 0, .int .u64 0, .int .u64 0, .int .u64 0, .string ⟨#[]⟩, .int .u64 0, .int .u64 0, .int .u64 0, .int .u64 0, .int .i64 0, .int .i64 0, .int .i64 0, .slice none 0 0, .slice none 0 0] w5 := hR
 have hE6 : Ext w w5 := hE
 clear hN hR hE
 obtain ⟨w6, rfl⟩ : ∃ x, x = w5 := ⟨_, rfl⟩
 have hZ := hR6.setRow [.int .i64 k, .int .u64 0, .int .u64 0, .string ⟨#[]⟩, .int .u64 0, .int .u64 0, .int .u64 0, .int .u64 0, .string ⟨#[]⟩, .int .u64 0, .int .u64 0, .int .u64 0, .int .u64 0, .int .i64 0, .int .i64 0, .int .i64 0, .slice none 0 0, .slice none 0 0]
 have hE7 : Ext w (w6.setRow bR #[.int .i64 k, .int .u64 0, .int .u64 0, .string ⟨#[]⟩, .int .u64 0, .int .u64 0, .int .u64 0, .int .u64 0, .string ⟨#[]⟩, .int .u64 0, .int .u64 0, .int .u64 0, .int .u64 0, .int .i64 0, .int .i64 0, .int .i64 0, .slice none 0 0, .slice none 0 0]) := Ext.setRow hE6 q1 _
 go_wp2_with (first | (refine wpList_load_row rfl 33 _ rfl bN rfl _ _ _ _ hN6 Tryz.underlying33 rfl (by kernel_rfl) ?_) | (refine wpList_store_row (cells := #[.int .i64 k, .int .u64 0, .int .u64 0, .string ⟨#[]⟩, .int .u64 0, .int .u64 0, .int .u64 0, .int .u64 0, .string ⟨#[]⟩, .int .u64 0, .int .u64 0, .int .u64 0, .int .u64 0, .int .i64 0, .int .i64 0, .int .i64 0, .slice none 0 0, .slice none 0 0]) rfl 33 _ _ rfl bR rfl rfl _ _ hR6 (by kernel_rfl) rfl (by first | rfl | decide | simp [Value.oneCell']) ?_))
 refine bodyPost_ret (results_cell_row rfl _ _ _ _ _ _ _ rfl hZ Tryz.underlying33 rfl (by kernel_rfl)) rfl ?_
 exact ⟨rfl, hE7⟩

theorem bare_w (f : Fld) (hf : isFld f) (k : Int) (i n : Nat) (p : ByteArray) (D : Nat → Nat) (s : ByteArray) (E : Nat → Nat) (m : Nums3) (qv ql : Option Addr) (nv cv nl cl : Nat) (w : World) :
  Calls Tryz.prog 57 #[opV k i n p D s E m (.slice qv nv cv) (.slice ql nl cl), fldV f] w fun e w' => e = .returned (bareV f k i n p D s E m (.slice qv nv cv) (.slice ql nl cl)) ∧ Ext w w' := by
 rcases hf with rfl | rfl | rfl | rfl | rfl | rfl | rfl | rfl
 ·exact (bare0_w k i n p D s E m qv ql nv cv nl cl w).mono fun e w' h => ⟨by rw [h.1]; rfl, h.2⟩
 ·exact (bare1_w k i n p D s E m qv ql nv cv nl cl w).mono fun e w' h => ⟨by rw [h.1]; rfl, h.2⟩
 ·exact (bare2_w k i n p D s E m qv ql nv cv nl cl w).mono fun e w' h => ⟨by rw [h.1]; rfl, h.2⟩
 ·exact (bare3_w k i n p D s E m qv ql nv cv nl cl w).mono fun e w' h => ⟨by rw [h.1]; rfl, h.2⟩
 ·exact (bare4_w k i n p D s E m qv ql nv cv nl cl w).mono fun e w' h => ⟨by rw [h.1]; rfl, h.2⟩
 ·exact (bare5_w k i n p D s E m qv ql nv cv nl cl w).mono fun e w' h => ⟨by rw [h.1]; rfl, h.2⟩
 ·exact (bare6_w k i n p D s E m qv ql nv cv nl cl w).mono fun e w' h => ⟨by rw [h.1]; rfl, h.2⟩
 ·exact (bare7_w k i n p D s E m qv ql nv cv nl cl w).mono fun e w' h => ⟨by rw [h.1]; rfl, h.2⟩
end Go.Proofs.YtefjdmjkofaajaaGreatDoor
