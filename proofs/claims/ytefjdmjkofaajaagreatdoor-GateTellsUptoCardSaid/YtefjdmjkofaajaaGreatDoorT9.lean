/- Texts of the base. -/

import Derived.Test.YtefjdmjkofaajaaGreatDoorT11
import Derived.Test.YtefjdmjkofaajaaGreatDoorT15
import Derived.Deep.Cut
import Derived.Test.YtefjdmjkofaajaaGreatDoorT13
import Derived.Test.YtefjdmjkofaajaaGreatDoorShelf
import Derived.Test.YtefjdmjkofaajaaGreatDoorT7
namespace Go.Dm
open Go Go.RowKit
def xorW (x y : Int) : Int := Go.bits .xor .u32 x y
def andW (x y : Int) : Int := Go.bits .and .u32 x y
def orW (x y : Int) : Int := Go.bits .or .u32 x y
def at0 (l : List Int) (i : Nat) : Int := l.getD i 0
def headW (B : List Int) (k : Nat) : Int := orW (orW (orW (at0 B (4 * k) * 16777216) (at0 B (4 * k + 1) * 65536)) (at0 B (4 * k + 2) * 256)) (at0 B (4 * k + 3))
def madeW (a x b y : Int) : Int := (a + xorW (xorW (turnW x 7) (turnW x 18)) (x / 8) + b + xorW (xorW (turnW y 17) (turnW y 19)) (y / 1024)) % 4294967296
def wordsW (B : List Int) : Nat → List Int
 | 0 => []
 | k + 1 => wordsW B k ++ [if k < 16 then headW B k else madeW (at0 (wordsW B k) (k - 16)) (at0 (wordsW B k) (k - 15)) (at0 (wordsW B k) (k - 7)) (at0 (wordsW B k) (k - 2))]
theorem wordsW_len (B : List Int) (k : Nat) : (wordsW B k).length = k := by
 induction k with
 | zero => rfl
 | succ k ih => simp [wordsW, ih]
def roundsW : List Int := [1116352408, 1899447441, 3049323471, 3921009573, 961987163, 1508970993, 2453635748, 2870763221, 3624381080, 310598401, 607225278, 1426881987, 1925078388, 2162078206, 2614888103, 3248222580, 3835390401, 4022224774, 264347078, 604807628, 770255983, 1249150122, 1555081692, 1996064986, 2554220882, 2821834349, 2952996808, 3210313671, 3336571891, 3584528711, 113926993, 338241895, 666307205, 773529912, 1294757372, 1396182291, 1695183700, 1986661051, 2177026350, 2456956037, 2730485921, 2820302411, 3259730800, 3345764771, 3516065817, 3600352804, 4094571909, 275423344, 430227734, 506948616, 659060556, 883997877, 958139571, 1322822218, 1537002063, 1747873779, 1955562222, 2024104815, 2227730452, 2361852424, 2428436474, 2756734187, 3204031479, 3329325298]
def startW : List Int := [1779033703, 3144134277, 1013904242, 2773480762, 1359893119, 2600822924, 528734635, 1541459225]
def oneW (e v5 v6 v7 k w : Int) : Int := (v7 + xorW (xorW (turnW e 6) (turnW e 11)) (turnW e 25) + xorW (andW e v5) (andW (xorW IntKind.u32.max e) v6) + k + w) % 4294967296
def twoW (a v1 v2 : Int) : Int := (xorW (xorW (turnW a 2) (turnW a 13)) (turnW a 22) + xorW (xorW (andW a v1) (andW a v2)) (andW v1 v2)) % 4294967296
def stepW (v : List Int) (k w : Int) : List Int :=
 [(oneW (at0 v 4) (at0 v 5) (at0 v 6) (at0 v 7) k w + twoW (at0 v 0) (at0 v 1) (at0 v 2)) % 4294967296, at0 v 0, at0 v 1, at0 v 2, (at0 v 3 + oneW (at0 v 4) (at0 v 5) (at0 v 6) (at0 v 7) k w) % 4294967296, at0 v 4, at0 v 5, at0 v 6]
def runW (h W : List Int) : Nat → List Int
 | 0 => h
 | k + 1 => stepW (runW h W k) (at0 roundsW k) (at0 W k)
theorem runW_len {h W : List Int} (hh : h.length = 8) (k : Nat) : (runW h W k).length = 8 := by
 cases k with
 | zero => exact hh
 | succ k => rfl
theorem eight {v : List Int} (h : v.length = 8) : v = [at0 v 0, at0 v 1, at0 v 2, at0 v 3, at0 v 4, at0 v 5, at0 v 6, at0 v 7] := by
 match v, h with
 | [_, _, _, _, _, _, _, _], _ => rfl
def sumW (v h : List Int) : List Int := List.zipWith (fun x y => (x + y) % 4294967296) v h
def blockW (h B : List Int) : List Int := sumW (runW h (wordsW B 64) 64) h
theorem blockW_len {h B : List Int} (hh : h.length = 8) : (blockW h B).length = 8 := by simp [blockW, sumW, runW_len hh, hh]
def sumP (v h : List Int) (k : Nat) : List Int := (sumW v h).take k ++ v.drop k
theorem sumP_len {v h : List Int} (hv : v.length = 8) (hh : h.length = 8) {k : Nat} (hk : k ≤ 8) : (sumP v h k).length = 8 := by
 simp [sumP, sumW, hv, hh]; omega
theorem sumP_at {v h : List Int} (hv : v.length = 8) (hh : h.length = 8) {k : Nat} (hk : k < 8) : (sumP v h k).getD k 0 = at0 v k := by
 have hl : ((sumW v h).take k).length = k := by simp [sumW, hv, hh]; omega
 unfold sumP at0
 rw [List.getD_eq_getElem?_getD, List.getElem?_append_right (by omega), hl, Nat.sub_self, List.getElem?_drop, Nat.add_zero, List.getD_eq_getElem?_getD]
theorem sumP_set {v h : List Int} (hv : v.length = 8) (hh : h.length = 8) {k : Nat} (hk : k < 8) : (sumP v h k).set k ((at0 v k + at0 h k) % 4294967296) = sumP v h (k + 1) := by
 have hl : ((sumW v h).take k).length = k := by simp [sumW, hv, hh]; omega
 have hk1 : k < (sumW v h).length := by simp [sumW, hv, hh]; omega
 have hk2 : k < v.length := by omega
 have hk3 : k < h.length := by omega
 unfold sumP
 rw [List.set_append_right _ _ (by omega), hl, Nat.sub_self, List.drop_eq_getElem_cons hk2, List.set_cons_zero, List.take_add_one, List.getElem?_eq_getElem hk1]
 simp [sumW, at0, List.getD_eq_getElem?_getD, hk2, hk3]
theorem sumP_zero (v h : List Int) : sumP v h 0 = v := by simp [sumP]
theorem sumP_all {v h : List Int} (hv : v.length = 8) (hh : h.length = 8) : sumP v h 8 = sumW v h := by
 unfold sumP
 rw [List.take_of_length_le (by simp [sumW, hv, hh]), List.drop_of_length_le (by omega), List.append_nil]
structure Rd4 (b a0 a1 a2 a3 : Nat) (v0 v1 v2 v3 : Value) (w : World) : Prop where
 lt : b < w.heap.size
 c0 : w.cell? ⟨b, a0, none⟩ = some v0
 c1 : w.cell? ⟨b, a1, none⟩ = some v1
 c2 : w.cell? ⟨b, a2, none⟩ = some v2
 c3 : w.cell? ⟨b, a3, none⟩ = some v3
theorem Rd4.ext {b a0 a1 a2 a3 : Nat} {v0 v1 v2 v3 : Value} {w w' : World} (h : Rd4 b a0 a1 a2 a3 v0 v1 v2 v3 w) (hx : Ext w w') : Rd4 b a0 a1 a2 a3 v0 v1 v2 v3 w' := by
 have hc : ∀ {i : Nat} {u}, w.cell? ⟨b, i, none⟩ = some u → w'.cell? ⟨b, i, none⟩ = some u := fun {i u} e => by rw [hx.cell (by exact h.lt)]; exact e
 exact ⟨Nat.lt_of_lt_of_le h.lt hx.size, hc h.c0, hc h.c1, hc h.c2, hc h.c3⟩
abbrev headZ (z0 z1 z2 z3 : Int) : Int := orW (orW (orW (z0 * 16777216) (z1 * 65536)) (z2 * 256)) z3
theorem wordsW_set {B : List Int} {k : Nat} (hk : k < 64) (z : Int) : (wordsW B k ++ List.replicate (64 - k) 0).set k z = wordsW B k ++ [z] ++ List.replicate (64 - (k + 1)) 0 := by
 rw [show 64 - k = (64 - (k + 1)) + 1 by omega, List.replicate_succ, List.set_append_right _ _ (by rw [wordsW_len]; omega), wordsW_len, Nat.sub_self, List.set_cons_zero]
 simp
end Go.Dm
namespace Go.Proofs.YtefjdmjkofaajaaGreatDoor
open Go.RowKit Go.Dm
set_option maxHeartbeats 2000000 in
set_option maxRecDepth 100000 in
theorem words_w (B : List Int) (hB : B.length = 64) (hr : ∀ i, 0 ≤ at0 B i ∧ at0 B i ≤ 255) (w : World) :
  Calls Tryz.prog 135 #[.agg (cellsI .u8 B)] w fun e w' => e = .returned (.agg (cellsI .u32 (wordsW B 64))) ∧ Ext w w' := by
 have hA := AB.new w 174 .u8 B
 have hE : Ext w (w.alloc (.cells (cellsI .u8 B) 174)) := (Ext.refl _).alloc _
 generalize hW1 : w.alloc (.cells (cellsI .u8 B) 174) = w1 at *
 have hR : AB w1.heap.size 202 .u32 (List.replicate 64 0) (w1.alloc (.cells #[.int .u32 0, .int .u32 0, .int .u32 0, .int .u32 0, .int .u32 0, .int .u32 0, .int .u32 0, .int .u32 0, .int .u32 0, .int .u32 0, .int .u32 0, .int .u32 0, .int .u32 0, .int .u32 0, .int .u32 0, .int .u32 0, .int .u32 0, .int .u32 0, .int .u32 0, .int .u32 0, .int .u32 0, .int .u32 0, .int .u32 0, .int .u32 0, .int .u32 0, .int .u32 0, .int .u32 0, .int .u32 0, .int .u32 0, .int .u32 0, .int .u32 0, .int .u32 0, .int .u32 0, .int .u32 0, .int .u32 0, .int .u32 0, .int .u32 0, .int .u32 0, .int .u32 0, .int .u32 0, .int .u32 0, .int .u32 0, .int .u32 0, .int .u32 0, .int .u32 0, .int .u32 0, .int .u32 0, .int .u32 0, .int .u32 0, .int .u32 0, .int .u32 0, .int .u32 0, .int .u32 0, .int .u32 0, .int .u32 0, .int .u32 0, .int .u32 0, .int .u32 0, .int .u32 0, .int .u32 0, .int .u32 0, .int .u32 0, .int .u32 0, .int .u32 0] 202)) := AB.new w1 202 .u32 (List.replicate 64 0)
 have e2 : Ext w1 (w1.alloc (.cells #[.int .u32 0, .int .u32 0, .int .u32 0, .int .u32 0, .int .u32 0, .int .u32 0, .int .u32 0, .int .u32 0, .int .u32 0, .int .u32 0, .int .u32 0, .int .u32 0, .int .u32 0, .int .u32 0, .int .u32 0, .int .u32 0, .int .u32 0, .int .u32 0, .int .u32 0, .int .u32 0, .int .u32 0, .int .u32 0, .int .u32 0, .int .u32 0, .int .u32 0, .int .u32 0, .int .u32 0, .int .u32 0, .int .u32 0, .int .u32 0, .int .u32 0, .int .u32 0, .int .u32 0, .int .u32 0, .int .u32 0, .int .u32 0, .int .u32 0, .int .u32 0, .int .u32 0, .int .u32 0, .int .u32 0, .int .u32 0, .int .u32 0, .int .u32 0, .int .u32 0, .int .u32 0, .int .u32 0, .int .u32 0, .int .u32 0, .int .u32 0, .int .u32 0, .int .u32 0, .int .u32 0, .int .u32 0, .int .u32 0, .int .u32 0, .int .u32 0, .int .u32 0, .int .u32 0, .int .u32 0, .int .u32 0, .int .u32 0, .int .u32 0, .int .u32 0] 202)) := (Ext.refl _).alloc _
 replace hA := hA.ext e2
 replace hE := hE.trans e2
 clear e2
 generalize hW2 : w1.alloc (.cells #[.int .u32 0, .int .u32 0, .int .u32 0, .int .u32 0, .int .u32 0, .int .u32 0, .int .u32 0, .int .u32 0, .int .u32 0, .int .u32 0, .int .u32 0, .int .u32 0, .int .u32 0, .int .u32 0, .int .u32 0, .int .u32 0, .int .u32 0, .int .u32 0, .int .u32 0, .int .u32 0, .int .u32 0, .int .u32 0, .int .u32 0, .int .u32 0, .int .u32 0, .int .u32 0, .int .u32 0, .int .u32 0, .int .u32 0, .int .u32 0, .int .u32 0, .int .u32 0, .int .u32 0, .int .u32 0, .int .u32 0, .int .u32 0, .int .u32 0, .int .u32 0, .int .u32 0, .int .u32 0, .int .u32 0, .int .u32 0, .int .u32 0, .int .u32 0, .int .u32 0, .int .u32 0, .int .u32 0, .int .u32 0, .int .u32 0, .int .u32 0, .int .u32 0, .int .u32 0, .int .u32 0, .int .u32 0, .int .u32 0, .int .u32 0, .int .u32 0, .int .u32 0, .int .u32 0, .int .u32 0, .int .u32 0, .int .u32 0, .int .u32 0, .int .u32 0] 202) = w2 at *
 have hC : AB w2.heap.size 202 .u32 (List.replicate 64 0) (w2.alloc (.cells #[.int .u32 0, .int .u32 0, .int .u32 0, .int .u32 0, .int .u32 0, .int .u32 0, .int .u32 0, .int .u32 0, .int .u32 0, .int .u32 0, .int .u32 0, .int .u32 0, .int .u32 0, .int .u32 0, .int .u32 0, .int .u32 0, .int .u32 0, .int .u32 0, .int .u32 0, .int .u32 0, .int .u32 0, .int .u32 0, .int .u32 0, .int .u32 0, .int .u32 0, .int .u32 0, .int .u32 0, .int .u32 0, .int .u32 0, .int .u32 0, .int .u32 0, .int .u32 0, .int .u32 0, .int .u32 0, .int .u32 0, .int .u32 0, .int .u32 0, .int .u32 0, .int .u32 0, .int .u32 0, .int .u32 0, .int .u32 0, .int .u32 0, .int .u32 0, .int .u32 0, .int .u32 0, .int .u32 0, .int .u32 0, .int .u32 0, .int .u32 0, .int .u32 0, .int .u32 0, .int .u32 0, .int .u32 0, .int .u32 0, .int .u32 0, .int .u32 0, .int .u32 0, .int .u32 0, .int .u32 0, .int .u32 0, .int .u32 0, .int .u32 0, .int .u32 0] 202)) := AB.new w2 202 .u32 (List.replicate 64 0)
 have e2 : Ext w2 (w2.alloc (.cells #[.int .u32 0, .int .u32 0, .int .u32 0, .int .u32 0, .int .u32 0, .int .u32 0, .int .u32 0, .int .u32 0, .int .u32 0, .int .u32 0, .int .u32 0, .int .u32 0, .int .u32 0, .int .u32 0, .int .u32 0, .int .u32 0, .int .u32 0, .int .u32 0, .int .u32 0, .int .u32 0, .int .u32 0, .int .u32 0, .int .u32 0, .int .u32 0, .int .u32 0, .int .u32 0, .int .u32 0, .int .u32 0, .int .u32 0, .int .u32 0, .int .u32 0, .int .u32 0, .int .u32 0, .int .u32 0, .int .u32 0, .int .u32 0, .int .u32 0, .int .u32 0, .int .u32 0, .int .u32 0, .int .u32 0, .int .u32 0, .int .u32 0, .int .u32 0, .int .u32 0, .int .u32 0, .int .u32 0, .int .u32 0, .int .u32 0, .int .u32 0, .int .u32 0, .int .u32 0, .int .u32 0, .int .u32 0, .int .u32 0, .int .u32 0, .int .u32 0, .int .u32 0, .int .u32 0, .int .u32 0, .int .u32 0, .int .u32 0, .int .u32 0, .int .u32 0] 202)) := (Ext.refl _).alloc _
 replace hA := hA.ext e2
 replace hR := hR.ext e2
 replace hE := hE.trans e2
 clear e2
 generalize hW3 : w2.alloc (.cells #[.int .u32 0, .int .u32 0, .int .u32 0, .int .u32 0, .int .u32 0, .int .u32 0, .int .u32 0, .int .u32 0, .int .u32 0, .int .u32 0, .int .u32 0, .int .u32 0, .int .u32 0, .int .u32 0, .int .u32 0, .int .u32 0, .int .u32 0, .int .u32 0, .int .u32 0, .int .u32 0, .int .u32 0, .int .u32 0, .int .u32 0, .int .u32 0, .int .u32 0, .int .u32 0, .int .u32 0, .int .u32 0, .int .u32 0, .int .u32 0, .int .u32 0, .int .u32 0, .int .u32 0, .int .u32 0, .int .u32 0, .int .u32 0, .int .u32 0, .int .u32 0, .int .u32 0, .int .u32 0, .int .u32 0, .int .u32 0, .int .u32 0, .int .u32 0, .int .u32 0, .int .u32 0, .int .u32 0, .int .u32 0, .int .u32 0, .int .u32 0, .int .u32 0, .int .u32 0, .int .u32 0, .int .u32 0, .int .u32 0, .int .u32 0, .int .u32 0, .int .u32 0, .int .u32 0, .int .u32 0, .int .u32 0, .int .u32 0, .int .u32 0, .int .u32 0] 202) = w3 at *
 have hsz := size_cellsI .u8 B
 rw [hB] at hsz
 have hb12 : w.heap.size < w1.heap.size := by rw [← hW1, World.size_alloc]; omega
 have hb23 : w1.heap.size < w2.heap.size := by rw [← hW2, World.size_alloc]; omega
 go_enter Tryz.func135, Tryz.ntmps135
 go_wp2
 clear hW1 hW2 hW3 hsz
 obtain ⟨bA, hbA⟩ : ∃ x, x = w.heap.size := ⟨_, rfl⟩
 obtain ⟨bR, hbR⟩ : ∃ x, x = w1.heap.size := ⟨_, rfl⟩
 obtain ⟨bC, hbC⟩ : ∃ x, x = w2.heap.size := ⟨_, rfl⟩
 have hwA : w.heap.size ≤ bA := by omega
 rw [← hbA, ← hbR] at hb12
 rw [← hbR, ← hbC] at hb23
 rw [← hbA] at hA
 rw [← hbR] at hR
 rw [← hbC] at hC
 rw [← hbA, ← hbR, ← hbC]
 clear hbA hbR hbC
 go_loopw [7] (fun i wr => ∃ k : Nat, k ≤ 64 ∧ i = .int .i64 k ∧ Ext w wr ∧ AB bA 174 .u8 B wr ∧ AB bR 202 .u32 (List.replicate 64 0) wr ∧ AB bC 202 .u32 (wordsW B k ++ List.replicate (64 - k) 0) wr) (fun i _ => 64 - (intOf i).toNat)
 case atStart => exact ⟨0, by omega, rfl, hE, hA, hR, hC⟩
 case round =>
  obtain ⟨k, hk, rfl, h1, h2, h3, h4⟩ := hrel
  by_cases hlt : k < 64
  ·have hwl := wordsW_len B k
   have hCl : k < (wordsW B k ++ List.replicate (64 - k) 0).length := by simp [hwl]; omega
   by_cases h16 : k < 16
   ·have a4 : 4 * k + 3 < B.length := by omega
    have HI : Rd4 bA (4 * k) (4 * k + 1) (4 * k + 2) (4 * k + 3) (.int .u8 (at0 B (4 * k))) (.int .u8 (at0 B (4 * k + 1))) (.int .u8 (at0 B (4 * k + 2))) (.int .u8 (at0 B (4 * k + 3))) wr :=
     ⟨h2.lt, h2.cell (by omega), h2.cell (by omega), h2.cell (by omega), h2.cell (by omega)⟩
    have hnew : (wordsW B k ++ List.replicate (64 - k) 0).set k (headW B k) = wordsW B (k + 1) ++ List.replicate (64 - (k + 1)) 0 := by
     rw [wordsW_set hlt]
     simp [wordsW, h16]
    unfold headW at hnew
    obtain ⟨r00, r01⟩ := hr (4 * k)
    obtain ⟨r10, r11⟩ := hr (4 * k + 1)
    obtain ⟨r20, r21⟩ := hr (4 * k + 2)
    obtain ⟨r30, r31⟩ := hr (4 * k + 3)
    generalize at0 B (4 * k) = z0 at *
    generalize at0 B (4 * k + 1) = z1 at *
    generalize at0 B (4 * k + 2) = z2 at *
    generalize at0 B (4 * k + 3) = z3 at *
    replace hnew := Lib.hid hnew
    go_upto_region 6 with fail
    have ke : Hid (IntKind.i64.wrap (k : Int) = k) := wrap_nat (by omega)
    refine sx_ ?_
    refine rf_ (Rd4 bA (4 * k) (4 * k + 1) (4 * k + 2) (4 * k + 3) (.int .u8 z0) (.int .u8 z1) (.int .u8 z2) (.int .u8 z3)) 31 32 ?_
    refine tfs (List.range' 0 31) 2147483647 1 (fun _ _ h hx => h.ext hx) HI ?_ (hq := by intro wq hwq; obtain ⟨q0, q1, q2, q3, q4⟩ := hwq; (repeat go_big_quiet_step (fail)); exact wpQuiet_nil rfl)
    refine f1_ 31 4294967295 fun wz hxz => ?_
    have cC := (h4.ext hxz).cell hCl
    have fC := (h4.ext hxz).free k
    have lC := (h4.ext hxz).lt
    go_wp2_with fail
    first | refine ⟨fun h => absurd h (by decide), ?_⟩ | skip
    refine fd_ fun wy hxy => ?_
    clear cC fC lC HI
    have hxy : Ext (wz.setCell ⟨bC, k, none⟩ (.int .u32 (headZ z0 z1 z2 z3))) wy := hxy
    have g4 := hnew.out ▸ (h4.ext hxz).set k (headZ z0 z1 z2 z3)
    have g4 := AB.ext g4 hxy
    have g3 := ((h3.ext hxz).far (c := bC) (i := k) (by omega) (.int .u32 (headZ z0 z1 z2 z3))).ext hxy
    have g2 := ((h2.ext hxz).far (c := bC) (i := k) (by omega) (.int .u32 (headZ z0 z1 z2 z3))).ext hxy
    have g1 := Ext.trans (show Ext w (wz.setCell ⟨bC, k, none⟩ (.int .u32 (headZ z0 z1 z2 z3))) from Below.setCell (h1.trans hxz) (by show _ ≤ bC; omega) _) hxy
    clear h1 h2 h3 h4 hxz hxy hnew
    go_wp2
    go_roundw
    case rel => exact ⟨k + 1, by omega, by go_num, g1, g2, g3, g4⟩
    case measure => simp [intOf]; omega
   ·have n1 : k - 15 < k := by omega
    have n2 : k - 2 < k := by omega
    have n3 : k - 16 < k := by omega
    have n4 : k - 7 < k := by omega
    have hat : ∀ j, j < k → (wordsW B k ++ List.replicate (64 - k) 0).getD j 0 = at0 (wordsW B k) j := fun j hj => by
     unfold at0
     simp [List.getD_eq_getElem?_getD, List.getElem?_append_left, hwl, hj]
    have HI : Rd4 bC (k - 15) (k - 2) (k - 16) (k - 7) (.int .u32 (at0 (wordsW B k) (k - 15))) (.int .u32 (at0 (wordsW B k) (k - 2))) (.int .u32 (at0 (wordsW B k) (k - 16))) (.int .u32 (at0 (wordsW B k) (k - 7))) wr :=
     ⟨h4.lt, by rw [← hat _ n1]; exact h4.cell (by omega), by rw [← hat _ n2]; exact h4.cell (by omega), by rw [← hat _ n3]; exact h4.cell (by omega), by rw [← hat _ n4]; exact h4.cell (by omega)⟩
    have hnew : (wordsW B k ++ List.replicate (64 - k) 0).set k (madeW (at0 (wordsW B k) (k - 16)) (at0 (wordsW B k) (k - 15)) (at0 (wordsW B k) (k - 7)) (at0 (wordsW B k) (k - 2))) = wordsW B (k + 1) ++ List.replicate (64 - (k + 1)) 0 := by
     rw [wordsW_set hlt]
     simp [wordsW, h16]
    clear hat hwl
    generalize wordsW B k ++ List.replicate (64 - k) 0 = WL at *
    obtain ⟨WN, hWN⟩ : ∃ WN, wordsW B (k + 1) ++ List.replicate (64 - (k + 1)) 0 = WN := ⟨_, rfl⟩
    rw [hWN] at hnew
    replace hWN := Lib.hid hWN
    generalize at0 (wordsW B k) (k - 16) = za at *
    generalize at0 (wordsW B k) (k - 15) = zx at *
    generalize at0 (wordsW B k) (k - 7) = zb at *
    generalize at0 (wordsW B k) (k - 2) = zy at *
    replace hnew := Lib.hid hnew
    have T7 := fun U => turn_w zx 7 (by omega) U
    have T18 := fun U => turn_w zx 18 (by omega) U
    have T17 := fun U => turn_w zy 17 (by omega) U
    have T19 := fun U => turn_w zy 19 (by omega) U
    replace T7 := Lib.hid T7
    replace T18 := Lib.hid T18
    replace T17 := Lib.hid T17
    replace T19 := Lib.hid T19
    go_upto_region 7 with fail
    have e15 : (k : Int) - 15 = ((k - 15 : Nat) : Int) := by omega
    have e2 : (k : Int) - 2 = ((k - 2 : Nat) : Int) := by omega
    have e16 : (k : Int) - 16 = ((k - 16 : Nat) : Int) := by omega
    have e7 : (k : Int) - 7 = ((k - 7 : Nat) : Int) := by omega
    obtain ⟨i1, i2, i3, i4, i5⟩ := id HI
    refine sx_ ?_
    refine rg_ 10 (Ext.refl wr) ?_
    refine tks (List.range' 0 10) 1023 0 ?_
    refine kd_ (Ext.refl wr) fun w1a hx1a hX1a => ?_
    go_upto_region 8 with fail
    clear i1 i2 i3 i4 i5 hx1a
    replace HI := HI.ext hX1a
    replace h1 := h1.trans hX1a
    replace h2 := h2.ext hX1a
    replace h3 := h3.ext hX1a
    replace h4 := h4.ext hX1a
    refine sx_ ?_
    refine rf_ (Rd4 bC (k - 15) (k - 2) (k - 16) (k - 7) (.int .u32 zx) (.int .u32 zy) (.int .u32 za) (.int .u32 zb)) 29 30 ?_
    refine tfs (List.range' 0 29) 536870911 1 (fun _ _ h hx => h.ext hx) HI ?_ (hq := by intro wq hwq; obtain ⟨q0, q1, q2, q3, q4⟩ := hwq; (repeat go_big_quiet_step ((go_at_call 136; with_reducible first | exact Calls.quietE (T7.out _) | exact Calls.quietE (T18.out _) | exact Calls.quietE (T17.out _) | exact Calls.quietE (T19.out _)))); exact wpQuiet_nil rfl)
    refine f1_ 29 1073741823 fun wz hxz => ?_
    have cC := (h4.ext hxz).cell hCl
    have fC := (h4.ext hxz).free k
    have lC := (h4.ext hxz).lt
    go_wp2_with fail
    first | refine ⟨fun h => absurd h (by decide), ?_⟩ | skip
    refine fd_ fun wy hxy => ?_
    clear cC fC lC HI
    have hxy : Ext (wz.setCell ⟨bC, k, none⟩ (.int .u32 (madeW za zx zb zy))) wy := hxy
    have g4 := hnew.out ▸ (h4.ext hxz).set k (madeW za zx zb zy)
    have g4 := AB.ext g4 hxy
    rw [← hWN.out] at g4
    have g3 := ((h3.ext hxz).far (c := bC) (i := k) (by omega) (.int .u32 (madeW za zx zb zy))).ext hxy
    have g2 := ((h2.ext hxz).far (c := bC) (i := k) (by omega) (.int .u32 (madeW za zx zb zy))).ext hxy
    have g1 := Ext.trans (show Ext w (wz.setCell ⟨bC, k, none⟩ (.int .u32 (madeW za zx zb zy))) from Below.setCell (h1.trans hxz) (by show _ ≤ bC; omega) _) hxy
    clear h1 h2 h3 h4 hxz hxy hnew e15 e2 e16 e7 hX1a
    go_wp2
    go_roundw
    case rel => exact ⟨k + 1, by omega, by go_num, g1, g2, g3, g4⟩
    case measure => simp [intOf]; omega
  ·have hge : ¬ ((k : Int) < 64) := by omega
   have h4 : AB bC 202 .u32 (wordsW B 64) wr := by
    have e : k = 64 := by omega
    rw [e, Nat.sub_self, List.replicate_zero, List.append_nil] at h4
    exact h4
   have hlen := wordsW_len B 64
   obtain ⟨WF, hWF⟩ : ∃ WF, wordsW B 64 = WF := ⟨_, rfl⟩
   rw [hWF] at h4 hlen
   replace hWF := Lib.hid hWF
   have sF : (cellsI .u32 WF).size = 64 := by rw [size_cellsI]; exact hlen
   have sR : (cellsI .u32 (List.replicate 64 0)).size = 64 := by rw [size_cellsI]; rfl
   have hout := h3.setRow WF
   have hxo : Ext w (wr.setRow bR (cellsI .u32 WF)) := Ext.setRow h1 (by omega) _
   go_wp2_with (first | (refine wpList_load_row rfl _ _ rfl bC rfl _ _ _ _ h4 Tryz.underlying202 rfl (by rw [sF]; kernel_rfl) ?_) | (refine wpList_store_row rfl _ _ _ rfl bR _ rfl rfl _ _ h3 (by rw [sF]; kernel_rfl) (by rw [sF, sR]) (one_cellsI _ _) ?_))
   refine bodyPost_ret (v := .agg (cellsI .u32 WF)) (results_cell_row rfl _ _ _ _ _ _ _ rfl hout Tryz.underlying202 rfl (by rw [sF]; kernel_rfl)) rfl ?_
   exact ⟨by rw [hWF.out], hxo⟩
structure ShaV (w : World) : Prop where
 rlt : 4 < w.heap.size
 rounds : ∀ {k : Nat}, k < 64 → w.cell? ⟨4, k, none⟩ = some (.int .u32 (at0 roundsW k))
 slt : 3 < w.heap.size
 start : ∀ {k : Nat}, k < 8 → w.cell? ⟨3, k, none⟩ = some (.int .u32 (at0 startW k))
theorem ShaV.ext {w w' : World} (h : ShaV w) (hx : Ext w w') : ShaV w' :=
 ⟨Nat.lt_of_lt_of_le h.rlt hx.size, fun hk => by rw [hx.cell (by exact h.rlt)]; exact h.rounds hk, Nat.lt_of_lt_of_le h.slt hx.size, fun hk => by rw [hx.cell (by exact h.slt)]; exact h.start hk⟩
set_option maxHeartbeats 1500000 in
set_option maxRecDepth 100000 in
theorem block_w (h B : List Int) (hh : h.length = 8) (hB : B.length = 64) (hr : ∀ i, 0 ≤ at0 B i ∧ at0 B i ≤ 255) (w : World) (hv : ShaV w) :
  Calls Tryz.prog 108 #[.agg (cellsI .u32 h), .agg (cellsI .u8 B)] w fun e w' => e = .returned (.agg (cellsI .u32 (blockW h B))) ∧ Ext w w' := by
 have hE : Ext w w := Ext.refl w
 have hx := hv
 have hH : AB w.heap.size 173 .u32 h (w.alloc (.cells (cellsI .u32 h) 173)) := AB.new w 173 .u32 h
 have en : Ext w (w.alloc (.cells (cellsI .u32 h) 173)) := (Ext.refl _).alloc _
 replace hE := hE.trans en
 clear en
 generalize hw1 : w.alloc (.cells (cellsI .u32 h) 173) = w1 at *
 have hB' : AB w1.heap.size 174 .u8 B (w1.alloc (.cells (cellsI .u8 B) 174)) := AB.new w1 174 .u8 B
 have en : Ext w1 (w1.alloc (.cells (cellsI .u8 B) 174)) := (Ext.refl _).alloc _
 replace hE := hE.trans en
 replace hH := hH.ext en
 clear en
 generalize hw2 : w1.alloc (.cells (cellsI .u8 B) 174) = w2 at *
 have hR : AB w2.heap.size 173 .u32 (List.replicate 8 0) (w2.alloc (.cells #[.int .u32 0, .int .u32 0, .int .u32 0, .int .u32 0, .int .u32 0, .int .u32 0, .int .u32 0, .int .u32 0] 173)) := AB.new w2 173 .u32 (List.replicate 8 0)
 have en : Ext w2 (w2.alloc (.cells #[.int .u32 0, .int .u32 0, .int .u32 0, .int .u32 0, .int .u32 0, .int .u32 0, .int .u32 0, .int .u32 0] 173)) := (Ext.refl _).alloc _
 replace hE := hE.trans en
 replace hH := hH.ext en
 replace hB' := hB'.ext en
 clear en
 generalize hw3 : w2.alloc (.cells #[.int .u32 0, .int .u32 0, .int .u32 0, .int .u32 0, .int .u32 0, .int .u32 0, .int .u32 0, .int .u32 0] 173) = w3 at *
 have hH3 := hH
 have hV : AB w3.heap.size 173 .u32 (List.replicate 8 0) (w3.alloc (.cells #[.int .u32 0, .int .u32 0, .int .u32 0, .int .u32 0, .int .u32 0, .int .u32 0, .int .u32 0, .int .u32 0] 173)) := AB.new w3 173 .u32 (List.replicate 8 0)
 have en : Ext w3 (w3.alloc (.cells #[.int .u32 0, .int .u32 0, .int .u32 0, .int .u32 0, .int .u32 0, .int .u32 0, .int .u32 0, .int .u32 0] 173)) := (Ext.refl _).alloc _
 replace hE := hE.trans en
 replace hH := hH.ext en
 replace hB' := hB'.ext en
 replace hR := hR.ext en
 clear en
 generalize hw4 : w3.alloc (.cells #[.int .u32 0, .int .u32 0, .int .u32 0, .int .u32 0, .int .u32 0, .int .u32 0, .int .u32 0, .int .u32 0] 173) = w4 at *
 have b12 : w.heap.size < w1.heap.size := by rw [← hw1, World.size_alloc]; omega
 have b23 : w1.heap.size < w2.heap.size := by rw [← hw2, World.size_alloc]; omega
 have b34 : w2.heap.size < w3.heap.size := by rw [← hw3, World.size_alloc]; omega
 obtain ⟨bH, hbH⟩ : ∃ x, x = w.heap.size := ⟨_, rfl⟩
 obtain ⟨bB, hbB⟩ : ∃ x, x = w1.heap.size := ⟨_, rfl⟩
 obtain ⟨bR, hbR⟩ : ∃ x, x = w2.heap.size := ⟨_, rfl⟩
 obtain ⟨bV, hbV⟩ : ∃ x, x = w3.heap.size := ⟨_, rfl⟩
 have hwH : w.heap.size ≤ bH := by omega
 rw [← hbH] at hH hH3 b12
 rw [← hbB] at hB' b12 b23
 rw [← hbR] at hR b23 b34
 rw [← hbV] at hV b34
 replace hbH := hbH.symm
 replace hbB := hbB.symm
 replace hbR := hbR.symm
 replace hbV := hbV.symm
 have sh : (cellsI .u32 h).size = 8 := by rw [size_cellsI, hh]
 have sb : (cellsI .u8 B).size = 64 := by rw [size_cellsI, hB]
 have sz : (cellsI .u32 (List.replicate 8 0)).size = 8 := rfl
 have CW := Lib.hid (fun U => words_w B hB hr U)
 have hwl := wordsW_len B 64
 have hbk : blockW h B = sumW (runW h (wordsW B 64) 64) h := rfl
 generalize blockW h B = BF at *
 generalize wordsW B 64 = WF at *
 replace hbk := Lib.hid hbk
 have hE2 : Ext w (w4.setRow bV (cellsI .u32 h)) := Ext.setRow hE (by omega) _
 have hV2 := hV.setRow h
 have hH2 := hH.farRow (c := bV) (by omega) (cellsI .u32 h)
 have hB2 := hB'.farRow (c := bV) (by omega) (cellsI .u32 h)
 have hR2 := hR.farRow (c := bV) (by omega) (cellsI .u32 h)
 go_enter Tryz.func108, Tryz.ntmps108
 go_wp2_with (first | (refine wpList_load_row rfl 173 _ rfl bH rfl _ _ _ _ hH3 Tryz.underlying173 rfl (by rw [sh]; kernel_rfl) ?_) | (refine wpList_store_row rfl 173 _ _ rfl bV _ rfl rfl _ _ hV (by rw [sh]; kernel_rfl) (by rw [sh]; rfl) (one_cellsI _ _) ?_) | (refine wpList_load_row rfl 174 _ rfl bB rfl _ _ _ _ hB2 Tryz.underlying174 rfl (by rw [sb]; kernel_rfl) ?_))
 clear hw1 hw2 hw3 hw4 hbH hbB hbR hbV
 clear hE hV hH hB' hR hH3
 generalize w4.setRow bV (cellsI .u32 h) = w5 at *
 refine (CW.out _).mono ?_; rintro e w6 ⟨rfl, h6⟩
 replace hE2 := hE2.trans h6
 replace hV2 := hV2.ext h6
 replace hH2 := hH2.ext h6
 replace hR2 := hR2.ext h6
 clear h6 hB2 sb
 go_wp2
 go_loopw [16] (fun i wr => ∃ k : Nat, k ≤ 64 ∧ i = .int .i64 k ∧ Ext w wr ∧ AB bH 173 .u32 h wr ∧ AB bR 173 .u32 (List.replicate 8 0) wr ∧ AB bV 173 .u32 (runW h WF k) wr) (fun i _ => 64 - (intOf i).toNat)
 case atStart => exact ⟨0, by omega, rfl, hE2, hH2, hR2, hV2⟩
 case round =>
  obtain ⟨k, hk, rfl, h1, h2, h3, h4⟩ := hrel
  by_cases hlt : k < 64
  ·have hidx := fun U => run_index_cells (P := Tryz.prog) (k := .u32) (l := WF) (i := k) Tryz.underlying202 Tryz.underlying172 (by kernel_rfl) (by omega) (by omega) U
   change ∀ U, _ = Result.ok (Value.int .u32 (at0 WF k)) U at hidx
   have hnx : runW h WF (k + 1) = stepW (runW h WF k) (at0 roundsW k) (at0 WF k) := rfl
   have hl8 := runW_len (W := WF) hh k
   have h8 := eight hl8
   unfold stepW at hnx
   obtain ⟨VN, hVN⟩ : ∃ VN, VN = runW h WF (k + 1) := ⟨_, rfl⟩
   rw [← hVN] at hnx
   generalize runW h WF k = VK at *
   replace hVN := Lib.hid hVN
   generalize at0 VK 0 = v0 at *
   generalize at0 VK 1 = v1 at *
   generalize at0 VK 2 = v2 at *
   generalize at0 VK 3 = v3 at *
   generalize at0 VK 4 = v4 at *
   generalize at0 VK 5 = v5 at *
   generalize at0 VK 6 = v6 at *
   generalize at0 VK 7 = v7 at *
   subst h8
   have hk1 := (hv.ext h1).rounds hlt
   have hgl := (hv.ext h1).rlt
   generalize at0 WF k = wk at *
   obtain ⟨rk, hrk⟩ : ∃ rk, rk = at0 roundsW k := ⟨_, rfl⟩
   rw [← hrk] at hk1
   rw [← hrk] at hnx
   replace hrk := Lib.hid hrk
   clear hk1 hgl
   replace hnx := Lib.hid hnx
   have T := Lib.hid (fun (x : Int) (n : Nat) (hn : 1 ≤ n ∧ n ≤ 31) U => turn_w x n hn U)
   go_upto_region 5 with fail
   have lV := h4.lt
   have c0 : wr.cell? ⟨bV, 0, none⟩ = some (.int .u32 v0) := h4.cell (i := 0) (by simp)
   have c1 : wr.cell? ⟨bV, 1, none⟩ = some (.int .u32 v1) := h4.cell (i := 1) (by simp)
   have c2 : wr.cell? ⟨bV, 2, none⟩ = some (.int .u32 v2) := h4.cell (i := 2) (by simp)
   have c3 : wr.cell? ⟨bV, 3, none⟩ = some (.int .u32 v3) := h4.cell (i := 3) (by simp)
   have c4 : wr.cell? ⟨bV, 4, none⟩ = some (.int .u32 v4) := h4.cell (i := 4) (by simp)
   have c5 : wr.cell? ⟨bV, 5, none⟩ = some (.int .u32 v5) := h4.cell (i := 5) (by simp)
   have c6 : wr.cell? ⟨bV, 6, none⟩ = some (.int .u32 v6) := h4.cell (i := 6) (by simp)
   have c7 : wr.cell? ⟨bV, 7, none⟩ = some (.int .u32 v7) := h4.cell (i := 7) (by simp)
   refine sx_ ?_
   refine rg_ 6 (Ext.refl wr) ?_
   refine tks [0, 1, 2, 3, 4, 5] 63 0 ?_
   refine kd_ (Ext.refl wr) fun w1a hx1a hX1a => ?_
   clear lV c0 c1 c2 c3 c4 c5 c6 c7 hx1a
   replace h1 := h1.trans hX1a
   replace h2 := h2.ext hX1a
   replace h3 := h3.ext hX1a
   replace h4 := h4.ext hX1a
   have hk1 := (hv.ext h1).rounds hlt
   have hgl := (hv.ext h1).rlt
   rw [← hrk.out] at hk1
   clear hX1a
   obtain ⟨wp, rfl⟩ : ∃ x, x = w1a := ⟨_, rfl⟩
   go_upto_region 6 with fail
   have lV := h4.lt
   have c0 : wp.cell? ⟨bV, 0, none⟩ = some (.int .u32 v0) := h4.cell (i := 0) (by simp)
   have c1 : wp.cell? ⟨bV, 1, none⟩ = some (.int .u32 v1) := h4.cell (i := 1) (by simp)
   have c2 : wp.cell? ⟨bV, 2, none⟩ = some (.int .u32 v2) := h4.cell (i := 2) (by simp)
   have c3 : wp.cell? ⟨bV, 3, none⟩ = some (.int .u32 v3) := h4.cell (i := 3) (by simp)
   have c4 : wp.cell? ⟨bV, 4, none⟩ = some (.int .u32 v4) := h4.cell (i := 4) (by simp)
   have c5 : wp.cell? ⟨bV, 5, none⟩ = some (.int .u32 v5) := h4.cell (i := 5) (by simp)
   have c6 : wp.cell? ⟨bV, 6, none⟩ = some (.int .u32 v6) := h4.cell (i := 6) (by simp)
   have c7 : wp.cell? ⟨bV, 7, none⟩ = some (.int .u32 v7) := h4.cell (i := 7) (by simp)
   refine sx_ ?_
   refine rg_ 29 (Ext.refl wp) ?_
   refine tks (List.range' 0 29) 536870911 0 (hq := by intro x; (repeat go_big_quiet_step ((go_at_call 136; with_reducible first | exact Calls.quietE (T.out v4 6 (by omega) _) | exact Calls.quietE (T.out v4 11 (by omega) _) | exact Calls.quietE (T.out v4 25 (by omega) _)))); exact wpQuiet_nil rfl) ?_
   refine kd_ (Ext.refl wp) fun w1a hx1a hX1a => ?_
   clear lV c0 c1 c2 c3 c4 c5 c6 c7 hx1a hk1 hgl
   replace h1 := h1.trans hX1a
   replace h2 := h2.ext hX1a
   replace h3 := h3.ext hX1a
   replace h4 := h4.ext hX1a
   clear hX1a
   obtain ⟨wq, rfl⟩ : ∃ x, x = w1a := ⟨_, rfl⟩
   go_upto_region 7 with fail
   have lV := h4.lt
   have c0 : wq.cell? ⟨bV, 0, none⟩ = some (.int .u32 v0) := h4.cell (i := 0) (by simp)
   have c1 : wq.cell? ⟨bV, 1, none⟩ = some (.int .u32 v1) := h4.cell (i := 1) (by simp)
   have c2 : wq.cell? ⟨bV, 2, none⟩ = some (.int .u32 v2) := h4.cell (i := 2) (by simp)
   have c3 : wq.cell? ⟨bV, 3, none⟩ = some (.int .u32 v3) := h4.cell (i := 3) (by simp)
   have c4 : wq.cell? ⟨bV, 4, none⟩ = some (.int .u32 v4) := h4.cell (i := 4) (by simp)
   have c5 : wq.cell? ⟨bV, 5, none⟩ = some (.int .u32 v5) := h4.cell (i := 5) (by simp)
   have c6 : wq.cell? ⟨bV, 6, none⟩ = some (.int .u32 v6) := h4.cell (i := 6) (by simp)
   have c7 : wq.cell? ⟨bV, 7, none⟩ = some (.int .u32 v7) := h4.cell (i := 7) (by simp)
   refine sx_ ?_
   refine rg_ 25 (Ext.refl wq) ?_
   refine tks (List.range' 0 25) 33554431 0 (hq := by intro x; (repeat go_big_quiet_step ((go_at_call 136; with_reducible first | exact Calls.quietE (T.out v0 2 (by omega) _) | exact Calls.quietE (T.out v0 13 (by omega) _) | exact Calls.quietE (T.out v0 22 (by omega) _)))); exact wpQuiet_nil rfl) ?_
   refine kd_ (Ext.refl wq) fun w1a hx1a hX1a => ?_
   clear lV c0 c1 c2 c3 c4 c5 c6 c7 hx1a T
   replace h1 := h1.trans hX1a
   replace h2 := h2.ext hX1a
   replace h3 := h3.ext hX1a
   replace h4 := h4.ext hX1a
   clear hX1a
   obtain ⟨wy, rfl⟩ : ∃ x, x = w1a := ⟨_, rfl⟩
   generalize hone : ((v7 + Go.bits .xor .u32 (Go.bits .xor .u32 (turnW v4 6) (turnW v4 11)) (turnW v4 25) + Go.bits .xor .u32 (Go.bits .and .u32 v4 v5) (Go.bits .and .u32 (Go.bits .xor .u32 (if IntKind.u32.signed = true then -1 else IntKind.u32.max) v4) v6) + rk) % 4294967296 + wk) % 4294967296 = one at *
   generalize htwo : (Go.bits .xor .u32 (Go.bits .xor .u32 (turnW v0 2) (turnW v0 13)) (turnW v0 22) + Go.bits .xor .u32 (Go.bits .xor .u32 (Go.bits .and .u32 v0 v1) (Go.bits .and .u32 v0 v2)) (Go.bits .and .u32 v1 v2)) % 4294967296 = two at *
   have e1 : oneW v4 v5 v6 v7 rk wk = one := (Int.emod_add_emod _ _ _).symm.trans hone
   have e2 : twoW v0 v1 v2 = two := htwo
   have hnx := hnx.out
   rw [e1, e2] at hnx
   replace hnx := Lib.hid hnx
   clear hone htwo e1 e2
   have lV := h4.lt
   have c0 : wy.cell? ⟨bV, 0, none⟩ = some (.int .u32 v0) := h4.cell (i := 0) (by simp)
   have c1 : wy.cell? ⟨bV, 1, none⟩ = some (.int .u32 v1) := h4.cell (i := 1) (by simp)
   have c2 : wy.cell? ⟨bV, 2, none⟩ = some (.int .u32 v2) := h4.cell (i := 2) (by simp)
   have c3 : wy.cell? ⟨bV, 3, none⟩ = some (.int .u32 v3) := h4.cell (i := 3) (by simp)
   have c4 : wy.cell? ⟨bV, 4, none⟩ = some (.int .u32 v4) := h4.cell (i := 4) (by simp)
   have c5 : wy.cell? ⟨bV, 5, none⟩ = some (.int .u32 v5) := h4.cell (i := 5) (by simp)
   have c6 : wy.cell? ⟨bV, 6, none⟩ = some (.int .u32 v6) := h4.cell (i := 6) (by simp)
   have c7 : wy.cell? ⟨bV, 7, none⟩ = some (.int .u32 v7) := h4.cell (i := 7) (by simp)
   have f0 := h4.free 0
   have f1 := h4.free 1
   have f2 := h4.free 2
   have f3 := h4.free 3
   have f4 := h4.free 4
   have f5 := h4.free 5
   have f6 := h4.free 6
   have f7 := h4.free 7
   have g4 : AB bV 173 .u32 [((one + two) % 4294967296), v0, v1, v2, ((v3 + one) % 4294967296), v4, v5, v6] ((((((((wy.setCell ⟨bV, 0, none⟩ (.int .u32 ((one + two) % 4294967296))).setCell ⟨bV, 1, none⟩ (.int .u32 v0)).setCell ⟨bV, 2, none⟩ (.int .u32 v1)).setCell ⟨bV, 3, none⟩ (.int .u32 v2)).setCell ⟨bV, 4, none⟩ (.int .u32 ((v3 + one) % 4294967296))).setCell ⟨bV, 5, none⟩ (.int .u32 v4)).setCell ⟨bV, 6, none⟩ (.int .u32 v5)).setCell ⟨bV, 7, none⟩ (.int .u32 v6)) := ((((((((h4.set 0 ((one + two) % 4294967296)).set 1 v0).set 2 v1).set 3 v2).set 4 ((v3 + one) % 4294967296)).set 5 v4).set 6 v5).set 7 v6)
   have g1 : Ext w ((((((((wy.setCell ⟨bV, 0, none⟩ (.int .u32 ((one + two) % 4294967296))).setCell ⟨bV, 1, none⟩ (.int .u32 v0)).setCell ⟨bV, 2, none⟩ (.int .u32 v1)).setCell ⟨bV, 3, none⟩ (.int .u32 v2)).setCell ⟨bV, 4, none⟩ (.int .u32 ((v3 + one) % 4294967296))).setCell ⟨bV, 5, none⟩ (.int .u32 v4)).setCell ⟨bV, 6, none⟩ (.int .u32 v5)).setCell ⟨bV, 7, none⟩ (.int .u32 v6)) := (Below.setCell (Below.setCell (Below.setCell (Below.setCell (Below.setCell (Below.setCell (Below.setCell (Below.setCell h1 (p := ⟨bV, 0, none⟩) (by show _ ≤ bV; omega) (.int .u32 ((one + two) % 4294967296))) (p := ⟨bV, 1, none⟩) (by show _ ≤ bV; omega) (.int .u32 v0)) (p := ⟨bV, 2, none⟩) (by show _ ≤ bV; omega) (.int .u32 v1)) (p := ⟨bV, 3, none⟩) (by show _ ≤ bV; omega) (.int .u32 v2)) (p := ⟨bV, 4, none⟩) (by show _ ≤ bV; omega) (.int .u32 ((v3 + one) % 4294967296))) (p := ⟨bV, 5, none⟩) (by show _ ≤ bV; omega) (.int .u32 v4)) (p := ⟨bV, 6, none⟩) (by show _ ≤ bV; omega) (.int .u32 v5)) (p := ⟨bV, 7, none⟩) (by show _ ≤ bV; omega) (.int .u32 v6))
   have g2 : AB bH 173 .u32 h ((((((((wy.setCell ⟨bV, 0, none⟩ (.int .u32 ((one + two) % 4294967296))).setCell ⟨bV, 1, none⟩ (.int .u32 v0)).setCell ⟨bV, 2, none⟩ (.int .u32 v1)).setCell ⟨bV, 3, none⟩ (.int .u32 v2)).setCell ⟨bV, 4, none⟩ (.int .u32 ((v3 + one) % 4294967296))).setCell ⟨bV, 5, none⟩ (.int .u32 v4)).setCell ⟨bV, 6, none⟩ (.int .u32 v5)).setCell ⟨bV, 7, none⟩ (.int .u32 v6)) := ((((((((h2.far (c := bV) (i := 0) (by omega) (.int .u32 ((one + two) % 4294967296))).far (c := bV) (i := 1) (by omega) (.int .u32 v0)).far (c := bV) (i := 2) (by omega) (.int .u32 v1)).far (c := bV) (i := 3) (by omega) (.int .u32 v2)).far (c := bV) (i := 4) (by omega) (.int .u32 ((v3 + one) % 4294967296))).far (c := bV) (i := 5) (by omega) (.int .u32 v4)).far (c := bV) (i := 6) (by omega) (.int .u32 v5)).far (c := bV) (i := 7) (by omega) (.int .u32 v6))
   have g3 : AB bR 173 .u32 (List.replicate 8 0) ((((((((wy.setCell ⟨bV, 0, none⟩ (.int .u32 ((one + two) % 4294967296))).setCell ⟨bV, 1, none⟩ (.int .u32 v0)).setCell ⟨bV, 2, none⟩ (.int .u32 v1)).setCell ⟨bV, 3, none⟩ (.int .u32 v2)).setCell ⟨bV, 4, none⟩ (.int .u32 ((v3 + one) % 4294967296))).setCell ⟨bV, 5, none⟩ (.int .u32 v4)).setCell ⟨bV, 6, none⟩ (.int .u32 v5)).setCell ⟨bV, 7, none⟩ (.int .u32 v6)) := ((((((((h3.far (c := bV) (i := 0) (by omega) (.int .u32 ((one + two) % 4294967296))).far (c := bV) (i := 1) (by omega) (.int .u32 v0)).far (c := bV) (i := 2) (by omega) (.int .u32 v1)).far (c := bV) (i := 3) (by omega) (.int .u32 v2)).far (c := bV) (i := 4) (by omega) (.int .u32 ((v3 + one) % 4294967296))).far (c := bV) (i := 5) (by omega) (.int .u32 v4)).far (c := bV) (i := 6) (by omega) (.int .u32 v5)).far (c := bV) (i := 7) (by omega) (.int .u32 v6))
   clear h1 h2 h3 h4
   replace g1 := Lib.hid g1
   go_wp2
   clear lV c0 c1 c2 c3 c4 c5 c6 c7 f0 f1 f2 f3 f4 f5 f6 f7
   go_roundw
   case rel => exact ⟨k + 1, by omega, by go_num, g1.out, g2, g3, by rw [← hVN.out, hnx.out]; exact g4⟩
   case measure => simp [intOf]; omega
  ·have hge : ¬ ((k : Int) < 64) := by omega
   have h4 : AB bV 173 .u32 (runW h WF 64) wr := by
    have e : k = 64 := by omega
    rw [e] at h4
    exact h4
   have hl8 := runW_len (W := WF) hh 64
   have hall := sumP_all hl8 hh
   generalize runW h WF 64 = VF at *
   clear hlt hk
   obtain ⟨wf, rfl⟩ : ∃ x, x = wr := ⟨_, rfl⟩
   go_wp2
   go_loopw [95] (fun i wr => ∃ k : Nat, k ≤ 8 ∧ i = .int .i64 k ∧ Ext w wr ∧ AB bH 173 .u32 h wr ∧ AB bR 173 .u32 (List.replicate 8 0) wr ∧ AB bV 173 .u32 (sumP VF h k) wr) (fun i _ => 8 - (intOf i).toNat)
   case atStart => exact ⟨0, by omega, rfl, h1, h2, h3, by rw [sumP_zero]; exact h4⟩
   case round =>
    obtain ⟨n, hn, rfl, g1, g2, g3, g4⟩ := hrel
    by_cases hlt : n < 8
    ·have hst := sumP_set hl8 hh hlt
     have hln := sumP_len hl8 hh hn
     have HI : Rd1 bV n (.int .u32 (at0 VF n)) wr ∧ Rd1 bH n (.int .u32 (at0 h n)) wr :=
      ⟨⟨g4.lt, by rw [← sumP_at hl8 hh hlt]; exact g4.cell (by omega)⟩, ⟨g2.lt, g2.cell (by omega)⟩⟩
     have hnl : n < (sumP VF h n).length := by omega
     generalize at0 VF n = za at *
     generalize at0 h n = zb at *
     replace hst := Lib.hid hst
     replace hall := Lib.hid hall
     go_upto_region 13 with fail
     refine sx_ ?_
     refine rf_ (fun U => Rd1 bV n (.int .u32 za) U ∧ Rd1 bH n (.int .u32 zb) U) 8 9 ?_
     refine tfs (List.range' 0 8) 255 1 (fun _ _ h hx => ⟨h.1.ext hx, h.2.ext hx⟩) HI ?_ (hq := by intro wq hwq; obtain ⟨⟨q0, q1⟩, ⟨q2, q3⟩⟩ := hwq; (repeat go_big_quiet_step (fail)); exact wpQuiet_nil rfl)
     refine f1_ 8 511 fun wz hxz => ?_
     have cC := (g4.ext hxz).cell hnl
     have fC := (g4.ext hxz).free n
     have lC := (g4.ext hxz).lt
     go_wp2_with fail
     first | refine ⟨fun h => absurd h (by decide), ?_⟩ | skip
     refine fd_ fun wy hxy => ?_
     clear cC fC lC HI
     have hxy : Ext (wz.setCell ⟨bV, n, none⟩ (.int .u32 ((za + zb) % 4294967296))) wy := hxy
     have k4 := hst.out ▸ (g4.ext hxz).set n ((za + zb) % 4294967296)
     have k4 := AB.ext k4 hxy
     have k3 := ((g3.ext hxz).far (c := bV) (i := n) (by omega) (.int .u32 ((za + zb) % 4294967296))).ext hxy
     have k2 := ((g2.ext hxz).far (c := bV) (i := n) (by omega) (.int .u32 ((za + zb) % 4294967296))).ext hxy
     have k1 := Ext.trans (show Ext w (wz.setCell ⟨bV, n, none⟩ (.int .u32 ((za + zb) % 4294967296))) from Below.setCell (g1.trans hxz) (by show _ ≤ bV; omega) _) hxy
     clear g1 g2 g3 g4 hxz hxy hst hnl
     go_wp2
     go_roundw
     case rel => exact ⟨n + 1, by omega, by go_num, k1, k2, k3, k4⟩
     case measure => simp [intOf]; omega
    ·have hge2 : ¬ ((n : Int) < 8) := by omega
     have g4 : AB bV 173 .u32 BF wr := by
      have e : n = 8 := by omega
      rw [e, hall] at g4
      rw [hbk.out]
      exact g4
     have sF : (cellsI .u32 BF).size = 8 := by
      rw [size_cellsI, hbk.out]
      simp [sumW, hl8, hh]
     have hout := g3.setRow BF
     have hxo : Ext w (wr.setRow bR (cellsI .u32 BF)) := Ext.setRow g1 (by omega) _
     replace hall := Lib.hid hall
     replace hbk := Lib.hid hbk
     go_wp2_with (first | (refine wpList_load_row rfl 173 _ rfl bV rfl _ _ _ _ g4 Tryz.underlying173 rfl (by rw [sF]; kernel_rfl) ?_) | (refine wpList_store_row rfl 173 _ _ rfl bR _ rfl rfl _ _ g3 (by rw [sF]; kernel_rfl) (by rw [sF, sz]) (one_cellsI _ _) ?_))
     refine bodyPost_ret (v := .agg (cellsI .u32 BF)) (results_cell_row rfl _ _ _ _ _ _ _ rfl hout Tryz.underlying173 rfl (by rw [sF]; kernel_rfl)) rfl ?_
     exact ⟨rfl, hxo⟩
end Go.Proofs.YtefjdmjkofaajaaGreatDoor
namespace Go.Dm
open Go Go.RowKit
def byte8 (n i : Nat) : UInt8 := UInt8.ofNat (n / 2 ^ (8 * (7 - i)) % 256)
def be8 (n : Nat) : Bs := [byte8 n 0, byte8 n 1, byte8 n 2, byte8 n 3, byte8 n 4, byte8 n 5, byte8 n 6, byte8 n 7]
def padB (s : Bs) : Bs := s ++ 128 :: (List.replicate ((119 - s.length % 64) % 64) 0 ++ be8 (s.length * 8))
theorem padB_len (s : Bs) : ∃ n, (padB s).length = 64 * n ∧ 1 ≤ n := by
 have h : (padB s).length = s.length + 1 + (119 - s.length % 64) % 64 + 8 := by simp [padB, be8]; omega
 refine ⟨(padB s).length / 64, ?_, ?_⟩ <;> omega
def oct (n k : Nat) : List Int := ((be8 n).map (fun b => (b.toNat : Int))).take k ++ List.replicate (8 - k) 0
theorem oct_len (n : Nat) {k : Nat} (hk : k ≤ 8) : (oct n k).length = 8 := by simp [oct, be8]; omega
theorem oct_set (n : Nat) {k : Nat} (hk : k < 8) : (oct n k).set k ((n : Int) / 2 ^ (8 * (7 - k)) % 256) = oct n (k + 1) := by
 have e0 : ((n : Int) / 2 ^ (8 * (7 - k)) % 256) = ((n / 2 ^ (8 * (7 - k)) % 256 : Nat) : Int) := by simp
 rw [e0]
 match k, hk with
 | 0, _ | 1, _ | 2, _ | 3, _ | 4, _ | 5, _ | 6, _ | 7, _ => simp [oct, be8, byte8]
theorem oct_all (n : Nat) : oct n 8 = (be8 n).map (fun b => (b.toNat : Int)) := by simp [oct, be8]
theorem repeat_one (b : UInt8) (z : Nat) : Lib.repeatL [b] z = List.replicate z b := by
 induction z with
 | zero => rfl
 | succ z ih => rw [List.replicate_succ, ← ih]; rfl
end Go.Dm
namespace Go.Proofs.YtefjdmjkofaajaaGreatDoor
open Go.RowKit Go.Dm
set_option maxHeartbeats 1000000 in
set_option maxRecDepth 100000 in
theorem padded_w (s : ByteArray) (hs : s.size ≤ 281474976710656) (w : World) :
  Calls Tryz.prog 107 #[.string s] w fun e w' => e = .returned (.string ⟨(padB s.data.toList).toArray⟩) ∧ Ext w w' := by
 have hA : AB w.heap.size 200 .u8 (List.replicate 8 0) (w.alloc (.cells #[.int .u8 0, .int .u8 0, .int .u8 0, .int .u8 0, .int .u8 0, .int .u8 0, .int .u8 0, .int .u8 0] 200)) := AB.new w 200 .u8 (List.replicate 8 0)
 have hE : Ext w (w.alloc (.cells #[.int .u8 0, .int .u8 0, .int .u8 0, .int .u8 0, .int .u8 0, .int .u8 0, .int .u8 0, .int .u8 0] 200)) := (Ext.refl _).alloc _
 generalize hW1 : w.alloc (.cells #[.int .u8 0, .int .u8 0, .int .u8 0, .int .u8 0, .int .u8 0, .int .u8 0, .int .u8 0, .int .u8 0] 200) = w1 at *
 obtain ⟨bA, hbA⟩ : ∃ x, x = w.heap.size := ⟨_, rfl⟩
 have hwA : w.heap.size ≤ bA := by omega
 rw [← hbA] at hA
 replace hbA := hbA.symm
 obtain ⟨z, hz⟩ : ∃ z : Nat, z = (119 - s.size % 64) % 64 := ⟨_, rfl⟩
 obtain ⟨n, hn⟩ : ∃ n : Nat, n = s.size * 8 := ⟨_, rfl⟩
 have hz1 : (119 - (s.size : Int) % 64) % 64 = (z : Int) := by omega
 have hz2 : Int.tmod (s.size : Int) 64 = (s.size : Int) % 64 := Int.tmod_eq_emod_of_nonneg (by omega)
 have hz3 : Int.tmod (119 - (s.size : Int) % 64) 64 = (z : Int) := by rw [Int.tmod_eq_emod_of_nonneg (by omega)]; exact hz1
 have hn1 : (s.size : Int) * 8 = (n : Int) := by omega
 have hn2 : n ≤ 18446744073709551615 := by omega
 replace hz := Lib.hid hz
 replace hn := Lib.hid hn
 clear hz1
 go_enter Tryz.func107, Tryz.ntmps107
 go_upto_region 4 with fail
 clear hW1 hbA hz2 hz3 hn1
 go_wp2
 go_loopw [16] (fun i wr => ∃ k : Nat, k ≤ 8 ∧ i = .int .i64 k ∧ Ext w wr ∧ AB bA 200 .u8 (oct n k) wr) (fun i _ => 8 - (intOf i).toNat)
 case atStart => exact ⟨0, by omega, rfl, hE, hA⟩
 case round =>
  obtain ⟨k, hk, rfl, h1, h2⟩ := hrel
  by_cases hlt : k < 8
  ·have hst := oct_set n hlt
   have hcl : k < (oct n k).length := by rw [oct_len n hk]; exact hlt
   have cA := h2.cell hcl
   have fA := h2.free k
   have lA := h2.lt
   have e1 : IntKind.i64.wrap (7 - (k : Int)) = ((7 - k : Nat) : Int) := by rw [IntKind.wrap_i64]; omega
   go_upto_region 7 with fail
   go_wp2
   go_roundw
   case rel => exact ⟨k + 1, by omega, by go_num, Below.setCell h1 (by show _ ≤ bA; omega) _, hst ▸ h2.set k _⟩
   case measure => simp [intOf]; omega
  ·have hge : ¬ ((k : Int) < 8) := by omega
   have h2 : AB bA 200 .u8 ((be8 n).map (fun b => (b.toNat : Int))) wr := by
    have e : k = 8 := by omega
    rw [e, oct_all] at h2
    exact h2
   have hpad : padB s.data.toList = s.data.toList ++ 128 :: (List.replicate z 0 ++ be8 n) := by rw [hz.out, hn.out]; rfl
   have hSl : Sl wr 1 (.slice (some ⟨bA, 0, none⟩) 8 8) 8 (bCells (be8 n)) := by
    have h := Sl.of_block (vs := bCells (be8 n)) (n := 8) (sz := 1) (show wr.heap[bA]? = _ from h2) rfl (by simp [maxLen])
    exact h
   have hz64 : z ≤ 63 := by have := hz.out; omega
   have RP := fun U => Tryz.strings_Repeat ⟨#[0]⟩ z U (by omega) (by show 1 * z ≤ _; omega)
   have hrz : (⟨(Lib.repeatL (⟨#[0]⟩ : ByteArray).data.toList z).toArray⟩ : ByteArray) = ⟨(List.replicate z 0).toArray⟩ := by
    congr 2
    exact repeat_one 0 z
   rw [hrz] at RP
   generalize hzr : (⟨(List.replicate z 0).toArray⟩ : ByteArray) = zr at *
   have hzl : zr.size = z := by rw [← hzr]; exact List.length_replicate
   replace RP := Lib.hid RP
   replace hpad := Lib.hid hpad
   replace hzr := Lib.hid hzr
   obtain ⟨oc, hoc⟩ : ∃ oc : ByteArray, oc = ⟨(be8 n).toArray⟩ := ⟨_, rfl⟩
   have CV := fun U (h : Sl U 1 (.slice (some ⟨bA, 0, none⟩) 8 8) 8 (bCells (be8 n))) => run_string_sl (P := Tryz.prog) Tryz.underlying70 Tryz.underlying5 Tryz.underlying9 h (show 8 = (be8 n).length from rfl) (by simp [be8])
   have CW := fun U p (h : Sl U 1 p 1 (bCells [128])) => run_string_sl (P := Tryz.prog) Tryz.underlying70 Tryz.underlying5 Tryz.underlying9 h (show 1 = ([128] : Bs).length from rfl) (by simp)
   rw [← hoc] at CV
   have hol : oc.size = 8 := by rw [hoc]; rfl
   replace CV := Lib.hid CV
   replace CW := Lib.hid CW
   replace hoc := Lib.hid hoc
   replace hSl := Lib.hid hSl
   go_upto_region 9 with fail
   refine sx_ ?_
   refine rg_ 11 (Ext.refl wr) ?_
   refine tks [0, 4, 5, 7] 177 7 (hq := by intro x; (repeat go_big_quiet_step ((go_at_call 134; with_reducible exact Calls.quietE (RP.out _)))); exact wpQuiet_nil rfl) ?_
   refine k2_ 1 8 179 433 (Ext.refl wr) (fun w1a hx1a hX1a => ?_) fun w1a hx1a hX1a => ?_
   ·
    go_wp2_with fail
    have hs1 : Ext w1a (w1a.alloc (.cells #[.int .u8 128] 5)) := (Ext.refl _).alloc _
    have hb1 : Sl (w1a.alloc (.cells #[.int .u8 128] 5)) 1 (.slice (some ⟨w1a.heap.size, 0, none⟩) 1 1) 1 (bCells [128]) := Sl.lit w1a 5 1 1 #[.int .u8 128] rfl (by simp [maxLen])
    have hX1b := Ext.trans hX1a hs1
    generalize w1a.alloc (.cells #[.int .u8 128] 5) = w1b at *
    generalize w1a.heap.size = b1 at *
    refine sx_ ?_
    refine k2_ 2 8 183 435 hX1b (fun w2a hx2a hX2a => ?_) fun w2a hx2a hX2a => ?_
    ·
     replace hb1 := hb1.ext hx2a
     have cw := CW.out w2a _ hb1
     go_wp2_with fail
     clear cw
     obtain ⟨w2b, hw2⟩ : ∃ x, x = w2a := ⟨_, rfl⟩
     subst hw2
     have hX2b := hX2a
     refine sx_ ?_
     refine tks [3, 6] 255 3 (hq := by intro x; (repeat go_big_quiet_step ((go_at_call 134; with_reducible exact Calls.quietE (RP.out _)))); exact wpQuiet_nil rfl) ?_
     refine k1_ 8 511 hX2b fun w3a hx3a hX3a => ?_
     have cv := CV.out w3a (hSl.out.ext hX3a)
     go_wp2_with fail
     clear cv
     obtain ⟨w3b, hw2⟩ : ∃ x, x = w3a := ⟨_, rfl⟩
     subst hw2
     have hX3b := hX3a
     refine sx_ ?_
     refine tks [9, 10] 2047 0 (hq := by intro x; (repeat go_big_quiet_step ((go_at_call 134; with_reducible exact Calls.quietE (RP.out _)))); exact wpQuiet_nil rfl) ?_
     refine kd_ hX3b fun w4a hx4a hX4a => ?_
     go_wp2
     go_ret
     refine ⟨?_, h1.trans hX4a⟩
     show Ending.returned (Value.string (s ++ ⟨#[128]⟩ ++ zr ++ oc)) = _
     rw [hpad.out]
     refine congrArg (fun x => Ending.returned (Value.string x)) (mk_bytes ?_)
     rw [data_append, data_append, data_append, hoc.out, ← hzr.out]
     simp
    ·
     replace hb1 := hb1.ext hx2a
     have cv := CV.out w2a (hSl.out.ext hX2a)
     go_wp2_with fail
     clear cv
     obtain ⟨w2b, hw2⟩ : ∃ x, x = w2a := ⟨_, rfl⟩
     subst hw2
     have hX2b := hX2a
     refine sx_ ?_
     refine k1_ 2 439 hX2b fun w5a hx5a hX5a => ?_
     replace hb1 := hb1.ext hx5a
     have cw := CW.out w5a _ hb1
     go_wp2_with fail
     clear cw
     obtain ⟨w5b, hw2⟩ : ∃ x, x = w5a := ⟨_, rfl⟩
     subst hw2
     have hX5b := hX5a
     refine sx_ ?_
     refine tks [3, 6, 9, 10] 2047 0 (hq := by intro x; (repeat go_big_quiet_step ((go_at_call 134; with_reducible exact Calls.quietE (RP.out _)))); exact wpQuiet_nil rfl) ?_
     refine kd_ hX5b fun w6a hx6a hX6a => ?_
     go_wp2
     go_ret
     refine ⟨?_, h1.trans hX6a⟩
     show Ending.returned (Value.string (s ++ ⟨#[128]⟩ ++ zr ++ oc)) = _
     rw [hpad.out]
     refine congrArg (fun x => Ending.returned (Value.string x)) (mk_bytes ?_)
     rw [data_append, data_append, data_append, hoc.out, ← hzr.out]
     simp
   ·
    have cv := CV.out w1a (hSl.out.ext hX1a)
    go_wp2_with fail
    clear cv
    obtain ⟨w1b, hw2⟩ : ∃ x, x = w1a := ⟨_, rfl⟩
    subst hw2
    have hX1b := hX1a
    refine sx_ ?_
    refine k1_ 1 435 hX1b fun w7a hx7a hX7a => ?_
    go_wp2_with fail
    have hs7 : Ext w7a (w7a.alloc (.cells #[.int .u8 128] 5)) := (Ext.refl _).alloc _
    have hb1 : Sl (w7a.alloc (.cells #[.int .u8 128] 5)) 1 (.slice (some ⟨w7a.heap.size, 0, none⟩) 1 1) 1 (bCells [128]) := Sl.lit w7a 5 1 1 #[.int .u8 128] rfl (by simp [maxLen])
    have hX7b := Ext.trans hX7a hs7
    generalize w7a.alloc (.cells #[.int .u8 128] 5) = w7b at *
    generalize w7a.heap.size = b1 at *
    refine sx_ ?_
    refine k1_ 2 439 hX7b fun w8a hx8a hX8a => ?_
    replace hb1 := hb1.ext hx8a
    have cw := CW.out w8a _ hb1
    go_wp2_with fail
    clear cw
    obtain ⟨w8b, hw2⟩ : ∃ x, x = w8a := ⟨_, rfl⟩
    subst hw2
    have hX8b := hX8a
    refine sx_ ?_
    refine tks [3, 6, 9, 10] 2047 0 (hq := by intro x; (repeat go_big_quiet_step ((go_at_call 134; with_reducible exact Calls.quietE (RP.out _)))); exact wpQuiet_nil rfl) ?_
    refine kd_ hX8b fun w9a hx9a hX9a => ?_
    go_wp2
    go_ret
    refine ⟨?_, h1.trans hX9a⟩
    show Ending.returned (Value.string (s ++ ⟨#[128]⟩ ++ zr ++ oc)) = _
    rw [hpad.out]
    refine congrArg (fun x => Ending.returned (Value.string x)) (mk_bytes ?_)
    rw [data_append, data_append, data_append, hoc.out, ← hzr.out]
    simp
end Go.Proofs.YtefjdmjkofaajaaGreatDoor
