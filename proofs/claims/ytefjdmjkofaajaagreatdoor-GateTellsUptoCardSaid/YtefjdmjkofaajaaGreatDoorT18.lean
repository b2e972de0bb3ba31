/- Texts of the base. -/

import Derived.Test.YtefjdmjkofaajaaGreatDoorT13
import Derived.Test.YtefjdmjkofaajaaGreatDoorT11
import Derived.Test.YtefjdmjkofaajaaGreatDoorProg
import Derived.IntWalk
import Derived.Shelf.Spec.BitsCarry
import Derived.Test.YtefjdmjkofaajaaGreatDoorT14
import Derived.Test.YtefjdmjkofaajaaGreatDoorT7
namespace Go.Dm
open Go Go.RowKit
structure VBox (b : Nat) (A : Nat → Nat) (w : World) : Prop where
 lt : b < w.heap.size
 cell : ∀ j, j < 4 → w.cell? ⟨b, j, none⟩ = some (.int .u64 (A j : Nat))
 free : ∀ j, j < 4 → w.frozen? ⟨b, j, none⟩ = false
theorem VBox.ext {b : Nat} {A : Nat → Nat} {w w' : World} (h : VBox b A w) (hx : Ext w w') : VBox b A w' :=
 ⟨Nat.lt_of_lt_of_le h.lt hx.size, fun j hj => by rw [hx.cell (by exact h.lt)]; exact h.cell j hj, fun j hj => by rw [hx.frozen (by exact h.lt)]; exact h.free j hj⟩
theorem VBox.far {b c i : Nat} {A : Nat → Nat} {w : World} (h : VBox b A w) (hbc : c ≠ b) (u : Value) : VBox b A (w.setCell ⟨c, i, none⟩ u) :=
 ⟨by rw [World.size_setCell]; exact h.lt, fun j hj => by
  have hne : (⟨c, i, none⟩ : Addr) ≠ ⟨b, j, none⟩ := by intro e; injection e with e; exact hbc e
  rw [World.cell?_setCell_other (h := hne)]; exact h.cell j hj, fun j hj => by rw [World.frozen?_setCell]; exact h.free j hj⟩
theorem VBox.set {b k v : Nat} {A : Nat → Nat} {w : World} (h : VBox b A w) (hk : k < 4) : VBox b (fun j => if j = k then v else A j) (w.setCell ⟨b, k, none⟩ (.int .u64 (v : Nat))) :=
 ⟨by rw [World.size_setCell]; exact h.lt, fun j hj => by
  by_cases e : j = k
  ·subst e
   simp only [if_true]
   first | exact World.cell?_setCell_same _ _ _ (h.cell j hj) | exact World.cell?_setCell_same _ _ (h.cell j hj)
  ·have hne : (⟨b, k, none⟩ : Addr) ≠ ⟨b, j, none⟩ := by intro e'; injection e' with _ e'; exact e e'.symm
   rw [World.cell?_setCell_other (h := hne), if_neg e]; exact h.cell j hj, fun j hj => by rw [World.frozen?_setCell]; exact h.free j hj⟩
theorem VBox.congr {b : Nat} {A B : Nat → Nat} {w : World} (h : VBox b A w) (e : ∀ j, j < 4 → A j = B j) : VBox b B w :=
 ⟨h.lt, fun j hj => by rw [← e j hj]; exact h.cell j hj, h.free⟩
theorem VBox.new (w : World) (A : Nat → Nat) (e : TypeId) : VBox w.heap.size A (w.alloc (.cells #[.int .u64 (A 0 : Nat), .int .u64 (A 1 : Nat), .int .u64 (A 2 : Nat), .int .u64 (A 3 : Nat)] e)) :=
 ⟨by simp, fun j hj => by
  match j, hj with
  | 0, _ => simp
  | 1, _ => simp
  | 2, _ => simp
  | 3, _ => simp, fun j hj => by
  match j, hj with
  | 0, _ => simp
  | 1, _ => simp
  | 2, _ => simp
  | 3, _ => simp⟩
def allV (p : Nat → Nat → Bool) (A B : Nat → Nat) : Bool := p (A 0) (B 0) && p (A 1) (B 1) && p (A 2) (B 2) && p (A 3) (B 3)
theorem allV_no {p : Nat → Nat → Bool} {A B : Nat → Nat} {k : Nat} (hk : k < 4) (h : p (A k) (B k) = false) : allV p A B = false := by
 unfold allV
 match k, hk with
 | 0, _ => simp [h]
 | 1, _ => simp [h]
 | 2, _ => simp [h]
 | 3, _ => simp [h]
theorem allV_yes {p : Nat → Nat → Bool} {A B : Nat → Nat} (h : ∀ k, k < 4 → p (A k) (B k) = true) : allV p A B = true := by
 unfold allV; simp [h 0 (by omega), h 1 (by omega), h 2 (by omega), h 3 (by omega)]
end Go.Dm
namespace Go.Proofs.YtefjdmjkofaajaaGreatDoor
open Go.RowKit Go.Dm
theorem idxVec (A : Nat → Nat) {k : Nat} (hk : k < 4) (w : World) :
  (Instr.index 27 (.agg #[.int .u64 (A 0 : Nat), .int .u64 (A 1 : Nat), .int .u64 (A 2 : Nat), .int .u64 (A 3 : Nat)]) (.int .i64 (k : Int))).run Tryz.prog w = .ok (.int .u64 (A k : Nat)) w :=
 match k, hk with
 | 0, _ => by kernel_rfl
 | 1, _ => by kernel_rfl
 | 2, _ => by kernel_rfl
 | 3, _ => by kernel_rfl
end Go.Proofs.YtefjdmjkofaajaaGreatDoor
namespace Go.Dm
open Go Go.RowKit
def put4 (w : World) (b : Nat) (V : Nat → Nat) : World :=
 (((w.setCell ⟨b, 0, none⟩ (.int .u64 (V 0 : Nat))).setCell ⟨b, 1, none⟩ (.int .u64 (V 1 : Nat))).setCell ⟨b, 2, none⟩ (.int .u64 (V 2 : Nat))).setCell ⟨b, 3, none⟩ (.int .u64 (V 3 : Nat))
theorem VBox.put {b : Nat} {A : Nat → Nat} {w : World} (h : VBox b A w) (V : Nat → Nat) : VBox b V (put4 w b V) :=
 ((((h.set (k := 0) (v := V 0) (by omega)).set (k := 1) (v := V 1) (by omega)).set (k := 2) (v := V 2) (by omega)).set (k := 3) (v := V 3) (by omega)).congr fun j hj => by
  match j, hj with
  | 0, _ => simp
  | 1, _ => simp
  | 2, _ => simp
  | 3, _ => simp
theorem Ext.put4 {w w' : World} (h : Ext w w') {b : Nat} (hb : w.heap.size ≤ b) (V : Nat → Nat) : Ext w (put4 w' b V) :=
 (((h.setCell (p := ⟨b, 0, none⟩) hb _).setCell (p := ⟨b, 1, none⟩) hb _).setCell (p := ⟨b, 2, none⟩) hb _).setCell (p := ⟨b, 3, none⟩) hb _
structure V4 (b : Nat) (A : Nat → Nat) (w : World) : Prop where
 lt : b < w.heap.size
 c0 : w.cell? ⟨b, 0, none⟩ = some (.int .u64 (A 0 : Nat))
 c1 : w.cell? ⟨b, 1, none⟩ = some (.int .u64 (A 1 : Nat))
 c2 : w.cell? ⟨b, 2, none⟩ = some (.int .u64 (A 2 : Nat))
 c3 : w.cell? ⟨b, 3, none⟩ = some (.int .u64 (A 3 : Nat))
 f0 : w.frozen? ⟨b, 0, none⟩ = false
 f1 : w.frozen? ⟨b, 1, none⟩ = false
 f2 : w.frozen? ⟨b, 2, none⟩ = false
 f3 : w.frozen? ⟨b, 3, none⟩ = false
theorem VBox.four {b : Nat} {A : Nat → Nat} {w : World} (h : VBox b A w) : V4 b A w :=
 ⟨h.lt, h.cell 0 (by omega), h.cell 1 (by omega), h.cell 2 (by omega), h.cell 3 (by omega), h.free 0 (by omega), h.free 1 (by omega), h.free 2 (by omega), h.free 3 (by omega)⟩
theorem V4.ext {b : Nat} {A : Nat → Nat} {w w' : World} (h : V4 b A w) (hx : Ext w w') : V4 b A w' := by
 have hc : ∀ {i : Nat} {u}, w.cell? ⟨b, i, none⟩ = some u → w'.cell? ⟨b, i, none⟩ = some u := fun {i u} e => by rw [hx.cell (by exact h.lt)]; exact e
 have hf : ∀ {i : Nat}, w.frozen? ⟨b, i, none⟩ = false → w'.frozen? ⟨b, i, none⟩ = false := fun {i} e => by rw [hx.frozen (by exact h.lt)]; exact e
 exact ⟨Nat.lt_of_lt_of_le h.lt hx.size, hc h.c0, hc h.c1, hc h.c2, hc h.c3, hf h.f0, hf h.f1, hf h.f2, hf h.f3⟩
def putV (a : Vc) : Bs := putL (vG a 0) ++ putL (vG a 1) ++ putL (vG a 2) ++ putL (vG a 3)
def putVF (a : Vc) : Nat → Bs
 | 0 => []
 | k + 1 => putVF a k ++ putL (vG a k)
theorem putVF_four (a : Vc) : putVF a 4 = putV a := by simp [putVF, putV]
theorem putVF_len {a : Vc} (h : OkV a) : ∀ k, (putVF a k).length ≤ 10 * k
 | 0 => by simp [putVF]
 | k + 1 => by
  have h1 := putVF_len h k
  have h2 := putL_ten (u := vG a k) (h.u64 k)
  unfold putVF
  rw [List.length_append]
  omega
def getVF (l : Bs) (p : Int) : Nat → Option (List Nat × Int)
 | 0 => some ([], p)
 | k + 1 => match getVF l p k with
  | none => none
  | some (ns, q) => if (getI l q).2.2 then some (ns ++ [(getI l q).1], (getI l q).2.1) else none
def getV (l : Bs) (p : Int) : Vc × Int × Bool := match getVF l p 4 with
 | some (a, q) => (a, q, true)
 | none => (noV, 0, false)
theorem getVF_len {l : Bs} {p : Int} : ∀ {k ns q}, getVF l p k = some (ns, q) → ns.length = k
 | 0, ns, q, h => by simp [getVF] at h; rw [h.1]; rfl
 | k + 1, ns, q, h => by
  unfold getVF at h
  cases e : getVF l p k with
  | none => rw [e] at h; simp at h
  | some x =>
   obtain ⟨ms, r⟩ := x
   rw [e] at h
   simp only at h
   split at h
   ·simp at h
    rw [← h.1, List.length_append, getVF_len e]; rfl
   ·simp at h
theorem getVF_stop {l : Bs} {p : Int} {k : Nat} (h : getVF l p k = none) : ∀ j, getVF l p (k + j) = none
 | 0 => h
 | j + 1 => by
  show getVF l p ((k + j) + 1) = none
  unfold getVF
  rw [getVF_stop h j]
end Go.Dm
namespace Go.Proofs.YtefjdmjkofaajaaGreatDoor
open Go.RowKit Go.Dm
set_option maxHeartbeats 2000000 in
set_option maxRecDepth 100000 in
theorem vput_w (a : Vc) (ha : OkV a) (w : World) :
  Calls Tryz.prog 66 #[vVal a] w fun e w' => e = .returned (.string ⟨(putV a).toArray⟩) ∧ Ext w w' := by
 rw [← putVF_four]
 have hlen := putVF_len ha
 have hst := fun k => show putVF a (k + 1) = putVF a k ++ putL (vG a k) from rfl
 have h0 : putVF a 0 = [] := rfl
 have CU := fun (k : Nat) (U : World) => put_w (vG a k) U (ha.u64 k)
 have hl10 := fun k => putL_ten (u := vG a k) (ha.u64 k)
 unfold vVal
 generalize putVF a = pf at *
 generalize vG a = A at *
 unfold vF
 replace hst := Lib.hid hst
 replace CU := Lib.hid CU
 replace h0 := Lib.hid h0
 go_enter Tryz.func66, Tryz.ntmps66
 go_wp2
 go_loopw [3, 7] (fun s i wr => ∃ (k : Nat) (b : ByteArray), k ≤ 4 ∧ i = .int .i64 k ∧ s = .string b ∧ b.size ≤ 10 * k ∧ Ext w wr ∧ Hid (b.data.toList = pf k)) (fun _ i _ => 4 - (intOf i).toNat)
 case atStart => exact ⟨0, ⟨#[]⟩, by omega, rfl, rfl, by decide, (Ext.refl _).alloc _, by show _ = _; rw [h0.out]⟩
 case round =>
  obtain ⟨k, b, hk, rfl, rfl, hbl, hb, HB⟩ := hrel
  by_cases hlt : k < 4
  ·have hix := fun w => idxVec A hlt w
   have hl := hl10 k
   have hs2 : (b ++ ⟨(putL (A k)).toArray⟩ : ByteArray).size ≤ 10 * (k + 1) := by
    rw [ByteArray.size_append]
    show b.size + (putL (A k)).toArray.size ≤ _
    rw [List.size_toArray]
    omega
   have hd2 : Hid ((b ++ ⟨(putL (A k)).toArray⟩ : ByteArray).data.toList = pf (k + 1)) := by
    show _ = _
    rw [data_append, HB.out, hst.out k]
   have hsz : (⟨(putL (A k)).toArray⟩ : ByteArray).size ≤ 10 := by
    show (putL (A k)).toArray.size ≤ _
    rw [List.size_toArray]; exact hl
   have C := CU.out k
   generalize (⟨(putL (A k)).toArray⟩ : ByteArray) = pb at *
   replace C := Lib.hid C
   clear CU hl10 hlen
   go_wp2_with fail
   refine (C.out wr).mono ?_; rintro e w2 ⟨rfl, h2⟩
   go_wp2
   go_roundw
   case rel => exact ⟨k + 1, _, by omega, by go_num, rfl, hs2, hb.trans h2, hd2⟩
   case measure => simp [intOf]; omega
  ·obtain rfl : k = 4 := by omega
   have hbe : Hid (b = ⟨(pf 4).toArray⟩) := mk_bytes HB.out
   go_wp2
   go_ret
   exact ⟨by rw [← hbe.out]; rfl, hb⟩
set_option maxHeartbeats 4000000 in
set_option maxRecDepth 100000 in
theorem vget_w (s : ByteArray) (p : Int) (w : World) (hs : s.size ≤ 281474976710656) :
  Calls Tryz.prog 83 #[.string s, .int .i64 p] w fun e w' => e = .returned (.tuple #[vVal (getV s.data.toList p).1, .int .i64 (getV s.data.toList p).2.1, .bool (getV s.data.toList p).2.2]) ∧ Ext w w' := by
 have CG := fun (q : Int) (U : World) => wget_w s q U hs
 have hst := fun k => show getVF s.data.toList p (k + 1) = _ from rfl
 have hfin := fun k => getVF_stop (l := s.data.toList) (p := p) (k := k)
 have hle := fun k ns q => getVF_len (l := s.data.toList) (p := p) (k := k) (ns := ns) (q := q)
 have hV : getV s.data.toList p = match getVF s.data.toList p 4 with
  | some (a, q) => (a, q, true)
  | none => (noV, 0, false) := rfl
 have h0 : getVF s.data.toList p 0 = some ([], p) := rfl
 generalize getV s.data.toList p = V at *
 unfold getVF at hst
 change ∀ k, getVF s.data.toList p (k + 1) = match getVF s.data.toList p k with
  | none => none
  | some (ns, q) => if (getI s.data.toList q).2.2 then some (ns ++ [(getI s.data.toList q).1], (getI s.data.toList q).2.1) else none at hst
 generalize getVF s.data.toList p = gf at *
 generalize getI s.data.toList = gi at *
 replace CG := Lib.hid CG
 replace hst := Lib.hid hst
 replace hfin := Lib.hid hfin
 replace hle := Lib.hid hle
 replace hV := Lib.hid hV
 replace h0 := Lib.hid h0
 go_enter Tryz.func83, Tryz.ntmps83
 go_wp2
 go_loopw [1, 11] (fun q i wr => ∃ (k : Nat) (ns : List Nat) (z : Int), k ≤ 4 ∧ i = .int .i64 k ∧ q = .int .i64 z ∧ ns.length = k ∧ Ext w wr ∧ VBox w.heap.size (fun j => ns.getD j 0) wr ∧ Hid (gf k = some (ns, z))) (fun _ i _ => 4 - (intOf i).toNat)
 case atStart => exact ⟨0, [], p, by omega, rfl, rfl, rfl, (Ext.refl _).alloc _, (VBox.new w (fun _ => 0) _).congr (fun j _ => by simp), h0.out⟩
 case round =>
  obtain ⟨k, ns, z, hk, rfl, rfl, hnl, hb, v4, HG⟩ := hrel
  by_cases hlt : k < 4
  ·have C := CG.out z wr
   have hs1 := hst.out k
   rw [HG.out] at hs1
   simp only at hs1
   generalize gi z = gz at C hs1
   obtain ⟨x, y, o⟩ := gz
   simp only at C hs1
   cases o with
   | false =>
    simp only [Bool.false_eq_true, if_false] at hs1
    have hn4 := hfin.out (k + 1) hs1 (4 - (k + 1))
    rw [show k + 1 + (4 - (k + 1)) = 4 by omega] at hn4
    have hVn : Hid (V = (noV, 0, false)) := by show _ = _; rw [hV.out, hn4]
    clear hs1 hn4
    replace C := Lib.hid C
    go_wp2_with fail
    refine C.out.mono ?_; rintro e w2 ⟨rfl, h2⟩
    obtain ⟨_, d0, d1, d2, d3, e0, e1, e2, e3⟩ := (v4.ext h2).four
    go_wp2
    have z0 := ((((v4.ext h2).set (k := 0) (v := 0) (by omega)).set (k := 1) (v := 0) (by omega)).set (k := 2) (v := 0) (by omega)).set (k := 3) (v := 0) (by omega)
    have k0 := z0.cell 0 (by omega)
    have k1 := z0.cell 1 (by omega)
    have k2 := z0.cell 2 (by omega)
    have k3 := z0.cell 3 (by omega)
    simp at k0 k1 k2 k3
    refine bodyPost_ret (v := .tuple #[.agg #[.int .u64 0, .int .u64 0, .int .u64 0, .int .u64 0], .int .i64 0, .bool false]) (by simp [results, Tryz.results83, go_sem, k0, k1, k2, k3]) rfl ?_
    exact ⟨by rw [hVn.out]; rfl, (hb.trans h2).put4 (b := w.heap.size) (Nat.le_refl _) (fun _ => 0)⟩
   | true =>
    simp only [if_true] at hs1
    replace hs1 := Lib.hid hs1
    replace C := Lib.hid C
    go_wp2_with fail
    refine C.out.mono ?_; rintro e w2 ⟨rfl, h2⟩
    have u4 := v4.ext h2
    have d0 := u4.cell _ hlt
    have e0 := u4.free _ hlt
    have hst4 : VBox w.heap.size (fun j => (ns ++ [x]).getD j 0) (w2.setCell ⟨w.heap.size, k, none⟩ (.int .u64 (x : Nat))) := (u4.set hlt).congr fun j _ => by
     by_cases e : j = k
     ·subst e; rw [← hnl]; simp
     ·by_cases h3 : j < k
      ·simp [e, List.getD_eq_getElem?_getD, List.getElem?_append_left (show j < ns.length by omega)]
      ·simp [e, List.getD_eq_getElem?_getD, List.getElem?_eq_none (show ns.length ≤ j by omega), List.getElem?_eq_none (show (ns ++ [x]).length ≤ j by simp; omega)]
    go_wp2
    go_roundw
    case rel => exact ⟨k + 1, ns ++ [x], y, by omega, by go_num, rfl, by simp [hnl], (hb.trans h2).setCell (p := ⟨w.heap.size, _, none⟩) (Nat.le_refl _) _, hst4, hs1⟩
    case measure => simp [intOf]; omega
  ·obtain rfl : k = 4 := by omega
   have hVn : Hid (V = (ns, z, true)) := by show _ = _; rw [hV.out, HG.out]
   obtain ⟨x0, x1, x2, x3, rfl⟩ : ∃ x0 x1 x2 x3, ns = [x0, x1, x2, x3] := by
    match ns, hnl with
    | [x0, x1, x2, x3], _ => exact ⟨x0, x1, x2, x3, rfl⟩
   have d0 : wr.cell? ⟨w.heap.size, 0, none⟩ = some (.int .u64 (x0 : Nat)) := v4.cell 0 (by omega)
   have d1 : wr.cell? ⟨w.heap.size, 1, none⟩ = some (.int .u64 (x1 : Nat)) := v4.cell 1 (by omega)
   have d2 : wr.cell? ⟨w.heap.size, 2, none⟩ = some (.int .u64 (x2 : Nat)) := v4.cell 2 (by omega)
   have d3 : wr.cell? ⟨w.heap.size, 3, none⟩ = some (.int .u64 (x3 : Nat)) := v4.cell 3 (by omega)
   have e0 := v4.free 0 (by omega)
   have e1 := v4.free 1 (by omega)
   have e2 := v4.free 2 (by omega)
   have e3 := v4.free 3 (by omega)
   clear hnl
   go_wp2
   have z0 := (((v4.set (k := 0) (v := x0) (by omega)).set (k := 1) (v := x1) (by omega)).set (k := 2) (v := x2) (by omega)).set (k := 3) (v := x3) (by omega)
   have k0 := z0.cell 0 (by omega)
   have k1 := z0.cell 1 (by omega)
   have k2 := z0.cell 2 (by omega)
   have k3 := z0.cell 3 (by omega)
   simp at k0 k1 k2 k3
   refine bodyPost_ret (v := .tuple #[.agg #[.int .u64 (x0 : Nat), .int .u64 (x1 : Nat), .int .u64 (x2 : Nat), .int .u64 (x3 : Nat)], .int .i64 z, .bool true]) (by simp [results, Tryz.results83, go_sem, k0, k1, k2, k3]) rfl ?_
   exact ⟨by rw [hVn.out]; rfl, hb.put4 (b := w.heap.size) (Nat.le_refl _) (fun j => [x0, x1, x2, x3].getD j 0)⟩
end Go.Proofs.YtefjdmjkofaajaaGreatDoor
namespace Go.Dm
open Go Go.RowKit
theorem vG_or (c : Bool) (A : Nat → Nat) (v : Vc) (h : ∀ k, k < 4 → vG v k = A k) : (if c = true then vF A else vF (fun _ => 0)) = vF (vG (vOr c v)) := by
 cases c with
 | false =>
  rw [if_neg (by simp)]
  apply vF_eq
  intro k hk
  match k, hk with
  | 0, _ => rfl
  | 1, _ => rfl
  | 2, _ => rfl
  | 3, _ => rfl
 | true => rw [if_pos rfl]; exact vF_eq fun k hk => (h k hk).symm
def Us (w : World) (v : Value) (l : List Nat) : Prop := Sl w 1 v l.length (l.map fun x => .int .u64 (x : Nat))
theorem Us.at {w : World} {l : List Nat} {p cap} (h : Us w (.slice p l.length cap) l) {k : Nat} (hk : k < l.length) :
  ∃ b off, p = some ⟨b, off, none⟩ ∧ b < w.heap.size ∧ w.cell? ⟨b, off + k, none⟩ = some (.int .u64 (l.getD k 0 : Nat)) := by
 obtain ⟨b, off, hp, hb, h⟩ := Sl.at h (by omega)
 exact ⟨b, off, hp, hb, h k _ (by simp [hk])⟩
end Go.Dm
namespace Go.Proofs.YtefjdmjkofaajaaGreatDoor
open Go.RowKit Go.Dm
end Go.Proofs.YtefjdmjkofaajaaGreatDoor
namespace Go.Dm
open Go Go.RowKit
theorem VBox.us {b : Nat} {A : Nat → Nat} {w : World} (h : VBox b A w) : Us w (.slice (some ⟨b, 0, none⟩) 4 4) [A 0, A 1, A 2, A 3] := by
 refine ⟨rfl, some ⟨b, 0, none⟩, 4, rfl, Nat.le_refl _, by simp [maxLen], (fun e => by cases e), Or.inr ⟨b, 0, rfl, h.lt, fun j u hj => ?_⟩⟩
 match j with
 | 0 => simp at hj; subst hj; simpa using h.cell 0 (by omega)
 | 1 => simp at hj; subst hj; simpa using h.cell 1 (by omega)
 | 2 => simp at hj; subst hj; simpa using h.cell 2 (by omega)
 | 3 => simp at hj; subst hj; simpa using h.cell 3 (by omega)
 | j + 4 => simp at hj
end Go.Dm
namespace Go.Proofs.YtefjdmjkofaajaaGreatDoor
open Go.RowKit Go.Dm
end Go.Proofs.YtefjdmjkofaajaaGreatDoor
