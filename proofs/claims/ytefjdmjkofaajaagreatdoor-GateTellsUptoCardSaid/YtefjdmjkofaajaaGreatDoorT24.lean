/- Texts of the base. -/

import Derived.Test.YtefjdmjkofaajaaGreatDoorT6
import Derived.Test.YtefjdmjkofaajaaGreatDoorT13
import Derived.Lib.ParseIntBCases
import Derived.Test.YtefjdmjkofaajaaGreatDoorT7
import Derived.Test.YtefjdmjkofaajaaGreatDoorT18
import Derived.Test.YtefjdmjkofaajaaGreatDoorT22
namespace Go.Dm
open Go Go.RowKit
end Go.Dm
namespace Go.Proofs.YtefjdmjkofaajaaGreatDoor
open Go.RowKit Go.Dm
set_option maxHeartbeats 4000000 in
set_option maxRecDepth 100000 in
theorem r03put_w (a : Vc) (ha : OkV a) (w : World) :
  Calls Tryz.prog 50 #[vVal a] w fun e w' => e = .returned (.string ⟨(putV a).toArray⟩) ∧ Ext w w' := by
 have hl := fun k => putL_ten (u := vG a k) (ha.u64 k)
 have CU := fun (k : Nat) (U : World) => rput_w (vG a k) U (ha.u64 k)
 obtain ⟨P, hP⟩ : ∃ P : Nat → ByteArray, ∀ k, (⟨(putL (vG a k)).toArray⟩ : ByteArray) = P k := ⟨fun k => ⟨(putL (vG a k)).toArray⟩, fun _ => rfl⟩
 have hR : Hid ((⟨(putV a).toArray⟩ : ByteArray) = P 0 ++ P 1 ++ P 2 ++ P 3) := by
  show _ = _
  simp only [← hP]
  refine (mk_bytes ?_).symm
  simp [putV]
 have hs : ∀ k, (P k).size ≤ 10 := fun k => by
  rw [← hP]
  show (putL _).toArray.size ≤ 10
  rw [List.size_toArray]; exact hl k
 simp only [hP] at CU
 clear hP hl
 unfold vVal
 generalize vG a = A at *
 have s0 := hs 0
 have s1 := hs 1
 have s2 := hs 2
 have s3 := hs 3
 clear hs
 obtain ⟨l1, c0, c1, c2, c3, _, _, _, _⟩ := (VBox.new w A 39).four
 have hE : Ext w (w.alloc (.cells #[.int .u64 (A 0 : Nat), .int .u64 (A 1 : Nat), .int .u64 (A 2 : Nat), .int .u64 (A 3 : Nat)] 39)) := (Ext.refl w).alloc _
 unfold vF
 have C0 := Lib.hid (CU 0)
 have C1 := Lib.hid (CU 1)
 have C2 := Lib.hid (CU 2)
 have C3 := Lib.hid (CU 3)
 clear CU
 generalize P 0 = p0 at *
 generalize P 1 = p1 at *
 generalize P 2 = p2 at *
 generalize P 3 = p3 at *
 go_enter Tryz.func50, Tryz.ntmps50
 go_wp2_with fail
 generalize w.alloc (.cells #[.int .u64 (A 0 : Nat), .int .u64 (A 1 : Nat), .int .u64 (A 2 : Nat), .int .u64 (A 3 : Nat)] 39) = w1 at *
 refine Dm.wp_region_grow (by kernel_rfl) (by kernel_rfl) ?_
 repeat (go_big_quiet_step (first
  | (go_at_call 44; with_reducible exact Calls.quietE (C0.out _))
  | (go_at_call 44; with_reducible exact Calls.quietE (C1.out _))
  | (go_at_call 44; with_reducible exact Calls.quietE (C2.out _))
  | (go_at_call 44; with_reducible exact Calls.quietE (C3.out _))))
 refine wpQuiet_nil ?_
 intro U h1
 go_wp2
 go_ret
 exact ⟨by rw [hR.out]; rfl, hE.trans h1⟩
set_option maxHeartbeats 4000000 in
set_option maxRecDepth 100000 in
theorem r03get_w (s : ByteArray) (p : Int) (w : World) (hs : s.size ≤ 281474976710656) :
  Calls Tryz.prog 88 #[.string s, .int .i64 p] w fun e w' => e = .returned (.tuple #[vVal (getV s.data.toList p).1, .int .i64 (getV s.data.toList p).2.1, .bool (getV s.data.toList p).2.2]) ∧ Ext w w' := by
 have CG := fun (q : Int) (U : World) => rget_w s q U hs
 have hst := fun k => show getVF s.data.toList p (k + 1) = _ from rfl
 have hfin := fun k => getVF_stop (l := s.data.toList) (p := p) (k := k)
 have hle := fun k ns q => getVF_len (l := s.data.toList) (p := p) (k := k) (ns := ns) (q := q)
 have hV : getV s.data.toList p = match getVF s.data.toList p 4 with
  | some (a, q) => (a, q, true)
  | none => (noV, 0, false) := rfl
 have h0 : getVF s.data.toList p 0 = some ([], p) := rfl
 generalize getV s.data.toList p = V at *
 unfold getVF at hst
 change ∀ k, getVF s.data.toList p (k + 1) = match getVF s.data.toList p k with
  | none => none
  | some (ns, q) => if (getI s.data.toList q).2.2 then some (ns ++ [(getI s.data.toList q).1], (getI s.data.toList q).2.1) else none at hst
 generalize getVF s.data.toList p = gf at *
 generalize getI s.data.toList = gi at *
 replace CG := Lib.hid CG
 replace hst := Lib.hid hst
 replace hfin := Lib.hid hfin
 replace hle := Lib.hid hle
 replace hV := Lib.hid hV
 replace h0 := Lib.hid h0
 have hz1 := VBox.new (w.alloc (.cells #[.int .u64 (0 : Nat), .int .u64 (0 : Nat), .int .u64 (0 : Nat), .int .u64 (0 : Nat)] 39)) (fun _ => 0) 39
 rw [World.size_alloc] at hz1
 go_enter Tryz.func88, Tryz.ntmps88
 go_wp2
 go_loopw [1, 8] (fun q i wr => ∃ (k : Nat) (ns : List Nat) (z : Int), k ≤ 4 ∧ i = .int .i64 k ∧ q = .int .i64 z ∧ ns.length = k ∧ Ext w wr ∧ VBox w.heap.size (fun _ => 0) wr ∧ VBox (w.heap.size + 1) (fun j => ns.getD j 0) wr ∧ Hid (gf k = some (ns, z))) (fun _ i _ => 4 - (intOf i).toNat)
 case atStart => exact ⟨0, [], p, by omega, rfl, rfl, rfl, ((Ext.refl _).alloc _).alloc _, (VBox.new w (fun _ => 0) _).ext ((Ext.refl _).alloc _), hz1.congr (fun j _ => by simp), h0.out⟩
 case round =>
  obtain ⟨k, ns, z, hk, rfl, rfl, hnl, hb, v3, v4, HG⟩ := hrel
  by_cases hlt : k < 4
  ·have C := CG.out z wr
   have hs1 := hst.out k
   rw [HG.out] at hs1
   simp only at hs1
   generalize gi z = gz at C hs1
   obtain ⟨x, y, o⟩ := gz
   simp only at C hs1
   cases o with
   | false =>
    simp only [Bool.false_eq_true, if_false] at hs1
    have hn4 := hfin.out (k + 1) hs1 (4 - (k + 1))
    rw [show k + 1 + (4 - (k + 1)) = 4 by omega] at hn4
    have hVn : Hid (V = (noV, 0, false)) := by show _ = _; rw [hV.out, hn4]
    clear hs1 hn4
    replace C := Lib.hid C
    go_wp2_with fail
    refine C.out.mono ?_; rintro e w2 ⟨rfl, h2⟩
    obtain ⟨_, d0, d1, d2, d3, e0, e1, e2, e3⟩ := (v3.ext h2).four
    go_wp2
    have z0 := ((((v3.ext h2).set (k := 0) (v := 0) (by omega)).set (k := 1) (v := 0) (by omega)).set (k := 2) (v := 0) (by omega)).set (k := 3) (v := 0) (by omega)
    have k0 := z0.cell 0 (by omega)
    have k1 := z0.cell 1 (by omega)
    have k2 := z0.cell 2 (by omega)
    have k3 := z0.cell 3 (by omega)
    simp at k0 k1 k2 k3
    refine bodyPost_ret (v := .tuple #[.agg #[.int .u64 0, .int .u64 0, .int .u64 0, .int .u64 0], .int .i64 0, .bool false]) (by simp [results, Tryz.results88, go_sem, k0, k1, k2, k3]) rfl ?_
    exact ⟨by rw [hVn.out]; rfl, (hb.trans h2).put4 (b := w.heap.size) (Nat.le_refl _) (fun _ => 0)⟩
   | true =>
    simp only [if_true] at hs1
    replace hs1 := Lib.hid hs1
    replace C := Lib.hid C
    go_wp2_with fail
    refine C.out.mono ?_; rintro e w2 ⟨rfl, h2⟩
    have u4 := v4.ext h2
    have d0 := u4.cell _ hlt
    have e0 := u4.free _ hlt
    have hst4 : VBox (w.heap.size + 1) (fun j => (ns ++ [x]).getD j 0) (w2.setCell ⟨w.heap.size + 1, k, none⟩ (.int .u64 (x : Nat))) := (u4.set hlt).congr fun j _ => by
     by_cases e : j = k
     ·subst e; rw [← hnl]; simp
     ·by_cases h3 : j < k
      ·simp [e, List.getD_eq_getElem?_getD, List.getElem?_append_left (show j < ns.length by omega)]
      ·simp [e, List.getD_eq_getElem?_getD, List.getElem?_eq_none (show ns.length ≤ j by omega), List.getElem?_eq_none (show (ns ++ [x]).length ≤ j by simp; omega)]
    go_wp2
    go_roundw
    case rel => exact ⟨k + 1, ns ++ [x], y, by omega, by go_num, rfl, by simp [hnl], (hb.trans h2).setCell (p := ⟨w.heap.size + 1, _, none⟩) (Nat.le_add_right _ 1) _, (v3.ext h2).far (by omega) _, hst4, hs1⟩
    case measure => simp [intOf]; omega
  ·obtain rfl : k = 4 := by omega
   have hVn : Hid (V = (ns, z, true)) := by show _ = _; rw [hV.out, HG.out]
   obtain ⟨x0, x1, x2, x3, rfl⟩ : ∃ x0 x1 x2 x3, ns = [x0, x1, x2, x3] := by
    match ns, hnl with
    | [x0, x1, x2, x3], _ => exact ⟨x0, x1, x2, x3, rfl⟩
   have d0 : wr.cell? ⟨w.heap.size + 1, 0, none⟩ = some (.int .u64 (x0 : Nat)) := v4.cell 0 (by omega)
   have d1 : wr.cell? ⟨w.heap.size + 1, 1, none⟩ = some (.int .u64 (x1 : Nat)) := v4.cell 1 (by omega)
   have d2 : wr.cell? ⟨w.heap.size + 1, 2, none⟩ = some (.int .u64 (x2 : Nat)) := v4.cell 2 (by omega)
   have d3 : wr.cell? ⟨w.heap.size + 1, 3, none⟩ = some (.int .u64 (x3 : Nat)) := v4.cell 3 (by omega)
   have e0 := v3.free 0 (by omega)
   have g0 := v3.cell 0 (by omega)
   have e1 := v3.free 1 (by omega)
   have g1 := v3.cell 1 (by omega)
   have e2 := v3.free 2 (by omega)
   have g2 := v3.cell 2 (by omega)
   have e3 := v3.free 3 (by omega)
   have g3 := v3.cell 3 (by omega)
   clear hnl
   go_wp2
   have z0 := (((v3.set (k := 0) (v := x0) (by omega)).set (k := 1) (v := x1) (by omega)).set (k := 2) (v := x2) (by omega)).set (k := 3) (v := x3) (by omega)
   have k0 := z0.cell 0 (by omega)
   have k1 := z0.cell 1 (by omega)
   have k2 := z0.cell 2 (by omega)
   have k3 := z0.cell 3 (by omega)
   simp at k0 k1 k2 k3
   refine bodyPost_ret (v := .tuple #[.agg #[.int .u64 (x0 : Nat), .int .u64 (x1 : Nat), .int .u64 (x2 : Nat), .int .u64 (x3 : Nat)], .int .i64 z, .bool true]) (by simp [results, Tryz.results88, go_sem, k0, k1, k2, k3]) rfl ?_
   exact ⟨by rw [hVn.out]; rfl, hb.put4 (b := w.heap.size) (Nat.le_refl _) (fun j => [x0, x1, x2, x3].getD j 0)⟩
end Go.Proofs.YtefjdmjkofaajaaGreatDoor
