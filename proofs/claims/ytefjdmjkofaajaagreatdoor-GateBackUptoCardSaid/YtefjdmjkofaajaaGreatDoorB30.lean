/- Texts one behind the other: Chapter 19: the walk of Allow; Chapter 19: the walk of Open; Chapter 19: what is opened is put as it was, in plain terms; Chapter 19: the walk of the laws' minted; Chapter 19: the examples ahead of the laws, in plain terms. -/
import Derived.Test.YtefjdmjkofaajaaGreatDoorB28
import Derived.Test.YtefjdmjkofaajaaGreatDoorB29
namespace Go.Dm
open Go Go.RowKit
/-- P19.3. -/
def allowK (key : Bs) (t : TokQ) (k : Int) (r : Nat) : Int := if checkT key t = false then 13 else if needsK k = 0 ∨ allowC t.2.1 (needsK k) r = false then 14 else 0
def allowG (key : Bs) (t : TokQ) (o : OpQ) (r : Nat) : Int := if checkT key t = false then 13 else if needsK o.1 = 0 ∨ allowC t.2.1 (needsK o.1) r = false then 14 else 0
end Go.Dm
namespace Go.Proofs.YtefjdmjkofaajaaGreatDoor
open Go.RowKit Go.Dm

set_option maxHeartbeats 2000000 in
set_option maxRecDepth 100000 in
theorem gallowK_w (key : ByteArray) (T V : Value) (t : TokQ) (k : Int) (r : Nat) (w : World) (hk : key.size ≤ 281474976710656) (ht : TokC w T t) (ho : KindAt V k) (hv : ShaV w) (hg : GateV w) :
  Calls Tryz.prog 18 #[.string key, T, V, .int .u64 (r : Nat)] w fun e w' => e = .returned (.int .i64 (allowK key.data.toList t k r)) ∧ Ext w w' := by
 have CC := fun U (h : Ext w U) => checkA key hk (ht.ext h) (hv.ext h)
 have CN := fun U (h : Ext w U) => needs_w k V U ho (hg.ext h)
 have CA := fun U (h : Ext w U) => allowsA (needsK k) r (ht.ext h)
 have hG : allowK key.data.toList t k r = if checkT key.data.toList t = false then 13 else if needsK k = 0 ∨ allowC t.2.1 (needsK k) r = false then 14 else 0 := rfl
 obtain ⟨vt, rfl, hcv, _⟩ := ht
 obtain ⟨qt, ct, rfl, _, _⟩ := hcv.shape
 obtain ⟨v1, v2, v3, v4, v5, v6, v7, v8, v9, v10, v11, v12, v13, v14, v15, v16, v17, rfl⟩ := ho
 clear hcv
 obtain ⟨tn, L, sg⟩ := t
 unfold needsV at CN
 simp only at CC CN CA hG ⊢
 generalize allowK key.data.toList (tn, L, sg) k r = G at *
 generalize checkT key.data.toList (tn, L, sg) = ck at *
 generalize allowC L (needsK k) r = al at *
 generalize needsK k = c at *
 have hB : RB w.heap.size 24 [.string tn, .slice qt L.length ct, .string sg] (w.alloc (.cells #[.string tn, .slice qt L.length ct, .string sg] 24)) := RB.new w 24 [.string tn, .slice qt L.length ct, .string sg]
 have hE : Ext w (w.alloc (.cells #[.string tn, .slice qt L.length ct, .string sg] 24)) := (Ext.refl _).alloc _
 generalize hW1 : w.alloc (.cells #[.string tn, .slice qt L.length ct, .string sg] 24) = w1 at *
 have hA : RB w1.heap.size 33 [.int .i64 k, v1, v2, v3, v4, v5, v6, v7, v8, v9, v10, v11, v12, v13, v14, v15, v16, v17] (w1.alloc (.cells #[.int .i64 k, v1, v2, v3, v4, v5, v6, v7, v8, v9, v10, v11, v12, v13, v14, v15, v16, v17] 33)) := RB.new w1 33 [.int .i64 k, v1, v2, v3, v4, v5, v6, v7, v8, v9, v10, v11, v12, v13, v14, v15, v16, v17]
 have hE2 : Ext w1 (w1.alloc (.cells #[.int .i64 k, v1, v2, v3, v4, v5, v6, v7, v8, v9, v10, v11, v12, v13, v14, v15, v16, v17] 33)) := (Ext.refl _).alloc _
 have hs1 : w1.heap.size = w.heap.size + 1 := by rw [← hW1, World.size_alloc]
 generalize hW2 : w1.alloc (.cells #[.int .i64 k, v1, v2, v3, v4, v5, v6, v7, v8, v9, v10, v11, v12, v13, v14, v15, v16, v17] 33) = w2 at *
 replace hB := hB.ext hE2
 replace hE := hE.trans hE2
 clear hE2
 obtain ⟨bA, hbA⟩ : ∃ x, w1.heap.size = x := ⟨_, rfl⟩
 obtain ⟨bB, hbB⟩ : ∃ x, w.heap.size = x := ⟨_, rfl⟩
 rw [hbA] at hA
 rw [hbB] at hB
 rw [hbA, hbB] at hs1
 subst hs1
 replace CC := Lib.hid CC
 replace CN := Lib.hid CN
 replace CA := Lib.hid CA
 replace hG := Lib.hid hG
 have bl := hB.lt
 have c0 : w2.cell? ⟨bB, 0, none⟩ = some (.string tn) := hB.cell 0
 have c1 : w2.cell? ⟨bB, 1, none⟩ = some (.slice qt L.length ct) := hB.cell 1
 have c2 : w2.cell? ⟨bB, 2, none⟩ = some (.string sg) := hB.cell 2
 go_enter Tryz.func18, Tryz.ntmps18
 go_upto_region 1 with fail
 clear hW1 hW2 hbA hbB
 generalize bB + 1 = bA at *
 go_wp2_with fail
 refine (CC.out _ hE).mono ?_; rintro e_ w3 ⟨rfl, h3⟩
 clear bl c0 c1 c2
 replace hA := hA.ext h3
 replace hB := hB.ext h3
 replace hE := hE.trans h3
 clear h3
 cases ck with
 | false =>
  go_wp2
  go_ret
  exact ⟨by show Ending.returned (.int .i64 13) = _; rw [hG.out]; simp, hE⟩
 | true =>
  go_upto_region 3 with fail
  go_wp2_with (refine wpList_load_row rfl 33 _ rfl bA rfl _ _ _ _ hA Tryz.underlying33 rfl (by kernel_rfl) ?_)
  refine (CN.out _ hE).mono ?_; rintro e_ w4 ⟨rfl, h4⟩
  replace hB := hB.ext h4
  replace hE := hE.trans h4
  clear h4 hA
  have bl := hB.lt
  have c0 : w4.cell? ⟨bB, 0, none⟩ = some (.string tn) := hB.cell 0
  have c1 : w4.cell? ⟨bB, 1, none⟩ = some (.slice qt L.length ct) := hB.cell 1
  have c2 : w4.cell? ⟨bB, 2, none⟩ = some (.string sg) := hB.cell 2
  by_cases h0 : c = 0
  ·subst h0
   go_wp2
   go_ret
   exact ⟨by show Ending.returned (.int .i64 14) = _; rw [hG.out]; simp, hE⟩
  ·have h0d : decide (c ≠ 0) = true := decide_eq_true h0
   go_wp2_with fail
   refine (CA.out _ hE).mono ?_; rintro e_ w5 ⟨rfl, h5⟩
   replace hE := hE.trans h5
   clear h5 bl c0 c1 c2
   cases al with
   | false =>
    go_wp2
    go_ret
    exact ⟨by show Ending.returned (.int .i64 14) = _; rw [hG.out]; simp, hE⟩
   | true =>
    go_wp2
    go_ret
    exact ⟨by show Ending.returned (.int .i64 0) = _; rw [hG.out]; simp [h0], hE⟩
theorem gallow_w (key : ByteArray) (T V : Value) (t : TokQ) (o : OpQ) (r : Nat) (w : World) (hk : key.size ≤ 281474976710656) (ht : TokAt w T t) (ho : OpAt w V o) (hv : ShaV w) (hg : GateV w) :
  Calls Tryz.prog 18 #[.string key, T, V, .int .u64 (r : Nat)] w fun e w' => e = .returned (.int .i64 (allowG key.data.toList t o r)) ∧ Ext w w' :=
 gallowK_w key T V t o.1 r w hk ht.c (opAt_kind ho) hv hg
end Go.Proofs.YtefjdmjkofaajaaGreatDoor

namespace Go.Dm
open Go Go.RowKit
theorem results_rows2 {P : Program} {fn : Func} {p1 p2 t : Tmp} {ty1 ty2 : TypeId} (h : fn.results = #[.cell p1 ty1, .cell p2 ty2, .tmp t]) (tmps : Array Value) (w : World) (g1 : Nat) (t1 : TypeId) (cs1 : Array Value) (fr1 : Nat × Nat) (d1 : TypeDesc)
  (hp1 : tmps.getD p1 undef = .pointer (some ⟨g1, 0, none⟩)) (hg1 : w.heap[g1]? = some (.cells cs1 t1 fr1))
  (hu1 : P.underlying ty1 = some d1) (hd1 : (match d1 with | .struct _ | .array _ _ => true | _ => false) = true) (hi1 : (P.info? ty1).map (·.size) = some cs1.size)
  (g2 : Nat) (t2 : TypeId) (cs2 : Array Value) (fr2 : Nat × Nat) (d2 : TypeDesc)
  (hp2 : tmps.getD p2 undef = .pointer (some ⟨g2, 0, none⟩)) (hg2 : w.heap[g2]? = some (.cells cs2 t2 fr2))
  (hu2 : P.underlying ty2 = some d2) (hd2 : (match d2 with | .struct _ | .array _ _ => true | _ => false) = true) (hi2 : (P.info? ty2).map (·.size) = some cs2.size) :
  (results fn tmps).run P w = .ok (.tuple #[.agg cs1, .agg cs2, tmps.getD t undef]) w := by
 have hp1' : tmps[p1]?.getD undef = .pointer (some ⟨g1, 0, none⟩) := by simpa using hp1
 have hp2' : tmps[p2]?.getD undef = .pointer (some ⟨g2, 0, none⟩) := by simpa using hp2
 simp [results, h, hp1', hp2', asAddr, run_loadVar_row w g1 t1 ty1 cs1 fr1 d1 hg1 hu1 hd1 hi1, run_loadVar_row w g2 t2 ty2 cs2 fr2 d2 hg2 hu2 hd2 hi2, Sem.run_bind]
def noG : TokQ × OpQ × Bool := (noTok.1, opQ0 0, false)
/-- P19.2: the request that bytes are. -/
def openG (l : Bs) : TokQ × OpQ × Bool :=
 if (getTok l 0).2.2 = false then noG
 else if (getO l (getTok l 0).2.1).2.2 = false ∨ (getO l (getTok l 0).2.1).2.1 ≠ (l.length : Int) then noG
 else ((getTok l 0).1, (getO l (getTok l 0).2.1).1, true)
/-- How a request that was opened reads. -/
def GotG (w : World) (G : TokQ × OpQ × Bool) (e : Ending) : Prop := ∃ T V, e = .returned (.tuple #[T, V, .bool G.2.2]) ∧ TokAt w T G.1 ∧ OpAt w V G.2.1
theorem GotG.no (w : World) : GotG w noG (.returned (.tuple #[.agg #[.string ⟨#[]⟩, .slice none 0 0, .string ⟨#[]⟩], .agg #[.int .i64 0, .int .u64 0, .int .u64 0, .string ⟨#[]⟩, .int .u64 0, .int .u64 0, .int .u64 0, .int .u64 0, .string ⟨#[]⟩, .int .u64 0, .int .u64 0, .int .u64 0, .int .u64 0, .int .i64 0, .int .i64 0, .int .i64 0, .slice none 0 0, .slice none 0 0], .bool false])) :=
 ⟨_, _, rfl, ⟨_, rfl, Sl.nil _ _, OkT.zero⟩, ⟨.slice none 0 0, .slice none 0 0, [], rfl, Terms.nil w, (fun r hr => by cases hr), by simp, rfl, Pairs.nil w, OkO.zero⟩⟩
end Go.Dm
namespace Go.Proofs.YtefjdmjkofaajaaGreatDoor
open Go.RowKit Go.Dm

set_option maxHeartbeats 2000000 in
set_option maxRecDepth 100000 in
theorem open1_w (w : World) :
  Calls Tryz.prog 38 #[] w fun e w' => e = .returned (.tuple #[.agg #[.string ⟨#[]⟩, .slice none 0 0, .string ⟨#[]⟩], .agg #[.int .i64 0, .int .u64 0, .int .u64 0, .string ⟨#[]⟩, .int .u64 0, .int .u64 0, .int .u64 0, .int .u64 0, .string ⟨#[]⟩, .int .u64 0, .int .u64 0, .int .u64 0, .int .u64 0, .int .i64 0, .int .i64 0, .int .i64 0, .slice none 0 0, .slice none 0 0], .bool false]) ∧ Ext w w' := by
 have hR2 : RB w.heap.size 24 [.string ⟨#[]⟩, .slice none 0 0, .string ⟨#[]⟩] (w.alloc (.cells #[.string ⟨#[]⟩, .slice none 0 0, .string ⟨#[]⟩] 24)) := RB.new w 24 [.string ⟨#[]⟩, .slice none 0 0, .string ⟨#[]⟩]
 have hE : Ext w (w.alloc (.cells #[.string ⟨#[]⟩, .slice none 0 0, .string ⟨#[]⟩] 24)) := (Ext.refl _).alloc _
 generalize hW1 : w.alloc (.cells #[.string ⟨#[]⟩, .slice none 0 0, .string ⟨#[]⟩] 24) = w1 at *
 have hs1 : w1.heap.size = w.heap.size + 1 := by rw [← hW1, World.size_alloc]
 have hR3 : RB w1.heap.size 33 [.int .i64 0, .int .u64 0, .int .u64 0, .string ⟨#[]⟩, .int .u64 0, .int .u64 0, .int .u64 0, .int .u64 0, .string ⟨#[]⟩, .int .u64 0, .int .u64 0, .int .u64 0, .int .u64 0, .int .i64 0, .int .i64 0, .int .i64 0, .slice none 0 0, .slice none 0 0] (w1.alloc (.cells #[.int .i64 0, .int .u64 0, .int .u64 0, .string ⟨#[]⟩, .int .u64 0, .int .u64 0, .int .u64 0, .int .u64 0, .string ⟨#[]⟩, .int .u64 0, .int .u64 0, .int .u64 0, .int .u64 0, .int .i64 0, .int .i64 0, .int .i64 0, .slice none 0 0, .slice none 0 0] 33)) := RB.new w1 33 [.int .i64 0, .int .u64 0, .int .u64 0, .string ⟨#[]⟩, .int .u64 0, .int .u64 0, .int .u64 0, .int .u64 0, .string ⟨#[]⟩, .int .u64 0, .int .u64 0, .int .u64 0, .int .u64 0, .int .i64 0, .int .i64 0, .int .i64 0, .slice none 0 0, .slice none 0 0]
 have hE2 : Ext w1 (w1.alloc (.cells #[.int .i64 0, .int .u64 0, .int .u64 0, .string ⟨#[]⟩, .int .u64 0, .int .u64 0, .int .u64 0, .int .u64 0, .string ⟨#[]⟩, .int .u64 0, .int .u64 0, .int .u64 0, .int .u64 0, .int .i64 0, .int .i64 0, .int .i64 0, .slice none 0 0, .slice none 0 0] 33)) := (Ext.refl _).alloc _
 generalize hW2 : w1.alloc (.cells #[.int .i64 0, .int .u64 0, .int .u64 0, .string ⟨#[]⟩, .int .u64 0, .int .u64 0, .int .u64 0, .int .u64 0, .string ⟨#[]⟩, .int .u64 0, .int .u64 0, .int .u64 0, .int .u64 0, .int .i64 0, .int .i64 0, .int .i64 0, .slice none 0 0, .slice none 0 0] 33) = w2 at *
 replace hR2 := hR2.ext hE2
 replace hE := hE.trans hE2
 clear hE2
 rw [hs1] at hR3
 obtain ⟨b2, hb2⟩ : ∃ x, w.heap.size = x := ⟨_, rfl⟩
 have hw2 : w.heap.size ≤ b2 := by omega
 rw [hb2] at hR2 hR3 hs1
 go_enter Tryz.func38, Tryz.ntmps38
 go_upto_region 1 with fail
 clear hW1 hW2 hb2 hs1
 have h23 : b2 ≠ b2 + 1 := by omega
 have hw3 : w.heap.size ≤ b2 + 1 := by omega
 generalize b2 + 1 = b3 at *
 have hR3f := hR3.farRow (c := b2) h23 #[.string ⟨#[]⟩, .slice none 0 0, .string ⟨#[]⟩]
 have hZ2 := (hR2.setRow [.string ⟨#[]⟩, .slice none 0 0, .string ⟨#[]⟩]).farRow (c := b3) (Ne.symm h23) #[.int .i64 0, .int .u64 0, .int .u64 0, .string ⟨#[]⟩, .int .u64 0, .int .u64 0, .int .u64 0, .int .u64 0, .string ⟨#[]⟩, .int .u64 0, .int .u64 0, .int .u64 0, .int .u64 0, .int .i64 0, .int .i64 0, .int .i64 0, .slice none 0 0, .slice none 0 0]
 have hZ3 := hR3f.setRow [.int .i64 0, .int .u64 0, .int .u64 0, .string ⟨#[]⟩, .int .u64 0, .int .u64 0, .int .u64 0, .int .u64 0, .string ⟨#[]⟩, .int .u64 0, .int .u64 0, .int .u64 0, .int .u64 0, .int .i64 0, .int .i64 0, .int .i64 0, .slice none 0 0, .slice none 0 0]
 go_wp2_with (first | (refine wpList_store_row (cells := #[.string ⟨#[]⟩, .slice none 0 0, .string ⟨#[]⟩]) rfl 24 _ _ rfl b2 rfl rfl _ _ hR2 (by kernel_rfl) rfl (by first | rfl | decide | simp [Value.oneCell']) ?_) | (refine wpList_store_row (cells := #[.int .i64 0, .int .u64 0, .int .u64 0, .string ⟨#[]⟩, .int .u64 0, .int .u64 0, .int .u64 0, .int .u64 0, .string ⟨#[]⟩, .int .u64 0, .int .u64 0, .int .u64 0, .int .u64 0, .int .i64 0, .int .i64 0, .int .i64 0, .slice none 0 0, .slice none 0 0]) rfl 33 _ _ rfl b3 rfl rfl _ _ hR3f (by kernel_rfl) rfl (by first | rfl | decide | simp [Value.oneCell']) ?_))
 refine bodyPost_ret (results_rows2 (p1 := 0) (p2 := 1) (t := 2) rfl _ _ _ _ _ _ _ rfl hZ2 Tryz.underlying24 rfl (by kernel_rfl) _ _ _ _ _ rfl hZ3 Tryz.underlying33 rfl (by kernel_rfl)) rfl ?_
 exact ⟨rfl, Ext.setRow (Ext.setRow hE hw2 _) hw3 _⟩

set_option maxHeartbeats 4000000 in
set_option maxRecDepth 100000 in
theorem gopen_w (s : ByteArray) (w : World) (hs : s.size ≤ 281474976710656) (hv : Vars w) :
  Calls Tryz.prog 20 #[.string s] w fun e w' => GotG w' (openG s.data.toList) e ∧ Ext w w' := by
 have CG := fun U (h : Ext w U) => mgetO_w s 0 U hs (hv.ext h)
 have CO := fun q U (h : Ext w U) => aget_w s q U hs (hv.ext h)
 have C1 := fun U => open1_w U
 have hln : s.data.toList.length = s.size := rfl
 have hGd : openG s.data.toList = if (getTok s.data.toList 0).2.2 = false then noG
  else if (getO s.data.toList (getTok s.data.toList 0).2.1).2.2 = false ∨ (getO s.data.toList (getTok s.data.toList 0).2.1).2.1 ≠ (s.data.toList.length : Int) then noG
  else ((getTok s.data.toList 0).1, (getO s.data.toList (getTok s.data.toList 0).2.1).1, true) := rfl
 rw [hln] at hGd
 generalize openG s.data.toList = G at *
 generalize getTok s.data.toList 0 = K at *
 obtain ⟨⟨tn, L, sg⟩, q, b⟩ := K
 unfold GotKO at CG
 simp only at CG hGd
 have CO := CO q
 generalize getO s.data.toList q = M at *
 obtain ⟨⟨k, ⟨i, n⟩, p, d, ⟨xs, xd, xm, xt⟩, LB⟩, nx, b2_⟩ := M
 unfold GotO opV at CO
 simp only at CO hGd
 replace CG := Lib.hid CG
 replace CO := Lib.hid CO
 replace C1 := Lib.hid C1
 replace hGd := Lib.hid hGd
 have hR2 : RB w.heap.size 24 [.string ⟨#[]⟩, .slice none 0 0, .string ⟨#[]⟩] (w.alloc (.cells #[.string ⟨#[]⟩, .slice none 0 0, .string ⟨#[]⟩] 24)) := RB.new w 24 [.string ⟨#[]⟩, .slice none 0 0, .string ⟨#[]⟩]
 have hE : Ext w (w.alloc (.cells #[.string ⟨#[]⟩, .slice none 0 0, .string ⟨#[]⟩] 24)) := (Ext.refl _).alloc _
 generalize hW1 : w.alloc (.cells #[.string ⟨#[]⟩, .slice none 0 0, .string ⟨#[]⟩] 24) = w1 at *
 have hs1 : w1.heap.size = w.heap.size + 1 := by rw [← hW1, World.size_alloc]
 have hR3 : RB w1.heap.size 33 [.int .i64 0, .int .u64 0, .int .u64 0, .string ⟨#[]⟩, .int .u64 0, .int .u64 0, .int .u64 0, .int .u64 0, .string ⟨#[]⟩, .int .u64 0, .int .u64 0, .int .u64 0, .int .u64 0, .int .i64 0, .int .i64 0, .int .i64 0, .slice none 0 0, .slice none 0 0] (w1.alloc (.cells #[.int .i64 0, .int .u64 0, .int .u64 0, .string ⟨#[]⟩, .int .u64 0, .int .u64 0, .int .u64 0, .int .u64 0, .string ⟨#[]⟩, .int .u64 0, .int .u64 0, .int .u64 0, .int .u64 0, .int .i64 0, .int .i64 0, .int .i64 0, .slice none 0 0, .slice none 0 0] 33)) := RB.new w1 33 [.int .i64 0, .int .u64 0, .int .u64 0, .string ⟨#[]⟩, .int .u64 0, .int .u64 0, .int .u64 0, .int .u64 0, .string ⟨#[]⟩, .int .u64 0, .int .u64 0, .int .u64 0, .int .u64 0, .int .i64 0, .int .i64 0, .int .i64 0, .slice none 0 0, .slice none 0 0]
 have hE2 : Ext w1 (w1.alloc (.cells #[.int .i64 0, .int .u64 0, .int .u64 0, .string ⟨#[]⟩, .int .u64 0, .int .u64 0, .int .u64 0, .int .u64 0, .string ⟨#[]⟩, .int .u64 0, .int .u64 0, .int .u64 0, .int .u64 0, .int .i64 0, .int .i64 0, .int .i64 0, .slice none 0 0, .slice none 0 0] 33)) := (Ext.refl _).alloc _
 generalize hW2 : w1.alloc (.cells #[.int .i64 0, .int .u64 0, .int .u64 0, .string ⟨#[]⟩, .int .u64 0, .int .u64 0, .int .u64 0, .int .u64 0, .string ⟨#[]⟩, .int .u64 0, .int .u64 0, .int .u64 0, .int .u64 0, .int .i64 0, .int .i64 0, .int .i64 0, .slice none 0 0, .slice none 0 0] 33) = w2 at *
 replace hR2 := hR2.ext hE2
 replace hE := hE.trans hE2
 clear hE2
 rw [hs1] at hR3
 obtain ⟨b2, hb2⟩ : ∃ x, w.heap.size = x := ⟨_, rfl⟩
 have hw2 : w.heap.size ≤ b2 := by omega
 rw [hb2] at hR2 hR3 hs1
 go_enter Tryz.func20, Tryz.ntmps20
 go_upto_region 2 with fail
 clear hW1 hW2 hb2 hs1
 have h23 : b2 ≠ b2 + 1 := by omega
 have hw3 : w.heap.size ≤ b2 + 1 := by omega
 generalize b2 + 1 = b3 at *
 go_wp2_with fail
 have bl2 := hR2.lt
 have bl3 := hR3.lt
 refine (CG.out _ hE).mono ?_; rintro e_ w3 ⟨⟨vt, rfl, hcv, hown, hokt⟩, h3⟩
 obtain ⟨qt, ct, rfl, _, _⟩ := hcv.shape
 have hown2 : ∀ c, (Value.slice qt L.length ct).ownBlock = some c → c ≠ b2 ∧ c ≠ b3 := fun c hc => by have := hown c hc; omega
 clear hown
 replace hR2 := hR2.ext h3
 replace hR3 := hR3.ext h3
 replace hE := hE.trans h3
 clear h3
 have hB6 := (RB.new w3 24 [.string ⟨#[]⟩, .slice none 0 0, .string ⟨#[]⟩]).setRow [.string tn, .slice qt L.length ct, .string sg]
 have e6 : Ext w3 ((w3.alloc (.cells #[.string ⟨#[]⟩, .slice none 0 0, .string ⟨#[]⟩] 24)).setRow w3.heap.size #[.string tn, .slice qt L.length ct, .string sg]) := Ext.setRow ((Ext.refl w3).alloc _) (Nat.le_refl _) _
 have hbl : b2 < w3.heap.size ∧ b3 < w3.heap.size := ⟨hR2.lt, hR3.lt⟩
 cases b with
 | false =>
  have hGe : G = noG := by rw [hGd.out]; simp
  subst hGe
  have hNO : Hid (∀ U : World, GotG U noG (.returned (.tuple #[.agg #[.string ⟨#[]⟩, .slice none 0 0, .string ⟨#[]⟩], .agg #[.int .i64 0, .int .u64 0, .int .u64 0, .string ⟨#[]⟩, .int .u64 0, .int .u64 0, .int .u64 0, .int .u64 0, .string ⟨#[]⟩, .int .u64 0, .int .u64 0, .int .u64 0, .int .u64 0, .int .i64 0, .int .i64 0, .int .i64 0, .slice none 0 0, .slice none 0 0], .bool false]))) := fun U => GotG.no U
  clear hGd bl2 bl3 hown2
  go_wp2_with (refine wpList_store_row (cells := #[.string tn, .slice qt L.length ct, .string sg]) rfl 24 _ _ rfl w3.heap.size rfl rfl _ _ (RB.new w3 24 [.string ⟨#[]⟩, .slice none 0 0, .string ⟨#[]⟩]) (by kernel_rfl) rfl (by first | rfl | decide | simp [Value.oneCell']) ?_)
  change RB w3.heap.size 24 [.string tn, .slice qt L.length ct, .string sg] ((w3.alloc (.cells #[.string ⟨#[]⟩, .slice none 0 0, .string ⟨#[]⟩] 24)).setRow w3.heap.size #[.string tn, .slice qt L.length ct, .string sg]) at hB6
  generalize (w3.alloc (.cells #[.string ⟨#[]⟩, .slice none 0 0, .string ⟨#[]⟩] 24)).setRow w3.heap.size #[.string tn, .slice qt L.length ct, .string sg] = w4 at *
  replace hR2 := hR2.ext e6
  replace hR3 := hR3.ext e6
  replace hE := hE.trans e6
  clear e6 hB6
  refine (C1.out _).mono ?_; rintro e_ wf ⟨rfl, hf⟩
  replace hR2 := hR2.ext hf
  replace hR3 := hR3.ext hf
  replace hE := hE.trans hf
  have hR3f := hR3.farRow (c := b2) h23 #[.string ⟨#[]⟩, .slice none 0 0, .string ⟨#[]⟩]
  have hZ2 := (hR2.setRow [.string ⟨#[]⟩, .slice none 0 0, .string ⟨#[]⟩]).farRow (c := b3) (Ne.symm h23) #[.int .i64 0, .int .u64 0, .int .u64 0, .string ⟨#[]⟩, .int .u64 0, .int .u64 0, .int .u64 0, .int .u64 0, .string ⟨#[]⟩, .int .u64 0, .int .u64 0, .int .u64 0, .int .u64 0, .int .i64 0, .int .i64 0, .int .i64 0, .slice none 0 0, .slice none 0 0]
  have hZ3 := hR3f.setRow [.int .i64 0, .int .u64 0, .int .u64 0, .string ⟨#[]⟩, .int .u64 0, .int .u64 0, .int .u64 0, .int .u64 0, .string ⟨#[]⟩, .int .u64 0, .int .u64 0, .int .u64 0, .int .u64 0, .int .i64 0, .int .i64 0, .int .i64 0, .slice none 0 0, .slice none 0 0]
  go_wp2_with (first | (refine wpList_store_row (cells := #[.string ⟨#[]⟩, .slice none 0 0, .string ⟨#[]⟩]) rfl 24 _ _ rfl b2 rfl rfl _ _ hR2 (by kernel_rfl) rfl (by first | rfl | decide | simp [Value.oneCell']) ?_) | (refine wpList_store_row (cells := #[.int .i64 0, .int .u64 0, .int .u64 0, .string ⟨#[]⟩, .int .u64 0, .int .u64 0, .int .u64 0, .int .u64 0, .string ⟨#[]⟩, .int .u64 0, .int .u64 0, .int .u64 0, .int .u64 0, .int .i64 0, .int .i64 0, .int .i64 0, .slice none 0 0, .slice none 0 0]) rfl 33 _ _ rfl b3 rfl rfl _ _ hR3f (by kernel_rfl) rfl (by first | rfl | decide | simp [Value.oneCell']) ?_))
  refine bodyPost_ret (results_rows2 (p1 := 2) (p2 := 3) (t := 4) rfl _ _ _ _ _ _ _ rfl hZ2 Tryz.underlying24 rfl (by kernel_rfl) _ _ _ _ _ rfl hZ3 Tryz.underlying33 rfl (by kernel_rfl)) rfl ?_
  exact ⟨hNO.out _, Ext.setRow (Ext.setRow hE hw2 _) hw3 _⟩
 | true =>
  clear bl2 bl3
  go_wp2_with (refine wpList_store_row (cells := #[.string tn, .slice qt L.length ct, .string sg]) rfl 24 _ _ rfl w3.heap.size rfl rfl _ _ (RB.new w3 24 [.string ⟨#[]⟩, .slice none 0 0, .string ⟨#[]⟩]) (by kernel_rfl) rfl (by first | rfl | decide | simp [Value.oneCell']) ?_)
  change RB w3.heap.size 24 [.string tn, .slice qt L.length ct, .string sg] ((w3.alloc (.cells #[.string ⟨#[]⟩, .slice none 0 0, .string ⟨#[]⟩] 24)).setRow w3.heap.size #[.string tn, .slice qt L.length ct, .string sg]) at hB6
  generalize (w3.alloc (.cells #[.string ⟨#[]⟩, .slice none 0 0, .string ⟨#[]⟩] 24)).setRow w3.heap.size #[.string tn, .slice qt L.length ct, .string sg] = w4 at *
  have h26 : b2 ≠ w3.heap.size := by omega
  have h36 : b3 ≠ w3.heap.size := by omega
  generalize w3.heap.size = b6 at *
  replace hR2 := hR2.ext e6
  replace hR3 := hR3.ext e6
  replace hE := hE.trans e6
  replace hcv := Sl.ext hcv e6
  clear e6
  have bl2 := hR2.lt
  have bl3 := hR3.lt
  refine (CO.out _ hE).mono ?_; rintro e_ w5 ⟨⟨v_, l_, R, rfl, hT, hfR, hRl, hRT, hP, hok, hOT, hOP⟩, h5⟩
  subst hRT
  obtain ⟨qv, cv, rfl, _, _⟩ := hT.shape
  obtain ⟨ql, cl, rfl, _, _⟩ := hP.shape
  replace hR2 := hR2.ext h5
  replace hR3 := hR3.ext h5
  replace hB6 := hB6.ext h5
  replace hE := hE.trans h5
  replace hcv := Sl.ext hcv h5
  clear h5
  have hB9 := (RB.new w5 33 [.int .i64 0, .int .u64 0, .int .u64 0, .string ⟨#[]⟩, .int .u64 0, .int .u64 0, .int .u64 0, .int .u64 0, .string ⟨#[]⟩, .int .u64 0, .int .u64 0, .int .u64 0, .int .u64 0, .int .i64 0, .int .i64 0, .int .i64 0, .slice none 0 0, .slice none 0 0]).setRow [.int .i64 k, .int .u64 (i : Nat), .int .u64 (n : Nat), .string p, .int .u64 ((vG d) 0 : Nat), .int .u64 ((vG d) 1 : Nat), .int .u64 ((vG d) 2 : Nat), .int .u64 ((vG d) 3 : Nat), .string xs, .int .u64 ((vG xd) 0 : Nat), .int .u64 ((vG xd) 1 : Nat), .int .u64 ((vG xd) 2 : Nat), .int .u64 ((vG xd) 3 : Nat), .int .i64 xm.1, .int .i64 xm.2.1, .int .i64 xm.2.2, .slice qv R.length cv, .slice ql LB.length cl]
  have e9 : Ext w5 ((w5.alloc (.cells #[.int .i64 0, .int .u64 0, .int .u64 0, .string ⟨#[]⟩, .int .u64 0, .int .u64 0, .int .u64 0, .int .u64 0, .string ⟨#[]⟩, .int .u64 0, .int .u64 0, .int .u64 0, .int .u64 0, .int .i64 0, .int .i64 0, .int .i64 0, .slice none 0 0, .slice none 0 0] 33)).setRow w5.heap.size #[.int .i64 k, .int .u64 (i : Nat), .int .u64 (n : Nat), .string p, .int .u64 ((vG d) 0 : Nat), .int .u64 ((vG d) 1 : Nat), .int .u64 ((vG d) 2 : Nat), .int .u64 ((vG d) 3 : Nat), .string xs, .int .u64 ((vG xd) 0 : Nat), .int .u64 ((vG xd) 1 : Nat), .int .u64 ((vG xd) 2 : Nat), .int .u64 ((vG xd) 3 : Nat), .int .i64 xm.1, .int .i64 xm.2.1, .int .i64 xm.2.2, .slice qv R.length cv, .slice ql LB.length cl]) := Ext.setRow ((Ext.refl w5).alloc _) (Nat.le_refl _) _
  have h29 : b2 ≠ w5.heap.size := by have := hR2.lt; omega
  have h39 : b3 ≠ w5.heap.size := by have := hR3.lt; omega
  by_cases hyes : b2_ = true ∧ nx = (s.size : Int)
  ·obtain ⟨rfl, rfl⟩ := hyes
   have hGe : G = ((tn, L, sg), (k, (i, n), p, d, (xs, xd, xm, R.map rowT), LB), true) := by rw [hGd.out]; simp
   subst hGe
   clear hGd
   go_upto_region 8 with (refine wpList_store_row (cells := #[.int .i64 k, .int .u64 (i : Nat), .int .u64 (n : Nat), .string p, .int .u64 ((vG d) 0 : Nat), .int .u64 ((vG d) 1 : Nat), .int .u64 ((vG d) 2 : Nat), .int .u64 ((vG d) 3 : Nat), .string xs, .int .u64 ((vG xd) 0 : Nat), .int .u64 ((vG xd) 1 : Nat), .int .u64 ((vG xd) 2 : Nat), .int .u64 ((vG xd) 3 : Nat), .int .i64 xm.1, .int .i64 xm.2.1, .int .i64 xm.2.2, .slice qv R.length cv, .slice ql LB.length cl]) rfl 33 _ _ rfl w5.heap.size rfl rfl _ _ (RB.new w5 33 [.int .i64 0, .int .u64 0, .int .u64 0, .string ⟨#[]⟩, .int .u64 0, .int .u64 0, .int .u64 0, .int .u64 0, .string ⟨#[]⟩, .int .u64 0, .int .u64 0, .int .u64 0, .int .u64 0, .int .i64 0, .int .i64 0, .int .i64 0, .slice none 0 0, .slice none 0 0]) (by kernel_rfl) rfl (by first | rfl | decide | simp [Value.oneCell']) ?_)
   change RB w5.heap.size 33 [.int .i64 k, .int .u64 (i : Nat), .int .u64 (n : Nat), .string p, .int .u64 ((vG d) 0 : Nat), .int .u64 ((vG d) 1 : Nat), .int .u64 ((vG d) 2 : Nat), .int .u64 ((vG d) 3 : Nat), .string xs, .int .u64 ((vG xd) 0 : Nat), .int .u64 ((vG xd) 1 : Nat), .int .u64 ((vG xd) 2 : Nat), .int .u64 ((vG xd) 3 : Nat), .int .i64 xm.1, .int .i64 xm.2.1, .int .i64 xm.2.2, .slice qv R.length cv, .slice ql LB.length cl] ((w5.alloc (.cells #[.int .i64 0, .int .u64 0, .int .u64 0, .string ⟨#[]⟩, .int .u64 0, .int .u64 0, .int .u64 0, .int .u64 0, .string ⟨#[]⟩, .int .u64 0, .int .u64 0, .int .u64 0, .int .u64 0, .int .i64 0, .int .i64 0, .int .i64 0, .slice none 0 0, .slice none 0 0] 33)).setRow w5.heap.size #[.int .i64 k, .int .u64 (i : Nat), .int .u64 (n : Nat), .string p, .int .u64 ((vG d) 0 : Nat), .int .u64 ((vG d) 1 : Nat), .int .u64 ((vG d) 2 : Nat), .int .u64 ((vG d) 3 : Nat), .string xs, .int .u64 ((vG xd) 0 : Nat), .int .u64 ((vG xd) 1 : Nat), .int .u64 ((vG xd) 2 : Nat), .int .u64 ((vG xd) 3 : Nat), .int .i64 xm.1, .int .i64 xm.2.1, .int .i64 xm.2.2, .slice qv R.length cv, .slice ql LB.length cl]) at hB9
   generalize (w5.alloc (.cells #[.int .i64 0, .int .u64 0, .int .u64 0, .string ⟨#[]⟩, .int .u64 0, .int .u64 0, .int .u64 0, .int .u64 0, .string ⟨#[]⟩, .int .u64 0, .int .u64 0, .int .u64 0, .int .u64 0, .int .i64 0, .int .i64 0, .int .i64 0, .slice none 0 0, .slice none 0 0] 33)).setRow w5.heap.size #[.int .i64 k, .int .u64 (i : Nat), .int .u64 (n : Nat), .string p, .int .u64 ((vG d) 0 : Nat), .int .u64 ((vG d) 1 : Nat), .int .u64 ((vG d) 2 : Nat), .int .u64 ((vG d) 3 : Nat), .string xs, .int .u64 ((vG xd) 0 : Nat), .int .u64 ((vG xd) 1 : Nat), .int .u64 ((vG xd) 2 : Nat), .int .u64 ((vG xd) 3 : Nat), .int .i64 xm.1, .int .i64 xm.2.1, .int .i64 xm.2.2, .slice qv R.length cv, .slice ql LB.length cl] = w6 at *
   generalize w5.heap.size = b9 at *
   replace hR2 := hR2.ext e9
   replace hR3 := hR3.ext e9
   replace hB6 := hB6.ext e9
   replace hE := hE.trans e9
   replace hcv := Sl.ext hcv e9
   replace hT := hT.ext e9
   replace hP := hP.ext e9
   clear e9
   have HI : RB b6 24 [.string tn, .slice qt L.length ct, .string sg] w6 ∧ RB b9 33 [.int .i64 k, .int .u64 (i : Nat), .int .u64 (n : Nat), .string p, .int .u64 ((vG d) 0 : Nat), .int .u64 ((vG d) 1 : Nat), .int .u64 ((vG d) 2 : Nat), .int .u64 ((vG d) 3 : Nat), .string xs, .int .u64 ((vG xd) 0 : Nat), .int .u64 ((vG xd) 1 : Nat), .int .u64 ((vG xd) 2 : Nat), .int .u64 ((vG xd) 3 : Nat), .int .i64 xm.1, .int .i64 xm.2.1, .int .i64 xm.2.2, .slice qv R.length cv, .slice ql LB.length cl] w6 := ⟨hB6, hB9⟩
   try simp only [Act.put, List.setIfInBounds_toArray, List.set_cons_succ, List.set_cons_zero]
   refine Dm.wp_region_fin (I := (fun U => RB b6 24 [.string tn, .slice qt L.length ct, .string sg] U ∧ RB b9 33 [.int .i64 k, .int .u64 (i : Nat), .int .u64 (n : Nat), .string p, .int .u64 ((vG d) 0 : Nat), .int .u64 ((vG d) 1 : Nat), .int .u64 ((vG d) 2 : Nat), .int .u64 ((vG d) 3 : Nat), .string xs, .int .u64 ((vG xd) 0 : Nat), .int .u64 ((vG xd) 1 : Nat), .int .u64 ((vG xd) 2 : Nat), .int .u64 ((vG xd) 3 : Nat), .int .i64 xm.1, .int .i64 xm.2.1, .int .i64 xm.2.2, .slice qv R.length cv, .slice ql LB.length cl] U)) (z := 4) 5 (Dm.bits 5 0) (by kernel_rfl) (by kernel_rfl) (by kernel_rfl) ?_
   refine tfs [0, 1] 3 3 (fun _ _ h hx => ⟨h.1.ext hx, h.2.ext hx⟩) HI ?_ (hq := by intro wq hwq; obtain ⟨q1, q2⟩ := hwq; go_big_quiet_want; refine quiet_load_row 24 _ rfl b6 rfl _ _ _ _ (fun _ hw => by obtain ⟨_, rfl⟩ := hw; exact q1.ext (ext_grow _ _)) Tryz.underlying24 rfl (by kernel_rfl) ?_; simp only [Act.put, List.setIfInBounds_toArray, List.set_cons_succ, List.set_cons_zero]; go_big_quiet_on; go_big_quiet_want; refine quiet_load_row 33 _ rfl b9 rfl _ _ _ _ (fun _ hw => by obtain ⟨_, rfl⟩ := hw; exact q2.ext (ext_grow _ _)) Tryz.underlying33 rfl (by kernel_rfl) ?_; simp only [Act.put, List.setIfInBounds_toArray, List.set_cons_succ, List.set_cons_zero]; go_big_quiet_on; exact wpQuiet_nil rfl)
   refine Dm.wpF_one (i := 2) (listed' := (Dm.bits 5 7)) (by kernel_rfl) (by kernel_rfl) rfl (fun wm2 hxm2 => ?_)
   replace hR2 := hR2.ext hxm2
   replace hR3 := hR3.ext hxm2
   replace hB6 := hB6.ext hxm2
   replace hB9 := hB9.ext hxm2
   replace hE := hE.trans hxm2
   replace hcv := Sl.ext hcv hxm2
   replace hT := hT.ext hxm2
   replace hP := hP.ext hxm2
   go_wp2_with (refine wpList_store_row (cells := #[.string tn, .slice qt L.length ct, .string sg]) rfl 24 _ _ rfl b2 rfl rfl _ _ hR2 (by kernel_rfl) rfl (by first | rfl | decide | simp [Value.oneCell']) ?_)
   replace hcv : Sl (wm2.setRow b2 #[.string tn, .slice qt L.length ct, .string sg]) 2 _ _ _ := Sl.off hcv ((Off.refl b2 _).setRow _) (fun c hc => (hown2 c hc).1)
   replace hT : Terms (wm2.setRow b2 #[.string tn, .slice qt L.length ct, .string sg]) _ _ := hT.off hOT bl2 ((Off.refl b2 _).setRow _)
   replace hP : Pairs (wm2.setRow b2 #[.string tn, .slice qt L.length ct, .string sg]) _ _ := hP.off hOP bl2 ((Off.refl b2 _).setRow _)
   replace hB6 : RB b6 24 [.string tn, .slice qt L.length ct, .string sg] (wm2.setRow b2 #[.string tn, .slice qt L.length ct, .string sg]) := hB6.farRow h26 _
   replace hB9 : RB b9 33 [.int .i64 k, .int .u64 (i : Nat), .int .u64 (n : Nat), .string p, .int .u64 ((vG d) 0 : Nat), .int .u64 ((vG d) 1 : Nat), .int .u64 ((vG d) 2 : Nat), .int .u64 ((vG d) 3 : Nat), .string xs, .int .u64 ((vG xd) 0 : Nat), .int .u64 ((vG xd) 1 : Nat), .int .u64 ((vG xd) 2 : Nat), .int .u64 ((vG xd) 3 : Nat), .int .i64 xm.1, .int .i64 xm.2.1, .int .i64 xm.2.2, .slice qv R.length cv, .slice ql LB.length cl] (wm2.setRow b2 #[.string tn, .slice qt L.length ct, .string sg]) := hB9.farRow h29 _
   replace hR3 : RB b3 33 [.int .i64 0, .int .u64 0, .int .u64 0, .string ⟨#[]⟩, .int .u64 0, .int .u64 0, .int .u64 0, .int .u64 0, .string ⟨#[]⟩, .int .u64 0, .int .u64 0, .int .u64 0, .int .u64 0, .int .i64 0, .int .i64 0, .int .i64 0, .slice none 0 0, .slice none 0 0] (wm2.setRow b2 #[.string tn, .slice qt L.length ct, .string sg]) := hR3.farRow h23 _
   replace hR2 : RB b2 24 [.string tn, .slice qt L.length ct, .string sg] (wm2.setRow b2 #[.string tn, .slice qt L.length ct, .string sg]) := hR2.setRow [.string tn, .slice qt L.length ct, .string sg]
   replace hE : Ext w (wm2.setRow b2 #[.string tn, .slice qt L.length ct, .string sg]) := Ext.setRow hE hw2 _
   generalize wm2.setRow b2 #[.string tn, .slice qt L.length ct, .string sg] = wm2a at *
   refine ⟨fun _ => ⟨hB6, hB9⟩, ?_⟩
   try simp only [Act.put]
   refine Dm.wpF_one (i := 3) (listed' := (Dm.bits 5 15)) (by kernel_rfl) (by kernel_rfl) rfl (fun wm3 hxm3 => ?_)
   replace hR2 := hR2.ext hxm3
   replace hR3 := hR3.ext hxm3
   replace hB6 := hB6.ext hxm3
   replace hB9 := hB9.ext hxm3
   replace hE := hE.trans hxm3
   replace hcv := Sl.ext hcv hxm3
   replace hT := hT.ext hxm3
   replace hP := hP.ext hxm3
   go_wp2_with (refine wpList_store_row (cells := #[.int .i64 k, .int .u64 (i : Nat), .int .u64 (n : Nat), .string p, .int .u64 ((vG d) 0 : Nat), .int .u64 ((vG d) 1 : Nat), .int .u64 ((vG d) 2 : Nat), .int .u64 ((vG d) 3 : Nat), .string xs, .int .u64 ((vG xd) 0 : Nat), .int .u64 ((vG xd) 1 : Nat), .int .u64 ((vG xd) 2 : Nat), .int .u64 ((vG xd) 3 : Nat), .int .i64 xm.1, .int .i64 xm.2.1, .int .i64 xm.2.2, .slice qv R.length cv, .slice ql LB.length cl]) rfl 33 _ _ rfl b3 rfl rfl _ _ hR3 (by kernel_rfl) rfl (by first | rfl | decide | simp [Value.oneCell']) ?_)
   replace hcv : Sl (wm3.setRow b3 #[.int .i64 k, .int .u64 (i : Nat), .int .u64 (n : Nat), .string p, .int .u64 ((vG d) 0 : Nat), .int .u64 ((vG d) 1 : Nat), .int .u64 ((vG d) 2 : Nat), .int .u64 ((vG d) 3 : Nat), .string xs, .int .u64 ((vG xd) 0 : Nat), .int .u64 ((vG xd) 1 : Nat), .int .u64 ((vG xd) 2 : Nat), .int .u64 ((vG xd) 3 : Nat), .int .i64 xm.1, .int .i64 xm.2.1, .int .i64 xm.2.2, .slice qv R.length cv, .slice ql LB.length cl]) 2 _ _ _ := Sl.off hcv ((Off.refl b3 _).setRow _) (fun c hc => (hown2 c hc).2)
   replace hT : Terms (wm3.setRow b3 #[.int .i64 k, .int .u64 (i : Nat), .int .u64 (n : Nat), .string p, .int .u64 ((vG d) 0 : Nat), .int .u64 ((vG d) 1 : Nat), .int .u64 ((vG d) 2 : Nat), .int .u64 ((vG d) 3 : Nat), .string xs, .int .u64 ((vG xd) 0 : Nat), .int .u64 ((vG xd) 1 : Nat), .int .u64 ((vG xd) 2 : Nat), .int .u64 ((vG xd) 3 : Nat), .int .i64 xm.1, .int .i64 xm.2.1, .int .i64 xm.2.2, .slice qv R.length cv, .slice ql LB.length cl]) _ _ := hT.off hOT bl3 ((Off.refl b3 _).setRow _)
   replace hP : Pairs (wm3.setRow b3 #[.int .i64 k, .int .u64 (i : Nat), .int .u64 (n : Nat), .string p, .int .u64 ((vG d) 0 : Nat), .int .u64 ((vG d) 1 : Nat), .int .u64 ((vG d) 2 : Nat), .int .u64 ((vG d) 3 : Nat), .string xs, .int .u64 ((vG xd) 0 : Nat), .int .u64 ((vG xd) 1 : Nat), .int .u64 ((vG xd) 2 : Nat), .int .u64 ((vG xd) 3 : Nat), .int .i64 xm.1, .int .i64 xm.2.1, .int .i64 xm.2.2, .slice qv R.length cv, .slice ql LB.length cl]) _ _ := hP.off hOP bl3 ((Off.refl b3 _).setRow _)
   replace hB6 : RB b6 24 [.string tn, .slice qt L.length ct, .string sg] (wm3.setRow b3 #[.int .i64 k, .int .u64 (i : Nat), .int .u64 (n : Nat), .string p, .int .u64 ((vG d) 0 : Nat), .int .u64 ((vG d) 1 : Nat), .int .u64 ((vG d) 2 : Nat), .int .u64 ((vG d) 3 : Nat), .string xs, .int .u64 ((vG xd) 0 : Nat), .int .u64 ((vG xd) 1 : Nat), .int .u64 ((vG xd) 2 : Nat), .int .u64 ((vG xd) 3 : Nat), .int .i64 xm.1, .int .i64 xm.2.1, .int .i64 xm.2.2, .slice qv R.length cv, .slice ql LB.length cl]) := hB6.farRow h36 _
   replace hB9 : RB b9 33 [.int .i64 k, .int .u64 (i : Nat), .int .u64 (n : Nat), .string p, .int .u64 ((vG d) 0 : Nat), .int .u64 ((vG d) 1 : Nat), .int .u64 ((vG d) 2 : Nat), .int .u64 ((vG d) 3 : Nat), .string xs, .int .u64 ((vG xd) 0 : Nat), .int .u64 ((vG xd) 1 : Nat), .int .u64 ((vG xd) 2 : Nat), .int .u64 ((vG xd) 3 : Nat), .int .i64 xm.1, .int .i64 xm.2.1, .int .i64 xm.2.2, .slice qv R.length cv, .slice ql LB.length cl] (wm3.setRow b3 #[.int .i64 k, .int .u64 (i : Nat), .int .u64 (n : Nat), .string p, .int .u64 ((vG d) 0 : Nat), .int .u64 ((vG d) 1 : Nat), .int .u64 ((vG d) 2 : Nat), .int .u64 ((vG d) 3 : Nat), .string xs, .int .u64 ((vG xd) 0 : Nat), .int .u64 ((vG xd) 1 : Nat), .int .u64 ((vG xd) 2 : Nat), .int .u64 ((vG xd) 3 : Nat), .int .i64 xm.1, .int .i64 xm.2.1, .int .i64 xm.2.2, .slice qv R.length cv, .slice ql LB.length cl]) := hB9.farRow h39 _
   replace hR2 : RB b2 24 [.string tn, .slice qt L.length ct, .string sg] (wm3.setRow b3 #[.int .i64 k, .int .u64 (i : Nat), .int .u64 (n : Nat), .string p, .int .u64 ((vG d) 0 : Nat), .int .u64 ((vG d) 1 : Nat), .int .u64 ((vG d) 2 : Nat), .int .u64 ((vG d) 3 : Nat), .string xs, .int .u64 ((vG xd) 0 : Nat), .int .u64 ((vG xd) 1 : Nat), .int .u64 ((vG xd) 2 : Nat), .int .u64 ((vG xd) 3 : Nat), .int .i64 xm.1, .int .i64 xm.2.1, .int .i64 xm.2.2, .slice qv R.length cv, .slice ql LB.length cl]) := hR2.farRow (Ne.symm h23) _
   replace hR3 : RB b3 33 [.int .i64 k, .int .u64 (i : Nat), .int .u64 (n : Nat), .string p, .int .u64 ((vG d) 0 : Nat), .int .u64 ((vG d) 1 : Nat), .int .u64 ((vG d) 2 : Nat), .int .u64 ((vG d) 3 : Nat), .string xs, .int .u64 ((vG xd) 0 : Nat), .int .u64 ((vG xd) 1 : Nat), .int .u64 ((vG xd) 2 : Nat), .int .u64 ((vG xd) 3 : Nat), .int .i64 xm.1, .int .i64 xm.2.1, .int .i64 xm.2.2, .slice qv R.length cv, .slice ql LB.length cl] (wm3.setRow b3 #[.int .i64 k, .int .u64 (i : Nat), .int .u64 (n : Nat), .string p, .int .u64 ((vG d) 0 : Nat), .int .u64 ((vG d) 1 : Nat), .int .u64 ((vG d) 2 : Nat), .int .u64 ((vG d) 3 : Nat), .string xs, .int .u64 ((vG xd) 0 : Nat), .int .u64 ((vG xd) 1 : Nat), .int .u64 ((vG xd) 2 : Nat), .int .u64 ((vG xd) 3 : Nat), .int .i64 xm.1, .int .i64 xm.2.1, .int .i64 xm.2.2, .slice qv R.length cv, .slice ql LB.length cl]) := hR3.setRow [.int .i64 k, .int .u64 (i : Nat), .int .u64 (n : Nat), .string p, .int .u64 ((vG d) 0 : Nat), .int .u64 ((vG d) 1 : Nat), .int .u64 ((vG d) 2 : Nat), .int .u64 ((vG d) 3 : Nat), .string xs, .int .u64 ((vG xd) 0 : Nat), .int .u64 ((vG xd) 1 : Nat), .int .u64 ((vG xd) 2 : Nat), .int .u64 ((vG xd) 3 : Nat), .int .i64 xm.1, .int .i64 xm.2.1, .int .i64 xm.2.2, .slice qv R.length cv, .slice ql LB.length cl]
   replace hE : Ext w (wm3.setRow b3 #[.int .i64 k, .int .u64 (i : Nat), .int .u64 (n : Nat), .string p, .int .u64 ((vG d) 0 : Nat), .int .u64 ((vG d) 1 : Nat), .int .u64 ((vG d) 2 : Nat), .int .u64 ((vG d) 3 : Nat), .string xs, .int .u64 ((vG xd) 0 : Nat), .int .u64 ((vG xd) 1 : Nat), .int .u64 ((vG xd) 2 : Nat), .int .u64 ((vG xd) 3 : Nat), .int .i64 xm.1, .int .i64 xm.2.1, .int .i64 xm.2.2, .slice qv R.length cv, .slice ql LB.length cl]) := Ext.setRow hE hw3 _
   generalize wm3.setRow b3 #[.int .i64 k, .int .u64 (i : Nat), .int .u64 (n : Nat), .string p, .int .u64 ((vG d) 0 : Nat), .int .u64 ((vG d) 1 : Nat), .int .u64 ((vG d) 2 : Nat), .int .u64 ((vG d) 3 : Nat), .string xs, .int .u64 ((vG xd) 0 : Nat), .int .u64 ((vG xd) 1 : Nat), .int .u64 ((vG xd) 2 : Nat), .int .u64 ((vG xd) 3 : Nat), .int .i64 xm.1, .int .i64 xm.2.1, .int .i64 xm.2.2, .slice qv R.length cv, .slice ql LB.length cl] = wm3a at *
   refine ⟨fun _ => ⟨hB6, hB9⟩, ?_⟩
   try simp only [Act.put]
   refine Dm.wpF_one (i := 4) (listed' := (Dm.bits 5 31)) (by kernel_rfl) (by kernel_rfl) rfl (fun wz hxz => ?_)
   skip
   go_wp2_with fail
   first | refine ⟨fun h => absurd rfl h, ?_⟩ | skip
   refine Dm.wpF_done (by kernel_rfl) (fun wy hxy => ?_)
   have hZ2 := (hR2.ext hxz).ext hxy
   have hZ3 := (hR3.ext hxz).ext hxy
   replace hE := (hE.trans hxz).trans hxy
   replace hcv := Sl.ext (Sl.ext hcv hxz) hxy
   replace hT := (hT.ext hxz).ext hxy
   replace hP := (hP.ext hxz).ext hxy
   go_wp2
   refine bodyPost_ret (results_rows2 (p1 := 2) (p2 := 3) (t := 4) rfl _ _ _ _ _ _ _ rfl hZ2 Tryz.underlying24 rfl (by kernel_rfl) _ _ _ _ _ rfl hZ3 Tryz.underlying33 rfl (by kernel_rfl)) rfl ?_
   exact ⟨⟨_, _, rfl, ⟨_, rfl, hcv, hokt⟩, ⟨_, _, R, rfl, hT, hfR, hRl, rfl, hP, hok⟩⟩, hE⟩
  ·have hGe : G = noG := by
    rw [hGd.out, if_neg (by simp), if_pos]
    rcases Bool.eq_false_or_eq_true b2_ with h | h
    ·exact Or.inr fun e => hyes ⟨h, e⟩
    ·exact Or.inl h
   subst hGe
   have hNO : Hid (∀ U : World, GotG U noG (.returned (.tuple #[.agg #[.string ⟨#[]⟩, .slice none 0 0, .string ⟨#[]⟩], .agg #[.int .i64 0, .int .u64 0, .int .u64 0, .string ⟨#[]⟩, .int .u64 0, .int .u64 0, .int .u64 0, .int .u64 0, .string ⟨#[]⟩, .int .u64 0, .int .u64 0, .int .u64 0, .int .u64 0, .int .i64 0, .int .i64 0, .int .i64 0, .slice none 0 0, .slice none 0 0], .bool false]))) := fun U => GotG.no U
   clear hGd bl2 bl3 hown2 hT hP hcv hB6 hOT hOP
   cases b2_ with
   | false =>
    go_wp2_with (refine wpList_store_row (cells := #[.int .i64 k, .int .u64 (i : Nat), .int .u64 (n : Nat), .string p, .int .u64 ((vG d) 0 : Nat), .int .u64 ((vG d) 1 : Nat), .int .u64 ((vG d) 2 : Nat), .int .u64 ((vG d) 3 : Nat), .string xs, .int .u64 ((vG xd) 0 : Nat), .int .u64 ((vG xd) 1 : Nat), .int .u64 ((vG xd) 2 : Nat), .int .u64 ((vG xd) 3 : Nat), .int .i64 xm.1, .int .i64 xm.2.1, .int .i64 xm.2.2, .slice qv R.length cv, .slice ql LB.length cl]) rfl 33 _ _ rfl w5.heap.size rfl rfl _ _ (RB.new w5 33 [.int .i64 0, .int .u64 0, .int .u64 0, .string ⟨#[]⟩, .int .u64 0, .int .u64 0, .int .u64 0, .int .u64 0, .string ⟨#[]⟩, .int .u64 0, .int .u64 0, .int .u64 0, .int .u64 0, .int .i64 0, .int .i64 0, .int .i64 0, .slice none 0 0, .slice none 0 0]) (by kernel_rfl) rfl (by first | rfl | decide | simp [Value.oneCell']) ?_)
    generalize (w5.alloc (.cells #[.int .i64 0, .int .u64 0, .int .u64 0, .string ⟨#[]⟩, .int .u64 0, .int .u64 0, .int .u64 0, .int .u64 0, .string ⟨#[]⟩, .int .u64 0, .int .u64 0, .int .u64 0, .int .u64 0, .int .i64 0, .int .i64 0, .int .i64 0, .slice none 0 0, .slice none 0 0] 33)).setRow w5.heap.size #[.int .i64 k, .int .u64 (i : Nat), .int .u64 (n : Nat), .string p, .int .u64 ((vG d) 0 : Nat), .int .u64 ((vG d) 1 : Nat), .int .u64 ((vG d) 2 : Nat), .int .u64 ((vG d) 3 : Nat), .string xs, .int .u64 ((vG xd) 0 : Nat), .int .u64 ((vG xd) 1 : Nat), .int .u64 ((vG xd) 2 : Nat), .int .u64 ((vG xd) 3 : Nat), .int .i64 xm.1, .int .i64 xm.2.1, .int .i64 xm.2.2, .slice qv R.length cv, .slice ql LB.length cl] = w6 at *
    replace hR2 := hR2.ext e9
    replace hR3 := hR3.ext e9
    replace hE := hE.trans e9
    clear e9 hB9
    refine (C1.out _).mono ?_; rintro e_ wf ⟨rfl, hf⟩
    replace hR2 := hR2.ext hf
    replace hR3 := hR3.ext hf
    replace hE := hE.trans hf
    have hR3f := hR3.farRow (c := b2) h23 #[.string ⟨#[]⟩, .slice none 0 0, .string ⟨#[]⟩]
    have hZ2 := (hR2.setRow [.string ⟨#[]⟩, .slice none 0 0, .string ⟨#[]⟩]).farRow (c := b3) (Ne.symm h23) #[.int .i64 0, .int .u64 0, .int .u64 0, .string ⟨#[]⟩, .int .u64 0, .int .u64 0, .int .u64 0, .int .u64 0, .string ⟨#[]⟩, .int .u64 0, .int .u64 0, .int .u64 0, .int .u64 0, .int .i64 0, .int .i64 0, .int .i64 0, .slice none 0 0, .slice none 0 0]
    have hZ3 := hR3f.setRow [.int .i64 0, .int .u64 0, .int .u64 0, .string ⟨#[]⟩, .int .u64 0, .int .u64 0, .int .u64 0, .int .u64 0, .string ⟨#[]⟩, .int .u64 0, .int .u64 0, .int .u64 0, .int .u64 0, .int .i64 0, .int .i64 0, .int .i64 0, .slice none 0 0, .slice none 0 0]
    go_wp2_with (first | (refine wpList_store_row (cells := #[.string ⟨#[]⟩, .slice none 0 0, .string ⟨#[]⟩]) rfl 24 _ _ rfl b2 rfl rfl _ _ hR2 (by kernel_rfl) rfl (by first | rfl | decide | simp [Value.oneCell']) ?_) | (refine wpList_store_row (cells := #[.int .i64 0, .int .u64 0, .int .u64 0, .string ⟨#[]⟩, .int .u64 0, .int .u64 0, .int .u64 0, .int .u64 0, .string ⟨#[]⟩, .int .u64 0, .int .u64 0, .int .u64 0, .int .u64 0, .int .i64 0, .int .i64 0, .int .i64 0, .slice none 0 0, .slice none 0 0]) rfl 33 _ _ rfl b3 rfl rfl _ _ hR3f (by kernel_rfl) rfl (by first | rfl | decide | simp [Value.oneCell']) ?_))
    refine bodyPost_ret (results_rows2 (p1 := 2) (p2 := 3) (t := 4) rfl _ _ _ _ _ _ _ rfl hZ2 Tryz.underlying24 rfl (by kernel_rfl) _ _ _ _ _ rfl hZ3 Tryz.underlying33 rfl (by kernel_rfl)) rfl ?_
    exact ⟨hNO.out _, Ext.setRow (Ext.setRow hE hw2 _) hw3 _⟩
   | true =>
    have hne : ¬ (nx = (s.size : Int)) := fun h => hyes ⟨rfl, h⟩
    go_wp2_with (refine wpList_store_row (cells := #[.int .i64 k, .int .u64 (i : Nat), .int .u64 (n : Nat), .string p, .int .u64 ((vG d) 0 : Nat), .int .u64 ((vG d) 1 : Nat), .int .u64 ((vG d) 2 : Nat), .int .u64 ((vG d) 3 : Nat), .string xs, .int .u64 ((vG xd) 0 : Nat), .int .u64 ((vG xd) 1 : Nat), .int .u64 ((vG xd) 2 : Nat), .int .u64 ((vG xd) 3 : Nat), .int .i64 xm.1, .int .i64 xm.2.1, .int .i64 xm.2.2, .slice qv R.length cv, .slice ql LB.length cl]) rfl 33 _ _ rfl w5.heap.size rfl rfl _ _ (RB.new w5 33 [.int .i64 0, .int .u64 0, .int .u64 0, .string ⟨#[]⟩, .int .u64 0, .int .u64 0, .int .u64 0, .int .u64 0, .string ⟨#[]⟩, .int .u64 0, .int .u64 0, .int .u64 0, .int .u64 0, .int .i64 0, .int .i64 0, .int .i64 0, .slice none 0 0, .slice none 0 0]) (by kernel_rfl) rfl (by first | rfl | decide | simp [Value.oneCell']) ?_)
    generalize (w5.alloc (.cells #[.int .i64 0, .int .u64 0, .int .u64 0, .string ⟨#[]⟩, .int .u64 0, .int .u64 0, .int .u64 0, .int .u64 0, .string ⟨#[]⟩, .int .u64 0, .int .u64 0, .int .u64 0, .int .u64 0, .int .i64 0, .int .i64 0, .int .i64 0, .slice none 0 0, .slice none 0 0] 33)).setRow w5.heap.size #[.int .i64 k, .int .u64 (i : Nat), .int .u64 (n : Nat), .string p, .int .u64 ((vG d) 0 : Nat), .int .u64 ((vG d) 1 : Nat), .int .u64 ((vG d) 2 : Nat), .int .u64 ((vG d) 3 : Nat), .string xs, .int .u64 ((vG xd) 0 : Nat), .int .u64 ((vG xd) 1 : Nat), .int .u64 ((vG xd) 2 : Nat), .int .u64 ((vG xd) 3 : Nat), .int .i64 xm.1, .int .i64 xm.2.1, .int .i64 xm.2.2, .slice qv R.length cv, .slice ql LB.length cl] = w6 at *
    replace hR2 := hR2.ext e9
    replace hR3 := hR3.ext e9
    replace hE := hE.trans e9
    clear e9 hB9
    refine (C1.out _).mono ?_; rintro e_ wf ⟨rfl, hf⟩
    replace hR2 := hR2.ext hf
    replace hR3 := hR3.ext hf
    replace hE := hE.trans hf
    have hR3f := hR3.farRow (c := b2) h23 #[.string ⟨#[]⟩, .slice none 0 0, .string ⟨#[]⟩]
    have hZ2 := (hR2.setRow [.string ⟨#[]⟩, .slice none 0 0, .string ⟨#[]⟩]).farRow (c := b3) (Ne.symm h23) #[.int .i64 0, .int .u64 0, .int .u64 0, .string ⟨#[]⟩, .int .u64 0, .int .u64 0, .int .u64 0, .int .u64 0, .string ⟨#[]⟩, .int .u64 0, .int .u64 0, .int .u64 0, .int .u64 0, .int .i64 0, .int .i64 0, .int .i64 0, .slice none 0 0, .slice none 0 0]
    have hZ3 := hR3f.setRow [.int .i64 0, .int .u64 0, .int .u64 0, .string ⟨#[]⟩, .int .u64 0, .int .u64 0, .int .u64 0, .int .u64 0, .string ⟨#[]⟩, .int .u64 0, .int .u64 0, .int .u64 0, .int .u64 0, .int .i64 0, .int .i64 0, .int .i64 0, .slice none 0 0, .slice none 0 0]
    go_wp2_with (first | (refine wpList_store_row (cells := #[.string ⟨#[]⟩, .slice none 0 0, .string ⟨#[]⟩]) rfl 24 _ _ rfl b2 rfl rfl _ _ hR2 (by kernel_rfl) rfl (by first | rfl | decide | simp [Value.oneCell']) ?_) | (refine wpList_store_row (cells := #[.int .i64 0, .int .u64 0, .int .u64 0, .string ⟨#[]⟩, .int .u64 0, .int .u64 0, .int .u64 0, .int .u64 0, .string ⟨#[]⟩, .int .u64 0, .int .u64 0, .int .u64 0, .int .u64 0, .int .i64 0, .int .i64 0, .int .i64 0, .slice none 0 0, .slice none 0 0]) rfl 33 _ _ rfl b3 rfl rfl _ _ hR3f (by kernel_rfl) rfl (by first | rfl | decide | simp [Value.oneCell']) ?_))
    refine bodyPost_ret (results_rows2 (p1 := 2) (p2 := 3) (t := 4) rfl _ _ _ _ _ _ _ rfl hZ2 Tryz.underlying24 rfl (by kernel_rfl) _ _ _ _ _ rfl hZ3 Tryz.underlying33 rfl (by kernel_rfl)) rfl ?_
    exact ⟨hNO.out _, Ext.setRow (Ext.setRow hE hw2 _) hw3 _⟩
end Go.Proofs.YtefjdmjkofaajaaGreatDoor

namespace Go.Dm
open Go Go.RowKit
theorem lab_iff {l : Bs} (hU : U64 l.length) {p n : Int} {L : List PairL} : atI getLabL [] l p = (L, n, true) ↔ rightLab L = true ∧ At (putLab L) l p n :=
 atI_at (put := putLab) (fit := fun L => rightLab L = true) (fun l x n hl => getLab_begins hl) (fun x h e => by have h1 := (putLab_short h).1; rw [e] at h1; simp at h1) hU
theorem At.nat {b l : Bs} {p n : Int} (h : At b l p n) : ∃ q : Nat, n = q := by
 obtain ⟨q, _, h2, _⟩ := h
 exact ⟨_, h2⟩
theorem At.nil {l : Bs} {p : Int} (h : ∃ q : Nat, p = q) : At [] l p p := by
 obtain ⟨q, rfl⟩ := h
 exact ⟨q, rfl, rfl, begins_nil _⟩
theorem cav_at {l : Bs} (hU : U64 l.length) {p n : Int} {c : Cav} (h : getCav l p = (c, n, true)) (hk : knownC c = true) : At (putC c) l p n := by
 unfold getCav at h
 rcases h1 : getI l p with ⟨a, q1, b1⟩
 rw [h1] at h
 simp only at h
 rcases h2 : getI l q1 with ⟨m, q2, b2⟩
 rw [h2] at h
 injection h with e1 h
 injection h with e2 e3
 simp only [Bool.and_eq_true] at e3
 obtain ⟨rfl, rfl⟩ := e3
 obtain ⟨_, a1⟩ := (getI_iff hU).1 h1
 obtain ⟨_, a2⟩ := (getI_iff hU).1 h2
 subst e1 e2
 unfold knownC at hk
 simp only [Bool.or_eq_true, decide_eq_true_eq] at hk
 have ha : u64of ((min a 3 : Nat) : Int) = a := by unfold u64of; omega
 unfold putC
 simp only
 rw [ha, At.app]
 exact ⟨_, a1, a2⟩
theorem cavs_at {l : Bs} (hU : U64 l.length) {p : Int} (hp : ∃ q : Nat, p = q) : ∀ {k : Nat} {cs : List Cav} {z : Int}, cavsAt l p k = some (cs, z) → (∀ c ∈ cs, knownC c = true) → cs.length = k ∧ At (cs.flatMap putC) l p z
 | 0, cs, z, h, _ => by
  injection h with h
  injection h with e1 e2
  subst e1 e2
  exact ⟨rfl, At.nil hp⟩
 | k + 1, cs, z, h, hk => by
  unfold cavsAt at h
  cases hc : cavsAt l p k with
  | none => rw [hc] at h; cases h
  | some x =>
   obtain ⟨ds, y⟩ := x
   rw [hc] at h
   simp only at h
   rcases hg : getCav l y with ⟨c, m, b⟩
   rw [hg] at h
   cases b with
   | false => simp at h
   | true =>
    simp only [if_true] at h
    injection h with h
    injection h with e1 e2
    subst e1 e2
    obtain ⟨h1, h2⟩ := cavs_at hU hp hc fun c hc => hk c (List.mem_append_left _ hc)
    refine ⟨by simp [h1], ?_⟩
    rw [List.flatMap_append, At.app]
    refine ⟨y, h2, ?_⟩
    have := cav_at hU hg (hk c (List.mem_append_right _ (by simp)))
    simpa using this
theorem tok_at {l : Bs} (hU : U64 l.length) {p n : Int} {t : TokQ} (h : getTok l p = (t, n, true)) : At (putTok t) l p n ∧ putTok t ≠ [] := by
 unfold getTok at h
 split at h
 ·cases h
 rename_i hno
 simp only [not_or, Bool.not_eq_false, Nat.not_lt] at hno
 obtain ⟨n1, n2, n3⟩ := hno
 rcases h1 : atI (getTextL 32) [] l p with ⟨t1, q1, b1⟩
 rw [h1] at h n1 n2 n3
 simp only at h n1 n2 n3
 subst n1
 rcases h2 : getI l q1 with ⟨k, q2, b2⟩
 rw [h2] at h n2 n3
 simp only at h n2 n3
 subst n2
 obtain ⟨_, a1⟩ := (text_iff hU).1 h1
 obtain ⟨_, a2⟩ := (getI_iff hU).1 h2
 cases hc : cavsAt l q2 k with
 | none => rw [hc] at h; cases h
 | some x =>
  obtain ⟨cs, z⟩ := x
  rw [hc] at h
  unfold tokAt at h
  simp only at h
  split at h
  ·cases h
  rename_i hne
  injection h with e1 e2
  injection e2 with e2 _
  subst e1 e2
  refine ⟨?_, hne⟩
  unfold putTok at hne ⊢
  split at hne
  ·rename_i hok
   obtain ⟨r1, r2, r3⟩ := hok
   rw [if_pos ⟨r1, r2, r3⟩]
   simp only at r1 r2 r3 ⊢
   have hkn : ∀ c ∈ cs, knownC c = true := by
    unfold fitsC at r2
    rw [Bool.and_eq_true, List.all_eq_true] at r2
    exact r2.2
   obtain ⟨hl, a3⟩ := cavs_at hU a2.nat hc hkn
   rw [hl]
   rw [At.app]
   refine ⟨q1, a1, ?_⟩
   rw [At.app]
   refine ⟨q2, a2, ?_⟩
   rw [At.app]
   refine ⟨z, a3, ?_⟩
   obtain ⟨zn, rfl⟩ := a3.nat
   have h32 : ((l.drop zn).take 32).length = 32 := r3
   show At ((l.drop zn).take 32) l (zn : Int) ((zn : Int) + 32)
   have hln : 32 ≤ (l.drop zn).length := by
    have := h32
    rw [List.length_take] at this
    omega
   refine ⟨zn, rfl, by rw [h32]; rfl, begins_take.2 ⟨by rw [h32], by rw [h32]; exact hln⟩⟩
  ·exact absurd rfl hne
theorem rdF_at {l : Bs} (hU : U64 l.length) {f : Fld} (hf : isFld f) {k q n : Int} {o : OpQ} (hq : ∃ m : Nat, q = m) (h : rdF l f k q = (o, n, true)) (hr : f.2.2.2.2.1 = true → chkX o.2.2.2.2.1 = 0) : o.1 = k ∧ At (putsOf f o) l q n := by
 have hX : ∀ x : SpQ, chkX x = 0 → putX x = putB x := fun x h => putX_ok h
 unfold rdF rdA rdT rdV rdX rdL at h
 rcases hf with rfl | rfl | rfl | rfl | rfl | rfl | rfl | rfl
 ·simp only [cond_true, cond_false, Bool.and_false] at h
  rcases h1 : getX l q with ⟨x, q1, b1⟩
  rw [h1] at h
  injection h with e1 e2
  injection e2 with e2 e3
  subst e1 e2 e3
  obtain ⟨c0, _, a1⟩ := (getX_iff hU).1 h1
  refine ⟨rfl, ?_⟩
  simp only [putsOf, cond_true, cond_false, List.nil_append, List.append_nil]
  rw [hX _ c0]
  exact a1
 ·simp only [cond_true, cond_false, Bool.and_false] at h
  rcases h1 : getI l q with ⟨x, q1, b1⟩
  rw [h1] at h
  injection h with e1 e2
  injection e2 with e2 e3
  subst e1 e2 e3
  refine ⟨rfl, ?_⟩
  simp only [putsOf, cond_true, cond_false, List.append_nil]
  exact ((getI_iff hU).1 h1).2
 ·simp only [cond_true, cond_false, Bool.and_true, Bool.and_false] at h
  rcases h1 : atI (getTextL 98) [] l q with ⟨t, q1, b1⟩
  rw [h1] at h
  simp only at h
  cases b1 with
  | false => simp at h
  | true =>
   simp only [cond_true] at h
   rcases h2 : getV l q1 with ⟨d, q2, b2⟩
   rw [h2] at h
   injection h with e1 e2
   injection e2 with e2 e3
   subst e1 e2 e3
   refine ⟨rfl, ?_⟩
   simp only [putsOf, cond_true, cond_false, List.nil_append, List.append_nil]
   rw [At.app]
   exact ⟨_, ((text_iff hU).1 h1).2, ((getV_iff hU).1 h2).2⟩
 ·simp only [cond_true, cond_false, Bool.and_false] at h
  rcases h1 : getI l q with ⟨x, q1, b1⟩
  rw [h1] at h
  injection h with e1 e2
  injection e2 with e2 e3
  subst e1 e2 e3
  refine ⟨rfl, ?_⟩
  simp only [putsOf, cond_true, cond_false, List.nil_append, List.append_nil]
  exact ((getI_iff hU).1 h1).2
 ·simp only [cond_true, cond_false, Bool.and_false] at h
  rcases h1 : atI (getTextL 98) [] l q with ⟨t, q1, b1⟩
  rw [h1] at h
  injection h with e1 e2
  injection e2 with e2 e3
  subst e1 e2 e3
  refine ⟨rfl, ?_⟩
  simp only [putsOf, cond_true, cond_false, List.nil_append, List.append_nil]
  exact ((text_iff hU).1 h1).2
 ·simp only [cond_true, cond_false, Bool.and_true, Bool.and_false] at h
  rcases h1 : getV l q with ⟨d, q1, b1⟩
  rw [h1] at h
  injection h with e1 e2
  injection e2 with e2 e3
  subst e1 e2 e3
  refine ⟨rfl, ?_⟩
  simp only [putsOf, cond_true, cond_false, List.nil_append, List.append_nil]
  exact ((getV_iff hU).1 h1).2
 ·simp only [cond_true, cond_false, Bool.and_true] at h
  rcases h1 : atI (getTextL 98) [] l q with ⟨t, q1, b1⟩
  rw [h1] at h
  simp only at h
  cases b1 with
  | false => simp at h
  | true =>
   simp only [cond_true] at h
   rcases h2 : getV l q1 with ⟨d, q2, b2⟩
   rw [h2] at h
   simp only at h
   cases b2 with
   | false => simp at h
   | true =>
    simp only [cond_true] at h
    rcases h3 : atI getLabL [] l q2 with ⟨L, q3, b3⟩
    rw [h3] at h
    injection h with e1 e2
    injection e2 with e2 e3
    subst e1 e2 e3
    refine ⟨rfl, ?_⟩
    simp only [putsOf, cond_true, cond_false, List.nil_append]
    rw [At.app]
    refine ⟨_, ((text_iff hU).1 h1).2, ?_⟩
    rw [At.app]
    have hL : labL (L.map unP) = L := by
     unfold labL
     rw [List.map_map]
     conv => rhs; rw [← List.map_id L]
     refine List.map_congr_left fun x _ => ?_
     simp [unP, pL]
    rw [hL]
    exact ⟨_, ((getV_iff hU).1 h2).2, ((lab_iff hU).1 h3).2⟩
 ·simp only [cond_false, Bool.and_false] at h
  injection h with e1 e2
  injection e2 with e2 e3
  subst e1 e2
  refine ⟨rfl, ?_⟩
  simp only [putsOf, cond_false, List.nil_append]
  exact At.nil hq
theorem op_at {l : Bs} (hU : U64 l.length) {p n : Int} {o : OpQ} (h : getO l p = (o, n, true)) : At (putO o) l p n ∧ rightO o = true ∧ putO o ≠ [] := by
 unfold getO at h
 split at h
 ·cases h
 rename_i hno
 simp only [not_or, Bool.not_eq_false, Nat.not_lt] at hno
 obtain ⟨n1, n2⟩ := hno
 rcases h1 : getI l p with ⟨k, q, b⟩
 rw [h1] at h n1 n2
 simp only at h n1 n2
 subst n1
 obtain ⟨_, a1⟩ := (getI_iff hU).1 h1
 unfold finO at h
 split at h
 ·rename_i hok
  rw [h] at hok
  have hr : rightO o = true := hok.2
  have hfl : isFld ((knownF ((k : Nat) : Int)).getD noFld) := by
   cases hk : knownF ((k : Nat) : Int) with
   | none => exact Or.inr (Or.inr (Or.inr (Or.inr (Or.inr (Or.inr (Or.inr rfl))))))
   | some f => exact knownF_is hk
  have hk0 : o.1 = (k : Int) := by
   have := congrArg (fun x : OpQ × Int × Bool => x.1.1) h
   exact this.symm
  have hx : ((knownF ((k : Nat) : Int)).getD noFld).2.2.2.2.1 = true → chkX o.2.2.2.2.1 = 0 := fun hf => by
   unfold rightO at hr
   rw [hk0] at hr
   cases hk : knownF ((k : Nat) : Int) with
   | none => rw [hk] at hr; cases hr
   | some f =>
    rw [hk] at hr hf
    simp only [Bool.and_eq_true, Bool.or_eq_true, decide_eq_true_eq] at hr
    have hf : f.2.2.2.2.1 = true := hf
    rw [hf] at hr
    simpa using hr.2.1
  obtain ⟨_, a2⟩ := rdF_at hU hfl a1.nat h hx
  have hp : putO o = putL k ++ putsOf ((knownF ((k : Nat) : Int)).getD noFld) o := by
   unfold putO
   rw [if_pos hr, hk0]
   rfl
  refine ⟨?_, hr, ?_⟩
  ·rw [hp, At.app]
   exact ⟨q, a1, a2⟩
  ·rw [hp]
   intro e
   exact putL_ne k (List.append_eq_nil_iff.1 e).1
 ·cases h
theorem open_put {l : Bs} (hU : U64 l.length) {t : TokQ} {o : OpQ} (h : openG l = (t, o, true)) : putG t o = l ∧ rightO o = true := by
 unfold openG at h
 rcases h1 : getTok l 0 with ⟨t1, q, b⟩
 rw [h1] at h
 simp only at h
 cases b with
 | false => rw [if_pos rfl] at h; cases h
 | true =>
  rw [if_neg (by simp)] at h
  rcases h2 : getO l q with ⟨o1, n, b2⟩
  rw [h2] at h
  simp only at h
  split at h
  ·cases h
  rename_i hno
  simp only [not_or, Bool.not_eq_false, Decidable.not_not] at hno
  obtain ⟨rfl, rfl⟩ := hno
  injection h with e1 e2
  injection e2 with e2 _
  subst e1 e2
  obtain ⟨a1, ne1⟩ := tok_at hU h1
  obtain ⟨a2, hr, ne2⟩ := op_at hU h2
  refine ⟨?_, hr⟩
  have a3 : At (putTok t1 ++ putO o1) l 0 (l.length : Int) := At.app.2 ⟨_, a1, a2⟩
  obtain ⟨z, hz, hn, hb⟩ := a3
  obtain rfl : z = 0 := by omega
  have hlen : (putTok t1 ++ putO o1).length = l.length := by omega
  unfold putG
  rw [if_neg (by rw [not_or]; exact ⟨ne1, ne2⟩)]
  rw [List.drop_zero] at hb
  obtain ⟨r, hr2⟩ := hb
  have : r = [] := by
   have := congrArg List.length hr2
   rw [List.length_append, hlen] at this
   exact List.length_eq_zero_iff.1 (by omega)
  rw [this, List.append_nil] at hr2
  exact hr2
theorem open_none {l : Bs} (h : (openG l).2.2 = false) : openG l = noG := by
 unfold openG at *
 split at h
 ·rename_i h1; rw [if_pos h1]
 ·rename_i h1
  rw [if_neg h1]
  split at h
  ·rename_i h2; rw [if_pos h2]
  ·cases h
end Go.Dm

namespace Go.Dm
open Go Go.RowKit
def mintC (c : Cav) : Cav := (1 + (c.2 : Int) % 2, c.2)
def mintL (l : List Cav) : List Cav := (l.take 7).map mintC
def mintT (key : Bs) (l : List Cav) : TokQ := (⟨#[97]⟩, mintL l, ⟨(narrowB (signB key [97]) (mintL l)).toArray⟩)
theorem mintL_len (l : List Cav) : (mintL l).length ≤ 7 ∧ (mintL l).length ≤ l.length := by unfold mintL; rw [List.length_map, List.length_take]; omega
theorem mintL_get (l : List Cav) {k : Nat} (h : k < l.length) (h7 : k < 7) : k < (mintL l).length ∧ (mintL l).getD k (0, 0) = mintC (l.getD k (0, 0)) := by
  have hl : k < (mintL l).length := by unfold mintL; rw [List.length_map, List.length_take]; omega
  refine ⟨hl, ?_⟩
  rw [List.getD_eq_getElem?_getD, List.getElem?_eq_getElem hl, List.getD_eq_getElem?_getD, List.getElem?_eq_getElem h]
  simp [mintL]
theorem mintL_u64 {l : List Cav} (h : ∀ c ∈ l, U64 c.2) : ∀ c ∈ mintL l, U64 c.2 := by
  intro c hc
  unfold mintL at hc
  obtain ⟨x, hx, rfl⟩ := List.mem_map.1 hc
  exact h x (List.mem_of_mem_take hx)
theorem narrowB_len {s : Bs} (h : s.length = 32) : ∀ (l : List Cav), (narrowB s l).length = 32
  | [] => h
  | _ :: l => narrowB_len (signB_len _ _) l
theorem mintT_ok {key : Bs} {l : List Cav} (h : ∀ c ∈ l, U64 c.2) : OkT (mintT key l) := by
  have h1 := (mintL_len l).1
  refine ⟨by show (1 : Nat) ≤ _; omega, ?_, by show (mintL l).length ≤ _; omega, mintL_u64 h⟩
  show (narrowB _ _).toArray.size ≤ _
  rw [List.size_toArray, narrowB_len (signB_len _ _)]; omega
theorem Sl.off0 {w w' : World} {b sz n : Nat} {v : Value} {cs : List Value} (h : Sl w sz v n cs) (ho : Off b w w') (ha : n = 0 ∨ ∀ c, v.ownBlock = some c → c ≠ b) : Sl w' sz v n cs := by
  rcases ha with h0 | ha
  · obtain ⟨hl, p, cap, hv, hn, hm, hz, _⟩ := h
    exact ⟨hl, p, cap, hv, hn, hm, hz, Or.inl h0⟩
  · exact Sl.off h ho ha
theorem take_one {l : List Cav} {k : Nat} (h : k < l.length) : l.take (k + 1) = l.take k ++ [l.getD k (0, 0)] := by
  rw [List.take_add_one, List.getElem?_eq_getElem h, List.getD_eq_getElem?_getD, List.getElem?_eq_getElem h]; rfl
end Go.Dm
namespace Go.Proofs.YtefjdmjkofaajaaGreatDoor
open Go.RowKit Go.Dm

set_option maxHeartbeats 4000000 in
set_option maxRecDepth 100000 in
theorem minted_w (key : ByteArray) (v : Value) (L : List Cav) (w : World) (hk : key.size ≤ 281474976710656) (hx : Cavs w v L) (hU : ∀ c ∈ L, U64 c.2) (hv : ShaV w) :
    Calls Tryz.prog 24 #[.string key, v] w fun e w' => ∃ T, e = .returned T ∧ TokAt w' T (mintT key.data.toList L) ∧ Ext w w' := by
  have hok := mintT_ok (key := key.data.toList) hU
  obtain ⟨q, cap, rfl, hlc, hcm⟩ := hx.shape
  have hlm : L.length ≤ maxLen := by omega
  unfold maxLen at hlm
  have CW := fun U (h : Ext w U) => new_w key ⟨#[97]⟩ U hk (by show (1 : Nat) ≤ _; omega) (hv.ext h)
  have e97 : (⟨#[97]⟩ : ByteArray).data.toList = [97] := rfl
  rw [e97] at CW
  obtain ⟨S0, hS0⟩ : ∃ s : ByteArray, s = ⟨(signB key.data.toList [97]).toArray⟩ := ⟨_, rfl⟩
  rw [← hS0] at CW
  have hS0d : S0.data.toList = signB key.data.toList [97] := by rw [hS0]
  have hS0l : S0.data.toList.length = 32 := by rw [hS0d]; exact signB_len _ _
  have hT : mintT key.data.toList L = (⟨#[97]⟩, mintL L, ⟨(narrowB S0.data.toList (mintL L)).toArray⟩) := by rw [hS0d]; rfl
  rw [hT] at hok ⊢
  clear hT hS0 hS0d
  have hML := mintL_len L
  have hMg : ∀ k : Nat, k < L.length → k < 7 → k < (mintL L).length ∧ (mintL L).getD k (0, 0) = mintC (L.getD k (0, 0)) := fun k => mintL_get L (k := k)
  have hMu := mintL_u64 hU
  generalize mintL L = M at *
  have hA : CB w.heap.size [.string ⟨#[]⟩, .slice none 0 0, .string ⟨#[]⟩] (w.alloc (.cells #[.string ⟨#[]⟩, .slice none 0 0, .string ⟨#[]⟩] 24)) := CB.new w #[.string ⟨#[]⟩, .slice none 0 0, .string ⟨#[]⟩] 24
  have hE : Ext w (w.alloc (.cells #[.string ⟨#[]⟩, .slice none 0 0, .string ⟨#[]⟩] 24)) := (Ext.refl _).alloc _
  generalize hW1 : w.alloc (.cells #[.string ⟨#[]⟩, .slice none 0 0, .string ⟨#[]⟩] 24) = w1 at *
  obtain ⟨bA, hbA⟩ : ∃ x, w.heap.size = x := ⟨_, rfl⟩
  have hwA : w.heap.size ≤ bA := by omega
  rw [hbA] at hA
  replace CW := Lib.hid CW
  replace hok := Lib.hid hok
  replace hMg := Lib.hid hMg
  go_enter Tryz.func24, Tryz.ntmps24
  go_upto_region 1 with fail
  clear hW1 hbA
  go_wp2_with fail
  refine (CW.out _ hE).mono ?_; rintro e_ w2 ⟨rfl, h2⟩
  replace hA := hA.ext h2
  replace hE := hE.trans h2
  clear h2
  have hB : CB w2.heap.size [.string ⟨#[97]⟩, .slice none 0 0, .string S0] (w2.alloc (.cells #[.string ⟨#[97]⟩, .slice none 0 0, .string S0] 24)) := CB.new w2 #[.string ⟨#[97]⟩, .slice none 0 0, .string S0] 24
  have e3 : Ext w2 (w2.alloc (.cells #[.string ⟨#[97]⟩, .slice none 0 0, .string S0] 24)) := (Ext.refl _).alloc _
  have hAB : bA < w2.heap.size := hA.lt
  go_upto_region 2 with fail
  replace hA := hA.ext e3
  replace hE := hE.trans e3
  have hbs : w2.heap.size + 1 ≤ (w2.alloc (.cells #[.string ⟨#[97]⟩, .slice none 0 0, .string S0] 24)).heap.size := hB.lt
  generalize w2.alloc (.cells #[.string ⟨#[97]⟩, .slice none 0 0, .string S0] 24) = w3 at *
  generalize w2.heap.size = bB at *
  clear e3
  have hS32 : S0.size = 32 := hS0l
  clear e97 hS0l
  go_wp2
  go_loopw [6] (fun i wr => ∃ (k : Nat) (s : ByteArray) (tv : Value), k ≤ M.length ∧ i = .int .i64 k ∧ Ext w wr ∧ s.size = 32 ∧ Hid (s.data.toList = narrowB S0.data.toList (M.take k)) ∧ CB bB [.string ⟨#[97]⟩, tv, .string s] wr ∧ CB bA [.string ⟨#[]⟩, .slice none 0 0, .string ⟨#[]⟩] wr ∧ Cavs wr tv (M.take k) ∧ (∀ c, tv.ownBlock = some c → bB + 1 ≤ c) ∧ bB + 1 ≤ wr.heap.size) (fun i _ => M.length - (intOf i).toNat)
  case atStart => exact ⟨0, S0, .slice none 0 0, by omega, rfl, hE, hS32, by rw [List.take_zero]; rfl, hB, hA, Sl.nil _ _, (fun c h => by cases h), hbs⟩
  case round =>
    obtain ⟨k, s, tv, hk7, rfl, g1, gs, g3, g4, g5, g6, g7, g8⟩ := hrel
    obtain ⟨qt, ct, rfl, _, _⟩ := g6.shape
    have htk : (M.take k).length = k := by rw [List.length_take]; omega
    rw [htk] at g4 g6 g7
    by_cases hlt : k < L.length ∧ k < 7
    · obtain ⟨hlt, h7⟩ := hlt
      obtain ⟨hkM, hgM⟩ := hMg.out k hlt h7
      obtain ⟨b, off, rfl, hbl, c0, c1⟩ := (hx.ext g1).at hlt
      have hcU := hU _ (show L.getD k (0, 0) ∈ L by rw [List.getD_eq_getElem?_getD, List.getElem?_eq_getElem hlt]; exact List.getElem_mem hlt)
      have hst : narrowB S0.data.toList (M.take (k + 1)) = signB s.data.toList (putC (mintC (L.getD k (0, 0)))) := by rw [narrowB_snoc hkM, g3.out, hgM]
      have hta : M.take (k + 1) = M.take k ++ [mintC (L.getD k (0, 0))] := by rw [take_one hkM, hgM]
      clear hgM
      generalize L.getD k (0, 0) = c at *
      obtain ⟨ck, cn⟩ := c
      simp only at c0 c1 hcU
      have CN := fun U (h : Ext w U) (h2 : Cavs U (.slice qt k ct) (M.take k)) => narrowO_w ⟨#[97]⟩ s (.slice qt k ct) (M.take k) (mintC (ck, cn)) U h2 hcU (by rw [htk]; omega) (by omega) (hv.ext h)
      rw [← hst, ← hta] at CN
      unfold mintC at CN
      simp only at CN
      have hsl : (⟨(narrowB S0.data.toList (M.take (k + 1))).toArray⟩ : ByteArray).size = 32 := by
        rw [hst]
        show (signB _ _).toArray.size = _
        rw [List.size_toArray, signB_len]
      obtain ⟨s', hs'⟩ : ∃ s' : ByteArray, s' = ⟨(narrowB S0.data.toList (M.take (k + 1))).toArray⟩ := ⟨_, rfl⟩
      rw [← hs'] at CN hsl
      replace hs' := Lib.hid hs'
      replace CN := Lib.hid CN
      clear hst hta
      have hN : CB wr.heap.size [.int .i64 ck, .int .u64 (cn : Nat)] (wr.alloc (.cells #[.int .i64 ck, .int .u64 (cn : Nat)] 38)) := CB.new wr #[.int .i64 ck, .int .u64 (cn : Nat)] 38
      have e6 : Ext wr (wr.alloc (.cells #[.int .i64 ck, .int .u64 (cn : Nat)] 38)) := (Ext.refl _).alloc _
      go_upto_region 6 with fail
      have hgt0 : (M.take k).length = 0 ∨ ∀ c, (Value.slice qt k ct).ownBlock = some c → c ≠ wr.heap.size := by
        rcases Nat.eq_zero_or_pos k with h0 | h0
        · exact Or.inl (by omega)
        · exact Or.inr fun c hc => by have := Sl.own_lt g6 (by omega) hc; omega
      replace g1 := g1.trans e6
      replace g4 := g4.ext e6
      replace g5 := g5.ext e6
      replace g6 := Sl.ext g6 e6
      have g8' : bB + 1 ≤ (wr.alloc (.cells #[.int .i64 ck, .int .u64 (cn : Nat)] 38)).heap.size := Nat.le_trans g8 e6.size
      clear c0 c1 hbl e6
      generalize wr.alloc (.cells #[.int .i64 ck, .int .u64 (cn : Nat)] 38) = w6 at *
      have hnB : wr.heap.size ≠ bB := by omega
      have hgt : (M.take k).length = 0 ∨ ∀ c, (Value.slice qt k ct).ownBlock = some c → c ≠ wr.heap.size := hgt0
      clear hgt0
      have hwn : w.heap.size ≤ wr.heap.size := by omega
      generalize wr.heap.size = bn at *
      have yl := hN.lt
      have y0 := hN.cell 0 (by simp)
      have y1 := hN.cell 1 (by simp)
      have yf0 := hN.free 0 (by simp)
      go_upto_region 7 with fail
      clear yl y0 y1 yf0
      have hN7 : CB bn [.int .i64 (1 + (cn : Int) % 2), .int .u64 (cn : Nat)] (w6.setCell ⟨bn, 0, none⟩ (.int .i64 (1 + (cn : Int) % 2))) := hN.set 0 (.int .i64 (1 + (cn : Int) % 2)) (by simp)
      have g17 : Ext w (w6.setCell ⟨bn, 0, none⟩ (.int .i64 (1 + (cn : Int) % 2))) := Below.setCell g1 hwn _
      have g47 := g4.far (c := bn) (i := 0) hnB (.int .i64 (1 + (cn : Int) % 2))
      have g57 := g5.far (c := bn) (i := 0) (by omega) (.int .i64 (1 + (cn : Int) % 2))
      have g67 : Cavs (w6.setCell ⟨bn, 0, none⟩ (.int .i64 (1 + (cn : Int) % 2))) (.slice qt k ct) (M.take k) := Sl.off0 g6 ((Off.refl bn w6).setCell 0 _) hgt
      clear hN g1 g4 g5 g6
      have g8'' : bB + 1 ≤ (w6.setCell ⟨bn, 0, none⟩ (.int .i64 (1 + (cn : Int) % 2))).heap.size := by rw [World.size_setCell]; exact g8'
      clear g8'
      generalize w6.setCell ⟨bn, 0, none⟩ (.int .i64 (1 + (cn : Int) % 2)) = w7 at *
      have yl := hN7.lt
      have y0 := hN7.cell 0 (by simp)
      have y1 := hN7.cell 1 (by simp)
      obtain ⟨xl, x0, x1, x2, xf0, xf1, xf2⟩ := g47.cells3
      go_wp2_with fail
      refine (CN.out _ g17 g67).mono ?_; rintro e_ w8 ⟨r, rfl, hr, hro, h8⟩
      obtain ⟨qr, cr, rfl, _, _⟩ := hr.shape
      have htk1 : (M.take (k + 1)).length = k + 1 := by rw [List.length_take]; omega
      rw [htk1] at hr hro
      have hr' := hr
      clear xl x0 x1 x2 xf0 xf1 xf2 yl y0 y1
      have m1 := g17.trans h8
      have m4 := g47.ext h8
      have m5 := g57.ext h8
      have m8 : bB + 1 ≤ w8.heap.size := Nat.le_trans g8'' h8.size
      obtain ⟨xl, x0, x1, x2, xf0, xf1, xf2⟩ := m4.cells3
      go_wp2
      clear xl x0 x1 x2 xf0 xf1 xf2
      go_roundw
      case rel =>
        refine ⟨k + 1, s', .slice qr (k + 1) cr, by omega, by go_num, Ext.cput3 m1 (by omega) _ _ _, hsl, by rw [hs'.out]; rfl, m4.put3 _ _ _, ((m5.far (c := bB) (i := 0) (by omega) _).far (c := bB) (i := 1) (by omega) _).far (c := bB) (i := 2) (by omega) _, ?_, fun c hc => by have := hro c hc; omega, by rw [World.size_setCell, World.size_setCell, World.size_setCell]; exact m8⟩
        have hr2 : Cavs w8 (.slice qr (k + 1) cr) (M.take (k + 1)) := hr'
        exact Sl.off hr2 ((((Off.refl bB w8).setCell 0 _).setCell 1 _).setCell 2 _) (fun c hc => by have := hro c hc; omega)
      case measure => simp [intOf]; omega
    · have hkM : k = M.length := by have := hML.1; have := hML.2; have : ¬ k < L.length ∨ ¬ k < 7 := by (by_cases h : k < L.length; exact Or.inr fun h2 => hlt ⟨h, h2⟩; exact Or.inl h)
                                    omega
      have hfin : Hid (s = ⟨(narrowB S0.data.toList M).toArray⟩) := mk_bytes (by rw [g3.out, hkM, List.take_length])
      have hMt : M.take k = M := by rw [hkM, List.take_length]
      have g6' : Cavs wr (.slice qt k ct) M := by rw [hMt] at g6; exact g6
      clear g6 hMt g3 hkM
      obtain ⟨xl, x0, x1, x2, xf0, xf1, xf2⟩ := g4.cells3
      obtain ⟨yl, y0, y1, y2, yf0, yf1, yf2⟩ := g5.cells3
      have hz := g5.put3 (.string ⟨#[97]⟩) (.slice qt k ct) (.string s)
      have hE9 := Ext.cput3 g1 hwA (.string ⟨#[97]⟩) (.slice qt k ct) (.string s)
      have hC9 : Cavs (((wr.setCell ⟨bA, 0, none⟩ (.string ⟨#[97]⟩)).setCell ⟨bA, 1, none⟩ (.slice qt k ct)).setCell ⟨bA, 2, none⟩ (.string s)) (.slice qt k ct) M := Sl.off g6' ((((Off.refl bA wr).setCell 0 _).setCell 1 _).setCell 2 _) (fun c hc => by have := g7 c hc; omega)
      obtain ⟨_, k0, k1, k2, _, _, _⟩ := hz.cells3
      by_cases hlt1 : k < L.length
      · have h7 : ¬ k < 7 := fun h => hlt ⟨hlt1, h⟩
        go_wp2
        refine bodyPost_ret (v := .agg #[.string ⟨#[97]⟩, .slice qt k ct, .string s]) (by simp [results, Tryz.results24, go_sem, k0, k1, k2]) rfl ?_
        exact ⟨_, rfl, ⟨.slice qt k ct, by rw [← hfin.out], hC9, hok.out⟩, hE9⟩
      · go_wp2
        refine bodyPost_ret (v := .agg #[.string ⟨#[97]⟩, .slice qt k ct, .string s]) (by simp [results, Tryz.results24, go_sem, k0, k1, k2]) rfl ?_
        exact ⟨_, rfl, ⟨.slice qt k ct, by rw [← hfin.out], hC9, hok.out⟩, hE9⟩
end Go.Proofs.YtefjdmjkofaajaaGreatDoor

namespace Go.Dm
open Go Go.RowKit
def keyE : Bs := [107, 101, 121]
def kezE : Bs := [107, 101, 122]
def s0L : Bs := [120, 12, 61, 180, 206, 61, 229, 185, 229, 88, 22, 251, 169, 143, 89, 6, 49, 217, 108, 7, 82, 113, 178, 105, 118, 35, 141, 95, 68, 68, 33, 155]
def n1L : Bs := [211, 212, 146, 197, 7, 159, 194, 24, 41, 101, 11, 3, 217, 55, 120, 14, 139, 166, 211, 41, 55, 103, 93, 49, 75, 182, 138, 150, 13, 220, 59, 95]
def oE : OpQ := (4, (7, 0), ⟨#[]⟩, noV, noSp, [])
def tE : TokQ := (⟨#[97]⟩, [], ⟨s0L.toArray⟩)
def nE : TokQ := (⟨#[97]⟩, [(1, 2)], ⟨n1L.toArray⟩)
def uE : TokQ := (⟨#[97]⟩, [(2, 9)], ⟨(signB s0L (putC (2, 9))).toArray⟩)
set_option maxRecDepth 100000 in
theorem s0_eq : signB keyE [97] = s0L := by decide +kernel
set_option maxRecDepth 100000 in
theorem kez_eq : signB kezE [97] = [45, 80, 21, 242, 202, 114, 71, 205, 9, 151, 121, 172, 124, 93, 172, 135, 143, 98, 134, 14, 240, 254, 182, 206, 29, 136, 8, 68, 248, 238, 60, 136] := by decide +kernel
theorem kez_ne : signB kezE [97] ≠ s0L := by rw [kez_eq]; decide +kernel
theorem putC_12 : putC (1, 2) = [1, 2] := by decide +kernel
set_option maxRecDepth 100000 in
theorem n1_eq : signB s0L (putC (1, 2)) = n1L := by rw [putC_12]; decide +kernel
set_option maxRecDepth 100000 in
theorem open_n : openG (putG nE oE) = (nE, oE, true) := by kernel_rfl
set_option maxRecDepth 100000 in
theorem open_no : openG (putG nE oE ++ [0]) = noG := by kernel_rfl
theorem put_none : putG noTok.1 oE = [] := by decide +kernel
theorem put_len : (putG nE oE).length ≤ 1000 := by decide +kernel
theorem checkT_eq (key : Bs) (tn : Bs) (L : List Cav) (sg : Bs) : checkT key (⟨tn.toArray⟩, L, ⟨sg.toArray⟩) = (fitsC L && decide (narrowB (signB key tn) L = sg)) := by
 unfold checkT
 simp
theorem narrow_nil (s : Bs) : narrowB s [] = s := rfl
theorem narrow_one (s : Bs) (c : Cav) : narrowB s [c] = signB s (putC c) := rfl
theorem check_t : checkT keyE tE = true := by
 rw [show tE = (⟨[97].toArray⟩, [], ⟨s0L.toArray⟩) from rfl, checkT_eq, narrow_nil, s0_eq, decide_eq_true rfl]
 decide +kernel
theorem check_z : checkT kezE tE = false := by
 rw [show tE = (⟨[97].toArray⟩, [], ⟨s0L.toArray⟩) from rfl, checkT_eq, narrow_nil, decide_eq_false kez_ne, Bool.and_false]
theorem check_n : checkT keyE nE = true := by
 rw [show nE = (⟨[97].toArray⟩, [(1, 2)], ⟨n1L.toArray⟩) from rfl, checkT_eq, narrow_one, s0_eq, n1_eq, decide_eq_true rfl]
 decide +kernel
theorem check_u : checkT keyE uE = true := by
 rw [show uE = (⟨[97].toArray⟩, [(2, 9)], ⟨(signB s0L (putC (2, 9))).toArray⟩) from rfl, checkT_eq, narrow_one, s0_eq, decide_eq_true rfl]
 decide +kernel
theorem al_t : allowG keyE tE oE 9 = 0 := by
 unfold allowG; rw [check_t]; decide +kernel
theorem al_z : allowG kezE tE oE 9 = 13 := by
 unfold allowG; rw [check_z]; rfl
theorem al_n : allowG keyE nE oE 9 = 0 := by
 unfold allowG; rw [check_n]; decide +kernel
theorem al_n2 : allowG keyE nE (opQ0 2) 9 = 14 := by
 unfold allowG; rw [check_n]; decide +kernel
theorem allow_uE (r : Nat) (o : OpQ) : allowG keyE uE o r = if needsK o.1 = 0 ∨ allowC [(2, 9)] (needsK o.1) r = false then 14 else 0 := by
 unfold allowG; rw [check_u]; rfl
theorem al_u : allowG keyE uE oE 9 = 0 := by rw [allow_uE]; decide +kernel
theorem al_u10 : allowG keyE uE oE 10 = 14 := by rw [allow_uE]; decide +kernel
theorem al_r : allowG keyE tE (opQ0 9) 0 = 14 := by
 unfold allowG; rw [check_t]; decide +kernel
end Go.Dm
