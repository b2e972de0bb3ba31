/- Texts one behind the other: Chapter 18: the walk of Get; Chapter 19: the walk of Needs; Chapter 19: tokens and ops among the values; the walk of Put. -/
import Derived.Test.YtefjdmjkofaajaaGreatDoorB27
import Derived.Test.YtefjdmjkofaajaaGreatDoorB23
import Derived.Test.YtefjdmjkofaajaaGreatDoorB29
namespace Go.Dm
open Go Go.RowKit
theorem wpList_load_row_g {P : Program} {ops : Array Oper} {rest : List Oper} {o : Oper} {a : Act} {w : World} {Q : Exit → Act → World → Prop} (hgd : Region.wanted o (yielded ops a.tmps) = true) (ty : TypeId) (x : Operand) (ho : o.op = .load ty x)
  (g : Nat) (hx : a.eval x = .pointer (some ⟨g, 0, none⟩)) (t : TypeId) (cs : Array Value) (fr : Nat × Nat) (d : TypeDesc) (hg : w.heap[g]? = some (.cells cs t fr))
  (hu : P.underlying ty = some d) (hd : (match d with | .struct _ | .array _ _ => true | _ => false) = true) (hi : (P.info? ty).map (·.size) = some cs.size)
  (h : wpList P ops Q rest (a.put o.dst (.agg cs)) w) : wpList P ops Q (o :: rest) a w :=
 BigFrame.wpList_want hgd fun _ hK => wp_load_row ty x ho g hx t cs fr d hg hu hd hi (hK _ _ h)
theorem u64_zero : U64 0 := by show (0 : Nat) < _; decide
theorem GotO.no (B : Nat) (w : World) (s : OpQ × Int × Bool) (h : s.2.2 = true ∧ rightO s.1 = true → False) : GotO B w (finO s) (.returned (.tuple #[.agg #[.int .i64 0, .int .u64 0, .int .u64 0, .string ⟨#[]⟩, .int .u64 0, .int .u64 0, .int .u64 0, .int .u64 0, .string ⟨#[]⟩, .int .u64 0, .int .u64 0, .int .u64 0, .int .u64 0, .int .i64 0, .int .i64 0, .int .i64 0, .slice none 0 0, .slice none 0 0], .int .i64 0, .bool false])) := by
 rw [show finO s = noO by unfold finO; rw [if_neg h]]
 exact ⟨.slice none 0 0, .slice none 0 0, [], rfl, Terms.nil w, (fun r hr => by cases hr), by simp, rfl, Pairs.nil w, OkO.zero, OwnT.nil B, fun c h => by cases h⟩
abbrev zOp : List Value := [.int .i64 0, .int .u64 0, .int .u64 0, .string ⟨#[]⟩, .int .u64 0, .int .u64 0, .int .u64 0, .int .u64 0, .string ⟨#[]⟩, .int .u64 0, .int .u64 0, .int .u64 0, .int .u64 0, .int .i64 0, .int .i64 0, .int .i64 0, .slice none 0 0, .slice none 0 0]
theorem Off.trans {b : Nat} {w0 w w1 : World} (h : Off b w0 w) (k : Off b w w1) : Off b w0 w1 := ⟨Nat.le_trans h.1 k.1, fun c hc => (k.2 c hc).trans (h.2 c hc)⟩
theorem RB.at {b : Nat} {t : TypeId} {cs : List Value} {w : World} (h : RB b t cs w) (i : Nat) {u : Value} (e : cs[i]? = some u) : w.cell? ⟨b, i, none⟩ = some u := (h.cell i).trans e
theorem set_cells : ∀ (us : List (Nat × Value)) {b c : Nat} {t t2 : TypeId} {cs ds : List Value} {w0 w : World}, RB b t cs w → RB c t2 ds w → b ≠ c → Ext w0 w → w0.heap.size ≤ b →
  ∃ w', us.foldl (fun w u => w.setCell ⟨b, u.1, none⟩ u.2) w = w' ∧ RB b t (us.foldl (fun l u => l.set u.1 u.2) cs) w' ∧ RB c t2 ds w' ∧ Ext w0 w' ∧ Off b w w'
 | [], _, _, _, _, _, _, _, w, h, k, _, e, _ => ⟨w, rfl, h, k, e, Off.refl _ w⟩
 | u :: us, b, c, t, t2, cs, ds, w0, w, h, k, n, e, l => by
  obtain ⟨w', h1, h2, h3, h4, h5⟩ := set_cells us (h.set u.1 u.2) (k.far n u.2) n (Below.setCell e (p := ⟨b, u.1, none⟩) l u.2) l
  exact ⟨w', h1, h2, h3, h4, ((Off.refl b w).setCell u.1 u.2).trans h5⟩
theorem RB.six {b : Nat} {t : TypeId} {v0 v1 v2 v3 v4 v5 : Value} {w : World} (h : RB b t [v0, v1, v2, v3, v4, v5] w) : b < w.heap.size ∧ w.cell? ⟨b, 0, none⟩ = some v0 ∧ w.cell? ⟨b, 1, none⟩ = some v1 ∧ w.cell? ⟨b, 2, none⟩ = some v2 ∧ w.cell? ⟨b, 3, none⟩ = some v3 ∧ w.cell? ⟨b, 4, none⟩ = some v4 ∧ w.cell? ⟨b, 5, none⟩ = some v5 :=
 ⟨h.lt, h.cell 0, h.cell 1, h.cell 2, h.cell 3, h.cell 4, h.cell 5⟩
end Go.Dm
namespace Go.Proofs.YtefjdmjkofaajaaGreatDoor
open Go.RowKit Go.Dm

set_option maxHeartbeats 4000000 in
set_option maxRecDepth 100000 in
theorem aget_no (s : ByteArray) (p : Int) (w : World) (hs : s.size ≤ 281474976710656) (hno : (getI s.data.toList p).2.2 = false ∨ 13 < (getI s.data.toList p).1) :
  Calls Tryz.prog 40 #[.string s, .int .i64 p] w fun e_ w' => GotO w.heap.size w' noO e_ ∧ Ext w w' := by
 have hG := fun U => GotO.no w.heap.size U (((0, (0, 0), ⟨#[]⟩, noV, noSp, []), 0, false) : OpQ × Int × Bool) (fun h => by cases h.1)
 have hF : finO (((0, (0, 0), ⟨#[]⟩, noV, noSp, []), 0, false) : OpQ × Int × Bool) = noO := rfl
 rw [hF] at hG
 clear hF
 have C1 := fun U => wget_w s p U hs
 have hkf := getI_fit (l := s.data.toList) (p := p) hs
 obtain ⟨⟨k, q, b⟩, hr⟩ : ∃ r, getI s.data.toList p = r := ⟨_, rfl⟩
 rw [hr] at C1 hno hkf
 simp only at C1 hno hkf
 clear hr
 generalize noO = G at *
 replace hG := Lib.hid hG
 replace C1 := Lib.hid C1
 obtain ⟨w1, hW1, hA, hE, -⟩ := new_row w 33 [.int .i64 0, .int .u64 0, .int .u64 0, .string ⟨#[]⟩, .int .u64 0, .int .u64 0, .int .u64 0, .int .u64 0, .string ⟨#[]⟩, .int .u64 0, .int .u64 0, .int .u64 0, .int .u64 0, .int .i64 0, .int .i64 0, .int .i64 0, .slice none 0 0, .slice none 0 0]
 obtain ⟨bA, hbA⟩ : ∃ x, w.heap.size = x := ⟨_, rfl⟩
 have hwA : w.heap.size ≤ bA := by omega
 rw [hbA] at hA
 go_enter Tryz.func40, Tryz.ntmps40
 go_upto_region 1 with fail
 clear hW1 hbA
 go_wp2_with fail
 refine (C1.out _).mono ?_; rintro e_ w2 ⟨rfl, h2⟩
 replace hA := hA.ext h2
 replace hE := hE.trans h2
 clear h2
 have hZ := hA.setRow zOp
 cases b with
 | false =>
  go_wp2_with (refine wpList_store_row (cells := zOp.toArray) rfl 33 _ _ rfl bA rfl rfl _ _ hA (by kernel_rfl) rfl (by first | rfl | decide | simp [Value.oneCell']) ?_)
  refine bodyPost_ret (results_row3 (p := 4) (t := 5) (u := 6) rfl _ _ _ _ _ _ _ rfl hZ Tryz.underlying33 rfl (by kernel_rfl)) rfl ?_
  exact ⟨hG.out _, Ext.setRow hE hwA _⟩
 | true =>
  have hk13 : 13 < k := by rcases hno with h | h; (cases h); exact h
  clear hno
  go_wp2_with (refine wpList_store_row (cells := zOp.toArray) rfl 33 _ _ rfl bA rfl rfl _ _ hA (by kernel_rfl) rfl (by first | rfl | decide | simp [Value.oneCell']) ?_)
  refine bodyPost_ret (results_row3 (p := 4) (t := 5) (u := 6) rfl _ _ _ _ _ _ _ rfl hZ Tryz.underlying33 rfl (by kernel_rfl)) rfl ?_
  exact ⟨hG.out _, Ext.setRow hE hwA _⟩

set_option maxHeartbeats 4000000 in
set_option maxRecDepth 100000 in
theorem aget_k {b0 b1 b2 b3 b4 b5 : Bool} (s : ByteArray) (p : Int) (w : World) (hs : s.size ≤ 281474976710656) (hv : Vars w) (hok : (getI s.data.toList p).2.2 = true) (h13 : (getI s.data.toList p).1 ≤ 13) (hfd : (knownF ((getI s.data.toList p).1 : Nat)).getD noFld = (b0, b1, b2, b3, b4, b5)) (hfl : isFld (b0, b1, b2, b3, b4, b5)) :
  Calls Tryz.prog 40 #[.string s, .int .i64 p] w fun e_ w' => GotO w.heap.size w' (finO (rdF s.data.toList (b0, b1, b2, b3, b4, b5) ((getI s.data.toList p).1 : Nat) (getI s.data.toList p).2.1)) e_ ∧ Ext w w' := by
 have hU : U64 s.data.toList.length := Nat.lt_of_le_of_lt (show s.size ≤ _ from hs) (by decide)
 have C1 := fun U => wget_w s p U hs
 have hkf := getI_fit (l := s.data.toList) (p := p) hs
 obtain ⟨⟨k, q, b⟩, hr⟩ : ∃ r, getI s.data.toList p = r := ⟨_, rfl⟩
 rw [hr] at C1 hok h13 hfd hkf ⊢
 simp only at C1 hok h13 hfd hkf ⊢
 subst hok
 clear hr
 have hk : -9223372036854775808 ≤ (k : Int) ∧ (k : Int) ≤ 9223372036854775807 := by omega
 have CK := fun U => aknown_w U
 have hlook := fun (U : World) B (h : MapK U B 13 knownF) => h.look1 hk
 rw [hfd] at hlook
 unfold fldV at hlook
 simp only at hlook
 clear hfd
 obtain ⟨G, hGd⟩ : ∃ g, rdF s.data.toList (b0, b1, b2, b3, b4, b5) ((k : Nat) : Int) q = g := ⟨_, rfl⟩
 rw [hGd]
 replace hGd := Lib.hid hGd
 replace CK := Lib.hid CK
 replace C1 := Lib.hid C1
 replace hlook := Lib.hid hlook
 obtain ⟨w1, hW1, hA, hE, -⟩ := new_row w 33 [.int .i64 0, .int .u64 0, .int .u64 0, .string ⟨#[]⟩, .int .u64 0, .int .u64 0, .int .u64 0, .int .u64 0, .string ⟨#[]⟩, .int .u64 0, .int .u64 0, .int .u64 0, .int .u64 0, .int .i64 0, .int .i64 0, .int .i64 0, .slice none 0 0, .slice none 0 0]
 obtain ⟨bA, hbA⟩ : ∃ x, w.heap.size = x := ⟨_, rfl⟩
 have hwA : w.heap.size ≤ bA := by omega
 rw [hbA] at hA
 go_enter Tryz.func40, Tryz.ntmps40
 go_upto_region 1 with fail
 clear hW1 hbA
 go_wp2_with fail
 refine (C1.out _).mono ?_; rintro e_ w2 ⟨rfl, h2⟩
 replace hA := hA.ext h2
 replace hE := hE.trans h2
 clear h2
 have al := hA.lt
 have a0 : w2.cell? ⟨bA, 0, none⟩ = some (.int .i64 0) := hA.cell 0
 have af0 := hA.free 0
 go_upto_region 5 with fail
 clear al a0 af0
 have hA' : RB bA 33 [.int .i64 (k : Nat), .int .u64 0, .int .u64 0, .string ⟨#[]⟩, .int .u64 0, .int .u64 0, .int .u64 0, .int .u64 0, .string ⟨#[]⟩, .int .u64 0, .int .u64 0, .int .u64 0, .int .u64 0, .int .i64 0, .int .i64 0, .int .i64 0, .slice none 0 0, .slice none 0 0] (w2.setCell ⟨bA, 0, none⟩ (.int .i64 (k : Nat))) := hA.set 0 (.int .i64 (k : Nat))
 have hE' : Ext w (w2.setCell ⟨bA, 0, none⟩ (.int .i64 (k : Nat))) := Below.setCell hE (p := ⟨bA, 0, none⟩) hwA _
 clear hA hE
 have hA := hA'
 have hE := hE'
 clear hA' hE'
 generalize w2.setCell ⟨bA, 0, none⟩ (.int .i64 (k : Nat)) = w3 at *
 have al := hA.lt
 have a0 : w3.cell? ⟨bA, 0, none⟩ = some (.int .i64 (k : Nat)) := hA.cell 0
 refine region_cut (fun a_ a' w' => ∃ bM bF : Nat, a' = ((((a_.put (some 26) (.map (some bM))).put (some 27) (.pointer (some ⟨bA, 0, none⟩))).put (some 28) (.int .i64 (k : Nat))).put (some 29) (.agg #[.bool b0, .bool b1, .bool b2, .bool b3, .bool b4, .bool b5])).put (some 8) (.pointer (some ⟨bF, 0, none⟩)) ∧ RB bF 108 [.bool b0, .bool b1, .bool b2, .bool b3, .bool b4, .bool b5] w' ∧ w3.heap.size ≤ bF ∧ Ext w3 w') ?_ ?_
 ·skip
  try simp only [Act.put, List.setIfInBounds_toArray, List.set_cons_succ, List.set_cons_zero]
  refine Dm.wp_region_ext 6 (Dm.bits 6 0) (Ext.refl w3) (by kernel_rfl) (by kernel_rfl) (by kernel_rfl) ?_
  refine tks [1, 2] 6 4 ?_
  refine Dm.wpE_two (i := 0) (j := 4) (li := (Dm.bits 6 7)) (lj := (Dm.bits 6 22)) (by kernel_rfl) (by kernel_rfl) (by kernel_rfl) rfl rfl (Ext.refl w3) (fun w1a hx1a => ?_) (fun w1a hx1a => ?_)
  ·
   have hX1a := Ext.trans (Ext.refl w3) hx1a
   go_wp2_with (go_at_call 55; go_must (refine (CK.out w1a).mono ?_; rintro e_ w1b ⟨bM, rfl, hM, hs1⟩))
   have hX1b := Ext.trans hX1a hs1
   try simp only [Exit.then, Act.put, List.setIfInBounds_toArray, List.set_cons_succ, List.set_cons_zero]
   refine Dm.wpE_two (i := 3) (j := 4) (li := (Dm.bits 6 15)) (lj := (Dm.bits 6 23)) (by kernel_rfl) (by kernel_rfl) (by kernel_rfl) rfl rfl hX1b (fun w2a hx2a => ?_) (fun w2a hx2a => ?_)
   ·
    have hX2a := Ext.trans hX1b hx2a
    replace hM := hM.ext hx2a
    have hlk := hlook.out _ _ hM
    go_wp2_with fail
    clear hlk hM
    obtain ⟨w2b, hw2⟩ : ∃ x, x = w2a := ⟨_, rfl⟩
    subst hw2
    have hX2b := hX2a
    try simp only [Exit.then, Act.put, List.setIfInBounds_toArray, List.set_cons_succ, List.set_cons_zero]
    refine Dm.wpE_one (i := 4) (listed' := (Dm.bits 6 31)) (by kernel_rfl) (by kernel_rfl) rfl hX2b (fun w3a hx3a => ?_)
    have hX3a := Ext.trans hX2b hx3a
    have hF : RB w3a.heap.size 108 [.bool false, .bool false, .bool false, .bool false, .bool false, .bool false] (w3a.alloc (.cells #[.bool false, .bool false, .bool false, .bool false, .bool false, .bool false] 108)) := RB.new w3a 108 [.bool false, .bool false, .bool false, .bool false, .bool false, .bool false]
    have hbF := (hX3a).size
    go_wp2_with fail
    have hs3 : Ext w3a (w3a.alloc (.cells #[.bool false, .bool false, .bool false, .bool false, .bool false, .bool false] 108)) := (Ext.refl _).alloc _
    have hX3b := Ext.trans hX3a hs3
    generalize w3a.alloc (.cells #[.bool false, .bool false, .bool false, .bool false, .bool false, .bool false] 108) = w3b at *
    generalize w3a.heap.size = bF at *
    try simp only [Exit.then, Act.put, List.setIfInBounds_toArray, List.set_cons_succ, List.set_cons_zero]
    refine Dm.wpE_one (i := 5) (listed' := (Dm.bits 6 63)) (by kernel_rfl) (by kernel_rfl) rfl hX3b (fun w4a hx4a => ?_)
    have hX4a := Ext.trans hX3b hx4a
    replace hF := hF.ext hx4a
    have hG := hF.setRow [.bool b0, .bool b1, .bool b2, .bool b3, .bool b4, .bool b5]
    go_wp2_with (refine wpList_store_row (cells := #[.bool b0, .bool b1, .bool b2, .bool b3, .bool b4, .bool b5]) rfl 108 _ _ rfl bF rfl rfl _ _ hF (by kernel_rfl) rfl (by first | rfl | decide | simp [Value.oneCell']) ?_)
    change RB bF 108 [.bool b0, .bool b1, .bool b2, .bool b3, .bool b4, .bool b5] (w4a.setRow bF #[.bool b0, .bool b1, .bool b2, .bool b3, .bool b4, .bool b5]) at hG
    have hX4b : Ext w3 (w4a.setRow bF #[.bool b0, .bool b1, .bool b2, .bool b3, .bool b4, .bool b5]) := Ext.setRow hX4a hbF _
    clear hF
    generalize w4a.setRow bF #[.bool b0, .bool b1, .bool b2, .bool b3, .bool b4, .bool b5] = w4b at *
    try simp only [Exit.then, Act.put, List.setIfInBounds_toArray, List.set_cons_succ, List.set_cons_zero]
    refine Dm.wpE_done (by kernel_rfl) hX4b (fun w5a hx5a => ?_)
    have hX5a := Ext.trans hX4b hx5a
    replace hG := hG.ext hx5a
    exact ⟨bM, bF, rfl, hG, hbF, hX5a⟩
   ·
    have hX2a := Ext.trans hX1b hx2a
    replace hM := hM.ext hx2a
    have hF : RB w2a.heap.size 108 [.bool false, .bool false, .bool false, .bool false, .bool false, .bool false] (w2a.alloc (.cells #[.bool false, .bool false, .bool false, .bool false, .bool false, .bool false] 108)) := RB.new w2a 108 [.bool false, .bool false, .bool false, .bool false, .bool false, .bool false]
    have hbF := (hX2a).size
    go_wp2_with fail
    have hs2 : Ext w2a (w2a.alloc (.cells #[.bool false, .bool false, .bool false, .bool false, .bool false, .bool false] 108)) := (Ext.refl _).alloc _
    have hX2b := Ext.trans hX2a hs2
    generalize w2a.alloc (.cells #[.bool false, .bool false, .bool false, .bool false, .bool false, .bool false] 108) = w2b at *
    generalize w2a.heap.size = bF at *
    replace hM := hM.ext hs2
    try simp only [Exit.then, Act.put, List.setIfInBounds_toArray, List.set_cons_succ, List.set_cons_zero]
    refine Dm.wpE_one (i := 3) (listed' := (Dm.bits 6 31)) (by kernel_rfl) (by kernel_rfl) rfl hX2b (fun w6a hx6a => ?_)
    have hX6a := Ext.trans hX2b hx6a
    replace hM := hM.ext hx6a
    replace hF := hF.ext hx6a
    have hlk := hlook.out _ _ hM
    go_wp2_with fail
    clear hlk hM
    obtain ⟨w6b, hw2⟩ : ∃ x, x = w6a := ⟨_, rfl⟩
    subst hw2
    have hX6b := hX6a
    try simp only [Exit.then, Act.put, List.setIfInBounds_toArray, List.set_cons_succ, List.set_cons_zero]
    refine Dm.wpE_one (i := 5) (listed' := (Dm.bits 6 63)) (by kernel_rfl) (by kernel_rfl) rfl hX6b (fun w7a hx7a => ?_)
    have hX7a := Ext.trans hX6b hx7a
    replace hF := hF.ext hx7a
    have hG := hF.setRow [.bool b0, .bool b1, .bool b2, .bool b3, .bool b4, .bool b5]
    go_wp2_with (refine wpList_store_row (cells := #[.bool b0, .bool b1, .bool b2, .bool b3, .bool b4, .bool b5]) rfl 108 _ _ rfl bF rfl rfl _ _ hF (by kernel_rfl) rfl (by first | rfl | decide | simp [Value.oneCell']) ?_)
    change RB bF 108 [.bool b0, .bool b1, .bool b2, .bool b3, .bool b4, .bool b5] (w7a.setRow bF #[.bool b0, .bool b1, .bool b2, .bool b3, .bool b4, .bool b5]) at hG
    have hX7b : Ext w3 (w7a.setRow bF #[.bool b0, .bool b1, .bool b2, .bool b3, .bool b4, .bool b5]) := Ext.setRow hX7a hbF _
    clear hF
    generalize w7a.setRow bF #[.bool b0, .bool b1, .bool b2, .bool b3, .bool b4, .bool b5] = w7b at *
    try simp only [Exit.then, Act.put, List.setIfInBounds_toArray, List.set_cons_succ, List.set_cons_zero]
    refine Dm.wpE_done (by kernel_rfl) hX7b (fun w8a hx8a => ?_)
    have hX8a := Ext.trans hX7b hx8a
    replace hG := hG.ext hx8a
    exact ⟨bM, bF, rfl, hG, hbF, hX8a⟩
  ·
   have hX1a := Ext.trans (Ext.refl w3) hx1a
   have hF : RB w1a.heap.size 108 [.bool false, .bool false, .bool false, .bool false, .bool false, .bool false] (w1a.alloc (.cells #[.bool false, .bool false, .bool false, .bool false, .bool false, .bool false] 108)) := RB.new w1a 108 [.bool false, .bool false, .bool false, .bool false, .bool false, .bool false]
   have hbF := (hX1a).size
   go_wp2_with fail
   have hs1 : Ext w1a (w1a.alloc (.cells #[.bool false, .bool false, .bool false, .bool false, .bool false, .bool false] 108)) := (Ext.refl _).alloc _
   have hX1b := Ext.trans hX1a hs1
   generalize w1a.alloc (.cells #[.bool false, .bool false, .bool false, .bool false, .bool false, .bool false] 108) = w1b at *
   generalize w1a.heap.size = bF at *
   try simp only [Exit.then, Act.put, List.setIfInBounds_toArray, List.set_cons_succ, List.set_cons_zero]
   refine Dm.wpE_one (i := 0) (listed' := (Dm.bits 6 23)) (by kernel_rfl) (by kernel_rfl) rfl hX1b (fun w9a hx9a => ?_)
   have hX9a := Ext.trans hX1b hx9a
   replace hF := hF.ext hx9a
   go_wp2_with (go_at_call 55; go_must (refine (CK.out w9a).mono ?_; rintro e_ w9b ⟨bM, rfl, hM, hs9⟩))
   have hX9b := Ext.trans hX9a hs9
   replace hF := hF.ext hs9
   try simp only [Exit.then, Act.put, List.setIfInBounds_toArray, List.set_cons_succ, List.set_cons_zero]
   refine Dm.wpE_one (i := 3) (listed' := (Dm.bits 6 31)) (by kernel_rfl) (by kernel_rfl) rfl hX9b (fun w10a hx10a => ?_)
   have hX10a := Ext.trans hX9b hx10a
   replace hF := hF.ext hx10a
   replace hM := hM.ext hx10a
   have hlk := hlook.out _ _ hM
   go_wp2_with fail
   clear hlk hM
   obtain ⟨w10b, hw2⟩ : ∃ x, x = w10a := ⟨_, rfl⟩
   subst hw2
   have hX10b := hX10a
   try simp only [Exit.then, Act.put, List.setIfInBounds_toArray, List.set_cons_succ, List.set_cons_zero]
   refine Dm.wpE_one (i := 5) (listed' := (Dm.bits 6 63)) (by kernel_rfl) (by kernel_rfl) rfl hX10b (fun w11a hx11a => ?_)
   have hX11a := Ext.trans hX10b hx11a
   replace hF := hF.ext hx11a
   have hG := hF.setRow [.bool b0, .bool b1, .bool b2, .bool b3, .bool b4, .bool b5]
   go_wp2_with (refine wpList_store_row (cells := #[.bool b0, .bool b1, .bool b2, .bool b3, .bool b4, .bool b5]) rfl 108 _ _ rfl bF rfl rfl _ _ hF (by kernel_rfl) rfl (by first | rfl | decide | simp [Value.oneCell']) ?_)
   change RB bF 108 [.bool b0, .bool b1, .bool b2, .bool b3, .bool b4, .bool b5] (w11a.setRow bF #[.bool b0, .bool b1, .bool b2, .bool b3, .bool b4, .bool b5]) at hG
   have hX11b : Ext w3 (w11a.setRow bF #[.bool b0, .bool b1, .bool b2, .bool b3, .bool b4, .bool b5]) := Ext.setRow hX11a hbF _
   clear hF
   generalize w11a.setRow bF #[.bool b0, .bool b1, .bool b2, .bool b3, .bool b4, .bool b5] = w11b at *
   try simp only [Exit.then, Act.put, List.setIfInBounds_toArray, List.set_cons_succ, List.set_cons_zero]
   refine Dm.wpE_done (by kernel_rfl) hX11b (fun w12a hx12a => ?_)
   have hX12a := Ext.trans hX11b hx12a
   replace hG := hG.ext hx12a
   exact ⟨bM, bF, rfl, hG, hbF, hX12a⟩
 rintro a_ w4 ⟨bM, bF, rfl, hG, hbF, h4⟩
 simp only [Act.put, List.setIfInBounds_toArray, List.set_cons_succ, List.set_cons_zero]
 have hAF : bA ≠ bF := by omega
 clear a0 al hbF
 replace hA := hA.ext h4
 replace hE := hE.trans h4
 clear h4
 clear hlook C1 CK
 rcases hfl with h | h | h | h | h | h | h | h <;> (simp only [Prod.mk.injEq] at h; obtain ⟨rfl, rfl, rfl, rfl, rfl, rfl⟩ := h)
 ·skip
  have CX := fun U (h : Ext w U) => xgetO_w s q U hs (hv.ext h)
  obtain ⟨⟨⟨xs, xd, xm, xt⟩, qx, bx⟩, rx⟩ : ∃ r, getX s.data.toList q = r := ⟨_, rfl⟩
  rw [rx] at CX
  unfold GotXO spVal at CX
  simp only at CX
  have hxo : bx = true → xs.size ≤ 98 := fun h => by
   have h2 := (getX_iff hU).1 (show getX s.data.toList q = ((xs, xd, xm, xt), qx, true) from h ▸ rx)
   have h3 := (under_short (chkX_iff.1 h2.1).1).1
   exact h3
  replace CX := Lib.hid CX
  obtain ⟨gl, g0, g1, g2, g3, g4, g5⟩ := hG.six
  go_wp2_with fail
  refine (CX.out _ hE).mono ?_; rintro e_ w6 ⟨⟨v_, R, rfl, hT, hfR, hl4, hRT, hxd, hOT⟩, h6⟩
  subst hRT
  obtain ⟨qv, cv, rfl, _, _⟩ := hT.shape
  have hbT := hA.lt
  have hbE := hE.size
  clear gl g0 g1 g2 g3 g4 g5
  replace hA := hA.ext h6
  replace hG := hG.ext h6
  replace hE := hE.trans h6
  clear h6
  have al := hA.lt
  have a8 := hA.at 8 rfl
  have af8 := hA.free 8
  have a9 := hA.at 9 rfl
  have af9 := hA.free 9
  have a10 := hA.at 10 rfl
  have af10 := hA.free 10
  have a11 := hA.at 11 rfl
  have af11 := hA.free 11
  have a12 := hA.at 12 rfl
  have af12 := hA.free 12
  have a13 := hA.at 13 rfl
  have af13 := hA.free 13
  have a14 := hA.at 14 rfl
  have af14 := hA.free 14
  have a15 := hA.at 15 rfl
  have af15 := hA.free 15
  have a16 := hA.at 16 rfl
  have af16 := hA.free 16
  go_upto_region 16 with fail
  clear al a8 af8 a9 af9 a10 af10 a11 af11 a12 af12 a13 af13 a14 af14 a15 af15 a16 af16
  obtain ⟨w7, hW, hA', hG', hE', hO⟩ := set_cells [(8, .string xs), (9, .int .u64 (vG xd 0 : Nat)), (10, .int .u64 (vG xd 1 : Nat)), (11, .int .u64 (vG xd 2 : Nat)), (12, .int .u64 (vG xd 3 : Nat)), (13, .int .i64 xm.1), (14, .int .i64 xm.2.1), (15, .int .i64 xm.2.2), (16, .slice qv R.length cv)] hA hG hAF hE hwA
  simp only [List.foldl] at hW
  rw [hW]
  clear hA hG hE hW
  have hA : RB bA 33 [.int .i64 (k : Nat), .int .u64 0, .int .u64 0, .string ⟨#[]⟩, .int .u64 0, .int .u64 0, .int .u64 0, .int .u64 0, .string xs, .int .u64 (vG xd 0 : Nat), .int .u64 (vG xd 1 : Nat), .int .u64 (vG xd 2 : Nat), .int .u64 (vG xd 3 : Nat), .int .i64 xm.1, .int .i64 xm.2.1, .int .i64 xm.2.2, .slice qv R.length cv, .slice none 0 0] w7 := hA'
  have hG := hG'
  have hE := hE'
  clear hA' hG' hE'
  replace hT := hT.off hOT hbT hO
  clear hO
  cases bx with
  | false =>
   obtain ⟨gl, g0, g1, g2, g3, g4, g5⟩ := hG.six
   have hZ := hA.setRow zOp
   go_wp2_with (first | (refine wpList_load_row rfl 33 _ rfl bA rfl _ _ _ _ hA Tryz.underlying33 rfl (by kernel_rfl) ?_) | (refine wpList_store_row (cells := zOp.toArray) rfl 33 _ _ rfl bA rfl rfl _ _ hA (by kernel_rfl) rfl (by first | rfl | decide | simp [Value.oneCell']) ?_))
   refine bodyPost_ret (results_row3 (p := 4) (t := 5) (u := 6) rfl _ _ _ _ _ _ _ rfl hZ Tryz.underlying33 rfl (by kernel_rfl)) rfl ?_
   have hGe : G = ((((k : Nat) : Int), (0, 0), ⟨#[]⟩, noV, (xs, xd, xm, R.map rowT), []), qx, false) := by rw [← hGd.out]; simp only [rdF, rdA, rdT, rdV, rdX, rdL, cond_true, cond_false, Bool.true_and, Bool.false_and, Bool.and_true, Bool.and_false, rx]; first | done | rfl
   subst hGe
   exact ⟨GotO.no _ _ _ (fun h => by cases h.1), Ext.setRow hE hwA _⟩
  | true =>
   have CR : Calls Tryz.prog 25 #[.agg #[.int .i64 (k : Nat), .int .u64 0, .int .u64 0, .string ⟨#[]⟩, .int .u64 0, .int .u64 0, .int .u64 0, .int .u64 0, .string xs, .int .u64 (vG xd 0 : Nat), .int .u64 (vG xd 1 : Nat), .int .u64 (vG xd 2 : Nat), .int .u64 (vG xd 3 : Nat), .int .i64 xm.1, .int .i64 xm.2.1, .int .i64 xm.2.2, .slice qv R.length cv, .slice none 0 0]] w7 fun e_ w' => e_ = .returned (.bool (rightO (((k : Nat) : Int), (0, 0), ⟨#[]⟩, noV, (xs, xd, xm, R.map rowT), []))) ∧ Ext w7 w' :=
    aright_w k 0 0 ⟨#[]⟩ noV xs xd xm (.slice qv R.length cv) (.slice none 0 0) R [] w7 hk okV_no (Nat.lt_of_le_of_lt (hxo (by first | rfl | trivial)) (by decide)) hxd (by omega) hfR hT (by show (0 : Nat) ≤ _; omega) FitP.nil (Pairs.nil _) (hv.ext hE)
   have hGe : G = ((((k : Nat) : Int), (0, 0), ⟨#[]⟩, noV, (xs, xd, xm, R.map rowT), []), qx, true) := by rw [← hGd.out]; simp only [rdF, rdA, rdT, rdV, rdX, rdL, cond_true, cond_false, Bool.true_and, Bool.false_and, Bool.and_true, Bool.and_false, rx]; first | done | rfl
   subst hGe
   have hGN := fun U => GotO.no w.heap.size U (((((k : Nat) : Int), (0, 0), ⟨#[]⟩, noV, (xs, xd, xm, R.map rowT), []), qx, true) : OpQ × Int × Bool)
   have hGY : rightO (((k : Nat) : Int), (0, 0), ⟨#[]⟩, noV, (xs, xd, xm, R.map rowT), []) = true → finO ((((k : Nat) : Int), (0, 0), ⟨#[]⟩, noV, (xs, xd, xm, R.map rowT), []), qx, true) = ((((k : Nat) : Int), (0, 0), ⟨#[]⟩, noV, (xs, xd, xm, R.map rowT), []), qx, true) := fun h => by unfold finO; rw [if_pos ⟨rfl, h⟩]
   have hOk : OkO (((k : Nat) : Int), (0, 0), ⟨#[]⟩, noV, (xs, xd, xm, R.map rowT), []) := ⟨hk, u64_zero, u64_zero, okV_no, (Nat.lt_of_le_of_lt (hxo (by first | rfl | trivial)) (by decide)), hxd, (by show (0 : Nat) ≤ _; omega), FitP.nil⟩
   cases hro : rightO (((k : Nat) : Int), (0, 0), ⟨#[]⟩, noV, (xs, xd, xm, R.map rowT), []) with
   | false =>
    replace hGN := Lib.hid (fun U => hGN U (fun h => by rw [hro] at h; cases h.2))
    rw [hro] at CR
    replace CR := Lib.hid CR
    clear hro hGY
    obtain ⟨gl, g0, g1, g2, g3, g4, g5⟩ := hG.six
    go_wp2_with (refine wpList_load_row_g (by kernel_rfl) 33 _ rfl bA rfl _ _ _ _ hA Tryz.underlying33 rfl (by kernel_rfl) ?_)
    refine CR.out.mono ?_; rintro e_ wq ⟨rfl, hq⟩
    clear gl g0 g1 g2 g3 g4 g5
    replace hA := hA.ext hq
    replace hE := hE.trans hq
    have hZ := hA.setRow zOp
    go_wp2_with (refine wpList_store_row (cells := zOp.toArray) rfl 33 _ _ rfl bA rfl rfl _ _ hA (by kernel_rfl) rfl (by first | rfl | decide | simp [Value.oneCell']) ?_)
    refine bodyPost_ret (results_row3 (p := 4) (t := 5) (u := 6) rfl _ _ _ _ _ _ _ rfl hZ Tryz.underlying33 rfl (by kernel_rfl)) rfl ?_
    exact ⟨hGN.out _, Ext.setRow hE hwA _⟩
   | true =>
    have hFe := Lib.hid (hGY hro)
    rw [hro] at CR
    replace CR := Lib.hid CR
    clear hro hGN hGY
    obtain ⟨gl, g0, g1, g2, g3, g4, g5⟩ := hG.six
    go_wp2_with (refine wpList_load_row_g (by kernel_rfl) 33 _ rfl bA rfl _ _ _ _ hA Tryz.underlying33 rfl (by kernel_rfl) ?_)
    refine CR.out.mono ?_; rintro e_ wq ⟨rfl, hq⟩
    clear gl g0 g1 g2 g3 g4 g5
    replace hA := hA.ext hq
    replace hE := hE.trans hq
    replace hT := hT.ext hq
    have hZ := hA.setRow [.int .i64 (k : Nat), .int .u64 0, .int .u64 0, .string ⟨#[]⟩, .int .u64 0, .int .u64 0, .int .u64 0, .int .u64 0, .string xs, .int .u64 (vG xd 0 : Nat), .int .u64 (vG xd 1 : Nat), .int .u64 (vG xd 2 : Nat), .int .u64 (vG xd 3 : Nat), .int .i64 xm.1, .int .i64 xm.2.1, .int .i64 xm.2.2, .slice qv R.length cv, .slice none 0 0]
    go_wp2_with (first | (refine wpList_load_row rfl 33 _ rfl bA rfl _ _ _ _ hA Tryz.underlying33 rfl (by kernel_rfl) ?_) | (refine wpList_store_row (cells := #[.int .i64 (k : Nat), .int .u64 0, .int .u64 0, .string ⟨#[]⟩, .int .u64 0, .int .u64 0, .int .u64 0, .int .u64 0, .string xs, .int .u64 (vG xd 0 : Nat), .int .u64 (vG xd 1 : Nat), .int .u64 (vG xd 2 : Nat), .int .u64 (vG xd 3 : Nat), .int .i64 xm.1, .int .i64 xm.2.1, .int .i64 xm.2.2, .slice qv R.length cv, .slice none 0 0]) rfl 33 _ _ rfl bA rfl rfl _ _ hA (by kernel_rfl) rfl (by first | rfl | decide | simp [Value.oneCell']) ?_))
    refine bodyPost_ret (results_row3 (p := 4) (t := 5) (u := 6) rfl _ _ _ _ _ _ _ rfl hZ Tryz.underlying33 rfl (by kernel_rfl)) rfl ?_
    refine ⟨?_, Ext.setRow hE hwA _⟩
    rw [hFe.out]
    refine ⟨.slice qv R.length cv, .slice none 0 0, R, rfl, ?_, hfR, (by omega), rfl, ?_, hOk, hOT.le hbE, (fun c h => by cases h)⟩
    ·exact hT.off hOT hbT ((Off.refl bA wq).setRow _)
    ·exact Pairs.nil _
 ·skip
  have CI := fun U => wget_w s q U hs
  have fa := getI_fit (l := s.data.toList) (p := q) hs
  obtain ⟨⟨a, qa, ba⟩, ra⟩ : ∃ r, getI s.data.toList q = r := ⟨_, rfl⟩
  rw [ra] at CI fa
  simp only at CI fa
  replace CI := Lib.hid CI
  obtain ⟨gl, g0, g1, g2, g3, g4, g5⟩ := hG.six
  go_wp2_with fail
  refine (CI.out _).mono ?_; rintro e_ w6 ⟨rfl, h6⟩
  clear gl g0 g1 g2 g3 g4 g5
  replace hA := hA.ext h6
  replace hG := hG.ext h6
  replace hE := hE.trans h6
  clear h6
  have al := hA.lt
  have a1 := hA.at 1 rfl
  have af1 := hA.free 1
  go_upto_region 8 with fail
  clear al a1 af1
  obtain ⟨w7, hW, hA', hG', hE', hO⟩ := set_cells [(1, .int .u64 (a : Nat))] hA hG hAF hE hwA
  simp only [List.foldl] at hW
  rw [hW]
  clear hA hG hE hW
  have hA : RB bA 33 [.int .i64 (k : Nat), .int .u64 (a : Nat), .int .u64 0, .string ⟨#[]⟩, .int .u64 0, .int .u64 0, .int .u64 0, .int .u64 0, .string ⟨#[]⟩, .int .u64 0, .int .u64 0, .int .u64 0, .int .u64 0, .int .i64 0, .int .i64 0, .int .i64 0, .slice none 0 0, .slice none 0 0] w7 := hA'
  have hG := hG'
  have hE := hE'
  clear hA' hG' hE'
  clear hO
  cases ba with
  | false =>
   obtain ⟨gl, g0, g1, g2, g3, g4, g5⟩ := hG.six
   have hZ := hA.setRow zOp
   go_wp2_with (first | (refine wpList_load_row rfl 33 _ rfl bA rfl _ _ _ _ hA Tryz.underlying33 rfl (by kernel_rfl) ?_) | (refine wpList_store_row (cells := zOp.toArray) rfl 33 _ _ rfl bA rfl rfl _ _ hA (by kernel_rfl) rfl (by first | rfl | decide | simp [Value.oneCell']) ?_))
   refine bodyPost_ret (results_row3 (p := 4) (t := 5) (u := 6) rfl _ _ _ _ _ _ _ rfl hZ Tryz.underlying33 rfl (by kernel_rfl)) rfl ?_
   have hGe : G = ((((k : Nat) : Int), (a, 0), ⟨#[]⟩, noV, noSp, []), qa, false) := by rw [← hGd.out]; simp only [rdF, rdA, rdT, rdV, rdX, rdL, cond_true, cond_false, Bool.true_and, Bool.false_and, Bool.and_true, Bool.and_false, ra]; first | done | rfl
   subst hGe
   exact ⟨GotO.no _ _ _ (fun h => by cases h.1), Ext.setRow hE hwA _⟩
  | true =>
   have CR : Calls Tryz.prog 25 #[.agg #[.int .i64 (k : Nat), .int .u64 (a : Nat), .int .u64 0, .string ⟨#[]⟩, .int .u64 0, .int .u64 0, .int .u64 0, .int .u64 0, .string ⟨#[]⟩, .int .u64 0, .int .u64 0, .int .u64 0, .int .u64 0, .int .i64 0, .int .i64 0, .int .i64 0, .slice none 0 0, .slice none 0 0]] w7 fun e_ w' => e_ = .returned (.bool (rightO (((k : Nat) : Int), (a, 0), ⟨#[]⟩, noV, noSp, []))) ∧ Ext w7 w' :=
    aright_w k a 0 ⟨#[]⟩ noV ⟨#[]⟩ noV (0, 0, 0) (.slice none 0 0) (.slice none 0 0) [] [] w7 hk okV_no (by show (0 : Nat) < _; decide) okV_no (by show (0 : Nat) ≤ _; omega) (fun r hr => by cases hr) (Terms.nil _) (by show (0 : Nat) ≤ _; omega) FitP.nil (Pairs.nil _) (hv.ext hE)
   have hGe : G = ((((k : Nat) : Int), (a, 0), ⟨#[]⟩, noV, noSp, []), qa, true) := by rw [← hGd.out]; simp only [rdF, rdA, rdT, rdV, rdX, rdL, cond_true, cond_false, Bool.true_and, Bool.false_and, Bool.and_true, Bool.and_false, ra]; first | done | rfl
   subst hGe
   have hGN := fun U => GotO.no w.heap.size U (((((k : Nat) : Int), (a, 0), ⟨#[]⟩, noV, noSp, []), qa, true) : OpQ × Int × Bool)
   have hGY : rightO (((k : Nat) : Int), (a, 0), ⟨#[]⟩, noV, noSp, []) = true → finO ((((k : Nat) : Int), (a, 0), ⟨#[]⟩, noV, noSp, []), qa, true) = ((((k : Nat) : Int), (a, 0), ⟨#[]⟩, noV, noSp, []), qa, true) := fun h => by unfold finO; rw [if_pos ⟨rfl, h⟩]
   have hOk : OkO (((k : Nat) : Int), (a, 0), ⟨#[]⟩, noV, noSp, []) := ⟨hk, fa, u64_zero, okV_no, (by show (0 : Nat) < _; decide), okV_no, (by show (0 : Nat) ≤ _; omega), FitP.nil⟩
   cases hro : rightO (((k : Nat) : Int), (a, 0), ⟨#[]⟩, noV, noSp, []) with
   | false =>
    replace hGN := Lib.hid (fun U => hGN U (fun h => by rw [hro] at h; cases h.2))
    rw [hro] at CR
    replace CR := Lib.hid CR
    clear hro hGY
    obtain ⟨gl, g0, g1, g2, g3, g4, g5⟩ := hG.six
    go_wp2_with (refine wpList_load_row_g (by kernel_rfl) 33 _ rfl bA rfl _ _ _ _ hA Tryz.underlying33 rfl (by kernel_rfl) ?_)
    refine CR.out.mono ?_; rintro e_ wq ⟨rfl, hq⟩
    clear gl g0 g1 g2 g3 g4 g5
    replace hA := hA.ext hq
    replace hE := hE.trans hq
    have hZ := hA.setRow zOp
    go_wp2_with (refine wpList_store_row (cells := zOp.toArray) rfl 33 _ _ rfl bA rfl rfl _ _ hA (by kernel_rfl) rfl (by first | rfl | decide | simp [Value.oneCell']) ?_)
    refine bodyPost_ret (results_row3 (p := 4) (t := 5) (u := 6) rfl _ _ _ _ _ _ _ rfl hZ Tryz.underlying33 rfl (by kernel_rfl)) rfl ?_
    exact ⟨hGN.out _, Ext.setRow hE hwA _⟩
   | true =>
    have hFe := Lib.hid (hGY hro)
    rw [hro] at CR
    replace CR := Lib.hid CR
    clear hro hGN hGY
    obtain ⟨gl, g0, g1, g2, g3, g4, g5⟩ := hG.six
    go_wp2_with (refine wpList_load_row_g (by kernel_rfl) 33 _ rfl bA rfl _ _ _ _ hA Tryz.underlying33 rfl (by kernel_rfl) ?_)
    refine CR.out.mono ?_; rintro e_ wq ⟨rfl, hq⟩
    clear gl g0 g1 g2 g3 g4 g5
    replace hA := hA.ext hq
    replace hE := hE.trans hq
    have hZ := hA.setRow [.int .i64 (k : Nat), .int .u64 (a : Nat), .int .u64 0, .string ⟨#[]⟩, .int .u64 0, .int .u64 0, .int .u64 0, .int .u64 0, .string ⟨#[]⟩, .int .u64 0, .int .u64 0, .int .u64 0, .int .u64 0, .int .i64 0, .int .i64 0, .int .i64 0, .slice none 0 0, .slice none 0 0]
    go_wp2_with (first | (refine wpList_load_row rfl 33 _ rfl bA rfl _ _ _ _ hA Tryz.underlying33 rfl (by kernel_rfl) ?_) | (refine wpList_store_row (cells := #[.int .i64 (k : Nat), .int .u64 (a : Nat), .int .u64 0, .string ⟨#[]⟩, .int .u64 0, .int .u64 0, .int .u64 0, .int .u64 0, .string ⟨#[]⟩, .int .u64 0, .int .u64 0, .int .u64 0, .int .u64 0, .int .i64 0, .int .i64 0, .int .i64 0, .slice none 0 0, .slice none 0 0]) rfl 33 _ _ rfl bA rfl rfl _ _ hA (by kernel_rfl) rfl (by first | rfl | decide | simp [Value.oneCell']) ?_))
    refine bodyPost_ret (results_row3 (p := 4) (t := 5) (u := 6) rfl _ _ _ _ _ _ _ rfl hZ Tryz.underlying33 rfl (by kernel_rfl)) rfl ?_
    refine ⟨?_, Ext.setRow hE hwA _⟩
    rw [hFe.out]
    refine ⟨.slice none 0 0, .slice none 0 0, [], rfl, ?_, (fun r hr => by cases hr), (by show (0 : Nat) ≤ _; omega), rfl, ?_, hOk, OwnT.nil _, (fun c h => by cases h)⟩
    ·exact Terms.nil _
    ·exact Pairs.nil _
 ·skip
  have CT := fun U => wgettext_w s q 98 U hs (by omega)
  obtain ⟨⟨t, qt, bt⟩, rt⟩ : ∃ r, atI (getTextL 98) [] s.data.toList q = r := ⟨_, rfl⟩
  rw [rt] at CT
  simp only at CT
  have CV := fun U => vget_w s qt U hs
  obtain ⟨⟨d, qd, bd⟩, rd⟩ : ∃ r, getV s.data.toList qt = r := ⟨_, rfl⟩
  rw [rd] at CV
  have hdo : bd = true → OkV d := fun h => ((getV_iff hU).1 (h ▸ rd)).1
  unfold vVal vF at CV
  simp only at CV
  replace CT := Lib.hid CT
  replace CV := Lib.hid CV
  obtain ⟨gl, g0, g1, g2, g3, g4, g5⟩ := hG.six
  go_wp2_with fail
  refine (CT.out _).mono ?_; rintro e_ w6 ⟨rfl, h6⟩
  clear gl g0 g1 g2 g3 g4 g5
  replace hA := hA.ext h6
  replace hG := hG.ext h6
  replace hE := hE.trans h6
  clear h6
  have al := hA.lt
  have a3 := hA.at 3 rfl
  have af3 := hA.free 3
  go_upto_region 12 with fail
  clear al a3 af3
  obtain ⟨w7, hW, hA', hG', hE', hO⟩ := set_cells [(3, .string ⟨t.toArray⟩)] hA hG hAF hE hwA
  simp only [List.foldl] at hW
  rw [hW]
  clear hA hG hE hW
  have hA : RB bA 33 [.int .i64 (k : Nat), .int .u64 0, .int .u64 0, .string ⟨t.toArray⟩, .int .u64 0, .int .u64 0, .int .u64 0, .int .u64 0, .string ⟨#[]⟩, .int .u64 0, .int .u64 0, .int .u64 0, .int .u64 0, .int .i64 0, .int .i64 0, .int .i64 0, .slice none 0 0, .slice none 0 0] w7 := hA'
  have hG := hG'
  have hE := hE'
  clear hA' hG' hE'
  clear hO
  cases bt with
  | false =>
   obtain ⟨gl, g0, g1, g2, g3, g4, g5⟩ := hG.six
   have hZ := hA.setRow zOp
   go_wp2_with (first | (refine wpList_load_row rfl 33 _ rfl bA rfl _ _ _ _ hA Tryz.underlying33 rfl (by kernel_rfl) ?_) | (refine wpList_store_row (cells := zOp.toArray) rfl 33 _ _ rfl bA rfl rfl _ _ hA (by kernel_rfl) rfl (by first | rfl | decide | simp [Value.oneCell']) ?_))
   refine bodyPost_ret (results_row3 (p := 4) (t := 5) (u := 6) rfl _ _ _ _ _ _ _ rfl hZ Tryz.underlying33 rfl (by kernel_rfl)) rfl ?_
   have hGe : G = ((((k : Nat) : Int), (0, 0), ⟨t.toArray⟩, noV, noSp, []), qt, false) := by rw [← hGd.out]; simp only [rdF, rdA, rdT, rdV, rdX, rdL, cond_true, cond_false, Bool.true_and, Bool.false_and, Bool.and_true, Bool.and_false, rt]; first | done | rfl
   subst hGe
   exact ⟨GotO.no _ _ _ (fun h => by cases h.1), Ext.setRow hE hwA _⟩
  | true =>
   obtain ⟨gl, g0, g1, g2, g3, g4, g5⟩ := hG.six
   go_wp2_with fail
   refine (CV.out _).mono ?_; rintro e_ w8 ⟨rfl, h8⟩
   clear gl g0 g1 g2 g3 g4 g5
   replace hA := hA.ext h8
   replace hG := hG.ext h8
   replace hE := hE.trans h8
   clear h8
   have al := hA.lt
   have a4 := hA.at 4 rfl
   have af4 := hA.free 4
   have a5 := hA.at 5 rfl
   have af5 := hA.free 5
   have a6 := hA.at 6 rfl
   have af6 := hA.free 6
   have a7 := hA.at 7 rfl
   have af7 := hA.free 7
   go_upto_region 14 with fail
   clear al a4 af4 a5 af5 a6 af6 a7 af7
   obtain ⟨w9, hW, hA', hG', hE', hO⟩ := set_cells [(4, .int .u64 (vG d 0 : Nat)), (5, .int .u64 (vG d 1 : Nat)), (6, .int .u64 (vG d 2 : Nat)), (7, .int .u64 (vG d 3 : Nat))] hA hG hAF hE hwA
   simp only [List.foldl] at hW
   rw [hW]
   clear hA hG hE hW
   have hA : RB bA 33 [.int .i64 (k : Nat), .int .u64 0, .int .u64 0, .string ⟨t.toArray⟩, .int .u64 (vG d 0 : Nat), .int .u64 (vG d 1 : Nat), .int .u64 (vG d 2 : Nat), .int .u64 (vG d 3 : Nat), .string ⟨#[]⟩, .int .u64 0, .int .u64 0, .int .u64 0, .int .u64 0, .int .i64 0, .int .i64 0, .int .i64 0, .slice none 0 0, .slice none 0 0] w9 := hA'
   have hG := hG'
   have hE := hE'
   clear hA' hG' hE'
   clear hO
   cases bd with
   | false =>
    obtain ⟨gl, g0, g1, g2, g3, g4, g5⟩ := hG.six
    have hZ := hA.setRow zOp
    go_wp2_with (first | (refine wpList_load_row rfl 33 _ rfl bA rfl _ _ _ _ hA Tryz.underlying33 rfl (by kernel_rfl) ?_) | (refine wpList_store_row (cells := zOp.toArray) rfl 33 _ _ rfl bA rfl rfl _ _ hA (by kernel_rfl) rfl (by first | rfl | decide | simp [Value.oneCell']) ?_))
    refine bodyPost_ret (results_row3 (p := 4) (t := 5) (u := 6) rfl _ _ _ _ _ _ _ rfl hZ Tryz.underlying33 rfl (by kernel_rfl)) rfl ?_
    have hGe : G = ((((k : Nat) : Int), (0, 0), ⟨t.toArray⟩, d, noSp, []), qd, false) := by rw [← hGd.out]; simp only [rdF, rdA, rdT, rdV, rdX, rdL, cond_true, cond_false, Bool.true_and, Bool.false_and, Bool.and_true, Bool.and_false, rt, rd]; first | done | rfl
    subst hGe
    exact ⟨GotO.no _ _ _ (fun h => by cases h.1), Ext.setRow hE hwA _⟩
   | true =>
    have CR : Calls Tryz.prog 25 #[.agg #[.int .i64 (k : Nat), .int .u64 0, .int .u64 0, .string ⟨t.toArray⟩, .int .u64 (vG d 0 : Nat), .int .u64 (vG d 1 : Nat), .int .u64 (vG d 2 : Nat), .int .u64 (vG d 3 : Nat), .string ⟨#[]⟩, .int .u64 0, .int .u64 0, .int .u64 0, .int .u64 0, .int .i64 0, .int .i64 0, .int .i64 0, .slice none 0 0, .slice none 0 0]] w9 fun e_ w' => e_ = .returned (.bool (rightO (((k : Nat) : Int), (0, 0), ⟨t.toArray⟩, d, noSp, []))) ∧ Ext w9 w' :=
     aright_w k 0 0 ⟨t.toArray⟩ d ⟨#[]⟩ noV (0, 0, 0) (.slice none 0 0) (.slice none 0 0) [] [] w9 hk (hdo (by first | rfl | trivial)) (by show (0 : Nat) < _; decide) okV_no (by show (0 : Nat) ≤ _; omega) (fun r hr => by cases hr) (Terms.nil _) (by show (0 : Nat) ≤ _; omega) FitP.nil (Pairs.nil _) (hv.ext hE)
    have hGe : G = ((((k : Nat) : Int), (0, 0), ⟨t.toArray⟩, d, noSp, []), qd, true) := by rw [← hGd.out]; simp only [rdF, rdA, rdT, rdV, rdX, rdL, cond_true, cond_false, Bool.true_and, Bool.false_and, Bool.and_true, Bool.and_false, rt, rd]; first | done | rfl
    subst hGe
    have hGN := fun U => GotO.no w.heap.size U (((((k : Nat) : Int), (0, 0), ⟨t.toArray⟩, d, noSp, []), qd, true) : OpQ × Int × Bool)
    have hGY : rightO (((k : Nat) : Int), (0, 0), ⟨t.toArray⟩, d, noSp, []) = true → finO ((((k : Nat) : Int), (0, 0), ⟨t.toArray⟩, d, noSp, []), qd, true) = ((((k : Nat) : Int), (0, 0), ⟨t.toArray⟩, d, noSp, []), qd, true) := fun h => by unfold finO; rw [if_pos ⟨rfl, h⟩]
    have hOk : OkO (((k : Nat) : Int), (0, 0), ⟨t.toArray⟩, d, noSp, []) := ⟨hk, u64_zero, u64_zero, (hdo (by first | rfl | trivial)), (by show (0 : Nat) < _; decide), okV_no, (by show (0 : Nat) ≤ _; omega), FitP.nil⟩
    cases hro : rightO (((k : Nat) : Int), (0, 0), ⟨t.toArray⟩, d, noSp, []) with
    | false =>
     replace hGN := Lib.hid (fun U => hGN U (fun h => by rw [hro] at h; cases h.2))
     rw [hro] at CR
     replace CR := Lib.hid CR
     clear hro hGY
     obtain ⟨gl, g0, g1, g2, g3, g4, g5⟩ := hG.six
     go_wp2_with (refine wpList_load_row_g (by kernel_rfl) 33 _ rfl bA rfl _ _ _ _ hA Tryz.underlying33 rfl (by kernel_rfl) ?_)
     refine CR.out.mono ?_; rintro e_ wq ⟨rfl, hq⟩
     clear gl g0 g1 g2 g3 g4 g5
     replace hA := hA.ext hq
     replace hE := hE.trans hq
     have hZ := hA.setRow zOp
     go_wp2_with (refine wpList_store_row (cells := zOp.toArray) rfl 33 _ _ rfl bA rfl rfl _ _ hA (by kernel_rfl) rfl (by first | rfl | decide | simp [Value.oneCell']) ?_)
     refine bodyPost_ret (results_row3 (p := 4) (t := 5) (u := 6) rfl _ _ _ _ _ _ _ rfl hZ Tryz.underlying33 rfl (by kernel_rfl)) rfl ?_
     exact ⟨hGN.out _, Ext.setRow hE hwA _⟩
    | true =>
     have hFe := Lib.hid (hGY hro)
     rw [hro] at CR
     replace CR := Lib.hid CR
     clear hro hGN hGY
     obtain ⟨gl, g0, g1, g2, g3, g4, g5⟩ := hG.six
     go_wp2_with (refine wpList_load_row_g (by kernel_rfl) 33 _ rfl bA rfl _ _ _ _ hA Tryz.underlying33 rfl (by kernel_rfl) ?_)
     refine CR.out.mono ?_; rintro e_ wq ⟨rfl, hq⟩
     clear gl g0 g1 g2 g3 g4 g5
     replace hA := hA.ext hq
     replace hE := hE.trans hq
     have hZ := hA.setRow [.int .i64 (k : Nat), .int .u64 0, .int .u64 0, .string ⟨t.toArray⟩, .int .u64 (vG d 0 : Nat), .int .u64 (vG d 1 : Nat), .int .u64 (vG d 2 : Nat), .int .u64 (vG d 3 : Nat), .string ⟨#[]⟩, .int .u64 0, .int .u64 0, .int .u64 0, .int .u64 0, .int .i64 0, .int .i64 0, .int .i64 0, .slice none 0 0, .slice none 0 0]
     go_wp2_with (first | (refine wpList_load_row rfl 33 _ rfl bA rfl _ _ _ _ hA Tryz.underlying33 rfl (by kernel_rfl) ?_) | (refine wpList_store_row (cells := #[.int .i64 (k : Nat), .int .u64 0, .int .u64 0, .string ⟨t.toArray⟩, .int .u64 (vG d 0 : Nat), .int .u64 (vG d 1 : Nat), .int .u64 (vG d 2 : Nat), .int .u64 (vG d 3 : Nat), .string ⟨#[]⟩, .int .u64 0, .int .u64 0, .int .u64 0, .int .u64 0, .int .i64 0, .int .i64 0, .int .i64 0, .slice none 0 0, .slice none 0 0]) rfl 33 _ _ rfl bA rfl rfl _ _ hA (by kernel_rfl) rfl (by first | rfl | decide | simp [Value.oneCell']) ?_))
     refine bodyPost_ret (results_row3 (p := 4) (t := 5) (u := 6) rfl _ _ _ _ _ _ _ rfl hZ Tryz.underlying33 rfl (by kernel_rfl)) rfl ?_
     refine ⟨?_, Ext.setRow hE hwA _⟩
     rw [hFe.out]
     refine ⟨.slice none 0 0, .slice none 0 0, [], rfl, ?_, (fun r hr => by cases hr), (by show (0 : Nat) ≤ _; omega), rfl, ?_, hOk, OwnT.nil _, (fun c h => by cases h)⟩
     ·exact Terms.nil _
     ·exact Pairs.nil _
 ·skip
  have CI := fun U => wget_w s q U hs
  have fa := getI_fit (l := s.data.toList) (p := q) hs
  obtain ⟨⟨a, qa, ba⟩, ra⟩ : ∃ r, getI s.data.toList q = r := ⟨_, rfl⟩
  rw [ra] at CI fa
  simp only at CI fa
  replace CI := Lib.hid CI
  obtain ⟨gl, g0, g1, g2, g3, g4, g5⟩ := hG.six
  go_wp2_with fail
  refine (CI.out _).mono ?_; rintro e_ w6 ⟨rfl, h6⟩
  clear gl g0 g1 g2 g3 g4 g5
  replace hA := hA.ext h6
  replace hG := hG.ext h6
  replace hE := hE.trans h6
  clear h6
  have al := hA.lt
  have a2 := hA.at 2 rfl
  have af2 := hA.free 2
  go_upto_region 10 with fail
  clear al a2 af2
  obtain ⟨w7, hW, hA', hG', hE', hO⟩ := set_cells [(2, .int .u64 (a : Nat))] hA hG hAF hE hwA
  simp only [List.foldl] at hW
  rw [hW]
  clear hA hG hE hW
  have hA : RB bA 33 [.int .i64 (k : Nat), .int .u64 0, .int .u64 (a : Nat), .string ⟨#[]⟩, .int .u64 0, .int .u64 0, .int .u64 0, .int .u64 0, .string ⟨#[]⟩, .int .u64 0, .int .u64 0, .int .u64 0, .int .u64 0, .int .i64 0, .int .i64 0, .int .i64 0, .slice none 0 0, .slice none 0 0] w7 := hA'
  have hG := hG'
  have hE := hE'
  clear hA' hG' hE'
  clear hO
  cases ba with
  | false =>
   obtain ⟨gl, g0, g1, g2, g3, g4, g5⟩ := hG.six
   have hZ := hA.setRow zOp
   go_wp2_with (first | (refine wpList_load_row rfl 33 _ rfl bA rfl _ _ _ _ hA Tryz.underlying33 rfl (by kernel_rfl) ?_) | (refine wpList_store_row (cells := zOp.toArray) rfl 33 _ _ rfl bA rfl rfl _ _ hA (by kernel_rfl) rfl (by first | rfl | decide | simp [Value.oneCell']) ?_))
   refine bodyPost_ret (results_row3 (p := 4) (t := 5) (u := 6) rfl _ _ _ _ _ _ _ rfl hZ Tryz.underlying33 rfl (by kernel_rfl)) rfl ?_
   have hGe : G = ((((k : Nat) : Int), (0, a), ⟨#[]⟩, noV, noSp, []), qa, false) := by rw [← hGd.out]; simp only [rdF, rdA, rdT, rdV, rdX, rdL, cond_true, cond_false, Bool.true_and, Bool.false_and, Bool.and_true, Bool.and_false, ra]; first | done | rfl
   subst hGe
   exact ⟨GotO.no _ _ _ (fun h => by cases h.1), Ext.setRow hE hwA _⟩
  | true =>
   have CR : Calls Tryz.prog 25 #[.agg #[.int .i64 (k : Nat), .int .u64 0, .int .u64 (a : Nat), .string ⟨#[]⟩, .int .u64 0, .int .u64 0, .int .u64 0, .int .u64 0, .string ⟨#[]⟩, .int .u64 0, .int .u64 0, .int .u64 0, .int .u64 0, .int .i64 0, .int .i64 0, .int .i64 0, .slice none 0 0, .slice none 0 0]] w7 fun e_ w' => e_ = .returned (.bool (rightO (((k : Nat) : Int), (0, a), ⟨#[]⟩, noV, noSp, []))) ∧ Ext w7 w' :=
    aright_w k 0 a ⟨#[]⟩ noV ⟨#[]⟩ noV (0, 0, 0) (.slice none 0 0) (.slice none 0 0) [] [] w7 hk okV_no (by show (0 : Nat) < _; decide) okV_no (by show (0 : Nat) ≤ _; omega) (fun r hr => by cases hr) (Terms.nil _) (by show (0 : Nat) ≤ _; omega) FitP.nil (Pairs.nil _) (hv.ext hE)
   have hGe : G = ((((k : Nat) : Int), (0, a), ⟨#[]⟩, noV, noSp, []), qa, true) := by rw [← hGd.out]; simp only [rdF, rdA, rdT, rdV, rdX, rdL, cond_true, cond_false, Bool.true_and, Bool.false_and, Bool.and_true, Bool.and_false, ra]; first | done | rfl
   subst hGe
   have hGN := fun U => GotO.no w.heap.size U (((((k : Nat) : Int), (0, a), ⟨#[]⟩, noV, noSp, []), qa, true) : OpQ × Int × Bool)
   have hGY : rightO (((k : Nat) : Int), (0, a), ⟨#[]⟩, noV, noSp, []) = true → finO ((((k : Nat) : Int), (0, a), ⟨#[]⟩, noV, noSp, []), qa, true) = ((((k : Nat) : Int), (0, a), ⟨#[]⟩, noV, noSp, []), qa, true) := fun h => by unfold finO; rw [if_pos ⟨rfl, h⟩]
   have hOk : OkO (((k : Nat) : Int), (0, a), ⟨#[]⟩, noV, noSp, []) := ⟨hk, u64_zero, fa, okV_no, (by show (0 : Nat) < _; decide), okV_no, (by show (0 : Nat) ≤ _; omega), FitP.nil⟩
   cases hro : rightO (((k : Nat) : Int), (0, a), ⟨#[]⟩, noV, noSp, []) with
   | false =>
    replace hGN := Lib.hid (fun U => hGN U (fun h => by rw [hro] at h; cases h.2))
    rw [hro] at CR
    replace CR := Lib.hid CR
    clear hro hGY
    obtain ⟨gl, g0, g1, g2, g3, g4, g5⟩ := hG.six
    go_wp2_with (refine wpList_load_row_g (by kernel_rfl) 33 _ rfl bA rfl _ _ _ _ hA Tryz.underlying33 rfl (by kernel_rfl) ?_)
    refine CR.out.mono ?_; rintro e_ wq ⟨rfl, hq⟩
    clear gl g0 g1 g2 g3 g4 g5
    replace hA := hA.ext hq
    replace hE := hE.trans hq
    have hZ := hA.setRow zOp
    go_wp2_with (refine wpList_store_row (cells := zOp.toArray) rfl 33 _ _ rfl bA rfl rfl _ _ hA (by kernel_rfl) rfl (by first | rfl | decide | simp [Value.oneCell']) ?_)
    refine bodyPost_ret (results_row3 (p := 4) (t := 5) (u := 6) rfl _ _ _ _ _ _ _ rfl hZ Tryz.underlying33 rfl (by kernel_rfl)) rfl ?_
    exact ⟨hGN.out _, Ext.setRow hE hwA _⟩
   | true =>
    have hFe := Lib.hid (hGY hro)
    rw [hro] at CR
    replace CR := Lib.hid CR
    clear hro hGN hGY
    obtain ⟨gl, g0, g1, g2, g3, g4, g5⟩ := hG.six
    go_wp2_with (refine wpList_load_row_g (by kernel_rfl) 33 _ rfl bA rfl _ _ _ _ hA Tryz.underlying33 rfl (by kernel_rfl) ?_)
    refine CR.out.mono ?_; rintro e_ wq ⟨rfl, hq⟩
    clear gl g0 g1 g2 g3 g4 g5
    replace hA := hA.ext hq
    replace hE := hE.trans hq
    have hZ := hA.setRow [.int .i64 (k : Nat), .int .u64 0, .int .u64 (a : Nat), .string ⟨#[]⟩, .int .u64 0, .int .u64 0, .int .u64 0, .int .u64 0, .string ⟨#[]⟩, .int .u64 0, .int .u64 0, .int .u64 0, .int .u64 0, .int .i64 0, .int .i64 0, .int .i64 0, .slice none 0 0, .slice none 0 0]
    go_wp2_with (first | (refine wpList_load_row rfl 33 _ rfl bA rfl _ _ _ _ hA Tryz.underlying33 rfl (by kernel_rfl) ?_) | (refine wpList_store_row (cells := #[.int .i64 (k : Nat), .int .u64 0, .int .u64 (a : Nat), .string ⟨#[]⟩, .int .u64 0, .int .u64 0, .int .u64 0, .int .u64 0, .string ⟨#[]⟩, .int .u64 0, .int .u64 0, .int .u64 0, .int .u64 0, .int .i64 0, .int .i64 0, .int .i64 0, .slice none 0 0, .slice none 0 0]) rfl 33 _ _ rfl bA rfl rfl _ _ hA (by kernel_rfl) rfl (by first | rfl | decide | simp [Value.oneCell']) ?_))
    refine bodyPost_ret (results_row3 (p := 4) (t := 5) (u := 6) rfl _ _ _ _ _ _ _ rfl hZ Tryz.underlying33 rfl (by kernel_rfl)) rfl ?_
    refine ⟨?_, Ext.setRow hE hwA _⟩
    rw [hFe.out]
    refine ⟨.slice none 0 0, .slice none 0 0, [], rfl, ?_, (fun r hr => by cases hr), (by show (0 : Nat) ≤ _; omega), rfl, ?_, hOk, OwnT.nil _, (fun c h => by cases h)⟩
    ·exact Terms.nil _
    ·exact Pairs.nil _
 ·skip
  have CT := fun U => wgettext_w s q 98 U hs (by omega)
  obtain ⟨⟨t, qt, bt⟩, rt⟩ : ∃ r, atI (getTextL 98) [] s.data.toList q = r := ⟨_, rfl⟩
  rw [rt] at CT
  simp only at CT
  replace CT := Lib.hid CT
  obtain ⟨gl, g0, g1, g2, g3, g4, g5⟩ := hG.six
  go_wp2_with fail
  refine (CT.out _).mono ?_; rintro e_ w6 ⟨rfl, h6⟩
  clear gl g0 g1 g2 g3 g4 g5
  replace hA := hA.ext h6
  replace hG := hG.ext h6
  replace hE := hE.trans h6
  clear h6
  have al := hA.lt
  have a3 := hA.at 3 rfl
  have af3 := hA.free 3
  go_upto_region 12 with fail
  clear al a3 af3
  obtain ⟨w7, hW, hA', hG', hE', hO⟩ := set_cells [(3, .string ⟨t.toArray⟩)] hA hG hAF hE hwA
  simp only [List.foldl] at hW
  rw [hW]
  clear hA hG hE hW
  have hA : RB bA 33 [.int .i64 (k : Nat), .int .u64 0, .int .u64 0, .string ⟨t.toArray⟩, .int .u64 0, .int .u64 0, .int .u64 0, .int .u64 0, .string ⟨#[]⟩, .int .u64 0, .int .u64 0, .int .u64 0, .int .u64 0, .int .i64 0, .int .i64 0, .int .i64 0, .slice none 0 0, .slice none 0 0] w7 := hA'
  have hG := hG'
  have hE := hE'
  clear hA' hG' hE'
  clear hO
  cases bt with
  | false =>
   obtain ⟨gl, g0, g1, g2, g3, g4, g5⟩ := hG.six
   have hZ := hA.setRow zOp
   go_wp2_with (first | (refine wpList_load_row rfl 33 _ rfl bA rfl _ _ _ _ hA Tryz.underlying33 rfl (by kernel_rfl) ?_) | (refine wpList_store_row (cells := zOp.toArray) rfl 33 _ _ rfl bA rfl rfl _ _ hA (by kernel_rfl) rfl (by first | rfl | decide | simp [Value.oneCell']) ?_))
   refine bodyPost_ret (results_row3 (p := 4) (t := 5) (u := 6) rfl _ _ _ _ _ _ _ rfl hZ Tryz.underlying33 rfl (by kernel_rfl)) rfl ?_
   have hGe : G = ((((k : Nat) : Int), (0, 0), ⟨t.toArray⟩, noV, noSp, []), qt, false) := by rw [← hGd.out]; simp only [rdF, rdA, rdT, rdV, rdX, rdL, cond_true, cond_false, Bool.true_and, Bool.false_and, Bool.and_true, Bool.and_false, rt]; first | done | rfl
   subst hGe
   exact ⟨GotO.no _ _ _ (fun h => by cases h.1), Ext.setRow hE hwA _⟩
  | true =>
   have CR : Calls Tryz.prog 25 #[.agg #[.int .i64 (k : Nat), .int .u64 0, .int .u64 0, .string ⟨t.toArray⟩, .int .u64 0, .int .u64 0, .int .u64 0, .int .u64 0, .string ⟨#[]⟩, .int .u64 0, .int .u64 0, .int .u64 0, .int .u64 0, .int .i64 0, .int .i64 0, .int .i64 0, .slice none 0 0, .slice none 0 0]] w7 fun e_ w' => e_ = .returned (.bool (rightO (((k : Nat) : Int), (0, 0), ⟨t.toArray⟩, noV, noSp, []))) ∧ Ext w7 w' :=
    aright_w k 0 0 ⟨t.toArray⟩ noV ⟨#[]⟩ noV (0, 0, 0) (.slice none 0 0) (.slice none 0 0) [] [] w7 hk okV_no (by show (0 : Nat) < _; decide) okV_no (by show (0 : Nat) ≤ _; omega) (fun r hr => by cases hr) (Terms.nil _) (by show (0 : Nat) ≤ _; omega) FitP.nil (Pairs.nil _) (hv.ext hE)
   have hGe : G = ((((k : Nat) : Int), (0, 0), ⟨t.toArray⟩, noV, noSp, []), qt, true) := by rw [← hGd.out]; simp only [rdF, rdA, rdT, rdV, rdX, rdL, cond_true, cond_false, Bool.true_and, Bool.false_and, Bool.and_true, Bool.and_false, rt]; first | done | rfl
   subst hGe
   have hGN := fun U => GotO.no w.heap.size U (((((k : Nat) : Int), (0, 0), ⟨t.toArray⟩, noV, noSp, []), qt, true) : OpQ × Int × Bool)
   have hGY : rightO (((k : Nat) : Int), (0, 0), ⟨t.toArray⟩, noV, noSp, []) = true → finO ((((k : Nat) : Int), (0, 0), ⟨t.toArray⟩, noV, noSp, []), qt, true) = ((((k : Nat) : Int), (0, 0), ⟨t.toArray⟩, noV, noSp, []), qt, true) := fun h => by unfold finO; rw [if_pos ⟨rfl, h⟩]
   have hOk : OkO (((k : Nat) : Int), (0, 0), ⟨t.toArray⟩, noV, noSp, []) := ⟨hk, u64_zero, u64_zero, okV_no, (by show (0 : Nat) < _; decide), okV_no, (by show (0 : Nat) ≤ _; omega), FitP.nil⟩
   cases hro : rightO (((k : Nat) : Int), (0, 0), ⟨t.toArray⟩, noV, noSp, []) with
   | false =>
    replace hGN := Lib.hid (fun U => hGN U (fun h => by rw [hro] at h; cases h.2))
    rw [hro] at CR
    replace CR := Lib.hid CR
    clear hro hGY
    obtain ⟨gl, g0, g1, g2, g3, g4, g5⟩ := hG.six
    go_wp2_with (refine wpList_load_row_g (by kernel_rfl) 33 _ rfl bA rfl _ _ _ _ hA Tryz.underlying33 rfl (by kernel_rfl) ?_)
    refine CR.out.mono ?_; rintro e_ wq ⟨rfl, hq⟩
    clear gl g0 g1 g2 g3 g4 g5
    replace hA := hA.ext hq
    replace hE := hE.trans hq
    have hZ := hA.setRow zOp
    go_wp2_with (refine wpList_store_row (cells := zOp.toArray) rfl 33 _ _ rfl bA rfl rfl _ _ hA (by kernel_rfl) rfl (by first | rfl | decide | simp [Value.oneCell']) ?_)
    refine bodyPost_ret (results_row3 (p := 4) (t := 5) (u := 6) rfl _ _ _ _ _ _ _ rfl hZ Tryz.underlying33 rfl (by kernel_rfl)) rfl ?_
    exact ⟨hGN.out _, Ext.setRow hE hwA _⟩
   | true =>
    have hFe := Lib.hid (hGY hro)
    rw [hro] at CR
    replace CR := Lib.hid CR
    clear hro hGN hGY
    obtain ⟨gl, g0, g1, g2, g3, g4, g5⟩ := hG.six
    go_wp2_with (refine wpList_load_row_g (by kernel_rfl) 33 _ rfl bA rfl _ _ _ _ hA Tryz.underlying33 rfl (by kernel_rfl) ?_)
    refine CR.out.mono ?_; rintro e_ wq ⟨rfl, hq⟩
    clear gl g0 g1 g2 g3 g4 g5
    replace hA := hA.ext hq
    replace hE := hE.trans hq
    have hZ := hA.setRow [.int .i64 (k : Nat), .int .u64 0, .int .u64 0, .string ⟨t.toArray⟩, .int .u64 0, .int .u64 0, .int .u64 0, .int .u64 0, .string ⟨#[]⟩, .int .u64 0, .int .u64 0, .int .u64 0, .int .u64 0, .int .i64 0, .int .i64 0, .int .i64 0, .slice none 0 0, .slice none 0 0]
    go_wp2_with (first | (refine wpList_load_row rfl 33 _ rfl bA rfl _ _ _ _ hA Tryz.underlying33 rfl (by kernel_rfl) ?_) | (refine wpList_store_row (cells := #[.int .i64 (k : Nat), .int .u64 0, .int .u64 0, .string ⟨t.toArray⟩, .int .u64 0, .int .u64 0, .int .u64 0, .int .u64 0, .string ⟨#[]⟩, .int .u64 0, .int .u64 0, .int .u64 0, .int .u64 0, .int .i64 0, .int .i64 0, .int .i64 0, .slice none 0 0, .slice none 0 0]) rfl 33 _ _ rfl bA rfl rfl _ _ hA (by kernel_rfl) rfl (by first | rfl | decide | simp [Value.oneCell']) ?_))
    refine bodyPost_ret (results_row3 (p := 4) (t := 5) (u := 6) rfl _ _ _ _ _ _ _ rfl hZ Tryz.underlying33 rfl (by kernel_rfl)) rfl ?_
    refine ⟨?_, Ext.setRow hE hwA _⟩
    rw [hFe.out]
    refine ⟨.slice none 0 0, .slice none 0 0, [], rfl, ?_, (fun r hr => by cases hr), (by show (0 : Nat) ≤ _; omega), rfl, ?_, hOk, OwnT.nil _, (fun c h => by cases h)⟩
    ·exact Terms.nil _
    ·exact Pairs.nil _
 ·skip
  have CV := fun U => vget_w s q U hs
  obtain ⟨⟨d, qd, bd⟩, rd⟩ : ∃ r, getV s.data.toList q = r := ⟨_, rfl⟩
  rw [rd] at CV
  have hdo : bd = true → OkV d := fun h => ((getV_iff hU).1 (h ▸ rd)).1
  unfold vVal vF at CV
  simp only at CV
  replace CV := Lib.hid CV
  obtain ⟨gl, g0, g1, g2, g3, g4, g5⟩ := hG.six
  go_wp2_with fail
  refine (CV.out _).mono ?_; rintro e_ w6 ⟨rfl, h6⟩
  clear gl g0 g1 g2 g3 g4 g5
  replace hA := hA.ext h6
  replace hG := hG.ext h6
  replace hE := hE.trans h6
  clear h6
  have al := hA.lt
  have a4 := hA.at 4 rfl
  have af4 := hA.free 4
  have a5 := hA.at 5 rfl
  have af5 := hA.free 5
  have a6 := hA.at 6 rfl
  have af6 := hA.free 6
  have a7 := hA.at 7 rfl
  have af7 := hA.free 7
  go_upto_region 14 with fail
  clear al a4 af4 a5 af5 a6 af6 a7 af7
  obtain ⟨w7, hW, hA', hG', hE', hO⟩ := set_cells [(4, .int .u64 (vG d 0 : Nat)), (5, .int .u64 (vG d 1 : Nat)), (6, .int .u64 (vG d 2 : Nat)), (7, .int .u64 (vG d 3 : Nat))] hA hG hAF hE hwA
  simp only [List.foldl] at hW
  rw [hW]
  clear hA hG hE hW
  have hA : RB bA 33 [.int .i64 (k : Nat), .int .u64 0, .int .u64 0, .string ⟨#[]⟩, .int .u64 (vG d 0 : Nat), .int .u64 (vG d 1 : Nat), .int .u64 (vG d 2 : Nat), .int .u64 (vG d 3 : Nat), .string ⟨#[]⟩, .int .u64 0, .int .u64 0, .int .u64 0, .int .u64 0, .int .i64 0, .int .i64 0, .int .i64 0, .slice none 0 0, .slice none 0 0] w7 := hA'
  have hG := hG'
  have hE := hE'
  clear hA' hG' hE'
  clear hO
  cases bd with
  | false =>
   obtain ⟨gl, g0, g1, g2, g3, g4, g5⟩ := hG.six
   have hZ := hA.setRow zOp
   go_wp2_with (first | (refine wpList_load_row rfl 33 _ rfl bA rfl _ _ _ _ hA Tryz.underlying33 rfl (by kernel_rfl) ?_) | (refine wpList_store_row (cells := zOp.toArray) rfl 33 _ _ rfl bA rfl rfl _ _ hA (by kernel_rfl) rfl (by first | rfl | decide | simp [Value.oneCell']) ?_))
   refine bodyPost_ret (results_row3 (p := 4) (t := 5) (u := 6) rfl _ _ _ _ _ _ _ rfl hZ Tryz.underlying33 rfl (by kernel_rfl)) rfl ?_
   have hGe : G = ((((k : Nat) : Int), (0, 0), ⟨#[]⟩, d, noSp, []), qd, false) := by rw [← hGd.out]; simp only [rdF, rdA, rdT, rdV, rdX, rdL, cond_true, cond_false, Bool.true_and, Bool.false_and, Bool.and_true, Bool.and_false, rd]; first | done | rfl
   subst hGe
   exact ⟨GotO.no _ _ _ (fun h => by cases h.1), Ext.setRow hE hwA _⟩
  | true =>
   have CR : Calls Tryz.prog 25 #[.agg #[.int .i64 (k : Nat), .int .u64 0, .int .u64 0, .string ⟨#[]⟩, .int .u64 (vG d 0 : Nat), .int .u64 (vG d 1 : Nat), .int .u64 (vG d 2 : Nat), .int .u64 (vG d 3 : Nat), .string ⟨#[]⟩, .int .u64 0, .int .u64 0, .int .u64 0, .int .u64 0, .int .i64 0, .int .i64 0, .int .i64 0, .slice none 0 0, .slice none 0 0]] w7 fun e_ w' => e_ = .returned (.bool (rightO (((k : Nat) : Int), (0, 0), ⟨#[]⟩, d, noSp, []))) ∧ Ext w7 w' :=
    aright_w k 0 0 ⟨#[]⟩ d ⟨#[]⟩ noV (0, 0, 0) (.slice none 0 0) (.slice none 0 0) [] [] w7 hk (hdo (by first | rfl | trivial)) (by show (0 : Nat) < _; decide) okV_no (by show (0 : Nat) ≤ _; omega) (fun r hr => by cases hr) (Terms.nil _) (by show (0 : Nat) ≤ _; omega) FitP.nil (Pairs.nil _) (hv.ext hE)
   have hGe : G = ((((k : Nat) : Int), (0, 0), ⟨#[]⟩, d, noSp, []), qd, true) := by rw [← hGd.out]; simp only [rdF, rdA, rdT, rdV, rdX, rdL, cond_true, cond_false, Bool.true_and, Bool.false_and, Bool.and_true, Bool.and_false, rd]; first | done | rfl
   subst hGe
   have hGN := fun U => GotO.no w.heap.size U (((((k : Nat) : Int), (0, 0), ⟨#[]⟩, d, noSp, []), qd, true) : OpQ × Int × Bool)
   have hGY : rightO (((k : Nat) : Int), (0, 0), ⟨#[]⟩, d, noSp, []) = true → finO ((((k : Nat) : Int), (0, 0), ⟨#[]⟩, d, noSp, []), qd, true) = ((((k : Nat) : Int), (0, 0), ⟨#[]⟩, d, noSp, []), qd, true) := fun h => by unfold finO; rw [if_pos ⟨rfl, h⟩]
   have hOk : OkO (((k : Nat) : Int), (0, 0), ⟨#[]⟩, d, noSp, []) := ⟨hk, u64_zero, u64_zero, (hdo (by first | rfl | trivial)), (by show (0 : Nat) < _; decide), okV_no, (by show (0 : Nat) ≤ _; omega), FitP.nil⟩
   cases hro : rightO (((k : Nat) : Int), (0, 0), ⟨#[]⟩, d, noSp, []) with
   | false =>
    replace hGN := Lib.hid (fun U => hGN U (fun h => by rw [hro] at h; cases h.2))
    rw [hro] at CR
    replace CR := Lib.hid CR
    clear hro hGY
    obtain ⟨gl, g0, g1, g2, g3, g4, g5⟩ := hG.six
    go_wp2_with (refine wpList_load_row_g (by kernel_rfl) 33 _ rfl bA rfl _ _ _ _ hA Tryz.underlying33 rfl (by kernel_rfl) ?_)
    refine CR.out.mono ?_; rintro e_ wq ⟨rfl, hq⟩
    clear gl g0 g1 g2 g3 g4 g5
    replace hA := hA.ext hq
    replace hE := hE.trans hq
    have hZ := hA.setRow zOp
    go_wp2_with (refine wpList_store_row (cells := zOp.toArray) rfl 33 _ _ rfl bA rfl rfl _ _ hA (by kernel_rfl) rfl (by first | rfl | decide | simp [Value.oneCell']) ?_)
    refine bodyPost_ret (results_row3 (p := 4) (t := 5) (u := 6) rfl _ _ _ _ _ _ _ rfl hZ Tryz.underlying33 rfl (by kernel_rfl)) rfl ?_
    exact ⟨hGN.out _, Ext.setRow hE hwA _⟩
   | true =>
    have hFe := Lib.hid (hGY hro)
    rw [hro] at CR
    replace CR := Lib.hid CR
    clear hro hGN hGY
    obtain ⟨gl, g0, g1, g2, g3, g4, g5⟩ := hG.six
    go_wp2_with (refine wpList_load_row_g (by kernel_rfl) 33 _ rfl bA rfl _ _ _ _ hA Tryz.underlying33 rfl (by kernel_rfl) ?_)
    refine CR.out.mono ?_; rintro e_ wq ⟨rfl, hq⟩
    clear gl g0 g1 g2 g3 g4 g5
    replace hA := hA.ext hq
    replace hE := hE.trans hq
    have hZ := hA.setRow [.int .i64 (k : Nat), .int .u64 0, .int .u64 0, .string ⟨#[]⟩, .int .u64 (vG d 0 : Nat), .int .u64 (vG d 1 : Nat), .int .u64 (vG d 2 : Nat), .int .u64 (vG d 3 : Nat), .string ⟨#[]⟩, .int .u64 0, .int .u64 0, .int .u64 0, .int .u64 0, .int .i64 0, .int .i64 0, .int .i64 0, .slice none 0 0, .slice none 0 0]
    go_wp2_with (first | (refine wpList_load_row rfl 33 _ rfl bA rfl _ _ _ _ hA Tryz.underlying33 rfl (by kernel_rfl) ?_) | (refine wpList_store_row (cells := #[.int .i64 (k : Nat), .int .u64 0, .int .u64 0, .string ⟨#[]⟩, .int .u64 (vG d 0 : Nat), .int .u64 (vG d 1 : Nat), .int .u64 (vG d 2 : Nat), .int .u64 (vG d 3 : Nat), .string ⟨#[]⟩, .int .u64 0, .int .u64 0, .int .u64 0, .int .u64 0, .int .i64 0, .int .i64 0, .int .i64 0, .slice none 0 0, .slice none 0 0]) rfl 33 _ _ rfl bA rfl rfl _ _ hA (by kernel_rfl) rfl (by first | rfl | decide | simp [Value.oneCell']) ?_))
    refine bodyPost_ret (results_row3 (p := 4) (t := 5) (u := 6) rfl _ _ _ _ _ _ _ rfl hZ Tryz.underlying33 rfl (by kernel_rfl)) rfl ?_
    refine ⟨?_, Ext.setRow hE hwA _⟩
    rw [hFe.out]
    refine ⟨.slice none 0 0, .slice none 0 0, [], rfl, ?_, (fun r hr => by cases hr), (by show (0 : Nat) ≤ _; omega), rfl, ?_, hOk, OwnT.nil _, (fun c h => by cases h)⟩
    ·exact Terms.nil _
    ·exact Pairs.nil _
 ·skip
  have CT := fun U => wgettext_w s q 98 U hs (by omega)
  obtain ⟨⟨t, qt, bt⟩, rt⟩ : ∃ r, atI (getTextL 98) [] s.data.toList q = r := ⟨_, rfl⟩
  rw [rt] at CT
  simp only at CT
  have CV := fun U => vget_w s qt U hs
  obtain ⟨⟨d, qd, bd⟩, rd⟩ : ∃ r, getV s.data.toList qt = r := ⟨_, rfl⟩
  rw [rd] at CV
  have hdo : bd = true → OkV d := fun h => ((getV_iff hU).1 (h ▸ rd)).1
  unfold vVal vF at CV
  simp only at CV
  have CB_ := fun U (h : Ext w U) => lgetO_w s qd U hs (hv.tabs.ext h)
  replace CT := Lib.hid CT
  replace CV := Lib.hid CV
  replace CB_ := Lib.hid CB_
  obtain ⟨gl, g0, g1, g2, g3, g4, g5⟩ := hG.six
  go_wp2_with fail
  refine (CT.out _).mono ?_; rintro e_ w6 ⟨rfl, h6⟩
  clear gl g0 g1 g2 g3 g4 g5
  replace hA := hA.ext h6
  replace hG := hG.ext h6
  replace hE := hE.trans h6
  clear h6
  have al := hA.lt
  have a3 := hA.at 3 rfl
  have af3 := hA.free 3
  go_upto_region 12 with fail
  clear al a3 af3
  obtain ⟨w7, hW, hA', hG', hE', hO⟩ := set_cells [(3, .string ⟨t.toArray⟩)] hA hG hAF hE hwA
  simp only [List.foldl] at hW
  rw [hW]
  clear hA hG hE hW
  have hA : RB bA 33 [.int .i64 (k : Nat), .int .u64 0, .int .u64 0, .string ⟨t.toArray⟩, .int .u64 0, .int .u64 0, .int .u64 0, .int .u64 0, .string ⟨#[]⟩, .int .u64 0, .int .u64 0, .int .u64 0, .int .u64 0, .int .i64 0, .int .i64 0, .int .i64 0, .slice none 0 0, .slice none 0 0] w7 := hA'
  have hG := hG'
  have hE := hE'
  clear hA' hG' hE'
  clear hO
  cases bt with
  | false =>
   obtain ⟨gl, g0, g1, g2, g3, g4, g5⟩ := hG.six
   have hZ := hA.setRow zOp
   go_wp2_with (first | (refine wpList_load_row rfl 33 _ rfl bA rfl _ _ _ _ hA Tryz.underlying33 rfl (by kernel_rfl) ?_) | (refine wpList_store_row (cells := zOp.toArray) rfl 33 _ _ rfl bA rfl rfl _ _ hA (by kernel_rfl) rfl (by first | rfl | decide | simp [Value.oneCell']) ?_))
   refine bodyPost_ret (results_row3 (p := 4) (t := 5) (u := 6) rfl _ _ _ _ _ _ _ rfl hZ Tryz.underlying33 rfl (by kernel_rfl)) rfl ?_
   have hGe : G = ((((k : Nat) : Int), (0, 0), ⟨t.toArray⟩, noV, noSp, []), qt, false) := by rw [← hGd.out]; simp only [rdF, rdA, rdT, rdV, rdX, rdL, cond_true, cond_false, Bool.true_and, Bool.false_and, Bool.and_true, Bool.and_false, rt]; first | done | rfl
   subst hGe
   exact ⟨GotO.no _ _ _ (fun h => by cases h.1), Ext.setRow hE hwA _⟩
  | true =>
   obtain ⟨gl, g0, g1, g2, g3, g4, g5⟩ := hG.six
   go_wp2_with fail
   refine (CV.out _).mono ?_; rintro e_ w8 ⟨rfl, h8⟩
   clear gl g0 g1 g2 g3 g4 g5
   replace hA := hA.ext h8
   replace hG := hG.ext h8
   replace hE := hE.trans h8
   clear h8
   have al := hA.lt
   have a4 := hA.at 4 rfl
   have af4 := hA.free 4
   have a5 := hA.at 5 rfl
   have af5 := hA.free 5
   have a6 := hA.at 6 rfl
   have af6 := hA.free 6
   have a7 := hA.at 7 rfl
   have af7 := hA.free 7
   go_upto_region 14 with fail
   clear al a4 af4 a5 af5 a6 af6 a7 af7
   obtain ⟨w9, hW, hA', hG', hE', hO⟩ := set_cells [(4, .int .u64 (vG d 0 : Nat)), (5, .int .u64 (vG d 1 : Nat)), (6, .int .u64 (vG d 2 : Nat)), (7, .int .u64 (vG d 3 : Nat))] hA hG hAF hE hwA
   simp only [List.foldl] at hW
   rw [hW]
   clear hA hG hE hW
   have hA : RB bA 33 [.int .i64 (k : Nat), .int .u64 0, .int .u64 0, .string ⟨t.toArray⟩, .int .u64 (vG d 0 : Nat), .int .u64 (vG d 1 : Nat), .int .u64 (vG d 2 : Nat), .int .u64 (vG d 3 : Nat), .string ⟨#[]⟩, .int .u64 0, .int .u64 0, .int .u64 0, .int .u64 0, .int .i64 0, .int .i64 0, .int .i64 0, .slice none 0 0, .slice none 0 0] w9 := hA'
   have hG := hG'
   have hE := hE'
   clear hA' hG' hE'
   clear hO
   cases bd with
   | false =>
    obtain ⟨gl, g0, g1, g2, g3, g4, g5⟩ := hG.six
    have hZ := hA.setRow zOp
    go_wp2_with (first | (refine wpList_load_row rfl 33 _ rfl bA rfl _ _ _ _ hA Tryz.underlying33 rfl (by kernel_rfl) ?_) | (refine wpList_store_row (cells := zOp.toArray) rfl 33 _ _ rfl bA rfl rfl _ _ hA (by kernel_rfl) rfl (by first | rfl | decide | simp [Value.oneCell']) ?_))
    refine bodyPost_ret (results_row3 (p := 4) (t := 5) (u := 6) rfl _ _ _ _ _ _ _ rfl hZ Tryz.underlying33 rfl (by kernel_rfl)) rfl ?_
    have hGe : G = ((((k : Nat) : Int), (0, 0), ⟨t.toArray⟩, d, noSp, []), qd, false) := by rw [← hGd.out]; simp only [rdF, rdA, rdT, rdV, rdX, rdL, cond_true, cond_false, Bool.true_and, Bool.false_and, Bool.and_true, Bool.and_false, rt, rd]; first | done | rfl
    subst hGe
    exact ⟨GotO.no _ _ _ (fun h => by cases h.1), Ext.setRow hE hwA _⟩
   | true =>
    obtain ⟨gl, g0, g1, g2, g3, g4, g5⟩ := hG.six
    go_wp2_with fail
    refine (CB_.out _ hE).mono ?_; rintro e_ w10 ⟨v_, LB, qb, bb, rfl, hP, hFP, hl8, hat, hOP, h10⟩
    obtain ⟨ql, cl, rfl, _, _⟩ := hP.shape
    have hbP := hA.lt
    have hbE := hE.size
    clear gl g0 g1 g2 g3 g4 g5
    replace hA := hA.ext h10
    replace hG := hG.ext h10
    replace hE := hE.trans h10
    clear h10
    have al := hA.lt
    have a17 := hA.at 17 rfl
    have af17 := hA.free 17
    go_upto_region 18 with fail
    clear al a17 af17
    obtain ⟨w11, hW, hA', hG', hE', hO⟩ := set_cells [(17, .slice ql LB.length cl)] hA hG hAF hE hwA
    simp only [List.foldl] at hW
    rw [hW]
    clear hA hG hE hW
    have hA : RB bA 33 [.int .i64 (k : Nat), .int .u64 0, .int .u64 0, .string ⟨t.toArray⟩, .int .u64 (vG d 0 : Nat), .int .u64 (vG d 1 : Nat), .int .u64 (vG d 2 : Nat), .int .u64 (vG d 3 : Nat), .string ⟨#[]⟩, .int .u64 0, .int .u64 0, .int .u64 0, .int .u64 0, .int .i64 0, .int .i64 0, .int .i64 0, .slice none 0 0, .slice ql LB.length cl] w11 := hA'
    have hG := hG'
    have hE := hE'
    clear hA' hG' hE'
    replace hP := hP.off hOP hbP hO
    clear hO
    cases bb with
    | false =>
     obtain ⟨gl, g0, g1, g2, g3, g4, g5⟩ := hG.six
     have hZ := hA.setRow zOp
     go_wp2_with (first | (refine wpList_load_row rfl 33 _ rfl bA rfl _ _ _ _ hA Tryz.underlying33 rfl (by kernel_rfl) ?_) | (refine wpList_store_row (cells := zOp.toArray) rfl 33 _ _ rfl bA rfl rfl _ _ hA (by kernel_rfl) rfl (by first | rfl | decide | simp [Value.oneCell']) ?_))
     refine bodyPost_ret (results_row3 (p := 4) (t := 5) (u := 6) rfl _ _ _ _ _ _ _ rfl hZ Tryz.underlying33 rfl (by kernel_rfl)) rfl ?_
     have hGe : G = ((((k : Nat) : Int), (0, 0), ⟨t.toArray⟩, d, noSp, LB), qb, false) := by rw [← hGd.out]; simp only [rdF, rdA, rdT, rdV, rdX, rdL, cond_true, cond_false, Bool.true_and, Bool.false_and, Bool.and_true, Bool.and_false, rt, rd, hat, unP_lab]; first | done | rfl
     subst hGe
     exact ⟨GotO.no _ _ _ (fun h => by cases h.1), Ext.setRow hE hwA _⟩
    | true =>
     have CR : Calls Tryz.prog 25 #[.agg #[.int .i64 (k : Nat), .int .u64 0, .int .u64 0, .string ⟨t.toArray⟩, .int .u64 (vG d 0 : Nat), .int .u64 (vG d 1 : Nat), .int .u64 (vG d 2 : Nat), .int .u64 (vG d 3 : Nat), .string ⟨#[]⟩, .int .u64 0, .int .u64 0, .int .u64 0, .int .u64 0, .int .i64 0, .int .i64 0, .int .i64 0, .slice none 0 0, .slice ql LB.length cl]] w11 fun e_ w' => e_ = .returned (.bool (rightO (((k : Nat) : Int), (0, 0), ⟨t.toArray⟩, d, noSp, LB))) ∧ Ext w11 w' :=
      aright_w k 0 0 ⟨t.toArray⟩ d ⟨#[]⟩ noV (0, 0, 0) (.slice none 0 0) (.slice ql LB.length cl) [] LB w11 hk (hdo (by first | rfl | trivial)) (by show (0 : Nat) < _; decide) okV_no (by show (0 : Nat) ≤ _; omega) (fun r hr => by cases hr) (Terms.nil _) (Nat.le_trans hl8 (by decide)) hFP hP (hv.ext hE)
     have hGe : G = ((((k : Nat) : Int), (0, 0), ⟨t.toArray⟩, d, noSp, LB), qb, true) := by rw [← hGd.out]; simp only [rdF, rdA, rdT, rdV, rdX, rdL, cond_true, cond_false, Bool.true_and, Bool.false_and, Bool.and_true, Bool.and_false, rt, rd, hat, unP_lab]; first | done | rfl
     subst hGe
     have hGN := fun U => GotO.no w.heap.size U (((((k : Nat) : Int), (0, 0), ⟨t.toArray⟩, d, noSp, LB), qb, true) : OpQ × Int × Bool)
     have hGY : rightO (((k : Nat) : Int), (0, 0), ⟨t.toArray⟩, d, noSp, LB) = true → finO ((((k : Nat) : Int), (0, 0), ⟨t.toArray⟩, d, noSp, LB), qb, true) = ((((k : Nat) : Int), (0, 0), ⟨t.toArray⟩, d, noSp, LB), qb, true) := fun h => by unfold finO; rw [if_pos ⟨rfl, h⟩]
     have hOk : OkO (((k : Nat) : Int), (0, 0), ⟨t.toArray⟩, d, noSp, LB) := ⟨hk, u64_zero, u64_zero, (hdo (by first | rfl | trivial)), (by show (0 : Nat) < _; decide), okV_no, (Nat.le_trans hl8 (by decide)), hFP⟩
     cases hro : rightO (((k : Nat) : Int), (0, 0), ⟨t.toArray⟩, d, noSp, LB) with
     | false =>
      replace hGN := Lib.hid (fun U => hGN U (fun h => by rw [hro] at h; cases h.2))
      rw [hro] at CR
      replace CR := Lib.hid CR
      clear hro hGY
      obtain ⟨gl, g0, g1, g2, g3, g4, g5⟩ := hG.six
      go_wp2_with (refine wpList_load_row_g (by kernel_rfl) 33 _ rfl bA rfl _ _ _ _ hA Tryz.underlying33 rfl (by kernel_rfl) ?_)
      refine CR.out.mono ?_; rintro e_ wq ⟨rfl, hq⟩
      clear gl g0 g1 g2 g3 g4 g5
      replace hA := hA.ext hq
      replace hE := hE.trans hq
      have hZ := hA.setRow zOp
      go_wp2_with (refine wpList_store_row (cells := zOp.toArray) rfl 33 _ _ rfl bA rfl rfl _ _ hA (by kernel_rfl) rfl (by first | rfl | decide | simp [Value.oneCell']) ?_)
      refine bodyPost_ret (results_row3 (p := 4) (t := 5) (u := 6) rfl _ _ _ _ _ _ _ rfl hZ Tryz.underlying33 rfl (by kernel_rfl)) rfl ?_
      exact ⟨hGN.out _, Ext.setRow hE hwA _⟩
     | true =>
      have hFe := Lib.hid (hGY hro)
      rw [hro] at CR
      replace CR := Lib.hid CR
      clear hro hGN hGY
      obtain ⟨gl, g0, g1, g2, g3, g4, g5⟩ := hG.six
      go_wp2_with (refine wpList_load_row_g (by kernel_rfl) 33 _ rfl bA rfl _ _ _ _ hA Tryz.underlying33 rfl (by kernel_rfl) ?_)
      refine CR.out.mono ?_; rintro e_ wq ⟨rfl, hq⟩
      clear gl g0 g1 g2 g3 g4 g5
      replace hA := hA.ext hq
      replace hE := hE.trans hq
      replace hP := hP.ext hq
      have hZ := hA.setRow [.int .i64 (k : Nat), .int .u64 0, .int .u64 0, .string ⟨t.toArray⟩, .int .u64 (vG d 0 : Nat), .int .u64 (vG d 1 : Nat), .int .u64 (vG d 2 : Nat), .int .u64 (vG d 3 : Nat), .string ⟨#[]⟩, .int .u64 0, .int .u64 0, .int .u64 0, .int .u64 0, .int .i64 0, .int .i64 0, .int .i64 0, .slice none 0 0, .slice ql LB.length cl]
      go_wp2_with (first | (refine wpList_load_row rfl 33 _ rfl bA rfl _ _ _ _ hA Tryz.underlying33 rfl (by kernel_rfl) ?_) | (refine wpList_store_row (cells := #[.int .i64 (k : Nat), .int .u64 0, .int .u64 0, .string ⟨t.toArray⟩, .int .u64 (vG d 0 : Nat), .int .u64 (vG d 1 : Nat), .int .u64 (vG d 2 : Nat), .int .u64 (vG d 3 : Nat), .string ⟨#[]⟩, .int .u64 0, .int .u64 0, .int .u64 0, .int .u64 0, .int .i64 0, .int .i64 0, .int .i64 0, .slice none 0 0, .slice ql LB.length cl]) rfl 33 _ _ rfl bA rfl rfl _ _ hA (by kernel_rfl) rfl (by first | rfl | decide | simp [Value.oneCell']) ?_))
      refine bodyPost_ret (results_row3 (p := 4) (t := 5) (u := 6) rfl _ _ _ _ _ _ _ rfl hZ Tryz.underlying33 rfl (by kernel_rfl)) rfl ?_
      refine ⟨?_, Ext.setRow hE hwA _⟩
      rw [hFe.out]
      refine ⟨.slice none 0 0, .slice ql LB.length cl, [], rfl, ?_, (fun r hr => by cases hr), (by show (0 : Nat) ≤ _; omega), rfl, ?_, hOk, OwnT.nil _, (fun c h => Nat.le_trans hbE (hOP c h))⟩
      ·exact Terms.nil _
      ·exact hP.off hOP hbP ((Off.refl bA wq).setRow _)
 ·skip
  have CR : Calls Tryz.prog 25 #[.agg #[.int .i64 (k : Nat), .int .u64 0, .int .u64 0, .string ⟨#[]⟩, .int .u64 0, .int .u64 0, .int .u64 0, .int .u64 0, .string ⟨#[]⟩, .int .u64 0, .int .u64 0, .int .u64 0, .int .u64 0, .int .i64 0, .int .i64 0, .int .i64 0, .slice none 0 0, .slice none 0 0]] w4 fun e_ w' => e_ = .returned (.bool (rightO (((k : Nat) : Int), (0, 0), ⟨#[]⟩, noV, noSp, []))) ∧ Ext w4 w' :=
   aright_w k 0 0 ⟨#[]⟩ noV ⟨#[]⟩ noV (0, 0, 0) (.slice none 0 0) (.slice none 0 0) [] [] w4 hk okV_no (by show (0 : Nat) < _; decide) okV_no (by show (0 : Nat) ≤ _; omega) (fun r hr => by cases hr) (Terms.nil _) (by show (0 : Nat) ≤ _; omega) FitP.nil (Pairs.nil _) (hv.ext hE)
  have hGe : G = ((((k : Nat) : Int), (0, 0), ⟨#[]⟩, noV, noSp, []), q, true) := by rw [← hGd.out]; simp only [rdF, rdA, rdT, rdV, rdX, rdL, cond_true, cond_false, Bool.true_and, Bool.false_and, Bool.and_true, Bool.and_false]; first | done | rfl
  subst hGe
  have hGN := fun U => GotO.no w.heap.size U (((((k : Nat) : Int), (0, 0), ⟨#[]⟩, noV, noSp, []), q, true) : OpQ × Int × Bool)
  have hGY : rightO (((k : Nat) : Int), (0, 0), ⟨#[]⟩, noV, noSp, []) = true → finO ((((k : Nat) : Int), (0, 0), ⟨#[]⟩, noV, noSp, []), q, true) = ((((k : Nat) : Int), (0, 0), ⟨#[]⟩, noV, noSp, []), q, true) := fun h => by unfold finO; rw [if_pos ⟨rfl, h⟩]
  have hOk : OkO (((k : Nat) : Int), (0, 0), ⟨#[]⟩, noV, noSp, []) := ⟨hk, u64_zero, u64_zero, okV_no, (by show (0 : Nat) < _; decide), okV_no, (by show (0 : Nat) ≤ _; omega), FitP.nil⟩
  cases hro : rightO (((k : Nat) : Int), (0, 0), ⟨#[]⟩, noV, noSp, []) with
  | false =>
   replace hGN := Lib.hid (fun U => hGN U (fun h => by rw [hro] at h; cases h.2))
   rw [hro] at CR
   replace CR := Lib.hid CR
   clear hro hGY
   obtain ⟨gl, g0, g1, g2, g3, g4, g5⟩ := hG.six
   go_wp2_with (refine wpList_load_row_g (by kernel_rfl) 33 _ rfl bA rfl _ _ _ _ hA Tryz.underlying33 rfl (by kernel_rfl) ?_)
   refine CR.out.mono ?_; rintro e_ wq ⟨rfl, hq⟩
   clear gl g0 g1 g2 g3 g4 g5
   replace hA := hA.ext hq
   replace hE := hE.trans hq
   have hZ := hA.setRow zOp
   go_wp2_with (refine wpList_store_row (cells := zOp.toArray) rfl 33 _ _ rfl bA rfl rfl _ _ hA (by kernel_rfl) rfl (by first | rfl | decide | simp [Value.oneCell']) ?_)
   refine bodyPost_ret (results_row3 (p := 4) (t := 5) (u := 6) rfl _ _ _ _ _ _ _ rfl hZ Tryz.underlying33 rfl (by kernel_rfl)) rfl ?_
   exact ⟨hGN.out _, Ext.setRow hE hwA _⟩
  | true =>
   have hFe := Lib.hid (hGY hro)
   rw [hro] at CR
   replace CR := Lib.hid CR
   clear hro hGN hGY
   obtain ⟨gl, g0, g1, g2, g3, g4, g5⟩ := hG.six
   go_wp2_with (refine wpList_load_row_g (by kernel_rfl) 33 _ rfl bA rfl _ _ _ _ hA Tryz.underlying33 rfl (by kernel_rfl) ?_)
   refine CR.out.mono ?_; rintro e_ wq ⟨rfl, hq⟩
   clear gl g0 g1 g2 g3 g4 g5
   replace hA := hA.ext hq
   replace hE := hE.trans hq
   have hZ := hA.setRow [.int .i64 (k : Nat), .int .u64 0, .int .u64 0, .string ⟨#[]⟩, .int .u64 0, .int .u64 0, .int .u64 0, .int .u64 0, .string ⟨#[]⟩, .int .u64 0, .int .u64 0, .int .u64 0, .int .u64 0, .int .i64 0, .int .i64 0, .int .i64 0, .slice none 0 0, .slice none 0 0]
   go_wp2_with (first | (refine wpList_load_row rfl 33 _ rfl bA rfl _ _ _ _ hA Tryz.underlying33 rfl (by kernel_rfl) ?_) | (refine wpList_store_row (cells := #[.int .i64 (k : Nat), .int .u64 0, .int .u64 0, .string ⟨#[]⟩, .int .u64 0, .int .u64 0, .int .u64 0, .int .u64 0, .string ⟨#[]⟩, .int .u64 0, .int .u64 0, .int .u64 0, .int .u64 0, .int .i64 0, .int .i64 0, .int .i64 0, .slice none 0 0, .slice none 0 0]) rfl 33 _ _ rfl bA rfl rfl _ _ hA (by kernel_rfl) rfl (by first | rfl | decide | simp [Value.oneCell']) ?_))
   refine bodyPost_ret (results_row3 (p := 4) (t := 5) (u := 6) rfl _ _ _ _ _ _ _ rfl hZ Tryz.underlying33 rfl (by kernel_rfl)) rfl ?_
   refine ⟨?_, Ext.setRow hE hwA _⟩
   rw [hFe.out]
   refine ⟨.slice none 0 0, .slice none 0 0, [], rfl, ?_, (fun r hr => by cases hr), (by show (0 : Nat) ≤ _; omega), rfl, ?_, hOk, OwnT.nil _, (fun c h => by cases h)⟩
   ·exact Terms.nil _
   ·exact Pairs.nil _

theorem aget_w (s : ByteArray) (p : Int) (w : World) (hs : s.size ≤ 281474976710656) (hv : Vars w) :
  Calls Tryz.prog 40 #[.string s, .int .i64 p] w fun e_ w' => GotO w.heap.size w' (getO s.data.toList p) e_ ∧ Ext w w' := by
 unfold getO
 by_cases hno : (getI s.data.toList p).2.2 = false ∨ 13 < (getI s.data.toList p).1
 ·rw [if_pos hno]
  exact aget_no s p w hs hno
 ·rw [if_neg hno]
  have hok : (getI s.data.toList p).2.2 = true := by
   cases h : (getI s.data.toList p).2.2 with
   | true => rfl
   | false => exact absurd (Or.inl h) hno
  have h13 : (getI s.data.toList p).1 ≤ 13 := by
   rcases Nat.lt_or_ge 13 (getI s.data.toList p).1 with h | h
   ·exact absurd (Or.inr h) hno
   ·exact h
  have hfl : isFld ((knownF ((getI s.data.toList p).1 : Nat)).getD noFld) := by
   cases h : knownF ((getI s.data.toList p).1 : Nat) with
   | none => exact Or.inr (Or.inr (Or.inr (Or.inr (Or.inr (Or.inr (Or.inr rfl))))))
   | some f => exact knownF_is h
  exact aget_k s p w hs hv hok h13 rfl hfl
end Go.Proofs.YtefjdmjkofaajaaGreatDoor

namespace Go.Dm
open Go Go.RowKit
def rightsN : List Nat := [0, 1, 1, 4, 2, 2, 2, 2, 2]
/-- P19.1: the right that a kind needs; 0: none is enough. -/
def needsK (k : Int) : Nat := if k < 0 then 0 else rightsN.getD k.toNat 0
/-- A value that holds an op of a kind, whatever its other fields. -/
def KindAt (V : Value) (k : Int) : Prop := ∃ v1 v2 v3 v4 v5 v6 v7 v8 v9 v10 v11 v12 v13 v14 v15 v16 v17 : Value, V = .agg #[.int .i64 k, v1, v2, v3, v4, v5, v6, v7, v8, v9, v10, v11, v12, v13, v14, v15, v16, v17]
def needsV (k : Int) : Value := .tuple #[.int .u64 (needsK k : Nat), .bool (decide (needsK k ≠ 0))]
theorem needsK_out {k : Int} (h : k < 0 ∨ 9 ≤ k) : needsK k = 0 := by
 unfold needsK
 by_cases h0 : k < 0
 ·rw [if_pos h0]
 ·rw [if_neg h0, List.getD_eq_getElem?_getD, List.getElem?_eq_none (by show 9 ≤ k.toNat; omega)]; rfl
end Go.Dm
namespace Go.Proofs.YtefjdmjkofaajaaGreatDoor
open Go.RowKit Go.Dm
/-- What is known of the rights that ops need. -/
structure GateV (w : World) : Prop where
 lt : 0 < w.heap.size
 at_ : ∀ {k : Nat}, k < 9 → w.cell? ⟨0, k, none⟩ = some (.int .u64 (rightsN.getD k 0 : Nat))
theorem GateV.ext {w w' : World} (h : GateV w) (hx : Ext w w') : GateV w' :=
 ⟨Nat.lt_of_lt_of_le h.lt hx.size, fun hk => by rw [hx.cell (by exact h.lt)]; exact h.at_ hk⟩

set_option maxHeartbeats 2000000 in
set_option maxRecDepth 100000 in
theorem needs_w (k : Int) (V : Value) (w : World) (hV : KindAt V k) (hg : GateV w) :
  Calls Tryz.prog 13 #[V] w fun e w' => e = .returned (needsV k) ∧ Ext w w' := by
 obtain ⟨v1, v2, v3, v4, v5, v6, v7, v8, v9, v10, v11, v12, v13, v14, v15, v16, v17, rfl⟩ := hV
 have hA : RB w.heap.size 33 [.int .i64 k, v1, v2, v3, v4, v5, v6, v7, v8, v9, v10, v11, v12, v13, v14, v15, v16, v17] (w.alloc (.cells #[.int .i64 k, v1, v2, v3, v4, v5, v6, v7, v8, v9, v10, v11, v12, v13, v14, v15, v16, v17] 33)) := RB.new w 33 [.int .i64 k, v1, v2, v3, v4, v5, v6, v7, v8, v9, v10, v11, v12, v13, v14, v15, v16, v17]
 have hE : Ext w (w.alloc (.cells #[.int .i64 k, v1, v2, v3, v4, v5, v6, v7, v8, v9, v10, v11, v12, v13, v14, v15, v16, v17] 33)) := (Ext.refl _).alloc _
 replace hg := hg.ext hE
 generalize hW1 : w.alloc (.cells #[.int .i64 k, v1, v2, v3, v4, v5, v6, v7, v8, v9, v10, v11, v12, v13, v14, v15, v16, v17] 33) = w1 at *
 obtain ⟨bA, hbA⟩ : ∃ x, w.heap.size = x := ⟨_, rfl⟩
 rw [hbA] at hA
 have al := hA.lt
 have a0 : w1.cell? ⟨bA, 0, none⟩ = some (.int .i64 k) := hA.cell 0
 have gl := hg.lt
 unfold needsV
 by_cases h0 : k < 0
 ·rw [needsK_out (Or.inl h0)]
  go_enter Tryz.func13, Tryz.ntmps13
  go_wp2
  refine bodyPost_ret (results_tmp2 rfl _ _ _) rfl ?_
  exact ⟨rfl, hE⟩
 ·by_cases h9 : 9 ≤ k
  ·rw [needsK_out (Or.inr h9)]
   go_enter Tryz.func13, Tryz.ntmps13
   go_wp2
   refine bodyPost_ret (results_tmp2 rfl _ _ _) rfl ?_
   exact ⟨rfl, hE⟩
  ·obtain ⟨j, rfl⟩ : ∃ j : Nat, k = (j : Int) := ⟨k.toNat, by omega⟩
   have hj : j < 9 := by omega
   have hc := hg.at_ hj
   have hn : needsK (j : Int) = rightsN.getD j 0 := by unfold needsK; rw [if_neg h0]; rfl
   rw [hn]
   generalize rightsN.getD j 0 = c at *
   clear hn
   by_cases hc0 : c = 0
   ·subst hc0
    go_enter Tryz.func13, Tryz.ntmps13
    go_wp2
    refine bodyPost_ret (results_tmp2 rfl _ _ _) rfl ?_
    exact ⟨rfl, hE⟩
   ·have hci : ¬ ((c : Int) = 0) := by omega
    go_enter Tryz.func13, Tryz.ntmps13
    go_wp2
    refine bodyPost_ret (results_tmp2 rfl _ _ _) rfl ?_
    exact ⟨by simp [], hE⟩
end Go.Proofs.YtefjdmjkofaajaaGreatDoor

namespace Go.Dm
open Go Go.RowKit
/-- A value that holds an op. -/
def OpAt (w : World) (V : Value) (o : OpQ) : Prop :=
 ∃ v l R, V = opV o.1 o.2.1.1 o.2.1.2 o.2.2.1 (vG o.2.2.2.1) o.2.2.2.2.1.1 (vG o.2.2.2.2.1.2.1) o.2.2.2.2.1.2.2.1 v l ∧ Terms w v R ∧ FitR R ∧ R.length ≤ 35184372088832 ∧ R.map rowT = o.2.2.2.2.1.2.2.2 ∧ Pairs w l o.2.2.2.2.2 ∧ OkO o
theorem OpAt.ext {w w' : World} {V : Value} {o : OpQ} (h : OpAt w V o) (hx : Ext w w') : OpAt w' V o := by
 obtain ⟨v, l, R, h1, h2, h3, h4, h5, h6, h7⟩ := h
 exact ⟨v, l, R, h1, h2.ext hx, h3, h4, h5, h6.ext hx, h7⟩
/-- A value that holds a token. -/
def TokAt (w : World) (T : Value) (t : TokQ) : Prop := ∃ v, T = .agg #[.string t.1, v, .string t.2.2] ∧ Cavs w v t.2.1 ∧ OkT t
theorem TokAt.ext {w w' : World} {T : Value} {t : TokQ} (h : TokAt w T t) (hx : Ext w w') : TokAt w' T t := by
 obtain ⟨v, h1, h2, h3⟩ := h
 exact ⟨v, h1, Sl.ext h2 hx, h3⟩
/-- A value that holds a token, of whose sum nothing is known. -/
def TokC (w : World) (T : Value) (t : TokQ) : Prop := ∃ v, T = .agg #[.string t.1, v, .string t.2.2] ∧ Cavs w v t.2.1 ∧ t.1.size ≤ 140737488351232 ∧ t.2.1.length ≤ 4398046511103 ∧ ∀ c ∈ t.2.1, U64 c.2
theorem TokC.ext {w w' : World} {T : Value} {t : TokQ} (h : TokC w T t) (hx : Ext w w') : TokC w' T t := by
 obtain ⟨v, h1, h2, h3⟩ := h
 exact ⟨v, h1, Sl.ext h2 hx, h3⟩
theorem TokAt.c {w : World} {T : Value} {t : TokQ} (h : TokAt w T t) : TokC w T t := by
 obtain ⟨v, h1, h2, h3⟩ := h
 exact ⟨v, h1, h2, h3.tn, h3.len, h3.n⟩
/-- P19.2. -/
def putG (t : TokQ) (o : OpQ) : Bs := if putTok t = [] ∨ putO o = [] then [] else putTok t ++ putO o
theorem caves_len : ∀ {L : List Cav}, (∀ c ∈ L, U64 c.2) → (L.flatMap putC).length ≤ 20 * L.length
 | [], _ => by simp
 | c :: L, h => by
  have h1 := putC_len (h c (List.mem_cons_self ..))
  have h2 := caves_len (L := L) (fun x hx => h x (List.mem_cons_of_mem _ hx))
  rw [List.flatMap_cons, List.length_append, List.length_cons]; omega
theorem putTok_len {t : TokQ} (h : OkT t) : (putTok t).length ≤ 1000 := by
 unfold putTok
 by_cases hc : rightL t.1.data.toList = true ∧ fitsC t.2.1 = true ∧ t.2.2.size = 32
 ·rw [if_pos hc]
  have h1 := right_len hc.1
  have h2 : t.2.1.length ≤ 8 := by have := hc.2.1; unfold fitsC at this; simp at this; exact this.1
  have h3 := caves_len h.n
  have h4 := putL_ten (u := t.1.data.toList.length) (Nat.lt_of_le_of_lt h1 (by decide))
  have h5 := putL_ten (u := t.2.1.length) (Nat.lt_of_le_of_lt h2 (by decide))
  have h6 : t.2.2.data.toList.length = 32 := hc.2.2
  unfold putT
  rw [List.length_append, List.length_append, List.length_append, List.length_append]; omega
 ·rw [if_neg hc]; simp
theorem cond_len {b : Bool} {l : Bs} {n : Nat} (h : l.length ≤ n) : (cond b l []).length ≤ n := by
 cases b
 ·simp
 ·exact h
theorem putO_len {o : OpQ} (h : OkO o) : (putO o).length ≤ 5000 := by
 unfold putO
 by_cases hr : rightO o = true
 ·rw [if_pos hr]
  obtain ⟨k, hk, h1, h13, h98⟩ := rightO_kind hr
  have p0 : (putL o.1.toNat).length ≤ 10 := putL_ten (by rw [hk]; exact Nat.lt_of_le_of_lt h13 (by decide))
  have p1 := cond_len (b := ((knownF o.1).getD noFld).1) (putL_ten h.i)
  have p2 := cond_len (b := ((knownF o.1).getD noFld).2.1) (putL_ten h.n)
  have p3 := cond_len (b := ((knownF o.1).getD noFld).2.2.1) (l := putT o.2.2.1.data.toList) (n := 108) (by
   have h9 : o.2.2.1.data.toList.length ≤ 98 := h98
   have := putL_ten (u := o.2.2.1.data.toList.length) (Nat.lt_of_le_of_lt h9 (by decide))
   unfold putT
   rw [List.length_append]; omega)
  have p4 := cond_len (b := ((knownF o.1).getD noFld).2.2.2.1) (putV_40 h.d)
  have p5 := cond_len (b := ((knownF o.1).getD noFld).2.2.2.2.1) (putX_short (x := o.2.2.2.2.1) h.e)
  have p6 := cond_len (b := ((knownF o.1).getD noFld).2.2.2.2.2) (putLab_700 (labL o.2.2.2.2.2))
  unfold putsOf
  simp only [List.length_append]; omega
 ·rw [if_neg hr]; simp
/-- Two structs, made and stored one behind the other. -/
theorem two_rows (w : World) (t1 t2 : TypeId) (z1 z2 c1 c2 : List Value) : ∃ w', (((w.alloc (.cells z1.toArray t1)).alloc (.cells z2.toArray t2)).setRow w.heap.size c1.toArray).setRow (w.heap.size + 1) c2.toArray = w' ∧
  RB w.heap.size t1 z1 ((w.alloc (.cells z1.toArray t1)).alloc (.cells z2.toArray t2)) ∧ RB (w.heap.size + 1) t2 z2 (((w.alloc (.cells z1.toArray t1)).alloc (.cells z2.toArray t2)).setRow w.heap.size c1.toArray) ∧
  RB w.heap.size t1 c1 w' ∧ RB (w.heap.size + 1) t2 c2 w' ∧ Ext w w' := by
 have r1 := (RB.new w t1 z1).ext ((Ext.refl _).alloc (.cells z2.toArray t2))
 have r2 := RB.new (w.alloc (.cells z1.toArray t1)) t2 z2
 rw [World.size_alloc] at r2
 have r3 := r2.farRow (c := w.heap.size) (by omega) c1.toArray
 exact ⟨_, rfl, r1, r3, (r1.setRow c1).farRow (by omega) _, r3.setRow c2, Ext.setRow (Ext.setRow (((Ext.refl w).alloc _).alloc _) (Nat.le_refl _) _) (Nat.le_succ _) _⟩
theorem emptyB (l : Bs) : ((⟨l.toArray⟩ : ByteArray).toList == []) = decide (l = []) := by
 rw [ByteArray.toList_eq]
 cases l <;> simp
end Go.Dm
namespace Go.Proofs.YtefjdmjkofaajaaGreatDoor
open Go.RowKit Go.Dm
theorem rightA {w : World} {V : Value} {o : OpQ} (h : OpAt w V o) (hv : Vars w) : Calls Tryz.prog 25 #[V] w fun e w' => e = .returned (.bool (rightO o)) ∧ Ext w w' := by
 obtain ⟨v, l, R, rfl, h2, h3, h4, h5, h6, h7⟩ := h
 obtain ⟨k, ⟨i, n⟩, p, d, ⟨s, e, m, tt⟩, P⟩ := o
 obtain rfl : R.map rowT = tt := h5
 exact aright_w k i n p d s e m v l R P w h7.k h7.d h7.s h7.e h4 h3 h2 h7.p h7.f h6 hv
theorem putA {w : World} {V : Value} {o : OpQ} (h : OpAt w V o) (hv : Vars w) : Calls Tryz.prog 27 #[V] w fun e w' => e = .returned (.string ⟨(putO o).toArray⟩) ∧ Ext w w' := by
 obtain ⟨v, l, R, rfl, h2, h3, h4, h5, h6, h7⟩ := h
 obtain ⟨k, ⟨i, n⟩, p, d, ⟨s, e, m, tt⟩, P⟩ := o
 obtain rfl : R.map rowT = tt := h5
 exact aput_w k i n p d s e m v l R P w h7.k h7.i h7.n h7.d h7.s h7.e h4 h3 h2 h7.p h7.f h6 hv
theorem opAt_kind {w : World} {V : Value} {o : OpQ} (h : OpAt w V o) : KindAt V o.1 := by
 obtain ⟨v, l, R, rfl, _⟩ := h
 exact ⟨_, _, _, _, _, _, _, _, _, _, _, _, _, _, _, _, _, rfl⟩
theorem needsA {w : World} {V : Value} {o : OpQ} (h : OpAt w V o) (hg : GateV w) : Calls Tryz.prog 13 #[V] w fun e w' => e = .returned (needsV o.1) ∧ Ext w w' := by
 exact needs_w o.1 V w (opAt_kind h) hg
theorem putTA {w : World} {T : Value} {t : TokQ} (h : TokAt w T t) (hv : Vars w) : Calls Tryz.prog 26 #[T] w fun e w' => e = .returned (.string ⟨(putTok t).toArray⟩) ∧ Ext w w' := by
 obtain ⟨v, rfl, h2, h3⟩ := h
 exact mput_w t.1 t.2.2 v t.2.1 w h3.tn h3.sg h3.len h3.n h2 hv
theorem checkA {w : World} {T : Value} {t : TokQ} (key : ByteArray) (hk : key.size ≤ 281474976710656) (h : TokC w T t) (hv : ShaV w) : Calls Tryz.prog 28 #[.string key, T] w fun e w' => e = .returned (.bool (checkT key.data.toList t)) ∧ Ext w w' := by
 obtain ⟨v, rfl, h2, h3, h4, h5⟩ := h
 exact check_w key t.1 t.2.2 v t.2.1 w hk (by omega) h4 h5 h2 hv
theorem allowsA {w : World} {T : Value} {t : TokQ} (right round : Nat) (h : TokC w T t) : Calls Tryz.prog 29 #[T, .int .u64 (right : Nat), .int .u64 (round : Nat)] w fun e w' => e = .returned (.bool (allowC t.2.1 right round)) ∧ Ext w w' := by
 obtain ⟨v, rfl, h2, h3, h4, h5⟩ := h
 exact allows_w t.1 t.2.2 v t.2.1 right round w (by omega) h5 h2

set_option maxHeartbeats 2000000 in
set_option maxRecDepth 100000 in
theorem gput_w (T V : Value) (t : TokQ) (o : OpQ) (w : World) (ht : TokAt w T t) (ho : OpAt w V o) (hv : Vars w) :
  Calls Tryz.prog 15 #[T, V] w fun e w' => e = .returned (.string ⟨(putG t o).toArray⟩) ∧ Ext w w' := by
 have CT := fun U (h : Ext w U) => putTA (ht.ext h) (hv.ext h)
 have CO := fun U (h : Ext w U) => putA (ho.ext h) (hv.ext h)
 have zT : (⟨(putTok t).toArray⟩ : ByteArray).size ≤ 1000 := by
  obtain ⟨_, _, _, h3⟩ := ht
  rw [size_len]; exact putTok_len h3
 have zO : (⟨(putO o).toArray⟩ : ByteArray).size ≤ 5000 := by
  obtain ⟨_, _, _, _, _, _, _, _, _, h7⟩ := ho
  rw [size_len]; exact putO_len h7
 have eT := emptyB (putTok t)
 have eO := emptyB (putO o)
 have hG : (⟨(putG t o).toArray⟩ : ByteArray) = if putTok t = [] ∨ putO o = [] then ⟨#[]⟩ else ⟨(putTok t).toArray⟩ ++ ⟨(putO o).toArray⟩ := by
  unfold putG
  by_cases h : putTok t = [] ∨ putO o = []
  ·rw [if_pos h, if_pos h]
  ·rw [if_neg h, if_neg h]
   exact (mk_bytes (by rw [data_append])).symm
 obtain ⟨vt, rfl, hcv, _⟩ := ht
 obtain ⟨qt, ct, rfl, _, _⟩ := hcv.shape
 obtain ⟨v, l, R, rfl, hT, _, _, _, hP, _⟩ := ho
 obtain ⟨qv, cv, rfl, _, _⟩ := hT.shape
 obtain ⟨ql, cl, rfl, _, _⟩ := hP.shape
 clear hcv hT hP
 obtain ⟨tn, L, sg⟩ := t
 obtain ⟨k, ⟨i, n⟩, p, d, ⟨s, e, m, tt⟩, P⟩ := o
 unfold opV at CO ⊢
 simp only at CT CO hG zT zO eT eO ⊢
 generalize (⟨(putG (tn, L, sg) (k, (i, n), p, d, (s, e, m, tt), P)).toArray⟩ : ByteArray) = TG at *
 generalize (⟨(putTok (tn, L, sg)).toArray⟩ : ByteArray) = TA at *
 generalize (⟨(putO (k, (i, n), p, d, (s, e, m, tt), P)).toArray⟩ : ByteArray) = TB at *
 generalize putTok (tn, L, sg) = la at *
 generalize putO (k, (i, n), p, d, (s, e, m, tt), P) = lb at *
 have hB : RB w.heap.size 24 [.string tn, .slice qt L.length ct, .string sg] (w.alloc (.cells #[.string tn, .slice qt L.length ct, .string sg] 24)) := RB.new w 24 [.string tn, .slice qt L.length ct, .string sg]
 have hE : Ext w (w.alloc (.cells #[.string tn, .slice qt L.length ct, .string sg] 24)) := (Ext.refl _).alloc _
 generalize hW1 : w.alloc (.cells #[.string tn, .slice qt L.length ct, .string sg] 24) = w1 at *
 have hA : RB w1.heap.size 33 [.int .i64 k, .int .u64 (i : Nat), .int .u64 (n : Nat), .string p, .int .u64 ((vG d) 0 : Nat), .int .u64 ((vG d) 1 : Nat), .int .u64 ((vG d) 2 : Nat), .int .u64 ((vG d) 3 : Nat), .string s, .int .u64 ((vG e) 0 : Nat), .int .u64 ((vG e) 1 : Nat), .int .u64 ((vG e) 2 : Nat), .int .u64 ((vG e) 3 : Nat), .int .i64 m.1, .int .i64 m.2.1, .int .i64 m.2.2, .slice qv R.length cv, .slice ql P.length cl] (w1.alloc (.cells #[.int .i64 k, .int .u64 (i : Nat), .int .u64 (n : Nat), .string p, .int .u64 ((vG d) 0 : Nat), .int .u64 ((vG d) 1 : Nat), .int .u64 ((vG d) 2 : Nat), .int .u64 ((vG d) 3 : Nat), .string s, .int .u64 ((vG e) 0 : Nat), .int .u64 ((vG e) 1 : Nat), .int .u64 ((vG e) 2 : Nat), .int .u64 ((vG e) 3 : Nat), .int .i64 m.1, .int .i64 m.2.1, .int .i64 m.2.2, .slice qv R.length cv, .slice ql P.length cl] 33)) := RB.new w1 33 [.int .i64 k, .int .u64 (i : Nat), .int .u64 (n : Nat), .string p, .int .u64 ((vG d) 0 : Nat), .int .u64 ((vG d) 1 : Nat), .int .u64 ((vG d) 2 : Nat), .int .u64 ((vG d) 3 : Nat), .string s, .int .u64 ((vG e) 0 : Nat), .int .u64 ((vG e) 1 : Nat), .int .u64 ((vG e) 2 : Nat), .int .u64 ((vG e) 3 : Nat), .int .i64 m.1, .int .i64 m.2.1, .int .i64 m.2.2, .slice qv R.length cv, .slice ql P.length cl]
 have hE2 : Ext w1 (w1.alloc (.cells #[.int .i64 k, .int .u64 (i : Nat), .int .u64 (n : Nat), .string p, .int .u64 ((vG d) 0 : Nat), .int .u64 ((vG d) 1 : Nat), .int .u64 ((vG d) 2 : Nat), .int .u64 ((vG d) 3 : Nat), .string s, .int .u64 ((vG e) 0 : Nat), .int .u64 ((vG e) 1 : Nat), .int .u64 ((vG e) 2 : Nat), .int .u64 ((vG e) 3 : Nat), .int .i64 m.1, .int .i64 m.2.1, .int .i64 m.2.2, .slice qv R.length cv, .slice ql P.length cl] 33)) := (Ext.refl _).alloc _
 have hs1 : w1.heap.size = w.heap.size + 1 := by rw [← hW1, World.size_alloc]
 generalize hW2 : w1.alloc (.cells #[.int .i64 k, .int .u64 (i : Nat), .int .u64 (n : Nat), .string p, .int .u64 ((vG d) 0 : Nat), .int .u64 ((vG d) 1 : Nat), .int .u64 ((vG d) 2 : Nat), .int .u64 ((vG d) 3 : Nat), .string s, .int .u64 ((vG e) 0 : Nat), .int .u64 ((vG e) 1 : Nat), .int .u64 ((vG e) 2 : Nat), .int .u64 ((vG e) 3 : Nat), .int .i64 m.1, .int .i64 m.2.1, .int .i64 m.2.2, .slice qv R.length cv, .slice ql P.length cl] 33) = w2 at *
 replace hB := hB.ext hE2
 replace hE := hE.trans hE2
 clear hE2
 obtain ⟨bA, hbA⟩ : ∃ x, w1.heap.size = x := ⟨_, rfl⟩
 obtain ⟨bB, hbB⟩ : ∃ x, w.heap.size = x := ⟨_, rfl⟩
 rw [hbA] at hA
 rw [hbB] at hB
 rw [hbA, hbB] at hs1
 subst hs1
 replace CT := Lib.hid CT
 replace CO := Lib.hid CO
 replace hG := Lib.hid hG
 have bl := hB.lt
 have c0 : w2.cell? ⟨bB, 0, none⟩ = some (.string tn) := hB.cell 0
 have c1 : w2.cell? ⟨bB, 1, none⟩ = some (.slice qt L.length ct) := hB.cell 1
 have c2 : w2.cell? ⟨bB, 2, none⟩ = some (.string sg) := hB.cell 2
 go_enter Tryz.func15, Tryz.ntmps15
 go_upto_region 1 with fail
 clear hW1 hW2 hbA hbB
 generalize bB + 1 = bA at *
 try simp only [Act.put, List.setIfInBounds_toArray, List.set_cons_succ, List.set_cons_zero]
 refine Dm.wp_region_ext 6 (Dm.bits 6 0) (Ext.refl w2) (by kernel_rfl) (by kernel_rfl) (by kernel_rfl) ?_
 refine tks [0, 1, 2, 3, 4, 5] 63 0 (hq := by intro x; go_big_quiet_step (fail); go_big_quiet_step ((first | (go_at_call 26; with_reducible exact Calls.quietE (CT.out _ (hE.trans (by repeat (first | assumption | exact Ext.refl _ | refine Ext.trans ?_ (ext_grow _ _)))))) | (go_at_call 27; with_reducible exact Calls.quietE (CO.out _ (hE.trans (by repeat (first | assumption | exact Ext.refl _ | refine Ext.trans ?_ (ext_grow _ _)))))))); go_big_quiet_want; refine quiet_load_row 33 _ rfl bA rfl _ _ _ _ (fun _ hw => by obtain ⟨_, rfl⟩ := hw; exact hA.ext (by repeat (first | assumption | exact Ext.refl _ | refine Ext.trans ?_ (ext_grow _ _)))) Tryz.underlying33 rfl (by kernel_rfl) ?_; simp only [Act.put, List.setIfInBounds_toArray, List.set_cons_succ, List.set_cons_zero]; go_big_quiet_on; go_big_quiet_step ((first | (go_at_call 26; with_reducible exact Calls.quietE (CT.out _ (hE.trans (by repeat (first | assumption | exact Ext.refl _ | refine Ext.trans ?_ (ext_grow _ _)))))) | (go_at_call 27; with_reducible exact Calls.quietE (CO.out _ (hE.trans (by repeat (first | assumption | exact Ext.refl _ | refine Ext.trans ?_ (ext_grow _ _)))))))); go_big_quiet_step (fail); go_big_quiet_step (fail); exact wpQuiet_nil rfl) ?_
 refine Dm.wpE_done (by kernel_rfl) (Ext.refl w2) (fun w1a hx1a => ?_)
 have hX1a := Ext.trans (Ext.refl w2) hx1a
 clear bl c0 c1 c2
 by_cases h1 : la = []
 ·rw [decide_eq_true h1] at eT
  go_wp2
  go_ret
  exact ⟨by rw [hG.out, if_pos (Or.inl h1)]; rfl, hE.trans hX1a⟩
 ·rw [decide_eq_false h1] at eT
  by_cases h2 : lb = []
  ·rw [decide_eq_true h2] at eO
   go_wp2
   go_ret
   exact ⟨by rw [hG.out, if_pos (Or.inr h2)]; rfl, hE.trans hX1a⟩
  ·rw [decide_eq_false h2] at eO
   go_wp2
   go_ret
   exact ⟨by rw [hG.out, if_neg (by rw [not_or]; exact ⟨h1, h2⟩)]; rfl, hE.trans hX1a⟩
end Go.Proofs.YtefjdmjkofaajaaGreatDoor
