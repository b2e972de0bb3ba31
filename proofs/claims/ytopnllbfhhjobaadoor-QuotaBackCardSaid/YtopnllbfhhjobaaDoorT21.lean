/- Texts one behind the other: Chapter 10: the walk of the laws' examples; Chapter 10: the walk of QuotaBack. -/
import Derived.Test.YtopnllbfhhjobaaDoorT19
import Derived.Test.YtopnllbfhhjobaaDoorT20
namespace Go.Dm
open Go Go.RowKit
def T0 : List EntQ := [(⟨#[]⟩, [5, 5, 5, 5], noV)]
def T1 : List EntQ := [(⟨#[]⟩, [5, 5, 5, 5], noV), (⟨#[97]⟩, [9, 2, 9, 9], noV)]
def TU : List EntQ := [(⟨#[]⟩, [5, 5, 5, 5], [3, 2, 0, 0]), (⟨#[97]⟩, [9, 2, 9, 9], [3, 2, 0, 0])]
theorem fit_cons {r : EntQ} {R : List EntQ} (h : r.1.size ≤ 1048576 ∧ OkV r.2.1 ∧ OkV r.2.2) (hR : FitT R) : FitT (r :: R) := by
  refine ⟨fun x hx => ?_, fun x hx => ?_, fun x hx => ?_⟩ <;> rcases List.mem_cons.1 hx with rfl | hx
  · exact h.1
  · exact hR.path x hx
  · exact h.2.1
  · exact hR.lim x hx
  · exact h.2.2
  · exact hR.used x hx
theorem fitT0 : FitT T0 := fit_cons ⟨by decide, okV_small ⟨by omega, by omega, by omega, by omega⟩, okV_no⟩ FitT.nil
theorem fitT1 : FitT T1 := fit_cons ⟨by decide, okV_small ⟨by omega, by omega, by omega, by omega⟩, okV_no⟩ (fit_cons ⟨by decide, okV_small ⟨by omega, by omega, by omega, by omega⟩, okV_no⟩ FitT.nil)
theorem fitTU : FitT TU := fit_cons ⟨by decide, okV_small ⟨by omega, by omega, by omega, by omega⟩, okV_small ⟨by omega, by omega, by omega, by omega⟩⟩ (fit_cons ⟨by decide, okV_small ⟨by omega, by omega, by omega, by omega⟩, okV_small ⟨by omega, by omega, by omega, by omega⟩⟩ FitT.nil)
end Go.Dm
namespace Go.Proofs.YtopnllbfhhjobaaDoor
open Go.RowKit Go.Dm
theorem exq_C2 (w U : World) (v : Value) (ht : Vars w) (h : Ext w U) (hx : Tree U v T0) : Calls Tryd.prog 15 #[v, (.string ⟨#[]⟩), (.agg #[.int .u64 6, .int .u64 0, .int .u64 0, .int .u64 0])] U fun e w' => ∃ v', e = .returned (.tuple #[v', .int .i64 10]) ∧ Tree w' v' T0 ∧ Ext U w' := by
  have C := qCharge_w T0 v ⟨#[]⟩ [6, 0, 0, 0] (okV_small ⟨by omega, by omega, by omega, by omega⟩) U (by decide) fitT0 hx (by decide) (ht.ext h)
  rw [show eachT T0 ⟨#[]⟩ (chgE [6, 0, 0, 0]) = (T0, 10) by kernel_rfl] at C
  exact C
theorem exq_C3 (w U : World) (v : Value) (ht : Vars w) (h : Ext w U) (hx : Tree U v T0) : Calls Tryd.prog 22 #[v, (.string ⟨#[97, 47, 98]⟩), (.agg #[.int .u64 0, .int .u64 0, .int .u64 0, .int .u64 0])] U fun e w' => ∃ v', e = .returned (.tuple #[v', .int .i64 7]) ∧ Tree w' v' T0 ∧ Ext U w' := by
  have C := qset_w T0 v ⟨#[97, 47, 98]⟩ [0, 0, 0, 0] (okV_small ⟨by omega, by omega, by omega, by omega⟩) U (by decide) fitT0 hx (by decide) (ht.ext h)
  rw [show setT T0 ⟨#[97, 47, 98]⟩ [0, 0, 0, 0] = (T0, 7) by kernel_rfl] at C
  exact C
theorem exq_C4 (w U : World) (v : Value) (ht : Vars w) (h : Ext w U) (hx : Tree U v T0) : Calls Tryd.prog 22 #[v, (.string ⟨#[97]⟩), (.agg #[.int .u64 9, .int .u64 2, .int .u64 9, .int .u64 9])] U fun e w' => ∃ v', e = .returned (.tuple #[v', .int .i64 0]) ∧ Tree w' v' T1 ∧ Ext U w' := by
  have C := qset_w T0 v ⟨#[97]⟩ [9, 2, 9, 9] (okV_small ⟨by omega, by omega, by omega, by omega⟩) U (by decide) fitT0 hx (by decide) (ht.ext h)
  rw [show setT T0 ⟨#[97]⟩ [9, 2, 9, 9] = (T1, 0) by kernel_rfl] at C
  exact C
theorem exq_C5 (w U : World) (v : Value) (ht : Vars w) (h : Ext w U) (hx : Tree U v T1) : Calls Tryd.prog 15 #[v, (.string ⟨#[97]⟩), (.agg #[.int .u64 3, .int .u64 2, .int .u64 0, .int .u64 0])] U fun e w' => ∃ v', e = .returned (.tuple #[v', .int .i64 0]) ∧ Tree w' v' TU ∧ Ext U w' := by
  have C := qCharge_w T1 v ⟨#[97]⟩ [3, 2, 0, 0] (okV_small ⟨by omega, by omega, by omega, by omega⟩) U (by decide) fitT1 hx (by decide) (ht.ext h)
  rw [show eachT T1 ⟨#[97]⟩ (chgE [3, 2, 0, 0]) = (TU, 0) by kernel_rfl] at C
  exact C
theorem exq_C6 (w U : World) (v : Value) (ht : Vars w) (h : Ext w U) (hx : Tree U v TU) : Calls Tryd.prog 15 #[v, (.string ⟨#[97]⟩), (.agg #[.int .u64 0, .int .u64 1, .int .u64 0, .int .u64 0])] U fun e w' => ∃ v', e = .returned (.tuple #[v', .int .i64 10]) ∧ Tree w' v' TU ∧ Ext U w' := by
  have C := qCharge_w TU v ⟨#[97]⟩ [0, 1, 0, 0] (okV_small ⟨by omega, by omega, by omega, by omega⟩) U (by decide) fitTU hx (by decide) (ht.ext h)
  rw [show eachT TU ⟨#[97]⟩ (chgE [0, 1, 0, 0]) = (TU, 10) by kernel_rfl] at C
  exact C
theorem exq_C7 (w U : World) (v : Value) (ht : Vars w) (h : Ext w U) (hx : Tree U v TU) : Calls Tryd.prog 22 #[v, (.string ⟨#[]⟩), (.agg #[.int .u64 2, .int .u64 9, .int .u64 9, .int .u64 9])] U fun e w' => ∃ v', e = .returned (.tuple #[v', .int .i64 10]) ∧ Tree w' v' TU ∧ Ext U w' := by
  have C := qset_w TU v ⟨#[]⟩ [2, 9, 9, 9] (okV_small ⟨by omega, by omega, by omega, by omega⟩) U (by decide) fitTU hx (by decide) (ht.ext h)
  rw [show setT TU ⟨#[]⟩ [2, 9, 9, 9] = (TU, 10) by kernel_rfl] at C
  exact C
theorem exq_C9 (w U : World) (v : Value) (ht : Vars w) (h : Ext w U) (hx : Tree U v TU) : Calls Tryd.prog 12 #[v, (.string ⟨#[97]⟩), (.agg #[.int .u64 3, .int .u64 2, .int .u64 0, .int .u64 0])] U fun e w' => ∃ v', e = .returned (.tuple #[v', .int .i64 0]) ∧ Tree w' v' T1 ∧ Ext U w' := by
  have C := qRefund_w TU v ⟨#[97]⟩ [3, 2, 0, 0] (okV_small ⟨by omega, by omega, by omega, by omega⟩) U (by decide) fitTU hx (by decide) (ht.ext h)
  rw [show eachT TU ⟨#[97]⟩ (rfdE [3, 2, 0, 0]) = (T1, 0) by kernel_rfl] at C
  exact C
theorem exq_C10 (w U : World) (v : Value) (ht : Vars w) (h : Ext w U) (hx : Tree U v TU) : Calls Tryd.prog 12 #[v, (.string ⟨#[97]⟩), (.agg #[.int .u64 4, .int .u64 0, .int .u64 0, .int .u64 0])] U fun e w' => ∃ v', e = .returned (.tuple #[v', .int .i64 15]) ∧ Tree w' v' TU ∧ Ext U w' := by
  have C := qRefund_w TU v ⟨#[97]⟩ [4, 0, 0, 0] (okV_small ⟨by omega, by omega, by omega, by omega⟩) U (by decide) fitTU hx (by decide) (ht.ext h)
  rw [show eachT TU ⟨#[97]⟩ (rfdE [4, 0, 0, 0]) = (TU, 15) by kernel_rfl] at C
  exact C
theorem exq_C11 (w U : World) (v : Value) (ht : Vars w) (h : Ext w U) (hx : Tree U v TU) : Calls Tryd.prog 15 #[v, (.string ⟨#[120, 47]⟩), (.agg #[.int .u64 0, .int .u64 0, .int .u64 0, .int .u64 0])] U fun e w' => ∃ v', e = .returned (.tuple #[v', .int .i64 6]) ∧ Tree w' v' TU ∧ Ext U w' := by
  have C := qCharge_w TU v ⟨#[120, 47]⟩ [0, 0, 0, 0] (okV_small ⟨by omega, by omega, by omega, by omega⟩) U (by decide) fitTU hx (by decide) (ht.ext h)
  rw [show eachT TU ⟨#[120, 47]⟩ (chgE [0, 0, 0, 0]) = (TU, 6) by kernel_rfl] at C
  exact C
set_option maxHeartbeats 8000000 in
set_option maxRecDepth 100000 in
theorem qexamples_w (w : World) (ht : Vars w) :
    Calls Tryd.prog 9 #[] w fun e w' => e = .returned (.bool true) ∧ Ext w w' := by
  have C1 : ∀ U, Calls Tryd.prog 25 #[(.agg #[.int .u64 5, .int .u64 5, .int .u64 5, .int .u64 5])] U fun e w' => ∃ v, e = .returned v ∧ Tree w' v T0 ∧ Ext U w' := fun U => qnew_w [5, 5, 5, 5] U
  have C8 : ∀ U v (_ : Tree U v TU), Calls Tryd.prog 20 #[v, (.string ⟨#[]⟩)] U fun e w' => e = .returned (.tuple #[.agg #[.string ⟨#[]⟩, .int .u64 5, .int .u64 5, .int .u64 5, .int .u64 5, .int .u64 3, .int .u64 2, .int .u64 0, .int .u64 0], .bool true]) ∧ Ext U w' := fun U v hx => by
    have C := qfind_w TU ⟨#[]⟩ v U (by decide) hx
    rw [show findQ TU ⟨#[]⟩ = ((⟨#[]⟩, [5, 5, 5, 5], [3, 2, 0, 0]), true) by kernel_rfl] at C
    exact C
  have C12 : ∀ U v (_ : Tree U v TU), Calls Tryd.prog 23 #[v] U fun e w' => e = .returned (.string ⟨(putQ TU).toArray⟩) ∧ Ext U w' := fun U v hx => qput_w TU v U (by decide) fitTU (by decide +kernel) hx
  have C13 : ∀ U (_ : Ext w U), Calls Tryd.prog 24 #[.string ⟨(putQ TU).toArray⟩, .int .i64 0] U fun e w' => ∃ v n, e = .returned (.tuple #[v, .int .i64 n, .bool true]) ∧ Tree w' v TU ∧ Ext U w' := fun U h => by
    have C := qget_w ⟨(putQ TU).toArray⟩ 0 U (by decide +kernel) (ht.ext h)
    rw [show getQ (⟨(putQ TU).toArray⟩ : ByteArray).data.toList 0 = (TU, 20, true) by decide +kernel] at C
    exact C.mono fun e w' ⟨v, h1, h2, h3⟩ => ⟨v, _, h1, h2, h3⟩
  have CR1 : ∀ U v (_ : Ext w U) (_ : Tree U v TU), Calls Tryd.prog 11 #[v] U fun e w' => e = .returned (.bool true) ∧ Ext U w' := fun U v h hx => by
    have C := qright_w TU v U (by decide) fitTU hx (ht.ext h)
    rw [show rightQ TU = true by kernel_rfl] at C
    exact C
  have CR2 : ∀ U (_ : Ext w U), Calls Tryd.prog 11 #[.slice none 0 0] U fun e w' => e = .returned (.bool false) ∧ Ext U w' := fun U h => by
    have C := qright_w [] (.slice none 0 0) U (by decide) FitT.nil (Tree.nil U) (ht.ext h)
    rw [show rightQ [] = false by kernel_rfl] at C
    exact C
  have CC : ∀ U v (_ : Ext w U) (_ : Tree U v TU), Calls Tryd.prog 21 #[v, (.string ⟨#[97]⟩), (.agg #[.int .u64 5, .int .u64 2, .int .u64 5, .int .u64 5])] U fun e w' => e = .returned (.bool true) ∧ Ext U w' := fun U v h hx => by
    have C := qcould_w TU v ⟨#[97]⟩ [5, 2, 5, 5] (okV_small ⟨by omega, by omega, by omega, by omega⟩) U (by decide) fitTU hx (by decide) (ht.ext h)
    rw [show couldT TU ⟨#[97]⟩ [5, 2, 5, 5] = true by kernel_rfl] at C
    exact C
  have hq : ∀ {x y : Vc} (_ : OkV x) (_ : OkV y) (U : World), (binOp .eql 36 (vVal x) (vVal y)).run Tryd.prog U = .ok (.bool (decide (x = y))) U := fun hx hy U => run_eql_vals Tryd.underlying36 Tryd.underlying34 (by kernel_rfl) hx hy U
  have oA : OkV [3, 2, 0, 0] := okV_small ⟨by omega, by omega, by omega, by omega⟩
  have oL : OkV [9, 2, 9, 9] := okV_small ⟨by omega, by omega, by omega, by omega⟩
  have q1 : ∀ U, (binOp .eql 36 (.agg #[.int .u64 3, .int .u64 2, .int .u64 0, .int .u64 0]) (.agg #[.int .u64 3, .int .u64 2, .int .u64 0, .int .u64 0])).run Tryd.prog U = .ok (.bool true) U := fun U => hq oA oA U
  have q2 : ∀ U, (binOp .eql 36 (.agg #[.int .u64 0, .int .u64 0, .int .u64 0, .int .u64 0]) (.agg #[.int .u64 0, .int .u64 0, .int .u64 0, .int .u64 0])).run Tryd.prog U = .ok (.bool true) U := fun U => hq okV_no okV_no U
  have q3 : ∀ U, (binOp .eql 44 (.agg #[.string ⟨#[97]⟩, .int .u64 9, .int .u64 2, .int .u64 9, .int .u64 9, .int .u64 3, .int .u64 2, .int .u64 0, .int .u64 0]) (.agg #[.string ⟨#[97]⟩, .int .u64 9, .int .u64 2, .int .u64 9, .int .u64 9, .int .u64 3, .int .u64 2, .int .u64 0, .int .u64 0])).run Tryd.prog U = .ok (.bool true) U := fun U =>
    (run_eql_entQ (eqEnt (a := (⟨#[97]⟩, [9, 2, 9, 9], [3, 2, 0, 0])) (b := (⟨#[97]⟩, [9, 2, 9, 9], [3, 2, 0, 0])) ⟨by decide, oL, oA⟩ ⟨by decide, oL, oA⟩ U)).trans (by rw [decide_eq_true rfl])
  clear hq oA oL
  have hcU : ∀ U p cap, Tree U (.slice p 2 cap) TU → ∃ b off, p = some ⟨b, off, none⟩ ∧ b < U.heap.size ∧ ∀ j, j < 9 → U.cell? ⟨b, off + 9 + j, none⟩ = (entOne (⟨#[97]⟩, [9, 2, 9, 9], [3, 2, 0, 0]))[j]? := fun U p cap h => Tree.at (xs := TU) h (k := 1) (by decide)
  have hc1 : ∀ U p cap, Tree U (.slice p 2 cap) T1 → ∃ b off, p = some ⟨b, off, none⟩ ∧ b < U.heap.size ∧ ∀ j, j < 9 → U.cell? ⟨b, off + 9 + j, none⟩ = (entOne (⟨#[97]⟩, [9, 2, 9, 9], noV))[j]? := fun U p cap h => Tree.at (xs := T1) h (k := 1) (by decide)
  have hc0 : ∀ U p cap, Tree U (.slice p 2 cap) T1 → ∃ b off, p = some ⟨b, off, none⟩ ∧ b < U.heap.size ∧ ∀ j, j < 9 → U.cell? ⟨b, off + j, none⟩ = (entOne (⟨#[]⟩, [5, 5, 5, 5], noV))[j]? := fun U p cap h => by
    obtain ⟨b, off, h1, h2, h3⟩ := Tree.at (xs := T1) h (k := 0) (by decide)
    exact ⟨b, off, h1, h2, fun j hj => by have := h3 j hj; rw [Nat.zero_mul, Nat.add_zero] at this; exact this⟩
  have shU : ∀ U v, Tree U v TU → ∃ p cap, v = .slice p 2 cap := fun U v h => by obtain ⟨p, cap, h1, _⟩ := h.shape; exact ⟨p, cap, h1⟩
  have sh1 : ∀ U v, Tree U v T1 → ∃ p cap, v = .slice p 2 cap := fun U v h => by obtain ⟨p, cap, h1, _⟩ := h.shape; exact ⟨p, cap, h1⟩
  replace C1 := Lib.hid C1
  replace C8 := Lib.hid C8
  replace C12 := Lib.hid C12
  replace C13 := Lib.hid C13
  replace CR1 := Lib.hid CR1
  replace CR2 := Lib.hid CR2
  replace CC := Lib.hid CC
  replace hcU := Lib.hid hcU
  replace hc1 := Lib.hid hc1
  replace hc0 := Lib.hid hc0
  replace shU := Lib.hid shU
  replace sh1 := Lib.hid sh1
  go_enter Tryd.func9, Tryd.ntmps9
  go_wp2_with fail
  refine (C1.out _).mono ?_; rintro e w1 ⟨v0, rfl, hx0, hb⟩
  go_wp2_with fail
  refine (exq_C2 w _ _ ht hb hx0).mono ?_; rintro e w2 ⟨v2, rfl, _, h2⟩
  replace hb := hb.trans h2
  replace hx0 := hx0.ext h2
  clear h2
  go_wp2_with fail
  refine (exq_C3 w _ _ ht hb hx0).mono ?_; rintro e w3 ⟨v3, rfl, _, h3⟩
  replace hb := hb.trans h3
  replace hx0 := hx0.ext h3
  clear h3
  go_wp2_with fail
  refine (exq_C4 w _ _ ht hb hx0).mono ?_; rintro e w4 ⟨v1, rfl, hx1, h4⟩
  replace hb := hb.trans h4
  clear h4 hx0
  go_wp2_with fail
  refine (exq_C5 w _ _ ht hb hx1).mono ?_; rintro e w5 ⟨vU, rfl, hxU, h5⟩
  replace hb := hb.trans h5
  clear h5 hx1
  go_wp2_with fail
  refine (exq_C6 w _ _ ht hb hxU).mono ?_; rintro e w6 ⟨v6, rfl, _, h6⟩
  replace hb := hb.trans h6
  replace hxU := hxU.ext h6
  clear h6
  go_wp2_with fail
  refine (exq_C7 w _ _ ht hb hxU).mono ?_; rintro e w7 ⟨v7, rfl, _, h7⟩
  replace hb := hb.trans h7
  replace hxU := hxU.ext h7
  clear h7
  go_wp2_with fail
  refine (C8.out _ _ hxU).mono ?_; rintro e w8 ⟨rfl, h8⟩
  have hB := (EBox.new w8 ⟨#[]⟩ (vG [5, 5, 5, 5]) (vG [3, 2, 0, 0]) 44)
  have h8b := h8.alloc (.cells #[.string ⟨#[]⟩, .int .u64 5, .int .u64 5, .int .u64 5, .int .u64 5, .int .u64 3, .int .u64 2, .int .u64 0, .int .u64 0] 44)
  change EBox w8.heap.size ⟨#[]⟩ (vG [5, 5, 5, 5]) (vG [3, 2, 0, 0]) (w8.alloc (.cells #[.string ⟨#[]⟩, .int .u64 5, .int .u64 5, .int .u64 5, .int .u64 5, .int .u64 3, .int .u64 2, .int .u64 0, .int .u64 0] 44)) at hB
  replace hb := Ext.trans hb h8b
  replace hxU := hxU.ext h8b
  clear h8 h8b
  go_wp2_with fail
  refine (exq_C9 w _ _ ht hb hxU).mono ?_; rintro e w9 ⟨v9, rfl, hx9, h9⟩
  replace hb := hb.trans h9
  replace hxU := hxU.ext h9
  replace hB := hB.ext h9
  clear h9
  go_wp2_with fail
  refine (exq_C10 w _ _ ht hb hxU).mono ?_; rintro e w10 ⟨v10, rfl, _, h10⟩
  replace hb := hb.trans h10
  replace hxU := hxU.ext h10
  replace hx9 := hx9.ext h10
  replace hB := hB.ext h10
  clear h10
  go_wp2_with fail
  refine (exq_C11 w _ _ ht hb hxU).mono ?_; rintro e w11 ⟨v11, rfl, _, h11⟩
  replace hb := hb.trans h11
  replace hxU := hxU.ext h11
  replace hx9 := hx9.ext h11
  replace hB := hB.ext h11
  clear h11
  go_wp2_with fail
  refine (C12.out _ _ hxU).mono ?_; rintro e w12 ⟨rfl, h12⟩
  replace hb := hb.trans h12
  replace hxU := hxU.ext h12
  replace hx9 := hx9.ext h12
  replace hB := hB.ext h12
  clear h12
  have C13b := C13.out w12 hb
  generalize (⟨(putQ TU).toArray⟩ : ByteArray) = pb at *
  go_wp2_with fail
  refine C13b.mono ?_; rintro e w13 ⟨v13, n13, rfl, hx13, h13⟩
  replace hb := hb.trans h13
  replace hxU := hxU.ext h13
  replace hx9 := hx9.ext h13
  replace hB := hB.ext h13
  clear h13 C13b C13 C12
  obtain ⟨pU, capU, rfl⟩ := shU.out _ _ hxU
  obtain ⟨p9, cap9, rfl⟩ := sh1.out _ _ hx9
  obtain ⟨p13, cap13, rfl⟩ := shU.out _ _ hx13
  obtain ⟨bU, oU, rfl, lU, cU⟩ := hcU.out _ _ _ hxU
  obtain ⟨b13, o13, rfl, l13, c13⟩ := hcU.out _ _ _ hx13
  obtain ⟨b9, o9, rfl, l9, c91⟩ := hc1.out _ _ _ hx9
  obtain ⟨b9', o9', h9e, _, c90⟩ := hc0.out _ _ _ hx9
  injection h9e with h9e; injection h9e with e1 e2
  subst e1 e2
  clear hx9 hx13 hcU hc1 hc0 shU sh1
  have CR1' := fun U h => CR1.out U _ (hb.trans h) (hxU.ext h)
  have CR2' := fun U h => CR2.out U (hb.trans h)
  have CC' := fun U h => CC.out U _ (hb.trans h) (hxU.ext h)
  replace CR1 := Lib.hid CR1'
  replace CR2 := Lib.hid CR2'
  replace CC := Lib.hid CC'
  clear CR1' CR2' CC' hxU
  have hT : ∀ n : Nat, Hid (∀ x, vG x n = vG x n) := fun n x => rfl
  clear hT
  have a0 := cU 0 (by omega)
  have a1 := cU 1 (by omega)
  have a2 := cU 2 (by omega)
  have a3 := cU 3 (by omega)
  have a4 := cU 4 (by omega)
  have a5 := cU 5 (by omega)
  have a6 := cU 6 (by omega)
  have a7 := cU 7 (by omega)
  have a8 := cU 8 (by omega)
  simp only [entOne, uAt, List.getElem?_cons_zero, List.getElem?_cons_succ, Nat.add_zero] at a0 a1 a2 a3 a4 a5 a6 a7 a8
  clear cU
  change World.cell? _ _ = some (.int .u64 9) at a1
  change World.cell? _ _ = some (.int .u64 2) at a2
  change World.cell? _ _ = some (.int .u64 9) at a3
  change World.cell? _ _ = some (.int .u64 9) at a4
  change World.cell? _ _ = some (.int .u64 3) at a5
  change World.cell? _ _ = some (.int .u64 2) at a6
  change World.cell? _ _ = some (.int .u64 0) at a7
  change World.cell? _ _ = some (.int .u64 0) at a8
  have b0 := c13 0 (by omega)
  have b1 := c13 1 (by omega)
  have b2 := c13 2 (by omega)
  have b3 := c13 3 (by omega)
  have b4 := c13 4 (by omega)
  have b5 := c13 5 (by omega)
  have b6 := c13 6 (by omega)
  have b7 := c13 7 (by omega)
  have b8 := c13 8 (by omega)
  simp only [entOne, uAt, List.getElem?_cons_zero, List.getElem?_cons_succ, Nat.add_zero] at b0 b1 b2 b3 b4 b5 b6 b7 b8
  clear c13
  change World.cell? _ _ = some (.int .u64 9) at b1
  change World.cell? _ _ = some (.int .u64 2) at b2
  change World.cell? _ _ = some (.int .u64 9) at b3
  change World.cell? _ _ = some (.int .u64 9) at b4
  change World.cell? _ _ = some (.int .u64 3) at b5
  change World.cell? _ _ = some (.int .u64 2) at b6
  change World.cell? _ _ = some (.int .u64 0) at b7
  change World.cell? _ _ = some (.int .u64 0) at b8
  have c0 := c91 0 (by omega)
  have c1 := c91 1 (by omega)
  have c2 := c91 2 (by omega)
  have c3 := c91 3 (by omega)
  have c4 := c91 4 (by omega)
  have c5 := c91 5 (by omega)
  have c6 := c91 6 (by omega)
  have c7 := c91 7 (by omega)
  have c8 := c91 8 (by omega)
  simp only [entOne, uAt, List.getElem?_cons_zero, List.getElem?_cons_succ, Nat.add_zero] at c0 c1 c2 c3 c4 c5 c6 c7 c8
  clear c91
  change World.cell? _ _ = some (.int .u64 9) at c1
  change World.cell? _ _ = some (.int .u64 2) at c2
  change World.cell? _ _ = some (.int .u64 9) at c3
  change World.cell? _ _ = some (.int .u64 9) at c4
  change World.cell? _ _ = some (.int .u64 0) at c5
  change World.cell? _ _ = some (.int .u64 0) at c6
  change World.cell? _ _ = some (.int .u64 0) at c7
  change World.cell? _ _ = some (.int .u64 0) at c8
  have d0 := c90 0 (by omega)
  have d1 := c90 1 (by omega)
  have d2 := c90 2 (by omega)
  have d3 := c90 3 (by omega)
  have d4 := c90 4 (by omega)
  have d5 := c90 5 (by omega)
  have d6 := c90 6 (by omega)
  have d7 := c90 7 (by omega)
  have d8 := c90 8 (by omega)
  simp only [entOne, uAt, List.getElem?_cons_zero, List.getElem?_cons_succ, Nat.add_zero] at d0 d1 d2 d3 d4 d5 d6 d7 d8
  clear c90
  change World.cell? _ _ = some (.int .u64 5) at d1
  change World.cell? _ _ = some (.int .u64 5) at d2
  change World.cell? _ _ = some (.int .u64 5) at d3
  change World.cell? _ _ = some (.int .u64 5) at d4
  change World.cell? _ _ = some (.int .u64 0) at d5
  change World.cell? _ _ = some (.int .u64 0) at d6
  change World.cell? _ _ = some (.int .u64 0) at d7
  change World.cell? _ _ = some (.int .u64 0) at d8
  obtain ⟨lB, f0, f1, f2, f3, f4, f5, f6, f7, f8, _, _, _, _, _, _, _, _, _⟩ := hB
  change World.cell? _ _ = some (.int .u64 3) at f5
  change World.cell? _ _ = some (.int .u64 2) at f6
  change World.cell? _ _ = some (.int .u64 0) at f7 f8
  go_wp2_with fail
  simp only [List.append_eq, List.cons_append, List.nil_append]
  refine Dm.wp_region_grow (by kernel_rfl) (by kernel_rfl) ?_
  repeat (go_big_quiet_step (first
    | (go_at_call 11; with_reducible exact Calls.quietE (CR1.out _ (ext_grow _ _)))
    | (go_at_call 11; with_reducible exact Calls.quietE (CR2.out _ (ext_grow _ _)))
    | (go_at_call 21; with_reducible exact Calls.quietE (CC.out _ (ext_grow _ _)))))
  refine wpQuiet_nil ?_
  intro w14 h14
  go_wp2
  go_ret
  exact ⟨rfl, hb.trans h14⟩
end Go.Proofs.YtopnllbfhhjobaaDoor

namespace Go.Dm
open Go Go.RowKit
/-- A block that holds what is charged, by bytes. -/
structure CBx (B x a b g d : Nat) (bk : Bool) (w : World) : Prop where
  lt : B < w.heap.size
  c0 : w.cell? ⟨B, 0, none⟩ = some (.int .u8 (x : Nat))
  c1 : w.cell? ⟨B, 1, none⟩ = some (.int .u8 (a : Nat))
  c2 : w.cell? ⟨B, 2, none⟩ = some (.int .u8 (b : Nat))
  c3 : w.cell? ⟨B, 3, none⟩ = some (.int .u8 (g : Nat))
  c4 : w.cell? ⟨B, 4, none⟩ = some (.int .u8 (d : Nat))
  c5 : w.cell? ⟨B, 5, none⟩ = some (.bool bk)
theorem CBx.ext {B x a b g d : Nat} {bk : Bool} {w w' : World} (h : CBx B x a b g d bk w) (hx : Ext w w') : CBx B x a b g d bk w' := by
  have hc : ∀ {i : Nat} {u}, w.cell? ⟨B, i, none⟩ = some u → w'.cell? ⟨B, i, none⟩ = some u := fun {i u} e => by rw [hx.cell (by exact h.lt)]; exact e
  exact ⟨Nat.lt_of_lt_of_le h.lt hx.size, hc h.c0, hc h.c1, hc h.c2, hc h.c3, hc h.c4, hc h.c5⟩
theorem CBx.new (w : World) (x a b g d : Nat) (bk : Bool) (e : TypeId) : CBx w.heap.size x a b g d bk (w.alloc (.cells #[.int .u8 (x : Nat), .int .u8 (a : Nat), .int .u8 (b : Nat), .int .u8 (g : Nat), .int .u8 (d : Nat), .bool bk] e)) :=
  ⟨by simp, by simp, by simp, by simp, by simp, by simp, by simp⟩
end Go.Dm
namespace Go.Proofs.YtopnllbfhhjobaaDoor
open Go.RowKit Go.Dm
set_option maxHeartbeats 8000000 in
set_option maxRecDepth 100000 in
theorem quotaBack_w (l m : List ChQ) (c : ChQ) (vl vm : Value) (w : World) (hl : ∀ c ∈ l, OkC c) (hxl : Chs w vl l) (hm : ∀ c ∈ m, OkC c) (hxm : Chs w vm m) (hc : OkC c) (ht : Vars w) :
    Calls Tryd.prog 5 #[vl, vm, chVal c] w fun e w' => e = .returned (.bool true) ∧ Ext w w' := by
  obtain ⟨ql, capl, rfl, _, _⟩ := hxl.shape
  obtain ⟨qm, capm, rfl, _, _⟩ := hxm.shape
  have CE := fun U (h : Ext w U) => qexamples_w U (ht.ext h)
  have CG := fun U (h : Ext w U) => qgrown_w l m _ _ U hl hm (hxl.ext h) (hxm.ext h) (ht.ext h)
  have CA := fun U => qamount_w c hc U
  have CP := fun U => qpaths_w U
  have hS := growS_ok l m
  generalize growS l m = S at *
  have hpk : c.1.1 % 8 < 8 := by omega
  have hao := amtC_ok c
  have hal := amtC_lt c
  generalize amtC c = am at *
  obtain ⟨⟨x, a, b, g, d⟩, bk⟩ := c
  unfold chVal at *
  obtain ⟨hc0, hc1, hc2, hc3, hc4⟩ := hc
  simp only at CA hpk hc0 hc1 hc2 hc3 hc4 ⊢
  have hx8 : ((x : Int) % 8) = ((x % 8 : Nat) : Int) := by omega
  have hx8' : ((x : Int).tmod 8) = ((x % 8 : Nat) : Int) := by rw [Int.tmod_eq_emod_of_nonneg (by omega)]; exact hx8
  generalize x % 8 = pk at *
  have hC := CBx.new w x a b g d bk 28
  have hE : Ext w (w.alloc (.cells #[.int .u8 (x : Nat), .int .u8 (a : Nat), .int .u8 (b : Nat), .int .u8 (g : Nat), .int .u8 (d : Nat), .bool bk] 28)) := (Ext.refl _).alloc _
  have hback := fun h => charge_back hS (v := am) (p := pk) h
  have herr := chargeQ_err (S := S) (h := chgS am) (p := pk)
  have hok := hS.charge am pk
  have CC := fun v U hx h => charge_c S hS v hpk am hao U hx (ht.ext h)
  have CR := fun v U hx h => refund_c (chargeQ S (chgS am) pk).1 hok v hpk am hao U hx (ht.ext h)
  have CS := fun va vb U (hxa : Tree U va (conc S)) (hxb : Tree U vb (conc S)) => qsame_w (conc S) (conc S) va vb U hS.fit_conc hS.fit_conc (conc_small S) hxa hxb
  obtain ⟨⟨R, eno⟩, hR⟩ : ∃ r, chargeQ S (chgS am) pk = r := ⟨_, rfl⟩
  rw [hR] at CC CR hback herr
  simp only at CC CR hback herr
  unfold vVal vF at CA CC CR
  generalize vG am = A at *
  clear hR
  replace CE := Lib.hid CE
  replace CG := Lib.hid CG
  replace CA := Lib.hid CA
  replace CP := Lib.hid CP
  replace CC := Lib.hid CC
  replace CR := Lib.hid CR
  replace CS := Lib.hid CS
  replace hback := Lib.hid hback
  replace herr := Lib.hid herr
  go_enter Tryd.func5, Tryd.ntmps5
  go_wp2_with fail
  refine (CE.out _ hE).mono ?_; rintro e w1 ⟨rfl, h1⟩
  replace hC := hC.ext h1
  replace hE := hE.trans h1
  clear h1
  go_wp2_with fail
  refine (CG.out _ hE).mono ?_; rintro e w2 ⟨v0, rfl, hx, h2⟩
  replace hC := hC.ext h2
  replace hE := hE.trans h2
  clear h2
  obtain ⟨zl, z0, z1, z2, z3, z4, z5⟩ := id hC
  go_wp2_with fail
  try simp only [Act.put, List.setIfInBounds_toArray, List.set_cons_succ, List.set_cons_zero]
  refine Dm.wp_region_ext 7 (Dm.bits 7 0) (Ext.refl w2) (by kernel_rfl) (by kernel_rfl) (by kernel_rfl) ?_
  refine Dm.wpE_take (i := 1) (listed' := (Dm.bits 7 2)) (by kernel_rfl) (by kernel_rfl) rfl (fun _ _ _ _ h => h) ?_; apply Exists.intro; refine And.intro (fun x => ?_) ?_
  · go_big_quiet_step (fail); exact wpQuiet_nil rfl
  refine Dm.wpE_take (i := 2) (listed' := (Dm.bits 7 6)) (by kernel_rfl) (by kernel_rfl) rfl (fun _ _ _ _ h => h) ?_; apply Exists.intro; refine And.intro (fun x => ?_) ?_
  · go_big_quiet_step (fail); exact wpQuiet_nil rfl
  refine Dm.wpE_take (i := 3) (listed' := (Dm.bits 7 14)) (by kernel_rfl) (by kernel_rfl) rfl (fun _ _ _ _ h => h) ?_; apply Exists.intro; refine And.intro (fun x => ?_) ?_
  · go_big_quiet_step (fail); exact wpQuiet_nil rfl
  refine Dm.wpE_one (i := 0) (listed' := (Dm.bits 7 15)) (by kernel_rfl) (by kernel_rfl) rfl (Ext.refl w2) (fun w1a hx1a => ?_)
  have hX1a := Ext.trans (Ext.refl w2) hx1a
  go_wp2_with (go_at_call 13; go_must (refine (CP.out w1a).mono ?_; rintro e w1b ⟨vp, rfl, hPs, hs1⟩))
  obtain ⟨pp, pcap, rfl, _, _⟩ := hPs.shape
  obtain ⟨pb, po, rfl, hpbl, hpc⟩ := hPs.at (k := pk) hpk
  have hAt : AtC pb (po + pk) (.string (pth pk)) w1b := ⟨hpbl, hpc⟩
  clear hPs hpc hpbl
  have hpkl : pk < pathsB.length := hpk
  have hX1b := Ext.trans hX1a hs1
  try simp only [Exit.then, Act.put]
  refine Dm.wpE_take (i := 4) (listed' := (Dm.bits 7 31)) (by kernel_rfl) (by kernel_rfl) rfl (fun _ _ _ _ h => h) ?_; apply Exists.intro; refine And.intro (fun x => ?_) ?_
  · go_big_quiet_step (fail); exact wpQuiet_nil rfl
  refine Dm.wpE_one (i := 5) (listed' := (Dm.bits 7 63)) (by kernel_rfl) (by kernel_rfl) rfl hX1b (fun w2a hx2a => ?_)
  have hX2a := Ext.trans hX1b hx2a
  replace hAt := hAt.ext hx2a
  obtain ⟨hAl, hAc⟩ := hAt
  go_wp2_with fail
  clear hAl hAc
  have hX2b := hX2a
  have hs2 := Ext.refl w2a
  generalize w2a = w2b at *
  try simp only [Exit.then, Act.put]
  refine Dm.wpE_take (i := 6) (listed' := (Dm.bits 7 127)) (by kernel_rfl) (by kernel_rfl) rfl (fun _ _ _ _ h => h) ?_; apply Exists.intro; refine And.intro (fun x => ?_) ?_
  · go_big_quiet_step (fail); exact wpQuiet_nil rfl
  refine Dm.wpE_done (by kernel_rfl) hX2b (fun w3a hx3a => ?_)
  have hX3a := Ext.trans hX2b hx3a
  replace hC := hC.ext hX3a
  replace hE := hE.trans hX3a
  replace hx := hx.ext hX3a
  clear zl z0 z1 z2 z3 z4 z5
  generalize w3a = w3 at *
  obtain ⟨zl, z0, z1, z2, z3, z4, z5⟩ := id hC
  go_wp2_with fail
  refine (CA.out _).mono ?_; rintro e w4 ⟨rfl, h4⟩
  replace hC := hC.ext h4
  replace hE := hE.trans h4
  replace hx := hx.ext h4
  clear h4
  clear zl z0 z1 z2 z3 z4 z5
  go_wp2_with fail
  refine (CC.out _ _ hx hE).mono ?_; rintro e w5 ⟨v1, rfl, hx1, h5⟩
  replace hC := hC.ext h5
  replace hE := hE.trans h5
  replace hx := hx.ext h5
  clear h5
  by_cases he : eno = 0
  · subst he
    have hb2 := hback.out rfl
    obtain ⟨zl, z0, z1, z2, z3, z4, z5⟩ := id hC
    go_wp2_with fail
    refine (CA.out _).mono ?_; rintro e w6 ⟨rfl, h6⟩
    replace hE := hE.trans h6
    replace hx := hx.ext h6
    replace hx1 := hx1.ext h6
    clear h6 zl z0 z1 z2 z3 z4 z5 hC
    have CR2 := CR.out _ _ hx1 hE
    rw [hb2] at CR2
    simp only at CR2
    replace CR2 := Lib.hid CR2
    clear hb2
    go_wp2_with fail
    refine CR2.out.mono ?_; rintro e w7 ⟨v2, rfl, hx2, h7⟩
    replace hE := hE.trans h7
    replace hx := hx.ext h7
    clear h7 CR2
    go_wp2_with fail
    refine (CS.out _ _ _ hx2 hx).mono ?_; rintro e w8 ⟨rfl, h8⟩
    go_wp2
    go_ret
    exact ⟨by simp, hE.trans h8⟩
  · have hn : R = S := herr.out he
    subst hn
    have hei : ((eno : Int) != 0) = true := by rw [bne_iff_ne]; omega
    go_wp2_with fail
    refine (CS.out _ _ _ hx hx1).mono ?_; rintro e w6 ⟨rfl, h6⟩
    go_wp2
    go_ret
    exact ⟨by simp, hE.trans h6⟩
end Go.Proofs.YtopnllbfhhjobaaDoor
