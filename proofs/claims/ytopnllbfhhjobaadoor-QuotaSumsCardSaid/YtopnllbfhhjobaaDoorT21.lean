/- Texts one behind the other: Chapter 10: the walk of the laws' examples; Chapter 10: the walk of QuotaBack; Chapter 10: the walk of QuotaCharges. -/
import Derived.Test.YtopnllbfhhjobaaDoorT19
import Derived.Test.YtopnllbfhhjobaaDoorT20
namespace Go.Dm
open Go Go.RowKit
def T0 : List EntQ := [(⟨#[]⟩, [5, 5, 5, 5], noV)]
def T1 : List EntQ := [(⟨#[]⟩, [5, 5, 5, 5], noV), (⟨#[97]⟩, [9, 2, 9, 9], noV)]
def TU : List EntQ := [(⟨#[]⟩, [5, 5, 5, 5], [3, 2, 0, 0]), (⟨#[97]⟩, [9, 2, 9, 9], [3, 2, 0, 0])]
theorem fit_cons {r : EntQ} {R : List EntQ} (h : r.1.size ≤ 1048576 ∧ OkV r.2.1 ∧ OkV r.2.2) (hR : FitT R) : FitT (r :: R) := by
  refine ⟨fun x hx => ?_, fun x hx => ?_, fun x hx => ?_⟩ <;> rcases List.mem_cons.1 hx with rfl | hx
  · exact h.1
  · exact hR.path x hx
  · exact h.2.1
  · exact hR.lim x hx
  · exact h.2.2
  · exact hR.used x hx
theorem fitT0 : FitT T0 := fit_cons ⟨by decide, okV_small ⟨by omega, by omega, by omega, by omega⟩, okV_no⟩ FitT.nil
theorem fitT1 : FitT T1 := fit_cons ⟨by decide, okV_small ⟨by omega, by omega, by omega, by omega⟩, okV_no⟩ (fit_cons ⟨by decide, okV_small ⟨by omega, by omega, by omega, by omega⟩, okV_no⟩ FitT.nil)
theorem fitTU : FitT TU := fit_cons ⟨by decide, okV_small ⟨by omega, by omega, by omega, by omega⟩, okV_small ⟨by omega, by omega, by omega, by omega⟩⟩ (fit_cons ⟨by decide, okV_small ⟨by omega, by omega, by omega, by omega⟩, okV_small ⟨by omega, by omega, by omega, by omega⟩⟩ FitT.nil)
end Go.Dm
namespace Go.Proofs.YtopnllbfhhjobaaDoor
open Go.RowKit Go.Dm
theorem exq_C2 (w U : World) (v : Value) (ht : Vars w) (h : Ext w U) (hx : Tree U v T0) : Calls Tryd.prog 15 #[v, (.string ⟨#[]⟩), (.agg #[.int .u64 6, .int .u64 0, .int .u64 0, .int .u64 0])] U fun e w' => ∃ v', e = .returned (.tuple #[v', .int .i64 10]) ∧ Tree w' v' T0 ∧ Ext U w' := by
  have C := qCharge_w T0 v ⟨#[]⟩ [6, 0, 0, 0] (okV_small ⟨by omega, by omega, by omega, by omega⟩) U (by decide) fitT0 hx (by decide) (ht.ext h)
  rw [show eachT T0 ⟨#[]⟩ (chgE [6, 0, 0, 0]) = (T0, 10) by kernel_rfl] at C
  exact C
theorem exq_C3 (w U : World) (v : Value) (ht : Vars w) (h : Ext w U) (hx : Tree U v T0) : Calls Tryd.prog 22 #[v, (.string ⟨#[97, 47, 98]⟩), (.agg #[.int .u64 0, .int .u64 0, .int .u64 0, .int .u64 0])] U fun e w' => ∃ v', e = .returned (.tuple #[v', .int .i64 7]) ∧ Tree w' v' T0 ∧ Ext U w' := by
  have C := qset_w T0 v ⟨#[97, 47, 98]⟩ [0, 0, 0, 0] (okV_small ⟨by omega, by omega, by omega, by omega⟩) U (by decide) fitT0 hx (by decide) (ht.ext h)
  rw [show setT T0 ⟨#[97, 47, 98]⟩ [0, 0, 0, 0] = (T0, 7) by kernel_rfl] at C
  exact C
theorem exq_C4 (w U : World) (v : Value) (ht : Vars w) (h : Ext w U) (hx : Tree U v T0) : Calls Tryd.prog 22 #[v, (.string ⟨#[97]⟩), (.agg #[.int .u64 9, .int .u64 2, .int .u64 9, .int .u64 9])] U fun e w' => ∃ v', e = .returned (.tuple #[v', .int .i64 0]) ∧ Tree w' v' T1 ∧ Ext U w' := by
  have C := qset_w T0 v ⟨#[97]⟩ [9, 2, 9, 9] (okV_small ⟨by omega, by omega, by omega, by omega⟩) U (by decide) fitT0 hx (by decide) (ht.ext h)
  rw [show setT T0 ⟨#[97]⟩ [9, 2, 9, 9] = (T1, 0) by kernel_rfl] at C
  exact C
theorem exq_C5 (w U : World) (v : Value) (ht : Vars w) (h : Ext w U) (hx : Tree U v T1) : Calls Tryd.prog 15 #[v, (.string ⟨#[97]⟩), (.agg #[.int .u64 3, .int .u64 2, .int .u64 0, .int .u64 0])] U fun e w' => ∃ v', e = .returned (.tuple #[v', .int .i64 0]) ∧ Tree w' v' TU ∧ Ext U w' := by
  have C := qCharge_w T1 v ⟨#[97]⟩ [3, 2, 0, 0] (okV_small ⟨by omega, by omega, by omega, by omega⟩) U (by decide) fitT1 hx (by decide) (ht.ext h)
  rw [show eachT T1 ⟨#[97]⟩ (chgE [3, 2, 0, 0]) = (TU, 0) by kernel_rfl] at C
  exact C
theorem exq_C6 (w U : World) (v : Value) (ht : Vars w) (h : Ext w U) (hx : Tree U v TU) : Calls Tryd.prog 15 #[v, (.string ⟨#[97]⟩), (.agg #[.int .u64 0, .int .u64 1, .int .u64 0, .int .u64 0])] U fun e w' => ∃ v', e = .returned (.tuple #[v', .int .i64 10]) ∧ Tree w' v' TU ∧ Ext U w' := by
  have C := qCharge_w TU v ⟨#[97]⟩ [0, 1, 0, 0] (okV_small ⟨by omega, by omega, by omega, by omega⟩) U (by decide) fitTU hx (by decide) (ht.ext h)
  rw [show eachT TU ⟨#[97]⟩ (chgE [0, 1, 0, 0]) = (TU, 10) by kernel_rfl] at C
  exact C
theorem exq_C7 (w U : World) (v : Value) (ht : Vars w) (h : Ext w U) (hx : Tree U v TU) : Calls Tryd.prog 22 #[v, (.string ⟨#[]⟩), (.agg #[.int .u64 2, .int .u64 9, .int .u64 9, .int .u64 9])] U fun e w' => ∃ v', e = .returned (.tuple #[v', .int .i64 10]) ∧ Tree w' v' TU ∧ Ext U w' := by
  have C := qset_w TU v ⟨#[]⟩ [2, 9, 9, 9] (okV_small ⟨by omega, by omega, by omega, by omega⟩) U (by decide) fitTU hx (by decide) (ht.ext h)
  rw [show setT TU ⟨#[]⟩ [2, 9, 9, 9] = (TU, 10) by kernel_rfl] at C
  exact C
theorem exq_C9 (w U : World) (v : Value) (ht : Vars w) (h : Ext w U) (hx : Tree U v TU) : Calls Tryd.prog 12 #[v, (.string ⟨#[97]⟩), (.agg #[.int .u64 3, .int .u64 2, .int .u64 0, .int .u64 0])] U fun e w' => ∃ v', e = .returned (.tuple #[v', .int .i64 0]) ∧ Tree w' v' T1 ∧ Ext U w' := by
  have C := qRefund_w TU v ⟨#[97]⟩ [3, 2, 0, 0] (okV_small ⟨by omega, by omega, by omega, by omega⟩) U (by decide) fitTU hx (by decide) (ht.ext h)
  rw [show eachT TU ⟨#[97]⟩ (rfdE [3, 2, 0, 0]) = (T1, 0) by kernel_rfl] at C
  exact C
theorem exq_C10 (w U : World) (v : Value) (ht : Vars w) (h : Ext w U) (hx : Tree U v TU) : Calls Tryd.prog 12 #[v, (.string ⟨#[97]⟩), (.agg #[.int .u64 4, .int .u64 0, .int .u64 0, .int .u64 0])] U fun e w' => ∃ v', e = .returned (.tuple #[v', .int .i64 15]) ∧ Tree w' v' TU ∧ Ext U w' := by
  have C := qRefund_w TU v ⟨#[97]⟩ [4, 0, 0, 0] (okV_small ⟨by omega, by omega, by omega, by omega⟩) U (by decide) fitTU hx (by decide) (ht.ext h)
  rw [show eachT TU ⟨#[97]⟩ (rfdE [4, 0, 0, 0]) = (TU, 15) by kernel_rfl] at C
  exact C
theorem exq_C11 (w U : World) (v : Value) (ht : Vars w) (h : Ext w U) (hx : Tree U v TU) : Calls Tryd.prog 15 #[v, (.string ⟨#[120, 47]⟩), (.agg #[.int .u64 0, .int .u64 0, .int .u64 0, .int .u64 0])] U fun e w' => ∃ v', e = .returned (.tuple #[v', .int .i64 6]) ∧ Tree w' v' TU ∧ Ext U w' := by
  have C := qCharge_w TU v ⟨#[120, 47]⟩ [0, 0, 0, 0] (okV_small ⟨by omega, by omega, by omega, by omega⟩) U (by decide) fitTU hx (by decide) (ht.ext h)
  rw [show eachT TU ⟨#[120, 47]⟩ (chgE [0, 0, 0, 0]) = (TU, 6) by kernel_rfl] at C
  exact C
set_option maxHeartbeats 8000000 in
set_option maxRecDepth 100000 in
theorem qexamples_w (w : World) (ht : Vars w) :
    Calls Tryd.prog 9 #[] w fun e w' => e = .returned (.bool true) ∧ Ext w w' := by
  have C1 : ∀ U, Calls Tryd.prog 25 #[(.agg #[.int .u64 5, .int .u64 5, .int .u64 5, .int .u64 5])] U fun e w' => ∃ v, e = .returned v ∧ Tree w' v T0 ∧ Ext U w' := fun U => qnew_w [5, 5, 5, 5] U
  have C8 : ∀ U v (_ : Tree U v TU), Calls Tryd.prog 20 #[v, (.string ⟨#[]⟩)] U fun e w' => e = .returned (.tuple #[.agg #[.string ⟨#[]⟩, .int .u64 5, .int .u64 5, .int .u64 5, .int .u64 5, .int .u64 3, .int .u64 2, .int .u64 0, .int .u64 0], .bool true]) ∧ Ext U w' := fun U v hx => by
    have C := qfind_w TU ⟨#[]⟩ v U (by decide) hx
    rw [show findQ TU ⟨#[]⟩ = ((⟨#[]⟩, [5, 5, 5, 5], [3, 2, 0, 0]), true) by kernel_rfl] at C
    exact C
  have C12 : ∀ U v (_ : Tree U v TU), Calls Tryd.prog 23 #[v] U fun e w' => e = .returned (.string ⟨(putQ TU).toArray⟩) ∧ Ext U w' := fun U v hx => qput_w TU v U (by decide) fitTU (by decide +kernel) hx
  have C13 : ∀ U (_ : Ext w U), Calls Tryd.prog 24 #[.string ⟨(putQ TU).toArray⟩, .int .i64 0] U fun e w' => ∃ v n, e = .returned (.tuple #[v, .int .i64 n, .bool true]) ∧ Tree w' v TU ∧ Ext U w' := fun U h => by
    have C := qget_w ⟨(putQ TU).toArray⟩ 0 U (by decide +kernel) (ht.ext h)
    rw [show getQ (⟨(putQ TU).toArray⟩ : ByteArray).data.toList 0 = (TU, 20, true) by decide +kernel] at C
    exact C.mono fun e w' ⟨v, h1, h2, h3⟩ => ⟨v, _, h1, h2, h3⟩
  have CR1 : ∀ U v (_ : Ext w U) (_ : Tree U v TU), Calls Tryd.prog 11 #[v] U fun e w' => e = .returned (.bool true) ∧ Ext U w' := fun U v h hx => by
    have C := qright_w TU v U (by decide) fitTU hx (ht.ext h)
    rw [show rightQ TU = true by kernel_rfl] at C
    exact C
  have CR2 : ∀ U (_ : Ext w U), Calls Tryd.prog 11 #[.slice none 0 0] U fun e w' => e = .returned (.bool false) ∧ Ext U w' := fun U h => by
    have C := qright_w [] (.slice none 0 0) U (by decide) FitT.nil (Tree.nil U) (ht.ext h)
    rw [show rightQ [] = false by kernel_rfl] at C
    exact C
  have CC : ∀ U v (_ : Ext w U) (_ : Tree U v TU), Calls Tryd.prog 21 #[v, (.string ⟨#[97]⟩), (.agg #[.int .u64 5, .int .u64 2, .int .u64 5, .int .u64 5])] U fun e w' => e = .returned (.bool true) ∧ Ext U w' := fun U v h hx => by
    have C := qcould_w TU v ⟨#[97]⟩ [5, 2, 5, 5] (okV_small ⟨by omega, by omega, by omega, by omega⟩) U (by decide) fitTU hx (by decide) (ht.ext h)
    rw [show couldT TU ⟨#[97]⟩ [5, 2, 5, 5] = true by kernel_rfl] at C
    exact C
  have hq : ∀ {x y : Vc} (_ : OkV x) (_ : OkV y) (U : World), (binOp .eql 36 (vVal x) (vVal y)).run Tryd.prog U = .ok (.bool (decide (x = y))) U := fun hx hy U => run_eql_vals Tryd.underlying36 Tryd.underlying34 (by kernel_rfl) hx hy U
  have oA : OkV [3, 2, 0, 0] := okV_small ⟨by omega, by omega, by omega, by omega⟩
  have oL : OkV [9, 2, 9, 9] := okV_small ⟨by omega, by omega, by omega, by omega⟩
  have q1 : ∀ U, (binOp .eql 36 (.agg #[.int .u64 3, .int .u64 2, .int .u64 0, .int .u64 0]) (.agg #[.int .u64 3, .int .u64 2, .int .u64 0, .int .u64 0])).run Tryd.prog U = .ok (.bool true) U := fun U => hq oA oA U
  have q2 : ∀ U, (binOp .eql 36 (.agg #[.int .u64 0, .int .u64 0, .int .u64 0, .int .u64 0]) (.agg #[.int .u64 0, .int .u64 0, .int .u64 0, .int .u64 0])).run Tryd.prog U = .ok (.bool true) U := fun U => hq okV_no okV_no U
  have q3 : ∀ U, (binOp .eql 44 (.agg #[.string ⟨#[97]⟩, .int .u64 9, .int .u64 2, .int .u64 9, .int .u64 9, .int .u64 3, .int .u64 2, .int .u64 0, .int .u64 0]) (.agg #[.string ⟨#[97]⟩, .int .u64 9, .int .u64 2, .int .u64 9, .int .u64 9, .int .u64 3, .int .u64 2, .int .u64 0, .int .u64 0])).run Tryd.prog U = .ok (.bool true) U := fun U =>
    (run_eql_entQ (eqEnt (a := (⟨#[97]⟩, [9, 2, 9, 9], [3, 2, 0, 0])) (b := (⟨#[97]⟩, [9, 2, 9, 9], [3, 2, 0, 0])) ⟨by decide, oL, oA⟩ ⟨by decide, oL, oA⟩ U)).trans (by rw [decide_eq_true rfl])
  clear hq oA oL
  have hcU : ∀ U p cap, Tree U (.slice p 2 cap) TU → ∃ b off, p = some ⟨b, off, none⟩ ∧ b < U.heap.size ∧ ∀ j, j < 9 → U.cell? ⟨b, off + 9 + j, none⟩ = (entOne (⟨#[97]⟩, [9, 2, 9, 9], [3, 2, 0, 0]))[j]? := fun U p cap h => Tree.at (xs := TU) h (k := 1) (by decide)
  have hc1 : ∀ U p cap, Tree U (.slice p 2 cap) T1 → ∃ b off, p = some ⟨b, off, none⟩ ∧ b < U.heap.size ∧ ∀ j, j < 9 → U.cell? ⟨b, off + 9 + j, none⟩ = (entOne (⟨#[97]⟩, [9, 2, 9, 9], noV))[j]? := fun U p cap h => Tree.at (xs := T1) h (k := 1) (by decide)
  have hc0 : ∀ U p cap, Tree U (.slice p 2 cap) T1 → ∃ b off, p = some ⟨b, off, none⟩ ∧ b < U.heap.size ∧ ∀ j, j < 9 → U.cell? ⟨b, off + j, none⟩ = (entOne (⟨#[]⟩, [5, 5, 5, 5], noV))[j]? := fun U p cap h => by
    obtain ⟨b, off, h1, h2, h3⟩ := Tree.at (xs := T1) h (k := 0) (by decide)
    exact ⟨b, off, h1, h2, fun j hj => by have := h3 j hj; rw [Nat.zero_mul, Nat.add_zero] at this; exact this⟩
  have shU : ∀ U v, Tree U v TU → ∃ p cap, v = .slice p 2 cap := fun U v h => by obtain ⟨p, cap, h1, _⟩ := h.shape; exact ⟨p, cap, h1⟩
  have sh1 : ∀ U v, Tree U v T1 → ∃ p cap, v = .slice p 2 cap := fun U v h => by obtain ⟨p, cap, h1, _⟩ := h.shape; exact ⟨p, cap, h1⟩
  replace C1 := Lib.hid C1
  replace C8 := Lib.hid C8
  replace C12 := Lib.hid C12
  replace C13 := Lib.hid C13
  replace CR1 := Lib.hid CR1
  replace CR2 := Lib.hid CR2
  replace CC := Lib.hid CC
  replace hcU := Lib.hid hcU
  replace hc1 := Lib.hid hc1
  replace hc0 := Lib.hid hc0
  replace shU := Lib.hid shU
  replace sh1 := Lib.hid sh1
  go_enter Tryd.func9, Tryd.ntmps9
  go_wp2_with fail
  refine (C1.out _).mono ?_; rintro e w1 ⟨v0, rfl, hx0, hb⟩
  go_wp2_with fail
  refine (exq_C2 w _ _ ht hb hx0).mono ?_; rintro e w2 ⟨v2, rfl, _, h2⟩
  replace hb := hb.trans h2
  replace hx0 := hx0.ext h2
  clear h2
  go_wp2_with fail
  refine (exq_C3 w _ _ ht hb hx0).mono ?_; rintro e w3 ⟨v3, rfl, _, h3⟩
  replace hb := hb.trans h3
  replace hx0 := hx0.ext h3
  clear h3
  go_wp2_with fail
  refine (exq_C4 w _ _ ht hb hx0).mono ?_; rintro e w4 ⟨v1, rfl, hx1, h4⟩
  replace hb := hb.trans h4
  clear h4 hx0
  go_wp2_with fail
  refine (exq_C5 w _ _ ht hb hx1).mono ?_; rintro e w5 ⟨vU, rfl, hxU, h5⟩
  replace hb := hb.trans h5
  clear h5 hx1
  go_wp2_with fail
  refine (exq_C6 w _ _ ht hb hxU).mono ?_; rintro e w6 ⟨v6, rfl, _, h6⟩
  replace hb := hb.trans h6
  replace hxU := hxU.ext h6
  clear h6
  go_wp2_with fail
  refine (exq_C7 w _ _ ht hb hxU).mono ?_; rintro e w7 ⟨v7, rfl, _, h7⟩
  replace hb := hb.trans h7
  replace hxU := hxU.ext h7
  clear h7
  go_wp2_with fail
  refine (C8.out _ _ hxU).mono ?_; rintro e w8 ⟨rfl, h8⟩
  have hB := (EBox.new w8 ⟨#[]⟩ (vG [5, 5, 5, 5]) (vG [3, 2, 0, 0]) 44)
  have h8b := h8.alloc (.cells #[.string ⟨#[]⟩, .int .u64 5, .int .u64 5, .int .u64 5, .int .u64 5, .int .u64 3, .int .u64 2, .int .u64 0, .int .u64 0] 44)
  change EBox w8.heap.size ⟨#[]⟩ (vG [5, 5, 5, 5]) (vG [3, 2, 0, 0]) (w8.alloc (.cells #[.string ⟨#[]⟩, .int .u64 5, .int .u64 5, .int .u64 5, .int .u64 5, .int .u64 3, .int .u64 2, .int .u64 0, .int .u64 0] 44)) at hB
  replace hb := Ext.trans hb h8b
  replace hxU := hxU.ext h8b
  clear h8 h8b
  go_wp2_with fail
  refine (exq_C9 w _ _ ht hb hxU).mono ?_; rintro e w9 ⟨v9, rfl, hx9, h9⟩
  replace hb := hb.trans h9
  replace hxU := hxU.ext h9
  replace hB := hB.ext h9
  clear h9
  go_wp2_with fail
  refine (exq_C10 w _ _ ht hb hxU).mono ?_; rintro e w10 ⟨v10, rfl, _, h10⟩
  replace hb := hb.trans h10
  replace hxU := hxU.ext h10
  replace hx9 := hx9.ext h10
  replace hB := hB.ext h10
  clear h10
  go_wp2_with fail
  refine (exq_C11 w _ _ ht hb hxU).mono ?_; rintro e w11 ⟨v11, rfl, _, h11⟩
  replace hb := hb.trans h11
  replace hxU := hxU.ext h11
  replace hx9 := hx9.ext h11
  replace hB := hB.ext h11
  clear h11
  go_wp2_with fail
  refine (C12.out _ _ hxU).mono ?_; rintro e w12 ⟨rfl, h12⟩
  replace hb := hb.trans h12
  replace hxU := hxU.ext h12
  replace hx9 := hx9.ext h12
  replace hB := hB.ext h12
  clear h12
  have C13b := C13.out w12 hb
  generalize (⟨(putQ TU).toArray⟩ : ByteArray) = pb at *
  go_wp2_with fail
  refine C13b.mono ?_; rintro e w13 ⟨v13, n13, rfl, hx13, h13⟩
  replace hb := hb.trans h13
  replace hxU := hxU.ext h13
  replace hx9 := hx9.ext h13
  replace hB := hB.ext h13
  clear h13 C13b C13 C12
  obtain ⟨pU, capU, rfl⟩ := shU.out _ _ hxU
  obtain ⟨p9, cap9, rfl⟩ := sh1.out _ _ hx9
  obtain ⟨p13, cap13, rfl⟩ := shU.out _ _ hx13
  obtain ⟨bU, oU, rfl, lU, cU⟩ := hcU.out _ _ _ hxU
  obtain ⟨b13, o13, rfl, l13, c13⟩ := hcU.out _ _ _ hx13
  obtain ⟨b9, o9, rfl, l9, c91⟩ := hc1.out _ _ _ hx9
  obtain ⟨b9', o9', h9e, _, c90⟩ := hc0.out _ _ _ hx9
  injection h9e with h9e; injection h9e with e1 e2
  subst e1 e2
  clear hx9 hx13 hcU hc1 hc0 shU sh1
  have CR1' := fun U h => CR1.out U _ (hb.trans h) (hxU.ext h)
  have CR2' := fun U h => CR2.out U (hb.trans h)
  have CC' := fun U h => CC.out U _ (hb.trans h) (hxU.ext h)
  replace CR1 := Lib.hid CR1'
  replace CR2 := Lib.hid CR2'
  replace CC := Lib.hid CC'
  clear CR1' CR2' CC' hxU
  have hT : ∀ n : Nat, Hid (∀ x, vG x n = vG x n) := fun n x => rfl
  clear hT
  have a0 := cU 0 (by omega)
  have a1 := cU 1 (by omega)
  have a2 := cU 2 (by omega)
  have a3 := cU 3 (by omega)
  have a4 := cU 4 (by omega)
  have a5 := cU 5 (by omega)
  have a6 := cU 6 (by omega)
  have a7 := cU 7 (by omega)
  have a8 := cU 8 (by omega)
  simp only [entOne, uAt, List.getElem?_cons_zero, List.getElem?_cons_succ, Nat.add_zero] at a0 a1 a2 a3 a4 a5 a6 a7 a8
  clear cU
  change World.cell? _ _ = some (.int .u64 9) at a1
  change World.cell? _ _ = some (.int .u64 2) at a2
  change World.cell? _ _ = some (.int .u64 9) at a3
  change World.cell? _ _ = some (.int .u64 9) at a4
  change World.cell? _ _ = some (.int .u64 3) at a5
  change World.cell? _ _ = some (.int .u64 2) at a6
  change World.cell? _ _ = some (.int .u64 0) at a7
  change World.cell? _ _ = some (.int .u64 0) at a8
  have b0 := c13 0 (by omega)
  have b1 := c13 1 (by omega)
  have b2 := c13 2 (by omega)
  have b3 := c13 3 (by omega)
  have b4 := c13 4 (by omega)
  have b5 := c13 5 (by omega)
  have b6 := c13 6 (by omega)
  have b7 := c13 7 (by omega)
  have b8 := c13 8 (by omega)
  simp only [entOne, uAt, List.getElem?_cons_zero, List.getElem?_cons_succ, Nat.add_zero] at b0 b1 b2 b3 b4 b5 b6 b7 b8
  clear c13
  change World.cell? _ _ = some (.int .u64 9) at b1
  change World.cell? _ _ = some (.int .u64 2) at b2
  change World.cell? _ _ = some (.int .u64 9) at b3
  change World.cell? _ _ = some (.int .u64 9) at b4
  change World.cell? _ _ = some (.int .u64 3) at b5
  change World.cell? _ _ = some (.int .u64 2) at b6
  change World.cell? _ _ = some (.int .u64 0) at b7
  change World.cell? _ _ = some (.int .u64 0) at b8
  have c0 := c91 0 (by omega)
  have c1 := c91 1 (by omega)
  have c2 := c91 2 (by omega)
  have c3 := c91 3 (by omega)
  have c4 := c91 4 (by omega)
  have c5 := c91 5 (by omega)
  have c6 := c91 6 (by omega)
  have c7 := c91 7 (by omega)
  have c8 := c91 8 (by omega)
  simp only [entOne, uAt, List.getElem?_cons_zero, List.getElem?_cons_succ, Nat.add_zero] at c0 c1 c2 c3 c4 c5 c6 c7 c8
  clear c91
  change World.cell? _ _ = some (.int .u64 9) at c1
  change World.cell? _ _ = some (.int .u64 2) at c2
  change World.cell? _ _ = some (.int .u64 9) at c3
  change World.cell? _ _ = some (.int .u64 9) at c4
  change World.cell? _ _ = some (.int .u64 0) at c5
  change World.cell? _ _ = some (.int .u64 0) at c6
  change World.cell? _ _ = some (.int .u64 0) at c7
  change World.cell? _ _ = some (.int .u64 0) at c8
  have d0 := c90 0 (by omega)
  have d1 := c90 1 (by omega)
  have d2 := c90 2 (by omega)
  have d3 := c90 3 (by omega)
  have d4 := c90 4 (by omega)
  have d5 := c90 5 (by omega)
  have d6 := c90 6 (by omega)
  have d7 := c90 7 (by omega)
  have d8 := c90 8 (by omega)
  simp only [entOne, uAt, List.getElem?_cons_zero, List.getElem?_cons_succ, Nat.add_zero] at d0 d1 d2 d3 d4 d5 d6 d7 d8
  clear c90
  change World.cell? _ _ = some (.int .u64 5) at d1
  change World.cell? _ _ = some (.int .u64 5) at d2
  change World.cell? _ _ = some (.int .u64 5) at d3
  change World.cell? _ _ = some (.int .u64 5) at d4
  change World.cell? _ _ = some (.int .u64 0) at d5
  change World.cell? _ _ = some (.int .u64 0) at d6
  change World.cell? _ _ = some (.int .u64 0) at d7
  change World.cell? _ _ = some (.int .u64 0) at d8
  obtain ⟨lB, f0, f1, f2, f3, f4, f5, f6, f7, f8, _, _, _, _, _, _, _, _, _⟩ := hB
  change World.cell? _ _ = some (.int .u64 3) at f5
  change World.cell? _ _ = some (.int .u64 2) at f6
  change World.cell? _ _ = some (.int .u64 0) at f7 f8
  go_wp2_with fail
  simp only [List.append_eq, List.cons_append, List.nil_append]
  refine Dm.wp_region_grow (by kernel_rfl) (by kernel_rfl) ?_
  repeat (go_big_quiet_step (first
    | (go_at_call 11; with_reducible exact Calls.quietE (CR1.out _ (ext_grow _ _)))
    | (go_at_call 11; with_reducible exact Calls.quietE (CR2.out _ (ext_grow _ _)))
    | (go_at_call 21; with_reducible exact Calls.quietE (CC.out _ (ext_grow _ _)))))
  refine wpQuiet_nil ?_
  intro w14 h14
  go_wp2
  go_ret
  exact ⟨rfl, hb.trans h14⟩
end Go.Proofs.YtopnllbfhhjobaaDoor

namespace Go.Dm
open Go Go.RowKit
/-- A block that holds what is charged, by bytes. -/
structure CBx (B x a b g d : Nat) (bk : Bool) (w : World) : Prop where
  lt : B < w.heap.size
  c0 : w.cell? ⟨B, 0, none⟩ = some (.int .u8 (x : Nat))
  c1 : w.cell? ⟨B, 1, none⟩ = some (.int .u8 (a : Nat))
  c2 : w.cell? ⟨B, 2, none⟩ = some (.int .u8 (b : Nat))
  c3 : w.cell? ⟨B, 3, none⟩ = some (.int .u8 (g : Nat))
  c4 : w.cell? ⟨B, 4, none⟩ = some (.int .u8 (d : Nat))
  c5 : w.cell? ⟨B, 5, none⟩ = some (.bool bk)
theorem CBx.ext {B x a b g d : Nat} {bk : Bool} {w w' : World} (h : CBx B x a b g d bk w) (hx : Ext w w') : CBx B x a b g d bk w' := by
  have hc : ∀ {i : Nat} {u}, w.cell? ⟨B, i, none⟩ = some u → w'.cell? ⟨B, i, none⟩ = some u := fun {i u} e => by rw [hx.cell (by exact h.lt)]; exact e
  exact ⟨Nat.lt_of_lt_of_le h.lt hx.size, hc h.c0, hc h.c1, hc h.c2, hc h.c3, hc h.c4, hc h.c5⟩
theorem CBx.new (w : World) (x a b g d : Nat) (bk : Bool) (e : TypeId) : CBx w.heap.size x a b g d bk (w.alloc (.cells #[.int .u8 (x : Nat), .int .u8 (a : Nat), .int .u8 (b : Nat), .int .u8 (g : Nat), .int .u8 (d : Nat), .bool bk] e)) :=
  ⟨by simp, by simp, by simp, by simp, by simp, by simp, by simp⟩
end Go.Dm
namespace Go.Proofs.YtopnllbfhhjobaaDoor
open Go.RowKit Go.Dm
set_option maxHeartbeats 8000000 in
set_option maxRecDepth 100000 in
theorem quotaBack_w (l m : List ChQ) (c : ChQ) (vl vm : Value) (w : World) (hl : ∀ c ∈ l, OkC c) (hxl : Chs w vl l) (hm : ∀ c ∈ m, OkC c) (hxm : Chs w vm m) (hc : OkC c) (ht : Vars w) :
    Calls Tryd.prog 5 #[vl, vm, chVal c] w fun e w' => e = .returned (.bool true) ∧ Ext w w' := by
  obtain ⟨ql, capl, rfl, _, _⟩ := hxl.shape
  obtain ⟨qm, capm, rfl, _, _⟩ := hxm.shape
  have CE := fun U (h : Ext w U) => qexamples_w U (ht.ext h)
  have CG := fun U (h : Ext w U) => qgrown_w l m _ _ U hl hm (hxl.ext h) (hxm.ext h) (ht.ext h)
  have CA := fun U => qamount_w c hc U
  have CP := fun U => qpaths_w U
  have hS := growS_ok l m
  generalize growS l m = S at *
  have hpk : c.1.1 % 8 < 8 := by omega
  have hao := amtC_ok c
  have hal := amtC_lt c
  generalize amtC c = am at *
  obtain ⟨⟨x, a, b, g, d⟩, bk⟩ := c
  unfold chVal at *
  obtain ⟨hc0, hc1, hc2, hc3, hc4⟩ := hc
  simp only at CA hpk hc0 hc1 hc2 hc3 hc4 ⊢
  have hx8 : ((x : Int) % 8) = ((x % 8 : Nat) : Int) := by omega
  have hx8' : ((x : Int).tmod 8) = ((x % 8 : Nat) : Int) := by rw [Int.tmod_eq_emod_of_nonneg (by omega)]; exact hx8
  generalize x % 8 = pk at *
  have hC := CBx.new w x a b g d bk 28
  have hE : Ext w (w.alloc (.cells #[.int .u8 (x : Nat), .int .u8 (a : Nat), .int .u8 (b : Nat), .int .u8 (g : Nat), .int .u8 (d : Nat), .bool bk] 28)) := (Ext.refl _).alloc _
  have hback := fun h => charge_back hS (v := am) (p := pk) h
  have herr := chargeQ_err (S := S) (h := chgS am) (p := pk)
  have hok := hS.charge am pk
  have CC := fun v U hx h => charge_c S hS v hpk am hao U hx (ht.ext h)
  have CR := fun v U hx h => refund_c (chargeQ S (chgS am) pk).1 hok v hpk am hao U hx (ht.ext h)
  have CS := fun va vb U (hxa : Tree U va (conc S)) (hxb : Tree U vb (conc S)) => qsame_w (conc S) (conc S) va vb U hS.fit_conc hS.fit_conc (conc_small S) hxa hxb
  obtain ⟨⟨R, eno⟩, hR⟩ : ∃ r, chargeQ S (chgS am) pk = r := ⟨_, rfl⟩
  rw [hR] at CC CR hback herr
  simp only at CC CR hback herr
  unfold vVal vF at CA CC CR
  generalize vG am = A at *
  clear hR
  replace CE := Lib.hid CE
  replace CG := Lib.hid CG
  replace CA := Lib.hid CA
  replace CP := Lib.hid CP
  replace CC := Lib.hid CC
  replace CR := Lib.hid CR
  replace CS := Lib.hid CS
  replace hback := Lib.hid hback
  replace herr := Lib.hid herr
  go_enter Tryd.func5, Tryd.ntmps5
  go_wp2_with fail
  refine (CE.out _ hE).mono ?_; rintro e w1 ⟨rfl, h1⟩
  replace hC := hC.ext h1
  replace hE := hE.trans h1
  clear h1
  go_wp2_with fail
  refine (CG.out _ hE).mono ?_; rintro e w2 ⟨v0, rfl, hx, h2⟩
  replace hC := hC.ext h2
  replace hE := hE.trans h2
  clear h2
  obtain ⟨zl, z0, z1, z2, z3, z4, z5⟩ := id hC
  go_wp2_with fail
  try simp only [Act.put, List.setIfInBounds_toArray, List.set_cons_succ, List.set_cons_zero]
  refine Dm.wp_region_ext 7 (Dm.bits 7 0) (Ext.refl w2) (by kernel_rfl) (by kernel_rfl) (by kernel_rfl) ?_
  refine Dm.wpE_take (i := 1) (listed' := (Dm.bits 7 2)) (by kernel_rfl) (by kernel_rfl) rfl (fun _ _ _ _ h => h) ?_; apply Exists.intro; refine And.intro (fun x => ?_) ?_
  · go_big_quiet_step (fail); exact wpQuiet_nil rfl
  refine Dm.wpE_take (i := 2) (listed' := (Dm.bits 7 6)) (by kernel_rfl) (by kernel_rfl) rfl (fun _ _ _ _ h => h) ?_; apply Exists.intro; refine And.intro (fun x => ?_) ?_
  · go_big_quiet_step (fail); exact wpQuiet_nil rfl
  refine Dm.wpE_take (i := 3) (listed' := (Dm.bits 7 14)) (by kernel_rfl) (by kernel_rfl) rfl (fun _ _ _ _ h => h) ?_; apply Exists.intro; refine And.intro (fun x => ?_) ?_
  · go_big_quiet_step (fail); exact wpQuiet_nil rfl
  refine Dm.wpE_one (i := 0) (listed' := (Dm.bits 7 15)) (by kernel_rfl) (by kernel_rfl) rfl (Ext.refl w2) (fun w1a hx1a => ?_)
  have hX1a := Ext.trans (Ext.refl w2) hx1a
  go_wp2_with (go_at_call 13; go_must (refine (CP.out w1a).mono ?_; rintro e w1b ⟨vp, rfl, hPs, hs1⟩))
  obtain ⟨pp, pcap, rfl, _, _⟩ := hPs.shape
  obtain ⟨pb, po, rfl, hpbl, hpc⟩ := hPs.at (k := pk) hpk
  have hAt : AtC pb (po + pk) (.string (pth pk)) w1b := ⟨hpbl, hpc⟩
  clear hPs hpc hpbl
  have hpkl : pk < pathsB.length := hpk
  have hX1b := Ext.trans hX1a hs1
  try simp only [Exit.then, Act.put]
  refine Dm.wpE_take (i := 4) (listed' := (Dm.bits 7 31)) (by kernel_rfl) (by kernel_rfl) rfl (fun _ _ _ _ h => h) ?_; apply Exists.intro; refine And.intro (fun x => ?_) ?_
  · go_big_quiet_step (fail); exact wpQuiet_nil rfl
  refine Dm.wpE_one (i := 5) (listed' := (Dm.bits 7 63)) (by kernel_rfl) (by kernel_rfl) rfl hX1b (fun w2a hx2a => ?_)
  have hX2a := Ext.trans hX1b hx2a
  replace hAt := hAt.ext hx2a
  obtain ⟨hAl, hAc⟩ := hAt
  go_wp2_with fail
  clear hAl hAc
  have hX2b := hX2a
  have hs2 := Ext.refl w2a
  generalize w2a = w2b at *
  try simp only [Exit.then, Act.put]
  refine Dm.wpE_take (i := 6) (listed' := (Dm.bits 7 127)) (by kernel_rfl) (by kernel_rfl) rfl (fun _ _ _ _ h => h) ?_; apply Exists.intro; refine And.intro (fun x => ?_) ?_
  · go_big_quiet_step (fail); exact wpQuiet_nil rfl
  refine Dm.wpE_done (by kernel_rfl) hX2b (fun w3a hx3a => ?_)
  have hX3a := Ext.trans hX2b hx3a
  replace hC := hC.ext hX3a
  replace hE := hE.trans hX3a
  replace hx := hx.ext hX3a
  clear zl z0 z1 z2 z3 z4 z5
  generalize w3a = w3 at *
  obtain ⟨zl, z0, z1, z2, z3, z4, z5⟩ := id hC
  go_wp2_with fail
  refine (CA.out _).mono ?_; rintro e w4 ⟨rfl, h4⟩
  replace hC := hC.ext h4
  replace hE := hE.trans h4
  replace hx := hx.ext h4
  clear h4
  clear zl z0 z1 z2 z3 z4 z5
  go_wp2_with fail
  refine (CC.out _ _ hx hE).mono ?_; rintro e w5 ⟨v1, rfl, hx1, h5⟩
  replace hC := hC.ext h5
  replace hE := hE.trans h5
  replace hx := hx.ext h5
  clear h5
  by_cases he : eno = 0
  · subst he
    have hb2 := hback.out rfl
    obtain ⟨zl, z0, z1, z2, z3, z4, z5⟩ := id hC
    go_wp2_with fail
    refine (CA.out _).mono ?_; rintro e w6 ⟨rfl, h6⟩
    replace hE := hE.trans h6
    replace hx := hx.ext h6
    replace hx1 := hx1.ext h6
    clear h6 zl z0 z1 z2 z3 z4 z5 hC
    have CR2 := CR.out _ _ hx1 hE
    rw [hb2] at CR2
    simp only at CR2
    replace CR2 := Lib.hid CR2
    clear hb2
    go_wp2_with fail
    refine CR2.out.mono ?_; rintro e w7 ⟨v2, rfl, hx2, h7⟩
    replace hE := hE.trans h7
    replace hx := hx.ext h7
    clear h7 CR2
    go_wp2_with fail
    refine (CS.out _ _ _ hx2 hx).mono ?_; rintro e w8 ⟨rfl, h8⟩
    go_wp2
    go_ret
    exact ⟨by simp, hE.trans h8⟩
  · have hn : R = S := herr.out he
    subst hn
    have hei : ((eno : Int) != 0) = true := by rw [bne_iff_ne]; omega
    go_wp2_with fail
    refine (CS.out _ _ _ hx hx1).mono ?_; rintro e w6 ⟨rfl, h6⟩
    go_wp2
    go_ret
    exact ⟨by simp, hE.trans h6⟩
end Go.Proofs.YtopnllbfhhjobaaDoor

namespace Go.Dm
open Go Go.RowKit
theorem ups_drop {k : Nat} (hk : k < 8) : upsB (pth k) = ((abvK k).drop 1).map pth := by
  have h := abv_pth hk
  unfold abvB at h
  rw [abvK_head k hk] at h
  injection h
theorem abvK_four : ∀ k, k < 8 → (abvK k).length ≤ 4 := by decide
theorem Strs.at' {w : World} {ss : List ByteArray} {p cap n} (h : Strs w (.slice p n cap) ss) {k : Nat} (hk : k < ss.length) : ∃ b off, p = some ⟨b, off, none⟩ ∧ b < w.heap.size ∧ w.cell? ⟨b, off + k, none⟩ = some (.string (strAt ss k)) := by
  obtain ⟨q, c, e, _⟩ := h.shape
  injection e with e1 e2 e3
  subst e1 e2 e3
  exact h.at hk
end Go.Dm
namespace Go.Proofs.YtopnllbfhhjobaaDoor
open Go.RowKit Go.Dm
set_option maxHeartbeats 8000000 in
set_option maxRecDepth 100000 in
theorem quotaCharges_w (l m : List ChQ) (c : ChQ) (vl vm : Value) (w : World) (hl : ∀ c ∈ l, OkC c) (hxl : Chs w vl l) (hm : ∀ c ∈ m, OkC c) (hxm : Chs w vm m) (hc : OkC c) (ht : Vars w) :
    Calls Tryd.prog 6 #[vl, vm, chVal c] w fun e w' => e = .returned (.bool true) ∧ Ext w w' := by
  obtain ⟨ql, capl, rfl, _, _⟩ := hxl.shape
  obtain ⟨qm, capm, rfl, _, _⟩ := hxm.shape
  have CE := fun U (h : Ext w U) => qexamples_w U (ht.ext h)
  have CG := fun U (h : Ext w U) => qgrown_w l m _ _ U hl hm (hxl.ext h) (hxm.ext h) (ht.ext h)
  have CA := fun U => qamount_w c hc U
  have CP := fun U => qpaths_w U
  have hS := growS_ok l m
  generalize growS l m = S at *
  have hpk : c.1.1 % 8 < 8 := by omega
  have hao := amtC_ok c
  have hal := amtC_lt c
  generalize amtC c = am at *
  obtain ⟨⟨x, a, b, g, d⟩, bk⟩ := c
  unfold chVal at *
  obtain ⟨hc0, hc1, hc2, hc3, hc4⟩ := hc
  simp only at CA hpk hc0 hc1 hc2 hc3 hc4 ⊢
  have hx8 : ((x : Int) % 8) = ((x % 8 : Nat) : Int) := by omega
  have hx8' : ((x : Int).tmod 8) = ((x % 8 : Nat) : Int) := by rw [Int.tmod_eq_emod_of_nonneg (by omega)]; exact hx8
  generalize x % 8 = pk at *
  have hC := CBx.new w x a b g d bk 28
  have hE : Ext w (w.alloc (.cells #[.int .u8 (x : Nat), .int .u8 (a : Nat), .int .u8 (b : Nat), .int .u8 (g : Nat), .int .u8 (d : Nat), .bool bk] 28)) := (Ext.refl _).alloc _
  have hok := hS.charge am pk
  have CC := fun v U hx h => charge_c S hS v hpk am hao U hx (ht.ext h)
  have CQ := fun v U hx h => could_c S hS v hpk am hao U hx (ht.ext h)
  have CF := fun v k (hk : k < 8) U hx => find_c S v hk U hx
  have CU := fun U h => upsOwn_w (pth pk) U (pth_small pk) (ht.ext h)
  have hups : upsB (pth pk) = ((abvK pk).drop 1).map pth := ups_drop hpk
  have hL8 := abvK_lt pk hpk
  have hL4 : (abvK pk).length ≤ 4 := abvK_four pk hpk
  have hL0 : abvK pk = 0 :: (abvK pk).drop 1 := abvK_head pk hpk
  have hlack : ∀ k ∈ abvK pk, S k = none → (chargeQ S (chgS am) pk).2 = 7 ∧ (chargeQ (freeS S) (chgS am) pk).2 = 7 := fun k hk hn => ⟨charge_lack hk hn, could_lack hk hn⟩
  have hfin := fun (h : ∀ k ∈ abvK pk, S k ≠ none) => (⟨charge_iff hS hal h, could_iff hS hal h, fit_could⟩ : (((chargeQ S (chgS am) pk).2 = 0 ↔ (abvK pk).all (fitB S am) = true) ∧ ((chargeQ S (chgS am) pk).2 = 0 ∨ (chargeQ S (chgS am) pk).2 = 10)) ∧ ((chargeQ (freeS S) (chgS am) pk).2 = 0 ↔ (abvK pk).all (couB S am) = true) ∧ ((abvK pk).all (fitB S am) = true → (abvK pk).all (couB S am) = true))
  obtain ⟨⟨R, eno⟩, hR⟩ : ∃ r, chargeQ S (chgS am) pk = r := ⟨_, rfl⟩
  rw [hR] at CC hlack hfin
  simp only at CC hlack hfin
  generalize (chargeQ (freeS S) (chgS am) pk).2 = cno at *
  have CA1 := fun k x (hx : S k = some x) U => vadd_w x.2 am (hS.use k x hx) hao U
  have CV1 := fun k x (hx : S k = some x) U => vfits_w (vadd x.2 am) x.1 (vadd_okV (hS.add hx hal)) (hS.lim k x hx) U
  have CV2 := fun k x (hx : S k = some x) U => vfits_w am x.1 hao (hS.lim k x hx) U
  have hao2 := fun k x (hx : S k = some x) => hS.add hx hal
  have hfb : ∀ k x, S k = some x → fitB S am k = vfits (vadd x.2 am) x.1 := fun k x hx => by unfold fitB; rw [hx]
  have hcb : ∀ k x, S k = some x → couB S am k = vfits am x.1 := fun k x hx => by unfold couB; rw [hx]
  have hfs1 : ∀ k x, S k = some x → findS S k = ((pth k, x.1, x.2), true) := fun k x hx => by unfold findS; rw [hx]
  have hfs0 : ∀ k, S k = none → findS S k = (noEnt, false) := fun k hx => by unfold findS; rw [hx]
  generalize fitB S am = fb at *
  generalize couB S am = cb at *
  generalize abvK pk = L at *
  generalize findS S = fs at *
  unfold vVal vF at CA CC CQ CA1 CV1 CV2
  generalize vG am = A at *
  clear hR
  replace CE := Lib.hid CE
  replace CG := Lib.hid CG
  replace CA := Lib.hid CA
  replace CP := Lib.hid CP
  replace CC := Lib.hid CC
  replace CQ := Lib.hid CQ
  replace CF := Lib.hid CF
  replace CU := Lib.hid CU
  replace hlack := Lib.hid hlack
  replace hfin := Lib.hid hfin
  replace CA1 := Lib.hid CA1
  replace CV1 := Lib.hid CV1
  replace CV2 := Lib.hid CV2
  replace hfb := Lib.hid hfb
  replace hcb := Lib.hid hcb
  replace hao2 := Lib.hid hao2
  replace hfs1 := Lib.hid hfs1
  replace hfs0 := Lib.hid hfs0
  go_enter Tryd.func6, Tryd.ntmps6
  go_wp2_with fail
  refine (CE.out _ hE).mono ?_; rintro e w1 ⟨rfl, h1⟩
  replace hC := hC.ext h1
  replace hE := hE.trans h1
  clear h1
  go_wp2_with fail
  refine (CG.out _ hE).mono ?_; rintro e w2 ⟨v0, rfl, hx, h2⟩
  replace hC := hC.ext h2
  replace hE := hE.trans h2
  clear h2
  obtain ⟨zl, z0, z1, z2, z3, z4, z5⟩ := id hC
  go_wp2_with fail
  try simp only [Act.put, List.setIfInBounds_toArray, List.set_cons_succ, List.set_cons_zero]
  refine Dm.wp_region_ext 7 (Dm.bits 7 0) (Ext.refl w2) (by kernel_rfl) (by kernel_rfl) (by kernel_rfl) ?_
  refine Dm.wpE_take (i := 1) (listed' := (Dm.bits 7 2)) (by kernel_rfl) (by kernel_rfl) rfl (fun _ _ _ _ h => h) ?_; apply Exists.intro; refine And.intro (fun x => ?_) ?_
  · go_big_quiet_step (fail); exact wpQuiet_nil rfl
  refine Dm.wpE_take (i := 2) (listed' := (Dm.bits 7 6)) (by kernel_rfl) (by kernel_rfl) rfl (fun _ _ _ _ h => h) ?_; apply Exists.intro; refine And.intro (fun x => ?_) ?_
  · go_big_quiet_step (fail); exact wpQuiet_nil rfl
  refine Dm.wpE_take (i := 3) (listed' := (Dm.bits 7 14)) (by kernel_rfl) (by kernel_rfl) rfl (fun _ _ _ _ h => h) ?_; apply Exists.intro; refine And.intro (fun x => ?_) ?_
  · go_big_quiet_step (fail); exact wpQuiet_nil rfl
  refine Dm.wpE_one (i := 0) (listed' := (Dm.bits 7 15)) (by kernel_rfl) (by kernel_rfl) rfl (Ext.refl w2) (fun w1a hx1a => ?_)
  have hX1a := Ext.trans (Ext.refl w2) hx1a
  go_wp2_with (go_at_call 13; go_must (refine (CP.out w1a).mono ?_; rintro e w1b ⟨vp, rfl, hPs, hs1⟩))
  obtain ⟨pp, pcap, rfl, _, _⟩ := hPs.shape
  obtain ⟨pb, po, rfl, hpbl, hpc⟩ := hPs.at (k := pk) hpk
  have hAt : AtC pb (po + pk) (.string (pth pk)) w1b := ⟨hpbl, hpc⟩
  clear hPs hpc hpbl
  have hpkl : pk < pathsB.length := hpk
  have hX1b := Ext.trans hX1a hs1
  try simp only [Exit.then, Act.put]
  refine Dm.wpE_take (i := 4) (listed' := (Dm.bits 7 31)) (by kernel_rfl) (by kernel_rfl) rfl (fun _ _ _ _ h => h) ?_; apply Exists.intro; refine And.intro (fun x => ?_) ?_
  · go_big_quiet_step (fail); exact wpQuiet_nil rfl
  refine Dm.wpE_one (i := 5) (listed' := (Dm.bits 7 63)) (by kernel_rfl) (by kernel_rfl) rfl hX1b (fun w2a hx2a => ?_)
  have hX2a := Ext.trans hX1b hx2a
  replace hAt := hAt.ext hx2a
  obtain ⟨hAl, hAc⟩ := hAt
  go_wp2_with fail
  clear hAl hAc
  have hX2b := hX2a
  have hs2 := Ext.refl w2a
  generalize w2a = w2b at *
  try simp only [Exit.then, Act.put]
  refine Dm.wpE_take (i := 6) (listed' := (Dm.bits 7 127)) (by kernel_rfl) (by kernel_rfl) rfl (fun _ _ _ _ h => h) ?_; apply Exists.intro; refine And.intro (fun x => ?_) ?_
  · go_big_quiet_step (fail); exact wpQuiet_nil rfl
  refine Dm.wpE_done (by kernel_rfl) hX2b (fun w3a hx3a => ?_)
  have hX3a := Ext.trans hX2b hx3a
  replace hC := hC.ext hX3a
  replace hE := hE.trans hX3a
  replace hx := hx.ext hX3a
  clear zl z0 z1 z2 z3 z4 z5
  generalize w3a = w3 at *
  obtain ⟨zl, z0, z1, z2, z3, z4, z5⟩ := id hC
  go_wp2_with fail
  refine (CA.out _).mono ?_; rintro e w4 ⟨rfl, h4⟩
  replace hC := hC.ext h4
  replace hE := hE.trans h4
  replace hx := hx.ext h4
  clear h4
  clear zl z0 z1 z2 z3 z4 z5
  go_wp2_with fail
  refine (CC.out _ _ hx hE).mono ?_; rintro e w5 ⟨v1, rfl, hx1, h5⟩
  replace hC := hC.ext h5
  replace hE := hE.trans h5
  replace hx := hx.ext h5
  clear h5 hx1
  have h6a := (Ext.refl w5).alloc (.cells #[.string ⟨#[]⟩] 9)
  have CU2 := CU.out (w5.alloc (.cells #[.string ⟨#[]⟩] 9)) (hE.trans h6a)
  replace CU2 := Lib.hid CU2
  go_wp2_with fail
  refine CU2.out.mono ?_; rintro e w6 ⟨r6, ss, rfl, hP, ho6, h6⟩
  obtain rfl : ss = upsB (pth pk) := bytesOf_inj (by rw [hP, upsB_bytes])
  have ho0 : (w5.alloc (.cells #[.string ⟨#[]⟩] 9)).ownsRow w5.heap.size 9 1 (.slice (some ⟨w5.heap.size, 0, none⟩) 1 1) 1 [.string ⟨#[]⟩] := World.ownsRow_lit w5 #[.string ⟨#[]⟩] 1 (Nat.le_refl _) (by simp [maxLen]) rfl
  have hsl6 : Sl w6 1 r6 (upsB (pth pk)).length ((upsB (pth pk)).map .string) := Sl.of_owns ho6
  have hones : ∀ u ∈ (upsB (pth pk)).map Value.string, u.oneCell' = true := fun u hu => by
    obtain ⟨x, _, rfl⟩ := List.mem_map.1 hu; rfl
  have h6' := h6a.trans h6
  have ho0' := Ext.row ho0 h6
  have hul : (upsB (pth pk)).length ≤ 3 := upsB_len _
  obtain ⟨ra, rc, rfl⟩ : ∃ a c, r6 = .slice a (upsB (pth pk)).length c := by
    obtain ⟨a, c, e, _⟩ := hsl6.shape; exact ⟨a, c, e⟩
  have hlen1 : 1 + (upsB (pth pk)).length = L.length := by rw [hups, hL0]; simp; omega
  have hcel1 : ([.string ⟨#[]⟩] : List Value) ++ (upsB (pth pk)).map .string = (L.map pth).map .string := by rw [hups, hL0]; rfl
  replace hlen1 := Lib.hid hlen1
  replace hcel1 := Lib.hid hcel1
  clear hP hups ho6 CU2 CU
  generalize upsB (pth pk) = us at *
  go_wp2_with (at_builtin; go_must (refine wpList_appE (n := 1) (m := us.length) rfl _ _ Tryd.slStr rfl h6' rfl ho0' rfl hsl6 hones (by omega) ?_; intro vl wl hol hbl _))
  rw [hlen1.out, hcel1.out] at hol
  have hsL : Strs wl vl (L.map pth) := Strs.of_row hol (by simp)
  replace hC := hC.ext hbl
  replace hE := hE.trans hbl
  replace hx := hx.ext hbl
  clear hbl hol hlen1 hcel1 hsl6 hones h6a h6 h6' ho0 ho0' hL0
  obtain ⟨lp, lc, hle, _, _⟩ := hsL.shape
  rw [List.length_map] at hle
  subst hle
  generalize wl = w7 at *
  go_wp2
  go_loopw [12, 13, 15, 16, 17, 18, 19] (fun f c i _ _ _ _ wr => ∃ n : Nat, n ≤ L.length ∧ i = .int .i64 n ∧ f = .bool ((L.take n).all fb) ∧ c = .bool ((L.take n).all cb) ∧ Ext w7 wr ∧ Hid (∀ k ∈ L.take n, S k ≠ none)) (fun _ _ i _ _ _ _ _ => L.length - (intOf i).toNat)
  case atStart => exact ⟨0, by omega, rfl, rfl, rfl, Ext.refl _, fun k hk => by simp at hk⟩
  case round =>
    obtain ⟨n, hn, rfl, rfl, rfl, hb, HN⟩ := hrel
    have hCr := hC.ext hb
    have hEr := hE.trans hb
    have hxr := hx.ext hb
    have hsLr := hsL.ext hb
    by_cases hlt : n < L.length
    · obtain ⟨k, hk⟩ : ∃ k, L[n] = k := ⟨_, rfl⟩
      have hkm : k ∈ L := by rw [← hk]; exact List.getElem_mem hlt
      have hk8 := hL8 k hkm
      have htk : L.take (n + 1) = L.take n ++ [k] := by rw [List.take_add_one, List.getElem?_eq_getElem hlt, hk]; rfl
      obtain ⟨sb, so, hse, hsbl, hsc⟩ := hsLr.at' (k := n) (by rw [List.length_map]; exact hlt)
      subst hse
      rw [show strAt (L.map pth) n = pth k by rw [← hk]; simp [strAt, hlt]] at hsc
      have CF1 := CF.out _ k hk8 wr hxr
      cases hSk : S k with
      | none =>
        rw [hfs0.out k hSk] at CF1
        obtain ⟨hl1, hl2⟩ := hlack.out k hkm hSk
        subst hl1 hl2
        clear hSk HN htk hk hkm
        change Calls _ _ _ _ fun e w' => e = .returned (.tuple #[.agg #[.string ⟨#[]⟩, .int .u64 0, .int .u64 0, .int .u64 0, .int .u64 0, .int .u64 0, .int .u64 0, .int .u64 0, .int .u64 0], .bool false]) ∧ Ext wr w' at CF1
        replace CF1 := Lib.hid CF1
        generalize (L.take n).all fb = F at *
        generalize (L.take n).all cb = Co at *
        go_wp2_with fail
        refine CF1.out.mono ?_; rintro e w8 ⟨rfl, h8⟩
        have h8a := h8.alloc (.cells #[.string ⟨#[]⟩, .int .u64 0, .int .u64 0, .int .u64 0, .int .u64 0, .int .u64 0, .int .u64 0, .int .u64 0, .int .u64 0] 44)
        have hE8 := hEr.trans h8a
        have hx8 := hxr.ext h8a
        obtain ⟨zl, z0, z1, z2, z3, z4, z5⟩ := hCr.ext h8a
        go_wp2_with fail
        refine (CA.out _).mono ?_; rintro e w9 ⟨rfl, h9⟩
        go_wp2_with fail
        refine (CQ.out _ _ (hx8.ext h9) (hE8.trans h9)).mono ?_; rintro e w10 ⟨rfl, h10⟩
        go_wp2
        go_ret
        exact ⟨by simp, (hE8.trans h9).trans h10⟩
      | some X =>
        rw [hfs1.out k X hSk] at CF1
        have HN2 : Hid (∀ k ∈ L.take (n + 1), S k ≠ none) := fun j hj => by
          rw [htk] at hj
          rcases List.mem_append.1 hj with hj | hj
          · exact HN.out j hj
          · rw [List.mem_singleton.1 hj, hSk]; simp
        have hF2 : (L.take (n + 1)).all fb = ((L.take n).all fb && vfits (vadd X.2 am) X.1) := by rw [htk, List.all_append, ← hfb.out k X hSk]; simp
        have hC2 : (L.take (n + 1)).all cb = ((L.take n).all cb && vfits am X.1) := by rw [htk, List.all_append, ← hcb.out k X hSk]; simp
        have CA2 := fun U => CA1.out k X hSk U
        rw [show vaddOk X.2 am = true from hao2.out k X hSk] at CA2
        rw [show vOr true (vadd X.2 am) = vadd X.2 am from rfl] at CA2
        have CV3 := fun U => CV1.out k X hSk U
        have CV4 := fun U => CV2.out k X hSk U
        clear HN hSk htk hk hkm
        obtain ⟨X1, X2⟩ := X
        simp only at CA2 CV3 CV4 hF2 hC2 CF1
        unfold entVal uAt at CF1
        simp only at CF1
        generalize vfits (vadd X2 am) X1 = d1 at *
        generalize vfits am X1 = d2 at *
        generalize vG (vadd X2 am) = N at *
        generalize vG X1 = XL at *
        generalize vG X2 = XU at *
        generalize (L.take n).all fb = F at *
        generalize (L.take n).all cb = Co at *
        replace hF2 := Lib.hid hF2
        replace hC2 := Lib.hid hC2
        replace CF1 := Lib.hid CF1
        replace CA2 := Lib.hid CA2
        replace CV3 := Lib.hid CV3
        replace CV4 := Lib.hid CV4
        generalize pth k = pk2 at *
        go_wp2_with fail
        refine CF1.out.mono ?_; rintro e w8 ⟨rfl, h8⟩
        have h8a := h8.alloc (.cells #[.string pk2, .int .u64 (XL 0 : Nat), .int .u64 (XL 1 : Nat), .int .u64 (XL 2 : Nat), .int .u64 (XL 3 : Nat), .int .u64 (XU 0 : Nat), .int .u64 (XU 1 : Nat), .int .u64 (XU 2 : Nat), .int .u64 (XU 3 : Nat)] 44)
        have hEb := EBox.new w8 pk2 XL XU 44
        replace hEr := hEr.trans h8a
        replace hxr := hxr.ext h8a
        replace hCr := hCr.ext h8a
        replace hb := hb.trans h8a
        obtain ⟨zl, z0, z1, z2, z3, z4, z5⟩ := hCr
        obtain ⟨el, e0, e1, e2, e3, e4, e5, e6, e7, e8, _, _, _, _, _, _, _, _, _⟩ := id hEb
        clear hsc hsbl h8 h8a
        have hW9 : ∃ w9, w9 = w8.alloc (.cells #[.string pk2, .int .u64 (XL 0 : Nat), .int .u64 (XL 1 : Nat), .int .u64 (XL 2 : Nat), .int .u64 (XL 3 : Nat), .int .u64 (XU 0 : Nat), .int .u64 (XU 1 : Nat), .int .u64 (XU 2 : Nat), .int .u64 (XU 3 : Nat)] 44) := ⟨_, rfl⟩
        obtain ⟨w9, hw9⟩ := hW9
        have hsz9 : w8.heap.size < w9.heap.size := by rw [hw9]; exact el
        rw [← hw9] at hEb zl z0 z1 z2 z3 z4 z5 el e0 e1 e2 e3 e4 e5 e6 e7 e8 hEr hxr hb
        go_wp2_with fail
        rw [← hw9]
        clear hw9
        try simp only [Act.put, List.setIfInBounds_toArray, List.set_cons_succ, List.set_cons_zero]
        refine Dm.wp_region_ext 11 (Dm.bits 11 0) (Ext.refl w9) (by kernel_rfl) (by kernel_rfl) (by kernel_rfl) ?_
        refine Dm.wpE_take (i := 0) (listed' := (Dm.bits 11 1)) (by kernel_rfl) (by kernel_rfl) rfl (fun _ _ _ _ h => h) ?_; apply Exists.intro; refine And.intro (fun x => ?_) ?_
        · go_big_quiet_step ((first | (go_at_call 14; exact Calls.quietE (CA.out _)) | (go_at_call 17; exact Calls.quietE (CA2.out _)))); exact wpQuiet_nil rfl
        refine Dm.wpE_take (i := 1) (listed' := (Dm.bits 11 3)) (by kernel_rfl) (by kernel_rfl) rfl (fun _ _ _ _ h => h) ?_; apply Exists.intro; refine And.intro (fun x => ?_) ?_
        · go_big_quiet_step ((first | (go_at_call 14; exact Calls.quietE (CA.out _)) | (go_at_call 17; exact Calls.quietE (CA2.out _)))); exact wpQuiet_nil rfl
        refine Dm.wpE_take (i := 2) (listed' := (Dm.bits 11 7)) (by kernel_rfl) (by kernel_rfl) rfl (fun _ _ _ _ h => h) ?_; apply Exists.intro; refine And.intro (fun x => ?_) ?_
        · go_big_quiet_step ((first | (go_at_call 14; exact Calls.quietE (CA.out _)) | (go_at_call 17; exact Calls.quietE (CA2.out _)))); exact wpQuiet_nil rfl
        refine Dm.wpE_take (i := 3) (listed' := (Dm.bits 11 15)) (by kernel_rfl) (by kernel_rfl) rfl (fun _ _ _ _ h => h) ?_; apply Exists.intro; refine And.intro (fun x => ?_) ?_
        · go_big_quiet_step ((first | (go_at_call 14; exact Calls.quietE (CA.out _)) | (go_at_call 17; exact Calls.quietE (CA2.out _)))); exact wpQuiet_nil rfl
        refine Dm.wpE_take (i := 4) (listed' := (Dm.bits 11 31)) (by kernel_rfl) (by kernel_rfl) rfl (fun _ _ _ _ h => h) ?_; apply Exists.intro; refine And.intro (fun x => ?_) ?_
        · go_big_quiet_step ((first | (go_at_call 14; exact Calls.quietE (CA.out _)) | (go_at_call 17; exact Calls.quietE (CA2.out _)))); exact wpQuiet_nil rfl
        refine Dm.wpE_take (i := 5) (listed' := (Dm.bits 11 63)) (by kernel_rfl) (by kernel_rfl) rfl (fun _ _ _ _ h => h) ?_; apply Exists.intro; refine And.intro (fun x => ?_) ?_
        · go_big_quiet_step ((first | (go_at_call 14; exact Calls.quietE (CA.out _)) | (go_at_call 17; exact Calls.quietE (CA2.out _)))); exact wpQuiet_nil rfl
        refine Dm.wpE_take (i := 6) (listed' := (Dm.bits 11 127)) (by kernel_rfl) (by kernel_rfl) rfl (fun _ _ _ _ h => h) ?_; apply Exists.intro; refine And.intro (fun x => ?_) ?_
        · go_big_quiet_step ((first | (go_at_call 14; exact Calls.quietE (CA.out _)) | (go_at_call 17; exact Calls.quietE (CA2.out _)))); exact wpQuiet_nil rfl
        refine Dm.wpE_take (i := 7) (listed' := (Dm.bits 11 255)) (by kernel_rfl) (by kernel_rfl) rfl (fun _ _ _ _ h => h) ?_; apply Exists.intro; refine And.intro (fun x => ?_) ?_
        · go_big_quiet_step ((first | (go_at_call 14; exact Calls.quietE (CA.out _)) | (go_at_call 17; exact Calls.quietE (CA2.out _)))); exact wpQuiet_nil rfl
        refine Dm.wpE_one (i := 8) (listed' := (Dm.bits 11 511)) (by kernel_rfl) (by kernel_rfl) rfl (Ext.refl w9) (fun w1a hx1a => ?_)
        have hX1a := Ext.trans (Ext.refl w9) hx1a
        have hs1 := (Ext.refl w1a).alloc (.cells #[.int .u64 0, .int .u64 0, .int .u64 0, .int .u64 0] 36)
        have hN0 : VBox w1a.heap.size (fun _ => 0) (w1a.alloc (.cells #[.int .u64 0, .int .u64 0, .int .u64 0, .int .u64 0] 36)) := VBox.new w1a (fun _ => 0) 36
        have hge : w9.heap.size ≤ w1a.heap.size := hX1a.size
        go_wp2_with fail
        have hX1b := Ext.trans hX1a hs1
        generalize w1a.alloc (.cells #[.int .u64 0, .int .u64 0, .int .u64 0, .int .u64 0] 36) = w1b at *
        try simp only [Exit.then, Act.put]
        refine Dm.wpE_one (i := 9) (listed' := (Dm.bits 11 1023)) (by kernel_rfl) (by kernel_rfl) rfl hX1b (fun w2a hx2a => ?_)
        have hX2a := Ext.trans hX1b hx2a
        replace hN0 := hN0.ext hx2a
        obtain ⟨_, q0, q1, q2, q3, g0, g1, g2, g3⟩ := hN0.four
        go_wp2_with fail
        clear q0 q1 q2 q3 g0 g1 g2 g3
        have hN1 := hN0.put N
        have hX2b := Ext.put4 hX2a hge N
        have hgw : put4 w2a w1a.heap.size N = (((w2a.setCell ⟨w1a.heap.size, 0, none⟩ (.int .u64 (N 0 : Nat))).setCell ⟨w1a.heap.size, 1, none⟩ (.int .u64 (N 1 : Nat))).setCell ⟨w1a.heap.size, 2, none⟩ (.int .u64 (N 2 : Nat))).setCell ⟨w1a.heap.size, 3, none⟩ (.int .u64 (N 3 : Nat)) := rfl
        rw [← hgw]
        clear hgw
        generalize put4 w2a w1a.heap.size N = w2b at *
        try simp only [Exit.then, Act.put]
        refine Dm.wpE_take (i := 10) (listed' := (Dm.bits 11 2047)) (by kernel_rfl) (by kernel_rfl) rfl (fun _ _ _ _ h => h) ?_; apply Exists.intro; refine And.intro (fun x => ?_) ?_
        · go_big_quiet_step ((first | (go_at_call 14; exact Calls.quietE (CA.out _)) | (go_at_call 17; exact Calls.quietE (CA2.out _)))); exact wpQuiet_nil rfl
        refine Dm.wpE_done (by kernel_rfl) hX2b (fun w3a hx3a => ?_)
        have hX3a := Ext.trans hX2b hx3a
        replace hN1 := hN1.ext hx3a
        replace hEb := hEb.ext hX3a
        replace hEr := hEr.trans hX3a
        replace hxr := hxr.ext hX3a
        replace hb := hb.trans hX3a
        have hCr : CBx w.heap.size x a b g d bk w3a := (CBx.mk zl z0 z1 z2 z3 z4 z5).ext hX3a
        clear zl z0 z1 z2 z3 z4 z5 el e0 e1 e2 e3 e4 e5 e6 e7 e8 hge
        generalize w3a = w10 at *
        obtain ⟨el, e0, e1, e2, e3, e4, e5, e6, e7, e8, _, _, _, _, _, _, _, _, _⟩ := id hEb
        obtain ⟨_, q0, q1, q2, q3, _, _, _, _⟩ := hN1.four
        cases F with
        | true =>
          go_wp2_with fail
          refine (CV3.out _).mono ?_; rintro e w11 ⟨rfl, h11⟩
          clear q0 q1 q2 q3 el e0 e1 e2 e3 e4 e5 e6 e7 e8
          replace hEb := hEb.ext h11
          replace hCr := hCr.ext h11
          replace hb := hb.trans h11
          cases Co with
          | true =>
            obtain ⟨zl, z0, z1, z2, z3, z4, z5⟩ := id hCr
            obtain ⟨el, e0, e1, e2, e3, e4, e5, e6, e7, e8, _, _, _, _, _, _, _, _, _⟩ := id hEb
            go_wp2_with fail
            refine Dm.wp_region_grow (by kernel_rfl) (by kernel_rfl) ?_
            repeat (go_big_quiet_step (first
              | (go_at_call 14; with_reducible exact Calls.quietE (CA.out _))
              | (go_at_call 18; with_reducible exact Calls.quietE (CV4.out _))))
            refine wpQuiet_nil ?_
            intro w12 h12
            go_wp2
            go_roundw
            case rel => exact ⟨n + 1, by omega, by go_num, by rw [hF2.out]; rfl, by rw [hC2.out]; rfl, hb.trans h12, HN2⟩
            case measure => simp [intOf]; omega
          | false =>
            obtain ⟨zl, z0, z1, z2, z3, z4, z5⟩ := id hCr
            obtain ⟨el, e0, e1, e2, e3, e4, e5, e6, e7, e8, _, _, _, _, _, _, _, _, _⟩ := id hEb
            go_wp2_with fail
            refine Dm.wp_region_grow (by kernel_rfl) (by kernel_rfl) ?_
            repeat (go_big_quiet_step (first
              | (go_at_call 14; with_reducible exact Calls.quietE (CA.out _))
              | (go_at_call 18; with_reducible exact Calls.quietE (CV4.out _))))
            refine wpQuiet_nil ?_
            intro w12 h12
            go_wp2
            go_roundw
            case rel => exact ⟨n + 1, by omega, by go_num, by rw [hF2.out]; rfl, by rw [hC2.out]; rfl, hb.trans h12, HN2⟩
            case measure => simp [intOf]; omega
        | false =>
          clear q0 q1 q2 q3 el e0 e1 e2 e3 e4 e5 e6 e7 e8
          cases Co with
          | true =>
            obtain ⟨zl, z0, z1, z2, z3, z4, z5⟩ := id hCr
            obtain ⟨el, e0, e1, e2, e3, e4, e5, e6, e7, e8, _, _, _, _, _, _, _, _, _⟩ := id hEb
            go_wp2_with fail
            refine Dm.wp_region_grow (by kernel_rfl) (by kernel_rfl) ?_
            repeat (go_big_quiet_step (first
              | (go_at_call 14; with_reducible exact Calls.quietE (CA.out _))
              | (go_at_call 18; with_reducible exact Calls.quietE (CV4.out _))))
            refine wpQuiet_nil ?_
            intro w12 h12
            go_wp2
            go_roundw
            case rel => exact ⟨n + 1, by omega, by go_num, by rw [hF2.out]; rfl, by rw [hC2.out]; rfl, hb.trans h12, HN2⟩
            case measure => simp [intOf]; omega
          | false =>
            obtain ⟨zl, z0, z1, z2, z3, z4, z5⟩ := id hCr
            obtain ⟨el, e0, e1, e2, e3, e4, e5, e6, e7, e8, _, _, _, _, _, _, _, _, _⟩ := id hEb
            go_wp2_with fail
            refine Dm.wp_region_grow (by kernel_rfl) (by kernel_rfl) ?_
            repeat (go_big_quiet_step (first
              | (go_at_call 14; with_reducible exact Calls.quietE (CA.out _))
              | (go_at_call 18; with_reducible exact Calls.quietE (CV4.out _))))
            refine wpQuiet_nil ?_
            intro w12 h12
            go_wp2
            go_roundw
            case rel => exact ⟨n + 1, by omega, by go_num, by rw [hF2.out]; rfl, by rw [hC2.out]; rfl, hb.trans h12, HN2⟩
            case measure => simp [intOf]; omega
    · obtain rfl : n = L.length := by omega
      have hN2 := HN.out
      rw [List.take_length] at hN2
      have hF2 : (L.take L.length).all fb = L.all fb := by rw [List.take_length]
      have hC2 : (L.take L.length).all cb = L.all cb := by rw [List.take_length]
      obtain ⟨⟨f1, f2⟩, f3, f4⟩ := hfin.out hN2
      clear HN hN2 hlack hfin
      rw [hF2, hC2]
      clear hF2 hC2
      generalize L.all fb = F at *
      generalize L.all cb = Co at *
      have hcno : decide (cno = 0) = Co := by rw [Bool.eq_iff_iff, decide_eq_true_iff]; exact f3
      replace hcno := Lib.hid hcno
      obtain ⟨zl, z0, z1, z2, z3, z4, z5⟩ := id hCr
      cases F with
      | true =>
        have h0 : eno = 0 := f1.2 rfl
        have hc : Co = true := f4 rfl
        subst h0 hc
        clear f1 f2 f3 f4
        go_wp2_with fail
        refine (CA.out _).mono ?_; rintro e w9 ⟨rfl, h9⟩
        have CQ2 := CQ.out _ _ (hxr.ext h9) (hEr.trans h9)
        rw [hcno.out] at CQ2
        clear hcno
        replace CQ2 := Lib.hid CQ2
        go_wp2_with fail
        refine CQ2.out.mono ?_; rintro e w10 ⟨rfl, h10⟩
        go_wp2
        go_ret
        exact ⟨by first | rfl | simp, (hEr.trans h9).trans h10⟩
      | false =>
        have h0 : eno = 10 := f2.resolve_left (fun h => by have := f1.1 h; cases this)
        subst h0
        clear f1 f2 f3 f4
        cases Co with
        | true =>
          go_wp2_with fail
          refine (CA.out _).mono ?_; rintro e w9 ⟨rfl, h9⟩
          have CQ2 := CQ.out _ _ (hxr.ext h9) (hEr.trans h9)
          rw [hcno.out] at CQ2
          clear hcno
          replace CQ2 := Lib.hid CQ2
          go_wp2_with fail
          refine CQ2.out.mono ?_; rintro e w10 ⟨rfl, h10⟩
          go_wp2
          go_ret
          exact ⟨by first | rfl | simp, (hEr.trans h9).trans h10⟩
        | false =>
          go_wp2_with fail
          refine (CA.out _).mono ?_; rintro e w9 ⟨rfl, h9⟩
          have CQ2 := CQ.out _ _ (hxr.ext h9) (hEr.trans h9)
          rw [hcno.out] at CQ2
          clear hcno
          replace CQ2 := Lib.hid CQ2
          go_wp2_with fail
          refine CQ2.out.mono ?_; rintro e w10 ⟨rfl, h10⟩
          go_wp2
          go_ret
          exact ⟨by first | rfl | simp, (hEr.trans h9).trans h10⟩
end Go.Proofs.YtopnllbfhhjobaaDoor
