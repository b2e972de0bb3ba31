/- Texts one behind the other: Chapter 10: the walk of the laws' examples; Chapter 10: the walk of QuotaForm. -/
import Derived.Test.YtopnllbfhhjobaaDoorT19
import Derived.Test.YtopnllbfhhjobaaDoorT20
namespace Go.Dm
open Go Go.RowKit
def T0 : List EntQ := [(⟨#[]⟩, [5, 5, 5, 5], noV)]
def T1 : List EntQ := [(⟨#[]⟩, [5, 5, 5, 5], noV), (⟨#[97]⟩, [9, 2, 9, 9], noV)]
def TU : List EntQ := [(⟨#[]⟩, [5, 5, 5, 5], [3, 2, 0, 0]), (⟨#[97]⟩, [9, 2, 9, 9], [3, 2, 0, 0])]
theorem fit_cons {r : EntQ} {R : List EntQ} (h : r.1.size ≤ 1048576 ∧ OkV r.2.1 ∧ OkV r.2.2) (hR : FitT R) : FitT (r :: R) := by
  refine ⟨fun x hx => ?_, fun x hx => ?_, fun x hx => ?_⟩ <;> rcases List.mem_cons.1 hx with rfl | hx
  · exact h.1
  · exact hR.path x hx
  · exact h.2.1
  · exact hR.lim x hx
  · exact h.2.2
  · exact hR.used x hx
theorem fitT0 : FitT T0 := fit_cons ⟨by decide, okV_small ⟨by omega, by omega, by omega, by omega⟩, okV_no⟩ FitT.nil
theorem fitT1 : FitT T1 := fit_cons ⟨by decide, okV_small ⟨by omega, by omega, by omega, by omega⟩, okV_no⟩ (fit_cons ⟨by decide, okV_small ⟨by omega, by omega, by omega, by omega⟩, okV_no⟩ FitT.nil)
theorem fitTU : FitT TU := fit_cons ⟨by decide, okV_small ⟨by omega, by omega, by omega, by omega⟩, okV_small ⟨by omega, by omega, by omega, by omega⟩⟩ (fit_cons ⟨by decide, okV_small ⟨by omega, by omega, by omega, by omega⟩, okV_small ⟨by omega, by omega, by omega, by omega⟩⟩ FitT.nil)
end Go.Dm
namespace Go.Proofs.YtopnllbfhhjobaaDoor
open Go.RowKit Go.Dm
theorem exq_C2 (w U : World) (v : Value) (ht : Vars w) (h : Ext w U) (hx : Tree U v T0) : Calls Tryd.prog 15 #[v, (.string ⟨#[]⟩), (.agg #[.int .u64 6, .int .u64 0, .int .u64 0, .int .u64 0])] U fun e w' => ∃ v', e = .returned (.tuple #[v', .int .i64 10]) ∧ Tree w' v' T0 ∧ Ext U w' := by
  have C := qCharge_w T0 v ⟨#[]⟩ [6, 0, 0, 0] (okV_small ⟨by omega, by omega, by omega, by omega⟩) U (by decide) fitT0 hx (by decide) (ht.ext h)
  rw [show eachT T0 ⟨#[]⟩ (chgE [6, 0, 0, 0]) = (T0, 10) by kernel_rfl] at C
  exact C
theorem exq_C3 (w U : World) (v : Value) (ht : Vars w) (h : Ext w U) (hx : Tree U v T0) : Calls Tryd.prog 22 #[v, (.string ⟨#[97, 47, 98]⟩), (.agg #[.int .u64 0, .int .u64 0, .int .u64 0, .int .u64 0])] U fun e w' => ∃ v', e = .returned (.tuple #[v', .int .i64 7]) ∧ Tree w' v' T0 ∧ Ext U w' := by
  have C := qset_w T0 v ⟨#[97, 47, 98]⟩ [0, 0, 0, 0] (okV_small ⟨by omega, by omega, by omega, by omega⟩) U (by decide) fitT0 hx (by decide) (ht.ext h)
  rw [show setT T0 ⟨#[97, 47, 98]⟩ [0, 0, 0, 0] = (T0, 7) by kernel_rfl] at C
  exact C
theorem exq_C4 (w U : World) (v : Value) (ht : Vars w) (h : Ext w U) (hx : Tree U v T0) : Calls Tryd.prog 22 #[v, (.string ⟨#[97]⟩), (.agg #[.int .u64 9, .int .u64 2, .int .u64 9, .int .u64 9])] U fun e w' => ∃ v', e = .returned (.tuple #[v', .int .i64 0]) ∧ Tree w' v' T1 ∧ Ext U w' := by
  have C := qset_w T0 v ⟨#[97]⟩ [9, 2, 9, 9] (okV_small ⟨by omega, by omega, by omega, by omega⟩) U (by decide) fitT0 hx (by decide) (ht.ext h)
  rw [show setT T0 ⟨#[97]⟩ [9, 2, 9, 9] = (T1, 0) by kernel_rfl] at C
  exact C
theorem exq_C5 (w U : World) (v : Value) (ht : Vars w) (h : Ext w U) (hx : Tree U v T1) : Calls Tryd.prog 15 #[v, (.string ⟨#[97]⟩), (.agg #[.int .u64 3, .int .u64 2, .int .u64 0, .int .u64 0])] U fun e w' => ∃ v', e = .returned (.tuple #[v', .int .i64 0]) ∧ Tree w' v' TU ∧ Ext U w' := by
  have C := qCharge_w T1 v ⟨#[97]⟩ [3, 2, 0, 0] (okV_small ⟨by omega, by omega, by omega, by omega⟩) U (by decide) fitT1 hx (by decide) (ht.ext h)
  rw [show eachT T1 ⟨#[97]⟩ (chgE [3, 2, 0, 0]) = (TU, 0) by kernel_rfl] at C
  exact C
theorem exq_C6 (w U : World) (v : Value) (ht : Vars w) (h : Ext w U) (hx : Tree U v TU) : Calls Tryd.prog 15 #[v, (.string ⟨#[97]⟩), (.agg #[.int .u64 0, .int .u64 1, .int .u64 0, .int .u64 0])] U fun e w' => ∃ v', e = .returned (.tuple #[v', .int .i64 10]) ∧ Tree w' v' TU ∧ Ext U w' := by
  have C := qCharge_w TU v ⟨#[97]⟩ [0, 1, 0, 0] (okV_small ⟨by omega, by omega, by omega, by omega⟩) U (by decide) fitTU hx (by decide) (ht.ext h)
  rw [show eachT TU ⟨#[97]⟩ (chgE [0, 1, 0, 0]) = (TU, 10) by kernel_rfl] at C
  exact C
theorem exq_C7 (w U : World) (v : Value) (ht : Vars w) (h : Ext w U) (hx : Tree U v TU) : Calls Tryd.prog 22 #[v, (.string ⟨#[]⟩), (.agg #[.int .u64 2, .int .u64 9, .int .u64 9, .int .u64 9])] U fun e w' => ∃ v', e = .returned (.tuple #[v', .int .i64 10]) ∧ Tree w' v' TU ∧ Ext U w' := by
  have C := qset_w TU v ⟨#[]⟩ [2, 9, 9, 9] (okV_small ⟨by omega, by omega, by omega, by omega⟩) U (by decide) fitTU hx (by decide) (ht.ext h)
  rw [show setT TU ⟨#[]⟩ [2, 9, 9, 9] = (TU, 10) by kernel_rfl] at C
  exact C
theorem exq_C9 (w U : World) (v : Value) (ht : Vars w) (h : Ext w U) (hx : Tree U v TU) : Calls Tryd.prog 12 #[v, (.string ⟨#[97]⟩), (.agg #[.int .u64 3, .int .u64 2, .int .u64 0, .int .u64 0])] U fun e w' => ∃ v', e = .returned (.tuple #[v', .int .i64 0]) ∧ Tree w' v' T1 ∧ Ext U w' := by
  have C := qRefund_w TU v ⟨#[97]⟩ [3, 2, 0, 0] (okV_small ⟨by omega, by omega, by omega, by omega⟩) U (by decide) fitTU hx (by decide) (ht.ext h)
  rw [show eachT TU ⟨#[97]⟩ (rfdE [3, 2, 0, 0]) = (T1, 0) by kernel_rfl] at C
  exact C
theorem exq_C10 (w U : World) (v : Value) (ht : Vars w) (h : Ext w U) (hx : Tree U v TU) : Calls Tryd.prog 12 #[v, (.string ⟨#[97]⟩), (.agg #[.int .u64 4, .int .u64 0, .int .u64 0, .int .u64 0])] U fun e w' => ∃ v', e = .returned (.tuple #[v', .int .i64 15]) ∧ Tree w' v' TU ∧ Ext U w' := by
  have C := qRefund_w TU v ⟨#[97]⟩ [4, 0, 0, 0] (okV_small ⟨by omega, by omega, by omega, by omega⟩) U (by decide) fitTU hx (by decide) (ht.ext h)
  rw [show eachT TU ⟨#[97]⟩ (rfdE [4, 0, 0, 0]) = (TU, 15) by kernel_rfl] at C
  exact C
theorem exq_C11 (w U : World) (v : Value) (ht : Vars w) (h : Ext w U) (hx : Tree U v TU) : Calls Tryd.prog 15 #[v, (.string ⟨#[120, 47]⟩), (.agg #[.int .u64 0, .int .u64 0, .int .u64 0, .int .u64 0])] U fun e w' => ∃ v', e = .returned (.tuple #[v', .int .i64 6]) ∧ Tree w' v' TU ∧ Ext U w' := by
  have C := qCharge_w TU v ⟨#[120, 47]⟩ [0, 0, 0, 0] (okV_small ⟨by omega, by omega, by omega, by omega⟩) U (by decide) fitTU hx (by decide) (ht.ext h)
  rw [show eachT TU ⟨#[120, 47]⟩ (chgE [0, 0, 0, 0]) = (TU, 6) by kernel_rfl] at C
  exact C
set_option maxHeartbeats 8000000 in
set_option maxRecDepth 100000 in
theorem qexamples_w (w : World) (ht : Vars w) :
    Calls Tryd.prog 9 #[] w fun e w' => e = .returned (.bool true) ∧ Ext w w' := by
  have C1 : ∀ U, Calls Tryd.prog 25 #[(.agg #[.int .u64 5, .int .u64 5, .int .u64 5, .int .u64 5])] U fun e w' => ∃ v, e = .returned v ∧ Tree w' v T0 ∧ Ext U w' := fun U => qnew_w [5, 5, 5, 5] U
  have C8 : ∀ U v (_ : Tree U v TU), Calls Tryd.prog 20 #[v, (.string ⟨#[]⟩)] U fun e w' => e = .returned (.tuple #[.agg #[.string ⟨#[]⟩, .int .u64 5, .int .u64 5, .int .u64 5, .int .u64 5, .int .u64 3, .int .u64 2, .int .u64 0, .int .u64 0], .bool true]) ∧ Ext U w' := fun U v hx => by
    have C := qfind_w TU ⟨#[]⟩ v U (by decide) hx
    rw [show findQ TU ⟨#[]⟩ = ((⟨#[]⟩, [5, 5, 5, 5], [3, 2, 0, 0]), true) by kernel_rfl] at C
    exact C
  have C12 : ∀ U v (_ : Tree U v TU), Calls Tryd.prog 23 #[v] U fun e w' => e = .returned (.string ⟨(putQ TU).toArray⟩) ∧ Ext U w' := fun U v hx => qput_w TU v U (by decide) fitTU (by decide +kernel) hx
  have C13 : ∀ U (_ : Ext w U), Calls Tryd.prog 24 #[.string ⟨(putQ TU).toArray⟩, .int .i64 0] U fun e w' => ∃ v n, e = .returned (.tuple #[v, .int .i64 n, .bool true]) ∧ Tree w' v TU ∧ Ext U w' := fun U h => by
    have C := qget_w ⟨(putQ TU).toArray⟩ 0 U (by decide +kernel) (ht.ext h)
    rw [show getQ (⟨(putQ TU).toArray⟩ : ByteArray).data.toList 0 = (TU, 20, true) by decide +kernel] at C
    exact C.mono fun e w' ⟨v, h1, h2, h3⟩ => ⟨v, _, h1, h2, h3⟩
  have CR1 : ∀ U v (_ : Ext w U) (_ : Tree U v TU), Calls Tryd.prog 11 #[v] U fun e w' => e = .returned (.bool true) ∧ Ext U w' := fun U v h hx => by
    have C := qright_w TU v U (by decide) fitTU hx (ht.ext h)
    rw [show rightQ TU = true by kernel_rfl] at C
    exact C
  have CR2 : ∀ U (_ : Ext w U), Calls Tryd.prog 11 #[.slice none 0 0] U fun e w' => e = .returned (.bool false) ∧ Ext U w' := fun U h => by
    have C := qright_w [] (.slice none 0 0) U (by decide) FitT.nil (Tree.nil U) (ht.ext h)
    rw [show rightQ [] = false by kernel_rfl] at C
    exact C
  have CC : ∀ U v (_ : Ext w U) (_ : Tree U v TU), Calls Tryd.prog 21 #[v, (.string ⟨#[97]⟩), (.agg #[.int .u64 5, .int .u64 2, .int .u64 5, .int .u64 5])] U fun e w' => e = .returned (.bool true) ∧ Ext U w' := fun U v h hx => by
    have C := qcould_w TU v ⟨#[97]⟩ [5, 2, 5, 5] (okV_small ⟨by omega, by omega, by omega, by omega⟩) U (by decide) fitTU hx (by decide) (ht.ext h)
    rw [show couldT TU ⟨#[97]⟩ [5, 2, 5, 5] = true by kernel_rfl] at C
    exact C
  have hq : ∀ {x y : Vc} (_ : OkV x) (_ : OkV y) (U : World), (binOp .eql 36 (vVal x) (vVal y)).run Tryd.prog U = .ok (.bool (decide (x = y))) U := fun hx hy U => run_eql_vals Tryd.underlying36 Tryd.underlying34 (by kernel_rfl) hx hy U
  have oA : OkV [3, 2, 0, 0] := okV_small ⟨by omega, by omega, by omega, by omega⟩
  have oL : OkV [9, 2, 9, 9] := okV_small ⟨by omega, by omega, by omega, by omega⟩
  have q1 : ∀ U, (binOp .eql 36 (.agg #[.int .u64 3, .int .u64 2, .int .u64 0, .int .u64 0]) (.agg #[.int .u64 3, .int .u64 2, .int .u64 0, .int .u64 0])).run Tryd.prog U = .ok (.bool true) U := fun U => hq oA oA U
  have q2 : ∀ U, (binOp .eql 36 (.agg #[.int .u64 0, .int .u64 0, .int .u64 0, .int .u64 0]) (.agg #[.int .u64 0, .int .u64 0, .int .u64 0, .int .u64 0])).run Tryd.prog U = .ok (.bool true) U := fun U => hq okV_no okV_no U
  have q3 : ∀ U, (binOp .eql 44 (.agg #[.string ⟨#[97]⟩, .int .u64 9, .int .u64 2, .int .u64 9, .int .u64 9, .int .u64 3, .int .u64 2, .int .u64 0, .int .u64 0]) (.agg #[.string ⟨#[97]⟩, .int .u64 9, .int .u64 2, .int .u64 9, .int .u64 9, .int .u64 3, .int .u64 2, .int .u64 0, .int .u64 0])).run Tryd.prog U = .ok (.bool true) U := fun U =>
    (run_eql_entQ (eqEnt (a := (⟨#[97]⟩, [9, 2, 9, 9], [3, 2, 0, 0])) (b := (⟨#[97]⟩, [9, 2, 9, 9], [3, 2, 0, 0])) ⟨by decide, oL, oA⟩ ⟨by decide, oL, oA⟩ U)).trans (by rw [decide_eq_true rfl])
  clear hq oA oL
  have hcU : ∀ U p cap, Tree U (.slice p 2 cap) TU → ∃ b off, p = some ⟨b, off, none⟩ ∧ b < U.heap.size ∧ ∀ j, j < 9 → U.cell? ⟨b, off + 9 + j, none⟩ = (entOne (⟨#[97]⟩, [9, 2, 9, 9], [3, 2, 0, 0]))[j]? := fun U p cap h => Tree.at (xs := TU) h (k := 1) (by decide)
  have hc1 : ∀ U p cap, Tree U (.slice p 2 cap) T1 → ∃ b off, p = some ⟨b, off, none⟩ ∧ b < U.heap.size ∧ ∀ j, j < 9 → U.cell? ⟨b, off + 9 + j, none⟩ = (entOne (⟨#[97]⟩, [9, 2, 9, 9], noV))[j]? := fun U p cap h => Tree.at (xs := T1) h (k := 1) (by decide)
  have hc0 : ∀ U p cap, Tree U (.slice p 2 cap) T1 → ∃ b off, p = some ⟨b, off, none⟩ ∧ b < U.heap.size ∧ ∀ j, j < 9 → U.cell? ⟨b, off + j, none⟩ = (entOne (⟨#[]⟩, [5, 5, 5, 5], noV))[j]? := fun U p cap h => by
    obtain ⟨b, off, h1, h2, h3⟩ := Tree.at (xs := T1) h (k := 0) (by decide)
    exact ⟨b, off, h1, h2, fun j hj => by have := h3 j hj; rw [Nat.zero_mul, Nat.add_zero] at this; exact this⟩
  have shU : ∀ U v, Tree U v TU → ∃ p cap, v = .slice p 2 cap := fun U v h => by obtain ⟨p, cap, h1, _⟩ := h.shape; exact ⟨p, cap, h1⟩
  have sh1 : ∀ U v, Tree U v T1 → ∃ p cap, v = .slice p 2 cap := fun U v h => by obtain ⟨p, cap, h1, _⟩ := h.shape; exact ⟨p, cap, h1⟩
  replace C1 := Lib.hid C1
  replace C8 := Lib.hid C8
  replace C12 := Lib.hid C12
  replace C13 := Lib.hid C13
  replace CR1 := Lib.hid CR1
  replace CR2 := Lib.hid CR2
  replace CC := Lib.hid CC
  replace hcU := Lib.hid hcU
  replace hc1 := Lib.hid hc1
  replace hc0 := Lib.hid hc0
  replace shU := Lib.hid shU
  replace sh1 := Lib.hid sh1
  go_enter Tryd.func9, Tryd.ntmps9
  go_wp2_with fail
  refine (C1.out _).mono ?_; rintro e w1 ⟨v0, rfl, hx0, hb⟩
  go_wp2_with fail
  refine (exq_C2 w _ _ ht hb hx0).mono ?_; rintro e w2 ⟨v2, rfl, _, h2⟩
  replace hb := hb.trans h2
  replace hx0 := hx0.ext h2
  clear h2
  go_wp2_with fail
  refine (exq_C3 w _ _ ht hb hx0).mono ?_; rintro e w3 ⟨v3, rfl, _, h3⟩
  replace hb := hb.trans h3
  replace hx0 := hx0.ext h3
  clear h3
  go_wp2_with fail
  refine (exq_C4 w _ _ ht hb hx0).mono ?_; rintro e w4 ⟨v1, rfl, hx1, h4⟩
  replace hb := hb.trans h4
  clear h4 hx0
  go_wp2_with fail
  refine (exq_C5 w _ _ ht hb hx1).mono ?_; rintro e w5 ⟨vU, rfl, hxU, h5⟩
  replace hb := hb.trans h5
  clear h5 hx1
  go_wp2_with fail
  refine (exq_C6 w _ _ ht hb hxU).mono ?_; rintro e w6 ⟨v6, rfl, _, h6⟩
  replace hb := hb.trans h6
  replace hxU := hxU.ext h6
  clear h6
  go_wp2_with fail
  refine (exq_C7 w _ _ ht hb hxU).mono ?_; rintro e w7 ⟨v7, rfl, _, h7⟩
  replace hb := hb.trans h7
  replace hxU := hxU.ext h7
  clear h7
  go_wp2_with fail
  refine (C8.out _ _ hxU).mono ?_; rintro e w8 ⟨rfl, h8⟩
  have hB := (EBox.new w8 ⟨#[]⟩ (vG [5, 5, 5, 5]) (vG [3, 2, 0, 0]) 44)
  have h8b := h8.alloc (.cells #[.string ⟨#[]⟩, .int .u64 5, .int .u64 5, .int .u64 5, .int .u64 5, .int .u64 3, .int .u64 2, .int .u64 0, .int .u64 0] 44)
  change EBox w8.heap.size ⟨#[]⟩ (vG [5, 5, 5, 5]) (vG [3, 2, 0, 0]) (w8.alloc (.cells #[.string ⟨#[]⟩, .int .u64 5, .int .u64 5, .int .u64 5, .int .u64 5, .int .u64 3, .int .u64 2, .int .u64 0, .int .u64 0] 44)) at hB
  replace hb := Ext.trans hb h8b
  replace hxU := hxU.ext h8b
  clear h8 h8b
  go_wp2_with fail
  refine (exq_C9 w _ _ ht hb hxU).mono ?_; rintro e w9 ⟨v9, rfl, hx9, h9⟩
  replace hb := hb.trans h9
  replace hxU := hxU.ext h9
  replace hB := hB.ext h9
  clear h9
  go_wp2_with fail
  refine (exq_C10 w _ _ ht hb hxU).mono ?_; rintro e w10 ⟨v10, rfl, _, h10⟩
  replace hb := hb.trans h10
  replace hxU := hxU.ext h10
  replace hx9 := hx9.ext h10
  replace hB := hB.ext h10
  clear h10
  go_wp2_with fail
  refine (exq_C11 w _ _ ht hb hxU).mono ?_; rintro e w11 ⟨v11, rfl, _, h11⟩
  replace hb := hb.trans h11
  replace hxU := hxU.ext h11
  replace hx9 := hx9.ext h11
  replace hB := hB.ext h11
  clear h11
  go_wp2_with fail
  refine (C12.out _ _ hxU).mono ?_; rintro e w12 ⟨rfl, h12⟩
  replace hb := hb.trans h12
  replace hxU := hxU.ext h12
  replace hx9 := hx9.ext h12
  replace hB := hB.ext h12
  clear h12
  have C13b := C13.out w12 hb
  generalize (⟨(putQ TU).toArray⟩ : ByteArray) = pb at *
  go_wp2_with fail
  refine C13b.mono ?_; rintro e w13 ⟨v13, n13, rfl, hx13, h13⟩
  replace hb := hb.trans h13
  replace hxU := hxU.ext h13
  replace hx9 := hx9.ext h13
  replace hB := hB.ext h13
  clear h13 C13b C13 C12
  obtain ⟨pU, capU, rfl⟩ := shU.out _ _ hxU
  obtain ⟨p9, cap9, rfl⟩ := sh1.out _ _ hx9
  obtain ⟨p13, cap13, rfl⟩ := shU.out _ _ hx13
  obtain ⟨bU, oU, rfl, lU, cU⟩ := hcU.out _ _ _ hxU
  obtain ⟨b13, o13, rfl, l13, c13⟩ := hcU.out _ _ _ hx13
  obtain ⟨b9, o9, rfl, l9, c91⟩ := hc1.out _ _ _ hx9
  obtain ⟨b9', o9', h9e, _, c90⟩ := hc0.out _ _ _ hx9
  injection h9e with h9e; injection h9e with e1 e2
  subst e1 e2
  clear hx9 hx13 hcU hc1 hc0 shU sh1
  have CR1' := fun U h => CR1.out U _ (hb.trans h) (hxU.ext h)
  have CR2' := fun U h => CR2.out U (hb.trans h)
  have CC' := fun U h => CC.out U _ (hb.trans h) (hxU.ext h)
  replace CR1 := Lib.hid CR1'
  replace CR2 := Lib.hid CR2'
  replace CC := Lib.hid CC'
  clear CR1' CR2' CC' hxU
  have hT : ∀ n : Nat, Hid (∀ x, vG x n = vG x n) := fun n x => rfl
  clear hT
  have a0 := cU 0 (by omega)
  have a1 := cU 1 (by omega)
  have a2 := cU 2 (by omega)
  have a3 := cU 3 (by omega)
  have a4 := cU 4 (by omega)
  have a5 := cU 5 (by omega)
  have a6 := cU 6 (by omega)
  have a7 := cU 7 (by omega)
  have a8 := cU 8 (by omega)
  simp only [entOne, uAt, List.getElem?_cons_zero, List.getElem?_cons_succ, Nat.add_zero] at a0 a1 a2 a3 a4 a5 a6 a7 a8
  clear cU
  change World.cell? _ _ = some (.int .u64 9) at a1
  change World.cell? _ _ = some (.int .u64 2) at a2
  change World.cell? _ _ = some (.int .u64 9) at a3
  change World.cell? _ _ = some (.int .u64 9) at a4
  change World.cell? _ _ = some (.int .u64 3) at a5
  change World.cell? _ _ = some (.int .u64 2) at a6
  change World.cell? _ _ = some (.int .u64 0) at a7
  change World.cell? _ _ = some (.int .u64 0) at a8
  have b0 := c13 0 (by omega)
  have b1 := c13 1 (by omega)
  have b2 := c13 2 (by omega)
  have b3 := c13 3 (by omega)
  have b4 := c13 4 (by omega)
  have b5 := c13 5 (by omega)
  have b6 := c13 6 (by omega)
  have b7 := c13 7 (by omega)
  have b8 := c13 8 (by omega)
  simp only [entOne, uAt, List.getElem?_cons_zero, List.getElem?_cons_succ, Nat.add_zero] at b0 b1 b2 b3 b4 b5 b6 b7 b8
  clear c13
  change World.cell? _ _ = some (.int .u64 9) at b1
  change World.cell? _ _ = some (.int .u64 2) at b2
  change World.cell? _ _ = some (.int .u64 9) at b3
  change World.cell? _ _ = some (.int .u64 9) at b4
  change World.cell? _ _ = some (.int .u64 3) at b5
  change World.cell? _ _ = some (.int .u64 2) at b6
  change World.cell? _ _ = some (.int .u64 0) at b7
  change World.cell? _ _ = some (.int .u64 0) at b8
  have c0 := c91 0 (by omega)
  have c1 := c91 1 (by omega)
  have c2 := c91 2 (by omega)
  have c3 := c91 3 (by omega)
  have c4 := c91 4 (by omega)
  have c5 := c91 5 (by omega)
  have c6 := c91 6 (by omega)
  have c7 := c91 7 (by omega)
  have c8 := c91 8 (by omega)
  simp only [entOne, uAt, List.getElem?_cons_zero, List.getElem?_cons_succ, Nat.add_zero] at c0 c1 c2 c3 c4 c5 c6 c7 c8
  clear c91
  change World.cell? _ _ = some (.int .u64 9) at c1
  change World.cell? _ _ = some (.int .u64 2) at c2
  change World.cell? _ _ = some (.int .u64 9) at c3
  change World.cell? _ _ = some (.int .u64 9) at c4
  change World.cell? _ _ = some (.int .u64 0) at c5
  change World.cell? _ _ = some (.int .u64 0) at c6
  change World.cell? _ _ = some (.int .u64 0) at c7
  change World.cell? _ _ = some (.int .u64 0) at c8
  have d0 := c90 0 (by omega)
  have d1 := c90 1 (by omega)
  have d2 := c90 2 (by omega)
  have d3 := c90 3 (by omega)
  have d4 := c90 4 (by omega)
  have d5 := c90 5 (by omega)
  have d6 := c90 6 (by omega)
  have d7 := c90 7 (by omega)
  have d8 := c90 8 (by omega)
  simp only [entOne, uAt, List.getElem?_cons_zero, List.getElem?_cons_succ, Nat.add_zero] at d0 d1 d2 d3 d4 d5 d6 d7 d8
  clear c90
  change World.cell? _ _ = some (.int .u64 5) at d1
  change World.cell? _ _ = some (.int .u64 5) at d2
  change World.cell? _ _ = some (.int .u64 5) at d3
  change World.cell? _ _ = some (.int .u64 5) at d4
  change World.cell? _ _ = some (.int .u64 0) at d5
  change World.cell? _ _ = some (.int .u64 0) at d6
  change World.cell? _ _ = some (.int .u64 0) at d7
  change World.cell? _ _ = some (.int .u64 0) at d8
  obtain ⟨lB, f0, f1, f2, f3, f4, f5, f6, f7, f8, _, _, _, _, _, _, _, _, _⟩ := hB
  change World.cell? _ _ = some (.int .u64 3) at f5
  change World.cell? _ _ = some (.int .u64 2) at f6
  change World.cell? _ _ = some (.int .u64 0) at f7 f8
  go_wp2_with fail
  simp only [List.append_eq, List.cons_append, List.nil_append]
  refine Dm.wp_region_grow (by kernel_rfl) (by kernel_rfl) ?_
  repeat (go_big_quiet_step (first
    | (go_at_call 11; with_reducible exact Calls.quietE (CR1.out _ (ext_grow _ _)))
    | (go_at_call 11; with_reducible exact Calls.quietE (CR2.out _ (ext_grow _ _)))
    | (go_at_call 21; with_reducible exact Calls.quietE (CC.out _ (ext_grow _ _)))))
  refine wpQuiet_nil ?_
  intro w14 h14
  go_wp2
  go_ret
  exact ⟨rfl, hb.trans h14⟩
end Go.Proofs.YtopnllbfhhjobaaDoor

namespace Go.Dm
open Go Go.RowKit
theorem u64_of48 {n : Nat} (h : n ≤ 281474976710656) : U64 n := Nat.lt_of_le_of_lt h (by decide)
end Go.Dm
namespace Go.Proofs.YtopnllbfhhjobaaDoor
open Go.RowKit Go.Dm
set_option maxHeartbeats 8000000 in
set_option maxRecDepth 100000 in
theorem quotaForm_n (l m : List ChQ) (ahead behind : ByteArray) (cut : Nat) (vl vm : Value) (w : World) (hl : ∀ c ∈ l, OkC c) (hxl : Chs w vl l) (hm : ∀ c ∈ m, OkC c) (hxm : Chs w vm m) (ha : ahead.size ≤ 140737488351232) (hbh : behind.size ≤ 140737488351232) (hcut : cut ≤ 65535) (ht : Vars w) :
    Calls Tryd.prog 8 #[vl, vm, .string ahead, .string behind, .int .u16 (cut : Nat)] w fun e w' => e = .returned (.bool true) ∧ Ext w w' := by
  obtain ⟨ql, capl, rfl, _, _⟩ := hxl.shape
  obtain ⟨qm, capm, rfl, _, _⟩ := hxm.shape
  have CE := fun U (h : Ext w U) => qexamples_w U (ht.ext h)
  have CG := fun U (h : Ext w U) => qgrown_w l m _ _ U hl hm (hxl.ext h) (hxm.ext h) (ht.ext h)
  have hS := growS_ok l m
  generalize growS l m = S at *
  have CR := fun v U hx (h : Ext w U) => right_c S hS v U hx (ht.ext h)
  obtain ⟨hp1, hp2⟩ := conc_put hS
  obtain ⟨hf1, hf2⟩ := conc_form hS
  have CP := fun v U hx => qput_w (conc S) v U (conc_small S) hS.fit_conc (by omega) hx
  have CQ := fun X (hX : X.size ≤ 281474976710656) i U (h : Ext w U) => qget_w X i U hX (ht.ext h)
  have hsame := fun va vb W (hxa : Tree W va (conc S)) (hxb : Tree W vb (conc S)) => qsame_w (conc S) (conc S) va vb W hS.fit_conc hS.fit_conc (conc_small S) hxa hxb
  obtain ⟨P, hP⟩ : ∃ P : ByteArray, P = ⟨(putQ (conc S)).toArray⟩ := ⟨_, rfl⟩
  have hPd : P.data.toList = putQ (conc S) := by rw [hP]
  have hPs : P.size = (putQ (conc S)).length := by rw [← hPd]; rfl
  rw [← hP] at CP
  have happ := fun (hr : rightQ (conc S) = true) X (hX : X = (ahead ++ P) ++ behind) => (show getQ X.data.toList (ahead.size : Int) = (conc S, (ahead.size : Int) + (P.size : Int), true) by
    have h := getQ_app hr hf1 hf2 ahead.data.toList behind.data.toList (u64_of48 (by
      have a1 : ahead.data.toList.length = ahead.size := rfl
      have a2 : behind.data.toList.length = behind.size := rfl
      rw [List.length_append, List.length_append, a1, a2]; omega))
    rw [hX, data_append, data_append, hPd, List.append_assoc, hPs]
    exact h)
  have htorn := fun (hr : rightQ (conc S) = true) k (hk : k < P.size) => (show (getQ (P.extract 0 k).data.toList 0).2.2 = false by
    rw [Lib.extract_data, List.drop_zero, Nat.sub_zero, hPd]
    exact getQ_torn hr hf1 hf2 (u64_le (by omega)) (by rw [← hPs]; exact hk))
  rw [← hPs] at hp1 hp2
  have hPe : P.toList.isEmpty = false := by
    rw [ByteArray.toList_eq, List.isEmpty_eq_false_iff]
    intro e
    have e2 : P.data.toList.length = P.size := rfl
    rw [e, List.length_nil] at e2
    omega
  have hPe2 : ¬ P.toList = [] := by rw [← List.isEmpty_iff, hPe]; simp
  have hre : cut % P.size < P.size := Nat.mod_lt _ (by omega)
  clear hP hPd hPs hf1 hf2
  generalize rightQ (conc S) = rr at *
  replace CE := Lib.hid CE
  replace CG := Lib.hid CG
  replace CR := Lib.hid CR
  replace CP := Lib.hid CP
  replace CQ := Lib.hid CQ
  replace hsame := Lib.hid hsame
  replace happ := Lib.hid happ
  replace htorn := Lib.hid htorn
  go_enter Tryd.func8, Tryd.ntmps8
  go_wp2_with fail
  refine (CE.out _ (Ext.refl _)).mono ?_; rintro e w1 ⟨rfl, h1⟩
  go_wp2_with fail
  refine (CG.out _ h1).mono ?_; rintro e w2 ⟨v0, rfl, hx, h2⟩
  replace h2 := h1.trans h2
  clear h1
  go_wp2_with fail
  refine (CR.out _ _ hx h2).mono ?_; rintro e w3 ⟨rfl, h3⟩
  replace hx := hx.ext h3
  replace h3 := h2.trans h3
  clear h2
  cases rr with
  | false =>
    go_wp2
    go_ret
    exact ⟨rfl, h3⟩
  | true =>
  go_wp2_with fail
  refine (CP.out _ _ hx).mono ?_; rintro e w4 ⟨rfl, h4⟩
  replace hx := hx.ext h4
  replace h4 := h3.trans h4
  clear h3
  go_wp2_with fail
  obtain ⟨X, hX⟩ : ∃ X : ByteArray, X = (ahead ++ P) ++ behind := ⟨_, rfl⟩
  rw [← hX]
  have hXs : X.size ≤ 281474976710656 := by rw [hX, ByteArray.size_append, ByteArray.size_append]; omega
  have C1 := CQ.out X hXs (ahead.size : Int) w4 h4
  rw [happ.out (by trivial) X hX] at C1
  clear hX hXs happ
  replace C1 := Lib.hid C1
  refine C1.out.mono ?_; rintro e w5 ⟨v5, rfl, hx5, h5⟩
  replace hx := hx.ext h5
  replace h5 := h4.trans h5
  clear h4 C1
  have C2 := CQ.out (P.extract 0 (P.size - 1 - cut % P.size)) (by rw [ByteArray.size_extract]; omega) 0 w5 h5
  have hto := htorn.out (by trivial) (P.size - 1 - cut % P.size) (by omega)
  obtain ⟨⟨R, n6, o6⟩, hg⟩ : ∃ r, getQ (P.extract 0 (P.size - 1 - cut % P.size)).data.toList 0 = r := ⟨_, rfl⟩
  rw [hg] at C2 hto
  simp only at C2 hto
  subst hto
  clear hg htorn
  replace C2 := Lib.hid C2
  go_wp2_with fail
  refine C2.out.mono ?_; rintro e w6 ⟨v6, rfl, _, h6⟩
  replace hx := hx.ext h6
  replace hx5 := hx5.ext h6
  replace h6 := h5.trans h6
  clear h5 C2
  go_wp2_with fail
  refine (hsame.out _ _ _ hx5 hx).mono ?_; rintro e w7 ⟨rfl, h7⟩
  go_wp2
  go_ret
  exact ⟨by simp, h6.trans h7⟩

theorem quotaForm_w (l m : List ChQ) (ahead behind : ByteArray) (cut : Int) (vl vm : Value) (w : World) (hl : ∀ c ∈ l, OkC c) (hxl : Chs w vl l) (hm : ∀ c ∈ m, OkC c) (hxm : Chs w vm m) (ha : ahead.size ≤ 140737488351232) (hbh : behind.size ≤ 140737488351232) (hcut : 0 ≤ cut ∧ cut ≤ 65535) (ht : Vars w) :
      Calls Tryd.prog 8 #[vl, vm, .string ahead, .string behind, .int .u16 cut] w fun e w' => e = .returned (.bool true) ∧ Ext w w' := by
    obtain ⟨n, rfl⟩ : ∃ n : Nat, cut = (n : Int) := ⟨cut.toNat, by omega⟩
    exact quotaForm_n l m ahead behind n vl vm w hl hxl hm hxm ha hbh (by omega) ht
end Go.Proofs.YtopnllbfhhjobaaDoor
