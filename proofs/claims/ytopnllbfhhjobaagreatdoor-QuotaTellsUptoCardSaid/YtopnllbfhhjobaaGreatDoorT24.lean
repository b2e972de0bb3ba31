/- Texts one behind the other: Chapter 3: the walks of the document's Add, Times, Fits, Put; Chapter 10, the document's: the walks of Charge, Refund. -/
import Derived.Test.YtopnllbfhhjobaaGreatDoorT20
import Derived.Test.YtopnllbfhhjobaaGreatDoorT8
import Derived.Test.YtopnllbfhhjobaaGreatDoorT23
namespace Go.Proofs.YtopnllbfhhjobaaGreatDoor
open Go.RowKit Go.Dm

theorem r01add_w (x y : Nat) (hx : U64 x) (hy : U64 y) (w : World) :
    Calls Tryz.prog 73 #[.int .u64 (x : Nat), .int .u64 (y : Nat)] w fun e w' => e = .returned (.tuple #[.int .u64 ((if decide (x + y < 18446744073709551616) then x + y else 0 : Nat) : Int), .bool (decide (x + y < 18446744073709551616))]) ∧ Ext w w' := by
  have hy' : y < 18446744073709551616 := hy
  have hx' : x < 18446744073709551616 := hx
  have hw : IntKind.u64.wrap (18446744073709551615 - (y : Int)) = ((18446744073709551615 - y : Nat) : Int) := by
    rw [show ((18446744073709551615 : Int) - (y : Int)) = ((18446744073709551615 - y : Nat) : Int) by omega]
    simp only [IntKind.wrap, IntKind.bits, IntKind.signed]
    simp; omega
  by_cases h : x + y < 18446744073709551616
  · have hs : IntKind.u64.wrap ((x : Int) + (y : Int)) = ((x + y : Nat) : Int) := by
      rw [← Int.natCast_add]
      simp only [IntKind.wrap, IntKind.bits, IntKind.signed]
      simp; omega
    rw [decide_eq_true h]
    simp only [if_true]
    have hlt : ¬ (((18446744073709551615 - y : Nat) : Int) < (x : Int)) := by omega
    generalize x + y = s at *
    generalize 18446744073709551615 - y = m at *
    go_enter Tryz.func73, Tryz.ntmps73
    go_wp2
    go_ret2
    exact ⟨rfl, Ext.refl _⟩
  · rw [decide_eq_false h]
    simp only [Bool.false_eq_true, if_false]
    have hlt : (((18446744073709551615 - y : Nat) : Int) < (x : Int)) := by omega
    generalize 18446744073709551615 - y = m at *
    go_enter Tryz.func73, Tryz.ntmps73
    go_wp2
    go_ret2
    exact ⟨rfl, Ext.refl _⟩

set_option maxHeartbeats 4000000 in
set_option maxRecDepth 100000 in
theorem r03add_w (a b : Vc) (ha : OkV a) (hb : OkV b) (w : World) :
    Calls Tryz.prog 42 #[vVal a, vVal b] w fun e w' => e = .returned (.tuple #[vVal (vOr (vaddOk a b) (vadd a b)), .bool (vaddOk a b)]) ∧ Ext w w' := by
  have hR := vG_or (vaddOk a b) (fun k => vG a k + vG b k) (vadd a b) (fun k hk => vadd_at hk)
  have hno := fun k (hk : k < 4) h => allV_no (p := fun x y => decide (x + y < 18446744073709551616)) (A := vG a) (B := vG b) hk h
  have hyes := allV_yes (p := fun x y => decide (x + y < 18446744073709551616)) (A := vG a) (B := vG b)
  rw [allV_add] at hno hyes
  have hA : ∀ k, U64 (vG a k) := ha.u64
  have hB : ∀ k, U64 (vG b k) := hb.u64
  unfold vVal
  rw [← hR]
  clear hR ha hb
  generalize vaddOk a b = d at *
  generalize vG a = A at *
  generalize vG b = B at *
  have hC := fun (k : Nat) U => r01add_w (A k) (B k) (hA k) (hB k) U
  obtain ⟨G, hG⟩ : ∃ G : Nat → Nat, ∀ k, A k + B k = G k := ⟨fun k => A k + B k, fun _ => rfl⟩
  simp only [hG] at hno hyes hC ⊢
  clear hG
  replace hno := Lib.hid hno
  replace hyes := Lib.hid hyes
  replace hC := Lib.hid hC
  unfold vF
  go_enter Tryz.func42, Tryz.ntmps42
  go_wp2
  go_loopw [7] (fun i wr => ∃ k : Nat, k ≤ 4 ∧ i = .int .i64 k ∧ Ext w wr ∧ VBox w.heap.size A wr ∧ VBox (w.heap.size + 1) B wr ∧ VBox (w.heap.size + 1 + 1) (fun _ => 0) wr ∧ VBox (w.heap.size + 1 + 1 + 1) (fun j => if j < k then G j else 0) wr ∧ Hid (∀ j, j < k → decide (G j < 18446744073709551616) = true)) (fun i _ => 4 - (intOf i).toNat)
  case atStart =>
    refine ⟨0, by omega, rfl, ((((Ext.refl w).alloc _).alloc _).alloc _).alloc _, (VBox.new w A _).ext ((((Ext.refl _).alloc _).alloc _).alloc _), ?_, ?_, ?_, fun j hj => by omega⟩
    · have h := VBox.new (w.alloc (.cells #[.int .u64 (A 0 : Nat), .int .u64 (A 1 : Nat), .int .u64 (A 2 : Nat), .int .u64 (A 3 : Nat)] 34)) B 34
      rw [World.size_alloc] at h
      exact h.ext (((Ext.refl _).alloc _).alloc _)
    · have h := VBox.new ((w.alloc (.cells #[.int .u64 (A 0 : Nat), .int .u64 (A 1 : Nat), .int .u64 (A 2 : Nat), .int .u64 (A 3 : Nat)] 34)).alloc (.cells #[.int .u64 (B 0 : Nat), .int .u64 (B 1 : Nat), .int .u64 (B 2 : Nat), .int .u64 (B 3 : Nat)] 34)) (fun _ => 0) 34
      rw [World.size_alloc, World.size_alloc] at h
      exact h.ext ((Ext.refl _).alloc _)
    · have h := VBox.new (((w.alloc (.cells #[.int .u64 (A 0 : Nat), .int .u64 (A 1 : Nat), .int .u64 (A 2 : Nat), .int .u64 (A 3 : Nat)] 34)).alloc (.cells #[.int .u64 (B 0 : Nat), .int .u64 (B 1 : Nat), .int .u64 (B 2 : Nat), .int .u64 (B 3 : Nat)] 34)).alloc (.cells #[.int .u64 (0 : Nat), .int .u64 (0 : Nat), .int .u64 (0 : Nat), .int .u64 (0 : Nat)] 34)) (fun _ => 0) 34
      rw [World.size_alloc, World.size_alloc, World.size_alloc] at h
      exact h.congr fun j _ => by simp
  case round =>
    obtain ⟨k, hk, rfl, hb, v1, v2, v3, v4, HP⟩ := hrel
    by_cases hlt : k < 4
    · have hN := hno.out k hlt
      have hP2 : decide (G k < 18446744073709551616) = true → Hid (∀ j, j < k + 1 → decide (G j < 18446744073709551616) = true) := fun h j hj => by
        rcases Nat.lt_succ_iff_lt_or_eq.1 hj with h' | rfl
        · exact HP.out j h'
        · exact h
      have hst : ∀ w', VBox (w.heap.size + 1 + 1 + 1) (fun j => if j < k then G j else 0) w' → VBox (w.heap.size + 1 + 1 + 1) (fun j => if j < k + 1 then G j else 0) (w'.setCell ⟨w.heap.size + 1 + 1 + 1, k, none⟩ (.int .u64 (G k : Nat))) := fun w' h => (h.set hlt).congr fun j _ => by
        by_cases e : j = k
        · subst e; simp
        · by_cases h2 : j < k
          · simp [e, h2, Nat.lt_succ_of_lt h2]
          · have : ¬ j < k + 1 := by omega
            simp [e, h2, this]
      replace hst := Lib.hid hst
      have c1 := v1.cell k hlt
      have c2 := v2.cell k hlt
      have l1 := v1.lt
      have l2 := v2.lt
      have C := fun U => hC.out k U
      cases hp : decide (G k < 18446744073709551616) with
      | false =>
        have hd := hN hp
        subst hd
        clear hN hP2 hst
        rw [hp] at C
        simp only [Bool.false_eq_true, if_false] at C ⊢
        replace C := Lib.hid C
        go_wp2_with fail
        refine Dm.wp_region_grow (by kernel_rfl) (by kernel_rfl) ?_
        repeat (go_big_quiet_step (first
          | (go_at_call 73; with_reducible exact Calls.quietE (C.out _))))
        refine wpQuiet_nil ?_
        intro U h1
        obtain ⟨_, d0, d1, d2, d3, e0, e1, e2, e3⟩ := (v3.ext h1).four
        go_wp2
        have z0 := ((((v3.ext h1).set (k := 0) (v := 0) (by omega)).set (k := 1) (v := 0) (by omega)).set (k := 2) (v := 0) (by omega)).set (k := 3) (v := 0) (by omega)
        have k0 := z0.cell 0 (by omega)
        have k1 := z0.cell 1 (by omega)
        have k2 := z0.cell 2 (by omega)
        have k3 := z0.cell 3 (by omega)
        simp at k0 k1 k2 k3
        refine bodyPost_ret (v := .tuple #[.agg #[.int .u64 0, .int .u64 0, .int .u64 0, .int .u64 0], .bool false]) (by simp [results, Tryz.results42, go_sem, k0, k1, k2, k3]) rfl ?_
        exact ⟨rfl, (hb.trans h1).put4 (b := w.heap.size + 1 + 1) (by omega) (fun _ => 0)⟩
      | true =>
        replace hP2 := hP2 hp
        clear hN
        rw [hp] at C
        simp only [if_true] at C
        replace C := Lib.hid C
        have c4 := v4.cell k hlt
        have l4 := v4.free k hlt
        go_wp2_with fail
        refine Dm.wp_region_grow (by kernel_rfl) (by kernel_rfl) ?_
        repeat (go_big_quiet_step (first
          | (go_at_call 73; with_reducible exact Calls.quietE (C.out _))))
        refine wpQuiet_nil ?_
        intro U h1
        have u4 := v4.ext h1
        have d0 := u4.cell _ hlt
        have e0 := u4.free _ hlt
        go_wp2
        go_roundw
        case rel => exact ⟨_, by omega, by go_num, (hb.trans h1).setCell (p := ⟨w.heap.size + 1 + 1 + 1, _, none⟩) (by show w.heap.size ≤ w.heap.size + 1 + 1 + 1; omega) _, (v1.ext h1).far (by omega) _, (v2.ext h1).far (by omega) _, (v3.ext h1).far (by omega) _, hst.out _ u4, hP2⟩
        case measure => simp [intOf]; omega
    · obtain rfl : k = 4 := by omega
      have hd := hyes.out (fun j hj => HP.out j hj)
      subst hd
      obtain ⟨_, c0, c1, c2, c3, _, _, _, _⟩ := v4.four
      simp at c0 c1 c2 c3
      obtain ⟨_, d0, d1, d2, d3, e0, e1, e2, e3⟩ := v3.four
      clear hno hyes HP
      go_wp2
      have z0 := (((v3.set (k := 0) (v := G 0) (by omega)).set (k := 1) (v := G 1) (by omega)).set (k := 2) (v := G 2) (by omega)).set (k := 3) (v := G 3) (by omega)
      have k0 := z0.cell 0 (by omega)
      have k1 := z0.cell 1 (by omega)
      have k2 := z0.cell 2 (by omega)
      have k3 := z0.cell 3 (by omega)
      simp at k0 k1 k2 k3
      refine bodyPost_ret (v := .tuple #[.agg #[.int .u64 (G 0 : Nat), .int .u64 (G 1 : Nat), .int .u64 (G 2 : Nat), .int .u64 (G 3 : Nat)], .bool true]) (by simp [results, Tryz.results42, go_sem, k0, k1, k2, k3]) rfl ?_
      exact ⟨rfl, hb.put4 (b := w.heap.size + 1 + 1) (by omega) (fun j => G j)⟩

end Go.Proofs.YtopnllbfhhjobaaGreatDoor

namespace Go.Dm
open Go Go.RowKit
/-- Another tree with these paths and limits. -/
def SameTop (R out : List EntQ) : Prop := out.length = R.length ∧ ∀ k, k < R.length → (eAt out k).1 = (eAt R k).1 ∧ (eAt out k).2.1 = (eAt R k).2.1
theorem SameTop.refl (R : List EntQ) : SameTop R R := ⟨rfl, fun _ _ => ⟨rfl, rfl⟩⟩
theorem SameTop.set {R out : List EntQ} (h : SameTop R out) {j : Nat} {s : ByteArray} {l u n : Vc} (hr : eAt R j = (s, l, u)) : SameTop R (out.set j (s, l, n)) := by
  refine ⟨by rw [List.length_set]; exact h.1, fun k hk => ?_⟩
  by_cases hkj : j = k
  · subst hkj
    rw [hr]
    simp [eAt, h.1, hk]
  · have e : eAt (out.set j (s, l, n)) k = eAt out k := by simp [eAt, hkj]
    rw [e]; exact h.2 k hk
theorem used_cells (A B : List Value) (r : EntQ) (n : Vc) : splice (A ++ (entOne r ++ B)) (A.length + 5) [uAt n 0, uAt n 1, uAt n 2, uAt n 3] = A ++ (entOne (r.1, r.2.1, n) ++ B) := by
  unfold splice
  rw [show A.length + 5 + ([uAt n 0, uAt n 1, uAt n 2, uAt n 3] : List Value).length = A.length + 9 from rfl, List.take_length_add_append, List.drop_length_add_append]
  simp [entOne, uAt]
theorem entCellsQ_used {R : List EntQ} {k : Nat} (hk : k < R.length) (n : Vc) : splice (entCellsQ R) (k * 9 + 5) [uAt n 0, uAt n 1, uAt n 2, uAt n 3] = entCellsQ (R.set k ((eAt R k).1, (eAt R k).2.1, n)) := by
  have hl : (entCellsQ (R.take k)).length = k * 9 := by rw [entCellsQ_len, List.length_take, Nat.min_eq_left (by omega)]
  have h1 : entCellsQ R = entCellsQ (R.take k) ++ (entOne (eAt R k) ++ entCellsQ (R.drop (k + 1))) := by
    conv => lhs; rw [← List.take_append_drop k R, entCellsQ_app, List.drop_eq_getElem_cons hk, ← eAt_eq hk]
    rfl
  rw [h1, ← hl, used_cells, List.set_eq_take_append_cons_drop, if_pos hk, entCellsQ_app]
  rfl
theorem row_far {w w' : World} {B e sz n g : Nat} {v : Value} {xs : List Value} (h : w.ownsRow B e sz v n xs) (hg : w.grownBy w' (some g)) (hlt : g < B) : w'.ownsRow B e sz v n xs := by
  refine h.kept hg ?_
  rcases h.2 with ⟨rfl, _⟩ | ⟨g', _, _, rfl, hB, _⟩
  · exact Or.inl rfl
  · refine Or.inr fun e => ?_
    have e : some g' = some g := e
    injection e with e
    omega
end Go.Dm
namespace Go.Proofs.YtopnllbfhhjobaaGreatDoor
open Go.RowKit Go.Dm
theorem Tryz.slEntR : SlT Tryz.prog 27 42 9 80 := SlT.mk' Tryz.underlying27 (by kernel_rfl) (by decide) (by decide)

set_option maxHeartbeats 8000000 in
set_option maxRecDepth 100000 in
theorem dCharge_w (R : List EntQ) (va : Value) (p : ByteArray) (v : Vc) (hv : OkV v) (w : World) (hm : R.length ≤ 1099511627776) (hR : FitT R) (hx : Tree w va R) (hp : p.size ≤ 1048576) :
    Calls Tryz.prog 10 #[va, .string p, vVal v] w fun e w' => ∃ v', e = .returned (.tuple #[v', .int .i64 ((eachT R p (chgE v)).2 : Nat)]) ∧ Tree w' v' (eachT R p (chgE v)).1 ∧ Ext w w' := by
  obtain ⟨q, cap, rfl, _, _⟩ := hx.shape
  have hE : Ext w (w.alloc (.cells #[.int .u64 (vG v 0 : Nat), .int .u64 (vG v 1 : Nat), .int .u64 (vG v 2 : Nat), .int .u64 (vG v 3 : Nat)] 34)) := (Ext.refl _).alloc _
  have hV : VBox w.heap.size (vG v) (w.alloc (.cells #[.int .u64 (vG v 0 : Nat), .int .u64 (vG v 1 : Nat), .int .u64 (vG v 2 : Nat), .int .u64 (vG v 3 : Nat)] 34)) := VBox.new w (vG v) 34
  generalize hW0 : w.alloc (.cells #[.int .u64 (vG v 0 : Nat), .int .u64 (vG v 1 : Nat), .int .u64 (vG v 2 : Nat), .int .u64 (vG v 3 : Nat)] 34) = W at *
  have CT := dthere_w R p _ W hm (hx.ext hE) hp
  have CU := fun U => daboveO_w p U hp
  have CF := fun (s : ByteArray) U (h : Ext w U) => dfind_w R s _ U hm (hx.ext h)
  have CA := fun (s : Vc) (hs : OkV s) U => r03add_w s v hs hv U
  have CFt := fun (s l : Vc) U => r03fits_w s l U
  have hth := eachT_th R p (chgE v)
  have hpl := thT_there (t := R) (p := p)
  have hl4 : (abvB p).length ≤ 4 := by have := upsB_len p; simp [abvB]; omega
  have hst := fun (k : Nat) (hk : k < (abvB p).length) out => eachF_step (t := R) (f := chgE v) hk out
  have hst0 := fun out => show eachF R (chgE v) [] out = (out, 0) from rfl
  have hff : ∀ (s : ByteArray) (l u : Vc), chgE v (s, l, u) = if vaddOk u v = false then ((s, l, u), 5) else if vfits (vadd u v) l = false then ((s, l, u), 10) else ((s, l, vadd u v), 0) := fun _ _ _ => rfl
  generalize eachT R p (chgE v) = E at *
  generalize eachF R (chgE v) = ef at *
  generalize chgE v = f at *
  generalize thT R p = T at *
  generalize abvB p = l at *
  unfold vVal vF at *
  replace CU := Lib.hid CU
  replace CT := Lib.hid CT
  replace CF := Lib.hid CF
  replace CA := Lib.hid CA
  replace CFt := Lib.hid CFt
  replace hst := Lib.hid hst
  replace hst0 := Lib.hid hst0
  replace hff := Lib.hid hff
  replace hpl := Lib.hid hpl
  by_cases hT : T = 0
  · rw [if_pos hT] at hth
    have hpl2 := Lib.hid (hpl.out hT)
    subst hT
    clear hpl
    replace hth := Lib.hid hth
    have hx1 := hx.ext hE
    go_enter Tryz.func10, Tryz.ntmps10
    go_wp2_with fail
    refine CT.out.mono ?_; rintro e w1 ⟨rfl, h1⟩
    go_wp2_with (at_builtin; go_must (refine wpList_appE (n := 0) (m := R.length) rfl _ _ Tryz.slEntR rfl (Ext.refl _) rfl (World.ownsRow_nil _ _ _ _) rfl (hx1.ext h1) (entCellsQ_one R) (by omega) ?_; intro vo w2 ho h2 _; refine Hid.out ?_))
    have hol := ho
    rw [Nat.zero_add, List.nil_append] at ho
    clear hol
    obtain ⟨ao, co, rfl⟩ : ∃ a c, vo = .slice a R.length c := by
      obtain ⟨a, c, e, _⟩ := (Sl.of_owns ho).shape
      exact ⟨a, c, e⟩
    refine Lib.hid ?_
    go_wp2_with fail
    refine (CU.out w2).mono ?_; rintro e w3 ⟨vl, rfl, hs, h3⟩
    have hao : ∀ g, ao = some ⟨g, 0, none⟩ → g < w2.heap.size := fun g e => by
      rcases ho.2 with ⟨h0, _⟩ | ⟨g', _, _, h0, _, hg, _⟩
      · simp only [Value.slice.injEq] at h0; rw [h0.1] at e; cases e
      · simp only [Value.slice.injEq] at h0
        rw [h0.1] at e
        injection e with e; injection e with e
        subst e
        exact (Array.getElem?_eq_some_iff.1 hg).1
    replace hao := Lib.hid hao
    replace ho := Ext.row ho h3
    replace h3 := h2.trans h3
    have hb1 : Ext W w1 := h1
    clear h2 h1
    obtain ⟨pl, lc, rfl, _, _⟩ := (Strs.of_row hs rfl).shape
    go_wp2
    go_loopw [11, 12, 13, 14] (fun i _ _ _ wr => ∃ (k : Nat) (out : List EntQ), k ≤ l.length ∧ i = .int .i64 k ∧ wr.ownsRow w2.heap.size 9 1 (.slice pl l.length lc) l.length (l.map .string) ∧ Ext w1 wr ∧ wr.ownsRow w1.heap.size 42 9 (.slice ao R.length co) R.length (entCellsQ out) ∧ Hid (SameTop R out) ∧ Hid (E = ef (l.drop k) out)) (fun i _ _ _ _ => l.length - (intOf i).toNat)
    case atStart => exact ⟨0, R, by omega, rfl, hs, h3, ho, SameTop.refl R, hth.out⟩
    case round =>
      obtain ⟨k, out, hk, rfl, hsr, hb, ho, HT, HE⟩ := hrel
      have hbW := hb1.trans hb
      have hbw := hE.trans hbW
      by_cases hlt : k < l.length
      · obtain ⟨lb, lo, hple, hlbl, c0⟩ := (Strs.of_row hsr rfl).at hlt
        subst hple
        have hj := hpl2.out k hlt
        have CP := CF.out (strAt l k) wr hbw
        rw [plI_of hj] at CP
        have HS := HE.out
        rw [hst.out k hlt] at HS
        generalize strAt l k = s at *
        generalize plN R s = j at *
        obtain ⟨tb, tof, hqe, htbl, hcs⟩ := hx.at hj
        subst hqe
        have hok := (hR.at hj).2
        obtain ⟨⟨s1, l1, u1⟩, hr⟩ : ∃ r, eAt R j = r := ⟨_, rfl⟩
        have hto := HT.out.2 j hj
        have hso := (HT.out.set (n := vadd u1 v) hr)
        rw [hr] at hcs HS hok hto
        rw [hff.out] at HS
        clear hr
        simp only at hok hto HS
        have hcs2 : ∀ U, Ext w U → ∀ j', j' < 9 → U.cell? ⟨tb, tof + j * 9 + j', none⟩ = (entOne (s1, l1, u1))[j']? := fun U hU j' hj' => by rw [hU.cell (by exact htbl)]; exact hcs j' hj'
        clear hcs
        have CA2 := CA.out u1 hok.2
        have CF2 := CFt.out (vadd u1 v) l1
        replace hcs2 := Lib.hid hcs2
        replace CP := Lib.hid CP
        replace HS := Lib.hid HS
        replace CF2 := Lib.hid CF2
        replace hto := Lib.hid hto
        replace hso := Lib.hid hso
        go_wp2_with fail
        refine CP.out.mono ?_; rintro e w5 ⟨rfl, h5⟩
        clear CP c0
        have hw5 := hbw.trans h5
        have htl5 : tb < w5.heap.size := Nat.lt_of_lt_of_le htbl hw5.size
        have hcs := hcs2.out w5 hw5
        have c0 := hcs 0 (by omega)
        have c1 := hcs 1 (by omega)
        have c2 := hcs 2 (by omega)
        have c3 := hcs 3 (by omega)
        have c4 := hcs 4 (by omega)
        have c5 := hcs 5 (by omega)
        have c6 := hcs 6 (by omega)
        have c7 := hcs 7 (by omega)
        have c8 := hcs 8 (by omega)
        simp only [entOne, uAt, List.getElem?_cons_zero, List.getElem?_cons_succ, Nat.add_zero] at c0 c1 c2 c3 c4 c5 c6 c7 c8
        clear hcs
        have hV5 := hV.ext (hbW.trans h5)
        obtain ⟨zl, z0, z1, z2, z3, _, _, _, _⟩ := hV5.four
        cases hd : vaddOk u1 v with
        | false =>
          rw [hd] at CA2
          have HS1 : E = (R, 5) := by have h := HS.out; simpa [hd] using h
          replace HS := Lib.hid HS1
          clear HS1 HE
          generalize vG (vOr false (vadd u1 v)) = N at CA2
          replace CA2 := Lib.hid CA2
          go_wp2_with fail
          try simp only [Act.put, List.setIfInBounds_toArray, List.set_cons_succ, List.set_cons_zero]
          refine Dm.wp_region_ext 13 (Dm.bits 13 0) (Ext.refl w5) (by kernel_rfl) (by kernel_rfl) (by kernel_rfl) ?_
          refine Dm.wpE_take (i := 0) (listed' := (Dm.bits 13 1)) (by kernel_rfl) (by kernel_rfl) rfl (fun _ _ _ _ h => h) ?_; apply Exists.intro; refine And.intro (fun x => ?_) ?_
          · go_big_quiet_step ((go_at_call 42; with_reducible exact Calls.quietE (CA2.out _))); exact wpQuiet_nil rfl
          refine Dm.wpE_take (i := 1) (listed' := (Dm.bits 13 3)) (by kernel_rfl) (by kernel_rfl) rfl (fun _ _ _ _ h => h) ?_; apply Exists.intro; refine And.intro (fun x => ?_) ?_
          · go_big_quiet_step ((go_at_call 42; with_reducible exact Calls.quietE (CA2.out _))); exact wpQuiet_nil rfl
          refine Dm.wpE_take (i := 2) (listed' := (Dm.bits 13 7)) (by kernel_rfl) (by kernel_rfl) rfl (fun _ _ _ _ h => h) ?_; apply Exists.intro; refine And.intro (fun x => ?_) ?_
          · go_big_quiet_step ((go_at_call 42; with_reducible exact Calls.quietE (CA2.out _))); exact wpQuiet_nil rfl
          refine Dm.wpE_take (i := 3) (listed' := (Dm.bits 13 15)) (by kernel_rfl) (by kernel_rfl) rfl (fun _ _ _ _ h => h) ?_; apply Exists.intro; refine And.intro (fun x => ?_) ?_
          · go_big_quiet_step ((go_at_call 42; with_reducible exact Calls.quietE (CA2.out _))); exact wpQuiet_nil rfl
          refine Dm.wpE_take (i := 4) (listed' := (Dm.bits 13 31)) (by kernel_rfl) (by kernel_rfl) rfl (fun _ _ _ _ h => h) ?_; apply Exists.intro; refine And.intro (fun x => ?_) ?_
          · go_big_quiet_step ((go_at_call 42; with_reducible exact Calls.quietE (CA2.out _))); exact wpQuiet_nil rfl
          refine Dm.wpE_take (i := 5) (listed' := (Dm.bits 13 63)) (by kernel_rfl) (by kernel_rfl) rfl (fun _ _ _ _ h => h) ?_; apply Exists.intro; refine And.intro (fun x => ?_) ?_
          · go_big_quiet_step ((go_at_call 42; with_reducible exact Calls.quietE (CA2.out _))); exact wpQuiet_nil rfl
          refine Dm.wpE_take (i := 6) (listed' := (Dm.bits 13 127)) (by kernel_rfl) (by kernel_rfl) rfl (fun _ _ _ _ h => h) ?_; apply Exists.intro; refine And.intro (fun x => ?_) ?_
          · go_big_quiet_step ((go_at_call 42; with_reducible exact Calls.quietE (CA2.out _))); exact wpQuiet_nil rfl
          refine Dm.wpE_take (i := 7) (listed' := (Dm.bits 13 255)) (by kernel_rfl) (by kernel_rfl) rfl (fun _ _ _ _ h => h) ?_; apply Exists.intro; refine And.intro (fun x => ?_) ?_
          · go_big_quiet_step ((go_at_call 42; with_reducible exact Calls.quietE (CA2.out _))); exact wpQuiet_nil rfl
          refine Dm.wpE_take (i := 8) (listed' := (Dm.bits 13 511)) (by kernel_rfl) (by kernel_rfl) rfl (fun _ _ _ _ h => h) ?_; apply Exists.intro; refine And.intro (fun x => ?_) ?_
          · go_big_quiet_step ((go_at_call 42; with_reducible exact Calls.quietE (CA2.out _))); exact wpQuiet_nil rfl
          refine Dm.wpE_take (i := 9) (listed' := (Dm.bits 13 1023)) (by kernel_rfl) (by kernel_rfl) rfl (fun _ _ _ _ h => h) ?_; apply Exists.intro; refine And.intro (fun x => ?_) ?_
          · go_big_quiet_step ((go_at_call 42; with_reducible exact Calls.quietE (CA2.out _))); exact wpQuiet_nil rfl
          refine Dm.wpE_one (i := 10) (listed' := (Dm.bits 13 2047)) (by kernel_rfl) (by kernel_rfl) rfl (Ext.refl w5) (fun w1a hx1a => ?_)
          have hX1a := Ext.trans (Ext.refl w5) hx1a
          have hz := VBox.new w1a (fun _ => 0) 34
          have hzl := (hX1a).size
          go_wp2_with fail
          have hs1 := (Ext.refl w1a).alloc (.cells #[.int .u64 0, .int .u64 0, .int .u64 0, .int .u64 0] 34)
          have hX1b := Ext.trans hX1a hs1
          change VBox _ _ (w1a.alloc (.cells #[.int .u64 0, .int .u64 0, .int .u64 0, .int .u64 0] 34)) at hz
          generalize w1a.alloc (.cells #[.int .u64 0, .int .u64 0, .int .u64 0, .int .u64 0] 34) = w1b at *
          generalize w1a.heap.size = bhD at *
          try simp only [Exit.then, Act.put]
          refine Dm.wpE_one (i := 11) (listed' := (Dm.bits 13 4095)) (by kernel_rfl) (by kernel_rfl) rfl hX1b (fun w2a hx2a => ?_)
          have hX2a := Ext.trans hX1b hx2a
          replace hz := hz.ext hx2a
          obtain ⟨_, y0, y1, y2, y3, x0, x1, x2, x3⟩ := hz.four
          have hD := hz.put (N)
          have hX2b := Ext.put4 hX2a (b := bhD) (by omega) (N)
          go_wp2_with fail
          clear y0 y1 y2 y3 x0 x1 x2 x3
          unfold Dm.put4 at hD hX2b
          generalize (((w2a.setCell ⟨bhD, 0, none⟩ (.int .u64 (N 0 : Nat))).setCell ⟨bhD, 1, none⟩ (.int .u64 (N 1 : Nat))).setCell ⟨bhD, 2, none⟩ (.int .u64 (N 2 : Nat))).setCell ⟨bhD, 3, none⟩ (.int .u64 (N 3 : Nat)) = w2b at *
          try simp only [Exit.then, Act.put]
          refine Dm.wpE_take (i := 12) (listed' := (Dm.bits 13 8191)) (by kernel_rfl) (by kernel_rfl) rfl (fun _ _ _ _ h => h) ?_; apply Exists.intro; refine And.intro (fun x => ?_) ?_
          · go_big_quiet_step ((go_at_call 42; with_reducible exact Calls.quietE (CA2.out _))); exact wpQuiet_nil rfl
          refine Dm.wpE_done (by kernel_rfl) hX2b (fun w3a hx3a => ?_)
          have hX3a := Ext.trans hX2b hx3a
          replace hD := hD.ext hx3a
          clear zl z0 z1 z2 z3 c0 c1 c2 c3 c4 c5 c6 c7 c8
          have hw6 := hw5.trans hX3a
          have hb6 := (hb.trans h5).trans hX3a
          have hwr7 := h5.trans hX3a
          clear hX3a
          generalize w3a = w6 at *
          go_wp2
          go_ret2
          exact ⟨_, by rw [HS.out]; rfl, by rw [HS.out]; exact hx.ext hw6, hw6⟩
        | true =>
          rw [hd, show vOr true (vadd u1 v) = vadd u1 v from rfl] at CA2
          have HS1 := HS.out
          simp only [hd, Bool.true_eq_false, if_false] at HS1
          replace HS := Lib.hid HS1
          clear HS1 HE
          generalize vadd u1 v = nn at *
          replace CA2 := Lib.hid CA2
          go_wp2_with fail
          try simp only [Act.put, List.setIfInBounds_toArray, List.set_cons_succ, List.set_cons_zero]
          refine Dm.wp_region_ext 13 (Dm.bits 13 0) (Ext.refl w5) (by kernel_rfl) (by kernel_rfl) (by kernel_rfl) ?_
          refine Dm.wpE_take (i := 0) (listed' := (Dm.bits 13 1)) (by kernel_rfl) (by kernel_rfl) rfl (fun _ _ _ _ h => h) ?_; apply Exists.intro; refine And.intro (fun x => ?_) ?_
          · go_big_quiet_step ((go_at_call 42; with_reducible exact Calls.quietE (CA2.out _))); exact wpQuiet_nil rfl
          refine Dm.wpE_take (i := 1) (listed' := (Dm.bits 13 3)) (by kernel_rfl) (by kernel_rfl) rfl (fun _ _ _ _ h => h) ?_; apply Exists.intro; refine And.intro (fun x => ?_) ?_
          · go_big_quiet_step ((go_at_call 42; with_reducible exact Calls.quietE (CA2.out _))); exact wpQuiet_nil rfl
          refine Dm.wpE_take (i := 2) (listed' := (Dm.bits 13 7)) (by kernel_rfl) (by kernel_rfl) rfl (fun _ _ _ _ h => h) ?_; apply Exists.intro; refine And.intro (fun x => ?_) ?_
          · go_big_quiet_step ((go_at_call 42; with_reducible exact Calls.quietE (CA2.out _))); exact wpQuiet_nil rfl
          refine Dm.wpE_take (i := 3) (listed' := (Dm.bits 13 15)) (by kernel_rfl) (by kernel_rfl) rfl (fun _ _ _ _ h => h) ?_; apply Exists.intro; refine And.intro (fun x => ?_) ?_
          · go_big_quiet_step ((go_at_call 42; with_reducible exact Calls.quietE (CA2.out _))); exact wpQuiet_nil rfl
          refine Dm.wpE_take (i := 4) (listed' := (Dm.bits 13 31)) (by kernel_rfl) (by kernel_rfl) rfl (fun _ _ _ _ h => h) ?_; apply Exists.intro; refine And.intro (fun x => ?_) ?_
          · go_big_quiet_step ((go_at_call 42; with_reducible exact Calls.quietE (CA2.out _))); exact wpQuiet_nil rfl
          refine Dm.wpE_take (i := 5) (listed' := (Dm.bits 13 63)) (by kernel_rfl) (by kernel_rfl) rfl (fun _ _ _ _ h => h) ?_; apply Exists.intro; refine And.intro (fun x => ?_) ?_
          · go_big_quiet_step ((go_at_call 42; with_reducible exact Calls.quietE (CA2.out _))); exact wpQuiet_nil rfl
          refine Dm.wpE_take (i := 6) (listed' := (Dm.bits 13 127)) (by kernel_rfl) (by kernel_rfl) rfl (fun _ _ _ _ h => h) ?_; apply Exists.intro; refine And.intro (fun x => ?_) ?_
          · go_big_quiet_step ((go_at_call 42; with_reducible exact Calls.quietE (CA2.out _))); exact wpQuiet_nil rfl
          refine Dm.wpE_take (i := 7) (listed' := (Dm.bits 13 255)) (by kernel_rfl) (by kernel_rfl) rfl (fun _ _ _ _ h => h) ?_; apply Exists.intro; refine And.intro (fun x => ?_) ?_
          · go_big_quiet_step ((go_at_call 42; with_reducible exact Calls.quietE (CA2.out _))); exact wpQuiet_nil rfl
          refine Dm.wpE_take (i := 8) (listed' := (Dm.bits 13 511)) (by kernel_rfl) (by kernel_rfl) rfl (fun _ _ _ _ h => h) ?_; apply Exists.intro; refine And.intro (fun x => ?_) ?_
          · go_big_quiet_step ((go_at_call 42; with_reducible exact Calls.quietE (CA2.out _))); exact wpQuiet_nil rfl
          refine Dm.wpE_take (i := 9) (listed' := (Dm.bits 13 1023)) (by kernel_rfl) (by kernel_rfl) rfl (fun _ _ _ _ h => h) ?_; apply Exists.intro; refine And.intro (fun x => ?_) ?_
          · go_big_quiet_step ((go_at_call 42; with_reducible exact Calls.quietE (CA2.out _))); exact wpQuiet_nil rfl
          refine Dm.wpE_one (i := 10) (listed' := (Dm.bits 13 2047)) (by kernel_rfl) (by kernel_rfl) rfl (Ext.refl w5) (fun w1a hx1a => ?_)
          have hX1a := Ext.trans (Ext.refl w5) hx1a
          have hz := VBox.new w1a (fun _ => 0) 34
          have hzl := (hX1a).size
          go_wp2_with fail
          have hs1 := (Ext.refl w1a).alloc (.cells #[.int .u64 0, .int .u64 0, .int .u64 0, .int .u64 0] 34)
          have hX1b := Ext.trans hX1a hs1
          change VBox _ _ (w1a.alloc (.cells #[.int .u64 0, .int .u64 0, .int .u64 0, .int .u64 0] 34)) at hz
          generalize w1a.alloc (.cells #[.int .u64 0, .int .u64 0, .int .u64 0, .int .u64 0] 34) = w1b at *
          generalize w1a.heap.size = bhD at *
          try simp only [Exit.then, Act.put]
          refine Dm.wpE_one (i := 11) (listed' := (Dm.bits 13 4095)) (by kernel_rfl) (by kernel_rfl) rfl hX1b (fun w2a hx2a => ?_)
          have hX2a := Ext.trans hX1b hx2a
          replace hz := hz.ext hx2a
          obtain ⟨_, y0, y1, y2, y3, x0, x1, x2, x3⟩ := hz.four
          have hD := hz.put (vG nn)
          have hX2b := Ext.put4 hX2a (b := bhD) (by omega) (vG nn)
          go_wp2_with fail
          clear y0 y1 y2 y3 x0 x1 x2 x3
          unfold Dm.put4 at hD hX2b
          generalize (((w2a.setCell ⟨bhD, 0, none⟩ (.int .u64 (vG nn 0 : Nat))).setCell ⟨bhD, 1, none⟩ (.int .u64 (vG nn 1 : Nat))).setCell ⟨bhD, 2, none⟩ (.int .u64 (vG nn 2 : Nat))).setCell ⟨bhD, 3, none⟩ (.int .u64 (vG nn 3 : Nat)) = w2b at *
          try simp only [Exit.then, Act.put]
          refine Dm.wpE_take (i := 12) (listed' := (Dm.bits 13 8191)) (by kernel_rfl) (by kernel_rfl) rfl (fun _ _ _ _ h => h) ?_; apply Exists.intro; refine And.intro (fun x => ?_) ?_
          · go_big_quiet_step ((go_at_call 42; with_reducible exact Calls.quietE (CA2.out _))); exact wpQuiet_nil rfl
          refine Dm.wpE_done (by kernel_rfl) hX2b (fun w3a hx3a => ?_)
          have hX3a := Ext.trans hX2b hx3a
          replace hD := hD.ext hx3a
          clear zl z0 z1 z2 z3 c0 c1 c2 c3 c4 c5 c6 c7 c8
          have hw6 := hw5.trans hX3a
          have hb6 := (hb.trans h5).trans hX3a
          have hwr7 := h5.trans hX3a
          clear hX3a
          generalize w3a = w6 at *
          go_wp2_with fail
          have hcs := hcs2.out w6 hw6
          have htl6 : tb < w6.heap.size := Nat.lt_of_lt_of_le htbl hw6.size
          have c0 := hcs 0 (by omega)
          have c1 := hcs 1 (by omega)
          have c2 := hcs 2 (by omega)
          have c3 := hcs 3 (by omega)
          have c4 := hcs 4 (by omega)
          have c5 := hcs 5 (by omega)
          have c6 := hcs 6 (by omega)
          have c7 := hcs 7 (by omega)
          have c8 := hcs 8 (by omega)
          simp only [entOne, uAt, List.getElem?_cons_zero, List.getElem?_cons_succ, Nat.add_zero] at c0 c1 c2 c3 c4 c5 c6 c7 c8
          clear hcs
          obtain ⟨zl, z0, z1, z2, z3, _, _, _, _⟩ := hD.four
          have CF3 := CF2.out
          generalize hfb : vfits nn l1 = fb at CF3 HS
          clear hfb
          replace CF3 := Lib.hid CF3
          refine Dm.wp_region_grow (by kernel_rfl) (by kernel_rfl) ?_
          repeat (go_big_quiet_step (first
            | (go_at_call 37; with_reducible exact Calls.quietE (CF3.out _))))
          refine wpQuiet_nil ?_
          intro w7 h7
          clear zl z0 z1 z2 z3 c0 c1 c2 c3 c4 c5 c6 c7 c8
          replace hD := hD.ext h7
          replace hw6 := hw6.trans h7
          replace hb6 := hb6.trans h7
          replace hwr7 := hwr7.trans h7
          clear h7
          cases fb with
          | false =>
            have HS1 : E = (R, 10) := by simpa using HS.out
            replace HS := Lib.hid HS1
            clear HS1
            go_wp2
            go_ret2
            exact ⟨_, by rw [HS.out]; rfl, by rw [HS.out]; exact hx.ext hw6, hw6⟩
          | true =>
            have HS1 : E = ef (l.drop (k + 1)) (out.set j (s1, l1, nn)) := by simpa using HS.out
            replace HS := Lib.hid HS1
            clear HS1
            have ho7 : w7.ownsRow w1.heap.size 42 9 (.slice ao R.length co) R.length (entCellsQ out) := Ext.row ho hwr7
            clear ho
            obtain ⟨hxl, hrow⟩ := ho7
            rcases hrow with ⟨h0, _⟩ | ⟨g, cap', cur, hg0, hBg, hg, hnc, hcm, hcsz, htk⟩
            · simp only [Value.slice.injEq] at h0; omega
            · simp only [Value.slice.injEq, true_and] at hg0
              obtain ⟨rfl, rfl⟩ := hg0
              have hg6 : w7.heap[g]? = some (.cells cur.toList.toArray 42 (0, 0)) := by rw [Array.toArray_toList]; exact hg
              have hgl : Hid (g < w2.heap.size) := hao.out g rfl
              have HCL : Hid (cur.toList.length = co * 9) := by show _ = _; rw [Array.length_toList, hcsz]
              have hol : out.length = R.length := HT.out.1
              have hfit : j * 9 + 5 + ([uAt nn 0, uAt nn 1, uAt nn 2, uAt nn 3] : List Value).length ≤ cur.toList.length := by rw [HCL.out]; show j * 9 + 5 + 4 ≤ _; omega
              have hone : ∀ u ∈ ([uAt nn 0, uAt nn 1, uAt nn 2, uAt nn 3] : List Value), u.oneCell' = true := fun u hu => by
                simp only [List.mem_cons, List.not_mem_nil, or_false] at hu
                rcases hu with rfl | rfl | rfl | rfl <;> rfl
              replace htk := Lib.hid htk
              replace hxl := Lib.hid hxl
              replace hcsz := Lib.hid hcsz
              replace hfit := Lib.hid hfit
              obtain ⟨zl, z0, z1, z2, z3, _, _, _, _⟩ := hD.four
              go_wp2_with (refine wpList_store_at rfl _ _ _ rfl (g := g) (off := j * 9 + 5) (cells := [uAt nn 0, uAt nn 1, uAt nn 2, uAt nn 3]) rfl rfl rfl (by kernel_rfl) hg6 hfit.out hone ?_; intro w8 hg8 hgr8)
              go_roundw
              case rel =>
                refine ⟨k + 1, out.set j (s1, l1, nn), by omega, by go_num, Dm.row_far (Ext.row hsr hwr7) hgr8 hgl.out, Ext.putQ hb6 hgr8 hBg, ⟨by rw [entCellsQ_len, List.length_set, hol], Or.inr ⟨g, co, _, rfl, hBg, hg8, hnc, hcm, ?_, ?_⟩⟩, hso.out, HS.out⟩
                · rw [List.size_toArray, length_splice _ _ _ hfit.out]; exact HCL.out
                · show (splice cur.toList (j * 9 + 5) [uAt nn 0, uAt nn 1, uAt nn 2, uAt nn 3]).take (R.length * 9) = _
                  rw [take_splice _ _ (by show j * 9 + 5 + 4 ≤ _; omega) (by rw [HCL.out]; omega), htk.out, entCellsQ_used (by omega), hto.out.1, hto.out.2]
              case measure => simp [intOf]; omega
      · obtain rfl : k = l.length := by omega
        have hE' : Hid (E = (out, 0)) := by
          show _ = _
          rw [HE.out, List.drop_length, hst0.out]
        have hol : out.length = R.length := HT.out.1
        go_wp2
        go_ret2
        exact ⟨_, by rw [hE'.out]; rfl, by rw [hE'.out]; exact Tree.of_row ho hol.symm, hbw⟩
  · rw [if_neg hT] at hth
    have hnz : ((T : Int) != 0) = true := by rw [bne_iff_ne]; omega
    clear hpl hst hst0 hff
    replace hth := Lib.hid hth
    go_enter Tryz.func10, Tryz.ntmps10
    go_wp2_with fail
    refine CT.out.mono ?_; rintro e w1 ⟨rfl, h1⟩
    go_wp2
    go_ret2
    exact ⟨_, by rw [hth.out]; rfl, by rw [hth.out]; exact hx.ext (hE.trans h1), hE.trans h1⟩
set_option maxHeartbeats 8000000 in
set_option maxRecDepth 100000 in
theorem dRefund_w (R : List EntQ) (va : Value) (p : ByteArray) (v : Vc) (hv : OkV v) (w : World) (hm : R.length ≤ 1099511627776) (hR : FitT R) (hx : Tree w va R) (hp : p.size ≤ 1048576) :
    Calls Tryz.prog 12 #[va, .string p, vVal v] w fun e w' => ∃ v', e = .returned (.tuple #[v', .int .i64 ((eachT R p (rfdE v)).2 : Nat)]) ∧ Tree w' v' (eachT R p (rfdE v)).1 ∧ Ext w w' := by
  obtain ⟨q, cap, rfl, _, _⟩ := hx.shape
  have hE : Ext w (w.alloc (.cells #[.int .u64 (vG v 0 : Nat), .int .u64 (vG v 1 : Nat), .int .u64 (vG v 2 : Nat), .int .u64 (vG v 3 : Nat)] 34)) := (Ext.refl _).alloc _
  have hV : VBox w.heap.size (vG v) (w.alloc (.cells #[.int .u64 (vG v 0 : Nat), .int .u64 (vG v 1 : Nat), .int .u64 (vG v 2 : Nat), .int .u64 (vG v 3 : Nat)] 34)) := VBox.new w (vG v) 34
  generalize hW0 : w.alloc (.cells #[.int .u64 (vG v 0 : Nat), .int .u64 (vG v 1 : Nat), .int .u64 (vG v 2 : Nat), .int .u64 (vG v 3 : Nat)] 34) = W at *
  have CT := dthere_w R p _ W hm (hx.ext hE) hp
  have CU := fun U => daboveO_w p U hp
  have CF := fun (s : ByteArray) U (h : Ext w U) => dfind_w R s _ U hm (hx.ext h)
  have CA := fun (s : Vc) (hs : OkV s) U => r03sub_w s v hs hv U
  have CFt := fun (s l : Vc) U => r03fits_w s l U
  have hth := eachT_th R p (rfdE v)
  have hpl := thT_there (t := R) (p := p)
  have hl4 : (abvB p).length ≤ 4 := by have := upsB_len p; simp [abvB]; omega
  have hst := fun (k : Nat) (hk : k < (abvB p).length) out => eachF_step (t := R) (f := rfdE v) hk out
  have hst0 := fun out => show eachF R (rfdE v) [] out = (out, 0) from rfl
  have hff : ∀ (s : ByteArray) (l u : Vc), rfdE v (s, l, u) = if vfits v u = false then ((s, l, u), 15) else ((s, l, vsub u v), 0) := fun _ _ _ => rfl
  generalize eachT R p (rfdE v) = E at *
  generalize eachF R (rfdE v) = ef at *
  generalize rfdE v = f at *
  generalize thT R p = T at *
  generalize abvB p = l at *
  unfold vVal vF at *
  replace CU := Lib.hid CU
  replace CT := Lib.hid CT
  replace CF := Lib.hid CF
  replace CA := Lib.hid CA
  replace CFt := Lib.hid CFt
  replace hst := Lib.hid hst
  replace hst0 := Lib.hid hst0
  replace hff := Lib.hid hff
  replace hpl := Lib.hid hpl
  by_cases hT : T = 0
  · rw [if_pos hT] at hth
    have hpl2 := Lib.hid (hpl.out hT)
    subst hT
    clear hpl
    replace hth := Lib.hid hth
    have hx1 := hx.ext hE
    go_enter Tryz.func12, Tryz.ntmps12
    go_wp2_with fail
    refine CT.out.mono ?_; rintro e w1 ⟨rfl, h1⟩
    go_wp2_with (at_builtin; go_must (refine wpList_appE (n := 0) (m := R.length) rfl _ _ Tryz.slEntR rfl (Ext.refl _) rfl (World.ownsRow_nil _ _ _ _) rfl (hx1.ext h1) (entCellsQ_one R) (by omega) ?_; intro vo w2 ho h2 _; refine Hid.out ?_))
    have hol := ho
    rw [Nat.zero_add, List.nil_append] at ho
    clear hol
    obtain ⟨ao, co, rfl⟩ : ∃ a c, vo = .slice a R.length c := by
      obtain ⟨a, c, e, _⟩ := (Sl.of_owns ho).shape
      exact ⟨a, c, e⟩
    refine Lib.hid ?_
    go_wp2_with fail
    refine (CU.out w2).mono ?_; rintro e w3 ⟨vl, rfl, hs, h3⟩
    have hao : ∀ g, ao = some ⟨g, 0, none⟩ → g < w2.heap.size := fun g e => by
      rcases ho.2 with ⟨h0, _⟩ | ⟨g', _, _, h0, _, hg, _⟩
      · simp only [Value.slice.injEq] at h0; rw [h0.1] at e; cases e
      · simp only [Value.slice.injEq] at h0
        rw [h0.1] at e
        injection e with e; injection e with e
        subst e
        exact (Array.getElem?_eq_some_iff.1 hg).1
    replace hao := Lib.hid hao
    replace ho := Ext.row ho h3
    replace h3 := h2.trans h3
    have hb1 : Ext W w1 := h1
    clear h2 h1
    obtain ⟨pl, lc, rfl, _, _⟩ := (Strs.of_row hs rfl).shape
    go_wp2
    go_loopw [11, 12, 13, 14] (fun i _ _ _ wr => ∃ (k : Nat) (out : List EntQ), k ≤ l.length ∧ i = .int .i64 k ∧ wr.ownsRow w2.heap.size 9 1 (.slice pl l.length lc) l.length (l.map .string) ∧ Ext w1 wr ∧ wr.ownsRow w1.heap.size 42 9 (.slice ao R.length co) R.length (entCellsQ out) ∧ Hid (SameTop R out) ∧ Hid (E = ef (l.drop k) out)) (fun i _ _ _ _ => l.length - (intOf i).toNat)
    case atStart => exact ⟨0, R, by omega, rfl, hs, h3, ho, SameTop.refl R, hth.out⟩
    case round =>
      obtain ⟨k, out, hk, rfl, hsr, hb, ho, HT, HE⟩ := hrel
      have hbW := hb1.trans hb
      have hbw := hE.trans hbW
      by_cases hlt : k < l.length
      · obtain ⟨lb, lo, hple, hlbl, c0⟩ := (Strs.of_row hsr rfl).at hlt
        subst hple
        have hj := hpl2.out k hlt
        have CP := CF.out (strAt l k) wr hbw
        rw [plI_of hj] at CP
        have HS := HE.out
        rw [hst.out k hlt] at HS
        generalize strAt l k = s at *
        generalize plN R s = j at *
        obtain ⟨tb, tof, hqe, htbl, hcs⟩ := hx.at hj
        subst hqe
        have hok := (hR.at hj).2
        obtain ⟨⟨s1, l1, u1⟩, hr⟩ : ∃ r, eAt R j = r := ⟨_, rfl⟩
        have hto := HT.out.2 j hj
        have hso := (HT.out.set (n := vsub u1 v) hr)
        rw [hr] at hcs HS hok hto
        rw [hff.out] at HS
        clear hr
        simp only at hok hto HS
        have hcs2 : ∀ U, Ext w U → ∀ j', j' < 9 → U.cell? ⟨tb, tof + j * 9 + j', none⟩ = (entOne (s1, l1, u1))[j']? := fun U hU j' hj' => by rw [hU.cell (by exact htbl)]; exact hcs j' hj'
        clear hcs
        have CA2 := CA.out u1 hok.2
        have CF2 := CFt.out (vsub u1 v) l1
        replace hcs2 := Lib.hid hcs2
        replace CP := Lib.hid CP
        replace HS := Lib.hid HS
        replace CF2 := Lib.hid CF2
        replace hto := Lib.hid hto
        replace hso := Lib.hid hso
        go_wp2_with fail
        refine CP.out.mono ?_; rintro e w5 ⟨rfl, h5⟩
        clear CP c0
        have hw5 := hbw.trans h5
        have htl5 : tb < w5.heap.size := Nat.lt_of_lt_of_le htbl hw5.size
        have hcs := hcs2.out w5 hw5
        have c0 := hcs 0 (by omega)
        have c1 := hcs 1 (by omega)
        have c2 := hcs 2 (by omega)
        have c3 := hcs 3 (by omega)
        have c4 := hcs 4 (by omega)
        have c5 := hcs 5 (by omega)
        have c6 := hcs 6 (by omega)
        have c7 := hcs 7 (by omega)
        have c8 := hcs 8 (by omega)
        simp only [entOne, uAt, List.getElem?_cons_zero, List.getElem?_cons_succ, Nat.add_zero] at c0 c1 c2 c3 c4 c5 c6 c7 c8
        clear hcs
        have hV5 := hV.ext (hbW.trans h5)
        obtain ⟨zl, z0, z1, z2, z3, _, _, _, _⟩ := hV5.four
        cases hd : vfits v u1 with
        | false =>
          rw [hd] at CA2
          have HS1 : E = (R, 15) := by have h := HS.out; simpa [hd] using h
          replace HS := Lib.hid HS1
          clear HS1 HE
          generalize vG (vOr false (vsub u1 v)) = N at CA2
          replace CA2 := Lib.hid CA2
          go_wp2_with fail
          try simp only [Act.put, List.setIfInBounds_toArray, List.set_cons_succ, List.set_cons_zero]
          refine Dm.wp_region_ext 13 (Dm.bits 13 0) (Ext.refl w5) (by kernel_rfl) (by kernel_rfl) (by kernel_rfl) ?_
          refine Dm.wpE_take (i := 0) (listed' := (Dm.bits 13 1)) (by kernel_rfl) (by kernel_rfl) rfl (fun _ _ _ _ h => h) ?_; apply Exists.intro; refine And.intro (fun x => ?_) ?_
          · go_big_quiet_step ((go_at_call 44; with_reducible exact Calls.quietE (CA2.out _))); exact wpQuiet_nil rfl
          refine Dm.wpE_take (i := 1) (listed' := (Dm.bits 13 3)) (by kernel_rfl) (by kernel_rfl) rfl (fun _ _ _ _ h => h) ?_; apply Exists.intro; refine And.intro (fun x => ?_) ?_
          · go_big_quiet_step ((go_at_call 44; with_reducible exact Calls.quietE (CA2.out _))); exact wpQuiet_nil rfl
          refine Dm.wpE_take (i := 2) (listed' := (Dm.bits 13 7)) (by kernel_rfl) (by kernel_rfl) rfl (fun _ _ _ _ h => h) ?_; apply Exists.intro; refine And.intro (fun x => ?_) ?_
          · go_big_quiet_step ((go_at_call 44; with_reducible exact Calls.quietE (CA2.out _))); exact wpQuiet_nil rfl
          refine Dm.wpE_take (i := 3) (listed' := (Dm.bits 13 15)) (by kernel_rfl) (by kernel_rfl) rfl (fun _ _ _ _ h => h) ?_; apply Exists.intro; refine And.intro (fun x => ?_) ?_
          · go_big_quiet_step ((go_at_call 44; with_reducible exact Calls.quietE (CA2.out _))); exact wpQuiet_nil rfl
          refine Dm.wpE_take (i := 4) (listed' := (Dm.bits 13 31)) (by kernel_rfl) (by kernel_rfl) rfl (fun _ _ _ _ h => h) ?_; apply Exists.intro; refine And.intro (fun x => ?_) ?_
          · go_big_quiet_step ((go_at_call 44; with_reducible exact Calls.quietE (CA2.out _))); exact wpQuiet_nil rfl
          refine Dm.wpE_take (i := 5) (listed' := (Dm.bits 13 63)) (by kernel_rfl) (by kernel_rfl) rfl (fun _ _ _ _ h => h) ?_; apply Exists.intro; refine And.intro (fun x => ?_) ?_
          · go_big_quiet_step ((go_at_call 44; with_reducible exact Calls.quietE (CA2.out _))); exact wpQuiet_nil rfl
          refine Dm.wpE_take (i := 6) (listed' := (Dm.bits 13 127)) (by kernel_rfl) (by kernel_rfl) rfl (fun _ _ _ _ h => h) ?_; apply Exists.intro; refine And.intro (fun x => ?_) ?_
          · go_big_quiet_step ((go_at_call 44; with_reducible exact Calls.quietE (CA2.out _))); exact wpQuiet_nil rfl
          refine Dm.wpE_take (i := 7) (listed' := (Dm.bits 13 255)) (by kernel_rfl) (by kernel_rfl) rfl (fun _ _ _ _ h => h) ?_; apply Exists.intro; refine And.intro (fun x => ?_) ?_
          · go_big_quiet_step ((go_at_call 44; with_reducible exact Calls.quietE (CA2.out _))); exact wpQuiet_nil rfl
          refine Dm.wpE_take (i := 8) (listed' := (Dm.bits 13 511)) (by kernel_rfl) (by kernel_rfl) rfl (fun _ _ _ _ h => h) ?_; apply Exists.intro; refine And.intro (fun x => ?_) ?_
          · go_big_quiet_step ((go_at_call 44; with_reducible exact Calls.quietE (CA2.out _))); exact wpQuiet_nil rfl
          refine Dm.wpE_take (i := 9) (listed' := (Dm.bits 13 1023)) (by kernel_rfl) (by kernel_rfl) rfl (fun _ _ _ _ h => h) ?_; apply Exists.intro; refine And.intro (fun x => ?_) ?_
          · go_big_quiet_step ((go_at_call 44; with_reducible exact Calls.quietE (CA2.out _))); exact wpQuiet_nil rfl
          refine Dm.wpE_one (i := 10) (listed' := (Dm.bits 13 2047)) (by kernel_rfl) (by kernel_rfl) rfl (Ext.refl w5) (fun w1a hx1a => ?_)
          have hX1a := Ext.trans (Ext.refl w5) hx1a
          have hz := VBox.new w1a (fun _ => 0) 34
          have hzl := (hX1a).size
          go_wp2_with fail
          have hs1 := (Ext.refl w1a).alloc (.cells #[.int .u64 0, .int .u64 0, .int .u64 0, .int .u64 0] 34)
          have hX1b := Ext.trans hX1a hs1
          change VBox _ _ (w1a.alloc (.cells #[.int .u64 0, .int .u64 0, .int .u64 0, .int .u64 0] 34)) at hz
          generalize w1a.alloc (.cells #[.int .u64 0, .int .u64 0, .int .u64 0, .int .u64 0] 34) = w1b at *
          generalize w1a.heap.size = bhD at *
          try simp only [Exit.then, Act.put]
          refine Dm.wpE_one (i := 11) (listed' := (Dm.bits 13 4095)) (by kernel_rfl) (by kernel_rfl) rfl hX1b (fun w2a hx2a => ?_)
          have hX2a := Ext.trans hX1b hx2a
          replace hz := hz.ext hx2a
          obtain ⟨_, y0, y1, y2, y3, x0, x1, x2, x3⟩ := hz.four
          have hD := hz.put (N)
          have hX2b := Ext.put4 hX2a (b := bhD) (by omega) (N)
          go_wp2_with fail
          clear y0 y1 y2 y3 x0 x1 x2 x3
          unfold Dm.put4 at hD hX2b
          generalize (((w2a.setCell ⟨bhD, 0, none⟩ (.int .u64 (N 0 : Nat))).setCell ⟨bhD, 1, none⟩ (.int .u64 (N 1 : Nat))).setCell ⟨bhD, 2, none⟩ (.int .u64 (N 2 : Nat))).setCell ⟨bhD, 3, none⟩ (.int .u64 (N 3 : Nat)) = w2b at *
          try simp only [Exit.then, Act.put]
          refine Dm.wpE_take (i := 12) (listed' := (Dm.bits 13 8191)) (by kernel_rfl) (by kernel_rfl) rfl (fun _ _ _ _ h => h) ?_; apply Exists.intro; refine And.intro (fun x => ?_) ?_
          · go_big_quiet_step ((go_at_call 44; with_reducible exact Calls.quietE (CA2.out _))); exact wpQuiet_nil rfl
          refine Dm.wpE_done (by kernel_rfl) hX2b (fun w3a hx3a => ?_)
          have hX3a := Ext.trans hX2b hx3a
          replace hD := hD.ext hx3a
          clear zl z0 z1 z2 z3 c0 c1 c2 c3 c4 c5 c6 c7 c8
          have hw6 := hw5.trans hX3a
          have hb6 := (hb.trans h5).trans hX3a
          have hwr7 := h5.trans hX3a
          clear hX3a
          generalize w3a = w6 at *
          go_wp2
          go_ret2
          exact ⟨_, by rw [HS.out]; rfl, by rw [HS.out]; exact hx.ext hw6, hw6⟩
        | true =>
          rw [hd, show vOr true (vsub u1 v) = vsub u1 v from rfl] at CA2
          have HS1 := HS.out
          simp only [hd, Bool.true_eq_false, if_false] at HS1
          replace HS := Lib.hid HS1
          clear HS1 HE
          generalize vsub u1 v = nn at *
          replace CA2 := Lib.hid CA2
          go_wp2_with fail
          try simp only [Act.put, List.setIfInBounds_toArray, List.set_cons_succ, List.set_cons_zero]
          refine Dm.wp_region_ext 13 (Dm.bits 13 0) (Ext.refl w5) (by kernel_rfl) (by kernel_rfl) (by kernel_rfl) ?_
          refine Dm.wpE_take (i := 0) (listed' := (Dm.bits 13 1)) (by kernel_rfl) (by kernel_rfl) rfl (fun _ _ _ _ h => h) ?_; apply Exists.intro; refine And.intro (fun x => ?_) ?_
          · go_big_quiet_step ((go_at_call 44; with_reducible exact Calls.quietE (CA2.out _))); exact wpQuiet_nil rfl
          refine Dm.wpE_take (i := 1) (listed' := (Dm.bits 13 3)) (by kernel_rfl) (by kernel_rfl) rfl (fun _ _ _ _ h => h) ?_; apply Exists.intro; refine And.intro (fun x => ?_) ?_
          · go_big_quiet_step ((go_at_call 44; with_reducible exact Calls.quietE (CA2.out _))); exact wpQuiet_nil rfl
          refine Dm.wpE_take (i := 2) (listed' := (Dm.bits 13 7)) (by kernel_rfl) (by kernel_rfl) rfl (fun _ _ _ _ h => h) ?_; apply Exists.intro; refine And.intro (fun x => ?_) ?_
          · go_big_quiet_step ((go_at_call 44; with_reducible exact Calls.quietE (CA2.out _))); exact wpQuiet_nil rfl
          refine Dm.wpE_take (i := 3) (listed' := (Dm.bits 13 15)) (by kernel_rfl) (by kernel_rfl) rfl (fun _ _ _ _ h => h) ?_; apply Exists.intro; refine And.intro (fun x => ?_) ?_
          · go_big_quiet_step ((go_at_call 44; with_reducible exact Calls.quietE (CA2.out _))); exact wpQuiet_nil rfl
          refine Dm.wpE_take (i := 4) (listed' := (Dm.bits 13 31)) (by kernel_rfl) (by kernel_rfl) rfl (fun _ _ _ _ h => h) ?_; apply Exists.intro; refine And.intro (fun x => ?_) ?_
          · go_big_quiet_step ((go_at_call 44; with_reducible exact Calls.quietE (CA2.out _))); exact wpQuiet_nil rfl
          refine Dm.wpE_take (i := 5) (listed' := (Dm.bits 13 63)) (by kernel_rfl) (by kernel_rfl) rfl (fun _ _ _ _ h => h) ?_; apply Exists.intro; refine And.intro (fun x => ?_) ?_
          · go_big_quiet_step ((go_at_call 44; with_reducible exact Calls.quietE (CA2.out _))); exact wpQuiet_nil rfl
          refine Dm.wpE_take (i := 6) (listed' := (Dm.bits 13 127)) (by kernel_rfl) (by kernel_rfl) rfl (fun _ _ _ _ h => h) ?_; apply Exists.intro; refine And.intro (fun x => ?_) ?_
          · go_big_quiet_step ((go_at_call 44; with_reducible exact Calls.quietE (CA2.out _))); exact wpQuiet_nil rfl
          refine Dm.wpE_take (i := 7) (listed' := (Dm.bits 13 255)) (by kernel_rfl) (by kernel_rfl) rfl (fun _ _ _ _ h => h) ?_; apply Exists.intro; refine And.intro (fun x => ?_) ?_
          · go_big_quiet_step ((go_at_call 44; with_reducible exact Calls.quietE (CA2.out _))); exact wpQuiet_nil rfl
          refine Dm.wpE_take (i := 8) (listed' := (Dm.bits 13 511)) (by kernel_rfl) (by kernel_rfl) rfl (fun _ _ _ _ h => h) ?_; apply Exists.intro; refine And.intro (fun x => ?_) ?_
          · go_big_quiet_step ((go_at_call 44; with_reducible exact Calls.quietE (CA2.out _))); exact wpQuiet_nil rfl
          refine Dm.wpE_take (i := 9) (listed' := (Dm.bits 13 1023)) (by kernel_rfl) (by kernel_rfl) rfl (fun _ _ _ _ h => h) ?_; apply Exists.intro; refine And.intro (fun x => ?_) ?_
          · go_big_quiet_step ((go_at_call 44; with_reducible exact Calls.quietE (CA2.out _))); exact wpQuiet_nil rfl
          refine Dm.wpE_one (i := 10) (listed' := (Dm.bits 13 2047)) (by kernel_rfl) (by kernel_rfl) rfl (Ext.refl w5) (fun w1a hx1a => ?_)
          have hX1a := Ext.trans (Ext.refl w5) hx1a
          have hz := VBox.new w1a (fun _ => 0) 34
          have hzl := (hX1a).size
          go_wp2_with fail
          have hs1 := (Ext.refl w1a).alloc (.cells #[.int .u64 0, .int .u64 0, .int .u64 0, .int .u64 0] 34)
          have hX1b := Ext.trans hX1a hs1
          change VBox _ _ (w1a.alloc (.cells #[.int .u64 0, .int .u64 0, .int .u64 0, .int .u64 0] 34)) at hz
          generalize w1a.alloc (.cells #[.int .u64 0, .int .u64 0, .int .u64 0, .int .u64 0] 34) = w1b at *
          generalize w1a.heap.size = bhD at *
          try simp only [Exit.then, Act.put]
          refine Dm.wpE_one (i := 11) (listed' := (Dm.bits 13 4095)) (by kernel_rfl) (by kernel_rfl) rfl hX1b (fun w2a hx2a => ?_)
          have hX2a := Ext.trans hX1b hx2a
          replace hz := hz.ext hx2a
          obtain ⟨_, y0, y1, y2, y3, x0, x1, x2, x3⟩ := hz.four
          have hD := hz.put (vG nn)
          have hX2b := Ext.put4 hX2a (b := bhD) (by omega) (vG nn)
          go_wp2_with fail
          clear y0 y1 y2 y3 x0 x1 x2 x3
          unfold Dm.put4 at hD hX2b
          generalize (((w2a.setCell ⟨bhD, 0, none⟩ (.int .u64 (vG nn 0 : Nat))).setCell ⟨bhD, 1, none⟩ (.int .u64 (vG nn 1 : Nat))).setCell ⟨bhD, 2, none⟩ (.int .u64 (vG nn 2 : Nat))).setCell ⟨bhD, 3, none⟩ (.int .u64 (vG nn 3 : Nat)) = w2b at *
          try simp only [Exit.then, Act.put]
          refine Dm.wpE_take (i := 12) (listed' := (Dm.bits 13 8191)) (by kernel_rfl) (by kernel_rfl) rfl (fun _ _ _ _ h => h) ?_; apply Exists.intro; refine And.intro (fun x => ?_) ?_
          · go_big_quiet_step ((go_at_call 44; with_reducible exact Calls.quietE (CA2.out _))); exact wpQuiet_nil rfl
          refine Dm.wpE_done (by kernel_rfl) hX2b (fun w3a hx3a => ?_)
          have hX3a := Ext.trans hX2b hx3a
          replace hD := hD.ext hx3a
          clear zl z0 z1 z2 z3 c0 c1 c2 c3 c4 c5 c6 c7 c8
          have hw6 := hw5.trans hX3a
          have hb6 := (hb.trans h5).trans hX3a
          have hwr7 := h5.trans hX3a
          clear hX3a
          generalize w3a = w6 at *
          have HS1 : E = ef (l.drop (k + 1)) (out.set j (s1, l1, nn)) := by simpa using HS.out
          replace HS := Lib.hid HS1
          clear HS1
          have ho7 : w6.ownsRow w1.heap.size 42 9 (.slice ao R.length co) R.length (entCellsQ out) := Ext.row ho hwr7
          clear ho
          obtain ⟨hxl, hrow⟩ := ho7
          rcases hrow with ⟨h0, _⟩ | ⟨g, cap', cur, hg0, hBg, hg, hnc, hcm, hcsz, htk⟩
          · simp only [Value.slice.injEq] at h0; omega
          · simp only [Value.slice.injEq, true_and] at hg0
            obtain ⟨rfl, rfl⟩ := hg0
            have hg6 : w6.heap[g]? = some (.cells cur.toList.toArray 42 (0, 0)) := by rw [Array.toArray_toList]; exact hg
            have hgl : Hid (g < w2.heap.size) := hao.out g rfl
            have HCL : Hid (cur.toList.length = co * 9) := by show _ = _; rw [Array.length_toList, hcsz]
            have hol : out.length = R.length := HT.out.1
            have hfit : j * 9 + 5 + ([uAt nn 0, uAt nn 1, uAt nn 2, uAt nn 3] : List Value).length ≤ cur.toList.length := by rw [HCL.out]; show j * 9 + 5 + 4 ≤ _; omega
            have hone : ∀ u ∈ ([uAt nn 0, uAt nn 1, uAt nn 2, uAt nn 3] : List Value), u.oneCell' = true := fun u hu => by
              simp only [List.mem_cons, List.not_mem_nil, or_false] at hu
              rcases hu with rfl | rfl | rfl | rfl <;> rfl
            replace htk := Lib.hid htk
            replace hxl := Lib.hid hxl
            replace hcsz := Lib.hid hcsz
            replace hfit := Lib.hid hfit
            obtain ⟨zl, z0, z1, z2, z3, _, _, _, _⟩ := hD.four
            go_wp2_with (refine wpList_store_at rfl _ _ _ rfl (g := g) (off := j * 9 + 5) (cells := [uAt nn 0, uAt nn 1, uAt nn 2, uAt nn 3]) rfl rfl rfl (by kernel_rfl) hg6 hfit.out hone ?_; intro w8 hg8 hgr8)
            go_roundw
            case rel =>
              refine ⟨k + 1, out.set j (s1, l1, nn), by omega, by go_num, Dm.row_far (Ext.row hsr hwr7) hgr8 hgl.out, Ext.putQ hb6 hgr8 hBg, ⟨by rw [entCellsQ_len, List.length_set, hol], Or.inr ⟨g, co, _, rfl, hBg, hg8, hnc, hcm, ?_, ?_⟩⟩, hso.out, HS.out⟩
              · rw [List.size_toArray, length_splice _ _ _ hfit.out]; exact HCL.out
              · show (splice cur.toList (j * 9 + 5) [uAt nn 0, uAt nn 1, uAt nn 2, uAt nn 3]).take (R.length * 9) = _
                rw [take_splice _ _ (by show j * 9 + 5 + 4 ≤ _; omega) (by rw [HCL.out]; omega), htk.out, entCellsQ_used (by omega), hto.out.1, hto.out.2]
            case measure => simp [intOf]; omega
      · obtain rfl : k = l.length := by omega
        have hE' : Hid (E = (out, 0)) := by
          show _ = _
          rw [HE.out, List.drop_length, hst0.out]
        have hol : out.length = R.length := HT.out.1
        go_wp2
        go_ret2
        exact ⟨_, by rw [hE'.out]; rfl, by rw [hE'.out]; exact Tree.of_row ho hol.symm, hbw⟩
  · rw [if_neg hT] at hth
    have hnz : ((T : Int) != 0) = true := by rw [bne_iff_ne]; omega
    clear hpl hst hst0 hff
    replace hth := Lib.hid hth
    go_enter Tryz.func12, Tryz.ntmps12
    go_wp2_with fail
    refine CT.out.mono ?_; rintro e w1 ⟨rfl, h1⟩
    go_wp2
    go_ret2
    exact ⟨_, by rw [hth.out]; rfl, by rw [hth.out]; exact hx.ext (hE.trans h1), hE.trans h1⟩
end Go.Proofs.YtopnllbfhhjobaaGreatDoor
