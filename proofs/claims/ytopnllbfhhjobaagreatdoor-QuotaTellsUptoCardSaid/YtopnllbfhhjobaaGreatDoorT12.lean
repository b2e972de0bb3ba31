/- Texts one behind the other: Chapter 10: the walks of New, Could; Chapter 10: the walk of holds; Chapter 10: the walk of Right. -/
import Derived.Test.YtopnllbfhhjobaaGreatDoorT10
import Derived.Test.YtopnllbfhhjobaaGreatDoorT11
namespace Go.Dm
open Go Go.RowKit
theorem freeT_len (R : List EntQ) : (freeT R).length = R.length := List.length_map _
theorem fitT_free {R : List EntQ} (h : FitT R) : FitT (freeT R) := by
  refine ⟨fun r hr => ?_, fun r hr => ?_, fun r hr => ?_⟩ <;> obtain ⟨x, hx, rfl⟩ := List.mem_map.1 hr
  · exact h.path x hx
  · exact h.lim x hx
  · exact okV_no
/-- The first k entries have nothing that is used. -/
def zerT (R : List EntQ) (k : Nat) : List EntQ := freeT (R.take k) ++ R.drop k
theorem zerT_len (R : List EntQ) (k : Nat) : (zerT R k).length = R.length := by
  unfold zerT
  rw [List.length_append, freeT_len, List.length_take, List.length_drop]; omega
theorem zerT_all (R : List EntQ) : zerT R R.length = freeT R := by
  unfold zerT
  rw [List.take_length, List.drop_length, List.append_nil]
theorem use_cells (A B : List Value) (r : EntQ) : splice (A ++ (entOne r ++ B)) (A.length + 5) [.int .u64 0, .int .u64 0, .int .u64 0, .int .u64 0] = A ++ (entOne (r.1, r.2.1, noV) ++ B) := by
  unfold splice
  rw [show A.length + 5 + ([.int .u64 0, .int .u64 0, .int .u64 0, .int .u64 0] : List Value).length = A.length + 9 from rfl, List.take_length_add_append, List.drop_length_add_append]
  simp [entOne, uAt, noV, vG]
theorem entCellsQ_zer {R : List EntQ} {k : Nat} (hk : k < R.length) : splice (entCellsQ (zerT R k)) (k * 9 + 5) [.int .u64 0, .int .u64 0, .int .u64 0, .int .u64 0] = entCellsQ (zerT R (k + 1)) := by
  have hl : (entCellsQ (freeT (R.take k))).length = k * 9 := by rw [entCellsQ_len, freeT_len, List.length_take, Nat.min_eq_left (by omega)]
  have h1 : entCellsQ (zerT R k) = entCellsQ (freeT (R.take k)) ++ (entOne (eAt R k) ++ entCellsQ (R.drop (k + 1))) := by
    unfold zerT
    rw [entCellsQ_app, List.drop_eq_getElem_cons hk, ← eAt_eq hk]
    rfl
  rw [h1, ← hl, use_cells]
  unfold zerT
  rw [List.take_add_one, List.getElem?_eq_getElem hk, ← eAt_eq hk]
  unfold freeT
  rw [List.map_append, entCellsQ_app, entCellsQ_app, List.append_assoc]
  simp [entCellsQ]
end Go.Dm
namespace Go.Proofs.YtopnllbfhhjobaaGreatDoor
open Go.RowKit Go.Dm
set_option maxHeartbeats 1000000 in
theorem qnew_w (lim : Vc) (w : World) :
    Calls Tryz.prog 24 #[vVal lim] w fun e w' => ∃ v, e = .returned v ∧ Tree w' v [(⟨#[]⟩, lim, noV)] ∧ Ext w w' := by
  have hfin : ∀ U : World, Tree (U.alloc (.cells #[.string ⟨#[]⟩, .int .u64 (vG lim 0 : Nat), .int .u64 (vG lim 1 : Nat), .int .u64 (vG lim 2 : Nat), .int .u64 (vG lim 3 : Nat), .int .u64 0, .int .u64 0, .int .u64 0, .int .u64 0] 38)) (.slice (some ⟨U.heap.size, 0, none⟩) 1 1) [(⟨#[]⟩, lim, noV)] := fun U => by
    refine Tree.of_row (B := U.heap.size) (e := 38) (n := 1) ⟨by rw [entCellsQ_len]; rfl, Or.inr ⟨_, 1, _, rfl, Nat.le_refl _, heap_alloc_new U _, by omega, by simp [maxLen], rfl, rfl⟩⟩ rfl
  unfold vVal vF
  replace hfin := Lib.hid hfin
  obtain ⟨_, a0, a1, a2, a3, _, _, _, _⟩ := (VBox.new w (vG lim) 25).four
  have hE : Ext w (w.alloc (.cells #[.int .u64 (vG lim 0 : Nat), .int .u64 (vG lim 1 : Nat), .int .u64 (vG lim 2 : Nat), .int .u64 (vG lim 3 : Nat)] 25)) := (Ext.refl _).alloc _
  go_enter Tryz.func24, Tryz.ntmps24
  go_wp2
  go_ret
  refine ⟨_, rfl, ?_, hE.alloc _⟩
  have h := hfin.out (w.alloc (.cells #[.int .u64 (vG lim 0 : Nat), .int .u64 (vG lim 1 : Nat), .int .u64 (vG lim 2 : Nat), .int .u64 (vG lim 3 : Nat)] 25))
  rw [World.size_alloc] at h
  exact h

set_option maxHeartbeats 4000000 in
set_option maxRecDepth 100000 in
theorem qcould_w (R : List EntQ) (va : Value) (p : ByteArray) (v : Vc) (hv : OkV v) (w : World) (hm : R.length ≤ 1099511627776) (hR : FitT R) (hx : Tree w va R) (hp : p.size < 4294967281) (ht : Vars w) :
    Calls Tryz.prog 18 #[va, .string p, vVal v] w fun e w' => e = .returned (.bool (couldT R p v)) ∧ Ext w w' := by
  obtain ⟨q, cap, rfl, _, _⟩ := hx.shape
  have hE : Ext w (w.alloc (.cells #[.int .u64 (vG v 0 : Nat), .int .u64 (vG v 1 : Nat), .int .u64 (vG v 2 : Nat), .int .u64 (vG v 3 : Nat)] 25)) := (Ext.refl _).alloc _
  have hV : VBox w.heap.size (vG v) (w.alloc (.cells #[.int .u64 (vG v 0 : Nat), .int .u64 (vG v 1 : Nat), .int .u64 (vG v 2 : Nat), .int .u64 (vG v 3 : Nat)] 25)) := VBox.new w (vG v) 25
  generalize hW0 : w.alloc (.cells #[.int .u64 (vG v 0 : Nat), .int .u64 (vG v 1 : Nat), .int .u64 (vG v 2 : Nat), .int .u64 (vG v 3 : Nat)] 25) = W at *
  have C5 := qeclone_w R.length (entCellsQ R) _ W hm (hx.ext hE) (entCellsQ_one R)
  have CC := fun (U : World) (vo : Value) (h : Ext W U) (ho : Tree U vo (freeT R)) => qCharge_w (freeT R) vo p v hv U (by rw [freeT_len]; exact hm) (fitT_free hR) ho hp (ht.ext (hE.trans h))
  have hbool : couldT R p v = decide ((eachT (freeT R) p (chgE v)).2 = 0) := rfl
  generalize eachT (freeT R) p (chgE v) = E at *
  generalize couldT R p v = cb at *
  unfold vVal vF at *
  generalize vG v = V at *
  replace C5 := Lib.hid C5
  replace CC := Lib.hid CC
  replace hbool := Lib.hid hbool
  go_enter Tryz.func18, Tryz.ntmps18
  go_wp2_with fail
  refine C5.out.mono ?_; rintro e w1 ⟨vo, rfl, ho, h1⟩
  obtain ⟨ao, co, rfl⟩ : ∃ a c, vo = .slice a R.length c := by
    obtain ⟨a, c, e, _⟩ := (Sl.of_owns ho).shape
    exact ⟨a, c, e⟩
  go_wp2
  go_loopw [8, 15] (fun _ i wr => ∃ k : Nat, k ≤ R.length ∧ i = .int .i64 k ∧ Ext W wr ∧ wr.ownsRow W.heap.size 38 9 (.slice ao R.length co) R.length (entCellsQ (zerT R k))) (fun _ i _ => R.length - (intOf i).toNat)
  case atStart => exact ⟨0, by omega, rfl, h1, ho⟩
  case round =>
    obtain ⟨k, hk, rfl, hb, ho⟩ := hrel
    by_cases hlt : k < R.length
    · obtain ⟨hxl, hrow⟩ := ho
      rcases hrow with ⟨h0, _⟩ | ⟨g, cap', cur, hg0, hBg, hg, hnc, hcm, hcsz, htk⟩
      · simp only [Value.slice.injEq] at h0; omega
      · simp only [Value.slice.injEq, true_and] at hg0
        obtain ⟨rfl, rfl⟩ := hg0
        have hg6 : wr.heap[g]? = some (.cells cur.toList.toArray 38 (0, 0)) := by rw [Array.toArray_toList]; exact hg
        have HCL : Hid (cur.toList.length = co * 9) := by show _ = _; rw [Array.length_toList, hcsz]
        have hfit : k * 9 + 5 + ([.int .u64 0, .int .u64 0, .int .u64 0, .int .u64 0] : List Value).length ≤ cur.toList.length := by rw [HCL.out]; show k * 9 + 5 + 4 ≤ _; omega
        have hone : ∀ u ∈ ([.int .u64 0, .int .u64 0, .int .u64 0, .int .u64 0] : List Value), u.oneCell' = true := fun u hu => by
          simp only [List.mem_cons, List.not_mem_nil, or_false] at hu
          rcases hu with rfl | rfl | rfl | rfl <;> rfl
        replace htk := Lib.hid htk
        replace hxl := Lib.hid hxl
        replace hcsz := Lib.hid hcsz
        replace hfit := Lib.hid hfit
        go_wp2_with (refine wpList_store_at rfl _ _ _ rfl (g := g) (off := k * 9 + 5) (cells := [.int .u64 0, .int .u64 0, .int .u64 0, .int .u64 0]) rfl rfl rfl (by kernel_rfl) hg6 hfit.out hone ?_; intro w7 hg7 hgr7)
        go_roundw
        case rel =>
          refine ⟨k + 1, by omega, by go_num, Ext.putQ hb hgr7 hBg, ⟨by rw [entCellsQ_len, zerT_len], Or.inr ⟨g, co, _, rfl, hBg, hg7, hnc, hcm, ?_, ?_⟩⟩⟩
          · rw [List.size_toArray, length_splice _ _ _ hfit.out]; exact HCL.out
          · show (splice cur.toList (k * 9 + 5) [.int .u64 0, .int .u64 0, .int .u64 0, .int .u64 0]).take (R.length * 9) = _
            rw [take_splice _ _ (by show k * 9 + 5 + 4 ≤ _; omega) (by rw [HCL.out]; omega), htk.out]
            exact entCellsQ_zer hlt
        case measure => simp [intOf]; omega
    · obtain rfl : k = R.length := by omega
      rw [zerT_all] at ho
      have hT := Tree.of_row ho (by rw [freeT_len])
      obtain ⟨_, a0, a1, a2, a3, _, _, _, _⟩ := (hV.ext hb).four
      have C := CC.out wr _ hb hT
      replace C := Lib.hid C
      go_wp2_with fail
      refine C.out.mono ?_; rintro e w8 ⟨v8, rfl, _, h8⟩
      go_wp2
      go_ret
      exact ⟨by rw [hbool.out]; simp; rw [Bool.eq_iff_iff]; simp, (hE.trans hb).trans h8⟩
end Go.Proofs.YtopnllbfhhjobaaGreatDoor

namespace Go.Dm
open Go Go.RowKit
theorem EBox.put_far {b c : Nat} {s : ByteArray} {L U : Nat → Nat} {w : World} (h : EBox b s L U w) (hc : c ≠ b) (V : Nat → Nat) : EBox b s L U (put4 w c V) := by
  unfold put4
  exact (((h.far hc _).far hc _).far hc _).far hc _
end Go.Dm
namespace Go.Proofs.YtopnllbfhhjobaaGreatDoor
open Go.RowKit Go.Dm
set_option maxHeartbeats 8000000 in
set_option maxRecDepth 100000 in
theorem qholds_w (R : List EntQ) (v : Value) (e : EntQ) (he : OkV e.2.1 ∧ OkV e.2.2) (w : World) (hm : R.length ≤ 1099511627776) (hR : FitT R) (hx : Tree w v R) (ht : Vars w) :
    Calls Tryz.prog 52 #[v, entVal e] w fun r w' => r = .returned (.bool (holdsT R e)) ∧ Ext w w' := by
  obtain ⟨q, cap, rfl, _, _⟩ := hx.shape
  obtain ⟨es, el, eu⟩ := e
  obtain ⟨hel, heu⟩ := he
  simp only at hel heu
  have CF1 := fun U => vfits_w eu el heu hel U
  have CF2 := fun s (hs : OkV s) U => vfits_w s eu hs heu U
  have CP := fun (x : ByteArray) (hx : x.size < 4294967281) U (h : Ext w U) => qparent_w x U hx (ht.ext h)
  have CA := fun s x (hs : OkV s) (hx : OkV x) U => vadd_w s x hs hx U
  have hE : Ext w ((w.alloc (.cells #[.string es, .int .u64 (vG el 0 : Nat), .int .u64 (vG el 1 : Nat), .int .u64 (vG el 2 : Nat), .int .u64 (vG el 3 : Nat), .int .u64 (vG eu 0 : Nat), .int .u64 (vG eu 1 : Nat), .int .u64 (vG eu 2 : Nat), .int .u64 (vG eu 3 : Nat)] 38)).alloc (.cells #[.int .u64 0, .int .u64 0, .int .u64 0, .int .u64 0] 25)) := ((Ext.refl w).alloc _).alloc _
  have hB : EBox w.heap.size es (vG el) (vG eu) ((w.alloc (.cells #[.string es, .int .u64 (vG el 0 : Nat), .int .u64 (vG el 1 : Nat), .int .u64 (vG el 2 : Nat), .int .u64 (vG el 3 : Nat), .int .u64 (vG eu 0 : Nat), .int .u64 (vG eu 1 : Nat), .int .u64 (vG eu 2 : Nat), .int .u64 (vG eu 3 : Nat)] 38)).alloc (.cells #[.int .u64 0, .int .u64 0, .int .u64 0, .int .u64 0] 25)) := (EBox.new w _ _ _ _).ext ((Ext.refl _).alloc _)
  have hV : VBox (w.heap.size + 1) (vG noV) ((w.alloc (.cells #[.string es, .int .u64 (vG el 0 : Nat), .int .u64 (vG el 1 : Nat), .int .u64 (vG el 2 : Nat), .int .u64 (vG el 3 : Nat), .int .u64 (vG eu 0 : Nat), .int .u64 (vG eu 1 : Nat), .int .u64 (vG eu 2 : Nat), .int .u64 (vG eu 3 : Nat)] 38)).alloc (.cells #[.int .u64 0, .int .u64 0, .int .u64 0, .int .u64 0] 25)) := by
    have h := VBox.new (w.alloc (.cells #[.string es, .int .u64 (vG el 0 : Nat), .int .u64 (vG el 1 : Nat), .int .u64 (vG el 2 : Nat), .int .u64 (vG el 3 : Nat), .int .u64 (vG eu 0 : Nat), .int .u64 (vG eu 1 : Nat), .int .u64 (vG eu 2 : Nat), .int .u64 (vG eu 3 : Nat)] 38)) (vG noV) 25
    rw [World.size_alloc] at h
    exact h
  have h0 : holdsT R (es, el, eu) = match sumF es R noV with
    | none => false
    | some s => vfits eu el && vfits s eu := rfl
  generalize holdsT R (es, el, eu) = H at *
  have hst := fun (k : Nat) (hk : k < R.length) (s : Vc) => (show sumF es (R.drop k) s = if (eAt R k).1 = ⟨#[]⟩ ∨ parB (eAt R k).1 ≠ es then sumF es (R.drop (k + 1)) s else if vaddOk s (eAt R k).2.2 = true then sumF es (R.drop (k + 1)) (vadd s (eAt R k).2.2) else none by
    rw [List.drop_eq_getElem_cons hk, ← eAt_eq hk]; rfl)
  have hst0 := fun s => show sumF es [] s = some s from rfl
  generalize sumF es = sf at *
  unfold entVal uAt
  unfold vVal vF at CF1 CF2 CA
  replace CF1 := Lib.hid CF1
  replace CF2 := Lib.hid CF2
  replace CP := Lib.hid CP
  replace CA := Lib.hid CA
  replace h0 := Lib.hid h0
  replace hst := Lib.hid hst
  replace hst0 := Lib.hid hst0
  simp only
  go_enter Tryz.func52, Tryz.ntmps52
  go_wp2
  go_loopw [7, 8, 9, 12] (fun _ _ _ i wr => ∃ (k : Nat) (s : Vc), k ≤ R.length ∧ i = .int .i64 k ∧ OkV s ∧ Ext w wr ∧ VBox (w.heap.size + 1) (vG s) wr ∧ EBox w.heap.size es (vG el) (vG eu) wr ∧ Hid (sf R noV = sf (R.drop k) s)) (fun _ _ _ i _ => R.length - (intOf i).toNat)
  case atStart => exact ⟨0, noV, by omega, rfl, okV_no, hE, hV, hB, rfl⟩
  case round =>
    obtain ⟨k, s, hk, rfl, hs, hb, hV, hB, HS⟩ := hrel
    by_cases hlt : k < R.length
    · obtain ⟨b, off, rfl, hbl, hcs⟩ := (hx.ext hb).at hlt
      have hxf := hR.at hlt
      have hS1 := hst.out k hlt s
      have HS1 := HS.out
      rw [hS1] at HS1
      clear hS1
      obtain ⟨⟨xs, xl, xu⟩, hr⟩ : ∃ r, eAt R k = r := ⟨_, rfl⟩
      rw [hr] at hcs hxf HS1
      clear hr HS
      simp only at hxf HS1
      obtain ⟨hxs, hxl, hxu⟩ := hxf
      have hEb := EBox.new wr xs (vG xl) (vG xu) 38
      have hEn := (Ext.refl wr).alloc (.cells #[.string xs, .int .u64 (vG xl 0 : Nat), .int .u64 (vG xl 1 : Nat), .int .u64 (vG xl 2 : Nat), .int .u64 (vG xl 3 : Nat), .int .u64 (vG xu 0 : Nat), .int .u64 (vG xu 1 : Nat), .int .u64 (vG xu 2 : Nat), .int .u64 (vG xu 3 : Nat)] 38)
      replace hV := hV.ext hEn
      replace hB := hB.ext hEn
      have hbX := hb.trans hEn
      obtain ⟨X, hX⟩ : ∃ X, X = wr.alloc (.cells #[.string xs, .int .u64 (vG xl 0 : Nat), .int .u64 (vG xl 1 : Nat), .int .u64 (vG xl 2 : Nat), .int .u64 (vG xl 3 : Nat), .int .u64 (vG xu 0 : Nat), .int .u64 (vG xu 1 : Nat), .int .u64 (vG xu 2 : Nat), .int .u64 (vG xu 3 : Nat)] 38) := ⟨_, rfl⟩
      rw [← hX] at hEb hV hB hbX hEn
      have hXl : wr.heap.size < X.heap.size := hEb.lt
      replace HS1 := Lib.hid HS1
      have c0 := hcs 0 (by omega)
      have c1 := hcs 1 (by omega)
      have c2 := hcs 2 (by omega)
      have c3 := hcs 3 (by omega)
      have c4 := hcs 4 (by omega)
      have c5 := hcs 5 (by omega)
      have c6 := hcs 6 (by omega)
      have c7 := hcs 7 (by omega)
      have c8 := hcs 8 (by omega)
      simp only [entOne, uAt, List.getElem?_cons_zero, List.getElem?_cons_succ, Nat.add_zero] at c0 c1 c2 c3 c4 c5 c6 c7 c8
      clear hcs
      go_wp2_with fail
      rw [← hX]
      clear c0 c1 c2 c3 c4 c5 c6 c7 c8 hX
      obtain ⟨_, e0, e1, e2, e3, e4, e5, e6, e7, e8, _, _, _, _, _, _, _, _, _⟩ := id hEb
      obtain ⟨_, z0, z1, z2, z3, z4, z5, z6, z7, z8, _, _, _, _, _, _, _, _, _⟩ := id hB
      have hzl := hB.lt
      by_cases hne : xs = ⟨#[]⟩
      · have hz2 : xs.toList = [] := by rw [hne, ByteArray.toList_eq]
        have HS2 := HS1.out
        rw [if_pos (Or.inl hne)] at HS2
        replace HS2 := Lib.hid HS2
        clear hne HS1
        refine Dm.wp_region_grow (by kernel_rfl) (by kernel_rfl) ?_
        repeat (go_big_quiet_step (fail))
        refine wpQuiet_nil ?_
        intro w2 h2
        go_wp2
        go_roundw
        case rel => exact ⟨k + 1, s, by omega, by go_num, hs, hbX.trans h2, hV.ext h2, hB.ext h2, HS2.out⟩
        case measure => simp [intOf]; omega
      · have hz2 : xs.toList.isEmpty = false := by
          rw [List.isEmpty_eq_false_iff, ByteArray.toList_eq]
          intro e
          exact hne (mk_bytes e)
        have hz3 : ¬ xs.toList = [] := by rw [← List.isEmpty_iff, hz2]; simp
        have CP2 := fun U h => CP.out xs (by omega) U h
        by_cases hq : parB xs = es
        · have HS2 := HS1.out
          rw [if_neg (fun h => h.elim hne (fun h => h hq))] at HS2
          replace HS2 := Lib.hid HS2
          clear HS1 hne
          rw [hq] at CP2
          clear hq
          replace CP2 := Lib.hid CP2
          refine Dm.wp_region_grow (by kernel_rfl) (by kernel_rfl) ?_
          repeat (go_big_quiet_step (first
            | (go_at_call 28; with_reducible exact Calls.quietE (CP2.out _ (hbX.trans (ext_grow _ _))))))
          refine wpQuiet_nil ?_
          intro w2 h2
          clear e0 e1 e2 e3 e4 e5 e6 e7 e8 z0 z1 z2 z3 z4 z5 z6 z7 z8
          replace hV := hV.ext h2
          replace hB := hB.ext h2
          replace hEb := hEb.ext h2
          replace hbX := hbX.trans h2
          have hzl := hEb.lt
          clear h2
          obtain ⟨_, a0, a1, a2, a3, _, _, _, _⟩ := hV.four
          obtain ⟨_, e0, e1, e2, e3, e4, e5, e6, e7, e8, _, _, _, _, _, _, _, _, _⟩ := id hEb
          have C := CA.out s xu hs hxu
          cases hd : vaddOk s xu with
          | false =>
            have HS3 := HS2.out
            rw [hd, if_neg (by simp)] at HS3
            have hH : H = false := by rw [h0.out, HS3]
            rw [hd] at C
            clear HS2 HS3
            replace C := Lib.hid C
            go_wp2_with fail
            refine (C.out _).mono ?_; rintro e w3 ⟨rfl, h3⟩
            go_wp2
            go_ret
            exact ⟨by rw [hH]; rfl, hbX.trans (h3.trans ((Ext.refl _).alloc _))⟩
          | true =>
            have HS3 := HS2.out
            rw [hd, if_pos rfl] at HS3
            have hok : OkV (vadd s xu) := vadd_okV hd
            have hN0 : vOr (vaddOk s xu) (vadd s xu) = vadd s xu := by rw [hd]; rfl
            rw [hN0, hd] at C
            clear HS2 hN0 hd
            generalize vadd s xu = n at *
            replace HS3 := Lib.hid HS3
            replace C := Lib.hid C
            go_wp2_with fail
            refine (C.out _).mono ?_; rintro e w3 ⟨rfl, h3⟩
            clear a0 a1 a2 a3 e0 e1 e2 e3 e4 e5 e6 e7 e8
            have hEn3 := (Ext.refl w3).alloc (.cells #[.int .u64 (vG n 0 : Nat), .int .u64 (vG n 1 : Nat), .int .u64 (vG n 2 : Nat), .int .u64 (vG n 3 : Nat)] 25)
            have hN : VBox w3.heap.size (vG n) (w3.alloc (.cells #[.int .u64 (vG n 0 : Nat), .int .u64 (vG n 1 : Nat), .int .u64 (vG n 2 : Nat), .int .u64 (vG n 3 : Nat)] 25)) := VBox.new w3 (vG n) 25
            replace hV := (hV.ext h3).ext hEn3
            replace hB := (hB.ext h3).ext hEn3
            replace hbX := (hbX.trans h3).trans hEn3
            clear h3 hEn3
            have hV4 := hV.four
            obtain ⟨_, a0, a1, a2, a3, f0, f1, f2, f3⟩ := hV4
            obtain ⟨_, n0, n1, n2, n3, _, _, _, _⟩ := hN.four
            go_wp2
            go_roundw
            case rel =>
              have hPV := hV.put (vG n)
              have hPB := hB.put_far (c := w.heap.size + 1) (by omega) (vG n)
              have hPE := Ext.put4 hbX (b := w.heap.size + 1) (by omega) (vG n)
              exact ⟨k + 1, n, by omega, by go_num, hok, hPE, hPV, hPB, HS3.out⟩
            case measure => simp [intOf]; omega
        · have HS2 := HS1.out
          rw [if_pos (Or.inr hq)] at HS2
          replace HS2 := Lib.hid HS2
          have hqb := beq_bytes (parB xs) es
          rw [decide_eq_false hq] at hqb
          have hqt : ¬ (parB xs).toList = es.toList := fun h => hq (bytes_eq.1 (by simpa using h))
          clear HS1 hne hq
          generalize parB xs = px at *
          replace CP2 := Lib.hid CP2
          refine Dm.wp_region_grow (by kernel_rfl) (by kernel_rfl) ?_
          repeat (go_big_quiet_step (first
            | (go_at_call 28; with_reducible exact Calls.quietE (CP2.out _ (hbX.trans (ext_grow _ _))))))
          refine wpQuiet_nil ?_
          intro w2 h2
          go_wp2
          go_roundw
          case rel => exact ⟨k + 1, s, by omega, by go_num, hs, hbX.trans h2, hV.ext h2, hB.ext h2, HS2.out⟩
          case measure => simp [intOf]; omega
    · obtain rfl : k = R.length := by omega
      have HS2 := HS.out
      rw [List.drop_length, hst0.out] at HS2
      have hH : H = (vfits eu el && vfits s eu) := by rw [h0.out, HS2]
      clear HS HS2
      have C1 := CF1.out
      have C2 := CF2.out s hs
      generalize vfits s eu = d2 at *
      generalize vfits eu el = d1 at *
      replace C1 := Lib.hid C1
      replace C2 := Lib.hid C2
      replace hH := Lib.hid hH
      obtain ⟨_, z0, z1, z2, z3, z4, z5, z6, z7, z8, _, _, _, _, _, _, _, _, _⟩ := id hB
      obtain ⟨_, a0, a1, a2, a3, _, _, _, _⟩ := hV.four
      have hzl := hB.lt
      go_wp2_with fail
      refine (C1.out _).mono ?_; rintro e w3 ⟨rfl, h3⟩
      clear z0 z1 z2 z3 z4 z5 z6 z7 z8 a0 a1 a2 a3
      obtain ⟨_, z0, z1, z2, z3, z4, z5, z6, z7, z8, _, _, _, _, _, _, _, _, _⟩ := hB.ext h3
      obtain ⟨_, a0, a1, a2, a3, _, _, _, _⟩ := (hV.ext h3).four
      cases d1 with
      | false =>
        go_wp2
        go_ret
        exact ⟨by rw [hH.out]; rfl, hb.trans h3⟩
      | true =>
        go_wp2_with fail
        refine (C2.out _).mono ?_; rintro e w4 ⟨rfl, h4⟩
        go_wp2
        go_ret
        exact ⟨by rw [hH.out]; rfl, (hb.trans h3).trans h4⟩
end Go.Proofs.YtopnllbfhhjobaaGreatDoor

namespace Go.Dm
open Go Go.RowKit
theorem rightQ_no1 {t : List EntQ} (h : ¬ (1 ≤ t.length ∧ t.length ≤ 16 ∧ (eAt t 0).1 = ⟨#[]⟩)) : rightQ t = false := by
  unfold rightQ; rw [decide_eq_false h]; rfl
theorem rightQ_no2 {t : List EntQ} {k : Nat} (hk : k < t.length) (h : okQ t k = false) : rightQ t = false := by
  have : (List.range t.length).all (okQ t) = false := by
    rw [Bool.eq_false_iff]; intro h2
    rw [List.all_eq_true] at h2
    rw [h2 k (List.mem_range.2 hk)] at h; cases h
  unfold rightQ; rw [this, Bool.and_false, Bool.false_and]
theorem rightQ_fin {t : List EntQ} (h : 1 ≤ t.length ∧ t.length ≤ 16 ∧ (eAt t 0).1 = ⟨#[]⟩) (h2 : ∀ k, k < t.length → okQ t k = true) : rightQ t = t.all (holdsT t) := by
  have : (List.range t.length).all (okQ t) = true := by
    rw [List.all_eq_true]; intro k hk
    exact h2 k (List.mem_range.1 hk)
  unfold rightQ; rw [this, decide_eq_true h, Bool.true_and, Bool.true_and]
end Go.Dm
namespace Go.Proofs.YtopnllbfhhjobaaGreatDoor
open Go.RowKit Go.Dm
set_option maxHeartbeats 1000000 in
theorem qright1_w (R : List EntQ) (r : EntQ) (hr : OkV r.2.1 ∧ OkV r.2.2) (v : Value) (c : Nat) (w : World) (hm : R.length ≤ 1099511627776) (hR : FitT R) (hx : Tree w v R) (ht : Vars w) (hcl : c < w.heap.size) (hc : w.cell? ⟨c, 0, none⟩ = some v) :
    Calls Tryz.prog 51 #[entVal r, .pointer (some ⟨c, 0, none⟩)] w fun e w' => e = .returned (.bool (!holdsT R r)) ∧ Ext w w' := by
  have C := fun U (h : Ext w U) => qholds_w R v r hr U hm hR (hx.ext h) (ht.ext h)
  generalize holdsT R r = d at *
  obtain ⟨q, cap, rfl, _, _⟩ := hx.shape
  obtain ⟨s, l, u⟩ := r
  unfold entVal uAt at *
  simp only at C ⊢
  generalize vG l = L at *
  generalize vG u = U at *
  have hB := EBox.new w s L U 38
  have hE : Ext w (w.alloc (.cells #[.string s, .int .u64 (L 0 : Nat), .int .u64 (L 1 : Nat), .int .u64 (L 2 : Nat), .int .u64 (L 3 : Nat), .int .u64 (U 0 : Nat), .int .u64 (U 1 : Nat), .int .u64 (U 2 : Nat), .int .u64 (U 3 : Nat)] 38)) := (Ext.refl _).alloc _
  have hc2 : (w.alloc (.cells #[.string s, .int .u64 (L 0 : Nat), .int .u64 (L 1 : Nat), .int .u64 (L 2 : Nat), .int .u64 (L 3 : Nat), .int .u64 (U 0 : Nat), .int .u64 (U 1 : Nat), .int .u64 (U 2 : Nat), .int .u64 (U 3 : Nat)] 38)).cell? ⟨c, 0, none⟩ = some (.slice q R.length cap) := by rw [hE.cell (by exact hcl)]; exact hc
  replace C := Lib.hid (C _ hE)
  obtain ⟨_, e0, e1, e2, e3, e4, e5, e6, e7, e8, _, _, _, _, _, _, _, _, _⟩ := id hB
  go_enter Tryz.func51, Tryz.ntmps51
  go_wp2_with fail
  refine C.out.mono ?_; rintro e w1 ⟨rfl, h1⟩
  go_wp2
  go_ret
  exact ⟨rfl, hE.trans h1⟩

set_option maxHeartbeats 2000000 in
set_option maxRecDepth 100000 in
theorem qrindex_w (R : List EntQ) (v : Value) (c : Nat) (w : World) (hm : R.length ≤ 1099511627776) (hR : FitT R) (hx : Tree w v R) (ht : Vars w) (hcl : c < w.heap.size) (hc : w.cell? ⟨c, 0, none⟩ = some v) :
    Calls Tryz.prog 31 #[v, .func (.func 51) #[] #[.pointer (some ⟨c, 0, none⟩)]] w
      fun e w' => ∃ i : Int, e = .returned (.int .i64 i) ∧ decide (0 ≤ i) = !R.all (holdsT R) ∧ Ext w w' := by
  have hno : ∀ k, k < R.length → holdsT R (eAt R k) = false → R.all (holdsT R) = false := fun k hk h => by
    rw [Bool.eq_false_iff]; intro h2
    rw [List.all_eq_true] at h2
    rw [h2 _ (eAt_mem hk)] at h; cases h
  have hyes : (∀ j, j < R.length → holdsT R (eAt R j) = true) → R.all (holdsT R) = true := fun h => by
    rw [List.all_eq_true]
    intro x hx
    obtain ⟨j, hj, rfl⟩ := List.getElem_of_mem hx
    rw [← eAt_eq hj]; exact h j hj
  have C1 := fun r hr U (h : Ext w U) => qright1_w R r hr v c U hm hR (hx.ext h) (ht.ext h) (Nat.lt_of_lt_of_le hcl h.size) (by rw [h.cell (by exact hcl)]; exact hc)
  generalize R.all (holdsT R) = al at *
  generalize holdsT R = ho at *
  obtain ⟨q, cap, rfl, _, _⟩ := hx.shape
  replace C1 := Lib.hid C1
  replace hno := Lib.hid hno
  replace hyes := Lib.hid hyes
  go_enter Tryz.func31, Tryz.ntmps31
  go_wp2
  go_loopw [8] (fun i wr => ∃ k : Nat, k ≤ R.length ∧ i = .int .i64 k ∧ Ext w wr ∧ Hid (∀ j, j < k → ho (eAt R j) = true)) (fun i _ => R.length - (intOf i).toNat)
  case atStart => exact ⟨0, by omega, rfl, Ext.refl w, fun j hj => by omega⟩
  case round =>
    obtain ⟨k, hk', rfl, hb, HN⟩ := hrel
    by_cases hlt : k < R.length
    · obtain ⟨b, off, rfl, hbl, hcs⟩ := (hx.ext hb).at hlt
      have C := C1.out (eAt R k) (hR.at hlt).2 wr hb
      have hY := fun h => hno.out k hlt h
      have hN2 : Hid (ho (eAt R k) = true → ∀ j, j < k + 1 → ho (eAt R j) = true) := fun h j hj => by
        rcases Nat.lt_succ_iff_lt_or_eq.1 hj with h' | rfl
        · exact HN.out j h'
        · exact h
      have c0 := hcs 0 (by omega)
      have c1 := hcs 1 (by omega)
      have c2 := hcs 2 (by omega)
      have c3 := hcs 3 (by omega)
      have c4 := hcs 4 (by omega)
      have c5 := hcs 5 (by omega)
      have c6 := hcs 6 (by omega)
      have c7 := hcs 7 (by omega)
      have c8 := hcs 8 (by omega)
      simp only [entOne, uAt, List.getElem?_cons_zero, List.getElem?_cons_succ, Nat.add_zero] at c0 c1 c2 c3 c4 c5 c6 c7 c8
      clear hcs
      generalize ho (eAt R k) = d at C hY hN2
      generalize eAt R k = r at c0 c1 c2 c3 c4 c5 c6 c7 c8 C
      obtain ⟨s, l, u⟩ := r
      unfold entVal uAt at C
      simp only at c0 c1 c2 c3 c4 c5 c6 c7 c8 C
      cases d with
      | false =>
        replace hY := Lib.hid (hY rfl)
        clear hN2
        replace C := Lib.hid C
        go_wp2_with fail
        refine C.out.mono ?_; rintro e w1 ⟨rfl, h1⟩
        go_wp2
        go_ret
        exact ⟨_, rfl, by rw [hY.out]; simp, hb.trans h1⟩
      | true =>
        replace hN2 := Lib.hid (hN2.out rfl)
        clear hY
        replace C := Lib.hid C
        go_wp2_with fail
        refine C.out.mono ?_; rintro e w1 ⟨rfl, h1⟩
        go_wp2
        go_roundw
        case rel => exact ⟨k + 1, by omega, by go_num, hb.trans h1, hN2⟩
        case measure => simp [intOf]; omega
    · obtain rfl : k = R.length := by omega
      have hY : Hid (al = true) := hyes.out HN.out
      go_wp2
      go_ret
      exact ⟨_, rfl, by rw [hY.out]; simp, hb⟩

theorem qrlack_w (R : List EntQ) (v : Value) (c : Nat) (w : World) (hm : R.length ≤ 1099511627776) (hR : FitT R) (hx : Tree w v R) (ht : Vars w) (hcl : c < w.heap.size) (hc : w.cell? ⟨c, 0, none⟩ = some v) :
    Calls Tryz.prog 50 #[v, .func (.func 51) #[] #[.pointer (some ⟨c, 0, none⟩)]] w
      fun e w' => e = .returned (.bool (!R.all (holdsT R))) ∧ Ext w w' := by
  have C := qrindex_w R v c w hm hR hx ht hcl hc
  generalize R.all (holdsT R) = d at *
  obtain ⟨q, cap, rfl, _, _⟩ := hx.shape
  replace C := Lib.hid C
  go_enter Tryz.func50, Tryz.ntmps50
  go_wp2_with fail
  refine C.out.mono ?_; rintro e w1 ⟨i, rfl, hi, h1⟩
  go_wp2
  go_ret
  exact ⟨by simp [← hi], h1⟩
set_option maxHeartbeats 8000000 in
set_option maxRecDepth 100000 in
theorem qright_w (R : List EntQ) (v : Value) (w : World) (hm : R.length ≤ 1099511627776) (hR : FitT R) (hx : Tree w v R) (ht : Vars w) :
    Calls Tryz.prog 20 #[v] w fun r w' => r = .returned (.bool (rightQ R)) ∧ Ext w w' := by
  have hpsz : ∀ k, k < R.length → (eAt R k).1.size ≤ 1048576 := fun k hk => (hR.at hk).1
  have hr1 : ¬ (1 ≤ R.length ∧ R.length ≤ 16 ∧ (eAt R 0).1 = ⟨#[]⟩) → rightQ R = false := rightQ_no1
  have hr2 : ∀ k, k < R.length → okQ R k = false → rightQ R = false := fun k hk h => rightQ_no2 hk h
  have hr3 : (1 ≤ R.length ∧ R.length ≤ 16 ∧ (eAt R 0).1 = ⟨#[]⟩) → (∀ k, k < R.length → okQ R k = true) → rightQ R = R.all (holdsT R) := rightQ_fin
  have hokd := fun k => show okQ R k = (decide (k = 0) || (Op.bytesLess (eAt R (k - 1)).1.data.toList (eAt R k).1.data.toList && (namB (eAt R k).1 && decide (plN R (parB (eAt R k).1) < R.length)))) from rfl
  obtain ⟨q, cap, rfl, _, _⟩ := hx.shape
  have hE : Ext w (w.alloc (.cells #[.slice q R.length cap] 22)) := (Ext.refl _).alloc _
  have hc : (w.alloc (.cells #[.slice q R.length cap] 22)).cell? ⟨w.heap.size, 0, none⟩ = some (.slice q R.length cap) := by simp
  have hcl : w.heap.size < (w.alloc (.cells #[.slice q R.length cap] 22)).heap.size := by simp
  generalize hW0 : (w.alloc (.cells #[.slice q R.length cap] 22)) = W at *
  have CN := fun (x : ByteArray) (hx : x.size ≤ 1048576) U (h : Ext W U) => qnamed_w x U (by omega) (ht.ext (hE.trans h))
  have CP := fun (x : ByteArray) (hx : x.size ≤ 1048576) U (h : Ext W U) => qparent_w x U (by omega) (ht.ext (hE.trans h))
  have CL := fun (x : ByteArray) U (h : Ext W U) => qplace_w R x _ U hm (hx.ext (hE.trans h))
  have CK := fun U (h : Ext W U) => qrlack_w R _ w.heap.size U hm hR (hx.ext (hE.trans h)) (ht.ext (hE.trans h)) (Nat.lt_of_lt_of_le hcl h.size) (by rw [h.cell (by exact hcl)]; exact hc)
  generalize rightQ R = rq at *
  generalize R.all (holdsT R) = al at *
  generalize okQ R = ok at *
  replace hpsz := Lib.hid hpsz
  replace hr1 := Lib.hid hr1
  replace hr2 := Lib.hid hr2
  replace hr3 := Lib.hid hr3
  replace hokd := Lib.hid hokd
  replace CN := Lib.hid CN
  replace CP := Lib.hid CP
  replace CL := Lib.hid CL
  replace CK := Lib.hid CK
  go_enter Tryz.func20, Tryz.ntmps20
  by_cases h1 : R.length < 1
  · have hf := Lib.hid (hr1.out (by omega))
    go_wp2
    go_ret
    exact ⟨by rw [hf.out]; rfl, hE⟩
  by_cases h16 : 16 < R.length
  · have hf := Lib.hid (hr1.out (by omega))
    go_wp2
    go_ret
    exact ⟨by rw [hf.out]; rfl, hE⟩
  obtain ⟨tb, toff, rfl, htbl, hcs⟩ := (hx.ext hE).at (show 0 < R.length by omega)
  have f0 := hcs 0 (by omega)
  simp only [entOne, List.getElem?_cons_zero, Nat.add_zero, Nat.zero_mul] at f0
  clear hcs
  by_cases hp0 : (eAt R 0).1 = ⟨#[]⟩
  case neg =>
    have hf := Lib.hid (hr1.out (fun h => hp0 h.2.2))
    generalize (eAt R 0).1 = p0 at *
    have hz2 : p0.toList.isEmpty = false := by
      rw [List.isEmpty_eq_false_iff, ByteArray.toList_eq]
      intro e
      exact hp0 (mk_bytes e)
    have hz3 : ¬ p0.toList = [] := by rw [← List.isEmpty_iff, hz2]; simp
    clear hp0 hr3
    go_wp2
    go_ret
    exact ⟨by rw [hf.out]; rfl, hE⟩
  have hr4 := Lib.hid (hr3.out ⟨by omega, by omega, hp0⟩)
  rw [hp0] at f0
  clear hp0 hr1 hr3
  go_wp2
  clear f0
  go_loopw [3, 4, 22] (fun _ _ i wr => ∃ k : Nat, k ≤ R.length ∧ i = .int .i64 k ∧ Ext W wr ∧ Hid (∀ j, j < k → ok j = true)) (fun _ _ i _ => R.length - (intOf i).toNat)
  case atStart => exact ⟨0, by omega, rfl, Ext.refl W, fun j hj => by omega⟩
  case round =>
    obtain ⟨k, hk', rfl, hb, HN⟩ := hrel
    by_cases hlt : k < R.length
    · have hxw := hx.ext (hE.trans hb)
      obtain ⟨b, off, hbe, hbl, hcs⟩ := hxw.at hlt
      injection hbe with hbe; injection hbe with e1 e2
      subst e1 e2
      have hko := hokd.out k
      have hps := hpsz.out k hlt
      have hno := fun h => hr2.out k hlt h
      have hN2 : Hid (ok k = true → ∀ j, j < k + 1 → ok j = true) := fun h j hj => by
        rcases Nat.lt_succ_iff_lt_or_eq.1 hj with h' | rfl
        · exact HN.out j h'
        · exact h
      have hct : wr.cell? ⟨w.heap.size, 0, none⟩ = some (.slice (some ⟨tb, toff, none⟩) R.length cap) := by rw [hb.cell (by exact hcl)]; exact hc
      have hctl : w.heap.size < wr.heap.size := Nat.lt_of_lt_of_le hcl hb.size
      have c0 := hcs 0 (by omega)
      have c1 := hcs 1 (by omega)
      have c2 := hcs 2 (by omega)
      have c3 := hcs 3 (by omega)
      have c4 := hcs 4 (by omega)
      have c5 := hcs 5 (by omega)
      have c6 := hcs 6 (by omega)
      have c7 := hcs 7 (by omega)
      have c8 := hcs 8 (by omega)
      simp only [entOne, uAt, List.getElem?_cons_zero, List.getElem?_cons_succ, Nat.add_zero] at c0 c1 c2 c3 c4 c5 c6 c7 c8
      clear hcs
      have hprev : ∀ U, Ext wr U → 0 < k → ∃ kk : Nat, k - 1 = kk ∧ U.cell? ⟨tb, toff + kk * 9, none⟩ = some (.string (eAt R (k - 1)).1) := fun U hU h0 => ⟨k - 1, rfl, by
        obtain ⟨b', off', hbe, _, hcs⟩ := (hxw.ext hU).at (show k - 1 < R.length by omega)
        injection hbe with hbe; injection hbe with e1 e2
        subst e1 e2
        have := hcs 0 (by omega)
        simpa [entOne] using this⟩
      generalize ok k = d at hko hno hN2
      obtain ⟨⟨xs, xl, xu⟩, hr⟩ : ∃ r, eAt R k = r := ⟨_, rfl⟩
      rw [hr] at c0 c1 c2 c3 c4 c5 c6 c7 c8 hko hps
      clear hr
      simp only at c0 c1 c2 c3 c4 c5 c6 c7 c8 hko hps
      have hEb := EBox.new wr xs (vG xl) (vG xu) 38
      have hEn := (Ext.refl wr).alloc (.cells #[.string xs, .int .u64 (vG xl 0 : Nat), .int .u64 (vG xl 1 : Nat), .int .u64 (vG xl 2 : Nat), .int .u64 (vG xl 3 : Nat), .int .u64 (vG xu 0 : Nat), .int .u64 (vG xu 1 : Nat), .int .u64 (vG xu 2 : Nat), .int .u64 (vG xu 3 : Nat)] 38)
      have hbX := hb.trans hEn
      replace hprev := Lib.hid (hprev _ hEn)
      obtain ⟨X, hX⟩ : ∃ X, X = wr.alloc (.cells #[.string xs, .int .u64 (vG xl 0 : Nat), .int .u64 (vG xl 1 : Nat), .int .u64 (vG xl 2 : Nat), .int .u64 (vG xl 3 : Nat), .int .u64 (vG xu 0 : Nat), .int .u64 (vG xu 1 : Nat), .int .u64 (vG xu 2 : Nat), .int .u64 (vG xu 3 : Nat)] 38) := ⟨_, rfl⟩
      rw [← hX] at hEb hbX hEn hprev
      have hXl : wr.heap.size < X.heap.size := hEb.lt
      have hct2 : X.cell? ⟨w.heap.size, 0, none⟩ = some (.slice (some ⟨tb, toff, none⟩) R.length cap) := by rw [hEn.cell (by exact hctl)]; exact hct
      have hctl2 : w.heap.size < X.heap.size := by omega
      have hbl2 : tb < X.heap.size := Nat.lt_of_lt_of_le hbl hEn.size
      replace hko := Lib.hid hko
      go_wp2_with fail
      rw [← hX]
      clear c0 c1 c2 c3 c4 c5 c6 c7 c8 hX hct
      obtain ⟨_, e0, e1, e2, e3, e4, e5, e6, e7, e8, _, _, _, _, _, _, _, _, _⟩ := id hEb
      by_cases hk0 : k = 0
      · have hd : d = true := by rw [hko.out, decide_eq_true hk0]; rfl
        have hN3 := Lib.hid (hN2.out hd)
        clear hno hko hN2 hprev hd
        have hkg : ¬ (0 : Int) < (k : Int) := by omega
        have hkg2 : ¬ 0 < k := by omega
        refine Dm.wp_region_grow (by kernel_rfl) (by kernel_rfl) ?_
        repeat (go_big_quiet_step (fail))
        refine wpQuiet_nil ?_
        intro w2 h2
        go_wp2
        go_roundw
        case rel => exact ⟨k + 1, by omega, by go_num, hbX.trans h2, hN3⟩
        case measure => simp [intOf]; omega
      · have hk1 : (0 : Int) < (k : Int) := by omega
        have hk2 : 0 < k := by omega
        obtain ⟨kk, hkk, hpc⟩ := hprev.out (by omega)
        have hkc : (k : Int) - 1 = (kk : Int) := by omega
        have hko2 := hko.out
        rw [decide_eq_false hk0, Bool.false_or, ← ByteArray.toList_eq, ← ByteArray.toList_eq] at hko2
        clear hko hprev
        generalize (eAt R (k - 1)).1 = pv at *
        have CN2 := fun U h => CN.out xs hps U h
        have CP2 := fun U h => CP.out xs hps U h
        have CL2 := fun U h => CL.out (parB xs) U h
        have hpl := plN_le R (parB xs)
        have hpi : plI R (parB xs) = if plN R (parB xs) < R.length then (plN R (parB xs) : Int) else -1 := rfl
        generalize plI R (parB xs) = pi at *
        generalize plN R (parB xs) = pn at *
        generalize parB xs = px at *
        generalize namB xs = nm at *
        have hkl : kk < R.length := by omega
        clear hkk hk0
        replace CP2 := Lib.hid CP2
        replace CL2 := Lib.hid CL2
        replace hpi := Lib.hid hpi
        have hlq : (!leB xs.toList pv.toList) = Op.bytesLess pv.toList xs.toList := not_leB _ _
        unfold leB at hlq
        cases hle : Op.bytesLess pv.toList xs.toList with
        | false =>
          have hf := Lib.hid (hno (by rw [hko2, hle]; rfl))
          clear hno hN2 hko2
          rw [hle] at hlq
          cases ha : Op.bytesLess xs.toList pv.toList with
          | true =>
            clear hlq
            refine Dm.wp_region_grow (by kernel_rfl) (by kernel_rfl) ?_
            repeat (go_big_quiet_step (fail))
            refine wpQuiet_nil ?_
            intro w2 h2
            go_wp2
            go_ret
            exact ⟨by rw [hf.out]; rfl, (hE.trans hbX).trans h2⟩
          | false =>
            have hb2 : xs.toList = pv.toList := by rw [ha] at hlq; simpa using hlq
            clear hlq
            refine Dm.wp_region_grow (by kernel_rfl) (by kernel_rfl) ?_
            repeat (go_big_quiet_step (fail))
            refine wpQuiet_nil ?_
            intro w2 h2
            go_wp2
            go_ret
            exact ⟨by rw [hf.out]; rfl, (hE.trans hbX).trans h2⟩
        | true =>
          rw [hle] at hlq
          have ha : Op.bytesLess xs.toList pv.toList = false := by
            cases h : Op.bytesLess xs.toList pv.toList with
            | false => rfl
            | true => rw [h] at hlq; simp at hlq
          have hb2 : ¬ xs.toList = pv.toList := by
            intro h
            rw [ha, h] at hlq; simp at hlq
          have hb3 : (xs.toList == pv.toList) = false := beq_eq_false_iff_ne.2 hb2
          clear hlq
          rw [hle, Bool.true_and] at hko2
          cases nm with
          | false =>
            have hf := Lib.hid (hno (by rw [hko2]; rfl))
            clear hno hN2 hko2
            replace CN2 := Lib.hid CN2
            refine Dm.wp_region_grow (by kernel_rfl) (by kernel_rfl) ?_
            repeat (go_big_quiet_step (first
              | (go_at_call 27; with_reducible exact Calls.quietE (CN2.out _ (hbX.trans (ext_grow _ _))))))
            refine wpQuiet_nil ?_
            intro w2 h2
            go_wp2
            go_ret
            exact ⟨by rw [hf.out]; rfl, (hE.trans hbX).trans h2⟩
          | true =>
            rw [Bool.true_and] at hko2
            replace CN2 := Lib.hid CN2
            by_cases hin : pn < R.length
            · have hN3 := Lib.hid (hN2.out (by rw [hko2, decide_eq_true hin]))
              have hpi2 := hpi.out
              rw [if_pos hin] at hpi2
              have hpg : ¬ (pi < 0) := by omega
              have hpg2 : 0 ≤ pi := by omega
              clear hno hN2 hko2 hpi2 hpi
              refine Dm.wp_region_grow (by kernel_rfl) (by kernel_rfl) ?_
              repeat (go_big_quiet_step (first
                | (go_at_call 27; with_reducible exact Calls.quietE (CN2.out _ (hbX.trans (ext_grow _ _))))
                | (go_at_call 28; with_reducible exact Calls.quietE (CP2.out _ (hbX.trans (ext_grow _ _))))
                | (go_at_call 26; with_reducible exact Calls.quietE (CL2.out _ (hbX.trans (ext_grow _ _))))))
              refine wpQuiet_nil ?_
              intro w2 h2
              go_wp2
              go_roundw
              case rel => exact ⟨k + 1, by omega, by go_num, hbX.trans h2, hN3⟩
              case measure => simp [intOf]; omega
            · have hf := Lib.hid (hno (by rw [hko2, decide_eq_false hin]))
              have hpi2 := hpi.out
              rw [if_neg hin] at hpi2
              have hpg : pi < 0 := by omega
              clear hno hN2 hko2 hpi2 hpi
              refine Dm.wp_region_grow (by kernel_rfl) (by kernel_rfl) ?_
              repeat (go_big_quiet_step (first
                | (go_at_call 27; with_reducible exact Calls.quietE (CN2.out _ (hbX.trans (ext_grow _ _))))
                | (go_at_call 28; with_reducible exact Calls.quietE (CP2.out _ (hbX.trans (ext_grow _ _))))
                | (go_at_call 26; with_reducible exact Calls.quietE (CL2.out _ (hbX.trans (ext_grow _ _))))))
              refine wpQuiet_nil ?_
              intro w2 h2
              go_wp2
              go_ret
              exact ⟨by rw [hf.out]; rfl, (hE.trans hbX).trans h2⟩
    · obtain rfl : k = R.length := by omega
      have hf := Lib.hid (hr4.out HN.out)
      have hct : wr.cell? ⟨w.heap.size, 0, none⟩ = some (.slice (some ⟨tb, toff, none⟩) R.length cap) := by rw [hb.cell (by exact hcl)]; exact hc
      have hctl : w.heap.size < wr.heap.size := Nat.lt_of_lt_of_le hcl hb.size
      have C := CK.out wr hb
      replace C := Lib.hid C
      go_wp2_with fail
      refine C.out.mono ?_; rintro e w3 ⟨rfl, h3⟩
      go_wp2
      go_ret
      exact ⟨by rw [hf.out]; simp, (hE.trans hb).trans h3⟩
end Go.Proofs.YtopnllbfhhjobaaGreatDoor
