/- Texts one behind the other: Chapter 10, the document's: the walk of Could; Chapter 10, the document's: the walk of below; Chapter 10, the document's: the walk of Right; Chapter 10, the document's: the walk of Put. -/
import Derived.Test.YtopnllbfhhjobaaGreatDoorT24
import Derived.Test.YtopnllbfhhjobaaGreatDoorT12
import Derived.Test.YtopnllbfhhjobaaGreatDoorT21
import Derived.Test.YtopnllbfhhjobaaGreatDoorT22
namespace Go.Dm
open Go Go.RowKit
theorem freeT_snoc {R : List EntQ} {k : Nat} (hk : k < R.length) : entCellsQ (freeT (R.take (k + 1))) = entCellsQ (freeT (R.take k)) ++ entOne ((eAt R k).1, (eAt R k).2.1, noV) := by
  rw [List.take_add_one, List.getElem?_eq_getElem hk, ← eAt_eq hk]
  unfold freeT
  rw [Option.toList, List.map_append, entCellsQ_app]
  rfl
theorem lit_free (s : ByteArray) (l : Vc) : (#[.string s, .int .u64 (vG l 0 : Nat), .int .u64 (vG l 1 : Nat), .int .u64 (vG l 2 : Nat), .int .u64 (vG l 3 : Nat), .int .u64 0, .int .u64 0, .int .u64 0, .int .u64 0] : Array Value).toList = entOne (s, l, noV) := by
  simp [entOne, uAt, noV, vG]
end Go.Dm
namespace Go.Proofs.YtopnllbfhhjobaaGreatDoor
open Go.RowKit Go.Dm
set_option maxHeartbeats 4000000 in
set_option maxRecDepth 100000 in
theorem dcould_w (R : List EntQ) (va : Value) (p : ByteArray) (v : Vc) (hv : OkV v) (w : World) (hm : R.length ≤ 1099511627776) (hR : FitT R) (hx : Tree w va R) (hp : p.size ≤ 1048576) :
    Calls Tryz.prog 19 #[va, .string p, vVal v] w fun e w' => e = .returned (.bool (couldT R p v)) ∧ Ext w w' := by
  obtain ⟨q, cap, rfl, _, _⟩ := hx.shape
  have hE : Ext w (w.alloc (.cells #[.int .u64 (vG v 0 : Nat), .int .u64 (vG v 1 : Nat), .int .u64 (vG v 2 : Nat), .int .u64 (vG v 3 : Nat)] 34)) := (Ext.refl _).alloc _
  have hV : VBox w.heap.size (vG v) (w.alloc (.cells #[.int .u64 (vG v 0 : Nat), .int .u64 (vG v 1 : Nat), .int .u64 (vG v 2 : Nat), .int .u64 (vG v 3 : Nat)] 34)) := VBox.new w (vG v) 34
  generalize hW0 : w.alloc (.cells #[.int .u64 (vG v 0 : Nat), .int .u64 (vG v 1 : Nat), .int .u64 (vG v 2 : Nat), .int .u64 (vG v 3 : Nat)] 34) = W at *
  have CC := fun (U : World) (vo : Value) (ho : Tree U vo (freeT R)) => dCharge_w (freeT R) vo p v hv U (by rw [freeT_len]; exact hm) (fitT_free hR) ho hp
  have hbool : couldT R p v = decide ((eachT (freeT R) p (chgE v)).2 = 0) := rfl
  generalize eachT (freeT R) p (chgE v) = E at *
  generalize couldT R p v = cb at *
  unfold vVal vF at *
  generalize vG v = V at *
  replace CC := Lib.hid CC
  replace hbool := Lib.hid hbool
  go_enter Tryz.func19, Tryz.ntmps19
  go_wp2
  go_loopw [7, 8] (fun r i wr => ∃ k : Nat, k ≤ R.length ∧ i = .int .i64 k ∧ Ext W wr ∧ wr.ownsRow W.heap.size 42 9 r k (entCellsQ (freeT (R.take k)))) (fun _ i _ => R.length - (intOf i).toNat)
  case atStart => exact ⟨0, by omega, rfl, Ext.refl _, World.ownsRow_nil _ _ _ _⟩
  case round =>
    obtain ⟨k, hk, rfl, hb, ho⟩ := hrel
    by_cases hlt : k < R.length
    · obtain ⟨b, off, rfl, hbl, hcs⟩ := (hx.ext hE).at hlt
      have hst := freeT_snoc hlt
      generalize eAt R k = r at *
      obtain ⟨s, l, u⟩ := r
      simp only at hst
      rw [← lit_free] at hst
      replace hst := Lib.hid hst
      have hone : ∀ u ∈ (#[.string s, .int .u64 (vG l 0 : Nat), .int .u64 (vG l 1 : Nat), .int .u64 (vG l 2 : Nat), .int .u64 (vG l 3 : Nat), .int .u64 0, .int .u64 0, .int .u64 0, .int .u64 0] : Array Value).toList, u.oneCell' = true := by rw [lit_free]; exact entOne_one _
      replace hone := Lib.hid hone
      have c0 := hcs 0 (by omega)
      have c1 := hcs 1 (by omega)
      have c2 := hcs 2 (by omega)
      have c3 := hcs 3 (by omega)
      have c4 := hcs 4 (by omega)
      have c5 := hcs 5 (by omega)
      have c6 := hcs 6 (by omega)
      have c7 := hcs 7 (by omega)
      have c8 := hcs 8 (by omega)
      simp only [entOne, uAt, List.getElem?_cons_zero, List.getElem?_cons_succ, Nat.add_zero] at c0 c1 c2 c3 c4 c5 c6 c7 c8
      clear hcs
      go_wp2_with fail
      try simp only [Act.put, List.setIfInBounds_toArray, List.set_cons_succ, List.set_cons_zero]
      refine Dm.wp_region_ext 15 (Dm.bits 15 0) hb (by kernel_rfl) (by kernel_rfl) (by kernel_rfl) ?_
      refine Dm.wpE_take (i := 0) (listed' := (Dm.bits 15 1)) (by kernel_rfl) (by kernel_rfl) rfl (fun _ _ _ _ h => h) ?_; apply Exists.intro; refine And.intro (fun x => ?_) ?_
      · go_big_quiet_step (fail); exact wpQuiet_nil rfl
      refine Dm.wpE_take (i := 1) (listed' := (Dm.bits 15 3)) (by kernel_rfl) (by kernel_rfl) rfl (fun _ _ _ _ h => h) ?_; apply Exists.intro; refine And.intro (fun x => ?_) ?_
      · go_big_quiet_step (fail); exact wpQuiet_nil rfl
      refine Dm.wpE_take (i := 2) (listed' := (Dm.bits 15 7)) (by kernel_rfl) (by kernel_rfl) rfl (fun _ _ _ _ h => h) ?_; apply Exists.intro; refine And.intro (fun x => ?_) ?_
      · go_big_quiet_step (fail); exact wpQuiet_nil rfl
      refine Dm.wpE_take (i := 3) (listed' := (Dm.bits 15 15)) (by kernel_rfl) (by kernel_rfl) rfl (fun _ _ _ _ h => h) ?_; apply Exists.intro; refine And.intro (fun x => ?_) ?_
      · go_big_quiet_step (fail); exact wpQuiet_nil rfl
      refine Dm.wpE_take (i := 4) (listed' := (Dm.bits 15 31)) (by kernel_rfl) (by kernel_rfl) rfl (fun _ _ _ _ h => h) ?_; apply Exists.intro; refine And.intro (fun x => ?_) ?_
      · go_big_quiet_step (fail); exact wpQuiet_nil rfl
      refine Dm.wpE_take (i := 5) (listed' := (Dm.bits 15 63)) (by kernel_rfl) (by kernel_rfl) rfl (fun _ _ _ _ h => h) ?_; apply Exists.intro; refine And.intro (fun x => ?_) ?_
      · go_big_quiet_step (fail); exact wpQuiet_nil rfl
      refine Dm.wpE_take (i := 6) (listed' := (Dm.bits 15 127)) (by kernel_rfl) (by kernel_rfl) rfl (fun _ _ _ _ h => h) ?_; apply Exists.intro; refine And.intro (fun x => ?_) ?_
      · go_big_quiet_step (fail); exact wpQuiet_nil rfl
      refine Dm.wpE_take (i := 7) (listed' := (Dm.bits 15 255)) (by kernel_rfl) (by kernel_rfl) rfl (fun _ _ _ _ h => h) ?_; apply Exists.intro; refine And.intro (fun x => ?_) ?_
      · go_big_quiet_step (fail); exact wpQuiet_nil rfl
      refine Dm.wpE_take (i := 8) (listed' := (Dm.bits 15 511)) (by kernel_rfl) (by kernel_rfl) rfl (fun _ _ _ _ h => h) ?_; apply Exists.intro; refine And.intro (fun x => ?_) ?_
      · go_big_quiet_step (fail); exact wpQuiet_nil rfl
      refine Dm.wpE_take (i := 9) (listed' := (Dm.bits 15 1023)) (by kernel_rfl) (by kernel_rfl) rfl (fun _ _ _ _ h => h) ?_; apply Exists.intro; refine And.intro (fun x => ?_) ?_
      · go_big_quiet_step (fail); exact wpQuiet_nil rfl
      refine Dm.wpE_take (i := 10) (listed' := (Dm.bits 15 2047)) (by kernel_rfl) (by kernel_rfl) rfl (fun _ _ _ _ h => h) ?_; apply Exists.intro; refine And.intro (fun x => ?_) ?_
      · go_big_quiet_step (fail); exact wpQuiet_nil rfl
      refine Dm.wpE_take (i := 11) (listed' := (Dm.bits 15 4095)) (by kernel_rfl) (by kernel_rfl) rfl (fun _ _ _ _ h => h) ?_; apply Exists.intro; refine And.intro (fun x => ?_) ?_
      · go_big_quiet_step (fail); exact wpQuiet_nil rfl
      refine Dm.wpE_one (i := 12) (listed' := (Dm.bits 15 8191)) (by kernel_rfl) (by kernel_rfl) rfl hb (fun w1a hx1a => ?_)
      have hX1a := Ext.trans hb hx1a
      have hoa := Ext.row ho hx1a
      go_wp2_with fail
      have hl := Sl.lit w1a 42 9 1 #[.string s, .int .u64 (vG l 0 : Nat), .int .u64 (vG l 1 : Nat), .int .u64 (vG l 2 : Nat), .int .u64 (vG l 3 : Nat), .int .u64 0, .int .u64 0, .int .u64 0, .int .u64 0] rfl (by simp [maxLen])
      have hs1 := (Ext.refl w1a).alloc (.cells #[.string s, .int .u64 (vG l 0 : Nat), .int .u64 (vG l 1 : Nat), .int .u64 (vG l 2 : Nat), .int .u64 (vG l 3 : Nat), .int .u64 0, .int .u64 0, .int .u64 0, .int .u64 0] 42)
      generalize w1a.alloc (.cells #[.string s, .int .u64 (vG l 0 : Nat), .int .u64 (vG l 1 : Nat), .int .u64 (vG l 2 : Nat), .int .u64 (vG l 3 : Nat), .int .u64 0, .int .u64 0, .int .u64 0, .int .u64 0] 42) = w1b at *
      have hX1b := Ext.trans hX1a hs1
      replace hoa := Ext.row hoa hs1
      try simp only [Exit.then, Act.put, List.setIfInBounds_toArray, List.set_cons_succ, List.set_cons_zero]
      refine Dm.wpE_one (i := 13) (listed' := (Dm.bits 15 16383)) (by kernel_rfl) (by kernel_rfl) rfl hX1b (fun w2a hx2a => ?_)
      have hX2a := Ext.trans hX1b hx2a
      replace hl := hl.ext hx2a
      refine wpList_appE rfl _ _ Tryz.slEntR rfl hX2a rfl (Ext.row hoa hx2a) rfl hl hone.out (by omega) ?_
      intro v2 w2b ho3 hX2b _
      refine wpList_nil ?_
      try simp only [Exit.then, Act.put, List.setIfInBounds_toArray, List.set_cons_succ, List.set_cons_zero]
      refine Dm.wpE_take (i := 14) (listed' := (Dm.bits 15 32767)) (by kernel_rfl) (by kernel_rfl) rfl (fun _ _ _ _ h => h) ?_; apply Exists.intro; refine And.intro (fun x => ?_) ?_
      · go_big_quiet_step (fail); exact wpQuiet_nil rfl
      refine Dm.wpE_done (by kernel_rfl) hX2b (fun w3a hx3a => ?_)
      have hX3a := Ext.trans hX2b hx3a
      replace ho3 := Ext.row ho3 hx3a
      go_wp2
      go_roundw
      case rel => exact ⟨k + 1, by omega, by go_num, hX3a, by rw [hst.out]; exact ho3⟩
      case measure => simp [intOf]; omega
    · obtain rfl : k = R.length := by omega
      rw [List.take_length] at ho
      have hT := Tree.of_row ho (by rw [freeT_len])
      obtain ⟨_, a0, a1, a2, a3, _, _, _, _⟩ := (hV.ext hb).four
      have C := CC.out wr _ hT
      replace C := Lib.hid C
      go_wp2_with fail
      refine C.out.mono ?_; rintro e w8 ⟨v8, rfl, _, h8⟩
      go_wp2
      go_ret
      exact ⟨by rw [hbool.out]; simp; rw [Bool.eq_iff_iff]; simp, (hE.trans hb).trans h8⟩
end Go.Proofs.YtopnllbfhhjobaaGreatDoor

namespace Go.Dm
open Go Go.RowKit
/-- The root's, or there is one right above it. -/
def HasUp (p : ByteArray) : Prop := p = ⟨#[]⟩ ∨ 2 ≤ (abvB p).length
theorem namB_up {p : ByteArray} (h : namB p = true) : HasUp p := by
  by_cases he : p = ⟨#[]⟩
  · exact Or.inl he
  · refine Or.inr ?_
    unfold namB at h
    rw [decide_eq_false he, Bool.false_or] at h
    have h2 : partsL p.data.toList ≠ [] := fun e => by rw [under_none e] at h; cases h
    have h3 := List.length_pos_iff.2 h2
    show 2 ≤ (upsB p).length + 1
    unfold upsB upsL
    simp only [List.length_map, List.length_range]
    omega
end Go.Dm
namespace Go.Proofs.YtopnllbfhhjobaaGreatDoor
open Go.RowKit Go.Dm
set_option maxHeartbeats 8000000 in
set_option maxRecDepth 100000 in
theorem dbelow_w (R : List EntQ) (q : ByteArray) (v : Value) (w : World) (hm : R.length ≤ 1099511627776) (hR : FitT R) (hN : ∀ k, k < R.length → HasUp (eAt R k).1) (hx : Tree w v R) :
    Calls Tryz.prog 53 #[v, .string q] w fun e w' => ∃ s : Vc, e = .returned (.tuple #[vVal s, .bool (sumF q R noV).isSome]) ∧ (∀ x, sumF q R noV = some x → s = x) ∧ Ext w w' := by
  obtain ⟨qa, cap, rfl, _, _⟩ := hx.shape
  have CP := fun (x : ByteArray) (hx : x.size ≤ 1048576) (h2 : 2 ≤ (abvB x).length) U => dparent_w x U hx h2
  have CA := fun s x (hs : OkV s) (hx : OkV x) U => r03add_w s x hs hx U
  have hE : Ext w ((w.alloc (.cells #[.int .u64 0, .int .u64 0, .int .u64 0, .int .u64 0] 34)).alloc (.cells #[.int .u64 0, .int .u64 0, .int .u64 0, .int .u64 0] 34)) := ((Ext.refl w).alloc _).alloc _
  have hA : VBox w.heap.size (vG noV) ((w.alloc (.cells #[.int .u64 0, .int .u64 0, .int .u64 0, .int .u64 0] 34)).alloc (.cells #[.int .u64 0, .int .u64 0, .int .u64 0, .int .u64 0] 34)) := (VBox.new w (vG noV) 34).ext ((Ext.refl _).alloc _)
  have hS : VBox (w.heap.size + 1) (vG noV) ((w.alloc (.cells #[.int .u64 0, .int .u64 0, .int .u64 0, .int .u64 0] 34)).alloc (.cells #[.int .u64 0, .int .u64 0, .int .u64 0, .int .u64 0] 34)) := by
    have h := VBox.new (w.alloc (.cells #[.int .u64 0, .int .u64 0, .int .u64 0, .int .u64 0] 34)) (vG noV) 34
    rw [World.size_alloc] at h
    exact h
  have hst := fun (k : Nat) (hk : k < R.length) (s : Vc) => (show sumF q (R.drop k) s = if (eAt R k).1 = ⟨#[]⟩ ∨ parB (eAt R k).1 ≠ q then sumF q (R.drop (k + 1)) s else if vaddOk s (eAt R k).2.2 = true then sumF q (R.drop (k + 1)) (vadd s (eAt R k).2.2) else none by
    rw [List.drop_eq_getElem_cons hk, ← eAt_eq hk]; rfl)
  have hst0 := fun s => show sumF q [] s = some s from rfl
  obtain ⟨H, hH⟩ : ∃ H, sumF q R noV = H := ⟨_, rfl⟩
  rw [hH]
  generalize sumF q = sf at *
  unfold vVal vF at *
  replace CP := Lib.hid CP
  replace CA := Lib.hid CA
  replace hst := Lib.hid hst
  replace hst0 := Lib.hid hst0
  replace hN := Lib.hid hN
  replace hH := Lib.hid hH
  obtain ⟨_, z0, z1, z2, z3, f0, f1, f2, f3⟩ := hS.four
  change World.cell? _ _ = some (.int .u64 0) at z0 z1 z2 z3
  go_enter Tryz.func53, Tryz.ntmps53
  go_wp2
  go_loopw [7, 8, 9] (fun i _ _ wr => ∃ (k : Nat) (s : Vc), k ≤ R.length ∧ i = .int .i64 k ∧ OkV s ∧ Ext w wr ∧ VBox (w.heap.size + 1) (vG s) wr ∧ VBox w.heap.size (vG noV) wr ∧ Hid (sf R noV = sf (R.drop k) s)) (fun i _ _ _ => R.length - (intOf i).toNat)
  case atStart => exact ⟨0, noV, by omega, rfl, okV_no, hE, hS, hA, rfl⟩
  case round =>
    clear z0 z1 z2 z3 f0 f1 f2 f3 hS hA hE
    obtain ⟨k, s, hk, rfl, hs, hb, hS, hA, HS⟩ := hrel
    by_cases hlt : k < R.length
    · obtain ⟨b, off, rfl, hbl, hcs⟩ := (hx.ext hb).at hlt
      have hxf := hR.at hlt
      have hup := hN.out k hlt
      have hS1 := hst.out k hlt s
      have HS1 := HS.out
      rw [hS1] at HS1
      clear hS1
      obtain ⟨⟨xs, xl, xu⟩, hr⟩ : ∃ r, eAt R k = r := ⟨_, rfl⟩
      have hcs2 : ∀ U, Ext wr U → ∀ j', j' < 9 → U.cell? ⟨b, off + k * 9 + j', none⟩ = (entOne (eAt R k))[j']? := fun U hU j' hj' => by rw [hU.cell (by exact hbl)]; exact hcs j' hj'
      rw [hr] at hcs hcs2 hxf HS1 hup
      clear hr HS
      simp only at hxf HS1 hup
      obtain ⟨hxs, hxl, hxu⟩ := hxf
      replace HS1 := Lib.hid HS1
      replace hcs2 := Lib.hid hcs2
      replace hup := Lib.hid hup
      have c0 := hcs 0 (by omega)
      have c1 := hcs 1 (by omega)
      have c2 := hcs 2 (by omega)
      have c3 := hcs 3 (by omega)
      have c4 := hcs 4 (by omega)
      have c5 := hcs 5 (by omega)
      have c6 := hcs 6 (by omega)
      have c7 := hcs 7 (by omega)
      have c8 := hcs 8 (by omega)
      simp only [entOne, uAt, List.getElem?_cons_zero, List.getElem?_cons_succ, Nat.add_zero] at c0 c1 c2 c3 c4 c5 c6 c7 c8
      clear hcs
      by_cases hne : xs = ⟨#[]⟩
      · have hz2 : xs.toList = [] := by rw [hne, ByteArray.toList_eq]
        have HS2 := HS1.out
        rw [if_pos (Or.inl hne)] at HS2
        replace HS2 := Lib.hid HS2
        clear HS1
        subst hne
        go_wp2
        go_roundw
        case rel => exact ⟨k + 1, s, by omega, by go_num, hs, hb, hS, hA, HS2.out⟩
        case measure => simp [intOf]; omega
      · have hz2 : xs.toList.isEmpty = false := by
          rw [List.isEmpty_eq_false_iff, ByteArray.toList_eq]
          intro e
          exact hne (mk_bytes e)
        have hz3 : ¬ xs.toList = [] := by rw [← List.isEmpty_iff, hz2]; simp
        have CP2 := CP.out xs hxs (hup.out.resolve_left hne)
        by_cases hq : parB xs = q
        · have HS2 := HS1.out
          rw [if_neg (fun h => h.elim hne (fun h => h hq))] at HS2
          replace HS2 := Lib.hid HS2
          clear HS1 hne
          rw [hq] at CP2
          clear hq
          replace CP2 := Lib.hid CP2
          go_wp2_with fail
          refine (CP2.out _).mono ?_; rintro e w2 ⟨rfl, h2⟩
          clear c0 c1 c2 c3 c4 c5 c6 c7 c8
          replace hS := hS.ext h2
          replace hA := hA.ext h2
          replace hb := hb.trans h2
          have hbl2 : b < w2.heap.size := Nat.lt_of_lt_of_le hbl h2.size
          have hcs := hcs2.out w2 h2
          clear h2
          have c0 := hcs 0 (by omega)
          have c1 := hcs 1 (by omega)
          have c2 := hcs 2 (by omega)
          have c3 := hcs 3 (by omega)
          have c4 := hcs 4 (by omega)
          have c5 := hcs 5 (by omega)
          have c6 := hcs 6 (by omega)
          have c7 := hcs 7 (by omega)
          have c8 := hcs 8 (by omega)
          simp only [entOne, uAt, List.getElem?_cons_zero, List.getElem?_cons_succ, Nat.add_zero] at c0 c1 c2 c3 c4 c5 c6 c7 c8
          clear hcs
          obtain ⟨zl, z0, z1, z2, z3, _, _, _, _⟩ := hS.four
          have CA2 := CA.out s xu hs hxu
          cases hd : vaddOk s xu with
          | false =>
            rw [hd] at CA2
            have HS3 := HS2.out
            rw [hd, if_neg (by simp)] at HS3
            have hHs : Hid (H = none) := by
              show H = none
              rw [← hH.out]; exact HS3
            clear HS2 HS3
            generalize vG (vOr false (vadd s xu)) = N at CA2
            replace CA2 := Lib.hid CA2
            go_wp2_with fail
            try simp only [Act.put, List.setIfInBounds_toArray, List.set_cons_succ, List.set_cons_zero]
            refine Dm.wp_region_ext 13 (Dm.bits 13 0) (Ext.refl w2) (by kernel_rfl) (by kernel_rfl) (by kernel_rfl) ?_
            refine Dm.wpE_take (i := 0) (listed' := (Dm.bits 13 1)) (by kernel_rfl) (by kernel_rfl) rfl (fun _ _ _ _ h => h) ?_; apply Exists.intro; refine And.intro (fun x => ?_) ?_
            · go_big_quiet_step ((go_at_call 42; with_reducible exact Calls.quietE (CA2.out _))); exact wpQuiet_nil rfl
            refine Dm.wpE_take (i := 1) (listed' := (Dm.bits 13 3)) (by kernel_rfl) (by kernel_rfl) rfl (fun _ _ _ _ h => h) ?_; apply Exists.intro; refine And.intro (fun x => ?_) ?_
            · go_big_quiet_step ((go_at_call 42; with_reducible exact Calls.quietE (CA2.out _))); exact wpQuiet_nil rfl
            refine Dm.wpE_take (i := 2) (listed' := (Dm.bits 13 7)) (by kernel_rfl) (by kernel_rfl) rfl (fun _ _ _ _ h => h) ?_; apply Exists.intro; refine And.intro (fun x => ?_) ?_
            · go_big_quiet_step ((go_at_call 42; with_reducible exact Calls.quietE (CA2.out _))); exact wpQuiet_nil rfl
            refine Dm.wpE_take (i := 3) (listed' := (Dm.bits 13 15)) (by kernel_rfl) (by kernel_rfl) rfl (fun _ _ _ _ h => h) ?_; apply Exists.intro; refine And.intro (fun x => ?_) ?_
            · go_big_quiet_step ((go_at_call 42; with_reducible exact Calls.quietE (CA2.out _))); exact wpQuiet_nil rfl
            refine Dm.wpE_take (i := 4) (listed' := (Dm.bits 13 31)) (by kernel_rfl) (by kernel_rfl) rfl (fun _ _ _ _ h => h) ?_; apply Exists.intro; refine And.intro (fun x => ?_) ?_
            · go_big_quiet_step ((go_at_call 42; with_reducible exact Calls.quietE (CA2.out _))); exact wpQuiet_nil rfl
            refine Dm.wpE_take (i := 5) (listed' := (Dm.bits 13 63)) (by kernel_rfl) (by kernel_rfl) rfl (fun _ _ _ _ h => h) ?_; apply Exists.intro; refine And.intro (fun x => ?_) ?_
            · go_big_quiet_step ((go_at_call 42; with_reducible exact Calls.quietE (CA2.out _))); exact wpQuiet_nil rfl
            refine Dm.wpE_take (i := 6) (listed' := (Dm.bits 13 127)) (by kernel_rfl) (by kernel_rfl) rfl (fun _ _ _ _ h => h) ?_; apply Exists.intro; refine And.intro (fun x => ?_) ?_
            · go_big_quiet_step ((go_at_call 42; with_reducible exact Calls.quietE (CA2.out _))); exact wpQuiet_nil rfl
            refine Dm.wpE_take (i := 7) (listed' := (Dm.bits 13 255)) (by kernel_rfl) (by kernel_rfl) rfl (fun _ _ _ _ h => h) ?_; apply Exists.intro; refine And.intro (fun x => ?_) ?_
            · go_big_quiet_step ((go_at_call 42; with_reducible exact Calls.quietE (CA2.out _))); exact wpQuiet_nil rfl
            refine Dm.wpE_take (i := 8) (listed' := (Dm.bits 13 511)) (by kernel_rfl) (by kernel_rfl) rfl (fun _ _ _ _ h => h) ?_; apply Exists.intro; refine And.intro (fun x => ?_) ?_
            · go_big_quiet_step ((go_at_call 42; with_reducible exact Calls.quietE (CA2.out _))); exact wpQuiet_nil rfl
            refine Dm.wpE_take (i := 9) (listed' := (Dm.bits 13 1023)) (by kernel_rfl) (by kernel_rfl) rfl (fun _ _ _ _ h => h) ?_; apply Exists.intro; refine And.intro (fun x => ?_) ?_
            · go_big_quiet_step ((go_at_call 42; with_reducible exact Calls.quietE (CA2.out _))); exact wpQuiet_nil rfl
            refine Dm.wpE_one (i := 10) (listed' := (Dm.bits 13 2047)) (by kernel_rfl) (by kernel_rfl) rfl (Ext.refl w2) (fun w1a hx1a => ?_)
            have hX1a := Ext.trans (Ext.refl w2) hx1a
            have hz := VBox.new w1a (fun _ => 0) 34
            have hzl := (hX1a).size
            go_wp2_with fail
            have hs1 := (Ext.refl w1a).alloc (.cells #[.int .u64 0, .int .u64 0, .int .u64 0, .int .u64 0] 34)
            have hX1b := Ext.trans hX1a hs1
            change VBox _ _ (w1a.alloc (.cells #[.int .u64 0, .int .u64 0, .int .u64 0, .int .u64 0] 34)) at hz
            generalize w1a.alloc (.cells #[.int .u64 0, .int .u64 0, .int .u64 0, .int .u64 0] 34) = w1b at *
            generalize w1a.heap.size = bhD at *
            try simp only [Exit.then, Act.put]
            refine Dm.wpE_one (i := 11) (listed' := (Dm.bits 13 4095)) (by kernel_rfl) (by kernel_rfl) rfl hX1b (fun w2a hx2a => ?_)
            have hX2a := Ext.trans hX1b hx2a
            replace hz := hz.ext hx2a
            obtain ⟨_, y0, y1, y2, y3, x0, x1, x2, x3⟩ := hz.four
            have hD := hz.put (N)
            have hX2b := Ext.put4 hX2a (b := bhD) (by omega) (N)
            go_wp2_with fail
            clear y0 y1 y2 y3 x0 x1 x2 x3
            unfold Dm.put4 at hD hX2b
            generalize (((w2a.setCell ⟨bhD, 0, none⟩ (.int .u64 (N 0 : Nat))).setCell ⟨bhD, 1, none⟩ (.int .u64 (N 1 : Nat))).setCell ⟨bhD, 2, none⟩ (.int .u64 (N 2 : Nat))).setCell ⟨bhD, 3, none⟩ (.int .u64 (N 3 : Nat)) = w2b at *
            try simp only [Exit.then, Act.put]
            refine Dm.wpE_take (i := 12) (listed' := (Dm.bits 13 8191)) (by kernel_rfl) (by kernel_rfl) rfl (fun _ _ _ _ h => h) ?_; apply Exists.intro; refine And.intro (fun x => ?_) ?_
            · go_big_quiet_step ((go_at_call 42; with_reducible exact Calls.quietE (CA2.out _))); exact wpQuiet_nil rfl
            refine Dm.wpE_done (by kernel_rfl) hX2b (fun w3a hx3a => ?_)
            have hX3a := Ext.trans hX2b hx3a
            replace hD := hD.ext hx3a
            clear zl z0 z1 z2 z3 c0 c1 c2 c3 c4 c5 c6 c7 c8
            replace hS := hS.ext hX3a
            replace hA := hA.ext hX3a
            replace hb := hb.trans hX3a
            clear hX3a
            generalize w3a = w6 at *
            obtain ⟨_, z0, z1, z2, z3, _, _, _, _⟩ := hS.four
            obtain ⟨_, y0, y1, y2, y3, f0, f1, f2, f3⟩ := hA.four
            change World.cell? _ _ = some (.int .u64 0) at y0 y1 y2 y3
            go_wp2
            have hP := hA.put (vG s)
            have hPE := Ext.put4 hb (b := w.heap.size) (by omega) (vG s)
            unfold Dm.put4 at hP hPE
            obtain ⟨_, k0, k1, k2, k3, _, _, _, _⟩ := hP.four
            refine bodyPost_ret (v := .tuple #[.agg #[.int .u64 (vG s 0 : Nat), .int .u64 (vG s 1 : Nat), .int .u64 (vG s 2 : Nat), .int .u64 (vG s 3 : Nat)], .bool false]) (by simp [results, Tryz.results53, go_sem, k0, k1, k2, k3]) rfl ?_
            exact ⟨s, by rw [hHs.out]; rfl, (fun x hx => by rw [hHs.out] at hx; cases hx), hPE⟩
          | true =>
            have HS3 := HS2.out
            rw [hd, if_pos rfl] at HS3
            have hok : OkV (vadd s xu) := vadd_okV hd
            rw [hd, show vOr true (vadd s xu) = vadd s xu from rfl] at CA2
            clear HS2 hd
            generalize vadd s xu = n at *
            replace HS3 := Lib.hid HS3
            replace CA2 := Lib.hid CA2
            go_wp2_with fail
            try simp only [Act.put, List.setIfInBounds_toArray, List.set_cons_succ, List.set_cons_zero]
            refine Dm.wp_region_ext 13 (Dm.bits 13 0) (Ext.refl w2) (by kernel_rfl) (by kernel_rfl) (by kernel_rfl) ?_
            refine Dm.wpE_take (i := 0) (listed' := (Dm.bits 13 1)) (by kernel_rfl) (by kernel_rfl) rfl (fun _ _ _ _ h => h) ?_; apply Exists.intro; refine And.intro (fun x => ?_) ?_
            · go_big_quiet_step ((go_at_call 42; with_reducible exact Calls.quietE (CA2.out _))); exact wpQuiet_nil rfl
            refine Dm.wpE_take (i := 1) (listed' := (Dm.bits 13 3)) (by kernel_rfl) (by kernel_rfl) rfl (fun _ _ _ _ h => h) ?_; apply Exists.intro; refine And.intro (fun x => ?_) ?_
            · go_big_quiet_step ((go_at_call 42; with_reducible exact Calls.quietE (CA2.out _))); exact wpQuiet_nil rfl
            refine Dm.wpE_take (i := 2) (listed' := (Dm.bits 13 7)) (by kernel_rfl) (by kernel_rfl) rfl (fun _ _ _ _ h => h) ?_; apply Exists.intro; refine And.intro (fun x => ?_) ?_
            · go_big_quiet_step ((go_at_call 42; with_reducible exact Calls.quietE (CA2.out _))); exact wpQuiet_nil rfl
            refine Dm.wpE_take (i := 3) (listed' := (Dm.bits 13 15)) (by kernel_rfl) (by kernel_rfl) rfl (fun _ _ _ _ h => h) ?_; apply Exists.intro; refine And.intro (fun x => ?_) ?_
            · go_big_quiet_step ((go_at_call 42; with_reducible exact Calls.quietE (CA2.out _))); exact wpQuiet_nil rfl
            refine Dm.wpE_take (i := 4) (listed' := (Dm.bits 13 31)) (by kernel_rfl) (by kernel_rfl) rfl (fun _ _ _ _ h => h) ?_; apply Exists.intro; refine And.intro (fun x => ?_) ?_
            · go_big_quiet_step ((go_at_call 42; with_reducible exact Calls.quietE (CA2.out _))); exact wpQuiet_nil rfl
            refine Dm.wpE_take (i := 5) (listed' := (Dm.bits 13 63)) (by kernel_rfl) (by kernel_rfl) rfl (fun _ _ _ _ h => h) ?_; apply Exists.intro; refine And.intro (fun x => ?_) ?_
            · go_big_quiet_step ((go_at_call 42; with_reducible exact Calls.quietE (CA2.out _))); exact wpQuiet_nil rfl
            refine Dm.wpE_take (i := 6) (listed' := (Dm.bits 13 127)) (by kernel_rfl) (by kernel_rfl) rfl (fun _ _ _ _ h => h) ?_; apply Exists.intro; refine And.intro (fun x => ?_) ?_
            · go_big_quiet_step ((go_at_call 42; with_reducible exact Calls.quietE (CA2.out _))); exact wpQuiet_nil rfl
            refine Dm.wpE_take (i := 7) (listed' := (Dm.bits 13 255)) (by kernel_rfl) (by kernel_rfl) rfl (fun _ _ _ _ h => h) ?_; apply Exists.intro; refine And.intro (fun x => ?_) ?_
            · go_big_quiet_step ((go_at_call 42; with_reducible exact Calls.quietE (CA2.out _))); exact wpQuiet_nil rfl
            refine Dm.wpE_take (i := 8) (listed' := (Dm.bits 13 511)) (by kernel_rfl) (by kernel_rfl) rfl (fun _ _ _ _ h => h) ?_; apply Exists.intro; refine And.intro (fun x => ?_) ?_
            · go_big_quiet_step ((go_at_call 42; with_reducible exact Calls.quietE (CA2.out _))); exact wpQuiet_nil rfl
            refine Dm.wpE_take (i := 9) (listed' := (Dm.bits 13 1023)) (by kernel_rfl) (by kernel_rfl) rfl (fun _ _ _ _ h => h) ?_; apply Exists.intro; refine And.intro (fun x => ?_) ?_
            · go_big_quiet_step ((go_at_call 42; with_reducible exact Calls.quietE (CA2.out _))); exact wpQuiet_nil rfl
            refine Dm.wpE_one (i := 10) (listed' := (Dm.bits 13 2047)) (by kernel_rfl) (by kernel_rfl) rfl (Ext.refl w2) (fun w1a hx1a => ?_)
            have hX1a := Ext.trans (Ext.refl w2) hx1a
            have hz := VBox.new w1a (fun _ => 0) 34
            have hzl := (hX1a).size
            go_wp2_with fail
            have hs1 := (Ext.refl w1a).alloc (.cells #[.int .u64 0, .int .u64 0, .int .u64 0, .int .u64 0] 34)
            have hX1b := Ext.trans hX1a hs1
            change VBox _ _ (w1a.alloc (.cells #[.int .u64 0, .int .u64 0, .int .u64 0, .int .u64 0] 34)) at hz
            generalize w1a.alloc (.cells #[.int .u64 0, .int .u64 0, .int .u64 0, .int .u64 0] 34) = w1b at *
            generalize w1a.heap.size = bhD at *
            try simp only [Exit.then, Act.put]
            refine Dm.wpE_one (i := 11) (listed' := (Dm.bits 13 4095)) (by kernel_rfl) (by kernel_rfl) rfl hX1b (fun w2a hx2a => ?_)
            have hX2a := Ext.trans hX1b hx2a
            replace hz := hz.ext hx2a
            obtain ⟨_, y0, y1, y2, y3, x0, x1, x2, x3⟩ := hz.four
            have hD := hz.put (vG n)
            have hX2b := Ext.put4 hX2a (b := bhD) (by omega) (vG n)
            go_wp2_with fail
            clear y0 y1 y2 y3 x0 x1 x2 x3
            unfold Dm.put4 at hD hX2b
            generalize (((w2a.setCell ⟨bhD, 0, none⟩ (.int .u64 (vG n 0 : Nat))).setCell ⟨bhD, 1, none⟩ (.int .u64 (vG n 1 : Nat))).setCell ⟨bhD, 2, none⟩ (.int .u64 (vG n 2 : Nat))).setCell ⟨bhD, 3, none⟩ (.int .u64 (vG n 3 : Nat)) = w2b at *
            try simp only [Exit.then, Act.put]
            refine Dm.wpE_take (i := 12) (listed' := (Dm.bits 13 8191)) (by kernel_rfl) (by kernel_rfl) rfl (fun _ _ _ _ h => h) ?_; apply Exists.intro; refine And.intro (fun x => ?_) ?_
            · go_big_quiet_step ((go_at_call 42; with_reducible exact Calls.quietE (CA2.out _))); exact wpQuiet_nil rfl
            refine Dm.wpE_done (by kernel_rfl) hX2b (fun w3a hx3a => ?_)
            have hX3a := Ext.trans hX2b hx3a
            replace hD := hD.ext hx3a
            clear zl z0 z1 z2 z3 c0 c1 c2 c3 c4 c5 c6 c7 c8
            replace hS := hS.ext hX3a
            replace hA := hA.ext hX3a
            replace hb := hb.trans hX3a
            clear hX3a
            generalize w3a = w6 at *
            obtain ⟨_, a0, a1, a2, a3, f0, f1, f2, f3⟩ := hS.four
            obtain ⟨_, n0, n1, n2, n3, _, _, _, _⟩ := hD.four
            go_wp2
            go_roundw
            case rel =>
              have hPV := hS.put (vG n)
              have hPB := hA.put_far (c := w.heap.size + 1) (by omega) (vG n)
              have hPE := Ext.put4 hb (b := w.heap.size + 1) (by omega) (vG n)
              exact ⟨k + 1, n, by omega, by go_num, hok, hPE, hPV, hPB, HS3.out⟩
            case measure => simp [intOf]; omega
        · have HS2 := HS1.out
          rw [if_pos (Or.inr hq)] at HS2
          replace HS2 := Lib.hid HS2
          have hqb := beq_bytes (parB xs) q
          rw [decide_eq_false hq] at hqb
          have hqt : ¬ (parB xs).toList = q.toList := fun h => hq (bytes_eq.1 (by simpa using h))
          clear HS1 hne hq
          generalize parB xs = px at *
          replace CP2 := Lib.hid CP2
          go_wp2_with fail
          refine (CP2.out _).mono ?_; rintro e w2 ⟨rfl, h2⟩
          go_wp2
          go_roundw
          case rel => exact ⟨k + 1, s, by omega, by go_num, hs, hb.trans h2, hS.ext h2, hA.ext h2, HS2.out⟩
          case measure => simp [intOf]; omega
    · obtain rfl : k = R.length := by omega
      have HS2 := HS.out
      rw [List.drop_length, hst0.out] at HS2
      have hHs : Hid (H = some s) := by
        show H = some s
        rw [← hH.out]; exact HS2
      clear HS HS2
      obtain ⟨_, z0, z1, z2, z3, _, _, _, _⟩ := hS.four
      obtain ⟨_, y0, y1, y2, y3, f0, f1, f2, f3⟩ := hA.four
      change World.cell? _ _ = some (.int .u64 0) at y0 y1 y2 y3
      go_wp2
      have hP := hA.put (vG s)
      have hPE := Ext.put4 hb (b := w.heap.size) (by omega) (vG s)
      unfold Dm.put4 at hP hPE
      obtain ⟨_, k0, k1, k2, k3, _, _, _, _⟩ := hP.four
      refine bodyPost_ret (v := .tuple #[.agg #[.int .u64 (vG s 0 : Nat), .int .u64 (vG s 1 : Nat), .int .u64 (vG s 2 : Nat), .int .u64 (vG s 3 : Nat)], .bool true]) (by simp [results, Tryz.results53, go_sem, k0, k1, k2, k3]) rfl ?_
      exact ⟨s, by rw [hHs.out]; rfl, (fun x hx => by rw [hHs.out] at hx; injection hx), hPE⟩
end Go.Proofs.YtopnllbfhhjobaaGreatDoor

namespace Go.Dm
open Go Go.RowKit
theorem less_nil (a : Bs) : Op.bytesLess a [] = false := by cases a <;> rfl
theorem rightQ_hold {t : List EntQ} (h : rightQ t = t.all (holdsT t)) {k : Nat} (hk : k < t.length) (hf : holdsT t (eAt t k) = false) : rightQ t = false := by
  rw [h, Bool.eq_false_iff]
  intro h2
  rw [List.all_eq_true] at h2
  rw [h2 _ (eAt_mem hk)] at hf; cases hf
theorem rightQ_holds {t : List EntQ} (h : rightQ t = t.all (holdsT t)) (hf : ∀ k, k < t.length → holdsT t (eAt t k) = true) : rightQ t = true := by
  rw [h, List.all_eq_true]
  intro x hx
  obtain ⟨k, hk, rfl⟩ := List.getElem_of_mem hx
  rw [← eAt_eq hk]
  exact hf k hk
end Go.Dm
namespace Go.Proofs.YtopnllbfhhjobaaGreatDoor
open Go.RowKit Go.Dm
set_option maxHeartbeats 8000000 in
set_option maxRecDepth 100000 in
theorem dright_w (R : List EntQ) (v : Value) (w : World) (hm : R.length ≤ 1099511627776) (hR : FitT R) (hx : Tree w v R) :
    Calls Tryz.prog 21 #[v] w fun r w' => r = .returned (.bool (rightQ R)) ∧ Ext w w' := by
  have hpsz : ∀ k, k < R.length → (eAt R k).1.size ≤ 1048576 := fun k hk => (hR.at hk).1
  have hr1 : ¬ (1 ≤ R.length ∧ R.length ≤ 16 ∧ (eAt R 0).1 = ⟨#[]⟩) → rightQ R = false := rightQ_no1
  have hr2 : ∀ k, k < R.length → okQ R k = false → rightQ R = false := fun k hk h => rightQ_no2 hk h
  have hr3 : (1 ≤ R.length ∧ R.length ≤ 16 ∧ (eAt R 0).1 = ⟨#[]⟩) → (∀ k, k < R.length → okQ R k = true) → rightQ R = R.all (holdsT R) := rightQ_fin
  have hr5 : rightQ R = R.all (holdsT R) → ∀ k, k < R.length → holdsT R (eAt R k) = false → rightQ R = false := fun h k hk => rightQ_hold h hk
  have hr6 : rightQ R = R.all (holdsT R) → (∀ k, k < R.length → holdsT R (eAt R k) = true) → rightQ R = true := rightQ_holds
  have hokd := fun k => show okQ R k = (decide (k = 0) || (Op.bytesLess (eAt R (k - 1)).1.data.toList (eAt R k).1.data.toList && (namB (eAt R k).1 && decide (plN R (parB (eAt R k).1) < R.length)))) from rfl
  have hhd := fun (s : ByteArray) (l u : Vc) => show holdsT R (s, l, u) = (match sumF s R noV with
    | none => false
    | some z => vfits u l && vfits z u) from rfl
  obtain ⟨q, cap, rfl, _, _⟩ := hx.shape
  have CN := fun (x : ByteArray) (hx : x.size ≤ 1048576) U => dnamed_w x U hx
  have CP := fun (x : ByteArray) (hx : x.size ≤ 1048576) (h2 : 2 ≤ (abvB x).length) U => dparent_w x U hx h2
  have CL := fun (x : ByteArray) U (h : Ext w U) => dfind_w R x _ U hm (hx.ext h)
  have CB := fun (hN : ∀ k, k < R.length → HasUp (eAt R k).1) (x : ByteArray) U (h : Ext w U) => dbelow_w R x _ U hm hR hN (hx.ext h)
  have CF := fun (a b : Vc) U => r03fits_w a b U
  have hne0 : R.all (holdsT R) = R.all (holdsT R) := rfl
  clear hne0
  generalize R.all (holdsT R) = al at *
  generalize rightQ R = rq at *
  generalize holdsT R = hq at *
  generalize okQ R = ok at *
  unfold vVal vF at CB CF
  replace hpsz := Lib.hid hpsz
  replace hr1 := Lib.hid hr1
  replace hr2 := Lib.hid hr2
  replace hr3 := Lib.hid hr3
  replace hr5 := Lib.hid hr5
  replace hr6 := Lib.hid hr6
  replace hokd := Lib.hid hokd
  replace hhd := Lib.hid hhd
  replace CN := Lib.hid CN
  replace CP := Lib.hid CP
  replace CL := Lib.hid CL
  replace CB := Lib.hid CB
  replace CF := Lib.hid CF
  go_enter Tryz.func21, Tryz.ntmps21
  by_cases h1 : R.length < 1
  · have hf := Lib.hid (hr1.out (by omega))
    go_wp2
    go_ret
    exact ⟨by rw [hf.out]; rfl, Ext.refl _⟩
  by_cases h16 : 16 < R.length
  · have hf := Lib.hid (hr1.out (by omega))
    go_wp2
    go_ret
    exact ⟨by rw [hf.out]; rfl, Ext.refl _⟩
  obtain ⟨tb, toff, rfl, htbl, hcs⟩ := hx.at (show 0 < R.length by omega)
  have f0 := hcs 0 (by omega)
  simp only [entOne, List.getElem?_cons_zero, Nat.add_zero, Nat.zero_mul] at f0
  clear hcs
  by_cases hp0 : (eAt R 0).1 = ⟨#[]⟩
  case neg =>
    have hf := Lib.hid (hr1.out (fun h => hp0 h.2.2))
    generalize (eAt R 0).1 = p0 at *
    have hz2 : p0.toList.isEmpty = false := by
      rw [List.isEmpty_eq_false_iff, ByteArray.toList_eq]
      intro e
      exact hp0 (mk_bytes e)
    have hz3 : ¬ p0.toList = [] := by rw [← List.isEmpty_iff, hz2]; simp
    clear hp0 hr3
    go_wp2
    go_ret
    exact ⟨by rw [hf.out]; rfl, Ext.refl _⟩
  have hr4 := Lib.hid (hr3.out ⟨by omega, by omega, hp0⟩)
  have hup0 := Lib.hid (show HasUp (eAt R 0).1 from Or.inl hp0)
  rw [hp0] at f0
  clear hp0 hr1 hr3
  go_wp2
  clear f0
  have hok0 : ok 0 = true := by rw [hokd.out]; rfl
  go_loopw [3] (fun i wr => ∃ k : Nat, 1 ≤ k ∧ k ≤ R.length ∧ i = .int .i64 k ∧ Ext w wr ∧ Hid (∀ j, j < k → ok j = true)) (fun i _ => R.length - (intOf i).toNat)
  case atStart => exact ⟨1, by omega, by omega, rfl, Ext.refl w, fun j hj => by
    obtain rfl : j = 0 := by omega
    exact hok0⟩
  case round =>
    clear hok0
    obtain ⟨k, hk1, hk', rfl, hb, HN⟩ := hrel
    by_cases hlt : k < R.length
    · have hxw := hx.ext hb
      obtain ⟨b, off, hbe, hbl, hcs⟩ := hxw.at hlt
      injection hbe with hbe; injection hbe with e1 e2
      subst e1 e2
      have hko := hokd.out k
      have hps := hpsz.out k hlt
      have hno := fun h => hr2.out k hlt h
      have hN2 : Hid (ok k = true → ∀ j, j < k + 1 → ok j = true) := fun h j hj => by
        rcases Nat.lt_succ_iff_lt_or_eq.1 hj with h' | rfl
        · exact HN.out j h'
        · exact h
      have c0 := hcs 0 (by omega)
      simp only [entOne, List.getElem?_cons_zero, Nat.add_zero] at c0
      clear hcs
      obtain ⟨kk, hkk, hpc⟩ : ∃ kk : Nat, k - 1 = kk ∧ wr.cell? ⟨tb, toff + kk * 9, none⟩ = some (.string (eAt R (k - 1)).1) := ⟨k - 1, rfl, by
        obtain ⟨b', off', hbe, _, hcs⟩ := hxw.at (show k - 1 < R.length by omega)
        injection hbe with hbe; injection hbe with e1 e2
        subst e1 e2
        have := hcs 0 (by omega)
        simpa [entOne] using this⟩
      have hkc : (k : Int) - 1 = (kk : Int) := by omega
      have hkl : kk < R.length := by omega
      have hk0 : ¬ k = 0 := by omega
      generalize ok k = d at hko hno hN2
      generalize (eAt R k).1 = xs at *
      generalize (eAt R (k - 1)).1 = pv at *
      rw [decide_eq_false hk0, Bool.false_or, ← ByteArray.toList_eq, ← ByteArray.toList_eq] at hko
      clear hkk hk0 HN
      have CN2 := fun U => CN.out xs hps U
      have CL2 := fun U h => CL.out (parB xs) U h
      have CP2 := fun h => CP.out xs hps h
      have hnu : namB xs = true → HasUp xs := namB_up
      have hpl := plN_le R (parB xs)
      have hpi : plI R (parB xs) = if plN R (parB xs) < R.length then (plN R (parB xs) : Int) else -1 := rfl
      generalize plI R (parB xs) = pi at *
      generalize plN R (parB xs) = pn at *
      generalize parB xs = px at *
      generalize namB xs = nm at *
      replace CP2 := Lib.hid CP2
      replace CL2 := Lib.hid CL2
      replace CN2 := Lib.hid CN2
      replace hnu := Lib.hid hnu
      replace hpi := Lib.hid hpi
      have hlq : (!leB xs.toList pv.toList) = Op.bytesLess pv.toList xs.toList := not_leB _ _
      unfold leB at hlq
      cases hle : Op.bytesLess pv.toList xs.toList with
      | false =>
        have hf := Lib.hid (hno (by rw [hko, hle]; rfl))
        clear hno hN2 hko
        rw [hle] at hlq
        cases ha : Op.bytesLess xs.toList pv.toList with
        | true =>
          clear hlq
          go_wp2_with fail
          refine Dm.wp_region_grow (by kernel_rfl) (by kernel_rfl) ?_
          repeat (go_big_quiet_step (fail))
          refine wpQuiet_nil ?_
          intro w2 h2
          go_wp2
          go_ret
          exact ⟨by rw [hf.out]; rfl, hb.trans h2⟩
        | false =>
          have hb2 : xs.toList = pv.toList := by rw [ha] at hlq; simpa using hlq
          clear hlq
          go_wp2_with fail
          refine Dm.wp_region_grow (by kernel_rfl) (by kernel_rfl) ?_
          repeat (go_big_quiet_step (fail))
          refine wpQuiet_nil ?_
          intro w2 h2
          go_wp2
          go_ret
          exact ⟨by rw [hf.out]; rfl, hb.trans h2⟩
      | true =>
        rw [hle] at hlq
        have ha : Op.bytesLess xs.toList pv.toList = false := by
          cases h : Op.bytesLess xs.toList pv.toList with
          | false => rfl
          | true => rw [h] at hlq; simp at hlq
        have hb2 : ¬ xs.toList = pv.toList := by
          intro h
          rw [ha, h] at hlq; simp at hlq
        have hb3 : (xs.toList == pv.toList) = false := beq_eq_false_iff_ne.2 hb2
        have hxne : ¬ xs = ⟨#[]⟩ := by
          intro e
          rw [e, show (⟨#[]⟩ : ByteArray).toList = [] by rw [ByteArray.toList_eq], less_nil] at hle
          cases hle
        clear hlq
        rw [hle, Bool.true_and] at hko
        cases nm with
        | false =>
          have hf := Lib.hid (hno (by rw [hko]; rfl))
          clear hno hN2 hko hxne
          go_wp2_with fail
          refine Dm.wp_region_grow (by kernel_rfl) (by kernel_rfl) ?_
          repeat (go_big_quiet_step (first
            | (go_at_call 35; with_reducible exact Calls.quietE (CN2.out _))))
          refine wpQuiet_nil ?_
          intro w2 h2
          go_wp2
          go_ret
          exact ⟨by rw [hf.out]; rfl, hb.trans h2⟩
        | true =>
          rw [Bool.true_and] at hko
          have CP3 := CP2.out ((hnu.out (by trivial)).resolve_left hxne)
          replace CP3 := Lib.hid CP3
          clear hxne
          by_cases hin : pn < R.length
          · have hN3 := Lib.hid (hN2.out (by rw [hko, decide_eq_true hin]))
            have hpe : pi = (pn : Int) := by rw [hpi.out, if_pos hin]
            subst hpe
            clear hko hno hN2 hpi
            go_wp2_with fail
            refine Dm.wp_region_grow (by kernel_rfl) (by kernel_rfl) ?_
            repeat (go_big_quiet_step (first
              | (go_at_call 35; with_reducible exact Calls.quietE (CN2.out _))
              | (go_at_call 36; with_reducible exact Calls.quietE (CP3.out _))
              | (go_at_call 34; with_reducible exact Calls.quietE (CL2.out _ (hb.trans (ext_grow _ _))))))
            refine wpQuiet_nil ?_
            intro w2 h2
            go_wp2
            go_roundw
            case rel => exact ⟨k + 1, by omega, by omega, by go_num, hb.trans h2, hN3⟩
            case measure => simp [intOf]; omega
          · have hf := Lib.hid (hno (by rw [hko, decide_eq_false hin]))
            have hpe : pi = -1 := by rw [hpi.out, if_neg hin]
            subst hpe
            clear hko hno hN2 hpi
            go_wp2_with fail
            refine Dm.wp_region_grow (by kernel_rfl) (by kernel_rfl) ?_
            repeat (go_big_quiet_step (first
              | (go_at_call 35; with_reducible exact Calls.quietE (CN2.out _))
              | (go_at_call 36; with_reducible exact Calls.quietE (CP3.out _))
              | (go_at_call 34; with_reducible exact Calls.quietE (CL2.out _ (hb.trans (ext_grow _ _))))))
            refine wpQuiet_nil ?_
            intro w2 h2
            go_wp2
            go_ret
            exact ⟨by rw [hf.out]; rfl, hb.trans h2⟩
    · obtain rfl : k = R.length := by omega
      have hal := hr4.out (fun k hk => HN.out k hk)
      have hN : ∀ k, k < R.length → HasUp (eAt R k).1 := fun k hk => by
        rcases Nat.eq_zero_or_pos k with rfl | h0
        · exact hup0.out
        · have h2 := HN.out k hk
          rw [hokd.out, decide_eq_false (by omega), Bool.false_or, Bool.and_eq_true, Bool.and_eq_true] at h2
          exact namB_up h2.2.1
      have CB2 := CB.out hN
      replace CB2 := Lib.hid CB2
      have hr7 := Lib.hid (hr5.out hal)
      have hr8 := Lib.hid (hr6.out hal)
      clear hal hN hr4 hr5 hr6 HN hokd hr2
      obtain ⟨wo, hwo⟩ : ∃ wo : World, wo = wr := ⟨_, rfl⟩
      go_wp2
      subst hwo
      go_loopw [4, 5, 6] (fun i _ _ wr => ∃ k : Nat, k ≤ R.length ∧ i = .int .i64 k ∧ Ext w wr ∧ Hid (∀ j, j < k → hq (eAt R j) = true)) (fun i _ _ _ => R.length - (intOf i).toNat)
      case atStart => exact ⟨0, by omega, rfl, hb, fun j hj => by omega⟩
      case round =>
        clear hb
        obtain ⟨k, hk', rfl, hb, HN⟩ := hrel
        by_cases hlt : k < R.length
        · have hxw := hx.ext hb
          obtain ⟨b, off, hbe, hbl, hcs⟩ := hxw.at hlt
          injection hbe with hbe; injection hbe with e1 e2
          subst e1 e2
          have hno := fun h => hr7.out k hlt h
          have hN2 : Hid (hq (eAt R k) = true → ∀ j, j < k + 1 → hq (eAt R j) = true) := fun h j hj => by
            rcases Nat.lt_succ_iff_lt_or_eq.1 hj with h' | rfl
            · exact HN.out j h'
            · exact h
          have hcs2 : ∀ U, Ext wr U → ∀ j', j' < 9 → U.cell? ⟨tb, toff + k * 9 + j', none⟩ = (entOne (eAt R k))[j']? := fun U hU j' hj' => by rw [hU.cell (by exact hbl)]; exact hcs j' hj'
          clear HN
          generalize eAt R k = r at *
          obtain ⟨xs, xl, xu⟩ := r
          rw [hhd.out] at hno hN2
          have CB3 := CB2.out xs wr hb
          have CF1 := CF.out xu xl
          have CF2 := fun z => CF.out z xu
          replace hcs2 := Lib.hid hcs2
          replace CB3 := Lib.hid CB3
          replace CF1 := Lib.hid CF1
          replace CF2 := Lib.hid CF2
          have c0 := hcs 0 (by omega)
          simp only [entOne, List.getElem?_cons_zero, Nat.add_zero] at c0
          clear hcs
          go_wp2_with fail
          refine CB3.out.mono ?_; rintro e w3 ⟨z, rfl, hz, h3⟩
          clear c0
          have hEn := h3.trans ((Ext.refl w3).alloc (.cells #[.int .u64 (vG z 0 : Nat), .int .u64 (vG z 1 : Nat), .int .u64 (vG z 2 : Nat), .int .u64 (vG z 3 : Nat)] 34))
          have hD := VBox.new w3 (vG z) 34
          have hbl3 : tb < (w3.alloc (.cells #[.int .u64 (vG z 0 : Nat), .int .u64 (vG z 1 : Nat), .int .u64 (vG z 2 : Nat), .int .u64 (vG z 3 : Nat)] 34)).heap.size := Nat.lt_of_lt_of_le hbl hEn.size
          have CF3 := CF2.out z
          replace hz := Lib.hid hz
          cases hH : sumF xs R noV with
          | none =>
            rw [hH] at hno
            have hf := Lib.hid (hno rfl)
            clear hno hN2 CF3
            go_wp2_with fail
            generalize w3.alloc (.cells #[.int .u64 (vG z 0 : Nat), .int .u64 (vG z 1 : Nat), .int .u64 (vG z 2 : Nat), .int .u64 (vG z 3 : Nat)] 34) = X at *
            generalize w3.heap.size = zb at *
            have hcs := hcs2.out X hEn
            have c0 := hcs 0 (by omega)
            have c1 := hcs 1 (by omega)
            have c2 := hcs 2 (by omega)
            have c3 := hcs 3 (by omega)
            have c4 := hcs 4 (by omega)
            have c5 := hcs 5 (by omega)
            have c6 := hcs 6 (by omega)
            have c7 := hcs 7 (by omega)
            have c8 := hcs 8 (by omega)
            simp only [entOne, uAt, List.getElem?_cons_zero, List.getElem?_cons_succ, Nat.add_zero] at c0 c1 c2 c3 c4 c5 c6 c7 c8
            clear hcs
            obtain ⟨zl, z0, z1, z2, z3, _, _, _, _⟩ := hD.four
            refine Dm.wp_region_grow (by kernel_rfl) (by kernel_rfl) ?_
            repeat (go_big_quiet_step (fail))
            refine wpQuiet_nil ?_
            intro w2 h2
            go_wp2
            go_ret
            exact ⟨by rw [hf.out]; rfl, (hb.trans hEn).trans h2⟩
          | some z2 =>
            obtain rfl := hz.out z2 hH
            rw [hH] at hno hN2
            simp only at hno hN2
            clear hz hH
            generalize vfits z xu = f2 at *
            generalize vfits xu xl = f1 at *
            replace CF3 := Lib.hid CF3
            cases f1 with
            | false =>
              have hf := Lib.hid (hno rfl)
              clear hno hN2
              go_wp2_with fail
              generalize w3.alloc (.cells #[.int .u64 (vG z 0 : Nat), .int .u64 (vG z 1 : Nat), .int .u64 (vG z 2 : Nat), .int .u64 (vG z 3 : Nat)] 34) = X at *
              generalize w3.heap.size = zb at *
              have hcs := hcs2.out X hEn
              have c0 := hcs 0 (by omega)
              have c1 := hcs 1 (by omega)
              have c2 := hcs 2 (by omega)
              have c3 := hcs 3 (by omega)
              have c4 := hcs 4 (by omega)
              have c5 := hcs 5 (by omega)
              have c6 := hcs 6 (by omega)
              have c7 := hcs 7 (by omega)
              have c8 := hcs 8 (by omega)
              simp only [entOne, uAt, List.getElem?_cons_zero, List.getElem?_cons_succ, Nat.add_zero] at c0 c1 c2 c3 c4 c5 c6 c7 c8
              clear hcs
              obtain ⟨zl, z0, z1, z2, z3, _, _, _, _⟩ := hD.four
              refine Dm.wp_region_grow (by kernel_rfl) (by kernel_rfl) ?_
              repeat (go_big_quiet_step (first | (go_at_call 37; with_reducible exact Calls.quietE (CF1.out _)) | (go_at_call 37; with_reducible exact Calls.quietE (CF3.out _))))
              refine wpQuiet_nil ?_
              intro w2 h2
              go_wp2
              go_ret
              exact ⟨by rw [hf.out]; rfl, (hb.trans hEn).trans h2⟩
            | true =>
              cases f2 with
              | false =>
                have hf := Lib.hid (hno rfl)
                clear hno hN2
                go_wp2_with fail
                generalize w3.alloc (.cells #[.int .u64 (vG z 0 : Nat), .int .u64 (vG z 1 : Nat), .int .u64 (vG z 2 : Nat), .int .u64 (vG z 3 : Nat)] 34) = X at *
                generalize w3.heap.size = zb at *
                have hcs := hcs2.out X hEn
                have c0 := hcs 0 (by omega)
                have c1 := hcs 1 (by omega)
                have c2 := hcs 2 (by omega)
                have c3 := hcs 3 (by omega)
                have c4 := hcs 4 (by omega)
                have c5 := hcs 5 (by omega)
                have c6 := hcs 6 (by omega)
                have c7 := hcs 7 (by omega)
                have c8 := hcs 8 (by omega)
                simp only [entOne, uAt, List.getElem?_cons_zero, List.getElem?_cons_succ, Nat.add_zero] at c0 c1 c2 c3 c4 c5 c6 c7 c8
                clear hcs
                obtain ⟨zl, z0, z1, z2, z3, _, _, _, _⟩ := hD.four
                refine Dm.wp_region_grow (by kernel_rfl) (by kernel_rfl) ?_
                repeat (go_big_quiet_step (first | (go_at_call 37; with_reducible exact Calls.quietE (CF1.out _)) | (go_at_call 37; with_reducible exact Calls.quietE (CF3.out _))))
                refine wpQuiet_nil ?_
                intro w2 h2
                go_wp2
                go_ret
                exact ⟨by rw [hf.out]; rfl, (hb.trans hEn).trans h2⟩
              | true =>
                have hN3 := Lib.hid (hN2.out rfl)
                clear hno hN2
                go_wp2_with fail
                generalize w3.alloc (.cells #[.int .u64 (vG z 0 : Nat), .int .u64 (vG z 1 : Nat), .int .u64 (vG z 2 : Nat), .int .u64 (vG z 3 : Nat)] 34) = X at *
                generalize w3.heap.size = zb at *
                have hcs := hcs2.out X hEn
                have c0 := hcs 0 (by omega)
                have c1 := hcs 1 (by omega)
                have c2 := hcs 2 (by omega)
                have c3 := hcs 3 (by omega)
                have c4 := hcs 4 (by omega)
                have c5 := hcs 5 (by omega)
                have c6 := hcs 6 (by omega)
                have c7 := hcs 7 (by omega)
                have c8 := hcs 8 (by omega)
                simp only [entOne, uAt, List.getElem?_cons_zero, List.getElem?_cons_succ, Nat.add_zero] at c0 c1 c2 c3 c4 c5 c6 c7 c8
                clear hcs
                obtain ⟨zl, z0, z1, z2, z3, _, _, _, _⟩ := hD.four
                refine Dm.wp_region_grow (by kernel_rfl) (by kernel_rfl) ?_
                repeat (go_big_quiet_step (first | (go_at_call 37; with_reducible exact Calls.quietE (CF1.out _)) | (go_at_call 37; with_reducible exact Calls.quietE (CF3.out _))))
                refine wpQuiet_nil ?_
                intro w2 h2
                go_wp2
                go_roundw
                case rel => exact ⟨k + 1, by omega, by go_num, (hb.trans hEn).trans h2, hN3⟩
                case measure => simp [intOf]; omega
        · obtain rfl : k = R.length := by omega
          have hf := Lib.hid (hr8.out (fun k hk => HN.out k hk))
          go_wp2
          go_ret
          exact ⟨by rw [hf.out]; rfl, hb⟩
end Go.Proofs.YtopnllbfhhjobaaGreatDoor

namespace Go.Proofs.YtopnllbfhhjobaaGreatDoor
open Go.RowKit Go.Dm
set_option maxHeartbeats 4000000 in
set_option maxRecDepth 100000 in
theorem dput_w (R : List EntQ) (v : Value) (w : World) (hm : R.length ≤ 1099511627776) (hR : FitT R) (hsz : (putQ R).length ≤ 1099511627776) (hx : Tree w v R) :
    Calls Tryz.prog 23 #[v] w fun r w' => r = .returned (.string ⟨(putQ R).toArray⟩) ∧ Ext w w' := by
  obtain ⟨q, cap, rfl, _, _⟩ := hx.shape
  have hn10 := putL_ten (u := R.length) (show R.length < _ by omega)
  have C0 := fun U => rput_w R.length U (show R.length < _ by omega)
  have CT := fun (x : ByteArray) (h : x.size ≤ 1048576) U => rputtext_w x U (by omega)
  have CV := fun (x : Vc) (h : OkV x) U => r03put_w x h U
  have hpl := fun k => putN_len R k
  have hst := fun k (hk : k < R.length) => putN_step (R := R) hk
  have h0 : putN R 0 = putL R.length := by simp [putN]
  have hfin : putN R R.length = putQ R := by unfold putN putQ; rw [List.take_length]
  generalize putQ R = pq at *
  generalize putN R = pn at *
  unfold vVal vF at CV
  replace C0 := Lib.hid C0
  replace CT := Lib.hid CT
  replace CV := Lib.hid CV
  replace hpl := Lib.hid hpl
  replace hst := Lib.hid hst
  replace h0 := Lib.hid h0
  replace hfin := Lib.hid hfin
  go_enter Tryz.func23, Tryz.ntmps23
  have hcv : ((R.length : Int)) % 18446744073709551616 = (R.length : Int) := by omega
  have h0d : Hid ((⟨(putL R.length).toArray⟩ : ByteArray).data.toList = pn 0) := by show _ = _; rw [h0.out]
  have h0s : (⟨(putL R.length).toArray⟩ : ByteArray).size ≤ pq.length := by
    have := hpl.out 0
    rw [h0.out] at this
    show (putL R.length).toArray.size ≤ _
    rw [List.size_toArray]; exact this
  generalize (⟨(putL R.length).toArray⟩ : ByteArray) = b0 at *
  go_wp2_with fail
  refine (C0.out _).mono ?_; rintro e w1 ⟨rfl, h1⟩
  go_wp2
  go_loopw [3, 4] (fun s i wr => ∃ (k : Nat) (b : ByteArray), k ≤ R.length ∧ i = .int .i64 k ∧ s = .string b ∧ b.size ≤ pq.length ∧ Ext w wr ∧ Hid (b.data.toList = pn k)) (fun _ i _ => R.length - (intOf i).toNat)
  case atStart => exact ⟨0, b0, by omega, rfl, rfl, h0s, h1, h0d⟩
  case round =>
    obtain ⟨k, b, hk, rfl, rfl, hbs, hb, HB⟩ := hrel
    by_cases hlt : k < R.length
    · obtain ⟨tb, toff, rfl, hbl, hcs⟩ := (hx.ext hb).at hlt
      have hxf := hR.at hlt
      have hS1 := hst.out k hlt
      obtain ⟨⟨xs, xl, xu⟩, hr⟩ : ∃ r, eAt R k = r := ⟨_, rfl⟩
      rw [hr] at hcs hxf hS1
      clear hr
      simp only at hxf
      obtain ⟨hxs, hxl, hxu⟩ := hxf
      have CT1 := fun U => CT.out xs hxs U
      have CV1 := fun U => CV.out xl hxl U
      have CV2 := fun U => CV.out xu hxu U
      have hl1 := hpl.out (k + 1)
      rw [hS1] at hl1
      have hs2 : (((b ++ ⟨(putT xs.data.toList).toArray⟩) ++ ⟨(putV xl).toArray⟩) ++ ⟨(putV xu).toArray⟩ : ByteArray).size ≤ pq.length := by
        rw [ByteArray.size_append, ByteArray.size_append, ByteArray.size_append]
        show b.data.toList.length + (putT xs.data.toList).toArray.size + (putV xl).toArray.size + (putV xu).toArray.size ≤ _
        rw [HB.out]
        simp only [putE, List.length_append, List.size_toArray] at hl1 ⊢
        omega
      have hd2 : Hid ((((b ++ ⟨(putT xs.data.toList).toArray⟩) ++ ⟨(putV xl).toArray⟩) ++ ⟨(putV xu).toArray⟩ : ByteArray).data.toList = pn (k + 1)) := by
        show _ = _
        rw [data_append, data_append, data_append, HB.out, hS1]
        simp [putE, List.append_assoc]
      have hsT : (⟨(putT xs.data.toList).toArray⟩ : ByteArray).size ≤ 1048586 := by
        show (putT xs.data.toList).toArray.size ≤ _
        rw [List.size_toArray]
        have := putL_ten (u := xs.data.toList.length) (show xs.size < _ by omega)
        have h3 : xs.data.toList.length = xs.size := rfl
        unfold putT
        rw [List.length_append]
        omega
      have hsV : ∀ {x : Vc}, OkV x → (⟨(putV x).toArray⟩ : ByteArray).size ≤ 40 := fun {x} hx => by
        show (putV x).toArray.size ≤ _
        rw [List.size_toArray, ← putVF_four]
        exact putVF_len hx 4
      have hsL := hsV hxl
      have hsU := hsV hxu
      clear hl1 hS1 hsV
      generalize (⟨(putT xs.data.toList).toArray⟩ : ByteArray) = pT at *
      generalize (⟨(putV xl).toArray⟩ : ByteArray) = pL at *
      generalize (⟨(putV xu).toArray⟩ : ByteArray) = pU at *
      replace CT1 := Lib.hid CT1
      replace CV1 := Lib.hid CV1
      replace CV2 := Lib.hid CV2
      have c0 := hcs 0 (by omega)
      have c1 := hcs 1 (by omega)
      have c2 := hcs 2 (by omega)
      have c3 := hcs 3 (by omega)
      have c4 := hcs 4 (by omega)
      have c5 := hcs 5 (by omega)
      have c6 := hcs 6 (by omega)
      have c7 := hcs 7 (by omega)
      have c8 := hcs 8 (by omega)
      simp only [entOne, uAt, List.getElem?_cons_zero, List.getElem?_cons_succ, Nat.add_zero] at c0 c1 c2 c3 c4 c5 c6 c7 c8
      clear hcs
      go_wp2_with fail
      refine Dm.wp_region_grow (by kernel_rfl) (by kernel_rfl) ?_
      repeat (go_big_quiet_step (first
        | (go_at_call 58; with_reducible exact Calls.quietE (CT1.out _))
        | (go_at_call 59; with_reducible exact Calls.quietE (CV1.out _))
        | (go_at_call 59; with_reducible exact Calls.quietE (CV2.out _))))
      refine wpQuiet_nil ?_
      intro w2 h2
      go_wp2
      go_roundw
      case rel => exact ⟨k + 1, _, by omega, by go_num, rfl, hs2, hb.trans h2, hd2⟩
      case measure => simp [intOf]; omega
    · obtain rfl : k = R.length := by omega
      have hbe : Hid (b = ⟨pq.toArray⟩) := mk_bytes (by rw [HB.out, hfin.out])
      go_wp2
      go_ret
      exact ⟨by rw [← hbe.out]; rfl, hb⟩
end Go.Proofs.YtopnllbfhhjobaaGreatDoor
