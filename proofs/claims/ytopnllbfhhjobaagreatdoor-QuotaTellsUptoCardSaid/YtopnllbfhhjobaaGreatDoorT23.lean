/- Texts one behind the other: Chapter 10, the document's: the walks of there, Find, New. -/
import Derived.Test.YtopnllbfhhjobaaGreatDoorT22
namespace Go.Dm
open Go Go.RowKit
/-- The error of a path: its name, that it is not there. -/
def thT (t : List EntQ) (p : ByteArray) : Nat := if namB p = false then 6 else if lackT t (abvB p) = true then 7 else 0
theorem eachT_th (t : List EntQ) (p : ByteArray) (f : EntQ → EntQ × Nat) : eachT t p f = if thT t p = 0 then eachF t f (abvB p) t else (t, thT t p) := by
  unfold eachT thT
  cases namB p <;> cases lackT t (abvB p) <;> simp
theorem thT_there {t : List EntQ} {p : ByteArray} (h : thT t p = 0) : ∀ k, k < (abvB p).length → plN t (strAt (abvB p) k) < t.length := by
  intro k hk
  have h2 : lackT t (abvB p) = false := by
    unfold thT at h
    cases hn : namB p <;> cases hl : lackT t (abvB p) <;> simp [hn, hl] at h ⊢
  have h1 := plN_le t (strAt (abvB p) k)
  have hmem : strAt (abvB p) k ∈ abvB p := by simp only [strAt, List.getD_eq_getElem?_getD, List.getElem?_eq_getElem hk, Option.getD_some]; exact List.getElem_mem hk
  rcases Nat.lt_or_ge (plN t (strAt (abvB p) k)) t.length with h | h
  · exact h
  · rw [Bool.eq_false_iff] at h2
    exact absurd (lack_iff.2 ⟨_, hmem, by omega⟩) h2
end Go.Dm
namespace Go.Proofs.YtopnllbfhhjobaaGreatDoor
open Go.RowKit Go.Dm

set_option maxHeartbeats 2000000 in
set_option maxRecDepth 100000 in
theorem dthere_w (R : List EntQ) (p : ByteArray) (v : Value) (w : World) (hm : R.length ≤ 1099511627776) (hx : Tree w v R) (hs : p.size ≤ 1048576) :
    Calls Tryz.prog 40 #[v, .string p] w fun e w' => e = .returned (.int .i64 (thT R p : Nat)) ∧ Ext w w' := by
  have C1 := dnamed_w p w hs
  have C2 := fun U => dabove_w p U hs
  have h1 : namB p = false → thT R p = 6 := fun h => by unfold thT; rw [if_pos h]
  have h2 : namB p = true → lackT R (abvB p) = true → thT R p = 7 := fun h h2 => by unfold thT; rw [h, if_neg (by simp), if_pos h2]
  have h3 : namB p = true → lackT R (abvB p) = false → thT R p = 0 := fun h h2 => by unfold thT; rw [h, if_neg (by simp), h2, if_neg (by simp)]
  have hl4 : (abvB p).length ≤ 4 := by have := upsB_len p; simp [abvB]; omega
  generalize thT R p = T at *
  generalize namB p = nm at *
  generalize abvB p = l at *
  replace h1 := Lib.hid h1
  replace h2 := Lib.hid h2
  replace h3 := Lib.hid h3
  replace C1 := Lib.hid C1
  replace C2 := Lib.hid C2
  cases nm with
  | false =>
    go_enter Tryz.func40, Tryz.ntmps40
    go_wp2_with fail
    refine C1.out.mono ?_; rintro e w1 ⟨rfl, h5⟩
    go_wp2
    go_ret
    exact ⟨by rw [h1.out (by trivial)]; rfl, h5⟩
  | true =>
    go_enter Tryz.func40, Tryz.ntmps40
    go_wp2_with fail
    refine C1.out.mono ?_; rintro e w1 ⟨rfl, h5⟩
    go_wp2_with fail
    refine (C2.out w1).mono ?_; rintro e w2 ⟨vl, rfl, hss, h6⟩
    have hb0 := h5.trans h6
    clear h5 h6
    obtain ⟨pl, lc, rfl, _, _⟩ := hss.shape
    go_wp2
    go_loopw [6] (fun i wr => ∃ k : Nat, k ≤ l.length ∧ i = .int .i64 k ∧ Ext w2 wr ∧ Hid (∀ j, j < k → plN R (strAt l j) ≠ R.length)) (fun i _ => l.length - (intOf i).toNat)
    case atStart => exact ⟨0, by omega, rfl, Ext.refl w2, fun j hj => by omega⟩
    case round =>
      obtain ⟨k, hk', rfl, hb, HN⟩ := hrel
      by_cases hlt : k < l.length
      · obtain ⟨b, off, rfl, hbl, c0⟩ := (hss.ext hb).at hlt
        have C := dfind_w R (strAt l k) v wr hm (hx.ext (hb0.trans hb))
        have hmem : strAt l k ∈ l := by simp only [strAt, List.getD_eq_getElem?_getD, List.getElem?_eq_getElem hlt, Option.getD_some]; exact List.getElem_mem hlt
        have hle := plN_le R (strAt l k)
        unfold plI at C
        by_cases he : plN R (strAt l k) = R.length
        · have hY : Hid (T = 7) := h2.out (by trivial) (lack_iff.2 ⟨_, hmem, he⟩)
          rw [if_neg (by omega)] at C
          clear he hmem hle
          generalize strAt l k = s at *
          replace C := Lib.hid C
          go_wp2_with fail
          refine C.out.mono ?_; rintro e w3 ⟨rfl, h7⟩
          go_wp2
          go_ret
          exact ⟨by rw [hY.out]; rfl, (hb0.trans hb).trans h7⟩
        · have hN2 : Hid (∀ j, j < k + 1 → plN R (strAt l j) ≠ R.length) := fun j hj => by
            rcases Nat.lt_succ_iff_lt_or_eq.1 hj with h' | rfl
            · exact HN.out j h'
            · exact he
          rw [if_pos (by omega)] at C
          clear he hmem
          generalize strAt l k = s at c0 C hle
          generalize plN R s = m at C hle
          replace C := Lib.hid C
          go_wp2_with fail
          refine C.out.mono ?_; rintro e w3 ⟨rfl, h7⟩
          go_wp2
          go_roundw
          case rel => exact ⟨k + 1, by omega, by go_num, hb.trans h7, hN2⟩
          case measure => simp [intOf]; omega
      · obtain rfl : k = l.length := by omega
        have hY : Hid (T = 0) := by
          refine h3.out (by trivial) ?_
          rw [Bool.eq_false_iff]
          intro h
          obtain ⟨x, hx1, hx2⟩ := lack_iff.1 h
          obtain ⟨j, hj, rfl⟩ := List.getElem_of_mem hx1
          exact HN.out j hj (by rw [show strAt l j = l[j] by simp [strAt, hj]]; exact hx2)
        go_wp2
        go_ret
        exact ⟨by rw [hY.out]; rfl, hb0.trans hb⟩

set_option maxHeartbeats 2000000 in
set_option maxRecDepth 100000 in
theorem dFind_w (R : List EntQ) (p : ByteArray) (v : Value) (w : World) (hm : R.length ≤ 1099511627776) (hx : Tree w v R) :
    Calls Tryz.prog 15 #[v, .string p] w fun e w' => e = .returned (.tuple #[entVal (findQ R p).1, .bool (findQ R p).2]) ∧ Ext w w' := by
  obtain ⟨q, cap, rfl, _, _⟩ := hx.shape
  have hE : Ext w (w.alloc (.cells #[.string ⟨#[]⟩, .int .u64 0, .int .u64 0, .int .u64 0, .int .u64 0, .int .u64 0, .int .u64 0, .int .u64 0, .int .u64 0] 42)) := (Ext.refl _).alloc _
  have hB : EBox w.heap.size ⟨#[]⟩ (fun _ => 0) (fun _ => 0) (w.alloc (.cells #[.string ⟨#[]⟩, .int .u64 0, .int .u64 0, .int .u64 0, .int .u64 0, .int .u64 0, .int .u64 0, .int .u64 0, .int .u64 0] 42)) := EBox.new w _ _ _ _
  have C := dfind_w R p _ _ hm (hx.ext hE)
  by_cases h : plN R p < R.length
  · have hf : findQ R p = (eAt R (plN R p), true) := by unfold findQ; rw [if_pos h]
    have hp : plI R p = (plN R p : Int) := by unfold plI; rw [if_pos h]
    rw [hf]
    rw [hp] at C
    clear hf hp
    generalize plN R p = k at *
    obtain ⟨⟨s, l, u⟩, hr⟩ : ∃ r, eAt R k = r := ⟨_, rfl⟩
    rw [hr]
    unfold entVal uAt
    simp only
    replace hr := Lib.hid hr
    replace C := Lib.hid C
    go_enter Tryz.func15, Tryz.ntmps15
    go_wp2_with fail
    refine C.out.mono ?_; rintro e w1 ⟨rfl, h1⟩
    have hb := hE.trans h1
    obtain ⟨b, off, rfl, hbl, hcs⟩ := (hx.ext hb).at h
    rw [hr.out] at hcs
    have c0 := hcs 0 (by omega)
    have c1 := hcs 1 (by omega)
    have c2 := hcs 2 (by omega)
    have c3 := hcs 3 (by omega)
    have c4 := hcs 4 (by omega)
    have c5 := hcs 5 (by omega)
    have c6 := hcs 6 (by omega)
    have c7 := hcs 7 (by omega)
    have c8 := hcs 8 (by omega)
    simp only [entOne, uAt, List.getElem?_cons_zero, List.getElem?_cons_succ, Nat.add_zero] at c0 c1 c2 c3 c4 c5 c6 c7 c8
    clear hcs
    have hB1 := hB.ext h1
    obtain ⟨_, z0, z1, z2, z3, z4, z5, z6, z7, z8, f0, f1, f2, f3, f4, f5, f6, f7, f8⟩ := hB1
    change World.cell? _ _ = some (.int .u64 0) at z1 z2 z3 z4 z5 z6 z7 z8
    go_wp2
    have hP := (hB.ext h1).put s (vG l) (vG u)
    unfold put9 at hP
    obtain ⟨_, k0, k1, k2, k3, k4, k5, k6, k7, k8, _, _, _, _, _, _, _, _, _⟩ := hP
    refine bodyPost_ret (v := .tuple #[.agg #[.string s, .int .u64 (vG l 0 : Nat), .int .u64 (vG l 1 : Nat), .int .u64 (vG l 2 : Nat), .int .u64 (vG l 3 : Nat), .int .u64 (vG u 0 : Nat), .int .u64 (vG u 1 : Nat), .int .u64 (vG u 2 : Nat), .int .u64 (vG u 3 : Nat)], .bool true]) (by simp [results, Tryz.results15, go_sem, k0, k1, k2, k3, k4, k5, k6, k7, k8]) rfl ?_
    exact ⟨rfl, hb.put9 (b := w.heap.size) (Nat.le_refl _) s (vG l) (vG u)⟩
  · have hf : findQ R p = (noEnt, false) := by unfold findQ; rw [if_neg h]
    have hp : plI R p = -1 := by unfold plI; rw [if_neg h]
    rw [hf]
    rw [hp] at C
    clear hf hp
    replace C := Lib.hid C
    go_enter Tryz.func15, Tryz.ntmps15
    go_wp2_with fail
    refine C.out.mono ?_; rintro e w1 ⟨rfl, h1⟩
    have hB1 := hB.ext h1
    obtain ⟨_, z0, z1, z2, z3, z4, z5, z6, z7, z8, f0, f1, f2, f3, f4, f5, f6, f7, f8⟩ := hB1
    change World.cell? _ _ = some (.int .u64 0) at z1 z2 z3 z4 z5 z6 z7 z8
    go_wp2
    have hP := (hB.ext h1).put ⟨#[]⟩ (fun _ => 0) (fun _ => 0)
    unfold put9 at hP
    obtain ⟨_, k0, k1, k2, k3, k4, k5, k6, k7, k8, _, _, _, _, _, _, _, _, _⟩ := hP
    simp only [Int.cast_ofNat_Int] at k0 k1 k2 k3 k4 k5 k6 k7 k8
    refine bodyPost_ret (v := .tuple #[.agg #[.string ⟨#[]⟩, .int .u64 0, .int .u64 0, .int .u64 0, .int .u64 0, .int .u64 0, .int .u64 0, .int .u64 0, .int .u64 0], .bool false]) (by simp [results, Tryz.results15, go_sem, k0, k1, k2, k3, k4, k5, k6, k7, k8]) rfl ?_
    exact ⟨rfl, (hE.trans h1).put9 (b := w.heap.size) (Nat.le_refl _) ⟨#[]⟩ (fun _ => 0) (fun _ => 0)⟩

set_option maxHeartbeats 1000000 in
theorem dnew_w (lim : Vc) (w : World) :
    Calls Tryz.prog 25 #[vVal lim] w fun e w' => ∃ v, e = .returned v ∧ Tree w' v [(⟨#[]⟩, lim, noV)] ∧ Ext w w' := by
  have hfin : ∀ U : World, Tree (U.alloc (.cells #[.string ⟨#[]⟩, .int .u64 (vG lim 0 : Nat), .int .u64 (vG lim 1 : Nat), .int .u64 (vG lim 2 : Nat), .int .u64 (vG lim 3 : Nat), .int .u64 0, .int .u64 0, .int .u64 0, .int .u64 0] 42)) (.slice (some ⟨U.heap.size, 0, none⟩) 1 1) [(⟨#[]⟩, lim, noV)] := fun U => by
    refine Tree.of_row (B := U.heap.size) (e := 42) (n := 1) ⟨by rw [entCellsQ_len]; rfl, Or.inr ⟨_, 1, _, rfl, Nat.le_refl _, heap_alloc_new U _, by omega, by simp [maxLen], rfl, rfl⟩⟩ rfl
  unfold vVal vF
  replace hfin := Lib.hid hfin
  obtain ⟨_, a0, a1, a2, a3, _, _, _, _⟩ := (VBox.new w (vG lim) 34).four
  have hE : Ext w (w.alloc (.cells #[.int .u64 (vG lim 0 : Nat), .int .u64 (vG lim 1 : Nat), .int .u64 (vG lim 2 : Nat), .int .u64 (vG lim 3 : Nat)] 34)) := (Ext.refl _).alloc _
  go_enter Tryz.func25, Tryz.ntmps25
  go_wp2
  go_ret
  refine ⟨_, rfl, ?_, hE.alloc _⟩
  have h := hfin.out (w.alloc (.cells #[.int .u64 (vG lim 0 : Nat), .int .u64 (vG lim 1 : Nat), .int .u64 (vG lim 2 : Nat), .int .u64 (vG lim 3 : Nat)] 34))
  rw [World.size_alloc] at h
  exact h
end Go.Proofs.YtopnllbfhhjobaaGreatDoor
