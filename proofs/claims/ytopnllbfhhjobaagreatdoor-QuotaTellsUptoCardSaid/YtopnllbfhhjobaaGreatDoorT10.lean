/- Texts one behind the other: Chapter 10: the walks of each, Charge, Refund; Chapter 10: the walk of Set. -/
import Derived.Test.YtopnllbfhhjobaaGreatDoorT21
import Derived.Test.YtopnllbfhhjobaaGreatDoorT9
namespace Go.Dm
open Go Go.RowKit
theorem row_mono {w : World} {B B' e sz n : Nat} {v : Value} {xs : List Value} (hB : B ≤ B') (h : w.ownsRow B' e sz v n xs) : w.ownsRow B e sz v n xs := by
  obtain ⟨hl, h⟩ := h
  refine ⟨hl, ?_⟩
  rcases h with h | ⟨g, cap, cur, hv, hb, r⟩
  · exact Or.inl h
  · exact Or.inr ⟨g, cap, cur, hv, Nat.le_trans hB hb, r⟩
theorem take_splice {α : Type} (L cs : List α) {off m : Nat} (h1 : off + cs.length ≤ m) (h2 : m ≤ L.length) : (splice L off cs).take m = splice (L.take m) off cs := by
  unfold splice
  have e : L = L.take m ++ L.drop m := (List.take_append_drop m L).symm
  rw [List.take_append, List.take_take, Nat.min_eq_right (show off ≤ m by omega), List.length_take, Nat.min_eq_left (show off ≤ L.length by omega), List.take_append, List.take_of_length_le (show cs.length ≤ m - off by omega), List.take_take, Nat.min_eq_left (show off ≤ m by omega), List.drop_take]
  have : m - off - cs.length = m - (off + cs.length) := by omega
  rw [this]
theorem entCellsQ_set {G : List EntQ} {i : Nat} (hi : i < G.length) (r : EntQ) : splice (entCellsQ G) (i * 9) (entOne r) = entCellsQ (G.set i r) := by
  unfold splice
  rw [show (entOne r).length = 9 from rfl, show i * 9 + 9 = (i + 1) * 9 by omega, entCellsQ_take G i (by omega), entCellsQ_drop G (i + 1) (by omega), List.set_eq_take_append_cons_drop, if_pos hi, entCellsQ_app]
  rfl
theorem Ext.putQ {w0 w w' : World} {g : Nat} (h : Ext w0 w) (hg : w.grownBy w' (some g)) (hb : w0.heap.size ≤ g) : Ext w0 w' :=
  Below.grown h hg h.size (fun k hk => by injection hk with hk; omega)
theorem plI_of {R : List EntQ} {q : ByteArray} (h : plN R q < R.length) : plI R q = (plN R q : Int) := by unfold plI; rw [if_pos h]
theorem lack_iff {t : List EntQ} {l : List ByteArray} : lackT t l = true ↔ ∃ q ∈ l, plN t q = t.length := by
  unfold lackT; rw [List.any_eq_true]; simp
/-- How doing goes on. -/
theorem eachF_step {t : List EntQ} {f : EntQ → EntQ × Nat} {l : List ByteArray} {k : Nat} (hk : k < l.length) (out : List EntQ) :
    eachF t f (l.drop k) out = if (f (eAt t (plN t (strAt l k)))).2 = 0 then eachF t f (l.drop (k + 1)) (out.set (plN t (strAt l k)) (f (eAt t (plN t (strAt l k)))).1) else (t, (f (eAt t (plN t (strAt l k)))).2) := by
  rw [List.drop_eq_getElem_cons hk, show l[k] = strAt l k by simp [strAt, hk]]
  rfl
end Go.Dm
namespace Go.Proofs.YtopnllbfhhjobaaGreatDoor
open Go.RowKit Go.Dm

theorem qeach1_w (R : List EntQ) (q : ByteArray) (v : Value) (c : Nat) (w : World) (hm : R.length ≤ 1099511627776) (hx : Tree w v R) (_hcl : c < w.heap.size) (hc : w.cell? ⟨c, 0, none⟩ = some v) :
    Calls Tryz.prog 69 #[.string q, .pointer (some ⟨c, 0, none⟩)] w fun e w' => e = .returned (.bool (decide (plN R q = R.length))) ∧ Ext w w' := by
  have C := qplace_w R q v w hm hx
  have hd : decide (plI R q < 0) = decide (plN R q = R.length) := by
    have := plN_le R q
    unfold plI
    split <;> simp <;> omega
  generalize decide (plN R q = R.length) = d at *
  obtain ⟨p, cap, rfl, _, _⟩ := hx.shape
  generalize plI R q = i at *
  replace C := Lib.hid C
  go_enter Tryz.func69, Tryz.ntmps69
  go_wp2_with fail
  refine C.out.mono ?_; rintro e w1 ⟨rfl, h1⟩
  go_wp2
  go_ret
  exact ⟨by simp, h1⟩

set_option maxHeartbeats 1000000 in
theorem qeidx_w (R : List EntQ) (v : Value) (l : List ByteArray) (vl : Value) (c : Nat) (w : World) (hm : R.length ≤ 1099511627776) (hl : l.length ≤ 1099511627776) (hx : Tree w v R) (hs : Strs w vl l) (hcl : c < w.heap.size) (hc : w.cell? ⟨c, 0, none⟩ = some v) :
    Calls Tryz.prog 85 #[vl, .func (.func 69) #[] #[.pointer (some ⟨c, 0, none⟩)]] w fun e w' => ∃ i : Int, e = .returned (.int .i64 i) ∧ decide (0 ≤ i) = lackT R l ∧ Ext w w' := by
  obtain ⟨q, cap, rfl, _, _⟩ := hs.shape
  go_enter Tryz.func85, Tryz.ntmps85
  go_wp2
  go_loopw [8] (fun i wr => ∃ k : Nat, k ≤ l.length ∧ i = .int .i64 k ∧ Ext w wr ∧ Hid (∀ j, j < k → plN R (strAt l j) ≠ R.length)) (fun i _ => l.length - (intOf i).toNat)
  case atStart => exact ⟨0, by omega, rfl, Ext.refl w, fun j hj => by omega⟩
  case round =>
    obtain ⟨k, hk', rfl, hb, HN⟩ := hrel
    by_cases hlt : k < l.length
    · obtain ⟨b, off, rfl, hbl, c0⟩ := (hs.ext hb).at hlt
      have hcl' : c < wr.heap.size := Nat.lt_of_lt_of_le hcl hb.size
      have hc' : wr.cell? ⟨c, 0, none⟩ = some v := by rw [hb.cell (by exact hcl)]; exact hc
      have C := qeach1_w R (strAt l k) v c wr hm (hx.ext hb) hcl' hc'
      have hmem : strAt l k ∈ l := by simp only [strAt, List.getD_eq_getElem?_getD, List.getElem?_eq_getElem hlt, Option.getD_some]; exact List.getElem_mem hlt
      by_cases he : plN R (strAt l k) = R.length
      · have hY : Hid (lackT R l = true) := lack_iff.2 ⟨_, hmem, he⟩
        rw [decide_eq_true he] at C
        clear he hmem
        generalize strAt l k = s at *
        replace C := Lib.hid C
        go_wp2_with fail
        refine C.out.mono ?_; rintro e w1 ⟨rfl, h1⟩
        go_wp2
        go_ret
        exact ⟨_, rfl, by rw [hY.out]; simp, hb.trans h1⟩
      · have hN2 : Hid (∀ j, j < k + 1 → plN R (strAt l j) ≠ R.length) := fun j hj => by
          rcases Nat.lt_succ_iff_lt_or_eq.1 hj with h' | rfl
          · exact HN.out j h'
          · exact he
        rw [decide_eq_false he] at C
        clear he hmem
        generalize strAt l k = s at c0 C
        replace C := Lib.hid C
        go_wp2_with fail
        refine C.out.mono ?_; rintro e w1 ⟨rfl, h1⟩
        go_wp2
        go_roundw
        case rel => exact ⟨k + 1, by omega, by go_num, hb.trans h1, hN2⟩
        case measure => simp [intOf]; omega
    · obtain rfl : k = l.length := by omega
      have hY : Hid (lackT R l = false) := by
        show _ = _
        rw [Bool.eq_false_iff]
        intro h
        obtain ⟨x, hx1, hx2⟩ := lack_iff.1 h
        obtain ⟨j, hj, rfl⟩ := List.getElem_of_mem hx1
        exact HN.out j hj (by rw [show strAt l j = l[j] by simp [strAt, hj]]; exact hx2)
      go_wp2
      go_ret
      exact ⟨_, rfl, by rw [hY.out]; simp, hb⟩

theorem qelack_w (R : List EntQ) (v : Value) (l : List ByteArray) (vl : Value) (c : Nat) (w : World) (hm : R.length ≤ 1099511627776) (hl : l.length ≤ 1099511627776) (hx : Tree w v R) (hs : Strs w vl l) (hcl : c < w.heap.size) (hc : w.cell? ⟨c, 0, none⟩ = some v) :
    Calls Tryz.prog 68 #[vl, .func (.func 69) #[] #[.pointer (some ⟨c, 0, none⟩)]] w fun e w' => e = .returned (.bool (lackT R l)) ∧ Ext w w' := by
  have C := qeidx_w R v l vl c w hm hl hx hs hcl hc
  generalize lackT R l = d at *
  obtain ⟨q, cap, rfl, _, _⟩ := hs.shape
  replace C := Lib.hid C
  go_enter Tryz.func68, Tryz.ntmps68
  go_wp2_with fail
  refine C.out.mono ?_; rintro e w1 ⟨i, rfl, hi, h1⟩
  go_wp2
  go_ret
  exact ⟨by simp, h1⟩

/-- What a method bound to an amount does of an entry. -/
def DoesE (n : Nat) (cv : Value) (f : EntQ → EntQ × Nat) : Prop :=
  (∀ args w, (callFunc n args).run Tryz.prog w = .ok (.enter n args) w) ∧ ∀ (r : EntQ) (w : World), OkV r.2.1 ∧ OkV r.2.2 → Calls Tryz.prog n #[cv, entVal r] w fun e w' => e = .returned (.tuple #[entVal (f r).1, .int .i64 ((f r).2 : Nat)]) ∧ Ext w w'

set_option maxHeartbeats 8000000 in
set_option maxRecDepth 100000 in
theorem qeachO_w (n : Nat) (cv : Value) (f : EntQ → EntQ × Nat) (hf : DoesE n cv f) (R : List EntQ) (v : Value) (p : ByteArray) (w : World) (hm : R.length ≤ 1099511627776) (hR : FitT R) (hx : Tree w v R) (hp : p.size < 4294967281) (ht : Vars w) :
    Calls Tryz.prog 38 #[v, .string p, .func (.func n) #[cv] #[]] w fun e w' => ∃ v', e = .returned (.tuple #[v', .int .i64 ((eachT R p f).2 : Nat)]) ∧ Tree w' v' (eachT R p f).1 ∧ Ext w w' ∧ ((eachT R p f).2 = 0 → w'.ownsRow w.heap.size 38 9 v' R.length (entCellsQ (eachT R p f).1)) := by
  obtain ⟨hEn, hCf⟩ := hf
  obtain ⟨q, cap, rfl, _, _⟩ := hx.shape
  have hW : Ext w (w.alloc (.cells #[.slice q R.length cap] 58)) := (Ext.refl _).alloc _
  have hbx : (w.alloc (.cells #[.slice q R.length cap] 58)).cell? ⟨w.heap.size, 0, none⟩ = some (.slice q R.length cap) := by simp
  have hbl0 : w.heap.size < (w.alloc (.cells #[.slice q R.length cap] 58)).heap.size := by simp
  generalize hW0 : w.alloc (.cells #[.slice q R.length cap] 58) = W at *
  have C1 := qnamed_w p W hp (ht.ext hW)
  have C2 := fun U (h : Ext W U) => qabove_w p U hp (ht.ext (hW.trans h))
  have hE1 : namB p = false → eachT R p f = (R, 6) := fun h => by unfold eachT; rw [if_pos h]
  have hE2 : namB p = true → lackT R (abvB p) = true → eachT R p f = (R, 7) := fun h h2 => by unfold eachT; rw [h, if_neg (by simp), if_pos h2]
  have hE3 : namB p = true → lackT R (abvB p) = false → eachT R p f = eachF R f (abvB p) R := fun h h2 => by unfold eachT; rw [h, if_neg (by simp), h2, if_neg (by simp)]
  have hl4 : (abvB p).length ≤ 4 := by have := upsB_len p; simp [abvB]; omega
  generalize eachT R p f = E at *
  generalize namB p = nm at *
  generalize abvB p = l at *
  replace hE1 := Lib.hid hE1
  replace hE2 := Lib.hid hE2
  replace hE3 := Lib.hid hE3
  replace C2 := Lib.hid C2
  replace C1 := Lib.hid C1
  cases nm with
  | false =>
    have hE := Lib.hid (hE1.out rfl)
    go_enter Tryz.func38, Tryz.ntmps38
    go_wp2_with fail
    refine C1.out.mono ?_; rintro e w1 ⟨rfl, h1⟩
    have hb1 : w1.cell? ⟨w.heap.size, 0, none⟩ = some (.slice q R.length cap) := by rw [h1.cell (by exact hbl0)]; exact hbx
    go_wp2
    go_ret2
    exact ⟨_, by rw [hE.out]; rfl, by rw [hE.out]; exact hx.ext (hW.trans h1), hW.trans h1, fun h => by rw [hE.out] at h; cases h⟩
  | true =>
    go_enter Tryz.func38, Tryz.ntmps38
    go_wp2_with fail
    refine C1.out.mono ?_; rintro e w1 ⟨rfl, h1⟩
    go_wp2_with fail
    refine (C2.out w1 h1).mono ?_; rintro e w2 ⟨vl, rfl, hs, h2⟩
    replace h2 := h1.trans h2
    clear h1
    have hb2 : w2.cell? ⟨w.heap.size, 0, none⟩ = some (.slice q R.length cap) := by rw [h2.cell (by exact hbl0)]; exact hbx
    have C3 := qelack_w R (.slice q R.length cap) l vl w.heap.size w2 hm (by omega) (hx.ext (hW.trans h2)) hs (Nat.lt_of_lt_of_le hbl0 h2.size) hb2
    obtain ⟨pl, lc, rfl, _, _⟩ := hs.shape
    replace C3 := Lib.hid C3
    go_wp2_with fail
    refine C3.out.mono ?_; rintro e w3 ⟨rfl, h3⟩
    clear C3 hb2
    replace hs := hs.ext h3
    replace h3 := h2.trans h3
    clear h2
    have hb3 : w3.cell? ⟨w.heap.size, 0, none⟩ = some (.slice q R.length cap) := by rw [h3.cell (by exact hbl0)]; exact hbx
    cases hlk : lackT R l with
    | true =>
      have hE := Lib.hid (hE2.out (by trivial) hlk)
      go_wp2
      go_ret2
      exact ⟨_, by rw [hE.out]; rfl, by rw [hE.out]; exact hx.ext (hW.trans h3), hW.trans h3, fun h => by rw [hE.out] at h; cases h⟩
    | false =>
      have hE := Lib.hid (hE3.out (by trivial) hlk)
      have hpl : ∀ k, k < l.length → plN R (strAt l k) < R.length := fun k hk => by
        have h1 := plN_le R (strAt l k)
        have hmem : strAt l k ∈ l := by simp only [strAt, List.getD_eq_getElem?_getD, List.getElem?_eq_getElem hk, Option.getD_some]; exact List.getElem_mem hk
        rcases Nat.lt_or_ge (plN R (strAt l k)) R.length with h | h
        · exact h
        · rw [Bool.eq_false_iff] at hlk
          exact absurd (lack_iff.2 ⟨_, hmem, by omega⟩) hlk
      clear hlk hE1 hE2 hE3
      have C4 := qtclone_w R.length (entCellsQ R) (.slice q R.length cap) w3 hm (hx.ext (hW.trans h3)) (entCellsQ_one R)
      replace C4 := Lib.hid C4
      go_wp2_with fail
      refine C4.out.mono ?_; rintro e w4 ⟨vo, rfl, ho, h4⟩
      clear C4 hb3
      have hW3 := hW.trans h3
      have hb3 : w3.cell? ⟨w.heap.size, 0, none⟩ = some (.slice q R.length cap) := by rw [h3.cell (by exact hbl0)]; exact hbx
      have hb3l : w.heap.size < w3.heap.size := Nat.lt_of_lt_of_le hbl0 h3.size
      obtain ⟨ao, co, rfl⟩ : ∃ a c, vo = .slice a R.length c := by
        obtain ⟨a, c, e, _⟩ := (Sl.of_owns ho).shape
        exact ⟨a, c, e⟩
      replace hpl := Lib.hid hpl
      go_wp2
      go_loopw [11, 12, 13, 14, 29] (fun _ _ _ _ i wr => ∃ (k : Nat) (out : List EntQ), k ≤ l.length ∧ i = .int .i64 k ∧ Ext w3 wr ∧ wr.ownsRow w3.heap.size 38 9 (.slice ao R.length co) R.length (entCellsQ out) ∧ out.length = R.length ∧ Hid (E = eachF R f (l.drop k) out)) (fun _ _ _ _ i _ => l.length - (intOf i).toNat)
      case atStart => exact ⟨0, R, by omega, rfl, h4, ho, rfl, hE.out⟩
      case round =>
        obtain ⟨k, out, hk, rfl, hb, ho, hol, HE⟩ := hrel
        have hbw := hW3.trans hb
        by_cases hlt : k < l.length
        · obtain ⟨lb, lo, hple, hlbl, c0⟩ := (hs.ext hb).at hlt
          subst hple
          have hj := hpl.out k hlt
          have CP := qplace_w R (strAt l k) _ wr hm (hx.ext hbw)
          rw [plI_of hj] at CP
          have HS := HE.out
          rw [eachF_step hlt] at HS
          generalize strAt l k = s at *
          generalize plN R s = j at *
          obtain ⟨tb, tof, hqe, htbl, hcs⟩ := hx.at hj
          subst hqe
          have hok := (hR.at hj).2
          have CF := hCf (eAt R j)
          obtain ⟨⟨s1, l1, u1⟩, hr⟩ : ∃ r, eAt R j = r := ⟨_, rfl⟩
          rw [hr] at hcs CF HS hok
          clear hr
          obtain ⟨⟨⟨s2, l2, u2⟩, no⟩, hfr⟩ : ∃ y, f (s1, l1, u1) = y := ⟨_, rfl⟩
          rw [hfr] at CF HS
          clear hfr
          simp only at CF HS hok
          unfold entVal uAt at CF
          simp only at CF
          have hcs2 : ∀ U, Ext w U → ∀ j', j' < 9 → U.cell? ⟨tb, tof + j * 9 + j', none⟩ = (entOne (s1, l1, u1))[j']? := fun U hU j' hj' => by rw [hU.cell (by exact htbl)]; exact hcs j' hj'
          clear hcs
          replace hcs2 := Lib.hid hcs2
          replace CF := Lib.hid CF
          replace CP := Lib.hid CP
          have hb5 : wr.cell? ⟨w.heap.size, 0, none⟩ = some (.slice (some ⟨tb, tof, none⟩) R.length cap) := by rw [hb.cell (by exact hb3l)]; exact hb3
          have hb5l : w.heap.size < wr.heap.size := Nat.lt_of_lt_of_le hb3l hb.size
          replace HS := Lib.hid HS
          go_wp2_with fail
          refine CP.out.mono ?_; rintro e w5 ⟨rfl, h5⟩
          clear CP c0
          have hb6 : w5.cell? ⟨w.heap.size, 0, none⟩ = some (.slice (some ⟨tb, tof, none⟩) R.length cap) := by rw [h5.cell (by exact hb5l)]; exact hb5
          have htl5 : tb < w5.heap.size := Nat.lt_of_lt_of_le htbl (hbw.trans h5).size
          have hcs := hcs2.out w5 (hbw.trans h5)
          have c0 := hcs 0 (by omega)
          have c1 := hcs 1 (by omega)
          have c2 := hcs 2 (by omega)
          have c3 := hcs 3 (by omega)
          have c4 := hcs 4 (by omega)
          have c5 := hcs 5 (by omega)
          have c6 := hcs 6 (by omega)
          have c7 := hcs 7 (by omega)
          have c8 := hcs 8 (by omega)
          simp only [entOne, uAt, List.getElem?_cons_zero, List.getElem?_cons_succ, Nat.add_zero] at c0 c1 c2 c3 c4 c5 c6 c7 c8
          clear hcs
          clear hb5
          go_wp2_with fail
          refine (CF.out w5 hok).mono ?_; rintro e w6 ⟨rfl, h6⟩
          clear c0 c1 c2 c3 c4 c5 c6 c7 c8
          have h56 := h5.trans h6
          have hb7 : w6.cell? ⟨w.heap.size, 0, none⟩ = some (.slice (some ⟨tb, tof, none⟩) R.length cap) := by rw [h6.cell (by exact Nat.lt_of_lt_of_le hb5l h5.size)]; exact hb6
          have hb7l : w.heap.size < w6.heap.size := Nat.lt_of_lt_of_le hb5l h56.size
          clear hb6
          have hEb := EBox.new w6 s2 (vG l2) (vG u2) 38
          have hEn6 := (Ext.refl w6).alloc (.cells #[.string s2, .int .u64 (vG l2 0 : Nat), .int .u64 (vG l2 1 : Nat), .int .u64 (vG l2 2 : Nat), .int .u64 (vG l2 3 : Nat), .int .u64 (vG u2 0 : Nat), .int .u64 (vG u2 1 : Nat), .int .u64 (vG u2 2 : Nat), .int .u64 (vG u2 3 : Nat)] 38)
          change EBox _ _ _ _ (w6.alloc (.cells #[.string s2, .int .u64 (vG l2 0 : Nat), .int .u64 (vG l2 1 : Nat), .int .u64 (vG l2 2 : Nat), .int .u64 (vG l2 3 : Nat), .int .u64 (vG u2 0 : Nat), .int .u64 (vG u2 1 : Nat), .int .u64 (vG u2 2 : Nat), .int .u64 (vG u2 3 : Nat)] 38)) at hEb
          have hEn6h := Lib.hid hEn6
          obtain ⟨_, e0, e1, e2, e3, e4, e5, e6, e7, e8, _, _, _, _, _, _, _, _, _⟩ := hEb
          clear hEn6
          by_cases hno : no = 0
          · subst hno
            have HS1 := HS.out
            rw [if_pos rfl] at HS1
            replace HS1 := Lib.hid HS1
            clear HS HE
            obtain ⟨hxl, hrow⟩ := ho
            rcases hrow with ⟨h0, _⟩ | ⟨g, cap', cur, hg0, hBg, hg, hnc, hcm, hcsz, htk⟩
            · simp only [Value.slice.injEq] at h0; omega
            · simp only [Value.slice.injEq, true_and] at hg0
              obtain ⟨rfl, rfl⟩ := hg0
              have hg6 : (w6.alloc (.cells #[.string s2, .int .u64 (vG l2 0 : Nat), .int .u64 (vG l2 1 : Nat), .int .u64 (vG l2 2 : Nat), .int .u64 (vG l2 3 : Nat), .int .u64 (vG u2 0 : Nat), .int .u64 (vG u2 1 : Nat), .int .u64 (vG u2 2 : Nat), .int .u64 (vG u2 3 : Nat)] 38)).heap[g]? = some (.cells cur.toList.toArray 38 (0, 0)) := by
                rw [Array.toArray_toList]; exact Ext.heap hg (h56.trans hEn6h.out)
              have HCL : Hid (cur.toList.length = co * 9) := by show _ = _; rw [Array.length_toList, hcsz]
              have hfit : j * 9 + (entOne (s2, l2, u2)).length ≤ cur.toList.length := by
                rw [HCL.out]; show j * 9 + 9 ≤ _; omega
              have hone := entOne_one (s2, l2, u2)
              replace htk := Lib.hid htk
              replace hxl := Lib.hid hxl
              replace hcsz := Lib.hid hcsz
              replace hfit := Lib.hid hfit
              go_wp2_with (refine wpList_store_at rfl _ _ _ rfl (g := g) (off := j * 9) (cells := entOne (s2, l2, u2)) rfl rfl rfl (by kernel_rfl) hg6 hfit.out hone ?_; intro w7 hg7 hgr7)
              go_roundw
              case rel =>
                refine ⟨k + 1, out.set j (s2, l2, u2), by omega, by go_num, Ext.putQ (hb.trans (h56.trans hEn6h.out)) hgr7 hBg, ⟨by rw [entCellsQ_len, List.length_set, hol], Or.inr ⟨g, co, _, rfl, hBg, hg7, hnc, hcm, ?_, ?_⟩⟩, by rw [List.length_set]; exact hol, HS1⟩
                · rw [List.size_toArray, length_splice _ _ _ hfit.out]; exact HCL.out
                · show (splice cur.toList (j * 9) (entOne (s2, l2, u2))).take (R.length * 9) = _
                  rw [take_splice _ _ (by show j * 9 + 9 ≤ _; omega) (by rw [HCL.out]; omega), htk.out, entCellsQ_set (by omega)]
              case measure => simp [intOf]; omega
          · have HS1 := HS.out
            rw [if_neg hno] at HS1
            replace HS1 := Lib.hid HS1
            have hnoz : ((no : Int) != 0) = true := by rw [bne_iff_ne]; omega
            clear HS HE
            have hfin := hbw.trans (h56.trans hEn6h.out)
            replace hfin := Lib.hid hfin
            go_wp2
            go_ret2
            exact ⟨_, by rw [HS1.out]; rfl, by rw [HS1.out]; exact hx.ext hfin.out, hfin.out, fun h => by rw [HS1.out] at h; exact absurd h hno⟩
        · obtain rfl : k = l.length := by omega
          have hE' : Hid (E = (out, 0)) := by
            show _ = _
            rw [HE.out, List.drop_length]; rfl
          go_wp2
          go_ret2
          exact ⟨_, by rw [hE'.out]; rfl, by rw [hE'.out]; exact Tree.of_row ho hol.symm, hbw, fun _ => by rw [hE'.out]; exact Dm.row_mono hW3.size ho⟩


theorem qChargeE (v : Vc) (hv : OkV v) : DoesE 39 (.agg #[.int .u64 (vG v 0 : Nat), .int .u64 (vG v 1 : Nat), .int .u64 (vG v 2 : Nat), .int .u64 (vG v 3 : Nat)]) (chgE v) :=
  ⟨fun _ _ => by kernel_rfl, fun r w hr => qcharge_w v hv r hr w⟩

set_option maxHeartbeats 1000000 in
theorem qChargeO_w (R : List EntQ) (va : Value) (p : ByteArray) (v : Vc) (hv : OkV v) (w : World) (hm : R.length ≤ 1099511627776) (hR : FitT R) (hx : Tree w va R) (hp : p.size < 4294967281) (ht : Vars w) :
    Calls Tryz.prog 9 #[va, .string p, vVal v] w fun e w' => ∃ v', e = .returned (.tuple #[v', .int .i64 ((eachT R p (chgE v)).2 : Nat)]) ∧ Tree w' v' (eachT R p (chgE v)).1 ∧ Ext w w' ∧ ((eachT R p (chgE v)).2 = 0 → w'.ownsRow w.heap.size 38 9 v' R.length (entCellsQ (eachT R p (chgE v)).1)) := by
  have hE : Ext w (w.alloc (.cells #[.int .u64 (vG v 0 : Nat), .int .u64 (vG v 1 : Nat), .int .u64 (vG v 2 : Nat), .int .u64 (vG v 3 : Nat)] 25)) := (Ext.refl _).alloc _
  have C := qeachO_w _ _ _ (qChargeE v hv) R va p _ hm hR (hx.ext hE) hp (ht.ext hE)
  obtain ⟨q, cap, rfl, _, _⟩ := hx.shape
  generalize eachT R p (chgE v) = E at *
  unfold vVal vF
  obtain ⟨_, a0, a1, a2, a3, _, _, _, _⟩ := (VBox.new w (vG v) 25).four
  generalize vG v = V at *
  replace C := Lib.hid C
  go_enter Tryz.func9, Tryz.ntmps9
  go_wp2_with fail
  refine C.out.mono ?_; rintro e w1 ⟨v1, rfl, hx1, h1, ho1⟩
  go_wp2
  go_ret2
  exact ⟨_, rfl, hx1, hE.trans h1, fun h => Dm.row_mono hE.size (ho1 h)⟩
theorem qCharge_w (R : List EntQ) (va : Value) (p : ByteArray) (v : Vc) (hv : OkV v) (w : World) (hm : R.length ≤ 1099511627776) (hR : FitT R) (hx : Tree w va R) (hp : p.size < 4294967281) (ht : Vars w) :
    Calls Tryz.prog 9 #[va, .string p, vVal v] w fun e w' => ∃ v', e = .returned (.tuple #[v', .int .i64 ((eachT R p (chgE v)).2 : Nat)]) ∧ Tree w' v' (eachT R p (chgE v)).1 ∧ Ext w w' :=
  (qChargeO_w R va p v hv w hm hR hx hp ht).mono fun _ _ ⟨v', h1, h2, h3, _⟩ => ⟨v', h1, h2, h3⟩

theorem qRefundE (v : Vc) (hv : OkV v) : DoesE 43 (.agg #[.int .u64 (vG v 0 : Nat), .int .u64 (vG v 1 : Nat), .int .u64 (vG v 2 : Nat), .int .u64 (vG v 3 : Nat)]) (rfdE v) :=
  ⟨fun _ _ => by kernel_rfl, fun r w hr => qrefund_w v hv r hr w⟩

set_option maxHeartbeats 1000000 in
theorem qRefundO_w (R : List EntQ) (va : Value) (p : ByteArray) (v : Vc) (hv : OkV v) (w : World) (hm : R.length ≤ 1099511627776) (hR : FitT R) (hx : Tree w va R) (hp : p.size < 4294967281) (ht : Vars w) :
    Calls Tryz.prog 11 #[va, .string p, vVal v] w fun e w' => ∃ v', e = .returned (.tuple #[v', .int .i64 ((eachT R p (rfdE v)).2 : Nat)]) ∧ Tree w' v' (eachT R p (rfdE v)).1 ∧ Ext w w' ∧ ((eachT R p (rfdE v)).2 = 0 → w'.ownsRow w.heap.size 38 9 v' R.length (entCellsQ (eachT R p (rfdE v)).1)) := by
  have hE : Ext w (w.alloc (.cells #[.int .u64 (vG v 0 : Nat), .int .u64 (vG v 1 : Nat), .int .u64 (vG v 2 : Nat), .int .u64 (vG v 3 : Nat)] 25)) := (Ext.refl _).alloc _
  have C := qeachO_w _ _ _ (qRefundE v hv) R va p _ hm hR (hx.ext hE) hp (ht.ext hE)
  obtain ⟨q, cap, rfl, _, _⟩ := hx.shape
  generalize eachT R p (rfdE v) = E at *
  unfold vVal vF
  obtain ⟨_, a0, a1, a2, a3, _, _, _, _⟩ := (VBox.new w (vG v) 25).four
  generalize vG v = V at *
  replace C := Lib.hid C
  go_enter Tryz.func11, Tryz.ntmps11
  go_wp2_with fail
  refine C.out.mono ?_; rintro e w1 ⟨v1, rfl, hx1, h1, ho1⟩
  go_wp2
  go_ret2
  exact ⟨_, rfl, hx1, hE.trans h1, fun h => Dm.row_mono hE.size (ho1 h)⟩
theorem qRefund_w (R : List EntQ) (va : Value) (p : ByteArray) (v : Vc) (hv : OkV v) (w : World) (hm : R.length ≤ 1099511627776) (hR : FitT R) (hx : Tree w va R) (hp : p.size < 4294967281) (ht : Vars w) :
    Calls Tryz.prog 11 #[va, .string p, vVal v] w fun e w' => ∃ v', e = .returned (.tuple #[v', .int .i64 ((eachT R p (rfdE v)).2 : Nat)]) ∧ Tree w' v' (eachT R p (rfdE v)).1 ∧ Ext w w' :=
  (qRefundO_w R va p v hv w hm hR hx hp ht).mono fun _ _ ⟨v', h1, h2, h3, _⟩ => ⟨v', h1, h2, h3⟩

end Go.Proofs.YtopnllbfhhjobaaGreatDoor

namespace Go.Dm
open Go Go.RowKit
theorem lim_cells (A B : List Value) (r : EntQ) (lim : Vc) : splice (A ++ (entOne r ++ B)) (A.length + 1) [uAt lim 0, uAt lim 1, uAt lim 2, uAt lim 3] = A ++ (entOne (r.1, lim, r.2.2) ++ B) := by
  unfold splice
  rw [show A.length + 1 + [uAt lim 0, uAt lim 1, uAt lim 2, uAt lim 3].length = A.length + 5 from rfl, List.take_length_add_append, List.drop_length_add_append]
  simp [entOne]
theorem entCellsQ_lim {R : List EntQ} {k : Nat} (hk : k < R.length) (lim : Vc) : splice (entCellsQ R) (k * 9 + 1) [uAt lim 0, uAt lim 1, uAt lim 2, uAt lim 3] = entCellsQ (R.set k ((eAt R k).1, lim, (eAt R k).2.2)) := by
  have hR : entCellsQ R = entCellsQ (R.take k) ++ (entOne (eAt R k) ++ entCellsQ (R.drop (k + 1))) := by
    conv => lhs; rw [← List.take_append_drop k R, entCellsQ_app, List.drop_eq_getElem_cons hk, ← eAt_eq hk]
    rfl
  have hl : (entCellsQ (R.take k)).length = k * 9 := by rw [entCellsQ_len, List.length_take, Nat.min_eq_left (by omega)]
  rw [List.set_eq_take_append_cons_drop, if_pos hk, entCellsQ_app, hR, ← hl, lim_cells]
  rfl
end Go.Dm
namespace Go.Proofs.YtopnllbfhhjobaaGreatDoor
open Go.RowKit Go.Dm

set_option maxHeartbeats 1000000 in
theorem qset1_w (r : EntQ) (p : ByteArray) (c : Nat) (w : World) (hcl : c < w.heap.size) (hc : w.cell? ⟨c, 0, none⟩ = some (.string p)) :
    Calls Tryz.prog 32 #[entVal r, .pointer (some ⟨c, 0, none⟩)] w fun e w' => e = .returned (.bool (!Op.bytesLess r.1.data.toList p.data.toList)) ∧ Ext w w' := by
  obtain ⟨s, l, u⟩ := r
  unfold entVal uAt
  simp only
  generalize vG l = L
  generalize vG u = U
  have hE : Ext w (w.alloc (.cells #[.string s, .int .u64 (L 0 : Nat), .int .u64 (L 1 : Nat), .int .u64 (L 2 : Nat), .int .u64 (L 3 : Nat), .int .u64 (U 0 : Nat), .int .u64 (U 1 : Nat), .int .u64 (U 2 : Nat), .int .u64 (U 3 : Nat)] 38)) := (Ext.refl _).alloc _
  rw [← ByteArray.toList_eq, ← ByteArray.toList_eq]
  go_enter Tryz.func32, Tryz.ntmps32
  go_wp2
  go_ret
  exact ⟨by simp, hE⟩

set_option maxHeartbeats 2000000 in
set_option maxRecDepth 100000 in
theorem qsindex_w (R : List EntQ) (p : ByteArray) (v : Value) (c : Nat) (w : World) (hm : R.length ≤ 1099511627776) (hx : Tree w v R) (hcl : c < w.heap.size) (hc : w.cell? ⟨c, 0, none⟩ = some (.string p)) :
    Calls Tryz.prog 31 #[v, .func (.func 32) #[] #[.pointer (some ⟨c, 0, none⟩)]] w
      fun e w' => e = .returned (.int .i64 (upI R p)) ∧ Ext w w' := by
  obtain ⟨q, cap, rfl, _, _⟩ := hx.shape
  go_enter Tryz.func31, Tryz.ntmps31
  go_wp2
  go_loopw [8] (fun i wr => ∃ k : Nat, k ≤ R.length ∧ i = .int .i64 k ∧ Ext w wr ∧ Hid (∀ j, j < k → Op.bytesLess (eAt R j).1.data.toList p.data.toList = true)) (fun i _ => R.length - (intOf i).toNat)
  case atStart => exact ⟨0, by omega, rfl, Ext.refl w, fun j hj => by omega⟩
  case round =>
    obtain ⟨k, hk', rfl, hb, HN⟩ := hrel
    by_cases hlt : k < R.length
    · obtain ⟨b, off, rfl, hbl, hcs⟩ := (hx.ext hb).at hlt
      have hcl' : c < wr.heap.size := Nat.lt_of_lt_of_le hcl hb.size
      have hc' : wr.cell? ⟨c, 0, none⟩ = some (.string p) := by rw [hb.cell (by exact hcl)]; exact hc
      have C := qset1_w (eAt R k) p c wr hcl' hc'
      have hY : Hid (Op.bytesLess (eAt R k).1.data.toList p.data.toList = false → upI R p = k) := fun h => by
        unfold upI; rw [upN_hit hlt HN.out h, if_pos hlt]
      have hN2 : Hid (Op.bytesLess (eAt R k).1.data.toList p.data.toList = true → ∀ j, j < k + 1 → Op.bytesLess (eAt R j).1.data.toList p.data.toList = true) := fun h j hj => by
        rcases Nat.lt_succ_iff_lt_or_eq.1 hj with h' | rfl
        · exact HN.out j h'
        · exact h
      have c0 := hcs 0 (by omega)
      have c1 := hcs 1 (by omega)
      have c2 := hcs 2 (by omega)
      have c3 := hcs 3 (by omega)
      have c4 := hcs 4 (by omega)
      have c5 := hcs 5 (by omega)
      have c6 := hcs 6 (by omega)
      have c7 := hcs 7 (by omega)
      have c8 := hcs 8 (by omega)
      simp only [entOne, uAt, List.getElem?_cons_zero, List.getElem?_cons_succ, Nat.add_zero] at c0 c1 c2 c3 c4 c5 c6 c7 c8
      clear hcs
      generalize Op.bytesLess (eAt R k).1.data.toList p.data.toList = d at C hY hN2
      generalize eAt R k = r at c0 c1 c2 c3 c4 c5 c6 c7 c8 C
      obtain ⟨s, l, u⟩ := r
      unfold entVal uAt at C
      simp only at c0 c1 c2 c3 c4 c5 c6 c7 c8 C
      cases d with
      | false =>
        replace hY := Lib.hid (hY.out rfl)
        clear hN2
        replace C := Lib.hid C
        go_wp2_with fail
        refine C.out.mono ?_; rintro e w1 ⟨rfl, h1⟩
        go_wp2
        go_ret
        exact ⟨by rw [hY.out]; rfl, hb.trans h1⟩
      | true =>
        replace hN2 := Lib.hid (hN2.out rfl)
        clear hY
        replace C := Lib.hid C
        go_wp2_with fail
        refine C.out.mono ?_; rintro e w1 ⟨rfl, h1⟩
        go_wp2
        go_roundw
        case rel => exact ⟨k + 1, by omega, by go_num, hb.trans h1, hN2⟩
        case measure => simp [intOf]; omega
    · obtain rfl : k = R.length := by omega
      have hY : Hid (upI R p = -1) := by show _ = _; unfold upI; rw [upN_miss HN.out, if_neg (by omega)]
      go_wp2
      go_ret
      exact ⟨by rw [hY.out]; rfl, hb⟩

set_option maxHeartbeats 8000000 in
set_option maxRecDepth 100000 in
theorem qset_w (R : List EntQ) (v : Value) (p : ByteArray) (lim : Vc) (hl : OkV lim) (w : World) (hm : R.length ≤ 1099511627776) (hR : FitT R) (hx : Tree w v R) (hp : p.size < 4294967281) (ht : Vars w) :
    Calls Tryz.prog 6 #[v, .string p, vVal lim] w fun e w' => ∃ v', e = .returned (.tuple #[v', .int .i64 ((setT R p lim).2 : Nat)]) ∧ Tree w' v' (setT R p lim).1 ∧ Ext w w' := by
  obtain ⟨q, cap, rfl, _, _⟩ := hx.shape
  have hW : Ext w ((w.alloc (.cells #[.string p] 9)).alloc (.cells #[.int .u64 (vG lim 0 : Nat), .int .u64 (vG lim 1 : Nat), .int .u64 (vG lim 2 : Nat), .int .u64 (vG lim 3 : Nat)] 25)) := ((Ext.refl w).alloc _).alloc _
  have hbp : ((w.alloc (.cells #[.string p] 9)).alloc (.cells #[.int .u64 (vG lim 0 : Nat), .int .u64 (vG lim 1 : Nat), .int .u64 (vG lim 2 : Nat), .int .u64 (vG lim 3 : Nat)] 25)).cell? ⟨w.heap.size, 0, none⟩ = some (.string p) := by
    rw [(((Ext.refl (w.alloc (.cells #[.string p] 9))).alloc (.cells #[.int .u64 (vG lim 0 : Nat), .int .u64 (vG lim 1 : Nat), .int .u64 (vG lim 2 : Nat), .int .u64 (vG lim 3 : Nat)] 25))).cell (by simp)]; simp
  have hbl : VBox (w.heap.size + 1) (vG lim) ((w.alloc (.cells #[.string p] 9)).alloc (.cells #[.int .u64 (vG lim 0 : Nat), .int .u64 (vG lim 1 : Nat), .int .u64 (vG lim 2 : Nat), .int .u64 (vG lim 3 : Nat)] 25)) := by
    have h := VBox.new (w.alloc (.cells #[.string p] 9)) (vG lim) 25
    rw [World.size_alloc] at h
    exact h
  have hbl0 : w.heap.size < ((w.alloc (.cells #[.string p] 9)).alloc (.cells #[.int .u64 (vG lim 0 : Nat), .int .u64 (vG lim 1 : Nat), .int .u64 (vG lim 2 : Nat), .int .u64 (vG lim 3 : Nat)] 25)).heap.size := by simp; omega
  unfold vVal vF
  generalize hW0 : ((w.alloc (.cells #[.string p] 9)).alloc (.cells #[.int .u64 (vG lim 0 : Nat), .int .u64 (vG lim 1 : Nat), .int .u64 (vG lim 2 : Nat), .int .u64 (vG lim 3 : Nat)] 25)) = W at *
  have C1 := fun U (h : Ext W U) => qplace_w R p _ U hm (hx.ext (hW.trans h))
  have C2 := fun U (h : Ext W U) => qnamed_w p U hp (ht.ext (hW.trans h))
  have C3 := fun U (h : Ext W U) => qparent_w p U hp (ht.ext (hW.trans h))
  have C4 := fun U (h : Ext W U) => qplace_w R (parB p) _ U hm (hx.ext (hW.trans h))
  have C5 := fun U (h : Ext W U) => qeclone_w R.length (entCellsQ R) _ U hm (hx.ext (hW.trans h)) (entCellsQ_one R)
  have C6 := fun U (h : Ext W U) => qsindex_w R p _ w.heap.size U hm (hx.ext (hW.trans h)) (Nat.lt_of_lt_of_le hbl0 h.size) (by rw [h.cell (by exact hbl0)]; exact hbp)
  have hE1 : namB p = false → setT R p lim = (R, 6) := fun h => by unfold setT; rw [if_pos h]
  have hE2 : namB p = true → p ≠ ⟨#[]⟩ → plI R (parB p) < 0 → setT R p lim = (R, 7) := fun h h1 h2 => by
    unfold setT
    rw [if_neg (show ¬ namB p = false by rw [h]; simp), if_pos ⟨h1, by have := plN_le R (parB p); unfold plI at h2; split at h2 <;> omega⟩]
  have hgo : (p = ⟨#[]⟩ ∨ 0 ≤ plI R (parB p)) → ¬ (p ≠ ⟨#[]⟩ ∧ plN R (parB p) = R.length) := fun h h2 => by
    rcases h with h | h
    · exact h2.1 h
    · have e : plI R (parB p) = -1 := by unfold plI; rw [if_neg (by omega)]
      omega
  have hE3 : namB p = true → (p = ⟨#[]⟩ ∨ 0 ≤ plI R (parB p)) → plN R p = R.length → 16 ≤ R.length → setT R p lim = (R, 9) := fun h h1 h2 h3 => by
    unfold setT
    rw [if_neg (show ¬ namB p = false by rw [h]; simp), if_neg (hgo h1), if_pos ⟨h2, h3⟩]
  have hE4 : namB p = true → (p = ⟨#[]⟩ ∨ 0 ≤ plI R (parB p)) → plN R p < R.length → vfits (eAt R (plN R p)).2.2 lim = false → setT R p lim = (R, 10) := fun h h1 h2 h3 => by
    unfold setT
    rw [if_neg (show ¬ namB p = false by rw [h]; simp), if_neg (hgo h1), if_neg (by omega), if_pos ⟨h2, h3⟩]
  have hE5 : namB p = true → (p = ⟨#[]⟩ ∨ 0 ≤ plI R (parB p)) → plN R p < R.length → vfits (eAt R (plN R p)).2.2 lim = true → setT R p lim = (R.set (plN R p) ((eAt R (plN R p)).1, lim, (eAt R (plN R p)).2.2), 0) := fun h h1 h2 h3 => by
    unfold setT
    rw [if_neg (show ¬ namB p = false by rw [h]; simp), if_neg (hgo h1), if_neg (by omega), if_neg (fun e => by rw [h3] at e; exact absurd e.2 (by simp)), if_pos h2]
  have hE6 : namB p = true → (p = ⟨#[]⟩ ∨ 0 ≤ plI R (parB p)) → plN R p = R.length → ¬ 16 ≤ R.length → setT R p lim = (R.take (upN R p) ++ (p, lim, noV) :: R.drop (upN R p), 0) := fun h h1 h2 h3 => by
    unfold setT
    rw [if_neg (show ¬ namB p = false by rw [h]; simp), if_neg (hgo h1), if_neg (fun e => h3 e.2), if_neg (by omega), if_neg (by omega)]
  clear hgo
  generalize setT R p lim = E at *
  generalize namB p = nm at *
  generalize parB p = pp at *
  have hpl : plI R p = if plN R p < R.length then (plN R p : Int) else -1 := rfl
  have hple := plN_le R p
  generalize plI R p = pi at *
  generalize plI R pp = ppi at *
  generalize plN R p = k at *
  have hup : upI R p = if upN R p < R.length then (upN R p : Int) else -1 := rfl
  have hupl := upN_le R p
  generalize upI R p = ui at *
  generalize upN R p = un at *
  replace C1 := Lib.hid C1
  replace C2 := Lib.hid C2
  replace C3 := Lib.hid C3
  replace C4 := Lib.hid C4
  replace C5 := Lib.hid C5
  replace C6 := Lib.hid C6
  replace hE1 := Lib.hid hE1
  replace hE2 := Lib.hid hE2
  replace hE3 := Lib.hid hE3
  replace hE4 := Lib.hid hE4
  replace hE5 := Lib.hid hE5
  replace hE6 := Lib.hid hE6
  replace hpl := Lib.hid hpl
  replace hup := Lib.hid hup
  have hbx := fun U (h : Ext W U) => (show U.cell? ⟨w.heap.size, 0, none⟩ = some (.string p) by rw [h.cell (by exact hbl0)]; exact hbp)
  replace hbx := Lib.hid hbx
  go_enter Tryz.func6, Tryz.ntmps6
  go_wp2_with fail
  refine (C1.out W (Ext.refl _)).mono ?_; rintro e w1 ⟨rfl, h1⟩
  have b1 := hbx.out w1 h1
  go_wp2_with fail
  refine (C2.out w1 h1).mono ?_; rintro e w2 ⟨rfl, h2⟩
  replace h2 := h1.trans h2
  clear h1 b1
  have b1 := hbx.out w2 h2
  cases nm with
  | false =>
    have hE := Lib.hid (hE1.out (by trivial))
    go_wp2
    go_ret2
    exact ⟨_, by rw [hE.out]; rfl, by rw [hE.out]; exact hx.ext (hW.trans h2), hW.trans h2⟩
  | true =>
    by_cases hpe : p = ⟨#[]⟩
    · have hz2 : p.toList = [] := by rw [hpe, ByteArray.toList_eq]
      have hpe2 := Lib.hid hpe
      clear hpe
      have hor : Hid (p = ⟨#[]⟩ ∨ 0 ≤ ppi) := Or.inl hpe2.out
      by_cases hk : k < R.length
      · have hpi := hpl.out
        rw [if_pos hk] at hpi
        subst hpi
        obtain ⟨tb, tof, hqe, htbl, hcs⟩ := hx.at hk
        subst hqe
        have hU := (hR.at hk).2.2
        have C7 := fun U => vfits_w (eAt R k).2.2 lim hU hl U
        obtain ⟨⟨s1, l1, u1⟩, hr⟩ : ∃ r, eAt R k = r := ⟨_, rfl⟩
        rw [hr] at hcs C7 hE4 hE5
        have hrr := Lib.hid hr
        clear hr hU hE3 hE6 hE1 hE2
        simp only at C7 hE4 hE5
        unfold vVal vF at C7
        have hcs2 : ∀ U, Ext w U → ∀ j', j' < 9 → U.cell? ⟨tb, tof + k * 9 + j', none⟩ = (entOne (s1, l1, u1))[j']? := fun U hU j' hj' => by rw [hU.cell (by exact htbl)]; exact hcs j' hj'
        clear hcs
        replace hcs2 := Lib.hid hcs2
        have htl := Nat.lt_of_lt_of_le htbl (hW.trans h2).size
        have hcs := hcs2.out _ (hW.trans h2)
        obtain ⟨al, a0, a1, a2, a3, _, _, _, _⟩ := (hbl.ext h2).four
        have c0 := hcs 0 (by omega)
        have c1 := hcs 1 (by omega)
        have c2 := hcs 2 (by omega)
        have c3 := hcs 3 (by omega)
        have c4 := hcs 4 (by omega)
        have c5 := hcs 5 (by omega)
        have c6 := hcs 6 (by omega)
        have c7 := hcs 7 (by omega)
        have c8 := hcs 8 (by omega)
        simp only [entOne, uAt, List.getElem?_cons_zero, List.getElem?_cons_succ, Nat.add_zero] at c0 c1 c2 c3 c4 c5 c6 c7 c8
        clear hcs
        cases hd : vfits u1 lim with
        | false =>
          have hE := Lib.hid (hE4.out (by trivial) hor.out hk hd)
          rw [hd] at C7
          replace C7 := Lib.hid C7
          clear hd hE4 hE5
          go_wp2_with fail
          refine Dm.wp_region_grow (by kernel_rfl) (by kernel_rfl) ?_
          repeat (go_big_quiet_step (first | (go_at_call 29; with_reducible exact Calls.quietE (C7.out _))))
          refine wpQuiet_nil ?_
          intro w9 h9
          go_wp2
          go_ret2
          exact ⟨_, by rw [hE.out]; rfl, by rw [hE.out]; exact hx.ext (hW.trans (h2.trans h9)), hW.trans (h2.trans h9)⟩
        | true =>
          have hE := Lib.hid (hE5.out (by trivial) hor.out hk hd)
          rw [hd] at C7
          replace C7 := Lib.hid C7
          clear hd hE4 hE5
          go_wp2_with fail
          refine Dm.wp_region_grow (by kernel_rfl) (by kernel_rfl) ?_
          repeat (go_big_quiet_step (first | (go_at_call 29; with_reducible exact Calls.quietE (C7.out _))))
          refine wpQuiet_nil ?_
          intro w9 h9
          replace h9 := h2.trans h9
          clear al a0 a1 a2 a3 c0 c1 c2 c3 c4 c5 c6 c7 c8 C7 b1
          have b1 := hbx.out w9 h9
          go_wp2_with fail
          refine (C5.out w9 h9).mono ?_; rintro e w10 ⟨vo, rfl, ho, h10⟩
          have h10' := h9.trans h10
          obtain ⟨al, a0, a1, a2, a3, _, _, _, _⟩ := (hbl.ext h10').four
          obtain ⟨hxl, hrow⟩ := ho
          rcases hrow with ⟨h0, h00⟩ | ⟨g, cap', cur, hg0, hBg, hg, hnc, hcm, hcsz, htk⟩
          · exact absurd h00 (by omega)
          · subst hg0
            have HCL : Hid (cur.toList.length = cap' * 9) := by show _ = _; rw [Array.length_toList, hcsz]
            have hg6 : w10.heap[g]? = some (.cells cur.toList.toArray 38 (0, 0)) := by rw [Array.toArray_toList]; exact hg
            have hfit : k * 9 + 1 + ([uAt lim 0, uAt lim 1, uAt lim 2, uAt lim 3] : List Value).length ≤ cur.toList.length := by rw [HCL.out]; show k * 9 + 1 + 4 ≤ _; omega
            have hone : ∀ u ∈ ([uAt lim 0, uAt lim 1, uAt lim 2, uAt lim 3] : List Value), u.oneCell' = true := fun u hu => by
              simp only [List.mem_cons, List.not_mem_nil, or_false] at hu
              rcases hu with rfl | rfl | rfl | rfl <;> rfl
            replace htk := Lib.hid htk
            replace hxl := Lib.hid hxl
            replace hcsz := Lib.hid hcsz
            replace hfit := Lib.hid hfit
            go_wp2_with (refine wpList_store_at rfl _ _ _ rfl (g := g) (off := k * 9 + 1) (cells := [uAt lim 0, uAt lim 1, uAt lim 2, uAt lim 3]) rfl rfl rfl (by kernel_rfl) hg6 hfit.out hone ?_; intro w7 hg7 hgr7)
            go_ret2
            have hfin := Ext.putQ (hW.trans h10') hgr7 (by have := (hW.trans h9).size; omega)
            refine ⟨_, by rw [hE.out]; rfl, ?_, hfin⟩
            rw [hE.out]
            refine Tree.of_row (B := w9.heap.size) (e := 38) (n := R.length) ⟨by rw [entCellsQ_len, List.length_set], Or.inr ⟨g, cap', _, rfl, hBg, hg7, hnc, hcm, ?_, ?_⟩⟩ (by rw [List.length_set])
            · rw [List.size_toArray, length_splice _ _ _ hfit.out]; exact HCL.out
            · show (splice cur.toList (k * 9 + 1) [uAt lim 0, uAt lim 1, uAt lim 2, uAt lim 3]).take (R.length * 9) = _
              rw [take_splice _ _ (by show k * 9 + 1 + 4 ≤ _; omega) (by rw [HCL.out]; omega), htk.out, entCellsQ_lim hk]
              rw [hrr.out]
      · have hk2 : k = R.length := by omega
        have hpi := hpl.out
        rw [if_neg hk] at hpi
        subst hpi
        clear hE1 hE2 hE4 hE5
        obtain ⟨al, a0, a1, a2, a3, _, _, _, _⟩ := (hbl.ext h2).four
        by_cases h16 : 16 ≤ R.length
        · have hE := Lib.hid (hE3.out (by trivial) hor.out hk2 h16)
          clear hE3 hE6
          go_wp2
          go_ret2
          exact ⟨_, by rw [hE.out]; rfl, by rw [hE.out]; exact hx.ext (hW.trans h2), hW.trans h2⟩
        · have hE := Lib.hid (hE6.out (by trivial) hor.out hk2 h16)
          clear hE3 hE6
          go_wp2_with fail
          refine Dm.wp_region_grow (by kernel_rfl) (by kernel_rfl) ?_
          repeat (go_big_quiet_step (fail))
          refine wpQuiet_nil ?_
          intro w9 h9
          replace h9 := h2.trans h9
          clear al a0 a1 a2 a3 b1
          have b1 := hbx.out w9 h9
          go_wp2_with fail
          refine (C5.out w9 h9).mono ?_; rintro e w10 ⟨vo, rfl, ho, h10⟩
          have h10' := h9.trans h10
          clear b1
          have b1 := hbx.out w10 h10'
          obtain ⟨ao, co, rfl⟩ : ∃ a c, vo = .slice a R.length c := by
            obtain ⟨a, c, e, _⟩ := (Sl.of_owns ho).shape
            exact ⟨a, c, e⟩
          go_wp2_with fail
          refine (C6.out w10 h10').mono ?_; rintro e w11 ⟨rfl, h11⟩
          have h11' := h10'.trans h11
          replace ho := Ext.row ho h11
          clear b1
          have b1 := hbx.out w11 h11'
          obtain ⟨al, a0, a1, a2, a3, _, _, _, _⟩ := (hbl.ext h11').four
          have hne : (Value.slice ao R.length co).ownBlock ≠ some w11.heap.size := fun h => by
            have := (World.ownsRow.lt ho _ h).2
            omega
          have hal : Ext w11 (w11.alloc (.cells #[.string p, .int .u64 (vG lim 0 : Nat), .int .u64 (vG lim 1 : Nat), .int .u64 (vG lim 2 : Nat), .int .u64 (vG lim 3 : Nat), .int .u64 0, .int .u64 0, .int .u64 0, .int .u64 0] 38)) := (Ext.refl _).alloc _
          have hu := hup.out
          have CI := qeinsert_w w9 (entCellsQ R) [.string p, .int .u64 (vG lim 0 : Nat), .int .u64 (vG lim 1 : Nat), .int .u64 (vG lim 2 : Nat), .int .u64 (vG lim 3 : Nat), .int .u64 0, .int .u64 0, .int .u64 0, .int .u64 0] (.slice ao R.length co) R.length un w11.heap.size _ hm hupl ((h10.trans h11).trans hal) (Ext.row ho hal) rfl (by simp [Value.oneCell']) (entCellsQ_one R) (heap_alloc_new w11 _) hne
          have hrow : Hid (∀ (w' : World) (r' : Value), w'.ownsRow w9.heap.size 38 9 r' (R.length + 1) ((entCellsQ R).take (un * 9) ++ ([.string p, .int .u64 (vG lim 0 : Nat), .int .u64 (vG lim 1 : Nat), .int .u64 (vG lim 2 : Nat), .int .u64 (vG lim 3 : Nat), .int .u64 0, .int .u64 0, .int .u64 0, .int .u64 0] ++ (entCellsQ R).drop (un * 9))) → Tree w' r' (R.take un ++ (p, lim, noV) :: R.drop un)) := fun w' r' h => by
            rw [entCellsQ_take R un hupl, entCellsQ_drop R un hupl] at h
            refine Tree.of_row (B := w9.heap.size) (e := 38) (n := R.length + 1) ?_ (by simp; omega)
            rw [entCellsQ_app]
            exact h
          replace CI := Lib.hid CI
          by_cases hul : un < R.length
          · rw [if_pos hul] at hu
            subst hu
            go_wp2_with fail
            refine CI.out.mono ?_; rintro e w12 ⟨r2, rfl, ho2, h12⟩
            go_wp2
            go_ret2
            exact ⟨_, by rw [hE.out]; rfl, by rw [hE.out]; exact hrow.out _ _ ho2, (hW.trans h9).trans h12⟩
          · rw [if_neg hul] at hu
            obtain rfl : un = R.length := by omega
            subst hu
            go_wp2_with fail
            refine CI.out.mono ?_; rintro e w12 ⟨r2, rfl, ho2, h12⟩
            go_wp2
            go_ret2
            exact ⟨_, by rw [hE.out]; rfl, by rw [hE.out]; exact hrow.out _ _ ho2, (hW.trans h9).trans h12⟩
    · have hz2 : p.toList.isEmpty = false := by
        rw [List.isEmpty_eq_false_iff, ByteArray.toList_eq]
        intro e
        exact hpe (mk_bytes e)
      have hz3 : ¬ p.toList = [] := by rw [← List.isEmpty_iff, hz2]; simp
      go_wp2_with fail
      refine (C3.out w2 h2).mono ?_; rintro e w3 ⟨rfl, h3⟩
      replace h3 := h2.trans h3
      clear b1
      have b1 := hbx.out w3 h3
      go_wp2_with fail
      refine (C4.out w3 h3).mono ?_; rintro e w4 ⟨rfl, h4⟩
      replace h4 := h3.trans h4
      clear b1 h3
      have b1 := hbx.out w4 h4
      by_cases hq : ppi < 0
      · have hE := Lib.hid (hE2.out (by trivial) hpe hq)
        go_wp2
        go_ret2
        exact ⟨_, by rw [hE.out]; rfl, by rw [hE.out]; exact hx.ext (hW.trans h4), hW.trans h4⟩
      · have hq2 : 0 ≤ ppi := by omega
        have hor : Hid (p = ⟨#[]⟩ ∨ 0 ≤ ppi) := Or.inr hq2
        by_cases hk : k < R.length
        · have hpi := hpl.out
          rw [if_pos hk] at hpi
          subst hpi
          obtain ⟨tb, tof, hqe, htbl, hcs⟩ := hx.at hk
          subst hqe
          have hU := (hR.at hk).2.2
          have C7 := fun U => vfits_w (eAt R k).2.2 lim hU hl U
          obtain ⟨⟨s1, l1, u1⟩, hr⟩ : ∃ r, eAt R k = r := ⟨_, rfl⟩
          rw [hr] at hcs C7 hE4 hE5
          have hrr := Lib.hid hr
          clear hr hU hE3 hE6 hE1 hE2
          simp only at C7 hE4 hE5
          unfold vVal vF at C7
          have hcs2 : ∀ U, Ext w U → ∀ j', j' < 9 → U.cell? ⟨tb, tof + k * 9 + j', none⟩ = (entOne (s1, l1, u1))[j']? := fun U hU j' hj' => by rw [hU.cell (by exact htbl)]; exact hcs j' hj'
          clear hcs
          replace hcs2 := Lib.hid hcs2
          have htl := Nat.lt_of_lt_of_le htbl (hW.trans h4).size
          have hcs := hcs2.out _ (hW.trans h4)
          obtain ⟨al, a0, a1, a2, a3, _, _, _, _⟩ := (hbl.ext h4).four
          have c0 := hcs 0 (by omega)
          have c1 := hcs 1 (by omega)
          have c2 := hcs 2 (by omega)
          have c3 := hcs 3 (by omega)
          have c4 := hcs 4 (by omega)
          have c5 := hcs 5 (by omega)
          have c6 := hcs 6 (by omega)
          have c7 := hcs 7 (by omega)
          have c8 := hcs 8 (by omega)
          simp only [entOne, uAt, List.getElem?_cons_zero, List.getElem?_cons_succ, Nat.add_zero] at c0 c1 c2 c3 c4 c5 c6 c7 c8
          clear hcs
          cases hd : vfits u1 lim with
          | false =>
            have hE := Lib.hid (hE4.out (by trivial) hor.out hk hd)
            rw [hd] at C7
            replace C7 := Lib.hid C7
            clear hd hE4 hE5
            go_wp2_with fail
            refine Dm.wp_region_grow (by kernel_rfl) (by kernel_rfl) ?_
            repeat (go_big_quiet_step (first | (go_at_call 29; with_reducible exact Calls.quietE (C7.out _))))
            refine wpQuiet_nil ?_
            intro w9 h9
            go_wp2
            go_ret2
            exact ⟨_, by rw [hE.out]; rfl, by rw [hE.out]; exact hx.ext (hW.trans (h4.trans h9)), hW.trans (h4.trans h9)⟩
          | true =>
            have hE := Lib.hid (hE5.out (by trivial) hor.out hk hd)
            rw [hd] at C7
            replace C7 := Lib.hid C7
            clear hd hE4 hE5
            go_wp2_with fail
            refine Dm.wp_region_grow (by kernel_rfl) (by kernel_rfl) ?_
            repeat (go_big_quiet_step (first | (go_at_call 29; with_reducible exact Calls.quietE (C7.out _))))
            refine wpQuiet_nil ?_
            intro w9 h9
            replace h9 := h4.trans h9
            clear al a0 a1 a2 a3 c0 c1 c2 c3 c4 c5 c6 c7 c8 C7 b1
            have b1 := hbx.out w9 h9
            go_wp2_with fail
            refine (C5.out w9 h9).mono ?_; rintro e w10 ⟨vo, rfl, ho, h10⟩
            have h10' := h9.trans h10
            obtain ⟨al, a0, a1, a2, a3, _, _, _, _⟩ := (hbl.ext h10').four
            obtain ⟨hxl, hrow⟩ := ho
            rcases hrow with ⟨h0, h00⟩ | ⟨g, cap', cur, hg0, hBg, hg, hnc, hcm, hcsz, htk⟩
            · exact absurd h00 (by omega)
            · subst hg0
              have HCL : Hid (cur.toList.length = cap' * 9) := by show _ = _; rw [Array.length_toList, hcsz]
              have hg6 : w10.heap[g]? = some (.cells cur.toList.toArray 38 (0, 0)) := by rw [Array.toArray_toList]; exact hg
              have hfit : k * 9 + 1 + ([uAt lim 0, uAt lim 1, uAt lim 2, uAt lim 3] : List Value).length ≤ cur.toList.length := by rw [HCL.out]; show k * 9 + 1 + 4 ≤ _; omega
              have hone : ∀ u ∈ ([uAt lim 0, uAt lim 1, uAt lim 2, uAt lim 3] : List Value), u.oneCell' = true := fun u hu => by
                simp only [List.mem_cons, List.not_mem_nil, or_false] at hu
                rcases hu with rfl | rfl | rfl | rfl <;> rfl
              replace htk := Lib.hid htk
              replace hxl := Lib.hid hxl
              replace hcsz := Lib.hid hcsz
              replace hfit := Lib.hid hfit
              go_wp2_with (refine wpList_store_at rfl _ _ _ rfl (g := g) (off := k * 9 + 1) (cells := [uAt lim 0, uAt lim 1, uAt lim 2, uAt lim 3]) rfl rfl rfl (by kernel_rfl) hg6 hfit.out hone ?_; intro w7 hg7 hgr7)
              go_ret2
              have hfin := Ext.putQ (hW.trans h10') hgr7 (by have := (hW.trans h9).size; omega)
              refine ⟨_, by rw [hE.out]; rfl, ?_, hfin⟩
              rw [hE.out]
              refine Tree.of_row (B := w9.heap.size) (e := 38) (n := R.length) ⟨by rw [entCellsQ_len, List.length_set], Or.inr ⟨g, cap', _, rfl, hBg, hg7, hnc, hcm, ?_, ?_⟩⟩ (by rw [List.length_set])
              · rw [List.size_toArray, length_splice _ _ _ hfit.out]; exact HCL.out
              · show (splice cur.toList (k * 9 + 1) [uAt lim 0, uAt lim 1, uAt lim 2, uAt lim 3]).take (R.length * 9) = _
                rw [take_splice _ _ (by show k * 9 + 1 + 4 ≤ _; omega) (by rw [HCL.out]; omega), htk.out, entCellsQ_lim hk]
                rw [hrr.out]
        · have hk2 : k = R.length := by omega
          have hpi := hpl.out
          rw [if_neg hk] at hpi
          subst hpi
          clear hE1 hE2 hE4 hE5
          obtain ⟨al, a0, a1, a2, a3, _, _, _, _⟩ := (hbl.ext h4).four
          by_cases h16 : 16 ≤ R.length
          · have hE := Lib.hid (hE3.out (by trivial) hor.out hk2 h16)
            clear hE3 hE6
            go_wp2
            go_ret2
            exact ⟨_, by rw [hE.out]; rfl, by rw [hE.out]; exact hx.ext (hW.trans h4), hW.trans h4⟩
          · have hE := Lib.hid (hE6.out (by trivial) hor.out hk2 h16)
            clear hE3 hE6
            go_wp2_with fail
            refine Dm.wp_region_grow (by kernel_rfl) (by kernel_rfl) ?_
            repeat (go_big_quiet_step (fail))
            refine wpQuiet_nil ?_
            intro w9 h9
            replace h9 := h4.trans h9
            clear al a0 a1 a2 a3 b1
            have b1 := hbx.out w9 h9
            go_wp2_with fail
            refine (C5.out w9 h9).mono ?_; rintro e w10 ⟨vo, rfl, ho, h10⟩
            have h10' := h9.trans h10
            clear b1
            have b1 := hbx.out w10 h10'
            obtain ⟨ao, co, rfl⟩ : ∃ a c, vo = .slice a R.length c := by
              obtain ⟨a, c, e, _⟩ := (Sl.of_owns ho).shape
              exact ⟨a, c, e⟩
            go_wp2_with fail
            refine (C6.out w10 h10').mono ?_; rintro e w11 ⟨rfl, h11⟩
            have h11' := h10'.trans h11
            replace ho := Ext.row ho h11
            clear b1
            have b1 := hbx.out w11 h11'
            obtain ⟨al, a0, a1, a2, a3, _, _, _, _⟩ := (hbl.ext h11').four
            have hne : (Value.slice ao R.length co).ownBlock ≠ some w11.heap.size := fun h => by
              have := (World.ownsRow.lt ho _ h).2
              omega
            have hal : Ext w11 (w11.alloc (.cells #[.string p, .int .u64 (vG lim 0 : Nat), .int .u64 (vG lim 1 : Nat), .int .u64 (vG lim 2 : Nat), .int .u64 (vG lim 3 : Nat), .int .u64 0, .int .u64 0, .int .u64 0, .int .u64 0] 38)) := (Ext.refl _).alloc _
            have hu := hup.out
            have CI := qeinsert_w w9 (entCellsQ R) [.string p, .int .u64 (vG lim 0 : Nat), .int .u64 (vG lim 1 : Nat), .int .u64 (vG lim 2 : Nat), .int .u64 (vG lim 3 : Nat), .int .u64 0, .int .u64 0, .int .u64 0, .int .u64 0] (.slice ao R.length co) R.length un w11.heap.size _ hm hupl ((h10.trans h11).trans hal) (Ext.row ho hal) rfl (by simp [Value.oneCell']) (entCellsQ_one R) (heap_alloc_new w11 _) hne
            have hrow : Hid (∀ (w' : World) (r' : Value), w'.ownsRow w9.heap.size 38 9 r' (R.length + 1) ((entCellsQ R).take (un * 9) ++ ([.string p, .int .u64 (vG lim 0 : Nat), .int .u64 (vG lim 1 : Nat), .int .u64 (vG lim 2 : Nat), .int .u64 (vG lim 3 : Nat), .int .u64 0, .int .u64 0, .int .u64 0, .int .u64 0] ++ (entCellsQ R).drop (un * 9))) → Tree w' r' (R.take un ++ (p, lim, noV) :: R.drop un)) := fun w' r' h => by
              rw [entCellsQ_take R un hupl, entCellsQ_drop R un hupl] at h
              refine Tree.of_row (B := w9.heap.size) (e := 38) (n := R.length + 1) ?_ (by simp; omega)
              rw [entCellsQ_app]
              exact h
            replace CI := Lib.hid CI
            by_cases hul : un < R.length
            · rw [if_pos hul] at hu
              subst hu
              go_wp2_with fail
              refine CI.out.mono ?_; rintro e w12 ⟨r2, rfl, ho2, h12⟩
              go_wp2
              go_ret2
              exact ⟨_, by rw [hE.out]; rfl, by rw [hE.out]; exact hrow.out _ _ ho2, (hW.trans h9).trans h12⟩
            · rw [if_neg hul] at hu
              obtain rfl : un = R.length := by omega
              subst hu
              go_wp2_with fail
              refine CI.out.mono ?_; rintro e w12 ⟨r2, rfl, ho2, h12⟩
              go_wp2
              go_ret2
              exact ⟨_, by rw [hE.out]; rfl, by rw [hE.out]; exact hrow.out _ _ ho2, (hW.trans h9).trans h12⟩

end Go.Proofs.YtopnllbfhhjobaaGreatDoor
