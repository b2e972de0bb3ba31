/- Texts one behind the other: Chapter 4: the walk of the laws' made labels; Chapter 4: the walk of the laws' examples; LabelRight, walked: labels are right just if they are at most eight, keys and values are names, and the keys rise; else they are put as nothing; Chapter 5: the walk of Right; Chapter 5: the walks of the document's has, Match, Right. -/
import Derived.Test.YtibimbcjnjefdaaT8
import Derived.Test.YtibimbcjnjefdaaT2
import Derived.Test.YtibimbcjnjefdaaT9
import Derived.Test.YtibimbcjnjefdaaT20
namespace Go.Dm
open Go Go.RowKit

/-- What keys and values are made of. -/
def keysB : List ByteArray := [⟨#[97]⟩, ⟨#[97, 98]⟩, ⟨#[98]⟩, ⟨#[99, 45, 49]⟩, ⟨#[100, 105, 115, 107]⟩, ⟨#[122, 111, 110, 101]⟩, ⟨#[206, 177, 206, 178]⟩, ⟨#[208, 180, 208, 190, 208, 188]⟩]
def madeOne (z : Int) (k : Nat) : List PairS := if 0 < z % 3 then [(strAt keysB k, strAt keysB ((z / 3) % 8).toNat)] else []
/-- Labels by bytes. -/
def madeTo (zs : List Int) : Nat → List PairS
  | 0 => []
  | k + 1 => madeTo zs k ++ madeOne (numAt zs k) k
def madeP (zs : List Int) : List PairS := madeTo zs (min zs.length 8)

theorem madeTo_len (zs : List Int) : ∀ k, (madeTo zs k).length ≤ k
  | 0 => by simp [madeTo]
  | k + 1 => by
    have := madeTo_len zs k
    unfold madeTo madeOne
    split <;> simp <;> omega
theorem madeP_len (zs : List Int) : (madeP zs).length ≤ 8 := by
  have := madeTo_len zs (min zs.length 8)
  unfold madeP; omega
end Go.Dm
namespace Go.Proofs.Ytibimbcjnjefdaa
open Go.RowKit Go.Dm

end Go.Proofs.Ytibimbcjnjefdaa

namespace Go.Dm
open Go Go.RowKit
theorem pL_inj {p q : PairS} (h : pL p = pL q) : p = q := by
  obtain ⟨⟨a⟩, ⟨b⟩⟩ := p
  obtain ⟨⟨c⟩, ⟨d⟩⟩ := q
  simp only [pL, Prod.mk.injEq] at h
  rw [Array.toList_inj.1 h.1, Array.toList_inj.1 h.2]
theorem labL_inj : ∀ {a b : List PairS}, labL a = labL b → a = b
  | [], [], _ => rfl
  | p :: a, q :: b, h => by
    simp only [labL, List.map_cons, List.cons.injEq] at h
    rw [pL_inj h.1, labL_inj (a := a) (b := b) h.2]
theorem Pairs.drop {w : World} {xs : List PairS} {p cap} (h : Pairs w (.slice p xs.length cap) xs) {k : Nat} (hk : k ≤ xs.length) : Pairs w (dropV p xs.length cap k 2) (xs.drop k) := by
  have := Sl.drop h hk
  have e : (pairCells xs).drop (k * 2) = pairCells (xs.drop k) := by
    clear this h
    induction k generalizing xs with
    | zero => simp
    | succ k ih =>
      cases xs with
      | nil => simp at hk
      | cons x xs =>
        have := ih (xs := xs) (by simpa using hk)
        rw [List.drop_succ_cons, ← this]
        rw [show (k + 1) * 2 = k * 2 + 1 + 1 by omega]
        rfl
  rw [e] at this
  show Sl w 2 _ (xs.drop k).length _
  rw [List.length_drop]
  exact this
end Go.Dm
namespace Go.Proofs.Ytibimbcjnjefdaa
open Go.RowKit Go.Dm

theorem fit_small {l : List PairS} (h : ∀ p ∈ l, p.1.size ≤ 1000 ∧ p.2.size ≤ 1000) : FitP l := fun p hp => by have := h p hp; omega

end Go.Proofs.Ytibimbcjnjefdaa

namespace Go.Dm
open Go Go.RowKit

/-- So far all may stand where they stand. -/
def fitsTo (L : List PairL) (k : Nat) : Bool := decide (L.length ≤ 8) && (List.range k).all (okLab L)
theorem fitsTo_zero (L : List PairL) : fitsTo L 0 = decide (L.length ≤ 8) := by simp [fitsTo]
theorem fitsTo_step (L : List PairL) (k : Nat) : fitsTo L (k + 1) = (fitsTo L k && okLab L k) := by
  simp [fitsTo, List.range_succ, Bool.and_assoc]
theorem fitsTo_all (L : List PairL) : fitsTo L L.length = rightLab L := rfl

theorem putLab_ne {L : List PairL} (h : rightLab L = true) : putLab L ≠ [] := by
  unfold putLab
  rw [h, if_pos rfl]
  intro e
  have := putL_pos L.length
  rw [(List.append_eq_nil_iff.1 e).1] at this
  simp at this

theorem textLab_ne {L : List PairL} (h : rightLab L = true) : textLab L ≠ [63] := by
  unfold textLab
  rw [h, if_pos rfl]
  split
  · simp
  · rename_i hne
    cases L with
    | nil => exact absurd rfl hne
    | cons p L =>
      intro e
      have hm : (61 : UInt8) ∈ Lib.join ((p :: L).map showP) [44] := by
        rw [List.map_cons, Lib.join_cons]
        simp [showP]
      rw [e] at hm
      simp at hm
end Go.Dm
namespace Go.Proofs.Ytibimbcjnjefdaa
open Go.RowKit Go.Dm

end Go.Proofs.Ytibimbcjnjefdaa

namespace Go.Proofs.Ytibimbcjnjefdaa
open Go.RowKit Go.Dm

end Go.Proofs.Ytibimbcjnjefdaa

namespace Go.Dm
open Go Go.RowKit
theorem Terms.cells {w : World} {R : List RowS} {b off cap : Nat} (h : Terms w (.slice (some ⟨b, off, none⟩) R.length cap) R) {k : Nat} (hk : k < R.length) :
    b < w.heap.size ∧ w.cell? ⟨b, off + k * 3, none⟩ = some (.string (sAtR R k).1) ∧ w.cell? ⟨b, off + k * 3 + 1, none⟩ = some (.bool (sAtR R k).2.1) ∧ w.cell? ⟨b, off + k * 3 + 2, none⟩ = some (sAtR R k).2.2.1 := by
  obtain ⟨b', off', e, hb, c0, c1, c2⟩ := h.at hk
  injection e with e; injection e with e1 e2
  subst e1 e2
  exact ⟨hb, c0, c1, c2⟩
end Go.Dm
namespace Go.Proofs.Ytibimbcjnjefdaa
open Go.RowKit Go.Dm

set_option maxHeartbeats 400000 in
theorem has_w (xs : List ByteArray) (s : ByteArray) (v : Value) (w : World) (hl : xs.length ≤ 35184372088832) (hx : Strs w v xs) :
    Calls Try.prog 41 #[v, .string s] w fun e w' => e = .returned (.bool (inB xs s)) ∧ Ext w w' := by
  obtain ⟨q, cap, rfl, _, _⟩ := hx.shape
  have hhit := fun k (hk : k < xs.length) h => inB_hit (x := s) hk h
  have hmiss := inB_miss (vals := xs) (x := s)
  generalize inB xs s = d at *
  replace hhit := Lib.hid hhit
  replace hmiss := Lib.hid hmiss
  go_enter Try.func41, Try.ntmps41
  go_wp2
  go_loopw [5] (fun i wr => ∃ k : Nat, k ≤ xs.length ∧ i = .int .i64 k ∧ Ext w wr ∧ Hid (∀ j, j < k → (s.toList == (strAt xs j).toList) = false)) (fun i _ => xs.length - (intOf i).toNat)
  case atStart => exact ⟨0, by omega, rfl, Ext.refl w, fun j hj => by omega⟩
  case round =>
    obtain ⟨k, hk, rfl, hb, HN⟩ := hrel
    by_cases hlt : k < xs.length
    · obtain ⟨b, off, rfl, hbl, c0⟩ := (hx.ext hb).at hlt
      have hcm : (s.toList == (strAt xs k).toList) = ((strAt xs k).toList == s.toList) := Bool.beq_comm
      have hH := hhit.out k hlt
      have hN2 : (s.toList == (strAt xs k).toList) = false → Hid (∀ j, j < k + 1 → (s.toList == (strAt xs j).toList) = false) := fun h j hj => by
        rcases Nat.lt_succ_iff_lt_or_eq.1 hj with h' | rfl
        · exact HN.out j h'
        · exact h
      rw [hcm] at hH hN2
      clear hcm
      cases hq : ((strAt xs k).toList == s.toList) with
      | true =>
        have hd := hH hq
        subst hd
        clear hH hN2
        go_wp2
        go_ret
        exact ⟨rfl, hb⟩
      | false =>
        replace hN2 := hN2 hq
        clear hH
        go_wp2
        go_roundw
        case rel => exact ⟨k + 1, by omega, by go_num, hb, hN2⟩
        case measure => simp [intOf]; omega
    · obtain rfl : k = xs.length := by omega
      have hd := hmiss.out HN.out
      subst hd
      go_wp2
      go_ret
      exact ⟨rfl, hb⟩

set_option maxHeartbeats 2000000 in
set_option maxRecDepth 100000 in
theorem smmatch_w (R : List RowS) (p : List PairS) (v vp : Value) (w : World) (hm : R.length ≤ 35184372088832) (hf : FitR R) (hx : Terms w v R) (hpm : p.length ≤ 35184372088832) (hp : Pairs w vp p) :
    Calls Try.prog 27 #[v, vp] w fun e w' => e = .returned (.bool (matchS (R.map rowT) p)) ∧ Ext w w' := by
  obtain ⟨qp, capp, rfl, _, _⟩ := hp.shape
  obtain ⟨q, cap, rfl, _, _⟩ := hx.shape
  have hhit := fun k (hk : k < R.length) h => match_hit (p := p) hk h
  have hmiss := match_miss (R := R) (p := p)
  have CF := fun key U (hU : Ext w U) => mfind_w p key _ U hpm (hp.ext hU)
  generalize matchS (R.map rowT) p = d at *
  replace hhit := Lib.hid hhit
  replace hmiss := Lib.hid hmiss
  replace CF := Lib.hid CF
  go_enter Try.func27, Try.ntmps27
  go_wp2
  go_loopw [5] (fun i wr => ∃ k : Nat, k ≤ R.length ∧ i = .int .i64 k ∧ Ext w wr ∧ Hid (∀ j, j < k → holdsS p (rowT (sAtR R j)) = true)) (fun i _ => R.length - (intOf i).toNat)
  case atStart => exact ⟨0, by omega, rfl, Ext.refl w, fun j hj => by omega⟩
  case round =>
    obtain ⟨k, hk, rfl, hb, HN⟩ := hrel
    by_cases hlt : k < R.length
    · obtain ⟨b, off, rfl, hbl, c0, c1, c2⟩ := (hx.ext hb).at hlt
      have vx := (hx.ext hb).val hlt
      have hfk := hf _ (sAtR_mem hlt)
      have hH := hhit.out k hlt
      have hN2 : holdsS p (rowT (sAtR R k)) = true → Hid (∀ j, j < k + 1 → holdsS p (rowT (sAtR R j)) = true) := fun h j hj => by
        rcases Nat.lt_succ_iff_lt_or_eq.1 hj with h' | rfl
        · exact HN.out j h'
        · exact h
      have hde : holdsS p (rowT (sAtR R k)) = (((findB p (sAtR R k).1).2 && ((sAtR R k).2.2.2.isEmpty || inB (sAtR R k).2.2.2 (findB p (sAtR R k).1).1)) != (sAtR R k).2.1) := rfl
      rw [hde] at hH hN2
      clear hde
      generalize hsr : sAtR R k = r at *
      obtain ⟨k1, n1, v1, vals1⟩ := r
      have vx : Strs wr v1 vals1 := vx
      have hfl : vals1.length ≤ 35184372088832 := hfk.2.1
      simp only at c0 c1 c2 hH hN2
      obtain ⟨q3, cap3, rfl, _, _⟩ := vx.shape
      have C := CF.out k1 wr hb
      generalize (findB p k1).1 = fv at *
      generalize (findB p k1).2 = fo at *
      have cells : ∀ w', Ext wr w' → b < w'.heap.size ∧ w'.cell? ⟨b, off + k * 3, none⟩ = some (.string k1) ∧ w'.cell? ⟨b, off + k * 3 + 1, none⟩ = some (.bool n1) ∧ w'.cell? ⟨b, off + k * 3 + 2, none⟩ = some (.slice q3 vals1.length cap3) := fun w' h => by
        have := (hx.ext (hb.trans h)).cells hlt
        rw [hsr] at this
        exact this
      have CH := fun w' (h : Ext wr w') => has_w vals1 fv _ w' hfl (vx.ext h)
      generalize inB vals1 fv = g at *
      replace cells := Lib.hid cells
      replace CH := Lib.hid CH
      replace hsr := Lib.hid hsr
      replace hH := Lib.hid hH
      replace hN2 := Lib.hid hN2
      go_wp2_with fail
      refine C.mono ?_; rintro e w1 ⟨rfl, h1⟩
      obtain ⟨hbl1, y0, y1, y2⟩ := cells.out w1 h1
      clear c0 c1 c2 C hbl
      cases hve : vals1.isEmpty with
      | true =>
        obtain rfl := List.isEmpty_iff.1 hve
        have hH := hH.out
        have hN2 := hN2.out
        simp only [List.isEmpty_nil, Bool.true_or, Bool.and_true] at hH hN2
        clear CH hve
        cases fo
        all_goals
          cases n1
          all_goals
            first
            | (have hd := hH rfl
               subst hd
               clear hH hN2
               go_wp2
               go_ret
               exact ⟨rfl, hb.trans h1⟩)
            | (replace hN2 := hN2 rfl
               clear hH
               go_wp2
               go_roundw
               case rel => exact ⟨k + 1, by omega, by go_num, hb.trans h1, hN2⟩
               case measure => simp [intOf]; omega)
      | false =>
        have hH := hH.out
        have hN2 := hN2.out
        rw [hve] at hH hN2
        have hpos : (0 : Int) < (vals1.length : Int) := by
          have : vals1.length ≠ 0 := fun e => by rw [List.length_eq_zero_iff.1 e] at hve; cases hve
          omega
        clear hve
        cases fo with
        | false =>
          simp only [Bool.false_and] at hH hN2
          cases n1
          all_goals
            first
            | (have hd := hH rfl
               subst hd
               clear hH hN2
               go_wp2
               go_ret
               exact ⟨rfl, hb.trans h1⟩)
            | (replace hN2 := hN2 rfl
               clear hH
               go_wp2
               go_roundw
               case rel => exact ⟨k + 1, by omega, by go_num, hb.trans h1, hN2⟩
               case measure => simp [intOf]; omega)
        | true =>
          simp only [Bool.true_and, Bool.false_or] at hH hN2
          go_wp2_with fail
          refine (CH.out w1 h1).mono ?_; rintro e w2 ⟨rfl, h2⟩
          obtain ⟨hbl2, z0, z1, z2⟩ := cells.out w2 (h1.trans h2)
          clear y0 y1 y2 hbl1
          cases g
          all_goals
            cases n1
            all_goals
              first
              | (have hd := hH rfl
                 subst hd
                 clear hH hN2
                 go_wp2
                 go_ret
                 exact ⟨rfl, hb.trans (h1.trans h2)⟩)
              | (replace hN2 := hN2 rfl
                 clear hH
                 go_wp2
                 go_roundw
                 case rel => exact ⟨k + 1, by omega, by go_num, hb.trans (h1.trans h2), hN2⟩
                 case measure => simp [intOf]; omega)
    · obtain rfl : k = R.length := by omega
      have hd := hmiss.out HN.out
      subst hd
      go_wp2
      go_ret
      exact ⟨rfl, hb⟩

end Go.Proofs.Ytibimbcjnjefdaa
