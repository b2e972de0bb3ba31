/- Texts one behind the other: Chapter 2 in plain terms: a byte that may not stand in a name. No program in sight; Chapter 5 in plain terms: what is right, put, shown, parsed, the same. No program in sight; Chapter 5: the walks of Match and Right; Chapter 5 in plain terms: the terms of a text. No program in sight; Chapter 5: rows of terms that grow, their values apart from them. No program in sight. -/
import Derived.Test.YtbkemhheombfcaaDoorSelTellsP5
import Derived.Test.YtbkemhheombfcaaDoorSelTellsP6
import Derived.Maps.AppendAt
namespace Go.Dm
open Go Go.RowKit

/-- A byte that stands in no name. -/
def NoName (c : UInt8) : Prop := (letterB c.toNat || markB c.toNat) = false ∧ c.toNat < 128

theorem okL_step_no {c : UInt8} (hc : NoName c) {b : Bool} {l : Bs} (h : l ≠ []) (hr : (letterB (runeL l) || (!b && markB (runeL l))) = true) : c ∉ l.take (wideL l) := by
  have hlm : (letterB (runeL l) || markB (runeL l)) = true := by cases b <;> simp_all
  obtain ⟨hne, hlt⟩ := letterB_plain hlm
  obtain ⟨hc1, hc2⟩ := hc
  unfold wideL runeL decL at *
  obtain ⟨a, t, rfl, ha⟩ := head_bAt h
  split
  · rename_i h0
    rw [if_pos h0] at hlm
    simp only at hlm
    intro hm
    simp at hm
    subst hm
    rw [ha] at hlm
    rw [hlm] at hc1
    cases hc1
  · rename_i h0
    rw [if_neg h0] at hne hlt
    split
    · rename_i h1
      rw [if_pos h1] at hne hlt
      simp only [Bool.and_eq_true, beq_iff_eq] at h1
      split
      · rename_i h2
        rw [if_pos h2] at hne hlt
        have hcb := contB_lt h1.2
        cases t with
        | nil => simp at hcb
        | cons d t =>
          intro hm
          simp at hm
          have hcc : d.toNat / 64 = 2 := by
            have := h1.2
            simp only [contB, Bool.and_eq_true, beq_iff_eq] at this
            exact this.2
          rcases hm with rfl | rfl
          · rw [ha] at h0; exact h0 (by first | exact decide_eq_true hc2 | exact hc2)
          · omega
      · rename_i h2
        rw [if_neg h2] at hlt
        simp only at hlt; omega
    · rename_i h1
      rw [if_neg h1] at hlt
      split
      · rename_i h3
        rw [if_pos h3] at hlt
        split
        · rename_i h4
          rw [if_pos h4] at hlt
          simp only [Bool.and_eq_true, decide_eq_true_eq] at h4
          simp only at hlt; omega
        · rename_i h4
          rw [if_neg h4] at hlt
          simp only at hlt; omega
      · rename_i h3
        rw [if_neg h3] at hlt
        split
        · rename_i h5
          rw [if_pos h5] at hlt
          split
          · rename_i h6
            rw [if_pos h6] at hlt
            simp only [Bool.and_eq_true, decide_eq_true_eq] at h6
            simp only at hlt; omega
          · rename_i h6
            rw [if_neg h6] at hlt
            simp only at hlt; omega
        · rename_i h5
          rw [if_neg h5] at hlt
          simp only at hlt; omega

theorem okL_no {c : UInt8} (hc : NoName c) : ∀ (n : Nat) (b : Bool) (l : Bs), l.length ≤ n → okL b l = true → c ∉ l := by
  intro n
  induction n with
  | zero =>
    intro b l hl _
    have : l = [] := List.length_eq_zero_iff.1 (by omega)
    subst this
    simp
  | succ n ih =>
    intro b l hl hok
    by_cases h : l = []
    · subst h; simp
    · rw [okL_step b h, Bool.and_eq_true] at hok
      have h1 := okL_step_no hc h hok.1
      have hw := wideL_pos l
      have h2 := ih false (l.drop (wideL l)) (by rw [List.length_drop]; omega) hok.2
      rw [← List.take_append_drop (wideL l) l, List.mem_append]
      rintro (h' | h')
      · exact h1 h'
      · exact h2 h'

theorem right_no {c : UInt8} (hc : NoName c) {l : Bs} (h : rightL l = true) : c ∉ l := by
  unfold rightL at h
  simp only [Bool.and_eq_true] at h
  exact okL_no hc _ true l (Nat.le_refl _) h.1.1
theorem no_comma {l : Bs} (h : rightL l = true) : (44 : UInt8) ∉ l := right_no ⟨by decide, by decide⟩ h
theorem no_is {l : Bs} (h : rightL l = true) : (61 : UInt8) ∉ l := right_no ⟨by decide, by decide⟩ h
theorem no_not {l : Bs} (h : rightL l = true) : (33 : UInt8) ∉ l := right_no ⟨by decide, by decide⟩ h
theorem no_bar {l : Bs} (h : rightL l = true) : (124 : UInt8) ∉ l := right_no ⟨by decide, by decide⟩ h

/-- Right labels are of names. -/
theorem rightLab_names {L : List PairL} (h : rightLab L = true) : ∀ p ∈ L, rightL p.1 = true ∧ rightL p.2 = true := by
  intro p hp
  obtain ⟨k, hk, rfl⟩ := List.getElem_of_mem hp
  have := (rightLab_iff.1 h).2 k hk
  have he : plAt L k = L[k] := by simp [plAt, hk]
  unfold okLab at this
  rw [he, Bool.and_eq_true, Bool.and_eq_true] at this
  exact ⟨this.1, this.2.1⟩
theorem read_show {p : PairL} (h : (61 : UInt8) ∉ p.1) : readP (showP p) = p := by
  unfold readP showP
  rw [cutC_at h]
theorem textLab_one {L : List PairL} (hr : rightLab L = true) (h : L ≠ []) : textLab L = Lib.join (L.map showP) [44] := by
  unfold textLab
  rw [if_pos hr, if_neg h]
theorem textLab_nil : textLab [] = [45] := rfl
theorem parsed_text {L : List PairL} (hr : rightLab L = true) (h : L ≠ []) : parsedLab (textLab L) = L := by
  have hn := rightLab_names hr
  unfold parsedLab
  rw [textLab_one hr h, splitC_join (by simpa using h) (fun p hp => ?_), List.map_map]
  · conv => rhs; rw [← List.map_id L]
    refine List.map_congr_left fun p hp => ?_
    exact read_show (no_is (hn p hp).1)
  · obtain ⟨q, hq, rfl⟩ := List.mem_map.1 hp
    have := hn q hq
    unfold showP
    rw [List.mem_append, List.mem_cons]
    rintro (h1 | h1 | h1)
    · exact no_comma this.1 h1
    · exact absurd h1 (by decide)
    · exact no_comma this.2 h1
/-- What is shown is parsed. -/
theorem parse_text {L : List PairL} (hr : rightLab L = true) : parseLab (textLab L) = (L, true) := by
  by_cases h : L = []
  · subst h; rfl
  · have hne : textLab L ≠ [45] := by
      rw [textLab_one hr h]
      cases L with
      | nil => exact absurd rfl h
      | cons p L =>
        intro e
        have hm : (61 : UInt8) ∈ Lib.join ((p :: L).map showP) [44] := by
          rw [List.map_cons, Lib.join_cons]
          simp [showP]
        rw [e] at hm
        simp at hm
    have hp := parsed_text hr h
    rw [parseLab_good hne (by rw [hp]; exact hr), hp]
theorem text_inj {L M : List PairL} (hL : rightLab L = true) (hM : rightLab M = true) (h : textLab L = textLab M) : L = M := by
  have h1 := parse_text hL
  rw [h, parse_text hM] at h1
  exact ((Prod.mk.inj h1).1).symm

theorem join_len {c : UInt8} {n : Nat} : ∀ {xs : List Bs}, (∀ x ∈ xs, x.length ≤ n) → (Lib.join xs [c]).length ≤ (n + 1) * xs.length
  | [], _ => by simp [Lib.join]
  | [p], h => by
    have := h p (by simp)
    rw [Lib.join_one]; simp only [List.length_cons, List.length_nil]; omega
  | p :: q :: ns, h => by
    have : Lib.join (p :: q :: ns) [c] = p ++ c :: Lib.join (q :: ns) [c] := by simp [Lib.join_cons, Lib.joinTail]
    have h1 := h p (by simp)
    have ih := join_len (c := c) (xs := q :: ns) (fun x hx => h x (List.mem_cons_of_mem _ hx))
    rw [this, List.length_append, List.length_cons, List.length_cons, Nat.mul_add]; omega
theorem textLab_short {L : List PairL} (hr : rightLab L = true) : (textLab L).length ≤ 1000 := by
  by_cases h : L = []
  · subst h; decide
  · have h8 := (rightLab_iff.1 hr).1
    rw [textLab_one hr h]
    have := join_len (c := 44) (n := 65) (xs := L.map showP) (fun x hx => by
      obtain ⟨p, hp, rfl⟩ := List.mem_map.1 hx
      have h2 := rightLab_names hr p hp
      have h3 := right_len h2.1
      have h4 := right_len h2.2
      simp only [showP, List.length_append, List.length_cons]; omega)
    rw [List.length_map] at this
    omega

/-- A pair that shows as a piece that is no pair's is not right: the piece's bytes are those of the pair. -/
theorem show_read {x : Bs} (h : rightL (readP x).2 = true) : showP (readP x) = x := by
  unfold showP readP at *
  rcases cut_atC 61 x with h1 | ⟨p, r, h1, rfl⟩
  · rw [cutC_none h1] at h
    rw [right_nil] at h; cases h
  · rw [cutC_at h1]
/-- What is parsed shows as it was. -/
theorem text_parse {t : Bs} {L : List PairL} (h : parseLab t = (L, true)) : rightLab L = true ∧ textLab L = t := by
  by_cases h45 : t = [45]
  · subst h45
    obtain rfl := (Prod.mk.inj h).1
    exact ⟨rfl, rfl⟩
  · cases hr : rightLab (parsedLab t) with
    | false => rw [parseLab_bad h45 hr] at h; cases (Prod.mk.inj h).2
    | true =>
      rw [parseLab_good h45 hr] at h
      obtain rfl := (Prod.mk.inj h).1
      refine ⟨hr, ?_⟩
      have hn := rightLab_names hr
      have hne : parsedLab t ≠ [] := by unfold parsedLab; simpa using splitC_ne 44 t
      rw [textLab_one hr hne]
      unfold parsedLab at *
      rw [List.map_map]
      have e : (splitC 44 t).map (showP ∘ readP) = splitC 44 t := by
        conv => rhs; rw [← List.map_id (splitC 44 t)]
        refine List.map_congr_left fun x hx => ?_
        exact show_read (hn _ (List.mem_map_of_mem hx)).2
      rw [e, join_splitC]
theorem parse_no {t : Bs} {L : List PairL} (h : parseLab t = (L, false)) : L = [] := by
  by_cases h45 : t = [45]
  · subst h45; cases h
  · cases hr : rightLab (parsedLab t) with
    | false => rw [parseLab_bad h45 hr] at h; exact ((Prod.mk.inj h).1).symm
    | true => rw [parseLab_good h45 hr] at h; cases h
end Go.Dm

namespace Go.Dm
open Go Go.RowKit

def bS (s : ByteArray) : Bs := s.data.toList
/-- May the value at a place stand there? -/
def okVal (vs : List ByteArray) (k : Nat) : Bool := rightL (bS (strAt vs k)) && (k == 0 || !leB (bS (strAt vs k)) (bS (strAt vs (k - 1))))
/-- P5.1: may a term be? -/
def rightT (t : TermS) : Bool := (List.range t.2.2.length).all (okVal t.2.2) && (rightL (bS t.1) && decide (t.2.2.length ≤ 4))
/-- P5.1: may a selector be? -/
def rightS (T : List TermS) : Bool := decide (T.length ≤ 4) && T.all rightT

theorem rightT_bad {t : TermS} {k : Nat} (hk : k < t.2.2.length) (h : okVal t.2.2 k = false) : rightT t = false := by
  unfold rightT
  rw [Bool.and_eq_false_iff]
  left
  rw [List.all_eq_false]
  exact ⟨k, List.mem_range.2 hk, by rw [h]; simp⟩
theorem rightT_all {t : TermS} (h : ∀ k, k < t.2.2.length → okVal t.2.2 k = true) : rightT t = (rightL (bS t.1) && decide (t.2.2.length ≤ 4)) := by
  unfold rightT
  rw [List.all_eq_true.2 (fun k hk => h k (List.mem_range.1 hk)), Bool.true_and]
theorem rightT_iff {t : TermS} : rightT t = true ↔ (∀ k, k < t.2.2.length → okVal t.2.2 k = true) ∧ rightL (bS t.1) = true ∧ t.2.2.length ≤ 4 := by
  unfold rightT
  rw [Bool.and_eq_true, Bool.and_eq_true, decide_eq_true_eq, List.all_eq_true]
  exact ⟨fun h => ⟨fun k hk => h.1 k (List.mem_range.2 hk), h.2⟩, fun h => ⟨fun k hk => h.1 k (List.mem_range.1 hk), h.2⟩⟩
theorem rightS_iff {T : List TermS} : rightS T = true ↔ T.length ≤ 4 ∧ ∀ t ∈ T, rightT t = true := by
  unfold rightS
  rw [Bool.and_eq_true, decide_eq_true_eq, List.all_eq_true]
theorem rightT_val {t : TermS} (h : rightT t = true) : ∀ x ∈ t.2.2, rightL (bS x) = true := by
  intro x hx
  obtain ⟨k, hk, rfl⟩ := List.getElem_of_mem hx
  have := (rightT_iff.1 h).1 k hk
  unfold okVal at this
  rw [Bool.and_eq_true] at this
  have e : strAt t.2.2 k = t.2.2[k] := by simp [strAt, hk]
  rw [e] at this
  exact this.1
theorem rightT_sizes {t : TermS} (h : rightT t = true) : t.1.size ≤ 32 ∧ t.2.2.length ≤ 4 ∧ ∀ x ∈ t.2.2, x.size ≤ 32 := by
  refine ⟨right_len (rightT_iff.1 h).2.1, (rightT_iff.1 h).2.2, fun x hx => right_len (rightT_val h x hx)⟩

/-- P5.3: a term, a selector as bytes. -/
def numT (t : TermS) : Nat := 2 * t.2.2.length + (if t.2.1 then 1 else 0)
def putVals (vs : List ByteArray) : Bs := vs.flatMap fun x => putT (bS x)
def putTm (t : TermS) : Bs := (putT (bS t.1) ++ putL (numT t)) ++ putVals t.2.2
def putTms (T : List TermS) : Bs := T.flatMap putTm
def putS (T : List TermS) : Bs := if rightS T then putL T.length ++ putTms T else []
/-- P5.4: a term, a selector as it is read. -/
def joinB (vs : List ByteArray) (c : UInt8) : Bs := Lib.join (vs.map (·.data.toList)) [c]
def textTm (t : TermS) : Bs := if t.2.2.isEmpty then (if t.2.1 then 33 :: bS t.1 else bS t.1) else if t.2.1 then bS t.1 ++ 33 :: 61 :: joinB t.2.2 124 else bS t.1 ++ 61 :: joinB t.2.2 124
def textS (T : List TermS) : Bs := if rightS T then (if T.isEmpty then [45] else Lib.join (T.map textTm) [44]) else [63]

theorem putVals_step {vs : List ByteArray} {k : Nat} (hk : k < vs.length) : putVals (vs.take (k + 1)) = putVals (vs.take k) ++ putT (bS (strAt vs k)) := by
  rw [List.take_succ_eq_append_getElem hk, putVals, List.flatMap_append]
  simp [putVals, strAt, hk]
theorem rowT_take {R : List RowS} {k : Nat} (hk : k < R.length) : (R.take (k + 1)).map rowT = (R.take k).map rowT ++ [rowT (sAtR R k)] := by
  rw [take_snocT hk, List.map_append]; rfl
theorem putTms_step {T : List TermS} {t : TermS} : putTms (T ++ [t]) = putTms T ++ putTm t := by simp [putTms]
end Go.Dm

namespace Go.Dm
open Go Go.RowKit
theorem match_hit {R : List RowS} {p : List PairS} {k : Nat} (hk : k < R.length) (h : holdsS p (rowT (sAtR R k)) = false) : matchS (R.map rowT) p = false := by
  unfold matchS
  rw [List.all_eq_false]
  exact ⟨_, List.mem_map_of_mem (sAtR_mem hk), by rw [h]; simp⟩
theorem match_miss {R : List RowS} {p : List PairS} (h : ∀ k, k < R.length → holdsS p (rowT (sAtR R k)) = true) : matchS (R.map rowT) p = true := by
  unfold matchS
  rw [List.all_eq_true]
  intro t ht
  obtain ⟨r, hr, rfl⟩ := List.mem_map.1 ht
  obtain ⟨k, hk, rfl⟩ := List.getElem_of_mem hr
  have := h k hk
  have e : sAtR R k = R[k] := by simp [sAtR, hk]
  rwa [e] at this
theorem allR_hit {R : List RowS} {k : Nat} (hk : k < R.length) (h : rightT (rowT (sAtR R k)) = false) : (R.map rowT).all rightT = false := by
  rw [List.all_eq_false]
  exact ⟨_, List.mem_map_of_mem (sAtR_mem hk), by rw [h]; simp⟩
theorem allR_miss {R : List RowS} (h : ∀ k, k < R.length → rightT (rowT (sAtR R k)) = true) : (R.map rowT).all rightT = true := by
  rw [List.all_eq_true]
  intro t ht
  obtain ⟨r, hr, rfl⟩ := List.mem_map.1 ht
  obtain ⟨k, hk, rfl⟩ := List.getElem_of_mem hr
  have := h k hk
  have e : sAtR R k = R[k] := by simp [sAtR, hk]
  rwa [e] at this
def FitR (R : List RowS) : Prop := ∀ r ∈ R, FitT (rowT r)
end Go.Dm
namespace Go.Proofs.YtbkemhheombfcaaDoor
open Go.RowKit Go.Dm

set_option maxHeartbeats 400000 in
theorem match1_w (r : RowS) (p : List PairS) (vp : Value) (c o : Nat) (w : World) (hf : FitT (rowT r)) (hx : Strs w r.2.2.1 r.2.2.2) (hpm : p.length ≤ 35184372088832) (hp : Pairs w vp p) (hcl : c < w.heap.size) (hc : w.cell? ⟨c, o, none⟩ = some vp) :
    Calls Tryd.prog 70 #[.agg #[.string r.1, .bool r.2.1, r.2.2.1], .pointer (some ⟨c, o, none⟩)] w fun e w' => e = .returned (.bool (!holdsS p (rowT r))) ∧ Ext w w' := by
  obtain ⟨key, no, v, vals⟩ := r
  have hW : Ext w (w.alloc (.cells #[.string key, .bool no, v] 57)) := (Ext.refl _).alloc _
  have C := tholds_w key no vals v p vp _ hf.2.1 (hx.ext hW) hpm (hp.ext hW)
  show Calls Tryd.prog 70 #[.agg #[.string key, .bool no, v], .pointer (some ⟨c, o, none⟩)] w fun e w' => e = .returned (.bool (!holdsS p (key, no, vals))) ∧ Ext w w'
  generalize holdsS p (key, no, vals) = d at C
  go_enter Tryd.func70, Tryd.ntmps70
  go_wp2_with fail
  refine C.mono ?_; rintro e w1 ⟨rfl, h1⟩
  go_wp2
  go_ret
  exact ⟨rfl, hW.trans h1⟩

set_option maxHeartbeats 1000000 in
theorem indexM_w (R : List RowS) (p : List PairS) (v vp : Value) (c o : Nat) (w : World) (hm : R.length ≤ 35184372088832) (hf : FitR R) (hx : Terms w v R) (hpm : p.length ≤ 35184372088832) (hp : Pairs w vp p) (hcl : c < w.heap.size) (hc : w.cell? ⟨c, o, none⟩ = some vp) :
    Calls Tryd.prog 99 #[v, .func (.func 70) #[] #[.pointer (some ⟨c, o, none⟩)]] w
      fun e w' => ∃ i : Int, e = .returned (.int .i64 i) ∧ decide (0 ≤ i) = !matchS (R.map rowT) p ∧ Ext w w' := by
  obtain ⟨q, cap, rfl, _, _⟩ := hx.shape
  have hhit := fun k (hk : k < R.length) h => match_hit (p := p) hk h
  have hmiss := match_miss (R := R) (p := p)
  generalize matchS (R.map rowT) p = d at *
  replace hhit := Lib.hid hhit
  replace hmiss := Lib.hid hmiss
  go_enter Tryd.func99, Tryd.ntmps99
  go_wp2
  go_loopw [4, 8] (fun z i wr => ∃ k : Nat, k ≤ R.length ∧ i = .int .i64 k ∧ z = .int .i64 0 ∧ Ext w wr ∧ Hid (∀ j, j < k → holdsS p (rowT (sAtR R j)) = true)) (fun _ i _ => R.length - (intOf i).toNat)
  case atStart => exact ⟨0, by omega, rfl, rfl, Ext.refl w, fun j hj => by omega⟩
  case round =>
    obtain ⟨k, hk, rfl, rfl, hb, HN⟩ := hrel
    by_cases hlt : k < R.length
    · obtain ⟨b, off, rfl, hbl, c0, c1, c2⟩ := (hx.ext hb).at hlt
      have hcl' : c < wr.heap.size := Nat.lt_of_lt_of_le hcl hb.size
      have hc' : wr.cell? ⟨c, o, none⟩ = some vp := by rw [hb.cell (by exact hcl)]; exact hc
      have C := match1_w (sAtR R k) p vp c o wr (hf _ (sAtR_mem hlt)) ((hx.ext hb).val hlt) hpm (hp.ext hb) hcl' hc'
      have hH := hhit.out k hlt
      have hN2 : holdsS p (rowT (sAtR R k)) = true → Hid (∀ j, j < k + 1 → holdsS p (rowT (sAtR R j)) = true) := fun h j hj => by
        rcases Nat.lt_succ_iff_lt_or_eq.1 hj with h' | rfl
        · exact HN.out j h'
        · exact h
      generalize holdsS p (rowT (sAtR R k)) = t at C hH hN2
      generalize sAtR R k = r at *
      cases t with
      | false =>
        have hd := hH rfl
        subst hd
        clear hH hN2
        go_wp2_with fail
        refine C.mono ?_; rintro e w1 ⟨rfl, h1⟩
        go_wp2
        go_ret
        exact ⟨_, rfl, by first | omega | simp, hb.trans h1⟩
      | true =>
        replace hN2 := hN2 rfl
        clear hH
        go_wp2_with fail
        refine C.mono ?_; rintro e w1 ⟨rfl, h1⟩
        go_wp2
        go_roundw
        case rel => exact ⟨k + 1, by omega, by go_num, rfl, hb.trans h1, hN2⟩
        case measure => simp [intOf]; omega
    · obtain rfl : k = R.length := by omega
      have hd := hmiss.out HN.out
      subst hd
      go_wp2
      go_ret
      exact ⟨-1, rfl, by first | omega | simp, hb⟩

set_option maxHeartbeats 400000 in
theorem containsM_w (R : List RowS) (p : List PairS) (v vp : Value) (c o : Nat) (w : World) (hm : R.length ≤ 35184372088832) (hf : FitR R) (hx : Terms w v R) (hpm : p.length ≤ 35184372088832) (hp : Pairs w vp p) (hcl : c < w.heap.size) (hc : w.cell? ⟨c, o, none⟩ = some vp) :
    Calls Tryd.prog 69 #[v, .func (.func 70) #[] #[.pointer (some ⟨c, o, none⟩)]] w
      fun e w' => e = .returned (.bool (!matchS (R.map rowT) p)) ∧ Ext w w' := by
  go_enter Tryd.func69, Tryd.ntmps69
  go_wp2_with fail
  refine (indexM_w R p v vp c o w hm hf hx hpm hp hcl hc).mono ?_; rintro e w1 ⟨i, rfl, hi, h1⟩
  go_wp2
  go_ret
  exact ⟨by rw [← hi]; rfl, h1⟩

set_option maxHeartbeats 400000 in
theorem match_w (R : List RowS) (p : List PairS) (v vp : Value) (w : World) (hm : R.length ≤ 35184372088832) (hf : FitR R) (hx : Terms w v R) (hpm : p.length ≤ 35184372088832) (hp : Pairs w vp p) :
    Calls Tryd.prog 34 #[v, vp] w fun e w' => e = .returned (.bool (matchS (R.map rowT) p)) ∧ Ext w w' := by
  obtain ⟨qp, capp, rfl, _, _⟩ := hp.shape
  have hW : Ext w (w.alloc (.cells #[.slice qp p.length capp] 24)) := (Ext.refl _).alloc _
  have C := containsM_w R p v _ w.heap.size 0 _ hm hf (hx.ext hW) hpm (hp.ext hW) (by simp) (by simp)
  have hmf : ∀ (fn : Fn) (first cap : Array Value) (w : World), (Instr.makeFunc fn first cap).run Tryd.prog w = .ok (.func fn first cap) w := fun _ _ _ _ => rfl
  generalize matchS (R.map rowT) p = d at C
  go_enter Tryd.func34, Tryd.ntmps34
  go_wp2_with fail
  refine C.mono ?_; rintro e w1 ⟨rfl, h1⟩
  go_wp2
  go_ret
  exact ⟨by simp, hW.trans h1⟩

end Go.Proofs.YtbkemhheombfcaaDoor

namespace Go.Dm
open Go Go.RowKit

/-- P5.4: a term of a text. -/
def termL (x : Bs) : Bs × Bool × List Bs :=
  if x.head? = some 33 then (x.drop 1, true, [])
  else if (cutC 61 x).2.2 = false then (x, false, [])
  else if (cutC 61 x).1.getLast? = some 33 then ((cutC 61 x).1.dropLast, true, splitC 124 (cutC 61 x).2.1)
  else ((cutC 61 x).1, false, splitC 124 (cutC 61 x).2.1)
def mkT (t : Bs × Bool × List Bs) : TermS := (⟨t.1.toArray⟩, t.2.1, t.2.2.map fun x => ⟨x.toArray⟩)
/-- P5.4: the terms of a text, a selector of a text. -/
def termsL (t : Bs) : List TermS := (splitC 44 t).map fun x => mkT (termL x)
def parseS (t : Bs) : List TermS × Bool := if t = [45] then ([], true) else if rightS (termsL t) = true ∧ textS (termsL t) = t then (termsL t, true) else ([], false)

theorem parseS_none : parseS [45] = ([], true) := rfl
theorem parseS_bad {t : Bs} (h : t ≠ [45]) (hr : rightS (termsL t) = false) : parseS t = ([], false) := by
  unfold parseS; rw [if_neg h, hr, if_neg (by simp)]
theorem parseS_other {t : Bs} (h : t ≠ [45]) (hr : textS (termsL t) ≠ t) : parseS t = ([], false) := by
  unfold parseS; rw [if_neg h, if_neg (fun h' => hr h'.2)]
theorem parseS_good {t : Bs} (h : t ≠ [45]) (hr : rightS (termsL t) = true) (ht : textS (termsL t) = t) : parseS t = (termsL t, true) := by
  unfold parseS; rw [if_neg h, if_pos ⟨hr, ht⟩]

def pre33 (x : ByteArray) : Bool := x.data.toList.head? == some 33
def suf33 (x : ByteArray) : Bool := x.data.toList.getLast? == some 33
theorem pre33_short {x : ByteArray} (h : x.size = 0) : pre33 x = false := by
  rw [size_len] at h
  unfold pre33
  rw [List.length_eq_zero_iff.1 h]; rfl
theorem suf33_short {x : ByteArray} (h : x.size = 0) : suf33 x = false := by
  rw [size_len] at h
  unfold suf33
  rw [List.length_eq_zero_iff.1 h]; rfl
theorem pre33_at {x : ByteArray} (h : 1 ≤ x.size) : ((x.extract 0 1).toList == [33]) = pre33 x := by
  rw [size_len] at h
  rw [ByteArray.toList_eq, Lib.extract_data]
  unfold pre33
  cases hx : x.data.toList with
  | nil => rw [hx] at h; simp at h
  | cons a l => simp
theorem suf33_at {x : ByteArray} (h : 1 ≤ x.size) : ((x.extract (x.size - 1) x.size).toList == [33]) = suf33 x := by
  rw [ByteArray.toList_eq, Lib.extract_data]
  rw [size_len] at *
  unfold suf33
  obtain ⟨l, a, e⟩ : ∃ l a, x.data.toList = l ++ [a] := ⟨_, _, (List.dropLast_concat_getLast (l := x.data.toList) (fun e => by rw [e] at h; simp at h)).symm⟩
  rw [e]
  simp
theorem mk_drop {x : ByteArray} : x.extract 1 x.size = ⟨(x.data.toList.drop 1).toArray⟩ := by
  refine mk_bytes ?_
  rw [Lib.extract_to_end]
theorem mk_dropLast {x : ByteArray} : x.extract 0 (x.size - 1) = ⟨x.data.toList.dropLast.toArray⟩ := by
  refine mk_bytes ?_
  rw [Lib.extract_data, size_len, List.dropLast_eq_take]
  rfl
theorem termL_pre {x : ByteArray} (h : pre33 x = true) : mkT (termL x.data.toList) = (⟨(x.data.toList.drop 1).toArray⟩, true, []) := by
  unfold termL
  rw [if_pos (by simpa [pre33] using h)]; rfl
theorem termL_bare {x : ByteArray} (h : pre33 x = false) (hc : (cutC 61 x.data.toList).2.2 = false) : mkT (termL x.data.toList) = (x, false, []) := by
  unfold termL
  rw [if_neg (by simpa [pre33] using h), if_pos hc]
  show ((⟨x.data.toList.toArray⟩ : ByteArray), false, ([] : List ByteArray)) = _
  rw [Array.toArray_toList]
theorem termL_vals {x k : ByteArray} {vs : List ByteArray} (h : pre33 x = false) (hc : (cutC 61 x.data.toList).2.2 = true) (hk : k.data.toList = (cutC 61 x.data.toList).1) (hv : bytesOf vs = splitC 124 (cutC 61 x.data.toList).2.1) :
    mkT (termL x.data.toList) = (if suf33 k then ⟨k.data.toList.dropLast.toArray⟩ else k, suf33 k, vs) := by
  have hvs : (splitC 124 (cutC 61 x.data.toList).2.1).map (fun x => (⟨x.toArray⟩ : ByteArray)) = vs := by
    rw [← hv, bytesOf, List.map_map]
    conv => rhs; rw [← List.map_id vs]
    exact List.map_congr_left fun y _ => by show (⟨y.data.toList.toArray⟩ : ByteArray) = y; rw [Array.toArray_toList]
  unfold termL
  rw [if_neg (by simpa [pre33] using h), if_neg (by rw [hc]; simp), ← hk]
  cases hs : suf33 k with
  | true =>
    rw [if_pos (by simpa [suf33] using hs), if_pos rfl]
    simp only [mkT, hvs]
  | false =>
    rw [if_neg (by simpa [suf33] using hs), if_neg (by simp)]
    simp only [mkT, hvs]
theorem bytesOf_size {vs : List ByteArray} {c : UInt8} {x : ByteArray} (h : bytesOf vs = splitC c x.data.toList) : ∀ v ∈ vs, v.size ≤ x.size := by
  intro v hv
  rw [size_len, size_len]
  refine mem_splitC_len (c := c) ?_
  rw [← h]
  exact List.mem_map_of_mem hv
end Go.Dm

namespace Go.Dm
open Go Go.RowKit

/-- No block in common. -/
def Apart (u v : Value) : Prop := ∀ b, u.ownBlock = some b → v.ownBlock ≠ some b

theorem Sl.grown {w w' : World} {row : Option Nat} {sz n : Nat} {v : Value} {cs : List Value} (h : Sl w sz v n cs) (hg : w.grownBy w' row) (ha : n = 0 ∨ ∀ b, v.ownBlock = some b → row ≠ some b) : Sl w' sz v n cs := by
  obtain ⟨hl, p, cap, hv, hn, hm, hz, h⟩ := h
  refine ⟨hl, p, cap, hv, hn, hm, hz, ?_⟩
  rcases h with h | ⟨b, off, hp, hlt, h⟩
  · exact Or.inl h
  rcases ha with ha | ha
  · exact Or.inl ha
  subst hv hp
  have hne := ha b rfl
  exact Or.inr ⟨b, off, rfl, Nat.lt_of_lt_of_le hlt hg.size, fun j u hj => hg.cell (h j u hj) (fun e => hne e.symm)⟩
theorem Sl.own_lt {w : World} {sz n b : Nat} {v : Value} {cs : List Value} (h : Sl w sz v n cs) (h0 : n ≠ 0) (hb : v.ownBlock = some b) : b < w.heap.size := by
  obtain ⟨_, p, cap, hv, _, _, _, h⟩ := h
  rcases h with h | ⟨b', off, hp, hlt, _⟩
  · exact absurd h h0
  · subst hv hp
    simp only [Value.ownBlock, Option.some.injEq] at hb
    omega

/-- A row of terms of the call's own. -/
structure TRow (e : TypeId) (B : Nat) (w : World) (v : Value) (n : Nat) (R : List RowS) : Prop where
  row : w.ownsRow B e 3 v n (rowCells R)
  vals : ∀ r ∈ R, Strs w r.2.2.1 r.2.2.2 ∧ (r.2.2.2 = [] ∨ Apart r.2.2.1 v)
theorem TRow.nil (e : TypeId) (B : Nat) (w : World) : TRow e B w (.slice none 0 0) 0 [] := ⟨World.ownsRow_nil _ _ _ _, fun r hr => by cases hr⟩
theorem TRow.ext {e B : Nat} {w w' : World} {v : Value} {n : Nat} {R : List RowS} (h : TRow e B w v n R) (hx : Ext w w') : TRow e B w' v n R :=
  ⟨Ext.row h.row hx, fun r hr => ⟨(h.vals r hr).1.ext hx, (h.vals r hr).2⟩⟩
theorem TRow.terms {e B : Nat} {w : World} {v : Value} {n : Nat} {R : List RowS} (h : TRow e B w v n R) (hn : n = R.length) : Terms w v R := Terms.of_row h.row hn (fun r hr => (h.vals r hr).1)
theorem TRow.lt {e B : Nat} {w : World} {v : Value} {n : Nat} {R : List RowS} (h : TRow e B w v n R) {b : Nat} (hb : v.ownBlock = some b) : B ≤ b ∧ b < w.heap.size := World.ownsRow.lt h.row b hb
/-- What was made since is apart. -/
theorem TRow.apart_new {e B : Nat} {w : World} {v u : Value} {n : Nat} {R : List RowS} (h : TRow e B w v n R) (hu : ∀ b, u.ownBlock = some b → w.heap.size ≤ b) : Apart u v := fun b hb hv => by
  have := (h.lt hv).2
  have := hu b hb
  omega
/-- What was there before is apart. -/
theorem TRow.apart_old {e B : Nat} {w : World} {v u : Value} {n : Nat} {R : List RowS} (h : TRow e B w v n R) (hu : ∀ b, u.ownBlock = some b → b < B) : Apart u v := fun b hb hv => by
  have := (h.lt hv).1
  have := hu b hb
  omega

/-- Other blocks than the row's, and than its values', were written. -/
theorem TRow.grown {e B : Nat} {w w' : World} {v : Value} {n : Nat} {R : List RowS} {q : Option Nat} (h : TRow e B w v n R) (hv : ∀ r ∈ R, ∀ c, r.2.2.1.ownBlock = some c → B ≤ c) (hg : w.grownBy w' q) (hq : ∀ c, q = some c → c < B) : TRow e B w' v n R := by
  refine ⟨?_, fun r hr => ⟨Sl.grown (h.vals r hr).1 hg (Or.inr fun b hb hqb => ?_), (h.vals r hr).2⟩⟩
  · obtain ⟨hl, h⟩ := h.row
    refine ⟨hl, ?_⟩
    rcases h with h | ⟨g, cap, cur, hv, hb, hgg, r⟩
    · exact Or.inl h
    · exact Or.inr ⟨g, cap, cur, hv, hb, by rw [hg.block g (Array.getElem?_eq_some_iff.1 hgg).1 (fun e => by have := hq g e.symm; omega)]; exact hgg, r⟩
  · have := hv r hr b hb
    have := hq b hqb
    omega
/-- `append` of one term to a row of the call's own. -/
theorem wpList_appG {P : Program} {w : World} {B : Nat} {ops : Array Oper} {rest : List Oper} {o : Oper} {a : Act} {Q : Exit → Act → World → Prop} (hgd : o.guard = none) (s x : Operand) {t e : TypeId} {bytes : Nat} (T : SlT P t e 3 bytes)
    (ho : o.op = .call { callee := .builtin .append, args := #[s, x], argTypes := #[t, t] }) (hw : B ≤ w.heap.size)
    {v : Value} {n : Nat} {R : List RowS} (hs : a.eval s = v) (hT : TRow e B w v n R)
    {u : Value} {r : RowS} (hu : a.eval x = u) (hx : Sl w 3 u 1 (rowOne r)) (hv : Strs w r.2.2.1 r.2.2.2) (hap : r.2.2.2 = [] ∨ Apart r.2.2.1 v)
    (hbytes : (n + 1) * bytes ≤ 140737488355328)
    (h : ∀ v' w', TRow e B w' v' (n + 1) (R ++ [r]) → w.grownBy w' v.ownBlock → wpList P ops Q rest (a.put o.dst v') w') : wpList P ops Q (o :: rest) a w := by
  obtain ⟨i, z, hi, hz, h2, h3, h4⟩ := T.info
  obtain ⟨hl, p, cap, rfl, hnc, hm, hpn, hc⟩ := hx
  obtain ⟨b, off, rfl, hlt, hc⟩ := hc.resolve_left (by omega)
  have hcells : ∀ j u, (rowOne r)[j]? = some u → w.cell? ((⟨b, off, none⟩ : Addr).add j) = some u := by
    intro j u hj
    have := hc j u hj
    unfold Addr.add
    split
    · rename_i h0; subst h0; simpa using this
    · exact this
  have h1 : ∀ u ∈ rowOne r, u.oneCell' = true := by
    intro u hu
    simp only [rowOne, List.mem_cons, List.not_mem_nil, or_false] at hu
    rcases hu with rfl | rfl | rfl
    · rfl
    · rfl
    · exact hv.one
  have hml : n + 1 ≤ maxLen := by
    have := Nat.le_trans (Nat.le_mul_of_pos_right (n + 1) T.bpos) hbytes
    simp only [maxLen]
    omega
  obtain ⟨v', w', hr, ho2, hg, _, hor⟩ := run_append_own_at (P := P) w B t o.type e i z 3 bytes T.ht hi hz h2 h3 h4 T.pos v n (rowCells R) hT.row ⟨b, off, none⟩ 1 cap (rowOne r) hl hcells h1 hml hbytes hw
  have hkeep : ∀ q : RowS, Strs w q.2.2.1 q.2.2.2 → (q.2.2.2 = [] ∨ Apart q.2.2.1 v) → Strs w' q.2.2.1 q.2.2.2 ∧ (q.2.2.2 = [] ∨ Apart q.2.2.1 v') := by
    intro q hq ha
    refine ⟨Sl.grown hq hg ?_, ?_⟩
    · rcases ha with ha | ha
      · left; rw [ha]; rfl
      · right; exact ha
    · rcases ha with ha | ha
      · exact Or.inl ha
      · by_cases h0 : q.2.2.2 = []
        · exact Or.inl h0
        · refine Or.inr fun b hb => ?_
          rcases hor with hor | hor
          · rw [hor]; exact ha b hb
          · rw [hor]
            have := Sl.own_lt hq (fun e => h0 (List.length_eq_zero_iff.1 e)) hb
            intro e
            injection e with e
            omega
  have hT' : TRow e B w' v' (n + 1) (R ++ [r]) := by
    refine ⟨?_, fun q hq => ?_⟩
    · rw [rowCells_app]
      have : rowCells [r] = rowOne r := by simp [rowCells]
      rw [this]
      exact ho2
    · rcases List.mem_append.1 hq with hq | hq
      · exact hkeep q (hT.vals q hq).1 (hT.vals q hq).2
      · rw [List.mem_singleton.1 hq]; exact hkeep r hv hap
  have hfin := h v' w' hT' hg
  refine wpList_plain hgd fun K hK => ?_
  unfold Oper.wp execOp
  simp only [ho, resolve, invoke, builtin, Sem.run_bind, Sem.run_pure, Result.andThen_ok, List.map_toArray, List.map_cons, List.map_nil, hs, hu, hr]
  exact hK _ _ hfin

theorem wpList_appT {P : Program} {w w0 : World} {ops : Array Oper} {rest : List Oper} {o : Oper} {a : Act} {Q : Exit → Act → World → Prop} (hgd : o.guard = none) (s x : Operand) {t e : TypeId} {bytes : Nat} (T : SlT P t e 3 bytes)
    (ho : o.op = .call { callee := .builtin .append, args := #[s, x], argTypes := #[t, t] }) (hw : Ext w0 w)
    {v : Value} {n : Nat} {R : List RowS} (hs : a.eval s = v) (hT : TRow e w0.heap.size w v n R)
    {u : Value} {r : RowS} (hu : a.eval x = u) (hx : Sl w 3 u 1 (rowOne r)) (hv : Strs w r.2.2.1 r.2.2.2) (hap : r.2.2.2 = [] ∨ Apart r.2.2.1 v)
    (hbytes : (n + 1) * bytes ≤ 140737488355328)
    (h : ∀ v' w', TRow e w0.heap.size w' v' (n + 1) (R ++ [r]) → Ext w0 w' → (v.ownBlock = none → Ext w w') → wpList P ops Q rest (a.put o.dst v') w') : wpList P ops Q (o :: rest) a w :=
  wpList_appG hgd s x T ho hw.size hs hT hu hx hv hap hbytes fun v' w' h1 hg => h v' w' h1 (hw.app hT.row hg (Nat.le_refl _)) (fun h0 => (Below.refl _ _).grown hg (Nat.le_refl _) (fun k hk => by rw [h0] at hk; cases hk))
end Go.Dm
