/- Texts one behind the other: The type of slices of strings; Chapter 4: the walks of the program's Find, Put, Text; Chapter 4: the walks of the program's Put and Text; Chapter 4: the walk of the program's Parse; Chapter 5 in plain terms: terms, selectors. No program in sight; Chapter 13 in plain terms: slots, what fits them. No program in sight; Chapter 13: slots as they lie in a slice. No program in sight; Chapter 5: the walks of a term's rule, of holds, and of Match; Chapter 5: the walks of a term's holds, and of Match; Chapter 2 in plain terms: a byte that may not stand in a name. No program in sight; Chapter 5 in plain terms: what is right, put, shown, parsed, the same. No program in sight. -/
import Derived.Test.YtibimbcjnjefdaaT16
import Derived.Test.YtibimbcjnjefdaaProg
import Derived.Test.YtibimbcjnjefdaaT5
import Derived.Test.YtibimbcjnjefdaaT18
import Derived.Laws.StructEq
namespace Go.Proofs.Ytibimbcjnjefdaa
open Go.RowKit Go.Dm

theorem Try.slStr : SlT Try.prog 28 9 1 16 := SlT.mk' Try.underlying28 (by kernel_rfl) (by decide) (by decide)

end Go.Proofs.Ytibimbcjnjefdaa

namespace Go.Dm
open Go Go.RowKit

def keyIs (key : ByteArray) (p : PairS) : Bool := p.1.toList == key.toList
/-- P4.1: the value of a key. -/
def findB (l : List PairS) (key : ByteArray) : ByteArray × Bool := match firstP (keyIs key) l with | some k => ((pairAt l k).2, true) | none => (⟨#[]⟩, false)

/-- P4.2: labels as bytes. -/
def putP (L : List PairL) : Bs := L.flatMap fun p => putT p.1 ++ putT p.2
def putLab (L : List PairL) : Bs := if rightLab L then putL L.length ++ putP L else []
/-- P4.2: labels as they are read. -/
def showP (p : PairL) : Bs := p.1 ++ 61 :: p.2
def textLab (L : List PairL) : Bs := if rightLab L then (if L = [] then [45] else Lib.join (L.map showP) [44]) else [63]

theorem putP_step {L : List PairL} {k : Nat} (hk : k < L.length) : putP (L.take (k + 1)) = putP (L.take k) ++ (putT (plAt L k).1 ++ putT (plAt L k).2) := by
  rw [List.take_succ_eq_append_getElem hk, putP, List.flatMap_append]
  simp [putP, plAt, hk]

theorem labL_app (a b : List PairS) : labL (a ++ b) = labL a ++ labL b := by simp [labL]
end Go.Dm
namespace Go.Proofs.Ytibimbcjnjefdaa
open Go.RowKit Go.Dm

theorem Try.slPair : SlT Try.prog 45 57 2 32 := SlT.mk' Try.underlying45 (by kernel_rfl) (by decide) (by decide)

set_option maxHeartbeats 400000 in
theorem find1_w (key a b : ByteArray) (c o : Nat) (w : World) (hcl : c < w.heap.size) (hc : w.cell? ⟨c, o, none⟩ = some (.string key)) :
    Calls Try.prog 49 #[.agg #[.string a, .string b], .pointer (some ⟨c, o, none⟩)] w fun e w' => e = .returned (.bool (keyIs key (a, b))) ∧ Ext w w' := by
  go_enter Try.func49, Try.ntmps49
  go_wp2
  go_ret
  exact ⟨rfl, (Below.refl _ _).alloc (Nat.le_refl _) _⟩

set_option maxHeartbeats 400000 in
theorem indexKey_w (l : List PairS) (key : ByteArray) (q : Option Addr) (cap : Nat) (c o : Nat) (w : World) (hm : l.length ≤ 35184372088832)
    (hx : Pairs w (.slice q l.length cap) l) (hcl : c < w.heap.size) (hc : w.cell? ⟨c, o, none⟩ = some (.string key)) :
    Calls Try.prog 48 #[.slice q l.length cap, .func (.func 49) #[] #[.pointer (some ⟨c, o, none⟩)]] w
      fun e w' => e = .returned (.int .i64 (placeI (firstP (keyIs key) l))) ∧ Ext w w' := by
  go_enter Try.func48, Try.ntmps48
  go_wp2
  go_loopw [4, 8] (fun z i wr => ∃ k : Nat, k ≤ l.length ∧ i = .int .i64 k ∧ z = .int .i64 0 ∧ Ext w wr ∧ Hid (∀ j, j < k → keyIs key (pairAt l j) = false)) (fun _ i _ => l.length - (intOf i).toNat)
  case atStart => exact ⟨0, by omega, rfl, rfl, Ext.refl w, fun j hj => by omega⟩
  case round =>
    obtain ⟨k, hk, rfl, rfl, hb, HN⟩ := hrel
    by_cases hlt : k < l.length
    · obtain ⟨b, off, rfl, hbl, c0, c1⟩ := (hx.ext hb).at hlt
      have hcl' : c < wr.heap.size := Nat.lt_of_lt_of_le hcl hb.size
      have hc' : wr.cell? ⟨c, o, none⟩ = some (.string key) := by rw [hb.cell (by exact hcl)]; exact hc
      go_wp2_with fail
      refine (find1_w key _ _ _ _ _ hcl' hc').mono ?_; rintro e w' ⟨rfl, hb1⟩
      cases ht : keyIs key (pairAt l k) with
      | true =>
        go_wp2
        go_ret
        refine ⟨?_, hb.trans hb1⟩
        rw [firstP_hit noPair hlt HN.out ht]
        rfl
      | false =>
        go_wp2
        go_roundw
        case rel => exact ⟨k + 1, by omega, by go_num, rfl, hb.trans hb1, fun j hj => by
          rcases Nat.lt_succ_iff_lt_or_eq.1 hj with h | rfl
          · exact HN.out j h
          · exact ht⟩
        case measure => simp [intOf]; omega
    · go_wp2
      go_ret
      obtain rfl : k = l.length := by omega
      refine ⟨?_, hb⟩
      rw [firstP_miss noPair HN.out]
      rfl

set_option maxHeartbeats 400000 in
theorem find_w (l : List PairS) (key : ByteArray) (v : Value) (w : World) (hm : l.length ≤ 35184372088832) (hx : Pairs w v l) :
    Calls Try.prog 43 #[v, .string key] w fun e w' => e = .returned (.tuple #[.string (findB l key).1, .bool (findB l key).2]) ∧ Ext w w' := by
  obtain ⟨q, cap, rfl, _, _⟩ := hx.shape
  have fin : Ext w (w.alloc (.cells #[.string key] 9)) := (Below.refl _ _).alloc (Nat.le_refl _) _
  have hx' := hx.ext fin
  have C := indexKey_w l key q cap w.heap.size 0 _ hm hx' (by simp) (by simp)
  go_enter Try.func43, Try.ntmps43
  cases hf : firstP (keyIs key) l with
  | none =>
    have hz : Hid (findB l key = (⟨#[]⟩, false)) := by show _ = _; unfold findB; rw [hf]
    rw [hf] at C
    have h0 : placeI none < 0 := by decide
    clear hf
    go_wp2_with fail
    refine C.mono ?_; rintro e w1 ⟨rfl, h1⟩
    show _
    go_wp2
    go_ret2
    exact ⟨by rw [hz.out]; rfl, fin.trans h1⟩
  | some k =>
    obtain ⟨hk, _, _⟩ := firstP_some noPair hf
    have hz : Hid (findB l key = ((pairAt l k).2, true)) := by show _ = _; unfold findB; rw [hf]
    rw [hf] at C
    have C : Calls Try.prog 48 #[.slice q l.length cap, .func (.func 49) #[] #[.pointer (some ⟨w.heap.size, 0, none⟩)]] (w.alloc (.cells #[.string key] 9)) fun e w' => e = .returned (.int .i64 (k : Int)) ∧ Ext (w.alloc (.cells #[.string key] 9)) w' := C
    clear hf
    go_wp2_with fail
    refine C.mono ?_; rintro e w1 ⟨rfl, h1⟩
    obtain ⟨b, off, rfl, hbl, c0, c1⟩ := (hx'.ext h1).at hk
    go_wp2
    go_ret2
    exact ⟨by rw [hz.out]; rfl, fin.trans h1⟩

end Go.Proofs.Ytibimbcjnjefdaa

namespace Go.Dm
open Go Go.RowKit
theorem putT_len (t : Bs) (h : t.length ≤ 140737488351232) : (putT t).length ≤ 140737488351242 := by
  have := putL_ten (u := t.length) (show t.length < _ by omega)
  unfold putT
  rw [List.length_append]; omega
def textB (t : ByteArray) : ByteArray := ⟨(putT t.data.toList).toArray⟩
theorem textB_size (t : ByteArray) (h : t.size ≤ 140737488351232) : (textB t).size ≤ 140737488351242 := by
  rw [size_len]
  exact putT_len _ (by rw [← size_len]; exact h)

/-- A label as it is read. -/
def showB (p : PairS) : ByteArray := (p.1 ++ ⟨#[61]⟩) ++ p.2
theorem showB_bytes (p : PairS) : (showB p).data.toList = showP (pL p) := by
  unfold showB
  rw [data_append, data_append, List.append_assoc]; rfl
theorem showB_all (l : List PairS) : (l.map showB).map (·.data.toList) = (labL l).map showP := by
  rw [List.map_map, labL, List.map_map]
  exact List.map_congr_left fun p _ => showB_bytes p
theorem take_snocP {l : List PairS} {k : Nat} (hk : k < l.length) : l.take (k + 1) = l.take k ++ [pairAt l k] := by
  rw [List.take_succ_eq_append_getElem hk]
  simp [hk, pairAt]

/-- A name has at most 32 bytes. -/
theorem okL_len : ∀ (n : Nat) (b : Bool) (l : Bs), l.length ≤ n → okL b l = true → l.length ≤ 2 * countL l := by
  intro n
  induction n with
  | zero => intro b l hl _; omega
  | succ n ih =>
    intro b l hl hok
    by_cases h : l = []
    · subst h; simp
    · rw [okL_step b h, Bool.and_eq_true] at hok
      have hw := wideL_pos l
      have h2 := ih false (l.drop (wideL l)) (by rw [List.length_drop]; omega) hok.2
      rw [List.length_drop] at h2
      have hle := wideL_le h
      have hw2 : wideL l ≤ 2 := by
        have hlm := (letterB_plain (r := runeL l) (by have := hok.1; cases b <;> simp_all)).2
        unfold wideL runeL decL at *
        repeat' split
        all_goals first
          | (simp only; omega)
          | skip
        all_goals simp_all
        all_goals omega
      rw [countL_step h]; omega
theorem right_len {l : Bs} (h : rightL l = true) : l.length ≤ 32 := by
  unfold rightL at h
  simp only [Bool.and_eq_true, decide_eq_true_eq] at h
  have := okL_len l.length true l (Nat.le_refl _) h.1.1
  omega
end Go.Dm
namespace Go.Proofs.Ytibimbcjnjefdaa
open Go.RowKit Go.Dm

end Go.Proofs.Ytibimbcjnjefdaa

namespace Go.Dm
open Go Go.RowKit

/-- A label of a text. -/
def readP (x : Bs) : PairL := ((cutC 61 x).1, (cutC 61 x).2.1)
/-- P4.2: the labels of a text. -/
def parsedLab (t : Bs) : List PairL := (splitC 44 t).map readP
def parseLab (t : Bs) : List PairL × Bool := if t = [45] then ([], true) else if rightLab (parsedLab t) = true then (parsedLab t, true) else ([], false)

theorem parseLab_none : parseLab [45] = ([], true) := rfl
theorem parseLab_bad {t : Bs} (h : t ≠ [45]) (hr : rightLab (parsedLab t) = false) : parseLab t = ([], false) := by
  unfold parseLab; rw [if_neg h, hr]; rfl
theorem parseLab_good {t : Bs} (h : t ≠ [45]) (hr : rightLab (parsedLab t) = true) : parseLab t = (parsedLab t, true) := by
  unfold parseLab; rw [if_neg h, hr]; rfl

def cutB (x : ByteArray) : PairS := (⟨(cutC 61 x.data.toList).1.toArray⟩, ⟨(cutC 61 x.data.toList).2.1.toArray⟩)
theorem cutB_bytes (x : ByteArray) : pL (cutB x) = readP x.data.toList := by simp [pL, cutB, readP]
theorem cutB_all (ss : List ByteArray) : labL (ss.map cutB) = (bytesOf ss).map readP := by
  simp only [labL, bytesOf, List.map_map]
  exact List.map_congr_left fun x _ => cutB_bytes x

theorem pairs_right_ne {l : List PairS} (h : rightLab (labL l) = true) : ∀ k, k < l.length → (pairAt l k).1 ≠ ⟨#[]⟩ := by
  intro k hk e
  have := (rightLab_iff.1 h).2 k (by rw [labL_len]; exact hk)
  unfold okLab at this
  simp only [Bool.and_eq_true] at this
  rw [labL_at l hk] at this
  have h1 := this.1
  rw [show (pL (pairAt l k)).1 = [] by unfold pL; rw [e], right_nil] at h1
  cases h1
end Go.Dm
namespace Go.Proofs.Ytibimbcjnjefdaa
open Go.RowKit Go.Dm

theorem Try.eq_pair (a b c d : ByteArray) (w : World) : (Op.equalIn 10000 57 (.agg #[.string a, .string b]) (.agg #[.string c, .string d])).run Try.prog w = .ok (a.toList == c.toList && b.toList == d.toList) w := by
  rw [show (10000 : Nat) = 9999 + 1 from rfl, run_equalIn_agg w 9999 57 _ _ (by kernel_rfl) (by kernel_rfl)]
  simp only [Program.fieldsOf, Try.underlying57]
  cases h1 : (a.toList == c.toList) <;> cases h2 : (b.toList == d.toList) <;>
  simp [Op.eqFields, go_sem, h1, h2]

end Go.Proofs.Ytibimbcjnjefdaa

namespace Go.Dm
open Go Go.RowKit

/-- A term: its key, whether it is turned, its values. -/
abbrev TermS := ByteArray × Bool × List ByteArray
/-- A term as it lies in a slice: its values are a slice of their own. -/
abbrev RowS := ByteArray × Bool × Value × List ByteArray
def rowT (r : RowS) : TermS := (r.1, r.2.1, r.2.2.2)
def noRow : RowS := (⟨#[]⟩, false, .slice none 0 0, [])
def sAtR (R : List RowS) (k : Nat) : RowS := R.getD k noRow
def rowOne (r : RowS) : List Value := [.string r.1, .bool r.2.1, r.2.2.1]
def rowCells (R : List RowS) : List Value := R.flatMap rowOne
theorem rowCells_len (R : List RowS) : (rowCells R).length = R.length * 3 := by
  induction R with
  | nil => rfl
  | cons x xs ih => simp only [rowCells, rowOne, List.flatMap_cons, List.length_append, List.length_cons, List.length_nil] at *; omega
theorem rowCells_app (a b : List RowS) : rowCells (a ++ b) = rowCells a ++ rowCells b := by simp [rowCells]
theorem rowCells_at : ∀ (xs : List RowS) (k : Nat), k < xs.length → (rowCells xs)[k*3]? = some (.string (sAtR xs k).1) ∧ (rowCells xs)[k*3+1]? = some (.bool (sAtR xs k).2.1) ∧ (rowCells xs)[k*3+2]? = some (sAtR xs k).2.2.1
  | x :: xs, 0, _ => by simp [rowCells, rowOne, sAtR]
  | x :: xs, k+1, h => by
    have := rowCells_at xs k (by simpa using h)
    have e : (k+1)*3 = k*3+1+1+1 := by omega
    have e2 : (k+1)*3+1 = k*3+1+1+1+1 := by omega
    have e3 : (k+1)*3+2 = k*3+2+1+1+1 := by omega
    rw [e2, e3, e]
    simp only [rowCells, rowOne, sAtR, List.flatMap_cons, List.cons_append, List.nil_append, List.getElem?_cons_succ, List.getD_cons_succ]
    exact this
theorem sAtR_mem {l : List RowS} {k : Nat} (h : k < l.length) : sAtR l k ∈ l := by
  simp only [sAtR, List.getD_eq_getElem?_getD, List.getElem?_eq_getElem h, Option.getD_some]
  exact List.getElem_mem h
theorem take_snocT {l : List RowS} {k : Nat} (hk : k < l.length) : l.take (k + 1) = l.take k ++ [sAtR l k] := by
  rw [List.take_succ_eq_append_getElem hk]
  simp [hk, sAtR]

/-- A slice value reads as these terms. -/
structure Terms (w : World) (v : Value) (R : List RowS) : Prop where
  sl : Sl w 3 v R.length (rowCells R)
  vals : ∀ r ∈ R, Strs w r.2.2.1 r.2.2.2
theorem Terms.ext {w w' : World} {v R} (h : Terms w v R) (hb : Ext w w') : Terms w' v R := ⟨h.sl.ext hb, fun r hr => (h.vals r hr).ext hb⟩
theorem Terms.nil (w : World) : Terms w (.slice none 0 0) [] := ⟨Sl.nil w 3, fun r hr => by cases hr⟩
theorem Terms.shape {w : World} {v R} (h : Terms w v R) : ∃ p cap, v = .slice p R.length cap ∧ R.length ≤ cap ∧ cap ≤ maxLen := by
  obtain ⟨p, cap, h1, h2, h3, _⟩ := Sl.shape h.sl
  exact ⟨p, cap, h1, h2, h3⟩
theorem Terms.at {w : World} {xs : List RowS} {p cap} (h : Terms w (.slice p xs.length cap) xs) {k : Nat} (hk : k < xs.length) :
    ∃ b off, p = some ⟨b, off, none⟩ ∧ b < w.heap.size ∧ w.cell? ⟨b, off + k*3, none⟩ = some (.string (sAtR xs k).1) ∧ w.cell? ⟨b, off + k*3 + 1, none⟩ = some (.bool (sAtR xs k).2.1) ∧ w.cell? ⟨b, off + k*3 + 2, none⟩ = some (sAtR xs k).2.2.1 := by
  obtain ⟨b, off, hp, hb, h⟩ := Sl.at h.sl (by omega)
  have := rowCells_at xs k hk
  exact ⟨b, off, hp, hb, h _ _ this.1, by have := h _ _ this.2.1; rw [show off + (k*3+1) = off + k*3+1 by omega] at this; exact this, by have := h _ _ this.2.2; rw [show off + (k*3+2) = off + k*3+2 by omega] at this; exact this⟩
theorem Terms.val {w : World} {xs : List RowS} {v} (h : Terms w v xs) {k : Nat} (hk : k < xs.length) : Strs w (sAtR xs k).2.2.1 (sAtR xs k).2.2.2 := h.vals _ (sAtR_mem hk)
theorem Terms.of_row {w : World} {B e : Nat} {v : Value} {n : Nat} {l : List RowS} (h : w.ownsRow B e 3 v n (rowCells l)) (hn : n = l.length) (hv : ∀ r ∈ l, Strs w r.2.2.1 r.2.2.2) : Terms w v l := by
  subst hn
  exact ⟨Sl.of_owns h, hv⟩
theorem Strs.one {w : World} {v : Value} {ss} (h : Strs w v ss) : v.oneCell' = true := by
  obtain ⟨p, cap, rfl, _⟩ := h.shape
  rfl

/-- A term's texts are of a size that a run can hold. -/
def FitT (t : TermS) : Prop := t.1.size ≤ 140737488351232 ∧ t.2.2.length ≤ 35184372088832 ∧ ∀ x ∈ t.2.2, x.size ≤ 140737488351232

/-- P5.2: does a term hold of labels? -/
def inB (vals : List ByteArray) (x : ByteArray) : Bool := vals.any fun y => x.toList == y.toList
def holdsS (p : List PairS) (t : TermS) : Bool := ((findB p t.1).2 && (t.2.2.isEmpty || inB t.2.2 (findB p t.1).1)) != t.2.1
/-- P5.2: does a selector match labels? -/
def matchS (T : List TermS) (p : List PairS) : Bool := T.all (holdsS p)

theorem inB_hit {vals : List ByteArray} {x : ByteArray} {k : Nat} (hk : k < vals.length) (h : (x.toList == (strAt vals k).toList) = true) : inB vals x = true :=
  List.any_eq_true.2 ⟨_, strAt_mem hk, h⟩
theorem inB_miss {vals : List ByteArray} {x : ByteArray} (h : ∀ k, k < vals.length → (x.toList == (strAt vals k).toList) = false) : inB vals x = false := by
  unfold inB
  rw [List.any_eq_false]
  intro y hm
  obtain ⟨k, hk, rfl⟩ := List.getElem_of_mem hm
  have := h k hk
  have e : strAt vals k = vals[k] := by simp [strAt, hk]
  rw [e] at this
  rw [this]; simp
end Go.Dm

namespace Go.Dm
open Go Go.RowKit

/-- A slot: its node, what is free, its labels as they lie. -/
abbrev SlotR := ByteArray × Vc × Value × List PairS
--PLAIN
def noSlot : SlotR := (⟨#[]⟩, noV, .slice none 0 0, [])
def slAt (l : List SlotR) (k : Nat) : SlotR := l.getD k noSlot
def setFree (s : SlotR) (v : Vc) : SlotR := (s.1, v, s.2.2)
def bestStep (f : SlotR → Bool) (d : Vc) (s : Option (Nat × Vc)) (k : Nat) (x : SlotR) : Option (Nat × Vc) :=
  if f x && vfits d x.2.1 then
    match s with
    | none => some (k, vsub x.2.1 d)
    | some (i, v) => if vord (vsub x.2.1 d) v < 0 then some (k, vsub x.2.1 d) else some (i, v)
  else s
/-- P13.2: of the first k slots that are let the one of which the least is left. -/
def bestF (f : SlotR → Bool) (d : Vc) (l : List SlotR) : Nat → Option (Nat × Vc)
  | 0 => none
  | k + 1 => bestStep f d (bestF f d l k) k (slAt l k)
def bestS (f : SlotR → Bool) (d : Vc) (l : List SlotR) : Option (Nat × Vc) := bestF f d l l.length
/-- P13.2: where so many copies stand. -/
def fitS (f : SlotR → Bool) (d : Vc) : Nat → List SlotR → Option (List ByteArray)
  | 0, _ => some []
  | n + 1, l => match bestS f d l with
    | none => none
    | some (i, v) => (fitS f d n (l.set i (setFree (slAt l i) v))).map ((slAt l i).1 :: ·)
/-- P13.1: for how many there is room. -/
def roomF (f : SlotR → Bool) (d : Vc) (m : Nat) : List SlotR → Nat
  | [] => 0
  | x :: l => (if f x then vholds x.2.1 d m else 0) + roomF f d m l
theorem roomF_cons (f : SlotR → Bool) (d : Vc) (m : Nat) (x : SlotR) (l : List SlotR) : roomF f d m (x :: l) = (if f x then vholds x.2.1 d m else 0) + roomF f d m l := rfl
def roomS (f : SlotR → Bool) (d : Vc) (m : Nat) (l : List SlotR) : Nat := min m (roomF f d m l)
def allS : SlotR → Bool := fun _ => true

theorem slAt_eq {l : List SlotR} {k : Nat} (h : k < l.length) : slAt l k = l[k] := by simp [slAt, h]
theorem slAt_mem {l : List SlotR} {k : Nat} (h : k < l.length) : slAt l k ∈ l := by rw [slAt_eq h]; exact List.getElem_mem h
theorem slAt_app {a b : List SlotR} {k : Nat} (h : k < a.length) : slAt (a ++ b) k = slAt a k := by
  rw [slAt_eq h, slAt_eq (by simp; omega), List.getElem_append_left h]
theorem slAt_mid {a b : List SlotR} {x : SlotR} : slAt (a ++ x :: b) a.length = x := by
  rw [slAt_eq (by simp)]; simp

/-- The best one of some. -/
theorem best_some {f d l} : ∀ {k i v}, bestF f d l k = some (i, v) → i < k ∧ f (slAt l i) = true ∧ vfits d (slAt l i).2.1 = true ∧ v = vsub (slAt l i).2.1 d
  | 0, i, v, h => by simp [bestF] at h
  | k + 1, i, v, h => by
    unfold bestF bestStep at h
    by_cases hc : (f (slAt l k) && vfits d (slAt l k).2.1) = true
    · rw [if_pos hc] at h
      rw [Bool.and_eq_true] at hc
      cases e : bestF f d l k with
      | none => rw [e] at h; simp at h; obtain ⟨rfl, rfl⟩ := h; exact ⟨by omega, hc.1, hc.2, rfl⟩
      | some q =>
        obtain ⟨i', v'⟩ := q
        rw [e] at h
        simp only at h
        split at h
        · simp at h; obtain ⟨rfl, rfl⟩ := h; exact ⟨by omega, hc.1, hc.2, rfl⟩
        · simp at h; obtain ⟨rfl, rfl⟩ := h
          have := best_some e
          exact ⟨by omega, this.2⟩
    · rw [if_neg hc] at h
      have := best_some h
      exact ⟨by omega, this.2⟩
theorem best_none {f d l} : ∀ {k}, bestF f d l k = none ↔ ∀ j, j < k → (f (slAt l j) && vfits d (slAt l j).2.1) = false
  | 0 => by simp [bestF]
  | k + 1 => by
    constructor
    · intro h j hj
      unfold bestF bestStep at h
      by_cases hc : (f (slAt l k) && vfits d (slAt l k).2.1) = true
      · rw [if_pos hc] at h
        cases e : bestF f d l k with
        | none => rw [e] at h; simp at h
        | some q => obtain ⟨i', v'⟩ := q; rw [e] at h; simp only at h; split at h <;> simp at h
      · rw [if_neg hc] at h
        rcases Nat.lt_succ_iff_lt_or_eq.1 hj with h' | rfl
        · exact best_none.1 h j h'
        · exact Bool.eq_false_iff.2 hc
    · intro h
      unfold bestF bestStep
      rw [if_neg (by rw [h k (by omega)]; simp)]
      exact best_none.2 fun j hj => h j (by omega)
theorem bestS_lt {f d l i v} (h : bestS f d l = some (i, v)) : i < l.length := (best_some h).1
theorem bestF_app {f d a b} : ∀ {k}, k ≤ a.length → bestF f d (a ++ b) k = bestF f d a k
  | 0, _ => rfl
  | k + 1, h => by unfold bestF; rw [bestF_app (by omega), slAt_app (by omega)]

/-- Among those that are let alone the best is the same one. -/
theorem best_filter {f d} : ∀ {l : List SlotR} {k : Nat}, k ≤ l.length →
    bestF allS d (l.filter f) ((l.take k).filter f).length = (bestF f d l k).map fun q => (((l.take q.1).filter f).length, q.2)
  | l, 0, _ => rfl
  | l, k + 1, h => by
    have ih := best_filter (f := f) (d := d) (l := l) (k := k) (by omega)
    have ht : l.take (k + 1) = l.take k ++ [slAt l k] := by rw [List.take_succ_eq_append_getElem (by omega), slAt_eq (by omega)]
    have hl : l = l.take k ++ slAt l k :: l.drop (k + 1) := by
      rw [slAt_eq (by omega)]
      simp
    rw [ht, List.filter_append]
    show _ = (bestStep f d (bestF f d l k) k (slAt l k)).map _
    cases hf : f (slAt l k) with
    | false =>
      rw [List.filter_cons_of_neg (by simp [hf]), List.filter_nil, List.append_nil, ih]
      unfold bestStep
      rw [hf]
      rfl
    | true =>
      rw [List.filter_cons_of_pos hf, List.filter_nil, List.length_append]
      show bestStep allS d (bestF allS d (l.filter f) ((l.take k).filter f).length) ((l.take k).filter f).length (slAt (l.filter f) ((l.take k).filter f).length) = _
      have he : slAt (l.filter f) ((l.take k).filter f).length = slAt l k := by
        conv => lhs; arg 1; rw [hl]
        rw [List.filter_append, List.filter_cons_of_pos hf]
        exact slAt_mid
      rw [he, ih]
      unfold bestStep
      rw [hf]
      simp only [allS, Bool.true_and]
      split
      · cases e : bestF f d l k with
        | none => rfl
        | some q =>
          obtain ⟨i, v⟩ := q
          simp only [Option.map_some]
          split <;> rfl
      · rfl

theorem bestS_filter {f d} (l : List SlotR) : bestS allS d (l.filter f) = (bestS f d l).map fun q => (((l.take q.1).filter f).length, q.2) := by
  have := best_filter (f := f) (d := d) (l := l) (Nat.le_refl _)
  rw [List.take_length] at this
  exact this
theorem filter_set {f : SlotR → Bool} {l : List SlotR} {i : Nat} {y : SlotR} (hi : i < l.length) (h : f (slAt l i) = true) (hy : f y = true) :
    (l.set i y).filter f = (l.filter f).set ((l.take i).filter f).length y ∧ slAt (l.filter f) ((l.take i).filter f).length = slAt l i := by
  have hl : l = l.take i ++ slAt l i :: l.drop (i + 1) := by
    rw [slAt_eq hi]; simp
  have e1 : l.filter f = (l.take i).filter f ++ slAt l i :: (l.drop (i + 1)).filter f := by
    conv => lhs; rw [hl]
    rw [List.filter_append, List.filter_cons_of_pos h]
  constructor
  · rw [e1, List.set_append_right _ _ (Nat.le_refl _), Nat.sub_self, List.set_cons_zero, List.set_eq_take_append_cons_drop, if_pos hi, List.filter_append, List.filter_cons_of_pos hy]
  · rw [e1]; exact slAt_mid
/-- A slot is let by its labels. -/
def LabF (f : SlotR → Bool) : Prop := ∀ s v, f (setFree s v) = f s
theorem fit_filter {f d} (hf : LabF f) : ∀ (n : Nat) (l : List SlotR), fitS allS d n (l.filter f) = fitS f d n l
  | 0, _ => rfl
  | n + 1, l => by
    unfold fitS
    rw [bestS_filter]
    cases e : bestS f d l with
    | none => rfl
    | some q =>
      obtain ⟨i, v⟩ := q
      have hb := best_some e
      have hs := filter_set (f := f) (y := setFree (slAt l i) v) hb.1 hb.2.1 (by rw [hf]; exact hb.2.1)
      simp only [Option.map_some]
      rw [hs.2, ← hs.1, fit_filter hf n]
theorem room_filter {f d m} : ∀ (l : List SlotR), roomF allS d m (l.filter f) = roomF f d m l
  | [] => rfl
  | x :: l => by
    have ih := room_filter (f := f) (d := d) (m := m) l
    cases h : f x with
    | false => rw [List.filter_cons_of_neg (by simp [h]), ih, roomF_cons, h]; simp
    | true =>
      rw [List.filter_cons_of_pos h, roomF_cons, roomF_cons, ih, h]
      rfl

/-- Each time so many as are asked for. -/
theorem fit_len {f d} : ∀ {n l a}, fitS f d n l = some a → a.length = n
  | 0, l, a, h => by simp [fitS] at h; subst h; rfl
  | n + 1, l, a, h => by
    unfold fitS at h
    cases e : bestS f d l with
    | none => rw [e] at h; simp at h
    | some q =>
      obtain ⟨i, v⟩ := q
      rw [e] at h
      simp only [Option.map_eq_some_iff] at h
      obtain ⟨b, hb, rfl⟩ := h
      rw [List.length_cons, fit_len hb]
/-- Fewer: the first of the same. -/
theorem fit_less {f d} : ∀ {n k l a}, k ≤ n → fitS f d n l = some a → fitS f d k l = some (a.take k)
  | _, 0, l, a, _, _ => by simp [fitS]
  | 0, k + 1, l, a, hk, _ => by omega
  | n + 1, k + 1, l, a, hk, h => by
    unfold fitS at h ⊢
    cases e : bestS f d l with
    | none => rw [e] at h; simp at h
    | some q =>
      obtain ⟨i, v⟩ := q
      rw [e] at h
      simp only [Option.map_eq_some_iff] at h
      obtain ⟨b, hb, rfl⟩ := h
      simp only
      rw [fit_less (by omega) hb]
      rfl
/-- One slot more, which none of it may use. -/
theorem fit_more {f d} {z : SlotR} (hz : vfits d z.2.1 = false) : ∀ (n : Nat) (l : List SlotR), fitS f d n (l ++ [z]) = fitS f d n l
  | 0, l => rfl
  | n + 1, l => by
    have hb : bestS f d (l ++ [z]) = bestS f d l := by
      unfold bestS
      rw [List.length_append]
      show bestStep f d (bestF f d (l ++ [z]) l.length) l.length (slAt (l ++ [z]) l.length) = _
      rw [bestF_app (Nat.le_refl _), slAt_mid]
      unfold bestStep
      rw [hz]
      simp
    unfold fitS
    rw [hb]
    cases e : bestS f d l with
    | none => rfl
    | some q =>
      obtain ⟨i, v⟩ := q
      have hi := bestS_lt e
      simp only
      rw [slAt_app hi, List.set_append_left _ _ hi, fit_more hz n]

theorem roomF_app {f d m} : ∀ (a b : List SlotR), roomF f d m (a ++ b) = roomF f d m a + roomF f d m b
  | [], b => by simp [roomF]
  | x :: a, b => by rw [List.cons_append, roomF_cons, roomF_cons, roomF_app a b]; omega
theorem roomF_less {f d m n} (h : m ≤ n) : ∀ (l : List SlotR), roomF f d m l ≤ roomF f d n l ∧ (roomF f d n l > roomF f d m l → m ≤ roomF f d m l)
  | [] => by simp [roomF]
  | x :: l => by
    have ih := roomF_less (f := f) (d := d) h l
    unfold roomF
    cases f x with
    | false => simpa using ih
    | true =>
      have := vholds_min x.2.1 d h
      simp only [if_true]
      omega
theorem split_at {l : List SlotR} {i : Nat} (hi : i < l.length) : l = l.take i ++ slAt l i :: l.drop (i + 1) := by
  rw [slAt_eq hi]; simp
/-- There is room for one more just if there is a best one, and, once it's taken, for the others. -/
theorem room_step {f d} (hf : LabF f) (m : Nat) (l : List SlotR) : (m + 1 ≤ roomF f d (m + 1) l) ↔ ∃ i v, bestS f d l = some (i, v) ∧ m ≤ roomF f d m (l.set i (setFree (slAt l i) v)) := by
  cases e : bestS f d l with
  | none =>
    have hz : ∀ l' : List SlotR, (∀ x ∈ l', (f x && vfits d x.2.1) = false) → roomF f d (m + 1) l' = 0 := by
      intro l'
      induction l' with
      | nil => intro _; rfl
      | cons x l' ih =>
        intro h
        unfold roomF
        rw [ih fun y hy => h y (List.mem_cons_of_mem _ hy)]
        have hx := h x (by simp)
        cases hfx : f x with
        | false => simp
        | true => rw [hfx, Bool.true_and] at hx; simp [vholds_zero _ hx]
    have := hz l fun x hx => by
      obtain ⟨j, hj, rfl⟩ := List.getElem_of_mem hx
      have := best_none.1 e j hj
      rwa [slAt_eq hj] at this
    rw [this]
    simp
  | some q =>
    obtain ⟨i, v⟩ := q
    obtain ⟨hi, h1, h2, h3⟩ := best_some e
    have hl := split_at hi
    have hs : l.set i (setFree (slAt l i) v) = l.take i ++ setFree (slAt l i) v :: l.drop (i + 1) := by
      rw [List.set_eq_take_append_cons_drop, if_pos hi]
    have e1 : roomF f d (m + 1) l = roomF f d (m + 1) (l.take i) + (vholds (slAt l i).2.1 d (m + 1) + roomF f d (m + 1) (l.drop (i + 1))) := by
      conv => lhs; rw [hl]
      rw [roomF_app]
      conv => lhs; arg 2; unfold roomF
      rw [h1]; rfl
    have e2 : roomF f d m (l.set i (setFree (slAt l i) v)) = roomF f d m (l.take i) + (vholds v d m + roomF f d m (l.drop (i + 1))) := by
      rw [hs, roomF_app]
      conv => lhs; arg 2; unfold roomF
      rw [hf, h1]; rfl
    have hst := vholds_step m h2
    rw [← h3] at hst
    have a1 := roomF_less (f := f) (d := d) (Nat.le_succ m) (l.take i)
    have a2 := roomF_less (f := f) (d := d) (Nat.le_succ m) (l.drop (i + 1))
    simp only [Nat.succ_eq_add_one] at a1 a2
    constructor
    · intro h
      refine ⟨i, v, rfl, ?_⟩
      rw [e2]
      omega
    · rintro ⟨i', v', hq, h⟩
      simp only [Option.some.injEq, Prod.mk.injEq] at hq
      obtain ⟨rfl, rfl⟩ := hq
      rw [e2] at h
      omega
/-- The seed's third theorem: there is a fit just if there is room for so many. -/
theorem fit_room {f d} (hf : LabF f) : ∀ (n : Nat) (l : List SlotR), (fitS f d n l).isSome = decide (n ≤ roomF f d n l)
  | 0, l => by simp [fitS]
  | n + 1, l => by
    have hr := room_step (d := d) hf n l
    unfold fitS
    cases e : bestS f d l with
    | none =>
      rw [e] at hr
      simp only [Option.isSome_none]
      symm
      rw [decide_eq_false_iff_not, hr]
      rintro ⟨i, v, h, _⟩
      cases h
    | some q =>
      obtain ⟨i, v⟩ := q
      rw [e] at hr
      simp only [Option.isSome_map]
      rw [fit_room hf n]
      apply decide_eq_decide.2
      rw [hr]
      constructor
      · intro h; exact ⟨i, v, rfl, h⟩
      · rintro ⟨i', v', h, h2⟩
        simp only [Option.some.injEq, Prod.mk.injEq] at h
        obtain ⟨rfl, rfl⟩ := h
        exact h2
theorem roomF_rev {f d m} : ∀ (l : List SlotR), roomF f d m l.reverse = roomF f d m l
  | [] => rfl
  | x :: l => by
    rw [List.reverse_cons, roomF_app, roomF_rev l, roomF_cons, roomF_cons]
    simp only [roomF]
    omega
--END
end Go.Dm

namespace Go.Dm
open Go Go.RowKit

def vAt (a : Vc) (k : Nat) : Value := .int .u64 (vG a k : Nat)
def slotOne (r : SlotR) : List Value := [.string r.1, vAt r.2.1 0, vAt r.2.1 1, vAt r.2.1 2, vAt r.2.1 3, r.2.2.1]
def slotVal (r : SlotR) : Value := .agg #[.string r.1, vAt r.2.1 0, vAt r.2.1 1, vAt r.2.1 2, vAt r.2.1 3, r.2.2.1]
def slotCells (R : List SlotR) : List Value := R.flatMap slotOne
theorem slotCells_len (R : List SlotR) : (slotCells R).length = R.length * 6 := by
  induction R with
  | nil => rfl
  | cons x xs ih => simp only [slotCells, slotOne, List.flatMap_cons, List.length_append, List.length_cons, List.length_nil] at *; omega
theorem slotCells_app (a b : List SlotR) : slotCells (a ++ b) = slotCells a ++ slotCells b := by simp [slotCells]
theorem slotCells_at : ∀ (xs : List SlotR) (k : Nat), k < xs.length → ∀ j, j < 6 → (slotCells xs)[k*6+j]? = (slotOne (slAt xs k))[j]?
  | x :: xs, 0, _, j, hj => by
    show (slotOne x ++ slotCells xs)[0*6+j]? = _
    rw [List.getElem?_append_left (by simp [slotOne]; omega)]
    simp [slAt]
  | x :: xs, k+1, h, j, hj => by
    have := slotCells_at xs k (by simpa using h) j hj
    show (slotOne x ++ slotCells xs)[(k+1)*6+j]? = _
    rw [List.getElem?_append_right (by simp [slotOne]; omega)]
    rw [show (k + 1) * 6 + j - (slotOne x).length = k * 6 + j by simp [slotOne]; omega, this]
    simp [slAt]
theorem slotCells_take (R : List SlotR) : ∀ k, k ≤ R.length → (slotCells R).take (k * 6) = slotCells (R.take k) := by
  intro k hk
  have e : R = R.take k ++ R.drop k := (List.take_append_drop k R).symm
  conv => lhs; rw [e]
  rw [slotCells_app, List.take_append_of_le_length (by rw [slotCells_len, List.length_take]; omega), List.take_of_length_le (by rw [slotCells_len, List.length_take]; omega)]

/-- A slice value reads as these slots. -/
structure Slots (w : World) (v : Value) (R : List SlotR) : Prop where
  sl : Sl w 6 v R.length (slotCells R)
  labs : ∀ r ∈ R, Pairs w r.2.2.1 r.2.2.2
  okv : ∀ r ∈ R, OkV r.2.1
theorem Slots.ext {w w' : World} {v R} (h : Slots w v R) (hb : Ext w w') : Slots w' v R := ⟨h.sl.ext hb, fun r hr => (h.labs r hr).ext hb, h.okv⟩
theorem Slots.nil (w : World) : Slots w (.slice none 0 0) [] := ⟨Sl.nil w 6, (fun r hr => by cases hr), (fun r hr => by cases hr)⟩
theorem Slots.shape {w : World} {v R} (h : Slots w v R) : ∃ p cap, v = .slice p R.length cap ∧ R.length ≤ cap ∧ cap ≤ maxLen := by
  obtain ⟨p, cap, h1, h2, h3, _⟩ := Sl.shape h.sl
  exact ⟨p, cap, h1, h2, h3⟩
theorem Slots.at {w : World} {xs : List SlotR} {p cap} (h : Slots w (.slice p xs.length cap) xs) {k : Nat} (hk : k < xs.length) :
    ∃ b off, p = some ⟨b, off, none⟩ ∧ b < w.heap.size ∧ ∀ j, j < 6 → w.cell? ⟨b, off + k*6 + j, none⟩ = (slotOne (slAt xs k))[j]? := by
  obtain ⟨b, off, hp, hb, h⟩ := Sl.at h.sl (by omega)
  refine ⟨b, off, hp, hb, fun j hj => ?_⟩
  have := slotCells_at xs k hk j hj
  obtain ⟨u, hu⟩ : ∃ u, (slotOne (slAt xs k))[j]? = some u := ⟨_, List.getElem?_eq_getElem (by simp [slotOne]; omega)⟩
  rw [hu] at this ⊢
  rw [Nat.add_assoc]
  exact h _ _ this
theorem Slots.lab {w : World} {xs : List SlotR} {v} (h : Slots w v xs) {k : Nat} (hk : k < xs.length) : Pairs w (slAt xs k).2.2.1 (slAt xs k).2.2.2 := h.labs _ (slAt_mem hk)
theorem Slots.ok {w : World} {xs : List SlotR} {v} (h : Slots w v xs) {k : Nat} (hk : k < xs.length) : OkV (slAt xs k).2.1 := h.okv _ (slAt_mem hk)
theorem Slots.of_row {w : World} {B e : Nat} {v : Value} {n : Nat} {l : List SlotR} (h : w.ownsRow B e 6 v n (slotCells l)) (hn : n = l.length)
    (hv : ∀ r ∈ l, Pairs w r.2.2.1 r.2.2.2) (ho : ∀ r ∈ l, OkV r.2.1) : Slots w v l := by
  subst hn
  exact ⟨Sl.of_owns h, hv, ho⟩
theorem Pairs.one {w : World} {v : Value} {ss} (h : Pairs w v ss) : v.oneCell' = true := by
  obtain ⟨p, cap, rfl, _⟩ := h.shape
  rfl
theorem Slots.one {w : World} {v : Value} {R} (h : Slots w v R) : ∀ u ∈ slotCells R, u.oneCell' = true := by
  intro u hu
  obtain ⟨x, hx, hu⟩ := List.mem_flatMap.1 hu
  simp only [slotOne, List.mem_cons, List.mem_nil_iff, or_false] at hu
  rcases hu with rfl | rfl | rfl | rfl | rfl | rfl
  · rfl
  · rfl
  · rfl
  · rfl
  · rfl
  · exact (h.labs x hx).one

/-- Each slot's labels are of a size that a run can hold. -/
def FitK (R : List SlotR) : Prop := ∀ r ∈ R, r.2.2.2.length ≤ 35184372088832
/-- The first slot that is not let. -/
def FirstNo (f : SlotR → Bool) (R : List SlotR) (i : Int) : Prop := (i = -1 ∧ ∀ r ∈ R, f r = true) ∨ ∃ k : Nat, i = k ∧ k < R.length ∧ (∀ j, j < k → f (slAt R j) = true) ∧ f (slAt R k) = false
def letR (T : List RowS) (r : SlotR) : Bool := matchS (T.map rowT) r.2.2.2
end Go.Dm

namespace Go.Proofs.Ytibimbcjnjefdaa
open Go.RowKit Go.Dm

set_option maxHeartbeats 400000 in
theorem oindex_w (vals : List ByteArray) (x : ByteArray) (v : Value) (w : World) (hm : vals.length ≤ 35184372088832) (hx : Strs w v vals) :
    Calls Try.prog 70 #[v, .string x] w fun e w' => ∃ i : Int, e = .returned (.int .i64 i) ∧ decide (0 ≤ i) = inB vals x ∧ Ext w w' := by
  obtain ⟨q, cap, rfl, _, _⟩ := hx.shape
  have hhit := fun k (hk : k < vals.length) h => inB_hit (x := x) hk h
  have hmiss := inB_miss (vals := vals) (x := x)
  generalize inB vals x = d at *
  replace hhit := Lib.hid hhit
  replace hmiss := Lib.hid hmiss
  go_enter Try.func70, Try.ntmps70
  go_wp2
  go_loopw [4, 8] (fun z i wr => ∃ k : Nat, k ≤ vals.length ∧ i = .int .i64 k ∧ z = .int .i64 0 ∧ Ext w wr ∧ Hid (∀ j, j < k → (x.toList == (strAt vals j).toList) = false)) (fun _ i _ => vals.length - (intOf i).toNat)
  case atStart => exact ⟨0, by omega, rfl, rfl, Ext.refl w, fun j hj => by omega⟩
  case round =>
    obtain ⟨k, hk, rfl, rfl, hb, HN⟩ := hrel
    by_cases hlt : k < vals.length
    · obtain ⟨b, off, rfl, hbl, c0⟩ := (hx.ext hb).at hlt
      cases hq : (x.toList == (strAt vals k).toList) with
      | true =>
        have hd := hhit.out k hlt hq
        subst hd
        go_wp2
        go_ret
        exact ⟨_, rfl, by first | omega | simp, hb⟩
      | false =>
        have hN2 : Hid (∀ j, j < k + 1 → (x.toList == (strAt vals j).toList) = false) := fun j hj => by
          rcases Nat.lt_succ_iff_lt_or_eq.1 hj with h | rfl
          · exact HN.out j h
          · exact hq
        go_wp2
        go_roundw
        case rel => exact ⟨k + 1, by omega, by go_num, rfl, hb, hN2⟩
        case measure => simp [intOf]; omega
    · obtain rfl : k = vals.length := by omega
      have hd := hmiss.out HN.out
      subst hd
      go_wp2
      go_ret
      exact ⟨-1, rfl, by first | omega | simp, hb⟩

set_option maxHeartbeats 400000 in
theorem ocontains_w (vals : List ByteArray) (x : ByteArray) (v : Value) (w : World) (hm : vals.length ≤ 35184372088832) (hx : Strs w v vals) :
    Calls Try.prog 69 #[v, .string x] w fun e w' => e = .returned (.bool (inB vals x)) ∧ Ext w w' := by
  go_enter Try.func69, Try.ntmps69
  go_wp2_with fail
  refine (oindex_w vals x v w hm hx).mono ?_; rintro e w1 ⟨i, rfl, hi, h1⟩
  go_wp2
  go_ret
  exact ⟨by rw [← hi]; rfl, h1⟩

set_option maxHeartbeats 400000 in
theorem oholds_w (vals : List ByteArray) (x : ByteArray) (v : Value) (w : World) (hm : vals.length ≤ 35184372088832) (hx : Strs w v vals) :
    Calls Try.prog 68 #[v, .string x] w fun e w' => e = .returned (.bool (inB vals x)) ∧ Ext w w' := by
  go_enter Try.func68, Try.ntmps68
  go_wp2_with fail
  refine (ocontains_w vals x v w hm hx).mono ?_; rintro e w1 ⟨rfl, h1⟩
  go_wp2
  go_ret
  exact ⟨rfl, h1⟩

set_option maxHeartbeats 400000 in
theorem pholds_w (x : ByteArray) (w : World) :
    Calls Try.prog 67 #[.agg #[], .string x] w fun e w' => e = .returned (.bool true) ∧ Ext w w' := by
  go_enter Try.func67, Try.ntmps67
  go_wp2
  go_ret
  exact ⟨rfl, (Ext.refl _).alloc _⟩

set_option maxHeartbeats 400000 in
theorem rule_w (key : ByteArray) (no : Bool) (vals : List ByteArray) (v : Value) (w : World) (hx : Strs w v vals) :
    Calls Try.prog 44 #[.agg #[.string key, .bool no, v]] w fun e w' => e = .returned (if vals.isEmpty then .iface 102 (.agg #[]) else .iface 103 v) ∧ Ext w w' := by
  obtain ⟨q, cap, rfl, _, _⟩ := hx.shape
  cases vals with
  | nil =>
    go_enter Try.func44, Try.ntmps44
    go_wp2
    go_ret
    exact ⟨rfl, (Ext.refl _).alloc _⟩
  | cons a vals =>
    generalize hn : (a :: vals).length = n
    have hn0 : ((n : Int) == 0) = false := by rw [beq_eq_false_iff_ne]; simp at hn; omega
    clear hx
    go_enter Try.func44, Try.ntmps44
    go_wp2
    go_ret
    exact ⟨rfl, (Ext.refl _).alloc _⟩

end Go.Proofs.Ytibimbcjnjefdaa

namespace Go.Proofs.Ytibimbcjnjefdaa
open Go.RowKit Go.Dm

theorem meth_present (w : World) : (method 224 102 (.agg #[]) "demesne/sel.holds").run Try.prog w = .ok (67, .agg #[]) w := by kernel_rfl
theorem meth_oneOf (a : Option Addr) (n c : Nat) (w : World) : (method 224 103 (.slice a n c) "demesne/sel.holds").run Try.prog w = .ok (68, .slice a n c) w := by kernel_rfl

set_option maxHeartbeats 1000000 in
set_option maxRecDepth 100000 in
theorem tholds_w (key : ByteArray) (no : Bool) (vals : List ByteArray) (v : Value) (p : List PairS) (vp : Value) (w : World) (hm : vals.length ≤ 35184372088832) (hx : Strs w v vals) (hpm : p.length ≤ 35184372088832) (hp : Pairs w vp p) :
    Calls Try.prog 31 #[.agg #[.string key, .bool no, v], vp] w fun e w' => e = .returned (.bool (holdsS p (key, no, vals))) ∧ Ext w w' := by
  have hz : ∀ f, (findB p key) = f → holdsS p (key, no, vals) = ((f.2 && (vals.isEmpty || inB vals f.1)) != no) := fun f h => by unfold holdsS; rw [h]
  have C := fun w1 (h : Pairs w1 vp p) => find_w p key vp w1 hpm h
  generalize hF : findB p key = F at *
  obtain ⟨x, b⟩ := F
  have hz' := hz _ rfl
  simp only at hz' C
  replace hz' := Lib.hid hz'
  clear hz hF
  have mP := meth_present
  have mO := meth_oneOf
  have hW : Ext w (w.alloc (.cells #[.string key, .bool no, v] 59)) := (Ext.refl _).alloc _
  replace C := Lib.hid C
  obtain ⟨q, cap, rfl, _, _⟩ := hx.shape
  go_enter Try.func31, Try.ntmps31
  go_wp2_with fail
  refine (C.out _ (hp.ext hW)).mono ?_; rintro e w1 ⟨rfl, h1⟩
  clear C
  have e1 := hW.trans h1
  obtain ⟨gs, g⟩ := h1.box
  have g0 := g 0 _ rfl
  have g1 := g 1 _ rfl
  have g2 := g 2 _ rfl
  clear g
  have x1 := hx.ext e1
  cases b with
  | false =>
    go_wp2_with fail
    refine Dm.wp_region_grow (by kernel_rfl) (by kernel_rfl) ?_
    repeat (go_big_quiet_step (fail))
    refine wpQuiet_nil ?_
    intro U hU
    go_wp2
    go_ret
    exact ⟨by rw [hz'.out]; cases no <;> rfl, e1.trans hU⟩
  | true =>
    have CO := Lib.hid (fun U (hU : Ext w1 U) => oholds_w vals x _ U hm (x1.ext hU))
    cases hvs : vals.isEmpty with
    | true =>
      obtain rfl := List.isEmpty_iff.1 hvs
      have CR : Hid (∀ U, Ext w1 U → Calls Try.prog 44 #[.agg #[.string key, .bool no, .slice q 0 cap]] U fun e w' => e = .returned (.iface 102 (.agg #[])) ∧ Ext U w') := fun U hU => rule_w key no [] _ U (x1.ext hU)
      go_wp2_with fail
      refine Dm.wp_region_grow (by kernel_rfl) (by kernel_rfl) ?_
      repeat (go_big_quiet_step (first
        | (go_at_call 44; with_reducible exact Calls.quietE (CR.out _ (ext_grow _ _)))
        | (go_at_call 67; with_reducible exact Calls.quietE (pholds_w x _))))
      refine wpQuiet_nil ?_
      intro U hU
      go_wp2
      go_ret
      exact ⟨by rw [hz'.out]; cases no <;> rfl, e1.trans hU⟩
    | false =>
      have CR : Hid (∀ U, Ext w1 U → Calls Try.prog 44 #[.agg #[.string key, .bool no, .slice q vals.length cap]] U fun e w' => e = .returned (.iface 103 (.slice q vals.length cap)) ∧ Ext U w') := fun U hU => by
        have := rule_w key no vals _ U (x1.ext hU)
        rw [hvs] at this
        exact this
      go_wp2_with fail
      refine Dm.wp_region_grow (by kernel_rfl) (by kernel_rfl) ?_
      repeat (go_big_quiet_step (first
        | (go_at_call 44; with_reducible exact Calls.quietE (CR.out _ (ext_grow _ _)))
        | (go_at_call 68; with_reducible exact Calls.quietE (CO.out _ (ext_grow _ _)))))
      refine wpQuiet_nil ?_
      intro U hU
      go_wp2
      go_ret
      exact ⟨by rw [hz'.out, hvs]; rfl, e1.trans hU⟩

end Go.Proofs.Ytibimbcjnjefdaa

namespace Go.Dm
open Go Go.RowKit

/-- A byte that stands in no name. -/
def NoName (c : UInt8) : Prop := (letterB c.toNat || markB c.toNat) = false ∧ c.toNat < 128

theorem okL_step_no {c : UInt8} (hc : NoName c) {b : Bool} {l : Bs} (h : l ≠ []) (hr : (letterB (runeL l) || (!b && markB (runeL l))) = true) : c ∉ l.take (wideL l) := by
  have hlm : (letterB (runeL l) || markB (runeL l)) = true := by cases b <;> simp_all
  obtain ⟨hne, hlt⟩ := letterB_plain hlm
  obtain ⟨hc1, hc2⟩ := hc
  unfold wideL runeL decL at *
  obtain ⟨a, t, rfl, ha⟩ := head_bAt h
  split
  · rename_i h0
    rw [if_pos h0] at hlm
    simp only at hlm
    intro hm
    simp at hm
    subst hm
    rw [ha] at hlm
    rw [hlm] at hc1
    cases hc1
  · rename_i h0
    rw [if_neg h0] at hne hlt
    split
    · rename_i h1
      rw [if_pos h1] at hne hlt
      simp only [Bool.and_eq_true, beq_iff_eq] at h1
      split
      · rename_i h2
        rw [if_pos h2] at hne hlt
        have hcb := contB_lt h1.2
        cases t with
        | nil => simp at hcb
        | cons d t =>
          intro hm
          simp at hm
          have hcc : d.toNat / 64 = 2 := by
            have := h1.2
            simp only [contB, Bool.and_eq_true, beq_iff_eq] at this
            exact this.2
          rcases hm with rfl | rfl
          · rw [ha] at h0; exact h0 (by first | exact decide_eq_true hc2 | exact hc2)
          · omega
      · rename_i h2
        rw [if_neg h2] at hlt
        simp only at hlt; omega
    · rename_i h1
      rw [if_neg h1] at hlt
      split
      · rename_i h3
        rw [if_pos h3] at hlt
        split
        · rename_i h4
          rw [if_pos h4] at hlt
          simp only [Bool.and_eq_true, decide_eq_true_eq] at h4
          simp only at hlt; omega
        · rename_i h4
          rw [if_neg h4] at hlt
          simp only at hlt; omega
      · rename_i h3
        rw [if_neg h3] at hlt
        split
        · rename_i h5
          rw [if_pos h5] at hlt
          split
          · rename_i h6
            rw [if_pos h6] at hlt
            simp only [Bool.and_eq_true, decide_eq_true_eq] at h6
            simp only at hlt; omega
          · rename_i h6
            rw [if_neg h6] at hlt
            simp only at hlt; omega
        · rename_i h5
          rw [if_neg h5] at hlt
          simp only at hlt; omega

theorem okL_no {c : UInt8} (hc : NoName c) : ∀ (n : Nat) (b : Bool) (l : Bs), l.length ≤ n → okL b l = true → c ∉ l := by
  intro n
  induction n with
  | zero =>
    intro b l hl _
    have : l = [] := List.length_eq_zero_iff.1 (by omega)
    subst this
    simp
  | succ n ih =>
    intro b l hl hok
    by_cases h : l = []
    · subst h; simp
    · rw [okL_step b h, Bool.and_eq_true] at hok
      have h1 := okL_step_no hc h hok.1
      have hw := wideL_pos l
      have h2 := ih false (l.drop (wideL l)) (by rw [List.length_drop]; omega) hok.2
      rw [← List.take_append_drop (wideL l) l, List.mem_append]
      rintro (h' | h')
      · exact h1 h'
      · exact h2 h'

theorem right_no {c : UInt8} (hc : NoName c) {l : Bs} (h : rightL l = true) : c ∉ l := by
  unfold rightL at h
  simp only [Bool.and_eq_true] at h
  exact okL_no hc _ true l (Nat.le_refl _) h.1.1
theorem no_comma {l : Bs} (h : rightL l = true) : (44 : UInt8) ∉ l := right_no ⟨by decide, by decide⟩ h
theorem no_is {l : Bs} (h : rightL l = true) : (61 : UInt8) ∉ l := right_no ⟨by decide, by decide⟩ h
theorem no_not {l : Bs} (h : rightL l = true) : (33 : UInt8) ∉ l := right_no ⟨by decide, by decide⟩ h
theorem no_bar {l : Bs} (h : rightL l = true) : (124 : UInt8) ∉ l := right_no ⟨by decide, by decide⟩ h

/-- Right labels are of names. -/
theorem rightLab_names {L : List PairL} (h : rightLab L = true) : ∀ p ∈ L, rightL p.1 = true ∧ rightL p.2 = true := by
  intro p hp
  obtain ⟨k, hk, rfl⟩ := List.getElem_of_mem hp
  have := (rightLab_iff.1 h).2 k hk
  have he : plAt L k = L[k] := by simp [plAt, hk]
  unfold okLab at this
  rw [he, Bool.and_eq_true, Bool.and_eq_true] at this
  exact ⟨this.1, this.2.1⟩
theorem read_show {p : PairL} (h : (61 : UInt8) ∉ p.1) : readP (showP p) = p := by
  unfold readP showP
  rw [cutC_at h]
theorem textLab_one {L : List PairL} (hr : rightLab L = true) (h : L ≠ []) : textLab L = Lib.join (L.map showP) [44] := by
  unfold textLab
  rw [if_pos hr, if_neg h]
theorem textLab_nil : textLab [] = [45] := rfl
theorem parsed_text {L : List PairL} (hr : rightLab L = true) (h : L ≠ []) : parsedLab (textLab L) = L := by
  have hn := rightLab_names hr
  unfold parsedLab
  rw [textLab_one hr h, splitC_join (by simpa using h) (fun p hp => ?_), List.map_map]
  · conv => rhs; rw [← List.map_id L]
    refine List.map_congr_left fun p hp => ?_
    exact read_show (no_is (hn p hp).1)
  · obtain ⟨q, hq, rfl⟩ := List.mem_map.1 hp
    have := hn q hq
    unfold showP
    rw [List.mem_append, List.mem_cons]
    rintro (h1 | h1 | h1)
    · exact no_comma this.1 h1
    · exact absurd h1 (by decide)
    · exact no_comma this.2 h1
/-- What is shown is parsed. -/
theorem parse_text {L : List PairL} (hr : rightLab L = true) : parseLab (textLab L) = (L, true) := by
  by_cases h : L = []
  · subst h; rfl
  · have hne : textLab L ≠ [45] := by
      rw [textLab_one hr h]
      cases L with
      | nil => exact absurd rfl h
      | cons p L =>
        intro e
        have hm : (61 : UInt8) ∈ Lib.join ((p :: L).map showP) [44] := by
          rw [List.map_cons, Lib.join_cons]
          simp [showP]
        rw [e] at hm
        simp at hm
    have hp := parsed_text hr h
    rw [parseLab_good hne (by rw [hp]; exact hr), hp]
theorem text_inj {L M : List PairL} (hL : rightLab L = true) (hM : rightLab M = true) (h : textLab L = textLab M) : L = M := by
  have h1 := parse_text hL
  rw [h, parse_text hM] at h1
  exact ((Prod.mk.inj h1).1).symm

theorem join_len {c : UInt8} {n : Nat} : ∀ {xs : List Bs}, (∀ x ∈ xs, x.length ≤ n) → (Lib.join xs [c]).length ≤ (n + 1) * xs.length
  | [], _ => by simp [Lib.join]
  | [p], h => by
    have := h p (by simp)
    rw [Lib.join_one]; simp only [List.length_cons, List.length_nil]; omega
  | p :: q :: ns, h => by
    have : Lib.join (p :: q :: ns) [c] = p ++ c :: Lib.join (q :: ns) [c] := by simp [Lib.join_cons, Lib.joinTail]
    have h1 := h p (by simp)
    have ih := join_len (c := c) (xs := q :: ns) (fun x hx => h x (List.mem_cons_of_mem _ hx))
    rw [this, List.length_append, List.length_cons, List.length_cons, Nat.mul_add]; omega
theorem textLab_short {L : List PairL} (hr : rightLab L = true) : (textLab L).length ≤ 1000 := by
  by_cases h : L = []
  · subst h; decide
  · have h8 := (rightLab_iff.1 hr).1
    rw [textLab_one hr h]
    have := join_len (c := 44) (n := 65) (xs := L.map showP) (fun x hx => by
      obtain ⟨p, hp, rfl⟩ := List.mem_map.1 hx
      have h2 := rightLab_names hr p hp
      have h3 := right_len h2.1
      have h4 := right_len h2.2
      simp only [showP, List.length_append, List.length_cons]; omega)
    rw [List.length_map] at this
    omega

/-- A pair that shows as a piece that is no pair's is not right: the piece's bytes are those of the pair. -/
theorem show_read {x : Bs} (h : rightL (readP x).2 = true) : showP (readP x) = x := by
  unfold showP readP at *
  rcases cut_atC 61 x with h1 | ⟨p, r, h1, rfl⟩
  · rw [cutC_none h1] at h
    rw [right_nil] at h; cases h
  · rw [cutC_at h1]
/-- What is parsed shows as it was. -/
theorem text_parse {t : Bs} {L : List PairL} (h : parseLab t = (L, true)) : rightLab L = true ∧ textLab L = t := by
  by_cases h45 : t = [45]
  · subst h45
    obtain rfl := (Prod.mk.inj h).1
    exact ⟨rfl, rfl⟩
  · cases hr : rightLab (parsedLab t) with
    | false => rw [parseLab_bad h45 hr] at h; cases (Prod.mk.inj h).2
    | true =>
      rw [parseLab_good h45 hr] at h
      obtain rfl := (Prod.mk.inj h).1
      refine ⟨hr, ?_⟩
      have hn := rightLab_names hr
      have hne : parsedLab t ≠ [] := by unfold parsedLab; simpa using splitC_ne 44 t
      rw [textLab_one hr hne]
      unfold parsedLab at *
      rw [List.map_map]
      have e : (splitC 44 t).map (showP ∘ readP) = splitC 44 t := by
        conv => rhs; rw [← List.map_id (splitC 44 t)]
        refine List.map_congr_left fun x hx => ?_
        exact show_read (hn _ (List.mem_map_of_mem hx)).2
      rw [e, join_splitC]
theorem parse_no {t : Bs} {L : List PairL} (h : parseLab t = (L, false)) : L = [] := by
  by_cases h45 : t = [45]
  · subst h45; cases h
  · cases hr : rightLab (parsedLab t) with
    | false => rw [parseLab_bad h45 hr] at h; exact ((Prod.mk.inj h).1).symm
    | true => rw [parseLab_good h45 hr] at h; cases h
end Go.Dm

namespace Go.Dm
open Go Go.RowKit

def bS (s : ByteArray) : Bs := s.data.toList
/-- May the value at a place stand there? -/
def okVal (vs : List ByteArray) (k : Nat) : Bool := rightL (bS (strAt vs k)) && (k == 0 || !leB (bS (strAt vs k)) (bS (strAt vs (k - 1))))
/-- P5.1: may a term be? -/
def rightT (t : TermS) : Bool := (List.range t.2.2.length).all (okVal t.2.2) && (rightL (bS t.1) && decide (t.2.2.length ≤ 4))
/-- P5.1: may a selector be? -/
def rightS (T : List TermS) : Bool := decide (T.length ≤ 4) && T.all rightT

theorem rightT_bad {t : TermS} {k : Nat} (hk : k < t.2.2.length) (h : okVal t.2.2 k = false) : rightT t = false := by
  unfold rightT
  rw [Bool.and_eq_false_iff]
  left
  rw [List.all_eq_false]
  exact ⟨k, List.mem_range.2 hk, by rw [h]; simp⟩
theorem rightT_all {t : TermS} (h : ∀ k, k < t.2.2.length → okVal t.2.2 k = true) : rightT t = (rightL (bS t.1) && decide (t.2.2.length ≤ 4)) := by
  unfold rightT
  rw [List.all_eq_true.2 (fun k hk => h k (List.mem_range.1 hk)), Bool.true_and]
theorem rightT_iff {t : TermS} : rightT t = true ↔ (∀ k, k < t.2.2.length → okVal t.2.2 k = true) ∧ rightL (bS t.1) = true ∧ t.2.2.length ≤ 4 := by
  unfold rightT
  rw [Bool.and_eq_true, Bool.and_eq_true, decide_eq_true_eq, List.all_eq_true]
  exact ⟨fun h => ⟨fun k hk => h.1 k (List.mem_range.2 hk), h.2⟩, fun h => ⟨fun k hk => h.1 k (List.mem_range.1 hk), h.2⟩⟩
theorem rightS_iff {T : List TermS} : rightS T = true ↔ T.length ≤ 4 ∧ ∀ t ∈ T, rightT t = true := by
  unfold rightS
  rw [Bool.and_eq_true, decide_eq_true_eq, List.all_eq_true]
theorem rightT_val {t : TermS} (h : rightT t = true) : ∀ x ∈ t.2.2, rightL (bS x) = true := by
  intro x hx
  obtain ⟨k, hk, rfl⟩ := List.getElem_of_mem hx
  have := (rightT_iff.1 h).1 k hk
  unfold okVal at this
  rw [Bool.and_eq_true] at this
  have e : strAt t.2.2 k = t.2.2[k] := by simp [strAt, hk]
  rw [e] at this
  exact this.1
theorem rightT_sizes {t : TermS} (h : rightT t = true) : t.1.size ≤ 32 ∧ t.2.2.length ≤ 4 ∧ ∀ x ∈ t.2.2, x.size ≤ 32 := by
  refine ⟨right_len (rightT_iff.1 h).2.1, (rightT_iff.1 h).2.2, fun x hx => right_len (rightT_val h x hx)⟩

/-- P5.3: a term, a selector as bytes. -/
def numT (t : TermS) : Nat := 2 * t.2.2.length + (if t.2.1 then 1 else 0)
def putVals (vs : List ByteArray) : Bs := vs.flatMap fun x => putT (bS x)
def putTm (t : TermS) : Bs := (putT (bS t.1) ++ putL (numT t)) ++ putVals t.2.2
def putTms (T : List TermS) : Bs := T.flatMap putTm
def putS (T : List TermS) : Bs := if rightS T then putL T.length ++ putTms T else []
/-- P5.4: a term, a selector as it is read. -/
def joinB (vs : List ByteArray) (c : UInt8) : Bs := Lib.join (vs.map (·.data.toList)) [c]
def textTm (t : TermS) : Bs := if t.2.2.isEmpty then (if t.2.1 then 33 :: bS t.1 else bS t.1) else if t.2.1 then bS t.1 ++ 33 :: 61 :: joinB t.2.2 124 else bS t.1 ++ 61 :: joinB t.2.2 124
def textS (T : List TermS) : Bs := if rightS T then (if T.isEmpty then [45] else Lib.join (T.map textTm) [44]) else [63]

theorem putVals_step {vs : List ByteArray} {k : Nat} (hk : k < vs.length) : putVals (vs.take (k + 1)) = putVals (vs.take k) ++ putT (bS (strAt vs k)) := by
  rw [List.take_succ_eq_append_getElem hk, putVals, List.flatMap_append]
  simp [putVals, strAt, hk]
theorem rowT_take {R : List RowS} {k : Nat} (hk : k < R.length) : (R.take (k + 1)).map rowT = (R.take k).map rowT ++ [rowT (sAtR R k)] := by
  rw [take_snocT hk, List.map_append]; rfl
theorem putTms_step {T : List TermS} {t : TermS} : putTms (T ++ [t]) = putTms T ++ putTm t := by simp [putTms]
end Go.Dm
