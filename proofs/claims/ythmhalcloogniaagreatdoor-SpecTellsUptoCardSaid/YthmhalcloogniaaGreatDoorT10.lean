/- Texts one behind the other: Chapter 2: the walks of the program's spans, runes and names; Chapter 4: the walk of the program's Right; Chapter 4: the walks of the program's Find, Put, Text; Chapter 4: the walks of the program's Put and Text; What the walks know of the package-level variables; Chapter 4: the walk of the program's Parse; Chapter 5 in plain terms: terms, selectors. No program in sight; Chapter 5: the walks of a term's rule, of holds, and of Match; Chapter 5: the walks of a term's holds, and of Match; Chapter 2 in plain terms: a byte that may not stand in a name. No program in sight; Chapter 5 in plain terms: what is right, put, shown, parsed, the same. No program in sight; Chapter 5: the walks of Match and Right; Chapter 5 in plain terms: the terms of a text. No program in sight; Chapter 5: rows of terms that grow, their values apart from them. No program in sight; Chapter 4: the walk of the program's some (a list of labels that stands at a place); Chapter 4: the walk of the program's Get (labels that stand at a place); Chapters 1 and 4 in plain terms: what is got is what was put. No program in sight; Chapter 2: the walk of the program's Parts. -/
import Derived.Test.YthmhalcloogniaaGreatDoorWPure
import Derived.Test.YthmhalcloogniaaGreatDoorT2
import Derived.Test.YthmhalcloogniaaGreatDoorShelf
import Derived.Test.YthmhalcloogniaaGreatDoorT3
import Derived.Lib.OthersKept
import Derived.Test.YthmhalcloogniaaGreatDoorT12
import Derived.Test.YthmhalcloogniaaGreatDoorT6
import Derived.Test.YthmhalcloogniaaGreatDoorT4
import Derived.Laws.StructEq
import Derived.Maps.AppendAt
import Derived.Test.YthmhalcloogniaaGreatDoorT8
namespace Go.Dm
open Go Go.RowKit

abbrev Span := Int × Int
def spanAt (l : List Span) (k : Nat) : Span := l.getD k (0, 0)
def spanCells (l : List Span) : List Value := l.flatMap fun x => [.int .i32 x.1, .int .i32 x.2]
def inSpan (r : Int) (x : Span) : Bool := decide (x.1 ≤ r) && decide (r ≤ x.2)

theorem spanCells_at : ∀ (xs : List Span) (k : Nat), k < xs.length → (spanCells xs)[k*2]? = some (.int .i32 (spanAt xs k).1) ∧ (spanCells xs)[k*2+1]? = some (.int .i32 (spanAt xs k).2)
  | x :: xs, 0, _ => by simp [spanCells, spanAt]
  | x :: xs, k+1, h => by
    have := spanCells_at xs k (by simpa using h)
    have e : (k+1)*2 = k*2+1+1 := by omega
    have e2 : (k+1)*2+1 = k*2+1+1+1 := by omega
    simp only [e, spanCells, spanAt, List.flatMap_cons, List.cons_append, List.nil_append, List.getElem?_cons_succ, List.getD_cons_succ]
    exact this

def Spans (w : World) (v : Value) (l : List Span) : Prop := Sl w 2 v l.length (spanCells l)
theorem Spans.ext {w w' : World} {v l} (h : Spans w v l) (hb : Ext w w') : Spans w' v l := Sl.ext h hb
theorem Spans.shape {w : World} {v l} (h : Spans w v l) : ∃ p cap, v = .slice p l.length cap ∧ l.length ≤ cap ∧ cap ≤ maxLen := by
  obtain ⟨p, cap, h1, h2, h3, _⟩ := Sl.shape h
  exact ⟨p, cap, h1, h2, h3⟩
theorem Spans.at {w : World} {xs : List Span} {p cap} (h : Spans w (.slice p xs.length cap) xs) {k : Nat} (hk : k < xs.length) :
    ∃ b off, p = some ⟨b, off, none⟩ ∧ b < w.heap.size ∧ w.cell? ⟨b, off + k*2, none⟩ = some (.int .i32 (spanAt xs k).1) ∧ w.cell? ⟨b, off + k*2 + 1, none⟩ = some (.int .i32 (spanAt xs k).2) := by
  obtain ⟨b, off, hp, hb, h⟩ := Sl.at h (by omega)
  have := spanCells_at xs k hk
  exact ⟨b, off, hp, hb, h _ _ this.1, by have := h _ _ this.2; rw [show off + (k*2+1) = off + k*2+1 by omega] at this; exact this⟩

end Go.Dm
namespace Go.Proofs.YthmhalcloogniaaGreatDoor
open Go.RowKit Go.Dm

set_option maxHeartbeats 400000 in
theorem among1_w (r a b : Int) (c o : Nat) (w : World) (hcl : c < w.heap.size) (hc : w.cell? ⟨c, o, none⟩ = some (.int .i32 r)) :
    Calls Tryz.prog 154 #[.agg #[.int .i32 a, .int .i32 b], .pointer (some ⟨c, o, none⟩)] w fun e w' => e = .returned (.bool (inSpan r (a, b))) ∧ Ext w w' := by
  go_enter Tryz.func154, Tryz.ntmps154
  go_wp2
  all_goals go_ret
  all_goals exact ⟨by first | (simp_all [inSpan]; done) | (simp_all [inSpan]; omega), (Below.refl _ _).alloc (Nat.le_refl _) _⟩

set_option maxHeartbeats 400000 in
theorem indexSpan_w (l : List Span) (r : Int) (q : Option Addr) (cap : Nat) (c o : Nat) (w : World) (hm : l.length ≤ 35184372088832)
    (hx : Spans w (.slice q l.length cap) l) (hcl : c < w.heap.size) (hc : w.cell? ⟨c, o, none⟩ = some (.int .i32 r)) :
    Calls Tryz.prog 167 #[.slice q l.length cap, .func (.func 154) #[] #[.pointer (some ⟨c, o, none⟩)]] w
      fun e w' => e = .returned (.int .i64 (placeI (firstP (inSpan r) l))) ∧ Ext w w' := by
  go_enter Tryz.func167, Tryz.ntmps167
  go_wp2
  go_loopw [4, 8] (fun z i wr => ∃ k : Nat, k ≤ l.length ∧ i = .int .i64 k ∧ z = .int .i64 0 ∧ Ext w wr ∧ Hid (∀ j, j < k → inSpan r (spanAt l j) = false)) (fun _ i _ => l.length - (intOf i).toNat)
  case atStart => exact ⟨0, by omega, rfl, rfl, Ext.refl w, fun j hj => by omega⟩
  case round =>
    obtain ⟨k, hk, rfl, rfl, hb, HN⟩ := hrel
    by_cases hlt : k < l.length
    · obtain ⟨b, off, rfl, hbl, c0, c1⟩ := (hx.ext hb).at hlt
      have hcl' : c < wr.heap.size := Nat.lt_of_lt_of_le hcl hb.size
      have hc' : wr.cell? ⟨c, o, none⟩ = some (.int .i32 r) := by rw [hb.cell (by exact hcl)]; exact hc
      go_wp2_with fail
      refine (among1_w r _ _ _ _ _ hcl' hc').mono ?_; rintro e w' ⟨rfl, hb1⟩
      cases ht : inSpan r (spanAt l k) with
      | true =>
        go_wp2
        go_ret
        refine ⟨?_, hb.trans hb1⟩
        rw [firstP_hit (0, 0) hlt HN.out ht]
        rfl
      | false =>
        go_wp2
        go_roundw
        case rel => exact ⟨k + 1, by omega, by go_num, rfl, hb.trans hb1, fun j hj => by
          rcases Nat.lt_succ_iff_lt_or_eq.1 hj with h | rfl
          · exact HN.out j h
          · exact ht⟩
        case measure => simp [intOf]; omega
    · go_wp2
      go_ret
      obtain rfl : k = l.length := by omega
      refine ⟨?_, hb⟩
      rw [firstP_miss (0, 0) HN.out]
      rfl

set_option maxHeartbeats 400000 in
theorem among_w (l : List Span) (r : Int) (v : Value) (w : World) (hm : l.length ≤ 35184372088832) (hx : Spans w v l) :
    Calls Tryz.prog 133 #[.int .i32 r, v] w fun e w' => e = .returned (.bool (l.any (inSpan r))) ∧ Ext w w' := by
  obtain ⟨q, cap, rfl, _, _⟩ := hx.shape
  have fin : Ext w (w.alloc (.cells #[.int .i32 r] 21)) := (Below.refl _ _).alloc (Nat.le_refl _) _
  have hx' := hx.ext fin
  have hA := firstP_any (inSpan r) l
  go_enter Tryz.func133, Tryz.ntmps133
  cases ha : l.any (inSpan r) with
  | true =>
    have h0 := hA.2 ha
    go_wp2_with (first | (go_at_call 167; refine (indexSpan_w l r q cap w.heap.size 0 _ hm hx' (by simp) (by simp)).mono ?_; rintro e w' ⟨rfl, hb1⟩) | go_in)
    go_ret
    exact ⟨rfl, fin.trans hb1⟩
  | false =>
    have h0 : ¬ (0 : Int) ≤ placeI (firstP (inSpan r) l) := fun h => by rw [hA.1 h] at ha; cases ha
    go_wp2_with (first | (go_at_call 167; refine (indexSpan_w l r q cap w.heap.size 0 _ hm hx' (by simp) (by simp)).mono ?_; rintro e w' ⟨rfl, hb1⟩) | go_in)
    go_ret
    exact ⟨rfl, fin.trans hb1⟩

/-- The package's tables lie as its text lays them. -/
def letters : List Span := [(97, 122), (945, 969), (1072, 1103)]
def marks : List Span := [(48, 57), (45, 45)]
structure Tabs (w : World) : Prop where
  letters : Spans w (.slice (some ⟨0, 0, none⟩) 3 3) letters
  marks : Spans w (.slice (some ⟨1, 0, none⟩) 2 2) marks

theorem Tabs.ext {w w' : World} (h : Tabs w) (hb : Ext w w') : Tabs w' := ⟨h.letters.ext hb, h.marks.ext hb⟩

theorem letters_any (r : Nat) : letters.any (inSpan r) = letterB r := by
  simp only [letters, List.any_cons, List.any_nil, inSpan, letterB, Bool.or_false, Bool.or_assoc]
  congr 1
  · congr 1 <;> exact decide_eq_decide.2 (by omega)
  · congr 1 <;> congr 1 <;> exact decide_eq_decide.2 (by omega)

theorem marks_any (r : Nat) : marks.any (inSpan r) = markB r := by
  simp only [marks, List.any_cons, List.any_nil, inSpan, markB, Bool.or_false]
  by_cases h : r = 45
  · subst h; decide
  · have : (r == 45) = false := by rw [beq_eq_false_iff_ne]; exact h
    rw [this, Bool.or_false]
    have : (decide ((45 : Int) ≤ r) && decide ((r : Int) ≤ 45)) = false := by
      rw [Bool.and_eq_false_iff, decide_eq_false_iff_not, decide_eq_false_iff_not]; omega
    rw [this, Bool.or_false]
    congr 1 <;> exact decide_eq_decide.2 (by omega)

set_option maxHeartbeats 400000 in
theorem count_w (s : ByteArray) (w : World) (hs : s.size < 9223372036854775807) :
    Calls Tryz.prog 134 #[.string s] w fun e w' => e = .returned (.int .i64 (countL s.data.toList)) ∧ Ext w w' := by
  go_enter Tryz.func134, Tryz.ntmps134
  go_wp2_with fail
  refine (Tryz.utf8_RuneCountInString s w hs).mono ?_; rintro e w' ⟨rfl, pos, rfl⟩
  rw [runeCount_eq]
  go_wp2
  go_ret
  exact ⟨rfl, (Ext.refl w).alloc _⟩

theorem iter_ext {w w' : World} {k p : Nat} {s : ByteArray} (h : Ext w w') (hit : w.heap[k]? = some (.stringIter s p)) : w'.heap[k]? = some (.stringIter s p) := by
  have hlt : k < w.heap.size := (Array.getElem?_eq_some_iff.1 hit).1
  rw [h.block _ hlt]; exact hit

theorem iterPos_of {w : World} {k p : Nat} {s : ByteArray} (hit : w.heap[k]? = some (.stringIter s p)) : w.iterPos k = p := by simp [World.iterPos, hit]

/-- A round of the loop over a name's runes. -/
theorem right_round {s : ByteArray} {pos : Nat} (hp : pos < s.size) (HK : okL true s.data.toList = okL (pos == 0) (s.data.toList.drop pos))
    (hr : (letterB (runeL (s.data.toList.drop pos)) || (!(pos == 0) && markB (runeL (s.data.toList.drop pos)))) = true) :
    pos + wideL (s.data.toList.drop pos) ≤ s.size ∧ okL true s.data.toList = okL (pos + wideL (s.data.toList.drop pos) == 0) (s.data.toList.drop (pos + wideL (s.data.toList.drop pos))) := by
  have hne : s.data.toList.drop pos ≠ [] := by rw [Ne, List.drop_eq_nil_iff, ← size_len]; omega
  have h1 := wideL_le hne
  have h2 := wideL_pos (s.data.toList.drop pos)
  rw [List.length_drop, ← size_len] at h1
  refine ⟨by omega, ?_⟩
  have h3 : (pos + wideL (s.data.toList.drop pos) == 0) = false := by rw [beq_eq_false_iff_ne]; omega
  rw [HK, okL_step _ hne, hr, h3, List.drop_drop, Bool.true_and]

theorem right_bad {s : ByteArray} {pos : Nat} (hp : pos < s.size) (HK : okL true s.data.toList = okL (pos == 0) (s.data.toList.drop pos))
    (hr : (letterB (runeL (s.data.toList.drop pos)) || (!(pos == 0) && markB (runeL (s.data.toList.drop pos)))) = false) : rightL s.data.toList = false := by
  have hne : s.data.toList.drop pos ≠ [] := by rw [Ne, List.drop_eq_nil_iff, ← size_len]; omega
  unfold rightL
  rw [HK, okL_step _ hne, hr]
  rfl

set_option maxHeartbeats 2000000 in
theorem right_w (s : ByteArray) (w : World) (hs : s.size < 9223372036854775807) (ht : Tabs w) :
    Calls Tryz.prog 107 #[.string s] w fun e w' => e = .returned (.bool (rightL s.data.toList)) ∧ Ext w w' := by
  go_enter Tryz.func107, Tryz.ntmps107
  go_wp2
  go_loopw [2] (fun _ wr => ∃ pos : Nat, Ext w wr ∧ wr.heap[w.heap.size]? = some (.stringIter s pos) ∧ pos ≤ s.size ∧ Hid (okL true s.data.toList = okL (pos == 0) (s.data.toList.drop pos))) (fun _ wr => s.size - wr.iterPos w.heap.size)
  case atStart => exact ⟨0, (Ext.refl w).alloc _, by simp [World.iter_heap], by omega, rfl⟩
  case round =>
    obtain ⟨pos, hb, hit, hps, HK⟩ := hrel
    by_cases hp : pos < s.size
    · have hnx : ∀ ty, (Instr.next (.pointer (some ⟨w.heap.size, 0, none⟩)) true ty).run Tryz.prog wr = _ := fun ty => Lib.run_next_any_at wr w.heap.size s pos ty hit hp
      have e1 : (Utf8.decode s pos).1 = runeL (s.data.toList.drop pos) := by rw [decode_eq]; rfl
      have e2 : (Utf8.decode s pos).2 = wideL (s.data.toList.drop pos) := by rw [decode_eq]; rfl
      rw [e1, e2] at hnx
      clear e1 e2
      have hb1 : Ext w (wr.iterAt w.heap.size s (pos + wideL (s.data.toList.drop pos))) := Lib.below_iterAt hb (Nat.le_refl _) s _
      have hit1 := Lib.iterAt_heap wr w.heap.size s pos (pos + wideL (s.data.toList.drop pos)) hit
      have HR := Lib.hid (right_round hp HK.out)
      have HB := Lib.hid (right_bad hp HK.out)
      have hw1 := wideL_pos (s.data.toList.drop pos)
      generalize runeL (s.data.toList.drop pos) = r at *
      generalize wideL (s.data.toList.drop pos) = n at *
      have CL := among_w letters r _ _ (by decide) (ht.letters.ext hb1)
      rw [letters_any] at CL
      have CM : ∀ U, Ext w U → _ := fun U hU => among_w marks r _ U (by decide) (ht.marks.ext hU)
      simp only [marks_any] at CM
      have CM := Lib.hid CM
      go_wp2_with fail
      refine CL.mono ?_; rintro e w1 ⟨rfl, hb2⟩
      have hit2 := iter_ext hb2 hit1
      cases hl : letterB r with
      | true =>
        rw [hl] at HR
        obtain ⟨h1, h2⟩ := HR.out (by simp)
        go_wp2
        go_roundw
        case rel => exact ⟨pos + n, hb1.trans hb2, hit2, h1, h2⟩
        case measure => rw [iterPos_of hit2, iterPos_of hit]; omega
      | false =>
        rw [hl] at HR HB
        by_cases h0 : pos = 0
        · subst h0
          have hB := HB.out (by simp)
          go_wp2
          go_ret
          exact ⟨by rw [hB]; rfl, hb1.trans hb2⟩
        · have h0b : (pos == 0) = false := by rw [beq_eq_false_iff_ne]; exact h0
          have h0c : ((pos : Int) == 0) = false := by rw [beq_eq_false_iff_ne]; omega
          rw [h0b] at HR HB
          go_wp2_with fail
          refine (CM.out w1 (hb1.trans hb2)).mono ?_; rintro e w2 ⟨rfl, hb3⟩
          have hit3 := iter_ext hb3 hit2
          cases hk : markB r with
          | true =>
            rw [hk] at HR
            obtain ⟨h1, h2⟩ := HR.out (by simp)
            go_wp2
            go_roundw
            case rel => exact ⟨pos + n, hb1.trans (hb2.trans hb3), hit3, h1, h2⟩
            case measure => rw [iterPos_of hit3, iterPos_of hit]; omega
          | false =>
            rw [hk] at HB
            have hB := HB.out (by simp)
            go_wp2
            go_ret
            exact ⟨by rw [hB]; rfl, hb1.trans (hb2.trans hb3)⟩
    · have hnx : ∀ ty, (Instr.next (.pointer (some ⟨w.heap.size, 0, none⟩)) true ty).run Tryz.prog wr = _ := fun ty => Lib.run_next_end_at wr w.heap.size s pos ty hit hp
      have hK : okL true s.data.toList = true := by
        rw [HK.out, List.drop_eq_nil_iff.2 (by rw [← size_len]; omega)]; rfl
      by_cases he : s = ⟨#[]⟩
      · subst he
        go_wp2
        go_ret
        exact ⟨rfl, hb⟩
      · have hne2 : s.data.toList.isEmpty = false := by
          rw [List.isEmpty_eq_false_iff]
          intro h
          apply he
          cases s
          simp at h
          rw [h]
        have hne : ¬ s.toList = [] := by
          rw [ByteArray.toList_eq]
          intro h
          rw [h] at hne2
          cases hne2
        go_wp2_with fail
        refine (count_w s wr hs).mono ?_; rintro e w2 ⟨rfl, hb3⟩
        have hd : decide ((countL s.data.toList : Int) ≤ 16) = decide (countL s.data.toList ≤ 16) := decide_eq_decide.2 (by omega)
        go_wp2
        go_ret
        refine ⟨?_, hb.trans hb3⟩
        show Ending.returned (Value.bool (!s.toList.isEmpty && decide (countL s.data.toList ≤ 16))) = _
        rw [ByteArray.toList_eq, rightL, hK]
        rfl

end Go.Proofs.YthmhalcloogniaaGreatDoor

namespace Go.Proofs.YthmhalcloogniaaGreatDoor
open Go.RowKit Go.Dm

theorem right_fit (s : ByteArray) (w : World) (hs : s.size ≤ 140737488351232) (ht : Tabs w) :
    Calls Tryz.prog 107 #[.string s] w fun e w' => e = .returned (.bool (rightL s.data.toList)) ∧ Ext w w' := right_w s w (by omega) ht

end Go.Proofs.YthmhalcloogniaaGreatDoor

namespace Go.Dm
open Go Go.RowKit

end Go.Dm
namespace Go.Proofs.YthmhalcloogniaaGreatDoor
open Go.RowKit Go.Dm

end Go.Proofs.YthmhalcloogniaaGreatDoor

namespace Go.Dm
open Go Go.RowKit
def textB (t : ByteArray) : ByteArray := ⟨(putT t.data.toList).toArray⟩
/-- A name has at most 32 bytes. -/
theorem okL_len : ∀ (n : Nat) (b : Bool) (l : Bs), l.length ≤ n → okL b l = true → l.length ≤ 2 * countL l := by
  intro n
  induction n with
  | zero => intro b l hl _; omega
  | succ n ih =>
    intro b l hl hok
    by_cases h : l = []
    · subst h; simp
    · rw [okL_step b h, Bool.and_eq_true] at hok
      have hw := wideL_pos l
      have h2 := ih false (l.drop (wideL l)) (by rw [List.length_drop]; omega) hok.2
      rw [List.length_drop] at h2
      have hle := wideL_le h
      have hw2 : wideL l ≤ 2 := by
        have hlm := (letterB_plain (r := runeL l) (by have := hok.1; cases b <;> simp_all)).2
        unfold wideL runeL decL at *
        repeat' split
        all_goals first
          | (simp only; omega)
          | skip
        all_goals simp_all
        all_goals omega
      rw [countL_step h]; omega
theorem right_len {l : Bs} (h : rightL l = true) : l.length ≤ 32 := by
  unfold rightL at h
  simp only [Bool.and_eq_true, decide_eq_true_eq] at h
  have := okL_len l.length true l (Nat.le_refl _) h.1.1
  omega
end Go.Dm
namespace Go.Proofs.YthmhalcloogniaaGreatDoor
open Go.RowKit Go.Dm

end Go.Proofs.YthmhalcloogniaaGreatDoor

namespace Go.Proofs.YthmhalcloogniaaGreatDoor
open Go.RowKit Go.Dm

/-- What the walks know of the package-level variables. -/
structure Vars (w : World) : Prop where
  tabs : Tabs w
  most : ∃ m, w.cell? ⟨4, 0, none⟩ = some (.int .i64 m)

theorem Vars.ext {w w' : World} (h : Vars w) (hb : Ext w w') : Vars w' := by
  refine ⟨h.tabs.ext hb, ?_⟩
  obtain ⟨m, hm⟩ := h.most
  exact ⟨m, by rw [hb.cell (by exact World.block_lt_of_cell? _ _ hm)]; exact hm⟩

end Go.Proofs.YthmhalcloogniaaGreatDoor

namespace Go.Dm
open Go Go.RowKit

end Go.Dm
namespace Go.Proofs.YthmhalcloogniaaGreatDoor
open Go.RowKit Go.Dm

end Go.Proofs.YthmhalcloogniaaGreatDoor

namespace Go.Dm
open Go Go.RowKit

/-- A term: its key, whether it is turned, its values. -/
abbrev TermS := ByteArray × Bool × List ByteArray
/-- A term as it lies in a slice: its values are a slice of their own. -/
abbrev RowS := ByteArray × Bool × Value × List ByteArray
def rowT (r : RowS) : TermS := (r.1, r.2.1, r.2.2.2)
def noRow : RowS := (⟨#[]⟩, false, .slice none 0 0, [])
def sAtR (R : List RowS) (k : Nat) : RowS := R.getD k noRow
def rowOne (r : RowS) : List Value := [.string r.1, .bool r.2.1, r.2.2.1]
def rowCells (R : List RowS) : List Value := R.flatMap rowOne
theorem rowCells_len (R : List RowS) : (rowCells R).length = R.length * 3 := by
  induction R with
  | nil => rfl
  | cons x xs ih => simp only [rowCells, rowOne, List.flatMap_cons, List.length_append, List.length_cons, List.length_nil] at *; omega
theorem rowCells_app (a b : List RowS) : rowCells (a ++ b) = rowCells a ++ rowCells b := by simp [rowCells]
theorem rowCells_at : ∀ (xs : List RowS) (k : Nat), k < xs.length → (rowCells xs)[k*3]? = some (.string (sAtR xs k).1) ∧ (rowCells xs)[k*3+1]? = some (.bool (sAtR xs k).2.1) ∧ (rowCells xs)[k*3+2]? = some (sAtR xs k).2.2.1
  | x :: xs, 0, _ => by simp [rowCells, rowOne, sAtR]
  | x :: xs, k+1, h => by
    have := rowCells_at xs k (by simpa using h)
    have e : (k+1)*3 = k*3+1+1+1 := by omega
    have e2 : (k+1)*3+1 = k*3+1+1+1+1 := by omega
    have e3 : (k+1)*3+2 = k*3+2+1+1+1 := by omega
    rw [e2, e3, e]
    simp only [rowCells, rowOne, sAtR, List.flatMap_cons, List.cons_append, List.nil_append, List.getElem?_cons_succ, List.getD_cons_succ]
    exact this
theorem sAtR_mem {l : List RowS} {k : Nat} (h : k < l.length) : sAtR l k ∈ l := by
  simp only [sAtR, List.getD_eq_getElem?_getD, List.getElem?_eq_getElem h, Option.getD_some]
  exact List.getElem_mem h
theorem take_snocT {l : List RowS} {k : Nat} (hk : k < l.length) : l.take (k + 1) = l.take k ++ [sAtR l k] := by
  rw [List.take_succ_eq_append_getElem hk]
  simp [hk, sAtR]

/-- A slice value reads as these terms. -/
structure Terms (w : World) (v : Value) (R : List RowS) : Prop where
  sl : Sl w 3 v R.length (rowCells R)
  vals : ∀ r ∈ R, Strs w r.2.2.1 r.2.2.2
theorem Terms.ext {w w' : World} {v R} (h : Terms w v R) (hb : Ext w w') : Terms w' v R := ⟨h.sl.ext hb, fun r hr => (h.vals r hr).ext hb⟩
theorem Terms.nil (w : World) : Terms w (.slice none 0 0) [] := ⟨Sl.nil w 3, fun r hr => by cases hr⟩
theorem Terms.shape {w : World} {v R} (h : Terms w v R) : ∃ p cap, v = .slice p R.length cap ∧ R.length ≤ cap ∧ cap ≤ maxLen := by
  obtain ⟨p, cap, h1, h2, h3, _⟩ := Sl.shape h.sl
  exact ⟨p, cap, h1, h2, h3⟩
theorem Terms.at {w : World} {xs : List RowS} {p cap} (h : Terms w (.slice p xs.length cap) xs) {k : Nat} (hk : k < xs.length) :
    ∃ b off, p = some ⟨b, off, none⟩ ∧ b < w.heap.size ∧ w.cell? ⟨b, off + k*3, none⟩ = some (.string (sAtR xs k).1) ∧ w.cell? ⟨b, off + k*3 + 1, none⟩ = some (.bool (sAtR xs k).2.1) ∧ w.cell? ⟨b, off + k*3 + 2, none⟩ = some (sAtR xs k).2.2.1 := by
  obtain ⟨b, off, hp, hb, h⟩ := Sl.at h.sl (by omega)
  have := rowCells_at xs k hk
  exact ⟨b, off, hp, hb, h _ _ this.1, by have := h _ _ this.2.1; rw [show off + (k*3+1) = off + k*3+1 by omega] at this; exact this, by have := h _ _ this.2.2; rw [show off + (k*3+2) = off + k*3+2 by omega] at this; exact this⟩
theorem Terms.val {w : World} {xs : List RowS} {v} (h : Terms w v xs) {k : Nat} (hk : k < xs.length) : Strs w (sAtR xs k).2.2.1 (sAtR xs k).2.2.2 := h.vals _ (sAtR_mem hk)
theorem Terms.of_row {w : World} {B e : Nat} {v : Value} {n : Nat} {l : List RowS} (h : w.ownsRow B e 3 v n (rowCells l)) (hn : n = l.length) (hv : ∀ r ∈ l, Strs w r.2.2.1 r.2.2.2) : Terms w v l := by
  subst hn
  exact ⟨Sl.of_owns h, hv⟩
theorem Strs.one {w : World} {v : Value} {ss} (h : Strs w v ss) : v.oneCell' = true := by
  obtain ⟨p, cap, rfl, _⟩ := h.shape
  rfl

/-- A term's texts are of a size that a run can hold. -/
def FitT (t : TermS) : Prop := t.1.size ≤ 140737488351232 ∧ t.2.2.length ≤ 35184372088832 ∧ ∀ x ∈ t.2.2, x.size ≤ 140737488351232

end Go.Dm

namespace Go.Proofs.YthmhalcloogniaaGreatDoor
open Go.RowKit Go.Dm

set_option maxHeartbeats 400000 in
theorem rule_w (key : ByteArray) (no : Bool) (vals : List ByteArray) (v : Value) (w : World) (hx : Strs w v vals) :
    Calls Tryz.prog 128 #[.agg #[.string key, .bool no, v]] w fun e w' => e = .returned (if vals.isEmpty then .iface 191 (.agg #[]) else .iface 167 v) ∧ Ext w w' := by
  obtain ⟨q, cap, rfl, _, _⟩ := hx.shape
  cases vals with
  | nil =>
    go_enter Tryz.func128, Tryz.ntmps128
    go_wp2
    go_ret
    exact ⟨rfl, (Ext.refl _).alloc _⟩
  | cons a vals =>
    generalize hn : (a :: vals).length = n
    have hn0 : ((n : Int) == 0) = false := by rw [beq_eq_false_iff_ne]; simp at hn; omega
    clear hx
    go_enter Tryz.func128, Tryz.ntmps128
    go_wp2
    go_ret
    exact ⟨rfl, (Ext.refl _).alloc _⟩

end Go.Proofs.YthmhalcloogniaaGreatDoor

namespace Go.Proofs.YthmhalcloogniaaGreatDoor
open Go.RowKit Go.Dm

end Go.Proofs.YthmhalcloogniaaGreatDoor

namespace Go.Dm
open Go Go.RowKit

/-- A byte that stands in no name. -/
def NoName (c : UInt8) : Prop := (letterB c.toNat || markB c.toNat) = false ∧ c.toNat < 128

theorem okL_step_no {c : UInt8} (hc : NoName c) {b : Bool} {l : Bs} (h : l ≠ []) (hr : (letterB (runeL l) || (!b && markB (runeL l))) = true) : c ∉ l.take (wideL l) := by
  have hlm : (letterB (runeL l) || markB (runeL l)) = true := by cases b <;> simp_all
  obtain ⟨hne, hlt⟩ := letterB_plain hlm
  obtain ⟨hc1, hc2⟩ := hc
  unfold wideL runeL decL at *
  obtain ⟨a, t, rfl, ha⟩ := head_bAt h
  split
  · rename_i h0
    rw [if_pos h0] at hlm
    simp only at hlm
    intro hm
    simp at hm
    subst hm
    rw [ha] at hlm
    rw [hlm] at hc1
    cases hc1
  · rename_i h0
    rw [if_neg h0] at hne hlt
    split
    · rename_i h1
      rw [if_pos h1] at hne hlt
      simp only [Bool.and_eq_true, beq_iff_eq] at h1
      split
      · rename_i h2
        rw [if_pos h2] at hne hlt
        have hcb := contB_lt h1.2
        cases t with
        | nil => simp at hcb
        | cons d t =>
          intro hm
          simp at hm
          have hcc : d.toNat / 64 = 2 := by
            have := h1.2
            simp only [contB, Bool.and_eq_true, beq_iff_eq] at this
            exact this.2
          rcases hm with rfl | rfl
          · rw [ha] at h0; exact h0 (by first | exact decide_eq_true hc2 | exact hc2)
          · omega
      · rename_i h2
        rw [if_neg h2] at hlt
        simp only at hlt; omega
    · rename_i h1
      rw [if_neg h1] at hlt
      split
      · rename_i h3
        rw [if_pos h3] at hlt
        split
        · rename_i h4
          rw [if_pos h4] at hlt
          simp only [Bool.and_eq_true, decide_eq_true_eq] at h4
          simp only at hlt; omega
        · rename_i h4
          rw [if_neg h4] at hlt
          simp only at hlt; omega
      · rename_i h3
        rw [if_neg h3] at hlt
        split
        · rename_i h5
          rw [if_pos h5] at hlt
          split
          · rename_i h6
            rw [if_pos h6] at hlt
            simp only [Bool.and_eq_true, decide_eq_true_eq] at h6
            simp only at hlt; omega
          · rename_i h6
            rw [if_neg h6] at hlt
            simp only at hlt; omega
        · rename_i h5
          rw [if_neg h5] at hlt
          simp only at hlt; omega

theorem okL_no {c : UInt8} (hc : NoName c) : ∀ (n : Nat) (b : Bool) (l : Bs), l.length ≤ n → okL b l = true → c ∉ l := by
  intro n
  induction n with
  | zero =>
    intro b l hl _
    have : l = [] := List.length_eq_zero_iff.1 (by omega)
    subst this
    simp
  | succ n ih =>
    intro b l hl hok
    by_cases h : l = []
    · subst h; simp
    · rw [okL_step b h, Bool.and_eq_true] at hok
      have h1 := okL_step_no hc h hok.1
      have hw := wideL_pos l
      have h2 := ih false (l.drop (wideL l)) (by rw [List.length_drop]; omega) hok.2
      rw [← List.take_append_drop (wideL l) l, List.mem_append]
      rintro (h' | h')
      · exact h1 h'
      · exact h2 h'

theorem right_no {c : UInt8} (hc : NoName c) {l : Bs} (h : rightL l = true) : c ∉ l := by
  unfold rightL at h
  simp only [Bool.and_eq_true] at h
  exact okL_no hc _ true l (Nat.le_refl _) h.1.1
theorem no_comma {l : Bs} (h : rightL l = true) : (44 : UInt8) ∉ l := right_no ⟨by decide, by decide⟩ h
theorem no_is {l : Bs} (h : rightL l = true) : (61 : UInt8) ∉ l := right_no ⟨by decide, by decide⟩ h
theorem no_not {l : Bs} (h : rightL l = true) : (33 : UInt8) ∉ l := right_no ⟨by decide, by decide⟩ h
theorem no_bar {l : Bs} (h : rightL l = true) : (124 : UInt8) ∉ l := right_no ⟨by decide, by decide⟩ h

theorem join_len {c : UInt8} {n : Nat} : ∀ {xs : List Bs}, (∀ x ∈ xs, x.length ≤ n) → (Lib.join xs [c]).length ≤ (n + 1) * xs.length
  | [], _ => by simp [Lib.join]
  | [p], h => by
    have := h p (by simp)
    rw [Lib.join_one]; simp only [List.length_cons, List.length_nil]; omega
  | p :: q :: ns, h => by
    have : Lib.join (p :: q :: ns) [c] = p ++ c :: Lib.join (q :: ns) [c] := by simp [Lib.join_cons, Lib.joinTail]
    have h1 := h p (by simp)
    have ih := join_len (c := c) (xs := q :: ns) (fun x hx => h x (List.mem_cons_of_mem _ hx))
    rw [this, List.length_append, List.length_cons, List.length_cons, Nat.mul_add]; omega
end Go.Dm

namespace Go.Dm
open Go Go.RowKit

def bS (s : ByteArray) : Bs := s.data.toList
/-- May the value at a place stand there? -/
def okVal (vs : List ByteArray) (k : Nat) : Bool := rightL (bS (strAt vs k)) && (k == 0 || !leB (bS (strAt vs k)) (bS (strAt vs (k - 1))))
/-- P5.1: may a term be? -/
def rightT (t : TermS) : Bool := (List.range t.2.2.length).all (okVal t.2.2) && (rightL (bS t.1) && decide (t.2.2.length ≤ 4))
/-- P5.1: may a selector be? -/
def rightS (T : List TermS) : Bool := decide (T.length ≤ 4) && T.all rightT

theorem rightT_bad {t : TermS} {k : Nat} (hk : k < t.2.2.length) (h : okVal t.2.2 k = false) : rightT t = false := by
  unfold rightT
  rw [Bool.and_eq_false_iff]
  left
  rw [List.all_eq_false]
  exact ⟨k, List.mem_range.2 hk, by rw [h]; simp⟩
theorem rightT_all {t : TermS} (h : ∀ k, k < t.2.2.length → okVal t.2.2 k = true) : rightT t = (rightL (bS t.1) && decide (t.2.2.length ≤ 4)) := by
  unfold rightT
  rw [List.all_eq_true.2 (fun k hk => h k (List.mem_range.1 hk)), Bool.true_and]
theorem rightT_iff {t : TermS} : rightT t = true ↔ (∀ k, k < t.2.2.length → okVal t.2.2 k = true) ∧ rightL (bS t.1) = true ∧ t.2.2.length ≤ 4 := by
  unfold rightT
  rw [Bool.and_eq_true, Bool.and_eq_true, decide_eq_true_eq, List.all_eq_true]
  exact ⟨fun h => ⟨fun k hk => h.1 k (List.mem_range.2 hk), h.2⟩, fun h => ⟨fun k hk => h.1 k (List.mem_range.1 hk), h.2⟩⟩
theorem rightS_iff {T : List TermS} : rightS T = true ↔ T.length ≤ 4 ∧ ∀ t ∈ T, rightT t = true := by
  unfold rightS
  rw [Bool.and_eq_true, decide_eq_true_eq, List.all_eq_true]
theorem rightT_val {t : TermS} (h : rightT t = true) : ∀ x ∈ t.2.2, rightL (bS x) = true := by
  intro x hx
  obtain ⟨k, hk, rfl⟩ := List.getElem_of_mem hx
  have := (rightT_iff.1 h).1 k hk
  unfold okVal at this
  rw [Bool.and_eq_true] at this
  have e : strAt t.2.2 k = t.2.2[k] := by simp [strAt, hk]
  rw [e] at this
  exact this.1
theorem rightT_sizes {t : TermS} (h : rightT t = true) : t.1.size ≤ 32 ∧ t.2.2.length ≤ 4 ∧ ∀ x ∈ t.2.2, x.size ≤ 32 := by
  refine ⟨right_len (rightT_iff.1 h).2.1, (rightT_iff.1 h).2.2, fun x hx => right_len (rightT_val h x hx)⟩

/-- P5.3: a term, a selector as bytes. -/
def numT (t : TermS) : Nat := 2 * t.2.2.length + (if t.2.1 then 1 else 0)
def putVals (vs : List ByteArray) : Bs := vs.flatMap fun x => putT (bS x)
def putTm (t : TermS) : Bs := (putT (bS t.1) ++ putL (numT t)) ++ putVals t.2.2
def putTms (T : List TermS) : Bs := T.flatMap putTm
def putS (T : List TermS) : Bs := if rightS T then putL T.length ++ putTms T else []
/-- P5.4: a term, a selector as it is read. -/
def joinB (vs : List ByteArray) (c : UInt8) : Bs := Lib.join (vs.map (·.data.toList)) [c]
def textTm (t : TermS) : Bs := if t.2.2.isEmpty then (if t.2.1 then 33 :: bS t.1 else bS t.1) else if t.2.1 then bS t.1 ++ 33 :: 61 :: joinB t.2.2 124 else bS t.1 ++ 61 :: joinB t.2.2 124
def textS (T : List TermS) : Bs := if rightS T then (if T.isEmpty then [45] else Lib.join (T.map textTm) [44]) else [63]

theorem putVals_step {vs : List ByteArray} {k : Nat} (hk : k < vs.length) : putVals (vs.take (k + 1)) = putVals (vs.take k) ++ putT (bS (strAt vs k)) := by
  rw [List.take_succ_eq_append_getElem hk, putVals, List.flatMap_append]
  simp [putVals, strAt, hk]
theorem rowT_take {R : List RowS} {k : Nat} (hk : k < R.length) : (R.take (k + 1)).map rowT = (R.take k).map rowT ++ [rowT (sAtR R k)] := by
  rw [take_snocT hk, List.map_append]; rfl
theorem putTms_step {T : List TermS} {t : TermS} : putTms (T ++ [t]) = putTms T ++ putTm t := by simp [putTms]
end Go.Dm

namespace Go.Dm
open Go Go.RowKit
theorem allR_hit {R : List RowS} {k : Nat} (hk : k < R.length) (h : rightT (rowT (sAtR R k)) = false) : (R.map rowT).all rightT = false := by
  rw [List.all_eq_false]
  exact ⟨_, List.mem_map_of_mem (sAtR_mem hk), by rw [h]; simp⟩
theorem allR_miss {R : List RowS} (h : ∀ k, k < R.length → rightT (rowT (sAtR R k)) = true) : (R.map rowT).all rightT = true := by
  rw [List.all_eq_true]
  intro t ht
  obtain ⟨r, hr, rfl⟩ := List.mem_map.1 ht
  obtain ⟨k, hk, rfl⟩ := List.getElem_of_mem hr
  have := h k hk
  have e : sAtR R k = R[k] := by simp [sAtR, hk]
  rwa [e] at this
def FitR (R : List RowS) : Prop := ∀ r ∈ R, FitT (rowT r)
end Go.Dm
namespace Go.Proofs.YthmhalcloogniaaGreatDoor
open Go.RowKit Go.Dm

end Go.Proofs.YthmhalcloogniaaGreatDoor

namespace Go.Dm
open Go Go.RowKit

/-- P5.4: a term of a text. -/
def termL (x : Bs) : Bs × Bool × List Bs :=
  if x.head? = some 33 then (x.drop 1, true, [])
  else if (cutC 61 x).2.2 = false then (x, false, [])
  else if (cutC 61 x).1.getLast? = some 33 then ((cutC 61 x).1.dropLast, true, splitC 124 (cutC 61 x).2.1)
  else ((cutC 61 x).1, false, splitC 124 (cutC 61 x).2.1)
def mkT (t : Bs × Bool × List Bs) : TermS := (⟨t.1.toArray⟩, t.2.1, t.2.2.map fun x => ⟨x.toArray⟩)
/-- P5.4: the terms of a text, a selector of a text. -/
def termsL (t : Bs) : List TermS := (splitC 44 t).map fun x => mkT (termL x)
def parseS (t : Bs) : List TermS × Bool := if t = [45] then ([], true) else if rightS (termsL t) = true ∧ textS (termsL t) = t then (termsL t, true) else ([], false)

theorem parseS_bad {t : Bs} (h : t ≠ [45]) (hr : rightS (termsL t) = false) : parseS t = ([], false) := by
  unfold parseS; rw [if_neg h, hr, if_neg (by simp)]
theorem parseS_other {t : Bs} (h : t ≠ [45]) (hr : textS (termsL t) ≠ t) : parseS t = ([], false) := by
  unfold parseS; rw [if_neg h, if_neg (fun h' => hr h'.2)]
theorem parseS_good {t : Bs} (h : t ≠ [45]) (hr : rightS (termsL t) = true) (ht : textS (termsL t) = t) : parseS t = (termsL t, true) := by
  unfold parseS; rw [if_neg h, if_pos ⟨hr, ht⟩]

def pre33 (x : ByteArray) : Bool := x.data.toList.head? == some 33
def suf33 (x : ByteArray) : Bool := x.data.toList.getLast? == some 33
theorem pre33_short {x : ByteArray} (h : x.size = 0) : pre33 x = false := by
  rw [size_len] at h
  unfold pre33
  rw [List.length_eq_zero_iff.1 h]; rfl
theorem suf33_short {x : ByteArray} (h : x.size = 0) : suf33 x = false := by
  rw [size_len] at h
  unfold suf33
  rw [List.length_eq_zero_iff.1 h]; rfl
theorem pre33_at {x : ByteArray} (h : 1 ≤ x.size) : ((x.extract 0 1).toList == [33]) = pre33 x := by
  rw [size_len] at h
  rw [ByteArray.toList_eq, Lib.extract_data]
  unfold pre33
  cases hx : x.data.toList with
  | nil => rw [hx] at h; simp at h
  | cons a l => simp
theorem suf33_at {x : ByteArray} (h : 1 ≤ x.size) : ((x.extract (x.size - 1) x.size).toList == [33]) = suf33 x := by
  rw [ByteArray.toList_eq, Lib.extract_data]
  rw [size_len] at *
  unfold suf33
  obtain ⟨l, a, e⟩ : ∃ l a, x.data.toList = l ++ [a] := ⟨_, _, (List.dropLast_concat_getLast (l := x.data.toList) (fun e => by rw [e] at h; simp at h)).symm⟩
  rw [e]
  simp
theorem mk_drop {x : ByteArray} : x.extract 1 x.size = ⟨(x.data.toList.drop 1).toArray⟩ := by
  refine mk_bytes ?_
  rw [Lib.extract_to_end]
theorem mk_dropLast {x : ByteArray} : x.extract 0 (x.size - 1) = ⟨x.data.toList.dropLast.toArray⟩ := by
  refine mk_bytes ?_
  rw [Lib.extract_data, size_len, List.dropLast_eq_take]
  rfl
theorem termL_pre {x : ByteArray} (h : pre33 x = true) : mkT (termL x.data.toList) = (⟨(x.data.toList.drop 1).toArray⟩, true, []) := by
  unfold termL
  rw [if_pos (by simpa [pre33] using h)]; rfl
theorem termL_bare {x : ByteArray} (h : pre33 x = false) (hc : (cutC 61 x.data.toList).2.2 = false) : mkT (termL x.data.toList) = (x, false, []) := by
  unfold termL
  rw [if_neg (by simpa [pre33] using h), if_pos hc]
  show ((⟨x.data.toList.toArray⟩ : ByteArray), false, ([] : List ByteArray)) = _
  rw [Array.toArray_toList]
theorem termL_vals {x k : ByteArray} {vs : List ByteArray} (h : pre33 x = false) (hc : (cutC 61 x.data.toList).2.2 = true) (hk : k.data.toList = (cutC 61 x.data.toList).1) (hv : bytesOf vs = splitC 124 (cutC 61 x.data.toList).2.1) :
    mkT (termL x.data.toList) = (if suf33 k then ⟨k.data.toList.dropLast.toArray⟩ else k, suf33 k, vs) := by
  have hvs : (splitC 124 (cutC 61 x.data.toList).2.1).map (fun x => (⟨x.toArray⟩ : ByteArray)) = vs := by
    rw [← hv, bytesOf, List.map_map]
    conv => rhs; rw [← List.map_id vs]
    exact List.map_congr_left fun y _ => by show (⟨y.data.toList.toArray⟩ : ByteArray) = y; rw [Array.toArray_toList]
  unfold termL
  rw [if_neg (by simpa [pre33] using h), if_neg (by rw [hc]; simp), ← hk]
  cases hs : suf33 k with
  | true =>
    rw [if_pos (by simpa [suf33] using hs), if_pos rfl]
    simp only [mkT, hvs]
  | false =>
    rw [if_neg (by simpa [suf33] using hs), if_neg (by simp)]
    simp only [mkT, hvs]
end Go.Dm

namespace Go.Dm
open Go Go.RowKit

/-- No block in common. -/
def Apart (u v : Value) : Prop := ∀ b, u.ownBlock = some b → v.ownBlock ≠ some b

theorem Sl.grown {w w' : World} {row : Option Nat} {sz n : Nat} {v : Value} {cs : List Value} (h : Sl w sz v n cs) (hg : w.grownBy w' row) (ha : n = 0 ∨ ∀ b, v.ownBlock = some b → row ≠ some b) : Sl w' sz v n cs := by
  obtain ⟨hl, p, cap, hv, hn, hm, hz, h⟩ := h
  refine ⟨hl, p, cap, hv, hn, hm, hz, ?_⟩
  rcases h with h | ⟨b, off, hp, hlt, h⟩
  · exact Or.inl h
  rcases ha with ha | ha
  · exact Or.inl ha
  subst hv hp
  have hne := ha b rfl
  exact Or.inr ⟨b, off, rfl, Nat.lt_of_lt_of_le hlt hg.size, fun j u hj => hg.cell (h j u hj) (fun e => hne e.symm)⟩
theorem Sl.own_lt {w : World} {sz n b : Nat} {v : Value} {cs : List Value} (h : Sl w sz v n cs) (h0 : n ≠ 0) (hb : v.ownBlock = some b) : b < w.heap.size := by
  obtain ⟨_, p, cap, hv, _, _, _, h⟩ := h
  rcases h with h | ⟨b', off, hp, hlt, _⟩
  · exact absurd h h0
  · subst hv hp
    simp only [Value.ownBlock, Option.some.injEq] at hb
    omega

/-- A selector's rows, and its values, lie in blocks of the call's own. -/
def OwnT (B : Nat) (v : Value) (R : List RowS) : Prop := (∀ c, v.ownBlock = some c → B ≤ c) ∧ ∀ x ∈ R, ∀ c, x.2.2.1.ownBlock = some c → B ≤ c
theorem OwnT.nil (B : Nat) : OwnT B (.slice none 0 0) [] := ⟨(fun c h => by cases h), fun x hx => by cases hx⟩
/-- What writes a block that is none of these leaves the selector. -/
theorem Terms.set {w : World} {v : Value} {R : List RowS} {B : Nat} (h : Terms w v R) (ho : OwnT B v R) {b i : Nat} (hb : b < B) (u : Value) : Terms (w.setCell ⟨b, i, none⟩ u) v R := by
  have hg : ∀ {sz n : Nat} {x : Value} {cs : List Value}, Sl w sz x n cs → (∀ c, x.ownBlock = some c → B ≤ c) → Sl (w.setCell ⟨b, i, none⟩ u) sz x n cs := fun {sz n x cs} hx hown => by
    obtain ⟨hl, p, cap, hv, hn, hm, hz, h⟩ := hx
    refine ⟨hl, p, cap, hv, hn, hm, hz, ?_⟩
    rcases h with h | ⟨c, off, hp, hlt, h⟩
    · exact Or.inl h
    · subst hv hp
      have hc := hown c rfl
      refine Or.inr ⟨c, off, rfl, by rw [World.size_setCell]; exact hlt, fun j y hj => ?_⟩
      have hne : (⟨b, i, none⟩ : Addr) ≠ ⟨c, off + j, none⟩ := fun e => by injection e with e _; omega
      rw [World.cell?_setCell_other (h := hne)]
      exact h j y hj
  exact ⟨hg h.1 ho.1, fun r hr => hg (h.2 r hr) (ho.2 r hr)⟩
/-- A row of terms of the call's own. -/
structure TRow (e : TypeId) (B : Nat) (w : World) (v : Value) (n : Nat) (R : List RowS) : Prop where
  row : w.ownsRow B e 3 v n (rowCells R)
  vals : ∀ r ∈ R, Strs w r.2.2.1 r.2.2.2 ∧ (r.2.2.2 = [] ∨ Apart r.2.2.1 v)
theorem TRow.nil (e : TypeId) (B : Nat) (w : World) : TRow e B w (.slice none 0 0) 0 [] := ⟨World.ownsRow_nil _ _ _ _, fun r hr => by cases hr⟩
theorem TRow.ext {e B : Nat} {w w' : World} {v : Value} {n : Nat} {R : List RowS} (h : TRow e B w v n R) (hx : Ext w w') : TRow e B w' v n R :=
  ⟨Ext.row h.row hx, fun r hr => ⟨(h.vals r hr).1.ext hx, (h.vals r hr).2⟩⟩
theorem TRow.terms {e B : Nat} {w : World} {v : Value} {n : Nat} {R : List RowS} (h : TRow e B w v n R) (hn : n = R.length) : Terms w v R := Terms.of_row h.row hn (fun r hr => (h.vals r hr).1)
theorem TRow.lt {e B : Nat} {w : World} {v : Value} {n : Nat} {R : List RowS} (h : TRow e B w v n R) {b : Nat} (hb : v.ownBlock = some b) : B ≤ b ∧ b < w.heap.size := World.ownsRow.lt h.row b hb
/-- What was made since is apart. -/
theorem TRow.apart_new {e B : Nat} {w : World} {v u : Value} {n : Nat} {R : List RowS} (h : TRow e B w v n R) (hu : ∀ b, u.ownBlock = some b → w.heap.size ≤ b) : Apart u v := fun b hb hv => by
  have := (h.lt hv).2
  have := hu b hb
  omega
/-- What was there before is apart. -/
theorem TRow.apart_old {e B : Nat} {w : World} {v u : Value} {n : Nat} {R : List RowS} (h : TRow e B w v n R) (hu : ∀ b, u.ownBlock = some b → b < B) : Apart u v := fun b hb hv => by
  have := (h.lt hv).1
  have := hu b hb
  omega

/-- Other blocks than the row's, and than its values', were written. -/
theorem TRow.grown {e B : Nat} {w w' : World} {v : Value} {n : Nat} {R : List RowS} {q : Option Nat} (h : TRow e B w v n R) (hv : ∀ r ∈ R, ∀ c, r.2.2.1.ownBlock = some c → B ≤ c) (hg : w.grownBy w' q) (hq : ∀ c, q = some c → c < B) : TRow e B w' v n R := by
  refine ⟨?_, fun r hr => ⟨Sl.grown (h.vals r hr).1 hg (Or.inr fun b hb hqb => ?_), (h.vals r hr).2⟩⟩
  · obtain ⟨hl, h⟩ := h.row
    refine ⟨hl, ?_⟩
    rcases h with h | ⟨g, cap, cur, hv, hb, hgg, r⟩
    · exact Or.inl h
    · exact Or.inr ⟨g, cap, cur, hv, hb, by rw [hg.block g (Array.getElem?_eq_some_iff.1 hgg).1 (fun e => by have := hq g e.symm; omega)]; exact hgg, r⟩
  · have := hv r hr b hb
    have := hq b hqb
    omega
/-- `append` of one term to a row of the call's own. -/
theorem wpList_appG {P : Program} {w : World} {B : Nat} {ops : Array Oper} {rest : List Oper} {o : Oper} {a : Act} {Q : Exit → Act → World → Prop} (hgd : o.guard = none) (s x : Operand) {t e : TypeId} {bytes : Nat} (T : SlT P t e 3 bytes)
    (ho : o.op = .call { callee := .builtin .append, args := #[s, x], argTypes := #[t, t] }) (hw : B ≤ w.heap.size)
    {v : Value} {n : Nat} {R : List RowS} (hs : a.eval s = v) (hT : TRow e B w v n R)
    {u : Value} {r : RowS} (hu : a.eval x = u) (hx : Sl w 3 u 1 (rowOne r)) (hv : Strs w r.2.2.1 r.2.2.2) (hap : r.2.2.2 = [] ∨ Apart r.2.2.1 v)
    (hbytes : (n + 1) * bytes ≤ 140737488355328)
    (h : ∀ v' w', TRow e B w' v' (n + 1) (R ++ [r]) → w.grownBy w' v.ownBlock → wpList P ops Q rest (a.put o.dst v') w') : wpList P ops Q (o :: rest) a w := by
  obtain ⟨i, z, hi, hz, h2, h3, h4⟩ := T.info
  obtain ⟨hl, p, cap, rfl, hnc, hm, hpn, hc⟩ := hx
  obtain ⟨b, off, rfl, hlt, hc⟩ := hc.resolve_left (by omega)
  have hcells : ∀ j u, (rowOne r)[j]? = some u → w.cell? ((⟨b, off, none⟩ : Addr).add j) = some u := by
    intro j u hj
    have := hc j u hj
    unfold Addr.add
    split
    · rename_i h0; subst h0; simpa using this
    · exact this
  have h1 : ∀ u ∈ rowOne r, u.oneCell' = true := by
    intro u hu
    simp only [rowOne, List.mem_cons, List.not_mem_nil, or_false] at hu
    rcases hu with rfl | rfl | rfl
    · rfl
    · rfl
    · exact hv.one
  have hml : n + 1 ≤ maxLen := by
    have := Nat.le_trans (Nat.le_mul_of_pos_right (n + 1) T.bpos) hbytes
    simp only [maxLen]
    omega
  obtain ⟨v', w', hr, ho2, hg, _, hor⟩ := run_append_own_at (P := P) w B t o.type e i z 3 bytes T.ht hi hz h2 h3 h4 T.pos v n (rowCells R) hT.row ⟨b, off, none⟩ 1 cap (rowOne r) hl hcells h1 hml hbytes hw
  have hkeep : ∀ q : RowS, Strs w q.2.2.1 q.2.2.2 → (q.2.2.2 = [] ∨ Apart q.2.2.1 v) → Strs w' q.2.2.1 q.2.2.2 ∧ (q.2.2.2 = [] ∨ Apart q.2.2.1 v') := by
    intro q hq ha
    refine ⟨Sl.grown hq hg ?_, ?_⟩
    · rcases ha with ha | ha
      · left; rw [ha]; rfl
      · right; exact ha
    · rcases ha with ha | ha
      · exact Or.inl ha
      · by_cases h0 : q.2.2.2 = []
        · exact Or.inl h0
        · refine Or.inr fun b hb => ?_
          rcases hor with hor | hor
          · rw [hor]; exact ha b hb
          · rw [hor]
            have := Sl.own_lt hq (fun e => h0 (List.length_eq_zero_iff.1 e)) hb
            intro e
            injection e with e
            omega
  have hT' : TRow e B w' v' (n + 1) (R ++ [r]) := by
    refine ⟨?_, fun q hq => ?_⟩
    · rw [rowCells_app]
      have : rowCells [r] = rowOne r := by simp [rowCells]
      rw [this]
      exact ho2
    · rcases List.mem_append.1 hq with hq | hq
      · exact hkeep q (hT.vals q hq).1 (hT.vals q hq).2
      · rw [List.mem_singleton.1 hq]; exact hkeep r hv hap
  have hfin := h v' w' hT' hg
  refine wpList_plain hgd fun K hK => ?_
  unfold Oper.wp execOp
  simp only [ho, resolve, invoke, builtin, Sem.run_bind, Sem.run_pure, Result.andThen_ok, List.map_toArray, List.map_cons, List.map_nil, hs, hu, hr]
  exact hK _ _ hfin

theorem wpList_appT {P : Program} {w w0 : World} {ops : Array Oper} {rest : List Oper} {o : Oper} {a : Act} {Q : Exit → Act → World → Prop} (hgd : o.guard = none) (s x : Operand) {t e : TypeId} {bytes : Nat} (T : SlT P t e 3 bytes)
    (ho : o.op = .call { callee := .builtin .append, args := #[s, x], argTypes := #[t, t] }) (hw : Ext w0 w)
    {v : Value} {n : Nat} {R : List RowS} (hs : a.eval s = v) (hT : TRow e w0.heap.size w v n R)
    {u : Value} {r : RowS} (hu : a.eval x = u) (hx : Sl w 3 u 1 (rowOne r)) (hv : Strs w r.2.2.1 r.2.2.2) (hap : r.2.2.2 = [] ∨ Apart r.2.2.1 v)
    (hbytes : (n + 1) * bytes ≤ 140737488355328)
    (h : ∀ v' w', TRow e w0.heap.size w' v' (n + 1) (R ++ [r]) → Ext w0 w' → (v.ownBlock = none → Ext w w') → wpList P ops Q rest (a.put o.dst v') w') : wpList P ops Q (o :: rest) a w :=
  wpList_appG hgd s x T ho hw.size hs hT hu hx hv hap hbytes fun v' w' h1 hg => h v' w' h1 (hw.app hT.row hg (Nat.le_refl _)) (fun h0 => (Below.refl _ _).grown hg (Nat.le_refl _) (fun k hk => by rw [h0] at hk; cases hk))
end Go.Dm

namespace Go.Dm
open Go Go.RowKit

/-- So many things, one behind the other, from a place on. -/
def readsL {α : Type} (g : Bs → Option (α × Nat)) (l : Bs) (q : Nat) : Nat → Option (List α × Nat)
  | 0 => some ([], q)
  | i + 1 => match readsL g l q i with
    | some (xs, r) => match g (l.drop r) with
      | some (x, m) => some (xs ++ [x], r + m)
      | none => none
    | none => none

theorem readsL_none {α : Type} {g : Bs → Option (α × Nat)} {l : Bs} {q i : Nat} (h : readsL g l q i = none) : ∀ {j}, i ≤ j → readsL g l q j = none
  | 0, hj => by obtain rfl : i = 0 := by omega
                exact h
  | j + 1, hj => by
    rcases Nat.lt_or_ge i (j + 1) with h1 | h1
    · rw [readsL, readsL_none h (by omega)]
    · obtain rfl : i = j + 1 := by omega
      exact h

/-- The list that stands first. -/
def someL {α : Type} (g : Bs → Option (α × Nat)) (most : Nat) (l : Bs) : Option (List α × Nat) :=
  match getL l with
  | some (u, n) => if u ≤ most then readsL g l n u else none
  | none => none

theorem someL_none {α : Type} {g : Bs → Option (α × Nat)} {most : Nat} {l : Bs} (h : getL l = none) : someL g most l = none := by
  unfold someL; rw [h]
theorem someL_some {α : Type} {g : Bs → Option (α × Nat)} {most : Nat} {l : Bs} {u n : Nat} (h : getL l = some (u, n)) : someL g most l = if u ≤ most then readsL g l n u else none := by
  unfold someL; rw [h]
theorem someI_no {α : Type} {g : Bs → Option (α × Nat)} {most : Nat} {l : Bs} {p : Int} (h : (getI l p).2.2 = false) : atI (someL g most) [] l p = ([], 0, false) := by
  unfold atI
  by_cases hp : p < 0 ∨ (l.length : Int) ≤ p
  · rw [if_pos hp]
  · rw [if_neg hp]
    rw [getI_at] at h
    unfold atI at h
    rw [if_neg hp] at h
    cases hg : getL (l.drop p.toNat) with
    | none => rw [someL_none hg]
    | some x => rw [hg] at h; cases h

end Go.Dm
namespace Go.Proofs.YthmhalcloogniaaGreatDoor
open Go.RowKit Go.Dm

end Go.Proofs.YthmhalcloogniaaGreatDoor

namespace Go.Dm
open Go Go.RowKit

end Go.Dm
namespace Go.Proofs.YthmhalcloogniaaGreatDoor
open Go.RowKit Go.Dm

end Go.Proofs.YthmhalcloogniaaGreatDoor

namespace Go.Dm
open Go Go.RowKit

/-- l begins with a. -/
def Begins (a l : Bs) : Prop := ∃ t, a ++ t = l

theorem begins_take {a l : Bs} : Begins a l ↔ a = l.take a.length ∧ a.length ≤ l.length := by
  constructor
  · rintro ⟨t, rfl⟩
    exact ⟨by rw [List.take_left], by rw [List.length_append]; omega⟩
  · rintro ⟨h1, h2⟩
    exact ⟨l.drop a.length, by conv => lhs; lhs; rw [h1]
                               exact List.take_append_drop _ _⟩

theorem begins_app {a b l : Bs} : Begins (a ++ b) l ↔ Begins a l ∧ Begins b (l.drop a.length) := by
  constructor
  · rintro ⟨t, rfl⟩
    exact ⟨⟨b ++ t, by simp⟩, ⟨t, by simp⟩⟩
  · rintro ⟨⟨t, rfl⟩, ⟨u, h⟩⟩
    rw [List.drop_left] at h
    exact ⟨u, by simp [h]⟩
theorem begins_nil (l : Bs) : Begins [] l := ⟨l, rfl⟩
theorem getL_begins {l : Bs} {u n : Nat} : getL l = some (u, n) ↔ U64 u ∧ n = (putL u).length ∧ Begins (putL u) l := by
  rw [getL_iff, begins_take]
  constructor
  · rintro ⟨h1, rfl, h3, h4⟩; exact ⟨h1, rfl, h3, h4⟩
  · rintro ⟨h1, rfl, h3, h4⟩; exact ⟨h1, rfl, h3, h4⟩
theorem getText_begins {most : Nat} {l t : Bs} {n : Nat} (hl : U64 l.length) : getTextL most l = some (t, n) ↔ t.length ≤ most ∧ n = (putT t).length ∧ Begins (putT t) l := by
  rw [getTextL_iff hl, begins_take]
  unfold putT
  constructor
  · rintro ⟨h1, rfl, h3, h4⟩; exact ⟨h1, rfl, h3, h4⟩
  · rintro ⟨h1, rfl, h3, h4⟩; exact ⟨h1, rfl, h3, h4⟩
theorem U64.drop {l : Bs} (h : U64 l.length) (k : Nat) : U64 (l.drop k).length := by
  rw [List.length_drop]; exact Nat.lt_of_le_of_lt (Nat.sub_le _ _) h

end Go.Dm

namespace Go.Proofs.YthmhalcloogniaaGreatDoor
open Go.RowKit Go.Dm

def wrongN (s : ByteArray) : Bool := !rightL s.data.toList

set_option maxHeartbeats 400000 in
theorem parts1_w (s : ByteArray) (w : World) (hs : s.size < 9223372036854775807) (ht : Tabs w) :
    Calls Tryz.prog 132 #[.string s] w fun e w' => e = .returned (.bool (wrongN s)) ∧ Ext w w' := by
  go_enter Tryz.func132, Tryz.ntmps132
  go_wp2_with fail
  refine (right_w s w hs ht).mono ?_; rintro e w' ⟨rfl, hb⟩
  go_wp2
  go_ret
  exact ⟨rfl, hb⟩

set_option maxHeartbeats 400000 in
theorem indexWrong_w (ss : List ByteArray) (q : Option Addr) (cap : Nat) (w : World) (hm : ss.length ≤ 35184372088832) (hz : ∀ x ∈ ss, x.size < 9223372036854775807) (ht : Tabs w)
    (hx : Strs w (.slice q ss.length cap) ss) :
    Calls Tryz.prog 152 #[.slice q ss.length cap, .func (.func 132) #[] #[]] w
      fun e w' => e = .returned (.int .i64 (placeI (firstP wrongN ss))) ∧ Ext w w' := by
  go_enter Tryz.func152, Tryz.ntmps152
  go_wp2
  go_loopw [4, 8] (fun z i wr => ∃ k : Nat, k ≤ ss.length ∧ i = .int .i64 k ∧ z = .int .i64 0 ∧ Ext w wr ∧ Hid (∀ j, j < k → wrongN (strAt ss j) = false)) (fun _ i _ => ss.length - (intOf i).toNat)
  case atStart => exact ⟨0, by omega, rfl, rfl, Ext.refl w, fun j hj => by omega⟩
  case round =>
    obtain ⟨k, hk, rfl, rfl, hb, HN⟩ := hrel
    by_cases hlt : k < ss.length
    · obtain ⟨b, off, rfl, hbl, c0⟩ := (hx.ext hb).at hlt
      have C := parts1_w (strAt ss k) wr (hz _ (strAt_mem hlt)) (ht.ext hb)
      go_wp2_with fail
      refine C.mono ?_; rintro e w' ⟨rfl, hb1⟩
      cases ht : wrongN (strAt ss k) with
      | true =>
        go_wp2
        go_ret
        refine ⟨?_, hb.trans hb1⟩
        rw [firstP_hit ByteArray.empty hlt HN.out ht]
        rfl
      | false =>
        go_wp2
        go_roundw
        case rel => exact ⟨k + 1, by omega, by go_num, rfl, hb.trans hb1, fun j hj => by
          rcases Nat.lt_succ_iff_lt_or_eq.1 hj with h | rfl
          · exact HN.out j h
          · exact ht⟩
        case measure => simp [intOf]; omega
    · go_wp2
      go_ret
      obtain rfl : k = ss.length := by omega
      refine ⟨?_, hb⟩
      rw [firstP_miss ByteArray.empty HN.out]
      rfl

theorem any_wrong (ss : List ByteArray) : ss.any wrongN = (bytesOf ss).any fun p => !rightL p := by
  simp only [bytesOf, List.any_map]
  rfl

set_option maxHeartbeats 2000000 in
theorem parts_w (s : ByteArray) (w : World) (hs : s.size < 4294967281) (ht : Vars w) :
    Calls Tryz.prog 105 #[.string s] w fun e w' => ∃ r, e = .returned r ∧ Texts w' r (partsL s.data.toList) ∧ Ext w w' := by
  obtain ⟨m, hm⟩ := ht.most
  have hlen := splitB_bytes s
  have hall := Lib.splitB_all ⟨#[47]⟩ (by decide) 0 (Lib.countB s ⟨#[47]⟩) s rfl
  have hcl : Lib.countB s ⟨#[47]⟩ ≤ s.size := Lib.countB_le ⟨#[47]⟩ (by decide) s.size s (Nat.le_refl _)
  have C := Tryz.strings_Split s ⟨#[47]⟩ m w hs hm (by decide)
  rw [← hall] at C
  generalize hss : Lib.splitB ⟨#[47]⟩ 0 (Lib.countB s ⟨#[47]⟩) s = ss at C hlen hall
  clear hss
  have hz : ∀ x ∈ ss, x.size < 9223372036854775807 := by
    intro x hx
    have h1 : x.data.toList ∈ splitL s.data.toList := by rw [← hlen]; exact List.mem_map_of_mem hx
    have := mem_splitL_len h1
    rw [← size_len, ← size_len] at this
    omega
  have hl : ss.length ≤ 4294967281 := by omega
  have hlb : (splitL s.data.toList).length = ss.length := by rw [← hlen]; simp [bytesOf]
  have hal : Ext w (w.alloc (.cells (ss.map Value.string).toArray 9)) := (Ext.refl w).alloc _
  have hx : Strs (w.alloc (.cells (ss.map Value.string).toArray 9)) (.slice (some ⟨w.heap.size, 0, none⟩) ss.length ss.length) ss := by
    have := Sl.lit w 9 1 ss.length (ss.map Value.string).toArray (by simp) (by simp [maxLen]; omega)
    simpa [Strs] using this
  have HA := firstP_any wrongN ss
  have HP : Hid (partsL s.data.toList = if 3 < ss.length ∨ ss.any wrongN = true then [] else bytesOf ss) := by
    show partsL _ = _
    rw [partsL, hlb, any_wrong, hlen]
  clear hall hcl hlen hlb
  go_enter Tryz.func105, Tryz.ntmps105
  go_wp2_with fail
  refine C.mono ?_; rintro e w1 ⟨rfl, rfl⟩
  clear C
  generalize hW : w.alloc (.cells (ss.map Value.string).toArray 9) = W at hx hal
  by_cases h3 : 3 < ss.length
  · go_wp2
    go_ret
    exact ⟨_, rfl, by rw [HP.out, if_pos (Or.inl h3)]; exact Texts.nil _, hal⟩
  · have C := indexWrong_w ss (some ⟨w.heap.size, 0, none⟩) ss.length W (by omega) hz (ht.tabs.ext hal) hx
    cases ha : ss.any wrongN with
    | true =>
      have h0 := HA.2 ha
      go_wp2_with (first | (go_at_call 152; refine C.mono ?_; rintro e w2 ⟨rfl, hb2⟩) | go_in)
      go_ret
      exact ⟨_, rfl, by rw [HP.out, if_pos (Or.inr ha)]; exact Texts.nil _, hal.trans hb2⟩
    | false =>
      have h0 : ¬ (0 : Int) ≤ placeI (firstP wrongN ss) := fun h => by rw [HA.1 h] at ha; cases ha
      go_wp2_with (first | (go_at_call 152; refine C.mono ?_; rintro e w2 ⟨rfl, hb2⟩) | go_in)
      go_ret
      exact ⟨_, rfl, ⟨ss, hx.ext hb2, by rw [HP.out, if_neg (by simp [h3, ha])]⟩, hal.trans hb2⟩

end Go.Proofs.YthmhalcloogniaaGreatDoor
