/- Texts one behind the other: Chapter 2: the walks of the program's spans, runes and names; Chapter 4: the walk of the program's Right; Chapter 4: the walks of the program's Find, Put, Text; Chapter 4: the walks of the program's Put and Text; What the walks know of the package-level variables; Chapter 4: the walk of the program's Parse; Chapter 6: the walk of turn; Chapter 6 in plain terms: the sum of a text. No program in sight; Chapter 6: the walk of words; Chapter 6: the walk of block; Chapter 6 in plain terms: what is added to a text. No program in sight; Chapter 6: the walk of padded; Chapter 5 in plain terms: terms, selectors. No program in sight; Chapter 5: the walks of a term's rule, of holds, and of Match; Chapter 5: the walks of a term's holds, and of Match; Chapter 2 in plain terms: a byte that may not stand in a name. No program in sight; Chapter 5 in plain terms: what is right, put, shown, parsed, the same. No program in sight; Chapter 5: the walks of Match and Right; Chapter 5 in plain terms: the terms of a text. No program in sight. -/
import Derived.Test.YtefjdmjkofaajaaGreatDoorWPure
import Derived.Test.YtefjdmjkofaajaaGreatDoorB5
import Derived.Test.YtefjdmjkofaajaaGreatDoorShelf
import Derived.Test.YtefjdmjkofaajaaGreatDoorB2
import Derived.Lib.OthersKept
import Derived.Test.YtefjdmjkofaajaaGreatDoorB18
import Derived.Test.YtefjdmjkofaajaaGreatDoorB6
import Derived.Test.YtefjdmjkofaajaaGreatDoorB3
import Derived.Laws.StructEq
import Derived.Test.YtefjdmjkofaajaaGreatDoorB23
import Derived.Deep.Cut
import Derived.Test.YtefjdmjkofaajaaGreatDoorB11
namespace Go.Dm
open Go Go.RowKit

abbrev Span := Int × Int
def spanAt (l : List Span) (k : Nat) : Span := l.getD k (0, 0)
def spanCells (l : List Span) : List Value := l.flatMap fun x => [.int .i32 x.1, .int .i32 x.2]
def inSpan (r : Int) (x : Span) : Bool := decide (x.1 ≤ r) && decide (r ≤ x.2)

theorem spanCells_at : ∀ (xs : List Span) (k : Nat), k < xs.length → (spanCells xs)[k*2]? = some (.int .i32 (spanAt xs k).1) ∧ (spanCells xs)[k*2+1]? = some (.int .i32 (spanAt xs k).2)
 | x :: xs, 0, _ => by simp [spanCells, spanAt]
 | x :: xs, k+1, h => by
  have := spanCells_at xs k (by simpa using h)
  have e : (k+1)*2 = k*2+1+1 := by omega
  have e2 : (k+1)*2+1 = k*2+1+1+1 := by omega
  simp only [e, spanCells, spanAt, List.flatMap_cons, List.cons_append, List.nil_append, List.getElem?_cons_succ, List.getD_cons_succ]
  exact this

def Spans (w : World) (v : Value) (l : List Span) : Prop := Sl w 2 v l.length (spanCells l)
theorem Spans.ext {w w' : World} {v l} (h : Spans w v l) (hb : Ext w w') : Spans w' v l := Sl.ext h hb
theorem Spans.shape {w : World} {v l} (h : Spans w v l) : ∃ p cap, v = .slice p l.length cap ∧ l.length ≤ cap ∧ cap ≤ maxLen := by
 obtain ⟨p, cap, h1, h2, h3, _⟩ := Sl.shape h
 exact ⟨p, cap, h1, h2, h3⟩
theorem Spans.at {w : World} {xs : List Span} {p cap} (h : Spans w (.slice p xs.length cap) xs) {k : Nat} (hk : k < xs.length) :
  ∃ b off, p = some ⟨b, off, none⟩ ∧ b < w.heap.size ∧ w.cell? ⟨b, off + k*2, none⟩ = some (.int .i32 (spanAt xs k).1) ∧ w.cell? ⟨b, off + k*2 + 1, none⟩ = some (.int .i32 (spanAt xs k).2) := by
 obtain ⟨b, off, hp, hb, h⟩ := Sl.at h (by omega)
 have := spanCells_at xs k hk
 exact ⟨b, off, hp, hb, h _ _ this.1, by have := h _ _ this.2; rw [show off + (k*2+1) = off + k*2+1 by omega] at this; exact this⟩

end Go.Dm
namespace Go.Proofs.YtefjdmjkofaajaaGreatDoor
open Go.RowKit Go.Dm

set_option maxHeartbeats 400000 in
theorem among1_w (r a b : Int) (c o : Nat) (w : World) (hcl : c < w.heap.size) (hc : w.cell? ⟨c, o, none⟩ = some (.int .i32 r)) :
  Calls Tryz.prog 131 #[.agg #[.int .i32 a, .int .i32 b], .pointer (some ⟨c, o, none⟩)] w fun e w' => e = .returned (.bool (inSpan r (a, b))) ∧ Ext w w' := by
 go_enter Tryz.func131, Tryz.ntmps131
 go_wp2
 all_goals go_ret
 all_goals exact ⟨by first | (simp_all [inSpan]; done) | (simp_all [inSpan]; omega), (Below.refl _ _).alloc (Nat.le_refl _) _⟩

set_option maxHeartbeats 400000 in
theorem indexSpan_w (l : List Span) (r : Int) (q : Option Addr) (cap : Nat) (c o : Nat) (w : World) (hm : l.length ≤ 35184372088832)
  (hx : Spans w (.slice q l.length cap) l) (hcl : c < w.heap.size) (hc : w.cell? ⟨c, o, none⟩ = some (.int .i32 r)) :
  Calls Tryz.prog 153 #[.slice q l.length cap, .func (.func 131) #[] #[.pointer (some ⟨c, o, none⟩)]] w
   fun e w' => e = .returned (.int .i64 (placeI (firstP (inSpan r) l))) ∧ Ext w w' := by
 go_enter Tryz.func153, Tryz.ntmps153
 go_wp2
 go_loopw [4, 8] (fun z i wr => ∃ k : Nat, k ≤ l.length ∧ i = .int .i64 k ∧ z = .int .i64 0 ∧ Ext w wr ∧ Hid (∀ j, j < k → inSpan r (spanAt l j) = false)) (fun _ i _ => l.length - (intOf i).toNat)
 case atStart => exact ⟨0, by omega, rfl, rfl, Ext.refl w, fun j hj => by omega⟩
 case round =>
  obtain ⟨k, hk, rfl, rfl, hb, HN⟩ := hrel
  by_cases hlt : k < l.length
  ·obtain ⟨b, off, rfl, hbl, c0, c1⟩ := (hx.ext hb).at hlt
   have hcl' : c < wr.heap.size := Nat.lt_of_lt_of_le hcl hb.size
   have hc' : wr.cell? ⟨c, o, none⟩ = some (.int .i32 r) := by rw [hb.cell (by exact hcl)]; exact hc
   go_wp2_with fail
   refine (among1_w r _ _ _ _ _ hcl' hc').mono ?_; rintro e w' ⟨rfl, hb1⟩
   cases ht : inSpan r (spanAt l k) with
   | true =>
    go_wp2
    go_ret
    refine ⟨?_, hb.trans hb1⟩
    rw [firstP_hit (0, 0) hlt HN.out ht]
    rfl
   | false =>
    go_wp2
    go_roundw
    case rel => exact ⟨k + 1, by omega, by go_num, rfl, hb.trans hb1, fun j hj => by
     rcases Nat.lt_succ_iff_lt_or_eq.1 hj with h | rfl
     ·exact HN.out j h
     ·exact ht⟩
    case measure => simp [intOf]; omega
  ·go_wp2
   go_ret
   obtain rfl : k = l.length := by omega
   refine ⟨?_, hb⟩
   rw [firstP_miss (0, 0) HN.out]
   rfl

set_option maxHeartbeats 400000 in
theorem among_w (l : List Span) (r : Int) (v : Value) (w : World) (hm : l.length ≤ 35184372088832) (hx : Spans w v l) :
  Calls Tryz.prog 101 #[.int .i32 r, v] w fun e w' => e = .returned (.bool (l.any (inSpan r))) ∧ Ext w w' := by
 obtain ⟨q, cap, rfl, _, _⟩ := hx.shape
 have fin : Ext w (w.alloc (.cells #[.int .i32 r] 21)) := (Below.refl _ _).alloc (Nat.le_refl _) _
 have hx' := hx.ext fin
 have hA := firstP_any (inSpan r) l
 go_enter Tryz.func101, Tryz.ntmps101
 cases ha : l.any (inSpan r) with
 | true =>
  have h0 := hA.2 ha
  go_wp2_with (first | (go_at_call 153; refine (indexSpan_w l r q cap w.heap.size 0 _ hm hx' (by simp) (by simp)).mono ?_; rintro e w' ⟨rfl, hb1⟩) | go_in)
  go_ret
  exact ⟨rfl, fin.trans hb1⟩
 | false =>
  have h0 : ¬ (0 : Int) ≤ placeI (firstP (inSpan r) l) := fun h => by rw [hA.1 h] at ha; cases ha
  go_wp2_with (first | (go_at_call 153; refine (indexSpan_w l r q cap w.heap.size 0 _ hm hx' (by simp) (by simp)).mono ?_; rintro e w' ⟨rfl, hb1⟩) | go_in)
  go_ret
  exact ⟨rfl, fin.trans hb1⟩

/-- The package's tables lie as its text lays them. -/
def letters : List Span := [(97, 122), (945, 969), (1072, 1103)]
def marks : List Span := [(48, 57), (45, 45)]
structure Tabs (w : World) : Prop where
 letters : Spans w (.slice (some ⟨1, 0, none⟩) 3 3) letters
 marks : Spans w (.slice (some ⟨2, 0, none⟩) 2 2) marks

theorem Tabs.ext {w w' : World} (h : Tabs w) (hb : Ext w w') : Tabs w' := ⟨h.letters.ext hb, h.marks.ext hb⟩

theorem letters_any (r : Nat) : letters.any (inSpan r) = letterB r := by
 simp only [letters, List.any_cons, List.any_nil, inSpan, letterB, Bool.or_false, Bool.or_assoc]
 congr 1
 ·congr 1 <;> exact decide_eq_decide.2 (by omega)
 ·congr 1 <;> congr 1 <;> exact decide_eq_decide.2 (by omega)

theorem marks_any (r : Nat) : marks.any (inSpan r) = markB r := by
 simp only [marks, List.any_cons, List.any_nil, inSpan, markB, Bool.or_false]
 by_cases h : r = 45
 ·subst h; decide
 ·have : (r == 45) = false := by rw [beq_eq_false_iff_ne]; exact h
  rw [this, Bool.or_false]
  have : (decide ((45 : Int) ≤ r) && decide ((r : Int) ≤ 45)) = false := by
   rw [Bool.and_eq_false_iff, decide_eq_false_iff_not, decide_eq_false_iff_not]; omega
  rw [this, Bool.or_false]
  congr 1 <;> exact decide_eq_decide.2 (by omega)

set_option maxHeartbeats 400000 in
theorem count_w (s : ByteArray) (w : World) (hs : s.size < 9223372036854775807) :
  Calls Tryz.prog 102 #[.string s] w fun e w' => e = .returned (.int .i64 (countL s.data.toList)) ∧ Ext w w' := by
 go_enter Tryz.func102, Tryz.ntmps102
 go_wp2_with fail
 refine (Tryz.utf8_RuneCountInString s w hs).mono ?_; rintro e w' ⟨rfl, pos, rfl⟩
 rw [runeCount_eq]
 go_wp2
 go_ret
 exact ⟨rfl, (Ext.refl w).alloc _⟩

theorem iter_ext {w w' : World} {k p : Nat} {s : ByteArray} (h : Ext w w') (hit : w.heap[k]? = some (.stringIter s p)) : w'.heap[k]? = some (.stringIter s p) := by
 have hlt : k < w.heap.size := (Array.getElem?_eq_some_iff.1 hit).1
 rw [h.block _ hlt]; exact hit

theorem iterPos_of {w : World} {k p : Nat} {s : ByteArray} (hit : w.heap[k]? = some (.stringIter s p)) : w.iterPos k = p := by simp [World.iterPos, hit]

/-- A round of the loop over a name's runes. -/
theorem right_round {s : ByteArray} {pos : Nat} (hp : pos < s.size) (HK : okL true s.data.toList = okL (pos == 0) (s.data.toList.drop pos))
  (hr : (letterB (runeL (s.data.toList.drop pos)) || (!(pos == 0) && markB (runeL (s.data.toList.drop pos)))) = true) :
  pos + wideL (s.data.toList.drop pos) ≤ s.size ∧ okL true s.data.toList = okL (pos + wideL (s.data.toList.drop pos) == 0) (s.data.toList.drop (pos + wideL (s.data.toList.drop pos))) := by
 have hne : s.data.toList.drop pos ≠ [] := by rw [Ne, List.drop_eq_nil_iff, ← size_len]; omega
 have h1 := wideL_le hne
 have h2 := wideL_pos (s.data.toList.drop pos)
 rw [List.length_drop, ← size_len] at h1
 refine ⟨by omega, ?_⟩
 have h3 : (pos + wideL (s.data.toList.drop pos) == 0) = false := by rw [beq_eq_false_iff_ne]; omega
 rw [HK, okL_step _ hne, hr, h3, List.drop_drop, Bool.true_and]

theorem right_bad {s : ByteArray} {pos : Nat} (hp : pos < s.size) (HK : okL true s.data.toList = okL (pos == 0) (s.data.toList.drop pos))
  (hr : (letterB (runeL (s.data.toList.drop pos)) || (!(pos == 0) && markB (runeL (s.data.toList.drop pos)))) = false) : rightL s.data.toList = false := by
 have hne : s.data.toList.drop pos ≠ [] := by rw [Ne, List.drop_eq_nil_iff, ← size_len]; omega
 unfold rightL
 rw [HK, okL_step _ hne, hr]
 rfl

set_option maxHeartbeats 2000000 in
theorem right_w (s : ByteArray) (w : World) (hs : s.size < 9223372036854775807) (ht : Tabs w) :
  Calls Tryz.prog 60 #[.string s] w fun e w' => e = .returned (.bool (rightL s.data.toList)) ∧ Ext w w' := by
 go_enter Tryz.func60, Tryz.ntmps60
 go_wp2
 go_loopw [2] (fun _ wr => ∃ pos : Nat, Ext w wr ∧ wr.heap[w.heap.size]? = some (.stringIter s pos) ∧ pos ≤ s.size ∧ Hid (okL true s.data.toList = okL (pos == 0) (s.data.toList.drop pos))) (fun _ wr => s.size - wr.iterPos w.heap.size)
 case atStart => exact ⟨0, (Ext.refl w).alloc _, by simp [World.iter_heap], by omega, rfl⟩
 case round =>
  obtain ⟨pos, hb, hit, hps, HK⟩ := hrel
  by_cases hp : pos < s.size
  ·have hnx : ∀ ty, (Instr.next (.pointer (some ⟨w.heap.size, 0, none⟩)) true ty).run Tryz.prog wr = _ := fun ty => Lib.run_next_any_at wr w.heap.size s pos ty hit hp
   have e1 : (Utf8.decode s pos).1 = runeL (s.data.toList.drop pos) := by rw [decode_eq]; rfl
   have e2 : (Utf8.decode s pos).2 = wideL (s.data.toList.drop pos) := by rw [decode_eq]; rfl
   rw [e1, e2] at hnx
   clear e1 e2
   have hb1 : Ext w (wr.iterAt w.heap.size s (pos + wideL (s.data.toList.drop pos))) := Lib.below_iterAt hb (Nat.le_refl _) s _
   have hit1 := Lib.iterAt_heap wr w.heap.size s pos (pos + wideL (s.data.toList.drop pos)) hit
   have HR := Lib.hid (right_round hp HK.out)
   have HB := Lib.hid (right_bad hp HK.out)
   have hw1 := wideL_pos (s.data.toList.drop pos)
   generalize runeL (s.data.toList.drop pos) = r at *
   generalize wideL (s.data.toList.drop pos) = n at *
   have CL := among_w letters r _ _ (by decide) (ht.letters.ext hb1)
   rw [letters_any] at CL
   have CM : ∀ U, Ext w U → _ := fun U hU => among_w marks r _ U (by decide) (ht.marks.ext hU)
   simp only [marks_any] at CM
   have CM := Lib.hid CM
   go_wp2_with fail
   refine CL.mono ?_; rintro e w1 ⟨rfl, hb2⟩
   have hit2 := iter_ext hb2 hit1
   cases hl : letterB r with
   | true =>
    rw [hl] at HR
    obtain ⟨h1, h2⟩ := HR.out (by simp)
    go_wp2
    go_roundw
    case rel => exact ⟨pos + n, hb1.trans hb2, hit2, h1, h2⟩
    case measure => rw [iterPos_of hit2, iterPos_of hit]; omega
   | false =>
    rw [hl] at HR HB
    by_cases h0 : pos = 0
    ·subst h0
     have hB := HB.out (by simp)
     go_wp2
     go_ret
     exact ⟨by rw [hB]; rfl, hb1.trans hb2⟩
    ·have h0b : (pos == 0) = false := by rw [beq_eq_false_iff_ne]; exact h0
     have h0c : ((pos : Int) == 0) = false := by rw [beq_eq_false_iff_ne]; omega
     rw [h0b] at HR HB
     go_wp2_with fail
     refine (CM.out w1 (hb1.trans hb2)).mono ?_; rintro e w2 ⟨rfl, hb3⟩
     have hit3 := iter_ext hb3 hit2
     cases hk : markB r with
     | true =>
      rw [hk] at HR
      obtain ⟨h1, h2⟩ := HR.out (by simp)
      go_wp2
      go_roundw
      case rel => exact ⟨pos + n, hb1.trans (hb2.trans hb3), hit3, h1, h2⟩
      case measure => rw [iterPos_of hit3, iterPos_of hit]; omega
     | false =>
      rw [hk] at HB
      have hB := HB.out (by simp)
      go_wp2
      go_ret
      exact ⟨by rw [hB]; rfl, hb1.trans (hb2.trans hb3)⟩
  ·have hnx : ∀ ty, (Instr.next (.pointer (some ⟨w.heap.size, 0, none⟩)) true ty).run Tryz.prog wr = _ := fun ty => Lib.run_next_end_at wr w.heap.size s pos ty hit hp
   have hK : okL true s.data.toList = true := by
    rw [HK.out, List.drop_eq_nil_iff.2 (by rw [← size_len]; omega)]; rfl
   by_cases he : s = ⟨#[]⟩
   ·subst he
    go_wp2
    go_ret
    exact ⟨rfl, hb⟩
   ·have hne2 : s.data.toList.isEmpty = false := by
     rw [List.isEmpty_eq_false_iff]
     intro h
     apply he
     cases s
     simp at h
     rw [h]
    have hne : ¬ s.toList = [] := by
     rw [ByteArray.toList_eq]
     intro h
     rw [h] at hne2
     cases hne2
    go_wp2_with fail
    refine (count_w s wr hs).mono ?_; rintro e w2 ⟨rfl, hb3⟩
    have hd : decide ((countL s.data.toList : Int) ≤ 16) = decide (countL s.data.toList ≤ 16) := decide_eq_decide.2 (by omega)
    go_wp2
    go_ret
    refine ⟨?_, hb.trans hb3⟩
    show Ending.returned (Value.bool (!s.toList.isEmpty && decide (countL s.data.toList ≤ 16))) = _
    rw [ByteArray.toList_eq, rightL, hK]
    rfl

end Go.Proofs.YtefjdmjkofaajaaGreatDoor

namespace Go.Proofs.YtefjdmjkofaajaaGreatDoor
open Go.RowKit Go.Dm

theorem right_fit (s : ByteArray) (w : World) (hs : s.size ≤ 140737488351232) (ht : Tabs w) :
  Calls Tryz.prog 60 #[.string s] w fun e w' => e = .returned (.bool (rightL s.data.toList)) ∧ Ext w w' := right_w s w (by omega) ht

set_option maxHeartbeats 2000000 in
theorem lright_w (l : List PairS) (v : Value) (w : World) (hm : l.length ≤ 35184372088832) (hf : FitP l) (hx : Pairs w v l) (ht : Tabs w) :
  Calls Tryz.prog 59 #[v] w fun e w' => e = .returned (.bool (rightLab (labL l))) ∧ Ext w w' := by
 obtain ⟨q, cap, rfl, hcap, hcm⟩ := hx.shape
 go_enter Tryz.func59, Tryz.ntmps59
 go_wp2
 go_loopw [7] (fun i' wr => ∃ k : Nat, k ≤ l.length ∧ i' = .int .i64 k ∧ Ext w wr ∧ Hid (∀ j, j < k → okLab (labL l) j = true)) (fun i' _ => l.length - (intOf i').toNat)
 case atStart => exact ⟨0, by omega, rfl, Ext.refl _, fun j hj => by omega⟩
 case round =>
  obtain ⟨k, hk, rfl, hb, HN⟩ := hrel
  by_cases hlt : k < l.length
  ·obtain ⟨b, off, rfl, hbl, c0, c1⟩ := (hx.ext hb).at hlt
   have hfk := hf _ (pairAt_mem hlt)
   have hok : ∀ c1 c2 c3, rightL (pairAt l k).1.data.toList = c1 → rightL (pairAt l k).2.data.toList = c2 → (k == 0 || !leB (pairAt l k).1.data.toList (pairAt l (k-1)).1.data.toList) = c3 → okLab (labL l) k = (c1 && (c2 && c3)) := by
    intro c1 c2 c3 e1 e2 e3
    unfold okLab
    rw [labL_at l hlt, labL_at l (by omega : k - 1 < l.length), ← e1, ← e2, ← e3]
    rfl
   have hbad : okLab (labL l) k = false → rightLab (labL l) = false := fun h => rightLab_bad (by rw [labL_len]; exact hlt) h
   have hgood : okLab (labL l) k = true → ∀ j, j < k + 1 → okLab (labL l) j = true := fun h j hj => by
    rcases Nat.lt_succ_iff_lt_or_eq.1 hj with h' | rfl
    ·exact HN.out j h'
    ·exact h
   have hW : Ext w (wr.alloc (.cells #[.string (pairAt l k).1, .string (pairAt l k).2] 126)) := hb.trans ((Ext.refl _).alloc _)
   have C1 : ∀ c, rightL (pairAt l k).1.data.toList = c → Hid (∀ U, Ext (wr.alloc (.cells #[.string (pairAt l k).1, .string (pairAt l k).2] 126)) U → Calls Tryz.prog 60 #[.string (pairAt l k).1] U fun e w' => e = .returned (.bool c) ∧ Ext U w') := by
    intro c h U hU
    rw [← h]
    exact right_fit _ U hfk.1 (ht.ext (hW.trans hU))
   have C2 : ∀ c, rightL (pairAt l k).2.data.toList = c → Hid (∀ U, Ext (wr.alloc (.cells #[.string (pairAt l k).1, .string (pairAt l k).2] 126)) U → Calls Tryz.prog 60 #[.string (pairAt l k).2] U fun e w' => e = .returned (.bool c) ∧ Ext U w') := by
    intro c h U hU
    rw [← h]
    exact right_fit _ U hfk.2 (ht.ext (hW.trans hU))
   replace hok := Lib.hid hok
   replace hbad := Lib.hid hbad
   replace hgood := Lib.hid hgood
   cases h1 : rightL (pairAt l k).1.data.toList with
   | false =>
    replace C1 := C1 _ h1
    replace C2 := C2 _ rfl
    have hB := Lib.hid (hbad.out (hok.out _ _ _ h1 rfl rfl))
    clear h1
    go_wp2_with fail
    refine Dm.wp_region_grow (by kernel_rfl) (by kernel_rfl) ?_
    repeat (go_big_quiet_step (first
     | (go_at_call 60; with_reducible exact Calls.quietE (C1.out _ (ext_grow _ _)))
     | (go_at_call 60; with_reducible exact Calls.quietE (C2.out _ (ext_grow _ _)))))
    refine wpQuiet_nil ?_
    intro U hU
    have hU' := hW.trans hU
    go_wp2
    go_ret
    exact ⟨by rw [hB.out]; rfl, hU'⟩
   | true =>
    replace C1 := C1 _ h1
    cases h2 : rightL (pairAt l k).2.data.toList with
    | false =>
     replace C2 := C2 _ h2
     have hB := Lib.hid (hbad.out (hok.out _ _ _ h1 h2 rfl))
     clear h1 h2
     go_wp2_with fail
     refine Dm.wp_region_grow (by kernel_rfl) (by kernel_rfl) ?_
     repeat (go_big_quiet_step (first
      | (go_at_call 60; with_reducible exact Calls.quietE (C1.out _ (ext_grow _ _)))
      | (go_at_call 60; with_reducible exact Calls.quietE (C2.out _ (ext_grow _ _)))))
     refine wpQuiet_nil ?_
     intro U hU
     have hU' := hW.trans hU
     go_wp2
     go_ret
     exact ⟨by rw [hB.out]; rfl, hU'⟩
    | true =>
     replace C2 := C2 _ h2
     by_cases h0 : k = 0
     ·subst h0
      have hG := Lib.hid (hgood.out (hok.out _ _ true h1 h2 rfl))
      clear h1 h2 hok hbad hgood
      rw [Nat.zero_mul, Nat.add_zero] at c0 c1
      go_wp2_with fail
      refine Dm.wp_region_grow (by kernel_rfl) (by kernel_rfl) ?_
      repeat (go_big_quiet_step (first
       | (go_at_call 60; with_reducible exact Calls.quietE (C1.out _ (ext_grow _ _)))
       | (go_at_call 60; with_reducible exact Calls.quietE (C2.out _ (ext_grow _ _)))))
      refine wpQuiet_nil ?_
      intro U hU
      have hU' := hW.trans hU
      go_wp2
      go_roundw
      case rel => exact ⟨1, by omega, rfl, hU', hG⟩
      case measure => simp [intOf]; omega
     ·obtain ⟨j, rfl⟩ : ∃ j, k = j + 1 := ⟨k - 1, by omega⟩
      obtain ⟨d0, _⟩ := (hx.ext hb).cells (k := j) (by omega)
      have hle : ∀ c c', Op.bytesLess (pairAt l (j + 1)).1.toList (pairAt l j).1.toList = c → ((pairAt l (j + 1)).1.toList == (pairAt l j).1.toList) = c' → (j + 1 == 0 || !leB (pairAt l (j + 1)).1.data.toList (pairAt l (j + 1 - 1)).1.data.toList) = !(c || c') := by
       intro c c' e1 e2
       rw [ByteArray.toList_eq, ByteArray.toList_eq] at e1 e2
       rw [← e1, ← e2]
       rfl
      cases q1 : Op.bytesLess (pairAt l (j + 1)).1.toList (pairAt l j).1.toList with
      | true =>
       have hB := Lib.hid (hbad.out (hok.out _ _ _ h1 h2 (hle _ _ q1 rfl)))
       clear h1 h2 hok hbad hgood hle
       go_wp2_with fail
       refine Dm.wp_region_grow (by kernel_rfl) (by kernel_rfl) ?_
       repeat (go_big_quiet_step (first
        | (go_at_call 60; with_reducible exact Calls.quietE (C1.out _ (ext_grow _ _)))
        | (go_at_call 60; with_reducible exact Calls.quietE (C2.out _ (ext_grow _ _)))))
       refine wpQuiet_nil ?_
       intro U hU
       have hU' := hW.trans hU
       go_wp2
       go_ret
       exact ⟨by rw [hB.out]; rfl, hU'⟩
      | false =>
       cases q2 : ((pairAt l (j + 1)).1.toList == (pairAt l j).1.toList) with
       | true =>
        have hB := Lib.hid (hbad.out (hok.out _ _ _ h1 h2 (hle _ _ q1 q2)))
        clear h1 h2 hok hbad hgood hle
        go_wp2_with fail
        refine Dm.wp_region_grow (by kernel_rfl) (by kernel_rfl) ?_
        repeat (go_big_quiet_step (first
         | (go_at_call 60; with_reducible exact Calls.quietE (C1.out _ (ext_grow _ _)))
         | (go_at_call 60; with_reducible exact Calls.quietE (C2.out _ (ext_grow _ _)))))
        refine wpQuiet_nil ?_
        intro U hU
        have hU' := hW.trans hU
        go_wp2
        go_ret
        exact ⟨by rw [hB.out]; rfl, hU'⟩
       | false =>
        have hG := Lib.hid (hgood.out (hok.out _ _ _ h1 h2 (hle _ _ q1 q2)))
        clear h1 h2 hok hbad hgood hle
        go_wp2_with fail
        refine Dm.wp_region_grow (by kernel_rfl) (by kernel_rfl) ?_
        repeat (go_big_quiet_step (first
         | (go_at_call 60; with_reducible exact Calls.quietE (C1.out _ (ext_grow _ _)))
         | (go_at_call 60; with_reducible exact Calls.quietE (C2.out _ (ext_grow _ _)))))
        refine wpQuiet_nil ?_
        intro U hU
        have hU' := hW.trans hU
        go_wp2
        go_roundw
        case rel => exact ⟨j + 1 + 1, by omega, by go_num, hU', hG⟩
        case measure => simp [intOf]; omega
  ·go_wp2
   go_ret
   obtain rfl : k = l.length := by omega
   have hA := rightLab_all (L := labL l) (fun j hj => HN.out j (by rw [labL_len] at hj; exact hj))
   rw [labL_len] at hA
   exact ⟨by rw [hA, show decide (l.length ≤ 8) = decide ((l.length : Int) ≤ 8) from decide_eq_decide.2 (by omega)]; rfl, hb⟩

end Go.Proofs.YtefjdmjkofaajaaGreatDoor

namespace Go.Dm
open Go Go.RowKit

/-- P4.2: labels as bytes. -/
def putP (L : List PairL) : Bs := L.flatMap fun p => putT p.1 ++ putT p.2
def putLab (L : List PairL) : Bs := if rightLab L then putL L.length ++ putP L else []
theorem putP_step {L : List PairL} {k : Nat} (hk : k < L.length) : putP (L.take (k + 1)) = putP (L.take k) ++ (putT (plAt L k).1 ++ putT (plAt L k).2) := by
 rw [List.take_succ_eq_append_getElem hk, putP, List.flatMap_append]
 simp [putP, plAt, hk]

end Go.Dm
namespace Go.Proofs.YtefjdmjkofaajaaGreatDoor
open Go.RowKit Go.Dm

theorem Tryz.slPair : SlT Tryz.prog 31 126 2 32 := SlT.mk' Tryz.underlying31 (by kernel_rfl) (by decide) (by decide)

end Go.Proofs.YtefjdmjkofaajaaGreatDoor

namespace Go.Dm
open Go Go.RowKit
theorem putT_len (t : Bs) (h : t.length ≤ 140737488351232) : (putT t).length ≤ 140737488351242 := by
 have := putL_ten (u := t.length) (show t.length < _ by omega)
 unfold putT
 rw [List.length_append]; omega
def textB (t : ByteArray) : ByteArray := ⟨(putT t.data.toList).toArray⟩
theorem textB_size (t : ByteArray) (h : t.size ≤ 140737488351232) : (textB t).size ≤ 140737488351242 := by
 rw [size_len]
 exact putT_len _ (by rw [← size_len]; exact h)

/-- A name has at most 32 bytes. -/
theorem okL_len : ∀ (n : Nat) (b : Bool) (l : Bs), l.length ≤ n → okL b l = true → l.length ≤ 2 * countL l := by
 intro n
 induction n with
 | zero => intro b l hl _; omega
 | succ n ih =>
  intro b l hl hok
  by_cases h : l = []
  ·subst h; simp
  ·rw [okL_step b h, Bool.and_eq_true] at hok
   have hw := wideL_pos l
   have h2 := ih false (l.drop (wideL l)) (by rw [List.length_drop]; omega) hok.2
   rw [List.length_drop] at h2
   have hle := wideL_le h
   have hw2 : wideL l ≤ 2 := by
    have hlm := (letterB_plain (r := runeL l) (by have := hok.1; cases b <;> simp_all)).2
    unfold wideL runeL decL at *
    repeat' split
    all_goals first
     | (simp only; omega)
     | skip
    all_goals simp_all
    all_goals omega
   rw [countL_step h]; omega
theorem right_len {l : Bs} (h : rightL l = true) : l.length ≤ 32 := by
 unfold rightL at h
 simp only [Bool.and_eq_true, decide_eq_true_eq] at h
 have := okL_len l.length true l (Nat.le_refl _) h.1.1
 omega
end Go.Dm
namespace Go.Proofs.YtefjdmjkofaajaaGreatDoor
open Go.RowKit Go.Dm

set_option maxHeartbeats 2000000 in
set_option maxRecDepth 100000 in
theorem lput_w (l : List PairS) (v : Value) (w : World) (hm : l.length ≤ 35184372088832) (hf : FitP l) (hx : Pairs w v l) (ht : Tabs w) :
  Calls Tryz.prog 68 #[v] w fun e w' => e = .returned (.string ⟨(putLab (labL l)).toArray⟩) ∧ Ext w w' := by
 obtain ⟨q, cap, rfl, hcap, hcm⟩ := hx.shape
 have C := lright_w l _ w hm hf hx ht
 cases hR : rightLab (labL l) with
 | false =>
  have hz : Hid (putLab (labL l) = []) := by show _ = _; unfold putLab; rw [hR]; rfl
  rw [hR] at C
  clear hR
  go_enter Tryz.func68, Tryz.ntmps68
  go_wp2_with fail
  refine C.mono ?_; rintro e w1 ⟨rfl, h1⟩
  go_wp2
  go_ret
  exact ⟨by rw [hz.out]; rfl, h1⟩
 | true =>
  have hz : Hid (putLab (labL l) = putL l.length ++ putP (labL l)) := by show _ = _; unfold putLab; rw [hR, labL_len]; rfl
  have h8 : l.length ≤ 8 := by have := (rightLab_iff.1 hR).1; rwa [labL_len] at this
  have hU : U64 l.length := show l.length < _ by omega
  have hpl := putL_ten hU
  rw [hR] at C
  clear hR
  go_enter Tryz.func68, Tryz.ntmps68
  go_wp2_with fail
  refine C.mono ?_; rintro e w1 ⟨rfl, h1⟩
  clear C
  go_wp2_with fail
  refine (put_w l.length w1 hU).mono ?_; rintro e w2 ⟨rfl, h2⟩
  have e2 := h1.trans h2
  go_wp2
  go_loopw [3, 15] (fun s' i' wr => ∃ (k : Nat) (b : ByteArray), k ≤ l.length ∧ i' = .int .i64 k ∧ s' = .string b ∧ b.size ≤ 10 + k * 281474976702484 ∧ Ext w2 wr ∧ Hid (b.data.toList = putL l.length ++ putP ((labL l).take k))) (fun _ i' _ => l.length - (intOf i').toNat)
  case atStart => exact ⟨0, ⟨(putL l.length).toArray⟩, by omega, rfl, rfl, by rw [size_len]; exact hpl, Ext.refl _, by show _ = _; simp [putP]⟩
  case round =>
   obtain ⟨k, b, hk, rfl, rfl, hbs, hb, HB⟩ := hrel
   have er := e2.trans hb
   by_cases hlt : k < l.length
   ·obtain ⟨bb, off, rfl, hbl, c0, c1⟩ := (hx.ext er).at hlt
    have hfk := hf _ (pairAt_mem hlt)
    have s1 := textB_size _ hfk.1
    have s2 := textB_size _ hfk.2
    have hst : Hid ((b ++ (textB (pairAt l k).1 ++ textB (pairAt l k).2)).data.toList = putL l.length ++ putP ((labL l).take (k + 1))) := by
     show _ = _
     rw [putP_step (by rw [labL_len]; exact hlt), labL_at l hlt, data_append, data_append, HB.out, List.append_assoc]
     rfl
    have C1 : Hid (∀ U, Ext (wr.alloc (.cells #[.string (pairAt l k).1, .string (pairAt l k).2] 126)) U → Calls Tryz.prog 62 #[.string (pairAt l k).1] U fun e w' => e = .returned (.string (textB (pairAt l k).1)) ∧ Ext U w') := fun U _ => puttext_w _ U (by omega)
    have C2 : Hid (∀ U, Ext (wr.alloc (.cells #[.string (pairAt l k).1, .string (pairAt l k).2] 126)) U → Calls Tryz.prog 62 #[.string (pairAt l k).2] U fun e w' => e = .returned (.string (textB (pairAt l k).2)) ∧ Ext U w') := fun U _ => puttext_w _ U (by omega)
    have hW : Ext w2 (wr.alloc (.cells #[.string (pairAt l k).1, .string (pairAt l k).2] 126)) := hb.trans ((Ext.refl _).alloc _)
    generalize textB (pairAt l k).1 = t1 at *
    generalize textB (pairAt l k).2 = t2 at *
    go_wp2_with fail
    refine Dm.wp_region_grow (by kernel_rfl) (by kernel_rfl) ?_
    repeat (go_big_quiet_step (first
     | (go_at_call 62; with_reducible exact Calls.quietE (C1.out _ (ext_grow _ _)))
     | (go_at_call 62; with_reducible exact Calls.quietE (C2.out _ (ext_grow _ _)))))
    refine wpQuiet_nil ?_
    intro U hU
    have hU' := hW.trans hU
    clear C1 C2
    go_wp2
    go_roundw
    case rel => exact ⟨k + 1, _, by omega, by go_num, rfl, by rw [ByteArray.size_append, ByteArray.size_append]; omega, hU', hst⟩
    case measure => simp [intOf]; omega
   ·go_wp2
    go_ret
    obtain rfl : k = l.length := by omega
    have h := HB.out
    rw [← labL_len, List.take_length, labL_len, ← hz.out] at h
    exact ⟨by rw [← mk_bytes h]; rfl, er⟩

end Go.Proofs.YtefjdmjkofaajaaGreatDoor

namespace Go.Proofs.YtefjdmjkofaajaaGreatDoor
open Go.RowKit Go.Dm

/-- What the walks know of the package-level variables. -/
structure Vars (w : World) : Prop where
 tabs : Tabs w
 most : ∃ m, w.cell? ⟨5, 0, none⟩ = some (.int .i64 m)

theorem Vars.ext {w w' : World} (h : Vars w) (hb : Ext w w') : Vars w' := by
 refine ⟨h.tabs.ext hb, ?_⟩
 obtain ⟨m, hm⟩ := h.most
 exact ⟨m, by rw [hb.cell (by exact World.block_lt_of_cell? _ _ hm)]; exact hm⟩

end Go.Proofs.YtefjdmjkofaajaaGreatDoor

namespace Go.Dm
open Go Go.RowKit

end Go.Dm
namespace Go.Proofs.YtefjdmjkofaajaaGreatDoor
open Go.RowKit Go.Dm

theorem Tryz.eq_pair (a b c d : ByteArray) (w : World) : (Op.equalIn 10000 126 (.agg #[.string a, .string b]) (.agg #[.string c, .string d])).run Tryz.prog w = .ok (a.toList == c.toList && b.toList == d.toList) w := by
 rw [show (10000 : Nat) = 9999 + 1 from rfl, run_equalIn_agg w 9999 126 _ _ (by kernel_rfl) (by kernel_rfl)]
 simp only [Program.fieldsOf, Tryz.underlying126]
 cases h1 : (a.toList == c.toList) <;> cases h2 : (b.toList == d.toList) <;>
 simp [Op.eqFields, go_sem, h1, h2]

end Go.Proofs.YtefjdmjkofaajaaGreatDoor

namespace Go.Dm
open Go Go.RowKit
/-- A word turned right. -/
def turnW (x : Int) (n : Nat) : Int := Go.bits .or .u32 (IntKind.u32.wrap (x * 2 ^ (32 - n))) (x / 2 ^ n)
theorem rot_and {n : Nat} (hn : 1 ≤ n ∧ n ≤ 31) : Go.bits .and .u64 (IntKind.u64.wrap (-(n : Int))) 31 = ((32 - n : Nat) : Int) := by
 have h : ∀ k : Fin 31, Go.bits .and .u64 (IntKind.u64.wrap (-((k.val + 1 : Nat) : Int))) 31 = ((32 - (k.val + 1) : Nat) : Int) := by decide +kernel
 have := h ⟨n - 1, by omega⟩
 simpa [Nat.sub_add_cancel hn.1] using this
theorem rot_sub {n : Nat} (hn : 1 ≤ n ∧ n ≤ 31) : IntKind.u64.wrap (32 - ((32 - n : Nat) : Int)) = (n : Int) := by rw [IntKind.wrap_u64]; omega
end Go.Dm
namespace Go.Proofs.YtefjdmjkofaajaaGreatDoor
open Go.RowKit Go.Dm

theorem rot32_w (x : Int) (n : Nat) (hn : 1 ≤ n ∧ n ≤ 31) (w : World) :
  Calls Tryz.prog 160 #[.int .u32 x, .int .i64 (-(n : Int))] w fun e w' => e = .returned (.int .u32 (turnW x n)) ∧ Ext w w' := by
 have h1 := rot_and hn
 have h2 := rot_sub hn
 have h3 : (((32 - n : Nat) : Int)).toNat = 32 - n := by omega
 unfold turnW
 go_enter Tryz.func160, Tryz.ntmps160
 go_wp2
 go_ret
 exact ⟨rfl, Ext.refl _⟩
theorem turn_w (x : Int) (n : Nat) (hn : 1 ≤ n ∧ n ≤ 31) (w : World) :
  Calls Tryz.prog 136 #[.int .u32 x, .int .i64 (n : Nat)] w fun e w' => e = .returned (.int .u32 (turnW x n)) ∧ Ext w w' := by
 go_enter Tryz.func136, Tryz.ntmps136
 go_wp2_with fail
 refine (rot32_w x n hn _).mono ?_; rintro e w1 ⟨rfl, h1⟩
 go_wp2
 go_ret
 exact ⟨rfl, h1⟩
end Go.Proofs.YtefjdmjkofaajaaGreatDoor

namespace Go.Dm
open Go Go.RowKit

def xorW (x y : Int) : Int := Go.bits .xor .u32 x y
def andW (x y : Int) : Int := Go.bits .and .u32 x y
def orW (x y : Int) : Int := Go.bits .or .u32 x y
def at0 (l : List Int) (i : Nat) : Int := l.getD i 0
/-- The first words of a block. -/
def headW (B : List Int) (k : Nat) : Int := orW (orW (orW (at0 B (4 * k) * 16777216) (at0 B (4 * k + 1) * 65536)) (at0 B (4 * k + 2) * 256)) (at0 B (4 * k + 3))
/-- A word that is made of others. -/
def madeW (a x b y : Int) : Int := (a + xorW (xorW (turnW x 7) (turnW x 18)) (x / 8) + b + xorW (xorW (turnW y 17) (turnW y 19)) (y / 1024)) % 4294967296
/-- The first `k` words. -/
def wordsW (B : List Int) : Nat → List Int
 | 0 => []
 | k + 1 => wordsW B k ++ [if k < 16 then headW B k else madeW (at0 (wordsW B k) (k - 16)) (at0 (wordsW B k) (k - 15)) (at0 (wordsW B k) (k - 7)) (at0 (wordsW B k) (k - 2))]
theorem wordsW_len (B : List Int) (k : Nat) : (wordsW B k).length = k := by
 induction k with
 | zero => rfl
 | succ k ih => simp [wordsW, ih]
def roundsW : List Int := [1116352408, 1899447441, 3049323471, 3921009573, 961987163, 1508970993, 2453635748, 2870763221, 3624381080, 310598401, 607225278, 1426881987, 1925078388, 2162078206, 2614888103, 3248222580, 3835390401, 4022224774, 264347078, 604807628, 770255983, 1249150122, 1555081692, 1996064986, 2554220882, 2821834349, 2952996808, 3210313671, 3336571891, 3584528711, 113926993, 338241895, 666307205, 773529912, 1294757372, 1396182291, 1695183700, 1986661051, 2177026350, 2456956037, 2730485921, 2820302411, 3259730800, 3345764771, 3516065817, 3600352804, 4094571909, 275423344, 430227734, 506948616, 659060556, 883997877, 958139571, 1322822218, 1537002063, 1747873779, 1955562222, 2024104815, 2227730452, 2361852424, 2428436474, 2756734187, 3204031479, 3329325298]
def startW : List Int := [1779033703, 3144134277, 1013904242, 2773480762, 1359893119, 2600822924, 528734635, 1541459225]
def oneW (e v5 v6 v7 k w : Int) : Int := (v7 + xorW (xorW (turnW e 6) (turnW e 11)) (turnW e 25) + xorW (andW e v5) (andW (xorW IntKind.u32.max e) v6) + k + w) % 4294967296
def twoW (a v1 v2 : Int) : Int := (xorW (xorW (turnW a 2) (turnW a 13)) (turnW a 22) + xorW (xorW (andW a v1) (andW a v2)) (andW v1 v2)) % 4294967296
/-- One step. -/
def stepW (v : List Int) (k w : Int) : List Int :=
 [(oneW (at0 v 4) (at0 v 5) (at0 v 6) (at0 v 7) k w + twoW (at0 v 0) (at0 v 1) (at0 v 2)) % 4294967296, at0 v 0, at0 v 1, at0 v 2, (at0 v 3 + oneW (at0 v 4) (at0 v 5) (at0 v 6) (at0 v 7) k w) % 4294967296, at0 v 4, at0 v 5, at0 v 6]
def runW (h W : List Int) : Nat → List Int
 | 0 => h
 | k + 1 => stepW (runW h W k) (at0 roundsW k) (at0 W k)
theorem runW_len {h W : List Int} (hh : h.length = 8) (k : Nat) : (runW h W k).length = 8 := by
 cases k with
 | zero => exact hh
 | succ k => rfl
theorem eight {v : List Int} (h : v.length = 8) : v = [at0 v 0, at0 v 1, at0 v 2, at0 v 3, at0 v 4, at0 v 5, at0 v 6, at0 v 7] := by
 match v, h with
 | [_, _, _, _, _, _, _, _], _ => rfl
/-- The words, summed with those of before. -/
def sumW (v h : List Int) : List Int := List.zipWith (fun x y => (x + y) % 4294967296) v h
def blockW (h B : List Int) : List Int := sumW (runW h (wordsW B 64) 64) h
theorem blockW_len {h B : List Int} (hh : h.length = 8) : (blockW h B).length = 8 := by simp [blockW, sumW, runW_len hh, hh]
/-- The first `k` words summed. -/
def sumP (v h : List Int) (k : Nat) : List Int := (sumW v h).take k ++ v.drop k
theorem sumP_len {v h : List Int} (hv : v.length = 8) (hh : h.length = 8) {k : Nat} (hk : k ≤ 8) : (sumP v h k).length = 8 := by
 simp [sumP, sumW, hv, hh]; omega
theorem sumP_at {v h : List Int} (hv : v.length = 8) (hh : h.length = 8) {k : Nat} (hk : k < 8) : (sumP v h k).getD k 0 = at0 v k := by
 have hl : ((sumW v h).take k).length = k := by simp [sumW, hv, hh]; omega
 unfold sumP at0
 rw [List.getD_eq_getElem?_getD, List.getElem?_append_right (by omega), hl, Nat.sub_self, List.getElem?_drop, Nat.add_zero, List.getD_eq_getElem?_getD]
theorem sumP_set {v h : List Int} (hv : v.length = 8) (hh : h.length = 8) {k : Nat} (hk : k < 8) : (sumP v h k).set k ((at0 v k + at0 h k) % 4294967296) = sumP v h (k + 1) := by
 have hl : ((sumW v h).take k).length = k := by simp [sumW, hv, hh]; omega
 have hk1 : k < (sumW v h).length := by simp [sumW, hv, hh]; omega
 have hk2 : k < v.length := by omega
 have hk3 : k < h.length := by omega
 unfold sumP
 rw [List.set_append_right _ _ (by omega), hl, Nat.sub_self, List.drop_eq_getElem_cons hk2, List.set_cons_zero, List.take_add_one, List.getElem?_eq_getElem hk1]
 simp [sumW, at0, List.getD_eq_getElem?_getD, hk2, hk3]
theorem sumP_zero (v h : List Int) : sumP v h 0 = v := by simp [sumP]
theorem sumP_all {v h : List Int} (hv : v.length = 8) (hh : h.length = 8) : sumP v h 8 = sumW v h := by
 unfold sumP
 rw [List.take_of_length_le (by simp [sumW, hv, hh]), List.drop_of_length_le (by omega), List.append_nil]
end Go.Dm

namespace Go.Dm
open Go Go.RowKit
/-- Four cells that are read. -/
structure Rd4 (b a0 a1 a2 a3 : Nat) (v0 v1 v2 v3 : Value) (w : World) : Prop where
 lt : b < w.heap.size
 c0 : w.cell? ⟨b, a0, none⟩ = some v0
 c1 : w.cell? ⟨b, a1, none⟩ = some v1
 c2 : w.cell? ⟨b, a2, none⟩ = some v2
 c3 : w.cell? ⟨b, a3, none⟩ = some v3
theorem Rd4.ext {b a0 a1 a2 a3 : Nat} {v0 v1 v2 v3 : Value} {w w' : World} (h : Rd4 b a0 a1 a2 a3 v0 v1 v2 v3 w) (hx : Ext w w') : Rd4 b a0 a1 a2 a3 v0 v1 v2 v3 w' := by
 have hc : ∀ {i : Nat} {u}, w.cell? ⟨b, i, none⟩ = some u → w'.cell? ⟨b, i, none⟩ = some u := fun {i u} e => by rw [hx.cell (by exact h.lt)]; exact e
 exact ⟨Nat.lt_of_lt_of_le h.lt hx.size, hc h.c0, hc h.c1, hc h.c2, hc h.c3⟩
abbrev headZ (z0 z1 z2 z3 : Int) : Int := orW (orW (orW (z0 * 16777216) (z1 * 65536)) (z2 * 256)) z3
theorem wordsW_set {B : List Int} {k : Nat} (hk : k < 64) (z : Int) : (wordsW B k ++ List.replicate (64 - k) 0).set k z = wordsW B k ++ [z] ++ List.replicate (64 - (k + 1)) 0 := by
 rw [show 64 - k = (64 - (k + 1)) + 1 by omega, List.replicate_succ, List.set_append_right _ _ (by rw [wordsW_len]; omega), wordsW_len, Nat.sub_self, List.set_cons_zero]
 simp
end Go.Dm
namespace Go.Proofs.YtefjdmjkofaajaaGreatDoor
open Go.RowKit Go.Dm

set_option maxHeartbeats 2000000 in
set_option maxRecDepth 100000 in
theorem words_w (B : List Int) (hB : B.length = 64) (hr : ∀ i, 0 ≤ at0 B i ∧ at0 B i ≤ 255) (w : World) :
  Calls Tryz.prog 135 #[.agg (cellsI .u8 B)] w fun e w' => e = .returned (.agg (cellsI .u32 (wordsW B 64))) ∧ Ext w w' := by
 have hA := AB.new w 174 .u8 B
 have hE : Ext w (w.alloc (.cells (cellsI .u8 B) 174)) := (Ext.refl _).alloc _
 generalize hW1 : w.alloc (.cells (cellsI .u8 B) 174) = w1 at *
 have hR : AB w1.heap.size 202 .u32 (List.replicate 64 0) (w1.alloc (.cells #[.int .u32 0, .int .u32 0, .int .u32 0, .int .u32 0, .int .u32 0, .int .u32 0, .int .u32 0, .int .u32 0, .int .u32 0, .int .u32 0, .int .u32 0, .int .u32 0, .int .u32 0, .int .u32 0, .int .u32 0, .int .u32 0, .int .u32 0, .int .u32 0, .int .u32 0, .int .u32 0, .int .u32 0, .int .u32 0, .int .u32 0, .int .u32 0, .int .u32 0, .int .u32 0, .int .u32 0, .int .u32 0, .int .u32 0, .int .u32 0, .int .u32 0, .int .u32 0, .int .u32 0, .int .u32 0, .int .u32 0, .int .u32 0, .int .u32 0, .int .u32 0, .int .u32 0, .int .u32 0, .int .u32 0, .int .u32 0, .int .u32 0, .int .u32 0, .int .u32 0, .int .u32 0, .int .u32 0, .int .u32 0, .int .u32 0, .int .u32 0, .int .u32 0, .int .u32 0, .int .u32 0, .int .u32 0, .int .u32 0, .int .u32 0, .int .u32 0, .int .u32 0, .int .u32 0, .int .u32 0, .int .u32 0, .int .u32 0, .int .u32 0, .int .u32 0] 202)) := AB.new w1 202 .u32 (List.replicate 64 0)
 have e2 : Ext w1 (w1.alloc (.cells #[.int .u32 0, .int .u32 0, .int .u32 0, .int .u32 0, .int .u32 0, .int .u32 0, .int .u32 0, .int .u32 0, .int .u32 0, .int .u32 0, .int .u32 0, .int .u32 0, .int .u32 0, .int .u32 0, .int .u32 0, .int .u32 0, .int .u32 0, .int .u32 0, .int .u32 0, .int .u32 0, .int .u32 0, .int .u32 0, .int .u32 0, .int .u32 0, .int .u32 0, .int .u32 0, .int .u32 0, .int .u32 0, .int .u32 0, .int .u32 0, .int .u32 0, .int .u32 0, .int .u32 0, .int .u32 0, .int .u32 0, .int .u32 0, .int .u32 0, .int .u32 0, .int .u32 0, .int .u32 0, .int .u32 0, .int .u32 0, .int .u32 0, .int .u32 0, .int .u32 0, .int .u32 0, .int .u32 0, .int .u32 0, .int .u32 0, .int .u32 0, .int .u32 0, .int .u32 0, .int .u32 0, .int .u32 0, .int .u32 0, .int .u32 0, .int .u32 0, .int .u32 0, .int .u32 0, .int .u32 0, .int .u32 0, .int .u32 0, .int .u32 0, .int .u32 0] 202)) := (Ext.refl _).alloc _
 replace hA := hA.ext e2
 replace hE := hE.trans e2
 clear e2
 generalize hW2 : w1.alloc (.cells #[.int .u32 0, .int .u32 0, .int .u32 0, .int .u32 0, .int .u32 0, .int .u32 0, .int .u32 0, .int .u32 0, .int .u32 0, .int .u32 0, .int .u32 0, .int .u32 0, .int .u32 0, .int .u32 0, .int .u32 0, .int .u32 0, .int .u32 0, .int .u32 0, .int .u32 0, .int .u32 0, .int .u32 0, .int .u32 0, .int .u32 0, .int .u32 0, .int .u32 0, .int .u32 0, .int .u32 0, .int .u32 0, .int .u32 0, .int .u32 0, .int .u32 0, .int .u32 0, .int .u32 0, .int .u32 0, .int .u32 0, .int .u32 0, .int .u32 0, .int .u32 0, .int .u32 0, .int .u32 0, .int .u32 0, .int .u32 0, .int .u32 0, .int .u32 0, .int .u32 0, .int .u32 0, .int .u32 0, .int .u32 0, .int .u32 0, .int .u32 0, .int .u32 0, .int .u32 0, .int .u32 0, .int .u32 0, .int .u32 0, .int .u32 0, .int .u32 0, .int .u32 0, .int .u32 0, .int .u32 0, .int .u32 0, .int .u32 0, .int .u32 0, .int .u32 0] 202) = w2 at *
 have hC : AB w2.heap.size 202 .u32 (List.replicate 64 0) (w2.alloc (.cells #[.int .u32 0, .int .u32 0, .int .u32 0, .int .u32 0, .int .u32 0, .int .u32 0, .int .u32 0, .int .u32 0, .int .u32 0, .int .u32 0, .int .u32 0, .int .u32 0, .int .u32 0, .int .u32 0, .int .u32 0, .int .u32 0, .int .u32 0, .int .u32 0, .int .u32 0, .int .u32 0, .int .u32 0, .int .u32 0, .int .u32 0, .int .u32 0, .int .u32 0, .int .u32 0, .int .u32 0, .int .u32 0, .int .u32 0, .int .u32 0, .int .u32 0, .int .u32 0, .int .u32 0, .int .u32 0, .int .u32 0, .int .u32 0, .int .u32 0, .int .u32 0, .int .u32 0, .int .u32 0, .int .u32 0, .int .u32 0, .int .u32 0, .int .u32 0, .int .u32 0, .int .u32 0, .int .u32 0, .int .u32 0, .int .u32 0, .int .u32 0, .int .u32 0, .int .u32 0, .int .u32 0, .int .u32 0, .int .u32 0, .int .u32 0, .int .u32 0, .int .u32 0, .int .u32 0, .int .u32 0, .int .u32 0, .int .u32 0, .int .u32 0, .int .u32 0] 202)) := AB.new w2 202 .u32 (List.replicate 64 0)
 have e2 : Ext w2 (w2.alloc (.cells #[.int .u32 0, .int .u32 0, .int .u32 0, .int .u32 0, .int .u32 0, .int .u32 0, .int .u32 0, .int .u32 0, .int .u32 0, .int .u32 0, .int .u32 0, .int .u32 0, .int .u32 0, .int .u32 0, .int .u32 0, .int .u32 0, .int .u32 0, .int .u32 0, .int .u32 0, .int .u32 0, .int .u32 0, .int .u32 0, .int .u32 0, .int .u32 0, .int .u32 0, .int .u32 0, .int .u32 0, .int .u32 0, .int .u32 0, .int .u32 0, .int .u32 0, .int .u32 0, .int .u32 0, .int .u32 0, .int .u32 0, .int .u32 0, .int .u32 0, .int .u32 0, .int .u32 0, .int .u32 0, .int .u32 0, .int .u32 0, .int .u32 0, .int .u32 0, .int .u32 0, .int .u32 0, .int .u32 0, .int .u32 0, .int .u32 0, .int .u32 0, .int .u32 0, .int .u32 0, .int .u32 0, .int .u32 0, .int .u32 0, .int .u32 0, .int .u32 0, .int .u32 0, .int .u32 0, .int .u32 0, .int .u32 0, .int .u32 0, .int .u32 0, .int .u32 0] 202)) := (Ext.refl _).alloc _
 replace hA := hA.ext e2
 replace hR := hR.ext e2
 replace hE := hE.trans e2
 clear e2
 generalize hW3 : w2.alloc (.cells #[.int .u32 0, .int .u32 0, .int .u32 0, .int .u32 0, .int .u32 0, .int .u32 0, .int .u32 0, .int .u32 0, .int .u32 0, .int .u32 0, .int .u32 0, .int .u32 0, .int .u32 0, .int .u32 0, .int .u32 0, .int .u32 0, .int .u32 0, .int .u32 0, .int .u32 0, .int .u32 0, .int .u32 0, .int .u32 0, .int .u32 0, .int .u32 0, .int .u32 0, .int .u32 0, .int .u32 0, .int .u32 0, .int .u32 0, .int .u32 0, .int .u32 0, .int .u32 0, .int .u32 0, .int .u32 0, .int .u32 0, .int .u32 0, .int .u32 0, .int .u32 0, .int .u32 0, .int .u32 0, .int .u32 0, .int .u32 0, .int .u32 0, .int .u32 0, .int .u32 0, .int .u32 0, .int .u32 0, .int .u32 0, .int .u32 0, .int .u32 0, .int .u32 0, .int .u32 0, .int .u32 0, .int .u32 0, .int .u32 0, .int .u32 0, .int .u32 0, .int .u32 0, .int .u32 0, .int .u32 0, .int .u32 0, .int .u32 0, .int .u32 0, .int .u32 0] 202) = w3 at *
 have hsz := size_cellsI .u8 B
 rw [hB] at hsz
 have hb12 : w.heap.size < w1.heap.size := by rw [← hW1, World.size_alloc]; omega
 have hb23 : w1.heap.size < w2.heap.size := by rw [← hW2, World.size_alloc]; omega
 go_enter Tryz.func135, Tryz.ntmps135
 go_wp2
 clear hW1 hW2 hW3 hsz
 obtain ⟨bA, hbA⟩ : ∃ x, x = w.heap.size := ⟨_, rfl⟩
 obtain ⟨bR, hbR⟩ : ∃ x, x = w1.heap.size := ⟨_, rfl⟩
 obtain ⟨bC, hbC⟩ : ∃ x, x = w2.heap.size := ⟨_, rfl⟩
 have hwA : w.heap.size ≤ bA := by omega
 rw [← hbA, ← hbR] at hb12
 rw [← hbR, ← hbC] at hb23
 rw [← hbA] at hA
 rw [← hbR] at hR
 rw [← hbC] at hC
 rw [← hbA, ← hbR, ← hbC]
 clear hbA hbR hbC
 go_loopw [7] (fun i wr => ∃ k : Nat, k ≤ 64 ∧ i = .int .i64 k ∧ Ext w wr ∧ AB bA 174 .u8 B wr ∧ AB bR 202 .u32 (List.replicate 64 0) wr ∧ AB bC 202 .u32 (wordsW B k ++ List.replicate (64 - k) 0) wr) (fun i _ => 64 - (intOf i).toNat)
 case atStart => exact ⟨0, by omega, rfl, hE, hA, hR, hC⟩
 case round =>
  obtain ⟨k, hk, rfl, h1, h2, h3, h4⟩ := hrel
  by_cases hlt : k < 64
  ·have hwl := wordsW_len B k
   have hCl : k < (wordsW B k ++ List.replicate (64 - k) 0).length := by simp [hwl]; omega
   by_cases h16 : k < 16
   ·have a4 : 4 * k + 3 < B.length := by omega
    have HI : Rd4 bA (4 * k) (4 * k + 1) (4 * k + 2) (4 * k + 3) (.int .u8 (at0 B (4 * k))) (.int .u8 (at0 B (4 * k + 1))) (.int .u8 (at0 B (4 * k + 2))) (.int .u8 (at0 B (4 * k + 3))) wr :=
     ⟨h2.lt, h2.cell (by omega), h2.cell (by omega), h2.cell (by omega), h2.cell (by omega)⟩
    have hnew : (wordsW B k ++ List.replicate (64 - k) 0).set k (headW B k) = wordsW B (k + 1) ++ List.replicate (64 - (k + 1)) 0 := by
     rw [wordsW_set hlt]
     simp [wordsW, h16]
    unfold headW at hnew
    obtain ⟨r00, r01⟩ := hr (4 * k)
    obtain ⟨r10, r11⟩ := hr (4 * k + 1)
    obtain ⟨r20, r21⟩ := hr (4 * k + 2)
    obtain ⟨r30, r31⟩ := hr (4 * k + 3)
    generalize at0 B (4 * k) = z0 at *
    generalize at0 B (4 * k + 1) = z1 at *
    generalize at0 B (4 * k + 2) = z2 at *
    generalize at0 B (4 * k + 3) = z3 at *
    replace hnew := Lib.hid hnew
    go_upto_region 6 with fail
    have ke : Hid (IntKind.i64.wrap (k : Int) = k) := wrap_nat (by omega)
    try simp only [Act.put, List.setIfInBounds_toArray, List.set_cons_succ, List.set_cons_zero]
    refine Dm.wp_region_fin (I := (Rd4 bA (4 * k) (4 * k + 1) (4 * k + 2) (4 * k + 3) (.int .u8 z0) (.int .u8 z1) (.int .u8 z2) (.int .u8 z3))) (z := 31) 32 (Dm.bits 32 0) (by kernel_rfl) (by kernel_rfl) (by kernel_rfl) ?_
    refine tfs (List.range' 0 31) 2147483647 1 (fun _ _ h hx => h.ext hx) HI ?_ (hq := by intro wq hwq; obtain ⟨q0, q1, q2, q3, q4⟩ := hwq; (repeat go_big_quiet_step (fail)); exact wpQuiet_nil rfl)
    refine Dm.wpF_one (i := 31) (listed' := (Dm.bits 32 4294967295)) (by kernel_rfl) (by kernel_rfl) rfl (fun wz hxz => ?_)
    have cC := (h4.ext hxz).cell hCl
    have fC := (h4.ext hxz).free k
    have lC := (h4.ext hxz).lt
    go_wp2_with fail
    first | refine ⟨fun h => absurd rfl h, ?_⟩ | skip
    refine Dm.wpF_done (by kernel_rfl) (fun wy hxy => ?_)
    clear cC fC lC HI
    have hxy : Ext (wz.setCell ⟨bC, k, none⟩ (.int .u32 (headZ z0 z1 z2 z3))) wy := hxy
    have g4 := hnew.out ▸ (h4.ext hxz).set k (headZ z0 z1 z2 z3)
    have g4 := AB.ext g4 hxy
    have g3 := ((h3.ext hxz).far (c := bC) (i := k) (by omega) (.int .u32 (headZ z0 z1 z2 z3))).ext hxy
    have g2 := ((h2.ext hxz).far (c := bC) (i := k) (by omega) (.int .u32 (headZ z0 z1 z2 z3))).ext hxy
    have g1 := Ext.trans (show Ext w (wz.setCell ⟨bC, k, none⟩ (.int .u32 (headZ z0 z1 z2 z3))) from Below.setCell (h1.trans hxz) (by show _ ≤ bC; omega) _) hxy
    clear h1 h2 h3 h4 hxz hxy hnew
    go_wp2
    go_roundw
    case rel => exact ⟨k + 1, by omega, by go_num, g1, g2, g3, g4⟩
    case measure => simp [intOf]; omega
   ·have n1 : k - 15 < k := by omega
    have n2 : k - 2 < k := by omega
    have n3 : k - 16 < k := by omega
    have n4 : k - 7 < k := by omega
    have hat : ∀ j, j < k → (wordsW B k ++ List.replicate (64 - k) 0).getD j 0 = at0 (wordsW B k) j := fun j hj => by
     unfold at0
     simp [List.getD_eq_getElem?_getD, List.getElem?_append_left, hwl, hj]
    have HI : Rd4 bC (k - 15) (k - 2) (k - 16) (k - 7) (.int .u32 (at0 (wordsW B k) (k - 15))) (.int .u32 (at0 (wordsW B k) (k - 2))) (.int .u32 (at0 (wordsW B k) (k - 16))) (.int .u32 (at0 (wordsW B k) (k - 7))) wr :=
     ⟨h4.lt, by rw [← hat _ n1]; exact h4.cell (by omega), by rw [← hat _ n2]; exact h4.cell (by omega), by rw [← hat _ n3]; exact h4.cell (by omega), by rw [← hat _ n4]; exact h4.cell (by omega)⟩
    have hnew : (wordsW B k ++ List.replicate (64 - k) 0).set k (madeW (at0 (wordsW B k) (k - 16)) (at0 (wordsW B k) (k - 15)) (at0 (wordsW B k) (k - 7)) (at0 (wordsW B k) (k - 2))) = wordsW B (k + 1) ++ List.replicate (64 - (k + 1)) 0 := by
     rw [wordsW_set hlt]
     simp [wordsW, h16]
    clear hat hwl
    generalize wordsW B k ++ List.replicate (64 - k) 0 = WL at *
    obtain ⟨WN, hWN⟩ : ∃ WN, wordsW B (k + 1) ++ List.replicate (64 - (k + 1)) 0 = WN := ⟨_, rfl⟩
    rw [hWN] at hnew
    replace hWN := Lib.hid hWN
    generalize at0 (wordsW B k) (k - 16) = za at *
    generalize at0 (wordsW B k) (k - 15) = zx at *
    generalize at0 (wordsW B k) (k - 7) = zb at *
    generalize at0 (wordsW B k) (k - 2) = zy at *
    replace hnew := Lib.hid hnew
    have T7 := fun U => turn_w zx 7 (by omega) U
    have T18 := fun U => turn_w zx 18 (by omega) U
    have T17 := fun U => turn_w zy 17 (by omega) U
    have T19 := fun U => turn_w zy 19 (by omega) U
    replace T7 := Lib.hid T7
    replace T18 := Lib.hid T18
    replace T17 := Lib.hid T17
    replace T19 := Lib.hid T19
    go_upto_region 7 with fail
    have e15 : (k : Int) - 15 = ((k - 15 : Nat) : Int) := by omega
    have e2 : (k : Int) - 2 = ((k - 2 : Nat) : Int) := by omega
    have e16 : (k : Int) - 16 = ((k - 16 : Nat) : Int) := by omega
    have e7 : (k : Int) - 7 = ((k - 7 : Nat) : Int) := by omega
    obtain ⟨i1, i2, i3, i4, i5⟩ := id HI
    try simp only [Act.put, List.setIfInBounds_toArray, List.set_cons_succ, List.set_cons_zero]
    refine Dm.wp_region_ext 10 (Dm.bits 10 0) (Ext.refl wr) (by kernel_rfl) (by kernel_rfl) (by kernel_rfl) ?_
    refine tks (List.range' 0 10) 1023 0 ?_
    refine Dm.wpE_done (by kernel_rfl) (Ext.refl wr) (fun w1a hx1a => ?_)
    have hX1a := Ext.trans (Ext.refl wr) hx1a
    go_upto_region 8 with fail
    clear i1 i2 i3 i4 i5 hx1a
    replace HI := HI.ext hX1a
    replace h1 := h1.trans hX1a
    replace h2 := h2.ext hX1a
    replace h3 := h3.ext hX1a
    replace h4 := h4.ext hX1a
    try simp only [Act.put, List.setIfInBounds_toArray, List.set_cons_succ, List.set_cons_zero]
    refine Dm.wp_region_fin (I := (Rd4 bC (k - 15) (k - 2) (k - 16) (k - 7) (.int .u32 zx) (.int .u32 zy) (.int .u32 za) (.int .u32 zb))) (z := 29) 30 (Dm.bits 30 0) (by kernel_rfl) (by kernel_rfl) (by kernel_rfl) ?_
    refine tfs (List.range' 0 29) 536870911 1 (fun _ _ h hx => h.ext hx) HI ?_ (hq := by intro wq hwq; obtain ⟨q0, q1, q2, q3, q4⟩ := hwq; (repeat go_big_quiet_step ((go_at_call 136; with_reducible first | exact Calls.quietE (T7.out _) | exact Calls.quietE (T18.out _) | exact Calls.quietE (T17.out _) | exact Calls.quietE (T19.out _)))); exact wpQuiet_nil rfl)
    refine Dm.wpF_one (i := 29) (listed' := (Dm.bits 30 1073741823)) (by kernel_rfl) (by kernel_rfl) rfl (fun wz hxz => ?_)
    have cC := (h4.ext hxz).cell hCl
    have fC := (h4.ext hxz).free k
    have lC := (h4.ext hxz).lt
    go_wp2_with fail
    first | refine ⟨fun h => absurd rfl h, ?_⟩ | skip
    refine Dm.wpF_done (by kernel_rfl) (fun wy hxy => ?_)
    clear cC fC lC HI
    have hxy : Ext (wz.setCell ⟨bC, k, none⟩ (.int .u32 (madeW za zx zb zy))) wy := hxy
    have g4 := hnew.out ▸ (h4.ext hxz).set k (madeW za zx zb zy)
    have g4 := AB.ext g4 hxy
    rw [← hWN.out] at g4
    have g3 := ((h3.ext hxz).far (c := bC) (i := k) (by omega) (.int .u32 (madeW za zx zb zy))).ext hxy
    have g2 := ((h2.ext hxz).far (c := bC) (i := k) (by omega) (.int .u32 (madeW za zx zb zy))).ext hxy
    have g1 := Ext.trans (show Ext w (wz.setCell ⟨bC, k, none⟩ (.int .u32 (madeW za zx zb zy))) from Below.setCell (h1.trans hxz) (by show _ ≤ bC; omega) _) hxy
    clear h1 h2 h3 h4 hxz hxy hnew e15 e2 e16 e7 hX1a
    go_wp2
    go_roundw
    case rel => exact ⟨k + 1, by omega, by go_num, g1, g2, g3, g4⟩
    case measure => simp [intOf]; omega
  ·have hge : ¬ ((k : Int) < 64) := by omega
   have h4 : AB bC 202 .u32 (wordsW B 64) wr := by
    have e : k = 64 := by omega
    rw [e, Nat.sub_self, List.replicate_zero, List.append_nil] at h4
    exact h4
   have hlen := wordsW_len B 64
   obtain ⟨WF, hWF⟩ : ∃ WF, wordsW B 64 = WF := ⟨_, rfl⟩
   rw [hWF] at h4 hlen
   replace hWF := Lib.hid hWF
   have sF : (cellsI .u32 WF).size = 64 := by rw [size_cellsI]; exact hlen
   have sR : (cellsI .u32 (List.replicate 64 0)).size = 64 := by rw [size_cellsI]; rfl
   have hout := h3.setRow WF
   have hxo : Ext w (wr.setRow bR (cellsI .u32 WF)) := Ext.setRow h1 (by omega) _
   go_wp2_with (first | (refine wpList_load_row rfl _ _ rfl bC rfl _ _ _ _ h4 Tryz.underlying202 rfl (by rw [sF]; kernel_rfl) ?_) | (refine wpList_store_row rfl _ _ _ rfl bR _ rfl rfl _ _ h3 (by rw [sF]; kernel_rfl) (by rw [sF, sR]) (one_cellsI _ _) ?_))
   refine bodyPost_ret (v := .agg (cellsI .u32 WF)) (results_cell_row rfl _ _ _ _ _ _ _ rfl hout Tryz.underlying202 rfl (by rw [sF]; kernel_rfl)) rfl ?_
   exact ⟨by rw [hWF.out], hxo⟩
end Go.Proofs.YtefjdmjkofaajaaGreatDoor

namespace Go.Proofs.YtefjdmjkofaajaaGreatDoor
open Go.RowKit Go.Dm

/-- What the walks know of chapter 6's variables. -/
structure ShaV (w : World) : Prop where
 rlt : 4 < w.heap.size
 rounds : ∀ {k : Nat}, k < 64 → w.cell? ⟨4, k, none⟩ = some (.int .u32 (at0 roundsW k))
 slt : 3 < w.heap.size
 start : ∀ {k : Nat}, k < 8 → w.cell? ⟨3, k, none⟩ = some (.int .u32 (at0 startW k))
theorem ShaV.ext {w w' : World} (h : ShaV w) (hx : Ext w w') : ShaV w' :=
 ⟨Nat.lt_of_lt_of_le h.rlt hx.size, fun hk => by rw [hx.cell (by exact h.rlt)]; exact h.rounds hk, Nat.lt_of_lt_of_le h.slt hx.size, fun hk => by rw [hx.cell (by exact h.slt)]; exact h.start hk⟩

set_option maxHeartbeats 1500000 in
set_option maxRecDepth 100000 in
theorem block_w (h B : List Int) (hh : h.length = 8) (hB : B.length = 64) (hr : ∀ i, 0 ≤ at0 B i ∧ at0 B i ≤ 255) (w : World) (hv : ShaV w) :
  Calls Tryz.prog 108 #[.agg (cellsI .u32 h), .agg (cellsI .u8 B)] w fun e w' => e = .returned (.agg (cellsI .u32 (blockW h B))) ∧ Ext w w' := by
 have hE : Ext w w := Ext.refl w
 have hx := hv
 have hH : AB w.heap.size 173 .u32 h (w.alloc (.cells (cellsI .u32 h) 173)) := AB.new w 173 .u32 h
 have en : Ext w (w.alloc (.cells (cellsI .u32 h) 173)) := (Ext.refl _).alloc _
 replace hE := hE.trans en
 clear en
 generalize hw1 : w.alloc (.cells (cellsI .u32 h) 173) = w1 at *
 have hB' : AB w1.heap.size 174 .u8 B (w1.alloc (.cells (cellsI .u8 B) 174)) := AB.new w1 174 .u8 B
 have en : Ext w1 (w1.alloc (.cells (cellsI .u8 B) 174)) := (Ext.refl _).alloc _
 replace hE := hE.trans en
 replace hH := hH.ext en
 clear en
 generalize hw2 : w1.alloc (.cells (cellsI .u8 B) 174) = w2 at *
 have hR : AB w2.heap.size 173 .u32 (List.replicate 8 0) (w2.alloc (.cells #[.int .u32 0, .int .u32 0, .int .u32 0, .int .u32 0, .int .u32 0, .int .u32 0, .int .u32 0, .int .u32 0] 173)) := AB.new w2 173 .u32 (List.replicate 8 0)
 have en : Ext w2 (w2.alloc (.cells #[.int .u32 0, .int .u32 0, .int .u32 0, .int .u32 0, .int .u32 0, .int .u32 0, .int .u32 0, .int .u32 0] 173)) := (Ext.refl _).alloc _
 replace hE := hE.trans en
 replace hH := hH.ext en
 replace hB' := hB'.ext en
 clear en
 generalize hw3 : w2.alloc (.cells #[.int .u32 0, .int .u32 0, .int .u32 0, .int .u32 0, .int .u32 0, .int .u32 0, .int .u32 0, .int .u32 0] 173) = w3 at *
 have hH3 := hH
 have hV : AB w3.heap.size 173 .u32 (List.replicate 8 0) (w3.alloc (.cells #[.int .u32 0, .int .u32 0, .int .u32 0, .int .u32 0, .int .u32 0, .int .u32 0, .int .u32 0, .int .u32 0] 173)) := AB.new w3 173 .u32 (List.replicate 8 0)
 have en : Ext w3 (w3.alloc (.cells #[.int .u32 0, .int .u32 0, .int .u32 0, .int .u32 0, .int .u32 0, .int .u32 0, .int .u32 0, .int .u32 0] 173)) := (Ext.refl _).alloc _
 replace hE := hE.trans en
 replace hH := hH.ext en
 replace hB' := hB'.ext en
 replace hR := hR.ext en
 clear en
 generalize hw4 : w3.alloc (.cells #[.int .u32 0, .int .u32 0, .int .u32 0, .int .u32 0, .int .u32 0, .int .u32 0, .int .u32 0, .int .u32 0] 173) = w4 at *
 have b12 : w.heap.size < w1.heap.size := by rw [← hw1, World.size_alloc]; omega
 have b23 : w1.heap.size < w2.heap.size := by rw [← hw2, World.size_alloc]; omega
 have b34 : w2.heap.size < w3.heap.size := by rw [← hw3, World.size_alloc]; omega
 obtain ⟨bH, hbH⟩ : ∃ x, x = w.heap.size := ⟨_, rfl⟩
 obtain ⟨bB, hbB⟩ : ∃ x, x = w1.heap.size := ⟨_, rfl⟩
 obtain ⟨bR, hbR⟩ : ∃ x, x = w2.heap.size := ⟨_, rfl⟩
 obtain ⟨bV, hbV⟩ : ∃ x, x = w3.heap.size := ⟨_, rfl⟩
 have hwH : w.heap.size ≤ bH := by omega
 rw [← hbH] at hH hH3 b12
 rw [← hbB] at hB' b12 b23
 rw [← hbR] at hR b23 b34
 rw [← hbV] at hV b34
 replace hbH := hbH.symm
 replace hbB := hbB.symm
 replace hbR := hbR.symm
 replace hbV := hbV.symm
 have sh : (cellsI .u32 h).size = 8 := by rw [size_cellsI, hh]
 have sb : (cellsI .u8 B).size = 64 := by rw [size_cellsI, hB]
 have sz : (cellsI .u32 (List.replicate 8 0)).size = 8 := rfl
 have CW := Lib.hid (fun U => words_w B hB hr U)
 have hwl := wordsW_len B 64
 have hbk : blockW h B = sumW (runW h (wordsW B 64) 64) h := rfl
 generalize blockW h B = BF at *
 generalize wordsW B 64 = WF at *
 replace hbk := Lib.hid hbk
 have hE2 : Ext w (w4.setRow bV (cellsI .u32 h)) := Ext.setRow hE (by omega) _
 have hV2 := hV.setRow h
 have hH2 := hH.farRow (c := bV) (by omega) (cellsI .u32 h)
 have hB2 := hB'.farRow (c := bV) (by omega) (cellsI .u32 h)
 have hR2 := hR.farRow (c := bV) (by omega) (cellsI .u32 h)
 go_enter Tryz.func108, Tryz.ntmps108
 go_wp2_with (first | (refine wpList_load_row rfl 173 _ rfl bH rfl _ _ _ _ hH3 Tryz.underlying173 rfl (by rw [sh]; kernel_rfl) ?_) | (refine wpList_store_row rfl 173 _ _ rfl bV _ rfl rfl _ _ hV (by rw [sh]; kernel_rfl) (by rw [sh]; rfl) (one_cellsI _ _) ?_) | (refine wpList_load_row rfl 174 _ rfl bB rfl _ _ _ _ hB2 Tryz.underlying174 rfl (by rw [sb]; kernel_rfl) ?_))
 clear hw1 hw2 hw3 hw4 hbH hbB hbR hbV
 clear hE hV hH hB' hR hH3
 generalize w4.setRow bV (cellsI .u32 h) = w5 at *
 refine (CW.out _).mono ?_; rintro e w6 ⟨rfl, h6⟩
 replace hE2 := hE2.trans h6
 replace hV2 := hV2.ext h6
 replace hH2 := hH2.ext h6
 replace hR2 := hR2.ext h6
 clear h6 hB2 sb
 go_wp2
 go_loopw [16] (fun i wr => ∃ k : Nat, k ≤ 64 ∧ i = .int .i64 k ∧ Ext w wr ∧ AB bH 173 .u32 h wr ∧ AB bR 173 .u32 (List.replicate 8 0) wr ∧ AB bV 173 .u32 (runW h WF k) wr) (fun i _ => 64 - (intOf i).toNat)
 case atStart => exact ⟨0, by omega, rfl, hE2, hH2, hR2, hV2⟩
 case round =>
  obtain ⟨k, hk, rfl, h1, h2, h3, h4⟩ := hrel
  by_cases hlt : k < 64
  ·have hidx := fun U => run_index_cells (P := Tryz.prog) (k := .u32) (l := WF) (i := k) Tryz.underlying202 Tryz.underlying172 (by kernel_rfl) (by omega) (by omega) U
   change ∀ U, _ = Result.ok (Value.int .u32 (at0 WF k)) U at hidx
   have hnx : runW h WF (k + 1) = stepW (runW h WF k) (at0 roundsW k) (at0 WF k) := rfl
   have hl8 := runW_len (W := WF) hh k
   have h8 := eight hl8
   unfold stepW at hnx
   obtain ⟨VN, hVN⟩ : ∃ VN, VN = runW h WF (k + 1) := ⟨_, rfl⟩
   rw [← hVN] at hnx
   generalize runW h WF k = VK at *
   replace hVN := Lib.hid hVN
   generalize at0 VK 0 = v0 at *
   generalize at0 VK 1 = v1 at *
   generalize at0 VK 2 = v2 at *
   generalize at0 VK 3 = v3 at *
   generalize at0 VK 4 = v4 at *
   generalize at0 VK 5 = v5 at *
   generalize at0 VK 6 = v6 at *
   generalize at0 VK 7 = v7 at *
   subst h8
   have hk1 := (hv.ext h1).rounds hlt
   have hgl := (hv.ext h1).rlt
   generalize at0 WF k = wk at *
   obtain ⟨rk, hrk⟩ : ∃ rk, rk = at0 roundsW k := ⟨_, rfl⟩
   rw [← hrk] at hk1
   rw [← hrk] at hnx
   replace hrk := Lib.hid hrk
   clear hk1 hgl
   replace hnx := Lib.hid hnx
   have T := Lib.hid (fun (x : Int) (n : Nat) (hn : 1 ≤ n ∧ n ≤ 31) U => turn_w x n hn U)
   go_upto_region 5 with fail
   have lV := h4.lt
   have c0 : wr.cell? ⟨bV, 0, none⟩ = some (.int .u32 v0) := h4.cell (i := 0) (by simp)
   have c1 : wr.cell? ⟨bV, 1, none⟩ = some (.int .u32 v1) := h4.cell (i := 1) (by simp)
   have c2 : wr.cell? ⟨bV, 2, none⟩ = some (.int .u32 v2) := h4.cell (i := 2) (by simp)
   have c3 : wr.cell? ⟨bV, 3, none⟩ = some (.int .u32 v3) := h4.cell (i := 3) (by simp)
   have c4 : wr.cell? ⟨bV, 4, none⟩ = some (.int .u32 v4) := h4.cell (i := 4) (by simp)
   have c5 : wr.cell? ⟨bV, 5, none⟩ = some (.int .u32 v5) := h4.cell (i := 5) (by simp)
   have c6 : wr.cell? ⟨bV, 6, none⟩ = some (.int .u32 v6) := h4.cell (i := 6) (by simp)
   have c7 : wr.cell? ⟨bV, 7, none⟩ = some (.int .u32 v7) := h4.cell (i := 7) (by simp)
   try simp only [Act.put, List.setIfInBounds_toArray, List.set_cons_succ, List.set_cons_zero]
   refine Dm.wp_region_ext 6 (Dm.bits 6 0) (Ext.refl wr) (by kernel_rfl) (by kernel_rfl) (by kernel_rfl) ?_
   refine tks [0, 1, 2, 3, 4, 5] 63 0 ?_
   refine Dm.wpE_done (by kernel_rfl) (Ext.refl wr) (fun w1a hx1a => ?_)
   have hX1a := Ext.trans (Ext.refl wr) hx1a
   clear lV c0 c1 c2 c3 c4 c5 c6 c7 hx1a
   replace h1 := h1.trans hX1a
   replace h2 := h2.ext hX1a
   replace h3 := h3.ext hX1a
   replace h4 := h4.ext hX1a
   have hk1 := (hv.ext h1).rounds hlt
   have hgl := (hv.ext h1).rlt
   rw [← hrk.out] at hk1
   clear hX1a
   obtain ⟨wp, rfl⟩ : ∃ x, x = w1a := ⟨_, rfl⟩
   go_upto_region 6 with fail
   have lV := h4.lt
   have c0 : wp.cell? ⟨bV, 0, none⟩ = some (.int .u32 v0) := h4.cell (i := 0) (by simp)
   have c1 : wp.cell? ⟨bV, 1, none⟩ = some (.int .u32 v1) := h4.cell (i := 1) (by simp)
   have c2 : wp.cell? ⟨bV, 2, none⟩ = some (.int .u32 v2) := h4.cell (i := 2) (by simp)
   have c3 : wp.cell? ⟨bV, 3, none⟩ = some (.int .u32 v3) := h4.cell (i := 3) (by simp)
   have c4 : wp.cell? ⟨bV, 4, none⟩ = some (.int .u32 v4) := h4.cell (i := 4) (by simp)
   have c5 : wp.cell? ⟨bV, 5, none⟩ = some (.int .u32 v5) := h4.cell (i := 5) (by simp)
   have c6 : wp.cell? ⟨bV, 6, none⟩ = some (.int .u32 v6) := h4.cell (i := 6) (by simp)
   have c7 : wp.cell? ⟨bV, 7, none⟩ = some (.int .u32 v7) := h4.cell (i := 7) (by simp)
   try simp only [Act.put, List.setIfInBounds_toArray, List.set_cons_succ, List.set_cons_zero]
   refine Dm.wp_region_ext 29 (Dm.bits 29 0) (Ext.refl wp) (by kernel_rfl) (by kernel_rfl) (by kernel_rfl) ?_
   refine tks (List.range' 0 29) 536870911 0 (hq := by intro x; (repeat go_big_quiet_step ((go_at_call 136; with_reducible first | exact Calls.quietE (T.out v4 6 (by omega) _) | exact Calls.quietE (T.out v4 11 (by omega) _) | exact Calls.quietE (T.out v4 25 (by omega) _)))); exact wpQuiet_nil rfl) ?_
   refine Dm.wpE_done (by kernel_rfl) (Ext.refl wp) (fun w1a hx1a => ?_)
   have hX1a := Ext.trans (Ext.refl wp) hx1a
   clear lV c0 c1 c2 c3 c4 c5 c6 c7 hx1a hk1 hgl
   replace h1 := h1.trans hX1a
   replace h2 := h2.ext hX1a
   replace h3 := h3.ext hX1a
   replace h4 := h4.ext hX1a
   clear hX1a
   obtain ⟨wq, rfl⟩ : ∃ x, x = w1a := ⟨_, rfl⟩
   go_upto_region 7 with fail
   have lV := h4.lt
   have c0 : wq.cell? ⟨bV, 0, none⟩ = some (.int .u32 v0) := h4.cell (i := 0) (by simp)
   have c1 : wq.cell? ⟨bV, 1, none⟩ = some (.int .u32 v1) := h4.cell (i := 1) (by simp)
   have c2 : wq.cell? ⟨bV, 2, none⟩ = some (.int .u32 v2) := h4.cell (i := 2) (by simp)
   have c3 : wq.cell? ⟨bV, 3, none⟩ = some (.int .u32 v3) := h4.cell (i := 3) (by simp)
   have c4 : wq.cell? ⟨bV, 4, none⟩ = some (.int .u32 v4) := h4.cell (i := 4) (by simp)
   have c5 : wq.cell? ⟨bV, 5, none⟩ = some (.int .u32 v5) := h4.cell (i := 5) (by simp)
   have c6 : wq.cell? ⟨bV, 6, none⟩ = some (.int .u32 v6) := h4.cell (i := 6) (by simp)
   have c7 : wq.cell? ⟨bV, 7, none⟩ = some (.int .u32 v7) := h4.cell (i := 7) (by simp)
   try simp only [Act.put, List.setIfInBounds_toArray, List.set_cons_succ, List.set_cons_zero]
   refine Dm.wp_region_ext 25 (Dm.bits 25 0) (Ext.refl wq) (by kernel_rfl) (by kernel_rfl) (by kernel_rfl) ?_
   refine tks (List.range' 0 25) 33554431 0 (hq := by intro x; (repeat go_big_quiet_step ((go_at_call 136; with_reducible first | exact Calls.quietE (T.out v0 2 (by omega) _) | exact Calls.quietE (T.out v0 13 (by omega) _) | exact Calls.quietE (T.out v0 22 (by omega) _)))); exact wpQuiet_nil rfl) ?_
   refine Dm.wpE_done (by kernel_rfl) (Ext.refl wq) (fun w1a hx1a => ?_)
   have hX1a := Ext.trans (Ext.refl wq) hx1a
   clear lV c0 c1 c2 c3 c4 c5 c6 c7 hx1a T
   replace h1 := h1.trans hX1a
   replace h2 := h2.ext hX1a
   replace h3 := h3.ext hX1a
   replace h4 := h4.ext hX1a
   clear hX1a
   obtain ⟨wy, rfl⟩ : ∃ x, x = w1a := ⟨_, rfl⟩
   generalize hone : ((v7 + Go.bits .xor .u32 (Go.bits .xor .u32 (turnW v4 6) (turnW v4 11)) (turnW v4 25) + Go.bits .xor .u32 (Go.bits .and .u32 v4 v5) (Go.bits .and .u32 (Go.bits .xor .u32 (if IntKind.u32.signed = true then -1 else IntKind.u32.max) v4) v6) + rk) % 4294967296 + wk) % 4294967296 = one at *
   generalize htwo : (Go.bits .xor .u32 (Go.bits .xor .u32 (turnW v0 2) (turnW v0 13)) (turnW v0 22) + Go.bits .xor .u32 (Go.bits .xor .u32 (Go.bits .and .u32 v0 v1) (Go.bits .and .u32 v0 v2)) (Go.bits .and .u32 v1 v2)) % 4294967296 = two at *
   have e1 : oneW v4 v5 v6 v7 rk wk = one := (Int.emod_add_emod _ _ _).symm.trans hone
   have e2 : twoW v0 v1 v2 = two := htwo
   have hnx := hnx.out
   rw [e1, e2] at hnx
   replace hnx := Lib.hid hnx
   clear hone htwo e1 e2
   have lV := h4.lt
   have c0 : wy.cell? ⟨bV, 0, none⟩ = some (.int .u32 v0) := h4.cell (i := 0) (by simp)
   have c1 : wy.cell? ⟨bV, 1, none⟩ = some (.int .u32 v1) := h4.cell (i := 1) (by simp)
   have c2 : wy.cell? ⟨bV, 2, none⟩ = some (.int .u32 v2) := h4.cell (i := 2) (by simp)
   have c3 : wy.cell? ⟨bV, 3, none⟩ = some (.int .u32 v3) := h4.cell (i := 3) (by simp)
   have c4 : wy.cell? ⟨bV, 4, none⟩ = some (.int .u32 v4) := h4.cell (i := 4) (by simp)
   have c5 : wy.cell? ⟨bV, 5, none⟩ = some (.int .u32 v5) := h4.cell (i := 5) (by simp)
   have c6 : wy.cell? ⟨bV, 6, none⟩ = some (.int .u32 v6) := h4.cell (i := 6) (by simp)
   have c7 : wy.cell? ⟨bV, 7, none⟩ = some (.int .u32 v7) := h4.cell (i := 7) (by simp)
   have f0 := h4.free 0
   have f1 := h4.free 1
   have f2 := h4.free 2
   have f3 := h4.free 3
   have f4 := h4.free 4
   have f5 := h4.free 5
   have f6 := h4.free 6
   have f7 := h4.free 7
   have g4 : AB bV 173 .u32 [((one + two) % 4294967296), v0, v1, v2, ((v3 + one) % 4294967296), v4, v5, v6] ((((((((wy.setCell ⟨bV, 0, none⟩ (.int .u32 ((one + two) % 4294967296))).setCell ⟨bV, 1, none⟩ (.int .u32 v0)).setCell ⟨bV, 2, none⟩ (.int .u32 v1)).setCell ⟨bV, 3, none⟩ (.int .u32 v2)).setCell ⟨bV, 4, none⟩ (.int .u32 ((v3 + one) % 4294967296))).setCell ⟨bV, 5, none⟩ (.int .u32 v4)).setCell ⟨bV, 6, none⟩ (.int .u32 v5)).setCell ⟨bV, 7, none⟩ (.int .u32 v6)) := ((((((((h4.set 0 ((one + two) % 4294967296)).set 1 v0).set 2 v1).set 3 v2).set 4 ((v3 + one) % 4294967296)).set 5 v4).set 6 v5).set 7 v6)
   have g1 : Ext w ((((((((wy.setCell ⟨bV, 0, none⟩ (.int .u32 ((one + two) % 4294967296))).setCell ⟨bV, 1, none⟩ (.int .u32 v0)).setCell ⟨bV, 2, none⟩ (.int .u32 v1)).setCell ⟨bV, 3, none⟩ (.int .u32 v2)).setCell ⟨bV, 4, none⟩ (.int .u32 ((v3 + one) % 4294967296))).setCell ⟨bV, 5, none⟩ (.int .u32 v4)).setCell ⟨bV, 6, none⟩ (.int .u32 v5)).setCell ⟨bV, 7, none⟩ (.int .u32 v6)) := (Below.setCell (Below.setCell (Below.setCell (Below.setCell (Below.setCell (Below.setCell (Below.setCell (Below.setCell h1 (p := ⟨bV, 0, none⟩) (by show _ ≤ bV; omega) (.int .u32 ((one + two) % 4294967296))) (p := ⟨bV, 1, none⟩) (by show _ ≤ bV; omega) (.int .u32 v0)) (p := ⟨bV, 2, none⟩) (by show _ ≤ bV; omega) (.int .u32 v1)) (p := ⟨bV, 3, none⟩) (by show _ ≤ bV; omega) (.int .u32 v2)) (p := ⟨bV, 4, none⟩) (by show _ ≤ bV; omega) (.int .u32 ((v3 + one) % 4294967296))) (p := ⟨bV, 5, none⟩) (by show _ ≤ bV; omega) (.int .u32 v4)) (p := ⟨bV, 6, none⟩) (by show _ ≤ bV; omega) (.int .u32 v5)) (p := ⟨bV, 7, none⟩) (by show _ ≤ bV; omega) (.int .u32 v6))
   have g2 : AB bH 173 .u32 h ((((((((wy.setCell ⟨bV, 0, none⟩ (.int .u32 ((one + two) % 4294967296))).setCell ⟨bV, 1, none⟩ (.int .u32 v0)).setCell ⟨bV, 2, none⟩ (.int .u32 v1)).setCell ⟨bV, 3, none⟩ (.int .u32 v2)).setCell ⟨bV, 4, none⟩ (.int .u32 ((v3 + one) % 4294967296))).setCell ⟨bV, 5, none⟩ (.int .u32 v4)).setCell ⟨bV, 6, none⟩ (.int .u32 v5)).setCell ⟨bV, 7, none⟩ (.int .u32 v6)) := ((((((((h2.far (c := bV) (i := 0) (by omega) (.int .u32 ((one + two) % 4294967296))).far (c := bV) (i := 1) (by omega) (.int .u32 v0)).far (c := bV) (i := 2) (by omega) (.int .u32 v1)).far (c := bV) (i := 3) (by omega) (.int .u32 v2)).far (c := bV) (i := 4) (by omega) (.int .u32 ((v3 + one) % 4294967296))).far (c := bV) (i := 5) (by omega) (.int .u32 v4)).far (c := bV) (i := 6) (by omega) (.int .u32 v5)).far (c := bV) (i := 7) (by omega) (.int .u32 v6))
   have g3 : AB bR 173 .u32 (List.replicate 8 0) ((((((((wy.setCell ⟨bV, 0, none⟩ (.int .u32 ((one + two) % 4294967296))).setCell ⟨bV, 1, none⟩ (.int .u32 v0)).setCell ⟨bV, 2, none⟩ (.int .u32 v1)).setCell ⟨bV, 3, none⟩ (.int .u32 v2)).setCell ⟨bV, 4, none⟩ (.int .u32 ((v3 + one) % 4294967296))).setCell ⟨bV, 5, none⟩ (.int .u32 v4)).setCell ⟨bV, 6, none⟩ (.int .u32 v5)).setCell ⟨bV, 7, none⟩ (.int .u32 v6)) := ((((((((h3.far (c := bV) (i := 0) (by omega) (.int .u32 ((one + two) % 4294967296))).far (c := bV) (i := 1) (by omega) (.int .u32 v0)).far (c := bV) (i := 2) (by omega) (.int .u32 v1)).far (c := bV) (i := 3) (by omega) (.int .u32 v2)).far (c := bV) (i := 4) (by omega) (.int .u32 ((v3 + one) % 4294967296))).far (c := bV) (i := 5) (by omega) (.int .u32 v4)).far (c := bV) (i := 6) (by omega) (.int .u32 v5)).far (c := bV) (i := 7) (by omega) (.int .u32 v6))
   clear h1 h2 h3 h4
   replace g1 := Lib.hid g1
   go_wp2
   clear lV c0 c1 c2 c3 c4 c5 c6 c7 f0 f1 f2 f3 f4 f5 f6 f7
   go_roundw
   case rel => exact ⟨k + 1, by omega, by go_num, g1.out, g2, g3, by rw [← hVN.out, hnx.out]; exact g4⟩
   case measure => simp [intOf]; omega
  ·have hge : ¬ ((k : Int) < 64) := by omega
   have h4 : AB bV 173 .u32 (runW h WF 64) wr := by
    have e : k = 64 := by omega
    rw [e] at h4
    exact h4
   have hl8 := runW_len (W := WF) hh 64
   have hall := sumP_all hl8 hh
   generalize runW h WF 64 = VF at *
   clear hlt hk
   obtain ⟨wf, rfl⟩ : ∃ x, x = wr := ⟨_, rfl⟩
   go_wp2
   go_loopw [95] (fun i wr => ∃ k : Nat, k ≤ 8 ∧ i = .int .i64 k ∧ Ext w wr ∧ AB bH 173 .u32 h wr ∧ AB bR 173 .u32 (List.replicate 8 0) wr ∧ AB bV 173 .u32 (sumP VF h k) wr) (fun i _ => 8 - (intOf i).toNat)
   case atStart => exact ⟨0, by omega, rfl, h1, h2, h3, by rw [sumP_zero]; exact h4⟩
   case round =>
    obtain ⟨n, hn, rfl, g1, g2, g3, g4⟩ := hrel
    by_cases hlt : n < 8
    ·have hst := sumP_set hl8 hh hlt
     have hln := sumP_len hl8 hh hn
     have HI : Rd1 bV n (.int .u32 (at0 VF n)) wr ∧ Rd1 bH n (.int .u32 (at0 h n)) wr :=
      ⟨⟨g4.lt, by rw [← sumP_at hl8 hh hlt]; exact g4.cell (by omega)⟩, ⟨g2.lt, g2.cell (by omega)⟩⟩
     have hnl : n < (sumP VF h n).length := by omega
     generalize at0 VF n = za at *
     generalize at0 h n = zb at *
     replace hst := Lib.hid hst
     replace hall := Lib.hid hall
     go_upto_region 13 with fail
     try simp only [Act.put, List.setIfInBounds_toArray, List.set_cons_succ, List.set_cons_zero]
     refine Dm.wp_region_fin (I := (fun U => Rd1 bV n (.int .u32 za) U ∧ Rd1 bH n (.int .u32 zb) U)) (z := 8) 9 (Dm.bits 9 0) (by kernel_rfl) (by kernel_rfl) (by kernel_rfl) ?_
     refine tfs (List.range' 0 8) 255 1 (fun _ _ h hx => ⟨h.1.ext hx, h.2.ext hx⟩) HI ?_ (hq := by intro wq hwq; obtain ⟨⟨q0, q1⟩, ⟨q2, q3⟩⟩ := hwq; (repeat go_big_quiet_step (fail)); exact wpQuiet_nil rfl)
     refine Dm.wpF_one (i := 8) (listed' := (Dm.bits 9 511)) (by kernel_rfl) (by kernel_rfl) rfl (fun wz hxz => ?_)
     have cC := (g4.ext hxz).cell hnl
     have fC := (g4.ext hxz).free n
     have lC := (g4.ext hxz).lt
     go_wp2_with fail
     first | refine ⟨fun h => absurd rfl h, ?_⟩ | skip
     refine Dm.wpF_done (by kernel_rfl) (fun wy hxy => ?_)
     clear cC fC lC HI
     have hxy : Ext (wz.setCell ⟨bV, n, none⟩ (.int .u32 ((za + zb) % 4294967296))) wy := hxy
     have k4 := hst.out ▸ (g4.ext hxz).set n ((za + zb) % 4294967296)
     have k4 := AB.ext k4 hxy
     have k3 := ((g3.ext hxz).far (c := bV) (i := n) (by omega) (.int .u32 ((za + zb) % 4294967296))).ext hxy
     have k2 := ((g2.ext hxz).far (c := bV) (i := n) (by omega) (.int .u32 ((za + zb) % 4294967296))).ext hxy
     have k1 := Ext.trans (show Ext w (wz.setCell ⟨bV, n, none⟩ (.int .u32 ((za + zb) % 4294967296))) from Below.setCell (g1.trans hxz) (by show _ ≤ bV; omega) _) hxy
     clear g1 g2 g3 g4 hxz hxy hst hnl
     go_wp2
     go_roundw
     case rel => exact ⟨n + 1, by omega, by go_num, k1, k2, k3, k4⟩
     case measure => simp [intOf]; omega
    ·have hge2 : ¬ ((n : Int) < 8) := by omega
     have g4 : AB bV 173 .u32 BF wr := by
      have e : n = 8 := by omega
      rw [e, hall] at g4
      rw [hbk.out]
      exact g4
     have sF : (cellsI .u32 BF).size = 8 := by
      rw [size_cellsI, hbk.out]
      simp [sumW, hl8, hh]
     have hout := g3.setRow BF
     have hxo : Ext w (wr.setRow bR (cellsI .u32 BF)) := Ext.setRow g1 (by omega) _
     replace hall := Lib.hid hall
     replace hbk := Lib.hid hbk
     go_wp2_with (first | (refine wpList_load_row rfl 173 _ rfl bV rfl _ _ _ _ g4 Tryz.underlying173 rfl (by rw [sF]; kernel_rfl) ?_) | (refine wpList_store_row rfl 173 _ _ rfl bR _ rfl rfl _ _ g3 (by rw [sF]; kernel_rfl) (by rw [sF, sz]) (one_cellsI _ _) ?_))
     refine bodyPost_ret (v := .agg (cellsI .u32 BF)) (results_cell_row rfl _ _ _ _ _ _ _ rfl hout Tryz.underlying173 rfl (by rw [sF]; kernel_rfl)) rfl ?_
     exact ⟨rfl, hxo⟩
end Go.Proofs.YtefjdmjkofaajaaGreatDoor

namespace Go.Dm
open Go Go.RowKit
/-- A number in eight bytes. -/
def byte8 (n i : Nat) : UInt8 := UInt8.ofNat (n / 2 ^ (8 * (7 - i)) % 256)
def be8 (n : Nat) : Bs := [byte8 n 0, byte8 n 1, byte8 n 2, byte8 n 3, byte8 n 4, byte8 n 5, byte8 n 6, byte8 n 7]
/-- A text with what is added to it. -/
def padB (s : Bs) : Bs := s ++ 128 :: (List.replicate ((119 - s.length % 64) % 64) 0 ++ be8 (s.length * 8))
theorem padB_len (s : Bs) : ∃ n, (padB s).length = 64 * n ∧ 1 ≤ n := by
 have h : (padB s).length = s.length + 1 + (119 - s.length % 64) % 64 + 8 := by simp [padB, be8]; omega
 refine ⟨(padB s).length / 64, ?_, ?_⟩ <;> omega
def oct (n k : Nat) : List Int := ((be8 n).map (fun b => (b.toNat : Int))).take k ++ List.replicate (8 - k) 0
theorem oct_len (n : Nat) {k : Nat} (hk : k ≤ 8) : (oct n k).length = 8 := by simp [oct, be8]; omega
theorem oct_set (n : Nat) {k : Nat} (hk : k < 8) : (oct n k).set k ((n : Int) / 2 ^ (8 * (7 - k)) % 256) = oct n (k + 1) := by
 have e0 : ((n : Int) / 2 ^ (8 * (7 - k)) % 256) = ((n / 2 ^ (8 * (7 - k)) % 256 : Nat) : Int) := by simp
 rw [e0]
 match k, hk with
 | 0, _ | 1, _ | 2, _ | 3, _ | 4, _ | 5, _ | 6, _ | 7, _ => simp [oct, be8, byte8]
theorem oct_all (n : Nat) : oct n 8 = (be8 n).map (fun b => (b.toNat : Int)) := by simp [oct, be8]
theorem repeat_one (b : UInt8) (z : Nat) : Lib.repeatL [b] z = List.replicate z b := by
 induction z with
 | zero => rfl
 | succ z ih => rw [List.replicate_succ, ← ih]; rfl
end Go.Dm

namespace Go.Proofs.YtefjdmjkofaajaaGreatDoor
open Go.RowKit Go.Dm

set_option maxHeartbeats 1000000 in
set_option maxRecDepth 100000 in
theorem padded_w (s : ByteArray) (hs : s.size ≤ 281474976710656) (w : World) :
  Calls Tryz.prog 107 #[.string s] w fun e w' => e = .returned (.string ⟨(padB s.data.toList).toArray⟩) ∧ Ext w w' := by
 have hA : AB w.heap.size 200 .u8 (List.replicate 8 0) (w.alloc (.cells #[.int .u8 0, .int .u8 0, .int .u8 0, .int .u8 0, .int .u8 0, .int .u8 0, .int .u8 0, .int .u8 0] 200)) := AB.new w 200 .u8 (List.replicate 8 0)
 have hE : Ext w (w.alloc (.cells #[.int .u8 0, .int .u8 0, .int .u8 0, .int .u8 0, .int .u8 0, .int .u8 0, .int .u8 0, .int .u8 0] 200)) := (Ext.refl _).alloc _
 generalize hW1 : w.alloc (.cells #[.int .u8 0, .int .u8 0, .int .u8 0, .int .u8 0, .int .u8 0, .int .u8 0, .int .u8 0, .int .u8 0] 200) = w1 at *
 obtain ⟨bA, hbA⟩ : ∃ x, x = w.heap.size := ⟨_, rfl⟩
 have hwA : w.heap.size ≤ bA := by omega
 rw [← hbA] at hA
 replace hbA := hbA.symm
 obtain ⟨z, hz⟩ : ∃ z : Nat, z = (119 - s.size % 64) % 64 := ⟨_, rfl⟩
 obtain ⟨n, hn⟩ : ∃ n : Nat, n = s.size * 8 := ⟨_, rfl⟩
 have hz1 : (119 - (s.size : Int) % 64) % 64 = (z : Int) := by omega
 have hz2 : Int.tmod (s.size : Int) 64 = (s.size : Int) % 64 := Int.tmod_eq_emod_of_nonneg (by omega)
 have hz3 : Int.tmod (119 - (s.size : Int) % 64) 64 = (z : Int) := by rw [Int.tmod_eq_emod_of_nonneg (by omega)]; exact hz1
 have hn1 : (s.size : Int) * 8 = (n : Int) := by omega
 have hn2 : n ≤ 18446744073709551615 := by omega
 replace hz := Lib.hid hz
 replace hn := Lib.hid hn
 clear hz1
 go_enter Tryz.func107, Tryz.ntmps107
 go_upto_region 4 with fail
 clear hW1 hbA hz2 hz3 hn1
 go_wp2
 go_loopw [16] (fun i wr => ∃ k : Nat, k ≤ 8 ∧ i = .int .i64 k ∧ Ext w wr ∧ AB bA 200 .u8 (oct n k) wr) (fun i _ => 8 - (intOf i).toNat)
 case atStart => exact ⟨0, by omega, rfl, hE, hA⟩
 case round =>
  obtain ⟨k, hk, rfl, h1, h2⟩ := hrel
  by_cases hlt : k < 8
  ·have hst := oct_set n hlt
   have hcl : k < (oct n k).length := by rw [oct_len n hk]; exact hlt
   have cA := h2.cell hcl
   have fA := h2.free k
   have lA := h2.lt
   have e1 : IntKind.i64.wrap (7 - (k : Int)) = ((7 - k : Nat) : Int) := by rw [IntKind.wrap_i64]; omega
   go_upto_region 7 with fail
   go_wp2
   go_roundw
   case rel => exact ⟨k + 1, by omega, by go_num, Below.setCell h1 (by show _ ≤ bA; omega) _, hst ▸ h2.set k _⟩
   case measure => simp [intOf]; omega
  ·have hge : ¬ ((k : Int) < 8) := by omega
   have h2 : AB bA 200 .u8 ((be8 n).map (fun b => (b.toNat : Int))) wr := by
    have e : k = 8 := by omega
    rw [e, oct_all] at h2
    exact h2
   have hpad : padB s.data.toList = s.data.toList ++ 128 :: (List.replicate z 0 ++ be8 n) := by rw [hz.out, hn.out]; rfl
   have hSl : Sl wr 1 (.slice (some ⟨bA, 0, none⟩) 8 8) 8 (bCells (be8 n)) := by
    have h := Sl.of_block (vs := bCells (be8 n)) (n := 8) (sz := 1) (show wr.heap[bA]? = _ from h2) rfl (by simp [maxLen])
    exact h
   have hz64 : z ≤ 63 := by have := hz.out; omega
   have RP := fun U => Tryz.strings_Repeat ⟨#[0]⟩ z U (by omega) (by show 1 * z ≤ _; omega)
   have hrz : (⟨(Lib.repeatL (⟨#[0]⟩ : ByteArray).data.toList z).toArray⟩ : ByteArray) = ⟨(List.replicate z 0).toArray⟩ := by
    congr 2
    exact repeat_one 0 z
   rw [hrz] at RP
   generalize hzr : (⟨(List.replicate z 0).toArray⟩ : ByteArray) = zr at *
   have hzl : zr.size = z := by rw [← hzr]; exact List.length_replicate
   replace RP := Lib.hid RP
   replace hpad := Lib.hid hpad
   replace hzr := Lib.hid hzr
   obtain ⟨oc, hoc⟩ : ∃ oc : ByteArray, oc = ⟨(be8 n).toArray⟩ := ⟨_, rfl⟩
   have CV := fun U (h : Sl U 1 (.slice (some ⟨bA, 0, none⟩) 8 8) 8 (bCells (be8 n))) => run_string_sl (P := Tryz.prog) Tryz.underlying70 Tryz.underlying5 Tryz.underlying9 h (show 8 = (be8 n).length from rfl) (by simp [be8])
   have CW := fun U p (h : Sl U 1 p 1 (bCells [128])) => run_string_sl (P := Tryz.prog) Tryz.underlying70 Tryz.underlying5 Tryz.underlying9 h (show 1 = ([128] : Bs).length from rfl) (by simp)
   rw [← hoc] at CV
   have hol : oc.size = 8 := by rw [hoc]; rfl
   replace CV := Lib.hid CV
   replace CW := Lib.hid CW
   replace hoc := Lib.hid hoc
   replace hSl := Lib.hid hSl
   go_upto_region 9 with fail
   try simp only [Act.put, List.setIfInBounds_toArray, List.set_cons_succ, List.set_cons_zero]
   refine Dm.wp_region_ext 11 (Dm.bits 11 0) (Ext.refl wr) (by kernel_rfl) (by kernel_rfl) (by kernel_rfl) ?_
   refine tks [0, 4, 5, 7] 177 7 (hq := by intro x; (repeat go_big_quiet_step ((go_at_call 134; with_reducible exact Calls.quietE (RP.out _)))); exact wpQuiet_nil rfl) ?_
   refine Dm.wpE_two (i := 1) (j := 8) (li := (Dm.bits 11 179)) (lj := (Dm.bits 11 433)) (by kernel_rfl) (by kernel_rfl) (by kernel_rfl) rfl rfl (Ext.refl wr) (fun w1a hx1a => ?_) (fun w1a hx1a => ?_)
   ·
    have hX1a := Ext.trans (Ext.refl wr) hx1a
    go_wp2_with fail
    have hs1 : Ext w1a (w1a.alloc (.cells #[.int .u8 128] 5)) := (Ext.refl _).alloc _
    have hb1 : Sl (w1a.alloc (.cells #[.int .u8 128] 5)) 1 (.slice (some ⟨w1a.heap.size, 0, none⟩) 1 1) 1 (bCells [128]) := Sl.lit w1a 5 1 1 #[.int .u8 128] rfl (by simp [maxLen])
    have hX1b := Ext.trans hX1a hs1
    generalize w1a.alloc (.cells #[.int .u8 128] 5) = w1b at *
    generalize w1a.heap.size = b1 at *
    try simp only [Exit.then, Act.put, List.setIfInBounds_toArray, List.set_cons_succ, List.set_cons_zero]
    refine Dm.wpE_two (i := 2) (j := 8) (li := (Dm.bits 11 183)) (lj := (Dm.bits 11 435)) (by kernel_rfl) (by kernel_rfl) (by kernel_rfl) rfl rfl hX1b (fun w2a hx2a => ?_) (fun w2a hx2a => ?_)
    ·
     have hX2a := Ext.trans hX1b hx2a
     replace hb1 := hb1.ext hx2a
     have cw := CW.out w2a _ hb1
     go_wp2_with fail
     clear cw
     obtain ⟨w2b, hw2⟩ : ∃ x, x = w2a := ⟨_, rfl⟩
     subst hw2
     have hX2b := hX2a
     try simp only [Exit.then, Act.put, List.setIfInBounds_toArray, List.set_cons_succ, List.set_cons_zero]
     refine tks [3, 6] 255 3 (hq := by intro x; (repeat go_big_quiet_step ((go_at_call 134; with_reducible exact Calls.quietE (RP.out _)))); exact wpQuiet_nil rfl) ?_
     refine Dm.wpE_one (i := 8) (listed' := (Dm.bits 11 511)) (by kernel_rfl) (by kernel_rfl) rfl hX2b (fun w3a hx3a => ?_)
     have hX3a := Ext.trans hX2b hx3a
     have cv := CV.out w3a (hSl.out.ext hX3a)
     go_wp2_with fail
     clear cv
     obtain ⟨w3b, hw2⟩ : ∃ x, x = w3a := ⟨_, rfl⟩
     subst hw2
     have hX3b := hX3a
     try simp only [Exit.then, Act.put, List.setIfInBounds_toArray, List.set_cons_succ, List.set_cons_zero]
     refine tks [9, 10] 2047 0 (hq := by intro x; (repeat go_big_quiet_step ((go_at_call 134; with_reducible exact Calls.quietE (RP.out _)))); exact wpQuiet_nil rfl) ?_
     refine Dm.wpE_done (by kernel_rfl) hX3b (fun w4a hx4a => ?_)
     have hX4a := Ext.trans hX3b hx4a
     go_wp2
     go_ret
     refine ⟨?_, h1.trans hX4a⟩
     show Ending.returned (Value.string (s ++ ⟨#[128]⟩ ++ zr ++ oc)) = _
     rw [hpad.out]
     refine congrArg (fun x => Ending.returned (Value.string x)) (mk_bytes ?_)
     rw [data_append, data_append, data_append, hoc.out, ← hzr.out]
     simp
    ·
     have hX2a := Ext.trans hX1b hx2a
     replace hb1 := hb1.ext hx2a
     have cv := CV.out w2a (hSl.out.ext hX2a)
     go_wp2_with fail
     clear cv
     obtain ⟨w2b, hw2⟩ : ∃ x, x = w2a := ⟨_, rfl⟩
     subst hw2
     have hX2b := hX2a
     try simp only [Exit.then, Act.put, List.setIfInBounds_toArray, List.set_cons_succ, List.set_cons_zero]
     refine Dm.wpE_one (i := 2) (listed' := (Dm.bits 11 439)) (by kernel_rfl) (by kernel_rfl) rfl hX2b (fun w5a hx5a => ?_)
     have hX5a := Ext.trans hX2b hx5a
     replace hb1 := hb1.ext hx5a
     have cw := CW.out w5a _ hb1
     go_wp2_with fail
     clear cw
     obtain ⟨w5b, hw2⟩ : ∃ x, x = w5a := ⟨_, rfl⟩
     subst hw2
     have hX5b := hX5a
     try simp only [Exit.then, Act.put, List.setIfInBounds_toArray, List.set_cons_succ, List.set_cons_zero]
     refine tks [3, 6, 9, 10] 2047 0 (hq := by intro x; (repeat go_big_quiet_step ((go_at_call 134; with_reducible exact Calls.quietE (RP.out _)))); exact wpQuiet_nil rfl) ?_
     refine Dm.wpE_done (by kernel_rfl) hX5b (fun w6a hx6a => ?_)
     have hX6a := Ext.trans hX5b hx6a
     go_wp2
     go_ret
     refine ⟨?_, h1.trans hX6a⟩
     show Ending.returned (Value.string (s ++ ⟨#[128]⟩ ++ zr ++ oc)) = _
     rw [hpad.out]
     refine congrArg (fun x => Ending.returned (Value.string x)) (mk_bytes ?_)
     rw [data_append, data_append, data_append, hoc.out, ← hzr.out]
     simp
   ·
    have hX1a := Ext.trans (Ext.refl wr) hx1a
    have cv := CV.out w1a (hSl.out.ext hX1a)
    go_wp2_with fail
    clear cv
    obtain ⟨w1b, hw2⟩ : ∃ x, x = w1a := ⟨_, rfl⟩
    subst hw2
    have hX1b := hX1a
    try simp only [Exit.then, Act.put, List.setIfInBounds_toArray, List.set_cons_succ, List.set_cons_zero]
    refine Dm.wpE_one (i := 1) (listed' := (Dm.bits 11 435)) (by kernel_rfl) (by kernel_rfl) rfl hX1b (fun w7a hx7a => ?_)
    have hX7a := Ext.trans hX1b hx7a
    go_wp2_with fail
    have hs7 : Ext w7a (w7a.alloc (.cells #[.int .u8 128] 5)) := (Ext.refl _).alloc _
    have hb1 : Sl (w7a.alloc (.cells #[.int .u8 128] 5)) 1 (.slice (some ⟨w7a.heap.size, 0, none⟩) 1 1) 1 (bCells [128]) := Sl.lit w7a 5 1 1 #[.int .u8 128] rfl (by simp [maxLen])
    have hX7b := Ext.trans hX7a hs7
    generalize w7a.alloc (.cells #[.int .u8 128] 5) = w7b at *
    generalize w7a.heap.size = b1 at *
    try simp only [Exit.then, Act.put, List.setIfInBounds_toArray, List.set_cons_succ, List.set_cons_zero]
    refine Dm.wpE_one (i := 2) (listed' := (Dm.bits 11 439)) (by kernel_rfl) (by kernel_rfl) rfl hX7b (fun w8a hx8a => ?_)
    have hX8a := Ext.trans hX7b hx8a
    replace hb1 := hb1.ext hx8a
    have cw := CW.out w8a _ hb1
    go_wp2_with fail
    clear cw
    obtain ⟨w8b, hw2⟩ : ∃ x, x = w8a := ⟨_, rfl⟩
    subst hw2
    have hX8b := hX8a
    try simp only [Exit.then, Act.put, List.setIfInBounds_toArray, List.set_cons_succ, List.set_cons_zero]
    refine tks [3, 6, 9, 10] 2047 0 (hq := by intro x; (repeat go_big_quiet_step ((go_at_call 134; with_reducible exact Calls.quietE (RP.out _)))); exact wpQuiet_nil rfl) ?_
    refine Dm.wpE_done (by kernel_rfl) hX8b (fun w9a hx9a => ?_)
    have hX9a := Ext.trans hX8b hx9a
    go_wp2
    go_ret
    refine ⟨?_, h1.trans hX9a⟩
    show Ending.returned (Value.string (s ++ ⟨#[128]⟩ ++ zr ++ oc)) = _
    rw [hpad.out]
    refine congrArg (fun x => Ending.returned (Value.string x)) (mk_bytes ?_)
    rw [data_append, data_append, data_append, hoc.out, ← hzr.out]
    simp
end Go.Proofs.YtefjdmjkofaajaaGreatDoor

namespace Go.Dm
open Go Go.RowKit

/-- A term: its key, whether it is turned, its values. -/
abbrev TermS := ByteArray × Bool × List ByteArray
/-- A term as it lies in a slice: its values are a slice of their own. -/
abbrev RowS := ByteArray × Bool × Value × List ByteArray
def rowT (r : RowS) : TermS := (r.1, r.2.1, r.2.2.2)
def noRow : RowS := (⟨#[]⟩, false, .slice none 0 0, [])
def sAtR (R : List RowS) (k : Nat) : RowS := R.getD k noRow
def rowOne (r : RowS) : List Value := [.string r.1, .bool r.2.1, r.2.2.1]
def rowCells (R : List RowS) : List Value := R.flatMap rowOne
theorem rowCells_len (R : List RowS) : (rowCells R).length = R.length * 3 := by
 induction R with
 | nil => rfl
 | cons x xs ih => simp only [rowCells, rowOne, List.flatMap_cons, List.length_append, List.length_cons, List.length_nil] at *; omega
theorem rowCells_app (a b : List RowS) : rowCells (a ++ b) = rowCells a ++ rowCells b := by simp [rowCells]
theorem rowCells_at : ∀ (xs : List RowS) (k : Nat), k < xs.length → (rowCells xs)[k*3]? = some (.string (sAtR xs k).1) ∧ (rowCells xs)[k*3+1]? = some (.bool (sAtR xs k).2.1) ∧ (rowCells xs)[k*3+2]? = some (sAtR xs k).2.2.1
 | x :: xs, 0, _ => by simp [rowCells, rowOne, sAtR]
 | x :: xs, k+1, h => by
  have := rowCells_at xs k (by simpa using h)
  have e : (k+1)*3 = k*3+1+1+1 := by omega
  have e2 : (k+1)*3+1 = k*3+1+1+1+1 := by omega
  have e3 : (k+1)*3+2 = k*3+2+1+1+1 := by omega
  rw [e2, e3, e]
  simp only [rowCells, rowOne, sAtR, List.flatMap_cons, List.cons_append, List.nil_append, List.getElem?_cons_succ, List.getD_cons_succ]
  exact this
theorem sAtR_mem {l : List RowS} {k : Nat} (h : k < l.length) : sAtR l k ∈ l := by
 simp only [sAtR, List.getD_eq_getElem?_getD, List.getElem?_eq_getElem h, Option.getD_some]
 exact List.getElem_mem h
theorem take_snocT {l : List RowS} {k : Nat} (hk : k < l.length) : l.take (k + 1) = l.take k ++ [sAtR l k] := by
 rw [List.take_succ_eq_append_getElem hk]
 simp [hk, sAtR]

/-- A slice value reads as these terms. -/
structure Terms (w : World) (v : Value) (R : List RowS) : Prop where
 sl : Sl w 3 v R.length (rowCells R)
 vals : ∀ r ∈ R, Strs w r.2.2.1 r.2.2.2
theorem Terms.ext {w w' : World} {v R} (h : Terms w v R) (hb : Ext w w') : Terms w' v R := ⟨h.sl.ext hb, fun r hr => (h.vals r hr).ext hb⟩
theorem Terms.nil (w : World) : Terms w (.slice none 0 0) [] := ⟨Sl.nil w 3, fun r hr => by cases hr⟩
theorem Terms.shape {w : World} {v R} (h : Terms w v R) : ∃ p cap, v = .slice p R.length cap ∧ R.length ≤ cap ∧ cap ≤ maxLen := by
 obtain ⟨p, cap, h1, h2, h3, _⟩ := Sl.shape h.sl
 exact ⟨p, cap, h1, h2, h3⟩
theorem Terms.at {w : World} {xs : List RowS} {p cap} (h : Terms w (.slice p xs.length cap) xs) {k : Nat} (hk : k < xs.length) :
  ∃ b off, p = some ⟨b, off, none⟩ ∧ b < w.heap.size ∧ w.cell? ⟨b, off + k*3, none⟩ = some (.string (sAtR xs k).1) ∧ w.cell? ⟨b, off + k*3 + 1, none⟩ = some (.bool (sAtR xs k).2.1) ∧ w.cell? ⟨b, off + k*3 + 2, none⟩ = some (sAtR xs k).2.2.1 := by
 obtain ⟨b, off, hp, hb, h⟩ := Sl.at h.sl (by omega)
 have := rowCells_at xs k hk
 exact ⟨b, off, hp, hb, h _ _ this.1, by have := h _ _ this.2.1; rw [show off + (k*3+1) = off + k*3+1 by omega] at this; exact this, by have := h _ _ this.2.2; rw [show off + (k*3+2) = off + k*3+2 by omega] at this; exact this⟩
theorem Terms.val {w : World} {xs : List RowS} {v} (h : Terms w v xs) {k : Nat} (hk : k < xs.length) : Strs w (sAtR xs k).2.2.1 (sAtR xs k).2.2.2 := h.vals _ (sAtR_mem hk)
theorem Terms.of_row {w : World} {B e : Nat} {v : Value} {n : Nat} {l : List RowS} (h : w.ownsRow B e 3 v n (rowCells l)) (hn : n = l.length) (hv : ∀ r ∈ l, Strs w r.2.2.1 r.2.2.2) : Terms w v l := by
 subst hn
 exact ⟨Sl.of_owns h, hv⟩
theorem Strs.one {w : World} {v : Value} {ss} (h : Strs w v ss) : v.oneCell' = true := by
 obtain ⟨p, cap, rfl, _⟩ := h.shape
 rfl

/-- A term's texts are of a size that a run can hold. -/
def FitT (t : TermS) : Prop := t.1.size ≤ 140737488351232 ∧ t.2.2.length ≤ 35184372088832 ∧ ∀ x ∈ t.2.2, x.size ≤ 140737488351232

end Go.Dm

namespace Go.Proofs.YtefjdmjkofaajaaGreatDoor
open Go.RowKit Go.Dm

end Go.Proofs.YtefjdmjkofaajaaGreatDoor

namespace Go.Proofs.YtefjdmjkofaajaaGreatDoor
open Go.RowKit Go.Dm

end Go.Proofs.YtefjdmjkofaajaaGreatDoor

namespace Go.Dm
open Go Go.RowKit

/-- A byte that stands in no name. -/
def NoName (c : UInt8) : Prop := (letterB c.toNat || markB c.toNat) = false ∧ c.toNat < 128

theorem okL_step_no {c : UInt8} (hc : NoName c) {b : Bool} {l : Bs} (h : l ≠ []) (hr : (letterB (runeL l) || (!b && markB (runeL l))) = true) : c ∉ l.take (wideL l) := by
 have hlm : (letterB (runeL l) || markB (runeL l)) = true := by cases b <;> simp_all
 obtain ⟨hne, hlt⟩ := letterB_plain hlm
 obtain ⟨hc1, hc2⟩ := hc
 unfold wideL runeL decL at *
 obtain ⟨a, t, rfl, ha⟩ := head_bAt h
 split
 ·rename_i h0
  rw [if_pos h0] at hlm
  simp only at hlm
  intro hm
  simp at hm
  subst hm
  rw [ha] at hlm
  rw [hlm] at hc1
  cases hc1
 ·rename_i h0
  rw [if_neg h0] at hne hlt
  split
  ·rename_i h1
   rw [if_pos h1] at hne hlt
   simp only [Bool.and_eq_true, beq_iff_eq] at h1
   split
   ·rename_i h2
    rw [if_pos h2] at hne hlt
    have hcb := contB_lt h1.2
    cases t with
    | nil => simp at hcb
    | cons d t =>
     intro hm
     simp at hm
     have hcc : d.toNat / 64 = 2 := by
      have := h1.2
      simp only [contB, Bool.and_eq_true, beq_iff_eq] at this
      exact this.2
     rcases hm with rfl | rfl
     ·rw [ha] at h0; exact h0 (by first | exact decide_eq_true hc2 | exact hc2)
     ·omega
   ·rename_i h2
    rw [if_neg h2] at hlt
    simp only at hlt; omega
  ·rename_i h1
   rw [if_neg h1] at hlt
   split
   ·rename_i h3
    rw [if_pos h3] at hlt
    split
    ·rename_i h4
     rw [if_pos h4] at hlt
     simp only [Bool.and_eq_true, decide_eq_true_eq] at h4
     simp only at hlt; omega
    ·rename_i h4
     rw [if_neg h4] at hlt
     simp only at hlt; omega
   ·rename_i h3
    rw [if_neg h3] at hlt
    split
    ·rename_i h5
     rw [if_pos h5] at hlt
     split
     ·rename_i h6
      rw [if_pos h6] at hlt
      simp only [Bool.and_eq_true, decide_eq_true_eq] at h6
      simp only at hlt; omega
     ·rename_i h6
      rw [if_neg h6] at hlt
      simp only at hlt; omega
    ·rename_i h5
     rw [if_neg h5] at hlt
     simp only at hlt; omega

theorem okL_no {c : UInt8} (hc : NoName c) : ∀ (n : Nat) (b : Bool) (l : Bs), l.length ≤ n → okL b l = true → c ∉ l := by
 intro n
 induction n with
 | zero =>
  intro b l hl _
  have : l = [] := List.length_eq_zero_iff.1 (by omega)
  subst this
  simp
 | succ n ih =>
  intro b l hl hok
  by_cases h : l = []
  ·subst h; simp
  ·rw [okL_step b h, Bool.and_eq_true] at hok
   have h1 := okL_step_no hc h hok.1
   have hw := wideL_pos l
   have h2 := ih false (l.drop (wideL l)) (by rw [List.length_drop]; omega) hok.2
   rw [← List.take_append_drop (wideL l) l, List.mem_append]
   rintro (h' | h')
   ·exact h1 h'
   ·exact h2 h'

theorem right_no {c : UInt8} (hc : NoName c) {l : Bs} (h : rightL l = true) : c ∉ l := by
 unfold rightL at h
 simp only [Bool.and_eq_true] at h
 exact okL_no hc _ true l (Nat.le_refl _) h.1.1
end Go.Dm

namespace Go.Dm
open Go Go.RowKit

def bS (s : ByteArray) : Bs := s.data.toList
/-- May the value at a place stand there? -/
def okVal (vs : List ByteArray) (k : Nat) : Bool := rightL (bS (strAt vs k)) && (k == 0 || !leB (bS (strAt vs k)) (bS (strAt vs (k - 1))))
/-- P5.1: may a term be? -/
def rightT (t : TermS) : Bool := (List.range t.2.2.length).all (okVal t.2.2) && (rightL (bS t.1) && decide (t.2.2.length ≤ 4))
/-- P5.1: may a selector be? -/
def rightS (T : List TermS) : Bool := decide (T.length ≤ 4) && T.all rightT

theorem rightT_bad {t : TermS} {k : Nat} (hk : k < t.2.2.length) (h : okVal t.2.2 k = false) : rightT t = false := by
 unfold rightT
 rw [Bool.and_eq_false_iff]
 left
 rw [List.all_eq_false]
 exact ⟨k, List.mem_range.2 hk, by rw [h]; simp⟩
theorem rightT_all {t : TermS} (h : ∀ k, k < t.2.2.length → okVal t.2.2 k = true) : rightT t = (rightL (bS t.1) && decide (t.2.2.length ≤ 4)) := by
 unfold rightT
 rw [List.all_eq_true.2 (fun k hk => h k (List.mem_range.1 hk)), Bool.true_and]
theorem rightT_iff {t : TermS} : rightT t = true ↔ (∀ k, k < t.2.2.length → okVal t.2.2 k = true) ∧ rightL (bS t.1) = true ∧ t.2.2.length ≤ 4 := by
 unfold rightT
 rw [Bool.and_eq_true, Bool.and_eq_true, decide_eq_true_eq, List.all_eq_true]
 exact ⟨fun h => ⟨fun k hk => h.1 k (List.mem_range.2 hk), h.2⟩, fun h => ⟨fun k hk => h.1 k (List.mem_range.1 hk), h.2⟩⟩
theorem rightS_iff {T : List TermS} : rightS T = true ↔ T.length ≤ 4 ∧ ∀ t ∈ T, rightT t = true := by
 unfold rightS
 rw [Bool.and_eq_true, decide_eq_true_eq, List.all_eq_true]
theorem rightT_val {t : TermS} (h : rightT t = true) : ∀ x ∈ t.2.2, rightL (bS x) = true := by
 intro x hx
 obtain ⟨k, hk, rfl⟩ := List.getElem_of_mem hx
 have := (rightT_iff.1 h).1 k hk
 unfold okVal at this
 rw [Bool.and_eq_true] at this
 have e : strAt t.2.2 k = t.2.2[k] := by simp [strAt, hk]
 rw [e] at this
 exact this.1
theorem rightT_sizes {t : TermS} (h : rightT t = true) : t.1.size ≤ 32 ∧ t.2.2.length ≤ 4 ∧ ∀ x ∈ t.2.2, x.size ≤ 32 := by
 refine ⟨right_len (rightT_iff.1 h).2.1, (rightT_iff.1 h).2.2, fun x hx => right_len (rightT_val h x hx)⟩

/-- P5.3: a term, a selector as bytes. -/
def numT (t : TermS) : Nat := 2 * t.2.2.length + (if t.2.1 then 1 else 0)
def putVals (vs : List ByteArray) : Bs := vs.flatMap fun x => putT (bS x)
def putTm (t : TermS) : Bs := (putT (bS t.1) ++ putL (numT t)) ++ putVals t.2.2
def putTms (T : List TermS) : Bs := T.flatMap putTm
def putS (T : List TermS) : Bs := if rightS T then putL T.length ++ putTms T else []
theorem putVals_step {vs : List ByteArray} {k : Nat} (hk : k < vs.length) : putVals (vs.take (k + 1)) = putVals (vs.take k) ++ putT (bS (strAt vs k)) := by
 rw [List.take_succ_eq_append_getElem hk, putVals, List.flatMap_append]
 simp [putVals, strAt, hk]
theorem rowT_take {R : List RowS} {k : Nat} (hk : k < R.length) : (R.take (k + 1)).map rowT = (R.take k).map rowT ++ [rowT (sAtR R k)] := by
 rw [take_snocT hk, List.map_append]; rfl
theorem putTms_step {T : List TermS} {t : TermS} : putTms (T ++ [t]) = putTms T ++ putTm t := by simp [putTms]
end Go.Dm

namespace Go.Dm
open Go Go.RowKit
theorem allR_hit {R : List RowS} {k : Nat} (hk : k < R.length) (h : rightT (rowT (sAtR R k)) = false) : (R.map rowT).all rightT = false := by
 rw [List.all_eq_false]
 exact ⟨_, List.mem_map_of_mem (sAtR_mem hk), by rw [h]; simp⟩
theorem allR_miss {R : List RowS} (h : ∀ k, k < R.length → rightT (rowT (sAtR R k)) = true) : (R.map rowT).all rightT = true := by
 rw [List.all_eq_true]
 intro t ht
 obtain ⟨r, hr, rfl⟩ := List.mem_map.1 ht
 obtain ⟨k, hk, rfl⟩ := List.getElem_of_mem hr
 have := h k hk
 have e : sAtR R k = R[k] := by simp [sAtR, hk]
 rwa [e] at this
def FitR (R : List RowS) : Prop := ∀ r ∈ R, FitT (rowT r)
end Go.Dm
namespace Go.Proofs.YtefjdmjkofaajaaGreatDoor
open Go.RowKit Go.Dm

end Go.Proofs.YtefjdmjkofaajaaGreatDoor

namespace Go.Dm
open Go Go.RowKit

def mkT (t : Bs × Bool × List Bs) : TermS := (⟨t.1.toArray⟩, t.2.1, t.2.2.map fun x => ⟨x.toArray⟩)
end Go.Dm
