/- Texts one behind the other: Chapter 2: the walks of the program's spans, runes and names; What the walks know of the package-level variables; Chapter 4: the walk of the program's Right; Chapter 4: the walks of the program's Find, Put, Text; Chapter 4: the walks of the program's Put and Text; Chapter 4: the walk of the program's Parse; Chapter 6: the walk of turn; Chapter 6 in plain terms: the sum of a text. No program in sight; Chapter 6 in plain terms: what is added to a text. No program in sight; Chapter 5 in plain terms: terms, selectors. No program in sight; Chapter 5: the walks of a term's rule, of holds, and of Match; Chapter 5: the walks of a term's holds, and of Match; Chapter 2 in plain terms: a byte that may not stand in a name. No program in sight; Chapter 5 in plain terms: what is right, put, shown, parsed, the same. No program in sight; Chapter 5: the walks of Match and Right; Chapter 5 in plain terms: the terms of a text. No program in sight; Chapter 5: rows of terms that grow, their values apart from them. No program in sight. -/
import Derived.Test.YtefjdmjkofaajaaGreatDoorWPure
import Derived.Test.YtefjdmjkofaajaaGreatDoorB7
import Derived.Test.YtefjdmjkofaajaaGreatDoorShelf
import Derived.Test.YtefjdmjkofaajaaGreatDoorB2
import Derived.Lib.OthersKept
import Derived.Test.YtefjdmjkofaajaaGreatDoorB26
import Derived.Test.YtefjdmjkofaajaaGreatDoorB10
import Derived.Test.YtefjdmjkofaajaaGreatDoorB6
import Derived.Laws.StructEq
import Derived.Test.YtefjdmjkofaajaaGreatDoorB32
import Derived.Maps.AppendAt
namespace Go.Dm
open Go Go.RowKit

abbrev Span := Int × Int
def spanAt (l : List Span) (k : Nat) : Span := l.getD k (0, 0)
def spanCells (l : List Span) : List Value := l.flatMap fun x => [.int .i32 x.1, .int .i32 x.2]
def inSpan (r : Int) (x : Span) : Bool := decide (x.1 ≤ r) && decide (r ≤ x.2)

theorem spanCells_at : ∀ (xs : List Span) (k : Nat), k < xs.length → (spanCells xs)[k*2]? = some (.int .i32 (spanAt xs k).1) ∧ (spanCells xs)[k*2+1]? = some (.int .i32 (spanAt xs k).2)
 | x :: xs, 0, _ => by simp [spanCells, spanAt]
 | x :: xs, k+1, h => by
  have := spanCells_at xs k (by simpa using h)
  have e : (k+1)*2 = k*2+1+1 := by omega
  have e2 : (k+1)*2+1 = k*2+1+1+1 := by omega
  simp only [e, spanCells, spanAt, List.flatMap_cons, List.cons_append, List.nil_append, List.getElem?_cons_succ, List.getD_cons_succ]
  exact this

def Spans (w : World) (v : Value) (l : List Span) : Prop := Sl w 2 v l.length (spanCells l)
theorem Spans.ext {w w' : World} {v l} (h : Spans w v l) (hb : Ext w w') : Spans w' v l := Sl.ext h hb
theorem Spans.shape {w : World} {v l} (h : Spans w v l) : ∃ p cap, v = .slice p l.length cap ∧ l.length ≤ cap ∧ cap ≤ maxLen := by
 obtain ⟨p, cap, h1, h2, h3, _⟩ := Sl.shape h
 exact ⟨p, cap, h1, h2, h3⟩
theorem Spans.at {w : World} {xs : List Span} {p cap} (h : Spans w (.slice p xs.length cap) xs) {k : Nat} (hk : k < xs.length) :
  ∃ b off, p = some ⟨b, off, none⟩ ∧ b < w.heap.size ∧ w.cell? ⟨b, off + k*2, none⟩ = some (.int .i32 (spanAt xs k).1) ∧ w.cell? ⟨b, off + k*2 + 1, none⟩ = some (.int .i32 (spanAt xs k).2) := by
 obtain ⟨b, off, hp, hb, h⟩ := Sl.at h (by omega)
 have := spanCells_at xs k hk
 exact ⟨b, off, hp, hb, h _ _ this.1, by have := h _ _ this.2; rw [show off + (k*2+1) = off + k*2+1 by omega] at this; exact this⟩

end Go.Dm
namespace Go.Proofs.YtefjdmjkofaajaaGreatDoor
open Go.RowKit Go.Dm

set_option maxHeartbeats 400000 in
theorem among1_w (r a b : Int) (c o : Nat) (w : World) (hcl : c < w.heap.size) (hc : w.cell? ⟨c, o, none⟩ = some (.int .i32 r)) :
  Calls Tryz.prog 131 #[.agg #[.int .i32 a, .int .i32 b], .pointer (some ⟨c, o, none⟩)] w fun e w' => e = .returned (.bool (inSpan r (a, b))) ∧ Ext w w' := by
 go_enter Tryz.func131, Tryz.ntmps131
 go_wp2
 all_goals go_ret
 all_goals exact ⟨by first | (simp_all [inSpan]; done) | (simp_all [inSpan]; omega), (Below.refl _ _).alloc (Nat.le_refl _) _⟩

set_option maxHeartbeats 400000 in
theorem indexSpan_w (l : List Span) (r : Int) (q : Option Addr) (cap : Nat) (c o : Nat) (w : World) (hm : l.length ≤ 35184372088832)
  (hx : Spans w (.slice q l.length cap) l) (hcl : c < w.heap.size) (hc : w.cell? ⟨c, o, none⟩ = some (.int .i32 r)) :
  Calls Tryz.prog 153 #[.slice q l.length cap, .func (.func 131) #[] #[.pointer (some ⟨c, o, none⟩)]] w
   fun e w' => e = .returned (.int .i64 (placeI (firstP (inSpan r) l))) ∧ Ext w w' := by
 go_enter Tryz.func153, Tryz.ntmps153
 go_wp2
 go_loopw [4, 8] (fun z i wr => ∃ k : Nat, k ≤ l.length ∧ i = .int .i64 k ∧ z = .int .i64 0 ∧ Ext w wr ∧ Hid (∀ j, j < k → inSpan r (spanAt l j) = false)) (fun _ i _ => l.length - (intOf i).toNat)
 case atStart => exact ⟨0, by omega, rfl, rfl, Ext.refl w, fun j hj => by omega⟩
 case round =>
  obtain ⟨k, hk, rfl, rfl, hb, HN⟩ := hrel
  by_cases hlt : k < l.length
  ·obtain ⟨b, off, rfl, hbl, c0, c1⟩ := (hx.ext hb).at hlt
   have hcl' : c < wr.heap.size := Nat.lt_of_lt_of_le hcl hb.size
   have hc' : wr.cell? ⟨c, o, none⟩ = some (.int .i32 r) := by rw [hb.cell (by exact hcl)]; exact hc
   go_wp2_with fail
   refine (among1_w r _ _ _ _ _ hcl' hc').mono ?_; rintro e w' ⟨rfl, hb1⟩
   cases ht : inSpan r (spanAt l k) with
   | true =>
    go_wp2
    go_ret
    refine ⟨?_, hb.trans hb1⟩
    rw [firstP_hit (0, 0) hlt HN.out ht]
    rfl
   | false =>
    go_wp2
    go_roundw
    case rel => exact ⟨k + 1, by omega, by go_num, rfl, hb.trans hb1, fun j hj => by
     rcases Nat.lt_succ_iff_lt_or_eq.1 hj with h | rfl
     ·exact HN.out j h
     ·exact ht⟩
    case measure => simp [intOf]; omega
  ·go_wp2
   go_ret
   obtain rfl : k = l.length := by omega
   refine ⟨?_, hb⟩
   rw [firstP_miss (0, 0) HN.out]
   rfl

set_option maxHeartbeats 400000 in
theorem among_w (l : List Span) (r : Int) (v : Value) (w : World) (hm : l.length ≤ 35184372088832) (hx : Spans w v l) :
  Calls Tryz.prog 101 #[.int .i32 r, v] w fun e w' => e = .returned (.bool (l.any (inSpan r))) ∧ Ext w w' := by
 obtain ⟨q, cap, rfl, _, _⟩ := hx.shape
 have fin : Ext w (w.alloc (.cells #[.int .i32 r] 21)) := (Below.refl _ _).alloc (Nat.le_refl _) _
 have hx' := hx.ext fin
 have hA := firstP_any (inSpan r) l
 go_enter Tryz.func101, Tryz.ntmps101
 cases ha : l.any (inSpan r) with
 | true =>
  have h0 := hA.2 ha
  go_wp2_with (first | (go_at_call 153; refine (indexSpan_w l r q cap w.heap.size 0 _ hm hx' (by simp) (by simp)).mono ?_; rintro e w' ⟨rfl, hb1⟩) | go_in)
  go_ret
  exact ⟨rfl, fin.trans hb1⟩
 | false =>
  have h0 : ¬ (0 : Int) ≤ placeI (firstP (inSpan r) l) := fun h => by rw [hA.1 h] at ha; cases ha
  go_wp2_with (first | (go_at_call 153; refine (indexSpan_w l r q cap w.heap.size 0 _ hm hx' (by simp) (by simp)).mono ?_; rintro e w' ⟨rfl, hb1⟩) | go_in)
  go_ret
  exact ⟨rfl, fin.trans hb1⟩

/-- The package's tables lie as its text lays them. -/
def letters : List Span := [(97, 122), (945, 969), (1072, 1103)]
def marks : List Span := [(48, 57), (45, 45)]
structure Tabs (w : World) : Prop where
 letters : Spans w (.slice (some ⟨1, 0, none⟩) 3 3) letters
 marks : Spans w (.slice (some ⟨2, 0, none⟩) 2 2) marks

theorem Tabs.ext {w w' : World} (h : Tabs w) (hb : Ext w w') : Tabs w' := ⟨h.letters.ext hb, h.marks.ext hb⟩

theorem letters_any (r : Nat) : letters.any (inSpan r) = letterB r := by
 simp only [letters, List.any_cons, List.any_nil, inSpan, letterB, Bool.or_false, Bool.or_assoc]
 congr 1
 ·congr 1 <;> exact decide_eq_decide.2 (by omega)
 ·congr 1 <;> congr 1 <;> exact decide_eq_decide.2 (by omega)

theorem marks_any (r : Nat) : marks.any (inSpan r) = markB r := by
 simp only [marks, List.any_cons, List.any_nil, inSpan, markB, Bool.or_false]
 by_cases h : r = 45
 ·subst h; decide
 ·have : (r == 45) = false := by rw [beq_eq_false_iff_ne]; exact h
  rw [this, Bool.or_false]
  have : (decide ((45 : Int) ≤ r) && decide ((r : Int) ≤ 45)) = false := by
   rw [Bool.and_eq_false_iff, decide_eq_false_iff_not, decide_eq_false_iff_not]; omega
  rw [this, Bool.or_false]
  congr 1 <;> exact decide_eq_decide.2 (by omega)

set_option maxHeartbeats 400000 in
theorem count_w (s : ByteArray) (w : World) (hs : s.size < 9223372036854775807) :
  Calls Tryz.prog 102 #[.string s] w fun e w' => e = .returned (.int .i64 (countL s.data.toList)) ∧ Ext w w' := by
 go_enter Tryz.func102, Tryz.ntmps102
 go_wp2_with fail
 refine (Tryz.utf8_RuneCountInString s w hs).mono ?_; rintro e w' ⟨rfl, pos, rfl⟩
 rw [runeCount_eq]
 go_wp2
 go_ret
 exact ⟨rfl, (Ext.refl w).alloc _⟩

theorem iter_ext {w w' : World} {k p : Nat} {s : ByteArray} (h : Ext w w') (hit : w.heap[k]? = some (.stringIter s p)) : w'.heap[k]? = some (.stringIter s p) := by
 have hlt : k < w.heap.size := (Array.getElem?_eq_some_iff.1 hit).1
 rw [h.block _ hlt]; exact hit

theorem iterPos_of {w : World} {k p : Nat} {s : ByteArray} (hit : w.heap[k]? = some (.stringIter s p)) : w.iterPos k = p := by simp [World.iterPos, hit]

/-- A round of the loop over a name's runes. -/
theorem right_round {s : ByteArray} {pos : Nat} (hp : pos < s.size) (HK : okL true s.data.toList = okL (pos == 0) (s.data.toList.drop pos))
  (hr : (letterB (runeL (s.data.toList.drop pos)) || (!(pos == 0) && markB (runeL (s.data.toList.drop pos)))) = true) :
  pos + wideL (s.data.toList.drop pos) ≤ s.size ∧ okL true s.data.toList = okL (pos + wideL (s.data.toList.drop pos) == 0) (s.data.toList.drop (pos + wideL (s.data.toList.drop pos))) := by
 have hne : s.data.toList.drop pos ≠ [] := by rw [Ne, List.drop_eq_nil_iff, ← size_len]; omega
 have h1 := wideL_le hne
 have h2 := wideL_pos (s.data.toList.drop pos)
 rw [List.length_drop, ← size_len] at h1
 refine ⟨by omega, ?_⟩
 have h3 : (pos + wideL (s.data.toList.drop pos) == 0) = false := by rw [beq_eq_false_iff_ne]; omega
 rw [HK, okL_step _ hne, hr, h3, List.drop_drop, Bool.true_and]

theorem right_bad {s : ByteArray} {pos : Nat} (hp : pos < s.size) (HK : okL true s.data.toList = okL (pos == 0) (s.data.toList.drop pos))
  (hr : (letterB (runeL (s.data.toList.drop pos)) || (!(pos == 0) && markB (runeL (s.data.toList.drop pos)))) = false) : rightL s.data.toList = false := by
 have hne : s.data.toList.drop pos ≠ [] := by rw [Ne, List.drop_eq_nil_iff, ← size_len]; omega
 unfold rightL
 rw [HK, okL_step _ hne, hr]
 rfl

set_option maxHeartbeats 2000000 in
theorem right_w (s : ByteArray) (w : World) (hs : s.size < 9223372036854775807) (ht : Tabs w) :
  Calls Tryz.prog 60 #[.string s] w fun e w' => e = .returned (.bool (rightL s.data.toList)) ∧ Ext w w' := by
 go_enter Tryz.func60, Tryz.ntmps60
 go_wp2
 go_loopw [2] (fun _ wr => ∃ pos : Nat, Ext w wr ∧ wr.heap[w.heap.size]? = some (.stringIter s pos) ∧ pos ≤ s.size ∧ Hid (okL true s.data.toList = okL (pos == 0) (s.data.toList.drop pos))) (fun _ wr => s.size - wr.iterPos w.heap.size)
 case atStart => exact ⟨0, (Ext.refl w).alloc _, by simp [World.iter_heap], by omega, rfl⟩
 case round =>
  obtain ⟨pos, hb, hit, hps, HK⟩ := hrel
  by_cases hp : pos < s.size
  ·have hnx : ∀ ty, (Instr.next (.pointer (some ⟨w.heap.size, 0, none⟩)) true ty).run Tryz.prog wr = _ := fun ty => Lib.run_next_any_at wr w.heap.size s pos ty hit hp
   have e1 : (Utf8.decode s pos).1 = runeL (s.data.toList.drop pos) := by rw [decode_eq]; rfl
   have e2 : (Utf8.decode s pos).2 = wideL (s.data.toList.drop pos) := by rw [decode_eq]; rfl
   rw [e1, e2] at hnx
   clear e1 e2
   have hb1 : Ext w (wr.iterAt w.heap.size s (pos + wideL (s.data.toList.drop pos))) := Lib.below_iterAt hb (Nat.le_refl _) s _
   have hit1 := Lib.iterAt_heap wr w.heap.size s pos (pos + wideL (s.data.toList.drop pos)) hit
   have HR := Lib.hid (right_round hp HK.out)
   have HB := Lib.hid (right_bad hp HK.out)
   have hw1 := wideL_pos (s.data.toList.drop pos)
   generalize runeL (s.data.toList.drop pos) = r at *
   generalize wideL (s.data.toList.drop pos) = n at *
   have CL := among_w letters r _ _ (by decide) (ht.letters.ext hb1)
   rw [letters_any] at CL
   have CM : ∀ U, Ext w U → _ := fun U hU => among_w marks r _ U (by decide) (ht.marks.ext hU)
   simp only [marks_any] at CM
   have CM := Lib.hid CM
   go_wp2_with fail
   refine CL.mono ?_; rintro e w1 ⟨rfl, hb2⟩
   have hit2 := iter_ext hb2 hit1
   cases hl : letterB r with
   | true =>
    rw [hl] at HR
    obtain ⟨h1, h2⟩ := HR.out (by simp)
    go_wp2
    go_roundw
    case rel => exact ⟨pos + n, hb1.trans hb2, hit2, h1, h2⟩
    case measure => rw [iterPos_of hit2, iterPos_of hit]; omega
   | false =>
    rw [hl] at HR HB
    by_cases h0 : pos = 0
    ·subst h0
     have hB := HB.out (by simp)
     go_wp2
     go_ret
     exact ⟨by rw [hB]; rfl, hb1.trans hb2⟩
    ·have h0b : (pos == 0) = false := by rw [beq_eq_false_iff_ne]; exact h0
     have h0c : ((pos : Int) == 0) = false := by rw [beq_eq_false_iff_ne]; omega
     rw [h0b] at HR HB
     go_wp2_with fail
     refine (CM.out w1 (hb1.trans hb2)).mono ?_; rintro e w2 ⟨rfl, hb3⟩
     have hit3 := iter_ext hb3 hit2
     cases hk : markB r with
     | true =>
      rw [hk] at HR
      obtain ⟨h1, h2⟩ := HR.out (by simp)
      go_wp2
      go_roundw
      case rel => exact ⟨pos + n, hb1.trans (hb2.trans hb3), hit3, h1, h2⟩
      case measure => rw [iterPos_of hit3, iterPos_of hit]; omega
     | false =>
      rw [hk] at HB
      have hB := HB.out (by simp)
      go_wp2
      go_ret
      exact ⟨by rw [hB]; rfl, hb1.trans (hb2.trans hb3)⟩
  ·have hnx : ∀ ty, (Instr.next (.pointer (some ⟨w.heap.size, 0, none⟩)) true ty).run Tryz.prog wr = _ := fun ty => Lib.run_next_end_at wr w.heap.size s pos ty hit hp
   have hK : okL true s.data.toList = true := by
    rw [HK.out, List.drop_eq_nil_iff.2 (by rw [← size_len]; omega)]; rfl
   by_cases he : s = ⟨#[]⟩
   ·subst he
    go_wp2
    go_ret
    exact ⟨rfl, hb⟩
   ·have hne2 : s.data.toList.isEmpty = false := by
     rw [List.isEmpty_eq_false_iff]
     intro h
     apply he
     cases s
     simp at h
     rw [h]
    have hne : ¬ s.toList = [] := by
     rw [ByteArray.toList_eq]
     intro h
     rw [h] at hne2
     cases hne2
    go_wp2_with fail
    refine (count_w s wr hs).mono ?_; rintro e w2 ⟨rfl, hb3⟩
    have hd : decide ((countL s.data.toList : Int) ≤ 16) = decide (countL s.data.toList ≤ 16) := decide_eq_decide.2 (by omega)
    go_wp2
    go_ret
    refine ⟨?_, hb.trans hb3⟩
    show Ending.returned (Value.bool (!s.toList.isEmpty && decide (countL s.data.toList ≤ 16))) = _
    rw [ByteArray.toList_eq, rightL, hK]
    rfl

end Go.Proofs.YtefjdmjkofaajaaGreatDoor

namespace Go.Proofs.YtefjdmjkofaajaaGreatDoor
open Go.RowKit Go.Dm

/-- What the walks know of the package-level variables. -/
structure Vars (w : World) : Prop where
 tabs : Tabs w
 most : ∃ m, w.cell? ⟨5, 0, none⟩ = some (.int .i64 m)

theorem Vars.ext {w w' : World} (h : Vars w) (hb : Ext w w') : Vars w' := by
 refine ⟨h.tabs.ext hb, ?_⟩
 obtain ⟨m, hm⟩ := h.most
 exact ⟨m, by rw [hb.cell (by exact World.block_lt_of_cell? _ _ hm)]; exact hm⟩

end Go.Proofs.YtefjdmjkofaajaaGreatDoor

namespace Go.Proofs.YtefjdmjkofaajaaGreatDoor
open Go.RowKit Go.Dm

theorem right_fit (s : ByteArray) (w : World) (hs : s.size ≤ 140737488351232) (ht : Tabs w) :
  Calls Tryz.prog 60 #[.string s] w fun e w' => e = .returned (.bool (rightL s.data.toList)) ∧ Ext w w' := right_w s w (by omega) ht

set_option maxHeartbeats 2000000 in
theorem lright_w (l : List PairS) (v : Value) (w : World) (hm : l.length ≤ 35184372088832) (hf : FitP l) (hx : Pairs w v l) (ht : Tabs w) :
  Calls Tryz.prog 59 #[v] w fun e w' => e = .returned (.bool (rightLab (labL l))) ∧ Ext w w' := by
 obtain ⟨q, cap, rfl, hcap, hcm⟩ := hx.shape
 go_enter Tryz.func59, Tryz.ntmps59
 go_wp2
 go_loopw [7] (fun i' wr => ∃ k : Nat, k ≤ l.length ∧ i' = .int .i64 k ∧ Ext w wr ∧ Hid (∀ j, j < k → okLab (labL l) j = true)) (fun i' _ => l.length - (intOf i').toNat)
 case atStart => exact ⟨0, by omega, rfl, Ext.refl _, fun j hj => by omega⟩
 case round =>
  obtain ⟨k, hk, rfl, hb, HN⟩ := hrel
  by_cases hlt : k < l.length
  ·obtain ⟨b, off, rfl, hbl, c0, c1⟩ := (hx.ext hb).at hlt
   have hfk := hf _ (pairAt_mem hlt)
   have hok : ∀ c1 c2 c3, rightL (pairAt l k).1.data.toList = c1 → rightL (pairAt l k).2.data.toList = c2 → (k == 0 || !leB (pairAt l k).1.data.toList (pairAt l (k-1)).1.data.toList) = c3 → okLab (labL l) k = (c1 && (c2 && c3)) := by
    intro c1 c2 c3 e1 e2 e3
    unfold okLab
    rw [labL_at l hlt, labL_at l (by omega : k - 1 < l.length), ← e1, ← e2, ← e3]
    rfl
   have hbad : okLab (labL l) k = false → rightLab (labL l) = false := fun h => rightLab_bad (by rw [labL_len]; exact hlt) h
   have hgood : okLab (labL l) k = true → ∀ j, j < k + 1 → okLab (labL l) j = true := fun h j hj => by
    rcases Nat.lt_succ_iff_lt_or_eq.1 hj with h' | rfl
    ·exact HN.out j h'
    ·exact h
   have hW : Ext w (wr.alloc (.cells #[.string (pairAt l k).1, .string (pairAt l k).2] 126)) := hb.trans ((Ext.refl _).alloc _)
   have C1 : ∀ c, rightL (pairAt l k).1.data.toList = c → Hid (∀ U, Ext (wr.alloc (.cells #[.string (pairAt l k).1, .string (pairAt l k).2] 126)) U → Calls Tryz.prog 60 #[.string (pairAt l k).1] U fun e w' => e = .returned (.bool c) ∧ Ext U w') := by
    intro c h U hU
    rw [← h]
    exact right_fit _ U hfk.1 (ht.ext (hW.trans hU))
   have C2 : ∀ c, rightL (pairAt l k).2.data.toList = c → Hid (∀ U, Ext (wr.alloc (.cells #[.string (pairAt l k).1, .string (pairAt l k).2] 126)) U → Calls Tryz.prog 60 #[.string (pairAt l k).2] U fun e w' => e = .returned (.bool c) ∧ Ext U w') := by
    intro c h U hU
    rw [← h]
    exact right_fit _ U hfk.2 (ht.ext (hW.trans hU))
   replace hok := Lib.hid hok
   replace hbad := Lib.hid hbad
   replace hgood := Lib.hid hgood
   cases h1 : rightL (pairAt l k).1.data.toList with
   | false =>
    replace C1 := C1 _ h1
    replace C2 := C2 _ rfl
    have hB := Lib.hid (hbad.out (hok.out _ _ _ h1 rfl rfl))
    clear h1
    go_wp2_with fail
    refine Dm.wp_region_grow (by kernel_rfl) (by kernel_rfl) ?_
    repeat (go_big_quiet_step (first
     | (go_at_call 60; with_reducible exact Calls.quietE (C1.out _ (ext_grow _ _)))
     | (go_at_call 60; with_reducible exact Calls.quietE (C2.out _ (ext_grow _ _)))))
    refine wpQuiet_nil ?_
    intro U hU
    have hU' := hW.trans hU
    go_wp2
    go_ret
    exact ⟨by rw [hB.out]; rfl, hU'⟩
   | true =>
    replace C1 := C1 _ h1
    cases h2 : rightL (pairAt l k).2.data.toList with
    | false =>
     replace C2 := C2 _ h2
     have hB := Lib.hid (hbad.out (hok.out _ _ _ h1 h2 rfl))
     clear h1 h2
     go_wp2_with fail
     refine Dm.wp_region_grow (by kernel_rfl) (by kernel_rfl) ?_
     repeat (go_big_quiet_step (first
      | (go_at_call 60; with_reducible exact Calls.quietE (C1.out _ (ext_grow _ _)))
      | (go_at_call 60; with_reducible exact Calls.quietE (C2.out _ (ext_grow _ _)))))
     refine wpQuiet_nil ?_
     intro U hU
     have hU' := hW.trans hU
     go_wp2
     go_ret
     exact ⟨by rw [hB.out]; rfl, hU'⟩
    | true =>
     replace C2 := C2 _ h2
     by_cases h0 : k = 0
     ·subst h0
      have hG := Lib.hid (hgood.out (hok.out _ _ true h1 h2 rfl))
      clear h1 h2 hok hbad hgood
      rw [Nat.zero_mul, Nat.add_zero] at c0 c1
      go_wp2_with fail
      refine Dm.wp_region_grow (by kernel_rfl) (by kernel_rfl) ?_
      repeat (go_big_quiet_step (first
       | (go_at_call 60; with_reducible exact Calls.quietE (C1.out _ (ext_grow _ _)))
       | (go_at_call 60; with_reducible exact Calls.quietE (C2.out _ (ext_grow _ _)))))
      refine wpQuiet_nil ?_
      intro U hU
      have hU' := hW.trans hU
      go_wp2
      go_roundw
      case rel => exact ⟨1, by omega, rfl, hU', hG⟩
      case measure => simp [intOf]; omega
     ·obtain ⟨j, rfl⟩ : ∃ j, k = j + 1 := ⟨k - 1, by omega⟩
      obtain ⟨d0, _⟩ := (hx.ext hb).cells (k := j) (by omega)
      have hle : ∀ c c', Op.bytesLess (pairAt l (j + 1)).1.toList (pairAt l j).1.toList = c → ((pairAt l (j + 1)).1.toList == (pairAt l j).1.toList) = c' → (j + 1 == 0 || !leB (pairAt l (j + 1)).1.data.toList (pairAt l (j + 1 - 1)).1.data.toList) = !(c || c') := by
       intro c c' e1 e2
       rw [ByteArray.toList_eq, ByteArray.toList_eq] at e1 e2
       rw [← e1, ← e2]
       rfl
      cases q1 : Op.bytesLess (pairAt l (j + 1)).1.toList (pairAt l j).1.toList with
      | true =>
       have hB := Lib.hid (hbad.out (hok.out _ _ _ h1 h2 (hle _ _ q1 rfl)))
       clear h1 h2 hok hbad hgood hle
       go_wp2_with fail
       refine Dm.wp_region_grow (by kernel_rfl) (by kernel_rfl) ?_
       repeat (go_big_quiet_step (first
        | (go_at_call 60; with_reducible exact Calls.quietE (C1.out _ (ext_grow _ _)))
        | (go_at_call 60; with_reducible exact Calls.quietE (C2.out _ (ext_grow _ _)))))
       refine wpQuiet_nil ?_
       intro U hU
       have hU' := hW.trans hU
       go_wp2
       go_ret
       exact ⟨by rw [hB.out]; rfl, hU'⟩
      | false =>
       cases q2 : ((pairAt l (j + 1)).1.toList == (pairAt l j).1.toList) with
       | true =>
        have hB := Lib.hid (hbad.out (hok.out _ _ _ h1 h2 (hle _ _ q1 q2)))
        clear h1 h2 hok hbad hgood hle
        go_wp2_with fail
        refine Dm.wp_region_grow (by kernel_rfl) (by kernel_rfl) ?_
        repeat (go_big_quiet_step (first
         | (go_at_call 60; with_reducible exact Calls.quietE (C1.out _ (ext_grow _ _)))
         | (go_at_call 60; with_reducible exact Calls.quietE (C2.out _ (ext_grow _ _)))))
        refine wpQuiet_nil ?_
        intro U hU
        have hU' := hW.trans hU
        go_wp2
        go_ret
        exact ⟨by rw [hB.out]; rfl, hU'⟩
       | false =>
        have hG := Lib.hid (hgood.out (hok.out _ _ _ h1 h2 (hle _ _ q1 q2)))
        clear h1 h2 hok hbad hgood hle
        go_wp2_with fail
        refine Dm.wp_region_grow (by kernel_rfl) (by kernel_rfl) ?_
        repeat (go_big_quiet_step (first
         | (go_at_call 60; with_reducible exact Calls.quietE (C1.out _ (ext_grow _ _)))
         | (go_at_call 60; with_reducible exact Calls.quietE (C2.out _ (ext_grow _ _)))))
        refine wpQuiet_nil ?_
        intro U hU
        have hU' := hW.trans hU
        go_wp2
        go_roundw
        case rel => exact ⟨j + 1 + 1, by omega, by go_num, hU', hG⟩
        case measure => simp [intOf]; omega
  ·go_wp2
   go_ret
   obtain rfl : k = l.length := by omega
   have hA := rightLab_all (L := labL l) (fun j hj => HN.out j (by rw [labL_len] at hj; exact hj))
   rw [labL_len] at hA
   exact ⟨by rw [hA, show decide (l.length ≤ 8) = decide ((l.length : Int) ≤ 8) from decide_eq_decide.2 (by omega)]; rfl, hb⟩

end Go.Proofs.YtefjdmjkofaajaaGreatDoor

namespace Go.Dm
open Go Go.RowKit

/-- P4.2: labels as bytes. -/
def putP (L : List PairL) : Bs := L.flatMap fun p => putT p.1 ++ putT p.2
def putLab (L : List PairL) : Bs := if rightLab L then putL L.length ++ putP L else []
theorem putP_step {L : List PairL} {k : Nat} (hk : k < L.length) : putP (L.take (k + 1)) = putP (L.take k) ++ (putT (plAt L k).1 ++ putT (plAt L k).2) := by
 rw [List.take_succ_eq_append_getElem hk, putP, List.flatMap_append]
 simp [putP, plAt, hk]

end Go.Dm
namespace Go.Proofs.YtefjdmjkofaajaaGreatDoor
open Go.RowKit Go.Dm

theorem Tryz.slPair : SlT Tryz.prog 31 126 2 32 := SlT.mk' Tryz.underlying31 (by kernel_rfl) (by decide) (by decide)

end Go.Proofs.YtefjdmjkofaajaaGreatDoor

namespace Go.Dm
open Go Go.RowKit
theorem putT_len (t : Bs) (h : t.length ≤ 140737488351232) : (putT t).length ≤ 140737488351242 := by
 have := putL_ten (u := t.length) (show t.length < _ by omega)
 unfold putT
 rw [List.length_append]; omega
def textB (t : ByteArray) : ByteArray := ⟨(putT t.data.toList).toArray⟩
theorem textB_size (t : ByteArray) (h : t.size ≤ 140737488351232) : (textB t).size ≤ 140737488351242 := by
 rw [size_len]
 exact putT_len _ (by rw [← size_len]; exact h)

/-- A name has at most 32 bytes. -/
theorem okL_len : ∀ (n : Nat) (b : Bool) (l : Bs), l.length ≤ n → okL b l = true → l.length ≤ 2 * countL l := by
 intro n
 induction n with
 | zero => intro b l hl _; omega
 | succ n ih =>
  intro b l hl hok
  by_cases h : l = []
  ·subst h; simp
  ·rw [okL_step b h, Bool.and_eq_true] at hok
   have hw := wideL_pos l
   have h2 := ih false (l.drop (wideL l)) (by rw [List.length_drop]; omega) hok.2
   rw [List.length_drop] at h2
   have hle := wideL_le h
   have hw2 : wideL l ≤ 2 := by
    have hlm := (letterB_plain (r := runeL l) (by have := hok.1; cases b <;> simp_all)).2
    unfold wideL runeL decL at *
    repeat' split
    all_goals first
     | (simp only; omega)
     | skip
    all_goals simp_all
    all_goals omega
   rw [countL_step h]; omega
theorem right_len {l : Bs} (h : rightL l = true) : l.length ≤ 32 := by
 unfold rightL at h
 simp only [Bool.and_eq_true, decide_eq_true_eq] at h
 have := okL_len l.length true l (Nat.le_refl _) h.1.1
 omega
end Go.Dm
namespace Go.Proofs.YtefjdmjkofaajaaGreatDoor
open Go.RowKit Go.Dm

set_option maxHeartbeats 2000000 in
set_option maxRecDepth 100000 in
theorem lput_w (l : List PairS) (v : Value) (w : World) (hm : l.length ≤ 35184372088832) (hf : FitP l) (hx : Pairs w v l) (ht : Tabs w) :
  Calls Tryz.prog 68 #[v] w fun e w' => e = .returned (.string ⟨(putLab (labL l)).toArray⟩) ∧ Ext w w' := by
 obtain ⟨q, cap, rfl, hcap, hcm⟩ := hx.shape
 have C := lright_w l _ w hm hf hx ht
 cases hR : rightLab (labL l) with
 | false =>
  have hz : Hid (putLab (labL l) = []) := by show _ = _; unfold putLab; rw [hR]; rfl
  rw [hR] at C
  clear hR
  go_enter Tryz.func68, Tryz.ntmps68
  go_wp2_with fail
  refine C.mono ?_; rintro e w1 ⟨rfl, h1⟩
  go_wp2
  go_ret
  exact ⟨by rw [hz.out]; rfl, h1⟩
 | true =>
  have hz : Hid (putLab (labL l) = putL l.length ++ putP (labL l)) := by show _ = _; unfold putLab; rw [hR, labL_len]; rfl
  have h8 : l.length ≤ 8 := by have := (rightLab_iff.1 hR).1; rwa [labL_len] at this
  have hU : U64 l.length := show l.length < _ by omega
  have hpl := putL_ten hU
  rw [hR] at C
  clear hR
  go_enter Tryz.func68, Tryz.ntmps68
  go_wp2_with fail
  refine C.mono ?_; rintro e w1 ⟨rfl, h1⟩
  clear C
  go_wp2_with fail
  refine (put_w l.length w1 hU).mono ?_; rintro e w2 ⟨rfl, h2⟩
  have e2 := h1.trans h2
  go_wp2
  go_loopw [3, 15] (fun s' i' wr => ∃ (k : Nat) (b : ByteArray), k ≤ l.length ∧ i' = .int .i64 k ∧ s' = .string b ∧ b.size ≤ 10 + k * 281474976702484 ∧ Ext w2 wr ∧ Hid (b.data.toList = putL l.length ++ putP ((labL l).take k))) (fun _ i' _ => l.length - (intOf i').toNat)
  case atStart => exact ⟨0, ⟨(putL l.length).toArray⟩, by omega, rfl, rfl, by rw [size_len]; exact hpl, Ext.refl _, by show _ = _; simp [putP]⟩
  case round =>
   obtain ⟨k, b, hk, rfl, rfl, hbs, hb, HB⟩ := hrel
   have er := e2.trans hb
   by_cases hlt : k < l.length
   ·obtain ⟨bb, off, rfl, hbl, c0, c1⟩ := (hx.ext er).at hlt
    have hfk := hf _ (pairAt_mem hlt)
    have s1 := textB_size _ hfk.1
    have s2 := textB_size _ hfk.2
    have hst : Hid ((b ++ (textB (pairAt l k).1 ++ textB (pairAt l k).2)).data.toList = putL l.length ++ putP ((labL l).take (k + 1))) := by
     show _ = _
     rw [putP_step (by rw [labL_len]; exact hlt), labL_at l hlt, data_append, data_append, HB.out, List.append_assoc]
     rfl
    have C1 : Hid (∀ U, Ext (wr.alloc (.cells #[.string (pairAt l k).1, .string (pairAt l k).2] 126)) U → Calls Tryz.prog 62 #[.string (pairAt l k).1] U fun e w' => e = .returned (.string (textB (pairAt l k).1)) ∧ Ext U w') := fun U _ => puttext_w _ U (by omega)
    have C2 : Hid (∀ U, Ext (wr.alloc (.cells #[.string (pairAt l k).1, .string (pairAt l k).2] 126)) U → Calls Tryz.prog 62 #[.string (pairAt l k).2] U fun e w' => e = .returned (.string (textB (pairAt l k).2)) ∧ Ext U w') := fun U _ => puttext_w _ U (by omega)
    have hW : Ext w2 (wr.alloc (.cells #[.string (pairAt l k).1, .string (pairAt l k).2] 126)) := hb.trans ((Ext.refl _).alloc _)
    generalize textB (pairAt l k).1 = t1 at *
    generalize textB (pairAt l k).2 = t2 at *
    go_wp2_with fail
    refine Dm.wp_region_grow (by kernel_rfl) (by kernel_rfl) ?_
    repeat (go_big_quiet_step (first
     | (go_at_call 62; with_reducible exact Calls.quietE (C1.out _ (ext_grow _ _)))
     | (go_at_call 62; with_reducible exact Calls.quietE (C2.out _ (ext_grow _ _)))))
    refine wpQuiet_nil ?_
    intro U hU
    have hU' := hW.trans hU
    clear C1 C2
    go_wp2
    go_roundw
    case rel => exact ⟨k + 1, _, by omega, by go_num, rfl, by rw [ByteArray.size_append, ByteArray.size_append]; omega, hU', hst⟩
    case measure => simp [intOf]; omega
   ·go_wp2
    go_ret
    obtain rfl : k = l.length := by omega
    have h := HB.out
    rw [← labL_len, List.take_length, labL_len, ← hz.out] at h
    exact ⟨by rw [← mk_bytes h]; rfl, er⟩

end Go.Proofs.YtefjdmjkofaajaaGreatDoor

namespace Go.Dm
open Go Go.RowKit

end Go.Dm
namespace Go.Proofs.YtefjdmjkofaajaaGreatDoor
open Go.RowKit Go.Dm

theorem Tryz.eq_pair (a b c d : ByteArray) (w : World) : (Op.equalIn 10000 126 (.agg #[.string a, .string b]) (.agg #[.string c, .string d])).run Tryz.prog w = .ok (a.toList == c.toList && b.toList == d.toList) w := by
 rw [show (10000 : Nat) = 9999 + 1 from rfl, run_equalIn_agg w 9999 126 _ _ (by kernel_rfl) (by kernel_rfl)]
 simp only [Program.fieldsOf, Tryz.underlying126]
 cases h1 : (a.toList == c.toList) <;> cases h2 : (b.toList == d.toList) <;>
 simp [Op.eqFields, go_sem, h1, h2]

end Go.Proofs.YtefjdmjkofaajaaGreatDoor

namespace Go.Dm
open Go Go.RowKit
/-- A word turned right. -/
def turnW (x : Int) (n : Nat) : Int := Go.bits .or .u32 (IntKind.u32.wrap (x * 2 ^ (32 - n))) (x / 2 ^ n)
theorem rot_and {n : Nat} (hn : 1 ≤ n ∧ n ≤ 31) : Go.bits .and .u64 (IntKind.u64.wrap (-(n : Int))) 31 = ((32 - n : Nat) : Int) := by
 have h : ∀ k : Fin 31, Go.bits .and .u64 (IntKind.u64.wrap (-((k.val + 1 : Nat) : Int))) 31 = ((32 - (k.val + 1) : Nat) : Int) := by decide +kernel
 have := h ⟨n - 1, by omega⟩
 simpa [Nat.sub_add_cancel hn.1] using this
theorem rot_sub {n : Nat} (hn : 1 ≤ n ∧ n ≤ 31) : IntKind.u64.wrap (32 - ((32 - n : Nat) : Int)) = (n : Int) := by rw [IntKind.wrap_u64]; omega
end Go.Dm
namespace Go.Proofs.YtefjdmjkofaajaaGreatDoor
open Go.RowKit Go.Dm

theorem rot32_w (x : Int) (n : Nat) (hn : 1 ≤ n ∧ n ≤ 31) (w : World) :
  Calls Tryz.prog 160 #[.int .u32 x, .int .i64 (-(n : Int))] w fun e w' => e = .returned (.int .u32 (turnW x n)) ∧ Ext w w' := by
 have h1 := rot_and hn
 have h2 := rot_sub hn
 have h3 : (((32 - n : Nat) : Int)).toNat = 32 - n := by omega
 unfold turnW
 go_enter Tryz.func160, Tryz.ntmps160
 go_wp2
 go_ret
 exact ⟨rfl, Ext.refl _⟩
theorem turn_w (x : Int) (n : Nat) (hn : 1 ≤ n ∧ n ≤ 31) (w : World) :
  Calls Tryz.prog 136 #[.int .u32 x, .int .i64 (n : Nat)] w fun e w' => e = .returned (.int .u32 (turnW x n)) ∧ Ext w w' := by
 go_enter Tryz.func136, Tryz.ntmps136
 go_wp2_with fail
 refine (rot32_w x n hn _).mono ?_; rintro e w1 ⟨rfl, h1⟩
 go_wp2
 go_ret
 exact ⟨rfl, h1⟩
end Go.Proofs.YtefjdmjkofaajaaGreatDoor

namespace Go.Dm
open Go Go.RowKit

def xorW (x y : Int) : Int := Go.bits .xor .u32 x y
def andW (x y : Int) : Int := Go.bits .and .u32 x y
def orW (x y : Int) : Int := Go.bits .or .u32 x y
def at0 (l : List Int) (i : Nat) : Int := l.getD i 0
/-- The first words of a block. -/
def headW (B : List Int) (k : Nat) : Int := orW (orW (orW (at0 B (4 * k) * 16777216) (at0 B (4 * k + 1) * 65536)) (at0 B (4 * k + 2) * 256)) (at0 B (4 * k + 3))
/-- A word that is made of others. -/
def madeW (a x b y : Int) : Int := (a + xorW (xorW (turnW x 7) (turnW x 18)) (x / 8) + b + xorW (xorW (turnW y 17) (turnW y 19)) (y / 1024)) % 4294967296
/-- The first `k` words. -/
def wordsW (B : List Int) : Nat → List Int
 | 0 => []
 | k + 1 => wordsW B k ++ [if k < 16 then headW B k else madeW (at0 (wordsW B k) (k - 16)) (at0 (wordsW B k) (k - 15)) (at0 (wordsW B k) (k - 7)) (at0 (wordsW B k) (k - 2))]
theorem wordsW_len (B : List Int) (k : Nat) : (wordsW B k).length = k := by
 induction k with
 | zero => rfl
 | succ k ih => simp [wordsW, ih]
def roundsW : List Int := [1116352408, 1899447441, 3049323471, 3921009573, 961987163, 1508970993, 2453635748, 2870763221, 3624381080, 310598401, 607225278, 1426881987, 1925078388, 2162078206, 2614888103, 3248222580, 3835390401, 4022224774, 264347078, 604807628, 770255983, 1249150122, 1555081692, 1996064986, 2554220882, 2821834349, 2952996808, 3210313671, 3336571891, 3584528711, 113926993, 338241895, 666307205, 773529912, 1294757372, 1396182291, 1695183700, 1986661051, 2177026350, 2456956037, 2730485921, 2820302411, 3259730800, 3345764771, 3516065817, 3600352804, 4094571909, 275423344, 430227734, 506948616, 659060556, 883997877, 958139571, 1322822218, 1537002063, 1747873779, 1955562222, 2024104815, 2227730452, 2361852424, 2428436474, 2756734187, 3204031479, 3329325298]
def startW : List Int := [1779033703, 3144134277, 1013904242, 2773480762, 1359893119, 2600822924, 528734635, 1541459225]
def oneW (e v5 v6 v7 k w : Int) : Int := (v7 + xorW (xorW (turnW e 6) (turnW e 11)) (turnW e 25) + xorW (andW e v5) (andW (xorW IntKind.u32.max e) v6) + k + w) % 4294967296
def twoW (a v1 v2 : Int) : Int := (xorW (xorW (turnW a 2) (turnW a 13)) (turnW a 22) + xorW (xorW (andW a v1) (andW a v2)) (andW v1 v2)) % 4294967296
/-- One step. -/
def stepW (v : List Int) (k w : Int) : List Int :=
 [(oneW (at0 v 4) (at0 v 5) (at0 v 6) (at0 v 7) k w + twoW (at0 v 0) (at0 v 1) (at0 v 2)) % 4294967296, at0 v 0, at0 v 1, at0 v 2, (at0 v 3 + oneW (at0 v 4) (at0 v 5) (at0 v 6) (at0 v 7) k w) % 4294967296, at0 v 4, at0 v 5, at0 v 6]
def runW (h W : List Int) : Nat → List Int
 | 0 => h
 | k + 1 => stepW (runW h W k) (at0 roundsW k) (at0 W k)
theorem runW_len {h W : List Int} (hh : h.length = 8) (k : Nat) : (runW h W k).length = 8 := by
 cases k with
 | zero => exact hh
 | succ k => rfl
theorem eight {v : List Int} (h : v.length = 8) : v = [at0 v 0, at0 v 1, at0 v 2, at0 v 3, at0 v 4, at0 v 5, at0 v 6, at0 v 7] := by
 match v, h with
 | [_, _, _, _, _, _, _, _], _ => rfl
/-- The words, summed with those of before. -/
def sumW (v h : List Int) : List Int := List.zipWith (fun x y => (x + y) % 4294967296) v h
def blockW (h B : List Int) : List Int := sumW (runW h (wordsW B 64) 64) h
theorem blockW_len {h B : List Int} (hh : h.length = 8) : (blockW h B).length = 8 := by simp [blockW, sumW, runW_len hh, hh]
/-- The first `k` words summed. -/
def sumP (v h : List Int) (k : Nat) : List Int := (sumW v h).take k ++ v.drop k
theorem sumP_len {v h : List Int} (hv : v.length = 8) (hh : h.length = 8) {k : Nat} (hk : k ≤ 8) : (sumP v h k).length = 8 := by
 simp [sumP, sumW, hv, hh]; omega
theorem sumP_at {v h : List Int} (hv : v.length = 8) (hh : h.length = 8) {k : Nat} (hk : k < 8) : (sumP v h k).getD k 0 = at0 v k := by
 have hl : ((sumW v h).take k).length = k := by simp [sumW, hv, hh]; omega
 unfold sumP at0
 rw [List.getD_eq_getElem?_getD, List.getElem?_append_right (by omega), hl, Nat.sub_self, List.getElem?_drop, Nat.add_zero, List.getD_eq_getElem?_getD]
theorem sumP_set {v h : List Int} (hv : v.length = 8) (hh : h.length = 8) {k : Nat} (hk : k < 8) : (sumP v h k).set k ((at0 v k + at0 h k) % 4294967296) = sumP v h (k + 1) := by
 have hl : ((sumW v h).take k).length = k := by simp [sumW, hv, hh]; omega
 have hk1 : k < (sumW v h).length := by simp [sumW, hv, hh]; omega
 have hk2 : k < v.length := by omega
 have hk3 : k < h.length := by omega
 unfold sumP
 rw [List.set_append_right _ _ (by omega), hl, Nat.sub_self, List.drop_eq_getElem_cons hk2, List.set_cons_zero, List.take_add_one, List.getElem?_eq_getElem hk1]
 simp [sumW, at0, List.getD_eq_getElem?_getD, hk2, hk3]
theorem sumP_zero (v h : List Int) : sumP v h 0 = v := by simp [sumP]
theorem sumP_all {v h : List Int} (hv : v.length = 8) (hh : h.length = 8) : sumP v h 8 = sumW v h := by
 unfold sumP
 rw [List.take_of_length_le (by simp [sumW, hv, hh]), List.drop_of_length_le (by omega), List.append_nil]
end Go.Dm

namespace Go.Dm
open Go Go.RowKit
/-- A number in eight bytes. -/
def byte8 (n i : Nat) : UInt8 := UInt8.ofNat (n / 2 ^ (8 * (7 - i)) % 256)
def be8 (n : Nat) : Bs := [byte8 n 0, byte8 n 1, byte8 n 2, byte8 n 3, byte8 n 4, byte8 n 5, byte8 n 6, byte8 n 7]
/-- A text with what is added to it. -/
def padB (s : Bs) : Bs := s ++ 128 :: (List.replicate ((119 - s.length % 64) % 64) 0 ++ be8 (s.length * 8))
theorem padB_len (s : Bs) : ∃ n, (padB s).length = 64 * n ∧ 1 ≤ n := by
 have h : (padB s).length = s.length + 1 + (119 - s.length % 64) % 64 + 8 := by simp [padB, be8]; omega
 refine ⟨(padB s).length / 64, ?_, ?_⟩ <;> omega
def oct (n k : Nat) : List Int := ((be8 n).map (fun b => (b.toNat : Int))).take k ++ List.replicate (8 - k) 0
theorem oct_len (n : Nat) {k : Nat} (hk : k ≤ 8) : (oct n k).length = 8 := by simp [oct, be8]; omega
theorem oct_set (n : Nat) {k : Nat} (hk : k < 8) : (oct n k).set k ((n : Int) / 2 ^ (8 * (7 - k)) % 256) = oct n (k + 1) := by
 have e0 : ((n : Int) / 2 ^ (8 * (7 - k)) % 256) = ((n / 2 ^ (8 * (7 - k)) % 256 : Nat) : Int) := by simp
 rw [e0]
 match k, hk with
 | 0, _ | 1, _ | 2, _ | 3, _ | 4, _ | 5, _ | 6, _ | 7, _ => simp [oct, be8, byte8]
theorem oct_all (n : Nat) : oct n 8 = (be8 n).map (fun b => (b.toNat : Int)) := by simp [oct, be8]
theorem repeat_one (b : UInt8) (z : Nat) : Lib.repeatL [b] z = List.replicate z b := by
 induction z with
 | zero => rfl
 | succ z ih => rw [List.replicate_succ, ← ih]; rfl
end Go.Dm

namespace Go.Dm
open Go Go.RowKit

/-- A term: its key, whether it is turned, its values. -/
abbrev TermS := ByteArray × Bool × List ByteArray
/-- A term as it lies in a slice: its values are a slice of their own. -/
abbrev RowS := ByteArray × Bool × Value × List ByteArray
def rowT (r : RowS) : TermS := (r.1, r.2.1, r.2.2.2)
def noRow : RowS := (⟨#[]⟩, false, .slice none 0 0, [])
def sAtR (R : List RowS) (k : Nat) : RowS := R.getD k noRow
def rowOne (r : RowS) : List Value := [.string r.1, .bool r.2.1, r.2.2.1]
def rowCells (R : List RowS) : List Value := R.flatMap rowOne
theorem rowCells_app (a b : List RowS) : rowCells (a ++ b) = rowCells a ++ rowCells b := by simp [rowCells]
theorem rowCells_at : ∀ (xs : List RowS) (k : Nat), k < xs.length → (rowCells xs)[k*3]? = some (.string (sAtR xs k).1) ∧ (rowCells xs)[k*3+1]? = some (.bool (sAtR xs k).2.1) ∧ (rowCells xs)[k*3+2]? = some (sAtR xs k).2.2.1
 | x :: xs, 0, _ => by simp [rowCells, rowOne, sAtR]
 | x :: xs, k+1, h => by
  have := rowCells_at xs k (by simpa using h)
  have e : (k+1)*3 = k*3+1+1+1 := by omega
  have e2 : (k+1)*3+1 = k*3+1+1+1+1 := by omega
  have e3 : (k+1)*3+2 = k*3+2+1+1+1 := by omega
  rw [e2, e3, e]
  simp only [rowCells, rowOne, sAtR, List.flatMap_cons, List.cons_append, List.nil_append, List.getElem?_cons_succ, List.getD_cons_succ]
  exact this
theorem sAtR_mem {l : List RowS} {k : Nat} (h : k < l.length) : sAtR l k ∈ l := by
 simp only [sAtR, List.getD_eq_getElem?_getD, List.getElem?_eq_getElem h, Option.getD_some]
 exact List.getElem_mem h
theorem take_snocT {l : List RowS} {k : Nat} (hk : k < l.length) : l.take (k + 1) = l.take k ++ [sAtR l k] := by
 rw [List.take_succ_eq_append_getElem hk]
 simp [hk, sAtR]

/-- A slice value reads as these terms. -/
structure Terms (w : World) (v : Value) (R : List RowS) : Prop where
 sl : Sl w 3 v R.length (rowCells R)
 vals : ∀ r ∈ R, Strs w r.2.2.1 r.2.2.2
theorem Terms.ext {w w' : World} {v R} (h : Terms w v R) (hb : Ext w w') : Terms w' v R := ⟨h.sl.ext hb, fun r hr => (h.vals r hr).ext hb⟩
theorem Terms.nil (w : World) : Terms w (.slice none 0 0) [] := ⟨Sl.nil w 3, fun r hr => by cases hr⟩
theorem Terms.shape {w : World} {v R} (h : Terms w v R) : ∃ p cap, v = .slice p R.length cap ∧ R.length ≤ cap ∧ cap ≤ maxLen := by
 obtain ⟨p, cap, h1, h2, h3, _⟩ := Sl.shape h.sl
 exact ⟨p, cap, h1, h2, h3⟩
theorem Terms.at {w : World} {xs : List RowS} {p cap} (h : Terms w (.slice p xs.length cap) xs) {k : Nat} (hk : k < xs.length) :
  ∃ b off, p = some ⟨b, off, none⟩ ∧ b < w.heap.size ∧ w.cell? ⟨b, off + k*3, none⟩ = some (.string (sAtR xs k).1) ∧ w.cell? ⟨b, off + k*3 + 1, none⟩ = some (.bool (sAtR xs k).2.1) ∧ w.cell? ⟨b, off + k*3 + 2, none⟩ = some (sAtR xs k).2.2.1 := by
 obtain ⟨b, off, hp, hb, h⟩ := Sl.at h.sl (by omega)
 have := rowCells_at xs k hk
 exact ⟨b, off, hp, hb, h _ _ this.1, by have := h _ _ this.2.1; rw [show off + (k*3+1) = off + k*3+1 by omega] at this; exact this, by have := h _ _ this.2.2; rw [show off + (k*3+2) = off + k*3+2 by omega] at this; exact this⟩
theorem Terms.val {w : World} {xs : List RowS} {v} (h : Terms w v xs) {k : Nat} (hk : k < xs.length) : Strs w (sAtR xs k).2.2.1 (sAtR xs k).2.2.2 := h.vals _ (sAtR_mem hk)
theorem Terms.of_row {w : World} {B e : Nat} {v : Value} {n : Nat} {l : List RowS} (h : w.ownsRow B e 3 v n (rowCells l)) (hn : n = l.length) (hv : ∀ r ∈ l, Strs w r.2.2.1 r.2.2.2) : Terms w v l := by
 subst hn
 exact ⟨Sl.of_owns h, hv⟩
theorem Strs.one {w : World} {v : Value} {ss} (h : Strs w v ss) : v.oneCell' = true := by
 obtain ⟨p, cap, rfl, _⟩ := h.shape
 rfl

/-- A term's texts are of a size that a run can hold. -/
def FitT (t : TermS) : Prop := t.1.size ≤ 140737488351232 ∧ t.2.2.length ≤ 35184372088832 ∧ ∀ x ∈ t.2.2, x.size ≤ 140737488351232

end Go.Dm

namespace Go.Proofs.YtefjdmjkofaajaaGreatDoor
open Go.RowKit Go.Dm

end Go.Proofs.YtefjdmjkofaajaaGreatDoor

namespace Go.Proofs.YtefjdmjkofaajaaGreatDoor
open Go.RowKit Go.Dm

end Go.Proofs.YtefjdmjkofaajaaGreatDoor

namespace Go.Dm
open Go Go.RowKit

/-- A byte that stands in no name. -/
def NoName (c : UInt8) : Prop := (letterB c.toNat || markB c.toNat) = false ∧ c.toNat < 128

theorem okL_step_no {c : UInt8} (hc : NoName c) {b : Bool} {l : Bs} (h : l ≠ []) (hr : (letterB (runeL l) || (!b && markB (runeL l))) = true) : c ∉ l.take (wideL l) := by
 have hlm : (letterB (runeL l) || markB (runeL l)) = true := by cases b <;> simp_all
 obtain ⟨hne, hlt⟩ := letterB_plain hlm
 obtain ⟨hc1, hc2⟩ := hc
 unfold wideL runeL decL at *
 obtain ⟨a, t, rfl, ha⟩ := head_bAt h
 split
 ·rename_i h0
  rw [if_pos h0] at hlm
  simp only at hlm
  intro hm
  simp at hm
  subst hm
  rw [ha] at hlm
  rw [hlm] at hc1
  cases hc1
 ·rename_i h0
  rw [if_neg h0] at hne hlt
  split
  ·rename_i h1
   rw [if_pos h1] at hne hlt
   simp only [Bool.and_eq_true, beq_iff_eq] at h1
   split
   ·rename_i h2
    rw [if_pos h2] at hne hlt
    have hcb := contB_lt h1.2
    cases t with
    | nil => simp at hcb
    | cons d t =>
     intro hm
     simp at hm
     have hcc : d.toNat / 64 = 2 := by
      have := h1.2
      simp only [contB, Bool.and_eq_true, beq_iff_eq] at this
      exact this.2
     rcases hm with rfl | rfl
     ·rw [ha] at h0; exact h0 (by first | exact decide_eq_true hc2 | exact hc2)
     ·omega
   ·rename_i h2
    rw [if_neg h2] at hlt
    simp only at hlt; omega
  ·rename_i h1
   rw [if_neg h1] at hlt
   split
   ·rename_i h3
    rw [if_pos h3] at hlt
    split
    ·rename_i h4
     rw [if_pos h4] at hlt
     simp only [Bool.and_eq_true, decide_eq_true_eq] at h4
     simp only at hlt; omega
    ·rename_i h4
     rw [if_neg h4] at hlt
     simp only at hlt; omega
   ·rename_i h3
    rw [if_neg h3] at hlt
    split
    ·rename_i h5
     rw [if_pos h5] at hlt
     split
     ·rename_i h6
      rw [if_pos h6] at hlt
      simp only [Bool.and_eq_true, decide_eq_true_eq] at h6
      simp only at hlt; omega
     ·rename_i h6
      rw [if_neg h6] at hlt
      simp only at hlt; omega
    ·rename_i h5
     rw [if_neg h5] at hlt
     simp only at hlt; omega

theorem okL_no {c : UInt8} (hc : NoName c) : ∀ (n : Nat) (b : Bool) (l : Bs), l.length ≤ n → okL b l = true → c ∉ l := by
 intro n
 induction n with
 | zero =>
  intro b l hl _
  have : l = [] := List.length_eq_zero_iff.1 (by omega)
  subst this
  simp
 | succ n ih =>
  intro b l hl hok
  by_cases h : l = []
  ·subst h; simp
  ·rw [okL_step b h, Bool.and_eq_true] at hok
   have h1 := okL_step_no hc h hok.1
   have hw := wideL_pos l
   have h2 := ih false (l.drop (wideL l)) (by rw [List.length_drop]; omega) hok.2
   rw [← List.take_append_drop (wideL l) l, List.mem_append]
   rintro (h' | h')
   ·exact h1 h'
   ·exact h2 h'

theorem right_no {c : UInt8} (hc : NoName c) {l : Bs} (h : rightL l = true) : c ∉ l := by
 unfold rightL at h
 simp only [Bool.and_eq_true] at h
 exact okL_no hc _ true l (Nat.le_refl _) h.1.1
end Go.Dm

namespace Go.Dm
open Go Go.RowKit

def bS (s : ByteArray) : Bs := s.data.toList
/-- May the value at a place stand there? -/
def okVal (vs : List ByteArray) (k : Nat) : Bool := rightL (bS (strAt vs k)) && (k == 0 || !leB (bS (strAt vs k)) (bS (strAt vs (k - 1))))
/-- P5.1: may a term be? -/
def rightT (t : TermS) : Bool := (List.range t.2.2.length).all (okVal t.2.2) && (rightL (bS t.1) && decide (t.2.2.length ≤ 4))
/-- P5.1: may a selector be? -/
def rightS (T : List TermS) : Bool := decide (T.length ≤ 4) && T.all rightT

theorem rightT_bad {t : TermS} {k : Nat} (hk : k < t.2.2.length) (h : okVal t.2.2 k = false) : rightT t = false := by
 unfold rightT
 rw [Bool.and_eq_false_iff]
 left
 rw [List.all_eq_false]
 exact ⟨k, List.mem_range.2 hk, by rw [h]; simp⟩
theorem rightT_all {t : TermS} (h : ∀ k, k < t.2.2.length → okVal t.2.2 k = true) : rightT t = (rightL (bS t.1) && decide (t.2.2.length ≤ 4)) := by
 unfold rightT
 rw [List.all_eq_true.2 (fun k hk => h k (List.mem_range.1 hk)), Bool.true_and]
theorem rightT_iff {t : TermS} : rightT t = true ↔ (∀ k, k < t.2.2.length → okVal t.2.2 k = true) ∧ rightL (bS t.1) = true ∧ t.2.2.length ≤ 4 := by
 unfold rightT
 rw [Bool.and_eq_true, Bool.and_eq_true, decide_eq_true_eq, List.all_eq_true]
 exact ⟨fun h => ⟨fun k hk => h.1 k (List.mem_range.2 hk), h.2⟩, fun h => ⟨fun k hk => h.1 k (List.mem_range.1 hk), h.2⟩⟩
theorem rightS_iff {T : List TermS} : rightS T = true ↔ T.length ≤ 4 ∧ ∀ t ∈ T, rightT t = true := by
 unfold rightS
 rw [Bool.and_eq_true, decide_eq_true_eq, List.all_eq_true]
theorem rightT_val {t : TermS} (h : rightT t = true) : ∀ x ∈ t.2.2, rightL (bS x) = true := by
 intro x hx
 obtain ⟨k, hk, rfl⟩ := List.getElem_of_mem hx
 have := (rightT_iff.1 h).1 k hk
 unfold okVal at this
 rw [Bool.and_eq_true] at this
 have e : strAt t.2.2 k = t.2.2[k] := by simp [strAt, hk]
 rw [e] at this
 exact this.1
theorem rightT_sizes {t : TermS} (h : rightT t = true) : t.1.size ≤ 32 ∧ t.2.2.length ≤ 4 ∧ ∀ x ∈ t.2.2, x.size ≤ 32 := by
 refine ⟨right_len (rightT_iff.1 h).2.1, (rightT_iff.1 h).2.2, fun x hx => right_len (rightT_val h x hx)⟩

/-- P5.3: a term, a selector as bytes. -/
def numT (t : TermS) : Nat := 2 * t.2.2.length + (if t.2.1 then 1 else 0)
def putVals (vs : List ByteArray) : Bs := vs.flatMap fun x => putT (bS x)
def putTm (t : TermS) : Bs := (putT (bS t.1) ++ putL (numT t)) ++ putVals t.2.2
def putTms (T : List TermS) : Bs := T.flatMap putTm
def putS (T : List TermS) : Bs := if rightS T then putL T.length ++ putTms T else []
theorem putVals_step {vs : List ByteArray} {k : Nat} (hk : k < vs.length) : putVals (vs.take (k + 1)) = putVals (vs.take k) ++ putT (bS (strAt vs k)) := by
 rw [List.take_succ_eq_append_getElem hk, putVals, List.flatMap_append]
 simp [putVals, strAt, hk]
theorem rowT_take {R : List RowS} {k : Nat} (hk : k < R.length) : (R.take (k + 1)).map rowT = (R.take k).map rowT ++ [rowT (sAtR R k)] := by
 rw [take_snocT hk, List.map_append]; rfl
theorem putTms_step {T : List TermS} {t : TermS} : putTms (T ++ [t]) = putTms T ++ putTm t := by simp [putTms]
end Go.Dm

namespace Go.Dm
open Go Go.RowKit
theorem allR_hit {R : List RowS} {k : Nat} (hk : k < R.length) (h : rightT (rowT (sAtR R k)) = false) : (R.map rowT).all rightT = false := by
 rw [List.all_eq_false]
 exact ⟨_, List.mem_map_of_mem (sAtR_mem hk), by rw [h]; simp⟩
theorem allR_miss {R : List RowS} (h : ∀ k, k < R.length → rightT (rowT (sAtR R k)) = true) : (R.map rowT).all rightT = true := by
 rw [List.all_eq_true]
 intro t ht
 obtain ⟨r, hr, rfl⟩ := List.mem_map.1 ht
 obtain ⟨k, hk, rfl⟩ := List.getElem_of_mem hr
 have := h k hk
 have e : sAtR R k = R[k] := by simp [sAtR, hk]
 rwa [e] at this
def FitR (R : List RowS) : Prop := ∀ r ∈ R, FitT (rowT r)
end Go.Dm
namespace Go.Proofs.YtefjdmjkofaajaaGreatDoor
open Go.RowKit Go.Dm

end Go.Proofs.YtefjdmjkofaajaaGreatDoor

namespace Go.Dm
open Go Go.RowKit

def mkT (t : Bs × Bool × List Bs) : TermS := (⟨t.1.toArray⟩, t.2.1, t.2.2.map fun x => ⟨x.toArray⟩)
end Go.Dm

namespace Go.Dm
open Go Go.RowKit

/-- No block in common. -/
def Apart (u v : Value) : Prop := ∀ b, u.ownBlock = some b → v.ownBlock ≠ some b

theorem Sl.grown {w w' : World} {row : Option Nat} {sz n : Nat} {v : Value} {cs : List Value} (h : Sl w sz v n cs) (hg : w.grownBy w' row) (ha : n = 0 ∨ ∀ b, v.ownBlock = some b → row ≠ some b) : Sl w' sz v n cs := by
 obtain ⟨hl, p, cap, hv, hn, hm, hz, h⟩ := h
 refine ⟨hl, p, cap, hv, hn, hm, hz, ?_⟩
 rcases h with h | ⟨b, off, hp, hlt, h⟩
 ·exact Or.inl h
 rcases ha with ha | ha
 ·exact Or.inl ha
 subst hv hp
 have hne := ha b rfl
 exact Or.inr ⟨b, off, rfl, Nat.lt_of_lt_of_le hlt hg.size, fun j u hj => hg.cell (h j u hj) (fun e => hne e.symm)⟩
theorem Sl.own_lt {w : World} {sz n b : Nat} {v : Value} {cs : List Value} (h : Sl w sz v n cs) (h0 : n ≠ 0) (hb : v.ownBlock = some b) : b < w.heap.size := by
 obtain ⟨_, p, cap, hv, _, _, _, h⟩ := h
 rcases h with h | ⟨b', off, hp, hlt, _⟩
 ·exact absurd h h0
 ·subst hv hp
  simp only [Value.ownBlock, Option.some.injEq] at hb
  omega

/-- A selector's rows, and its values, lie in blocks of the call's own. -/
def OwnT (B : Nat) (v : Value) (R : List RowS) : Prop := (∀ c, v.ownBlock = some c → B ≤ c) ∧ ∀ x ∈ R, ∀ c, x.2.2.1.ownBlock = some c → B ≤ c
theorem OwnT.nil (B : Nat) : OwnT B (.slice none 0 0) [] := ⟨(fun c h => by cases h), fun x hx => by cases hx⟩
/-- What writes a block that is none of these leaves the selector. -/
theorem Terms.set {w : World} {v : Value} {R : List RowS} {B : Nat} (h : Terms w v R) (ho : OwnT B v R) {b i : Nat} (hb : b < B) (u : Value) : Terms (w.setCell ⟨b, i, none⟩ u) v R := by
 have hg : ∀ {sz n : Nat} {x : Value} {cs : List Value}, Sl w sz x n cs → (∀ c, x.ownBlock = some c → B ≤ c) → Sl (w.setCell ⟨b, i, none⟩ u) sz x n cs := fun {sz n x cs} hx hown => by
  obtain ⟨hl, p, cap, hv, hn, hm, hz, h⟩ := hx
  refine ⟨hl, p, cap, hv, hn, hm, hz, ?_⟩
  rcases h with h | ⟨c, off, hp, hlt, h⟩
  ·exact Or.inl h
  ·subst hv hp
   have hc := hown c rfl
   refine Or.inr ⟨c, off, rfl, by rw [World.size_setCell]; exact hlt, fun j y hj => ?_⟩
   have hne : (⟨b, i, none⟩ : Addr) ≠ ⟨c, off + j, none⟩ := fun e => by injection e with e _; omega
   rw [World.cell?_setCell_other (h := hne)]
   exact h j y hj
 exact ⟨hg h.1 ho.1, fun r hr => hg (h.2 r hr) (ho.2 r hr)⟩
/-- A row of terms of the call's own. -/
structure TRow (e : TypeId) (B : Nat) (w : World) (v : Value) (n : Nat) (R : List RowS) : Prop where
 row : w.ownsRow B e 3 v n (rowCells R)
 vals : ∀ r ∈ R, Strs w r.2.2.1 r.2.2.2 ∧ (r.2.2.2 = [] ∨ Apart r.2.2.1 v)
theorem TRow.nil (e : TypeId) (B : Nat) (w : World) : TRow e B w (.slice none 0 0) 0 [] := ⟨World.ownsRow_nil _ _ _ _, fun r hr => by cases hr⟩
theorem TRow.ext {e B : Nat} {w w' : World} {v : Value} {n : Nat} {R : List RowS} (h : TRow e B w v n R) (hx : Ext w w') : TRow e B w' v n R :=
 ⟨Ext.row h.row hx, fun r hr => ⟨(h.vals r hr).1.ext hx, (h.vals r hr).2⟩⟩
theorem TRow.terms {e B : Nat} {w : World} {v : Value} {n : Nat} {R : List RowS} (h : TRow e B w v n R) (hn : n = R.length) : Terms w v R := Terms.of_row h.row hn (fun r hr => (h.vals r hr).1)
theorem TRow.lt {e B : Nat} {w : World} {v : Value} {n : Nat} {R : List RowS} (h : TRow e B w v n R) {b : Nat} (hb : v.ownBlock = some b) : B ≤ b ∧ b < w.heap.size := World.ownsRow.lt h.row b hb
/-- What was made since is apart. -/
theorem TRow.apart_new {e B : Nat} {w : World} {v u : Value} {n : Nat} {R : List RowS} (h : TRow e B w v n R) (hu : ∀ b, u.ownBlock = some b → w.heap.size ≤ b) : Apart u v := fun b hb hv => by
 have := (h.lt hv).2
 have := hu b hb
 omega
/-- Other blocks than the row's, and than its values', were written. -/
theorem TRow.grown {e B : Nat} {w w' : World} {v : Value} {n : Nat} {R : List RowS} {q : Option Nat} (h : TRow e B w v n R) (hv : ∀ r ∈ R, ∀ c, r.2.2.1.ownBlock = some c → B ≤ c) (hg : w.grownBy w' q) (hq : ∀ c, q = some c → c < B) : TRow e B w' v n R := by
 refine ⟨?_, fun r hr => ⟨Sl.grown (h.vals r hr).1 hg (Or.inr fun b hb hqb => ?_), (h.vals r hr).2⟩⟩
 ·obtain ⟨hl, h⟩ := h.row
  refine ⟨hl, ?_⟩
  rcases h with h | ⟨g, cap, cur, hv, hb, hgg, r⟩
  ·exact Or.inl h
  ·exact Or.inr ⟨g, cap, cur, hv, hb, by rw [hg.block g (Array.getElem?_eq_some_iff.1 hgg).1 (fun e => by have := hq g e.symm; omega)]; exact hgg, r⟩
 ·have := hv r hr b hb
  have := hq b hqb
  omega
/-- `append` of one term to a row of the call's own. -/
theorem wpList_appG {P : Program} {w : World} {B : Nat} {ops : Array Oper} {rest : List Oper} {o : Oper} {a : Act} {Q : Exit → Act → World → Prop} (hgd : o.guard = none) (s x : Operand) {t e : TypeId} {bytes : Nat} (T : SlT P t e 3 bytes)
  (ho : o.op = .call { callee := .builtin .append, args := #[s, x], argTypes := #[t, t] }) (hw : B ≤ w.heap.size)
  {v : Value} {n : Nat} {R : List RowS} (hs : a.eval s = v) (hT : TRow e B w v n R)
  {u : Value} {r : RowS} (hu : a.eval x = u) (hx : Sl w 3 u 1 (rowOne r)) (hv : Strs w r.2.2.1 r.2.2.2) (hap : r.2.2.2 = [] ∨ Apart r.2.2.1 v)
  (hbytes : (n + 1) * bytes ≤ 140737488355328)
  (h : ∀ v' w', TRow e B w' v' (n + 1) (R ++ [r]) → w.grownBy w' v.ownBlock → wpList P ops Q rest (a.put o.dst v') w') : wpList P ops Q (o :: rest) a w := by
 obtain ⟨i, z, hi, hz, h2, h3, h4⟩ := T.info
 obtain ⟨hl, p, cap, rfl, hnc, hm, hpn, hc⟩ := hx
 obtain ⟨b, off, rfl, hlt, hc⟩ := hc.resolve_left (by omega)
 have hcells : ∀ j u, (rowOne r)[j]? = some u → w.cell? ((⟨b, off, none⟩ : Addr).add j) = some u := by
  intro j u hj
  have := hc j u hj
  unfold Addr.add
  split
  ·rename_i h0; subst h0; simpa using this
  ·exact this
 have h1 : ∀ u ∈ rowOne r, u.oneCell' = true := by
  intro u hu
  simp only [rowOne, List.mem_cons, List.not_mem_nil, or_false] at hu
  rcases hu with rfl | rfl | rfl
  ·rfl
  ·rfl
  ·exact hv.one
 have hml : n + 1 ≤ maxLen := by
  have := Nat.le_trans (Nat.le_mul_of_pos_right (n + 1) T.bpos) hbytes
  simp only [maxLen]
  omega
 obtain ⟨v', w', hr, ho2, hg, _, hor⟩ := run_append_own_at (P := P) w B t o.type e i z 3 bytes T.ht hi hz h2 h3 h4 T.pos v n (rowCells R) hT.row ⟨b, off, none⟩ 1 cap (rowOne r) hl hcells h1 hml hbytes hw
 have hkeep : ∀ q : RowS, Strs w q.2.2.1 q.2.2.2 → (q.2.2.2 = [] ∨ Apart q.2.2.1 v) → Strs w' q.2.2.1 q.2.2.2 ∧ (q.2.2.2 = [] ∨ Apart q.2.2.1 v') := by
  intro q hq ha
  refine ⟨Sl.grown hq hg ?_, ?_⟩
  ·rcases ha with ha | ha
   ·left; rw [ha]; rfl
   ·right; exact ha
  ·rcases ha with ha | ha
   ·exact Or.inl ha
   ·by_cases h0 : q.2.2.2 = []
    ·exact Or.inl h0
    ·refine Or.inr fun b hb => ?_
     rcases hor with hor | hor
     ·rw [hor]; exact ha b hb
     ·rw [hor]
      have := Sl.own_lt hq (fun e => h0 (List.length_eq_zero_iff.1 e)) hb
      intro e
      injection e with e
      omega
 have hT' : TRow e B w' v' (n + 1) (R ++ [r]) := by
  refine ⟨?_, fun q hq => ?_⟩
  ·rw [rowCells_app]
   have : rowCells [r] = rowOne r := by simp [rowCells]
   rw [this]
   exact ho2
  ·rcases List.mem_append.1 hq with hq | hq
   ·exact hkeep q (hT.vals q hq).1 (hT.vals q hq).2
   ·rw [List.mem_singleton.1 hq]; exact hkeep r hv hap
 have hfin := h v' w' hT' hg
 refine wpList_plain hgd fun K hK => ?_
 unfold Oper.wp execOp
 simp only [ho, resolve, invoke, builtin, Sem.run_bind, Sem.run_pure, Result.andThen_ok, List.map_toArray, List.map_cons, List.map_nil, hs, hu, hr]
 exact hK _ _ hfin

end Go.Dm
