/- Texts of the base. -/

import Derived.Test.YtefjdmjkofaajaaGreatDoorWPure
import Derived.Test.YtefjdmjkofaajaaGreatDoorT11
import Derived.Test.YtefjdmjkofaajaaGreatDoorShelf
import Derived.Test.YtefjdmjkofaajaaGreatDoorT2
import Derived.Lib.OthersKept
import Derived.Test.YtefjdmjkofaajaaGreatDoorT13
import Derived.Test.YtefjdmjkofaajaaGreatDoorT5
import Derived.Test.YtefjdmjkofaajaaGreatDoorT3
import Derived.Laws.StructEq
import Derived.Maps.AppendAt
import Derived.Test.YtefjdmjkofaajaaGreatDoorT7
import Derived.IntWalk
import Derived.Test.YtefjdmjkofaajaaGreatDoorT14
namespace Go.Dm
open Go Go.RowKit
abbrev Span := Int × Int
def spanAt (l : List Span) (k : Nat) : Span := l.getD k (0, 0)
def spanCells (l : List Span) : List Value := l.flatMap fun x => [.int .i32 x.1, .int .i32 x.2]
def inSpan (r : Int) (x : Span) : Bool := decide (x.1 ≤ r) && decide (r ≤ x.2)
theorem spanCells_at : ∀ (xs : List Span) (k : Nat), k < xs.length → (spanCells xs)[k*2]? = some (.int .i32 (spanAt xs k).1) ∧ (spanCells xs)[k*2+1]? = some (.int .i32 (spanAt xs k).2)
 | x :: xs, 0, _ => by simp [spanCells, spanAt]
 | x :: xs, k+1, h => by
  have := spanCells_at xs k (by simpa using h)
  have e : (k+1)*2 = k*2+1+1 := by omega
  have e2 : (k+1)*2+1 = k*2+1+1+1 := by omega
  simp only [e, spanCells, spanAt, List.flatMap_cons, List.cons_append, List.nil_append, List.getElem?_cons_succ, List.getD_cons_succ]
  exact this
def Spans (w : World) (v : Value) (l : List Span) : Prop := Sl w 2 v l.length (spanCells l)
theorem Spans.ext {w w' : World} {v l} (h : Spans w v l) (hb : Ext w w') : Spans w' v l := Sl.ext h hb
theorem Spans.shape {w : World} {v l} (h : Spans w v l) : ∃ p cap, v = .slice p l.length cap ∧ l.length ≤ cap ∧ cap ≤ maxLen := by
 obtain ⟨p, cap, h1, h2, h3, _⟩ := Sl.shape h
 exact ⟨p, cap, h1, h2, h3⟩
theorem Spans.at {w : World} {xs : List Span} {p cap} (h : Spans w (.slice p xs.length cap) xs) {k : Nat} (hk : k < xs.length) :
  ∃ b off, p = some ⟨b, off, none⟩ ∧ b < w.heap.size ∧ w.cell? ⟨b, off + k*2, none⟩ = some (.int .i32 (spanAt xs k).1) ∧ w.cell? ⟨b, off + k*2 + 1, none⟩ = some (.int .i32 (spanAt xs k).2) := by
 obtain ⟨b, off, hp, hb, h⟩ := Sl.at h (by omega)
 have := spanCells_at xs k hk
 exact ⟨b, off, hp, hb, h _ _ this.1, by have := h _ _ this.2; rw [show off + (k*2+1) = off + k*2+1 by omega] at this; exact this⟩
end Go.Dm
namespace Go.Proofs.YtefjdmjkofaajaaGreatDoor
open Go.RowKit Go.Dm
set_option maxHeartbeats 400000 in
theorem among1_w (r a b : Int) (c o : Nat) (w : World) (hcl : c < w.heap.size) (hc : w.cell? ⟨c, o, none⟩ = some (.int .i32 r)) :
  Calls Tryz.prog 131 #[.agg #[.int .i32 a, .int .i32 b], .pointer (some ⟨c, o, none⟩)] w fun e w' => e = .returned (.bool (inSpan r (a, b))) ∧ Ext w w' := by
 go_enter Tryz.func131, Tryz.ntmps131
 go_wp2
 all_goals go_ret
 all_goals exact ⟨by first | (simp_all [inSpan]; done) | (simp_all [inSpan]; omega), (Below.refl _ _).alloc (Nat.le_refl _) _⟩
set_option maxHeartbeats 400000 in
theorem indexSpan_w (l : List Span) (r : Int) (q : Option Addr) (cap : Nat) (c o : Nat) (w : World) (hm : l.length ≤ 35184372088832)
  (hx : Spans w (.slice q l.length cap) l) (hcl : c < w.heap.size) (hc : w.cell? ⟨c, o, none⟩ = some (.int .i32 r)) :
  Calls Tryz.prog 153 #[.slice q l.length cap, .func (.func 131) #[] #[.pointer (some ⟨c, o, none⟩)]] w
   fun e w' => e = .returned (.int .i64 (placeI (firstP (inSpan r) l))) ∧ Ext w w' := by
 go_enter Tryz.func153, Tryz.ntmps153
 go_wp2
 go_loopw [4, 8] (fun z i wr => ∃ k : Nat, k ≤ l.length ∧ i = .int .i64 k ∧ z = .int .i64 0 ∧ Ext w wr ∧ Hid (∀ j, j < k → inSpan r (spanAt l j) = false)) (fun _ i _ => l.length - (intOf i).toNat)
 case atStart => exact ⟨0, by omega, rfl, rfl, Ext.refl w, fun j hj => by omega⟩
 case round =>
  obtain ⟨k, hk, rfl, rfl, hb, HN⟩ := hrel
  by_cases hlt : k < l.length
  ·obtain ⟨b, off, rfl, hbl, c0, c1⟩ := (hx.ext hb).at hlt
   have hcl' : c < wr.heap.size := Nat.lt_of_lt_of_le hcl hb.size
   have hc' : wr.cell? ⟨c, o, none⟩ = some (.int .i32 r) := by rw [hb.cell (by exact hcl)]; exact hc
   go_wp2_with fail
   refine (among1_w r _ _ _ _ _ hcl' hc').mono ?_; rintro e w' ⟨rfl, hb1⟩
   cases ht : inSpan r (spanAt l k) with
   | true =>
    go_wp2
    go_ret
    refine ⟨?_, hb.trans hb1⟩
    rw [firstP_hit (0, 0) hlt HN.out ht]
    rfl
   | false =>
    go_wp2
    go_roundw
    case rel => exact ⟨k + 1, by omega, by go_num, rfl, hb.trans hb1, fun j hj => by
     rcases Nat.lt_succ_iff_lt_or_eq.1 hj with h | rfl
     ·exact HN.out j h
     ·exact ht⟩
    case measure => simp [intOf]; omega
  ·go_wp2
   go_ret
   obtain rfl : k = l.length := by omega
   refine ⟨?_, hb⟩
   rw [firstP_miss (0, 0) HN.out]
   rfl
set_option maxHeartbeats 400000 in
theorem among_w (l : List Span) (r : Int) (v : Value) (w : World) (hm : l.length ≤ 35184372088832) (hx : Spans w v l) :
  Calls Tryz.prog 101 #[.int .i32 r, v] w fun e w' => e = .returned (.bool (l.any (inSpan r))) ∧ Ext w w' := by
 obtain ⟨q, cap, rfl, _, _⟩ := hx.shape
 have fin : Ext w (w.alloc (.cells #[.int .i32 r] 21)) := (Below.refl _ _).alloc (Nat.le_refl _) _
 have hx' := hx.ext fin
 have hA := firstP_any (inSpan r) l
 go_enter Tryz.func101, Tryz.ntmps101
 cases ha : l.any (inSpan r) with
 | true =>
  have h0 := hA.2 ha
  go_wp2_with (first | (go_at_call 153; refine (indexSpan_w l r q cap w.heap.size 0 _ hm hx' (by simp) (by simp)).mono ?_; rintro e w' ⟨rfl, hb1⟩) | go_in)
  go_ret
  exact ⟨rfl, fin.trans hb1⟩
 | false =>
  have h0 : ¬ (0 : Int) ≤ placeI (firstP (inSpan r) l) := fun h => by rw [hA.1 h] at ha; cases ha
  go_wp2_with (first | (go_at_call 153; refine (indexSpan_w l r q cap w.heap.size 0 _ hm hx' (by simp) (by simp)).mono ?_; rintro e w' ⟨rfl, hb1⟩) | go_in)
  go_ret
  exact ⟨rfl, fin.trans hb1⟩
def letters : List Span := [(97, 122), (945, 969), (1072, 1103)]
def marks : List Span := [(48, 57), (45, 45)]
structure Tabs (w : World) : Prop where
 letters : Spans w (.slice (some ⟨1, 0, none⟩) 3 3) letters
 marks : Spans w (.slice (some ⟨2, 0, none⟩) 2 2) marks
theorem Tabs.ext {w w' : World} (h : Tabs w) (hb : Ext w w') : Tabs w' := ⟨h.letters.ext hb, h.marks.ext hb⟩
theorem letters_any (r : Nat) : letters.any (inSpan r) = letterB r := by
 simp only [letters, List.any_cons, List.any_nil, inSpan, letterB, Bool.or_false, Bool.or_assoc]
 congr 1
 ·congr 1 <;> exact decide_eq_decide.2 (by omega)
 ·congr 1 <;> congr 1 <;> exact decide_eq_decide.2 (by omega)
theorem marks_any (r : Nat) : marks.any (inSpan r) = markB r := by
 simp only [marks, List.any_cons, List.any_nil, inSpan, markB, Bool.or_false]
 by_cases h : r = 45
 ·subst h; decide
 ·have : (r == 45) = false := by rw [beq_eq_false_iff_ne]; exact h
  rw [this, Bool.or_false]
  have : (decide ((45 : Int) ≤ r) && decide ((r : Int) ≤ 45)) = false := by
   rw [Bool.and_eq_false_iff, decide_eq_false_iff_not, decide_eq_false_iff_not]; omega
  rw [this, Bool.or_false]
  congr 1 <;> exact decide_eq_decide.2 (by omega)
set_option maxHeartbeats 400000 in
theorem count_w (s : ByteArray) (w : World) (hs : s.size < 9223372036854775807) :
  Calls Tryz.prog 102 #[.string s] w fun e w' => e = .returned (.int .i64 (countL s.data.toList)) ∧ Ext w w' := by
 go_enter Tryz.func102, Tryz.ntmps102
 go_wp2_with fail
 refine (Tryz.utf8_RuneCountInString s w hs).mono ?_; rintro e w' ⟨rfl, pos, rfl⟩
 rw [runeCount_eq]
 go_wp2
 go_ret
 exact ⟨rfl, (Ext.refl w).alloc _⟩
theorem iter_ext {w w' : World} {k p : Nat} {s : ByteArray} (h : Ext w w') (hit : w.heap[k]? = some (.stringIter s p)) : w'.heap[k]? = some (.stringIter s p) := by
 have hlt : k < w.heap.size := (Array.getElem?_eq_some_iff.1 hit).1
 rw [h.block _ hlt]; exact hit
theorem iterPos_of {w : World} {k p : Nat} {s : ByteArray} (hit : w.heap[k]? = some (.stringIter s p)) : w.iterPos k = p := by simp [World.iterPos, hit]
theorem right_round {s : ByteArray} {pos : Nat} (hp : pos < s.size) (HK : okL true s.data.toList = okL (pos == 0) (s.data.toList.drop pos))
  (hr : (letterB (runeL (s.data.toList.drop pos)) || (!(pos == 0) && markB (runeL (s.data.toList.drop pos)))) = true) :
  pos + wideL (s.data.toList.drop pos) ≤ s.size ∧ okL true s.data.toList = okL (pos + wideL (s.data.toList.drop pos) == 0) (s.data.toList.drop (pos + wideL (s.data.toList.drop pos))) := by
 have hne : s.data.toList.drop pos ≠ [] := by rw [Ne, List.drop_eq_nil_iff, ← size_len]; omega
 have h1 := wideL_le hne
 have h2 := wideL_pos (s.data.toList.drop pos)
 rw [List.length_drop, ← size_len] at h1
 refine ⟨by omega, ?_⟩
 have h3 : (pos + wideL (s.data.toList.drop pos) == 0) = false := by rw [beq_eq_false_iff_ne]; omega
 rw [HK, okL_step _ hne, hr, h3, List.drop_drop, Bool.true_and]
theorem right_bad {s : ByteArray} {pos : Nat} (hp : pos < s.size) (HK : okL true s.data.toList = okL (pos == 0) (s.data.toList.drop pos))
  (hr : (letterB (runeL (s.data.toList.drop pos)) || (!(pos == 0) && markB (runeL (s.data.toList.drop pos)))) = false) : rightL s.data.toList = false := by
 have hne : s.data.toList.drop pos ≠ [] := by rw [Ne, List.drop_eq_nil_iff, ← size_len]; omega
 unfold rightL
 rw [HK, okL_step _ hne, hr]
 rfl
set_option maxHeartbeats 2000000 in
theorem right_w (s : ByteArray) (w : World) (hs : s.size < 9223372036854775807) (ht : Tabs w) :
  Calls Tryz.prog 60 #[.string s] w fun e w' => e = .returned (.bool (rightL s.data.toList)) ∧ Ext w w' := by
 go_enter Tryz.func60, Tryz.ntmps60
 go_wp2
 go_loopw [2] (fun _ wr => ∃ pos : Nat, Ext w wr ∧ wr.heap[w.heap.size]? = some (.stringIter s pos) ∧ pos ≤ s.size ∧ Hid (okL true s.data.toList = okL (pos == 0) (s.data.toList.drop pos))) (fun _ wr => s.size - wr.iterPos w.heap.size)
 case atStart => exact ⟨0, (Ext.refl w).alloc _, by simp [World.iter_heap], by omega, rfl⟩
 case round =>
  obtain ⟨pos, hb, hit, hps, HK⟩ := hrel
  by_cases hp : pos < s.size
  ·have hnx : ∀ ty, (Instr.next (.pointer (some ⟨w.heap.size, 0, none⟩)) true ty).run Tryz.prog wr = _ := fun ty => Lib.run_next_any_at wr w.heap.size s pos ty hit hp
   have e1 : (Utf8.decode s pos).1 = runeL (s.data.toList.drop pos) := by rw [decode_eq]; rfl
   have e2 : (Utf8.decode s pos).2 = wideL (s.data.toList.drop pos) := by rw [decode_eq]; rfl
   rw [e1, e2] at hnx
   clear e1 e2
   have hb1 : Ext w (wr.iterAt w.heap.size s (pos + wideL (s.data.toList.drop pos))) := Lib.below_iterAt hb (Nat.le_refl _) s _
   have hit1 := Lib.iterAt_heap wr w.heap.size s pos (pos + wideL (s.data.toList.drop pos)) hit
   have HR := Lib.hid (right_round hp HK.out)
   have HB := Lib.hid (right_bad hp HK.out)
   have hw1 := wideL_pos (s.data.toList.drop pos)
   generalize runeL (s.data.toList.drop pos) = r at *
   generalize wideL (s.data.toList.drop pos) = n at *
   have CL := among_w letters r _ _ (by decide) (ht.letters.ext hb1)
   rw [letters_any] at CL
   have CM : ∀ U, Ext w U → _ := fun U hU => among_w marks r _ U (by decide) (ht.marks.ext hU)
   simp only [marks_any] at CM
   have CM := Lib.hid CM
   go_wp2_with fail
   refine CL.mono ?_; rintro e w1 ⟨rfl, hb2⟩
   have hit2 := iter_ext hb2 hit1
   cases hl : letterB r with
   | true =>
    rw [hl] at HR
    obtain ⟨h1, h2⟩ := HR.out (by simp)
    go_wp2
    go_roundw
    case rel => exact ⟨pos + n, hb1.trans hb2, hit2, h1, h2⟩
    case measure => rw [iterPos_of hit2, iterPos_of hit]; omega
   | false =>
    rw [hl] at HR HB
    by_cases h0 : pos = 0
    ·subst h0
     have hB := HB.out (by simp)
     go_wp2
     go_ret
     exact ⟨by rw [hB]; rfl, hb1.trans hb2⟩
    ·have h0b : (pos == 0) = false := by rw [beq_eq_false_iff_ne]; exact h0
     have h0c : ((pos : Int) == 0) = false := by rw [beq_eq_false_iff_ne]; omega
     rw [h0b] at HR HB
     go_wp2_with fail
     refine (CM.out w1 (hb1.trans hb2)).mono ?_; rintro e w2 ⟨rfl, hb3⟩
     have hit3 := iter_ext hb3 hit2
     cases hk : markB r with
     | true =>
      rw [hk] at HR
      obtain ⟨h1, h2⟩ := HR.out (by simp)
      go_wp2
      go_roundw
      case rel => exact ⟨pos + n, hb1.trans (hb2.trans hb3), hit3, h1, h2⟩
      case measure => rw [iterPos_of hit3, iterPos_of hit]; omega
     | false =>
      rw [hk] at HB
      have hB := HB.out (by simp)
      go_wp2
      go_ret
      exact ⟨by rw [hB]; rfl, hb1.trans (hb2.trans hb3)⟩
  ·have hnx : ∀ ty, (Instr.next (.pointer (some ⟨w.heap.size, 0, none⟩)) true ty).run Tryz.prog wr = _ := fun ty => Lib.run_next_end_at wr w.heap.size s pos ty hit hp
   have hK : okL true s.data.toList = true := by
    rw [HK.out, List.drop_eq_nil_iff.2 (by rw [← size_len]; omega)]; rfl
   by_cases he : s = ⟨#[]⟩
   ·subst he
    go_wp2
    go_ret
    exact ⟨rfl, hb⟩
   ·have hne2 : s.data.toList.isEmpty = false := by
     rw [List.isEmpty_eq_false_iff]
     intro h
     apply he
     cases s
     simp at h
     rw [h]
    have hne : ¬ s.toList = [] := by
     rw [ByteArray.toList_eq]
     intro h
     rw [h] at hne2
     cases hne2
    go_wp2_with fail
    refine (count_w s wr hs).mono ?_; rintro e w2 ⟨rfl, hb3⟩
    have hd : decide ((countL s.data.toList : Int) ≤ 16) = decide (countL s.data.toList ≤ 16) := decide_eq_decide.2 (by omega)
    go_wp2
    go_ret
    refine ⟨?_, hb.trans hb3⟩
    show Ending.returned (Value.bool (!s.toList.isEmpty && decide (countL s.data.toList ≤ 16))) = _
    rw [ByteArray.toList_eq, rightL, hK]
    rfl
theorem right_fit (s : ByteArray) (w : World) (hs : s.size ≤ 140737488351232) (ht : Tabs w) :
  Calls Tryz.prog 60 #[.string s] w fun e w' => e = .returned (.bool (rightL s.data.toList)) ∧ Ext w w' := right_w s w (by omega) ht
set_option maxHeartbeats 2000000 in
theorem lright_w (l : List PairS) (v : Value) (w : World) (hm : l.length ≤ 35184372088832) (hf : FitP l) (hx : Pairs w v l) (ht : Tabs w) :
  Calls Tryz.prog 59 #[v] w fun e w' => e = .returned (.bool (rightLab (labL l))) ∧ Ext w w' := by
 obtain ⟨q, cap, rfl, hcap, hcm⟩ := hx.shape
 go_enter Tryz.func59, Tryz.ntmps59
 go_wp2
 go_loopw [7] (fun i' wr => ∃ k : Nat, k ≤ l.length ∧ i' = .int .i64 k ∧ Ext w wr ∧ Hid (∀ j, j < k → okLab (labL l) j = true)) (fun i' _ => l.length - (intOf i').toNat)
 case atStart => exact ⟨0, by omega, rfl, Ext.refl _, fun j hj => by omega⟩
 case round =>
  obtain ⟨k, hk, rfl, hb, HN⟩ := hrel
  by_cases hlt : k < l.length
  ·obtain ⟨b, off, rfl, hbl, c0, c1⟩ := (hx.ext hb).at hlt
   have hfk := hf _ (pairAt_mem hlt)
   have hok : ∀ c1 c2 c3, rightL (pairAt l k).1.data.toList = c1 → rightL (pairAt l k).2.data.toList = c2 → (k == 0 || !leB (pairAt l k).1.data.toList (pairAt l (k-1)).1.data.toList) = c3 → okLab (labL l) k = (c1 && (c2 && c3)) := by
    intro c1 c2 c3 e1 e2 e3
    unfold okLab
    rw [labL_at l hlt, labL_at l (by omega : k - 1 < l.length), ← e1, ← e2, ← e3]
    rfl
   have hbad : okLab (labL l) k = false → rightLab (labL l) = false := fun h => rightLab_bad (by rw [labL_len]; exact hlt) h
   have hgood : okLab (labL l) k = true → ∀ j, j < k + 1 → okLab (labL l) j = true := fun h j hj => by
    rcases Nat.lt_succ_iff_lt_or_eq.1 hj with h' | rfl
    ·exact HN.out j h'
    ·exact h
   have hW : Ext w (wr.alloc (.cells #[.string (pairAt l k).1, .string (pairAt l k).2] 126)) := hb.trans ((Ext.refl _).alloc _)
   have C1 : ∀ c, rightL (pairAt l k).1.data.toList = c → Hid (∀ U, Ext (wr.alloc (.cells #[.string (pairAt l k).1, .string (pairAt l k).2] 126)) U → Calls Tryz.prog 60 #[.string (pairAt l k).1] U fun e w' => e = .returned (.bool c) ∧ Ext U w') := by
    intro c h U hU
    rw [← h]
    exact right_fit _ U hfk.1 (ht.ext (hW.trans hU))
   have C2 : ∀ c, rightL (pairAt l k).2.data.toList = c → Hid (∀ U, Ext (wr.alloc (.cells #[.string (pairAt l k).1, .string (pairAt l k).2] 126)) U → Calls Tryz.prog 60 #[.string (pairAt l k).2] U fun e w' => e = .returned (.bool c) ∧ Ext U w') := by
    intro c h U hU
    rw [← h]
    exact right_fit _ U hfk.2 (ht.ext (hW.trans hU))
   replace hok := Lib.hid hok
   replace hbad := Lib.hid hbad
   replace hgood := Lib.hid hgood
   cases h1 : rightL (pairAt l k).1.data.toList with
   | false =>
    replace C1 := C1 _ h1
    replace C2 := C2 _ rfl
    have hB := Lib.hid (hbad.out (hok.out _ _ _ h1 rfl rfl))
    clear h1
    go_wp2_with fail
    refine Dm.wp_region_grow (by kernel_rfl) (by kernel_rfl) ?_
    repeat (go_big_quiet_step (first
     | (go_at_call 60; with_reducible exact Calls.quietE (C1.out _ (ext_grow _ _)))
     | (go_at_call 60; with_reducible exact Calls.quietE (C2.out _ (ext_grow _ _)))))
    refine wpQuiet_nil ?_
    intro U hU
    have hU' := hW.trans hU
    go_wp2
    go_ret
    exact ⟨by rw [hB.out]; rfl, hU'⟩
   | true =>
    replace C1 := C1 _ h1
    cases h2 : rightL (pairAt l k).2.data.toList with
    | false =>
     replace C2 := C2 _ h2
     have hB := Lib.hid (hbad.out (hok.out _ _ _ h1 h2 rfl))
     clear h1 h2
     go_wp2_with fail
     refine Dm.wp_region_grow (by kernel_rfl) (by kernel_rfl) ?_
     repeat (go_big_quiet_step (first
      | (go_at_call 60; with_reducible exact Calls.quietE (C1.out _ (ext_grow _ _)))
      | (go_at_call 60; with_reducible exact Calls.quietE (C2.out _ (ext_grow _ _)))))
     refine wpQuiet_nil ?_
     intro U hU
     have hU' := hW.trans hU
     go_wp2
     go_ret
     exact ⟨by rw [hB.out]; rfl, hU'⟩
    | true =>
     replace C2 := C2 _ h2
     by_cases h0 : k = 0
     ·subst h0
      have hG := Lib.hid (hgood.out (hok.out _ _ true h1 h2 rfl))
      clear h1 h2 hok hbad hgood
      rw [Nat.zero_mul, Nat.add_zero] at c0 c1
      go_wp2_with fail
      refine Dm.wp_region_grow (by kernel_rfl) (by kernel_rfl) ?_
      repeat (go_big_quiet_step (first
       | (go_at_call 60; with_reducible exact Calls.quietE (C1.out _ (ext_grow _ _)))
       | (go_at_call 60; with_reducible exact Calls.quietE (C2.out _ (ext_grow _ _)))))
      refine wpQuiet_nil ?_
      intro U hU
      have hU' := hW.trans hU
      go_wp2
      go_roundw
      case rel => exact ⟨1, by omega, rfl, hU', hG⟩
      case measure => simp [intOf]; omega
     ·obtain ⟨j, rfl⟩ : ∃ j, k = j + 1 := ⟨k - 1, by omega⟩
      obtain ⟨d0, _⟩ := (hx.ext hb).cells (k := j) (by omega)
      have hle : ∀ c c', Op.bytesLess (pairAt l (j + 1)).1.toList (pairAt l j).1.toList = c → ((pairAt l (j + 1)).1.toList == (pairAt l j).1.toList) = c' → (j + 1 == 0 || !leB (pairAt l (j + 1)).1.data.toList (pairAt l (j + 1 - 1)).1.data.toList) = !(c || c') := by
       intro c c' e1 e2
       rw [ByteArray.toList_eq, ByteArray.toList_eq] at e1 e2
       rw [← e1, ← e2]
       rfl
      cases q1 : Op.bytesLess (pairAt l (j + 1)).1.toList (pairAt l j).1.toList with
      | true =>
       have hB := Lib.hid (hbad.out (hok.out _ _ _ h1 h2 (hle _ _ q1 rfl)))
       clear h1 h2 hok hbad hgood hle
       go_wp2_with fail
       refine Dm.wp_region_grow (by kernel_rfl) (by kernel_rfl) ?_
       repeat (go_big_quiet_step (first
        | (go_at_call 60; with_reducible exact Calls.quietE (C1.out _ (ext_grow _ _)))
        | (go_at_call 60; with_reducible exact Calls.quietE (C2.out _ (ext_grow _ _)))))
       refine wpQuiet_nil ?_
       intro U hU
       have hU' := hW.trans hU
       go_wp2
       go_ret
       exact ⟨by rw [hB.out]; rfl, hU'⟩
      | false =>
       cases q2 : ((pairAt l (j + 1)).1.toList == (pairAt l j).1.toList) with
       | true =>
        have hB := Lib.hid (hbad.out (hok.out _ _ _ h1 h2 (hle _ _ q1 q2)))
        clear h1 h2 hok hbad hgood hle
        go_wp2_with fail
        refine Dm.wp_region_grow (by kernel_rfl) (by kernel_rfl) ?_
        repeat (go_big_quiet_step (first
         | (go_at_call 60; with_reducible exact Calls.quietE (C1.out _ (ext_grow _ _)))
         | (go_at_call 60; with_reducible exact Calls.quietE (C2.out _ (ext_grow _ _)))))
        refine wpQuiet_nil ?_
        intro U hU
        have hU' := hW.trans hU
        go_wp2
        go_ret
        exact ⟨by rw [hB.out]; rfl, hU'⟩
       | false =>
        have hG := Lib.hid (hgood.out (hok.out _ _ _ h1 h2 (hle _ _ q1 q2)))
        clear h1 h2 hok hbad hgood hle
        go_wp2_with fail
        refine Dm.wp_region_grow (by kernel_rfl) (by kernel_rfl) ?_
        repeat (go_big_quiet_step (first
         | (go_at_call 60; with_reducible exact Calls.quietE (C1.out _ (ext_grow _ _)))
         | (go_at_call 60; with_reducible exact Calls.quietE (C2.out _ (ext_grow _ _)))))
        refine wpQuiet_nil ?_
        intro U hU
        have hU' := hW.trans hU
        go_wp2
        go_roundw
        case rel => exact ⟨j + 1 + 1, by omega, by go_num, hU', hG⟩
        case measure => simp [intOf]; omega
  ·go_wp2
   go_ret
   obtain rfl : k = l.length := by omega
   have hA := rightLab_all (L := labL l) (fun j hj => HN.out j (by rw [labL_len] at hj; exact hj))
   rw [labL_len] at hA
   exact ⟨by rw [hA, show decide (l.length ≤ 8) = decide ((l.length : Int) ≤ 8) from decide_eq_decide.2 (by omega)]; rfl, hb⟩
end Go.Proofs.YtefjdmjkofaajaaGreatDoor
namespace Go.Dm
open Go Go.RowKit
def putP (L : List PairL) : Bs := L.flatMap fun p => putT p.1 ++ putT p.2
def putLab (L : List PairL) : Bs := if rightLab L then putL L.length ++ putP L else []
theorem putP_step {L : List PairL} {k : Nat} (hk : k < L.length) : putP (L.take (k + 1)) = putP (L.take k) ++ (putT (plAt L k).1 ++ putT (plAt L k).2) := by
 rw [List.take_succ_eq_append_getElem hk, putP, List.flatMap_append]
 simp [putP, plAt, hk]
end Go.Dm
namespace Go.Proofs.YtefjdmjkofaajaaGreatDoor
open Go.RowKit Go.Dm
theorem Tryz.slPair : SlT Tryz.prog 31 126 2 32 := SlT.mk' Tryz.underlying31 (by kernel_rfl) (by decide) (by decide)
end Go.Proofs.YtefjdmjkofaajaaGreatDoor
namespace Go.Dm
open Go Go.RowKit
theorem putT_len (t : Bs) (h : t.length ≤ 140737488351232) : (putT t).length ≤ 140737488351242 := by
 have := putL_ten (u := t.length) (show t.length < _ by omega)
 unfold putT
 rw [List.length_append]; omega
def textB (t : ByteArray) : ByteArray := ⟨(putT t.data.toList).toArray⟩
theorem textB_size (t : ByteArray) (h : t.size ≤ 140737488351232) : (textB t).size ≤ 140737488351242 := by
 rw [size_len]
 exact putT_len _ (by rw [← size_len]; exact h)
theorem take_snocP {l : List PairS} {k : Nat} (hk : k < l.length) : l.take (k + 1) = l.take k ++ [pairAt l k] := by
 rw [List.take_succ_eq_append_getElem hk]
 simp [hk, pairAt]
theorem okL_len : ∀ (n : Nat) (b : Bool) (l : Bs), l.length ≤ n → okL b l = true → l.length ≤ 2 * countL l := by
 intro n
 induction n with
 | zero => intro b l hl _; omega
 | succ n ih =>
  intro b l hl hok
  by_cases h : l = []
  ·subst h; simp
  ·rw [okL_step b h, Bool.and_eq_true] at hok
   have hw := wideL_pos l
   have h2 := ih false (l.drop (wideL l)) (by rw [List.length_drop]; omega) hok.2
   rw [List.length_drop] at h2
   have hle := wideL_le h
   have hw2 : wideL l ≤ 2 := by
    have hlm := (letterB_plain (r := runeL l) (by have := hok.1; cases b <;> simp_all)).2
    unfold wideL runeL decL at *
    repeat' split
    all_goals first
     | (simp only; omega)
     | skip
    all_goals simp_all
    all_goals omega
   rw [countL_step h]; omega
theorem right_len {l : Bs} (h : rightL l = true) : l.length ≤ 32 := by
 unfold rightL at h
 simp only [Bool.and_eq_true, decide_eq_true_eq] at h
 have := okL_len l.length true l (Nat.le_refl _) h.1.1
 omega
end Go.Dm
namespace Go.Proofs.YtefjdmjkofaajaaGreatDoor
open Go.RowKit Go.Dm
set_option maxHeartbeats 2000000 in
set_option maxRecDepth 100000 in
theorem lput_w (l : List PairS) (v : Value) (w : World) (hm : l.length ≤ 35184372088832) (hf : FitP l) (hx : Pairs w v l) (ht : Tabs w) :
  Calls Tryz.prog 68 #[v] w fun e w' => e = .returned (.string ⟨(putLab (labL l)).toArray⟩) ∧ Ext w w' := by
 obtain ⟨q, cap, rfl, hcap, hcm⟩ := hx.shape
 have C := lright_w l _ w hm hf hx ht
 cases hR : rightLab (labL l) with
 | false =>
  have hz : Hid (putLab (labL l) = []) := by show _ = _; unfold putLab; rw [hR]; rfl
  rw [hR] at C
  clear hR
  go_enter Tryz.func68, Tryz.ntmps68
  go_wp2_with fail
  refine C.mono ?_; rintro e w1 ⟨rfl, h1⟩
  go_wp2
  go_ret
  exact ⟨by rw [hz.out]; rfl, h1⟩
 | true =>
  have hz : Hid (putLab (labL l) = putL l.length ++ putP (labL l)) := by show _ = _; unfold putLab; rw [hR, labL_len]; rfl
  have h8 : l.length ≤ 8 := by have := (rightLab_iff.1 hR).1; rwa [labL_len] at this
  have hU : U64 l.length := show l.length < _ by omega
  have hpl := putL_ten hU
  rw [hR] at C
  clear hR
  go_enter Tryz.func68, Tryz.ntmps68
  go_wp2_with fail
  refine C.mono ?_; rintro e w1 ⟨rfl, h1⟩
  clear C
  go_wp2_with fail
  refine (put_w l.length w1 hU).mono ?_; rintro e w2 ⟨rfl, h2⟩
  have e2 := h1.trans h2
  go_wp2
  go_loopw [3, 15] (fun s' i' wr => ∃ (k : Nat) (b : ByteArray), k ≤ l.length ∧ i' = .int .i64 k ∧ s' = .string b ∧ b.size ≤ 10 + k * 281474976702484 ∧ Ext w2 wr ∧ Hid (b.data.toList = putL l.length ++ putP ((labL l).take k))) (fun _ i' _ => l.length - (intOf i').toNat)
  case atStart => exact ⟨0, ⟨(putL l.length).toArray⟩, by omega, rfl, rfl, by rw [size_len]; exact hpl, Ext.refl _, by show _ = _; simp [putP]⟩
  case round =>
   obtain ⟨k, b, hk, rfl, rfl, hbs, hb, HB⟩ := hrel
   have er := e2.trans hb
   by_cases hlt : k < l.length
   ·obtain ⟨bb, off, rfl, hbl, c0, c1⟩ := (hx.ext er).at hlt
    have hfk := hf _ (pairAt_mem hlt)
    have s1 := textB_size _ hfk.1
    have s2 := textB_size _ hfk.2
    have hst : Hid ((b ++ (textB (pairAt l k).1 ++ textB (pairAt l k).2)).data.toList = putL l.length ++ putP ((labL l).take (k + 1))) := by
     show _ = _
     rw [putP_step (by rw [labL_len]; exact hlt), labL_at l hlt, data_append, data_append, HB.out, List.append_assoc]
     rfl
    have C1 : Hid (∀ U, Ext (wr.alloc (.cells #[.string (pairAt l k).1, .string (pairAt l k).2] 126)) U → Calls Tryz.prog 62 #[.string (pairAt l k).1] U fun e w' => e = .returned (.string (textB (pairAt l k).1)) ∧ Ext U w') := fun U _ => puttext_w _ U (by omega)
    have C2 : Hid (∀ U, Ext (wr.alloc (.cells #[.string (pairAt l k).1, .string (pairAt l k).2] 126)) U → Calls Tryz.prog 62 #[.string (pairAt l k).2] U fun e w' => e = .returned (.string (textB (pairAt l k).2)) ∧ Ext U w') := fun U _ => puttext_w _ U (by omega)
    have hW : Ext w2 (wr.alloc (.cells #[.string (pairAt l k).1, .string (pairAt l k).2] 126)) := hb.trans ((Ext.refl _).alloc _)
    generalize textB (pairAt l k).1 = t1 at *
    generalize textB (pairAt l k).2 = t2 at *
    go_wp2_with fail
    refine Dm.wp_region_grow (by kernel_rfl) (by kernel_rfl) ?_
    repeat (go_big_quiet_step (first
     | (go_at_call 62; with_reducible exact Calls.quietE (C1.out _ (ext_grow _ _)))
     | (go_at_call 62; with_reducible exact Calls.quietE (C2.out _ (ext_grow _ _)))))
    refine wpQuiet_nil ?_
    intro U hU
    have hU' := hW.trans hU
    clear C1 C2
    go_wp2
    go_roundw
    case rel => exact ⟨k + 1, _, by omega, by go_num, rfl, by rw [ByteArray.size_append, ByteArray.size_append]; omega, hU', hst⟩
    case measure => simp [intOf]; omega
   ·go_wp2
    go_ret
    obtain rfl : k = l.length := by omega
    have h := HB.out
    rw [← labL_len, List.take_length, labL_len, ← hz.out] at h
    exact ⟨by rw [← mk_bytes h]; rfl, er⟩
structure Vars (w : World) : Prop where
 tabs : Tabs w
 most : ∃ m, w.cell? ⟨5, 0, none⟩ = some (.int .i64 m)
theorem Vars.ext {w w' : World} (h : Vars w) (hb : Ext w w') : Vars w' := by
 refine ⟨h.tabs.ext hb, ?_⟩
 obtain ⟨m, hm⟩ := h.most
 exact ⟨m, by rw [hb.cell (by exact World.block_lt_of_cell? _ _ hm)]; exact hm⟩
end Go.Proofs.YtefjdmjkofaajaaGreatDoor
namespace Go.Dm
open Go Go.RowKit
end Go.Dm
namespace Go.Proofs.YtefjdmjkofaajaaGreatDoor
open Go.RowKit Go.Dm
theorem Tryz.eq_pair (a b c d : ByteArray) (w : World) : (Op.equalIn 10000 126 (.agg #[.string a, .string b]) (.agg #[.string c, .string d])).run Tryz.prog w = .ok (a.toList == c.toList && b.toList == d.toList) w := by
 rw [show (10000 : Nat) = 9999 + 1 from rfl, run_equalIn_agg w 9999 126 _ _ (by kernel_rfl) (by kernel_rfl)]
 simp only [Program.fieldsOf, Tryz.underlying126]
 cases h1 : (a.toList == c.toList) <;> cases h2 : (b.toList == d.toList) <;>
 simp [Op.eqFields, go_sem, h1, h2]
end Go.Proofs.YtefjdmjkofaajaaGreatDoor
namespace Go.Dm
open Go Go.RowKit
abbrev TermS := ByteArray × Bool × List ByteArray
abbrev RowS := ByteArray × Bool × Value × List ByteArray
def rowT (r : RowS) : TermS := (r.1, r.2.1, r.2.2.2)
def noRow : RowS := (⟨#[]⟩, false, .slice none 0 0, [])
def sAtR (R : List RowS) (k : Nat) : RowS := R.getD k noRow
def rowOne (r : RowS) : List Value := [.string r.1, .bool r.2.1, r.2.2.1]
def rowCells (R : List RowS) : List Value := R.flatMap rowOne
theorem rowCells_len (R : List RowS) : (rowCells R).length = R.length * 3 := by
 induction R with
 | nil => rfl
 | cons x xs ih => simp only [rowCells, rowOne, List.flatMap_cons, List.length_append, List.length_cons, List.length_nil] at *; omega
theorem rowCells_app (a b : List RowS) : rowCells (a ++ b) = rowCells a ++ rowCells b := by simp [rowCells]
theorem rowCells_at : ∀ (xs : List RowS) (k : Nat), k < xs.length → (rowCells xs)[k*3]? = some (.string (sAtR xs k).1) ∧ (rowCells xs)[k*3+1]? = some (.bool (sAtR xs k).2.1) ∧ (rowCells xs)[k*3+2]? = some (sAtR xs k).2.2.1
 | x :: xs, 0, _ => by simp [rowCells, rowOne, sAtR]
 | x :: xs, k+1, h => by
  have := rowCells_at xs k (by simpa using h)
  have e : (k+1)*3 = k*3+1+1+1 := by omega
  have e2 : (k+1)*3+1 = k*3+1+1+1+1 := by omega
  have e3 : (k+1)*3+2 = k*3+2+1+1+1 := by omega
  rw [e2, e3, e]
  simp only [rowCells, rowOne, sAtR, List.flatMap_cons, List.cons_append, List.nil_append, List.getElem?_cons_succ, List.getD_cons_succ]
  exact this
theorem sAtR_mem {l : List RowS} {k : Nat} (h : k < l.length) : sAtR l k ∈ l := by
 simp only [sAtR, List.getD_eq_getElem?_getD, List.getElem?_eq_getElem h, Option.getD_some]
 exact List.getElem_mem h
theorem take_snocT {l : List RowS} {k : Nat} (hk : k < l.length) : l.take (k + 1) = l.take k ++ [sAtR l k] := by
 rw [List.take_succ_eq_append_getElem hk]
 simp [hk, sAtR]
structure Terms (w : World) (v : Value) (R : List RowS) : Prop where
 sl : Sl w 3 v R.length (rowCells R)
 vals : ∀ r ∈ R, Strs w r.2.2.1 r.2.2.2
theorem Terms.ext {w w' : World} {v R} (h : Terms w v R) (hb : Ext w w') : Terms w' v R := ⟨h.sl.ext hb, fun r hr => (h.vals r hr).ext hb⟩
theorem Terms.nil (w : World) : Terms w (.slice none 0 0) [] := ⟨Sl.nil w 3, fun r hr => by cases hr⟩
theorem Terms.shape {w : World} {v R} (h : Terms w v R) : ∃ p cap, v = .slice p R.length cap ∧ R.length ≤ cap ∧ cap ≤ maxLen := by
 obtain ⟨p, cap, h1, h2, h3, _⟩ := Sl.shape h.sl
 exact ⟨p, cap, h1, h2, h3⟩
theorem Terms.at {w : World} {xs : List RowS} {p cap} (h : Terms w (.slice p xs.length cap) xs) {k : Nat} (hk : k < xs.length) :
  ∃ b off, p = some ⟨b, off, none⟩ ∧ b < w.heap.size ∧ w.cell? ⟨b, off + k*3, none⟩ = some (.string (sAtR xs k).1) ∧ w.cell? ⟨b, off + k*3 + 1, none⟩ = some (.bool (sAtR xs k).2.1) ∧ w.cell? ⟨b, off + k*3 + 2, none⟩ = some (sAtR xs k).2.2.1 := by
 obtain ⟨b, off, hp, hb, h⟩ := Sl.at h.sl (by omega)
 have := rowCells_at xs k hk
 exact ⟨b, off, hp, hb, h _ _ this.1, by have := h _ _ this.2.1; rw [show off + (k*3+1) = off + k*3+1 by omega] at this; exact this, by have := h _ _ this.2.2; rw [show off + (k*3+2) = off + k*3+2 by omega] at this; exact this⟩
theorem Terms.val {w : World} {xs : List RowS} {v} (h : Terms w v xs) {k : Nat} (hk : k < xs.length) : Strs w (sAtR xs k).2.2.1 (sAtR xs k).2.2.2 := h.vals _ (sAtR_mem hk)
theorem Terms.of_row {w : World} {B e : Nat} {v : Value} {n : Nat} {l : List RowS} (h : w.ownsRow B e 3 v n (rowCells l)) (hn : n = l.length) (hv : ∀ r ∈ l, Strs w r.2.2.1 r.2.2.2) : Terms w v l := by
 subst hn
 exact ⟨Sl.of_owns h, hv⟩
theorem Strs.one {w : World} {v : Value} {ss} (h : Strs w v ss) : v.oneCell' = true := by
 obtain ⟨p, cap, rfl, _⟩ := h.shape
 rfl
def FitT (t : TermS) : Prop := t.1.size ≤ 140737488351232 ∧ t.2.2.length ≤ 35184372088832 ∧ ∀ x ∈ t.2.2, x.size ≤ 140737488351232
end Go.Dm
namespace Go.Proofs.YtefjdmjkofaajaaGreatDoor
open Go.RowKit Go.Dm
end Go.Proofs.YtefjdmjkofaajaaGreatDoor
namespace Go.Dm
open Go Go.RowKit
def NoName (c : UInt8) : Prop := (letterB c.toNat || markB c.toNat) = false ∧ c.toNat < 128
theorem okL_step_no {c : UInt8} (hc : NoName c) {b : Bool} {l : Bs} (h : l ≠ []) (hr : (letterB (runeL l) || (!b && markB (runeL l))) = true) : c ∉ l.take (wideL l) := by
 have hlm : (letterB (runeL l) || markB (runeL l)) = true := by cases b <;> simp_all
 obtain ⟨hne, hlt⟩ := letterB_plain hlm
 obtain ⟨hc1, hc2⟩ := hc
 unfold wideL runeL decL at *
 obtain ⟨a, t, rfl, ha⟩ := head_bAt h
 split
 ·rename_i h0
  rw [if_pos h0] at hlm
  simp only at hlm
  intro hm
  simp at hm
  subst hm
  rw [ha] at hlm
  rw [hlm] at hc1
  cases hc1
 ·rename_i h0
  rw [if_neg h0] at hne hlt
  split
  ·rename_i h1
   rw [if_pos h1] at hne hlt
   simp only [Bool.and_eq_true, beq_iff_eq] at h1
   split
   ·rename_i h2
    rw [if_pos h2] at hne hlt
    have hcb := contB_lt h1.2
    cases t with
    | nil => simp at hcb
    | cons d t =>
     intro hm
     simp at hm
     have hcc : d.toNat / 64 = 2 := by
      have := h1.2
      simp only [contB, Bool.and_eq_true, beq_iff_eq] at this
      exact this.2
     rcases hm with rfl | rfl
     ·rw [ha] at h0; exact h0 (by first | exact decide_eq_true hc2 | exact hc2)
     ·omega
   ·rename_i h2
    rw [if_neg h2] at hlt
    simp only at hlt; omega
  ·rename_i h1
   rw [if_neg h1] at hlt
   split
   ·rename_i h3
    rw [if_pos h3] at hlt
    split
    ·rename_i h4
     rw [if_pos h4] at hlt
     simp only [Bool.and_eq_true, decide_eq_true_eq] at h4
     simp only at hlt; omega
    ·rename_i h4
     rw [if_neg h4] at hlt
     simp only at hlt; omega
   ·rename_i h3
    rw [if_neg h3] at hlt
    split
    ·rename_i h5
     rw [if_pos h5] at hlt
     split
     ·rename_i h6
      rw [if_pos h6] at hlt
      simp only [Bool.and_eq_true, decide_eq_true_eq] at h6
      simp only at hlt; omega
     ·rename_i h6
      rw [if_neg h6] at hlt
      simp only at hlt; omega
    ·rename_i h5
     rw [if_neg h5] at hlt
     simp only at hlt; omega
theorem okL_no {c : UInt8} (hc : NoName c) : ∀ (n : Nat) (b : Bool) (l : Bs), l.length ≤ n → okL b l = true → c ∉ l := by
 intro n
 induction n with
 | zero =>
  intro b l hl _
  have : l = [] := List.length_eq_zero_iff.1 (by omega)
  subst this
  simp
 | succ n ih =>
  intro b l hl hok
  by_cases h : l = []
  ·subst h; simp
  ·rw [okL_step b h, Bool.and_eq_true] at hok
   have h1 := okL_step_no hc h hok.1
   have hw := wideL_pos l
   have h2 := ih false (l.drop (wideL l)) (by rw [List.length_drop]; omega) hok.2
   rw [← List.take_append_drop (wideL l) l, List.mem_append]
   rintro (h' | h')
   ·exact h1 h'
   ·exact h2 h'
theorem right_no {c : UInt8} (hc : NoName c) {l : Bs} (h : rightL l = true) : c ∉ l := by
 unfold rightL at h
 simp only [Bool.and_eq_true] at h
 exact okL_no hc _ true l (Nat.le_refl _) h.1.1
theorem rightLab_names {L : List PairL} (h : rightLab L = true) : ∀ p ∈ L, rightL p.1 = true ∧ rightL p.2 = true := by
 intro p hp
 obtain ⟨k, hk, rfl⟩ := List.getElem_of_mem hp
 have := (rightLab_iff.1 h).2 k hk
 have he : plAt L k = L[k] := by simp [plAt, hk]
 unfold okLab at this
 rw [he, Bool.and_eq_true, Bool.and_eq_true] at this
 exact ⟨this.1, this.2.1⟩
def bS (s : ByteArray) : Bs := s.data.toList
def okVal (vs : List ByteArray) (k : Nat) : Bool := rightL (bS (strAt vs k)) && (k == 0 || !leB (bS (strAt vs k)) (bS (strAt vs (k - 1))))
def rightT (t : TermS) : Bool := (List.range t.2.2.length).all (okVal t.2.2) && (rightL (bS t.1) && decide (t.2.2.length ≤ 4))
def rightS (T : List TermS) : Bool := decide (T.length ≤ 4) && T.all rightT
theorem rightT_bad {t : TermS} {k : Nat} (hk : k < t.2.2.length) (h : okVal t.2.2 k = false) : rightT t = false := by
 unfold rightT
 rw [Bool.and_eq_false_iff]
 left
 rw [List.all_eq_false]
 exact ⟨k, List.mem_range.2 hk, by rw [h]; simp⟩
theorem rightT_all {t : TermS} (h : ∀ k, k < t.2.2.length → okVal t.2.2 k = true) : rightT t = (rightL (bS t.1) && decide (t.2.2.length ≤ 4)) := by
 unfold rightT
 rw [List.all_eq_true.2 (fun k hk => h k (List.mem_range.1 hk)), Bool.true_and]
theorem rightT_iff {t : TermS} : rightT t = true ↔ (∀ k, k < t.2.2.length → okVal t.2.2 k = true) ∧ rightL (bS t.1) = true ∧ t.2.2.length ≤ 4 := by
 unfold rightT
 rw [Bool.and_eq_true, Bool.and_eq_true, decide_eq_true_eq, List.all_eq_true]
 exact ⟨fun h => ⟨fun k hk => h.1 k (List.mem_range.2 hk), h.2⟩, fun h => ⟨fun k hk => h.1 k (List.mem_range.1 hk), h.2⟩⟩
theorem rightS_iff {T : List TermS} : rightS T = true ↔ T.length ≤ 4 ∧ ∀ t ∈ T, rightT t = true := by
 unfold rightS
 rw [Bool.and_eq_true, decide_eq_true_eq, List.all_eq_true]
theorem rightT_val {t : TermS} (h : rightT t = true) : ∀ x ∈ t.2.2, rightL (bS x) = true := by
 intro x hx
 obtain ⟨k, hk, rfl⟩ := List.getElem_of_mem hx
 have := (rightT_iff.1 h).1 k hk
 unfold okVal at this
 rw [Bool.and_eq_true] at this
 have e : strAt t.2.2 k = t.2.2[k] := by simp [strAt, hk]
 rw [e] at this
 exact this.1
theorem rightT_sizes {t : TermS} (h : rightT t = true) : t.1.size ≤ 32 ∧ t.2.2.length ≤ 4 ∧ ∀ x ∈ t.2.2, x.size ≤ 32 := by
 refine ⟨right_len (rightT_iff.1 h).2.1, (rightT_iff.1 h).2.2, fun x hx => right_len (rightT_val h x hx)⟩
def numT (t : TermS) : Nat := 2 * t.2.2.length + (if t.2.1 then 1 else 0)
def putVals (vs : List ByteArray) : Bs := vs.flatMap fun x => putT (bS x)
def putTm (t : TermS) : Bs := (putT (bS t.1) ++ putL (numT t)) ++ putVals t.2.2
def putTms (T : List TermS) : Bs := T.flatMap putTm
def putS (T : List TermS) : Bs := if rightS T then putL T.length ++ putTms T else []
theorem putVals_step {vs : List ByteArray} {k : Nat} (hk : k < vs.length) : putVals (vs.take (k + 1)) = putVals (vs.take k) ++ putT (bS (strAt vs k)) := by
 rw [List.take_succ_eq_append_getElem hk, putVals, List.flatMap_append]
 simp [putVals, strAt, hk]
theorem rowT_take {R : List RowS} {k : Nat} (hk : k < R.length) : (R.take (k + 1)).map rowT = (R.take k).map rowT ++ [rowT (sAtR R k)] := by
 rw [take_snocT hk, List.map_append]; rfl
theorem putTms_step {T : List TermS} {t : TermS} : putTms (T ++ [t]) = putTms T ++ putTm t := by simp [putTms]
theorem allR_hit {R : List RowS} {k : Nat} (hk : k < R.length) (h : rightT (rowT (sAtR R k)) = false) : (R.map rowT).all rightT = false := by
 rw [List.all_eq_false]
 exact ⟨_, List.mem_map_of_mem (sAtR_mem hk), by rw [h]; simp⟩
theorem allR_miss {R : List RowS} (h : ∀ k, k < R.length → rightT (rowT (sAtR R k)) = true) : (R.map rowT).all rightT = true := by
 rw [List.all_eq_true]
 intro t ht
 obtain ⟨r, hr, rfl⟩ := List.mem_map.1 ht
 obtain ⟨k, hk, rfl⟩ := List.getElem_of_mem hr
 have := h k hk
 have e : sAtR R k = R[k] := by simp [sAtR, hk]
 rwa [e] at this
def FitR (R : List RowS) : Prop := ∀ r ∈ R, FitT (rowT r)
end Go.Dm
namespace Go.Proofs.YtefjdmjkofaajaaGreatDoor
open Go.RowKit Go.Dm
end Go.Proofs.YtefjdmjkofaajaaGreatDoor
namespace Go.Dm
open Go Go.RowKit
def mkT (t : Bs × Bool × List Bs) : TermS := (⟨t.1.toArray⟩, t.2.1, t.2.2.map fun x => ⟨x.toArray⟩)
def Apart (u v : Value) : Prop := ∀ b, u.ownBlock = some b → v.ownBlock ≠ some b
theorem Sl.grown {w w' : World} {row : Option Nat} {sz n : Nat} {v : Value} {cs : List Value} (h : Sl w sz v n cs) (hg : w.grownBy w' row) (ha : n = 0 ∨ ∀ b, v.ownBlock = some b → row ≠ some b) : Sl w' sz v n cs := by
 obtain ⟨hl, p, cap, hv, hn, hm, hz, h⟩ := h
 refine ⟨hl, p, cap, hv, hn, hm, hz, ?_⟩
 rcases h with h | ⟨b, off, hp, hlt, h⟩
 ·exact Or.inl h
 rcases ha with ha | ha
 ·exact Or.inl ha
 subst hv hp
 have hne := ha b rfl
 exact Or.inr ⟨b, off, rfl, Nat.lt_of_lt_of_le hlt hg.size, fun j u hj => hg.cell (h j u hj) (fun e => hne e.symm)⟩
theorem Sl.own_lt {w : World} {sz n b : Nat} {v : Value} {cs : List Value} (h : Sl w sz v n cs) (h0 : n ≠ 0) (hb : v.ownBlock = some b) : b < w.heap.size := by
 obtain ⟨_, p, cap, hv, _, _, _, h⟩ := h
 rcases h with h | ⟨b', off, hp, hlt, _⟩
 ·exact absurd h h0
 ·subst hv hp
  simp only [Value.ownBlock, Option.some.injEq] at hb
  omega
def OwnT (B : Nat) (v : Value) (R : List RowS) : Prop := (∀ c, v.ownBlock = some c → B ≤ c) ∧ ∀ x ∈ R, ∀ c, x.2.2.1.ownBlock = some c → B ≤ c
theorem OwnT.nil (B : Nat) : OwnT B (.slice none 0 0) [] := ⟨(fun c h => by cases h), fun x hx => by cases hx⟩
theorem Terms.set {w : World} {v : Value} {R : List RowS} {B : Nat} (h : Terms w v R) (ho : OwnT B v R) {b i : Nat} (hb : b < B) (u : Value) : Terms (w.setCell ⟨b, i, none⟩ u) v R := by
 have hg : ∀ {sz n : Nat} {x : Value} {cs : List Value}, Sl w sz x n cs → (∀ c, x.ownBlock = some c → B ≤ c) → Sl (w.setCell ⟨b, i, none⟩ u) sz x n cs := fun {sz n x cs} hx hown => by
  obtain ⟨hl, p, cap, hv, hn, hm, hz, h⟩ := hx
  refine ⟨hl, p, cap, hv, hn, hm, hz, ?_⟩
  rcases h with h | ⟨c, off, hp, hlt, h⟩
  ·exact Or.inl h
  ·subst hv hp
   have hc := hown c rfl
   refine Or.inr ⟨c, off, rfl, by rw [World.size_setCell]; exact hlt, fun j y hj => ?_⟩
   have hne : (⟨b, i, none⟩ : Addr) ≠ ⟨c, off + j, none⟩ := fun e => by injection e with e _; omega
   rw [World.cell?_setCell_other (h := hne)]
   exact h j y hj
 exact ⟨hg h.1 ho.1, fun r hr => hg (h.2 r hr) (ho.2 r hr)⟩
structure TRow (e : TypeId) (B : Nat) (w : World) (v : Value) (n : Nat) (R : List RowS) : Prop where
 row : w.ownsRow B e 3 v n (rowCells R)
 vals : ∀ r ∈ R, Strs w r.2.2.1 r.2.2.2 ∧ (r.2.2.2 = [] ∨ Apart r.2.2.1 v)
theorem TRow.nil (e : TypeId) (B : Nat) (w : World) : TRow e B w (.slice none 0 0) 0 [] := ⟨World.ownsRow_nil _ _ _ _, fun r hr => by cases hr⟩
theorem TRow.ext {e B : Nat} {w w' : World} {v : Value} {n : Nat} {R : List RowS} (h : TRow e B w v n R) (hx : Ext w w') : TRow e B w' v n R :=
 ⟨Ext.row h.row hx, fun r hr => ⟨(h.vals r hr).1.ext hx, (h.vals r hr).2⟩⟩
theorem TRow.terms {e B : Nat} {w : World} {v : Value} {n : Nat} {R : List RowS} (h : TRow e B w v n R) (hn : n = R.length) : Terms w v R := Terms.of_row h.row hn (fun r hr => (h.vals r hr).1)
theorem TRow.lt {e B : Nat} {w : World} {v : Value} {n : Nat} {R : List RowS} (h : TRow e B w v n R) {b : Nat} (hb : v.ownBlock = some b) : B ≤ b ∧ b < w.heap.size := World.ownsRow.lt h.row b hb
theorem TRow.apart_new {e B : Nat} {w : World} {v u : Value} {n : Nat} {R : List RowS} (h : TRow e B w v n R) (hu : ∀ b, u.ownBlock = some b → w.heap.size ≤ b) : Apart u v := fun b hb hv => by
 have := (h.lt hv).2
 have := hu b hb
 omega
theorem TRow.apart_old {e B : Nat} {w : World} {v u : Value} {n : Nat} {R : List RowS} (h : TRow e B w v n R) (hu : ∀ b, u.ownBlock = some b → b < B) : Apart u v := fun b hb hv => by
 have := (h.lt hv).1
 have := hu b hb
 omega
theorem TRow.grown {e B : Nat} {w w' : World} {v : Value} {n : Nat} {R : List RowS} {q : Option Nat} (h : TRow e B w v n R) (hv : ∀ r ∈ R, ∀ c, r.2.2.1.ownBlock = some c → B ≤ c) (hg : w.grownBy w' q) (hq : ∀ c, q = some c → c < B) : TRow e B w' v n R := by
 refine ⟨?_, fun r hr => ⟨Sl.grown (h.vals r hr).1 hg (Or.inr fun b hb hqb => ?_), (h.vals r hr).2⟩⟩
 ·obtain ⟨hl, h⟩ := h.row
  refine ⟨hl, ?_⟩
  rcases h with h | ⟨g, cap, cur, hv, hb, hgg, r⟩
  ·exact Or.inl h
  ·exact Or.inr ⟨g, cap, cur, hv, hb, by rw [hg.block g (Array.getElem?_eq_some_iff.1 hgg).1 (fun e => by have := hq g e.symm; omega)]; exact hgg, r⟩
 ·have := hv r hr b hb
  have := hq b hqb
  omega
theorem wpList_appG {P : Program} {w : World} {B : Nat} {ops : Array Oper} {rest : List Oper} {o : Oper} {a : Act} {Q : Exit → Act → World → Prop} (hgd : o.guard = none) (s x : Operand) {t e : TypeId} {bytes : Nat} (T : SlT P t e 3 bytes)
  (ho : o.op = .call { callee := .builtin .append, args := #[s, x], argTypes := #[t, t] }) (hw : B ≤ w.heap.size)
  {v : Value} {n : Nat} {R : List RowS} (hs : a.eval s = v) (hT : TRow e B w v n R)
  {u : Value} {r : RowS} (hu : a.eval x = u) (hx : Sl w 3 u 1 (rowOne r)) (hv : Strs w r.2.2.1 r.2.2.2) (hap : r.2.2.2 = [] ∨ Apart r.2.2.1 v)
  (hbytes : (n + 1) * bytes ≤ 140737488355328)
  (h : ∀ v' w', TRow e B w' v' (n + 1) (R ++ [r]) → w.grownBy w' v.ownBlock → wpList P ops Q rest (a.put o.dst v') w') : wpList P ops Q (o :: rest) a w := by
 obtain ⟨i, z, hi, hz, h2, h3, h4⟩ := T.info
 obtain ⟨hl, p, cap, rfl, hnc, hm, hpn, hc⟩ := hx
 obtain ⟨b, off, rfl, hlt, hc⟩ := hc.resolve_left (by omega)
 have hcells : ∀ j u, (rowOne r)[j]? = some u → w.cell? ((⟨b, off, none⟩ : Addr).add j) = some u := by
  intro j u hj
  have := hc j u hj
  unfold Addr.add
  split
  ·rename_i h0; subst h0; simpa using this
  ·exact this
 have h1 : ∀ u ∈ rowOne r, u.oneCell' = true := by
  intro u hu
  simp only [rowOne, List.mem_cons, List.not_mem_nil, or_false] at hu
  rcases hu with rfl | rfl | rfl
  ·rfl
  ·rfl
  ·exact hv.one
 have hml : n + 1 ≤ maxLen := by
  have := Nat.le_trans (Nat.le_mul_of_pos_right (n + 1) T.bpos) hbytes
  simp only [maxLen]
  omega
 obtain ⟨v', w', hr, ho2, hg, _, hor⟩ := run_append_own_at (P := P) w B t o.type e i z 3 bytes T.ht hi hz h2 h3 h4 T.pos v n (rowCells R) hT.row ⟨b, off, none⟩ 1 cap (rowOne r) hl hcells h1 hml hbytes hw
 have hkeep : ∀ q : RowS, Strs w q.2.2.1 q.2.2.2 → (q.2.2.2 = [] ∨ Apart q.2.2.1 v) → Strs w' q.2.2.1 q.2.2.2 ∧ (q.2.2.2 = [] ∨ Apart q.2.2.1 v') := by
  intro q hq ha
  refine ⟨Sl.grown hq hg ?_, ?_⟩
  ·rcases ha with ha | ha
   ·left; rw [ha]; rfl
   ·right; exact ha
  ·rcases ha with ha | ha
   ·exact Or.inl ha
   ·by_cases h0 : q.2.2.2 = []
    ·exact Or.inl h0
    ·refine Or.inr fun b hb => ?_
     rcases hor with hor | hor
     ·rw [hor]; exact ha b hb
     ·rw [hor]
      have := Sl.own_lt hq (fun e => h0 (List.length_eq_zero_iff.1 e)) hb
      intro e
      injection e with e
      omega
 have hT' : TRow e B w' v' (n + 1) (R ++ [r]) := by
  refine ⟨?_, fun q hq => ?_⟩
  ·rw [rowCells_app]
   have : rowCells [r] = rowOne r := by simp [rowCells]
   rw [this]
   exact ho2
  ·rcases List.mem_append.1 hq with hq | hq
   ·exact hkeep q (hT.vals q hq).1 (hT.vals q hq).2
   ·rw [List.mem_singleton.1 hq]; exact hkeep r hv hap
 have hfin := h v' w' hT' hg
 refine wpList_plain hgd fun K hK => ?_
 unfold Oper.wp execOp
 simp only [ho, resolve, invoke, builtin, Sem.run_bind, Sem.run_pure, Result.andThen_ok, List.map_toArray, List.map_cons, List.map_nil, hs, hu, hr]
 exact hK _ _ hfin
theorem wpList_appT {P : Program} {w w0 : World} {ops : Array Oper} {rest : List Oper} {o : Oper} {a : Act} {Q : Exit → Act → World → Prop} (hgd : o.guard = none) (s x : Operand) {t e : TypeId} {bytes : Nat} (T : SlT P t e 3 bytes)
  (ho : o.op = .call { callee := .builtin .append, args := #[s, x], argTypes := #[t, t] }) (hw : Ext w0 w)
  {v : Value} {n : Nat} {R : List RowS} (hs : a.eval s = v) (hT : TRow e w0.heap.size w v n R)
  {u : Value} {r : RowS} (hu : a.eval x = u) (hx : Sl w 3 u 1 (rowOne r)) (hv : Strs w r.2.2.1 r.2.2.2) (hap : r.2.2.2 = [] ∨ Apart r.2.2.1 v)
  (hbytes : (n + 1) * bytes ≤ 140737488355328)
  (h : ∀ v' w', TRow e w0.heap.size w' v' (n + 1) (R ++ [r]) → Ext w0 w' → (v.ownBlock = none → Ext w w') → wpList P ops Q rest (a.put o.dst v') w') : wpList P ops Q (o :: rest) a w :=
 wpList_appG hgd s x T ho hw.size hs hT hu hx hv hap hbytes fun v' w' h1 hg => h v' w' h1 (hw.app hT.row hg (Nat.le_refl _)) (fun h0 => (Below.refl _ _).grown hg (Nat.le_refl _) (fun k hk => by rw [h0] at hk; cases hk))
def readsL {α : Type} (g : Bs → Option (α × Nat)) (l : Bs) (q : Nat) : Nat → Option (List α × Nat)
  | 0 => some ([], q)
  | i + 1 => match readsL g l q i with
    | some (xs, r) => match g (l.drop r) with
      | some (x, m) => some (xs ++ [x], r + m)
      | none => none
    | none => none
theorem readsL_none {α : Type} {g : Bs → Option (α × Nat)} {l : Bs} {q i : Nat} (h : readsL g l q i = none) : ∀ {j}, i ≤ j → readsL g l q j = none
  | 0, hj => by obtain rfl : i = 0 := by omega
                exact h
  | j + 1, hj => by
    rcases Nat.lt_or_ge i (j + 1) with h1 | h1
    · rw [readsL, readsL_none h (by omega)]
    · obtain rfl : i = j + 1 := by omega
      exact h
def someL {α : Type} (g : Bs → Option (α × Nat)) (most : Nat) (l : Bs) : Option (List α × Nat) :=
  match getL l with
  | some (u, n) => if u ≤ most then readsL g l n u else none
  | none => none
theorem someL_none {α : Type} {g : Bs → Option (α × Nat)} {most : Nat} {l : Bs} (h : getL l = none) : someL g most l = none := by
  unfold someL; rw [h]
theorem someL_some {α : Type} {g : Bs → Option (α × Nat)} {most : Nat} {l : Bs} {u n : Nat} (h : getL l = some (u, n)) : someL g most l = if u ≤ most then readsL g l n u else none := by
  unfold someL; rw [h]
theorem someI_no {α : Type} {g : Bs → Option (α × Nat)} {most : Nat} {l : Bs} {p : Int} (h : (getI l p).2.2 = false) : atI (someL g most) [] l p = ([], 0, false) := by
  unfold atI
  by_cases hp : p < 0 ∨ (l.length : Int) ≤ p
  · rw [if_pos hp]
  · rw [if_neg hp]
    rw [getI_at] at h
    unfold atI at h
    rw [if_neg hp] at h
    cases hg : getL (l.drop p.toNat) with
    | none => rw [someL_none hg]
    | some x => rw [hg] at h; cases h
theorem getPairL_nil : getPairL [] = none := rfl
theorem getPairL_fit {l : Bs} {k v : Bs} {n : Nat} (h : getPairL l = some ((k, v), n)) : k.length ≤ 32 ∧ v.length ≤ 32 := by
  have one : ∀ {l t : Bs} {n : Nat}, getTextL 32 l = some (t, n) → t.length ≤ 32 := by
    intro l t n h
    cases hg : getL l with
    | none => rw [getTextL_none hg] at h; cases h
    | some x =>
      obtain ⟨u, m⟩ := x
      rw [getTextL_some hg] at h
      split at h
      · rename_i hc
        injection h with h
        injection h with h1 _
        rw [← h1, List.length_take]; omega
      · cases h
  unfold getPairL at h
  cases h1 : getTextL 32 l with
  | none => rw [h1] at h; cases h
  | some x =>
    obtain ⟨a, i⟩ := x
    rw [h1] at h
    simp only at h
    cases h2 : getTextL 32 (l.drop i) with
    | none => rw [h2] at h; cases h
    | some y =>
      obtain ⟨b, j⟩ := y
      rw [h2] at h
      injection h with h
      injection h with h _
      injection h with e1 e2
      exact ⟨e1 ▸ one h1, e2 ▸ one h2⟩
theorem readsL_stop {l : Bs} {q n k r : Nat} {xs : List PairL} (h : readsL getPairL (l.drop q) n k = some (xs, r)) (hb : (atI getPairL ([], []) l ((q : Int) + (r : Int))).2.2 = false) : readsL getPairL (l.drop q) n (k + 1) = none := by
  rw [atI_drop getPairL_nil] at hb
  rw [readsL, h]
  simp only [List.drop_drop]
  cases hg : getPairL (l.drop (q + r)) with
  | none => rfl
  | some x => rw [hg] at hb; cases hb
theorem readsL_go {l : Bs} {q n k r : Nat} {xs : List PairS} {P : PairS} {at' : Int} (h : readsL getPairL (l.drop q) n k = some (labL xs, r)) (hb : atI getPairL ([], []) l ((q : Int) + (r : Int)) = (pL P, at', true)) :
    ∃ r2 : Nat, at' = (q : Int) + (r2 : Int) ∧ P.1.size ≤ 32 ∧ P.2.size ≤ 32 ∧ readsL getPairL (l.drop q) n (k + 1) = some (labL (xs ++ [P]), r2) := by
  rw [atI_drop getPairL_nil] at hb
  cases hg : getPairL (l.drop (q + r)) with
  | none => rw [hg] at hb; injection hb with _ hb; injection hb with _ hb; cases hb
  | some x =>
    obtain ⟨x, m⟩ := x
    rw [hg] at hb
    injection hb with e1 hb
    injection hb with e2 _
    subst e1
    refine ⟨r + m, by rw [← e2]; omega, ?_, ?_, ?_⟩
    · exact (getPairL_fit (k := (pL P).1) (v := (pL P).2) hg).1
    · exact (getPairL_fit (k := (pL P).1) (v := (pL P).2) hg).2
    · rw [readsL, h]
      simp only [List.drop_drop, hg]
      simp [labL]
theorem fit_snoc {l : List PairS} {P : PairS} (h : FitP l) (h1 : P.1.size ≤ 140737488351232) (h2 : P.2.size ≤ 140737488351232) : FitP (l ++ [P]) := by
  intro p hp
  rcases List.mem_append.1 hp with hp | hp
  · exact h p hp
  · rw [List.mem_singleton] at hp; subst hp; exact ⟨h1, h2⟩
theorem row_ge {w : World} {base : Nat} {e : TypeId} {size n c : Nat} {v : Value} {xs : List Value} (h : w.ownsRow base e size v n xs) (hc : v.ownBlock = some c) : base ≤ c := by
  rcases h.2 with ⟨rfl, _⟩ | ⟨g, cap, cur, rfl, hb, _⟩
  · cases hc
  · injection hc with hc; subst hc; exact hb
end Go.Dm
namespace Go.Proofs.YtefjdmjkofaajaaGreatDoor
open Go.RowKit Go.Dm
set_option maxHeartbeats 4000000 in
set_option maxRecDepth 100000 in
theorem lsomeO_w (s : ByteArray) (p : Int) (w : World) (hs : s.size ≤ 281474976710656) :
    Calls Tryz.prog 116 #[.string s, .int .i64 p, .int .i64 8, .func (.func 117) #[] #[]] w fun e w' => ∃ r l n b, e = .returned (.tuple #[r, .int .i64 n, .bool b]) ∧ Pairs w' r l ∧ FitP l ∧ l.length ≤ 8 ∧ atI (someL getPairL 8) [] s.data.toList p = (labL l, n, b) ∧ (∀ c, r.ownBlock = some c → w.heap.size ≤ c) ∧ Ext w w' := by
  have hln : s.data.toList.length = s.size := rfl
  have C := wget_w s p w hs
  cases hc : (getI s.data.toList p).2.2 with
  | false =>
    rw [someI_no hc]
    rw [hc] at C
    clear hc
    generalize (getI s.data.toList p).1 = u at C
    generalize (getI s.data.toList p).2.1 = n at C
    go_enter Tryz.func116, Tryz.ntmps116
    go_wp2_with (refine C.mono ?_; rintro e w' ⟨rfl, hb⟩)
    refine bodyPost_ret (results3 rfl _ _ _) rfl ?_
    exact ⟨_, [], 0, false, rfl, Pairs.nil _, FitP.nil, by simp, rfl, (fun c h => by cases h), hb⟩
  | true =>
    have hin : ¬ (p < 0 ∨ (s.data.toList.length : Int) ≤ p) := fun h => by rw [getI_out h] at hc; cases hc
    obtain ⟨q, rfl⟩ : ∃ q : Nat, p = (q : Int) := ⟨p.toNat, by omega⟩
    rw [hln] at hin
    have hq : q < s.size := by omega
    rw [getI_in (by rw [hln]; exact hq)] at C hc
    have HA : atI (someL getPairL 8) [] s.data.toList (q : Int) = match someL getPairL 8 (s.data.toList.drop q) with | some (u, m) => (u, (q : Int) + (m : Int), true) | none => ([], 0, false) := by
      unfold atI; rw [if_neg (by rw [hln]; exact hin), show ((q : Int)).toNat = q from rfl]; cases someL getPairL 8 (s.data.toList.drop q) <;> rfl
    cases hg : getL (s.data.toList.drop q) with
    | none => rw [hg] at hc; cases hc
    | some x =>
      obtain ⟨u, n⟩ := x
      rw [hg] at C
      rw [someL_some hg] at HA
      obtain ⟨l1, l2, l3, l4⟩ := getL_len hg
      rw [List.length_drop, hln] at l2
      clear hc hg hin
      simp only at C
      by_cases hu : u ≤ 8
      · rw [if_pos hu] at HA
        replace HA := Lib.hid HA
        generalize hG : atI (someL getPairL 8) [] s.data.toList (q : Int) = G at HA
        clear hG
        go_enter Tryz.func116, Tryz.ntmps116
        go_wp2_with (refine C.mono ?_; rintro e w1 ⟨rfl, h1⟩)
        go_loopw [8, 1, 31] (fun v a' i' wr => ∃ (k : Nat) (xs : List PairS) (r : Nat), k ≤ u ∧ i' = .int .u64 k ∧ a' = .int .i64 ((q : Int) + (r : Int)) ∧ Ext w1 wr ∧ wr.ownsRow w1.heap.size 126 2 v k (pairCells xs) ∧ xs.length = k ∧ FitP xs ∧ Hid (readsL getPairL (s.data.toList.drop q) n k = some (labL xs, r))) (fun _ _ i' _ => u - (intOf i').toNat)
        case atStart => exact ⟨0, [], n, by omega, rfl, rfl, Ext.refl _, World.ownsRow_nil _ _ _ _, rfl, FitP.nil, Lib.hid rfl⟩
        case round =>
          obtain ⟨k, xs, r, hk, rfl, rfl, hb, ho, hxl, hF, HR⟩ := hrel
          by_cases hlt : k < u
          · have C2 := lpair_w s ((q : Int) + (r : Int)) wr hs
            have hw3 := h1.trans hb
            go_wp2_with fail
            refine C2.mono ?_; rintro e w2 ⟨P, n2, b, rfl, hb2, hP2, h2⟩
            clear C2
            cases b with
            | false =>
              have hno := readsL_none (readsL_stop HR.out hb2.symm) (show k + 1 ≤ u by omega)
              replace hno := Lib.hid hno
              clear hb2 hP2
              go_wp2_with fail
              refine bodyPost_ret (results3 rfl _ _ _) rfl ?_
              exact ⟨_, [], 0, false, rfl, Pairs.nil _, FitP.nil, by simp, by rw [HA.out, hno.out]; rfl, (fun c h => by cases h), hw3.trans (h2.trans ((Ext.refl w2).alloc _))⟩
            | true =>
              obtain ⟨r2, hr2, hf1, hf2, HR2⟩ := readsL_go HR.out (hP2 rfl)
              subst hr2
              replace HR2 := Lib.hid HR2
              clear hb2 hP2
              have hb2 := (hb.trans h2).trans ((Ext.refl w2).alloc (.cells #[.string P.1, .string P.2] 126))
              have ho2 := Ext.row (Ext.row ho h2) ((Ext.refl w2).alloc (.cells #[.string P.1, .string P.2] 126))
              have hl4 := Sl.lit (w2.alloc (.cells #[.string P.1, .string P.2] 126)) 126 2 1 #[.string P.1, .string P.2] rfl (by simp [maxLen])
              have hb4 := hb2.trans ((Ext.refl _).alloc (.cells #[.string P.1, .string P.2] 126))
              have ho4 := Ext.row ho2 ((Ext.refl _).alloc (.cells #[.string P.1, .string P.2] 126))
              simp only [World.size_alloc] at hl4
              clear ho ho2
              go_wp2_with (at_builtin; refine wpList_appE rfl _ _ Tryz.slPair rfl hb4 rfl ho4 rfl hl4 (pairCells_one [P]) (by omega) ?_; intro v5 w5 ho5 hb5 _)
              go_roundw
              case rel => exact ⟨k + 1, xs ++ [P], r2, by omega, by go_num, rfl, hb5, by rw [pairCells_app]; exact ho5, by simp [hxl], fit_snoc hF (by omega) (by omega), HR2⟩
              case measure => simp [intOf]; omega
          · obtain rfl : k = u := by omega
            go_wp2_with fail
            refine bodyPost_ret (results3 rfl _ _ _) rfl ?_
            exact ⟨_, xs, _, true, rfl, Pairs.of_row ho hxl.symm, hF, by omega, by rw [HA.out, HR.out], (fun c h => Nat.le_trans h1.size (row_ge ho h)), h1.trans hb⟩
      · rw [if_neg hu] at HA
        rw [HA]
        clear HA
        go_enter Tryz.func116, Tryz.ntmps116
        go_wp2_with (refine C.mono ?_; rintro e w1 ⟨rfl, h1⟩)
        all_goals
          refine bodyPost_ret (results3 rfl _ _ _) rfl ?_
          exact ⟨_, [], 0, false, rfl, Pairs.nil _, FitP.nil, by simp, rfl, (fun c h => by cases h), h1⟩
end Go.Proofs.YtefjdmjkofaajaaGreatDoor
namespace Go.Dm
open Go Go.RowKit
def getLabL (l : Bs) : Option (List PairL × Nat) :=
 match someL getPairL 8 l with
 | some (xs, n) => if rightLab xs = true then some (xs, n) else none
 | none => none
theorem getLab_no {l : Bs} {p : Int} (h : (atI (someL getPairL 8) [] l p).2.2 = false) : atI getLabL [] l p = ([], 0, false) := by
 unfold atI at *
 split
 ·rfl
 ·rename_i hp
  rw [if_neg hp] at h
  unfold getLabL
  cases hg : someL getPairL 8 (l.drop p.toNat) with
  | none => rfl
  | some x => rw [hg] at h; cases h
theorem getLab_yes {l : Bs} {p : Int} {xs : List PairL} {n : Int} (h : atI (someL getPairL 8) [] l p = (xs, n, true)) : atI getLabL [] l p = if rightLab xs = true then (xs, n, true) else ([], 0, false) := by
 unfold atI at *
 split
 ·rename_i hp
  rw [if_pos hp] at h
  injection h with _ h; injection h with _ h; cases h
 ·rename_i hp
  rw [if_neg hp] at h
  unfold getLabL
  cases hg : someL getPairL 8 (l.drop p.toNat) with
  | none => rw [hg] at h; injection h with _ h; injection h with _ h; cases h
  | some x =>
   obtain ⟨ys, m⟩ := x
   rw [hg] at h
   injection h with e1 h
   injection h with e2 _
   subst e1 e2
   simp only
   by_cases hr : rightLab ys = true
   ·rw [if_pos hr, if_pos hr]
   ·rw [if_neg hr, if_neg hr]
end Go.Dm
namespace Go.Proofs.YtefjdmjkofaajaaGreatDoor
open Go.RowKit Go.Dm
set_option maxHeartbeats 4000000 in
set_option maxRecDepth 100000 in
theorem lgetO_w (s : ByteArray) (p : Int) (w : World) (hs : s.size ≤ 281474976710656) (ht : Tabs w) :
  Calls Tryz.prog 85 #[.string s, .int .i64 p] w fun e w' => ∃ r l n b, e = .returned (.tuple #[r, .int .i64 n, .bool b]) ∧ Pairs w' r l ∧ FitP l ∧ l.length ≤ 8 ∧ atI getLabL [] s.data.toList p = (labL l, n, b) ∧ (∀ c, r.ownBlock = some c → w.heap.size ≤ c) ∧ Ext w w' := by
 have C := lsomeO_w s p w hs
 have HN := getLab_no (l := s.data.toList) (p := p)
 have HY := fun xs n => getLab_yes (l := s.data.toList) (p := p) (xs := xs) (n := n)
 generalize atI (someL getPairL 8) [] s.data.toList p = T at C HN HY
 generalize atI getLabL [] s.data.toList p = G at HN HY
 replace HN := Lib.hid HN
 replace HY := Lib.hid HY
 go_enter Tryz.func85, Tryz.ntmps85
 go_wp2_with fail
 refine C.mono ?_; rintro e w1 ⟨r, l, n, b, rfl, hx, hF, h8l, rfl, hO, h1⟩
 clear C
 cases b with
 | false =>
  go_wp2_with fail
  refine bodyPost_ret (results3 rfl _ _ _) rfl ?_
  exact ⟨_, [], 0, false, rfl, Pairs.nil _, FitP.nil, by simp, (by first | exact HN.out rfl | exact HN.out trivial), (fun c h => by cases h), h1⟩
 | true =>
  obtain ⟨q, cap, rfl, hlc, hcm⟩ := hx.shape
  have hlm : l.length ≤ 35184372088832 := by omega
  have CR := lright_w l _ w1 hlm hF hx (ht.ext h1)
  replace HY := HY.out (labL l) n rfl
  cases hR : rightLab (labL l) with
  | false =>
   rw [hR] at CR HY
   rw [if_neg (by decide)] at HY
   clear hR
   replace HY := Lib.hid HY
   go_wp2_with fail
   refine CR.mono ?_; rintro e w2 ⟨rfl, h2⟩
   go_wp2_with fail
   refine bodyPost_ret (results3 rfl _ _ _) rfl ?_
   exact ⟨_, [], 0, false, rfl, Pairs.nil _, FitP.nil, by simp, HY.out, (fun c h => by cases h), h1.trans h2⟩
  | true =>
   have h8 := (rightLab_iff.1 hR).1
   rw [labL_len] at h8
   rw [hR] at CR HY
   rw [if_pos rfl] at HY
   clear hR
   replace HY := Lib.hid HY
   go_wp2_with fail
   refine CR.mono ?_; rintro e w2 ⟨rfl, h2⟩
   go_wp2_with fail
   refine bodyPost_ret (results3 rfl _ _ _) rfl ?_
   exact ⟨_, l, n, true, rfl, hx.ext h2, hF, h8, HY.out, hO, h1.trans h2⟩
end Go.Proofs.YtefjdmjkofaajaaGreatDoor
namespace Go.Dm
open Go Go.RowKit
def Begins (a l : Bs) : Prop := ∃ t, a ++ t = l
theorem begins_take {a l : Bs} : Begins a l ↔ a = l.take a.length ∧ a.length ≤ l.length := by
  constructor
  · rintro ⟨t, rfl⟩
    exact ⟨by rw [List.take_left], by rw [List.length_append]; omega⟩
  · rintro ⟨h1, h2⟩
    exact ⟨l.drop a.length, by conv => lhs; lhs; rw [h1]
                               exact List.take_append_drop _ _⟩
theorem begins_app {a b l : Bs} : Begins (a ++ b) l ↔ Begins a l ∧ Begins b (l.drop a.length) := by
  constructor
  · rintro ⟨t, rfl⟩
    exact ⟨⟨b ++ t, by simp⟩, ⟨t, by simp⟩⟩
  · rintro ⟨⟨t, rfl⟩, ⟨u, h⟩⟩
    rw [List.drop_left] at h
    exact ⟨u, by simp [h]⟩
theorem begins_nil (l : Bs) : Begins [] l := ⟨l, rfl⟩
theorem getL_begins {l : Bs} {u n : Nat} : getL l = some (u, n) ↔ U64 u ∧ n = (putL u).length ∧ Begins (putL u) l := by
  rw [getL_iff, begins_take]
  constructor
  · rintro ⟨h1, rfl, h3, h4⟩; exact ⟨h1, rfl, h3, h4⟩
  · rintro ⟨h1, rfl, h3, h4⟩; exact ⟨h1, rfl, h3, h4⟩
theorem getText_begins {most : Nat} {l t : Bs} {n : Nat} (hl : U64 l.length) : getTextL most l = some (t, n) ↔ t.length ≤ most ∧ n = (putT t).length ∧ Begins (putT t) l := by
  rw [getTextL_iff hl, begins_take]
  unfold putT
  constructor
  · rintro ⟨h1, rfl, h3, h4⟩; exact ⟨h1, rfl, h3, h4⟩
  · rintro ⟨h1, rfl, h3, h4⟩; exact ⟨h1, rfl, h3, h4⟩
theorem U64.drop {l : Bs} (h : U64 l.length) (k : Nat) : U64 (l.drop k).length := by
  rw [List.length_drop]; exact Nat.lt_of_le_of_lt (Nat.sub_le _ _) h
def fitPair (p : PairL) : Prop := p.1.length ≤ 32 ∧ p.2.length ≤ 32
theorem right_fits {L : List PairL} (h : rightLab L = true) : L.length ≤ 8 ∧ ∀ p ∈ L, fitPair p := by
  obtain ⟨h1, h2⟩ := rightLab_iff.1 h
  refine ⟨h1, fun p hp => ?_⟩
  obtain ⟨k, hk, rfl⟩ := List.getElem_of_mem hp
  have := h2 k hk
  have he : plAt L k = L[k] := by simp [plAt, hk]
  unfold okLab at this
  rw [he, Bool.and_eq_true, Bool.and_eq_true] at this
  exact ⟨right_len this.1, right_len this.2.1⟩
theorem count_round {l : Bs} {at' k : Nat} (h : at' < l.length) (hk : countL l = k + countL (l.drop at')) : countL l = (k + 1) + countL (l.drop (at' + wideL (l.drop at'))) ∧ at' + wideL (l.drop at') ≤ l.length ∧ max (longL (l.drop at')) 1 = wideL (l.drop at') ∧ 1 ≤ wideL (l.drop at') := by
 have hne : l.drop at' ≠ [] := by rw [Ne, List.drop_eq_nil_iff]; omega
 have h1 := wideL_le hne
 rw [List.length_drop] at h1
 refine ⟨?_, by omega, long_max hne, wideL_pos _⟩
 rw [hk, countL_step hne, List.drop_drop]; omega
end Go.Dm
namespace Go.Proofs.YtefjdmjkofaajaaGreatDoor
open Go.RowKit Go.Dm
set_option maxHeartbeats 1000000 in
theorem rcount_w (s : ByteArray) (w : World) (hs : s.size < 9223372036854775807) :
  Calls Tryz.prog 110 #[.string s] w fun e w' => e = .returned (.int .i64 (countL s.data.toList)) ∧ Ext w w' := by
 go_enter Tryz.func110, Tryz.ntmps110
 go_wp2
 go_loopw [3, 4] (fun n i' wr => ∃ (at' k : Nat), at' ≤ s.size ∧ k ≤ at' ∧ i' = .int .i64 at' ∧ n = .int .i64 k ∧ Ext w wr ∧ Hid (countL s.data.toList = k + countL (s.data.toList.drop at'))) (fun _ i' _ => s.size - (intOf i').toNat)
 case atStart => exact ⟨0, 0, by omega, by omega, rfl, rfl, Ext.refl _, by show _ = _; rw [List.drop_zero, Nat.zero_add]⟩
 case round =>
  obtain ⟨at', k, ha, hk, rfl, rfl, hb, HK⟩ := hrel
  by_cases hlt : at' < s.size
  ·obtain ⟨r1, r2, r3, r4⟩ := count_round (by rw [← size_len]; exact hlt) HK.out
   have hex : (s.extract at' s.size).data.toList = s.data.toList.drop at' := Lib.extract_to_end s at'
   have hse : (s.extract at' s.size).size < 9223372036854775807 := by rw [size_len, hex, List.length_drop, ← size_len]; omega
   rw [← size_len] at r2
   rw [← hex] at r1 r2 r3 r4
   have r3 : max (longL (s.extract at' s.size).data.toList : Int) 1 = (wideL (s.extract at' s.size).data.toList : Int) := by omega
   have C := long_w (s.extract at' s.size) wr hse
   replace r1 := Lib.hid r1
   clear hex hse
   generalize longL (s.extract at' s.size).data.toList = L at *
   generalize wideL (s.extract at' s.size).data.toList = W at *
   go_wp2_with fail
   refine C.mono ?_; rintro e w2 ⟨rfl, h2⟩
   clear C
   go_wp2
   go_roundw
   case rel => exact ⟨at' + W, k + 1, by omega, by omega, by go_num, by go_num, hb.trans h2, r1⟩
   case measure => simp [intOf]; omega
  ·go_wp2
   go_ret
   obtain rfl : at' = s.size := by omega
   have := HK.out
   rw [List.drop_eq_nil_iff.2 (by rw [← size_len]; omega), countL_nil, Nat.add_zero] at this
   exact ⟨by rw [this]; rfl, hb⟩
theorem letterR_one {s : ByteArray} (h1 : s.size = 1) : letterR s.data.toList = (decide (97 ≤ bAt s.data.toList 0) && decide (bAt s.data.toList 0 ≤ 122)) := by
 unfold letterR; rw [← size_len, if_pos h1]
set_option maxHeartbeats 1000000 in
theorem letter_w (s : ByteArray) (w : World) (hs : s.size < 9223372036854775807) :
  Calls Tryz.prog 112 #[.string s] w fun e w' => e = .returned (.bool (letterR s.data.toList)) ∧ Ext w w' := by
 by_cases h1 : s.size = 1
 ·have hb : ((s.size : Int) == 1) = true := by rw [beq_iff_eq]; omega
  have h0 : 0 < s.size := by omega
  obtain ⟨a, ha⟩ : ∃ a : Int, ((s[0]'h0).toNat : Int) = a := ⟨_, rfl⟩
  have hz : Hid (letterR s.data.toList = (decide (97 ≤ a) && decide (a ≤ 122))) := by
   show _ = _
   rw [letterR_one h1, ← ha, sAt]
   congr 1 <;> exact decide_eq_decide.2 (by omega)
  clear h1
  by_cases c : 97 ≤ a
  ·rw [decide_eq_true c] at hz
   go_enter Tryz.func112, Tryz.ntmps112
   go_wp2
   go_ret
   exact ⟨by rw [hz.out]; rfl, Ext.refl _⟩
  ·rw [decide_eq_false c] at hz
   go_enter Tryz.func112, Tryz.ntmps112
   go_wp2
   go_ret
   exact ⟨by rw [hz.out]; rfl, Ext.refl _⟩
 ·have hb : ((s.size : Int) == 1) = false := by rw [beq_eq_false_iff_ne]; omega
  by_cases h2 : s.size = 2
  ·have hb2 : ((s.size : Int) != 2) = false := by simp; omega
   have h0 : 0 < s.size := by omega
   have h10 : 1 < s.size := by omega
   obtain ⟨a, ha⟩ : ∃ a : Int, ((s[0]'h0).toNat : Int) = a := ⟨_, rfl⟩
   obtain ⟨b, hb'⟩ : ∃ b : Int, ((s[1]'h10).toNat : Int) = b := ⟨_, rfl⟩
   have ha0 : 0 ≤ a ∧ a ≤ 255 := by rw [← ha, sAt]; have := bAt_lt s.data.toList 0; omega
   have hb0 : 0 ≤ b ∧ b ≤ 255 := by rw [← hb', sAt]; have := bAt_lt s.data.toList 1; omega
   have hz : Hid (letterR s.data.toList = ((decide (945 ≤ a % 32 * 64 + b % 64) && decide (a % 32 * 64 + b % 64 ≤ 969)) || (decide (1072 ≤ a % 32 * 64 + b % 64) && decide (a % 32 * 64 + b % 64 ≤ 1103)))) := by
    show _ = _
    unfold letterR
    rw [← size_len, if_neg h1, if_pos h2, ← ha, ← hb', sAt, sAt]
    congr 1 <;> congr 1 <;> exact decide_eq_decide.2 (by omega)
   clear h1 h2
   obtain ⟨p, hp⟩ : ∃ p : Int, a % 32 = p := ⟨_, rfl⟩
   obtain ⟨q, hq⟩ : ∃ q : Int, b % 64 = q := ⟨_, rfl⟩
   have hp' : a.tmod 32 = p := by rw [Int.tmod_eq_emod_of_nonneg ha0.1]; exact hp
   have hq' : b.tmod 64 = q := by rw [Int.tmod_eq_emod_of_nonneg hb0.1]; exact hq
   have hpb : 0 ≤ p ∧ p ≤ 31 := by omega
   have hqb : 0 ≤ q ∧ q ≤ 63 := by omega
   rw [hp, hq] at hz
   obtain ⟨n, hn⟩ : ∃ n : Int, p * 64 + q = n := ⟨_, rfl⟩
   rw [hn] at hz
   have hw1 : IntKind.i64.wrap (p * 64) = p * 64 := IntWalk.i64_in _ (by omega)
   have hw2 : IntKind.i64.wrap (p * 64 + q) = n := by rw [← hn]; exact IntWalk.i64_in _ (by omega)
   go_enter Tryz.func112, Tryz.ntmps112
   go_wp2_with fail
   refine Dm.wp_region_grow (by kernel_rfl) (by kernel_rfl) ?_
   repeat (go_big_quiet_step (fail))
   refine wpQuiet_nil ?_
   intro W hW'
   clear hw1 hw2 hn hp hq hp' hq' ha hb'
   by_cases c1 : 945 ≤ n
   ·by_cases c2 : n ≤ 969
    ·have hv : letterR s.data.toList = true := by rw [hz.out]; simp; omega
     replace hv := Lib.hid hv
     go_wp2
     go_ret
     exact ⟨by rw [hv.out]; rfl, hW'⟩
    ·by_cases c3 : 1072 ≤ n
     ·by_cases c4 : n ≤ 1103
      ·have hv : letterR s.data.toList = true := by rw [hz.out]; simp; omega
       replace hv := Lib.hid hv
       go_wp2
       go_ret
       exact ⟨by rw [hv.out]; rfl, hW'⟩
      ·have hv : letterR s.data.toList = false := by rw [hz.out]; simp; omega
       replace hv := Lib.hid hv
       go_wp2
       go_ret
       exact ⟨by rw [hv.out]; rfl, hW'⟩
     ·have hv : letterR s.data.toList = false := by rw [hz.out]; simp; omega
      replace hv := Lib.hid hv
      go_wp2
      go_ret
      exact ⟨by rw [hv.out]; rfl, hW'⟩
   ·have hv : letterR s.data.toList = false := by rw [hz.out]; simp; omega
    replace hv := Lib.hid hv
    go_wp2
    go_ret
    exact ⟨by rw [hv.out]; rfl, hW'⟩
  ·have hb2 : ((s.size : Int) != 2) = true := by simp; omega
   have hz : Hid (letterR s.data.toList = false) := by show _ = _; unfold letterR; rw [← size_len, if_neg h1, if_neg h2]
   clear h1 h2
   go_enter Tryz.func112, Tryz.ntmps112
   go_wp2
   go_ret
   exact ⟨by rw [hz.out]; rfl, Ext.refl _⟩
set_option maxHeartbeats 2000000 in
theorem rright_w (s : ByteArray) (w : World) (hs : s.size < 9223372036854775807) :
  Calls Tryz.prog 75 #[.string s] w fun e w' => e = .returned (.bool (rightL s.data.toList)) ∧ Ext w w' := by
 by_cases h0 : s.size = 0
 ·have hb : ((s.size : Int) == 0) = true := by rw [beq_iff_eq]; omega
  have hz : Hid (rightL s.data.toList = false) := by
   show _ = _
   rw [show s.data.toList = [] from List.length_eq_zero_iff.1 (by rw [← size_len]; exact h0)]; rfl
  clear h0
  go_enter Tryz.func75, Tryz.ntmps75
  go_wp2
  go_ret
  exact ⟨by rw [hz.out]; rfl, Ext.refl _⟩
 ·have hb : ((s.size : Int) == 0) = false := by rw [beq_eq_false_iff_ne]; omega
  have hne : s.data.toList.isEmpty = false := by
   rw [List.isEmpty_eq_false_iff]
   intro h; apply h0; rw [size_len, h]; rfl
  go_enter Tryz.func75, Tryz.ntmps75
  go_wp2_with fail
  refine (rcount_w s w hs).mono ?_; rintro e w1 ⟨rfl, e1⟩
  by_cases h16 : countL s.data.toList ≤ 16
  ·go_wp2
   go_loopw [3] (fun i' wr => ∃ pos : Nat, pos ≤ s.size ∧ i' = .int .i64 pos ∧ Ext w1 wr ∧ Hid (okL true s.data.toList = okL (pos == 0) (s.data.toList.drop pos))) (fun i' _ => s.size - (intOf i').toNat)
   case atStart => exact ⟨0, by omega, rfl, Ext.refl _, rfl⟩
   case round =>
    obtain ⟨pos, hps, rfl, hbw, HK⟩ := hrel
    have fr := e1.trans hbw
    by_cases hp : pos < s.size
    ·have HR := Lib.hid (right_round hp HK.out)
     have HB := Lib.hid (right_bad hp HK.out)
     have hex : (s.extract pos s.size).data.toList = s.data.toList.drop pos := Lib.extract_to_end s pos
     have hse : (s.extract pos s.size).size < 9223372036854775807 := by rw [size_len, hex, List.length_drop, ← size_len]; omega
     have CL := long_w (s.extract pos s.size) wr hse
     rw [hex] at CL
     have hned : s.data.toList.drop pos ≠ [] := by rw [Ne, List.drop_eq_nil_iff, ← size_len]; omega
     have hle := long_le (s.data.toList.drop pos)
     rw [List.length_drop, ← size_len] at hle
     by_cases hz : longL (s.data.toList.drop pos) = 0
     ·have h2 := long_zero hned hz
      have hB := Lib.hid (HB.out (by rw [h2.1, h2.2]; simp))
      rw [hz] at CL
      clear hz hle h2 hex hse hned
      go_wp2_with fail
      refine CL.mono ?_; rintro e w2 ⟨rfl, h2⟩
      go_wp2
      go_ret
      exact ⟨by rw [hB.out]; rfl, fr.trans h2⟩
     ·have hlt := letter_take hz
      have hmk := mark_take hz
      have hww := long_wide hz
      rw [hww] at HR
      have hxd : (s.extract pos (pos + longL (s.data.toList.drop pos))).data.toList = (s.data.toList.drop pos).take (longL (s.data.toList.drop pos)) := by rw [Lib.extract_data]; congr 1; omega
      have hxs : (s.extract pos (pos + longL (s.data.toList.drop pos))).size = longL (s.data.toList.drop pos) := by rw [size_len, hxd, List.length_take, List.length_drop, ← size_len]; omega
      rw [← hxd] at hlt hmk
      generalize longL (s.data.toList.drop pos) = n at *
      generalize runeL (s.data.toList.drop pos) = r at *
      have hn0 : ((n : Int) == 0) = false := by rw [beq_eq_false_iff_ne]; omega
      have hpn : pos + n ≤ s.size := by omega
      clear hex hse hned hww hxd
      obtain ⟨X, hXe⟩ : ∃ X, s.extract pos (pos + n) = X := ⟨_, rfl⟩
      rw [hXe] at hlt hmk hxs
      have hlet := letter_w X
      rw [hlt] at hlet
      have hXs : X.size < 9223372036854775807 := by omega
      have hmk' : markB r = ((X.data.toList == [45]) || (n == 1 && (decide (48 ≤ bAt X.data.toList 0) && decide (bAt X.data.toList 0 ≤ 57)))) := hmk.symm
      replace hmk' := Lib.hid hmk'
      clear hmk hlt
      by_cases hd : X.data.toList = [45]
      ·have hm : Hid (markB r = true) := by show _ = _; rw [hmk'.out, hd]; rfl
       have hX45 : X = ⟨#[45]⟩ := by rw [mk_bytes hd]
       subst hX45
       clear hd hmk'
       go_wp2_with fail
       refine CL.mono ?_; rintro e w2 ⟨rfl, h2⟩
       clear CL
       go_wp2_with fail
       refine (hlet w2 hXs).mono ?_; rintro e w3 ⟨rfl, h3⟩
       have f3 := hbw.trans (h2.trans h3)
       clear hlet
       cases hl : letterB r with
       | true =>
        rw [hl, Bool.true_or] at HR
        have hst := HR.out rfl
        clear HB
        go_wp2
        go_roundw
        case rel => exact ⟨pos + n, by omega, by go_num, f3, hst.2⟩
        case measure => simp [intOf]; omega
       | false =>
        rw [hl, Bool.false_or, hm.out] at HR HB
        by_cases h0p : pos = 0
        ·have hpz : ((pos : Int) == 0) = true := by rw [beq_iff_eq]; omega
         have hB := Lib.hid (HB.out (by rw [h0p]; rfl))
         clear h0p HR HB
         go_wp2
         go_ret
         exact ⟨by rw [hB.out]; rfl, e1.trans f3⟩
        ·have hpz : ((pos : Int) == 0) = false := by rw [beq_eq_false_iff_ne]; omega
         have hpz' : (pos == 0) = false := by rw [beq_eq_false_iff_ne]; exact h0p
         rw [hpz'] at HR HB
         clear hpz' h0p
         have hst := HR.out rfl
         clear HB HR
         go_wp2
         go_roundw
         case rel => exact ⟨pos + n, by omega, by go_num, f3, hst.2⟩
         case measure => simp [intOf]; omega
      ·have hdb : (X.data.toList == [45]) = false := by rw [beq_eq_false_iff_ne]; exact hd
       have hXt : (X.toList == [45]) = false := by rw [ByteArray.toList_eq]; exact hdb
       have hXt' : ¬ X.toList = [45] := by rw [ByteArray.toList_eq]; exact hd
       by_cases h1 : n = 1
       ·have hn1 : ((n : Int) == 1) = true := by rw [beq_iff_eq]; omega
        have hX0 : 0 < X.size := by omega
        obtain ⟨a, ha⟩ : ∃ a : Int, ((X[0]'hX0).toNat : Int) = a := ⟨_, rfl⟩
        have hab : (bAt X.data.toList 0 : Int) = a := by rw [← sAt hX0]; exact ha
        by_cases c1 : 48 ≤ a
        ·by_cases c2 : a ≤ 57
         ·have hm : Hid (markB r = true) := by show _ = _; rw [hmk'.out, hdb, h1, decide_eq_true (by omega), decide_eq_true (by omega)]; rfl
          clear hab hd hdb hmk' h1
          go_wp2_with fail
          refine CL.mono ?_; rintro e w2 ⟨rfl, h2⟩
          clear CL
          go_wp2_with fail
          refine (hlet w2 hXs).mono ?_; rintro e w3 ⟨rfl, h3⟩
          have f3 := hbw.trans (h2.trans h3)
          clear hlet
          cases hl : letterB r with
          | true =>
           rw [hl, Bool.true_or] at HR
           have hst := HR.out rfl
           clear HB
           go_wp2
           go_roundw
           case rel => exact ⟨pos + n, by omega, by go_num, f3, hst.2⟩
           case measure => simp [intOf]; omega
          | false =>
           rw [hl, Bool.false_or, hm.out] at HR HB
           by_cases h0p : pos = 0
           ·have hpz : ((pos : Int) == 0) = true := by rw [beq_iff_eq]; omega
            have hB := Lib.hid (HB.out (by rw [h0p]; rfl))
            clear h0p HR HB
            go_wp2
            go_ret
            exact ⟨by rw [hB.out]; rfl, e1.trans f3⟩
           ·have hpz : ((pos : Int) == 0) = false := by rw [beq_eq_false_iff_ne]; omega
            have hpz' : (pos == 0) = false := by rw [beq_eq_false_iff_ne]; exact h0p
            rw [hpz'] at HR HB
            clear hpz' h0p
            have hst := HR.out rfl
            clear HB HR
            go_wp2
            go_roundw
            case rel => exact ⟨pos + n, by omega, by go_num, f3, hst.2⟩
            case measure => simp [intOf]; omega
         ·have hm : Hid (markB r = false) := by show _ = _; rw [hmk'.out, hdb, h1, decide_eq_true (p := 48 ≤ bAt X.data.toList 0) (by omega), decide_eq_false (by omega)]; rfl
          have c2b : decide (a ≤ 57) = false := decide_eq_false c2
          clear hab hd hdb hmk' h1
          go_wp2_with fail
          refine CL.mono ?_; rintro e w2 ⟨rfl, h2⟩
          clear CL
          go_wp2_with fail
          refine (hlet w2 hXs).mono ?_; rintro e w3 ⟨rfl, h3⟩
          have f3 := hbw.trans (h2.trans h3)
          clear hlet
          cases hl : letterB r with
          | true =>
           rw [hl, Bool.true_or] at HR
           have hst := HR.out rfl
           clear HB
           go_wp2
           go_roundw
           case rel => exact ⟨pos + n, by omega, by go_num, f3, hst.2⟩
           case measure => simp [intOf]; omega
          | false =>
           rw [hl, Bool.false_or, hm.out] at HR HB
           by_cases h0p : pos = 0
           ·have hpz : ((pos : Int) == 0) = true := by rw [beq_iff_eq]; omega
            have hB := Lib.hid (HB.out (by rw [h0p]; rfl))
            clear h0p HR HB
            go_wp2
            go_ret
            exact ⟨by rw [hB.out]; rfl, e1.trans f3⟩
           ·have hpz : ((pos : Int) == 0) = false := by rw [beq_eq_false_iff_ne]; omega
            have hpz' : (pos == 0) = false := by rw [beq_eq_false_iff_ne]; exact h0p
            rw [hpz'] at HR HB
            clear hpz' h0p
            have hB := Lib.hid (HB.out rfl)
            clear HB HR
            go_wp2
            go_ret
            exact ⟨by rw [hB.out]; rfl, e1.trans f3⟩
        ·have hm : Hid (markB r = false) := by show _ = _; rw [hmk'.out, hdb, h1, decide_eq_false (p := 48 ≤ bAt X.data.toList 0) (by omega)]; rfl
         clear hab hd hdb hmk' h1
         go_wp2_with fail
         refine CL.mono ?_; rintro e w2 ⟨rfl, h2⟩
         clear CL
         go_wp2_with fail
         refine (hlet w2 hXs).mono ?_; rintro e w3 ⟨rfl, h3⟩
         have f3 := hbw.trans (h2.trans h3)
         clear hlet
         cases hl : letterB r with
         | true =>
          rw [hl, Bool.true_or] at HR
          have hst := HR.out rfl
          clear HB
          go_wp2
          go_roundw
          case rel => exact ⟨pos + n, by omega, by go_num, f3, hst.2⟩
          case measure => simp [intOf]; omega
         | false =>
          rw [hl, Bool.false_or, hm.out] at HR HB
          by_cases h0p : pos = 0
          ·have hpz : ((pos : Int) == 0) = true := by rw [beq_iff_eq]; omega
           have hB := Lib.hid (HB.out (by rw [h0p]; rfl))
           clear h0p HR HB
           go_wp2
           go_ret
           exact ⟨by rw [hB.out]; rfl, e1.trans f3⟩
          ·have hpz : ((pos : Int) == 0) = false := by rw [beq_eq_false_iff_ne]; omega
           have hpz' : (pos == 0) = false := by rw [beq_eq_false_iff_ne]; exact h0p
           rw [hpz'] at HR HB
           clear hpz' h0p
           have hB := Lib.hid (HB.out rfl)
           clear HB HR
           go_wp2
           go_ret
           exact ⟨by rw [hB.out]; rfl, e1.trans f3⟩
       ·have hn1 : ((n : Int) == 1) = false := by rw [beq_eq_false_iff_ne]; omega
        have hm : Hid (markB r = false) := by show _ = _; rw [hmk'.out, hdb, show (n == 1) = false by rw [beq_eq_false_iff_ne]; exact h1]; rfl
        clear hd hdb hmk' h1
        go_wp2_with fail
        refine CL.mono ?_; rintro e w2 ⟨rfl, h2⟩
        clear CL
        go_wp2_with fail
        refine (hlet w2 hXs).mono ?_; rintro e w3 ⟨rfl, h3⟩
        have f3 := hbw.trans (h2.trans h3)
        clear hlet
        cases hl : letterB r with
        | true =>
         rw [hl, Bool.true_or] at HR
         have hst := HR.out rfl
         clear HB
         go_wp2
         go_roundw
         case rel => exact ⟨pos + n, by omega, by go_num, f3, hst.2⟩
         case measure => simp [intOf]; omega
        | false =>
         rw [hl, Bool.false_or, hm.out] at HR HB
         by_cases h0p : pos = 0
         ·have hpz : ((pos : Int) == 0) = true := by rw [beq_iff_eq]; omega
          have hB := Lib.hid (HB.out (by rw [h0p]; rfl))
          clear h0p HR HB
          go_wp2
          go_ret
          exact ⟨by rw [hB.out]; rfl, e1.trans f3⟩
         ·have hpz : ((pos : Int) == 0) = false := by rw [beq_eq_false_iff_ne]; omega
          have hpz' : (pos == 0) = false := by rw [beq_eq_false_iff_ne]; exact h0p
          rw [hpz'] at HR HB
          clear hpz' h0p
          have hB := Lib.hid (HB.out rfl)
          clear HB HR
          go_wp2
          go_ret
          exact ⟨by rw [hB.out]; rfl, e1.trans f3⟩
    ·go_wp2
     go_ret
     obtain rfl : pos = s.size := by omega
     refine ⟨?_, fr⟩
     have := HK.out
     rw [List.drop_eq_nil_iff.2 (by rw [← size_len]; omega)] at this
     unfold rightL
     rw [this, hne, decide_eq_true h16]
     rfl
  ·have hz : Hid (rightL s.data.toList = false) := by show _ = _; unfold rightL; rw [decide_eq_false h16, Bool.and_false]
   go_wp2
   go_ret
   exact ⟨by rw [hz.out]; rfl, e1⟩
end Go.Proofs.YtefjdmjkofaajaaGreatDoor
namespace Go.Dm
open Go Go.RowKit
theorem rightLab_long {L : List PairL} (h : ¬ L.length ≤ 8) : rightLab L = false := by
 rw [Bool.eq_false_iff, Ne, rightLab_iff]
 exact fun hh => h hh.1
theorem rightLab_at {l : List PairS} (h : rightLab (labL l) = true) {k : Nat} (hk : k < l.length) : (pairAt l k).1.size ≤ 32 ∧ (pairAt l k).2.size ≤ 32 := by
 have hm : pL (pairAt l k) ∈ labL l := List.mem_map_of_mem (pairAt_mem hk)
 have := rightLab_names h _ hm
 have h1 := right_len this.1
 have h2 := right_len this.2
 exact ⟨h1, h2⟩
end Go.Dm
namespace Go.Proofs.YtefjdmjkofaajaaGreatDoor
open Go.RowKit Go.Dm
theorem rright_fit (s : ByteArray) (w : World) (hs : s.size ≤ 140737488351232) :
  Calls Tryz.prog 75 #[.string s] w fun e w' => e = .returned (.bool (rightL s.data.toList)) ∧ Ext w w' := rright_w s w (by omega)
set_option maxHeartbeats 2000000 in
theorem mright_w (l : List PairS) (v : Value) (w : World) (hf : FitP l) (hx : Pairs w v l) :
  Calls Tryz.prog 93 #[v] w fun e w' => e = .returned (.bool (rightLab (labL l))) ∧ Ext w w' := by
 obtain ⟨q, cap, rfl, hcap, hcm⟩ := hx.shape
 by_cases h8 : l.length ≤ 8
 ·have hall : (∀ j, j < l.length → okLab (labL l) j = true) → rightLab (labL l) = true := fun h => rightLab_iff.2 ⟨by rw [labL_len]; exact h8, fun j hj => h j (by rw [labL_len] at hj; exact hj)⟩
  replace hall := Lib.hid hall
  go_enter Tryz.func93, Tryz.ntmps93
  go_wp2
  go_loopw [3] (fun i' wr => ∃ k : Nat, k ≤ l.length ∧ i' = .int .i64 k ∧ Ext w wr ∧ Hid (∀ j, j < k → okLab (labL l) j = true)) (fun i' _ => l.length - (intOf i').toNat)
  case atStart => exact ⟨0, by omega, rfl, Ext.refl _, fun j hj => by omega⟩
  case round =>
   obtain ⟨k, hk, rfl, hb, HN⟩ := hrel
   by_cases hlt : k < l.length
   ·obtain ⟨b, off, rfl, hbl, c0, c1⟩ := (hx.ext hb).at hlt
    have hfk := hf _ (pairAt_mem hlt)
    have hok : ∀ c1 c2 c3, rightL (pairAt l k).1.data.toList = c1 → rightL (pairAt l k).2.data.toList = c2 → (k == 0 || !leB (pairAt l k).1.data.toList (pairAt l (k-1)).1.data.toList) = c3 → okLab (labL l) k = (c1 && (c2 && c3)) := by
     intro c1 c2 c3 e1 e2 e3
     unfold okLab
     rw [labL_at l hlt, labL_at l (by omega : k - 1 < l.length), ← e1, ← e2, ← e3]
     rfl
    have hbad : okLab (labL l) k = false → rightLab (labL l) = false := fun h => rightLab_bad (by rw [labL_len]; exact hlt) h
    have hgood : okLab (labL l) k = true → ∀ j, j < k + 1 → okLab (labL l) j = true := fun h j hj => by
     rcases Nat.lt_succ_iff_lt_or_eq.1 hj with h' | rfl
     ·exact HN.out j h'
     ·exact h
    have C1 : ∀ c, rightL (pairAt l k).1.data.toList = c → Hid (∀ U, Ext wr U → Calls Tryz.prog 75 #[.string (pairAt l k).1] U fun e w' => e = .returned (.bool c) ∧ Ext U w') := by
     intro c h U hU
     rw [← h]
     exact rright_fit _ U hfk.1
    have C2 : ∀ c, rightL (pairAt l k).2.data.toList = c → Hid (∀ U, Ext wr U → Calls Tryz.prog 75 #[.string (pairAt l k).2] U fun e w' => e = .returned (.bool c) ∧ Ext U w') := by
     intro c h U hU
     rw [← h]
     exact rright_fit _ U hfk.2
    replace hok := Lib.hid hok
    replace hbad := Lib.hid hbad
    replace hgood := Lib.hid hgood
    cases h1 : rightL (pairAt l k).1.data.toList with
    | false =>
     replace C1 := C1 _ h1
     replace C2 := C2 _ rfl
     have hB := Lib.hid (hbad.out (hok.out _ _ _ h1 rfl rfl))
     clear h1
     go_wp2_with fail
     refine Dm.wp_region_grow (by kernel_rfl) (by kernel_rfl) ?_
     repeat (go_big_quiet_step (first
      | (go_at_call 75; with_reducible exact Calls.quietE (C1.out _ (ext_grow _ _)))
      | (go_at_call 75; with_reducible exact Calls.quietE (C2.out _ (ext_grow _ _)))))
     refine wpQuiet_nil ?_
     intro U hU
     have hU' := hb.trans hU
     go_wp2
     go_ret
     exact ⟨by rw [hB.out]; rfl, hU'⟩
    | true =>
     replace C1 := C1 _ h1
     cases h2 : rightL (pairAt l k).2.data.toList with
     | false =>
      replace C2 := C2 _ h2
      have hB := Lib.hid (hbad.out (hok.out _ _ _ h1 h2 rfl))
      clear h1 h2
      go_wp2_with fail
      refine Dm.wp_region_grow (by kernel_rfl) (by kernel_rfl) ?_
      repeat (go_big_quiet_step (first
       | (go_at_call 75; with_reducible exact Calls.quietE (C1.out _ (ext_grow _ _)))
       | (go_at_call 75; with_reducible exact Calls.quietE (C2.out _ (ext_grow _ _)))))
      refine wpQuiet_nil ?_
      intro U hU
      have hU' := hb.trans hU
      go_wp2
      go_ret
      exact ⟨by rw [hB.out]; rfl, hU'⟩
     | true =>
      replace C2 := C2 _ h2
      by_cases h0 : k = 0
      ·subst h0
       have hG := Lib.hid (hgood.out (hok.out _ _ true h1 h2 rfl))
       clear h1 h2 hok hbad hgood
       rw [Nat.zero_mul, Nat.add_zero] at c0 c1
       go_wp2_with fail
       refine Dm.wp_region_grow (by kernel_rfl) (by kernel_rfl) ?_
       repeat (go_big_quiet_step (first
        | (go_at_call 75; with_reducible exact Calls.quietE (C1.out _ (ext_grow _ _)))
        | (go_at_call 75; with_reducible exact Calls.quietE (C2.out _ (ext_grow _ _)))))
       refine wpQuiet_nil ?_
       intro U hU
       have hU' := hb.trans hU
       go_wp2
       go_roundw
       case rel => exact ⟨1, by omega, rfl, hU', hG⟩
       case measure => simp [intOf]; omega
      ·obtain ⟨j, rfl⟩ : ∃ j, k = j + 1 := ⟨k - 1, by omega⟩
       obtain ⟨d0, _⟩ := (hx.ext hb).cells (k := j) (by omega)
       have hj0 : decide ((0 : Int) < (j : Int) + 1) = true := decide_eq_true (by omega)
       have hle : ∀ c c', Op.bytesLess (pairAt l (j + 1)).1.toList (pairAt l j).1.toList = c → ((pairAt l (j + 1)).1.toList == (pairAt l j).1.toList) = c' → (j + 1 == 0 || !leB (pairAt l (j + 1)).1.data.toList (pairAt l (j + 1 - 1)).1.data.toList) = !(c || c') := by
        intro c c' e1 e2
        rw [ByteArray.toList_eq, ByteArray.toList_eq] at e1 e2
        rw [← e1, ← e2]
        rfl
       cases q1 : Op.bytesLess (pairAt l (j + 1)).1.toList (pairAt l j).1.toList with
       | true =>
        have hB := Lib.hid (hbad.out (hok.out _ _ _ h1 h2 (hle _ _ q1 rfl)))
        clear h1 h2 hok hbad hgood hle
        go_wp2_with fail
        refine Dm.wp_region_grow (by kernel_rfl) (by kernel_rfl) ?_
        repeat (go_big_quiet_step (first
         | (go_at_call 75; with_reducible exact Calls.quietE (C1.out _ (ext_grow _ _)))
         | (go_at_call 75; with_reducible exact Calls.quietE (C2.out _ (ext_grow _ _)))))
        refine wpQuiet_nil ?_
        intro U hU
        have hU' := hb.trans hU
        go_wp2
        go_ret
        exact ⟨by rw [hB.out]; rfl, hU'⟩
       | false =>
        cases q2 : ((pairAt l (j + 1)).1.toList == (pairAt l j).1.toList) with
        | true =>
         have hB := Lib.hid (hbad.out (hok.out _ _ _ h1 h2 (hle _ _ q1 q2)))
         clear h1 h2 hok hbad hgood hle
         go_wp2_with fail
         refine Dm.wp_region_grow (by kernel_rfl) (by kernel_rfl) ?_
         repeat (go_big_quiet_step (first
          | (go_at_call 75; with_reducible exact Calls.quietE (C1.out _ (ext_grow _ _)))
          | (go_at_call 75; with_reducible exact Calls.quietE (C2.out _ (ext_grow _ _)))))
         refine wpQuiet_nil ?_
         intro U hU
         have hU' := hb.trans hU
         go_wp2
         go_ret
         exact ⟨by rw [hB.out]; rfl, hU'⟩
        | false =>
         have hG := Lib.hid (hgood.out (hok.out _ _ _ h1 h2 (hle _ _ q1 q2)))
         clear h1 h2 hok hbad hgood hle
         go_wp2_with fail
         refine Dm.wp_region_grow (by kernel_rfl) (by kernel_rfl) ?_
         repeat (go_big_quiet_step (first
          | (go_at_call 75; with_reducible exact Calls.quietE (C1.out _ (ext_grow _ _)))
          | (go_at_call 75; with_reducible exact Calls.quietE (C2.out _ (ext_grow _ _)))))
         refine wpQuiet_nil ?_
         intro U hU
         have hU' := hb.trans hU
         go_wp2
         go_roundw
         case rel => exact ⟨j + 1 + 1, by omega, by go_num, hU', hG⟩
         case measure => simp [intOf]; omega
   ·obtain rfl : k = l.length := by omega
    have hz := Lib.hid (hall.out HN.out)
    go_wp2
    go_ret
    exact ⟨by rw [hz.out]; rfl, hb⟩
 ·have hz := Lib.hid (rightLab_long (L := labL l) (by rw [labL_len]; exact h8))
  go_enter Tryz.func93, Tryz.ntmps93
  go_wp2
  go_ret
  exact ⟨by rw [hz.out]; rfl, Ext.refl _⟩
end Go.Proofs.YtefjdmjkofaajaaGreatDoor
namespace Go.Dm
open Go Go.RowKit
def turnW (x : Int) (n : Nat) : Int := Go.bits .or .u32 (IntKind.u32.wrap (x * 2 ^ (32 - n))) (x / 2 ^ n)
theorem rot_and {n : Nat} (hn : 1 ≤ n ∧ n ≤ 31) : Go.bits .and .u64 (IntKind.u64.wrap (-(n : Int))) 31 = ((32 - n : Nat) : Int) := by
 have h : ∀ k : Fin 31, Go.bits .and .u64 (IntKind.u64.wrap (-((k.val + 1 : Nat) : Int))) 31 = ((32 - (k.val + 1) : Nat) : Int) := by decide +kernel
 have := h ⟨n - 1, by omega⟩
 simpa [Nat.sub_add_cancel hn.1] using this
theorem rot_sub {n : Nat} (hn : 1 ≤ n ∧ n ≤ 31) : IntKind.u64.wrap (32 - ((32 - n : Nat) : Int)) = (n : Int) := by rw [IntKind.wrap_u64]; omega
theorem or32_comm (x y : Int) : Go.bits .or .u32 x y = Go.bits .or .u32 y x := by
 unfold Go.bits
 simp only [BitVec.or_comm]
end Go.Dm
namespace Go.Proofs.YtefjdmjkofaajaaGreatDoor
open Go.RowKit Go.Dm
theorem rot32_w (x : Int) (n : Nat) (hn : 1 ≤ n ∧ n ≤ 31) (w : World) :
  Calls Tryz.prog 160 #[.int .u32 x, .int .i64 (-(n : Int))] w fun e w' => e = .returned (.int .u32 (turnW x n)) ∧ Ext w w' := by
 have h1 := rot_and hn
 have h2 := rot_sub hn
 have h3 : (((32 - n : Nat) : Int)).toNat = 32 - n := by omega
 unfold turnW
 go_enter Tryz.func160, Tryz.ntmps160
 go_wp2
 go_ret
 exact ⟨rfl, Ext.refl _⟩
theorem turn_w (x : Int) (n : Nat) (hn : 1 ≤ n ∧ n ≤ 31) (w : World) :
  Calls Tryz.prog 136 #[.int .u32 x, .int .i64 (n : Nat)] w fun e w' => e = .returned (.int .u32 (turnW x n)) ∧ Ext w w' := by
 go_enter Tryz.func136, Tryz.ntmps136
 go_wp2_with fail
 refine (rot32_w x n hn _).mono ?_; rintro e w1 ⟨rfl, h1⟩
 go_wp2
 go_ret
 exact ⟨rfl, h1⟩
end Go.Proofs.YtefjdmjkofaajaaGreatDoor
