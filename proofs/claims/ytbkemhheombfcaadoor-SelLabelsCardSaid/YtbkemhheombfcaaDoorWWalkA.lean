/- Chapter 2: the walks of the program's spans, runes and names. -/
import Derived.Test.YtbkemhheombfcaaDoorWPure
import Derived.Test.YtbkemhheombfcaaDoorSlices
import Derived.Test.YtbkemhheombfcaaDoorShelf
import Derived.Test.YtbkemhheombfcaaDoorFirst
import Derived.Lib.OthersKept
namespace Go.Dm
open Go Go.RowKit

abbrev Span := Int × Int
def spanAt (l : List Span) (k : Nat) : Span := l.getD k (0, 0)
def spanCells (l : List Span) : List Value := l.flatMap fun x => [.int .i32 x.1, .int .i32 x.2]
def inSpan (r : Int) (x : Span) : Bool := decide (x.1 ≤ r) && decide (r ≤ x.2)

theorem spanCells_at : ∀ (xs : List Span) (k : Nat), k < xs.length → (spanCells xs)[k*2]? = some (.int .i32 (spanAt xs k).1) ∧ (spanCells xs)[k*2+1]? = some (.int .i32 (spanAt xs k).2)
  | x :: xs, 0, _ => by simp [spanCells, spanAt]
  | x :: xs, k+1, h => by
    have := spanCells_at xs k (by simpa using h)
    have e : (k+1)*2 = k*2+1+1 := by omega
    have e2 : (k+1)*2+1 = k*2+1+1+1 := by omega
    simp only [e, spanCells, spanAt, List.flatMap_cons, List.cons_append, List.nil_append, List.getElem?_cons_succ, List.getD_cons_succ]
    exact this

def Spans (w : World) (v : Value) (l : List Span) : Prop := Sl w 2 v l.length (spanCells l)
theorem Spans.ext {w w' : World} {v l} (h : Spans w v l) (hb : Ext w w') : Spans w' v l := Sl.ext h hb
theorem Spans.shape {w : World} {v l} (h : Spans w v l) : ∃ p cap, v = .slice p l.length cap ∧ l.length ≤ cap ∧ cap ≤ maxLen := by
  obtain ⟨p, cap, h1, h2, h3, _⟩ := Sl.shape h
  exact ⟨p, cap, h1, h2, h3⟩
theorem Spans.at {w : World} {xs : List Span} {p cap} (h : Spans w (.slice p xs.length cap) xs) {k : Nat} (hk : k < xs.length) :
    ∃ b off, p = some ⟨b, off, none⟩ ∧ b < w.heap.size ∧ w.cell? ⟨b, off + k*2, none⟩ = some (.int .i32 (spanAt xs k).1) ∧ w.cell? ⟨b, off + k*2 + 1, none⟩ = some (.int .i32 (spanAt xs k).2) := by
  obtain ⟨b, off, hp, hb, h⟩ := Sl.at h (by omega)
  have := spanCells_at xs k hk
  exact ⟨b, off, hp, hb, h _ _ this.1, by have := h _ _ this.2; rw [show off + (k*2+1) = off + k*2+1 by omega] at this; exact this⟩

end Go.Dm
namespace Go.Proofs.YtbkemhheombfcaaDoor
open Go.RowKit Go.Dm

set_option maxHeartbeats 400000 in
theorem among1_w (r a b : Int) (c o : Nat) (w : World) (hcl : c < w.heap.size) (hc : w.cell? ⟨c, o, none⟩ = some (.int .i32 r)) :
    Calls Tryd.prog 86 #[.agg #[.int .i32 a, .int .i32 b], .pointer (some ⟨c, o, none⟩)] w fun e w' => e = .returned (.bool (inSpan r (a, b))) ∧ Ext w w' := by
  go_enter Tryd.func86, Tryd.ntmps86
  go_wp2
  all_goals go_ret
  all_goals exact ⟨by first | (simp_all [inSpan]; done) | (simp_all [inSpan]; omega), (Below.refl _ _).alloc (Nat.le_refl _) _⟩

set_option maxHeartbeats 400000 in
theorem indexSpan_w (l : List Span) (r : Int) (q : Option Addr) (cap : Nat) (c o : Nat) (w : World) (hm : l.length ≤ 35184372088832)
    (hx : Spans w (.slice q l.length cap) l) (hcl : c < w.heap.size) (hc : w.cell? ⟨c, o, none⟩ = some (.int .i32 r)) :
    Calls Tryd.prog 105 #[.slice q l.length cap, .func (.func 86) #[] #[.pointer (some ⟨c, o, none⟩)]] w
      fun e w' => e = .returned (.int .i64 (placeI (firstP (inSpan r) l))) ∧ Ext w w' := by
  go_enter Tryd.func105, Tryd.ntmps105
  go_wp2
  go_loopw [4, 8] (fun z i wr => ∃ k : Nat, k ≤ l.length ∧ i = .int .i64 k ∧ z = .int .i64 0 ∧ Ext w wr ∧ Hid (∀ j, j < k → inSpan r (spanAt l j) = false)) (fun _ i _ => l.length - (intOf i).toNat)
  case atStart => exact ⟨0, by omega, rfl, rfl, Ext.refl w, fun j hj => by omega⟩
  case round =>
    obtain ⟨k, hk, rfl, rfl, hb, HN⟩ := hrel
    by_cases hlt : k < l.length
    · obtain ⟨b, off, rfl, hbl, c0, c1⟩ := (hx.ext hb).at hlt
      have hcl' : c < wr.heap.size := Nat.lt_of_lt_of_le hcl hb.size
      have hc' : wr.cell? ⟨c, o, none⟩ = some (.int .i32 r) := by rw [hb.cell (by exact hcl)]; exact hc
      go_wp2_with fail
      refine (among1_w r _ _ _ _ _ hcl' hc').mono ?_; rintro e w' ⟨rfl, hb1⟩
      cases ht : inSpan r (spanAt l k) with
      | true =>
        go_wp2
        go_ret
        refine ⟨?_, hb.trans hb1⟩
        rw [firstP_hit (0, 0) hlt HN.out ht]
        rfl
      | false =>
        go_wp2
        go_roundw
        case rel => exact ⟨k + 1, by omega, by go_num, rfl, hb.trans hb1, fun j hj => by
          rcases Nat.lt_succ_iff_lt_or_eq.1 hj with h | rfl
          · exact HN.out j h
          · exact ht⟩
        case measure => simp [intOf]; omega
    · go_wp2
      go_ret
      obtain rfl : k = l.length := by omega
      refine ⟨?_, hb⟩
      rw [firstP_miss (0, 0) HN.out]
      rfl

set_option maxHeartbeats 400000 in
theorem among_w (l : List Span) (r : Int) (v : Value) (w : World) (hm : l.length ≤ 35184372088832) (hx : Spans w v l) :
    Calls Tryd.prog 53 #[.int .i32 r, v] w fun e w' => e = .returned (.bool (l.any (inSpan r))) ∧ Ext w w' := by
  obtain ⟨q, cap, rfl, _, _⟩ := hx.shape
  have fin : Ext w (w.alloc (.cells #[.int .i32 r] 21)) := (Below.refl _ _).alloc (Nat.le_refl _) _
  have hx' := hx.ext fin
  have hA := firstP_any (inSpan r) l
  go_enter Tryd.func53, Tryd.ntmps53
  cases ha : l.any (inSpan r) with
  | true =>
    have h0 := hA.2 ha
    go_wp2_with (first | (go_at_call 105; refine (indexSpan_w l r q cap w.heap.size 0 _ hm hx' (by simp) (by simp)).mono ?_; rintro e w' ⟨rfl, hb1⟩) | go_in)
    go_ret
    exact ⟨rfl, fin.trans hb1⟩
  | false =>
    have h0 : ¬ (0 : Int) ≤ placeI (firstP (inSpan r) l) := fun h => by rw [hA.1 h] at ha; cases ha
    go_wp2_with (first | (go_at_call 105; refine (indexSpan_w l r q cap w.heap.size 0 _ hm hx' (by simp) (by simp)).mono ?_; rintro e w' ⟨rfl, hb1⟩) | go_in)
    go_ret
    exact ⟨rfl, fin.trans hb1⟩

/-- The package's tables lie as its text lays them. -/
def letters : List Span := [(97, 122), (945, 969), (1072, 1103)]
def marks : List Span := [(48, 57), (45, 45)]
structure Tabs (w : World) : Prop where
  letters : Spans w (.slice (some ⟨0, 0, none⟩) 3 3) letters
  marks : Spans w (.slice (some ⟨1, 0, none⟩) 2 2) marks

theorem Tabs.ext {w w' : World} (h : Tabs w) (hb : Ext w w') : Tabs w' := ⟨h.letters.ext hb, h.marks.ext hb⟩

theorem letters_any (r : Nat) : letters.any (inSpan r) = letterB r := by
  simp only [letters, List.any_cons, List.any_nil, inSpan, letterB, Bool.or_false, Bool.or_assoc]
  congr 1
  · congr 1 <;> exact decide_eq_decide.2 (by omega)
  · congr 1 <;> congr 1 <;> exact decide_eq_decide.2 (by omega)

theorem marks_any (r : Nat) : marks.any (inSpan r) = markB r := by
  simp only [marks, List.any_cons, List.any_nil, inSpan, markB, Bool.or_false]
  by_cases h : r = 45
  · subst h; decide
  · have : (r == 45) = false := by rw [beq_eq_false_iff_ne]; exact h
    rw [this, Bool.or_false]
    have : (decide ((45 : Int) ≤ r) && decide ((r : Int) ≤ 45)) = false := by
      rw [Bool.and_eq_false_iff, decide_eq_false_iff_not, decide_eq_false_iff_not]; omega
    rw [this, Bool.or_false]
    congr 1 <;> exact decide_eq_decide.2 (by omega)

set_option maxHeartbeats 400000 in
theorem count_w (s : ByteArray) (w : World) (hs : s.size < 9223372036854775807) :
    Calls Tryd.prog 54 #[.string s] w fun e w' => e = .returned (.int .i64 (countL s.data.toList)) ∧ Ext w w' := by
  go_enter Tryd.func54, Tryd.ntmps54
  go_wp2_with fail
  refine (Tryd.utf8_RuneCountInString s w hs).mono ?_; rintro e w' ⟨rfl, pos, rfl⟩
  rw [runeCount_eq]
  go_wp2
  go_ret
  exact ⟨rfl, (Ext.refl w).alloc _⟩

theorem iter_ext {w w' : World} {k p : Nat} {s : ByteArray} (h : Ext w w') (hit : w.heap[k]? = some (.stringIter s p)) : w'.heap[k]? = some (.stringIter s p) := by
  have hlt : k < w.heap.size := (Array.getElem?_eq_some_iff.1 hit).1
  rw [h.block _ hlt]; exact hit

theorem iterPos_of {w : World} {k p : Nat} {s : ByteArray} (hit : w.heap[k]? = some (.stringIter s p)) : w.iterPos k = p := by simp [World.iterPos, hit]

/-- A round of the loop over a name's runes. -/
theorem right_round {s : ByteArray} {pos : Nat} (hp : pos < s.size) (HK : okL true s.data.toList = okL (pos == 0) (s.data.toList.drop pos))
    (hr : (letterB (runeL (s.data.toList.drop pos)) || (!(pos == 0) && markB (runeL (s.data.toList.drop pos)))) = true) :
    pos + wideL (s.data.toList.drop pos) ≤ s.size ∧ okL true s.data.toList = okL (pos + wideL (s.data.toList.drop pos) == 0) (s.data.toList.drop (pos + wideL (s.data.toList.drop pos))) := by
  have hne : s.data.toList.drop pos ≠ [] := by rw [Ne, List.drop_eq_nil_iff, ← size_len]; omega
  have h1 := wideL_le hne
  have h2 := wideL_pos (s.data.toList.drop pos)
  rw [List.length_drop, ← size_len] at h1
  refine ⟨by omega, ?_⟩
  have h3 : (pos + wideL (s.data.toList.drop pos) == 0) = false := by rw [beq_eq_false_iff_ne]; omega
  rw [HK, okL_step _ hne, hr, h3, List.drop_drop, Bool.true_and]

theorem right_bad {s : ByteArray} {pos : Nat} (hp : pos < s.size) (HK : okL true s.data.toList = okL (pos == 0) (s.data.toList.drop pos))
    (hr : (letterB (runeL (s.data.toList.drop pos)) || (!(pos == 0) && markB (runeL (s.data.toList.drop pos)))) = false) : rightL s.data.toList = false := by
  have hne : s.data.toList.drop pos ≠ [] := by rw [Ne, List.drop_eq_nil_iff, ← size_len]; omega
  unfold rightL
  rw [HK, okL_step _ hne, hr]
  rfl

set_option maxHeartbeats 2000000 in
theorem right_w (s : ByteArray) (w : World) (hs : s.size < 9223372036854775807) (ht : Tabs w) :
    Calls Tryd.prog 19 #[.string s] w fun e w' => e = .returned (.bool (rightL s.data.toList)) ∧ Ext w w' := by
  go_enter Tryd.func19, Tryd.ntmps19
  go_wp2
  go_loopw [2] (fun _ wr => ∃ pos : Nat, Ext w wr ∧ wr.heap[w.heap.size]? = some (.stringIter s pos) ∧ pos ≤ s.size ∧ Hid (okL true s.data.toList = okL (pos == 0) (s.data.toList.drop pos))) (fun _ wr => s.size - wr.iterPos w.heap.size)
  case atStart => exact ⟨0, (Ext.refl w).alloc _, by simp [World.iter_heap], by omega, rfl⟩
  case round =>
    obtain ⟨pos, hb, hit, hps, HK⟩ := hrel
    by_cases hp : pos < s.size
    · have hnx : ∀ ty, (Instr.next (.pointer (some ⟨w.heap.size, 0, none⟩)) true ty).run Tryd.prog wr = _ := fun ty => Lib.run_next_any_at wr w.heap.size s pos ty hit hp
      have e1 : (Utf8.decode s pos).1 = runeL (s.data.toList.drop pos) := by rw [decode_eq]; rfl
      have e2 : (Utf8.decode s pos).2 = wideL (s.data.toList.drop pos) := by rw [decode_eq]; rfl
      rw [e1, e2] at hnx
      clear e1 e2
      have hb1 : Ext w (wr.iterAt w.heap.size s (pos + wideL (s.data.toList.drop pos))) := Lib.below_iterAt hb (Nat.le_refl _) s _
      have hit1 := Lib.iterAt_heap wr w.heap.size s pos (pos + wideL (s.data.toList.drop pos)) hit
      have HR := Lib.hid (right_round hp HK.out)
      have HB := Lib.hid (right_bad hp HK.out)
      have hw1 := wideL_pos (s.data.toList.drop pos)
      generalize runeL (s.data.toList.drop pos) = r at *
      generalize wideL (s.data.toList.drop pos) = n at *
      have CL := among_w letters r _ _ (by decide) (ht.letters.ext hb1)
      rw [letters_any] at CL
      have CM : ∀ U, Ext w U → _ := fun U hU => among_w marks r _ U (by decide) (ht.marks.ext hU)
      simp only [marks_any] at CM
      have CM := Lib.hid CM
      go_wp2_with fail
      refine CL.mono ?_; rintro e w1 ⟨rfl, hb2⟩
      have hit2 := iter_ext hb2 hit1
      cases hl : letterB r with
      | true =>
        rw [hl] at HR
        obtain ⟨h1, h2⟩ := HR.out (by simp)
        go_wp2
        go_roundw
        case rel => exact ⟨pos + n, hb1.trans hb2, hit2, h1, h2⟩
        case measure => rw [iterPos_of hit2, iterPos_of hit]; omega
      | false =>
        rw [hl] at HR HB
        by_cases h0 : pos = 0
        · subst h0
          have hB := HB.out (by simp)
          go_wp2
          go_ret
          exact ⟨by rw [hB]; rfl, hb1.trans hb2⟩
        · have h0b : (pos == 0) = false := by rw [beq_eq_false_iff_ne]; exact h0
          have h0c : ((pos : Int) == 0) = false := by rw [beq_eq_false_iff_ne]; omega
          rw [h0b] at HR HB
          go_wp2_with fail
          refine (CM.out w1 (hb1.trans hb2)).mono ?_; rintro e w2 ⟨rfl, hb3⟩
          have hit3 := iter_ext hb3 hit2
          cases hk : markB r with
          | true =>
            rw [hk] at HR
            obtain ⟨h1, h2⟩ := HR.out (by simp)
            go_wp2
            go_roundw
            case rel => exact ⟨pos + n, hb1.trans (hb2.trans hb3), hit3, h1, h2⟩
            case measure => rw [iterPos_of hit3, iterPos_of hit]; omega
          | false =>
            rw [hk] at HB
            have hB := HB.out (by simp)
            go_wp2
            go_ret
            exact ⟨by rw [hB]; rfl, hb1.trans (hb2.trans hb3)⟩
    · have hnx : ∀ ty, (Instr.next (.pointer (some ⟨w.heap.size, 0, none⟩)) true ty).run Tryd.prog wr = _ := fun ty => Lib.run_next_end_at wr w.heap.size s pos ty hit hp
      have hK : okL true s.data.toList = true := by
        rw [HK.out, List.drop_eq_nil_iff.2 (by rw [← size_len]; omega)]; rfl
      by_cases he : s = ⟨#[]⟩
      · subst he
        go_wp2
        go_ret
        exact ⟨rfl, hb⟩
      · have hne2 : s.data.toList.isEmpty = false := by
          rw [List.isEmpty_eq_false_iff]
          intro h
          apply he
          cases s
          simp at h
          rw [h]
        have hne : ¬ s.toList = [] := by
          rw [ByteArray.toList_eq]
          intro h
          rw [h] at hne2
          cases hne2
        go_wp2_with fail
        refine (count_w s wr hs).mono ?_; rintro e w2 ⟨rfl, hb3⟩
        have hd : decide ((countL s.data.toList : Int) ≤ 16) = decide (countL s.data.toList ≤ 16) := decide_eq_decide.2 (by omega)
        go_wp2
        go_ret
        refine ⟨?_, hb.trans hb3⟩
        show Ending.returned (Value.bool (!s.toList.isEmpty && decide (countL s.data.toList ≤ 16))) = _
        rw [ByteArray.toList_eq, rightL, hK]
        rfl

end Go.Proofs.YtbkemhheombfcaaDoor
