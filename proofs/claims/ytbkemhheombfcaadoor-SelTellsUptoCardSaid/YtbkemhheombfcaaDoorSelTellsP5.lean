/- Texts one behind the other: Chapter 2: the walks of the program's spans, runes and names; Chapter 4: the walk of the program's Right; Chapter 4: the walks of the program's Find, Put, Text; Chapter 4: the walks of the program's Put and Text; What the walks know of the package-level variables; Chapter 4: the walk of the program's Parse; Chapter 5 in plain terms: terms, selectors. No program in sight. -/
import Derived.Test.YtbkemhheombfcaaDoorWPure
import Derived.Test.YtbkemhheombfcaaDoorSelTellsP2
import Derived.Test.YtbkemhheombfcaaDoorShelf
import Derived.Test.YtbkemhheombfcaaDoorSelTellsP3
import Derived.Lib.OthersKept
import Derived.Test.YtbkemhheombfcaaDoorSelTellsP8
import Derived.Test.YtbkemhheombfcaaDoorSelTellsP10
import Derived.Test.YtbkemhheombfcaaDoorSelTellsP4
import Derived.Laws.StructEq
namespace Go.Dm
open Go Go.RowKit

abbrev Span := Int × Int
def spanAt (l : List Span) (k : Nat) : Span := l.getD k (0, 0)
def spanCells (l : List Span) : List Value := l.flatMap fun x => [.int .i32 x.1, .int .i32 x.2]
def inSpan (r : Int) (x : Span) : Bool := decide (x.1 ≤ r) && decide (r ≤ x.2)

theorem spanCells_at : ∀ (xs : List Span) (k : Nat), k < xs.length → (spanCells xs)[k*2]? = some (.int .i32 (spanAt xs k).1) ∧ (spanCells xs)[k*2+1]? = some (.int .i32 (spanAt xs k).2)
  | x :: xs, 0, _ => by simp [spanCells, spanAt]
  | x :: xs, k+1, h => by
    have := spanCells_at xs k (by simpa using h)
    have e : (k+1)*2 = k*2+1+1 := by omega
    have e2 : (k+1)*2+1 = k*2+1+1+1 := by omega
    simp only [e, spanCells, spanAt, List.flatMap_cons, List.cons_append, List.nil_append, List.getElem?_cons_succ, List.getD_cons_succ]
    exact this

def Spans (w : World) (v : Value) (l : List Span) : Prop := Sl w 2 v l.length (spanCells l)
theorem Spans.ext {w w' : World} {v l} (h : Spans w v l) (hb : Ext w w') : Spans w' v l := Sl.ext h hb
theorem Spans.shape {w : World} {v l} (h : Spans w v l) : ∃ p cap, v = .slice p l.length cap ∧ l.length ≤ cap ∧ cap ≤ maxLen := by
  obtain ⟨p, cap, h1, h2, h3, _⟩ := Sl.shape h
  exact ⟨p, cap, h1, h2, h3⟩
theorem Spans.at {w : World} {xs : List Span} {p cap} (h : Spans w (.slice p xs.length cap) xs) {k : Nat} (hk : k < xs.length) :
    ∃ b off, p = some ⟨b, off, none⟩ ∧ b < w.heap.size ∧ w.cell? ⟨b, off + k*2, none⟩ = some (.int .i32 (spanAt xs k).1) ∧ w.cell? ⟨b, off + k*2 + 1, none⟩ = some (.int .i32 (spanAt xs k).2) := by
  obtain ⟨b, off, hp, hb, h⟩ := Sl.at h (by omega)
  have := spanCells_at xs k hk
  exact ⟨b, off, hp, hb, h _ _ this.1, by have := h _ _ this.2; rw [show off + (k*2+1) = off + k*2+1 by omega] at this; exact this⟩

end Go.Dm
namespace Go.Proofs.YtbkemhheombfcaaDoor
open Go.RowKit Go.Dm

set_option maxHeartbeats 400000 in
theorem among1_w (r a b : Int) (c o : Nat) (w : World) (hcl : c < w.heap.size) (hc : w.cell? ⟨c, o, none⟩ = some (.int .i32 r)) :
    Calls Tryd.prog 86 #[.agg #[.int .i32 a, .int .i32 b], .pointer (some ⟨c, o, none⟩)] w fun e w' => e = .returned (.bool (inSpan r (a, b))) ∧ Ext w w' := by
  go_enter Tryd.func86, Tryd.ntmps86
  go_wp2
  all_goals go_ret
  all_goals exact ⟨by first | (simp_all [inSpan]; done) | (simp_all [inSpan]; omega), (Below.refl _ _).alloc (Nat.le_refl _) _⟩

set_option maxHeartbeats 400000 in
theorem indexSpan_w (l : List Span) (r : Int) (q : Option Addr) (cap : Nat) (c o : Nat) (w : World) (hm : l.length ≤ 35184372088832)
    (hx : Spans w (.slice q l.length cap) l) (hcl : c < w.heap.size) (hc : w.cell? ⟨c, o, none⟩ = some (.int .i32 r)) :
    Calls Tryd.prog 105 #[.slice q l.length cap, .func (.func 86) #[] #[.pointer (some ⟨c, o, none⟩)]] w
      fun e w' => e = .returned (.int .i64 (placeI (firstP (inSpan r) l))) ∧ Ext w w' := by
  go_enter Tryd.func105, Tryd.ntmps105
  go_wp2
  go_loopw [4, 8] (fun z i wr => ∃ k : Nat, k ≤ l.length ∧ i = .int .i64 k ∧ z = .int .i64 0 ∧ Ext w wr ∧ Hid (∀ j, j < k → inSpan r (spanAt l j) = false)) (fun _ i _ => l.length - (intOf i).toNat)
  case atStart => exact ⟨0, by omega, rfl, rfl, Ext.refl w, fun j hj => by omega⟩
  case round =>
    obtain ⟨k, hk, rfl, rfl, hb, HN⟩ := hrel
    by_cases hlt : k < l.length
    · obtain ⟨b, off, rfl, hbl, c0, c1⟩ := (hx.ext hb).at hlt
      have hcl' : c < wr.heap.size := Nat.lt_of_lt_of_le hcl hb.size
      have hc' : wr.cell? ⟨c, o, none⟩ = some (.int .i32 r) := by rw [hb.cell (by exact hcl)]; exact hc
      go_wp2_with fail
      refine (among1_w r _ _ _ _ _ hcl' hc').mono ?_; rintro e w' ⟨rfl, hb1⟩
      cases ht : inSpan r (spanAt l k) with
      | true =>
        go_wp2
        go_ret
        refine ⟨?_, hb.trans hb1⟩
        rw [firstP_hit (0, 0) hlt HN.out ht]
        rfl
      | false =>
        go_wp2
        go_roundw
        case rel => exact ⟨k + 1, by omega, by go_num, rfl, hb.trans hb1, fun j hj => by
          rcases Nat.lt_succ_iff_lt_or_eq.1 hj with h | rfl
          · exact HN.out j h
          · exact ht⟩
        case measure => simp [intOf]; omega
    · go_wp2
      go_ret
      obtain rfl : k = l.length := by omega
      refine ⟨?_, hb⟩
      rw [firstP_miss (0, 0) HN.out]
      rfl

set_option maxHeartbeats 400000 in
theorem among_w (l : List Span) (r : Int) (v : Value) (w : World) (hm : l.length ≤ 35184372088832) (hx : Spans w v l) :
    Calls Tryd.prog 53 #[.int .i32 r, v] w fun e w' => e = .returned (.bool (l.any (inSpan r))) ∧ Ext w w' := by
  obtain ⟨q, cap, rfl, _, _⟩ := hx.shape
  have fin : Ext w (w.alloc (.cells #[.int .i32 r] 21)) := (Below.refl _ _).alloc (Nat.le_refl _) _
  have hx' := hx.ext fin
  have hA := firstP_any (inSpan r) l
  go_enter Tryd.func53, Tryd.ntmps53
  cases ha : l.any (inSpan r) with
  | true =>
    have h0 := hA.2 ha
    go_wp2_with (first | (go_at_call 105; refine (indexSpan_w l r q cap w.heap.size 0 _ hm hx' (by simp) (by simp)).mono ?_; rintro e w' ⟨rfl, hb1⟩) | go_in)
    go_ret
    exact ⟨rfl, fin.trans hb1⟩
  | false =>
    have h0 : ¬ (0 : Int) ≤ placeI (firstP (inSpan r) l) := fun h => by rw [hA.1 h] at ha; cases ha
    go_wp2_with (first | (go_at_call 105; refine (indexSpan_w l r q cap w.heap.size 0 _ hm hx' (by simp) (by simp)).mono ?_; rintro e w' ⟨rfl, hb1⟩) | go_in)
    go_ret
    exact ⟨rfl, fin.trans hb1⟩

/-- The package's tables lie as its text lays them. -/
def letters : List Span := [(97, 122), (945, 969), (1072, 1103)]
def marks : List Span := [(48, 57), (45, 45)]
structure Tabs (w : World) : Prop where
  letters : Spans w (.slice (some ⟨0, 0, none⟩) 3 3) letters
  marks : Spans w (.slice (some ⟨1, 0, none⟩) 2 2) marks

theorem Tabs.ext {w w' : World} (h : Tabs w) (hb : Ext w w') : Tabs w' := ⟨h.letters.ext hb, h.marks.ext hb⟩

theorem letters_any (r : Nat) : letters.any (inSpan r) = letterB r := by
  simp only [letters, List.any_cons, List.any_nil, inSpan, letterB, Bool.or_false, Bool.or_assoc]
  congr 1
  · congr 1 <;> exact decide_eq_decide.2 (by omega)
  · congr 1 <;> congr 1 <;> exact decide_eq_decide.2 (by omega)

theorem marks_any (r : Nat) : marks.any (inSpan r) = markB r := by
  simp only [marks, List.any_cons, List.any_nil, inSpan, markB, Bool.or_false]
  by_cases h : r = 45
  · subst h; decide
  · have : (r == 45) = false := by rw [beq_eq_false_iff_ne]; exact h
    rw [this, Bool.or_false]
    have : (decide ((45 : Int) ≤ r) && decide ((r : Int) ≤ 45)) = false := by
      rw [Bool.and_eq_false_iff, decide_eq_false_iff_not, decide_eq_false_iff_not]; omega
    rw [this, Bool.or_false]
    congr 1 <;> exact decide_eq_decide.2 (by omega)

set_option maxHeartbeats 400000 in
theorem count_w (s : ByteArray) (w : World) (hs : s.size < 9223372036854775807) :
    Calls Tryd.prog 54 #[.string s] w fun e w' => e = .returned (.int .i64 (countL s.data.toList)) ∧ Ext w w' := by
  go_enter Tryd.func54, Tryd.ntmps54
  go_wp2_with fail
  refine (Tryd.utf8_RuneCountInString s w hs).mono ?_; rintro e w' ⟨rfl, pos, rfl⟩
  rw [runeCount_eq]
  go_wp2
  go_ret
  exact ⟨rfl, (Ext.refl w).alloc _⟩

theorem iter_ext {w w' : World} {k p : Nat} {s : ByteArray} (h : Ext w w') (hit : w.heap[k]? = some (.stringIter s p)) : w'.heap[k]? = some (.stringIter s p) := by
  have hlt : k < w.heap.size := (Array.getElem?_eq_some_iff.1 hit).1
  rw [h.block _ hlt]; exact hit

theorem iterPos_of {w : World} {k p : Nat} {s : ByteArray} (hit : w.heap[k]? = some (.stringIter s p)) : w.iterPos k = p := by simp [World.iterPos, hit]

/-- A round of the loop over a name's runes. -/
theorem right_round {s : ByteArray} {pos : Nat} (hp : pos < s.size) (HK : okL true s.data.toList = okL (pos == 0) (s.data.toList.drop pos))
    (hr : (letterB (runeL (s.data.toList.drop pos)) || (!(pos == 0) && markB (runeL (s.data.toList.drop pos)))) = true) :
    pos + wideL (s.data.toList.drop pos) ≤ s.size ∧ okL true s.data.toList = okL (pos + wideL (s.data.toList.drop pos) == 0) (s.data.toList.drop (pos + wideL (s.data.toList.drop pos))) := by
  have hne : s.data.toList.drop pos ≠ [] := by rw [Ne, List.drop_eq_nil_iff, ← size_len]; omega
  have h1 := wideL_le hne
  have h2 := wideL_pos (s.data.toList.drop pos)
  rw [List.length_drop, ← size_len] at h1
  refine ⟨by omega, ?_⟩
  have h3 : (pos + wideL (s.data.toList.drop pos) == 0) = false := by rw [beq_eq_false_iff_ne]; omega
  rw [HK, okL_step _ hne, hr, h3, List.drop_drop, Bool.true_and]

theorem right_bad {s : ByteArray} {pos : Nat} (hp : pos < s.size) (HK : okL true s.data.toList = okL (pos == 0) (s.data.toList.drop pos))
    (hr : (letterB (runeL (s.data.toList.drop pos)) || (!(pos == 0) && markB (runeL (s.data.toList.drop pos)))) = false) : rightL s.data.toList = false := by
  have hne : s.data.toList.drop pos ≠ [] := by rw [Ne, List.drop_eq_nil_iff, ← size_len]; omega
  unfold rightL
  rw [HK, okL_step _ hne, hr]
  rfl

set_option maxHeartbeats 2000000 in
theorem right_w (s : ByteArray) (w : World) (hs : s.size < 9223372036854775807) (ht : Tabs w) :
    Calls Tryd.prog 19 #[.string s] w fun e w' => e = .returned (.bool (rightL s.data.toList)) ∧ Ext w w' := by
  go_enter Tryd.func19, Tryd.ntmps19
  go_wp2
  go_loopw [2] (fun _ wr => ∃ pos : Nat, Ext w wr ∧ wr.heap[w.heap.size]? = some (.stringIter s pos) ∧ pos ≤ s.size ∧ Hid (okL true s.data.toList = okL (pos == 0) (s.data.toList.drop pos))) (fun _ wr => s.size - wr.iterPos w.heap.size)
  case atStart => exact ⟨0, (Ext.refl w).alloc _, by simp [World.iter_heap], by omega, rfl⟩
  case round =>
    obtain ⟨pos, hb, hit, hps, HK⟩ := hrel
    by_cases hp : pos < s.size
    · have hnx : ∀ ty, (Instr.next (.pointer (some ⟨w.heap.size, 0, none⟩)) true ty).run Tryd.prog wr = _ := fun ty => Lib.run_next_any_at wr w.heap.size s pos ty hit hp
      have e1 : (Utf8.decode s pos).1 = runeL (s.data.toList.drop pos) := by rw [decode_eq]; rfl
      have e2 : (Utf8.decode s pos).2 = wideL (s.data.toList.drop pos) := by rw [decode_eq]; rfl
      rw [e1, e2] at hnx
      clear e1 e2
      have hb1 : Ext w (wr.iterAt w.heap.size s (pos + wideL (s.data.toList.drop pos))) := Lib.below_iterAt hb (Nat.le_refl _) s _
      have hit1 := Lib.iterAt_heap wr w.heap.size s pos (pos + wideL (s.data.toList.drop pos)) hit
      have HR := Lib.hid (right_round hp HK.out)
      have HB := Lib.hid (right_bad hp HK.out)
      have hw1 := wideL_pos (s.data.toList.drop pos)
      generalize runeL (s.data.toList.drop pos) = r at *
      generalize wideL (s.data.toList.drop pos) = n at *
      have CL := among_w letters r _ _ (by decide) (ht.letters.ext hb1)
      rw [letters_any] at CL
      have CM : ∀ U, Ext w U → _ := fun U hU => among_w marks r _ U (by decide) (ht.marks.ext hU)
      simp only [marks_any] at CM
      have CM := Lib.hid CM
      go_wp2_with fail
      refine CL.mono ?_; rintro e w1 ⟨rfl, hb2⟩
      have hit2 := iter_ext hb2 hit1
      cases hl : letterB r with
      | true =>
        rw [hl] at HR
        obtain ⟨h1, h2⟩ := HR.out (by simp)
        go_wp2
        go_roundw
        case rel => exact ⟨pos + n, hb1.trans hb2, hit2, h1, h2⟩
        case measure => rw [iterPos_of hit2, iterPos_of hit]; omega
      | false =>
        rw [hl] at HR HB
        by_cases h0 : pos = 0
        · subst h0
          have hB := HB.out (by simp)
          go_wp2
          go_ret
          exact ⟨by rw [hB]; rfl, hb1.trans hb2⟩
        · have h0b : (pos == 0) = false := by rw [beq_eq_false_iff_ne]; exact h0
          have h0c : ((pos : Int) == 0) = false := by rw [beq_eq_false_iff_ne]; omega
          rw [h0b] at HR HB
          go_wp2_with fail
          refine (CM.out w1 (hb1.trans hb2)).mono ?_; rintro e w2 ⟨rfl, hb3⟩
          have hit3 := iter_ext hb3 hit2
          cases hk : markB r with
          | true =>
            rw [hk] at HR
            obtain ⟨h1, h2⟩ := HR.out (by simp)
            go_wp2
            go_roundw
            case rel => exact ⟨pos + n, hb1.trans (hb2.trans hb3), hit3, h1, h2⟩
            case measure => rw [iterPos_of hit3, iterPos_of hit]; omega
          | false =>
            rw [hk] at HB
            have hB := HB.out (by simp)
            go_wp2
            go_ret
            exact ⟨by rw [hB]; rfl, hb1.trans (hb2.trans hb3)⟩
    · have hnx : ∀ ty, (Instr.next (.pointer (some ⟨w.heap.size, 0, none⟩)) true ty).run Tryd.prog wr = _ := fun ty => Lib.run_next_end_at wr w.heap.size s pos ty hit hp
      have hK : okL true s.data.toList = true := by
        rw [HK.out, List.drop_eq_nil_iff.2 (by rw [← size_len]; omega)]; rfl
      by_cases he : s = ⟨#[]⟩
      · subst he
        go_wp2
        go_ret
        exact ⟨rfl, hb⟩
      · have hne2 : s.data.toList.isEmpty = false := by
          rw [List.isEmpty_eq_false_iff]
          intro h
          apply he
          cases s
          simp at h
          rw [h]
        have hne : ¬ s.toList = [] := by
          rw [ByteArray.toList_eq]
          intro h
          rw [h] at hne2
          cases hne2
        go_wp2_with fail
        refine (count_w s wr hs).mono ?_; rintro e w2 ⟨rfl, hb3⟩
        have hd : decide ((countL s.data.toList : Int) ≤ 16) = decide (countL s.data.toList ≤ 16) := decide_eq_decide.2 (by omega)
        go_wp2
        go_ret
        refine ⟨?_, hb.trans hb3⟩
        show Ending.returned (Value.bool (!s.toList.isEmpty && decide (countL s.data.toList ≤ 16))) = _
        rw [ByteArray.toList_eq, rightL, hK]
        rfl

end Go.Proofs.YtbkemhheombfcaaDoor

namespace Go.Proofs.YtbkemhheombfcaaDoor
open Go.RowKit Go.Dm

theorem right_fit (s : ByteArray) (w : World) (hs : s.size ≤ 140737488351232) (ht : Tabs w) :
    Calls Tryd.prog 19 #[.string s] w fun e w' => e = .returned (.bool (rightL s.data.toList)) ∧ Ext w w' := right_w s w (by omega) ht

set_option maxHeartbeats 2000000 in
theorem lright_w (l : List PairS) (v : Value) (w : World) (hm : l.length ≤ 35184372088832) (hf : FitP l) (hx : Pairs w v l) (ht : Tabs w) :
    Calls Tryd.prog 18 #[v] w fun e w' => e = .returned (.bool (rightLab (labL l))) ∧ Ext w w' := by
  obtain ⟨q, cap, rfl, hcap, hcm⟩ := hx.shape
  go_enter Tryd.func18, Tryd.ntmps18
  go_wp2
  go_loopw [7] (fun i' wr => ∃ k : Nat, k ≤ l.length ∧ i' = .int .i64 k ∧ Ext w wr ∧ Hid (∀ j, j < k → okLab (labL l) j = true)) (fun i' _ => l.length - (intOf i').toNat)
  case atStart => exact ⟨0, by omega, rfl, Ext.refl _, fun j hj => by omega⟩
  case round =>
    obtain ⟨k, hk, rfl, hb, HN⟩ := hrel
    by_cases hlt : k < l.length
    · obtain ⟨b, off, rfl, hbl, c0, c1⟩ := (hx.ext hb).at hlt
      have hfk := hf _ (pairAt_mem hlt)
      have hok : ∀ c1 c2 c3, rightL (pairAt l k).1.data.toList = c1 → rightL (pairAt l k).2.data.toList = c2 → (k == 0 || !leB (pairAt l k).1.data.toList (pairAt l (k-1)).1.data.toList) = c3 → okLab (labL l) k = (c1 && (c2 && c3)) := by
        intro c1 c2 c3 e1 e2 e3
        unfold okLab
        rw [labL_at l hlt, labL_at l (by omega : k - 1 < l.length), ← e1, ← e2, ← e3]
        rfl
      have hbad : okLab (labL l) k = false → rightLab (labL l) = false := fun h => rightLab_bad (by rw [labL_len]; exact hlt) h
      have hgood : okLab (labL l) k = true → ∀ j, j < k + 1 → okLab (labL l) j = true := fun h j hj => by
        rcases Nat.lt_succ_iff_lt_or_eq.1 hj with h' | rfl
        · exact HN.out j h'
        · exact h
      have hW : Ext w (wr.alloc (.cells #[.string (pairAt l k).1, .string (pairAt l k).2] 29)) := hb.trans ((Ext.refl _).alloc _)
      have C1 : ∀ c, rightL (pairAt l k).1.data.toList = c → Hid (∀ U, Ext (wr.alloc (.cells #[.string (pairAt l k).1, .string (pairAt l k).2] 29)) U → Calls Tryd.prog 19 #[.string (pairAt l k).1] U fun e w' => e = .returned (.bool c) ∧ Ext U w') := by
        intro c h U hU
        rw [← h]
        exact right_fit _ U hfk.1 (ht.ext (hW.trans hU))
      have C2 : ∀ c, rightL (pairAt l k).2.data.toList = c → Hid (∀ U, Ext (wr.alloc (.cells #[.string (pairAt l k).1, .string (pairAt l k).2] 29)) U → Calls Tryd.prog 19 #[.string (pairAt l k).2] U fun e w' => e = .returned (.bool c) ∧ Ext U w') := by
        intro c h U hU
        rw [← h]
        exact right_fit _ U hfk.2 (ht.ext (hW.trans hU))
      replace hok := Lib.hid hok
      replace hbad := Lib.hid hbad
      replace hgood := Lib.hid hgood
      cases h1 : rightL (pairAt l k).1.data.toList with
      | false =>
        replace C1 := C1 _ h1
        replace C2 := C2 _ rfl
        have hB := Lib.hid (hbad.out (hok.out _ _ _ h1 rfl rfl))
        clear h1
        go_wp2_with fail
        refine Dm.wp_region_grow (by kernel_rfl) (by kernel_rfl) ?_
        repeat (go_big_quiet_step (first
          | (go_at_call 19; with_reducible exact Calls.quietE (C1.out _ (ext_grow _ _)))
          | (go_at_call 19; with_reducible exact Calls.quietE (C2.out _ (ext_grow _ _)))))
        refine wpQuiet_nil ?_
        intro U hU
        have hU' := hW.trans hU
        go_wp2
        go_ret
        exact ⟨by rw [hB.out]; rfl, hU'⟩
      | true =>
        replace C1 := C1 _ h1
        cases h2 : rightL (pairAt l k).2.data.toList with
        | false =>
          replace C2 := C2 _ h2
          have hB := Lib.hid (hbad.out (hok.out _ _ _ h1 h2 rfl))
          clear h1 h2
          go_wp2_with fail
          refine Dm.wp_region_grow (by kernel_rfl) (by kernel_rfl) ?_
          repeat (go_big_quiet_step (first
            | (go_at_call 19; with_reducible exact Calls.quietE (C1.out _ (ext_grow _ _)))
            | (go_at_call 19; with_reducible exact Calls.quietE (C2.out _ (ext_grow _ _)))))
          refine wpQuiet_nil ?_
          intro U hU
          have hU' := hW.trans hU
          go_wp2
          go_ret
          exact ⟨by rw [hB.out]; rfl, hU'⟩
        | true =>
          replace C2 := C2 _ h2
          by_cases h0 : k = 0
          · subst h0
            have hG := Lib.hid (hgood.out (hok.out _ _ true h1 h2 rfl))
            clear h1 h2 hok hbad hgood
            rw [Nat.zero_mul, Nat.add_zero] at c0 c1
            go_wp2_with fail
            refine Dm.wp_region_grow (by kernel_rfl) (by kernel_rfl) ?_
            repeat (go_big_quiet_step (first
              | (go_at_call 19; with_reducible exact Calls.quietE (C1.out _ (ext_grow _ _)))
              | (go_at_call 19; with_reducible exact Calls.quietE (C2.out _ (ext_grow _ _)))))
            refine wpQuiet_nil ?_
            intro U hU
            have hU' := hW.trans hU
            go_wp2
            go_roundw
            case rel => exact ⟨1, by omega, rfl, hU', hG⟩
            case measure => simp [intOf]; omega
          · obtain ⟨j, rfl⟩ : ∃ j, k = j + 1 := ⟨k - 1, by omega⟩
            obtain ⟨d0, _⟩ := (hx.ext hb).cells (k := j) (by omega)
            have hle : ∀ c c', Op.bytesLess (pairAt l (j + 1)).1.toList (pairAt l j).1.toList = c → ((pairAt l (j + 1)).1.toList == (pairAt l j).1.toList) = c' → (j + 1 == 0 || !leB (pairAt l (j + 1)).1.data.toList (pairAt l (j + 1 - 1)).1.data.toList) = !(c || c') := by
              intro c c' e1 e2
              rw [ByteArray.toList_eq, ByteArray.toList_eq] at e1 e2
              rw [← e1, ← e2]
              rfl
            cases q1 : Op.bytesLess (pairAt l (j + 1)).1.toList (pairAt l j).1.toList with
            | true =>
              have hB := Lib.hid (hbad.out (hok.out _ _ _ h1 h2 (hle _ _ q1 rfl)))
              clear h1 h2 hok hbad hgood hle
              go_wp2_with fail
              refine Dm.wp_region_grow (by kernel_rfl) (by kernel_rfl) ?_
              repeat (go_big_quiet_step (first
                | (go_at_call 19; with_reducible exact Calls.quietE (C1.out _ (ext_grow _ _)))
                | (go_at_call 19; with_reducible exact Calls.quietE (C2.out _ (ext_grow _ _)))))
              refine wpQuiet_nil ?_
              intro U hU
              have hU' := hW.trans hU
              go_wp2
              go_ret
              exact ⟨by rw [hB.out]; rfl, hU'⟩
            | false =>
              cases q2 : ((pairAt l (j + 1)).1.toList == (pairAt l j).1.toList) with
              | true =>
                have hB := Lib.hid (hbad.out (hok.out _ _ _ h1 h2 (hle _ _ q1 q2)))
                clear h1 h2 hok hbad hgood hle
                go_wp2_with fail
                refine Dm.wp_region_grow (by kernel_rfl) (by kernel_rfl) ?_
                repeat (go_big_quiet_step (first
                  | (go_at_call 19; with_reducible exact Calls.quietE (C1.out _ (ext_grow _ _)))
                  | (go_at_call 19; with_reducible exact Calls.quietE (C2.out _ (ext_grow _ _)))))
                refine wpQuiet_nil ?_
                intro U hU
                have hU' := hW.trans hU
                go_wp2
                go_ret
                exact ⟨by rw [hB.out]; rfl, hU'⟩
              | false =>
                have hG := Lib.hid (hgood.out (hok.out _ _ _ h1 h2 (hle _ _ q1 q2)))
                clear h1 h2 hok hbad hgood hle
                go_wp2_with fail
                refine Dm.wp_region_grow (by kernel_rfl) (by kernel_rfl) ?_
                repeat (go_big_quiet_step (first
                  | (go_at_call 19; with_reducible exact Calls.quietE (C1.out _ (ext_grow _ _)))
                  | (go_at_call 19; with_reducible exact Calls.quietE (C2.out _ (ext_grow _ _)))))
                refine wpQuiet_nil ?_
                intro U hU
                have hU' := hW.trans hU
                go_wp2
                go_roundw
                case rel => exact ⟨j + 1 + 1, by omega, by go_num, hU', hG⟩
                case measure => simp [intOf]; omega
    · go_wp2
      go_ret
      obtain rfl : k = l.length := by omega
      have hA := rightLab_all (L := labL l) (fun j hj => HN.out j (by rw [labL_len] at hj; exact hj))
      rw [labL_len] at hA
      exact ⟨by rw [hA, show decide (l.length ≤ 8) = decide ((l.length : Int) ≤ 8) from decide_eq_decide.2 (by omega)]; rfl, hb⟩

end Go.Proofs.YtbkemhheombfcaaDoor

namespace Go.Dm
open Go Go.RowKit

def keyIs (key : ByteArray) (p : PairS) : Bool := p.1.toList == key.toList
/-- P4.1: the value of a key. -/
def findB (l : List PairS) (key : ByteArray) : ByteArray × Bool := match firstP (keyIs key) l with | some k => ((pairAt l k).2, true) | none => (⟨#[]⟩, false)

/-- P4.2: labels as bytes. -/
def putP (L : List PairL) : Bs := L.flatMap fun p => putT p.1 ++ putT p.2
def putLab (L : List PairL) : Bs := if rightLab L then putL L.length ++ putP L else []
/-- P4.2: labels as they are read. -/
def showP (p : PairL) : Bs := p.1 ++ 61 :: p.2
def textLab (L : List PairL) : Bs := if rightLab L then (if L = [] then [45] else Lib.join (L.map showP) [44]) else [63]

theorem putP_step {L : List PairL} {k : Nat} (hk : k < L.length) : putP (L.take (k + 1)) = putP (L.take k) ++ (putT (plAt L k).1 ++ putT (plAt L k).2) := by
  rw [List.take_succ_eq_append_getElem hk, putP, List.flatMap_append]
  simp [putP, plAt, hk]

theorem labL_app (a b : List PairS) : labL (a ++ b) = labL a ++ labL b := by simp [labL]
end Go.Dm
namespace Go.Proofs.YtbkemhheombfcaaDoor
open Go.RowKit Go.Dm

theorem Tryd.slPair : SlT Tryd.prog 24 29 2 32 := SlT.mk' Tryd.underlying24 (by kernel_rfl) (by decide) (by decide)

set_option maxHeartbeats 400000 in
theorem find1_w (key a b : ByteArray) (c o : Nat) (w : World) (hcl : c < w.heap.size) (hc : w.cell? ⟨c, o, none⟩ = some (.string key)) :
    Calls Tryd.prog 52 #[.agg #[.string a, .string b], .pointer (some ⟨c, o, none⟩)] w fun e w' => e = .returned (.bool (keyIs key (a, b))) ∧ Ext w w' := by
  go_enter Tryd.func52, Tryd.ntmps52
  go_wp2
  go_ret
  exact ⟨rfl, (Below.refl _ _).alloc (Nat.le_refl _) _⟩

set_option maxHeartbeats 400000 in
theorem indexKey_w (l : List PairS) (key : ByteArray) (q : Option Addr) (cap : Nat) (c o : Nat) (w : World) (hm : l.length ≤ 35184372088832)
    (hx : Pairs w (.slice q l.length cap) l) (hcl : c < w.heap.size) (hc : w.cell? ⟨c, o, none⟩ = some (.string key)) :
    Calls Tryd.prog 51 #[.slice q l.length cap, .func (.func 52) #[] #[.pointer (some ⟨c, o, none⟩)]] w
      fun e w' => e = .returned (.int .i64 (placeI (firstP (keyIs key) l))) ∧ Ext w w' := by
  go_enter Tryd.func51, Tryd.ntmps51
  go_wp2
  go_loopw [4, 8] (fun z i wr => ∃ k : Nat, k ≤ l.length ∧ i = .int .i64 k ∧ z = .int .i64 0 ∧ Ext w wr ∧ Hid (∀ j, j < k → keyIs key (pairAt l j) = false)) (fun _ i _ => l.length - (intOf i).toNat)
  case atStart => exact ⟨0, by omega, rfl, rfl, Ext.refl w, fun j hj => by omega⟩
  case round =>
    obtain ⟨k, hk, rfl, rfl, hb, HN⟩ := hrel
    by_cases hlt : k < l.length
    · obtain ⟨b, off, rfl, hbl, c0, c1⟩ := (hx.ext hb).at hlt
      have hcl' : c < wr.heap.size := Nat.lt_of_lt_of_le hcl hb.size
      have hc' : wr.cell? ⟨c, o, none⟩ = some (.string key) := by rw [hb.cell (by exact hcl)]; exact hc
      go_wp2_with fail
      refine (find1_w key _ _ _ _ _ hcl' hc').mono ?_; rintro e w' ⟨rfl, hb1⟩
      cases ht : keyIs key (pairAt l k) with
      | true =>
        go_wp2
        go_ret
        refine ⟨?_, hb.trans hb1⟩
        rw [firstP_hit noPair hlt HN.out ht]
        rfl
      | false =>
        go_wp2
        go_roundw
        case rel => exact ⟨k + 1, by omega, by go_num, rfl, hb.trans hb1, fun j hj => by
          rcases Nat.lt_succ_iff_lt_or_eq.1 hj with h | rfl
          · exact HN.out j h
          · exact ht⟩
        case measure => simp [intOf]; omega
    · go_wp2
      go_ret
      obtain rfl : k = l.length := by omega
      refine ⟨?_, hb⟩
      rw [firstP_miss noPair HN.out]
      rfl

set_option maxHeartbeats 400000 in
theorem find_w (l : List PairS) (key : ByteArray) (v : Value) (w : World) (hm : l.length ≤ 35184372088832) (hx : Pairs w v l) :
    Calls Tryd.prog 17 #[v, .string key] w fun e w' => e = .returned (.tuple #[.string (findB l key).1, .bool (findB l key).2]) ∧ Ext w w' := by
  obtain ⟨q, cap, rfl, _, _⟩ := hx.shape
  have fin : Ext w (w.alloc (.cells #[.string key] 9)) := (Below.refl _ _).alloc (Nat.le_refl _) _
  have hx' := hx.ext fin
  have C := indexKey_w l key q cap w.heap.size 0 _ hm hx' (by simp) (by simp)
  go_enter Tryd.func17, Tryd.ntmps17
  cases hf : firstP (keyIs key) l with
  | none =>
    have hz : Hid (findB l key = (⟨#[]⟩, false)) := by show _ = _; unfold findB; rw [hf]
    rw [hf] at C
    have h0 : placeI none < 0 := by decide
    clear hf
    go_wp2_with fail
    refine C.mono ?_; rintro e w1 ⟨rfl, h1⟩
    show _
    go_wp2
    go_ret2
    exact ⟨by rw [hz.out]; rfl, fin.trans h1⟩
  | some k =>
    obtain ⟨hk, _, _⟩ := firstP_some noPair hf
    have hz : Hid (findB l key = ((pairAt l k).2, true)) := by show _ = _; unfold findB; rw [hf]
    rw [hf] at C
    have C : Calls Tryd.prog 51 #[.slice q l.length cap, .func (.func 52) #[] #[.pointer (some ⟨w.heap.size, 0, none⟩)]] (w.alloc (.cells #[.string key] 9)) fun e w' => e = .returned (.int .i64 (k : Int)) ∧ Ext (w.alloc (.cells #[.string key] 9)) w' := C
    clear hf
    go_wp2_with fail
    refine C.mono ?_; rintro e w1 ⟨rfl, h1⟩
    obtain ⟨b, off, rfl, hbl, c0, c1⟩ := (hx'.ext h1).at hk
    go_wp2
    go_ret2
    exact ⟨by rw [hz.out]; rfl, fin.trans h1⟩

end Go.Proofs.YtbkemhheombfcaaDoor

namespace Go.Dm
open Go Go.RowKit
theorem putT_len (t : Bs) (h : t.length ≤ 140737488351232) : (putT t).length ≤ 140737488351242 := by
  have := putL_ten (u := t.length) (show t.length < _ by omega)
  unfold putT
  rw [List.length_append]; omega
def textB (t : ByteArray) : ByteArray := ⟨(putT t.data.toList).toArray⟩
theorem textB_size (t : ByteArray) (h : t.size ≤ 140737488351232) : (textB t).size ≤ 140737488351242 := by
  rw [size_len]
  exact putT_len _ (by rw [← size_len]; exact h)

/-- A label as it is read. -/
def showB (p : PairS) : ByteArray := (p.1 ++ ⟨#[61]⟩) ++ p.2
theorem showB_bytes (p : PairS) : (showB p).data.toList = showP (pL p) := by
  unfold showB
  rw [data_append, data_append, List.append_assoc]; rfl
theorem showB_all (l : List PairS) : (l.map showB).map (·.data.toList) = (labL l).map showP := by
  rw [List.map_map, labL, List.map_map]
  exact List.map_congr_left fun p _ => showB_bytes p
theorem take_snocP {l : List PairS} {k : Nat} (hk : k < l.length) : l.take (k + 1) = l.take k ++ [pairAt l k] := by
  rw [List.take_succ_eq_append_getElem hk]
  simp [hk, pairAt]

/-- A name has at most 32 bytes. -/
theorem okL_len : ∀ (n : Nat) (b : Bool) (l : Bs), l.length ≤ n → okL b l = true → l.length ≤ 2 * countL l := by
  intro n
  induction n with
  | zero => intro b l hl _; omega
  | succ n ih =>
    intro b l hl hok
    by_cases h : l = []
    · subst h; simp
    · rw [okL_step b h, Bool.and_eq_true] at hok
      have hw := wideL_pos l
      have h2 := ih false (l.drop (wideL l)) (by rw [List.length_drop]; omega) hok.2
      rw [List.length_drop] at h2
      have hle := wideL_le h
      have hw2 : wideL l ≤ 2 := by
        have hlm := (letterB_plain (r := runeL l) (by have := hok.1; cases b <;> simp_all)).2
        unfold wideL runeL decL at *
        repeat' split
        all_goals first
          | (simp only; omega)
          | skip
        all_goals simp_all
        all_goals omega
      rw [countL_step h]; omega
theorem right_len {l : Bs} (h : rightL l = true) : l.length ≤ 32 := by
  unfold rightL at h
  simp only [Bool.and_eq_true, decide_eq_true_eq] at h
  have := okL_len l.length true l (Nat.le_refl _) h.1.1
  omega
end Go.Dm
namespace Go.Proofs.YtbkemhheombfcaaDoor
open Go.RowKit Go.Dm

set_option maxHeartbeats 2000000 in
set_option maxRecDepth 100000 in
theorem lput_w (l : List PairS) (v : Value) (w : World) (hm : l.length ≤ 35184372088832) (hf : FitP l) (hx : Pairs w v l) (ht : Tabs w) :
    Calls Tryd.prog 20 #[v] w fun e w' => e = .returned (.string ⟨(putLab (labL l)).toArray⟩) ∧ Ext w w' := by
  obtain ⟨q, cap, rfl, hcap, hcm⟩ := hx.shape
  have C := lright_w l _ w hm hf hx ht
  cases hR : rightLab (labL l) with
  | false =>
    have hz : Hid (putLab (labL l) = []) := by show _ = _; unfold putLab; rw [hR]; rfl
    rw [hR] at C
    clear hR
    go_enter Tryd.func20, Tryd.ntmps20
    go_wp2_with fail
    refine C.mono ?_; rintro e w1 ⟨rfl, h1⟩
    go_wp2
    go_ret
    exact ⟨by rw [hz.out]; rfl, h1⟩
  | true =>
    have hz : Hid (putLab (labL l) = putL l.length ++ putP (labL l)) := by show _ = _; unfold putLab; rw [hR, labL_len]; rfl
    have h8 : l.length ≤ 8 := by have := (rightLab_iff.1 hR).1; rwa [labL_len] at this
    have hU : U64 l.length := show l.length < _ by omega
    have hpl := putL_ten hU
    rw [hR] at C
    clear hR
    go_enter Tryd.func20, Tryd.ntmps20
    go_wp2_with fail
    refine C.mono ?_; rintro e w1 ⟨rfl, h1⟩
    clear C
    go_wp2_with fail
    refine (put_w l.length w1 hU).mono ?_; rintro e w2 ⟨rfl, h2⟩
    have e2 := h1.trans h2
    go_wp2
    go_loopw [3, 15] (fun s' i' wr => ∃ (k : Nat) (b : ByteArray), k ≤ l.length ∧ i' = .int .i64 k ∧ s' = .string b ∧ b.size ≤ 10 + k * 281474976702484 ∧ Ext w2 wr ∧ Hid (b.data.toList = putL l.length ++ putP ((labL l).take k))) (fun _ i' _ => l.length - (intOf i').toNat)
    case atStart => exact ⟨0, ⟨(putL l.length).toArray⟩, by omega, rfl, rfl, by rw [size_len]; exact hpl, Ext.refl _, by show _ = _; simp [putP]⟩
    case round =>
      obtain ⟨k, b, hk, rfl, rfl, hbs, hb, HB⟩ := hrel
      have er := e2.trans hb
      by_cases hlt : k < l.length
      · obtain ⟨bb, off, rfl, hbl, c0, c1⟩ := (hx.ext er).at hlt
        have hfk := hf _ (pairAt_mem hlt)
        have s1 := textB_size _ hfk.1
        have s2 := textB_size _ hfk.2
        have hst : Hid ((b ++ (textB (pairAt l k).1 ++ textB (pairAt l k).2)).data.toList = putL l.length ++ putP ((labL l).take (k + 1))) := by
          show _ = _
          rw [putP_step (by rw [labL_len]; exact hlt), labL_at l hlt, data_append, data_append, HB.out, List.append_assoc]
          rfl
        have C1 : Hid (∀ U, Ext (wr.alloc (.cells #[.string (pairAt l k).1, .string (pairAt l k).2] 29)) U → Calls Tryd.prog 56 #[.string (pairAt l k).1] U fun e w' => e = .returned (.string (textB (pairAt l k).1)) ∧ Ext U w') := fun U _ => puttext_w _ U (by omega)
        have C2 : Hid (∀ U, Ext (wr.alloc (.cells #[.string (pairAt l k).1, .string (pairAt l k).2] 29)) U → Calls Tryd.prog 56 #[.string (pairAt l k).2] U fun e w' => e = .returned (.string (textB (pairAt l k).2)) ∧ Ext U w') := fun U _ => puttext_w _ U (by omega)
        have hW : Ext w2 (wr.alloc (.cells #[.string (pairAt l k).1, .string (pairAt l k).2] 29)) := hb.trans ((Ext.refl _).alloc _)
        generalize textB (pairAt l k).1 = t1 at *
        generalize textB (pairAt l k).2 = t2 at *
        go_wp2_with fail
        refine Dm.wp_region_grow (by kernel_rfl) (by kernel_rfl) ?_
        repeat (go_big_quiet_step (first
          | (go_at_call 56; with_reducible exact Calls.quietE (C1.out _ (ext_grow _ _)))
          | (go_at_call 56; with_reducible exact Calls.quietE (C2.out _ (ext_grow _ _)))))
        refine wpQuiet_nil ?_
        intro U hU
        have hU' := hW.trans hU
        clear C1 C2
        go_wp2
        go_roundw
        case rel => exact ⟨k + 1, _, by omega, by go_num, rfl, by rw [ByteArray.size_append, ByteArray.size_append]; omega, hU', hst⟩
        case measure => simp [intOf]; omega
      · go_wp2
        go_ret
        obtain rfl : k = l.length := by omega
        have h := HB.out
        rw [← labL_len, List.take_length, labL_len, ← hz.out] at h
        exact ⟨by rw [← mk_bytes h]; rfl, er⟩

set_option maxHeartbeats 2000000 in
set_option maxRecDepth 100000 in
theorem ltext_w (l : List PairS) (v : Value) (w : World) (hm : l.length ≤ 35184372088832) (hf : FitP l) (hx : Pairs w v l) (ht : Tabs w) :
    Calls Tryd.prog 21 #[v] w fun e w' => e = .returned (.string ⟨(textLab (labL l)).toArray⟩) ∧ Ext w w' := by
  obtain ⟨q, cap, rfl, hcap, hcm⟩ := hx.shape
  have C := lright_w l _ w hm hf hx ht
  cases hR : rightLab (labL l) with
  | false =>
    have hz : Hid (textLab (labL l) = [63]) := by show _ = _; unfold textLab; rw [hR]; rfl
    rw [hR] at C
    clear hR
    go_enter Tryd.func21, Tryd.ntmps21
    go_wp2_with fail
    refine C.mono ?_; rintro e w1 ⟨rfl, h1⟩
    go_wp2
    go_ret
    exact ⟨by rw [hz.out]; rfl, h1⟩
  | true =>
    have hri := rightLab_iff.1 hR
    rw [labL_len] at hri
    have h8 : l.length ≤ 8 := hri.1
    have hz : Hid (textLab (labL l) = if l.length = 0 then [45] else Lib.join ((labL l).map showP) [44]) := by
      show _ = _
      unfold textLab
      rw [hR, if_pos rfl]
      by_cases h0 : l.length = 0
      · have : l = [] := List.length_eq_zero_iff.1 h0
        subst this; rfl
      · rw [if_neg h0, if_neg (fun h => h0 (by rw [← labL_len, h]; rfl))]
    have hn : ∀ k, k < l.length → (pairAt l k).1.size ≤ 32 ∧ (pairAt l k).2.size ≤ 32 := fun k hk => by
      have := hri.2 k hk
      unfold okLab at this
      simp only [Bool.and_eq_true] at this
      rw [labL_at l hk] at this
      exact ⟨by rw [size_len]; exact right_len this.1, by rw [size_len]; exact right_len this.2.1⟩
    rw [hR] at C
    clear hR hri
    replace hn := Lib.hid hn
    go_enter Tryd.func21, Tryd.ntmps21
    go_wp2_with fail
    refine C.mono ?_; rintro e w1 ⟨rfl, h1⟩
    clear C
    go_wp2
    go_loopw [3, 11] (fun r i' wr => ∃ k : Nat, k ≤ l.length ∧ i' = .int .i64 k ∧ Ext w1 wr ∧ wr.ownsRow w1.heap.size 9 1 r k (((l.take k).map showB).map .string)) (fun _ i' _ => l.length - (intOf i').toNat)
    case atStart => exact ⟨0, by omega, rfl, Ext.refl _, World.ownsRow_nil _ _ _ _⟩
    case round =>
      obtain ⟨k, hk, rfl, hb, ho⟩ := hrel
      have er := h1.trans hb
      by_cases hlt : k < l.length
      · obtain ⟨bb, off, rfl, hbl, c0, c1⟩ := (hx.ext er).at hlt
        have s12 := hn.out k hlt
        have hsh : Hid (showB (pairAt l k) = ((pairAt l k).1 ++ (⟨#[61]⟩ : ByteArray)) ++ (pairAt l k).2) := by show _ = _; rfl
        have hA : Ext w1 (wr.alloc (.cells #[.string (pairAt l k).1, .string (pairAt l k).2] 29)) := hb.trans ((Ext.refl wr).alloc _)
        have hoA := Ext.row ho ((Ext.refl wr).alloc (.cells #[.string (pairAt l k).1, .string (pairAt l k).2] 29))
        generalize hWe : wr.alloc (.cells #[.string (pairAt l k).1, .string (pairAt l k).2] 29) = WA at hA hoA
        have ho4 := Ext.row hoA ((Ext.refl WA).alloc (.cells #[.string (((pairAt l k).1 ++ (⟨#[61]⟩ : ByteArray)) ++ (pairAt l k).2)] 9))
        have hb4 := hA.trans ((Ext.refl WA).alloc (.cells #[.string (((pairAt l k).1 ++ (⟨#[61]⟩ : ByteArray)) ++ (pairAt l k).2)] 9))
        have hl4 := Sl.lit WA 9 1 1 #[.string (((pairAt l k).1 ++ (⟨#[61]⟩ : ByteArray)) ++ (pairAt l k).2)] rfl (by simp [maxLen])
        subst hWe
        simp only [World.size_alloc] at hl4
        clear ho hoA hA
        go_wp2_with (at_builtin; refine wpList_appE rfl _ _ Tryd.slStr rfl hb4 rfl ho4 rfl hl4 (strs_one [((pairAt l k).1 ++ (⟨#[61]⟩ : ByteArray)) ++ (pairAt l k).2]) (by omega) ?_; intro v5 w5 ho5 hb5 _)
        go_roundw
        case rel => exact ⟨k + 1, by omega, by go_num, hb5, by rw [take_snocP hlt, List.map_append, List.map_append]; exact ho5⟩
        case measure => simp [intOf]; omega
      · obtain rfl : k = l.length := by omega
        rw [List.take_length] at ho
        have hS : Strs wr _ (l.map showB) := Strs.of_row ho (by simp)
        obtain ⟨q2, cap2, rfl, hc2, hm2⟩ := hS.shape
        have hll : (l.map showB).length = l.length := List.length_map _
        rw [hll] at hc2
        by_cases h0 : l.length = 0
        · have hlb : ((l.length : Int) == 0) = true := by rw [beq_iff_eq]; omega
          have hz' : Hid (textLab (labL l) = [45]) := by show _ = _; rw [hz.out, if_pos h0]
          rw [hll]
          clear h0
          go_wp2
          go_ret
          exact ⟨by rw [hz'.out]; rfl, er⟩
        · have hlb : ((l.length : Int) == 0) = false := by rw [beq_eq_false_iff_ne]; omega
          have hz' : Hid (textLab (labL l) = Lib.join ((labL l).map showP) [44]) := by show _ = _; rw [hz.out, if_neg h0]
          obtain ⟨bb, off, rfl, hbl, _⟩ := hS.at (k := 0) (by rw [hll]; omega)
          have hjl : (Lib.join ((l.map showB).map (·.data.toList)) [44]).length ≤ 140737488355328 := by
            have : ∀ (L : List Bs), (∀ x ∈ L, x.length ≤ 100) → (Lib.join L [44]).length ≤ 101 * L.length := by
              intro L hL
              induction L with
              | nil => simp [Lib.join_nil]
              | cons x L ih =>
                have h1 := hL x (by simp)
                have h2 := ih (fun y hy => hL y (List.mem_cons_of_mem _ hy))
                cases L with
                | nil => rw [Lib.join_one]; simp; omega
                | cons y L =>
                  rw [Lib.join_cons] at h2 ⊢
                  simp only [Lib.joinTail, List.map_cons, List.flatten_cons, List.length_append, List.length_cons, List.length_nil] at *
                  omega
            have := this ((l.map showB).map (·.data.toList)) (by
              intro x hx
              obtain ⟨y, hy, rfl⟩ := List.mem_map.1 hx
              obtain ⟨p, hp, rfl⟩ := List.mem_map.1 hy
              obtain ⟨k, hk, rfl⟩ := List.getElem_of_mem hp
              have := hn.out k hk
              rw [show pairAt l k = l[k] by simp [pairAt, hk]] at this
              rw [← size_len]
              unfold showB
              rw [ByteArray.size_append, ByteArray.size_append]
              show l[k].1.size + 1 + l[k].2.size ≤ 100
              omega)
            rw [List.length_map, List.length_map] at this
            omega
          have C := Tryd.strings_Join bb off cap2 (l.map showB) ⟨#[44]⟩ wr (fun j x hj => by
            obtain ⟨hjl, _⟩ := List.getElem?_eq_some_iff.1 hj
            have := (hS.cells hjl).2
            rw [this]
            simp [strAt, hj]) hbl (by rw [hll]; omega) (by rw [hll]; exact hc2) hjl
          rw [showB_all, hll] at C
          replace C : Calls Tryd.prog 57 #[.slice (some ⟨bb, off, none⟩) l.length cap2, .string ⟨#[44]⟩] wr fun e w' => e = .returned (.string ⟨(textLab (labL l)).toArray⟩) ∧ Below wr.heap.size wr w' := by rw [hz'.out]; exact C
          rw [hll]
          clear h0 hjl hS ho
          go_wp2_with fail
          refine C.mono ?_; rintro e w3 ⟨rfl, h3⟩
          go_wp2
          go_ret
          exact ⟨rfl, er.trans h3⟩

end Go.Proofs.YtbkemhheombfcaaDoor

namespace Go.Proofs.YtbkemhheombfcaaDoor
open Go.RowKit Go.Dm

/-- What the walks know of the package-level variables. -/
structure Vars (w : World) : Prop where
  tabs : Tabs w
  most : ∃ m, w.cell? ⟨2, 0, none⟩ = some (.int .i64 m)

theorem Vars.ext {w w' : World} (h : Vars w) (hb : Ext w w') : Vars w' := by
  refine ⟨h.tabs.ext hb, ?_⟩
  obtain ⟨m, hm⟩ := h.most
  exact ⟨m, by rw [hb.cell (by exact World.block_lt_of_cell? _ _ hm)]; exact hm⟩

end Go.Proofs.YtbkemhheombfcaaDoor

namespace Go.Dm
open Go Go.RowKit

/-- A label of a text. -/
def readP (x : Bs) : PairL := ((cutC 61 x).1, (cutC 61 x).2.1)
/-- P4.2: the labels of a text. -/
def parsedLab (t : Bs) : List PairL := (splitC 44 t).map readP
def parseLab (t : Bs) : List PairL × Bool := if t = [45] then ([], true) else if rightLab (parsedLab t) = true then (parsedLab t, true) else ([], false)

theorem parseLab_none : parseLab [45] = ([], true) := rfl
theorem parseLab_bad {t : Bs} (h : t ≠ [45]) (hr : rightLab (parsedLab t) = false) : parseLab t = ([], false) := by
  unfold parseLab; rw [if_neg h, hr]; rfl
theorem parseLab_good {t : Bs} (h : t ≠ [45]) (hr : rightLab (parsedLab t) = true) : parseLab t = (parsedLab t, true) := by
  unfold parseLab; rw [if_neg h, hr]; rfl

def cutB (x : ByteArray) : PairS := (⟨(cutC 61 x.data.toList).1.toArray⟩, ⟨(cutC 61 x.data.toList).2.1.toArray⟩)
theorem cutB_bytes (x : ByteArray) : pL (cutB x) = readP x.data.toList := by simp [pL, cutB, readP]
theorem cutB_all (ss : List ByteArray) : labL (ss.map cutB) = (bytesOf ss).map readP := by
  simp only [labL, bytesOf, List.map_map]
  exact List.map_congr_left fun x _ => cutB_bytes x

theorem pairs_right_ne {l : List PairS} (h : rightLab (labL l) = true) : ∀ k, k < l.length → (pairAt l k).1 ≠ ⟨#[]⟩ := by
  intro k hk e
  have := (rightLab_iff.1 h).2 k (by rw [labL_len]; exact hk)
  unfold okLab at this
  simp only [Bool.and_eq_true] at this
  rw [labL_at l hk] at this
  have h1 := this.1
  rw [show (pL (pairAt l k)).1 = [] by unfold pL; rw [e], right_nil] at h1
  cases h1
end Go.Dm
namespace Go.Proofs.YtbkemhheombfcaaDoor
open Go.RowKit Go.Dm

theorem Tryd.eq_pair (a b c d : ByteArray) (w : World) : (Op.equalIn 10000 29 (.agg #[.string a, .string b]) (.agg #[.string c, .string d])).run Tryd.prog w = .ok (a.toList == c.toList && b.toList == d.toList) w := by
  rw [show (10000 : Nat) = 9999 + 1 from rfl, run_equalIn_agg w 9999 29 _ _ (by kernel_rfl) (by kernel_rfl)]
  simp only [Program.fieldsOf, Tryd.underlying29]
  cases h1 : (a.toList == c.toList) <;> cases h2 : (b.toList == d.toList) <;>
  simp [Op.eqFields, go_sem, h1, h2]

set_option maxHeartbeats 1000000 in
theorem indexNone_w (l : List PairS) (v : Value) (w : World) (hm : l.length ≤ 35184372088832) (hne : ∀ k, k < l.length → (pairAt l k).1 ≠ ⟨#[]⟩) (hx : Pairs w v l) :
    Calls Tryd.prog 95 #[v, .agg #[.string ⟨#[]⟩, .string ⟨#[]⟩]] w fun e w' => e = .returned (.int .i64 (-1)) ∧ Ext w w' := by
  obtain ⟨q, cap, rfl, _, _⟩ := hx.shape
  have hW : Ext w (w.alloc (.cells #[.string ⟨#[]⟩, .string ⟨#[]⟩] 29)) := (Ext.refl _).alloc _
  replace hne := Lib.hid hne
  go_enter Tryd.func95, Tryd.ntmps95
  go_wp2
  go_loopw [4, 8] (fun z i wr => ∃ k : Nat, k ≤ l.length ∧ i = .int .i64 k ∧ z = .int .i64 0 ∧ Ext (w.alloc (.cells #[.string ⟨#[]⟩, .string ⟨#[]⟩] 29)) wr) (fun _ i _ => l.length - (intOf i).toNat)
  case atStart => exact ⟨0, by omega, rfl, rfl, Ext.refl _⟩
  case round =>
    obtain ⟨k, hk, rfl, rfl, hb⟩ := hrel
    obtain ⟨gs, g⟩ := hb.box
    have g0 := g 0 _ rfl
    have g1 := g 1 _ rfl
    clear g
    by_cases hlt : k < l.length
    · obtain ⟨b, off, rfl, hbl, c0, c1⟩ := (hx.ext (hW.trans hb)).at hlt
      have hn := hne.out k hlt
      have hq : ∀ U, (Op.equalIn 10000 29 (.agg #[.string ⟨#[]⟩, .string ⟨#[]⟩]) (.agg #[.string (pairAt l k).1, .string (pairAt l k).2])).run Tryd.prog U = .ok false U := fun U => by
        rw [Tryd.eq_pair]
        congr 1
        rw [Bool.and_eq_false_iff]
        left
        rw [Bool.eq_false_iff, Ne, bytes_eq]
        exact fun e => hn e.symm
      clear hn
      go_wp2_with fail
      refine Dm.wp_region_grow (by kernel_rfl) (by kernel_rfl) ?_
      repeat (go_big_quiet_step (fail))
      refine wpQuiet_nil ?_
      intro U hU
      have hU' := hb.trans hU
      go_wp2
      go_roundw
      case rel => exact ⟨k + 1, by omega, by go_num, rfl, hU'⟩
      case measure => simp [intOf]; omega
    · go_wp2
      go_ret
      exact ⟨rfl, hW.trans hb⟩

set_option maxHeartbeats 400000 in
theorem containsNone_w (l : List PairS) (v : Value) (w : World) (hm : l.length ≤ 35184372088832) (hne : ∀ k, k < l.length → (pairAt l k).1 ≠ ⟨#[]⟩) (hx : Pairs w v l) :
    Calls Tryd.prog 64 #[v, .agg #[.string ⟨#[]⟩, .string ⟨#[]⟩]] w fun e w' => e = .returned (.bool false) ∧ Ext w w' := by
  obtain ⟨q, cap, rfl, _, _⟩ := hx.shape
  have hW : Ext w (w.alloc (.cells #[.string ⟨#[]⟩, .string ⟨#[]⟩] 29)) := (Ext.refl _).alloc _
  have C := indexNone_w l _ _ hm hne (hx.ext hW)
  clear hne
  go_enter Tryd.func64, Tryd.ntmps64
  go_wp2_with fail
  refine C.mono ?_; rintro e w1 ⟨rfl, h1⟩
  go_wp2
  go_ret
  exact ⟨rfl, hW.trans h1⟩

set_option maxHeartbeats 4000000 in
set_option maxRecDepth 100000 in
theorem lparse_w (t : ByteArray) (w : World) (hs : t.size < 4294967281) (ht : Vars w) :
    Calls Tryd.prog 26 #[.string t] w fun e w' => ∃ r l b, e = .returned (.tuple #[r, .bool b]) ∧ Pairs w' r l ∧ (labL l, b) = parseLab t.data.toList ∧ FitP l ∧ l.length ≤ 8 ∧ Ext w w' := by
  by_cases h45 : t.data.toList = [45]
  · obtain rfl : t = ⟨#[45]⟩ := mk_bytes h45
    clear h45
    go_enter Tryd.func26, Tryd.ntmps26
    go_wp2
    go_ret2
    exact ⟨_, [], true, rfl, Pairs.nil _, rfl, FitP.nil, by simp, Ext.refl _⟩
  · have hXt : (t.toList == [45]) = false := by rw [ByteArray.toList_eq, beq_eq_false_iff_ne]; exact h45
    have hXt' : ¬ t.toList = [45] := by rw [ByteArray.toList_eq]; exact h45
    obtain ⟨m, hm⟩ := ht.most
    have hlen := splitB_bytesC t 44
    have hall := Lib.splitB_all ⟨#[44]⟩ (by decide) 0 (Lib.countB t ⟨#[44]⟩) t rfl
    have hcl : Lib.countB t ⟨#[44]⟩ ≤ t.size := Lib.countB_le ⟨#[44]⟩ (by decide) t.size t (Nat.le_refl _)
    have C := Tryd.strings_Split t ⟨#[44]⟩ m w hs hm (by decide)
    rw [← hall] at C
    generalize hss : Lib.splitB ⟨#[44]⟩ 0 (Lib.countB t ⟨#[44]⟩) t = ss at C hlen hall
    clear hss
    have hz : ∀ k, k < ss.length → (strAt ss k).size ≤ t.size := by
      intro k hk
      have h1 : (strAt ss k).data.toList ∈ splitC 44 t.data.toList := by rw [← hlen]; exact List.mem_map_of_mem (strAt_mem hk)
      have := mem_splitC_len h1
      rw [← size_len, ← size_len] at this
      exact this
    have hl : ss.length ≤ 4294967281 := by omega
    have hal : Ext w (w.alloc (.cells (ss.map Value.string).toArray 9)) := (Ext.refl w).alloc _
    have hx : Strs (w.alloc (.cells (ss.map Value.string).toArray 9)) (.slice (some ⟨w.heap.size, 0, none⟩) ss.length ss.length) ss := by
      have := Sl.lit w 9 1 ss.length (ss.map Value.string).toArray (by simp) (by simp [maxLen]; omega)
      simpa [Strs] using this
    have hfit : ∀ k, FitP ((ss.take k).map cutB) := by
      intro k p hp
      obtain ⟨x, hx, rfl⟩ := List.mem_map.1 hp
      obtain ⟨j, hj, e⟩ := List.getElem_of_mem (List.mem_of_mem_take hx)
      have h1 := hz j hj
      have h2 : strAt ss j = x := by simp [strAt, hj, e]
      rw [h2] at h1
      have h3 := cutC_len 61 x.data.toList
      rw [← size_len] at h3
      constructor
      · show (cutB x).1.size ≤ _
        rw [size_len]
        have : (cutB x).1.data.toList = (cutC 61 x.data.toList).1 := rfl
        rw [this]; omega
      · show (cutB x).2.size ≤ _
        rw [size_len]
        have : (cutB x).2.data.toList = (cutC 61 x.data.toList).2.1 := rfl
        rw [this]; omega
    have hpl : labL (ss.map cutB) = parsedLab t.data.toList := by rw [cutB_all, hlen]; rfl
    have h0 : 0 < ss.length := by
      have := splitC_ne 44 t.data.toList
      rw [← hlen] at this
      have : (bytesOf ss).length ≠ 0 := fun h => this (List.length_eq_zero_iff.1 h)
      rw [bytesOf, List.length_map] at this
      omega
    clear hall hcl hlen
    replace hz := Lib.hid hz
    replace hfit := Lib.hid hfit
    replace hpl := Lib.hid hpl
    replace h45 := Lib.hid h45
    go_enter Tryd.func26, Tryd.ntmps26
    go_wp2_with fail
    refine C.mono ?_; rintro e w1 ⟨rfl, rfl⟩
    clear C
    generalize hW : w.alloc (.cells (ss.map Value.string).toArray 9) = W at hx hal
    clear hW
    go_wp2
    go_loopw [4, 15] (fun v i' wr => ∃ k : Nat, k ≤ ss.length ∧ i' = .int .i64 k ∧ Ext W wr ∧ wr.ownsRow W.heap.size 29 2 v k (pairCells ((ss.take k).map cutB))) (fun _ i' _ => ss.length - (intOf i').toNat)
    case atStart => exact ⟨0, by omega, rfl, Ext.refl _, World.ownsRow_nil _ _ _ _⟩
    case round =>
      obtain ⟨k, hk, rfl, hb, ho⟩ := hrel
      have er := hal.trans hb
      by_cases hlt : k < ss.length
      · obtain ⟨hbl, c0⟩ := (hx.ext hb).cells hlt
        rw [Nat.zero_add] at c0
        have hzk := hz.out k hlt
        obtain ⟨m', hm'⟩ := (ht.ext er).most
        have C := Tryd.strings_Cut (strAt ss k) ⟨#[61]⟩ m' wr (by omega) hm'
        rw [show (⟨#[61]⟩ : ByteArray).data.toList = [61] from rfl, cut_eqC] at C
        replace C : Calls Tryd.prog 63 #[.string (strAt ss k), .string ⟨#[61]⟩] wr fun e w' => e = .returned (.tuple #[.string (cutB (strAt ss k)).1, .string (cutB (strAt ss k)).2, .bool (cutC 61 (strAt ss k).data.toList).2.2]) ∧ ∃ n, w' = wr.drewN n := C
        have hsn : (ss.take (k + 1)).map cutB = (ss.take k).map cutB ++ [cutB (strAt ss k)] := by
          rw [List.take_succ_eq_append_getElem hlt, List.map_append]
          simp [strAt, hlt]
        replace hsn := Lib.hid hsn
        generalize cutB (strAt ss k) = P at *
        go_wp2_with fail
        refine C.mono ?_; rintro e w2 ⟨rfl, n, hw2⟩
        have h2 : Ext wr w2 := by rw [hw2]; exact (Below.refl _ _).trans ⟨rfl, rfl, rfl, Nat.le_refl _, fun _ _ => rfl⟩
        clear C hw2
        have hb2 := hb.trans h2
        have ho4 := Ext.row (Ext.row ho h2) ((Ext.refl w2).alloc (.cells #[.string P.1, .string P.2] 29))
        have hb4 := hb2.trans ((Ext.refl w2).alloc (.cells #[.string P.1, .string P.2] 29))
        have hl4 := Sl.lit w2 29 2 1 #[.string P.1, .string P.2] rfl (by simp [maxLen])
        clear ho
        go_wp2_with (at_builtin; refine wpList_appE rfl _ _ Tryd.slPair rfl hb4 rfl ho4 rfl hl4 (pairCells_one [P]) (by omega) ?_; intro v5 w5 ho5 hb5 _)
        go_roundw
        case rel => exact ⟨k + 1, by omega, by go_num, hb5, by rw [hsn.out, pairCells_app]; exact ho5⟩
        case measure => simp [intOf]; omega
      · obtain rfl : k = ss.length := by omega
        rw [List.take_length] at ho
        have hP : Pairs wr _ (ss.map cutB) := Pairs.of_row ho (by simp)
        have hF := hfit.out ss.length
        rw [List.take_length] at hF
        have hll : (ss.map cutB).length = ss.length := List.length_map _
        have CR := lright_w (ss.map cutB) _ wr (by rw [hll]; omega) hF hP (ht.tabs.ext er)
        rw [hpl.out] at CR
        cases hR : rightLab (parsedLab t.data.toList) with
        | false =>
          have hz' := Lib.hid (parseLab_bad h45.out hR)
          rw [hR] at CR
          clear hR
          go_wp2_with fail
          refine CR.mono ?_; rintro e w3 ⟨rfl, h3⟩
          go_wp2
          go_ret2
          exact ⟨_, [], false, rfl, Pairs.nil _, by rw [hz'.out]; rfl, FitP.nil, by simp, er.trans h3⟩
        | true =>
          have hz' := Lib.hid (parseLab_good h45.out hR)
          have hne := pairs_right_ne (l := ss.map cutB) (by rw [hpl.out]; exact hR)
          have h8 := (rightLab_iff.1 hR).1
          rw [← hpl.out, labL_len] at h8
          rw [hR] at CR
          clear hR
          go_wp2_with fail
          refine CR.mono ?_; rintro e w3 ⟨rfl, h3⟩
          have hP3 := hP.ext h3
          go_wp2_with fail
          refine (containsNone_w (ss.map cutB) _ w3 (by omega) hne hP3).mono ?_; rintro e w4 ⟨rfl, h4⟩
          go_wp2
          go_ret2
          exact ⟨_, ss.map cutB, true, rfl, hP3.ext h4, by rw [hz'.out, hpl.out], hF, h8, er.trans (h3.trans h4)⟩

end Go.Proofs.YtbkemhheombfcaaDoor

namespace Go.Dm
open Go Go.RowKit

/-- A term: its key, whether it is turned, its values. -/
abbrev TermS := ByteArray × Bool × List ByteArray
/-- A term as it lies in a slice: its values are a slice of their own. -/
abbrev RowS := ByteArray × Bool × Value × List ByteArray
def rowT (r : RowS) : TermS := (r.1, r.2.1, r.2.2.2)
def noRow : RowS := (⟨#[]⟩, false, .slice none 0 0, [])
def sAtR (R : List RowS) (k : Nat) : RowS := R.getD k noRow
def rowOne (r : RowS) : List Value := [.string r.1, .bool r.2.1, r.2.2.1]
def rowCells (R : List RowS) : List Value := R.flatMap rowOne
theorem rowCells_len (R : List RowS) : (rowCells R).length = R.length * 3 := by
  induction R with
  | nil => rfl
  | cons x xs ih => simp only [rowCells, rowOne, List.flatMap_cons, List.length_append, List.length_cons, List.length_nil] at *; omega
theorem rowCells_app (a b : List RowS) : rowCells (a ++ b) = rowCells a ++ rowCells b := by simp [rowCells]
theorem rowCells_at : ∀ (xs : List RowS) (k : Nat), k < xs.length → (rowCells xs)[k*3]? = some (.string (sAtR xs k).1) ∧ (rowCells xs)[k*3+1]? = some (.bool (sAtR xs k).2.1) ∧ (rowCells xs)[k*3+2]? = some (sAtR xs k).2.2.1
  | x :: xs, 0, _ => by simp [rowCells, rowOne, sAtR]
  | x :: xs, k+1, h => by
    have := rowCells_at xs k (by simpa using h)
    have e : (k+1)*3 = k*3+1+1+1 := by omega
    have e2 : (k+1)*3+1 = k*3+1+1+1+1 := by omega
    have e3 : (k+1)*3+2 = k*3+2+1+1+1 := by omega
    rw [e2, e3, e]
    simp only [rowCells, rowOne, sAtR, List.flatMap_cons, List.cons_append, List.nil_append, List.getElem?_cons_succ, List.getD_cons_succ]
    exact this
theorem sAtR_mem {l : List RowS} {k : Nat} (h : k < l.length) : sAtR l k ∈ l := by
  simp only [sAtR, List.getD_eq_getElem?_getD, List.getElem?_eq_getElem h, Option.getD_some]
  exact List.getElem_mem h
theorem take_snocT {l : List RowS} {k : Nat} (hk : k < l.length) : l.take (k + 1) = l.take k ++ [sAtR l k] := by
  rw [List.take_succ_eq_append_getElem hk]
  simp [hk, sAtR]

/-- A slice value reads as these terms. -/
structure Terms (w : World) (v : Value) (R : List RowS) : Prop where
  sl : Sl w 3 v R.length (rowCells R)
  vals : ∀ r ∈ R, Strs w r.2.2.1 r.2.2.2
theorem Terms.ext {w w' : World} {v R} (h : Terms w v R) (hb : Ext w w') : Terms w' v R := ⟨h.sl.ext hb, fun r hr => (h.vals r hr).ext hb⟩
theorem Terms.nil (w : World) : Terms w (.slice none 0 0) [] := ⟨Sl.nil w 3, fun r hr => by cases hr⟩
theorem Terms.shape {w : World} {v R} (h : Terms w v R) : ∃ p cap, v = .slice p R.length cap ∧ R.length ≤ cap ∧ cap ≤ maxLen := by
  obtain ⟨p, cap, h1, h2, h3, _⟩ := Sl.shape h.sl
  exact ⟨p, cap, h1, h2, h3⟩
theorem Terms.at {w : World} {xs : List RowS} {p cap} (h : Terms w (.slice p xs.length cap) xs) {k : Nat} (hk : k < xs.length) :
    ∃ b off, p = some ⟨b, off, none⟩ ∧ b < w.heap.size ∧ w.cell? ⟨b, off + k*3, none⟩ = some (.string (sAtR xs k).1) ∧ w.cell? ⟨b, off + k*3 + 1, none⟩ = some (.bool (sAtR xs k).2.1) ∧ w.cell? ⟨b, off + k*3 + 2, none⟩ = some (sAtR xs k).2.2.1 := by
  obtain ⟨b, off, hp, hb, h⟩ := Sl.at h.sl (by omega)
  have := rowCells_at xs k hk
  exact ⟨b, off, hp, hb, h _ _ this.1, by have := h _ _ this.2.1; rw [show off + (k*3+1) = off + k*3+1 by omega] at this; exact this, by have := h _ _ this.2.2; rw [show off + (k*3+2) = off + k*3+2 by omega] at this; exact this⟩
theorem Terms.val {w : World} {xs : List RowS} {v} (h : Terms w v xs) {k : Nat} (hk : k < xs.length) : Strs w (sAtR xs k).2.2.1 (sAtR xs k).2.2.2 := h.vals _ (sAtR_mem hk)
theorem Terms.of_row {w : World} {B e : Nat} {v : Value} {n : Nat} {l : List RowS} (h : w.ownsRow B e 3 v n (rowCells l)) (hn : n = l.length) (hv : ∀ r ∈ l, Strs w r.2.2.1 r.2.2.2) : Terms w v l := by
  subst hn
  exact ⟨Sl.of_owns h, hv⟩
theorem Strs.one {w : World} {v : Value} {ss} (h : Strs w v ss) : v.oneCell' = true := by
  obtain ⟨p, cap, rfl, _⟩ := h.shape
  rfl

/-- A term's texts are of a size that a run can hold. -/
def FitT (t : TermS) : Prop := t.1.size ≤ 140737488351232 ∧ t.2.2.length ≤ 35184372088832 ∧ ∀ x ∈ t.2.2, x.size ≤ 140737488351232

/-- P5.2: does a term hold of labels? -/
def inB (vals : List ByteArray) (x : ByteArray) : Bool := vals.any fun y => x.toList == y.toList
def holdsS (p : List PairS) (t : TermS) : Bool := ((findB p t.1).2 && (t.2.2.isEmpty || inB t.2.2 (findB p t.1).1)) != t.2.1
/-- P5.2: does a selector match labels? -/
def matchS (T : List TermS) (p : List PairS) : Bool := T.all (holdsS p)

theorem inB_hit {vals : List ByteArray} {x : ByteArray} {k : Nat} (hk : k < vals.length) (h : (x.toList == (strAt vals k).toList) = true) : inB vals x = true :=
  List.any_eq_true.2 ⟨_, strAt_mem hk, h⟩
theorem inB_miss {vals : List ByteArray} {x : ByteArray} (h : ∀ k, k < vals.length → (x.toList == (strAt vals k).toList) = false) : inB vals x = false := by
  unfold inB
  rw [List.any_eq_false]
  intro y hm
  obtain ⟨k, hk, rfl⟩ := List.getElem_of_mem hm
  have := h k hk
  have e : strAt vals k = vals[k] := by simp [strAt, hk]
  rw [e] at this
  rw [this]; simp
end Go.Dm
