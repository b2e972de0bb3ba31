/- Texts one behind the other: Chapter 2: the walks of the program's spans, runes and names; What the walks know of the package-level variables; Chapter 2: the walk of the program's Parts; Chapter 2: the walks of the program's Ups and Under; Chapter 2: the walks of the document's Count, letter, Right. -/
import Derived.Test.YtopnllbfhhjobaaGreatDoorWPure
import Derived.Test.YtopnllbfhhjobaaGreatDoorT9
import Derived.Test.YtopnllbfhhjobaaGreatDoorShelf
import Derived.Test.YtopnllbfhhjobaaGreatDoorT2
import Derived.Lib.OthersKept
import Derived.Test.YtopnllbfhhjobaaGreatDoorT5
import Derived.OwnWalk
import Derived.Test.YtopnllbfhhjobaaGreatDoorT7
import Derived.Test.YtopnllbfhhjobaaGreatDoorT6
import Derived.IntWalk
namespace Go.Dm
open Go Go.RowKit

abbrev Span := Int × Int
def spanAt (l : List Span) (k : Nat) : Span := l.getD k (0, 0)
def spanCells (l : List Span) : List Value := l.flatMap fun x => [.int .i32 x.1, .int .i32 x.2]
def inSpan (r : Int) (x : Span) : Bool := decide (x.1 ≤ r) && decide (r ≤ x.2)

theorem spanCells_at : ∀ (xs : List Span) (k : Nat), k < xs.length → (spanCells xs)[k*2]? = some (.int .i32 (spanAt xs k).1) ∧ (spanCells xs)[k*2+1]? = some (.int .i32 (spanAt xs k).2)
  | x :: xs, 0, _ => by simp [spanCells, spanAt]
  | x :: xs, k+1, h => by
    have := spanCells_at xs k (by simpa using h)
    have e : (k+1)*2 = k*2+1+1 := by omega
    have e2 : (k+1)*2+1 = k*2+1+1+1 := by omega
    simp only [e, spanCells, spanAt, List.flatMap_cons, List.cons_append, List.nil_append, List.getElem?_cons_succ, List.getD_cons_succ]
    exact this

def Spans (w : World) (v : Value) (l : List Span) : Prop := Sl w 2 v l.length (spanCells l)
theorem Spans.ext {w w' : World} {v l} (h : Spans w v l) (hb : Ext w w') : Spans w' v l := Sl.ext h hb
theorem Spans.shape {w : World} {v l} (h : Spans w v l) : ∃ p cap, v = .slice p l.length cap ∧ l.length ≤ cap ∧ cap ≤ maxLen := by
  obtain ⟨p, cap, h1, h2, h3, _⟩ := Sl.shape h
  exact ⟨p, cap, h1, h2, h3⟩
theorem Spans.at {w : World} {xs : List Span} {p cap} (h : Spans w (.slice p xs.length cap) xs) {k : Nat} (hk : k < xs.length) :
    ∃ b off, p = some ⟨b, off, none⟩ ∧ b < w.heap.size ∧ w.cell? ⟨b, off + k*2, none⟩ = some (.int .i32 (spanAt xs k).1) ∧ w.cell? ⟨b, off + k*2 + 1, none⟩ = some (.int .i32 (spanAt xs k).2) := by
  obtain ⟨b, off, hp, hb, h⟩ := Sl.at h (by omega)
  have := spanCells_at xs k hk
  exact ⟨b, off, hp, hb, h _ _ this.1, by have := h _ _ this.2; rw [show off + (k*2+1) = off + k*2+1 by omega] at this; exact this⟩

end Go.Dm
namespace Go.Proofs.YtopnllbfhhjobaaGreatDoor
open Go.RowKit Go.Dm

set_option maxHeartbeats 400000 in
theorem among1_w (r a b : Int) (c o : Nat) (w : World) (hcl : c < w.heap.size) (hc : w.cell? ⟨c, o, none⟩ = some (.int .i32 r)) :
    Calls Tryz.prog 115 #[.agg #[.int .i32 a, .int .i32 b], .pointer (some ⟨c, o, none⟩)] w fun e w' => e = .returned (.bool (inSpan r (a, b))) ∧ Ext w w' := by
  go_enter Tryz.func115, Tryz.ntmps115
  go_wp2
  all_goals go_ret
  all_goals exact ⟨by first | (simp_all [inSpan]; done) | (simp_all [inSpan]; omega), (Below.refl _ _).alloc (Nat.le_refl _) _⟩

set_option maxHeartbeats 400000 in
theorem indexSpan_w (l : List Span) (r : Int) (q : Option Addr) (cap : Nat) (c o : Nat) (w : World) (hm : l.length ≤ 35184372088832)
    (hx : Spans w (.slice q l.length cap) l) (hcl : c < w.heap.size) (hc : w.cell? ⟨c, o, none⟩ = some (.int .i32 r)) :
    Calls Tryz.prog 122 #[.slice q l.length cap, .func (.func 115) #[] #[.pointer (some ⟨c, o, none⟩)]] w
      fun e w' => e = .returned (.int .i64 (placeI (firstP (inSpan r) l))) ∧ Ext w w' := by
  go_enter Tryz.func122, Tryz.ntmps122
  go_wp2
  go_loopw [4, 8] (fun z i wr => ∃ k : Nat, k ≤ l.length ∧ i = .int .i64 k ∧ z = .int .i64 0 ∧ Ext w wr ∧ Hid (∀ j, j < k → inSpan r (spanAt l j) = false)) (fun _ i _ => l.length - (intOf i).toNat)
  case atStart => exact ⟨0, by omega, rfl, rfl, Ext.refl w, fun j hj => by omega⟩
  case round =>
    obtain ⟨k, hk, rfl, rfl, hb, HN⟩ := hrel
    by_cases hlt : k < l.length
    · obtain ⟨b, off, rfl, hbl, c0, c1⟩ := (hx.ext hb).at hlt
      have hcl' : c < wr.heap.size := Nat.lt_of_lt_of_le hcl hb.size
      have hc' : wr.cell? ⟨c, o, none⟩ = some (.int .i32 r) := by rw [hb.cell (by exact hcl)]; exact hc
      go_wp2_with fail
      refine (among1_w r _ _ _ _ _ hcl' hc').mono ?_; rintro e w' ⟨rfl, hb1⟩
      cases ht : inSpan r (spanAt l k) with
      | true =>
        go_wp2
        go_ret
        refine ⟨?_, hb.trans hb1⟩
        rw [firstP_hit (0, 0) hlt HN.out ht]
        rfl
      | false =>
        go_wp2
        go_roundw
        case rel => exact ⟨k + 1, by omega, by go_num, rfl, hb.trans hb1, fun j hj => by
          rcases Nat.lt_succ_iff_lt_or_eq.1 hj with h | rfl
          · exact HN.out j h
          · exact ht⟩
        case measure => simp [intOf]; omega
    · go_wp2
      go_ret
      obtain rfl : k = l.length := by omega
      refine ⟨?_, hb⟩
      rw [firstP_miss (0, 0) HN.out]
      rfl

set_option maxHeartbeats 400000 in
theorem among_w (l : List Span) (r : Int) (v : Value) (w : World) (hm : l.length ≤ 35184372088832) (hx : Spans w v l) :
    Calls Tryz.prog 106 #[.int .i32 r, v] w fun e w' => e = .returned (.bool (l.any (inSpan r))) ∧ Ext w w' := by
  obtain ⟨q, cap, rfl, _, _⟩ := hx.shape
  have fin : Ext w (w.alloc (.cells #[.int .i32 r] 21)) := (Below.refl _ _).alloc (Nat.le_refl _) _
  have hx' := hx.ext fin
  have hA := firstP_any (inSpan r) l
  go_enter Tryz.func106, Tryz.ntmps106
  cases ha : l.any (inSpan r) with
  | true =>
    have h0 := hA.2 ha
    go_wp2_with (first | (go_at_call 122; refine (indexSpan_w l r q cap w.heap.size 0 _ hm hx' (by simp) (by simp)).mono ?_; rintro e w' ⟨rfl, hb1⟩) | go_in)
    go_ret
    exact ⟨rfl, fin.trans hb1⟩
  | false =>
    have h0 : ¬ (0 : Int) ≤ placeI (firstP (inSpan r) l) := fun h => by rw [hA.1 h] at ha; cases ha
    go_wp2_with (first | (go_at_call 122; refine (indexSpan_w l r q cap w.heap.size 0 _ hm hx' (by simp) (by simp)).mono ?_; rintro e w' ⟨rfl, hb1⟩) | go_in)
    go_ret
    exact ⟨rfl, fin.trans hb1⟩

/-- The package's tables lie as its text lays them. -/
def letters : List Span := [(97, 122), (945, 969), (1072, 1103)]
def marks : List Span := [(48, 57), (45, 45)]
structure Tabs (w : World) : Prop where
  letters : Spans w (.slice (some ⟨0, 0, none⟩) 3 3) letters
  marks : Spans w (.slice (some ⟨1, 0, none⟩) 2 2) marks

theorem Tabs.ext {w w' : World} (h : Tabs w) (hb : Ext w w') : Tabs w' := ⟨h.letters.ext hb, h.marks.ext hb⟩

theorem letters_any (r : Nat) : letters.any (inSpan r) = letterB r := by
  simp only [letters, List.any_cons, List.any_nil, inSpan, letterB, Bool.or_false, Bool.or_assoc]
  congr 1
  · congr 1 <;> exact decide_eq_decide.2 (by omega)
  · congr 1 <;> congr 1 <;> exact decide_eq_decide.2 (by omega)

theorem marks_any (r : Nat) : marks.any (inSpan r) = markB r := by
  simp only [marks, List.any_cons, List.any_nil, inSpan, markB, Bool.or_false]
  by_cases h : r = 45
  · subst h; decide
  · have : (r == 45) = false := by rw [beq_eq_false_iff_ne]; exact h
    rw [this, Bool.or_false]
    have : (decide ((45 : Int) ≤ r) && decide ((r : Int) ≤ 45)) = false := by
      rw [Bool.and_eq_false_iff, decide_eq_false_iff_not, decide_eq_false_iff_not]; omega
    rw [this, Bool.or_false]
    congr 1 <;> exact decide_eq_decide.2 (by omega)

set_option maxHeartbeats 400000 in
theorem count_w (s : ByteArray) (w : World) (hs : s.size < 9223372036854775807) :
    Calls Tryz.prog 107 #[.string s] w fun e w' => e = .returned (.int .i64 (countL s.data.toList)) ∧ Ext w w' := by
  go_enter Tryz.func107, Tryz.ntmps107
  go_wp2_with fail
  refine (Tryz.utf8_RuneCountInString s w hs).mono ?_; rintro e w' ⟨rfl, pos, rfl⟩
  rw [runeCount_eq]
  go_wp2
  go_ret
  exact ⟨rfl, (Ext.refl w).alloc _⟩

theorem iter_ext {w w' : World} {k p : Nat} {s : ByteArray} (h : Ext w w') (hit : w.heap[k]? = some (.stringIter s p)) : w'.heap[k]? = some (.stringIter s p) := by
  have hlt : k < w.heap.size := (Array.getElem?_eq_some_iff.1 hit).1
  rw [h.block _ hlt]; exact hit

theorem iterPos_of {w : World} {k p : Nat} {s : ByteArray} (hit : w.heap[k]? = some (.stringIter s p)) : w.iterPos k = p := by simp [World.iterPos, hit]

/-- A round of the loop over a name's runes. -/
theorem right_round {s : ByteArray} {pos : Nat} (hp : pos < s.size) (HK : okL true s.data.toList = okL (pos == 0) (s.data.toList.drop pos))
    (hr : (letterB (runeL (s.data.toList.drop pos)) || (!(pos == 0) && markB (runeL (s.data.toList.drop pos)))) = true) :
    pos + wideL (s.data.toList.drop pos) ≤ s.size ∧ okL true s.data.toList = okL (pos + wideL (s.data.toList.drop pos) == 0) (s.data.toList.drop (pos + wideL (s.data.toList.drop pos))) := by
  have hne : s.data.toList.drop pos ≠ [] := by rw [Ne, List.drop_eq_nil_iff, ← size_len]; omega
  have h1 := wideL_le hne
  have h2 := wideL_pos (s.data.toList.drop pos)
  rw [List.length_drop, ← size_len] at h1
  refine ⟨by omega, ?_⟩
  have h3 : (pos + wideL (s.data.toList.drop pos) == 0) = false := by rw [beq_eq_false_iff_ne]; omega
  rw [HK, okL_step _ hne, hr, h3, List.drop_drop, Bool.true_and]

theorem right_bad {s : ByteArray} {pos : Nat} (hp : pos < s.size) (HK : okL true s.data.toList = okL (pos == 0) (s.data.toList.drop pos))
    (hr : (letterB (runeL (s.data.toList.drop pos)) || (!(pos == 0) && markB (runeL (s.data.toList.drop pos)))) = false) : rightL s.data.toList = false := by
  have hne : s.data.toList.drop pos ≠ [] := by rw [Ne, List.drop_eq_nil_iff, ← size_len]; omega
  unfold rightL
  rw [HK, okL_step _ hne, hr]
  rfl

set_option maxHeartbeats 2000000 in
theorem right_w (s : ByteArray) (w : World) (hs : s.size < 9223372036854775807) (ht : Tabs w) :
    Calls Tryz.prog 100 #[.string s] w fun e w' => e = .returned (.bool (rightL s.data.toList)) ∧ Ext w w' := by
  go_enter Tryz.func100, Tryz.ntmps100
  go_wp2
  go_loopw [2] (fun _ wr => ∃ pos : Nat, Ext w wr ∧ wr.heap[w.heap.size]? = some (.stringIter s pos) ∧ pos ≤ s.size ∧ Hid (okL true s.data.toList = okL (pos == 0) (s.data.toList.drop pos))) (fun _ wr => s.size - wr.iterPos w.heap.size)
  case atStart => exact ⟨0, (Ext.refl w).alloc _, by simp [World.iter_heap], by omega, rfl⟩
  case round =>
    obtain ⟨pos, hb, hit, hps, HK⟩ := hrel
    by_cases hp : pos < s.size
    · have hnx : ∀ ty, (Instr.next (.pointer (some ⟨w.heap.size, 0, none⟩)) true ty).run Tryz.prog wr = _ := fun ty => Lib.run_next_any_at wr w.heap.size s pos ty hit hp
      have e1 : (Utf8.decode s pos).1 = runeL (s.data.toList.drop pos) := by rw [decode_eq]; rfl
      have e2 : (Utf8.decode s pos).2 = wideL (s.data.toList.drop pos) := by rw [decode_eq]; rfl
      rw [e1, e2] at hnx
      clear e1 e2
      have hb1 : Ext w (wr.iterAt w.heap.size s (pos + wideL (s.data.toList.drop pos))) := Lib.below_iterAt hb (Nat.le_refl _) s _
      have hit1 := Lib.iterAt_heap wr w.heap.size s pos (pos + wideL (s.data.toList.drop pos)) hit
      have HR := Lib.hid (right_round hp HK.out)
      have HB := Lib.hid (right_bad hp HK.out)
      have hw1 := wideL_pos (s.data.toList.drop pos)
      generalize runeL (s.data.toList.drop pos) = r at *
      generalize wideL (s.data.toList.drop pos) = n at *
      have CL := among_w letters r _ _ (by decide) (ht.letters.ext hb1)
      rw [letters_any] at CL
      have CM : ∀ U, Ext w U → _ := fun U hU => among_w marks r _ U (by decide) (ht.marks.ext hU)
      simp only [marks_any] at CM
      have CM := Lib.hid CM
      go_wp2_with fail
      refine CL.mono ?_; rintro e w1 ⟨rfl, hb2⟩
      have hit2 := iter_ext hb2 hit1
      cases hl : letterB r with
      | true =>
        rw [hl] at HR
        obtain ⟨h1, h2⟩ := HR.out (by simp)
        go_wp2
        go_roundw
        case rel => exact ⟨pos + n, hb1.trans hb2, hit2, h1, h2⟩
        case measure => rw [iterPos_of hit2, iterPos_of hit]; omega
      | false =>
        rw [hl] at HR HB
        by_cases h0 : pos = 0
        · subst h0
          have hB := HB.out (by simp)
          go_wp2
          go_ret
          exact ⟨by rw [hB]; rfl, hb1.trans hb2⟩
        · have h0b : (pos == 0) = false := by rw [beq_eq_false_iff_ne]; exact h0
          have h0c : ((pos : Int) == 0) = false := by rw [beq_eq_false_iff_ne]; omega
          rw [h0b] at HR HB
          go_wp2_with fail
          refine (CM.out w1 (hb1.trans hb2)).mono ?_; rintro e w2 ⟨rfl, hb3⟩
          have hit3 := iter_ext hb3 hit2
          cases hk : markB r with
          | true =>
            rw [hk] at HR
            obtain ⟨h1, h2⟩ := HR.out (by simp)
            go_wp2
            go_roundw
            case rel => exact ⟨pos + n, hb1.trans (hb2.trans hb3), hit3, h1, h2⟩
            case measure => rw [iterPos_of hit3, iterPos_of hit]; omega
          | false =>
            rw [hk] at HB
            have hB := HB.out (by simp)
            go_wp2
            go_ret
            exact ⟨by rw [hB]; rfl, hb1.trans (hb2.trans hb3)⟩
    · have hnx : ∀ ty, (Instr.next (.pointer (some ⟨w.heap.size, 0, none⟩)) true ty).run Tryz.prog wr = _ := fun ty => Lib.run_next_end_at wr w.heap.size s pos ty hit hp
      have hK : okL true s.data.toList = true := by
        rw [HK.out, List.drop_eq_nil_iff.2 (by rw [← size_len]; omega)]; rfl
      by_cases he : s = ⟨#[]⟩
      · subst he
        go_wp2
        go_ret
        exact ⟨rfl, hb⟩
      · have hne2 : s.data.toList.isEmpty = false := by
          rw [List.isEmpty_eq_false_iff]
          intro h
          apply he
          cases s
          simp at h
          rw [h]
        have hne : ¬ s.toList = [] := by
          rw [ByteArray.toList_eq]
          intro h
          rw [h] at hne2
          cases hne2
        go_wp2_with fail
        refine (count_w s wr hs).mono ?_; rintro e w2 ⟨rfl, hb3⟩
        have hd : decide ((countL s.data.toList : Int) ≤ 16) = decide (countL s.data.toList ≤ 16) := decide_eq_decide.2 (by omega)
        go_wp2
        go_ret
        refine ⟨?_, hb.trans hb3⟩
        show Ending.returned (Value.bool (!s.toList.isEmpty && decide (countL s.data.toList ≤ 16))) = _
        rw [ByteArray.toList_eq, rightL, hK]
        rfl

end Go.Proofs.YtopnllbfhhjobaaGreatDoor

namespace Go.Proofs.YtopnllbfhhjobaaGreatDoor
open Go.RowKit Go.Dm

/-- What the walks know of the package-level variables. -/
structure Vars (w : World) : Prop where
  tabs : Tabs w
  most : ∃ m, w.cell? ⟨2, 0, none⟩ = some (.int .i64 m)

theorem Vars.ext {w w' : World} (h : Vars w) (hb : Ext w w') : Vars w' := by
  refine ⟨h.tabs.ext hb, ?_⟩
  obtain ⟨m, hm⟩ := h.most
  exact ⟨m, by rw [hb.cell (by exact World.block_lt_of_cell? _ _ hm)]; exact hm⟩

end Go.Proofs.YtopnllbfhhjobaaGreatDoor

namespace Go.Proofs.YtopnllbfhhjobaaGreatDoor
open Go.RowKit Go.Dm

def wrongN (s : ByteArray) : Bool := !rightL s.data.toList

set_option maxHeartbeats 400000 in
theorem parts1_w (s : ByteArray) (w : World) (hs : s.size < 9223372036854775807) (ht : Tabs w) :
    Calls Tryz.prog 99 #[.string s] w fun e w' => e = .returned (.bool (wrongN s)) ∧ Ext w w' := by
  go_enter Tryz.func99, Tryz.ntmps99
  go_wp2_with fail
  refine (right_w s w hs ht).mono ?_; rintro e w' ⟨rfl, hb⟩
  go_wp2
  go_ret
  exact ⟨rfl, hb⟩

set_option maxHeartbeats 400000 in
theorem indexWrong_w (ss : List ByteArray) (q : Option Addr) (cap : Nat) (w : World) (hm : ss.length ≤ 35184372088832) (hz : ∀ x ∈ ss, x.size < 9223372036854775807) (ht : Tabs w)
    (hx : Strs w (.slice q ss.length cap) ss) :
    Calls Tryz.prog 85 #[.slice q ss.length cap, .func (.func 99) #[] #[]] w
      fun e w' => e = .returned (.int .i64 (placeI (firstP wrongN ss))) ∧ Ext w w' := by
  go_enter Tryz.func85, Tryz.ntmps85
  go_wp2
  go_loopw [4, 8] (fun z i wr => ∃ k : Nat, k ≤ ss.length ∧ i = .int .i64 k ∧ z = .int .i64 0 ∧ Ext w wr ∧ Hid (∀ j, j < k → wrongN (strAt ss j) = false)) (fun _ i _ => ss.length - (intOf i).toNat)
  case atStart => exact ⟨0, by omega, rfl, rfl, Ext.refl w, fun j hj => by omega⟩
  case round =>
    obtain ⟨k, hk, rfl, rfl, hb, HN⟩ := hrel
    by_cases hlt : k < ss.length
    · obtain ⟨b, off, rfl, hbl, c0⟩ := (hx.ext hb).at hlt
      have C := parts1_w (strAt ss k) wr (hz _ (strAt_mem hlt)) (ht.ext hb)
      go_wp2_with fail
      refine C.mono ?_; rintro e w' ⟨rfl, hb1⟩
      cases ht : wrongN (strAt ss k) with
      | true =>
        go_wp2
        go_ret
        refine ⟨?_, hb.trans hb1⟩
        rw [firstP_hit ByteArray.empty hlt HN.out ht]
        rfl
      | false =>
        go_wp2
        go_roundw
        case rel => exact ⟨k + 1, by omega, by go_num, rfl, hb.trans hb1, fun j hj => by
          rcases Nat.lt_succ_iff_lt_or_eq.1 hj with h | rfl
          · exact HN.out j h
          · exact ht⟩
        case measure => simp [intOf]; omega
    · go_wp2
      go_ret
      obtain rfl : k = ss.length := by omega
      refine ⟨?_, hb⟩
      rw [firstP_miss ByteArray.empty HN.out]
      rfl

theorem any_wrong (ss : List ByteArray) : ss.any wrongN = (bytesOf ss).any fun p => !rightL p := by
  simp only [bytesOf, List.any_map]
  rfl

set_option maxHeartbeats 2000000 in
theorem parts_w (s : ByteArray) (w : World) (hs : s.size < 4294967281) (ht : Vars w) :
    Calls Tryz.prog 88 #[.string s] w fun e w' => ∃ r, e = .returned r ∧ Texts w' r (partsL s.data.toList) ∧ Ext w w' := by
  obtain ⟨m, hm⟩ := ht.most
  have hlen := splitB_bytes s
  have hall := Lib.splitB_all ⟨#[47]⟩ (by decide) 0 (Lib.countB s ⟨#[47]⟩) s rfl
  have hcl : Lib.countB s ⟨#[47]⟩ ≤ s.size := Lib.countB_le ⟨#[47]⟩ (by decide) s.size s (Nat.le_refl _)
  have C := Tryz.strings_Split s ⟨#[47]⟩ m w hs hm (by decide)
  rw [← hall] at C
  generalize hss : Lib.splitB ⟨#[47]⟩ 0 (Lib.countB s ⟨#[47]⟩) s = ss at C hlen hall
  clear hss
  have hz : ∀ x ∈ ss, x.size < 9223372036854775807 := by
    intro x hx
    have h1 : x.data.toList ∈ splitL s.data.toList := by rw [← hlen]; exact List.mem_map_of_mem hx
    have := mem_splitL_len h1
    rw [← size_len, ← size_len] at this
    omega
  have hl : ss.length ≤ 4294967281 := by omega
  have hlb : (splitL s.data.toList).length = ss.length := by rw [← hlen]; simp [bytesOf]
  have hal : Ext w (w.alloc (.cells (ss.map Value.string).toArray 9)) := (Ext.refl w).alloc _
  have hx : Strs (w.alloc (.cells (ss.map Value.string).toArray 9)) (.slice (some ⟨w.heap.size, 0, none⟩) ss.length ss.length) ss := by
    have := Sl.lit w 9 1 ss.length (ss.map Value.string).toArray (by simp) (by simp [maxLen]; omega)
    simpa [Strs] using this
  have HA := firstP_any wrongN ss
  have HP : Hid (partsL s.data.toList = if 3 < ss.length ∨ ss.any wrongN = true then [] else bytesOf ss) := by
    show partsL _ = _
    rw [partsL, hlb, any_wrong, hlen]
  clear hall hcl hlen hlb
  go_enter Tryz.func88, Tryz.ntmps88
  go_wp2_with fail
  refine C.mono ?_; rintro e w1 ⟨rfl, rfl⟩
  clear C
  generalize hW : w.alloc (.cells (ss.map Value.string).toArray 9) = W at hx hal
  by_cases h3 : 3 < ss.length
  · go_wp2
    go_ret
    exact ⟨_, rfl, by rw [HP.out, if_pos (Or.inl h3)]; exact Texts.nil _, hal⟩
  · have C := indexWrong_w ss (some ⟨w.heap.size, 0, none⟩) ss.length W (by omega) hz (ht.tabs.ext hal) hx
    cases ha : ss.any wrongN with
    | true =>
      have h0 := HA.2 ha
      go_wp2_with (first | (go_at_call 85; refine C.mono ?_; rintro e w2 ⟨rfl, hb2⟩) | go_in)
      go_ret
      exact ⟨_, rfl, by rw [HP.out, if_pos (Or.inr ha)]; exact Texts.nil _, hal.trans hb2⟩
    | false =>
      have h0 : ¬ (0 : Int) ≤ placeI (firstP wrongN ss) := fun h => by rw [HA.1 h] at ha; cases ha
      go_wp2_with (first | (go_at_call 85; refine C.mono ?_; rintro e w2 ⟨rfl, hb2⟩) | go_in)
      go_ret
      exact ⟨_, rfl, ⟨ss, hx.ext hb2, by rw [HP.out, if_neg (by simp [h3, ha])]⟩, hal.trans hb2⟩

end Go.Proofs.YtopnllbfhhjobaaGreatDoor

namespace Go.Proofs.YtopnllbfhhjobaaGreatDoor
open Go.RowKit Go.Dm


set_option maxHeartbeats 2000000 in
theorem upsOwn_w (s : ByteArray) (w : World) (hs : s.size < 4294967281) (ht : Vars w) :
    Calls Tryz.prog 79 #[.string s] w fun e w' => ∃ r ss, e = .returned r ∧ bytesOf ss = upsL s.data.toList ∧ w'.ownsRow w.heap.size 9 1 r ss.length (ss.map .string) ∧ Ext w w' := by
  have h3 := partsL_three s.data.toList
  go_enter Tryz.func79, Tryz.ntmps79
  go_wp2_with fail
  refine (parts_w s w hs ht).mono ?_; rintro e w1 ⟨r1, rfl, ⟨ss, hx, hP⟩, hb1⟩
  have hl : ss.length = (partsL s.data.toList).length := by rw [← hP]; simp [bytesOf]
  obtain ⟨q, cap, rfl, hcap, hcm⟩ := hx.shape
  go_wp2
  go_loopw [3, 8] (fun r i' wr => ∃ k : Nat, k ≤ ss.length ∧ i' = .int .i64 k ∧ Ext w wr ∧ wr.ownsRow w.heap.size 9 1 r k (((List.range k).map (upB (partsL s.data.toList))).map .string)) (fun _ i' _ => ss.length - (intOf i').toNat)
  case atStart => exact ⟨0, by omega, rfl, hb1, World.ownsRow_nil _ _ _ _⟩
  case round =>
    obtain ⟨k, hk, rfl, hb, ho⟩ := hrel
    by_cases hlt : k < ss.length
    · go_wp2_with fail
      refine (parts_w s wr hs (ht.ext hb)).mono ?_; rintro e w2 ⟨r2, rfl, ⟨ss2, hx2, hP2⟩, hb2⟩
      have hl2 : ss2.length = ss.length := by rw [hl, ← hP2]; simp [bytesOf]
      obtain ⟨q2, cap2, rfl, hcap2, hcm2⟩ := hx2.shape
      obtain ⟨b, off, rfl, hbl, _⟩ := hx2.at (show 0 < ss2.length by omega)
      have hsl := fun w => run_slice_high (P := Tryz.prog) 73 9 1 Tryz.slStr.ht (by kernel_rfl) (some ⟨b, off, none⟩) ss2.length cap2 (k + 1) (by omega) w
      have ho2 := Ext.row ho hb2
      have hb' := hb.trans hb2
      have C := Tryz.strings_Join b off cap2 (ss2.take (k + 1)) ⟨#[47]⟩ w2
        (fun j x hj => by
          have hj' : ss2[j]? = some x := by
            rw [List.getElem?_take] at hj
            split at hj
            · exact hj
            · cases hj
          obtain ⟨hjl, _⟩ := List.getElem?_eq_some_iff.1 hj'
          have := (hx2.cells hjl).2
          rw [this]
          simp [strAt, hj'])
        hbl (by simp; omega) (by simp; omega)
        (by
          have h1 := parts_join_len s.data.toList (k + 1)
          have h2 : (ss2.take (k + 1)).map (·.data.toList) = (partsL s.data.toList).take (k + 1) := by rw [← hP2, bytesOf, List.map_take]
          rw [h2]
          rw [← size_len] at h1
          show (Lib.join ((partsL s.data.toList).take (k + 1)) [47]).length ≤ _
          omega)
      rw [show (ss2.take (k + 1)).length = k + 1 by simp; omega, show (ss2.take (k + 1)).map (·.data.toList) = (partsL s.data.toList).take (k + 1) by rw [← hP2, bytesOf, List.map_take]] at C
      go_wp2_with fail
      refine C.mono ?_; rintro e w3 ⟨rfl, hb3⟩
      have hb3 : Ext w2 w3 := hb3
      clear C hsl
      have ho3 := Ext.row ho2 hb3
      have hb'' := hb'.trans hb3
      have hl3 := Sl.lit w3 9 1 1 #[.string (upB (partsL s.data.toList) k)] rfl (by simp [maxLen])
      have ha3 := (Ext.refl w3).alloc (.cells #[.string (upB (partsL s.data.toList) k)] 9)
      have ho4 := Ext.row ho3 ha3
      have hb4 := hb''.trans ha3
      clear hx hx2
      go_wp2_with (at_builtin; refine wpList_appE rfl _ _ Tryz.slStr rfl hb4 rfl ho4 rfl hl3 (strs_one [upB (partsL s.data.toList) k]) (by omega) ?_; intro v5 w5 ho5 hb5 _)
      go_roundw
      case rel => exact ⟨k + 1, by omega, by go_num, hb5, by rw [range_snoc_map, List.map_append]; exact ho5⟩
      case measure => simp [intOf]; omega
    · go_wp2
      go_ret
      obtain rfl : k = ss.length := by omega
      exact ⟨_, (List.range ss.length).map (upB (partsL s.data.toList)), rfl, by rw [upB_bytes, hl]; rfl, by rw [List.length_map, List.length_range]; exact ho, hb⟩

theorem ups_w (s : ByteArray) (w : World) (hs : s.size < 4294967281) (ht : Vars w) :
    Calls Tryz.prog 79 #[.string s] w fun e w' => ∃ r, e = .returned r ∧ Texts w' r (upsL s.data.toList) ∧ Ext w w' := by
  refine (upsOwn_w s w hs ht).mono ?_; rintro e w1 ⟨r, ss, rfl, hP, ho, hb⟩
  exact ⟨r, rfl, ⟨ss, Strs.of_row ho rfl, hP⟩, hb⟩

theorem underL_eq (a : ByteArray) (l : Bs) (ss : List ByteArray) (h : bytesOf ss = upsL l) : Lib.containsS ss a = underL a.data.toList l := by
  rw [Bool.eq_iff_iff, Lib.containsS_iff, underL, ← h]
  simp only [bytesOf, List.contains_iff_mem, List.mem_map]
  constructor
  · intro hm
    exact ⟨a, hm, rfl⟩
  · rintro ⟨x, hx, he⟩
    have : x = a := by
      cases x; cases a
      congr 1
      exact Array.toList_inj.1 he
    rw [← this]; exact hx

theorem upsL_len (l : Bs) : (upsL l).length = (partsL l).length := by simp [upsL]

set_option maxHeartbeats 1000000 in
theorem under_w (a s : ByteArray) (w : World) (hs : s.size < 4294967281) (ht : Vars w) :
    Calls Tryz.prog 62 #[.string a, .string s] w fun e w' => e = .returned (.bool (underL a.data.toList s.data.toList)) ∧ Ext w w' := by
  have h3 := partsL_three s.data.toList
  rw [← upsL_len] at h3
  go_enter Tryz.func62, Tryz.ntmps62
  go_wp2_with fail
  refine (ups_w s w hs ht).mono ?_; rintro e w1 ⟨r1, rfl, ⟨ss, hx, hP⟩, hb1⟩
  have hl : ss.length ≤ 3 := by rw [← hP] at h3; simpa [bytesOf] using h3
  clear h3
  have hu := underL_eq a _ ss hP
  obtain ⟨q, cap, rfl, hcap, hcm⟩ := hx.shape
  by_cases h0 : ss.length = 0
  · have hn : ss = [] := List.length_eq_zero_iff.1 h0
    subst hn
    have C := Tryz.slices_Contains_string_empty q cap a w1
    have hf := Lib.hid (show underL a.data.toList s.data.toList = false by rw [← hu]; rfl)
    clear hu
    go_wp2_with fail
    refine C.mono ?_; rintro e w2 ⟨rfl, rfl⟩
    go_wp2
    go_ret
    exact ⟨by rw [hf.out]; rfl, hb1⟩
  · obtain ⟨b, off, rfl, hbl, _⟩ := hx.at (show 0 < ss.length by omega)
    have C := Tryz.slices_Contains_string b off ss.length cap ss a w1 (Nat.le_refl _) (by omega) (fun j hj => (hx.cells hj).2)
    rw [List.take_length, hu] at C
    go_wp2_with fail
    refine C.mono ?_; rintro e w2 ⟨rfl, rfl⟩
    go_wp2
    go_ret
    exact ⟨rfl, hb1⟩

end Go.Proofs.YtopnllbfhhjobaaGreatDoor

namespace Go.Dm
open Go Go.RowKit

theorem count_round {l : Bs} {at' k : Nat} (h : at' < l.length) (hk : countL l = k + countL (l.drop at')) : countL l = (k + 1) + countL (l.drop (at' + wideL (l.drop at'))) ∧ at' + wideL (l.drop at') ≤ l.length ∧ max (longL (l.drop at')) 1 = wideL (l.drop at') ∧ 1 ≤ wideL (l.drop at') := by
  have hne : l.drop at' ≠ [] := by rw [Ne, List.drop_eq_nil_iff]; omega
  have h1 := wideL_le hne
  rw [List.length_drop] at h1
  refine ⟨?_, by omega, long_max hne, wideL_pos _⟩
  rw [hk, countL_step hne, List.drop_drop]; omega
end Go.Dm
namespace Go.Proofs.YtopnllbfhhjobaaGreatDoor
open Go.RowKit Go.Dm

set_option maxHeartbeats 1000000 in
theorem rcount_w (s : ByteArray) (w : World) (hs : s.size < 9223372036854775807) :
    Calls Tryz.prog 94 #[.string s] w fun e w' => e = .returned (.int .i64 (countL s.data.toList)) ∧ Ext w w' := by
  go_enter Tryz.func94, Tryz.ntmps94
  go_wp2
  go_loopw [3, 4] (fun n i' wr => ∃ (at' k : Nat), at' ≤ s.size ∧ k ≤ at' ∧ i' = .int .i64 at' ∧ n = .int .i64 k ∧ Ext w wr ∧ Hid (countL s.data.toList = k + countL (s.data.toList.drop at'))) (fun _ i' _ => s.size - (intOf i').toNat)
  case atStart => exact ⟨0, 0, by omega, by omega, rfl, rfl, Ext.refl _, by show _ = _; rw [List.drop_zero, Nat.zero_add]⟩
  case round =>
    obtain ⟨at', k, ha, hk, rfl, rfl, hb, HK⟩ := hrel
    by_cases hlt : at' < s.size
    · obtain ⟨r1, r2, r3, r4⟩ := count_round (by rw [← size_len]; exact hlt) HK.out
      have hex : (s.extract at' s.size).data.toList = s.data.toList.drop at' := Lib.extract_to_end s at'
      have hse : (s.extract at' s.size).size < 9223372036854775807 := by rw [size_len, hex, List.length_drop, ← size_len]; omega
      rw [← size_len] at r2
      rw [← hex] at r1 r2 r3 r4
      have r3 : max (longL (s.extract at' s.size).data.toList : Int) 1 = (wideL (s.extract at' s.size).data.toList : Int) := by omega
      have C := long_w (s.extract at' s.size) wr hse
      replace r1 := Lib.hid r1
      clear hex hse
      generalize longL (s.extract at' s.size).data.toList = L at *
      generalize wideL (s.extract at' s.size).data.toList = W at *
      go_wp2_with fail
      refine C.mono ?_; rintro e w2 ⟨rfl, h2⟩
      clear C
      go_wp2
      go_roundw
      case rel => exact ⟨at' + W, k + 1, by omega, by omega, by go_num, by go_num, hb.trans h2, r1⟩
      case measure => simp [intOf]; omega
    · go_wp2
      go_ret
      obtain rfl : at' = s.size := by omega
      have := HK.out
      rw [List.drop_eq_nil_iff.2 (by rw [← size_len]; omega), countL_nil, Nat.add_zero] at this
      exact ⟨by rw [this]; rfl, hb⟩

theorem letterR_one {s : ByteArray} (h1 : s.size = 1) : letterR s.data.toList = (decide (97 ≤ bAt s.data.toList 0) && decide (bAt s.data.toList 0 ≤ 122)) := by
  unfold letterR; rw [← size_len, if_pos h1]

set_option maxHeartbeats 1000000 in
theorem letter_w (s : ByteArray) (w : World) (hs : s.size < 9223372036854775807) :
    Calls Tryz.prog 96 #[.string s] w fun e w' => e = .returned (.bool (letterR s.data.toList)) ∧ Ext w w' := by
  by_cases h1 : s.size = 1
  · have hb : ((s.size : Int) == 1) = true := by rw [beq_iff_eq]; omega
    have h0 : 0 < s.size := by omega
    obtain ⟨a, ha⟩ : ∃ a : Int, ((s[0]'h0).toNat : Int) = a := ⟨_, rfl⟩
    have hz : Hid (letterR s.data.toList = (decide (97 ≤ a) && decide (a ≤ 122))) := by
      show _ = _
      rw [letterR_one h1, ← ha, sAt]
      congr 1 <;> exact decide_eq_decide.2 (by omega)
    clear h1
    by_cases c : 97 ≤ a
    · rw [decide_eq_true c] at hz
      go_enter Tryz.func96, Tryz.ntmps96
      go_wp2
      go_ret
      exact ⟨by rw [hz.out]; rfl, Ext.refl _⟩
    · rw [decide_eq_false c] at hz
      go_enter Tryz.func96, Tryz.ntmps96
      go_wp2
      go_ret
      exact ⟨by rw [hz.out]; rfl, Ext.refl _⟩
  · have hb : ((s.size : Int) == 1) = false := by rw [beq_eq_false_iff_ne]; omega
    by_cases h2 : s.size = 2
    · have hb2 : ((s.size : Int) != 2) = false := by simp; omega
      have h0 : 0 < s.size := by omega
      have h10 : 1 < s.size := by omega
      obtain ⟨a, ha⟩ : ∃ a : Int, ((s[0]'h0).toNat : Int) = a := ⟨_, rfl⟩
      obtain ⟨b, hb'⟩ : ∃ b : Int, ((s[1]'h10).toNat : Int) = b := ⟨_, rfl⟩
      have ha0 : 0 ≤ a ∧ a ≤ 255 := by rw [← ha, sAt]; have := bAt_lt s.data.toList 0; omega
      have hb0 : 0 ≤ b ∧ b ≤ 255 := by rw [← hb', sAt]; have := bAt_lt s.data.toList 1; omega
      have hz : Hid (letterR s.data.toList = ((decide (945 ≤ a % 32 * 64 + b % 64) && decide (a % 32 * 64 + b % 64 ≤ 969)) || (decide (1072 ≤ a % 32 * 64 + b % 64) && decide (a % 32 * 64 + b % 64 ≤ 1103)))) := by
        show _ = _
        unfold letterR
        rw [← size_len, if_neg h1, if_pos h2, ← ha, ← hb', sAt, sAt]
        congr 1 <;> congr 1 <;> exact decide_eq_decide.2 (by omega)
      clear h1 h2
      obtain ⟨p, hp⟩ : ∃ p : Int, a % 32 = p := ⟨_, rfl⟩
      obtain ⟨q, hq⟩ : ∃ q : Int, b % 64 = q := ⟨_, rfl⟩
      have hp' : a.tmod 32 = p := by rw [Int.tmod_eq_emod_of_nonneg ha0.1]; exact hp
      have hq' : b.tmod 64 = q := by rw [Int.tmod_eq_emod_of_nonneg hb0.1]; exact hq
      have hpb : 0 ≤ p ∧ p ≤ 31 := by omega
      have hqb : 0 ≤ q ∧ q ≤ 63 := by omega
      rw [hp, hq] at hz
      obtain ⟨n, hn⟩ : ∃ n : Int, p * 64 + q = n := ⟨_, rfl⟩
      rw [hn] at hz
      have hw1 : IntKind.i64.wrap (p * 64) = p * 64 := IntWalk.i64_in _ (by omega)
      have hw2 : IntKind.i64.wrap (p * 64 + q) = n := by rw [← hn]; exact IntWalk.i64_in _ (by omega)
      go_enter Tryz.func96, Tryz.ntmps96
      go_wp2_with fail
      refine Dm.wp_region_grow (by kernel_rfl) (by kernel_rfl) ?_
      repeat (go_big_quiet_step (fail))
      refine wpQuiet_nil ?_
      intro W hW'
      clear hw1 hw2 hn hp hq hp' hq' ha hb'
      by_cases c1 : 945 ≤ n
      · by_cases c2 : n ≤ 969
        · have hv : letterR s.data.toList = true := by rw [hz.out]; simp; omega
          replace hv := Lib.hid hv
          go_wp2
          go_ret
          exact ⟨by rw [hv.out]; rfl, hW'⟩
        · by_cases c3 : 1072 ≤ n
          · by_cases c4 : n ≤ 1103
            · have hv : letterR s.data.toList = true := by rw [hz.out]; simp; omega
              replace hv := Lib.hid hv
              go_wp2
              go_ret
              exact ⟨by rw [hv.out]; rfl, hW'⟩
            · have hv : letterR s.data.toList = false := by rw [hz.out]; simp; omega
              replace hv := Lib.hid hv
              go_wp2
              go_ret
              exact ⟨by rw [hv.out]; rfl, hW'⟩
          · have hv : letterR s.data.toList = false := by rw [hz.out]; simp; omega
            replace hv := Lib.hid hv
            go_wp2
            go_ret
            exact ⟨by rw [hv.out]; rfl, hW'⟩
      · have hv : letterR s.data.toList = false := by rw [hz.out]; simp; omega
        replace hv := Lib.hid hv
        go_wp2
        go_ret
        exact ⟨by rw [hv.out]; rfl, hW'⟩
    · have hb2 : ((s.size : Int) != 2) = true := by simp; omega
      have hz : Hid (letterR s.data.toList = false) := by show _ = _; unfold letterR; rw [← size_len, if_neg h1, if_neg h2]
      clear h1 h2
      go_enter Tryz.func96, Tryz.ntmps96
      go_wp2
      go_ret
      exact ⟨by rw [hz.out]; rfl, Ext.refl _⟩

set_option maxHeartbeats 2000000 in
theorem rright_w (s : ByteArray) (w : World) (hs : s.size < 9223372036854775807) :
    Calls Tryz.prog 84 #[.string s] w fun e w' => e = .returned (.bool (rightL s.data.toList)) ∧ Ext w w' := by
  by_cases h0 : s.size = 0
  · have hb : ((s.size : Int) == 0) = true := by rw [beq_iff_eq]; omega
    have hz : Hid (rightL s.data.toList = false) := by
      show _ = _
      rw [show s.data.toList = [] from List.length_eq_zero_iff.1 (by rw [← size_len]; exact h0)]; rfl
    clear h0
    go_enter Tryz.func84, Tryz.ntmps84
    go_wp2
    go_ret
    exact ⟨by rw [hz.out]; rfl, Ext.refl _⟩
  · have hb : ((s.size : Int) == 0) = false := by rw [beq_eq_false_iff_ne]; omega
    have hne : s.data.toList.isEmpty = false := by
      rw [List.isEmpty_eq_false_iff]
      intro h; apply h0; rw [size_len, h]; rfl
    go_enter Tryz.func84, Tryz.ntmps84
    go_wp2_with fail
    refine (rcount_w s w hs).mono ?_; rintro e w1 ⟨rfl, e1⟩
    by_cases h16 : countL s.data.toList ≤ 16
    · go_wp2
      go_loopw [3] (fun i' wr => ∃ pos : Nat, pos ≤ s.size ∧ i' = .int .i64 pos ∧ Ext w1 wr ∧ Hid (okL true s.data.toList = okL (pos == 0) (s.data.toList.drop pos))) (fun i' _ => s.size - (intOf i').toNat)
      case atStart => exact ⟨0, by omega, rfl, Ext.refl _, rfl⟩
      case round =>
        obtain ⟨pos, hps, rfl, hbw, HK⟩ := hrel
        have fr := e1.trans hbw
        by_cases hp : pos < s.size
        · have HR := Lib.hid (right_round hp HK.out)
          have HB := Lib.hid (right_bad hp HK.out)
          have hex : (s.extract pos s.size).data.toList = s.data.toList.drop pos := Lib.extract_to_end s pos
          have hse : (s.extract pos s.size).size < 9223372036854775807 := by rw [size_len, hex, List.length_drop, ← size_len]; omega
          have CL := long_w (s.extract pos s.size) wr hse
          rw [hex] at CL
          have hned : s.data.toList.drop pos ≠ [] := by rw [Ne, List.drop_eq_nil_iff, ← size_len]; omega
          have hle := long_le (s.data.toList.drop pos)
          rw [List.length_drop, ← size_len] at hle
          by_cases hz : longL (s.data.toList.drop pos) = 0
          · have h2 := long_zero hned hz
            have hB := Lib.hid (HB.out (by rw [h2.1, h2.2]; simp))
            rw [hz] at CL
            clear hz hle h2 hex hse hned
            go_wp2_with fail
            refine CL.mono ?_; rintro e w2 ⟨rfl, h2⟩
            go_wp2
            go_ret
            exact ⟨by rw [hB.out]; rfl, fr.trans h2⟩
          · have hlt := letter_take hz
            have hmk := mark_take hz
            have hww := long_wide hz
            rw [hww] at HR
            have hxd : (s.extract pos (pos + longL (s.data.toList.drop pos))).data.toList = (s.data.toList.drop pos).take (longL (s.data.toList.drop pos)) := by rw [Lib.extract_data]; congr 1; omega
            have hxs : (s.extract pos (pos + longL (s.data.toList.drop pos))).size = longL (s.data.toList.drop pos) := by rw [size_len, hxd, List.length_take, List.length_drop, ← size_len]; omega
            rw [← hxd] at hlt hmk
            generalize longL (s.data.toList.drop pos) = n at *
            generalize runeL (s.data.toList.drop pos) = r at *
            have hn0 : ((n : Int) == 0) = false := by rw [beq_eq_false_iff_ne]; omega
            have hpn : pos + n ≤ s.size := by omega
            clear hex hse hned hww hxd
            obtain ⟨X, hXe⟩ : ∃ X, s.extract pos (pos + n) = X := ⟨_, rfl⟩
            rw [hXe] at hlt hmk hxs
            have hlet := letter_w X
            rw [hlt] at hlet
            have hXs : X.size < 9223372036854775807 := by omega
            have hmk' : markB r = ((X.data.toList == [45]) || (n == 1 && (decide (48 ≤ bAt X.data.toList 0) && decide (bAt X.data.toList 0 ≤ 57)))) := hmk.symm
            replace hmk' := Lib.hid hmk'
            clear hmk hlt
            by_cases hd : X.data.toList = [45]
            · have hm : Hid (markB r = true) := by show _ = _; rw [hmk'.out, hd]; rfl
              have hX45 : X = ⟨#[45]⟩ := by rw [mk_bytes hd]
              subst hX45
              clear hd hmk'
              go_wp2_with fail
              refine CL.mono ?_; rintro e w2 ⟨rfl, h2⟩
              clear CL
              go_wp2_with fail
              refine (hlet w2 hXs).mono ?_; rintro e w3 ⟨rfl, h3⟩
              have f3 := hbw.trans (h2.trans h3)
              clear hlet
              cases hl : letterB r with
              | true =>
                rw [hl, Bool.true_or] at HR
                have hst := HR.out rfl
                clear HB
                go_wp2
                go_roundw
                case rel => exact ⟨pos + n, by omega, by go_num, f3, hst.2⟩
                case measure => simp [intOf]; omega
              | false =>
                rw [hl, Bool.false_or, hm.out] at HR HB
                by_cases h0p : pos = 0
                · have hpz : ((pos : Int) == 0) = true := by rw [beq_iff_eq]; omega
                  have hB := Lib.hid (HB.out (by rw [h0p]; rfl))
                  clear h0p HR HB
                  go_wp2
                  go_ret
                  exact ⟨by rw [hB.out]; rfl, e1.trans f3⟩
                · have hpz : ((pos : Int) == 0) = false := by rw [beq_eq_false_iff_ne]; omega
                  have hpz' : (pos == 0) = false := by rw [beq_eq_false_iff_ne]; exact h0p
                  rw [hpz'] at HR HB
                  clear hpz' h0p
                  have hst := HR.out rfl
                  clear HB HR
                  go_wp2
                  go_roundw
                  case rel => exact ⟨pos + n, by omega, by go_num, f3, hst.2⟩
                  case measure => simp [intOf]; omega
            · have hdb : (X.data.toList == [45]) = false := by rw [beq_eq_false_iff_ne]; exact hd
              have hXt : (X.toList == [45]) = false := by rw [ByteArray.toList_eq]; exact hdb
              have hXt' : ¬ X.toList = [45] := by rw [ByteArray.toList_eq]; exact hd
              by_cases h1 : n = 1
              · have hn1 : ((n : Int) == 1) = true := by rw [beq_iff_eq]; omega
                have hX0 : 0 < X.size := by omega
                obtain ⟨a, ha⟩ : ∃ a : Int, ((X[0]'hX0).toNat : Int) = a := ⟨_, rfl⟩
                have hab : (bAt X.data.toList 0 : Int) = a := by rw [← sAt hX0]; exact ha
                by_cases c1 : 48 ≤ a
                · by_cases c2 : a ≤ 57
                  · have hm : Hid (markB r = true) := by show _ = _; rw [hmk'.out, hdb, h1, decide_eq_true (by omega), decide_eq_true (by omega)]; rfl
                    clear hab hd hdb hmk' h1
                    go_wp2_with fail
                    refine CL.mono ?_; rintro e w2 ⟨rfl, h2⟩
                    clear CL
                    go_wp2_with fail
                    refine (hlet w2 hXs).mono ?_; rintro e w3 ⟨rfl, h3⟩
                    have f3 := hbw.trans (h2.trans h3)
                    clear hlet
                    cases hl : letterB r with
                    | true =>
                      rw [hl, Bool.true_or] at HR
                      have hst := HR.out rfl
                      clear HB
                      go_wp2
                      go_roundw
                      case rel => exact ⟨pos + n, by omega, by go_num, f3, hst.2⟩
                      case measure => simp [intOf]; omega
                    | false =>
                      rw [hl, Bool.false_or, hm.out] at HR HB
                      by_cases h0p : pos = 0
                      · have hpz : ((pos : Int) == 0) = true := by rw [beq_iff_eq]; omega
                        have hB := Lib.hid (HB.out (by rw [h0p]; rfl))
                        clear h0p HR HB
                        go_wp2
                        go_ret
                        exact ⟨by rw [hB.out]; rfl, e1.trans f3⟩
                      · have hpz : ((pos : Int) == 0) = false := by rw [beq_eq_false_iff_ne]; omega
                        have hpz' : (pos == 0) = false := by rw [beq_eq_false_iff_ne]; exact h0p
                        rw [hpz'] at HR HB
                        clear hpz' h0p
                        have hst := HR.out rfl
                        clear HB HR
                        go_wp2
                        go_roundw
                        case rel => exact ⟨pos + n, by omega, by go_num, f3, hst.2⟩
                        case measure => simp [intOf]; omega
                  · have hm : Hid (markB r = false) := by show _ = _; rw [hmk'.out, hdb, h1, decide_eq_true (p := 48 ≤ bAt X.data.toList 0) (by omega), decide_eq_false (by omega)]; rfl
                    have c2b : decide (a ≤ 57) = false := decide_eq_false c2
                    clear hab hd hdb hmk' h1
                    go_wp2_with fail
                    refine CL.mono ?_; rintro e w2 ⟨rfl, h2⟩
                    clear CL
                    go_wp2_with fail
                    refine (hlet w2 hXs).mono ?_; rintro e w3 ⟨rfl, h3⟩
                    have f3 := hbw.trans (h2.trans h3)
                    clear hlet
                    cases hl : letterB r with
                    | true =>
                      rw [hl, Bool.true_or] at HR
                      have hst := HR.out rfl
                      clear HB
                      go_wp2
                      go_roundw
                      case rel => exact ⟨pos + n, by omega, by go_num, f3, hst.2⟩
                      case measure => simp [intOf]; omega
                    | false =>
                      rw [hl, Bool.false_or, hm.out] at HR HB
                      by_cases h0p : pos = 0
                      · have hpz : ((pos : Int) == 0) = true := by rw [beq_iff_eq]; omega
                        have hB := Lib.hid (HB.out (by rw [h0p]; rfl))
                        clear h0p HR HB
                        go_wp2
                        go_ret
                        exact ⟨by rw [hB.out]; rfl, e1.trans f3⟩
                      · have hpz : ((pos : Int) == 0) = false := by rw [beq_eq_false_iff_ne]; omega
                        have hpz' : (pos == 0) = false := by rw [beq_eq_false_iff_ne]; exact h0p
                        rw [hpz'] at HR HB
                        clear hpz' h0p
                        have hB := Lib.hid (HB.out rfl)
                        clear HB HR
                        go_wp2
                        go_ret
                        exact ⟨by rw [hB.out]; rfl, e1.trans f3⟩
                · have hm : Hid (markB r = false) := by show _ = _; rw [hmk'.out, hdb, h1, decide_eq_false (p := 48 ≤ bAt X.data.toList 0) (by omega)]; rfl
                  clear hab hd hdb hmk' h1
                  go_wp2_with fail
                  refine CL.mono ?_; rintro e w2 ⟨rfl, h2⟩
                  clear CL
                  go_wp2_with fail
                  refine (hlet w2 hXs).mono ?_; rintro e w3 ⟨rfl, h3⟩
                  have f3 := hbw.trans (h2.trans h3)
                  clear hlet
                  cases hl : letterB r with
                  | true =>
                    rw [hl, Bool.true_or] at HR
                    have hst := HR.out rfl
                    clear HB
                    go_wp2
                    go_roundw
                    case rel => exact ⟨pos + n, by omega, by go_num, f3, hst.2⟩
                    case measure => simp [intOf]; omega
                  | false =>
                    rw [hl, Bool.false_or, hm.out] at HR HB
                    by_cases h0p : pos = 0
                    · have hpz : ((pos : Int) == 0) = true := by rw [beq_iff_eq]; omega
                      have hB := Lib.hid (HB.out (by rw [h0p]; rfl))
                      clear h0p HR HB
                      go_wp2
                      go_ret
                      exact ⟨by rw [hB.out]; rfl, e1.trans f3⟩
                    · have hpz : ((pos : Int) == 0) = false := by rw [beq_eq_false_iff_ne]; omega
                      have hpz' : (pos == 0) = false := by rw [beq_eq_false_iff_ne]; exact h0p
                      rw [hpz'] at HR HB
                      clear hpz' h0p
                      have hB := Lib.hid (HB.out rfl)
                      clear HB HR
                      go_wp2
                      go_ret
                      exact ⟨by rw [hB.out]; rfl, e1.trans f3⟩
              · have hn1 : ((n : Int) == 1) = false := by rw [beq_eq_false_iff_ne]; omega
                have hm : Hid (markB r = false) := by show _ = _; rw [hmk'.out, hdb, show (n == 1) = false by rw [beq_eq_false_iff_ne]; exact h1]; rfl
                clear hd hdb hmk' h1
                go_wp2_with fail
                refine CL.mono ?_; rintro e w2 ⟨rfl, h2⟩
                clear CL
                go_wp2_with fail
                refine (hlet w2 hXs).mono ?_; rintro e w3 ⟨rfl, h3⟩
                have f3 := hbw.trans (h2.trans h3)
                clear hlet
                cases hl : letterB r with
                | true =>
                  rw [hl, Bool.true_or] at HR
                  have hst := HR.out rfl
                  clear HB
                  go_wp2
                  go_roundw
                  case rel => exact ⟨pos + n, by omega, by go_num, f3, hst.2⟩
                  case measure => simp [intOf]; omega
                | false =>
                  rw [hl, Bool.false_or, hm.out] at HR HB
                  by_cases h0p : pos = 0
                  · have hpz : ((pos : Int) == 0) = true := by rw [beq_iff_eq]; omega
                    have hB := Lib.hid (HB.out (by rw [h0p]; rfl))
                    clear h0p HR HB
                    go_wp2
                    go_ret
                    exact ⟨by rw [hB.out]; rfl, e1.trans f3⟩
                  · have hpz : ((pos : Int) == 0) = false := by rw [beq_eq_false_iff_ne]; omega
                    have hpz' : (pos == 0) = false := by rw [beq_eq_false_iff_ne]; exact h0p
                    rw [hpz'] at HR HB
                    clear hpz' h0p
                    have hB := Lib.hid (HB.out rfl)
                    clear HB HR
                    go_wp2
                    go_ret
                    exact ⟨by rw [hB.out]; rfl, e1.trans f3⟩
        · go_wp2
          go_ret
          obtain rfl : pos = s.size := by omega
          refine ⟨?_, fr⟩
          have := HK.out
          rw [List.drop_eq_nil_iff.2 (by rw [← size_len]; omega)] at this
          unfold rightL
          rw [this, hne, decide_eq_true h16]
          rfl
    · have hz : Hid (rightL s.data.toList = false) := by show _ = _; unfold rightL; rw [decide_eq_false h16, Bool.and_false]
      go_wp2
      go_ret
      exact ⟨by rw [hz.out]; rfl, e1⟩

end Go.Proofs.YtopnllbfhhjobaaGreatDoor
