/- Texts one behind the other: Chapter 2: the walks of the program's spans, runes and names; What the walks know of the package-level variables; Chapter 2: the walk of the program's Parts; Chapter 2: the walks of the program's Ups and Under. -/
import Derived.Test.YtopnllbfhhjobaaDoorWPure
import Derived.Test.YtopnllbfhhjobaaDoorT11
import Derived.Test.YtopnllbfhhjobaaDoorShelf
import Derived.Test.YtopnllbfhhjobaaDoorT2
import Derived.Lib.OthersKept
import Derived.Test.YtopnllbfhhjobaaDoorT5
import Derived.OwnWalk
import Derived.Test.YtopnllbfhhjobaaDoorT8
namespace Go.Dm
open Go Go.RowKit

abbrev Span := Int × Int
def spanAt (l : List Span) (k : Nat) : Span := l.getD k (0, 0)
def spanCells (l : List Span) : List Value := l.flatMap fun x => [.int .i32 x.1, .int .i32 x.2]
def inSpan (r : Int) (x : Span) : Bool := decide (x.1 ≤ r) && decide (r ≤ x.2)

theorem spanCells_at : ∀ (xs : List Span) (k : Nat), k < xs.length → (spanCells xs)[k*2]? = some (.int .i32 (spanAt xs k).1) ∧ (spanCells xs)[k*2+1]? = some (.int .i32 (spanAt xs k).2)
  | x :: xs, 0, _ => by simp [spanCells, spanAt]
  | x :: xs, k+1, h => by
    have := spanCells_at xs k (by simpa using h)
    have e : (k+1)*2 = k*2+1+1 := by omega
    have e2 : (k+1)*2+1 = k*2+1+1+1 := by omega
    simp only [e, spanCells, spanAt, List.flatMap_cons, List.cons_append, List.nil_append, List.getElem?_cons_succ, List.getD_cons_succ]
    exact this

def Spans (w : World) (v : Value) (l : List Span) : Prop := Sl w 2 v l.length (spanCells l)
theorem Spans.ext {w w' : World} {v l} (h : Spans w v l) (hb : Ext w w') : Spans w' v l := Sl.ext h hb
theorem Spans.shape {w : World} {v l} (h : Spans w v l) : ∃ p cap, v = .slice p l.length cap ∧ l.length ≤ cap ∧ cap ≤ maxLen := by
  obtain ⟨p, cap, h1, h2, h3, _⟩ := Sl.shape h
  exact ⟨p, cap, h1, h2, h3⟩
theorem Spans.at {w : World} {xs : List Span} {p cap} (h : Spans w (.slice p xs.length cap) xs) {k : Nat} (hk : k < xs.length) :
    ∃ b off, p = some ⟨b, off, none⟩ ∧ b < w.heap.size ∧ w.cell? ⟨b, off + k*2, none⟩ = some (.int .i32 (spanAt xs k).1) ∧ w.cell? ⟨b, off + k*2 + 1, none⟩ = some (.int .i32 (spanAt xs k).2) := by
  obtain ⟨b, off, hp, hb, h⟩ := Sl.at h (by omega)
  have := spanCells_at xs k hk
  exact ⟨b, off, hp, hb, h _ _ this.1, by have := h _ _ this.2; rw [show off + (k*2+1) = off + k*2+1 by omega] at this; exact this⟩

end Go.Dm
namespace Go.Proofs.YtopnllbfhhjobaaDoor
open Go.RowKit Go.Dm

set_option maxHeartbeats 400000 in
theorem among1_w (r a b : Int) (c o : Nat) (w : World) (hcl : c < w.heap.size) (hc : w.cell? ⟨c, o, none⟩ = some (.int .i32 r)) :
    Calls Tryd.prog 86 #[.agg #[.int .i32 a, .int .i32 b], .pointer (some ⟨c, o, none⟩)] w fun e w' => e = .returned (.bool (inSpan r (a, b))) ∧ Ext w w' := by
  go_enter Tryd.func86, Tryd.ntmps86
  go_wp2
  all_goals go_ret
  all_goals exact ⟨by first | (simp_all [inSpan]; done) | (simp_all [inSpan]; omega), (Below.refl _ _).alloc (Nat.le_refl _) _⟩

set_option maxHeartbeats 400000 in
theorem indexSpan_w (l : List Span) (r : Int) (q : Option Addr) (cap : Nat) (c o : Nat) (w : World) (hm : l.length ≤ 35184372088832)
    (hx : Spans w (.slice q l.length cap) l) (hcl : c < w.heap.size) (hc : w.cell? ⟨c, o, none⟩ = some (.int .i32 r)) :
    Calls Tryd.prog 95 #[.slice q l.length cap, .func (.func 86) #[] #[.pointer (some ⟨c, o, none⟩)]] w
      fun e w' => e = .returned (.int .i64 (placeI (firstP (inSpan r) l))) ∧ Ext w w' := by
  go_enter Tryd.func95, Tryd.ntmps95
  go_wp2
  go_loopw [4, 8] (fun z i wr => ∃ k : Nat, k ≤ l.length ∧ i = .int .i64 k ∧ z = .int .i64 0 ∧ Ext w wr ∧ Hid (∀ j, j < k → inSpan r (spanAt l j) = false)) (fun _ i _ => l.length - (intOf i).toNat)
  case atStart => exact ⟨0, by omega, rfl, rfl, Ext.refl w, fun j hj => by omega⟩
  case round =>
    obtain ⟨k, hk, rfl, rfl, hb, HN⟩ := hrel
    by_cases hlt : k < l.length
    · obtain ⟨b, off, rfl, hbl, c0, c1⟩ := (hx.ext hb).at hlt
      have hcl' : c < wr.heap.size := Nat.lt_of_lt_of_le hcl hb.size
      have hc' : wr.cell? ⟨c, o, none⟩ = some (.int .i32 r) := by rw [hb.cell (by exact hcl)]; exact hc
      go_wp2_with fail
      refine (among1_w r _ _ _ _ _ hcl' hc').mono ?_; rintro e w' ⟨rfl, hb1⟩
      cases ht : inSpan r (spanAt l k) with
      | true =>
        go_wp2
        go_ret
        refine ⟨?_, hb.trans hb1⟩
        rw [firstP_hit (0, 0) hlt HN.out ht]
        rfl
      | false =>
        go_wp2
        go_roundw
        case rel => exact ⟨k + 1, by omega, by go_num, rfl, hb.trans hb1, fun j hj => by
          rcases Nat.lt_succ_iff_lt_or_eq.1 hj with h | rfl
          · exact HN.out j h
          · exact ht⟩
        case measure => simp [intOf]; omega
    · go_wp2
      go_ret
      obtain rfl : k = l.length := by omega
      refine ⟨?_, hb⟩
      rw [firstP_miss (0, 0) HN.out]
      rfl

set_option maxHeartbeats 400000 in
theorem among_w (l : List Span) (r : Int) (v : Value) (w : World) (hm : l.length ≤ 35184372088832) (hx : Spans w v l) :
    Calls Tryd.prog 73 #[.int .i32 r, v] w fun e w' => e = .returned (.bool (l.any (inSpan r))) ∧ Ext w w' := by
  obtain ⟨q, cap, rfl, _, _⟩ := hx.shape
  have fin : Ext w (w.alloc (.cells #[.int .i32 r] 21)) := (Below.refl _ _).alloc (Nat.le_refl _) _
  have hx' := hx.ext fin
  have hA := firstP_any (inSpan r) l
  go_enter Tryd.func73, Tryd.ntmps73
  cases ha : l.any (inSpan r) with
  | true =>
    have h0 := hA.2 ha
    go_wp2_with (first | (go_at_call 95; refine (indexSpan_w l r q cap w.heap.size 0 _ hm hx' (by simp) (by simp)).mono ?_; rintro e w' ⟨rfl, hb1⟩) | go_in)
    go_ret
    exact ⟨rfl, fin.trans hb1⟩
  | false =>
    have h0 : ¬ (0 : Int) ≤ placeI (firstP (inSpan r) l) := fun h => by rw [hA.1 h] at ha; cases ha
    go_wp2_with (first | (go_at_call 95; refine (indexSpan_w l r q cap w.heap.size 0 _ hm hx' (by simp) (by simp)).mono ?_; rintro e w' ⟨rfl, hb1⟩) | go_in)
    go_ret
    exact ⟨rfl, fin.trans hb1⟩

/-- The package's tables lie as its text lays them. -/
def letters : List Span := [(97, 122), (945, 969), (1072, 1103)]
def marks : List Span := [(48, 57), (45, 45)]
structure Tabs (w : World) : Prop where
  letters : Spans w (.slice (some ⟨0, 0, none⟩) 3 3) letters
  marks : Spans w (.slice (some ⟨1, 0, none⟩) 2 2) marks

theorem Tabs.ext {w w' : World} (h : Tabs w) (hb : Ext w w') : Tabs w' := ⟨h.letters.ext hb, h.marks.ext hb⟩

theorem letters_any (r : Nat) : letters.any (inSpan r) = letterB r := by
  simp only [letters, List.any_cons, List.any_nil, inSpan, letterB, Bool.or_false, Bool.or_assoc]
  congr 1
  · congr 1 <;> exact decide_eq_decide.2 (by omega)
  · congr 1 <;> congr 1 <;> exact decide_eq_decide.2 (by omega)

theorem marks_any (r : Nat) : marks.any (inSpan r) = markB r := by
  simp only [marks, List.any_cons, List.any_nil, inSpan, markB, Bool.or_false]
  by_cases h : r = 45
  · subst h; decide
  · have : (r == 45) = false := by rw [beq_eq_false_iff_ne]; exact h
    rw [this, Bool.or_false]
    have : (decide ((45 : Int) ≤ r) && decide ((r : Int) ≤ 45)) = false := by
      rw [Bool.and_eq_false_iff, decide_eq_false_iff_not, decide_eq_false_iff_not]; omega
    rw [this, Bool.or_false]
    congr 1 <;> exact decide_eq_decide.2 (by omega)

set_option maxHeartbeats 400000 in
theorem count_w (s : ByteArray) (w : World) (hs : s.size < 9223372036854775807) :
    Calls Tryd.prog 74 #[.string s] w fun e w' => e = .returned (.int .i64 (countL s.data.toList)) ∧ Ext w w' := by
  go_enter Tryd.func74, Tryd.ntmps74
  go_wp2_with fail
  refine (Tryd.utf8_RuneCountInString s w hs).mono ?_; rintro e w' ⟨rfl, pos, rfl⟩
  rw [runeCount_eq]
  go_wp2
  go_ret
  exact ⟨rfl, (Ext.refl w).alloc _⟩

theorem iter_ext {w w' : World} {k p : Nat} {s : ByteArray} (h : Ext w w') (hit : w.heap[k]? = some (.stringIter s p)) : w'.heap[k]? = some (.stringIter s p) := by
  have hlt : k < w.heap.size := (Array.getElem?_eq_some_iff.1 hit).1
  rw [h.block _ hlt]; exact hit

theorem iterPos_of {w : World} {k p : Nat} {s : ByteArray} (hit : w.heap[k]? = some (.stringIter s p)) : w.iterPos k = p := by simp [World.iterPos, hit]

/-- A round of the loop over a name's runes. -/
theorem right_round {s : ByteArray} {pos : Nat} (hp : pos < s.size) (HK : okL true s.data.toList = okL (pos == 0) (s.data.toList.drop pos))
    (hr : (letterB (runeL (s.data.toList.drop pos)) || (!(pos == 0) && markB (runeL (s.data.toList.drop pos)))) = true) :
    pos + wideL (s.data.toList.drop pos) ≤ s.size ∧ okL true s.data.toList = okL (pos + wideL (s.data.toList.drop pos) == 0) (s.data.toList.drop (pos + wideL (s.data.toList.drop pos))) := by
  have hne : s.data.toList.drop pos ≠ [] := by rw [Ne, List.drop_eq_nil_iff, ← size_len]; omega
  have h1 := wideL_le hne
  have h2 := wideL_pos (s.data.toList.drop pos)
  rw [List.length_drop, ← size_len] at h1
  refine ⟨by omega, ?_⟩
  have h3 : (pos + wideL (s.data.toList.drop pos) == 0) = false := by rw [beq_eq_false_iff_ne]; omega
  rw [HK, okL_step _ hne, hr, h3, List.drop_drop, Bool.true_and]

theorem right_bad {s : ByteArray} {pos : Nat} (hp : pos < s.size) (HK : okL true s.data.toList = okL (pos == 0) (s.data.toList.drop pos))
    (hr : (letterB (runeL (s.data.toList.drop pos)) || (!(pos == 0) && markB (runeL (s.data.toList.drop pos)))) = false) : rightL s.data.toList = false := by
  have hne : s.data.toList.drop pos ≠ [] := by rw [Ne, List.drop_eq_nil_iff, ← size_len]; omega
  unfold rightL
  rw [HK, okL_step _ hne, hr]
  rfl

set_option maxHeartbeats 2000000 in
theorem right_w (s : ByteArray) (w : World) (hs : s.size < 9223372036854775807) (ht : Tabs w) :
    Calls Tryd.prog 58 #[.string s] w fun e w' => e = .returned (.bool (rightL s.data.toList)) ∧ Ext w w' := by
  go_enter Tryd.func58, Tryd.ntmps58
  go_wp2
  go_loopw [2] (fun _ wr => ∃ pos : Nat, Ext w wr ∧ wr.heap[w.heap.size]? = some (.stringIter s pos) ∧ pos ≤ s.size ∧ Hid (okL true s.data.toList = okL (pos == 0) (s.data.toList.drop pos))) (fun _ wr => s.size - wr.iterPos w.heap.size)
  case atStart => exact ⟨0, (Ext.refl w).alloc _, by simp [World.iter_heap], by omega, rfl⟩
  case round =>
    obtain ⟨pos, hb, hit, hps, HK⟩ := hrel
    by_cases hp : pos < s.size
    · have hnx : ∀ ty, (Instr.next (.pointer (some ⟨w.heap.size, 0, none⟩)) true ty).run Tryd.prog wr = _ := fun ty => Lib.run_next_any_at wr w.heap.size s pos ty hit hp
      have e1 : (Utf8.decode s pos).1 = runeL (s.data.toList.drop pos) := by rw [decode_eq]; rfl
      have e2 : (Utf8.decode s pos).2 = wideL (s.data.toList.drop pos) := by rw [decode_eq]; rfl
      rw [e1, e2] at hnx
      clear e1 e2
      have hb1 : Ext w (wr.iterAt w.heap.size s (pos + wideL (s.data.toList.drop pos))) := Lib.below_iterAt hb (Nat.le_refl _) s _
      have hit1 := Lib.iterAt_heap wr w.heap.size s pos (pos + wideL (s.data.toList.drop pos)) hit
      have HR := Lib.hid (right_round hp HK.out)
      have HB := Lib.hid (right_bad hp HK.out)
      have hw1 := wideL_pos (s.data.toList.drop pos)
      generalize runeL (s.data.toList.drop pos) = r at *
      generalize wideL (s.data.toList.drop pos) = n at *
      have CL := among_w letters r _ _ (by decide) (ht.letters.ext hb1)
      rw [letters_any] at CL
      have CM : ∀ U, Ext w U → _ := fun U hU => among_w marks r _ U (by decide) (ht.marks.ext hU)
      simp only [marks_any] at CM
      have CM := Lib.hid CM
      go_wp2_with fail
      refine CL.mono ?_; rintro e w1 ⟨rfl, hb2⟩
      have hit2 := iter_ext hb2 hit1
      cases hl : letterB r with
      | true =>
        rw [hl] at HR
        obtain ⟨h1, h2⟩ := HR.out (by simp)
        go_wp2
        go_roundw
        case rel => exact ⟨pos + n, hb1.trans hb2, hit2, h1, h2⟩
        case measure => rw [iterPos_of hit2, iterPos_of hit]; omega
      | false =>
        rw [hl] at HR HB
        by_cases h0 : pos = 0
        · subst h0
          have hB := HB.out (by simp)
          go_wp2
          go_ret
          exact ⟨by rw [hB]; rfl, hb1.trans hb2⟩
        · have h0b : (pos == 0) = false := by rw [beq_eq_false_iff_ne]; exact h0
          have h0c : ((pos : Int) == 0) = false := by rw [beq_eq_false_iff_ne]; omega
          rw [h0b] at HR HB
          go_wp2_with fail
          refine (CM.out w1 (hb1.trans hb2)).mono ?_; rintro e w2 ⟨rfl, hb3⟩
          have hit3 := iter_ext hb3 hit2
          cases hk : markB r with
          | true =>
            rw [hk] at HR
            obtain ⟨h1, h2⟩ := HR.out (by simp)
            go_wp2
            go_roundw
            case rel => exact ⟨pos + n, hb1.trans (hb2.trans hb3), hit3, h1, h2⟩
            case measure => rw [iterPos_of hit3, iterPos_of hit]; omega
          | false =>
            rw [hk] at HB
            have hB := HB.out (by simp)
            go_wp2
            go_ret
            exact ⟨by rw [hB]; rfl, hb1.trans (hb2.trans hb3)⟩
    · have hnx : ∀ ty, (Instr.next (.pointer (some ⟨w.heap.size, 0, none⟩)) true ty).run Tryd.prog wr = _ := fun ty => Lib.run_next_end_at wr w.heap.size s pos ty hit hp
      have hK : okL true s.data.toList = true := by
        rw [HK.out, List.drop_eq_nil_iff.2 (by rw [← size_len]; omega)]; rfl
      by_cases he : s = ⟨#[]⟩
      · subst he
        go_wp2
        go_ret
        exact ⟨rfl, hb⟩
      · have hne2 : s.data.toList.isEmpty = false := by
          rw [List.isEmpty_eq_false_iff]
          intro h
          apply he
          cases s
          simp at h
          rw [h]
        have hne : ¬ s.toList = [] := by
          rw [ByteArray.toList_eq]
          intro h
          rw [h] at hne2
          cases hne2
        go_wp2_with fail
        refine (count_w s wr hs).mono ?_; rintro e w2 ⟨rfl, hb3⟩
        have hd : decide ((countL s.data.toList : Int) ≤ 16) = decide (countL s.data.toList ≤ 16) := decide_eq_decide.2 (by omega)
        go_wp2
        go_ret
        refine ⟨?_, hb.trans hb3⟩
        show Ending.returned (Value.bool (!s.toList.isEmpty && decide (countL s.data.toList ≤ 16))) = _
        rw [ByteArray.toList_eq, rightL, hK]
        rfl

end Go.Proofs.YtopnllbfhhjobaaDoor

namespace Go.Proofs.YtopnllbfhhjobaaDoor
open Go.RowKit Go.Dm

/-- What the walks know of the package-level variables. -/
structure Vars (w : World) : Prop where
  tabs : Tabs w
  most : ∃ m, w.cell? ⟨2, 0, none⟩ = some (.int .i64 m)

theorem Vars.ext {w w' : World} (h : Vars w) (hb : Ext w w') : Vars w' := by
  refine ⟨h.tabs.ext hb, ?_⟩
  obtain ⟨m, hm⟩ := h.most
  exact ⟨m, by rw [hb.cell (by exact World.block_lt_of_cell? _ _ hm)]; exact hm⟩

end Go.Proofs.YtopnllbfhhjobaaDoor

namespace Go.Proofs.YtopnllbfhhjobaaDoor
open Go.RowKit Go.Dm

def wrongN (s : ByteArray) : Bool := !rightL s.data.toList

set_option maxHeartbeats 400000 in
theorem parts1_w (s : ByteArray) (w : World) (hs : s.size < 9223372036854775807) (ht : Tabs w) :
    Calls Tryd.prog 57 #[.string s] w fun e w' => e = .returned (.bool (wrongN s)) ∧ Ext w w' := by
  go_enter Tryd.func57, Tryd.ntmps57
  go_wp2_with fail
  refine (right_w s w hs ht).mono ?_; rintro e w' ⟨rfl, hb⟩
  go_wp2
  go_ret
  exact ⟨rfl, hb⟩

set_option maxHeartbeats 400000 in
theorem indexWrong_w (ss : List ByteArray) (q : Option Addr) (cap : Nat) (w : World) (hm : ss.length ≤ 35184372088832) (hz : ∀ x ∈ ss, x.size < 9223372036854775807) (ht : Tabs w)
    (hx : Strs w (.slice q ss.length cap) ss) :
    Calls Tryd.prog 71 #[.slice q ss.length cap, .func (.func 57) #[] #[]] w
      fun e w' => e = .returned (.int .i64 (placeI (firstP wrongN ss))) ∧ Ext w w' := by
  go_enter Tryd.func71, Tryd.ntmps71
  go_wp2
  go_loopw [4, 8] (fun z i wr => ∃ k : Nat, k ≤ ss.length ∧ i = .int .i64 k ∧ z = .int .i64 0 ∧ Ext w wr ∧ Hid (∀ j, j < k → wrongN (strAt ss j) = false)) (fun _ i _ => ss.length - (intOf i).toNat)
  case atStart => exact ⟨0, by omega, rfl, rfl, Ext.refl w, fun j hj => by omega⟩
  case round =>
    obtain ⟨k, hk, rfl, rfl, hb, HN⟩ := hrel
    by_cases hlt : k < ss.length
    · obtain ⟨b, off, rfl, hbl, c0⟩ := (hx.ext hb).at hlt
      have C := parts1_w (strAt ss k) wr (hz _ (strAt_mem hlt)) (ht.ext hb)
      go_wp2_with fail
      refine C.mono ?_; rintro e w' ⟨rfl, hb1⟩
      cases ht : wrongN (strAt ss k) with
      | true =>
        go_wp2
        go_ret
        refine ⟨?_, hb.trans hb1⟩
        rw [firstP_hit ByteArray.empty hlt HN.out ht]
        rfl
      | false =>
        go_wp2
        go_roundw
        case rel => exact ⟨k + 1, by omega, by go_num, rfl, hb.trans hb1, fun j hj => by
          rcases Nat.lt_succ_iff_lt_or_eq.1 hj with h | rfl
          · exact HN.out j h
          · exact ht⟩
        case measure => simp [intOf]; omega
    · go_wp2
      go_ret
      obtain rfl : k = ss.length := by omega
      refine ⟨?_, hb⟩
      rw [firstP_miss ByteArray.empty HN.out]
      rfl

theorem any_wrong (ss : List ByteArray) : ss.any wrongN = (bytesOf ss).any fun p => !rightL p := by
  simp only [bytesOf, List.any_map]
  rfl

set_option maxHeartbeats 2000000 in
theorem parts_w (s : ByteArray) (w : World) (hs : s.size < 4294967281) (ht : Vars w) :
    Calls Tryd.prog 35 #[.string s] w fun e w' => ∃ r, e = .returned r ∧ Texts w' r (partsL s.data.toList) ∧ Ext w w' := by
  obtain ⟨m, hm⟩ := ht.most
  have hlen := splitB_bytes s
  have hall := Lib.splitB_all ⟨#[47]⟩ (by decide) 0 (Lib.countB s ⟨#[47]⟩) s rfl
  have hcl : Lib.countB s ⟨#[47]⟩ ≤ s.size := Lib.countB_le ⟨#[47]⟩ (by decide) s.size s (Nat.le_refl _)
  have C := Tryd.strings_Split s ⟨#[47]⟩ m w hs hm (by decide)
  rw [← hall] at C
  generalize hss : Lib.splitB ⟨#[47]⟩ 0 (Lib.countB s ⟨#[47]⟩) s = ss at C hlen hall
  clear hss
  have hz : ∀ x ∈ ss, x.size < 9223372036854775807 := by
    intro x hx
    have h1 : x.data.toList ∈ splitL s.data.toList := by rw [← hlen]; exact List.mem_map_of_mem hx
    have := mem_splitL_len h1
    rw [← size_len, ← size_len] at this
    omega
  have hl : ss.length ≤ 4294967281 := by omega
  have hlb : (splitL s.data.toList).length = ss.length := by rw [← hlen]; simp [bytesOf]
  have hal : Ext w (w.alloc (.cells (ss.map Value.string).toArray 9)) := (Ext.refl w).alloc _
  have hx : Strs (w.alloc (.cells (ss.map Value.string).toArray 9)) (.slice (some ⟨w.heap.size, 0, none⟩) ss.length ss.length) ss := by
    have := Sl.lit w 9 1 ss.length (ss.map Value.string).toArray (by simp) (by simp [maxLen]; omega)
    simpa [Strs] using this
  have HA := firstP_any wrongN ss
  have HP : Hid (partsL s.data.toList = if 3 < ss.length ∨ ss.any wrongN = true then [] else bytesOf ss) := by
    show partsL _ = _
    rw [partsL, hlb, any_wrong, hlen]
  clear hall hcl hlen hlb
  go_enter Tryd.func35, Tryd.ntmps35
  go_wp2_with fail
  refine C.mono ?_; rintro e w1 ⟨rfl, rfl⟩
  clear C
  generalize hW : w.alloc (.cells (ss.map Value.string).toArray 9) = W at hx hal
  by_cases h3 : 3 < ss.length
  · go_wp2
    go_ret
    exact ⟨_, rfl, by rw [HP.out, if_pos (Or.inl h3)]; exact Texts.nil _, hal⟩
  · have C := indexWrong_w ss (some ⟨w.heap.size, 0, none⟩) ss.length W (by omega) hz (ht.tabs.ext hal) hx
    cases ha : ss.any wrongN with
    | true =>
      have h0 := HA.2 ha
      go_wp2_with (first | (go_at_call 71; refine C.mono ?_; rintro e w2 ⟨rfl, hb2⟩) | go_in)
      go_ret
      exact ⟨_, rfl, by rw [HP.out, if_pos (Or.inr ha)]; exact Texts.nil _, hal.trans hb2⟩
    | false =>
      have h0 : ¬ (0 : Int) ≤ placeI (firstP wrongN ss) := fun h => by rw [HA.1 h] at ha; cases ha
      go_wp2_with (first | (go_at_call 71; refine C.mono ?_; rintro e w2 ⟨rfl, hb2⟩) | go_in)
      go_ret
      exact ⟨_, rfl, ⟨ss, hx.ext hb2, by rw [HP.out, if_neg (by simp [h3, ha])]⟩, hal.trans hb2⟩

end Go.Proofs.YtopnllbfhhjobaaDoor

namespace Go.Proofs.YtopnllbfhhjobaaDoor
open Go.RowKit Go.Dm


set_option maxHeartbeats 2000000 in
theorem upsOwn_w (s : ByteArray) (w : World) (hs : s.size < 4294967281) (ht : Vars w) :
    Calls Tryd.prog 16 #[.string s] w fun e w' => ∃ r ss, e = .returned r ∧ bytesOf ss = upsL s.data.toList ∧ w'.ownsRow w.heap.size 9 1 r ss.length (ss.map .string) ∧ Ext w w' := by
  have h3 := partsL_three s.data.toList
  go_enter Tryd.func16, Tryd.ntmps16
  go_wp2_with fail
  refine (parts_w s w hs ht).mono ?_; rintro e w1 ⟨r1, rfl, ⟨ss, hx, hP⟩, hb1⟩
  have hl : ss.length = (partsL s.data.toList).length := by rw [← hP]; simp [bytesOf]
  obtain ⟨q, cap, rfl, hcap, hcm⟩ := hx.shape
  go_wp2
  go_loopw [3, 8] (fun r i' wr => ∃ k : Nat, k ≤ ss.length ∧ i' = .int .i64 k ∧ Ext w wr ∧ wr.ownsRow w.heap.size 9 1 r k (((List.range k).map (upB (partsL s.data.toList))).map .string)) (fun _ i' _ => ss.length - (intOf i').toNat)
  case atStart => exact ⟨0, by omega, rfl, hb1, World.ownsRow_nil _ _ _ _⟩
  case round =>
    obtain ⟨k, hk, rfl, hb, ho⟩ := hrel
    by_cases hlt : k < ss.length
    · go_wp2_with fail
      refine (parts_w s wr hs (ht.ext hb)).mono ?_; rintro e w2 ⟨r2, rfl, ⟨ss2, hx2, hP2⟩, hb2⟩
      have hl2 : ss2.length = ss.length := by rw [hl, ← hP2]; simp [bytesOf]
      obtain ⟨q2, cap2, rfl, hcap2, hcm2⟩ := hx2.shape
      obtain ⟨b, off, rfl, hbl, _⟩ := hx2.at (show 0 < ss2.length by omega)
      have hsl := fun w => run_slice_high (P := Tryd.prog) 32 9 1 Tryd.slStr.ht (by kernel_rfl) (some ⟨b, off, none⟩) ss2.length cap2 (k + 1) (by omega) w
      have ho2 := Ext.row ho hb2
      have hb' := hb.trans hb2
      have C := Tryd.strings_Join b off cap2 (ss2.take (k + 1)) ⟨#[47]⟩ w2
        (fun j x hj => by
          have hj' : ss2[j]? = some x := by
            rw [List.getElem?_take] at hj
            split at hj
            · exact hj
            · cases hj
          obtain ⟨hjl, _⟩ := List.getElem?_eq_some_iff.1 hj'
          have := (hx2.cells hjl).2
          rw [this]
          simp [strAt, hj'])
        hbl (by simp; omega) (by simp; omega)
        (by
          have h1 := parts_join_len s.data.toList (k + 1)
          have h2 : (ss2.take (k + 1)).map (·.data.toList) = (partsL s.data.toList).take (k + 1) := by rw [← hP2, bytesOf, List.map_take]
          rw [h2]
          rw [← size_len] at h1
          show (Lib.join ((partsL s.data.toList).take (k + 1)) [47]).length ≤ _
          omega)
      rw [show (ss2.take (k + 1)).length = k + 1 by simp; omega, show (ss2.take (k + 1)).map (·.data.toList) = (partsL s.data.toList).take (k + 1) by rw [← hP2, bytesOf, List.map_take]] at C
      go_wp2_with fail
      refine C.mono ?_; rintro e w3 ⟨rfl, hb3⟩
      have hb3 : Ext w2 w3 := hb3
      clear C hsl
      have ho3 := Ext.row ho2 hb3
      have hb'' := hb'.trans hb3
      have hl3 := Sl.lit w3 9 1 1 #[.string (upB (partsL s.data.toList) k)] rfl (by simp [maxLen])
      have ha3 := (Ext.refl w3).alloc (.cells #[.string (upB (partsL s.data.toList) k)] 9)
      have ho4 := Ext.row ho3 ha3
      have hb4 := hb''.trans ha3
      clear hx hx2
      go_wp2_with (at_builtin; refine wpList_appE rfl _ _ Tryd.slStr rfl hb4 rfl ho4 rfl hl3 (strs_one [upB (partsL s.data.toList) k]) (by omega) ?_; intro v5 w5 ho5 hb5 _)
      go_roundw
      case rel => exact ⟨k + 1, by omega, by go_num, hb5, by rw [range_snoc_map, List.map_append]; exact ho5⟩
      case measure => simp [intOf]; omega
    · go_wp2
      go_ret
      obtain rfl : k = ss.length := by omega
      exact ⟨_, (List.range ss.length).map (upB (partsL s.data.toList)), rfl, by rw [upB_bytes, hl]; rfl, by rw [List.length_map, List.length_range]; exact ho, hb⟩

theorem ups_w (s : ByteArray) (w : World) (hs : s.size < 4294967281) (ht : Vars w) :
    Calls Tryd.prog 16 #[.string s] w fun e w' => ∃ r, e = .returned r ∧ Texts w' r (upsL s.data.toList) ∧ Ext w w' := by
  refine (upsOwn_w s w hs ht).mono ?_; rintro e w1 ⟨r, ss, rfl, hP, ho, hb⟩
  exact ⟨r, rfl, ⟨ss, Strs.of_row ho rfl, hP⟩, hb⟩

theorem underL_eq (a : ByteArray) (l : Bs) (ss : List ByteArray) (h : bytesOf ss = upsL l) : Lib.containsS ss a = underL a.data.toList l := by
  rw [Bool.eq_iff_iff, Lib.containsS_iff, underL, ← h]
  simp only [bytesOf, List.contains_iff_mem, List.mem_map]
  constructor
  · intro hm
    exact ⟨a, hm, rfl⟩
  · rintro ⟨x, hx, he⟩
    have : x = a := by
      cases x; cases a
      congr 1
      exact Array.toList_inj.1 he
    rw [← this]; exact hx

theorem upsL_len (l : Bs) : (upsL l).length = (partsL l).length := by simp [upsL]

set_option maxHeartbeats 1000000 in
theorem under_w (a s : ByteArray) (w : World) (hs : s.size < 4294967281) (ht : Vars w) :
    Calls Tryd.prog 49 #[.string a, .string s] w fun e w' => e = .returned (.bool (underL a.data.toList s.data.toList)) ∧ Ext w w' := by
  have h3 := partsL_three s.data.toList
  rw [← upsL_len] at h3
  go_enter Tryd.func49, Tryd.ntmps49
  go_wp2_with fail
  refine (ups_w s w hs ht).mono ?_; rintro e w1 ⟨r1, rfl, ⟨ss, hx, hP⟩, hb1⟩
  have hl : ss.length ≤ 3 := by rw [← hP] at h3; simpa [bytesOf] using h3
  clear h3
  have hu := underL_eq a _ ss hP
  obtain ⟨q, cap, rfl, hcap, hcm⟩ := hx.shape
  by_cases h0 : ss.length = 0
  · have hn : ss = [] := List.length_eq_zero_iff.1 h0
    subst hn
    have C := Tryd.slices_Contains_string_empty q cap a w1
    have hf := Lib.hid (show underL a.data.toList s.data.toList = false by rw [← hu]; rfl)
    clear hu
    go_wp2_with fail
    refine C.mono ?_; rintro e w2 ⟨rfl, rfl⟩
    go_wp2
    go_ret
    exact ⟨by rw [hf.out]; rfl, hb1⟩
  · obtain ⟨b, off, rfl, hbl, _⟩ := hx.at (show 0 < ss.length by omega)
    have C := Tryd.slices_Contains_string b off ss.length cap ss a w1 (Nat.le_refl _) (by omega) (fun j hj => (hx.cells hj).2)
    rw [List.take_length, hu] at C
    go_wp2_with fail
    refine C.mono ?_; rintro e w2 ⟨rfl, rfl⟩
    go_wp2
    go_ret
    exact ⟨rfl, hb1⟩

end Go.Proofs.YtopnllbfhhjobaaDoor
