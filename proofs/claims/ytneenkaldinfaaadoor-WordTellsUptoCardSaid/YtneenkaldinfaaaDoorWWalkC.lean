/- Chapter 2: the walks of the program's Ups and Under. -/
import Derived.Test.YtneenkaldinfaaaDoorWWalkB
import Derived.OwnWalk
namespace Go.Dm
open Go Go.RowKit

theorem joinTail_len (sep : Bs) : ∀ (xs : List Bs) (k : Nat), (Lib.joinTail sep (xs.take k)).length ≤ (Lib.joinTail sep xs).length
  | [], k => by simp [Lib.joinTail]
  | x :: xs, 0 => by simp [Lib.joinTail]
  | x :: xs, k + 1 => by
    have := joinTail_len sep xs k
    simp only [Lib.joinTail, List.take_succ_cons, List.map_cons, List.flatten_cons, List.length_append] at *
    omega

theorem join_take_len (sep : Bs) (xs : List Bs) (k : Nat) : (Lib.join (xs.take k) sep).length ≤ (Lib.join xs sep).length := by
  cases xs with
  | nil => simp
  | cons x xs =>
    cases k with
    | zero => simp [Lib.join_nil]
    | succ k =>
      have := joinTail_len sep xs k
      rw [List.take_succ_cons, Lib.join_cons, Lib.join_cons]
      simp only [List.length_append]
      omega

/-- A text is its pieces, slashes between. -/
theorem join_splitL : ∀ l : Bs, Lib.join (splitL l) [47] = l := by
  intro l
  induction h : l.length using Nat.strongRecOn generalizing l with
  | ind n ih =>
    rcases cut_at l with hn | ⟨p, r, h1, rfl⟩
    · rw [splitL_none hn, Lib.join_one]
    · rw [splitL_at h1, Lib.join_cons]
      simp only [List.length_append, List.length_cons] at h
      have := ih r.length (by omega) r rfl
      cases hs : splitL r with
      | nil => exact absurd hs (splitL_ne r)
      | cons q qs =>
        rw [hs, Lib.join_cons] at this
        simp only [Lib.joinTail, List.map_cons, List.flatten_cons, List.cons_append, List.nil_append] at *
        rw [this]

theorem partsL_cases (l : Bs) : partsL l = [] ∨ partsL l = splitL l := by
  unfold partsL
  split
  · exact Or.inl rfl
  · exact Or.inr rfl

theorem parts_join_len (l : Bs) (k : Nat) : (Lib.join ((partsL l).take k) [47]).length ≤ l.length := by
  have h1 := join_take_len [47] (partsL l) k
  rcases partsL_cases l with h | h
  · rw [h] at h1 ⊢
    simp [Lib.join_nil] at h1 ⊢
  · rw [h] at h1 ⊢
    rw [join_splitL] at h1
    exact h1

theorem partsL_three (l : Bs) : (partsL l).length ≤ 3 := by
  unfold partsL
  split
  · simp
  · rename_i h; omega

/-- The text of so many of a path's names. -/
def upB (P : List Bs) (j : Nat) : ByteArray := ⟨(Lib.join (P.take (j + 1)) [47]).toArray⟩

theorem upB_bytes (l : Bs) (k : Nat) : bytesOf ((List.range k).map (upB (partsL l))) = ((List.range k).map fun k => Lib.join ((partsL l).take (k + 1)) [47]) := by
  simp [bytesOf, upB, List.map_map, Function.comp_def]

theorem range_snoc_map {α : Type} (f : Nat → α) (k : Nat) : (List.range (k + 1)).map f = (List.range k).map f ++ [f k] := by
  rw [List.range_succ, List.map_append]; rfl

theorem Strs.of_row {w : World} {B e : Nat} {v : Value} {n : Nat} {ss : List ByteArray} (h : w.ownsRow B e 1 v n (ss.map .string)) (hn : n = ss.length) : Strs w v ss := by
  subst hn
  exact Sl.of_owns h

theorem strs_one (ss : List ByteArray) : ∀ u ∈ ss.map Value.string, u.oneCell' = true := by
  intro u hu
  obtain ⟨x, _, rfl⟩ := List.mem_map.1 hu
  rfl
end Go.Dm
namespace Go.Proofs.YtneenkaldinfaaaDoor
open Go.RowKit Go.Dm

theorem Tryd.slStr : SlT Tryd.prog 26 9 1 16 := SlT.mk' Tryd.underlying26 (by kernel_rfl) (by decide) (by decide)

set_option maxHeartbeats 2000000 in
theorem ups_w (s : ByteArray) (w : World) (hs : s.size < 4294967281) (ht : Vars w) :
    Calls Tryd.prog 17 #[.string s] w fun e w' => ∃ r, e = .returned r ∧ Texts w' r (upsL s.data.toList) ∧ Ext w w' := by
  have h3 := partsL_three s.data.toList
  go_enter Tryd.func17, Tryd.ntmps17
  go_wp2_with fail
  refine (parts_w s w hs ht).mono ?_; rintro e w1 ⟨r1, rfl, ⟨ss, hx, hP⟩, hb1⟩
  have hl : ss.length = (partsL s.data.toList).length := by rw [← hP]; simp [bytesOf]
  obtain ⟨q, cap, rfl, hcap, hcm⟩ := hx.shape
  go_wp2
  go_loopw [3, 8] (fun r i' wr => ∃ k : Nat, k ≤ ss.length ∧ i' = .int .i64 k ∧ Ext w wr ∧ wr.ownsRow w.heap.size 9 1 r k (((List.range k).map (upB (partsL s.data.toList))).map .string)) (fun _ i' _ => ss.length - (intOf i').toNat)
  case atStart => exact ⟨0, by omega, rfl, hb1, World.ownsRow_nil _ _ _ _⟩
  case round =>
    obtain ⟨k, hk, rfl, hb, ho⟩ := hrel
    by_cases hlt : k < ss.length
    · go_wp2_with fail
      refine (parts_w s wr hs (ht.ext hb)).mono ?_; rintro e w2 ⟨r2, rfl, ⟨ss2, hx2, hP2⟩, hb2⟩
      have hl2 : ss2.length = ss.length := by rw [hl, ← hP2]; simp [bytesOf]
      obtain ⟨q2, cap2, rfl, hcap2, hcm2⟩ := hx2.shape
      obtain ⟨b, off, rfl, hbl, _⟩ := hx2.at (show 0 < ss2.length by omega)
      have hsl := fun w => run_slice_high (P := Tryd.prog) 26 9 1 Tryd.slStr.ht (by kernel_rfl) (some ⟨b, off, none⟩) ss2.length cap2 (k + 1) (by omega) w
      have ho2 := Ext.row ho hb2
      have hb' := hb.trans hb2
      have C := Tryd.strings_Join b off cap2 (ss2.take (k + 1)) ⟨#[47]⟩ w2
        (fun j x hj => by
          have hj' : ss2[j]? = some x := by
            rw [List.getElem?_take] at hj
            split at hj
            · exact hj
            · cases hj
          obtain ⟨hjl, _⟩ := List.getElem?_eq_some_iff.1 hj'
          have := (hx2.cells hjl).2
          rw [this]
          simp [strAt, hj'])
        hbl (by simp; omega) (by simp; omega)
        (by
          have h1 := parts_join_len s.data.toList (k + 1)
          have h2 : (ss2.take (k + 1)).map (·.data.toList) = (partsL s.data.toList).take (k + 1) := by rw [← hP2, bytesOf, List.map_take]
          rw [h2]
          rw [← size_len] at h1
          show (Lib.join ((partsL s.data.toList).take (k + 1)) [47]).length ≤ _
          omega)
      rw [show (ss2.take (k + 1)).length = k + 1 by simp; omega, show (ss2.take (k + 1)).map (·.data.toList) = (partsL s.data.toList).take (k + 1) by rw [← hP2, bytesOf, List.map_take]] at C
      go_wp2_with fail
      refine C.mono ?_; rintro e w3 ⟨rfl, hb3⟩
      have hb3 : Ext w2 w3 := hb3
      clear C hsl
      have ho3 := Ext.row ho2 hb3
      have hb'' := hb'.trans hb3
      have hl3 := Sl.lit w3 9 1 1 #[.string (upB (partsL s.data.toList) k)] rfl (by simp [maxLen])
      have ha3 := (Ext.refl w3).alloc (.cells #[.string (upB (partsL s.data.toList) k)] 9)
      have ho4 := Ext.row ho3 ha3
      have hb4 := hb''.trans ha3
      clear hx hx2
      go_wp2_with (at_builtin; refine wpList_appE rfl _ _ Tryd.slStr rfl hb4 rfl ho4 rfl hl3 (strs_one [upB (partsL s.data.toList) k]) (by omega) ?_; intro v5 w5 ho5 hb5 _)
      go_roundw
      case rel => exact ⟨k + 1, by omega, by go_num, hb5, by rw [range_snoc_map, List.map_append]; exact ho5⟩
      case measure => simp [intOf]; omega
    · go_wp2
      go_ret
      obtain rfl : k = ss.length := by omega
      exact ⟨_, rfl, ⟨_, Strs.of_row ho (by simp), by rw [upB_bytes, hl]; rfl⟩, hb⟩

theorem underL_eq (a : ByteArray) (l : Bs) (ss : List ByteArray) (h : bytesOf ss = upsL l) : Lib.containsS ss a = underL a.data.toList l := by
  rw [Bool.eq_iff_iff, Lib.containsS_iff, underL, ← h]
  simp only [bytesOf, List.contains_iff_mem, List.mem_map]
  constructor
  · intro hm
    exact ⟨a, hm, rfl⟩
  · rintro ⟨x, hx, he⟩
    have : x = a := by
      cases x; cases a
      congr 1
      exact Array.toList_inj.1 he
    rw [← this]; exact hx

theorem upsL_len (l : Bs) : (upsL l).length = (partsL l).length := by simp [upsL]

set_option maxHeartbeats 1000000 in
theorem under_w (a s : ByteArray) (w : World) (hs : s.size < 4294967281) (ht : Vars w) :
    Calls Tryd.prog 19 #[.string a, .string s] w fun e w' => e = .returned (.bool (underL a.data.toList s.data.toList)) ∧ Ext w w' := by
  have h3 := partsL_three s.data.toList
  rw [← upsL_len] at h3
  go_enter Tryd.func19, Tryd.ntmps19
  go_wp2_with fail
  refine (ups_w s w hs ht).mono ?_; rintro e w1 ⟨r1, rfl, ⟨ss, hx, hP⟩, hb1⟩
  have hl : ss.length ≤ 3 := by rw [← hP] at h3; simpa [bytesOf] using h3
  clear h3
  have hu := underL_eq a _ ss hP
  obtain ⟨q, cap, rfl, hcap, hcm⟩ := hx.shape
  by_cases h0 : ss.length = 0
  · have hn : ss = [] := List.length_eq_zero_iff.1 h0
    subst hn
    have C := Tryd.slices_Contains_string_empty q cap a w1
    have hf := Lib.hid (show underL a.data.toList s.data.toList = false by rw [← hu]; rfl)
    clear hu
    go_wp2_with fail
    refine C.mono ?_; rintro e w2 ⟨rfl, rfl⟩
    go_wp2
    go_ret
    exact ⟨by rw [hf.out]; rfl, hb1⟩
  · obtain ⟨b, off, rfl, hbl, _⟩ := hx.at (show 0 < ss.length by omega)
    have C := Tryd.slices_Contains_string b off ss.length cap ss a w1 (Nat.le_refl _) (by omega) (fun j hj => (hx.cells hj).2)
    rw [List.take_length, hu] at C
    go_wp2_with fail
    refine C.mono ?_; rintro e w2 ⟨rfl, rfl⟩
    go_wp2
    go_ret
    exact ⟨rfl, hb1⟩

theorem bytes_eq {a b : ByteArray} : a.toList == b.toList ↔ a = b := by
  rw [ByteArray.toList_eq, ByteArray.toList_eq, beq_iff_eq]
  constructor
  · intro h
    cases a; cases b
    congr 1
    exact Array.toList_inj.1 h
  · rintro rfl; rfl

theorem strs_eq {xs ys : List ByteArray} (hl : xs.length = ys.length) (h : ∀ j, j < xs.length → strAt xs j = strAt ys j) : xs = ys := by
  apply List.ext_getElem hl
  intro i h1 h2
  have := h i h1
  simpa [strAt, h1, h2] using this

set_option maxHeartbeats 1000000 in
theorem same_w (xs ys : List ByteArray) (v u : Value) (w : World) (hm : xs.length ≤ 8796093022208) (hx : Strs w v xs) (hy : Strs w u ys) :
    Calls Tryd.prog 14 #[v, u] w fun e w' => e = .returned (.bool (decide (xs = ys))) ∧ Ext w w' := by
  obtain ⟨q, cap, rfl, hcap, hcm⟩ := hx.shape
  obtain ⟨q', cap', rfl, hcap', hcm'⟩ := hy.shape
  by_cases hlen : xs.length = ys.length
  · have hne : ((xs.length : Int) != (ys.length : Int)) = false := by simp [hlen]
    have HL := Lib.hid hlen; clear hlen
    go_enter Tryd.func14, Tryd.ntmps14
    go_wp2
    go_loopw [5] (fun i' wr => ∃ k : Nat, k ≤ xs.length ∧ i' = .int .i64 k ∧ Ext w wr ∧ Hid (∀ j, j < k → strAt xs j = strAt ys j)) (fun i' _ => xs.length - (intOf i').toNat)
    case atStart => exact ⟨0, by omega, rfl, Ext.refl _, fun j hj => by omega⟩
    case round =>
      obtain ⟨k, hk, rfl, hb, HN⟩ := hrel
      by_cases hlt : k < xs.length
      · have hlt' : k < ys.length := by have := HL.out; omega
        have hxr := hx.ext hb
        obtain ⟨b, off, rfl, hbl, c0⟩ := hxr.at hlt
        have hyr := hy.ext hb
        obtain ⟨b', off', rfl, hbl', c0'⟩ := hyr.at hlt'
        cases h1 : ((strAt xs k).toList == (strAt ys k).toList) with
        | false =>
          have HE : Hid (xs ≠ ys) := fun e => by rw [e] at h1; simp at h1
          go_wp2_with fail
          refine Dm.wp_region_grow (by kernel_rfl) (by kernel_rfl) ?_
          repeat (go_big_quiet_step (fail))
          refine wpQuiet_nil ?_
          intro W hW'
          go_wp2
          go_ret
          exact ⟨by rw [decide_eq_false HE.out]; rfl, hb.trans hW'⟩
        | true =>
          have HE : Hid (strAt xs k = strAt ys k) := bytes_eq.1 h1
          go_wp2_with fail
          refine Dm.wp_region_grow (by kernel_rfl) (by kernel_rfl) ?_
          repeat (go_big_quiet_step (fail))
          refine wpQuiet_nil ?_
          intro W hW'
          go_wp2
          go_roundw
          case rel => exact ⟨k + 1, by omega, by go_num, hb.trans hW', fun j hj => by
            rcases Nat.lt_succ_iff_lt_or_eq.1 hj with h | rfl
            · exact HN.out j h
            · exact HE.out⟩
          case measure => simp [intOf]; omega
      · go_wp2
        go_ret
        obtain rfl : k = xs.length := by omega
        exact ⟨by rw [decide_eq_true (strs_eq HL.out HN.out)]; rfl, hb⟩
  · have hne : ((xs.length : Int) != (ys.length : Int)) = true := by rw [bne_iff_ne]; omega
    go_enter Tryd.func14, Tryd.ntmps14
    go_wp2
    go_ret
    exact ⟨by rw [decide_eq_false (fun h => hlen (congrArg _ h))]; rfl, Ext.refl _⟩

end Go.Proofs.YtneenkaldinfaaaDoor
