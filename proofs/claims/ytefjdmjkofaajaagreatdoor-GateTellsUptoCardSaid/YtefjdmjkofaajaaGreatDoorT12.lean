/- Texts of the base. -/

import Derived.Test.YtefjdmjkofaajaaGreatDoorT15
import Derived.Test.YtefjdmjkofaajaaGreatDoorT13
import Derived.OwnWalk
import Derived.Test.YtefjdmjkofaajaaGreatDoorT3
namespace Go.Proofs.YtefjdmjkofaajaaGreatDoor
open Go.RowKit Go.Dm
def wrongN (s : ByteArray) : Bool := !rightL s.data.toList
set_option maxHeartbeats 400000 in
theorem parts1_w (s : ByteArray) (w : World) (hs : s.size < 9223372036854775807) (ht : Tabs w) :
  Calls Tryz.prog 169 #[.string s] w fun e w' => e = .returned (.bool (wrongN s)) ∧ Ext w w' := by
 go_enter Tryz.func169, Tryz.ntmps169
 go_wp2_with fail
 refine (right_w s w hs ht).mono ?_; rintro e w' ⟨rfl, hb⟩
 go_wp2
 go_ret
 exact ⟨rfl, hb⟩
set_option maxHeartbeats 400000 in
theorem indexWrong_w (ss : List ByteArray) (q : Option Addr) (cap : Nat) (w : World) (hm : ss.length ≤ 35184372088832) (hz : ∀ x ∈ ss, x.size < 9223372036854775807) (ht : Tabs w)
  (hx : Strs w (.slice q ss.length cap) ss) :
  Calls Tryz.prog 176 #[.slice q ss.length cap, .func (.func 169) #[] #[]] w
   fun e w' => e = .returned (.int .i64 (placeI (firstP wrongN ss))) ∧ Ext w w' := by
 go_enter Tryz.func176, Tryz.ntmps176
 go_wp2
 go_loopw [4, 8] (fun z i wr => ∃ k : Nat, k ≤ ss.length ∧ i = .int .i64 k ∧ z = .int .i64 0 ∧ Ext w wr ∧ Hid (∀ j, j < k → wrongN (strAt ss j) = false)) (fun _ i _ => ss.length - (intOf i).toNat)
 case atStart => exact ⟨0, by omega, rfl, rfl, Ext.refl w, fun j hj => by omega⟩
 case round =>
  obtain ⟨k, hk, rfl, rfl, hb, HN⟩ := hrel
  by_cases hlt : k < ss.length
  ·obtain ⟨b, off, rfl, hbl, c0⟩ := (hx.ext hb).at hlt
   have C := parts1_w (strAt ss k) wr (hz _ (strAt_mem hlt)) (ht.ext hb)
   go_wp2_with fail
   refine C.mono ?_; rintro e w' ⟨rfl, hb1⟩
   cases ht : wrongN (strAt ss k) with
   | true =>
    go_wp2
    go_ret
    refine ⟨?_, hb.trans hb1⟩
    rw [firstP_hit ByteArray.empty hlt HN.out ht]
    rfl
   | false =>
    go_wp2
    go_roundw
    case rel => exact ⟨k + 1, by omega, by go_num, rfl, hb.trans hb1, fun j hj => by
     rcases Nat.lt_succ_iff_lt_or_eq.1 hj with h | rfl
     ·exact HN.out j h
     ·exact ht⟩
    case measure => simp [intOf]; omega
  ·go_wp2
   go_ret
   obtain rfl : k = ss.length := by omega
   refine ⟨?_, hb⟩
   rw [firstP_miss ByteArray.empty HN.out]
   rfl
theorem any_wrong (ss : List ByteArray) : ss.any wrongN = (bytesOf ss).any fun p => !rightL p := by
 simp only [bytesOf, List.any_map]
 rfl
set_option maxHeartbeats 2000000 in
theorem parts_w (s : ByteArray) (w : World) (hs : s.size < 4294967281) (ht : Vars w) :
  Calls Tryz.prog 150 #[.string s] w fun e w' => ∃ r, e = .returned r ∧ Texts w' r (partsL s.data.toList) ∧ Ext w w' := by
 obtain ⟨m, hm⟩ := ht.most
 have hlen := splitB_bytes s
 have hall := Lib.splitB_all ⟨#[47]⟩ (by decide) 0 (Lib.countB s ⟨#[47]⟩) s rfl
 have hcl : Lib.countB s ⟨#[47]⟩ ≤ s.size := Lib.countB_le ⟨#[47]⟩ (by decide) s.size s (Nat.le_refl _)
 have C := Tryz.strings_Split s ⟨#[47]⟩ m w hs hm (by decide)
 rw [← hall] at C
 generalize hss : Lib.splitB ⟨#[47]⟩ 0 (Lib.countB s ⟨#[47]⟩) s = ss at C hlen hall
 clear hss
 have hz : ∀ x ∈ ss, x.size < 9223372036854775807 := by
  intro x hx
  have h1 : x.data.toList ∈ splitL s.data.toList := by rw [← hlen]; exact List.mem_map_of_mem hx
  have := mem_splitL_len h1
  rw [← size_len, ← size_len] at this
  omega
 have hl : ss.length ≤ 4294967281 := by omega
 have hlb : (splitL s.data.toList).length = ss.length := by rw [← hlen]; simp [bytesOf]
 have hal : Ext w (w.alloc (.cells (ss.map Value.string).toArray 9)) := (Ext.refl w).alloc _
 have hx : Strs (w.alloc (.cells (ss.map Value.string).toArray 9)) (.slice (some ⟨w.heap.size, 0, none⟩) ss.length ss.length) ss := by
  have := Sl.lit w 9 1 ss.length (ss.map Value.string).toArray (by simp) (by simp [maxLen]; omega)
  simpa [Strs] using this
 have HA := firstP_any wrongN ss
 have HP : Hid (partsL s.data.toList = if 3 < ss.length ∨ ss.any wrongN = true then [] else bytesOf ss) := by
  show partsL _ = _
  rw [partsL, hlb, any_wrong, hlen]
 clear hall hcl hlen hlb
 go_enter Tryz.func150, Tryz.ntmps150
 go_wp2_with fail
 refine C.mono ?_; rintro e w1 ⟨rfl, rfl⟩
 clear C
 generalize hW : w.alloc (.cells (ss.map Value.string).toArray 9) = W at hx hal
 by_cases h3 : 3 < ss.length
 ·go_wp2
  go_ret
  exact ⟨_, rfl, by rw [HP.out, if_pos (Or.inl h3)]; exact Texts.nil _, hal⟩
 ·have C := indexWrong_w ss (some ⟨w.heap.size, 0, none⟩) ss.length W (by omega) hz (ht.tabs.ext hal) hx
  cases ha : ss.any wrongN with
  | true =>
   have h0 := HA.2 ha
   go_wp2_with (first | (go_at_call 176; refine C.mono ?_; rintro e w2 ⟨rfl, hb2⟩) | go_in)
   go_ret
   exact ⟨_, rfl, by rw [HP.out, if_pos (Or.inr ha)]; exact Texts.nil _, hal.trans hb2⟩
  | false =>
   have h0 : ¬ (0 : Int) ≤ placeI (firstP wrongN ss) := fun h => by rw [HA.1 h] at ha; cases ha
   go_wp2_with (first | (go_at_call 176; refine C.mono ?_; rintro e w2 ⟨rfl, hb2⟩) | go_in)
   go_ret
   exact ⟨_, rfl, ⟨ss, hx.ext hb2, by rw [HP.out, if_neg (by simp [h3, ha])]⟩, hal.trans hb2⟩
set_option maxHeartbeats 2000000 in
theorem upsOwn_w (s : ByteArray) (w : World) (hs : s.size < 4294967281) (ht : Vars w) :
  Calls Tryz.prog 126 #[.string s] w fun e w' => ∃ r ss, e = .returned r ∧ bytesOf ss = upsL s.data.toList ∧ w'.ownsRow w.heap.size 9 1 r ss.length (ss.map .string) ∧ Ext w w' := by
 have h3 := partsL_three s.data.toList
 go_enter Tryz.func126, Tryz.ntmps126
 go_wp2_with fail
 refine (parts_w s w hs ht).mono ?_; rintro e w1 ⟨r1, rfl, ⟨ss, hx, hP⟩, hb1⟩
 have hl : ss.length = (partsL s.data.toList).length := by rw [← hP]; simp [bytesOf]
 obtain ⟨q, cap, rfl, hcap, hcm⟩ := hx.shape
 go_wp2
 go_loopw [3, 8] (fun r i' wr => ∃ k : Nat, k ≤ ss.length ∧ i' = .int .i64 k ∧ Ext w wr ∧ wr.ownsRow w.heap.size 9 1 r k (((List.range k).map (upB (partsL s.data.toList))).map .string)) (fun _ i' _ => ss.length - (intOf i').toNat)
 case atStart => exact ⟨0, by omega, rfl, hb1, World.ownsRow_nil _ _ _ _⟩
 case round =>
  obtain ⟨k, hk, rfl, hb, ho⟩ := hrel
  by_cases hlt : k < ss.length
  ·go_wp2_with fail
   refine (parts_w s wr hs (ht.ext hb)).mono ?_; rintro e w2 ⟨r2, rfl, ⟨ss2, hx2, hP2⟩, hb2⟩
   have hl2 : ss2.length = ss.length := by rw [hl, ← hP2]; simp [bytesOf]
   obtain ⟨q2, cap2, rfl, hcap2, hcm2⟩ := hx2.shape
   obtain ⟨b, off, rfl, hbl, _⟩ := hx2.at (show 0 < ss2.length by omega)
   have hsl := fun w => run_slice_high (P := Tryz.prog) 60 9 1 Tryz.slStr.ht (by kernel_rfl) (some ⟨b, off, none⟩) ss2.length cap2 (k + 1) (by omega) w
   have ho2 := Ext.row ho hb2
   have hb' := hb.trans hb2
   have C := Tryz.strings_Join b off cap2 (ss2.take (k + 1)) ⟨#[47]⟩ w2
    (fun j x hj => by
     have hj' : ss2[j]? = some x := by
      rw [List.getElem?_take] at hj
      split at hj
      ·exact hj
      ·cases hj
     obtain ⟨hjl, _⟩ := List.getElem?_eq_some_iff.1 hj'
     have := (hx2.cells hjl).2
     rw [this]
     simp [strAt, hj'])
    hbl (by simp; omega) (by simp; omega)
    (by
     have h1 := parts_join_len s.data.toList (k + 1)
     have h2 : (ss2.take (k + 1)).map (·.data.toList) = (partsL s.data.toList).take (k + 1) := by rw [← hP2, bytesOf, List.map_take]
     rw [h2]
     rw [← size_len] at h1
     show (Lib.join ((partsL s.data.toList).take (k + 1)) [47]).length ≤ _
     omega)
   rw [show (ss2.take (k + 1)).length = k + 1 by simp; omega, show (ss2.take (k + 1)).map (·.data.toList) = (partsL s.data.toList).take (k + 1) by rw [← hP2, bytesOf, List.map_take]] at C
   go_wp2_with fail
   refine C.mono ?_; rintro e w3 ⟨rfl, hb3⟩
   have hb3 : Ext w2 w3 := hb3
   clear C hsl
   have ho3 := Ext.row ho2 hb3
   have hb'' := hb'.trans hb3
   have hl3 := Sl.lit w3 9 1 1 #[.string (upB (partsL s.data.toList) k)] rfl (by simp [maxLen])
   have ha3 := (Ext.refl w3).alloc (.cells #[.string (upB (partsL s.data.toList) k)] 9)
   have ho4 := Ext.row ho3 ha3
   have hb4 := hb''.trans ha3
   clear hx hx2
   go_wp2_with (at_builtin; refine wpList_appE rfl _ _ Tryz.slStr rfl hb4 rfl ho4 rfl hl3 (strs_one [upB (partsL s.data.toList) k]) (by omega) ?_; intro v5 w5 ho5 hb5 _)
   go_roundw
   case rel => exact ⟨k + 1, by omega, by go_num, hb5, by rw [range_snoc_map, List.map_append]; exact ho5⟩
   case measure => simp [intOf]; omega
  ·go_wp2
   go_ret
   obtain rfl : k = ss.length := by omega
   exact ⟨_, (List.range ss.length).map (upB (partsL s.data.toList)), rfl, by rw [upB_bytes, hl]; rfl, by rw [List.length_map, List.length_range]; exact ho, hb⟩
theorem ups_w (s : ByteArray) (w : World) (hs : s.size < 4294967281) (ht : Vars w) :
  Calls Tryz.prog 126 #[.string s] w fun e w' => ∃ r, e = .returned r ∧ Texts w' r (upsL s.data.toList) ∧ Ext w w' := by
 refine (upsOwn_w s w hs ht).mono ?_; rintro e w1 ⟨r, ss, rfl, hP, ho, hb⟩
 exact ⟨r, rfl, ⟨ss, Strs.of_row ho rfl, hP⟩, hb⟩
theorem underL_eq (a : ByteArray) (l : Bs) (ss : List ByteArray) (h : bytesOf ss = upsL l) : Lib.containsS ss a = underL a.data.toList l := by
 rw [Bool.eq_iff_iff, Lib.containsS_iff, underL, ← h]
 simp only [bytesOf, List.contains_iff_mem, List.mem_map]
 constructor
 ·intro hm
  exact ⟨a, hm, rfl⟩
 ·rintro ⟨x, hx, he⟩
  have : x = a := by
   cases x; cases a
   congr 1
   exact Array.toList_inj.1 he
  rw [← this]; exact hx
theorem upsL_len (l : Bs) : (upsL l).length = (partsL l).length := by simp [upsL]
set_option maxHeartbeats 1000000 in
theorem under_w (a s : ByteArray) (w : World) (hs : s.size < 4294967281) (ht : Vars w) :
  Calls Tryz.prog 99 #[.string a, .string s] w fun e w' => e = .returned (.bool (underL a.data.toList s.data.toList)) ∧ Ext w w' := by
 have h3 := partsL_three s.data.toList
 rw [← upsL_len] at h3
 go_enter Tryz.func99, Tryz.ntmps99
 go_wp2_with fail
 refine (ups_w s w hs ht).mono ?_; rintro e w1 ⟨r1, rfl, ⟨ss, hx, hP⟩, hb1⟩
 have hl : ss.length ≤ 3 := by rw [← hP] at h3; simpa [bytesOf] using h3
 clear h3
 have hu := underL_eq a _ ss hP
 obtain ⟨q, cap, rfl, hcap, hcm⟩ := hx.shape
 by_cases h0 : ss.length = 0
 ·have hn : ss = [] := List.length_eq_zero_iff.1 h0
  subst hn
  have C := Tryz.slices_Contains_string_empty q cap a w1
  have hf := Lib.hid (show underL a.data.toList s.data.toList = false by rw [← hu]; rfl)
  clear hu
  go_wp2_with fail
  refine C.mono ?_; rintro e w2 ⟨rfl, rfl⟩
  go_wp2
  go_ret
  exact ⟨by rw [hf.out]; rfl, hb1⟩
 ·obtain ⟨b, off, rfl, hbl, _⟩ := hx.at (show 0 < ss.length by omega)
  have C := Tryz.slices_Contains_string b off ss.length cap ss a w1 (Nat.le_refl _) (by omega) (fun j hj => (hx.cells hj).2)
  rw [List.take_length, hu] at C
  go_wp2_with fail
  refine C.mono ?_; rintro e w2 ⟨rfl, rfl⟩
  go_wp2
  go_ret
  exact ⟨rfl, hb1⟩
end Go.Proofs.YtefjdmjkofaajaaGreatDoor
