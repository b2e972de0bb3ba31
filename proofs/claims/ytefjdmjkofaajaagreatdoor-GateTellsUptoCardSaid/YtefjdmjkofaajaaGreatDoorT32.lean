/- Texts of the base. -/

import Derived.Test.YtefjdmjkofaajaaGreatDoorT27
import Derived.Test.YtefjdmjkofaajaaGreatDoorT34
import Derived.Test.YtefjdmjkofaajaaGreatDoorT7
import Derived.Test.YtefjdmjkofaajaaGreatDoorT11
import Derived.Laws.BitsAllLaws
import Derived.Test.YtefjdmjkofaajaaGreatDoorT15
namespace Go.Dm
open Go Go.RowKit
theorem mix_len (key : Bs) (x : UInt8) : (mixB key x).length = 64 := by simp [mixB, blk_len]
theorem mix_step (key : Bs) (x : UInt8) {k : Nat} (hk : k < 64) : (mixB key x).take (k + 1) = (mixB key x).take k ++ [(if k < key.length then key.getD k 0 else 0) ^^^ x] := by
 have h : (blk key)[k]? = some (if k < key.length then key.getD k 0 else 0) := by
  unfold blk
  by_cases h : k < key.length
  ·rw [if_pos h, List.getElem?_append_left (by simp; omega), List.getElem?_take_of_lt hk, List.getD_eq_getElem?_getD, List.getElem?_eq_getElem h]; rfl
  ·rw [if_neg h, List.getElem?_append_right (by simp; omega), List.getElem?_replicate, if_pos (by simp; omega)]
 have h2 : (mixB key x)[k]? = some ((if k < key.length then key.getD k 0 else 0) ^^^ x) := by
  unfold mixB
  rw [List.getElem?_map, h]; rfl
 rw [List.take_add_one, h2]
 rfl
theorem at0_ofB {l : Bs} {k : Nat} (h : k < l.length) : at0 (ofB l) k = ((l.getD k 0).toNat : Int) := by
 unfold at0 ofB
 rw [List.getD_eq_getElem?_getD, List.getElem?_map, List.getD_eq_getElem?_getD, List.getElem?_eq_getElem h]
 rfl
end Go.Dm
namespace Go.Proofs.YtefjdmjkofaajaaGreatDoor
open Go.RowKit Go.Dm
set_option maxHeartbeats 1000000 in
set_option maxRecDepth 100000 in
theorem mixed07_w (key : ByteArray) (x : UInt8) (w : World) :
  Calls Tryz.prog 138 #[.string key, .int .u8 (x.toNat : Int)] w fun e w' => e = .returned (.string ⟨(mixB key.data.toList x).toArray⟩) ∧ Ext w w' := by
 have hml := mix_len key.data.toList x
 have hst := fun k (hk : k < 64) => mix_step key.data.toList x hk
 obtain ⟨M, hM⟩ : ∃ M, M = mixB key.data.toList x := ⟨_, rfl⟩
 rw [← hM] at hml hst ⊢
 clear hM
 replace hst := Lib.hid hst
 replace hml := Lib.hid hml
 go_enter Tryz.func138, Tryz.ntmps138
 go_wp2
 go_loopw [5, 6] (fun t i wr => ∃ (k : Nat) (b : ByteArray), k ≤ 64 ∧ i = .int .i64 k ∧ t = .string b ∧ b.size ≤ k ∧ Hid (b.data.toList = M.take k) ∧ Ext w wr) (fun _ i _ => 64 - (intOf i).toNat)
 case atStart => exact ⟨0, ⟨#[]⟩, by omega, rfl, rfl, Nat.le_refl _, by show _ = _; simp, Ext.refl _⟩
 case round =>
  obtain ⟨k, b, hk, rfl, rfl, hb, hB, hx⟩ := hrel
  by_cases hlt : k < 64
  ·have h1 := hst.out k hlt
   have h0 : key.data.toList.length = key.size := rfl
   rw [h0] at h1
   have hxr := xor8 (if k < key.size then key.data.toList.getD k 0 else 0) x
   have hix : k < key.size → ∀ U, (Instr.index 9 (.string key) (.int .i64 (k : Int))).run Tryz.prog U = .ok (.int .u8 ((key.data.toList.getD k 0).toNat : Int)) U := fun h U => by
    have := run_index_at (P := Tryz.prog) Tryz.underlying9 key (k : Int) k rfl h U
    rw [this, at0_ofB (by exact h)]
   obtain ⟨y, hy⟩ : ∃ y, y = (if k < key.size then key.data.toList.getD k 0 else 0) ^^^ x := ⟨_, rfl⟩
   rw [← hy] at h1 hxr
   clear hy
   have hl4 := Sl.lit wr 5 1 1 #[.int .u8 (y.toNat : Int)] rfl (by simp [maxLen])
   have hcv := run_string_sl (l := [y]) (dst := 9) Tryz.underlying70 Tryz.underlying5 Tryz.underlying9 hl4 rfl (by simp)
   have hx2 := hx.trans ((Ext.refl wr).alloc (.cells #[.int .u8 (y.toNat : Int)] 5))
   have hb2 : (b ++ ⟨[y].toArray⟩ : ByteArray).size ≤ k + 1 := by rw [ByteArray.size_append]; show b.size + 1 ≤ _; omega
   have hB2 : Hid ((b ++ ⟨[y].toArray⟩ : ByteArray).data.toList = M.take (k + 1)) := by
    show _ = _
    rw [data_append, hB.out, h1]
   clear h1 hl4 hB h0
   by_cases hk2 : k < key.size
   ·rw [if_pos hk2] at hxr
    have hix := hix hk2
    generalize key.data.toList.getD k 0 = z at *
    go_wp2
    go_roundw
    case rel => exact ⟨k + 1, _, by omega, by go_num, rfl, hb2, hB2, hx2⟩
    case measure => simp [intOf]; omega
   ·rw [if_neg hk2] at hxr
    clear hix
    have hxr : Go.bits .xor .u8 0 (x.toNat : Int) = (y.toNat : Int) := hxr
    go_wp2
    go_roundw
    case rel => exact ⟨k + 1, _, by omega, by go_num, rfl, hb2, hB2, hx2⟩
    case measure => simp [intOf]; omega
  ·have hge : ¬ ((k : Int) < 64) := by omega
   have hB2 : Hid (b = ⟨M.toArray⟩) := by
    show _ = _
    refine mk_bytes ?_
    rw [hB.out, List.take_of_length_le (by have := hml.out; omega)]
   clear hB
   go_wp2
   go_ret
   exact ⟨by rw [hB2.out]; rfl, hx⟩
set_option maxRecDepth 100000 in
theorem sign07_w (key s : ByteArray) (hk : key.size ≤ 281474976710656) (hs : s.size ≤ 140737488355328) (w : World) :
  Calls Tryz.prog 113 #[.string key, .string s] w fun e w' => e = .returned (.string ⟨(signB key.data.toList s.data.toList).toArray⟩) ∧ Ext w w' := by
 have fin : ∀ (k2 : ByteArray), k2.data.toList = keyB key.data.toList → (⟨(mixB k2.data.toList 92).toArray⟩ : ByteArray).size = 64 ∧ (⟨(mixB k2.data.toList 54).toArray⟩ : ByteArray).size = 64 ∧ signB key.data.toList s.data.toList = shaB ((⟨(mixB k2.data.toList 92).toArray⟩ : ByteArray) ++ ⟨(shaB ((⟨(mixB k2.data.toList 54).toArray⟩ : ByteArray) ++ s).data.toList).toArray⟩).data.toList := fun k2 h => by
  refine ⟨mix_len _ _, mix_len _ _, ?_⟩
  rw [data_append, data_append, h]; rfl
 have C1 := fun k2 U => mixed07_w k2 92 U
 have C2 := fun k2 U => mixed07_w k2 54 U
 have CS := fun t (ht : t.size ≤ 281474976710656) U => sum06_w t ht U
 replace C1 := Lib.hid C1
 replace C2 := Lib.hid C2
 replace CS := Lib.hid CS
 replace fin := Lib.hid fin
 go_enter Tryz.func113, Tryz.ntmps113
 by_cases hgt : 64 < key.size
 ·have hi : (64 : Int) < (key.size : Int) := by omega
  obtain ⟨k2, hk2⟩ : ∃ k2 : ByteArray, k2 = ⟨(shaB key.data.toList).toArray⟩ := ⟨_, rfl⟩
  have hkb : k2.data.toList = keyB key.data.toList := by
   unfold keyB
   rw [if_pos (by exact hgt), hk2]
  have CS1 := CS.out key hk
  rw [← hk2] at CS1
  clear hk2
  replace CS1 := Lib.hid CS1
  go_wp2_with fail
  refine (CS1.out _).mono ?_; rintro e w1 ⟨rfl, hE⟩
  obtain ⟨m1, m2, hsg⟩ := fin.out k2 hkb
  replace hsg := Lib.hid hsg
  clear fin hkb
  go_wp2_with fail
  refine (C1.out k2 _).mono ?_; rintro e w2 ⟨rfl, h2⟩
  replace hE := hE.trans h2
  go_wp2_with fail
  refine (C2.out k2 _).mono ?_; rintro e w3 ⟨rfl, h3⟩
  replace hE := hE.trans h3
  generalize (⟨(mixB k2.data.toList 92).toArray⟩ : ByteArray) = A1 at *
  generalize (⟨(mixB k2.data.toList 54).toArray⟩ : ByteArray) = A2 at *
  go_wp2_with fail
  refine (CS.out (A2 ++ s) (by rw [ByteArray.size_append]; omega) _).mono ?_; rintro e w4 ⟨rfl, h4⟩
  replace hE := hE.trans h4
  have l4 : (⟨(shaB (A2 ++ s).data.toList).toArray⟩ : ByteArray).size = 32 := shaB_len _
  generalize (⟨(shaB (A2 ++ s).data.toList).toArray⟩ : ByteArray) = A3 at *
  go_wp2_with fail
  refine (CS.out (A1 ++ A3) (by rw [ByteArray.size_append]; omega) _).mono ?_; rintro e w5 ⟨rfl, h5⟩
  replace hE := hE.trans h5
  go_wp2
  go_ret
  exact ⟨by rw [hsg.out]; rfl, hE⟩
 ·have hi : ¬ (64 : Int) < (key.size : Int) := by omega
  have hkb : key.data.toList = keyB key.data.toList := by
   unfold keyB
   rw [if_neg (by exact hgt)]
  obtain ⟨k2, rfl⟩ : ∃ k2, k2 = key := ⟨_, rfl⟩
  obtain ⟨m1, m2, hsg⟩ := fin.out k2 hkb
  replace hsg := Lib.hid hsg
  clear fin hkb
  have hE := Ext.refl w
  go_wp2_with fail
  refine (C1.out k2 _).mono ?_; rintro e w2 ⟨rfl, h2⟩
  replace hE := hE.trans h2
  go_wp2_with fail
  refine (C2.out k2 _).mono ?_; rintro e w3 ⟨rfl, h3⟩
  replace hE := hE.trans h3
  generalize (⟨(mixB k2.data.toList 92).toArray⟩ : ByteArray) = A1 at *
  generalize (⟨(mixB k2.data.toList 54).toArray⟩ : ByteArray) = A2 at *
  go_wp2_with fail
  refine (CS.out (A2 ++ s) (by rw [ByteArray.size_append]; omega) _).mono ?_; rintro e w4 ⟨rfl, h4⟩
  replace hE := hE.trans h4
  have l4 : (⟨(shaB (A2 ++ s).data.toList).toArray⟩ : ByteArray).size = 32 := shaB_len _
  generalize (⟨(shaB (A2 ++ s).data.toList).toArray⟩ : ByteArray) = A3 at *
  go_wp2_with fail
  refine (CS.out (A1 ++ A3) (by rw [ByteArray.size_append]; omega) _).mono ?_; rintro e w5 ⟨rfl, h5⟩
  replace hE := hE.trans h5
  go_wp2
  go_ret
  exact ⟨by rw [hsg.out]; rfl, hE⟩
theorem new07_w (key tn : ByteArray) (w : World) (hk : key.size ≤ 281474976710656) (ht : tn.size ≤ 140737488355328) :
  Calls Tryz.prog 78 #[.string key, .string tn] w fun e w' => e = .returned (.agg #[.string tn, .slice none 0 0, .string ⟨(signB key.data.toList tn.data.toList).toArray⟩]) ∧ Ext w w' := by
 have CS := fun U => sign07_w key tn hk ht U
 have hA : CB w.heap.size [.string ⟨#[]⟩, .slice none 0 0, .string ⟨#[]⟩] (w.alloc (.cells #[.string ⟨#[]⟩, .slice none 0 0, .string ⟨#[]⟩] 55)) := CB.new w #[.string ⟨#[]⟩, .slice none 0 0, .string ⟨#[]⟩] 55
 have hE : Ext w (w.alloc (.cells #[.string ⟨#[]⟩, .slice none 0 0, .string ⟨#[]⟩] 55)) := (Ext.refl _).alloc _
 generalize (⟨(signB key.data.toList tn.data.toList).toArray⟩ : ByteArray) = sg at *
 replace CS := Lib.hid CS
 go_enter Tryz.func78, Tryz.ntmps78
 go_wp2_with fail
 generalize w.alloc (.cells #[.string ⟨#[]⟩, .slice none 0 0, .string ⟨#[]⟩] 55) = w1 at *
 obtain ⟨bR, hbR⟩ : ∃ x, x = w.heap.size := ⟨_, rfl⟩
 have hwR : w.heap.size ≤ bR := by omega
 rw [← hbR] at hA
 rw [← hbR]
 clear hbR
 refine (CS.out _).mono ?_; rintro e w2 ⟨rfl, h2⟩
 replace hA := hA.ext h2
 replace hE := hE.trans h2
 obtain ⟨yl, y0, y1, y2, yf0, yf1, yf2⟩ := hA.cells3
 go_wp2
 clear yl y0 y1 y2 yf0 yf1 yf2
 have hz := hA.put3 (.string tn) (.slice none 0 0) (.string sg)
 obtain ⟨_, k0, k1, k2, _, _, _⟩ := hz.cells3
 refine bodyPost_ret (v := .agg #[.string tn, .slice none 0 0, .string sg]) (by simp [results, Tryz.results78, go_sem, k0, k1, k2]) rfl ?_
 exact ⟨rfl, Ext.cput3 hE hwR _ _ _⟩
end Go.Proofs.YtefjdmjkofaajaaGreatDoor
namespace Go.Dm
open Go Go.RowKit
structure RdN (w : World) (bB i bC : Nat) (v k n : Value) (U : World) : Prop where
 x : Ext w U
 lB : bB < U.heap.size
 cB : U.cell? ⟨bB, i, none⟩ = some v
 lC : bC < U.heap.size
 cK : U.cell? ⟨bC, 0, none⟩ = some k
 cN : U.cell? ⟨bC, 1, none⟩ = some n
end Go.Dm
namespace Go.Proofs.YtefjdmjkofaajaaGreatDoor
open Go.RowKit Go.Dm
theorem Tryz.slCav7 : SlT Tryz.prog 53 88 2 16 := SlT.mk' Tryz.underlying53 (by kernel_rfl) (by decide) (by decide)
theorem putc07_w (c : Cav) (hc : U64 c.2) (w : World) :
  Calls Tryz.prog 77 #[.agg #[.int .i64 c.1, .int .u64 (c.2 : Nat)]] w fun e w' => e = .returned (.string ⟨(putC c).toArray⟩) ∧ Ext w w' := by
 obtain ⟨k, n⟩ := c
 have hc : U64 n := hc
 have h64 : IntKind.u64.wrap k = ((u64of k : Nat) : Int) := by rw [IntKind.wrap_u64]; unfold u64of; omega
 have hA : Ext w (w.alloc (.cells #[.int .i64 k, .int .u64 (n : Nat)] 88)) := (Ext.refl _).alloc _
 have C1 := fun U => rput_w (u64of k) U (u64of_lt k)
 have C2 := fun U => rput_w n U hc
 have l1 := putL_ten (u64of_lt k)
 have l2 := putL_ten hc
 have hX : Hid ((⟨(putL (u64of k)).toArray⟩ : ByteArray) ++ ⟨(putL n).toArray⟩ = ⟨(putC (k, n)).toArray⟩) := by
  show _ = _
  refine mk_bytes ?_
  rw [data_append]; rfl
 have p1 : (⟨(putL (u64of k)).toArray⟩ : ByteArray).size ≤ 10 := by rw [size_len]; exact l1
 have p2 : (⟨(putL n).toArray⟩ : ByteArray).size ≤ 10 := by rw [size_len]; exact l2
 generalize (⟨(putL (u64of k)).toArray⟩ : ByteArray) = b1 at *
 generalize (⟨(putL n).toArray⟩ : ByteArray) = b2 at *
 generalize (⟨(putC (k, n)).toArray⟩ : ByteArray) = b3 at *
 clear l1 l2
 replace C1 := Lib.hid C1
 replace C2 := Lib.hid C2
 have d0 : (w.alloc (.cells #[.int .i64 k, .int .u64 (n : Nat)] 88)).cell? ⟨w.heap.size, 0, none⟩ = some (.int .i64 k) := by simp
 have d1 : (w.alloc (.cells #[.int .i64 k, .int .u64 (n : Nat)] 88)).cell? ⟨w.heap.size, 1, none⟩ = some (.int .u64 (n : Nat)) := by simp
 have dl : w.heap.size < (w.alloc (.cells #[.int .i64 k, .int .u64 (n : Nat)] 88)).heap.size := by simp
 go_enter Tryz.func77, Tryz.ntmps77
 go_upto_region 1 with fail
 generalize w.alloc (.cells #[.int .i64 k, .int .u64 (n : Nat)] 88) = w1 at *
 generalize w.heap.size = bc at *
 refine sx_ ?_
 refine rg_ 9 (Ext.refl w1) ?_
 refine tks (List.range' 0 9) 511 0 (hq := by intro x; (repeat go_big_quiet_step ((go_at_call 44; with_reducible first | exact Calls.quietE (C1.out _) | exact Calls.quietE (C2.out _)))); exact wpQuiet_nil rfl) ?_
 refine kd_ (Ext.refl w1) fun w1a hx1a hX1a => ?_
 go_wp2
 go_ret
 exact ⟨by rw [← hX.out]; rfl, hA.trans hX1a⟩
set_option maxHeartbeats 1000000 in
set_option maxRecDepth 100000 in
theorem known07_w (v : Value) (L : List Cav) (w : World) (hl : L.length ≤ 35184372088832) (hx : Cavs w v L) :
  Calls Tryz.prog 76 #[v] w fun e w' => e = .returned (.bool (fitsC L)) ∧ Ext w w' := by
 obtain ⟨q, cap, rfl, _, _⟩ := hx.shape
 have hit := fun k (hk : k < L.length) (h : knownC (L.getD k (0, 0)) = false) => all_hit (g := knownC) hk h
 have miss := fun h => all_miss (l := L) (g := knownC) h
 have hfe : fitsC L = (decide (L.length ≤ 8) && L.all knownC) := rfl
 generalize fitsC L = ft at *
 generalize L.all knownC = al at *
 replace hit := Lib.hid hit
 replace miss := Lib.hid miss
 replace hfe := Lib.hid hfe
 go_enter Tryz.func76, Tryz.ntmps76
 go_wp2
 go_loopw [3] (fun i wr => ∃ k : Nat, k ≤ L.length ∧ i = .int .i64 k ∧ Ext w wr ∧ Hid (∀ j, j < k → knownC (L.getD j (0, 0)) = true)) (fun i _ => L.length - (intOf i).toNat)
 case atStart => exact ⟨0, by omega, rfl, Ext.refl _, fun j hj => by omega⟩
 case round =>
  obtain ⟨k, hk, rfl, h1, h2⟩ := hrel
  by_cases hlt : k < L.length
  ·obtain ⟨b, off, rfl, hb, c0, c1⟩ := (hx.ext h1).at hlt
   have hh := hit.out k hlt
   have hnx : knownC (L.getD k (0, 0)) = true → Hid (∀ j, j < k + 1 → knownC (L.getD j (0, 0)) = true) := fun h j hj => by
    rcases Nat.lt_succ_iff_lt_or_eq.1 hj with h' | rfl
    ·exact h2.out j h'
    ·exact h
   generalize L.getD k (0, 0) = c at *
   obtain ⟨z, n⟩ := c
   unfold knownC at hh hnx
   simp only at c0 c1 hh hnx
   by_cases z1 : z = 1
   ·subst z1
    have hnx := hnx (by simp)
    clear hh
    go_wp2
    go_roundw
    case rel => exact ⟨k + 1, by omega, by go_num, h1, hnx⟩
    case measure => simp [intOf]; omega
   ·by_cases z2 : z = 2
    ·subst z2
     have hnx := hnx (by simp)
     clear hh
     go_wp2
     go_roundw
     case rel => exact ⟨k + 1, by omega, by go_num, h1, hnx⟩
     case measure => simp [intOf]; omega
    ·have hh := Lib.hid (hh (by simp [z1, z2]))
     have y1 : (z != 1) = true := by rw [bne_iff_ne]; exact z1
     have y2 : (z != 2) = true := by rw [bne_iff_ne]; exact z2
     clear hnx
     go_wp2
     go_ret
     exact ⟨by rw [hfe.out, hh.out, Bool.and_false]; rfl, h1⟩
  ·have hm := Lib.hid (miss.out fun j hj => h2.out j (by omega))
   have hge : ¬ ((k : Int) < (L.length : Int)) := by omega
   go_wp2
   go_ret
   refine ⟨?_, h1⟩
   rw [hfe.out, hm.out, Bool.and_true]
   refine congrArg (fun b => Ending.returned (Value.bool b)) ?_
   exact decide_eq_decide.2 (by omega)
set_option maxHeartbeats 2000000 in
set_option maxRecDepth 100000 in
theorem narrow07_w (tn sg : ByteArray) (v : Value) (L : List Cav) (c : Cav) (w : World) (hx : Cavs w v L) (hc : U64 c.2) (hn : L.length ≤ 4398046511103) (hs : sg.size ≤ 140737488355328) :
  Calls Tryz.prog 79 #[.agg #[.string tn, v, .string sg], .agg #[.int .i64 c.1, .int .u64 (c.2 : Nat)]] w fun e w' => ∃ r, e = .returned (.agg #[.string tn, r, .string ⟨(signB sg.data.toList (putC c)).toArray⟩]) ∧ Cavs w' r (L ++ [c]) ∧ (∀ c, r.ownBlock = some c → w.heap.size ≤ c) ∧ Ext w w' := by
 obtain ⟨q, cap, rfl, _, _⟩ := hx.shape
 obtain ⟨pb, hpb⟩ : ∃ b : ByteArray, b = ⟨(putC c).toArray⟩ := ⟨_, rfl⟩
 have hps : pb.size ≤ 20 := by rw [hpb, size_len]; exact putC_len hc
 have C1 := fun U => putc07_w c hc U
 have C2 := fun U => sign07_w sg pb (by omega) (by omega) U
 rw [← hpb] at C1
 rw [show pb.data.toList = putC c by rw [hpb]] at C2
 obtain ⟨sn, hsn⟩ : ∃ b : ByteArray, b = ⟨(signB sg.data.toList (putC c)).toArray⟩ := ⟨_, rfl⟩
 rw [← hsn] at C2 ⊢
 clear hsn hpb
 obtain ⟨ck, cn⟩ := c
 simp only at C1
 replace C1 := Lib.hid C1
 replace C2 := Lib.hid C2
 have hB : CB w.heap.size [.string tn, .slice q L.length cap, .string sg] (w.alloc (.cells #[.string tn, .slice q L.length cap, .string sg] 55)) := CB.new w #[.string tn, .slice q L.length cap, .string sg] 55
 have hE : Ext w (w.alloc (.cells #[.string tn, .slice q L.length cap, .string sg] 55)) := (Ext.refl _).alloc _
 generalize hW1 : w.alloc (.cells #[.string tn, .slice q L.length cap, .string sg] 55) = w1 at *
 have hb01 : w.heap.size < w1.heap.size := by rw [← hW1, World.size_alloc]; omega
 have hC : CB w1.heap.size [.int .i64 ck, .int .u64 (cn : Nat)] (w1.alloc (.cells #[.int .i64 ck, .int .u64 (cn : Nat)] 88)) := CB.new w1 #[.int .i64 ck, .int .u64 (cn : Nat)] 88
 have e2 : Ext w1 (w1.alloc (.cells #[.int .i64 ck, .int .u64 (cn : Nat)] 88)) := (Ext.refl _).alloc _
 generalize hW2 : w1.alloc (.cells #[.int .i64 ck, .int .u64 (cn : Nat)] 88) = w2 at *
 have hb12 : w1.heap.size < w2.heap.size := by rw [← hW2, World.size_alloc]; omega
 replace hB := hB.ext e2
 replace hE := hE.trans e2
 clear e2
 have hR : CB w2.heap.size [.string ⟨#[]⟩, .slice none 0 0, .string ⟨#[]⟩] (w2.alloc (.cells #[.string ⟨#[]⟩, .slice none 0 0, .string ⟨#[]⟩] 55)) := CB.new w2 #[.string ⟨#[]⟩, .slice none 0 0, .string ⟨#[]⟩] 55
 have e3 : Ext w2 (w2.alloc (.cells #[.string ⟨#[]⟩, .slice none 0 0, .string ⟨#[]⟩] 55)) := (Ext.refl _).alloc _
 generalize hW3 : w2.alloc (.cells #[.string ⟨#[]⟩, .slice none 0 0, .string ⟨#[]⟩] 55) = w3 at *
 replace hB := hB.ext e3
 replace hC := hC.ext e3
 replace hE := hE.trans e3
 clear e3
 obtain ⟨bB, hbB⟩ : ∃ x, x = w.heap.size := ⟨_, rfl⟩
 obtain ⟨bC, hbC⟩ : ∃ x, x = w1.heap.size := ⟨_, rfl⟩
 obtain ⟨bR, hbR⟩ : ∃ x, x = w2.heap.size := ⟨_, rfl⟩
 have hwB : w.heap.size ≤ bB := by omega
 rw [← hbB] at hb01 hB
 rw [← hbC] at hb01 hb12 hC
 rw [← hbR] at hb12 hR
 replace hbB := hbB.symm
 replace hbC := hbC.symm
 replace hbR := hbR.symm
 have hx3 := hx.ext hE
 have mk : Hid (∀ U, Ext w3 U → RdN w3 bB 1 bC (.slice q L.length cap) (.int .i64 ck) (.int .u64 (cn : Nat)) U) :=
  fun U h => ⟨h, (hB.ext h).lt, (hB.ext h).cell 1 (by simp), (hC.ext h).lt, (hC.ext h).cell 0 (by simp), (hC.ext h).cell 1 (by simp)⟩
 have HI := mk.out _ (Ext.refl w3)
 have hq := Ext.refl w3
 go_enter Tryz.func79, Tryz.ntmps79
 go_upto_region 1 with fail
 clear hW1 hW2 hW3 hbB hbC hbR
 refine sx_ ?_
 refine rf_ (RdN w3 bB 1 bC (.slice q L.length cap) (.int .i64 ck) (.int .u64 (cn : Nat))) 7 8 ?_
 refine tfs [0, 1, 3] 11 5 (fun _ _ h hx => mk.out _ (h.x.trans hx)) HI ?_ (hq := by intro wq hwq; obtain ⟨_, q0, q1, q2, q3, q4⟩ := hwq; (repeat go_big_quiet_step (fail)); exact wpQuiet_nil rfl)
 refine f2_ 2 4 15 27 (fun wm2 hxm2 => ?_) fun wm4 hxm4 => ?_
 ·
  try replace hl := hl.ext hxm2
  replace hq := hq.trans hxm2
  go_wp2_with (at_builtin; refine wpList_appE (v := .slice none 0 0) rfl _ _ Tryz.slCav7 rfl hq rfl (World.ownsRow_nil _ _ _ _) rfl (hx3.ext hq) (cavC_one L) (by omega) ?_; intro v2 w7 ho hq2 hf)
  replace hq := hq2
  try replace hl := hl.ext (hf rfl)
  replace HI := mk.out _ hq
  refine ⟨fun _ => HI, ?_⟩
  refine sx_ ?_
  refine f1_ 4 31 fun wm4 hxm4 => ?_
  try replace ho := Ext.row ho hxm4
  replace hq := hq.trans hxm4
  have hl := Sl.lit wm4 88 2 1 #[.int .i64 ck, .int .u64 (cn : Nat)] rfl (by simp [maxLen])
  have hsl := (Ext.refl wm4).alloc (.cells #[.int .i64 ck, .int .u64 (cn : Nat)] 88)
  go_wp2_with fail
  generalize wm4.alloc (.cells #[.int .i64 ck, .int .u64 (cn : Nat)] 88) = wl at *
  generalize wm4.heap.size = bl at *
  try replace ho := Ext.row ho hsl
  replace hq := hq.trans hsl
  replace HI := mk.out _ hq
  refine ⟨fun _ => HI, ?_⟩
  refine sx_ ?_
  refine f1_ 5 63 fun wm5 hxm5 => ?_
  replace ho := Ext.row ho hxm5
  replace hl := hl.ext hxm5
  replace hq := hq.trans hxm5
  go_wp2_with (at_builtin; refine wpList_appE rfl _ _ Tryz.slCav7 rfl hq rfl ho rfl hl (cavC_one [(ck, cn)]) (by omega) ?_; intro v3 w8 ho2 hq3 _)
  replace hq := hq3
  clear hq3
  rw [Nat.zero_add, List.nil_append] at ho2
  obtain ⟨p3, c3, hv3, hc3, hm3, _⟩ := (Sl.of_owns ho2).shape
  subst hv3
  replace HI := mk.out _ hq
  refine ⟨fun _ => HI, ?_⟩
  refine sx_ ?_
  refine tfs [6] 127 1 (fun _ _ h hx => mk.out _ (h.x.trans hx)) HI ?_ (hq := by intro wq hwq; obtain ⟨_, q0, q1, q2, q3, q4⟩ := hwq; go_big_quiet_step (fail); exact wpQuiet_nil rfl)
  refine f1_ 7 255 fun wz hxz => ?_
  have hz := hq.trans hxz
  obtain ⟨xl, x0, x1, x2, xf0, xf1, xf2⟩ := (hB.ext hz).cells3
  go_wp2_with fail
  first | refine ⟨fun h => absurd h (by decide), ?_⟩ | skip
  refine fd_ fun wy hxy => ?_
  clear xl x0 x1 x2 xf0 xf1 xf2 HI
  have hxy : Ext (wz.setCell ⟨bB, 1, none⟩ (.slice p3 (L.length + 1) c3)) wy := hxy
  have hrB : ∀ c, (Value.slice p3 (L.length + 1) c3).ownBlock = some c → w3.heap.size ≤ c := fun c hc => (ho2.lt c hc).1
  have ho5 := Ext.row ((Ext.row ho2 hxz).kept (grown_set wz bB 1 (.slice p3 (L.length + 1) c3)) (Or.inr fun e2 => by have := hrB _ e2; have := hB.lt; omega)) hxy
  have hB5 : CB bB [.string tn, .slice p3 (L.length + 1) c3, .string sg] wy := ((hB.ext hz).set 1 (.slice p3 (L.length + 1) c3) (by simp)).ext hxy
  have hC5 := ((hC.ext hz).far (c := bB) (i := 1) (by omega) (.slice p3 (L.length + 1) c3)).ext hxy
  have hR5 := ((hR.ext hz).far (c := bB) (i := 1) (by omega) (.slice p3 (L.length + 1) c3)).ext hxy
  have hE5 : Ext w wy := Ext.trans (Below.setCell (hE.trans hz) (p := ⟨bB, 1, none⟩) hwB _) hxy
  have hBl := hB.lt
  have hRl := hR.lt
  clear hB hC hR hE hz hxy hxz hq ho2 mk hx3
  obtain ⟨w9, rfl⟩ : ∃ x, x = wy := ⟨_, rfl⟩
  have mk : Hid (∀ U, Ext w9 U → RdN w9 bB 2 bC (.string sg) (.int .i64 ck) (.int .u64 (cn : Nat)) U) :=
   fun U h => ⟨h, (hB5.ext h).lt, (hB5.ext h).cell 2 (by simp), (hC5.ext h).lt, (hC5.ext h).cell 0 (by simp), (hC5.ext h).cell 1 (by simp)⟩
  have HI := mk.out _ (Ext.refl w9)
  go_upto_region 2 with fail
  refine sx_ ?_
  refine rf_ (RdN w9 bB 2 bC (.string sg) (.int .i64 ck) (.int .u64 (cn : Nat))) 6 7 ?_
  refine tfs [0, 1, 2, 3, 4, 5] 63 1 (fun _ _ h hx => mk.out _ (h.x.trans hx)) HI ?_ (hq := by intro wq hwq; obtain ⟨_, q0, q1, q2, q3, q4⟩ := hwq; (repeat go_big_quiet_step ((first | (go_at_call 77; with_reducible exact Calls.quietE (C1.out _)) | (go_at_call 113; with_reducible exact Calls.quietE (C2.out _))))); exact wpQuiet_nil rfl)
  refine f1_ 6 127 fun wz hxz => ?_
  obtain ⟨xl, x0, x1, x2, xf0, xf1, xf2⟩ := (hB5.ext hxz).cells3
  go_wp2_with fail
  first | refine ⟨fun h => absurd h (by decide), ?_⟩ | skip
  refine fd_ fun wy hxy => ?_
  clear xl x0 x1 x2 xf0 xf1 xf2 HI
  have hxy : Ext (wz.setCell ⟨bB, 2, none⟩ (.string sn)) wy := hxy
  have ho6 := Ext.row ((Ext.row ho5 hxz).kept (grown_set wz bB 2 (.string sn)) (Or.inr fun e2 => by have := hrB _ e2; omega)) hxy
  have hB6 : CB bB [.string tn, .slice p3 (L.length + 1) c3, .string sn] wy := ((hB5.ext hxz).set 2 (.string sn) (by simp)).ext hxy
  have hR6 := ((hR5.ext hxz).far (c := bB) (i := 2) (by omega) (.string sn)).ext hxy
  have hE6 : Ext w wy := Ext.trans (Below.setCell (hE5.trans hxz) (p := ⟨bB, 2, none⟩) hwB _) hxy
  clear hB5 hC5 hR5 hE5 ho5 hxy hxz mk
  obtain ⟨w10, rfl⟩ : ∃ x, x = wy := ⟨_, rfl⟩
  obtain ⟨xl, x0, x1, x2, xf0, xf1, xf2⟩ := hB6.cells3
  obtain ⟨yl, y0, y1, y2, yf0, yf1, yf2⟩ := hR6.cells3
  go_wp2
  clear xl x0 x1 x2 xf0 xf1 xf2 yl y0 y1 y2 yf0 yf1 yf2
  have hz := hR6.put3 (.string tn) (.slice p3 (L.length + 1) c3) (.string sn)
  obtain ⟨_, k0, k1, k2, _, _, _⟩ := hz.cells3
  refine bodyPost_ret (v := .agg #[.string tn, .slice p3 (L.length + 1) c3, .string sn]) (by simp [results, Tryz.results79, go_sem, k0, k1, k2]) rfl ?_
  refine ⟨.slice p3 (L.length + 1) c3, rfl, ?_, fun c hc => by have := hrB c hc; omega, Ext.cput3 hE6 (by omega) _ _ _⟩
  have ho8 := ((ho6.kept (grown_set w10 bR 0 (.string tn)) (Or.inr fun e2 => by have := hrB _ e2; omega)).kept (grown_set _ bR 1 (.slice p3 (L.length + 1) c3)) (Or.inr fun e2 => by have := hrB _ e2; omega)).kept (grown_set _ bR 2 (.string sn)) (Or.inr fun e2 => by have := hrB _ e2; omega)
  have := Sl.of_owns ho8
  show Sl _ 2 _ (L ++ [(ck, cn)]).length _
  rw [List.length_append, cavC_app]
  exact this
 ·
  try replace ho := Ext.row ho hxm4
  replace hq := hq.trans hxm4
  have hl := Sl.lit wm4 88 2 1 #[.int .i64 ck, .int .u64 (cn : Nat)] rfl (by simp [maxLen])
  have hsl := (Ext.refl wm4).alloc (.cells #[.int .i64 ck, .int .u64 (cn : Nat)] 88)
  go_wp2_with fail
  generalize wm4.alloc (.cells #[.int .i64 ck, .int .u64 (cn : Nat)] 88) = wl at *
  generalize wm4.heap.size = bl at *
  try replace ho := Ext.row ho hsl
  replace hq := hq.trans hsl
  replace HI := mk.out _ hq
  refine ⟨fun _ => HI, ?_⟩
  refine sx_ ?_
  refine f1_ 2 31 fun wm2 hxm2 => ?_
  try replace hl := hl.ext hxm2
  replace hq := hq.trans hxm2
  go_wp2_with (at_builtin; refine wpList_appE (v := .slice none 0 0) rfl _ _ Tryz.slCav7 rfl hq rfl (World.ownsRow_nil _ _ _ _) rfl (hx3.ext hq) (cavC_one L) (by omega) ?_; intro v2 w7 ho hq2 hf)
  replace hq := hq2
  try replace hl := hl.ext (hf rfl)
  replace HI := mk.out _ hq
  refine ⟨fun _ => HI, ?_⟩
  refine sx_ ?_
  refine f1_ 5 63 fun wm5 hxm5 => ?_
  replace ho := Ext.row ho hxm5
  replace hl := hl.ext hxm5
  replace hq := hq.trans hxm5
  go_wp2_with (at_builtin; refine wpList_appE rfl _ _ Tryz.slCav7 rfl hq rfl ho rfl hl (cavC_one [(ck, cn)]) (by omega) ?_; intro v3 w8 ho2 hq3 _)
  replace hq := hq3
  clear hq3
  rw [Nat.zero_add, List.nil_append] at ho2
  obtain ⟨p3, c3, hv3, hc3, hm3, _⟩ := (Sl.of_owns ho2).shape
  subst hv3
  replace HI := mk.out _ hq
  refine ⟨fun _ => HI, ?_⟩
  refine sx_ ?_
  refine tfs [6] 127 1 (fun _ _ h hx => mk.out _ (h.x.trans hx)) HI ?_ (hq := by intro wq hwq; obtain ⟨_, q0, q1, q2, q3, q4⟩ := hwq; go_big_quiet_step (fail); exact wpQuiet_nil rfl)
  refine f1_ 7 255 fun wz hxz => ?_
  have hz := hq.trans hxz
  obtain ⟨xl, x0, x1, x2, xf0, xf1, xf2⟩ := (hB.ext hz).cells3
  go_wp2_with fail
  first | refine ⟨fun h => absurd h (by decide), ?_⟩ | skip
  refine fd_ fun wy hxy => ?_
  clear xl x0 x1 x2 xf0 xf1 xf2 HI
  have hxy : Ext (wz.setCell ⟨bB, 1, none⟩ (.slice p3 (L.length + 1) c3)) wy := hxy
  have hrB : ∀ c, (Value.slice p3 (L.length + 1) c3).ownBlock = some c → w3.heap.size ≤ c := fun c hc => (ho2.lt c hc).1
  have ho5 := Ext.row ((Ext.row ho2 hxz).kept (grown_set wz bB 1 (.slice p3 (L.length + 1) c3)) (Or.inr fun e2 => by have := hrB _ e2; have := hB.lt; omega)) hxy
  have hB5 : CB bB [.string tn, .slice p3 (L.length + 1) c3, .string sg] wy := ((hB.ext hz).set 1 (.slice p3 (L.length + 1) c3) (by simp)).ext hxy
  have hC5 := ((hC.ext hz).far (c := bB) (i := 1) (by omega) (.slice p3 (L.length + 1) c3)).ext hxy
  have hR5 := ((hR.ext hz).far (c := bB) (i := 1) (by omega) (.slice p3 (L.length + 1) c3)).ext hxy
  have hE5 : Ext w wy := Ext.trans (Below.setCell (hE.trans hz) (p := ⟨bB, 1, none⟩) hwB _) hxy
  have hBl := hB.lt
  have hRl := hR.lt
  clear hB hC hR hE hz hxy hxz hq ho2 mk hx3
  obtain ⟨w9, rfl⟩ : ∃ x, x = wy := ⟨_, rfl⟩
  have mk : Hid (∀ U, Ext w9 U → RdN w9 bB 2 bC (.string sg) (.int .i64 ck) (.int .u64 (cn : Nat)) U) :=
   fun U h => ⟨h, (hB5.ext h).lt, (hB5.ext h).cell 2 (by simp), (hC5.ext h).lt, (hC5.ext h).cell 0 (by simp), (hC5.ext h).cell 1 (by simp)⟩
  have HI := mk.out _ (Ext.refl w9)
  go_upto_region 2 with fail
  refine sx_ ?_
  refine rf_ (RdN w9 bB 2 bC (.string sg) (.int .i64 ck) (.int .u64 (cn : Nat))) 6 7 ?_
  refine tfs [0, 1, 2, 3, 4, 5] 63 1 (fun _ _ h hx => mk.out _ (h.x.trans hx)) HI ?_ (hq := by intro wq hwq; obtain ⟨_, q0, q1, q2, q3, q4⟩ := hwq; (repeat go_big_quiet_step ((first | (go_at_call 77; with_reducible exact Calls.quietE (C1.out _)) | (go_at_call 113; with_reducible exact Calls.quietE (C2.out _))))); exact wpQuiet_nil rfl)
  refine f1_ 6 127 fun wz hxz => ?_
  obtain ⟨xl, x0, x1, x2, xf0, xf1, xf2⟩ := (hB5.ext hxz).cells3
  go_wp2_with fail
  first | refine ⟨fun h => absurd h (by decide), ?_⟩ | skip
  refine fd_ fun wy hxy => ?_
  clear xl x0 x1 x2 xf0 xf1 xf2 HI
  have hxy : Ext (wz.setCell ⟨bB, 2, none⟩ (.string sn)) wy := hxy
  have ho6 := Ext.row ((Ext.row ho5 hxz).kept (grown_set wz bB 2 (.string sn)) (Or.inr fun e2 => by have := hrB _ e2; omega)) hxy
  have hB6 : CB bB [.string tn, .slice p3 (L.length + 1) c3, .string sn] wy := ((hB5.ext hxz).set 2 (.string sn) (by simp)).ext hxy
  have hR6 := ((hR5.ext hxz).far (c := bB) (i := 2) (by omega) (.string sn)).ext hxy
  have hE6 : Ext w wy := Ext.trans (Below.setCell (hE5.trans hxz) (p := ⟨bB, 2, none⟩) hwB _) hxy
  clear hB5 hC5 hR5 hE5 ho5 hxy hxz mk
  obtain ⟨w10, rfl⟩ : ∃ x, x = wy := ⟨_, rfl⟩
  obtain ⟨xl, x0, x1, x2, xf0, xf1, xf2⟩ := hB6.cells3
  obtain ⟨yl, y0, y1, y2, yf0, yf1, yf2⟩ := hR6.cells3
  go_wp2
  clear xl x0 x1 x2 xf0 xf1 xf2 yl y0 y1 y2 yf0 yf1 yf2
  have hz := hR6.put3 (.string tn) (.slice p3 (L.length + 1) c3) (.string sn)
  obtain ⟨_, k0, k1, k2, _, _, _⟩ := hz.cells3
  refine bodyPost_ret (v := .agg #[.string tn, .slice p3 (L.length + 1) c3, .string sn]) (by simp [results, Tryz.results79, go_sem, k0, k1, k2]) rfl ?_
  refine ⟨.slice p3 (L.length + 1) c3, rfl, ?_, fun c hc => by have := hrB c hc; omega, Ext.cput3 hE6 (by omega) _ _ _⟩
  have ho8 := ((ho6.kept (grown_set w10 bR 0 (.string tn)) (Or.inr fun e2 => by have := hrB _ e2; omega)).kept (grown_set _ bR 1 (.slice p3 (L.length + 1) c3)) (Or.inr fun e2 => by have := hrB _ e2; omega)).kept (grown_set _ bR 2 (.string sn)) (Or.inr fun e2 => by have := hrB _ e2; omega)
  have := Sl.of_owns ho8
  show Sl _ 2 _ (L ++ [(ck, cn)]).length _
  rw [List.length_append, cavC_app]
  exact this
structure RdK (w : World) (bX bB bq o0 o1 : Nat) (t v s q k n : Value) (U : World) : Prop where
 x : Ext w U
 lX : bX < U.heap.size
 x0 : U.cell? ⟨bX, 0, none⟩ = some t
 x1 : U.cell? ⟨bX, 1, none⟩ = some v
 x2 : U.cell? ⟨bX, 2, none⟩ = some s
 lB : bB < U.heap.size
 b1 : U.cell? ⟨bB, 1, none⟩ = some q
 lq : bq < U.heap.size
 k0 : U.cell? ⟨bq, o0, none⟩ = some k
 k1 : U.cell? ⟨bq, o1, none⟩ = some n
set_option maxHeartbeats 2000000 in
set_option maxRecDepth 100000 in
theorem check07_w (key tn sg : ByteArray) (v : Value) (L : List Cav) (w : World) (hk : key.size ≤ 281474976710656) (ht : tn.size ≤ 140737488355328) (hl : L.length ≤ 4398046511103) (hU : ∀ c ∈ L, U64 c.2) (hx : Cavs w v L) :
  Calls Tryz.prog 36 #[.string key, .agg #[.string tn, v, .string sg]] w fun e w' => e = .returned (.bool (checkT key.data.toList (tn, L, sg))) ∧ Ext w w' := by
 obtain ⟨q, cap, rfl, _, _⟩ := hx.shape
 have hB : CB w.heap.size [.string tn, .slice q L.length cap, .string sg] (w.alloc (.cells #[.string tn, .slice q L.length cap, .string sg] 55)) := CB.new w #[.string tn, .slice q L.length cap, .string sg] 55
 have hE : Ext w (w.alloc (.cells #[.string tn, .slice q L.length cap, .string sg] 55)) := (Ext.refl _).alloc _
 have CF := fun U (h : Ext w U) => known07_w _ L U (by omega) (hx.ext h)
 have CN := fun U => new07_w key tn U hk ht
 obtain ⟨s0, hs0⟩ : ∃ s0 : ByteArray, s0 = ⟨(signB key.data.toList tn.data.toList).toArray⟩ := ⟨_, rfl⟩
 rw [← hs0] at CN
 have hl0 : s0.size ≤ 32 := by
  rw [hs0]
  show (signB _ _).toArray.size ≤ _
  rw [List.size_toArray, signB_len]
  omega
 have e0 : s0.data.toList = signB key.data.toList tn.data.toList := by rw [hs0]
 have hchk : checkT key.data.toList (tn, L, sg) = (fitsC L && decide (narrowB s0.data.toList L = sg.data.toList)) := by
  rw [e0]; rfl
 rw [hchk]
 clear hchk e0 hs0
 generalize fitsC L = ft at *
 replace CF := Lib.hid CF
 replace CN := Lib.hid CN
 go_enter Tryz.func36, Tryz.ntmps36
 go_upto_region 1 with fail
 generalize w.alloc (.cells #[.string tn, .slice q L.length cap, .string sg] 55) = w1 at *
 obtain ⟨bB, hbB⟩ : ∃ x, x = w.heap.size := ⟨_, rfl⟩
 have hwB : w.heap.size ≤ bB := by omega
 rw [← hbB] at hB
 rw [← hbB]
 clear hbB
 obtain ⟨xl, x0, x1, x2, xf0, xf1, xf2⟩ := hB.cells3
 go_wp2_with fail
 refine (CF.out _ hE).mono ?_; rintro e w2 ⟨rfl, h2⟩
 clear xl x0 x1 x2 xf0 xf1 xf2
 replace hB := hB.ext h2
 replace hE := hE.trans h2
 clear h2
 cases ft with
 | false =>
  go_wp2
  go_ret
  exact ⟨rfl, hE⟩
 | true =>
  obtain ⟨xl, x0, x1, x2, xf0, xf1, xf2⟩ := hB.cells3
  go_wp2_with fail
  refine (CN.out _).mono ?_; rintro e w3 ⟨rfl, h3⟩
  clear xl x0 x1 x2 xf0 xf1 xf2
  replace hB := hB.ext h3
  replace hE := hE.trans h3
  clear h3
  have hX : CB w3.heap.size [.string tn, .slice none 0 0, .string s0] (w3.alloc (.cells #[.string tn, .slice none 0 0, .string s0] 55)) := CB.new w3 #[.string tn, .slice none 0 0, .string s0] 55
  have e4 : Ext w3 (w3.alloc (.cells #[.string tn, .slice none 0 0, .string s0] 55)) := (Ext.refl _).alloc _
  have hbX : bB < w3.heap.size := hB.lt
  replace hB := hB.ext e4
  replace hE := hE.trans e4
  clear e4
  obtain ⟨xl, x0, x1, x2, xf0, xf1, xf2⟩ := hB.cells3
  go_wp2_with fail
  clear xl x0 x1 x2 xf0 xf1 xf2
  generalize w3.alloc (.cells #[.string tn, .slice none 0 0, .string s0] 55) = w4 at *
  generalize w3.heap.size = bX at *
  go_loopw [6] (fun i wr => ∃ (k : Nat) (s : ByteArray) (p : Option Addr) (n c : Nat), k ≤ L.length ∧ i = .int .i64 k ∧ Ext w wr ∧ CB bB [.string tn, .slice q L.length cap, .string sg] wr ∧ CB bX [.string tn, .slice p n c, .string s] wr ∧ Cavs wr (.slice p n c) (L.take k) ∧ s.size ≤ 32 ∧ Hid (s.data.toList = narrowB s0.data.toList (L.take k))) (fun i _ => L.length - (intOf i).toNat)
  case atStart => exact ⟨0, s0, none, 0, 0, by omega, rfl, hE, hB, hX, Sl.nil _ _, hl0, by show _ = _; rfl⟩
  case round =>
   obtain ⟨k, s, p, n, c, hk', rfl, g1, g2, g3, g4, g5, g6⟩ := hrel
   clear hE hB hX
   by_cases hlt : k < L.length
   ·obtain ⟨bq, off, rfl, hbl, c0, c1⟩ := (hx.ext g1).at hlt
    have hcU := hU _ (show L.getD k (0, 0) ∈ L by rw [List.getD_eq_getElem?_getD, List.getElem?_eq_getElem hlt]; exact List.getElem_mem hlt)
    have hsn := narrowB_snoc (sig := s0.data.toList) (l := L) hlt
    have htk : L.take (k + 1) = L.take k ++ [L.getD k (0, 0)] := by
     rw [List.take_add_one, List.getElem?_eq_getElem hlt, List.getD_eq_getElem?_getD, List.getElem?_eq_getElem hlt]; rfl
    rw [htk, ← g6.out] at hsn
    generalize L.getD k (0, 0) = cv at *
    obtain ⟨ck, cn⟩ := cv
    simp only at c0 c1 hcU
    have CR := fun U (h : Cavs U (.slice p n c) (L.take k)) => narrow07_w tn s (.slice p n c) (L.take k) (ck, cn) U h hcU (by simp; omega) (by omega)
    simp only at CR
    obtain ⟨s2, he2⟩ : ∃ s2 : ByteArray, s2 = ⟨(signB s.data.toList (putC (ck, cn))).toArray⟩ := ⟨_, rfl⟩
    rw [← he2] at CR
    have hl2 : s2.size ≤ 32 := by
     rw [he2]
     show (signB _ _).toArray.size ≤ _
     rw [List.size_toArray, signB_len]
     omega
    have hs2 : Hid (s2.data.toList = narrowB s0.data.toList (L.take (k + 1))) := by
     show _ = _
     rw [htk, hsn, he2]
    rw [← htk] at CR
    clear hsn he2
    replace htk := Lib.hid htk
    replace CR := Lib.hid CR
    have mk : Hid (∀ U, Ext wr U → RdK wr bX bB bq (off + k * 2) (off + k * 2 + 1) (.string tn) (.slice p n c) (.string s) (.slice (some ⟨bq, off, none⟩) L.length cap) (.int .i64 ck) (.int .u64 (cn : Nat)) U) :=
     fun U h => ⟨h, (g3.ext h).lt, (g3.ext h).cell 0 (by simp), (g3.ext h).cell 1 (by simp), (g3.ext h).cell 2 (by simp), (g2.ext h).lt, (g2.ext h).cell 1 (by simp), Nat.lt_of_lt_of_le hbl h.size, (h.cell (p := ⟨bq, off + k * 2, none⟩) (by exact hbl)).trans c0, (h.cell (p := ⟨bq, off + k * 2 + 1, none⟩) (by exact hbl)).trans c1⟩
    have HI := mk.out _ (Ext.refl wr)
    obtain ⟨_, y1, y2, y3, y4, y5, y6, y7, y8, y9⟩ := id HI
    go_upto_region 7 with fail
    clear y1 y2 y3 y4 y5 y6 y7 y8 y9 c0 c1
    refine sx_ ?_
    refine rf_ (RdK wr bX bB bq (off + k * 2) (off + k * 2 + 1) (.string tn) (.slice p n c) (.string s) (.slice (some ⟨bq, off, none⟩) L.length cap) (.int .i64 ck) (.int .u64 (cn : Nat))) 7 8 ?_
    refine tfs [0, 1, 2, 3, 4, 5] 63 2 (fun _ _ h hx => mk.out _ (h.x.trans hx)) HI ?_ (hq := by intro wq hwq; obtain ⟨_, q0, q1, q2, q3, q4, q5, q6, q7, q8⟩ := hwq; (repeat go_big_quiet_step (fail)); exact wpQuiet_nil rfl)
    refine f1_ 6 127 fun wm6 hxm6 => ?_
    go_wp2_with (go_at_call 79; go_must (refine (CR.out wm6 (g4.ext hxm6)).mono ?_; rintro e_ w7 ⟨r, rfl, hr, hrB, h7⟩))
    obtain ⟨p2, c2, hv2, _, _⟩ := hr.shape
    rw [show (L.take (k + 1)).length = k + 1 by simp; omega] at hv2
    subst hv2
    have hrB := fun c hc => Nat.le_trans (hxm6).size (hrB c hc)
    have hq := Ext.trans hxm6 h7
    clear h7
    refine ⟨fun _ => mk.out _ hq, ?_⟩
    refine sx_ ?_
    refine f1_ 7 255 fun wz hxz => ?_
    have hz := hq.trans hxz
    obtain ⟨xl, x0, x1, x2, xf0, xf1, xf2⟩ := (g3.ext hz).cells3
    go_wp2_with fail
    first | refine ⟨fun h => absurd h (by decide), ?_⟩ | skip
    refine fd_ fun wy hxy => ?_
    clear xl x0 x1 x2 xf0 xf1 xf2
    have hxy : Ext (((wz.setCell ⟨bX, 0, none⟩ (.string tn)).setCell ⟨bX, 1, none⟩ (.slice p2 (k + 1) c2)).setCell ⟨bX, 2, none⟩ (.string s2)) wy := hxy
    have hne : bX ≠ bB := by omega
    have hwX : w.heap.size ≤ bX := by omega
    have k3 : CB bX [.string tn, .slice p2 (k + 1) c2, .string s2] wy := ((g3.ext hz).put3 (.string tn) (.slice p2 (k + 1) c2) (.string s2)).ext hxy
    have k2 : CB bB [.string tn, .slice (some ⟨bq, off, none⟩) L.length cap, .string sg] wy := ((((g2.ext hz).far (c := bX) (i := 0) hne (.string tn)).far (c := bX) (i := 1) hne (.slice p2 (k + 1) c2)).far (c := bX) (i := 2) hne (.string s2)).ext hxy
    have k1 : Ext w wy := Ext.trans (Ext.cput3 (g1.trans hz) hwX _ _ _) hxy
    have k4 : Cavs wy (.slice p2 (k + 1) c2) (L.take (k + 1)) := Sl.ext (Sl.off (hr.ext hxz) ((((Off.refl bX wz).setCell 0 (.string tn)).setCell 1 (.slice p2 (k + 1) c2)).setCell 2 (.string s2)) (fun c hc => by have := hrB c hc; have := g3.lt; exact Nat.ne_of_gt (by omega))) hxy
    clear g1 g2 g3 g4 g5 g6 hz hxz hxy hq mk HI
    go_wp2
    go_roundw
    case rel => exact ⟨k + 1, s2, p2, k + 1, c2, by omega, by go_num, k1, k2, k3, k4, hl2, hs2⟩
    case measure => simp [intOf]; omega
   ·have g7 : s.data.toList = narrowB s0.data.toList L := by
     have := g6.out
     rwa [List.take_of_length_le (by omega)] at this
    have hge : ¬ ((k : Int) < (L.length : Int)) := by omega
    have hf : decide (narrowB s0.data.toList L = sg.data.toList) = decide (s = sg) := by
     rw [← g7]
     exact decide_eq_decide.2 ⟨fun h => (mk_bytes h).trans (mk_bytes rfl).symm, fun h => by rw [h]⟩
    replace hf := Lib.hid hf
    clear g6 g7
    obtain ⟨xl, x0, x1, x2, xf0, xf1, xf2⟩ := g3.cells3
    obtain ⟨yl, y0, y1, y2, yf0, yf1, yf2⟩ := g2.cells3
    go_wp2
    go_ret
    refine ⟨?_, g1⟩
    rw [hf.out, ← beq_texts]
    simp
end Go.Proofs.YtefjdmjkofaajaaGreatDoor
namespace Go.Dm
open Go Go.RowKit
theorem and_same (n r : Nat) (hn : n < 2 ^ 64) (hr : r < 2 ^ 64) : n &&& r = r ↔ r &&& (2 ^ 64 - 1 - n) = 0 := by
 have hb : ∀ i, (2 ^ 64 - 1 - n).testBit i = (decide (i < 64) && !n.testBit i) := fun i => by
  rw [show 2 ^ 64 - 1 - n = 2 ^ 64 - (n + 1) by omega]
  exact Nat.testBit_two_pow_sub_succ hn i
 have hx : ∀ i, r.testBit i = true → i < 64 := fun i h => by
  apply Classical.byContradiction
  intro hc
  rw [Nat.testBit_lt_two_pow (Nat.lt_of_lt_of_le hr (Nat.pow_le_pow_right (by decide) (by omega)))] at h
  cases h
 constructor
 ·intro h
  apply Nat.eq_of_testBit_eq
  intro i
  have := congrArg (fun x => x.testBit i) h
  simp only [Nat.testBit_and] at this
  rw [Nat.testBit_and, hb, Nat.zero_testBit]
  cases h1 : r.testBit i <;> cases h2 : n.testBit i <;> simp_all
 ·intro h
  apply Nat.eq_of_testBit_eq
  intro i
  have := congrArg (fun x => x.testBit i) h
  simp only [Nat.testBit_and, hb, Nat.zero_testBit] at this
  rw [Nat.testBit_and]
  cases h1 : r.testBit i <;> cases h2 : n.testBit i <;> simp_all
theorem and_ne (n r : Nat) (hn : U64 n) (hr : U64 r) : decide (Go.bits .and .u64 (n : Int) (r : Int) ≠ (r : Int)) = decide (Go.bits .andNot .u64 (r : Int) (n : Int) ≠ 0) := by
 rw [Go.u64_and_nat _ _ hn hr, Go.u64_andNot_nat _ _ hr hn]
 refine decide_eq_decide.2 (not_congr ?_)
 exact Int.ofNat_inj.trans ((and_same n r hn hr).trans (Int.ofNat_inj (m := _) (n := 0)).symm)
end Go.Dm
namespace Go.Proofs.YtefjdmjkofaajaaGreatDoor
open Go.RowKit Go.Dm
set_option maxHeartbeats 2000000 in
set_option maxRecDepth 100000 in
theorem allows07_w (tn sg : ByteArray) (v : Value) (L : List Cav) (right round : Nat) (w : World) (hl : L.length ≤ 35184372088832) (hU : ∀ c ∈ L, U64 c.2) (hr : U64 right) (hx : Cavs w v L) :
  Calls Tryz.prog 37 #[.agg #[.string tn, v, .string sg], .int .u64 (right : Nat), .int .u64 (round : Nat)] w fun e w' => e = .returned (.bool (allowC L right round)) ∧ Ext w w' := by
 obtain ⟨q, cap, rfl, _, _⟩ := hx.shape
 have hB : CB w.heap.size [.string tn, .slice q L.length cap, .string sg] (w.alloc (.cells #[.string tn, .slice q L.length cap, .string sg] 55)) := CB.new w #[.string tn, .slice q L.length cap, .string sg] 55
 have hE : Ext w (w.alloc (.cells #[.string tn, .slice q L.length cap, .string sg] 55)) := (Ext.refl _).alloc _
 have hit := fun k (hk : k < L.length) (h : letC right round (L.getD k (0, 0)) = false) => all_hit (g := letC right round) hk h
 have miss := fun h => all_miss (l := L) (g := letC right round) h
 have hal : allowC L right round = L.all (letC right round) := rfl
 generalize allowC L right round = al at *
 subst hal
 generalize L.all (letC right round) = al at *
 replace hit := Lib.hid hit
 replace miss := Lib.hid miss
 go_enter Tryz.func37, Tryz.ntmps37
 go_upto_region 1 with fail
 generalize w.alloc (.cells #[.string tn, .slice q L.length cap, .string sg] 55) = w1 at *
 generalize w.heap.size = bB at *
 go_wp2
 go_loopw [7] (fun i wr => ∃ k : Nat, k ≤ L.length ∧ i = .int .i64 k ∧ Ext w1 wr ∧ Hid (∀ j, j < k → letC right round (L.getD j (0, 0)) = true)) (fun i _ => L.length - (intOf i).toNat)
 case atStart => exact ⟨0, by omega, rfl, Ext.refl _, fun j hj => by omega⟩
 case round =>
  obtain ⟨k, hk, rfl, h1, h2⟩ := hrel
  obtain ⟨xl, x0, x1, x2, xf0, xf1, xf2⟩ := (hB.ext h1).cells3
  by_cases hlt : k < L.length
  ·obtain ⟨b, off, rfl, hb, c0, c1⟩ := (hx.ext (hE.trans h1)).at hlt
   have hh := hit.out k hlt
   have hcU := hU _ (show L.getD k (0, 0) ∈ L by rw [List.getD_eq_getElem?_getD, List.getElem?_eq_getElem hlt]; exact List.getElem_mem hlt)
   have hnx : letC right round (L.getD k (0, 0)) = true → Hid (∀ j, j < k + 1 → letC right round (L.getD j (0, 0)) = true) := fun h j hj => by
    rcases Nat.lt_succ_iff_lt_or_eq.1 hj with h' | rfl
    ·exact h2.out j h'
    ·exact h
   generalize L.getD k (0, 0) = c at *
   obtain ⟨z, n⟩ := c
   unfold letC at hh hnx
   simp only at c0 c1 hh hnx hcU
   rw [← and_ne n right hcU hr] at hh hnx
   generalize hzz : Go.bits .and .u64 (n : Int) (right : Int) = zz at *
   have h1' : Ext w1 (wr.alloc (.cells #[.int .i64 z, .int .u64 (n : Nat)] 88)) := h1.trans ((Ext.refl _).alloc _)
   have hC : CB wr.heap.size [.int .i64 z, .int .u64 (n : Nat)] (wr.alloc (.cells #[.int .i64 z, .int .u64 (n : Nat)] 88)) := CB.new wr #[.int .i64 z, .int .u64 (n : Nat)] 88
   go_upto_region 5 with fail
   clear xl x0 x1 x2 xf0 xf1 xf2 c0 c1 hb
   generalize wr.alloc (.cells #[.int .i64 z, .int .u64 (n : Nat)] 88) = w2 at *
   generalize wr.heap.size = bn at *
   have yl := hC.lt
   have y0 : w2.cell? ⟨bn, 0, none⟩ = some (.int .i64 z) := hC.cell 0 (by simp)
   have y1 : w2.cell? ⟨bn, 1, none⟩ = some (.int .u64 (n : Nat)) := hC.cell 1 (by simp)
   have hno : (decide (z = 1) && decide (zz ≠ (right : Int)) || decide (z = 2) && decide (n < round)) = true → al = false := fun h => hh (by rw [h]; rfl)
   have hgo : (decide (z = 1) && decide (zz ≠ (right : Int)) || decide (z = 2) && decide (n < round)) = false → Hid (∀ j, j < k + 1 → letC right round (L.getD j (0, 0)) = true) := fun h => hnx (by rw [h]; rfl)
   clear hh hnx hcU
   by_cases z1 : z = 1
   ·subst z1
    by_cases z3 : zz = (right : Int)
    ·have hgo2 := hgo (by simp [z3])
     clear hno hgo
     subst z3
     go_wp2
     go_roundw
     case rel => exact ⟨k + 1, by omega, by go_num, h1', hgo2⟩
     case measure => simp [intOf]; omega
    ·have hno2 := Lib.hid (hno (by simp [z3]))
     clear hno hgo
     go_wp2
     go_ret
     exact ⟨by rw [hno2.out]; rfl, hE.trans h1'⟩
   ·by_cases z2 : z = 2
    ·subst z2
     by_cases z4 : n < round
     ·have hno2 := Lib.hid (hno (by simp [z4]))
      have z4i : (n : Int) < (round : Int) := by omega
      clear hno hgo
      go_wp2
      go_ret
      exact ⟨by rw [hno2.out]; rfl, hE.trans h1'⟩
     ·have hgo2 := hgo (by simp [z4])
      have z4i : ¬ (n : Int) < (round : Int) := by omega
      clear hno hgo
      go_wp2
      go_roundw
      case rel => exact ⟨k + 1, by omega, by go_num, h1', hgo2⟩
      case measure => simp [intOf]; omega
    ·have hgo2 := hgo (by simp [z1, z2])
     clear hno hgo
     go_wp2
     go_roundw
     case rel => exact ⟨k + 1, by omega, by go_num, h1', hgo2⟩
     case measure => simp [intOf]; omega
  ·have hm := Lib.hid (miss.out fun j hj => h2.out j (by omega))
   have hge : ¬ ((k : Int) < (L.length : Int)) := by omega
   go_wp2
   go_ret
   exact ⟨by rw [hm.out]; rfl, hE.trans h1⟩
set_option maxHeartbeats 2000000 in
set_option maxRecDepth 100000 in
theorem put07t_w (tn sg : ByteArray) (v : Value) (L : List Cav) (w : World) (ht : tn.size ≤ 140737488351232) (_hs : sg.size ≤ 140737488351232) (hl : L.length ≤ 4398046511103) (hU : ∀ c ∈ L, U64 c.2) (hx : Cavs w v L) :
  Calls Tryz.prog 35 #[.agg #[.string tn, v, .string sg]] w fun e w' => e = .returned (.string ⟨(putTok (tn, L, sg)).toArray⟩) ∧ Ext w w' := by
 obtain ⟨q, cap, rfl, _, _⟩ := hx.shape
 have hB : CB w.heap.size [.string tn, .slice q L.length cap, .string sg] (w.alloc (.cells #[.string tn, .slice q L.length cap, .string sg] 55)) := CB.new w #[.string tn, .slice q L.length cap, .string sg] 55
 have hE : Ext w (w.alloc (.cells #[.string tn, .slice q L.length cap, .string sg] 55)) := (Ext.refl _).alloc _
 have CR := fun U (_ : Ext w U) => rright_fit tn U (by omega)
 have CF := fun U (h : Ext w U) => known07_w _ L U (by omega) (hx.ext h)
 have hgo : rightL tn.data.toList = true → fitsC L = true → sg.size = 32 → putTok (tn, L, sg) = putT tn.data.toList ++ (putL L.length ++ (L.flatMap putC ++ sg.data.toList)) := fun h1 h2 h3 => by unfold putTok; rw [if_pos ⟨h1, h2, h3⟩]
 have hno : ¬ (rightL tn.data.toList = true ∧ fitsC L = true ∧ sg.size = 32) → putTok (tn, L, sg) = [] := fun h => by unfold putTok; rw [if_neg h]
 have hrl : rightL tn.data.toList = true → tn.size ≤ 32 := fun h => right_len h
 have hfl : fitsC L = true → L.length ≤ 8 := fun h => by unfold fitsC at h; simp at h; exact h.1
 have hPT := fun U => rputtext_w tn U (by omega)
 have hPL := fun U (h : U64 L.length) => rput_w L.length U h
 generalize rightL tn.data.toList = rt at *
 generalize fitsC L = ft at *
 obtain ⟨PK, hPK⟩ : ∃ PK, PK = putTok (tn, L, sg) := ⟨_, rfl⟩
 rw [← hPK] at hgo hno
 replace hgo := Lib.hid hgo
 replace hno := Lib.hid hno
 replace CR := Lib.hid CR
 replace CF := Lib.hid CF
 replace hPK := Lib.hid hPK
 replace hPT := Lib.hid hPT
 replace hPL := Lib.hid hPL
 cases rt with
 | false =>
  go_enter Tryz.func35, Tryz.ntmps35
  go_upto_region 1 with fail
  generalize w.alloc (.cells #[.string tn, .slice q L.length cap, .string sg] 55) = w1 at *
  generalize w.heap.size = bB at *
  obtain ⟨xl, x0, x1, x2, xf0, xf1, xf2⟩ := hB.cells3
  go_wp2_with fail
  refine (CR.out _ hE).mono ?_; rintro e w2 ⟨rfl, h2⟩
  go_wp2
  go_ret
  exact ⟨by rw [← hPK.out, hno.out (by simp)]; rfl, hE.trans h2⟩
 | true =>
  have htl := hrl rfl
  cases ft with
  | false =>
   go_enter Tryz.func35, Tryz.ntmps35
   go_upto_region 1 with fail
   generalize w.alloc (.cells #[.string tn, .slice q L.length cap, .string sg] 55) = w1 at *
   generalize w.heap.size = bB at *
   obtain ⟨xl, x0, x1, x2, xf0, xf1, xf2⟩ := hB.cells3
   go_wp2_with fail
   refine (CR.out _ hE).mono ?_; rintro e w2 ⟨rfl, h2⟩
   clear xl x0 x1 x2 xf0 xf1 xf2
   replace hB := hB.ext h2
   obtain ⟨xl, x0, x1, x2, xf0, xf1, xf2⟩ := hB.cells3
   go_wp2_with fail
   refine (CF.out _ (hE.trans h2)).mono ?_; rintro e w3 ⟨rfl, h3⟩
   go_wp2
   go_ret
   exact ⟨by rw [← hPK.out, hno.out (by simp)]; rfl, (hE.trans h2).trans h3⟩
  | true =>
   have hll := hfl rfl
   by_cases h32 : sg.size = 32
   ·have h32i : (sg.size : Int) = 32 := by omega
    have hpk := hgo.out rfl rfl h32
    have hll' := hll
    go_enter Tryz.func35, Tryz.ntmps35
    go_upto_region 1 with fail
    generalize w.alloc (.cells #[.string tn, .slice q L.length cap, .string sg] 55) = w1 at *
    generalize w.heap.size = bB at *
    obtain ⟨xl, x0, x1, x2, xf0, xf1, xf2⟩ := hB.cells3
    replace hpk := Lib.hid hpk
    go_wp2_with fail
    refine (CR.out _ hE).mono ?_; rintro e w2 ⟨rfl, h2⟩
    clear xl x0 x1 x2 xf0 xf1 xf2
    replace hB := hB.ext h2
    replace hE := hE.trans h2
    obtain ⟨xl, x0, x1, x2, xf0, xf1, xf2⟩ := hB.cells3
    go_wp2_with fail
    refine (CF.out _ hE).mono ?_; rintro e w3 ⟨rfl, h3⟩
    clear xl x0 x1 x2 xf0 xf1 xf2
    replace hB := hB.ext h3
    replace hE := hE.trans h3
    obtain ⟨xl, x0, x1, x2, xf0, xf1, xf2⟩ := hB.cells3
    go_upto_region 3 with fail
    have hLU : U64 L.length := by show L.length < _; omega
    have p1 : (⟨(putT tn.data.toList).toArray⟩ : ByteArray).size ≤ 42 := by
     rw [size_len]
     have h10 := putL_ten (u := tn.data.toList.length) (show tn.data.toList.length < _ from Nat.lt_of_le_of_lt (show tn.data.toList.length ≤ 32 from htl) (by decide))
     unfold putT
     rw [List.length_append]
     have : tn.data.toList.length ≤ 32 := htl
     omega
    have p2 : (⟨(putL L.length).toArray⟩ : ByteArray).size ≤ 10 := by rw [size_len]; exact putL_ten hLU
    have hPL2 := hPL.out
    have hPT2 := hPT.out
    obtain ⟨b1, hb1⟩ : ∃ b : ByteArray, b = ⟨(putT tn.data.toList).toArray⟩ := ⟨_, rfl⟩
    obtain ⟨b2, hb2⟩ : ∃ b : ByteArray, b = ⟨(putL L.length).toArray⟩ := ⟨_, rfl⟩
    rw [← hb1] at p1 hPT2
    rw [← hb2] at p2 hPL2
    replace hPL := Lib.hid (fun U => hPL2 U hLU)
    replace hPT := Lib.hid hPT2
    clear hPL2 hPT2
    have hs0 : Hid ((b1 ++ b2).data.toList = putT tn.data.toList ++ putL L.length) := by
     show _ = _
     rw [data_append, hb1, hb2]
    clear hb1 hb2
    refine sx_ ?_
    refine rg_ 10 (Ext.refl w3) ?_
    refine tks (List.range' 0 10) 1023 0 (hq := by intro x; (repeat go_big_quiet_step ((first | (go_at_call 48; with_reducible exact Calls.quietE (hPT.out _)) | (go_at_call 44; with_reducible exact Calls.quietE (hPL.out _))))); exact wpQuiet_nil rfl) ?_
    refine kd_ (Ext.refl w3) fun w1a hx1a hX1a => ?_
    clear xl x0 x1 x2 xf0 xf1 xf2 hx1a
    replace hB := hB.ext hX1a
    replace hE := hE.trans hX1a
    have hz : (b1 ++ b2).size ≤ 52 := by rw [ByteArray.size_append]; omega
    generalize b1 ++ b2 = b0 at *
    clear hX1a p1 p2 hPL hPT
    obtain ⟨xl, x0, x1, x2, xf0, xf1, xf2⟩ := hB.cells3
    go_wp2
    clear xl x0 x1 x2 xf0 xf1 xf2
    go_loopw [3, 4] (fun t i wr => ∃ (k : Nat) (b : ByteArray), k ≤ L.length ∧ i = .int .i64 k ∧ t = .string b ∧ b.size ≤ 52 + 20 * k ∧ Hid (b.data.toList = putT tn.data.toList ++ putL L.length ++ (L.take k).flatMap putC) ∧ Ext w wr ∧ CB bB [.string tn, .slice q L.length cap, .string sg] wr) (fun _ i _ => L.length - (intOf i).toNat)
    case atStart => exact ⟨0, b0, by omega, rfl, rfl, by omega, by show _ = _; rw [hs0.out, List.take_zero]; simp, hE, hB⟩
    case round =>
     obtain ⟨k, b, hk, rfl, rfl, hbs, hb, g1, g2⟩ := hrel
     obtain ⟨xl, x0, x1, x2, xf0, xf1, xf2⟩ := g2.cells3
     by_cases hlt : k < L.length
     ·obtain ⟨bq, off, rfl, hbl, c0, c1⟩ := (hx.ext g1).at hlt
      have hcU := hU _ (show L.getD k (0, 0) ∈ L by rw [List.getD_eq_getElem?_getD, List.getElem?_eq_getElem hlt]; exact List.getElem_mem hlt)
      have hst : (L.take (k + 1)).flatMap putC = (L.take k).flatMap putC ++ putC (L.getD k (0, 0)) := by
       rw [List.take_add_one, List.getElem?_eq_getElem hlt, List.flatMap_append, List.getD_eq_getElem?_getD, List.getElem?_eq_getElem hlt]
       simp
      generalize L.getD k (0, 0) = c at *
      obtain ⟨ck, cn⟩ := c
      simp only at c0 c1 hcU
      have hpl := putC_len (c := (ck, cn)) hcU
      have C1 := fun U => putc07_w (ck, cn) hcU U
      simp only at C1
      obtain ⟨pb, hpb⟩ : ∃ b : ByteArray, b = ⟨(putC (ck, cn)).toArray⟩ := ⟨_, rfl⟩
      rw [← hpb] at C1
      have hps : pb.size ≤ 20 := by rw [hpb, size_len]; exact hpl
      have hnx : Hid ((b ++ pb).data.toList = putT tn.data.toList ++ putL L.length ++ (L.take (k + 1)).flatMap putC) := by
       show _ = _
       rw [data_append, hb.out, hst, hpb, List.append_assoc]
      clear hpb hpl hst
      replace C1 := Lib.hid C1
      have hbnd : b.size ≤ 1000 := by omega
      go_upto_region 7 with fail
      go_wp2_with fail
      refine (C1.out _).mono ?_; rintro e w7 ⟨rfl, h7⟩
      clear c0 c1 hbl xl x0 x1 x2 xf0 xf1 xf2
      go_wp2
      go_roundw
      case rel => exact ⟨k + 1, b ++ pb, by omega, by go_num, rfl, by rw [ByteArray.size_append, Nat.mul_add]; omega, hnx, g1.trans h7, g2.ext h7⟩
      case measure => simp [intOf]; omega
     ·have hge : ¬ ((k : Int) < (L.length : Int)) := by omega
      have hbe : b.data.toList = putT tn.data.toList ++ putL L.length ++ L.flatMap putC := by
       have := hb.out
       rwa [List.take_of_length_le (by omega)] at this
      have hfin : Hid ((⟨(putTok (tn, L, sg)).toArray⟩ : ByteArray) = b ++ sg) := by
       show _ = _
       refine (mk_bytes ?_).symm
       rw [data_append, hbe, ← hPK.out, hpk.out]
       simp
      have hbnd : b.size ≤ 1000 := by omega
      clear hbe hb
      go_wp2
      go_ret
      exact ⟨by rw [hfin.out]; rfl, g1⟩
   ·have h32i : ¬ (sg.size : Int) = 32 := by omega
    go_enter Tryz.func35, Tryz.ntmps35
    go_upto_region 1 with fail
    generalize w.alloc (.cells #[.string tn, .slice q L.length cap, .string sg] 55) = w1 at *
    generalize w.heap.size = bB at *
    obtain ⟨xl, x0, x1, x2, xf0, xf1, xf2⟩ := hB.cells3
    go_wp2_with fail
    refine (CR.out _ hE).mono ?_; rintro e w2 ⟨rfl, h2⟩
    clear xl x0 x1 x2 xf0 xf1 xf2
    replace hB := hB.ext h2
    obtain ⟨xl, x0, x1, x2, xf0, xf1, xf2⟩ := hB.cells3
    go_wp2_with fail
    refine (CF.out _ (hE.trans h2)).mono ?_; rintro e w3 ⟨rfl, h3⟩
    clear xl x0 x1 x2 xf0 xf1 xf2
    replace hB := hB.ext h3
    obtain ⟨xl, x0, x1, x2, xf0, xf1, xf2⟩ := hB.cells3
    go_wp2
    go_ret
    exact ⟨by rw [← hPK.out, hno.out (fun h => h32 h.2.2)]; rfl, (hE.trans h2).trans h3⟩
end Go.Proofs.YtefjdmjkofaajaaGreatDoor
namespace Go.Dm
open Go Go.RowKit
def GotKB (B : Nat) (w : World) (G : TokQ × Int × Bool) (e : Ending) : Prop :=
 ∃ v, e = .returned (.tuple #[.agg #[.string G.1.1, v, .string G.1.2.2], .int .i64 G.2.1, .bool G.2.2]) ∧ Cavs w v G.1.2.1 ∧ ∀ c, v.ownBlock = some c → B ≤ c
theorem GotKB.no (B : Nat) (w : World) : GotKB B w noTok (.returned (.tuple #[.agg #[.string ⟨#[]⟩, .slice none 0 0, .string ⟨#[]⟩], .int .i64 0, .bool false])) := ⟨.slice none 0 0, rfl, Sl.nil _ _, fun c h => by cases h⟩
theorem cavs_bad {l : Bs} {p : Int} {k : Nat} {cs : List Cav} {z : Int} (h : cavsAt l p k = some (cs, z)) (hb : cs.all knownC = false) : ∀ {n : Nat}, k ≤ n → ∀ {cs' z'}, cavsAt l p n = some (cs', z') → cs'.all knownC = false := by
 intro n
 induction n with
 | zero =>
  intro hk cs' z' h'
  obtain rfl : k = 0 := by omega
  rw [h] at h'
  injection h' with h'
  injection h' with h1 _
  rw [← h1]; exact hb
 | succ n ih =>
  intro hk cs' z' h'
  by_cases e : k = n + 1
  ·subst e
   rw [h] at h'
   injection h' with h'
   injection h' with h1 _
   rw [← h1]; exact hb
  ·cases hn : cavsAt l p n with
   | none => rw [cavsAt_none hn (by omega)] at h'; cases h'
   | some x =>
    obtain ⟨c0, z0⟩ := x
    rw [cavsAt_succ hn] at h'
    split at h'
    ·injection h' with h'
     injection h' with h1 _
     rw [← h1, List.all_append, ih (by omega) hn]
     rfl
    ·cases h'
theorem put_bad {t : TokQ} (h : t.2.1.all knownC = false ∨ t.2.2.size ≠ 32) : putTok t = [] := by
 unfold putTok
 rw [if_neg]
 rintro ⟨_, h1, h2⟩
 rcases h with h | h
 ·unfold fitsC at h1
  rw [h, Bool.and_false] at h1
  cases h1
 ·exact h h2
theorem tok_bad {l : Bs} {p : Int} {tn : ByteArray} {k n : Nat} {cs : List Cav} {z : Int} (h : cavsAt l p k = some (cs, z)) (hb : cs.all knownC = false) (hk : k ≤ n) : tokAt l tn (cavsAt l p n) = noTok := by
 cases hn : cavsAt l p n with
 | none => rfl
 | some x =>
  obtain ⟨c, y⟩ := x
  show (if _ then noTok else _) = _
  rw [if_pos (put_bad (Or.inl (cavs_bad h hb hk hn)))]
end Go.Dm
namespace Go.Proofs.YtefjdmjkofaajaaGreatDoor
open Go.RowKit Go.Dm
set_option maxHeartbeats 4000000 in
set_option maxRecDepth 100000 in
theorem get07_w (s : ByteArray) (p : Int) (w : World) (hs : s.size ≤ 281474976710656) :
  Calls Tryz.prog 41 #[.string s, .int .i64 p] w fun e w' => GotKB w.heap.size w' (getTok s.data.toList p) e ∧ Ext w w' := by
 have hln : s.data.toList.length = s.size := rfl
 have hR : CB w.heap.size [.string ⟨#[]⟩, .slice none 0 0, .string ⟨#[]⟩] (w.alloc (.cells #[.string ⟨#[]⟩, .slice none 0 0, .string ⟨#[]⟩] 55)) := CB.new w #[.string ⟨#[]⟩, .slice none 0 0, .string ⟨#[]⟩] 55
 have hE : Ext w (w.alloc (.cells #[.string ⟨#[]⟩, .slice none 0 0, .string ⟨#[]⟩] 55)) := (Ext.refl _).alloc _
 have C1 := fun U => rgettext_w s p 32 U hs (by omega)
 have C2 := fun q U => rget_w s q U hs
 have C4 := fun (tn sg : ByteArray) v L U (h1 : tn.size ≤ 140737488351232) (h2 : sg.size ≤ 140737488351232) (h3 : L.length ≤ 4398046511103) (h4 : ∀ c ∈ L, U64 c.2) (h5 : Cavs U v L) => put07t_w tn sg v L U h1 h2 h3 h4 h5
 obtain ⟨G, hG⟩ : ∃ G, G = getTok s.data.toList p := ⟨_, rfl⟩
 have hGd := hG
 unfold getTok at hGd
 have ht32 := fun h => text32 (l := s.data.toList) (p := p) (hln ▸ hs) h
 rw [← hG]
 clear hG
 generalize atI (getTextL 32) [] s.data.toList p = T at *
 obtain ⟨tb, q1, b1⟩ := T
 simp only at hGd C1 ht32
 have C3 := C2 q1
 have hnb := fun h => getI_range (l := s.data.toList) (p := q1) (hln ▸ hs) h
 generalize getI s.data.toList q1 = N at *
 obtain ⟨n, q2, b2⟩ := N
 simp only at hGd C3 hnb
 obtain ⟨tn, htn⟩ : ∃ tn : ByteArray, tn = ⟨tb.toArray⟩ := ⟨_, rfl⟩
 rw [← htn] at C1 hGd
 have htl : b1 = true → tn.size ≤ 32 := fun h => by rw [htn, size_len]; exact ht32 h
 clear ht32 htn
 replace C1 := Lib.hid C1
 replace C2 := Lib.hid C2
 replace C3 := Lib.hid C3
 replace C4 := Lib.hid C4
 replace hGd := Lib.hid hGd
 go_enter Tryz.func41, Tryz.ntmps41
 go_wp2_with fail
 generalize w.alloc (.cells #[.string ⟨#[]⟩, .slice none 0 0, .string ⟨#[]⟩] 55) = w1 at *
 obtain ⟨bR, hbR⟩ : ∃ x, x = w.heap.size := ⟨_, rfl⟩
 rw [← hbR] at hR
 rw [← hbR]
 have hwR : w.heap.size ≤ bR := by omega
 clear hbR
 refine (C1.out _).mono ?_; rintro e_ w2 ⟨rfl, h2⟩
 replace hR := hR.ext h2
 replace hE := hE.trans h2
 clear h2
 go_wp2_with fail
 refine (C3.out _).mono ?_; rintro e_ w3 ⟨rfl, h3⟩
 replace hR := hR.ext h3
 replace hE := hE.trans h3
 clear h3 C1 C3
 by_cases hbad : b1 = false ∨ b2 = false ∨ 8 < n
 ·have HG : G = noTok := by rw [hGd.out, if_pos hbad]
  clear hGd
  cases b1 with
  | false =>
   obtain ⟨xl, x0, x1, x2, xf0, xf1, xf2⟩ := hR.cells3
   go_wp2
   clear xl x0 x1 x2 xf0 xf1 xf2
   have hz := hR.put3 (.string ⟨#[]⟩) (.slice none 0 0) (.string ⟨#[]⟩)
   obtain ⟨_, k0, k1, k2, _, _, _⟩ := hz.cells3
   refine bodyPost_ret (v := .tuple #[.agg #[.string ⟨#[]⟩, .slice none 0 0, .string ⟨#[]⟩], .int .i64 0, .bool false]) (by simp [results, Tryz.results41, go_sem, k0, k1, k2]) rfl ?_
   exact ⟨by first | exact GotKB.no _ _ | (rw [HG]; exact GotKB.no _ _), Ext.cput3 hE hwR _ _ _⟩
  | true =>
   cases b2 with
   | false =>
    obtain ⟨xl, x0, x1, x2, xf0, xf1, xf2⟩ := hR.cells3
    go_wp2
    clear xl x0 x1 x2 xf0 xf1 xf2
    have hz := hR.put3 (.string ⟨#[]⟩) (.slice none 0 0) (.string ⟨#[]⟩)
    obtain ⟨_, k0, k1, k2, _, _, _⟩ := hz.cells3
    refine bodyPost_ret (v := .tuple #[.agg #[.string ⟨#[]⟩, .slice none 0 0, .string ⟨#[]⟩], .int .i64 0, .bool false]) (by simp [results, Tryz.results41, go_sem, k0, k1, k2]) rfl ?_
    exact ⟨by first | exact GotKB.no _ _ | (rw [HG]; exact GotKB.no _ _), Ext.cput3 hE hwR _ _ _⟩
   | true =>
    have h8 : (8 : Int) < (n : Int) := by simp at hbad; omega
    obtain ⟨xl, x0, x1, x2, xf0, xf1, xf2⟩ := hR.cells3
    go_wp2
    clear xl x0 x1 x2 xf0 xf1 xf2
    have hz := hR.put3 (.string ⟨#[]⟩) (.slice none 0 0) (.string ⟨#[]⟩)
    obtain ⟨_, k0, k1, k2, _, _, _⟩ := hz.cells3
    refine bodyPost_ret (v := .tuple #[.agg #[.string ⟨#[]⟩, .slice none 0 0, .string ⟨#[]⟩], .int .i64 0, .bool false]) (by simp [results, Tryz.results41, go_sem, k0, k1, k2]) rfl ?_
    exact ⟨by first | exact GotKB.no _ _ | (rw [HG]; exact GotKB.no _ _), Ext.cput3 hE hwR _ _ _⟩
 ·have hGe := hGd.out
  rw [if_neg hbad] at hGe
  simp only [not_or, Bool.not_eq_false] at hbad
  obtain ⟨rfl, rfl, h8⟩ := hbad
  clear hGd
  have htl := htl (by trivial)
  have hnb2 := hnb (by trivial)
  have h8i : ¬ (8 : Int) < (n : Int) := by omega
  replace hGe := Lib.hid hGe
  have hT : CB w3.heap.size [.string tn, .slice none 0 0, .string ⟨#[]⟩] (w3.alloc (.cells #[.string tn, .slice none 0 0, .string ⟨#[]⟩] 55)) := CB.new w3 #[.string tn, .slice none 0 0, .string ⟨#[]⟩] 55
  have e4 : Ext w3 (w3.alloc (.cells #[.string tn, .slice none 0 0, .string ⟨#[]⟩] 55)) := (Ext.refl _).alloc _
  have hRT : bR < w3.heap.size := hR.lt
  have hbl : w3.heap.size + 1 ≤ (w3.alloc (.cells #[.string tn, .slice none 0 0, .string ⟨#[]⟩] 55)).heap.size := by simp
  replace hR := hR.ext e4
  replace hE := hE.trans e4
  clear e4
  go_wp2
  generalize w3.alloc (.cells #[.string tn, .slice none 0 0, .string ⟨#[]⟩] 55) = w4 at *
  generalize w3.heap.size = bT at *
  go_loopw [1, 13] (fun at_ i wr => ∃ (k : Nat) (cs : List Cav) (z : Int) (v : Value), k ≤ n ∧ i = .int .i64 (k : Nat) ∧ at_ = .int .i64 z ∧ cs.length = k ∧ Hid (cavsAt s.data.toList q2 k = some (cs, z)) ∧ 0 ≤ z ∧ z ≤ s.size ∧ (∀ c ∈ cs, U64 c.2) ∧ Ext w wr ∧ bT + 1 ≤ wr.heap.size ∧ wr.ownsRow (bT + 1) 88 2 v k (cavC cs) ∧ CB bT [.string tn, v, .string ⟨#[]⟩] wr ∧ CB bR [.string ⟨#[]⟩, .slice none 0 0, .string ⟨#[]⟩] wr) (fun _ i _ => n - (intOf i).toNat)
  case atStart => exact ⟨0, [], q2, .slice none 0 0, by omega, rfl, rfl, rfl, by first | rfl | exact rfl, hnb2.1, hnb2.2, (fun c hc => by cases hc), hE, hbl, World.ownsRow_nil _ _ _ _, hT, hR⟩
  case round =>
   obtain ⟨k, cs, z, v, hk, rfl, rfl, hcl, hcs, hz0, hz1, hcu, g1, g2, g3, g4, g5⟩ := hrel
   clear hR hT hE hbl
   obtain ⟨q3, cp3, rfl, hq1, hq2, hq0⟩ := (Sl.of_owns g3).shape
   by_cases hlt : k < n
   ·have hlti : (k : Int) < (n : Int) := by omega
    have hst := cavsAt_succ hcs.out
    have D1 := C2.out z
    have u1 := getI_fit (l := s.data.toList) (p := z) (hln ▸ hs)
    unfold getCav at hst
    generalize getI s.data.toList z = K1 at *
    obtain ⟨a, z1, b1⟩ := K1
    simp only at D1 hst u1
    have D2 := C2.out z1
    have u2 := getI_fit (l := s.data.toList) (p := z1) (hln ▸ hs)
    have r2 := fun h => getI_range (l := s.data.toList) (p := z1) (hln ▸ hs) h
    generalize getI s.data.toList z1 = K2 at *
    obtain ⟨m, z2, b2⟩ := K2
    simp only at D2 hst u2 r2
    replace D1 := Lib.hid D1
    replace D2 := Lib.hid D2
    replace hst := Lib.hid hst
    go_wp2_with fail
    refine (D1.out _).mono ?_; rintro e_ w6 ⟨rfl, h6⟩
    go_wp2_with fail
    refine (D2.out _).mono ?_; rintro e_ w7 ⟨rfl, h7⟩
    have h67 := h6.trans h7
    replace g1 := g1.trans h67
    replace g2 := Nat.le_trans g2 h67.size
    replace g3 := Ext.row g3 h67
    replace g4 := g4.ext h67
    replace g5 := g5.ext h67
    clear h6 h7 h67 D1 D2
    cases b1 with
    | false =>
     have HG : G = noTok := by
      rw [hGe.out, cavsAt_none (k := k + 1) (by rw [hst.out]; rfl) (by omega)]; rfl
     obtain ⟨xl, x0, x1, x2, xf0, xf1, xf2⟩ := g5.cells3
     go_wp2
     clear xl x0 x1 x2 xf0 xf1 xf2
     have hz := g5.put3 (.string ⟨#[]⟩) (.slice none 0 0) (.string ⟨#[]⟩)
     obtain ⟨_, k0, k1, k2, _, _, _⟩ := hz.cells3
     refine bodyPost_ret (v := .tuple #[.agg #[.string ⟨#[]⟩, .slice none 0 0, .string ⟨#[]⟩], .int .i64 0, .bool false]) (by simp [results, Tryz.results41, go_sem, k0, k1, k2]) rfl ?_
     exact ⟨by first | exact GotKB.no _ _ | (rw [HG]; exact GotKB.no _ _), Ext.cput3 g1 hwR _ _ _⟩
    | true =>
     cases b2 with
     | false =>
      have HG : G = noTok := by
       rw [hGe.out, cavsAt_none (k := k + 1) (by rw [hst.out]; rfl) (by omega)]; rfl
      obtain ⟨xl, x0, x1, x2, xf0, xf1, xf2⟩ := g5.cells3
      go_wp2
      clear xl x0 x1 x2 xf0 xf1 xf2
      have hz := g5.put3 (.string ⟨#[]⟩) (.slice none 0 0) (.string ⟨#[]⟩)
      obtain ⟨_, k0, k1, k2, _, _, _⟩ := hz.cells3
      refine bodyPost_ret (v := .tuple #[.agg #[.string ⟨#[]⟩, .slice none 0 0, .string ⟨#[]⟩], .int .i64 0, .bool false]) (by simp [results, Tryz.results41, go_sem, k0, k1, k2]) rfl ?_
      exact ⟨by first | exact GotKB.no _ _ | (rw [HG]; exact GotKB.no _ _), Ext.cput3 g1 hwR _ _ _⟩
     | true =>
      have hst := hst.out
      rw [if_pos (by rfl)] at hst
      by_cases ha : 2 < a
      ·have hai : (2 : Int) < (a : Int) := by omega
       have HG : G = noTok := by
        rw [hGe.out, tok_bad hst (by rw [List.all_append, show min a 3 = 3 by omega]; simp [knownC]) (by omega)]
       clear hst
       obtain ⟨xl, x0, x1, x2, xf0, xf1, xf2⟩ := g5.cells3
       go_wp2
       clear xl x0 x1 x2 xf0 xf1 xf2
       have hz := g5.put3 (.string ⟨#[]⟩) (.slice none 0 0) (.string ⟨#[]⟩)
       obtain ⟨_, k0, k1, k2, _, _, _⟩ := hz.cells3
       refine bodyPost_ret (v := .tuple #[.agg #[.string ⟨#[]⟩, .slice none 0 0, .string ⟨#[]⟩], .int .i64 0, .bool false]) (by simp [results, Tryz.results41, go_sem, k0, k1, k2]) rfl ?_
       exact ⟨by first | exact GotKB.no _ _ | (rw [HG]; exact GotKB.no _ _), Ext.cput3 g1 hwR _ _ _⟩
      ·have hai : ¬ (2 : Int) < (a : Int) := by omega
       rw [show min a 3 = a by omega] at hst
       have r3 := r2 (by trivial)
       clear r2
       replace hst := Lib.hid hst
       obtain ⟨xl, x0, x1, x2, xf0, xf1, xf2⟩ := g4.cells3
       have e8 := (Ext.refl w7).alloc (.cells #[.int .i64 (a : Nat), .int .u64 (m : Nat)] 88)
       have ho8 := Ext.row g3 e8
       have hl8 : Sl (w7.alloc (.cells #[.int .i64 (a : Nat), .int .u64 (m : Nat)] 88)) 2 (.slice (some ⟨w7.heap.size, 0, none⟩) 1 1) 1 (cavC [((a : Int), m)]) := Sl.lit w7 88 2 1 #[.int .i64 (a : Nat), .int .u64 (m : Nat)] rfl (by simp [maxLen])
       have g48 := g4.ext e8
       have g58 := g5.ext e8
       have g18 := g1.trans e8
       have g28 := Nat.le_trans g2 e8.size
       have hne : ∀ c, (Value.slice q3 k cp3).ownBlock = some c → c ≠ bT ∧ c ≠ bR := fun c hc => by have := (ho8.lt c hc).1; omega
       clear e8 g4 g5 g1 g3
       go_wp2_with (at_builtin; refine wpList_app rfl _ _ Tryz.slCav7 rfl rfl ho8 rfl hl8 (cavC_one [((a : Int), m)]) (by omega) g28 ?_; intro v9 w9 ho9 hg9; refine Hid.out ?_)
       clear xl x0 x1 x2 xf0 xf1 xf2
       have g49 := g48.grown hg9 (fun e => (hne _ e.symm).1 rfl)
       have g59 := g58.grown hg9 (fun e => (hne _ e.symm).2 rfl)
       have g19 := Ext.app g18 ho8 hg9 (by omega)
       have g29 := Nat.le_trans g28 hg9.size
       obtain ⟨q9, cp9, rfl, _, _, _⟩ := (Sl.of_owns ho9).shape
       have hne9 : ∀ c, (Value.slice q9 (k + 1) cp9).ownBlock = some c → c ≠ bT := fun c hc => by have := (ho9.lt c hc).1; omega
       have k4 := g49.set 1 (.slice q9 (k + 1) cp9) (by simp)
       have k5 := g59.far (c := bT) (i := 1) (by omega) (.slice q9 (k + 1) cp9)
       have k1 : Ext w (w9.setCell ⟨bT, 1, none⟩ (.slice q9 (k + 1) cp9)) := Below.setCell g19 (by show _ ≤ bT; omega) _
       have k3 := ho9.kept (grown_set w9 bT 1 (.slice q9 (k + 1) cp9)) (Or.inr fun e => hne9 _ e rfl)
       have k2 : bT + 1 ≤ (w9.setCell ⟨bT, 1, none⟩ (.slice q9 (k + 1) cp9)).heap.size := by rw [World.size_setCell]; exact g29
       obtain ⟨xl, x0, x1, x2, xf0, xf1, xf2⟩ := g49.cells3
       refine Lib.hid ?_
       clear ho8 hl8 g48 g58 g18 g28
       go_wp2
       clear xl x0 x1 x2 xf0 xf1 xf2
       go_roundw
       case rel => exact ⟨k + 1, cs ++ [((a : Int), m)], z2, .slice q9 (k + 1) cp9, by omega, by go_num, rfl, by simp [hcl], hst, r3.1, by omega, (fun c hc => by
        rcases List.mem_append.1 hc with h | h
        ·exact hcu c h
        ·simp at h; subst h; exact u2), k1, k2, by rw [cavC_app]; exact k3, k4, k5⟩
       case measure => simp [intOf]; omega
   ·have hkn : Hid (k = n) := (by omega : k = n)
    have hge : ¬ ((k : Int) < (n : Int)) := by omega
    obtain ⟨zn, rfl⟩ : ∃ zn : Nat, z = zn := ⟨z.toNat, by omega⟩
    have hGf : G = tokAt s.data.toList tn (some (cs, (zn : Int))) := by rw [hGe.out, ← hkn.out, hcs.out]
    have hne : ∀ c, (Value.slice q3 k cp3).ownBlock = some c → c ≠ bT := fun c hc => by have := (g3.lt c hc).1; omega
    have hoR : ∀ c, (Value.slice q3 k cp3).ownBlock = some c → w.heap.size ≤ c := fun c hc => by have := (g3.lt c hc).1; omega
    have hneR : ∀ c, (Value.slice q3 k cp3).ownBlock = some c → c ≠ bR := fun c hc => by have := (g3.lt c hc).1; omega
    clear hcs hGe C2
    by_cases h32 : zn + 32 ≤ s.size
    ·obtain ⟨sg, hsg⟩ : ∃ sg, sg = s.extract zn (zn + 32) := ⟨_, rfl⟩
     have hsgl : sg.size = 32 := by rw [hsg, ByteArray.size_extract]; omega
     have hGt : G = if putTok (tn, cs, sg) = [] then noTok else ((tn, cs, sg), (zn : Int) + 32, true) := by
      rw [hGf]
      show (if putTok (tn, cs, ⟨((s.data.toList.drop (zn : Int).toNat).take 32).toArray⟩) = [] then noTok else ((tn, cs, ⟨((s.data.toList.drop (zn : Int).toNat).take 32).toArray⟩), (zn : Int) + 32, true)) = _
      have e : (⟨((s.data.toList.drop (zn : Int).toNat).take 32).toArray⟩ : ByteArray) = sg := by
       rw [Int.toNat_natCast, hsg]
       refine (mk_bytes ?_).symm
       rw [Lib.extract_data]
       congr 1
       omega
      rw [e]
     have m4 := g4.set 2 (.string sg) (by simp)
     have m5 := g5.far (c := bT) (i := 2) (by omega) (.string sg)
     have m1 : Ext w (wr.setCell ⟨bT, 2, none⟩ (.string sg)) := Below.setCell g1 (by show _ ≤ bT; omega) _
     have m3 := g3.kept (grown_set wr bT 2 (.string sg)) (Or.inr fun e => hne _ e rfl)
     have hcv : Cavs (wr.setCell ⟨bT, 2, none⟩ (.string sg)) (.slice q3 k cp3) cs := by
      have := Sl.of_owns m3
      rw [← hcl] at this ⊢
      exact this
     have C4 := fun U (h : Cavs U (.slice q3 k cp3) cs) => C4.out tn sg (.slice q3 k cp3) cs U (by omega) (by omega) (by omega) hcu h
     obtain ⟨PT, hPT⟩ : ∃ PT : ByteArray, PT = ⟨(putTok (tn, cs, sg)).toArray⟩ := ⟨_, rfl⟩
     rw [← hPT] at C4
     have hPE : PT.toList.isEmpty = decide (putTok (tn, cs, sg) = []) := by
      rw [hPT, ByteArray.toList_eq]
      cases putTok (tn, cs, sg) <;> simp
     replace C4 := Lib.hid C4
     replace hGt := Lib.hid hGt
     have hd : ¬ ((s.size : Int) - (zn : Int) < 32) := by omega
     have hzb : (zn : Int) + 32 ≤ (s.size : Int) := by omega
     have hsl : s.extract zn (zn + 32) = sg := hsg.symm
     clear hPT hGf hsg
     obtain ⟨xl, x0, x1, x2, xf0, xf1, xf2⟩ := g4.cells3
     go_upto_region 18 with fail
     clear xl x0 x1 x2 xf0 xf1 xf2 g1 g3 g4 g5 m3 hsl
     generalize wr.setCell ⟨bT, 2, none⟩ (.string sg) = w6 at *
     change CB bT [.string tn, .slice q3 k cp3, .string sg] w6 at m4
     obtain ⟨xl, x0, x1, x2, xf0, xf1, xf2⟩ := m4.cells3
     go_wp2_with fail
     refine (C4.out _ hcv).mono ?_; rintro e_ w7 ⟨rfl, h7⟩
     clear xl x0 x1 x2 xf0 xf1 xf2
     replace m4 := m4.ext h7
     replace m5 := m5.ext h7
     replace m1 := m1.trans h7
     replace hcv := hcv.ext h7
     clear h7 C4
     by_cases hpe : putTok (tn, cs, sg) = []
     ·have HG : G = noTok := by rw [hGt.out, if_pos hpe]
      rw [decide_eq_true hpe] at hPE
      clear hGt
      obtain ⟨xl, x0, x1, x2, xf0, xf1, xf2⟩ := m5.cells3
      go_wp2
      clear xl x0 x1 x2 xf0 xf1 xf2
      have hz := m5.put3 (.string ⟨#[]⟩) (.slice none 0 0) (.string ⟨#[]⟩)
      obtain ⟨_, k0, k1, k2, _, _, _⟩ := hz.cells3
      refine bodyPost_ret (v := .tuple #[.agg #[.string ⟨#[]⟩, .slice none 0 0, .string ⟨#[]⟩], .int .i64 0, .bool false]) (by simp [results, Tryz.results41, go_sem, k0, k1, k2]) rfl ?_
      exact ⟨by first | exact GotKB.no _ _ | (rw [HG]; exact GotKB.no _ _), Ext.cput3 m1 hwR _ _ _⟩
     ·have HG := Lib.hid (hGt.out.trans (if_neg hpe))
      rw [decide_eq_false hpe] at hPE
      obtain ⟨xl, x0, x1, x2, xf0, xf1, xf2⟩ := m4.cells3
      obtain ⟨yl, y0, y1, y2, yf0, yf1, yf2⟩ := m5.cells3
      go_wp2
      clear xl x0 x1 x2 xf0 xf1 xf2 yl y0 y1 y2 yf0 yf1 yf2
      have hz := m5.put3 (.string tn) (.slice q3 k cp3) (.string sg)
      obtain ⟨_, k0, k1, k2, _, _, _⟩ := hz.cells3
      refine bodyPost_ret (v := .tuple #[.agg #[.string tn, .slice q3 k cp3, .string sg], .int .i64 ((zn : Int) + 32), .bool true]) (by simp [results, Tryz.results41, go_sem, k0, k1, k2]) rfl ?_
      refine ⟨?_, Ext.cput3 m1 hwR _ _ _⟩
      rw [HG.out]
      exact ⟨.slice q3 k cp3, rfl, sl_set (sl_set (sl_set hcv hneR _) hneR _) hneR _, hoR⟩
    ·have hd : (s.size : Int) - (zn : Int) < 32 := by omega
     have HG : G = noTok := by
      rw [hGf]
      show (if putTok (tn, cs, ⟨((s.data.toList.drop (zn : Int).toNat).take 32).toArray⟩) = [] then noTok else _) = _
      rw [if_pos (put_bad (Or.inr (by
       show ((s.data.toList.drop (zn : Int).toNat).take 32).toArray.size ≠ 32
       rw [List.size_toArray, List.length_take, List.length_drop]
       omega)))]
     clear hGf
     obtain ⟨xl, x0, x1, x2, xf0, xf1, xf2⟩ := g5.cells3
     go_wp2
     clear xl x0 x1 x2 xf0 xf1 xf2
     have hz := g5.put3 (.string ⟨#[]⟩) (.slice none 0 0) (.string ⟨#[]⟩)
     obtain ⟨_, k0, k1, k2, _, _, _⟩ := hz.cells3
     refine bodyPost_ret (v := .tuple #[.agg #[.string ⟨#[]⟩, .slice none 0 0, .string ⟨#[]⟩], .int .i64 0, .bool false]) (by simp [results, Tryz.results41, go_sem, k0, k1, k2]) rfl ?_
     exact ⟨by first | exact GotKB.no _ _ | (rw [HG]; exact GotKB.no _ _), Ext.cput3 g1 hwR _ _ _⟩
end Go.Proofs.YtefjdmjkofaajaaGreatDoor
