/- Texts of the base. -/

import Derived.Test.YtefjdmjkofaajaaGreatDoorT9
import Derived.Test.YtefjdmjkofaajaaGreatDoorT10
import Derived.Test.YtefjdmjkofaajaaGreatDoorT7
import Derived.Laws.BitsAllLaws
import Derived.Deep.Cut
import Derived.Test.YtefjdmjkofaajaaGreatDoorT5
import Derived.Test.YtefjdmjkofaajaaGreatDoorT14
namespace Go.Dm
open Go Go.RowKit
def hashW (P : Bs) : Nat → List Int
 | 0 => startW
 | k + 1 => blockW (hashW P k) (ofB (blk (P.drop (64 * k))))
theorem hashW_len (P : Bs) (k : Nat) : (hashW P k).length = 8 := by
 induction k with
 | zero => rfl
 | succ k ih => exact blockW_len ih
def byteW (z : Int) : UInt8 := UInt8.ofNat (z % 256).toNat
theorem byteW_eq (z : Int) : ((byteW z).toNat : Int) = z % 256 := by
 unfold byteW
 rw [u8_ofNat (by omega)]
 omega
def fourW (x : Int) : Bs := [byteW (x / 16777216), byteW (x / 65536), byteW (x / 256), byteW x]
def outW (h : List Int) : Bs := h.flatMap fourW
def shaB (s : Bs) : Bs := outW (hashW (padB s) ((padB s).length / 64))
theorem outW_len (h : List Int) : (outW h).length = 4 * h.length := by
 induction h with
 | nil => rfl
 | cons x r ih => simp [outW, fourW] at *; omega
theorem shaB_len (s : Bs) : (shaB s).length = 32 := by unfold shaB; rw [outW_len, hashW_len]
theorem outW_snoc {h : List Int} {k : Nat} (hk : k < h.length) : outW (h.take (k + 1)) = outW (h.take k) ++ fourW (at0 h k) := by
 unfold outW at0
 rw [List.take_add_one, List.getElem?_eq_getElem hk, List.flatMap_append, List.getD_eq_getElem?_getD, List.getElem?_eq_getElem hk]
 simp
end Go.Dm
namespace Go.Proofs.YtefjdmjkofaajaaGreatDoor
open Go.RowKit Go.Dm
set_option maxHeartbeats 1000000 in
set_option maxRecDepth 100000 in
theorem sha_w (s : ByteArray) (hs : s.size ≤ 281474976710656) (w : World) (hv : ShaV w) :
  Calls Tryz.prog 71 #[.string s] w fun e w' => e = .returned (.string ⟨(shaB s.data.toList).toArray⟩) ∧ Ext w w' := by
 have CP := padded_w s hs w
 obtain ⟨n, hn, hn1⟩ := padB_len s.data.toList
 have hsha : shaB s.data.toList = outW (hashW (padB s.data.toList) n) := by unfold shaB; rw [hn, Nat.mul_div_cancel_left _ (by omega)]
 have hnb : n ≤ 4398046511200 := by
  have h : (padB s.data.toList).length = s.data.toList.length + 1 + (119 - s.data.toList.length % 64) % 64 + 8 := by simp [padB, be8]; omega
  have : s.data.toList.length = s.size := rfl
  omega
 obtain ⟨sv, hsv⟩ : ∃ sv : Nat → Int, sv = at0 startW := ⟨_, rfl⟩
 have s0 := hv.start (k := 0) (by omega)
 have s1 := hv.start (k := 1) (by omega)
 have s2 := hv.start (k := 2) (by omega)
 have s3 := hv.start (k := 3) (by omega)
 have s4 := hv.start (k := 4) (by omega)
 have s5 := hv.start (k := 5) (by omega)
 have s6 := hv.start (k := 6) (by omega)
 have s7 := hv.start (k := 7) (by omega)
 have sl := hv.slt
 rw [← hsv] at s0 s1 s2 s3 s4 s5 s6 s7
 replace hsv := Lib.hid hsv
 replace hsha := Lib.hid hsha
 replace hn := Lib.hid hn
 replace CP := Lib.hid (fun U (h : Ext w U) => padded_w s hs U)
 go_enter Tryz.func71, Tryz.ntmps71
 go_upto_region 2 with fail
 clear s0 s1 s2 s3 s4 s5 s6 s7 sl
 have hsl : ([sv 0, sv 1, sv 2, sv 3, sv 4, sv 5, sv 6, sv 7] : List Int) = startW := by rw [hsv.out]; rfl
 have hH : AB w.heap.size 173 .u32 startW (w.alloc (.cells #[.int .u32 (sv 0), .int .u32 (sv 1), .int .u32 (sv 2), .int .u32 (sv 3), .int .u32 (sv 4), .int .u32 (sv 5), .int .u32 (sv 6), .int .u32 (sv 7)] 173)) := hsl ▸ AB.new w 173 .u32 [sv 0, sv 1, sv 2, sv 3, sv 4, sv 5, sv 6, sv 7]
 have hE : Ext w (w.alloc (.cells #[.int .u32 (sv 0), .int .u32 (sv 1), .int .u32 (sv 2), .int .u32 (sv 3), .int .u32 (sv 4), .int .u32 (sv 5), .int .u32 (sv 6), .int .u32 (sv 7)] 173)) := (Ext.refl _).alloc _
 generalize w.alloc (.cells #[.int .u32 (sv 0), .int .u32 (sv 1), .int .u32 (sv 2), .int .u32 (sv 3), .int .u32 (sv 4), .int .u32 (sv 5), .int .u32 (sv 6), .int .u32 (sv 7)] 173) = w1 at *
 obtain ⟨bH, hbH⟩ : ∃ x, x = w.heap.size := ⟨_, rfl⟩
 have hwH : w.heap.size ≤ bH := by omega
 rw [← hbH] at hH
 rw [← hbH]
 clear hsl hsv hbH
 go_wp2_with fail
 refine (CP.out _ hE).mono ?_; rintro e w2 ⟨rfl, h2⟩
 replace hE := hE.trans h2
 replace hH := hH.ext h2
 clear h2 CP
 generalize padB s.data.toList = PB at *
 obtain ⟨t0, ht0⟩ : ∃ t : ByteArray, t = ⟨PB.toArray⟩ := ⟨_, rfl⟩
 rw [← ht0]
 replace ht0 := Lib.hid ht0
 go_wp2
 go_loopw [4] (fun t wr => ∃ (k : Nat) (b : ByteArray), k ≤ n ∧ t = .string b ∧ Hid (b.data.toList = PB.drop (64 * k)) ∧ Ext w wr ∧ AB bH 173 .u32 (hashW PB k) wr) (fun t _ => match t with | .string b => b.size | _ => 0)
 case atStart => exact ⟨0, t0, by omega, rfl, by rw [ht0.out]; rfl, hE, hH⟩
 case round =>
  obtain ⟨k, b, hk, rfl, hb, h1, h2⟩ := hrel
  have hbs : b.size = 64 * n - 64 * k := by
   have : b.data.toList.length = b.size := rfl
   rw [← this, hb.out, List.length_drop, hn.out]
  by_cases hlt : k < n
  ·have hb64 : 64 ≤ b.size := by omega
   have hnx : Hid (((b.extract 64 b.size).data.toList) = PB.drop (64 * (k + 1))) := by
    show _ = _
    rw [Lib.extract_data, hb.out, List.take_of_length_le (by rw [List.length_drop, List.length_drop, hn.out]; omega), List.drop_drop]
    congr 1
   have hst : hashW PB (k + 1) = blockW (hashW PB k) (ofB (blk b.data.toList)) := by rw [hb.out]; rfl
   have hl8 := hashW_len PB k
   have hbl := blk_len b.data.toList
   have hrg := ofB_range (blk b.data.toList)
   have hl8' := hashW_len PB (k + 1)
   obtain ⟨HN, hHN⟩ : ∃ x, x = hashW PB (k + 1) := ⟨_, rfl⟩
   rw [← hHN] at hst hl8'
   replace hHN := Lib.hid hHN
   generalize hashW PB k = HK at *
   have CB := fun U (h : ShaV U) => block_w HK (ofB (blk b.data.toList)) hl8 (by simp [ofB, hbl]) hrg U h
   rw [← hst] at CB
   have hN : AB wr.heap.size 174 .u8 (List.replicate 64 0) (wr.alloc (.cells #[.int .u8 0, .int .u8 0, .int .u8 0, .int .u8 0, .int .u8 0, .int .u8 0, .int .u8 0, .int .u8 0, .int .u8 0, .int .u8 0, .int .u8 0, .int .u8 0, .int .u8 0, .int .u8 0, .int .u8 0, .int .u8 0, .int .u8 0, .int .u8 0, .int .u8 0, .int .u8 0, .int .u8 0, .int .u8 0, .int .u8 0, .int .u8 0, .int .u8 0, .int .u8 0, .int .u8 0, .int .u8 0, .int .u8 0, .int .u8 0, .int .u8 0, .int .u8 0, .int .u8 0, .int .u8 0, .int .u8 0, .int .u8 0, .int .u8 0, .int .u8 0, .int .u8 0, .int .u8 0, .int .u8 0, .int .u8 0, .int .u8 0, .int .u8 0, .int .u8 0, .int .u8 0, .int .u8 0, .int .u8 0, .int .u8 0, .int .u8 0, .int .u8 0, .int .u8 0, .int .u8 0, .int .u8 0, .int .u8 0, .int .u8 0, .int .u8 0, .int .u8 0, .int .u8 0, .int .u8 0, .int .u8 0, .int .u8 0, .int .u8 0, .int .u8 0] 174)) := AB.new wr 174 .u8 (List.replicate 64 0)
   have e3 : Ext wr (wr.alloc (.cells #[.int .u8 0, .int .u8 0, .int .u8 0, .int .u8 0, .int .u8 0, .int .u8 0, .int .u8 0, .int .u8 0, .int .u8 0, .int .u8 0, .int .u8 0, .int .u8 0, .int .u8 0, .int .u8 0, .int .u8 0, .int .u8 0, .int .u8 0, .int .u8 0, .int .u8 0, .int .u8 0, .int .u8 0, .int .u8 0, .int .u8 0, .int .u8 0, .int .u8 0, .int .u8 0, .int .u8 0, .int .u8 0, .int .u8 0, .int .u8 0, .int .u8 0, .int .u8 0, .int .u8 0, .int .u8 0, .int .u8 0, .int .u8 0, .int .u8 0, .int .u8 0, .int .u8 0, .int .u8 0, .int .u8 0, .int .u8 0, .int .u8 0, .int .u8 0, .int .u8 0, .int .u8 0, .int .u8 0, .int .u8 0, .int .u8 0, .int .u8 0, .int .u8 0, .int .u8 0, .int .u8 0, .int .u8 0, .int .u8 0, .int .u8 0, .int .u8 0, .int .u8 0, .int .u8 0, .int .u8 0, .int .u8 0, .int .u8 0, .int .u8 0, .int .u8 0] 174)) := (Ext.refl _).alloc _
   have h4 := h2.ext e3
   have hE4 := h1.trans e3
   generalize hW3 : wr.alloc (.cells #[.int .u8 0, .int .u8 0, .int .u8 0, .int .u8 0, .int .u8 0, .int .u8 0, .int .u8 0, .int .u8 0, .int .u8 0, .int .u8 0, .int .u8 0, .int .u8 0, .int .u8 0, .int .u8 0, .int .u8 0, .int .u8 0, .int .u8 0, .int .u8 0, .int .u8 0, .int .u8 0, .int .u8 0, .int .u8 0, .int .u8 0, .int .u8 0, .int .u8 0, .int .u8 0, .int .u8 0, .int .u8 0, .int .u8 0, .int .u8 0, .int .u8 0, .int .u8 0, .int .u8 0, .int .u8 0, .int .u8 0, .int .u8 0, .int .u8 0, .int .u8 0, .int .u8 0, .int .u8 0, .int .u8 0, .int .u8 0, .int .u8 0, .int .u8 0, .int .u8 0, .int .u8 0, .int .u8 0, .int .u8 0, .int .u8 0, .int .u8 0, .int .u8 0, .int .u8 0, .int .u8 0, .int .u8 0, .int .u8 0, .int .u8 0, .int .u8 0, .int .u8 0, .int .u8 0, .int .u8 0, .int .u8 0, .int .u8 0, .int .u8 0, .int .u8 0] 174) = w3 at *
   have hbn : bH < wr.heap.size := h2.lt
   obtain ⟨bN, hbN⟩ : ∃ x, x = wr.heap.size := ⟨_, rfl⟩
   rw [← hbN] at hN hbn
   replace hbN := hbN.symm
   have k1 := hN.setRow (ofB (blk b.data.toList))
   have k2 := h4.farRow (c := bN) (by omega) (cellsI .u8 (ofB (blk b.data.toList)))
   have k3 : Ext w (w3.setRow bN (cellsI .u8 (ofB (blk b.data.toList)))) := Ext.setRow hE4 (by omega) _
   have sB : (cellsI .u8 (ofB (blk b.data.toList))).size = 64 := by rw [size_cellsI]; simp [ofB, hbl]
   have sH : (cellsI .u32 HK).size = 8 := by rw [size_cellsI]; exact hl8
   have sN : (cellsI .u32 HN).size = 8 := by rw [size_cellsI]; exact hl8'
   replace CB := Lib.hid CB
   clear hrg hst
   replace hbs := Lib.hid hbs
   have hne : b.toList.isEmpty = false := by
    rw [ByteArray.toList_eq, List.isEmpty_eq_false_iff]
    intro h
    have : b.data.toList.length = b.size := rfl
    rw [h] at this
    simp at this
    omega
   go_wp2_with (first | (refine wpList_copy_blk rfl _ _ Tryz.underlying70 (by kernel_rfl) rfl rfl rfl hN ?_) | (refine wpList_load_row rfl 173 _ rfl bH rfl _ _ _ _ k2 Tryz.underlying173 rfl (by rw [sH]; kernel_rfl) ?_) | (refine wpList_load_row rfl 174 _ rfl bN rfl _ _ _ _ k1 Tryz.underlying174 rfl (by rw [sB]; kernel_rfl) ?_))
   clear hW3 hbN k1 hN e3 h4 sB
   replace k2 := k2
   generalize w3.setRow bN (cellsI .u8 (ofB (blk b.data.toList))) = w4 at *
   refine (CB.out _ (hv.ext k3)).mono ?_; rintro e w5 ⟨rfl, h5⟩
   replace k2 := k2.ext h5
   replace k3 := k3.trans h5
   clear h5 CB h1 h2
   have k4 := k2.setRow HN
   have k5 : Ext w (w5.setRow bH (cellsI .u32 HN)) := Ext.setRow k3 hwH _
   go_wp2_with (refine wpList_store_row rfl 173 _ _ rfl bH _ rfl rfl _ _ k2 (by rw [sN]; kernel_rfl) (by rw [sH, sN]) (one_cellsI _ _) ?_)
   go_roundw
   case rel => exact ⟨k + 1, b.extract 64 b.size, by omega, rfl, hnx, k5, by rw [← hHN.out]; exact k4⟩
   case measure => simp [ByteArray.size_extract]; omega
  ·obtain rfl : k = n := by omega
   have h0 : b.size = 0 := by omega
   have hne : b.toList.isEmpty = true := by
    rw [ByteArray.toList_eq, List.isEmpty_iff]
    have : b.data.toList.length = b.size := rfl
    exact List.eq_nil_of_length_eq_zero (by omega)
   have hl8 := hashW_len PB k
   have sH : (cellsI .u32 (hashW PB k)).size = 8 := by rw [size_cellsI]; exact hl8
   have hsh := hsha.out
   generalize hashW PB k = HF at *
   replace hsh := Lib.hid hsh
   clear hsha
   obtain ⟨wf, rfl⟩ : ∃ x, x = wr := ⟨_, rfl⟩
   go_wp2_with (refine wpList_load_row rfl 173 _ rfl bH rfl _ _ _ _ h2 Tryz.underlying173 rfl (by rw [sH]; kernel_rfl) ?_)
   go_loopw [6, 23] (fun v j wr => ∃ m : Nat, m ≤ 8 ∧ j = .int .i64 m ∧ Ext w wr ∧ wr.ownsRow w.heap.size 5 1 v (4 * m) (bCells (outW (HF.take m)))) (fun _ j _ => 8 - (intOf j).toNat)
   case atStart => exact ⟨0, by omega, rfl, h1, by rw [List.take_zero]; exact World.ownsRow_nil _ _ _ _⟩
   case round =>
    obtain ⟨m, hm, rfl, g1, g2⟩ := hrel
    by_cases hlt2 : m < 8
    ·have hidx := fun U => run_index_cells (P := Tryz.prog) (k := .u32) (l := HF) (i := m) Tryz.underlying173 Tryz.underlying172 (by kernel_rfl) (by omega) (by omega) U
     change ∀ U, _ = Result.ok (Value.int .u32 (at0 HF m)) U at hidx
     have hsn := outW_snoc (h := HF) (k := m) (by omega)
     have hfx : bCells (fourW (at0 HF m)) = [.int .u8 (at0 HF m / 16777216 % 256), .int .u8 (at0 HF m / 65536 % 256), .int .u8 (at0 HF m / 256 % 256), .int .u8 (at0 HF m % 256)] := by
      simp [bCells, fourW, byteW_eq]
     generalize at0 HF m = x at *
     have hl4 := Sl.lit wr 5 1 4 #[.int .u8 (x / 16777216 % 256), .int .u8 (x / 65536 % 256), .int .u8 (x / 256 % 256), .int .u8 (x % 256)] rfl (by simp [maxLen])
     have hone : ∀ u ∈ [Value.int .u8 (x / 16777216 % 256), .int .u8 (x / 65536 % 256), .int .u8 (x / 256 % 256), .int .u8 (x % 256)], u.oneCell' = true := by rw [← hfx]; exact bCells_one _
     have ee := (Ext.refl wr).alloc (.cells #[.int .u8 (x / 16777216 % 256), .int .u8 (x / 65536 % 256), .int .u8 (x / 256 % 256), .int .u8 (x % 256)] 5)
     have ho4 := Ext.row g2 ee
     have hb4 := g1.trans ee
     clear g2 ee
     replace hsn := Lib.hid hsn
     replace hfx := Lib.hid hfx
     replace hone := Lib.hid hone
     go_wp2_with (at_builtin; refine wpList_appE rfl _ _ Tryz.slByte rfl hb4 rfl ho4 rfl hl4 hone.out (by omega) ?_; intro v5 w5 ho5 hb5 _)
     go_roundw
     case rel =>
      refine ⟨m + 1, by omega, by go_num, hb5, ?_⟩
      rw [hsn.out, bCells_app, hfx.out]
      exact ho5
     case measure => simp [intOf]; omega
    ·obtain rfl : m = 8 := by omega
     have hcv := run_string_row (l := outW HF) (dst := 9) Tryz.underlying70 Tryz.underlying5 Tryz.underlying9 (by rw [List.take_of_length_le (by omega)] at g2; exact g2) (by rw [outW_len, hl8]) (by
      intro h
      have := outW_len HF
      rw [h, hl8] at this
      simp at this)
     have hge : ¬ (((8 : Nat) : Int) < 8) := by omega
     go_wp2
     go_ret
     exact ⟨by rw [hsh.out]; rfl, g1⟩
end Go.Proofs.YtefjdmjkofaajaaGreatDoor
namespace Go.Dm
open Go Go.RowKit
def mixB (key : Bs) (x : UInt8) : Bs := (blk key).map fun b => b ^^^ x
def mixP (B : Bs) (x : UInt8) (k : Nat) : Bs := (B.take k).map (fun b => b ^^^ x) ++ B.drop k
theorem xor8 (a b : UInt8) : Go.bits .xor .u8 (a.toNat : Int) (b.toNat : Int) = ((a ^^^ b).toNat : Int) := by
 rw [Go.u8_xor_nat _ _ a.toNat_lt b.toNat_lt, UInt8.toNat_xor]
theorem mixP_zero (B : Bs) (x : UInt8) : mixP B x 0 = B := by simp [mixP]
theorem mixP_len {B : Bs} {x : UInt8} (h : B.length = 64) (k : Nat) : (mixP B x k).length = 64 := by simp [mixP, h]; omega
theorem mixP_all {B : Bs} {x : UInt8} (h : B.length = 64) : mixP B x 64 = B.map (fun b => b ^^^ x) := by
 unfold mixP
 rw [List.take_of_length_le (by omega), List.drop_of_length_le (by omega), List.append_nil]
theorem mixP_at {B : Bs} {x : UInt8} (h : B.length = 64) {k : Nat} (hk : k < 64) : (ofB (mixP B x k)).getD k 0 = ((B.getD k 0).toNat : Int) := by
 have hl : ((B.take k).map (fun b => b ^^^ x)).length = k := by simp; omega
 unfold ofB mixP
 rw [List.getD_eq_getElem?_getD, List.getElem?_map, List.getElem?_append_right (by omega), hl, Nat.sub_self, List.getElem?_drop, Nat.add_zero, List.getD_eq_getElem?_getD]
 rw [List.getElem?_eq_getElem (by omega)]
 rfl
theorem mixP_set {B : Bs} {x : UInt8} (h : B.length = 64) {k : Nat} (hk : k < 64) : (ofB (mixP B x k)).set k (((B.getD k 0) ^^^ x).toNat : Int) = ofB (mixP B x (k + 1)) := by
 have hl : ((B.take k).map (fun b => b ^^^ x)).length = k := by simp; omega
 have hk2 : k < B.length := by omega
 unfold ofB
 rw [← List.map_set]
 congr 1
 unfold mixP
 rw [List.set_append_right _ _ (by omega), hl, Nat.sub_self, List.drop_eq_getElem_cons hk2, List.set_cons_zero, List.take_add_one, List.getElem?_eq_getElem hk2, List.getD_eq_getElem?_getD, List.getElem?_eq_getElem hk2]
 simp only [Option.toList, Option.getD_some, List.map_append, List.map_cons, List.map_nil, List.append_assoc, List.cons_append, List.nil_append]
def keyB (k : Bs) : Bs := if 64 < k.length then shaB k else k
def signB (k s : Bs) : Bs := shaB (mixB (keyB k) 92 ++ shaB (mixB (keyB k) 54 ++ s))
theorem signB_len (k s : Bs) : (signB k s).length = 32 := shaB_len _
end Go.Dm
namespace Go.Proofs.YtefjdmjkofaajaaGreatDoor
open Go.RowKit Go.Dm
set_option maxHeartbeats 1000000 in
set_option maxRecDepth 100000 in
theorem mixed_w (key : ByteArray) (by_ : UInt8) (w : World) :
  Calls Tryz.prog 72 #[.string key, .int .u8 (by_.toNat : Int)] w fun e w' => e = .returned (.string ⟨(mixB key.data.toList by_).toArray⟩) ∧ Ext w w' := by
 have hA : AB w.heap.size 174 .u8 (List.replicate 64 0) (w.alloc (.cells #[.int .u8 0, .int .u8 0, .int .u8 0, .int .u8 0, .int .u8 0, .int .u8 0, .int .u8 0, .int .u8 0, .int .u8 0, .int .u8 0, .int .u8 0, .int .u8 0, .int .u8 0, .int .u8 0, .int .u8 0, .int .u8 0, .int .u8 0, .int .u8 0, .int .u8 0, .int .u8 0, .int .u8 0, .int .u8 0, .int .u8 0, .int .u8 0, .int .u8 0, .int .u8 0, .int .u8 0, .int .u8 0, .int .u8 0, .int .u8 0, .int .u8 0, .int .u8 0, .int .u8 0, .int .u8 0, .int .u8 0, .int .u8 0, .int .u8 0, .int .u8 0, .int .u8 0, .int .u8 0, .int .u8 0, .int .u8 0, .int .u8 0, .int .u8 0, .int .u8 0, .int .u8 0, .int .u8 0, .int .u8 0, .int .u8 0, .int .u8 0, .int .u8 0, .int .u8 0, .int .u8 0, .int .u8 0, .int .u8 0, .int .u8 0, .int .u8 0, .int .u8 0, .int .u8 0, .int .u8 0, .int .u8 0, .int .u8 0, .int .u8 0, .int .u8 0] 174)) := AB.new w 174 .u8 (List.replicate 64 0)
 have hE : Ext w (w.alloc (.cells #[.int .u8 0, .int .u8 0, .int .u8 0, .int .u8 0, .int .u8 0, .int .u8 0, .int .u8 0, .int .u8 0, .int .u8 0, .int .u8 0, .int .u8 0, .int .u8 0, .int .u8 0, .int .u8 0, .int .u8 0, .int .u8 0, .int .u8 0, .int .u8 0, .int .u8 0, .int .u8 0, .int .u8 0, .int .u8 0, .int .u8 0, .int .u8 0, .int .u8 0, .int .u8 0, .int .u8 0, .int .u8 0, .int .u8 0, .int .u8 0, .int .u8 0, .int .u8 0, .int .u8 0, .int .u8 0, .int .u8 0, .int .u8 0, .int .u8 0, .int .u8 0, .int .u8 0, .int .u8 0, .int .u8 0, .int .u8 0, .int .u8 0, .int .u8 0, .int .u8 0, .int .u8 0, .int .u8 0, .int .u8 0, .int .u8 0, .int .u8 0, .int .u8 0, .int .u8 0, .int .u8 0, .int .u8 0, .int .u8 0, .int .u8 0, .int .u8 0, .int .u8 0, .int .u8 0, .int .u8 0, .int .u8 0, .int .u8 0, .int .u8 0, .int .u8 0] 174)) := (Ext.refl _).alloc _
 generalize hW1 : w.alloc (.cells #[.int .u8 0, .int .u8 0, .int .u8 0, .int .u8 0, .int .u8 0, .int .u8 0, .int .u8 0, .int .u8 0, .int .u8 0, .int .u8 0, .int .u8 0, .int .u8 0, .int .u8 0, .int .u8 0, .int .u8 0, .int .u8 0, .int .u8 0, .int .u8 0, .int .u8 0, .int .u8 0, .int .u8 0, .int .u8 0, .int .u8 0, .int .u8 0, .int .u8 0, .int .u8 0, .int .u8 0, .int .u8 0, .int .u8 0, .int .u8 0, .int .u8 0, .int .u8 0, .int .u8 0, .int .u8 0, .int .u8 0, .int .u8 0, .int .u8 0, .int .u8 0, .int .u8 0, .int .u8 0, .int .u8 0, .int .u8 0, .int .u8 0, .int .u8 0, .int .u8 0, .int .u8 0, .int .u8 0, .int .u8 0, .int .u8 0, .int .u8 0, .int .u8 0, .int .u8 0, .int .u8 0, .int .u8 0, .int .u8 0, .int .u8 0, .int .u8 0, .int .u8 0, .int .u8 0, .int .u8 0, .int .u8 0, .int .u8 0, .int .u8 0, .int .u8 0] 174) = w1 at *
 obtain ⟨bA, hbA⟩ : ∃ x, x = w.heap.size := ⟨_, rfl⟩
 have hwA : w.heap.size ≤ bA := by omega
 rw [← hbA] at hA
 replace hbA := hbA.symm
 have h2 := hA.setRow (ofB (blk key.data.toList))
 have hE2 : Ext w (w1.setRow bA (cellsI .u8 (ofB (blk key.data.toList)))) := Ext.setRow hE hwA _
 go_enter Tryz.func72, Tryz.ntmps72
 go_wp2_with (refine wpList_copy_blk rfl _ _ Tryz.underlying70 (by kernel_rfl) rfl rfl rfl hA ?_)
 clear hW1 hbA hA hE
 generalize w1.setRow bA (cellsI .u8 (ofB (blk key.data.toList))) = w2 at *
 have hbl := blk_len key.data.toList
 have hmx : mixB key.data.toList by_ = (blk key.data.toList).map (fun b => b ^^^ by_) := rfl
 generalize blk key.data.toList = B at *
 go_loopw [10] (fun i wr => ∃ k : Nat, k ≤ 64 ∧ i = .int .i64 k ∧ Ext w wr ∧ AB bA 174 .u8 (ofB (mixP B by_ k)) wr) (fun i _ => 64 - (intOf i).toNat)
 case atStart => exact ⟨0, by omega, rfl, hE2, by rw [mixP_zero]; exact h2⟩
 case round =>
  obtain ⟨k, hk, rfl, h1, h3⟩ := hrel
  by_cases hlt : k < 64
  ·have hst := mixP_set (x := by_) hbl hlt
   have hln := mixP_len (x := by_) hbl k
   have hcl : k < (ofB (mixP B by_ k)).length := by simp [ofB, hln, hlt]
   have cA : wr.cell? ⟨bA, k, none⟩ = some (.int .u8 ((B.getD k 0).toNat : Int)) := by
    have := h3.cell hcl
    rw [mixP_at hbl hlt] at this
    exact this
   have fA := h3.free k
   have lA := h3.lt
   have hxr := xor8 (B.getD k 0) by_
   generalize B.getD k 0 = b at *
   clear hbl hln
   go_upto_region 6 with fail
   go_wp2
   go_roundw
   case rel => exact ⟨k + 1, by omega, by go_num, Below.setCell h1 (by show _ ≤ bA; omega) _, hst ▸ h3.set k _⟩
   case measure => simp [intOf]; omega
  ·have hge : ¬ ((k : Int) < 64) := by omega
   have h3 : AB bA 174 .u8 (ofB (mixB key.data.toList by_)) wr := by
    have e : k = 64 := by omega
    rw [e, mixP_all hbl, ← hmx] at h3
    exact h3
   have hml : (mixB key.data.toList by_).length = 64 := by rw [hmx]; simp [hbl]
   obtain ⟨M, hM⟩ : ∃ M, M = mixB key.data.toList by_ := ⟨_, rfl⟩
   rw [← hM] at h3 hml
   replace hM := Lib.hid hM
   clear hmx
   have hSl : Sl wr 1 (.slice (some ⟨bA, 0, none⟩) 64 64) 64 (bCells M) := by
    have hv : bCells M = (cellsI .u8 (ofB M)).toList := (cells_ofB M).symm
    exact Sl.of_block (vs := bCells M) (n := 64) (sz := 1) (e := 174) (by rw [hv]; exact h3) (by rw [bCells_len, hml]) (by simp [maxLen])
   have cv := run_string_sl (P := Tryz.prog) (dst := 9) Tryz.underlying70 Tryz.underlying5 Tryz.underlying9 hSl (show 64 = M.length from hml.symm) (by intro h; rw [h] at hml; simp at hml)
   go_wp2
   go_ret
   exact ⟨by rw [← hM.out]; rfl, h1⟩
theorem sign_w (key s : ByteArray) (hk : key.size ≤ 281474976710656) (hs : s.size ≤ 140737488355328) (w : World) (hv : ShaV w) :
  Calls Tryz.prog 30 #[.string key, .string s] w fun e w' => e = .returned (.string ⟨(signB key.data.toList s.data.toList).toArray⟩) ∧ Ext w w' := by
 have fin : ∀ (k2 : ByteArray), k2.data.toList = keyB key.data.toList → (⟨(mixB k2.data.toList 92).toArray⟩ : ByteArray).size = 64 ∧ (⟨(mixB k2.data.toList 54).toArray⟩ : ByteArray).size = 64 ∧ signB key.data.toList s.data.toList = shaB ((⟨(mixB k2.data.toList 92).toArray⟩ : ByteArray) ++ ⟨(shaB ((⟨(mixB k2.data.toList 54).toArray⟩ : ByteArray) ++ s).data.toList).toArray⟩).data.toList := fun k2 h => by
  refine ⟨?_, ?_, ?_⟩
  ·show (mixB k2.data.toList 92).toArray.size = 64
   simp [mixB, blk_len]
  ·show (mixB k2.data.toList 54).toArray.size = 64
   simp [mixB, blk_len]
  ·rw [data_append, data_append, h]; rfl
 have C1 := fun k2 U => mixed_w k2 92 U
 have C2 := fun k2 U => mixed_w k2 54 U
 have CS := fun t (ht : t.size ≤ 281474976710656) U (h : Ext w U) => sha_w t ht U (hv.ext h)
 replace C1 := Lib.hid C1
 replace C2 := Lib.hid C2
 replace CS := Lib.hid CS
 replace fin := Lib.hid fin
 by_cases hgt : 64 < key.size
 ·have hi : (64 : Int) < (key.size : Int) := by omega
  have CS1 := CS.out key hk
  obtain ⟨k2, hk2⟩ : ∃ k2 : ByteArray, k2 = ⟨(shaB key.data.toList).toArray⟩ := ⟨_, rfl⟩
  have hkb : k2.data.toList = keyB key.data.toList := by
   unfold keyB
   rw [if_pos (by exact hgt), hk2]
  rw [← hk2] at CS1
  clear hk2
  replace CS1 := Lib.hid CS1
  go_enter Tryz.func30, Tryz.ntmps30
  go_wp2_with fail
  refine (CS1.out _ (Ext.refl _)).mono ?_; rintro e w1 ⟨rfl, hE⟩
  obtain ⟨m1, m2, hsg⟩ := fin.out k2 hkb
  replace hsg := Lib.hid hsg
  clear fin hkb
  go_wp2_with fail
  refine (C1.out k2 _).mono ?_; rintro e w2 ⟨rfl, h2⟩
  replace hE := hE.trans h2
  go_wp2_with fail
  refine (C2.out k2 _).mono ?_; rintro e w3 ⟨rfl, h3⟩
  replace hE := hE.trans h3
  generalize (⟨(mixB k2.data.toList 92).toArray⟩ : ByteArray) = A1 at *
  generalize (⟨(mixB k2.data.toList 54).toArray⟩ : ByteArray) = A2 at *
  go_wp2_with fail
  refine (CS.out (A2 ++ s) (by rw [ByteArray.size_append]; omega) _ hE).mono ?_; rintro e w4 ⟨rfl, h4⟩
  replace hE := hE.trans h4
  have l4 : (⟨(shaB (A2 ++ s).data.toList).toArray⟩ : ByteArray).size = 32 := shaB_len _
  generalize (⟨(shaB (A2 ++ s).data.toList).toArray⟩ : ByteArray) = A3 at *
  go_wp2_with fail
  refine (CS.out (A1 ++ A3) (by rw [ByteArray.size_append]; omega) _ hE).mono ?_; rintro e w5 ⟨rfl, h5⟩
  replace hE := hE.trans h5
  go_wp2
  go_ret
  exact ⟨by rw [hsg.out]; rfl, hE⟩
 ·have hi : ¬ (64 : Int) < (key.size : Int) := by omega
  have hkb : key.data.toList = keyB key.data.toList := by
   unfold keyB
   rw [if_neg (by exact hgt)]
  have hE := Ext.refl w
  go_enter Tryz.func30, Tryz.ntmps30
  obtain ⟨k2, rfl⟩ : ∃ k2, k2 = key := ⟨_, rfl⟩
  obtain ⟨m1, m2, hsg⟩ := fin.out k2 hkb
  replace hsg := Lib.hid hsg
  clear fin hkb
  go_wp2_with fail
  refine (C1.out k2 _).mono ?_; rintro e w2 ⟨rfl, h2⟩
  replace hE := hE.trans h2
  go_wp2_with fail
  refine (C2.out k2 _).mono ?_; rintro e w3 ⟨rfl, h3⟩
  replace hE := hE.trans h3
  generalize (⟨(mixB k2.data.toList 92).toArray⟩ : ByteArray) = A1 at *
  generalize (⟨(mixB k2.data.toList 54).toArray⟩ : ByteArray) = A2 at *
  go_wp2_with fail
  refine (CS.out (A2 ++ s) (by rw [ByteArray.size_append]; omega) _ hE).mono ?_; rintro e w4 ⟨rfl, h4⟩
  replace hE := hE.trans h4
  have l4 : (⟨(shaB (A2 ++ s).data.toList).toArray⟩ : ByteArray).size = 32 := shaB_len _
  generalize (⟨(shaB (A2 ++ s).data.toList).toArray⟩ : ByteArray) = A3 at *
  go_wp2_with fail
  refine (CS.out (A1 ++ A3) (by rw [ByteArray.size_append]; omega) _ hE).mono ?_; rintro e w5 ⟨rfl, h5⟩
  replace hE := hE.trans h5
  go_wp2
  go_ret
  exact ⟨by rw [hsg.out]; rfl, hE⟩
end Go.Proofs.YtefjdmjkofaajaaGreatDoor
namespace Go.Dm
open Go Go.RowKit
abbrev Cav := Int × Nat
def cavOne (c : Cav) : List Value := [.int .i64 c.1, .int .u64 (c.2 : Nat)]
def cavC (l : List Cav) : List Value := l.flatMap cavOne
theorem cavC_len (l : List Cav) : (cavC l).length = l.length * 2 := by
 induction l with
 | nil => rfl
 | cons c r ih => simp [cavC, cavOne] at *; omega
theorem cavC_app (a b : List Cav) : cavC (a ++ b) = cavC a ++ cavC b := by simp [cavC]
theorem cavC_one (l : List Cav) : ∀ u ∈ cavC l, u.oneCell' = true := by
 intro u hu
 simp only [cavC, List.mem_flatMap, cavOne] at hu
 obtain ⟨c, _, hu⟩ := hu
 simp at hu
 rcases hu with rfl | rfl <;> rfl
def Cavs (w : World) (v : Value) (l : List Cav) : Prop := Sl w 2 v l.length (cavC l)
theorem Cavs.ext {w w' : World} {v : Value} {l : List Cav} (h : Cavs w v l) (hx : Ext w w') : Cavs w' v l := Sl.ext h hx
theorem Cavs.shape {w : World} {v : Value} {l : List Cav} (h : Cavs w v l) : ∃ q cap, v = .slice q l.length cap ∧ l.length ≤ cap ∧ cap ≤ maxLen := by
 obtain ⟨p, cap, h1, h2, h3, _⟩ := Sl.shape h
 exact ⟨p, cap, h1, h2, h3⟩
theorem cav_getD (l : List Cav) (k : Nat) (hk : k < l.length) : (cavC l)[k * 2]? = some (.int .i64 (l.getD k (0, 0)).1) ∧ (cavC l)[k * 2 + 1]? = some (.int .u64 ((l.getD k (0, 0)).2 : Nat)) := by
 induction l generalizing k with
 | nil => simp at hk
 | cons c r ih =>
  cases k with
  | zero => simp [cavC, cavOne]
  | succ k =>
   have := ih k (by simpa using hk)
   have e1 : (k + 1) * 2 = k * 2 + 1 + 1 := by omega
   simp only [cavC, List.flatMap_cons, cavOne, List.cons_append, List.nil_append] at *
   rw [e1]
   simpa using this
theorem Cavs.at {w : World} {q : Option Addr} {cap : Nat} {l : List Cav} {k : Nat} (h : Cavs w (.slice q l.length cap) l) (hk : k < l.length) :
  ∃ b off, q = some ⟨b, off, none⟩ ∧ b < w.heap.size ∧ w.cell? ⟨b, off + k * 2, none⟩ = some (.int .i64 (l.getD k (0, 0)).1) ∧ w.cell? ⟨b, off + k * 2 + 1, none⟩ = some (.int .u64 ((l.getD k (0, 0)).2 : Nat)) := by
 obtain ⟨b, off, hq, hb, hc⟩ := Sl.at h (by omega)
 obtain ⟨h1, h2⟩ := cav_getD l k hk
 exact ⟨b, off, hq, hb, hc _ _ h1, by rw [Nat.add_assoc]; exact hc _ _ h2⟩
end Go.Dm
namespace Go.Proofs.YtefjdmjkofaajaaGreatDoor
open Go.RowKit Go.Dm
theorem Tryz.slCav : SlT Tryz.prog 22 38 2 16 := SlT.mk' Tryz.underlying22 (by kernel_rfl) (by decide) (by decide)
theorem cgrow_w (n : Nat) (w : World) (hn : n ≤ 4398046511104) :
  Calls Tryz.prog 109 #[.slice none 0 0, .int .i64 (n : Nat)] w fun e w' => ∃ r, e = .returned r ∧ w'.ownsRow w.heap.size 38 2 r 0 [] ∧ Ext w w' := by
 by_cases h0 : n = 0
 ·subst h0
  go_enter Tryz.func109, Tryz.ntmps109
  go_wp2
  go_ret
  exact ⟨_, rfl, World.ownsRow_nil _ _ _ _, Ext.refl _⟩
 ·have hi : (0 : Int) < (n : Int) := by omega
  have hi2 : ¬ (n : Int) < 0 := by omega
  go_enter Tryz.func109, Tryz.ntmps109
  go_wp2_with (at_builtin; refine wpList_app_zeros rfl _ _ Tryz.slCav Tryz.underlying3 rfl rfl (Sl.nil _ 2) n n (by omega) rfl (by omega) (by omega) (by omega) ?_; intro c cur h1 h2 h3 h4)
  go_ret
  refine ⟨_, rfl, ⟨rfl, Or.inr ⟨w.heap.size, c, cur, rfl, Nat.le_refl _, ?_, by omega, h2, h3, by simp⟩⟩, (Ext.drew w).alloc _⟩
  exact Array.getElem?_push_size
set_option maxHeartbeats 1000000 in
theorem concat2_w (b : Nat) (v1 v2 : Value) (l1 l2 : List Cav) (w : World) (hb : b < w.heap.size) (c0 : w.cell? ⟨b, 0, none⟩ = some v1) (c1 : w.cell? ⟨b, 1, none⟩ = some v2) (h1 : Cavs w v1 l1) (h2 : Cavs w v2 l2) (hn : l1.length + l2.length ≤ 4398046511104) :
  Calls Tryz.prog 73 #[.slice (some ⟨b, 0, none⟩) 2 2] w fun e w' => ∃ r, e = .returned r ∧ w'.ownsRow w.heap.size 38 2 r (l1.length + l2.length) (cavC (l1 ++ l2)) ∧ Ext w w' := by
 obtain ⟨q1, cap1, rfl, _, _⟩ := h1.shape
 obtain ⟨q2, cap2, rfl, _, _⟩ := h2.shape
 have CG := fun U => cgrow_w (l1.length + l2.length) U hn
 simp only [Int.natCast_add] at CG
 have hneg : ¬ ((l1.length : Int) + (l2.length : Int) < 0) := by omega
 have hneg1 : ¬ ((l1.length : Int) < 0) := by omega
 replace h1 := Lib.hid h1
 replace h2 := Lib.hid h2
 replace CG := Lib.hid CG
 go_enter Tryz.func73, Tryz.ntmps73
 go_wp2
 refine wp_loop_rounds 3 ?_
 rw [rounds_succ]
 go_wp2
 rw [rounds_succ]
 go_wp2
 rw [rounds_succ]
 go_wp2_with fail
 refine (CG.out _).mono ?_; rintro e w1 ⟨r, rfl, ho, hx⟩
 have d0 := (hx.cell (p := ⟨b, 0, none⟩) hb).trans c0
 have d1 := (hx.cell (p := ⟨b, 1, none⟩) hb).trans c1
 have dl := Nat.lt_of_lt_of_le hb hx.size
 have g1 := h1.out.ext hx
 clear CG
 go_wp2
 refine wp_loop_rounds 3 ?_
 rw [rounds_succ]
 go_wp2_with (at_builtin; refine wpList_appE rfl _ _ Tryz.slCav rfl hx rfl ho rfl g1 (cavC_one l1) (by omega) ?_; intro v5 w5 ho5 hb5 _)
 clear d0 d1 dl g1 ho
 have d1 := (hb5.cell (p := ⟨b, 1, none⟩) hb).trans c1
 have dl := Nat.lt_of_lt_of_le hb hb5.size
 have g2 := h2.out.ext hb5
 rw [rounds_succ]
 go_wp2_with (at_builtin; refine wpList_appE rfl _ _ Tryz.slCav rfl hb5 rfl ho5 rfl g2 (cavC_one l2) (by omega) ?_; intro v6 w6 ho6 hb6 _)
 rw [rounds_succ]
 go_wp2
 go_ret
 exact ⟨_, rfl, by rw [cavC_app]; simpa using ho6, hb6⟩
end Go.Proofs.YtefjdmjkofaajaaGreatDoor
namespace Go.Dm
open Go Go.RowKit
theorem all_hit {l : List Cav} {g : Cav → Bool} {k : Nat} (hk : k < l.length) (h : g (l.getD k (0, 0)) = false) : l.all g = false := by
 rw [List.all_eq_false]
 refine ⟨l[k], List.getElem_mem hk, ?_⟩
 rw [List.getD_eq_getElem?_getD, List.getElem?_eq_getElem hk, Option.getD_some] at h
 rw [h]; simp
theorem all_miss {l : List Cav} {g : Cav → Bool} (h : ∀ k, k < l.length → g (l.getD k (0, 0)) = true) : l.all g = true := by
 rw [List.all_eq_true]
 intro c hc
 obtain ⟨k, hk, rfl⟩ := List.getElem_of_mem hc
 have := h k hk
 rwa [List.getD_eq_getElem?_getD, List.getElem?_eq_getElem hk, Option.getD_some] at this
def u64of (z : Int) : Nat := (z % 18446744073709551616).toNat
theorem u64of_lt (z : Int) : U64 (u64of z) := by unfold u64of U64; omega
def putC (c : Cav) : Bs := putL (u64of c.1) ++ putL c.2
def knownC (c : Cav) : Bool := decide (c.1 = 1) || decide (c.1 = 2)
def fitsC (l : List Cav) : Bool := decide (l.length ≤ 8) && l.all knownC
def letC (right round : Nat) (c : Cav) : Bool := !((decide (c.1 = 1) && decide (Go.bits .andNot .u64 (right : Int) (c.2 : Int) ≠ 0)) || (decide (c.1 = 2) && decide (c.2 < round)))
def allowC (l : List Cav) (right round : Nat) : Bool := l.all (letC right round)
end Go.Dm
namespace Go.Proofs.YtefjdmjkofaajaaGreatDoor
open Go.RowKit Go.Dm
theorem putc_w (c : Cav) (hc : U64 c.2) (w : World) :
  Calls Tryz.prog 64 #[.agg #[.int .i64 c.1, .int .u64 (c.2 : Nat)]] w fun e w' => e = .returned (.string ⟨(putC c).toArray⟩) ∧ Ext w w' := by
 obtain ⟨k, n⟩ := c
 have hc : U64 n := hc
 have h64 : IntKind.u64.wrap k = ((u64of k : Nat) : Int) := by rw [IntKind.wrap_u64]; unfold u64of; omega
 have hA : Ext w (w.alloc (.cells #[.int .i64 k, .int .u64 (n : Nat)] 38)) := (Ext.refl _).alloc _
 have C1 := fun U => put_w (u64of k) U (u64of_lt k)
 have C2 := fun U => put_w n U hc
 have l1 := putL_ten (u64of_lt k)
 have l2 := putL_ten hc
 have hX : Hid ((⟨(putL (u64of k)).toArray⟩ : ByteArray) ++ ⟨(putL n).toArray⟩ = ⟨(putC (k, n)).toArray⟩) := by
  show _ = _
  refine mk_bytes ?_
  rw [data_append]; rfl
 have p1 : (⟨(putL (u64of k)).toArray⟩ : ByteArray).size ≤ 10 := by rw [size_len]; exact l1
 have p2 : (⟨(putL n).toArray⟩ : ByteArray).size ≤ 10 := by rw [size_len]; exact l2
 generalize (⟨(putL (u64of k)).toArray⟩ : ByteArray) = b1 at *
 generalize (⟨(putL n).toArray⟩ : ByteArray) = b2 at *
 generalize (⟨(putC (k, n)).toArray⟩ : ByteArray) = b3 at *
 clear l1 l2
 replace C1 := Lib.hid C1
 replace C2 := Lib.hid C2
 have d0 : (w.alloc (.cells #[.int .i64 k, .int .u64 (n : Nat)] 38)).cell? ⟨w.heap.size, 0, none⟩ = some (.int .i64 k) := by simp
 have d1 : (w.alloc (.cells #[.int .i64 k, .int .u64 (n : Nat)] 38)).cell? ⟨w.heap.size, 1, none⟩ = some (.int .u64 (n : Nat)) := by simp
 have dl : w.heap.size < (w.alloc (.cells #[.int .i64 k, .int .u64 (n : Nat)] 38)).heap.size := by simp
 go_enter Tryz.func64, Tryz.ntmps64
 go_upto_region 1 with fail
 generalize w.alloc (.cells #[.int .i64 k, .int .u64 (n : Nat)] 38) = w1 at *
 generalize w.heap.size = bc at *
 refine sx_ ?_
 refine rg_ 9 (Ext.refl w1) ?_
 refine tks (List.range' 0 9) 511 0 (hq := by intro x; (repeat go_big_quiet_step ((go_at_call 63; with_reducible first | exact Calls.quietE (C1.out _) | exact Calls.quietE (C2.out _)))); exact wpQuiet_nil rfl) ?_
 refine kd_ (Ext.refl w1) fun w1a hx1a hX1a => ?_
 go_wp2
 go_ret
 exact ⟨by rw [← hX.out]; rfl, hA.trans hX1a⟩
theorem known_w (c : Cav) (w : World) :
  Calls Tryz.prog 104 #[.agg #[.int .i64 c.1, .int .u64 (c.2 : Nat)]] w fun e w' => e = .returned (.bool (knownC c)) ∧ Ext w w' := by
 obtain ⟨k, n⟩ := c
 have hA : Ext w (w.alloc (.cells #[.int .i64 k, .int .u64 (n : Nat)] 38)) := (Ext.refl _).alloc _
 unfold knownC
 by_cases h1 : k = 1
 ·subst h1
  go_enter Tryz.func104, Tryz.ntmps104
  go_wp2
  go_ret
  exact ⟨by simp, hA⟩
 ·by_cases h2 : k = 2
  ·subst h2
   go_enter Tryz.func104, Tryz.ntmps104
   go_wp2
   go_ret
   exact ⟨by simp, hA⟩
  ·go_enter Tryz.func104, Tryz.ntmps104
   go_wp2
   go_ret
   exact ⟨by simp [h1, h2], hA⟩
theorem fits1_w (c : Cav) (w : World) :
  Calls Tryz.prog 103 #[.agg #[.int .i64 c.1, .int .u64 (c.2 : Nat)]] w fun e w' => e = .returned (.bool (!knownC c)) ∧ Ext w w' := by
 have hA : Ext w (w.alloc (.cells #[.int .i64 c.1, .int .u64 (c.2 : Nat)] 38)) := (Ext.refl _).alloc _
 have C := fun U => known_w c U
 generalize knownC c = d at *
 go_enter Tryz.func103, Tryz.ntmps103
 go_wp2_with fail
 refine (C _).mono ?_; rintro e w1 ⟨rfl, h1⟩
 go_wp2
 go_ret
 exact ⟨rfl, hA.trans h1⟩
set_option maxHeartbeats 1000000 in
theorem allows1_w (c : Cav) (right round : Nat) (b1 b2 : Nat) (w : World) (hc : U64 c.2) (l1 : b1 < w.heap.size) (r1 : w.cell? ⟨b1, 0, none⟩ = some (.int .u64 (right : Nat))) (l2 : b2 < w.heap.size) (r2 : w.cell? ⟨b2, 0, none⟩ = some (.int .u64 (round : Nat))) :
  Calls Tryz.prog 70 #[.agg #[.int .i64 c.1, .int .u64 (c.2 : Nat)], .pointer (some ⟨b1, 0, none⟩), .pointer (some ⟨b2, 0, none⟩)] w fun e w' => e = .returned (.bool (!letC right round c)) ∧ Ext w w' := by
 obtain ⟨k, n⟩ := c
 have hA : Ext w (w.alloc (.cells #[.int .i64 k, .int .u64 (n : Nat)] 38)) := (Ext.refl _).alloc _
 have l1' : b1 < (w.alloc (.cells #[.int .i64 k, .int .u64 (n : Nat)] 38)).heap.size := Nat.lt_of_lt_of_le l1 hA.size
 have l2' : b2 < (w.alloc (.cells #[.int .i64 k, .int .u64 (n : Nat)] 38)).heap.size := Nat.lt_of_lt_of_le l2 hA.size
 have r1' : (w.alloc (.cells #[.int .i64 k, .int .u64 (n : Nat)] 38)).cell? ⟨b1, 0, none⟩ = some (.int .u64 (right : Nat)) := (hA.cell (p := ⟨b1, 0, none⟩) l1).trans r1
 have r2' : (w.alloc (.cells #[.int .i64 k, .int .u64 (n : Nat)] 38)).cell? ⟨b2, 0, none⟩ = some (.int .u64 (round : Nat)) := (hA.cell (p := ⟨b2, 0, none⟩) l2).trans r2
 clear l1 l2 r1 r2
 have d0 : (w.alloc (.cells #[.int .i64 k, .int .u64 (n : Nat)] 38)).cell? ⟨w.heap.size, 0, none⟩ = some (.int .i64 k) := by simp
 have d1 : (w.alloc (.cells #[.int .i64 k, .int .u64 (n : Nat)] 38)).cell? ⟨w.heap.size, 1, none⟩ = some (.int .u64 (n : Nat)) := by simp
 have dl : w.heap.size < (w.alloc (.cells #[.int .i64 k, .int .u64 (n : Nat)] 38)).heap.size := by simp
 unfold letC
 simp only
 generalize hz : Go.bits .andNot .u64 (right : Int) (n : Int) = z at *
 by_cases h1 : k = 1
 ·subst h1
  by_cases h3 : z = 0
  ·subst h3
   go_enter Tryz.func70, Tryz.ntmps70
   go_upto_region 1 with fail
   generalize w.alloc (.cells #[.int .i64 1, .int .u64 (n : Nat)] 38) = w1 at *
   generalize w.heap.size = bc at *
   go_wp2
   go_ret
   exact ⟨by simp, hA⟩
  ·go_enter Tryz.func70, Tryz.ntmps70
   go_upto_region 1 with fail
   generalize w.alloc (.cells #[.int .i64 1, .int .u64 (n : Nat)] 38) = w1 at *
   generalize w.heap.size = bc at *
   go_wp2
   go_ret
   exact ⟨by simp, hA⟩
 ·by_cases h2 : k = 2
  ·subst h2
   by_cases h4 : n < round
   ·have h4i : (n : Int) < (round : Int) := by omega
    go_enter Tryz.func70, Tryz.ntmps70
    go_upto_region 1 with fail
    generalize w.alloc (.cells #[.int .i64 2, .int .u64 (n : Nat)] 38) = w1 at *
    generalize w.heap.size = bc at *
    go_wp2
    go_ret
    exact ⟨by simp, hA⟩
   ·have h4i : ¬ (n : Int) < (round : Int) := by omega
    go_enter Tryz.func70, Tryz.ntmps70
    go_upto_region 1 with fail
    generalize w.alloc (.cells #[.int .i64 2, .int .u64 (n : Nat)] 38) = w1 at *
    generalize w.heap.size = bc at *
    go_wp2
    go_ret
    exact ⟨by simp, hA⟩
  ·go_enter Tryz.func70, Tryz.ntmps70
   go_upto_region 1 with fail
   generalize w.alloc (.cells #[.int .i64 k, .int .u64 (n : Nat)] 38) = w1 at *
   generalize w.heap.size = bc at *
   go_wp2
   go_ret
   exact ⟨by simp [h1, h2], hA⟩
set_option maxHeartbeats 1000000 in
theorem indexF_w (R : List Cav)  (v : Value) (w : World) (hm : R.length ≤ 35184372088832) (hx : Cavs w v R)  :
  Calls Tryz.prog 106 #[v, .func (.func 103) #[] #[]] w
   fun e w' => ∃ i : Int, e = .returned (.int .i64 i) ∧ decide (0 ≤ i) = !R.all (knownC) ∧ Ext w w' := by
 obtain ⟨q, cap, rfl, _, _⟩ := hx.shape
 have hhit := fun k (hk : k < R.length) h => all_hit (l := R) (g := knownC) hk h
 have hmiss := all_miss (l := R) (g := knownC)
 generalize R.all (knownC) = d at *
 replace hhit := Lib.hid hhit
 replace hmiss := Lib.hid hmiss
 go_enter Tryz.func106, Tryz.ntmps106
 go_wp2
 go_loopw [4, 8] (fun z i wr => ∃ k : Nat, k ≤ R.length ∧ i = .int .i64 k ∧ z = .int .i64 0 ∧ Ext w wr ∧ Hid (∀ j, j < k → (knownC) (R.getD j (0, 0)) = true)) (fun _ i _ => R.length - (intOf i).toNat)
 case atStart => exact ⟨0, by omega, rfl, rfl, Ext.refl w, fun j hj => by omega⟩
 case round =>
  obtain ⟨k, hk, rfl, rfl, hb, HN⟩ := hrel
  by_cases hlt : k < R.length
  ·obtain ⟨b, off, rfl, hbl, c0, c1⟩ := (hx.ext hb).at hlt
   have C := fits1_w (R.getD k (0, 0)) wr
   have hH := hhit.out k hlt
   have hN2 : (knownC) (R.getD k (0, 0)) = true → Hid (∀ j, j < k + 1 → (knownC) (R.getD j (0, 0)) = true) := fun h j hj => by
    rcases Nat.lt_succ_iff_lt_or_eq.1 hj with h' | rfl
    ·exact HN.out j h'
    ·exact h
   obtain ⟨t, ht⟩ : ∃ t, t = (knownC) (R.getD k (0, 0)) := ⟨_, rfl⟩
   rw [← ht] at C hH hN2
   clear ht
   generalize R.getD k (0, 0) = r at *
   obtain ⟨r1, r2⟩ := r
   simp only at c0 c1 C
   cases t with
   | false =>
    have hd := hH rfl
    subst hd
    clear hH hN2
    go_wp2_with fail
    refine C.mono ?_; rintro e w1 ⟨rfl, h1⟩
    go_wp2
    go_ret
    exact ⟨_, rfl, by first | omega | simp, hb.trans h1⟩
   | true =>
    replace hN2 := hN2 rfl
    clear hH
    go_wp2_with fail
    refine C.mono ?_; rintro e w1 ⟨rfl, h1⟩
    go_wp2
    go_roundw
    case rel => exact ⟨k + 1, by omega, by go_num, rfl, hb.trans h1, hN2⟩
    case measure => simp [intOf]; omega
  ·obtain rfl : k = R.length := by omega
   have hd := hmiss.out HN.out
   subst hd
   go_wp2
   go_ret
   exact ⟨-1, rfl, by first | omega | simp, hb⟩
set_option maxHeartbeats 400000 in
theorem containsF_w (R : List Cav)  (v : Value) (w : World) (hm : R.length ≤ 35184372088832) (hx : Cavs w v R)  :
  Calls Tryz.prog 69 #[v, .func (.func 103) #[] #[]] w
   fun e w' => e = .returned (.bool (!R.all (knownC))) ∧ Ext w w' := by
 have C := indexF_w R  v w hm hx 
 generalize R.all (knownC) = d at C
 go_enter Tryz.func69, Tryz.ntmps69
 go_wp2_with fail
 refine C.mono ?_; rintro e w1 ⟨i, rfl, hi, h1⟩
 go_wp2
 go_ret
 exact ⟨by rw [← hi]; rfl, h1⟩
set_option maxHeartbeats 1000000 in
theorem indexA_w (R : List Cav) (right round b1 b2 : Nat)  (v : Value) (w : World) (hm : R.length ≤ 35184372088832) (hx : Cavs w v R) (hU : ∀ c ∈ R, U64 c.2) (l1 : b1 < w.heap.size) (r1 : w.cell? ⟨b1, 0, none⟩ = some (.int .u64 (right : Nat))) (l2 : b2 < w.heap.size) (r2 : w.cell? ⟨b2, 0, none⟩ = some (.int .u64 (round : Nat))) :
  Calls Tryz.prog 106 #[v, .func (.func 70) #[] #[.pointer (some ⟨b1, 0, none⟩), .pointer (some ⟨b2, 0, none⟩)]] w
   fun e w' => ∃ i : Int, e = .returned (.int .i64 i) ∧ decide (0 ≤ i) = !R.all (letC right round) ∧ Ext w w' := by
 obtain ⟨q, cap, rfl, _, _⟩ := hx.shape
 have hhit := fun k (hk : k < R.length) h => all_hit (l := R) (g := letC right round) hk h
 have hmiss := all_miss (l := R) (g := letC right round)
 generalize R.all (letC right round) = d at *
 replace hhit := Lib.hid hhit
 replace hmiss := Lib.hid hmiss
 go_enter Tryz.func106, Tryz.ntmps106
 go_wp2
 go_loopw [4, 8] (fun z i wr => ∃ k : Nat, k ≤ R.length ∧ i = .int .i64 k ∧ z = .int .i64 0 ∧ Ext w wr ∧ Hid (∀ j, j < k → (letC right round) (R.getD j (0, 0)) = true)) (fun _ i _ => R.length - (intOf i).toNat)
 case atStart => exact ⟨0, by omega, rfl, rfl, Ext.refl w, fun j hj => by omega⟩
 case round =>
  obtain ⟨k, hk, rfl, rfl, hb, HN⟩ := hrel
  by_cases hlt : k < R.length
  ·obtain ⟨b, off, rfl, hbl, c0, c1⟩ := (hx.ext hb).at hlt
   have C := allows1_w (R.getD k (0, 0)) right round b1 b2 wr (hU _ (by rw [List.getD_eq_getElem?_getD, List.getElem?_eq_getElem hlt]; exact List.getElem_mem hlt)) (Nat.lt_of_lt_of_le l1 hb.size) ((hb.cell (p := ⟨b1, 0, none⟩) l1).trans r1) (Nat.lt_of_lt_of_le l2 hb.size) ((hb.cell (p := ⟨b2, 0, none⟩) l2).trans r2)
   have hH := hhit.out k hlt
   have hN2 : (letC right round) (R.getD k (0, 0)) = true → Hid (∀ j, j < k + 1 → (letC right round) (R.getD j (0, 0)) = true) := fun h j hj => by
    rcases Nat.lt_succ_iff_lt_or_eq.1 hj with h' | rfl
    ·exact HN.out j h'
    ·exact h
   obtain ⟨t, ht⟩ : ∃ t, t = (letC right round) (R.getD k (0, 0)) := ⟨_, rfl⟩
   rw [← ht] at C hH hN2
   clear ht
   generalize R.getD k (0, 0) = r at *
   obtain ⟨r1, r2⟩ := r
   simp only at c0 c1 C
   cases t with
   | false =>
    have hd := hH rfl
    subst hd
    clear hH hN2
    go_wp2_with fail
    refine C.mono ?_; rintro e w1 ⟨rfl, h1⟩
    go_wp2
    go_ret
    exact ⟨_, rfl, by first | omega | simp, hb.trans h1⟩
   | true =>
    replace hN2 := hN2 rfl
    clear hH
    go_wp2_with fail
    refine C.mono ?_; rintro e w1 ⟨rfl, h1⟩
    go_wp2
    go_roundw
    case rel => exact ⟨k + 1, by omega, by go_num, rfl, hb.trans h1, hN2⟩
    case measure => simp [intOf]; omega
  ·obtain rfl : k = R.length := by omega
   have hd := hmiss.out HN.out
   subst hd
   go_wp2
   go_ret
   exact ⟨-1, rfl, by first | omega | simp, hb⟩
set_option maxHeartbeats 400000 in
theorem containsA_w (R : List Cav) (right round b1 b2 : Nat)  (v : Value) (w : World) (hm : R.length ≤ 35184372088832) (hx : Cavs w v R) (hU : ∀ c ∈ R, U64 c.2) (l1 : b1 < w.heap.size) (r1 : w.cell? ⟨b1, 0, none⟩ = some (.int .u64 (right : Nat))) (l2 : b2 < w.heap.size) (r2 : w.cell? ⟨b2, 0, none⟩ = some (.int .u64 (round : Nat))) :
  Calls Tryz.prog 69 #[v, .func (.func 70) #[] #[.pointer (some ⟨b1, 0, none⟩), .pointer (some ⟨b2, 0, none⟩)]] w
   fun e w' => e = .returned (.bool (!R.all (letC right round))) ∧ Ext w w' := by
 have C := indexA_w R right round b1 b2 v w hm hx hU l1 r1 l2 r2
 generalize R.all (letC right round) = d at C
 go_enter Tryz.func69, Tryz.ntmps69
 go_wp2_with fail
 refine C.mono ?_; rintro e w1 ⟨i, rfl, hi, h1⟩
 go_wp2
 go_ret
 exact ⟨by rw [← hi]; rfl, h1⟩
end Go.Proofs.YtefjdmjkofaajaaGreatDoor
namespace Go.Dm
open Go Go.RowKit
theorem run_index_at {P : Program} {t : TypeId} (ht : P.underlying t = some .string) (s : ByteArray) (z : Int) (i : Nat) (hz : z = (i : Int)) (h : i < s.size) (U : World) :
  (Instr.index t (.string s) (.int .i64 z)).run P U = .ok (.int .u8 (at0 (ofB s.data.toList) i)) U := by
 subst hz
 rw [run_index_string U t s .i64 i ht, dif_pos ⟨by omega, by omega⟩]
 have h1 : at0 (ofB s.data.toList) i = (s[i].toNat : Int) := by
  unfold at0 ofB
  have hl : i < s.data.toList.length := h
  rw [List.getD_eq_getElem?_getD, List.getElem?_map, List.getElem?_eq_getElem hl]
  simp [ByteArray.getElem_eq_getElem_data]
 rw [h1]
 rfl
def wC (l : List Int) : List Value := l.map (Value.int .u32)
theorem wC_len (l : List Int) : (wC l).length = l.length := List.length_map _
theorem wC_one (l : List Int) : ∀ u ∈ wC l, u.oneCell' = true := by
 intro u hu
 obtain ⟨z, _, rfl⟩ := List.mem_map.1 hu
 rfl
theorem AB.sl {b n : Nat} {t : TypeId} {l : List Int} {w : World} (h : AB b t .u32 l w) (hn : l.length = n) (hm : n ≤ maxLen) : Sl w 1 (.slice (some ⟨b, 0, none⟩) n n) n (wC l) :=
 Sl.of_block (vs := wC l) h (by rw [wC_len, hn, Nat.mul_one]) hm
end Go.Dm
namespace Go.Proofs.YtefjdmjkofaajaaGreatDoor
open Go.RowKit Go.Dm
theorem Tryz.slU32 : SlT Tryz.prog 235 172 1 4 := SlT.mk' Tryz.underlying235 (by kernel_rfl) (by decide) (by decide)
set_option maxRecDepth 100000 in
theorem turn06_w (x : Int) (n : Nat) (hn : 1 ≤ n ∧ n ≤ 31) (w : World) :
  Calls Tryz.prog 174 #[.int .u32 x, .int .i64 (n : Nat)] w fun e w' => e = .returned (.int .u32 (turnW x n)) ∧ Ext w w' := by
 have h3 : (32 - (n : Int)).toNat = 32 - n := by omega
 have h4 : ((n : Int)).toNat = n := by omega
 have hr := or32_comm (x / 2 ^ n) (IntKind.u32.wrap (x * 2 ^ (32 - n)))
 unfold turnW
 go_enter Tryz.func174, Tryz.ntmps174
 go_wp2_with fail
 refine Dm.wp_region_grow (by kernel_rfl) (by kernel_rfl) ?_
 repeat (go_big_quiet_step (fail))
 refine wpQuiet_nil ?_
 intro U hU
 go_wp2
 go_ret
 exact ⟨congrArg (fun z => Ending.returned (Value.int .u32 z)) hr, hU⟩
set_option maxRecDepth 100000 in
theorem rounds06_w (w : World) :
  Calls Tryz.prog 161 #[] w fun e w' => ∃ g, e = .returned (.slice (some ⟨g, 0, none⟩) 64 64) ∧ AB g 172 .u32 roundsW w' ∧ Ext w w' ∧ w.heap.size ≤ g := by
 go_enter Tryz.func161, Tryz.ntmps161
 go_wp2
 go_ret
 exact ⟨w.heap.size, rfl, AB.new w 172 .u32 roundsW, (Ext.refl _).alloc _, Nat.le_refl _⟩
end Go.Proofs.YtefjdmjkofaajaaGreatDoor
namespace Go.Dm
open Go Go.RowKit
theorem wrow {w : World} {B e n : Nat} {v : Value} {l : List Int} (h : w.ownsRow B e 1 v n (wC l)) (hn : l.length = n) (h0 : 0 < n) :
  ∃ g cap, n ≤ cap ∧ v = .slice (some ⟨g, 0, none⟩) n cap ∧ g < w.heap.size ∧ B ≤ g ∧ ∀ i, i < n → w.cell? ⟨g, i, none⟩ = some (.int .u32 (at0 l i)) := by
 have hs := Sl.of_owns h
 obtain ⟨_, h⟩ := h
 rcases h with ⟨_, rfl⟩ | ⟨g, cap, cur, rfl, hB, hg, hc, _, _, _⟩
 ·omega
 ·obtain ⟨b, off, hp, lb, hx⟩ := Sl.at hs h0
  injection hp with hp
  injection hp with h1 h2
  subst h1 h2
  refine ⟨_, cap, hc, rfl, lb, hB, fun i hi => ?_⟩
  have := hx i (.int .u32 (at0 l i)) (by simp [wC, at0, List.getD_eq_getElem?_getD, hn, hi])
  rwa [Nat.zero_add] at this
def V8 (B : Nat) (t : TypeId) (v : Value) (k : Nat) (l : List Int) (w : World) : Prop :=
 ∃ g cap, v = .slice (some ⟨g, 0, none⟩) 8 cap ∧ 8 ≤ cap ∧ B ≤ g ∧ g < w.heap.size ∧ (∀ i, i < 8 → w.cell? ⟨g, i, none⟩ = some (.int .u32 (at0 l i))) ∧ (0 < k → cap = 8 ∧ AB g t .u32 l w)
structure RdS (g bK gW k : Nat) (v0 v1 v2 v3 v4 v5 v6 v7 rk wk : Int) (w : World) : Prop where
 lV : g < w.heap.size
 c0 : w.cell? ⟨g, 0, none⟩ = some (.int .u32 v0)
 c1 : w.cell? ⟨g, 1, none⟩ = some (.int .u32 v1)
 c2 : w.cell? ⟨g, 2, none⟩ = some (.int .u32 v2)
 c3 : w.cell? ⟨g, 3, none⟩ = some (.int .u32 v3)
 c4 : w.cell? ⟨g, 4, none⟩ = some (.int .u32 v4)
 c5 : w.cell? ⟨g, 5, none⟩ = some (.int .u32 v5)
 c6 : w.cell? ⟨g, 6, none⟩ = some (.int .u32 v6)
 c7 : w.cell? ⟨g, 7, none⟩ = some (.int .u32 v7)
 lK : bK < w.heap.size
 ck : w.cell? ⟨bK, k, none⟩ = some (.int .u32 rk)
 lW : gW < w.heap.size
 cw : w.cell? ⟨gW, k, none⟩ = some (.int .u32 wk)
theorem RdS.ext {g bK gW k : Nat} {v0 v1 v2 v3 v4 v5 v6 v7 rk wk : Int} {w w' : World} (h : RdS g bK gW k v0 v1 v2 v3 v4 v5 v6 v7 rk wk w) (hx : Ext w w') : RdS g bK gW k v0 v1 v2 v3 v4 v5 v6 v7 rk wk w' := by
 have hc : ∀ {b i : Nat} {u}, b < w.heap.size → w.cell? ⟨b, i, none⟩ = some u → w'.cell? ⟨b, i, none⟩ = some u := fun {b i u} l e => by rw [hx.cell (by exact l)]; exact e
 have hl : ∀ {b : Nat}, b < w.heap.size → b < w'.heap.size := fun l => Nat.lt_of_lt_of_le l hx.size
 exact ⟨hl h.lV, hc h.lV h.c0, hc h.lV h.c1, hc h.lV h.c2, hc h.lV h.c3, hc h.lV h.c4, hc h.lV h.c5, hc h.lV h.c6, hc h.lV h.c7, hl h.lK, hc h.lK h.ck, hl h.lW, hc h.lW h.cw⟩
end Go.Dm
namespace Go.Proofs.YtefjdmjkofaajaaGreatDoor
open Go.RowKit Go.Dm
set_option maxHeartbeats 4000000 in
set_option maxRecDepth 100000 in
theorem block06_w (H : List Int) (bH bK : Nat) (s : ByteArray) (hh : H.length = 8) (hs : s.size = 64) (w : World) (hH : AB bH 172 .u32 H w) (hK : AB bK 172 .u32 roundsW w) :
  Calls Tryz.prog 162 #[.slice (some ⟨bH, 0, none⟩) 8 8, .slice (some ⟨bK, 0, none⟩) 64 64, .string s] w fun e w' =>
   ∃ g, e = .returned (.slice (some ⟨g, 0, none⟩) 8 8) ∧ AB g 172 .u32 (blockW H (ofB s.data.toList)) w' ∧ Ext w w' ∧ w.heap.size ≤ g := by
 obtain ⟨B, hB⟩ : ∃ B, B = ofB s.data.toList := ⟨_, rfl⟩
 have hix := fun (z : Int) (i : Nat) (hz : z = (i : Int)) (hi : i < 64) (U : World) => run_index_at (P := Tryz.prog) Tryz.underlying9 s z i hz (by omega) U
 have hr := fun i => ofB_range s.data.toList i
 rw [← hB] at hix hr ⊢
 change ∀ i, 0 ≤ at0 B i ∧ at0 B i ≤ 255 at hr
 replace hix := Lib.hid hix
 replace hB := Lib.hid hB
 have T := Lib.hid (fun (x : Int) (n : Nat) (hn : 1 ≤ n ∧ n ≤ 31) U => turn06_w x n hn U)
 have hbk : blockW H B = sumW (runW H (wordsW B 64) 64) H := rfl
 generalize blockW H B = BF at *
 replace hbk := Lib.hid hbk
 go_enter Tryz.func162, Tryz.ntmps162
 go_wp2
 go_loopw [7, 8] (fun v i wr => ∃ k : Nat, k ≤ 16 ∧ i = .int .i64 k ∧ Ext w wr ∧ wr.ownsRow w.heap.size 172 1 v k (wC (wordsW B k))) (fun _ i _ => 16 - (intOf i).toNat)
 case atStart => exact ⟨0, by omega, rfl, Ext.refl _, World.ownsRow_nil _ _ _ _⟩
 case round =>
  obtain ⟨k, hk, rfl, h1, h2⟩ := hrel
  by_cases hlt : k < 16
  ·have hwn : wC (wordsW B (k + 1)) = wC (wordsW B k) ++ [.int .u32 (headW B k)] := by simp [wC, wordsW, hlt]
   unfold headW at hwn
   have i0 := hix.out (4 * (k : Int)) (4 * k) (by omega) (by omega)
   have i1 := hix.out (4 * (k : Int) + 1) (4 * k + 1) (by omega) (by omega)
   have i2 := hix.out (4 * (k : Int) + 2) (4 * k + 2) (by omega) (by omega)
   have i3 := hix.out (4 * (k : Int) + 3) (4 * k + 3) (by omega) (by omega)
   obtain ⟨r00, r01⟩ := hr (4 * k)
   obtain ⟨r10, r11⟩ := hr (4 * k + 1)
   obtain ⟨r20, r21⟩ := hr (4 * k + 2)
   obtain ⟨r30, r31⟩ := hr (4 * k + 3)
   generalize at0 B (4 * k) = z0 at *
   generalize at0 B (4 * k + 1) = z1 at *
   generalize at0 B (4 * k + 2) = z2 at *
   generalize at0 B (4 * k + 3) = z3 at *
   replace hwn := Lib.hid hwn
   clear hr
   go_upto_region 5 with fail
   refine sx_ ?_
   refine rg_ 33 h1 ?_
   refine tks (List.range' 0 30) 1073741823 3 ?_
   refine k1_ 30 2147483647 h1 fun w1a hx1a hX1a => ?_
   have ho1 := Ext.row h2 hx1a
   have hwn := hwn.out
   change wC (wordsW B (k + 1)) = wC (wordsW B k) ++ [.int .u32 (Go.bits .or .u32 (Go.bits .or .u32 (Go.bits .or .u32 (z0 * 16777216) (z1 * 65536)) (z2 * 256)) z3)] at hwn
   generalize Go.bits .or .u32 (Go.bits .or .u32 (Go.bits .or .u32 (z0 * 16777216) (z1 * 65536)) (z2 * 256)) z3 = z at *
   replace hwn := Lib.hid hwn
   go_wp2_with fail
   have hl := Sl.lit w1a 172 1 1 #[.int .u32 z] rfl (by simp [maxLen])
   have hs1 := (Ext.refl w1a).alloc (.cells #[.int .u32 z] 172)
   have ho1 := Ext.row ho1 hs1
   generalize w1a.alloc (.cells #[.int .u32 z] 172) = w1b at *
   have hX1b := Ext.trans hX1a hs1
   refine sx_ ?_
   refine k1_ 31 4294967295 hX1b fun w2a hx2a hX2a => ?_
   replace hl := hl.ext hx2a
   replace ho1 := Ext.row ho1 hx2a
   go_wp2_with (at_builtin; refine wpList_appE rfl _ _ Tryz.slU32 rfl hX2a rfl ho1 rfl hl (wC_one [z]) (by omega) ?_; intro v2 w2b ho2 hX2b _)
   refine sx_ ?_
   refine tks [32] 8589934591 0 ?_
   refine kd_ hX2b fun w3a hx3a hX3a => ?_
   replace ho2 := Ext.row ho2 hx3a
   go_wp2
   go_roundw
   case rel => exact ⟨k + 1, by omega, by go_num, hX3a, by rw [hwn.out]; exact ho2⟩
   case measure => simp [intOf]; omega
  ·have hk0 : Hid (k = 16) := (by omega : k = 16)
   have hlt' : ¬ ((k : Int) < 16) := by omega
   obtain ⟨k0, rfl⟩ : ∃ x, x = k := ⟨_, rfl⟩
   clear hlt hk
   obtain ⟨wa, rfl⟩ : ∃ x, x = wr := ⟨_, rfl⟩
   go_wp2
   go_loopw [7, 9] (fun v i wr => ∃ k : Nat, 16 ≤ k ∧ k ≤ 64 ∧ i = .int .i64 k ∧ Ext w wr ∧ wr.ownsRow w.heap.size 172 1 v k (wC (wordsW B k))) (fun _ i _ => 64 - (intOf i).toNat)
   case atStart => exact ⟨16, by omega, by omega, rfl, h1, hk0.out ▸ h2⟩
   case round =>
    obtain ⟨k, hk16, hk, rfl, h1, h2⟩ := hrel
    by_cases hlt : k < 64
    ·have hwn : wC (wordsW B (k + 1)) = wC (wordsW B k) ++ [.int .u32 (madeW (at0 (wordsW B k) (k - 16)) (at0 (wordsW B k) (k - 15)) (at0 (wordsW B k) (k - 7)) (at0 (wordsW B k) (k - 2)))] := by simp [wC, wordsW, show ¬ k < 16 by omega]
     have hwl := wordsW_len B k
     obtain ⟨g, cap, cn, rfl, lg, -, hc⟩ := wrow h2 hwl (by omega)
     have HI : Rd4 g (k - 15) (k - 2) (k - 16) (k - 7) (.int .u32 (at0 (wordsW B k) (k - 15))) (.int .u32 (at0 (wordsW B k) (k - 2))) (.int .u32 (at0 (wordsW B k) (k - 16))) (.int .u32 (at0 (wordsW B k) (k - 7))) wr :=
      ⟨lg, hc _ (by omega), hc _ (by omega), hc _ (by omega), hc _ (by omega)⟩
     clear hc lg hwl
     generalize at0 (wordsW B k) (k - 16) = za at *
     generalize at0 (wordsW B k) (k - 15) = zx at *
     generalize at0 (wordsW B k) (k - 7) = zb at *
     generalize at0 (wordsW B k) (k - 2) = zy at *
     replace hwn := Lib.hid hwn
     have e15 : (k : Int) - 15 = ((k - 15 : Nat) : Int) := by omega
     have e2 : (k : Int) - 2 = ((k - 2 : Nat) : Int) := by omega
     have e16 : (k : Int) - 16 = ((k - 16 : Nat) : Int) := by omega
     have e7 : (k : Int) - 7 = ((k - 7 : Nat) : Int) := by omega
     obtain ⟨i1, i2, i3, i4, i5⟩ := id HI
     go_wp2_with fail
     refine (T.out _ 7 (by omega) _).mono ?_; rintro e_ w2 ⟨rfl, x2⟩
     go_wp2_with fail
     refine (T.out _ 18 (by omega) _).mono ?_; rintro e_ w3 ⟨rfl, x3⟩
     go_wp2_with fail
     refine (T.out _ 17 (by omega) _).mono ?_; rintro e_ w4 ⟨rfl, x4⟩
     go_wp2_with fail
     refine (T.out _ 19 (by omega) _).mono ?_; rintro e_ w5 ⟨rfl, x5⟩
     clear i1 i2 i3 i4 i5
     have x := ((x2.trans x3).trans x4).trans x5
     replace HI := HI.ext x
     replace h1 := h1.trans x
     replace h2 := Ext.row h2 x
     clear x x2 x3 x4 x5
     obtain ⟨i1, i2, i3, i4, i5⟩ := id HI
     go_upto_region 13 with fail
     refine sx_ ?_
     refine rf_ (fun U => Rd4 g (k - 15) (k - 2) (k - 16) (k - 7) (.int .u32 zx) (.int .u32 zy) (.int .u32 za) (.int .u32 zb) U ∧ Ext w U ∧ U.ownsRow w.heap.size 172 1 (.slice (some ⟨g, 0, none⟩) k cap) k (wC (wordsW B k))) 17 19 ?_
     refine tts (List.range' 0 16) 65535 3 (fun _ _ h hx => ⟨h.1.ext hx, h.2.1.trans hx, Ext.row h.2.2 hx⟩) ⟨HI, h1, h2⟩ ?_ (hq := by intro wq hwq; obtain ⟨⟨q0, q1, q2, q3, q4⟩, _, _⟩ := hwq; (repeat go_big_quiet_step (fail)); exact wpQuiet_nil rfl)
     refine f1_ 16 131071 fun wm16 hxm16 => ?_
     go_wp2_with fail
     have hwn := hwn.out
     change wC (wordsW B (k + 1)) = wC (wordsW B k) ++ [.int .u32 ((za + Go.bits .xor .u32 (Go.bits .xor .u32 (turnW zx 7) (turnW zx 18)) (zx / 8) + zb + Go.bits .xor .u32 (Go.bits .xor .u32 (turnW zy 17) (turnW zy 19)) (zy / 1024)) % 4294967296)] at hwn
     generalize (za + Go.bits .xor .u32 (Go.bits .xor .u32 (turnW zx 7) (turnW zx 18)) (zx / 8) + zb + Go.bits .xor .u32 (Go.bits .xor .u32 (turnW zy 17) (turnW zy 19)) (zy / 1024)) % 4294967296 = z at *
     replace hwn := Lib.hid hwn
     have hl := Sl.lit wm16 172 1 1 #[.int .u32 z] rfl (by simp [maxLen])
     have hs := hxm16.trans ((Ext.refl wm16).alloc (.cells #[.int .u32 z] 172))
     generalize wm16.alloc (.cells #[.int .u32 z] 172) = wl at *
     generalize wm16.heap.size = bl at *
     refine ⟨fun _ => ⟨HI.ext hs, h1.trans hs, Ext.row h2 hs⟩, ?_⟩
     refine sx_ ?_
     refine f1_ 17 262143 fun wm17 hxm17 => ?_
     have h1 := (h1.trans hs).trans hxm17
     have h2 := Ext.row (Ext.row h2 hs) hxm17
     go_wp2_with (at_builtin; refine wpList_appE rfl _ _ Tryz.slU32 rfl h1 rfl h2 rfl (hl.ext hxm17) (wC_one [z]) (by omega) ?_; intro v2 w7 ho2 h7 _)
     refine ⟨fun h => absurd h (by decide), ?_⟩
     refine sx_ ?_
     refine f1_ 18 524287 fun wz hxz => ?_
     go_wp2_with fail
     first | refine ⟨fun h => absurd h (by decide), ?_⟩ | skip
     refine fd_ fun wy hxy => ?_
     go_wp2
     go_roundw
     case rel => exact ⟨k + 1, by omega, by omega, by go_num, (h7.trans hxz).trans hxy, by rw [hwn.out]; exact Ext.row (Ext.row ho2 hxz) hxy⟩
     case measure => simp [intOf]; omega
    ·have hk1 : Hid (k = 64) := (by omega : k = 64)
     have hlt' : ¬ ((k : Int) < 64) := by omega
     obtain ⟨k1, rfl⟩ : ∃ x, x = k := ⟨_, rfl⟩
     clear hlt hk hk16
     have h3 := hk1.out ▸ h2
     have hwl := wordsW_len B 64
     have hbk := hbk.out
     generalize wordsW B 64 = WF at *
     obtain ⟨gW, cW, cWn, hv, lW, -, hcW⟩ := wrow h3 hwl (by omega)
     rw [hk1.out] at h2
     subst hv
     clear h2 h3
     replace hbk := Lib.hid hbk
     have hHs := (hH.ext h1).sl hh (by simp [maxLen])
     go_wp2_with (at_builtin; refine wpList_appE (v := .slice none 0 0) rfl _ _ Tryz.slU32 rfl h1 rfl (World.ownsRow_nil _ _ _ _) rfl hHs (wC_one H) (by omega) ?_; intro v3 w3 ho3 h3 hf3)
     have hx3 := hf3 rfl
     clear hf3 hHs
     obtain ⟨g0, cp0, cn0, hv3, l0, hB0, hc0⟩ := wrow (l := H) ho3 hh (by omega)
     have hV0 : V8 w.heap.size 172 v3 0 (runW H WF 0) w3 := ⟨g0, cp0, hv3, cn0, hB0, l0, hc0, fun h => absurd h (Nat.lt_irrefl _)⟩
     clear hv3 l0 hB0 hc0 cn0 ho3
     have lW3 : gW < w3.heap.size := Nat.lt_of_lt_of_le lW hx3.size
     have hcW3 : ∀ i, i < 64 → w3.cell? ⟨gW, i, none⟩ = some (.int .u32 (at0 WF i)) := fun i hi => by rw [hx3.cell (by exact lW)]; exact hcW i hi
     clear hcW lW hx3
     replace hcW3 := Lib.hid hcW3
     go_wp2
     go_loopw [14, 15] (fun v i wr => ∃ k : Nat, k ≤ 64 ∧ i = .int .i64 k ∧ Ext w3 wr ∧ V8 w.heap.size 172 v k (runW H WF k) wr) (fun _ i _ => 64 - (intOf i).toNat)
     case atStart => exact ⟨0, by omega, rfl, Ext.refl _, hV0⟩
     case round =>
      obtain ⟨k, hk, rfl, h4, hV⟩ := hrel
      clear hV0
      by_cases hlt : k < 64
      ·obtain ⟨g, cap, rfl, gc, gB, gl, gx, -⟩ := hV
       have hnx : runW H WF (k + 1) = stepW (runW H WF k) (at0 roundsW k) (at0 WF k) := rfl
       have h8 := eight (runW_len (W := WF) hh k)
       unfold stepW at hnx
       have kc := (hK.ext (h3.trans h4)).cell (i := k) hlt
       have wc : _ = some (Value.int .u32 (at0 WF k)) := (h4.cell (p := ⟨gW, k, none⟩) (by exact lW3)).trans (hcW3.out k hlt)
       have HI : RdS g bK gW k (at0 (runW H WF k) 0) (at0 (runW H WF k) 1) (at0 (runW H WF k) 2) (at0 (runW H WF k) 3) (at0 (runW H WF k) 4) (at0 (runW H WF k) 5) (at0 (runW H WF k) 6) (at0 (runW H WF k) 7) (at0 roundsW k) (at0 WF k) wr :=
        ⟨gl, gx 0 (by omega), gx 1 (by omega), gx 2 (by omega), gx 3 (by omega), gx 4 (by omega), gx 5 (by omega), gx 6 (by omega), gx 7 (by omega), (hK.ext (h3.trans h4)).lt, kc, Nat.lt_of_lt_of_le lW3 h4.size, wc⟩
       clear kc wc gx gl h8
       obtain ⟨VN, hVN⟩ : ∃ VN, VN = runW H WF (k + 1) := ⟨_, rfl⟩
       rw [← hVN] at hnx
       replace hVN := Lib.hid hVN
       generalize at0 (runW H WF k) 0 = v0 at *
       generalize at0 (runW H WF k) 1 = v1 at *
       generalize at0 (runW H WF k) 2 = v2 at *
       generalize at0 (runW H WF k) 3 = v3 at *
       generalize at0 (runW H WF k) 4 = v4 at *
       generalize at0 (runW H WF k) 5 = v5 at *
       generalize at0 (runW H WF k) 6 = v6 at *
       generalize at0 (runW H WF k) 7 = v7 at *
       generalize at0 roundsW k = rk at *
       generalize at0 WF k = wk at *
       replace hnx := Lib.hid hnx
       obtain ⟨lV, c0, c1, c2, c3, c4, c5, c6, c7, lK, ck, lW, cw⟩ := id HI
       go_upto_region 20 with fail
       refine sx_ ?_
       refine rg_ 36 (Ext.refl wr) ?_
       refine tks (List.range' 0 36) 68719476735 0 (hq := by intro x; (repeat go_big_quiet_step ((go_at_call 174; with_reducible first | exact Calls.quietE (T.out v4 6 (by omega) _) | exact Calls.quietE (T.out v4 11 (by omega) _) | exact Calls.quietE (T.out v4 25 (by omega) _)))); exact wpQuiet_nil rfl) ?_
       refine kd_ (Ext.refl wr) fun w1a hx1a hX1a => ?_
       clear lV c0 c1 c2 c3 c4 c5 c6 c7 lK ck lW cw hx1a
       replace h4 := h4.trans hX1a
       replace HI := HI.ext hX1a
       clear hX1a
       obtain ⟨wp, rfl⟩ : ∃ x, x = w1a := ⟨_, rfl⟩
       obtain ⟨lV, c0, c1, c2, c3, c4, c5, c6, c7, lK, ck, lW, cw⟩ := id HI
       go_upto_region 21 with fail
       refine sx_ ?_
       refine rg_ 29 (Ext.refl wp) ?_
       refine tks (List.range' 0 29) 536870911 0 (hq := by intro x; (repeat go_big_quiet_step ((go_at_call 174; with_reducible first | exact Calls.quietE (T.out v0 2 (by omega) _) | exact Calls.quietE (T.out v0 13 (by omega) _) | exact Calls.quietE (T.out v0 22 (by omega) _)))); exact wpQuiet_nil rfl) ?_
       refine kd_ (Ext.refl wp) fun w1a hx1a hX1a => ?_
       clear lV c0 c1 c2 c3 c4 c5 c6 c7 lK ck lW cw hx1a
       replace h4 := h4.trans hX1a
       replace HI := HI.ext hX1a
       clear hX1a
       obtain ⟨wq, rfl⟩ : ∃ x, x = w1a := ⟨_, rfl⟩
       go_upto_region 22 with fail
       generalize hone : ((v7 + Go.bits .xor .u32 (Go.bits .xor .u32 (turnW v4 6) (turnW v4 11)) (turnW v4 25) + Go.bits .xor .u32 (Go.bits .and .u32 v4 v5) (Go.bits .and .u32 (Go.bits .xor .u32 (if IntKind.u32.signed = true then -1 else IntKind.u32.max) v4) v6) + rk) % 4294967296 + wk) % 4294967296 = one at *
       generalize htwo : (Go.bits .xor .u32 (Go.bits .xor .u32 (turnW v0 2) (turnW v0 13)) (turnW v0 22) + Go.bits .xor .u32 (Go.bits .xor .u32 (Go.bits .and .u32 v0 v1) (Go.bits .and .u32 v0 v2)) (Go.bits .and .u32 v1 v2)) % 4294967296 = two at *
       have e1 : oneW v4 v5 v6 v7 rk wk = one := (Int.emod_add_emod _ _ _).symm.trans hone
       have e2 : twoW v0 v1 v2 = two := htwo
       have hnx := hnx.out
       rw [e1, e2] at hnx
       replace hnx := Lib.hid hnx
       clear hone htwo e1 e2
       obtain ⟨lV, c0, c1, c2, c3, c4, c5, c6, c7, lK, ck, lW, cw⟩ := id HI
       refine sx_ ?_
       refine rg_ 24 (Ext.refl wq) ?_
       refine tks (List.range' 0 22) 4194303 2 ?_
       refine k1_ 22 8388607 (Ext.refl wq) fun w1a hx1a hX1a => ?_
       have hN : AB w1a.heap.size 172 .u32 [(one + two) % 4294967296, v0, v1, v2, (v3 + one) % 4294967296, v4, v5, v6] (w1a.alloc (.cells #[.int .u32 ((one + two) % 4294967296), .int .u32 v0, .int .u32 v1, .int .u32 v2, .int .u32 ((v3 + one) % 4294967296), .int .u32 v4, .int .u32 v5, .int .u32 v6] 172)) := AB.new w1a 172 .u32 [(one + two) % 4294967296, v0, v1, v2, (v3 + one) % 4294967296, v4, v5, v6]
       have hs1 := (Ext.refl w1a).alloc (.cells #[.int .u32 ((one + two) % 4294967296), .int .u32 v0, .int .u32 v1, .int .u32 v2, .int .u32 ((v3 + one) % 4294967296), .int .u32 v4, .int .u32 v5, .int .u32 v6] 172)
       have hbn := (hX1a).size
       go_wp2_with fail
       generalize w1a.alloc (.cells #[.int .u32 ((one + two) % 4294967296), .int .u32 v0, .int .u32 v1, .int .u32 v2, .int .u32 ((v3 + one) % 4294967296), .int .u32 v4, .int .u32 v5, .int .u32 v6] 172) = w1b at *
       generalize w1a.heap.size = bn at *
       have hX1b := Ext.trans hX1a hs1
       refine sx_ ?_
       refine tks [23] 16777215 0 ?_
       refine kd_ hX1b fun w2a hx2a hX2a => ?_
       replace hN := hN.ext hx2a
       clear lV c0 c1 c2 c3 c4 c5 c6 c7 lK ck lW cw
       have hN' : AB bn 172 .u32 (runW H WF (k + 1)) w2a := by rw [← hVN.out, hnx.out]; exact hN
       have hBn := Nat.le_trans (h3.trans h4).size hbn
       clear hbn hN
       go_wp2
       go_roundw
       case rel => exact ⟨k + 1, by omega, by go_num, h4.trans hX2a, bn, 8, rfl, Nat.le_refl _, hBn, hN'.lt, fun i hi => hN'.cell (by rw [runW_len hh]; exact hi), fun _ => ⟨rfl, hN'⟩⟩
       case measure => simp [intOf]; omega
      ·have hk2 : Hid (k = 64) := (by omega : k = 64)
       have hlt' : ¬ ((k : Int) < 64) := by omega
       obtain ⟨g, cap, rfl, gc, gB, gl, gx, gA⟩ := hV
       obtain ⟨rfl, gA'⟩ := gA (by omega)
       clear gc gx gl gA
       have hl8 := runW_len (W := WF) hh 64
       have hall := sumP_all hl8 hh
       have gA := hk2.out ▸ gA'
       clear gA'
       have hbk := hbk.out
       obtain ⟨k2, rfl⟩ : ∃ x, x = k := ⟨_, rfl⟩
       generalize runW H WF 64 = VF at *
       have hw4 := h3.trans h4
       have hH4 := hH.ext hw4
       have hbg : bH < g := Nat.lt_of_lt_of_le hH.lt gB
       replace hbk := Lib.hid hbk
       replace hall := Lib.hid hall
       clear hlt hk h4
       obtain ⟨wf, rfl⟩ : ∃ x, x = wr := ⟨_, rfl⟩
       go_wp2
       go_loopw [20] (fun i wr => ∃ n : Nat, n ≤ 8 ∧ i = .int .i64 n ∧ Ext w wr ∧ AB bH 172 .u32 H wr ∧ AB g 172 .u32 (sumP VF H n) wr) (fun i _ => 8 - (intOf i).toNat)
       case atStart => exact ⟨0, by omega, rfl, hw4, hH4, by rw [sumP_zero]; exact gA⟩
       case round =>
        obtain ⟨n, hn, rfl, g1, g2, g4⟩ := hrel
        clear hw4 hH4 gA
        by_cases hlt : n < 8
        ·have hst := sumP_set hl8 hh hlt
         have hln := sumP_len hl8 hh hn
         have HI : Rd1 g n (.int .u32 (at0 VF n)) wr ∧ Rd1 bH n (.int .u32 (at0 H n)) wr :=
          ⟨⟨g4.lt, by rw [← sumP_at hl8 hh hlt]; exact g4.cell (by omega)⟩, ⟨g2.lt, g2.cell (by omega)⟩⟩
         have hnl : n < (sumP VF H n).length := by omega
         generalize at0 VF n = za at *
         generalize at0 H n = zb at *
         replace hst := Lib.hid hst
         go_upto_region 26 with fail
         refine sx_ ?_
         refine rf_ (fun U => Rd1 g n (.int .u32 za) U ∧ Rd1 bH n (.int .u32 zb) U) 12 13 ?_
         refine tfs (List.range' 0 12) 4095 1 (fun _ _ h hx => ⟨h.1.ext hx, h.2.ext hx⟩) HI ?_ (hq := by intro wq hwq; obtain ⟨⟨q0, q1⟩, ⟨q2, q3⟩⟩ := hwq; (repeat go_big_quiet_step (fail)); exact wpQuiet_nil rfl)
         refine f1_ 12 8191 fun wz hxz => ?_
         have cC := (g4.ext hxz).cell hnl
         have fC := (g4.ext hxz).free n
         have lC := (g4.ext hxz).lt
         go_wp2_with fail
         first | refine ⟨fun h => absurd h (by decide), ?_⟩ | skip
         refine fd_ fun wy hxy => ?_
         clear cC fC lC HI
         have hxy : Ext (wz.setCell ⟨g, n, none⟩ (.int .u32 ((za + zb) % 4294967296))) wy := hxy
         have k4 := hst.out ▸ (g4.ext hxz).set n ((za + zb) % 4294967296)
         have k4 := AB.ext k4 hxy
         have k2' := ((g2.ext hxz).far (c := g) (i := n) (by omega) (.int .u32 ((za + zb) % 4294967296))).ext hxy
         have k1' := Ext.trans (show Ext w (wz.setCell ⟨g, n, none⟩ (.int .u32 ((za + zb) % 4294967296))) from Below.setCell (g1.trans hxz) gB _) hxy
         clear g1 g2 g4 hxz hxy hst hnl
         go_wp2
         go_roundw
         case rel => exact ⟨n + 1, by omega, by go_num, k1', k2', k4⟩
         case measure => simp [intOf]; omega
        ·have hlt' : ¬ ((n : Int) < 8) := by omega
         have g4 : AB g 172 .u32 BF wr := by
          have e : n = 8 := by omega
          rw [hbk.out, ← hall.out, ← e]
          exact g4
         go_wp2
         go_ret
         exact ⟨g, rfl, g4, g1, gB⟩
end Go.Proofs.YtefjdmjkofaajaaGreatDoor
namespace Go.Dm
open Go Go.RowKit
theorem be8_step (n j : Nat) (h : j < 8) : (be8 n).take (j + 1) = (be8 n).take j ++ [byte8 n j] := by
 match j, h with
 | 0, _ | 1, _ | 2, _ | 3, _ | 4, _ | 5, _ | 6, _ | 7, _ => rfl
theorem byte8_eq (n j : Nat) (z : Nat) (hz : z = 7 - j) : ((n : Int) / 2 ^ (8 * z) % 256) = ((byte8 n j).toNat : Int) := by
 subst hz
 unfold byte8
 rw [u8_ofNat (by omega)]
 simp
end Go.Dm
namespace Go.Proofs.YtefjdmjkofaajaaGreatDoor
open Go.RowKit Go.Dm
set_option maxHeartbeats 4000000 in
set_option maxRecDepth 100000 in
theorem sum06_w (s : ByteArray) (hs : s.size ≤ 281474976710656) (w : World) :
  Calls Tryz.prog 137 #[.string s] w fun e w' => e = .returned (.string ⟨(shaB s.data.toList).toArray⟩) ∧ Ext w w' := by
 obtain ⟨n, hn, hn1⟩ := padB_len s.data.toList
 have hsha : shaB s.data.toList = outW (hashW (padB s.data.toList) n) := by unfold shaB; rw [hn, Nat.mul_div_cancel_left _ (by omega)]
 obtain ⟨Z, hZ⟩ : ∃ Z : Nat, Z = (119 - s.size % 64) % 64 := ⟨_, rfl⟩
 obtain ⟨N, hN⟩ : ∃ N : Nat, N = s.size * 8 := ⟨_, rfl⟩
 have hpad : padB s.data.toList = s.data.toList ++ 128 :: (List.replicate Z 0 ++ be8 N) := by rw [hZ, hN]; rfl
 have hZb : Z ≤ 63 := by omega
 have hn8 : (s.size : Int) * 8 = (N : Int) := by omega
 have hNb : N ≤ 18446744073709551615 := by omega
 have hnb : 64 * n = s.size + 1 + Z + 8 := by
  rw [← hn, hpad]
  have : s.data.toList.length = s.size := rfl
  simp [be8, this]; omega
 have hs1 : (s ++ ⟨#[128]⟩ : ByteArray).data.toList = s.data.toList ++ [128] := by rw [data_append]
 obtain ⟨t0, ht0⟩ : ∃ t : ByteArray, t = s ++ ⟨#[128]⟩ := ⟨_, rfl⟩
 rw [← ht0] at hs1
 have hz0 : t0.size = s.size + 1 := by rw [ht0, ByteArray.size_append]; rfl
 replace hsha := Lib.hid hsha
 replace hpad := Lib.hid hpad
 replace hs1 := Lib.hid hs1
 replace hZ := Lib.hid hZ
 replace hN := Lib.hid hN
 replace hn := Lib.hid hn
 replace ht0 := Lib.hid ht0.symm
 have CR := Lib.hid (fun U => rounds06_w U)
 go_enter Tryz.func137, Tryz.ntmps137
 have hH := AB.new w 172 .u32 startW
 have hE := (Ext.refl w).alloc (.cells (cellsI .u32 startW) 172)
 go_wp2_with fail
 refine (CR.out _).mono ?_; rintro e_ w2 ⟨bK, rfl, hK, h2, -⟩
 have h1 : Ext w w2 := hE.trans h2
 replace hH := hH.ext h2
 clear hE h2 CR
 obtain ⟨bH, hbH⟩ : ∃ x, w.heap.size = x := ⟨_, rfl⟩
 rw [hbH] at hH
 rw [hbH]
 clear hbH
 have ht0' := ht0.out
 go_wp2
 clear ht0' hn8
 go_loopw [6] (fun t wr => ∃ (j : Nat) (b : ByteArray), j ≤ Z ∧ t = .string b ∧ Hid (b.size = s.size + 1 + j) ∧ Hid (b.data.toList = s.data.toList ++ 128 :: List.replicate j 0) ∧ Ext w2 wr) (fun t _ => match t with | .string b => s.size + 1 + Z - b.size | _ => 0)
 case atStart => exact ⟨0, t0, by omega, rfl, Lib.hid hz0, by show _ = _; rw [hs1.out]; rfl, Ext.refl _⟩
 case round =>
  obtain ⟨j, b, hj, rfl, hb, hB, hx⟩ := hrel
  have hb' := hb.out
  obtain ⟨m, hm⟩ : ∃ m : Nat, m = b.size % 64 := ⟨_, rfl⟩
  have hZo := hZ.out
  have hmi : Int.tmod (b.size : Int) 64 = (m : Int) := by rw [Int.tmod_eq_emod_of_nonneg (by omega)]; omega
  by_cases hlt : j < Z
  ·have hm1 : ((m : Int) != 56) = true := by rw [bne_iff_ne]; omega
   have hm2 : ¬ ((m : Int) = 56) := by omega
   have hb2 : Hid ((b ++ ⟨#[0]⟩ : ByteArray).size = s.size + 1 + (j + 1)) := by show _ = _; rw [ByteArray.size_append, hb']; rfl
   have hlb : (b ++ ⟨#[0]⟩ : ByteArray).size = b.size + 1 := by rw [ByteArray.size_append]; rfl
   have hB2 : Hid ((b ++ ⟨#[0]⟩ : ByteArray).data.toList = s.data.toList ++ 128 :: List.replicate (j + 1) 0) := by
    show _ = _
    rw [data_append, hB.out, List.replicate_succ']
    simp
   generalize hbn : b ++ (⟨#[0]⟩ : ByteArray) = b2 at *
   have hbb : b.size ≤ 281474976710720 := by omega
   replace hlb := Lib.hid hlb
   replace hm1 := hm1
   clear hZo hm hb'
   go_wp2
   clear hbn
   have hlb := hlb.out
   have hb' := hb.out
   exact ⟨⟨j + 1, b2, by omega, rfl, hb2, hB2, hx⟩, by show _ - b2.size < _ - b.size; omega⟩
  ·have hm1 : ((m : Int) != 56) = false := by rw [bne_eq_false_iff_eq]; omega
   have hm2 : (m : Int) = 56 := by omega
   have hB1 : Hid (b.data.toList = s.data.toList ++ 128 :: (List.replicate Z 0 ++ (be8 N).take 0)) := by
    show _ = _
    rw [hB.out, show j = Z by omega]; simp
   have hbz : Hid (b.size = s.size + 1 + Z + 0) := by show _ = _; omega
   have hbb : b.size ≤ 281474976710720 := by omega
   have hH1 := hH.ext hx
   have hK1 := hK.ext hx
   have hw1 := h1.trans hx
   obtain ⟨wb, rfl⟩ : ∃ x, x = wr := ⟨_, rfl⟩
   clear hZo hm hH hK h1 hx hB hb hb' hlt hj
   go_wp2
   clear hm1 hm2 hmi hbb
   go_loopw [6, 7] (fun t i wr => ∃ (j : Nat) (b : ByteArray), j ≤ 8 ∧ i = .int .i64 (7 - (j : Int)) ∧ t = .string b ∧ Hid (b.size = s.size + 1 + Z + j) ∧ Hid (b.data.toList = s.data.toList ++ 128 :: (List.replicate Z 0 ++ (be8 N).take j)) ∧ Ext wb wr) (fun _ i _ => (intOf i + 1).toNat)
   case atStart => exact ⟨0, b, by omega, rfl, rfl, hbz, hB1, Ext.refl _⟩
   case round =>
    obtain ⟨j, c, hj, rfl, rfl, hc, hC, hy⟩ := hrel
    clear hB1 hbz
    by_cases hlt : j < 8
    ·have g1 : (0 : Int) ≤ 7 - (j : Int) := by omega
     obtain ⟨z, hz⟩ : ∃ z : Nat, z = 7 - j := ⟨_, rfl⟩
     have e1 : 7 - (j : Int) = (z : Int) := by omega
     rw [e1] at g1 ⊢
     have hz7 : z ≤ 7 := by omega
     have ez : (8 * (z : Int)).toNat = 8 * z := by omega
     have hy8 := byte8_eq N j z hz
     have hst := be8_step N j hlt
     generalize byte8 N j = y at *
     have hl4 := Sl.lit wr 5 1 1 #[.int .u8 (y.toNat : Int)] rfl (by simp [maxLen])
     have hcv := run_string_sl (l := [y]) (dst := 9) Tryz.underlying70 Tryz.underlying5 Tryz.underlying9 hl4 rfl (by simp)
     have hy2 := hy.trans ((Ext.refl wr).alloc (.cells #[.int .u8 (y.toNat : Int)] 5))
     have hc2 : Hid ((c ++ ⟨[y].toArray⟩ : ByteArray).size = s.size + 1 + Z + (j + 1)) := by show _ = _; rw [ByteArray.size_append, hc.out]; rfl
     have hcb : c.size ≤ 281474976710720 := by have := hc.out; omega
     have hC2 : Hid ((c ++ ⟨[y].toArray⟩ : ByteArray).data.toList = s.data.toList ++ 128 :: (List.replicate Z 0 ++ (be8 N).take (j + 1))) := by
      show _ = _
      rw [data_append, hC.out, hst]
      simp
     replace hst := Lib.hid hst
     replace hz := Lib.hid hz
     replace e1 := Lib.hid e1
     clear hl4 hC
     go_wp2
     go_roundw
     case rel => exact ⟨j + 1, _, by omega, by have := e1.out; exact congrArg (Value.int .i64) (by omega), rfl, hc2, hC2, hy2⟩
     case measure => simp [intOf] <;> omega
    ·have e1 : 7 - (j : Int) = -1 := by omega
     rw [e1]
     have hcs : Hid (c.data.toList = padB s.data.toList) := by
      show _ = _
      rw [hC.out, hpad.out, show j = 8 by omega]
      rfl
     have hcz : c.size = 64 * n := by have := hc.out; omega
     have hnl : n ≤ 4398046511200 := by omega
     generalize padB s.data.toList = PB at *
     have hH2 := hH1.ext hy
     have hK2 := hK1.ext hy
     have hw2 := hw1.trans hy
     replace hcz := Lib.hid hcz
     clear hj hlt hC hc hH1 hK1 hw1 hy
     obtain ⟨wc, rfl⟩ : ∃ x, x = wr := ⟨_, rfl⟩
     go_wp2
     go_loopw [3, 8] (fun h i wr => ∃ k g z : Nat, k ≤ n ∧ Hid (z = 64 * k) ∧ i = .int .i64 (z : Int) ∧ h = .slice (some ⟨g, 0, none⟩) 8 8 ∧ Ext wc wr ∧ AB g 172 .u32 (hashW PB k) wr) (fun _ i _ => 64 * n - (intOf i).toNat)
     case atStart => exact ⟨0, bH, 0, by omega, rfl, rfl, rfl, Ext.refl _, hH2⟩
     case round =>
      obtain ⟨k, g, i, hk, hi, rfl, rfl, hx, hG⟩ := hrel
      have hi' := hi.out
      clear hH2
      by_cases hlt : k < n
      ·have hcl : c.size = 64 * n := hcz.out
       have hxz : (c.extract (64 * k) (64 * k + 64)).size = 64 := by rw [ByteArray.size_extract]; omega
       have CB := block06_w (hashW PB k) g bK (c.extract (64 * k) (64 * k + 64)) (hashW_len PB k) hxz wr hG (hK2.ext hx)
       have hst : blockW (hashW PB k) (ofB (c.extract (64 * k) (64 * k + 64)).data.toList) = hashW PB (k + 1) := by
        show _ = blockW (hashW PB k) (ofB (blk (PB.drop (64 * k))))
        congr 2
        rw [Lib.extract_data, hcs.out]
        have : 64 ≤ (PB.drop (64 * k)).length := by rw [List.length_drop, hn.out]; omega
        unfold blk
        rw [show 64 - (PB.drop (64 * k)).length = 0 by omega, List.replicate_zero, List.append_nil]
        rw [show 64 * k + 64 - 64 * k = 64 by omega]
       rw [hst] at CB
       clear hst hG
       obtain ⟨HN, hHN⟩ : ∃ x, x = hashW PB (k + 1) := ⟨_, rfl⟩
       rw [← hHN] at CB
       replace hHN := Lib.hid hHN
       rw [← hi'] at CB hxz
       have hi1 : i + 64 ≤ c.size := by omega
       have hib : i + 64 ≤ 281474976716800 := by omega
       have hi2 : (i : Int) < (c.size : Int) := by omega
       generalize hcx : c.extract i (i + 64) = cx at *
       replace hcl := Lib.hid hcl
       replace CB := Lib.hid CB
       clear hi'
       go_wp2_with fail
       refine CB.out.mono ?_; rintro e_ w6 ⟨g6, rfl, hG6, h6, -⟩
       clear CB hcx
       have hx6 := hx.trans h6
       clear hx h6 hxz
       go_wp2
       have hi' := hi.out
       go_roundw
       case rel => exact ⟨k + 1, g6, i + 64, by omega, (by omega : i + 64 = 64 * (k + 1)), by simp, rfl, hx6, hHN.out ▸ hG6⟩
       case measure => simp [intOf]; have := hcl.out; omega
      ·have hkn : Hid (k = n) := (by omega : k = n)
       have hi2 : ¬ (i : Int) < (c.size : Int) := by have := hcz.out; omega
       have hG' := hkn.out ▸ hG
       have hl8 := hashW_len PB n
       have hw3 := hw2.trans hx
       generalize hashW PB n = HF at *
       obtain ⟨k0, rfl⟩ : ∃ x, x = k := ⟨_, rfl⟩
       clear hi' hlt hk hG hK2 hw2 hx
       obtain ⟨wd, rfl⟩ : ∃ x, x = wr := ⟨_, rfl⟩
       go_wp2
       go_loopw [9, 10] (fun t i wr => ∃ (m : Nat) (b : ByteArray), m ≤ 8 ∧ i = .int .i64 m ∧ t = .string b ∧ Hid (b.data.toList = outW (HF.take m)) ∧ b.size ≤ 4 * m ∧ Ext wd wr) (fun _ i _ => 8 - (intOf i).toNat)
       case atStart => exact ⟨0, ⟨#[]⟩, by omega, rfl, rfl, rfl, by simp [ByteArray.size], Ext.refl _⟩
       case round =>
        obtain ⟨m, b, hm, rfl, rfl, hb, hbs, hy⟩ := hrel
        by_cases hlt : m < 8
        ·have c0 := (hG'.ext hy).cell (i := m) (by omega)
         change _ = some (Value.int .u32 (at0 HF m)) at c0
         have l0 := (hG'.ext hy).lt
         have hsn := outW_snoc (h := HF) (k := m) (by omega)
         have hfx : bCells (fourW (at0 HF m)) = [.int .u8 (at0 HF m / 16777216 % 256), .int .u8 (at0 HF m / 65536 % 256), .int .u8 (at0 HF m / 256 % 256), .int .u8 (at0 HF m % 256)] := by
          simp [bCells, fourW, byteW_eq]
         generalize at0 HF m = x at *
         replace hsn := Lib.hid hsn
         replace hfx := Lib.hid hfx
         go_upto_region 19 with fail
         refine sx_ ?_
         refine rg_ 28 (Ext.refl wr) ?_
         refine tks (List.range' 0 24) 16777215 4 ?_
         refine k1_ 24 33554431 (Ext.refl wr) fun w1a hx1a hX1a => ?_
         go_wp2_with fail
         have hl := Sl.lit w1a 5 1 4 #[.int .u8 (x / 16777216 % 256), .int .u8 (x / 65536 % 256), .int .u8 (x / 256 % 256), .int .u8 (x % 256)] rfl (by simp [maxLen])
         have hs1 := (Ext.refl w1a).alloc (.cells #[.int .u8 (x / 16777216 % 256), .int .u8 (x / 65536 % 256), .int .u8 (x / 256 % 256), .int .u8 (x % 256)] 5)
         generalize w1a.alloc (.cells #[.int .u8 (x / 16777216 % 256), .int .u8 (x / 65536 % 256), .int .u8 (x / 256 % 256), .int .u8 (x % 256)] 5) = w1b at *
         generalize w1a.heap.size = bl at *
         have hX1b := Ext.trans hX1a hs1
         refine sx_ ?_
         refine k1_ 25 67108863 hX1b fun w2a hx2a hX2a => ?_
         replace hl := hl.ext hx2a
         have hl2 := hl
         rw [show ([.int .u8 (x / 16777216 % 256), .int .u8 (x / 65536 % 256), .int .u8 (x / 256 % 256), .int .u8 (x % 256)] : List Value) = bCells (fourW x) from hfx.out.symm] at hl2
         obtain ⟨fx, hfe⟩ : ∃ fx : ByteArray, fx = ⟨(fourW x).toArray⟩ := ⟨_, rfl⟩
         have hf4 : fx.size = 4 := by rw [hfe]; rfl
         have hfd : Hid (fx.data.toList = fourW x) := (by rw [hfe] : fx.data.toList = fourW x)
         have hcv := run_string_sl (l := fourW x) (dst := 9) Tryz.underlying70 Tryz.underlying5 Tryz.underlying9 hl2 rfl (by simp [fourW])
         rw [← hfe] at hcv
         clear hfe
         go_wp2_with fail
         clear hcv hl2
         obtain ⟨w2b, hw2⟩ : ∃ x, x = w2a := ⟨_, rfl⟩
         subst hw2
         have hX2b := hX2a
         refine sx_ ?_
         refine tks [26, 27] 268435455 0 ?_
         refine kd_ hX2b fun w3a hx3a hX3a => ?_
         have hb2 : Hid ((b ++ fx).data.toList = outW (HF.take (m + 1))) := by
          show _ = _
          rw [data_append, hb.out, hsn.out, hfd.out]
         have hbs2 : (b ++ fx).size ≤ 4 * (m + 1) := by rw [ByteArray.size_append]; omega
         clear c0 l0
         go_wp2
         go_roundw
         case rel => exact ⟨m + 1, _, by omega, by go_num, rfl, hb2, hbs2, hy.trans hX3a⟩
         case measure => simp [intOf]; omega
        ·have hlt' : ¬ ((m : Int) < 8) := by omega
         go_wp2
         go_ret
         refine ⟨?_, hw3.trans hy⟩
         rw [hsha.out]
         refine congrArg (fun x => Ending.returned (Value.string x)) (mk_bytes ?_)
         rw [hb.out, List.take_of_length_le (by omega)]
end Go.Proofs.YtefjdmjkofaajaaGreatDoor
