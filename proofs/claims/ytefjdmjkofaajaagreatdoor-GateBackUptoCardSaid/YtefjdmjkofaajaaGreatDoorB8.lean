/- Texts one behind the other: Chapter 6 in plain terms: the sum. No program in sight; Chapter 6: the walk of Sum; Chapter 7: the walks of mixed, Sign; Chapter 7: caveats; the walks of slices.Grow, slices.Concat at caveats (two slices); Chapter 7: the walks of a caveat's put, known, of a token's fits, of Allows. -/
import Derived.Test.YtefjdmjkofaajaaGreatDoorB9
import Derived.Test.YtefjdmjkofaajaaGreatDoorB7
import Derived.Test.YtefjdmjkofaajaaGreatDoorB11
import Derived.Laws.BitsAllLaws
import Derived.Deep.Cut
import Derived.Test.YtefjdmjkofaajaaGreatDoorB6
namespace Go.Dm
open Go Go.RowKit

/-- The words behind the first `k` blocks. -/
def hashW (P : Bs) : Nat → List Int
 | 0 => startW
 | k + 1 => blockW (hashW P k) (ofB (blk (P.drop (64 * k))))
theorem hashW_len (P : Bs) (k : Nat) : (hashW P k).length = 8 := by
 induction k with
 | zero => rfl
 | succ k ih => exact blockW_len ih
def byteW (z : Int) : UInt8 := UInt8.ofNat (z % 256).toNat
theorem byteW_eq (z : Int) : ((byteW z).toNat : Int) = z % 256 := by
 unfold byteW
 rw [u8_ofNat (by omega)]
 omega
def fourW (x : Int) : Bs := [byteW (x / 16777216), byteW (x / 65536), byteW (x / 256), byteW x]
def outW (h : List Int) : Bs := h.flatMap fourW
/-- P6.1. -/
def shaB (s : Bs) : Bs := outW (hashW (padB s) ((padB s).length / 64))
theorem outW_len (h : List Int) : (outW h).length = 4 * h.length := by
 induction h with
 | nil => rfl
 | cons x r ih => simp [outW, fourW] at *; omega
theorem shaB_len (s : Bs) : (shaB s).length = 32 := by unfold shaB; rw [outW_len, hashW_len]
theorem outW_snoc {h : List Int} {k : Nat} (hk : k < h.length) : outW (h.take (k + 1)) = outW (h.take k) ++ fourW (at0 h k) := by
 unfold outW at0
 rw [List.take_add_one, List.getElem?_eq_getElem hk, List.flatMap_append, List.getD_eq_getElem?_getD, List.getElem?_eq_getElem hk]
 simp
end Go.Dm

namespace Go.Proofs.YtefjdmjkofaajaaGreatDoor
open Go.RowKit Go.Dm

set_option maxHeartbeats 1000000 in
set_option maxRecDepth 100000 in
theorem sha_w (s : ByteArray) (hs : s.size ≤ 281474976710656) (w : World) (hv : ShaV w) :
  Calls Tryz.prog 71 #[.string s] w fun e w' => e = .returned (.string ⟨(shaB s.data.toList).toArray⟩) ∧ Ext w w' := by
 have CP := padded_w s hs w
 obtain ⟨n, hn, hn1⟩ := padB_len s.data.toList
 have hsha : shaB s.data.toList = outW (hashW (padB s.data.toList) n) := by unfold shaB; rw [hn, Nat.mul_div_cancel_left _ (by omega)]
 have hnb : n ≤ 4398046511200 := by
  have h : (padB s.data.toList).length = s.data.toList.length + 1 + (119 - s.data.toList.length % 64) % 64 + 8 := by simp [padB, be8]; omega
  have : s.data.toList.length = s.size := rfl
  omega
 obtain ⟨sv, hsv⟩ : ∃ sv : Nat → Int, sv = at0 startW := ⟨_, rfl⟩
 have s0 := hv.start (k := 0) (by omega)
 have s1 := hv.start (k := 1) (by omega)
 have s2 := hv.start (k := 2) (by omega)
 have s3 := hv.start (k := 3) (by omega)
 have s4 := hv.start (k := 4) (by omega)
 have s5 := hv.start (k := 5) (by omega)
 have s6 := hv.start (k := 6) (by omega)
 have s7 := hv.start (k := 7) (by omega)
 have sl := hv.slt
 rw [← hsv] at s0 s1 s2 s3 s4 s5 s6 s7
 replace hsv := Lib.hid hsv
 replace hsha := Lib.hid hsha
 replace hn := Lib.hid hn
 replace CP := Lib.hid (fun U (h : Ext w U) => padded_w s hs U)
 go_enter Tryz.func71, Tryz.ntmps71
 go_upto_region 2 with fail
 clear s0 s1 s2 s3 s4 s5 s6 s7 sl
 have hsl : ([sv 0, sv 1, sv 2, sv 3, sv 4, sv 5, sv 6, sv 7] : List Int) = startW := by rw [hsv.out]; rfl
 have hH : AB w.heap.size 173 .u32 startW (w.alloc (.cells #[.int .u32 (sv 0), .int .u32 (sv 1), .int .u32 (sv 2), .int .u32 (sv 3), .int .u32 (sv 4), .int .u32 (sv 5), .int .u32 (sv 6), .int .u32 (sv 7)] 173)) := hsl ▸ AB.new w 173 .u32 [sv 0, sv 1, sv 2, sv 3, sv 4, sv 5, sv 6, sv 7]
 have hE : Ext w (w.alloc (.cells #[.int .u32 (sv 0), .int .u32 (sv 1), .int .u32 (sv 2), .int .u32 (sv 3), .int .u32 (sv 4), .int .u32 (sv 5), .int .u32 (sv 6), .int .u32 (sv 7)] 173)) := (Ext.refl _).alloc _
 generalize w.alloc (.cells #[.int .u32 (sv 0), .int .u32 (sv 1), .int .u32 (sv 2), .int .u32 (sv 3), .int .u32 (sv 4), .int .u32 (sv 5), .int .u32 (sv 6), .int .u32 (sv 7)] 173) = w1 at *
 obtain ⟨bH, hbH⟩ : ∃ x, x = w.heap.size := ⟨_, rfl⟩
 have hwH : w.heap.size ≤ bH := by omega
 rw [← hbH] at hH
 rw [← hbH]
 clear hsl hsv hbH
 go_wp2_with fail
 refine (CP.out _ hE).mono ?_; rintro e w2 ⟨rfl, h2⟩
 replace hE := hE.trans h2
 replace hH := hH.ext h2
 clear h2 CP
 generalize padB s.data.toList = PB at *
 obtain ⟨t0, ht0⟩ : ∃ t : ByteArray, t = ⟨PB.toArray⟩ := ⟨_, rfl⟩
 rw [← ht0]
 replace ht0 := Lib.hid ht0
 go_wp2
 go_loopw [4] (fun t wr => ∃ (k : Nat) (b : ByteArray), k ≤ n ∧ t = .string b ∧ Hid (b.data.toList = PB.drop (64 * k)) ∧ Ext w wr ∧ AB bH 173 .u32 (hashW PB k) wr) (fun t _ => match t with | .string b => b.size | _ => 0)
 case atStart => exact ⟨0, t0, by omega, rfl, by rw [ht0.out]; rfl, hE, hH⟩
 case round =>
  obtain ⟨k, b, hk, rfl, hb, h1, h2⟩ := hrel
  have hbs : b.size = 64 * n - 64 * k := by
   have : b.data.toList.length = b.size := rfl
   rw [← this, hb.out, List.length_drop, hn.out]
  by_cases hlt : k < n
  ·have hb64 : 64 ≤ b.size := by omega
   have hnx : Hid (((b.extract 64 b.size).data.toList) = PB.drop (64 * (k + 1))) := by
    show _ = _
    rw [Lib.extract_data, hb.out, List.take_of_length_le (by rw [List.length_drop, List.length_drop, hn.out]; omega), List.drop_drop]
    congr 1
   have hst : hashW PB (k + 1) = blockW (hashW PB k) (ofB (blk b.data.toList)) := by rw [hb.out]; rfl
   have hl8 := hashW_len PB k
   have hbl := blk_len b.data.toList
   have hrg := ofB_range (blk b.data.toList)
   have hl8' := hashW_len PB (k + 1)
   obtain ⟨HN, hHN⟩ : ∃ x, x = hashW PB (k + 1) := ⟨_, rfl⟩
   rw [← hHN] at hst hl8'
   replace hHN := Lib.hid hHN
   generalize hashW PB k = HK at *
   have CB := fun U (h : ShaV U) => block_w HK (ofB (blk b.data.toList)) hl8 (by simp [ofB, hbl]) hrg U h
   rw [← hst] at CB
   have hN : AB wr.heap.size 174 .u8 (List.replicate 64 0) (wr.alloc (.cells #[.int .u8 0, .int .u8 0, .int .u8 0, .int .u8 0, .int .u8 0, .int .u8 0, .int .u8 0, .int .u8 0, .int .u8 0, .int .u8 0, .int .u8 0, .int .u8 0, .int .u8 0, .int .u8 0, .int .u8 0, .int .u8 0, .int .u8 0, .int .u8 0, .int .u8 0, .int .u8 0, .int .u8 0, .int .u8 0, .int .u8 0, .int .u8 0, .int .u8 0, .int .u8 0, .int .u8 0, .int .u8 0, .int .u8 0, .int .u8 0, .int .u8 0, .int .u8 0, .int .u8 0, .int .u8 0, .int .u8 0, .int .u8 0, .int .u8 0, .int .u8 0, .int .u8 0, .int .u8 0, .int .u8 0, .int .u8 0, .int .u8 0, .int .u8 0, .int .u8 0, .int .u8 0, .int .u8 0, .int .u8 0, .int .u8 0, .int .u8 0, .int .u8 0, .int .u8 0, .int .u8 0, .int .u8 0, .int .u8 0, .int .u8 0, .int .u8 0, .int .u8 0, .int .u8 0, .int .u8 0, .int .u8 0, .int .u8 0, .int .u8 0, .int .u8 0] 174)) := AB.new wr 174 .u8 (List.replicate 64 0)
   have e3 : Ext wr (wr.alloc (.cells #[.int .u8 0, .int .u8 0, .int .u8 0, .int .u8 0, .int .u8 0, .int .u8 0, .int .u8 0, .int .u8 0, .int .u8 0, .int .u8 0, .int .u8 0, .int .u8 0, .int .u8 0, .int .u8 0, .int .u8 0, .int .u8 0, .int .u8 0, .int .u8 0, .int .u8 0, .int .u8 0, .int .u8 0, .int .u8 0, .int .u8 0, .int .u8 0, .int .u8 0, .int .u8 0, .int .u8 0, .int .u8 0, .int .u8 0, .int .u8 0, .int .u8 0, .int .u8 0, .int .u8 0, .int .u8 0, .int .u8 0, .int .u8 0, .int .u8 0, .int .u8 0, .int .u8 0, .int .u8 0, .int .u8 0, .int .u8 0, .int .u8 0, .int .u8 0, .int .u8 0, .int .u8 0, .int .u8 0, .int .u8 0, .int .u8 0, .int .u8 0, .int .u8 0, .int .u8 0, .int .u8 0, .int .u8 0, .int .u8 0, .int .u8 0, .int .u8 0, .int .u8 0, .int .u8 0, .int .u8 0, .int .u8 0, .int .u8 0, .int .u8 0, .int .u8 0] 174)) := (Ext.refl _).alloc _
   have h4 := h2.ext e3
   have hE4 := h1.trans e3
   generalize hW3 : wr.alloc (.cells #[.int .u8 0, .int .u8 0, .int .u8 0, .int .u8 0, .int .u8 0, .int .u8 0, .int .u8 0, .int .u8 0, .int .u8 0, .int .u8 0, .int .u8 0, .int .u8 0, .int .u8 0, .int .u8 0, .int .u8 0, .int .u8 0, .int .u8 0, .int .u8 0, .int .u8 0, .int .u8 0, .int .u8 0, .int .u8 0, .int .u8 0, .int .u8 0, .int .u8 0, .int .u8 0, .int .u8 0, .int .u8 0, .int .u8 0, .int .u8 0, .int .u8 0, .int .u8 0, .int .u8 0, .int .u8 0, .int .u8 0, .int .u8 0, .int .u8 0, .int .u8 0, .int .u8 0, .int .u8 0, .int .u8 0, .int .u8 0, .int .u8 0, .int .u8 0, .int .u8 0, .int .u8 0, .int .u8 0, .int .u8 0, .int .u8 0, .int .u8 0, .int .u8 0, .int .u8 0, .int .u8 0, .int .u8 0, .int .u8 0, .int .u8 0, .int .u8 0, .int .u8 0, .int .u8 0, .int .u8 0, .int .u8 0, .int .u8 0, .int .u8 0, .int .u8 0] 174) = w3 at *
   have hbn : bH < wr.heap.size := h2.lt
   obtain ⟨bN, hbN⟩ : ∃ x, x = wr.heap.size := ⟨_, rfl⟩
   rw [← hbN] at hN hbn
   replace hbN := hbN.symm
   have k1 := hN.setRow (ofB (blk b.data.toList))
   have k2 := h4.farRow (c := bN) (by omega) (cellsI .u8 (ofB (blk b.data.toList)))
   have k3 : Ext w (w3.setRow bN (cellsI .u8 (ofB (blk b.data.toList)))) := Ext.setRow hE4 (by omega) _
   have sB : (cellsI .u8 (ofB (blk b.data.toList))).size = 64 := by rw [size_cellsI]; simp [ofB, hbl]
   have sH : (cellsI .u32 HK).size = 8 := by rw [size_cellsI]; exact hl8
   have sN : (cellsI .u32 HN).size = 8 := by rw [size_cellsI]; exact hl8'
   replace CB := Lib.hid CB
   clear hrg hst
   replace hbs := Lib.hid hbs
   have hne : b.toList.isEmpty = false := by
    rw [ByteArray.toList_eq, List.isEmpty_eq_false_iff]
    intro h
    have : b.data.toList.length = b.size := rfl
    rw [h] at this
    simp at this
    omega
   go_wp2_with (first | (refine wpList_copy_blk rfl _ _ Tryz.underlying70 (by kernel_rfl) rfl rfl rfl hN ?_) | (refine wpList_load_row rfl 173 _ rfl bH rfl _ _ _ _ k2 Tryz.underlying173 rfl (by rw [sH]; kernel_rfl) ?_) | (refine wpList_load_row rfl 174 _ rfl bN rfl _ _ _ _ k1 Tryz.underlying174 rfl (by rw [sB]; kernel_rfl) ?_))
   clear hW3 hbN k1 hN e3 h4 sB
   replace k2 := k2
   generalize w3.setRow bN (cellsI .u8 (ofB (blk b.data.toList))) = w4 at *
   refine (CB.out _ (hv.ext k3)).mono ?_; rintro e w5 ⟨rfl, h5⟩
   replace k2 := k2.ext h5
   replace k3 := k3.trans h5
   clear h5 CB h1 h2
   have k4 := k2.setRow HN
   have k5 : Ext w (w5.setRow bH (cellsI .u32 HN)) := Ext.setRow k3 hwH _
   go_wp2_with (refine wpList_store_row rfl 173 _ _ rfl bH _ rfl rfl _ _ k2 (by rw [sN]; kernel_rfl) (by rw [sH, sN]) (one_cellsI _ _) ?_)
   go_roundw
   case rel => exact ⟨k + 1, b.extract 64 b.size, by omega, rfl, hnx, k5, by rw [← hHN.out]; exact k4⟩
   case measure => simp [ByteArray.size_extract]; omega
  ·obtain rfl : k = n := by omega
   have h0 : b.size = 0 := by omega
   have hne : b.toList.isEmpty = true := by
    rw [ByteArray.toList_eq, List.isEmpty_iff]
    have : b.data.toList.length = b.size := rfl
    exact List.eq_nil_of_length_eq_zero (by omega)
   have hl8 := hashW_len PB k
   have sH : (cellsI .u32 (hashW PB k)).size = 8 := by rw [size_cellsI]; exact hl8
   have hsh := hsha.out
   generalize hashW PB k = HF at *
   replace hsh := Lib.hid hsh
   clear hsha
   obtain ⟨wf, rfl⟩ : ∃ x, x = wr := ⟨_, rfl⟩
   go_wp2_with (refine wpList_load_row rfl 173 _ rfl bH rfl _ _ _ _ h2 Tryz.underlying173 rfl (by rw [sH]; kernel_rfl) ?_)
   go_loopw [6, 23] (fun v j wr => ∃ m : Nat, m ≤ 8 ∧ j = .int .i64 m ∧ Ext w wr ∧ wr.ownsRow w.heap.size 5 1 v (4 * m) (bCells (outW (HF.take m)))) (fun _ j _ => 8 - (intOf j).toNat)
   case atStart => exact ⟨0, by omega, rfl, h1, by rw [List.take_zero]; exact World.ownsRow_nil _ _ _ _⟩
   case round =>
    obtain ⟨m, hm, rfl, g1, g2⟩ := hrel
    by_cases hlt2 : m < 8
    ·have hidx := fun U => run_index_cells (P := Tryz.prog) (k := .u32) (l := HF) (i := m) Tryz.underlying173 Tryz.underlying172 (by kernel_rfl) (by omega) (by omega) U
     change ∀ U, _ = Result.ok (Value.int .u32 (at0 HF m)) U at hidx
     have hsn := outW_snoc (h := HF) (k := m) (by omega)
     have hfx : bCells (fourW (at0 HF m)) = [.int .u8 (at0 HF m / 16777216 % 256), .int .u8 (at0 HF m / 65536 % 256), .int .u8 (at0 HF m / 256 % 256), .int .u8 (at0 HF m % 256)] := by
      simp [bCells, fourW, byteW_eq]
     generalize at0 HF m = x at *
     have hl4 := Sl.lit wr 5 1 4 #[.int .u8 (x / 16777216 % 256), .int .u8 (x / 65536 % 256), .int .u8 (x / 256 % 256), .int .u8 (x % 256)] rfl (by simp [maxLen])
     have hone : ∀ u ∈ [Value.int .u8 (x / 16777216 % 256), .int .u8 (x / 65536 % 256), .int .u8 (x / 256 % 256), .int .u8 (x % 256)], u.oneCell' = true := by rw [← hfx]; exact bCells_one _
     have ee := (Ext.refl wr).alloc (.cells #[.int .u8 (x / 16777216 % 256), .int .u8 (x / 65536 % 256), .int .u8 (x / 256 % 256), .int .u8 (x % 256)] 5)
     have ho4 := Ext.row g2 ee
     have hb4 := g1.trans ee
     clear g2 ee
     replace hsn := Lib.hid hsn
     replace hfx := Lib.hid hfx
     replace hone := Lib.hid hone
     go_wp2_with (at_builtin; refine wpList_appE rfl _ _ Tryz.slByte rfl hb4 rfl ho4 rfl hl4 hone.out (by omega) ?_; intro v5 w5 ho5 hb5 _)
     go_roundw
     case rel =>
      refine ⟨m + 1, by omega, by go_num, hb5, ?_⟩
      rw [hsn.out, bCells_app, hfx.out]
      exact ho5
     case measure => simp [intOf]; omega
    ·obtain rfl : m = 8 := by omega
     have hcv := run_string_row (l := outW HF) (dst := 9) Tryz.underlying70 Tryz.underlying5 Tryz.underlying9 (by rw [List.take_of_length_le (by omega)] at g2; exact g2) (by rw [outW_len, hl8]) (by
      intro h
      have := outW_len HF
      rw [h, hl8] at this
      simp at this)
     have hge : ¬ (((8 : Nat) : Int) < 8) := by omega
     go_wp2
     go_ret
     exact ⟨by rw [hsh.out]; rfl, g1⟩
end Go.Proofs.YtefjdmjkofaajaaGreatDoor

namespace Go.Dm
open Go Go.RowKit
/-- A key, each byte of it turned. -/
def mixB (key : Bs) (x : UInt8) : Bs := (blk key).map fun b => b ^^^ x
def mixP (B : Bs) (x : UInt8) (k : Nat) : Bs := (B.take k).map (fun b => b ^^^ x) ++ B.drop k
theorem xor8 (a b : UInt8) : Go.bits .xor .u8 (a.toNat : Int) (b.toNat : Int) = ((a ^^^ b).toNat : Int) := by
 rw [Go.u8_xor_nat _ _ a.toNat_lt b.toNat_lt, UInt8.toNat_xor]
theorem mixP_zero (B : Bs) (x : UInt8) : mixP B x 0 = B := by simp [mixP]
theorem mixP_len {B : Bs} {x : UInt8} (h : B.length = 64) (k : Nat) : (mixP B x k).length = 64 := by simp [mixP, h]; omega
theorem mixP_all {B : Bs} {x : UInt8} (h : B.length = 64) : mixP B x 64 = B.map (fun b => b ^^^ x) := by
 unfold mixP
 rw [List.take_of_length_le (by omega), List.drop_of_length_le (by omega), List.append_nil]
theorem mixP_at {B : Bs} {x : UInt8} (h : B.length = 64) {k : Nat} (hk : k < 64) : (ofB (mixP B x k)).getD k 0 = ((B.getD k 0).toNat : Int) := by
 have hl : ((B.take k).map (fun b => b ^^^ x)).length = k := by simp; omega
 unfold ofB mixP
 rw [List.getD_eq_getElem?_getD, List.getElem?_map, List.getElem?_append_right (by omega), hl, Nat.sub_self, List.getElem?_drop, Nat.add_zero, List.getD_eq_getElem?_getD]
 rw [List.getElem?_eq_getElem (by omega)]
 rfl
theorem mixP_set {B : Bs} {x : UInt8} (h : B.length = 64) {k : Nat} (hk : k < 64) : (ofB (mixP B x k)).set k (((B.getD k 0) ^^^ x).toNat : Int) = ofB (mixP B x (k + 1)) := by
 have hl : ((B.take k).map (fun b => b ^^^ x)).length = k := by simp; omega
 have hk2 : k < B.length := by omega
 unfold ofB
 rw [← List.map_set]
 congr 1
 unfold mixP
 rw [List.set_append_right _ _ (by omega), hl, Nat.sub_self, List.drop_eq_getElem_cons hk2, List.set_cons_zero, List.take_add_one, List.getElem?_eq_getElem hk2, List.getD_eq_getElem?_getD, List.getElem?_eq_getElem hk2]
 simp only [Option.toList, Option.getD_some, List.map_append, List.map_cons, List.map_nil, List.append_assoc, List.cons_append, List.nil_append]
/-- P7.1. -/
def keyB (k : Bs) : Bs := if 64 < k.length then shaB k else k
def signB (k s : Bs) : Bs := shaB (mixB (keyB k) 92 ++ shaB (mixB (keyB k) 54 ++ s))
theorem signB_len (k s : Bs) : (signB k s).length = 32 := shaB_len _
end Go.Dm
namespace Go.Proofs.YtefjdmjkofaajaaGreatDoor
open Go.RowKit Go.Dm

set_option maxHeartbeats 1000000 in
set_option maxRecDepth 100000 in
theorem mixed_w (key : ByteArray) (by_ : UInt8) (w : World) :
  Calls Tryz.prog 72 #[.string key, .int .u8 (by_.toNat : Int)] w fun e w' => e = .returned (.string ⟨(mixB key.data.toList by_).toArray⟩) ∧ Ext w w' := by
 have hA : AB w.heap.size 174 .u8 (List.replicate 64 0) (w.alloc (.cells #[.int .u8 0, .int .u8 0, .int .u8 0, .int .u8 0, .int .u8 0, .int .u8 0, .int .u8 0, .int .u8 0, .int .u8 0, .int .u8 0, .int .u8 0, .int .u8 0, .int .u8 0, .int .u8 0, .int .u8 0, .int .u8 0, .int .u8 0, .int .u8 0, .int .u8 0, .int .u8 0, .int .u8 0, .int .u8 0, .int .u8 0, .int .u8 0, .int .u8 0, .int .u8 0, .int .u8 0, .int .u8 0, .int .u8 0, .int .u8 0, .int .u8 0, .int .u8 0, .int .u8 0, .int .u8 0, .int .u8 0, .int .u8 0, .int .u8 0, .int .u8 0, .int .u8 0, .int .u8 0, .int .u8 0, .int .u8 0, .int .u8 0, .int .u8 0, .int .u8 0, .int .u8 0, .int .u8 0, .int .u8 0, .int .u8 0, .int .u8 0, .int .u8 0, .int .u8 0, .int .u8 0, .int .u8 0, .int .u8 0, .int .u8 0, .int .u8 0, .int .u8 0, .int .u8 0, .int .u8 0, .int .u8 0, .int .u8 0, .int .u8 0, .int .u8 0] 174)) := AB.new w 174 .u8 (List.replicate 64 0)
 have hE : Ext w (w.alloc (.cells #[.int .u8 0, .int .u8 0, .int .u8 0, .int .u8 0, .int .u8 0, .int .u8 0, .int .u8 0, .int .u8 0, .int .u8 0, .int .u8 0, .int .u8 0, .int .u8 0, .int .u8 0, .int .u8 0, .int .u8 0, .int .u8 0, .int .u8 0, .int .u8 0, .int .u8 0, .int .u8 0, .int .u8 0, .int .u8 0, .int .u8 0, .int .u8 0, .int .u8 0, .int .u8 0, .int .u8 0, .int .u8 0, .int .u8 0, .int .u8 0, .int .u8 0, .int .u8 0, .int .u8 0, .int .u8 0, .int .u8 0, .int .u8 0, .int .u8 0, .int .u8 0, .int .u8 0, .int .u8 0, .int .u8 0, .int .u8 0, .int .u8 0, .int .u8 0, .int .u8 0, .int .u8 0, .int .u8 0, .int .u8 0, .int .u8 0, .int .u8 0, .int .u8 0, .int .u8 0, .int .u8 0, .int .u8 0, .int .u8 0, .int .u8 0, .int .u8 0, .int .u8 0, .int .u8 0, .int .u8 0, .int .u8 0, .int .u8 0, .int .u8 0, .int .u8 0] 174)) := (Ext.refl _).alloc _
 generalize hW1 : w.alloc (.cells #[.int .u8 0, .int .u8 0, .int .u8 0, .int .u8 0, .int .u8 0, .int .u8 0, .int .u8 0, .int .u8 0, .int .u8 0, .int .u8 0, .int .u8 0, .int .u8 0, .int .u8 0, .int .u8 0, .int .u8 0, .int .u8 0, .int .u8 0, .int .u8 0, .int .u8 0, .int .u8 0, .int .u8 0, .int .u8 0, .int .u8 0, .int .u8 0, .int .u8 0, .int .u8 0, .int .u8 0, .int .u8 0, .int .u8 0, .int .u8 0, .int .u8 0, .int .u8 0, .int .u8 0, .int .u8 0, .int .u8 0, .int .u8 0, .int .u8 0, .int .u8 0, .int .u8 0, .int .u8 0, .int .u8 0, .int .u8 0, .int .u8 0, .int .u8 0, .int .u8 0, .int .u8 0, .int .u8 0, .int .u8 0, .int .u8 0, .int .u8 0, .int .u8 0, .int .u8 0, .int .u8 0, .int .u8 0, .int .u8 0, .int .u8 0, .int .u8 0, .int .u8 0, .int .u8 0, .int .u8 0, .int .u8 0, .int .u8 0, .int .u8 0, .int .u8 0] 174) = w1 at *
 obtain ⟨bA, hbA⟩ : ∃ x, x = w.heap.size := ⟨_, rfl⟩
 have hwA : w.heap.size ≤ bA := by omega
 rw [← hbA] at hA
 replace hbA := hbA.symm
 have h2 := hA.setRow (ofB (blk key.data.toList))
 have hE2 : Ext w (w1.setRow bA (cellsI .u8 (ofB (blk key.data.toList)))) := Ext.setRow hE hwA _
 go_enter Tryz.func72, Tryz.ntmps72
 go_wp2_with (refine wpList_copy_blk rfl _ _ Tryz.underlying70 (by kernel_rfl) rfl rfl rfl hA ?_)
 clear hW1 hbA hA hE
 generalize w1.setRow bA (cellsI .u8 (ofB (blk key.data.toList))) = w2 at *
 have hbl := blk_len key.data.toList
 have hmx : mixB key.data.toList by_ = (blk key.data.toList).map (fun b => b ^^^ by_) := rfl
 generalize blk key.data.toList = B at *
 go_loopw [10] (fun i wr => ∃ k : Nat, k ≤ 64 ∧ i = .int .i64 k ∧ Ext w wr ∧ AB bA 174 .u8 (ofB (mixP B by_ k)) wr) (fun i _ => 64 - (intOf i).toNat)
 case atStart => exact ⟨0, by omega, rfl, hE2, by rw [mixP_zero]; exact h2⟩
 case round =>
  obtain ⟨k, hk, rfl, h1, h3⟩ := hrel
  by_cases hlt : k < 64
  ·have hst := mixP_set (x := by_) hbl hlt
   have hln := mixP_len (x := by_) hbl k
   have hcl : k < (ofB (mixP B by_ k)).length := by simp [ofB, hln, hlt]
   have cA : wr.cell? ⟨bA, k, none⟩ = some (.int .u8 ((B.getD k 0).toNat : Int)) := by
    have := h3.cell hcl
    rw [mixP_at hbl hlt] at this
    exact this
   have fA := h3.free k
   have lA := h3.lt
   have hxr := xor8 (B.getD k 0) by_
   generalize B.getD k 0 = b at *
   clear hbl hln
   go_upto_region 6 with fail
   go_wp2
   go_roundw
   case rel => exact ⟨k + 1, by omega, by go_num, Below.setCell h1 (by show _ ≤ bA; omega) _, hst ▸ h3.set k _⟩
   case measure => simp [intOf]; omega
  ·have hge : ¬ ((k : Int) < 64) := by omega
   have h3 : AB bA 174 .u8 (ofB (mixB key.data.toList by_)) wr := by
    have e : k = 64 := by omega
    rw [e, mixP_all hbl, ← hmx] at h3
    exact h3
   have hml : (mixB key.data.toList by_).length = 64 := by rw [hmx]; simp [hbl]
   obtain ⟨M, hM⟩ : ∃ M, M = mixB key.data.toList by_ := ⟨_, rfl⟩
   rw [← hM] at h3 hml
   replace hM := Lib.hid hM
   clear hmx
   have hSl : Sl wr 1 (.slice (some ⟨bA, 0, none⟩) 64 64) 64 (bCells M) := by
    have hv : bCells M = (cellsI .u8 (ofB M)).toList := (cells_ofB M).symm
    exact Sl.of_block (vs := bCells M) (n := 64) (sz := 1) (e := 174) (by rw [hv]; exact h3) (by rw [bCells_len, hml]) (by simp [maxLen])
   have cv := run_string_sl (P := Tryz.prog) (dst := 9) Tryz.underlying70 Tryz.underlying5 Tryz.underlying9 hSl (show 64 = M.length from hml.symm) (by intro h; rw [h] at hml; simp at hml)
   go_wp2
   go_ret
   exact ⟨by rw [← hM.out]; rfl, h1⟩
theorem sign_w (key s : ByteArray) (hk : key.size ≤ 281474976710656) (hs : s.size ≤ 140737488355328) (w : World) (hv : ShaV w) :
  Calls Tryz.prog 30 #[.string key, .string s] w fun e w' => e = .returned (.string ⟨(signB key.data.toList s.data.toList).toArray⟩) ∧ Ext w w' := by
 have fin : ∀ (k2 : ByteArray), k2.data.toList = keyB key.data.toList → (⟨(mixB k2.data.toList 92).toArray⟩ : ByteArray).size = 64 ∧ (⟨(mixB k2.data.toList 54).toArray⟩ : ByteArray).size = 64 ∧ signB key.data.toList s.data.toList = shaB ((⟨(mixB k2.data.toList 92).toArray⟩ : ByteArray) ++ ⟨(shaB ((⟨(mixB k2.data.toList 54).toArray⟩ : ByteArray) ++ s).data.toList).toArray⟩).data.toList := fun k2 h => by
  refine ⟨?_, ?_, ?_⟩
  ·show (mixB k2.data.toList 92).toArray.size = 64
   simp [mixB, blk_len]
  ·show (mixB k2.data.toList 54).toArray.size = 64
   simp [mixB, blk_len]
  ·rw [data_append, data_append, h]; rfl
 have C1 := fun k2 U => mixed_w k2 92 U
 have C2 := fun k2 U => mixed_w k2 54 U
 have CS := fun t (ht : t.size ≤ 281474976710656) U (h : Ext w U) => sha_w t ht U (hv.ext h)
 replace C1 := Lib.hid C1
 replace C2 := Lib.hid C2
 replace CS := Lib.hid CS
 replace fin := Lib.hid fin
 by_cases hgt : 64 < key.size
 ·have hi : (64 : Int) < (key.size : Int) := by omega
  have CS1 := CS.out key hk
  obtain ⟨k2, hk2⟩ : ∃ k2 : ByteArray, k2 = ⟨(shaB key.data.toList).toArray⟩ := ⟨_, rfl⟩
  have hkb : k2.data.toList = keyB key.data.toList := by
   unfold keyB
   rw [if_pos (by exact hgt), hk2]
  rw [← hk2] at CS1
  clear hk2
  replace CS1 := Lib.hid CS1
  go_enter Tryz.func30, Tryz.ntmps30
  go_wp2_with fail
  refine (CS1.out _ (Ext.refl _)).mono ?_; rintro e w1 ⟨rfl, hE⟩
  obtain ⟨m1, m2, hsg⟩ := fin.out k2 hkb
  replace hsg := Lib.hid hsg
  clear fin hkb
  go_wp2_with fail
  refine (C1.out k2 _).mono ?_; rintro e w2 ⟨rfl, h2⟩
  replace hE := hE.trans h2
  go_wp2_with fail
  refine (C2.out k2 _).mono ?_; rintro e w3 ⟨rfl, h3⟩
  replace hE := hE.trans h3
  generalize (⟨(mixB k2.data.toList 92).toArray⟩ : ByteArray) = A1 at *
  generalize (⟨(mixB k2.data.toList 54).toArray⟩ : ByteArray) = A2 at *
  go_wp2_with fail
  refine (CS.out (A2 ++ s) (by rw [ByteArray.size_append]; omega) _ hE).mono ?_; rintro e w4 ⟨rfl, h4⟩
  replace hE := hE.trans h4
  have l4 : (⟨(shaB (A2 ++ s).data.toList).toArray⟩ : ByteArray).size = 32 := shaB_len _
  generalize (⟨(shaB (A2 ++ s).data.toList).toArray⟩ : ByteArray) = A3 at *
  go_wp2_with fail
  refine (CS.out (A1 ++ A3) (by rw [ByteArray.size_append]; omega) _ hE).mono ?_; rintro e w5 ⟨rfl, h5⟩
  replace hE := hE.trans h5
  go_wp2
  go_ret
  exact ⟨by rw [hsg.out]; rfl, hE⟩
 ·have hi : ¬ (64 : Int) < (key.size : Int) := by omega
  have hkb : key.data.toList = keyB key.data.toList := by
   unfold keyB
   rw [if_neg (by exact hgt)]
  have hE := Ext.refl w
  go_enter Tryz.func30, Tryz.ntmps30
  obtain ⟨k2, rfl⟩ : ∃ k2, k2 = key := ⟨_, rfl⟩
  obtain ⟨m1, m2, hsg⟩ := fin.out k2 hkb
  replace hsg := Lib.hid hsg
  clear fin hkb
  go_wp2_with fail
  refine (C1.out k2 _).mono ?_; rintro e w2 ⟨rfl, h2⟩
  replace hE := hE.trans h2
  go_wp2_with fail
  refine (C2.out k2 _).mono ?_; rintro e w3 ⟨rfl, h3⟩
  replace hE := hE.trans h3
  generalize (⟨(mixB k2.data.toList 92).toArray⟩ : ByteArray) = A1 at *
  generalize (⟨(mixB k2.data.toList 54).toArray⟩ : ByteArray) = A2 at *
  go_wp2_with fail
  refine (CS.out (A2 ++ s) (by rw [ByteArray.size_append]; omega) _ hE).mono ?_; rintro e w4 ⟨rfl, h4⟩
  replace hE := hE.trans h4
  have l4 : (⟨(shaB (A2 ++ s).data.toList).toArray⟩ : ByteArray).size = 32 := shaB_len _
  generalize (⟨(shaB (A2 ++ s).data.toList).toArray⟩ : ByteArray) = A3 at *
  go_wp2_with fail
  refine (CS.out (A1 ++ A3) (by rw [ByteArray.size_append]; omega) _ hE).mono ?_; rintro e w5 ⟨rfl, h5⟩
  replace hE := hE.trans h5
  go_wp2
  go_ret
  exact ⟨by rw [hsg.out]; rfl, hE⟩
end Go.Proofs.YtefjdmjkofaajaaGreatDoor

namespace Go.Dm
open Go Go.RowKit
/-- A caveat: its kind, its number. -/
abbrev Cav := Int × Nat
def cavOne (c : Cav) : List Value := [.int .i64 c.1, .int .u64 (c.2 : Nat)]
def cavC (l : List Cav) : List Value := l.flatMap cavOne
theorem cavC_len (l : List Cav) : (cavC l).length = l.length * 2 := by
 induction l with
 | nil => rfl
 | cons c r ih => simp [cavC, cavOne] at *; omega
theorem cavC_app (a b : List Cav) : cavC (a ++ b) = cavC a ++ cavC b := by simp [cavC]
theorem cavC_one (l : List Cav) : ∀ u ∈ cavC l, u.oneCell' = true := by
 intro u hu
 simp only [cavC, List.mem_flatMap, cavOne] at hu
 obtain ⟨c, _, hu⟩ := hu
 simp at hu
 rcases hu with rfl | rfl <;> rfl
/-- A slice that reads as these caveats. -/
def Cavs (w : World) (v : Value) (l : List Cav) : Prop := Sl w 2 v l.length (cavC l)
theorem Cavs.ext {w w' : World} {v : Value} {l : List Cav} (h : Cavs w v l) (hx : Ext w w') : Cavs w' v l := Sl.ext h hx
theorem Cavs.shape {w : World} {v : Value} {l : List Cav} (h : Cavs w v l) : ∃ q cap, v = .slice q l.length cap ∧ l.length ≤ cap ∧ cap ≤ maxLen := by
 obtain ⟨p, cap, h1, h2, h3, _⟩ := Sl.shape h
 exact ⟨p, cap, h1, h2, h3⟩
theorem cav_getD (l : List Cav) (k : Nat) (hk : k < l.length) : (cavC l)[k * 2]? = some (.int .i64 (l.getD k (0, 0)).1) ∧ (cavC l)[k * 2 + 1]? = some (.int .u64 ((l.getD k (0, 0)).2 : Nat)) := by
 induction l generalizing k with
 | nil => simp at hk
 | cons c r ih =>
  cases k with
  | zero => simp [cavC, cavOne]
  | succ k =>
   have := ih k (by simpa using hk)
   have e1 : (k + 1) * 2 = k * 2 + 1 + 1 := by omega
   simp only [cavC, List.flatMap_cons, cavOne, List.cons_append, List.nil_append] at *
   rw [e1]
   simpa using this
theorem Cavs.at {w : World} {q : Option Addr} {cap : Nat} {l : List Cav} {k : Nat} (h : Cavs w (.slice q l.length cap) l) (hk : k < l.length) :
  ∃ b off, q = some ⟨b, off, none⟩ ∧ b < w.heap.size ∧ w.cell? ⟨b, off + k * 2, none⟩ = some (.int .i64 (l.getD k (0, 0)).1) ∧ w.cell? ⟨b, off + k * 2 + 1, none⟩ = some (.int .u64 ((l.getD k (0, 0)).2 : Nat)) := by
 obtain ⟨b, off, hq, hb, hc⟩ := Sl.at h (by omega)
 obtain ⟨h1, h2⟩ := cav_getD l k hk
 exact ⟨b, off, hq, hb, hc _ _ h1, by rw [Nat.add_assoc]; exact hc _ _ h2⟩
end Go.Dm
namespace Go.Proofs.YtefjdmjkofaajaaGreatDoor
open Go.RowKit Go.Dm

theorem Tryz.slCav : SlT Tryz.prog 22 38 2 16 := SlT.mk' Tryz.underlying22 (by kernel_rfl) (by decide) (by decide)

theorem cgrow_w (n : Nat) (w : World) (hn : n ≤ 4398046511104) :
  Calls Tryz.prog 109 #[.slice none 0 0, .int .i64 (n : Nat)] w fun e w' => ∃ r, e = .returned r ∧ w'.ownsRow w.heap.size 38 2 r 0 [] ∧ Ext w w' := by
 by_cases h0 : n = 0
 ·subst h0
  go_enter Tryz.func109, Tryz.ntmps109
  go_wp2
  go_ret
  exact ⟨_, rfl, World.ownsRow_nil _ _ _ _, Ext.refl _⟩
 ·have hi : (0 : Int) < (n : Int) := by omega
  have hi2 : ¬ (n : Int) < 0 := by omega
  go_enter Tryz.func109, Tryz.ntmps109
  go_wp2_with (at_builtin; refine wpList_app_zeros rfl _ _ Tryz.slCav Tryz.underlying3 rfl rfl (Sl.nil _ 2) n n (by omega) rfl (by omega) (by omega) (by omega) ?_; intro c cur h1 h2 h3 h4)
  go_ret
  refine ⟨_, rfl, ⟨rfl, Or.inr ⟨w.heap.size, c, cur, rfl, Nat.le_refl _, ?_, by omega, h2, h3, by simp⟩⟩, (Ext.drew w).alloc _⟩
  exact Array.getElem?_push_size

set_option maxHeartbeats 1000000 in
theorem concat2_w (b : Nat) (v1 v2 : Value) (l1 l2 : List Cav) (w : World) (hb : b < w.heap.size) (c0 : w.cell? ⟨b, 0, none⟩ = some v1) (c1 : w.cell? ⟨b, 1, none⟩ = some v2) (h1 : Cavs w v1 l1) (h2 : Cavs w v2 l2) (hn : l1.length + l2.length ≤ 4398046511104) :
  Calls Tryz.prog 73 #[.slice (some ⟨b, 0, none⟩) 2 2] w fun e w' => ∃ r, e = .returned r ∧ w'.ownsRow w.heap.size 38 2 r (l1.length + l2.length) (cavC (l1 ++ l2)) ∧ Ext w w' := by
 obtain ⟨q1, cap1, rfl, _, _⟩ := h1.shape
 obtain ⟨q2, cap2, rfl, _, _⟩ := h2.shape
 have CG := fun U => cgrow_w (l1.length + l2.length) U hn
 simp only [Int.natCast_add] at CG
 have hneg : ¬ ((l1.length : Int) + (l2.length : Int) < 0) := by omega
 have hneg1 : ¬ ((l1.length : Int) < 0) := by omega
 replace h1 := Lib.hid h1
 replace h2 := Lib.hid h2
 replace CG := Lib.hid CG
 go_enter Tryz.func73, Tryz.ntmps73
 go_wp2
 refine wp_loop_rounds 3 ?_
 rw [rounds_succ]
 go_wp2
 rw [rounds_succ]
 go_wp2
 rw [rounds_succ]
 go_wp2_with fail
 refine (CG.out _).mono ?_; rintro e w1 ⟨r, rfl, ho, hx⟩
 have d0 := (hx.cell (p := ⟨b, 0, none⟩) hb).trans c0
 have d1 := (hx.cell (p := ⟨b, 1, none⟩) hb).trans c1
 have dl := Nat.lt_of_lt_of_le hb hx.size
 have g1 := h1.out.ext hx
 clear CG
 go_wp2
 refine wp_loop_rounds 3 ?_
 rw [rounds_succ]
 go_wp2_with (at_builtin; refine wpList_appE rfl _ _ Tryz.slCav rfl hx rfl ho rfl g1 (cavC_one l1) (by omega) ?_; intro v5 w5 ho5 hb5 _)
 clear d0 d1 dl g1 ho
 have d1 := (hb5.cell (p := ⟨b, 1, none⟩) hb).trans c1
 have dl := Nat.lt_of_lt_of_le hb hb5.size
 have g2 := h2.out.ext hb5
 rw [rounds_succ]
 go_wp2_with (at_builtin; refine wpList_appE rfl _ _ Tryz.slCav rfl hb5 rfl ho5 rfl g2 (cavC_one l2) (by omega) ?_; intro v6 w6 ho6 hb6 _)
 rw [rounds_succ]
 go_wp2
 go_ret
 exact ⟨_, rfl, by rw [cavC_app]; simpa using ho6, hb6⟩
end Go.Proofs.YtefjdmjkofaajaaGreatDoor

namespace Go.Dm
open Go Go.RowKit
theorem all_hit {l : List Cav} {g : Cav → Bool} {k : Nat} (hk : k < l.length) (h : g (l.getD k (0, 0)) = false) : l.all g = false := by
 rw [List.all_eq_false]
 refine ⟨l[k], List.getElem_mem hk, ?_⟩
 rw [List.getD_eq_getElem?_getD, List.getElem?_eq_getElem hk, Option.getD_some] at h
 rw [h]; simp
theorem all_miss {l : List Cav} {g : Cav → Bool} (h : ∀ k, k < l.length → g (l.getD k (0, 0)) = true) : l.all g = true := by
 rw [List.all_eq_true]
 intro c hc
 obtain ⟨k, hk, rfl⟩ := List.getElem_of_mem hc
 have := h k hk
 rwa [List.getD_eq_getElem?_getD, List.getElem?_eq_getElem hk, Option.getD_some] at this
/-- An int as an uint64. -/
def u64of (z : Int) : Nat := (z % 18446744073709551616).toNat
theorem u64of_lt (z : Int) : U64 (u64of z) := by unfold u64of U64; omega
def putC (c : Cav) : Bs := putL (u64of c.1) ++ putL c.2
def knownC (c : Cav) : Bool := decide (c.1 = 1) || decide (c.1 = 2)
def fitsC (l : List Cav) : Bool := decide (l.length ≤ 8) && l.all knownC
/-- What a caveat lets. -/
def letC (right round : Nat) (c : Cav) : Bool := !((decide (c.1 = 1) && decide (Go.bits .andNot .u64 (right : Int) (c.2 : Int) ≠ 0)) || (decide (c.1 = 2) && decide (c.2 < round)))
def allowC (l : List Cav) (right round : Nat) : Bool := l.all (letC right round)
end Go.Dm
namespace Go.Proofs.YtefjdmjkofaajaaGreatDoor
open Go.RowKit Go.Dm

theorem putc_w (c : Cav) (hc : U64 c.2) (w : World) :
  Calls Tryz.prog 64 #[.agg #[.int .i64 c.1, .int .u64 (c.2 : Nat)]] w fun e w' => e = .returned (.string ⟨(putC c).toArray⟩) ∧ Ext w w' := by
 obtain ⟨k, n⟩ := c
 have hc : U64 n := hc
 have h64 : IntKind.u64.wrap k = ((u64of k : Nat) : Int) := by rw [IntKind.wrap_u64]; unfold u64of; omega
 have hA : Ext w (w.alloc (.cells #[.int .i64 k, .int .u64 (n : Nat)] 38)) := (Ext.refl _).alloc _
 have C1 := fun U => put_w (u64of k) U (u64of_lt k)
 have C2 := fun U => put_w n U hc
 have l1 := putL_ten (u64of_lt k)
 have l2 := putL_ten hc
 have hX : Hid ((⟨(putL (u64of k)).toArray⟩ : ByteArray) ++ ⟨(putL n).toArray⟩ = ⟨(putC (k, n)).toArray⟩) := by
  show _ = _
  refine mk_bytes ?_
  rw [data_append]; rfl
 have p1 : (⟨(putL (u64of k)).toArray⟩ : ByteArray).size ≤ 10 := by rw [size_len]; exact l1
 have p2 : (⟨(putL n).toArray⟩ : ByteArray).size ≤ 10 := by rw [size_len]; exact l2
 generalize (⟨(putL (u64of k)).toArray⟩ : ByteArray) = b1 at *
 generalize (⟨(putL n).toArray⟩ : ByteArray) = b2 at *
 generalize (⟨(putC (k, n)).toArray⟩ : ByteArray) = b3 at *
 clear l1 l2
 replace C1 := Lib.hid C1
 replace C2 := Lib.hid C2
 have d0 : (w.alloc (.cells #[.int .i64 k, .int .u64 (n : Nat)] 38)).cell? ⟨w.heap.size, 0, none⟩ = some (.int .i64 k) := by simp
 have d1 : (w.alloc (.cells #[.int .i64 k, .int .u64 (n : Nat)] 38)).cell? ⟨w.heap.size, 1, none⟩ = some (.int .u64 (n : Nat)) := by simp
 have dl : w.heap.size < (w.alloc (.cells #[.int .i64 k, .int .u64 (n : Nat)] 38)).heap.size := by simp
 go_enter Tryz.func64, Tryz.ntmps64
 go_upto_region 1 with fail
 generalize w.alloc (.cells #[.int .i64 k, .int .u64 (n : Nat)] 38) = w1 at *
 generalize w.heap.size = bc at *
 try simp only [Act.put, List.setIfInBounds_toArray, List.set_cons_succ, List.set_cons_zero]
 refine Dm.wp_region_ext 9 (Dm.bits 9 0) (Ext.refl w1) (by kernel_rfl) (by kernel_rfl) (by kernel_rfl) ?_
 refine tks (List.range' 0 9) 511 0 (hq := by intro x; (repeat go_big_quiet_step ((go_at_call 63; with_reducible first | exact Calls.quietE (C1.out _) | exact Calls.quietE (C2.out _)))); exact wpQuiet_nil rfl) ?_
 refine Dm.wpE_done (by kernel_rfl) (Ext.refl w1) (fun w1a hx1a => ?_)
 have hX1a := Ext.trans (Ext.refl w1) hx1a
 go_wp2
 go_ret
 exact ⟨by rw [← hX.out]; rfl, hA.trans hX1a⟩

theorem known_w (c : Cav) (w : World) :
  Calls Tryz.prog 104 #[.agg #[.int .i64 c.1, .int .u64 (c.2 : Nat)]] w fun e w' => e = .returned (.bool (knownC c)) ∧ Ext w w' := by
 obtain ⟨k, n⟩ := c
 have hA : Ext w (w.alloc (.cells #[.int .i64 k, .int .u64 (n : Nat)] 38)) := (Ext.refl _).alloc _
 unfold knownC
 by_cases h1 : k = 1
 ·subst h1
  go_enter Tryz.func104, Tryz.ntmps104
  go_wp2
  go_ret
  exact ⟨by simp, hA⟩
 ·by_cases h2 : k = 2
  ·subst h2
   go_enter Tryz.func104, Tryz.ntmps104
   go_wp2
   go_ret
   exact ⟨by simp, hA⟩
  ·go_enter Tryz.func104, Tryz.ntmps104
   go_wp2
   go_ret
   exact ⟨by simp [h1, h2], hA⟩

theorem fits1_w (c : Cav) (w : World) :
  Calls Tryz.prog 103 #[.agg #[.int .i64 c.1, .int .u64 (c.2 : Nat)]] w fun e w' => e = .returned (.bool (!knownC c)) ∧ Ext w w' := by
 have hA : Ext w (w.alloc (.cells #[.int .i64 c.1, .int .u64 (c.2 : Nat)] 38)) := (Ext.refl _).alloc _
 have C := fun U => known_w c U
 generalize knownC c = d at *
 go_enter Tryz.func103, Tryz.ntmps103
 go_wp2_with fail
 refine (C _).mono ?_; rintro e w1 ⟨rfl, h1⟩
 go_wp2
 go_ret
 exact ⟨rfl, hA.trans h1⟩

set_option maxHeartbeats 1000000 in
theorem allows1_w (c : Cav) (right round : Nat) (b1 b2 : Nat) (w : World) (hc : U64 c.2) (l1 : b1 < w.heap.size) (r1 : w.cell? ⟨b1, 0, none⟩ = some (.int .u64 (right : Nat))) (l2 : b2 < w.heap.size) (r2 : w.cell? ⟨b2, 0, none⟩ = some (.int .u64 (round : Nat))) :
  Calls Tryz.prog 70 #[.agg #[.int .i64 c.1, .int .u64 (c.2 : Nat)], .pointer (some ⟨b1, 0, none⟩), .pointer (some ⟨b2, 0, none⟩)] w fun e w' => e = .returned (.bool (!letC right round c)) ∧ Ext w w' := by
 obtain ⟨k, n⟩ := c
 have hA : Ext w (w.alloc (.cells #[.int .i64 k, .int .u64 (n : Nat)] 38)) := (Ext.refl _).alloc _
 have l1' : b1 < (w.alloc (.cells #[.int .i64 k, .int .u64 (n : Nat)] 38)).heap.size := Nat.lt_of_lt_of_le l1 hA.size
 have l2' : b2 < (w.alloc (.cells #[.int .i64 k, .int .u64 (n : Nat)] 38)).heap.size := Nat.lt_of_lt_of_le l2 hA.size
 have r1' : (w.alloc (.cells #[.int .i64 k, .int .u64 (n : Nat)] 38)).cell? ⟨b1, 0, none⟩ = some (.int .u64 (right : Nat)) := (hA.cell (p := ⟨b1, 0, none⟩) l1).trans r1
 have r2' : (w.alloc (.cells #[.int .i64 k, .int .u64 (n : Nat)] 38)).cell? ⟨b2, 0, none⟩ = some (.int .u64 (round : Nat)) := (hA.cell (p := ⟨b2, 0, none⟩) l2).trans r2
 clear l1 l2 r1 r2
 have d0 : (w.alloc (.cells #[.int .i64 k, .int .u64 (n : Nat)] 38)).cell? ⟨w.heap.size, 0, none⟩ = some (.int .i64 k) := by simp
 have d1 : (w.alloc (.cells #[.int .i64 k, .int .u64 (n : Nat)] 38)).cell? ⟨w.heap.size, 1, none⟩ = some (.int .u64 (n : Nat)) := by simp
 have dl : w.heap.size < (w.alloc (.cells #[.int .i64 k, .int .u64 (n : Nat)] 38)).heap.size := by simp
 unfold letC
 simp only
 generalize hz : Go.bits .andNot .u64 (right : Int) (n : Int) = z at *
 by_cases h1 : k = 1
 ·subst h1
  by_cases h3 : z = 0
  ·subst h3
   go_enter Tryz.func70, Tryz.ntmps70
   go_upto_region 1 with fail
   generalize w.alloc (.cells #[.int .i64 1, .int .u64 (n : Nat)] 38) = w1 at *
   generalize w.heap.size = bc at *
   go_wp2
   go_ret
   exact ⟨by simp, hA⟩
  ·go_enter Tryz.func70, Tryz.ntmps70
   go_upto_region 1 with fail
   generalize w.alloc (.cells #[.int .i64 1, .int .u64 (n : Nat)] 38) = w1 at *
   generalize w.heap.size = bc at *
   go_wp2
   go_ret
   exact ⟨by simp, hA⟩
 ·by_cases h2 : k = 2
  ·subst h2
   by_cases h4 : n < round
   ·have h4i : (n : Int) < (round : Int) := by omega
    go_enter Tryz.func70, Tryz.ntmps70
    go_upto_region 1 with fail
    generalize w.alloc (.cells #[.int .i64 2, .int .u64 (n : Nat)] 38) = w1 at *
    generalize w.heap.size = bc at *
    go_wp2
    go_ret
    exact ⟨by simp, hA⟩
   ·have h4i : ¬ (n : Int) < (round : Int) := by omega
    go_enter Tryz.func70, Tryz.ntmps70
    go_upto_region 1 with fail
    generalize w.alloc (.cells #[.int .i64 2, .int .u64 (n : Nat)] 38) = w1 at *
    generalize w.heap.size = bc at *
    go_wp2
    go_ret
    exact ⟨by simp, hA⟩
  ·go_enter Tryz.func70, Tryz.ntmps70
   go_upto_region 1 with fail
   generalize w.alloc (.cells #[.int .i64 k, .int .u64 (n : Nat)] 38) = w1 at *
   generalize w.heap.size = bc at *
   go_wp2
   go_ret
   exact ⟨by simp [], hA⟩


set_option maxHeartbeats 1000000 in
theorem indexF_w (R : List Cav)  (v : Value) (w : World) (hm : R.length ≤ 35184372088832) (hx : Cavs w v R)  :
  Calls Tryz.prog 106 #[v, .func (.func 103) #[] #[]] w
   fun e w' => ∃ i : Int, e = .returned (.int .i64 i) ∧ decide (0 ≤ i) = !R.all (knownC) ∧ Ext w w' := by
 obtain ⟨q, cap, rfl, _, _⟩ := hx.shape
 have hhit := fun k (hk : k < R.length) h => all_hit (l := R) (g := knownC) hk h
 have hmiss := all_miss (l := R) (g := knownC)
 generalize R.all (knownC) = d at *
 replace hhit := Lib.hid hhit
 replace hmiss := Lib.hid hmiss
 go_enter Tryz.func106, Tryz.ntmps106
 go_wp2
 go_loopw [4, 8] (fun z i wr => ∃ k : Nat, k ≤ R.length ∧ i = .int .i64 k ∧ z = .int .i64 0 ∧ Ext w wr ∧ Hid (∀ j, j < k → (knownC) (R.getD j (0, 0)) = true)) (fun _ i _ => R.length - (intOf i).toNat)
 case atStart => exact ⟨0, by omega, rfl, rfl, Ext.refl w, fun j hj => by omega⟩
 case round =>
  obtain ⟨k, hk, rfl, rfl, hb, HN⟩ := hrel
  by_cases hlt : k < R.length
  ·obtain ⟨b, off, rfl, hbl, c0, c1⟩ := (hx.ext hb).at hlt
   have C := fits1_w (R.getD k (0, 0)) wr
   have hH := hhit.out k hlt
   have hN2 : (knownC) (R.getD k (0, 0)) = true → Hid (∀ j, j < k + 1 → (knownC) (R.getD j (0, 0)) = true) := fun h j hj => by
    rcases Nat.lt_succ_iff_lt_or_eq.1 hj with h' | rfl
    ·exact HN.out j h'
    ·exact h
   obtain ⟨t, ht⟩ : ∃ t, t = (knownC) (R.getD k (0, 0)) := ⟨_, rfl⟩
   rw [← ht] at C hH hN2
   clear ht
   generalize R.getD k (0, 0) = r at *
   obtain ⟨r1, r2⟩ := r
   simp only at c0 c1 C
   cases t with
   | false =>
    have hd := hH rfl
    subst hd
    clear hH hN2
    go_wp2_with fail
    refine C.mono ?_; rintro e w1 ⟨rfl, h1⟩
    go_wp2
    go_ret
    exact ⟨_, rfl, by first | omega | simp, hb.trans h1⟩
   | true =>
    replace hN2 := hN2 rfl
    clear hH
    go_wp2_with fail
    refine C.mono ?_; rintro e w1 ⟨rfl, h1⟩
    go_wp2
    go_roundw
    case rel => exact ⟨k + 1, by omega, by go_num, rfl, hb.trans h1, hN2⟩
    case measure => simp [intOf]; omega
  ·obtain rfl : k = R.length := by omega
   have hd := hmiss.out HN.out
   subst hd
   go_wp2
   go_ret
   exact ⟨-1, rfl, by first | omega | simp, hb⟩

set_option maxHeartbeats 400000 in
theorem containsF_w (R : List Cav)  (v : Value) (w : World) (hm : R.length ≤ 35184372088832) (hx : Cavs w v R)  :
  Calls Tryz.prog 69 #[v, .func (.func 103) #[] #[]] w
   fun e w' => e = .returned (.bool (!R.all (knownC))) ∧ Ext w w' := by
 have C := indexF_w R  v w hm hx 
 generalize R.all (knownC) = d at C
 go_enter Tryz.func69, Tryz.ntmps69
 go_wp2_with fail
 refine C.mono ?_; rintro e w1 ⟨i, rfl, hi, h1⟩
 go_wp2
 go_ret
 exact ⟨by rw [← hi]; rfl, h1⟩


set_option maxHeartbeats 1000000 in
theorem indexA_w (R : List Cav) (right round b1 b2 : Nat)  (v : Value) (w : World) (hm : R.length ≤ 35184372088832) (hx : Cavs w v R) (hU : ∀ c ∈ R, U64 c.2) (l1 : b1 < w.heap.size) (r1 : w.cell? ⟨b1, 0, none⟩ = some (.int .u64 (right : Nat))) (l2 : b2 < w.heap.size) (r2 : w.cell? ⟨b2, 0, none⟩ = some (.int .u64 (round : Nat))) :
  Calls Tryz.prog 106 #[v, .func (.func 70) #[] #[.pointer (some ⟨b1, 0, none⟩), .pointer (some ⟨b2, 0, none⟩)]] w
   fun e w' => ∃ i : Int, e = .returned (.int .i64 i) ∧ decide (0 ≤ i) = !R.all (letC right round) ∧ Ext w w' := by
 obtain ⟨q, cap, rfl, _, _⟩ := hx.shape
 have hhit := fun k (hk : k < R.length) h => all_hit (l := R) (g := letC right round) hk h
 have hmiss := all_miss (l := R) (g := letC right round)
 generalize R.all (letC right round) = d at *
 replace hhit := Lib.hid hhit
 replace hmiss := Lib.hid hmiss
 go_enter Tryz.func106, Tryz.ntmps106
 go_wp2
 go_loopw [4, 8] (fun z i wr => ∃ k : Nat, k ≤ R.length ∧ i = .int .i64 k ∧ z = .int .i64 0 ∧ Ext w wr ∧ Hid (∀ j, j < k → (letC right round) (R.getD j (0, 0)) = true)) (fun _ i _ => R.length - (intOf i).toNat)
 case atStart => exact ⟨0, by omega, rfl, rfl, Ext.refl w, fun j hj => by omega⟩
 case round =>
  obtain ⟨k, hk, rfl, rfl, hb, HN⟩ := hrel
  by_cases hlt : k < R.length
  ·obtain ⟨b, off, rfl, hbl, c0, c1⟩ := (hx.ext hb).at hlt
   have C := allows1_w (R.getD k (0, 0)) right round b1 b2 wr (hU _ (by rw [List.getD_eq_getElem?_getD, List.getElem?_eq_getElem hlt]; exact List.getElem_mem hlt)) (Nat.lt_of_lt_of_le l1 hb.size) ((hb.cell (p := ⟨b1, 0, none⟩) l1).trans r1) (Nat.lt_of_lt_of_le l2 hb.size) ((hb.cell (p := ⟨b2, 0, none⟩) l2).trans r2)
   have hH := hhit.out k hlt
   have hN2 : (letC right round) (R.getD k (0, 0)) = true → Hid (∀ j, j < k + 1 → (letC right round) (R.getD j (0, 0)) = true) := fun h j hj => by
    rcases Nat.lt_succ_iff_lt_or_eq.1 hj with h' | rfl
    ·exact HN.out j h'
    ·exact h
   obtain ⟨t, ht⟩ : ∃ t, t = (letC right round) (R.getD k (0, 0)) := ⟨_, rfl⟩
   rw [← ht] at C hH hN2
   clear ht
   generalize R.getD k (0, 0) = r at *
   obtain ⟨r1, r2⟩ := r
   simp only at c0 c1 C
   cases t with
   | false =>
    have hd := hH rfl
    subst hd
    clear hH hN2
    go_wp2_with fail
    refine C.mono ?_; rintro e w1 ⟨rfl, h1⟩
    go_wp2
    go_ret
    exact ⟨_, rfl, by first | omega | simp, hb.trans h1⟩
   | true =>
    replace hN2 := hN2 rfl
    clear hH
    go_wp2_with fail
    refine C.mono ?_; rintro e w1 ⟨rfl, h1⟩
    go_wp2
    go_roundw
    case rel => exact ⟨k + 1, by omega, by go_num, rfl, hb.trans h1, hN2⟩
    case measure => simp [intOf]; omega
  ·obtain rfl : k = R.length := by omega
   have hd := hmiss.out HN.out
   subst hd
   go_wp2
   go_ret
   exact ⟨-1, rfl, by first | omega | simp, hb⟩

set_option maxHeartbeats 400000 in
theorem containsA_w (R : List Cav) (right round b1 b2 : Nat)  (v : Value) (w : World) (hm : R.length ≤ 35184372088832) (hx : Cavs w v R) (hU : ∀ c ∈ R, U64 c.2) (l1 : b1 < w.heap.size) (r1 : w.cell? ⟨b1, 0, none⟩ = some (.int .u64 (right : Nat))) (l2 : b2 < w.heap.size) (r2 : w.cell? ⟨b2, 0, none⟩ = some (.int .u64 (round : Nat))) :
  Calls Tryz.prog 69 #[v, .func (.func 70) #[] #[.pointer (some ⟨b1, 0, none⟩), .pointer (some ⟨b2, 0, none⟩)]] w
   fun e w' => e = .returned (.bool (!R.all (letC right round))) ∧ Ext w w' := by
 have C := indexA_w R right round b1 b2 v w hm hx hU l1 r1 l2 r2
 generalize R.all (letC right round) = d at C
 go_enter Tryz.func69, Tryz.ntmps69
 go_wp2_with fail
 refine C.mono ?_; rintro e w1 ⟨i, rfl, hi, h1⟩
 go_wp2
 go_ret
 exact ⟨by rw [← hi]; rfl, h1⟩

end Go.Proofs.YtefjdmjkofaajaaGreatDoor
