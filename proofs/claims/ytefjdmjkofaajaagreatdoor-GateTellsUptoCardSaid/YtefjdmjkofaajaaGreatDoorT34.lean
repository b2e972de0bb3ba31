/- Texts of the base. -/

import Derived.Test.YtefjdmjkofaajaaGreatDoorT27
import Derived.Test.YtefjdmjkofaajaaGreatDoorT23
import Derived.Test.YtefjdmjkofaajaaGreatDoorT15
import Derived.Test.YtefjdmjkofaajaaGreatDoorT7
import Derived.Maps.Own
import Derived.Maps.OwnSet
import Derived.Maps.Views
import Derived.Carry
import Derived.Test.YtefjdmjkofaajaaGreatDoorT11
import Derived.Test.YtefjdmjkofaajaaGreatDoorT8
namespace Go.Dm
open Go Go.RowKit
def narrowB (sig : Bs) (l : List Cav) : Bs := l.foldl (fun s c => signB s (putC c)) sig
theorem narrowB_snoc {sig : Bs} {l : List Cav} {k : Nat} (hk : k < l.length) : narrowB sig (l.take (k + 1)) = signB (narrowB sig (l.take k)) (putC (l.getD k (0, 0))) := by
 unfold narrowB
 rw [List.take_add_one, List.getElem?_eq_getElem hk, List.foldl_append, List.getD_eq_getElem?_getD, List.getElem?_eq_getElem hk]
 rfl
theorem putC_len {c : Cav} (h : U64 c.2) : (putC c).length ≤ 20 := by
 have l1 := putL_ten (u64of_lt c.1)
 have l2 := putL_ten h
 unfold putC
 rw [List.length_append]
 omega
abbrev TokQ := ByteArray × List Cav × ByteArray
def checkT (key : Bs) (t : TokQ) : Bool := fitsC t.2.1 && decide (narrowB (signB key t.1.data.toList) t.2.1 = t.2.2.data.toList)
end Go.Dm
namespace Go.Proofs.YtefjdmjkofaajaaGreatDoor
open Go.RowKit Go.Dm
set_option maxHeartbeats 2000000 in
set_option maxRecDepth 100000 in
theorem narrowed_w (tn sg : ByteArray) (v l : Value) (L1 L2 : List Cav) (w : World) (h1 : Cavs w v L1) (h2 : Cavs w l L2) (hU : ∀ c ∈ L2, U64 c.2) (hn : L1.length + L2.length ≤ 4398046511104) (hs : sg.size ≤ 140737488355328) (hv : ShaV w) :
  Calls Tryz.prog 31 #[.agg #[.string tn, v, .string sg], l] w fun e w' => ∃ r, e = .returned (.agg #[.string tn, r, .string ⟨(narrowB sg.data.toList L2).toArray⟩]) ∧ Cavs w' r (L1 ++ L2) ∧ (∀ c, r.ownBlock = some c → w.heap.size ≤ c) ∧ Ext w w' := by
 obtain ⟨q1, cap1, rfl, _, _⟩ := h1.shape
 obtain ⟨q2, cap2, rfl, _, _⟩ := h2.shape
 have hB : CB w.heap.size [.string tn, .slice q1 L1.length cap1, .string sg] (w.alloc (.cells #[.string tn, .slice q1 L1.length cap1, .string sg] 24)) := CB.new w #[.string tn, .slice q1 L1.length cap1, .string sg] 24
 have hE : Ext w (w.alloc (.cells #[.string tn, .slice q1 L1.length cap1, .string sg] 24)) := (Ext.refl _).alloc _
 generalize hW1 : w.alloc (.cells #[.string tn, .slice q1 L1.length cap1, .string sg] 24) = w1 at *
 have hb01 : w.heap.size < w1.heap.size := by rw [← hW1, World.size_alloc]; omega
 have hR : CB w1.heap.size [.string ⟨#[]⟩, .slice none 0 0, .string ⟨#[]⟩] (w1.alloc (.cells #[.string ⟨#[]⟩, .slice none 0 0, .string ⟨#[]⟩] 24)) := CB.new w1 #[.string ⟨#[]⟩, .slice none 0 0, .string ⟨#[]⟩] 24
 have e2 : Ext w1 (w1.alloc (.cells #[.string ⟨#[]⟩, .slice none 0 0, .string ⟨#[]⟩] 24)) := (Ext.refl _).alloc _
 generalize hW2 : w1.alloc (.cells #[.string ⟨#[]⟩, .slice none 0 0, .string ⟨#[]⟩] 24) = w2 at *
 have hb12 : w1.heap.size < w2.heap.size := by rw [← hW2, World.size_alloc]; omega
 replace hB := hB.ext e2
 replace hE := hE.trans e2
 clear e2
 have hS : CB w2.heap.size [.slice q1 L1.length cap1, .slice q2 L2.length cap2] (w2.alloc (.cells #[.slice q1 L1.length cap1, .slice q2 L2.length cap2] 22)) := CB.new w2 #[.slice q1 L1.length cap1, .slice q2 L2.length cap2] 22
 have e3 : Ext w2 (w2.alloc (.cells #[.slice q1 L1.length cap1, .slice q2 L2.length cap2] 22)) := (Ext.refl _).alloc _
 generalize hW3 : w2.alloc (.cells #[.slice q1 L1.length cap1, .slice q2 L2.length cap2] 22) = w3 at *
 have hB3 := hB.ext e3
 have hR3 := hR.ext e3
 have hE3 := hE.trans e3
 have CC := concat2_w w2.heap.size _ _ L1 L2 w3 hS.lt (hS.cell 0 (by simp)) (hS.cell 1 (by simp)) (h1.ext hE3) (h2.ext hE3) hn
 obtain ⟨bB, hbB⟩ : ∃ x, x = w.heap.size := ⟨_, rfl⟩
 obtain ⟨bR, hbR⟩ : ∃ x, x = w1.heap.size := ⟨_, rfl⟩
 obtain ⟨bS, hbS⟩ : ∃ x, x = w2.heap.size := ⟨_, rfl⟩
 have hwB : w.heap.size ≤ bB := by omega
 have h3s := e3.size
 rw [← hbB] at hb01 hB3 hB
 rw [← hbR] at hb01 hb12 hR3
 rw [← hbS] at hb12 CC h3s
 replace hbB := hbB.symm
 replace hbR := hbR.symm
 replace hbS := hbS.symm
 obtain ⟨xl, x0, x1, x2, xf0, xf1, xf2⟩ := hB.cells3
 replace CC := Lib.hid CC
 clear e3 hS
 go_enter Tryz.func31, Tryz.ntmps31
 go_wp2_with fail
 refine CC.out.mono ?_; rintro e w4 ⟨r, rfl, ho, h4⟩
 clear hW1 hW2 hW3 hbB hbR hbS xl x0 x1 x2 xf0 xf1 xf2 CC hE hB hR
 replace hB3 := hB3.ext h4
 replace hR3 := hR3.ext h4
 replace hE3 := hE3.trans h4
 have hrB : ∀ c, r.ownBlock = some c → bS ≤ c := fun c hc => Nat.le_trans h3s (ho.lt c hc).1
 obtain ⟨qr, cr, hrv, hcr, hcm, hz0⟩ := (Sl.of_owns ho).shape
 subst hrv
 have hB5 := hB3.set 1 (.slice qr (L1.length + L2.length) cr) (by simp)
 have hR5 := hR3.far (c := bB) (i := 1) (by omega) (.slice qr (L1.length + L2.length) cr)
 have hE5 : Ext w (w4.setCell ⟨bB, 1, none⟩ (.slice qr (L1.length + L2.length) cr)) := Below.setCell hE3 hwB _
 have ho5 := ho.kept (grown_set w4 bB 1 (.slice qr (L1.length + L2.length) cr)) (Or.inr fun e2 => by have := hrB _ e2; omega)
 obtain ⟨xl, x0, x1, x2, xf0, xf1, xf2⟩ := hB3.cells3
 go_upto_region 2 with fail
 clear xl x0 x1 x2 xf0 xf1 xf2 hB3 hR3 hE3 ho h4
 generalize w4.setCell ⟨bB, 1, none⟩ (.slice qr (L1.length + L2.length) cr) = w5 at *
 change CB bB [.string tn, .slice qr (L1.length + L2.length) cr, .string sg] w5 at hB5
 go_wp2
 go_loopw [15] (fun i wr => ∃ (k : Nat) (s : ByteArray), k ≤ L2.length ∧ i = .int .i64 k ∧ Ext w wr ∧ s.size ≤ 140737488355328 ∧ Hid (s.data.toList = narrowB sg.data.toList (L2.take k)) ∧ CB bB [.string tn, .slice qr (L1.length + L2.length) cr, .string s] wr ∧ CB bR [.string ⟨#[]⟩, .slice none 0 0, .string ⟨#[]⟩] wr ∧ wr.ownsRow w3.heap.size 38 2 (.slice qr (L1.length + L2.length) cr) (L1.length + L2.length) (cavC (L1 ++ L2))) (fun i _ => L2.length - (intOf i).toNat)
 case atStart => exact ⟨0, sg, by omega, rfl, hE5, hs, by rw [List.take_zero]; rfl, hB5, hR5, ho5⟩
 case round =>
  obtain ⟨k, s, hk, rfl, g1, g2, g3, g4, g5, g6⟩ := hrel
  by_cases hlt : k < L2.length
  ·obtain ⟨b, off, rfl, hbl, c0, c1⟩ := (h2.ext g1).at hlt
   have hcU := hU _ (show L2.getD k (0, 0) ∈ L2 by rw [List.getD_eq_getElem?_getD, List.getElem?_eq_getElem hlt]; exact List.getElem_mem hlt)
   have hst : narrowB sg.data.toList (L2.take (k + 1)) = signB s.data.toList (putC (L2.getD k (0, 0))) := by rw [narrowB_snoc hlt, g3.out]
   generalize L2.getD k (0, 0) = c at *
   obtain ⟨ck, cn⟩ := c
   simp only at c0 c1 hcU
   have hpl := putC_len (c := (ck, cn)) hcU
   have C1 := fun U => putc_w (ck, cn) hcU U
   have C2 := fun U (h : ShaV U) => sign_w s ⟨(putC (ck, cn)).toArray⟩ (by omega) (by show (putC (ck, cn)).toArray.size ≤ _; rw [List.size_toArray]; omega) U h
   simp only at C1 C2
   rw [← hst] at C2
   generalize (⟨(putC (ck, cn)).toArray⟩ : ByteArray) = pb at *
   obtain ⟨s', hs'⟩ : ∃ s' : ByteArray, s' = ⟨(narrowB sg.data.toList (L2.take (k + 1))).toArray⟩ := ⟨_, rfl⟩
   rw [← hs'] at C2
   have hsl : s'.size ≤ 140737488355328 := by
    rw [hs', hst]
    show (signB _ _).toArray.size ≤ _
    rw [List.size_toArray, signB_len]
    omega
   clear hpl hst
   replace hs' := Lib.hid hs'
   replace C1 := Lib.hid C1
   replace C2 := Lib.hid C2
   have hN : CB wr.heap.size [.int .i64 ck, .int .u64 (cn : Nat)] (wr.alloc (.cells #[.int .i64 ck, .int .u64 (cn : Nat)] 38)) := CB.new wr #[.int .i64 ck, .int .u64 (cn : Nat)] 38
   have e6 : Ext wr (wr.alloc (.cells #[.int .i64 ck, .int .u64 (cn : Nat)] 38)) := (Ext.refl _).alloc _
   have hbn : bB < wr.heap.size := g4.lt
   go_upto_region 5 with fail
   replace g1 := g1.trans e6
   replace g4 := g4.ext e6
   replace g5 := g5.ext e6
   replace g6 := Ext.row g6 e6
   clear c0 c1 hbl e6
   generalize wr.alloc (.cells #[.int .i64 ck, .int .u64 (cn : Nat)] 38) = w6 at *
   generalize wr.heap.size = bn at *
   have HI : Rd1 bB 2 (.string s) w6 ∧ Rd1 bn 0 (.int .i64 ck) w6 ∧ Rd1 bn 1 (.int .u64 (cn : Nat)) w6 ∧ ShaV w6 := ⟨⟨g4.lt, g4.cell 2 (by simp)⟩, ⟨hN.lt, hN.cell 0 (by simp)⟩, ⟨hN.lt, hN.cell 1 (by simp)⟩, hv.ext g1⟩
   refine sx_ ?_
   refine rf_ (fun U => Rd1 bB 2 (.string s) U ∧ Rd1 bn 0 (.int .i64 ck) U ∧ Rd1 bn 1 (.int .u64 (cn : Nat)) U ∧ ShaV U) 6 7 ?_
   refine tfs [0, 1, 2, 3, 4, 5] 63 1 (fun _ _ h hx => ⟨h.1.ext hx, h.2.1.ext hx, h.2.2.1.ext hx, h.2.2.2.ext hx⟩) HI ?_ (hq := by intro wq hwq; obtain ⟨⟨q1, q2⟩, ⟨q3, q4⟩, ⟨q5, q6⟩, q7⟩ := hwq; (repeat go_big_quiet_step ((first | (go_at_call 64; with_reducible exact Calls.quietE (C1.out _)) | (go_at_call 30; with_reducible exact Calls.quietE (C2.out _ (q7.ext (ext_grow _ _))))))); exact wpQuiet_nil rfl)
   refine f1_ 6 127 fun wz hxz => ?_
   obtain ⟨xl, x0, x1, x2, xf0, xf1, xf2⟩ := (g4.ext hxz).cells3
   go_wp2_with fail
   first | refine ⟨fun h => absurd h (by decide), ?_⟩ | skip
   refine fd_ fun wy hxy => ?_
   clear xl x0 x1 x2 xf0 xf1 xf2 HI
   have k4 := ((g4.ext hxz).set 2 (.string s') (by simp)).ext hxy
   have k5 := ((g5.ext hxz).far (c := bB) (i := 2) (by omega) (.string s')).ext hxy
   have k6 := Ext.row ((Ext.row g6 hxz).kept (grown_set wz bB 2 (.string s')) (Or.inr fun e2 => by have := hrB _ e2; omega)) hxy
   have k1 := Ext.trans (show Ext w (wz.setCell ⟨bB, 2, none⟩ (.string s')) from Below.setCell (g1.trans hxz) hwB _) hxy
   clear g1 g4 g5 g6 hxz hxy g3
   go_wp2
   go_roundw
   case rel => exact ⟨k + 1, s', by omega, by go_num, k1, hsl, by rw [hs'.out]; rfl, k4, k5, k6⟩
   case measure => simp [intOf]; omega
  ·have hge : ¬ ((k : Int) < (L2.length : Int)) := by omega
   have g3 : s.data.toList = narrowB sg.data.toList L2 := by
    have := g3.out
    rwa [List.take_of_length_le (by omega)] at this
   have hsv : (⟨(narrowB sg.data.toList L2).toArray⟩ : ByteArray) = s := (mk_bytes g3).symm
   obtain ⟨xl, x0, x1, x2, xf0, xf1, xf2⟩ := g4.cells3
   obtain ⟨yl, y0, y1, y2, yf0, yf1, yf2⟩ := g5.cells3
   replace hsv := Lib.hid hsv
   clear g3
   go_wp2
   clear xl x0 x1 x2 xf0 xf1 xf2 yl y0 y1 y2 yf0 yf1 yf2
   have hz := g5.put3 (.string tn) (.slice qr (L1.length + L2.length) cr) (.string s)
   obtain ⟨_, k0, k1, k2, _, _, _⟩ := hz.cells3
   refine bodyPost_ret (v := .agg #[.string tn, .slice qr (L1.length + L2.length) cr, .string s]) (by simp [results, Tryz.results31, go_sem, k0, k1, k2]) rfl ?_
   refine ⟨.slice qr (L1.length + L2.length) cr, by rw [hsv.out], ?_, fun c hc => by have := hrB c hc; omega, Ext.cput3 g1 (by omega) _ _ _⟩
   have ho8 := ((g6.kept (grown_set wr bR 0 (.string tn)) (Or.inr fun e2 => by have := hrB _ e2; omega)).kept (grown_set _ bR 1 (.slice qr (L1.length + L2.length) cr)) (Or.inr fun e2 => by have := hrB _ e2; omega)).kept (grown_set _ bR 2 (.string s)) (Or.inr fun e2 => by have := hrB _ e2; omega)
   have := Sl.of_owns ho8
   show Sl _ 2 _ (L1 ++ L2).length _
   rw [List.length_append]
   exact this
theorem new_w (key tn : ByteArray) (w : World) (hk : key.size ≤ 281474976710656) (ht : tn.size ≤ 140737488355328) (hv : ShaV w) :
  Calls Tryz.prog 10 #[.string key, .string tn] w fun e w' => e = .returned (.agg #[.string tn, .slice none 0 0, .string ⟨(signB key.data.toList tn.data.toList).toArray⟩]) ∧ Ext w w' := by
 have hR : CB w.heap.size [.string ⟨#[]⟩, .slice none 0 0, .string ⟨#[]⟩] (w.alloc (.cells #[.string ⟨#[]⟩, .slice none 0 0, .string ⟨#[]⟩] 24)) := CB.new w #[.string ⟨#[]⟩, .slice none 0 0, .string ⟨#[]⟩] 24
 have hE : Ext w (w.alloc (.cells #[.string ⟨#[]⟩, .slice none 0 0, .string ⟨#[]⟩] 24)) := (Ext.refl _).alloc _
 have C := fun U (h : Ext w U) => sign_w key tn hk ht U (hv.ext h)
 generalize (⟨(signB key.data.toList tn.data.toList).toArray⟩ : ByteArray) = sg at *
 replace C := Lib.hid C
 go_enter Tryz.func10, Tryz.ntmps10
 go_wp2_with fail
 generalize w.alloc (.cells #[.string ⟨#[]⟩, .slice none 0 0, .string ⟨#[]⟩] 24) = w1 at *
 obtain ⟨bR, hbR⟩ : ∃ x, x = w.heap.size := ⟨_, rfl⟩
 have hwR : w.heap.size ≤ bR := by omega
 rw [← hbR] at hR
 rw [← hbR]
 clear hbR
 refine (C.out _ hE).mono ?_; rintro e w2 ⟨rfl, h2⟩
 replace hR := hR.ext h2
 replace hE := hE.trans h2
 obtain ⟨yl, y0, y1, y2, yf0, yf1, yf2⟩ := hR.cells3
 go_wp2
 clear yl y0 y1 y2 yf0 yf1 yf2
 have hz := hR.put3 (.string tn) (.slice none 0 0) (.string sg)
 obtain ⟨_, k0, k1, k2, _, _, _⟩ := hz.cells3
 refine bodyPost_ret (v := .agg #[.string tn, .slice none 0 0, .string sg]) (by simp [results, Tryz.results10, go_sem, k0, k1, k2]) rfl ?_
 exact ⟨rfl, Ext.cput3 hE hwR _ _ _⟩
set_option maxHeartbeats 1000000 in
theorem fits_w (tn sg : ByteArray) (v : Value) (L : List Cav) (w : World) (hl : L.length ≤ 35184372088832) (hx : Cavs w v L) :
  Calls Tryz.prog 61 #[.agg #[.string tn, v, .string sg]] w fun e w' => e = .returned (.bool (fitsC L)) ∧ Ext w w' := by
 obtain ⟨q, cap, rfl, _, _⟩ := hx.shape
 have hB : CB w.heap.size [.string tn, .slice q L.length cap, .string sg] (w.alloc (.cells #[.string tn, .slice q L.length cap, .string sg] 24)) := CB.new w #[.string tn, .slice q L.length cap, .string sg] 24
 have hE : Ext w (w.alloc (.cells #[.string tn, .slice q L.length cap, .string sg] 24)) := (Ext.refl _).alloc _
 have C := fun U (h : Ext w U) => containsF_w L _ U hl (hx.ext h)
 unfold fitsC
 generalize L.all knownC = d at *
 replace C := Lib.hid C
 by_cases h8 : L.length ≤ 8
 ·have h8i : (L.length : Int) ≤ 8 := by omega
  rw [decide_eq_true h8]
  go_enter Tryz.func61, Tryz.ntmps61
  go_upto_region 1 with fail
  generalize w.alloc (.cells #[.string tn, .slice q L.length cap, .string sg] 24) = w1 at *
  obtain ⟨xl, x0, x1, x2, xf0, xf1, xf2⟩ := hB.cells3
  generalize w.heap.size = bB at *
  go_wp2_with fail
  refine (C.out _ hE).mono ?_; rintro e w2 ⟨rfl, h2⟩
  go_wp2
  go_ret
  exact ⟨by simp, hE.trans h2⟩
 ·have h8i : ¬ (L.length : Int) ≤ 8 := by omega
  rw [decide_eq_false h8]
  go_enter Tryz.func61, Tryz.ntmps61
  go_upto_region 1 with fail
  generalize w.alloc (.cells #[.string tn, .slice q L.length cap, .string sg] 24) = w1 at *
  obtain ⟨xl, x0, x1, x2, xf0, xf1, xf2⟩ := hB.cells3
  generalize w.heap.size = bB at *
  go_wp2
  go_ret
  exact ⟨by simp, hE⟩
set_option maxHeartbeats 1000000 in
theorem allows_w (tn sg : ByteArray) (v : Value) (L : List Cav) (right round : Nat) (w : World) (hl : L.length ≤ 35184372088832) (hU : ∀ c ∈ L, U64 c.2) (hx : Cavs w v L) :
  Calls Tryz.prog 29 #[.agg #[.string tn, v, .string sg], .int .u64 (right : Nat), .int .u64 (round : Nat)] w fun e w' => e = .returned (.bool (allowC L right round)) ∧ Ext w w' := by
 obtain ⟨q, cap, rfl, _, _⟩ := hx.shape
 have hB : CB w.heap.size [.string tn, .slice q L.length cap, .string sg] (w.alloc (.cells #[.string tn, .slice q L.length cap, .string sg] 24)) := CB.new w #[.string tn, .slice q L.length cap, .string sg] 24
 have hE : Ext w (w.alloc (.cells #[.string tn, .slice q L.length cap, .string sg] 24)) := (Ext.refl _).alloc _
 generalize hW1 : w.alloc (.cells #[.string tn, .slice q L.length cap, .string sg] 24) = w1 at *
 have hP : CB w1.heap.size [.int .u64 (right : Nat)] (w1.alloc (.cells #[.int .u64 (right : Nat)] 25)) := CB.new w1 #[.int .u64 (right : Nat)] 25
 have e2 : Ext w1 (w1.alloc (.cells #[.int .u64 (right : Nat)] 25)) := (Ext.refl _).alloc _
 generalize hW2 : w1.alloc (.cells #[.int .u64 (right : Nat)] 25) = w2 at *
 have hO : CB w2.heap.size [.int .u64 (round : Nat)] (w2.alloc (.cells #[.int .u64 (round : Nat)] 25)) := CB.new w2 #[.int .u64 (round : Nat)] 25
 have e3 : Ext w2 (w2.alloc (.cells #[.int .u64 (round : Nat)] 25)) := (Ext.refl _).alloc _
 generalize hW3 : w2.alloc (.cells #[.int .u64 (round : Nat)] 25) = w3 at *
 replace hB := (hB.ext e2).ext e3
 replace hP := hP.ext e3
 replace hE := (hE.trans e2).trans e3
 have C := containsA_w L right round w1.heap.size w2.heap.size _ w3 hl (hx.ext hE) hU hP.lt (hP.cell 0 (by simp)) hO.lt (hO.cell 0 (by simp))
 unfold allowC
 have hmf : ∀ (fn : Fn) (first cap : Array Value) (w : World), (Instr.makeFunc fn first cap).run Tryz.prog w = .ok (.func fn first cap) w := fun _ _ _ _ => rfl
 generalize L.all (letC right round) = d at *
 replace C := Lib.hid C
 clear e2 e3 hP hO
 obtain ⟨xl, x0, x1, x2, xf0, xf1, xf2⟩ := hB.cells3
 go_enter Tryz.func29, Tryz.ntmps29
 go_wp2_with fail
 refine C.out.mono ?_; rintro e w4 ⟨rfl, h4⟩
 go_wp2
 go_ret
 exact ⟨by simp, hE.trans h4⟩
end Go.Proofs.YtefjdmjkofaajaaGreatDoor
namespace Go.Dm
open Go Go.RowKit
theorem beq_texts (a b : ByteArray) : (a.toList == b.toList) = decide (a = b) := by
 rw [ByteArray.toList_eq, ByteArray.toList_eq, Bool.eq_iff_iff, beq_iff_eq, decide_eq_true_iff]
 exact ⟨fun h => (mk_bytes h).trans (mk_bytes rfl).symm, fun h => by rw [h]⟩
end Go.Dm
namespace Go.Proofs.YtefjdmjkofaajaaGreatDoor
open Go.RowKit Go.Dm
set_option maxHeartbeats 1000000 in
set_option maxRecDepth 100000 in
theorem narrowO_w (tn sg : ByteArray) (v : Value) (L : List Cav) (c : Cav) (w : World) (hx : Cavs w v L) (hc : U64 c.2) (hn : L.length ≤ 4398046511103) (hs : sg.size ≤ 140737488355328) (hv : ShaV w) :
  Calls Tryz.prog 11 #[.agg #[.string tn, v, .string sg], .agg #[.int .i64 c.1, .int .u64 (c.2 : Nat)]] w fun e w' => ∃ r, e = .returned (.agg #[.string tn, r, .string ⟨(signB sg.data.toList (putC c)).toArray⟩]) ∧ Cavs w' r (L ++ [c]) ∧ (∀ c, r.ownBlock = some c → w.heap.size ≤ c) ∧ Ext w w' := by
 obtain ⟨q, cap, rfl, _, _⟩ := hx.shape
 obtain ⟨ck, cn⟩ := c
 simp only at hc
 have hB : CB w.heap.size [.string tn, .slice q L.length cap, .string sg] (w.alloc (.cells #[.string tn, .slice q L.length cap, .string sg] 24)) := CB.new w #[.string tn, .slice q L.length cap, .string sg] 24
 have hE : Ext w (w.alloc (.cells #[.string tn, .slice q L.length cap, .string sg] 24)) := (Ext.refl _).alloc _
 generalize hW1 : w.alloc (.cells #[.string tn, .slice q L.length cap, .string sg] 24) = w1 at *
 have b01 : w.heap.size < w1.heap.size := by rw [← hW1, World.size_alloc]; omega
 have hC : CB w1.heap.size [.int .i64 ck, .int .u64 (cn : Nat)] (w1.alloc (.cells #[.int .i64 ck, .int .u64 (cn : Nat)] 38)) := CB.new w1 #[.int .i64 ck, .int .u64 (cn : Nat)] 38
 have e2 : Ext w1 (w1.alloc (.cells #[.int .i64 ck, .int .u64 (cn : Nat)] 38)) := (Ext.refl _).alloc _
 generalize hW2 : w1.alloc (.cells #[.int .i64 ck, .int .u64 (cn : Nat)] 38) = w2 at *
 have b12 : w1.heap.size < w2.heap.size := by rw [← hW2, World.size_alloc]; omega
 have hR : CB w2.heap.size [.string ⟨#[]⟩, .slice none 0 0, .string ⟨#[]⟩] (w2.alloc (.cells #[.string ⟨#[]⟩, .slice none 0 0, .string ⟨#[]⟩] 24)) := CB.new w2 #[.string ⟨#[]⟩, .slice none 0 0, .string ⟨#[]⟩] 24
 have e3 : Ext w2 (w2.alloc (.cells #[.string ⟨#[]⟩, .slice none 0 0, .string ⟨#[]⟩] 24)) := (Ext.refl _).alloc _
 generalize hW3 : w2.alloc (.cells #[.string ⟨#[]⟩, .slice none 0 0, .string ⟨#[]⟩] 24) = w3 at *
 have hL : Sl (w3.alloc (.cells #[.int .i64 ck, .int .u64 (cn : Nat)] 38)) 2 (.slice (some ⟨w3.heap.size, 0, none⟩) 1 1) 1 (cavC [(ck, cn)]) := Sl.lit w3 38 2 1 #[.int .i64 ck, .int .u64 (cn : Nat)] rfl (by simp [maxLen])
 have e4 : Ext w3 (w3.alloc (.cells #[.int .i64 ck, .int .u64 (cn : Nat)] 38)) := (Ext.refl _).alloc _
 generalize hW4 : w3.alloc (.cells #[.int .i64 ck, .int .u64 (cn : Nat)] 38) = w4 at *
 have hB3 := (hB.ext e2).ext e3
 have hC3 := hC.ext e3
 have hR4 := hR.ext e4
 have hE4 := ((hE.trans e2).trans e3).trans e4
 have C := narrowed_w tn sg _ (.slice (some ⟨w3.heap.size, 0, none⟩) 1 1) L [(ck, cn)] w4 (hx.ext hE4) hL (fun c hc2 => by simp at hc2; subst hc2; exact hc) (by simp; omega) hs (hv.ext hE4)
 have hnb : narrowB sg.data.toList [(ck, cn)] = signB sg.data.toList (putC (ck, cn)) := rfl
 rw [hnb] at C
 generalize (⟨(signB sg.data.toList (putC (ck, cn))).toArray⟩ : ByteArray) = s' at *
 replace C := Lib.hid C
 have hwR : w.heap.size ≤ w2.heap.size := by omega
 have hbR4 : w2.heap.size < w4.heap.size := hR4.lt
 obtain ⟨xl, x0, x1, x2, xf0, xf1, xf2⟩ := hB3.cells3
 have yl := hC3.lt
 have y0 := hC3.cell 0 (by simp)
 have y1 := hC3.cell 1 (by simp)
 clear e2 e3 e4 hL hnb
 go_enter Tryz.func11, Tryz.ntmps11
 go_wp2_with fail
 clear hW1 hW2 hW3 hW4 xl x0 x1 x2 xf0 xf1 xf2 yl y0 y1
 obtain ⟨bR, hbR⟩ : ∃ x, x = w2.heap.size := ⟨_, rfl⟩
 rw [← hbR] at hR4 hwR hbR4
 rw [← hbR]
 clear hbR
 refine C.out.mono ?_; rintro e w5 ⟨r, rfl, hr, hrn, h5⟩
 replace hR4 := hR4.ext h5
 replace hE4 := hE4.trans h5
 obtain ⟨qr, cr, rfl⟩ : ∃ qr cr, r = .slice qr (L.length + 1) cr := by
  obtain ⟨qr, cr, h, _, _⟩ := hr.shape
  exact ⟨qr, cr, by rw [h, List.length_append]; rfl⟩
 obtain ⟨yl, y0, y1, y2, yf0, yf1, yf2⟩ := hR4.cells3
 go_wp2
 clear yl y0 y1 y2 yf0 yf1 yf2
 have hz := hR4.put3 (.string tn) (.slice qr (L.length + 1) cr) (.string s')
 obtain ⟨_, k0, k1, k2, _, _, _⟩ := hz.cells3
 refine bodyPost_ret (v := .agg #[.string tn, .slice qr (L.length + 1) cr, .string s']) (by simp [results, Tryz.results11, go_sem, k0, k1, k2]) rfl ?_
 refine ⟨_, rfl, ?_, fun c hc => by have := hrn c hc; omega, Ext.cput3 hE4 hwR _ _ _⟩
 have hne : ∀ c, (Value.slice qr (L.length + 1) cr).ownBlock = some c → c ≠ bR := fun c hc => by have := hrn c hc; omega
 exact sl_set (sl_set (sl_set hr hne _) hne _) hne _
theorem narrow_w (tn sg : ByteArray) (v : Value) (L : List Cav) (c : Cav) (w : World) (hx : Cavs w v L) (hc : U64 c.2) (hn : L.length ≤ 4398046511103) (hs : sg.size ≤ 140737488355328) (hv : ShaV w) :
  Calls Tryz.prog 11 #[.agg #[.string tn, v, .string sg], .agg #[.int .i64 c.1, .int .u64 (c.2 : Nat)]] w fun e w' => ∃ r, e = .returned (.agg #[.string tn, r, .string ⟨(signB sg.data.toList (putC c)).toArray⟩]) ∧ Cavs w' r (L ++ [c]) ∧ Ext w w' :=
 (narrowO_w tn sg v L c w hx hc hn hs hv).mono fun _ _ ⟨r, h1, h2, _, h3⟩ => ⟨r, h1, h2, h3⟩
set_option maxHeartbeats 1000000 in
set_option maxRecDepth 100000 in
theorem check_w (key tn sg : ByteArray) (v : Value) (L : List Cav) (w : World) (hk : key.size ≤ 281474976710656) (ht : tn.size ≤ 140737488355328) (hl : L.length ≤ 4398046511103) (hU : ∀ c ∈ L, U64 c.2) (hx : Cavs w v L) (hv : ShaV w) :
  Calls Tryz.prog 28 #[.string key, .agg #[.string tn, v, .string sg]] w fun e w' => e = .returned (.bool (checkT key.data.toList (tn, L, sg))) ∧ Ext w w' := by
 obtain ⟨q, cap, rfl, _, _⟩ := hx.shape
 have hB : CB w.heap.size [.string tn, .slice q L.length cap, .string sg] (w.alloc (.cells #[.string tn, .slice q L.length cap, .string sg] 24)) := CB.new w #[.string tn, .slice q L.length cap, .string sg] 24
 have hE : Ext w (w.alloc (.cells #[.string tn, .slice q L.length cap, .string sg] 24)) := (Ext.refl _).alloc _
 have CF := fun U (h : Ext w U) => fits_w tn sg _ L U (by omega) (hx.ext h)
 have CN := fun U (h : Ext w U) => new_w key tn U hk ht (hv.ext h)
 have CR := fun (s0 : ByteArray) (hs0 : s0.size ≤ 140737488355328) U (h : Ext w U) => narrowed_w tn s0 (.slice none 0 0) _ [] L U (Sl.nil _ _) (hx.ext h) hU (by simp; omega) hs0 (hv.ext h)
 obtain ⟨s0, hs0⟩ : ∃ s0 : ByteArray, s0 = ⟨(signB key.data.toList tn.data.toList).toArray⟩ := ⟨_, rfl⟩
 have hl0 : s0.size ≤ 140737488355328 := by
  rw [hs0]
  show (signB _ _).toArray.size ≤ _
  rw [List.size_toArray, signB_len]
  omega
 have CR := CR s0 hl0
 obtain ⟨s1, hs1⟩ : ∃ s1 : ByteArray, s1 = ⟨(narrowB s0.data.toList L).toArray⟩ := ⟨_, rfl⟩
 rw [← hs0] at CN
 rw [← hs1] at CR
 have hchk : checkT key.data.toList (tn, L, sg) = (fitsC L && decide (s1 = sg)) := by
  unfold checkT
  have e0 : s0.data.toList = signB key.data.toList tn.data.toList := by rw [hs0]
  simp only
  rw [← e0]
  congr 1
  have e1 : s1.data.toList = narrowB s0.data.toList L := by rw [hs1]
  rw [← e1]
  exact decide_eq_decide.2 ⟨fun h => (mk_bytes h).trans (mk_bytes rfl).symm, fun h => by rw [h]⟩
 rw [hchk]
 clear hchk hs0 hs1 hl0
 generalize fitsC L = ft at *
 have hfd : ∀ (a b c : Value) U, (Instr.field 24 (.agg #[a, b, c]) 2).run Tryz.prog U = .ok c U := fun a b c U => by kernel_rfl
 replace CF := Lib.hid CF
 replace CN := Lib.hid CN
 replace CR := Lib.hid CR
 go_enter Tryz.func28, Tryz.ntmps28
 go_upto_region 1 with fail
 generalize w.alloc (.cells #[.string tn, .slice q L.length cap, .string sg] 24) = w1 at *
 generalize w.heap.size = bB at *
 obtain ⟨xl, x0, x1, x2, xf0, xf1, xf2⟩ := hB.cells3
 cases ft with
 | false =>
  refine sx_ ?_
  refine rg_ 16 (Ext.refl w1) ?_
  refine tks (List.range' 0 16) 65535 0 (hq := by intro x; (iterate 3 go_big_quiet_step ((go_at_call 61; with_reducible exact Calls.quietE (CF.out _ (hE.trans ex_))))); (iterate 11 go_big_quiet_skip); (iterate 2 go_big_quiet_step ((go_at_call 61; with_reducible exact Calls.quietE (CF.out _ (hE.trans ex_))))); exact wpQuiet_nil rfl) ?_
  refine kd_ (Ext.refl w1) fun w1a hx1a hX1a => ?_
  go_wp2
  go_ret
  exact ⟨by simp, hE.trans hX1a⟩
 | true =>
  refine sx_ ?_
  refine rg_ 16 (Ext.refl w1) ?_
  refine tks [0, 1, 2, 3, 4, 5, 6, 7, 8, 11, 12] 6655 5 (hq := by intro x; (repeat go_big_quiet_step ((first | (go_at_call 61; with_reducible exact Calls.quietE (CF.out _ (hE.trans ex_))) | (go_at_call 10; with_reducible exact Calls.quietE (CN.out _ (hE.trans ex_)))))); exact wpQuiet_nil rfl) ?_
  refine k1_ 9 7167 (Ext.refl w1) fun w1a hx1a hX1a => ?_
  go_wp2_with (go_at_call 31; go_must (refine (CR.out w1a (hE.trans hX1a)).mono ?_; rintro e w1b ⟨rr, rfl, hrr, _, hs1⟩))
  obtain ⟨qq, cc, rfl, _, _⟩ := hrr.shape
  have hX1b := Ext.trans hX1a hs1
  refine sx_ ?_
  refine tks [10, 13, 14, 15] 65535 0 (hq := by intro x; (repeat go_big_quiet_step ((first | (go_at_call 61; with_reducible exact Calls.quietE (CF.out _ (hE.trans ex_))) | (go_at_call 10; with_reducible exact Calls.quietE (CN.out _ (hE.trans ex_)))))); exact wpQuiet_nil rfl) ?_
  refine kd_ hX1b fun w2a hx2a hX2a => ?_
  go_wp2
  go_ret
  exact ⟨by rw [← beq_texts]; simp, hE.trans hX2a⟩
end Go.Proofs.YtefjdmjkofaajaaGreatDoor
namespace Go.Dm
open Go Go.RowKit
def putTok (t : TokQ) : Bs := if rightL t.1.data.toList = true ∧ fitsC t.2.1 = true ∧ t.2.2.size = 32 then putT t.1.data.toList ++ (putL t.2.1.length ++ (t.2.1.flatMap putC ++ t.2.2.data.toList)) else []
end Go.Dm
namespace Go.Proofs.YtefjdmjkofaajaaGreatDoor
open Go.RowKit Go.Dm
set_option maxHeartbeats 2000000 in
set_option maxRecDepth 100000 in
theorem mput_w (tn sg : ByteArray) (v : Value) (L : List Cav) (w : World) (ht : tn.size ≤ 140737488351232) (_hs : sg.size ≤ 140737488351232) (hl : L.length ≤ 4398046511103) (hU : ∀ c ∈ L, U64 c.2) (hx : Cavs w v L) (hv : Vars w) :
  Calls Tryz.prog 26 #[.agg #[.string tn, v, .string sg]] w fun e w' => e = .returned (.string ⟨(putTok (tn, L, sg)).toArray⟩) ∧ Ext w w' := by
 obtain ⟨q, cap, rfl, _, _⟩ := hx.shape
 have hB : CB w.heap.size [.string tn, .slice q L.length cap, .string sg] (w.alloc (.cells #[.string tn, .slice q L.length cap, .string sg] 24)) := CB.new w #[.string tn, .slice q L.length cap, .string sg] 24
 have hE : Ext w (w.alloc (.cells #[.string tn, .slice q L.length cap, .string sg] 24)) := (Ext.refl _).alloc _
 have CR := fun U (h : Ext w U) => right_fit tn U (by omega) (hv.tabs.ext h)
 have CF := fun U (h : Ext w U) => fits_w tn sg _ L U (by omega) (hx.ext h)
 have hgo : rightL tn.data.toList = true → fitsC L = true → sg.size = 32 → putTok (tn, L, sg) = putT tn.data.toList ++ (putL L.length ++ (L.flatMap putC ++ sg.data.toList)) := fun h1 h2 h3 => by unfold putTok; rw [if_pos ⟨h1, h2, h3⟩]
 have hno : ¬ (rightL tn.data.toList = true ∧ fitsC L = true ∧ sg.size = 32) → putTok (tn, L, sg) = [] := fun h => by unfold putTok; rw [if_neg h]
 have hrl : rightL tn.data.toList = true → tn.size ≤ 32 := fun h => right_len h
 have hfl : fitsC L = true → L.length ≤ 8 := fun h => by unfold fitsC at h; simp at h; exact h.1
 have hPT := fun U => puttext_w tn U (by omega)
 have hPL := fun U (h : U64 L.length) => put_w L.length U h
 generalize rightL tn.data.toList = rt at *
 generalize fitsC L = ft at *
 obtain ⟨PK, hPK⟩ : ∃ PK, PK = putTok (tn, L, sg) := ⟨_, rfl⟩
 rw [← hPK] at hgo hno
 replace hgo := Lib.hid hgo
 replace hno := Lib.hid hno
 replace CR := Lib.hid CR
 replace CF := Lib.hid CF
 replace hPK := Lib.hid hPK
 replace hPT := Lib.hid hPT
 replace hPL := Lib.hid hPL
 cases rt with
 | false =>
  go_enter Tryz.func26, Tryz.ntmps26
  go_upto_region 1 with fail
  generalize w.alloc (.cells #[.string tn, .slice q L.length cap, .string sg] 24) = w1 at *
  generalize w.heap.size = bB at *
  obtain ⟨xl, x0, x1, x2, xf0, xf1, xf2⟩ := hB.cells3
  go_wp2_with fail
  refine (CR.out _ hE).mono ?_; rintro e w2 ⟨rfl, h2⟩
  go_wp2
  go_ret
  exact ⟨by rw [← hPK.out, hno.out (by simp)]; rfl, hE.trans h2⟩
 | true =>
  have htl := hrl rfl
  cases ft with
  | false =>
   go_enter Tryz.func26, Tryz.ntmps26
   go_upto_region 1 with fail
   generalize w.alloc (.cells #[.string tn, .slice q L.length cap, .string sg] 24) = w1 at *
   generalize w.heap.size = bB at *
   obtain ⟨xl, x0, x1, x2, xf0, xf1, xf2⟩ := hB.cells3
   go_wp2_with fail
   refine (CR.out _ hE).mono ?_; rintro e w2 ⟨rfl, h2⟩
   clear xl x0 x1 x2 xf0 xf1 xf2
   replace hB := hB.ext h2
   obtain ⟨xl, x0, x1, x2, xf0, xf1, xf2⟩ := hB.cells3
   go_wp2_with fail
   refine (CF.out _ (hE.trans h2)).mono ?_; rintro e w3 ⟨rfl, h3⟩
   go_wp2
   go_ret
   exact ⟨by rw [← hPK.out, hno.out (by simp)]; rfl, (hE.trans h2).trans h3⟩
  | true =>
   have hll := hfl rfl
   by_cases h32 : sg.size = 32
   ·have h32i : (sg.size : Int) = 32 := by omega
    have hpk := hgo.out rfl rfl h32
    have hll' := hll
    go_enter Tryz.func26, Tryz.ntmps26
    go_upto_region 1 with fail
    generalize w.alloc (.cells #[.string tn, .slice q L.length cap, .string sg] 24) = w1 at *
    generalize w.heap.size = bB at *
    obtain ⟨xl, x0, x1, x2, xf0, xf1, xf2⟩ := hB.cells3
    replace hpk := Lib.hid hpk
    go_wp2_with fail
    refine (CR.out _ hE).mono ?_; rintro e w2 ⟨rfl, h2⟩
    clear xl x0 x1 x2 xf0 xf1 xf2
    replace hB := hB.ext h2
    replace hE := hE.trans h2
    obtain ⟨xl, x0, x1, x2, xf0, xf1, xf2⟩ := hB.cells3
    go_wp2_with fail
    refine (CF.out _ hE).mono ?_; rintro e w3 ⟨rfl, h3⟩
    clear xl x0 x1 x2 xf0 xf1 xf2
    replace hB := hB.ext h3
    replace hE := hE.trans h3
    obtain ⟨xl, x0, x1, x2, xf0, xf1, xf2⟩ := hB.cells3
    go_upto_region 3 with fail
    have hLU : U64 L.length := by show L.length < _; omega
    have p1 : (⟨(putT tn.data.toList).toArray⟩ : ByteArray).size ≤ 42 := by
     rw [size_len]
     have h10 := putL_ten (u := tn.data.toList.length) (show tn.data.toList.length < _ from Nat.lt_of_le_of_lt (show tn.data.toList.length ≤ 32 from htl) (by decide))
     unfold putT
     rw [List.length_append]
     have : tn.data.toList.length ≤ 32 := htl
     omega
    have p2 : (⟨(putL L.length).toArray⟩ : ByteArray).size ≤ 10 := by rw [size_len]; exact putL_ten hLU
    have hPL2 := hPL.out
    have hPT2 := hPT.out
    obtain ⟨b1, hb1⟩ : ∃ b : ByteArray, b = ⟨(putT tn.data.toList).toArray⟩ := ⟨_, rfl⟩
    obtain ⟨b2, hb2⟩ : ∃ b : ByteArray, b = ⟨(putL L.length).toArray⟩ := ⟨_, rfl⟩
    rw [← hb1] at p1 hPT2
    rw [← hb2] at p2 hPL2
    replace hPL := Lib.hid (fun U => hPL2 U hLU)
    replace hPT := Lib.hid hPT2
    clear hPL2 hPT2
    have hs0 : Hid ((b1 ++ b2).data.toList = putT tn.data.toList ++ putL L.length) := by
     show _ = _
     rw [data_append, hb1, hb2]
    clear hb1 hb2
    refine sx_ ?_
    refine rg_ 10 (Ext.refl w3) ?_
    refine tks (List.range' 0 10) 1023 0 (hq := by intro x; (repeat go_big_quiet_step ((first | (go_at_call 62; with_reducible exact Calls.quietE (hPT.out _)) | (go_at_call 63; with_reducible exact Calls.quietE (hPL.out _))))); exact wpQuiet_nil rfl) ?_
    refine kd_ (Ext.refl w3) fun w1a hx1a hX1a => ?_
    clear xl x0 x1 x2 xf0 xf1 xf2 hx1a
    replace hB := hB.ext hX1a
    replace hE := hE.trans hX1a
    have hz : (b1 ++ b2).size ≤ 52 := by rw [ByteArray.size_append]; omega
    generalize b1 ++ b2 = b0 at *
    clear hX1a p1 p2 hPL hPT
    obtain ⟨xl, x0, x1, x2, xf0, xf1, xf2⟩ := hB.cells3
    go_wp2
    clear xl x0 x1 x2 xf0 xf1 xf2
    go_loopw [3, 33] (fun t i wr => ∃ (k : Nat) (b : ByteArray), k ≤ L.length ∧ i = .int .i64 k ∧ t = .string b ∧ b.size ≤ 52 + 20 * k ∧ Hid (b.data.toList = putT tn.data.toList ++ putL L.length ++ (L.take k).flatMap putC) ∧ Ext w wr ∧ CB bB [.string tn, .slice q L.length cap, .string sg] wr) (fun _ i _ => L.length - (intOf i).toNat)
    case atStart => exact ⟨0, b0, by omega, rfl, rfl, by omega, by show _ = _; rw [hs0.out, List.take_zero]; simp, hE, hB⟩
    case round =>
     obtain ⟨k, b, hk, rfl, rfl, hbs, hb, g1, g2⟩ := hrel
     by_cases hlt : k < L.length
     ·obtain ⟨bq, off, rfl, hbl, c0, c1⟩ := (hx.ext g1).at hlt
      have hcU := hU _ (show L.getD k (0, 0) ∈ L by rw [List.getD_eq_getElem?_getD, List.getElem?_eq_getElem hlt]; exact List.getElem_mem hlt)
      have hst : (L.take (k + 1)).flatMap putC = (L.take k).flatMap putC ++ putC (L.getD k (0, 0)) := by
       rw [List.take_add_one, List.getElem?_eq_getElem hlt, List.flatMap_append, List.getD_eq_getElem?_getD, List.getElem?_eq_getElem hlt]
       simp
      generalize L.getD k (0, 0) = c at *
      obtain ⟨ck, cn⟩ := c
      simp only at c0 c1 hcU
      have hpl := putC_len (c := (ck, cn)) hcU
      have C1 := fun U => putc_w (ck, cn) hcU U
      simp only at C1
      obtain ⟨pb, hpb⟩ : ∃ b : ByteArray, b = ⟨(putC (ck, cn)).toArray⟩ := ⟨_, rfl⟩
      rw [← hpb] at C1
      have hps : pb.size ≤ 20 := by rw [hpb, size_len]; exact hpl
      have hnx : Hid ((b ++ pb).data.toList = putT tn.data.toList ++ putL L.length ++ (L.take (k + 1)).flatMap putC) := by
       show _ = _
       rw [data_append, hb.out, hst, hpb, List.append_assoc]
      clear hpb hpl hst
      replace C1 := Lib.hid C1
      have hbnd : b.size ≤ 1000 := by omega
      go_upto_region 7 with fail
      have hN : CB wr.heap.size [.int .i64 ck, .int .u64 (cn : Nat)] (wr.alloc (.cells #[.int .i64 ck, .int .u64 (cn : Nat)] 38)) := CB.new wr #[.int .i64 ck, .int .u64 (cn : Nat)] 38
      have e6 : Ext wr (wr.alloc (.cells #[.int .i64 ck, .int .u64 (cn : Nat)] 38)) := (Ext.refl _).alloc _
      replace g1 := g1.trans e6
      replace g2 := g2.ext e6
      clear c0 c1 hbl e6
      generalize wr.alloc (.cells #[.int .i64 ck, .int .u64 (cn : Nat)] 38) = w6 at *
      generalize wr.heap.size = bn at *
      have yl := hN.lt
      have y0 := hN.cell 0 (by simp)
      have y1 := hN.cell 1 (by simp)
      go_wp2_with fail
      refine (C1.out _).mono ?_; rintro e w7 ⟨rfl, h7⟩
      clear yl y0 y1
      go_wp2
      go_roundw
      case rel => exact ⟨k + 1, b ++ pb, by omega, by go_num, rfl, by rw [ByteArray.size_append, Nat.mul_add]; omega, hnx, g1.trans h7, g2.ext h7⟩
      case measure => simp [intOf]; omega
     ·have hge : ¬ ((k : Int) < (L.length : Int)) := by omega
      have hbe : b.data.toList = putT tn.data.toList ++ putL L.length ++ L.flatMap putC := by
       have := hb.out
       rwa [List.take_of_length_le (by omega)] at this
      have hfin : Hid ((⟨(putTok (tn, L, sg)).toArray⟩ : ByteArray) = b ++ sg) := by
       show _ = _
       refine (mk_bytes ?_).symm
       rw [data_append, hbe, ← hPK.out, hpk.out]
       simp
      have hbnd : b.size ≤ 1000 := by omega
      clear hbe hb
      obtain ⟨xl, x0, x1, x2, xf0, xf1, xf2⟩ := g2.cells3
      go_wp2
      go_ret
      exact ⟨by rw [hfin.out]; rfl, g1⟩
   ·have h32i : ¬ (sg.size : Int) = 32 := by omega
    go_enter Tryz.func26, Tryz.ntmps26
    go_upto_region 1 with fail
    generalize w.alloc (.cells #[.string tn, .slice q L.length cap, .string sg] 24) = w1 at *
    generalize w.heap.size = bB at *
    obtain ⟨xl, x0, x1, x2, xf0, xf1, xf2⟩ := hB.cells3
    go_wp2_with fail
    refine (CR.out _ hE).mono ?_; rintro e w2 ⟨rfl, h2⟩
    clear xl x0 x1 x2 xf0 xf1 xf2
    replace hB := hB.ext h2
    obtain ⟨xl, x0, x1, x2, xf0, xf1, xf2⟩ := hB.cells3
    go_wp2_with fail
    refine (CF.out _ (hE.trans h2)).mono ?_; rintro e w3 ⟨rfl, h3⟩
    clear xl x0 x1 x2 xf0 xf1 xf2
    replace hB := hB.ext h3
    obtain ⟨xl, x0, x1, x2, xf0, xf1, xf2⟩ := hB.cells3
    go_wp2
    go_ret
    exact ⟨by rw [← hPK.out, hno.out (fun h => h32 h.2.2)]; rfl, (hE.trans h2).trans h3⟩
end Go.Proofs.YtefjdmjkofaajaaGreatDoor
namespace Go.Dm
open Go Go.RowKit
def getCav (l : Bs) (p : Int) : Cav × Int × Bool := (((min (getI l p).1 3 : Nat), (getI l (getI l p).2.1).1), (getI l (getI l p).2.1).2.1, (getI l p).2.2 && (getI l (getI l p).2.1).2.2)
def cavsAt (l : Bs) (p : Int) : Nat → Option (List Cav × Int)
  | 0 => some ([], p)
  | k + 1 => match cavsAt l p k with
    | none => none
    | some (cs, z) => if (getCav l z).2.2 then some (cs ++ [(getCav l z).1], (getCav l z).2.1) else none
def noTok : TokQ × Int × Bool := ((⟨#[]⟩, [], ⟨#[]⟩), 0, false)
def tokAt (l : Bs) (tn : ByteArray) : Option (List Cav × Int) → TokQ × Int × Bool
  | none => noTok
  | some (cs, z) => if putTok (tn, cs, ⟨((l.drop z.toNat).take 32).toArray⟩) = [] then noTok else ((tn, cs, ⟨((l.drop z.toNat).take 32).toArray⟩), z + 32, true)
def getTok (l : Bs) (p : Int) : TokQ × Int × Bool :=
  if (atI (getTextL 32) [] l p).2.2 = false ∨ (getI l (atI (getTextL 32) [] l p).2.1).2.2 = false ∨ 8 < (getI l (atI (getTextL 32) [] l p).2.1).1 then noTok
  else tokAt l ⟨(atI (getTextL 32) [] l p).1.toArray⟩ (cavsAt l (getI l (atI (getTextL 32) [] l p).2.1).2.1 (getI l (atI (getTextL 32) [] l p).2.1).1)
theorem text32 {l : Bs} {p : Int} (hl : l.length ≤ 281474976710656) (h : (atI (getTextL 32) [] l p).2.2 = true) : (atI (getTextL 32) [] l p).1.length ≤ 32 := by
  rcases hr : atI (getTextL 32) [] l p with ⟨t, n, b⟩
  rw [hr] at h
  obtain rfl : b = true := h
  exact ((text_iff (Nat.lt_of_le_of_lt hl (by decide))).1 hr).1
theorem getI_range {l : Bs} {p : Int} (hl : l.length ≤ 281474976710656) (h : (getI l p).2.2 = true) : 0 ≤ (getI l p).2.1 ∧ (getI l p).2.1 ≤ (l.length : Int) := by
  rcases hr : getI l p with ⟨t, n, b⟩
  rw [hr] at h
  obtain rfl : b = true := h
  obtain ⟨_, q, rfl, rfl, hb⟩ := (getI_iff (Nat.lt_of_le_of_lt hl (by decide))).1 hr
  have := begins_pos hb (putL_ne t)
  show (0 : Int) ≤ ((q + (putL t).length : Nat) : Int) ∧ ((q + (putL t).length : Nat) : Int) ≤ _
  omega
theorem getI_fit {l : Bs} {p : Int} (hl : l.length ≤ 281474976710656) : U64 (getI l p).1 := by
  rcases hr : getI l p with ⟨t, n, b⟩
  cases b with
  | true => exact ((getI_iff (Nat.lt_of_le_of_lt hl (by decide))).1 hr).1
  | false =>
    unfold getI at hr
    split at hr
    · injection hr with h1; subst h1; show (0 : Nat) < _; decide
    · split at hr
      · injection hr with _ h2; injection h2 with _ h3; cases h3
      · injection hr with h1; subst h1; show (0 : Nat) < _; decide
theorem getCav_range {l : Bs} {p : Int} (hl : l.length ≤ 281474976710656) (h : (getCav l p).2.2 = true) : U64 (getCav l p).1.2 ∧ 0 ≤ (getCav l p).2.1 ∧ (getCav l p).2.1 ≤ (l.length : Int) := by
  unfold getCav at h ⊢
  simp only [Bool.and_eq_true] at h
  exact ⟨getI_fit hl, getI_range hl h.2⟩
theorem cavsAt_succ {l : Bs} {p : Int} {k : Nat} {cs : List Cav} {z : Int} (h : cavsAt l p k = some (cs, z)) : cavsAt l p (k + 1) = if (getCav l z).2.2 = true then some (cs ++ [(getCav l z).1], (getCav l z).2.1) else none := by
  show (match cavsAt l p k with | none => none | some (cs, z) => _) = _
  rw [h]
theorem cavsAt_none {l : Bs} {p : Int} {k n : Nat} (h : cavsAt l p k = none) (hk : k ≤ n) : cavsAt l p n = none := by
  induction n with
  | zero => obtain rfl : k = 0 := by omega
            exact h
  | succ n ih =>
    by_cases e : k = n + 1
    · rw [← e]; exact h
    · show (match cavsAt l p n with | none => none | some (cs, z) => _) = _
      rw [ih (by omega)]
theorem CB.grown {b : Nat} {cs : List Value} {w w' : World} (h : CB b cs w) {r : Option Nat} (hg : w.grownBy w' r) (hb : some b ≠ r) : CB b cs w' := by
  have e := hg.block b h.lt hb
  refine ⟨Nat.lt_of_lt_of_le h.lt hg.size, fun i hi => ?_, fun i hi => ?_⟩
  · have := h.cell i hi
    simpa [World.cell?, e] using this
  · have := h.free i hi
    simpa [World.frozen?, e] using this
end Go.Dm
namespace Go.Proofs.YtefjdmjkofaajaaGreatDoor
open Go.RowKit Go.Dm
set_option maxHeartbeats 1000000 in
set_option maxRecDepth 100000 in
theorem caveat_w (s : ByteArray) (p : Int) (w : World) (hs : s.size ≤ 281474976710656) :
    Calls Tryz.prog 82 #[.string s, .int .i64 p] w fun e w' => e = .returned (.tuple #[.agg #[.int .i64 (getCav s.data.toList p).1.1, .int .u64 ((getCav s.data.toList p).1.2 : Nat)], .int .i64 (getCav s.data.toList p).2.1, .bool (getCav s.data.toList p).2.2]) ∧ Ext w w' := by
  have hln : s.data.toList.length = s.size := rfl
  have hB : CB w.heap.size [.int .i64 0, .int .u64 0] (w.alloc (.cells #[.int .i64 0, .int .u64 0] 38)) := CB.new w #[.int .i64 0, .int .u64 0] 38
  have hE : Ext w (w.alloc (.cells #[.int .i64 0, .int .u64 0] 38)) := (Ext.refl _).alloc _
  have C1 := fun U => wget_w s p U hs
  have C2 := fun U => wget_w s (getI s.data.toList p).2.1 U hs
  unfold getCav
  have hf := getI_fit (l := s.data.toList) (p := p) (hln ▸ hs)
  generalize getI s.data.toList p = A at *
  obtain ⟨a, q1, b1⟩ := A
  simp only at *
  generalize getI s.data.toList q1 = B at *
  obtain ⟨n, q2, b2⟩ := B
  simp only at *
  have hmin : Hid (((min a 3 : Nat) : Int) = min (a : Int) 3) := by
    show _ = _
    omega
  replace C1 := Lib.hid C1
  replace C2 := Lib.hid C2
  have ha : a < 18446744073709551616 := hf
  clear hf
  go_enter Tryz.func82, Tryz.ntmps82
  go_wp2_with fail
  generalize w.alloc (.cells #[.int .i64 0, .int .u64 0] 38) = w1 at *
  obtain ⟨bB, hbB⟩ : ∃ x, x = w.heap.size := ⟨_, rfl⟩
  have hwB : w.heap.size ≤ bB := by omega
  rw [← hbB] at hB
  rw [← hbB]
  clear hbB
  refine (C1.out _).mono ?_; rintro e w2 ⟨rfl, h2⟩
  go_wp2_with fail
  refine (C2.out _).mono ?_; rintro e w3 ⟨rfl, h3⟩
  replace hB := (hB.ext h2).ext h3
  replace hE := (hE.trans h2).trans h3
  have xl := hB.lt
  have x0 := hB.cell 0 (by simp)
  have x1 := hB.cell 1 (by simp)
  have f0 := hB.free 0 (by simp)
  have f1 := hB.free 1 (by simp)
  cases b1 with
  | false =>
    go_wp2
    have hz : CB bB [.int .i64 (min (a : Int) 3), .int .u64 (n : Nat)] _ := (hB.set 0 (.int .i64 (min (a : Int) 3)) (by simp)).set 1 (.int .u64 (n : Nat)) (by simp)
    have k0 := hz.cell 0 (by simp)
    have k1 := hz.cell 1 (by simp)
    refine bodyPost_ret (v := .tuple #[.agg #[.int .i64 (min (a : Int) 3), .int .u64 (n : Nat)], .int .i64 q2, .bool false]) (by simp [results, Tryz.results82, go_sem, k0, k1]) rfl ?_
    exact ⟨by rw [hmin.out]; rfl, Below.setCell (Below.setCell hE hwB _) hwB _⟩
  | true =>
    go_wp2
    have hz : CB bB [.int .i64 (min (a : Int) 3), .int .u64 (n : Nat)] _ := (hB.set 0 (.int .i64 (min (a : Int) 3)) (by simp)).set 1 (.int .u64 (n : Nat)) (by simp)
    have k0 := hz.cell 0 (by simp)
    have k1 := hz.cell 1 (by simp)
    refine bodyPost_ret (v := .tuple #[.agg #[.int .i64 (min (a : Int) 3), .int .u64 (n : Nat)], .int .i64 q2, .bool b2]) (by simp [results, Tryz.results82, go_sem, k0, k1]) rfl ?_
    exact ⟨by rw [hmin.out]; rfl, Below.setCell (Below.setCell hE hwB _) hwB _⟩
end Go.Proofs.YtefjdmjkofaajaaGreatDoor
namespace Go.Dm
open Go Go.RowKit
abbrev Fld := Bool × Bool × Bool × Bool × Bool × Bool
def noFld : Fld := (false, false, false, false, false, false)
def fldV (f : Fld) : Value := .agg #[.bool f.1, .bool f.2.1, .bool f.2.2.1, .bool f.2.2.2.1, .bool f.2.2.2.2.1, .bool f.2.2.2.2.2]
def fldD (f : Fld) : DataW Unit := .agg [.lit (.bool f.1), .lit (.bool f.2.1), .lit (.bool f.2.2.1), .lit (.bool f.2.2.2.1), .lit (.bool f.2.2.2.2.1), .lit (.bool f.2.2.2.2.2)]
open Classical in
noncomputable def fldElem (v : Value) : Option (DataW Unit × List MemPlace) := if h : ∃ f : Fld, v = fldV f then some (fldD (Classical.choose h), []) else none
theorem fldV_inj {f g : Fld} (h : fldV f = fldV g) : f = g := by
 obtain ⟨a, b, c, d, e, i⟩ := f
 obtain ⟨a', b', c', d', e', i'⟩ := g
 unfold fldV at h
 injection h with h
 simp at h
 obtain ⟨h1, h2, h3, h4, h5, h6⟩ := h
 rw [h1, h2, h3, h4, h5, h6]
theorem fldD_inj {f g : Fld} (h : fldD f = fldD g) : f = g := by
 obtain ⟨a, b, c, d, e, i⟩ := f
 obtain ⟨a', b', c', d', e', i'⟩ := g
 unfold fldD at h
 injection h with h
 simp at h
 obtain ⟨h1, h2, h3, h4, h5, h6⟩ := h
 rw [h1, h2, h3, h4, h5, h6]
theorem fldElem_mk (f : Fld) : fldElem (fldV f) = some (fldD f, []) := by
 unfold fldElem
 have h : ∃ g : Fld, fldV f = fldV g := ⟨f, rfl⟩
 rw [dif_pos h, ← fldV_inj (Classical.choose_spec h)]
theorem fldElem_inv {v : Value} {f : Fld} {ps : List MemPlace} (h : fldElem v = some (fldD f, ps)) : v = fldV f := by
 unfold fldElem at h
 split at h
 ·rename_i hx
  injection h with h
  injection h with h _
  rw [← fldD_inj h]
  exact Classical.choose_spec hx
 ·cases h
theorem CB.cells6 {b : Nat} {a0 a1 a2 a3 a4 a5 : Value} {w : World} (h : CB b [a0, a1, a2, a3, a4, a5] w) : b < w.heap.size ∧ w.cell? ⟨b, 0, none⟩ = some a0 ∧ w.cell? ⟨b, 1, none⟩ = some a1 ∧ w.cell? ⟨b, 2, none⟩ = some a2 ∧ w.cell? ⟨b, 3, none⟩ = some a3 ∧ w.cell? ⟨b, 4, none⟩ = some a4 ∧ w.cell? ⟨b, 5, none⟩ = some a5 :=
 ⟨h.lt, h.cell 0 (by simp), h.cell 1 (by simp), h.cell 2 (by simp), h.cell 3 (by simp), h.cell 4 (by simp), h.cell 5 (by simp)⟩
theorem Ext.put_ {w0 w w' : World} {g : Nat} (h : Ext w0 w) (hg : w.grownBy w' (some g)) (hb : w0.heap.size ≤ g) : Ext w0 w' := Below.grown h hg h.size (fun k hk => by injection hk with hk; omega)
def putKF (g : Int → Option Fld) (k : Int) (f : Fld) : Int → Option Fld := fun z => if z = k then some f else g z
def knownF : Int → Option Fld := putKF (putKF (putKF (putKF (putKF (putKF (putKF (putKF (putKF (putKF (putKF (putKF (putKF (fun _ => none) 1 (false, false, false, false, true, false)) 2 (true, false, false, false, false, false)) 3 (false, false, true, true, false, false)) 4 (true, false, false, false, false, false)) 5 (false, true, false, false, false, false)) 6 (false, true, false, false, false, false)) 7 (false, false, true, false, false, false)) 8 (false, false, true, false, false, false)) 9 (false, false, false, true, false, false)) 10 (false, false, true, true, false, true)) 11 (false, false, true, false, false, false)) 12 (false, false, true, false, false, false)) 13 (false, false, false, false, false, false)
end Go.Dm
namespace Go.Proofs.YtefjdmjkofaajaaGreatDoor
open Go.RowKit Go.Dm Go.Maps
theorem kindKeyed : Keyed Tryz.prog 3 := int_keyed Tryz.underlying3
theorem fldZero (w : World) : (zeroValue 108).run Tryz.prog w = .ok (fldV noFld) w := by kernel_rfl
def MapK (w : World) (B n : Nat) (g : Int → Option Fld) : Prop :=
 ∃ D : DataW Unit, w.ownsMap Tryz.prog 3 fldElem B n D ∧ IsMap D ∧ ∀ z, D.atKey (.int .i64 z) (fldD noFld) = fldD ((g z).getD noFld) ∧ Maps.has D (.int .i64 z) = (g z).isSome
theorem MapK.lt {w : World} {B n : Nat} {g} (h : MapK w B n g) : B < w.heap.size := by obtain ⟨D, h1, _⟩ := h; exact h1.lt
theorem MapK.ext {w w' : World} {B n : Nat} {g} (h : MapK w B n g) (hx : Ext w w') : MapK w' B n g := by
 obtain ⟨D, h1, h2, h3⟩ := h
 refine ⟨D, ?_, h2, h3⟩
 obtain ⟨es, clock, hb, r⟩ := h1
 exact ⟨es, clock, by rw [hx.block B (Array.getElem?_eq_some_iff.1 hb).1]; exact hb, r⟩
theorem MapK.made (w : World) : MapK (w.alloc (.map #[] 0)) w.heap.size 0 fun _ => none :=
 ⟨.map [], World.ownsMap_made w _ _ _, isMap_empty, fun _ => ⟨rfl, rfl⟩⟩
theorem wfk {z : Int} (h : -9223372036854775808 ≤ z ∧ z ≤ 9223372036854775807) : (Lit.int .i64 z).wf = true := by
 simp [Lit.wf, IntKind.min, IntKind.max, IntKind.signed, IntKind.bits]
 omega
theorem MapK.look {w : World} {B n : Nat} {g} (h : MapK w B n g) {z : Int} (hz : -9223372036854775808 ≤ z ∧ z ≤ 9223372036854775807) : (Instr.lookup 110 (.map (some B)) (.int .i64 z) true).run Tryz.prog w = .ok (.tuple #[fldV ((g z).getD noFld), .bool (g z).isSome]) w := by
 obtain ⟨D, h1, _, h3⟩ := h
 obtain ⟨v, ps, hrun, hv⟩ := h1.look_ok kindKeyed Tryz.underlying110 (fldZero w) (fldElem_mk _) (keyOf_int_mk (P := Tryz.prog) Tryz.underlying3 (wfk hz))
 rw [(h3 z).1] at hv
 rw [hrun, fldElem_inv hv, (h3 z).2]
theorem MapK.look1 {w : World} {B n : Nat} {g} (h : MapK w B n g) {z : Int} (hz : -9223372036854775808 ≤ z ∧ z ≤ 9223372036854775807) : (Instr.lookup 110 (.map (some B)) (.int .i64 z) false).run Tryz.prog w = .ok (fldV ((g z).getD noFld)) w := by
 obtain ⟨D, h1, _, h3⟩ := h
 obtain ⟨v, ps, hrun, hv⟩ := h1.lookup kindKeyed Tryz.underlying110 (fldZero w) (fldElem_mk _) (keyOf_int_mk (P := Tryz.prog) Tryz.underlying3 (wfk hz))
 rw [(h3 z).1] at hv
 rw [hrun, fldElem_inv hv]
theorem wpList_putKF {w : World} {ops : Array Oper} {rest : List Oper} {o : Oper} {a : Act} {Q : Exit → Act → World → Prop} (hg : o.guard = none) (m x v : Operand) (hop : o.op = Op.insert 110 m x v)
  {B n : Nat} {g : Int → Option Fld} (hm : a.eval m = .map (some B)) (hown : MapK w B n g) (hn : n < maxLen) {z : Int} {f : Fld} (hz : -9223372036854775808 ≤ z ∧ z ≤ 9223372036854775807) (hx : a.eval x = .int .i64 z) (hv : a.eval v = fldV f)
  (hK : ∀ w', MapK w' B (n + 1) (putKF g z f) → w.grownBy w' (some B) → wpList Tryz.prog ops Q rest (a.put o.dst undef) w') : wpList Tryz.prog ops Q (o :: rest) a w := by
 obtain ⟨D, h1, h2, h3⟩ := hown
 refine wpList_plain hg fun K' hK' => ?_
 obtain ⟨w', hrun, r1, r2⟩ := h1.update kindKeyed Tryz.underlying110 hn (keyOf_int_mk (P := Tryz.prog) Tryz.underlying3 (wfk hz)) (fldElem_mk f)
 unfold Oper.wp
 simp [execOp, hop, hm, hx, hv, hrun, Result.andThen]
 refine hK' _ _ (hK w' ⟨_, r1, h2.put _ _, fun t => ?_⟩ r2)
 unfold putKF
 by_cases e : t = z
 ·subst e
  rw [if_pos rfl]
  exact ⟨atKey_put_same h2 (by first | exact trivial | rfl | simp [WideAt.IsKeyLit]) _ _, has_put_same h2 (by first | exact trivial | rfl | simp [WideAt.IsKeyLit]) _⟩
 ·have hne : Lit.int .i64 t ≠ Lit.int .i64 z := fun h => e (by injection h)
  rw [if_neg e, atKey_put_other hne, has_put_other hne]
  exact h3 t
set_option maxHeartbeats 2000000 in
set_option maxRecDepth 100000 in
theorem aknown_w (w : World) :
  Calls Tryz.prog 55 #[] w fun e w' => ∃ B, e = .returned (.map (some B)) ∧ MapK w' B 13 knownF ∧ Ext w w' := by
 go_enter Tryz.func55, Tryz.ntmps55
 go_upto_region 2 with fail
 have hA : CB w.heap.size [.bool true, .bool false, .bool false, .bool false, .bool false, .bool false] (w.alloc (.cells #[.bool true, .bool false, .bool false, .bool false, .bool false, .bool false] 108)) := CB.new w #[.bool true, .bool false, .bool false, .bool false, .bool false, .bool false] 108
 have hE : Ext w (w.alloc (.cells #[.bool true, .bool false, .bool false, .bool false, .bool false, .bool false] 108)) := (Ext.refl _).alloc _
 generalize hW1 : w.alloc (.cells #[.bool true, .bool false, .bool false, .bool false, .bool false, .bool false] 108) = w1 at *
 have hs1 : w1.heap.size = w.heap.size + 1 := by rw [← hW1, World.size_alloc]
 have hB : CB w1.heap.size [.bool false, .bool true, .bool false, .bool false, .bool false, .bool false] (w1.alloc (.cells #[.bool false, .bool true, .bool false, .bool false, .bool false, .bool false] 108)) := CB.new w1 #[.bool false, .bool true, .bool false, .bool false, .bool false, .bool false] 108
 have e2 : Ext w1 (w1.alloc (.cells #[.bool false, .bool true, .bool false, .bool false, .bool false, .bool false] 108)) := (Ext.refl _).alloc _
 replace hE := hE.trans e2
 replace hA := hA.ext e2
 generalize hW2 : w1.alloc (.cells #[.bool false, .bool true, .bool false, .bool false, .bool false, .bool false] 108) = w2 at *
 have hs2 : w2.heap.size = w.heap.size + 1 + 1 := by rw [← hW2, World.size_alloc, hs1]
 have hC : CB w2.heap.size [.bool false, .bool false, .bool true, .bool false, .bool false, .bool false] (w2.alloc (.cells #[.bool false, .bool false, .bool true, .bool false, .bool false, .bool false] 108)) := CB.new w2 #[.bool false, .bool false, .bool true, .bool false, .bool false, .bool false] 108
 have e3 : Ext w2 (w2.alloc (.cells #[.bool false, .bool false, .bool true, .bool false, .bool false, .bool false] 108)) := (Ext.refl _).alloc _
 replace hE := hE.trans e3
 replace hA := hA.ext e3
 replace hB := hB.ext e3
 generalize hW3 : w2.alloc (.cells #[.bool false, .bool false, .bool true, .bool false, .bool false, .bool false] 108) = w3 at *
 have hM := MapK.made w3
 have e4 : Ext w3 (w3.alloc (.map #[] 0)) := (Ext.refl _).alloc _
 have hmm := run_makeMap (P := Tryz.prog) 110 w3
 have hlM : w.heap.size ≤ w3.heap.size := by have := hE.size; omega
 have nA : w3.heap.size ≠ w.heap.size := by have := hA.lt; omega
 have nB : w3.heap.size ≠ w1.heap.size := by have := hB.lt; omega
 have nC : w3.heap.size ≠ w2.heap.size := by have := hC.lt; omega
 rw [hs1] at hB nB
 rw [hs2] at hC nC
 generalize hW4 : w3.alloc (.map #[] 0) = w4 at *
 replace hE := hE.trans e4
 replace hA := hA.ext e4
 replace hB := hB.ext e4
 replace hC := hC.ext e4
 clear hW1 hW2 hW3 hs1 hs2 e2 e3 e4
 generalize w.heap.size + 1 + 1 = bC at *
 generalize w.heap.size + 1 = bB at *
 obtain ⟨bM, hbM⟩ : ∃ x, x = w3.heap.size := ⟨_, rfl⟩
 rw [← hbM] at hM hmm hlM nA nB nC
 clear hbM
 obtain ⟨bA, hbA⟩ : ∃ x, x = w.heap.size := ⟨_, rfl⟩
 rw [← hbA] at hA nA
 rw [← hbA]
 replace hbA := Lib.hid hbA
 obtain ⟨al, a0, a1, a2, a3, a4, a5⟩ := hA.cells6
 obtain ⟨bl, b0, b1, b2, b3, b4, b5⟩ := hB.cells6
 obtain ⟨cl, c0, c1, c2, c3, c4, c5⟩ := hC.cells6
 go_wp2_with (first | (refine wpList_putKF (z := 1) (f := (false, false, false, false, true, false)) rfl _ _ _ rfl rfl hM (by simp [maxLen]) (by omega) rfl rfl ?_; intro wn hMn hgn; clear al a0 a1 a2 a3 a4 a5 bl b0 b1 b2 b3 b4 b5 cl c0 c1 c2 c3 c4 c5; replace hA := hA.grown hgn (fun e => nA (by injection e with e; exact e.symm)); replace hB := hB.grown hgn (fun e => nB (by injection e with e; exact e.symm)); replace hC := hC.grown hgn (fun e => nC (by injection e with e; exact e.symm)); replace hE := hE.put_ hgn hlM; replace hM := hMn; clear hMn hgn; obtain ⟨al, a0, a1, a2, a3, a4, a5⟩ := hA.cells6; obtain ⟨bl, b0, b1, b2, b3, b4, b5⟩ := hB.cells6; obtain ⟨cl, c0, c1, c2, c3, c4, c5⟩ := hC.cells6) | (refine wpList_putKF (z := 2) (f := (true, false, false, false, false, false)) rfl _ _ _ rfl rfl hM (by simp [maxLen]) (by omega) rfl rfl ?_; intro wn hMn hgn; clear al a0 a1 a2 a3 a4 a5 bl b0 b1 b2 b3 b4 b5 cl c0 c1 c2 c3 c4 c5; replace hA := hA.grown hgn (fun e => nA (by injection e with e; exact e.symm)); replace hB := hB.grown hgn (fun e => nB (by injection e with e; exact e.symm)); replace hC := hC.grown hgn (fun e => nC (by injection e with e; exact e.symm)); replace hE := hE.put_ hgn hlM; replace hM := hMn; clear hMn hgn; obtain ⟨al, a0, a1, a2, a3, a4, a5⟩ := hA.cells6; obtain ⟨bl, b0, b1, b2, b3, b4, b5⟩ := hB.cells6; obtain ⟨cl, c0, c1, c2, c3, c4, c5⟩ := hC.cells6) | (refine wpList_putKF (z := 3) (f := (false, false, true, true, false, false)) rfl _ _ _ rfl rfl hM (by simp [maxLen]) (by omega) rfl rfl ?_; intro wn hMn hgn; clear al a0 a1 a2 a3 a4 a5 bl b0 b1 b2 b3 b4 b5 cl c0 c1 c2 c3 c4 c5; replace hA := hA.grown hgn (fun e => nA (by injection e with e; exact e.symm)); replace hB := hB.grown hgn (fun e => nB (by injection e with e; exact e.symm)); replace hC := hC.grown hgn (fun e => nC (by injection e with e; exact e.symm)); replace hE := hE.put_ hgn hlM; replace hM := hMn; clear hMn hgn; obtain ⟨al, a0, a1, a2, a3, a4, a5⟩ := hA.cells6; obtain ⟨bl, b0, b1, b2, b3, b4, b5⟩ := hB.cells6; obtain ⟨cl, c0, c1, c2, c3, c4, c5⟩ := hC.cells6) | (refine wpList_putKF (z := 4) (f := (true, false, false, false, false, false)) rfl _ _ _ rfl rfl hM (by simp [maxLen]) (by omega) rfl rfl ?_; intro wn hMn hgn; clear al a0 a1 a2 a3 a4 a5 bl b0 b1 b2 b3 b4 b5 cl c0 c1 c2 c3 c4 c5; replace hA := hA.grown hgn (fun e => nA (by injection e with e; exact e.symm)); replace hB := hB.grown hgn (fun e => nB (by injection e with e; exact e.symm)); replace hC := hC.grown hgn (fun e => nC (by injection e with e; exact e.symm)); replace hE := hE.put_ hgn hlM; replace hM := hMn; clear hMn hgn; obtain ⟨al, a0, a1, a2, a3, a4, a5⟩ := hA.cells6; obtain ⟨bl, b0, b1, b2, b3, b4, b5⟩ := hB.cells6; obtain ⟨cl, c0, c1, c2, c3, c4, c5⟩ := hC.cells6) | (refine wpList_putKF (z := 5) (f := (false, true, false, false, false, false)) rfl _ _ _ rfl rfl hM (by simp [maxLen]) (by omega) rfl rfl ?_; intro wn hMn hgn; clear al a0 a1 a2 a3 a4 a5 bl b0 b1 b2 b3 b4 b5 cl c0 c1 c2 c3 c4 c5; replace hA := hA.grown hgn (fun e => nA (by injection e with e; exact e.symm)); replace hB := hB.grown hgn (fun e => nB (by injection e with e; exact e.symm)); replace hC := hC.grown hgn (fun e => nC (by injection e with e; exact e.symm)); replace hE := hE.put_ hgn hlM; replace hM := hMn; clear hMn hgn; obtain ⟨al, a0, a1, a2, a3, a4, a5⟩ := hA.cells6; obtain ⟨bl, b0, b1, b2, b3, b4, b5⟩ := hB.cells6; obtain ⟨cl, c0, c1, c2, c3, c4, c5⟩ := hC.cells6) | (refine wpList_putKF (z := 6) (f := (false, true, false, false, false, false)) rfl _ _ _ rfl rfl hM (by simp [maxLen]) (by omega) rfl rfl ?_; intro wn hMn hgn; clear al a0 a1 a2 a3 a4 a5 bl b0 b1 b2 b3 b4 b5 cl c0 c1 c2 c3 c4 c5; replace hA := hA.grown hgn (fun e => nA (by injection e with e; exact e.symm)); replace hB := hB.grown hgn (fun e => nB (by injection e with e; exact e.symm)); replace hC := hC.grown hgn (fun e => nC (by injection e with e; exact e.symm)); replace hE := hE.put_ hgn hlM; replace hM := hMn; clear hMn hgn; obtain ⟨al, a0, a1, a2, a3, a4, a5⟩ := hA.cells6; obtain ⟨bl, b0, b1, b2, b3, b4, b5⟩ := hB.cells6; obtain ⟨cl, c0, c1, c2, c3, c4, c5⟩ := hC.cells6) | (refine wpList_putKF (z := 7) (f := (false, false, true, false, false, false)) rfl _ _ _ rfl rfl hM (by simp [maxLen]) (by omega) rfl rfl ?_; intro wn hMn hgn; clear al a0 a1 a2 a3 a4 a5 bl b0 b1 b2 b3 b4 b5 cl c0 c1 c2 c3 c4 c5; replace hA := hA.grown hgn (fun e => nA (by injection e with e; exact e.symm)); replace hB := hB.grown hgn (fun e => nB (by injection e with e; exact e.symm)); replace hC := hC.grown hgn (fun e => nC (by injection e with e; exact e.symm)); replace hE := hE.put_ hgn hlM; replace hM := hMn; clear hMn hgn; obtain ⟨al, a0, a1, a2, a3, a4, a5⟩ := hA.cells6; obtain ⟨bl, b0, b1, b2, b3, b4, b5⟩ := hB.cells6; obtain ⟨cl, c0, c1, c2, c3, c4, c5⟩ := hC.cells6) | (refine wpList_putKF (z := 8) (f := (false, false, true, false, false, false)) rfl _ _ _ rfl rfl hM (by simp [maxLen]) (by omega) rfl rfl ?_; intro wn hMn hgn; clear al a0 a1 a2 a3 a4 a5 bl b0 b1 b2 b3 b4 b5 cl c0 c1 c2 c3 c4 c5; replace hA := hA.grown hgn (fun e => nA (by injection e with e; exact e.symm)); replace hB := hB.grown hgn (fun e => nB (by injection e with e; exact e.symm)); replace hC := hC.grown hgn (fun e => nC (by injection e with e; exact e.symm)); replace hE := hE.put_ hgn hlM; replace hM := hMn; clear hMn hgn; obtain ⟨al, a0, a1, a2, a3, a4, a5⟩ := hA.cells6; obtain ⟨bl, b0, b1, b2, b3, b4, b5⟩ := hB.cells6; obtain ⟨cl, c0, c1, c2, c3, c4, c5⟩ := hC.cells6) | (refine wpList_putKF (z := 9) (f := (false, false, false, true, false, false)) rfl _ _ _ rfl rfl hM (by simp [maxLen]) (by omega) rfl rfl ?_; intro wn hMn hgn; clear al a0 a1 a2 a3 a4 a5 bl b0 b1 b2 b3 b4 b5 cl c0 c1 c2 c3 c4 c5; replace hA := hA.grown hgn (fun e => nA (by injection e with e; exact e.symm)); replace hB := hB.grown hgn (fun e => nB (by injection e with e; exact e.symm)); replace hC := hC.grown hgn (fun e => nC (by injection e with e; exact e.symm)); replace hE := hE.put_ hgn hlM; replace hM := hMn; clear hMn hgn; obtain ⟨al, a0, a1, a2, a3, a4, a5⟩ := hA.cells6; obtain ⟨bl, b0, b1, b2, b3, b4, b5⟩ := hB.cells6; obtain ⟨cl, c0, c1, c2, c3, c4, c5⟩ := hC.cells6) | (refine wpList_putKF (z := 10) (f := (false, false, true, true, false, true)) rfl _ _ _ rfl rfl hM (by simp [maxLen]) (by omega) rfl rfl ?_; intro wn hMn hgn; clear al a0 a1 a2 a3 a4 a5 bl b0 b1 b2 b3 b4 b5 cl c0 c1 c2 c3 c4 c5; replace hA := hA.grown hgn (fun e => nA (by injection e with e; exact e.symm)); replace hB := hB.grown hgn (fun e => nB (by injection e with e; exact e.symm)); replace hC := hC.grown hgn (fun e => nC (by injection e with e; exact e.symm)); replace hE := hE.put_ hgn hlM; replace hM := hMn; clear hMn hgn; obtain ⟨al, a0, a1, a2, a3, a4, a5⟩ := hA.cells6; obtain ⟨bl, b0, b1, b2, b3, b4, b5⟩ := hB.cells6; obtain ⟨cl, c0, c1, c2, c3, c4, c5⟩ := hC.cells6) | (refine wpList_putKF (z := 11) (f := (false, false, true, false, false, false)) rfl _ _ _ rfl rfl hM (by simp [maxLen]) (by omega) rfl rfl ?_; intro wn hMn hgn; clear al a0 a1 a2 a3 a4 a5 bl b0 b1 b2 b3 b4 b5 cl c0 c1 c2 c3 c4 c5; replace hA := hA.grown hgn (fun e => nA (by injection e with e; exact e.symm)); replace hB := hB.grown hgn (fun e => nB (by injection e with e; exact e.symm)); replace hC := hC.grown hgn (fun e => nC (by injection e with e; exact e.symm)); replace hE := hE.put_ hgn hlM; replace hM := hMn; clear hMn hgn; obtain ⟨al, a0, a1, a2, a3, a4, a5⟩ := hA.cells6; obtain ⟨bl, b0, b1, b2, b3, b4, b5⟩ := hB.cells6; obtain ⟨cl, c0, c1, c2, c3, c4, c5⟩ := hC.cells6) | (refine wpList_putKF (z := 12) (f := (false, false, true, false, false, false)) rfl _ _ _ rfl rfl hM (by simp [maxLen]) (by omega) rfl rfl ?_; intro wn hMn hgn; clear al a0 a1 a2 a3 a4 a5 bl b0 b1 b2 b3 b4 b5 cl c0 c1 c2 c3 c4 c5; replace hA := hA.grown hgn (fun e => nA (by injection e with e; exact e.symm)); replace hB := hB.grown hgn (fun e => nB (by injection e with e; exact e.symm)); replace hC := hC.grown hgn (fun e => nC (by injection e with e; exact e.symm)); replace hE := hE.put_ hgn hlM; replace hM := hMn; clear hMn hgn; obtain ⟨al, a0, a1, a2, a3, a4, a5⟩ := hA.cells6; obtain ⟨bl, b0, b1, b2, b3, b4, b5⟩ := hB.cells6; obtain ⟨cl, c0, c1, c2, c3, c4, c5⟩ := hC.cells6) | (refine wpList_putKF (z := 13) (f := (false, false, false, false, false, false)) rfl _ _ _ rfl rfl hM (by simp [maxLen]) (by omega) rfl rfl ?_; intro wn hMn hgn; clear al a0 a1 a2 a3 a4 a5 bl b0 b1 b2 b3 b4 b5 cl c0 c1 c2 c3 c4 c5; replace hA := hA.grown hgn (fun e => nA (by injection e with e; exact e.symm)); replace hB := hB.grown hgn (fun e => nB (by injection e with e; exact e.symm)); replace hC := hC.grown hgn (fun e => nC (by injection e with e; exact e.symm)); replace hE := hE.put_ hgn hlM; replace hM := hMn; clear hMn hgn; obtain ⟨al, a0, a1, a2, a3, a4, a5⟩ := hA.cells6; obtain ⟨bl, b0, b1, b2, b3, b4, b5⟩ := hB.cells6; obtain ⟨cl, c0, c1, c2, c3, c4, c5⟩ := hC.cells6))
 go_ret
 exact ⟨bM, rfl, hM, hE⟩
end Go.Proofs.YtefjdmjkofaajaaGreatDoor
namespace Go.Dm
open Go Go.RowKit
def opV (k : Int) (i n : Nat) (p : ByteArray) (D : Nat → Nat) (s : ByteArray) (E : Nat → Nat) (m : Nums3) (v l : Value) : Value := .agg #[.int .i64 k, .int .u64 (i : Nat), .int .u64 (n : Nat), .string p, .int .u64 (D 0 : Nat), .int .u64 (D 1 : Nat), .int .u64 (D 2 : Nat), .int .u64 (D 3 : Nat), .string s, .int .u64 (E 0 : Nat), .int .u64 (E 1 : Nat), .int .u64 (E 2 : Nat), .int .u64 (E 3 : Nat), .int .i64 m.1, .int .i64 m.2.1, .int .i64 m.2.2, v, l]
def RB (b : Nat) (t : TypeId) (cs : List Value) (w : World) : Prop := w.heap[b]? = some (.cells cs.toArray t (0, 0))
theorem RB.lt {b : Nat} {t : TypeId} {cs : List Value} {w : World} (h : RB b t cs w) : b < w.heap.size := (Array.getElem?_eq_some_iff.1 h).1
theorem RB.ext {b : Nat} {t : TypeId} {cs : List Value} {w w' : World} (h : RB b t cs w) (hx : Ext w w') : RB b t cs w' := Ext.heap h hx
theorem RB.new (w : World) (t : TypeId) (cs : List Value) : RB w.heap.size t cs (w.alloc (.cells cs.toArray t)) := by
 show (w.heap.push _)[w.heap.size]? = _
 simp
theorem new_row (w : World) (t : TypeId) (cs : List Value) : ∃ w', w.alloc (.cells cs.toArray t) = w' ∧ RB w.heap.size t cs w' ∧ Ext w w' ∧ w'.heap.size = w.heap.size + 1 := ⟨_, rfl, RB.new w t cs, (Ext.refl _).alloc _, World.size_alloc ..⟩
theorem RB.cell {b : Nat} {t : TypeId} {cs : List Value} {w : World} (h : RB b t cs w) (i : Nat) : w.cell? ⟨b, i, none⟩ = cs[i]? := by
 rw [cell_of_row w b i _ _ _ h]; simp
theorem RB.free {b : Nat} {t : TypeId} {cs : List Value} {w : World} (h : RB b t cs w) (i : Nat) : w.frozen? ⟨b, i, none⟩ = false := by
 simp [World.frozen?, show w.heap[b]? = _ from h]
theorem RB.set {b : Nat} {t : TypeId} {cs : List Value} {w : World} (h : RB b t cs w) (i : Nat) (u : Value) : RB b t (cs.set i u) (w.setCell ⟨b, i, none⟩ u) := by
 have h := show w.heap[b]? = _ from h
 show (w.setCell ⟨b, i, none⟩ u).heap[b]? = _
 simp only [World.setCell, Array.getElem?_modify, h]
 simp
theorem RB.far {b c i : Nat} {t : TypeId} {cs : List Value} {w : World} (h : RB b t cs w) (hbc : c ≠ b) (u : Value) : RB b t cs (w.setCell ⟨c, i, none⟩ u) := by
 have h := show w.heap[b]? = _ from h
 show (w.setCell ⟨c, i, none⟩ u).heap[b]? = _
 simp only [World.setCell, Array.getElem?_modify, if_neg hbc]
 exact h
theorem RB.setRow {b : Nat} {t : TypeId} {cs : List Value} {w : World} (h : RB b t cs w) (cs' : List Value) : RB b t cs' (w.setRow b cs'.toArray) := by
 have h := show w.heap[b]? = _ from h
 show (w.setRow b cs'.toArray).heap[b]? = _
 simp [World.setRow, Array.getElem?_modify, h]
theorem RB.farRow {b c : Nat} {t : TypeId} {cs : List Value} {w : World} (h : RB b t cs w) (hbc : c ≠ b) (cs' : Array Value) : RB b t cs (w.setRow c cs') := by
 have h := show w.heap[b]? = _ from h
 show (w.setRow c cs').heap[b]? = _
 simp only [World.setRow, Array.getElem?_modify, if_neg hbc]
 exact h
theorem set_row {b : Nat} {t : TypeId} {cs : List Value} {w : World} (h : RB b t cs w) (cs' : List Value) : ∃ w', w.setRow b cs'.toArray = w' ∧ RB b t cs' w' ∧ (∀ d t2 cs2, b ≠ d → RB d t2 cs2 w → RB d t2 cs2 w') ∧ (∀ w0, Ext w0 w → w0.heap.size ≤ b → Ext w0 w') :=
 ⟨_, rfl, h.setRow cs', fun _ _ _ hne h2 => h2.farRow hne _, fun _ hx hb => Ext.setRow hx hb _⟩
theorem RB.six {b : Nat} {t : TypeId} {v0 v1 v2 v3 v4 v5 : Value} {w : World} (h : RB b t [v0, v1, v2, v3, v4, v5] w) : b < w.heap.size ∧ w.cell? ⟨b, 0, none⟩ = some v0 ∧ w.cell? ⟨b, 1, none⟩ = some v1 ∧ w.cell? ⟨b, 2, none⟩ = some v2 ∧ w.cell? ⟨b, 3, none⟩ = some v3 ∧ w.cell? ⟨b, 4, none⟩ = some v4 ∧ w.cell? ⟨b, 5, none⟩ = some v5 :=
 ⟨h.lt, h.cell 0, h.cell 1, h.cell 2, h.cell 3, h.cell 4, h.cell 5⟩
theorem RB.at {b : Nat} {t : TypeId} {cs : List Value} {w : World} (h : RB b t cs w) (i : Nat) {u : Value} (e : cs[i]? = some u) : w.cell? ⟨b, i, none⟩ = some u := (h.cell i).trans e
theorem set_cells : ∀ (us : List (Nat × Value)) {b c : Nat} {t t2 : TypeId} {cs ds : List Value} {w0 w : World}, RB b t cs w → RB c t2 ds w → b ≠ c → Ext w0 w → w0.heap.size ≤ b →
  ∃ w', us.foldl (fun w u => w.setCell ⟨b, u.1, none⟩ u.2) w = w' ∧ RB b t (us.foldl (fun l u => l.set u.1 u.2) cs) w' ∧ RB c t2 ds w' ∧ Ext w0 w' ∧ Off b w w'
 | [], _, _, _, _, _, _, _, w, h, k, _, e, _ => ⟨w, rfl, h, k, e, Off.refl _ w⟩
 | u :: us, b, c, t, t2, cs, ds, w0, w, h, k, n, e, l => by
  obtain ⟨w', h1, h2, h3, h4, h5⟩ := set_cells us (h.set u.1 u.2) (k.far n u.2) n (Below.setCell e (p := ⟨b, u.1, none⟩) l u.2) l
  exact ⟨w', h1, h2, h3, h4, ((Off.refl b w).setCell u.1 u.2).trans h5⟩
def bareV (f : Fld) (k : Int) (i n : Nat) (p : ByteArray) (D : Nat → Nat) (s : ByteArray) (E : Nat → Nat) (m : Nums3) (v l : Value) : Value :=
 opV k (cond f.1 i 0) (cond f.2.1 n 0) (cond f.2.2.1 p ⟨#[]⟩) (cond f.2.2.2.1 D fun _ => 0) (cond f.2.2.2.2.1 s ⟨#[]⟩) (cond f.2.2.2.2.1 E fun _ => 0) (cond f.2.2.2.2.1 m (0, 0, 0)) (cond f.2.2.2.2.1 v (.slice none 0 0)) (cond f.2.2.2.2.2 l (.slice none 0 0))
def isFld (f : Fld) : Prop := f = (false, false, false, false, true, false) ∨ f = (true, false, false, false, false, false) ∨ f = (false, false, true, true, false, false) ∨ f = (false, true, false, false, false, false) ∨ f = (false, false, true, false, false, false) ∨ f = (false, false, false, true, false, false) ∨ f = (false, false, true, true, false, true) ∨ f = (false, false, false, false, false, false)
theorem knownF_is {z : Int} {f : Fld} (h : knownF z = some f) : isFld f := by
 simp only [knownF, putKF] at h
 unfold isFld
 by_cases e13 : z = 13
 ·rw [if_pos e13] at h
  injection h with h
  subst h
  simp
 rw [if_neg e13] at h
 by_cases e12 : z = 12
 ·rw [if_pos e12] at h
  injection h with h
  subst h
  simp
 rw [if_neg e12] at h
 by_cases e11 : z = 11
 ·rw [if_pos e11] at h
  injection h with h
  subst h
  simp
 rw [if_neg e11] at h
 by_cases e10 : z = 10
 ·rw [if_pos e10] at h
  injection h with h
  subst h
  simp
 rw [if_neg e10] at h
 by_cases e9 : z = 9
 ·rw [if_pos e9] at h
  injection h with h
  subst h
  simp
 rw [if_neg e9] at h
 by_cases e8 : z = 8
 ·rw [if_pos e8] at h
  injection h with h
  subst h
  simp
 rw [if_neg e8] at h
 by_cases e7 : z = 7
 ·rw [if_pos e7] at h
  injection h with h
  subst h
  simp
 rw [if_neg e7] at h
 by_cases e6 : z = 6
 ·rw [if_pos e6] at h
  injection h with h
  subst h
  simp
 rw [if_neg e6] at h
 by_cases e5 : z = 5
 ·rw [if_pos e5] at h
  injection h with h
  subst h
  simp
 rw [if_neg e5] at h
 by_cases e4 : z = 4
 ·rw [if_pos e4] at h
  injection h with h
  subst h
  simp
 rw [if_neg e4] at h
 by_cases e3 : z = 3
 ·rw [if_pos e3] at h
  injection h with h
  subst h
  simp
 rw [if_neg e3] at h
 by_cases e2 : z = 2
 ·rw [if_pos e2] at h
  injection h with h
  subst h
  simp
 rw [if_neg e2] at h
 by_cases e1 : z = 1
 ·rw [if_pos e1] at h
  injection h with h
  subst h
  simp
 rw [if_neg e1] at h
 cases h
end Go.Dm
namespace Go.Proofs.YtefjdmjkofaajaaGreatDoor
open Go.RowKit Go.Dm
set_option maxHeartbeats 4000000 in
set_option maxRecDepth 100000 in
theorem bare_k {b0 b1 b2 b3 b4 b5 : Bool} (hf : isFld (b0, b1, b2, b3, b4, b5)) (k : Int) (i n : Nat) (p : ByteArray) (D : Nat → Nat) (s : ByteArray) (E : Nat → Nat) (m : Nums3) (qv ql : Option Addr) (nv cv nl cl : Nat) (w : World) :
  Calls Tryz.prog 57 #[.agg #[.int .i64 k, .int .u64 (i : Nat), .int .u64 (n : Nat), .string p, .int .u64 (D 0 : Nat), .int .u64 (D 1 : Nat), .int .u64 (D 2 : Nat), .int .u64 (D 3 : Nat), .string s, .int .u64 (E 0 : Nat), .int .u64 (E 1 : Nat), .int .u64 (E 2 : Nat), .int .u64 (E 3 : Nat), .int .i64 m.1, .int .i64 m.2.1, .int .i64 m.2.2, .slice qv nv cv, .slice ql nl cl], .agg #[.bool b0, .bool b1, .bool b2, .bool b3, .bool b4, .bool b5]] w fun e w' => e = .returned (bareV (b0, b1, b2, b3, b4, b5) k i n p D s E m (.slice qv nv cv) (.slice ql nl cl)) ∧ Ext w w' := by
 obtain ⟨w1, hW1, hO, hE, s1⟩ := new_row w 33 [.int .i64 k, .int .u64 (i : Nat), .int .u64 (n : Nat), .string p, .int .u64 (D 0 : Nat), .int .u64 (D 1 : Nat), .int .u64 (D 2 : Nat), .int .u64 (D 3 : Nat), .string s, .int .u64 (E 0 : Nat), .int .u64 (E 1 : Nat), .int .u64 (E 2 : Nat), .int .u64 (E 3 : Nat), .int .i64 m.1, .int .i64 m.2.1, .int .i64 m.2.2, .slice qv nv cv, .slice ql nl cl]
 obtain ⟨w2, hW2, hF, e2, s2⟩ := new_row w1 108 [.bool b0, .bool b1, .bool b2, .bool b3, .bool b4, .bool b5]
 obtain ⟨w3, hW3, hR, e3, s3⟩ := new_row w2 33 [.int .i64 0, .int .u64 0, .int .u64 0, .string ⟨#[]⟩, .int .u64 0, .int .u64 0, .int .u64 0, .int .u64 0, .string ⟨#[]⟩, .int .u64 0, .int .u64 0, .int .u64 0, .int .u64 0, .int .i64 0, .int .i64 0, .int .i64 0, .slice none 0 0, .slice none 0 0]
 obtain ⟨w4, hW4, hN, e4, _⟩ := new_row w3 33 [.int .i64 0, .int .u64 0, .int .u64 0, .string ⟨#[]⟩, .int .u64 0, .int .u64 0, .int .u64 0, .int .u64 0, .string ⟨#[]⟩, .int .u64 0, .int .u64 0, .int .u64 0, .int .u64 0, .int .i64 0, .int .i64 0, .int .i64 0, .slice none 0 0, .slice none 0 0]
 obtain ⟨bF, hbF⟩ : ∃ x, w1.heap.size = x := ⟨_, rfl⟩
 obtain ⟨bR, hbR⟩ : ∃ x, w2.heap.size = x := ⟨_, rfl⟩
 obtain ⟨bN, hbN⟩ : ∃ x, w3.heap.size = x := ⟨_, rfl⟩
 have q1 : w.heap.size ≤ bR ∧ bR < bN ∧ w.heap.size < bR ∧ bF < bR ∧ w.heap.size < w3.heap.size := by omega
 obtain ⟨q1, q2, q3, q4, xl⟩ := q1
 clear s1 s2 s3
 rw [hbF] at hF
 rw [hbR] at hR
 rw [hbN] at hN
 have x0 : w3.cell? ⟨w.heap.size, 0, none⟩ = some (.int .i64 k) := ((hO.ext e2).ext e3).cell 0
 replace hO := ((hO.ext e2).ext e3).ext e4
 replace hF := (hF.ext e3).ext e4
 replace hR := hR.ext e4
 replace hE := ((hE.trans e2).trans e3).trans e4
 rw [hbN] at xl
 have xl' : w.heap.size < w3.heap.size := by omega
 have x0' : w4.cell? ⟨w.heap.size, 0, none⟩ = some (.int .i64 k) := hO.cell 0
 have xl4 := hO.lt
 go_enter Tryz.func57, Tryz.ntmps57
 go_wp2_with (first | (refine wpList_store_row (cells := #[.int .i64 k, .int .u64 0, .int .u64 0, .string ⟨#[]⟩, .int .u64 0, .int .u64 0, .int .u64 0, .int .u64 0, .string ⟨#[]⟩, .int .u64 0, .int .u64 0, .int .u64 0, .int .u64 0, .int .i64 0, .int .i64 0, .int .i64 0, .slice none 0 0, .slice none 0 0]) rfl 33 _ _ rfl bN rfl rfl _ _ hN (by kernel_rfl) rfl (by first | rfl | decide | simp [Value.oneCell']) ?_; refine Hid.out ?_))
 refine Lib.hid ?_
 obtain ⟨w5, hW5, hN5, hfar, hext⟩ := set_row hN [.int .i64 k, .int .u64 0, .int .u64 0, .string ⟨#[]⟩, .int .u64 0, .int .u64 0, .int .u64 0, .int .u64 0, .string ⟨#[]⟩, .int .u64 0, .int .u64 0, .int .u64 0, .int .u64 0, .int .i64 0, .int .i64 0, .int .i64 0, .slice none 0 0, .slice none 0 0]
 have hO5 := hfar _ _ _ (by omega) hO
 have hF5 := hfar _ _ _ (by omega) hF
 have hR5 := hfar _ _ _ (by omega) hR
 have hE5 := hext _ hE (by omega)
 clear hW1 hW2 hW3 hW4 hbF hbR hbN x0 x0' xl xl' xl4 hN hO hF hR hE e2 e3 e4 hfar hext
 rw [hW5]
 clear hW5
 obtain ⟨bO, hbO⟩ : ∃ x, x = w.heap.size := ⟨_, rfl⟩
 rw [← hbO] at hO5 q3
 rw [← hbO]
 clear hbO
 rcases hf with h | h | h | h | h | h | h | h <;> (simp only [Prod.mk.injEq] at h; obtain ⟨rfl, rfl, rfl, rfl, rfl, rfl⟩ := h; obtain ⟨fl, f0, f1, f2, f3, f4, f5⟩ := hF5.six; have bol := hO5.lt; have bnl := hN5.lt)
 ·skip
  have x8 := hO5.at 8 rfl
  have y8 := hN5.at 8 rfl
  have yf8 := hN5.free 8
  have x9 := hO5.at 9 rfl
  have y9 := hN5.at 9 rfl
  have yf9 := hN5.free 9
  have x10 := hO5.at 10 rfl
  have y10 := hN5.at 10 rfl
  have yf10 := hN5.free 10
  have x11 := hO5.at 11 rfl
  have y11 := hN5.at 11 rfl
  have yf11 := hN5.free 11
  have x12 := hO5.at 12 rfl
  have y12 := hN5.at 12 rfl
  have yf12 := hN5.free 12
  have x13 := hO5.at 13 rfl
  have y13 := hN5.at 13 rfl
  have yf13 := hN5.free 13
  have x14 := hO5.at 14 rfl
  have y14 := hN5.at 14 rfl
  have yf14 := hN5.free 14
  have x15 := hO5.at 15 rfl
  have y15 := hN5.at 15 rfl
  have yf15 := hN5.free 15
  have x16 := hO5.at 16 rfl
  have y16 := hN5.at 16 rfl
  have yf16 := hN5.free 16
  go_upto_region 14 with fail
  clear f0 f1 f2 f3 f4 f5 fl bol bnl hF5 hO5 x8 y8 yf8 x9 y9 yf9 x10 y10 yf10 x11 y11 yf11 x12 y12 yf12 x13 y13 yf13 x14 y14 yf14 x15 y15 yf15 x16 y16 yf16
  obtain ⟨w6, hW, hN6, hR6, hE6, -⟩ := set_cells [(8, .string s), (9, .int .u64 (E 0 : Nat)), (10, .int .u64 (E 1 : Nat)), (11, .int .u64 (E 2 : Nat)), (12, .int .u64 (E 3 : Nat)), (13, .int .i64 m.1), (14, .int .i64 m.2.1), (15, .int .i64 m.2.2), (16, .slice qv nv cv)] hN5 hR5 (Nat.ne_of_gt q2) hE5 (Nat.le_trans q1 (Nat.le_of_lt q2))
  simp only [List.foldl] at hW
  rw [hW]
  clear hN5 hR5 hE5 hW
  have hN6 : RB bN 33 [.int .i64 k, .int .u64 0, .int .u64 0, .string ⟨#[]⟩, .int .u64 0, .int .u64 0, .int .u64 0, .int .u64 0, .string s, .int .u64 (E 0 : Nat), .int .u64 (E 1 : Nat), .int .u64 (E 2 : Nat), .int .u64 (E 3 : Nat), .int .i64 m.1, .int .i64 m.2.1, .int .i64 m.2.2, .slice qv nv cv, .slice none 0 0] w6 := hN6
  have hZ := hR6.setRow [.int .i64 k, .int .u64 0, .int .u64 0, .string ⟨#[]⟩, .int .u64 0, .int .u64 0, .int .u64 0, .int .u64 0, .string s, .int .u64 (E 0 : Nat), .int .u64 (E 1 : Nat), .int .u64 (E 2 : Nat), .int .u64 (E 3 : Nat), .int .i64 m.1, .int .i64 m.2.1, .int .i64 m.2.2, .slice qv nv cv, .slice none 0 0]
  have hE7 : Ext w (w6.setRow bR #[.int .i64 k, .int .u64 0, .int .u64 0, .string ⟨#[]⟩, .int .u64 0, .int .u64 0, .int .u64 0, .int .u64 0, .string s, .int .u64 (E 0 : Nat), .int .u64 (E 1 : Nat), .int .u64 (E 2 : Nat), .int .u64 (E 3 : Nat), .int .i64 m.1, .int .i64 m.2.1, .int .i64 m.2.2, .slice qv nv cv, .slice none 0 0]) := Ext.setRow hE6 q1 _
  go_wp2_with (first | (refine wpList_load_row rfl 33 _ rfl bN rfl _ _ _ _ hN6 Tryz.underlying33 rfl (by kernel_rfl) ?_) | (refine wpList_store_row (cells := #[.int .i64 k, .int .u64 0, .int .u64 0, .string ⟨#[]⟩, .int .u64 0, .int .u64 0, .int .u64 0, .int .u64 0, .string s, .int .u64 (E 0 : Nat), .int .u64 (E 1 : Nat), .int .u64 (E 2 : Nat), .int .u64 (E 3 : Nat), .int .i64 m.1, .int .i64 m.2.1, .int .i64 m.2.2, .slice qv nv cv, .slice none 0 0]) rfl 33 _ _ rfl bR rfl rfl _ _ hR6 (by kernel_rfl) rfl (by first | rfl | decide | simp [Value.oneCell']) ?_))
  refine bodyPost_ret (results_cell_row rfl _ _ _ _ _ _ _ rfl hZ Tryz.underlying33 rfl (by kernel_rfl)) rfl ?_
  exact ⟨rfl, hE7⟩
 ·skip
  have x1 := hO5.at 1 rfl
  have y1 := hN5.at 1 rfl
  have yf1 := hN5.free 1
  go_upto_region 14 with fail
  clear f0 f1 f2 f3 f4 f5 fl bol bnl hF5 hO5 x1 y1 yf1
  obtain ⟨w6, hW, hN6, hR6, hE6, -⟩ := set_cells [(1, .int .u64 (i : Nat))] hN5 hR5 (Nat.ne_of_gt q2) hE5 (Nat.le_trans q1 (Nat.le_of_lt q2))
  simp only [List.foldl] at hW
  rw [hW]
  clear hN5 hR5 hE5 hW
  have hN6 : RB bN 33 [.int .i64 k, .int .u64 (i : Nat), .int .u64 0, .string ⟨#[]⟩, .int .u64 0, .int .u64 0, .int .u64 0, .int .u64 0, .string ⟨#[]⟩, .int .u64 0, .int .u64 0, .int .u64 0, .int .u64 0, .int .i64 0, .int .i64 0, .int .i64 0, .slice none 0 0, .slice none 0 0] w6 := hN6
  have hZ := hR6.setRow [.int .i64 k, .int .u64 (i : Nat), .int .u64 0, .string ⟨#[]⟩, .int .u64 0, .int .u64 0, .int .u64 0, .int .u64 0, .string ⟨#[]⟩, .int .u64 0, .int .u64 0, .int .u64 0, .int .u64 0, .int .i64 0, .int .i64 0, .int .i64 0, .slice none 0 0, .slice none 0 0]
  have hE7 : Ext w (w6.setRow bR #[.int .i64 k, .int .u64 (i : Nat), .int .u64 0, .string ⟨#[]⟩, .int .u64 0, .int .u64 0, .int .u64 0, .int .u64 0, .string ⟨#[]⟩, .int .u64 0, .int .u64 0, .int .u64 0, .int .u64 0, .int .i64 0, .int .i64 0, .int .i64 0, .slice none 0 0, .slice none 0 0]) := Ext.setRow hE6 q1 _
  go_wp2_with (first | (refine wpList_load_row rfl 33 _ rfl bN rfl _ _ _ _ hN6 Tryz.underlying33 rfl (by kernel_rfl) ?_) | (refine wpList_store_row (cells := #[.int .i64 k, .int .u64 (i : Nat), .int .u64 0, .string ⟨#[]⟩, .int .u64 0, .int .u64 0, .int .u64 0, .int .u64 0, .string ⟨#[]⟩, .int .u64 0, .int .u64 0, .int .u64 0, .int .u64 0, .int .i64 0, .int .i64 0, .int .i64 0, .slice none 0 0, .slice none 0 0]) rfl 33 _ _ rfl bR rfl rfl _ _ hR6 (by kernel_rfl) rfl (by first | rfl | decide | simp [Value.oneCell']) ?_))
  refine bodyPost_ret (results_cell_row rfl _ _ _ _ _ _ _ rfl hZ Tryz.underlying33 rfl (by kernel_rfl)) rfl ?_
  exact ⟨rfl, hE7⟩
 ·skip
  have x3 := hO5.at 3 rfl
  have y3 := hN5.at 3 rfl
  have yf3 := hN5.free 3
  have x4 := hO5.at 4 rfl
  have y4 := hN5.at 4 rfl
  have yf4 := hN5.free 4
  have x5 := hO5.at 5 rfl
  have y5 := hN5.at 5 rfl
  have yf5 := hN5.free 5
  have x6 := hO5.at 6 rfl
  have y6 := hN5.at 6 rfl
  have yf6 := hN5.free 6
  have x7 := hO5.at 7 rfl
  have y7 := hN5.at 7 rfl
  have yf7 := hN5.free 7
  go_upto_region 14 with fail
  clear f0 f1 f2 f3 f4 f5 fl bol bnl hF5 hO5 x3 y3 yf3 x4 y4 yf4 x5 y5 yf5 x6 y6 yf6 x7 y7 yf7
  obtain ⟨w6, hW, hN6, hR6, hE6, -⟩ := set_cells [(3, .string p), (4, .int .u64 (D 0 : Nat)), (5, .int .u64 (D 1 : Nat)), (6, .int .u64 (D 2 : Nat)), (7, .int .u64 (D 3 : Nat))] hN5 hR5 (Nat.ne_of_gt q2) hE5 (Nat.le_trans q1 (Nat.le_of_lt q2))
  simp only [List.foldl] at hW
  rw [hW]
  clear hN5 hR5 hE5 hW
  have hN6 : RB bN 33 [.int .i64 k, .int .u64 0, .int .u64 0, .string p, .int .u64 (D 0 : Nat), .int .u64 (D 1 : Nat), .int .u64 (D 2 : Nat), .int .u64 (D 3 : Nat), .string ⟨#[]⟩, .int .u64 0, .int .u64 0, .int .u64 0, .int .u64 0, .int .i64 0, .int .i64 0, .int .i64 0, .slice none 0 0, .slice none 0 0] w6 := hN6
  have hZ := hR6.setRow [.int .i64 k, .int .u64 0, .int .u64 0, .string p, .int .u64 (D 0 : Nat), .int .u64 (D 1 : Nat), .int .u64 (D 2 : Nat), .int .u64 (D 3 : Nat), .string ⟨#[]⟩, .int .u64 0, .int .u64 0, .int .u64 0, .int .u64 0, .int .i64 0, .int .i64 0, .int .i64 0, .slice none 0 0, .slice none 0 0]
  have hE7 : Ext w (w6.setRow bR #[.int .i64 k, .int .u64 0, .int .u64 0, .string p, .int .u64 (D 0 : Nat), .int .u64 (D 1 : Nat), .int .u64 (D 2 : Nat), .int .u64 (D 3 : Nat), .string ⟨#[]⟩, .int .u64 0, .int .u64 0, .int .u64 0, .int .u64 0, .int .i64 0, .int .i64 0, .int .i64 0, .slice none 0 0, .slice none 0 0]) := Ext.setRow hE6 q1 _
  go_wp2_with (first | (refine wpList_load_row rfl 33 _ rfl bN rfl _ _ _ _ hN6 Tryz.underlying33 rfl (by kernel_rfl) ?_) | (refine wpList_store_row (cells := #[.int .i64 k, .int .u64 0, .int .u64 0, .string p, .int .u64 (D 0 : Nat), .int .u64 (D 1 : Nat), .int .u64 (D 2 : Nat), .int .u64 (D 3 : Nat), .string ⟨#[]⟩, .int .u64 0, .int .u64 0, .int .u64 0, .int .u64 0, .int .i64 0, .int .i64 0, .int .i64 0, .slice none 0 0, .slice none 0 0]) rfl 33 _ _ rfl bR rfl rfl _ _ hR6 (by kernel_rfl) rfl (by first | rfl | decide | simp [Value.oneCell']) ?_))
  refine bodyPost_ret (results_cell_row rfl _ _ _ _ _ _ _ rfl hZ Tryz.underlying33 rfl (by kernel_rfl)) rfl ?_
  exact ⟨rfl, hE7⟩
 ·skip
  have x2 := hO5.at 2 rfl
  have y2 := hN5.at 2 rfl
  have yf2 := hN5.free 2
  go_upto_region 14 with fail
  clear f0 f1 f2 f3 f4 f5 fl bol bnl hF5 hO5 x2 y2 yf2
  obtain ⟨w6, hW, hN6, hR6, hE6, -⟩ := set_cells [(2, .int .u64 (n : Nat))] hN5 hR5 (Nat.ne_of_gt q2) hE5 (Nat.le_trans q1 (Nat.le_of_lt q2))
  simp only [List.foldl] at hW
  rw [hW]
  clear hN5 hR5 hE5 hW
  have hN6 : RB bN 33 [.int .i64 k, .int .u64 0, .int .u64 (n : Nat), .string ⟨#[]⟩, .int .u64 0, .int .u64 0, .int .u64 0, .int .u64 0, .string ⟨#[]⟩, .int .u64 0, .int .u64 0, .int .u64 0, .int .u64 0, .int .i64 0, .int .i64 0, .int .i64 0, .slice none 0 0, .slice none 0 0] w6 := hN6
  have hZ := hR6.setRow [.int .i64 k, .int .u64 0, .int .u64 (n : Nat), .string ⟨#[]⟩, .int .u64 0, .int .u64 0, .int .u64 0, .int .u64 0, .string ⟨#[]⟩, .int .u64 0, .int .u64 0, .int .u64 0, .int .u64 0, .int .i64 0, .int .i64 0, .int .i64 0, .slice none 0 0, .slice none 0 0]
  have hE7 : Ext w (w6.setRow bR #[.int .i64 k, .int .u64 0, .int .u64 (n : Nat), .string ⟨#[]⟩, .int .u64 0, .int .u64 0, .int .u64 0, .int .u64 0, .string ⟨#[]⟩, .int .u64 0, .int .u64 0, .int .u64 0, .int .u64 0, .int .i64 0, .int .i64 0, .int .i64 0, .slice none 0 0, .slice none 0 0]) := Ext.setRow hE6 q1 _
  go_wp2_with (first | (refine wpList_load_row rfl 33 _ rfl bN rfl _ _ _ _ hN6 Tryz.underlying33 rfl (by kernel_rfl) ?_) | (refine wpList_store_row (cells := #[.int .i64 k, .int .u64 0, .int .u64 (n : Nat), .string ⟨#[]⟩, .int .u64 0, .int .u64 0, .int .u64 0, .int .u64 0, .string ⟨#[]⟩, .int .u64 0, .int .u64 0, .int .u64 0, .int .u64 0, .int .i64 0, .int .i64 0, .int .i64 0, .slice none 0 0, .slice none 0 0]) rfl 33 _ _ rfl bR rfl rfl _ _ hR6 (by kernel_rfl) rfl (by first | rfl | decide | simp [Value.oneCell']) ?_))
  refine bodyPost_ret (results_cell_row rfl _ _ _ _ _ _ _ rfl hZ Tryz.underlying33 rfl (by kernel_rfl)) rfl ?_
  exact ⟨rfl, hE7⟩
 ·skip
  have x3 := hO5.at 3 rfl
  have y3 := hN5.at 3 rfl
  have yf3 := hN5.free 3
  go_upto_region 14 with fail
  clear f0 f1 f2 f3 f4 f5 fl bol bnl hF5 hO5 x3 y3 yf3
  obtain ⟨w6, hW, hN6, hR6, hE6, -⟩ := set_cells [(3, .string p)] hN5 hR5 (Nat.ne_of_gt q2) hE5 (Nat.le_trans q1 (Nat.le_of_lt q2))
  simp only [List.foldl] at hW
  rw [hW]
  clear hN5 hR5 hE5 hW
  have hN6 : RB bN 33 [.int .i64 k, .int .u64 0, .int .u64 0, .string p, .int .u64 0, .int .u64 0, .int .u64 0, .int .u64 0, .string ⟨#[]⟩, .int .u64 0, .int .u64 0, .int .u64 0, .int .u64 0, .int .i64 0, .int .i64 0, .int .i64 0, .slice none 0 0, .slice none 0 0] w6 := hN6
  have hZ := hR6.setRow [.int .i64 k, .int .u64 0, .int .u64 0, .string p, .int .u64 0, .int .u64 0, .int .u64 0, .int .u64 0, .string ⟨#[]⟩, .int .u64 0, .int .u64 0, .int .u64 0, .int .u64 0, .int .i64 0, .int .i64 0, .int .i64 0, .slice none 0 0, .slice none 0 0]
  have hE7 : Ext w (w6.setRow bR #[.int .i64 k, .int .u64 0, .int .u64 0, .string p, .int .u64 0, .int .u64 0, .int .u64 0, .int .u64 0, .string ⟨#[]⟩, .int .u64 0, .int .u64 0, .int .u64 0, .int .u64 0, .int .i64 0, .int .i64 0, .int .i64 0, .slice none 0 0, .slice none 0 0]) := Ext.setRow hE6 q1 _
  go_wp2_with (first | (refine wpList_load_row rfl 33 _ rfl bN rfl _ _ _ _ hN6 Tryz.underlying33 rfl (by kernel_rfl) ?_) | (refine wpList_store_row (cells := #[.int .i64 k, .int .u64 0, .int .u64 0, .string p, .int .u64 0, .int .u64 0, .int .u64 0, .int .u64 0, .string ⟨#[]⟩, .int .u64 0, .int .u64 0, .int .u64 0, .int .u64 0, .int .i64 0, .int .i64 0, .int .i64 0, .slice none 0 0, .slice none 0 0]) rfl 33 _ _ rfl bR rfl rfl _ _ hR6 (by kernel_rfl) rfl (by first | rfl | decide | simp [Value.oneCell']) ?_))
  refine bodyPost_ret (results_cell_row rfl _ _ _ _ _ _ _ rfl hZ Tryz.underlying33 rfl (by kernel_rfl)) rfl ?_
  exact ⟨rfl, hE7⟩
 ·skip
  have x4 := hO5.at 4 rfl
  have y4 := hN5.at 4 rfl
  have yf4 := hN5.free 4
  have x5 := hO5.at 5 rfl
  have y5 := hN5.at 5 rfl
  have yf5 := hN5.free 5
  have x6 := hO5.at 6 rfl
  have y6 := hN5.at 6 rfl
  have yf6 := hN5.free 6
  have x7 := hO5.at 7 rfl
  have y7 := hN5.at 7 rfl
  have yf7 := hN5.free 7
  go_upto_region 14 with fail
  clear f0 f1 f2 f3 f4 f5 fl bol bnl hF5 hO5 x4 y4 yf4 x5 y5 yf5 x6 y6 yf6 x7 y7 yf7
  obtain ⟨w6, hW, hN6, hR6, hE6, -⟩ := set_cells [(4, .int .u64 (D 0 : Nat)), (5, .int .u64 (D 1 : Nat)), (6, .int .u64 (D 2 : Nat)), (7, .int .u64 (D 3 : Nat))] hN5 hR5 (Nat.ne_of_gt q2) hE5 (Nat.le_trans q1 (Nat.le_of_lt q2))
  simp only [List.foldl] at hW
  rw [hW]
  clear hN5 hR5 hE5 hW
  have hN6 : RB bN 33 [.int .i64 k, .int .u64 0, .int .u64 0, .string ⟨#[]⟩, .int .u64 (D 0 : Nat), .int .u64 (D 1 : Nat), .int .u64 (D 2 : Nat), .int .u64 (D 3 : Nat), .string ⟨#[]⟩, .int .u64 0, .int .u64 0, .int .u64 0, .int .u64 0, .int .i64 0, .int .i64 0, .int .i64 0, .slice none 0 0, .slice none 0 0] w6 := hN6
  have hZ := hR6.setRow [.int .i64 k, .int .u64 0, .int .u64 0, .string ⟨#[]⟩, .int .u64 (D 0 : Nat), .int .u64 (D 1 : Nat), .int .u64 (D 2 : Nat), .int .u64 (D 3 : Nat), .string ⟨#[]⟩, .int .u64 0, .int .u64 0, .int .u64 0, .int .u64 0, .int .i64 0, .int .i64 0, .int .i64 0, .slice none 0 0, .slice none 0 0]
  have hE7 : Ext w (w6.setRow bR #[.int .i64 k, .int .u64 0, .int .u64 0, .string ⟨#[]⟩, .int .u64 (D 0 : Nat), .int .u64 (D 1 : Nat), .int .u64 (D 2 : Nat), .int .u64 (D 3 : Nat), .string ⟨#[]⟩, .int .u64 0, .int .u64 0, .int .u64 0, .int .u64 0, .int .i64 0, .int .i64 0, .int .i64 0, .slice none 0 0, .slice none 0 0]) := Ext.setRow hE6 q1 _
  go_wp2_with (first | (refine wpList_load_row rfl 33 _ rfl bN rfl _ _ _ _ hN6 Tryz.underlying33 rfl (by kernel_rfl) ?_) | (refine wpList_store_row (cells := #[.int .i64 k, .int .u64 0, .int .u64 0, .string ⟨#[]⟩, .int .u64 (D 0 : Nat), .int .u64 (D 1 : Nat), .int .u64 (D 2 : Nat), .int .u64 (D 3 : Nat), .string ⟨#[]⟩, .int .u64 0, .int .u64 0, .int .u64 0, .int .u64 0, .int .i64 0, .int .i64 0, .int .i64 0, .slice none 0 0, .slice none 0 0]) rfl 33 _ _ rfl bR rfl rfl _ _ hR6 (by kernel_rfl) rfl (by first | rfl | decide | simp [Value.oneCell']) ?_))
  refine bodyPost_ret (results_cell_row rfl _ _ _ _ _ _ _ rfl hZ Tryz.underlying33 rfl (by kernel_rfl)) rfl ?_
  exact ⟨rfl, hE7⟩
 ·skip
  have x3 := hO5.at 3 rfl
  have y3 := hN5.at 3 rfl
  have yf3 := hN5.free 3
  have x4 := hO5.at 4 rfl
  have y4 := hN5.at 4 rfl
  have yf4 := hN5.free 4
  have x5 := hO5.at 5 rfl
  have y5 := hN5.at 5 rfl
  have yf5 := hN5.free 5
  have x6 := hO5.at 6 rfl
  have y6 := hN5.at 6 rfl
  have yf6 := hN5.free 6
  have x7 := hO5.at 7 rfl
  have y7 := hN5.at 7 rfl
  have yf7 := hN5.free 7
  have x17 := hO5.at 17 rfl
  have y17 := hN5.at 17 rfl
  have yf17 := hN5.free 17
  go_upto_region 14 with fail
  clear f0 f1 f2 f3 f4 f5 fl bol bnl hF5 hO5 x3 y3 yf3 x4 y4 yf4 x5 y5 yf5 x6 y6 yf6 x7 y7 yf7 x17 y17 yf17
  obtain ⟨w6, hW, hN6, hR6, hE6, -⟩ := set_cells [(3, .string p), (4, .int .u64 (D 0 : Nat)), (5, .int .u64 (D 1 : Nat)), (6, .int .u64 (D 2 : Nat)), (7, .int .u64 (D 3 : Nat)), (17, .slice ql nl cl)] hN5 hR5 (Nat.ne_of_gt q2) hE5 (Nat.le_trans q1 (Nat.le_of_lt q2))
  simp only [List.foldl] at hW
  rw [hW]
  clear hN5 hR5 hE5 hW
  have hN6 : RB bN 33 [.int .i64 k, .int .u64 0, .int .u64 0, .string p, .int .u64 (D 0 : Nat), .int .u64 (D 1 : Nat), .int .u64 (D 2 : Nat), .int .u64 (D 3 : Nat), .string ⟨#[]⟩, .int .u64 0, .int .u64 0, .int .u64 0, .int .u64 0, .int .i64 0, .int .i64 0, .int .i64 0, .slice none 0 0, .slice ql nl cl] w6 := hN6
  have hZ := hR6.setRow [.int .i64 k, .int .u64 0, .int .u64 0, .string p, .int .u64 (D 0 : Nat), .int .u64 (D 1 : Nat), .int .u64 (D 2 : Nat), .int .u64 (D 3 : Nat), .string ⟨#[]⟩, .int .u64 0, .int .u64 0, .int .u64 0, .int .u64 0, .int .i64 0, .int .i64 0, .int .i64 0, .slice none 0 0, .slice ql nl cl]
  have hE7 : Ext w (w6.setRow bR #[.int .i64 k, .int .u64 0, .int .u64 0, .string p, .int .u64 (D 0 : Nat), .int .u64 (D 1 : Nat), .int .u64 (D 2 : Nat), .int .u64 (D 3 : Nat), .string ⟨#[]⟩, .int .u64 0, .int .u64 0, .int .u64 0, .int .u64 0, .int .i64 0, .int .i64 0, .int .i64 0, .slice none 0 0, .slice ql nl cl]) := Ext.setRow hE6 q1 _
  go_wp2_with (first | (refine wpList_load_row rfl 33 _ rfl bN rfl _ _ _ _ hN6 Tryz.underlying33 rfl (by kernel_rfl) ?_) | (refine wpList_store_row (cells := #[.int .i64 k, .int .u64 0, .int .u64 0, .string p, .int .u64 (D 0 : Nat), .int .u64 (D 1 : Nat), .int .u64 (D 2 : Nat), .int .u64 (D 3 : Nat), .string ⟨#[]⟩, .int .u64 0, .int .u64 0, .int .u64 0, .int .u64 0, .int .i64 0, .int .i64 0, .int .i64 0, .slice none 0 0, .slice ql nl cl]) rfl 33 _ _ rfl bR rfl rfl _ _ hR6 (by kernel_rfl) rfl (by first | rfl | decide | simp [Value.oneCell']) ?_))
  refine bodyPost_ret (results_cell_row rfl _ _ _ _ _ _ _ rfl hZ Tryz.underlying33 rfl (by kernel_rfl)) rfl ?_
  exact ⟨rfl, hE7⟩
 ·skip
  go_upto_region 14 with fail
  clear f0 f1 f2 f3 f4 f5 fl bol bnl hF5 hO5
  obtain ⟨w6, hW, hN6, hR6, hE6, -⟩ := set_cells [] hN5 hR5 (Nat.ne_of_gt q2) hE5 (Nat.le_trans q1 (Nat.le_of_lt q2))
  simp only [List.foldl] at hW
  rw [hW]
  clear hN5 hR5 hE5 hW
  have hN6 : RB bN 33 [.int .i64 k, .int .u64 0, .int .u64 0, .string ⟨#[]⟩, .int .u64 0, .int .u64 0, .int .u64 0, .int .u64 0, .string ⟨#[]⟩, .int .u64 0, .int .u64 0, .int .u64 0, .int .u64 0, .int .i64 0, .int .i64 0, .int .i64 0, .slice none 0 0, .slice none 0 0] w6 := hN6
  have hZ := hR6.setRow [.int .i64 k, .int .u64 0, .int .u64 0, .string ⟨#[]⟩, .int .u64 0, .int .u64 0, .int .u64 0, .int .u64 0, .string ⟨#[]⟩, .int .u64 0, .int .u64 0, .int .u64 0, .int .u64 0, .int .i64 0, .int .i64 0, .int .i64 0, .slice none 0 0, .slice none 0 0]
  have hE7 : Ext w (w6.setRow bR #[.int .i64 k, .int .u64 0, .int .u64 0, .string ⟨#[]⟩, .int .u64 0, .int .u64 0, .int .u64 0, .int .u64 0, .string ⟨#[]⟩, .int .u64 0, .int .u64 0, .int .u64 0, .int .u64 0, .int .i64 0, .int .i64 0, .int .i64 0, .slice none 0 0, .slice none 0 0]) := Ext.setRow hE6 q1 _
  go_wp2_with (first | (refine wpList_load_row rfl 33 _ rfl bN rfl _ _ _ _ hN6 Tryz.underlying33 rfl (by kernel_rfl) ?_) | (refine wpList_store_row (cells := #[.int .i64 k, .int .u64 0, .int .u64 0, .string ⟨#[]⟩, .int .u64 0, .int .u64 0, .int .u64 0, .int .u64 0, .string ⟨#[]⟩, .int .u64 0, .int .u64 0, .int .u64 0, .int .u64 0, .int .i64 0, .int .i64 0, .int .i64 0, .slice none 0 0, .slice none 0 0]) rfl 33 _ _ rfl bR rfl rfl _ _ hR6 (by kernel_rfl) rfl (by first | rfl | decide | simp [Value.oneCell']) ?_))
  refine bodyPost_ret (results_cell_row rfl _ _ _ _ _ _ _ rfl hZ Tryz.underlying33 rfl (by kernel_rfl)) rfl ?_
  exact ⟨rfl, hE7⟩
theorem bare_w (f : Fld) (hf : isFld f) (k : Int) (i n : Nat) (p : ByteArray) (D : Nat → Nat) (s : ByteArray) (E : Nat → Nat) (m : Nums3) (qv ql : Option Addr) (nv cv nl cl : Nat) (w : World) :
  Calls Tryz.prog 57 #[opV k i n p D s E m (.slice qv nv cv) (.slice ql nl cl), fldV f] w fun e w' => e = .returned (bareV f k i n p D s E m (.slice qv nv cv) (.slice ql nl cl)) ∧ Ext w w' :=
 bare_k hf k i n p D s E m qv ql nv cv nl cl w
end Go.Proofs.YtefjdmjkofaajaaGreatDoor
namespace Go.Dm
open Go Go.RowKit
theorem pairAt_extB {l m : List PairS} (hlen : l.length = m.length) (h : ∀ k, k < l.length → pairAt l k = pairAt m k) : l = m := by
 apply List.ext_getElem hlen
 intro i h1 h2
 have := h i h1
 simpa [pairAt, h1, h2] using this
end Go.Dm
namespace Go.Proofs.YtefjdmjkofaajaaGreatDoor
open Go.RowKit Go.Dm
set_option maxHeartbeats 2000000 in
theorem pairsEq_w (l m : List PairS) (v v2 : Value) (w : World) (hl : l.length ≤ 35184372088832) (hx : Pairs w v l) (hy : Pairs w v2 m) :
  Calls Tryz.prog 96 #[v, v2] w fun e w' => e = .returned (.bool (decide (l = m))) ∧ Ext w w' := by
 obtain ⟨q, cap, rfl, hcap, hcm⟩ := hx.shape
 obtain ⟨q2, cap2, rfl, hcap2, hcm2⟩ := hy.shape
 by_cases hlen : l.length = m.length
 ·have heq : (∀ k, k < l.length → pairAt l k = pairAt m k) → decide (l = m) = true := fun h => decide_eq_true (pairAt_extB hlen h)
  have hneq : ∀ k, k < l.length → pairAt l k ≠ pairAt m k → decide (l = m) = false := fun k hk h => decide_eq_false (fun e => h (by rw [e]))
  generalize decide (l = m) = d at *
  replace heq := Lib.hid heq
  replace hneq := Lib.hid hneq
  have hlt' : ∀ k, k < l.length → k < m.length := fun k h => hlen ▸ h
  have hlenI : ((m.length : Nat) : Int) = ((l.length : Nat) : Int) := by rw [hlen]
  go_enter Tryz.func96, Tryz.ntmps96
  go_wp2
  go_loopw [13] (fun i' wr => ∃ k : Nat, k ≤ l.length ∧ i' = .int .i64 k ∧ Ext w wr ∧ Hid (∀ j, j < k → pairAt l j = pairAt m j)) (fun i' _ => l.length - (intOf i').toNat)
  case atStart => exact ⟨0, by omega, rfl, Ext.refl _, fun j hj => by omega⟩
  case round =>
   obtain ⟨k, hk, rfl, hb, HN⟩ := hrel
   by_cases hlt : k < l.length
   ·have hlt2 := hlt' k hlt
    obtain ⟨b, off, rfl, hbl, c0, c1⟩ := (hx.ext hb).at hlt
    obtain ⟨b2, off2, rfl, hbl2, d0, d1⟩ := (hy.ext hb).at hlt2
    have hq : ∀ U, (Op.equalIn 10000 126 (.agg #[.string (pairAt l k).1, .string (pairAt l k).2]) (.agg #[.string (pairAt m k).1, .string (pairAt m k).2])).run Tryz.prog U = .ok (decide (pairAt l k = pairAt m k)) U := fun U => by
     rw [Tryz.eq_pair]
     congr 1
     rw [Bool.eq_iff_iff, Bool.and_eq_true, bytes_eq, bytes_eq, decide_eq_true_eq]
     exact ⟨fun h => Prod.ext h.1 h.2, fun h => by rw [h]; exact ⟨rfl, rfl⟩⟩
    by_cases he : pairAt l k = pairAt m k
    ·have HN2 : Hid (∀ j, j < k + 1 → pairAt l j = pairAt m j) := fun j hj => by
      rcases Nat.lt_succ_iff_lt_or_eq.1 hj with h | rfl
      ·exact HN.out j h
      ·exact he
     rw [decide_eq_true he] at hq
     replace he := Lib.hid he
     go_wp2_with fail
     refine Dm.wp_region_grow (by kernel_rfl) (by kernel_rfl) ?_
     repeat (go_big_quiet_step (fail))
     refine wpQuiet_nil ?_
     intro U hU
     have hU' := hb.trans hU
     go_wp2
     go_roundw
     case rel => exact ⟨k + 1, by omega, by go_num, hU', HN2⟩
     case measure => simp [intOf]; omega
    ·rw [decide_eq_false he] at hq
     have hd := hneq.out k hlt he
     replace he := Lib.hid he
     subst hd
     go_wp2_with fail
     refine Dm.wp_region_grow (by kernel_rfl) (by kernel_rfl) ?_
     repeat (go_big_quiet_step (fail))
     refine wpQuiet_nil ?_
     intro U hU
     have hU' := hb.trans hU
     go_wp2
     go_ret
     exact ⟨rfl, hU'⟩
   ·obtain rfl : k = l.length := by omega
    have hd := heq.out HN.out
    subst hd
    go_wp2
    go_ret
    exact ⟨rfl, hb⟩
 ·rw [decide_eq_false (fun e => hlen (by rw [e]))]
  have hlenI : ¬ ((l.length : Nat) : Int) = ((m.length : Nat) : Int) := by omega
  go_enter Tryz.func96, Tryz.ntmps96
  go_wp2
  go_ret
  exact ⟨rfl, Ext.refl _⟩
end Go.Proofs.YtefjdmjkofaajaaGreatDoor
