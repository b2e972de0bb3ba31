/- Texts one behind the other: Chapter 7: the walks of narrowed, New, Narrow, fits, Check, Allows; Chapter 7: the walks of Narrow, Check; Chapter 7: the walk of Put; Chapter 7: (what was here stands in MacE.). -/
import Derived.Test.YtefjdmjkofaajaaGreatDoorB13
import Derived.Test.YtefjdmjkofaajaaGreatDoorB30
import Derived.Test.YtefjdmjkofaajaaGreatDoorB14
namespace Go.Dm
open Go Go.RowKit
/-- A sum, narrowed by some caveats. -/
def narrowB (sig : Bs) (l : List Cav) : Bs := l.foldl (fun s c => signB s (putC c)) sig
theorem narrowB_snoc {sig : Bs} {l : List Cav} {k : Nat} (hk : k < l.length) : narrowB sig (l.take (k + 1)) = signB (narrowB sig (l.take k)) (putC (l.getD k (0, 0))) := by
 unfold narrowB
 rw [List.take_add_one, List.getElem?_eq_getElem hk, List.foldl_append, List.getD_eq_getElem?_getD, List.getElem?_eq_getElem hk]
 rfl
theorem putC_len {c : Cav} (h : U64 c.2) : (putC c).length ≤ 20 := by
 have l1 := putL_ten (u64of_lt c.1)
 have l2 := putL_ten h
 unfold putC
 rw [List.length_append]
 omega
/-- A token: its tenant, caveats, sum. -/
abbrev TokQ := ByteArray × List Cav × ByteArray
def checkT (key : Bs) (t : TokQ) : Bool := fitsC t.2.1 && decide (narrowB (signB key t.1.data.toList) t.2.1 = t.2.2.data.toList)
end Go.Dm
namespace Go.Proofs.YtefjdmjkofaajaaGreatDoor
open Go.RowKit Go.Dm

set_option maxHeartbeats 2000000 in
set_option maxRecDepth 100000 in
theorem narrowed_w (tn sg : ByteArray) (v l : Value) (L1 L2 : List Cav) (w : World) (h1 : Cavs w v L1) (h2 : Cavs w l L2) (hU : ∀ c ∈ L2, U64 c.2) (hn : L1.length + L2.length ≤ 4398046511104) (hs : sg.size ≤ 140737488355328) (hv : ShaV w) :
  Calls Tryz.prog 31 #[.agg #[.string tn, v, .string sg], l] w fun e w' => ∃ r, e = .returned (.agg #[.string tn, r, .string ⟨(narrowB sg.data.toList L2).toArray⟩]) ∧ Cavs w' r (L1 ++ L2) ∧ (∀ c, r.ownBlock = some c → w.heap.size ≤ c) ∧ Ext w w' := by
 obtain ⟨q1, cap1, rfl, _, _⟩ := h1.shape
 obtain ⟨q2, cap2, rfl, _, _⟩ := h2.shape
 have hB : CB w.heap.size [.string tn, .slice q1 L1.length cap1, .string sg] (w.alloc (.cells #[.string tn, .slice q1 L1.length cap1, .string sg] 24)) := CB.new w #[.string tn, .slice q1 L1.length cap1, .string sg] 24
 have hE : Ext w (w.alloc (.cells #[.string tn, .slice q1 L1.length cap1, .string sg] 24)) := (Ext.refl _).alloc _
 generalize hW1 : w.alloc (.cells #[.string tn, .slice q1 L1.length cap1, .string sg] 24) = w1 at *
 have hb01 : w.heap.size < w1.heap.size := by rw [← hW1, World.size_alloc]; omega
 have hR : CB w1.heap.size [.string ⟨#[]⟩, .slice none 0 0, .string ⟨#[]⟩] (w1.alloc (.cells #[.string ⟨#[]⟩, .slice none 0 0, .string ⟨#[]⟩] 24)) := CB.new w1 #[.string ⟨#[]⟩, .slice none 0 0, .string ⟨#[]⟩] 24
 have e2 : Ext w1 (w1.alloc (.cells #[.string ⟨#[]⟩, .slice none 0 0, .string ⟨#[]⟩] 24)) := (Ext.refl _).alloc _
 generalize hW2 : w1.alloc (.cells #[.string ⟨#[]⟩, .slice none 0 0, .string ⟨#[]⟩] 24) = w2 at *
 have hb12 : w1.heap.size < w2.heap.size := by rw [← hW2, World.size_alloc]; omega
 replace hB := hB.ext e2
 replace hE := hE.trans e2
 clear e2
 have hS : CB w2.heap.size [.slice q1 L1.length cap1, .slice q2 L2.length cap2] (w2.alloc (.cells #[.slice q1 L1.length cap1, .slice q2 L2.length cap2] 22)) := CB.new w2 #[.slice q1 L1.length cap1, .slice q2 L2.length cap2] 22
 have e3 : Ext w2 (w2.alloc (.cells #[.slice q1 L1.length cap1, .slice q2 L2.length cap2] 22)) := (Ext.refl _).alloc _
 generalize hW3 : w2.alloc (.cells #[.slice q1 L1.length cap1, .slice q2 L2.length cap2] 22) = w3 at *
 have hB3 := hB.ext e3
 have hR3 := hR.ext e3
 have hE3 := hE.trans e3
 have CC := concat2_w w2.heap.size _ _ L1 L2 w3 hS.lt (hS.cell 0 (by simp)) (hS.cell 1 (by simp)) (h1.ext hE3) (h2.ext hE3) hn
 obtain ⟨bB, hbB⟩ : ∃ x, x = w.heap.size := ⟨_, rfl⟩
 obtain ⟨bR, hbR⟩ : ∃ x, x = w1.heap.size := ⟨_, rfl⟩
 obtain ⟨bS, hbS⟩ : ∃ x, x = w2.heap.size := ⟨_, rfl⟩
 have hwB : w.heap.size ≤ bB := by omega
 have h3s := e3.size
 rw [← hbB] at hb01 hB3 hB
 rw [← hbR] at hb01 hb12 hR3
 rw [← hbS] at hb12 CC h3s
 replace hbB := hbB.symm
 replace hbR := hbR.symm
 replace hbS := hbS.symm
 obtain ⟨xl, x0, x1, x2, xf0, xf1, xf2⟩ := hB.cells3
 replace CC := Lib.hid CC
 clear e3 hS
 go_enter Tryz.func31, Tryz.ntmps31
 go_wp2_with fail
 refine CC.out.mono ?_; rintro e w4 ⟨r, rfl, ho, h4⟩
 clear hW1 hW2 hW3 hbB hbR hbS xl x0 x1 x2 xf0 xf1 xf2 CC hE hB hR
 replace hB3 := hB3.ext h4
 replace hR3 := hR3.ext h4
 replace hE3 := hE3.trans h4
 have hrB : ∀ c, r.ownBlock = some c → bS ≤ c := fun c hc => Nat.le_trans h3s (ho.lt c hc).1
 obtain ⟨qr, cr, hrv, hcr, hcm, hz0⟩ := (Sl.of_owns ho).shape
 subst hrv
 have hB5 := hB3.set 1 (.slice qr (L1.length + L2.length) cr) (by simp)
 have hR5 := hR3.far (c := bB) (i := 1) (by omega) (.slice qr (L1.length + L2.length) cr)
 have hE5 : Ext w (w4.setCell ⟨bB, 1, none⟩ (.slice qr (L1.length + L2.length) cr)) := Below.setCell hE3 hwB _
 have ho5 := ho.kept (grown_set w4 bB 1 (.slice qr (L1.length + L2.length) cr)) (Or.inr fun e2 => by have := hrB _ e2; omega)
 obtain ⟨xl, x0, x1, x2, xf0, xf1, xf2⟩ := hB3.cells3
 go_upto_region 2 with fail
 clear xl x0 x1 x2 xf0 xf1 xf2 hB3 hR3 hE3 ho h4
 generalize w4.setCell ⟨bB, 1, none⟩ (.slice qr (L1.length + L2.length) cr) = w5 at *
 change CB bB [.string tn, .slice qr (L1.length + L2.length) cr, .string sg] w5 at hB5
 go_wp2
 go_loopw [15] (fun i wr => ∃ (k : Nat) (s : ByteArray), k ≤ L2.length ∧ i = .int .i64 k ∧ Ext w wr ∧ s.size ≤ 140737488355328 ∧ Hid (s.data.toList = narrowB sg.data.toList (L2.take k)) ∧ CB bB [.string tn, .slice qr (L1.length + L2.length) cr, .string s] wr ∧ CB bR [.string ⟨#[]⟩, .slice none 0 0, .string ⟨#[]⟩] wr ∧ wr.ownsRow w3.heap.size 38 2 (.slice qr (L1.length + L2.length) cr) (L1.length + L2.length) (cavC (L1 ++ L2))) (fun i _ => L2.length - (intOf i).toNat)
 case atStart => exact ⟨0, sg, by omega, rfl, hE5, hs, by rw [List.take_zero]; rfl, hB5, hR5, ho5⟩
 case round =>
  obtain ⟨k, s, hk, rfl, g1, g2, g3, g4, g5, g6⟩ := hrel
  by_cases hlt : k < L2.length
  ·obtain ⟨b, off, rfl, hbl, c0, c1⟩ := (h2.ext g1).at hlt
   have hcU := hU _ (show L2.getD k (0, 0) ∈ L2 by rw [List.getD_eq_getElem?_getD, List.getElem?_eq_getElem hlt]; exact List.getElem_mem hlt)
   have hst : narrowB sg.data.toList (L2.take (k + 1)) = signB s.data.toList (putC (L2.getD k (0, 0))) := by rw [narrowB_snoc hlt, g3.out]
   generalize L2.getD k (0, 0) = c at *
   obtain ⟨ck, cn⟩ := c
   simp only at c0 c1 hcU
   have hpl := putC_len (c := (ck, cn)) hcU
   have C1 := fun U => putc_w (ck, cn) hcU U
   have C2 := fun U (h : ShaV U) => sign_w s ⟨(putC (ck, cn)).toArray⟩ (by omega) (by show (putC (ck, cn)).toArray.size ≤ _; rw [List.size_toArray]; omega) U h
   simp only at C1 C2
   rw [← hst] at C2
   generalize (⟨(putC (ck, cn)).toArray⟩ : ByteArray) = pb at *
   obtain ⟨s', hs'⟩ : ∃ s' : ByteArray, s' = ⟨(narrowB sg.data.toList (L2.take (k + 1))).toArray⟩ := ⟨_, rfl⟩
   rw [← hs'] at C2
   have hsl : s'.size ≤ 140737488355328 := by
    rw [hs', hst]
    show (signB _ _).toArray.size ≤ _
    rw [List.size_toArray, signB_len]
    omega
   clear hpl hst
   replace hs' := Lib.hid hs'
   replace C1 := Lib.hid C1
   replace C2 := Lib.hid C2
   have hN : CB wr.heap.size [.int .i64 ck, .int .u64 (cn : Nat)] (wr.alloc (.cells #[.int .i64 ck, .int .u64 (cn : Nat)] 38)) := CB.new wr #[.int .i64 ck, .int .u64 (cn : Nat)] 38
   have e6 : Ext wr (wr.alloc (.cells #[.int .i64 ck, .int .u64 (cn : Nat)] 38)) := (Ext.refl _).alloc _
   have hbn : bB < wr.heap.size := g4.lt
   go_upto_region 5 with fail
   replace g1 := g1.trans e6
   replace g4 := g4.ext e6
   replace g5 := g5.ext e6
   replace g6 := Ext.row g6 e6
   clear c0 c1 hbl e6
   generalize wr.alloc (.cells #[.int .i64 ck, .int .u64 (cn : Nat)] 38) = w6 at *
   generalize wr.heap.size = bn at *
   have HI : Rd1 bB 2 (.string s) w6 ∧ Rd1 bn 0 (.int .i64 ck) w6 ∧ Rd1 bn 1 (.int .u64 (cn : Nat)) w6 ∧ ShaV w6 := ⟨⟨g4.lt, g4.cell 2 (by simp)⟩, ⟨hN.lt, hN.cell 0 (by simp)⟩, ⟨hN.lt, hN.cell 1 (by simp)⟩, hv.ext g1⟩
   try simp only [Act.put, List.setIfInBounds_toArray, List.set_cons_succ, List.set_cons_zero]
   refine Dm.wp_region_fin (I := (fun U => Rd1 bB 2 (.string s) U ∧ Rd1 bn 0 (.int .i64 ck) U ∧ Rd1 bn 1 (.int .u64 (cn : Nat)) U ∧ ShaV U)) (z := 6) 7 (Dm.bits 7 0) (by kernel_rfl) (by kernel_rfl) (by kernel_rfl) ?_
   refine Dm.wpF_take (i := 0) (listed' := (Dm.bits 7 1)) (fun _ _ h hx => ⟨h.1.ext hx, h.2.1.ext hx, h.2.2.1.ext hx, h.2.2.2.ext hx⟩) HI (by kernel_rfl) (by kernel_rfl) rfl (fun _ _ _ _ h => h) ?_; apply Exists.intro; refine And.intro (fun wq hwq => ?_) ?_
   ·obtain ⟨⟨q1, q2⟩, ⟨q3, q4⟩, ⟨q5, q6⟩, q7⟩ := hwq; go_big_quiet_step ((first | (go_at_call 64; with_reducible exact Calls.quietE (C1.out _)) | (go_at_call 30; with_reducible exact Calls.quietE (C2.out _ (q7.ext (ext_grow _ _)))))); exact wpQuiet_nil rfl
   refine Dm.wpF_take (i := 1) (listed' := (Dm.bits 7 3)) (fun _ _ h hx => ⟨h.1.ext hx, h.2.1.ext hx, h.2.2.1.ext hx, h.2.2.2.ext hx⟩) HI (by kernel_rfl) (by kernel_rfl) rfl (fun _ _ _ _ h => h) ?_; apply Exists.intro; refine And.intro (fun wq hwq => ?_) ?_
   ·obtain ⟨⟨q1, q2⟩, ⟨q3, q4⟩, ⟨q5, q6⟩, q7⟩ := hwq; go_big_quiet_step ((first | (go_at_call 64; with_reducible exact Calls.quietE (C1.out _)) | (go_at_call 30; with_reducible exact Calls.quietE (C2.out _ (q7.ext (ext_grow _ _)))))); exact wpQuiet_nil rfl
   refine Dm.wpF_take (i := 2) (listed' := (Dm.bits 7 7)) (fun _ _ h hx => ⟨h.1.ext hx, h.2.1.ext hx, h.2.2.1.ext hx, h.2.2.2.ext hx⟩) HI (by kernel_rfl) (by kernel_rfl) rfl (fun _ _ _ _ h => h) ?_; apply Exists.intro; refine And.intro (fun wq hwq => ?_) ?_
   ·obtain ⟨⟨q1, q2⟩, ⟨q3, q4⟩, ⟨q5, q6⟩, q7⟩ := hwq; go_big_quiet_step ((first | (go_at_call 64; with_reducible exact Calls.quietE (C1.out _)) | (go_at_call 30; with_reducible exact Calls.quietE (C2.out _ (q7.ext (ext_grow _ _)))))); exact wpQuiet_nil rfl
   refine Dm.wpF_take (i := 3) (listed' := (Dm.bits 7 15)) (fun _ _ h hx => ⟨h.1.ext hx, h.2.1.ext hx, h.2.2.1.ext hx, h.2.2.2.ext hx⟩) HI (by kernel_rfl) (by kernel_rfl) rfl (fun _ _ _ _ h => h) ?_; apply Exists.intro; refine And.intro (fun wq hwq => ?_) ?_
   ·obtain ⟨⟨q1, q2⟩, ⟨q3, q4⟩, ⟨q5, q6⟩, q7⟩ := hwq; go_big_quiet_step ((first | (go_at_call 64; with_reducible exact Calls.quietE (C1.out _)) | (go_at_call 30; with_reducible exact Calls.quietE (C2.out _ (q7.ext (ext_grow _ _)))))); exact wpQuiet_nil rfl
   refine Dm.wpF_take (i := 4) (listed' := (Dm.bits 7 31)) (fun _ _ h hx => ⟨h.1.ext hx, h.2.1.ext hx, h.2.2.1.ext hx, h.2.2.2.ext hx⟩) HI (by kernel_rfl) (by kernel_rfl) rfl (fun _ _ _ _ h => h) ?_; apply Exists.intro; refine And.intro (fun wq hwq => ?_) ?_
   ·obtain ⟨⟨q1, q2⟩, ⟨q3, q4⟩, ⟨q5, q6⟩, q7⟩ := hwq; go_big_quiet_step ((first | (go_at_call 64; with_reducible exact Calls.quietE (C1.out _)) | (go_at_call 30; with_reducible exact Calls.quietE (C2.out _ (q7.ext (ext_grow _ _)))))); exact wpQuiet_nil rfl
   refine Dm.wpF_take (i := 5) (listed' := (Dm.bits 7 63)) (fun _ _ h hx => ⟨h.1.ext hx, h.2.1.ext hx, h.2.2.1.ext hx, h.2.2.2.ext hx⟩) HI (by kernel_rfl) (by kernel_rfl) rfl (fun _ _ _ _ h => h) ?_; apply Exists.intro; refine And.intro (fun wq hwq => ?_) ?_
   ·obtain ⟨⟨q1, q2⟩, ⟨q3, q4⟩, ⟨q5, q6⟩, q7⟩ := hwq; go_big_quiet_step ((first | (go_at_call 64; with_reducible exact Calls.quietE (C1.out _)) | (go_at_call 30; with_reducible exact Calls.quietE (C2.out _ (q7.ext (ext_grow _ _)))))); exact wpQuiet_nil rfl
   refine Dm.wpF_one (i := 6) (listed' := (Dm.bits 7 127)) (by kernel_rfl) (by kernel_rfl) rfl (fun wz hxz => ?_)
   obtain ⟨xl, x0, x1, x2, xf0, xf1, xf2⟩ := (g4.ext hxz).cells3
   go_wp2_with fail
   first | refine ⟨fun h => absurd rfl h, ?_⟩ | skip
   refine Dm.wpF_done (by kernel_rfl) (fun wy hxy => ?_)
   clear xl x0 x1 x2 xf0 xf1 xf2 HI
   have k4 := ((g4.ext hxz).set 2 (.string s') (by simp)).ext hxy
   have k5 := ((g5.ext hxz).far (c := bB) (i := 2) (by omega) (.string s')).ext hxy
   have k6 := Ext.row ((Ext.row g6 hxz).kept (grown_set wz bB 2 (.string s')) (Or.inr fun e2 => by have := hrB _ e2; omega)) hxy
   have k1 := Ext.trans (show Ext w (wz.setCell ⟨bB, 2, none⟩ (.string s')) from Below.setCell (g1.trans hxz) hwB _) hxy
   clear g1 g4 g5 g6 hxz hxy g3
   go_wp2
   go_roundw
   case rel => exact ⟨k + 1, s', by omega, by go_num, k1, hsl, by rw [hs'.out]; rfl, k4, k5, k6⟩
   case measure => simp [intOf]; omega
  ·have hge : ¬ ((k : Int) < (L2.length : Int)) := by omega
   have g3 : s.data.toList = narrowB sg.data.toList L2 := by
    have := g3.out
    rwa [List.take_of_length_le (by omega)] at this
   have hsv : (⟨(narrowB sg.data.toList L2).toArray⟩ : ByteArray) = s := (mk_bytes g3).symm
   obtain ⟨xl, x0, x1, x2, xf0, xf1, xf2⟩ := g4.cells3
   obtain ⟨yl, y0, y1, y2, yf0, yf1, yf2⟩ := g5.cells3
   replace hsv := Lib.hid hsv
   clear g3
   go_wp2
   clear xl x0 x1 x2 xf0 xf1 xf2 yl y0 y1 y2 yf0 yf1 yf2
   have hz := g5.put3 (.string tn) (.slice qr (L1.length + L2.length) cr) (.string s)
   obtain ⟨_, k0, k1, k2, _, _, _⟩ := hz.cells3
   refine bodyPost_ret (v := .agg #[.string tn, .slice qr (L1.length + L2.length) cr, .string s]) (by simp [results, Tryz.results31, go_sem, k0, k1, k2]) rfl ?_
   refine ⟨.slice qr (L1.length + L2.length) cr, by rw [hsv.out], ?_, fun c hc => by have := hrB c hc; omega, Ext.cput3 g1 (by omega) _ _ _⟩
   have ho8 := ((g6.kept (grown_set wr bR 0 (.string tn)) (Or.inr fun e2 => by have := hrB _ e2; omega)).kept (grown_set _ bR 1 (.slice qr (L1.length + L2.length) cr)) (Or.inr fun e2 => by have := hrB _ e2; omega)).kept (grown_set _ bR 2 (.string s)) (Or.inr fun e2 => by have := hrB _ e2; omega)
   have := Sl.of_owns ho8
   show Sl _ 2 _ (L1 ++ L2).length _
   rw [List.length_append]
   exact this
theorem new_w (key tn : ByteArray) (w : World) (hk : key.size ≤ 281474976710656) (ht : tn.size ≤ 140737488355328) (hv : ShaV w) :
  Calls Tryz.prog 10 #[.string key, .string tn] w fun e w' => e = .returned (.agg #[.string tn, .slice none 0 0, .string ⟨(signB key.data.toList tn.data.toList).toArray⟩]) ∧ Ext w w' := by
 have hR : CB w.heap.size [.string ⟨#[]⟩, .slice none 0 0, .string ⟨#[]⟩] (w.alloc (.cells #[.string ⟨#[]⟩, .slice none 0 0, .string ⟨#[]⟩] 24)) := CB.new w #[.string ⟨#[]⟩, .slice none 0 0, .string ⟨#[]⟩] 24
 have hE : Ext w (w.alloc (.cells #[.string ⟨#[]⟩, .slice none 0 0, .string ⟨#[]⟩] 24)) := (Ext.refl _).alloc _
 have C := fun U (h : Ext w U) => sign_w key tn hk ht U (hv.ext h)
 generalize (⟨(signB key.data.toList tn.data.toList).toArray⟩ : ByteArray) = sg at *
 replace C := Lib.hid C
 go_enter Tryz.func10, Tryz.ntmps10
 go_wp2_with fail
 generalize w.alloc (.cells #[.string ⟨#[]⟩, .slice none 0 0, .string ⟨#[]⟩] 24) = w1 at *
 obtain ⟨bR, hbR⟩ : ∃ x, x = w.heap.size := ⟨_, rfl⟩
 have hwR : w.heap.size ≤ bR := by omega
 rw [← hbR] at hR
 rw [← hbR]
 clear hbR
 refine (C.out _ hE).mono ?_; rintro e w2 ⟨rfl, h2⟩
 replace hR := hR.ext h2
 replace hE := hE.trans h2
 obtain ⟨yl, y0, y1, y2, yf0, yf1, yf2⟩ := hR.cells3
 go_wp2
 clear yl y0 y1 y2 yf0 yf1 yf2
 have hz := hR.put3 (.string tn) (.slice none 0 0) (.string sg)
 obtain ⟨_, k0, k1, k2, _, _, _⟩ := hz.cells3
 refine bodyPost_ret (v := .agg #[.string tn, .slice none 0 0, .string sg]) (by simp [results, Tryz.results10, go_sem, k0, k1, k2]) rfl ?_
 exact ⟨rfl, Ext.cput3 hE hwR _ _ _⟩

set_option maxHeartbeats 1000000 in
theorem fits_w (tn sg : ByteArray) (v : Value) (L : List Cav) (w : World) (hl : L.length ≤ 35184372088832) (hx : Cavs w v L) :
  Calls Tryz.prog 61 #[.agg #[.string tn, v, .string sg]] w fun e w' => e = .returned (.bool (fitsC L)) ∧ Ext w w' := by
 obtain ⟨q, cap, rfl, _, _⟩ := hx.shape
 have hB : CB w.heap.size [.string tn, .slice q L.length cap, .string sg] (w.alloc (.cells #[.string tn, .slice q L.length cap, .string sg] 24)) := CB.new w #[.string tn, .slice q L.length cap, .string sg] 24
 have hE : Ext w (w.alloc (.cells #[.string tn, .slice q L.length cap, .string sg] 24)) := (Ext.refl _).alloc _
 have C := fun U (h : Ext w U) => containsF_w L _ U hl (hx.ext h)
 unfold fitsC
 generalize L.all knownC = d at *
 replace C := Lib.hid C
 by_cases h8 : L.length ≤ 8
 ·have h8i : (L.length : Int) ≤ 8 := by omega
  rw [decide_eq_true h8]
  go_enter Tryz.func61, Tryz.ntmps61
  go_upto_region 1 with fail
  generalize w.alloc (.cells #[.string tn, .slice q L.length cap, .string sg] 24) = w1 at *
  obtain ⟨xl, x0, x1, x2, xf0, xf1, xf2⟩ := hB.cells3
  generalize w.heap.size = bB at *
  go_wp2_with fail
  refine (C.out _ hE).mono ?_; rintro e w2 ⟨rfl, h2⟩
  go_wp2
  go_ret
  exact ⟨by simp, hE.trans h2⟩
 ·have h8i : ¬ (L.length : Int) ≤ 8 := by omega
  rw [decide_eq_false h8]
  go_enter Tryz.func61, Tryz.ntmps61
  go_upto_region 1 with fail
  generalize w.alloc (.cells #[.string tn, .slice q L.length cap, .string sg] 24) = w1 at *
  obtain ⟨xl, x0, x1, x2, xf0, xf1, xf2⟩ := hB.cells3
  generalize w.heap.size = bB at *
  go_wp2
  go_ret
  exact ⟨by simp, hE⟩

set_option maxHeartbeats 1000000 in
theorem allows_w (tn sg : ByteArray) (v : Value) (L : List Cav) (right round : Nat) (w : World) (hl : L.length ≤ 35184372088832) (hU : ∀ c ∈ L, U64 c.2) (hx : Cavs w v L) :
  Calls Tryz.prog 29 #[.agg #[.string tn, v, .string sg], .int .u64 (right : Nat), .int .u64 (round : Nat)] w fun e w' => e = .returned (.bool (allowC L right round)) ∧ Ext w w' := by
 obtain ⟨q, cap, rfl, _, _⟩ := hx.shape
 have hB : CB w.heap.size [.string tn, .slice q L.length cap, .string sg] (w.alloc (.cells #[.string tn, .slice q L.length cap, .string sg] 24)) := CB.new w #[.string tn, .slice q L.length cap, .string sg] 24
 have hE : Ext w (w.alloc (.cells #[.string tn, .slice q L.length cap, .string sg] 24)) := (Ext.refl _).alloc _
 generalize hW1 : w.alloc (.cells #[.string tn, .slice q L.length cap, .string sg] 24) = w1 at *
 have hP : CB w1.heap.size [.int .u64 (right : Nat)] (w1.alloc (.cells #[.int .u64 (right : Nat)] 25)) := CB.new w1 #[.int .u64 (right : Nat)] 25
 have e2 : Ext w1 (w1.alloc (.cells #[.int .u64 (right : Nat)] 25)) := (Ext.refl _).alloc _
 generalize hW2 : w1.alloc (.cells #[.int .u64 (right : Nat)] 25) = w2 at *
 have hO : CB w2.heap.size [.int .u64 (round : Nat)] (w2.alloc (.cells #[.int .u64 (round : Nat)] 25)) := CB.new w2 #[.int .u64 (round : Nat)] 25
 have e3 : Ext w2 (w2.alloc (.cells #[.int .u64 (round : Nat)] 25)) := (Ext.refl _).alloc _
 generalize hW3 : w2.alloc (.cells #[.int .u64 (round : Nat)] 25) = w3 at *
 replace hB := (hB.ext e2).ext e3
 replace hP := hP.ext e3
 replace hE := (hE.trans e2).trans e3
 have C := containsA_w L right round w1.heap.size w2.heap.size _ w3 hl (hx.ext hE) hU hP.lt (hP.cell 0 (by simp)) hO.lt (hO.cell 0 (by simp))
 unfold allowC
 have hmf : ∀ (fn : Fn) (first cap : Array Value) (w : World), (Instr.makeFunc fn first cap).run Tryz.prog w = .ok (.func fn first cap) w := fun _ _ _ _ => rfl
 generalize L.all (letC right round) = d at *
 replace C := Lib.hid C
 clear e2 e3 hP hO
 obtain ⟨xl, x0, x1, x2, xf0, xf1, xf2⟩ := hB.cells3
 go_enter Tryz.func29, Tryz.ntmps29
 go_wp2_with fail
 refine C.out.mono ?_; rintro e w4 ⟨rfl, h4⟩
 go_wp2
 go_ret
 exact ⟨by simp, hE.trans h4⟩
end Go.Proofs.YtefjdmjkofaajaaGreatDoor

namespace Go.Dm
open Go Go.RowKit
theorem beq_texts (a b : ByteArray) : (a.toList == b.toList) = decide (a = b) := by
 rw [ByteArray.toList_eq, ByteArray.toList_eq, Bool.eq_iff_iff, beq_iff_eq, decide_eq_true_iff]
 exact ⟨fun h => (mk_bytes h).trans (mk_bytes rfl).symm, fun h => by rw [h]⟩
end Go.Dm
namespace Go.Proofs.YtefjdmjkofaajaaGreatDoor
open Go.RowKit Go.Dm

set_option maxHeartbeats 1000000 in
set_option maxRecDepth 100000 in
theorem narrowO_w (tn sg : ByteArray) (v : Value) (L : List Cav) (c : Cav) (w : World) (hx : Cavs w v L) (hc : U64 c.2) (hn : L.length ≤ 4398046511103) (hs : sg.size ≤ 140737488355328) (hv : ShaV w) :
  Calls Tryz.prog 11 #[.agg #[.string tn, v, .string sg], .agg #[.int .i64 c.1, .int .u64 (c.2 : Nat)]] w fun e w' => ∃ r, e = .returned (.agg #[.string tn, r, .string ⟨(signB sg.data.toList (putC c)).toArray⟩]) ∧ Cavs w' r (L ++ [c]) ∧ (∀ c, r.ownBlock = some c → w.heap.size ≤ c) ∧ Ext w w' := by
 obtain ⟨q, cap, rfl, _, _⟩ := hx.shape
 obtain ⟨ck, cn⟩ := c
 simp only at hc
 have hB : CB w.heap.size [.string tn, .slice q L.length cap, .string sg] (w.alloc (.cells #[.string tn, .slice q L.length cap, .string sg] 24)) := CB.new w #[.string tn, .slice q L.length cap, .string sg] 24
 have hE : Ext w (w.alloc (.cells #[.string tn, .slice q L.length cap, .string sg] 24)) := (Ext.refl _).alloc _
 generalize hW1 : w.alloc (.cells #[.string tn, .slice q L.length cap, .string sg] 24) = w1 at *
 have b01 : w.heap.size < w1.heap.size := by rw [← hW1, World.size_alloc]; omega
 have hC : CB w1.heap.size [.int .i64 ck, .int .u64 (cn : Nat)] (w1.alloc (.cells #[.int .i64 ck, .int .u64 (cn : Nat)] 38)) := CB.new w1 #[.int .i64 ck, .int .u64 (cn : Nat)] 38
 have e2 : Ext w1 (w1.alloc (.cells #[.int .i64 ck, .int .u64 (cn : Nat)] 38)) := (Ext.refl _).alloc _
 generalize hW2 : w1.alloc (.cells #[.int .i64 ck, .int .u64 (cn : Nat)] 38) = w2 at *
 have b12 : w1.heap.size < w2.heap.size := by rw [← hW2, World.size_alloc]; omega
 have hR : CB w2.heap.size [.string ⟨#[]⟩, .slice none 0 0, .string ⟨#[]⟩] (w2.alloc (.cells #[.string ⟨#[]⟩, .slice none 0 0, .string ⟨#[]⟩] 24)) := CB.new w2 #[.string ⟨#[]⟩, .slice none 0 0, .string ⟨#[]⟩] 24
 have e3 : Ext w2 (w2.alloc (.cells #[.string ⟨#[]⟩, .slice none 0 0, .string ⟨#[]⟩] 24)) := (Ext.refl _).alloc _
 generalize hW3 : w2.alloc (.cells #[.string ⟨#[]⟩, .slice none 0 0, .string ⟨#[]⟩] 24) = w3 at *
 have hL : Sl (w3.alloc (.cells #[.int .i64 ck, .int .u64 (cn : Nat)] 38)) 2 (.slice (some ⟨w3.heap.size, 0, none⟩) 1 1) 1 (cavC [(ck, cn)]) := Sl.lit w3 38 2 1 #[.int .i64 ck, .int .u64 (cn : Nat)] rfl (by simp [maxLen])
 have e4 : Ext w3 (w3.alloc (.cells #[.int .i64 ck, .int .u64 (cn : Nat)] 38)) := (Ext.refl _).alloc _
 generalize hW4 : w3.alloc (.cells #[.int .i64 ck, .int .u64 (cn : Nat)] 38) = w4 at *
 have hB3 := (hB.ext e2).ext e3
 have hC3 := hC.ext e3
 have hR4 := hR.ext e4
 have hE4 := ((hE.trans e2).trans e3).trans e4
 have C := narrowed_w tn sg _ (.slice (some ⟨w3.heap.size, 0, none⟩) 1 1) L [(ck, cn)] w4 (hx.ext hE4) hL (fun c hc2 => by simp at hc2; subst hc2; exact hc) (by simp; omega) hs (hv.ext hE4)
 have hnb : narrowB sg.data.toList [(ck, cn)] = signB sg.data.toList (putC (ck, cn)) := rfl
 rw [hnb] at C
 generalize (⟨(signB sg.data.toList (putC (ck, cn))).toArray⟩ : ByteArray) = s' at *
 replace C := Lib.hid C
 have hwR : w.heap.size ≤ w2.heap.size := by omega
 have hbR4 : w2.heap.size < w4.heap.size := hR4.lt
 obtain ⟨xl, x0, x1, x2, xf0, xf1, xf2⟩ := hB3.cells3
 have yl := hC3.lt
 have y0 := hC3.cell 0 (by simp)
 have y1 := hC3.cell 1 (by simp)
 clear e2 e3 e4 hL hnb
 go_enter Tryz.func11, Tryz.ntmps11
 go_wp2_with fail
 clear hW1 hW2 hW3 hW4 xl x0 x1 x2 xf0 xf1 xf2 yl y0 y1
 obtain ⟨bR, hbR⟩ : ∃ x, x = w2.heap.size := ⟨_, rfl⟩
 rw [← hbR] at hR4 hwR hbR4
 rw [← hbR]
 clear hbR
 refine C.out.mono ?_; rintro e w5 ⟨r, rfl, hr, hrn, h5⟩
 replace hR4 := hR4.ext h5
 replace hE4 := hE4.trans h5
 obtain ⟨qr, cr, rfl⟩ : ∃ qr cr, r = .slice qr (L.length + 1) cr := by
  obtain ⟨qr, cr, h, _, _⟩ := hr.shape
  exact ⟨qr, cr, by rw [h, List.length_append]; rfl⟩
 obtain ⟨yl, y0, y1, y2, yf0, yf1, yf2⟩ := hR4.cells3
 go_wp2
 clear yl y0 y1 y2 yf0 yf1 yf2
 have hz := hR4.put3 (.string tn) (.slice qr (L.length + 1) cr) (.string s')
 obtain ⟨_, k0, k1, k2, _, _, _⟩ := hz.cells3
 refine bodyPost_ret (v := .agg #[.string tn, .slice qr (L.length + 1) cr, .string s']) (by simp [results, Tryz.results11, go_sem, k0, k1, k2]) rfl ?_
 refine ⟨_, rfl, ?_, fun c hc => by have := hrn c hc; omega, Ext.cput3 hE4 hwR _ _ _⟩
 have hne : ∀ c, (Value.slice qr (L.length + 1) cr).ownBlock = some c → c ≠ bR := fun c hc => by have := hrn c hc; omega
 exact sl_set (sl_set (sl_set hr hne _) hne _) hne _

theorem narrow_w (tn sg : ByteArray) (v : Value) (L : List Cav) (c : Cav) (w : World) (hx : Cavs w v L) (hc : U64 c.2) (hn : L.length ≤ 4398046511103) (hs : sg.size ≤ 140737488355328) (hv : ShaV w) :
  Calls Tryz.prog 11 #[.agg #[.string tn, v, .string sg], .agg #[.int .i64 c.1, .int .u64 (c.2 : Nat)]] w fun e w' => ∃ r, e = .returned (.agg #[.string tn, r, .string ⟨(signB sg.data.toList (putC c)).toArray⟩]) ∧ Cavs w' r (L ++ [c]) ∧ Ext w w' :=
 (narrowO_w tn sg v L c w hx hc hn hs hv).mono fun _ _ ⟨r, h1, h2, _, h3⟩ => ⟨r, h1, h2, h3⟩

set_option maxHeartbeats 1000000 in
set_option maxRecDepth 100000 in
theorem check_w (key tn sg : ByteArray) (v : Value) (L : List Cav) (w : World) (hk : key.size ≤ 281474976710656) (ht : tn.size ≤ 140737488355328) (hl : L.length ≤ 4398046511103) (hU : ∀ c ∈ L, U64 c.2) (hx : Cavs w v L) (hv : ShaV w) :
  Calls Tryz.prog 28 #[.string key, .agg #[.string tn, v, .string sg]] w fun e w' => e = .returned (.bool (checkT key.data.toList (tn, L, sg))) ∧ Ext w w' := by
 obtain ⟨q, cap, rfl, _, _⟩ := hx.shape
 have hB : CB w.heap.size [.string tn, .slice q L.length cap, .string sg] (w.alloc (.cells #[.string tn, .slice q L.length cap, .string sg] 24)) := CB.new w #[.string tn, .slice q L.length cap, .string sg] 24
 have hE : Ext w (w.alloc (.cells #[.string tn, .slice q L.length cap, .string sg] 24)) := (Ext.refl _).alloc _
 have CF := fun U (h : Ext w U) => fits_w tn sg _ L U (by omega) (hx.ext h)
 have CN := fun U (h : Ext w U) => new_w key tn U hk ht (hv.ext h)
 have CR := fun (s0 : ByteArray) (hs0 : s0.size ≤ 140737488355328) U (h : Ext w U) => narrowed_w tn s0 (.slice none 0 0) _ [] L U (Sl.nil _ _) (hx.ext h) hU (by simp; omega) hs0 (hv.ext h)
 obtain ⟨s0, hs0⟩ : ∃ s0 : ByteArray, s0 = ⟨(signB key.data.toList tn.data.toList).toArray⟩ := ⟨_, rfl⟩
 have hl0 : s0.size ≤ 140737488355328 := by
  rw [hs0]
  show (signB _ _).toArray.size ≤ _
  rw [List.size_toArray, signB_len]
  omega
 have CR := CR s0 hl0
 obtain ⟨s1, hs1⟩ : ∃ s1 : ByteArray, s1 = ⟨(narrowB s0.data.toList L).toArray⟩ := ⟨_, rfl⟩
 rw [← hs0] at CN
 rw [← hs1] at CR
 have hchk : checkT key.data.toList (tn, L, sg) = (fitsC L && decide (s1 = sg)) := by
  unfold checkT
  have e0 : s0.data.toList = signB key.data.toList tn.data.toList := by rw [hs0]
  simp only
  rw [← e0]
  congr 1
  have e1 : s1.data.toList = narrowB s0.data.toList L := by rw [hs1]
  rw [← e1]
  exact decide_eq_decide.2 ⟨fun h => (mk_bytes h).trans (mk_bytes rfl).symm, fun h => by rw [h]⟩
 rw [hchk]
 clear hchk hs0 hs1 hl0
 generalize fitsC L = ft at *
 have hfd : ∀ (a b c : Value) U, (Instr.field 24 (.agg #[a, b, c]) 2).run Tryz.prog U = .ok c U := fun a b c U => by kernel_rfl
 replace CF := Lib.hid CF
 replace CN := Lib.hid CN
 replace CR := Lib.hid CR
 go_enter Tryz.func28, Tryz.ntmps28
 go_upto_region 1 with fail
 generalize w.alloc (.cells #[.string tn, .slice q L.length cap, .string sg] 24) = w1 at *
 generalize w.heap.size = bB at *
 obtain ⟨xl, x0, x1, x2, xf0, xf1, xf2⟩ := hB.cells3
 cases ft with
 | false =>
  try simp only [Act.put, List.setIfInBounds_toArray, List.set_cons_succ, List.set_cons_zero]
  refine Dm.wp_region_ext 16 (Dm.bits 16 0) (Ext.refl w1) (by kernel_rfl) (by kernel_rfl) (by kernel_rfl) ?_
  refine Dm.wpE_take (i := 0) (listed' := (Dm.bits 16 1)) (by kernel_rfl) (by kernel_rfl) rfl (fun _ _ _ _ h => h) ?_; apply Exists.intro; refine And.intro (fun x => ?_) ?_
  ·go_big_quiet_step ((go_at_call 61; with_reducible exact Calls.quietE (CF.out _ (hE.trans (by repeat (first | assumption | exact Ext.refl _ | refine Ext.trans ?_ (ext_grow _ _))))))); exact wpQuiet_nil rfl
  refine Dm.wpE_take (i := 1) (listed' := (Dm.bits 16 3)) (by kernel_rfl) (by kernel_rfl) rfl (fun _ _ _ _ h => h) ?_; apply Exists.intro; refine And.intro (fun x => ?_) ?_
  ·go_big_quiet_step ((go_at_call 61; with_reducible exact Calls.quietE (CF.out _ (hE.trans (by repeat (first | assumption | exact Ext.refl _ | refine Ext.trans ?_ (ext_grow _ _))))))); exact wpQuiet_nil rfl
  refine Dm.wpE_take (i := 2) (listed' := (Dm.bits 16 7)) (by kernel_rfl) (by kernel_rfl) rfl (fun _ _ _ _ h => h) ?_; apply Exists.intro; refine And.intro (fun x => ?_) ?_
  ·go_big_quiet_step ((go_at_call 61; with_reducible exact Calls.quietE (CF.out _ (hE.trans (by repeat (first | assumption | exact Ext.refl _ | refine Ext.trans ?_ (ext_grow _ _))))))); exact wpQuiet_nil rfl
  refine Dm.wpE_take (i := 3) (listed' := (Dm.bits 16 15)) (by kernel_rfl) (by kernel_rfl) rfl (fun _ _ _ _ h => h) ?_; apply Exists.intro; refine And.intro (fun x => ?_) ?_
  ·go_big_quiet_skip; exact wpQuiet_nil rfl
  refine Dm.wpE_take (i := 4) (listed' := (Dm.bits 16 31)) (by kernel_rfl) (by kernel_rfl) rfl (fun _ _ _ _ h => h) ?_; apply Exists.intro; refine And.intro (fun x => ?_) ?_
  ·go_big_quiet_skip; exact wpQuiet_nil rfl
  refine Dm.wpE_take (i := 5) (listed' := (Dm.bits 16 63)) (by kernel_rfl) (by kernel_rfl) rfl (fun _ _ _ _ h => h) ?_; apply Exists.intro; refine And.intro (fun x => ?_) ?_
  ·go_big_quiet_skip; exact wpQuiet_nil rfl
  refine Dm.wpE_take (i := 6) (listed' := (Dm.bits 16 127)) (by kernel_rfl) (by kernel_rfl) rfl (fun _ _ _ _ h => h) ?_; apply Exists.intro; refine And.intro (fun x => ?_) ?_
  ·go_big_quiet_skip; exact wpQuiet_nil rfl
  refine Dm.wpE_take (i := 7) (listed' := (Dm.bits 16 255)) (by kernel_rfl) (by kernel_rfl) rfl (fun _ _ _ _ h => h) ?_; apply Exists.intro; refine And.intro (fun x => ?_) ?_
  ·go_big_quiet_skip; exact wpQuiet_nil rfl
  refine Dm.wpE_take (i := 8) (listed' := (Dm.bits 16 511)) (by kernel_rfl) (by kernel_rfl) rfl (fun _ _ _ _ h => h) ?_; apply Exists.intro; refine And.intro (fun x => ?_) ?_
  ·go_big_quiet_skip; exact wpQuiet_nil rfl
  refine Dm.wpE_take (i := 9) (listed' := (Dm.bits 16 1023)) (by kernel_rfl) (by kernel_rfl) rfl (fun _ _ _ _ h => h) ?_; apply Exists.intro; refine And.intro (fun x => ?_) ?_
  ·go_big_quiet_skip; exact wpQuiet_nil rfl
  refine Dm.wpE_take (i := 10) (listed' := (Dm.bits 16 2047)) (by kernel_rfl) (by kernel_rfl) rfl (fun _ _ _ _ h => h) ?_; apply Exists.intro; refine And.intro (fun x => ?_) ?_
  ·go_big_quiet_skip; exact wpQuiet_nil rfl
  refine Dm.wpE_take (i := 11) (listed' := (Dm.bits 16 4095)) (by kernel_rfl) (by kernel_rfl) rfl (fun _ _ _ _ h => h) ?_; apply Exists.intro; refine And.intro (fun x => ?_) ?_
  ·go_big_quiet_skip; exact wpQuiet_nil rfl
  refine Dm.wpE_take (i := 12) (listed' := (Dm.bits 16 8191)) (by kernel_rfl) (by kernel_rfl) rfl (fun _ _ _ _ h => h) ?_; apply Exists.intro; refine And.intro (fun x => ?_) ?_
  ·go_big_quiet_skip; exact wpQuiet_nil rfl
  refine Dm.wpE_take (i := 13) (listed' := (Dm.bits 16 16383)) (by kernel_rfl) (by kernel_rfl) rfl (fun _ _ _ _ h => h) ?_; apply Exists.intro; refine And.intro (fun x => ?_) ?_
  ·go_big_quiet_skip; exact wpQuiet_nil rfl
  refine Dm.wpE_take (i := 14) (listed' := (Dm.bits 16 32767)) (by kernel_rfl) (by kernel_rfl) rfl (fun _ _ _ _ h => h) ?_; apply Exists.intro; refine And.intro (fun x => ?_) ?_
  ·go_big_quiet_step ((go_at_call 61; with_reducible exact Calls.quietE (CF.out _ (hE.trans (by repeat (first | assumption | exact Ext.refl _ | refine Ext.trans ?_ (ext_grow _ _))))))); exact wpQuiet_nil rfl
  refine Dm.wpE_take (i := 15) (listed' := (Dm.bits 16 65535)) (by kernel_rfl) (by kernel_rfl) rfl (fun _ _ _ _ h => h) ?_; apply Exists.intro; refine And.intro (fun x => ?_) ?_
  ·go_big_quiet_step ((go_at_call 61; with_reducible exact Calls.quietE (CF.out _ (hE.trans (by repeat (first | assumption | exact Ext.refl _ | refine Ext.trans ?_ (ext_grow _ _))))))); exact wpQuiet_nil rfl
  refine Dm.wpE_done (by kernel_rfl) (Ext.refl w1) (fun w1a hx1a => ?_)
  have hX1a := Ext.trans (Ext.refl w1) hx1a
  go_wp2
  go_ret
  exact ⟨by simp, hE.trans hX1a⟩
 | true =>
  try simp only [Act.put, List.setIfInBounds_toArray, List.set_cons_succ, List.set_cons_zero]
  refine Dm.wp_region_ext 16 (Dm.bits 16 0) (Ext.refl w1) (by kernel_rfl) (by kernel_rfl) (by kernel_rfl) ?_
  refine Dm.wpE_take (i := 0) (listed' := (Dm.bits 16 1)) (by kernel_rfl) (by kernel_rfl) rfl (fun _ _ _ _ h => h) ?_; apply Exists.intro; refine And.intro (fun x => ?_) ?_
  ·go_big_quiet_step ((first | (go_at_call 61; with_reducible exact Calls.quietE (CF.out _ (hE.trans (by repeat (first | assumption | exact Ext.refl _ | refine Ext.trans ?_ (ext_grow _ _)))))) | (go_at_call 10; with_reducible exact Calls.quietE (CN.out _ (hE.trans (by repeat (first | assumption | exact Ext.refl _ | refine Ext.trans ?_ (ext_grow _ _)))))))); exact wpQuiet_nil rfl
  refine Dm.wpE_take (i := 1) (listed' := (Dm.bits 16 3)) (by kernel_rfl) (by kernel_rfl) rfl (fun _ _ _ _ h => h) ?_; apply Exists.intro; refine And.intro (fun x => ?_) ?_
  ·go_big_quiet_step ((first | (go_at_call 61; with_reducible exact Calls.quietE (CF.out _ (hE.trans (by repeat (first | assumption | exact Ext.refl _ | refine Ext.trans ?_ (ext_grow _ _)))))) | (go_at_call 10; with_reducible exact Calls.quietE (CN.out _ (hE.trans (by repeat (first | assumption | exact Ext.refl _ | refine Ext.trans ?_ (ext_grow _ _)))))))); exact wpQuiet_nil rfl
  refine Dm.wpE_take (i := 2) (listed' := (Dm.bits 16 7)) (by kernel_rfl) (by kernel_rfl) rfl (fun _ _ _ _ h => h) ?_; apply Exists.intro; refine And.intro (fun x => ?_) ?_
  ·go_big_quiet_step ((first | (go_at_call 61; with_reducible exact Calls.quietE (CF.out _ (hE.trans (by repeat (first | assumption | exact Ext.refl _ | refine Ext.trans ?_ (ext_grow _ _)))))) | (go_at_call 10; with_reducible exact Calls.quietE (CN.out _ (hE.trans (by repeat (first | assumption | exact Ext.refl _ | refine Ext.trans ?_ (ext_grow _ _)))))))); exact wpQuiet_nil rfl
  refine Dm.wpE_take (i := 3) (listed' := (Dm.bits 16 15)) (by kernel_rfl) (by kernel_rfl) rfl (fun _ _ _ _ h => h) ?_; apply Exists.intro; refine And.intro (fun x => ?_) ?_
  ·go_big_quiet_step ((first | (go_at_call 61; with_reducible exact Calls.quietE (CF.out _ (hE.trans (by repeat (first | assumption | exact Ext.refl _ | refine Ext.trans ?_ (ext_grow _ _)))))) | (go_at_call 10; with_reducible exact Calls.quietE (CN.out _ (hE.trans (by repeat (first | assumption | exact Ext.refl _ | refine Ext.trans ?_ (ext_grow _ _)))))))); exact wpQuiet_nil rfl
  refine Dm.wpE_take (i := 4) (listed' := (Dm.bits 16 31)) (by kernel_rfl) (by kernel_rfl) rfl (fun _ _ _ _ h => h) ?_; apply Exists.intro; refine And.intro (fun x => ?_) ?_
  ·go_big_quiet_step ((first | (go_at_call 61; with_reducible exact Calls.quietE (CF.out _ (hE.trans (by repeat (first | assumption | exact Ext.refl _ | refine Ext.trans ?_ (ext_grow _ _)))))) | (go_at_call 10; with_reducible exact Calls.quietE (CN.out _ (hE.trans (by repeat (first | assumption | exact Ext.refl _ | refine Ext.trans ?_ (ext_grow _ _)))))))); exact wpQuiet_nil rfl
  refine Dm.wpE_take (i := 5) (listed' := (Dm.bits 16 63)) (by kernel_rfl) (by kernel_rfl) rfl (fun _ _ _ _ h => h) ?_; apply Exists.intro; refine And.intro (fun x => ?_) ?_
  ·go_big_quiet_step ((first | (go_at_call 61; with_reducible exact Calls.quietE (CF.out _ (hE.trans (by repeat (first | assumption | exact Ext.refl _ | refine Ext.trans ?_ (ext_grow _ _)))))) | (go_at_call 10; with_reducible exact Calls.quietE (CN.out _ (hE.trans (by repeat (first | assumption | exact Ext.refl _ | refine Ext.trans ?_ (ext_grow _ _)))))))); exact wpQuiet_nil rfl
  refine Dm.wpE_take (i := 6) (listed' := (Dm.bits 16 127)) (by kernel_rfl) (by kernel_rfl) rfl (fun _ _ _ _ h => h) ?_; apply Exists.intro; refine And.intro (fun x => ?_) ?_
  ·go_big_quiet_step ((first | (go_at_call 61; with_reducible exact Calls.quietE (CF.out _ (hE.trans (by repeat (first | assumption | exact Ext.refl _ | refine Ext.trans ?_ (ext_grow _ _)))))) | (go_at_call 10; with_reducible exact Calls.quietE (CN.out _ (hE.trans (by repeat (first | assumption | exact Ext.refl _ | refine Ext.trans ?_ (ext_grow _ _)))))))); exact wpQuiet_nil rfl
  refine Dm.wpE_take (i := 7) (listed' := (Dm.bits 16 255)) (by kernel_rfl) (by kernel_rfl) rfl (fun _ _ _ _ h => h) ?_; apply Exists.intro; refine And.intro (fun x => ?_) ?_
  ·go_big_quiet_step ((first | (go_at_call 61; with_reducible exact Calls.quietE (CF.out _ (hE.trans (by repeat (first | assumption | exact Ext.refl _ | refine Ext.trans ?_ (ext_grow _ _)))))) | (go_at_call 10; with_reducible exact Calls.quietE (CN.out _ (hE.trans (by repeat (first | assumption | exact Ext.refl _ | refine Ext.trans ?_ (ext_grow _ _)))))))); exact wpQuiet_nil rfl
  refine Dm.wpE_take (i := 8) (listed' := (Dm.bits 16 511)) (by kernel_rfl) (by kernel_rfl) rfl (fun _ _ _ _ h => h) ?_; apply Exists.intro; refine And.intro (fun x => ?_) ?_
  ·go_big_quiet_step ((first | (go_at_call 61; with_reducible exact Calls.quietE (CF.out _ (hE.trans (by repeat (first | assumption | exact Ext.refl _ | refine Ext.trans ?_ (ext_grow _ _)))))) | (go_at_call 10; with_reducible exact Calls.quietE (CN.out _ (hE.trans (by repeat (first | assumption | exact Ext.refl _ | refine Ext.trans ?_ (ext_grow _ _)))))))); exact wpQuiet_nil rfl
  refine Dm.wpE_take (i := 11) (listed' := (Dm.bits 16 2559)) (by kernel_rfl) (by kernel_rfl) rfl (fun _ _ _ _ h => h) ?_; apply Exists.intro; refine And.intro (fun x => ?_) ?_
  ·go_big_quiet_step ((first | (go_at_call 61; with_reducible exact Calls.quietE (CF.out _ (hE.trans (by repeat (first | assumption | exact Ext.refl _ | refine Ext.trans ?_ (ext_grow _ _)))))) | (go_at_call 10; with_reducible exact Calls.quietE (CN.out _ (hE.trans (by repeat (first | assumption | exact Ext.refl _ | refine Ext.trans ?_ (ext_grow _ _)))))))); exact wpQuiet_nil rfl
  refine Dm.wpE_take (i := 12) (listed' := (Dm.bits 16 6655)) (by kernel_rfl) (by kernel_rfl) rfl (fun _ _ _ _ h => h) ?_; apply Exists.intro; refine And.intro (fun x => ?_) ?_
  ·go_big_quiet_step ((first | (go_at_call 61; with_reducible exact Calls.quietE (CF.out _ (hE.trans (by repeat (first | assumption | exact Ext.refl _ | refine Ext.trans ?_ (ext_grow _ _)))))) | (go_at_call 10; with_reducible exact Calls.quietE (CN.out _ (hE.trans (by repeat (first | assumption | exact Ext.refl _ | refine Ext.trans ?_ (ext_grow _ _)))))))); exact wpQuiet_nil rfl
  refine Dm.wpE_one (i := 9) (listed' := (Dm.bits 16 7167)) (by kernel_rfl) (by kernel_rfl) rfl (Ext.refl w1) (fun w1a hx1a => ?_)
  have hX1a := Ext.trans (Ext.refl w1) hx1a
  go_wp2_with (go_at_call 31; go_must (refine (CR.out w1a (hE.trans hX1a)).mono ?_; rintro e w1b ⟨rr, rfl, hrr, _, hs1⟩))
  obtain ⟨qq, cc, rfl, _, _⟩ := hrr.shape
  have hX1b := Ext.trans hX1a hs1
  try simp only [Exit.then, Act.put, List.setIfInBounds_toArray, List.set_cons_succ, List.set_cons_zero]
  refine Dm.wpE_take (i := 10) (listed' := (Dm.bits 16 8191)) (by kernel_rfl) (by kernel_rfl) rfl (fun _ _ _ _ h => h) ?_; apply Exists.intro; refine And.intro (fun x => ?_) ?_
  ·go_big_quiet_step ((first | (go_at_call 61; with_reducible exact Calls.quietE (CF.out _ (hE.trans (by repeat (first | assumption | exact Ext.refl _ | refine Ext.trans ?_ (ext_grow _ _)))))) | (go_at_call 10; with_reducible exact Calls.quietE (CN.out _ (hE.trans (by repeat (first | assumption | exact Ext.refl _ | refine Ext.trans ?_ (ext_grow _ _)))))))); exact wpQuiet_nil rfl
  refine Dm.wpE_take (i := 13) (listed' := (Dm.bits 16 16383)) (by kernel_rfl) (by kernel_rfl) rfl (fun _ _ _ _ h => h) ?_; apply Exists.intro; refine And.intro (fun x => ?_) ?_
  ·go_big_quiet_step ((first | (go_at_call 61; with_reducible exact Calls.quietE (CF.out _ (hE.trans (by repeat (first | assumption | exact Ext.refl _ | refine Ext.trans ?_ (ext_grow _ _)))))) | (go_at_call 10; with_reducible exact Calls.quietE (CN.out _ (hE.trans (by repeat (first | assumption | exact Ext.refl _ | refine Ext.trans ?_ (ext_grow _ _)))))))); exact wpQuiet_nil rfl
  refine Dm.wpE_take (i := 14) (listed' := (Dm.bits 16 32767)) (by kernel_rfl) (by kernel_rfl) rfl (fun _ _ _ _ h => h) ?_; apply Exists.intro; refine And.intro (fun x => ?_) ?_
  ·go_big_quiet_step ((first | (go_at_call 61; with_reducible exact Calls.quietE (CF.out _ (hE.trans (by repeat (first | assumption | exact Ext.refl _ | refine Ext.trans ?_ (ext_grow _ _)))))) | (go_at_call 10; with_reducible exact Calls.quietE (CN.out _ (hE.trans (by repeat (first | assumption | exact Ext.refl _ | refine Ext.trans ?_ (ext_grow _ _)))))))); exact wpQuiet_nil rfl
  refine Dm.wpE_take (i := 15) (listed' := (Dm.bits 16 65535)) (by kernel_rfl) (by kernel_rfl) rfl (fun _ _ _ _ h => h) ?_; apply Exists.intro; refine And.intro (fun x => ?_) ?_
  ·go_big_quiet_step ((first | (go_at_call 61; with_reducible exact Calls.quietE (CF.out _ (hE.trans (by repeat (first | assumption | exact Ext.refl _ | refine Ext.trans ?_ (ext_grow _ _)))))) | (go_at_call 10; with_reducible exact Calls.quietE (CN.out _ (hE.trans (by repeat (first | assumption | exact Ext.refl _ | refine Ext.trans ?_ (ext_grow _ _)))))))); exact wpQuiet_nil rfl
  refine Dm.wpE_done (by kernel_rfl) hX1b (fun w2a hx2a => ?_)
  have hX2a := Ext.trans hX1b hx2a
  go_wp2
  go_ret
  exact ⟨by rw [← beq_texts]; simp, hE.trans hX2a⟩
end Go.Proofs.YtefjdmjkofaajaaGreatDoor

namespace Go.Dm
open Go Go.RowKit
/-- P7.4. -/
def putTok (t : TokQ) : Bs := if rightL t.1.data.toList = true ∧ fitsC t.2.1 = true ∧ t.2.2.size = 32 then putT t.1.data.toList ++ (putL t.2.1.length ++ (t.2.1.flatMap putC ++ t.2.2.data.toList)) else []
end Go.Dm
namespace Go.Proofs.YtefjdmjkofaajaaGreatDoor
open Go.RowKit Go.Dm

set_option maxHeartbeats 2000000 in
set_option maxRecDepth 100000 in
theorem mput_w (tn sg : ByteArray) (v : Value) (L : List Cav) (w : World) (ht : tn.size ≤ 140737488351232) (_hs : sg.size ≤ 140737488351232) (hl : L.length ≤ 4398046511103) (hU : ∀ c ∈ L, U64 c.2) (hx : Cavs w v L) (hv : Vars w) :
  Calls Tryz.prog 26 #[.agg #[.string tn, v, .string sg]] w fun e w' => e = .returned (.string ⟨(putTok (tn, L, sg)).toArray⟩) ∧ Ext w w' := by
 obtain ⟨q, cap, rfl, _, _⟩ := hx.shape
 have hB : CB w.heap.size [.string tn, .slice q L.length cap, .string sg] (w.alloc (.cells #[.string tn, .slice q L.length cap, .string sg] 24)) := CB.new w #[.string tn, .slice q L.length cap, .string sg] 24
 have hE : Ext w (w.alloc (.cells #[.string tn, .slice q L.length cap, .string sg] 24)) := (Ext.refl _).alloc _
 have CR := fun U (h : Ext w U) => right_fit tn U (by omega) (hv.tabs.ext h)
 have CF := fun U (h : Ext w U) => fits_w tn sg _ L U (by omega) (hx.ext h)
 have hgo : rightL tn.data.toList = true → fitsC L = true → sg.size = 32 → putTok (tn, L, sg) = putT tn.data.toList ++ (putL L.length ++ (L.flatMap putC ++ sg.data.toList)) := fun h1 h2 h3 => by unfold putTok; rw [if_pos ⟨h1, h2, h3⟩]
 have hno : ¬ (rightL tn.data.toList = true ∧ fitsC L = true ∧ sg.size = 32) → putTok (tn, L, sg) = [] := fun h => by unfold putTok; rw [if_neg h]
 have hrl : rightL tn.data.toList = true → tn.size ≤ 32 := fun h => right_len h
 have hfl : fitsC L = true → L.length ≤ 8 := fun h => by unfold fitsC at h; simp at h; exact h.1
 have hPT := fun U => puttext_w tn U (by omega)
 have hPL := fun U (h : U64 L.length) => put_w L.length U h
 generalize rightL tn.data.toList = rt at *
 generalize fitsC L = ft at *
 obtain ⟨PK, hPK⟩ : ∃ PK, PK = putTok (tn, L, sg) := ⟨_, rfl⟩
 rw [← hPK] at hgo hno
 replace hgo := Lib.hid hgo
 replace hno := Lib.hid hno
 replace CR := Lib.hid CR
 replace CF := Lib.hid CF
 replace hPK := Lib.hid hPK
 replace hPT := Lib.hid hPT
 replace hPL := Lib.hid hPL
 cases rt with
 | false =>
  go_enter Tryz.func26, Tryz.ntmps26
  go_upto_region 1 with fail
  generalize w.alloc (.cells #[.string tn, .slice q L.length cap, .string sg] 24) = w1 at *
  generalize w.heap.size = bB at *
  obtain ⟨xl, x0, x1, x2, xf0, xf1, xf2⟩ := hB.cells3
  go_wp2_with fail
  refine (CR.out _ hE).mono ?_; rintro e w2 ⟨rfl, h2⟩
  go_wp2
  go_ret
  exact ⟨by rw [← hPK.out, hno.out (by simp)]; rfl, hE.trans h2⟩
 | true =>
  have htl := hrl rfl
  cases ft with
  | false =>
   go_enter Tryz.func26, Tryz.ntmps26
   go_upto_region 1 with fail
   generalize w.alloc (.cells #[.string tn, .slice q L.length cap, .string sg] 24) = w1 at *
   generalize w.heap.size = bB at *
   obtain ⟨xl, x0, x1, x2, xf0, xf1, xf2⟩ := hB.cells3
   go_wp2_with fail
   refine (CR.out _ hE).mono ?_; rintro e w2 ⟨rfl, h2⟩
   clear xl x0 x1 x2 xf0 xf1 xf2
   replace hB := hB.ext h2
   obtain ⟨xl, x0, x1, x2, xf0, xf1, xf2⟩ := hB.cells3
   go_wp2_with fail
   refine (CF.out _ (hE.trans h2)).mono ?_; rintro e w3 ⟨rfl, h3⟩
   go_wp2
   go_ret
   exact ⟨by rw [← hPK.out, hno.out (by simp)]; rfl, (hE.trans h2).trans h3⟩
  | true =>
   have hll := hfl rfl
   by_cases h32 : sg.size = 32
   ·have h32i : (sg.size : Int) = 32 := by omega
    have hpk := hgo.out rfl rfl h32
    have hll' := hll
    go_enter Tryz.func26, Tryz.ntmps26
    go_upto_region 1 with fail
    generalize w.alloc (.cells #[.string tn, .slice q L.length cap, .string sg] 24) = w1 at *
    generalize w.heap.size = bB at *
    obtain ⟨xl, x0, x1, x2, xf0, xf1, xf2⟩ := hB.cells3
    replace hpk := Lib.hid hpk
    go_wp2_with fail
    refine (CR.out _ hE).mono ?_; rintro e w2 ⟨rfl, h2⟩
    clear xl x0 x1 x2 xf0 xf1 xf2
    replace hB := hB.ext h2
    replace hE := hE.trans h2
    obtain ⟨xl, x0, x1, x2, xf0, xf1, xf2⟩ := hB.cells3
    go_wp2_with fail
    refine (CF.out _ hE).mono ?_; rintro e w3 ⟨rfl, h3⟩
    clear xl x0 x1 x2 xf0 xf1 xf2
    replace hB := hB.ext h3
    replace hE := hE.trans h3
    obtain ⟨xl, x0, x1, x2, xf0, xf1, xf2⟩ := hB.cells3
    go_upto_region 3 with fail
    have hLU : U64 L.length := by show L.length < _; omega
    have p1 : (⟨(putT tn.data.toList).toArray⟩ : ByteArray).size ≤ 42 := by
     rw [size_len]
     have h10 := putL_ten (u := tn.data.toList.length) (show tn.data.toList.length < _ from Nat.lt_of_le_of_lt (show tn.data.toList.length ≤ 32 from htl) (by decide))
     unfold putT
     rw [List.length_append]
     have : tn.data.toList.length ≤ 32 := htl
     omega
    have p2 : (⟨(putL L.length).toArray⟩ : ByteArray).size ≤ 10 := by rw [size_len]; exact putL_ten hLU
    have hPL2 := hPL.out
    have hPT2 := hPT.out
    obtain ⟨b1, hb1⟩ : ∃ b : ByteArray, b = ⟨(putT tn.data.toList).toArray⟩ := ⟨_, rfl⟩
    obtain ⟨b2, hb2⟩ : ∃ b : ByteArray, b = ⟨(putL L.length).toArray⟩ := ⟨_, rfl⟩
    rw [← hb1] at p1 hPT2
    rw [← hb2] at p2 hPL2
    replace hPL := Lib.hid (fun U => hPL2 U hLU)
    replace hPT := Lib.hid hPT2
    clear hPL2 hPT2
    have hs0 : Hid ((b1 ++ b2).data.toList = putT tn.data.toList ++ putL L.length) := by
     show _ = _
     rw [data_append, hb1, hb2]
    clear hb1 hb2
    try simp only [Act.put, List.setIfInBounds_toArray, List.set_cons_succ, List.set_cons_zero]
    refine Dm.wp_region_ext 10 (Dm.bits 10 0) (Ext.refl w3) (by kernel_rfl) (by kernel_rfl) (by kernel_rfl) ?_
    refine Dm.wpE_take (i := 0) (listed' := (Dm.bits 10 1)) (by kernel_rfl) (by kernel_rfl) rfl (fun _ _ _ _ h => h) ?_; apply Exists.intro; refine And.intro (fun x => ?_) ?_
    ·go_big_quiet_step ((first | (go_at_call 62; with_reducible exact Calls.quietE (hPT.out _)) | (go_at_call 63; with_reducible exact Calls.quietE (hPL.out _)))); exact wpQuiet_nil rfl
    refine Dm.wpE_take (i := 1) (listed' := (Dm.bits 10 3)) (by kernel_rfl) (by kernel_rfl) rfl (fun _ _ _ _ h => h) ?_; apply Exists.intro; refine And.intro (fun x => ?_) ?_
    ·go_big_quiet_step ((first | (go_at_call 62; with_reducible exact Calls.quietE (hPT.out _)) | (go_at_call 63; with_reducible exact Calls.quietE (hPL.out _)))); exact wpQuiet_nil rfl
    refine Dm.wpE_take (i := 2) (listed' := (Dm.bits 10 7)) (by kernel_rfl) (by kernel_rfl) rfl (fun _ _ _ _ h => h) ?_; apply Exists.intro; refine And.intro (fun x => ?_) ?_
    ·go_big_quiet_step ((first | (go_at_call 62; with_reducible exact Calls.quietE (hPT.out _)) | (go_at_call 63; with_reducible exact Calls.quietE (hPL.out _)))); exact wpQuiet_nil rfl
    refine Dm.wpE_take (i := 3) (listed' := (Dm.bits 10 15)) (by kernel_rfl) (by kernel_rfl) rfl (fun _ _ _ _ h => h) ?_; apply Exists.intro; refine And.intro (fun x => ?_) ?_
    ·go_big_quiet_step ((first | (go_at_call 62; with_reducible exact Calls.quietE (hPT.out _)) | (go_at_call 63; with_reducible exact Calls.quietE (hPL.out _)))); exact wpQuiet_nil rfl
    refine Dm.wpE_take (i := 4) (listed' := (Dm.bits 10 31)) (by kernel_rfl) (by kernel_rfl) rfl (fun _ _ _ _ h => h) ?_; apply Exists.intro; refine And.intro (fun x => ?_) ?_
    ·go_big_quiet_step ((first | (go_at_call 62; with_reducible exact Calls.quietE (hPT.out _)) | (go_at_call 63; with_reducible exact Calls.quietE (hPL.out _)))); exact wpQuiet_nil rfl
    refine Dm.wpE_take (i := 5) (listed' := (Dm.bits 10 63)) (by kernel_rfl) (by kernel_rfl) rfl (fun _ _ _ _ h => h) ?_; apply Exists.intro; refine And.intro (fun x => ?_) ?_
    ·go_big_quiet_step ((first | (go_at_call 62; with_reducible exact Calls.quietE (hPT.out _)) | (go_at_call 63; with_reducible exact Calls.quietE (hPL.out _)))); exact wpQuiet_nil rfl
    refine Dm.wpE_take (i := 6) (listed' := (Dm.bits 10 127)) (by kernel_rfl) (by kernel_rfl) rfl (fun _ _ _ _ h => h) ?_; apply Exists.intro; refine And.intro (fun x => ?_) ?_
    ·go_big_quiet_step ((first | (go_at_call 62; with_reducible exact Calls.quietE (hPT.out _)) | (go_at_call 63; with_reducible exact Calls.quietE (hPL.out _)))); exact wpQuiet_nil rfl
    refine Dm.wpE_take (i := 7) (listed' := (Dm.bits 10 255)) (by kernel_rfl) (by kernel_rfl) rfl (fun _ _ _ _ h => h) ?_; apply Exists.intro; refine And.intro (fun x => ?_) ?_
    ·go_big_quiet_step ((first | (go_at_call 62; with_reducible exact Calls.quietE (hPT.out _)) | (go_at_call 63; with_reducible exact Calls.quietE (hPL.out _)))); exact wpQuiet_nil rfl
    refine Dm.wpE_take (i := 8) (listed' := (Dm.bits 10 511)) (by kernel_rfl) (by kernel_rfl) rfl (fun _ _ _ _ h => h) ?_; apply Exists.intro; refine And.intro (fun x => ?_) ?_
    ·go_big_quiet_step ((first | (go_at_call 62; with_reducible exact Calls.quietE (hPT.out _)) | (go_at_call 63; with_reducible exact Calls.quietE (hPL.out _)))); exact wpQuiet_nil rfl
    refine Dm.wpE_take (i := 9) (listed' := (Dm.bits 10 1023)) (by kernel_rfl) (by kernel_rfl) rfl (fun _ _ _ _ h => h) ?_; apply Exists.intro; refine And.intro (fun x => ?_) ?_
    ·go_big_quiet_step ((first | (go_at_call 62; with_reducible exact Calls.quietE (hPT.out _)) | (go_at_call 63; with_reducible exact Calls.quietE (hPL.out _)))); exact wpQuiet_nil rfl
    refine Dm.wpE_done (by kernel_rfl) (Ext.refl w3) (fun w1a hx1a => ?_)
    have hX1a := Ext.trans (Ext.refl w3) hx1a
    clear xl x0 x1 x2 xf0 xf1 xf2 hx1a
    replace hB := hB.ext hX1a
    replace hE := hE.trans hX1a
    have hz : (b1 ++ b2).size ≤ 52 := by rw [ByteArray.size_append]; omega
    generalize b1 ++ b2 = b0 at *
    clear hX1a p1 p2 hPL hPT
    obtain ⟨xl, x0, x1, x2, xf0, xf1, xf2⟩ := hB.cells3
    go_wp2
    clear xl x0 x1 x2 xf0 xf1 xf2
    go_loopw [3, 33] (fun t i wr => ∃ (k : Nat) (b : ByteArray), k ≤ L.length ∧ i = .int .i64 k ∧ t = .string b ∧ b.size ≤ 52 + 20 * k ∧ Hid (b.data.toList = putT tn.data.toList ++ putL L.length ++ (L.take k).flatMap putC) ∧ Ext w wr ∧ CB bB [.string tn, .slice q L.length cap, .string sg] wr) (fun _ i _ => L.length - (intOf i).toNat)
    case atStart => exact ⟨0, b0, by omega, rfl, rfl, by omega, by show _ = _; rw [hs0.out, List.take_zero]; simp, hE, hB⟩
    case round =>
     obtain ⟨k, b, hk, rfl, rfl, hbs, hb, g1, g2⟩ := hrel
     by_cases hlt : k < L.length
     ·obtain ⟨bq, off, rfl, hbl, c0, c1⟩ := (hx.ext g1).at hlt
      have hcU := hU _ (show L.getD k (0, 0) ∈ L by rw [List.getD_eq_getElem?_getD, List.getElem?_eq_getElem hlt]; exact List.getElem_mem hlt)
      have hst : (L.take (k + 1)).flatMap putC = (L.take k).flatMap putC ++ putC (L.getD k (0, 0)) := by
       rw [List.take_add_one, List.getElem?_eq_getElem hlt, List.flatMap_append, List.getD_eq_getElem?_getD, List.getElem?_eq_getElem hlt]
       simp
      generalize L.getD k (0, 0) = c at *
      obtain ⟨ck, cn⟩ := c
      simp only at c0 c1 hcU
      have hpl := putC_len (c := (ck, cn)) hcU
      have C1 := fun U => putc_w (ck, cn) hcU U
      simp only at C1
      obtain ⟨pb, hpb⟩ : ∃ b : ByteArray, b = ⟨(putC (ck, cn)).toArray⟩ := ⟨_, rfl⟩
      rw [← hpb] at C1
      have hps : pb.size ≤ 20 := by rw [hpb, size_len]; exact hpl
      have hnx : Hid ((b ++ pb).data.toList = putT tn.data.toList ++ putL L.length ++ (L.take (k + 1)).flatMap putC) := by
       show _ = _
       rw [data_append, hb.out, hst, hpb, List.append_assoc]
      clear hpb hpl hst
      replace C1 := Lib.hid C1
      have hbnd : b.size ≤ 1000 := by omega
      go_upto_region 7 with fail
      have hN : CB wr.heap.size [.int .i64 ck, .int .u64 (cn : Nat)] (wr.alloc (.cells #[.int .i64 ck, .int .u64 (cn : Nat)] 38)) := CB.new wr #[.int .i64 ck, .int .u64 (cn : Nat)] 38
      have e6 : Ext wr (wr.alloc (.cells #[.int .i64 ck, .int .u64 (cn : Nat)] 38)) := (Ext.refl _).alloc _
      replace g1 := g1.trans e6
      replace g2 := g2.ext e6
      clear c0 c1 hbl e6
      generalize wr.alloc (.cells #[.int .i64 ck, .int .u64 (cn : Nat)] 38) = w6 at *
      generalize wr.heap.size = bn at *
      have yl := hN.lt
      have y0 := hN.cell 0 (by simp)
      have y1 := hN.cell 1 (by simp)
      go_wp2_with fail
      refine (C1.out _).mono ?_; rintro e w7 ⟨rfl, h7⟩
      clear yl y0 y1
      go_wp2
      go_roundw
      case rel => exact ⟨k + 1, b ++ pb, by omega, by go_num, rfl, by rw [ByteArray.size_append, Nat.mul_add]; omega, hnx, g1.trans h7, g2.ext h7⟩
      case measure => simp [intOf]; omega
     ·have hge : ¬ ((k : Int) < (L.length : Int)) := by omega
      have hbe : b.data.toList = putT tn.data.toList ++ putL L.length ++ L.flatMap putC := by
       have := hb.out
       rwa [List.take_of_length_le (by omega)] at this
      have hfin : Hid ((⟨(putTok (tn, L, sg)).toArray⟩ : ByteArray) = b ++ sg) := by
       show _ = _
       refine (mk_bytes ?_).symm
       rw [data_append, hbe, ← hPK.out, hpk.out]
       simp
      have hbnd : b.size ≤ 1000 := by omega
      clear hbe hb
      obtain ⟨xl, x0, x1, x2, xf0, xf1, xf2⟩ := g2.cells3
      go_wp2
      go_ret
      exact ⟨by rw [hfin.out]; rfl, g1⟩
   ·have h32i : ¬ (sg.size : Int) = 32 := by omega
    go_enter Tryz.func26, Tryz.ntmps26
    go_upto_region 1 with fail
    generalize w.alloc (.cells #[.string tn, .slice q L.length cap, .string sg] 24) = w1 at *
    generalize w.heap.size = bB at *
    obtain ⟨xl, x0, x1, x2, xf0, xf1, xf2⟩ := hB.cells3
    go_wp2_with fail
    refine (CR.out _ hE).mono ?_; rintro e w2 ⟨rfl, h2⟩
    clear xl x0 x1 x2 xf0 xf1 xf2
    replace hB := hB.ext h2
    obtain ⟨xl, x0, x1, x2, xf0, xf1, xf2⟩ := hB.cells3
    go_wp2_with fail
    refine (CF.out _ (hE.trans h2)).mono ?_; rintro e w3 ⟨rfl, h3⟩
    clear xl x0 x1 x2 xf0 xf1 xf2
    replace hB := hB.ext h3
    obtain ⟨xl, x0, x1, x2, xf0, xf1, xf2⟩ := hB.cells3
    go_wp2
    go_ret
    exact ⟨by rw [← hPK.out, hno.out (fun h => h32 h.2.2)]; rfl, (hE.trans h2).trans h3⟩
end Go.Proofs.YtefjdmjkofaajaaGreatDoor

