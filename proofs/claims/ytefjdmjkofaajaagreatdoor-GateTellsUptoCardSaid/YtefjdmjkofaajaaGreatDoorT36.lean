/- Texts of the base. -/

import Derived.Test.YtefjdmjkofaajaaGreatDoorT34
import Derived.Test.YtefjdmjkofaajaaGreatDoorT16
import Derived.Test.YtefjdmjkofaajaaGreatDoorT23
import Derived.Test.YtefjdmjkofaajaaGreatDoorT29
import Derived.Test.YtefjdmjkofaajaaGreatDoorT8
import Derived.Test.YtefjdmjkofaajaaGreatDoorT17
namespace Go.Dm
open Go Go.RowKit
structure OkT (t : TokQ) : Prop where
 tn : t.1.size ≤ 140737488351232
 sg : t.2.2.size ≤ 140737488351232
 len : t.2.1.length ≤ 4398046511103
 n : ∀ c ∈ t.2.1, U64 c.2
theorem OkT.zero : OkT noTok.1 := ⟨by show (0 : Nat) ≤ _; omega, by show (0 : Nat) ≤ _; omega, by show (0 : Nat) ≤ _; omega, fun c hc => by cases hc⟩
def GotKO (B : Nat) (w : World) (G : TokQ × Int × Bool) (e : Ending) : Prop :=
 ∃ v, e = .returned (.tuple #[.agg #[.string G.1.1, v, .string G.1.2.2], .int .i64 G.2.1, .bool G.2.2]) ∧ Cavs w v G.1.2.1 ∧ (∀ c, v.ownBlock = some c → B ≤ c) ∧ OkT G.1
end Go.Dm
namespace Go.Proofs.YtefjdmjkofaajaaGreatDoor
open Go.RowKit Go.Dm
set_option maxHeartbeats 2000000 in
set_option maxRecDepth 100000 in
theorem mgetO_w (s : ByteArray) (p : Int) (w : World) (hs : s.size ≤ 281474976710656) (hv : Vars w) :
  Calls Tryz.prog 39 #[.string s, .int .i64 p] w fun e w' => GotKO w.heap.size w' (getTok s.data.toList p) e ∧ Ext w w' := by
 have hln : s.data.toList.length = s.size := rfl
 have hB : CB w.heap.size [.string ⟨#[]⟩, .slice none 0 0, .string ⟨#[]⟩] (w.alloc (.cells #[.string ⟨#[]⟩, .slice none 0 0, .string ⟨#[]⟩] 24)) := CB.new w #[.string ⟨#[]⟩, .slice none 0 0, .string ⟨#[]⟩] 24
 have hE : Ext w (w.alloc (.cells #[.string ⟨#[]⟩, .slice none 0 0, .string ⟨#[]⟩] 24)) := (Ext.refl _).alloc _
 have C1 := fun U => wgettext_w s p 32 U hs (by omega)
 have C2 := fun q U => wget_w s q U hs
 have C3 := fun q U => caveat_w s q U hs
 have C4 := fun (tn sg : ByteArray) v L U (h1 : tn.size ≤ 140737488351232) (h2 : sg.size ≤ 140737488351232) (h3 : L.length ≤ 4398046511103) (h4 : ∀ c ∈ L, U64 c.2) (h5 : Cavs U v L) (h : Ext w U) => mput_w tn sg v L U h1 h2 h3 h4 h5 (hv.ext h)
 obtain ⟨G, hG⟩ : ∃ G, G = getTok s.data.toList p := ⟨_, rfl⟩
 have hGd := hG
 unfold getTok at hGd
 have ht32 := fun h => text32 (l := s.data.toList) (p := p) (hln ▸ hs) h
 rw [← hG]
 clear hG
 generalize atI (getTextL 32) [] s.data.toList p = T at *
 obtain ⟨tb, q1, b1⟩ := T
 simp only at hGd C1 ht32
 have C2 := C2 q1
 have hnb := fun h => getI_range (l := s.data.toList) (p := q1) (hln ▸ hs) h
 generalize getI s.data.toList q1 = N at *
 obtain ⟨n, q2, b2⟩ := N
 simp only at hGd C2 hnb
 obtain ⟨tn, htn⟩ : ∃ tn : ByteArray, tn = ⟨tb.toArray⟩ := ⟨_, rfl⟩
 rw [← htn] at C1 hGd
 have htl : b1 = true → tn.size ≤ 32 := fun h => by rw [htn, size_len]; exact ht32 h
 clear ht32 htn
 replace C1 := Lib.hid C1
 replace C2 := Lib.hid C2
 replace C3 := Lib.hid C3
 replace C4 := Lib.hid C4
 replace hGd := Lib.hid hGd
 have hwB : w.heap.size ≤ w.heap.size := Nat.le_refl _
 go_enter Tryz.func39, Tryz.ntmps39
 go_wp2_with fail
 have hbl : w.heap.size + 1 ≤ (w.alloc (.cells #[.string ⟨#[]⟩, .slice none 0 0, .string ⟨#[]⟩] 24)).heap.size := by simp
 generalize w.alloc (.cells #[.string ⟨#[]⟩, .slice none 0 0, .string ⟨#[]⟩] 24) = w1 at *
 obtain ⟨bB, hbB⟩ : ∃ x, x = w.heap.size := ⟨_, rfl⟩
 rw [← hbB] at hB hbl
 rw [← hbB]
 replace hwB : w.heap.size ≤ bB := by omega
 clear hbB
 refine (C1.out _).mono ?_; rintro e w2 ⟨rfl, h2⟩
 replace hB := hB.ext h2
 replace hE := hE.trans h2
 have hbl2 := Nat.le_trans hbl h2.size
 clear h2
 have hB2 : CB bB [.string tn, .slice none 0 0, .string ⟨#[]⟩] (w2.setCell ⟨bB, 0, none⟩ (.string tn)) := hB.set 0 (.string tn) (by simp)
 have hE2 : Ext w (w2.setCell ⟨bB, 0, none⟩ (.string tn)) := Below.setCell hE hwB _
 have hbl3 : bB + 1 ≤ (w2.setCell ⟨bB, 0, none⟩ (.string tn)).heap.size := by rw [World.size_setCell]; exact hbl2
 obtain ⟨xl, x0, x1, x2, xf0, xf1, xf2⟩ := hB.cells3
 go_wp2_with fail
 clear xl x0 x1 x2 xf0 xf1 xf2
 clear hB hE hbl hbl2
 generalize w2.setCell ⟨bB, 0, none⟩ (.string tn) = w3 at *
 refine (C2.out _).mono ?_; rintro e w4 ⟨rfl, h4⟩
 have hB := hB2.ext h4
 have hE := hE2.trans h4
 have hbl := Nat.le_trans hbl3 h4.size
 clear h4 hB2 hE2 hbl3 C1 C2
 by_cases hbad : b1 = false ∨ b2 = false ∨ 8 < n
 ·have HG : G = noTok := by rw [hGd.out, if_pos hbad]
  clear hGd
  cases b1 with
  | false =>
   obtain ⟨xl, x0, x1, x2, xf0, xf1, xf2⟩ := hB.cells3
   go_wp2
   clear xl x0 x1 x2 xf0 xf1 xf2
   have hz := hB.put3 (.string ⟨#[]⟩) (.slice none 0 0) (.string ⟨#[]⟩)
   obtain ⟨_, k0, k1, k2, _, _, _⟩ := hz.cells3
   refine bodyPost_ret (v := .tuple #[.agg #[.string ⟨#[]⟩, .slice none 0 0, .string ⟨#[]⟩], .int .i64 0, .bool false]) (by simp [results, Tryz.results39, go_sem, k0, k1, k2]) rfl ?_
   exact ⟨⟨.slice none 0 0, by rw [HG]; rfl, by rw [HG]; exact Sl.nil _ _, (fun c h => by cases h), by rw [HG]; exact OkT.zero⟩, Ext.cput3 hE hwB _ _ _⟩
  | true =>
   cases b2 with
   | false =>
    obtain ⟨xl, x0, x1, x2, xf0, xf1, xf2⟩ := hB.cells3
    go_wp2
    clear xl x0 x1 x2 xf0 xf1 xf2
    have hz := hB.put3 (.string ⟨#[]⟩) (.slice none 0 0) (.string ⟨#[]⟩)
    obtain ⟨_, k0, k1, k2, _, _, _⟩ := hz.cells3
    refine bodyPost_ret (v := .tuple #[.agg #[.string ⟨#[]⟩, .slice none 0 0, .string ⟨#[]⟩], .int .i64 0, .bool false]) (by simp [results, Tryz.results39, go_sem, k0, k1, k2]) rfl ?_
    exact ⟨⟨.slice none 0 0, by rw [HG]; rfl, by rw [HG]; exact Sl.nil _ _, (fun c h => by cases h), by rw [HG]; exact OkT.zero⟩, Ext.cput3 hE hwB _ _ _⟩
   | true =>
    have h8 : (8 : Int) < (n : Int) := by simp at hbad; omega
    obtain ⟨xl, x0, x1, x2, xf0, xf1, xf2⟩ := hB.cells3
    go_wp2
    clear xl x0 x1 x2 xf0 xf1 xf2
    have hz := hB.put3 (.string ⟨#[]⟩) (.slice none 0 0) (.string ⟨#[]⟩)
    obtain ⟨_, k0, k1, k2, _, _, _⟩ := hz.cells3
    refine bodyPost_ret (v := .tuple #[.agg #[.string ⟨#[]⟩, .slice none 0 0, .string ⟨#[]⟩], .int .i64 0, .bool false]) (by simp [results, Tryz.results39, go_sem, k0, k1, k2]) rfl ?_
    exact ⟨⟨.slice none 0 0, by rw [HG]; rfl, by rw [HG]; exact Sl.nil _ _, (fun c h => by cases h), by rw [HG]; exact OkT.zero⟩, Ext.cput3 hE hwB _ _ _⟩
 ·have hGe := hGd.out
  rw [if_neg hbad] at hGe
  simp only [not_or, Bool.not_eq_false] at hbad
  obtain ⟨rfl, rfl, h8⟩ := hbad
  clear hGd
  have htl := htl (by trivial)
  have hnb2 := hnb (by trivial)
  have h8i : ¬ (8 : Int) < (n : Int) := by omega
  replace hGe := Lib.hid hGe
  obtain ⟨xl, x0, x1, x2, xf0, xf1, xf2⟩ := hB.cells3
  go_wp2
  clear xl x0 x1 x2 xf0 xf1 xf2
  go_loopw [1, 39] (fun at_ i wr => ∃ (k : Nat) (cs : List Cav) (z : Int) (v : Value), k ≤ n ∧ i = .int .u64 (k : Nat) ∧ at_ = .int .i64 z ∧ cs.length = k ∧ Hid (cavsAt s.data.toList q2 k = some (cs, z)) ∧ 0 ≤ z ∧ z ≤ s.size ∧ (∀ c ∈ cs, U64 c.2) ∧ Ext w wr ∧ bB + 1 ≤ wr.heap.size ∧ wr.ownsRow (bB + 1) 38 2 v k (cavC cs) ∧ CB bB [.string tn, v, .string ⟨#[]⟩] wr) (fun _ i _ => n - (intOf i).toNat)
  case atStart => exact ⟨0, [], q2, .slice none 0 0, by omega, rfl, rfl, rfl, by first | rfl | exact rfl, hnb2.1, hnb2.2, (fun c hc => by cases hc), hE, hbl, World.ownsRow_nil _ _ _ _, hB⟩
  case round =>
   obtain ⟨k, cs, z, v, hk, rfl, rfl, hcl, hcs, hz0, hz1, hcu, g1, g2, g3, g4⟩ := hrel
   by_cases hlt : k < n
   ·have hlti : (k : Int) < (n : Int) := by omega
    have hst := cavsAt_succ hcs.out
    have C3 := C3.out z
    have hrg := getCav_range (l := s.data.toList) (p := z) (hln ▸ hs)
    generalize getCav s.data.toList z = K at *
    obtain ⟨⟨ck, cn⟩, z2, b3⟩ := K
    simp only at C3 hst hrg
    replace C3 := Lib.hid C3
    obtain ⟨q3, cp3, rfl, hq1, hq2, hq0⟩ := (Sl.of_owns g3).shape
    cases b3 with
    | false =>
     have HG : G = noTok := by
      rw [hGe.out, cavsAt_none (k := k + 1) (by rw [hst]; rfl) (by omega)]; rfl
     clear hst hcs
     go_wp2_with fail
     refine (C3.out _).mono ?_; rintro e w6 ⟨rfl, h6⟩
     replace g4 := g4.ext h6
     replace g1 := g1.trans h6
     have ee := (Ext.refl w6).alloc (.cells #[.int .i64 ck, .int .u64 (cn : Nat)] 38)
     go_upto_region 8 with fail
     replace g4 := g4.ext ee
     replace g1 := g1.trans ee
     generalize w6.alloc (.cells #[.int .i64 ck, .int .u64 (cn : Nat)] 38) = w7 at *
     obtain ⟨xl, x0, x1, x2, xf0, xf1, xf2⟩ := g4.cells3
     go_wp2
     clear xl x0 x1 x2 xf0 xf1 xf2
     have hz := g4.put3 (.string ⟨#[]⟩) (.slice none 0 0) (.string ⟨#[]⟩)
     obtain ⟨_, k0, k1, k2, _, _, _⟩ := hz.cells3
     refine bodyPost_ret (v := .tuple #[.agg #[.string ⟨#[]⟩, .slice none 0 0, .string ⟨#[]⟩], .int .i64 0, .bool false]) (by simp [results, Tryz.results39, go_sem, k0, k1, k2]) rfl ?_
     exact ⟨⟨.slice none 0 0, by rw [HG]; rfl, by rw [HG]; exact Sl.nil _ _, (fun c h => by cases h), by rw [HG]; exact OkT.zero⟩, Ext.cput3 g1 hwB _ _ _⟩
    | true =>
     obtain ⟨r1, r2, r3⟩ := hrg (by trivial)
     rw [if_pos rfl] at hst
     replace hst := Lib.hid hst
     go_wp2_with fail
     refine (C3.out _).mono ?_; rintro e w6 ⟨rfl, h6⟩
     replace g4 := g4.ext h6
     replace g1 := g1.trans h6
     replace g3 := Ext.row g3 h6
     replace g2 := Nat.le_trans g2 h6.size
     have hN : CB w6.heap.size [.int .i64 ck, .int .u64 (cn : Nat)] (w6.alloc (.cells #[.int .i64 ck, .int .u64 (cn : Nat)] 38)) := CB.new w6 #[.int .i64 ck, .int .u64 (cn : Nat)] 38
     have ee := (Ext.refl w6).alloc (.cells #[.int .i64 ck, .int .u64 (cn : Nat)] 38)
     go_upto_region 10 with fail
     replace g4 := g4.ext ee
     replace g1 := g1.trans ee
     replace g3 := Ext.row g3 ee
     replace g2 := Nat.le_trans g2 ee.size
     generalize w6.alloc (.cells #[.int .i64 ck, .int .u64 (cn : Nat)] 38) = w7 at *
     generalize w6.heap.size = bn at *
     have yl := hN.lt
     have y0 := hN.cell 0 (by simp)
     have y1 := hN.cell 1 (by simp)
     obtain ⟨xl, x0, x1, x2, xf0, xf1, xf2⟩ := g4.cells3
     have e8 := (Ext.refl w7).alloc (.cells #[.int .i64 ck, .int .u64 (cn : Nat)] 38)
     have ho8 := Ext.row g3 e8
     have hl8 : Sl (w7.alloc (.cells #[.int .i64 ck, .int .u64 (cn : Nat)] 38)) 2 (.slice (some ⟨w7.heap.size, 0, none⟩) 1 1) 1 (cavC [(ck, cn)]) := Sl.lit w7 38 2 1 #[.int .i64 ck, .int .u64 (cn : Nat)] rfl (by simp [maxLen])
     have g48 := g4.ext e8
     have g18 := g1.trans e8
     have g28 := Nat.le_trans g2 e8.size
     have hne : ∀ c, (Value.slice q3 k cp3).ownBlock = some c → c ≠ bB := fun c hc => by have := (ho8.lt c hc).1; omega
     clear e8 g4 g1 g3 hN
     go_wp2_with (at_builtin; refine wpList_app rfl _ _ Tryz.slCav rfl rfl ho8 rfl hl8 (cavC_one [(ck, cn)]) (by omega) g28 ?_; intro v9 w9 ho9 hg9; refine Hid.out ?_)
     clear yl y0 y1 xl x0 x1 x2 xf0 xf1 xf2
     have g49 := g48.grown hg9 (fun e => hne _ e.symm rfl)
     have g19 := Ext.app g18 ho8 hg9 (by omega)
     have g29 := Nat.le_trans g28 hg9.size
     obtain ⟨q9, cp9, rfl, _, _, _⟩ := (Sl.of_owns ho9).shape
     have hne9 : ∀ c, (Value.slice q9 (k + 1) cp9).ownBlock = some c → c ≠ bB := fun c hc => by have := (ho9.lt c hc).1; omega
     have k4 := g49.set 1 (.slice q9 (k + 1) cp9) (by simp)
     have k1 : Ext w (w9.setCell ⟨bB, 1, none⟩ (.slice q9 (k + 1) cp9)) := Below.setCell g19 hwB _
     have k3 := ho9.kept (grown_set w9 bB 1 (.slice q9 (k + 1) cp9)) (Or.inr fun e => hne9 _ e rfl)
     have k2 : bB + 1 ≤ (w9.setCell ⟨bB, 1, none⟩ (.slice q9 (k + 1) cp9)).heap.size := by rw [World.size_setCell]; exact g29
     obtain ⟨xl, x0, x1, x2, xf0, xf1, xf2⟩ := g49.cells3
     refine Lib.hid ?_
     clear ho8 hl8 g48 g18 g28
     go_wp2
     clear xl x0 x1 x2 xf0 xf1 xf2
     go_roundw
     case rel => exact ⟨k + 1, cs ++ [(ck, cn)], z2, .slice q9 (k + 1) cp9, by omega, by go_num, rfl, by simp [hcl], hst, r2, by have : s.data.toList.length = s.size := rfl; omega, (fun c hc => by
      rcases List.mem_append.1 hc with h | h
      ·exact hcu c h
      ·simp at h; subst h; exact r1), k1, k2, by rw [cavC_app]; exact k3, k4⟩
     case measure => simp [intOf]; omega
   ·obtain rfl : k = n := by omega
    have hge : ¬ ((k : Int) < (k : Int)) := by omega
    obtain ⟨zn, rfl⟩ : ∃ zn : Nat, z = zn := ⟨z.toNat, by omega⟩
    obtain ⟨nx, hnx⟩ : ∃ nx : Nat, nx = min (zn + 32) s.size := ⟨_, rfl⟩
    have hmn : min ((zn : Int) + 32) (s.size : Int) = (nx : Int) := by omega
    have hn1 : zn ≤ nx := by omega
    have hn2 : nx ≤ s.size := by omega
    have hn3 : nx - zn ≤ 32 := by omega
    obtain ⟨sg, hsg⟩ : ∃ sg, sg = s.extract zn nx := ⟨_, rfl⟩
    have hsgl : sg.size = nx - zn := by rw [hsg, ByteArray.size_extract]; omega
    have hsgd : sg.data.toList = (s.data.toList.drop zn).take 32 := by
     rw [hsg, Lib.extract_data]
     by_cases h : zn + 32 ≤ s.size
     ·rw [show nx - zn = 32 by omega]
     ·rw [List.take_of_length_le (by rw [List.length_drop]; omega), List.take_of_length_le (by rw [List.length_drop]; omega)]
    have hGt : G = if putTok (tn, cs, sg) = [] then noTok else ((tn, cs, sg), (zn : Int) + 32, true) := by
     rw [hGe.out, hcs.out]
     show (if putTok (tn, cs, ⟨((s.data.toList.drop (zn : Int).toNat).take 32).toArray⟩) = [] then noTok else ((tn, cs, ⟨((s.data.toList.drop (zn : Int).toNat).take 32).toArray⟩), (zn : Int) + 32, true)) = _
     have e : (⟨((s.data.toList.drop (zn : Int).toNat).take 32).toArray⟩ : ByteArray) = sg := by
      rw [Int.toNat_natCast, ← hsgd]
     rw [e]
    have h32 : putTok (tn, cs, sg) ≠ [] → nx = zn + 32 := fun h => by
     unfold putTok at h
     split at h
     ·rename_i h2
      have := h2.2.2
      simp only at this
      omega
     ·exact absurd rfl h
    obtain ⟨qv, cv, rfl, hqv, _, _⟩ := (Sl.of_owns g3).shape
    have hne : ∀ c, (Value.slice qv k cv).ownBlock = some c → c ≠ bB := fun c hc => by have := (g3.lt c hc).1; omega
    have hOkT : Hid (OkT (tn, cs, sg)) := ⟨by show tn.size ≤ _; omega, by show sg.size ≤ _; omega, by show cs.length ≤ _; omega, hcu⟩
    have C4 := fun U (h : Ext w U) (hc : Cavs U (.slice qv k cv) cs) => C4.out tn sg (.slice qv k cv) cs U (by omega) (by omega) (by omega) hcu hc h
    have m4 := g4.set 2 (.string sg) (by simp)
    have m1 : Ext w (wr.setCell ⟨bB, 2, none⟩ (.string sg)) := Below.setCell g1 hwB _
    have m3 := g3.kept (grown_set wr bB 2 (.string sg)) (Or.inr fun e => hne _ e rfl)
    have m5 : Cavs (wr.setCell ⟨bB, 2, none⟩ (.string sg)) (.slice qv k cv) cs := by
     have := Sl.of_owns m3
     rw [← hcl] at this ⊢
     exact this
    obtain ⟨PT, hPT⟩ : ∃ PT : ByteArray, PT = ⟨(putTok (tn, cs, sg)).toArray⟩ := ⟨_, rfl⟩
    rw [← hPT] at C4
    have hPE : PT.toList.isEmpty = decide (putTok (tn, cs, sg) = []) := by
     rw [hPT, ByteArray.toList_eq]
     cases putTok (tn, cs, sg) <;> simp
    replace C4 := Lib.hid C4
    replace hGt := Lib.hid hGt
    replace h32 := Lib.hid h32
    clear hPT hsgd hGe hcs hsgl hnx C3
    have hsl : s.extract zn nx = sg := hsg.symm
    clear hsg
    obtain ⟨xl, x0, x1, x2, xf0, xf1, xf2⟩ := g4.cells3
    go_upto_region 14 with fail
    clear xl x0 x1 x2 xf0 xf1 xf2 g1 g3 g4
    generalize wr.setCell ⟨bB, 2, none⟩ (.string sg) = w6 at *
    change CB bB [.string tn, .slice qv k cv, .string sg] w6 at m4
    obtain ⟨xl, x0, x1, x2, xf0, xf1, xf2⟩ := m4.cells3
    go_wp2_with fail
    refine (C4.out _ m1 m5).mono ?_; rintro e w7 ⟨rfl, h7⟩
    clear xl x0 x1 x2 xf0 xf1 xf2
    replace m4 := m4.ext h7
    replace m1 := m1.trans h7
    replace m5 := m5.ext h7
    replace m3 := Ext.row m3 h7
    by_cases hpe : putTok (tn, cs, sg) = []
    ·have HG : G = noTok := by rw [hGt.out, if_pos hpe]
     rw [decide_eq_true hpe] at hPE
     obtain ⟨xl, x0, x1, x2, xf0, xf1, xf2⟩ := m4.cells3
     go_wp2
     clear xl x0 x1 x2 xf0 xf1 xf2
     have hz := m4.put3 (.string ⟨#[]⟩) (.slice none 0 0) (.string ⟨#[]⟩)
     obtain ⟨_, k0, k1, k2, _, _, _⟩ := hz.cells3
     refine bodyPost_ret (v := .tuple #[.agg #[.string ⟨#[]⟩, .slice none 0 0, .string ⟨#[]⟩], .int .i64 0, .bool false]) (by simp [results, Tryz.results39, go_sem, k0, k1, k2]) rfl ?_
     exact ⟨⟨.slice none 0 0, by rw [HG]; rfl, by rw [HG]; exact Sl.nil _ _, (fun c h => by cases h), by rw [HG]; exact OkT.zero⟩, Ext.cput3 m1 hwB _ _ _⟩
    ·have HG := hGt.out.trans (if_neg hpe)
     have hz32 := Lib.hid (h32.out hpe)
     rw [decide_eq_false hpe] at hPE
     obtain ⟨xl, x0, x1, x2, xf0, xf1, xf2⟩ := m4.cells3
     go_wp2
     clear xl x0 x1 x2 xf0 xf1 xf2
     have hz := m4.put3 (.string tn) (.slice qv k cv) (.string sg)
     obtain ⟨_, k0, k1, k2, _, _, _⟩ := hz.cells3
     refine bodyPost_ret (v := .tuple #[.agg #[.string tn, .slice qv k cv, .string sg], .int .i64 nx, .bool true]) (by simp [results, Tryz.results39, go_sem, k0, k1, k2]) rfl ?_
     refine ⟨⟨.slice qv k cv, by rw [HG, hz32.out]; rfl, ?_, (fun c hc => by have := (m3.lt c hc).1; omega), by rw [HG]; exact hOkT.out⟩, Ext.cput3 m1 hwB _ _ _⟩
     rw [HG]
     exact sl_set (sl_set (sl_set m5 hne _) hne _) hne _
end Go.Proofs.YtefjdmjkofaajaaGreatDoor
namespace Go.Dm
open Go Go.RowKit
def OpAt (w : World) (V : Value) (o : OpQ) : Prop :=
 ∃ v l R, V = opV o.1 o.2.1.1 o.2.1.2 o.2.2.1 (vG o.2.2.2.1) o.2.2.2.2.1.1 (vG o.2.2.2.2.1.2.1) o.2.2.2.2.1.2.2.1 v l ∧ Terms w v R ∧ FitR R ∧ R.length ≤ 35184372088832 ∧ R.map rowT = o.2.2.2.2.1.2.2.2 ∧ Pairs w l o.2.2.2.2.2 ∧ OkO o
theorem OpAt.ext {w w' : World} {V : Value} {o : OpQ} (h : OpAt w V o) (hx : Ext w w') : OpAt w' V o := by
 obtain ⟨v, l, R, h1, h2, h3, h4, h5, h6, h7⟩ := h
 exact ⟨v, l, R, h1, h2.ext hx, h3, h4, h5, h6.ext hx, h7⟩
def SmallO (o : OpQ) : Prop := o.2.2.2.2.1.2.2.2.length ≤ 1048576 ∧ o.2.2.2.2.2.length ≤ 1048576 ∧ o.2.2.2.2.1.1.size ≤ 1048576
def TokAt (w : World) (T : Value) (t : TokQ) : Prop := ∃ v, T = .agg #[.string t.1, v, .string t.2.2] ∧ Cavs w v t.2.1 ∧ OkT t
theorem TokAt.ext {w w' : World} {T : Value} {t : TokQ} (h : TokAt w T t) (hx : Ext w w') : TokAt w' T t := by
 obtain ⟨v, h1, h2, h3⟩ := h
 exact ⟨v, h1, Sl.ext h2 hx, h3⟩
def TokC (w : World) (T : Value) (t : TokQ) : Prop := ∃ v, T = .agg #[.string t.1, v, .string t.2.2] ∧ Cavs w v t.2.1 ∧ t.1.size ≤ 140737488351232 ∧ t.2.1.length ≤ 4398046511103 ∧ ∀ c ∈ t.2.1, U64 c.2
theorem TokC.ext {w w' : World} {T : Value} {t : TokQ} (h : TokC w T t) (hx : Ext w w') : TokC w' T t := by
 obtain ⟨v, h1, h2, h3⟩ := h
 exact ⟨v, h1, Sl.ext h2 hx, h3⟩
theorem TokAt.c {w : World} {T : Value} {t : TokQ} (h : TokAt w T t) : TokC w T t := by
 obtain ⟨v, h1, h2, h3⟩ := h
 exact ⟨v, h1, h2, h3.tn, h3.len, h3.n⟩
def putG (t : TokQ) (o : OpQ) : Bs := if putTok t = [] ∨ putO o = [] then [] else putTok t ++ putO o
theorem caves_len : ∀ {L : List Cav}, (∀ c ∈ L, U64 c.2) → (L.flatMap putC).length ≤ 20 * L.length
 | [], _ => by simp
 | c :: L, h => by
  have h1 := putC_len (h c (List.mem_cons_self ..))
  have h2 := caves_len (L := L) (fun x hx => h x (List.mem_cons_of_mem _ hx))
  rw [List.flatMap_cons, List.length_append, List.length_cons]; omega
theorem putTok_len {t : TokQ} (h : OkT t) : (putTok t).length ≤ 1000 := by
 unfold putTok
 by_cases hc : rightL t.1.data.toList = true ∧ fitsC t.2.1 = true ∧ t.2.2.size = 32
 ·rw [if_pos hc]
  have h1 := right_len hc.1
  have h2 : t.2.1.length ≤ 8 := by have := hc.2.1; unfold fitsC at this; simp at this; exact this.1
  have h3 := caves_len h.n
  have h4 := putL_ten (u := t.1.data.toList.length) (Nat.lt_of_le_of_lt h1 (by decide))
  have h5 := putL_ten (u := t.2.1.length) (Nat.lt_of_le_of_lt h2 (by decide))
  have h6 : t.2.2.data.toList.length = 32 := hc.2.2
  unfold putT
  rw [List.length_append, List.length_append, List.length_append, List.length_append]; omega
 ·rw [if_neg hc]; simp
theorem cond_len {b : Bool} {l : Bs} {n : Nat} (h : l.length ≤ n) : (cond b l []).length ≤ n := by
 cases b
 ·simp
 ·exact h
theorem putO_len {o : OpQ} (h : OkO o) : (putO o).length ≤ 5000 := by
 unfold putO
 by_cases hr : rightO o = true
 ·rw [if_pos hr]
  obtain ⟨k, hk, h1, h13, h98⟩ := rightO_kind hr
  have p0 : (putL o.1.toNat).length ≤ 10 := putL_ten (by rw [hk]; exact Nat.lt_of_le_of_lt h13 (by decide))
  have p1 := cond_len (b := ((knownF o.1).getD noFld).1) (putL_ten h.i)
  have p2 := cond_len (b := ((knownF o.1).getD noFld).2.1) (putL_ten h.n)
  have p3 := cond_len (b := ((knownF o.1).getD noFld).2.2.1) (l := putT o.2.2.1.data.toList) (n := 108) (by
   have h9 : o.2.2.1.data.toList.length ≤ 98 := h98
   have := putL_ten (u := o.2.2.1.data.toList.length) (Nat.lt_of_le_of_lt h9 (by decide))
   unfold putT
   rw [List.length_append]; omega)
  have p4 := cond_len (b := ((knownF o.1).getD noFld).2.2.2.1) (putV_40 h.d)
  have p5 := cond_len (b := ((knownF o.1).getD noFld).2.2.2.2.1) (putX_short (x := o.2.2.2.2.1) h.e)
  have p6 := cond_len (b := ((knownF o.1).getD noFld).2.2.2.2.2) (putLab_700 (labL o.2.2.2.2.2))
  unfold putsOf
  simp only [List.length_append]; omega
 ·rw [if_neg hr]; simp
theorem two_rows (w : World) (t1 t2 : TypeId) (z1 z2 c1 c2 : List Value) : ∃ w', (((w.alloc (.cells z1.toArray t1)).alloc (.cells z2.toArray t2)).setRow w.heap.size c1.toArray).setRow (w.heap.size + 1) c2.toArray = w' ∧
  RB w.heap.size t1 z1 ((w.alloc (.cells z1.toArray t1)).alloc (.cells z2.toArray t2)) ∧ RB (w.heap.size + 1) t2 z2 (((w.alloc (.cells z1.toArray t1)).alloc (.cells z2.toArray t2)).setRow w.heap.size c1.toArray) ∧
  RB w.heap.size t1 c1 w' ∧ RB (w.heap.size + 1) t2 c2 w' ∧ Ext w w' := by
 have r1 := (RB.new w t1 z1).ext ((Ext.refl _).alloc (.cells z2.toArray t2))
 have r2 := RB.new (w.alloc (.cells z1.toArray t1)) t2 z2
 rw [World.size_alloc] at r2
 have r3 := r2.farRow (c := w.heap.size) (by omega) c1.toArray
 exact ⟨_, rfl, r1, r3, (r1.setRow c1).farRow (by omega) _, r3.setRow c2, Ext.setRow (Ext.setRow (((Ext.refl w).alloc _).alloc _) (Nat.le_refl _) _) (Nat.le_succ _) _⟩
theorem emptyB (l : Bs) : ((⟨l.toArray⟩ : ByteArray).toList == []) = decide (l = []) := by
 rw [ByteArray.toList_eq]
 cases l <;> simp
end Go.Dm
namespace Go.Proofs.YtefjdmjkofaajaaGreatDoor
open Go.RowKit Go.Dm
theorem putA {w : World} {V : Value} {o : OpQ} (h : OpAt w V o) (hv : Vars w) : Calls Tryz.prog 27 #[V] w fun e w' => e = .returned (.string ⟨(putO o).toArray⟩) ∧ Ext w w' := by
 obtain ⟨v, l, R, rfl, h2, h3, h4, h5, h6, h7⟩ := h
 obtain ⟨k, ⟨i, n⟩, p, d, ⟨s, e, m, tt⟩, P⟩ := o
 obtain rfl : R.map rowT = tt := h5
 exact aput_w k i n p d s e m v l R P w h7.k h7.i h7.n h7.d h7.s h7.e h4 h3 h2 h7.p h7.f h6 hv
theorem opAt_kind {w : World} {V : Value} {o : OpQ} (h : OpAt w V o) : KindAt V o.1 := by
 obtain ⟨v, l, R, rfl, _⟩ := h
 exact ⟨_, _, _, _, _, _, _, _, _, _, _, _, _, _, _, _, _, rfl⟩
theorem needsA {w : World} {V : Value} {o : OpQ} (h : OpAt w V o) (hg : GateV w) : Calls Tryz.prog 13 #[V] w fun e w' => e = .returned (needsV o.1) ∧ Ext w w' := by
 exact needs_w o.1 V w (opAt_kind h) hg
theorem putTA {w : World} {T : Value} {t : TokQ} (h : TokAt w T t) (hv : Vars w) : Calls Tryz.prog 26 #[T] w fun e w' => e = .returned (.string ⟨(putTok t).toArray⟩) ∧ Ext w w' := by
 obtain ⟨v, rfl, h2, h3⟩ := h
 exact mput_w t.1 t.2.2 v t.2.1 w h3.tn h3.sg h3.len h3.n h2 hv
theorem checkA {w : World} {T : Value} {t : TokQ} (key : ByteArray) (hk : key.size ≤ 281474976710656) (h : TokC w T t) (hv : ShaV w) : Calls Tryz.prog 28 #[.string key, T] w fun e w' => e = .returned (.bool (checkT key.data.toList t)) ∧ Ext w w' := by
 obtain ⟨v, rfl, h2, h3, h4, h5⟩ := h
 exact check_w key t.1 t.2.2 v t.2.1 w hk (by omega) h4 h5 h2 hv
theorem allowsA {w : World} {T : Value} {t : TokQ} (right round : Nat) (h : TokC w T t) : Calls Tryz.prog 29 #[T, .int .u64 (right : Nat), .int .u64 (round : Nat)] w fun e w' => e = .returned (.bool (allowC t.2.1 right round)) ∧ Ext w w' := by
 obtain ⟨v, rfl, h2, h3, h4, h5⟩ := h
 exact allows_w t.1 t.2.2 v t.2.1 right round w (by omega) h5 h2
set_option maxHeartbeats 2000000 in
set_option maxRecDepth 100000 in
theorem gput_w (T V : Value) (t : TokQ) (o : OpQ) (w : World) (ht : TokAt w T t) (ho : OpAt w V o) (hv : Vars w) :
  Calls Tryz.prog 15 #[T, V] w fun e w' => e = .returned (.string ⟨(putG t o).toArray⟩) ∧ Ext w w' := by
 have CT := fun U (h : Ext w U) => putTA (ht.ext h) (hv.ext h)
 have CO := fun U (h : Ext w U) => putA (ho.ext h) (hv.ext h)
 have zT : (⟨(putTok t).toArray⟩ : ByteArray).size ≤ 1000 := by
  obtain ⟨_, _, _, h3⟩ := ht
  rw [size_len]; exact putTok_len h3
 have zO : (⟨(putO o).toArray⟩ : ByteArray).size ≤ 5000 := by
  obtain ⟨_, _, _, _, _, _, _, _, _, h7⟩ := ho
  rw [size_len]; exact putO_len h7
 have eT := emptyB (putTok t)
 have eO := emptyB (putO o)
 have hG : (⟨(putG t o).toArray⟩ : ByteArray) = if putTok t = [] ∨ putO o = [] then ⟨#[]⟩ else ⟨(putTok t).toArray⟩ ++ ⟨(putO o).toArray⟩ := by
  unfold putG
  by_cases h : putTok t = [] ∨ putO o = []
  ·rw [if_pos h, if_pos h]
  ·rw [if_neg h, if_neg h]
   exact (mk_bytes (by rw [data_append])).symm
 obtain ⟨vt, rfl, hcv, _⟩ := ht
 obtain ⟨qt, ct, rfl, _, _⟩ := hcv.shape
 obtain ⟨v, l, R, rfl, hT, _, _, _, hP, _⟩ := ho
 obtain ⟨qv, cv, rfl, _, _⟩ := hT.shape
 obtain ⟨ql, cl, rfl, _, _⟩ := hP.shape
 clear hcv hT hP
 obtain ⟨tn, L, sg⟩ := t
 obtain ⟨k, ⟨i, n⟩, p, d, ⟨s, e, m, tt⟩, P⟩ := o
 unfold opV at CO ⊢
 simp only at CT CO hG zT zO eT eO ⊢
 generalize (⟨(putG (tn, L, sg) (k, (i, n), p, d, (s, e, m, tt), P)).toArray⟩ : ByteArray) = TG at *
 generalize (⟨(putTok (tn, L, sg)).toArray⟩ : ByteArray) = TA at *
 generalize (⟨(putO (k, (i, n), p, d, (s, e, m, tt), P)).toArray⟩ : ByteArray) = TB at *
 generalize putTok (tn, L, sg) = la at *
 generalize putO (k, (i, n), p, d, (s, e, m, tt), P) = lb at *
 have hB : RB w.heap.size 24 [.string tn, .slice qt L.length ct, .string sg] (w.alloc (.cells #[.string tn, .slice qt L.length ct, .string sg] 24)) := RB.new w 24 [.string tn, .slice qt L.length ct, .string sg]
 have hE : Ext w (w.alloc (.cells #[.string tn, .slice qt L.length ct, .string sg] 24)) := (Ext.refl _).alloc _
 generalize hW1 : w.alloc (.cells #[.string tn, .slice qt L.length ct, .string sg] 24) = w1 at *
 have hA : RB w1.heap.size 33 [.int .i64 k, .int .u64 (i : Nat), .int .u64 (n : Nat), .string p, .int .u64 ((vG d) 0 : Nat), .int .u64 ((vG d) 1 : Nat), .int .u64 ((vG d) 2 : Nat), .int .u64 ((vG d) 3 : Nat), .string s, .int .u64 ((vG e) 0 : Nat), .int .u64 ((vG e) 1 : Nat), .int .u64 ((vG e) 2 : Nat), .int .u64 ((vG e) 3 : Nat), .int .i64 m.1, .int .i64 m.2.1, .int .i64 m.2.2, .slice qv R.length cv, .slice ql P.length cl] (w1.alloc (.cells #[.int .i64 k, .int .u64 (i : Nat), .int .u64 (n : Nat), .string p, .int .u64 ((vG d) 0 : Nat), .int .u64 ((vG d) 1 : Nat), .int .u64 ((vG d) 2 : Nat), .int .u64 ((vG d) 3 : Nat), .string s, .int .u64 ((vG e) 0 : Nat), .int .u64 ((vG e) 1 : Nat), .int .u64 ((vG e) 2 : Nat), .int .u64 ((vG e) 3 : Nat), .int .i64 m.1, .int .i64 m.2.1, .int .i64 m.2.2, .slice qv R.length cv, .slice ql P.length cl] 33)) := RB.new w1 33 [.int .i64 k, .int .u64 (i : Nat), .int .u64 (n : Nat), .string p, .int .u64 ((vG d) 0 : Nat), .int .u64 ((vG d) 1 : Nat), .int .u64 ((vG d) 2 : Nat), .int .u64 ((vG d) 3 : Nat), .string s, .int .u64 ((vG e) 0 : Nat), .int .u64 ((vG e) 1 : Nat), .int .u64 ((vG e) 2 : Nat), .int .u64 ((vG e) 3 : Nat), .int .i64 m.1, .int .i64 m.2.1, .int .i64 m.2.2, .slice qv R.length cv, .slice ql P.length cl]
 have hE2 : Ext w1 (w1.alloc (.cells #[.int .i64 k, .int .u64 (i : Nat), .int .u64 (n : Nat), .string p, .int .u64 ((vG d) 0 : Nat), .int .u64 ((vG d) 1 : Nat), .int .u64 ((vG d) 2 : Nat), .int .u64 ((vG d) 3 : Nat), .string s, .int .u64 ((vG e) 0 : Nat), .int .u64 ((vG e) 1 : Nat), .int .u64 ((vG e) 2 : Nat), .int .u64 ((vG e) 3 : Nat), .int .i64 m.1, .int .i64 m.2.1, .int .i64 m.2.2, .slice qv R.length cv, .slice ql P.length cl] 33)) := (Ext.refl _).alloc _
 have hs1 : w1.heap.size = w.heap.size + 1 := by rw [← hW1, World.size_alloc]
 generalize hW2 : w1.alloc (.cells #[.int .i64 k, .int .u64 (i : Nat), .int .u64 (n : Nat), .string p, .int .u64 ((vG d) 0 : Nat), .int .u64 ((vG d) 1 : Nat), .int .u64 ((vG d) 2 : Nat), .int .u64 ((vG d) 3 : Nat), .string s, .int .u64 ((vG e) 0 : Nat), .int .u64 ((vG e) 1 : Nat), .int .u64 ((vG e) 2 : Nat), .int .u64 ((vG e) 3 : Nat), .int .i64 m.1, .int .i64 m.2.1, .int .i64 m.2.2, .slice qv R.length cv, .slice ql P.length cl] 33) = w2 at *
 replace hB := hB.ext hE2
 replace hE := hE.trans hE2
 clear hE2
 obtain ⟨bA, hbA⟩ : ∃ x, w1.heap.size = x := ⟨_, rfl⟩
 obtain ⟨bB, hbB⟩ : ∃ x, w.heap.size = x := ⟨_, rfl⟩
 rw [hbA] at hA
 rw [hbB] at hB
 rw [hbA, hbB] at hs1
 subst hs1
 replace CT := Lib.hid CT
 replace CO := Lib.hid CO
 replace hG := Lib.hid hG
 have bl := hB.lt
 have c0 : w2.cell? ⟨bB, 0, none⟩ = some (.string tn) := hB.cell 0
 have c1 : w2.cell? ⟨bB, 1, none⟩ = some (.slice qt L.length ct) := hB.cell 1
 have c2 : w2.cell? ⟨bB, 2, none⟩ = some (.string sg) := hB.cell 2
 go_enter Tryz.func15, Tryz.ntmps15
 go_upto_region 1 with fail
 clear hW1 hW2 hbA hbB
 generalize bB + 1 = bA at *
 refine sx_ ?_
 refine rg_ 6 (Ext.refl w2) ?_
 refine tks [0, 1, 2, 3, 4, 5] 63 0 (hq := by intro x; go_big_quiet_step (fail); go_big_quiet_step ((first | (go_at_call 26; with_reducible exact Calls.quietE (CT.out _ (hE.trans ex_))) | (go_at_call 27; with_reducible exact Calls.quietE (CO.out _ (hE.trans ex_))))); go_big_quiet_want; refine quiet_load_row 33 _ rfl bA rfl _ _ _ _ (fun _ hw => by obtain ⟨_, rfl⟩ := hw; exact hA.ext ex_) Tryz.underlying33 rfl (by kernel_rfl) ?_; simp only [Act.put, List.setIfInBounds_toArray, List.set_cons_succ, List.set_cons_zero]; go_big_quiet_on; go_big_quiet_step ((first | (go_at_call 26; with_reducible exact Calls.quietE (CT.out _ (hE.trans ex_))) | (go_at_call 27; with_reducible exact Calls.quietE (CO.out _ (hE.trans ex_))))); go_big_quiet_step (fail); go_big_quiet_step (fail); exact wpQuiet_nil rfl) ?_
 refine kd_ (Ext.refl w2) fun w1a hx1a hX1a => ?_
 clear bl c0 c1 c2
 by_cases h1 : la = []
 ·rw [decide_eq_true h1] at eT
  go_wp2
  go_ret
  exact ⟨by rw [hG.out, if_pos (Or.inl h1)]; rfl, hE.trans hX1a⟩
 ·rw [decide_eq_false h1] at eT
  by_cases h2 : lb = []
  ·rw [decide_eq_true h2] at eO
   go_wp2
   go_ret
   exact ⟨by rw [hG.out, if_pos (Or.inr h2)]; rfl, hE.trans hX1a⟩
  ·rw [decide_eq_false h2] at eO
   go_wp2
   go_ret
   exact ⟨by rw [hG.out, if_neg (by rw [not_or]; exact ⟨h1, h2⟩)]; rfl, hE.trans hX1a⟩
theorem Tryz.slTerm19 : SlT Tryz.prog 40 180 3 48 := SlT.mk' Tryz.underlying40 (by kernel_rfl) (by decide) (by decide)
set_option maxHeartbeats 1000000 in
theorem refv19_w (a : Vc) (w : World) :
  Calls Tryz.prog 32 #[vVal a] w fun e w' => e = .returned (vVal a) ∧ Ext w w' := by
 unfold vVal
 generalize vG a = A
 unfold vF
 have v2 := VBox.new (w.alloc (.cells #[.int .u64 (A 0 : Nat), .int .u64 (A 1 : Nat), .int .u64 (A 2 : Nat), .int .u64 (A 3 : Nat)] 27)) (fun _ => 0) 39
 rw [World.size_alloc] at v2
 obtain ⟨_, d0, d1, d2, d3, e0, e1, e2, e3⟩ := v2.four
 go_enter Tryz.func32, Tryz.ntmps32
 go_wp2
 refine bodyPost_ret (v := .agg #[.int .u64 (A 0 : Nat), .int .u64 (A 1 : Nat), .int .u64 (A 2 : Nat), .int .u64 (A 3 : Nat)]) (by simp [results, Tryz.results32, go_sem]) rfl ?_
 exact ⟨rfl, ((Ext.refl w).alloc _).alloc _⟩
set_option maxHeartbeats 2000000 in
set_option maxRecDepth 100000 in
theorem refs19_w (R : List RowS) (v : Value) (w : World) (hm : R.length ≤ 4294967296) (hx : Terms w v R) :
  Calls Tryz.prog 74 #[v] w fun e w' => ∃ r, e = .returned r ∧ Terms w' r R ∧ (∀ c, r.ownBlock = some c → w.heap.size ≤ c) ∧ Ext w w' := by
 obtain ⟨q, cap, rfl, hcap, hcm⟩ := hx.shape
 go_enter Tryz.func74, Tryz.ntmps74
 go_wp2
 go_loopw [3, 4] (fun r i' wr => ∃ k : Nat, k ≤ R.length ∧ i' = .int .i64 k ∧ Ext w wr ∧ TRow 180 w.heap.size wr r k (R.take k)) (fun _ i' _ => R.length - (intOf i').toNat)
 case atStart => exact ⟨0, by omega, rfl, Ext.refl _, by rw [List.take_zero]; exact TRow.nil _ _ _⟩
 case round =>
  obtain ⟨k, hk, rfl, hb, ho⟩ := hrel
  by_cases hlt : k < R.length
  ·obtain ⟨bb, off, rfl, hbl, c0, c1, c2⟩ := hx.at hlt
   have vx0 := hx.val hlt
   have hst : Hid (R.take (k + 1) = R.take k ++ [sAtR R k]) := take_snocT hlt
   generalize sAtR R k = r at *
   obtain ⟨k1, n1, v1, vals1⟩ := r
   have vx0 : Strs w v1 vals1 := vx0
   simp only at c0 c1 c2
   have hap : vals1 = [] ∨ Apart v1 u3 := by
    by_cases h0 : vals1 = []
    ·exact Or.inl h0
    ·exact Or.inr (ho.apart_old (fun b hb => Sl.own_lt vx0 (fun e => h0 (List.length_eq_zero_iff.1 e)) hb))
   obtain ⟨q3, cap3, rfl, _, _⟩ := vx0.shape
   replace hap := Lib.hid hap
   go_wp2_with fail
   refine sx_ ?_
   refine rg_ 20 hb ?_
   refine tks (List.range' 0 17) 131071 3 ?_
   refine k1_ 17 262143 hb fun w1a hx1a hX1a => ?_
   have hoa := ho.ext hx1a
   have hva := vx0.ext hX1a
   go_wp2_with fail
   have hl := Sl.lit w1a 180 3 1 #[.string k1, .bool n1, .slice q3 vals1.length cap3] rfl (by simp [maxLen])
   have hs1 := (Ext.refl w1a).alloc (.cells #[.string k1, .bool n1, .slice q3 vals1.length cap3] 180)
   generalize w1a.alloc (.cells #[.string k1, .bool n1, .slice q3 vals1.length cap3] 180) = w1b at *
   have hX1b := Ext.trans hX1a hs1
   replace hoa := hoa.ext hs1
   replace hva := hva.ext hs1
   refine sx_ ?_
   refine k1_ 18 524287 hX1b fun w2a hx2a hX2a => ?_
   replace hl := hl.ext hx2a
   refine wpList_appT rfl _ _ Tryz.slTerm19 rfl hX2a rfl (hoa.ext hx2a) (r := (k1, n1, .slice q3 vals1.length cap3, vals1)) rfl hl (hva.ext hx2a) hap.out (by omega) ?_
   intro v2 w2b ho3 hX2b _
   refine wpList_nil ?_
   refine sx_ ?_
   refine tks [19] 1048575 0 ?_
   refine kd_ hX2b fun w3a hx3a hX3a => ?_
   replace ho3 := ho3.ext hx3a
   go_wp2
   go_roundw
   case rel => exact ⟨k + 1, by omega, by go_num, hX3a, by rw [hst.out]; exact ho3⟩
   case measure => simp [intOf]; omega
  ·obtain rfl : k = R.length := by omega
   go_wp2
   go_ret
   rw [List.take_length] at ho
   exact ⟨_, rfl, ho.terms rfl, (fun c hc => (ho.lt hc).1), hb⟩
set_option maxHeartbeats 4000000 in
set_option maxRecDepth 100000 in
theorem refx19_w (s : ByteArray) (d : Vc) (n : Nums3) (v : Value) (R : List RowS) (w : World) (hm : R.length ≤ 4294967296) (hx : Terms w v R) :
  Calls Tryz.prog 33 #[spVal s (vG d) n v] w fun e w' => ∃ r, e = .returned (spVal s (vG d) n r) ∧ Terms w' r R ∧ (∀ c, r.ownBlock = some c → w.heap.size ≤ c) ∧ Ext w w' := by
 obtain ⟨qv, capv, rfl, _, _⟩ := hx.shape
 have CV := fun U => refv19_w d U
 have CS := fun U (h : Ext w U) => refs19_w R _ U hm (hx.ext h)
 unfold vVal vF at CV
 unfold spVal
 generalize vG d = D at *
 have hX := (XBox.new w s D n (.slice qv R.length capv) 30).ext ((Ext.refl _).alloc (.cells #[.string ⟨#[]⟩, .int .u64 0, .int .u64 0, .int .u64 0, .int .u64 0, .int .i64 0, .int .i64 0, .int .i64 0, .slice none 0 0] 42))
 have hB : CB (w.heap.size + 1) [.string ⟨#[]⟩, .int .u64 0, .int .u64 0, .int .u64 0, .int .u64 0, .int .i64 0, .int .i64 0, .int .i64 0, .slice none 0 0] ((w.alloc (.cells #[.string s, .int .u64 (D 0 : Nat), .int .u64 (D 1 : Nat), .int .u64 (D 2 : Nat), .int .u64 (D 3 : Nat), .int .i64 n.1, .int .i64 n.2.1, .int .i64 n.2.2, .slice qv R.length capv] 30)).alloc (.cells #[.string ⟨#[]⟩, .int .u64 0, .int .u64 0, .int .u64 0, .int .u64 0, .int .i64 0, .int .i64 0, .int .i64 0, .slice none 0 0] 42)) := by
  have h := CB.new (w.alloc (.cells #[.string s, .int .u64 (D 0 : Nat), .int .u64 (D 1 : Nat), .int .u64 (D 2 : Nat), .int .u64 (D 3 : Nat), .int .i64 n.1, .int .i64 n.2.1, .int .i64 n.2.2, .slice qv R.length capv] 30)) #[.string ⟨#[]⟩, .int .u64 0, .int .u64 0, .int .u64 0, .int .u64 0, .int .i64 0, .int .i64 0, .int .i64 0, .slice none 0 0] 42
  rw [World.size_alloc] at h
  exact h
 have hE : Ext w ((w.alloc (.cells #[.string s, .int .u64 (D 0 : Nat), .int .u64 (D 1 : Nat), .int .u64 (D 2 : Nat), .int .u64 (D 3 : Nat), .int .i64 n.1, .int .i64 n.2.1, .int .i64 n.2.2, .slice qv R.length capv] 30)).alloc (.cells #[.string ⟨#[]⟩, .int .u64 0, .int .u64 0, .int .u64 0, .int .u64 0, .int .i64 0, .int .i64 0, .int .i64 0, .slice none 0 0] 42)) := ((Ext.refl _).alloc _).alloc _
 have hlW : w.heap.size + 1 < ((w.alloc (.cells #[.string s, .int .u64 (D 0 : Nat), .int .u64 (D 1 : Nat), .int .u64 (D 2 : Nat), .int .u64 (D 3 : Nat), .int .i64 n.1, .int .i64 n.2.1, .int .i64 n.2.2, .slice qv R.length capv] 30)).alloc (.cells #[.string ⟨#[]⟩, .int .u64 0, .int .u64 0, .int .u64 0, .int .u64 0, .int .i64 0, .int .i64 0, .int .i64 0, .slice none 0 0] 42)).heap.size := hB.lt
 replace CV := Lib.hid CV
 replace CS := Lib.hid CS
 generalize hW0 : (w.alloc (.cells #[.string s, .int .u64 (D 0 : Nat), .int .u64 (D 1 : Nat), .int .u64 (D 2 : Nat), .int .u64 (D 3 : Nat), .int .i64 n.1, .int .i64 n.2.1, .int .i64 n.2.2, .slice qv R.length capv] 30)).alloc (.cells #[.string ⟨#[]⟩, .int .u64 0, .int .u64 0, .int .u64 0, .int .u64 0, .int .i64 0, .int .i64 0, .int .i64 0, .slice none 0 0] 42) = W at *
 have HI := hX
 go_enter Tryz.func33, Tryz.ntmps33
 go_wp2_with fail
 refine sx_ ?_
 refine rf_ (fun w' => XBox w.heap.size s D n (.slice qv R.length capv) w') 15 16 ?_
 refine tfs (List.range' 0 13) 8191 3 (fun _ _ h hx => XBox.ext h hx) HI ?_ (hq := by intro wq hwq; obtain ⟨xl, x0, x1, x2, x3, x4, x5, x6, x7, x8, _⟩ := hwq; (repeat go_big_quiet_step ((go_at_call 32; with_reducible exact Calls.quietE (CV.out _)))); exact wpQuiet_nil rfl)
 refine f1_ 13 16383 fun wm13 hxm13 => ?_
 have E1 := hE.trans hxm13
 obtain ⟨xl, x0, x1, x2, x3, x4, x5, x6, x7, x8, _⟩ := hX.ext hxm13
 go_wp2_with (go_at_call 74; go_must (refine (CS.out wm13 E1).mono ?_; rintro e w13 ⟨r, rfl, hT, hr, h13⟩))
 clear xl x0 x1 x2 x3 x4 x5 x6 x7 x8
 obtain ⟨qr, cr, rfl, _, _⟩ := hT.shape
 have HI13 : XBox w.heap.size s D n (.slice qv R.length capv) w13 := (hX.ext hxm13).ext h13
 have E2 := E1.trans h13
 have hlr := hxm13.size
 have hB2 := (hB.ext hxm13).ext h13
 refine ⟨(by first | exact HI13 | exact fun _ => HI13), ?_⟩
 replace HI := HI13
 refine sx_ ?_
 refine tfs [14] 32767 1 (fun _ _ h hx => XBox.ext h hx) HI ?_ (hq := by intro wq hwq; obtain ⟨xl, x0, x1, x2, x3, x4, x5, x6, x7, x8, _⟩ := hwq; go_big_quiet_step ((go_at_call 32; with_reducible exact Calls.quietE (CV.out _))); exact wpQuiet_nil rfl)
 refine f1_ 15 65535 fun wz hxz => ?_
 obtain ⟨xl, x0, x1, x2, x3, x4, x5, x6, x7, x8, xf0, xf1, xf2, xf3, xf4, xf5, xf6, xf7, xf8⟩ := (hB2.ext hxz).cells9
 go_wp2_with fail
 first | refine ⟨fun h => absurd h (by decide), ?_⟩ | skip
 refine fd_ fun wy hxy => ?_
 have hX9 := (Ext.cput9 (Ext.trans E2 hxz) (b := w.heap.size + 1) (by omega) (.string s) (.int .u64 (D 0 : Nat)) (.int .u64 (D 1 : Nat)) (.int .u64 (D 2 : Nat)) (.int .u64 (D 3 : Nat)) (.int .i64 n.1) (.int .i64 n.2.1) (.int .i64 n.2.2) (.slice qr R.length cr)).trans hxy
 have hsl := (sl_put9 (hT.ext hxz).sl (b := w.heap.size + 1) (fun c hc => by have := hr c hc; omega) (.string s) (.int .u64 (D 0 : Nat)) (.int .u64 (D 1 : Nat)) (.int .u64 (D 2 : Nat)) (.int .u64 (D 3 : Nat)) (.int .i64 n.1) (.int .i64 n.2.1) (.int .i64 n.2.2) (.slice qr R.length cr)).ext hxy
 have hB3 := ((hB2.ext hxz).put9 (.string s) (.int .u64 (D 0 : Nat)) (.int .u64 (D 1 : Nat)) (.int .u64 (D 2 : Nat)) (.int .u64 (D 3 : Nat)) (.int .i64 n.1) (.int .i64 n.2.1) (.int .i64 n.2.2) (.slice qr R.length cr)).ext hxy
 go_wp2
 obtain ⟨_, k0, k1, k2, k3, k4, k5, k6, k7, k8, _, _, _, _, _, _, _, _, _⟩ := hB3.cells9
 refine bodyPost_ret (v := .agg #[.string s, .int .u64 (D 0 : Nat), .int .u64 (D 1 : Nat), .int .u64 (D 2 : Nat), .int .u64 (D 3 : Nat), .int .i64 n.1, .int .i64 n.2.1, .int .i64 n.2.2, .slice qr R.length cr]) (by simp [results, Tryz.results33, go_sem, k0, k1, k2, k3, k4, k5, k6, k7, k8]) rfl ?_
 exact ⟨_, rfl, ⟨hsl, fun x hx' => (hx.vals x hx').ext hX9⟩, (fun c hc => by have := hr c hc; have := E1.size; omega), hX9⟩
set_option maxRecDepth 100000 in
theorem refl19_w (l : List PairS) (v : Value) (w : World) (hm : l.length ≤ 4294967296) (hx : Pairs w v l) :
  Calls Tryz.prog 34 #[v] w fun e w' => ∃ r, e = .returned r ∧ Pairs w' r l ∧ (∀ c, r.ownBlock = some c → w.heap.size ≤ c) ∧ Ext w w' := by
 obtain ⟨q, cap, rfl, hcap, hcm⟩ := hx.shape
 go_enter Tryz.func34, Tryz.ntmps34
 go_wp2
 go_loopw [3, 4] (fun r i' wr => ∃ k : Nat, k ≤ l.length ∧ i' = .int .i64 k ∧ Ext w wr ∧ wr.ownsRow w.heap.size 127 2 r k (pairCells (l.take k))) (fun _ i' _ => l.length - (intOf i').toNat)
 case atStart => exact ⟨0, by omega, rfl, Ext.refl _, World.ownsRow_nil _ _ _ _⟩
 case round =>
  obtain ⟨k, hk, rfl, hb, ho⟩ := hrel
  by_cases hlt : k < l.length
  ·obtain ⟨bb, off, rfl, hbl, c0, c1⟩ := hx.at hlt
   have hst : Hid (pairCells (l.take (k + 1)) = pairCells (l.take k) ++ [.string (pairAt l k).1, .string (pairAt l k).2]) := by
    show _ = _
    rw [take_snocP hlt, pairCells_app]; rfl
   generalize (pairAt l k).1 = s1 at *
   generalize (pairAt l k).2 = s2 at *
   go_wp2_with fail
   refine sx_ ?_
   refine rg_ 15 hb ?_
   refine tks (List.range' 0 12) 4095 3 ?_
   refine k1_ 12 8191 hb fun w1a hx1a hX1a => ?_
   have hoa := Ext.row ho hx1a
   go_wp2_with fail
   have hl := Sl.lit w1a 127 2 1 #[.string s1, .string s2] rfl (by simp [maxLen])
   have hs1 := (Ext.refl w1a).alloc (.cells #[.string s1, .string s2] 127)
   generalize w1a.alloc (.cells #[.string s1, .string s2] 127) = w1b at *
   have hX1b := Ext.trans hX1a hs1
   replace hoa := Ext.row hoa hs1
   refine sx_ ?_
   refine k1_ 13 16383 hX1b fun w2a hx2a hX2a => ?_
   replace hl := hl.ext hx2a
   refine wpList_appE rfl _ _ Tryz.slPair2 rfl hX2a rfl (Ext.row hoa hx2a) rfl hl (pairCells_one [(s1, s2)]) (by omega) ?_
   intro v2 w2b ho3 hX2b _
   refine wpList_nil ?_
   refine sx_ ?_
   refine tks [14] 32767 0 ?_
   refine kd_ hX2b fun w3a hx3a hX3a => ?_
   replace ho3 := Ext.row ho3 hx3a
   go_wp2
   go_roundw
   case rel => exact ⟨k + 1, by omega, by go_num, hX3a, by rw [hst.out]; exact ho3⟩
   case measure => simp [intOf]; omega
  ·obtain rfl : k = l.length := by omega
   go_wp2
   go_ret
   rw [List.take_length] at ho
   exact ⟨_, rfl, Pairs.of_row ho rfl, (fun c hc => (ho.lt c hc).1), hb⟩
set_option maxHeartbeats 4000000 in
set_option maxRecDepth 100000 in
theorem refop_w (V : Value) (o : OpQ) (w : World) (hV : OpAt w V o) (hs : SmallO o) :
  Calls Tryz.prog 12 #[V] w fun e w' => ∃ V', e = .returned V' ∧ OpAt w' V' o ∧ Ext w w' := by
 obtain ⟨k, ⟨i, n⟩, p, d, ⟨s, e, m, t⟩, P⟩ := o
 obtain ⟨v, l, R, rfl, hT, hf, hm, hR, hP, hO⟩ := hV
 obtain ⟨h1, h2, h3⟩ := hs
 simp only at hT hf hm hR hP h1 h2 h3 ⊢
 subst hR
 rw [List.length_map] at h1
 obtain ⟨qv, cv, rfl, _, _⟩ := hT.shape
 obtain ⟨ql, cl, rfl, _, _⟩ := hP.shape
 have CV := fun U => refv19_w d U
 have CX := fun U (h : Ext w U) => refx19_w s e m _ R U (by omega) (hT.ext h)
 have CL := fun U (h : Ext w U) => refl19_w P _ U (by omega) (hP.ext h)
 unfold vVal vF at CV
 unfold spVal at CX
 unfold opV
 obtain ⟨w1, hW1, hA, hE1, s1⟩ := new_row w 33 (cellsO k i n p d s e m (.slice qv R.length cv) (.slice ql P.length cl))
 obtain ⟨w2, hW2, hO2, hE2, s2⟩ := new_row w1 45 zOp
 obtain ⟨bA, hbA⟩ : ∃ x, w.heap.size = x := ⟨_, rfl⟩
 obtain ⟨bO, hbO⟩ : ∃ x, w1.heap.size = x := ⟨_, rfl⟩
 have hwO : w.heap.size ≤ bO := by omega
 rw [hbA] at hA
 rw [hbO] at hO2
 have hAO : bA < bO := by omega
 have hw1O : w1.heap.size ≤ bO := by omega
 have l2 := RB.lt hO2
 clear s1 s2
 replace CV := Lib.hid CV
 replace CX := Lib.hid CX
 replace CL := Lib.hid CL
 go_enter Tryz.func12, Tryz.ntmps12
 go_upto_region 1 with fail
 clear hW1 hW2 hbA hbO
 have al := RB.lt hA
 have a0 := hA.at 0 rfl
 have a1 := hA.at 1 rfl
 have a2 := hA.at 2 rfl
 have a3 := hA.at 3 rfl
 have a4 := hA.at 4 rfl
 have a5 := hA.at 5 rfl
 have a6 := hA.at 6 rfl
 have a7 := hA.at 7 rfl
 have a8 := hA.at 8 rfl
 have a9 := hA.at 9 rfl
 have a10 := hA.at 10 rfl
 have a11 := hA.at 11 rfl
 have a12 := hA.at 12 rfl
 have a13 := hA.at 13 rfl
 have a14 := hA.at 14 rfl
 have a15 := hA.at 15 rfl
 have a16 := hA.at 16 rfl
 have a17 := hA.at 17 rfl
 refine sx_ ?_
 refine rg_ 19 hE2 ?_
 refine tks [0, 1, 2, 3, 4, 5, 6, 7, 8, 9, 10, 11, 12, 14, 15] 57343 4 (hq := by intro x; (repeat go_big_quiet_step ((go_at_call 32; with_reducible exact Calls.quietE (CV.out _)))); exact wpQuiet_nil rfl) ?_
 refine k1_ 13 65535 hE2 fun w1a hx1a hX1a => ?_
 have hT0 := CX.out w1a (hE1.trans hX1a)
 have hl1 := RB.lt (hO2.ext hx1a)
 have hxx := hx1a
 go_wp2_with (go_at_call 33; go_must (refine hT0.mono ?_; rintro e_ w1b ⟨r1, rfl, hT1, hOT1, hs1⟩))
 have hX1b := Ext.trans hX1a hs1
 obtain ⟨q1, c1, rfl, _, _⟩ := hT1.shape
 have hO1 := hO2.ext (hxx.trans hs1)
 clear hxx
 refine sx_ ?_
 refine k1_ 16 131071 hX1b fun w2a hx2a hX2a => ?_
 replace hT1 := hT1.ext hx2a
 replace hO1 := hO1.ext hx2a
 have hl2 := RB.lt hO1
 go_wp2_with (go_at_call 34; go_must (refine (CL.out w2a (hE1.trans hX2a)).mono ?_; rintro e_ w2b ⟨r2, rfl, hP1, hOP1, hs2⟩))
 have hX2b := Ext.trans hX2a hs2
 obtain ⟨q2, c2, rfl, _, _⟩ := hP1.shape
 replace hT1 := hT1.ext hs2
 replace hO1 := hO1.ext hs2
 refine sx_ ?_
 refine tks [17] 262143 1 (hq := by intro x; go_big_quiet_step ((go_at_call 32; with_reducible exact Calls.quietE (CV.out _))); exact wpQuiet_nil rfl) ?_
 refine k1_ 18 524287 hX2b fun w3a hx3a hX3a => ?_
 replace hT1 := hT1.ext hx3a
 replace hO1 := hO1.ext hx3a
 replace hP1 := hP1.ext hx3a
 have hO3 := hO1
 go_wp2_with (refine wpList_store_row (cells := (cellsO k i n p d s e m (.slice q1 R.length c1) (.slice q2 P.length c2)).toArray) rfl 45 _ _ rfl bO rfl rfl _ _ hO3 (by kernel_rfl) rfl (by first | rfl | decide | simp [Value.oneCell']) ?_)
 have hZ := hO3.setRow (cellsO k i n p d s e m (.slice q1 R.length c1) (.slice q2 P.length c2))
 have hof := (Off.refl bO w3a).setRow (cellsO k i n p d s e m (.slice q1 R.length c1) (.slice q2 P.length c2)).toArray
 have hX3b := Ext.setRow hX3a hw1O (cellsO k i n p d s e m (.slice q1 R.length c1) (.slice q2 P.length c2)).toArray
 have hP2 := hP1.off (B := bO + 1) (fun c hc => by have := hOP1 c hc; have := hl2; omega) (Nat.lt_succ_self _) hof
 have hT2 : Terms _ _ R := ⟨Sl.off hT1.1 hof (fun c hc => by have := hOT1 c hc; have := hl1; omega), fun r hr => Sl.ext (hT.2 r hr) (hE1.trans hX3b)⟩
 clear hT1 hP1 hO3 hof
 generalize w3a.setRow bO (cellsO k i n p d s e m (.slice q1 R.length c1) (.slice q2 P.length c2)).toArray = w3b at *
 refine sx_ ?_
 refine kd_ hX3b fun w4a hx4a hX4a => ?_
 have hZ1 := hZ.ext hx4a
 replace hT2 := hT2.ext hx4a
 replace hP2 := hP2.ext hx4a
 go_wp2
 refine bodyPost_ret (results_cell_row (p := 2) rfl _ _ _ _ _ _ _ rfl hZ1 Tryz.underlying45 rfl (by kernel_rfl)) rfl ?_
 exact ⟨_, rfl, ⟨_, _, R, rfl, hT2, hf, hm, rfl, hP2, hO⟩, hE1.trans hX4a⟩
end Go.Proofs.YtefjdmjkofaajaaGreatDoor
namespace Go.Dm
open Go Go.RowKit
def allowK (key : Bs) (t : TokQ) (k : Int) (r : Nat) : Int := if checkT key t = false then 13 else if needsK k = 0 ∨ allowC t.2.1 (needsK k) r = false then 14 else 0
def allowG (key : Bs) (t : TokQ) (o : OpQ) (r : Nat) : Int := if checkT key t = false then 13 else if needsK o.1 = 0 ∨ allowC t.2.1 (needsK o.1) r = false then 14 else 0
end Go.Dm
namespace Go.Proofs.YtefjdmjkofaajaaGreatDoor
open Go.RowKit Go.Dm
set_option maxHeartbeats 2000000 in
set_option maxRecDepth 100000 in
theorem gallowK_w (key : ByteArray) (T V : Value) (t : TokQ) (k : Int) (r : Nat) (w : World) (hk : key.size ≤ 281474976710656) (ht : TokC w T t) (ho : KindAt V k) (hv : ShaV w) (hg : GateV w) :
  Calls Tryz.prog 18 #[.string key, T, V, .int .u64 (r : Nat)] w fun e w' => e = .returned (.int .i64 (allowK key.data.toList t k r)) ∧ Ext w w' := by
 have CC := fun U (h : Ext w U) => checkA key hk (ht.ext h) (hv.ext h)
 have CN := fun U (h : Ext w U) => needs_w k V U ho (hg.ext h)
 have CA := fun U (h : Ext w U) => allowsA (needsK k) r (ht.ext h)
 have hG : allowK key.data.toList t k r = if checkT key.data.toList t = false then 13 else if needsK k = 0 ∨ allowC t.2.1 (needsK k) r = false then 14 else 0 := rfl
 obtain ⟨vt, rfl, hcv, _⟩ := ht
 obtain ⟨qt, ct, rfl, _, _⟩ := hcv.shape
 obtain ⟨v1, v2, v3, v4, v5, v6, v7, v8, v9, v10, v11, v12, v13, v14, v15, v16, v17, rfl⟩ := ho
 clear hcv
 obtain ⟨tn, L, sg⟩ := t
 unfold needsV at CN
 simp only at CC CN CA hG ⊢
 generalize allowK key.data.toList (tn, L, sg) k r = G at *
 generalize checkT key.data.toList (tn, L, sg) = ck at *
 generalize allowC L (needsK k) r = al at *
 generalize needsK k = c at *
 have hB : RB w.heap.size 24 [.string tn, .slice qt L.length ct, .string sg] (w.alloc (.cells #[.string tn, .slice qt L.length ct, .string sg] 24)) := RB.new w 24 [.string tn, .slice qt L.length ct, .string sg]
 have hE : Ext w (w.alloc (.cells #[.string tn, .slice qt L.length ct, .string sg] 24)) := (Ext.refl _).alloc _
 generalize hW1 : w.alloc (.cells #[.string tn, .slice qt L.length ct, .string sg] 24) = w1 at *
 have hA : RB w1.heap.size 33 [.int .i64 k, v1, v2, v3, v4, v5, v6, v7, v8, v9, v10, v11, v12, v13, v14, v15, v16, v17] (w1.alloc (.cells #[.int .i64 k, v1, v2, v3, v4, v5, v6, v7, v8, v9, v10, v11, v12, v13, v14, v15, v16, v17] 33)) := RB.new w1 33 [.int .i64 k, v1, v2, v3, v4, v5, v6, v7, v8, v9, v10, v11, v12, v13, v14, v15, v16, v17]
 have hE2 : Ext w1 (w1.alloc (.cells #[.int .i64 k, v1, v2, v3, v4, v5, v6, v7, v8, v9, v10, v11, v12, v13, v14, v15, v16, v17] 33)) := (Ext.refl _).alloc _
 have hs1 : w1.heap.size = w.heap.size + 1 := by rw [← hW1, World.size_alloc]
 generalize hW2 : w1.alloc (.cells #[.int .i64 k, v1, v2, v3, v4, v5, v6, v7, v8, v9, v10, v11, v12, v13, v14, v15, v16, v17] 33) = w2 at *
 replace hB := hB.ext hE2
 replace hE := hE.trans hE2
 clear hE2
 obtain ⟨bA, hbA⟩ : ∃ x, w1.heap.size = x := ⟨_, rfl⟩
 obtain ⟨bB, hbB⟩ : ∃ x, w.heap.size = x := ⟨_, rfl⟩
 rw [hbA] at hA
 rw [hbB] at hB
 rw [hbA, hbB] at hs1
 subst hs1
 replace CC := Lib.hid CC
 replace CN := Lib.hid CN
 replace CA := Lib.hid CA
 replace hG := Lib.hid hG
 have bl := hB.lt
 have c0 : w2.cell? ⟨bB, 0, none⟩ = some (.string tn) := hB.cell 0
 have c1 : w2.cell? ⟨bB, 1, none⟩ = some (.slice qt L.length ct) := hB.cell 1
 have c2 : w2.cell? ⟨bB, 2, none⟩ = some (.string sg) := hB.cell 2
 go_enter Tryz.func18, Tryz.ntmps18
 go_upto_region 1 with fail
 clear hW1 hW2 hbA hbB
 generalize bB + 1 = bA at *
 go_wp2_with fail
 refine (CC.out _ hE).mono ?_; rintro e_ w3 ⟨rfl, h3⟩
 clear bl c0 c1 c2
 replace hA := hA.ext h3
 replace hB := hB.ext h3
 replace hE := hE.trans h3
 clear h3
 cases ck with
 | false =>
  go_wp2
  go_ret
  exact ⟨by show Ending.returned (.int .i64 13) = _; rw [hG.out]; simp, hE⟩
 | true =>
  go_upto_region 3 with fail
  go_wp2_with (refine wpList_load_row rfl 33 _ rfl bA rfl _ _ _ _ hA Tryz.underlying33 rfl (by kernel_rfl) ?_)
  refine (CN.out _ hE).mono ?_; rintro e_ w4 ⟨rfl, h4⟩
  replace hB := hB.ext h4
  replace hE := hE.trans h4
  clear h4 hA
  have bl := hB.lt
  have c0 : w4.cell? ⟨bB, 0, none⟩ = some (.string tn) := hB.cell 0
  have c1 : w4.cell? ⟨bB, 1, none⟩ = some (.slice qt L.length ct) := hB.cell 1
  have c2 : w4.cell? ⟨bB, 2, none⟩ = some (.string sg) := hB.cell 2
  by_cases h0 : c = 0
  ·subst h0
   go_wp2
   go_ret
   exact ⟨by show Ending.returned (.int .i64 14) = _; rw [hG.out]; simp, hE⟩
  ·have h0d : decide (c ≠ 0) = true := decide_eq_true h0
   go_wp2_with fail
   refine (CA.out _ hE).mono ?_; rintro e_ w5 ⟨rfl, h5⟩
   replace hE := hE.trans h5
   clear h5 bl c0 c1 c2
   cases al with
   | false =>
    go_wp2
    go_ret
    exact ⟨by show Ending.returned (.int .i64 14) = _; rw [hG.out]; simp, hE⟩
   | true =>
    go_wp2
    go_ret
    exact ⟨by show Ending.returned (.int .i64 0) = _; rw [hG.out]; simp [h0], hE⟩
theorem gallow_w (key : ByteArray) (T V : Value) (t : TokQ) (o : OpQ) (r : Nat) (w : World) (hk : key.size ≤ 281474976710656) (ht : TokAt w T t) (ho : OpAt w V o) (hv : ShaV w) (hg : GateV w) :
  Calls Tryz.prog 18 #[.string key, T, V, .int .u64 (r : Nat)] w fun e w' => e = .returned (.int .i64 (allowG key.data.toList t o r)) ∧ Ext w w' :=
 gallowK_w key T V t o.1 r w hk ht.c (opAt_kind ho) hv hg
end Go.Proofs.YtefjdmjkofaajaaGreatDoor
namespace Go.Dm
open Go Go.RowKit
theorem results_rows2 {P : Program} {fn : Func} {p1 p2 t : Tmp} {ty1 ty2 : TypeId} (h : fn.results = #[.cell p1 ty1, .cell p2 ty2, .tmp t]) (tmps : Array Value) (w : World) (g1 : Nat) (t1 : TypeId) (cs1 : Array Value) (fr1 : Nat × Nat) (d1 : TypeDesc)
  (hp1 : tmps.getD p1 undef = .pointer (some ⟨g1, 0, none⟩)) (hg1 : w.heap[g1]? = some (.cells cs1 t1 fr1))
  (hu1 : P.underlying ty1 = some d1) (hd1 : (match d1 with | .struct _ | .array _ _ => true | _ => false) = true) (hi1 : (P.info? ty1).map (·.size) = some cs1.size)
  (g2 : Nat) (t2 : TypeId) (cs2 : Array Value) (fr2 : Nat × Nat) (d2 : TypeDesc)
  (hp2 : tmps.getD p2 undef = .pointer (some ⟨g2, 0, none⟩)) (hg2 : w.heap[g2]? = some (.cells cs2 t2 fr2))
  (hu2 : P.underlying ty2 = some d2) (hd2 : (match d2 with | .struct _ | .array _ _ => true | _ => false) = true) (hi2 : (P.info? ty2).map (·.size) = some cs2.size) :
  (results fn tmps).run P w = .ok (.tuple #[.agg cs1, .agg cs2, tmps.getD t undef]) w := by
 have hp1' : tmps[p1]?.getD undef = .pointer (some ⟨g1, 0, none⟩) := by simpa using hp1
 have hp2' : tmps[p2]?.getD undef = .pointer (some ⟨g2, 0, none⟩) := by simpa using hp2
 simp [results, h, hp1', hp2', asAddr, run_loadVar_row w g1 t1 ty1 cs1 fr1 d1 hg1 hu1 hd1 hi1, run_loadVar_row w g2 t2 ty2 cs2 fr2 d2 hg2 hu2 hd2 hi2, Sem.run_bind]
def noG : TokQ × OpQ × Bool := (noTok.1, opQ0 0, false)
def openG (l : Bs) : TokQ × OpQ × Bool :=
 if (getTok l 0).2.2 = false then noG
 else if (getO l (getTok l 0).2.1).2.2 = false ∨ (getO l (getTok l 0).2.1).2.1 ≠ (l.length : Int) then noG
 else ((getTok l 0).1, (getO l (getTok l 0).2.1).1, true)
def GotG (w : World) (G : TokQ × OpQ × Bool) (e : Ending) : Prop := ∃ T V, e = .returned (.tuple #[T, V, .bool G.2.2]) ∧ TokAt w T G.1 ∧ OpAt w V G.2.1
abbrev zTk : List Value := [.string ⟨#[]⟩, .slice none 0 0, .string ⟨#[]⟩]
theorem GotG.no (w : World) : GotG w noG (.returned (.tuple #[.agg zTk.toArray, .agg zOp.toArray, .bool false])) :=
 ⟨_, _, rfl, ⟨_, rfl, Sl.nil _ _, OkT.zero⟩, ⟨.slice none 0 0, .slice none 0 0, [], rfl, Terms.nil w, (fun r hr => by cases hr), by simp, rfl, Pairs.nil w, OkO.zero⟩⟩
theorem row_kept {b c : Nat} {t : TypeId} {cs : List Value} {w : World} (h : RB b t cs w) (n : b ≠ c) (ds : Array Value) : RB b t cs (w.setRow c ds) := h.farRow (fun e => n e.symm) ds
end Go.Dm
namespace Go.Proofs.YtefjdmjkofaajaaGreatDoor
open Go.RowKit Go.Dm
set_option maxHeartbeats 4000000 in
set_option maxRecDepth 100000 in
theorem open1_w (w : World) :
  Calls Tryz.prog 38 #[] w fun e w' => e = .returned (.tuple #[.agg zTk.toArray, .agg zOp.toArray, .bool false]) ∧ Ext w w' := by
 obtain ⟨w1, hW1, hR2, hE1, s1⟩ := new_row w 24 zTk
 obtain ⟨w2, hW2, hR3, hE2, s2⟩ := new_row w1 33 zOp
 replace hR2 := hR2.ext hE2
 have hE := hE1.trans hE2
 obtain ⟨b2, hb2⟩ : ∃ x, w.heap.size = x := ⟨_, rfl⟩
 obtain ⟨b3, hb3⟩ : ∃ x, w1.heap.size = x := ⟨_, rfl⟩
 have h23 : b2 ≠ b3 := by omega
 have hw2 : w.heap.size ≤ b2 := by omega
 have hw3 : w.heap.size ≤ b3 := by omega
 rw [hb2] at hR2
 rw [hb3] at hR3
 clear hE1 hE2 s1 s2
 go_enter Tryz.func38, Tryz.ntmps38
 go_upto_region 1 with fail
 clear hW1 hW2 hb2 hb3
 have hR3f := hR3.farRow (c := b2) h23 zTk.toArray
 have hZ2 := (hR2.setRow zTk).farRow (c := b3) (Ne.symm h23) zOp.toArray
 have hZ3 := hR3f.setRow zOp
 go_wp2_with (first | (refine wpList_store_row (cells := zTk.toArray) rfl 24 _ _ rfl b2 rfl rfl _ _ hR2 (by kernel_rfl) rfl (by kernel_rfl) ?_) | (refine wpList_store_row (cells := zOp.toArray) rfl 33 _ _ rfl b3 rfl rfl _ _ hR3f (by kernel_rfl) rfl (by kernel_rfl) ?_))
 refine bodyPost_ret (results_rows2 (p1 := 0) (p2 := 1) (t := 2) rfl _ _ _ _ _ _ _ rfl hZ2 Tryz.underlying24 rfl (by kernel_rfl) _ _ _ _ _ rfl hZ3 Tryz.underlying33 rfl (by kernel_rfl)) rfl ?_
 exact ⟨rfl, Ext.setRow (Ext.setRow hE hw2 _) hw3 _⟩
set_option maxHeartbeats 4000000 in
set_option maxRecDepth 100000 in
theorem gopen_w (s : ByteArray) (w : World) (hs : s.size ≤ 281474976710656) (hv : Vars w) :
  Calls Tryz.prog 20 #[.string s] w fun e w' => GotG w' (openG s.data.toList) e ∧ Ext w w' := by
 have CG := fun U (h : Ext w U) => mgetO_w s 0 U hs (hv.ext h)
 unfold openG
 rw [show s.data.toList.length = s.size from rfl]
 obtain ⟨⟨⟨tn, L, sg⟩, q, b⟩, hK⟩ : ∃ K, getTok s.data.toList 0 = K := ⟨_, rfl⟩
 rw [hK] at CG ⊢
 have CO := fun U (h : Ext w U) => aget_w s q U hs (hv.ext h)
 obtain ⟨⟨⟨k, ⟨i, n⟩, p, d, ⟨xs, xd, xm, xt⟩, LB⟩, nx, b'⟩, hM⟩ : ∃ M, getO s.data.toList q = M := ⟨_, rfl⟩
 simp only
 rw [hM] at CO ⊢
 clear hK hM
 obtain ⟨G, hG⟩ : ∃ g, (if b = false then noG else if b' = false ∨ nx ≠ (s.size : Int) then noG else ((tn, L, sg), (k, (i, n), p, d, (xs, xd, xm, xt), LB), true)) = g := ⟨_, rfl⟩
 rw [hG]
 replace hG := Lib.hid hG
 unfold GotKO at CG
 unfold GotO opV at CO
 simp only at CG CO ⊢
 replace CG := Lib.hid CG
 replace CO := Lib.hid CO
 obtain ⟨w1, hW1, hR2, hE1, s1⟩ := new_row w 24 zTk
 obtain ⟨w2, hW2, hR3, hE2, s2⟩ := new_row w1 33 zOp
 replace hR2 := hR2.ext hE2
 have hE := hE1.trans hE2
 obtain ⟨b2, hb2⟩ : ∃ x, w.heap.size = x := ⟨_, rfl⟩
 obtain ⟨b3, hb3⟩ : ∃ x, w1.heap.size = x := ⟨_, rfl⟩
 have h23 : b2 ≠ b3 := by omega
 have hw2 : w.heap.size ≤ b2 := by omega
 have hw3 : w.heap.size ≤ b3 := by omega
 rw [hb2] at hR2
 rw [hb3] at hR3
 clear hE1 hE2 s1 s2
 go_enter Tryz.func20, Tryz.ntmps20
 go_upto_region 2 with fail
 clear hW1 hW2 hb2 hb3
 go_wp2_with fail
 have l2 := hR2.lt
 have l3 := hR3.lt
 refine (CG.out _ hE).mono ?_; rintro e_ w3 ⟨⟨vt, rfl, hcv, hown, hokt⟩, h3⟩
 have ho2 : ∀ c, vt.ownBlock = some c → c ≠ b2 ∧ c ≠ b3 := fun c hc => by have := hown c hc; omega
 clear hown l2 l3
 replace hR2 := hR2.ext h3
 replace hR3 := hR3.ext h3
 replace hE := hE.trans h3
 clear h3
 obtain ⟨TR, hTR⟩ : ∃ x, [Value.string tn, vt, .string sg] = x := ⟨_, rfl⟩
 have oT : TR.toArray.all (·.oneCell') = true := by obtain ⟨_, _, rfl, _, _⟩ := hcv.shape; rw [← hTR]; kernel_rfl
 have nT : zTk.toArray.size = TR.toArray.size := by rw [← hTR]; rfl
 have iT : (Tryz.prog.info? 24).map (·.size) = some TR.toArray.size := by rw [← nT]; kernel_rfl
 rw [hTR]
 obtain ⟨w4, hW4, hB4, hE4, -⟩ := new_row w3 24 zTk
 obtain ⟨w5, hW5, hB5, -, hEx⟩ := set_row hB4 TR
 obtain ⟨b6, hb6⟩ : ∃ x, w3.heap.size = x := ⟨_, rfl⟩
 have h5 := hEx w3 hE4 (Nat.le_refl _)
 have h26 : b2 ≠ b6 := by have := hR2.lt; omega
 have h36 : b3 ≠ b6 := by have := hR3.lt; omega
 rw [hb6] at hB4 hB5 hW5
 clear hEx hE4
 go_upto_region 3 with (refine wpList_store_row (cells := TR.toArray) rfl 24 _ _ rfl b6 rfl rfl _ _ hB4 iT nT oT ?_)
 try rw [hW5]
 clear hW4 hW5 hb6 hB4
 replace hR2 := hR2.ext h5
 replace hR3 := hR3.ext h5
 replace hE := hE.trans h5
 replace hcv := Sl.ext hcv h5
 clear h5
 cases b with
 | false =>
  have hGe : noG = G := by rw [← hG.out, if_pos rfl]
  subst hGe
  clear hG hTR oT nT iT hcv ho2 hB5 CG CO
  go_wp2_with fail
  refine (open1_w _).mono ?_; rintro e_ wf ⟨rfl, hf⟩
  replace hR2 := hR2.ext hf
  replace hR3 := hR3.ext hf
  replace hE := hE.trans hf
  have hR3f := hR3.farRow (c := b2) h23 zTk.toArray
  have hZ2 := (hR2.setRow zTk).farRow (c := b3) (Ne.symm h23) zOp.toArray
  have hZ3 := hR3f.setRow zOp
  go_wp2_with (first | (refine wpList_store_row (cells := zTk.toArray) rfl 24 _ _ rfl b2 rfl rfl _ _ hR2 (by kernel_rfl) rfl (by kernel_rfl) ?_) | (refine wpList_store_row (cells := zOp.toArray) rfl 33 _ _ rfl b3 rfl rfl _ _ hR3f (by kernel_rfl) rfl (by kernel_rfl) ?_))
  refine bodyPost_ret (results_rows2 (p1 := 2) (p2 := 3) (t := 4) rfl _ _ _ _ _ _ _ rfl hZ2 Tryz.underlying24 rfl (by kernel_rfl) _ _ _ _ _ rfl hZ3 Tryz.underlying33 rfl (by kernel_rfl)) rfl ?_
  exact ⟨GotG.no _, Ext.setRow (Ext.setRow hE hw2 _) hw3 _⟩
 | true =>
  have l2 := hR2.lt
  have l3 := hR3.lt
  go_wp2_with fail
  refine (CO.out _ hE).mono ?_; rintro e_ w6 ⟨⟨v_, l_, R, rfl, hT, hfR, hRl, hRT, hP, hok, hOT, hOP⟩, h6⟩
  replace hR2 := hR2.ext h6
  replace hR3 := hR3.ext h6
  replace hB5 := hB5.ext h6
  replace hE := hE.trans h6
  replace hcv := Sl.ext hcv h6
  clear h6 CG CO
  subst hRT
  obtain ⟨OR, hOR⟩ : ∃ x, [Value.int .i64 k, .int .u64 (i : Nat), .int .u64 (n : Nat), .string p, .int .u64 (vG d 0 : Nat), .int .u64 (vG d 1 : Nat), .int .u64 (vG d 2 : Nat), .int .u64 (vG d 3 : Nat), .string xs, .int .u64 (vG xd 0 : Nat), .int .u64 (vG xd 1 : Nat), .int .u64 (vG xd 2 : Nat), .int .u64 (vG xd 3 : Nat), .int .i64 xm.1, .int .i64 xm.2.1, .int .i64 xm.2.2, v_, l_] = x := ⟨_, rfl⟩
  have oO : OR.toArray.all (·.oneCell') = true := by obtain ⟨_, _, rfl, _, _⟩ := hT.shape; obtain ⟨_, _, rfl, _, _⟩ := hP.shape; rw [← hOR]; kernel_rfl
  have nO : zOp.toArray.size = OR.toArray.size := by rw [← hOR]; rfl
  have iO : (Tryz.prog.info? 33).map (·.size) = some OR.toArray.size := by rw [← nO]; kernel_rfl
  rw [hOR]
  obtain ⟨w7, hW7, hB7, hE7, -⟩ := new_row w6 33 zOp
  obtain ⟨w8, hW8, hB8, -, hEx⟩ := set_row hB7 OR
  obtain ⟨b9, hb9⟩ : ∃ x, w6.heap.size = x := ⟨_, rfl⟩
  have h8 := hEx w6 hE7 (Nat.le_refl _)
  have h29 : b2 ≠ b9 := by have := hR2.lt; omega
  have h39 : b3 ≠ b9 := by have := hR3.lt; omega
  rw [hb9] at hB7 hB8 hW8
  clear hEx hE7
  go_upto_region 6 with (refine wpList_store_row (cells := OR.toArray) rfl 33 _ _ rfl b9 rfl rfl _ _ hB7 iO nO oO ?_)
  try rw [hW8]
  clear hW7 hW8 hb9 hB7
  replace hR2 := hR2.ext h8
  replace hR3 := hR3.ext h8
  replace hB5 := hB5.ext h8
  replace hE := hE.trans h8
  replace hcv := Sl.ext hcv h8
  replace hT := hT.ext h8
  replace hP := hP.ext h8
  clear h8
  by_cases hyes : b' = true ∧ nx = (s.size : Int)
  ·obtain ⟨rfl, rfl⟩ := hyes
   have hGe : ((tn, L, sg), (k, (i, n), p, d, (xs, xd, xm, R.map rowT), LB), true) = G := by rw [← hG.out]; simp
   subst hGe
   clear hG
   go_upto_region 8 with fail
   have HI : RB b6 24 TR w8 ∧ RB b9 33 OR w8 := ⟨hB5, hB8⟩
   refine sx_ ?_
   refine rf_ (fun U => RB b6 24 TR U ∧ RB b9 33 OR U) 4 5 ?_
   refine tfs [0, 1] 3 3 (fun _ _ h hx => ⟨h.1.ext hx, h.2.ext hx⟩) HI ?_ (hq := by intro wq hwq; obtain ⟨q1, q2⟩ := hwq; go_big_quiet_want; refine quiet_load_row 24 _ rfl b6 rfl _ _ _ _ (fun _ hw => by obtain ⟨_, rfl⟩ := hw; exact q1.ext (ext_grow _ _)) Tryz.underlying24 rfl iT ?_; simp only [Act.put, List.setIfInBounds_toArray, List.set_cons_succ, List.set_cons_zero]; go_big_quiet_on; go_big_quiet_want; refine quiet_load_row 33 _ rfl b9 rfl _ _ _ _ (fun _ hw => by obtain ⟨_, rfl⟩ := hw; exact q2.ext (ext_grow _ _)) Tryz.underlying33 rfl iO ?_; simp only [Act.put, List.setIfInBounds_toArray, List.set_cons_succ, List.set_cons_zero]; go_big_quiet_on; exact wpQuiet_nil rfl)
   refine f1_ 2 7 fun wm2 hxm2 => ?_
   obtain ⟨x2, x3, x6, x9, xE, xc, xT, xP⟩ := (⟨hR2.ext hxm2, hR3.ext hxm2, hB5.ext hxm2, hB8.ext hxm2, hE.trans hxm2, Sl.ext hcv hxm2, hT.ext hxm2, hP.ext hxm2⟩ : _ ∧ _ ∧ _ ∧ _ ∧ _ ∧ _ ∧ _ ∧ _)
   go_wp2_with (refine wpList_store_row (cells := TR.toArray) rfl 24 _ _ rfl b2 rfl rfl _ _ x2 iT nT oT ?_)
   clear hR2 hR3 hB5 hB8 hE hcv hT hP
   have hof := (Off.refl b2 wm2).setRow TR.toArray
   have hR2 : RB b2 24 TR _ := x2.setRow TR
   have hR3 := row_kept x3 (Ne.symm h23) TR.toArray
   have hB5 := row_kept x6 (Ne.symm h26) TR.toArray
   have hB8 := row_kept x9 (Ne.symm h29) TR.toArray
   have hE : Ext w (wm2.setRow b2 TR.toArray) := Ext.setRow xE hw2 _
   have hcv := Sl.off xc hof (fun c hc => (ho2 c hc).1)
   have hT := xT.off hOT l2 hof
   have hP := xP.off hOP l2 hof
   clear x2 x3 x6 x9 xE xc xT xP hof
   generalize wm2.setRow b2 TR.toArray = wm2a at *
   refine ⟨fun _ => ⟨hB5, hB8⟩, ?_⟩
   refine sx_ ?_
   refine f1_ 3 15 fun wm3 hxm3 => ?_
   obtain ⟨x2, x3, x6, x9, xE, xc, xT, xP⟩ := (⟨hR2.ext hxm3, hR3.ext hxm3, hB5.ext hxm3, hB8.ext hxm3, hE.trans hxm3, Sl.ext hcv hxm3, hT.ext hxm3, hP.ext hxm3⟩ : _ ∧ _ ∧ _ ∧ _ ∧ _ ∧ _ ∧ _ ∧ _)
   go_wp2_with (refine wpList_store_row (cells := OR.toArray) rfl 33 _ _ rfl b3 rfl rfl _ _ x3 iO nO oO ?_)
   clear hR2 hR3 hB5 hB8 hE hcv hT hP
   have hof := (Off.refl b3 wm3).setRow OR.toArray
   have hR2 := row_kept x2 h23 OR.toArray
   have hR3 : RB b3 33 OR _ := x3.setRow OR
   have hB5 := row_kept x6 (Ne.symm h36) OR.toArray
   have hB8 := row_kept x9 (Ne.symm h39) OR.toArray
   have hE : Ext w (wm3.setRow b3 OR.toArray) := Ext.setRow xE hw3 _
   have hcv := Sl.off xc hof (fun c hc => (ho2 c hc).2)
   have hT := xT.off hOT l3 hof
   have hP := xP.off hOP l3 hof
   clear x2 x3 x6 x9 xE xc xT xP hof
   generalize wm3.setRow b3 OR.toArray = wm3a at *
   refine ⟨fun _ => ⟨hB5, hB8⟩, ?_⟩
   refine sx_ ?_
   refine f1_ 4 31 fun wz hxz => ?_
   skip
   go_wp2_with fail
   first | refine ⟨fun h => absurd h (by decide), ?_⟩ | skip
   refine fd_ fun wy hxy => ?_
   have hZ2 := (hR2.ext hxz).ext hxy
   have hZ3 := (hR3.ext hxz).ext hxy
   replace hE := (hE.trans hxz).trans hxy
   replace hcv := Sl.ext (Sl.ext hcv hxz) hxy
   replace hT := (hT.ext hxz).ext hxy
   replace hP := (hP.ext hxz).ext hxy
   go_wp2
   refine bodyPost_ret (results_rows2 (p1 := 2) (p2 := 3) (t := 4) rfl _ _ _ _ _ _ _ rfl hZ2 Tryz.underlying24 rfl iT _ _ _ _ _ rfl hZ3 Tryz.underlying33 rfl iO) rfl ?_
   exact ⟨⟨.agg TR.toArray, .agg OR.toArray, rfl, ⟨vt, by rw [← hTR], hcv, hokt⟩, ⟨_, _, R, by rw [← hOR]; rfl, hT, hfR, hRl, rfl, hP, hok⟩⟩, hE⟩
  ·have hGe : noG = G := by
    rw [← hG.out, if_neg (by decide), if_pos]
    rcases Bool.eq_false_or_eq_true b' with h | h
    ·exact Or.inr fun e => hyes ⟨h, e⟩
    ·exact Or.inl h
   subst hGe
   clear hG hTR oT nT iT hcv ho2 hB5 hOR oO nO iO hB8 hT hP hOT hOP
   have hne : b' = true → ¬ (nx = (s.size : Int)) := fun h e => hyes ⟨h, e⟩
   clear hyes
   cases b'
   case' true => have hne := hne rfl
   all_goals
    go_wp2_with fail
    refine (open1_w _).mono ?_; rintro e_ wf ⟨rfl, hf⟩
    replace hR2 := hR2.ext hf
    replace hR3 := hR3.ext hf
    replace hE := hE.trans hf
    have hR3f := hR3.farRow (c := b2) h23 zTk.toArray
    have hZ2 := (hR2.setRow zTk).farRow (c := b3) (Ne.symm h23) zOp.toArray
    have hZ3 := hR3f.setRow zOp
    go_wp2_with (first | (refine wpList_store_row (cells := zTk.toArray) rfl 24 _ _ rfl b2 rfl rfl _ _ hR2 (by kernel_rfl) rfl (by kernel_rfl) ?_) | (refine wpList_store_row (cells := zOp.toArray) rfl 33 _ _ rfl b3 rfl rfl _ _ hR3f (by kernel_rfl) rfl (by kernel_rfl) ?_))
    refine bodyPost_ret (results_rows2 (p1 := 2) (p2 := 3) (t := 4) rfl _ _ _ _ _ _ _ rfl hZ2 Tryz.underlying24 rfl (by kernel_rfl) _ _ _ _ _ rfl hZ3 Tryz.underlying33 rfl (by kernel_rfl)) rfl ?_
    exact ⟨GotG.no _, Ext.setRow (Ext.setRow hE hw2 _) hw3 _⟩
end Go.Proofs.YtefjdmjkofaajaaGreatDoor
namespace Go.Dm
open Go Go.RowKit
end Go.Dm
namespace Go.Proofs.YtefjdmjkofaajaaGreatDoor
open Go.RowKit Go.Dm
end Go.Proofs.YtefjdmjkofaajaaGreatDoor
namespace Go.Dm
open Go Go.RowKit
def keyE : Bs := [107, 101, 121]
def kezE : Bs := [107, 101, 122]
def s0L : Bs := [120, 12, 61, 180, 206, 61, 229, 185, 229, 88, 22, 251, 169, 143, 89, 6, 49, 217, 108, 7, 82, 113, 178, 105, 118, 35, 141, 95, 68, 68, 33, 155]
def n1L : Bs := [211, 212, 146, 197, 7, 159, 194, 24, 41, 101, 11, 3, 217, 55, 120, 14, 139, 166, 211, 41, 55, 103, 93, 49, 75, 182, 138, 150, 13, 220, 59, 95]
def oE : OpQ := (4, (7, 0), ⟨#[]⟩, noV, noSp, [])
def tE : TokQ := (⟨#[97]⟩, [], ⟨s0L.toArray⟩)
def nE : TokQ := (⟨#[97]⟩, [(1, 2)], ⟨n1L.toArray⟩)
def uE : TokQ := (⟨#[97]⟩, [(2, 9)], ⟨(signB s0L (putC (2, 9))).toArray⟩)
set_option maxRecDepth 100000 in
theorem s0_eq : signB keyE [97] = s0L := by decide +kernel
set_option maxRecDepth 100000 in
theorem kez_eq : signB kezE [97] = [45, 80, 21, 242, 202, 114, 71, 205, 9, 151, 121, 172, 124, 93, 172, 135, 143, 98, 134, 14, 240, 254, 182, 206, 29, 136, 8, 68, 248, 238, 60, 136] := by decide +kernel
theorem kez_ne : signB kezE [97] ≠ s0L := by rw [kez_eq]; decide +kernel
theorem putC_12 : putC (1, 2) = [1, 2] := by decide +kernel
set_option maxRecDepth 100000 in
theorem n1_eq : signB s0L (putC (1, 2)) = n1L := by rw [putC_12]; decide +kernel
set_option maxRecDepth 100000 in
theorem open_n : openG (putG nE oE) = (nE, oE, true) := by kernel_rfl
set_option maxRecDepth 100000 in
theorem open_no : openG (putG nE oE ++ [0]) = noG := by kernel_rfl
theorem put_none : putG noTok.1 oE = [] := by decide +kernel
theorem put_len : (putG nE oE).length ≤ 1000 := by decide +kernel
theorem checkT_eq (key : Bs) (tn : Bs) (L : List Cav) (sg : Bs) : checkT key (⟨tn.toArray⟩, L, ⟨sg.toArray⟩) = (fitsC L && decide (narrowB (signB key tn) L = sg)) := by
 unfold checkT
 simp
theorem narrow_nil (s : Bs) : narrowB s [] = s := rfl
theorem narrow_one (s : Bs) (c : Cav) : narrowB s [c] = signB s (putC c) := rfl
theorem check_t : checkT keyE tE = true := by
 rw [show tE = (⟨[97].toArray⟩, [], ⟨s0L.toArray⟩) from rfl, checkT_eq, narrow_nil, s0_eq, decide_eq_true rfl]
 decide +kernel
theorem check_z : checkT kezE tE = false := by
 rw [show tE = (⟨[97].toArray⟩, [], ⟨s0L.toArray⟩) from rfl, checkT_eq, narrow_nil, decide_eq_false kez_ne, Bool.and_false]
theorem check_n : checkT keyE nE = true := by
 rw [show nE = (⟨[97].toArray⟩, [(1, 2)], ⟨n1L.toArray⟩) from rfl, checkT_eq, narrow_one, s0_eq, n1_eq, decide_eq_true rfl]
 decide +kernel
theorem check_u : checkT keyE uE = true := by
 rw [show uE = (⟨[97].toArray⟩, [(2, 9)], ⟨(signB s0L (putC (2, 9))).toArray⟩) from rfl, checkT_eq, narrow_one, s0_eq, decide_eq_true rfl]
 decide +kernel
theorem al_t : allowG keyE tE oE 9 = 0 := by
 unfold allowG; rw [check_t]; decide +kernel
theorem al_z : allowG kezE tE oE 9 = 13 := by
 unfold allowG; rw [check_z]; rfl
theorem al_n : allowG keyE nE oE 9 = 0 := by
 unfold allowG; rw [check_n]; decide +kernel
theorem al_n2 : allowG keyE nE (opQ0 2) 9 = 14 := by
 unfold allowG; rw [check_n]; decide +kernel
theorem allow_uE (r : Nat) (o : OpQ) : allowG keyE uE o r = if needsK o.1 = 0 ∨ allowC [(2, 9)] (needsK o.1) r = false then 14 else 0 := by
 unfold allowG; rw [check_u]; rfl
theorem al_u : allowG keyE uE oE 9 = 0 := by rw [allow_uE]; decide +kernel
theorem al_u10 : allowG keyE uE oE 10 = 14 := by rw [allow_uE]; decide +kernel
theorem al_r : allowG keyE tE (opQ0 9) 0 = 14 := by
 unfold allowG; rw [check_t]; decide +kernel
def TokIn (w : World) (T : Value) (t : TokQ) : Prop := ∃ v, T = .agg #[.string t.1, v, .string t.2.2] ∧ Cavs w v t.2.1 ∧ t.1.size ≤ 1048576 ∧ t.2.2.size ≤ 1048576 ∧ ∀ c ∈ t.2.1, U64 c.2
end Go.Dm
