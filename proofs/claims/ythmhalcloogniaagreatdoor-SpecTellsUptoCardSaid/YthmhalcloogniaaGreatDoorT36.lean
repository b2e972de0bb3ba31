/- Texts one behind the other: Chapter 11, the document's: the walk of Parse. -/
import Derived.Test.YthmhalcloogniaaGreatDoorT21
import Derived.Test.YthmhalcloogniaaGreatDoorT15
import Derived.Test.YthmhalcloogniaaGreatDoorT32
import Derived.Test.YthmhalcloogniaaGreatDoorT35
import Derived.Deep.Cut
namespace Go.Dm
open Go Go.RowKit
theorem CB.toX {b : Nat} {s : ByteArray} {D : Nat → Nat} {a c e : Int} {v : Value} {w : World} (h : CB b [.string s, .int .u64 (D 0 : Nat), .int .u64 (D 1 : Nat), .int .u64 (D 2 : Nat), .int .u64 (D 3 : Nat), .int .i64 a, .int .i64 c, .int .i64 e, v] w) : XBox b s D (a, c, e) v w := by
  obtain ⟨l, x0, x1, x2, x3, x4, x5, x6, x7, x8, _, _, _, _, _, _, _, _, _⟩ := h.cells9
  exact ⟨l, x0, x1, x2, x3, x4, x5, x6, x7, x8, fun i hi => h.free i (by simpa using hi)⟩
end Go.Dm
namespace Go.Proofs.YthmhalcloogniaaGreatDoor
open Go.RowKit Go.Dm
set_option maxHeartbeats 8000000 in
set_option maxRecDepth 100000 in
theorem rparsex_w (ws : List ByteArray) (va : Value) (w : World) (hs : ∀ x ∈ ws, x.size ≤ 1048576) (hx : Strs w va ws) :
    Calls Tryz.prog 16 #[va] w fun e w' => GotP w' (parseX (bytesOf ws)) e ∧ Ext w w' := by
  obtain ⟨q, cap, rfl, _, _⟩ := hx.shape
  have hB : CB w.heap.size [.string ⟨#[]⟩, .int .u64 0, .int .u64 0, .int .u64 0, .int .u64 0, .int .i64 0, .int .i64 0, .int .i64 0, .slice none 0 0] (w.alloc (.cells #[.string ⟨#[]⟩, .int .u64 0, .int .u64 0, .int .u64 0, .int .u64 0, .int .i64 0, .int .i64 0, .int .i64 0, .slice none 0 0] 33)) := CB.new w #[.string ⟨#[]⟩, .int .u64 0, .int .u64 0, .int .u64 0, .int .u64 0, .int .i64 0, .int .i64 0, .int .i64 0, .slice none 0 0] 33
  have hE : Ext w (w.alloc (.cells #[.string ⟨#[]⟩, .int .u64 0, .int .u64 0, .int .u64 0, .int .u64 0, .int .i64 0, .int .i64 0, .int .i64 0, .slice none 0 0] 33)) := (Ext.refl _).alloc _
  by_cases h6 : ws.length = 6
  · have W := fun k (hk : k < 6) => wordAt_bytes (ws := ws) (k := k) (by omega)
    have hsz : ∀ k, k < 6 → (strAt ws k).size ≤ 1048576 := fun k hk => hs _ (strAt_mem (by omega))
    have hc := fun k (hk : k < 6) => hx.at (k := k) (by omega)
    obtain ⟨b, off, rfl, hbl, _⟩ := hc 0 (by omega)
    have hcs : ∀ k, k < 6 → w.cell? ⟨b, off + k, none⟩ = some (.string (strAt ws k)) := fun k hk => by
      obtain ⟨b', off', e, _, h⟩ := hc k hk
      injection e with e; injection e with e1 e2
      subst e1 e2
      exact h
    have C1 := fun U => r03parse_w (strAt ws 1) U (by have := hsz 1 (by omega); omega)
    have C2 := fun U => r03number_w (strAt ws 2) (by have := hsz 2 (by omega); omega) U
    have C3 := fun U => r03number_w (strAt ws 3) (by have := hsz 3 (by omega); omega) U
    have C4 := fun U => r03number_w (strAt ws 4) (by have := hsz 4 (by omega); omega) U
    have C5 := fun U => smparseO_w (strAt ws 5) U (hsz 5 (by omega))
    have hok : OkV (parseV (strAt ws 1).data.toList).1 := parseV_ok _
    have h0 := hsz 0 (by omega)
    have hG : parseX (bytesOf ws) = if readOk (bytesOf ws) = true ∧ chkX (readX (bytesOf ws)) = 0 then (readX (bytesOf ws), true) else (noSp, false) := by
      unfold parseX
      have hl : (bytesOf ws).length = 6 := by simp [bytesOf, h6]
      by_cases h : readOk (bytesOf ws) = true ∧ chkX (readX (bytesOf ws)) = 0
      · rw [if_pos ⟨hl, h.1, h.2⟩, if_pos h]
      · rw [if_neg (fun g => h ⟨g.2.1, g.2.2⟩), if_neg h]
    have hro : readOk (bytesOf ws) = ((parseV (strAt ws 1).data.toList).2 && (numV (strAt ws 2).data.toList).2 && (numV (strAt ws 3).data.toList).2 && (numV (strAt ws 4).data.toList).2 && (parseS (strAt ws 5).data.toList).2) := by
      unfold readOk
      rw [W 1 (by omega), W 2 (by omega), W 3 (by omega), W 4 (by omega), W 5 (by omega)]
    have hrx : readX (bytesOf ws) = (strAt ws 0, (parseV (strAt ws 1).data.toList).1, (((numV (strAt ws 2).data.toList).1 : Int), ((numV (strAt ws 3).data.toList).1 : Int), ((numV (strAt ws 4).data.toList).1 : Int)), (parseS (strAt ws 5).data.toList).1) := by
      unfold readX
      rw [W 0 (by omega), W 1 (by omega), W 2 (by omega), W 3 (by omega), W 4 (by omega), W 5 (by omega)]
    rw [hro, hrx] at hG
    have c0 := hcs 0 (by omega)
    have c1 := hcs 1 (by omega)
    have c2 := hcs 2 (by omega)
    have c3 := hcs 3 (by omega)
    have c4 := hcs 4 (by omega)
    have c5 := hcs 5 (by omega)
    rw [Nat.add_zero] at c0
    generalize parseX (bytesOf ws) = G at *
    generalize parseV (strAt ws 1).data.toList = g1 at *
    obtain ⟨d, b1⟩ := g1
    generalize numV (strAt ws 2).data.toList = g2 at *
    obtain ⟨c, b2⟩ := g2
    generalize numV (strAt ws 3).data.toList = g3 at *
    obtain ⟨m, b3⟩ := g3
    generalize numV (strAt ws 4).data.toList = g4 at *
    obtain ⟨k, b4⟩ := g4
    generalize parseS (strAt ws 5).data.toList = g5 at *
    obtain ⟨S, b5⟩ := g5
    generalize strAt ws 0 = s0 at *
    generalize strAt ws 1 = s1 at *
    generalize strAt ws 2 = s2 at *
    generalize strAt ws 3 = s3 at *
    generalize strAt ws 4 = s4 at *
    generalize strAt ws 5 = s5 at *
    simp only at hG C1 C2 C3 C4 C5 hok
    unfold vVal vF at C1
    obtain ⟨D, hDe⟩ : ∃ D, vG d = D := ⟨_, rfl⟩
    rw [hDe] at C1
    have hc8 : chkX (s0, d, ((c : Int), (m : Int), (k : Int)), S) = 0 → c ≤ 8 ∧ m ≤ 9 ∧ k ≤ 100 := fun h => by
      have := inNum_iff.1 (chkX_iff.1 h).2.1
      simp only at this
      omega
    clear hcs hc W hro hrx hsz hs hx
    rw [h6]
    replace C1 := Lib.hid C1
    replace C2 := Lib.hid C2
    replace C3 := Lib.hid C3
    replace C4 := Lib.hid C4
    replace C5 := Lib.hid C5
    replace hG := Lib.hid hG
    replace hDe := Lib.hid hDe
    replace hc8 := Lib.hid hc8
    go_enter Tryz.func16, Tryz.ntmps16
    have d1 : World.cell? _ ⟨b, off + 1, none⟩ = _ := (hE.cell (p := ⟨b, off + 1, none⟩) hbl).trans c1
    have dl := Nat.lt_of_lt_of_le hbl hE.size
    go_wp2_with fail
    clear d1 dl
    refine (C1.out _).mono ?_; rintro e w1 ⟨rfl, h1⟩
    replace hB := hB.ext h1
    replace hE := hE.trans h1
    have ee := (Ext.refl w1).alloc (.cells #[.int .u64 (D 0 : Nat), .int .u64 (D 1 : Nat), .int .u64 (D 2 : Nat), .int .u64 (D 3 : Nat)] 30)
    have bV := VBox.new w1 D 30
    replace hB := hB.ext ee
    replace hE := hE.trans ee
    clear h1 ee
    have d2 : World.cell? _ ⟨b, off + 2, none⟩ = _ := (hE.cell (p := ⟨b, off + 2, none⟩) hbl).trans c2
    have dl := Nat.lt_of_lt_of_le hbl hE.size
    go_wp2_with fail
    clear d2 dl
    generalize hw4 : w1.alloc (.cells #[.int .u64 (D 0 : Nat), .int .u64 (D 1 : Nat), .int .u64 (D 2 : Nat), .int .u64 (D 3 : Nat)] 30) = w2 at *
    generalize hbv : w1.heap.size = bv at *
    clear hw4 hbv
    refine (C2.out _).mono ?_; rintro e w3 ⟨rfl, h1⟩
    replace hB := hB.ext h1
    replace hE := hE.trans h1
    replace bV := bV.ext h1
    clear h1
    have d3 : World.cell? _ ⟨b, off + 3, none⟩ = _ := (hE.cell (p := ⟨b, off + 3, none⟩) hbl).trans c3
    have dl := Nat.lt_of_lt_of_le hbl hE.size
    go_wp2_with fail
    clear d3 dl
    refine (C3.out _).mono ?_; rintro e w4 ⟨rfl, h1⟩
    replace hB := hB.ext h1
    replace hE := hE.trans h1
    replace bV := bV.ext h1
    clear h1
    have d4 : World.cell? _ ⟨b, off + 4, none⟩ = _ := (hE.cell (p := ⟨b, off + 4, none⟩) hbl).trans c4
    have dl := Nat.lt_of_lt_of_le hbl hE.size
    go_wp2_with fail
    clear d4 dl
    refine (C4.out _).mono ?_; rintro e w5 ⟨rfl, h1⟩
    replace hB := hB.ext h1
    replace hE := hE.trans h1
    replace bV := bV.ext h1
    clear h1
    have d5 : World.cell? _ ⟨b, off + 5, none⟩ = _ := (hE.cell (p := ⟨b, off + 5, none⟩) hbl).trans c5
    have dl := Nat.lt_of_lt_of_le hbl hE.size
    go_wp2_with fail
    clear d5 dl
    have hlB := hB.lt
    refine (C5.out _).mono ?_; rintro e w8 ⟨r, R, bb, rfl, hy, hpe, hf, hl, hown, h8⟩
    injection hpe with ea eb
    subst ea eb
    obtain ⟨qr, cr, rfl, _, _⟩ := hy.shape
    replace hB := hB.ext h8
    replace hE := hE.trans h8
    replace bV := bV.ext h8
    clear h8 C1 C2 C3 C4 C5
    obtain ⟨bad, hbad⟩ : ∃ bad : Bool, bad = (!b1 || !b2 || !b3 || !b4 || !bb || decide (8 < c) || decide (9 < m) || decide (100 < k)) := ⟨_, rfl⟩
    replace hbad := Lib.hid hbad
    go_upto_region 8 with fail
    go_cut [83] from 15 (fun r w' => r = .bool bad ∧ w' = w8)
    case first =>
      cases b1 with
      | false => go_wp2; go_meet; case rel => exact ⟨by rw [hbad.out]; simp, rfl⟩
      | true =>
        cases b2 with
        | false => go_wp2; go_meet; case rel => exact ⟨by rw [hbad.out]; simp, rfl⟩
        | true =>
          cases b3 with
          | false => go_wp2; go_meet; case rel => exact ⟨by rw [hbad.out]; simp, rfl⟩
          | true =>
            cases b4 with
            | false => go_wp2; go_meet; case rel => exact ⟨by rw [hbad.out]; simp, rfl⟩
            | true =>
              cases bb with
              | false => go_wp2; go_meet; case rel => exact ⟨by rw [hbad.out]; simp, rfl⟩
              | true =>
                by_cases a1 : 8 < c
                · have a1i : (8 : Int) < (c : Int) := by omega
                  go_wp2; go_meet; case rel => exact ⟨by rw [hbad.out]; simp [a1], rfl⟩
                · have a1i : ¬ (8 : Int) < (c : Int) := by omega
                  by_cases a2 : 9 < m
                  · have a2i : (9 : Int) < (m : Int) := by omega
                    go_wp2; go_meet; case rel => exact ⟨by rw [hbad.out]; simp [a1, a2], rfl⟩
                  · have a2i : ¬ (9 : Int) < (m : Int) := by omega
                    by_cases a3 : 100 < k
                    · have a3i : (100 : Int) < (k : Int) := by omega
                      go_wp2; go_meet; case rel => exact ⟨by rw [hbad.out]; simp [a1, a2, a3], rfl⟩
                    · have a3i : ¬ (100 : Int) < (k : Int) := by omega
                      go_wp2; go_meet; case rel => exact ⟨by rw [hbad.out]; simp [a1, a2, a3], rfl⟩
    case rest =>
      obtain ⟨rfl, hwc⟩ := hcut
      rw [hwc]
      clear hwc wc
      cases bad with
      | true =>
        obtain rfl : G = (noSp, false) := by
          have hb := hbad.out
          rw [hG.out, if_neg]
          rintro ⟨h, h2⟩
          have := hc8.out h2
          simp only [Bool.and_eq_true] at h
          obtain ⟨⟨⟨⟨x1, x2⟩, x3⟩, x4⟩, x5⟩ := h
          rw [x1, x2, x3, x4, x5] at hb
          simp at hb
          omega
        obtain ⟨xl, x0, x1, x2, x3, x4, x5, x6, x7, x8, xf0, xf1, xf2, xf3, xf4, xf5, xf6, xf7, xf8⟩ := hB.cells9
        go_wp2
        clear xl x0 xf0 x1 xf1 x2 xf2 x3 xf3 x4 xf4 x5 xf5 x6 xf6 x7 xf7 x8 xf8
        have hz := hB.put9 (.string ⟨#[]⟩) (.int .u64 0) (.int .u64 0) (.int .u64 0) (.int .u64 0) (.int .i64 0) (.int .i64 0) (.int .i64 0) (.slice none 0 0)
        obtain ⟨_, k0, k1, k2, k3, k4, k5, k6, k7, k8, _, _, _, _, _, _, _, _, _⟩ := hz.cells9
        refine bodyPost_ret (v := .tuple #[.agg #[.string ⟨#[]⟩, .int .u64 0, .int .u64 0, .int .u64 0, .int .u64 0, .int .i64 0, .int .i64 0, .int .i64 0, .slice none 0 0], .bool false]) (by simp [results, Tryz.results16, go_sem, k0, k1, k2, k3, k4, k5, k6, k7, k8]) rfl ?_
        exact ⟨GotP.no _, Ext.cput9 hE (b := w.heap.size) (Nat.le_refl _) _ _ _ _ _ _ _ _ _⟩
      | false =>
        have hb := hbad.out
        simp only [Bool.false_eq, Bool.or_eq_false_iff, Bool.not_eq_false', decide_eq_false_iff_not] at hb
        obtain ⟨⟨⟨⟨⟨⟨⟨g1, g2⟩, g3⟩, g4⟩, g5⟩, g7⟩, g8⟩, g9⟩ := hb
        subst g1 g2 g3 g4 g5
        have hG2 := hG.out
        simp only [Bool.and_self, true_and] at hG2
        have hc9 : c ≤ 8 := by omega
        have hm9 : m ≤ 9 := by omega
        have hk9 : k ≤ 100 := by omega
        clear g7 g8 g9 hbad hc8 hG
        have CK := fun U (h : Ext w8 U) => rcheck_w s0 d ((c : Int), (m : Int), (k : Int)) (.slice qr R.length cr) R U (by omega) hok hf (hy.ext h)
        unfold spVal at CK
        rw [hDe.out] at CK
        simp only at CK
        replace CK := Lib.hid CK
        replace hG2 := Lib.hid hG2
        have hlw := hE.size
        have d0 : World.cell? _ ⟨b, off, none⟩ = _ := (hE.cell (p := ⟨b, off, none⟩) hbl).trans c0
        have dl := Nat.lt_of_lt_of_le hbl hE.size
        obtain ⟨vl, y0, y1, y2, y3, _, _, _, _⟩ := bV.four
        go_upto_region 10 with fail
        try simp only [Act.put, List.setIfInBounds_toArray, List.set_cons_succ, List.set_cons_zero]
        refine Dm.wp_region_ext 14 (Dm.bits 14 0) (Ext.refl w8) (by kernel_rfl) (by kernel_rfl) (by kernel_rfl) ?_
        refine Dm.wpE_take (i := 0) (listed' := (Dm.bits 14 1)) (by kernel_rfl) (by kernel_rfl) rfl (fun _ _ _ _ h => h) ?_; apply Exists.intro; refine And.intro (fun x => ?_) ?_
        · go_big_quiet_step (fail); exact wpQuiet_nil rfl
        refine Dm.wpE_take (i := 1) (listed' := (Dm.bits 14 3)) (by kernel_rfl) (by kernel_rfl) rfl (fun _ _ _ _ h => h) ?_; apply Exists.intro; refine And.intro (fun x => ?_) ?_
        · go_big_quiet_step (fail); exact wpQuiet_nil rfl
        refine Dm.wpE_take (i := 2) (listed' := (Dm.bits 14 7)) (by kernel_rfl) (by kernel_rfl) rfl (fun _ _ _ _ h => h) ?_; apply Exists.intro; refine And.intro (fun x => ?_) ?_
        · go_big_quiet_step (fail); exact wpQuiet_nil rfl
        refine Dm.wpE_take (i := 3) (listed' := (Dm.bits 14 15)) (by kernel_rfl) (by kernel_rfl) rfl (fun _ _ _ _ h => h) ?_; apply Exists.intro; refine And.intro (fun x => ?_) ?_
        · go_big_quiet_step (fail); exact wpQuiet_nil rfl
        refine Dm.wpE_take (i := 4) (listed' := (Dm.bits 14 31)) (by kernel_rfl) (by kernel_rfl) rfl (fun _ _ _ _ h => h) ?_; apply Exists.intro; refine And.intro (fun x => ?_) ?_
        · go_big_quiet_step (fail); exact wpQuiet_nil rfl
        refine Dm.wpE_take (i := 5) (listed' := (Dm.bits 14 63)) (by kernel_rfl) (by kernel_rfl) rfl (fun _ _ _ _ h => h) ?_; apply Exists.intro; refine And.intro (fun x => ?_) ?_
        · go_big_quiet_step (fail); exact wpQuiet_nil rfl
        refine Dm.wpE_take (i := 6) (listed' := (Dm.bits 14 127)) (by kernel_rfl) (by kernel_rfl) rfl (fun _ _ _ _ h => h) ?_; apply Exists.intro; refine And.intro (fun x => ?_) ?_
        · go_big_quiet_step (fail); exact wpQuiet_nil rfl
        refine Dm.wpE_take (i := 7) (listed' := (Dm.bits 14 255)) (by kernel_rfl) (by kernel_rfl) rfl (fun _ _ _ _ h => h) ?_; apply Exists.intro; refine And.intro (fun x => ?_) ?_
        · go_big_quiet_step (fail); exact wpQuiet_nil rfl
        refine Dm.wpE_take (i := 8) (listed' := (Dm.bits 14 511)) (by kernel_rfl) (by kernel_rfl) rfl (fun _ _ _ _ h => h) ?_; apply Exists.intro; refine And.intro (fun x => ?_) ?_
        · go_big_quiet_step (fail); exact wpQuiet_nil rfl
        refine Dm.wpE_take (i := 9) (listed' := (Dm.bits 14 1023)) (by kernel_rfl) (by kernel_rfl) rfl (fun _ _ _ _ h => h) ?_; apply Exists.intro; refine And.intro (fun x => ?_) ?_
        · go_big_quiet_step (fail); exact wpQuiet_nil rfl
        refine Dm.wpE_take (i := 10) (listed' := (Dm.bits 14 2047)) (by kernel_rfl) (by kernel_rfl) rfl (fun _ _ _ _ h => h) ?_; apply Exists.intro; refine And.intro (fun x => ?_) ?_
        · go_big_quiet_step (fail); exact wpQuiet_nil rfl
        refine Dm.wpE_take (i := 11) (listed' := (Dm.bits 14 4095)) (by kernel_rfl) (by kernel_rfl) rfl (fun _ _ _ _ h => h) ?_; apply Exists.intro; refine And.intro (fun x => ?_) ?_
        · go_big_quiet_step (fail); exact wpQuiet_nil rfl
        refine Dm.wpE_one (i := 12) (listed' := (Dm.bits 14 8191)) (by kernel_rfl) (by kernel_rfl) rfl (Ext.refl w8) (fun w1a hx1a => ?_)
        have hX1a := Ext.trans (Ext.refl w8) hx1a
        have hzz : CB w1a.heap.size [.string ⟨#[]⟩, .int .u64 0, .int .u64 0, .int .u64 0, .int .u64 0, .int .i64 0, .int .i64 0, .int .i64 0, .slice none 0 0] _ := CB.new w1a #[.string ⟨#[]⟩, .int .u64 0, .int .u64 0, .int .u64 0, .int .u64 0, .int .i64 0, .int .i64 0, .int .i64 0, .slice none 0 0] 33
        have hzl := (hX1a).size
        go_wp2_with fail
        have hs1 := (Ext.refl w1a).alloc (.cells #[.string ⟨#[]⟩, .int .u64 0, .int .u64 0, .int .u64 0, .int .u64 0, .int .i64 0, .int .i64 0, .int .i64 0, .slice none 0 0] 33)
        have hX1b := Ext.trans hX1a hs1
        generalize w1a.alloc (.cells #[.string ⟨#[]⟩, .int .u64 0, .int .u64 0, .int .u64 0, .int .u64 0, .int .i64 0, .int .i64 0, .int .i64 0, .slice none 0 0] 33) = w1b at *
        generalize w1a.heap.size = b2 at *
        try simp only [Exit.then, Act.put]
        refine Dm.wpE_one (i := 13) (listed' := (Dm.bits 14 16383)) (by kernel_rfl) (by kernel_rfl) rfl hX1b (fun w2a hx2a => ?_)
        have hX2a := Ext.trans hX1b hx2a
        replace hzz := hzz.ext hx2a
        obtain ⟨xl, x0, x1, x2, x3, x4, x5, x6, x7, x8, xf0, xf1, xf2, xf3, xf4, xf5, xf6, xf7, xf8⟩ := hzz.cells9
        have hY : CB b2 [.string s0, .int .u64 (D 0 : Nat), .int .u64 (D 1 : Nat), .int .u64 (D 2 : Nat), .int .u64 (D 3 : Nat), .int .i64 (c : Nat), .int .i64 (m : Nat), .int .i64 (k : Nat), .slice qr R.length cr] _ := hzz.put9 (.string s0) (.int .u64 (D 0 : Nat)) (.int .u64 (D 1 : Nat)) (.int .u64 (D 2 : Nat)) (.int .u64 (D 3 : Nat)) (.int .i64 (c : Nat)) (.int .i64 (m : Nat)) (.int .i64 (k : Nat)) (.slice qr R.length cr)
        have hX2b : Ext w8 _ := Ext.cput9 hX2a (b := b2) (by omega) (.string s0) (.int .u64 (D 0 : Nat)) (.int .u64 (D 1 : Nat)) (.int .u64 (D 2 : Nat)) (.int .u64 (D 3 : Nat)) (.int .i64 (c : Nat)) (.int .i64 (m : Nat)) (.int .i64 (k : Nat)) (.slice qr R.length cr)
        go_wp2_with fail
        clear xl x0 xf0 x1 xf1 x2 xf2 x3 xf3 x4 xf4 x5 xf5 x6 xf6 x7 xf7 x8 xf8
        clear hzz
        generalize ((((((((w2a.setCell ⟨b2, 0, none⟩ (.string s0)).setCell ⟨b2, 1, none⟩ (.int .u64 (D 0 : Nat))).setCell ⟨b2, 2, none⟩ (.int .u64 (D 1 : Nat))).setCell ⟨b2, 3, none⟩ (.int .u64 (D 2 : Nat))).setCell ⟨b2, 4, none⟩ (.int .u64 (D 3 : Nat))).setCell ⟨b2, 5, none⟩ (.int .i64 (c : Nat))).setCell ⟨b2, 6, none⟩ (.int .i64 (m : Nat))).setCell ⟨b2, 7, none⟩ (.int .i64 (k : Nat))).setCell ⟨b2, 8, none⟩ (.slice qr R.length cr) = w2b at *
        try simp only [Exit.then, Act.put]
        refine Dm.wpE_done (by kernel_rfl) hX2b (fun w3a hx3a => ?_)
        have hX3a := Ext.trans hX2b hx3a
        replace hY := hY.ext hx3a
        clear d0 dl vl y0 y1 y2 y3 c0 c1 c2 c3 c4 c5 hbl bV
        have bX : XBox b2 s0 D ((c : Int), (m : Int), (k : Int)) (.slice qr R.length cr) _ := hY.toX
        clear hY
        obtain ⟨xl, x0, x1, x2, x3, x4, x5, x6, x7, x8⟩ := bX.cells
        go_wp2_with fail
        clear xl x0 x1 x2 x3 x4 x5 x6 x7 x8
        refine (CK.out _ hX3a).mono ?_; rintro e wa ⟨rfl, ha⟩
        have hB2 := (hB.ext hX3a).ext ha
        have hE2 := (hE.trans hX3a).trans ha
        have bX2 := bX.ext ha
        have hx2 := (hy.ext hX3a).ext ha
        clear hB hE hy bX ha CK hlw
        replace hlB := Lib.hid hlB
        by_cases hk : chkX (s0, d, ((c : Int), (m : Int), (k : Int)), R.map rowT) = 0
        · obtain rfl := (hG2.out.trans (if_pos hk))
          rw [hk]
          obtain ⟨xl, x0, x1, x2, x3, x4, x5, x6, x7, x8⟩ := bX2.cells
          obtain ⟨rl, r0, r1, r2, r3, r4, r5, r6, r7, r8, rf0, rf1, rf2, rf3, rf4, rf5, rf6, rf7, rf8⟩ := hB2.cells9
          go_wp2
          clear xl x0 x1 x2 x3 x4 x5 x6 x7 x8
          clear rl r0 rf0 r1 rf1 r2 rf2 r3 rf3 r4 rf4 r5 rf5 r6 rf6 r7 rf7 r8 rf8
          replace hlB := hlB.out
          have hz := hB2.put9 (.string s0) (.int .u64 (D 0 : Nat)) (.int .u64 (D 1 : Nat)) (.int .u64 (D 2 : Nat)) (.int .u64 (D 3 : Nat)) (.int .i64 (c : Nat)) (.int .i64 (m : Nat)) (.int .i64 (k : Nat)) (.slice qr R.length cr)
          obtain ⟨_, k0, k1, k2, k3, k4, k5, k6, k7, k8, _, _, _, _, _, _, _, _, _⟩ := hz.cells9
          refine bodyPost_ret (v := .tuple #[.agg #[.string s0, .int .u64 (D 0 : Nat), .int .u64 (D 1 : Nat), .int .u64 (D 2 : Nat), .int .u64 (D 3 : Nat), .int .i64 (c : Nat), .int .i64 (m : Nat), .int .i64 (k : Nat), .slice qr R.length cr], .bool true]) (by simp [results, Tryz.results16, go_sem, k0, k1, k2, k3, k4, k5, k6, k7, k8]) rfl ?_
          refine ⟨⟨.slice qr R.length cr, R, by rw [hDe.out]; rfl, ?_, hf, hl, rfl, hok⟩, Ext.cput9 hE2 (b := w.heap.size) (Nat.le_refl _) _ _ _ _ _ _ _ _ _⟩
          exact ((((((((hx2.set hown hlB _).set hown hlB _).set hown hlB _).set hown hlB _).set hown hlB _).set hown hlB _).set hown hlB _).set hown hlB _).set hown hlB _
        · obtain rfl := (hG2.out.trans (if_neg hk))
          generalize chkX (s0, d, ((c : Int), (m : Int), (k : Int)), R.map rowT) = K at *
          have hKb : ((K : Int) != 0) = true := by simp; omega
          have hKi : ¬ ((K : Int) = 0) := by omega
          obtain ⟨rl, r0, r1, r2, r3, r4, r5, r6, r7, r8, rf0, rf1, rf2, rf3, rf4, rf5, rf6, rf7, rf8⟩ := hB2.cells9
          go_wp2
          clear rl r0 rf0 r1 rf1 r2 rf2 r3 rf3 r4 rf4 r5 rf5 r6 rf6 r7 rf7 r8 rf8
          have hz := hB2.put9 (.string ⟨#[]⟩) (.int .u64 0) (.int .u64 0) (.int .u64 0) (.int .u64 0) (.int .i64 0) (.int .i64 0) (.int .i64 0) (.slice none 0 0)
          obtain ⟨_, k0, k1, k2, k3, k4, k5, k6, k7, k8, _, _, _, _, _, _, _, _, _⟩ := hz.cells9
          refine bodyPost_ret (v := .tuple #[.agg #[.string ⟨#[]⟩, .int .u64 0, .int .u64 0, .int .u64 0, .int .u64 0, .int .i64 0, .int .i64 0, .int .i64 0, .slice none 0 0], .bool false]) (by simp [results, Tryz.results16, go_sem, k0, k1, k2, k3, k4, k5, k6, k7, k8]) rfl ?_
          exact ⟨GotP.no _, Ext.cput9 hE2 (b := w.heap.size) (Nat.le_refl _) _ _ _ _ _ _ _ _ _⟩
  · have hG : parseX (bytesOf ws) = (noSp, false) := by
      unfold parseX
      rw [if_neg]
      rintro ⟨h, _⟩
      apply h6
      rw [← h]
      simp [bytesOf]
    rw [hG]
    clear hG
    have hlz : ¬ ((ws.length : Int) = 6) := by omega
    go_enter Tryz.func16, Tryz.ntmps16
    go_upto_region 2 with fail
    generalize w.alloc (.cells #[.string ⟨#[]⟩, .int .u64 0, .int .u64 0, .int .u64 0, .int .u64 0, .int .i64 0, .int .i64 0, .int .i64 0, .slice none 0 0] 33) = w1 at *
    obtain ⟨xl, x0, x1, x2, x3, x4, x5, x6, x7, x8, xf0, xf1, xf2, xf3, xf4, xf5, xf6, xf7, xf8⟩ := hB.cells9
    go_wp2
    clear xl x0 xf0 x1 xf1 x2 xf2 x3 xf3 x4 xf4 x5 xf5 x6 xf6 x7 xf7 x8 xf8
    have hz := hB.put9 (.string ⟨#[]⟩) (.int .u64 0) (.int .u64 0) (.int .u64 0) (.int .u64 0) (.int .i64 0) (.int .i64 0) (.int .i64 0) (.slice none 0 0)
    obtain ⟨_, k0, k1, k2, k3, k4, k5, k6, k7, k8, _, _, _, _, _, _, _, _, _⟩ := hz.cells9
    refine bodyPost_ret (v := .tuple #[.agg #[.string ⟨#[]⟩, .int .u64 0, .int .u64 0, .int .u64 0, .int .u64 0, .int .i64 0, .int .i64 0, .int .i64 0, .slice none 0 0], .bool false]) (by simp [results, Tryz.results16, go_sem, k0, k1, k2, k3, k4, k5, k6, k7, k8]) rfl ?_
    exact ⟨GotP.no _, Ext.cput9 hE (b := w.heap.size) (Nat.le_refl _) _ _ _ _ _ _ _ _ _⟩
end Go.Proofs.YthmhalcloogniaaGreatDoor
