/- Texts one behind the other: Chapter 11: the walk of SpecTotals. -/
import Derived.Test.YthmhalcloogniaaGreatDoorB28
import Derived.Test.YthmhalcloogniaaGreatDoorB16
namespace Go.Dm
open Go Go.RowKit
theorem XBox.far {b c i : Nat} {s : ByteArray} {D : Nat → Nat} {n : Nums3} {v : Value} {w : World} (h : XBox b s D n v w) (hbc : c ≠ b) (u : Value) : XBox b s D n v (w.setCell ⟨c, i, none⟩ u) := by
  have hc : ∀ {j : Nat} {x}, w.cell? ⟨b, j, none⟩ = some x → (w.setCell ⟨c, i, none⟩ u).cell? ⟨b, j, none⟩ = some x := fun {j x} e => by
    have hne : (⟨c, i, none⟩ : Addr) ≠ ⟨b, j, none⟩ := fun e2 => by injection e2 with e2 _; exact hbc e2
    rw [World.cell?_setCell_other (h := hne)]; exact e
  exact ⟨by rw [World.size_setCell]; exact h.lt, hc h.c0, hc h.c1, hc h.c2, hc h.c3, hc h.c4, hc h.c5, hc h.c6, hc h.c7, hc h.c8, fun j hj => by rw [World.frozen?_setCell]; exact h.f j hj⟩
theorem XBox.put_far {b c : Nat} {s : ByteArray} {D : Nat → Nat} {n : Nums3} {v : Value} {w : World} (h : XBox b s D n v w) (hbc : c ≠ b) (V : Nat → Nat) : XBox b s D n v (put4 w c V) :=
  (((h.far hbc _).far hbc _).far hbc _).far hbc _
end Go.Dm
namespace Go.Proofs.YthmhalcloogniaaGreatDoor
open Go.RowKit Go.Dm
set_option maxHeartbeats 4000000 in
set_option maxRecDepth 100000 in
theorem specTotals_w (zs : List Int) (va : Value) (w : World) (hz : ∀ z ∈ zs, 0 ≤ z ∧ z ≤ 255) (_hm : zs.length ≤ 140737488355328) (hx : Nums w .u8 va zs) (ht : Vars w) (hv : VarsV w) :
    Calls Tryz.prog 8 #[va] w fun e w' => e = .returned (.bool true) ∧ Ext w w' := by
  obtain ⟨q, cap, rfl, _, _⟩ := hx.shape
  have oa := madeD_ok hz
  have hin := inNum_iff.1 (madeN_in zs)
  have htot := madeTot hz
  have CE := fun U (h : Ext w U) => xexamples_w U (ht.ext h) (hv.ext h)
  have CM := fun U (h : Ext w U) => xmade_w zs _ U hz (hx.ext h)
  generalize madePa zs = s at *
  generalize madeD zs = d at *
  generalize madeT zs = T at *
  generalize madeN zs = n at *
  obtain ⟨n1, n2, n3⟩ := n
  simp only at hin htot
  obtain ⟨c, rfl⟩ : ∃ c : Nat, n1 = c := ⟨n1.toNat, by omega⟩
  have hc8 : 1 ≤ c ∧ c ≤ 8 := by omega
  rw [show nat64 (c : Int) = c by unfold nat64; omega] at htot
  have CT := fun v U => xtotal_w s d (((c : Nat) : Int), n2, n3) v oa U
  simp only at CT
  rw [show nat64 (c : Int) = c by unfold nat64; omega, htot] at CT
  have hok : ∀ k, k ≤ c → vtimesOk d k = true := fun k hk => vtimesOk_mono hk htot
  have CA : ∀ k, k < c → ∀ U, Calls Tryz.prog 29 #[vVal (vtimes d k), vVal d] U fun e w' => e = .returned (.tuple #[vVal (vtimes d (k + 1)), .bool true]) ∧ Ext U w' := fun k hk U => by
    have := vadd_w (vtimes d k) d (vtimes_okV (hok k (by omega))) oa U
    rw [vtimesOk_step, vtimes_step, hok (k + 1) (by omega)] at this
    exact this
  have ot : OkV (vtimes d c) := vtimes_okV htot
  have q1 := fun U => run_eql_vals (P := Tryz.prog) Tryz.underlying24 Tryz.underlying22 (by kernel_rfl) ot ot U
  simp only [decide_true] at q1
  have hz0 : vtimes d 0 = noV := vtimes_zero d
  have hvt : vOr true (vtimes d c) = vtimes d c := rfl
  rw [hvt] at CT
  unfold vVal vF at CA CT q1
  unfold spVal at CM CT
  generalize hD : vG d = D at *
  simp only at CM CT
  generalize hVT : (fun k => vG (vtimes d k)) = VT at *
  have hVk : ∀ k, vG (vtimes d k) = VT k := fun k => by rw [← hVT]
  simp only [hVk] at CA CT q1
  have hV0 : VT 0 = vG noV := by rw [← hVT]; simp only [hz0]
  clear oa ot hz0 hvt hVk hVT hok htot hin
  replace CE := Lib.hid CE
  replace CM := Lib.hid CM
  replace CT := Lib.hid CT
  replace CA := Lib.hid CA
  replace hV0 := Lib.hid hV0
  replace hD := Lib.hid hD
  go_enter Tryz.func8, Tryz.ntmps8
  go_wp2_with fail
  refine (CE.out _ (Ext.refl _)).mono ?_; rintro e w1 ⟨rfl, hE⟩
  go_wp2_with fail
  refine (CM.out _ hE).mono ?_; rintro e w2 ⟨v, R, rfl, hy, _, h2⟩
  obtain ⟨qv, cv, rfl, _, _⟩ := hy.shape
  replace hE := hE.trans h2
  clear h2
  have bX := XBox.new w2 s D (((c : Nat) : Int), n2, n3) (.slice qv R.length cv) 27
  have hlw : w.heap.size ≤ w2.heap.size := hE.size
  replace hE := hE.alloc (.cells #[.string s, .int .u64 (D 0 : Nat), .int .u64 (D 1 : Nat), .int .u64 (D 2 : Nat), .int .u64 (D 3 : Nat), .int .i64 (c : Nat), .int .i64 n2, .int .i64 n3, .slice qv R.length cv] 27)
  generalize hb2 : w2.heap.size = b2 at *
  obtain ⟨xl, x0, x1, x2, x3, x4, x5, x6, x7, x8⟩ := bX.cells
  go_wp2_with fail
  clear xl x0 x1 x2 x3 x4 x5 x6 x7 x8
  generalize hw3 : w2.alloc (.cells #[.string s, .int .u64 (D 0 : Nat), .int .u64 (D 1 : Nat), .int .u64 (D 2 : Nat), .int .u64 (D 3 : Nat), .int .i64 (c : Nat), .int .i64 n2, .int .i64 n3, .slice qv R.length cv] 27) = w3 at *
  refine (CT.out (.slice qv R.length cv) _).mono ?_; rintro e w4 ⟨rfl, h4⟩
  replace hE := hE.trans h4
  replace bX := bX.ext h4
  clear h4 hw3 hb2
  have bT := VBox.new w4 (VT c) 24
  have hb4 : b2 < w4.heap.size := bX.lt
  have e4 := (Ext.refl w4).alloc (.cells #[.int .u64 ((VT c) 0 : Nat), .int .u64 ((VT c) 1 : Nat), .int .u64 ((VT c) 2 : Nat), .int .u64 ((VT c) 3 : Nat)] 24)
  replace hE := hE.trans e4
  replace bX := bX.ext e4
  clear e4
  generalize hb4' : w4.heap.size = b4 at *
  generalize hw5 : w4.alloc (.cells #[.int .u64 ((VT c) 0 : Nat), .int .u64 ((VT c) 1 : Nat), .int .u64 ((VT c) 2 : Nat), .int .u64 ((VT c) 3 : Nat)] 24) = w5 at *
  have bS := VBox.new w5 (vG noV) 24
  change VBox _ _ (w5.alloc (.cells #[.int .u64 0, .int .u64 0, .int .u64 0, .int .u64 0] 24)) at bS
  rw [← hV0.out] at bS
  have e5 := (Ext.refl w5).alloc (.cells #[.int .u64 0, .int .u64 0, .int .u64 0, .int .u64 0] 24)
  replace hE := hE.trans e5
  replace bX := bX.ext e5
  have hb5 : b4 < w5.heap.size := bT.lt
  replace bT := bT.ext e5
  clear e5
  go_wp2
  generalize hw6 : w5.alloc (.cells #[.int .u64 0, .int .u64 0, .int .u64 0, .int .u64 0] 24) = w6 at *
  generalize hb5' : w5.heap.size = b5 at *
  go_loopw [8, 9] (fun g i wr => ∃ k : Nat, k ≤ c ∧ g = .bool true ∧ i = .int .i64 k ∧ Ext w wr ∧ XBox b2 s D (((c : Nat) : Int), n2, n3) (.slice qv R.length cv) wr ∧ VBox b4 (VT c) wr ∧ VBox b5 (VT k) wr) (fun _ i _ => c - (intOf i).toNat)
  case atStart => exact ⟨0, by omega, rfl, rfl, hE, bX, bT, bS⟩
  case round =>
    clear hE bX bT bS hw6
    obtain ⟨k, hk, rfl, rfl, hE, bX, bT, bS⟩ := hrel
    by_cases hlt : k < c
    · have C := CA.out k hlt
      replace C := Lib.hid C
      obtain ⟨xl, x0, x1, x2, x3, x4, x5, x6, x7, x8⟩ := bX.cells
      obtain ⟨_, y0, y1, y2, y3, _, _, _, _⟩ := bS.four
      go_wp2_with fail
      clear xl x0 x1 x2 x3 x4 x5 x6 x7 x8
      clear y0 y1 y2 y3
      refine (C.out _).mono ?_; rintro e w7 ⟨rfl, h7⟩
      replace hE := hE.trans h7
      replace bX := bX.ext h7
      replace bT := bT.ext h7
      replace bS := bS.ext h7
      clear h7
      have hE' := hE.put4 (b := b5) (by omega) (VT (k + 1))
      have bT' := bT.put_far (show b5 ≠ b4 by omega) (VT (k + 1))
      have bS' := bS.put (VT (k + 1))
      have bX' : XBox b2 s D (((c : Nat) : Int), n2, n3) (.slice qv R.length cv) ((((w7.setCell ⟨b5, 0, none⟩ (.int .u64 (VT (k + 1) 0 : Nat))).setCell ⟨b5, 1, none⟩ (.int .u64 (VT (k + 1) 1 : Nat))).setCell ⟨b5, 2, none⟩ (.int .u64 (VT (k + 1) 2 : Nat))).setCell ⟨b5, 3, none⟩ (.int .u64 (VT (k + 1) 3 : Nat))) :=
        bX.put_far (show b5 ≠ b2 by omega) (VT (k + 1))
      obtain ⟨_, y0, y1, y2, y3, f0, f1, f2, f3⟩ := bS.four
      go_wp2
      exact ⟨⟨k + 1, by omega, rfl, by go_num, hE', bX', bT', bS'⟩, by simp [intOf]; omega⟩
    · obtain rfl : k = c := by omega
      obtain ⟨xl, x0, x1, x2, x3, x4, x5, x6, x7, x8⟩ := bX.cells
      obtain ⟨_, y0, y1, y2, y3, _, _, _, _⟩ := bS.four
      obtain ⟨_, t0, t1, t2, t3, _, _, _, _⟩ := bT.four
      go_wp2
      go_ret
      exact ⟨rfl, hE⟩
end Go.Proofs.YthmhalcloogniaaGreatDoor
