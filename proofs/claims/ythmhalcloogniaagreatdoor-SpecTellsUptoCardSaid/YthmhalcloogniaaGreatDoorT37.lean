/- Texts one behind the other: Chapter 11: the walk of SpecTells. -/
import Derived.Test.YthmhalcloogniaaGreatDoorT16
import Derived.Test.YthmhalcloogniaaGreatDoorT28
import Derived.Test.YthmhalcloogniaaGreatDoorT29
import Derived.Test.YthmhalcloogniaaGreatDoorT31
import Derived.Test.YthmhalcloogniaaGreatDoorT36
import Derived.Test.YthmhalcloogniaaGreatDoorT22
import Derived.Deep.Cut
namespace Go.Proofs.YthmhalcloogniaaGreatDoor
open Go.RowKit Go.Dm
theorem same_self {F : Nat} {args : Array Value} {w : World} {a : ByteArray} {d : Vc} {m : Nums3} {S : List TermS} {R Q : List RowS} (h : Calls Tryz.prog F args w fun e w' => e = .returned (.bool (sameX (a, d, m, R.map rowT) (a, d, m, Q.map rowT))) ∧ Ext w w') (hR : R.map rowT = S) (hQ : Q.map rowT = S) :
    Calls Tryz.prog F args w fun e w' => e = .returned (.bool true) ∧ Ext w w' := by
  rw [hR, hQ, show sameX (a, d, m, S) (a, d, m, S) = true from sameX_iff.2 rfl] at h
  exact h
set_option maxHeartbeats 8000000 in
set_option maxRecDepth 100000 in
theorem specTells_w (s1 : ByteArray) (d1 : Vc) (n1 : Nums3) (v1 : Value) (R1 : List RowS) (s2 : ByteArray) (d2 : Vc) (n2 : Nums3) (v2 : Value) (R2 : List RowS) (s : ByteArray) (z : Int) (ws : List ByteArray) (va : Value) (w : World)
    (hs1 : s1.size ≤ 1048576) (hd1 : OkV d1) (hm1 : R1.length ≤ 1048576) (hf1 : FitR R1) (hx1 : Terms w v1 R1) (_hs2 : s2.size ≤ 1048576) (hd2 : OkV d2) (hm2 : R2.length ≤ 1048576) (_hf2 : FitR R2) (hx2 : Terms w v2 R2)
    (hs : s.size ≤ 1048576) (hm : ws.length ≤ 1048576 ∧ ∀ x ∈ ws, x.size ≤ 1048576) (hx : Strs w va ws) (ht : Vars w) (hv : VarsV w) :
    Calls Tryz.prog 3 #[spVal s1 (vG d1) n1 v1, spVal s2 (vG d2) n2 v2, .string s, .int .i64 z, va] w fun e w' => e = .returned (.bool true) ∧ Ext w w' := by
  obtain ⟨q1, c1, rfl, _, _⟩ := hx1.shape
  obtain ⟨q2, c2, rfl, _, _⟩ := hx2.shape
  obtain ⟨qw, capw, rfl, _, _⟩ := hx.shape
  have CE := fun U (h : Ext w U) => xexamples_w U (ht.ext h) (hv.ext h)
  have RX1 := fun U (h : Ext w U) => refx_w s1 d1 n1 _ R1 U (by omega) (hx1.ext h)
  have RX2 := fun U (h : Ext w U) => refx_w s2 d2 n2 _ R2 U (by omega) (hx2.ext h)
  have T1 := fun U => xtotal_w s1 d1 n1 (.slice q1 R1.length c1) hd1 U
  have T2 := fun U r => rtotal_w s1 d1 n1 r hd1 U
  have G1 := fun U (h : Ext w U) => xget_w s z U (by omega) (ht.ext h)
  have G2 := fun U => rgetx_w s z U (by omega)
  have P1 := fun U (h : Ext w U) => xparse_w ws _ U hm.1 hm.2 (hx.ext h) (ht.ext h) (hv.ext h)
  have P2 := fun U (h : Ext w U) => rparsex_w ws _ U hm.2 (hx.ext h)
  have K1 := fun U (h : Ext w U) => xcheck_w s1 d1 n1 _ R1 U (by omega) hd1 (by omega) hf1 (hx1.ext h) (ht.ext h)
  have K2 := fun U r (h : Terms U r R1) => rcheck_w s1 d1 n1 r R1 U hs1 hd1 hf1 h
  have U1 := fun U (h : Ext w U) => xput_w s1 d1 n1 _ R1 U (by omega) hd1 (by omega) hf1 (hx1.ext h) (ht.ext h)
  have U2 := fun U r (h : Terms U r R1) => rputx_w s1 d1 n1 r R1 U hs1 hd1 hf1 h
  have X1 := fun U (h : Ext w U) => xtext_w s1 d1 n1 _ R1 U (by omega) hd1 (by omega) hf1 (hx1.ext h) (ht.ext h) (hv.ext h).tab
  have X2 := fun U r (h : Terms U r R1) => rtextx_w s1 d1 n1 r R1 U hs1 hd1 hf1 h
  have S1 := fun U (h : Ext w U) => xsame_w s1 d1 n1 _ R1 s2 d2 n2 _ R2 U hd1 hd2 (by omega) hf1 (hx1.ext h) (hx2.ext h)
  have S2 := fun U r r2 (h : Terms U r R1) (h2 : Terms U r2 R2) => rsame_w s1 d1 n1 r R1 s2 d2 n2 r2 R2 U hd1 hd2 (by omega) hf1 h h2
  have VV := fun U => refv11_w (vOr (vtimesOk d1 (nat64 n1.1)) (vtimes d1 (nat64 n1.1))) U
  have tok : OkV (vOr (vtimesOk d1 (nat64 n1.1)) (vtimes d1 (nat64 n1.1))) := by
    unfold vOr
    split
    · exact vtimes_okV (by assumption)
    · exact okV_no
  have qn := fun U => run_neq_vals (P := Tryz.prog) Tryz.underlying30 Tryz.underlying22 (by kernel_rfl) tok tok U
  simp only [decide_true, Bool.not_true] at qn
  have RXg := fun (a : ByteArray) (d : Vc) (m : Nums3) (v : Value) (R : List RowS) U (hR : R.length ≤ 4) (h : Terms U v R) => refx_w a d m v R U (by omega) h
  have Sg := fun (a : ByteArray) (d : Vc) (m : Nums3) (S : List TermS) (R Q : List RowS) (hR : R.map rowT = S) (hQ : Q.map rowT = S) (ho : OkV d) (hl : R.length ≤ 4) (hf : FitR R) U (r v : Value) (h : Terms U r R) (h2 : Terms U v Q) => same_self (rsame_w a d m r R a d m v Q U ho ho (by omega) hf h h2) hR hQ
  generalize vOr (vtimesOk d1 (nat64 n1.1)) (vtimes d1 (nat64 n1.1)) = tv at *
  generalize vtimesOk d1 (nat64 n1.1) = tk at *
  generalize getX s.data.toList z = G at *
  generalize parseX (bytesOf ws) = Q at *
  obtain ⟨⟨s3, d3, n3, S3⟩, nx, ok⟩ := G
  obtain ⟨⟨s5, d5, n5, S5⟩, pk⟩ := Q
  generalize chkX (s1, d1, n1, R1.map rowT) = ck at *
  generalize (⟨(putX (s1, d1, n1, R1.map rowT)).toArray⟩ : ByteArray) = pt at *
  generalize (⟨(textX (s1, d1, n1, R1.map rowT)).toArray⟩ : ByteArray) = tx at *
  generalize sameX (s1, d1, n1, R1.map rowT) (s2, d2, n2, R2.map rowT) = sm at *
  unfold GotX at G1 G2
  unfold GotP at P1 P2
  simp only at G1 G2 P1 P2
  obtain ⟨D1, hD1⟩ : ∃ D, vG d1 = D := ⟨_, rfl⟩
  obtain ⟨D2, hD2⟩ : ∃ D, vG d2 = D := ⟨_, rfl⟩
  obtain ⟨D3, hD3⟩ : ∃ D, vG d3 = D := ⟨_, rfl⟩
  obtain ⟨D5, hD5⟩ : ∃ D, vG d5 = D := ⟨_, rfl⟩
  obtain ⟨T, hT⟩ : ∃ D, vG tv = D := ⟨_, rfl⟩
  have RX3 := RXg s3 d3 n3
  have RX5 := RXg s5 d5 n5
  have SX3 := Sg s3 d3 n3 S3
  have SX5 := Sg s5 d5 n5 S5
  clear RXg Sg
  unfold vVal vF at VV T1 T2 qn
  rw [hD1] at RX1 T1 T2 K1 K2 U1 U2 X1 X2 S1 S2
  rw [hD2] at RX2 S1 S2
  rw [hD3] at G1 G2 RX3 SX3
  rw [hD5] at P1 P2 RX5 SX5
  rw [hT] at VV T1 T2 qn
  unfold spVal at *
  rw [hD1, hD2]
  clear hD1 hD2 hD3 hD5 hT tok hx1 hx2 hx ht hv
  replace CE := Lib.hid CE
  replace RX1 := Lib.hid RX1
  replace RX2 := Lib.hid RX2
  replace T1 := Lib.hid T1
  replace T2 := Lib.hid T2
  replace G1 := Lib.hid G1
  replace G2 := Lib.hid G2
  replace P1 := Lib.hid P1
  replace P2 := Lib.hid P2
  replace K1 := Lib.hid K1
  replace K2 := Lib.hid K2
  replace U1 := Lib.hid U1
  replace U2 := Lib.hid U2
  replace X1 := Lib.hid X1
  replace X2 := Lib.hid X2
  replace S1 := Lib.hid S1
  replace S2 := Lib.hid S2
  replace VV := Lib.hid VV
  replace RX3 := Lib.hid RX3
  replace RX5 := Lib.hid RX5
  replace SX3 := Lib.hid SX3
  replace SX5 := Lib.hid SX5
  have bA := XBox.new w s1 D1 n1 (.slice q1 R1.length c1) 27
  have hE : Ext w (w.alloc (.cells #[.string s1, .int .u64 (D1 0 : Nat), .int .u64 (D1 1 : Nat), .int .u64 (D1 2 : Nat), .int .u64 (D1 3 : Nat), .int .i64 n1.1, .int .i64 n1.2.1, .int .i64 n1.2.2, .slice q1 R1.length c1] 27)) := (Ext.refl _).alloc _
  generalize hW1 : w.alloc (.cells #[.string s1, .int .u64 (D1 0 : Nat), .int .u64 (D1 1 : Nat), .int .u64 (D1 2 : Nat), .int .u64 (D1 3 : Nat), .int .i64 n1.1, .int .i64 n1.2.1, .int .i64 n1.2.2, .slice q1 R1.length c1] 27) = W1 at *
  have bB := XBox.new W1 s2 D2 n2 (.slice q2 R2.length c2) 27
  have e2 : Ext W1 (W1.alloc (.cells #[.string s2, .int .u64 (D2 0 : Nat), .int .u64 (D2 1 : Nat), .int .u64 (D2 2 : Nat), .int .u64 (D2 3 : Nat), .int .i64 n2.1, .int .i64 n2.2.1, .int .i64 n2.2.2, .slice q2 R2.length c2] 27)) := (Ext.refl _).alloc _
  generalize hW2 : W1.alloc (.cells #[.string s2, .int .u64 (D2 0 : Nat), .int .u64 (D2 1 : Nat), .int .u64 (D2 2 : Nat), .int .u64 (D2 3 : Nat), .int .i64 n2.1, .int .i64 n2.2.1, .int .i64 n2.2.2, .slice q2 R2.length c2] 27) = W2 at *
  replace hE := hE.trans e2
  replace bA := bA.ext e2
  clear e2
  go_enter Tryz.func3, Tryz.ntmps3
  go_wp2_with fail
  clear hW1 hW2
  generalize w.heap.size = nA at *
  generalize W1.heap.size = nB at *
  refine (CE.out _ hE).mono ?_; rintro e w1 ⟨rfl, h1⟩
  replace bA := bA.ext h1
  replace bB := bB.ext h1
  replace hE := hE.trans h1
  clear h1
  obtain ⟨bAl, bA0, bA1, bA2, bA3, bA4, bA5, bA6, bA7, bA8⟩ := bA.cells
  go_wp2_with fail
  clear bAl bA0 bA1 bA2 bA3 bA4 bA5 bA6 bA7 bA8
  refine (RX1.out _ hE).mono ?_; rintro e w2 ⟨r1, rfl, hr1, h2⟩
  replace bA := bA.ext h2
  replace bB := bB.ext h2
  replace hE := hE.trans h2
  clear h2
  obtain ⟨qr1, cr1, rfl, _, _⟩ := hr1.shape
  have bR := XBox.new w2 s1 D1 n1 (.slice qr1 R1.length cr1) 33
  have hEn := (Ext.refl w2).alloc (.cells #[.string s1, .int .u64 (D1 0 : Nat), .int .u64 (D1 1 : Nat), .int .u64 (D1 2 : Nat), .int .u64 (D1 3 : Nat), .int .i64 n1.1, .int .i64 n1.2.1, .int .i64 n1.2.2, .slice qr1 R1.length cr1] 33)
  replace bA := bA.ext hEn
  replace bB := bB.ext hEn
  replace hr1 := hr1.ext hEn
  replace hE := hE.trans hEn
  clear hEn
  go_upto_region 5 with fail
  generalize w2.alloc (.cells #[.string s1, .int .u64 (D1 0 : Nat), .int .u64 (D1 1 : Nat), .int .u64 (D1 2 : Nat), .int .u64 (D1 3 : Nat), .int .i64 n1.1, .int .i64 n1.2.1, .int .i64 n1.2.2, .slice qr1 R1.length cr1] 33) = w3 at *
  generalize w2.heap.size = nbR at *
  obtain ⟨bAl, bA0, bA1, bA2, bA3, bA4, bA5, bA6, bA7, bA8⟩ := bA.cells
  go_wp2_with fail
  clear bAl bA0 bA1 bA2 bA3 bA4 bA5 bA6 bA7 bA8
  refine (T1.out _).mono ?_; rintro e w4 ⟨rfl, h4⟩
  replace bA := bA.ext h4
  replace bB := bB.ext h4
  replace hr1 := hr1.ext h4
  replace bR := bR.ext h4
  replace hE := hE.trans h4
  clear h4
  have bV := VBox.new w4 T 24
  have hEn := (Ext.refl w4).alloc (.cells #[.int .u64 (T 0 : Nat), .int .u64 (T 1 : Nat), .int .u64 (T 2 : Nat), .int .u64 (T 3 : Nat)] 24)
  replace bA := bA.ext hEn
  replace bB := bB.ext hEn
  replace hr1 := hr1.ext hEn
  replace bR := bR.ext hEn
  replace hE := hE.trans hEn
  clear hEn
  go_upto_region 6 with fail
  generalize w4.alloc (.cells #[.int .u64 (T 0 : Nat), .int .u64 (T 1 : Nat), .int .u64 (T 2 : Nat), .int .u64 (T 3 : Nat)] 24) = w5 at *
  generalize w4.heap.size = nbV at *
  obtain ⟨bRl, bR0, bR1, bR2, bR3, bR4, bR5, bR6, bR7, bR8⟩ := bR.cells
  go_wp2_with fail
  clear bRl bR0 bR1 bR2 bR3 bR4 bR5 bR6 bR7 bR8
  refine (T2.out _ _).mono ?_; rintro e w6 ⟨rfl, h6⟩
  replace bA := bA.ext h6
  replace bB := bB.ext h6
  replace hr1 := hr1.ext h6
  replace bR := bR.ext h6
  replace bV := bV.ext h6
  replace hE := hE.trans h6
  clear h6
  have bVr := VBox.new w6 T 30
  have hEn := (Ext.refl w6).alloc (.cells #[.int .u64 (T 0 : Nat), .int .u64 (T 1 : Nat), .int .u64 (T 2 : Nat), .int .u64 (T 3 : Nat)] 30)
  replace bA := bA.ext hEn
  replace bB := bB.ext hEn
  replace hr1 := hr1.ext hEn
  replace bR := bR.ext hEn
  replace bV := bV.ext hEn
  replace hE := hE.trans hEn
  clear hEn
  go_upto_region 7 with fail
  generalize w6.alloc (.cells #[.int .u64 (T 0 : Nat), .int .u64 (T 1 : Nat), .int .u64 (T 2 : Nat), .int .u64 (T 3 : Nat)] 30) = w7 at *
  generalize w6.heap.size = nbVr at *
  go_wp2_with fail
  refine (G1.out _ hE).mono ?_; rintro e w8 ⟨⟨v3, R3, rfl, hy3, hf3, hl3, hT3, ho3⟩, h8⟩
  replace bA := bA.ext h8
  replace bB := bB.ext h8
  replace hr1 := hr1.ext h8
  replace bR := bR.ext h8
  replace bV := bV.ext h8
  replace bVr := bVr.ext h8
  replace hE := hE.trans h8
  clear h8
  obtain ⟨q3, c3, rfl, _, _⟩ := hy3.shape
  have bX := XBox.new w8 s3 D3 n3 (.slice q3 R3.length c3) 27
  have hEn := (Ext.refl w8).alloc (.cells #[.string s3, .int .u64 (D3 0 : Nat), .int .u64 (D3 1 : Nat), .int .u64 (D3 2 : Nat), .int .u64 (D3 3 : Nat), .int .i64 n3.1, .int .i64 n3.2.1, .int .i64 n3.2.2, .slice q3 R3.length c3] 27)
  replace bA := bA.ext hEn
  replace bB := bB.ext hEn
  replace hr1 := hr1.ext hEn
  replace bR := bR.ext hEn
  replace bV := bV.ext hEn
  replace bVr := bVr.ext hEn
  replace hy3 := hy3.ext hEn
  replace hE := hE.trans hEn
  clear hEn
  go_upto_region 8 with fail
  generalize w8.alloc (.cells #[.string s3, .int .u64 (D3 0 : Nat), .int .u64 (D3 1 : Nat), .int .u64 (D3 2 : Nat), .int .u64 (D3 3 : Nat), .int .i64 n3.1, .int .i64 n3.2.1, .int .i64 n3.2.2, .slice q3 R3.length c3] 27) = w9 at *
  generalize w8.heap.size = nbX at *
  go_wp2_with fail
  refine (G2.out _).mono ?_; rintro e w10 ⟨⟨v4, R4, rfl, hy4, hf4, hl4, hT4, ho4⟩, h10⟩
  replace bA := bA.ext h10
  replace bB := bB.ext h10
  replace hr1 := hr1.ext h10
  replace bR := bR.ext h10
  replace bV := bV.ext h10
  replace bVr := bVr.ext h10
  replace hy3 := hy3.ext h10
  replace bX := bX.ext h10
  replace hE := hE.trans h10
  clear h10
  obtain ⟨q4, c4, rfl, _, _⟩ := hy4.shape
  clear hf4 hl4 ho4
  have bY := XBox.new w10 s3 D3 n3 (.slice q4 R4.length c4) 33
  have hEn := (Ext.refl w10).alloc (.cells #[.string s3, .int .u64 (D3 0 : Nat), .int .u64 (D3 1 : Nat), .int .u64 (D3 2 : Nat), .int .u64 (D3 3 : Nat), .int .i64 n3.1, .int .i64 n3.2.1, .int .i64 n3.2.2, .slice q4 R4.length c4] 33)
  replace bA := bA.ext hEn
  replace bB := bB.ext hEn
  replace hr1 := hr1.ext hEn
  replace bR := bR.ext hEn
  replace bV := bV.ext hEn
  replace bVr := bVr.ext hEn
  replace hy3 := hy3.ext hEn
  replace bX := bX.ext hEn
  replace hy4 := hy4.ext hEn
  replace hE := hE.trans hEn
  clear hEn
  go_upto_region 9 with fail
  generalize w10.alloc (.cells #[.string s3, .int .u64 (D3 0 : Nat), .int .u64 (D3 1 : Nat), .int .u64 (D3 2 : Nat), .int .u64 (D3 3 : Nat), .int .i64 n3.1, .int .i64 n3.2.1, .int .i64 n3.2.2, .slice q4 R4.length c4] 33) = w11 at *
  generalize w10.heap.size = nbY at *
  go_wp2_with fail
  refine (P1.out _ hE).mono ?_; rintro e w12 ⟨⟨v5, R5, rfl, hy5, hf5, hl5, hT5, ho5⟩, h12⟩
  replace bA := bA.ext h12
  replace bB := bB.ext h12
  replace hr1 := hr1.ext h12
  replace bR := bR.ext h12
  replace bV := bV.ext h12
  replace bVr := bVr.ext h12
  replace hy3 := hy3.ext h12
  replace bX := bX.ext h12
  replace hy4 := hy4.ext h12
  replace bY := bY.ext h12
  replace hE := hE.trans h12
  clear h12
  obtain ⟨q5, c5, rfl, _, _⟩ := hy5.shape
  have bP := XBox.new w12 s5 D5 n5 (.slice q5 R5.length c5) 27
  have hEn := (Ext.refl w12).alloc (.cells #[.string s5, .int .u64 (D5 0 : Nat), .int .u64 (D5 1 : Nat), .int .u64 (D5 2 : Nat), .int .u64 (D5 3 : Nat), .int .i64 n5.1, .int .i64 n5.2.1, .int .i64 n5.2.2, .slice q5 R5.length c5] 27)
  replace bA := bA.ext hEn
  replace bB := bB.ext hEn
  replace hr1 := hr1.ext hEn
  replace bR := bR.ext hEn
  replace bV := bV.ext hEn
  replace bVr := bVr.ext hEn
  replace hy3 := hy3.ext hEn
  replace bX := bX.ext hEn
  replace hy4 := hy4.ext hEn
  replace bY := bY.ext hEn
  replace hy5 := hy5.ext hEn
  replace hE := hE.trans hEn
  clear hEn
  go_upto_region 10 with fail
  generalize w12.alloc (.cells #[.string s5, .int .u64 (D5 0 : Nat), .int .u64 (D5 1 : Nat), .int .u64 (D5 2 : Nat), .int .u64 (D5 3 : Nat), .int .i64 n5.1, .int .i64 n5.2.1, .int .i64 n5.2.2, .slice q5 R5.length c5] 27) = w13 at *
  generalize w12.heap.size = nbP at *
  go_wp2_with fail
  refine (P2.out _ hE).mono ?_; rintro e w14 ⟨⟨v6, R6, rfl, hy6, hf6, hl6, hT6, ho6⟩, h14⟩
  replace bA := bA.ext h14
  replace bB := bB.ext h14
  replace hr1 := hr1.ext h14
  replace bR := bR.ext h14
  replace bV := bV.ext h14
  replace bVr := bVr.ext h14
  replace hy3 := hy3.ext h14
  replace bX := bX.ext h14
  replace hy4 := hy4.ext h14
  replace bY := bY.ext h14
  replace hy5 := hy5.ext h14
  replace bP := bP.ext h14
  replace hE := hE.trans h14
  clear h14
  obtain ⟨q6, c6, rfl, _, _⟩ := hy6.shape
  clear hf6 hl6 ho6
  replace SX3 := Lib.hid (SX3.out R3 R4 hT3 hT4 ho3 hl3 hf3)
  replace SX5 := Lib.hid (SX5.out R5 R6 hT5 hT6 ho5 hl5 hf5)
  clear hT3 hT4 hT5 hT6 ho3 ho5 hf3 hf5
  have bQ := XBox.new w14 s5 D5 n5 (.slice q6 R6.length c6) 33
  have hEn := (Ext.refl w14).alloc (.cells #[.string s5, .int .u64 (D5 0 : Nat), .int .u64 (D5 1 : Nat), .int .u64 (D5 2 : Nat), .int .u64 (D5 3 : Nat), .int .i64 n5.1, .int .i64 n5.2.1, .int .i64 n5.2.2, .slice q6 R6.length c6] 33)
  replace bA := bA.ext hEn
  replace bB := bB.ext hEn
  replace hr1 := hr1.ext hEn
  replace bR := bR.ext hEn
  replace bV := bV.ext hEn
  replace bVr := bVr.ext hEn
  replace hy3 := hy3.ext hEn
  replace bX := bX.ext hEn
  replace hy4 := hy4.ext hEn
  replace bY := bY.ext hEn
  replace hy5 := hy5.ext hEn
  replace bP := bP.ext hEn
  replace hy6 := hy6.ext hEn
  replace hE := hE.trans hEn
  clear hEn
  go_upto_region 11 with fail
  generalize w14.alloc (.cells #[.string s5, .int .u64 (D5 0 : Nat), .int .u64 (D5 1 : Nat), .int .u64 (D5 2 : Nat), .int .u64 (D5 3 : Nat), .int .i64 n5.1, .int .i64 n5.2.1, .int .i64 n5.2.2, .slice q6 R6.length c6] 33) = wb at *
  generalize w14.heap.size = nbQ at *
  have g3 := Lib.hid hy3
  have g4 := Lib.hid hy4
  have g5 := Lib.hid hy5
  have g6 := Lib.hid hy6
  clear hy3 hy4 hy5 hy6
  obtain ⟨bVl, bV0, bV1, bV2, bV3, _, _, _, _⟩ := bV.four
  obtain ⟨bVrl, bVr0, bVr1, bVr2, bVr3, _, _, _, _⟩ := bVr.four
  obtain ⟨bXl, bX0, bX1, bX2, bX3, bX4, bX5, bX6, bX7, bX8⟩ := bX.cells
  obtain ⟨bYl, bY0, bY1, bY2, bY3, bY4, bY5, bY6, bY7, bY8⟩ := bY.cells
  obtain ⟨bPl, bP0, bP1, bP2, bP3, bP4, bP5, bP6, bP7, bP8⟩ := bP.cells
  obtain ⟨bQl, bQ0, bQ1, bQ2, bQ3, bQ4, bQ5, bQ6, bQ7, bQ8⟩ := bQ.cells
  try simp only [Act.put, List.setIfInBounds_toArray, List.set_cons_succ, List.set_cons_zero]
  refine Dm.wp_region_ext 38 (Dm.bits 38 0) (Ext.refl wb) (by kernel_rfl) (by kernel_rfl) (by kernel_rfl) ?_
  refine Dm.wpE_take (i := 0) (listed' := (Dm.bits 38 1)) (by kernel_rfl) (by kernel_rfl) rfl (fun _ _ _ _ h => h) ?_; apply Exists.intro; refine And.intro (fun x => ?_) ?_
  · go_big_quiet_step ((go_at_call 17; with_reducible exact Calls.quietE (VV.out _))); exact wpQuiet_nil rfl
  refine Dm.wpE_take (i := 1) (listed' := (Dm.bits 38 3)) (by kernel_rfl) (by kernel_rfl) rfl (fun _ _ _ _ h => h) ?_; apply Exists.intro; refine And.intro (fun x => ?_) ?_
  · go_big_quiet_step ((go_at_call 17; with_reducible exact Calls.quietE (VV.out _))); exact wpQuiet_nil rfl
  refine Dm.wpE_take (i := 2) (listed' := (Dm.bits 38 7)) (by kernel_rfl) (by kernel_rfl) rfl (fun _ _ _ _ h => h) ?_; apply Exists.intro; refine And.intro (fun x => ?_) ?_
  · go_big_quiet_step ((go_at_call 17; with_reducible exact Calls.quietE (VV.out _))); exact wpQuiet_nil rfl
  refine Dm.wpE_take (i := 3) (listed' := (Dm.bits 38 15)) (by kernel_rfl) (by kernel_rfl) rfl (fun _ _ _ _ h => h) ?_; apply Exists.intro; refine And.intro (fun x => ?_) ?_
  · go_big_quiet_step ((go_at_call 17; with_reducible exact Calls.quietE (VV.out _))); exact wpQuiet_nil rfl
  refine Dm.wpE_take (i := 4) (listed' := (Dm.bits 38 31)) (by kernel_rfl) (by kernel_rfl) rfl (fun _ _ _ _ h => h) ?_; apply Exists.intro; refine And.intro (fun x => ?_) ?_
  · go_big_quiet_step ((go_at_call 17; with_reducible exact Calls.quietE (VV.out _))); exact wpQuiet_nil rfl
  refine Dm.wpE_take (i := 5) (listed' := (Dm.bits 38 63)) (by kernel_rfl) (by kernel_rfl) rfl (fun _ _ _ _ h => h) ?_; apply Exists.intro; refine And.intro (fun x => ?_) ?_
  · go_big_quiet_step ((go_at_call 17; with_reducible exact Calls.quietE (VV.out _))); exact wpQuiet_nil rfl
  refine Dm.wpE_take (i := 6) (listed' := (Dm.bits 38 127)) (by kernel_rfl) (by kernel_rfl) rfl (fun _ _ _ _ h => h) ?_; apply Exists.intro; refine And.intro (fun x => ?_) ?_
  · go_big_quiet_step ((go_at_call 17; with_reducible exact Calls.quietE (VV.out _))); exact wpQuiet_nil rfl
  refine Dm.wpE_take (i := 7) (listed' := (Dm.bits 38 255)) (by kernel_rfl) (by kernel_rfl) rfl (fun _ _ _ _ h => h) ?_; apply Exists.intro; refine And.intro (fun x => ?_) ?_
  · go_big_quiet_step ((go_at_call 17; with_reducible exact Calls.quietE (VV.out _))); exact wpQuiet_nil rfl
  refine Dm.wpE_take (i := 8) (listed' := (Dm.bits 38 511)) (by kernel_rfl) (by kernel_rfl) rfl (fun _ _ _ _ h => h) ?_; apply Exists.intro; refine And.intro (fun x => ?_) ?_
  · go_big_quiet_step ((go_at_call 17; with_reducible exact Calls.quietE (VV.out _))); exact wpQuiet_nil rfl
  refine Dm.wpE_take (i := 9) (listed' := (Dm.bits 38 1023)) (by kernel_rfl) (by kernel_rfl) rfl (fun _ _ _ _ h => h) ?_; apply Exists.intro; refine And.intro (fun x => ?_) ?_
  · go_big_quiet_step ((go_at_call 17; with_reducible exact Calls.quietE (VV.out _))); exact wpQuiet_nil rfl
  refine Dm.wpE_take (i := 10) (listed' := (Dm.bits 38 2047)) (by kernel_rfl) (by kernel_rfl) rfl (fun _ _ _ _ h => h) ?_; apply Exists.intro; refine And.intro (fun x => ?_) ?_
  · go_big_quiet_step ((go_at_call 17; with_reducible exact Calls.quietE (VV.out _))); exact wpQuiet_nil rfl
  refine Dm.wpE_take (i := 12) (listed' := (Dm.bits 38 6143)) (by kernel_rfl) (by kernel_rfl) rfl (fun _ _ _ _ h => h) ?_; apply Exists.intro; refine And.intro (fun x => ?_) ?_
  · go_big_quiet_step ((go_at_call 17; with_reducible exact Calls.quietE (VV.out _))); exact wpQuiet_nil rfl
  refine Dm.wpE_one (i := 11) (listed' := (Dm.bits 38 8191)) (by kernel_rfl) (by kernel_rfl) rfl (Ext.refl wb) (fun w1a hx1a => ?_)
  have hX1a := Ext.trans (Ext.refl wb) hx1a
  go_wp2_with (go_at_call 10; go_must (refine (RX3.out _ _ w1a hl3 (g3.out.ext hX1a)).mono ?_; rintro e w1b ⟨rx, rfl, hrx, hs1⟩))
  have hX1b := Ext.trans hX1a hs1
  try simp only [Exit.then, Act.put, List.setIfInBounds_toArray, List.set_cons_succ, List.set_cons_zero]
  refine Dm.wpE_one (i := 13) (listed' := (Dm.bits 38 16383)) (by kernel_rfl) (by kernel_rfl) rfl hX1b (fun w2a hx2a => ?_)
  have hX2a := Ext.trans hX1b hx2a
  replace hrx := hrx.ext hx2a
  go_wp2_with (go_at_call 18; go_must (refine (SX3.out w2a _ _ hrx (g4.out.ext hX2a)).mono ?_; rintro e w2b ⟨rfl, hs2⟩))
  clear hrx
  have hX2b := Ext.trans hX2a hs2
  try simp only [Exit.then, Act.put, List.setIfInBounds_toArray, List.set_cons_succ, List.set_cons_zero]
  refine Dm.wpE_take (i := 14) (listed' := (Dm.bits 38 32767)) (by kernel_rfl) (by kernel_rfl) rfl (fun _ _ _ _ h => h) ?_; apply Exists.intro; refine And.intro (fun x => ?_) ?_
  · go_big_quiet_step ((go_at_call 17; with_reducible exact Calls.quietE (VV.out _))); exact wpQuiet_nil rfl
  refine Dm.wpE_take (i := 15) (listed' := (Dm.bits 38 65535)) (by kernel_rfl) (by kernel_rfl) rfl (fun _ _ _ _ h => h) ?_; apply Exists.intro; refine And.intro (fun x => ?_) ?_
  · go_big_quiet_step ((go_at_call 17; with_reducible exact Calls.quietE (VV.out _))); exact wpQuiet_nil rfl
  refine Dm.wpE_take (i := 16) (listed' := (Dm.bits 38 131071)) (by kernel_rfl) (by kernel_rfl) rfl (fun _ _ _ _ h => h) ?_; apply Exists.intro; refine And.intro (fun x => ?_) ?_
  · go_big_quiet_step ((go_at_call 17; with_reducible exact Calls.quietE (VV.out _))); exact wpQuiet_nil rfl
  refine Dm.wpE_take (i := 17) (listed' := (Dm.bits 38 262143)) (by kernel_rfl) (by kernel_rfl) rfl (fun _ _ _ _ h => h) ?_; apply Exists.intro; refine And.intro (fun x => ?_) ?_
  · go_big_quiet_step ((go_at_call 17; with_reducible exact Calls.quietE (VV.out _))); exact wpQuiet_nil rfl
  refine Dm.wpE_take (i := 18) (listed' := (Dm.bits 38 524287)) (by kernel_rfl) (by kernel_rfl) rfl (fun _ _ _ _ h => h) ?_; apply Exists.intro; refine And.intro (fun x => ?_) ?_
  · go_big_quiet_step ((go_at_call 17; with_reducible exact Calls.quietE (VV.out _))); exact wpQuiet_nil rfl
  refine Dm.wpE_take (i := 19) (listed' := (Dm.bits 38 1048575)) (by kernel_rfl) (by kernel_rfl) rfl (fun _ _ _ _ h => h) ?_; apply Exists.intro; refine And.intro (fun x => ?_) ?_
  · go_big_quiet_step ((go_at_call 17; with_reducible exact Calls.quietE (VV.out _))); exact wpQuiet_nil rfl
  refine Dm.wpE_take (i := 20) (listed' := (Dm.bits 38 2097151)) (by kernel_rfl) (by kernel_rfl) rfl (fun _ _ _ _ h => h) ?_; apply Exists.intro; refine And.intro (fun x => ?_) ?_
  · go_big_quiet_step ((go_at_call 17; with_reducible exact Calls.quietE (VV.out _))); exact wpQuiet_nil rfl
  refine Dm.wpE_take (i := 21) (listed' := (Dm.bits 38 4194303)) (by kernel_rfl) (by kernel_rfl) rfl (fun _ _ _ _ h => h) ?_; apply Exists.intro; refine And.intro (fun x => ?_) ?_
  · go_big_quiet_step ((go_at_call 17; with_reducible exact Calls.quietE (VV.out _))); exact wpQuiet_nil rfl
  refine Dm.wpE_take (i := 22) (listed' := (Dm.bits 38 8388607)) (by kernel_rfl) (by kernel_rfl) rfl (fun _ _ _ _ h => h) ?_; apply Exists.intro; refine And.intro (fun x => ?_) ?_
  · go_big_quiet_step ((go_at_call 17; with_reducible exact Calls.quietE (VV.out _))); exact wpQuiet_nil rfl
  refine Dm.wpE_take (i := 23) (listed' := (Dm.bits 38 16777215)) (by kernel_rfl) (by kernel_rfl) rfl (fun _ _ _ _ h => h) ?_; apply Exists.intro; refine And.intro (fun x => ?_) ?_
  · go_big_quiet_step ((go_at_call 17; with_reducible exact Calls.quietE (VV.out _))); exact wpQuiet_nil rfl
  refine Dm.wpE_take (i := 24) (listed' := (Dm.bits 38 33554431)) (by kernel_rfl) (by kernel_rfl) rfl (fun _ _ _ _ h => h) ?_; apply Exists.intro; refine And.intro (fun x => ?_) ?_
  · go_big_quiet_step ((go_at_call 17; with_reducible exact Calls.quietE (VV.out _))); exact wpQuiet_nil rfl
  refine Dm.wpE_take (i := 25) (listed' := (Dm.bits 38 67108863)) (by kernel_rfl) (by kernel_rfl) rfl (fun _ _ _ _ h => h) ?_; apply Exists.intro; refine And.intro (fun x => ?_) ?_
  · go_big_quiet_step ((go_at_call 17; with_reducible exact Calls.quietE (VV.out _))); exact wpQuiet_nil rfl
  refine Dm.wpE_take (i := 26) (listed' := (Dm.bits 38 134217727)) (by kernel_rfl) (by kernel_rfl) rfl (fun _ _ _ _ h => h) ?_; apply Exists.intro; refine And.intro (fun x => ?_) ?_
  · go_big_quiet_step ((go_at_call 17; with_reducible exact Calls.quietE (VV.out _))); exact wpQuiet_nil rfl
  refine Dm.wpE_take (i := 27) (listed' := (Dm.bits 38 268435455)) (by kernel_rfl) (by kernel_rfl) rfl (fun _ _ _ _ h => h) ?_; apply Exists.intro; refine And.intro (fun x => ?_) ?_
  · go_big_quiet_step ((go_at_call 17; with_reducible exact Calls.quietE (VV.out _))); exact wpQuiet_nil rfl
  refine Dm.wpE_take (i := 29) (listed' := (Dm.bits 38 805306367)) (by kernel_rfl) (by kernel_rfl) rfl (fun _ _ _ _ h => h) ?_; apply Exists.intro; refine And.intro (fun x => ?_) ?_
  · go_big_quiet_step ((go_at_call 17; with_reducible exact Calls.quietE (VV.out _))); exact wpQuiet_nil rfl
  refine Dm.wpE_one (i := 28) (listed' := (Dm.bits 38 1073741823)) (by kernel_rfl) (by kernel_rfl) rfl hX2b (fun w3a hx3a => ?_)
  have hX3a := Ext.trans hX2b hx3a
  go_wp2_with (go_at_call 10; go_must (refine (RX5.out _ _ w3a hl5 (g5.out.ext hX3a)).mono ?_; rintro e w3b ⟨rp, rfl, hrp, hs3⟩))
  have hX3b := Ext.trans hX3a hs3
  try simp only [Exit.then, Act.put, List.setIfInBounds_toArray, List.set_cons_succ, List.set_cons_zero]
  refine Dm.wpE_one (i := 30) (listed' := (Dm.bits 38 2147483647)) (by kernel_rfl) (by kernel_rfl) rfl hX3b (fun w4a hx4a => ?_)
  have hX4a := Ext.trans hX3b hx4a
  replace hrp := hrp.ext hx4a
  go_wp2_with (go_at_call 18; go_must (refine (SX5.out w4a _ _ hrp (g6.out.ext hX4a)).mono ?_; rintro e w4b ⟨rfl, hs4⟩))
  clear hrp
  have hX4b := Ext.trans hX4a hs4
  try simp only [Exit.then, Act.put, List.setIfInBounds_toArray, List.set_cons_succ, List.set_cons_zero]
  refine Dm.wpE_take (i := 31) (listed' := (Dm.bits 38 4294967295)) (by kernel_rfl) (by kernel_rfl) rfl (fun _ _ _ _ h => h) ?_; apply Exists.intro; refine And.intro (fun x => ?_) ?_
  · go_big_quiet_step ((go_at_call 17; with_reducible exact Calls.quietE (VV.out _))); exact wpQuiet_nil rfl
  refine Dm.wpE_take (i := 32) (listed' := (Dm.bits 38 8589934591)) (by kernel_rfl) (by kernel_rfl) rfl (fun _ _ _ _ h => h) ?_; apply Exists.intro; refine And.intro (fun x => ?_) ?_
  · go_big_quiet_step ((go_at_call 17; with_reducible exact Calls.quietE (VV.out _))); exact wpQuiet_nil rfl
  refine Dm.wpE_take (i := 33) (listed' := (Dm.bits 38 17179869183)) (by kernel_rfl) (by kernel_rfl) rfl (fun _ _ _ _ h => h) ?_; apply Exists.intro; refine And.intro (fun x => ?_) ?_
  · go_big_quiet_step ((go_at_call 17; with_reducible exact Calls.quietE (VV.out _))); exact wpQuiet_nil rfl
  refine Dm.wpE_take (i := 34) (listed' := (Dm.bits 38 34359738367)) (by kernel_rfl) (by kernel_rfl) rfl (fun _ _ _ _ h => h) ?_; apply Exists.intro; refine And.intro (fun x => ?_) ?_
  · go_big_quiet_step ((go_at_call 17; with_reducible exact Calls.quietE (VV.out _))); exact wpQuiet_nil rfl
  refine Dm.wpE_take (i := 35) (listed' := (Dm.bits 38 68719476735)) (by kernel_rfl) (by kernel_rfl) rfl (fun _ _ _ _ h => h) ?_; apply Exists.intro; refine And.intro (fun x => ?_) ?_
  · go_big_quiet_step ((go_at_call 17; with_reducible exact Calls.quietE (VV.out _))); exact wpQuiet_nil rfl
  refine Dm.wpE_take (i := 36) (listed' := (Dm.bits 38 137438953471)) (by kernel_rfl) (by kernel_rfl) rfl (fun _ _ _ _ h => h) ?_; apply Exists.intro; refine And.intro (fun x => ?_) ?_
  · go_big_quiet_step ((go_at_call 17; with_reducible exact Calls.quietE (VV.out _))); exact wpQuiet_nil rfl
  refine Dm.wpE_take (i := 37) (listed' := (Dm.bits 38 274877906943)) (by kernel_rfl) (by kernel_rfl) rfl (fun _ _ _ _ h => h) ?_; apply Exists.intro; refine And.intro (fun x => ?_) ?_
  · go_big_quiet_step ((go_at_call 17; with_reducible exact Calls.quietE (VV.out _))); exact wpQuiet_nil rfl
  refine Dm.wpE_done (by kernel_rfl) hX4b (fun w5a hx5a => ?_)
  have hX5a := Ext.trans hX4b hx5a
  clear bVl bV0 bV1 bV2 bV3 bVrl bVr0 bVr1 bVr2 bVr3 bXl bX0 bX1 bX2 bX3 bX4 bX5 bX6 bX7 bX8 bYl bY0 bY1 bY2 bY3 bY4 bY5 bY6 bY7 bY8 bPl bP0 bP1 bP2 bP3 bP4 bP5 bP6 bP7 bP8 bQl bQ0 bQ1 bQ2 bQ3 bQ4 bQ5 bQ6 bQ7 bQ8
  clear bV bVr bX bY bP bQ g3 g4 g5 g6 SX3 SX5 RX3 RX5 VV qn
  replace bA := bA.ext hX5a
  replace bB := bB.ext hX5a
  replace bR := bR.ext hX5a
  replace hr1 := hr1.ext hX5a
  replace hE := hE.trans hX5a
  clear hX5a
  go_upto_region 13 with fail
  generalize w5a = wf at *
  obtain ⟨bAl, bA0, bA1, bA2, bA3, bA4, bA5, bA6, bA7, bA8⟩ := bA.cells
  obtain ⟨bBl, bB0, bB1, bB2, bB3, bB4, bB5, bB6, bB7, bB8⟩ := bB.cells
  obtain ⟨bRl, bR0, bR1, bR2, bR3, bR4, bR5, bR6, bR7, bR8⟩ := bR.cells
  try simp only [Act.put, List.setIfInBounds_toArray, List.set_cons_succ, List.set_cons_zero]
  refine Dm.wp_region_ext 33 (Dm.bits 33 0) (Ext.refl wf) (by kernel_rfl) (by kernel_rfl) (by kernel_rfl) ?_
  refine Dm.wpE_take (i := 0) (listed' := (Dm.bits 33 1)) (by kernel_rfl) (by kernel_rfl) rfl (fun _ _ _ _ h => h) ?_; apply Exists.intro; refine And.intro (fun x => ?_) ?_
  · go_big_quiet_step ((first | (go_at_call 19; with_reducible exact Calls.quietE (K1.out _ (hE.trans (by repeat (first | assumption | exact Ext.refl _ | refine Ext.trans ?_ (ext_grow _ _)))))) | (go_at_call 20; with_reducible exact Calls.quietE (K2.out _ _ (hr1.ext (by repeat (first | assumption | exact Ext.refl _ | refine Ext.trans ?_ (ext_grow _ _)))))) | (go_at_call 21; with_reducible exact Calls.quietE (S1.out _ (hE.trans (by repeat (first | assumption | exact Ext.refl _ | refine Ext.trans ?_ (ext_grow _ _)))))) | (go_at_call 22; with_reducible exact Calls.quietE (U1.out _ (hE.trans (by repeat (first | assumption | exact Ext.refl _ | refine Ext.trans ?_ (ext_grow _ _)))))) | (go_at_call 23; with_reducible exact Calls.quietE (U2.out _ _ (hr1.ext (by repeat (first | assumption | exact Ext.refl _ | refine Ext.trans ?_ (ext_grow _ _)))))) | (go_at_call 24; with_reducible exact Calls.quietE (X1.out _ (hE.trans (by repeat (first | assumption | exact Ext.refl _ | refine Ext.trans ?_ (ext_grow _ _)))))) | (go_at_call 25; with_reducible exact Calls.quietE (X2.out _ _ (hr1.ext (by repeat (first | assumption | exact Ext.refl _ | refine Ext.trans ?_ (ext_grow _ _)))))))); exact wpQuiet_nil rfl
  refine Dm.wpE_take (i := 1) (listed' := (Dm.bits 33 3)) (by kernel_rfl) (by kernel_rfl) rfl (fun _ _ _ _ h => h) ?_; apply Exists.intro; refine And.intro (fun x => ?_) ?_
  · go_big_quiet_step ((first | (go_at_call 19; with_reducible exact Calls.quietE (K1.out _ (hE.trans (by repeat (first | assumption | exact Ext.refl _ | refine Ext.trans ?_ (ext_grow _ _)))))) | (go_at_call 20; with_reducible exact Calls.quietE (K2.out _ _ (hr1.ext (by repeat (first | assumption | exact Ext.refl _ | refine Ext.trans ?_ (ext_grow _ _)))))) | (go_at_call 21; with_reducible exact Calls.quietE (S1.out _ (hE.trans (by repeat (first | assumption | exact Ext.refl _ | refine Ext.trans ?_ (ext_grow _ _)))))) | (go_at_call 22; with_reducible exact Calls.quietE (U1.out _ (hE.trans (by repeat (first | assumption | exact Ext.refl _ | refine Ext.trans ?_ (ext_grow _ _)))))) | (go_at_call 23; with_reducible exact Calls.quietE (U2.out _ _ (hr1.ext (by repeat (first | assumption | exact Ext.refl _ | refine Ext.trans ?_ (ext_grow _ _)))))) | (go_at_call 24; with_reducible exact Calls.quietE (X1.out _ (hE.trans (by repeat (first | assumption | exact Ext.refl _ | refine Ext.trans ?_ (ext_grow _ _)))))) | (go_at_call 25; with_reducible exact Calls.quietE (X2.out _ _ (hr1.ext (by repeat (first | assumption | exact Ext.refl _ | refine Ext.trans ?_ (ext_grow _ _)))))))); exact wpQuiet_nil rfl
  refine Dm.wpE_take (i := 2) (listed' := (Dm.bits 33 7)) (by kernel_rfl) (by kernel_rfl) rfl (fun _ _ _ _ h => h) ?_; apply Exists.intro; refine And.intro (fun x => ?_) ?_
  · go_big_quiet_step ((first | (go_at_call 19; with_reducible exact Calls.quietE (K1.out _ (hE.trans (by repeat (first | assumption | exact Ext.refl _ | refine Ext.trans ?_ (ext_grow _ _)))))) | (go_at_call 20; with_reducible exact Calls.quietE (K2.out _ _ (hr1.ext (by repeat (first | assumption | exact Ext.refl _ | refine Ext.trans ?_ (ext_grow _ _)))))) | (go_at_call 21; with_reducible exact Calls.quietE (S1.out _ (hE.trans (by repeat (first | assumption | exact Ext.refl _ | refine Ext.trans ?_ (ext_grow _ _)))))) | (go_at_call 22; with_reducible exact Calls.quietE (U1.out _ (hE.trans (by repeat (first | assumption | exact Ext.refl _ | refine Ext.trans ?_ (ext_grow _ _)))))) | (go_at_call 23; with_reducible exact Calls.quietE (U2.out _ _ (hr1.ext (by repeat (first | assumption | exact Ext.refl _ | refine Ext.trans ?_ (ext_grow _ _)))))) | (go_at_call 24; with_reducible exact Calls.quietE (X1.out _ (hE.trans (by repeat (first | assumption | exact Ext.refl _ | refine Ext.trans ?_ (ext_grow _ _)))))) | (go_at_call 25; with_reducible exact Calls.quietE (X2.out _ _ (hr1.ext (by repeat (first | assumption | exact Ext.refl _ | refine Ext.trans ?_ (ext_grow _ _)))))))); exact wpQuiet_nil rfl
  refine Dm.wpE_take (i := 3) (listed' := (Dm.bits 33 15)) (by kernel_rfl) (by kernel_rfl) rfl (fun _ _ _ _ h => h) ?_; apply Exists.intro; refine And.intro (fun x => ?_) ?_
  · go_big_quiet_step ((first | (go_at_call 19; with_reducible exact Calls.quietE (K1.out _ (hE.trans (by repeat (first | assumption | exact Ext.refl _ | refine Ext.trans ?_ (ext_grow _ _)))))) | (go_at_call 20; with_reducible exact Calls.quietE (K2.out _ _ (hr1.ext (by repeat (first | assumption | exact Ext.refl _ | refine Ext.trans ?_ (ext_grow _ _)))))) | (go_at_call 21; with_reducible exact Calls.quietE (S1.out _ (hE.trans (by repeat (first | assumption | exact Ext.refl _ | refine Ext.trans ?_ (ext_grow _ _)))))) | (go_at_call 22; with_reducible exact Calls.quietE (U1.out _ (hE.trans (by repeat (first | assumption | exact Ext.refl _ | refine Ext.trans ?_ (ext_grow _ _)))))) | (go_at_call 23; with_reducible exact Calls.quietE (U2.out _ _ (hr1.ext (by repeat (first | assumption | exact Ext.refl _ | refine Ext.trans ?_ (ext_grow _ _)))))) | (go_at_call 24; with_reducible exact Calls.quietE (X1.out _ (hE.trans (by repeat (first | assumption | exact Ext.refl _ | refine Ext.trans ?_ (ext_grow _ _)))))) | (go_at_call 25; with_reducible exact Calls.quietE (X2.out _ _ (hr1.ext (by repeat (first | assumption | exact Ext.refl _ | refine Ext.trans ?_ (ext_grow _ _)))))))); exact wpQuiet_nil rfl
  refine Dm.wpE_take (i := 4) (listed' := (Dm.bits 33 31)) (by kernel_rfl) (by kernel_rfl) rfl (fun _ _ _ _ h => h) ?_; apply Exists.intro; refine And.intro (fun x => ?_) ?_
  · go_big_quiet_step ((first | (go_at_call 19; with_reducible exact Calls.quietE (K1.out _ (hE.trans (by repeat (first | assumption | exact Ext.refl _ | refine Ext.trans ?_ (ext_grow _ _)))))) | (go_at_call 20; with_reducible exact Calls.quietE (K2.out _ _ (hr1.ext (by repeat (first | assumption | exact Ext.refl _ | refine Ext.trans ?_ (ext_grow _ _)))))) | (go_at_call 21; with_reducible exact Calls.quietE (S1.out _ (hE.trans (by repeat (first | assumption | exact Ext.refl _ | refine Ext.trans ?_ (ext_grow _ _)))))) | (go_at_call 22; with_reducible exact Calls.quietE (U1.out _ (hE.trans (by repeat (first | assumption | exact Ext.refl _ | refine Ext.trans ?_ (ext_grow _ _)))))) | (go_at_call 23; with_reducible exact Calls.quietE (U2.out _ _ (hr1.ext (by repeat (first | assumption | exact Ext.refl _ | refine Ext.trans ?_ (ext_grow _ _)))))) | (go_at_call 24; with_reducible exact Calls.quietE (X1.out _ (hE.trans (by repeat (first | assumption | exact Ext.refl _ | refine Ext.trans ?_ (ext_grow _ _)))))) | (go_at_call 25; with_reducible exact Calls.quietE (X2.out _ _ (hr1.ext (by repeat (first | assumption | exact Ext.refl _ | refine Ext.trans ?_ (ext_grow _ _)))))))); exact wpQuiet_nil rfl
  refine Dm.wpE_take (i := 5) (listed' := (Dm.bits 33 63)) (by kernel_rfl) (by kernel_rfl) rfl (fun _ _ _ _ h => h) ?_; apply Exists.intro; refine And.intro (fun x => ?_) ?_
  · go_big_quiet_step ((first | (go_at_call 19; with_reducible exact Calls.quietE (K1.out _ (hE.trans (by repeat (first | assumption | exact Ext.refl _ | refine Ext.trans ?_ (ext_grow _ _)))))) | (go_at_call 20; with_reducible exact Calls.quietE (K2.out _ _ (hr1.ext (by repeat (first | assumption | exact Ext.refl _ | refine Ext.trans ?_ (ext_grow _ _)))))) | (go_at_call 21; with_reducible exact Calls.quietE (S1.out _ (hE.trans (by repeat (first | assumption | exact Ext.refl _ | refine Ext.trans ?_ (ext_grow _ _)))))) | (go_at_call 22; with_reducible exact Calls.quietE (U1.out _ (hE.trans (by repeat (first | assumption | exact Ext.refl _ | refine Ext.trans ?_ (ext_grow _ _)))))) | (go_at_call 23; with_reducible exact Calls.quietE (U2.out _ _ (hr1.ext (by repeat (first | assumption | exact Ext.refl _ | refine Ext.trans ?_ (ext_grow _ _)))))) | (go_at_call 24; with_reducible exact Calls.quietE (X1.out _ (hE.trans (by repeat (first | assumption | exact Ext.refl _ | refine Ext.trans ?_ (ext_grow _ _)))))) | (go_at_call 25; with_reducible exact Calls.quietE (X2.out _ _ (hr1.ext (by repeat (first | assumption | exact Ext.refl _ | refine Ext.trans ?_ (ext_grow _ _)))))))); exact wpQuiet_nil rfl
  refine Dm.wpE_take (i := 6) (listed' := (Dm.bits 33 127)) (by kernel_rfl) (by kernel_rfl) rfl (fun _ _ _ _ h => h) ?_; apply Exists.intro; refine And.intro (fun x => ?_) ?_
  · go_big_quiet_step ((first | (go_at_call 19; with_reducible exact Calls.quietE (K1.out _ (hE.trans (by repeat (first | assumption | exact Ext.refl _ | refine Ext.trans ?_ (ext_grow _ _)))))) | (go_at_call 20; with_reducible exact Calls.quietE (K2.out _ _ (hr1.ext (by repeat (first | assumption | exact Ext.refl _ | refine Ext.trans ?_ (ext_grow _ _)))))) | (go_at_call 21; with_reducible exact Calls.quietE (S1.out _ (hE.trans (by repeat (first | assumption | exact Ext.refl _ | refine Ext.trans ?_ (ext_grow _ _)))))) | (go_at_call 22; with_reducible exact Calls.quietE (U1.out _ (hE.trans (by repeat (first | assumption | exact Ext.refl _ | refine Ext.trans ?_ (ext_grow _ _)))))) | (go_at_call 23; with_reducible exact Calls.quietE (U2.out _ _ (hr1.ext (by repeat (first | assumption | exact Ext.refl _ | refine Ext.trans ?_ (ext_grow _ _)))))) | (go_at_call 24; with_reducible exact Calls.quietE (X1.out _ (hE.trans (by repeat (first | assumption | exact Ext.refl _ | refine Ext.trans ?_ (ext_grow _ _)))))) | (go_at_call 25; with_reducible exact Calls.quietE (X2.out _ _ (hr1.ext (by repeat (first | assumption | exact Ext.refl _ | refine Ext.trans ?_ (ext_grow _ _)))))))); exact wpQuiet_nil rfl
  refine Dm.wpE_take (i := 7) (listed' := (Dm.bits 33 255)) (by kernel_rfl) (by kernel_rfl) rfl (fun _ _ _ _ h => h) ?_; apply Exists.intro; refine And.intro (fun x => ?_) ?_
  · go_big_quiet_step ((first | (go_at_call 19; with_reducible exact Calls.quietE (K1.out _ (hE.trans (by repeat (first | assumption | exact Ext.refl _ | refine Ext.trans ?_ (ext_grow _ _)))))) | (go_at_call 20; with_reducible exact Calls.quietE (K2.out _ _ (hr1.ext (by repeat (first | assumption | exact Ext.refl _ | refine Ext.trans ?_ (ext_grow _ _)))))) | (go_at_call 21; with_reducible exact Calls.quietE (S1.out _ (hE.trans (by repeat (first | assumption | exact Ext.refl _ | refine Ext.trans ?_ (ext_grow _ _)))))) | (go_at_call 22; with_reducible exact Calls.quietE (U1.out _ (hE.trans (by repeat (first | assumption | exact Ext.refl _ | refine Ext.trans ?_ (ext_grow _ _)))))) | (go_at_call 23; with_reducible exact Calls.quietE (U2.out _ _ (hr1.ext (by repeat (first | assumption | exact Ext.refl _ | refine Ext.trans ?_ (ext_grow _ _)))))) | (go_at_call 24; with_reducible exact Calls.quietE (X1.out _ (hE.trans (by repeat (first | assumption | exact Ext.refl _ | refine Ext.trans ?_ (ext_grow _ _)))))) | (go_at_call 25; with_reducible exact Calls.quietE (X2.out _ _ (hr1.ext (by repeat (first | assumption | exact Ext.refl _ | refine Ext.trans ?_ (ext_grow _ _)))))))); exact wpQuiet_nil rfl
  refine Dm.wpE_take (i := 8) (listed' := (Dm.bits 33 511)) (by kernel_rfl) (by kernel_rfl) rfl (fun _ _ _ _ h => h) ?_; apply Exists.intro; refine And.intro (fun x => ?_) ?_
  · go_big_quiet_step ((first | (go_at_call 19; with_reducible exact Calls.quietE (K1.out _ (hE.trans (by repeat (first | assumption | exact Ext.refl _ | refine Ext.trans ?_ (ext_grow _ _)))))) | (go_at_call 20; with_reducible exact Calls.quietE (K2.out _ _ (hr1.ext (by repeat (first | assumption | exact Ext.refl _ | refine Ext.trans ?_ (ext_grow _ _)))))) | (go_at_call 21; with_reducible exact Calls.quietE (S1.out _ (hE.trans (by repeat (first | assumption | exact Ext.refl _ | refine Ext.trans ?_ (ext_grow _ _)))))) | (go_at_call 22; with_reducible exact Calls.quietE (U1.out _ (hE.trans (by repeat (first | assumption | exact Ext.refl _ | refine Ext.trans ?_ (ext_grow _ _)))))) | (go_at_call 23; with_reducible exact Calls.quietE (U2.out _ _ (hr1.ext (by repeat (first | assumption | exact Ext.refl _ | refine Ext.trans ?_ (ext_grow _ _)))))) | (go_at_call 24; with_reducible exact Calls.quietE (X1.out _ (hE.trans (by repeat (first | assumption | exact Ext.refl _ | refine Ext.trans ?_ (ext_grow _ _)))))) | (go_at_call 25; with_reducible exact Calls.quietE (X2.out _ _ (hr1.ext (by repeat (first | assumption | exact Ext.refl _ | refine Ext.trans ?_ (ext_grow _ _)))))))); exact wpQuiet_nil rfl
  refine Dm.wpE_take (i := 9) (listed' := (Dm.bits 33 1023)) (by kernel_rfl) (by kernel_rfl) rfl (fun _ _ _ _ h => h) ?_; apply Exists.intro; refine And.intro (fun x => ?_) ?_
  · go_big_quiet_step ((first | (go_at_call 19; with_reducible exact Calls.quietE (K1.out _ (hE.trans (by repeat (first | assumption | exact Ext.refl _ | refine Ext.trans ?_ (ext_grow _ _)))))) | (go_at_call 20; with_reducible exact Calls.quietE (K2.out _ _ (hr1.ext (by repeat (first | assumption | exact Ext.refl _ | refine Ext.trans ?_ (ext_grow _ _)))))) | (go_at_call 21; with_reducible exact Calls.quietE (S1.out _ (hE.trans (by repeat (first | assumption | exact Ext.refl _ | refine Ext.trans ?_ (ext_grow _ _)))))) | (go_at_call 22; with_reducible exact Calls.quietE (U1.out _ (hE.trans (by repeat (first | assumption | exact Ext.refl _ | refine Ext.trans ?_ (ext_grow _ _)))))) | (go_at_call 23; with_reducible exact Calls.quietE (U2.out _ _ (hr1.ext (by repeat (first | assumption | exact Ext.refl _ | refine Ext.trans ?_ (ext_grow _ _)))))) | (go_at_call 24; with_reducible exact Calls.quietE (X1.out _ (hE.trans (by repeat (first | assumption | exact Ext.refl _ | refine Ext.trans ?_ (ext_grow _ _)))))) | (go_at_call 25; with_reducible exact Calls.quietE (X2.out _ _ (hr1.ext (by repeat (first | assumption | exact Ext.refl _ | refine Ext.trans ?_ (ext_grow _ _)))))))); exact wpQuiet_nil rfl
  refine Dm.wpE_take (i := 10) (listed' := (Dm.bits 33 2047)) (by kernel_rfl) (by kernel_rfl) rfl (fun _ _ _ _ h => h) ?_; apply Exists.intro; refine And.intro (fun x => ?_) ?_
  · go_big_quiet_step ((first | (go_at_call 19; with_reducible exact Calls.quietE (K1.out _ (hE.trans (by repeat (first | assumption | exact Ext.refl _ | refine Ext.trans ?_ (ext_grow _ _)))))) | (go_at_call 20; with_reducible exact Calls.quietE (K2.out _ _ (hr1.ext (by repeat (first | assumption | exact Ext.refl _ | refine Ext.trans ?_ (ext_grow _ _)))))) | (go_at_call 21; with_reducible exact Calls.quietE (S1.out _ (hE.trans (by repeat (first | assumption | exact Ext.refl _ | refine Ext.trans ?_ (ext_grow _ _)))))) | (go_at_call 22; with_reducible exact Calls.quietE (U1.out _ (hE.trans (by repeat (first | assumption | exact Ext.refl _ | refine Ext.trans ?_ (ext_grow _ _)))))) | (go_at_call 23; with_reducible exact Calls.quietE (U2.out _ _ (hr1.ext (by repeat (first | assumption | exact Ext.refl _ | refine Ext.trans ?_ (ext_grow _ _)))))) | (go_at_call 24; with_reducible exact Calls.quietE (X1.out _ (hE.trans (by repeat (first | assumption | exact Ext.refl _ | refine Ext.trans ?_ (ext_grow _ _)))))) | (go_at_call 25; with_reducible exact Calls.quietE (X2.out _ _ (hr1.ext (by repeat (first | assumption | exact Ext.refl _ | refine Ext.trans ?_ (ext_grow _ _)))))))); exact wpQuiet_nil rfl
  refine Dm.wpE_take (i := 11) (listed' := (Dm.bits 33 4095)) (by kernel_rfl) (by kernel_rfl) rfl (fun _ _ _ _ h => h) ?_; apply Exists.intro; refine And.intro (fun x => ?_) ?_
  · go_big_quiet_step ((first | (go_at_call 19; with_reducible exact Calls.quietE (K1.out _ (hE.trans (by repeat (first | assumption | exact Ext.refl _ | refine Ext.trans ?_ (ext_grow _ _)))))) | (go_at_call 20; with_reducible exact Calls.quietE (K2.out _ _ (hr1.ext (by repeat (first | assumption | exact Ext.refl _ | refine Ext.trans ?_ (ext_grow _ _)))))) | (go_at_call 21; with_reducible exact Calls.quietE (S1.out _ (hE.trans (by repeat (first | assumption | exact Ext.refl _ | refine Ext.trans ?_ (ext_grow _ _)))))) | (go_at_call 22; with_reducible exact Calls.quietE (U1.out _ (hE.trans (by repeat (first | assumption | exact Ext.refl _ | refine Ext.trans ?_ (ext_grow _ _)))))) | (go_at_call 23; with_reducible exact Calls.quietE (U2.out _ _ (hr1.ext (by repeat (first | assumption | exact Ext.refl _ | refine Ext.trans ?_ (ext_grow _ _)))))) | (go_at_call 24; with_reducible exact Calls.quietE (X1.out _ (hE.trans (by repeat (first | assumption | exact Ext.refl _ | refine Ext.trans ?_ (ext_grow _ _)))))) | (go_at_call 25; with_reducible exact Calls.quietE (X2.out _ _ (hr1.ext (by repeat (first | assumption | exact Ext.refl _ | refine Ext.trans ?_ (ext_grow _ _)))))))); exact wpQuiet_nil rfl
  refine Dm.wpE_take (i := 12) (listed' := (Dm.bits 33 8191)) (by kernel_rfl) (by kernel_rfl) rfl (fun _ _ _ _ h => h) ?_; apply Exists.intro; refine And.intro (fun x => ?_) ?_
  · go_big_quiet_step ((first | (go_at_call 19; with_reducible exact Calls.quietE (K1.out _ (hE.trans (by repeat (first | assumption | exact Ext.refl _ | refine Ext.trans ?_ (ext_grow _ _)))))) | (go_at_call 20; with_reducible exact Calls.quietE (K2.out _ _ (hr1.ext (by repeat (first | assumption | exact Ext.refl _ | refine Ext.trans ?_ (ext_grow _ _)))))) | (go_at_call 21; with_reducible exact Calls.quietE (S1.out _ (hE.trans (by repeat (first | assumption | exact Ext.refl _ | refine Ext.trans ?_ (ext_grow _ _)))))) | (go_at_call 22; with_reducible exact Calls.quietE (U1.out _ (hE.trans (by repeat (first | assumption | exact Ext.refl _ | refine Ext.trans ?_ (ext_grow _ _)))))) | (go_at_call 23; with_reducible exact Calls.quietE (U2.out _ _ (hr1.ext (by repeat (first | assumption | exact Ext.refl _ | refine Ext.trans ?_ (ext_grow _ _)))))) | (go_at_call 24; with_reducible exact Calls.quietE (X1.out _ (hE.trans (by repeat (first | assumption | exact Ext.refl _ | refine Ext.trans ?_ (ext_grow _ _)))))) | (go_at_call 25; with_reducible exact Calls.quietE (X2.out _ _ (hr1.ext (by repeat (first | assumption | exact Ext.refl _ | refine Ext.trans ?_ (ext_grow _ _)))))))); exact wpQuiet_nil rfl
  refine Dm.wpE_take (i := 13) (listed' := (Dm.bits 33 16383)) (by kernel_rfl) (by kernel_rfl) rfl (fun _ _ _ _ h => h) ?_; apply Exists.intro; refine And.intro (fun x => ?_) ?_
  · go_big_quiet_step ((first | (go_at_call 19; with_reducible exact Calls.quietE (K1.out _ (hE.trans (by repeat (first | assumption | exact Ext.refl _ | refine Ext.trans ?_ (ext_grow _ _)))))) | (go_at_call 20; with_reducible exact Calls.quietE (K2.out _ _ (hr1.ext (by repeat (first | assumption | exact Ext.refl _ | refine Ext.trans ?_ (ext_grow _ _)))))) | (go_at_call 21; with_reducible exact Calls.quietE (S1.out _ (hE.trans (by repeat (first | assumption | exact Ext.refl _ | refine Ext.trans ?_ (ext_grow _ _)))))) | (go_at_call 22; with_reducible exact Calls.quietE (U1.out _ (hE.trans (by repeat (first | assumption | exact Ext.refl _ | refine Ext.trans ?_ (ext_grow _ _)))))) | (go_at_call 23; with_reducible exact Calls.quietE (U2.out _ _ (hr1.ext (by repeat (first | assumption | exact Ext.refl _ | refine Ext.trans ?_ (ext_grow _ _)))))) | (go_at_call 24; with_reducible exact Calls.quietE (X1.out _ (hE.trans (by repeat (first | assumption | exact Ext.refl _ | refine Ext.trans ?_ (ext_grow _ _)))))) | (go_at_call 25; with_reducible exact Calls.quietE (X2.out _ _ (hr1.ext (by repeat (first | assumption | exact Ext.refl _ | refine Ext.trans ?_ (ext_grow _ _)))))))); exact wpQuiet_nil rfl
  refine Dm.wpE_one (i := 14) (listed' := (Dm.bits 33 32767)) (by kernel_rfl) (by kernel_rfl) rfl (Ext.refl wf) (fun w1a hx1a => ?_)
  have hX1a := Ext.trans (Ext.refl wf) hx1a
  go_wp2_with (go_at_call 10; go_must (refine (RX2.out w1a (hE.trans hX1a)).mono ?_; rintro e w1b ⟨rb, rfl, hrb, hs1⟩))
  have hX1b := Ext.trans hX1a hs1
  try simp only [Exit.then, Act.put, List.setIfInBounds_toArray, List.set_cons_succ, List.set_cons_zero]
  refine Dm.wpE_one (i := 15) (listed' := (Dm.bits 33 65535)) (by kernel_rfl) (by kernel_rfl) rfl hX1b (fun w2a hx2a => ?_)
  have hX2a := Ext.trans hX1b hx2a
  replace hrb := hrb.ext hx2a
  go_wp2_with (go_at_call 18; go_must (refine (S2.out w2a _ _ (hr1.ext hX2a) hrb).mono ?_; rintro e w2b ⟨rfl, hs2⟩))
  clear hrb
  have hX2b := Ext.trans hX2a hs2
  try simp only [Exit.then, Act.put, List.setIfInBounds_toArray, List.set_cons_succ, List.set_cons_zero]
  refine Dm.wpE_take (i := 16) (listed' := (Dm.bits 33 131071)) (by kernel_rfl) (by kernel_rfl) rfl (fun _ _ _ _ h => h) ?_; apply Exists.intro; refine And.intro (fun x => ?_) ?_
  · go_big_quiet_step ((first | (go_at_call 19; with_reducible exact Calls.quietE (K1.out _ (hE.trans (by repeat (first | assumption | exact Ext.refl _ | refine Ext.trans ?_ (ext_grow _ _)))))) | (go_at_call 20; with_reducible exact Calls.quietE (K2.out _ _ (hr1.ext (by repeat (first | assumption | exact Ext.refl _ | refine Ext.trans ?_ (ext_grow _ _)))))) | (go_at_call 21; with_reducible exact Calls.quietE (S1.out _ (hE.trans (by repeat (first | assumption | exact Ext.refl _ | refine Ext.trans ?_ (ext_grow _ _)))))) | (go_at_call 22; with_reducible exact Calls.quietE (U1.out _ (hE.trans (by repeat (first | assumption | exact Ext.refl _ | refine Ext.trans ?_ (ext_grow _ _)))))) | (go_at_call 23; with_reducible exact Calls.quietE (U2.out _ _ (hr1.ext (by repeat (first | assumption | exact Ext.refl _ | refine Ext.trans ?_ (ext_grow _ _)))))) | (go_at_call 24; with_reducible exact Calls.quietE (X1.out _ (hE.trans (by repeat (first | assumption | exact Ext.refl _ | refine Ext.trans ?_ (ext_grow _ _)))))) | (go_at_call 25; with_reducible exact Calls.quietE (X2.out _ _ (hr1.ext (by repeat (first | assumption | exact Ext.refl _ | refine Ext.trans ?_ (ext_grow _ _)))))))); exact wpQuiet_nil rfl
  refine Dm.wpE_take (i := 17) (listed' := (Dm.bits 33 262143)) (by kernel_rfl) (by kernel_rfl) rfl (fun _ _ _ _ h => h) ?_; apply Exists.intro; refine And.intro (fun x => ?_) ?_
  · go_big_quiet_step ((first | (go_at_call 19; with_reducible exact Calls.quietE (K1.out _ (hE.trans (by repeat (first | assumption | exact Ext.refl _ | refine Ext.trans ?_ (ext_grow _ _)))))) | (go_at_call 20; with_reducible exact Calls.quietE (K2.out _ _ (hr1.ext (by repeat (first | assumption | exact Ext.refl _ | refine Ext.trans ?_ (ext_grow _ _)))))) | (go_at_call 21; with_reducible exact Calls.quietE (S1.out _ (hE.trans (by repeat (first | assumption | exact Ext.refl _ | refine Ext.trans ?_ (ext_grow _ _)))))) | (go_at_call 22; with_reducible exact Calls.quietE (U1.out _ (hE.trans (by repeat (first | assumption | exact Ext.refl _ | refine Ext.trans ?_ (ext_grow _ _)))))) | (go_at_call 23; with_reducible exact Calls.quietE (U2.out _ _ (hr1.ext (by repeat (first | assumption | exact Ext.refl _ | refine Ext.trans ?_ (ext_grow _ _)))))) | (go_at_call 24; with_reducible exact Calls.quietE (X1.out _ (hE.trans (by repeat (first | assumption | exact Ext.refl _ | refine Ext.trans ?_ (ext_grow _ _)))))) | (go_at_call 25; with_reducible exact Calls.quietE (X2.out _ _ (hr1.ext (by repeat (first | assumption | exact Ext.refl _ | refine Ext.trans ?_ (ext_grow _ _)))))))); exact wpQuiet_nil rfl
  refine Dm.wpE_take (i := 18) (listed' := (Dm.bits 33 524287)) (by kernel_rfl) (by kernel_rfl) rfl (fun _ _ _ _ h => h) ?_; apply Exists.intro; refine And.intro (fun x => ?_) ?_
  · go_big_quiet_step ((first | (go_at_call 19; with_reducible exact Calls.quietE (K1.out _ (hE.trans (by repeat (first | assumption | exact Ext.refl _ | refine Ext.trans ?_ (ext_grow _ _)))))) | (go_at_call 20; with_reducible exact Calls.quietE (K2.out _ _ (hr1.ext (by repeat (first | assumption | exact Ext.refl _ | refine Ext.trans ?_ (ext_grow _ _)))))) | (go_at_call 21; with_reducible exact Calls.quietE (S1.out _ (hE.trans (by repeat (first | assumption | exact Ext.refl _ | refine Ext.trans ?_ (ext_grow _ _)))))) | (go_at_call 22; with_reducible exact Calls.quietE (U1.out _ (hE.trans (by repeat (first | assumption | exact Ext.refl _ | refine Ext.trans ?_ (ext_grow _ _)))))) | (go_at_call 23; with_reducible exact Calls.quietE (U2.out _ _ (hr1.ext (by repeat (first | assumption | exact Ext.refl _ | refine Ext.trans ?_ (ext_grow _ _)))))) | (go_at_call 24; with_reducible exact Calls.quietE (X1.out _ (hE.trans (by repeat (first | assumption | exact Ext.refl _ | refine Ext.trans ?_ (ext_grow _ _)))))) | (go_at_call 25; with_reducible exact Calls.quietE (X2.out _ _ (hr1.ext (by repeat (first | assumption | exact Ext.refl _ | refine Ext.trans ?_ (ext_grow _ _)))))))); exact wpQuiet_nil rfl
  refine Dm.wpE_take (i := 19) (listed' := (Dm.bits 33 1048575)) (by kernel_rfl) (by kernel_rfl) rfl (fun _ _ _ _ h => h) ?_; apply Exists.intro; refine And.intro (fun x => ?_) ?_
  · go_big_quiet_step ((first | (go_at_call 19; with_reducible exact Calls.quietE (K1.out _ (hE.trans (by repeat (first | assumption | exact Ext.refl _ | refine Ext.trans ?_ (ext_grow _ _)))))) | (go_at_call 20; with_reducible exact Calls.quietE (K2.out _ _ (hr1.ext (by repeat (first | assumption | exact Ext.refl _ | refine Ext.trans ?_ (ext_grow _ _)))))) | (go_at_call 21; with_reducible exact Calls.quietE (S1.out _ (hE.trans (by repeat (first | assumption | exact Ext.refl _ | refine Ext.trans ?_ (ext_grow _ _)))))) | (go_at_call 22; with_reducible exact Calls.quietE (U1.out _ (hE.trans (by repeat (first | assumption | exact Ext.refl _ | refine Ext.trans ?_ (ext_grow _ _)))))) | (go_at_call 23; with_reducible exact Calls.quietE (U2.out _ _ (hr1.ext (by repeat (first | assumption | exact Ext.refl _ | refine Ext.trans ?_ (ext_grow _ _)))))) | (go_at_call 24; with_reducible exact Calls.quietE (X1.out _ (hE.trans (by repeat (first | assumption | exact Ext.refl _ | refine Ext.trans ?_ (ext_grow _ _)))))) | (go_at_call 25; with_reducible exact Calls.quietE (X2.out _ _ (hr1.ext (by repeat (first | assumption | exact Ext.refl _ | refine Ext.trans ?_ (ext_grow _ _)))))))); exact wpQuiet_nil rfl
  refine Dm.wpE_take (i := 20) (listed' := (Dm.bits 33 2097151)) (by kernel_rfl) (by kernel_rfl) rfl (fun _ _ _ _ h => h) ?_; apply Exists.intro; refine And.intro (fun x => ?_) ?_
  · go_big_quiet_step ((first | (go_at_call 19; with_reducible exact Calls.quietE (K1.out _ (hE.trans (by repeat (first | assumption | exact Ext.refl _ | refine Ext.trans ?_ (ext_grow _ _)))))) | (go_at_call 20; with_reducible exact Calls.quietE (K2.out _ _ (hr1.ext (by repeat (first | assumption | exact Ext.refl _ | refine Ext.trans ?_ (ext_grow _ _)))))) | (go_at_call 21; with_reducible exact Calls.quietE (S1.out _ (hE.trans (by repeat (first | assumption | exact Ext.refl _ | refine Ext.trans ?_ (ext_grow _ _)))))) | (go_at_call 22; with_reducible exact Calls.quietE (U1.out _ (hE.trans (by repeat (first | assumption | exact Ext.refl _ | refine Ext.trans ?_ (ext_grow _ _)))))) | (go_at_call 23; with_reducible exact Calls.quietE (U2.out _ _ (hr1.ext (by repeat (first | assumption | exact Ext.refl _ | refine Ext.trans ?_ (ext_grow _ _)))))) | (go_at_call 24; with_reducible exact Calls.quietE (X1.out _ (hE.trans (by repeat (first | assumption | exact Ext.refl _ | refine Ext.trans ?_ (ext_grow _ _)))))) | (go_at_call 25; with_reducible exact Calls.quietE (X2.out _ _ (hr1.ext (by repeat (first | assumption | exact Ext.refl _ | refine Ext.trans ?_ (ext_grow _ _)))))))); exact wpQuiet_nil rfl
  refine Dm.wpE_take (i := 21) (listed' := (Dm.bits 33 4194303)) (by kernel_rfl) (by kernel_rfl) rfl (fun _ _ _ _ h => h) ?_; apply Exists.intro; refine And.intro (fun x => ?_) ?_
  · go_big_quiet_step ((first | (go_at_call 19; with_reducible exact Calls.quietE (K1.out _ (hE.trans (by repeat (first | assumption | exact Ext.refl _ | refine Ext.trans ?_ (ext_grow _ _)))))) | (go_at_call 20; with_reducible exact Calls.quietE (K2.out _ _ (hr1.ext (by repeat (first | assumption | exact Ext.refl _ | refine Ext.trans ?_ (ext_grow _ _)))))) | (go_at_call 21; with_reducible exact Calls.quietE (S1.out _ (hE.trans (by repeat (first | assumption | exact Ext.refl _ | refine Ext.trans ?_ (ext_grow _ _)))))) | (go_at_call 22; with_reducible exact Calls.quietE (U1.out _ (hE.trans (by repeat (first | assumption | exact Ext.refl _ | refine Ext.trans ?_ (ext_grow _ _)))))) | (go_at_call 23; with_reducible exact Calls.quietE (U2.out _ _ (hr1.ext (by repeat (first | assumption | exact Ext.refl _ | refine Ext.trans ?_ (ext_grow _ _)))))) | (go_at_call 24; with_reducible exact Calls.quietE (X1.out _ (hE.trans (by repeat (first | assumption | exact Ext.refl _ | refine Ext.trans ?_ (ext_grow _ _)))))) | (go_at_call 25; with_reducible exact Calls.quietE (X2.out _ _ (hr1.ext (by repeat (first | assumption | exact Ext.refl _ | refine Ext.trans ?_ (ext_grow _ _)))))))); exact wpQuiet_nil rfl
  refine Dm.wpE_take (i := 22) (listed' := (Dm.bits 33 8388607)) (by kernel_rfl) (by kernel_rfl) rfl (fun _ _ _ _ h => h) ?_; apply Exists.intro; refine And.intro (fun x => ?_) ?_
  · go_big_quiet_step ((first | (go_at_call 19; with_reducible exact Calls.quietE (K1.out _ (hE.trans (by repeat (first | assumption | exact Ext.refl _ | refine Ext.trans ?_ (ext_grow _ _)))))) | (go_at_call 20; with_reducible exact Calls.quietE (K2.out _ _ (hr1.ext (by repeat (first | assumption | exact Ext.refl _ | refine Ext.trans ?_ (ext_grow _ _)))))) | (go_at_call 21; with_reducible exact Calls.quietE (S1.out _ (hE.trans (by repeat (first | assumption | exact Ext.refl _ | refine Ext.trans ?_ (ext_grow _ _)))))) | (go_at_call 22; with_reducible exact Calls.quietE (U1.out _ (hE.trans (by repeat (first | assumption | exact Ext.refl _ | refine Ext.trans ?_ (ext_grow _ _)))))) | (go_at_call 23; with_reducible exact Calls.quietE (U2.out _ _ (hr1.ext (by repeat (first | assumption | exact Ext.refl _ | refine Ext.trans ?_ (ext_grow _ _)))))) | (go_at_call 24; with_reducible exact Calls.quietE (X1.out _ (hE.trans (by repeat (first | assumption | exact Ext.refl _ | refine Ext.trans ?_ (ext_grow _ _)))))) | (go_at_call 25; with_reducible exact Calls.quietE (X2.out _ _ (hr1.ext (by repeat (first | assumption | exact Ext.refl _ | refine Ext.trans ?_ (ext_grow _ _)))))))); exact wpQuiet_nil rfl
  refine Dm.wpE_take (i := 23) (listed' := (Dm.bits 33 16777215)) (by kernel_rfl) (by kernel_rfl) rfl (fun _ _ _ _ h => h) ?_; apply Exists.intro; refine And.intro (fun x => ?_) ?_
  · go_big_quiet_step ((first | (go_at_call 19; with_reducible exact Calls.quietE (K1.out _ (hE.trans (by repeat (first | assumption | exact Ext.refl _ | refine Ext.trans ?_ (ext_grow _ _)))))) | (go_at_call 20; with_reducible exact Calls.quietE (K2.out _ _ (hr1.ext (by repeat (first | assumption | exact Ext.refl _ | refine Ext.trans ?_ (ext_grow _ _)))))) | (go_at_call 21; with_reducible exact Calls.quietE (S1.out _ (hE.trans (by repeat (first | assumption | exact Ext.refl _ | refine Ext.trans ?_ (ext_grow _ _)))))) | (go_at_call 22; with_reducible exact Calls.quietE (U1.out _ (hE.trans (by repeat (first | assumption | exact Ext.refl _ | refine Ext.trans ?_ (ext_grow _ _)))))) | (go_at_call 23; with_reducible exact Calls.quietE (U2.out _ _ (hr1.ext (by repeat (first | assumption | exact Ext.refl _ | refine Ext.trans ?_ (ext_grow _ _)))))) | (go_at_call 24; with_reducible exact Calls.quietE (X1.out _ (hE.trans (by repeat (first | assumption | exact Ext.refl _ | refine Ext.trans ?_ (ext_grow _ _)))))) | (go_at_call 25; with_reducible exact Calls.quietE (X2.out _ _ (hr1.ext (by repeat (first | assumption | exact Ext.refl _ | refine Ext.trans ?_ (ext_grow _ _)))))))); exact wpQuiet_nil rfl
  refine Dm.wpE_take (i := 24) (listed' := (Dm.bits 33 33554431)) (by kernel_rfl) (by kernel_rfl) rfl (fun _ _ _ _ h => h) ?_; apply Exists.intro; refine And.intro (fun x => ?_) ?_
  · go_big_quiet_step ((first | (go_at_call 19; with_reducible exact Calls.quietE (K1.out _ (hE.trans (by repeat (first | assumption | exact Ext.refl _ | refine Ext.trans ?_ (ext_grow _ _)))))) | (go_at_call 20; with_reducible exact Calls.quietE (K2.out _ _ (hr1.ext (by repeat (first | assumption | exact Ext.refl _ | refine Ext.trans ?_ (ext_grow _ _)))))) | (go_at_call 21; with_reducible exact Calls.quietE (S1.out _ (hE.trans (by repeat (first | assumption | exact Ext.refl _ | refine Ext.trans ?_ (ext_grow _ _)))))) | (go_at_call 22; with_reducible exact Calls.quietE (U1.out _ (hE.trans (by repeat (first | assumption | exact Ext.refl _ | refine Ext.trans ?_ (ext_grow _ _)))))) | (go_at_call 23; with_reducible exact Calls.quietE (U2.out _ _ (hr1.ext (by repeat (first | assumption | exact Ext.refl _ | refine Ext.trans ?_ (ext_grow _ _)))))) | (go_at_call 24; with_reducible exact Calls.quietE (X1.out _ (hE.trans (by repeat (first | assumption | exact Ext.refl _ | refine Ext.trans ?_ (ext_grow _ _)))))) | (go_at_call 25; with_reducible exact Calls.quietE (X2.out _ _ (hr1.ext (by repeat (first | assumption | exact Ext.refl _ | refine Ext.trans ?_ (ext_grow _ _)))))))); exact wpQuiet_nil rfl
  refine Dm.wpE_take (i := 25) (listed' := (Dm.bits 33 67108863)) (by kernel_rfl) (by kernel_rfl) rfl (fun _ _ _ _ h => h) ?_; apply Exists.intro; refine And.intro (fun x => ?_) ?_
  · go_big_quiet_step ((first | (go_at_call 19; with_reducible exact Calls.quietE (K1.out _ (hE.trans (by repeat (first | assumption | exact Ext.refl _ | refine Ext.trans ?_ (ext_grow _ _)))))) | (go_at_call 20; with_reducible exact Calls.quietE (K2.out _ _ (hr1.ext (by repeat (first | assumption | exact Ext.refl _ | refine Ext.trans ?_ (ext_grow _ _)))))) | (go_at_call 21; with_reducible exact Calls.quietE (S1.out _ (hE.trans (by repeat (first | assumption | exact Ext.refl _ | refine Ext.trans ?_ (ext_grow _ _)))))) | (go_at_call 22; with_reducible exact Calls.quietE (U1.out _ (hE.trans (by repeat (first | assumption | exact Ext.refl _ | refine Ext.trans ?_ (ext_grow _ _)))))) | (go_at_call 23; with_reducible exact Calls.quietE (U2.out _ _ (hr1.ext (by repeat (first | assumption | exact Ext.refl _ | refine Ext.trans ?_ (ext_grow _ _)))))) | (go_at_call 24; with_reducible exact Calls.quietE (X1.out _ (hE.trans (by repeat (first | assumption | exact Ext.refl _ | refine Ext.trans ?_ (ext_grow _ _)))))) | (go_at_call 25; with_reducible exact Calls.quietE (X2.out _ _ (hr1.ext (by repeat (first | assumption | exact Ext.refl _ | refine Ext.trans ?_ (ext_grow _ _)))))))); exact wpQuiet_nil rfl
  refine Dm.wpE_take (i := 26) (listed' := (Dm.bits 33 134217727)) (by kernel_rfl) (by kernel_rfl) rfl (fun _ _ _ _ h => h) ?_; apply Exists.intro; refine And.intro (fun x => ?_) ?_
  · go_big_quiet_step ((first | (go_at_call 19; with_reducible exact Calls.quietE (K1.out _ (hE.trans (by repeat (first | assumption | exact Ext.refl _ | refine Ext.trans ?_ (ext_grow _ _)))))) | (go_at_call 20; with_reducible exact Calls.quietE (K2.out _ _ (hr1.ext (by repeat (first | assumption | exact Ext.refl _ | refine Ext.trans ?_ (ext_grow _ _)))))) | (go_at_call 21; with_reducible exact Calls.quietE (S1.out _ (hE.trans (by repeat (first | assumption | exact Ext.refl _ | refine Ext.trans ?_ (ext_grow _ _)))))) | (go_at_call 22; with_reducible exact Calls.quietE (U1.out _ (hE.trans (by repeat (first | assumption | exact Ext.refl _ | refine Ext.trans ?_ (ext_grow _ _)))))) | (go_at_call 23; with_reducible exact Calls.quietE (U2.out _ _ (hr1.ext (by repeat (first | assumption | exact Ext.refl _ | refine Ext.trans ?_ (ext_grow _ _)))))) | (go_at_call 24; with_reducible exact Calls.quietE (X1.out _ (hE.trans (by repeat (first | assumption | exact Ext.refl _ | refine Ext.trans ?_ (ext_grow _ _)))))) | (go_at_call 25; with_reducible exact Calls.quietE (X2.out _ _ (hr1.ext (by repeat (first | assumption | exact Ext.refl _ | refine Ext.trans ?_ (ext_grow _ _)))))))); exact wpQuiet_nil rfl
  refine Dm.wpE_take (i := 27) (listed' := (Dm.bits 33 268435455)) (by kernel_rfl) (by kernel_rfl) rfl (fun _ _ _ _ h => h) ?_; apply Exists.intro; refine And.intro (fun x => ?_) ?_
  · go_big_quiet_step ((first | (go_at_call 19; with_reducible exact Calls.quietE (K1.out _ (hE.trans (by repeat (first | assumption | exact Ext.refl _ | refine Ext.trans ?_ (ext_grow _ _)))))) | (go_at_call 20; with_reducible exact Calls.quietE (K2.out _ _ (hr1.ext (by repeat (first | assumption | exact Ext.refl _ | refine Ext.trans ?_ (ext_grow _ _)))))) | (go_at_call 21; with_reducible exact Calls.quietE (S1.out _ (hE.trans (by repeat (first | assumption | exact Ext.refl _ | refine Ext.trans ?_ (ext_grow _ _)))))) | (go_at_call 22; with_reducible exact Calls.quietE (U1.out _ (hE.trans (by repeat (first | assumption | exact Ext.refl _ | refine Ext.trans ?_ (ext_grow _ _)))))) | (go_at_call 23; with_reducible exact Calls.quietE (U2.out _ _ (hr1.ext (by repeat (first | assumption | exact Ext.refl _ | refine Ext.trans ?_ (ext_grow _ _)))))) | (go_at_call 24; with_reducible exact Calls.quietE (X1.out _ (hE.trans (by repeat (first | assumption | exact Ext.refl _ | refine Ext.trans ?_ (ext_grow _ _)))))) | (go_at_call 25; with_reducible exact Calls.quietE (X2.out _ _ (hr1.ext (by repeat (first | assumption | exact Ext.refl _ | refine Ext.trans ?_ (ext_grow _ _)))))))); exact wpQuiet_nil rfl
  refine Dm.wpE_take (i := 28) (listed' := (Dm.bits 33 536870911)) (by kernel_rfl) (by kernel_rfl) rfl (fun _ _ _ _ h => h) ?_; apply Exists.intro; refine And.intro (fun x => ?_) ?_
  · go_big_quiet_step ((first | (go_at_call 19; with_reducible exact Calls.quietE (K1.out _ (hE.trans (by repeat (first | assumption | exact Ext.refl _ | refine Ext.trans ?_ (ext_grow _ _)))))) | (go_at_call 20; with_reducible exact Calls.quietE (K2.out _ _ (hr1.ext (by repeat (first | assumption | exact Ext.refl _ | refine Ext.trans ?_ (ext_grow _ _)))))) | (go_at_call 21; with_reducible exact Calls.quietE (S1.out _ (hE.trans (by repeat (first | assumption | exact Ext.refl _ | refine Ext.trans ?_ (ext_grow _ _)))))) | (go_at_call 22; with_reducible exact Calls.quietE (U1.out _ (hE.trans (by repeat (first | assumption | exact Ext.refl _ | refine Ext.trans ?_ (ext_grow _ _)))))) | (go_at_call 23; with_reducible exact Calls.quietE (U2.out _ _ (hr1.ext (by repeat (first | assumption | exact Ext.refl _ | refine Ext.trans ?_ (ext_grow _ _)))))) | (go_at_call 24; with_reducible exact Calls.quietE (X1.out _ (hE.trans (by repeat (first | assumption | exact Ext.refl _ | refine Ext.trans ?_ (ext_grow _ _)))))) | (go_at_call 25; with_reducible exact Calls.quietE (X2.out _ _ (hr1.ext (by repeat (first | assumption | exact Ext.refl _ | refine Ext.trans ?_ (ext_grow _ _)))))))); exact wpQuiet_nil rfl
  refine Dm.wpE_take (i := 29) (listed' := (Dm.bits 33 1073741823)) (by kernel_rfl) (by kernel_rfl) rfl (fun _ _ _ _ h => h) ?_; apply Exists.intro; refine And.intro (fun x => ?_) ?_
  · go_big_quiet_step ((first | (go_at_call 19; with_reducible exact Calls.quietE (K1.out _ (hE.trans (by repeat (first | assumption | exact Ext.refl _ | refine Ext.trans ?_ (ext_grow _ _)))))) | (go_at_call 20; with_reducible exact Calls.quietE (K2.out _ _ (hr1.ext (by repeat (first | assumption | exact Ext.refl _ | refine Ext.trans ?_ (ext_grow _ _)))))) | (go_at_call 21; with_reducible exact Calls.quietE (S1.out _ (hE.trans (by repeat (first | assumption | exact Ext.refl _ | refine Ext.trans ?_ (ext_grow _ _)))))) | (go_at_call 22; with_reducible exact Calls.quietE (U1.out _ (hE.trans (by repeat (first | assumption | exact Ext.refl _ | refine Ext.trans ?_ (ext_grow _ _)))))) | (go_at_call 23; with_reducible exact Calls.quietE (U2.out _ _ (hr1.ext (by repeat (first | assumption | exact Ext.refl _ | refine Ext.trans ?_ (ext_grow _ _)))))) | (go_at_call 24; with_reducible exact Calls.quietE (X1.out _ (hE.trans (by repeat (first | assumption | exact Ext.refl _ | refine Ext.trans ?_ (ext_grow _ _)))))) | (go_at_call 25; with_reducible exact Calls.quietE (X2.out _ _ (hr1.ext (by repeat (first | assumption | exact Ext.refl _ | refine Ext.trans ?_ (ext_grow _ _)))))))); exact wpQuiet_nil rfl
  refine Dm.wpE_take (i := 30) (listed' := (Dm.bits 33 2147483647)) (by kernel_rfl) (by kernel_rfl) rfl (fun _ _ _ _ h => h) ?_; apply Exists.intro; refine And.intro (fun x => ?_) ?_
  · go_big_quiet_step ((first | (go_at_call 19; with_reducible exact Calls.quietE (K1.out _ (hE.trans (by repeat (first | assumption | exact Ext.refl _ | refine Ext.trans ?_ (ext_grow _ _)))))) | (go_at_call 20; with_reducible exact Calls.quietE (K2.out _ _ (hr1.ext (by repeat (first | assumption | exact Ext.refl _ | refine Ext.trans ?_ (ext_grow _ _)))))) | (go_at_call 21; with_reducible exact Calls.quietE (S1.out _ (hE.trans (by repeat (first | assumption | exact Ext.refl _ | refine Ext.trans ?_ (ext_grow _ _)))))) | (go_at_call 22; with_reducible exact Calls.quietE (U1.out _ (hE.trans (by repeat (first | assumption | exact Ext.refl _ | refine Ext.trans ?_ (ext_grow _ _)))))) | (go_at_call 23; with_reducible exact Calls.quietE (U2.out _ _ (hr1.ext (by repeat (first | assumption | exact Ext.refl _ | refine Ext.trans ?_ (ext_grow _ _)))))) | (go_at_call 24; with_reducible exact Calls.quietE (X1.out _ (hE.trans (by repeat (first | assumption | exact Ext.refl _ | refine Ext.trans ?_ (ext_grow _ _)))))) | (go_at_call 25; with_reducible exact Calls.quietE (X2.out _ _ (hr1.ext (by repeat (first | assumption | exact Ext.refl _ | refine Ext.trans ?_ (ext_grow _ _)))))))); exact wpQuiet_nil rfl
  refine Dm.wpE_take (i := 31) (listed' := (Dm.bits 33 4294967295)) (by kernel_rfl) (by kernel_rfl) rfl (fun _ _ _ _ h => h) ?_; apply Exists.intro; refine And.intro (fun x => ?_) ?_
  · go_big_quiet_step ((first | (go_at_call 19; with_reducible exact Calls.quietE (K1.out _ (hE.trans (by repeat (first | assumption | exact Ext.refl _ | refine Ext.trans ?_ (ext_grow _ _)))))) | (go_at_call 20; with_reducible exact Calls.quietE (K2.out _ _ (hr1.ext (by repeat (first | assumption | exact Ext.refl _ | refine Ext.trans ?_ (ext_grow _ _)))))) | (go_at_call 21; with_reducible exact Calls.quietE (S1.out _ (hE.trans (by repeat (first | assumption | exact Ext.refl _ | refine Ext.trans ?_ (ext_grow _ _)))))) | (go_at_call 22; with_reducible exact Calls.quietE (U1.out _ (hE.trans (by repeat (first | assumption | exact Ext.refl _ | refine Ext.trans ?_ (ext_grow _ _)))))) | (go_at_call 23; with_reducible exact Calls.quietE (U2.out _ _ (hr1.ext (by repeat (first | assumption | exact Ext.refl _ | refine Ext.trans ?_ (ext_grow _ _)))))) | (go_at_call 24; with_reducible exact Calls.quietE (X1.out _ (hE.trans (by repeat (first | assumption | exact Ext.refl _ | refine Ext.trans ?_ (ext_grow _ _)))))) | (go_at_call 25; with_reducible exact Calls.quietE (X2.out _ _ (hr1.ext (by repeat (first | assumption | exact Ext.refl _ | refine Ext.trans ?_ (ext_grow _ _)))))))); exact wpQuiet_nil rfl
  refine Dm.wpE_take (i := 32) (listed' := (Dm.bits 33 8589934591)) (by kernel_rfl) (by kernel_rfl) rfl (fun _ _ _ _ h => h) ?_; apply Exists.intro; refine And.intro (fun x => ?_) ?_
  · go_big_quiet_step ((first | (go_at_call 19; with_reducible exact Calls.quietE (K1.out _ (hE.trans (by repeat (first | assumption | exact Ext.refl _ | refine Ext.trans ?_ (ext_grow _ _)))))) | (go_at_call 20; with_reducible exact Calls.quietE (K2.out _ _ (hr1.ext (by repeat (first | assumption | exact Ext.refl _ | refine Ext.trans ?_ (ext_grow _ _)))))) | (go_at_call 21; with_reducible exact Calls.quietE (S1.out _ (hE.trans (by repeat (first | assumption | exact Ext.refl _ | refine Ext.trans ?_ (ext_grow _ _)))))) | (go_at_call 22; with_reducible exact Calls.quietE (U1.out _ (hE.trans (by repeat (first | assumption | exact Ext.refl _ | refine Ext.trans ?_ (ext_grow _ _)))))) | (go_at_call 23; with_reducible exact Calls.quietE (U2.out _ _ (hr1.ext (by repeat (first | assumption | exact Ext.refl _ | refine Ext.trans ?_ (ext_grow _ _)))))) | (go_at_call 24; with_reducible exact Calls.quietE (X1.out _ (hE.trans (by repeat (first | assumption | exact Ext.refl _ | refine Ext.trans ?_ (ext_grow _ _)))))) | (go_at_call 25; with_reducible exact Calls.quietE (X2.out _ _ (hr1.ext (by repeat (first | assumption | exact Ext.refl _ | refine Ext.trans ?_ (ext_grow _ _)))))))); exact wpQuiet_nil rfl
  refine Dm.wpE_done (by kernel_rfl) hX2b (fun w3a hx3a => ?_)
  have hX3a := Ext.trans hX2b hx3a
  clear bAl bA0 bA1 bA2 bA3 bA4 bA5 bA6 bA7 bA8 bBl bB0 bB1 bB2 bB3 bB4 bB5 bB6 bB7 bB8 bRl bR0 bR1 bR2 bR3 bR4 bR5 bR6 bR7 bR8
  go_wp2
  go_ret
  exact ⟨rfl, hE.trans hX3a⟩
end Go.Proofs.YthmhalcloogniaaGreatDoor
