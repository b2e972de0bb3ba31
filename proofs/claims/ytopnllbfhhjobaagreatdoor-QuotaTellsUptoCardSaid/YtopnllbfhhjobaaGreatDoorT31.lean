/- Texts one behind the other: Chapter 10: the walk of QuotaTells. -/
import Derived.Test.YtopnllbfhhjobaaGreatDoorT16
import Derived.Test.YtopnllbfhhjobaaGreatDoorT28
import Derived.Test.YtopnllbfhhjobaaGreatDoorT29
import Derived.Test.YtopnllbfhhjobaaGreatDoorT30
namespace Go.Proofs.YtopnllbfhhjobaaGreatDoor
open Go.RowKit Go.Dm
set_option maxHeartbeats 8000000 in
set_option maxRecDepth 100000 in
theorem quotaTells_w (R : List EntQ) (p : ByteArray) (v : Vc) (s : ByteArray) (i : Int) (vt : Value) (w : World) (hl : R.length ≤ 524287) (hR : FitT R) (hx : Tree w vt R) (hp : p.size ≤ 1048576) (hv : OkV v) (hs : s.size ≤ 1048576) (ht : Vars w) :
    Calls Tryz.prog 3 #[vt, .string p, vVal v, .string s, .int .i64 i] w fun e w' => e = .returned (.bool true) ∧ Ext w w' := by
  obtain ⟨q, cap, rfl, _, _⟩ := hx.shape
  have hm : R.length ≤ 1099511627776 := by omega
  have hp' : p.size < 4294967281 := by omega
  have hs' : s.size ≤ 281474976710656 := by omega
  have hsz := putQ_short hR (by omega)
  have CE := fun U (h : Ext w U) => qexamples_w U (ht.ext h)
  have CT := fun U (h : Ext w U) => qreftree_w R _ U hm (hx.ext h)
  have CV := fun U => refv10_w v U
  have S1 := fun U (h : Ext w U) => qset_w R _ p v hv U hm hR (hx.ext h) hp' (ht.ext h)
  have S2 := fun U vr (h : Tree U vr R) => dset_w R vr p v hv U hm hR h hp
  have C1 := fun U (h : Ext w U) => qCharge_w R _ p v hv U hm hR (hx.ext h) hp' (ht.ext h)
  have C2 := fun U vr (h : Tree U vr R) => dCharge_w R vr p v hv U hm hR h hp
  have R1 := fun U (h : Ext w U) => qRefund_w R _ p v hv U hm hR (hx.ext h) hp' (ht.ext h)
  have R2 := fun U vr (h : Tree U vr R) => dRefund_w R vr p v hv U hm hR h hp
  have F1 := fun U (h : Ext w U) => qfind_w R p _ U hm (hx.ext h)
  have F2 := fun U vr (h : Tree U vr R) => dFind_w R p vr U hm h
  have G1 := fun U (h : Ext w U) => qget_w s i U hs' (ht.ext h)
  have G2 := fun U => dget_w s i U hs'
  have L1 := fun U (h : Ext w U) => qcould_w R _ p v hv U hm hR (hx.ext h) hp' (ht.ext h)
  have L2 := fun U vr (h : Tree U vr R) => dcould_w R vr p v hv U hm hR h hp
  have L3 := fun U (h : Ext w U) => qright_w R _ U hm hR (hx.ext h) (ht.ext h)
  have L4 := fun U vr (h : Tree U vr R) => dright_w R vr U hm hR h
  have L5 := fun U (h : Ext w U) => qput_w R _ U hm hR hsz (hx.ext h)
  have L6 := fun U vr (h : Tree U vr R) => dput_w R vr U hm hR hsz h
  have N1 := fun U => qnew_w v U
  have N2 := fun U => dnew_w v U
  have tree := fun (X : List EntQ) (hX : X.length ≤ 1099511627776) U va (h : Tree U va X) => qreftree_w X va U hX h
  have same := fun (X : List EntQ) (hX : X.length ≤ 1099511627776 ∧ FitT X) U va vb (h1 : Tree U va X) (h2 : Tree U vb X) => qsametree_w X va vb U hX.1 hX.2 h1 h2
  have fA : (setT R p v).1.length ≤ 1099511627776 ∧ FitT (setT R p v).1 := ⟨by have := (setT_fit (lim := v) hR hp hv).2; omega, (setT_fit hR hp hv).1⟩
  have fC : (eachT R p (chgE v)).1.length ≤ 1099511627776 ∧ FitT (eachT R p (chgE v)).1 := ⟨by rw [(eachT_fit hR (fun e he => chgE_fit he)).2]; exact hm, (eachT_fit hR (fun e he => chgE_fit he)).1⟩
  have fI : (eachT R p (rfdE v)).1.length ≤ 1099511627776 ∧ FitT (eachT R p (rfdE v)).1 := ⟨by rw [(eachT_fit hR (fun e he => rfdE_fit he)).2]; exact hm, (eachT_fit hR (fun e he => rfdE_fit he)).1⟩
  have fM : (getQ s.data.toList i).1.length ≤ 1099511627776 ∧ FitT (getQ s.data.toList i).1 := ⟨by have := (getQ_fit s.data.toList i).2.1; omega, (getQ_fit s.data.toList i).1⟩
  have fN : [((⟨#[]⟩ : ByteArray), v, noV)].length ≤ 1099511627776 ∧ FitT [((⟨#[]⟩ : ByteArray), v, noV)] := ⟨by simp, fit_cons ⟨Nat.zero_le _, hv, okV_no⟩ FitT.nil⟩
  have TA := tree _ fA.1
  have TC := tree _ fC.1
  have TI := tree _ fI.1
  have TM := tree _ fM.1
  have TN := tree _ fN.1
  have QA := same _ fA
  have QC := same _ fC
  have QI := same _ fI
  have QM := same _ fM
  have QN := same _ fN
  have fF := findQ_fit (p := p) hR
  have VL := fun U => refv10_w (findQ R p).1.2.1 U
  have VU := fun U => refv10_w (findQ R p).1.2.2 U
  have q1 := fun U => run_neq_vals (P := Tryz.prog) Tryz.underlying34 Tryz.underlying23 (by kernel_rfl) fF.2.1 fF.2.1 U
  have q2 := fun U => run_neq_vals (P := Tryz.prog) Tryz.underlying34 Tryz.underlying23 (by kernel_rfl) fF.2.2 fF.2.2 U
  simp only [decide_true, Bool.not_true] at q1 q2
  clear tree same fA fC fI fM fN fF hm hp' hs' hsz
  generalize setT R p v = gA at *
  obtain ⟨A, ea⟩ := gA
  generalize eachT R p (chgE v) = gC at *
  obtain ⟨C, ec⟩ := gC
  generalize eachT R p (rfdE v) = gI at *
  obtain ⟨I, ei⟩ := gI
  generalize getQ s.data.toList i = gM at *
  obtain ⟨M, nx, okm⟩ := gM
  generalize findQ R p = gF at *
  obtain ⟨⟨fs, fl, fu⟩, fok⟩ := gF
  generalize couldT R p v = cc at *
  generalize rightQ R = rr at *
  generalize (⟨(putQ R).toArray⟩ : ByteArray) = pt at *
  simp only [entVal, uAt] at *
  unfold vVal vF at *
  replace CE := Lib.hid CE
  replace CT := Lib.hid CT
  replace CV := Lib.hid CV
  replace S1 := Lib.hid S1
  replace S2 := Lib.hid S2
  replace C1 := Lib.hid C1
  replace C2 := Lib.hid C2
  replace R1 := Lib.hid R1
  replace R2 := Lib.hid R2
  replace F1 := Lib.hid F1
  replace F2 := Lib.hid F2
  replace G1 := Lib.hid G1
  replace G2 := Lib.hid G2
  replace L1 := Lib.hid L1
  replace L2 := Lib.hid L2
  replace L3 := Lib.hid L3
  replace L4 := Lib.hid L4
  replace L5 := Lib.hid L5
  replace L6 := Lib.hid L6
  replace N1 := Lib.hid N1
  replace N2 := Lib.hid N2
  replace TA := Lib.hid TA
  replace TC := Lib.hid TC
  replace TI := Lib.hid TI
  replace TM := Lib.hid TM
  replace TN := Lib.hid TN
  replace QA := Lib.hid QA
  replace QC := Lib.hid QC
  replace QI := Lib.hid QI
  replace QM := Lib.hid QM
  replace QN := Lib.hid QN
  replace VL := Lib.hid VL
  replace VU := Lib.hid VU
  go_enter Tryz.func3, Tryz.ntmps3
  have hV := VBox.new w (vG v) 25
  have hE : Ext w (w.alloc (.cells #[.int .u64 (vG v 0 : Nat), .int .u64 (vG v 1 : Nat), .int .u64 (vG v 2 : Nat), .int .u64 (vG v 3 : Nat)] 25)) := (Ext.refl _).alloc _
  generalize hW0 : w.alloc (.cells #[.int .u64 (vG v 0 : Nat), .int .u64 (vG v 1 : Nat), .int .u64 (vG v 2 : Nat), .int .u64 (vG v 3 : Nat)] 25) = W at *
  obtain ⟨zl, z0, z1, z2, z3, _, _, _, _⟩ := hV.four
  go_wp2_with fail
  refine (CE.out _ hE).mono ?_; rintro e w1 ⟨rfl, h1⟩
  clear zl z0 z1 z2 z3
  replace hV := hV.ext h1
  replace hE := hE.trans h1
  clear h1
  obtain ⟨zl, z0, z1, z2, z3, _, _, _, _⟩ := hV.four
  go_wp2_with fail
  refine (CT.out _ hE).mono ?_; rintro e w2 ⟨vr, rfl, hr, h2⟩
  clear zl z0 z1 z2 z3
  replace hV := hV.ext h2
  replace hE := hE.trans h2
  clear h2
  obtain ⟨zl, z0, z1, z2, z3, _, _, _, _⟩ := hV.four
  go_wp2_with fail
  refine (S1.out _ hE).mono ?_; rintro e w3 ⟨va, rfl, hA, h3⟩
  clear zl z0 z1 z2 z3
  replace hV := hV.ext h3
  replace hr := hr.ext h3
  replace hE := hE.trans h3
  clear h3
  obtain ⟨zl, z0, z1, z2, z3, _, _, _, _⟩ := hV.four
  go_wp2_with fail
  refine (CV.out _).mono ?_; rintro e w4 ⟨rfl, h4⟩
  clear zl z0 z1 z2 z3
  replace hV := hV.ext h4
  replace hr := hr.ext h4
  replace hA := hA.ext h4
  replace hE := hE.trans h4
  clear h4
  obtain ⟨zl, z0, z1, z2, z3, _, _, _, _⟩ := hV.four
  go_wp2_with fail
  refine (S2.out _ _ hr).mono ?_; rintro e w5 ⟨vb, rfl, hB, h5⟩
  clear zl z0 z1 z2 z3
  replace hV := hV.ext h5
  replace hr := hr.ext h5
  replace hA := hA.ext h5
  replace hE := hE.trans h5
  clear h5
  obtain ⟨zl, z0, z1, z2, z3, _, _, _, _⟩ := hV.four
  go_wp2_with fail
  refine (C1.out _ hE).mono ?_; rintro e w6 ⟨vc, rfl, hC, h6⟩
  clear zl z0 z1 z2 z3
  replace hV := hV.ext h6
  replace hr := hr.ext h6
  replace hA := hA.ext h6
  replace hB := hB.ext h6
  replace hE := hE.trans h6
  clear h6
  obtain ⟨zl, z0, z1, z2, z3, _, _, _, _⟩ := hV.four
  go_wp2_with fail
  refine (CV.out _).mono ?_; rintro e w7 ⟨rfl, h7⟩
  clear zl z0 z1 z2 z3
  replace hV := hV.ext h7
  replace hr := hr.ext h7
  replace hA := hA.ext h7
  replace hB := hB.ext h7
  replace hC := hC.ext h7
  replace hE := hE.trans h7
  clear h7
  obtain ⟨zl, z0, z1, z2, z3, _, _, _, _⟩ := hV.four
  go_wp2_with fail
  refine (C2.out _ _ hr).mono ?_; rintro e w8 ⟨vd, rfl, hD, h8⟩
  clear zl z0 z1 z2 z3
  replace hV := hV.ext h8
  replace hr := hr.ext h8
  replace hA := hA.ext h8
  replace hB := hB.ext h8
  replace hC := hC.ext h8
  replace hE := hE.trans h8
  clear h8
  obtain ⟨zl, z0, z1, z2, z3, _, _, _, _⟩ := hV.four
  go_wp2_with fail
  refine (R1.out _ hE).mono ?_; rintro e w9 ⟨vi, rfl, hI, h9⟩
  clear zl z0 z1 z2 z3
  replace hV := hV.ext h9
  replace hr := hr.ext h9
  replace hA := hA.ext h9
  replace hB := hB.ext h9
  replace hC := hC.ext h9
  replace hD := hD.ext h9
  replace hE := hE.trans h9
  clear h9
  obtain ⟨zl, z0, z1, z2, z3, _, _, _, _⟩ := hV.four
  go_wp2_with fail
  refine (CV.out _).mono ?_; rintro e w10 ⟨rfl, h10⟩
  clear zl z0 z1 z2 z3
  replace hV := hV.ext h10
  replace hr := hr.ext h10
  replace hA := hA.ext h10
  replace hB := hB.ext h10
  replace hC := hC.ext h10
  replace hD := hD.ext h10
  replace hI := hI.ext h10
  replace hE := hE.trans h10
  clear h10
  obtain ⟨zl, z0, z1, z2, z3, _, _, _, _⟩ := hV.four
  go_wp2_with fail
  refine (R2.out _ _ hr).mono ?_; rintro e w11 ⟨vk, rfl, hK, h11⟩
  clear zl z0 z1 z2 z3
  replace hV := hV.ext h11
  replace hr := hr.ext h11
  replace hA := hA.ext h11
  replace hB := hB.ext h11
  replace hC := hC.ext h11
  replace hD := hD.ext h11
  replace hI := hI.ext h11
  replace hE := hE.trans h11
  clear h11
  obtain ⟨zl, z0, z1, z2, z3, _, _, _, _⟩ := hV.four
  go_wp2_with fail
  refine (TA.out _ _ hA).mono ?_; rintro e w12 ⟨vt0, rfl, hT0, h12⟩
  clear zl z0 z1 z2 z3
  replace hV := hV.ext h12
  replace hr := hr.ext h12
  replace hA := hA.ext h12
  replace hB := hB.ext h12
  replace hC := hC.ext h12
  replace hD := hD.ext h12
  replace hI := hI.ext h12
  replace hK := hK.ext h12
  replace hE := hE.trans h12
  clear h12
  obtain ⟨zl, z0, z1, z2, z3, _, _, _, _⟩ := hV.four
  go_wp2_with fail
  refine (QA.out _ _ _ hT0 hB).mono ?_; rintro e w13 ⟨rfl, h13⟩
  clear zl z0 z1 z2 z3
  replace hV := hV.ext h13
  replace hr := hr.ext h13
  replace hA := hA.ext h13
  replace hB := hB.ext h13
  replace hC := hC.ext h13
  replace hD := hD.ext h13
  replace hI := hI.ext h13
  replace hK := hK.ext h13
  replace hT0 := hT0.ext h13
  replace hE := hE.trans h13
  clear h13
  obtain ⟨zl, z0, z1, z2, z3, _, _, _, _⟩ := hV.four
  go_wp2_with fail
  refine (TC.out _ _ hC).mono ?_; rintro e w14 ⟨vt1, rfl, hT1, h14⟩
  clear zl z0 z1 z2 z3
  replace hV := hV.ext h14
  replace hr := hr.ext h14
  replace hA := hA.ext h14
  replace hB := hB.ext h14
  replace hC := hC.ext h14
  replace hD := hD.ext h14
  replace hI := hI.ext h14
  replace hK := hK.ext h14
  replace hT0 := hT0.ext h14
  replace hE := hE.trans h14
  clear h14
  obtain ⟨zl, z0, z1, z2, z3, _, _, _, _⟩ := hV.four
  go_wp2_with fail
  refine (QC.out _ _ _ hT1 hD).mono ?_; rintro e w15 ⟨rfl, h15⟩
  clear zl z0 z1 z2 z3
  replace hV := hV.ext h15
  replace hr := hr.ext h15
  replace hA := hA.ext h15
  replace hB := hB.ext h15
  replace hC := hC.ext h15
  replace hD := hD.ext h15
  replace hI := hI.ext h15
  replace hK := hK.ext h15
  replace hT0 := hT0.ext h15
  replace hT1 := hT1.ext h15
  replace hE := hE.trans h15
  clear h15
  obtain ⟨zl, z0, z1, z2, z3, _, _, _, _⟩ := hV.four
  go_wp2_with fail
  refine (TI.out _ _ hI).mono ?_; rintro e w16 ⟨vt2, rfl, hT2, h16⟩
  clear zl z0 z1 z2 z3
  replace hV := hV.ext h16
  replace hr := hr.ext h16
  replace hA := hA.ext h16
  replace hB := hB.ext h16
  replace hC := hC.ext h16
  replace hD := hD.ext h16
  replace hI := hI.ext h16
  replace hK := hK.ext h16
  replace hT0 := hT0.ext h16
  replace hT1 := hT1.ext h16
  replace hE := hE.trans h16
  clear h16
  obtain ⟨zl, z0, z1, z2, z3, _, _, _, _⟩ := hV.four
  go_wp2_with fail
  refine (QI.out _ _ _ hT2 hK).mono ?_; rintro e w17 ⟨rfl, h17⟩
  clear zl z0 z1 z2 z3
  replace hV := hV.ext h17
  replace hr := hr.ext h17
  replace hA := hA.ext h17
  replace hB := hB.ext h17
  replace hC := hC.ext h17
  replace hD := hD.ext h17
  replace hI := hI.ext h17
  replace hK := hK.ext h17
  replace hT0 := hT0.ext h17
  replace hT1 := hT1.ext h17
  replace hT2 := hT2.ext h17
  replace hE := hE.trans h17
  clear h17
  obtain ⟨zl, z0, z1, z2, z3, _, _, _, _⟩ := hV.four
  go_wp2_with fail
  refine (F1.out _ hE).mono ?_; rintro e w18 ⟨rfl, h18⟩
  clear zl z0 z1 z2 z3
  replace hV := hV.ext h18
  replace hr := hr.ext h18
  replace hA := hA.ext h18
  replace hB := hB.ext h18
  replace hC := hC.ext h18
  replace hD := hD.ext h18
  replace hI := hI.ext h18
  replace hK := hK.ext h18
  replace hT0 := hT0.ext h18
  replace hT1 := hT1.ext h18
  replace hT2 := hT2.ext h18
  replace hE := hE.trans h18
  clear h18
  have hX := EBox.new w18 fs (vG fl) (vG fu) 38
  have hEn := (Ext.refl w18).alloc (.cells #[.string fs, .int .u64 (vG fl 0 : Nat), .int .u64 (vG fl 1 : Nat), .int .u64 (vG fl 2 : Nat), .int .u64 (vG fl 3 : Nat), .int .u64 (vG fu 0 : Nat), .int .u64 (vG fu 1 : Nat), .int .u64 (vG fu 2 : Nat), .int .u64 (vG fu 3 : Nat)] 38)
  change EBox w18.heap.size fs (vG fl) (vG fu) (w18.alloc (.cells #[.string fs, .int .u64 (vG fl 0 : Nat), .int .u64 (vG fl 1 : Nat), .int .u64 (vG fl 2 : Nat), .int .u64 (vG fl 3 : Nat), .int .u64 (vG fu 0 : Nat), .int .u64 (vG fu 1 : Nat), .int .u64 (vG fu 2 : Nat), .int .u64 (vG fu 3 : Nat)] 38)) at hX
  replace hV := hV.ext hEn
  replace hr := hr.ext hEn
  replace hA := hA.ext hEn
  replace hB := hB.ext hEn
  replace hC := hC.ext hEn
  replace hD := hD.ext hEn
  replace hI := hI.ext hEn
  replace hK := hK.ext hEn
  replace hT0 := hT0.ext hEn
  replace hT1 := hT1.ext hEn
  replace hT2 := hT2.ext hEn
  replace hE := hE.trans hEn
  clear hEn
  obtain ⟨zl, z0, z1, z2, z3, _, _, _, _⟩ := hV.four
  go_wp2_with fail
  clear zl z0 z1 z2 z3
  generalize w18.alloc (.cells #[.string fs, .int .u64 (vG fl 0 : Nat), .int .u64 (vG fl 1 : Nat), .int .u64 (vG fl 2 : Nat), .int .u64 (vG fl 3 : Nat), .int .u64 (vG fu 0 : Nat), .int .u64 (vG fu 1 : Nat), .int .u64 (vG fu 2 : Nat), .int .u64 (vG fu 3 : Nat)] 38) = w19 at *
  generalize w18.heap.size = bhX at *
  refine (F2.out _ _ hr).mono ?_; rintro e w20 ⟨rfl, h20⟩
  replace hV := hV.ext h20
  replace hr := hr.ext h20
  replace hA := hA.ext h20
  replace hB := hB.ext h20
  replace hC := hC.ext h20
  replace hD := hD.ext h20
  replace hI := hI.ext h20
  replace hK := hK.ext h20
  replace hT0 := hT0.ext h20
  replace hT1 := hT1.ext h20
  replace hT2 := hT2.ext h20
  replace hX := hX.ext h20
  replace hE := hE.trans h20
  clear h20
  have hY := EBox.new w20 fs (vG fl) (vG fu) 42
  have hEn := (Ext.refl w20).alloc (.cells #[.string fs, .int .u64 (vG fl 0 : Nat), .int .u64 (vG fl 1 : Nat), .int .u64 (vG fl 2 : Nat), .int .u64 (vG fl 3 : Nat), .int .u64 (vG fu 0 : Nat), .int .u64 (vG fu 1 : Nat), .int .u64 (vG fu 2 : Nat), .int .u64 (vG fu 3 : Nat)] 42)
  change EBox w20.heap.size fs (vG fl) (vG fu) (w20.alloc (.cells #[.string fs, .int .u64 (vG fl 0 : Nat), .int .u64 (vG fl 1 : Nat), .int .u64 (vG fl 2 : Nat), .int .u64 (vG fl 3 : Nat), .int .u64 (vG fu 0 : Nat), .int .u64 (vG fu 1 : Nat), .int .u64 (vG fu 2 : Nat), .int .u64 (vG fu 3 : Nat)] 42)) at hY
  replace hV := hV.ext hEn
  replace hr := hr.ext hEn
  replace hA := hA.ext hEn
  replace hB := hB.ext hEn
  replace hC := hC.ext hEn
  replace hD := hD.ext hEn
  replace hI := hI.ext hEn
  replace hK := hK.ext hEn
  replace hT0 := hT0.ext hEn
  replace hT1 := hT1.ext hEn
  replace hT2 := hT2.ext hEn
  replace hX := hX.ext hEn
  replace hE := hE.trans hEn
  clear hEn
  obtain ⟨zl, z0, z1, z2, z3, _, _, _, _⟩ := hV.four
  go_wp2_with fail
  clear zl z0 z1 z2 z3
  generalize w20.alloc (.cells #[.string fs, .int .u64 (vG fl 0 : Nat), .int .u64 (vG fl 1 : Nat), .int .u64 (vG fl 2 : Nat), .int .u64 (vG fl 3 : Nat), .int .u64 (vG fu 0 : Nat), .int .u64 (vG fu 1 : Nat), .int .u64 (vG fu 2 : Nat), .int .u64 (vG fu 3 : Nat)] 42) = w21 at *
  generalize w20.heap.size = bhY at *
  refine (G1.out _ hE).mono ?_; rintro e w22 ⟨vm, rfl, hM, h22⟩
  replace hV := hV.ext h22
  replace hr := hr.ext h22
  replace hA := hA.ext h22
  replace hB := hB.ext h22
  replace hC := hC.ext h22
  replace hD := hD.ext h22
  replace hI := hI.ext h22
  replace hK := hK.ext h22
  replace hT0 := hT0.ext h22
  replace hT1 := hT1.ext h22
  replace hT2 := hT2.ext h22
  replace hX := hX.ext h22
  replace hY := hY.ext h22
  replace hE := hE.trans h22
  clear h22
  obtain ⟨zl, z0, z1, z2, z3, _, _, _, _⟩ := hV.four
  go_wp2_with fail
  refine (G2.out _).mono ?_; rintro e w23 ⟨vn, rfl, hN, h23⟩
  clear zl z0 z1 z2 z3
  replace hV := hV.ext h23
  replace hr := hr.ext h23
  replace hA := hA.ext h23
  replace hB := hB.ext h23
  replace hC := hC.ext h23
  replace hD := hD.ext h23
  replace hI := hI.ext h23
  replace hK := hK.ext h23
  replace hT0 := hT0.ext h23
  replace hT1 := hT1.ext h23
  replace hT2 := hT2.ext h23
  replace hX := hX.ext h23
  replace hY := hY.ext h23
  replace hM := hM.ext h23
  replace hE := hE.trans h23
  clear h23
  obtain ⟨xl, x0, x1, x2, x3, x4, x5, x6, x7, x8, _, _, _, _, _, _, _, _, _⟩ := id hX
  obtain ⟨yl, y0, y1, y2, y3, y4, y5, y6, y7, y8, _, _, _, _, _, _, _, _, _⟩ := id hY
  have hM2 := Lib.hid (fun U (h : Ext w23 U) => TM.out U _ (hM.ext h))
  have hN2 := Lib.hid (fun U (h : Ext w23 U) => hN.ext h)
  obtain ⟨zl, z0, z1, z2, z3, _, _, _, _⟩ := hV.four
  go_wp2_with fail
  try simp only [Act.put, List.setIfInBounds_toArray, List.set_cons_succ, List.set_cons_zero]
  refine Dm.wp_region_ext 43 (Dm.bits 43 0) (Ext.refl w23) (by kernel_rfl) (by kernel_rfl) (by kernel_rfl) ?_
  refine Dm.wpE_take (i := 0) (listed' := (Dm.bits 43 1)) (by kernel_rfl) (by kernel_rfl) rfl (fun _ _ _ _ h => h) ?_; apply Exists.intro; refine And.intro (fun x => ?_) ?_
  · go_big_quiet_step ((first | (go_at_call 8; with_reducible exact Calls.quietE (VL.out _)) | (go_at_call 8; with_reducible exact Calls.quietE (VU.out _)))); exact wpQuiet_nil rfl
  refine Dm.wpE_take (i := 1) (listed' := (Dm.bits 43 3)) (by kernel_rfl) (by kernel_rfl) rfl (fun _ _ _ _ h => h) ?_; apply Exists.intro; refine And.intro (fun x => ?_) ?_
  · go_big_quiet_step ((first | (go_at_call 8; with_reducible exact Calls.quietE (VL.out _)) | (go_at_call 8; with_reducible exact Calls.quietE (VU.out _)))); exact wpQuiet_nil rfl
  refine Dm.wpE_take (i := 2) (listed' := (Dm.bits 43 7)) (by kernel_rfl) (by kernel_rfl) rfl (fun _ _ _ _ h => h) ?_; apply Exists.intro; refine And.intro (fun x => ?_) ?_
  · go_big_quiet_step ((first | (go_at_call 8; with_reducible exact Calls.quietE (VL.out _)) | (go_at_call 8; with_reducible exact Calls.quietE (VU.out _)))); exact wpQuiet_nil rfl
  refine Dm.wpE_take (i := 3) (listed' := (Dm.bits 43 15)) (by kernel_rfl) (by kernel_rfl) rfl (fun _ _ _ _ h => h) ?_; apply Exists.intro; refine And.intro (fun x => ?_) ?_
  · go_big_quiet_step ((first | (go_at_call 8; with_reducible exact Calls.quietE (VL.out _)) | (go_at_call 8; with_reducible exact Calls.quietE (VU.out _)))); exact wpQuiet_nil rfl
  refine Dm.wpE_take (i := 4) (listed' := (Dm.bits 43 31)) (by kernel_rfl) (by kernel_rfl) rfl (fun _ _ _ _ h => h) ?_; apply Exists.intro; refine And.intro (fun x => ?_) ?_
  · go_big_quiet_step ((first | (go_at_call 8; with_reducible exact Calls.quietE (VL.out _)) | (go_at_call 8; with_reducible exact Calls.quietE (VU.out _)))); exact wpQuiet_nil rfl
  refine Dm.wpE_take (i := 5) (listed' := (Dm.bits 43 63)) (by kernel_rfl) (by kernel_rfl) rfl (fun _ _ _ _ h => h) ?_; apply Exists.intro; refine And.intro (fun x => ?_) ?_
  · go_big_quiet_step ((first | (go_at_call 8; with_reducible exact Calls.quietE (VL.out _)) | (go_at_call 8; with_reducible exact Calls.quietE (VU.out _)))); exact wpQuiet_nil rfl
  refine Dm.wpE_take (i := 6) (listed' := (Dm.bits 43 127)) (by kernel_rfl) (by kernel_rfl) rfl (fun _ _ _ _ h => h) ?_; apply Exists.intro; refine And.intro (fun x => ?_) ?_
  · go_big_quiet_step ((first | (go_at_call 8; with_reducible exact Calls.quietE (VL.out _)) | (go_at_call 8; with_reducible exact Calls.quietE (VU.out _)))); exact wpQuiet_nil rfl
  refine Dm.wpE_take (i := 7) (listed' := (Dm.bits 43 255)) (by kernel_rfl) (by kernel_rfl) rfl (fun _ _ _ _ h => h) ?_; apply Exists.intro; refine And.intro (fun x => ?_) ?_
  · go_big_quiet_step ((first | (go_at_call 8; with_reducible exact Calls.quietE (VL.out _)) | (go_at_call 8; with_reducible exact Calls.quietE (VU.out _)))); exact wpQuiet_nil rfl
  refine Dm.wpE_take (i := 8) (listed' := (Dm.bits 43 511)) (by kernel_rfl) (by kernel_rfl) rfl (fun _ _ _ _ h => h) ?_; apply Exists.intro; refine And.intro (fun x => ?_) ?_
  · go_big_quiet_step ((first | (go_at_call 8; with_reducible exact Calls.quietE (VL.out _)) | (go_at_call 8; with_reducible exact Calls.quietE (VU.out _)))); exact wpQuiet_nil rfl
  refine Dm.wpE_take (i := 9) (listed' := (Dm.bits 43 1023)) (by kernel_rfl) (by kernel_rfl) rfl (fun _ _ _ _ h => h) ?_; apply Exists.intro; refine And.intro (fun x => ?_) ?_
  · go_big_quiet_step ((first | (go_at_call 8; with_reducible exact Calls.quietE (VL.out _)) | (go_at_call 8; with_reducible exact Calls.quietE (VU.out _)))); exact wpQuiet_nil rfl
  refine Dm.wpE_take (i := 10) (listed' := (Dm.bits 43 2047)) (by kernel_rfl) (by kernel_rfl) rfl (fun _ _ _ _ h => h) ?_; apply Exists.intro; refine And.intro (fun x => ?_) ?_
  · go_big_quiet_step ((first | (go_at_call 8; with_reducible exact Calls.quietE (VL.out _)) | (go_at_call 8; with_reducible exact Calls.quietE (VU.out _)))); exact wpQuiet_nil rfl
  refine Dm.wpE_take (i := 11) (listed' := (Dm.bits 43 4095)) (by kernel_rfl) (by kernel_rfl) rfl (fun _ _ _ _ h => h) ?_; apply Exists.intro; refine And.intro (fun x => ?_) ?_
  · go_big_quiet_step ((first | (go_at_call 8; with_reducible exact Calls.quietE (VL.out _)) | (go_at_call 8; with_reducible exact Calls.quietE (VU.out _)))); exact wpQuiet_nil rfl
  refine Dm.wpE_take (i := 12) (listed' := (Dm.bits 43 8191)) (by kernel_rfl) (by kernel_rfl) rfl (fun _ _ _ _ h => h) ?_; apply Exists.intro; refine And.intro (fun x => ?_) ?_
  · go_big_quiet_step ((first | (go_at_call 8; with_reducible exact Calls.quietE (VL.out _)) | (go_at_call 8; with_reducible exact Calls.quietE (VU.out _)))); exact wpQuiet_nil rfl
  refine Dm.wpE_take (i := 13) (listed' := (Dm.bits 43 16383)) (by kernel_rfl) (by kernel_rfl) rfl (fun _ _ _ _ h => h) ?_; apply Exists.intro; refine And.intro (fun x => ?_) ?_
  · go_big_quiet_step ((first | (go_at_call 8; with_reducible exact Calls.quietE (VL.out _)) | (go_at_call 8; with_reducible exact Calls.quietE (VU.out _)))); exact wpQuiet_nil rfl
  refine Dm.wpE_take (i := 14) (listed' := (Dm.bits 43 32767)) (by kernel_rfl) (by kernel_rfl) rfl (fun _ _ _ _ h => h) ?_; apply Exists.intro; refine And.intro (fun x => ?_) ?_
  · go_big_quiet_step ((first | (go_at_call 8; with_reducible exact Calls.quietE (VL.out _)) | (go_at_call 8; with_reducible exact Calls.quietE (VU.out _)))); exact wpQuiet_nil rfl
  refine Dm.wpE_take (i := 15) (listed' := (Dm.bits 43 65535)) (by kernel_rfl) (by kernel_rfl) rfl (fun _ _ _ _ h => h) ?_; apply Exists.intro; refine And.intro (fun x => ?_) ?_
  · go_big_quiet_step ((first | (go_at_call 8; with_reducible exact Calls.quietE (VL.out _)) | (go_at_call 8; with_reducible exact Calls.quietE (VU.out _)))); exact wpQuiet_nil rfl
  refine Dm.wpE_take (i := 16) (listed' := (Dm.bits 43 131071)) (by kernel_rfl) (by kernel_rfl) rfl (fun _ _ _ _ h => h) ?_; apply Exists.intro; refine And.intro (fun x => ?_) ?_
  · go_big_quiet_step ((first | (go_at_call 8; with_reducible exact Calls.quietE (VL.out _)) | (go_at_call 8; with_reducible exact Calls.quietE (VU.out _)))); exact wpQuiet_nil rfl
  refine Dm.wpE_take (i := 17) (listed' := (Dm.bits 43 262143)) (by kernel_rfl) (by kernel_rfl) rfl (fun _ _ _ _ h => h) ?_; apply Exists.intro; refine And.intro (fun x => ?_) ?_
  · go_big_quiet_step ((first | (go_at_call 8; with_reducible exact Calls.quietE (VL.out _)) | (go_at_call 8; with_reducible exact Calls.quietE (VU.out _)))); exact wpQuiet_nil rfl
  refine Dm.wpE_take (i := 18) (listed' := (Dm.bits 43 524287)) (by kernel_rfl) (by kernel_rfl) rfl (fun _ _ _ _ h => h) ?_; apply Exists.intro; refine And.intro (fun x => ?_) ?_
  · go_big_quiet_step ((first | (go_at_call 8; with_reducible exact Calls.quietE (VL.out _)) | (go_at_call 8; with_reducible exact Calls.quietE (VU.out _)))); exact wpQuiet_nil rfl
  refine Dm.wpE_take (i := 19) (listed' := (Dm.bits 43 1048575)) (by kernel_rfl) (by kernel_rfl) rfl (fun _ _ _ _ h => h) ?_; apply Exists.intro; refine And.intro (fun x => ?_) ?_
  · go_big_quiet_step ((first | (go_at_call 8; with_reducible exact Calls.quietE (VL.out _)) | (go_at_call 8; with_reducible exact Calls.quietE (VU.out _)))); exact wpQuiet_nil rfl
  refine Dm.wpE_take (i := 20) (listed' := (Dm.bits 43 2097151)) (by kernel_rfl) (by kernel_rfl) rfl (fun _ _ _ _ h => h) ?_; apply Exists.intro; refine And.intro (fun x => ?_) ?_
  · go_big_quiet_step ((first | (go_at_call 8; with_reducible exact Calls.quietE (VL.out _)) | (go_at_call 8; with_reducible exact Calls.quietE (VU.out _)))); exact wpQuiet_nil rfl
  refine Dm.wpE_take (i := 21) (listed' := (Dm.bits 43 4194303)) (by kernel_rfl) (by kernel_rfl) rfl (fun _ _ _ _ h => h) ?_; apply Exists.intro; refine And.intro (fun x => ?_) ?_
  · go_big_quiet_step ((first | (go_at_call 8; with_reducible exact Calls.quietE (VL.out _)) | (go_at_call 8; with_reducible exact Calls.quietE (VU.out _)))); exact wpQuiet_nil rfl
  refine Dm.wpE_take (i := 22) (listed' := (Dm.bits 43 8388607)) (by kernel_rfl) (by kernel_rfl) rfl (fun _ _ _ _ h => h) ?_; apply Exists.intro; refine And.intro (fun x => ?_) ?_
  · go_big_quiet_step ((first | (go_at_call 8; with_reducible exact Calls.quietE (VL.out _)) | (go_at_call 8; with_reducible exact Calls.quietE (VU.out _)))); exact wpQuiet_nil rfl
  refine Dm.wpE_take (i := 23) (listed' := (Dm.bits 43 16777215)) (by kernel_rfl) (by kernel_rfl) rfl (fun _ _ _ _ h => h) ?_; apply Exists.intro; refine And.intro (fun x => ?_) ?_
  · go_big_quiet_step ((first | (go_at_call 8; with_reducible exact Calls.quietE (VL.out _)) | (go_at_call 8; with_reducible exact Calls.quietE (VU.out _)))); exact wpQuiet_nil rfl
  refine Dm.wpE_take (i := 24) (listed' := (Dm.bits 43 33554431)) (by kernel_rfl) (by kernel_rfl) rfl (fun _ _ _ _ h => h) ?_; apply Exists.intro; refine And.intro (fun x => ?_) ?_
  · go_big_quiet_step ((first | (go_at_call 8; with_reducible exact Calls.quietE (VL.out _)) | (go_at_call 8; with_reducible exact Calls.quietE (VU.out _)))); exact wpQuiet_nil rfl
  refine Dm.wpE_take (i := 25) (listed' := (Dm.bits 43 67108863)) (by kernel_rfl) (by kernel_rfl) rfl (fun _ _ _ _ h => h) ?_; apply Exists.intro; refine And.intro (fun x => ?_) ?_
  · go_big_quiet_step ((first | (go_at_call 8; with_reducible exact Calls.quietE (VL.out _)) | (go_at_call 8; with_reducible exact Calls.quietE (VU.out _)))); exact wpQuiet_nil rfl
  refine Dm.wpE_take (i := 26) (listed' := (Dm.bits 43 134217727)) (by kernel_rfl) (by kernel_rfl) rfl (fun _ _ _ _ h => h) ?_; apply Exists.intro; refine And.intro (fun x => ?_) ?_
  · go_big_quiet_step ((first | (go_at_call 8; with_reducible exact Calls.quietE (VL.out _)) | (go_at_call 8; with_reducible exact Calls.quietE (VU.out _)))); exact wpQuiet_nil rfl
  refine Dm.wpE_take (i := 27) (listed' := (Dm.bits 43 268435455)) (by kernel_rfl) (by kernel_rfl) rfl (fun _ _ _ _ h => h) ?_; apply Exists.intro; refine And.intro (fun x => ?_) ?_
  · go_big_quiet_step ((first | (go_at_call 8; with_reducible exact Calls.quietE (VL.out _)) | (go_at_call 8; with_reducible exact Calls.quietE (VU.out _)))); exact wpQuiet_nil rfl
  refine Dm.wpE_take (i := 29) (listed' := (Dm.bits 43 805306367)) (by kernel_rfl) (by kernel_rfl) rfl (fun _ _ _ _ h => h) ?_; apply Exists.intro; refine And.intro (fun x => ?_) ?_
  · go_big_quiet_step ((first | (go_at_call 8; with_reducible exact Calls.quietE (VL.out _)) | (go_at_call 8; with_reducible exact Calls.quietE (VU.out _)))); exact wpQuiet_nil rfl
  refine Dm.wpE_one (i := 28) (listed' := (Dm.bits 43 1073741823)) (by kernel_rfl) (by kernel_rfl) rfl (Ext.refl w23) (fun w1a hx1a => ?_)
  have hX1a := Ext.trans (Ext.refl w23) hx1a
  go_wp2_with (go_at_call 5; go_must (refine (hM2.out w1a hX1a).mono ?_; rintro e w1b ⟨vrm, rfl, hrm, hs1⟩))
  have hX1b := Ext.trans hX1a hs1
  try simp only [Exit.then, Act.put, List.setIfInBounds_toArray, List.set_cons_succ, List.set_cons_zero]
  refine Dm.wpE_one (i := 30) (listed' := (Dm.bits 43 2147483647)) (by kernel_rfl) (by kernel_rfl) rfl hX1b (fun w2a hx2a => ?_)
  have hX2a := Ext.trans hX1b hx2a
  replace hrm := hrm.ext hx2a
  go_wp2_with (go_at_call 13; go_must (refine (QM.out _ _ _ hrm (hN2.out _ hX2a)).mono ?_; rintro e w2b ⟨rfl, hs2⟩))
  clear hrm
  have hX2b := Ext.trans hX2a hs2
  try simp only [Exit.then, Act.put, List.setIfInBounds_toArray, List.set_cons_succ, List.set_cons_zero]
  refine Dm.wpE_take (i := 31) (listed' := (Dm.bits 43 4294967295)) (by kernel_rfl) (by kernel_rfl) rfl (fun _ _ _ _ h => h) ?_; apply Exists.intro; refine And.intro (fun x => ?_) ?_
  · go_big_quiet_step ((first | (go_at_call 8; with_reducible exact Calls.quietE (VL.out _)) | (go_at_call 8; with_reducible exact Calls.quietE (VU.out _)))); exact wpQuiet_nil rfl
  refine Dm.wpE_take (i := 32) (listed' := (Dm.bits 43 8589934591)) (by kernel_rfl) (by kernel_rfl) rfl (fun _ _ _ _ h => h) ?_; apply Exists.intro; refine And.intro (fun x => ?_) ?_
  · go_big_quiet_step ((first | (go_at_call 8; with_reducible exact Calls.quietE (VL.out _)) | (go_at_call 8; with_reducible exact Calls.quietE (VU.out _)))); exact wpQuiet_nil rfl
  refine Dm.wpE_take (i := 33) (listed' := (Dm.bits 43 17179869183)) (by kernel_rfl) (by kernel_rfl) rfl (fun _ _ _ _ h => h) ?_; apply Exists.intro; refine And.intro (fun x => ?_) ?_
  · go_big_quiet_step ((first | (go_at_call 8; with_reducible exact Calls.quietE (VL.out _)) | (go_at_call 8; with_reducible exact Calls.quietE (VU.out _)))); exact wpQuiet_nil rfl
  refine Dm.wpE_take (i := 34) (listed' := (Dm.bits 43 34359738367)) (by kernel_rfl) (by kernel_rfl) rfl (fun _ _ _ _ h => h) ?_; apply Exists.intro; refine And.intro (fun x => ?_) ?_
  · go_big_quiet_step ((first | (go_at_call 8; with_reducible exact Calls.quietE (VL.out _)) | (go_at_call 8; with_reducible exact Calls.quietE (VU.out _)))); exact wpQuiet_nil rfl
  refine Dm.wpE_take (i := 35) (listed' := (Dm.bits 43 68719476735)) (by kernel_rfl) (by kernel_rfl) rfl (fun _ _ _ _ h => h) ?_; apply Exists.intro; refine And.intro (fun x => ?_) ?_
  · go_big_quiet_step ((first | (go_at_call 8; with_reducible exact Calls.quietE (VL.out _)) | (go_at_call 8; with_reducible exact Calls.quietE (VU.out _)))); exact wpQuiet_nil rfl
  refine Dm.wpE_take (i := 36) (listed' := (Dm.bits 43 137438953471)) (by kernel_rfl) (by kernel_rfl) rfl (fun _ _ _ _ h => h) ?_; apply Exists.intro; refine And.intro (fun x => ?_) ?_
  · go_big_quiet_step ((first | (go_at_call 8; with_reducible exact Calls.quietE (VL.out _)) | (go_at_call 8; with_reducible exact Calls.quietE (VU.out _)))); exact wpQuiet_nil rfl
  refine Dm.wpE_take (i := 37) (listed' := (Dm.bits 43 274877906943)) (by kernel_rfl) (by kernel_rfl) rfl (fun _ _ _ _ h => h) ?_; apply Exists.intro; refine And.intro (fun x => ?_) ?_
  · go_big_quiet_step ((first | (go_at_call 8; with_reducible exact Calls.quietE (VL.out _)) | (go_at_call 8; with_reducible exact Calls.quietE (VU.out _)))); exact wpQuiet_nil rfl
  refine Dm.wpE_take (i := 38) (listed' := (Dm.bits 43 549755813887)) (by kernel_rfl) (by kernel_rfl) rfl (fun _ _ _ _ h => h) ?_; apply Exists.intro; refine And.intro (fun x => ?_) ?_
  · go_big_quiet_step ((first | (go_at_call 8; with_reducible exact Calls.quietE (VL.out _)) | (go_at_call 8; with_reducible exact Calls.quietE (VU.out _)))); exact wpQuiet_nil rfl
  refine Dm.wpE_take (i := 39) (listed' := (Dm.bits 43 1099511627775)) (by kernel_rfl) (by kernel_rfl) rfl (fun _ _ _ _ h => h) ?_; apply Exists.intro; refine And.intro (fun x => ?_) ?_
  · go_big_quiet_step ((first | (go_at_call 8; with_reducible exact Calls.quietE (VL.out _)) | (go_at_call 8; with_reducible exact Calls.quietE (VU.out _)))); exact wpQuiet_nil rfl
  refine Dm.wpE_take (i := 40) (listed' := (Dm.bits 43 2199023255551)) (by kernel_rfl) (by kernel_rfl) rfl (fun _ _ _ _ h => h) ?_; apply Exists.intro; refine And.intro (fun x => ?_) ?_
  · go_big_quiet_step ((first | (go_at_call 8; with_reducible exact Calls.quietE (VL.out _)) | (go_at_call 8; with_reducible exact Calls.quietE (VU.out _)))); exact wpQuiet_nil rfl
  refine Dm.wpE_take (i := 41) (listed' := (Dm.bits 43 4398046511103)) (by kernel_rfl) (by kernel_rfl) rfl (fun _ _ _ _ h => h) ?_; apply Exists.intro; refine And.intro (fun x => ?_) ?_
  · go_big_quiet_step ((first | (go_at_call 8; with_reducible exact Calls.quietE (VL.out _)) | (go_at_call 8; with_reducible exact Calls.quietE (VU.out _)))); exact wpQuiet_nil rfl
  refine Dm.wpE_take (i := 42) (listed' := (Dm.bits 43 8796093022207)) (by kernel_rfl) (by kernel_rfl) rfl (fun _ _ _ _ h => h) ?_; apply Exists.intro; refine And.intro (fun x => ?_) ?_
  · go_big_quiet_step ((first | (go_at_call 8; with_reducible exact Calls.quietE (VL.out _)) | (go_at_call 8; with_reducible exact Calls.quietE (VU.out _)))); exact wpQuiet_nil rfl
  refine Dm.wpE_done (by kernel_rfl) hX2b (fun w3a hx3a => ?_)
  have hX3a := Ext.trans hX2b hx3a
  clear hM2 hN2 xl x0 x1 x2 x3 x4 x5 x6 x7 x8 yl y0 y1 y2 y3 y4 y5 y6 y7 y8 zl z0 z1 z2 z3
  replace hV := hV.ext hX3a
  replace hr := hr.ext hX3a
  replace hA := hA.ext hX3a
  replace hB := hB.ext hX3a
  replace hC := hC.ext hX3a
  replace hD := hD.ext hX3a
  replace hI := hI.ext hX3a
  replace hK := hK.ext hX3a
  replace hT0 := hT0.ext hX3a
  replace hT1 := hT1.ext hX3a
  replace hT2 := hT2.ext hX3a
  replace hX := hX.ext hX3a
  replace hY := hY.ext hX3a
  replace hM := hM.ext hX3a
  replace hN := hN.ext hX3a
  replace hE := hE.trans hX3a
  generalize w3a = wf at *
  obtain ⟨zl, z0, z1, z2, z3, _, _, _, _⟩ := hV.four
  go_wp2_with fail
  have qc := Lib.hid (fun U (h : Ext wf U) => L1.out U (hE.trans h))
  have qd := Lib.hid (fun U (h : Ext wf U) => L2.out U _ (hr.ext h))
  have qe := Lib.hid (fun U (h : Ext wf U) => L3.out U (hE.trans h))
  have qf := Lib.hid (fun U (h : Ext wf U) => L4.out U _ (hr.ext h))
  have qg := Lib.hid (fun U (h : Ext wf U) => L5.out U (hE.trans h))
  have qh := Lib.hid (fun U (h : Ext wf U) => L6.out U _ (hr.ext h))
  try simp only [Act.put, List.setIfInBounds_toArray, List.set_cons_succ, List.set_cons_zero]
  refine Dm.wp_region_ext 37 (Dm.bits 37 0) (Ext.refl wf) (by kernel_rfl) (by kernel_rfl) (by kernel_rfl) ?_
  refine Dm.wpE_take (i := 0) (listed' := (Dm.bits 37 1)) (by kernel_rfl) (by kernel_rfl) rfl (fun _ _ _ _ h => h) ?_; apply Exists.intro; refine And.intro (fun x => ?_) ?_
  · go_big_quiet_step ((first | (go_at_call 8; with_reducible exact Calls.quietE (CV.out _)) | (go_at_call 18; with_reducible exact Calls.quietE (qc.out _ (by repeat (first | assumption | exact Ext.refl _ | refine Ext.trans ?_ (ext_grow _ _))))) | (go_at_call 19; with_reducible exact Calls.quietE (qd.out _ (by repeat (first | assumption | exact Ext.refl _ | refine Ext.trans ?_ (ext_grow _ _))))) | (go_at_call 20; with_reducible exact Calls.quietE (qe.out _ (by repeat (first | assumption | exact Ext.refl _ | refine Ext.trans ?_ (ext_grow _ _))))) | (go_at_call 21; with_reducible exact Calls.quietE (qf.out _ (by repeat (first | assumption | exact Ext.refl _ | refine Ext.trans ?_ (ext_grow _ _))))) | (go_at_call 22; with_reducible exact Calls.quietE (qg.out _ (by repeat (first | assumption | exact Ext.refl _ | refine Ext.trans ?_ (ext_grow _ _))))) | (go_at_call 23; with_reducible exact Calls.quietE (qh.out _ (by repeat (first | assumption | exact Ext.refl _ | refine Ext.trans ?_ (ext_grow _ _))))))); exact wpQuiet_nil rfl
  refine Dm.wpE_take (i := 1) (listed' := (Dm.bits 37 3)) (by kernel_rfl) (by kernel_rfl) rfl (fun _ _ _ _ h => h) ?_; apply Exists.intro; refine And.intro (fun x => ?_) ?_
  · go_big_quiet_step ((first | (go_at_call 8; with_reducible exact Calls.quietE (CV.out _)) | (go_at_call 18; with_reducible exact Calls.quietE (qc.out _ (by repeat (first | assumption | exact Ext.refl _ | refine Ext.trans ?_ (ext_grow _ _))))) | (go_at_call 19; with_reducible exact Calls.quietE (qd.out _ (by repeat (first | assumption | exact Ext.refl _ | refine Ext.trans ?_ (ext_grow _ _))))) | (go_at_call 20; with_reducible exact Calls.quietE (qe.out _ (by repeat (first | assumption | exact Ext.refl _ | refine Ext.trans ?_ (ext_grow _ _))))) | (go_at_call 21; with_reducible exact Calls.quietE (qf.out _ (by repeat (first | assumption | exact Ext.refl _ | refine Ext.trans ?_ (ext_grow _ _))))) | (go_at_call 22; with_reducible exact Calls.quietE (qg.out _ (by repeat (first | assumption | exact Ext.refl _ | refine Ext.trans ?_ (ext_grow _ _))))) | (go_at_call 23; with_reducible exact Calls.quietE (qh.out _ (by repeat (first | assumption | exact Ext.refl _ | refine Ext.trans ?_ (ext_grow _ _))))))); exact wpQuiet_nil rfl
  refine Dm.wpE_take (i := 2) (listed' := (Dm.bits 37 7)) (by kernel_rfl) (by kernel_rfl) rfl (fun _ _ _ _ h => h) ?_; apply Exists.intro; refine And.intro (fun x => ?_) ?_
  · go_big_quiet_step ((first | (go_at_call 8; with_reducible exact Calls.quietE (CV.out _)) | (go_at_call 18; with_reducible exact Calls.quietE (qc.out _ (by repeat (first | assumption | exact Ext.refl _ | refine Ext.trans ?_ (ext_grow _ _))))) | (go_at_call 19; with_reducible exact Calls.quietE (qd.out _ (by repeat (first | assumption | exact Ext.refl _ | refine Ext.trans ?_ (ext_grow _ _))))) | (go_at_call 20; with_reducible exact Calls.quietE (qe.out _ (by repeat (first | assumption | exact Ext.refl _ | refine Ext.trans ?_ (ext_grow _ _))))) | (go_at_call 21; with_reducible exact Calls.quietE (qf.out _ (by repeat (first | assumption | exact Ext.refl _ | refine Ext.trans ?_ (ext_grow _ _))))) | (go_at_call 22; with_reducible exact Calls.quietE (qg.out _ (by repeat (first | assumption | exact Ext.refl _ | refine Ext.trans ?_ (ext_grow _ _))))) | (go_at_call 23; with_reducible exact Calls.quietE (qh.out _ (by repeat (first | assumption | exact Ext.refl _ | refine Ext.trans ?_ (ext_grow _ _))))))); exact wpQuiet_nil rfl
  refine Dm.wpE_take (i := 3) (listed' := (Dm.bits 37 15)) (by kernel_rfl) (by kernel_rfl) rfl (fun _ _ _ _ h => h) ?_; apply Exists.intro; refine And.intro (fun x => ?_) ?_
  · go_big_quiet_step ((first | (go_at_call 8; with_reducible exact Calls.quietE (CV.out _)) | (go_at_call 18; with_reducible exact Calls.quietE (qc.out _ (by repeat (first | assumption | exact Ext.refl _ | refine Ext.trans ?_ (ext_grow _ _))))) | (go_at_call 19; with_reducible exact Calls.quietE (qd.out _ (by repeat (first | assumption | exact Ext.refl _ | refine Ext.trans ?_ (ext_grow _ _))))) | (go_at_call 20; with_reducible exact Calls.quietE (qe.out _ (by repeat (first | assumption | exact Ext.refl _ | refine Ext.trans ?_ (ext_grow _ _))))) | (go_at_call 21; with_reducible exact Calls.quietE (qf.out _ (by repeat (first | assumption | exact Ext.refl _ | refine Ext.trans ?_ (ext_grow _ _))))) | (go_at_call 22; with_reducible exact Calls.quietE (qg.out _ (by repeat (first | assumption | exact Ext.refl _ | refine Ext.trans ?_ (ext_grow _ _))))) | (go_at_call 23; with_reducible exact Calls.quietE (qh.out _ (by repeat (first | assumption | exact Ext.refl _ | refine Ext.trans ?_ (ext_grow _ _))))))); exact wpQuiet_nil rfl
  refine Dm.wpE_take (i := 4) (listed' := (Dm.bits 37 31)) (by kernel_rfl) (by kernel_rfl) rfl (fun _ _ _ _ h => h) ?_; apply Exists.intro; refine And.intro (fun x => ?_) ?_
  · go_big_quiet_step ((first | (go_at_call 8; with_reducible exact Calls.quietE (CV.out _)) | (go_at_call 18; with_reducible exact Calls.quietE (qc.out _ (by repeat (first | assumption | exact Ext.refl _ | refine Ext.trans ?_ (ext_grow _ _))))) | (go_at_call 19; with_reducible exact Calls.quietE (qd.out _ (by repeat (first | assumption | exact Ext.refl _ | refine Ext.trans ?_ (ext_grow _ _))))) | (go_at_call 20; with_reducible exact Calls.quietE (qe.out _ (by repeat (first | assumption | exact Ext.refl _ | refine Ext.trans ?_ (ext_grow _ _))))) | (go_at_call 21; with_reducible exact Calls.quietE (qf.out _ (by repeat (first | assumption | exact Ext.refl _ | refine Ext.trans ?_ (ext_grow _ _))))) | (go_at_call 22; with_reducible exact Calls.quietE (qg.out _ (by repeat (first | assumption | exact Ext.refl _ | refine Ext.trans ?_ (ext_grow _ _))))) | (go_at_call 23; with_reducible exact Calls.quietE (qh.out _ (by repeat (first | assumption | exact Ext.refl _ | refine Ext.trans ?_ (ext_grow _ _))))))); exact wpQuiet_nil rfl
  refine Dm.wpE_take (i := 5) (listed' := (Dm.bits 37 63)) (by kernel_rfl) (by kernel_rfl) rfl (fun _ _ _ _ h => h) ?_; apply Exists.intro; refine And.intro (fun x => ?_) ?_
  · go_big_quiet_step ((first | (go_at_call 8; with_reducible exact Calls.quietE (CV.out _)) | (go_at_call 18; with_reducible exact Calls.quietE (qc.out _ (by repeat (first | assumption | exact Ext.refl _ | refine Ext.trans ?_ (ext_grow _ _))))) | (go_at_call 19; with_reducible exact Calls.quietE (qd.out _ (by repeat (first | assumption | exact Ext.refl _ | refine Ext.trans ?_ (ext_grow _ _))))) | (go_at_call 20; with_reducible exact Calls.quietE (qe.out _ (by repeat (first | assumption | exact Ext.refl _ | refine Ext.trans ?_ (ext_grow _ _))))) | (go_at_call 21; with_reducible exact Calls.quietE (qf.out _ (by repeat (first | assumption | exact Ext.refl _ | refine Ext.trans ?_ (ext_grow _ _))))) | (go_at_call 22; with_reducible exact Calls.quietE (qg.out _ (by repeat (first | assumption | exact Ext.refl _ | refine Ext.trans ?_ (ext_grow _ _))))) | (go_at_call 23; with_reducible exact Calls.quietE (qh.out _ (by repeat (first | assumption | exact Ext.refl _ | refine Ext.trans ?_ (ext_grow _ _))))))); exact wpQuiet_nil rfl
  refine Dm.wpE_take (i := 6) (listed' := (Dm.bits 37 127)) (by kernel_rfl) (by kernel_rfl) rfl (fun _ _ _ _ h => h) ?_; apply Exists.intro; refine And.intro (fun x => ?_) ?_
  · go_big_quiet_step ((first | (go_at_call 8; with_reducible exact Calls.quietE (CV.out _)) | (go_at_call 18; with_reducible exact Calls.quietE (qc.out _ (by repeat (first | assumption | exact Ext.refl _ | refine Ext.trans ?_ (ext_grow _ _))))) | (go_at_call 19; with_reducible exact Calls.quietE (qd.out _ (by repeat (first | assumption | exact Ext.refl _ | refine Ext.trans ?_ (ext_grow _ _))))) | (go_at_call 20; with_reducible exact Calls.quietE (qe.out _ (by repeat (first | assumption | exact Ext.refl _ | refine Ext.trans ?_ (ext_grow _ _))))) | (go_at_call 21; with_reducible exact Calls.quietE (qf.out _ (by repeat (first | assumption | exact Ext.refl _ | refine Ext.trans ?_ (ext_grow _ _))))) | (go_at_call 22; with_reducible exact Calls.quietE (qg.out _ (by repeat (first | assumption | exact Ext.refl _ | refine Ext.trans ?_ (ext_grow _ _))))) | (go_at_call 23; with_reducible exact Calls.quietE (qh.out _ (by repeat (first | assumption | exact Ext.refl _ | refine Ext.trans ?_ (ext_grow _ _))))))); exact wpQuiet_nil rfl
  refine Dm.wpE_take (i := 7) (listed' := (Dm.bits 37 255)) (by kernel_rfl) (by kernel_rfl) rfl (fun _ _ _ _ h => h) ?_; apply Exists.intro; refine And.intro (fun x => ?_) ?_
  · go_big_quiet_step ((first | (go_at_call 8; with_reducible exact Calls.quietE (CV.out _)) | (go_at_call 18; with_reducible exact Calls.quietE (qc.out _ (by repeat (first | assumption | exact Ext.refl _ | refine Ext.trans ?_ (ext_grow _ _))))) | (go_at_call 19; with_reducible exact Calls.quietE (qd.out _ (by repeat (first | assumption | exact Ext.refl _ | refine Ext.trans ?_ (ext_grow _ _))))) | (go_at_call 20; with_reducible exact Calls.quietE (qe.out _ (by repeat (first | assumption | exact Ext.refl _ | refine Ext.trans ?_ (ext_grow _ _))))) | (go_at_call 21; with_reducible exact Calls.quietE (qf.out _ (by repeat (first | assumption | exact Ext.refl _ | refine Ext.trans ?_ (ext_grow _ _))))) | (go_at_call 22; with_reducible exact Calls.quietE (qg.out _ (by repeat (first | assumption | exact Ext.refl _ | refine Ext.trans ?_ (ext_grow _ _))))) | (go_at_call 23; with_reducible exact Calls.quietE (qh.out _ (by repeat (first | assumption | exact Ext.refl _ | refine Ext.trans ?_ (ext_grow _ _))))))); exact wpQuiet_nil rfl
  refine Dm.wpE_take (i := 8) (listed' := (Dm.bits 37 511)) (by kernel_rfl) (by kernel_rfl) rfl (fun _ _ _ _ h => h) ?_; apply Exists.intro; refine And.intro (fun x => ?_) ?_
  · go_big_quiet_step ((first | (go_at_call 8; with_reducible exact Calls.quietE (CV.out _)) | (go_at_call 18; with_reducible exact Calls.quietE (qc.out _ (by repeat (first | assumption | exact Ext.refl _ | refine Ext.trans ?_ (ext_grow _ _))))) | (go_at_call 19; with_reducible exact Calls.quietE (qd.out _ (by repeat (first | assumption | exact Ext.refl _ | refine Ext.trans ?_ (ext_grow _ _))))) | (go_at_call 20; with_reducible exact Calls.quietE (qe.out _ (by repeat (first | assumption | exact Ext.refl _ | refine Ext.trans ?_ (ext_grow _ _))))) | (go_at_call 21; with_reducible exact Calls.quietE (qf.out _ (by repeat (first | assumption | exact Ext.refl _ | refine Ext.trans ?_ (ext_grow _ _))))) | (go_at_call 22; with_reducible exact Calls.quietE (qg.out _ (by repeat (first | assumption | exact Ext.refl _ | refine Ext.trans ?_ (ext_grow _ _))))) | (go_at_call 23; with_reducible exact Calls.quietE (qh.out _ (by repeat (first | assumption | exact Ext.refl _ | refine Ext.trans ?_ (ext_grow _ _))))))); exact wpQuiet_nil rfl
  refine Dm.wpE_take (i := 9) (listed' := (Dm.bits 37 1023)) (by kernel_rfl) (by kernel_rfl) rfl (fun _ _ _ _ h => h) ?_; apply Exists.intro; refine And.intro (fun x => ?_) ?_
  · go_big_quiet_step ((first | (go_at_call 8; with_reducible exact Calls.quietE (CV.out _)) | (go_at_call 18; with_reducible exact Calls.quietE (qc.out _ (by repeat (first | assumption | exact Ext.refl _ | refine Ext.trans ?_ (ext_grow _ _))))) | (go_at_call 19; with_reducible exact Calls.quietE (qd.out _ (by repeat (first | assumption | exact Ext.refl _ | refine Ext.trans ?_ (ext_grow _ _))))) | (go_at_call 20; with_reducible exact Calls.quietE (qe.out _ (by repeat (first | assumption | exact Ext.refl _ | refine Ext.trans ?_ (ext_grow _ _))))) | (go_at_call 21; with_reducible exact Calls.quietE (qf.out _ (by repeat (first | assumption | exact Ext.refl _ | refine Ext.trans ?_ (ext_grow _ _))))) | (go_at_call 22; with_reducible exact Calls.quietE (qg.out _ (by repeat (first | assumption | exact Ext.refl _ | refine Ext.trans ?_ (ext_grow _ _))))) | (go_at_call 23; with_reducible exact Calls.quietE (qh.out _ (by repeat (first | assumption | exact Ext.refl _ | refine Ext.trans ?_ (ext_grow _ _))))))); exact wpQuiet_nil rfl
  refine Dm.wpE_take (i := 10) (listed' := (Dm.bits 37 2047)) (by kernel_rfl) (by kernel_rfl) rfl (fun _ _ _ _ h => h) ?_; apply Exists.intro; refine And.intro (fun x => ?_) ?_
  · go_big_quiet_step ((first | (go_at_call 8; with_reducible exact Calls.quietE (CV.out _)) | (go_at_call 18; with_reducible exact Calls.quietE (qc.out _ (by repeat (first | assumption | exact Ext.refl _ | refine Ext.trans ?_ (ext_grow _ _))))) | (go_at_call 19; with_reducible exact Calls.quietE (qd.out _ (by repeat (first | assumption | exact Ext.refl _ | refine Ext.trans ?_ (ext_grow _ _))))) | (go_at_call 20; with_reducible exact Calls.quietE (qe.out _ (by repeat (first | assumption | exact Ext.refl _ | refine Ext.trans ?_ (ext_grow _ _))))) | (go_at_call 21; with_reducible exact Calls.quietE (qf.out _ (by repeat (first | assumption | exact Ext.refl _ | refine Ext.trans ?_ (ext_grow _ _))))) | (go_at_call 22; with_reducible exact Calls.quietE (qg.out _ (by repeat (first | assumption | exact Ext.refl _ | refine Ext.trans ?_ (ext_grow _ _))))) | (go_at_call 23; with_reducible exact Calls.quietE (qh.out _ (by repeat (first | assumption | exact Ext.refl _ | refine Ext.trans ?_ (ext_grow _ _))))))); exact wpQuiet_nil rfl
  refine Dm.wpE_take (i := 11) (listed' := (Dm.bits 37 4095)) (by kernel_rfl) (by kernel_rfl) rfl (fun _ _ _ _ h => h) ?_; apply Exists.intro; refine And.intro (fun x => ?_) ?_
  · go_big_quiet_step ((first | (go_at_call 8; with_reducible exact Calls.quietE (CV.out _)) | (go_at_call 18; with_reducible exact Calls.quietE (qc.out _ (by repeat (first | assumption | exact Ext.refl _ | refine Ext.trans ?_ (ext_grow _ _))))) | (go_at_call 19; with_reducible exact Calls.quietE (qd.out _ (by repeat (first | assumption | exact Ext.refl _ | refine Ext.trans ?_ (ext_grow _ _))))) | (go_at_call 20; with_reducible exact Calls.quietE (qe.out _ (by repeat (first | assumption | exact Ext.refl _ | refine Ext.trans ?_ (ext_grow _ _))))) | (go_at_call 21; with_reducible exact Calls.quietE (qf.out _ (by repeat (first | assumption | exact Ext.refl _ | refine Ext.trans ?_ (ext_grow _ _))))) | (go_at_call 22; with_reducible exact Calls.quietE (qg.out _ (by repeat (first | assumption | exact Ext.refl _ | refine Ext.trans ?_ (ext_grow _ _))))) | (go_at_call 23; with_reducible exact Calls.quietE (qh.out _ (by repeat (first | assumption | exact Ext.refl _ | refine Ext.trans ?_ (ext_grow _ _))))))); exact wpQuiet_nil rfl
  refine Dm.wpE_take (i := 12) (listed' := (Dm.bits 37 8191)) (by kernel_rfl) (by kernel_rfl) rfl (fun _ _ _ _ h => h) ?_; apply Exists.intro; refine And.intro (fun x => ?_) ?_
  · go_big_quiet_step ((first | (go_at_call 8; with_reducible exact Calls.quietE (CV.out _)) | (go_at_call 18; with_reducible exact Calls.quietE (qc.out _ (by repeat (first | assumption | exact Ext.refl _ | refine Ext.trans ?_ (ext_grow _ _))))) | (go_at_call 19; with_reducible exact Calls.quietE (qd.out _ (by repeat (first | assumption | exact Ext.refl _ | refine Ext.trans ?_ (ext_grow _ _))))) | (go_at_call 20; with_reducible exact Calls.quietE (qe.out _ (by repeat (first | assumption | exact Ext.refl _ | refine Ext.trans ?_ (ext_grow _ _))))) | (go_at_call 21; with_reducible exact Calls.quietE (qf.out _ (by repeat (first | assumption | exact Ext.refl _ | refine Ext.trans ?_ (ext_grow _ _))))) | (go_at_call 22; with_reducible exact Calls.quietE (qg.out _ (by repeat (first | assumption | exact Ext.refl _ | refine Ext.trans ?_ (ext_grow _ _))))) | (go_at_call 23; with_reducible exact Calls.quietE (qh.out _ (by repeat (first | assumption | exact Ext.refl _ | refine Ext.trans ?_ (ext_grow _ _))))))); exact wpQuiet_nil rfl
  refine Dm.wpE_take (i := 13) (listed' := (Dm.bits 37 16383)) (by kernel_rfl) (by kernel_rfl) rfl (fun _ _ _ _ h => h) ?_; apply Exists.intro; refine And.intro (fun x => ?_) ?_
  · go_big_quiet_step ((first | (go_at_call 8; with_reducible exact Calls.quietE (CV.out _)) | (go_at_call 18; with_reducible exact Calls.quietE (qc.out _ (by repeat (first | assumption | exact Ext.refl _ | refine Ext.trans ?_ (ext_grow _ _))))) | (go_at_call 19; with_reducible exact Calls.quietE (qd.out _ (by repeat (first | assumption | exact Ext.refl _ | refine Ext.trans ?_ (ext_grow _ _))))) | (go_at_call 20; with_reducible exact Calls.quietE (qe.out _ (by repeat (first | assumption | exact Ext.refl _ | refine Ext.trans ?_ (ext_grow _ _))))) | (go_at_call 21; with_reducible exact Calls.quietE (qf.out _ (by repeat (first | assumption | exact Ext.refl _ | refine Ext.trans ?_ (ext_grow _ _))))) | (go_at_call 22; with_reducible exact Calls.quietE (qg.out _ (by repeat (first | assumption | exact Ext.refl _ | refine Ext.trans ?_ (ext_grow _ _))))) | (go_at_call 23; with_reducible exact Calls.quietE (qh.out _ (by repeat (first | assumption | exact Ext.refl _ | refine Ext.trans ?_ (ext_grow _ _))))))); exact wpQuiet_nil rfl
  refine Dm.wpE_take (i := 14) (listed' := (Dm.bits 37 32767)) (by kernel_rfl) (by kernel_rfl) rfl (fun _ _ _ _ h => h) ?_; apply Exists.intro; refine And.intro (fun x => ?_) ?_
  · go_big_quiet_step ((first | (go_at_call 8; with_reducible exact Calls.quietE (CV.out _)) | (go_at_call 18; with_reducible exact Calls.quietE (qc.out _ (by repeat (first | assumption | exact Ext.refl _ | refine Ext.trans ?_ (ext_grow _ _))))) | (go_at_call 19; with_reducible exact Calls.quietE (qd.out _ (by repeat (first | assumption | exact Ext.refl _ | refine Ext.trans ?_ (ext_grow _ _))))) | (go_at_call 20; with_reducible exact Calls.quietE (qe.out _ (by repeat (first | assumption | exact Ext.refl _ | refine Ext.trans ?_ (ext_grow _ _))))) | (go_at_call 21; with_reducible exact Calls.quietE (qf.out _ (by repeat (first | assumption | exact Ext.refl _ | refine Ext.trans ?_ (ext_grow _ _))))) | (go_at_call 22; with_reducible exact Calls.quietE (qg.out _ (by repeat (first | assumption | exact Ext.refl _ | refine Ext.trans ?_ (ext_grow _ _))))) | (go_at_call 23; with_reducible exact Calls.quietE (qh.out _ (by repeat (first | assumption | exact Ext.refl _ | refine Ext.trans ?_ (ext_grow _ _))))))); exact wpQuiet_nil rfl
  refine Dm.wpE_take (i := 15) (listed' := (Dm.bits 37 65535)) (by kernel_rfl) (by kernel_rfl) rfl (fun _ _ _ _ h => h) ?_; apply Exists.intro; refine And.intro (fun x => ?_) ?_
  · go_big_quiet_step ((first | (go_at_call 8; with_reducible exact Calls.quietE (CV.out _)) | (go_at_call 18; with_reducible exact Calls.quietE (qc.out _ (by repeat (first | assumption | exact Ext.refl _ | refine Ext.trans ?_ (ext_grow _ _))))) | (go_at_call 19; with_reducible exact Calls.quietE (qd.out _ (by repeat (first | assumption | exact Ext.refl _ | refine Ext.trans ?_ (ext_grow _ _))))) | (go_at_call 20; with_reducible exact Calls.quietE (qe.out _ (by repeat (first | assumption | exact Ext.refl _ | refine Ext.trans ?_ (ext_grow _ _))))) | (go_at_call 21; with_reducible exact Calls.quietE (qf.out _ (by repeat (first | assumption | exact Ext.refl _ | refine Ext.trans ?_ (ext_grow _ _))))) | (go_at_call 22; with_reducible exact Calls.quietE (qg.out _ (by repeat (first | assumption | exact Ext.refl _ | refine Ext.trans ?_ (ext_grow _ _))))) | (go_at_call 23; with_reducible exact Calls.quietE (qh.out _ (by repeat (first | assumption | exact Ext.refl _ | refine Ext.trans ?_ (ext_grow _ _))))))); exact wpQuiet_nil rfl
  refine Dm.wpE_take (i := 16) (listed' := (Dm.bits 37 131071)) (by kernel_rfl) (by kernel_rfl) rfl (fun _ _ _ _ h => h) ?_; apply Exists.intro; refine And.intro (fun x => ?_) ?_
  · go_big_quiet_step ((first | (go_at_call 8; with_reducible exact Calls.quietE (CV.out _)) | (go_at_call 18; with_reducible exact Calls.quietE (qc.out _ (by repeat (first | assumption | exact Ext.refl _ | refine Ext.trans ?_ (ext_grow _ _))))) | (go_at_call 19; with_reducible exact Calls.quietE (qd.out _ (by repeat (first | assumption | exact Ext.refl _ | refine Ext.trans ?_ (ext_grow _ _))))) | (go_at_call 20; with_reducible exact Calls.quietE (qe.out _ (by repeat (first | assumption | exact Ext.refl _ | refine Ext.trans ?_ (ext_grow _ _))))) | (go_at_call 21; with_reducible exact Calls.quietE (qf.out _ (by repeat (first | assumption | exact Ext.refl _ | refine Ext.trans ?_ (ext_grow _ _))))) | (go_at_call 22; with_reducible exact Calls.quietE (qg.out _ (by repeat (first | assumption | exact Ext.refl _ | refine Ext.trans ?_ (ext_grow _ _))))) | (go_at_call 23; with_reducible exact Calls.quietE (qh.out _ (by repeat (first | assumption | exact Ext.refl _ | refine Ext.trans ?_ (ext_grow _ _))))))); exact wpQuiet_nil rfl
  refine Dm.wpE_take (i := 17) (listed' := (Dm.bits 37 262143)) (by kernel_rfl) (by kernel_rfl) rfl (fun _ _ _ _ h => h) ?_; apply Exists.intro; refine And.intro (fun x => ?_) ?_
  · go_big_quiet_step ((first | (go_at_call 8; with_reducible exact Calls.quietE (CV.out _)) | (go_at_call 18; with_reducible exact Calls.quietE (qc.out _ (by repeat (first | assumption | exact Ext.refl _ | refine Ext.trans ?_ (ext_grow _ _))))) | (go_at_call 19; with_reducible exact Calls.quietE (qd.out _ (by repeat (first | assumption | exact Ext.refl _ | refine Ext.trans ?_ (ext_grow _ _))))) | (go_at_call 20; with_reducible exact Calls.quietE (qe.out _ (by repeat (first | assumption | exact Ext.refl _ | refine Ext.trans ?_ (ext_grow _ _))))) | (go_at_call 21; with_reducible exact Calls.quietE (qf.out _ (by repeat (first | assumption | exact Ext.refl _ | refine Ext.trans ?_ (ext_grow _ _))))) | (go_at_call 22; with_reducible exact Calls.quietE (qg.out _ (by repeat (first | assumption | exact Ext.refl _ | refine Ext.trans ?_ (ext_grow _ _))))) | (go_at_call 23; with_reducible exact Calls.quietE (qh.out _ (by repeat (first | assumption | exact Ext.refl _ | refine Ext.trans ?_ (ext_grow _ _))))))); exact wpQuiet_nil rfl
  refine Dm.wpE_take (i := 18) (listed' := (Dm.bits 37 524287)) (by kernel_rfl) (by kernel_rfl) rfl (fun _ _ _ _ h => h) ?_; apply Exists.intro; refine And.intro (fun x => ?_) ?_
  · go_big_quiet_step ((first | (go_at_call 8; with_reducible exact Calls.quietE (CV.out _)) | (go_at_call 18; with_reducible exact Calls.quietE (qc.out _ (by repeat (first | assumption | exact Ext.refl _ | refine Ext.trans ?_ (ext_grow _ _))))) | (go_at_call 19; with_reducible exact Calls.quietE (qd.out _ (by repeat (first | assumption | exact Ext.refl _ | refine Ext.trans ?_ (ext_grow _ _))))) | (go_at_call 20; with_reducible exact Calls.quietE (qe.out _ (by repeat (first | assumption | exact Ext.refl _ | refine Ext.trans ?_ (ext_grow _ _))))) | (go_at_call 21; with_reducible exact Calls.quietE (qf.out _ (by repeat (first | assumption | exact Ext.refl _ | refine Ext.trans ?_ (ext_grow _ _))))) | (go_at_call 22; with_reducible exact Calls.quietE (qg.out _ (by repeat (first | assumption | exact Ext.refl _ | refine Ext.trans ?_ (ext_grow _ _))))) | (go_at_call 23; with_reducible exact Calls.quietE (qh.out _ (by repeat (first | assumption | exact Ext.refl _ | refine Ext.trans ?_ (ext_grow _ _))))))); exact wpQuiet_nil rfl
  refine Dm.wpE_take (i := 19) (listed' := (Dm.bits 37 1048575)) (by kernel_rfl) (by kernel_rfl) rfl (fun _ _ _ _ h => h) ?_; apply Exists.intro; refine And.intro (fun x => ?_) ?_
  · go_big_quiet_step ((first | (go_at_call 8; with_reducible exact Calls.quietE (CV.out _)) | (go_at_call 18; with_reducible exact Calls.quietE (qc.out _ (by repeat (first | assumption | exact Ext.refl _ | refine Ext.trans ?_ (ext_grow _ _))))) | (go_at_call 19; with_reducible exact Calls.quietE (qd.out _ (by repeat (first | assumption | exact Ext.refl _ | refine Ext.trans ?_ (ext_grow _ _))))) | (go_at_call 20; with_reducible exact Calls.quietE (qe.out _ (by repeat (first | assumption | exact Ext.refl _ | refine Ext.trans ?_ (ext_grow _ _))))) | (go_at_call 21; with_reducible exact Calls.quietE (qf.out _ (by repeat (first | assumption | exact Ext.refl _ | refine Ext.trans ?_ (ext_grow _ _))))) | (go_at_call 22; with_reducible exact Calls.quietE (qg.out _ (by repeat (first | assumption | exact Ext.refl _ | refine Ext.trans ?_ (ext_grow _ _))))) | (go_at_call 23; with_reducible exact Calls.quietE (qh.out _ (by repeat (first | assumption | exact Ext.refl _ | refine Ext.trans ?_ (ext_grow _ _))))))); exact wpQuiet_nil rfl
  refine Dm.wpE_take (i := 20) (listed' := (Dm.bits 37 2097151)) (by kernel_rfl) (by kernel_rfl) rfl (fun _ _ _ _ h => h) ?_; apply Exists.intro; refine And.intro (fun x => ?_) ?_
  · go_big_quiet_step ((first | (go_at_call 8; with_reducible exact Calls.quietE (CV.out _)) | (go_at_call 18; with_reducible exact Calls.quietE (qc.out _ (by repeat (first | assumption | exact Ext.refl _ | refine Ext.trans ?_ (ext_grow _ _))))) | (go_at_call 19; with_reducible exact Calls.quietE (qd.out _ (by repeat (first | assumption | exact Ext.refl _ | refine Ext.trans ?_ (ext_grow _ _))))) | (go_at_call 20; with_reducible exact Calls.quietE (qe.out _ (by repeat (first | assumption | exact Ext.refl _ | refine Ext.trans ?_ (ext_grow _ _))))) | (go_at_call 21; with_reducible exact Calls.quietE (qf.out _ (by repeat (first | assumption | exact Ext.refl _ | refine Ext.trans ?_ (ext_grow _ _))))) | (go_at_call 22; with_reducible exact Calls.quietE (qg.out _ (by repeat (first | assumption | exact Ext.refl _ | refine Ext.trans ?_ (ext_grow _ _))))) | (go_at_call 23; with_reducible exact Calls.quietE (qh.out _ (by repeat (first | assumption | exact Ext.refl _ | refine Ext.trans ?_ (ext_grow _ _))))))); exact wpQuiet_nil rfl
  refine Dm.wpE_take (i := 21) (listed' := (Dm.bits 37 4194303)) (by kernel_rfl) (by kernel_rfl) rfl (fun _ _ _ _ h => h) ?_; apply Exists.intro; refine And.intro (fun x => ?_) ?_
  · go_big_quiet_step ((first | (go_at_call 8; with_reducible exact Calls.quietE (CV.out _)) | (go_at_call 18; with_reducible exact Calls.quietE (qc.out _ (by repeat (first | assumption | exact Ext.refl _ | refine Ext.trans ?_ (ext_grow _ _))))) | (go_at_call 19; with_reducible exact Calls.quietE (qd.out _ (by repeat (first | assumption | exact Ext.refl _ | refine Ext.trans ?_ (ext_grow _ _))))) | (go_at_call 20; with_reducible exact Calls.quietE (qe.out _ (by repeat (first | assumption | exact Ext.refl _ | refine Ext.trans ?_ (ext_grow _ _))))) | (go_at_call 21; with_reducible exact Calls.quietE (qf.out _ (by repeat (first | assumption | exact Ext.refl _ | refine Ext.trans ?_ (ext_grow _ _))))) | (go_at_call 22; with_reducible exact Calls.quietE (qg.out _ (by repeat (first | assumption | exact Ext.refl _ | refine Ext.trans ?_ (ext_grow _ _))))) | (go_at_call 23; with_reducible exact Calls.quietE (qh.out _ (by repeat (first | assumption | exact Ext.refl _ | refine Ext.trans ?_ (ext_grow _ _))))))); exact wpQuiet_nil rfl
  refine Dm.wpE_take (i := 22) (listed' := (Dm.bits 37 8388607)) (by kernel_rfl) (by kernel_rfl) rfl (fun _ _ _ _ h => h) ?_; apply Exists.intro; refine And.intro (fun x => ?_) ?_
  · go_big_quiet_step ((first | (go_at_call 8; with_reducible exact Calls.quietE (CV.out _)) | (go_at_call 18; with_reducible exact Calls.quietE (qc.out _ (by repeat (first | assumption | exact Ext.refl _ | refine Ext.trans ?_ (ext_grow _ _))))) | (go_at_call 19; with_reducible exact Calls.quietE (qd.out _ (by repeat (first | assumption | exact Ext.refl _ | refine Ext.trans ?_ (ext_grow _ _))))) | (go_at_call 20; with_reducible exact Calls.quietE (qe.out _ (by repeat (first | assumption | exact Ext.refl _ | refine Ext.trans ?_ (ext_grow _ _))))) | (go_at_call 21; with_reducible exact Calls.quietE (qf.out _ (by repeat (first | assumption | exact Ext.refl _ | refine Ext.trans ?_ (ext_grow _ _))))) | (go_at_call 22; with_reducible exact Calls.quietE (qg.out _ (by repeat (first | assumption | exact Ext.refl _ | refine Ext.trans ?_ (ext_grow _ _))))) | (go_at_call 23; with_reducible exact Calls.quietE (qh.out _ (by repeat (first | assumption | exact Ext.refl _ | refine Ext.trans ?_ (ext_grow _ _))))))); exact wpQuiet_nil rfl
  refine Dm.wpE_take (i := 23) (listed' := (Dm.bits 37 16777215)) (by kernel_rfl) (by kernel_rfl) rfl (fun _ _ _ _ h => h) ?_; apply Exists.intro; refine And.intro (fun x => ?_) ?_
  · go_big_quiet_step ((first | (go_at_call 8; with_reducible exact Calls.quietE (CV.out _)) | (go_at_call 18; with_reducible exact Calls.quietE (qc.out _ (by repeat (first | assumption | exact Ext.refl _ | refine Ext.trans ?_ (ext_grow _ _))))) | (go_at_call 19; with_reducible exact Calls.quietE (qd.out _ (by repeat (first | assumption | exact Ext.refl _ | refine Ext.trans ?_ (ext_grow _ _))))) | (go_at_call 20; with_reducible exact Calls.quietE (qe.out _ (by repeat (first | assumption | exact Ext.refl _ | refine Ext.trans ?_ (ext_grow _ _))))) | (go_at_call 21; with_reducible exact Calls.quietE (qf.out _ (by repeat (first | assumption | exact Ext.refl _ | refine Ext.trans ?_ (ext_grow _ _))))) | (go_at_call 22; with_reducible exact Calls.quietE (qg.out _ (by repeat (first | assumption | exact Ext.refl _ | refine Ext.trans ?_ (ext_grow _ _))))) | (go_at_call 23; with_reducible exact Calls.quietE (qh.out _ (by repeat (first | assumption | exact Ext.refl _ | refine Ext.trans ?_ (ext_grow _ _))))))); exact wpQuiet_nil rfl
  refine Dm.wpE_take (i := 24) (listed' := (Dm.bits 37 33554431)) (by kernel_rfl) (by kernel_rfl) rfl (fun _ _ _ _ h => h) ?_; apply Exists.intro; refine And.intro (fun x => ?_) ?_
  · go_big_quiet_step ((first | (go_at_call 8; with_reducible exact Calls.quietE (CV.out _)) | (go_at_call 18; with_reducible exact Calls.quietE (qc.out _ (by repeat (first | assumption | exact Ext.refl _ | refine Ext.trans ?_ (ext_grow _ _))))) | (go_at_call 19; with_reducible exact Calls.quietE (qd.out _ (by repeat (first | assumption | exact Ext.refl _ | refine Ext.trans ?_ (ext_grow _ _))))) | (go_at_call 20; with_reducible exact Calls.quietE (qe.out _ (by repeat (first | assumption | exact Ext.refl _ | refine Ext.trans ?_ (ext_grow _ _))))) | (go_at_call 21; with_reducible exact Calls.quietE (qf.out _ (by repeat (first | assumption | exact Ext.refl _ | refine Ext.trans ?_ (ext_grow _ _))))) | (go_at_call 22; with_reducible exact Calls.quietE (qg.out _ (by repeat (first | assumption | exact Ext.refl _ | refine Ext.trans ?_ (ext_grow _ _))))) | (go_at_call 23; with_reducible exact Calls.quietE (qh.out _ (by repeat (first | assumption | exact Ext.refl _ | refine Ext.trans ?_ (ext_grow _ _))))))); exact wpQuiet_nil rfl
  refine Dm.wpE_take (i := 25) (listed' := (Dm.bits 37 67108863)) (by kernel_rfl) (by kernel_rfl) rfl (fun _ _ _ _ h => h) ?_; apply Exists.intro; refine And.intro (fun x => ?_) ?_
  · go_big_quiet_step ((first | (go_at_call 8; with_reducible exact Calls.quietE (CV.out _)) | (go_at_call 18; with_reducible exact Calls.quietE (qc.out _ (by repeat (first | assumption | exact Ext.refl _ | refine Ext.trans ?_ (ext_grow _ _))))) | (go_at_call 19; with_reducible exact Calls.quietE (qd.out _ (by repeat (first | assumption | exact Ext.refl _ | refine Ext.trans ?_ (ext_grow _ _))))) | (go_at_call 20; with_reducible exact Calls.quietE (qe.out _ (by repeat (first | assumption | exact Ext.refl _ | refine Ext.trans ?_ (ext_grow _ _))))) | (go_at_call 21; with_reducible exact Calls.quietE (qf.out _ (by repeat (first | assumption | exact Ext.refl _ | refine Ext.trans ?_ (ext_grow _ _))))) | (go_at_call 22; with_reducible exact Calls.quietE (qg.out _ (by repeat (first | assumption | exact Ext.refl _ | refine Ext.trans ?_ (ext_grow _ _))))) | (go_at_call 23; with_reducible exact Calls.quietE (qh.out _ (by repeat (first | assumption | exact Ext.refl _ | refine Ext.trans ?_ (ext_grow _ _))))))); exact wpQuiet_nil rfl
  refine Dm.wpE_take (i := 26) (listed' := (Dm.bits 37 134217727)) (by kernel_rfl) (by kernel_rfl) rfl (fun _ _ _ _ h => h) ?_; apply Exists.intro; refine And.intro (fun x => ?_) ?_
  · go_big_quiet_step ((first | (go_at_call 8; with_reducible exact Calls.quietE (CV.out _)) | (go_at_call 18; with_reducible exact Calls.quietE (qc.out _ (by repeat (first | assumption | exact Ext.refl _ | refine Ext.trans ?_ (ext_grow _ _))))) | (go_at_call 19; with_reducible exact Calls.quietE (qd.out _ (by repeat (first | assumption | exact Ext.refl _ | refine Ext.trans ?_ (ext_grow _ _))))) | (go_at_call 20; with_reducible exact Calls.quietE (qe.out _ (by repeat (first | assumption | exact Ext.refl _ | refine Ext.trans ?_ (ext_grow _ _))))) | (go_at_call 21; with_reducible exact Calls.quietE (qf.out _ (by repeat (first | assumption | exact Ext.refl _ | refine Ext.trans ?_ (ext_grow _ _))))) | (go_at_call 22; with_reducible exact Calls.quietE (qg.out _ (by repeat (first | assumption | exact Ext.refl _ | refine Ext.trans ?_ (ext_grow _ _))))) | (go_at_call 23; with_reducible exact Calls.quietE (qh.out _ (by repeat (first | assumption | exact Ext.refl _ | refine Ext.trans ?_ (ext_grow _ _))))))); exact wpQuiet_nil rfl
  refine Dm.wpE_take (i := 27) (listed' := (Dm.bits 37 268435455)) (by kernel_rfl) (by kernel_rfl) rfl (fun _ _ _ _ h => h) ?_; apply Exists.intro; refine And.intro (fun x => ?_) ?_
  · go_big_quiet_step ((first | (go_at_call 8; with_reducible exact Calls.quietE (CV.out _)) | (go_at_call 18; with_reducible exact Calls.quietE (qc.out _ (by repeat (first | assumption | exact Ext.refl _ | refine Ext.trans ?_ (ext_grow _ _))))) | (go_at_call 19; with_reducible exact Calls.quietE (qd.out _ (by repeat (first | assumption | exact Ext.refl _ | refine Ext.trans ?_ (ext_grow _ _))))) | (go_at_call 20; with_reducible exact Calls.quietE (qe.out _ (by repeat (first | assumption | exact Ext.refl _ | refine Ext.trans ?_ (ext_grow _ _))))) | (go_at_call 21; with_reducible exact Calls.quietE (qf.out _ (by repeat (first | assumption | exact Ext.refl _ | refine Ext.trans ?_ (ext_grow _ _))))) | (go_at_call 22; with_reducible exact Calls.quietE (qg.out _ (by repeat (first | assumption | exact Ext.refl _ | refine Ext.trans ?_ (ext_grow _ _))))) | (go_at_call 23; with_reducible exact Calls.quietE (qh.out _ (by repeat (first | assumption | exact Ext.refl _ | refine Ext.trans ?_ (ext_grow _ _))))))); exact wpQuiet_nil rfl
  refine Dm.wpE_take (i := 28) (listed' := (Dm.bits 37 536870911)) (by kernel_rfl) (by kernel_rfl) rfl (fun _ _ _ _ h => h) ?_; apply Exists.intro; refine And.intro (fun x => ?_) ?_
  · go_big_quiet_step ((first | (go_at_call 8; with_reducible exact Calls.quietE (CV.out _)) | (go_at_call 18; with_reducible exact Calls.quietE (qc.out _ (by repeat (first | assumption | exact Ext.refl _ | refine Ext.trans ?_ (ext_grow _ _))))) | (go_at_call 19; with_reducible exact Calls.quietE (qd.out _ (by repeat (first | assumption | exact Ext.refl _ | refine Ext.trans ?_ (ext_grow _ _))))) | (go_at_call 20; with_reducible exact Calls.quietE (qe.out _ (by repeat (first | assumption | exact Ext.refl _ | refine Ext.trans ?_ (ext_grow _ _))))) | (go_at_call 21; with_reducible exact Calls.quietE (qf.out _ (by repeat (first | assumption | exact Ext.refl _ | refine Ext.trans ?_ (ext_grow _ _))))) | (go_at_call 22; with_reducible exact Calls.quietE (qg.out _ (by repeat (first | assumption | exact Ext.refl _ | refine Ext.trans ?_ (ext_grow _ _))))) | (go_at_call 23; with_reducible exact Calls.quietE (qh.out _ (by repeat (first | assumption | exact Ext.refl _ | refine Ext.trans ?_ (ext_grow _ _))))))); exact wpQuiet_nil rfl
  refine Dm.wpE_take (i := 31) (listed' := (Dm.bits 37 2684354559)) (by kernel_rfl) (by kernel_rfl) rfl (fun _ _ _ _ h => h) ?_; apply Exists.intro; refine And.intro (fun x => ?_) ?_
  · go_big_quiet_step ((first | (go_at_call 8; with_reducible exact Calls.quietE (CV.out _)) | (go_at_call 18; with_reducible exact Calls.quietE (qc.out _ (by repeat (first | assumption | exact Ext.refl _ | refine Ext.trans ?_ (ext_grow _ _))))) | (go_at_call 19; with_reducible exact Calls.quietE (qd.out _ (by repeat (first | assumption | exact Ext.refl _ | refine Ext.trans ?_ (ext_grow _ _))))) | (go_at_call 20; with_reducible exact Calls.quietE (qe.out _ (by repeat (first | assumption | exact Ext.refl _ | refine Ext.trans ?_ (ext_grow _ _))))) | (go_at_call 21; with_reducible exact Calls.quietE (qf.out _ (by repeat (first | assumption | exact Ext.refl _ | refine Ext.trans ?_ (ext_grow _ _))))) | (go_at_call 22; with_reducible exact Calls.quietE (qg.out _ (by repeat (first | assumption | exact Ext.refl _ | refine Ext.trans ?_ (ext_grow _ _))))) | (go_at_call 23; with_reducible exact Calls.quietE (qh.out _ (by repeat (first | assumption | exact Ext.refl _ | refine Ext.trans ?_ (ext_grow _ _))))))); exact wpQuiet_nil rfl
  refine Dm.wpE_one (i := 29) (listed' := (Dm.bits 37 3221225471)) (by kernel_rfl) (by kernel_rfl) rfl (Ext.refl wf) (fun w1a hx1a => ?_)
  have hX1a := Ext.trans (Ext.refl wf) hx1a
  go_wp2_with (go_at_call 24; go_must (refine (N1.out w1a).mono ?_; rintro e w1b ⟨vnw, rfl, hn, hs1⟩))
  have hX1b := Ext.trans hX1a hs1
  try simp only [Exit.then, Act.put, List.setIfInBounds_toArray, List.set_cons_succ, List.set_cons_zero]
  refine Dm.wpE_one (i := 30) (listed' := (Dm.bits 37 4294967295)) (by kernel_rfl) (by kernel_rfl) rfl hX1b (fun w2a hx2a => ?_)
  have hX2a := Ext.trans hX1b hx2a
  replace hn := hn.ext hx2a
  go_wp2_with (go_at_call 5; go_must (refine (TN.out w2a _ hn).mono ?_; rintro e w2b ⟨vow, rfl, ho, hs2⟩))
  have hX2b := Ext.trans hX2a hs2
  try simp only [Exit.then, Act.put, List.setIfInBounds_toArray, List.set_cons_succ, List.set_cons_zero]
  refine Dm.wpE_take (i := 32) (listed' := (Dm.bits 37 8589934591)) (by kernel_rfl) (by kernel_rfl) rfl (fun _ _ _ _ h => h) ?_; apply Exists.intro; refine And.intro (fun x => ?_) ?_
  · go_big_quiet_step ((first | (go_at_call 8; with_reducible exact Calls.quietE (CV.out _)) | (go_at_call 18; with_reducible exact Calls.quietE (qc.out _ (by repeat (first | assumption | exact Ext.refl _ | refine Ext.trans ?_ (ext_grow _ _))))) | (go_at_call 19; with_reducible exact Calls.quietE (qd.out _ (by repeat (first | assumption | exact Ext.refl _ | refine Ext.trans ?_ (ext_grow _ _))))) | (go_at_call 20; with_reducible exact Calls.quietE (qe.out _ (by repeat (first | assumption | exact Ext.refl _ | refine Ext.trans ?_ (ext_grow _ _))))) | (go_at_call 21; with_reducible exact Calls.quietE (qf.out _ (by repeat (first | assumption | exact Ext.refl _ | refine Ext.trans ?_ (ext_grow _ _))))) | (go_at_call 22; with_reducible exact Calls.quietE (qg.out _ (by repeat (first | assumption | exact Ext.refl _ | refine Ext.trans ?_ (ext_grow _ _))))) | (go_at_call 23; with_reducible exact Calls.quietE (qh.out _ (by repeat (first | assumption | exact Ext.refl _ | refine Ext.trans ?_ (ext_grow _ _))))))); exact wpQuiet_nil rfl
  refine Dm.wpE_one (i := 33) (listed' := (Dm.bits 37 17179869183)) (by kernel_rfl) (by kernel_rfl) rfl hX2b (fun w3a hx3a => ?_)
  have hX3a := Ext.trans hX2b hx3a
  replace ho := ho.ext hx3a
  go_wp2_with (go_at_call 25; go_must (refine (N2.out w3a).mono ?_; rintro e w3b ⟨vqw, rfl, hq, hs3⟩))
  have hX3b := Ext.trans hX3a hs3
  replace ho := ho.ext hs3
  try simp only [Exit.then, Act.put, List.setIfInBounds_toArray, List.set_cons_succ, List.set_cons_zero]
  refine Dm.wpE_one (i := 34) (listed' := (Dm.bits 37 34359738367)) (by kernel_rfl) (by kernel_rfl) rfl hX3b (fun w4a hx4a => ?_)
  have hX4a := Ext.trans hX3b hx4a
  replace ho := ho.ext hx4a
  replace hq := hq.ext hx4a
  go_wp2_with (go_at_call 13; go_must (refine (QN.out _ _ _ ho hq).mono ?_; rintro e w4b ⟨rfl, hs4⟩))
  clear ho hq
  have hX4b := Ext.trans hX4a hs4
  try simp only [Exit.then, Act.put, List.setIfInBounds_toArray, List.set_cons_succ, List.set_cons_zero]
  refine Dm.wpE_take (i := 35) (listed' := (Dm.bits 37 68719476735)) (by kernel_rfl) (by kernel_rfl) rfl (fun _ _ _ _ h => h) ?_; apply Exists.intro; refine And.intro (fun x => ?_) ?_
  · go_big_quiet_step ((first | (go_at_call 8; with_reducible exact Calls.quietE (CV.out _)) | (go_at_call 18; with_reducible exact Calls.quietE (qc.out _ (by repeat (first | assumption | exact Ext.refl _ | refine Ext.trans ?_ (ext_grow _ _))))) | (go_at_call 19; with_reducible exact Calls.quietE (qd.out _ (by repeat (first | assumption | exact Ext.refl _ | refine Ext.trans ?_ (ext_grow _ _))))) | (go_at_call 20; with_reducible exact Calls.quietE (qe.out _ (by repeat (first | assumption | exact Ext.refl _ | refine Ext.trans ?_ (ext_grow _ _))))) | (go_at_call 21; with_reducible exact Calls.quietE (qf.out _ (by repeat (first | assumption | exact Ext.refl _ | refine Ext.trans ?_ (ext_grow _ _))))) | (go_at_call 22; with_reducible exact Calls.quietE (qg.out _ (by repeat (first | assumption | exact Ext.refl _ | refine Ext.trans ?_ (ext_grow _ _))))) | (go_at_call 23; with_reducible exact Calls.quietE (qh.out _ (by repeat (first | assumption | exact Ext.refl _ | refine Ext.trans ?_ (ext_grow _ _))))))); exact wpQuiet_nil rfl
  refine Dm.wpE_take (i := 36) (listed' := (Dm.bits 37 137438953471)) (by kernel_rfl) (by kernel_rfl) rfl (fun _ _ _ _ h => h) ?_; apply Exists.intro; refine And.intro (fun x => ?_) ?_
  · go_big_quiet_step ((first | (go_at_call 8; with_reducible exact Calls.quietE (CV.out _)) | (go_at_call 18; with_reducible exact Calls.quietE (qc.out _ (by repeat (first | assumption | exact Ext.refl _ | refine Ext.trans ?_ (ext_grow _ _))))) | (go_at_call 19; with_reducible exact Calls.quietE (qd.out _ (by repeat (first | assumption | exact Ext.refl _ | refine Ext.trans ?_ (ext_grow _ _))))) | (go_at_call 20; with_reducible exact Calls.quietE (qe.out _ (by repeat (first | assumption | exact Ext.refl _ | refine Ext.trans ?_ (ext_grow _ _))))) | (go_at_call 21; with_reducible exact Calls.quietE (qf.out _ (by repeat (first | assumption | exact Ext.refl _ | refine Ext.trans ?_ (ext_grow _ _))))) | (go_at_call 22; with_reducible exact Calls.quietE (qg.out _ (by repeat (first | assumption | exact Ext.refl _ | refine Ext.trans ?_ (ext_grow _ _))))) | (go_at_call 23; with_reducible exact Calls.quietE (qh.out _ (by repeat (first | assumption | exact Ext.refl _ | refine Ext.trans ?_ (ext_grow _ _))))))); exact wpQuiet_nil rfl
  refine Dm.wpE_done (by kernel_rfl) hX4b (fun w5a hx5a => ?_)
  have hX5a := Ext.trans hX4b hx5a
  go_wp2
  go_ret
  exact ⟨rfl, hE.trans hX5a⟩
theorem quotaTellsU_w (R : List EntQ) (p : ByteArray) (v : Vc) (s : ByteArray) (i : Int) (vt : Value) (w : World) (hm : R.length ≤ 524287 ∧ FitT R) (hx : Tree w vt R) (hp : p.size ≤ 1048576) (hv : OkV v) (hs : s.size ≤ 1048576) (ht : Vars w) :
    Calls Tryz.prog 3 #[vt, .string p, vVal v, .string s, .int .i64 i] w fun e w' => e = .returned (.bool true) ∧ Ext w w' :=
  quotaTells_w R p v s i vt w hm.1 hm.2 hx hp hv hs ht
end Go.Proofs.YtopnllbfhhjobaaGreatDoor
