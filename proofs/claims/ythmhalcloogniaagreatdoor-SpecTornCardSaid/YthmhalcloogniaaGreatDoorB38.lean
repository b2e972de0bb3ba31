/- Texts one behind the other: Chapter 11: the walk of SpecTorn. -/
import Derived.Test.YthmhalcloogniaaGreatDoorB28
namespace Go.Proofs.YthmhalcloogniaaGreatDoor
open Go.RowKit Go.Dm
set_option maxHeartbeats 4000000 in
set_option maxRecDepth 100000 in
theorem specTorn_w (zs : List Int) (z : Int) (va : Value) (w : World) (hz : ∀ z ∈ zs, 0 ≤ z ∧ z ≤ 255) (_hm : zs.length ≤ 140737488355328) (hx : Nums w .u8 va zs) (hzr : 0 ≤ z ∧ z ≤ 65535) (ht : Vars w) (hv : VarsV w) :
    Calls Tryz.prog 7 #[va, .int .u16 z] w fun e w' => e = .returned (.bool true) ∧ Ext w w' := by
  obtain ⟨q, cap, rfl, _, _⟩ := hx.shape
  have CE := fun U (h : Ext w U) => xexamples_w U (ht.ext h) (hv.ext h)
  have CM := fun U (h : Ext w U) => xmade_w zs _ U hz (hx.ext h)
  have CP := fun v R U (h : Ext w U) (hy : Terms U v R) (hR : R.map rowT = madeT zs) => xputm_w zs v R U hz hy hR (ht.ext h)
  have hc := madeX_chk hz
  have ho := madeX_ok hz
  have hlen := putB_short hc ho
  have hpos := List.length_pos_iff.2 (putB_ne (madeX zs))
  have hpre := fun m (h : m < (putB (madeX zs)).length) => getX_prefix hc ho h
  have hbeh := getX_behind hc ho
  generalize putB (madeX zs) = B at *
  generalize spVal (madePa zs) (vG (madeD zs)) (madeN zs) = S at *
  obtain ⟨Pb, hPb⟩ : ∃ P : ByteArray, P = ⟨B.toArray⟩ := ⟨_, rfl⟩
  have hPd : Pb.data.toList = B := by rw [hPb]
  have hPs : Pb.size = B.length := by rw [← hPd]; rfl
  rw [← hPb] at CP
  obtain ⟨m, hm⟩ : ∃ m : Nat, Pb.size = m := ⟨_, rfl⟩
  rw [← hPs, hm] at hlen hpos
  rw [← hPs, hm] at hbeh
  have hmB : B.length = m := by omega
  rw [hmB] at hpre
  rw [← hPd] at hbeh
  obtain ⟨zn, rfl⟩ : ∃ n : Nat, z = n := ⟨z.toNat, by omega⟩
  obtain ⟨r, hr, hrm⟩ : ∃ r : Nat, ((zn : Int) % (m : Int)) = (r : Nat) ∧ r < m := ⟨zn % m, by omega, Nat.mod_lt _ hpos⟩
  obtain ⟨k, hk⟩ : ∃ k : Nat, (m : Int) - 1 - (r : Int) = (k : Nat) := ⟨m - 1 - r, by omega⟩
  have hkm : k < m := by omega
  have hxd : (Pb.extract 0 k).data.toList = B.take k := by
    rw [Lib.extract_data, hPd, List.drop_zero, Nat.sub_zero]
  have hxs : (Pb.extract 0 k).size ≤ 1200 := by rw [ByteArray.size_extract]; omega
  have G1 := fun U (h : Ext w U) => xget_w (Pb.extract 0 k) 0 U (by omega) (ht.ext h)
  rw [hxd] at G1
  have g1 := hpre k hkm
  have G2 := fun U (h : Ext w U) => xget_w Pb (m : Nat) U (by omega) (ht.ext h)
  generalize getX (B.take k) 0 = GA at *
  generalize getX Pb.data.toList (m : Nat) = GB at *
  obtain ⟨⟨sa, da, na, ta⟩, pa, ba⟩ := GA
  obtain ⟨⟨sb, db, nb, tb⟩, pb, bb⟩ := GB
  simp only at g1 hbeh
  subst g1 hbeh
  have kp2 : (Pb.toList == []) = false := by
    rw [ByteArray.toList_eq, hPd, beq_eq_false_iff_ne]
    intro e
    rw [e] at hmB
    simp at hmB
    omega
  have kp3 : ¬ (Pb.toList = []) := by simpa using kp2
  have kp4 : Pb.toList.isEmpty = false := by rw [List.isEmpty_eq_false_iff]; exact kp3
  clear hpre hPd hPs hPb hmB hxd hc ho hz hx
  unfold GotX at G1 G2
  simp only at G1 G2
  generalize vG da = DA at *
  generalize vG db = DB at *
  unfold spVal at G1 G2
  replace CE := Lib.hid CE
  replace CM := Lib.hid CM
  replace CP := Lib.hid CP
  replace G1 := Lib.hid G1
  replace G2 := Lib.hid G2
  go_enter Tryz.func7, Tryz.ntmps7
  go_wp2_with fail
  refine (CE.out _ (Ext.refl _)).mono ?_; rintro e w1 ⟨rfl, hE⟩
  go_wp2_with fail
  refine (CM.out _ hE).mono ?_; rintro e w2 ⟨v, R, rfl, hy, hR, h2⟩
  replace hE := hE.trans h2
  replace hR := Lib.hid hR
  go_wp2_with fail
  refine (CP.out _ _ _ hE hy hR.out).mono ?_; rintro e w3 ⟨rfl, h3⟩
  replace hE := hE.trans h3
  clear hy h2 h3
  go_wp2_with fail
  refine (G1.out _ hE).mono ?_
  rintro e w4 ⟨⟨v4, R4, rfl, hy4, _⟩, h4⟩
  obtain ⟨q4, c4, rfl, _, _⟩ := hy4.shape
  replace hE := hE.trans h4
  clear h4
  replace hE := hE.alloc (.cells #[.string sa, .int .u64 (DA 0 : Nat), .int .u64 (DA 1 : Nat), .int .u64 (DA 2 : Nat), .int .u64 (DA 3 : Nat), .int .i64 na.1, .int .i64 na.2.1, .int .i64 na.2.2, .slice q4 R4.length c4] 27)
  go_wp2_with fail
  refine (G2.out _ hE).mono ?_
  rintro e w5 ⟨⟨v5, R5, rfl, hy5, _⟩, h5⟩
  obtain ⟨q5, c5, rfl, _, _⟩ := hy5.shape
  replace hE := hE.trans h5
  clear h5
  replace hE := hE.alloc (.cells #[.string sb, .int .u64 (DB 0 : Nat), .int .u64 (DB 1 : Nat), .int .u64 (DB 2 : Nat), .int .u64 (DB 3 : Nat), .int .i64 nb.1, .int .i64 nb.2.1, .int .i64 nb.2.2, .slice q5 R5.length c5] 27)
  go_wp2
  go_ret
  exact ⟨rfl, hE⟩
end Go.Proofs.YthmhalcloogniaaGreatDoor
