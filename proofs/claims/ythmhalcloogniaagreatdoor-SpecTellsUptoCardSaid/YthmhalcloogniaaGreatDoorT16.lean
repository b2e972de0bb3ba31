/- Texts one behind the other: Chapter 11: the walk of the laws' examples. -/
import Derived.Test.YthmhalcloogniaaGreatDoorT23
import Derived.Test.YthmhalcloogniaaGreatDoorT15
namespace Go.Dm
open Go Go.RowKit
theorem exam_facts : ∃ (s0 : ByteArray) (d0 : Vc) (S0 : List TermS), parseX (bytesOf [⟨#[116, 101, 97, 109, 47, 97]⟩, ⟨#[49, 58, 50, 58, 48, 58, 48]⟩, ⟨#[51]⟩, ⟨#[53]⟩, ⟨#[57]⟩, ⟨#[122, 111, 110, 101, 61, 98]⟩]) = ((s0, d0, (3, 5, 9), S0), true) ∧ S0.length = 1 ∧ chkX (s0, d0, (3, 5, 9), S0) = 0 ∧ textX (s0, d0, (3, 5, 9), S0) = [116, 101, 97, 109, 47, 97, 32, 49, 58, 50, 58, 48, 58, 48, 32, 51, 32, 53, 32, 57, 32, 122, 111, 110, 101, 61, 98] ∧
    (vOr (vtimesOk d0 (nat64 3)) (vtimes d0 (nat64 3)) = [3, 6, 0, 0] ∧ vtimesOk d0 (nat64 3) = true) ∧ chkX (s0, [9223372036854775808, 0, 0, 0], (3, 5, 9), S0) = 5 ∧ sameX (s0, d0, (3, 5, 9), S0) (s0, d0, (3, 5, 9), S0) = true ∧ sameX (s0, d0, (3, 5, 9), S0) (s0, [9223372036854775808, 0, 0, 0], (3, 5, 9), S0) = false ∧ OkV d0 ∧ s0.size ≤ 98 := by
  have hc : chkX (⟨#[116, 101, 97, 109, 47, 97]⟩, [1, 2, 0, 0], (3, 5, 9), [(⟨#[122, 111, 110, 101]⟩, false, [⟨#[98]⟩])]) = 0 := by decide +kernel
  have ho : OkV [1, 2, 0, 0] := okV_mk (by unfold U64; omega) (by unfold U64; omega) (by unfold U64; omega) (by unfold U64; omega)
  refine ⟨⟨#[116, 101, 97, 109, 47, 97]⟩, [1, 2, 0, 0], [(⟨#[122, 111, 110, 101]⟩, false, [⟨#[98]⟩])], ?_, rfl, hc, by decide +kernel, ⟨by decide +kernel, by decide +kernel⟩, by decide +kernel, by decide +kernel, by decide +kernel, ho, by decide⟩
  have hw : bytesOf [⟨#[116, 101, 97, 109, 47, 97]⟩, ⟨#[49, 58, 50, 58, 48, 58, 48]⟩, ⟨#[51]⟩, ⟨#[53]⟩, ⟨#[57]⟩, ⟨#[122, 111, 110, 101, 61, 98]⟩] = wordsX (⟨#[116, 101, 97, 109, 47, 97]⟩, [1, 2, 0, 0], (3, 5, 9), [(⟨#[122, 111, 110, 101]⟩, false, [⟨#[98]⟩])]) := by decide +kernel
  rw [hw]
  exact parseX_words hc ho
theorem exam_no : parseX (bytesOf [⟨#[116, 101, 97, 109, 47, 97]⟩, ⟨#[49, 58, 50, 58, 48, 58, 48]⟩, ⟨#[48, 51]⟩, ⟨#[53]⟩, ⟨#[57]⟩, ⟨#[45]⟩]) = (noSp, false) := by
  unfold parseX
  rw [if_neg]
  rintro ⟨_, h, _⟩
  revert h
  decide +kernel
theorem getX_ahead {x : SpQ} (h : chkX x = 0) (ho : OkV x.2.1) (b : UInt8) : getX (b :: putX x) 1 = (x, 1 + ((putX x).length : Int), true) := by
  have hl := putB_short h ho
  rw [putX_ok h]
  refine (getX_iff (show (b :: putB x).length < _ by rw [List.length_cons]; omega)).2 ⟨h, ho, 1, rfl, by omega, ⟨[], by simp⟩⟩
theorem GotP.no_inv {w : World} {e : Ending} (h : GotP w (noSp, false) e) : ∃ q cap, e = .returned (.tuple #[.agg #[.string ⟨#[]⟩, .int .u64 0, .int .u64 0, .int .u64 0, .int .u64 0, .int .i64 0, .int .i64 0, .int .i64 0, .slice q 0 cap], .bool false]) := by
  obtain ⟨v, R, rfl, hx, _, _, hS, _⟩ := h
  obtain rfl : R = [] := List.map_eq_nil_iff.1 hS
  obtain ⟨q, cap, rfl, _, _⟩ := hx.shape
  exact ⟨q, cap, rfl⟩
end Go.Dm
namespace Go.Proofs.YthmhalcloogniaaGreatDoor
open Go.RowKit Go.Dm
set_option maxHeartbeats 16000000 in
set_option maxRecDepth 100000 in
theorem xexamples_w (w : World) (ht : Vars w) (hv : VarsV w) :
    Calls Tryz.prog 9 #[] w fun e w' => e = .returned (.bool true) ∧ Ext w w' := by
  obtain ⟨s0, d0, S0, k1, k2, k3, k4, ⟨k5, k5b⟩, k6, k7, k8, ho, hs0⟩ := exam_facts
  have k9 := getX_ahead k3 ho 120
  have hpl := putB_short k3 ho
  rw [← putX_ok k3] at hpl
  have P1 := fun U va (hU : Ext w U) (h : Strs U va [⟨#[116, 101, 97, 109, 47, 97]⟩, ⟨#[49, 58, 50, 58, 48, 58, 48]⟩, ⟨#[51]⟩, ⟨#[53]⟩, ⟨#[57]⟩, ⟨#[122, 111, 110, 101, 61, 98]⟩]) => xparse_w [⟨#[116, 101, 97, 109, 47, 97]⟩, ⟨#[49, 58, 50, 58, 48, 58, 48]⟩, ⟨#[51]⟩, ⟨#[53]⟩, ⟨#[57]⟩, ⟨#[122, 111, 110, 101, 61, 98]⟩] va U (by simp) (by decide) h (ht.ext hU) (hv.ext hU)
  have P2 := fun U va (hU : Ext w U) (h : Strs U va [⟨#[116, 101, 97, 109, 47, 97]⟩, ⟨#[49, 58, 50, 58, 48, 58, 48]⟩, ⟨#[48, 51]⟩, ⟨#[53]⟩, ⟨#[57]⟩, ⟨#[45]⟩]) => xparse_w [⟨#[116, 101, 97, 109, 47, 97]⟩, ⟨#[49, 58, 50, 58, 48, 58, 48]⟩, ⟨#[48, 51]⟩, ⟨#[53]⟩, ⟨#[57]⟩, ⟨#[45]⟩] va U (by simp) (by decide) h (ht.ext hU) (hv.ext hU)
  rw [k1] at P1
  rw [exam_no] at P2
  have T1 := fun v U => xtotal_w s0 d0 (3, 5, 9) v ho U
  rw [show ((3, 5, 9) : Nums3).1 = 3 from rfl, k5, k5b] at T1
  have PU := fun v (R : List RowS) U (hU : Ext w U) (hl : R.length ≤ 4) (hf : FitR R) (hx : Terms U v R) (hS : R.map rowT = S0) => xput_w s0 d0 (3, 5, 9) v R U (by omega) ho (by omega) hf hx (ht.ext hU)
  have TX := fun v (R : List RowS) U (hU : Ext w U) (hl : R.length ≤ 4) (hf : FitR R) (hx : Terms U v R) (hS : R.map rowT = S0) => xtext_w s0 d0 (3, 5, 9) v R U (by omega) ho (by omega) hf hx (ht.ext hU) (hv.ext hU).tab
  have CK := fun v (R : List RowS) U (hU : Ext w U) (hl : R.length ≤ 4) (hf : FitR R) (hx : Terms U v R) (hS : R.map rowT = S0) => xcheck_w s0 d0 (3, 5, 9) v R U (by omega) ho (by omega) hf hx (ht.ext hU)
  have ow : OkV [9223372036854775808, 0, 0, 0] := okV_mk (by unfold U64; omega) (by unfold U64; omega) (by unfold U64; omega) (by unfold U64; omega)
  have CW := fun v (R : List RowS) U (hU : Ext w U) (hl : R.length ≤ 4) (hf : FitR R) (hx : Terms U v R) (hS : R.map rowT = S0) => xcheck_w s0 [9223372036854775808, 0, 0, 0] (3, 5, 9) v R U (by omega) ow (by omega) hf hx (ht.ext hU)
  have C0 := fun U (hU : Ext w U) => xcheck_w ⟨#[]⟩ noV (0, 0, 0) (.slice none 0 0) [] U (by decide) okV_no (by simp) (fun r hr => by cases hr) (Terms.nil U) (ht.ext hU)
  have CA := fun U (hU : Ext w U) => xcheck_w ⟨#[97]⟩ noV (0, 0, 0) (.slice none 0 0) [] U (by decide) okV_no (by simp) (fun r hr => by cases hr) (Terms.nil U) (ht.ext hU)
  have z0 : chkX (⟨#[]⟩, noV, (0, 0, 0), ([] : List RowS).map rowT) = 6 := by decide +kernel
  have za : chkX (⟨#[97]⟩, noV, (0, 0, 0), ([] : List RowS).map rowT) = 1 := by decide +kernel
  rw [z0] at C0
  rw [za] at CA
  have SX := fun v (R : List RowS) v2 (R2 : List RowS) U (hl : R.length ≤ 4) (hf : FitR R) (hx : Terms U v R) (hS : R.map rowT = S0) (hy : Terms U v2 R2) (hS2 : R2.map rowT = S0) => xsame_w s0 d0 (3, 5, 9) v R s0 d0 (3, 5, 9) v2 R2 U ho ho (by omega) hf hx hy
  have SW := fun v (R : List RowS) U (hl : R.length ≤ 4) (hf : FitR R) (hx : Terms U v R) (hS : R.map rowT = S0) => xsame_w s0 d0 (3, 5, 9) v R s0 [9223372036854775808, 0, 0, 0] (3, 5, 9) v R U ho ow (by omega) hf hx hx
  have PB : ∀ (R : List RowS), R.map rowT = S0 → (⟨(putX (s0, d0, (3, 5, 9), R.map rowT)).toArray⟩ : ByteArray) = ⟨(putX (s0, d0, (3, 5, 9), S0)).toArray⟩ := fun R h => by rw [h]
  obtain ⟨pb, hpb⟩ : ∃ pb : ByteArray, pb = ⟨(putX (s0, d0, (3, 5, 9), S0)).toArray⟩ := ⟨_, rfl⟩
  have hpbs : pb.size ≤ 1200 := by rw [hpb]; show (putX (s0, d0, (3, 5, 9), S0)).toArray.size ≤ _; rw [List.size_toArray]; exact hpl
  have hpbl : ((putX (s0, d0, (3, 5, 9), S0)).length : Int) = (pb.size : Int) := by rw [hpb]; show _ = (((putX (s0, d0, (3, 5, 9), S0)).toArray.size : Nat) : Int); rw [List.size_toArray]
  have hgd : (⟨#[120]⟩ ++ pb : ByteArray).data.toList = 120 :: putX (s0, d0, (3, 5, 9), S0) := by rw [data_append, hpb]; rfl
  have hgs : (⟨#[120]⟩ ++ pb : ByteArray).size ≤ 1201 := by rw [ByteArray.size_append]; show 1 + pb.size ≤ _; omega
  have GT := fun U (hU : Ext w U) => xget_w (⟨#[120]⟩ ++ pb) 1 U (by omega) (ht.ext hU)
  rw [hgd, k9, hpbl] at GT
  rw [← hpb] at PB
  clear k1 k9 hpb hpbl hgd hpl
  have hcl : ∀ (R : List RowS), R.map rowT = S0 → chkX (s0, d0, (3, 5, 9), R.map rowT) = 0 ∧ textX (s0, d0, (3, 5, 9), R.map rowT) = [116, 101, 97, 109, 47, 97, 32, 49, 58, 50, 58, 48, 58, 48, 32, 51, 32, 53, 32, 57, 32, 122, 111, 110, 101, 61, 98] ∧ chkX (s0, [9223372036854775808, 0, 0, 0], (3, 5, 9), R.map rowT) = 5 ∧ (⟨(putX (s0, d0, (3, 5, 9), R.map rowT)).toArray⟩ : ByteArray) = pb ∧ sameX (s0, d0, (3, 5, 9), R.map rowT) (s0, [9223372036854775808, 0, 0, 0], (3, 5, 9), R.map rowT) = false := fun R h => by
    refine ⟨by rw [h]; exact k3, by rw [h]; exact k4, by rw [h]; exact k6, PB R h, by rw [h]; exact k8⟩
  have hsm : ∀ (R R2 : List RowS), R.map rowT = S0 → R2.map rowT = S0 → sameX (s0, d0, (3, 5, 9), R.map rowT) (s0, d0, (3, 5, 9), R2.map rowT) = true := fun R R2 h h2 => by rw [h, h2]; exact k7
  have hRl : ∀ (R : List RowS), R.map rowT = S0 → ((R.length : Nat) : Int) = 1 := fun R h => by have := congrArg List.length h; rw [List.length_map, k2] at this; omega
  clear k2 k3 k4 k6 k7 k8 PB ho
  have q36 := fun U => run_eql_vals (P := Tryz.prog) Tryz.underlying24 Tryz.underlying22 (by kernel_rfl) (a := [3, 6, 0, 0]) (b := [3, 6, 0, 0]) (okV_mk (by unfold U64; omega) (by unfold U64; omega) (by unfold U64; omega) (by unfold U64; omega)) (okV_mk (by unfold U64; omega) (by unfold U64; omega) (by unfold U64; omega) (by unfold U64; omega)) U
  simp only [decide_true] at q36
  change ∀ U : World, (binOp .eql 24 (.agg #[.int .u64 3, .int .u64 6, .int .u64 0, .int .u64 0]) (.agg #[.int .u64 3, .int .u64 6, .int .u64 0, .int .u64 0])).run Tryz.prog U = .ok (.bool true) U at q36
  change ∀ v U, Calls Tryz.prog _ _ U fun e w' => e = .returned (.tuple #[.agg #[.int .u64 3, .int .u64 6, .int .u64 0, .int .u64 0], .bool true]) ∧ Ext U w' at T1
  obtain ⟨D, hD⟩ : ∃ D, vG d0 = D := ⟨_, rfl⟩
  rw [hD] at T1 PU TX CK SX SW
  unfold spVal at *
  simp only at *
  replace P1 := Lib.hid P1
  replace P2 := Lib.hid P2
  replace T1 := Lib.hid T1
  replace PU := Lib.hid PU
  replace TX := Lib.hid TX
  replace CK := Lib.hid CK
  replace CW := Lib.hid CW
  replace C0 := Lib.hid C0
  replace CA := Lib.hid CA
  replace SX := Lib.hid SX
  replace SW := Lib.hid SW
  replace GT := Lib.hid GT
  replace hcl := Lib.hid hcl
  replace hsm := Lib.hid hsm
  replace hRl := Lib.hid hRl
  replace hD := Lib.hid hD
  have hE : Ext w (w.alloc (.cells #[.string ⟨#[116, 101, 97, 109, 47, 97]⟩, .string ⟨#[49, 58, 50, 58, 48, 58, 48]⟩, .string ⟨#[51]⟩, .string ⟨#[53]⟩, .string ⟨#[57]⟩, .string ⟨#[122, 111, 110, 101, 61, 98]⟩] 9)) := (Ext.refl _).alloc _
  have S1 : Strs (w.alloc (.cells #[.string ⟨#[116, 101, 97, 109, 47, 97]⟩, .string ⟨#[49, 58, 50, 58, 48, 58, 48]⟩, .string ⟨#[51]⟩, .string ⟨#[53]⟩, .string ⟨#[57]⟩, .string ⟨#[122, 111, 110, 101, 61, 98]⟩] 9)) (.slice (some ⟨w.heap.size, 0, none⟩) 6 6) [⟨#[116, 101, 97, 109, 47, 97]⟩, ⟨#[49, 58, 50, 58, 48, 58, 48]⟩, ⟨#[51]⟩, ⟨#[53]⟩, ⟨#[57]⟩, ⟨#[122, 111, 110, 101, 61, 98]⟩] := Sl.lit w 9 1 6 #[.string ⟨#[116, 101, 97, 109, 47, 97]⟩, .string ⟨#[49, 58, 50, 58, 48, 58, 48]⟩, .string ⟨#[51]⟩, .string ⟨#[53]⟩, .string ⟨#[57]⟩, .string ⟨#[122, 111, 110, 101, 61, 98]⟩] rfl (by simp [maxLen])
  go_enter Tryz.func9, Tryz.ntmps9
  go_wp2_with fail
  refine (P1.out _ _ hE S1).mono ?_; rintro e w2 ⟨⟨v, R, rfl, hx, hf, hl, hS, _⟩, h2⟩
  clear S1
  replace hE := hE.trans h2
  clear h2
  obtain ⟨q, cap, rfl, _, _⟩ := hx.shape
  simp only [spVal] at hS ⊢
  rw [hD.out]
  have hRi := hRl.out R hS
  obtain ⟨z1, z2, z3, z4, z5⟩ := hcl.out R hS
  replace z1 := Lib.hid z1
  replace z2 := Lib.hid z2
  replace z3 := Lib.hid z3
  replace z4 := Lib.hid z4
  replace z5 := Lib.hid z5
  replace hS := Lib.hid hS
  replace hRi := Lib.hid hRi
  have hX : CB w2.heap.size [.string s0, .int .u64 (D 0 : Nat), .int .u64 (D 1 : Nat), .int .u64 (D 2 : Nat), .int .u64 (D 3 : Nat), .int .i64 3, .int .i64 5, .int .i64 9, .slice q R.length cap] (w2.alloc (.cells #[.string s0, .int .u64 (D 0 : Nat), .int .u64 (D 1 : Nat), .int .u64 (D 2 : Nat), .int .u64 (D 3 : Nat), .int .i64 3, .int .i64 5, .int .i64 9, .slice q R.length cap] 27)) := CB.new w2 #[.string s0, .int .u64 (D 0 : Nat), .int .u64 (D 1 : Nat), .int .u64 (D 2 : Nat), .int .u64 (D 3 : Nat), .int .i64 3, .int .i64 5, .int .i64 9, .slice q R.length cap] 27
  have hal := (Ext.refl w2).alloc (.cells #[.string s0, .int .u64 (D 0 : Nat), .int .u64 (D 1 : Nat), .int .u64 (D 2 : Nat), .int .u64 (D 3 : Nat), .int .i64 3, .int .i64 5, .int .i64 9, .slice q R.length cap] 27)
  replace hx := hx.ext hal
  replace hE := hE.trans hal
  clear hal
  have S2 : Strs ((w2.alloc (.cells #[.string s0, .int .u64 (D 0 : Nat), .int .u64 (D 1 : Nat), .int .u64 (D 2 : Nat), .int .u64 (D 3 : Nat), .int .i64 3, .int .i64 5, .int .i64 9, .slice q R.length cap] 27)).alloc (.cells #[.string ⟨#[116, 101, 97, 109, 47, 97]⟩, .string ⟨#[49, 58, 50, 58, 48, 58, 48]⟩, .string ⟨#[48, 51]⟩, .string ⟨#[53]⟩, .string ⟨#[57]⟩, .string ⟨#[45]⟩] 9)) (.slice (some ⟨w2.heap.size + 1, 0, none⟩) 6 6) [⟨#[116, 101, 97, 109, 47, 97]⟩, ⟨#[49, 58, 50, 58, 48, 58, 48]⟩, ⟨#[48, 51]⟩, ⟨#[53]⟩, ⟨#[57]⟩, ⟨#[45]⟩] := by
    have h : Strs ((w2.alloc (.cells #[.string s0, .int .u64 (D 0 : Nat), .int .u64 (D 1 : Nat), .int .u64 (D 2 : Nat), .int .u64 (D 3 : Nat), .int .i64 3, .int .i64 5, .int .i64 9, .slice q R.length cap] 27)).alloc (.cells #[.string ⟨#[116, 101, 97, 109, 47, 97]⟩, .string ⟨#[49, 58, 50, 58, 48, 58, 48]⟩, .string ⟨#[48, 51]⟩, .string ⟨#[53]⟩, .string ⟨#[57]⟩, .string ⟨#[45]⟩] 9)) (.slice (some ⟨(w2.alloc (.cells #[.string s0, .int .u64 (D 0 : Nat), .int .u64 (D 1 : Nat), .int .u64 (D 2 : Nat), .int .u64 (D 3 : Nat), .int .i64 3, .int .i64 5, .int .i64 9, .slice q R.length cap] 27)).heap.size, 0, none⟩) 6 6) [⟨#[116, 101, 97, 109, 47, 97]⟩, ⟨#[49, 58, 50, 58, 48, 58, 48]⟩, ⟨#[48, 51]⟩, ⟨#[53]⟩, ⟨#[57]⟩, ⟨#[45]⟩] := Sl.lit (w2.alloc (.cells #[.string s0, .int .u64 (D 0 : Nat), .int .u64 (D 1 : Nat), .int .u64 (D 2 : Nat), .int .u64 (D 3 : Nat), .int .i64 3, .int .i64 5, .int .i64 9, .slice q R.length cap] 27)) 9 1 6 #[.string ⟨#[116, 101, 97, 109, 47, 97]⟩, .string ⟨#[49, 58, 50, 58, 48, 58, 48]⟩, .string ⟨#[48, 51]⟩, .string ⟨#[53]⟩, .string ⟨#[57]⟩, .string ⟨#[45]⟩] rfl (by simp [maxLen])
    rw [World.size_alloc] at h
    exact h
  have hal := (Ext.refl (w2.alloc (.cells #[.string s0, .int .u64 (D 0 : Nat), .int .u64 (D 1 : Nat), .int .u64 (D 2 : Nat), .int .u64 (D 3 : Nat), .int .i64 3, .int .i64 5, .int .i64 9, .slice q R.length cap] 27))).alloc (.cells #[.string ⟨#[116, 101, 97, 109, 47, 97]⟩, .string ⟨#[49, 58, 50, 58, 48, 58, 48]⟩, .string ⟨#[48, 51]⟩, .string ⟨#[53]⟩, .string ⟨#[57]⟩, .string ⟨#[45]⟩] 9)
  replace hx := hx.ext hal
  replace hX := hX.ext hal
  replace hE := hE.trans hal
  clear hal
  go_wp2_with fail
  refine (P2.out _ _ hE S2).mono ?_; rintro e w3 ⟨hgp, h3⟩
  clear S2
  generalize w2.heap.size = bX at *
  replace hx := hx.ext h3
  replace hX := hX.ext h3
  replace hE := hE.trans h3
  clear h3
  obtain ⟨q3, cap3, rfl⟩ := GotP.no_inv hgp
  clear hgp
  have hN : CB w3.heap.size [.string ⟨#[]⟩, .int .u64 0, .int .u64 0, .int .u64 0, .int .u64 0, .int .i64 0, .int .i64 0, .int .i64 0, .slice q3 0 cap3] (w3.alloc (.cells #[.string ⟨#[]⟩, .int .u64 0, .int .u64 0, .int .u64 0, .int .u64 0, .int .i64 0, .int .i64 0, .int .i64 0, .slice q3 0 cap3] 27)) := CB.new w3 #[.string ⟨#[]⟩, .int .u64 0, .int .u64 0, .int .u64 0, .int .u64 0, .int .i64 0, .int .i64 0, .int .i64 0, .slice q3 0 cap3] 27
  have hal := (Ext.refl w3).alloc (.cells #[.string ⟨#[]⟩, .int .u64 0, .int .u64 0, .int .u64 0, .int .u64 0, .int .i64 0, .int .i64 0, .int .i64 0, .slice q3 0 cap3] 27)
  replace hx := hx.ext hal
  replace hX := hX.ext hal
  replace hE := hE.trans hal
  clear hal
  obtain ⟨xl, x0, x1, x2, x3, x4, x5, x6, x7, x8, xf0, xf1, xf2, xf3, xf4, xf5, xf6, xf7, xf8⟩ := hX.cells9
  go_wp2_with fail
  clear xl x0 xf0 x1 xf1 x2 xf2 x3 xf3 x4 xf4 x5 xf5 x6 xf6 x7 xf7 x8 xf8
  clear hN
  generalize w3.alloc (.cells #[.string ⟨#[]⟩, .int .u64 0, .int .u64 0, .int .u64 0, .int .u64 0, .int .i64 0, .int .i64 0, .int .i64 0, .slice q3 0 cap3] 27) = w4 at *
  refine (T1.out (.slice q R.length cap) w4).mono ?_; rintro e w5 ⟨rfl, h5⟩
  replace hx := hx.ext h5
  replace hX := hX.ext h5
  replace hE := hE.trans h5
  clear h5
  have hV : CB w5.heap.size [.int .u64 3, .int .u64 6, .int .u64 0, .int .u64 0] (w5.alloc (.cells #[.int .u64 3, .int .u64 6, .int .u64 0, .int .u64 0] 24)) := CB.new w5 #[.int .u64 3, .int .u64 6, .int .u64 0, .int .u64 0] 24
  have hal := (Ext.refl w5).alloc (.cells #[.int .u64 3, .int .u64 6, .int .u64 0, .int .u64 0] 24)
  replace hx := hx.ext hal
  replace hX := hX.ext hal
  replace hE := hE.trans hal
  clear hal
  obtain ⟨xl, x0, x1, x2, x3, x4, x5, x6, x7, x8, xf0, xf1, xf2, xf3, xf4, xf5, xf6, xf7, xf8⟩ := hX.cells9

  go_wp2_with fail
  clear xl x0 xf0 x1 xf1 x2 xf2 x3 xf3 x4 xf4 x5 xf5 x6 xf6 x7 xf7 x8 xf8
  generalize w5.alloc (.cells #[.int .u64 3, .int .u64 6, .int .u64 0, .int .u64 0] 24) = w5b at *
  generalize w5.heap.size = bV at *
  have C := PU.out (.slice q R.length cap) R _ hE hl hf hx hS.out
  rw [z4.out] at C
  replace C := Lib.hid C
  refine C.out.mono ?_; rintro e w6 ⟨rfl, hw6⟩
  clear C
  replace hx := hx.ext hw6
  replace hX := hX.ext hw6
  replace hV := hV.ext hw6
  replace hE := hE.trans hw6
  clear hw6
  go_wp2_with fail
  refine (GT.out _ hE).mono ?_; rintro e w7 ⟨⟨v2, R2, rfl, hy, hf2, hl2, hS2, _⟩, h7⟩
  replace hx := hx.ext h7
  replace hX := hX.ext h7
  replace hV := hV.ext h7
  replace hE := hE.trans h7
  clear h7
  obtain ⟨q2, cap2, rfl, _, _⟩ := hy.shape
  simp only [spVal] at hS2 ⊢
  rw [hD.out]
  have hY0 : CB w7.heap.size [.string s0, .int .u64 (D 0 : Nat), .int .u64 (D 1 : Nat), .int .u64 (D 2 : Nat), .int .u64 (D 3 : Nat), .int .i64 3, .int .i64 5, .int .i64 9, .slice q2 R2.length cap2] (w7.alloc (.cells #[.string s0, .int .u64 (D 0 : Nat), .int .u64 (D 1 : Nat), .int .u64 (D 2 : Nat), .int .u64 (D 3 : Nat), .int .i64 3, .int .i64 5, .int .i64 9, .slice q2 R2.length cap2] 27)) := CB.new w7 #[.string s0, .int .u64 (D 0 : Nat), .int .u64 (D 1 : Nat), .int .u64 (D 2 : Nat), .int .u64 (D 3 : Nat), .int .i64 3, .int .i64 5, .int .i64 9, .slice q2 R2.length cap2] 27
  have hW : CB (w7.heap.size + 1) [.string s0, .int .u64 (D 0 : Nat), .int .u64 (D 1 : Nat), .int .u64 (D 2 : Nat), .int .u64 (D 3 : Nat), .int .i64 3, .int .i64 5, .int .i64 9, .slice q R.length cap] ((w7.alloc (.cells #[.string s0, .int .u64 (D 0 : Nat), .int .u64 (D 1 : Nat), .int .u64 (D 2 : Nat), .int .u64 (D 3 : Nat), .int .i64 3, .int .i64 5, .int .i64 9, .slice q2 R2.length cap2] 27)).alloc (.cells #[.string s0, .int .u64 (D 0 : Nat), .int .u64 (D 1 : Nat), .int .u64 (D 2 : Nat), .int .u64 (D 3 : Nat), .int .i64 3, .int .i64 5, .int .i64 9, .slice q R.length cap] 27)) := by
    have h := CB.new (w7.alloc (.cells #[.string s0, .int .u64 (D 0 : Nat), .int .u64 (D 1 : Nat), .int .u64 (D 2 : Nat), .int .u64 (D 3 : Nat), .int .i64 3, .int .i64 5, .int .i64 9, .slice q2 R2.length cap2] 27)) #[.string s0, .int .u64 (D 0 : Nat), .int .u64 (D 1 : Nat), .int .u64 (D 2 : Nat), .int .u64 (D 3 : Nat), .int .i64 3, .int .i64 5, .int .i64 9, .slice q R.length cap] 27
    rw [World.size_alloc] at h
    exact h
  have hW2 : CB (w7.heap.size + 1) [.string s0, .int .u64 9223372036854775808, .int .u64 0, .int .u64 0, .int .u64 0, .int .i64 3, .int .i64 5, .int .i64 9, .slice q R.length cap] ((w7.alloc (.cells #[.string s0, .int .u64 (D 0 : Nat), .int .u64 (D 1 : Nat), .int .u64 (D 2 : Nat), .int .u64 (D 3 : Nat), .int .i64 3, .int .i64 5, .int .i64 9, .slice q2 R2.length cap2] 27)).alloc (.cells #[.string s0, .int .u64 9223372036854775808, .int .u64 0, .int .u64 0, .int .u64 0, .int .i64 3, .int .i64 5, .int .i64 9, .slice q R.length cap] 27)) := by
    have h := CB.new (w7.alloc (.cells #[.string s0, .int .u64 (D 0 : Nat), .int .u64 (D 1 : Nat), .int .u64 (D 2 : Nat), .int .u64 (D 3 : Nat), .int .i64 3, .int .i64 5, .int .i64 9, .slice q2 R2.length cap2] 27)) #[.string s0, .int .u64 9223372036854775808, .int .u64 0, .int .u64 0, .int .u64 0, .int .i64 3, .int .i64 5, .int .i64 9, .slice q R.length cap] 27
    rw [World.size_alloc] at h
    exact h
  have hY : CB w7.heap.size [.string s0, .int .u64 (D 0 : Nat), .int .u64 (D 1 : Nat), .int .u64 (D 2 : Nat), .int .u64 (D 3 : Nat), .int .i64 3, .int .i64 5, .int .i64 9, .slice q2 R2.length cap2] ((w7.alloc (.cells #[.string s0, .int .u64 (D 0 : Nat), .int .u64 (D 1 : Nat), .int .u64 (D 2 : Nat), .int .u64 (D 3 : Nat), .int .i64 3, .int .i64 5, .int .i64 9, .slice q2 R2.length cap2] 27)).alloc (.cells #[.string s0, .int .u64 9223372036854775808, .int .u64 0, .int .u64 0, .int .u64 0, .int .i64 3, .int .i64 5, .int .i64 9, .slice q R.length cap] 27)) := hY0.ext ((Ext.refl _).alloc _)
  have hq : Ext w7 ((w7.alloc (.cells #[.string s0, .int .u64 (D 0 : Nat), .int .u64 (D 1 : Nat), .int .u64 (D 2 : Nat), .int .u64 (D 3 : Nat), .int .i64 3, .int .i64 5, .int .i64 9, .slice q2 R2.length cap2] 27)).alloc (.cells #[.string s0, .int .u64 9223372036854775808, .int .u64 0, .int .u64 0, .int .u64 0, .int .i64 3, .int .i64 5, .int .i64 9, .slice q R.length cap] 27)) := ((Ext.refl w7).alloc _).alloc _
  have hRi := hRi.out
  have v0 := hV.cell 0 (by simp)
  have v1 := hV.cell 1 (by simp)
  have v2 := hV.cell 2 (by simp)
  have v3 := hV.cell 3 (by simp)
  have vl := hV.lt
  change World.cell? _ _ = some (.int .u64 3) at v0
  change World.cell? _ _ = some (.int .u64 6) at v1
  change World.cell? _ _ = some (.int .u64 0) at v2 v3
  obtain ⟨xl, x0, x1, x2, x3, x4, x5, x6, x7, x8, xf0, xf1, xf2, xf3, xf4, xf5, xf6, xf7, xf8⟩ := hX.cells9
  obtain ⟨yl, y0, y1, y2, y3, y4, y5, y6, y7, y8, yf0, yf1, yf2, yf3, yf4, yf5, yf6, yf7, yf8⟩ := hW.cells9
  obtain ⟨ul, u0, u1, u2, u3, u4, u5, u6, u7, u8, uf0, uf1, uf2, uf3, uf4, uf5, uf6, uf7, uf8⟩ := hY0.cells9
  go_wp2_with fail
  clear xl x0 xf0 x1 xf1 x2 xf2 x3 xf3 x4 xf4 x5 xf5 x6 xf6 x7 xf7 x8 xf8
  clear yl y0 yf0 y1 yf1 y2 yf2 y3 yf3 y4 yf4 y5 yf5 y6 yf6 y7 yf7 y8 yf8
  clear ul u0 uf0 u1 uf1 u2 uf2 u3 uf3 u4 uf4 u5 uf5 u6 uf6 u7 uf7 u8 uf8
  clear hY0 hW v0 v1 v2 v3 vl hRi
  generalize (w7.alloc (.cells #[.string s0, .int .u64 (D 0 : Nat), .int .u64 (D 1 : Nat), .int .u64 (D 2 : Nat), .int .u64 (D 3 : Nat), .int .i64 3, .int .i64 5, .int .i64 9, .slice q2 R2.length cap2] 27)).alloc (.cells #[.string s0, .int .u64 9223372036854775808, .int .u64 0, .int .u64 0, .int .u64 0, .int .i64 3, .int .i64 5, .int .i64 9, .slice q R.length cap] 27) = w8 at *
  generalize w7.heap.size = bY at *
  replace hx := hx.ext hq
  replace hX := hX.ext hq
  replace hV := hV.ext hq
  replace hy := hy.ext hq
  replace hE := hE.trans hq
  clear hq
  have C := SX.out (.slice q R.length cap) R (.slice q2 R2.length cap2) R2 w8 hl hf hx hS.out hy hS2
  rw [hsm.out R R2 hS.out hS2] at C
  replace C := Lib.hid C
  refine C.out.mono ?_; rintro e w9 ⟨rfl, hw9⟩
  clear C
  replace hx := hx.ext hw9
  replace hX := hX.ext hw9
  replace hV := hV.ext hw9
  replace hy := hy.ext hw9
  replace hY := hY.ext hw9
  replace hW2 := hW2.ext hw9
  replace hE := hE.trans hw9
  clear hw9
  obtain ⟨xl, x0, x1, x2, x3, x4, x5, x6, x7, x8, xf0, xf1, xf2, xf3, xf4, xf5, xf6, xf7, xf8⟩ := hX.cells9
  obtain ⟨yl, y0, y1, y2, y3, y4, y5, y6, y7, y8, yf0, yf1, yf2, yf3, yf4, yf5, yf6, yf7, yf8⟩ := hW2.cells9
  go_wp2_with fail
  clear xl x0 xf0 x1 xf1 x2 xf2 x3 xf3 x4 xf4 x5 xf5 x6 xf6 x7 xf7 x8 xf8
  clear yl y0 yf0 y1 yf1 y2 yf2 y3 yf3 y4 yf4 y5 yf5 y6 yf6 y7 yf7 y8 yf8
  have C := PU.out (.slice q R.length cap) R _ hE hl hf hx hS.out
  rw [z4.out] at C
  replace C := Lib.hid C
  refine C.out.mono ?_; rintro e w10 ⟨rfl, hw10⟩
  clear C
  replace hx := hx.ext hw10
  replace hX := hX.ext hw10
  replace hV := hV.ext hw10
  replace hy := hy.ext hw10
  replace hY := hY.ext hw10
  replace hW2 := hW2.ext hw10
  replace hE := hE.trans hw10
  clear hw10
  obtain ⟨xl, x0, x1, x2, x3, x4, x5, x6, x7, x8, xf0, xf1, xf2, xf3, xf4, xf5, xf6, xf7, xf8⟩ := hX.cells9
  obtain ⟨yl, y0, y1, y2, y3, y4, y5, y6, y7, y8, yf0, yf1, yf2, yf3, yf4, yf5, yf6, yf7, yf8⟩ := hW2.cells9
  go_wp2_with fail
  clear xl x0 xf0 x1 xf1 x2 xf2 x3 xf3 x4 xf4 x5 xf5 x6 xf6 x7 xf7 x8 xf8
  clear yl y0 yf0 y1 yf1 y2 yf2 y3 yf3 y4 yf4 y5 yf5 y6 yf6 y7 yf7 y8 yf8
  have C := TX.out (.slice q R.length cap) R _ hE hl hf hx hS.out
  rw [z2.out] at C
  replace C := Lib.hid C
  refine C.out.mono ?_; rintro e w11 ⟨rfl, hw11⟩
  clear C
  replace hx := hx.ext hw11
  replace hX := hX.ext hw11
  replace hV := hV.ext hw11
  replace hy := hy.ext hw11
  replace hY := hY.ext hw11
  replace hW2 := hW2.ext hw11
  replace hE := hE.trans hw11
  clear hw11
  obtain ⟨xl, x0, x1, x2, x3, x4, x5, x6, x7, x8, xf0, xf1, xf2, xf3, xf4, xf5, xf6, xf7, xf8⟩ := hX.cells9
  obtain ⟨yl, y0, y1, y2, y3, y4, y5, y6, y7, y8, yf0, yf1, yf2, yf3, yf4, yf5, yf6, yf7, yf8⟩ := hW2.cells9
  go_wp2_with fail
  clear xl x0 xf0 x1 xf1 x2 xf2 x3 xf3 x4 xf4 x5 xf5 x6 xf6 x7 xf7 x8 xf8
  clear yl y0 yf0 y1 yf1 y2 yf2 y3 yf3 y4 yf4 y5 yf5 y6 yf6 y7 yf7 y8 yf8
  have C := CK.out (.slice q R.length cap) R _ hE hl hf hx hS.out
  rw [z1.out] at C
  replace C := Lib.hid C
  refine C.out.mono ?_; rintro e w12 ⟨rfl, hw12⟩
  clear C
  replace hx := hx.ext hw12
  replace hX := hX.ext hw12
  replace hV := hV.ext hw12
  replace hy := hy.ext hw12
  replace hY := hY.ext hw12
  replace hW2 := hW2.ext hw12
  replace hE := hE.trans hw12
  clear hw12
  obtain ⟨xl, x0, x1, x2, x3, x4, x5, x6, x7, x8, xf0, xf1, xf2, xf3, xf4, xf5, xf6, xf7, xf8⟩ := hX.cells9
  obtain ⟨yl, y0, y1, y2, y3, y4, y5, y6, y7, y8, yf0, yf1, yf2, yf3, yf4, yf5, yf6, yf7, yf8⟩ := hW2.cells9
  go_wp2_with fail
  clear xl x0 xf0 x1 xf1 x2 xf2 x3 xf3 x4 xf4 x5 xf5 x6 xf6 x7 xf7 x8 xf8
  clear yl y0 yf0 y1 yf1 y2 yf2 y3 yf3 y4 yf4 y5 yf5 y6 yf6 y7 yf7 y8 yf8
  have C := CW.out (.slice q R.length cap) R _ hE hl hf hx hS.out
  rw [z3.out] at C
  replace C := Lib.hid C
  refine C.out.mono ?_; rintro e w13 ⟨rfl, hw13⟩
  clear C
  replace hx := hx.ext hw13
  replace hX := hX.ext hw13
  replace hV := hV.ext hw13
  replace hy := hy.ext hw13
  replace hY := hY.ext hw13
  replace hW2 := hW2.ext hw13
  replace hE := hE.trans hw13
  clear hw13
  obtain ⟨xl, x0, x1, x2, x3, x4, x5, x6, x7, x8, xf0, xf1, xf2, xf3, xf4, xf5, xf6, xf7, xf8⟩ := hX.cells9
  obtain ⟨yl, y0, y1, y2, y3, y4, y5, y6, y7, y8, yf0, yf1, yf2, yf3, yf4, yf5, yf6, yf7, yf8⟩ := hW2.cells9
  go_wp2_with fail
  clear xl x0 xf0 x1 xf1 x2 xf2 x3 xf3 x4 xf4 x5 xf5 x6 xf6 x7 xf7 x8 xf8
  clear yl y0 yf0 y1 yf1 y2 yf2 y3 yf3 y4 yf4 y5 yf5 y6 yf6 y7 yf7 y8 yf8
  have C := C0.out _ hE

  replace C := Lib.hid C
  refine C.out.mono ?_; rintro e w14 ⟨rfl, hw14⟩
  clear C
  replace hx := hx.ext hw14
  replace hX := hX.ext hw14
  replace hV := hV.ext hw14
  replace hy := hy.ext hw14
  replace hY := hY.ext hw14
  replace hW2 := hW2.ext hw14
  replace hE := hE.trans hw14
  clear hw14
  obtain ⟨xl, x0, x1, x2, x3, x4, x5, x6, x7, x8, xf0, xf1, xf2, xf3, xf4, xf5, xf6, xf7, xf8⟩ := hX.cells9
  obtain ⟨yl, y0, y1, y2, y3, y4, y5, y6, y7, y8, yf0, yf1, yf2, yf3, yf4, yf5, yf6, yf7, yf8⟩ := hW2.cells9
  go_wp2_with fail
  clear xl x0 xf0 x1 xf1 x2 xf2 x3 xf3 x4 xf4 x5 xf5 x6 xf6 x7 xf7 x8 xf8
  clear yl y0 yf0 y1 yf1 y2 yf2 y3 yf3 y4 yf4 y5 yf5 y6 yf6 y7 yf7 y8 yf8
  have C := CA.out _ hE

  replace C := Lib.hid C
  refine C.out.mono ?_; rintro e w15 ⟨rfl, hw15⟩
  clear C
  replace hx := hx.ext hw15
  replace hX := hX.ext hw15
  replace hV := hV.ext hw15
  replace hy := hy.ext hw15
  replace hY := hY.ext hw15
  replace hW2 := hW2.ext hw15
  replace hE := hE.trans hw15
  clear hw15
  obtain ⟨xl, x0, x1, x2, x3, x4, x5, x6, x7, x8, xf0, xf1, xf2, xf3, xf4, xf5, xf6, xf7, xf8⟩ := hX.cells9
  obtain ⟨yl, y0, y1, y2, y3, y4, y5, y6, y7, y8, yf0, yf1, yf2, yf3, yf4, yf5, yf6, yf7, yf8⟩ := hW2.cells9
  go_wp2_with fail
  clear xl x0 xf0 x1 xf1 x2 xf2 x3 xf3 x4 xf4 x5 xf5 x6 xf6 x7 xf7 x8 xf8
  clear yl y0 yf0 y1 yf1 y2 yf2 y3 yf3 y4 yf4 y5 yf5 y6 yf6 y7 yf7 y8 yf8
  have C := SW.out (.slice q R.length cap) R _ hl hf hx hS.out
  rw [z5.out] at C
  replace C := Lib.hid C
  refine C.out.mono ?_; rintro e w16 ⟨rfl, hw16⟩
  clear C
  replace hx := hx.ext hw16
  replace hX := hX.ext hw16
  replace hV := hV.ext hw16
  replace hy := hy.ext hw16
  replace hY := hY.ext hw16
  replace hW2 := hW2.ext hw16
  replace hE := hE.trans hw16
  clear hw16
  go_wp2
  go_ret
  exact ⟨rfl, hE⟩
end Go.Proofs.YthmhalcloogniaaGreatDoor
