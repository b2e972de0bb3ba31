/- Texts of the base. -/

import Derived.Test.YtefjdmjkofaajaaGreatDoorT23
import Derived.Test.YtefjdmjkofaajaaGreatDoorT8
import Derived.Test.YtefjdmjkofaajaaGreatDoorT21
import Derived.Lib.AtoiAllCases
import Derived.Test.YtefjdmjkofaajaaGreatDoorT7
import Derived.Test.YtefjdmjkofaajaaGreatDoorT24
import Derived.Test.YtefjdmjkofaajaaGreatDoorT25
namespace Go.Dm
open Go Go.RowKit
def GotP (w : World) (G : SpQ × Bool) (e : Ending) : Prop :=
 ∃ v R, e = .returned (.tuple #[spVal G.1.1 (vG G.1.2.1) G.1.2.2.1 v, .bool G.2]) ∧ Terms w v R ∧ FitR R ∧ R.length ≤ 4 ∧ R.map rowT = G.1.2.2.2 ∧ OkV G.1.2.1
theorem GotP.no (w : World) : GotP w (noSp, false) (.returned (.tuple #[.agg #[.string ⟨#[]⟩, .int .u64 0, .int .u64 0, .int .u64 0, .int .u64 0, .int .i64 0, .int .i64 0, .int .i64 0, .slice none 0 0], .bool false])) :=
 ⟨.slice none 0 0, [], rfl, Terms.nil w, (fun r hr => by cases hr), by simp, rfl, okV_no⟩
end Go.Dm
namespace Go.Proofs.YtefjdmjkofaajaaGreatDoor
open Go.RowKit Go.Dm
end Go.Proofs.YtefjdmjkofaajaaGreatDoor
namespace Go.Dm
open Go Go.RowKit
end Go.Dm
namespace Go.Proofs.YtefjdmjkofaajaaGreatDoor
open Go.RowKit Go.Dm
set_option maxHeartbeats 4000000 in
set_option maxRecDepth 100000 in
theorem rputx_w (s : ByteArray) (d : Vc) (n : Nums3) (v : Value) (R : List RowS) (w : World) (hs : s.size ≤ 1048576) (hd : OkV d) (hf : FitR R) (hx : Terms w v R) :
  Calls Tryz.prog 52 #[spVal s (vG d) n v] w fun e w' => e = .returned (.string ⟨(putX (s, d, n, R.map rowT)).toArray⟩) ∧ Ext w w' := by
 obtain ⟨qv, capv, rfl, _, _⟩ := hx.shape
 have CK := fun U (h : Ext w U) => rcheck_w s d n _ R U hs hd hf (hx.ext h)
 by_cases hc : chkX (s, d, n, R.map rowT) = 0
 ·have hshort := putB_short hc hd
  rw [hc] at CK
  obtain ⟨hu, hin, hrs, _⟩ := chkX_iff.1 hc
  have hs98 : s.size ≤ 98 := (under_short hu).1
  have hin := inNum_iff.1 hin
  obtain ⟨n1, n2, n3⟩ := n
  simp only at hin
  obtain ⟨c1, rfl⟩ : ∃ c : Nat, n1 = c := ⟨n1.toNat, by omega⟩
  obtain ⟨c2, rfl⟩ : ∃ c : Nat, n2 = c := ⟨n2.toNat, by omega⟩
  obtain ⟨c3, rfl⟩ : ∃ c : Nat, n3 = c := ⟨n3.toNat, by omega⟩
  have hc1 : c1 ≤ 8 := by omega
  have hc2 : c2 ≤ 9 := by omega
  have hc3 : c3 ≤ 100 := by omega
  clear hu hrs hin
  have hput : putX (s, d, ((c1 : Int), (c2 : Int), (c3 : Int)), R.map rowT) = putT s.data.toList ++ (putV d ++ (putL c1 ++ (putL c2 ++ (putL c3 ++ putS (R.map rowT))))) := putX_ok hc
  rw [← putX_ok hc] at hshort
  have C1 := fun U => rputtext_w s U (by omega)
  have C2 := fun U => r03put_w d hd U
  have C3 := fun U => rput_w c1 U (show c1 < _ by omega)
  have C4 := fun U => rput_w c2 U (show c2 < _ by omega)
  have C5 := fun U => rput_w c3 U (show c3 < _ by omega)
  have C6 := fun U (h : Ext w U) => smput_w R _ U hf (hx.ext h)
  obtain ⟨A1, h1⟩ : ∃ A : ByteArray, A = ⟨(putT s.data.toList).toArray⟩ := ⟨_, rfl⟩
  obtain ⟨A2, h2⟩ : ∃ A : ByteArray, A = ⟨(putV d).toArray⟩ := ⟨_, rfl⟩
  obtain ⟨A3, h3⟩ : ∃ A : ByteArray, A = ⟨(putL c1).toArray⟩ := ⟨_, rfl⟩
  obtain ⟨A4, h4⟩ : ∃ A : ByteArray, A = ⟨(putL c2).toArray⟩ := ⟨_, rfl⟩
  obtain ⟨A5, h5⟩ : ∃ A : ByteArray, A = ⟨(putL c3).toArray⟩ := ⟨_, rfl⟩
  obtain ⟨A6, h6⟩ : ∃ A : ByteArray, A = ⟨(putS (R.map rowT)).toArray⟩ := ⟨_, rfl⟩
  rw [← h1] at C1
  rw [← h2] at C2
  rw [← h3] at C3
  rw [← h4] at C4
  rw [← h5] at C5
  rw [← h6] at C6
  have hfin : ((((A1 ++ A2) ++ A3) ++ A4) ++ A5) ++ A6 = ⟨(putX (s, d, ((c1 : Int), (c2 : Int), (c3 : Int)), R.map rowT)).toArray⟩ := by
   apply mk_bytes
   rw [hput, h1, h2, h3, h4, h5, h6]
   simp only [data_append, List.append_assoc]
  have hall : A1.size + A2.size + A3.size + A4.size + A5.size + A6.size ≤ 1200 := by
   have := congrArg ByteArray.size hfin
   simp only [ByteArray.size_append] at this
   have e : (⟨(putX (s, d, ((c1 : Int), (c2 : Int), (c3 : Int)), R.map rowT)).toArray⟩ : ByteArray).size = (putX (s, d, ((c1 : Int), (c2 : Int), (c3 : Int)), R.map rowT)).length := rfl
   omega
  rw [← hfin]
  clear h1 h2 h3 h4 h5 h6 hput hfin hshort hc
  unfold vVal vF at C2
  unfold spVal at *
  generalize vG d = D at *
  have hX := XBox.new w s D ((c1 : Int), (c2 : Int), (c3 : Int)) (.slice qv R.length capv) 42
  have hE : Ext w (w.alloc (.cells #[.string s, .int .u64 (D 0 : Nat), .int .u64 (D 1 : Nat), .int .u64 (D 2 : Nat), .int .u64 (D 3 : Nat), .int .i64 (c1 : Nat), .int .i64 (c2 : Nat), .int .i64 (c3 : Nat), .slice qv R.length capv] 42)) := (Ext.refl _).alloc _
  replace CK := Lib.hid CK
  replace C1 := Lib.hid C1
  replace C2 := Lib.hid C2
  replace C3 := Lib.hid C3
  replace C4 := Lib.hid C4
  replace C5 := Lib.hid C5
  replace C6 := Lib.hid C6
  simp only at hX
  generalize hW0 : w.alloc (.cells #[.string s, .int .u64 (D 0 : Nat), .int .u64 (D 1 : Nat), .int .u64 (D 2 : Nat), .int .u64 (D 3 : Nat), .int .i64 (c1 : Nat), .int .i64 (c2 : Nat), .int .i64 (c3 : Nat), .slice qv R.length capv] 42) = W at *
  obtain ⟨xl, x0, x1, x2, x3, x4, x5, x6, x7, x8⟩ := hX.cells
  go_enter Tryz.func52, Tryz.ntmps52
  go_wp2_with fail
  refine (CK.out _ hE).mono ?_; rintro e w1 ⟨rfl, k1⟩
  clear xl x0 x1 x2 x3 x4 x5 x6 x7 x8
  replace hX := hX.ext k1
  replace hE := hE.trans k1
  clear k1 hW0
  obtain ⟨xl, x0, x1, x2, x3, x4, x5, x6, x7, x8⟩ := hX.cells
  go_wp2_with fail
  refine sx_ ?_
  refine rg_ 27 (Ext.refl w1) ?_
  refine tks (List.range' 0 27) 134217727 0 (hq := by intro x; (repeat go_big_quiet_step ((first | (go_at_call 48; with_reducible exact Calls.quietE (C1.out _)) | (go_at_call 50; with_reducible exact Calls.quietE (C2.out _)) | (go_at_call 44; with_reducible exact Calls.quietE (C3.out _)) | (go_at_call 44; with_reducible exact Calls.quietE (C4.out _)) | (go_at_call 44; with_reducible exact Calls.quietE (C5.out _)) | (go_at_call 94; with_reducible exact Calls.quietE (C6.out _ (Ext.trans hE ex_)))))); exact wpQuiet_nil rfl) ?_
  refine kd_ (Ext.refl w1) fun w1a hx1a hX1a => ?_
  go_wp2
  go_ret
  exact ⟨rfl, hE.trans hX1a⟩
 ·rw [putX_bad hc]
  generalize chkX (s, d, n, R.map rowT) = K at *
  have hKb : ((K : Int) != 0) = true := by simp; omega
  have hKi : ¬ ((K : Int) = 0) := by omega
  unfold spVal at *
  generalize vG d = D at *
  have hX := XBox.new w s D n (.slice qv R.length capv) 42
  have hE : Ext w (w.alloc (.cells #[.string s, .int .u64 (D 0 : Nat), .int .u64 (D 1 : Nat), .int .u64 (D 2 : Nat), .int .u64 (D 3 : Nat), .int .i64 n.1, .int .i64 n.2.1, .int .i64 n.2.2, .slice qv R.length capv] 42)) := (Ext.refl _).alloc _
  replace CK := Lib.hid CK
  generalize hW0 : w.alloc (.cells #[.string s, .int .u64 (D 0 : Nat), .int .u64 (D 1 : Nat), .int .u64 (D 2 : Nat), .int .u64 (D 3 : Nat), .int .i64 n.1, .int .i64 n.2.1, .int .i64 n.2.2, .slice qv R.length capv] 42) = W at *
  obtain ⟨xl, x0, x1, x2, x3, x4, x5, x6, x7, x8⟩ := hX.cells
  go_enter Tryz.func52, Tryz.ntmps52
  go_wp2_with fail
  refine (CK.out _ hE).mono ?_; rintro e w1 ⟨rfl, k1⟩
  go_wp2
  go_ret
  exact ⟨rfl, hE.trans k1⟩
end Go.Proofs.YtefjdmjkofaajaaGreatDoor
