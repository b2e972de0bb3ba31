/- Texts one behind the other: Chapter 11, the document's: the walks of Put, Words, Text. -/
import Derived.Test.YthmhalcloogniaaGreatDoorT21
import Derived.Test.YthmhalcloogniaaGreatDoorT15
import Derived.Test.YthmhalcloogniaaGreatDoorT23
import Derived.Test.YthmhalcloogniaaGreatDoorT19
import Derived.Test.YthmhalcloogniaaGreatDoorT24
import Derived.Test.YthmhalcloogniaaGreatDoorT26
import Derived.Test.YthmhalcloogniaaGreatDoorT27
namespace Go.Dm
open Go Go.RowKit
theorem jjoin_take_len (WS : List Bs) (k : Nat) : (Lib.join (WS.take k) [32]).length ≤ (Lib.join WS [32]).length := by
  match WS, k with
  | [], _ => simp
  | _ :: _, 0 => simp [Lib.join]
  | x :: r, k + 1 =>
    rw [List.take_succ_cons, Lib.join_cons, Lib.join_cons, List.length_append, List.length_append]
    have h : (Lib.joinTail [32] (r.take k)).length ≤ (Lib.joinTail [32] r).length := by
      have e : Lib.joinTail [32] r = Lib.joinTail [32] (r.take k) ++ Lib.joinTail [32] (r.drop k) := by
        unfold Lib.joinTail
        rw [← List.flatten_append, ← List.map_append, List.take_append_drop]
      rw [e, List.length_append]; omega
    omega
end Go.Dm
namespace Go.Proofs.YthmhalcloogniaaGreatDoor
open Go.RowKit Go.Dm
set_option maxHeartbeats 4000000 in
set_option maxRecDepth 100000 in
theorem rputx_w (s : ByteArray) (d : Vc) (n : Nums3) (v : Value) (R : List RowS) (w : World) (hs : s.size ≤ 1048576) (hd : OkV d) (hf : FitR R) (hx : Terms w v R) :
    Calls Tryz.prog 23 #[spVal s (vG d) n v] w fun e w' => e = .returned (.string ⟨(putX (s, d, n, R.map rowT)).toArray⟩) ∧ Ext w w' := by
  obtain ⟨qv, capv, rfl, _, _⟩ := hx.shape
  have CK := fun U (h : Ext w U) => rcheck_w s d n _ R U hs hd hf (hx.ext h)
  by_cases hc : chkX (s, d, n, R.map rowT) = 0
  · have hshort := putB_short hc hd
    rw [hc] at CK
    obtain ⟨hu, hin, hrs, _⟩ := chkX_iff.1 hc
    have hs98 : s.size ≤ 98 := (under_short hu).1
    have hin := inNum_iff.1 hin
    obtain ⟨n1, n2, n3⟩ := n
    simp only at hin
    obtain ⟨c1, rfl⟩ : ∃ c : Nat, n1 = c := ⟨n1.toNat, by omega⟩
    obtain ⟨c2, rfl⟩ : ∃ c : Nat, n2 = c := ⟨n2.toNat, by omega⟩
    obtain ⟨c3, rfl⟩ : ∃ c : Nat, n3 = c := ⟨n3.toNat, by omega⟩
    have hc1 : c1 ≤ 8 := by omega
    have hc2 : c2 ≤ 9 := by omega
    have hc3 : c3 ≤ 100 := by omega
    clear hu hrs hin
    have hput : putX (s, d, ((c1 : Int), (c2 : Int), (c3 : Int)), R.map rowT) = putT s.data.toList ++ (putV d ++ (putL c1 ++ (putL c2 ++ (putL c3 ++ putS (R.map rowT))))) := putX_ok hc
    rw [← putX_ok hc] at hshort
    have C1 := fun U => rputtext_w s U (by omega)
    have C2 := fun U => r03put_w d hd U
    have C3 := fun U => rput_w c1 U (show c1 < _ by omega)
    have C4 := fun U => rput_w c2 U (show c2 < _ by omega)
    have C5 := fun U => rput_w c3 U (show c3 < _ by omega)
    have C6 := fun U (h : Ext w U) => smput_w R _ U hf (hx.ext h)
    obtain ⟨A1, h1⟩ : ∃ A : ByteArray, A = ⟨(putT s.data.toList).toArray⟩ := ⟨_, rfl⟩
    obtain ⟨A2, h2⟩ : ∃ A : ByteArray, A = ⟨(putV d).toArray⟩ := ⟨_, rfl⟩
    obtain ⟨A3, h3⟩ : ∃ A : ByteArray, A = ⟨(putL c1).toArray⟩ := ⟨_, rfl⟩
    obtain ⟨A4, h4⟩ : ∃ A : ByteArray, A = ⟨(putL c2).toArray⟩ := ⟨_, rfl⟩
    obtain ⟨A5, h5⟩ : ∃ A : ByteArray, A = ⟨(putL c3).toArray⟩ := ⟨_, rfl⟩
    obtain ⟨A6, h6⟩ : ∃ A : ByteArray, A = ⟨(putS (R.map rowT)).toArray⟩ := ⟨_, rfl⟩
    rw [← h1] at C1
    rw [← h2] at C2
    rw [← h3] at C3
    rw [← h4] at C4
    rw [← h5] at C5
    rw [← h6] at C6
    have hfin : ((((A1 ++ A2) ++ A3) ++ A4) ++ A5) ++ A6 = ⟨(putX (s, d, ((c1 : Int), (c2 : Int), (c3 : Int)), R.map rowT)).toArray⟩ := by
      apply mk_bytes
      rw [hput, h1, h2, h3, h4, h5, h6]
      simp only [data_append, List.append_assoc]
    have hall : A1.size + A2.size + A3.size + A4.size + A5.size + A6.size ≤ 1200 := by
      have := congrArg ByteArray.size hfin
      simp only [ByteArray.size_append] at this
      have e : (⟨(putX (s, d, ((c1 : Int), (c2 : Int), (c3 : Int)), R.map rowT)).toArray⟩ : ByteArray).size = (putX (s, d, ((c1 : Int), (c2 : Int), (c3 : Int)), R.map rowT)).length := rfl
      omega
    rw [← hfin]
    clear h1 h2 h3 h4 h5 h6 hput hfin hshort hc
    unfold vVal vF at C2
    unfold spVal at *
    generalize vG d = D at *
    have hX := XBox.new w s D ((c1 : Int), (c2 : Int), (c3 : Int)) (.slice qv R.length capv) 33
    have hE : Ext w (w.alloc (.cells #[.string s, .int .u64 (D 0 : Nat), .int .u64 (D 1 : Nat), .int .u64 (D 2 : Nat), .int .u64 (D 3 : Nat), .int .i64 (c1 : Nat), .int .i64 (c2 : Nat), .int .i64 (c3 : Nat), .slice qv R.length capv] 33)) := (Ext.refl _).alloc _
    replace CK := Lib.hid CK
    replace C1 := Lib.hid C1
    replace C2 := Lib.hid C2
    replace C3 := Lib.hid C3
    replace C4 := Lib.hid C4
    replace C5 := Lib.hid C5
    replace C6 := Lib.hid C6
    simp only at hX
    generalize hW0 : w.alloc (.cells #[.string s, .int .u64 (D 0 : Nat), .int .u64 (D 1 : Nat), .int .u64 (D 2 : Nat), .int .u64 (D 3 : Nat), .int .i64 (c1 : Nat), .int .i64 (c2 : Nat), .int .i64 (c3 : Nat), .slice qv R.length capv] 33) = W at *
    obtain ⟨xl, x0, x1, x2, x3, x4, x5, x6, x7, x8⟩ := hX.cells
    go_enter Tryz.func23, Tryz.ntmps23
    go_wp2_with fail
    refine (CK.out _ hE).mono ?_; rintro e w1 ⟨rfl, k1⟩
    clear xl x0 x1 x2 x3 x4 x5 x6 x7 x8
    replace hX := hX.ext k1
    replace hE := hE.trans k1
    clear k1 hW0
    obtain ⟨xl, x0, x1, x2, x3, x4, x5, x6, x7, x8⟩ := hX.cells
    go_wp2_with fail
    try simp only [Act.put, List.setIfInBounds_toArray, List.set_cons_succ, List.set_cons_zero]
    refine Dm.wp_region_ext 27 (Dm.bits 27 0) (Ext.refl w1) (by kernel_rfl) (by kernel_rfl) (by kernel_rfl) ?_
    refine Dm.wpE_take (i := 0) (listed' := (Dm.bits 27 1)) (by kernel_rfl) (by kernel_rfl) rfl (fun _ _ _ _ h => h) ?_; apply Exists.intro; refine And.intro (fun x => ?_) ?_
    · go_big_quiet_step ((first | (go_at_call 59; with_reducible exact Calls.quietE (C1.out _)) | (go_at_call 60; with_reducible exact Calls.quietE (C2.out _)) | (go_at_call 61; with_reducible exact Calls.quietE (C3.out _)) | (go_at_call 61; with_reducible exact Calls.quietE (C4.out _)) | (go_at_call 61; with_reducible exact Calls.quietE (C5.out _)) | (go_at_call 62; with_reducible exact Calls.quietE (C6.out _ (Ext.trans hE (by repeat (first | assumption | exact Ext.refl _ | refine Ext.trans ?_ (ext_grow _ _)))))))); exact wpQuiet_nil rfl
    refine Dm.wpE_take (i := 1) (listed' := (Dm.bits 27 3)) (by kernel_rfl) (by kernel_rfl) rfl (fun _ _ _ _ h => h) ?_; apply Exists.intro; refine And.intro (fun x => ?_) ?_
    · go_big_quiet_step ((first | (go_at_call 59; with_reducible exact Calls.quietE (C1.out _)) | (go_at_call 60; with_reducible exact Calls.quietE (C2.out _)) | (go_at_call 61; with_reducible exact Calls.quietE (C3.out _)) | (go_at_call 61; with_reducible exact Calls.quietE (C4.out _)) | (go_at_call 61; with_reducible exact Calls.quietE (C5.out _)) | (go_at_call 62; with_reducible exact Calls.quietE (C6.out _ (Ext.trans hE (by repeat (first | assumption | exact Ext.refl _ | refine Ext.trans ?_ (ext_grow _ _)))))))); exact wpQuiet_nil rfl
    refine Dm.wpE_take (i := 2) (listed' := (Dm.bits 27 7)) (by kernel_rfl) (by kernel_rfl) rfl (fun _ _ _ _ h => h) ?_; apply Exists.intro; refine And.intro (fun x => ?_) ?_
    · go_big_quiet_step ((first | (go_at_call 59; with_reducible exact Calls.quietE (C1.out _)) | (go_at_call 60; with_reducible exact Calls.quietE (C2.out _)) | (go_at_call 61; with_reducible exact Calls.quietE (C3.out _)) | (go_at_call 61; with_reducible exact Calls.quietE (C4.out _)) | (go_at_call 61; with_reducible exact Calls.quietE (C5.out _)) | (go_at_call 62; with_reducible exact Calls.quietE (C6.out _ (Ext.trans hE (by repeat (first | assumption | exact Ext.refl _ | refine Ext.trans ?_ (ext_grow _ _)))))))); exact wpQuiet_nil rfl
    refine Dm.wpE_take (i := 3) (listed' := (Dm.bits 27 15)) (by kernel_rfl) (by kernel_rfl) rfl (fun _ _ _ _ h => h) ?_; apply Exists.intro; refine And.intro (fun x => ?_) ?_
    · go_big_quiet_step ((first | (go_at_call 59; with_reducible exact Calls.quietE (C1.out _)) | (go_at_call 60; with_reducible exact Calls.quietE (C2.out _)) | (go_at_call 61; with_reducible exact Calls.quietE (C3.out _)) | (go_at_call 61; with_reducible exact Calls.quietE (C4.out _)) | (go_at_call 61; with_reducible exact Calls.quietE (C5.out _)) | (go_at_call 62; with_reducible exact Calls.quietE (C6.out _ (Ext.trans hE (by repeat (first | assumption | exact Ext.refl _ | refine Ext.trans ?_ (ext_grow _ _)))))))); exact wpQuiet_nil rfl
    refine Dm.wpE_take (i := 4) (listed' := (Dm.bits 27 31)) (by kernel_rfl) (by kernel_rfl) rfl (fun _ _ _ _ h => h) ?_; apply Exists.intro; refine And.intro (fun x => ?_) ?_
    · go_big_quiet_step ((first | (go_at_call 59; with_reducible exact Calls.quietE (C1.out _)) | (go_at_call 60; with_reducible exact Calls.quietE (C2.out _)) | (go_at_call 61; with_reducible exact Calls.quietE (C3.out _)) | (go_at_call 61; with_reducible exact Calls.quietE (C4.out _)) | (go_at_call 61; with_reducible exact Calls.quietE (C5.out _)) | (go_at_call 62; with_reducible exact Calls.quietE (C6.out _ (Ext.trans hE (by repeat (first | assumption | exact Ext.refl _ | refine Ext.trans ?_ (ext_grow _ _)))))))); exact wpQuiet_nil rfl
    refine Dm.wpE_take (i := 5) (listed' := (Dm.bits 27 63)) (by kernel_rfl) (by kernel_rfl) rfl (fun _ _ _ _ h => h) ?_; apply Exists.intro; refine And.intro (fun x => ?_) ?_
    · go_big_quiet_step ((first | (go_at_call 59; with_reducible exact Calls.quietE (C1.out _)) | (go_at_call 60; with_reducible exact Calls.quietE (C2.out _)) | (go_at_call 61; with_reducible exact Calls.quietE (C3.out _)) | (go_at_call 61; with_reducible exact Calls.quietE (C4.out _)) | (go_at_call 61; with_reducible exact Calls.quietE (C5.out _)) | (go_at_call 62; with_reducible exact Calls.quietE (C6.out _ (Ext.trans hE (by repeat (first | assumption | exact Ext.refl _ | refine Ext.trans ?_ (ext_grow _ _)))))))); exact wpQuiet_nil rfl
    refine Dm.wpE_take (i := 6) (listed' := (Dm.bits 27 127)) (by kernel_rfl) (by kernel_rfl) rfl (fun _ _ _ _ h => h) ?_; apply Exists.intro; refine And.intro (fun x => ?_) ?_
    · go_big_quiet_step ((first | (go_at_call 59; with_reducible exact Calls.quietE (C1.out _)) | (go_at_call 60; with_reducible exact Calls.quietE (C2.out _)) | (go_at_call 61; with_reducible exact Calls.quietE (C3.out _)) | (go_at_call 61; with_reducible exact Calls.quietE (C4.out _)) | (go_at_call 61; with_reducible exact Calls.quietE (C5.out _)) | (go_at_call 62; with_reducible exact Calls.quietE (C6.out _ (Ext.trans hE (by repeat (first | assumption | exact Ext.refl _ | refine Ext.trans ?_ (ext_grow _ _)))))))); exact wpQuiet_nil rfl
    refine Dm.wpE_take (i := 7) (listed' := (Dm.bits 27 255)) (by kernel_rfl) (by kernel_rfl) rfl (fun _ _ _ _ h => h) ?_; apply Exists.intro; refine And.intro (fun x => ?_) ?_
    · go_big_quiet_step ((first | (go_at_call 59; with_reducible exact Calls.quietE (C1.out _)) | (go_at_call 60; with_reducible exact Calls.quietE (C2.out _)) | (go_at_call 61; with_reducible exact Calls.quietE (C3.out _)) | (go_at_call 61; with_reducible exact Calls.quietE (C4.out _)) | (go_at_call 61; with_reducible exact Calls.quietE (C5.out _)) | (go_at_call 62; with_reducible exact Calls.quietE (C6.out _ (Ext.trans hE (by repeat (first | assumption | exact Ext.refl _ | refine Ext.trans ?_ (ext_grow _ _)))))))); exact wpQuiet_nil rfl
    refine Dm.wpE_take (i := 8) (listed' := (Dm.bits 27 511)) (by kernel_rfl) (by kernel_rfl) rfl (fun _ _ _ _ h => h) ?_; apply Exists.intro; refine And.intro (fun x => ?_) ?_
    · go_big_quiet_step ((first | (go_at_call 59; with_reducible exact Calls.quietE (C1.out _)) | (go_at_call 60; with_reducible exact Calls.quietE (C2.out _)) | (go_at_call 61; with_reducible exact Calls.quietE (C3.out _)) | (go_at_call 61; with_reducible exact Calls.quietE (C4.out _)) | (go_at_call 61; with_reducible exact Calls.quietE (C5.out _)) | (go_at_call 62; with_reducible exact Calls.quietE (C6.out _ (Ext.trans hE (by repeat (first | assumption | exact Ext.refl _ | refine Ext.trans ?_ (ext_grow _ _)))))))); exact wpQuiet_nil rfl
    refine Dm.wpE_take (i := 9) (listed' := (Dm.bits 27 1023)) (by kernel_rfl) (by kernel_rfl) rfl (fun _ _ _ _ h => h) ?_; apply Exists.intro; refine And.intro (fun x => ?_) ?_
    · go_big_quiet_step ((first | (go_at_call 59; with_reducible exact Calls.quietE (C1.out _)) | (go_at_call 60; with_reducible exact Calls.quietE (C2.out _)) | (go_at_call 61; with_reducible exact Calls.quietE (C3.out _)) | (go_at_call 61; with_reducible exact Calls.quietE (C4.out _)) | (go_at_call 61; with_reducible exact Calls.quietE (C5.out _)) | (go_at_call 62; with_reducible exact Calls.quietE (C6.out _ (Ext.trans hE (by repeat (first | assumption | exact Ext.refl _ | refine Ext.trans ?_ (ext_grow _ _)))))))); exact wpQuiet_nil rfl
    refine Dm.wpE_take (i := 10) (listed' := (Dm.bits 27 2047)) (by kernel_rfl) (by kernel_rfl) rfl (fun _ _ _ _ h => h) ?_; apply Exists.intro; refine And.intro (fun x => ?_) ?_
    · go_big_quiet_step ((first | (go_at_call 59; with_reducible exact Calls.quietE (C1.out _)) | (go_at_call 60; with_reducible exact Calls.quietE (C2.out _)) | (go_at_call 61; with_reducible exact Calls.quietE (C3.out _)) | (go_at_call 61; with_reducible exact Calls.quietE (C4.out _)) | (go_at_call 61; with_reducible exact Calls.quietE (C5.out _)) | (go_at_call 62; with_reducible exact Calls.quietE (C6.out _ (Ext.trans hE (by repeat (first | assumption | exact Ext.refl _ | refine Ext.trans ?_ (ext_grow _ _)))))))); exact wpQuiet_nil rfl
    refine Dm.wpE_take (i := 11) (listed' := (Dm.bits 27 4095)) (by kernel_rfl) (by kernel_rfl) rfl (fun _ _ _ _ h => h) ?_; apply Exists.intro; refine And.intro (fun x => ?_) ?_
    · go_big_quiet_step ((first | (go_at_call 59; with_reducible exact Calls.quietE (C1.out _)) | (go_at_call 60; with_reducible exact Calls.quietE (C2.out _)) | (go_at_call 61; with_reducible exact Calls.quietE (C3.out _)) | (go_at_call 61; with_reducible exact Calls.quietE (C4.out _)) | (go_at_call 61; with_reducible exact Calls.quietE (C5.out _)) | (go_at_call 62; with_reducible exact Calls.quietE (C6.out _ (Ext.trans hE (by repeat (first | assumption | exact Ext.refl _ | refine Ext.trans ?_ (ext_grow _ _)))))))); exact wpQuiet_nil rfl
    refine Dm.wpE_take (i := 12) (listed' := (Dm.bits 27 8191)) (by kernel_rfl) (by kernel_rfl) rfl (fun _ _ _ _ h => h) ?_; apply Exists.intro; refine And.intro (fun x => ?_) ?_
    · go_big_quiet_step ((first | (go_at_call 59; with_reducible exact Calls.quietE (C1.out _)) | (go_at_call 60; with_reducible exact Calls.quietE (C2.out _)) | (go_at_call 61; with_reducible exact Calls.quietE (C3.out _)) | (go_at_call 61; with_reducible exact Calls.quietE (C4.out _)) | (go_at_call 61; with_reducible exact Calls.quietE (C5.out _)) | (go_at_call 62; with_reducible exact Calls.quietE (C6.out _ (Ext.trans hE (by repeat (first | assumption | exact Ext.refl _ | refine Ext.trans ?_ (ext_grow _ _)))))))); exact wpQuiet_nil rfl
    refine Dm.wpE_take (i := 13) (listed' := (Dm.bits 27 16383)) (by kernel_rfl) (by kernel_rfl) rfl (fun _ _ _ _ h => h) ?_; apply Exists.intro; refine And.intro (fun x => ?_) ?_
    · go_big_quiet_step ((first | (go_at_call 59; with_reducible exact Calls.quietE (C1.out _)) | (go_at_call 60; with_reducible exact Calls.quietE (C2.out _)) | (go_at_call 61; with_reducible exact Calls.quietE (C3.out _)) | (go_at_call 61; with_reducible exact Calls.quietE (C4.out _)) | (go_at_call 61; with_reducible exact Calls.quietE (C5.out _)) | (go_at_call 62; with_reducible exact Calls.quietE (C6.out _ (Ext.trans hE (by repeat (first | assumption | exact Ext.refl _ | refine Ext.trans ?_ (ext_grow _ _)))))))); exact wpQuiet_nil rfl
    refine Dm.wpE_take (i := 14) (listed' := (Dm.bits 27 32767)) (by kernel_rfl) (by kernel_rfl) rfl (fun _ _ _ _ h => h) ?_; apply Exists.intro; refine And.intro (fun x => ?_) ?_
    · go_big_quiet_step ((first | (go_at_call 59; with_reducible exact Calls.quietE (C1.out _)) | (go_at_call 60; with_reducible exact Calls.quietE (C2.out _)) | (go_at_call 61; with_reducible exact Calls.quietE (C3.out _)) | (go_at_call 61; with_reducible exact Calls.quietE (C4.out _)) | (go_at_call 61; with_reducible exact Calls.quietE (C5.out _)) | (go_at_call 62; with_reducible exact Calls.quietE (C6.out _ (Ext.trans hE (by repeat (first | assumption | exact Ext.refl _ | refine Ext.trans ?_ (ext_grow _ _)))))))); exact wpQuiet_nil rfl
    refine Dm.wpE_take (i := 15) (listed' := (Dm.bits 27 65535)) (by kernel_rfl) (by kernel_rfl) rfl (fun _ _ _ _ h => h) ?_; apply Exists.intro; refine And.intro (fun x => ?_) ?_
    · go_big_quiet_step ((first | (go_at_call 59; with_reducible exact Calls.quietE (C1.out _)) | (go_at_call 60; with_reducible exact Calls.quietE (C2.out _)) | (go_at_call 61; with_reducible exact Calls.quietE (C3.out _)) | (go_at_call 61; with_reducible exact Calls.quietE (C4.out _)) | (go_at_call 61; with_reducible exact Calls.quietE (C5.out _)) | (go_at_call 62; with_reducible exact Calls.quietE (C6.out _ (Ext.trans hE (by repeat (first | assumption | exact Ext.refl _ | refine Ext.trans ?_ (ext_grow _ _)))))))); exact wpQuiet_nil rfl
    refine Dm.wpE_take (i := 16) (listed' := (Dm.bits 27 131071)) (by kernel_rfl) (by kernel_rfl) rfl (fun _ _ _ _ h => h) ?_; apply Exists.intro; refine And.intro (fun x => ?_) ?_
    · go_big_quiet_step ((first | (go_at_call 59; with_reducible exact Calls.quietE (C1.out _)) | (go_at_call 60; with_reducible exact Calls.quietE (C2.out _)) | (go_at_call 61; with_reducible exact Calls.quietE (C3.out _)) | (go_at_call 61; with_reducible exact Calls.quietE (C4.out _)) | (go_at_call 61; with_reducible exact Calls.quietE (C5.out _)) | (go_at_call 62; with_reducible exact Calls.quietE (C6.out _ (Ext.trans hE (by repeat (first | assumption | exact Ext.refl _ | refine Ext.trans ?_ (ext_grow _ _)))))))); exact wpQuiet_nil rfl
    refine Dm.wpE_take (i := 17) (listed' := (Dm.bits 27 262143)) (by kernel_rfl) (by kernel_rfl) rfl (fun _ _ _ _ h => h) ?_; apply Exists.intro; refine And.intro (fun x => ?_) ?_
    · go_big_quiet_step ((first | (go_at_call 59; with_reducible exact Calls.quietE (C1.out _)) | (go_at_call 60; with_reducible exact Calls.quietE (C2.out _)) | (go_at_call 61; with_reducible exact Calls.quietE (C3.out _)) | (go_at_call 61; with_reducible exact Calls.quietE (C4.out _)) | (go_at_call 61; with_reducible exact Calls.quietE (C5.out _)) | (go_at_call 62; with_reducible exact Calls.quietE (C6.out _ (Ext.trans hE (by repeat (first | assumption | exact Ext.refl _ | refine Ext.trans ?_ (ext_grow _ _)))))))); exact wpQuiet_nil rfl
    refine Dm.wpE_take (i := 18) (listed' := (Dm.bits 27 524287)) (by kernel_rfl) (by kernel_rfl) rfl (fun _ _ _ _ h => h) ?_; apply Exists.intro; refine And.intro (fun x => ?_) ?_
    · go_big_quiet_step ((first | (go_at_call 59; with_reducible exact Calls.quietE (C1.out _)) | (go_at_call 60; with_reducible exact Calls.quietE (C2.out _)) | (go_at_call 61; with_reducible exact Calls.quietE (C3.out _)) | (go_at_call 61; with_reducible exact Calls.quietE (C4.out _)) | (go_at_call 61; with_reducible exact Calls.quietE (C5.out _)) | (go_at_call 62; with_reducible exact Calls.quietE (C6.out _ (Ext.trans hE (by repeat (first | assumption | exact Ext.refl _ | refine Ext.trans ?_ (ext_grow _ _)))))))); exact wpQuiet_nil rfl
    refine Dm.wpE_take (i := 19) (listed' := (Dm.bits 27 1048575)) (by kernel_rfl) (by kernel_rfl) rfl (fun _ _ _ _ h => h) ?_; apply Exists.intro; refine And.intro (fun x => ?_) ?_
    · go_big_quiet_step ((first | (go_at_call 59; with_reducible exact Calls.quietE (C1.out _)) | (go_at_call 60; with_reducible exact Calls.quietE (C2.out _)) | (go_at_call 61; with_reducible exact Calls.quietE (C3.out _)) | (go_at_call 61; with_reducible exact Calls.quietE (C4.out _)) | (go_at_call 61; with_reducible exact Calls.quietE (C5.out _)) | (go_at_call 62; with_reducible exact Calls.quietE (C6.out _ (Ext.trans hE (by repeat (first | assumption | exact Ext.refl _ | refine Ext.trans ?_ (ext_grow _ _)))))))); exact wpQuiet_nil rfl
    refine Dm.wpE_take (i := 20) (listed' := (Dm.bits 27 2097151)) (by kernel_rfl) (by kernel_rfl) rfl (fun _ _ _ _ h => h) ?_; apply Exists.intro; refine And.intro (fun x => ?_) ?_
    · go_big_quiet_step ((first | (go_at_call 59; with_reducible exact Calls.quietE (C1.out _)) | (go_at_call 60; with_reducible exact Calls.quietE (C2.out _)) | (go_at_call 61; with_reducible exact Calls.quietE (C3.out _)) | (go_at_call 61; with_reducible exact Calls.quietE (C4.out _)) | (go_at_call 61; with_reducible exact Calls.quietE (C5.out _)) | (go_at_call 62; with_reducible exact Calls.quietE (C6.out _ (Ext.trans hE (by repeat (first | assumption | exact Ext.refl _ | refine Ext.trans ?_ (ext_grow _ _)))))))); exact wpQuiet_nil rfl
    refine Dm.wpE_take (i := 21) (listed' := (Dm.bits 27 4194303)) (by kernel_rfl) (by kernel_rfl) rfl (fun _ _ _ _ h => h) ?_; apply Exists.intro; refine And.intro (fun x => ?_) ?_
    · go_big_quiet_step ((first | (go_at_call 59; with_reducible exact Calls.quietE (C1.out _)) | (go_at_call 60; with_reducible exact Calls.quietE (C2.out _)) | (go_at_call 61; with_reducible exact Calls.quietE (C3.out _)) | (go_at_call 61; with_reducible exact Calls.quietE (C4.out _)) | (go_at_call 61; with_reducible exact Calls.quietE (C5.out _)) | (go_at_call 62; with_reducible exact Calls.quietE (C6.out _ (Ext.trans hE (by repeat (first | assumption | exact Ext.refl _ | refine Ext.trans ?_ (ext_grow _ _)))))))); exact wpQuiet_nil rfl
    refine Dm.wpE_take (i := 22) (listed' := (Dm.bits 27 8388607)) (by kernel_rfl) (by kernel_rfl) rfl (fun _ _ _ _ h => h) ?_; apply Exists.intro; refine And.intro (fun x => ?_) ?_
    · go_big_quiet_step ((first | (go_at_call 59; with_reducible exact Calls.quietE (C1.out _)) | (go_at_call 60; with_reducible exact Calls.quietE (C2.out _)) | (go_at_call 61; with_reducible exact Calls.quietE (C3.out _)) | (go_at_call 61; with_reducible exact Calls.quietE (C4.out _)) | (go_at_call 61; with_reducible exact Calls.quietE (C5.out _)) | (go_at_call 62; with_reducible exact Calls.quietE (C6.out _ (Ext.trans hE (by repeat (first | assumption | exact Ext.refl _ | refine Ext.trans ?_ (ext_grow _ _)))))))); exact wpQuiet_nil rfl
    refine Dm.wpE_take (i := 23) (listed' := (Dm.bits 27 16777215)) (by kernel_rfl) (by kernel_rfl) rfl (fun _ _ _ _ h => h) ?_; apply Exists.intro; refine And.intro (fun x => ?_) ?_
    · go_big_quiet_step ((first | (go_at_call 59; with_reducible exact Calls.quietE (C1.out _)) | (go_at_call 60; with_reducible exact Calls.quietE (C2.out _)) | (go_at_call 61; with_reducible exact Calls.quietE (C3.out _)) | (go_at_call 61; with_reducible exact Calls.quietE (C4.out _)) | (go_at_call 61; with_reducible exact Calls.quietE (C5.out _)) | (go_at_call 62; with_reducible exact Calls.quietE (C6.out _ (Ext.trans hE (by repeat (first | assumption | exact Ext.refl _ | refine Ext.trans ?_ (ext_grow _ _)))))))); exact wpQuiet_nil rfl
    refine Dm.wpE_take (i := 24) (listed' := (Dm.bits 27 33554431)) (by kernel_rfl) (by kernel_rfl) rfl (fun _ _ _ _ h => h) ?_; apply Exists.intro; refine And.intro (fun x => ?_) ?_
    · go_big_quiet_step ((first | (go_at_call 59; with_reducible exact Calls.quietE (C1.out _)) | (go_at_call 60; with_reducible exact Calls.quietE (C2.out _)) | (go_at_call 61; with_reducible exact Calls.quietE (C3.out _)) | (go_at_call 61; with_reducible exact Calls.quietE (C4.out _)) | (go_at_call 61; with_reducible exact Calls.quietE (C5.out _)) | (go_at_call 62; with_reducible exact Calls.quietE (C6.out _ (Ext.trans hE (by repeat (first | assumption | exact Ext.refl _ | refine Ext.trans ?_ (ext_grow _ _)))))))); exact wpQuiet_nil rfl
    refine Dm.wpE_take (i := 25) (listed' := (Dm.bits 27 67108863)) (by kernel_rfl) (by kernel_rfl) rfl (fun _ _ _ _ h => h) ?_; apply Exists.intro; refine And.intro (fun x => ?_) ?_
    · go_big_quiet_step ((first | (go_at_call 59; with_reducible exact Calls.quietE (C1.out _)) | (go_at_call 60; with_reducible exact Calls.quietE (C2.out _)) | (go_at_call 61; with_reducible exact Calls.quietE (C3.out _)) | (go_at_call 61; with_reducible exact Calls.quietE (C4.out _)) | (go_at_call 61; with_reducible exact Calls.quietE (C5.out _)) | (go_at_call 62; with_reducible exact Calls.quietE (C6.out _ (Ext.trans hE (by repeat (first | assumption | exact Ext.refl _ | refine Ext.trans ?_ (ext_grow _ _)))))))); exact wpQuiet_nil rfl
    refine Dm.wpE_take (i := 26) (listed' := (Dm.bits 27 134217727)) (by kernel_rfl) (by kernel_rfl) rfl (fun _ _ _ _ h => h) ?_; apply Exists.intro; refine And.intro (fun x => ?_) ?_
    · go_big_quiet_step ((first | (go_at_call 59; with_reducible exact Calls.quietE (C1.out _)) | (go_at_call 60; with_reducible exact Calls.quietE (C2.out _)) | (go_at_call 61; with_reducible exact Calls.quietE (C3.out _)) | (go_at_call 61; with_reducible exact Calls.quietE (C4.out _)) | (go_at_call 61; with_reducible exact Calls.quietE (C5.out _)) | (go_at_call 62; with_reducible exact Calls.quietE (C6.out _ (Ext.trans hE (by repeat (first | assumption | exact Ext.refl _ | refine Ext.trans ?_ (ext_grow _ _)))))))); exact wpQuiet_nil rfl
    refine Dm.wpE_done (by kernel_rfl) (Ext.refl w1) (fun w1a hx1a => ?_)
    have hX1a := Ext.trans (Ext.refl w1) hx1a
    go_wp2
    go_ret
    exact ⟨rfl, hE.trans hX1a⟩
  · rw [putX_bad hc]
    generalize chkX (s, d, n, R.map rowT) = K at *
    have hKb : ((K : Int) != 0) = true := by simp; omega
    have hKi : ¬ ((K : Int) = 0) := by omega
    unfold spVal at *
    generalize vG d = D at *
    have hX := XBox.new w s D n (.slice qv R.length capv) 33
    have hE : Ext w (w.alloc (.cells #[.string s, .int .u64 (D 0 : Nat), .int .u64 (D 1 : Nat), .int .u64 (D 2 : Nat), .int .u64 (D 3 : Nat), .int .i64 n.1, .int .i64 n.2.1, .int .i64 n.2.2, .slice qv R.length capv] 33)) := (Ext.refl _).alloc _
    replace CK := Lib.hid CK
    generalize hW0 : w.alloc (.cells #[.string s, .int .u64 (D 0 : Nat), .int .u64 (D 1 : Nat), .int .u64 (D 2 : Nat), .int .u64 (D 3 : Nat), .int .i64 n.1, .int .i64 n.2.1, .int .i64 n.2.2, .slice qv R.length capv] 33) = W at *
    obtain ⟨xl, x0, x1, x2, x3, x4, x5, x6, x7, x8⟩ := hX.cells
    go_enter Tryz.func23, Tryz.ntmps23
    go_wp2_with fail
    refine (CK.out _ hE).mono ?_; rintro e w1 ⟨rfl, k1⟩
    go_wp2
    go_ret
    exact ⟨rfl, hE.trans k1⟩
set_option maxHeartbeats 4000000 in
set_option maxRecDepth 100000 in
theorem rwords_w (s : ByteArray) (d : Vc) (n : Nums3) (v : Value) (R : List RowS) (w : World) (hc : chkX (s, d, n, R.map rowT) = 0) (hd : OkV d) (hf : FitR R) (hx : Terms w v R) :
    Calls Tryz.prog 67 #[spVal s (vG d) n v] w fun e w' => ∃ r ss, e = .returned r ∧ Strs w' r ss ∧ bytesOf ss = wordsX (s, d, n, R.map rowT) ∧ ss.length = 6 ∧ Ext w w' := by
  obtain ⟨qv, capv, rfl, _, _⟩ := hx.shape
  have htl := textX_len hc hd
  obtain ⟨hu, hin, hrs, _⟩ := chkX_iff.1 hc
  have hs98 : s.size ≤ 98 := (under_short hu).1
  have hin := inNum_iff.1 hin
  obtain ⟨n1, n2, n3⟩ := n
  simp only at hin
  obtain ⟨c1, rfl⟩ : ∃ c : Nat, n1 = c := ⟨n1.toNat, by omega⟩
  obtain ⟨c2, rfl⟩ : ∃ c : Nat, n2 = c := ⟨n2.toNat, by omega⟩
  obtain ⟨c3, rfl⟩ : ∃ c : Nat, n3 = c := ⟨n3.toNat, by omega⟩
  have hc1 : c1 ≤ 8 := by omega
  have hc2 : c2 ≤ 9 := by omega
  have hc3 : c3 ≤ 100 := by omega
  clear hu hrs hin
  have hw : wordsX (s, d, ((c1 : Int), (c2 : Int), (c3 : Int)), R.map rowT) = [s.data.toList, textV d, Lib.decDigits c1, Lib.decDigits c2, Lib.decDigits c3, textS (R.map rowT)] := rfl
  have C2 := fun U => r03text_w d hd U
  have C3 := fun U => r03digits_w c1 (show c1 < _ by omega) U
  have C4 := fun U => r03digits_w c2 (show c2 < _ by omega) U
  have C5 := fun U => r03digits_w c3 (show c3 < _ by omega) U
  have C6 := fun U (h : Ext w U) => smtext_w R _ U hf (hx.ext h)
  obtain ⟨A2, h2⟩ : ∃ A : ByteArray, A = ⟨(textV d).toArray⟩ := ⟨_, rfl⟩
  obtain ⟨A3, h3⟩ : ∃ A : ByteArray, A = ⟨(Lib.decDigits c1).toArray⟩ := ⟨_, rfl⟩
  obtain ⟨A4, h4⟩ : ∃ A : ByteArray, A = ⟨(Lib.decDigits c2).toArray⟩ := ⟨_, rfl⟩
  obtain ⟨A5, h5⟩ : ∃ A : ByteArray, A = ⟨(Lib.decDigits c3).toArray⟩ := ⟨_, rfl⟩
  obtain ⟨A6, h6⟩ : ∃ A : ByteArray, A = ⟨(textS (R.map rowT)).toArray⟩ := ⟨_, rfl⟩
  rw [← h2] at C2
  rw [← h3] at C3
  rw [← h4] at C4
  rw [← h5] at C5
  rw [← h6] at C6
  have hb : bytesOf [s, A2, A3, A4, A5, A6] = wordsX (s, d, ((c1 : Int), (c2 : Int), (c3 : Int)), R.map rowT) := by
    rw [hw, h2, h3, h4, h5, h6]; rfl
  clear h2 h3 h4 h5 h6 hw
  generalize wordsX (s, d, ((c1 : Int), (c2 : Int), (c3 : Int)), R.map rowT) = WS at *
  unfold vVal vF at C2
  unfold spVal at *
  generalize vG d = D at *
  have hX := XBox.new w s D ((c1 : Int), (c2 : Int), (c3 : Int)) (.slice qv R.length capv) 33
  have hE : Ext w (w.alloc (.cells #[.string s, .int .u64 (D 0 : Nat), .int .u64 (D 1 : Nat), .int .u64 (D 2 : Nat), .int .u64 (D 3 : Nat), .int .i64 (c1 : Nat), .int .i64 (c2 : Nat), .int .i64 (c3 : Nat), .slice qv R.length capv] 33)) := (Ext.refl _).alloc _
  clear hc htl
  replace C2 := Lib.hid C2
  replace C3 := Lib.hid C3
  replace C4 := Lib.hid C4
  replace C5 := Lib.hid C5
  replace C6 := Lib.hid C6
  simp only at hX
  generalize hW0 : w.alloc (.cells #[.string s, .int .u64 (D 0 : Nat), .int .u64 (D 1 : Nat), .int .u64 (D 2 : Nat), .int .u64 (D 3 : Nat), .int .i64 (c1 : Nat), .int .i64 (c2 : Nat), .int .i64 (c3 : Nat), .slice qv R.length capv] 33) = W at *
  obtain ⟨xl, x0, x1, x2, x3, x4, x5, x6, x7, x8⟩ := hX.cells
  go_enter Tryz.func67, Tryz.ntmps67
  go_wp2_with fail
  try simp only [Act.put, List.setIfInBounds_toArray, List.set_cons_succ, List.set_cons_zero]
  refine Dm.wp_region_ext 22 (Dm.bits 22 0) (Ext.refl W) (by kernel_rfl) (by kernel_rfl) (by kernel_rfl) ?_
  refine Dm.wpE_take (i := 0) (listed' := (Dm.bits 22 1)) (by kernel_rfl) (by kernel_rfl) rfl (fun _ _ _ _ h => h) ?_; apply Exists.intro; refine And.intro (fun x => ?_) ?_
  · go_big_quiet_step ((first | (go_at_call 103; with_reducible exact Calls.quietE (C2.out _)) | (go_at_call 89; with_reducible exact Calls.quietE (C3.out _)) | (go_at_call 89; with_reducible exact Calls.quietE (C4.out _)) | (go_at_call 89; with_reducible exact Calls.quietE (C5.out _)) | (go_at_call 92; with_reducible exact Calls.quietE (C6.out _ (Ext.trans hE (by repeat (first | assumption | exact Ext.refl _ | refine Ext.trans ?_ (ext_grow _ _)))))))); exact wpQuiet_nil rfl
  refine Dm.wpE_take (i := 1) (listed' := (Dm.bits 22 3)) (by kernel_rfl) (by kernel_rfl) rfl (fun _ _ _ _ h => h) ?_; apply Exists.intro; refine And.intro (fun x => ?_) ?_
  · go_big_quiet_step ((first | (go_at_call 103; with_reducible exact Calls.quietE (C2.out _)) | (go_at_call 89; with_reducible exact Calls.quietE (C3.out _)) | (go_at_call 89; with_reducible exact Calls.quietE (C4.out _)) | (go_at_call 89; with_reducible exact Calls.quietE (C5.out _)) | (go_at_call 92; with_reducible exact Calls.quietE (C6.out _ (Ext.trans hE (by repeat (first | assumption | exact Ext.refl _ | refine Ext.trans ?_ (ext_grow _ _)))))))); exact wpQuiet_nil rfl
  refine Dm.wpE_take (i := 2) (listed' := (Dm.bits 22 7)) (by kernel_rfl) (by kernel_rfl) rfl (fun _ _ _ _ h => h) ?_; apply Exists.intro; refine And.intro (fun x => ?_) ?_
  · go_big_quiet_step ((first | (go_at_call 103; with_reducible exact Calls.quietE (C2.out _)) | (go_at_call 89; with_reducible exact Calls.quietE (C3.out _)) | (go_at_call 89; with_reducible exact Calls.quietE (C4.out _)) | (go_at_call 89; with_reducible exact Calls.quietE (C5.out _)) | (go_at_call 92; with_reducible exact Calls.quietE (C6.out _ (Ext.trans hE (by repeat (first | assumption | exact Ext.refl _ | refine Ext.trans ?_ (ext_grow _ _)))))))); exact wpQuiet_nil rfl
  refine Dm.wpE_take (i := 3) (listed' := (Dm.bits 22 15)) (by kernel_rfl) (by kernel_rfl) rfl (fun _ _ _ _ h => h) ?_; apply Exists.intro; refine And.intro (fun x => ?_) ?_
  · go_big_quiet_step ((first | (go_at_call 103; with_reducible exact Calls.quietE (C2.out _)) | (go_at_call 89; with_reducible exact Calls.quietE (C3.out _)) | (go_at_call 89; with_reducible exact Calls.quietE (C4.out _)) | (go_at_call 89; with_reducible exact Calls.quietE (C5.out _)) | (go_at_call 92; with_reducible exact Calls.quietE (C6.out _ (Ext.trans hE (by repeat (first | assumption | exact Ext.refl _ | refine Ext.trans ?_ (ext_grow _ _)))))))); exact wpQuiet_nil rfl
  refine Dm.wpE_take (i := 4) (listed' := (Dm.bits 22 31)) (by kernel_rfl) (by kernel_rfl) rfl (fun _ _ _ _ h => h) ?_; apply Exists.intro; refine And.intro (fun x => ?_) ?_
  · go_big_quiet_step ((first | (go_at_call 103; with_reducible exact Calls.quietE (C2.out _)) | (go_at_call 89; with_reducible exact Calls.quietE (C3.out _)) | (go_at_call 89; with_reducible exact Calls.quietE (C4.out _)) | (go_at_call 89; with_reducible exact Calls.quietE (C5.out _)) | (go_at_call 92; with_reducible exact Calls.quietE (C6.out _ (Ext.trans hE (by repeat (first | assumption | exact Ext.refl _ | refine Ext.trans ?_ (ext_grow _ _)))))))); exact wpQuiet_nil rfl
  refine Dm.wpE_take (i := 5) (listed' := (Dm.bits 22 63)) (by kernel_rfl) (by kernel_rfl) rfl (fun _ _ _ _ h => h) ?_; apply Exists.intro; refine And.intro (fun x => ?_) ?_
  · go_big_quiet_step ((first | (go_at_call 103; with_reducible exact Calls.quietE (C2.out _)) | (go_at_call 89; with_reducible exact Calls.quietE (C3.out _)) | (go_at_call 89; with_reducible exact Calls.quietE (C4.out _)) | (go_at_call 89; with_reducible exact Calls.quietE (C5.out _)) | (go_at_call 92; with_reducible exact Calls.quietE (C6.out _ (Ext.trans hE (by repeat (first | assumption | exact Ext.refl _ | refine Ext.trans ?_ (ext_grow _ _)))))))); exact wpQuiet_nil rfl
  refine Dm.wpE_take (i := 6) (listed' := (Dm.bits 22 127)) (by kernel_rfl) (by kernel_rfl) rfl (fun _ _ _ _ h => h) ?_; apply Exists.intro; refine And.intro (fun x => ?_) ?_
  · go_big_quiet_step ((first | (go_at_call 103; with_reducible exact Calls.quietE (C2.out _)) | (go_at_call 89; with_reducible exact Calls.quietE (C3.out _)) | (go_at_call 89; with_reducible exact Calls.quietE (C4.out _)) | (go_at_call 89; with_reducible exact Calls.quietE (C5.out _)) | (go_at_call 92; with_reducible exact Calls.quietE (C6.out _ (Ext.trans hE (by repeat (first | assumption | exact Ext.refl _ | refine Ext.trans ?_ (ext_grow _ _)))))))); exact wpQuiet_nil rfl
  refine Dm.wpE_take (i := 7) (listed' := (Dm.bits 22 255)) (by kernel_rfl) (by kernel_rfl) rfl (fun _ _ _ _ h => h) ?_; apply Exists.intro; refine And.intro (fun x => ?_) ?_
  · go_big_quiet_step ((first | (go_at_call 103; with_reducible exact Calls.quietE (C2.out _)) | (go_at_call 89; with_reducible exact Calls.quietE (C3.out _)) | (go_at_call 89; with_reducible exact Calls.quietE (C4.out _)) | (go_at_call 89; with_reducible exact Calls.quietE (C5.out _)) | (go_at_call 92; with_reducible exact Calls.quietE (C6.out _ (Ext.trans hE (by repeat (first | assumption | exact Ext.refl _ | refine Ext.trans ?_ (ext_grow _ _)))))))); exact wpQuiet_nil rfl
  refine Dm.wpE_take (i := 8) (listed' := (Dm.bits 22 511)) (by kernel_rfl) (by kernel_rfl) rfl (fun _ _ _ _ h => h) ?_; apply Exists.intro; refine And.intro (fun x => ?_) ?_
  · go_big_quiet_step ((first | (go_at_call 103; with_reducible exact Calls.quietE (C2.out _)) | (go_at_call 89; with_reducible exact Calls.quietE (C3.out _)) | (go_at_call 89; with_reducible exact Calls.quietE (C4.out _)) | (go_at_call 89; with_reducible exact Calls.quietE (C5.out _)) | (go_at_call 92; with_reducible exact Calls.quietE (C6.out _ (Ext.trans hE (by repeat (first | assumption | exact Ext.refl _ | refine Ext.trans ?_ (ext_grow _ _)))))))); exact wpQuiet_nil rfl
  refine Dm.wpE_take (i := 9) (listed' := (Dm.bits 22 1023)) (by kernel_rfl) (by kernel_rfl) rfl (fun _ _ _ _ h => h) ?_; apply Exists.intro; refine And.intro (fun x => ?_) ?_
  · go_big_quiet_step ((first | (go_at_call 103; with_reducible exact Calls.quietE (C2.out _)) | (go_at_call 89; with_reducible exact Calls.quietE (C3.out _)) | (go_at_call 89; with_reducible exact Calls.quietE (C4.out _)) | (go_at_call 89; with_reducible exact Calls.quietE (C5.out _)) | (go_at_call 92; with_reducible exact Calls.quietE (C6.out _ (Ext.trans hE (by repeat (first | assumption | exact Ext.refl _ | refine Ext.trans ?_ (ext_grow _ _)))))))); exact wpQuiet_nil rfl
  refine Dm.wpE_take (i := 10) (listed' := (Dm.bits 22 2047)) (by kernel_rfl) (by kernel_rfl) rfl (fun _ _ _ _ h => h) ?_; apply Exists.intro; refine And.intro (fun x => ?_) ?_
  · go_big_quiet_step ((first | (go_at_call 103; with_reducible exact Calls.quietE (C2.out _)) | (go_at_call 89; with_reducible exact Calls.quietE (C3.out _)) | (go_at_call 89; with_reducible exact Calls.quietE (C4.out _)) | (go_at_call 89; with_reducible exact Calls.quietE (C5.out _)) | (go_at_call 92; with_reducible exact Calls.quietE (C6.out _ (Ext.trans hE (by repeat (first | assumption | exact Ext.refl _ | refine Ext.trans ?_ (ext_grow _ _)))))))); exact wpQuiet_nil rfl
  refine Dm.wpE_take (i := 11) (listed' := (Dm.bits 22 4095)) (by kernel_rfl) (by kernel_rfl) rfl (fun _ _ _ _ h => h) ?_; apply Exists.intro; refine And.intro (fun x => ?_) ?_
  · go_big_quiet_step ((first | (go_at_call 103; with_reducible exact Calls.quietE (C2.out _)) | (go_at_call 89; with_reducible exact Calls.quietE (C3.out _)) | (go_at_call 89; with_reducible exact Calls.quietE (C4.out _)) | (go_at_call 89; with_reducible exact Calls.quietE (C5.out _)) | (go_at_call 92; with_reducible exact Calls.quietE (C6.out _ (Ext.trans hE (by repeat (first | assumption | exact Ext.refl _ | refine Ext.trans ?_ (ext_grow _ _)))))))); exact wpQuiet_nil rfl
  refine Dm.wpE_take (i := 12) (listed' := (Dm.bits 22 8191)) (by kernel_rfl) (by kernel_rfl) rfl (fun _ _ _ _ h => h) ?_; apply Exists.intro; refine And.intro (fun x => ?_) ?_
  · go_big_quiet_step ((first | (go_at_call 103; with_reducible exact Calls.quietE (C2.out _)) | (go_at_call 89; with_reducible exact Calls.quietE (C3.out _)) | (go_at_call 89; with_reducible exact Calls.quietE (C4.out _)) | (go_at_call 89; with_reducible exact Calls.quietE (C5.out _)) | (go_at_call 92; with_reducible exact Calls.quietE (C6.out _ (Ext.trans hE (by repeat (first | assumption | exact Ext.refl _ | refine Ext.trans ?_ (ext_grow _ _)))))))); exact wpQuiet_nil rfl
  refine Dm.wpE_take (i := 13) (listed' := (Dm.bits 22 16383)) (by kernel_rfl) (by kernel_rfl) rfl (fun _ _ _ _ h => h) ?_; apply Exists.intro; refine And.intro (fun x => ?_) ?_
  · go_big_quiet_step ((first | (go_at_call 103; with_reducible exact Calls.quietE (C2.out _)) | (go_at_call 89; with_reducible exact Calls.quietE (C3.out _)) | (go_at_call 89; with_reducible exact Calls.quietE (C4.out _)) | (go_at_call 89; with_reducible exact Calls.quietE (C5.out _)) | (go_at_call 92; with_reducible exact Calls.quietE (C6.out _ (Ext.trans hE (by repeat (first | assumption | exact Ext.refl _ | refine Ext.trans ?_ (ext_grow _ _)))))))); exact wpQuiet_nil rfl
  refine Dm.wpE_take (i := 14) (listed' := (Dm.bits 22 32767)) (by kernel_rfl) (by kernel_rfl) rfl (fun _ _ _ _ h => h) ?_; apply Exists.intro; refine And.intro (fun x => ?_) ?_
  · go_big_quiet_step ((first | (go_at_call 103; with_reducible exact Calls.quietE (C2.out _)) | (go_at_call 89; with_reducible exact Calls.quietE (C3.out _)) | (go_at_call 89; with_reducible exact Calls.quietE (C4.out _)) | (go_at_call 89; with_reducible exact Calls.quietE (C5.out _)) | (go_at_call 92; with_reducible exact Calls.quietE (C6.out _ (Ext.trans hE (by repeat (first | assumption | exact Ext.refl _ | refine Ext.trans ?_ (ext_grow _ _)))))))); exact wpQuiet_nil rfl
  refine Dm.wpE_take (i := 15) (listed' := (Dm.bits 22 65535)) (by kernel_rfl) (by kernel_rfl) rfl (fun _ _ _ _ h => h) ?_; apply Exists.intro; refine And.intro (fun x => ?_) ?_
  · go_big_quiet_step ((first | (go_at_call 103; with_reducible exact Calls.quietE (C2.out _)) | (go_at_call 89; with_reducible exact Calls.quietE (C3.out _)) | (go_at_call 89; with_reducible exact Calls.quietE (C4.out _)) | (go_at_call 89; with_reducible exact Calls.quietE (C5.out _)) | (go_at_call 92; with_reducible exact Calls.quietE (C6.out _ (Ext.trans hE (by repeat (first | assumption | exact Ext.refl _ | refine Ext.trans ?_ (ext_grow _ _)))))))); exact wpQuiet_nil rfl
  refine Dm.wpE_take (i := 16) (listed' := (Dm.bits 22 131071)) (by kernel_rfl) (by kernel_rfl) rfl (fun _ _ _ _ h => h) ?_; apply Exists.intro; refine And.intro (fun x => ?_) ?_
  · go_big_quiet_step ((first | (go_at_call 103; with_reducible exact Calls.quietE (C2.out _)) | (go_at_call 89; with_reducible exact Calls.quietE (C3.out _)) | (go_at_call 89; with_reducible exact Calls.quietE (C4.out _)) | (go_at_call 89; with_reducible exact Calls.quietE (C5.out _)) | (go_at_call 92; with_reducible exact Calls.quietE (C6.out _ (Ext.trans hE (by repeat (first | assumption | exact Ext.refl _ | refine Ext.trans ?_ (ext_grow _ _)))))))); exact wpQuiet_nil rfl
  refine Dm.wpE_take (i := 17) (listed' := (Dm.bits 22 262143)) (by kernel_rfl) (by kernel_rfl) rfl (fun _ _ _ _ h => h) ?_; apply Exists.intro; refine And.intro (fun x => ?_) ?_
  · go_big_quiet_step ((first | (go_at_call 103; with_reducible exact Calls.quietE (C2.out _)) | (go_at_call 89; with_reducible exact Calls.quietE (C3.out _)) | (go_at_call 89; with_reducible exact Calls.quietE (C4.out _)) | (go_at_call 89; with_reducible exact Calls.quietE (C5.out _)) | (go_at_call 92; with_reducible exact Calls.quietE (C6.out _ (Ext.trans hE (by repeat (first | assumption | exact Ext.refl _ | refine Ext.trans ?_ (ext_grow _ _)))))))); exact wpQuiet_nil rfl
  refine Dm.wpE_take (i := 18) (listed' := (Dm.bits 22 524287)) (by kernel_rfl) (by kernel_rfl) rfl (fun _ _ _ _ h => h) ?_; apply Exists.intro; refine And.intro (fun x => ?_) ?_
  · go_big_quiet_step ((first | (go_at_call 103; with_reducible exact Calls.quietE (C2.out _)) | (go_at_call 89; with_reducible exact Calls.quietE (C3.out _)) | (go_at_call 89; with_reducible exact Calls.quietE (C4.out _)) | (go_at_call 89; with_reducible exact Calls.quietE (C5.out _)) | (go_at_call 92; with_reducible exact Calls.quietE (C6.out _ (Ext.trans hE (by repeat (first | assumption | exact Ext.refl _ | refine Ext.trans ?_ (ext_grow _ _)))))))); exact wpQuiet_nil rfl
  refine Dm.wpE_take (i := 19) (listed' := (Dm.bits 22 1048575)) (by kernel_rfl) (by kernel_rfl) rfl (fun _ _ _ _ h => h) ?_; apply Exists.intro; refine And.intro (fun x => ?_) ?_
  · go_big_quiet_step ((first | (go_at_call 103; with_reducible exact Calls.quietE (C2.out _)) | (go_at_call 89; with_reducible exact Calls.quietE (C3.out _)) | (go_at_call 89; with_reducible exact Calls.quietE (C4.out _)) | (go_at_call 89; with_reducible exact Calls.quietE (C5.out _)) | (go_at_call 92; with_reducible exact Calls.quietE (C6.out _ (Ext.trans hE (by repeat (first | assumption | exact Ext.refl _ | refine Ext.trans ?_ (ext_grow _ _)))))))); exact wpQuiet_nil rfl
  refine Dm.wpE_one (i := 20) (listed' := (Dm.bits 22 2097151)) (by kernel_rfl) (by kernel_rfl) rfl (Ext.refl W) (fun w1a hx1a => ?_)
  have hX1a := Ext.trans (Ext.refl W) hx1a
  have hss : Strs (w1a.alloc (.cells #[.string s, .string A2, .string A3, .string A4, .string A5, .string A6] 9)) (.slice (some ⟨w1a.heap.size, 0, none⟩) 6 6) [s, A2, A3, A4, A5, A6] := Sl.lit w1a 9 1 6 #[.string s, .string A2, .string A3, .string A4, .string A5, .string A6] rfl (by simp [maxLen])
  go_wp2_with fail
  have hs1 := (Ext.refl w1a).alloc (.cells #[.string s, .string A2, .string A3, .string A4, .string A5, .string A6] 9)
  have hX1b := Ext.trans hX1a hs1
  generalize w1a.alloc (.cells #[.string s, .string A2, .string A3, .string A4, .string A5, .string A6] 9) = w1b at *
  try simp only [Exit.then, Act.put, List.setIfInBounds_toArray, List.set_cons_succ, List.set_cons_zero]
  refine Dm.wpE_take (i := 21) (listed' := (Dm.bits 22 4194303)) (by kernel_rfl) (by kernel_rfl) rfl (fun _ _ _ _ h => h) ?_; apply Exists.intro; refine And.intro (fun x => ?_) ?_
  · go_big_quiet_step ((first | (go_at_call 103; with_reducible exact Calls.quietE (C2.out _)) | (go_at_call 89; with_reducible exact Calls.quietE (C3.out _)) | (go_at_call 89; with_reducible exact Calls.quietE (C4.out _)) | (go_at_call 89; with_reducible exact Calls.quietE (C5.out _)) | (go_at_call 92; with_reducible exact Calls.quietE (C6.out _ (Ext.trans hE (by repeat (first | assumption | exact Ext.refl _ | refine Ext.trans ?_ (ext_grow _ _)))))))); exact wpQuiet_nil rfl
  refine Dm.wpE_done (by kernel_rfl) hX1b (fun w2a hx2a => ?_)
  have hX2a := Ext.trans hX1b hx2a
  replace hss := hss.ext hx2a
  go_wp2
  go_ret
  exact ⟨_, _, rfl, hss, hb, rfl, hE.trans hX2a⟩
set_option maxHeartbeats 4000000 in
set_option maxRecDepth 100000 in
theorem rtextx_w (s : ByteArray) (d : Vc) (n : Nums3) (v : Value) (R : List RowS) (w : World) (hs : s.size ≤ 1048576) (hd : OkV d) (hf : FitR R) (hx : Terms w v R) :
    Calls Tryz.prog 25 #[spVal s (vG d) n v] w fun e w' => e = .returned (.string ⟨(textX (s, d, n, R.map rowT)).toArray⟩) ∧ Ext w w' := by
  obtain ⟨qv, capv, rfl, _, _⟩ := hx.shape
  have CK := fun U (h : Ext w U) => rcheck_w s d n _ R U hs hd hf (hx.ext h)
  by_cases hc : chkX (s, d, n, R.map rowT) = 0
  · have hlen := textX_len hc hd
    rw [hc] at CK
    have CW := fun U (h : Ext w U) => rwords_w s d n _ R U hc hd hf (hx.ext h)
    have htx : textX (s, d, n, R.map rowT) = Lib.join (wordsX (s, d, n, R.map rowT)) [32] := by unfold textX; rw [if_pos hc]
    have h6 : (wordsX (s, d, n, R.map rowT)).length = 6 := rfl
    rw [htx] at hlen
    rw [htx]
    clear htx hc
    generalize wordsX (s, d, n, R.map rowT) = WS at *
    unfold spVal at *
    generalize vG d = D at *
    have hX := XBox.new w s D n (.slice qv R.length capv) 33
    have hE : Ext w (w.alloc (.cells #[.string s, .int .u64 (D 0 : Nat), .int .u64 (D 1 : Nat), .int .u64 (D 2 : Nat), .int .u64 (D 3 : Nat), .int .i64 n.1, .int .i64 n.2.1, .int .i64 n.2.2, .slice qv R.length capv] 33)) := (Ext.refl _).alloc _
    replace CK := Lib.hid CK
    replace CW := Lib.hid CW
    generalize hW0 : w.alloc (.cells #[.string s, .int .u64 (D 0 : Nat), .int .u64 (D 1 : Nat), .int .u64 (D 2 : Nat), .int .u64 (D 3 : Nat), .int .i64 n.1, .int .i64 n.2.1, .int .i64 n.2.2, .slice qv R.length capv] 33) = W at *
    obtain ⟨xl, x0, x1, x2, x3, x4, x5, x6, x7, x8⟩ := hX.cells
    go_enter Tryz.func25, Tryz.ntmps25
    go_wp2_with fail
    refine (CK.out _ hE).mono ?_; rintro e w1 ⟨rfl, k1⟩
    clear xl x0 x1 x2 x3 x4 x5 x6 x7 x8
    replace hX := hX.ext k1
    replace hE := hE.trans k1
    clear k1 hW0
    obtain ⟨xl, x0, x1, x2, x3, x4, x5, x6, x7, x8⟩ := hX.cells
    go_wp2_with fail
    refine (CW.out _ hE).mono ?_; rintro e w2 ⟨r, ss, rfl, hss, hbs, hl6, k2⟩
    clear xl x0 x1 x2 x3 x4 x5 x6 x7 x8
    obtain ⟨qs, cs, rfl, _, _⟩ := hss.shape
    replace hE := hE.trans k2
    have hcs := fun k (hk : k < 6) => hss.at (k := k) (by omega)
    obtain ⟨bb, off, rfl, hbl, c0⟩ := hcs 0 (by omega)
    have hat : ∀ k, k < 6 → w2.cell? ⟨bb, off + k, none⟩ = some (.string (strAt ss k)) := fun k hk => by
      obtain ⟨b', off', e, _, h⟩ := hcs k hk
      injection e with e; injection e with e1 e2
      subst e1 e2
      exact h
    have hW : ∀ k, k < 6 → wordAt WS k = (strAt ss k).data.toList := fun k hk => by rw [← hbs]; exact wordAt_bytes (by omega)
    have hpl : ∀ k, (Lib.join (WS.take k) [32]).length ≤ 1400 := fun k => Nat.le_trans (jjoin_take_len WS k) hlen
    rw [Nat.add_zero] at c0
    have hj1 := join_step0 (ws := WS) (by omega)
    rw [hW 0 (by omega)] at hj1
    have hs0 := hpl 1
    rw [hj1] at hs0
    have hs0 : (strAt ss 0).size ≤ 1400 := hs0
    replace hj1 := Lib.hid hj1
    replace hat := Lib.hid hat
    replace hW := Lib.hid hW
    replace hpl := Lib.hid hpl
    replace h6 := Lib.hid h6
    clear hcs hbs
    rw [hl6]
    go_wp2
    go_loopw [4, 5] (fun t i wr => ∃ (k : Nat) (b : ByteArray), 1 ≤ k ∧ k ≤ 6 ∧ i = .int .i64 k ∧ t = .string b ∧ wr = w2 ∧ b.size ≤ 1400 ∧ Hid (b.data.toList = Lib.join (WS.take k) [32])) (fun _ i _ => 6 - (intOf i).toNat)
    case atStart => exact ⟨1, strAt ss 0, by omega, by omega, rfl, rfl, rfl, hs0, hj1.out.symm⟩
    case round =>
      obtain ⟨k, b, hk1, hk, rfl, rfl, rfl, hbs, hb⟩ := hrel
      by_cases hlt : k < 6
      · have hck := hat.out k hlt
        have hnx : Hid (((b ++ ⟨#[32]⟩) ++ strAt ss k).data.toList = Lib.join (WS.take (k + 1)) [32]) := by
          show _ = _
          rw [data_append, data_append, hb.out, join_step (by omega) (by have := h6.out; omega), hW.out k hlt, List.append_assoc]; rfl
        have hsn : ((b ++ ⟨#[32]⟩) ++ strAt ss k).size ≤ 1400 := by
          rw [size_len, hnx.out]; exact hpl.out (k + 1)
        have hst : (strAt ss k).size ≤ 1400 := by rw [ByteArray.size_append] at hsn; omega
        have hb1 : (b ++ ⟨#[32]⟩).size ≤ 1400 := by rw [ByteArray.size_append] at hsn; omega
        generalize strAt ss k = t at *
        go_wp2
        go_roundw
        case rel => exact ⟨k + 1, (b ++ ⟨#[32]⟩) ++ t, by omega, by omega, by go_num, (by first | rfl | trivial), (by first | rfl | trivial), hsn, hnx⟩
        case measure => simp [intOf]; omega
      · obtain rfl : k = 6 := by omega
        have hbt : b = ⟨(Lib.join WS [32]).toArray⟩ := mk_bytes (by rw [hb.out, List.take_of_length_le (by have := h6.out; omega)])
        subst hbt
        go_wp2
        go_ret
        exact ⟨rfl, hE⟩
  · have htx : textX (s, d, n, R.map rowT) = [63] := by unfold textX; rw [if_neg hc]
    rw [htx]
    clear htx
    generalize chkX (s, d, n, R.map rowT) = K at *
    have hKb : ((K : Int) != 0) = true := by simp; omega
    have hKi : ¬ ((K : Int) = 0) := by omega
    unfold spVal at *
    generalize vG d = D at *
    have hX := XBox.new w s D n (.slice qv R.length capv) 33
    have hE : Ext w (w.alloc (.cells #[.string s, .int .u64 (D 0 : Nat), .int .u64 (D 1 : Nat), .int .u64 (D 2 : Nat), .int .u64 (D 3 : Nat), .int .i64 n.1, .int .i64 n.2.1, .int .i64 n.2.2, .slice qv R.length capv] 33)) := (Ext.refl _).alloc _
    replace CK := Lib.hid CK
    generalize hW0 : w.alloc (.cells #[.string s, .int .u64 (D 0 : Nat), .int .u64 (D 1 : Nat), .int .u64 (D 2 : Nat), .int .u64 (D 3 : Nat), .int .i64 n.1, .int .i64 n.2.1, .int .i64 n.2.2, .slice qv R.length capv] 33) = W at *
    obtain ⟨xl, x0, x1, x2, x3, x4, x5, x6, x7, x8⟩ := hX.cells
    go_enter Tryz.func25, Tryz.ntmps25
    go_wp2_with fail
    refine (CK.out _ hE).mono ?_; rintro e w1 ⟨rfl, k1⟩
    go_wp2
    go_ret
    exact ⟨rfl, hE.trans k1⟩
end Go.Proofs.YthmhalcloogniaaGreatDoor
