/- Texts one behind the other: Chapter 11: the walks of the laws' refV, refS, refX. -/
import Derived.Test.YthmhalcloogniaaGreatDoorT23
import Derived.Test.YthmhalcloogniaaGreatDoorT13
import Derived.Test.YthmhalcloogniaaGreatDoorT10
import Derived.Test.YthmhalcloogniaaGreatDoorT17
namespace Go.Dm
open Go Go.RowKit
theorem sl_set {w : World} {sz n : Nat} {v : Value} {cs : List Value} (h : Sl w sz v n cs) {b i : Nat} (hb : ∀ c, v.ownBlock = some c → c ≠ b) (u : Value) : Sl (w.setCell ⟨b, i, none⟩ u) sz v n cs :=
  Sl.grown h (grown_set w b i u) (Or.inr fun c e e2 => hb c e (Option.some.inj e2).symm)
theorem sl_put9 {w : World} {sz n : Nat} {v : Value} {cs : List Value} (h : Sl w sz v n cs) {b : Nat} (hb : ∀ c, v.ownBlock = some c → c ≠ b) (c0 c1 c2 c3 c4 c5 c6 c7 c8 : Value) :
    Sl (((((((((w.setCell ⟨b, 0, none⟩ c0).setCell ⟨b, 1, none⟩ c1).setCell ⟨b, 2, none⟩ c2).setCell ⟨b, 3, none⟩ c3).setCell ⟨b, 4, none⟩ c4).setCell ⟨b, 5, none⟩ c5).setCell ⟨b, 6, none⟩ c6).setCell ⟨b, 7, none⟩ c7).setCell ⟨b, 8, none⟩ c8) sz v n cs :=
  sl_set (sl_set (sl_set (sl_set (sl_set (sl_set (sl_set (sl_set (sl_set h hb _) hb _) hb _) hb _) hb _) hb _) hb _) hb _) hb _
end Go.Dm
namespace Go.Proofs.YthmhalcloogniaaGreatDoor
open Go.RowKit Go.Dm

theorem Tryz.slTerm11 : SlT Tryz.prog 31 121 3 48 := SlT.mk' Tryz.underlying31 (by kernel_rfl) (by decide) (by decide)

set_option maxHeartbeats 1000000 in
theorem refv11_w (a : Vc) (w : World) :
    Calls Tryz.prog 17 #[vVal a] w fun e w' => e = .returned (vVal a) ∧ Ext w w' := by
  unfold vVal
  generalize vG a = A
  unfold vF
  have v2 := VBox.new (w.alloc (.cells #[.int .u64 (A 0 : Nat), .int .u64 (A 1 : Nat), .int .u64 (A 2 : Nat), .int .u64 (A 3 : Nat)] 24)) (fun _ => 0) 30
  rw [World.size_alloc] at v2
  obtain ⟨_, d0, d1, d2, d3, e0, e1, e2, e3⟩ := v2.four
  go_enter Tryz.func17, Tryz.ntmps17
  go_wp2
  refine bodyPost_ret (v := .agg #[.int .u64 (A 0 : Nat), .int .u64 (A 1 : Nat), .int .u64 (A 2 : Nat), .int .u64 (A 3 : Nat)]) (by simp [results, Tryz.results17, go_sem]) rfl ?_
  exact ⟨rfl, ((Ext.refl w).alloc _).alloc _⟩

set_option maxHeartbeats 2000000 in
set_option maxRecDepth 100000 in
theorem srefs11_w (R : List RowS) (v : Value) (w : World) (hm : R.length ≤ 4294967296) (hx : Terms w v R) :
    Calls Tryz.prog 30 #[v] w fun e w' => ∃ r, e = .returned r ∧ Terms w' r R ∧ (∀ c, r.ownBlock = some c → w.heap.size ≤ c) ∧ Ext w w' := by
  obtain ⟨q, cap, rfl, hcap, hcm⟩ := hx.shape
  go_enter Tryz.func30, Tryz.ntmps30
  go_wp2
  go_loopw [3, 4] (fun r i' wr => ∃ k : Nat, k ≤ R.length ∧ i' = .int .i64 k ∧ Ext w wr ∧ TRow 121 w.heap.size wr r k (R.take k)) (fun _ i' _ => R.length - (intOf i').toNat)
  case atStart => exact ⟨0, by omega, rfl, Ext.refl _, by rw [List.take_zero]; exact TRow.nil _ _ _⟩
  case round =>
    obtain ⟨k, hk, rfl, hb, ho⟩ := hrel
    by_cases hlt : k < R.length
    · obtain ⟨bb, off, rfl, hbl, c0, c1, c2⟩ := hx.at hlt
      have vx0 := hx.val hlt
      have hst : Hid (R.take (k + 1) = R.take k ++ [sAtR R k]) := take_snocT hlt
      generalize sAtR R k = r at *
      obtain ⟨k1, n1, v1, vals1⟩ := r
      have vx0 : Strs w v1 vals1 := vx0
      simp only at c0 c1 c2
      have hap : vals1 = [] ∨ Apart v1 u3 := by
        by_cases h0 : vals1 = []
        · exact Or.inl h0
        · exact Or.inr (ho.apart_old (fun b hb => Sl.own_lt vx0 (fun e => h0 (List.length_eq_zero_iff.1 e)) hb))
      obtain ⟨q3, cap3, rfl, _, _⟩ := vx0.shape
      replace hap := Lib.hid hap
      go_wp2_with fail
      try simp only [Act.put, List.setIfInBounds_toArray, List.set_cons_succ, List.set_cons_zero]
      refine Dm.wp_region_ext 20 (Dm.bits 20 0) hb (by kernel_rfl) (by kernel_rfl) (by kernel_rfl) ?_
      refine Dm.wpE_take (i := 0) (listed' := (Dm.bits 20 1)) (by kernel_rfl) (by kernel_rfl) rfl (fun _ _ _ _ h => h) ?_; apply Exists.intro; refine And.intro (fun x => ?_) ?_
      · go_big_quiet_step (fail); exact wpQuiet_nil rfl
      refine Dm.wpE_take (i := 1) (listed' := (Dm.bits 20 3)) (by kernel_rfl) (by kernel_rfl) rfl (fun _ _ _ _ h => h) ?_; apply Exists.intro; refine And.intro (fun x => ?_) ?_
      · go_big_quiet_step (fail); exact wpQuiet_nil rfl
      refine Dm.wpE_take (i := 2) (listed' := (Dm.bits 20 7)) (by kernel_rfl) (by kernel_rfl) rfl (fun _ _ _ _ h => h) ?_; apply Exists.intro; refine And.intro (fun x => ?_) ?_
      · go_big_quiet_step (fail); exact wpQuiet_nil rfl
      refine Dm.wpE_take (i := 3) (listed' := (Dm.bits 20 15)) (by kernel_rfl) (by kernel_rfl) rfl (fun _ _ _ _ h => h) ?_; apply Exists.intro; refine And.intro (fun x => ?_) ?_
      · go_big_quiet_step (fail); exact wpQuiet_nil rfl
      refine Dm.wpE_take (i := 4) (listed' := (Dm.bits 20 31)) (by kernel_rfl) (by kernel_rfl) rfl (fun _ _ _ _ h => h) ?_; apply Exists.intro; refine And.intro (fun x => ?_) ?_
      · go_big_quiet_step (fail); exact wpQuiet_nil rfl
      refine Dm.wpE_take (i := 5) (listed' := (Dm.bits 20 63)) (by kernel_rfl) (by kernel_rfl) rfl (fun _ _ _ _ h => h) ?_; apply Exists.intro; refine And.intro (fun x => ?_) ?_
      · go_big_quiet_step (fail); exact wpQuiet_nil rfl
      refine Dm.wpE_take (i := 6) (listed' := (Dm.bits 20 127)) (by kernel_rfl) (by kernel_rfl) rfl (fun _ _ _ _ h => h) ?_; apply Exists.intro; refine And.intro (fun x => ?_) ?_
      · go_big_quiet_step (fail); exact wpQuiet_nil rfl
      refine Dm.wpE_take (i := 7) (listed' := (Dm.bits 20 255)) (by kernel_rfl) (by kernel_rfl) rfl (fun _ _ _ _ h => h) ?_; apply Exists.intro; refine And.intro (fun x => ?_) ?_
      · go_big_quiet_step (fail); exact wpQuiet_nil rfl
      refine Dm.wpE_take (i := 8) (listed' := (Dm.bits 20 511)) (by kernel_rfl) (by kernel_rfl) rfl (fun _ _ _ _ h => h) ?_; apply Exists.intro; refine And.intro (fun x => ?_) ?_
      · go_big_quiet_step (fail); exact wpQuiet_nil rfl
      refine Dm.wpE_take (i := 9) (listed' := (Dm.bits 20 1023)) (by kernel_rfl) (by kernel_rfl) rfl (fun _ _ _ _ h => h) ?_; apply Exists.intro; refine And.intro (fun x => ?_) ?_
      · go_big_quiet_step (fail); exact wpQuiet_nil rfl
      refine Dm.wpE_take (i := 10) (listed' := (Dm.bits 20 2047)) (by kernel_rfl) (by kernel_rfl) rfl (fun _ _ _ _ h => h) ?_; apply Exists.intro; refine And.intro (fun x => ?_) ?_
      · go_big_quiet_step (fail); exact wpQuiet_nil rfl
      refine Dm.wpE_take (i := 11) (listed' := (Dm.bits 20 4095)) (by kernel_rfl) (by kernel_rfl) rfl (fun _ _ _ _ h => h) ?_; apply Exists.intro; refine And.intro (fun x => ?_) ?_
      · go_big_quiet_step (fail); exact wpQuiet_nil rfl
      refine Dm.wpE_take (i := 12) (listed' := (Dm.bits 20 8191)) (by kernel_rfl) (by kernel_rfl) rfl (fun _ _ _ _ h => h) ?_; apply Exists.intro; refine And.intro (fun x => ?_) ?_
      · go_big_quiet_step (fail); exact wpQuiet_nil rfl
      refine Dm.wpE_take (i := 13) (listed' := (Dm.bits 20 16383)) (by kernel_rfl) (by kernel_rfl) rfl (fun _ _ _ _ h => h) ?_; apply Exists.intro; refine And.intro (fun x => ?_) ?_
      · go_big_quiet_step (fail); exact wpQuiet_nil rfl
      refine Dm.wpE_take (i := 14) (listed' := (Dm.bits 20 32767)) (by kernel_rfl) (by kernel_rfl) rfl (fun _ _ _ _ h => h) ?_; apply Exists.intro; refine And.intro (fun x => ?_) ?_
      · go_big_quiet_step (fail); exact wpQuiet_nil rfl
      refine Dm.wpE_take (i := 15) (listed' := (Dm.bits 20 65535)) (by kernel_rfl) (by kernel_rfl) rfl (fun _ _ _ _ h => h) ?_; apply Exists.intro; refine And.intro (fun x => ?_) ?_
      · go_big_quiet_step (fail); exact wpQuiet_nil rfl
      refine Dm.wpE_take (i := 16) (listed' := (Dm.bits 20 131071)) (by kernel_rfl) (by kernel_rfl) rfl (fun _ _ _ _ h => h) ?_; apply Exists.intro; refine And.intro (fun x => ?_) ?_
      · go_big_quiet_step (fail); exact wpQuiet_nil rfl
      refine Dm.wpE_one (i := 17) (listed' := (Dm.bits 20 262143)) (by kernel_rfl) (by kernel_rfl) rfl hb (fun w1a hx1a => ?_)
      have hX1a := Ext.trans hb hx1a
      have hoa := ho.ext hx1a
      have hva := vx0.ext hX1a
      go_wp2_with fail
      have hl := Sl.lit w1a 121 3 1 #[.string k1, .bool n1, .slice q3 vals1.length cap3] rfl (by simp [maxLen])
      have hs1 := (Ext.refl w1a).alloc (.cells #[.string k1, .bool n1, .slice q3 vals1.length cap3] 121)
      generalize w1a.alloc (.cells #[.string k1, .bool n1, .slice q3 vals1.length cap3] 121) = w1b at *
      have hX1b := Ext.trans hX1a hs1
      replace hoa := hoa.ext hs1
      replace hva := hva.ext hs1
      try simp only [Exit.then, Act.put, List.setIfInBounds_toArray, List.set_cons_succ, List.set_cons_zero]
      refine Dm.wpE_one (i := 18) (listed' := (Dm.bits 20 524287)) (by kernel_rfl) (by kernel_rfl) rfl hX1b (fun w2a hx2a => ?_)
      have hX2a := Ext.trans hX1b hx2a
      replace hl := hl.ext hx2a
      refine wpList_appT rfl _ _ Tryz.slTerm11 rfl hX2a rfl (hoa.ext hx2a) (r := (k1, n1, .slice q3 vals1.length cap3, vals1)) rfl hl (hva.ext hx2a) hap.out (by omega) ?_
      intro v2 w2b ho3 hX2b _
      refine wpList_nil ?_
      try simp only [Exit.then, Act.put, List.setIfInBounds_toArray, List.set_cons_succ, List.set_cons_zero]
      refine Dm.wpE_take (i := 19) (listed' := (Dm.bits 20 1048575)) (by kernel_rfl) (by kernel_rfl) rfl (fun _ _ _ _ h => h) ?_; apply Exists.intro; refine And.intro (fun x => ?_) ?_
      · go_big_quiet_step (fail); exact wpQuiet_nil rfl
      refine Dm.wpE_done (by kernel_rfl) hX2b (fun w3a hx3a => ?_)
      have hX3a := Ext.trans hX2b hx3a
      replace ho3 := ho3.ext hx3a
      go_wp2
      go_roundw
      case rel => exact ⟨k + 1, by omega, by go_num, hX3a, by rw [hst.out]; exact ho3⟩
      case measure => simp [intOf]; omega
    · obtain rfl : k = R.length := by omega
      go_wp2
      go_ret
      rw [List.take_length] at ho
      exact ⟨_, rfl, ho.terms rfl, (fun c hc => (ho.lt hc).1), hb⟩

set_option maxHeartbeats 4000000 in
set_option maxRecDepth 100000 in
theorem refx_w (s : ByteArray) (d : Vc) (n : Nums3) (v : Value) (R : List RowS) (w : World) (hm : R.length ≤ 4294967296) (hx : Terms w v R) :
    Calls Tryz.prog 10 #[spVal s (vG d) n v] w fun e w' => ∃ r, e = .returned (spVal s (vG d) n r) ∧ Terms w' r R ∧ Ext w w' := by
  obtain ⟨qv, capv, rfl, _, _⟩ := hx.shape
  have CV := fun U => refv11_w d U
  have CS := fun U (h : Ext w U) => srefs11_w R _ U hm (hx.ext h)
  unfold vVal vF at CV
  unfold spVal
  generalize vG d = D at *
  have hX := (XBox.new w s D n (.slice qv R.length capv) 27).ext ((Ext.refl _).alloc (.cells #[.string ⟨#[]⟩, .int .u64 0, .int .u64 0, .int .u64 0, .int .u64 0, .int .i64 0, .int .i64 0, .int .i64 0, .slice none 0 0] 33))
  have hB : CB (w.heap.size + 1) [.string ⟨#[]⟩, .int .u64 0, .int .u64 0, .int .u64 0, .int .u64 0, .int .i64 0, .int .i64 0, .int .i64 0, .slice none 0 0] ((w.alloc (.cells #[.string s, .int .u64 (D 0 : Nat), .int .u64 (D 1 : Nat), .int .u64 (D 2 : Nat), .int .u64 (D 3 : Nat), .int .i64 n.1, .int .i64 n.2.1, .int .i64 n.2.2, .slice qv R.length capv] 27)).alloc (.cells #[.string ⟨#[]⟩, .int .u64 0, .int .u64 0, .int .u64 0, .int .u64 0, .int .i64 0, .int .i64 0, .int .i64 0, .slice none 0 0] 33)) := by
    have h := CB.new (w.alloc (.cells #[.string s, .int .u64 (D 0 : Nat), .int .u64 (D 1 : Nat), .int .u64 (D 2 : Nat), .int .u64 (D 3 : Nat), .int .i64 n.1, .int .i64 n.2.1, .int .i64 n.2.2, .slice qv R.length capv] 27)) #[.string ⟨#[]⟩, .int .u64 0, .int .u64 0, .int .u64 0, .int .u64 0, .int .i64 0, .int .i64 0, .int .i64 0, .slice none 0 0] 33
    rw [World.size_alloc] at h
    exact h
  have hE : Ext w ((w.alloc (.cells #[.string s, .int .u64 (D 0 : Nat), .int .u64 (D 1 : Nat), .int .u64 (D 2 : Nat), .int .u64 (D 3 : Nat), .int .i64 n.1, .int .i64 n.2.1, .int .i64 n.2.2, .slice qv R.length capv] 27)).alloc (.cells #[.string ⟨#[]⟩, .int .u64 0, .int .u64 0, .int .u64 0, .int .u64 0, .int .i64 0, .int .i64 0, .int .i64 0, .slice none 0 0] 33)) := ((Ext.refl _).alloc _).alloc _
  have hlW : w.heap.size + 1 < ((w.alloc (.cells #[.string s, .int .u64 (D 0 : Nat), .int .u64 (D 1 : Nat), .int .u64 (D 2 : Nat), .int .u64 (D 3 : Nat), .int .i64 n.1, .int .i64 n.2.1, .int .i64 n.2.2, .slice qv R.length capv] 27)).alloc (.cells #[.string ⟨#[]⟩, .int .u64 0, .int .u64 0, .int .u64 0, .int .u64 0, .int .i64 0, .int .i64 0, .int .i64 0, .slice none 0 0] 33)).heap.size := hB.lt
  replace CV := Lib.hid CV
  replace CS := Lib.hid CS
  generalize hW0 : (w.alloc (.cells #[.string s, .int .u64 (D 0 : Nat), .int .u64 (D 1 : Nat), .int .u64 (D 2 : Nat), .int .u64 (D 3 : Nat), .int .i64 n.1, .int .i64 n.2.1, .int .i64 n.2.2, .slice qv R.length capv] 27)).alloc (.cells #[.string ⟨#[]⟩, .int .u64 0, .int .u64 0, .int .u64 0, .int .u64 0, .int .i64 0, .int .i64 0, .int .i64 0, .slice none 0 0] 33) = W at *
  have HI := hX
  go_enter Tryz.func10, Tryz.ntmps10
  go_wp2_with fail
  try simp only [Act.put, List.setIfInBounds_toArray, List.set_cons_succ, List.set_cons_zero]
  refine Dm.wp_region_fin (I := (fun w' => XBox w.heap.size s D n (.slice qv R.length capv) w')) (z := 15) 16 (Dm.bits 16 0) (by kernel_rfl) (by kernel_rfl) (by kernel_rfl) ?_
  refine Dm.wpF_take (i := 0) (listed' := (Dm.bits 16 1)) (fun _ _ h hx => XBox.ext h hx) HI (by kernel_rfl) (by kernel_rfl) rfl (fun _ _ _ _ h => h) ?_; apply Exists.intro; refine And.intro (fun wq hwq => ?_) ?_
  · obtain ⟨xl, x0, x1, x2, x3, x4, x5, x6, x7, x8, _⟩ := hwq; go_big_quiet_step ((go_at_call 17; with_reducible exact Calls.quietE (CV.out _))); exact wpQuiet_nil rfl
  refine Dm.wpF_take (i := 1) (listed' := (Dm.bits 16 3)) (fun _ _ h hx => XBox.ext h hx) HI (by kernel_rfl) (by kernel_rfl) rfl (fun _ _ _ _ h => h) ?_; apply Exists.intro; refine And.intro (fun wq hwq => ?_) ?_
  · obtain ⟨xl, x0, x1, x2, x3, x4, x5, x6, x7, x8, _⟩ := hwq; go_big_quiet_step ((go_at_call 17; with_reducible exact Calls.quietE (CV.out _))); exact wpQuiet_nil rfl
  refine Dm.wpF_take (i := 2) (listed' := (Dm.bits 16 7)) (fun _ _ h hx => XBox.ext h hx) HI (by kernel_rfl) (by kernel_rfl) rfl (fun _ _ _ _ h => h) ?_; apply Exists.intro; refine And.intro (fun wq hwq => ?_) ?_
  · obtain ⟨xl, x0, x1, x2, x3, x4, x5, x6, x7, x8, _⟩ := hwq; go_big_quiet_step ((go_at_call 17; with_reducible exact Calls.quietE (CV.out _))); exact wpQuiet_nil rfl
  refine Dm.wpF_take (i := 3) (listed' := (Dm.bits 16 15)) (fun _ _ h hx => XBox.ext h hx) HI (by kernel_rfl) (by kernel_rfl) rfl (fun _ _ _ _ h => h) ?_; apply Exists.intro; refine And.intro (fun wq hwq => ?_) ?_
  · obtain ⟨xl, x0, x1, x2, x3, x4, x5, x6, x7, x8, _⟩ := hwq; go_big_quiet_step ((go_at_call 17; with_reducible exact Calls.quietE (CV.out _))); exact wpQuiet_nil rfl
  refine Dm.wpF_take (i := 4) (listed' := (Dm.bits 16 31)) (fun _ _ h hx => XBox.ext h hx) HI (by kernel_rfl) (by kernel_rfl) rfl (fun _ _ _ _ h => h) ?_; apply Exists.intro; refine And.intro (fun wq hwq => ?_) ?_
  · obtain ⟨xl, x0, x1, x2, x3, x4, x5, x6, x7, x8, _⟩ := hwq; go_big_quiet_step ((go_at_call 17; with_reducible exact Calls.quietE (CV.out _))); exact wpQuiet_nil rfl
  refine Dm.wpF_take (i := 5) (listed' := (Dm.bits 16 63)) (fun _ _ h hx => XBox.ext h hx) HI (by kernel_rfl) (by kernel_rfl) rfl (fun _ _ _ _ h => h) ?_; apply Exists.intro; refine And.intro (fun wq hwq => ?_) ?_
  · obtain ⟨xl, x0, x1, x2, x3, x4, x5, x6, x7, x8, _⟩ := hwq; go_big_quiet_step ((go_at_call 17; with_reducible exact Calls.quietE (CV.out _))); exact wpQuiet_nil rfl
  refine Dm.wpF_take (i := 6) (listed' := (Dm.bits 16 127)) (fun _ _ h hx => XBox.ext h hx) HI (by kernel_rfl) (by kernel_rfl) rfl (fun _ _ _ _ h => h) ?_; apply Exists.intro; refine And.intro (fun wq hwq => ?_) ?_
  · obtain ⟨xl, x0, x1, x2, x3, x4, x5, x6, x7, x8, _⟩ := hwq; go_big_quiet_step ((go_at_call 17; with_reducible exact Calls.quietE (CV.out _))); exact wpQuiet_nil rfl
  refine Dm.wpF_take (i := 7) (listed' := (Dm.bits 16 255)) (fun _ _ h hx => XBox.ext h hx) HI (by kernel_rfl) (by kernel_rfl) rfl (fun _ _ _ _ h => h) ?_; apply Exists.intro; refine And.intro (fun wq hwq => ?_) ?_
  · obtain ⟨xl, x0, x1, x2, x3, x4, x5, x6, x7, x8, _⟩ := hwq; go_big_quiet_step ((go_at_call 17; with_reducible exact Calls.quietE (CV.out _))); exact wpQuiet_nil rfl
  refine Dm.wpF_take (i := 8) (listed' := (Dm.bits 16 511)) (fun _ _ h hx => XBox.ext h hx) HI (by kernel_rfl) (by kernel_rfl) rfl (fun _ _ _ _ h => h) ?_; apply Exists.intro; refine And.intro (fun wq hwq => ?_) ?_
  · obtain ⟨xl, x0, x1, x2, x3, x4, x5, x6, x7, x8, _⟩ := hwq; go_big_quiet_step ((go_at_call 17; with_reducible exact Calls.quietE (CV.out _))); exact wpQuiet_nil rfl
  refine Dm.wpF_take (i := 9) (listed' := (Dm.bits 16 1023)) (fun _ _ h hx => XBox.ext h hx) HI (by kernel_rfl) (by kernel_rfl) rfl (fun _ _ _ _ h => h) ?_; apply Exists.intro; refine And.intro (fun wq hwq => ?_) ?_
  · obtain ⟨xl, x0, x1, x2, x3, x4, x5, x6, x7, x8, _⟩ := hwq; go_big_quiet_step ((go_at_call 17; with_reducible exact Calls.quietE (CV.out _))); exact wpQuiet_nil rfl
  refine Dm.wpF_take (i := 10) (listed' := (Dm.bits 16 2047)) (fun _ _ h hx => XBox.ext h hx) HI (by kernel_rfl) (by kernel_rfl) rfl (fun _ _ _ _ h => h) ?_; apply Exists.intro; refine And.intro (fun wq hwq => ?_) ?_
  · obtain ⟨xl, x0, x1, x2, x3, x4, x5, x6, x7, x8, _⟩ := hwq; go_big_quiet_step ((go_at_call 17; with_reducible exact Calls.quietE (CV.out _))); exact wpQuiet_nil rfl
  refine Dm.wpF_take (i := 11) (listed' := (Dm.bits 16 4095)) (fun _ _ h hx => XBox.ext h hx) HI (by kernel_rfl) (by kernel_rfl) rfl (fun _ _ _ _ h => h) ?_; apply Exists.intro; refine And.intro (fun wq hwq => ?_) ?_
  · obtain ⟨xl, x0, x1, x2, x3, x4, x5, x6, x7, x8, _⟩ := hwq; go_big_quiet_step ((go_at_call 17; with_reducible exact Calls.quietE (CV.out _))); exact wpQuiet_nil rfl
  refine Dm.wpF_take (i := 12) (listed' := (Dm.bits 16 8191)) (fun _ _ h hx => XBox.ext h hx) HI (by kernel_rfl) (by kernel_rfl) rfl (fun _ _ _ _ h => h) ?_; apply Exists.intro; refine And.intro (fun wq hwq => ?_) ?_
  · obtain ⟨xl, x0, x1, x2, x3, x4, x5, x6, x7, x8, _⟩ := hwq; go_big_quiet_step ((go_at_call 17; with_reducible exact Calls.quietE (CV.out _))); exact wpQuiet_nil rfl
  refine Dm.wpF_one (i := 13) (listed' := (Dm.bits 16 16383)) (by kernel_rfl) (by kernel_rfl) rfl (fun wm13 hxm13 => ?_)
  have E1 := hE.trans hxm13
  obtain ⟨xl, x0, x1, x2, x3, x4, x5, x6, x7, x8, _⟩ := hX.ext hxm13
  go_wp2_with (go_at_call 30; go_must (refine (CS.out wm13 E1).mono ?_; rintro e w13 ⟨r, rfl, hT, hr, h13⟩))
  clear xl x0 x1 x2 x3 x4 x5 x6 x7 x8
  obtain ⟨qr, cr, rfl, _, _⟩ := hT.shape
  have HI13 : XBox w.heap.size s D n (.slice qv R.length capv) w13 := (hX.ext hxm13).ext h13
  have E2 := E1.trans h13
  have hlr := hxm13.size
  have hB2 := (hB.ext hxm13).ext h13
  refine ⟨(by first | exact HI13 | exact fun _ => HI13), ?_⟩
  replace HI := HI13
  try simp only [Act.put, List.setIfInBounds_toArray, List.set_cons_succ, List.set_cons_zero]
  refine Dm.wpF_take (i := 14) (listed' := (Dm.bits 16 32767)) (fun _ _ h hx => XBox.ext h hx) HI (by kernel_rfl) (by kernel_rfl) rfl (fun _ _ _ _ h => h) ?_; apply Exists.intro; refine And.intro (fun wq hwq => ?_) ?_
  · obtain ⟨xl, x0, x1, x2, x3, x4, x5, x6, x7, x8, _⟩ := hwq; go_big_quiet_step ((go_at_call 17; with_reducible exact Calls.quietE (CV.out _))); exact wpQuiet_nil rfl
  refine Dm.wpF_one (i := 15) (listed' := (Dm.bits 16 65535)) (by kernel_rfl) (by kernel_rfl) rfl (fun wz hxz => ?_)
  obtain ⟨xl, x0, x1, x2, x3, x4, x5, x6, x7, x8, xf0, xf1, xf2, xf3, xf4, xf5, xf6, xf7, xf8⟩ := (hB2.ext hxz).cells9
  go_wp2_with fail
  first | refine ⟨fun h => absurd rfl h, ?_⟩ | skip
  refine Dm.wpF_done (by kernel_rfl) (fun wy hxy => ?_)
  have hX9 := (Ext.cput9 (Ext.trans E2 hxz) (b := w.heap.size + 1) (by omega) (.string s) (.int .u64 (D 0 : Nat)) (.int .u64 (D 1 : Nat)) (.int .u64 (D 2 : Nat)) (.int .u64 (D 3 : Nat)) (.int .i64 n.1) (.int .i64 n.2.1) (.int .i64 n.2.2) (.slice qr R.length cr)).trans hxy
  have hsl := (sl_put9 (hT.ext hxz).sl (b := w.heap.size + 1) (fun c hc => by have := hr c hc; omega) (.string s) (.int .u64 (D 0 : Nat)) (.int .u64 (D 1 : Nat)) (.int .u64 (D 2 : Nat)) (.int .u64 (D 3 : Nat)) (.int .i64 n.1) (.int .i64 n.2.1) (.int .i64 n.2.2) (.slice qr R.length cr)).ext hxy
  have hB3 := ((hB2.ext hxz).put9 (.string s) (.int .u64 (D 0 : Nat)) (.int .u64 (D 1 : Nat)) (.int .u64 (D 2 : Nat)) (.int .u64 (D 3 : Nat)) (.int .i64 n.1) (.int .i64 n.2.1) (.int .i64 n.2.2) (.slice qr R.length cr)).ext hxy
  go_wp2
  obtain ⟨_, k0, k1, k2, k3, k4, k5, k6, k7, k8, _, _, _, _, _, _, _, _, _⟩ := hB3.cells9
  refine bodyPost_ret (v := .agg #[.string s, .int .u64 (D 0 : Nat), .int .u64 (D 1 : Nat), .int .u64 (D 2 : Nat), .int .u64 (D 3 : Nat), .int .i64 n.1, .int .i64 n.2.1, .int .i64 n.2.2, .slice qr R.length cr]) (by simp [results, Tryz.results10, go_sem, k0, k1, k2, k3, k4, k5, k6, k7, k8]) rfl ?_
  exact ⟨_, rfl, ⟨hsl, fun x hx' => (hx.vals x hx').ext hX9⟩, hX9⟩
end Go.Proofs.YthmhalcloogniaaGreatDoor
