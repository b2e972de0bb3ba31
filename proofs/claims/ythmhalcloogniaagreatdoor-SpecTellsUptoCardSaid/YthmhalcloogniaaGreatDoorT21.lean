/- Texts one behind the other: Chapter 11, the document's: the walks of Total, Same, Check. -/
import Derived.Test.YthmhalcloogniaaGreatDoorT23
import Derived.Test.YthmhalcloogniaaGreatDoorT22
import Derived.Test.YthmhalcloogniaaGreatDoorT26
import Derived.Test.YthmhalcloogniaaGreatDoorT35
import Derived.Test.YthmhalcloogniaaGreatDoorT20
namespace Go.Proofs.YthmhalcloogniaaGreatDoor
open Go.RowKit Go.Dm

set_option maxHeartbeats 2000000 in
theorem rtotal_w (s : ByteArray) (d : Vc) (n : Nums3) (v : Value) (hd : OkV d) (w : World) :
    Calls Tryz.prog 12 #[spVal s (vG d) n v] w fun e w' => e = .returned (.tuple #[vVal (vOr (vtimesOk d (nat64 n.1)) (vtimes d (nat64 n.1))), .bool (vtimesOk d (nat64 n.1))]) ∧ Ext w w' := by
  have C := fun U => r03times_w d (nat64 n.1) hd (nat64_u64 _) U
  rw [nat64_cast] at C
  unfold vVal at *
  generalize vG (vOr (vtimesOk d (nat64 n.1)) (vtimes d (nat64 n.1))) = R at C ⊢
  generalize vtimesOk d (nat64 n.1) = ok at C ⊢
  generalize vG d = D at C ⊢
  unfold spVal
  unfold vF at *
  have hX := XBox.new w s D n v 33
  have hE : Ext w ((w.alloc (.cells #[.string s, .int .u64 (D 0 : Nat), .int .u64 (D 1 : Nat), .int .u64 (D 2 : Nat), .int .u64 (D 3 : Nat), .int .i64 n.1, .int .i64 n.2.1, .int .i64 n.2.2, v] 33)).alloc (.cells #[.int .u64 (0 : Nat), .int .u64 (0 : Nat), .int .u64 (0 : Nat), .int .u64 (0 : Nat)] 30)) := ((Ext.refl _).alloc _).alloc _
  have hv := VBox.new (w.alloc (.cells #[.string s, .int .u64 (D 0 : Nat), .int .u64 (D 1 : Nat), .int .u64 (D 2 : Nat), .int .u64 (D 3 : Nat), .int .i64 n.1, .int .i64 n.2.1, .int .i64 n.2.2, v] 33)) (fun _ => 0) 30
  rw [World.size_alloc] at hv
  replace hX := hX.ext ((Ext.refl _).alloc (.cells #[.int .u64 (0 : Nat), .int .u64 (0 : Nat), .int .u64 (0 : Nat), .int .u64 (0 : Nat)] 30))
  obtain ⟨xl, x0, x1, x2, x3, x4, x5, x6, x7, x8⟩ := hX.cells
  replace C := Lib.hid C
  go_enter Tryz.func12, Tryz.ntmps12
  go_wp2_with fail
  refine (C.out _).mono ?_; rintro e w1 ⟨rfl, h1⟩
  have v1 := hv.ext h1
  have d0 := v1.cell 0 (by omega)
  have d1 := v1.cell 1 (by omega)
  have d2 := v1.cell 2 (by omega)
  have d3 := v1.cell 3 (by omega)
  have e0 := v1.free 0 (by omega)
  have e1 := v1.free 1 (by omega)
  have e2 := v1.free 2 (by omega)
  have e3 := v1.free 3 (by omega)
  go_wp2
  have z0 := (((v1.set (k := 0) (v := R 0) (by omega)).set (k := 1) (v := R 1) (by omega)).set (k := 2) (v := R 2) (by omega)).set (k := 3) (v := R 3) (by omega)
  have k0 := z0.cell 0 (by omega)
  have k1 := z0.cell 1 (by omega)
  have k2 := z0.cell 2 (by omega)
  have k3 := z0.cell 3 (by omega)
  simp at k0 k1 k2 k3
  refine bodyPost_ret (v := .tuple #[.agg #[.int .u64 (R 0 : Nat), .int .u64 (R 1 : Nat), .int .u64 (R 2 : Nat), .int .u64 (R 3 : Nat)], .bool ok]) (by simp [results, Tryz.results12, go_sem, k0, k1, k2, k3]) rfl ?_
  exact ⟨rfl, (hE.trans h1).put4 (b := w.heap.size + 1) (by omega) R⟩


set_option maxHeartbeats 4000000 in
set_option maxRecDepth 100000 in
theorem rsame_w (s : ByteArray) (d : Vc) (n : Nums3) (v : Value) (R : List RowS) (s2 : ByteArray) (d2 : Vc) (n2 : Nums3) (v2 : Value) (R2 : List RowS) (w : World) (hd : OkV d) (hd2 : OkV d2) (hm : R.length ≤ 35184372088832) (hf : FitR R) (hx : Terms w v R) (hy : Terms w v2 R2) :
    Calls Tryz.prog 18 #[spVal s (vG d) n v, spVal s2 (vG d2) n2 v2] w fun e w' => e = .returned (.bool (sameX (s, d, n, R.map rowT) (s2, d2, n2, R2.map rowT))) ∧ Ext w w' := by
  have C := fun U (h : Ext w U) => smsame_w R R2 v v2 U hm hf (hx.ext h) (hy.ext h)
  have qv := fun U => run_eql_vals (P := Tryz.prog) Tryz.underlying30 Tryz.underlying22 (by kernel_rfl) hd hd2 U
  rw [same_spec]
  obtain ⟨a, b, c⟩ := n
  obtain ⟨a2, b2, c2⟩ := n2
  simp only
  generalize hb0 : (s.toList == s2.toList) = q0 at *
  generalize decide (d = d2) = q1 at *
  generalize hb2 : decide (a = a2) = q2 at *
  generalize hb3 : decide (b = b2) = q3 at *
  generalize hb4 : decide (c = c2) = q4 at *
  generalize decide (R.map rowT = R2.map rowT) = q5 at *
  unfold vVal at qv
  generalize vG d = D at *
  generalize vG d2 = D2 at *
  unfold vF at qv
  unfold spVal
  have hX : XBox w.heap.size s D (a, b, c) v (w.alloc (.cells #[.string s, .int .u64 (D 0 : Nat), .int .u64 (D 1 : Nat), .int .u64 (D 2 : Nat), .int .u64 (D 3 : Nat), .int .i64 a, .int .i64 b, .int .i64 c, v] 33)) := XBox.new w s D (a, b, c) v 33
  have hY : XBox (w.alloc (.cells #[.string s, .int .u64 (D 0 : Nat), .int .u64 (D 1 : Nat), .int .u64 (D 2 : Nat), .int .u64 (D 3 : Nat), .int .i64 a, .int .i64 b, .int .i64 c, v] 33)).heap.size s2 D2 (a2, b2, c2) v2 ((w.alloc (.cells #[.string s, .int .u64 (D 0 : Nat), .int .u64 (D 1 : Nat), .int .u64 (D 2 : Nat), .int .u64 (D 3 : Nat), .int .i64 a, .int .i64 b, .int .i64 c, v] 33)).alloc (.cells #[.string s2, .int .u64 (D2 0 : Nat), .int .u64 (D2 1 : Nat), .int .u64 (D2 2 : Nat), .int .u64 (D2 3 : Nat), .int .i64 a2, .int .i64 b2, .int .i64 c2, v2] 33)) := XBox.new (w.alloc (.cells #[.string s, .int .u64 (D 0 : Nat), .int .u64 (D 1 : Nat), .int .u64 (D 2 : Nat), .int .u64 (D 3 : Nat), .int .i64 a, .int .i64 b, .int .i64 c, v] 33)) s2 D2 (a2, b2, c2) v2 33
  rw [World.size_alloc] at hY
  have hE : Ext w ((w.alloc (.cells #[.string s, .int .u64 (D 0 : Nat), .int .u64 (D 1 : Nat), .int .u64 (D 2 : Nat), .int .u64 (D 3 : Nat), .int .i64 a, .int .i64 b, .int .i64 c, v] 33)).alloc (.cells #[.string s2, .int .u64 (D2 0 : Nat), .int .u64 (D2 1 : Nat), .int .u64 (D2 2 : Nat), .int .u64 (D2 3 : Nat), .int .i64 a2, .int .i64 b2, .int .i64 c2, v2] 33)) := ((Ext.refl _).alloc _).alloc _
  replace hX := hX.ext ((Ext.refl _).alloc (.cells #[.string s2, .int .u64 (D2 0 : Nat), .int .u64 (D2 1 : Nat), .int .u64 (D2 2 : Nat), .int .u64 (D2 3 : Nat), .int .i64 a2, .int .i64 b2, .int .i64 c2, v2] 33))
  replace C := Lib.hid C
  obtain ⟨xl, x0, x1, x2, x3, x4, x5, x6, x7, x8⟩ := hX.cells
  obtain ⟨yl, y0, y1, y2, y3, y4, y5, y6, y7, y8⟩ := hY.cells
  go_enter Tryz.func18, Tryz.ntmps18
  cases q0 with
  | false => go_wp2; go_ret; exact ⟨rfl, hE⟩
  | true =>
  cases q1 with
  | false => go_wp2; go_ret; exact ⟨rfl, hE⟩
  | true =>
  cases q2 with
  | false =>
    have k2 := of_decide_eq_false hb2
    go_wp2; go_ret; exact ⟨rfl, hE⟩
  | true =>
  obtain rfl := of_decide_eq_true hb2
  clear hb2
  cases q3 with
  | false =>
    have k3 := of_decide_eq_false hb3
    go_wp2; go_ret; exact ⟨rfl, hE⟩
  | true =>
  obtain rfl := of_decide_eq_true hb3
  clear hb3
  cases q4 with
  | false =>
    have k4 := of_decide_eq_false hb4
    go_wp2; go_ret; exact ⟨rfl, hE⟩
  | true =>
  obtain rfl := of_decide_eq_true hb4
  clear hb4
  go_wp2_with fail
  refine (C.out _ hE).mono ?_; rintro e w1 ⟨rfl, h1⟩
  go_wp2
  go_ret
  exact ⟨by simp, hE.trans h1⟩

set_option maxHeartbeats 4000000 in
set_option maxRecDepth 100000 in
theorem rcheck_w (s : ByteArray) (d : Vc) (n : Nums3) (v : Value) (R : List RowS) (w : World) (hs : s.size ≤ 1048576) (hd : OkV d) (hf : FitR R) (hx : Terms w v R) :
    Calls Tryz.prog 20 #[spVal s (vG d) n v] w fun e w' => e = .returned (.int .i64 (chkX (s, d, n, R.map rowT) : Nat)) ∧ Ext w w' := by
  obtain ⟨qv, capv, rfl, _, _⟩ := hx.shape
  have C1 := fun U => rtotal_w s d n (.slice qv R.length capv) hd U
  have C2 := fun U => rparts_w s U (by omega)
  have C4 := fun U (h : Ext w U) => smright_w R _ U hf (hx.ext h)
  have k1 := fun h => chkX_1 (x := (s, d, n, R.map rowT)) h
  have k2 := fun h => chkX_2 (x := (s, d, n, R.map rowT)) h
  have k3 := fun h => chkX_3 (x := (s, d, n, R.map rowT)) h
  have k4 := fun h => chkX_4 (x := (s, d, n, R.map rowT)) h
  have u1 : partsL s.data.toList = [] → underL s.data.toList s.data.toList = false := fun h => under_none h
  have u2 : partsL s.data.toList ≠ [] → underL s.data.toList s.data.toList = true := fun h => under_self h
  unfold totOk at k4
  simp only at k1 k2 k3 k4
  generalize chkX (s, d, n, R.map rowT) = K at *
  generalize underL s.data.toList s.data.toList = un at *
  generalize rightS (R.map rowT) = rs at *
  have hn := inNum_iff (c := n)
  generalize inNum n = bn at *
  unfold vVal at C1
  generalize vG (vOr (vtimesOk d (nat64 n.1)) (vtimes d (nat64 n.1))) = S at *
  generalize vtimesOk d (nat64 n.1) = ok at *
  generalize vG d = D at *
  unfold spVal at *
  unfold vF at C1
  have hX := XBox.new w s D n (.slice qv R.length capv) 33
  have hE : Ext w (w.alloc (.cells #[.string s, .int .u64 (D 0 : Nat), .int .u64 (D 1 : Nat), .int .u64 (D 2 : Nat), .int .u64 (D 3 : Nat), .int .i64 n.1, .int .i64 n.2.1, .int .i64 n.2.2, .slice qv R.length capv] 33)) := (Ext.refl _).alloc _
  replace C1 := Lib.hid C1
  replace C2 := Lib.hid C2
  replace C4 := Lib.hid C4
  replace k1 := Lib.hid k1
  replace k2 := Lib.hid k2
  replace k3 := Lib.hid k3
  replace k4 := Lib.hid k4
  replace u1 := Lib.hid u1
  replace u2 := Lib.hid u2
  replace hn := Lib.hid hn
  generalize hW0 : w.alloc (.cells #[.string s, .int .u64 (D 0 : Nat), .int .u64 (D 1 : Nat), .int .u64 (D 2 : Nat), .int .u64 (D 3 : Nat), .int .i64 n.1, .int .i64 n.2.1, .int .i64 n.2.2, .slice qv R.length capv] 33) = W at *
  obtain ⟨xl, x0, x1, x2, x3, x4, x5, x6, x7, x8⟩ := hX.cells
  go_enter Tryz.func20, Tryz.ntmps20
  go_wp2_with fail
  refine (C1.out _).mono ?_; rintro e w1 ⟨rfl, h1⟩
  clear xl x0 x1 x2 x3 x4 x5 x6 x7 x8
  have hal := h1.trans ((Ext.refl w1).alloc (.cells #[.int .u64 (S 0 : Nat), .int .u64 (S 1 : Nat), .int .u64 (S 2 : Nat), .int .u64 (S 3 : Nat)] 30))
  replace hX := hX.ext hal
  replace hE := hE.trans hal
  clear hal h1 hW0
  obtain ⟨xl, x0, x1, x2, x3, x4, x5, x6, x7, x8⟩ := hX.cells
  go_wp2_with fail
  clear xl x0 x1 x2 x3 x4 x5 x6 x7 x8
  generalize w1.alloc (.cells #[.int .u64 (S 0 : Nat), .int .u64 (S 1 : Nat), .int .u64 (S 2 : Nat), .int .u64 (S 3 : Nat)] 30) = w2 at *
  refine (C2.out _).mono ?_; rintro e w3 ⟨r, rfl, ⟨ss, hss, hps⟩, h3⟩
  obtain ⟨qs, cs, rfl, _, _⟩ := hss.shape
  replace hX := hX.ext h3
  replace hE := hE.trans h3
  clear h3 hss
  obtain ⟨xl, x0, x1, x2, x3, x4, x5, x6, x7, x8⟩ := hX.cells
  by_cases h0 : ss = []
  · obtain rfl : K = 6 := k1.out (u1.out (by rw [← hps, h0]; rfl))
    subst h0
    clear hps
    go_wp2
    go_ret
    exact ⟨rfl, hE⟩
  · obtain rfl : un = true := u2.out (fun e => h0 (by rw [e] at hps; simpa [bytesOf] using hps))
    have hl0 : ss.length ≠ 0 := fun e => h0 (List.length_eq_zero_iff.1 e)
    have hli : ((ss.length : Int) == 0) = false := by rw [beq_eq_false_iff_ne]; omega
    clear hps h0
    by_cases a1 : n.1 < 1
    · obtain rfl : K = 1 := k2.out (by trivial) (Bool.eq_false_iff.2 fun h => by have := hn.out.1 h; omega)
      go_wp2
      go_ret
      exact ⟨rfl, hE⟩
    by_cases a2 : 8 < n.1
    · obtain rfl : K = 1 := k2.out (by trivial) (Bool.eq_false_iff.2 fun h => by have := hn.out.1 h; omega)
      go_wp2
      go_ret
      exact ⟨rfl, hE⟩
    by_cases a3 : n.2.1 < 0
    · obtain rfl : K = 1 := k2.out (by trivial) (Bool.eq_false_iff.2 fun h => by have := hn.out.1 h; omega)
      go_wp2
      go_ret
      exact ⟨rfl, hE⟩
    by_cases a4 : 9 < n.2.1
    · obtain rfl : K = 1 := k2.out (by trivial) (Bool.eq_false_iff.2 fun h => by have := hn.out.1 h; omega)
      go_wp2
      go_ret
      exact ⟨rfl, hE⟩
    by_cases a5 : n.2.2 < 1
    · obtain rfl : K = 1 := k2.out (by trivial) (Bool.eq_false_iff.2 fun h => by have := hn.out.1 h; omega)
      go_wp2
      go_ret
      exact ⟨rfl, hE⟩
    by_cases a6 : 100 < n.2.2
    · obtain rfl : K = 1 := k2.out (by trivial) (Bool.eq_false_iff.2 fun h => by have := hn.out.1 h; omega)
      go_wp2
      go_ret
      exact ⟨rfl, hE⟩
    obtain rfl : bn = true := hn.out.2 ⟨by omega, by omega, by omega, by omega, by omega, by omega⟩
    go_wp2_with fail
    refine (C4.out _ hE).mono ?_; rintro e w5 ⟨rfl, h5⟩
    replace hE := hE.trans h5
    cases rs with
    | false =>
      obtain rfl : K = 2 := k3.out (by trivial) (by trivial) (by trivial)
      go_wp2
      go_ret
      exact ⟨rfl, hE⟩
    | true =>
      cases ok with
      | false =>
        obtain rfl : K = 5 := k4.out (by trivial) (by trivial) (by trivial)
        clear k4
        go_wp2
        go_ret
        exact ⟨rfl, hE⟩
      | true =>
        obtain rfl : K = 0 := k4.out (by trivial) (by trivial) (by trivial)
        clear k4
        go_wp2
        go_ret
        exact ⟨rfl, hE⟩
end Go.Proofs.YthmhalcloogniaaGreatDoor
