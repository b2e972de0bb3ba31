/- Texts one behind the other: Chapter 11: the walk of the program's Get. -/
import Derived.Test.YtefjdmjkofaajaaGreatDoorB30
import Derived.Test.YtefjdmjkofaajaaGreatDoorB32
import Derived.Test.YtefjdmjkofaajaaGreatDoorB15
import Derived.Test.YtefjdmjkofaajaaGreatDoorB34
import Derived.Handy
namespace Go.Dm
open Go Go.RowKit
/-- What Get hands back. -/
def GotX (w : World) (G : SpQ × Int × Bool) (e : Ending) : Prop :=
 ∃ v R, e = .returned (.tuple #[spVal G.1.1 (vG G.1.2.1) G.1.2.2.1 v, .int .i64 G.2.1, .bool G.2.2]) ∧ Terms w v R ∧ FitR R ∧ R.length ≤ 4 ∧ R.map rowT = G.1.2.2.2 ∧ OkV G.1.2.1
theorem GotX.no (w : World) : GotX w (noSp, 0, false) (.returned (.tuple #[.agg #[.string ⟨#[]⟩, .int .u64 0, .int .u64 0, .int .u64 0, .int .u64 0, .int .i64 0, .int .i64 0, .int .i64 0, .slice none 0 0], .int .i64 0, .bool false])) :=
 ⟨.slice none 0 0, [], rfl, Terms.nil w, (fun r hr => by cases hr), by simp, rfl, okV_no⟩
/-- As GotX; its rows lie in blocks from B on. -/
def GotXO (B : Nat) (w : World) (G : SpQ × Int × Bool) (e : Ending) : Prop :=
 ∃ v R, e = .returned (.tuple #[spVal G.1.1 (vG G.1.2.1) G.1.2.2.1 v, .int .i64 G.2.1, .bool G.2.2]) ∧ Terms w v R ∧ FitR R ∧ R.length ≤ 4 ∧ R.map rowT = G.1.2.2.2 ∧ OkV G.1.2.1 ∧ OwnT B v R
theorem GotXO.plain {B : Nat} {w : World} {G : SpQ × Int × Bool} {e : Ending} (h : GotXO B w G e) : GotX w G e := by
 obtain ⟨v, R, h1, h2, h3, h4, h5, h6, _⟩ := h
 exact ⟨v, R, h1, h2, h3, h4, h5, h6⟩
theorem GotXO.no (B : Nat) (w : World) : GotXO B w (noSp, 0, false) (.returned (.tuple #[.agg #[.string ⟨#[]⟩, .int .u64 0, .int .u64 0, .int .u64 0, .int .u64 0, .int .i64 0, .int .i64 0, .int .i64 0, .slice none 0 0], .int .i64 0, .bool false])) :=
 ⟨.slice none 0 0, [], rfl, Terms.nil w, (fun r hr => by cases hr), by simp, rfl, okV_no, OwnT.nil B⟩
theorem OwnT.le {B B' : Nat} {v : Value} {R : List RowS} (h : OwnT B v R) (hb : B' ≤ B) : OwnT B' v R := ⟨fun c hc => Nat.le_trans hb (h.1 c hc), fun x hx c hc => Nat.le_trans hb (h.2 x hx c hc)⟩
theorem ite_off {α : Type} {b : Bool} {x y g : α} (h : g = if b = false then x else y) (hb : b = false) : g = x := by rw [h, if_pos hb]
theorem ite_on {α : Type} {b : Bool} {x y g : α} (h : g = if b = false then x else y) (hb : b = true) : g = y := by rw [h, if_neg (by rw [hb]; simp)]
theorem ite_off2 {α : Type} {b : Bool} {c : Nat} {x y g : α} (h : g = if b = false ∨ 100 < c then x else y) (hb : b = false ∨ 100 < c) : g = x := by rw [h, if_pos hb]
theorem ite_on2 {α : Type} {b : Bool} {c : Nat} {x y g : α} (h : g = if b = false ∨ 100 < c then x else y) (hb : b = true) (hc : c ≤ 100) : g = y := by rw [h, if_neg (by rw [hb]; simp; omega)]
end Go.Dm
namespace Go.Proofs.YtefjdmjkofaajaaGreatDoor
open Go.RowKit Go.Dm
set_option maxHeartbeats 16000000 in
set_option maxRecDepth 100000 in
theorem xgetO_w (s : ByteArray) (p : Int) (w : World) (hs : s.size ≤ 281474976710656) (ht : Vars w) :
  Calls Tryz.prog 84 #[.string s, .int .i64 p] w fun e w' => GotXO w.heap.size w' (getX s.data.toList p) e ∧ Ext w w' := by
 have hU : U64 s.data.toList.length := Nat.lt_of_le_of_lt (show s.size ≤ _ from hs) (by decide)
 have C1 := fun U => wgettext_w s p 98 U hs (by omega)
 obtain ⟨⟨t, q1, b1⟩, r1⟩ : ∃ r, atI (getTextL 98) [] s.data.toList p = r := ⟨_, rfl⟩
 have C2 := fun U => vget_w s q1 U hs
 obtain ⟨⟨d, q2, b2⟩, r2⟩ : ∃ r, getV s.data.toList q1 = r := ⟨_, rfl⟩
 have C3 := fun U => wget_w s q2 U hs
 obtain ⟨⟨c, q3, b3⟩, r3⟩ : ∃ r, getI s.data.toList q2 = r := ⟨_, rfl⟩
 have C4 := fun U => wget_w s q3 U hs
 obtain ⟨⟨m, q4, b4⟩, r4⟩ : ∃ r, getI s.data.toList q3 = r := ⟨_, rfl⟩
 have C5 := fun U => wget_w s q4 U hs
 obtain ⟨⟨k, q5, b5⟩, r5⟩ : ∃ r, getI s.data.toList q4 = r := ⟨_, rfl⟩
 have C6 := fun U (h : Ext w U) => sgetO_w s q5 U hs (ht.tabs.ext h)
 obtain ⟨⟨T6, q6, b6⟩, r6⟩ : ∃ r, atI getSelL [] s.data.toList q5 = r := ⟨_, rfl⟩
 rw [r1] at C1
 rw [r2] at C2
 rw [r3] at C3
 rw [r4] at C4
 rw [r5] at C5
 rw [r6] at C6
 have e1 : getX s.data.toList p = if b1 = false then (noSp, 0, false) else getX2 s.data.toList t q1 := by unfold getX; rw [r1]
 have e2 : getX2 s.data.toList t q1 = if b2 = false then (noSp, 0, false) else getX3 s.data.toList (⟨t.toArray⟩, d, (0, 0, 0), []) q2 := by unfold getX2; rw [r2]
 have e3 : getX3 s.data.toList (⟨t.toArray⟩, d, (0, 0, 0), []) q2 = if b3 = false ∨ 100 < c then (noSp, 0, false) else getX4 s.data.toList (⟨t.toArray⟩, d, ((c : Int), 0, 0), []) q3 := by unfold getX3; rw [r3]
 have e4 : getX4 s.data.toList (⟨t.toArray⟩, d, ((c : Int), 0, 0), []) q3 = if b4 = false ∨ 100 < m then (noSp, 0, false) else getX5 s.data.toList (⟨t.toArray⟩, d, ((c : Int), (m : Int), 0), []) q4 := by unfold getX4; rw [r4]
 have e5 : getX5 s.data.toList (⟨t.toArray⟩, d, ((c : Int), (m : Int), 0), []) q4 = if b5 = false ∨ 100 < k then (noSp, 0, false) else getX6 s.data.toList (⟨t.toArray⟩, d, ((c : Int), (m : Int), (k : Int)), []) q5 := by unfold getX5; rw [r5]
 have e6 : getX6 s.data.toList (⟨t.toArray⟩, d, ((c : Int), (m : Int), (k : Int)), []) q5 = if b6 = false then (noSp, 0, false) else if chkX (⟨t.toArray⟩, d, ((c : Int), (m : Int), (k : Int)), T6.map mkT) = 0 then ((⟨t.toArray⟩, d, ((c : Int), (m : Int), (k : Int)), T6.map mkT), q6, true) else (noSp, 0, false) := by unfold getX6; rw [r6]
 have hT : b1 = true → (⟨t.toArray⟩ : ByteArray).size ≤ 98 := fun hb => by
  subst hb
  have := ((text_iff hU).1 r1).1
  show t.toArray.size ≤ 98
  rw [List.size_toArray]; exact this
 have hD : b2 = true → OkV d := fun hb => by
  subst hb
  exact ((getV_iff hU).1 r2).1
 have hK : OkV d → (⟨t.toArray⟩ : ByteArray).size ≤ 98 → ∀ (n : Nums3) (v : Value) (R : List RowS) U, Ext w U → R.length ≤ 4 → FitR R → Terms U v R → Calls Tryz.prog 58 #[spVal ⟨t.toArray⟩ (vG d) n v] U fun e w' => e = .returned (.int .i64 (chkX (⟨t.toArray⟩, d, n, R.map rowT) : Nat)) ∧ Ext U w' := fun hd hsz n v R U h hl hf hx => xcheck_w _ d n v R U (by omega) hd (by omega) hf hx (ht.ext h)
 generalize getX s.data.toList p = G at *
 generalize getX2 s.data.toList t q1 = G2 at *
 simp only at C1 C2 C3 C4 C5 C6
 generalize (⟨t.toArray⟩ : ByteArray) = tb at *
 generalize getX3 s.data.toList (tb, d, (0, 0, 0), []) q2 = G3 at *
 generalize getX4 s.data.toList (tb, d, ((c : Int), 0, 0), []) q3 = G4 at *
 generalize getX5 s.data.toList (tb, d, ((c : Int), (m : Int), 0), []) q4 = G5 at *
 generalize getX6 s.data.toList (tb, d, ((c : Int), (m : Int), (k : Int)), []) q5 = G6 at *
 unfold vVal vF at C2
 clear r1 r2 r3 r4 r5 r6 hU hs

 replace C1 := Lib.hid C1
 replace C2 := Lib.hid C2
 replace C3 := Lib.hid C3
 replace C4 := Lib.hid C4
 replace C5 := Lib.hid C5
 replace C6 := Lib.hid C6
 replace e1 := Lib.hid e1
 replace e2 := Lib.hid e2
 replace e3 := Lib.hid e3
 replace e4 := Lib.hid e4
 replace e5 := Lib.hid e5
 replace e6 := Lib.hid e6
 replace hT := Lib.hid hT
 replace hD := Lib.hid hD
 replace hK := Lib.hid hK
 obtain ⟨D, hDe⟩ : ∃ D, vG d = D := ⟨_, rfl⟩
 rw [hDe] at C2
 have hB0 : CB w.heap.size [.string ⟨#[]⟩, .int .u64 0, .int .u64 0, .int .u64 0, .int .u64 0, .int .i64 0, .int .i64 0, .int .i64 0, .slice none 0 0] (w.alloc (.cells #[.string ⟨#[]⟩, .int .u64 0, .int .u64 0, .int .u64 0, .int .u64 0, .int .i64 0, .int .i64 0, .int .i64 0, .slice none 0 0] 30)) := CB.new w #[.string ⟨#[]⟩, .int .u64 0, .int .u64 0, .int .u64 0, .int .u64 0, .int .i64 0, .int .i64 0, .int .i64 0, .slice none 0 0] 30
 have hE0 : Ext w (w.alloc (.cells #[.string ⟨#[]⟩, .int .u64 0, .int .u64 0, .int .u64 0, .int .u64 0, .int .i64 0, .int .i64 0, .int .i64 0, .slice none 0 0] 30)) := (Ext.refl _).alloc _
 go_enter Tryz.func84, Tryz.ntmps84
 go_wp2_with fail
 refine (C1.out _).mono ?_; rintro e w1 ⟨rfl, h1⟩
 have hB1 := hB0.ext h1
 have hE1 := hE0.trans h1
 clear hB0 hE0 h1
 obtain ⟨xl, x0, x1, x2, x3, x4, x5, x6, x7, x8, xf0, xf1, xf2, xf3, xf4, xf5, xf6, xf7, xf8⟩ := hB1.cells9
 cases b1 with
 | false =>
  obtain rfl : G = _ := ite_off e1.out rfl
  go_wp2
  have hz := (hB1.set 0 (.string tb) (by simp)).put9 (.string ⟨#[]⟩) (.int .u64 0) (.int .u64 0) (.int .u64 0) (.int .u64 0) (.int .i64 0) (.int .i64 0) (.int .i64 0) (.slice none 0 0)
  obtain ⟨_, k0, k1, k2, k3, k4, k5, k6, k7, k8, _, _, _, _, _, _, _, _, _⟩ := hz.cells9
  refine bodyPost_ret (v := .tuple #[.agg #[.string ⟨#[]⟩, .int .u64 0, .int .u64 0, .int .u64 0, .int .u64 0, .int .i64 0, .int .i64 0, .int .i64 0, .slice none 0 0], .int .i64 0, .bool false]) (by simp [results, Tryz.results84, go_sem, k0, k1, k2, k3, k4, k5, k6, k7, k8]) rfl ?_
  exact ⟨GotXO.no _ _, Ext.cput9 (hE1.setCell (p := ⟨w.heap.size, 0, none⟩) (Nat.le_refl _) _) (Nat.le_refl _) _ _ _ _ _ _ _ _ _⟩
 | true =>
 obtain rfl : G = G2 := ite_on e1.out rfl
 have hts := hT.out (by trivial)
 go_wp2_with fail
 clear xl x0 xf0 x1 xf1 x2 xf2 x3 xf3 x4 xf4 x5 xf5 x6 xf6 x7 xf7 x8 xf8
 have hB2 : CB w.heap.size [.string tb, .int .u64 0, .int .u64 0, .int .u64 0, .int .u64 0, .int .i64 0, .int .i64 0, .int .i64 0, .slice none 0 0] _ := hB1.set 0 (.string tb) (by simp)
 have hE2 : Ext w _ := hE1.setCell (p := ⟨w.heap.size, 0, none⟩) (Nat.le_refl _) (.string tb)
 clear hB1 hE1
 generalize w1.setCell ⟨w.heap.size, 0, none⟩ (.string tb) = w2 at *
 refine (C2.out _).mono ?_; rintro e w3 ⟨rfl, h3⟩
 have hB3 := hB2.ext h3
 have hE3 := hE2.trans h3
 clear hB2 hE2 h3
 obtain ⟨xl, x0, x1, x2, x3, x4, x5, x6, x7, x8, xf0, xf1, xf2, xf3, xf4, xf5, xf6, xf7, xf8⟩ := hB3.cells9
 cases b2 with
 | false =>
  obtain rfl : G = _ := ite_off e2.out rfl
  go_wp2
  have hz := (((((hB3.set 1 (.int .u64 (D 0 : Nat)) (by simp)).set 2 (.int .u64 (D 1 : Nat)) (by simp)).set 3 (.int .u64 (D 2 : Nat)) (by simp)).set 4 (.int .u64 (D 3 : Nat)) (by simp))).put9 (.string ⟨#[]⟩) (.int .u64 0) (.int .u64 0) (.int .u64 0) (.int .u64 0) (.int .i64 0) (.int .i64 0) (.int .i64 0) (.slice none 0 0)
  obtain ⟨_, k0, k1, k2, k3, k4, k5, k6, k7, k8, _, _, _, _, _, _, _, _, _⟩ := hz.cells9
  refine bodyPost_ret (v := .tuple #[.agg #[.string ⟨#[]⟩, .int .u64 0, .int .u64 0, .int .u64 0, .int .u64 0, .int .i64 0, .int .i64 0, .int .i64 0, .slice none 0 0], .int .i64 0, .bool false]) (by simp [results, Tryz.results84, go_sem, k0, k1, k2, k3, k4, k5, k6, k7, k8]) rfl ?_
  exact ⟨GotXO.no _ _, Ext.cput9 (((((hE3.setCell (p := ⟨w.heap.size, 1, none⟩) (Nat.le_refl _) (.int .u64 (D 0 : Nat))).setCell (p := ⟨w.heap.size, 2, none⟩) (Nat.le_refl _) (.int .u64 (D 1 : Nat))).setCell (p := ⟨w.heap.size, 3, none⟩) (Nat.le_refl _) (.int .u64 (D 2 : Nat))).setCell (p := ⟨w.heap.size, 4, none⟩) (Nat.le_refl _) (.int .u64 (D 3 : Nat)))) (Nat.le_refl _) _ _ _ _ _ _ _ _ _⟩
 | true =>
 obtain rfl : G = G3 := ite_on e2.out rfl
 have hdo := hD.out (by trivial)
 go_wp2
 clear xl x0 xf0 x1 xf1 x2 xf2 x3 xf3 x4 xf4 x5 xf5 x6 xf6 x7 xf7 x8 xf8
 have hB4 : CB w.heap.size [.string tb, .int .u64 (D 0 : Nat), .int .u64 (D 1 : Nat), .int .u64 (D 2 : Nat), .int .u64 (D 3 : Nat), .int .i64 0, .int .i64 0, .int .i64 0, .slice none 0 0] _ := ((((hB3.set 1 (.int .u64 (D 0 : Nat)) (by simp)).set 2 (.int .u64 (D 1 : Nat)) (by simp)).set 3 (.int .u64 (D 2 : Nat)) (by simp)).set 4 (.int .u64 (D 3 : Nat)) (by simp))
 have hE4 : Ext w _ := ((((hE3.setCell (p := ⟨w.heap.size, 1, none⟩) (Nat.le_refl _) (.int .u64 (D 0 : Nat))).setCell (p := ⟨w.heap.size, 2, none⟩) (Nat.le_refl _) (.int .u64 (D 1 : Nat))).setCell (p := ⟨w.heap.size, 3, none⟩) (Nat.le_refl _) (.int .u64 (D 2 : Nat))).setCell (p := ⟨w.heap.size, 4, none⟩) (Nat.le_refl _) (.int .u64 (D 3 : Nat)))
 clear hB3 hE3
 have hs4 : ((((w3.setCell ⟨w.heap.size, 1, none⟩ (.int .u64 (D 0 : Nat))).setCell ⟨w.heap.size, 2, none⟩ (.int .u64 (D 1 : Nat))).setCell ⟨w.heap.size, 3, none⟩ (.int .u64 (D 2 : Nat))).setCell ⟨w.heap.size, 4, none⟩ (.int .u64 (D 3 : Nat))).heap.size = w3.heap.size := by simp
 generalize (((w3.setCell ⟨w.heap.size, 1, none⟩ (.int .u64 (D 0 : Nat))).setCell ⟨w.heap.size, 2, none⟩ (.int .u64 (D 1 : Nat))).setCell ⟨w.heap.size, 3, none⟩ (.int .u64 (D 2 : Nat))).setCell ⟨w.heap.size, 4, none⟩ (.int .u64 (D 3 : Nat)) = w4 at *
 have hN5 : CB w4.heap.size [.int .u64 0, .int .u64 0, .int .u64 0] _ := CB.new w4 #[.int .u64 0, .int .u64 0, .int .u64 0] 181
 have hal := (Ext.refl w4).alloc (.cells #[.int .u64 0, .int .u64 0, .int .u64 0] 181)
 have hB5 := hB4.ext hal
 have hE5 := hE4.trans hal
 have hlt := hB4.lt
 rw [hs4] at hN5 hlt
 clear hB4 hE4 hal hs4
 generalize w4.alloc (.cells #[.int .u64 0, .int .u64 0, .int .u64 0] 181) = w5 at *
 generalize w3.heap.size = nb at *
 have hnb : nb ≠ w.heap.size := by omega
 have hnl : w.heap.size ≤ nb := by omega
 refine wp_loop_rounds 4 ?_
 rw [rounds_succ]
 go_wp2_with fail
 refine (C3.out _).mono ?_; rintro e w6 ⟨rfl, h6⟩
 have hB6 := hB5.ext h6
 have hE6 := hE5.trans h6
 have hN6 := hN5.ext h6
 clear hB5 hE5 hN5 h6
 obtain ⟨xl, x0, x1, x2, x3, x4, x5, x6, x7, x8, xf0, xf1, xf2, xf3, xf4, xf5, xf6, xf7, xf8⟩ := hB6.cells9
 obtain ⟨yl, y0, y1, y2, yf0, yf1, yf2⟩ := hN6.cells3
 cases b3 with
 | false =>
  obtain rfl : G = _ := ite_off2 e3.out (Or.inl rfl)
  go_wp2
  have hz := (hB6.far (i := 0) hnb (.int .u64 (c : Nat))).put9 (.string ⟨#[]⟩) (.int .u64 0) (.int .u64 0) (.int .u64 0) (.int .u64 0) (.int .i64 0) (.int .i64 0) (.int .i64 0) (.slice none 0 0)
  obtain ⟨_, k0, k1, k2, k3, k4, k5, k6, k7, k8, _, _, _, _, _, _, _, _, _⟩ := hz.cells9
  refine bodyPost_ret (v := .tuple #[.agg #[.string ⟨#[]⟩, .int .u64 0, .int .u64 0, .int .u64 0, .int .u64 0, .int .i64 0, .int .i64 0, .int .i64 0, .slice none 0 0], .int .i64 0, .bool false]) (by simp [results, Tryz.results84, go_sem, k0, k1, k2, k3, k4, k5, k6, k7, k8]) rfl ?_
  exact ⟨GotXO.no _ _, Ext.cput9 (hE6.setCell (p := ⟨nb, 0, none⟩) hnl _) (Nat.le_refl _) _ _ _ _ _ _ _ _ _⟩
 | true =>
 by_cases hc0 : 100 < c
 ·obtain rfl : G = _ := ite_off2 e3.out (Or.inr hc0)
  go_wp2
  have hz := (hB6.far (i := 0) hnb (.int .u64 (c : Nat))).put9 (.string ⟨#[]⟩) (.int .u64 0) (.int .u64 0) (.int .u64 0) (.int .u64 0) (.int .i64 0) (.int .i64 0) (.int .i64 0) (.slice none 0 0)
  obtain ⟨_, k0, k1, k2, k3, k4, k5, k6, k7, k8, _, _, _, _, _, _, _, _, _⟩ := hz.cells9
  refine bodyPost_ret (v := .tuple #[.agg #[.string ⟨#[]⟩, .int .u64 0, .int .u64 0, .int .u64 0, .int .u64 0, .int .i64 0, .int .i64 0, .int .i64 0, .slice none 0 0], .int .i64 0, .bool false]) (by simp [results, Tryz.results84, go_sem, k0, k1, k2, k3, k4, k5, k6, k7, k8]) rfl ?_
  exact ⟨GotXO.no _ _, Ext.cput9 (hE6.setCell (p := ⟨nb, 0, none⟩) hnl _) (Nat.le_refl _) _ _ _ _ _ _ _ _ _⟩
 replace hc0 : c ≤ 100 := by omega
 obtain rfl : G = G4 := ite_on2 e3.out rfl hc0
 go_wp2
 clear xl x0 xf0 x1 xf1 x2 xf2 x3 xf3 x4 xf4 x5 xf5 x6 xf6 x7 xf7 x8 xf8
 clear yl y0 yf0 y1 yf1 y2 yf2
 have hB7 := hB6.far (i := 0) hnb (.int .u64 (c : Nat))
 have hE7 : Ext w _ := hE6.setCell (p := ⟨nb, 0, none⟩) hnl (.int .u64 (c : Nat))
 have hN7 : CB nb [.int .u64 (c : Nat), .int .u64 0, .int .u64 0] _ := hN6.set 0 (.int .u64 (c : Nat)) (by simp)
 clear hB6 hE6 hN6
 generalize w6.setCell ⟨nb, 0, none⟩ (.int .u64 (c : Nat)) = w7 at *
 rw [rounds_succ]
 go_wp2_with fail
 refine (C4.out _).mono ?_; rintro e w8 ⟨rfl, h8⟩
 have hB8 := hB7.ext h8
 have hE8 := hE7.trans h8
 have hN8 := hN7.ext h8
 clear hB7 hE7 hN7 h8
 obtain ⟨xl, x0, x1, x2, x3, x4, x5, x6, x7, x8, xf0, xf1, xf2, xf3, xf4, xf5, xf6, xf7, xf8⟩ := hB8.cells9
 obtain ⟨yl, y0, y1, y2, yf0, yf1, yf2⟩ := hN8.cells3
 cases b4 with
 | false =>
  obtain rfl : G = _ := ite_off2 e4.out (Or.inl rfl)
  go_wp2
  have hz := (hB8.far (i := 1) hnb (.int .u64 (m : Nat))).put9 (.string ⟨#[]⟩) (.int .u64 0) (.int .u64 0) (.int .u64 0) (.int .u64 0) (.int .i64 0) (.int .i64 0) (.int .i64 0) (.slice none 0 0)
  obtain ⟨_, k0, k1, k2, k3, k4, k5, k6, k7, k8, _, _, _, _, _, _, _, _, _⟩ := hz.cells9
  refine bodyPost_ret (v := .tuple #[.agg #[.string ⟨#[]⟩, .int .u64 0, .int .u64 0, .int .u64 0, .int .u64 0, .int .i64 0, .int .i64 0, .int .i64 0, .slice none 0 0], .int .i64 0, .bool false]) (by simp [results, Tryz.results84, go_sem, k0, k1, k2, k3, k4, k5, k6, k7, k8]) rfl ?_
  exact ⟨GotXO.no _ _, Ext.cput9 (hE8.setCell (p := ⟨nb, 1, none⟩) hnl _) (Nat.le_refl _) _ _ _ _ _ _ _ _ _⟩
 | true =>
 by_cases hc1 : 100 < m
 ·obtain rfl : G = _ := ite_off2 e4.out (Or.inr hc1)
  go_wp2
  have hz := (hB8.far (i := 1) hnb (.int .u64 (m : Nat))).put9 (.string ⟨#[]⟩) (.int .u64 0) (.int .u64 0) (.int .u64 0) (.int .u64 0) (.int .i64 0) (.int .i64 0) (.int .i64 0) (.slice none 0 0)
  obtain ⟨_, k0, k1, k2, k3, k4, k5, k6, k7, k8, _, _, _, _, _, _, _, _, _⟩ := hz.cells9
  refine bodyPost_ret (v := .tuple #[.agg #[.string ⟨#[]⟩, .int .u64 0, .int .u64 0, .int .u64 0, .int .u64 0, .int .i64 0, .int .i64 0, .int .i64 0, .slice none 0 0], .int .i64 0, .bool false]) (by simp [results, Tryz.results84, go_sem, k0, k1, k2, k3, k4, k5, k6, k7, k8]) rfl ?_
  exact ⟨GotXO.no _ _, Ext.cput9 (hE8.setCell (p := ⟨nb, 1, none⟩) hnl _) (Nat.le_refl _) _ _ _ _ _ _ _ _ _⟩
 replace hc1 : m ≤ 100 := by omega
 obtain rfl : G = G5 := ite_on2 e4.out rfl hc1
 go_wp2
 clear xl x0 xf0 x1 xf1 x2 xf2 x3 xf3 x4 xf4 x5 xf5 x6 xf6 x7 xf7 x8 xf8
 clear yl y0 yf0 y1 yf1 y2 yf2
 have hB9 := hB8.far (i := 1) hnb (.int .u64 (m : Nat))
 have hE9 : Ext w _ := hE8.setCell (p := ⟨nb, 1, none⟩) hnl (.int .u64 (m : Nat))
 have hN9 : CB nb [.int .u64 (c : Nat), .int .u64 (m : Nat), .int .u64 0] _ := hN8.set 1 (.int .u64 (m : Nat)) (by simp)
 clear hB8 hE8 hN8
 generalize w8.setCell ⟨nb, 1, none⟩ (.int .u64 (m : Nat)) = w9 at *
 rw [rounds_succ]
 go_wp2_with fail
 refine (C5.out _).mono ?_; rintro e w10 ⟨rfl, h10⟩
 have hB10 := hB9.ext h10
 have hE10 := hE9.trans h10
 have hN10 := hN9.ext h10
 clear hB9 hE9 hN9 h10
 obtain ⟨xl, x0, x1, x2, x3, x4, x5, x6, x7, x8, xf0, xf1, xf2, xf3, xf4, xf5, xf6, xf7, xf8⟩ := hB10.cells9
 obtain ⟨yl, y0, y1, y2, yf0, yf1, yf2⟩ := hN10.cells3
 cases b5 with
 | false =>
  obtain rfl : G = _ := ite_off2 e5.out (Or.inl rfl)
  go_wp2
  have hz := (hB10.far (i := 2) hnb (.int .u64 (k : Nat))).put9 (.string ⟨#[]⟩) (.int .u64 0) (.int .u64 0) (.int .u64 0) (.int .u64 0) (.int .i64 0) (.int .i64 0) (.int .i64 0) (.slice none 0 0)
  obtain ⟨_, k0, k1, k2, k3, k4, k5, k6, k7, k8, _, _, _, _, _, _, _, _, _⟩ := hz.cells9
  refine bodyPost_ret (v := .tuple #[.agg #[.string ⟨#[]⟩, .int .u64 0, .int .u64 0, .int .u64 0, .int .u64 0, .int .i64 0, .int .i64 0, .int .i64 0, .slice none 0 0], .int .i64 0, .bool false]) (by simp [results, Tryz.results84, go_sem, k0, k1, k2, k3, k4, k5, k6, k7, k8]) rfl ?_
  exact ⟨GotXO.no _ _, Ext.cput9 (hE10.setCell (p := ⟨nb, 2, none⟩) hnl _) (Nat.le_refl _) _ _ _ _ _ _ _ _ _⟩
 | true =>
 by_cases hc2 : 100 < k
 ·obtain rfl : G = _ := ite_off2 e5.out (Or.inr hc2)
  go_wp2
  have hz := (hB10.far (i := 2) hnb (.int .u64 (k : Nat))).put9 (.string ⟨#[]⟩) (.int .u64 0) (.int .u64 0) (.int .u64 0) (.int .u64 0) (.int .i64 0) (.int .i64 0) (.int .i64 0) (.slice none 0 0)
  obtain ⟨_, k0, k1, k2, k3, k4, k5, k6, k7, k8, _, _, _, _, _, _, _, _, _⟩ := hz.cells9
  refine bodyPost_ret (v := .tuple #[.agg #[.string ⟨#[]⟩, .int .u64 0, .int .u64 0, .int .u64 0, .int .u64 0, .int .i64 0, .int .i64 0, .int .i64 0, .slice none 0 0], .int .i64 0, .bool false]) (by simp [results, Tryz.results84, go_sem, k0, k1, k2, k3, k4, k5, k6, k7, k8]) rfl ?_
  exact ⟨GotXO.no _ _, Ext.cput9 (hE10.setCell (p := ⟨nb, 2, none⟩) hnl _) (Nat.le_refl _) _ _ _ _ _ _ _ _ _⟩
 replace hc2 : k ≤ 100 := by omega
 obtain rfl : G = G6 := ite_on2 e5.out rfl hc2
 go_wp2
 clear xl x0 xf0 x1 xf1 x2 xf2 x3 xf3 x4 xf4 x5 xf5 x6 xf6 x7 xf7 x8 xf8
 clear yl y0 yf0 y1 yf1 y2 yf2
 have hB11 := hB10.far (i := 2) hnb (.int .u64 (k : Nat))
 have hE11 : Ext w _ := hE10.setCell (p := ⟨nb, 2, none⟩) hnl (.int .u64 (k : Nat))
 have hN11 : CB nb [.int .u64 (c : Nat), .int .u64 (m : Nat), .int .u64 (k : Nat)] _ := hN10.set 2 (.int .u64 (k : Nat)) (by simp)
 clear hB10 hE10 hN10
 generalize w10.setCell ⟨nb, 2, none⟩ (.int .u64 (k : Nat)) = w11 at *
 rw [rounds_succ]
 obtain ⟨xl, x0, x1, x2, x3, x4, x5, x6, x7, x8, xf0, xf1, xf2, xf3, xf4, xf5, xf6, xf7, xf8⟩ := hB11.cells9
 obtain ⟨yl, y0, y1, y2, yf0, yf1, yf2⟩ := hN11.cells3
 go_wp2_with fail
 have HI := hN11.c3
 clear xl x0 xf0 x1 xf1 x2 xf2 x3 xf3 x4 xf4 x5 xf5 x6 xf6 x7 xf7 x8 xf8
 clear yl y0 yf0 y1 yf1 y2 yf2
 try simp only [Act.put, List.setIfInBounds_toArray, List.set_cons_succ, List.set_cons_zero]
 refine Dm.wp_region_fin (I := (Cel3 nb (.int .u64 (c : Nat)) (.int .u64 (m : Nat)) (.int .u64 (k : Nat)))) (z := 14) 15 (Dm.bits 15 0) (by kernel_rfl) (by kernel_rfl) (by kernel_rfl) ?_
 refine Dm.wpF_take (i := 0) (listed' := (Dm.bits 15 1)) (fun _ _ h hx => h.ext hx) HI (by kernel_rfl) (by kernel_rfl) rfl (fun _ _ _ _ h => h) ?_; apply Exists.intro; refine And.intro (fun wq hwq => ?_) ?_
 ·obtain ⟨yl, y0, y1, y2⟩ := hwq; go_big_quiet_step (fail); exact wpQuiet_nil rfl
 refine Dm.wpF_take (i := 1) (listed' := (Dm.bits 15 3)) (fun _ _ h hx => h.ext hx) HI (by kernel_rfl) (by kernel_rfl) rfl (fun _ _ _ _ h => h) ?_; apply Exists.intro; refine And.intro (fun wq hwq => ?_) ?_
 ·obtain ⟨yl, y0, y1, y2⟩ := hwq; go_big_quiet_step (fail); exact wpQuiet_nil rfl
 refine Dm.wpF_take (i := 2) (listed' := (Dm.bits 15 7)) (fun _ _ h hx => h.ext hx) HI (by kernel_rfl) (by kernel_rfl) rfl (fun _ _ _ _ h => h) ?_; apply Exists.intro; refine And.intro (fun wq hwq => ?_) ?_
 ·obtain ⟨yl, y0, y1, y2⟩ := hwq; go_big_quiet_step (fail); exact wpQuiet_nil rfl
 refine Dm.wpF_take (i := 3) (listed' := (Dm.bits 15 15)) (fun _ _ h hx => h.ext hx) HI (by kernel_rfl) (by kernel_rfl) rfl (fun _ _ _ _ h => h) ?_; apply Exists.intro; refine And.intro (fun wq hwq => ?_) ?_
 ·obtain ⟨yl, y0, y1, y2⟩ := hwq; go_big_quiet_step (fail); exact wpQuiet_nil rfl
 refine Dm.wpF_take (i := 4) (listed' := (Dm.bits 15 31)) (fun _ _ h hx => h.ext hx) HI (by kernel_rfl) (by kernel_rfl) rfl (fun _ _ _ _ h => h) ?_; apply Exists.intro; refine And.intro (fun wq hwq => ?_) ?_
 ·obtain ⟨yl, y0, y1, y2⟩ := hwq; go_big_quiet_step (fail); exact wpQuiet_nil rfl
 refine Dm.wpF_take (i := 5) (listed' := (Dm.bits 15 63)) (fun _ _ h hx => h.ext hx) HI (by kernel_rfl) (by kernel_rfl) rfl (fun _ _ _ _ h => h) ?_; apply Exists.intro; refine And.intro (fun wq hwq => ?_) ?_
 ·obtain ⟨yl, y0, y1, y2⟩ := hwq; go_big_quiet_step (fail); exact wpQuiet_nil rfl
 refine Dm.wpF_take (i := 6) (listed' := (Dm.bits 15 127)) (fun _ _ h hx => h.ext hx) HI (by kernel_rfl) (by kernel_rfl) rfl (fun _ _ _ _ h => h) ?_; apply Exists.intro; refine And.intro (fun wq hwq => ?_) ?_
 ·obtain ⟨yl, y0, y1, y2⟩ := hwq; go_big_quiet_step (fail); exact wpQuiet_nil rfl
 refine Dm.wpF_take (i := 7) (listed' := (Dm.bits 15 255)) (fun _ _ h hx => h.ext hx) HI (by kernel_rfl) (by kernel_rfl) rfl (fun _ _ _ _ h => h) ?_; apply Exists.intro; refine And.intro (fun wq hwq => ?_) ?_
 ·obtain ⟨yl, y0, y1, y2⟩ := hwq; go_big_quiet_step (fail); exact wpQuiet_nil rfl
 refine Dm.wpF_take (i := 8) (listed' := (Dm.bits 15 511)) (fun _ _ h hx => h.ext hx) HI (by kernel_rfl) (by kernel_rfl) rfl (fun _ _ _ _ h => h) ?_; apply Exists.intro; refine And.intro (fun wq hwq => ?_) ?_
 ·obtain ⟨yl, y0, y1, y2⟩ := hwq; go_big_quiet_step (fail); exact wpQuiet_nil rfl
 refine Dm.wpF_take (i := 9) (listed' := (Dm.bits 15 1023)) (fun _ _ h hx => h.ext hx) HI (by kernel_rfl) (by kernel_rfl) rfl (fun _ _ _ _ h => h) ?_; apply Exists.intro; refine And.intro (fun wq hwq => ?_) ?_
 ·obtain ⟨yl, y0, y1, y2⟩ := hwq; go_big_quiet_step (fail); exact wpQuiet_nil rfl
 refine Dm.wpF_one (i := 10) (listed' := (Dm.bits 15 2047)) (by kernel_rfl) (by kernel_rfl) rfl (fun wm10 hxm10 => ?_)
 have hBa := hB11.ext hxm10
 have hNa := (hN11.ext hxm10).far (i := 5) hnb.symm (.int .i64 (c : Nat))
 have hEa : Ext w _ := (hE11.trans hxm10).setCell (p := ⟨w.heap.size, 5, none⟩) (Nat.le_refl _) (.int .i64 (c : Nat))
 obtain ⟨xl, x0, x1, x2, x3, x4, x5, x6, x7, x8, xf0, xf1, xf2, xf3, xf4, xf5, xf6, xf7, xf8⟩ := hBa.cells9
 go_wp2_with fail
 clear xl x0 xf0 x1 xf1 x2 xf2 x3 xf3 x4 xf4 x5 xf5 x6 xf6 x7 xf7 x8 xf8
 have hBn0 : CB w.heap.size [.string tb, .int .u64 (D 0 : Nat), .int .u64 (D 1 : Nat), .int .u64 (D 2 : Nat), .int .u64 (D 3 : Nat), .int .i64 (c : Nat), .int .i64 0, .int .i64 0, .slice none 0 0] _ := hBa.set 5 (.int .i64 (c : Nat)) (by simp)
 generalize wm10.setCell ⟨w.heap.size, 5, none⟩ (.int .i64 (c : Nat)) = wq0 at *
 refine ⟨(by first | exact hNa.c3 | exact fun _ => hNa.c3), ?_⟩
 replace HI := hNa.c3
 clear hB11 hE11 hN11 hBa
 have hNn0 := hNa
 have hEn0 := hEa
 clear hNa hEa
 try simp only [Act.put, List.setIfInBounds_toArray, List.set_cons_succ, List.set_cons_zero]
 refine Dm.wpF_take (i := 11) (listed' := (Dm.bits 15 4095)) (fun _ _ h hx => h.ext hx) HI (by kernel_rfl) (by kernel_rfl) rfl (fun _ _ _ _ h => h) ?_; apply Exists.intro; refine And.intro (fun wq hwq => ?_) ?_
 ·obtain ⟨yl, y0, y1, y2⟩ := hwq; go_big_quiet_step (fail); exact wpQuiet_nil rfl
 refine Dm.wpF_one (i := 12) (listed' := (Dm.bits 15 8191)) (by kernel_rfl) (by kernel_rfl) rfl (fun wm12 hxm12 => ?_)
 have hBa := hBn0.ext hxm12
 have hNa := (hNn0.ext hxm12).far (i := 6) hnb.symm (.int .i64 (m : Nat))
 have hEa : Ext w _ := (hEn0.trans hxm12).setCell (p := ⟨w.heap.size, 6, none⟩) (Nat.le_refl _) (.int .i64 (m : Nat))
 obtain ⟨xl, x0, x1, x2, x3, x4, x5, x6, x7, x8, xf0, xf1, xf2, xf3, xf4, xf5, xf6, xf7, xf8⟩ := hBa.cells9
 go_wp2_with fail
 clear xl x0 xf0 x1 xf1 x2 xf2 x3 xf3 x4 xf4 x5 xf5 x6 xf6 x7 xf7 x8 xf8
 have hBn1 : CB w.heap.size [.string tb, .int .u64 (D 0 : Nat), .int .u64 (D 1 : Nat), .int .u64 (D 2 : Nat), .int .u64 (D 3 : Nat), .int .i64 (c : Nat), .int .i64 (m : Nat), .int .i64 0, .slice none 0 0] _ := hBa.set 6 (.int .i64 (m : Nat)) (by simp)
 generalize wm12.setCell ⟨w.heap.size, 6, none⟩ (.int .i64 (m : Nat)) = wq1 at *
 refine ⟨(by first | exact hNa.c3 | exact fun _ => hNa.c3), ?_⟩
 replace HI := hNa.c3
 clear hBn0 hEn0 hNn0 hBa
 have hNn1 := hNa
 have hEn1 := hEa
 clear hNa hEa
 try simp only [Act.put, List.setIfInBounds_toArray, List.set_cons_succ, List.set_cons_zero]
 refine Dm.wpF_take (i := 13) (listed' := (Dm.bits 15 16383)) (fun _ _ h hx => h.ext hx) HI (by kernel_rfl) (by kernel_rfl) rfl (fun _ _ _ _ h => h) ?_; apply Exists.intro; refine And.intro (fun wq hwq => ?_) ?_
 ·obtain ⟨yl, y0, y1, y2⟩ := hwq; go_big_quiet_step (fail); exact wpQuiet_nil rfl
 refine Dm.wpF_one (i := 14) (listed' := (Dm.bits 15 32767)) (by kernel_rfl) (by kernel_rfl) rfl (fun wz hxz => ?_)
 have hBa := hBn1.ext hxz
 obtain ⟨xl, x0, x1, x2, x3, x4, x5, x6, x7, x8, xf0, xf1, xf2, xf3, xf4, xf5, xf6, xf7, xf8⟩ := hBa.cells9
 go_wp2_with fail
 first | refine ⟨fun h => absurd rfl h, ?_⟩ | skip
 refine Dm.wpF_done (by kernel_rfl) (fun wy hxy => ?_)
 clear xl x0 xf0 x1 xf1 x2 xf2 x3 xf3 x4 xf4 x5 xf5 x6 xf6 x7 xf7 x8 xf8
 have hBz : CB w.heap.size [.string tb, .int .u64 (D 0 : Nat), .int .u64 (D 1 : Nat), .int .u64 (D 2 : Nat), .int .u64 (D 3 : Nat), .int .i64 (c : Nat), .int .i64 (m : Nat), .int .i64 (k : Nat), .slice none 0 0] wy := (hBa.set 7 (.int .i64 (k : Nat)) (by simp)).ext hxy
 have hEz : Ext w wy := Ext.trans ((hEn1.trans hxz).setCell (p := ⟨w.heap.size, 7, none⟩) (Nat.le_refl _) (.int .i64 (k : Nat))) hxy
 clear hBn1 hEn1 hNn1 hBa HI hxz hxy
 go_wp2_with fail
 refine (C6.out _ hEz).mono ?_; rintro e wr ⟨v, R, n6, bb, rfl, hx6, hf6, hl6, ⟨T', hT', hat⟩, hown, hr⟩
 obtain ⟨qv, capv, rfl, _, _⟩ := hx6.shape
 injection hat with ea hat
 injection hat with eb ec
 subst ea eb ec
 have hBr := hBz.ext hr
 have hEr := hEz.trans hr
 have hlt := hBz.lt
 clear hBz hEz hr
 obtain ⟨xl, x0, x1, x2, x3, x4, x5, x6, x7, x8, xf0, xf1, xf2, xf3, xf4, xf5, xf6, xf7, xf8⟩ := hBr.cells9
 cases b6 with
 | false =>
  obtain rfl : G = _ := ite_off e6.out rfl
  go_wp2
  have hz := (hBr.set 8 (.slice qv R.length capv) (by simp)).put9 (.string ⟨#[]⟩) (.int .u64 0) (.int .u64 0) (.int .u64 0) (.int .u64 0) (.int .i64 0) (.int .i64 0) (.int .i64 0) (.slice none 0 0)
  obtain ⟨_, k0, k1, k2, k3, k4, k5, k6, k7, k8, _, _, _, _, _, _, _, _, _⟩ := hz.cells9
  refine bodyPost_ret (v := .tuple #[.agg #[.string ⟨#[]⟩, .int .u64 0, .int .u64 0, .int .u64 0, .int .u64 0, .int .i64 0, .int .i64 0, .int .i64 0, .slice none 0 0], .int .i64 0, .bool false]) (by simp [results, Tryz.results84, go_sem, k0, k1, k2, k3, k4, k5, k6, k7, k8]) rfl ?_
  exact ⟨GotXO.no _ _, Ext.cput9 (hEr.setCell (p := ⟨w.heap.size, 8, none⟩) (Nat.le_refl _) _) (Nat.le_refl _) _ _ _ _ _ _ _ _ _⟩
 | true =>
 have e7 := ite_on e6.out rfl
 go_wp2_with fail
 clear xl x0 xf0 x1 xf1 x2 xf2 x3 xf3 x4 xf4 x5 xf5 x6 xf6 x7 xf7 x8 xf8
 have hBs : CB w.heap.size [.string tb, .int .u64 (D 0 : Nat), .int .u64 (D 1 : Nat), .int .u64 (D 2 : Nat), .int .u64 (D 3 : Nat), .int .i64 (c : Nat), .int .i64 (m : Nat), .int .i64 (k : Nat), .slice qv R.length capv] _ := hBr.set 8 (.slice qv R.length capv) (by simp)
 have hEs : Ext w _ := hEr.setCell (p := ⟨w.heap.size, 8, none⟩) (Nat.le_refl _) (.slice qv R.length capv)
 have hxs := hx6.set hown hlt (i := 8) (.slice qv R.length capv)
 clear hBr hEr hx6
 generalize wr.setCell ⟨w.heap.size, 8, none⟩ (.slice qv R.length capv) = ws at *
 have C7 := hK.out hdo hts ((c : Int), (m : Int), (k : Int)) (.slice qv R.length capv) R ws hEs hl6 hf6 hxs
 rw [hT'] at C7
 rw [hDe] at C7
 unfold spVal at C7
 by_cases hck : chkX (tb, d, ((c : Int), (m : Int), (k : Int)), T6.map mkT) = 0
 ·rw [if_pos hck] at e7
  rw [hck] at C7
  subst e7
  replace C7 := Lib.hid C7
  obtain ⟨xl, x0, x1, x2, x3, x4, x5, x6, x7, x8, xf0, xf1, xf2, xf3, xf4, xf5, xf6, xf7, xf8⟩ := hBs.cells9
  refine C7.out.mono ?_; rintro e wt ⟨rfl, ht7⟩
  clear xl x0 xf0 x1 xf1 x2 xf2 x3 xf3 x4 xf4 x5 xf5 x6 xf6 x7 xf7 x8 xf8
  have hBt := hBs.ext ht7
  have hEt := hEs.trans ht7
  have hxt := hxs.ext ht7
  clear hBs hEs hxs C7
  obtain ⟨xl, x0, x1, x2, x3, x4, x5, x6, x7, x8, xf0, xf1, xf2, xf3, xf4, xf5, xf6, xf7, xf8⟩ := hBt.cells9
  go_wp2
  clear xl x0 xf0 x1 xf1 x2 xf2 x3 xf3 x4 xf4 x5 xf5 x6 xf6 x7 xf7 x8 xf8
  have hz := hBt.put9 (.string tb) (.int .u64 (D 0 : Nat)) (.int .u64 (D 1 : Nat)) (.int .u64 (D 2 : Nat)) (.int .u64 (D 3 : Nat)) (.int .i64 (c : Nat)) (.int .i64 (m : Nat)) (.int .i64 (k : Nat)) (.slice qv R.length capv)
  obtain ⟨_, k0, k1, k2, k3, k4, k5, k6, k7, k8, _, _, _, _, _, _, _, _, _⟩ := hz.cells9
  refine bodyPost_ret (v := .tuple #[.agg #[.string tb, .int .u64 (D 0 : Nat), .int .u64 (D 1 : Nat), .int .u64 (D 2 : Nat), .int .u64 (D 3 : Nat), .int .i64 (c : Nat), .int .i64 (m : Nat), .int .i64 (k : Nat), .slice qv R.length capv], .int .i64 q6, .bool true]) (by simp [results, Tryz.results84, go_sem, k0, k1, k2, k3, k4, k5, k6, k7, k8]) rfl ?_
  refine ⟨⟨_, R, by rw [hDe]; rfl, ?_, hf6, hl6, hT', hdo, hown.le (by omega)⟩, Ext.cput9 hEt (Nat.le_refl _) _ _ _ _ _ _ _ _ _⟩
  exact ((((((((hxt.set hown hlt _).set hown hlt _).set hown hlt _).set hown hlt _).set hown hlt _).set hown hlt _).set hown hlt _).set hown hlt _).set hown hlt _
 ·rw [if_neg hck] at e7
  generalize chkX (tb, d, ((c : Int), (m : Int), (k : Int)), T6.map mkT) = K at *
  have hKz : ¬ ((K : Int) = 0) := by omega
  subst e7
  replace C7 := Lib.hid C7
  obtain ⟨xl, x0, x1, x2, x3, x4, x5, x6, x7, x8, xf0, xf1, xf2, xf3, xf4, xf5, xf6, xf7, xf8⟩ := hBs.cells9
  refine C7.out.mono ?_; rintro e wt ⟨rfl, ht7⟩
  clear xl x0 xf0 x1 xf1 x2 xf2 x3 xf3 x4 xf4 x5 xf5 x6 xf6 x7 xf7 x8 xf8
  have hBt := hBs.ext ht7
  have hEt := hEs.trans ht7
  clear hBs hEs hxs C7
  obtain ⟨xl, x0, x1, x2, x3, x4, x5, x6, x7, x8, xf0, xf1, xf2, xf3, xf4, xf5, xf6, xf7, xf8⟩ := hBt.cells9
  go_wp2
  have hz := (hBt).put9 (.string ⟨#[]⟩) (.int .u64 0) (.int .u64 0) (.int .u64 0) (.int .u64 0) (.int .i64 0) (.int .i64 0) (.int .i64 0) (.slice none 0 0)
  obtain ⟨_, k0, k1, k2, k3, k4, k5, k6, k7, k8, _, _, _, _, _, _, _, _, _⟩ := hz.cells9
  refine bodyPost_ret (v := .tuple #[.agg #[.string ⟨#[]⟩, .int .u64 0, .int .u64 0, .int .u64 0, .int .u64 0, .int .i64 0, .int .i64 0, .int .i64 0, .slice none 0 0], .int .i64 0, .bool false]) (by simp [results, Tryz.results84, go_sem, k0, k1, k2, k3, k4, k5, k6, k7, k8]) rfl ?_
  exact ⟨GotXO.no _ _, Ext.cput9 (hEt) (Nat.le_refl _) _ _ _ _ _ _ _ _ _⟩
end Go.Proofs.YtefjdmjkofaajaaGreatDoor
