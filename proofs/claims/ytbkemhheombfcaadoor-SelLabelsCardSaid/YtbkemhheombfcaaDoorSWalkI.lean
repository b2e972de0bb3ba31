/- Chapter 5: the walk of a term of a text. -/
import Derived.Test.YtbkemhheombfcaaDoorSWalkH
namespace Go.Dm
open Go Go.RowKit
theorem cellAt_ne {b i j : Nat} (h : i ≠ j) : (⟨b, i, none⟩ : Addr) ≠ ⟨b, j, none⟩ := by intro e; injection e with _ e; exact h e
theorem cell_set_ne {w : World} {b i j : Nat} {u v : Value} (h : w.cell? ⟨b, j, none⟩ = some v) (hij : i ≠ j) : (w.setCell ⟨b, i, none⟩ u).cell? ⟨b, j, none⟩ = some v := by
  have hne := cellAt_ne (b := b) hij
  first
    | (rw [World.cell?_setCell_other _ _ _ hne]; exact h)
    | (rw [World.cell?_setCell_other _ _ _ _ hne]; exact h)
    | (rw [World.cell?_setCell_other (h := hne)]; exact h)
theorem cell_set_eq {w : World} {b i : Nat} {u v : Value} (h : w.cell? ⟨b, i, none⟩ = some v) : (w.setCell ⟨b, i, none⟩ u).cell? ⟨b, i, none⟩ = some u := by
  first
    | exact World.cell?_setCell_same _ _ _ h
    | exact World.cell?_setCell_same _ _ h
theorem cell_set_far {w : World} {b c i j : Nat} {u v : Value} (h : w.cell? ⟨b, j, none⟩ = some v) (hbc : c ≠ b) : (w.setCell ⟨c, i, none⟩ u).cell? ⟨b, j, none⟩ = some v := by
  have hne : (⟨c, i, none⟩ : Addr) ≠ ⟨b, j, none⟩ := by intro e; injection e with e; exact hbc e
  first
    | (rw [World.cell?_setCell_other _ _ _ hne]; exact h)
    | (rw [World.cell?_setCell_other _ _ _ _ hne]; exact h)
    | (rw [World.cell?_setCell_other (h := hne)]; exact h)

/-- A variable of three cells. -/
structure Cell3 (b : Nat) (x y z : Value) (w : World) : Prop where
  lt : b < w.heap.size
  c0 : w.cell? ⟨b, 0, none⟩ = some x
  c1 : w.cell? ⟨b, 1, none⟩ = some y
  c2 : w.cell? ⟨b, 2, none⟩ = some z
  f0 : w.frozen? ⟨b, 0, none⟩ = false
  f1 : w.frozen? ⟨b, 1, none⟩ = false
  f2 : w.frozen? ⟨b, 2, none⟩ = false
theorem Cell3.ext {b : Nat} {x y z : Value} {w w' : World} (h : Cell3 b x y z w) (hx : Ext w w') : Cell3 b x y z w' :=
  ⟨Nat.lt_of_lt_of_le h.lt hx.size, by rw [hx.cell (by exact h.lt)]; exact h.c0, by rw [hx.cell (by exact h.lt)]; exact h.c1, by rw [hx.cell (by exact h.lt)]; exact h.c2,
    by rw [hx.frozen (by exact h.lt)]; exact h.f0, by rw [hx.frozen (by exact h.lt)]; exact h.f1, by rw [hx.frozen (by exact h.lt)]; exact h.f2⟩
theorem Cell3.set0 {b : Nat} {x y z : Value} {w : World} (h : Cell3 b x y z w) (u : Value) : Cell3 b u y z (w.setCell ⟨b, 0, none⟩ u) :=
  ⟨by rw [World.size_setCell]; exact h.lt, cell_set_eq h.c0, cell_set_ne h.c1 (by decide), cell_set_ne h.c2 (by decide), by rw [World.frozen?_setCell]; exact h.f0, by rw [World.frozen?_setCell]; exact h.f1, by rw [World.frozen?_setCell]; exact h.f2⟩
theorem Cell3.set1 {b : Nat} {x y z : Value} {w : World} (h : Cell3 b x y z w) (u : Value) : Cell3 b x u z (w.setCell ⟨b, 1, none⟩ u) :=
  ⟨by rw [World.size_setCell]; exact h.lt, cell_set_ne h.c0 (by decide), cell_set_eq h.c1, cell_set_ne h.c2 (by decide), by rw [World.frozen?_setCell]; exact h.f0, by rw [World.frozen?_setCell]; exact h.f1, by rw [World.frozen?_setCell]; exact h.f2⟩
theorem Cell3.set2 {b : Nat} {x y z : Value} {w : World} (h : Cell3 b x y z w) (u : Value) : Cell3 b x y u (w.setCell ⟨b, 2, none⟩ u) :=
  ⟨by rw [World.size_setCell]; exact h.lt, cell_set_ne h.c0 (by decide), cell_set_ne h.c1 (by decide), cell_set_eq h.c2, by rw [World.frozen?_setCell]; exact h.f0, by rw [World.frozen?_setCell]; exact h.f1, by rw [World.frozen?_setCell]; exact h.f2⟩
theorem Cell3.far {b c i : Nat} {x y z : Value} {w : World} (h : Cell3 b x y z w) (hc : c ≠ b) (u : Value) : Cell3 b x y z (w.setCell ⟨c, i, none⟩ u) :=
  ⟨by rw [World.size_setCell]; exact h.lt, cell_set_far h.c0 hc, cell_set_far h.c1 hc, cell_set_far h.c2 hc, by rw [World.frozen?_setCell]; exact h.f0, by rw [World.frozen?_setCell]; exact h.f1, by rw [World.frozen?_setCell]; exact h.f2⟩
theorem Cell3.new (w : World) (x y z : Value) (t : TypeId) : Cell3 w.heap.size x y z (w.alloc (.cells #[x, y, z] t)) :=
  ⟨by simp, by simp, by simp, by simp, by simp, by simp, by simp⟩
/-- All three written. -/
theorem Cell3.put {b : Nat} {x y z : Value} {w : World} (h : Cell3 b x y z w) (u v q : Value) : Cell3 b u v q (((w.setCell ⟨b, 0, none⟩ u).setCell ⟨b, 1, none⟩ v).setCell ⟨b, 2, none⟩ q) := ((h.set0 u).set1 v).set2 q
theorem Sl.far {w : World} {sz b off n cap c i : Nat} {cs : List Value} (h : Sl w sz (.slice (some ⟨b, off, none⟩) n cap) n cs) (hc : c ≠ b) (u : Value) : Sl (w.setCell ⟨c, i, none⟩ u) sz (.slice (some ⟨b, off, none⟩) n cap) n cs := by
  obtain ⟨hl, p, cap', hv, hn, hm, hz, h⟩ := h
  injection hv with e1 _ e2
  subst e1 e2
  refine ⟨hl, _, _, rfl, hn, hm, hz, ?_⟩
  rcases h with h | ⟨b', off', hp, hlt, h⟩
  · exact Or.inl h
  · injection hp with hp; injection hp with hp1 hp2
    subst hp1 hp2
    exact Or.inr ⟨b, off, rfl, by rw [World.size_setCell]; exact hlt, fun j u' hj => cell_set_far (h j u' hj) hc⟩
theorem below_put3 {B b : Nat} {w w' : World} (h : Below B w w') (hb : B ≤ b) (u v q : Value) : Below B w (((w'.setCell ⟨b, 0, none⟩ u).setCell ⟨b, 1, none⟩ v).setCell ⟨b, 2, none⟩ q) :=
  ((h.setCell (p := ⟨b, 0, none⟩) hb u).setCell (p := ⟨b, 1, none⟩) hb v).setCell (p := ⟨b, 2, none⟩) hb q
end Go.Dm
namespace Go.Proofs.YtbkemhheombfcaaDoor
open Go.RowKit Go.Dm

/-- Texts cut at a byte. -/
theorem split_w (x : ByteArray) (c : UInt8) (w : World) (hs : x.size < 4294967281) (ht : Vars w) :
    Calls Tryd.prog 62 #[.string x, .string ⟨#[c]⟩] w fun e w' => ∃ vs : List ByteArray, e = .returned (.slice (some ⟨w.heap.size, 0, none⟩) vs.length vs.length) ∧ Strs w' (.slice (some ⟨w.heap.size, 0, none⟩) vs.length vs.length) vs ∧ bytesOf vs = splitC c x.data.toList ∧ vs.length ≤ 4294967281 ∧ Ext w w' := by
  obtain ⟨m, hm⟩ := ht.most
  have hlen := splitB_bytesC x c
  have hall := Lib.splitB_all ⟨#[c]⟩ (by simp [ByteArray.size]) 0 (Lib.countB x ⟨#[c]⟩) x rfl
  have hcl : Lib.countB x ⟨#[c]⟩ ≤ x.size := Lib.countB_le ⟨#[c]⟩ (by simp [ByteArray.size]) x.size x (Nat.le_refl _)
  have C := Tryd.strings_Split x ⟨#[c]⟩ m w hs hm (by simp [ByteArray.size])
  rw [← hall] at C
  generalize hss : Lib.splitB ⟨#[c]⟩ 0 (Lib.countB x ⟨#[c]⟩) x = ss at C hlen hall
  have hl : ss.length ≤ 4294967281 := by omega
  have hal : Ext w (w.alloc (.cells (ss.map Value.string).toArray 9)) := (Ext.refl w).alloc _
  have hx : Strs (w.alloc (.cells (ss.map Value.string).toArray 9)) (.slice (some ⟨w.heap.size, 0, none⟩) ss.length ss.length) ss := by
    have := Sl.lit w 9 1 ss.length (ss.map Value.string).toArray (by simp) (by simp [maxLen]; omega)
    simpa [Strs] using this
  refine C.mono ?_; rintro e w1 ⟨rfl, rfl⟩
  exact ⟨ss, rfl, hx, hlen, hl, hal⟩
/-- A text cut in two. -/
theorem cut_w (x : ByteArray) (c : UInt8) (w : World) (hs : x.size < 4294967281) (ht : Vars w) :
    Calls Tryd.prog 63 #[.string x, .string ⟨#[c]⟩] w fun e w' => e = .returned (.tuple #[.string ⟨(cutC c x.data.toList).1.toArray⟩, .string ⟨(cutC c x.data.toList).2.1.toArray⟩, .bool (cutC c x.data.toList).2.2]) ∧ Ext w w' := by
  obtain ⟨m, hm⟩ := ht.most
  have C := Tryd.strings_Cut x ⟨#[c]⟩ m w (by omega) hm
  rw [show (⟨#[c]⟩ : ByteArray).data.toList = [c] from rfl, cut_eqC] at C
  refine C.mono ?_; rintro e w2 ⟨he, n, hw2⟩
  refine ⟨he, ?_⟩
  rw [hw2]
  exact (Below.refl _ _).trans ⟨rfl, rfl, rfl, Nat.le_refl _, fun _ _ => rfl⟩

set_option maxHeartbeats 1000000 in
set_option maxRecDepth 100000 in
theorem termof_w (x : ByteArray) (w : World) (hs : x.size < 4294967281) (ht : Vars w) :
    Calls Tryd.prog 76 #[.string x] w fun e w' => ∃ r : RowS, e = .returned (.agg #[.string r.1, .bool r.2.1, r.2.2.1]) ∧ rowT r = mkT (termL x.data.toList) ∧ Strs w' r.2.2.1 r.2.2.2 ∧ (∀ b, r.2.2.1.ownBlock = some b → w.heap.size ≤ b) ∧ Ext w w' := by
  have hW : Ext w (w.alloc (.cells #[.string ⟨#[]⟩, .bool false, .slice none 0 0] 57)) := (Ext.refl _).alloc _
  have C := cutprefix_w x (w.alloc (.cells #[.string ⟨#[]⟩, .bool false, .slice none 0 0] 57)) (by omega)
  have K0 := Cell3.new w (.string ⟨#[]⟩) (.bool false) (.slice none 0 0) 57
  cases hp : pre33 x with
  | true =>
    have hz := Lib.hid (termL_pre hp)
    rw [hp, if_pos rfl] at C
    clear hp
    generalize (⟨(x.data.toList.drop 1).toArray⟩ : ByteArray) = y at *
    go_enter Tryd.func76, Tryd.ntmps76
    go_wp2_with fail
    refine C.mono ?_; rintro e w1 ⟨rfl, h1⟩
    have K1 := (K0.ext h1).put (.string y) (.bool true) (.slice none 0 0)
    have hB := below_put3 (hW.trans h1) (Nat.le_refl _) (.string y) (.bool true) (.slice none 0 0)
    obtain ⟨q1, q2, q3, q4, q5, q6, q7⟩ := K0.ext h1
    go_wp2
    obtain ⟨_, k0, k1, k2, _, _, _⟩ := K1
    refine bodyPost_ret (v := .agg #[.string y, .bool true, .slice none 0 0]) (by simp [results, Tryd.results76, go_sem, k0, k1, k2]) rfl ?_
    exact ⟨(y, true, .slice none 0 0, []), rfl, by rw [hz.out]; rfl, Strs.nil _, (fun b hb => by cases hb), hB⟩
  | false =>
    have hcl := cutC_len 61 x.data.toList
    have CC := fun w1 (h1 : Ext w w1) => cut_w x 61 w1 hs (ht.ext h1)
    rw [hp, if_neg (by decide)] at C
    cases hc : (cutC 61 x.data.toList).2.2 with
    | false =>
      have hz := Lib.hid (termL_bare hp hc)
      rw [hc] at CC
      clear hp hc hcl
      generalize (⟨(cutC 61 x.data.toList).1.toArray⟩ : ByteArray) = y1 at *
      generalize (⟨(cutC 61 x.data.toList).2.1.toArray⟩ : ByteArray) = y2 at *
      replace CC := Lib.hid CC
      go_enter Tryd.func76, Tryd.ntmps76
      go_wp2_with fail
      refine C.mono ?_; rintro e w1 ⟨rfl, h1⟩
      go_wp2_with fail
      refine (CC.out w1 (hW.trans h1)).mono ?_; rintro e w2 ⟨rfl, h2⟩
      have K1 := ((K0.ext h1).ext h2).put (.string x) (.bool false) (.slice none 0 0)
      have hB := below_put3 ((hW.trans h1).trans h2) (Nat.le_refl _) (.string x) (.bool false) (.slice none 0 0)
      obtain ⟨q1, q2, q3, q4, q5, q6, q7⟩ := (K0.ext h1).ext h2
      go_wp2
      obtain ⟨_, k0, k1, k2, _, _, _⟩ := K1
      refine bodyPost_ret (v := .agg #[.string x, .bool false, .slice none 0 0]) (by simp [results, Tryd.results76, go_sem, k0, k1, k2]) rfl ?_
      exact ⟨(x, false, .slice none 0 0, []), rfl, by rw [hz.out]; rfl, Strs.nil _, (fun b hb => by cases hb), hB⟩
    | true =>
      have hz := fun vs hv => Lib.hid (termL_vals (k := ⟨(cutC 61 x.data.toList).1.toArray⟩) (vs := vs) hp hc rfl hv)
      rw [hc] at CC
      rw [← size_len] at hcl
      have s1 : (⟨(cutC 61 x.data.toList).1.toArray⟩ : ByteArray).size ≤ x.size := by rw [size_len]; show (cutC 61 x.data.toList).1.length ≤ _; omega
      have s2 : (⟨(cutC 61 x.data.toList).2.1.toArray⟩ : ByteArray).size ≤ x.size := by rw [size_len]; show (cutC 61 x.data.toList).2.1.length ≤ _; omega
      have hv2 : (cutC 61 x.data.toList).2.1 = (⟨(cutC 61 x.data.toList).2.1.toArray⟩ : ByteArray).data.toList := rfl
      rw [hv2] at hz
      clear hp hc hcl hv2
      generalize (⟨(cutC 61 x.data.toList).1.toArray⟩ : ByteArray) = y1 at *
      generalize (⟨(cutC 61 x.data.toList).2.1.toArray⟩ : ByteArray) = y2 at *
      have CS := fun w1 => cutsuffix_w y1 w1 (by omega)
      generalize hy3 : (if suf33 y1 then (⟨y1.data.toList.dropLast.toArray⟩ : ByteArray) else y1) = y3 at *
      generalize hs3 : suf33 y1 = s3 at *
      clear hy3 hs3
      replace hz := Lib.hid hz
      replace CC := Lib.hid CC
      replace CS := Lib.hid CS
      go_enter Tryd.func76, Tryd.ntmps76
      go_wp2_with fail
      refine C.mono ?_; rintro e w1 ⟨rfl, h1⟩
      go_wp2_with fail
      refine (CC.out w1 (hW.trans h1)).mono ?_; rintro e w2 ⟨rfl, h2⟩
      go_wp2_with fail
      refine (CS.out w2).mono ?_; rintro e w3 ⟨rfl, h3⟩
      have e3 := ((hW.trans h1).trans h2).trans h3
      go_wp2_with fail
      refine (split_w y2 124 w3 (by omega) (ht.ext e3)).mono ?_; rintro e w4 ⟨vs, rfl, hx, hv, hl, h4⟩
      have hz' := (hz.out vs hv).out
      have K1 := ((((K0.ext h1).ext h2).ext h3).ext h4).put (.string y3) (.bool s3) (.slice (some ⟨w3.heap.size, 0, none⟩) vs.length vs.length)
      have hB := below_put3 (e3.trans h4) (Nat.le_refl _) (.string y3) (.bool s3) (.slice (some ⟨w3.heap.size, 0, none⟩) vs.length vs.length)
      have hne : w.heap.size ≠ w3.heap.size := Nat.ne_of_lt (((K0.ext h1).ext h2).ext h3).lt
      have hx5 := Sl.far (i := 2) (Sl.far (i := 1) (Sl.far (i := 0) hx hne (.string y3)) hne (.bool s3)) hne (.slice (some ⟨w3.heap.size, 0, none⟩) vs.length vs.length)
      clear hne
      obtain ⟨q1, q2, q3, q4, q5, q6, q7⟩ := (((K0.ext h1).ext h2).ext h3).ext h4
      replace hz' := Lib.hid hz'
      clear hv
      go_wp2
      obtain ⟨_, k0, k1, k2, _, _, _⟩ := K1
      refine bodyPost_ret (v := .agg #[.string y3, .bool s3, .slice (some ⟨w3.heap.size, 0, none⟩) vs.length vs.length]) (by simp [results, Tryd.results76, go_sem, k0, k1, k2]) rfl ?_
      exact ⟨(y3, s3, .slice (some ⟨w3.heap.size, 0, none⟩) vs.length vs.length, vs), rfl, by rw [hz'.out]; rfl, hx5, (fun b hb => by injection hb with hb; subst hb; exact e3.size), hB⟩

end Go.Proofs.YtbkemhheombfcaaDoor
