/- SelLabels, walked: what matches a label, and a value of it, is what has just that; labels of other keys turn nothing. -/
import Derived.Test.YtbkemhheombfcaaDoorSTurns
namespace Go.Dm
open Go Go.RowKit
theorem find_cons (p : PairS) (l : List PairS) (key : ByteArray) : findB (p :: l) key = if keyIs key p then (p.2, true) else findB l key := by
  unfold findB
  cases h : keyIs key p with
  | true => simp [firstP, h, pairAt]
  | false =>
    simp only [firstP, h, Bool.false_eq_true, if_false]
    cases firstP (keyIs key) l with
    | none => rfl
    | some k => simp [pairAt]
theorem find_nil (key : ByteArray) : findB [] key = (⟨#[]⟩, false) := rfl
theorem holds_val {p : List PairS} {k v x : ByteArray} (h : findB p k = (x, true)) : holdsS p (k, false, [v]) = (x.toList == v.toList) := by
  unfold holdsS
  rw [h]
  simp [inB]
theorem holds_miss {p : List PairS} {k v x : ByteArray} (h : findB p k = (x, false)) : holdsS p (k, false, [v]) = false := by
  unfold holdsS
  rw [h]
  simp
theorem keyIs_self (k v : ByteArray) : keyIs k (k, v) = true := by unfold keyIs; simp
theorem holds_l1 (k v : ByteArray) : holdsS [(k, v)] (k, false, [v]) = true := by
  rw [holds_val (x := v) (by rw [find_cons, keyIs_self, if_pos rfl])]; simp
theorem holds_l2 (k v u : ByteArray) : holdsS [(k, u)] (k, false, [v]) = (u.toList == v.toList) := holds_val (by rw [find_cons, keyIs_self, if_pos rfl])
theorem keyIs_far {k o : ByteArray} (u : ByteArray) (h : k ≠ o) : keyIs k (o, u) = false := by
  rw [Bool.eq_false_iff, Ne]
  unfold keyIs
  rw [bytes_eq]
  exact fun e => h e.symm
theorem holds_l3 {k o : ByteArray} (v u : ByteArray) (h : k ≠ o) : holdsS [(o, u), (k, v)] (k, false, [v]) = true := by
  rw [holds_val (x := v) (by rw [find_cons, keyIs_far u h, if_neg (by simp), find_cons, keyIs_self, if_pos rfl])]; simp
theorem holds_l4 {k o : ByteArray} (v u : ByteArray) (h : k ≠ o) : holdsS [(o, u)] (k, false, [v]) = false := holds_miss (by rw [find_cons, keyIs_far u h, if_neg (by simp), find_nil])
theorem holds_l5 (k v : ByteArray) : holdsS [] (k, false, [v]) = false := holds_miss (find_nil k)
end Go.Dm
namespace Go.Proofs.YtbkemhheombfcaaDoor
open Go.RowKit Go.Dm

/-- What the law lays. -/
def laid5S (w : World) (k v o u : ByteArray) : World :=
  ((((w.alloc (.cells #[.string v] 9)).alloc (.cells #[.string k, .bool false, .slice (some ⟨w.heap.size, 0, none⟩) 1 1] 57)).alloc (.cells #[.string k, .string v] 29)).alloc (.cells #[.string o, .string u, .string k, .string v] 29)).alloc (.cells #[.string o, .string u] 29)
theorem laid5S_has (w : World) (k v o u : ByteArray) :
    Terms (laid5S w k v o u) (.slice (some ⟨w.heap.size + 1, 0, none⟩) 1 1) [(k, false, .slice (some ⟨w.heap.size, 0, none⟩) 1 1, [v])] ∧
    Pairs (laid5S w k v o u) (.slice (some ⟨w.heap.size + 1 + 1, 0, none⟩) 1 1) [(k, v)] ∧
    Pairs (laid5S w k v o u) (.slice (some ⟨w.heap.size + 1 + 1 + 1, 0, none⟩) 2 2) [(o, u), (k, v)] ∧
    Pairs (laid5S w k v o u) (.slice (some ⟨w.heap.size + 1 + 1 + 1 + 1, 0, none⟩) 1 1) [(o, u)] ∧ Ext w (laid5S w k v o u) := by
  have x1 := (Ext.refl w).alloc (.cells #[.string v] 9)
  have s1 : (w.alloc (.cells #[.string v] 9)).heap.size = w.heap.size + 1 := by simp
  have hs : Strs (w.alloc (.cells #[.string v] 9)) (.slice (some ⟨w.heap.size, 0, none⟩) 1 1) [v] := Sl.lit w 9 1 1 #[.string v] rfl (by simp [maxLen])
  unfold laid5S
  generalize w.alloc (.cells #[.string v] 9) = w1 at *
  have hT := terms_lit (e := 57) (k := k) (n := false) s1 hs
  have x2 := (Ext.refl w1).alloc (.cells #[.string k, .bool false, .slice (some ⟨w.heap.size, 0, none⟩) 1 1] 57)
  have s2 : (w1.alloc (.cells #[.string k, .bool false, .slice (some ⟨w.heap.size, 0, none⟩) 1 1] 57)).heap.size = w.heap.size + 1 + 1 := by simp [s1]
  generalize w1.alloc (.cells #[.string k, .bool false, .slice (some ⟨w.heap.size, 0, none⟩) 1 1] 57) = w2 at *
  have h2 : Pairs (w2.alloc (.cells #[.string k, .string v] 29)) (.slice (some ⟨w2.heap.size, 0, none⟩) 1 1) [(k, v)] := Sl.lit w2 29 2 1 #[.string k, .string v] rfl (by simp [maxLen])
  have x3 := (Ext.refl w2).alloc (.cells #[.string k, .string v] 29)
  have s3 : (w2.alloc (.cells #[.string k, .string v] 29)).heap.size = w.heap.size + 1 + 1 + 1 := by simp [s2]
  generalize w2.alloc (.cells #[.string k, .string v] 29) = w3 at *
  have h3 : Pairs (w3.alloc (.cells #[.string o, .string u, .string k, .string v] 29)) (.slice (some ⟨w3.heap.size, 0, none⟩) 2 2) [(o, u), (k, v)] := Sl.lit w3 29 2 2 #[.string o, .string u, .string k, .string v] rfl (by simp [maxLen])
  have x4 := (Ext.refl w3).alloc (.cells #[.string o, .string u, .string k, .string v] 29)
  have s4 : (w3.alloc (.cells #[.string o, .string u, .string k, .string v] 29)).heap.size = w.heap.size + 1 + 1 + 1 + 1 := by simp [s3]
  generalize w3.alloc (.cells #[.string o, .string u, .string k, .string v] 29) = w4 at *
  have h4 : Pairs (w4.alloc (.cells #[.string o, .string u] 29)) (.slice (some ⟨w4.heap.size, 0, none⟩) 1 1) [(o, u)] := Sl.lit w4 29 2 1 #[.string o, .string u] rfl (by simp [maxLen])
  have x5 := (Ext.refl w4).alloc (.cells #[.string o, .string u] 29)
  rw [s2] at h2
  rw [s3] at h3
  rw [s4] at h4
  exact ⟨((hT.ext x3).ext x4).ext x5, (h2.ext x4).ext x5, h3.ext x5, h4, x1.trans (x2.trans (x3.trans (x4.trans x5)))⟩

set_option maxHeartbeats 4000000 in
set_option maxRecDepth 100000 in
theorem selLabels_w (k v o u : ByteArray) (w : World) (hk : k.size ≤ 140737488351232) (hv : v.size ≤ 140737488351232) (_ho : o.size ≤ 140737488351232) (_hu : u.size ≤ 140737488351232) (ht : Vars w) :
    Calls Tryd.prog 11 #[.string k, .string v, .string o, .string u] w fun e w' => e = .returned (.bool true) ∧ Ext w w' := by
  have CM := fun (B : Nat) (p : List PairS) (u2 u1 : Value) (w1 : World) (hT : Terms w1 u1 [(k, false, .slice (some ⟨B, 0, none⟩) 1 1, [v])]) (hl : p.length ≤ 2) (hp : Pairs w1 u2 p) =>
    match_w [(k, false, .slice (some ⟨B, 0, none⟩) 1 1, [v])] p u1 u2 w1 (by simp) (fit_term hk (by simp) (fun x hx => by rw [List.mem_singleton.1 hx]; exact hv)) hT (by omega) hp
  simp only [match_one, rowT] at CM
  replace CM := Lib.hid CM
  by_cases hko : k = o
  · subst hko
    have hl2 := holds_l2 k v u
    go_enter Tryd.func11, Tryd.ntmps11
    go_wp2_with fail
    refine (sexamples_w w ht).mono ?_; rintro e w1 ⟨rfl, e1⟩
    go_wp2_with fail
    obtain ⟨hT, h1, h2, h3, eB⟩ := laid5S_has w1 k v k u
    have C1 := CM.out _ _ _ _ _ hT (by simp) h1
    have C3 := fun w2 (x : Ext (laid5S w1 k v k u) w2) => CM.out _ _ _ _ _ (hT.ext x) (by simp) (h3.ext x)
    rw [holds_l1] at C1
    rw [holds_l2] at C3
    have hsy : (u.toList == v.toList) = (v.toList == u.toList) := Bool.beq_comm
    rw [hsy] at C3
    have eB := e1.trans eB
    unfold laid5S at *
    generalize ((((w1.alloc (.cells #[.string v] 9)).alloc (.cells #[.string k, .bool false, .slice (some ⟨w1.heap.size, 0, none⟩) 1 1] 57)).alloc (.cells #[.string k, .string v] 29)).alloc (.cells #[.string k, .string u, .string k, .string v] 29)).alloc (.cells #[.string k, .string u] 29) = wB at *
    clear hT h1 h2 h3 hl2 hsy
    replace C3 := Lib.hid C3
    refine C1.mono ?_; rintro e w2 ⟨rfl, x2⟩
    clear C1
    go_wp2_with fail
    refine (C3.out w2 x2).mono ?_; rintro e w3 ⟨rfl, x3⟩
    cases hq : (v.toList == u.toList) with
    | true =>
      go_wp2
      go_ret
      exact ⟨rfl, eB.trans (x2.trans x3)⟩
    | false =>
      go_wp2
      go_ret
      exact ⟨rfl, eB.trans (x2.trans x3)⟩
  · have hkb : (k.toList == o.toList) = false := by rw [Bool.eq_false_iff, Ne, bytes_eq]; exact hko
    have l3 := holds_l3 v u hko
    have l4 := holds_l4 v u hko
    clear hko
    replace l3 := Lib.hid l3
    replace l4 := Lib.hid l4
    go_enter Tryd.func11, Tryd.ntmps11
    go_wp2_with fail
    refine (sexamples_w w ht).mono ?_; rintro e w1 ⟨rfl, e1⟩
    go_wp2_with fail
    obtain ⟨hT, h1, h2, h3, eB⟩ := laid5S_has w1 k v o u
    have C1 := CM.out _ _ _ _ _ hT (by simp) h1
    have C2 := fun w2 (x : Ext (laid5S w1 k v o u) w2) => CM.out _ _ _ _ _ (hT.ext x) (by simp) (h2.ext x)
    have C3 := fun w2 (x : Ext (laid5S w1 k v o u) w2) => CM.out _ _ _ _ _ (hT.ext x) (by simp) (h3.ext x)
    have C4 := fun w2 (x : Ext (laid5S w1 k v o u) w2) => CM.out _ _ _ _ w2 (hT.ext x) (by simp) (Pairs.nil _)
    rw [holds_l1] at C1
    rw [l3.out] at C2
    rw [l4.out] at C3
    rw [holds_l5] at C4
    have eB := e1.trans eB
    unfold laid5S at *
    generalize ((((w1.alloc (.cells #[.string v] 9)).alloc (.cells #[.string k, .bool false, .slice (some ⟨w1.heap.size, 0, none⟩) 1 1] 57)).alloc (.cells #[.string k, .string v] 29)).alloc (.cells #[.string o, .string u, .string k, .string v] 29)).alloc (.cells #[.string o, .string u] 29) = wB at *
    clear hT h1 h2 h3 l3 l4
    replace C2 := Lib.hid C2
    replace C3 := Lib.hid C3
    replace C4 := Lib.hid C4
    refine C1.mono ?_; rintro e w2 ⟨rfl, x2⟩
    clear C1
    go_wp2_with fail
    refine (C2.out w2 x2).mono ?_; rintro e w3 ⟨rfl, x3⟩
    have x3 := x2.trans x3
    go_wp2_with fail
    refine (C3.out w3 x3).mono ?_; rintro e w4 ⟨rfl, x4⟩
    have x4 := x3.trans x4
    go_wp2_with fail
    refine (C4.out w4 x4).mono ?_; rintro e w5 ⟨rfl, x5⟩
    go_wp2
    go_ret
    exact ⟨rfl, eB.trans (x4.trans x5)⟩

end Go.Proofs.YtbkemhheombfcaaDoor
