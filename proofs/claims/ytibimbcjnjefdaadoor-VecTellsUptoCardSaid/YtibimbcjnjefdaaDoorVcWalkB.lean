/- Chapter 3: the walks of Sub, Order, Holds. -/
import Derived.Test.YtibimbcjnjefdaaDoorVcWalkA
namespace Go.Dm
open Go Go.RowKit
theorem allV_fits (a b : Vc) : allV (fun x y => decide (y ≤ x)) (vG a) (vG b) = vfits b a := by
  unfold allV vfits vG
  simp [List.range_succ, Bool.and_assoc]
theorem vG_or (c : Bool) (A : Nat → Nat) (v : Vc) (h : ∀ k, k < 4 → vG v k = A k) : (if c = true then vF A else vF (fun _ => 0)) = vF (vG (vOr c v)) := by
  cases c with
  | false =>
    rw [if_neg (by simp)]
    apply vF_eq
    intro k hk
    match k, hk with
    | 0, _ => rfl
    | 1, _ => rfl
    | 2, _ => rfl
    | 3, _ => rfl
  | true => rw [if_pos rfl]; exact vF_eq fun k hk => (h k hk).symm
/-- How two amounts stand from the k-th number on. -/
theorem vord_drop {a b : List Nat} {k : Nat} (ha : k < a.length) (hb : k < b.length) :
    vordF (a.drop k) (b.drop k) = if a.getD k 0 < b.getD k 0 then -1 else if b.getD k 0 < a.getD k 0 then 1 else vordF (a.drop (k + 1)) (b.drop (k + 1)) := by
  rw [List.drop_eq_getElem_cons ha, List.drop_eq_getElem_cons hb]
  simp only [vordF]
  simp [ha, hb]

/-- A slice value reads as these numbers. -/
def Us (w : World) (v : Value) (l : List Nat) : Prop := Sl w 1 v l.length (l.map fun x => .int .u64 (x : Nat))
theorem Us.at {w : World} {l : List Nat} {p cap} (h : Us w (.slice p l.length cap) l) {k : Nat} (hk : k < l.length) :
    ∃ b off, p = some ⟨b, off, none⟩ ∧ b < w.heap.size ∧ w.cell? ⟨b, off + k, none⟩ = some (.int .u64 (l.getD k 0 : Nat)) := by
  obtain ⟨b, off, hp, hb, h⟩ := Sl.at h (by omega)
  exact ⟨b, off, hp, hb, h k _ (by simp [hk])⟩

end Go.Dm
namespace Go.Proofs.YtibimbcjnjefdaaDoor
open Go.RowKit Go.Dm

set_option maxHeartbeats 1000000 in
theorem vsub_w (a b : Vc) (ha : OkV a) (hb : OkV b) (w : World) :
    Calls Tryd.prog 14 #[vVal a, vVal b] w fun e w' => e = .returned (.tuple #[vVal (vOr (vfits b a) (vsub a b)), .bool (vfits b a)]) ∧ Ext w w' := by
  have C := fun w1 => both_w _ _ _ wsub_w (vG a) (vG b) ha.u64 hb.u64 w1
  rw [allV_fits, vG_or _ (fun k => vG a k - vG b k) (vsub a b) (fun k hk => vsub_at hk)] at C
  unfold vVal
  generalize vG (vOr (vfits b a) (vsub a b)) = R at C ⊢
  generalize vfits b a = d at C ⊢
  generalize vG a = A at C ⊢
  generalize vG b = B at C ⊢
  have hE : Ext w (((w.alloc (.cells #[.int .u64 (A 0 : Nat), .int .u64 (A 1 : Nat), .int .u64 (A 2 : Nat), .int .u64 (A 3 : Nat)] 24)).alloc (.cells #[.int .u64 (B 0 : Nat), .int .u64 (B 1 : Nat), .int .u64 (B 2 : Nat), .int .u64 (B 3 : Nat)] 24)).alloc (.cells #[.int .u64 (0 : Nat), .int .u64 (0 : Nat), .int .u64 (0 : Nat), .int .u64 (0 : Nat)] 24)) := (((Ext.refl w).alloc _).alloc _).alloc _
  have hv : VBox (w.heap.size + 1 + 1) (fun _ => 0) (((w.alloc (.cells #[.int .u64 (A 0 : Nat), .int .u64 (A 1 : Nat), .int .u64 (A 2 : Nat), .int .u64 (A 3 : Nat)] 24)).alloc (.cells #[.int .u64 (B 0 : Nat), .int .u64 (B 1 : Nat), .int .u64 (B 2 : Nat), .int .u64 (B 3 : Nat)] 24)).alloc (.cells #[.int .u64 (0 : Nat), .int .u64 (0 : Nat), .int .u64 (0 : Nat), .int .u64 (0 : Nat)] 24)) := by
    have h := VBox.new ((w.alloc (.cells #[.int .u64 (A 0 : Nat), .int .u64 (A 1 : Nat), .int .u64 (A 2 : Nat), .int .u64 (A 3 : Nat)] 24)).alloc (.cells #[.int .u64 (B 0 : Nat), .int .u64 (B 1 : Nat), .int .u64 (B 2 : Nat), .int .u64 (B 3 : Nat)] 24)) (fun _ => 0) 24
    rw [World.size_alloc, World.size_alloc] at h
    exact h
  unfold vF at C ⊢
  replace C := Lib.hid C
  go_enter Tryd.func14, Tryd.ntmps14
  go_wp2_with fail
  refine (C.out _).mono ?_; rintro e w1 ⟨rfl, h1⟩
  have v1 := hv.ext h1
  have d0 := v1.cell 0 (by omega)
  have d1 := v1.cell 1 (by omega)
  have d2 := v1.cell 2 (by omega)
  have d3 := v1.cell 3 (by omega)
  have e0 := v1.free 0 (by omega)
  have e1 := v1.free 1 (by omega)
  have e2 := v1.free 2 (by omega)
  have e3 := v1.free 3 (by omega)
  go_wp2
  have z0 := (((v1.set (k := 0) (v := R 0) (by omega)).set (k := 1) (v := R 1) (by omega)).set (k := 2) (v := R 2) (by omega)).set (k := 3) (v := R 3) (by omega)
  have k0 := z0.cell 0 (by omega)
  have k1 := z0.cell 1 (by omega)
  have k2 := z0.cell 2 (by omega)
  have k3 := z0.cell 3 (by omega)
  simp at k0 k1 k2 k3
  refine bodyPost_ret (v := .tuple #[.agg #[.int .u64 (R 0 : Nat), .int .u64 (R 1 : Nat), .int .u64 (R 2 : Nat), .int .u64 (R 3 : Nat)], .bool d]) (by simp [results, Tryd.results14, go_sem, k0, k1, k2, k3]) rfl ?_
  exact ⟨rfl, ((((hE.trans h1).setCell (p := ⟨w.heap.size + 1 + 1, 0, none⟩) (Nat.le_add_right _ 2) _).setCell (p := ⟨w.heap.size + 1 + 1, 1, none⟩) (Nat.le_add_right _ 2) _).setCell (p := ⟨w.heap.size + 1 + 1, 2, none⟩) (Nat.le_add_right _ 2) _).setCell (p := ⟨w.heap.size + 1 + 1, 3, none⟩) (Nat.le_add_right _ 2) _⟩

theorem nan_w (x : Nat) (w : World) : Calls Tryd.prog 72 #[.int .u64 (x : Nat)] w fun e w' => e = .returned (.bool false) ∧ Ext w w' := by
  go_enter Tryd.func72, Tryd.ntmps72
  go_wp2
  go_ret
  exact ⟨by simp, Ext.refl _⟩

set_option maxHeartbeats 400000 in
theorem cmp_w (x y : Nat) (w : World) : Calls Tryd.prog 58 #[.int .u64 (x : Nat), .int .u64 (y : Nat)] w fun e w' => e = .returned (.int .i64 (if x < y then -1 else if y < x then 1 else 0)) ∧ Ext w w' := by
  go_enter Tryd.func58, Tryd.ntmps58
  go_wp2_with fail
  refine (nan_w x w).mono ?_; rintro e w1 ⟨rfl, h1⟩
  go_wp2_with fail
  refine (nan_w y w1).mono ?_; rintro e w2 ⟨rfl, h2⟩
  by_cases h : x < y
  · go_wp2
    go_ret
    exact ⟨by simp, h1.trans h2⟩
  · by_cases h2' : y < x
    · go_wp2
      go_ret
      exact ⟨by simp, h1.trans h2⟩
    · go_wp2
      go_ret
      exact ⟨by simp, h1.trans h2⟩

set_option maxHeartbeats 1000000 in
theorem compare_w (a b : List Nat) (va vb : Value) (w : World) (hl : a.length = b.length) (hm : a.length ≤ 281474976710656) (ha : Us w va a) (hb : Us w vb b) :
    Calls Tryd.prog 45 #[va, vb] w fun e w' => e = .returned (.int .i64 (vordF a b)) ∧ Ext w w' := by
  obtain ⟨p, cap, rfl, _, _, _⟩ := Sl.shape ha
  obtain ⟨q, cbp, rfl, _, _, _⟩ := Sl.shape hb
  have hstep := fun k (h1 : k < a.length) => vord_drop (a := a) (b := b) (k := k) h1 (by omega)
  have hend : vordF (a.drop a.length) (b.drop a.length) = 0 := by rw [List.drop_length]; rfl
  have hbeg : vordF a b = vordF (a.drop 0) (b.drop 0) := rfl
  generalize vordF a b = r at *
  have hl' := Lib.hid hl
  clear hl
  replace hstep := Lib.hid hstep
  replace hend := Lib.hid hend
  replace hbeg := Lib.hid hbeg
  go_enter Tryd.func45, Tryd.ntmps45
  go_wp2
  go_loopw [11] (fun i wr => ∃ k : Nat, k ≤ a.length ∧ i = .int .i64 k ∧ Ext w wr ∧ Hid (r = vordF (a.drop k) (b.drop k))) (fun i _ => a.length - (intOf i).toNat)
  case atStart => exact ⟨0, by omega, rfl, Ext.refl _, hbeg⟩
  case round =>
    obtain ⟨k, hk, rfl, hx, HR⟩ := hrel
    by_cases hlt : k < a.length
    · have hkb : k < b.length := by have := hl'.out; omega
      obtain ⟨ba, oa, rfl, _, ca⟩ := Us.at (Sl.ext ha hx) hlt
      obtain ⟨bb, ob, hq, _, cb⟩ := Us.at (p := q) (cap := cbp) (Sl.ext hb hx) (k := k) hkb
      subst hq
      have hs := HR.out
      rw [hstep.out k hlt] at hs
      replace hs := Lib.hid hs
      generalize a.getD k 0 = x at ca hs
      generalize b.getD k 0 = y at cb hs
      have C := cmp_w x y wr
      by_cases h1 : x < y
      · have hs1 := hs.out
        rw [if_pos h1] at hs1 C
        subst hs1
        clear hs
        go_wp2_with fail
        refine C.mono ?_; rintro e w1 ⟨rfl, e1⟩
        go_wp2
        go_ret
        exact ⟨rfl, hx.trans e1⟩
      · by_cases h2 : y < x
        · have hs1 := hs.out
          rw [if_neg h1, if_pos h2] at hs1 C
          subst hs1
          clear hs
          go_wp2_with fail
          refine C.mono ?_; rintro e w1 ⟨rfl, e1⟩
          go_wp2
          go_ret
          exact ⟨rfl, hx.trans e1⟩
        · have hs1 : Hid (r = vordF (a.drop (k + 1)) (b.drop (k + 1))) := by
            have := hs.out
            rw [if_neg h1, if_neg h2] at this
            exact this
          rw [if_neg h1, if_neg h2] at C
          clear hs
          go_wp2_with fail
          refine C.mono ?_; rintro e w1 ⟨rfl, e1⟩
          go_wp2
          go_roundw
          case rel => exact ⟨k + 1, by omega, by go_num, hx.trans e1, hs1⟩
          case measure => simp [intOf]; omega
    · obtain rfl : k = a.length := by omega
      have hs := HR.out
      rw [hend.out] at hs
      subst hs
      have hge : ¬ a.length < b.length := by have := hl'.out; omega
      go_wp2
      go_ret
      exact ⟨rfl, hx⟩

end Go.Proofs.YtibimbcjnjefdaaDoor
