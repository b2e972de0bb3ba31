/- Chapter 13: the walks of fitting: Clone, DeleteFunc. -/
import Derived.Test.YtibimbcjnjefdaaPkRows
import Derived.Test.YtibimbcjnjefdaaRowW
import Derived.Test.YtibimbcjnjefdaaSWalkC
import Derived.Test.YtibimbcjnjefdaaVcWalkC
namespace Go.Proofs.Ytibimbcjnjefdaa
open Go.RowKit Go.Dm

theorem Try.slSlot : SlT Try.prog 22 47 6 72 := SlT.mk' Try.underlying22 (by kernel_rfl) (by decide) (by decide)

set_option maxHeartbeats 1000000 in
set_option maxRecDepth 100000 in
theorem fitc_w (T : List RowS) (node : ByteArray) (A : Nat → Nat) (lv : Value) (p : List PairS) (vx : Value) (c o : Nat) (w : World) (hm : T.length ≤ 35184372088832) (hf : FitR T) (hx : Terms w vx T) (hpm : p.length ≤ 35184372088832) (hp : Pairs w lv p) (hcl : c < w.heap.size) (hc : w.cell? ⟨c, o, none⟩ = some vx) :
    Calls Try.prog 37 #[.agg #[.string node, .int .u64 (A 0 : Nat), .int .u64 (A 1 : Nat), .int .u64 (A 2 : Nat), .int .u64 (A 3 : Nat), lv], .pointer (some ⟨c, o, none⟩)] w fun e w' => e = .returned (.bool (!matchS (T.map rowT) p)) ∧ Ext w w' := by
  obtain ⟨q, cap, rfl, _, _⟩ := hp.shape
  obtain ⟨q2, cap2, rfl, _, _⟩ := hx.shape
  have hW : Ext w (w.alloc (.cells #[.string node, .int .u64 (A 0 : Nat), .int .u64 (A 1 : Nat), .int .u64 (A 2 : Nat), .int .u64 (A 3 : Nat), .slice q p.length cap] 47)) := (Ext.refl _).alloc _
  have C := match_w T p _ _ _ hm hf (hx.ext hW) hpm (hp.ext hW)
  generalize matchS (T.map rowT) p = d at C ⊢
  replace C := Lib.hid C
  go_enter Try.func37, Try.ntmps37
  go_wp2_with fail
  refine C.out.mono ?_; rintro e w1 ⟨rfl, h1⟩
  go_wp2
  go_ret
  exact ⟨by simp, hW.trans h1⟩

set_option maxHeartbeats 1000000 in
set_option maxRecDepth 100000 in
theorem kclone_w (R : List SlotR) (v : Value) (w : World) (hm : R.length * 72 ≤ 140737488355328) (hx : Slots w v R) :
    Calls Try.prog 36 #[v] w fun e w' => ∃ v', e = .returned v' ∧ w'.ownsRow w.heap.size 47 6 v' R.length (slotCells R) ∧ Ext w w' := by
  obtain ⟨q, cap, rfl, hcp, _⟩ := hx.shape
  have hone := hx.one
  have he := fun (a : Option Addr) w => Lib.run_eql_slice_nil (P := Try.prog) w 22 47 a R.length cap 0 0 Try.underlying22
  cases q with
  | none =>
    have h0 : R = [] := by
      have := hx.sl
      obtain ⟨_, p', cap', hv, hn, _, hz, _⟩ := this
      injection hv with e1 _ e3
      have := hz e1.symm
      exact List.eq_nil_of_length_eq_zero (by omega)
    subst h0
    have he := fun w => Lib.run_eql_slice_nil (P := Try.prog) w 22 47 none 0 cap 0 0 Try.underlying22
    go_enter Try.func36, Try.ntmps36
    go_wp2
    go_ret
    exact ⟨_, rfl, World.ownsRow_nil _ _ _ _, Ext.refl _⟩
  | some ad =>
    have he := he (some ad)
    have hE : Ext w (w.alloc (.cells #[] 47)) := (Ext.refl _).alloc _
    have hown : (w.alloc (.cells #[] 47)).ownsRow w.heap.size 47 6 (.slice (some ⟨w.heap.size, 0, none⟩) 0 0) 0 [] := World.ownsRow_lit w #[] 0 (Nat.le_refl _) (by simp [maxLen]) rfl
    have hsl := Sl.ext hx.sl hE
    go_enter Try.func36, Try.ntmps36
    go_wp2_with (at_builtin; refine wpList_appE rfl _ _ Try.slSlot rfl hE rfl hown rfl hsl hone (by omega) ?_; intro v5 w5 ho5 hb5 _)
    go_ret
    refine ⟨v5, rfl, ?_, hb5⟩
    rw [Nat.zero_add, List.nil_append] at ho5
    exact ho5

set_option maxHeartbeats 1000000 in
set_option maxRecDepth 100000 in
theorem kindex_w (T : List RowS) (R : List SlotR) (v vx : Value) (c o : Nat) (w : World) (hT : T.length ≤ 35184372088832) (hf : FitR T) (ht : Terms w vx T) (hm : R.length ≤ 35184372088832) (hk : FitK R) (hx : Slots w v R) (hcl : c < w.heap.size) (hc : w.cell? ⟨c, o, none⟩ = some vx) :
    Calls Try.prog 47 #[v, .func (.func 37) #[] #[.pointer (some ⟨c, o, none⟩)]] w
      fun e w' => ∃ i : Int, e = .returned (.int .i64 i) ∧ FirstNo (letR T) R i ∧ Ext w w' := by
  obtain ⟨q, cap, rfl, _, _⟩ := hx.shape
  go_enter Try.func47, Try.ntmps47
  go_wp2
  go_loopw [8] (fun i wr => ∃ k : Nat, k ≤ R.length ∧ i = .int .i64 k ∧ Ext w wr ∧ Hid (∀ j, j < k → letR T (slAt R j) = true)) (fun i _ => R.length - (intOf i).toNat)
  case atStart => exact ⟨0, by omega, rfl, Ext.refl w, fun j hj => by omega⟩
  case round =>
    obtain ⟨k, hk', rfl, hb, HN⟩ := hrel
    by_cases hlt : k < R.length
    · obtain ⟨b, off, rfl, hbl, hcs⟩ := (hx.ext hb).at hlt
      have hcl' : c < wr.heap.size := Nat.lt_of_lt_of_le hcl hb.size
      have hc' : wr.cell? ⟨c, o, none⟩ = some vx := by rw [hb.cell (by exact hcl)]; exact hc
      have C := fitc_w T (slAt R k).1 (vG (slAt R k).2.1) (slAt R k).2.2.1 (slAt R k).2.2.2 vx c o wr hT hf (ht.ext hb) (hk _ (slAt_mem hlt)) ((hx.ext hb).lab hlt) hcl' hc'
      have hN2 : letR T (slAt R k) = true → Hid (∀ j, j < k + 1 → letR T (slAt R j) = true) := fun h j hj => by
        rcases Nat.lt_succ_iff_lt_or_eq.1 hj with h' | rfl
        · exact HN.out j h'
        · exact h
      have hno : letR T (slAt R k) = false → FirstNo (letR T) R k := fun h => Or.inr ⟨k, rfl, hlt, HN.out, h⟩
      rw [show matchS (T.map rowT) (slAt R k).2.2.2 = letR T (slAt R k) from rfl] at C
      obtain ⟨pq, pc, hpe, _, _⟩ := ((hx.ext hb).lab hlt).shape
      have c0 := hcs 0 (by omega)
      have c1 := hcs 1 (by omega)
      have c2 := hcs 2 (by omega)
      have c3 := hcs 3 (by omega)
      have c4 := hcs 4 (by omega)
      have c5 := hcs 5 (by omega)
      simp only [slotOne, vAt, List.getElem?_cons_zero, List.getElem?_cons_succ, Nat.add_zero] at c0 c1 c2 c3 c4 c5
      generalize letR T (slAt R k) = d at C hN2 hno
      generalize slAt R k = r at C c0 c1 c2 c3 c4 c5 hpe
      obtain ⟨node, vv, lv, ls⟩ := r
      simp only at C c0 c1 c2 c3 c4 c5 hpe
      subst hpe
      generalize vG vv = A at C c0 c1 c2 c3 c4 c5
      clear hcs
      cases d with
      | false =>
        replace hno := Lib.hid (hno rfl)
        clear hN2
        go_wp2_with fail
        refine C.mono ?_; rintro e w1 ⟨rfl, h1⟩
        go_wp2
        go_ret
        exact ⟨_, rfl, hno.out, hb.trans h1⟩
      | true =>
        replace hN2 := hN2 rfl
        clear hno
        go_wp2_with fail
        refine C.mono ?_; rintro e w1 ⟨rfl, h1⟩
        go_wp2
        go_roundw
        case rel => exact ⟨k + 1, by omega, by go_num, hb.trans h1, hN2⟩
        case measure => simp [intOf]; omega
    · obtain rfl : k = R.length := by omega
      have hall : FirstNo (letR T) R (-1) := Or.inl ⟨rfl, fun r hr => by
        obtain ⟨j, hj, rfl⟩ := List.getElem_of_mem hr
        rw [← slAt_eq hj]
        exact HN.out j hj⟩
      replace hall := Lib.hid hall
      go_wp2
      go_ret
      exact ⟨_, rfl, hall.out, hb⟩

end Go.Proofs.Ytibimbcjnjefdaa
