/- Texts one behind the other: Chapter 5: the walks of Match and Right. -/
import Derived.Test.YtibimbcjnjefdaaT8
import Derived.Test.YtibimbcjnjefdaaT5
namespace Go.Dm
open Go Go.RowKit
theorem match_hit {R : List RowS} {p : List PairS} {k : Nat} (hk : k < R.length) (h : holdsS p (rowT (sAtR R k)) = false) : matchS (R.map rowT) p = false := by
  unfold matchS
  rw [List.all_eq_false]
  exact ⟨_, List.mem_map_of_mem (sAtR_mem hk), by rw [h]; simp⟩
theorem match_miss {R : List RowS} {p : List PairS} (h : ∀ k, k < R.length → holdsS p (rowT (sAtR R k)) = true) : matchS (R.map rowT) p = true := by
  unfold matchS
  rw [List.all_eq_true]
  intro t ht
  obtain ⟨r, hr, rfl⟩ := List.mem_map.1 ht
  obtain ⟨k, hk, rfl⟩ := List.getElem_of_mem hr
  have := h k hk
  have e : sAtR R k = R[k] := by simp [sAtR, hk]
  rwa [e] at this
theorem allR_hit {R : List RowS} {k : Nat} (hk : k < R.length) (h : rightT (rowT (sAtR R k)) = false) : (R.map rowT).all rightT = false := by
  rw [List.all_eq_false]
  exact ⟨_, List.mem_map_of_mem (sAtR_mem hk), by rw [h]; simp⟩
theorem allR_miss {R : List RowS} (h : ∀ k, k < R.length → rightT (rowT (sAtR R k)) = true) : (R.map rowT).all rightT = true := by
  rw [List.all_eq_true]
  intro t ht
  obtain ⟨r, hr, rfl⟩ := List.mem_map.1 ht
  obtain ⟨k, hk, rfl⟩ := List.getElem_of_mem hr
  have := h k hk
  have e : sAtR R k = R[k] := by simp [sAtR, hk]
  rwa [e] at this
def FitR (R : List RowS) : Prop := ∀ r ∈ R, FitT (rowT r)
end Go.Dm
namespace Go.Proofs.Ytibimbcjnjefdaa
open Go.RowKit Go.Dm

set_option maxHeartbeats 400000 in
theorem match1_w (r : RowS) (p : List PairS) (vp : Value) (c o : Nat) (w : World) (hf : FitT (rowT r)) (hx : Strs w r.2.2.1 r.2.2.2) (hpm : p.length ≤ 35184372088832) (hp : Pairs w vp p) (hcl : c < w.heap.size) (hc : w.cell? ⟨c, o, none⟩ = some vp) :
    Calls Try.prog 30 #[.agg #[.string r.1, .bool r.2.1, r.2.2.1], .pointer (some ⟨c, o, none⟩)] w fun e w' => e = .returned (.bool (!holdsS p (rowT r))) ∧ Ext w w' := by
  obtain ⟨key, no, v, vals⟩ := r
  have hW : Ext w (w.alloc (.cells #[.string key, .bool no, v] 59)) := (Ext.refl _).alloc _
  have C := tholds_w key no vals v p vp _ hf.2.1 (hx.ext hW) hpm (hp.ext hW)
  show Calls Try.prog 30 #[.agg #[.string key, .bool no, v], .pointer (some ⟨c, o, none⟩)] w fun e w' => e = .returned (.bool (!holdsS p (key, no, vals))) ∧ Ext w w'
  generalize holdsS p (key, no, vals) = d at C
  go_enter Try.func30, Try.ntmps30
  go_wp2_with fail
  refine C.mono ?_; rintro e w1 ⟨rfl, h1⟩
  go_wp2
  go_ret
  exact ⟨rfl, hW.trans h1⟩

set_option maxHeartbeats 1000000 in
theorem indexM_w (R : List RowS) (p : List PairS) (v vp : Value) (c o : Nat) (w : World) (hm : R.length ≤ 35184372088832) (hf : FitR R) (hx : Terms w v R) (hpm : p.length ≤ 35184372088832) (hp : Pairs w vp p) (hcl : c < w.heap.size) (hc : w.cell? ⟨c, o, none⟩ = some vp) :
    Calls Try.prog 42 #[v, .func (.func 30) #[] #[.pointer (some ⟨c, o, none⟩)]] w
      fun e w' => ∃ i : Int, e = .returned (.int .i64 i) ∧ decide (0 ≤ i) = !matchS (R.map rowT) p ∧ Ext w w' := by
  obtain ⟨q, cap, rfl, _, _⟩ := hx.shape
  have hhit := fun k (hk : k < R.length) h => match_hit (p := p) hk h
  have hmiss := match_miss (R := R) (p := p)
  generalize matchS (R.map rowT) p = d at *
  replace hhit := Lib.hid hhit
  replace hmiss := Lib.hid hmiss
  go_enter Try.func42, Try.ntmps42
  go_wp2
  go_loopw [4, 8] (fun z i wr => ∃ k : Nat, k ≤ R.length ∧ i = .int .i64 k ∧ z = .int .i64 0 ∧ Ext w wr ∧ Hid (∀ j, j < k → holdsS p (rowT (sAtR R j)) = true)) (fun _ i _ => R.length - (intOf i).toNat)
  case atStart => exact ⟨0, by omega, rfl, rfl, Ext.refl w, fun j hj => by omega⟩
  case round =>
    obtain ⟨k, hk, rfl, rfl, hb, HN⟩ := hrel
    by_cases hlt : k < R.length
    · obtain ⟨b, off, rfl, hbl, c0, c1, c2⟩ := (hx.ext hb).at hlt
      have hcl' : c < wr.heap.size := Nat.lt_of_lt_of_le hcl hb.size
      have hc' : wr.cell? ⟨c, o, none⟩ = some vp := by rw [hb.cell (by exact hcl)]; exact hc
      have C := match1_w (sAtR R k) p vp c o wr (hf _ (sAtR_mem hlt)) ((hx.ext hb).val hlt) hpm (hp.ext hb) hcl' hc'
      have hH := hhit.out k hlt
      have hN2 : holdsS p (rowT (sAtR R k)) = true → Hid (∀ j, j < k + 1 → holdsS p (rowT (sAtR R j)) = true) := fun h j hj => by
        rcases Nat.lt_succ_iff_lt_or_eq.1 hj with h' | rfl
        · exact HN.out j h'
        · exact h
      generalize holdsS p (rowT (sAtR R k)) = t at C hH hN2
      generalize sAtR R k = r at *
      cases t with
      | false =>
        have hd := hH rfl
        subst hd
        clear hH hN2
        go_wp2_with fail
        refine C.mono ?_; rintro e w1 ⟨rfl, h1⟩
        go_wp2
        go_ret
        exact ⟨_, rfl, by first | omega | simp, hb.trans h1⟩
      | true =>
        replace hN2 := hN2 rfl
        clear hH
        go_wp2_with fail
        refine C.mono ?_; rintro e w1 ⟨rfl, h1⟩
        go_wp2
        go_roundw
        case rel => exact ⟨k + 1, by omega, by go_num, rfl, hb.trans h1, hN2⟩
        case measure => simp [intOf]; omega
    · obtain rfl : k = R.length := by omega
      have hd := hmiss.out HN.out
      subst hd
      go_wp2
      go_ret
      exact ⟨-1, rfl, by first | omega | simp, hb⟩

set_option maxHeartbeats 400000 in
theorem containsM_w (R : List RowS) (p : List PairS) (v vp : Value) (c o : Nat) (w : World) (hm : R.length ≤ 35184372088832) (hf : FitR R) (hx : Terms w v R) (hpm : p.length ≤ 35184372088832) (hp : Pairs w vp p) (hcl : c < w.heap.size) (hc : w.cell? ⟨c, o, none⟩ = some vp) :
    Calls Try.prog 29 #[v, .func (.func 30) #[] #[.pointer (some ⟨c, o, none⟩)]] w
      fun e w' => e = .returned (.bool (!matchS (R.map rowT) p)) ∧ Ext w w' := by
  go_enter Try.func29, Try.ntmps29
  go_wp2_with fail
  refine (indexM_w R p v vp c o w hm hf hx hpm hp hcl hc).mono ?_; rintro e w1 ⟨i, rfl, hi, h1⟩
  go_wp2
  go_ret
  exact ⟨by rw [← hi]; rfl, h1⟩

set_option maxHeartbeats 400000 in
theorem match_w (R : List RowS) (p : List PairS) (v vp : Value) (w : World) (hm : R.length ≤ 35184372088832) (hf : FitR R) (hx : Terms w v R) (hpm : p.length ≤ 35184372088832) (hp : Pairs w vp p) :
    Calls Try.prog 18 #[v, vp] w fun e w' => e = .returned (.bool (matchS (R.map rowT) p)) ∧ Ext w w' := by
  obtain ⟨qp, capp, rfl, _, _⟩ := hp.shape
  have hW : Ext w (w.alloc (.cells #[.slice qp p.length capp] 45)) := (Ext.refl _).alloc _
  have C := containsM_w R p v _ w.heap.size 0 _ hm hf (hx.ext hW) hpm (hp.ext hW) (by simp) (by simp)
  have hmf : ∀ (fn : Fn) (first cap : Array Value) (w : World), (Instr.makeFunc fn first cap).run Try.prog w = .ok (.func fn first cap) w := fun _ _ _ _ => rfl
  generalize matchS (R.map rowT) p = d at C
  go_enter Try.func18, Try.ntmps18
  go_wp2_with fail
  refine C.mono ?_; rintro e w1 ⟨rfl, h1⟩
  go_wp2
  go_ret
  exact ⟨by simp, hW.trans h1⟩

end Go.Proofs.Ytibimbcjnjefdaa
