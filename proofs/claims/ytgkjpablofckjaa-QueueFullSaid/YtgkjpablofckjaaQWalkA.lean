/- Chapter 14: the walks of the small functions, of the program and of the reference. -/
import Derived.Test.YtgkjpablofckjaaRows
import Derived.Test.YtgkjpablofckjaaQPure
namespace Go.Proofs.Ytgkjpablofckjaa
open Go.RowKit Go.Dm

abbrev entV (e : Ent) : Value := .agg #[.int .u64 e.1, .int .i64 e.2]

set_option maxHeartbeats 400000 in
theorem ahead_w (i p i' p' : Int) (w : World) :
    Calls Try.prog 20 #[.agg #[.int .u64 i, .int .i64 p], .agg #[.int .u64 i', .int .i64 p']] w fun e w' => e = .returned (.bool (aheadB (i, p) (i', p'))) ∧ Ext w w' := by
  have fin : Ext w ((w.alloc (.cells #[.int .u64 i, .int .i64 p] 25)).alloc (.cells #[.int .u64 i', .int .i64 p'] 25)) := ((Below.refl _ _).alloc (Nat.le_refl _) _).alloc (by simp) _
  go_enter Try.func20, Try.ntmps20
  go_wp2
  all_goals go_ret
  · exact ⟨by simp_all [aheadB], by simp_all⟩
  · exact ⟨by simp_all [aheadB], by simp_all⟩
  · exact ⟨by simp_all [aheadB], by simp_all⟩

set_option maxHeartbeats 400000 in
theorem rahead_w (i p i' p' : Int) (w : World) :
    Calls Try.prog 21 #[.agg #[.int .u64 i, .int .i64 p], .agg #[.int .u64 i', .int .i64 p']] w fun e w' => e = .returned (.bool (aheadB (i, p) (i', p'))) ∧ Ext w w' := by
  have fin : Ext w ((w.alloc (.cells #[.int .u64 i, .int .i64 p] 34)).alloc (.cells #[.int .u64 i', .int .i64 p'] 34)) := ((Below.refl _ _).alloc (Nat.le_refl _) _).alloc (by simp) _
  go_enter Try.func21, Try.ntmps21
  go_wp2
  all_goals go_ret
  · exact ⟨by simp_all [aheadB], by simp_all⟩
  · exact ⟨by simp_all [aheadB], by simp_all⟩
  · exact ⟨by simp_all [aheadB], by simp_all⟩

set_option maxHeartbeats 400000 in
theorem wrong_w (i p : Int) (w : World) :
    Calls Try.prog 24 #[.agg #[.int .u64 i, .int .i64 p]] w fun e w' => e = .returned (.bool (wrongB (i, p))) ∧ Ext w w' := by
  have fin : Ext w (w.alloc (.cells #[.int .u64 i, .int .i64 p] 25)) := (Below.refl _ _).alloc (Nat.le_refl _) _
  go_enter Try.func24, Try.ntmps24
  go_wp2
  all_goals go_ret
  · exact ⟨by simp_all [wrongB], fin⟩
  · exact ⟨by simp_all [wrongB], fin⟩

set_option maxHeartbeats 400000 in
theorem place1_w (i p id : Int) (c o : Nat) (w : World) (hcl : c < w.heap.size) (hc : w.cell? ⟨c, o, none⟩ = some (.int .u64 id)) :
    Calls Try.prog 29 #[.agg #[.int .u64 i, .int .i64 p], .pointer (some ⟨c, o, none⟩)] w fun e w' => e = .returned (.bool (i == id)) ∧ Ext w w' := by
  go_enter Try.func29, Try.ntmps29
  go_wp2
  go_ret
  exact ⟨rfl, (Below.refl _ _).alloc (Nat.le_refl _) _⟩

set_option maxHeartbeats 400000 in
theorem indexFunc_w (xs : List Ent) (id : Int) (q : Option Addr) (cap : Nat) (c o : Nat) (w : World) (hm : xs.length ≤ 35184372088832)
    (hx : Ents w (.slice q xs.length cap) xs) (hcl : c < w.heap.size) (hc : w.cell? ⟨c, o, none⟩ = some (.int .u64 id)) :
    Calls Try.prog 28 #[.slice q xs.length cap, .func (.func 29) #[] #[.pointer (some ⟨c, o, none⟩)]] w
      fun e w' => e = .returned (.int .i64 (optI (idxOf id xs))) ∧ Ext w w' := by
  go_enter Try.func28, Try.ntmps28
  go_wp2
  go_loopw [4, 8] (fun r i wr => ∃ k : Nat, k ≤ xs.length ∧ i = .int .i64 k ∧ r = .int .i64 0 ∧ Ext w wr ∧ Hid (∀ j, j < k → ((ent xs j).1 == id) = false)) (fun _ i _ => xs.length - (intOf i).toNat)
  case atStart => exact ⟨0, by omega, rfl, rfl, Ext.refl w, fun j hj => by omega⟩
  case round =>
    obtain ⟨k, hk, rfl, rfl, hb, HN⟩ := hrel
    by_cases hlt : k < xs.length
    · obtain ⟨b, off, rfl, hbl, c0, c1⟩ := (hx.ext hb).at hlt
      have hcl' : c < wr.heap.size := Nat.lt_of_lt_of_le hcl hb.size
      have hc' : wr.cell? ⟨c, o, none⟩ = some (.int .u64 id) := by rw [hb.cell (by exact hcl)]; exact hc
      go_wp2_with (go_at_call 29; refine (place1_w _ _ _ _ _ _ hcl' hc').mono ?_; rintro e w' ⟨rfl, hb1⟩)
      · go_ret
        rename_i ht
        refine ⟨?_, hb.trans hb1⟩
        rw [idxOf_hit hlt HN.out ht]
        rfl
      · rename_i ht
        go_roundw
        case rel => exact ⟨k + 1, by omega, by go_num, rfl, hb.trans hb1, fun j hj => by
          rcases Nat.lt_succ_iff_lt_or_eq.1 hj with h | rfl
          · exact HN.out j h
          · exact ht⟩
        case measure => simp [intOf]; omega
    · go_wp2
      go_ret
      obtain rfl : k = xs.length := by omega
      refine ⟨?_, hb⟩
      rw [idxOf_miss HN.out]
      rfl

set_option maxHeartbeats 400000 in
theorem place_w (xs : List Ent) (id : Int) (v : Value) (w : World) (hm : xs.length ≤ 35184372088832) (hx : Ents w v xs) :
    Calls Try.prog 16 #[v, .int .u64 id] w fun e w' => e = .returned (.int .i64 (optI (idxOf id xs))) ∧ Ext w w' := by
  obtain ⟨q, cap, rfl, _, _⟩ := hx.shape
  have fin : Ext w (w.alloc (.cells #[.int .u64 id] 23)) := (Below.refl _ _).alloc (Nat.le_refl _) _
  have hx' := hx.ext fin
  go_enter Try.func16, Try.ntmps16
  go_wp2_with (go_at_call 28; refine (indexFunc_w xs id q cap w.heap.size 0 _ hm hx' (by simp) (by simp)).mono ?_; rintro e w' ⟨rfl, hb1⟩)
  go_ret
  exact ⟨rfl, fin.trans hb1⟩

set_option maxHeartbeats 400000 in
theorem rplace_w (xs : List Ent) (id : Int) (v : Value) (w : World) (hm : xs.length ≤ 35184372088832) (hx : Ents w v xs) :
    Calls Try.prog 17 #[v, .int .u64 id] w fun e w' => e = .returned (.int .i64 (optI (idxOf id xs))) ∧ Ext w w' := by
  obtain ⟨q, cap, rfl, _, _⟩ := hx.shape
  go_enter Try.func17, Try.ntmps17
  go_wp2
  go_loopw [4, 5] (fun r i wr => ∃ k : Nat, k ≤ xs.length ∧ i = .int .i64 k ∧ r = .int .i64 0 ∧ Ext w wr ∧ Hid (∀ j, j < k → ((ent xs j).1 == id) = false)) (fun _ i _ => xs.length - (intOf i).toNat)
  case atStart => exact ⟨0, by omega, rfl, rfl, Ext.refl w, fun j hj => by omega⟩
  case round =>
    obtain ⟨k, hk, rfl, rfl, hb, HN⟩ := hrel
    by_cases hlt : k < xs.length
    · obtain ⟨b, off, rfl, hbl, c0, c1⟩ := (hx.ext hb).at hlt
      go_wp2
      · go_ret
        rename_i ht
        refine ⟨?_, hb⟩
        rw [idxOf_hit hlt HN.out ht]
        rfl
      · rename_i ht
        go_roundw
        case rel => exact ⟨k + 1, by omega, by go_num, rfl, hb, fun j hj => by
          rcases Nat.lt_succ_iff_lt_or_eq.1 hj with h | rfl
          · exact HN.out j h
          · exact ht⟩
        case measure => simp [intOf]; omega
    · go_wp2
      go_ret
      obtain rfl : k = xs.length := by omega
      refine ⟨?_, hb⟩
      rw [idxOf_miss HN.out]
      rfl

end Go.Proofs.Ytgkjpablofckjaa
