/- Chapter 14: the walk of the program's Take. -/
import Derived.Test.YtgkjpablofckjaaQWalkC
namespace Go.Proofs.Ytgkjpablofckjaa
open Go.RowKit Go.Dm

set_option maxHeartbeats 400000 in
theorem take_w (xs : List Ent) (id : Int) (v : Value) (w : World) (hm : xs.length ≤ 8796093022208) (hx : Ents w v xs) :
    Calls Try.prog 13 #[v, .int .u64 id] w
      fun e w' => ∃ r, e = .returned (.tuple #[r, .bool (takeF xs id).2]) ∧ Ents w' r (takeF xs id).1 ∧ Ext w w' := by
  obtain ⟨q, cap, rfl, hcap, hcm⟩ := hx.shape
  cases hk : idxOf id xs with
  | none =>
    have HT := Lib.hid (show takeF xs id = (xs, false) by simp [takeF, hk])
    have HK := Lib.hid hk; clear hk
    go_enter Try.func13, Try.ntmps13
    go_wp2_with (go_at_call 16; go_must (have hp := place_w xs id _ w (by omega) hx; rw [HK.out] at hp; refine hp.mono ?_; clear hp; rintro e w' ⟨rfl, hb1⟩; simp only [optI]))
    go_ret2
    rw [HT.out]
    exact ⟨_, rfl, hx.ext hb1, hb1⟩
  | some k =>
    have hlt := idxOf_lt hk
    have HT := Lib.hid (show takeF xs id = (xs.take k ++ xs.drop (k + 1), true) by simp [takeF, hk])
    have HK := Lib.hid hk; clear hk
    obtain ⟨n, hn⟩ : ∃ n, n = xs.length - 1 := ⟨_, rfl⟩
    have hkn : k ≤ n := by omega
    have hn1 : n + 1 = xs.length := by omega
    have hnle : n ≤ xs.length := by omega
    have HN := Lib.hid hn1; clear hn1 hn
    have hln : ((xs.length : Int) - 1) = (n : Int) := by have := HN.out; omega
    have HLN := Lib.hid hln; clear hln
    have hw1 : IntKind.i64.wrap ((k : Int) + 1) = (k : Int) + 1 := IntWalk.i64_in _ (by omega)
    have hsl := fun (p : Option Addr) w => run_slice_high (P := Try.prog) 22 25 2 Try.slEnt.ht Try.slEnt.hs p xs.length cap k (by omega) w
    have hsh := fun (p : Option Addr) w => run_slice_low (P := Try.prog) 22 25 2 Try.slEnt.ht Try.slEnt.hs p xs.length cap (k + 1) (by omega) w
    have hso := fun (p : Option Addr) w => run_slice_low (P := Try.prog) 22 25 2 Try.slEnt.ht Try.slEnt.hs p n n k hkn w
    simp only [Int.natCast_add, Int.cast_ofNat_Int] at hsh
    obtain ⟨i0, z0, hi, hz, hsz, hby, hzs⟩ := Try.slEnt.info
    go_enter Try.func13, Try.ntmps13
    go_wp2_with (first
      | (go_at_call 16; go_must (have hp := place_w xs id _ w (by omega) hx; rw [HK.out] at hp; refine hp.mono ?_; clear hp; rintro e w1 ⟨rfl, hb1⟩; simp only [optI]))
      | (at_make; go_must (
          refine wpList_make_full _ rfl _ _ 22 rfl w1.heap.size 25 i0 z0 2 Try.underlying22 hi hz hsz .i64 .i64 _ _ n rfl rfl HLN.out HLN.out (by rw [hby]; omega) (by simp only [maxLen]; omega) (Nat.le_refl _) ?_
          intro w2 ho2 hg2
          have hb2 : Ext w1 w2 := (Below.refl _ _).grown hg2 (Nat.le_refl _) (fun k hk => by cases hk)
          have hHG : Hid (∃ cur : List Value, w2.heap[w1.heap.size]? = some (.cells cur.toArray 25 (0, 0)) ∧ cur.length = n * 2) := by
            rcases ho2.2 with ⟨h, _⟩ | ⟨g, cap', cur, h, _, hg, _, _, hc, _⟩
            · cases h
            · simp only [Value.slice.injEq, Option.some.injEq, Addr.mk.injEq, and_true, true_and] at h
              obtain ⟨rfl, rfl⟩ := h
              exact ⟨cur.toList, by rw [Array.toArray_toList]; exact hg, by simpa using hc⟩
          obtain ⟨cur, hgc, hcl⟩ := hHG.out
          clear hHG ho2 hg2
          have HCL := Lib.hid hcl; clear hcl
          have hxr := (hx.ext hb1).ext hb2))
      | (refine wpList_copy rfl _ _ Try.slEnt rfl rfl rfl hgc (Sl.take hxr (Nat.le_of_lt hlt)) (by rw [entCells_take]; exact entCells_one _) hkn (off := 0) (fun _ => rfl) (by rw [entCells_take, entCells_len, HCL.out, List.length_take]; omega) ?_
         have hX3 : Ext w1 (w2.setRow w1.heap.size (splice cur 0 ((entCells xs).take (k * 2))).toArray) := hb2.setRow (Nat.le_refl _) _
         have hg3 := setRow_heap w2 w1.heap.size cur.toArray (splice cur 0 ((entCells xs).take (k * 2))).toArray 25 (0, 0) hgc
         obtain ⟨G, hG⟩ : ∃ G, G = w1.heap.size := ⟨_, rfl⟩
         have HG := Lib.hid hG
         rw [← hG] at hg3 hX3 hgc ⊢
         clear hG
         generalize w2.setRow G (splice cur 0 ((entCells xs).take (k * 2))).toArray = W at *
         clear hgc))
    have hb0 : w1.heap.size ≤ G := by rw [HG.out]; exact Nat.le_refl _
    try simp only [Act.put, List.setIfInBounds_toArray, List.set_cons_succ, List.set_cons_zero]
    refine Dm.wp_region_ext 8 (Dm.bits 8 0) hX3 (by kernel_rfl) (by kernel_rfl) (by kernel_rfl) ?_
    refine Dm.wpE_take (i := 0) (listed' := (Dm.bits 8 1)) (by kernel_rfl) (by kernel_rfl) rfl (fun _ _ _ _ h => h) ?_; apply Exists.intro; refine And.intro (fun x => ?_) ?_
    · go_big_quiet_step (fail); exact wpQuiet_nil rfl
    refine Dm.wpE_take (i := 1) (listed' := (Dm.bits 8 3)) (by kernel_rfl) (by kernel_rfl) rfl (fun _ _ _ _ h => h) ?_; apply Exists.intro; refine And.intro (fun x => ?_) ?_
    · go_big_quiet_step (fail); exact wpQuiet_nil rfl
    refine Dm.wpE_take (i := 2) (listed' := (Dm.bits 8 7)) (by kernel_rfl) (by kernel_rfl) rfl (fun _ _ _ _ h => h) ?_; apply Exists.intro; refine And.intro (fun x => ?_) ?_
    · go_big_quiet_step (fail); exact wpQuiet_nil rfl
    refine Dm.wpE_take (i := 3) (listed' := (Dm.bits 8 15)) (by kernel_rfl) (by kernel_rfl) rfl (fun _ _ _ _ h => h) ?_; apply Exists.intro; refine And.intro (fun x => ?_) ?_
    · go_big_quiet_step (fail); exact wpQuiet_nil rfl
    refine Dm.wpE_take (i := 4) (listed' := (Dm.bits 8 31)) (by kernel_rfl) (by kernel_rfl) rfl (fun _ _ _ _ h => h) ?_; apply Exists.intro; refine And.intro (fun x => ?_) ?_
    · go_big_quiet_step (fail); exact wpQuiet_nil rfl
    refine Dm.wpE_take (i := 5) (listed' := (Dm.bits 8 63)) (by kernel_rfl) (by kernel_rfl) rfl (fun _ _ _ _ h => h) ?_; apply Exists.intro; refine And.intro (fun x => ?_) ?_
    · go_big_quiet_step (fail); exact wpQuiet_nil rfl
    refine Dm.wpE_take (i := 6) (listed' := (Dm.bits 8 127)) (by kernel_rfl) (by kernel_rfl) rfl (fun _ _ _ _ h => h) ?_; apply Exists.intro; refine And.intro (fun x => ?_) ?_
    · go_big_quiet_step (fail); exact wpQuiet_nil rfl
    refine Dm.wpE_one (i := 7) (listed' := (Dm.bits 8 255)) (by kernel_rfl) (by kernel_rfl) rfl hX3 (fun w1a hx1a => ?_)
    have hX1a := Ext.trans hX3 hx1a
    refine wpList_copy rfl _ _ Try.slEnt rfl rfl rfl (Ext.heap hg3 hx1a) (Sl.drop ((hx.ext hb1).ext hX1a) hlt) (by rw [entCells_drop]; exact entCells_one _) (by have := HN.out; omega) (fun h => dropV_addr (by have := HN.out; omega) (Nat.le_refl _)) ?_ ?_
    · rw [entCells_drop, entCells_len, List.length_drop, length_splice _ _ _ (by rw [entCells_take, entCells_len, HCL.out, List.length_take]; omega), HCL.out]; have := HN.out; omega
    have hg4 := setRow_heap w1a G _ (splice (splice cur 0 ((entCells xs).take (k * 2))) (0 + k * 2) ((entCells xs).drop ((k + 1) * 2))).toArray 25 (0, 0) (Ext.heap hg3 hx1a)
    have hX1b : Ext w1 (w1a.setRow G (splice (splice cur 0 ((entCells xs).take (k * 2))) (0 + k * 2) ((entCells xs).drop ((k + 1) * 2))).toArray) := hX1a.setRow hb0 _
    generalize w1a.setRow G (splice (splice cur 0 ((entCells xs).take (k * 2))) (0 + k * 2) ((entCells xs).drop ((k + 1) * 2))).toArray = w1b at *
    refine wpList_nil ?_
    try simp only [Exit.then, Act.put, List.setIfInBounds_toArray, List.set_cons_succ, List.set_cons_zero]
    refine Dm.wpE_done (by kernel_rfl) hX1b (fun w2a hx2a => ?_)
    have hX2a := Ext.trans hX1b hx2a
    replace hg4 := Ext.heap hg4 hx2a
    go_wp2
    go_ret2
    rw [HT.out]
    refine ⟨_, rfl, Ents.of_row (B := 0) (e := 25) (n := n) (cs := entCells (xs.take k ++ xs.drop (k + 1))) ⟨?_, Or.inr ⟨G, n, _, rfl, Nat.zero_le _, hg4, Nat.le_refl _, by simp only [maxLen]; omega, ?_, ?_⟩⟩ ?_ rfl, hb1.trans hX2a⟩
    · rw [entCells_len, List.length_append, List.length_take, List.length_drop]; have := HN.out; omega
    · rw [List.size_toArray, length_splice, length_splice, HCL.out]
      · rw [entCells_take, entCells_len, HCL.out, List.length_take]; omega
      · rw [length_splice, HCL.out, entCells_drop, entCells_len, List.length_drop]
        · have := HN.out; omega
        · rw [entCells_take, entCells_len, HCL.out, List.length_take]; omega
    · have hA : ((entCells xs).take (k * 2)).length = k * 2 := by rw [entCells_take, entCells_len, List.length_take]; omega
      have hB : ((entCells xs).drop ((k + 1) * 2)).length = (n - k) * 2 := by rw [entCells_drop, entCells_len, List.length_drop]; have := HN.out; omega
      have := splice_two cur ((entCells xs).take (k * 2)) ((entCells xs).drop ((k + 1) * 2)) (by rw [hA, hB, HCL.out]; omega)
      rw [hA] at this
      rw [show 0 + k * 2 = k * 2 by omega, this, entCells_append, ← entCells_take, ← entCells_drop, List.take_of_length_le (by rw [List.length_append, hA, hB]; omega)]
    · rw [List.length_append, List.length_take, List.length_drop]; have := HN.out; omega

end Go.Proofs.Ytgkjpablofckjaa
