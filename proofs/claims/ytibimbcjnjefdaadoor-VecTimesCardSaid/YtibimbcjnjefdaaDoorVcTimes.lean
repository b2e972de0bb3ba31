/- Chapter 3: the walk of VecTimes. -/
import Derived.Test.YtibimbcjnjefdaaDoorVcExam
import Derived.Test.YtibimbcjnjefdaaDoorVcLawsB
namespace Go.Proofs.YtibimbcjnjefdaaDoor
open Go.RowKit Go.Dm

set_option maxHeartbeats 4000000 in
set_option maxRecDepth 100000 in
theorem vecTimes_w (a : Vc) (z m : Nat) (hz : z ≤ 255) (hm : m = z % 40) (w : World) (oa : OkV a) (hv : VarsV w) :
    Calls Tryd.prog 8 #[vVal a, .int .u8 (z : Nat)] w fun e w' => e = .returned (.bool true) ∧ Ext w w' := by
  have hm40 : m < 40 := by omega
  have hzm : ((z : Int) % 40) = (m : Nat) := by omega
  clear hm
  have CE := fun U h => vexamples_w U h
  have CA : ∀ k, vtimesOk a k = true → ∀ U, Calls Tryd.prog 11 #[vVal (vtimes a k), vVal a] U fun e w' => e = .returned (.tuple #[vVal (vOr (vtimesOk a (k + 1)) (vtimes a (k + 1))), .bool (vtimesOk a (k + 1))]) ∧ Ext U w' := fun k hk U => by
    have := vadd_w (vtimes a k) a (vtimes_okV hk) oa U
    rw [vtimesOk_step, vtimes_step] at this
    exact this
  have CT := fun U => vtimes_w a m oa (by unfold U64; omega) U
  have ot := vtimes_or_okV a m
  have q1 := fun U => run_eql_vals (P := Tryd.prog) Tryd.underlying24 Tryd.underlying22 (by kernel_rfl) ot ot U
  simp only [decide_true] at q1
  have hA := VBox.new w (vG a) 24
  have hE : Ext w (w.alloc (.cells #[.int .u64 (vG a 0 : Nat), .int .u64 (vG a 1 : Nat), .int .u64 (vG a 2 : Nat), .int .u64 (vG a 3 : Nat)] 24)) := (Ext.refl w).alloc _
  unfold vVal vF at CA CT q1
  replace CE := Lib.hid CE
  replace CA := Lib.hid CA
  replace CT := Lib.hid CT
  unfold vVal vF
  clear ot oa
  go_enter Tryd.func8, Tryd.ntmps8
  obtain ⟨_, zhA0, zhA1, zhA2, zhA3, _, _, _, _⟩ := hA.four
  go_wp2_with fail
  refine (CE.out _ (hv.ext hE)).mono ?_; rintro e w1 ⟨rfl, h1⟩
  clear zhA0 zhA1 zhA2 zhA3
  replace hA := hA.ext h1
  have hne : w1.heap.size ≠ w.heap.size := by
    have := hA.lt
    omega
  replace hA := hA.ext ((Ext.refl _).alloc (.cells #[.int .u64 0, .int .u64 0, .int .u64 0, .int .u64 0] 24))
  replace hE := hE.trans h1
  clear h1
  have hS := VBox.new w1 (vG noV) 24
  change VBox _ _ (w1.alloc (.cells #[.int .u64 0, .int .u64 0, .int .u64 0, .int .u64 0] 24)) at hS
  have hlt := hE.size
  go_wp2
  go_loopw [7, 8] (fun g i wr => ∃ (k : Nat) (s : Vc) (ok : Bool), k ≤ m ∧ g = .bool ok ∧ i = .int .i64 k ∧ Ext w wr ∧ VBox w.heap.size (vG a) wr ∧ VBox w1.heap.size (vG s) wr ∧ ((ok = true ∧ vtimesOk a k = true ∧ s = vtimes a k) ∨ (ok = false ∧ vtimesOk a m = false ∧ s = noV))) (fun _ i _ => m - (intOf i).toNat)
  case atStart => exact ⟨0, noV, true, by omega, rfl, rfl, hE.alloc _, hA, hS, Or.inl ⟨rfl, vtimesOk_zero a, (vtimes_zero a).symm⟩⟩
  case round =>
    obtain ⟨k, s, ok, hk, rfl, rfl, hx, bA, bS, hc⟩ := hrel
    clear hA hS
    by_cases hgo : ok = true ∧ k < m
    · obtain ⟨rfl, hkm⟩ := hgo
      obtain ⟨_, hok, rfl⟩ : _ ∧ vtimesOk a k = true ∧ s = vtimes a k := by rcases hc with h | h; exact h; exact absurd h.1 (by simp)
      clear hc
      have C := CA.out k hok
      have hnext : (vtimesOk a (k + 1) = true ∧ vtimesOk a (k + 1) = true ∧ vOr (vtimesOk a (k + 1)) (vtimes a (k + 1)) = vtimes a (k + 1)) ∨ (vtimesOk a (k + 1) = false ∧ vtimesOk a m = false ∧ vOr (vtimesOk a (k + 1)) (vtimes a (k + 1)) = noV) := by
        cases e : vtimesOk a (k + 1) with
        | true => exact Or.inl ⟨rfl, rfl, rfl⟩
        | false =>
          refine Or.inr ⟨rfl, ?_, rfl⟩
          cases e' : vtimesOk a m with
          | false => rfl
          | true => rw [vtimesOk_mono (i := k + 1) (by omega) e'] at e; cases e
      generalize vOr (vtimesOk a (k + 1)) (vtimes a (k + 1)) = s' at C hnext
      generalize hg : vtimesOk a (k + 1) = ok' at C
      rw [hg] at hnext
      replace hnext : (ok' = true ∧ vtimesOk a (k + 1) = true ∧ s' = vtimes a (k + 1)) ∨ (ok' = false ∧ vtimesOk a m = false ∧ s' = noV) := by rw [hg]; exact hnext
      replace hnext := Lib.hid hnext
      clear hg hok
      generalize vtimes a k = s at *
      replace C := Lib.hid C
      obtain ⟨_, zhA0, zhA1, zhA2, zhA3, _, _, _, _⟩ := bA.four
      obtain ⟨_, zhS0, zhS1, zhS2, zhS3, _, _, _, _⟩ := bS.four
      go_wp2_with fail
      refine (C.out _).mono ?_; rintro e w2 ⟨rfl, h2⟩
      clear zhA0 zhA1 zhA2 zhA3 zhS0 zhS1 zhS2 zhS3
      replace bA := bA.ext h2
      replace bS := bS.ext h2
      replace hx := hx.trans h2
      clear h2
      have hx' := hx.put4 (b := w1.heap.size) hlt (vG s')
      have bA' := bA.put_far hne (vG s')
      have bS' := bS.put (vG s')
      obtain ⟨_, zhS0, zhS1, zhS2, zhS3, fS0, fS1, fS2, fS3⟩ := bS.four
      go_wp2
      exact ⟨⟨k + 1, s', ok', by omega, rfl, by go_num, hx', bA', bS', hnext.out⟩, by simp [intOf]; omega⟩
    · have hs : s = vOr (vtimesOk a m) (vtimes a m) ∧ ok = vtimesOk a m := by
        rcases hc with ⟨rfl, h1, rfl⟩ | ⟨rfl, h1, rfl⟩
        · obtain rfl : k = m := by
            have : ¬ k < m := fun h => hgo ⟨rfl, h⟩
            omega
          rw [h1]; exact ⟨rfl, rfl⟩
        · rw [h1]; exact ⟨rfl, rfl⟩
      rw [← hs.1, ← hs.2] at CT
      rw [← hs.1] at q1
      have hk2 : (k < m ∧ ok = false) ∨ k = m := by
        by_cases h : k < m
        · exact Or.inl ⟨h, by cases ok with | false => rfl | true => exact absurd ⟨rfl, h⟩ hgo⟩
        · exact Or.inr (by omega)
      clear hgo hs hc CA hv
      rcases hk2 with ⟨hkm, rfl⟩ | rfl
      · obtain ⟨_, zhA0, zhA1, zhA2, zhA3, _, _, _, _⟩ := bA.four
        go_wp2_with fail
        refine (CT.out _).mono ?_; rintro e w2 ⟨rfl, h2⟩
        clear zhA0 zhA1 zhA2 zhA3
        replace bA := bA.ext h2
        replace bS := bS.ext h2
        replace hx := hx.trans h2
        clear h2
        obtain ⟨_, zhA0, zhA1, zhA2, zhA3, _, _, _, _⟩ := bA.four
        obtain ⟨_, zhS0, zhS1, zhS2, zhS3, _, _, _, _⟩ := bS.four
        go_wp2
        go_ret
        exact ⟨rfl, hx.alloc _⟩
      · obtain ⟨_, zhA0, zhA1, zhA2, zhA3, _, _, _, _⟩ := bA.four
        go_wp2_with fail
        refine (CT.out _).mono ?_; rintro e w2 ⟨rfl, h2⟩
        clear zhA0 zhA1 zhA2 zhA3
        replace bA := bA.ext h2
        replace bS := bS.ext h2
        replace hx := hx.trans h2
        clear h2
        obtain ⟨_, zhA0, zhA1, zhA2, zhA3, _, _, _, _⟩ := bA.four
        obtain ⟨_, zhS0, zhS1, zhS2, zhS3, _, _, _, _⟩ := bS.four
        go_wp2
        go_ret
        exact ⟨rfl, hx.alloc _⟩

theorem vecTimes_all_w (a : Vc) (z : Nat) (w : World) (oa : OkV a) (hz : z ≤ 255) (hv : VarsV w) :
    Calls Tryd.prog 8 #[vVal a, .int .u8 (z : Nat)] w fun e w' => e = .returned (.bool true) ∧ Ext w w' :=
  vecTimes_w a z (z % 40) hz rfl w oa hv

end Go.Proofs.YtibimbcjnjefdaaDoor
