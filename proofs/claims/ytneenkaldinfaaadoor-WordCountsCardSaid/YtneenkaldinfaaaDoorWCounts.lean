/- WordCounts: the walk: runes of two texts, one behind the other, are those of both; bytes that are no rune's count one each. -/
import Derived.Test.YtneenkaldinfaaaDoorWWalkE
import Derived.Test.YtneenkaldinfaaaDoorWLaws
namespace Go.Dm
open Go Go.RowKit

/-- Bytes that are no rune's. -/
def badL (k : Nat) : Bs := List.replicate k 255

theorem decL_bad (rest : Bs) : decL (255 :: rest) = (65533, 1) := by
  unfold decL
  rw [bAt_zero]
  simp

theorem bad_count : ∀ (k : Nat) (rest : Bs), countL (badL k ++ rest) = k + countL rest
  | 0, rest => by simp [badL]
  | k + 1, rest => by
    have ih := bad_count k rest
    have hw : wideL (255 :: (badL k ++ rest)) = 1 := by unfold wideL; rw [decL_bad]
    show countL (255 :: (badL k ++ rest)) = _
    rw [countL_step (by simp), hw, List.drop_succ_cons, List.drop_zero, ih]
    omega

theorem bad_not (k : Nat) : okL false (badL (k + 1)) = false := by
  have hr : runeL (255 :: badL k) = 65533 := by unfold runeL; rw [decL_bad]
  show okL false (255 :: badL k) = false
  rw [okL_step _ (by simp), hr]
  rfl

theorem badL_snoc (k : Nat) : badL k ++ [255] = badL (k + 1) := by
  unfold badL
  rw [List.replicate_succ']

theorem made_badk (zs : List Int) (h : ∀ z ∈ zs, 0 ≤ z) (k : Nat) : rightL (madeL zs ++ badL k) = decide (k = 0) := by
  cases k with
  | zero => rw [show badL 0 = [] from rfl, List.append_nil, (made_right zs h).1]; rfl
  | succ k => rw [made_bad zs h (bad_not k)]; rfl
end Go.Dm
namespace Go.Proofs.YtneenkaldinfaaaDoor
open Go.RowKit Go.Dm

set_option maxHeartbeats 4000000 in
set_option maxRecDepth 100000 in
theorem counts_w (zs ys : List Int) (n : Int) (v u : Value) (w : World) (hz : ∀ z ∈ zs, 0 ≤ z ∧ z ≤ 255) (hm : zs.length ≤ 140737488355328) (hx : Nums w .u8 v zs)
    (hz' : ∀ z ∈ ys, 0 ≤ z ∧ z ≤ 255) (hm' : ys.length ≤ 140737488355328) (hy : Nums w .u8 u ys) (hn : 0 ≤ n ∧ n ≤ 255) (ht : Vars w) :
    Calls Tryd.prog 5 #[v, u, .int .u8 n] w fun e w' => e = .returned (.bool true) ∧ Ext w w' := by
  obtain ⟨q, cap, rfl, hcap, hcm⟩ := hx.shape
  obtain ⟨q2, cap2, rfl, hcap2, hcm2⟩ := hy.shape
  have h0 : ∀ z ∈ zs, 0 ≤ z := fun z h => (hz z h).1
  have h0' : ∀ z ∈ ys, 0 ≤ z := fun z h => (hz' z h).1
  obtain ⟨k, hk, hkq⟩ : ∃ k : Nat, k ≤ 7 ∧ n.tmod 8 = (k : Int) := by
    refine ⟨(n.tmod 8).toNat, ?_, ?_⟩
    · have := Int.tmod_lt_of_pos n (show (0 : Int) < 8 by omega)
      omega
    · have := Int.tmod_nonneg 8 hn.1
      omega
  have hke : n % 8 = (k : Int) := by rw [← Int.tmod_eq_emod_of_nonneg hn.1]; exact hkq
  go_enter Tryd.func5, Tryd.ntmps5
  go_wp2_with fail
  refine (examples_w w ht).mono ?_; rintro e w1 ⟨rfl, e1⟩
  go_wp2_with fail
  refine (made_w zs _ _ hz (by unfold maxLen; omega) (hx.ext e1)).mono ?_; rintro e w2 ⟨_, rfl, ⟨s, rfl, hs⟩, h2⟩
  have e2 := e1.trans h2
  go_wp2_with fail
  refine (made_w ys _ _ hz' (by unfold maxLen; omega) (hy.ext e2)).mono ?_; rintro e w3 ⟨_, rfl, ⟨t, rfl, hs'⟩, h3⟩
  have e3 := e2.trans h3
  have hsl : s.size ≤ 31 := by rw [size_len, hs]; exact madeL_len zs
  have hsl' : t.size ≤ 31 := by rw [size_len, hs']; exact madeL_len ys
  clear hx hy
  go_wp2
  go_loopw [10, 11] (fun r i' wr => ∃ i : Nat, i ≤ k ∧ i' = .int .i64 i ∧ Ext w3 wr ∧ ∃ b, r = .string b ∧ b.data.toList = badL i) (fun _ i' _ => k - (intOf i').toNat)
  case atStart => exact ⟨0, by omega, rfl, Ext.refl _, ⟨#[]⟩, rfl, rfl⟩
  case round =>
    obtain ⟨i, hi, rfl, hbi, b, rfl, hb⟩ := hrel
    have hbs : b.size = i := by rw [size_len, hb]; simp [badL]
    have hbs7 : b.size ≤ 7 := by omega
    clear hbs
    by_cases hlt : i < k
    · have hst := Lib.hid (show (b ++ (⟨#[255]⟩ : ByteArray)).data.toList = badL (i + 1) by rw [data_append, hb]; exact badL_snoc i)
      go_wp2
      go_roundw
      case rel => exact ⟨i + 1, by omega, by go_num, hbi, _, rfl, hst.out⟩
      case measure => simp [intOf]; omega
    · obtain rfl : i = k := by omega
      have hA := (made_right zs h0).2
      have hB := (made_right ys h0').2
      have v1 : countL (s ++ t).data.toList = madeN zs + madeN ys := by rw [data_append, hs, hs', (made_ok zs _ h0).2, hB]
      have v2 : countL ((s ++ b) ++ t).data.toList = madeN zs + i + madeN ys := by
        rw [data_append, data_append, hs, hs', hb, List.append_assoc, (made_ok zs _ h0).2, bad_count, hB]; omega
      have v3 : rightL (s ++ b).data.toList = decide (i = 0) := by rw [data_append, hs, hb]; exact made_badk zs h0 i
      have w1 : (s ++ t).size ≤ 100 := by rw [ByteArray.size_append]; omega
      have w2 : ((s ++ b) ++ t).size ≤ 100 := by rw [ByteArray.size_append, ByteArray.size_append]; omega
      have w3' : (s ++ b).size ≤ 100 := by rw [ByteArray.size_append]; omega
      have HV := Lib.hid (And.intro v1 (And.intro v2 v3))
      have HW := Lib.hid (And.intro w1 (And.intro w2 w3'))
      clear v1 v2 v3 w1 w2 w3'
      rw [← hs] at hA
      rw [← hs'] at hB
      have HA := Lib.hid hA
      have HB := Lib.hid hB
      clear hA hB hs hs' hb
      have hAl : madeN zs ≤ 16 := by unfold madeN; omega
      have hBl : madeN ys ≤ 16 := by unfold madeN; omega
      generalize madeN zs = A at *
      generalize madeN ys = B at *
      have f0 := e3.trans hbi
      go_wp2_with fail
      refine (count_w _ wr (by have := HW.out.1; omega)).mono ?_; rintro e y1 ⟨rfl, g1⟩
      have f1 := f0.trans g1
      rw [HV.out.1]
      go_wp2_with fail
      refine (count_w s y1 (by omega)).mono ?_; rintro e y2 ⟨rfl, g2⟩
      have f2 := f1.trans g2
      rw [HA.out]
      go_wp2_with fail
      refine (count_w t y2 (by omega)).mono ?_; rintro e y3 ⟨rfl, g3⟩
      have f3 := f2.trans g3
      rw [HB.out]
      go_wp2_with fail
      refine (count_w _ y3 (by have := HW.out.2.1; omega)).mono ?_; rintro e y4 ⟨rfl, g4⟩
      have f4 := f3.trans g4
      rw [HV.out.2.1]
      go_wp2_with fail
      refine (count_w s y4 (by omega)).mono ?_; rintro e y5 ⟨rfl, g5⟩
      have f5 := f4.trans g5
      rw [HA.out]
      go_wp2_with fail
      refine (count_w t y5 (by omega)).mono ?_; rintro e y6 ⟨rfl, g6⟩
      have f6 := f5.trans g6
      rw [HB.out]
      go_wp2_with fail
      refine (right_w _ y6 (by have := HW.out.2.2; omega) (ht.tabs.ext f6)).mono ?_; rintro e y7 ⟨rfl, g7⟩
      have f7 := f6.trans g7
      rw [HV.out.2.2]
      by_cases hi0 : i = 0
      · have hib : ((i : Int) == 0) = true := by rw [beq_iff_eq]; omega
        rw [decide_eq_true hi0]
        clear hi0
        go_wp2_with fail
        refine (count_w _ y7 (by decide)).mono ?_; rintro e y8 ⟨rfl, g8⟩
        have f8 := f7.trans g8
        go_wp2
        go_ret
        exact ⟨rfl, f8⟩
      · have hib : ((i : Int) == 0) = false := by rw [beq_eq_false_iff_ne]; omega
        rw [decide_eq_false hi0]
        clear hi0
        go_wp2_with fail
        refine (count_w _ y7 (by decide)).mono ?_; rintro e y8 ⟨rfl, g8⟩
        have f8 := f7.trans g8
        go_wp2
        go_ret
        exact ⟨rfl, f8⟩

end Go.Proofs.YtneenkaldinfaaaDoor
