/- Chapter 4: the walk of the program's Get (labels that stand at a place). -/
import Derived.Test.YtbkemhheombfcaaDoorVWalkF
namespace Go.Dm
open Go Go.RowKit

/-- The labels that stand first. -/
def getLabL (l : Bs) : Option (List PairL × Nat) :=
  match someL getPairL 8 l with
  | some (xs, n) => if rightLab xs = true then some (xs, n) else none
  | none => none
theorem getLab_no {l : Bs} {p : Int} (h : (atI (someL getPairL 8) [] l p).2.2 = false) : atI getLabL [] l p = ([], 0, false) := by
  unfold atI at *
  split
  · rfl
  · rename_i hp
    rw [if_neg hp] at h
    unfold getLabL
    cases hg : someL getPairL 8 (l.drop p.toNat) with
    | none => rfl
    | some x => rw [hg] at h; cases h
theorem getLab_yes {l : Bs} {p : Int} {xs : List PairL} {n : Int} (h : atI (someL getPairL 8) [] l p = (xs, n, true)) : atI getLabL [] l p = if rightLab xs = true then (xs, n, true) else ([], 0, false) := by
  unfold atI at *
  split
  · rename_i hp
    rw [if_pos hp] at h
    injection h with _ h; injection h with _ h; cases h
  · rename_i hp
    rw [if_neg hp] at h
    unfold getLabL
    cases hg : someL getPairL 8 (l.drop p.toNat) with
    | none => rw [hg] at h; injection h with _ h; injection h with _ h; cases h
    | some x =>
      obtain ⟨ys, m⟩ := x
      rw [hg] at h
      injection h with e1 h
      injection h with e2 _
      subst e1 e2
      simp only
      by_cases hr : rightLab ys = true
      · rw [if_pos hr, if_pos hr]
      · rw [if_neg hr, if_neg hr]
end Go.Dm
namespace Go.Proofs.YtbkemhheombfcaaDoor
open Go.RowKit Go.Dm

set_option maxHeartbeats 4000000 in
set_option maxRecDepth 100000 in
theorem lget_w (s : ByteArray) (p : Int) (w : World) (hs : s.size ≤ 281474976710656) (ht : Tabs w) :
    Calls Tryd.prog 24 #[.string s, .int .i64 p] w fun e w' => ∃ r l n b, e = .returned (.tuple #[r, .int .i64 n, .bool b]) ∧ Pairs w' r l ∧ FitP l ∧ l.length ≤ 8 ∧ atI getLabL [] s.data.toList p = (labL l, n, b) ∧ Ext w w' := by
  have C := lsome_w s p w hs
  have HN := getLab_no (l := s.data.toList) (p := p)
  have HY := fun xs n => getLab_yes (l := s.data.toList) (p := p) (xs := xs) (n := n)
  generalize atI (someL getPairL 8) [] s.data.toList p = T at C HN HY
  generalize atI getLabL [] s.data.toList p = G at HN HY
  replace HN := Lib.hid HN
  replace HY := Lib.hid HY
  go_enter Tryd.func24, Tryd.ntmps24
  go_wp2_with fail
  refine C.mono ?_; rintro e w1 ⟨r, l, n, b, rfl, hx, hF, h8l, rfl, h1⟩
  clear C
  cases b with
  | false =>
    go_wp2_with fail
    refine bodyPost_ret (results3 rfl _ _ _) rfl ?_
    exact ⟨_, [], 0, false, rfl, Pairs.nil _, FitP.nil, by simp, (by first | exact HN.out rfl | exact HN.out trivial), h1⟩
  | true =>
    obtain ⟨q, cap, rfl, hlc, hcm⟩ := hx.shape
    have hlm : l.length ≤ 35184372088832 := by omega
    have CR := lright_w l _ w1 hlm hF hx (ht.ext h1)
    replace HY := HY.out (labL l) n rfl
    cases hR : rightLab (labL l) with
    | false =>
      rw [hR] at CR HY
      rw [if_neg (by decide)] at HY
      clear hR
      replace HY := Lib.hid HY
      go_wp2_with fail
      refine CR.mono ?_; rintro e w2 ⟨rfl, h2⟩
      go_wp2_with fail
      refine bodyPost_ret (results3 rfl _ _ _) rfl ?_
      exact ⟨_, [], 0, false, rfl, Pairs.nil _, FitP.nil, by simp, HY.out, h1.trans h2⟩
    | true =>
      have h8 := (rightLab_iff.1 hR).1
      rw [labL_len] at h8
      rw [hR] at CR HY
      rw [if_pos rfl] at HY
      clear hR
      replace HY := Lib.hid HY
      go_wp2_with fail
      refine CR.mono ?_; rintro e w2 ⟨rfl, h2⟩
      go_wp2_with fail
      refine bodyPost_ret (results3 rfl _ _ _) rfl ?_
      exact ⟨_, l, n, true, rfl, hx.ext h2, hF, h8, HY.out, h1.trans h2⟩

end Go.Proofs.YtbkemhheombfcaaDoor
