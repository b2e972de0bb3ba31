/- Texts of the base. -/

import Derived.Test.YtefjdmjkofaajaaGreatDoorT8
import Derived.Test.YtefjdmjkofaajaaGreatDoorT15
namespace Go.Proofs.YtefjdmjkofaajaaGreatDoor
open Go.RowKit Go.Dm
set_option maxHeartbeats 2000000 in
set_option maxRecDepth 100000 in
theorem m04getO_w (s : ByteArray) (p : Int) (w : World) (hs : s.size ≤ 281474976710656) :
  Calls Tryz.prog 90 #[.string s, .int .i64 p] w fun e w' => ∃ r l n b, e = .returned (.tuple #[r, .int .i64 n, .bool b]) ∧ Pairs w' r l ∧ atI getLabL [] s.data.toList p = (labL l, n, b) ∧ FitP l ∧ l.length ≤ 8 ∧ (∀ c, r.ownBlock = some c → w.heap.size ≤ c) ∧ Ext w w' := by
 have hln : s.data.toList.length = s.size := rfl
 have C := rget_w s p w hs
 have HN := getLab_no (l := s.data.toList) (p := p)
 have HY := fun xs n => getLab_yes (l := s.data.toList) (p := p) (xs := xs) (n := n)
 cases hc : (getI s.data.toList p).2.2 with
 | false =>
  have hz := Lib.hid (HN (by rw [someI_no hc]))
  rw [hc] at C
  clear hc HN HY
  generalize (getI s.data.toList p).1 = u at C
  generalize (getI s.data.toList p).2.1 = n at C
  go_enter Tryz.func90, Tryz.ntmps90
  go_wp2_with (refine C.mono ?_; rintro e w' ⟨rfl, hb⟩)
  refine bodyPost_ret (results3 rfl _ _ _) rfl ?_
  exact ⟨_, [], 0, false, rfl, Pairs.nil _, hz.out, FitP.nil, by simp, (fun c h => by cases h), hb⟩
 | true =>
  have hin : ¬ (p < 0 ∨ (s.data.toList.length : Int) ≤ p) := fun h => by rw [getI_out h] at hc; cases hc
  obtain ⟨q, rfl⟩ : ∃ q : Nat, p = (q : Int) := ⟨p.toNat, by omega⟩
  rw [hln] at hin
  have hq : q < s.size := by omega
  rw [getI_in (by rw [hln]; exact hq)] at C hc
  have HA : atI (someL getPairL 8) [] s.data.toList (q : Int) = match someL getPairL 8 (s.data.toList.drop q) with | some (u, m) => (u, (q : Int) + (m : Int), true) | none => ([], 0, false) := by
   unfold atI; rw [if_neg (by rw [hln]; exact hin), show ((q : Int)).toNat = q from rfl]; cases someL getPairL 8 (s.data.toList.drop q) <;> rfl
  rw [HA] at HN HY
  clear HA
  generalize atI getLabL [] s.data.toList (q : Int) = GL at HN HY
  cases hg : getL (s.data.toList.drop q) with
  | none => rw [hg] at hc; cases hc
  | some x =>
   obtain ⟨u, n⟩ := x
   rw [hg] at C
   rw [someL_some hg] at HN HY
   obtain ⟨l1, l2, l3, l4⟩ := getL_len hg
   rw [List.length_drop, hln] at l2
   clear hc hg hin
   simp only at C
   by_cases hu : u ≤ 8
   ·rw [if_pos hu] at HN HY
    have HZ : readsL getPairL (s.data.toList.drop q) n u = none → GL = ([], 0, false) := fun h => HN (by rw [h])
    have HS : ∀ xs r, readsL getPairL (s.data.toList.drop q) n u = some (xs, r) → GL = if rightLab xs = true then (xs, (q : Int) + (r : Int), true) else ([], 0, false) := fun xs r h => HY xs _ (by rw [h])
    clear HN HY
    replace HZ := Lib.hid HZ
    replace HS := Lib.hid HS
    have hwu : IntKind.i64.wrap (u : Int) = (u : Int) := by
     simp only [IntKind.wrap, IntKind.bits, IntKind.signed]
     simp; omega
    go_enter Tryz.func90, Tryz.ntmps90
    go_wp2_with (refine C.mono ?_; rintro e w1 ⟨rfl, h1⟩)
    go_loopw [9, 1, 10] (fun v a' i' wr => ∃ (k : Nat) (xs : List PairS) (r : Nat), k ≤ u ∧ i' = .int .i64 k ∧ a' = .int .i64 ((q : Int) + (r : Int)) ∧ Ext w1 wr ∧ wr.ownsRow w1.heap.size 127 2 v k (pairCells xs) ∧ xs.length = k ∧ FitP xs ∧ Hid (readsL getPairL (s.data.toList.drop q) n k = some (labL xs, r))) (fun _ _ i' _ => u - (intOf i').toNat)
    case atStart => exact ⟨0, [], n, by omega, rfl, rfl, Ext.refl _, World.ownsRow_nil _ _ _ _, rfl, FitP.nil, Lib.hid rfl⟩
    case round =>
     obtain ⟨k, xs, r, hk, rfl, rfl, hb, ho, hxl, hF, HR⟩ := hrel
     by_cases hlt : k < u
     ·have C1 := rgettext_w s ((q : Int) + (r : Int)) 32 wr hs (by omega)
      have HN1 := getPairI_no1 (l := s.data.toList) (p := (q : Int) + (r : Int))
      have HT := getPairI_two (l := s.data.toList) (p := (q : Int) + (r : Int))
      have hw3 := h1.trans hb
      obtain ⟨T1, hT1⟩ : ∃ T, T = atI (getTextL 32) [] s.data.toList ((q : Int) + (r : Int)) := ⟨_, rfl⟩
      rw [← hT1] at C1 HN1 HT
      clear hT1
      obtain ⟨k1, n1, b1⟩ := T1
      simp only at C1 HN1 HT
      have C2 := fun w2 => rgettext_w s n1 32 w2 hs (by omega)
      cases b1 with
      | false =>
       have hno := Lib.hid (HZ.out (readsL_none (readsL_stop HR.out (HN1 rfl)) (show k + 1 ≤ u by omega)))
       clear HT HN1
       generalize atI (getTextL 32) [] s.data.toList n1 = T2 at C2
       obtain ⟨k2, n2, b2⟩ := T2
       simp only at C2
       replace C2 := Lib.hid C2
       go_wp2_with fail
       refine C1.mono ?_; rintro e w2 ⟨rfl, h2⟩
       clear C1
       go_wp2_with fail
       refine (C2.out w2).mono ?_; rintro e w3 ⟨rfl, h3⟩
       go_wp2
       refine bodyPost_ret (results3 rfl _ _ _) rfl ?_
       exact ⟨_, [], 0, false, rfl, Pairs.nil _, hno.out, FitP.nil, by simp, (fun c h => by cases h), hw3.trans (h2.trans h3)⟩
      | true =>
       obtain ⟨HT1, HT2⟩ := HT rfl
       clear HT HN1
       generalize atI (getTextL 32) [] s.data.toList n1 = T2 at C2 HT1 HT2
       obtain ⟨k2, n2, b2⟩ := T2
       simp only at C2 HT1 HT2
       replace C2 := Lib.hid C2
       cases b2 with
       | false =>
        have hno := Lib.hid (HZ.out (readsL_none (readsL_stop HR.out HT1) (show k + 1 ≤ u by omega)))
        clear HT1 HT2
        go_wp2_with fail
        refine C1.mono ?_; rintro e w2 ⟨rfl, h2⟩
        clear C1
        go_wp2_with fail
        refine (C2.out w2).mono ?_; rintro e w3 ⟨rfl, h3⟩
        go_wp2
        refine bodyPost_ret (results3 rfl _ _ _) rfl ?_
        exact ⟨_, [], 0, false, rfl, Pairs.nil _, hno.out, FitP.nil, by simp, (fun c h => by cases h), hw3.trans (h2.trans h3)⟩
       | true =>
        have hpl : pL ((⟨k1.toArray⟩, ⟨k2.toArray⟩) : PairS) = (k1, k2) := by simp [pL]
        obtain ⟨r2, hr2, hf1, hf2, HR2⟩ := readsL_go (P := (⟨k1.toArray⟩, ⟨k2.toArray⟩)) HR.out (by rw [hpl]; exact HT2 rfl)
        simp only at hf1 hf2
        subst hr2
        replace HR2 := Lib.hid HR2
        clear HT1 HT2 hpl
        generalize (⟨k1.toArray⟩ : ByteArray) = A at *
        generalize (⟨k2.toArray⟩ : ByteArray) = B at *
        go_wp2_with fail
        refine C1.mono ?_; rintro e w2 ⟨rfl, h2⟩
        clear C1
        go_wp2_with fail
        refine (C2.out w2).mono ?_; rintro e w3 ⟨rfl, h3⟩
        clear C2
        have hb4 := ((hb.trans h2).trans h3).trans ((Ext.refl w3).alloc (.cells #[.string A, .string B] 127))
        have ho4 := Ext.row (Ext.row (Ext.row ho h2) h3) ((Ext.refl w3).alloc (.cells #[.string A, .string B] 127))
        have hl4 := Sl.lit w3 127 2 1 #[.string A, .string B] rfl (by simp [maxLen])
        clear ho
        go_wp2_with (at_builtin; refine wpList_appE rfl _ _ Tryz.slPair2 rfl hb4 rfl ho4 rfl hl4 (pairCells_one [(A, B)]) (by omega) ?_; intro v5 w5 ho5 hb5 _)
        go_roundw
        case rel => exact ⟨k + 1, xs ++ [(A, B)], r2, by omega, by go_num, rfl, hb5, by rw [pairCells_app]; exact ho5, by simp [hxl], fit_snoc hF (by simp only; omega) (by simp only; omega), HR2⟩
        case measure => simp [intOf]; omega
     ·obtain rfl : k = u := by omega
      have hP : Pairs wr _ xs := Pairs.of_row ho hxl.symm
      have CR := mright_w xs _ wr hF hP
      have hs' := HS.out _ _ HR.out
      cases hR : rightLab (labL xs) with
      | false =>
       rw [hR] at CR hs'
       rw [if_neg (by decide)] at hs'
       replace hs' := Lib.hid hs'
       clear hR
       go_wp2_with fail
       refine CR.mono ?_; rintro e w3 ⟨rfl, h3⟩
       go_wp2
       refine bodyPost_ret (results3 rfl _ _ _) rfl ?_
       exact ⟨_, [], 0, false, rfl, Pairs.nil _, hs'.out, FitP.nil, by simp, (fun c h => by cases h), h1.trans (hb.trans h3)⟩
      | true =>
       rw [hR] at CR hs'
       rw [if_pos rfl] at hs'
       replace hs' := Lib.hid hs'
       clear hR
       go_wp2_with fail
       refine CR.mono ?_; rintro e w3 ⟨rfl, h3⟩
       go_wp2
       refine bodyPost_ret (results3 rfl _ _ _) rfl ?_
       exact ⟨_, xs, _, true, rfl, hP.ext h3, hs'.out, hF, by omega, (fun c e => by have := (World.ownsRow.lt ho c e).1; have := h1.size; omega), h1.trans (hb.trans h3)⟩
   ·rw [if_neg hu] at HN
    have hz := Lib.hid (HN rfl)
    clear HN HY
    go_enter Tryz.func90, Tryz.ntmps90
    go_wp2_with (refine C.mono ?_; rintro e w1 ⟨rfl, h1⟩)
    all_goals
     refine bodyPost_ret (results3 rfl _ _ _) rfl ?_
     exact ⟨_, [], 0, false, rfl, Pairs.nil _, hz.out, FitP.nil, by simp, (fun c h => by cases h), h1⟩
end Go.Proofs.YtefjdmjkofaajaaGreatDoor
