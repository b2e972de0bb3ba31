/- Chapter 4: the walks of the document's Right, Find, Put, Text. -/
import Derived.Test.YtbkemhheombfcaaDoorLPlain
import Derived.Test.YtbkemhheombfcaaDoorVRefC
import Derived.Test.YtbkemhheombfcaaDoorRWalkB
namespace Go.Dm
open Go Go.RowKit
theorem rightLab_long {L : List PairL} (h : ¬ L.length ≤ 8) : rightLab L = false := by
  rw [Bool.eq_false_iff, Ne, rightLab_iff]
  exact fun hh => h hh.1
theorem join_snocC {c : UInt8} : ∀ {ns : List Bs} (p : Bs), ns ≠ [] → Lib.join (ns ++ [p]) [c] = Lib.join ns [c] ++ c :: p
  | [], _, h => absurd rfl h
  | [q], p, _ => by simp [Lib.join_cons, Lib.joinTail, Lib.join_one]
  | q :: r :: ns, p, _ => by
    have e : ∀ l : List Bs, Lib.join (q :: r :: l) [c] = q ++ c :: Lib.join (r :: l) [c] := fun l => by simp [Lib.join_cons, Lib.joinTail]
    rw [List.cons_append, List.cons_append, e, ← List.cons_append, join_snocC p (by simp), e]
    simp
/-- A text of a few labels. -/
def shows (L : List PairL) : Bs := Lib.join (L.map showP) [44]
theorem shows_one (p : PairL) : shows [p] = showP p := Lib.join_one _ _
theorem shows_snoc {L : List PairL} (p : PairL) (h : L ≠ []) : shows (L ++ [p]) = shows L ++ 44 :: showP p := by
  unfold shows
  rw [List.map_append, List.map_cons, List.map_nil, join_snocC _ (by simpa using h)]
theorem take_snocL {L : List PairL} {k : Nat} (hk : k < L.length) : L.take (k + 1) = L.take k ++ [plAt L k] := by
  rw [List.take_succ_eq_append_getElem hk]
  simp [hk, plAt]
theorem shows_step0 {L : List PairL} (hk : 0 < L.length) : shows (L.take 1) = showP (plAt L 0) := by
  rw [take_snocL hk]; exact shows_one _
theorem shows_step {L : List PairL} {k : Nat} (h0 : 0 < k) (hk : k < L.length) : shows (L.take (k + 1)) = shows (L.take k) ++ 44 :: showP (plAt L k) := by
  rw [take_snocL hk, shows_snoc]
  intro e
  have := congrArg List.length e
  rw [List.length_take, List.length_nil] at this
  omega
theorem rightLab_at {l : List PairS} (h : rightLab (labL l) = true) {k : Nat} (hk : k < l.length) : (pairAt l k).1.size ≤ 32 ∧ (pairAt l k).2.size ≤ 32 := by
  have hm : pL (pairAt l k) ∈ labL l := List.mem_map_of_mem (pairAt_mem hk)
  have := rightLab_names h _ hm
  have h1 := right_len this.1
  have h2 := right_len this.2
  exact ⟨h1, h2⟩
end Go.Dm
namespace Go.Proofs.YtbkemhheombfcaaDoor
open Go.RowKit Go.Dm

theorem rright_fit (s : ByteArray) (w : World) (hs : s.size ≤ 140737488351232) :
    Calls Tryd.prog 66 #[.string s] w fun e w' => e = .returned (.bool (rightL s.data.toList)) ∧ Ext w w' := rright_w s w (by omega)

set_option maxHeartbeats 2000000 in
theorem mright_w (l : List PairS) (v : Value) (w : World) (hf : FitP l) (hx : Pairs w v l) :
    Calls Tryd.prog 29 #[v] w fun e w' => e = .returned (.bool (rightLab (labL l))) ∧ Ext w w' := by
  obtain ⟨q, cap, rfl, hcap, hcm⟩ := hx.shape
  by_cases h8 : l.length ≤ 8
  · have hall : (∀ j, j < l.length → okLab (labL l) j = true) → rightLab (labL l) = true := fun h => rightLab_iff.2 ⟨by rw [labL_len]; exact h8, fun j hj => h j (by rw [labL_len] at hj; exact hj)⟩
    replace hall := Lib.hid hall
    go_enter Tryd.func29, Tryd.ntmps29
    go_wp2
    go_loopw [3] (fun i' wr => ∃ k : Nat, k ≤ l.length ∧ i' = .int .i64 k ∧ Ext w wr ∧ Hid (∀ j, j < k → okLab (labL l) j = true)) (fun i' _ => l.length - (intOf i').toNat)
    case atStart => exact ⟨0, by omega, rfl, Ext.refl _, fun j hj => by omega⟩
    case round =>
      obtain ⟨k, hk, rfl, hb, HN⟩ := hrel
      by_cases hlt : k < l.length
      · obtain ⟨b, off, rfl, hbl, c0, c1⟩ := (hx.ext hb).at hlt
        have hfk := hf _ (pairAt_mem hlt)
        have hok : ∀ c1 c2 c3, rightL (pairAt l k).1.data.toList = c1 → rightL (pairAt l k).2.data.toList = c2 → (k == 0 || !leB (pairAt l k).1.data.toList (pairAt l (k-1)).1.data.toList) = c3 → okLab (labL l) k = (c1 && (c2 && c3)) := by
          intro c1 c2 c3 e1 e2 e3
          unfold okLab
          rw [labL_at l hlt, labL_at l (by omega : k - 1 < l.length), ← e1, ← e2, ← e3]
          rfl
        have hbad : okLab (labL l) k = false → rightLab (labL l) = false := fun h => rightLab_bad (by rw [labL_len]; exact hlt) h
        have hgood : okLab (labL l) k = true → ∀ j, j < k + 1 → okLab (labL l) j = true := fun h j hj => by
          rcases Nat.lt_succ_iff_lt_or_eq.1 hj with h' | rfl
          · exact HN.out j h'
          · exact h
        have C1 : ∀ c, rightL (pairAt l k).1.data.toList = c → Hid (∀ U, Ext wr U → Calls Tryd.prog 66 #[.string (pairAt l k).1] U fun e w' => e = .returned (.bool c) ∧ Ext U w') := by
          intro c h U hU
          rw [← h]
          exact rright_fit _ U hfk.1
        have C2 : ∀ c, rightL (pairAt l k).2.data.toList = c → Hid (∀ U, Ext wr U → Calls Tryd.prog 66 #[.string (pairAt l k).2] U fun e w' => e = .returned (.bool c) ∧ Ext U w') := by
          intro c h U hU
          rw [← h]
          exact rright_fit _ U hfk.2
        replace hok := Lib.hid hok
        replace hbad := Lib.hid hbad
        replace hgood := Lib.hid hgood
        cases h1 : rightL (pairAt l k).1.data.toList with
        | false =>
          replace C1 := C1 _ h1
          replace C2 := C2 _ rfl
          have hB := Lib.hid (hbad.out (hok.out _ _ _ h1 rfl rfl))
          clear h1
          go_wp2_with fail
          refine Dm.wp_region_grow (by kernel_rfl) (by kernel_rfl) ?_
          repeat (go_big_quiet_step (first
            | (go_at_call 66; with_reducible exact Calls.quietE (C1.out _ (ext_grow _ _)))
            | (go_at_call 66; with_reducible exact Calls.quietE (C2.out _ (ext_grow _ _)))))
          refine wpQuiet_nil ?_
          intro U hU
          have hU' := hb.trans hU
          go_wp2
          go_ret
          exact ⟨by rw [hB.out]; rfl, hU'⟩
        | true =>
          replace C1 := C1 _ h1
          cases h2 : rightL (pairAt l k).2.data.toList with
          | false =>
            replace C2 := C2 _ h2
            have hB := Lib.hid (hbad.out (hok.out _ _ _ h1 h2 rfl))
            clear h1 h2
            go_wp2_with fail
            refine Dm.wp_region_grow (by kernel_rfl) (by kernel_rfl) ?_
            repeat (go_big_quiet_step (first
              | (go_at_call 66; with_reducible exact Calls.quietE (C1.out _ (ext_grow _ _)))
              | (go_at_call 66; with_reducible exact Calls.quietE (C2.out _ (ext_grow _ _)))))
            refine wpQuiet_nil ?_
            intro U hU
            have hU' := hb.trans hU
            go_wp2
            go_ret
            exact ⟨by rw [hB.out]; rfl, hU'⟩
          | true =>
            replace C2 := C2 _ h2
            by_cases h0 : k = 0
            · subst h0
              have hG := Lib.hid (hgood.out (hok.out _ _ true h1 h2 rfl))
              clear h1 h2 hok hbad hgood
              rw [Nat.zero_mul, Nat.add_zero] at c0 c1
              go_wp2_with fail
              refine Dm.wp_region_grow (by kernel_rfl) (by kernel_rfl) ?_
              repeat (go_big_quiet_step (first
                | (go_at_call 66; with_reducible exact Calls.quietE (C1.out _ (ext_grow _ _)))
                | (go_at_call 66; with_reducible exact Calls.quietE (C2.out _ (ext_grow _ _)))))
              refine wpQuiet_nil ?_
              intro U hU
              have hU' := hb.trans hU
              go_wp2
              go_roundw
              case rel => exact ⟨1, by omega, rfl, hU', hG⟩
              case measure => simp [intOf]; omega
            · obtain ⟨j, rfl⟩ : ∃ j, k = j + 1 := ⟨k - 1, by omega⟩
              obtain ⟨d0, _⟩ := (hx.ext hb).cells (k := j) (by omega)
              have hj0 : decide ((0 : Int) < (j : Int) + 1) = true := decide_eq_true (by omega)
              have hle : ∀ c c', Op.bytesLess (pairAt l (j + 1)).1.toList (pairAt l j).1.toList = c → ((pairAt l (j + 1)).1.toList == (pairAt l j).1.toList) = c' → (j + 1 == 0 || !leB (pairAt l (j + 1)).1.data.toList (pairAt l (j + 1 - 1)).1.data.toList) = !(c || c') := by
                intro c c' e1 e2
                rw [ByteArray.toList_eq, ByteArray.toList_eq] at e1 e2
                rw [← e1, ← e2]
                rfl
              cases q1 : Op.bytesLess (pairAt l (j + 1)).1.toList (pairAt l j).1.toList with
              | true =>
                have hB := Lib.hid (hbad.out (hok.out _ _ _ h1 h2 (hle _ _ q1 rfl)))
                clear h1 h2 hok hbad hgood hle
                go_wp2_with fail
                refine Dm.wp_region_grow (by kernel_rfl) (by kernel_rfl) ?_
                repeat (go_big_quiet_step (first
                  | (go_at_call 66; with_reducible exact Calls.quietE (C1.out _ (ext_grow _ _)))
                  | (go_at_call 66; with_reducible exact Calls.quietE (C2.out _ (ext_grow _ _)))))
                refine wpQuiet_nil ?_
                intro U hU
                have hU' := hb.trans hU
                go_wp2
                go_ret
                exact ⟨by rw [hB.out]; rfl, hU'⟩
              | false =>
                cases q2 : ((pairAt l (j + 1)).1.toList == (pairAt l j).1.toList) with
                | true =>
                  have hB := Lib.hid (hbad.out (hok.out _ _ _ h1 h2 (hle _ _ q1 q2)))
                  clear h1 h2 hok hbad hgood hle
                  go_wp2_with fail
                  refine Dm.wp_region_grow (by kernel_rfl) (by kernel_rfl) ?_
                  repeat (go_big_quiet_step (first
                    | (go_at_call 66; with_reducible exact Calls.quietE (C1.out _ (ext_grow _ _)))
                    | (go_at_call 66; with_reducible exact Calls.quietE (C2.out _ (ext_grow _ _)))))
                  refine wpQuiet_nil ?_
                  intro U hU
                  have hU' := hb.trans hU
                  go_wp2
                  go_ret
                  exact ⟨by rw [hB.out]; rfl, hU'⟩
                | false =>
                  have hG := Lib.hid (hgood.out (hok.out _ _ _ h1 h2 (hle _ _ q1 q2)))
                  clear h1 h2 hok hbad hgood hle
                  go_wp2_with fail
                  refine Dm.wp_region_grow (by kernel_rfl) (by kernel_rfl) ?_
                  repeat (go_big_quiet_step (first
                    | (go_at_call 66; with_reducible exact Calls.quietE (C1.out _ (ext_grow _ _)))
                    | (go_at_call 66; with_reducible exact Calls.quietE (C2.out _ (ext_grow _ _)))))
                  refine wpQuiet_nil ?_
                  intro U hU
                  have hU' := hb.trans hU
                  go_wp2
                  go_roundw
                  case rel => exact ⟨j + 1 + 1, by omega, by go_num, hU', hG⟩
                  case measure => simp [intOf]; omega
      · obtain rfl : k = l.length := by omega
        have hz := Lib.hid (hall.out HN.out)
        go_wp2
        go_ret
        exact ⟨by rw [hz.out]; rfl, hb⟩
  · have hz := Lib.hid (rightLab_long (L := labL l) (by rw [labL_len]; exact h8))
    go_enter Tryd.func29, Tryd.ntmps29
    go_wp2
    go_ret
    exact ⟨by rw [hz.out]; rfl, Ext.refl _⟩

set_option maxHeartbeats 1000000 in
theorem mfind_w (l : List PairS) (key : ByteArray) (v : Value) (w : World) (hm : l.length ≤ 35184372088832) (hx : Pairs w v l) :
    Calls Tryd.prog 23 #[v, .string key] w fun e w' => e = .returned (.tuple #[.string (findB l key).1, .bool (findB l key).2]) ∧ Ext w w' := by
  obtain ⟨q, cap, rfl, _, _⟩ := hx.shape
  have hhit : ∀ k, k < l.length → (∀ j, j < k → keyIs key (pairAt l j) = false) → keyIs key (pairAt l k) = true → findB l key = ((pairAt l k).2, true) := fun k hk h1 h2 => by
    unfold findB; rw [firstP_hit noPair hk h1 h2]
  have hmiss : (∀ j, j < l.length → keyIs key (pairAt l j) = false) → findB l key = (⟨#[]⟩, false) := fun h => by
    unfold findB; rw [firstP_miss noPair h]
  generalize findB l key = F at *
  replace hhit := Lib.hid hhit
  replace hmiss := Lib.hid hmiss
  go_enter Tryd.func23, Tryd.ntmps23
  go_wp2
  go_loopw [6] (fun i' wr => ∃ k : Nat, k ≤ l.length ∧ i' = .int .i64 k ∧ Ext w wr ∧ Hid (∀ j, j < k → keyIs key (pairAt l j) = false)) (fun i' _ => l.length - (intOf i').toNat)
  case atStart => exact ⟨0, by omega, rfl, Ext.refl _, fun j hj => by omega⟩
  case round =>
    obtain ⟨k, hk, rfl, hb, HN⟩ := hrel
    by_cases hlt : k < l.length
    · obtain ⟨b, off, rfl, hbl, c0, c1⟩ := (hx.ext hb).at hlt
      cases hkey : keyIs key (pairAt l k) with
      | true =>
        have hz := Lib.hid (hhit.out k hlt HN.out hkey)
        have hkb : ((pairAt l k).1.toList == key.toList) = true := hkey
        clear hkey
        go_wp2
        go_ret2
        exact ⟨by rw [hz.out]; rfl, hb⟩
      | false =>
        have hkb : ((pairAt l k).1.toList == key.toList) = false := hkey
        have hN2 : Hid (∀ j, j < k + 1 → keyIs key (pairAt l j) = false) := fun j hj => by
          rcases Nat.lt_succ_iff_lt_or_eq.1 hj with h | rfl
          · exact HN.out j h
          · exact hkey
        clear hkey
        go_wp2
        go_roundw
        case rel => exact ⟨k + 1, by omega, by go_num, hb, hN2⟩
        case measure => simp [intOf]; omega
    · obtain rfl : k = l.length := by omega
      have hz := Lib.hid (hmiss.out HN.out)
      go_wp2
      go_ret2
      exact ⟨by rw [hz.out]; rfl, hb⟩

end Go.Proofs.YtbkemhheombfcaaDoor
