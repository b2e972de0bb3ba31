/- Chapter 5: the walk of Text. -/
import Derived.Test.YtbkemhheombfcaaDoorSWalkF
namespace Go.Dm
open Go Go.RowKit
def textTmB (t : TermS) : ByteArray := ⟨(textTm t).toArray⟩
theorem joinB_short {vs : List ByteArray} {c : UInt8} (h : ∀ x ∈ vs, x.size ≤ 32) : (joinB vs c).length ≤ 33 * vs.length := by
  have := join_len (c := c) (n := 32) (xs := vs.map (·.data.toList)) (fun x hx => by
    obtain ⟨y, hy, rfl⟩ := List.mem_map.1 hx
    exact h y hy)
  rw [List.length_map] at this
  exact this
theorem textTmB_short {t : TermS} (h : ShortT t) : (textTmB t).size ≤ 170 := by
  obtain ⟨h1, h2, h3⟩ := h
  have a2 := joinB_short (c := 124) h3
  have e : (bS t.1).length = t.1.size := rfl
  rw [size_len]
  show (textTm t).length ≤ 170
  unfold textTm
  split
  · split
    · simp only [List.length_cons]; omega
    · omega
  · split <;> simp only [List.length_append, List.length_cons] <;> omega
end Go.Dm
namespace Go.Proofs.YtbkemhheombfcaaDoor
open Go.RowKit Go.Dm

theorem join_w (vs : List ByteArray) (c : UInt8) (v : Value) (w : World) (hx : Strs w v vs) (h0 : vs ≠ []) (hl : vs.length ≤ 35184372088832) (hj : (joinB vs c).length ≤ 140737488355328) :
    Calls Tryd.prog 57 #[v, .string ⟨#[c]⟩] w fun e w' => e = .returned (.string ⟨(joinB vs c).toArray⟩) ∧ Ext w w' := by
  obtain ⟨q, cap, rfl, hc, hm⟩ := hx.shape
  have hn : 0 < vs.length := List.length_pos_iff.2 h0
  obtain ⟨bb, off, rfl, hbl, _⟩ := hx.at (k := 0) hn
  exact Tryd.strings_Join bb off cap vs ⟨#[c]⟩ w (fun j x hj => by
    obtain ⟨hjl, _⟩ := List.getElem?_eq_some_iff.1 hj
    have := (hx.cells hjl).2
    rw [this]
    simp [strAt, hj]) hbl (by omega) hc hj

theorem assert_present (w : World) : (Instr.typeAssert (.iface 149 (.agg #[])) 139 143 true).run Tryd.prog w = .ok (.tuple #[.slice none 0 0, .bool false]) w := by kernel_rfl
theorem assert_oneOf (a : Option Addr) (n c : Nat) (w : World) : (Instr.typeAssert (.iface 143 (.slice a n c)) 139 143 true).run Tryd.prog w = .ok (.tuple #[.slice a n c, .bool true]) w := by kernel_rfl

set_option maxHeartbeats 2000000 in
set_option maxRecDepth 100000 in
theorem ttext_w (key : ByteArray) (no : Bool) (vals : List ByteArray) (v : Value) (w : World) (hf : ShortT (key, no, vals)) (hx : Strs w v vals) :
    Calls Tryd.prog 84 #[.agg #[.string key, .bool no, v]] w fun e w' => e = .returned (.string (textTmB (key, no, vals))) ∧ Ext w w' := by
  have aP := assert_present
  have aO := assert_oneOf
  have hW : Ext w (w.alloc (.cells #[.string key, .bool no, v] 57)) := (Ext.refl _).alloc _
  obtain ⟨q, cap, rfl, hcap, hcm⟩ := hx.shape
  obtain ⟨hf1, hf2, hf3⟩ := hf
  simp only at hf1 hf2 hf3
  have CR := rule_w key no vals _ _ (hx.ext hW)
  cases hvs : vals.isEmpty with
  | true =>
    obtain rfl := List.isEmpty_iff.1 hvs
    have CR : Calls Tryd.prog 100 #[.agg #[.string key, .bool no, .slice q 0 cap]] (w.alloc (.cells #[.string key, .bool no, .slice q 0 cap] 57)) fun e w' => e = .returned (.iface 149 (.agg #[])) ∧ Ext (w.alloc (.cells #[.string key, .bool no, .slice q 0 cap] 57)) w' := CR
    cases no with
    | true =>
      have hz : Hid (textTmB (key, true, []) = (⟨#[33]⟩ : ByteArray) ++ key) := (mk_bytes (by rw [data_append]; rfl)).symm
      have s1 : (⟨#[33]⟩ : ByteArray).size = 1 := rfl
      go_enter Tryd.func84, Tryd.ntmps84
      go_wp2_with fail
      refine CR.mono ?_; rintro e w1 ⟨rfl, h1⟩
      obtain ⟨gs, g⟩ := h1.box
      have g0 := g 0 _ rfl
      have g1 := g 1 _ rfl
      clear g
      go_wp2
      go_ret
      exact ⟨by rw [hz.out]; rfl, hW.trans h1⟩
    | false =>
      have hz : Hid (textTmB (key, false, []) = key) := (mk_bytes rfl).symm
      go_enter Tryd.func84, Tryd.ntmps84
      go_wp2_with fail
      refine CR.mono ?_; rintro e w1 ⟨rfl, h1⟩
      obtain ⟨gs, g⟩ := h1.box
      have g0 := g 0 _ rfl
      have g1 := g 1 _ rfl
      clear g
      go_wp2
      go_ret
      exact ⟨by rw [hz.out]; rfl, hW.trans h1⟩
  | false =>
    rw [hvs] at CR
    have CR : Calls Tryd.prog 100 #[.agg #[.string key, .bool no, .slice q vals.length cap]] (w.alloc (.cells #[.string key, .bool no, .slice q vals.length cap] 57)) fun e w' => e = .returned (.iface 143 (.slice q vals.length cap)) ∧ Ext (w.alloc (.cells #[.string key, .bool no, .slice q vals.length cap] 57)) w' := CR
    have hne : vals ≠ [] := fun e => by rw [e] at hvs; cases hvs
    have hjs := joinB_short (c := 124) hf3
    have CJ := fun U (hU : Ext w U) => join_w vals 124 _ U (hx.ext hU) hne (by omega) (by omega)
    have hz : Hid (textTmB (key, no, vals) = if no then ((key ++ (⟨#[33]⟩ : ByteArray)) ++ (⟨#[61]⟩ : ByteArray)) ++ ⟨(joinB vals 124).toArray⟩ else (key ++ (⟨#[61]⟩ : ByteArray)) ++ ⟨(joinB vals 124).toArray⟩) := by
      show _ = _
      cases no
      · refine (mk_bytes ?_).symm
        rw [if_neg (by decide)]
        simp only [data_append]
        show _ = textTm (key, false, vals)
        unfold textTm
        simp only [hvs]
        simp [bS]
      · refine (mk_bytes ?_).symm
        rw [if_pos rfl]
        simp only [data_append]
        show _ = textTm (key, true, vals)
        unfold textTm
        simp only [hvs]
        simp [bS]
    have sj : (⟨(joinB vals 124).toArray⟩ : ByteArray).size ≤ 132 := by rw [size_len]; show (joinB vals 124).length ≤ 132; omega
    generalize (⟨(joinB vals 124).toArray⟩ : ByteArray) = J at *
    have s1 : (⟨#[33]⟩ : ByteArray).size = 1 := rfl
    have s2 : (⟨#[61]⟩ : ByteArray).size = 1 := rfl
    have z1 : (key ++ (⟨#[33]⟩ : ByteArray)).size ≤ 33 := by rw [ByteArray.size_append]; omega
    have z2 : ((key ++ (⟨#[33]⟩ : ByteArray)) ++ (⟨#[61]⟩ : ByteArray)).size ≤ 34 := by rw [ByteArray.size_append, ByteArray.size_append]; omega
    have z3 : (key ++ (⟨#[61]⟩ : ByteArray)).size ≤ 33 := by rw [ByteArray.size_append]; omega
    replace CJ := Lib.hid CJ
    clear hjs hvs hne s1 s2
    cases no with
    | true =>
      go_enter Tryd.func84, Tryd.ntmps84
      go_wp2_with fail
      refine CR.mono ?_; rintro e w1 ⟨rfl, h1⟩
      obtain ⟨gs, g⟩ := h1.box
      have g0 := g 0 _ rfl
      have g1 := g 1 _ rfl
      clear g
      have e1 := hW.trans h1
      have CJ := Lib.hid (fun U (hU : Ext w1 U) => CJ.out U (e1.trans hU))
      go_wp2_with fail
      refine Dm.wp_region_grow (by kernel_rfl) (by kernel_rfl) ?_
      repeat (go_big_quiet_step (first
        | (go_at_call 57; with_reducible exact Calls.quietE (CJ.out _ (ext_grow _ _)))))
      refine wpQuiet_nil ?_
      intro U hU
      go_wp2
      go_ret
      exact ⟨by rw [hz.out]; rfl, e1.trans hU⟩
    | false =>
      go_enter Tryd.func84, Tryd.ntmps84
      go_wp2_with fail
      refine CR.mono ?_; rintro e w1 ⟨rfl, h1⟩
      obtain ⟨gs, g⟩ := h1.box
      have g0 := g 0 _ rfl
      have g1 := g 1 _ rfl
      clear g
      have e1 := hW.trans h1
      have CJ := Lib.hid (fun U (hU : Ext w1 U) => CJ.out U (e1.trans hU))
      go_wp2_with fail
      refine Dm.wp_region_grow (by kernel_rfl) (by kernel_rfl) ?_
      repeat (go_big_quiet_step (first
        | (go_at_call 57; with_reducible exact Calls.quietE (CJ.out _ (ext_grow _ _)))))
      refine wpQuiet_nil ?_
      intro U hU
      go_wp2
      go_ret
      exact ⟨by rw [hz.out]; rfl, e1.trans hU⟩

set_option maxHeartbeats 2000000 in
set_option maxRecDepth 100000 in
theorem stext_w (R : List RowS) (v : Value) (w : World) (hm : R.length ≤ 35184372088832) (hf : FitR R) (hx : Terms w v R) (ht : Tabs w) :
    Calls Tryd.prog 48 #[v] w fun e w' => e = .returned (.string ⟨(textS (R.map rowT)).toArray⟩) ∧ Ext w w' := by
  obtain ⟨q, cap, rfl, hcap, hcm⟩ := hx.shape
  have C := sright_w R _ w hm hf hx ht
  cases hR : rightS (R.map rowT) with
  | false =>
    have hz : Hid (textS (R.map rowT) = [63]) := by show _ = _; unfold textS; rw [hR]; rfl
    rw [hR] at C
    clear hR
    go_enter Tryd.func48, Tryd.ntmps48
    go_wp2_with fail
    refine C.mono ?_; rintro e w1 ⟨rfl, h1⟩
    go_wp2
    go_ret
    exact ⟨by rw [hz.out]; rfl, h1⟩
  | true =>
    have h4 : R.length ≤ 4 := by have := (rightS_iff.1 hR).1; rwa [List.length_map] at this
    have hz : Hid (textS (R.map rowT) = if R.length = 0 then [45] else joinB (R.map fun r => textTmB (rowT r)) 44) := by
      show _ = _
      unfold textS
      rw [hR, if_pos rfl]
      cases R with
      | nil => rfl
      | cons r R =>
        rw [if_neg (by simp), if_neg (by simp)]
        unfold joinB
        congr 1
        rw [List.map_map, List.map_map]
        exact List.map_congr_left fun x _ => rfl
    have hsh : Hid (∀ k, k < R.length → ShortT (rowT (sAtR R k))) := fun k hk => rightT_sizes ((rightS_iff.1 hR).2 _ (List.mem_map_of_mem (sAtR_mem hk)))
    rw [hR] at C
    clear hR
    go_enter Tryd.func48, Tryd.ntmps48
    go_wp2_with fail
    refine C.mono ?_; rintro e w1 ⟨rfl, h1⟩
    clear C
    go_wp2
    go_loopw [3, 11] (fun r i' wr => ∃ k : Nat, k ≤ R.length ∧ i' = .int .i64 k ∧ Ext w1 wr ∧ wr.ownsRow w1.heap.size 9 1 r k (((R.take k).map fun r => textTmB (rowT r)).map .string)) (fun _ i' _ => R.length - (intOf i').toNat)
    case atStart => exact ⟨0, by omega, rfl, Ext.refl _, World.ownsRow_nil _ _ _ _⟩
    case round =>
      obtain ⟨k, hk, rfl, hb, ho⟩ := hrel
      have er := h1.trans hb
      by_cases hlt : k < R.length
      · obtain ⟨bb, off, rfl, hbl, c0, c1, c2⟩ := (hx.ext er).at hlt
        have vx := (hx.ext er).val hlt
        have hs := hsh.out k hlt
        have hst : Hid ((((R.take (k + 1)).map fun r => textTmB (rowT r)).map Value.string) = (((R.take k).map fun r => textTmB (rowT r)).map Value.string) ++ [.string (textTmB (rowT (sAtR R k)))]) := by
          show _ = _
          rw [take_snocT hlt, List.map_append, List.map_append]; rfl
        generalize sAtR R k = r at *
        obtain ⟨k1, n1, v1, vals1⟩ := r
        have vx : Strs wr v1 vals1 := vx
        simp only at c0 c1 c2
        obtain ⟨q3, cap3, rfl, _, _⟩ := vx.shape
        have hW := (Ext.refl wr).alloc (.cells #[.string k1, .bool n1, .slice q3 vals1.length cap3] 57)
        have C : Calls Tryd.prog 84 #[.agg #[.string k1, .bool n1, .slice q3 vals1.length cap3]] (wr.alloc (.cells #[.string k1, .bool n1, .slice q3 vals1.length cap3] 57)) fun e w' => e = .returned (.string (textTmB (rowT (k1, n1, .slice q3 vals1.length cap3, vals1)))) ∧ Ext (wr.alloc (.cells #[.string k1, .bool n1, .slice q3 vals1.length cap3] 57)) w' := ttext_w k1 n1 vals1 _ _ hs (vx.ext hW)
        generalize textTmB (rowT (k1, n1, .slice q3 vals1.length cap3, vals1)) = t1 at *
        go_wp2_with fail
        refine C.mono ?_; rintro e w3 ⟨rfl, h3⟩
        have hb3 := (hb.trans hW).trans h3
        have ho4 := Ext.row (Ext.row (Ext.row ho hW) h3) ((Ext.refl w3).alloc (.cells #[.string t1] 9))
        have hb4 := hb3.trans ((Ext.refl w3).alloc (.cells #[.string t1] 9))
        have hl4 := Sl.lit w3 9 1 1 #[.string t1] rfl (by simp [maxLen])
        clear ho
        go_wp2_with (at_builtin; refine wpList_appE rfl _ _ Tryd.slStr rfl hb4 rfl ho4 rfl hl4 (strs_one [t1]) (by omega) ?_; intro v5 w5 ho5 hb5 _)
        go_roundw
        case rel => exact ⟨k + 1, by omega, by go_num, hb5, by rw [hst.out]; exact ho5⟩
        case measure => simp [intOf]; omega
      · obtain rfl : k = R.length := by omega
        rw [List.take_length] at ho
        have hS : Strs wr _ (R.map fun r => textTmB (rowT r)) := Strs.of_row ho (by simp)
        obtain ⟨q2, cap2, rfl, hc2, hm2⟩ := hS.shape
        have hll : (R.map fun r => textTmB (rowT r)).length = R.length := List.length_map _
        by_cases h0 : R.length = 0
        · have hlb : ((R.length : Int) == 0) = true := by rw [beq_iff_eq]; omega
          have hz' : Hid (textS (R.map rowT) = [45]) := by show _ = _; rw [hz.out, if_pos h0]
          rw [hll]
          clear h0
          go_wp2
          go_ret
          exact ⟨by rw [hz'.out]; rfl, er⟩
        · have hlb : ((R.length : Int) == 0) = false := by rw [beq_eq_false_iff_ne]; omega
          have hz' : Hid (textS (R.map rowT) = joinB (R.map fun r => textTmB (rowT r)) 44) := by show _ = _; rw [hz.out, if_neg h0]
          have hjl : (joinB (R.map fun r => textTmB (rowT r)) 44).length ≤ 684 := by
            have := join_len (c := 44) (n := 170) (xs := (R.map fun r => textTmB (rowT r)).map (·.data.toList)) (fun x hx => by
              obtain ⟨y, hy, rfl⟩ := List.mem_map.1 hx
              obtain ⟨r, hr, rfl⟩ := List.mem_map.1 hy
              obtain ⟨k, hk, rfl⟩ := List.getElem_of_mem hr
              have := hsh.out k hk
              rw [show sAtR R k = R[k] by simp [sAtR, hk]] at this
              exact textTmB_short this)
            rw [List.length_map, hll] at this
            unfold joinB
            omega
          have C := join_w (R.map fun r => textTmB (rowT r)) 44 _ wr hS (fun e => h0 (by rw [← hll, e]; rfl)) (by rw [hll]; omega) (by omega)
          rw [hll] at C ⊢
          clear h0 hjl hS
          generalize joinB (R.map fun r => textTmB (rowT r)) 44 = J at *
          go_wp2_with fail
          refine C.mono ?_; rintro e w3 ⟨rfl, h3⟩
          go_wp2
          go_ret
          exact ⟨by rw [hz'.out]; rfl, er.trans h3⟩

end Go.Proofs.YtbkemhheombfcaaDoor
