/- Texts one behind the other: Chapter 5: the walk of Text; Chapter 5: the walks of the library's CutPrefix, CutSuffix; Chapter 5: the walk of a term of a text; Chapter 5: the walk of Parse; Chapter 5: the walks of the reader's number and text. -/
import Derived.Test.YtbkemhheombfcaaDoorSelTellsP16
import Derived.Test.YtbkemhheombfcaaDoorSelTellsP17
import Derived.Test.YtbkemhheombfcaaDoorSelTellsP21
namespace Go.Dm
open Go Go.RowKit
def textTmB (t : TermS) : ByteArray := ⟨(textTm t).toArray⟩
theorem joinB_short {vs : List ByteArray} {c : UInt8} (h : ∀ x ∈ vs, x.size ≤ 32) : (joinB vs c).length ≤ 33 * vs.length := by
  have := join_len (c := c) (n := 32) (xs := vs.map (·.data.toList)) (fun x hx => by
    obtain ⟨y, hy, rfl⟩ := List.mem_map.1 hx
    exact h y hy)
  rw [List.length_map] at this
  exact this
theorem textTmB_short {t : TermS} (h : ShortT t) : (textTmB t).size ≤ 170 := by
  obtain ⟨h1, h2, h3⟩ := h
  have a2 := joinB_short (c := 124) h3
  have e : (bS t.1).length = t.1.size := rfl
  rw [size_len]
  show (textTm t).length ≤ 170
  unfold textTm
  split
  · split
    · simp only [List.length_cons]; omega
    · omega
  · split <;> simp only [List.length_append, List.length_cons] <;> omega
end Go.Dm
namespace Go.Proofs.YtbkemhheombfcaaDoor
open Go.RowKit Go.Dm

theorem join_w (vs : List ByteArray) (c : UInt8) (v : Value) (w : World) (hx : Strs w v vs) (h0 : vs ≠ []) (hl : vs.length ≤ 35184372088832) (hj : (joinB vs c).length ≤ 140737488355328) :
    Calls Tryd.prog 57 #[v, .string ⟨#[c]⟩] w fun e w' => e = .returned (.string ⟨(joinB vs c).toArray⟩) ∧ Ext w w' := by
  obtain ⟨q, cap, rfl, hc, hm⟩ := hx.shape
  have hn : 0 < vs.length := List.length_pos_iff.2 h0
  obtain ⟨bb, off, rfl, hbl, _⟩ := hx.at (k := 0) hn
  exact Tryd.strings_Join bb off cap vs ⟨#[c]⟩ w (fun j x hj => by
    obtain ⟨hjl, _⟩ := List.getElem?_eq_some_iff.1 hj
    have := (hx.cells hjl).2
    rw [this]
    simp [strAt, hj]) hbl (by omega) hc hj

theorem assert_present (w : World) : (Instr.typeAssert (.iface 149 (.agg #[])) 139 143 true).run Tryd.prog w = .ok (.tuple #[.slice none 0 0, .bool false]) w := by kernel_rfl
theorem assert_oneOf (a : Option Addr) (n c : Nat) (w : World) : (Instr.typeAssert (.iface 143 (.slice a n c)) 139 143 true).run Tryd.prog w = .ok (.tuple #[.slice a n c, .bool true]) w := by kernel_rfl

set_option maxHeartbeats 2000000 in
set_option maxRecDepth 100000 in
theorem ttext_w (key : ByteArray) (no : Bool) (vals : List ByteArray) (v : Value) (w : World) (hf : ShortT (key, no, vals)) (hx : Strs w v vals) :
    Calls Tryd.prog 84 #[.agg #[.string key, .bool no, v]] w fun e w' => e = .returned (.string (textTmB (key, no, vals))) ∧ Ext w w' := by
  have aP := assert_present
  have aO := assert_oneOf
  have hW : Ext w (w.alloc (.cells #[.string key, .bool no, v] 57)) := (Ext.refl _).alloc _
  obtain ⟨q, cap, rfl, hcap, hcm⟩ := hx.shape
  obtain ⟨hf1, hf2, hf3⟩ := hf
  simp only at hf1 hf2 hf3
  have CR := rule_w key no vals _ _ (hx.ext hW)
  cases hvs : vals.isEmpty with
  | true =>
    obtain rfl := List.isEmpty_iff.1 hvs
    have CR : Calls Tryd.prog 100 #[.agg #[.string key, .bool no, .slice q 0 cap]] (w.alloc (.cells #[.string key, .bool no, .slice q 0 cap] 57)) fun e w' => e = .returned (.iface 149 (.agg #[])) ∧ Ext (w.alloc (.cells #[.string key, .bool no, .slice q 0 cap] 57)) w' := CR
    cases no with
    | true =>
      have hz : Hid (textTmB (key, true, []) = (⟨#[33]⟩ : ByteArray) ++ key) := (mk_bytes (by rw [data_append]; rfl)).symm
      have s1 : (⟨#[33]⟩ : ByteArray).size = 1 := rfl
      go_enter Tryd.func84, Tryd.ntmps84
      go_wp2_with fail
      refine CR.mono ?_; rintro e w1 ⟨rfl, h1⟩
      obtain ⟨gs, g⟩ := h1.box
      have g0 := g 0 _ rfl
      have g1 := g 1 _ rfl
      clear g
      go_wp2
      go_ret
      exact ⟨by rw [hz.out]; rfl, hW.trans h1⟩
    | false =>
      have hz : Hid (textTmB (key, false, []) = key) := (mk_bytes rfl).symm
      go_enter Tryd.func84, Tryd.ntmps84
      go_wp2_with fail
      refine CR.mono ?_; rintro e w1 ⟨rfl, h1⟩
      obtain ⟨gs, g⟩ := h1.box
      have g0 := g 0 _ rfl
      have g1 := g 1 _ rfl
      clear g
      go_wp2
      go_ret
      exact ⟨by rw [hz.out]; rfl, hW.trans h1⟩
  | false =>
    rw [hvs] at CR
    have CR : Calls Tryd.prog 100 #[.agg #[.string key, .bool no, .slice q vals.length cap]] (w.alloc (.cells #[.string key, .bool no, .slice q vals.length cap] 57)) fun e w' => e = .returned (.iface 143 (.slice q vals.length cap)) ∧ Ext (w.alloc (.cells #[.string key, .bool no, .slice q vals.length cap] 57)) w' := CR
    have hne : vals ≠ [] := fun e => by rw [e] at hvs; cases hvs
    have hjs := joinB_short (c := 124) hf3
    have CJ := fun U (hU : Ext w U) => join_w vals 124 _ U (hx.ext hU) hne (by omega) (by omega)
    have hz : Hid (textTmB (key, no, vals) = if no then ((key ++ (⟨#[33]⟩ : ByteArray)) ++ (⟨#[61]⟩ : ByteArray)) ++ ⟨(joinB vals 124).toArray⟩ else (key ++ (⟨#[61]⟩ : ByteArray)) ++ ⟨(joinB vals 124).toArray⟩) := by
      show _ = _
      cases no
      · refine (mk_bytes ?_).symm
        rw [if_neg (by decide)]
        simp only [data_append]
        show _ = textTm (key, false, vals)
        unfold textTm
        simp only [hvs]
        simp [bS]
      · refine (mk_bytes ?_).symm
        rw [if_pos rfl]
        simp only [data_append]
        show _ = textTm (key, true, vals)
        unfold textTm
        simp only [hvs]
        simp [bS]
    have sj : (⟨(joinB vals 124).toArray⟩ : ByteArray).size ≤ 132 := by rw [size_len]; show (joinB vals 124).length ≤ 132; omega
    generalize (⟨(joinB vals 124).toArray⟩ : ByteArray) = J at *
    have s1 : (⟨#[33]⟩ : ByteArray).size = 1 := rfl
    have s2 : (⟨#[61]⟩ : ByteArray).size = 1 := rfl
    have z1 : (key ++ (⟨#[33]⟩ : ByteArray)).size ≤ 33 := by rw [ByteArray.size_append]; omega
    have z2 : ((key ++ (⟨#[33]⟩ : ByteArray)) ++ (⟨#[61]⟩ : ByteArray)).size ≤ 34 := by rw [ByteArray.size_append, ByteArray.size_append]; omega
    have z3 : (key ++ (⟨#[61]⟩ : ByteArray)).size ≤ 33 := by rw [ByteArray.size_append]; omega
    replace CJ := Lib.hid CJ
    clear hjs hvs hne s1 s2
    cases no with
    | true =>
      go_enter Tryd.func84, Tryd.ntmps84
      go_wp2_with fail
      refine CR.mono ?_; rintro e w1 ⟨rfl, h1⟩
      obtain ⟨gs, g⟩ := h1.box
      have g0 := g 0 _ rfl
      have g1 := g 1 _ rfl
      clear g
      have e1 := hW.trans h1
      have CJ := Lib.hid (fun U (hU : Ext w1 U) => CJ.out U (e1.trans hU))
      go_wp2_with fail
      refine Dm.wp_region_grow (by kernel_rfl) (by kernel_rfl) ?_
      repeat (go_big_quiet_step (first
        | (go_at_call 57; with_reducible exact Calls.quietE (CJ.out _ (ext_grow _ _)))))
      refine wpQuiet_nil ?_
      intro U hU
      go_wp2
      go_ret
      exact ⟨by rw [hz.out]; rfl, e1.trans hU⟩
    | false =>
      go_enter Tryd.func84, Tryd.ntmps84
      go_wp2_with fail
      refine CR.mono ?_; rintro e w1 ⟨rfl, h1⟩
      obtain ⟨gs, g⟩ := h1.box
      have g0 := g 0 _ rfl
      have g1 := g 1 _ rfl
      clear g
      have e1 := hW.trans h1
      have CJ := Lib.hid (fun U (hU : Ext w1 U) => CJ.out U (e1.trans hU))
      go_wp2_with fail
      refine Dm.wp_region_grow (by kernel_rfl) (by kernel_rfl) ?_
      repeat (go_big_quiet_step (first
        | (go_at_call 57; with_reducible exact Calls.quietE (CJ.out _ (ext_grow _ _)))))
      refine wpQuiet_nil ?_
      intro U hU
      go_wp2
      go_ret
      exact ⟨by rw [hz.out]; rfl, e1.trans hU⟩

set_option maxHeartbeats 2000000 in
set_option maxRecDepth 100000 in
theorem stext_w (R : List RowS) (v : Value) (w : World) (hm : R.length ≤ 35184372088832) (hf : FitR R) (hx : Terms w v R) (ht : Tabs w) :
    Calls Tryd.prog 48 #[v] w fun e w' => e = .returned (.string ⟨(textS (R.map rowT)).toArray⟩) ∧ Ext w w' := by
  obtain ⟨q, cap, rfl, hcap, hcm⟩ := hx.shape
  have C := sright_w R _ w hm hf hx ht
  cases hR : rightS (R.map rowT) with
  | false =>
    have hz : Hid (textS (R.map rowT) = [63]) := by show _ = _; unfold textS; rw [hR]; rfl
    rw [hR] at C
    clear hR
    go_enter Tryd.func48, Tryd.ntmps48
    go_wp2_with fail
    refine C.mono ?_; rintro e w1 ⟨rfl, h1⟩
    go_wp2
    go_ret
    exact ⟨by rw [hz.out]; rfl, h1⟩
  | true =>
    have h4 : R.length ≤ 4 := by have := (rightS_iff.1 hR).1; rwa [List.length_map] at this
    have hz : Hid (textS (R.map rowT) = if R.length = 0 then [45] else joinB (R.map fun r => textTmB (rowT r)) 44) := by
      show _ = _
      unfold textS
      rw [hR, if_pos rfl]
      cases R with
      | nil => rfl
      | cons r R =>
        rw [if_neg (by simp), if_neg (by simp)]
        unfold joinB
        congr 1
        rw [List.map_map, List.map_map]
        exact List.map_congr_left fun x _ => rfl
    have hsh : Hid (∀ k, k < R.length → ShortT (rowT (sAtR R k))) := fun k hk => rightT_sizes ((rightS_iff.1 hR).2 _ (List.mem_map_of_mem (sAtR_mem hk)))
    rw [hR] at C
    clear hR
    go_enter Tryd.func48, Tryd.ntmps48
    go_wp2_with fail
    refine C.mono ?_; rintro e w1 ⟨rfl, h1⟩
    clear C
    go_wp2
    go_loopw [3, 11] (fun r i' wr => ∃ k : Nat, k ≤ R.length ∧ i' = .int .i64 k ∧ Ext w1 wr ∧ wr.ownsRow w1.heap.size 9 1 r k (((R.take k).map fun r => textTmB (rowT r)).map .string)) (fun _ i' _ => R.length - (intOf i').toNat)
    case atStart => exact ⟨0, by omega, rfl, Ext.refl _, World.ownsRow_nil _ _ _ _⟩
    case round =>
      obtain ⟨k, hk, rfl, hb, ho⟩ := hrel
      have er := h1.trans hb
      by_cases hlt : k < R.length
      · obtain ⟨bb, off, rfl, hbl, c0, c1, c2⟩ := (hx.ext er).at hlt
        have vx := (hx.ext er).val hlt
        have hs := hsh.out k hlt
        have hst : Hid ((((R.take (k + 1)).map fun r => textTmB (rowT r)).map Value.string) = (((R.take k).map fun r => textTmB (rowT r)).map Value.string) ++ [.string (textTmB (rowT (sAtR R k)))]) := by
          show _ = _
          rw [take_snocT hlt, List.map_append, List.map_append]; rfl
        generalize sAtR R k = r at *
        obtain ⟨k1, n1, v1, vals1⟩ := r
        have vx : Strs wr v1 vals1 := vx
        simp only at c0 c1 c2
        obtain ⟨q3, cap3, rfl, _, _⟩ := vx.shape
        have hW := (Ext.refl wr).alloc (.cells #[.string k1, .bool n1, .slice q3 vals1.length cap3] 57)
        have C : Calls Tryd.prog 84 #[.agg #[.string k1, .bool n1, .slice q3 vals1.length cap3]] (wr.alloc (.cells #[.string k1, .bool n1, .slice q3 vals1.length cap3] 57)) fun e w' => e = .returned (.string (textTmB (rowT (k1, n1, .slice q3 vals1.length cap3, vals1)))) ∧ Ext (wr.alloc (.cells #[.string k1, .bool n1, .slice q3 vals1.length cap3] 57)) w' := ttext_w k1 n1 vals1 _ _ hs (vx.ext hW)
        generalize textTmB (rowT (k1, n1, .slice q3 vals1.length cap3, vals1)) = t1 at *
        go_wp2_with fail
        refine C.mono ?_; rintro e w3 ⟨rfl, h3⟩
        have hb3 := (hb.trans hW).trans h3
        have ho4 := Ext.row (Ext.row (Ext.row ho hW) h3) ((Ext.refl w3).alloc (.cells #[.string t1] 9))
        have hb4 := hb3.trans ((Ext.refl w3).alloc (.cells #[.string t1] 9))
        have hl4 := Sl.lit w3 9 1 1 #[.string t1] rfl (by simp [maxLen])
        clear ho
        go_wp2_with (at_builtin; refine wpList_appE rfl _ _ Tryd.slStr rfl hb4 rfl ho4 rfl hl4 (strs_one [t1]) (by omega) ?_; intro v5 w5 ho5 hb5 _)
        go_roundw
        case rel => exact ⟨k + 1, by omega, by go_num, hb5, by rw [hst.out]; exact ho5⟩
        case measure => simp [intOf]; omega
      · obtain rfl : k = R.length := by omega
        rw [List.take_length] at ho
        have hS : Strs wr _ (R.map fun r => textTmB (rowT r)) := Strs.of_row ho (by simp)
        obtain ⟨q2, cap2, rfl, hc2, hm2⟩ := hS.shape
        have hll : (R.map fun r => textTmB (rowT r)).length = R.length := List.length_map _
        by_cases h0 : R.length = 0
        · have hlb : ((R.length : Int) == 0) = true := by rw [beq_iff_eq]; omega
          have hz' : Hid (textS (R.map rowT) = [45]) := by show _ = _; rw [hz.out, if_pos h0]
          rw [hll]
          clear h0
          go_wp2
          go_ret
          exact ⟨by rw [hz'.out]; rfl, er⟩
        · have hlb : ((R.length : Int) == 0) = false := by rw [beq_eq_false_iff_ne]; omega
          have hz' : Hid (textS (R.map rowT) = joinB (R.map fun r => textTmB (rowT r)) 44) := by show _ = _; rw [hz.out, if_neg h0]
          have hjl : (joinB (R.map fun r => textTmB (rowT r)) 44).length ≤ 684 := by
            have := join_len (c := 44) (n := 170) (xs := (R.map fun r => textTmB (rowT r)).map (·.data.toList)) (fun x hx => by
              obtain ⟨y, hy, rfl⟩ := List.mem_map.1 hx
              obtain ⟨r, hr, rfl⟩ := List.mem_map.1 hy
              obtain ⟨k, hk, rfl⟩ := List.getElem_of_mem hr
              have := hsh.out k hk
              rw [show sAtR R k = R[k] by simp [sAtR, hk]] at this
              exact textTmB_short this)
            rw [List.length_map, hll] at this
            unfold joinB
            omega
          have C := join_w (R.map fun r => textTmB (rowT r)) 44 _ wr hS (fun e => h0 (by rw [← hll, e]; rfl)) (by rw [hll]; omega) (by omega)
          rw [hll] at C ⊢
          clear h0 hjl hS
          generalize joinB (R.map fun r => textTmB (rowT r)) 44 = J at *
          go_wp2_with fail
          refine C.mono ?_; rintro e w3 ⟨rfl, h3⟩
          go_wp2
          go_ret
          exact ⟨by rw [hz'.out]; rfl, er.trans h3⟩

end Go.Proofs.YtbkemhheombfcaaDoor

namespace Go.Proofs.YtbkemhheombfcaaDoor
open Go.RowKit Go.Dm

set_option maxHeartbeats 400000 in
theorem hasprefix_w (x : ByteArray) (w : World) (hs : x.size ≤ 140737488355328) :
    Calls Tryd.prog 123 #[.string x, .string ⟨#[33]⟩] w fun e w' => e = .returned (.bool (pre33 x)) ∧ Ext w w' := by
  have s1 : (⟨#[33]⟩ : ByteArray).size = 1 := rfl
  by_cases h : 1 ≤ x.size
  · have hq := pre33_at h
    generalize pre33 x = p at *
    go_enter Tryd.func123, Tryd.ntmps123
    go_wp2
    go_ret
    exact ⟨rfl, Ext.refl _⟩
  · have hq := pre33_short (x := x) (by omega)
    generalize pre33 x = p at *
    subst hq
    go_enter Tryd.func123, Tryd.ntmps123
    go_wp2
    go_ret
    exact ⟨rfl, Ext.refl _⟩

set_option maxHeartbeats 400000 in
theorem hassuffix_w (x : ByteArray) (w : World) (hs : x.size ≤ 140737488355328) :
    Calls Tryd.prog 124 #[.string x, .string ⟨#[33]⟩] w fun e w' => e = .returned (.bool (suf33 x)) ∧ Ext w w' := by
  have s1 : (⟨#[33]⟩ : ByteArray).size = 1 := rfl
  by_cases h : 1 ≤ x.size
  · have hq := suf33_at h
    have hw : IntKind.i64.wrap ((x.size : Int) - 1) = ((x.size - 1 : Nat) : Int) := by rw [IntKind.wrap_i64]; omega
    generalize suf33 x = p at *
    go_enter Tryd.func124, Tryd.ntmps124
    go_wp2
    go_ret
    exact ⟨rfl, Ext.refl _⟩
  · have hq := suf33_short (x := x) (by omega)
    generalize suf33 x = p at *
    subst hq
    go_enter Tryd.func124, Tryd.ntmps124
    go_wp2
    go_ret
    exact ⟨rfl, Ext.refl _⟩

set_option maxHeartbeats 400000 in
theorem cutprefix0_w (x : ByteArray) (w : World) (hs : x.size ≤ 140737488355328) :
    Calls Tryd.prog 113 #[.string x, .string ⟨#[33]⟩] w fun e w' => e = .returned (.tuple #[.string (if pre33 x then ⟨(x.data.toList.drop 1).toArray⟩ else x), .bool (pre33 x)]) ∧ Ext w w' := by
  have s1 : (⟨#[33]⟩ : ByteArray).size = 1 := rfl
  have C := hasprefix_w x w hs
  cases hp : pre33 x with
  | true =>
    have h : 1 ≤ x.size := by
      rcases Nat.eq_zero_or_pos x.size with h | h
      · rw [pre33_short h] at hp; cases hp
      · exact h
    have hd := mk_drop (x := x)
    rw [hp] at C
    clear hp
    go_enter Tryd.func113, Tryd.ntmps113
    go_wp2_with fail
    refine C.mono ?_; rintro e w1 ⟨rfl, h1⟩
    go_wp2
    go_ret2
    exact ⟨rfl, h1⟩
  | false =>
    rw [hp] at C
    clear hp
    go_enter Tryd.func113, Tryd.ntmps113
    go_wp2_with fail
    refine C.mono ?_; rintro e w1 ⟨rfl, h1⟩
    go_wp2
    go_ret2
    exact ⟨rfl, h1⟩

set_option maxHeartbeats 400000 in
theorem cutsuffix0_w (x : ByteArray) (w : World) (hs : x.size ≤ 140737488355328) :
    Calls Tryd.prog 114 #[.string x, .string ⟨#[33]⟩] w fun e w' => e = .returned (.tuple #[.string (if suf33 x then ⟨x.data.toList.dropLast.toArray⟩ else x), .bool (suf33 x)]) ∧ Ext w w' := by
  have s1 : (⟨#[33]⟩ : ByteArray).size = 1 := rfl
  have C := hassuffix_w x w hs
  cases hp : suf33 x with
  | true =>
    have h : 1 ≤ x.size := by
      rcases Nat.eq_zero_or_pos x.size with h | h
      · rw [suf33_short h] at hp; cases hp
      · exact h
    have hd := mk_dropLast (x := x)
    have hw : IntKind.i64.wrap ((x.size : Int) - 1) = ((x.size - 1 : Nat) : Int) := by rw [IntKind.wrap_i64]; omega
    rw [hp] at C
    clear hp
    go_enter Tryd.func114, Tryd.ntmps114
    go_wp2_with fail
    refine C.mono ?_; rintro e w1 ⟨rfl, h1⟩
    go_wp2
    go_ret2
    exact ⟨rfl, h1⟩
  | false =>
    rw [hp] at C
    clear hp
    go_enter Tryd.func114, Tryd.ntmps114
    go_wp2_with fail
    refine C.mono ?_; rintro e w1 ⟨rfl, h1⟩
    go_wp2
    go_ret2
    exact ⟨rfl, h1⟩

set_option maxHeartbeats 400000 in
theorem cutprefix_w (x : ByteArray) (w : World) (hs : x.size ≤ 140737488355328) :
    Calls Tryd.prog 102 #[.string x, .string ⟨#[33]⟩] w fun e w' => e = .returned (.tuple #[.string (if pre33 x then ⟨(x.data.toList.drop 1).toArray⟩ else x), .bool (pre33 x)]) ∧ Ext w w' := by
  have C := cutprefix0_w x w hs
  generalize (if pre33 x then (⟨(x.data.toList.drop 1).toArray⟩ : ByteArray) else x) = y at *
  generalize pre33 x = p at *
  go_enter Tryd.func102, Tryd.ntmps102
  go_wp2_with fail
  refine C.mono ?_; rintro e w1 ⟨rfl, h1⟩
  go_wp2
  go_ret2
  exact ⟨rfl, h1⟩

set_option maxHeartbeats 400000 in
theorem cutsuffix_w (x : ByteArray) (w : World) (hs : x.size ≤ 140737488355328) :
    Calls Tryd.prog 103 #[.string x, .string ⟨#[33]⟩] w fun e w' => e = .returned (.tuple #[.string (if suf33 x then ⟨x.data.toList.dropLast.toArray⟩ else x), .bool (suf33 x)]) ∧ Ext w w' := by
  have C := cutsuffix0_w x w hs
  generalize (if suf33 x then (⟨x.data.toList.dropLast.toArray⟩ : ByteArray) else x) = y at *
  generalize suf33 x = p at *
  go_enter Tryd.func103, Tryd.ntmps103
  go_wp2_with fail
  refine C.mono ?_; rintro e w1 ⟨rfl, h1⟩
  go_wp2
  go_ret2
  exact ⟨rfl, h1⟩

end Go.Proofs.YtbkemhheombfcaaDoor

namespace Go.Dm
open Go Go.RowKit
theorem cellAt_ne {b i j : Nat} (h : i ≠ j) : (⟨b, i, none⟩ : Addr) ≠ ⟨b, j, none⟩ := by intro e; injection e with _ e; exact h e
theorem cell_set_ne {w : World} {b i j : Nat} {u v : Value} (h : w.cell? ⟨b, j, none⟩ = some v) (hij : i ≠ j) : (w.setCell ⟨b, i, none⟩ u).cell? ⟨b, j, none⟩ = some v := by
  have hne := cellAt_ne (b := b) hij
  first
    | (rw [World.cell?_setCell_other _ _ _ hne]; exact h)
    | (rw [World.cell?_setCell_other _ _ _ _ hne]; exact h)
    | (rw [World.cell?_setCell_other (h := hne)]; exact h)
theorem cell_set_eq {w : World} {b i : Nat} {u v : Value} (h : w.cell? ⟨b, i, none⟩ = some v) : (w.setCell ⟨b, i, none⟩ u).cell? ⟨b, i, none⟩ = some u := by
  first
    | exact World.cell?_setCell_same _ _ _ h
    | exact World.cell?_setCell_same _ _ h
theorem cell_set_far {w : World} {b c i j : Nat} {u v : Value} (h : w.cell? ⟨b, j, none⟩ = some v) (hbc : c ≠ b) : (w.setCell ⟨c, i, none⟩ u).cell? ⟨b, j, none⟩ = some v := by
  have hne : (⟨c, i, none⟩ : Addr) ≠ ⟨b, j, none⟩ := by intro e; injection e with e; exact hbc e
  first
    | (rw [World.cell?_setCell_other _ _ _ hne]; exact h)
    | (rw [World.cell?_setCell_other _ _ _ _ hne]; exact h)
    | (rw [World.cell?_setCell_other (h := hne)]; exact h)

/-- A variable of three cells. -/
structure Cell3 (b : Nat) (x y z : Value) (w : World) : Prop where
  lt : b < w.heap.size
  c0 : w.cell? ⟨b, 0, none⟩ = some x
  c1 : w.cell? ⟨b, 1, none⟩ = some y
  c2 : w.cell? ⟨b, 2, none⟩ = some z
  f0 : w.frozen? ⟨b, 0, none⟩ = false
  f1 : w.frozen? ⟨b, 1, none⟩ = false
  f2 : w.frozen? ⟨b, 2, none⟩ = false
theorem Cell3.ext {b : Nat} {x y z : Value} {w w' : World} (h : Cell3 b x y z w) (hx : Ext w w') : Cell3 b x y z w' :=
  ⟨Nat.lt_of_lt_of_le h.lt hx.size, by rw [hx.cell (by exact h.lt)]; exact h.c0, by rw [hx.cell (by exact h.lt)]; exact h.c1, by rw [hx.cell (by exact h.lt)]; exact h.c2,
    by rw [hx.frozen (by exact h.lt)]; exact h.f0, by rw [hx.frozen (by exact h.lt)]; exact h.f1, by rw [hx.frozen (by exact h.lt)]; exact h.f2⟩
theorem Cell3.set0 {b : Nat} {x y z : Value} {w : World} (h : Cell3 b x y z w) (u : Value) : Cell3 b u y z (w.setCell ⟨b, 0, none⟩ u) :=
  ⟨by rw [World.size_setCell]; exact h.lt, cell_set_eq h.c0, cell_set_ne h.c1 (by decide), cell_set_ne h.c2 (by decide), by rw [World.frozen?_setCell]; exact h.f0, by rw [World.frozen?_setCell]; exact h.f1, by rw [World.frozen?_setCell]; exact h.f2⟩
theorem Cell3.set1 {b : Nat} {x y z : Value} {w : World} (h : Cell3 b x y z w) (u : Value) : Cell3 b x u z (w.setCell ⟨b, 1, none⟩ u) :=
  ⟨by rw [World.size_setCell]; exact h.lt, cell_set_ne h.c0 (by decide), cell_set_eq h.c1, cell_set_ne h.c2 (by decide), by rw [World.frozen?_setCell]; exact h.f0, by rw [World.frozen?_setCell]; exact h.f1, by rw [World.frozen?_setCell]; exact h.f2⟩
theorem Cell3.set2 {b : Nat} {x y z : Value} {w : World} (h : Cell3 b x y z w) (u : Value) : Cell3 b x y u (w.setCell ⟨b, 2, none⟩ u) :=
  ⟨by rw [World.size_setCell]; exact h.lt, cell_set_ne h.c0 (by decide), cell_set_ne h.c1 (by decide), cell_set_eq h.c2, by rw [World.frozen?_setCell]; exact h.f0, by rw [World.frozen?_setCell]; exact h.f1, by rw [World.frozen?_setCell]; exact h.f2⟩
theorem Cell3.far {b c i : Nat} {x y z : Value} {w : World} (h : Cell3 b x y z w) (hc : c ≠ b) (u : Value) : Cell3 b x y z (w.setCell ⟨c, i, none⟩ u) :=
  ⟨by rw [World.size_setCell]; exact h.lt, cell_set_far h.c0 hc, cell_set_far h.c1 hc, cell_set_far h.c2 hc, by rw [World.frozen?_setCell]; exact h.f0, by rw [World.frozen?_setCell]; exact h.f1, by rw [World.frozen?_setCell]; exact h.f2⟩
theorem Cell3.new (w : World) (x y z : Value) (t : TypeId) : Cell3 w.heap.size x y z (w.alloc (.cells #[x, y, z] t)) :=
  ⟨by simp, by simp, by simp, by simp, by simp, by simp, by simp⟩
/-- All three written. -/
theorem Cell3.put {b : Nat} {x y z : Value} {w : World} (h : Cell3 b x y z w) (u v q : Value) : Cell3 b u v q (((w.setCell ⟨b, 0, none⟩ u).setCell ⟨b, 1, none⟩ v).setCell ⟨b, 2, none⟩ q) := ((h.set0 u).set1 v).set2 q
theorem Sl.far {w : World} {sz b off n cap c i : Nat} {cs : List Value} (h : Sl w sz (.slice (some ⟨b, off, none⟩) n cap) n cs) (hc : c ≠ b) (u : Value) : Sl (w.setCell ⟨c, i, none⟩ u) sz (.slice (some ⟨b, off, none⟩) n cap) n cs := by
  obtain ⟨hl, p, cap', hv, hn, hm, hz, h⟩ := h
  injection hv with e1 _ e2
  subst e1 e2
  refine ⟨hl, _, _, rfl, hn, hm, hz, ?_⟩
  rcases h with h | ⟨b', off', hp, hlt, h⟩
  · exact Or.inl h
  · injection hp with hp; injection hp with hp1 hp2
    subst hp1 hp2
    exact Or.inr ⟨b, off, rfl, by rw [World.size_setCell]; exact hlt, fun j u' hj => cell_set_far (h j u' hj) hc⟩
theorem below_put3 {B b : Nat} {w w' : World} (h : Below B w w') (hb : B ≤ b) (u v q : Value) : Below B w (((w'.setCell ⟨b, 0, none⟩ u).setCell ⟨b, 1, none⟩ v).setCell ⟨b, 2, none⟩ q) :=
  ((h.setCell (p := ⟨b, 0, none⟩) hb u).setCell (p := ⟨b, 1, none⟩) hb v).setCell (p := ⟨b, 2, none⟩) hb q
end Go.Dm
namespace Go.Proofs.YtbkemhheombfcaaDoor
open Go.RowKit Go.Dm

/-- Texts cut at a byte. -/
theorem split_w (x : ByteArray) (c : UInt8) (w : World) (hs : x.size < 4294967281) (ht : Vars w) :
    Calls Tryd.prog 62 #[.string x, .string ⟨#[c]⟩] w fun e w' => ∃ vs : List ByteArray, e = .returned (.slice (some ⟨w.heap.size, 0, none⟩) vs.length vs.length) ∧ Strs w' (.slice (some ⟨w.heap.size, 0, none⟩) vs.length vs.length) vs ∧ bytesOf vs = splitC c x.data.toList ∧ vs.length ≤ 4294967281 ∧ Ext w w' := by
  obtain ⟨m, hm⟩ := ht.most
  have hlen := splitB_bytesC x c
  have hall := Lib.splitB_all ⟨#[c]⟩ (by simp [ByteArray.size]) 0 (Lib.countB x ⟨#[c]⟩) x rfl
  have hcl : Lib.countB x ⟨#[c]⟩ ≤ x.size := Lib.countB_le ⟨#[c]⟩ (by simp [ByteArray.size]) x.size x (Nat.le_refl _)
  have C := Tryd.strings_Split x ⟨#[c]⟩ m w hs hm (by simp [ByteArray.size])
  rw [← hall] at C
  generalize hss : Lib.splitB ⟨#[c]⟩ 0 (Lib.countB x ⟨#[c]⟩) x = ss at C hlen hall
  have hl : ss.length ≤ 4294967281 := by omega
  have hal : Ext w (w.alloc (.cells (ss.map Value.string).toArray 9)) := (Ext.refl w).alloc _
  have hx : Strs (w.alloc (.cells (ss.map Value.string).toArray 9)) (.slice (some ⟨w.heap.size, 0, none⟩) ss.length ss.length) ss := by
    have := Sl.lit w 9 1 ss.length (ss.map Value.string).toArray (by simp) (by simp [maxLen]; omega)
    simpa [Strs] using this
  refine C.mono ?_; rintro e w1 ⟨rfl, rfl⟩
  exact ⟨ss, rfl, hx, hlen, hl, hal⟩
/-- A text cut in two. -/
theorem cut_w (x : ByteArray) (c : UInt8) (w : World) (hs : x.size < 4294967281) (ht : Vars w) :
    Calls Tryd.prog 63 #[.string x, .string ⟨#[c]⟩] w fun e w' => e = .returned (.tuple #[.string ⟨(cutC c x.data.toList).1.toArray⟩, .string ⟨(cutC c x.data.toList).2.1.toArray⟩, .bool (cutC c x.data.toList).2.2]) ∧ Ext w w' := by
  obtain ⟨m, hm⟩ := ht.most
  have C := Tryd.strings_Cut x ⟨#[c]⟩ m w (by omega) hm
  rw [show (⟨#[c]⟩ : ByteArray).data.toList = [c] from rfl, cut_eqC] at C
  refine C.mono ?_; rintro e w2 ⟨he, n, hw2⟩
  refine ⟨he, ?_⟩
  rw [hw2]
  exact (Below.refl _ _).trans ⟨rfl, rfl, rfl, Nat.le_refl _, fun _ _ => rfl⟩

set_option maxHeartbeats 1000000 in
set_option maxRecDepth 100000 in
theorem termof_w (x : ByteArray) (w : World) (hs : x.size < 4294967281) (ht : Vars w) :
    Calls Tryd.prog 76 #[.string x] w fun e w' => ∃ r : RowS, e = .returned (.agg #[.string r.1, .bool r.2.1, r.2.2.1]) ∧ rowT r = mkT (termL x.data.toList) ∧ Strs w' r.2.2.1 r.2.2.2 ∧ (∀ b, r.2.2.1.ownBlock = some b → w.heap.size ≤ b) ∧ Ext w w' := by
  have hW : Ext w (w.alloc (.cells #[.string ⟨#[]⟩, .bool false, .slice none 0 0] 57)) := (Ext.refl _).alloc _
  have C := cutprefix_w x (w.alloc (.cells #[.string ⟨#[]⟩, .bool false, .slice none 0 0] 57)) (by omega)
  have K0 := Cell3.new w (.string ⟨#[]⟩) (.bool false) (.slice none 0 0) 57
  cases hp : pre33 x with
  | true =>
    have hz := Lib.hid (termL_pre hp)
    rw [hp, if_pos rfl] at C
    clear hp
    generalize (⟨(x.data.toList.drop 1).toArray⟩ : ByteArray) = y at *
    go_enter Tryd.func76, Tryd.ntmps76
    go_wp2_with fail
    refine C.mono ?_; rintro e w1 ⟨rfl, h1⟩
    have K1 := (K0.ext h1).put (.string y) (.bool true) (.slice none 0 0)
    have hB := below_put3 (hW.trans h1) (Nat.le_refl _) (.string y) (.bool true) (.slice none 0 0)
    obtain ⟨q1, q2, q3, q4, q5, q6, q7⟩ := K0.ext h1
    go_wp2
    obtain ⟨_, k0, k1, k2, _, _, _⟩ := K1
    refine bodyPost_ret (v := .agg #[.string y, .bool true, .slice none 0 0]) (by simp [results, Tryd.results76, go_sem, k0, k1, k2]) rfl ?_
    exact ⟨(y, true, .slice none 0 0, []), rfl, by rw [hz.out]; rfl, Strs.nil _, (fun b hb => by cases hb), hB⟩
  | false =>
    have hcl := cutC_len 61 x.data.toList
    have CC := fun w1 (h1 : Ext w w1) => cut_w x 61 w1 hs (ht.ext h1)
    rw [hp, if_neg (by decide)] at C
    cases hc : (cutC 61 x.data.toList).2.2 with
    | false =>
      have hz := Lib.hid (termL_bare hp hc)
      rw [hc] at CC
      clear hp hc hcl
      generalize (⟨(cutC 61 x.data.toList).1.toArray⟩ : ByteArray) = y1 at *
      generalize (⟨(cutC 61 x.data.toList).2.1.toArray⟩ : ByteArray) = y2 at *
      replace CC := Lib.hid CC
      go_enter Tryd.func76, Tryd.ntmps76
      go_wp2_with fail
      refine C.mono ?_; rintro e w1 ⟨rfl, h1⟩
      go_wp2_with fail
      refine (CC.out w1 (hW.trans h1)).mono ?_; rintro e w2 ⟨rfl, h2⟩
      have K1 := ((K0.ext h1).ext h2).put (.string x) (.bool false) (.slice none 0 0)
      have hB := below_put3 ((hW.trans h1).trans h2) (Nat.le_refl _) (.string x) (.bool false) (.slice none 0 0)
      obtain ⟨q1, q2, q3, q4, q5, q6, q7⟩ := (K0.ext h1).ext h2
      go_wp2
      obtain ⟨_, k0, k1, k2, _, _, _⟩ := K1
      refine bodyPost_ret (v := .agg #[.string x, .bool false, .slice none 0 0]) (by simp [results, Tryd.results76, go_sem, k0, k1, k2]) rfl ?_
      exact ⟨(x, false, .slice none 0 0, []), rfl, by rw [hz.out]; rfl, Strs.nil _, (fun b hb => by cases hb), hB⟩
    | true =>
      have hz := fun vs hv => Lib.hid (termL_vals (k := ⟨(cutC 61 x.data.toList).1.toArray⟩) (vs := vs) hp hc rfl hv)
      rw [hc] at CC
      rw [← size_len] at hcl
      have s1 : (⟨(cutC 61 x.data.toList).1.toArray⟩ : ByteArray).size ≤ x.size := by rw [size_len]; show (cutC 61 x.data.toList).1.length ≤ _; omega
      have s2 : (⟨(cutC 61 x.data.toList).2.1.toArray⟩ : ByteArray).size ≤ x.size := by rw [size_len]; show (cutC 61 x.data.toList).2.1.length ≤ _; omega
      have hv2 : (cutC 61 x.data.toList).2.1 = (⟨(cutC 61 x.data.toList).2.1.toArray⟩ : ByteArray).data.toList := rfl
      rw [hv2] at hz
      clear hp hc hcl hv2
      generalize (⟨(cutC 61 x.data.toList).1.toArray⟩ : ByteArray) = y1 at *
      generalize (⟨(cutC 61 x.data.toList).2.1.toArray⟩ : ByteArray) = y2 at *
      have CS := fun w1 => cutsuffix_w y1 w1 (by omega)
      generalize hy3 : (if suf33 y1 then (⟨y1.data.toList.dropLast.toArray⟩ : ByteArray) else y1) = y3 at *
      generalize hs3 : suf33 y1 = s3 at *
      clear hy3 hs3
      replace hz := Lib.hid hz
      replace CC := Lib.hid CC
      replace CS := Lib.hid CS
      go_enter Tryd.func76, Tryd.ntmps76
      go_wp2_with fail
      refine C.mono ?_; rintro e w1 ⟨rfl, h1⟩
      go_wp2_with fail
      refine (CC.out w1 (hW.trans h1)).mono ?_; rintro e w2 ⟨rfl, h2⟩
      go_wp2_with fail
      refine (CS.out w2).mono ?_; rintro e w3 ⟨rfl, h3⟩
      have e3 := ((hW.trans h1).trans h2).trans h3
      go_wp2_with fail
      refine (split_w y2 124 w3 (by omega) (ht.ext e3)).mono ?_; rintro e w4 ⟨vs, rfl, hx, hv, hl, h4⟩
      have hz' := (hz.out vs hv).out
      have K1 := ((((K0.ext h1).ext h2).ext h3).ext h4).put (.string y3) (.bool s3) (.slice (some ⟨w3.heap.size, 0, none⟩) vs.length vs.length)
      have hB := below_put3 (e3.trans h4) (Nat.le_refl _) (.string y3) (.bool s3) (.slice (some ⟨w3.heap.size, 0, none⟩) vs.length vs.length)
      have hne : w.heap.size ≠ w3.heap.size := Nat.ne_of_lt (((K0.ext h1).ext h2).ext h3).lt
      have hx5 := Sl.far (i := 2) (Sl.far (i := 1) (Sl.far (i := 0) hx hne (.string y3)) hne (.bool s3)) hne (.slice (some ⟨w3.heap.size, 0, none⟩) vs.length vs.length)
      clear hne
      obtain ⟨q1, q2, q3, q4, q5, q6, q7⟩ := (((K0.ext h1).ext h2).ext h3).ext h4
      replace hz' := Lib.hid hz'
      clear hv
      go_wp2
      obtain ⟨_, k0, k1, k2, _, _, _⟩ := K1
      refine bodyPost_ret (v := .agg #[.string y3, .bool s3, .slice (some ⟨w3.heap.size, 0, none⟩) vs.length vs.length]) (by simp [results, Tryd.results76, go_sem, k0, k1, k2]) rfl ?_
      exact ⟨(y3, s3, .slice (some ⟨w3.heap.size, 0, none⟩) vs.length vs.length, vs), rfl, by rw [hz'.out]; rfl, hx5, (fun b hb => by injection hb with hb; subst hb; exact e3.size), hB⟩

end Go.Proofs.YtbkemhheombfcaaDoor

namespace Go.Dm
open Go Go.RowKit
theorem bytesOf_size' {vs : List ByteArray} {c : UInt8} {t : Bs} (h : bytesOf vs = splitC c t) : ∀ k, k < vs.length → (strAt vs k).size ≤ t.length := by
  intro k hk
  rw [size_len]
  refine mem_splitC_len (c := c) ?_
  rw [← h]
  exact List.mem_map_of_mem (strAt_mem hk)
theorem splitC_count (c : UInt8) : ∀ l : Bs, (splitC c l).length ≤ l.length + 1
  | [] => by simp [splitC]
  | a :: l => by
    have := splitC_count c l
    unfold splitC
    split
    · simp only [List.length_cons]; omega
    · split
      · simp
      · rename_i h; rw [h] at this; simp only [List.length_cons] at *; omega
theorem termL_fit (x : ByteArray) : (mkT (termL x.data.toList)).1.size ≤ x.size ∧ (mkT (termL x.data.toList)).2.2.length ≤ x.size + 1 ∧ ∀ y ∈ (mkT (termL x.data.toList)).2.2, y.size ≤ x.size := by
  have hx := size_len x
  have hc := cutC_len 61 x.data.toList
  have hv : ∀ y ∈ (splitC 124 (cutC 61 x.data.toList).2.1).map (fun x => (⟨x.toArray⟩ : ByteArray)), y.size ≤ x.size := by
    intro y hy
    obtain ⟨z, hz, rfl⟩ := List.mem_map.1 hy
    rw [size_len]
    show z.length ≤ _
    have := mem_splitC_len hz
    omega
  have hn := splitC_count 124 (cutC 61 x.data.toList).2.1
  unfold termL mkT
  split
  · refine ⟨?_, by simp, by simp⟩
    show (x.data.toList.drop 1).length ≤ x.size
    rw [List.length_drop]; omega
  · split
    · refine ⟨?_, by simp, by simp⟩
      show x.data.toList.length ≤ x.size
      omega
    · split
      · refine ⟨?_, (by show (List.map (fun x : Bs => (⟨x.toArray⟩ : ByteArray)) (splitC 124 (cutC 61 x.data.toList).2.1)).length ≤ x.size + 1; rw [List.length_map]; omega), hv⟩
        show (cutC 61 x.data.toList).1.dropLast.length ≤ x.size
        rw [List.length_dropLast]; omega
      · refine ⟨?_, (by show (List.map (fun x : Bs => (⟨x.toArray⟩ : ByteArray)) (splitC 124 (cutC 61 x.data.toList).2.1)).length ≤ x.size + 1; rw [List.length_map]; omega), hv⟩
        show (cutC 61 x.data.toList).1.length ≤ x.size
        omega
end Go.Dm
namespace Go.Proofs.YtbkemhheombfcaaDoor
open Go.RowKit Go.Dm

theorem Tryd.slTerm : SlT Tryd.prog 53 57 3 48 := SlT.mk' Tryd.underlying53 (by kernel_rfl) (by decide) (by decide)

set_option maxHeartbeats 2000000 in
set_option maxRecDepth 100000 in
theorem sparse_w (t : ByteArray) (w : World) (hs : t.size < 2147483640) (ht : Vars w) :
    Calls Tryd.prog 38 #[.string t] w fun e w' => ∃ r R b, e = .returned (.tuple #[r, .bool b]) ∧ Terms w' r R ∧ (R.map rowT, b) = parseS t.data.toList ∧ FitR R ∧ R.length ≤ 4 ∧ Ext w w' := by
  by_cases h45 : t.data.toList = [45]
  · obtain rfl : t = ⟨#[45]⟩ := mk_bytes h45
    clear h45
    go_enter Tryd.func38, Tryd.ntmps38
    go_wp2
    go_ret2
    exact ⟨_, [], true, rfl, Terms.nil _, rfl, (fun r hr => by cases hr), by simp, Ext.refl _⟩
  · have hXt : (t.toList == [45]) = false := by rw [ByteArray.toList_eq, beq_eq_false_iff_ne]; exact h45
    have hXt' : ¬ t.toList = [45] := by rw [ByteArray.toList_eq]; exact h45
    have C := split_w t 44 w (by omega) ht
    replace h45 := Lib.hid h45
    go_enter Tryd.func38, Tryd.ntmps38
    go_wp2_with fail
    refine C.mono ?_; rintro e W ⟨ss, rfl, hx, hsp, hl, hal⟩
    clear C
    have hz := Lib.hid (bytesOf_size' hsp)
    have hmap : Hid (ss.map (fun x => mkT (termL x.data.toList)) = termsL t.data.toList) := by
      show _ = _
      unfold termsL
      rw [← hsp, bytesOf, List.map_map]; rfl
    have hfit : Hid (∀ k, k < ss.length → FitT (mkT (termL (strAt ss k).data.toList))) := fun k hk => by
      obtain ⟨f1, f2, f3⟩ := termL_fit (strAt ss k)
      have := hz.out k hk
      rw [← size_len] at this
      exact ⟨by omega, by omega, fun y hy => by have := f3 y hy; omega⟩
    clear hsp
    go_wp2
    go_loopw [4, 12] (fun v i' wr => ∃ (k : Nat) (R : List RowS), k ≤ ss.length ∧ i' = .int .i64 k ∧ Ext W wr ∧ TRow 57 W.heap.size wr v k R ∧ Hid (R.map rowT = (ss.take k).map (fun x => mkT (termL x.data.toList)))) (fun _ i' _ => ss.length - (intOf i').toNat)
    case atStart => exact ⟨0, [], by omega, rfl, Ext.refl _, TRow.nil _ _ _, rfl⟩
    case round =>
      obtain ⟨k, R, hk, rfl, hb, ho, hR⟩ := hrel
      have er := hal.trans hb
      by_cases hlt : k < ss.length
      · obtain ⟨hbl, c0⟩ := (hx.ext hb).cells hlt
        rw [Nat.zero_add] at c0
        have hzk := hz.out k hlt
        have C := termof_w (strAt ss k) wr (by rw [← size_len] at hzk; omega) (ht.ext er)
        clear hzk
        go_wp2_with fail
        refine C.mono ?_; rintro e w2 ⟨r, rfl, hr, hv, hbk, h2⟩
        clear C
        have hap := ho.apart_new hbk
        have ho2 := ho.ext h2
        obtain ⟨k1, n1, v1, vals1⟩ := r
        have hv : Strs w2 v1 vals1 := hv
        have hsn : Hid ((R ++ [(k1, n1, v1, vals1)]).map rowT = (ss.take (k + 1)).map (fun x => mkT (termL x.data.toList))) := by
          show _ = _
          rw [List.map_append, hR.out, List.take_succ_eq_append_getElem hlt, List.map_append]
          simp only [List.map_cons, List.map_nil, hr]
          simp [strAt, hlt]
        obtain ⟨q3, cap3, rfl, _, _⟩ := hv.shape
        have ha4 := (Ext.refl w2).alloc (.cells #[.string k1, .bool n1, .slice q3 vals1.length cap3] 57)
        have hb4 := (hb.trans h2).trans ha4
        have ho4 := ho2.ext ha4
        have hv4 := hv.ext ha4
        have hl4 := Sl.lit w2 57 3 1 #[.string k1, .bool n1, .slice q3 vals1.length cap3] rfl (by simp [maxLen])
        have hap4 : (k1, n1, Value.slice q3 vals1.length cap3, vals1).2.2.2 = [] ∨ Apart (k1, n1, Value.slice q3 vals1.length cap3, vals1).2.2.1 _ := Or.inr hap
        replace hap4 := Lib.hid hap4
        clear ho ho2 hr hR hap hbk
        go_wp2_with (at_builtin; refine wpList_appT rfl _ _ Tryd.slTerm rfl hb4 rfl ho4 (r := (k1, n1, .slice q3 vals1.length cap3, vals1)) rfl hl4 hv4 hap4.out (by omega) ?_; intro v5 w5 ho5 hb5 _)
        go_roundw
        case rel => exact ⟨k + 1, R ++ [(k1, n1, .slice q3 vals1.length cap3, vals1)], by omega, by go_num, hb5, ho5, hsn⟩
        case measure => simp [intOf]; omega
      · obtain rfl : k = ss.length := by omega
        have hRe := hR.out
        rw [List.take_length] at hRe
        have hRl : R.length = ss.length := by have := congrArg List.length hRe; simpa using this
        have hF : FitR R := fun r hr => by
          have : rowT r ∈ ss.map (fun x => mkT (termL x.data.toList)) := by rw [← hRe]; exact List.mem_map_of_mem hr
          obtain ⟨x, hx, e⟩ := List.mem_map.1 this
          obtain ⟨j, hj, e2⟩ := List.getElem_of_mem hx
          have h2 : strAt ss j = x := by simp [strAt, hj, e2]
          have := hfit.out j hj
          rw [h2] at this
          rw [← e]; exact this
        have hT := ho.terms hRl.symm
        have hRt : Hid (R.map rowT = termsL t.data.toList) := hRe.trans hmap.out
        have CR := sright_w R _ wr (by rw [hRl]; omega) hF hT (ht.tabs.ext er)
        have CT := fun w3 (h3 : Ext wr w3) => stext_w R _ w3 (by rw [hRl]; omega) hF (hT.ext h3) (ht.tabs.ext (er.trans h3))
        rw [hRt.out] at CR CT
        clear hRe hR hfit hmap hz ho
        cases hRi : rightS (termsL t.data.toList) with
        | false =>
          have hz' := Lib.hid (parseS_bad h45.out hRi)
          rw [hRi] at CR
          clear hRi CT
          go_wp2_with fail
          refine CR.mono ?_; rintro e w3 ⟨rfl, h3⟩
          go_wp2
          go_ret2
          exact ⟨_, [], false, rfl, Terms.nil _, by rw [hz'.out]; rfl, (fun r hr => by cases hr), by simp, er.trans h3⟩
        | true =>
          have h4 := (rightS_iff.1 hRi).1
          rw [← hRt.out, List.length_map] at h4
          rw [hRi] at CR
          by_cases hq : textS (termsL t.data.toList) = t.data.toList
          · have hz' := Lib.hid (parseS_good h45.out hRi hq)
            have hqb : ((⟨(textS (termsL t.data.toList)).toArray⟩ : ByteArray).toList == t.toList) = true := by rw [ByteArray.toList_eq, ByteArray.toList_eq, beq_iff_eq]; exact hq
            have hqb' : (⟨(textS (termsL t.data.toList)).toArray⟩ : ByteArray).toList = t.toList := by rw [ByteArray.toList_eq, ByteArray.toList_eq]; exact hq
            clear hRi hq
            generalize (⟨(textS (termsL t.data.toList)).toArray⟩ : ByteArray) = T at *
            replace CT := Lib.hid CT
            go_wp2_with fail
            refine CR.mono ?_; rintro e w3 ⟨rfl, h3⟩
            go_wp2_with fail
            refine (CT.out w3 h3).mono ?_; rintro e w4 ⟨rfl, h4⟩
            go_wp2
            go_ret2
            exact ⟨_, R, true, rfl, (hT.ext h3).ext h4, by rw [hz'.out, hRt.out], hF, by assumption, er.trans (h3.trans h4)⟩
          · have hz' := Lib.hid (parseS_other h45.out hq)
            have hqb : ((⟨(textS (termsL t.data.toList)).toArray⟩ : ByteArray).toList == t.toList) = false := by rw [ByteArray.toList_eq, ByteArray.toList_eq, beq_eq_false_iff_ne]; exact hq
            have hqb' : ¬ (⟨(textS (termsL t.data.toList)).toArray⟩ : ByteArray).toList = t.toList := by rw [ByteArray.toList_eq, ByteArray.toList_eq]; exact hq
            clear hRi hq
            generalize (⟨(textS (termsL t.data.toList)).toArray⟩ : ByteArray) = T at *
            replace CT := Lib.hid CT
            go_wp2_with fail
            refine CR.mono ?_; rintro e w3 ⟨rfl, h3⟩
            go_wp2_with fail
            refine (CT.out w3 h3).mono ?_; rintro e w4 ⟨rfl, h4⟩
            go_wp2
            go_ret2
            exact ⟨_, [], false, rfl, Terms.nil _, by rw [hz'.out]; rfl, (fun r hr => by cases hr), by simp, er.trans (h3.trans h4)⟩

end Go.Proofs.YtbkemhheombfcaaDoor

namespace Go.Dm
open Go Go.RowKit
theorem Ext.grownBy {w w' : World} (h : Ext w w') (r : Option Nat) : w.grownBy w' r := ⟨h.os, h.tape, h.output, h.size, fun k hk _ => h.block k hk⟩
theorem grown_trans {w w' w'' : World} {r : Option Nat} (h : w.grownBy w' r) (h' : w'.grownBy w'' r) : w.grownBy w'' r :=
  ⟨h'.os.trans h.os, h'.tape.trans h.tape, h'.output.trans h.output, Nat.le_trans h.size h'.size, fun k hk hr => (h'.block k (Nat.lt_of_lt_of_le hk h.size) hr).trans (h.block k hk hr)⟩
theorem grown_set (w : World) (b i : Nat) (v : Value) : w.grownBy (w.setCell ⟨b, i, none⟩ v) (some b) := by
  refine ⟨rfl, rfl, rfl, by rw [World.size_setCell]; exact Nat.le_refl _, fun k _ hr => ?_⟩
  simp only [World.setCell, Array.getElem?_modify]
  rw [if_neg (fun e => hr (by rw [e]))]
theorem grown_set_new {w w' : World} {r : Option Nat} (h : w.grownBy w' r) {c : Nat} (hc : w.heap.size ≤ c) (i : Nat) (v : Value) : w.grownBy (w'.setCell ⟨c, i, none⟩ v) r := by
  refine ⟨h.os, h.tape, h.output, by rw [World.size_setCell]; exact h.size, fun k hk hr => ?_⟩
  rw [← h.block k hk hr]
  simp only [World.setCell, Array.getElem?_modify]
  rw [if_neg (fun e => by omega)]
theorem grown_new {w w' w'' : World} {r q : Option Nat} (h : w.grownBy w' r) (h' : w'.grownBy w'' q) (hq : ∀ c, q = some c → w.heap.size ≤ c) : w.grownBy w'' r := by
  refine ⟨h'.os.trans h.os, h'.tape.trans h.tape, h'.output.trans h.output, Nat.le_trans h.size h'.size, fun k hk hr => ?_⟩
  rw [← h.block k hk hr]
  exact h'.block k (Nat.lt_of_lt_of_le hk h.size) (fun e => by have := hq k e.symm; omega)
theorem Cell2.far {b c i : Nat} {x y : Value} {w : World} (h : Cell2 b x y w) (hc : c ≠ b) (u : Value) : Cell2 b x y (w.setCell ⟨c, i, none⟩ u) :=
  ⟨by rw [World.size_setCell]; exact h.lt, cell_set_far h.c0 hc, cell_set_far h.c1 hc, by rw [World.frozen?_setCell]; exact h.f0, by rw [World.frozen?_setCell]; exact h.f1⟩
theorem Cell2.grown {b : Nat} {x y : Value} {w w' : World} {q : Option Nat} (h : Cell2 b x y w) (hg : w.grownBy w' q) (hb : q ≠ some b) : Cell2 b x y w' := by
  have hc : ∀ i, w'.cell? ⟨b, i, none⟩ = w.cell? ⟨b, i, none⟩ := fun i => World.cell?_of_block (a := ⟨b, i, none⟩) (hg.block b h.lt (fun e => hb e.symm))
  have hf : ∀ i, w'.frozen? ⟨b, i, none⟩ = w.frozen? ⟨b, i, none⟩ := fun i => World.frozen?_of_block (a := ⟨b, i, none⟩) (hg.block b h.lt (fun e => hb e.symm))
  exact ⟨Nat.lt_of_lt_of_le h.lt hg.size, by rw [hc]; exact h.c0, by rw [hc]; exact h.c1, by rw [hf]; exact h.f0, by rw [hf]; exact h.f1⟩
theorem Cell3.grown {b : Nat} {x y z : Value} {w w' : World} {q : Option Nat} (h : Cell3 b x y z w) (hg : w.grownBy w' q) (hb : q ≠ some b) : Cell3 b x y z w' := by
  have hc : ∀ i, w'.cell? ⟨b, i, none⟩ = w.cell? ⟨b, i, none⟩ := fun i => World.cell?_of_block (a := ⟨b, i, none⟩) (hg.block b h.lt (fun e => hb e.symm))
  have hf : ∀ i, w'.frozen? ⟨b, i, none⟩ = w.frozen? ⟨b, i, none⟩ := fun i => World.frozen?_of_block (a := ⟨b, i, none⟩) (hg.block b h.lt (fun e => hb e.symm))
  exact ⟨Nat.lt_of_lt_of_le h.lt hg.size, by rw [hc]; exact h.c0, by rw [hc]; exact h.c1, by rw [hc]; exact h.c2, by rw [hf]; exact h.f0, by rw [hf]; exact h.f1, by rw [hf]; exact h.f2⟩
theorem row_shape {w : World} {base e size n : Nat} {v : Value} {xs : List Value} (h : w.ownsRow base e size v n xs) : ∃ p cap, v = .slice p n cap := by
  obtain ⟨_, h⟩ := h
  rcases h with ⟨rfl, rfl⟩ | ⟨g, cap, cur, hv, _⟩
  · exact ⟨none, 0, rfl⟩
  · exact ⟨_, _, hv⟩
theorem some_ne {b c : Nat} (h : b ≠ c) : some b ≠ some c := fun e => h (by injection e)
theorem grown_row {w w' : World} {q : Option Nat} {base e size n : Nat} {v : Value} {xs : List Value} (h : w.ownsRow base e size v n xs) (hg : w.grownBy w' q) (hq : ∀ c, q = some c → c < base) : w'.ownsRow base e size v n xs := by
  obtain ⟨hl, h⟩ := h
  refine ⟨hl, ?_⟩
  rcases h with h | ⟨g, cap, cur, hv, hb, hgg, r⟩
  · exact Or.inl h
  · exact Or.inr ⟨g, cap, cur, hv, hb, by rw [hg.block g (Array.getElem?_eq_some_iff.1 hgg).1 (fun e => by have := hq g e.symm; omega)]; exact hgg, r⟩
end Go.Dm
namespace Go.Proofs.YtbkemhheombfcaaDoor
open Go.RowKit Go.Dm

/-- What a reader panics with. -/
def badV : Value := .iface 112 (.agg #[])

set_option maxHeartbeats 1000000 in
theorem number_yes (b : Nat) (s : ByteArray) (p n : Int) (u most : Nat) (w : World) (hs : s.size ≤ 281474976710656) (K : Cell2 b (.string s) (.int .i64 p) w) (hu : u ≤ most) (hm : most ≤ 1000) (hg : getI s.data.toList p = (u, n, true)) :
    Calls Tryd.prog 73 #[.pointer (some ⟨b, 0, none⟩), .int .u64 most] w fun e w' => e = .returned (.int .i64 u) ∧ Cell2 b (.string s) (.int .i64 n) w' ∧ w.grownBy w' (some b) := by
  have C : Hid (∀ U, Calls Tryd.prog 91 #[.string s, .int .i64 p] U fun e w' => e = .returned (.tuple #[.int .u64 u, .int .i64 n, .bool true]) ∧ Ext U w') := fun U => by
    have := wget_w s p U hs
    rw [hg] at this
    exact this
  clear hg
  have k0 := K.c0
  have k1 := K.c1
  have hlt := K.lt
  go_enter Tryd.func73, Tryd.ntmps73
  go_wp2_with fail
  refine Dm.wp_region_grow (by kernel_rfl) (by kernel_rfl) ?_
  repeat (go_big_quiet_step (first
    | (go_at_call 91; with_reducible exact Calls.quietE (C.out _))))
  refine wpQuiet_nil ?_
  intro U hU
  have KU := K.ext hU
  have KF := KU.set1 (.int .i64 n)
  have hG := grown_trans (Ext.grownBy hU (some b)) (grown_set U b 1 (.int .i64 n))
  obtain ⟨u0, u1, u2, u3, u4⟩ := KU
  clear C k0 k1
  go_wp2
  go_ret
  exact ⟨rfl, KF, hG⟩

set_option maxHeartbeats 1000000 in
theorem number_no (b : Nat) (s : ByteArray) (p : Int) (most : Nat) (w : World) (hs : s.size ≤ 281474976710656) (K : Cell2 b (.string s) (.int .i64 p) w) (_hm : most ≤ 1000) (hg : (getI s.data.toList p).2.2 = true → most < (getI s.data.toList p).1) :
    Calls Tryd.prog 73 #[.pointer (some ⟨b, 0, none⟩), .int .u64 most] w fun e w' => e = .panicked [{ v := badV, recovered := false }] ∧ w.grownBy w' (some b) := by
  have C := fun U => wget_w s p U hs
  generalize (getI s.data.toList p).1 = u at *
  generalize (getI s.data.toList p).2.1 = n at *
  generalize (getI s.data.toList p).2.2 = o at *
  have C : Hid (∀ U, Calls Tryd.prog 91 #[.string s, .int .i64 p] U fun e w' => e = .returned (.tuple #[.int .u64 u, .int .i64 n, .bool o]) ∧ Ext U w') := C
  have k0 := K.c0
  have k1 := K.c1
  have hlt := K.lt
  cases o with
  | false =>
    clear hg
    go_enter Tryd.func73, Tryd.ntmps73
    go_wp2_with fail
    refine Dm.wp_region_grow (by kernel_rfl) (by kernel_rfl) ?_
    repeat (go_big_quiet_step (first
      | (go_at_call 91; with_reducible exact Calls.quietE (C.out _))))
    refine wpQuiet_nil ?_
    intro U hU
    clear C k0 k1
    go_wp2
    exact ⟨rfl, rfl, Ext.grownBy hU (some b)⟩
  | true =>
    replace hg := hg rfl
    go_enter Tryd.func73, Tryd.ntmps73
    go_wp2_with fail
    refine Dm.wp_region_grow (by kernel_rfl) (by kernel_rfl) ?_
    repeat (go_big_quiet_step (first
      | (go_at_call 91; with_reducible exact Calls.quietE (C.out _))))
    refine wpQuiet_nil ?_
    intro U hU
    clear C k0 k1
    go_wp2
    exact ⟨rfl, rfl, Ext.grownBy hU (some b)⟩

set_option maxHeartbeats 1000000 in
theorem rtext_yes (b : Nat) (s : ByteArray) (p n : Int) (t : Bs) (w : World) (hs : s.size ≤ 281474976710656) (K : Cell2 b (.string s) (.int .i64 p) w) (hg : atI (getTextL 32) [] s.data.toList p = (t, n, true)) :
    Calls Tryd.prog 101 #[.pointer (some ⟨b, 0, none⟩)] w fun e w' => e = .returned (.string ⟨t.toArray⟩) ∧ Cell2 b (.string s) (.int .i64 n) w' ∧ w.grownBy w' (some b) := by
  have C : Hid (∀ U, Calls Tryd.prog 92 #[.string s, .int .i64 p, .int .i64 32] U fun e w' => e = .returned (.tuple #[.string ⟨t.toArray⟩, .int .i64 n, .bool true]) ∧ Ext U w') := fun U => by
    have := wgettext_w s p 32 U hs (by omega)
    rw [hg] at this
    exact this
  clear hg
  have k0 := K.c0
  have k1 := K.c1
  have hlt := K.lt
  generalize (⟨t.toArray⟩ : ByteArray) = T at *
  go_enter Tryd.func101, Tryd.ntmps101
  go_wp2_with fail
  refine Dm.wp_region_grow (by kernel_rfl) (by kernel_rfl) ?_
  repeat (go_big_quiet_step (first
    | (go_at_call 92; with_reducible exact Calls.quietE (C.out _))))
  refine wpQuiet_nil ?_
  intro U hU
  have KU := K.ext hU
  have KF := KU.set1 (.int .i64 n)
  have hG := grown_trans (Ext.grownBy hU (some b)) (grown_set U b 1 (.int .i64 n))
  obtain ⟨u0, u1, u2, u3, u4⟩ := KU
  clear C k0 k1
  go_wp2
  go_ret
  exact ⟨rfl, KF, hG⟩

set_option maxHeartbeats 1000000 in
theorem rtext_no (b : Nat) (s : ByteArray) (p : Int) (w : World) (hs : s.size ≤ 281474976710656) (K : Cell2 b (.string s) (.int .i64 p) w) (hg : (atI (getTextL 32) [] s.data.toList p).2.2 = false) :
    Calls Tryd.prog 101 #[.pointer (some ⟨b, 0, none⟩)] w fun e w' => e = .panicked [{ v := badV, recovered := false }] ∧ w.grownBy w' (some b) := by
  have C := fun U => wgettext_w s p 32 U hs (by omega)
  generalize (atI (getTextL 32) [] s.data.toList p).1 = t at *
  generalize (atI (getTextL 32) [] s.data.toList p).2.1 = n at *
  rw [hg] at C
  clear hg
  generalize (⟨t.toArray⟩ : ByteArray) = T at *
  have C : Hid (∀ U, Calls Tryd.prog 92 #[.string s, .int .i64 p, .int .i64 32] U fun e w' => e = .returned (.tuple #[.string T, .int .i64 n, .bool false]) ∧ Ext U w') := C
  have k0 := K.c0
  have k1 := K.c1
  have hlt := K.lt
  go_enter Tryd.func101, Tryd.ntmps101
  go_wp2_with fail
  refine Dm.wp_region_grow (by kernel_rfl) (by kernel_rfl) ?_
  repeat (go_big_quiet_step (first
    | (go_at_call 92; with_reducible exact Calls.quietE (C.out _))))
  refine wpQuiet_nil ?_
  intro U hU
  clear C k0 k1
  go_wp2
  exact ⟨rfl, rfl, Ext.grownBy hU (some b)⟩

end Go.Proofs.YtbkemhheombfcaaDoor
