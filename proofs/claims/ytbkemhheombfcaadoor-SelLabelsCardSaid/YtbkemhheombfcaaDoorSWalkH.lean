/- Chapter 5: the walks of the library's CutPrefix, CutSuffix. -/
import Derived.Test.YtbkemhheombfcaaDoorSWalkG
import Derived.Test.YtbkemhheombfcaaDoorSPureC
namespace Go.Proofs.YtbkemhheombfcaaDoor
open Go.RowKit Go.Dm

set_option maxHeartbeats 400000 in
theorem hasprefix_w (x : ByteArray) (w : World) (hs : x.size ≤ 140737488355328) :
    Calls Tryd.prog 123 #[.string x, .string ⟨#[33]⟩] w fun e w' => e = .returned (.bool (pre33 x)) ∧ Ext w w' := by
  have s1 : (⟨#[33]⟩ : ByteArray).size = 1 := rfl
  by_cases h : 1 ≤ x.size
  · have hq := pre33_at h
    generalize pre33 x = p at *
    go_enter Tryd.func123, Tryd.ntmps123
    go_wp2
    go_ret
    exact ⟨rfl, Ext.refl _⟩
  · have hq := pre33_short (x := x) (by omega)
    generalize pre33 x = p at *
    subst hq
    go_enter Tryd.func123, Tryd.ntmps123
    go_wp2
    go_ret
    exact ⟨rfl, Ext.refl _⟩

set_option maxHeartbeats 400000 in
theorem hassuffix_w (x : ByteArray) (w : World) (hs : x.size ≤ 140737488355328) :
    Calls Tryd.prog 124 #[.string x, .string ⟨#[33]⟩] w fun e w' => e = .returned (.bool (suf33 x)) ∧ Ext w w' := by
  have s1 : (⟨#[33]⟩ : ByteArray).size = 1 := rfl
  by_cases h : 1 ≤ x.size
  · have hq := suf33_at h
    have hw : IntKind.i64.wrap ((x.size : Int) - 1) = ((x.size - 1 : Nat) : Int) := by rw [IntKind.wrap_i64]; omega
    generalize suf33 x = p at *
    go_enter Tryd.func124, Tryd.ntmps124
    go_wp2
    go_ret
    exact ⟨rfl, Ext.refl _⟩
  · have hq := suf33_short (x := x) (by omega)
    generalize suf33 x = p at *
    subst hq
    go_enter Tryd.func124, Tryd.ntmps124
    go_wp2
    go_ret
    exact ⟨rfl, Ext.refl _⟩

set_option maxHeartbeats 400000 in
theorem cutprefix0_w (x : ByteArray) (w : World) (hs : x.size ≤ 140737488355328) :
    Calls Tryd.prog 113 #[.string x, .string ⟨#[33]⟩] w fun e w' => e = .returned (.tuple #[.string (if pre33 x then ⟨(x.data.toList.drop 1).toArray⟩ else x), .bool (pre33 x)]) ∧ Ext w w' := by
  have s1 : (⟨#[33]⟩ : ByteArray).size = 1 := rfl
  have C := hasprefix_w x w hs
  cases hp : pre33 x with
  | true =>
    have h : 1 ≤ x.size := by
      rcases Nat.eq_zero_or_pos x.size with h | h
      · rw [pre33_short h] at hp; cases hp
      · exact h
    have hd := mk_drop (x := x)
    rw [hp] at C
    clear hp
    go_enter Tryd.func113, Tryd.ntmps113
    go_wp2_with fail
    refine C.mono ?_; rintro e w1 ⟨rfl, h1⟩
    go_wp2
    go_ret2
    exact ⟨rfl, h1⟩
  | false =>
    rw [hp] at C
    clear hp
    go_enter Tryd.func113, Tryd.ntmps113
    go_wp2_with fail
    refine C.mono ?_; rintro e w1 ⟨rfl, h1⟩
    go_wp2
    go_ret2
    exact ⟨rfl, h1⟩

set_option maxHeartbeats 400000 in
theorem cutsuffix0_w (x : ByteArray) (w : World) (hs : x.size ≤ 140737488355328) :
    Calls Tryd.prog 114 #[.string x, .string ⟨#[33]⟩] w fun e w' => e = .returned (.tuple #[.string (if suf33 x then ⟨x.data.toList.dropLast.toArray⟩ else x), .bool (suf33 x)]) ∧ Ext w w' := by
  have s1 : (⟨#[33]⟩ : ByteArray).size = 1 := rfl
  have C := hassuffix_w x w hs
  cases hp : suf33 x with
  | true =>
    have h : 1 ≤ x.size := by
      rcases Nat.eq_zero_or_pos x.size with h | h
      · rw [suf33_short h] at hp; cases hp
      · exact h
    have hd := mk_dropLast (x := x)
    have hw : IntKind.i64.wrap ((x.size : Int) - 1) = ((x.size - 1 : Nat) : Int) := by rw [IntKind.wrap_i64]; omega
    rw [hp] at C
    clear hp
    go_enter Tryd.func114, Tryd.ntmps114
    go_wp2_with fail
    refine C.mono ?_; rintro e w1 ⟨rfl, h1⟩
    go_wp2
    go_ret2
    exact ⟨rfl, h1⟩
  | false =>
    rw [hp] at C
    clear hp
    go_enter Tryd.func114, Tryd.ntmps114
    go_wp2_with fail
    refine C.mono ?_; rintro e w1 ⟨rfl, h1⟩
    go_wp2
    go_ret2
    exact ⟨rfl, h1⟩

set_option maxHeartbeats 400000 in
theorem cutprefix_w (x : ByteArray) (w : World) (hs : x.size ≤ 140737488355328) :
    Calls Tryd.prog 102 #[.string x, .string ⟨#[33]⟩] w fun e w' => e = .returned (.tuple #[.string (if pre33 x then ⟨(x.data.toList.drop 1).toArray⟩ else x), .bool (pre33 x)]) ∧ Ext w w' := by
  have C := cutprefix0_w x w hs
  generalize (if pre33 x then (⟨(x.data.toList.drop 1).toArray⟩ : ByteArray) else x) = y at *
  generalize pre33 x = p at *
  go_enter Tryd.func102, Tryd.ntmps102
  go_wp2_with fail
  refine C.mono ?_; rintro e w1 ⟨rfl, h1⟩
  go_wp2
  go_ret2
  exact ⟨rfl, h1⟩

set_option maxHeartbeats 400000 in
theorem cutsuffix_w (x : ByteArray) (w : World) (hs : x.size ≤ 140737488355328) :
    Calls Tryd.prog 103 #[.string x, .string ⟨#[33]⟩] w fun e w' => e = .returned (.tuple #[.string (if suf33 x then ⟨x.data.toList.dropLast.toArray⟩ else x), .bool (suf33 x)]) ∧ Ext w w' := by
  have C := cutsuffix0_w x w hs
  generalize (if suf33 x then (⟨x.data.toList.dropLast.toArray⟩ : ByteArray) else x) = y at *
  generalize suf33 x = p at *
  go_enter Tryd.func103, Tryd.ntmps103
  go_wp2_with fail
  refine C.mono ?_; rintro e w1 ⟨rfl, h1⟩
  go_wp2
  go_ret2
  exact ⟨rfl, h1⟩

end Go.Proofs.YtbkemhheombfcaaDoor
