/- Chapter 4: the walks of the program's Find, Put, Text. -/
import Derived.Test.YtibimbcjnjefdaaLWalkA
import Derived.Test.YtibimbcjnjefdaaVWalkA
import Derived.Test.YtibimbcjnjefdaaWTypes
namespace Go.Dm
open Go Go.RowKit

def keyIs (key : ByteArray) (p : PairS) : Bool := p.1.toList == key.toList
/-- P4.1: the value of a key. -/
def findB (l : List PairS) (key : ByteArray) : ByteArray × Bool := match firstP (keyIs key) l with | some k => ((pairAt l k).2, true) | none => (⟨#[]⟩, false)

/-- P4.2: labels as bytes. -/
def putP (L : List PairL) : Bs := L.flatMap fun p => putT p.1 ++ putT p.2
def putLab (L : List PairL) : Bs := if rightLab L then putL L.length ++ putP L else []
/-- P4.2: labels as they are read. -/
def showP (p : PairL) : Bs := p.1 ++ 61 :: p.2
def textLab (L : List PairL) : Bs := if rightLab L then (if L = [] then [45] else Lib.join (L.map showP) [44]) else [63]

theorem putP_step {L : List PairL} {k : Nat} (hk : k < L.length) : putP (L.take (k + 1)) = putP (L.take k) ++ (putT (plAt L k).1 ++ putT (plAt L k).2) := by
  rw [List.take_succ_eq_append_getElem hk, putP, List.flatMap_append]
  simp [putP, plAt, hk]

theorem labL_app (a b : List PairS) : labL (a ++ b) = labL a ++ labL b := by simp [labL]
end Go.Dm
namespace Go.Proofs.Ytibimbcjnjefdaa
open Go.RowKit Go.Dm

theorem Try.slPair : SlT Try.prog 45 57 2 32 := SlT.mk' Try.underlying45 (by kernel_rfl) (by decide) (by decide)

set_option maxHeartbeats 400000 in
theorem find1_w (key a b : ByteArray) (c o : Nat) (w : World) (hcl : c < w.heap.size) (hc : w.cell? ⟨c, o, none⟩ = some (.string key)) :
    Calls Try.prog 49 #[.agg #[.string a, .string b], .pointer (some ⟨c, o, none⟩)] w fun e w' => e = .returned (.bool (keyIs key (a, b))) ∧ Ext w w' := by
  go_enter Try.func49, Try.ntmps49
  go_wp2
  go_ret
  exact ⟨rfl, (Below.refl _ _).alloc (Nat.le_refl _) _⟩

set_option maxHeartbeats 400000 in
theorem indexKey_w (l : List PairS) (key : ByteArray) (q : Option Addr) (cap : Nat) (c o : Nat) (w : World) (hm : l.length ≤ 35184372088832)
    (hx : Pairs w (.slice q l.length cap) l) (hcl : c < w.heap.size) (hc : w.cell? ⟨c, o, none⟩ = some (.string key)) :
    Calls Try.prog 48 #[.slice q l.length cap, .func (.func 49) #[] #[.pointer (some ⟨c, o, none⟩)]] w
      fun e w' => e = .returned (.int .i64 (placeI (firstP (keyIs key) l))) ∧ Ext w w' := by
  go_enter Try.func48, Try.ntmps48
  go_wp2
  go_loopw [4, 8] (fun z i wr => ∃ k : Nat, k ≤ l.length ∧ i = .int .i64 k ∧ z = .int .i64 0 ∧ Ext w wr ∧ Hid (∀ j, j < k → keyIs key (pairAt l j) = false)) (fun _ i _ => l.length - (intOf i).toNat)
  case atStart => exact ⟨0, by omega, rfl, rfl, Ext.refl w, fun j hj => by omega⟩
  case round =>
    obtain ⟨k, hk, rfl, rfl, hb, HN⟩ := hrel
    by_cases hlt : k < l.length
    · obtain ⟨b, off, rfl, hbl, c0, c1⟩ := (hx.ext hb).at hlt
      have hcl' : c < wr.heap.size := Nat.lt_of_lt_of_le hcl hb.size
      have hc' : wr.cell? ⟨c, o, none⟩ = some (.string key) := by rw [hb.cell (by exact hcl)]; exact hc
      go_wp2_with fail
      refine (find1_w key _ _ _ _ _ hcl' hc').mono ?_; rintro e w' ⟨rfl, hb1⟩
      cases ht : keyIs key (pairAt l k) with
      | true =>
        go_wp2
        go_ret
        refine ⟨?_, hb.trans hb1⟩
        rw [firstP_hit noPair hlt HN.out ht]
        rfl
      | false =>
        go_wp2
        go_roundw
        case rel => exact ⟨k + 1, by omega, by go_num, rfl, hb.trans hb1, fun j hj => by
          rcases Nat.lt_succ_iff_lt_or_eq.1 hj with h | rfl
          · exact HN.out j h
          · exact ht⟩
        case measure => simp [intOf]; omega
    · go_wp2
      go_ret
      obtain rfl : k = l.length := by omega
      refine ⟨?_, hb⟩
      rw [firstP_miss noPair HN.out]
      rfl

set_option maxHeartbeats 400000 in
theorem find_w (l : List PairS) (key : ByteArray) (v : Value) (w : World) (hm : l.length ≤ 35184372088832) (hx : Pairs w v l) :
    Calls Try.prog 43 #[v, .string key] w fun e w' => e = .returned (.tuple #[.string (findB l key).1, .bool (findB l key).2]) ∧ Ext w w' := by
  obtain ⟨q, cap, rfl, _, _⟩ := hx.shape
  have fin : Ext w (w.alloc (.cells #[.string key] 9)) := (Below.refl _ _).alloc (Nat.le_refl _) _
  have hx' := hx.ext fin
  have C := indexKey_w l key q cap w.heap.size 0 _ hm hx' (by simp) (by simp)
  go_enter Try.func43, Try.ntmps43
  cases hf : firstP (keyIs key) l with
  | none =>
    have hz : Hid (findB l key = (⟨#[]⟩, false)) := by show _ = _; unfold findB; rw [hf]
    rw [hf] at C
    have h0 : placeI none < 0 := by decide
    clear hf
    go_wp2_with fail
    refine C.mono ?_; rintro e w1 ⟨rfl, h1⟩
    show _
    go_wp2
    go_ret2
    exact ⟨by rw [hz.out]; rfl, fin.trans h1⟩
  | some k =>
    obtain ⟨hk, _, _⟩ := firstP_some noPair hf
    have hz : Hid (findB l key = ((pairAt l k).2, true)) := by show _ = _; unfold findB; rw [hf]
    rw [hf] at C
    have C : Calls Try.prog 48 #[.slice q l.length cap, .func (.func 49) #[] #[.pointer (some ⟨w.heap.size, 0, none⟩)]] (w.alloc (.cells #[.string key] 9)) fun e w' => e = .returned (.int .i64 (k : Int)) ∧ Ext (w.alloc (.cells #[.string key] 9)) w' := C
    clear hf
    go_wp2_with fail
    refine C.mono ?_; rintro e w1 ⟨rfl, h1⟩
    obtain ⟨b, off, rfl, hbl, c0, c1⟩ := (hx'.ext h1).at hk
    go_wp2
    go_ret2
    exact ⟨by rw [hz.out]; rfl, fin.trans h1⟩

end Go.Proofs.Ytibimbcjnjefdaa
