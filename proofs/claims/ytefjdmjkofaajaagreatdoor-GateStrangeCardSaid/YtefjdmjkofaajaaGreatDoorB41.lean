/- Texts one behind the other: Chapter 7: the walks of caveat, Get; Chapter 18: a map of fields by kind; the walk of known; Chapter 7: as MacG; the caveats of a token that was got lie in a block of the call's own. -/
import Derived.Test.YtefjdmjkofaajaaGreatDoorB43
import Derived.Test.YtefjdmjkofaajaaGreatDoorB15
import Derived.Test.YtefjdmjkofaajaaGreatDoorB30
import Derived.Maps.Own
import Derived.Maps.OwnSet
import Derived.Maps.Views
import Derived.Carry
namespace Go.Dm
open Go Go.RowKit
/-- The caveat that stands at a place. -/
def getCav (l : Bs) (p : Int) : Cav × Int × Bool := (((min (getI l p).1 3 : Nat), (getI l (getI l p).2.1).1), (getI l (getI l p).2.1).2.1, (getI l p).2.2 && (getI l (getI l p).2.1).2.2)
def cavsAt (l : Bs) (p : Int) : Nat → Option (List Cav × Int)
  | 0 => some ([], p)
  | k + 1 => match cavsAt l p k with
    | none => none
    | some (cs, z) => if (getCav l z).2.2 then some (cs ++ [(getCav l z).1], (getCav l z).2.1) else none
def noTok : TokQ × Int × Bool := ((⟨#[]⟩, [], ⟨#[]⟩), 0, false)
/-- What is got where a token stands. -/
def tokAt (l : Bs) (tn : ByteArray) : Option (List Cav × Int) → TokQ × Int × Bool
  | none => noTok
  | some (cs, z) => if putTok (tn, cs, ⟨((l.drop z.toNat).take 32).toArray⟩) = [] then noTok else ((tn, cs, ⟨((l.drop z.toNat).take 32).toArray⟩), z + 32, true)
def getTok (l : Bs) (p : Int) : TokQ × Int × Bool :=
  if (atI (getTextL 32) [] l p).2.2 = false ∨ (getI l (atI (getTextL 32) [] l p).2.1).2.2 = false ∨ 8 < (getI l (atI (getTextL 32) [] l p).2.1).1 then noTok
  else tokAt l ⟨(atI (getTextL 32) [] l p).1.toArray⟩ (cavsAt l (getI l (atI (getTextL 32) [] l p).2.1).2.1 (getI l (atI (getTextL 32) [] l p).2.1).1)
theorem text32 {l : Bs} {p : Int} (hl : l.length ≤ 281474976710656) (h : (atI (getTextL 32) [] l p).2.2 = true) : (atI (getTextL 32) [] l p).1.length ≤ 32 := by
  rcases hr : atI (getTextL 32) [] l p with ⟨t, n, b⟩
  rw [hr] at h
  obtain rfl : b = true := h
  exact ((text_iff (Nat.lt_of_le_of_lt hl (by decide))).1 hr).1
theorem getI_range {l : Bs} {p : Int} (hl : l.length ≤ 281474976710656) (h : (getI l p).2.2 = true) : 0 ≤ (getI l p).2.1 ∧ (getI l p).2.1 ≤ (l.length : Int) := by
  rcases hr : getI l p with ⟨t, n, b⟩
  rw [hr] at h
  obtain rfl : b = true := h
  obtain ⟨_, q, rfl, rfl, hb⟩ := (getI_iff (Nat.lt_of_le_of_lt hl (by decide))).1 hr
  have := begins_pos hb (putL_ne t)
  show (0 : Int) ≤ ((q + (putL t).length : Nat) : Int) ∧ ((q + (putL t).length : Nat) : Int) ≤ _
  omega
theorem getI_fit {l : Bs} {p : Int} (hl : l.length ≤ 281474976710656) : U64 (getI l p).1 := by
  rcases hr : getI l p with ⟨t, n, b⟩
  cases b with
  | true => exact ((getI_iff (Nat.lt_of_le_of_lt hl (by decide))).1 hr).1
  | false =>
    unfold getI at hr
    split at hr
    · injection hr with h1; subst h1; show (0 : Nat) < _; decide
    · split at hr
      · injection hr with _ h2; injection h2 with _ h3; cases h3
      · injection hr with h1; subst h1; show (0 : Nat) < _; decide
theorem getCav_range {l : Bs} {p : Int} (hl : l.length ≤ 281474976710656) (h : (getCav l p).2.2 = true) : U64 (getCav l p).1.2 ∧ 0 ≤ (getCav l p).2.1 ∧ (getCav l p).2.1 ≤ (l.length : Int) := by
  unfold getCav at h ⊢
  simp only [Bool.and_eq_true] at h
  exact ⟨getI_fit hl, getI_range hl h.2⟩
theorem cavsAt_succ {l : Bs} {p : Int} {k : Nat} {cs : List Cav} {z : Int} (h : cavsAt l p k = some (cs, z)) : cavsAt l p (k + 1) = if (getCav l z).2.2 = true then some (cs ++ [(getCav l z).1], (getCav l z).2.1) else none := by
  show (match cavsAt l p k with | none => none | some (cs, z) => _) = _
  rw [h]
theorem cavsAt_none {l : Bs} {p : Int} {k n : Nat} (h : cavsAt l p k = none) (hk : k ≤ n) : cavsAt l p n = none := by
  induction n with
  | zero => obtain rfl : k = 0 := by omega
            exact h
  | succ n ih =>
    by_cases e : k = n + 1
    · rw [← e]; exact h
    · show (match cavsAt l p n with | none => none | some (cs, z) => _) = _
      rw [ih (by omega)]
theorem CB.grown {b : Nat} {cs : List Value} {w w' : World} (h : CB b cs w) {r : Option Nat} (hg : w.grownBy w' r) (hb : some b ≠ r) : CB b cs w' := by
  have e := hg.block b h.lt hb
  refine ⟨Nat.lt_of_lt_of_le h.lt hg.size, fun i hi => ?_, fun i hi => ?_⟩
  · have := h.cell i hi
    simpa [World.cell?, e] using this
  · have := h.free i hi
    simpa [World.frozen?, e] using this
end Go.Dm
namespace Go.Proofs.YtefjdmjkofaajaaGreatDoor
open Go.RowKit Go.Dm

set_option maxHeartbeats 1000000 in
set_option maxRecDepth 100000 in
theorem caveat_w (s : ByteArray) (p : Int) (w : World) (hs : s.size ≤ 281474976710656) :
    Calls Tryz.prog 82 #[.string s, .int .i64 p] w fun e w' => e = .returned (.tuple #[.agg #[.int .i64 (getCav s.data.toList p).1.1, .int .u64 ((getCav s.data.toList p).1.2 : Nat)], .int .i64 (getCav s.data.toList p).2.1, .bool (getCav s.data.toList p).2.2]) ∧ Ext w w' := by
  have hln : s.data.toList.length = s.size := rfl
  have hB : CB w.heap.size [.int .i64 0, .int .u64 0] (w.alloc (.cells #[.int .i64 0, .int .u64 0] 38)) := CB.new w #[.int .i64 0, .int .u64 0] 38
  have hE : Ext w (w.alloc (.cells #[.int .i64 0, .int .u64 0] 38)) := (Ext.refl _).alloc _
  have C1 := fun U => wget_w s p U hs
  have C2 := fun U => wget_w s (getI s.data.toList p).2.1 U hs
  unfold getCav
  have hf := getI_fit (l := s.data.toList) (p := p) (hln ▸ hs)
  generalize getI s.data.toList p = A at *
  obtain ⟨a, q1, b1⟩ := A
  simp only at *
  generalize getI s.data.toList q1 = B at *
  obtain ⟨n, q2, b2⟩ := B
  simp only at *
  have hmin : Hid (((min a 3 : Nat) : Int) = min (a : Int) 3) := by
    show _ = _
    omega
  replace C1 := Lib.hid C1
  replace C2 := Lib.hid C2
  have ha : a < 18446744073709551616 := hf
  clear hf
  go_enter Tryz.func82, Tryz.ntmps82
  go_wp2_with fail
  generalize w.alloc (.cells #[.int .i64 0, .int .u64 0] 38) = w1 at *
  obtain ⟨bB, hbB⟩ : ∃ x, x = w.heap.size := ⟨_, rfl⟩
  have hwB : w.heap.size ≤ bB := by omega
  rw [← hbB] at hB
  rw [← hbB]
  clear hbB
  refine (C1.out _).mono ?_; rintro e w2 ⟨rfl, h2⟩
  go_wp2_with fail
  refine (C2.out _).mono ?_; rintro e w3 ⟨rfl, h3⟩
  replace hB := (hB.ext h2).ext h3
  replace hE := (hE.trans h2).trans h3
  have xl := hB.lt
  have x0 := hB.cell 0 (by simp)
  have x1 := hB.cell 1 (by simp)
  have f0 := hB.free 0 (by simp)
  have f1 := hB.free 1 (by simp)
  cases b1 with
  | false =>
    go_wp2
    have hz : CB bB [.int .i64 (min (a : Int) 3), .int .u64 (n : Nat)] _ := (hB.set 0 (.int .i64 (min (a : Int) 3)) (by simp)).set 1 (.int .u64 (n : Nat)) (by simp)
    have k0 := hz.cell 0 (by simp)
    have k1 := hz.cell 1 (by simp)
    refine bodyPost_ret (v := .tuple #[.agg #[.int .i64 (min (a : Int) 3), .int .u64 (n : Nat)], .int .i64 q2, .bool false]) (by simp [results, Tryz.results82, go_sem, k0, k1]) rfl ?_
    exact ⟨by rw [hmin.out]; rfl, Below.setCell (Below.setCell hE hwB _) hwB _⟩
  | true =>
    go_wp2
    have hz : CB bB [.int .i64 (min (a : Int) 3), .int .u64 (n : Nat)] _ := (hB.set 0 (.int .i64 (min (a : Int) 3)) (by simp)).set 1 (.int .u64 (n : Nat)) (by simp)
    have k0 := hz.cell 0 (by simp)
    have k1 := hz.cell 1 (by simp)
    refine bodyPost_ret (v := .tuple #[.agg #[.int .i64 (min (a : Int) 3), .int .u64 (n : Nat)], .int .i64 q2, .bool b2]) (by simp [results, Tryz.results82, go_sem, k0, k1]) rfl ?_
    exact ⟨by rw [hmin.out]; rfl, Below.setCell (Below.setCell hE hwB _) hwB _⟩

end Go.Proofs.YtefjdmjkofaajaaGreatDoor

namespace Go.Dm
open Go Go.RowKit
/-- Which fields a kind has: id, n, path, v, x, labels. -/
abbrev Fld := Bool × Bool × Bool × Bool × Bool × Bool
def noFld : Fld := (false, false, false, false, false, false)
def fldV (f : Fld) : Value := .agg #[.bool f.1, .bool f.2.1, .bool f.2.2.1, .bool f.2.2.2.1, .bool f.2.2.2.2.1, .bool f.2.2.2.2.2]
def fldD (f : Fld) : DataW Unit := .agg [.lit (.bool f.1), .lit (.bool f.2.1), .lit (.bool f.2.2.1), .lit (.bool f.2.2.2.1), .lit (.bool f.2.2.2.2.1), .lit (.bool f.2.2.2.2.2)]
open Classical in
noncomputable def fldElem (v : Value) : Option (DataW Unit × List MemPlace) := if h : ∃ f : Fld, v = fldV f then some (fldD (Classical.choose h), []) else none
theorem fldV_inj {f g : Fld} (h : fldV f = fldV g) : f = g := by
 obtain ⟨a, b, c, d, e, i⟩ := f
 obtain ⟨a', b', c', d', e', i'⟩ := g
 unfold fldV at h
 injection h with h
 simp at h
 obtain ⟨h1, h2, h3, h4, h5, h6⟩ := h
 rw [h1, h2, h3, h4, h5, h6]
theorem fldD_inj {f g : Fld} (h : fldD f = fldD g) : f = g := by
 obtain ⟨a, b, c, d, e, i⟩ := f
 obtain ⟨a', b', c', d', e', i'⟩ := g
 unfold fldD at h
 injection h with h
 simp at h
 obtain ⟨h1, h2, h3, h4, h5, h6⟩ := h
 rw [h1, h2, h3, h4, h5, h6]
theorem fldElem_mk (f : Fld) : fldElem (fldV f) = some (fldD f, []) := by
 unfold fldElem
 have h : ∃ g : Fld, fldV f = fldV g := ⟨f, rfl⟩
 rw [dif_pos h, ← fldV_inj (Classical.choose_spec h)]
theorem fldElem_inv {v : Value} {f : Fld} {ps : List MemPlace} (h : fldElem v = some (fldD f, ps)) : v = fldV f := by
 unfold fldElem at h
 split at h
 ·rename_i hx
  injection h with h
  injection h with h _
  rw [← fldD_inj h]
  exact Classical.choose_spec hx
 ·cases h
theorem CB.cells6 {b : Nat} {a0 a1 a2 a3 a4 a5 : Value} {w : World} (h : CB b [a0, a1, a2, a3, a4, a5] w) : b < w.heap.size ∧ w.cell? ⟨b, 0, none⟩ = some a0 ∧ w.cell? ⟨b, 1, none⟩ = some a1 ∧ w.cell? ⟨b, 2, none⟩ = some a2 ∧ w.cell? ⟨b, 3, none⟩ = some a3 ∧ w.cell? ⟨b, 4, none⟩ = some a4 ∧ w.cell? ⟨b, 5, none⟩ = some a5 :=
 ⟨h.lt, h.cell 0 (by simp), h.cell 1 (by simp), h.cell 2 (by simp), h.cell 3 (by simp), h.cell 4 (by simp), h.cell 5 (by simp)⟩
theorem Ext.put_ {w0 w w' : World} {g : Nat} (h : Ext w0 w) (hg : w.grownBy w' (some g)) (hb : w0.heap.size ≤ g) : Ext w0 w' := Below.grown h hg h.size (fun k hk => by injection hk with hk; omega)
def putKF (g : Int → Option Fld) (k : Int) (f : Fld) : Int → Option Fld := fun z => if z = k then some f else g z
/-- P18.1: which kinds have which fields. -/
def knownF : Int → Option Fld := putKF (putKF (putKF (putKF (putKF (putKF (putKF (putKF (putKF (putKF (putKF (putKF (putKF (fun _ => none) 1 (false, false, false, false, true, false)) 2 (true, false, false, false, false, false)) 3 (false, false, true, true, false, false)) 4 (true, false, false, false, false, false)) 5 (false, true, false, false, false, false)) 6 (false, true, false, false, false, false)) 7 (false, false, true, false, false, false)) 8 (false, false, true, false, false, false)) 9 (false, false, false, true, false, false)) 10 (false, false, true, true, false, true)) 11 (false, false, true, false, false, false)) 12 (false, false, true, false, false, false)) 13 (false, false, false, false, false, false)
end Go.Dm
namespace Go.Proofs.YtefjdmjkofaajaaGreatDoor
open Go.RowKit Go.Dm Go.Maps

theorem kindKeyed : Keyed Tryz.prog 3 := int_keyed Tryz.underlying3
theorem fldZero (w : World) : (zeroValue 108).run Tryz.prog w = .ok (fldV noFld) w := by kernel_rfl
/-- A map that tells of each kind its fields. -/
def MapK (w : World) (B n : Nat) (g : Int → Option Fld) : Prop :=
 ∃ D : DataW Unit, w.ownsMap Tryz.prog 3 fldElem B n D ∧ IsMap D ∧ ∀ z, D.atKey (.int .i64 z) (fldD noFld) = fldD ((g z).getD noFld) ∧ Maps.has D (.int .i64 z) = (g z).isSome
theorem MapK.lt {w : World} {B n : Nat} {g} (h : MapK w B n g) : B < w.heap.size := by obtain ⟨D, h1, _⟩ := h; exact h1.lt
theorem MapK.ext {w w' : World} {B n : Nat} {g} (h : MapK w B n g) (hx : Ext w w') : MapK w' B n g := by
 obtain ⟨D, h1, h2, h3⟩ := h
 refine ⟨D, ?_, h2, h3⟩
 obtain ⟨es, clock, hb, r⟩ := h1
 exact ⟨es, clock, by rw [hx.block B (Array.getElem?_eq_some_iff.1 hb).1]; exact hb, r⟩
theorem MapK.made (w : World) : MapK (w.alloc (.map #[] 0)) w.heap.size 0 fun _ => none :=
 ⟨.map [], World.ownsMap_made w _ _ _, isMap_empty, fun _ => ⟨rfl, rfl⟩⟩
theorem wfk {z : Int} (h : -9223372036854775808 ≤ z ∧ z ≤ 9223372036854775807) : (Lit.int .i64 z).wf = true := by
 simp [Lit.wf, IntKind.min, IntKind.max, IntKind.signed, IntKind.bits]
 omega
theorem MapK.look {w : World} {B n : Nat} {g} (h : MapK w B n g) {z : Int} (hz : -9223372036854775808 ≤ z ∧ z ≤ 9223372036854775807) : (Instr.lookup 110 (.map (some B)) (.int .i64 z) true).run Tryz.prog w = .ok (.tuple #[fldV ((g z).getD noFld), .bool (g z).isSome]) w := by
 obtain ⟨D, h1, _, h3⟩ := h
 obtain ⟨v, ps, hrun, hv⟩ := h1.look_ok kindKeyed Tryz.underlying110 (fldZero w) (fldElem_mk _) (keyOf_int_mk (P := Tryz.prog) Tryz.underlying3 (wfk hz))
 rw [(h3 z).1] at hv
 rw [hrun, fldElem_inv hv, (h3 z).2]
theorem MapK.look1 {w : World} {B n : Nat} {g} (h : MapK w B n g) {z : Int} (hz : -9223372036854775808 ≤ z ∧ z ≤ 9223372036854775807) : (Instr.lookup 110 (.map (some B)) (.int .i64 z) false).run Tryz.prog w = .ok (fldV ((g z).getD noFld)) w := by
 obtain ⟨D, h1, _, h3⟩ := h
 obtain ⟨v, ps, hrun, hv⟩ := h1.lookup kindKeyed Tryz.underlying110 (fldZero w) (fldElem_mk _) (keyOf_int_mk (P := Tryz.prog) Tryz.underlying3 (wfk hz))
 rw [(h3 z).1] at hv
 rw [hrun, fldElem_inv hv]
theorem wpList_putKF {w : World} {ops : Array Oper} {rest : List Oper} {o : Oper} {a : Act} {Q : Exit → Act → World → Prop} (hg : o.guard = none) (m x v : Operand) (hop : o.op = Op.insert 110 m x v)
  {B n : Nat} {g : Int → Option Fld} (hm : a.eval m = .map (some B)) (hown : MapK w B n g) (hn : n < maxLen) {z : Int} {f : Fld} (hz : -9223372036854775808 ≤ z ∧ z ≤ 9223372036854775807) (hx : a.eval x = .int .i64 z) (hv : a.eval v = fldV f)
  (hK : ∀ w', MapK w' B (n + 1) (putKF g z f) → w.grownBy w' (some B) → wpList Tryz.prog ops Q rest (a.put o.dst undef) w') : wpList Tryz.prog ops Q (o :: rest) a w := by
 obtain ⟨D, h1, h2, h3⟩ := hown
 refine wpList_plain hg fun K' hK' => ?_
 obtain ⟨w', hrun, r1, r2⟩ := h1.update kindKeyed Tryz.underlying110 hn (keyOf_int_mk (P := Tryz.prog) Tryz.underlying3 (wfk hz)) (fldElem_mk f)
 unfold Oper.wp
 simp [execOp, hop, hm, hx, hv, hrun, Result.andThen]
 refine hK' _ _ (hK w' ⟨_, r1, h2.put _ _, fun t => ?_⟩ r2)
 unfold putKF
 by_cases e : t = z
 ·subst e
  rw [if_pos rfl]
  exact ⟨atKey_put_same h2 (by first | exact trivial | rfl | simp [WideAt.IsKeyLit]) _ _, has_put_same h2 (by first | exact trivial | rfl | simp [WideAt.IsKeyLit]) _⟩
 ·have hne : Lit.int .i64 t ≠ Lit.int .i64 z := fun h => e (by injection h)
  rw [if_neg e, atKey_put_other hne, has_put_other hne]
  exact h3 t

set_option maxHeartbeats 2000000 in
set_option maxRecDepth 100000 in
theorem aknown_w (w : World) :
  Calls Tryz.prog 55 #[] w fun e w' => ∃ B, e = .returned (.map (some B)) ∧ MapK w' B 13 knownF ∧ Ext w w' := by
 go_enter Tryz.func55, Tryz.ntmps55
 go_upto_region 2 with fail
 have hA : CB w.heap.size [.bool true, .bool false, .bool false, .bool false, .bool false, .bool false] (w.alloc (.cells #[.bool true, .bool false, .bool false, .bool false, .bool false, .bool false] 108)) := CB.new w #[.bool true, .bool false, .bool false, .bool false, .bool false, .bool false] 108
 have hE : Ext w (w.alloc (.cells #[.bool true, .bool false, .bool false, .bool false, .bool false, .bool false] 108)) := (Ext.refl _).alloc _
 generalize hW1 : w.alloc (.cells #[.bool true, .bool false, .bool false, .bool false, .bool false, .bool false] 108) = w1 at *
 have hs1 : w1.heap.size = w.heap.size + 1 := by rw [← hW1, World.size_alloc]
 have hB : CB w1.heap.size [.bool false, .bool true, .bool false, .bool false, .bool false, .bool false] (w1.alloc (.cells #[.bool false, .bool true, .bool false, .bool false, .bool false, .bool false] 108)) := CB.new w1 #[.bool false, .bool true, .bool false, .bool false, .bool false, .bool false] 108
 have e2 : Ext w1 (w1.alloc (.cells #[.bool false, .bool true, .bool false, .bool false, .bool false, .bool false] 108)) := (Ext.refl _).alloc _
 replace hE := hE.trans e2
 replace hA := hA.ext e2
 generalize hW2 : w1.alloc (.cells #[.bool false, .bool true, .bool false, .bool false, .bool false, .bool false] 108) = w2 at *
 have hs2 : w2.heap.size = w.heap.size + 1 + 1 := by rw [← hW2, World.size_alloc, hs1]
 have hC : CB w2.heap.size [.bool false, .bool false, .bool true, .bool false, .bool false, .bool false] (w2.alloc (.cells #[.bool false, .bool false, .bool true, .bool false, .bool false, .bool false] 108)) := CB.new w2 #[.bool false, .bool false, .bool true, .bool false, .bool false, .bool false] 108
 have e3 : Ext w2 (w2.alloc (.cells #[.bool false, .bool false, .bool true, .bool false, .bool false, .bool false] 108)) := (Ext.refl _).alloc _
 replace hE := hE.trans e3
 replace hA := hA.ext e3
 replace hB := hB.ext e3
 generalize hW3 : w2.alloc (.cells #[.bool false, .bool false, .bool true, .bool false, .bool false, .bool false] 108) = w3 at *
 have hM := MapK.made w3
 have e4 : Ext w3 (w3.alloc (.map #[] 0)) := (Ext.refl _).alloc _
 have hmm := run_makeMap (P := Tryz.prog) 110 w3
 have hlM : w.heap.size ≤ w3.heap.size := by have := hE.size; omega
 have nA : w3.heap.size ≠ w.heap.size := by have := hA.lt; omega
 have nB : w3.heap.size ≠ w1.heap.size := by have := hB.lt; omega
 have nC : w3.heap.size ≠ w2.heap.size := by have := hC.lt; omega
 rw [hs1] at hB nB
 rw [hs2] at hC nC
 generalize hW4 : w3.alloc (.map #[] 0) = w4 at *
 replace hE := hE.trans e4
 replace hA := hA.ext e4
 replace hB := hB.ext e4
 replace hC := hC.ext e4
 clear hW1 hW2 hW3 hs1 hs2 e2 e3 e4
 generalize w.heap.size + 1 + 1 = bC at *
 generalize w.heap.size + 1 = bB at *
 obtain ⟨bM, hbM⟩ : ∃ x, x = w3.heap.size := ⟨_, rfl⟩
 rw [← hbM] at hM hmm hlM nA nB nC
 clear hbM
 obtain ⟨bA, hbA⟩ : ∃ x, x = w.heap.size := ⟨_, rfl⟩
 rw [← hbA] at hA nA
 rw [← hbA]
 replace hbA := Lib.hid hbA
 obtain ⟨al, a0, a1, a2, a3, a4, a5⟩ := hA.cells6
 obtain ⟨bl, b0, b1, b2, b3, b4, b5⟩ := hB.cells6
 obtain ⟨cl, c0, c1, c2, c3, c4, c5⟩ := hC.cells6
 go_wp2_with (first | (refine wpList_putKF (z := 1) (f := (false, false, false, false, true, false)) rfl _ _ _ rfl rfl hM (by simp [maxLen]) (by omega) rfl rfl ?_; intro wn hMn hgn; clear al a0 a1 a2 a3 a4 a5 bl b0 b1 b2 b3 b4 b5 cl c0 c1 c2 c3 c4 c5; replace hA := hA.grown hgn (fun e => nA (by injection e with e; exact e.symm)); replace hB := hB.grown hgn (fun e => nB (by injection e with e; exact e.symm)); replace hC := hC.grown hgn (fun e => nC (by injection e with e; exact e.symm)); replace hE := hE.put_ hgn hlM; replace hM := hMn; clear hMn hgn; obtain ⟨al, a0, a1, a2, a3, a4, a5⟩ := hA.cells6; obtain ⟨bl, b0, b1, b2, b3, b4, b5⟩ := hB.cells6; obtain ⟨cl, c0, c1, c2, c3, c4, c5⟩ := hC.cells6) | (refine wpList_putKF (z := 2) (f := (true, false, false, false, false, false)) rfl _ _ _ rfl rfl hM (by simp [maxLen]) (by omega) rfl rfl ?_; intro wn hMn hgn; clear al a0 a1 a2 a3 a4 a5 bl b0 b1 b2 b3 b4 b5 cl c0 c1 c2 c3 c4 c5; replace hA := hA.grown hgn (fun e => nA (by injection e with e; exact e.symm)); replace hB := hB.grown hgn (fun e => nB (by injection e with e; exact e.symm)); replace hC := hC.grown hgn (fun e => nC (by injection e with e; exact e.symm)); replace hE := hE.put_ hgn hlM; replace hM := hMn; clear hMn hgn; obtain ⟨al, a0, a1, a2, a3, a4, a5⟩ := hA.cells6; obtain ⟨bl, b0, b1, b2, b3, b4, b5⟩ := hB.cells6; obtain ⟨cl, c0, c1, c2, c3, c4, c5⟩ := hC.cells6) | (refine wpList_putKF (z := 3) (f := (false, false, true, true, false, false)) rfl _ _ _ rfl rfl hM (by simp [maxLen]) (by omega) rfl rfl ?_; intro wn hMn hgn; clear al a0 a1 a2 a3 a4 a5 bl b0 b1 b2 b3 b4 b5 cl c0 c1 c2 c3 c4 c5; replace hA := hA.grown hgn (fun e => nA (by injection e with e; exact e.symm)); replace hB := hB.grown hgn (fun e => nB (by injection e with e; exact e.symm)); replace hC := hC.grown hgn (fun e => nC (by injection e with e; exact e.symm)); replace hE := hE.put_ hgn hlM; replace hM := hMn; clear hMn hgn; obtain ⟨al, a0, a1, a2, a3, a4, a5⟩ := hA.cells6; obtain ⟨bl, b0, b1, b2, b3, b4, b5⟩ := hB.cells6; obtain ⟨cl, c0, c1, c2, c3, c4, c5⟩ := hC.cells6) | (refine wpList_putKF (z := 4) (f := (true, false, false, false, false, false)) rfl _ _ _ rfl rfl hM (by simp [maxLen]) (by omega) rfl rfl ?_; intro wn hMn hgn; clear al a0 a1 a2 a3 a4 a5 bl b0 b1 b2 b3 b4 b5 cl c0 c1 c2 c3 c4 c5; replace hA := hA.grown hgn (fun e => nA (by injection e with e; exact e.symm)); replace hB := hB.grown hgn (fun e => nB (by injection e with e; exact e.symm)); replace hC := hC.grown hgn (fun e => nC (by injection e with e; exact e.symm)); replace hE := hE.put_ hgn hlM; replace hM := hMn; clear hMn hgn; obtain ⟨al, a0, a1, a2, a3, a4, a5⟩ := hA.cells6; obtain ⟨bl, b0, b1, b2, b3, b4, b5⟩ := hB.cells6; obtain ⟨cl, c0, c1, c2, c3, c4, c5⟩ := hC.cells6) | (refine wpList_putKF (z := 5) (f := (false, true, false, false, false, false)) rfl _ _ _ rfl rfl hM (by simp [maxLen]) (by omega) rfl rfl ?_; intro wn hMn hgn; clear al a0 a1 a2 a3 a4 a5 bl b0 b1 b2 b3 b4 b5 cl c0 c1 c2 c3 c4 c5; replace hA := hA.grown hgn (fun e => nA (by injection e with e; exact e.symm)); replace hB := hB.grown hgn (fun e => nB (by injection e with e; exact e.symm)); replace hC := hC.grown hgn (fun e => nC (by injection e with e; exact e.symm)); replace hE := hE.put_ hgn hlM; replace hM := hMn; clear hMn hgn; obtain ⟨al, a0, a1, a2, a3, a4, a5⟩ := hA.cells6; obtain ⟨bl, b0, b1, b2, b3, b4, b5⟩ := hB.cells6; obtain ⟨cl, c0, c1, c2, c3, c4, c5⟩ := hC.cells6) | (refine wpList_putKF (z := 6) (f := (false, true, false, false, false, false)) rfl _ _ _ rfl rfl hM (by simp [maxLen]) (by omega) rfl rfl ?_; intro wn hMn hgn; clear al a0 a1 a2 a3 a4 a5 bl b0 b1 b2 b3 b4 b5 cl c0 c1 c2 c3 c4 c5; replace hA := hA.grown hgn (fun e => nA (by injection e with e; exact e.symm)); replace hB := hB.grown hgn (fun e => nB (by injection e with e; exact e.symm)); replace hC := hC.grown hgn (fun e => nC (by injection e with e; exact e.symm)); replace hE := hE.put_ hgn hlM; replace hM := hMn; clear hMn hgn; obtain ⟨al, a0, a1, a2, a3, a4, a5⟩ := hA.cells6; obtain ⟨bl, b0, b1, b2, b3, b4, b5⟩ := hB.cells6; obtain ⟨cl, c0, c1, c2, c3, c4, c5⟩ := hC.cells6) | (refine wpList_putKF (z := 7) (f := (false, false, true, false, false, false)) rfl _ _ _ rfl rfl hM (by simp [maxLen]) (by omega) rfl rfl ?_; intro wn hMn hgn; clear al a0 a1 a2 a3 a4 a5 bl b0 b1 b2 b3 b4 b5 cl c0 c1 c2 c3 c4 c5; replace hA := hA.grown hgn (fun e => nA (by injection e with e; exact e.symm)); replace hB := hB.grown hgn (fun e => nB (by injection e with e; exact e.symm)); replace hC := hC.grown hgn (fun e => nC (by injection e with e; exact e.symm)); replace hE := hE.put_ hgn hlM; replace hM := hMn; clear hMn hgn; obtain ⟨al, a0, a1, a2, a3, a4, a5⟩ := hA.cells6; obtain ⟨bl, b0, b1, b2, b3, b4, b5⟩ := hB.cells6; obtain ⟨cl, c0, c1, c2, c3, c4, c5⟩ := hC.cells6) | (refine wpList_putKF (z := 8) (f := (false, false, true, false, false, false)) rfl _ _ _ rfl rfl hM (by simp [maxLen]) (by omega) rfl rfl ?_; intro wn hMn hgn; clear al a0 a1 a2 a3 a4 a5 bl b0 b1 b2 b3 b4 b5 cl c0 c1 c2 c3 c4 c5; replace hA := hA.grown hgn (fun e => nA (by injection e with e; exact e.symm)); replace hB := hB.grown hgn (fun e => nB (by injection e with e; exact e.symm)); replace hC := hC.grown hgn (fun e => nC (by injection e with e; exact e.symm)); replace hE := hE.put_ hgn hlM; replace hM := hMn; clear hMn hgn; obtain ⟨al, a0, a1, a2, a3, a4, a5⟩ := hA.cells6; obtain ⟨bl, b0, b1, b2, b3, b4, b5⟩ := hB.cells6; obtain ⟨cl, c0, c1, c2, c3, c4, c5⟩ := hC.cells6) | (refine wpList_putKF (z := 9) (f := (false, false, false, true, false, false)) rfl _ _ _ rfl rfl hM (by simp [maxLen]) (by omega) rfl rfl ?_; intro wn hMn hgn; clear al a0 a1 a2 a3 a4 a5 bl b0 b1 b2 b3 b4 b5 cl c0 c1 c2 c3 c4 c5; replace hA := hA.grown hgn (fun e => nA (by injection e with e; exact e.symm)); replace hB := hB.grown hgn (fun e => nB (by injection e with e; exact e.symm)); replace hC := hC.grown hgn (fun e => nC (by injection e with e; exact e.symm)); replace hE := hE.put_ hgn hlM; replace hM := hMn; clear hMn hgn; obtain ⟨al, a0, a1, a2, a3, a4, a5⟩ := hA.cells6; obtain ⟨bl, b0, b1, b2, b3, b4, b5⟩ := hB.cells6; obtain ⟨cl, c0, c1, c2, c3, c4, c5⟩ := hC.cells6) | (refine wpList_putKF (z := 10) (f := (false, false, true, true, false, true)) rfl _ _ _ rfl rfl hM (by simp [maxLen]) (by omega) rfl rfl ?_; intro wn hMn hgn; clear al a0 a1 a2 a3 a4 a5 bl b0 b1 b2 b3 b4 b5 cl c0 c1 c2 c3 c4 c5; replace hA := hA.grown hgn (fun e => nA (by injection e with e; exact e.symm)); replace hB := hB.grown hgn (fun e => nB (by injection e with e; exact e.symm)); replace hC := hC.grown hgn (fun e => nC (by injection e with e; exact e.symm)); replace hE := hE.put_ hgn hlM; replace hM := hMn; clear hMn hgn; obtain ⟨al, a0, a1, a2, a3, a4, a5⟩ := hA.cells6; obtain ⟨bl, b0, b1, b2, b3, b4, b5⟩ := hB.cells6; obtain ⟨cl, c0, c1, c2, c3, c4, c5⟩ := hC.cells6) | (refine wpList_putKF (z := 11) (f := (false, false, true, false, false, false)) rfl _ _ _ rfl rfl hM (by simp [maxLen]) (by omega) rfl rfl ?_; intro wn hMn hgn; clear al a0 a1 a2 a3 a4 a5 bl b0 b1 b2 b3 b4 b5 cl c0 c1 c2 c3 c4 c5; replace hA := hA.grown hgn (fun e => nA (by injection e with e; exact e.symm)); replace hB := hB.grown hgn (fun e => nB (by injection e with e; exact e.symm)); replace hC := hC.grown hgn (fun e => nC (by injection e with e; exact e.symm)); replace hE := hE.put_ hgn hlM; replace hM := hMn; clear hMn hgn; obtain ⟨al, a0, a1, a2, a3, a4, a5⟩ := hA.cells6; obtain ⟨bl, b0, b1, b2, b3, b4, b5⟩ := hB.cells6; obtain ⟨cl, c0, c1, c2, c3, c4, c5⟩ := hC.cells6) | (refine wpList_putKF (z := 12) (f := (false, false, true, false, false, false)) rfl _ _ _ rfl rfl hM (by simp [maxLen]) (by omega) rfl rfl ?_; intro wn hMn hgn; clear al a0 a1 a2 a3 a4 a5 bl b0 b1 b2 b3 b4 b5 cl c0 c1 c2 c3 c4 c5; replace hA := hA.grown hgn (fun e => nA (by injection e with e; exact e.symm)); replace hB := hB.grown hgn (fun e => nB (by injection e with e; exact e.symm)); replace hC := hC.grown hgn (fun e => nC (by injection e with e; exact e.symm)); replace hE := hE.put_ hgn hlM; replace hM := hMn; clear hMn hgn; obtain ⟨al, a0, a1, a2, a3, a4, a5⟩ := hA.cells6; obtain ⟨bl, b0, b1, b2, b3, b4, b5⟩ := hB.cells6; obtain ⟨cl, c0, c1, c2, c3, c4, c5⟩ := hC.cells6) | (refine wpList_putKF (z := 13) (f := (false, false, false, false, false, false)) rfl _ _ _ rfl rfl hM (by simp [maxLen]) (by omega) rfl rfl ?_; intro wn hMn hgn; clear al a0 a1 a2 a3 a4 a5 bl b0 b1 b2 b3 b4 b5 cl c0 c1 c2 c3 c4 c5; replace hA := hA.grown hgn (fun e => nA (by injection e with e; exact e.symm)); replace hB := hB.grown hgn (fun e => nB (by injection e with e; exact e.symm)); replace hC := hC.grown hgn (fun e => nC (by injection e with e; exact e.symm)); replace hE := hE.put_ hgn hlM; replace hM := hMn; clear hMn hgn; obtain ⟨al, a0, a1, a2, a3, a4, a5⟩ := hA.cells6; obtain ⟨bl, b0, b1, b2, b3, b4, b5⟩ := hB.cells6; obtain ⟨cl, c0, c1, c2, c3, c4, c5⟩ := hC.cells6))
 go_ret
 exact ⟨bM, rfl, hM, hE⟩
end Go.Proofs.YtefjdmjkofaajaaGreatDoor

namespace Go.Dm
open Go Go.RowKit
/-- What is known of a token, besides. -/
structure OkT (t : TokQ) : Prop where
 tn : t.1.size ≤ 140737488351232
 sg : t.2.2.size ≤ 140737488351232
 len : t.2.1.length ≤ 4398046511103
 n : ∀ c ∈ t.2.1, U64 c.2
theorem OkT.zero : OkT noTok.1 := ⟨by show (0 : Nat) ≤ _; omega, by show (0 : Nat) ≤ _; omega, by show (0 : Nat) ≤ _; omega, fun c hc => by cases hc⟩
/-- How a token that was got reads. -/
def GotKO (B : Nat) (w : World) (G : TokQ × Int × Bool) (e : Ending) : Prop :=
 ∃ v, e = .returned (.tuple #[.agg #[.string G.1.1, v, .string G.1.2.2], .int .i64 G.2.1, .bool G.2.2]) ∧ Cavs w v G.1.2.1 ∧ (∀ c, v.ownBlock = some c → B ≤ c) ∧ OkT G.1
end Go.Dm
namespace Go.Proofs.YtefjdmjkofaajaaGreatDoor
open Go.RowKit Go.Dm

set_option maxHeartbeats 2000000 in
set_option maxRecDepth 100000 in
theorem mgetO_w (s : ByteArray) (p : Int) (w : World) (hs : s.size ≤ 281474976710656) (hv : Vars w) :
  Calls Tryz.prog 39 #[.string s, .int .i64 p] w fun e w' => GotKO w.heap.size w' (getTok s.data.toList p) e ∧ Ext w w' := by
 have hln : s.data.toList.length = s.size := rfl
 have hB : CB w.heap.size [.string ⟨#[]⟩, .slice none 0 0, .string ⟨#[]⟩] (w.alloc (.cells #[.string ⟨#[]⟩, .slice none 0 0, .string ⟨#[]⟩] 24)) := CB.new w #[.string ⟨#[]⟩, .slice none 0 0, .string ⟨#[]⟩] 24
 have hE : Ext w (w.alloc (.cells #[.string ⟨#[]⟩, .slice none 0 0, .string ⟨#[]⟩] 24)) := (Ext.refl _).alloc _
 have C1 := fun U => wgettext_w s p 32 U hs (by omega)
 have C2 := fun q U => wget_w s q U hs
 have C3 := fun q U => caveat_w s q U hs
 have C4 := fun (tn sg : ByteArray) v L U (h1 : tn.size ≤ 140737488351232) (h2 : sg.size ≤ 140737488351232) (h3 : L.length ≤ 4398046511103) (h4 : ∀ c ∈ L, U64 c.2) (h5 : Cavs U v L) (h : Ext w U) => mput_w tn sg v L U h1 h2 h3 h4 h5 (hv.ext h)
 obtain ⟨G, hG⟩ : ∃ G, G = getTok s.data.toList p := ⟨_, rfl⟩
 have hGd := hG
 unfold getTok at hGd
 have ht32 := fun h => text32 (l := s.data.toList) (p := p) (hln ▸ hs) h
 rw [← hG]
 clear hG
 generalize atI (getTextL 32) [] s.data.toList p = T at *
 obtain ⟨tb, q1, b1⟩ := T
 simp only at hGd C1 ht32
 have C2 := C2 q1
 have hnb := fun h => getI_range (l := s.data.toList) (p := q1) (hln ▸ hs) h
 generalize getI s.data.toList q1 = N at *
 obtain ⟨n, q2, b2⟩ := N
 simp only at hGd C2 hnb
 obtain ⟨tn, htn⟩ : ∃ tn : ByteArray, tn = ⟨tb.toArray⟩ := ⟨_, rfl⟩
 rw [← htn] at C1 hGd
 have htl : b1 = true → tn.size ≤ 32 := fun h => by rw [htn, size_len]; exact ht32 h
 clear ht32 htn
 replace C1 := Lib.hid C1
 replace C2 := Lib.hid C2
 replace C3 := Lib.hid C3
 replace C4 := Lib.hid C4
 replace hGd := Lib.hid hGd
 have hwB : w.heap.size ≤ w.heap.size := Nat.le_refl _
 go_enter Tryz.func39, Tryz.ntmps39
 go_wp2_with fail
 have hbl : w.heap.size + 1 ≤ (w.alloc (.cells #[.string ⟨#[]⟩, .slice none 0 0, .string ⟨#[]⟩] 24)).heap.size := by simp
 generalize w.alloc (.cells #[.string ⟨#[]⟩, .slice none 0 0, .string ⟨#[]⟩] 24) = w1 at *
 obtain ⟨bB, hbB⟩ : ∃ x, x = w.heap.size := ⟨_, rfl⟩
 rw [← hbB] at hB hbl
 rw [← hbB]
 replace hwB : w.heap.size ≤ bB := by omega
 clear hbB
 refine (C1.out _).mono ?_; rintro e w2 ⟨rfl, h2⟩
 replace hB := hB.ext h2
 replace hE := hE.trans h2
 have hbl2 := Nat.le_trans hbl h2.size
 clear h2
 have hB2 : CB bB [.string tn, .slice none 0 0, .string ⟨#[]⟩] (w2.setCell ⟨bB, 0, none⟩ (.string tn)) := hB.set 0 (.string tn) (by simp)
 have hE2 : Ext w (w2.setCell ⟨bB, 0, none⟩ (.string tn)) := Below.setCell hE hwB _
 have hbl3 : bB + 1 ≤ (w2.setCell ⟨bB, 0, none⟩ (.string tn)).heap.size := by rw [World.size_setCell]; exact hbl2
 obtain ⟨xl, x0, x1, x2, xf0, xf1, xf2⟩ := hB.cells3
 go_wp2_with fail
 clear xl x0 x1 x2 xf0 xf1 xf2
 clear hB hE hbl hbl2
 generalize w2.setCell ⟨bB, 0, none⟩ (.string tn) = w3 at *
 refine (C2.out _).mono ?_; rintro e w4 ⟨rfl, h4⟩
 have hB := hB2.ext h4
 have hE := hE2.trans h4
 have hbl := Nat.le_trans hbl3 h4.size
 clear h4 hB2 hE2 hbl3 C1 C2
 by_cases hbad : b1 = false ∨ b2 = false ∨ 8 < n
 ·have HG : G = noTok := by rw [hGd.out, if_pos hbad]
  clear hGd
  cases b1 with
  | false =>
   obtain ⟨xl, x0, x1, x2, xf0, xf1, xf2⟩ := hB.cells3
   go_wp2
   clear xl x0 x1 x2 xf0 xf1 xf2
   have hz := hB.put3 (.string ⟨#[]⟩) (.slice none 0 0) (.string ⟨#[]⟩)
   obtain ⟨_, k0, k1, k2, _, _, _⟩ := hz.cells3
   refine bodyPost_ret (v := .tuple #[.agg #[.string ⟨#[]⟩, .slice none 0 0, .string ⟨#[]⟩], .int .i64 0, .bool false]) (by simp [results, Tryz.results39, go_sem, k0, k1, k2]) rfl ?_
   exact ⟨⟨.slice none 0 0, by rw [HG]; rfl, by rw [HG]; exact Sl.nil _ _, (fun c h => by cases h), by rw [HG]; exact OkT.zero⟩, Ext.cput3 hE hwB _ _ _⟩
  | true =>
   cases b2 with
   | false =>
    obtain ⟨xl, x0, x1, x2, xf0, xf1, xf2⟩ := hB.cells3
    go_wp2
    clear xl x0 x1 x2 xf0 xf1 xf2
    have hz := hB.put3 (.string ⟨#[]⟩) (.slice none 0 0) (.string ⟨#[]⟩)
    obtain ⟨_, k0, k1, k2, _, _, _⟩ := hz.cells3
    refine bodyPost_ret (v := .tuple #[.agg #[.string ⟨#[]⟩, .slice none 0 0, .string ⟨#[]⟩], .int .i64 0, .bool false]) (by simp [results, Tryz.results39, go_sem, k0, k1, k2]) rfl ?_
    exact ⟨⟨.slice none 0 0, by rw [HG]; rfl, by rw [HG]; exact Sl.nil _ _, (fun c h => by cases h), by rw [HG]; exact OkT.zero⟩, Ext.cput3 hE hwB _ _ _⟩
   | true =>
    have h8 : (8 : Int) < (n : Int) := by simp at hbad; omega
    obtain ⟨xl, x0, x1, x2, xf0, xf1, xf2⟩ := hB.cells3
    go_wp2
    clear xl x0 x1 x2 xf0 xf1 xf2
    have hz := hB.put3 (.string ⟨#[]⟩) (.slice none 0 0) (.string ⟨#[]⟩)
    obtain ⟨_, k0, k1, k2, _, _, _⟩ := hz.cells3
    refine bodyPost_ret (v := .tuple #[.agg #[.string ⟨#[]⟩, .slice none 0 0, .string ⟨#[]⟩], .int .i64 0, .bool false]) (by simp [results, Tryz.results39, go_sem, k0, k1, k2]) rfl ?_
    exact ⟨⟨.slice none 0 0, by rw [HG]; rfl, by rw [HG]; exact Sl.nil _ _, (fun c h => by cases h), by rw [HG]; exact OkT.zero⟩, Ext.cput3 hE hwB _ _ _⟩
 ·have hGe := hGd.out
  rw [if_neg hbad] at hGe
  simp only [not_or, Bool.not_eq_false] at hbad
  obtain ⟨rfl, rfl, h8⟩ := hbad
  clear hGd
  have htl := htl (by trivial)
  have hnb2 := hnb (by trivial)
  have h8i : ¬ (8 : Int) < (n : Int) := by omega
  replace hGe := Lib.hid hGe
  obtain ⟨xl, x0, x1, x2, xf0, xf1, xf2⟩ := hB.cells3
  go_wp2
  clear xl x0 x1 x2 xf0 xf1 xf2
  go_loopw [1, 39] (fun at_ i wr => ∃ (k : Nat) (cs : List Cav) (z : Int) (v : Value), k ≤ n ∧ i = .int .u64 (k : Nat) ∧ at_ = .int .i64 z ∧ cs.length = k ∧ Hid (cavsAt s.data.toList q2 k = some (cs, z)) ∧ 0 ≤ z ∧ z ≤ s.size ∧ (∀ c ∈ cs, U64 c.2) ∧ Ext w wr ∧ bB + 1 ≤ wr.heap.size ∧ wr.ownsRow (bB + 1) 38 2 v k (cavC cs) ∧ CB bB [.string tn, v, .string ⟨#[]⟩] wr) (fun _ i _ => n - (intOf i).toNat)
  case atStart => exact ⟨0, [], q2, .slice none 0 0, by omega, rfl, rfl, rfl, by first | rfl | exact rfl, hnb2.1, hnb2.2, (fun c hc => by cases hc), hE, hbl, World.ownsRow_nil _ _ _ _, hB⟩
  case round =>
   obtain ⟨k, cs, z, v, hk, rfl, rfl, hcl, hcs, hz0, hz1, hcu, g1, g2, g3, g4⟩ := hrel
   by_cases hlt : k < n
   ·have hlti : (k : Int) < (n : Int) := by omega
    have hst := cavsAt_succ hcs.out
    have C3 := C3.out z
    have hrg := getCav_range (l := s.data.toList) (p := z) (hln ▸ hs)
    generalize getCav s.data.toList z = K at *
    obtain ⟨⟨ck, cn⟩, z2, b3⟩ := K
    simp only at C3 hst hrg
    replace C3 := Lib.hid C3
    obtain ⟨q3, cp3, rfl, hq1, hq2, hq0⟩ := (Sl.of_owns g3).shape
    cases b3 with
    | false =>
     have HG : G = noTok := by
      rw [hGe.out, cavsAt_none (k := k + 1) (by rw [hst]; rfl) (by omega)]; rfl
     clear hst hcs
     go_wp2_with fail
     refine (C3.out _).mono ?_; rintro e w6 ⟨rfl, h6⟩
     replace g4 := g4.ext h6
     replace g1 := g1.trans h6
     have ee := (Ext.refl w6).alloc (.cells #[.int .i64 ck, .int .u64 (cn : Nat)] 38)
     go_upto_region 8 with fail
     replace g4 := g4.ext ee
     replace g1 := g1.trans ee
     generalize w6.alloc (.cells #[.int .i64 ck, .int .u64 (cn : Nat)] 38) = w7 at *
     obtain ⟨xl, x0, x1, x2, xf0, xf1, xf2⟩ := g4.cells3
     go_wp2
     clear xl x0 x1 x2 xf0 xf1 xf2
     have hz := g4.put3 (.string ⟨#[]⟩) (.slice none 0 0) (.string ⟨#[]⟩)
     obtain ⟨_, k0, k1, k2, _, _, _⟩ := hz.cells3
     refine bodyPost_ret (v := .tuple #[.agg #[.string ⟨#[]⟩, .slice none 0 0, .string ⟨#[]⟩], .int .i64 0, .bool false]) (by simp [results, Tryz.results39, go_sem, k0, k1, k2]) rfl ?_
     exact ⟨⟨.slice none 0 0, by rw [HG]; rfl, by rw [HG]; exact Sl.nil _ _, (fun c h => by cases h), by rw [HG]; exact OkT.zero⟩, Ext.cput3 g1 hwB _ _ _⟩
    | true =>
     obtain ⟨r1, r2, r3⟩ := hrg (by trivial)
     rw [if_pos rfl] at hst
     replace hst := Lib.hid hst
     go_wp2_with fail
     refine (C3.out _).mono ?_; rintro e w6 ⟨rfl, h6⟩
     replace g4 := g4.ext h6
     replace g1 := g1.trans h6
     replace g3 := Ext.row g3 h6
     replace g2 := Nat.le_trans g2 h6.size
     have hN : CB w6.heap.size [.int .i64 ck, .int .u64 (cn : Nat)] (w6.alloc (.cells #[.int .i64 ck, .int .u64 (cn : Nat)] 38)) := CB.new w6 #[.int .i64 ck, .int .u64 (cn : Nat)] 38
     have ee := (Ext.refl w6).alloc (.cells #[.int .i64 ck, .int .u64 (cn : Nat)] 38)
     go_upto_region 10 with fail
     replace g4 := g4.ext ee
     replace g1 := g1.trans ee
     replace g3 := Ext.row g3 ee
     replace g2 := Nat.le_trans g2 ee.size
     generalize w6.alloc (.cells #[.int .i64 ck, .int .u64 (cn : Nat)] 38) = w7 at *
     generalize w6.heap.size = bn at *
     have yl := hN.lt
     have y0 := hN.cell 0 (by simp)
     have y1 := hN.cell 1 (by simp)
     obtain ⟨xl, x0, x1, x2, xf0, xf1, xf2⟩ := g4.cells3
     have e8 := (Ext.refl w7).alloc (.cells #[.int .i64 ck, .int .u64 (cn : Nat)] 38)
     have ho8 := Ext.row g3 e8
     have hl8 : Sl (w7.alloc (.cells #[.int .i64 ck, .int .u64 (cn : Nat)] 38)) 2 (.slice (some ⟨w7.heap.size, 0, none⟩) 1 1) 1 (cavC [(ck, cn)]) := Sl.lit w7 38 2 1 #[.int .i64 ck, .int .u64 (cn : Nat)] rfl (by simp [maxLen])
     have g48 := g4.ext e8
     have g18 := g1.trans e8
     have g28 := Nat.le_trans g2 e8.size
     have hne : ∀ c, (Value.slice q3 k cp3).ownBlock = some c → c ≠ bB := fun c hc => by have := (ho8.lt c hc).1; omega
     clear e8 g4 g1 g3 hN
     go_wp2_with (at_builtin; refine wpList_app rfl _ _ Tryz.slCav rfl rfl ho8 rfl hl8 (cavC_one [(ck, cn)]) (by omega) g28 ?_; intro v9 w9 ho9 hg9; refine Hid.out ?_)
     clear yl y0 y1 xl x0 x1 x2 xf0 xf1 xf2
     have g49 := g48.grown hg9 (fun e => hne _ e.symm rfl)
     have g19 := Ext.app g18 ho8 hg9 (by omega)
     have g29 := Nat.le_trans g28 hg9.size
     obtain ⟨q9, cp9, rfl, _, _, _⟩ := (Sl.of_owns ho9).shape
     have hne9 : ∀ c, (Value.slice q9 (k + 1) cp9).ownBlock = some c → c ≠ bB := fun c hc => by have := (ho9.lt c hc).1; omega
     have k4 := g49.set 1 (.slice q9 (k + 1) cp9) (by simp)
     have k1 : Ext w (w9.setCell ⟨bB, 1, none⟩ (.slice q9 (k + 1) cp9)) := Below.setCell g19 hwB _
     have k3 := ho9.kept (grown_set w9 bB 1 (.slice q9 (k + 1) cp9)) (Or.inr fun e => hne9 _ e rfl)
     have k2 : bB + 1 ≤ (w9.setCell ⟨bB, 1, none⟩ (.slice q9 (k + 1) cp9)).heap.size := by rw [World.size_setCell]; exact g29
     obtain ⟨xl, x0, x1, x2, xf0, xf1, xf2⟩ := g49.cells3
     refine Lib.hid ?_
     clear ho8 hl8 g48 g18 g28
     go_wp2
     clear xl x0 x1 x2 xf0 xf1 xf2
     go_roundw
     case rel => exact ⟨k + 1, cs ++ [(ck, cn)], z2, .slice q9 (k + 1) cp9, by omega, by go_num, rfl, by simp [hcl], hst, r2, by have : s.data.toList.length = s.size := rfl; omega, (fun c hc => by
      rcases List.mem_append.1 hc with h | h
      ·exact hcu c h
      ·simp at h; subst h; exact r1), k1, k2, by rw [cavC_app]; exact k3, k4⟩
     case measure => simp [intOf]; omega
   ·obtain rfl : k = n := by omega
    have hge : ¬ ((k : Int) < (k : Int)) := by omega
    obtain ⟨zn, rfl⟩ : ∃ zn : Nat, z = zn := ⟨z.toNat, by omega⟩
    obtain ⟨nx, hnx⟩ : ∃ nx : Nat, nx = min (zn + 32) s.size := ⟨_, rfl⟩
    have hmn : min ((zn : Int) + 32) (s.size : Int) = (nx : Int) := by omega
    have hn1 : zn ≤ nx := by omega
    have hn2 : nx ≤ s.size := by omega
    have hn3 : nx - zn ≤ 32 := by omega
    obtain ⟨sg, hsg⟩ : ∃ sg, sg = s.extract zn nx := ⟨_, rfl⟩
    have hsgl : sg.size = nx - zn := by rw [hsg, ByteArray.size_extract]; omega
    have hsgd : sg.data.toList = (s.data.toList.drop zn).take 32 := by
     rw [hsg, Lib.extract_data]
     by_cases h : zn + 32 ≤ s.size
     ·rw [show nx - zn = 32 by omega]
     ·rw [List.take_of_length_le (by rw [List.length_drop]; omega), List.take_of_length_le (by rw [List.length_drop]; omega)]
    have hGt : G = if putTok (tn, cs, sg) = [] then noTok else ((tn, cs, sg), (zn : Int) + 32, true) := by
     rw [hGe.out, hcs.out]
     show (if putTok (tn, cs, ⟨((s.data.toList.drop (zn : Int).toNat).take 32).toArray⟩) = [] then noTok else ((tn, cs, ⟨((s.data.toList.drop (zn : Int).toNat).take 32).toArray⟩), (zn : Int) + 32, true)) = _
     have e : (⟨((s.data.toList.drop (zn : Int).toNat).take 32).toArray⟩ : ByteArray) = sg := by
      rw [Int.toNat_natCast, ← hsgd]
     rw [e]
    have h32 : putTok (tn, cs, sg) ≠ [] → nx = zn + 32 := fun h => by
     unfold putTok at h
     split at h
     ·rename_i h2
      have := h2.2.2
      simp only at this
      omega
     ·exact absurd rfl h
    obtain ⟨qv, cv, rfl, hqv, _, _⟩ := (Sl.of_owns g3).shape
    have hne : ∀ c, (Value.slice qv k cv).ownBlock = some c → c ≠ bB := fun c hc => by have := (g3.lt c hc).1; omega
    have hOkT : Hid (OkT (tn, cs, sg)) := ⟨by show tn.size ≤ _; omega, by show sg.size ≤ _; omega, by show cs.length ≤ _; omega, hcu⟩
    have C4 := fun U (h : Ext w U) (hc : Cavs U (.slice qv k cv) cs) => C4.out tn sg (.slice qv k cv) cs U (by omega) (by omega) (by omega) hcu hc h
    have m4 := g4.set 2 (.string sg) (by simp)
    have m1 : Ext w (wr.setCell ⟨bB, 2, none⟩ (.string sg)) := Below.setCell g1 hwB _
    have m3 := g3.kept (grown_set wr bB 2 (.string sg)) (Or.inr fun e => hne _ e rfl)
    have m5 : Cavs (wr.setCell ⟨bB, 2, none⟩ (.string sg)) (.slice qv k cv) cs := by
     have := Sl.of_owns m3
     rw [← hcl] at this ⊢
     exact this
    obtain ⟨PT, hPT⟩ : ∃ PT : ByteArray, PT = ⟨(putTok (tn, cs, sg)).toArray⟩ := ⟨_, rfl⟩
    rw [← hPT] at C4
    have hPE : PT.toList.isEmpty = decide (putTok (tn, cs, sg) = []) := by
     rw [hPT, ByteArray.toList_eq]
     cases putTok (tn, cs, sg) <;> simp
    replace C4 := Lib.hid C4
    replace hGt := Lib.hid hGt
    replace h32 := Lib.hid h32
    clear hPT hsgd hGe hcs hsgl hnx C3
    have hsl : s.extract zn nx = sg := hsg.symm
    clear hsg
    obtain ⟨xl, x0, x1, x2, xf0, xf1, xf2⟩ := g4.cells3
    go_upto_region 14 with fail
    clear xl x0 x1 x2 xf0 xf1 xf2 g1 g3 g4
    generalize wr.setCell ⟨bB, 2, none⟩ (.string sg) = w6 at *
    change CB bB [.string tn, .slice qv k cv, .string sg] w6 at m4
    obtain ⟨xl, x0, x1, x2, xf0, xf1, xf2⟩ := m4.cells3
    go_wp2_with fail
    refine (C4.out _ m1 m5).mono ?_; rintro e w7 ⟨rfl, h7⟩
    clear xl x0 x1 x2 xf0 xf1 xf2
    replace m4 := m4.ext h7
    replace m1 := m1.trans h7
    replace m5 := m5.ext h7
    replace m3 := Ext.row m3 h7
    by_cases hpe : putTok (tn, cs, sg) = []
    ·have HG : G = noTok := by rw [hGt.out, if_pos hpe]
     rw [decide_eq_true hpe] at hPE
     obtain ⟨xl, x0, x1, x2, xf0, xf1, xf2⟩ := m4.cells3
     go_wp2
     clear xl x0 x1 x2 xf0 xf1 xf2
     have hz := m4.put3 (.string ⟨#[]⟩) (.slice none 0 0) (.string ⟨#[]⟩)
     obtain ⟨_, k0, k1, k2, _, _, _⟩ := hz.cells3
     refine bodyPost_ret (v := .tuple #[.agg #[.string ⟨#[]⟩, .slice none 0 0, .string ⟨#[]⟩], .int .i64 0, .bool false]) (by simp [results, Tryz.results39, go_sem, k0, k1, k2]) rfl ?_
     exact ⟨⟨.slice none 0 0, by rw [HG]; rfl, by rw [HG]; exact Sl.nil _ _, (fun c h => by cases h), by rw [HG]; exact OkT.zero⟩, Ext.cput3 m1 hwB _ _ _⟩
    ·have HG := hGt.out.trans (if_neg hpe)
     have hz32 := Lib.hid (h32.out hpe)
     rw [decide_eq_false hpe] at hPE
     obtain ⟨xl, x0, x1, x2, xf0, xf1, xf2⟩ := m4.cells3
     go_wp2
     clear xl x0 x1 x2 xf0 xf1 xf2
     have hz := m4.put3 (.string tn) (.slice qv k cv) (.string sg)
     obtain ⟨_, k0, k1, k2, _, _, _⟩ := hz.cells3
     refine bodyPost_ret (v := .tuple #[.agg #[.string tn, .slice qv k cv, .string sg], .int .i64 nx, .bool true]) (by simp [results, Tryz.results39, go_sem, k0, k1, k2]) rfl ?_
     refine ⟨⟨.slice qv k cv, by rw [HG, hz32.out]; rfl, ?_, (fun c hc => by have := (m3.lt c hc).1; omega), by rw [HG]; exact hOkT.out⟩, Ext.cput3 m1 hwB _ _ _⟩
     rw [HG]
     exact sl_set (sl_set (sl_set m5 hne _) hne _) hne _
end Go.Proofs.YtefjdmjkofaajaaGreatDoor
