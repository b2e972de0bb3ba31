/- Texts of the base. -/

import Derived.Test.YtefjdmjkofaajaaGreatDoorT13
import Derived.Test.YtefjdmjkofaajaaGreatDoorProg
import Derived.IntWalk
import Derived.OwnWalk
import Derived.Test.YtefjdmjkofaajaaGreatDoorT14
import Derived.Defers
namespace Go.Proofs.YtefjdmjkofaajaaGreatDoor
open Go.RowKit Go.Dm
theorem Tryz.slByte : SlT Tryz.prog 70 5 1 1 := SlT.mk' Tryz.underlying70 (by kernel_rfl) (by decide) (by decide)
set_option maxHeartbeats 2000000 in
set_option maxRecDepth 100000 in
theorem put_w (u : Nat) (w : World) (hu : U64 u) :
  Calls Tryz.prog 63 #[.int .u64 u] w fun e w' => e = .returned (.string ⟨(putL u).toArray⟩) ∧ Ext w w' := by
 go_enter Tryz.func63, Tryz.ntmps63
 go_wp2
 go_loopw [0, 3] (fun u' v wr => ∃ (x : Nat) (l : Bs), U64 x ∧ l.length ≤ 10 ∧ u' = .int .u64 x ∧ Ext w wr ∧ wr.ownsRow w.heap.size 5 1 v l.length (bCells l) ∧ Hid (putL u = l ++ putL x)) (fun u' _ _ => (intOf u').toNat)
 case atStart => exact ⟨u, [], hu, by simp, rfl, Ext.refl _, World.ownsRow_nil _ _ _ _, rfl⟩
 case round =>
  obtain ⟨x, l, hx, hl, rfl, hb, ho, HP⟩ := hrel
  by_cases h : 128 ≤ x
  ·have hst := HP.out
   rw [putL_big h] at hst
   have hbits := or128' x
   generalize UInt8.ofNat (x % 128 + 128) = y at *
   replace hst := Lib.hid hst
   have hl9 : l.length ≤ 9 := by
    have h1 := congrArg List.length hst.out
    have h2 := putL_ten hu
    have h3 := putL_pos (x / 128)
    rw [h1, List.length_append, List.length_cons] at h2
    omega
   have ho4 := Ext.row ho ((Ext.refl wr).alloc (.cells #[.int .u8 (y.toNat : Int)] 5))
   have hb4 := hb.trans ((Ext.refl wr).alloc (.cells #[.int .u8 (y.toNat : Int)] 5))
   have hl4 := Sl.lit wr 5 1 1 #[.int .u8 (y.toNat : Int)] rfl (by simp [maxLen])
   clear ho
   go_wp2_with (at_builtin; refine wpList_appE rfl _ _ Tryz.slByte rfl hb4 rfl ho4 rfl hl4 (bCells_one [y]) (by omega) ?_; intro v5 w5 ho5 hb5 _)
   refine ⟨⟨x / 128, l ++ [y], hx.div _, by simp; omega, by simp, hb5, ?_, ?_⟩, ?_⟩
   ·rw [List.length_append, bCells_app]; exact ho5
   ·show _ = _
    rw [hst.out]; simp
   ·simp [intOf]; omega
  ·have hst := HP.out
   rw [putL_small (u := x) (by omega)] at hst
   obtain ⟨y, hyx, hy⟩ : ∃ y : UInt8, x = y.toNat ∧ UInt8.ofNat x = y := ⟨UInt8.ofNat x, (UInt8.toNat_ofNat_of_lt' (by show x < 256; omega)).symm, rfl⟩
   rw [hy] at hst
   subst hyx
   clear hy
   replace hst := Lib.hid hst
   have ho4 := Ext.row ho ((Ext.refl wr).alloc (.cells #[.int .u8 (y.toNat : Int)] 5))
   have hb4 := hb.trans ((Ext.refl wr).alloc (.cells #[.int .u8 (y.toNat : Int)] 5))
   have hl4 := Sl.lit wr 5 1 1 #[.int .u8 (y.toNat : Int)] rfl (by simp [maxLen])
   clear ho
   go_wp2_with (at_builtin; refine wpList_appE rfl _ _ Tryz.slByte rfl hb4 rfl ho4 rfl hl4 (bCells_one [y]) (by omega) ?_; intro v5 w5 ho5 hb5 _; have hcv := run_string_row (l := l ++ [y]) (dst := 9) Tryz.underlying70 Tryz.underlying5 Tryz.underlying9 (by rw [bCells_app]; exact ho5) (by simp) (by simp))
   go_ret
   exact ⟨by rw [hst.out]; rfl, hb5⟩
set_option maxRecDepth 100000 in
theorem puttext_w (t : ByteArray) (w : World) (ht : t.size ≤ 140737488355328) :
  Calls Tryz.prog 62 #[.string t] w fun e w' => e = .returned (.string ⟨(putT t.data.toList).toArray⟩) ∧ Ext w w' := by
 have h10 := putL_ten (u := t.size) (show t.size < _ by omega)
 have hU : U64 t.size := show t.size < _ by omega
 have hX : Hid ((⟨(putL t.size).toArray⟩ : ByteArray) ++ t = ⟨(putT t.data.toList).toArray⟩) := by
  show _ = _
  refine mk_bytes ?_
  rw [data_append, putT, ← size_len]
 have hp : (⟨(putL t.size).toArray⟩ : ByteArray).size ≤ 10 := by rw [size_len]; exact h10
 clear h10
 go_enter Tryz.func62, Tryz.ntmps62
 go_wp2_with fail
 refine (put_w t.size w hU).mono ?_; rintro e w1 ⟨rfl, h1⟩
 generalize (⟨(putL t.size).toArray⟩ : ByteArray) = p at *
 go_wp2
 go_ret
 exact ⟨by rw [← hX.out]; rfl, h1⟩
end Go.Proofs.YtefjdmjkofaajaaGreatDoor
namespace Go.Dm
open Go Go.RowKit
def Cell (b : Nat) (v : Value) (w : World) : Prop := b < w.heap.size ∧ w.cell? ⟨b, 0, none⟩ = some v ∧ w.frozen? ⟨b, 0, none⟩ = false
theorem Cell.ext {b : Nat} {v : Value} {w w' : World} (h : Cell b v w) (hx : Ext w w') : Cell b v w' :=
 ⟨Nat.lt_of_lt_of_le h.1 hx.size, by rw [hx.cell (by exact h.1)]; exact h.2.1, by rw [hx.frozen (by exact h.1)]; exact h.2.2⟩
theorem Cell.set {b : Nat} {v : Value} {w : World} (h : Cell b v w) (u : Value) : Cell b u (w.setCell ⟨b, 0, none⟩ u) :=
 ⟨by rw [World.size_setCell]; exact h.1, (by first | exact World.cell?_setCell_same _ _ _ h.2.1 | exact World.cell?_setCell_same _ _ h.2.1), by rw [World.frozen?_setCell]; exact h.2.2⟩
theorem Cell.other {b c : Nat} {v : Value} {w : World} (h : Cell b v w) (hbc : b ≠ c) (u : Value) : Cell b v (w.setCell ⟨c, 0, none⟩ u) :=
 ⟨by rw [World.size_setCell]; exact h.1, (by have hne : (⟨c, 0, none⟩ : Addr) ≠ ⟨b, 0, none⟩ := (by intro e; injection e with e; exact hbc e.symm); first | (rw [World.cell?_setCell_other _ _ _ hne]; exact h.2.1) | (rw [World.cell?_setCell_other _ _ _ _ hne]; exact h.2.1) | (rw [World.cell?_setCell_other (h := hne)]; exact h.2.1)), by rw [World.frozen?_setCell]; exact h.2.2⟩
def Leaves3 (B : Nat) (w : World) (bn bu bo : Nat) (n u : Int) (c : Bool) (w' : World) : Prop :=
 Below B w w' ∧ Cell bn (.int .i64 n) w' ∧ Cell bu (.int .u64 u) w' ∧ Cell bo (.bool c) w'
theorem below_of_ext {B : Nat} {w w' : World} (h : Ext w w') (hB : B ≤ w.heap.size) : Below B w w' := Below.mono h hB
theorem Leaves3.zero {B : Nat} {w wy : World} {bn bu bo : Nat} {vn vu : Value} (hB : B ≤ bn ∧ B ≤ bu ∧ B ≤ bo) (hb : Below B w wy) (cn : Cell bn vn wy) (cu : Cell bu vu wy) (co : Cell bo (.bool false) wy) (hnu : bn ≠ bu) (hno : bn ≠ bo) (huo : bu ≠ bo) :
  Leaves3 B w bn bu bo 0 0 false ((wy.setCell ⟨bu, 0, none⟩ (.int .u64 0)).setCell ⟨bn, 0, none⟩ (.int .i64 0)) :=
 ⟨(hb.setCell (p := ⟨bu, 0, none⟩) hB.2.1 _).setCell (p := ⟨bn, 0, none⟩) hB.1 _, (cn.other hnu _).set _, (cu.set _).other (Ne.symm hnu) _, (co.other (Ne.symm huo) _).other (Ne.symm hno) _⟩
end Go.Dm
namespace Go.Proofs.YtefjdmjkofaajaaGreatDoor
open Go.RowKit Go.Dm
set_option maxHeartbeats 2000000 in
set_option maxRecDepth 100000 in
theorem get1_no (B : Nat) (u : Int) (bn bu bs ba bo : Nat) (w : World) (hB : B ≤ bn ∧ B ≤ bu ∧ B ≤ bo) (hBw : B ≤ w.heap.size)
  (cn : Cell bn (.int .i64 0) w) (cu : Cell bu (.int .u64 u) w) (co : Cell bo (.bool false) w) (hnu : bn ≠ bu) (hno : bn ≠ bo) (huo : bu ≠ bo) :
  CallsD Tryz.prog 114 #[.pointer (some ⟨bn, 0, none⟩), .pointer (some ⟨bu, 0, none⟩), .pointer (some ⟨bs, 0, none⟩), .pointer (some ⟨ba, 0, none⟩), .pointer (some ⟨bo, 0, none⟩)] .returning w
   fun e u' w' => u' = .returning ∧ e = .returned (.tuple #[]) ∧ Leaves3 B w bn bu bo 0 0 false w' := by
 go_enter_d Tryz.func114, Tryz.ntmps114
 go_wp2_with fail
 refine sx_ ?_
 refine rf_ (Cell bn (.int .i64 0)) 11 12 ?_
 refine tfs (List.range' 0 11) 2047 1 (fun _ _ h hx => h.ext hx) cn ?_ (hq := by intro wq hwq; obtain ⟨hq1, hq2, _⟩ := hwq; (repeat go_big_quiet_step (fail)); exact wpQuiet_nil rfl)
 refine f1_ 11 4095 fun wz hxz => ?_
 obtain ⟨_, co2, fo2⟩ := co.ext hxz
 go_wp2_with fail
 first | refine ⟨fun h => absurd h (by decide), ?_⟩ | skip
 refine fd_ fun wy hxy => ?_
 have co3 := ((co.ext hxz).set (.bool false)).ext hxy
 have cn3 := ((cn.ext hxz).other hno (.bool false)).ext hxy
 have cu3 := ((cu.ext hxz).other huo (.bool false)).ext hxy
 have hb3 : Below B w wy := ((below_of_ext hxz hBw).setCell (p := ⟨bo, 0, none⟩) hB.2.2 (.bool false)).trans (below_of_ext hxy (by rw [World.size_setCell]; exact Nat.le_trans hBw hxz.size))
 have fin := Leaves3.zero hB hb3 cn3 cu3 co3 hnu hno huo
 obtain ⟨_, co4, _⟩ := co3
 obtain ⟨_, cn4, fn4⟩ := cn3
 obtain ⟨_, cu4, fu4⟩ := cu3
 clear co2 fo2 cn cu co
 go_wp2
 go_end0
 exact ⟨rfl, fin⟩
def Four (bn bu bs ba : Nat) (n u at' : Int) (s : ByteArray) (w : World) : Prop := Cell bn (.int .i64 n) w ∧ Cell bu (.int .u64 u) w ∧ Cell bs (.string s) w ∧ Cell ba (.int .i64 at') w
theorem Four.ext {bn bu bs ba : Nat} {n u at' : Int} {s : ByteArray} {w w' : World} (h : Four bn bu bs ba n u at' s w) (hx : Ext w w') : Four bn bu bs ba n u at' s w' :=
 ⟨h.1.ext hx, h.2.1.ext hx, h.2.2.1.ext hx, h.2.2.2.ext hx⟩
set_option maxHeartbeats 4000000 in
set_option maxRecDepth 100000 in
theorem get1_yes (B : Nat) (s : ByteArray) (at' n u : Nat) (c : Bool) (bn bu bs ba bo : Nat) (w : World) (hB : B ≤ bn ∧ B ≤ bu ∧ B ≤ bo) (hBw : B ≤ w.heap.size) (hu : U64 u) (hn : at' < n) (hns : n ≤ s.size)
  (hc : decide (putL u = (s.data.toList.drop at').take (n - at')) = c)
  (h4 : Four bn bu bs ba n u at' s w) (co : Cell bo (.bool false) w) (hnu : bn ≠ bu) (hno : bn ≠ bo) (huo : bu ≠ bo) :
  CallsD Tryz.prog 114 #[.pointer (some ⟨bn, 0, none⟩), .pointer (some ⟨bu, 0, none⟩), .pointer (some ⟨bs, 0, none⟩), .pointer (some ⟨ba, 0, none⟩), .pointer (some ⟨bo, 0, none⟩)] .returning w
   fun e u' w' => u' = .returning ∧ e = .returned (.tuple #[]) ∧ Leaves3 B w bn bu bo (if c then n else 0) (if c then u else 0) c w' := by
 have hq : ((⟨(putL u).toArray⟩ : ByteArray).toList == (s.extract at' n).toList) = c := by
  rw [← hc, Bool.eq_iff_iff, bytes_eq, decide_eq_true_eq]
  have he : (s.extract at' n).data.toList = (s.data.toList.drop at').take (n - at') := Lib.extract_data s at' n
  constructor
  ·intro h
   rw [← he, ← h]
  ·intro h
   rw [mk_bytes he, h]
 have hn0 : decide ((0 : Int) < (n : Int)) = true := by rw [decide_eq_true_eq]; omega
 have hnn : decide (0 < n) = true := by rw [decide_eq_true_eq]; omega
 have hnp : 0 < n := by omega
 have CP : Hid (∀ U, Calls Tryz.prog 63 #[.int .u64 u] U fun e w' => e = .returned (.string ⟨(putL u).toArray⟩) ∧ Ext U w') := fun U => put_w u U hu
 generalize (⟨(putL u).toArray⟩ : ByteArray) = P at *
 clear hc
 go_enter_d Tryz.func114, Tryz.ntmps114
 go_wp2_with fail
 refine sx_ ?_
 refine rf_ (Four bn bu bs ba n u at' s) 11 12 ?_
 refine tfs (List.range' 0 11) 2047 1 (fun _ _ h hx => h.ext hx) h4 ?_ (hq := by intro wq hwq; obtain ⟨⟨n1, n2, _⟩, ⟨u1, u2, _⟩, ⟨s1, s2, _⟩, ⟨a1, a2, _⟩⟩ := hwq; (repeat go_big_quiet_step (((go_at_call 63; exact Calls.quietE (CP.out _))))); exact wpQuiet_nil rfl)
 refine f1_ 11 4095 fun wz hxz => ?_
 obtain ⟨_, co2, fo2⟩ := co.ext hxz
 go_wp2_with fail
 first | refine ⟨fun h => absurd h (by decide), ?_⟩ | skip
 refine fd_ fun wy hxy => ?_
 have co3 := ((co.ext hxz).set (.bool c)).ext hxy
 have cn3 := ((h4.1.ext hxz).other hno (.bool c)).ext hxy
 have cu3 := ((h4.2.1.ext hxz).other huo (.bool c)).ext hxy
 have hb3 : Below B w wy := ((below_of_ext hxz hBw).setCell (p := ⟨bo, 0, none⟩) hB.2.2 (.bool c)).trans (below_of_ext hxy (by rw [World.size_setCell]; exact Nat.le_trans hBw hxz.size))
 cases c with
 | true =>
  have fin : Leaves3 B w bn bu bo n u true wy := ⟨hb3, cn3, cu3, co3⟩
  obtain ⟨_, co4, _⟩ := co3
  clear co2 fo2 co
  go_wp2
  go_end0
  exact ⟨rfl, fin⟩
 | false =>
  have fin := Leaves3.zero hB hb3 cn3 cu3 co3 hnu hno huo
  obtain ⟨_, co4, _⟩ := co3
  obtain ⟨_, cn4, fn4⟩ := cn3
  obtain ⟨_, cu4, fu4⟩ := cu3
  clear co2 fo2 co
  go_wp2
  go_end0
  exact ⟨rfl, fin⟩
end Go.Proofs.YtefjdmjkofaajaaGreatDoor
