/- Texts one behind the other: Chapter 10: the walk of the laws' helper grown. -/
import Derived.Test.YtopnllbfhhjobaaDoorT18
namespace Go.Dm
open Go Go.RowKit
def forty : Vc := [40, 40, 40, 40]
def amt4 (c : ChQ) : Vc := [vG (amtC c) 0 * 4, vG (amtC c) 1 * 4, vG (amtC c) 2 * 4, vG (amtC c) 3 * 4]
def S0 : StQ := fun k => if k = 0 then some (forty, noV) else none
def stepL (S : StQ) (c : ChQ) : StQ := (setQ S (c.1.1 % 8) (amt4 c)).1
def stepM (S : StQ) (c : ChQ) : StQ := if c.2 = true then (chargeQ S (rfdS (amtC c)) (c.1.1 % 8)).1 else (chargeQ S (chgS (amtC c)) (c.1.1 % 8)).1
/-- A cell that holds a value. -/
structure AtC (b o : Nat) (v : Value) (w : World) : Prop where
  lt : b < w.heap.size
  cell : w.cell? ⟨b, o, none⟩ = some v
theorem AtC.ext {b o : Nat} {v : Value} {w w' : World} (h : AtC b o v w) (hx : Ext w w') : AtC b o v w' :=
  ⟨Nat.lt_of_lt_of_le h.lt hx.size, by rw [hx.cell (by exact h.lt)]; exact h.cell⟩
/-- A tree by bytes. -/
def growS (l m : List ChQ) : StQ := (m.take 24).foldl stepM ((l.take 24).foldl stepL S0)
theorem amtC_lt (c : ChQ) : ∀ j, vG (amtC c) j < 8 := fun j => by
  match j with
  | 0 => exact Nat.mod_lt _ (by omega)
  | 1 => exact Nat.mod_lt _ (by omega)
  | 2 => exact Nat.mod_lt _ (by omega)
  | 3 => exact Nat.mod_lt _ (by omega)
  | j + 4 => show (0 : Nat) < 8; omega
theorem okV_small {a b c d : Nat} (h : a < 64 ∧ b < 64 ∧ c < 64 ∧ d < 64) : OkV [a, b, c, d] := okV_mk (by unfold U64; omega) (by unfold U64; omega) (by unfold U64; omega) (by unfold U64; omega)
theorem amtC_ok (c : ChQ) : OkV (amtC c) := okV_small ⟨by omega, by omega, by omega, by omega⟩
theorem amt4_ok (c : ChQ) : OkV (amt4 c) := okV_small (by have := amtC_lt c; exact ⟨by have := this 0; omega, by have := this 1; omega, by have := this 2; omega, by have := this 3; omega⟩)
theorem amt4_top (c : ChQ) : ∀ j, vG (amt4 c) j ≤ 40 := fun j => by
  have h := amtC_lt c
  match j with
  | 0 => show vG (amtC c) 0 * 4 ≤ 40; have := h 0; omega
  | 1 => show vG (amtC c) 1 * 4 ≤ 40; have := h 1; omega
  | 2 => show vG (amtC c) 2 * 4 ≤ 40; have := h 2; omega
  | 3 => show vG (amtC c) 3 * 4 ≤ 40; have := h 3; omega
  | j + 4 => show (0 : Nat) ≤ 40; omega
theorem okS0 : OkS S0 := by
  have h : ∀ k x, S0 k = some x → x = (forty, noV) := fun k x hx => by
    unfold S0 at hx
    split at hx
    · injection hx with hx; exact hx.symm
    · cases hx
  refine ⟨by simp [S0], fun k hk hs => ?_, fun k x hx => ?_, fun k x hx => ?_, fun k x hx => ?_, fun k x hx => ?_⟩
  · unfold S0 at hs
    split at hs
    · rename_i h0; subst h0; simp [parK, S0]
    · exact absurd rfl hs
  · rw [h k x hx]; exact okV_small ⟨by omega, by omega, by omega, by omega⟩
  · rw [h k x hx]; exact okV_no
  · rw [h k x hx]; intro j
    match j with
    | 0 => decide
    | 1 => decide
    | 2 => decide
    | 3 => decide
    | j + 4 => show (0 : Nat) ≤ 40; omega
  · rw [h k x hx]; exact vfits_no_le forty
theorem OkS.stepL {S : StQ} (h : OkS S) (c : ChQ) : OkS (stepL S c) := h.set (by omega) (amt4_ok c) (amt4_top c)
theorem OkS.stepM {S : StQ} (h : OkS S) (c : ChQ) : OkS (stepM S c) := by
  unfold Dm.stepM
  split
  · exact h.refund _ _
  · exact h.charge _ _
theorem ok_fold {f : StQ → ChQ → StQ} (hf : ∀ S c, OkS S → OkS (f S c)) : ∀ (l : List ChQ) (S : StQ), OkS S → OkS (l.foldl f S)
  | [], _, h => h
  | c :: l, S, h => ok_fold hf l _ (hf S c h)
theorem ok_foldL (l : List ChQ) : OkS (l.foldl stepL S0) := ok_fold (fun _ c h => h.stepL c) l S0 okS0
theorem growS_ok (l m : List ChQ) : OkS (growS l m) := ok_fold (fun _ c h => h.stepM c) _ _ (ok_foldL _)
end Go.Dm
namespace Go.Proofs.YtopnllbfhhjobaaDoor
open Go.RowKit Go.Dm
set_option maxHeartbeats 8000000 in
set_option maxRecDepth 100000 in
theorem qgrown_w (l m : List ChQ) (vl vm : Value) (w : World) (hl : ∀ c ∈ l, OkC c) (hm : ∀ c ∈ m, OkC c) (hxl : Chs w vl l) (hxm : Chs w vm m) (ht : Vars w) :
    Calls Tryd.prog 10 #[vl, vm] w fun e w' => ∃ v, e = .returned v ∧ Tree w' v (conc (growS l m)) ∧ Ext w w' := by
  obtain ⟨ql, capl, rfl, _, _⟩ := hxl.shape
  obtain ⟨qm, capm, rfl, _, _⟩ := hxm.shape
  have o40 : OkV forty := okV_mk (by unfold U64; omega) (by unfold U64; omega) (by unfold U64; omega) (by unfold U64; omega)
  have CN := fun U => qnew_w forty U
  have CA := fun c (h : OkC c) U => qamount_w c h U
  have CP := fun U => qpaths_w U
  have CS := fun S (hS : OkS S) v k (hk : k < 8) (c : ChQ) U (hx : Tree U v (conc S)) (h : Ext w U) => set_c S hS v hk (amt4 c) (amt4_ok c) U hx (ht.ext h)
  have CC := fun S (hS : OkS S) v k (hk : k < 8) (c : ChQ) U (hx : Tree U v (conc S)) (h : Ext w U) => charge_c S hS v hk (amtC c) (amtC_ok c) U hx (ht.ext h)
  have CR := fun S (hS : OkS S) v k (hk : k < 8) (c : ChQ) U (hx : Tree U v (conc S)) (h : Ext w U) => refund_c S hS v hk (amtC c) (amtC_ok c) U hx (ht.ext h)
  have hs0 : conc S0 = [(⟨#[]⟩, forty, noV)] := rfl
  rw [← hs0] at CN
  clear hs0
  unfold vVal vF at CN CA CS CC CR
  unfold chVal at CA
  replace CN := Lib.hid CN
  replace CA := Lib.hid CA
  replace CP := Lib.hid CP
  replace CS := Lib.hid CS
  replace CC := Lib.hid CC
  replace CR := Lib.hid CR
  go_enter Tryd.func10, Tryd.ntmps10
  go_wp2_with fail
  refine (CN.out w).mono ?_; rintro e w1 ⟨v0, rfl, hx0, h1⟩
  go_wp2
  go_loopw [5, 6, 7, 8] (fun t i _ _ wr => ∃ k : Nat, k ≤ l.length ∧ k ≤ 24 ∧ i = .int .i64 k ∧ Ext w wr ∧ Tree wr t (conc ((l.take k).foldl stepL S0))) (fun _ i _ _ _ => 24 - (intOf i).toNat)
  case atStart => exact ⟨0, by omega, by omega, rfl, h1, hx0⟩
  case round =>
    obtain ⟨k, hk, hk24, rfl, hb, hx⟩ := hrel
    obtain ⟨wo, rfl⟩ : ∃ wo : World, wo = wr := ⟨_, rfl⟩
    by_cases hlt : k < l.length
    case neg =>
      have hg : l.take k = l.take 24 := by rw [List.take_of_length_le (by omega), List.take_of_length_le (by omega)]
      have hSL := ok_foldL (l.take 24)
      rw [hg] at hx
      clear hg
      have hgr : growS l m = (m.take 24).foldl stepM ((l.take 24).foldl stepL S0) := rfl
      generalize (l.take 24).foldl stepL S0 = SL at *
      replace hgr := Lib.hid hgr
      go_wp2
      go_loopw [5, 9] (fun t i wr => ∃ k : Nat, k ≤ m.length ∧ k ≤ 24 ∧ i = .int .i64 k ∧ Ext w wr ∧ Tree wr t (conc ((m.take k).foldl stepM SL))) (fun _ i _ => 24 - (intOf i).toNat)
      case atStart => exact ⟨0, by omega, by omega, rfl, hb, hx⟩
      case round =>
        clear hx hb hk hk24
        obtain ⟨k, hk, hk24, rfl, hb, hx⟩ := hrel
        by_cases hlt : k < m.length
        case neg =>
          have hg : m.take k = m.take 24 := by rw [List.take_of_length_le (by omega), List.take_of_length_le (by omega)]
          rw [hg] at hx
          go_wp2
          go_ret
          exact ⟨_, rfl, by rw [hgr.out]; exact hx, hb⟩
        by_cases hlt2 : k < 24
        case neg =>
          have hg : m.take k = m.take 24 := by rw [show k = 24 by omega]
          rw [hg] at hx
          go_wp2
          go_ret
          exact ⟨_, rfl, by rw [hgr.out]; exact hx, hb⟩
        obtain ⟨lb, lo, rfl, hlbl, hcs⟩ := (hxm.ext hb).at hlt
        have hok := hm _ (show chAt m k ∈ m by rw [chAt_eq hlt]; exact List.getElem_mem hlt)
        have hst : (m.take (k + 1)).foldl stepM SL = (if (chAt m k).2 = true then (chargeQ ((m.take k).foldl stepM SL) (rfdS (amtC (chAt m k))) ((chAt m k).1.1 % 8)).1 else (chargeQ ((m.take k).foldl stepM SL) (chgS (amtC (chAt m k))) ((chAt m k).1.1 % 8)).1) := by
          rw [List.take_add_one, List.getElem?_eq_getElem hlt, ← chAt_eq hlt, List.foldl_append]; rfl
        have hS := ok_fold (fun _ c h => h.stepM c) (m.take k) SL hSL
        generalize (m.take k).foldl stepM SL = S at *
        have CA1 := fun U => CA.out (chAt m k) hok U
        have CC1 := fun v U hx h => CC.out S hS v ((chAt m k).1.1 % 8) (by omega) (chAt m k) U hx h
        have CR1 := fun v U hx h => CR.out S hS v ((chAt m k).1.1 % 8) (by omega) (chAt m k) U hx h
        generalize vG (amtC (chAt m k)) = A at *
        have hpk : (chAt m k).1.1 % 8 < 8 := by omega
        obtain ⟨⟨⟨x, a, b, g, d⟩, bk⟩, hr⟩ : ∃ r, chAt m k = r := ⟨_, rfl⟩
        rw [hr] at CA1 CC1 CR1 hcs hst hpk
        clear hr hok
        simp only at CA1 CC1 CR1 hst hpk
        have hx8 : ((x : Int) % 8) = ((x % 8 : Nat) : Int) := by omega
        have hx8' : ((x : Int).tmod 8) = ((x % 8 : Nat) : Int) := by rw [Int.tmod_eq_emod_of_nonneg (by omega)]; exact hx8
        generalize x % 8 = pk at *
        have hbw := hb
        replace CA1 := Lib.hid CA1
        replace CC1 := Lib.hid CC1
        replace CR1 := Lib.hid CR1
        have c0 := hcs 0 (by omega)
        have c1 := hcs 1 (by omega)
        have c2 := hcs 2 (by omega)
        have c3 := hcs 3 (by omega)
        have c4 := hcs 4 (by omega)
        have c5 := hcs 5 (by omega)
        simp only [chOne, List.getElem?_cons_zero, List.getElem?_cons_succ, Nat.add_zero] at c0 c1 c2 c3 c4 c5
        clear hcs
        cases bk with
        | true =>
          rw [if_pos rfl] at hst
          replace hst := Lib.hid hst
          go_wp2_with fail
          try simp only [Act.put, List.setIfInBounds_toArray, List.set_cons_succ, List.set_cons_zero]
          refine Dm.wp_region_ext 20 (Dm.bits 20 0) (Ext.refl wr) (by kernel_rfl) (by kernel_rfl) (by kernel_rfl) ?_
          refine Dm.wpE_take (i := 0) (listed' := (Dm.bits 20 1)) (by kernel_rfl) (by kernel_rfl) rfl (fun _ _ _ _ h => h) ?_; apply Exists.intro; refine And.intro (fun x => ?_) ?_
          · go_big_quiet_step (((go_at_call 14; exact Calls.quietE (CA1.out _)))); exact wpQuiet_nil rfl
          refine Dm.wpE_take (i := 2) (listed' := (Dm.bits 20 5)) (by kernel_rfl) (by kernel_rfl) rfl (fun _ _ _ _ h => h) ?_; apply Exists.intro; refine And.intro (fun x => ?_) ?_
          · go_big_quiet_step (((go_at_call 14; exact Calls.quietE (CA1.out _)))); exact wpQuiet_nil rfl
          refine Dm.wpE_take (i := 3) (listed' := (Dm.bits 20 13)) (by kernel_rfl) (by kernel_rfl) rfl (fun _ _ _ _ h => h) ?_; apply Exists.intro; refine And.intro (fun x => ?_) ?_
          · go_big_quiet_step (((go_at_call 14; exact Calls.quietE (CA1.out _)))); exact wpQuiet_nil rfl
          refine Dm.wpE_take (i := 4) (listed' := (Dm.bits 20 29)) (by kernel_rfl) (by kernel_rfl) rfl (fun _ _ _ _ h => h) ?_; apply Exists.intro; refine And.intro (fun x => ?_) ?_
          · go_big_quiet_step (((go_at_call 14; exact Calls.quietE (CA1.out _)))); exact wpQuiet_nil rfl
          refine Dm.wpE_take (i := 5) (listed' := (Dm.bits 20 61)) (by kernel_rfl) (by kernel_rfl) rfl (fun _ _ _ _ h => h) ?_; apply Exists.intro; refine And.intro (fun x => ?_) ?_
          · go_big_quiet_step (((go_at_call 14; exact Calls.quietE (CA1.out _)))); exact wpQuiet_nil rfl
          refine Dm.wpE_take (i := 6) (listed' := (Dm.bits 20 125)) (by kernel_rfl) (by kernel_rfl) rfl (fun _ _ _ _ h => h) ?_; apply Exists.intro; refine And.intro (fun x => ?_) ?_
          · go_big_quiet_step (((go_at_call 14; exact Calls.quietE (CA1.out _)))); exact wpQuiet_nil rfl
          refine Dm.wpE_take (i := 7) (listed' := (Dm.bits 20 253)) (by kernel_rfl) (by kernel_rfl) rfl (fun _ _ _ _ h => h) ?_; apply Exists.intro; refine And.intro (fun x => ?_) ?_
          · go_big_quiet_step (((go_at_call 14; exact Calls.quietE (CA1.out _)))); exact wpQuiet_nil rfl
          refine Dm.wpE_take (i := 10) (listed' := (Dm.bits 20 1277)) (by kernel_rfl) (by kernel_rfl) rfl (fun _ _ _ _ h => h) ?_; apply Exists.intro; refine And.intro (fun x => ?_) ?_
          · go_big_quiet_step (((go_at_call 14; exact Calls.quietE (CA1.out _)))); exact wpQuiet_nil rfl
          refine Dm.wpE_take (i := 11) (listed' := (Dm.bits 20 3325)) (by kernel_rfl) (by kernel_rfl) rfl (fun _ _ _ _ h => h) ?_; apply Exists.intro; refine And.intro (fun x => ?_) ?_
          · go_big_quiet_step (((go_at_call 14; exact Calls.quietE (CA1.out _)))); exact wpQuiet_nil rfl
          refine Dm.wpE_take (i := 12) (listed' := (Dm.bits 20 7421)) (by kernel_rfl) (by kernel_rfl) rfl (fun _ _ _ _ h => h) ?_; apply Exists.intro; refine And.intro (fun x => ?_) ?_
          · go_big_quiet_step (((go_at_call 14; exact Calls.quietE (CA1.out _)))); exact wpQuiet_nil rfl
          refine Dm.wpE_take (i := 13) (listed' := (Dm.bits 20 15613)) (by kernel_rfl) (by kernel_rfl) rfl (fun _ _ _ _ h => h) ?_; apply Exists.intro; refine And.intro (fun x => ?_) ?_
          · go_big_quiet_step (((go_at_call 14; exact Calls.quietE (CA1.out _)))); exact wpQuiet_nil rfl
          refine Dm.wpE_one (i := 1) (listed' := (Dm.bits 20 15615)) (by kernel_rfl) (by kernel_rfl) rfl (Ext.refl wr) (fun w1a hx1a => ?_)
          have hX1a := Ext.trans (Ext.refl wr) hx1a
          go_wp2_with (go_at_call 13; go_must (refine (CP.out w1a).mono ?_; rintro e w1b ⟨vp, rfl, hPs, hs1⟩))
          obtain ⟨pp, pcap, rfl, _, _⟩ := hPs.shape
          obtain ⟨pb, po, rfl, hpbl, hpc⟩ := hPs.at (k := pk) hpk
          have hAt : AtC pb (po + pk) (.string (pth pk)) w1b := ⟨hpbl, hpc⟩
          clear hPs hpc hpbl
          have hpkl : pk < pathsB.length := hpk
          have hX1b := Ext.trans hX1a hs1
          try simp only [Exit.then, Act.put]
          refine Dm.wpE_take (i := 8) (listed' := (Dm.bits 20 15871)) (by kernel_rfl) (by kernel_rfl) rfl (fun _ _ _ _ h => h) ?_; apply Exists.intro; refine And.intro (fun x => ?_) ?_
          · go_big_quiet_step (((go_at_call 14; exact Calls.quietE (CA1.out _)))); exact wpQuiet_nil rfl
          refine Dm.wpE_take (i := 14) (listed' := (Dm.bits 20 32255)) (by kernel_rfl) (by kernel_rfl) rfl (fun _ _ _ _ h => h) ?_; apply Exists.intro; refine And.intro (fun x => ?_) ?_
          · go_big_quiet_step (((go_at_call 14; exact Calls.quietE (CA1.out _)))); exact wpQuiet_nil rfl
          refine Dm.wpE_one (i := 9) (listed' := (Dm.bits 20 32767)) (by kernel_rfl) (by kernel_rfl) rfl hX1b (fun w2a hx2a => ?_)
          have hX2a := Ext.trans hX1b hx2a
          replace hAt := hAt.ext hx2a
          obtain ⟨hAl, hAc⟩ := hAt
          go_wp2_with fail
          clear hAl hAc
          have hX2b := hX2a
          have hs2 := Ext.refl w2a
          generalize w2a = w2b at *
          try simp only [Exit.then, Act.put]
          refine Dm.wpE_one (i := 15) (listed' := (Dm.bits 20 65535)) (by kernel_rfl) (by kernel_rfl) rfl hX2b (fun w3a hx3a => ?_)
          have hX3a := Ext.trans hX2b hx3a
          go_wp2_with (go_at_call 12; go_must (refine (CR1.out _ w3a (hx.ext hX3a) (hbw.trans hX3a)).mono ?_; rintro e w3b ⟨v3, rfl, hx3, hs3⟩))
          have hX3b := Ext.trans hX3a hs3
          try simp only [Exit.then, Act.put]
          refine Dm.wpE_take (i := 16) (listed' := (Dm.bits 20 131071)) (by kernel_rfl) (by kernel_rfl) rfl (fun _ _ _ _ h => h) ?_; apply Exists.intro; refine And.intro (fun x => ?_) ?_
          · go_big_quiet_step (((go_at_call 14; exact Calls.quietE (CA1.out _)))); exact wpQuiet_nil rfl
          refine Dm.wpE_take (i := 17) (listed' := (Dm.bits 20 262143)) (by kernel_rfl) (by kernel_rfl) rfl (fun _ _ _ _ h => h) ?_; apply Exists.intro; refine And.intro (fun x => ?_) ?_
          · go_big_quiet_step (((go_at_call 14; exact Calls.quietE (CA1.out _)))); exact wpQuiet_nil rfl
          refine Dm.wpE_take (i := 18) (listed' := (Dm.bits 20 524287)) (by kernel_rfl) (by kernel_rfl) rfl (fun _ _ _ _ h => h) ?_; apply Exists.intro; refine And.intro (fun x => ?_) ?_
          · go_big_quiet_step (((go_at_call 14; exact Calls.quietE (CA1.out _)))); exact wpQuiet_nil rfl
          refine Dm.wpE_take (i := 19) (listed' := (Dm.bits 20 1048575)) (by kernel_rfl) (by kernel_rfl) rfl (fun _ _ _ _ h => h) ?_; apply Exists.intro; refine And.intro (fun x => ?_) ?_
          · go_big_quiet_step (((go_at_call 14; exact Calls.quietE (CA1.out _)))); exact wpQuiet_nil rfl
          refine Dm.wpE_done (by kernel_rfl) hX3b (fun w4a hx4a => ?_)
          have hX4a := Ext.trans hX3b hx4a
          go_wp2
          go_roundw
          case rel => exact ⟨k + 1, by omega, by omega, by go_num, hbw.trans hX4a, by rw [hst.out]; exact hx3.ext hx4a⟩
          case measure => simp [intOf]; omega
        | false =>
          rw [if_neg (by simp)] at hst
          replace hst := Lib.hid hst
          go_wp2_with fail
          try simp only [Act.put, List.setIfInBounds_toArray, List.set_cons_succ, List.set_cons_zero]
          refine Dm.wp_region_ext 20 (Dm.bits 20 0) (Ext.refl wr) (by kernel_rfl) (by kernel_rfl) (by kernel_rfl) ?_
          refine Dm.wpE_take (i := 0) (listed' := (Dm.bits 20 1)) (by kernel_rfl) (by kernel_rfl) rfl (fun _ _ _ _ h => h) ?_; apply Exists.intro; refine And.intro (fun x => ?_) ?_
          · go_big_quiet_step (((go_at_call 14; exact Calls.quietE (CA1.out _)))); exact wpQuiet_nil rfl
          refine Dm.wpE_take (i := 2) (listed' := (Dm.bits 20 5)) (by kernel_rfl) (by kernel_rfl) rfl (fun _ _ _ _ h => h) ?_; apply Exists.intro; refine And.intro (fun x => ?_) ?_
          · go_big_quiet_step (((go_at_call 14; exact Calls.quietE (CA1.out _)))); exact wpQuiet_nil rfl
          refine Dm.wpE_take (i := 3) (listed' := (Dm.bits 20 13)) (by kernel_rfl) (by kernel_rfl) rfl (fun _ _ _ _ h => h) ?_; apply Exists.intro; refine And.intro (fun x => ?_) ?_
          · go_big_quiet_step (((go_at_call 14; exact Calls.quietE (CA1.out _)))); exact wpQuiet_nil rfl
          refine Dm.wpE_take (i := 4) (listed' := (Dm.bits 20 29)) (by kernel_rfl) (by kernel_rfl) rfl (fun _ _ _ _ h => h) ?_; apply Exists.intro; refine And.intro (fun x => ?_) ?_
          · go_big_quiet_step (((go_at_call 14; exact Calls.quietE (CA1.out _)))); exact wpQuiet_nil rfl
          refine Dm.wpE_take (i := 5) (listed' := (Dm.bits 20 61)) (by kernel_rfl) (by kernel_rfl) rfl (fun _ _ _ _ h => h) ?_; apply Exists.intro; refine And.intro (fun x => ?_) ?_
          · go_big_quiet_step (((go_at_call 14; exact Calls.quietE (CA1.out _)))); exact wpQuiet_nil rfl
          refine Dm.wpE_take (i := 6) (listed' := (Dm.bits 20 125)) (by kernel_rfl) (by kernel_rfl) rfl (fun _ _ _ _ h => h) ?_; apply Exists.intro; refine And.intro (fun x => ?_) ?_
          · go_big_quiet_step (((go_at_call 14; exact Calls.quietE (CA1.out _)))); exact wpQuiet_nil rfl
          refine Dm.wpE_take (i := 7) (listed' := (Dm.bits 20 253)) (by kernel_rfl) (by kernel_rfl) rfl (fun _ _ _ _ h => h) ?_; apply Exists.intro; refine And.intro (fun x => ?_) ?_
          · go_big_quiet_step (((go_at_call 14; exact Calls.quietE (CA1.out _)))); exact wpQuiet_nil rfl
          refine Dm.wpE_take (i := 10) (listed' := (Dm.bits 20 1277)) (by kernel_rfl) (by kernel_rfl) rfl (fun _ _ _ _ h => h) ?_; apply Exists.intro; refine And.intro (fun x => ?_) ?_
          · go_big_quiet_step (((go_at_call 14; exact Calls.quietE (CA1.out _)))); exact wpQuiet_nil rfl
          refine Dm.wpE_take (i := 11) (listed' := (Dm.bits 20 3325)) (by kernel_rfl) (by kernel_rfl) rfl (fun _ _ _ _ h => h) ?_; apply Exists.intro; refine And.intro (fun x => ?_) ?_
          · go_big_quiet_step (((go_at_call 14; exact Calls.quietE (CA1.out _)))); exact wpQuiet_nil rfl
          refine Dm.wpE_take (i := 12) (listed' := (Dm.bits 20 7421)) (by kernel_rfl) (by kernel_rfl) rfl (fun _ _ _ _ h => h) ?_; apply Exists.intro; refine And.intro (fun x => ?_) ?_
          · go_big_quiet_step (((go_at_call 14; exact Calls.quietE (CA1.out _)))); exact wpQuiet_nil rfl
          refine Dm.wpE_take (i := 13) (listed' := (Dm.bits 20 15613)) (by kernel_rfl) (by kernel_rfl) rfl (fun _ _ _ _ h => h) ?_; apply Exists.intro; refine And.intro (fun x => ?_) ?_
          · go_big_quiet_step (((go_at_call 14; exact Calls.quietE (CA1.out _)))); exact wpQuiet_nil rfl
          refine Dm.wpE_one (i := 1) (listed' := (Dm.bits 20 15615)) (by kernel_rfl) (by kernel_rfl) rfl (Ext.refl wr) (fun w1a hx1a => ?_)
          have hX1a := Ext.trans (Ext.refl wr) hx1a
          go_wp2_with (go_at_call 13; go_must (refine (CP.out w1a).mono ?_; rintro e w1b ⟨vp, rfl, hPs, hs1⟩))
          obtain ⟨pp, pcap, rfl, _, _⟩ := hPs.shape
          obtain ⟨pb, po, rfl, hpbl, hpc⟩ := hPs.at (k := pk) hpk
          have hAt : AtC pb (po + pk) (.string (pth pk)) w1b := ⟨hpbl, hpc⟩
          clear hPs hpc hpbl
          have hpkl : pk < pathsB.length := hpk
          have hX1b := Ext.trans hX1a hs1
          try simp only [Exit.then, Act.put]
          refine Dm.wpE_take (i := 8) (listed' := (Dm.bits 20 15871)) (by kernel_rfl) (by kernel_rfl) rfl (fun _ _ _ _ h => h) ?_; apply Exists.intro; refine And.intro (fun x => ?_) ?_
          · go_big_quiet_step (((go_at_call 14; exact Calls.quietE (CA1.out _)))); exact wpQuiet_nil rfl
          refine Dm.wpE_take (i := 14) (listed' := (Dm.bits 20 32255)) (by kernel_rfl) (by kernel_rfl) rfl (fun _ _ _ _ h => h) ?_; apply Exists.intro; refine And.intro (fun x => ?_) ?_
          · go_big_quiet_step (((go_at_call 14; exact Calls.quietE (CA1.out _)))); exact wpQuiet_nil rfl
          refine Dm.wpE_one (i := 9) (listed' := (Dm.bits 20 32767)) (by kernel_rfl) (by kernel_rfl) rfl hX1b (fun w2a hx2a => ?_)
          have hX2a := Ext.trans hX1b hx2a
          replace hAt := hAt.ext hx2a
          obtain ⟨hAl, hAc⟩ := hAt
          go_wp2_with fail
          clear hAl hAc
          have hX2b := hX2a
          have hs2 := Ext.refl w2a
          generalize w2a = w2b at *
          try simp only [Exit.then, Act.put]
          refine Dm.wpE_one (i := 15) (listed' := (Dm.bits 20 65535)) (by kernel_rfl) (by kernel_rfl) rfl hX2b (fun w3a hx3a => ?_)
          have hX3a := Ext.trans hX2b hx3a
          go_wp2_with (go_at_call 15; go_must (refine (CC1.out _ w3a (hx.ext hX3a) (hbw.trans hX3a)).mono ?_; rintro e w3b ⟨v3, rfl, hx3, hs3⟩))
          have hX3b := Ext.trans hX3a hs3
          try simp only [Exit.then, Act.put]
          refine Dm.wpE_take (i := 16) (listed' := (Dm.bits 20 131071)) (by kernel_rfl) (by kernel_rfl) rfl (fun _ _ _ _ h => h) ?_; apply Exists.intro; refine And.intro (fun x => ?_) ?_
          · go_big_quiet_step (((go_at_call 14; exact Calls.quietE (CA1.out _)))); exact wpQuiet_nil rfl
          refine Dm.wpE_take (i := 17) (listed' := (Dm.bits 20 262143)) (by kernel_rfl) (by kernel_rfl) rfl (fun _ _ _ _ h => h) ?_; apply Exists.intro; refine And.intro (fun x => ?_) ?_
          · go_big_quiet_step (((go_at_call 14; exact Calls.quietE (CA1.out _)))); exact wpQuiet_nil rfl
          refine Dm.wpE_take (i := 18) (listed' := (Dm.bits 20 524287)) (by kernel_rfl) (by kernel_rfl) rfl (fun _ _ _ _ h => h) ?_; apply Exists.intro; refine And.intro (fun x => ?_) ?_
          · go_big_quiet_step (((go_at_call 14; exact Calls.quietE (CA1.out _)))); exact wpQuiet_nil rfl
          refine Dm.wpE_take (i := 19) (listed' := (Dm.bits 20 1048575)) (by kernel_rfl) (by kernel_rfl) rfl (fun _ _ _ _ h => h) ?_; apply Exists.intro; refine And.intro (fun x => ?_) ?_
          · go_big_quiet_step (((go_at_call 14; exact Calls.quietE (CA1.out _)))); exact wpQuiet_nil rfl
          refine Dm.wpE_done (by kernel_rfl) hX3b (fun w4a hx4a => ?_)
          have hX4a := Ext.trans hX3b hx4a
          go_wp2
          go_roundw
          case rel => exact ⟨k + 1, by omega, by omega, by go_num, hbw.trans hX4a, by rw [hst.out]; exact hx3.ext hx4a⟩
          case measure => simp [intOf]; omega
    by_cases hlt2 : k < 24
    case neg =>
      have hg : l.take k = l.take 24 := by rw [show k = 24 by omega]
      have hSL := ok_foldL (l.take 24)
      rw [hg] at hx
      clear hg
      have hgr : growS l m = (m.take 24).foldl stepM ((l.take 24).foldl stepL S0) := rfl
      generalize (l.take 24).foldl stepL S0 = SL at *
      replace hgr := Lib.hid hgr
      go_wp2
      go_loopw [5, 9] (fun t i wr => ∃ k : Nat, k ≤ m.length ∧ k ≤ 24 ∧ i = .int .i64 k ∧ Ext w wr ∧ Tree wr t (conc ((m.take k).foldl stepM SL))) (fun _ i _ => 24 - (intOf i).toNat)
      case atStart => exact ⟨0, by omega, by omega, rfl, hb, hx⟩
      case round =>
        clear hx hb hk hk24
        obtain ⟨k, hk, hk24, rfl, hb, hx⟩ := hrel
        by_cases hlt : k < m.length
        case neg =>
          have hg : m.take k = m.take 24 := by rw [List.take_of_length_le (by omega), List.take_of_length_le (by omega)]
          rw [hg] at hx
          go_wp2
          go_ret
          exact ⟨_, rfl, by rw [hgr.out]; exact hx, hb⟩
        by_cases hlt2 : k < 24
        case neg =>
          have hg : m.take k = m.take 24 := by rw [show k = 24 by omega]
          rw [hg] at hx
          go_wp2
          go_ret
          exact ⟨_, rfl, by rw [hgr.out]; exact hx, hb⟩
        obtain ⟨lb, lo, rfl, hlbl, hcs⟩ := (hxm.ext hb).at hlt
        have hok := hm _ (show chAt m k ∈ m by rw [chAt_eq hlt]; exact List.getElem_mem hlt)
        have hst : (m.take (k + 1)).foldl stepM SL = (if (chAt m k).2 = true then (chargeQ ((m.take k).foldl stepM SL) (rfdS (amtC (chAt m k))) ((chAt m k).1.1 % 8)).1 else (chargeQ ((m.take k).foldl stepM SL) (chgS (amtC (chAt m k))) ((chAt m k).1.1 % 8)).1) := by
          rw [List.take_add_one, List.getElem?_eq_getElem hlt, ← chAt_eq hlt, List.foldl_append]; rfl
        have hS := ok_fold (fun _ c h => h.stepM c) (m.take k) SL hSL
        generalize (m.take k).foldl stepM SL = S at *
        have CA1 := fun U => CA.out (chAt m k) hok U
        have CC1 := fun v U hx h => CC.out S hS v ((chAt m k).1.1 % 8) (by omega) (chAt m k) U hx h
        have CR1 := fun v U hx h => CR.out S hS v ((chAt m k).1.1 % 8) (by omega) (chAt m k) U hx h
        generalize vG (amtC (chAt m k)) = A at *
        have hpk : (chAt m k).1.1 % 8 < 8 := by omega
        obtain ⟨⟨⟨x, a, b, g, d⟩, bk⟩, hr⟩ : ∃ r, chAt m k = r := ⟨_, rfl⟩
        rw [hr] at CA1 CC1 CR1 hcs hst hpk
        clear hr hok
        simp only at CA1 CC1 CR1 hst hpk
        have hx8 : ((x : Int) % 8) = ((x % 8 : Nat) : Int) := by omega
        have hx8' : ((x : Int).tmod 8) = ((x % 8 : Nat) : Int) := by rw [Int.tmod_eq_emod_of_nonneg (by omega)]; exact hx8
        generalize x % 8 = pk at *
        have hbw := hb
        replace CA1 := Lib.hid CA1
        replace CC1 := Lib.hid CC1
        replace CR1 := Lib.hid CR1
        have c0 := hcs 0 (by omega)
        have c1 := hcs 1 (by omega)
        have c2 := hcs 2 (by omega)
        have c3 := hcs 3 (by omega)
        have c4 := hcs 4 (by omega)
        have c5 := hcs 5 (by omega)
        simp only [chOne, List.getElem?_cons_zero, List.getElem?_cons_succ, Nat.add_zero] at c0 c1 c2 c3 c4 c5
        clear hcs
        cases bk with
        | true =>
          rw [if_pos rfl] at hst
          replace hst := Lib.hid hst
          go_wp2_with fail
          try simp only [Act.put, List.setIfInBounds_toArray, List.set_cons_succ, List.set_cons_zero]
          refine Dm.wp_region_ext 20 (Dm.bits 20 0) (Ext.refl wr) (by kernel_rfl) (by kernel_rfl) (by kernel_rfl) ?_
          refine Dm.wpE_take (i := 0) (listed' := (Dm.bits 20 1)) (by kernel_rfl) (by kernel_rfl) rfl (fun _ _ _ _ h => h) ?_; apply Exists.intro; refine And.intro (fun x => ?_) ?_
          · go_big_quiet_step (((go_at_call 14; exact Calls.quietE (CA1.out _)))); exact wpQuiet_nil rfl
          refine Dm.wpE_take (i := 2) (listed' := (Dm.bits 20 5)) (by kernel_rfl) (by kernel_rfl) rfl (fun _ _ _ _ h => h) ?_; apply Exists.intro; refine And.intro (fun x => ?_) ?_
          · go_big_quiet_step (((go_at_call 14; exact Calls.quietE (CA1.out _)))); exact wpQuiet_nil rfl
          refine Dm.wpE_take (i := 3) (listed' := (Dm.bits 20 13)) (by kernel_rfl) (by kernel_rfl) rfl (fun _ _ _ _ h => h) ?_; apply Exists.intro; refine And.intro (fun x => ?_) ?_
          · go_big_quiet_step (((go_at_call 14; exact Calls.quietE (CA1.out _)))); exact wpQuiet_nil rfl
          refine Dm.wpE_take (i := 4) (listed' := (Dm.bits 20 29)) (by kernel_rfl) (by kernel_rfl) rfl (fun _ _ _ _ h => h) ?_; apply Exists.intro; refine And.intro (fun x => ?_) ?_
          · go_big_quiet_step (((go_at_call 14; exact Calls.quietE (CA1.out _)))); exact wpQuiet_nil rfl
          refine Dm.wpE_take (i := 5) (listed' := (Dm.bits 20 61)) (by kernel_rfl) (by kernel_rfl) rfl (fun _ _ _ _ h => h) ?_; apply Exists.intro; refine And.intro (fun x => ?_) ?_
          · go_big_quiet_step (((go_at_call 14; exact Calls.quietE (CA1.out _)))); exact wpQuiet_nil rfl
          refine Dm.wpE_take (i := 6) (listed' := (Dm.bits 20 125)) (by kernel_rfl) (by kernel_rfl) rfl (fun _ _ _ _ h => h) ?_; apply Exists.intro; refine And.intro (fun x => ?_) ?_
          · go_big_quiet_step (((go_at_call 14; exact Calls.quietE (CA1.out _)))); exact wpQuiet_nil rfl
          refine Dm.wpE_take (i := 7) (listed' := (Dm.bits 20 253)) (by kernel_rfl) (by kernel_rfl) rfl (fun _ _ _ _ h => h) ?_; apply Exists.intro; refine And.intro (fun x => ?_) ?_
          · go_big_quiet_step (((go_at_call 14; exact Calls.quietE (CA1.out _)))); exact wpQuiet_nil rfl
          refine Dm.wpE_take (i := 10) (listed' := (Dm.bits 20 1277)) (by kernel_rfl) (by kernel_rfl) rfl (fun _ _ _ _ h => h) ?_; apply Exists.intro; refine And.intro (fun x => ?_) ?_
          · go_big_quiet_step (((go_at_call 14; exact Calls.quietE (CA1.out _)))); exact wpQuiet_nil rfl
          refine Dm.wpE_take (i := 11) (listed' := (Dm.bits 20 3325)) (by kernel_rfl) (by kernel_rfl) rfl (fun _ _ _ _ h => h) ?_; apply Exists.intro; refine And.intro (fun x => ?_) ?_
          · go_big_quiet_step (((go_at_call 14; exact Calls.quietE (CA1.out _)))); exact wpQuiet_nil rfl
          refine Dm.wpE_take (i := 12) (listed' := (Dm.bits 20 7421)) (by kernel_rfl) (by kernel_rfl) rfl (fun _ _ _ _ h => h) ?_; apply Exists.intro; refine And.intro (fun x => ?_) ?_
          · go_big_quiet_step (((go_at_call 14; exact Calls.quietE (CA1.out _)))); exact wpQuiet_nil rfl
          refine Dm.wpE_take (i := 13) (listed' := (Dm.bits 20 15613)) (by kernel_rfl) (by kernel_rfl) rfl (fun _ _ _ _ h => h) ?_; apply Exists.intro; refine And.intro (fun x => ?_) ?_
          · go_big_quiet_step (((go_at_call 14; exact Calls.quietE (CA1.out _)))); exact wpQuiet_nil rfl
          refine Dm.wpE_one (i := 1) (listed' := (Dm.bits 20 15615)) (by kernel_rfl) (by kernel_rfl) rfl (Ext.refl wr) (fun w1a hx1a => ?_)
          have hX1a := Ext.trans (Ext.refl wr) hx1a
          go_wp2_with (go_at_call 13; go_must (refine (CP.out w1a).mono ?_; rintro e w1b ⟨vp, rfl, hPs, hs1⟩))
          obtain ⟨pp, pcap, rfl, _, _⟩ := hPs.shape
          obtain ⟨pb, po, rfl, hpbl, hpc⟩ := hPs.at (k := pk) hpk
          have hAt : AtC pb (po + pk) (.string (pth pk)) w1b := ⟨hpbl, hpc⟩
          clear hPs hpc hpbl
          have hpkl : pk < pathsB.length := hpk
          have hX1b := Ext.trans hX1a hs1
          try simp only [Exit.then, Act.put]
          refine Dm.wpE_take (i := 8) (listed' := (Dm.bits 20 15871)) (by kernel_rfl) (by kernel_rfl) rfl (fun _ _ _ _ h => h) ?_; apply Exists.intro; refine And.intro (fun x => ?_) ?_
          · go_big_quiet_step (((go_at_call 14; exact Calls.quietE (CA1.out _)))); exact wpQuiet_nil rfl
          refine Dm.wpE_take (i := 14) (listed' := (Dm.bits 20 32255)) (by kernel_rfl) (by kernel_rfl) rfl (fun _ _ _ _ h => h) ?_; apply Exists.intro; refine And.intro (fun x => ?_) ?_
          · go_big_quiet_step (((go_at_call 14; exact Calls.quietE (CA1.out _)))); exact wpQuiet_nil rfl
          refine Dm.wpE_one (i := 9) (listed' := (Dm.bits 20 32767)) (by kernel_rfl) (by kernel_rfl) rfl hX1b (fun w2a hx2a => ?_)
          have hX2a := Ext.trans hX1b hx2a
          replace hAt := hAt.ext hx2a
          obtain ⟨hAl, hAc⟩ := hAt
          go_wp2_with fail
          clear hAl hAc
          have hX2b := hX2a
          have hs2 := Ext.refl w2a
          generalize w2a = w2b at *
          try simp only [Exit.then, Act.put]
          refine Dm.wpE_one (i := 15) (listed' := (Dm.bits 20 65535)) (by kernel_rfl) (by kernel_rfl) rfl hX2b (fun w3a hx3a => ?_)
          have hX3a := Ext.trans hX2b hx3a
          go_wp2_with (go_at_call 12; go_must (refine (CR1.out _ w3a (hx.ext hX3a) (hbw.trans hX3a)).mono ?_; rintro e w3b ⟨v3, rfl, hx3, hs3⟩))
          have hX3b := Ext.trans hX3a hs3
          try simp only [Exit.then, Act.put]
          refine Dm.wpE_take (i := 16) (listed' := (Dm.bits 20 131071)) (by kernel_rfl) (by kernel_rfl) rfl (fun _ _ _ _ h => h) ?_; apply Exists.intro; refine And.intro (fun x => ?_) ?_
          · go_big_quiet_step (((go_at_call 14; exact Calls.quietE (CA1.out _)))); exact wpQuiet_nil rfl
          refine Dm.wpE_take (i := 17) (listed' := (Dm.bits 20 262143)) (by kernel_rfl) (by kernel_rfl) rfl (fun _ _ _ _ h => h) ?_; apply Exists.intro; refine And.intro (fun x => ?_) ?_
          · go_big_quiet_step (((go_at_call 14; exact Calls.quietE (CA1.out _)))); exact wpQuiet_nil rfl
          refine Dm.wpE_take (i := 18) (listed' := (Dm.bits 20 524287)) (by kernel_rfl) (by kernel_rfl) rfl (fun _ _ _ _ h => h) ?_; apply Exists.intro; refine And.intro (fun x => ?_) ?_
          · go_big_quiet_step (((go_at_call 14; exact Calls.quietE (CA1.out _)))); exact wpQuiet_nil rfl
          refine Dm.wpE_take (i := 19) (listed' := (Dm.bits 20 1048575)) (by kernel_rfl) (by kernel_rfl) rfl (fun _ _ _ _ h => h) ?_; apply Exists.intro; refine And.intro (fun x => ?_) ?_
          · go_big_quiet_step (((go_at_call 14; exact Calls.quietE (CA1.out _)))); exact wpQuiet_nil rfl
          refine Dm.wpE_done (by kernel_rfl) hX3b (fun w4a hx4a => ?_)
          have hX4a := Ext.trans hX3b hx4a
          go_wp2
          go_roundw
          case rel => exact ⟨k + 1, by omega, by omega, by go_num, hbw.trans hX4a, by rw [hst.out]; exact hx3.ext hx4a⟩
          case measure => simp [intOf]; omega
        | false =>
          rw [if_neg (by simp)] at hst
          replace hst := Lib.hid hst
          go_wp2_with fail
          try simp only [Act.put, List.setIfInBounds_toArray, List.set_cons_succ, List.set_cons_zero]
          refine Dm.wp_region_ext 20 (Dm.bits 20 0) (Ext.refl wr) (by kernel_rfl) (by kernel_rfl) (by kernel_rfl) ?_
          refine Dm.wpE_take (i := 0) (listed' := (Dm.bits 20 1)) (by kernel_rfl) (by kernel_rfl) rfl (fun _ _ _ _ h => h) ?_; apply Exists.intro; refine And.intro (fun x => ?_) ?_
          · go_big_quiet_step (((go_at_call 14; exact Calls.quietE (CA1.out _)))); exact wpQuiet_nil rfl
          refine Dm.wpE_take (i := 2) (listed' := (Dm.bits 20 5)) (by kernel_rfl) (by kernel_rfl) rfl (fun _ _ _ _ h => h) ?_; apply Exists.intro; refine And.intro (fun x => ?_) ?_
          · go_big_quiet_step (((go_at_call 14; exact Calls.quietE (CA1.out _)))); exact wpQuiet_nil rfl
          refine Dm.wpE_take (i := 3) (listed' := (Dm.bits 20 13)) (by kernel_rfl) (by kernel_rfl) rfl (fun _ _ _ _ h => h) ?_; apply Exists.intro; refine And.intro (fun x => ?_) ?_
          · go_big_quiet_step (((go_at_call 14; exact Calls.quietE (CA1.out _)))); exact wpQuiet_nil rfl
          refine Dm.wpE_take (i := 4) (listed' := (Dm.bits 20 29)) (by kernel_rfl) (by kernel_rfl) rfl (fun _ _ _ _ h => h) ?_; apply Exists.intro; refine And.intro (fun x => ?_) ?_
          · go_big_quiet_step (((go_at_call 14; exact Calls.quietE (CA1.out _)))); exact wpQuiet_nil rfl
          refine Dm.wpE_take (i := 5) (listed' := (Dm.bits 20 61)) (by kernel_rfl) (by kernel_rfl) rfl (fun _ _ _ _ h => h) ?_; apply Exists.intro; refine And.intro (fun x => ?_) ?_
          · go_big_quiet_step (((go_at_call 14; exact Calls.quietE (CA1.out _)))); exact wpQuiet_nil rfl
          refine Dm.wpE_take (i := 6) (listed' := (Dm.bits 20 125)) (by kernel_rfl) (by kernel_rfl) rfl (fun _ _ _ _ h => h) ?_; apply Exists.intro; refine And.intro (fun x => ?_) ?_
          · go_big_quiet_step (((go_at_call 14; exact Calls.quietE (CA1.out _)))); exact wpQuiet_nil rfl
          refine Dm.wpE_take (i := 7) (listed' := (Dm.bits 20 253)) (by kernel_rfl) (by kernel_rfl) rfl (fun _ _ _ _ h => h) ?_; apply Exists.intro; refine And.intro (fun x => ?_) ?_
          · go_big_quiet_step (((go_at_call 14; exact Calls.quietE (CA1.out _)))); exact wpQuiet_nil rfl
          refine Dm.wpE_take (i := 10) (listed' := (Dm.bits 20 1277)) (by kernel_rfl) (by kernel_rfl) rfl (fun _ _ _ _ h => h) ?_; apply Exists.intro; refine And.intro (fun x => ?_) ?_
          · go_big_quiet_step (((go_at_call 14; exact Calls.quietE (CA1.out _)))); exact wpQuiet_nil rfl
          refine Dm.wpE_take (i := 11) (listed' := (Dm.bits 20 3325)) (by kernel_rfl) (by kernel_rfl) rfl (fun _ _ _ _ h => h) ?_; apply Exists.intro; refine And.intro (fun x => ?_) ?_
          · go_big_quiet_step (((go_at_call 14; exact Calls.quietE (CA1.out _)))); exact wpQuiet_nil rfl
          refine Dm.wpE_take (i := 12) (listed' := (Dm.bits 20 7421)) (by kernel_rfl) (by kernel_rfl) rfl (fun _ _ _ _ h => h) ?_; apply Exists.intro; refine And.intro (fun x => ?_) ?_
          · go_big_quiet_step (((go_at_call 14; exact Calls.quietE (CA1.out _)))); exact wpQuiet_nil rfl
          refine Dm.wpE_take (i := 13) (listed' := (Dm.bits 20 15613)) (by kernel_rfl) (by kernel_rfl) rfl (fun _ _ _ _ h => h) ?_; apply Exists.intro; refine And.intro (fun x => ?_) ?_
          · go_big_quiet_step (((go_at_call 14; exact Calls.quietE (CA1.out _)))); exact wpQuiet_nil rfl
          refine Dm.wpE_one (i := 1) (listed' := (Dm.bits 20 15615)) (by kernel_rfl) (by kernel_rfl) rfl (Ext.refl wr) (fun w1a hx1a => ?_)
          have hX1a := Ext.trans (Ext.refl wr) hx1a
          go_wp2_with (go_at_call 13; go_must (refine (CP.out w1a).mono ?_; rintro e w1b ⟨vp, rfl, hPs, hs1⟩))
          obtain ⟨pp, pcap, rfl, _, _⟩ := hPs.shape
          obtain ⟨pb, po, rfl, hpbl, hpc⟩ := hPs.at (k := pk) hpk
          have hAt : AtC pb (po + pk) (.string (pth pk)) w1b := ⟨hpbl, hpc⟩
          clear hPs hpc hpbl
          have hpkl : pk < pathsB.length := hpk
          have hX1b := Ext.trans hX1a hs1
          try simp only [Exit.then, Act.put]
          refine Dm.wpE_take (i := 8) (listed' := (Dm.bits 20 15871)) (by kernel_rfl) (by kernel_rfl) rfl (fun _ _ _ _ h => h) ?_; apply Exists.intro; refine And.intro (fun x => ?_) ?_
          · go_big_quiet_step (((go_at_call 14; exact Calls.quietE (CA1.out _)))); exact wpQuiet_nil rfl
          refine Dm.wpE_take (i := 14) (listed' := (Dm.bits 20 32255)) (by kernel_rfl) (by kernel_rfl) rfl (fun _ _ _ _ h => h) ?_; apply Exists.intro; refine And.intro (fun x => ?_) ?_
          · go_big_quiet_step (((go_at_call 14; exact Calls.quietE (CA1.out _)))); exact wpQuiet_nil rfl
          refine Dm.wpE_one (i := 9) (listed' := (Dm.bits 20 32767)) (by kernel_rfl) (by kernel_rfl) rfl hX1b (fun w2a hx2a => ?_)
          have hX2a := Ext.trans hX1b hx2a
          replace hAt := hAt.ext hx2a
          obtain ⟨hAl, hAc⟩ := hAt
          go_wp2_with fail
          clear hAl hAc
          have hX2b := hX2a
          have hs2 := Ext.refl w2a
          generalize w2a = w2b at *
          try simp only [Exit.then, Act.put]
          refine Dm.wpE_one (i := 15) (listed' := (Dm.bits 20 65535)) (by kernel_rfl) (by kernel_rfl) rfl hX2b (fun w3a hx3a => ?_)
          have hX3a := Ext.trans hX2b hx3a
          go_wp2_with (go_at_call 15; go_must (refine (CC1.out _ w3a (hx.ext hX3a) (hbw.trans hX3a)).mono ?_; rintro e w3b ⟨v3, rfl, hx3, hs3⟩))
          have hX3b := Ext.trans hX3a hs3
          try simp only [Exit.then, Act.put]
          refine Dm.wpE_take (i := 16) (listed' := (Dm.bits 20 131071)) (by kernel_rfl) (by kernel_rfl) rfl (fun _ _ _ _ h => h) ?_; apply Exists.intro; refine And.intro (fun x => ?_) ?_
          · go_big_quiet_step (((go_at_call 14; exact Calls.quietE (CA1.out _)))); exact wpQuiet_nil rfl
          refine Dm.wpE_take (i := 17) (listed' := (Dm.bits 20 262143)) (by kernel_rfl) (by kernel_rfl) rfl (fun _ _ _ _ h => h) ?_; apply Exists.intro; refine And.intro (fun x => ?_) ?_
          · go_big_quiet_step (((go_at_call 14; exact Calls.quietE (CA1.out _)))); exact wpQuiet_nil rfl
          refine Dm.wpE_take (i := 18) (listed' := (Dm.bits 20 524287)) (by kernel_rfl) (by kernel_rfl) rfl (fun _ _ _ _ h => h) ?_; apply Exists.intro; refine And.intro (fun x => ?_) ?_
          · go_big_quiet_step (((go_at_call 14; exact Calls.quietE (CA1.out _)))); exact wpQuiet_nil rfl
          refine Dm.wpE_take (i := 19) (listed' := (Dm.bits 20 1048575)) (by kernel_rfl) (by kernel_rfl) rfl (fun _ _ _ _ h => h) ?_; apply Exists.intro; refine And.intro (fun x => ?_) ?_
          · go_big_quiet_step (((go_at_call 14; exact Calls.quietE (CA1.out _)))); exact wpQuiet_nil rfl
          refine Dm.wpE_done (by kernel_rfl) hX3b (fun w4a hx4a => ?_)
          have hX4a := Ext.trans hX3b hx4a
          go_wp2
          go_roundw
          case rel => exact ⟨k + 1, by omega, by omega, by go_num, hbw.trans hX4a, by rw [hst.out]; exact hx3.ext hx4a⟩
          case measure => simp [intOf]; omega
    obtain ⟨lb, lo, rfl, hlbl, hcs⟩ := (hxl.ext hb).at hlt
    have hok := hl _ (show chAt l k ∈ l by rw [chAt_eq hlt]; exact List.getElem_mem hlt)
    have hS := ok_foldL (l.take k)
    have hst : (l.take (k + 1)).foldl stepL S0 = (setQ ((l.take k).foldl stepL S0) ((chAt l k).1.1 % 8) (amt4 (chAt l k))).1 := by
      rw [List.take_add_one, List.getElem?_eq_getElem hlt, ← chAt_eq hlt, List.foldl_append]; rfl
    generalize (l.take k).foldl stepL S0 = S at *
    have CA1 := fun U => CA.out (chAt l k) hok U
    have CS1 := fun v U hx h => CS.out S hS v ((chAt l k).1.1 % 8) (by omega) (chAt l k) U hx h
    have hcs2 : ∀ U, Ext wo U → ∀ j, j < 6 → U.cell? ⟨lb, lo + k * 6 + j, none⟩ = (chOne (chAt l k))[j]? := fun U hU j hj => by rw [hU.cell (by exact hlbl)]; exact hcs j hj
    have ha4 : amt4 (chAt l k) = [vG (amtC (chAt l k)) 0 * 4, vG (amtC (chAt l k)) 1 * 4, vG (amtC (chAt l k)) 2 * 4, vG (amtC (chAt l k)) 3 * 4] := rfl
    have ham : ∀ j, vG (amtC (chAt l k)) j < 8 := amtC_lt _
    rw [ha4] at CS1 hst
    generalize vG (amtC (chAt l k)) = A at *
    have hpk : (chAt l k).1.1 % 8 < 8 := by omega
    obtain ⟨⟨⟨x, a, b, g, d⟩, bk⟩, hr⟩ : ∃ r, chAt l k = r := ⟨_, rfl⟩
    rw [hr] at CA1 CS1 hcs2 hst hpk
    clear hr hok hcs
    simp only at CA1 CS1 hst hpk
    have hx8 : ((x : Int) % 8) = ((x % 8 : Nat) : Int) := by omega
    have hx8' : ((x : Int).tmod 8) = ((x % 8 : Nat) : Int) := by rw [Int.tmod_eq_emod_of_nonneg (by omega)]; exact hx8
    generalize x % 8 = pk at *
    replace hcs2 := Lib.hid hcs2
    replace CA1 := Lib.hid CA1
    replace CS1 := Lib.hid CS1
    replace hst := Lib.hid hst
    have hcs := hcs2.out wo (Ext.refl _)
    have c0 := hcs 0 (by omega)
    have c1 := hcs 1 (by omega)
    have c2 := hcs 2 (by omega)
    have c3 := hcs 3 (by omega)
    have c4 := hcs 4 (by omega)
    have c5 := hcs 5 (by omega)
    simp only [chOne, List.getElem?_cons_zero, List.getElem?_cons_succ, Nat.add_zero] at c0 c1 c2 c3 c4 c5
    clear hcs
    go_wp2_with fail
    refine (CA1.out _).mono ?_; rintro e w2 ⟨rfl, h2⟩
    clear c0 c1 c2 c3 c4 c5
    have hV := VBox.new w2 A 36
    have hE2 := h2.alloc (.cells #[.int .u64 (A 0 : Nat), .int .u64 (A 1 : Nat), .int .u64 (A 2 : Nat), .int .u64 (A 3 : Nat)] 36)
    have hlt2i : (k : Int) < 24 := by omega
    have hA0 := ham 0
    go_wp2_with fail
    try simp only [decide_eq_true hlt2i, decide_eq_true hlt2]
    go_loopw [8] (fun j wr => ∃ n : Nat, n ≤ 4 ∧ j = .int .i64 n ∧ VBox w2.heap.size (fun q => if q < n then A q * 4 else A q) wr ∧ Ext wo wr) (fun j _ => 4 - (intOf j).toNat)
    case atStart => exact ⟨0, by omega, rfl, hV.congr (fun j _ => by simp), hE2⟩
    case round =>
      obtain ⟨n, hn, rfl, hV, hbi⟩ := hrel
      by_cases hnl : n < 4
      · have d0 := hV.cell _ hnl
        have e0 := hV.free _ hnl
        simp only [Nat.lt_irrefl, if_false] at d0
        have hmul : (A n : Int) * 4 % 18446744073709551616 = ((A n * 4 : Nat) : Int) := by have := ham n; omega
        have hV2 : VBox w2.heap.size (fun q => if q < n + 1 then A q * 4 else A q) (wr.setCell ⟨w2.heap.size, n, none⟩ (.int .u64 (A n * 4 : Nat))) := (hV.set hnl).congr fun j _ => by
          by_cases e : j = n
          · subst e; simp
          · rcases Nat.lt_or_ge j n with h | h
            · rw [if_neg e, if_pos h, if_pos (by omega)]
            · rw [if_neg e, if_neg (by omega), if_neg (by omega)]
        have hw2 := h2.size
        go_wp2
        go_roundw
        case rel => exact ⟨n + 1, by omega, by go_num, hV2, hbi.setCell (p := ⟨w2.heap.size, n, none⟩) (by show wo.heap.size ≤ w2.heap.size; omega) _⟩
        case measure => simp [intOf]; omega
      · obtain rfl : n = 4 := by omega
        have hV4 : VBox w2.heap.size (fun q => A q * 4) wr := hV.congr fun j hj => by simp [hj]
        obtain ⟨_, z0, z1, z2, z3, _, _, _, _⟩ := hV4.four
        have hcs := hcs2.out wr hbi
        have c0 := hcs 0 (by omega)
        have c1 := hcs 1 (by omega)
        have c2 := hcs 2 (by omega)
        have c3 := hcs 3 (by omega)
        have c4 := hcs 4 (by omega)
        have c5 := hcs 5 (by omega)
        simp only [chOne, List.getElem?_cons_zero, List.getElem?_cons_succ, Nat.add_zero] at c0 c1 c2 c3 c4 c5
        clear hcs
        have hlbi : lb < wr.heap.size := Nat.lt_of_lt_of_le hlbl hbi.size
        have hbw := hb.trans hbi
        replace hx := hx.ext hbi
        clear hV hE2
        go_wp2_with fail
        try simp only [Act.put, List.setIfInBounds_toArray, List.set_cons_succ, List.set_cons_zero]
        refine Dm.wp_region_ext 16 (Dm.bits 16 0) (Ext.refl wr) (by kernel_rfl) (by kernel_rfl) (by kernel_rfl) ?_
        refine Dm.wpE_take (i := 0) (listed' := (Dm.bits 16 1)) (by kernel_rfl) (by kernel_rfl) rfl (fun _ _ _ _ h => h) ?_; apply Exists.intro; refine And.intro (fun x => ?_) ?_
        · go_big_quiet_step (fail); exact wpQuiet_nil rfl
        refine Dm.wpE_take (i := 2) (listed' := (Dm.bits 16 5)) (by kernel_rfl) (by kernel_rfl) rfl (fun _ _ _ _ h => h) ?_; apply Exists.intro; refine And.intro (fun x => ?_) ?_
        · go_big_quiet_step (fail); exact wpQuiet_nil rfl
        refine Dm.wpE_take (i := 3) (listed' := (Dm.bits 16 13)) (by kernel_rfl) (by kernel_rfl) rfl (fun _ _ _ _ h => h) ?_; apply Exists.intro; refine And.intro (fun x => ?_) ?_
        · go_big_quiet_step (fail); exact wpQuiet_nil rfl
        refine Dm.wpE_take (i := 4) (listed' := (Dm.bits 16 29)) (by kernel_rfl) (by kernel_rfl) rfl (fun _ _ _ _ h => h) ?_; apply Exists.intro; refine And.intro (fun x => ?_) ?_
        · go_big_quiet_step (fail); exact wpQuiet_nil rfl
        refine Dm.wpE_take (i := 5) (listed' := (Dm.bits 16 61)) (by kernel_rfl) (by kernel_rfl) rfl (fun _ _ _ _ h => h) ?_; apply Exists.intro; refine And.intro (fun x => ?_) ?_
        · go_big_quiet_step (fail); exact wpQuiet_nil rfl
        refine Dm.wpE_take (i := 6) (listed' := (Dm.bits 16 125)) (by kernel_rfl) (by kernel_rfl) rfl (fun _ _ _ _ h => h) ?_; apply Exists.intro; refine And.intro (fun x => ?_) ?_
        · go_big_quiet_step (fail); exact wpQuiet_nil rfl
        refine Dm.wpE_take (i := 7) (listed' := (Dm.bits 16 253)) (by kernel_rfl) (by kernel_rfl) rfl (fun _ _ _ _ h => h) ?_; apply Exists.intro; refine And.intro (fun x => ?_) ?_
        · go_big_quiet_step (fail); exact wpQuiet_nil rfl
        refine Dm.wpE_take (i := 10) (listed' := (Dm.bits 16 1277)) (by kernel_rfl) (by kernel_rfl) rfl (fun _ _ _ _ h => h) ?_; apply Exists.intro; refine And.intro (fun x => ?_) ?_
        · go_big_quiet_step (fail); exact wpQuiet_nil rfl
        refine Dm.wpE_one (i := 1) (listed' := (Dm.bits 16 1279)) (by kernel_rfl) (by kernel_rfl) rfl (Ext.refl wr) (fun w1a hx1a => ?_)
        have hX1a := Ext.trans (Ext.refl wr) hx1a
        go_wp2_with (go_at_call 13; go_must (refine (CP.out w1a).mono ?_; rintro e w1b ⟨vp, rfl, hPs, hs1⟩))
        obtain ⟨pp, pcap, rfl, _, _⟩ := hPs.shape
        obtain ⟨pb, po, rfl, hpbl, hpc⟩ := hPs.at (k := pk) hpk
        have hAt : AtC pb (po + pk) (.string (pth pk)) w1b := ⟨hpbl, hpc⟩
        clear hPs hpc hpbl
        have hpkl : pk < pathsB.length := hpk
        have hX1b := Ext.trans hX1a hs1
        try simp only [Exit.then, Act.put]
        refine Dm.wpE_take (i := 8) (listed' := (Dm.bits 16 1535)) (by kernel_rfl) (by kernel_rfl) rfl (fun _ _ _ _ h => h) ?_; apply Exists.intro; refine And.intro (fun x => ?_) ?_
        · go_big_quiet_step (fail); exact wpQuiet_nil rfl
        refine Dm.wpE_one (i := 9) (listed' := (Dm.bits 16 2047)) (by kernel_rfl) (by kernel_rfl) rfl hX1b (fun w2a hx2a => ?_)
        have hX2a := Ext.trans hX1b hx2a
        replace hAt := hAt.ext hx2a
        obtain ⟨hAl, hAc⟩ := hAt
        go_wp2_with fail
        clear hAl hAc
        have hX2b := hX2a
        have hs2 := Ext.refl w2a
        generalize w2a = w2b at *
        try simp only [Exit.then, Act.put]
        refine Dm.wpE_one (i := 11) (listed' := (Dm.bits 16 4095)) (by kernel_rfl) (by kernel_rfl) rfl hX2b (fun w3a hx3a => ?_)
        have hX3a := Ext.trans hX2b hx3a
        go_wp2_with (go_at_call 22; go_must (refine (CS1.out _ w3a (hx.ext hX3a) (hbw.trans hX3a)).mono ?_; rintro e w3b ⟨v3, rfl, hx3, hs3⟩))
        have hX3b := Ext.trans hX3a hs3
        try simp only [Exit.then, Act.put]
        refine Dm.wpE_take (i := 12) (listed' := (Dm.bits 16 8191)) (by kernel_rfl) (by kernel_rfl) rfl (fun _ _ _ _ h => h) ?_; apply Exists.intro; refine And.intro (fun x => ?_) ?_
        · go_big_quiet_step (fail); exact wpQuiet_nil rfl
        refine Dm.wpE_take (i := 13) (listed' := (Dm.bits 16 16383)) (by kernel_rfl) (by kernel_rfl) rfl (fun _ _ _ _ h => h) ?_; apply Exists.intro; refine And.intro (fun x => ?_) ?_
        · go_big_quiet_step (fail); exact wpQuiet_nil rfl
        refine Dm.wpE_take (i := 14) (listed' := (Dm.bits 16 32767)) (by kernel_rfl) (by kernel_rfl) rfl (fun _ _ _ _ h => h) ?_; apply Exists.intro; refine And.intro (fun x => ?_) ?_
        · go_big_quiet_step (fail); exact wpQuiet_nil rfl
        refine Dm.wpE_take (i := 15) (listed' := (Dm.bits 16 65535)) (by kernel_rfl) (by kernel_rfl) rfl (fun _ _ _ _ h => h) ?_; apply Exists.intro; refine And.intro (fun x => ?_) ?_
        · go_big_quiet_step (fail); exact wpQuiet_nil rfl
        refine Dm.wpE_done (by kernel_rfl) hX3b (fun w4a hx4a => ?_)
        have hX4a := Ext.trans hX3b hx4a
        go_wp2
        go_roundw
        case rel => exact ⟨k + 1, by omega, by omega, by go_num, hbw.trans hX4a, by rw [hst.out]; exact hx3.ext hx4a⟩
        case measure => simp [intOf]; omega
end Go.Proofs.YtopnllbfhhjobaaDoor
