/- QueueFull holds: thirty-two may wait; one more, one twice, one of no priority is refused; no condition. -/
import Derived.Test.YtgkjpablofckjaaQComes
namespace Go.Proofs.Ytgkjpablofckjaa
open Go.RowKit Go.Dm

def filled (i : Nat) : Ent := ((i : Int) * 3, (i : Int).tmod 10)

/-- The queue after i pushes. -/
def fillF : Nat → List Ent
  | 0 => []
  | i + 1 => (pushF (fillF i) (filled i)).1

def fillOk (i : Nat) : Bool :=
  decide ((fillF i).length = min i 32) && decide (pushF (fillF i) (filled i) = if i < 32 then (fillF (i + 1), 0) else (fillF i, 9)) &&
    (fillF i).all (fun x => decide (x.1.tmod 3 = 0) && decide (0 ≤ x.1) && decide (x.1.tdiv 3 < (fillF i).length)) &&
    (List.range (fillF i).length).all (fun j => (idxOf ((j : Int) * 3) (fillF i)).isSome)

theorem fillAll : (List.range 41).all fillOk = true := by decide +kernel

theorem fill_ok {i : Nat} (h : i ≤ 40) : fillOk i = true := List.all_eq_true.1 fillAll i (List.mem_range.2 (by omega))

theorem fill_len {i : Nat} (h : i ≤ 40) : (fillF i).length = min i 32 := by
  have := fill_ok h
  unfold fillOk at this
  simp only [Bool.and_eq_true, decide_eq_true_eq] at this
  exact this.1.1.1

theorem fill_push {i : Nat} (h : i ≤ 40) : pushF (fillF i) (filled i) = if i < 32 then (fillF (i + 1), 0) else (fillF i, 9) := by
  have := fill_ok h
  unfold fillOk at this
  simp only [Bool.and_eq_true, decide_eq_true_eq] at this
  exact this.1.1.2

theorem fill_full {i : Nat} (h : i ≤ 40) (h' : ¬ i < 32) : fillF (i + 1) = fillF i := by
  show (pushF (fillF i) (filled i)).1 = fillF i
  rw [fill_push h, if_neg h']

theorem fill_there {i : Nat} (h : i ≤ 40) {id : Int} (hp : 0 ≤ id) (h3 : id.tmod 3 = 0) (hl : id.tdiv 3 < (fillF i).length) : ∃ k, idxOf id (fillF i) = some k := by
  have := fill_ok h
  unfold fillOk at this
  simp only [Bool.and_eq_true] at this
  have hd : 0 ≤ id.tdiv 3 := Int.tdiv_nonneg hp (by omega)
  have := List.all_eq_true.1 this.2 (id.tdiv 3).toNat (List.mem_range.2 (by omega))
  have he : (((id.tdiv 3).toNat : Nat) : Int) * 3 = id := by
    have := Int.tmod_add_mul_tdiv id 3
    omega
  rw [he] at this
  exact Option.isSome_iff_exists.1 this

theorem fill_gone {i : Nat} (h : i ≤ 40) {id : Int} (hn : id.tmod 3 ≠ 0 ∨ (fillF i).length ≤ id.tdiv 3) : idxOf id (fillF i) = none := by
  cases hi : idxOf id (fillF i) with
  | none => rfl
  | some k =>
    exfalso
    have hk := idxOf_some hi
    have hm := ent_mem (idxOf_lt hi)
    have := fill_ok h
    unfold fillOk at this
    simp only [Bool.and_eq_true] at this
    have := List.all_eq_true.1 this.1.2 _ hm
    simp only [Bool.and_eq_true, decide_eq_true_eq] at this
    rw [hk] at this
    omega

set_option maxHeartbeats 4000000 in
set_option maxRecDepth 100000 in
theorem full_0 (n : Int) (x : Ent) (w : World) (m : Nat) (hm : m ≤ 39) (hmq : n.tmod 40 = (m : Int)) (hp : 0 ≤ x.1) (hq : x.1 < 18446744073709551616)
    (h3 : x.1.tmod 3 = 0) (h4 : x.1.tdiv 3 < (fillF m).length) (p1 : x.2 < 0) :
    Calls Try.prog 8 #[.int .u8 n, .agg #[.int .u64 x.1, .int .i64 x.2]] w fun e w' => e = .returned (.bool true) ∧ Ext w w' := by
  have hb0 : Ext w (w.alloc (.cells #[.int .u64 x.1, .int .i64 x.2] 25)) := (Ext.refl w).alloc _
  go_enter Try.func8, Try.ntmps8
  go_wp2_with fail
  refine (examples_w _).mono ?_; rintro e w1 ⟨rfl, hb1⟩
  go_wp2
  go_loopw [6, 8] (fun r i' wr => ∃ i : Nat, i ≤ m ∧ i' = .int .i64 i ∧ Ext w1 wr ∧ Ents wr r (fillF i)) (fun _ i' _ => m - (intOf i').toNat)
  case atStart => exact ⟨0, by omega, rfl, Ext.refl _, Ents.nil _⟩
  case round =>
    obtain ⟨i, hi, rfl, hbi, ho⟩ := hrel
    by_cases hlt : i < m
    · have C := push_w (fillF i) ((i : Int) * 3) ((i : Int).tmod 10) _ _ (by have := fill_len (show i ≤ 40 by omega); omega) ho
      rw [show pushF (fillF i) ((i : Int) * 3, (i : Int).tmod 10) = _ from fill_push (show i ≤ 40 by omega)] at C
      by_cases h32 : i < 32
      · rw [if_pos h32] at C
        go_wp2_with fail
        refine C.mono ?_; rintro e w3 ⟨r3, rfl, ho3, hb3⟩
        go_wp2
        go_roundw
        case rel => exact ⟨i + 1, by omega, by go_num, hbi.trans hb3, ho3⟩
        case measure => simp [intOf]; omega
      · rw [if_neg h32] at C
        go_wp2_with fail
        refine C.mono ?_; rintro e w3 ⟨r3, rfl, ho3, hb3⟩
        go_wp2_with fail
        refine (same_w (fillF i) (fillF i) _ _ _ (by have := fill_len (show i ≤ 40 by omega); omega) ho3 (ho.ext hb3)).mono ?_; rintro e w4 ⟨rfl, hb4⟩
        rw [decide_eq_true rfl]
        go_wp2
        go_roundw
        case rel => exact ⟨i + 1, by omega, by go_num, hbi.trans (hb3.trans hb4), by rw [fill_full (by omega) h32]; exact ho3.ext hb4⟩
        case measure => simp [intOf]; omega
    · obtain rfl : i = m := by omega
      have hQl : (fillF i).length ≤ 32 := by have := fill_len (show i ≤ 40 by omega); omega
      have HT := Lib.hid (fun h3 h4 => fill_there (show i ≤ 40 by omega) hp h3 h4)
      have HG := Lib.hid (fun h => fill_gone (id := x.1) (show i ≤ 40 by omega) h)
      generalize fillF i = Q at *
      have hd0 : 0 ≤ x.1.tdiv 3 := Int.tdiv_nonneg hp (by omega)
      have hd1 : x.1.tdiv 3 < 18446744073709551616 := by
        have h1 := Int.tmod_add_mul_tdiv x.1 3
        have h2 := Int.tmod_nonneg 3 hp
        omega
      obtain ⟨rq, rcap, rfl, hrcap, hrcm⟩ := ho.shape
      have hb1i := hb1.trans hbi
      obtain ⟨gs, g⟩ := hb1i.box
      have g0 := g 0 _ rfl
      have g1 := g 1 _ rfl
      clear g
      have hne : ((Q.length : Int) == (Q.length : Int) + 1) = false := by rw [beq_eq_false_iff_ne]; omega
      have h3b : (x.1.tmod 3 == 0) = true := by rw [beq_iff_eq]; exact h3
      obtain ⟨k, hk⟩ := HT.out h3 h4
      clear HT HG
      go_wp2_with fail
      refine (push_w Q x.1 x.2 _ _ (by omega) ho).mono ?_; rintro e w3 ⟨r3, rfl, ho3, hb3⟩
      clear h3 h3b h4 hd0 hd1 hmq hp hq
      rw [show pushF Q (x.1, x.2) = (Q, 1) from pushF_arg (wrongB_low p1)] at ho3 ⊢
      obtain ⟨rp, rc, rfl, hrc1, hrc2⟩ := ho3.shape
      obtain ⟨gs3, g⟩ := (hb1i.trans hb3).box
      have k0 := g 0 _ rfl
      have k1 := g 1 _ rfl
      clear g
      go_wp2_with fail
      refine (same_w Q Q _ _ _ (by omega) ho3 (ho.ext hb3)).mono ?_; rintro e w4 ⟨rfl, hb4⟩
      rw [decide_eq_true rfl]
      go_wp2
      go_ret
      exact ⟨rfl, hb0.trans (hb1i.trans (hb3.trans hb4))⟩

set_option maxHeartbeats 4000000 in
set_option maxRecDepth 100000 in
theorem full_1 (n : Int) (x : Ent) (w : World) (m : Nat) (hm : m ≤ 39) (hmq : n.tmod 40 = (m : Int)) (hp : 0 ≤ x.1) (hq : x.1 < 18446744073709551616)
    (h3 : x.1.tmod 3 = 0) (h4 : x.1.tdiv 3 < (fillF m).length) (p1 : ¬ x.2 < 0) (p2 : 9 < x.2) :
    Calls Try.prog 8 #[.int .u8 n, .agg #[.int .u64 x.1, .int .i64 x.2]] w fun e w' => e = .returned (.bool true) ∧ Ext w w' := by
  have hb0 : Ext w (w.alloc (.cells #[.int .u64 x.1, .int .i64 x.2] 25)) := (Ext.refl w).alloc _
  go_enter Try.func8, Try.ntmps8
  go_wp2_with fail
  refine (examples_w _).mono ?_; rintro e w1 ⟨rfl, hb1⟩
  go_wp2
  go_loopw [6, 8] (fun r i' wr => ∃ i : Nat, i ≤ m ∧ i' = .int .i64 i ∧ Ext w1 wr ∧ Ents wr r (fillF i)) (fun _ i' _ => m - (intOf i').toNat)
  case atStart => exact ⟨0, by omega, rfl, Ext.refl _, Ents.nil _⟩
  case round =>
    obtain ⟨i, hi, rfl, hbi, ho⟩ := hrel
    by_cases hlt : i < m
    · have C := push_w (fillF i) ((i : Int) * 3) ((i : Int).tmod 10) _ _ (by have := fill_len (show i ≤ 40 by omega); omega) ho
      rw [show pushF (fillF i) ((i : Int) * 3, (i : Int).tmod 10) = _ from fill_push (show i ≤ 40 by omega)] at C
      by_cases h32 : i < 32
      · rw [if_pos h32] at C
        go_wp2_with fail
        refine C.mono ?_; rintro e w3 ⟨r3, rfl, ho3, hb3⟩
        go_wp2
        go_roundw
        case rel => exact ⟨i + 1, by omega, by go_num, hbi.trans hb3, ho3⟩
        case measure => simp [intOf]; omega
      · rw [if_neg h32] at C
        go_wp2_with fail
        refine C.mono ?_; rintro e w3 ⟨r3, rfl, ho3, hb3⟩
        go_wp2_with fail
        refine (same_w (fillF i) (fillF i) _ _ _ (by have := fill_len (show i ≤ 40 by omega); omega) ho3 (ho.ext hb3)).mono ?_; rintro e w4 ⟨rfl, hb4⟩
        rw [decide_eq_true rfl]
        go_wp2
        go_roundw
        case rel => exact ⟨i + 1, by omega, by go_num, hbi.trans (hb3.trans hb4), by rw [fill_full (by omega) h32]; exact ho3.ext hb4⟩
        case measure => simp [intOf]; omega
    · obtain rfl : i = m := by omega
      have hQl : (fillF i).length ≤ 32 := by have := fill_len (show i ≤ 40 by omega); omega
      have HT := Lib.hid (fun h3 h4 => fill_there (show i ≤ 40 by omega) hp h3 h4)
      have HG := Lib.hid (fun h => fill_gone (id := x.1) (show i ≤ 40 by omega) h)
      generalize fillF i = Q at *
      have hd0 : 0 ≤ x.1.tdiv 3 := Int.tdiv_nonneg hp (by omega)
      have hd1 : x.1.tdiv 3 < 18446744073709551616 := by
        have h1 := Int.tmod_add_mul_tdiv x.1 3
        have h2 := Int.tmod_nonneg 3 hp
        omega
      obtain ⟨rq, rcap, rfl, hrcap, hrcm⟩ := ho.shape
      have hb1i := hb1.trans hbi
      obtain ⟨gs, g⟩ := hb1i.box
      have g0 := g 0 _ rfl
      have g1 := g 1 _ rfl
      clear g
      have hne : ((Q.length : Int) == (Q.length : Int) + 1) = false := by rw [beq_eq_false_iff_ne]; omega
      have h3b : (x.1.tmod 3 == 0) = true := by rw [beq_iff_eq]; exact h3
      obtain ⟨k, hk⟩ := HT.out h3 h4
      clear HT HG
      go_wp2_with fail
      refine (push_w Q x.1 x.2 _ _ (by omega) ho).mono ?_; rintro e w3 ⟨r3, rfl, ho3, hb3⟩
      clear h3 h3b h4 hd0 hd1 hmq hp hq
      rw [show pushF Q (x.1, x.2) = (Q, 1) from pushF_arg (wrongB_high p2)] at ho3 ⊢
      obtain ⟨rp, rc, rfl, hrc1, hrc2⟩ := ho3.shape
      obtain ⟨gs3, g⟩ := (hb1i.trans hb3).box
      have k0 := g 0 _ rfl
      have k1 := g 1 _ rfl
      clear g
      go_wp2_with fail
      refine (same_w Q Q _ _ _ (by omega) ho3 (ho.ext hb3)).mono ?_; rintro e w4 ⟨rfl, hb4⟩
      rw [decide_eq_true rfl]
      go_wp2
      go_ret
      exact ⟨rfl, hb0.trans (hb1i.trans (hb3.trans hb4))⟩

set_option maxHeartbeats 4000000 in
set_option maxRecDepth 100000 in
theorem full_2 (n : Int) (x : Ent) (w : World) (m : Nat) (hm : m ≤ 39) (hmq : n.tmod 40 = (m : Int)) (hp : 0 ≤ x.1) (hq : x.1 < 18446744073709551616)
    (h3 : x.1.tmod 3 = 0) (h4 : x.1.tdiv 3 < (fillF m).length) (p1 : ¬ x.2 < 0) (p2 : ¬ 9 < x.2) :
    Calls Try.prog 8 #[.int .u8 n, .agg #[.int .u64 x.1, .int .i64 x.2]] w fun e w' => e = .returned (.bool true) ∧ Ext w w' := by
  have hb0 : Ext w (w.alloc (.cells #[.int .u64 x.1, .int .i64 x.2] 25)) := (Ext.refl w).alloc _
  go_enter Try.func8, Try.ntmps8
  go_wp2_with fail
  refine (examples_w _).mono ?_; rintro e w1 ⟨rfl, hb1⟩
  go_wp2
  go_loopw [6, 8] (fun r i' wr => ∃ i : Nat, i ≤ m ∧ i' = .int .i64 i ∧ Ext w1 wr ∧ Ents wr r (fillF i)) (fun _ i' _ => m - (intOf i').toNat)
  case atStart => exact ⟨0, by omega, rfl, Ext.refl _, Ents.nil _⟩
  case round =>
    obtain ⟨i, hi, rfl, hbi, ho⟩ := hrel
    by_cases hlt : i < m
    · have C := push_w (fillF i) ((i : Int) * 3) ((i : Int).tmod 10) _ _ (by have := fill_len (show i ≤ 40 by omega); omega) ho
      rw [show pushF (fillF i) ((i : Int) * 3, (i : Int).tmod 10) = _ from fill_push (show i ≤ 40 by omega)] at C
      by_cases h32 : i < 32
      · rw [if_pos h32] at C
        go_wp2_with fail
        refine C.mono ?_; rintro e w3 ⟨r3, rfl, ho3, hb3⟩
        go_wp2
        go_roundw
        case rel => exact ⟨i + 1, by omega, by go_num, hbi.trans hb3, ho3⟩
        case measure => simp [intOf]; omega
      · rw [if_neg h32] at C
        go_wp2_with fail
        refine C.mono ?_; rintro e w3 ⟨r3, rfl, ho3, hb3⟩
        go_wp2_with fail
        refine (same_w (fillF i) (fillF i) _ _ _ (by have := fill_len (show i ≤ 40 by omega); omega) ho3 (ho.ext hb3)).mono ?_; rintro e w4 ⟨rfl, hb4⟩
        rw [decide_eq_true rfl]
        go_wp2
        go_roundw
        case rel => exact ⟨i + 1, by omega, by go_num, hbi.trans (hb3.trans hb4), by rw [fill_full (by omega) h32]; exact ho3.ext hb4⟩
        case measure => simp [intOf]; omega
    · obtain rfl : i = m := by omega
      have hQl : (fillF i).length ≤ 32 := by have := fill_len (show i ≤ 40 by omega); omega
      have HT := Lib.hid (fun h3 h4 => fill_there (show i ≤ 40 by omega) hp h3 h4)
      have HG := Lib.hid (fun h => fill_gone (id := x.1) (show i ≤ 40 by omega) h)
      generalize fillF i = Q at *
      have hd0 : 0 ≤ x.1.tdiv 3 := Int.tdiv_nonneg hp (by omega)
      have hd1 : x.1.tdiv 3 < 18446744073709551616 := by
        have h1 := Int.tmod_add_mul_tdiv x.1 3
        have h2 := Int.tmod_nonneg 3 hp
        omega
      obtain ⟨rq, rcap, rfl, hrcap, hrcm⟩ := ho.shape
      have hb1i := hb1.trans hbi
      obtain ⟨gs, g⟩ := hb1i.box
      have g0 := g 0 _ rfl
      have g1 := g 1 _ rfl
      clear g
      have hne : ((Q.length : Int) == (Q.length : Int) + 1) = false := by rw [beq_eq_false_iff_ne]; omega
      have h3b : (x.1.tmod 3 == 0) = true := by rw [beq_iff_eq]; exact h3
      obtain ⟨k, hk⟩ := HT.out h3 h4
      clear HT HG
      go_wp2_with fail
      refine (push_w Q x.1 x.2 _ _ (by omega) ho).mono ?_; rintro e w3 ⟨r3, rfl, ho3, hb3⟩
      clear h3 h3b h4 hd0 hd1 hmq hp hq
      rw [show pushF Q (x.1, x.2) = (Q, 8) from pushF_twice (wrongB_no (by omega) (by omega)) hk] at ho3 ⊢
      obtain ⟨rp, rc, rfl, hrc1, hrc2⟩ := ho3.shape
      obtain ⟨gs3, g⟩ := (hb1i.trans hb3).box
      have k0 := g 0 _ rfl
      have k1 := g 1 _ rfl
      clear g
      go_wp2_with fail
      refine (same_w Q Q _ _ _ (by omega) ho3 (ho.ext hb3)).mono ?_; rintro e w4 ⟨rfl, hb4⟩
      rw [decide_eq_true rfl]
      go_wp2
      go_ret
      exact ⟨rfl, hb0.trans (hb1i.trans (hb3.trans hb4))⟩

set_option maxHeartbeats 4000000 in
set_option maxRecDepth 100000 in
theorem full_3 (n : Int) (x : Ent) (w : World) (m : Nat) (hm : m ≤ 39) (hmq : n.tmod 40 = (m : Int)) (hp : 0 ≤ x.1) (hq : x.1 < 18446744073709551616)
    (h3 : x.1.tmod 3 = 0) (h4 : ¬ x.1.tdiv 3 < (fillF m).length) (p1 : x.2 < 0) :
    Calls Try.prog 8 #[.int .u8 n, .agg #[.int .u64 x.1, .int .i64 x.2]] w fun e w' => e = .returned (.bool true) ∧ Ext w w' := by
  have hb0 : Ext w (w.alloc (.cells #[.int .u64 x.1, .int .i64 x.2] 25)) := (Ext.refl w).alloc _
  go_enter Try.func8, Try.ntmps8
  go_wp2_with fail
  refine (examples_w _).mono ?_; rintro e w1 ⟨rfl, hb1⟩
  go_wp2
  go_loopw [6, 8] (fun r i' wr => ∃ i : Nat, i ≤ m ∧ i' = .int .i64 i ∧ Ext w1 wr ∧ Ents wr r (fillF i)) (fun _ i' _ => m - (intOf i').toNat)
  case atStart => exact ⟨0, by omega, rfl, Ext.refl _, Ents.nil _⟩
  case round =>
    obtain ⟨i, hi, rfl, hbi, ho⟩ := hrel
    by_cases hlt : i < m
    · have C := push_w (fillF i) ((i : Int) * 3) ((i : Int).tmod 10) _ _ (by have := fill_len (show i ≤ 40 by omega); omega) ho
      rw [show pushF (fillF i) ((i : Int) * 3, (i : Int).tmod 10) = _ from fill_push (show i ≤ 40 by omega)] at C
      by_cases h32 : i < 32
      · rw [if_pos h32] at C
        go_wp2_with fail
        refine C.mono ?_; rintro e w3 ⟨r3, rfl, ho3, hb3⟩
        go_wp2
        go_roundw
        case rel => exact ⟨i + 1, by omega, by go_num, hbi.trans hb3, ho3⟩
        case measure => simp [intOf]; omega
      · rw [if_neg h32] at C
        go_wp2_with fail
        refine C.mono ?_; rintro e w3 ⟨r3, rfl, ho3, hb3⟩
        go_wp2_with fail
        refine (same_w (fillF i) (fillF i) _ _ _ (by have := fill_len (show i ≤ 40 by omega); omega) ho3 (ho.ext hb3)).mono ?_; rintro e w4 ⟨rfl, hb4⟩
        rw [decide_eq_true rfl]
        go_wp2
        go_roundw
        case rel => exact ⟨i + 1, by omega, by go_num, hbi.trans (hb3.trans hb4), by rw [fill_full (by omega) h32]; exact ho3.ext hb4⟩
        case measure => simp [intOf]; omega
    · obtain rfl : i = m := by omega
      have hQl : (fillF i).length ≤ 32 := by have := fill_len (show i ≤ 40 by omega); omega
      have HT := Lib.hid (fun h3 h4 => fill_there (show i ≤ 40 by omega) hp h3 h4)
      have HG := Lib.hid (fun h => fill_gone (id := x.1) (show i ≤ 40 by omega) h)
      generalize fillF i = Q at *
      have hd0 : 0 ≤ x.1.tdiv 3 := Int.tdiv_nonneg hp (by omega)
      have hd1 : x.1.tdiv 3 < 18446744073709551616 := by
        have h1 := Int.tmod_add_mul_tdiv x.1 3
        have h2 := Int.tmod_nonneg 3 hp
        omega
      obtain ⟨rq, rcap, rfl, hrcap, hrcm⟩ := ho.shape
      have hb1i := hb1.trans hbi
      obtain ⟨gs, g⟩ := hb1i.box
      have g0 := g 0 _ rfl
      have g1 := g 1 _ rfl
      clear g
      have hne : ((Q.length : Int) == (Q.length : Int) + 1) = false := by rw [beq_eq_false_iff_ne]; omega
      have h3b : (x.1.tmod 3 == 0) = true := by rw [beq_iff_eq]; exact h3
      have hno := HG.out (Or.inr (by omega))
      clear HT HG
      go_wp2_with fail
      refine (push_w Q x.1 x.2 _ _ (by omega) ho).mono ?_; rintro e w3 ⟨r3, rfl, ho3, hb3⟩
      clear hmq hp hq
      rw [show pushF Q (x.1, x.2) = (Q, 1) from pushF_arg (wrongB_low p1)] at ho3 ⊢
      obtain ⟨rp, rc, rfl, hrc1, hrc2⟩ := ho3.shape
      obtain ⟨gs3, g⟩ := (hb1i.trans hb3).box
      have k0 := g 0 _ rfl
      have k1 := g 1 _ rfl
      clear g
      go_wp2_with fail
      refine (same_w Q Q _ _ _ (by omega) ho3 (ho.ext hb3)).mono ?_; rintro e w4 ⟨rfl, hb4⟩
      rw [decide_eq_true rfl]
      go_wp2
      go_ret
      exact ⟨rfl, hb0.trans (hb1i.trans (hb3.trans hb4))⟩

set_option maxHeartbeats 4000000 in
set_option maxRecDepth 100000 in
theorem full_4 (n : Int) (x : Ent) (w : World) (m : Nat) (hm : m ≤ 39) (hmq : n.tmod 40 = (m : Int)) (hp : 0 ≤ x.1) (hq : x.1 < 18446744073709551616)
    (h3 : x.1.tmod 3 = 0) (h4 : ¬ x.1.tdiv 3 < (fillF m).length) (p1 : ¬ x.2 < 0) (p2 : 9 < x.2) :
    Calls Try.prog 8 #[.int .u8 n, .agg #[.int .u64 x.1, .int .i64 x.2]] w fun e w' => e = .returned (.bool true) ∧ Ext w w' := by
  have hb0 : Ext w (w.alloc (.cells #[.int .u64 x.1, .int .i64 x.2] 25)) := (Ext.refl w).alloc _
  go_enter Try.func8, Try.ntmps8
  go_wp2_with fail
  refine (examples_w _).mono ?_; rintro e w1 ⟨rfl, hb1⟩
  go_wp2
  go_loopw [6, 8] (fun r i' wr => ∃ i : Nat, i ≤ m ∧ i' = .int .i64 i ∧ Ext w1 wr ∧ Ents wr r (fillF i)) (fun _ i' _ => m - (intOf i').toNat)
  case atStart => exact ⟨0, by omega, rfl, Ext.refl _, Ents.nil _⟩
  case round =>
    obtain ⟨i, hi, rfl, hbi, ho⟩ := hrel
    by_cases hlt : i < m
    · have C := push_w (fillF i) ((i : Int) * 3) ((i : Int).tmod 10) _ _ (by have := fill_len (show i ≤ 40 by omega); omega) ho
      rw [show pushF (fillF i) ((i : Int) * 3, (i : Int).tmod 10) = _ from fill_push (show i ≤ 40 by omega)] at C
      by_cases h32 : i < 32
      · rw [if_pos h32] at C
        go_wp2_with fail
        refine C.mono ?_; rintro e w3 ⟨r3, rfl, ho3, hb3⟩
        go_wp2
        go_roundw
        case rel => exact ⟨i + 1, by omega, by go_num, hbi.trans hb3, ho3⟩
        case measure => simp [intOf]; omega
      · rw [if_neg h32] at C
        go_wp2_with fail
        refine C.mono ?_; rintro e w3 ⟨r3, rfl, ho3, hb3⟩
        go_wp2_with fail
        refine (same_w (fillF i) (fillF i) _ _ _ (by have := fill_len (show i ≤ 40 by omega); omega) ho3 (ho.ext hb3)).mono ?_; rintro e w4 ⟨rfl, hb4⟩
        rw [decide_eq_true rfl]
        go_wp2
        go_roundw
        case rel => exact ⟨i + 1, by omega, by go_num, hbi.trans (hb3.trans hb4), by rw [fill_full (by omega) h32]; exact ho3.ext hb4⟩
        case measure => simp [intOf]; omega
    · obtain rfl : i = m := by omega
      have hQl : (fillF i).length ≤ 32 := by have := fill_len (show i ≤ 40 by omega); omega
      have HT := Lib.hid (fun h3 h4 => fill_there (show i ≤ 40 by omega) hp h3 h4)
      have HG := Lib.hid (fun h => fill_gone (id := x.1) (show i ≤ 40 by omega) h)
      generalize fillF i = Q at *
      have hd0 : 0 ≤ x.1.tdiv 3 := Int.tdiv_nonneg hp (by omega)
      have hd1 : x.1.tdiv 3 < 18446744073709551616 := by
        have h1 := Int.tmod_add_mul_tdiv x.1 3
        have h2 := Int.tmod_nonneg 3 hp
        omega
      obtain ⟨rq, rcap, rfl, hrcap, hrcm⟩ := ho.shape
      have hb1i := hb1.trans hbi
      obtain ⟨gs, g⟩ := hb1i.box
      have g0 := g 0 _ rfl
      have g1 := g 1 _ rfl
      clear g
      have hne : ((Q.length : Int) == (Q.length : Int) + 1) = false := by rw [beq_eq_false_iff_ne]; omega
      have h3b : (x.1.tmod 3 == 0) = true := by rw [beq_iff_eq]; exact h3
      have hno := HG.out (Or.inr (by omega))
      clear HT HG
      go_wp2_with fail
      refine (push_w Q x.1 x.2 _ _ (by omega) ho).mono ?_; rintro e w3 ⟨r3, rfl, ho3, hb3⟩
      clear hmq hp hq
      rw [show pushF Q (x.1, x.2) = (Q, 1) from pushF_arg (wrongB_high p2)] at ho3 ⊢
      obtain ⟨rp, rc, rfl, hrc1, hrc2⟩ := ho3.shape
      obtain ⟨gs3, g⟩ := (hb1i.trans hb3).box
      have k0 := g 0 _ rfl
      have k1 := g 1 _ rfl
      clear g
      go_wp2_with fail
      refine (same_w Q Q _ _ _ (by omega) ho3 (ho.ext hb3)).mono ?_; rintro e w4 ⟨rfl, hb4⟩
      rw [decide_eq_true rfl]
      go_wp2
      go_ret
      exact ⟨rfl, hb0.trans (hb1i.trans (hb3.trans hb4))⟩

set_option maxHeartbeats 4000000 in
set_option maxRecDepth 100000 in
theorem full_5 (n : Int) (x : Ent) (w : World) (m : Nat) (hm : m ≤ 39) (hmq : n.tmod 40 = (m : Int)) (hp : 0 ≤ x.1) (hq : x.1 < 18446744073709551616)
    (h3 : x.1.tmod 3 = 0) (h4 : ¬ x.1.tdiv 3 < (fillF m).length) (p1 : ¬ x.2 < 0) (p2 : ¬ 9 < x.2) (h5 : (fillF m).length = 32) :
    Calls Try.prog 8 #[.int .u8 n, .agg #[.int .u64 x.1, .int .i64 x.2]] w fun e w' => e = .returned (.bool true) ∧ Ext w w' := by
  have hb0 : Ext w (w.alloc (.cells #[.int .u64 x.1, .int .i64 x.2] 25)) := (Ext.refl w).alloc _
  go_enter Try.func8, Try.ntmps8
  go_wp2_with fail
  refine (examples_w _).mono ?_; rintro e w1 ⟨rfl, hb1⟩
  go_wp2
  go_loopw [6, 8] (fun r i' wr => ∃ i : Nat, i ≤ m ∧ i' = .int .i64 i ∧ Ext w1 wr ∧ Ents wr r (fillF i)) (fun _ i' _ => m - (intOf i').toNat)
  case atStart => exact ⟨0, by omega, rfl, Ext.refl _, Ents.nil _⟩
  case round =>
    obtain ⟨i, hi, rfl, hbi, ho⟩ := hrel
    by_cases hlt : i < m
    · have C := push_w (fillF i) ((i : Int) * 3) ((i : Int).tmod 10) _ _ (by have := fill_len (show i ≤ 40 by omega); omega) ho
      rw [show pushF (fillF i) ((i : Int) * 3, (i : Int).tmod 10) = _ from fill_push (show i ≤ 40 by omega)] at C
      by_cases h32 : i < 32
      · rw [if_pos h32] at C
        go_wp2_with fail
        refine C.mono ?_; rintro e w3 ⟨r3, rfl, ho3, hb3⟩
        go_wp2
        go_roundw
        case rel => exact ⟨i + 1, by omega, by go_num, hbi.trans hb3, ho3⟩
        case measure => simp [intOf]; omega
      · rw [if_neg h32] at C
        go_wp2_with fail
        refine C.mono ?_; rintro e w3 ⟨r3, rfl, ho3, hb3⟩
        go_wp2_with fail
        refine (same_w (fillF i) (fillF i) _ _ _ (by have := fill_len (show i ≤ 40 by omega); omega) ho3 (ho.ext hb3)).mono ?_; rintro e w4 ⟨rfl, hb4⟩
        rw [decide_eq_true rfl]
        go_wp2
        go_roundw
        case rel => exact ⟨i + 1, by omega, by go_num, hbi.trans (hb3.trans hb4), by rw [fill_full (by omega) h32]; exact ho3.ext hb4⟩
        case measure => simp [intOf]; omega
    · obtain rfl : i = m := by omega
      have hQl : (fillF i).length ≤ 32 := by have := fill_len (show i ≤ 40 by omega); omega
      have HT := Lib.hid (fun h3 h4 => fill_there (show i ≤ 40 by omega) hp h3 h4)
      have HG := Lib.hid (fun h => fill_gone (id := x.1) (show i ≤ 40 by omega) h)
      generalize fillF i = Q at *
      have hd0 : 0 ≤ x.1.tdiv 3 := Int.tdiv_nonneg hp (by omega)
      have hd1 : x.1.tdiv 3 < 18446744073709551616 := by
        have h1 := Int.tmod_add_mul_tdiv x.1 3
        have h2 := Int.tmod_nonneg 3 hp
        omega
      obtain ⟨rq, rcap, rfl, hrcap, hrcm⟩ := ho.shape
      have hb1i := hb1.trans hbi
      obtain ⟨gs, g⟩ := hb1i.box
      have g0 := g 0 _ rfl
      have g1 := g 1 _ rfl
      clear g
      have hne : ((Q.length : Int) == (Q.length : Int) + 1) = false := by rw [beq_eq_false_iff_ne]; omega
      have h3b : (x.1.tmod 3 == 0) = true := by rw [beq_iff_eq]; exact h3
      have hno := HG.out (Or.inr (by omega))
      clear HT HG
      have h5b : ((Q.length : Int) == 32) = true := by rw [beq_iff_eq]; omega
      have HP := Lib.hid (pushF_full (wrongB_no (e := x) (by omega) (by omega)) hno (by omega))
      clear h5
      go_wp2_with fail
      refine (push_w Q x.1 x.2 _ _ (by omega) ho).mono ?_; rintro e w3 ⟨r3, rfl, ho3, hb3⟩
      clear hmq hp hq
      rw [show pushF Q (x.1, x.2) = (Q, 9) from HP.out] at ho3 ⊢
      obtain ⟨rp, rc, rfl, hrc1, hrc2⟩ := ho3.shape
      obtain ⟨gs3, g⟩ := (hb1i.trans hb3).box
      have k0 := g 0 _ rfl
      have k1 := g 1 _ rfl
      clear g
      go_wp2_with fail
      refine (same_w Q Q _ _ _ (by omega) ho3 (ho.ext hb3)).mono ?_; rintro e w4 ⟨rfl, hb4⟩
      rw [decide_eq_true rfl]
      go_wp2
      go_ret
      exact ⟨rfl, hb0.trans (hb1i.trans (hb3.trans hb4))⟩

set_option maxHeartbeats 4000000 in
set_option maxRecDepth 100000 in
theorem full_6 (n : Int) (x : Ent) (w : World) (m : Nat) (hm : m ≤ 39) (hmq : n.tmod 40 = (m : Int)) (hp : 0 ≤ x.1) (hq : x.1 < 18446744073709551616)
    (h3 : x.1.tmod 3 = 0) (h4 : ¬ x.1.tdiv 3 < (fillF m).length) (p1 : ¬ x.2 < 0) (p2 : ¬ 9 < x.2) (h5 : ¬ (fillF m).length = 32) :
    Calls Try.prog 8 #[.int .u8 n, .agg #[.int .u64 x.1, .int .i64 x.2]] w fun e w' => e = .returned (.bool true) ∧ Ext w w' := by
  have hb0 : Ext w (w.alloc (.cells #[.int .u64 x.1, .int .i64 x.2] 25)) := (Ext.refl w).alloc _
  go_enter Try.func8, Try.ntmps8
  go_wp2_with fail
  refine (examples_w _).mono ?_; rintro e w1 ⟨rfl, hb1⟩
  go_wp2
  go_loopw [6, 8] (fun r i' wr => ∃ i : Nat, i ≤ m ∧ i' = .int .i64 i ∧ Ext w1 wr ∧ Ents wr r (fillF i)) (fun _ i' _ => m - (intOf i').toNat)
  case atStart => exact ⟨0, by omega, rfl, Ext.refl _, Ents.nil _⟩
  case round =>
    obtain ⟨i, hi, rfl, hbi, ho⟩ := hrel
    by_cases hlt : i < m
    · have C := push_w (fillF i) ((i : Int) * 3) ((i : Int).tmod 10) _ _ (by have := fill_len (show i ≤ 40 by omega); omega) ho
      rw [show pushF (fillF i) ((i : Int) * 3, (i : Int).tmod 10) = _ from fill_push (show i ≤ 40 by omega)] at C
      by_cases h32 : i < 32
      · rw [if_pos h32] at C
        go_wp2_with fail
        refine C.mono ?_; rintro e w3 ⟨r3, rfl, ho3, hb3⟩
        go_wp2
        go_roundw
        case rel => exact ⟨i + 1, by omega, by go_num, hbi.trans hb3, ho3⟩
        case measure => simp [intOf]; omega
      · rw [if_neg h32] at C
        go_wp2_with fail
        refine C.mono ?_; rintro e w3 ⟨r3, rfl, ho3, hb3⟩
        go_wp2_with fail
        refine (same_w (fillF i) (fillF i) _ _ _ (by have := fill_len (show i ≤ 40 by omega); omega) ho3 (ho.ext hb3)).mono ?_; rintro e w4 ⟨rfl, hb4⟩
        rw [decide_eq_true rfl]
        go_wp2
        go_roundw
        case rel => exact ⟨i + 1, by omega, by go_num, hbi.trans (hb3.trans hb4), by rw [fill_full (by omega) h32]; exact ho3.ext hb4⟩
        case measure => simp [intOf]; omega
    · obtain rfl : i = m := by omega
      have hQl : (fillF i).length ≤ 32 := by have := fill_len (show i ≤ 40 by omega); omega
      have HT := Lib.hid (fun h3 h4 => fill_there (show i ≤ 40 by omega) hp h3 h4)
      have HG := Lib.hid (fun h => fill_gone (id := x.1) (show i ≤ 40 by omega) h)
      generalize fillF i = Q at *
      have hd0 : 0 ≤ x.1.tdiv 3 := Int.tdiv_nonneg hp (by omega)
      have hd1 : x.1.tdiv 3 < 18446744073709551616 := by
        have h1 := Int.tmod_add_mul_tdiv x.1 3
        have h2 := Int.tmod_nonneg 3 hp
        omega
      obtain ⟨rq, rcap, rfl, hrcap, hrcm⟩ := ho.shape
      have hb1i := hb1.trans hbi
      obtain ⟨gs, g⟩ := hb1i.box
      have g0 := g 0 _ rfl
      have g1 := g 1 _ rfl
      clear g
      have hne : ((Q.length : Int) == (Q.length : Int) + 1) = false := by rw [beq_eq_false_iff_ne]; omega
      have h3b : (x.1.tmod 3 == 0) = true := by rw [beq_iff_eq]; exact h3
      have hno := HG.out (Or.inr (by omega))
      clear HT HG
      have h5b : ((Q.length : Int) == 32) = false := by rw [beq_eq_false_iff_ne]; omega
      have HR : (pushF Q (x.1, x.2)).2 = 0 ∧ (pushF Q (x.1, x.2)).1.length = Q.length + 1 := by
        rw [pushF_ok (wrongB_no (by omega) (by omega)) hno (by omega)]
        have := placeF_le (x.1, x.2) Q
        refine ⟨rfl, ?_⟩
        simp only [List.length_append, List.length_take, List.length_cons, List.length_drop]; omega
      go_wp2_with fail
      refine (push_w Q x.1 x.2 _ _ (by omega) ho).mono ?_; rintro e w3 ⟨r3, rfl, ho3, hb3⟩
      clear hmq hp hq
      rw [HR.1]
      generalize (pushF Q (x.1, x.2)).1 = R at ho3 HR
      have hRl := HR.2
      clear HR
      obtain ⟨rp, rc, rfl, hrc1, hrc2⟩ := ho3.shape
      have hRb : ((R.length : Int) == (Q.length : Int) + 1) = true := by rw [beq_iff_eq]; omega
      obtain ⟨gs3, g⟩ := (hb1i.trans hb3).box
      have k0 := g 0 _ rfl
      have k1 := g 1 _ rfl
      clear g
      go_wp2
      go_ret
      exact ⟨rfl, hb0.trans (hb1i.trans hb3)⟩

set_option maxHeartbeats 4000000 in
set_option maxRecDepth 100000 in
theorem full_7 (n : Int) (x : Ent) (w : World) (m : Nat) (hm : m ≤ 39) (hmq : n.tmod 40 = (m : Int)) (hp : 0 ≤ x.1) (hq : x.1 < 18446744073709551616)
    (h3 : ¬ x.1.tmod 3 = 0) (p1 : x.2 < 0) :
    Calls Try.prog 8 #[.int .u8 n, .agg #[.int .u64 x.1, .int .i64 x.2]] w fun e w' => e = .returned (.bool true) ∧ Ext w w' := by
  have hb0 : Ext w (w.alloc (.cells #[.int .u64 x.1, .int .i64 x.2] 25)) := (Ext.refl w).alloc _
  go_enter Try.func8, Try.ntmps8
  go_wp2_with fail
  refine (examples_w _).mono ?_; rintro e w1 ⟨rfl, hb1⟩
  go_wp2
  go_loopw [6, 8] (fun r i' wr => ∃ i : Nat, i ≤ m ∧ i' = .int .i64 i ∧ Ext w1 wr ∧ Ents wr r (fillF i)) (fun _ i' _ => m - (intOf i').toNat)
  case atStart => exact ⟨0, by omega, rfl, Ext.refl _, Ents.nil _⟩
  case round =>
    obtain ⟨i, hi, rfl, hbi, ho⟩ := hrel
    by_cases hlt : i < m
    · have C := push_w (fillF i) ((i : Int) * 3) ((i : Int).tmod 10) _ _ (by have := fill_len (show i ≤ 40 by omega); omega) ho
      rw [show pushF (fillF i) ((i : Int) * 3, (i : Int).tmod 10) = _ from fill_push (show i ≤ 40 by omega)] at C
      by_cases h32 : i < 32
      · rw [if_pos h32] at C
        go_wp2_with fail
        refine C.mono ?_; rintro e w3 ⟨r3, rfl, ho3, hb3⟩
        go_wp2
        go_roundw
        case rel => exact ⟨i + 1, by omega, by go_num, hbi.trans hb3, ho3⟩
        case measure => simp [intOf]; omega
      · rw [if_neg h32] at C
        go_wp2_with fail
        refine C.mono ?_; rintro e w3 ⟨r3, rfl, ho3, hb3⟩
        go_wp2_with fail
        refine (same_w (fillF i) (fillF i) _ _ _ (by have := fill_len (show i ≤ 40 by omega); omega) ho3 (ho.ext hb3)).mono ?_; rintro e w4 ⟨rfl, hb4⟩
        rw [decide_eq_true rfl]
        go_wp2
        go_roundw
        case rel => exact ⟨i + 1, by omega, by go_num, hbi.trans (hb3.trans hb4), by rw [fill_full (by omega) h32]; exact ho3.ext hb4⟩
        case measure => simp [intOf]; omega
    · obtain rfl : i = m := by omega
      have hQl : (fillF i).length ≤ 32 := by have := fill_len (show i ≤ 40 by omega); omega
      have HT := Lib.hid (fun h3 h4 => fill_there (show i ≤ 40 by omega) hp h3 h4)
      have HG := Lib.hid (fun h => fill_gone (id := x.1) (show i ≤ 40 by omega) h)
      generalize fillF i = Q at *
      have hd0 : 0 ≤ x.1.tdiv 3 := Int.tdiv_nonneg hp (by omega)
      have hd1 : x.1.tdiv 3 < 18446744073709551616 := by
        have h1 := Int.tmod_add_mul_tdiv x.1 3
        have h2 := Int.tmod_nonneg 3 hp
        omega
      obtain ⟨rq, rcap, rfl, hrcap, hrcm⟩ := ho.shape
      have hb1i := hb1.trans hbi
      obtain ⟨gs, g⟩ := hb1i.box
      have g0 := g 0 _ rfl
      have g1 := g 1 _ rfl
      clear g
      have hne : ((Q.length : Int) == (Q.length : Int) + 1) = false := by rw [beq_eq_false_iff_ne]; omega
      have h3b : (x.1.tmod 3 == 0) = false := by rw [beq_eq_false_iff_ne]; exact h3
      have hno := HG.out (Or.inl h3)
      have h3e : ¬ x.1 % 3 = 0 := by rw [← Int.tmod_eq_emod_of_nonneg hp]; exact h3
      clear HT HG
      go_wp2_with fail
      refine (push_w Q x.1 x.2 _ _ (by omega) ho).mono ?_; rintro e w3 ⟨r3, rfl, ho3, hb3⟩
      clear hd0 hd1 hmq hp hq
      rw [show pushF Q (x.1, x.2) = (Q, 1) from pushF_arg (wrongB_low p1)] at ho3 ⊢
      obtain ⟨rp, rc, rfl, hrc1, hrc2⟩ := ho3.shape
      obtain ⟨gs3, g⟩ := (hb1i.trans hb3).box
      have k0 := g 0 _ rfl
      have k1 := g 1 _ rfl
      clear g
      go_wp2_with fail
      refine (same_w Q Q _ _ _ (by omega) ho3 (ho.ext hb3)).mono ?_; rintro e w4 ⟨rfl, hb4⟩
      rw [decide_eq_true rfl]
      go_wp2
      go_ret
      exact ⟨rfl, hb0.trans (hb1i.trans (hb3.trans hb4))⟩

set_option maxHeartbeats 4000000 in
set_option maxRecDepth 100000 in
theorem full_8 (n : Int) (x : Ent) (w : World) (m : Nat) (hm : m ≤ 39) (hmq : n.tmod 40 = (m : Int)) (hp : 0 ≤ x.1) (hq : x.1 < 18446744073709551616)
    (h3 : ¬ x.1.tmod 3 = 0) (p1 : ¬ x.2 < 0) (p2 : 9 < x.2) :
    Calls Try.prog 8 #[.int .u8 n, .agg #[.int .u64 x.1, .int .i64 x.2]] w fun e w' => e = .returned (.bool true) ∧ Ext w w' := by
  have hb0 : Ext w (w.alloc (.cells #[.int .u64 x.1, .int .i64 x.2] 25)) := (Ext.refl w).alloc _
  go_enter Try.func8, Try.ntmps8
  go_wp2_with fail
  refine (examples_w _).mono ?_; rintro e w1 ⟨rfl, hb1⟩
  go_wp2
  go_loopw [6, 8] (fun r i' wr => ∃ i : Nat, i ≤ m ∧ i' = .int .i64 i ∧ Ext w1 wr ∧ Ents wr r (fillF i)) (fun _ i' _ => m - (intOf i').toNat)
  case atStart => exact ⟨0, by omega, rfl, Ext.refl _, Ents.nil _⟩
  case round =>
    obtain ⟨i, hi, rfl, hbi, ho⟩ := hrel
    by_cases hlt : i < m
    · have C := push_w (fillF i) ((i : Int) * 3) ((i : Int).tmod 10) _ _ (by have := fill_len (show i ≤ 40 by omega); omega) ho
      rw [show pushF (fillF i) ((i : Int) * 3, (i : Int).tmod 10) = _ from fill_push (show i ≤ 40 by omega)] at C
      by_cases h32 : i < 32
      · rw [if_pos h32] at C
        go_wp2_with fail
        refine C.mono ?_; rintro e w3 ⟨r3, rfl, ho3, hb3⟩
        go_wp2
        go_roundw
        case rel => exact ⟨i + 1, by omega, by go_num, hbi.trans hb3, ho3⟩
        case measure => simp [intOf]; omega
      · rw [if_neg h32] at C
        go_wp2_with fail
        refine C.mono ?_; rintro e w3 ⟨r3, rfl, ho3, hb3⟩
        go_wp2_with fail
        refine (same_w (fillF i) (fillF i) _ _ _ (by have := fill_len (show i ≤ 40 by omega); omega) ho3 (ho.ext hb3)).mono ?_; rintro e w4 ⟨rfl, hb4⟩
        rw [decide_eq_true rfl]
        go_wp2
        go_roundw
        case rel => exact ⟨i + 1, by omega, by go_num, hbi.trans (hb3.trans hb4), by rw [fill_full (by omega) h32]; exact ho3.ext hb4⟩
        case measure => simp [intOf]; omega
    · obtain rfl : i = m := by omega
      have hQl : (fillF i).length ≤ 32 := by have := fill_len (show i ≤ 40 by omega); omega
      have HT := Lib.hid (fun h3 h4 => fill_there (show i ≤ 40 by omega) hp h3 h4)
      have HG := Lib.hid (fun h => fill_gone (id := x.1) (show i ≤ 40 by omega) h)
      generalize fillF i = Q at *
      have hd0 : 0 ≤ x.1.tdiv 3 := Int.tdiv_nonneg hp (by omega)
      have hd1 : x.1.tdiv 3 < 18446744073709551616 := by
        have h1 := Int.tmod_add_mul_tdiv x.1 3
        have h2 := Int.tmod_nonneg 3 hp
        omega
      obtain ⟨rq, rcap, rfl, hrcap, hrcm⟩ := ho.shape
      have hb1i := hb1.trans hbi
      obtain ⟨gs, g⟩ := hb1i.box
      have g0 := g 0 _ rfl
      have g1 := g 1 _ rfl
      clear g
      have hne : ((Q.length : Int) == (Q.length : Int) + 1) = false := by rw [beq_eq_false_iff_ne]; omega
      have h3b : (x.1.tmod 3 == 0) = false := by rw [beq_eq_false_iff_ne]; exact h3
      have hno := HG.out (Or.inl h3)
      have h3e : ¬ x.1 % 3 = 0 := by rw [← Int.tmod_eq_emod_of_nonneg hp]; exact h3
      clear HT HG
      go_wp2_with fail
      refine (push_w Q x.1 x.2 _ _ (by omega) ho).mono ?_; rintro e w3 ⟨r3, rfl, ho3, hb3⟩
      clear hd0 hd1 hmq hp hq
      rw [show pushF Q (x.1, x.2) = (Q, 1) from pushF_arg (wrongB_high p2)] at ho3 ⊢
      obtain ⟨rp, rc, rfl, hrc1, hrc2⟩ := ho3.shape
      obtain ⟨gs3, g⟩ := (hb1i.trans hb3).box
      have k0 := g 0 _ rfl
      have k1 := g 1 _ rfl
      clear g
      go_wp2_with fail
      refine (same_w Q Q _ _ _ (by omega) ho3 (ho.ext hb3)).mono ?_; rintro e w4 ⟨rfl, hb4⟩
      rw [decide_eq_true rfl]
      go_wp2
      go_ret
      exact ⟨rfl, hb0.trans (hb1i.trans (hb3.trans hb4))⟩

set_option maxHeartbeats 4000000 in
set_option maxRecDepth 100000 in
theorem full_9 (n : Int) (x : Ent) (w : World) (m : Nat) (hm : m ≤ 39) (hmq : n.tmod 40 = (m : Int)) (hp : 0 ≤ x.1) (hq : x.1 < 18446744073709551616)
    (h3 : ¬ x.1.tmod 3 = 0) (p1 : ¬ x.2 < 0) (p2 : ¬ 9 < x.2) (h5 : (fillF m).length = 32) :
    Calls Try.prog 8 #[.int .u8 n, .agg #[.int .u64 x.1, .int .i64 x.2]] w fun e w' => e = .returned (.bool true) ∧ Ext w w' := by
  have hb0 : Ext w (w.alloc (.cells #[.int .u64 x.1, .int .i64 x.2] 25)) := (Ext.refl w).alloc _
  go_enter Try.func8, Try.ntmps8
  go_wp2_with fail
  refine (examples_w _).mono ?_; rintro e w1 ⟨rfl, hb1⟩
  go_wp2
  go_loopw [6, 8] (fun r i' wr => ∃ i : Nat, i ≤ m ∧ i' = .int .i64 i ∧ Ext w1 wr ∧ Ents wr r (fillF i)) (fun _ i' _ => m - (intOf i').toNat)
  case atStart => exact ⟨0, by omega, rfl, Ext.refl _, Ents.nil _⟩
  case round =>
    obtain ⟨i, hi, rfl, hbi, ho⟩ := hrel
    by_cases hlt : i < m
    · have C := push_w (fillF i) ((i : Int) * 3) ((i : Int).tmod 10) _ _ (by have := fill_len (show i ≤ 40 by omega); omega) ho
      rw [show pushF (fillF i) ((i : Int) * 3, (i : Int).tmod 10) = _ from fill_push (show i ≤ 40 by omega)] at C
      by_cases h32 : i < 32
      · rw [if_pos h32] at C
        go_wp2_with fail
        refine C.mono ?_; rintro e w3 ⟨r3, rfl, ho3, hb3⟩
        go_wp2
        go_roundw
        case rel => exact ⟨i + 1, by omega, by go_num, hbi.trans hb3, ho3⟩
        case measure => simp [intOf]; omega
      · rw [if_neg h32] at C
        go_wp2_with fail
        refine C.mono ?_; rintro e w3 ⟨r3, rfl, ho3, hb3⟩
        go_wp2_with fail
        refine (same_w (fillF i) (fillF i) _ _ _ (by have := fill_len (show i ≤ 40 by omega); omega) ho3 (ho.ext hb3)).mono ?_; rintro e w4 ⟨rfl, hb4⟩
        rw [decide_eq_true rfl]
        go_wp2
        go_roundw
        case rel => exact ⟨i + 1, by omega, by go_num, hbi.trans (hb3.trans hb4), by rw [fill_full (by omega) h32]; exact ho3.ext hb4⟩
        case measure => simp [intOf]; omega
    · obtain rfl : i = m := by omega
      have hQl : (fillF i).length ≤ 32 := by have := fill_len (show i ≤ 40 by omega); omega
      have HT := Lib.hid (fun h3 h4 => fill_there (show i ≤ 40 by omega) hp h3 h4)
      have HG := Lib.hid (fun h => fill_gone (id := x.1) (show i ≤ 40 by omega) h)
      generalize fillF i = Q at *
      have hd0 : 0 ≤ x.1.tdiv 3 := Int.tdiv_nonneg hp (by omega)
      have hd1 : x.1.tdiv 3 < 18446744073709551616 := by
        have h1 := Int.tmod_add_mul_tdiv x.1 3
        have h2 := Int.tmod_nonneg 3 hp
        omega
      obtain ⟨rq, rcap, rfl, hrcap, hrcm⟩ := ho.shape
      have hb1i := hb1.trans hbi
      obtain ⟨gs, g⟩ := hb1i.box
      have g0 := g 0 _ rfl
      have g1 := g 1 _ rfl
      clear g
      have hne : ((Q.length : Int) == (Q.length : Int) + 1) = false := by rw [beq_eq_false_iff_ne]; omega
      have h3b : (x.1.tmod 3 == 0) = false := by rw [beq_eq_false_iff_ne]; exact h3
      have hno := HG.out (Or.inl h3)
      have h3e : ¬ x.1 % 3 = 0 := by rw [← Int.tmod_eq_emod_of_nonneg hp]; exact h3
      clear HT HG
      have h5b : ((Q.length : Int) == 32) = true := by rw [beq_iff_eq]; omega
      have HP := Lib.hid (pushF_full (wrongB_no (e := x) (by omega) (by omega)) hno (by omega))
      clear h5
      go_wp2_with fail
      refine (push_w Q x.1 x.2 _ _ (by omega) ho).mono ?_; rintro e w3 ⟨r3, rfl, ho3, hb3⟩
      clear hd0 hd1 hmq hp hq
      rw [show pushF Q (x.1, x.2) = (Q, 9) from HP.out] at ho3 ⊢
      obtain ⟨rp, rc, rfl, hrc1, hrc2⟩ := ho3.shape
      obtain ⟨gs3, g⟩ := (hb1i.trans hb3).box
      have k0 := g 0 _ rfl
      have k1 := g 1 _ rfl
      clear g
      go_wp2_with fail
      refine (same_w Q Q _ _ _ (by omega) ho3 (ho.ext hb3)).mono ?_; rintro e w4 ⟨rfl, hb4⟩
      rw [decide_eq_true rfl]
      go_wp2
      go_ret
      exact ⟨rfl, hb0.trans (hb1i.trans (hb3.trans hb4))⟩

set_option maxHeartbeats 4000000 in
set_option maxRecDepth 100000 in
theorem full_10 (n : Int) (x : Ent) (w : World) (m : Nat) (hm : m ≤ 39) (hmq : n.tmod 40 = (m : Int)) (hp : 0 ≤ x.1) (hq : x.1 < 18446744073709551616)
    (h3 : ¬ x.1.tmod 3 = 0) (p1 : ¬ x.2 < 0) (p2 : ¬ 9 < x.2) (h5 : ¬ (fillF m).length = 32) :
    Calls Try.prog 8 #[.int .u8 n, .agg #[.int .u64 x.1, .int .i64 x.2]] w fun e w' => e = .returned (.bool true) ∧ Ext w w' := by
  have hb0 : Ext w (w.alloc (.cells #[.int .u64 x.1, .int .i64 x.2] 25)) := (Ext.refl w).alloc _
  go_enter Try.func8, Try.ntmps8
  go_wp2_with fail
  refine (examples_w _).mono ?_; rintro e w1 ⟨rfl, hb1⟩
  go_wp2
  go_loopw [6, 8] (fun r i' wr => ∃ i : Nat, i ≤ m ∧ i' = .int .i64 i ∧ Ext w1 wr ∧ Ents wr r (fillF i)) (fun _ i' _ => m - (intOf i').toNat)
  case atStart => exact ⟨0, by omega, rfl, Ext.refl _, Ents.nil _⟩
  case round =>
    obtain ⟨i, hi, rfl, hbi, ho⟩ := hrel
    by_cases hlt : i < m
    · have C := push_w (fillF i) ((i : Int) * 3) ((i : Int).tmod 10) _ _ (by have := fill_len (show i ≤ 40 by omega); omega) ho
      rw [show pushF (fillF i) ((i : Int) * 3, (i : Int).tmod 10) = _ from fill_push (show i ≤ 40 by omega)] at C
      by_cases h32 : i < 32
      · rw [if_pos h32] at C
        go_wp2_with fail
        refine C.mono ?_; rintro e w3 ⟨r3, rfl, ho3, hb3⟩
        go_wp2
        go_roundw
        case rel => exact ⟨i + 1, by omega, by go_num, hbi.trans hb3, ho3⟩
        case measure => simp [intOf]; omega
      · rw [if_neg h32] at C
        go_wp2_with fail
        refine C.mono ?_; rintro e w3 ⟨r3, rfl, ho3, hb3⟩
        go_wp2_with fail
        refine (same_w (fillF i) (fillF i) _ _ _ (by have := fill_len (show i ≤ 40 by omega); omega) ho3 (ho.ext hb3)).mono ?_; rintro e w4 ⟨rfl, hb4⟩
        rw [decide_eq_true rfl]
        go_wp2
        go_roundw
        case rel => exact ⟨i + 1, by omega, by go_num, hbi.trans (hb3.trans hb4), by rw [fill_full (by omega) h32]; exact ho3.ext hb4⟩
        case measure => simp [intOf]; omega
    · obtain rfl : i = m := by omega
      have hQl : (fillF i).length ≤ 32 := by have := fill_len (show i ≤ 40 by omega); omega
      have HT := Lib.hid (fun h3 h4 => fill_there (show i ≤ 40 by omega) hp h3 h4)
      have HG := Lib.hid (fun h => fill_gone (id := x.1) (show i ≤ 40 by omega) h)
      generalize fillF i = Q at *
      have hd0 : 0 ≤ x.1.tdiv 3 := Int.tdiv_nonneg hp (by omega)
      have hd1 : x.1.tdiv 3 < 18446744073709551616 := by
        have h1 := Int.tmod_add_mul_tdiv x.1 3
        have h2 := Int.tmod_nonneg 3 hp
        omega
      obtain ⟨rq, rcap, rfl, hrcap, hrcm⟩ := ho.shape
      have hb1i := hb1.trans hbi
      obtain ⟨gs, g⟩ := hb1i.box
      have g0 := g 0 _ rfl
      have g1 := g 1 _ rfl
      clear g
      have hne : ((Q.length : Int) == (Q.length : Int) + 1) = false := by rw [beq_eq_false_iff_ne]; omega
      have h3b : (x.1.tmod 3 == 0) = false := by rw [beq_eq_false_iff_ne]; exact h3
      have hno := HG.out (Or.inl h3)
      have h3e : ¬ x.1 % 3 = 0 := by rw [← Int.tmod_eq_emod_of_nonneg hp]; exact h3
      clear HT HG
      have h5b : ((Q.length : Int) == 32) = false := by rw [beq_eq_false_iff_ne]; omega
      have HR : (pushF Q (x.1, x.2)).2 = 0 ∧ (pushF Q (x.1, x.2)).1.length = Q.length + 1 := by
        rw [pushF_ok (wrongB_no (by omega) (by omega)) hno (by omega)]
        have := placeF_le (x.1, x.2) Q
        refine ⟨rfl, ?_⟩
        simp only [List.length_append, List.length_take, List.length_cons, List.length_drop]; omega
      go_wp2_with fail
      refine (push_w Q x.1 x.2 _ _ (by omega) ho).mono ?_; rintro e w3 ⟨r3, rfl, ho3, hb3⟩
      clear hd0 hd1 hmq hp hq
      rw [HR.1]
      generalize (pushF Q (x.1, x.2)).1 = R at ho3 HR
      have hRl := HR.2
      clear HR
      obtain ⟨rp, rc, rfl, hrc1, hrc2⟩ := ho3.shape
      have hRb : ((R.length : Int) == (Q.length : Int) + 1) = true := by rw [beq_iff_eq]; omega
      obtain ⟨gs3, g⟩ := (hb1i.trans hb3).box
      have k0 := g 0 _ rfl
      have k1 := g 1 _ rfl
      clear g
      go_wp2
      go_ret
      exact ⟨rfl, hb0.trans (hb1i.trans hb3)⟩

theorem fullLaw_w (n : Int) (x : Ent) (w : World) (hn : 0 ≤ n ∧ n ≤ 255) (hp : 0 ≤ x.1) (hq : x.1 < 18446744073709551616) :
    Calls Try.prog 8 #[.int .u8 n, .agg #[.int .u64 x.1, .int .i64 x.2]] w fun e w' => e = .returned (.bool true) ∧ Ext w w' := by
  obtain ⟨m, hm, hmq⟩ : ∃ m : Nat, m ≤ 39 ∧ n.tmod 40 = (m : Int) := by
    refine ⟨(n.tmod 40).toNat, ?_, ?_⟩
    · have := Int.tmod_lt_of_pos n (show (0 : Int) < 40 by omega)
      omega
    · have := Int.tmod_nonneg 40 hn.1
      omega
  by_cases h3 : x.1.tmod 3 = 0
  · by_cases h4 : x.1.tdiv 3 < (fillF m).length
    · by_cases p1 : x.2 < 0
      · exact full_0 n x w m hm hmq hp hq h3 h4 p1
      · by_cases p2 : 9 < x.2
        · exact full_1 n x w m hm hmq hp hq h3 h4 p1 p2
        · exact full_2 n x w m hm hmq hp hq h3 h4 p1 p2
    · by_cases p1 : x.2 < 0
      · exact full_3 n x w m hm hmq hp hq h3 h4 p1
      · by_cases p2 : 9 < x.2
        · exact full_4 n x w m hm hmq hp hq h3 h4 p1 p2
        · by_cases h5 : (fillF m).length = 32
          · exact full_5 n x w m hm hmq hp hq h3 h4 p1 p2 h5
          · exact full_6 n x w m hm hmq hp hq h3 h4 p1 p2 h5
  · by_cases p1 : x.2 < 0
    · exact full_7 n x w m hm hmq hp hq h3 p1
    · by_cases p2 : 9 < x.2
      · exact full_8 n x w m hm hmq hp hq h3 p1 p2
      · by_cases h5 : (fillF m).length = 32
        · exact full_9 n x w m hm hmq hp hq h3 p1 p2 h5
        · exact full_10 n x w m hm hmq hp hq h3 p1 p2 h5

open Go.ChangeShapes Go.WideShapes Go.ChangeAt in
set_option maxRecDepth 100000 in
theorem queueFull_lifted (os : Os) (started : os.Started) (H : Type) (enc : TypeId × Value → H) :
    ReturnsInHanded {} Try.checked os 8 .any (Rows.queueFullSpec.pre6 enc Try.prog Try.f8 Rows.queueFullRow.domain false) (Rows.queueFullSpec.post enc Try.prog Try.f8 false true false false) := by
  refine returnsInHanded_of_change_sized (C := Try.checked) Try.own started (by kernel_rfl) Try.func8
    (ChangeSpec.witness6 (enc := enc) (C := Try.checked) false ⟨#[], #[.int .u8 0, .agg #[.int .u64 0, .int .i64 0]], []⟩ 8 (by kernel_rfl) (by kernel_rfl) (by kernel_rfl) (by kernel_rfl)) ?_
  intro W base args ds gs before hval0 hW hcnd hsz0 _
  have hsz : (DataW.weightsEach Try.prog (Try.f8.params.toList ++ Rows.queueFullSpec.plain.varTypes Try.prog) (ds ++ gs)).all (· ≤ reachBytes) = true := hsz0
  clear hsz0
  have hval : ∀ (j : Nat) t v, Try.f8.params[j]? = some t → args[j]? = some v → Value.okWide Try.prog W .any base t v := hval0
  have hW' := hW
  obtain ⟨p, q, hA0, hV, rfl, hfz, hnd⟩ := hW
  have hA : DataW.TrodAll enc Try.prog W 0 (fun _ => true) true Try.f8.params.toList args.toList ds p := hA0
  rw [Try.params8] at hA hval hsz
  obtain ⟨v0, vs0, d0, ds0, p0, q0, hargs, rfl, rfl, h0, r0⟩ := trodAll_cons hA
  obtain ⟨v1, vs1, d1, ds1, p1, q1, rfl, rfl, rfl, h1, r1⟩ := trodAll_cons r0
  obtain ⟨rfl, rfl, rfl⟩ := trodAll_nil r1
  obtain rfl : args = #[v0, v1] := by cases args; simp_all
  obtain ⟨rfl, rfl⟩ := trodVars_none hV
  have k0 := h0
  have lt0 : ∀ x ∈ p0, x.block < W.heap.size := by obtain ⟨m, hm⟩ := k0; exact DataW.trod_lt m _ _ _ hm
  have k1 := h1
  have lt1 : ∀ x ∈ p1, x.block < W.heap.size := by obtain ⟨m, hm⟩ := k1; exact DataW.trod_lt m _ _ _ hm
  obtain ⟨z0, rfl, _, _, wf0⟩ := open_int Try.underlying5 (hval 0 5 v0 rfl rfl) h0
  have rg0 : 0 ≤ z0 ∧ z0 ≤ 255 := by
    have h := wf0
    simp [Lit.wf, IntKind.min, IntKind.max, IntKind.signed, IntKind.bits] at h
    omega
  obtain ⟨e1, rfl, lo1, hi1⟩ := Try.openEnt (hval 1 25 v1 rfl rfl) h1
  clear hA0 hval0
  refine (fullLaw_w z0 e1 W rg0 lo1 hi1).mono fun e W' ⟨he, bel⟩ => ?_
  subst he
  exact ⟨_, rfl, _, _, _, [], _, [], hW', trodAll_mk1 (shut_bool Try.underlying4 _), (trodAll_cons_mk (Below.trod Try.laidOut (by kernel_rfl) (of_decide_eq_true (by kernel_rfl)) k0 bel lt0) (trodAll_cons_mk (Below.trod Try.laidOut (by kernel_rfl) (of_decide_eq_true (by kernel_rfl)) k1 bel lt1) trodAll_mk0)), rfl, Below.frame bel _, fun h => by cases h⟩

theorem queueFull_holds : Rows.QueueFullSaid :=
  OpenClaim.holds_of_wide 8 Try.f8 rfl rfl rfl rfl rfl rfl rfl ⟨rfl, rfl, rfl, rfl, rfl⟩ rfl rfl rfl rfl rfl (by kernel_rfl) Try.func8 (by kernel_rfl)
    (of_decide_eq_true (by kernel_rfl)) (by unfold Func.isWrapper; first | (rw [if_pos (by decide +kernel)]; kernel_rfl) | (rw [if_neg (by decide +kernel)]; exact ⟨rfl, rfl⟩))
    (fun os started H enc _ => queueFull_lifted os started H enc)

end Go.Proofs.Ytgkjpablofckjaa
